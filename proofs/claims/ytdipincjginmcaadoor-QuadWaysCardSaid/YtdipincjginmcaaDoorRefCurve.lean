/- The walks of the document's place and point (they call themselves). -/
import Derived.Test.YtdipincjginmcaaDoorKit
import Derived.Test.YtdipincjginmcaaDoorTileMath
namespace Go.Proofs.YtdipincjginmcaaDoor
open Go.RowKit

theorem four26 (n : Nat) (hn : n ≤ 26) : 4 ^ n ≤ 4503599627370496 := by
  have h : 4 ^ n ≤ 4 ^ 26 := Nat.pow_le_pow_right (by omega) hn
  have h4 : (4 : Nat) ^ 26 = 4503599627370496 := by decide
  omega
theorem two26 (n : Nat) (hn : n ≤ 26) : 2 ^ n ≤ 67108864 := by
  have h : 2 ^ n ≤ 2 ^ 26 := Nat.pow_le_pow_right (by omega) hn
  have h4 : (2 : Nat) ^ 26 = 67108864 := by decide
  omega

theorem Cv.place_ll (n x y : Nat) (hx : x < 2 ^ n) (hy : y < 2 ^ n) : Cv.place (n + 1) x y = Cv.place n y x := by rw [Cv.place, if_pos hx, if_pos hy]
theorem Cv.place_lh (n x y : Nat) (hx : x < 2 ^ n) (hy : ¬ y < 2 ^ n) : Cv.place (n + 1) x y = 4 ^ n + Cv.place n x (y - 2 ^ n) := by rw [Cv.place, if_pos hx, if_neg hy]
theorem Cv.place_hh (n x y : Nat) (hx : ¬ x < 2 ^ n) (hy : ¬ y < 2 ^ n) : Cv.place (n + 1) x y = 2 * 4 ^ n + Cv.place n (x - 2 ^ n) (y - 2 ^ n) := by rw [Cv.place, if_neg hx, if_neg hy]
theorem Cv.place_hl (n x y : Nat) (hx : ¬ x < 2 ^ n) (hy : y < 2 ^ n) : Cv.place (n + 1) x y = 3 * 4 ^ n + Cv.place n (2 ^ n - 1 - y) (2 ^ n - 1 - (x - 2 ^ n)) := by rw [Cv.place, if_neg hx, if_pos hy]

set_option maxHeartbeats 800000 in
theorem refplace (n : Nat) : n ≤ 26 → ∀ (N : Nat) (x y : Int) (w : World), N = 2 ^ n → 0 ≤ x → x < N → 0 ≤ y → y < N →
    Calls Tryd.prog 48 #[.int .i64 N, .int .i64 x, .int .i64 y] w fun e w' => e = .returned (.int .u64 (Cv.place n x.toNat y.toNat)) ∧ w = w' := by
  induction n with
  | zero =>
    intro _ N x y w hN _ _ _ _
    subst hN
    go_enter Tryd.func48, Tryd.ntmps48
    go_wp2_with fail
    go_ret
    exact ⟨rfl, rfl⟩
  | succ n ih =>
    intro hn N x y w hN hx0 hx hy0 hy
    obtain ⟨M, hM⟩ : ∃ M : Nat, M = 2 ^ n := ⟨_, rfl⟩
    obtain ⟨A, hA⟩ : ∃ A : Nat, A = 4 ^ n := ⟨_, rfl⟩
    have hN2 : N = 2 * M := by rw [hN, hM, Cv.two_succ]
    subst hN2
    clear hN
    have hM1 : 1 ≤ M := by rw [hM]; exact Cv.pow_pos2 n
    have hMl : M ≤ 67108864 := by rw [hM]; exact two26 n (by omega)
    have hAl : A ≤ 4503599627370496 := by rw [hA]; exact four26 n (by omega)
    have hall : IntKind.u64.wrap ((M : Int) * (M : Int)) = (A : Int) := by
      have e : M * M = A := by rw [hA, hM, Cv.four]
      have e' : ((M : Int) * (M : Int)) = (A : Int) := by rw [← e]; simp
      rw [e', u64w (by omega) (by omega)]
    have ihw := fun (x y : Int) (w : World) h1 h2 h3 h4 => ih (by omega) M x y w hM h1 h2 h3 h4
    have hpl := fun (x y : Nat) h1 h2 => Cv.place_lt n x y h1 h2
    rw [← hM, ← hA] at hpl
    have IH := Lib.hid ihw
    have HM := Lib.hid hM
    have HA := Lib.hid hA
    have HPL := Lib.hid hpl
    clear ih ihw hM hA hpl
    by_cases c1 : x < (M : Int)
    · by_cases c2 : y < (M : Int)
      · go_enter Tryd.func48, Tryd.ntmps48
        go_wp2_with (go_at_call 48; refine (IH.out _ _ _ (by omega) (by omega) (by omega) (by omega)).mono ?_; rintro e w' ⟨rfl, rfl⟩)
        go_ret
        exact ⟨ret1 (by rw [Cv.place_ll n _ _ (by rw [← HM.out]; omega) (by rw [← HM.out]; omega)]), rfl⟩
      · have hp := HPL.out x.toNat (y.toNat - M) (by omega) (by omega)
        have hc2 : (M : Int) ≤ y := by omega
        go_enter Tryd.func48, Tryd.ntmps48
        go_wp2_with (go_at_call 48; refine (IH.out _ _ _ (by omega) (by omega) (by omega) (by omega)).mono ?_; rintro e w' ⟨rfl, rfl⟩)
        go_ret
        exact ⟨ret1 (by rw [Cv.place_lh n _ _ (by rw [← HM.out]; omega) (by rw [← HM.out]; omega), ← HA.out, ← HM.out]; omega), rfl⟩
    · have hc1 : (M : Int) ≤ x := by omega
      by_cases c2 : y < (M : Int)
      · have hp := HPL.out (M - 1 - y.toNat) (M - 1 - (x.toNat - M)) (by omega) (by omega)
        go_enter Tryd.func48, Tryd.ntmps48
        go_wp2_with (go_at_call 48; refine (IH.out _ _ _ (by omega) (by omega) (by omega) (by omega)).mono ?_; rintro e w' ⟨rfl, rfl⟩)
        go_ret
        exact ⟨ret1 (by rw [Cv.place_hl n _ _ (by rw [← HM.out]; omega) (by rw [← HM.out]; omega), ← HA.out, ← HM.out, show ((M : Int) - 1 - y).toNat = M - 1 - y.toNat by omega, show ((M : Int) - 1 - (x - (M : Int))).toNat = M - 1 - (x.toNat - M) by omega, u64w (by omega) (by omega)]; omega), rfl⟩
      · have hp := HPL.out (x.toNat - M) (y.toNat - M) (by omega) (by omega)
        have hc2 : (M : Int) ≤ y := by omega
        go_enter Tryd.func48, Tryd.ntmps48
        go_wp2_with (go_at_call 48; refine (IH.out _ _ _ (by omega) (by omega) (by omega) (by omega)).mono ?_; rintro e w' ⟨rfl, rfl⟩)
        go_ret
        exact ⟨ret1 (by rw [Cv.place_hh n _ _ (by rw [← HM.out]; omega) (by rw [← HM.out]; omega), ← HA.out, ← HM.out]; omega), rfl⟩

theorem Cv.point_succ (n d k : Nat) (hk : k = d / 4 ^ n) (hk4 : k < 4) : Cv.point (n + 1) d = Cv.lay n k (Cv.point n (d % 4 ^ n)).1 (Cv.point n (d % 4 ^ n)).2 := by
  rw [Cv.point, ← hk, Nat.mod_eq_of_lt hk4]

end Go.Proofs.YtdipincjginmcaaDoor
