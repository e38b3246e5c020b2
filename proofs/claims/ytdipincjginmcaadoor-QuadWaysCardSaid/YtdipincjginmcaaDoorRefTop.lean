/- The walks of the document's Side, Place and Point. -/
import Derived.Test.YtdipincjginmcaaDoorRefCurve
import Derived.Test.YtdipincjginmcaaDoorCurvePlace
namespace Go.Proofs.YtdipincjginmcaaDoor
open Go.RowKit

theorem refside_any (z : Int) (w : World) :
    Calls Tryd.prog 47 #[.int .i64 z] w fun e w' => e = .returned (.int .i64 (Cv.side z)) ∧ w = w' := by
  by_cases h0 : z < 0
  · go_enter Tryd.func47, Tryd.ntmps47
    go_wp2
    go_ret
    exact ⟨ret1 (by unfold Cv.side; rw [if_neg (by omega)]), rfl⟩
  · by_cases h1 : 26 < z
    · go_enter Tryd.func47, Tryd.ntmps47
      go_wp2
      go_ret
      exact ⟨ret1 (by unfold Cv.side; rw [if_neg (by omega)]), rfl⟩
    · have h0' : 0 ≤ z := by omega
      have h1' : z ≤ 26 := by omega
      have hs : Cv.side z = ((2 ^ z.toNat : Nat) : Int) := by unfold Cv.side; rw [if_pos ⟨h0', h1'⟩]
      have HS := Lib.hid hs
      clear hs h0 h1
      obtain ⟨m, rfl⟩ := Int.eq_ofNat_of_zero_le h0'
      rw [Int.toNat_natCast] at HS
      go_enter Tryd.func47, Tryd.ntmps47
      go_wp2
      go_loop [3, 4] (fun cn ci => ∃ k n : Nat, k ≤ m ∧ ci = .int .i64 k ∧ cn = .int .i64 n ∧ n = 2 ^ k ∧ n ≤ 67108864) (fun _ ci => m - (intOf ci).toNat)
      case atStart => exact ⟨0, 1, Nat.zero_le _, rfl, rfl, rfl, by omega⟩
      case round =>
        obtain ⟨k, n, hk, rfl, rfl, hn, hnl⟩ := hrel
        have HN := Lib.hid hn
        clear hn
        by_cases hlt : k < m
        · have hn2 : 2 * n = 2 ^ (k + 1) ∧ 2 * n ≤ 67108864 := by
            have := two26 (k + 1) (by omega)
            have := Cv.two_succ k
            have := HN.out
            omega
          have HN2 := Lib.hid hn2
          clear hn2
          go_wp2
          go_round
          case rel => exact ⟨k + 1, 2 * n, by omega, by go_num, by go_num, HN2.out⟩
          case measure => simp [intOf]; omega
        · have hkm : k = m := by omega
          have he : (n : Int) = Cv.side m := by rw [HS.out, HN.out, hkm]
          have HE := Lib.hid he
          clear hkm he
          go_wp2
          go_ret
          exact ⟨ret1 HE.out, rfl⟩

theorem refPlace_arg (z x y : Int) (h : ¬ (0 ≤ z ∧ z ≤ 26)) (w : World) :
    Calls Tryd.prog 34 #[.int .i64 z, .int .i64 x, .int .i64 y] w fun e w' => e = .returned (.tuple #[.int .u64 0, .int .i64 2]) ∧ w = w' := by
  have hs : Cv.side z = 0 := by unfold Cv.side; rw [if_neg h]
  go_enter Tryd.func34, Tryd.ntmps34
  go_wp2_with (go_at_call 47; refine (refside_any _ _).mono ?_; rintro e w' ⟨rfl, rfl⟩)
  go_ret2
  exact ⟨rfl, rfl⟩

theorem refPlace_out (z x y : Int) (h0 : 0 ≤ z) (h1 : z ≤ 26) (h : x < 0 ∨ y < 0 ∨ Cv.side z ≤ x ∨ Cv.side z ≤ y) (w : World) :
    Calls Tryd.prog 34 #[.int .i64 z, .int .i64 x, .int .i64 y] w fun e w' => e = .returned (.tuple #[.int .u64 0, .int .i64 8]) ∧ w = w' := by
  have hs : 0 < Cv.side z := by unfold Cv.side; rw [if_pos ⟨h0, h1⟩]; have := Cv.pow_pos2 z.toNat; omega
  by_cases c1 : x < 0
  · go_enter Tryd.func34, Tryd.ntmps34
    go_wp2_with (go_at_call 47; refine (refside_any _ _).mono ?_; rintro e w' ⟨rfl, rfl⟩)
    go_ret2
    exact ⟨rfl, rfl⟩
  · by_cases c3 : Cv.side z ≤ x
    · go_enter Tryd.func34, Tryd.ntmps34
      go_wp2_with (go_at_call 47; refine (refside_any _ _).mono ?_; rintro e w' ⟨rfl, rfl⟩)
      go_ret2
      exact ⟨rfl, rfl⟩
    · by_cases c2 : y < 0
      · go_enter Tryd.func34, Tryd.ntmps34
        go_wp2_with (go_at_call 47; refine (refside_any _ _).mono ?_; rintro e w' ⟨rfl, rfl⟩)
        go_ret2
        exact ⟨rfl, rfl⟩
      · have c4 : Cv.side z ≤ y := by omega
        go_enter Tryd.func34, Tryd.ntmps34
        go_wp2_with (go_at_call 47; refine (refside_any _ _).mono ?_; rintro e w' ⟨rfl, rfl⟩)
        go_ret2
        exact ⟨rfl, rfl⟩

theorem refPlace_ok (z x y : Nat) (hz : z ≤ 26) (hx : x < 2 ^ z) (hy : y < 2 ^ z) (w : World) :
    Calls Tryd.prog 34 #[.int .i64 z, .int .i64 x, .int .i64 y] w fun e w' => e = .returned (.tuple #[.int .u64 (Cv.place z x y), .int .i64 0]) ∧ w = w' := by
  obtain ⟨N, hN⟩ : ∃ N : Nat, N = 2 ^ z := ⟨_, rfl⟩
  have hs : Cv.side z = (N : Int) := by unfold Cv.side; rw [if_pos (by omega), hN]; simp
  have h1 : 1 ≤ N := by rw [hN]; exact Cv.pow_pos2 z
  rw [← hN] at hx hy
  have hp := refplace z hz N x y
  simp only [Int.toNat_natCast] at hp
  have HP := Lib.hid (fun w => hp w hN (by omega) (by omega) (by omega) (by omega))
  clear hN hp
  go_enter Tryd.func34, Tryd.ntmps34
  go_wp2_with (first | (go_at_call 47; refine (refside_any _ _).mono ?_; rintro e w' ⟨rfl, rfl⟩) | (go_at_call 48; refine (HP.out _).mono ?_; rintro e w' ⟨rfl, rfl⟩))
  go_ret2
  exact ⟨rfl, rfl⟩

end Go.Proofs.YtdipincjginmcaaDoor
