/- The walks of Key, the program's and the document's. -/
import Derived.Test.YtdipincjginmcaaDoorQuadParse
namespace Go.Proofs.YtdipincjginmcaaDoor
open Go.RowKit

def Qs.key (z x y : Int) : ByteArray := if Cv.okB z x y = true then Qs.kt (Qk.kd z.toNat x.toNat y.toNat) else ⟨#[]⟩
def KeyR (z x y : Int) (e : Ending) : Prop := e = .returned (.tuple #[.string (Qs.key z x y), .int .i64 (Cv.pe z x y)])
theorem Qs.kt_snoc (l : List Nat) (d : Nat) : Qs.kt l ++ ⟨#[UInt8.ofNat (48 + d)]⟩ = Qs.kt (l ++ [d]) := by
  unfold Qs.kt
  apply ByteArray.ext
  rw [ByteArray.data_append]
  simp

theorem rets {a b : ByteArray} {c : Int} (h : a = b) : Ending.returned (.tuple #[.string a, .int .i64 c]) = .returned (.tuple #[.string b, .int .i64 c]) := by rw [h]
theorem dig_ext : (⟨#[48, 49, 50, 51]⟩ : ByteArray).extract 0 1 = ⟨#[UInt8.ofNat (48 + 0)]⟩ ∧ (⟨#[48, 49, 50, 51]⟩ : ByteArray).extract 1 2 = ⟨#[UInt8.ofNat (48 + 1)]⟩ ∧ (⟨#[48, 49, 50, 51]⟩ : ByteArray).extract 2 3 = ⟨#[UInt8.ofNat (48 + 2)]⟩ ∧ (⟨#[48, 49, 50, 51]⟩ : ByteArray).extract 3 4 = ⟨#[UInt8.ofNat (48 + 3)]⟩ := by decide +kernel
set_option maxRecDepth 100000 in
set_option maxHeartbeats 2000000 in
theorem refkey_ok (n : Nat) : ∀ (x y : Nat) (w : World), n ≤ 26 → x < 2 ^ n → y < 2 ^ n →
    Calls Tryd.prog 10 #[.agg #[.int .i64 (n : Int), .int .i64 (x : Int), .int .i64 (y : Int)]] w fun e w' => e = .returned (.tuple #[.string (Qs.kt (Qk.kd n x y)), .int .i64 0]) ∧ Below w.heap.size w w' := by
  induction n with
  | zero =>
    intro x y w hn hx hy
    simp at hx hy
    subst hx hy
    have hpe := Cv.pe_ok (Cv.ok_mk 0 0 0 (by omega) (by decide) (by decide))
    have HPE := Lib.hid hpe
    clear hpe
    go_enter Tryd.func10, Tryd.ntmps10
    go_wp2_with fail
    refine (refid_any _ _ _ _).mono ?_; rintro e w1 ⟨he, hb⟩
    rw [show Cv.pe 0 0 0 = 0 from HPE.out] at he
    subst he
    obtain ⟨c0, c1, c2⟩ := (blk_cells3 (blk_one hb).1).1
    have hw := (blk_one hb).2.2
    clear hb
    go_wp2_with fail
    go_ret2
    exact ⟨rfl, hw⟩
  | succ n ih =>
    intro x y w hn hx hy
    have hok := Cv.ok_mk (n + 1) x y hn hx hy
    have hpe := Cv.pe_ok hok
    rw [Nat.pow_succ] at hx hy
    have ih' : ∀ w, Calls Tryd.prog 10 #[.agg #[.int .i64 (n : Int), .int .i64 ((x : Int) / 2), .int .i64 ((y : Int) / 2)]] w fun e w' => e = .returned (.tuple #[.string (Qs.kt (Qk.kd n (x / 2) (y / 2))), .int .i64 0]) ∧ Below w.heap.size w w' := fun w => by
      have h := ih (x / 2) (y / 2) w (by omega) (by omega) (by omega)
      rwa [show ((x / 2 : Nat) : Int) = (x : Int) / 2 by omega, show ((y / 2 : Nat) : Int) = (y : Int) / 2 by omega] at h
    have hpw := Nat.pow_le_pow_right (n := 2) (by omega) (show n ≤ 25 by omega)
    have hx1 : (x : Int) < 67108864 := by simp at hpw; omega
    have hy1 : (y : Int) < 67108864 := by simp at hpw; omega
    have HPE : Hid (Cv.pe ((n : Int) + 1) x y = 0) := Lib.hid (by have h := hpe; simpa using h)
    have HIH := Lib.hid ih'
    have hsz : (Qs.kt (Qk.kd n (x / 2) (y / 2))).size = n := by rw [Qs.kt_size, Qk.kd_len]
    have hkd : Qk.kd (n + 1) x y = Qk.kd n (x / 2) (y / 2) ++ [x % 2 + 2 * (y % 2)] := rfl
    rw [hkd]
    have hz0 : (((n : Int) + 1) == 0) = false := by rw [beq_eq_false_iff_ne]; omega
    have hn1 : (n : Int) ≤ 25 := by omega
    have hn0 : (0 : Int) ≤ (n : Int) := by omega
    have hx0 : (0 : Int) ≤ (x : Int) := by omega
    have hy0 : (0 : Int) ≤ (y : Int) := by omega
    have HN := Lib.hid hn
    obtain ⟨l, hl⟩ : ∃ l, l = Qk.kd n (x / 2) (y / 2) := ⟨_, rfl⟩
    rw [← hl] at HIH hsz ⊢
    clear ih ih' hok hpe hx hy hpw hkd hl hn
    have hcx : ((x : Int) % 2 = 0 ∧ x % 2 = 0) ∨ ((x : Int) % 2 = 1 ∧ x % 2 = 1) := by omega
    have hcy : ((y : Int) % 2 = 0 ∧ y % 2 = 0) ∨ ((y : Int) % 2 = 1 ∧ y % 2 = 1) := by omega
    rcases hcx with ⟨ex, hx2⟩ | ⟨ex, hx2⟩ <;> rcases hcy with ⟨ey, hy2⟩ | ⟨ey, hy2⟩
    all_goals
      have HX2 := Lib.hid hx2
      have HY2 := Lib.hid hy2
      clear hx2 hy2
      push_cast
      go_enter Tryd.func10, Tryd.ntmps10
      go_wp2_with fail
      refine (refid_any _ _ _ _).mono ?_; rintro e w1 ⟨he, hb⟩
      rw [HPE.out] at he
      subst he
      have HB := Lib.hid (blk_one hb).1
      obtain ⟨c0, c1, c2⟩ := (blk_cells3 HB.out).1
      have hw := (blk_one hb).2.2
      clear hb
      go_wp2_with fail
      refine (HIH.out _).mono ?_; rintro e w2 ⟨rfl, hb⟩
      replace HB := Lib.hid (blk_keep2 hb HB.out)
      replace hw := bthen2 hb hw
      clear hb c0 c1 c2
      obtain ⟨c0, c1, c2⟩ := (blk_cells3 HB.out).1
      go_wp2_with fail
      go_ret2
      refine ⟨rets ?_, hw⟩
      rw [HX2.out, HY2.out]
      first | exact (congrArg (Qs.kt l ++ ·) dig_ext.1).trans (Qs.kt_snoc l 0) | exact (congrArg (Qs.kt l ++ ·) dig_ext.2.1).trans (Qs.kt_snoc l 1) | exact (congrArg (Qs.kt l ++ ·) dig_ext.2.2.1).trans (Qs.kt_snoc l 2) | exact (congrArg (Qs.kt l ++ ·) dig_ext.2.2.2).trans (Qs.kt_snoc l 3)

theorem refkey_any (z x y : Int) (w : World) :
    Calls Tryd.prog 10 #[.agg #[.int .i64 z, .int .i64 x, .int .i64 y]] w fun e w' => KeyR z x y e ∧ Below w.heap.size w w' := by
  rcases Bool.eq_false_or_eq_true (Cv.okB z x y) with h | h
  · obtain ⟨⟨hz0, hz1⟩, hx0, hx1, hy0, hy1⟩ := Cv.ok_in h
    have hk := refkey_ok z.toNat x.toNat y.toNat w (by omega) (by omega) (by omega)
    rw [Int.toNat_of_nonneg hz0, Int.toNat_of_nonneg hx0, Int.toNat_of_nonneg hy0] at hk
    refine hk.mono fun e w' ⟨he, hb⟩ => ⟨?_, hb⟩
    unfold KeyR Qs.key
    rw [if_pos h, Cv.pe_ok h]
    exact he
  · have hpe : (Cv.pe z x y != 0) = true := by rcases Cv.pe_not h with q | q <;> rw [q] <;> rfl
    have HK : Hid (KeyR z x y (.returned (.tuple #[.string ⟨#[]⟩, .int .i64 (Cv.pe z x y)]))) := Lib.hid (by unfold KeyR Qs.key; rw [if_neg (by simp [h])])
    clear h
    go_enter Tryd.func10, Tryd.ntmps10
    go_wp2_with fail
    refine (refid_any _ _ _ _).mono ?_; rintro e w1 ⟨rfl, hb⟩
    have hw := (blk_one hb).2.2
    clear hb
    go_wp2_with fail
    go_ret2
    exact ⟨HK.out, hw⟩
end Go.Proofs.YtdipincjginmcaaDoor
