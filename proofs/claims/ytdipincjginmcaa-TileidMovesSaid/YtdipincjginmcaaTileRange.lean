/- The walks of Range and Over. -/
import Derived.Test.YtdipincjginmcaaTileId
namespace Go.Proofs.Ytdipincjginmcaa
open Go.RowKit

def Cv.rB (tz tx ty z : Int) : Bool := Cv.okB tz tx ty && decide (tz ≤ z ∧ z ≤ 26)
def Cv.rf (tz tx ty z : Int) : Int := if Cv.rB tz tx ty z then Cv.bv z + Cv.pv tz tx ty * ((4 ^ (z - tz).toNat : Nat) : Int) else 0
def Cv.rt (tz tx ty z : Int) : Int := if Cv.rB tz tx ty z then Cv.rf tz tx ty z + ((4 ^ (z - tz).toNat : Nat) : Int) - 1 else 0
def Cv.re (tz tx ty z : Int) : Int := if Cv.okB tz tx ty then (if tz ≤ z ∧ z ≤ 26 then 0 else 8) else Cv.pe tz tx ty

theorem Cv.rf_bd (tz tx ty z : Int) : 0 ≤ Cv.rf tz tx ty z ∧ Cv.rf tz tx ty z + ((4 ^ (z - tz).toNat : Nat) : Int) ≤ 18014398509481984 ∨ Cv.rB tz tx ty z = false := by
  rcases Bool.eq_false_or_eq_true (Cv.rB tz tx ty z) with h | h
  · left
    unfold Cv.rf
    rw [if_pos h]
    unfold Cv.rB at h
    rw [Bool.and_eq_true] at h
    obtain ⟨h1, h2⟩ := h
    have h2 := of_decide_eq_true h2
    obtain ⟨n, a, b, rfl, rfl, rfl, hn, ha, hb⟩ := Cv.ok_nat h1
    obtain ⟨m, rfl⟩ := Int.eq_ofNat_of_zero_le (show 0 ≤ z by omega)
    obtain ⟨k, rfl⟩ : ∃ k, m = n + k := ⟨m - n, by omega⟩
    have hl := Cv.place_lt n a b ha hb
    rw [Cv.pv_nat n a b hn ha hb, show (((n + k : Nat) : Int) - (n : Int)).toNat = k by omega]
    have hbv := Cv.bv_bd ((n + k : Nat) : Int)
    have h3 : (Cv.place n a b + 1) * 4 ^ k ≤ 4 ^ n * 4 ^ k := Nat.mul_le_mul_right _ hl
    rw [← Nat.pow_add, Nat.add_mul, Nat.one_mul] at h3
    have h4 := four26 (n + k) (by omega)
    have h5 : ((Cv.place n a b : Nat) : Int) * ((4 ^ k : Nat) : Int) = ((Cv.place n a b * 4 ^ k : Nat) : Int) := by rw [Int.natCast_mul]
    rw [h5]
    omega
  · right; exact h

theorem ipow4 (d : Int) (hd : 0 ≤ d) : (2 : Int) ^ (2 * d).toNat = ((4 ^ d.toNat : Nat) : Int) := by
  rw [show (2 * d).toNat = 2 * d.toNat by omega, Int.pow_mul]
  simp
theorem Cv.rng1 (D V T B0 rf d : Int) (hd : 0 ≤ d) (hT : T - B0 = V) (hV : 0 ≤ V) (hV1 : V < 4503599627370496) (hD : 0 ≤ D) (hrf : rf = D + V * ((4 ^ d.toNat : Nat) : Int)) (hb : rf + ((4 ^ d.toNat : Nat) : Int) ≤ 18014398509481984) :
    IntKind.u64.wrap (D + IntKind.u64.wrap (IntKind.u64.wrap (T - B0) * (2 : Int) ^ (2 * d).toNat)) = rf := by
  rw [hT, u64w hV (by omega), ipow4 d hd]
  have hQ : (0 : Int) ≤ ((4 ^ d.toNat : Nat) : Int) := Int.natCast_nonneg _
  have hM := Int.mul_nonneg hV hQ
  generalize ((4 ^ d.toNat : Nat) : Int) = Q at *
  generalize V * Q = M at *
  rw [u64w hM (by omega), u64w (by omega) (by omega), hrf]
theorem Cv.rng2 (F rf d : Int) (hd : 0 ≤ d) (hF : F = rf) (h0 : 0 ≤ rf) (hb : rf + ((4 ^ d.toNat : Nat) : Int) ≤ 18014398509481984) :
    IntKind.u64.wrap (IntKind.u64.wrap (F + IntKind.u64.wrap ((2 : Int) ^ (2 * d).toNat)) - 1) = rf + ((4 ^ d.toNat : Nat) : Int) - 1 := by
  rw [hF, ipow4 d hd]
  have hQ : (1 : Int) ≤ ((4 ^ d.toNat : Nat) : Int) := by have := Cv.pow_pos4 d.toNat; omega
  generalize ((4 ^ d.toNat : Nat) : Int) = Q at *
  rw [u64w (a := Q) (by omega) (by omega), u64w (a := rf + Q) (by omega) (by omega), u64w (by omega) (by omega)]

set_option maxHeartbeats 400000 in
theorem range_any (tz tx ty z : Int) (w : World) :
    Calls Try.prog 32 #[.agg #[.int .i64 tz, .int .i64 tx, .int .i64 ty], .int .i64 z] w fun e w' => e = .returned (.tuple #[.int .u64 (Cv.rf tz tx ty z), .int .u64 (Cv.rt tz tx ty z), .int .i64 (Cv.re tz tx ty z)]) ∧ Below w.heap.size w w' := by
  rcases Bool.eq_false_or_eq_true (Cv.okB tz tx ty) with h | h
  · have hpe := Cv.pe_ok h
    have hid := Cv.tid_ok h
    obtain ⟨⟨hz0, hz1⟩, hx0, hxl, hy0, hyl⟩ := Cv.ok_in h
    by_cases c : tz ≤ z ∧ z ≤ 26
    · have hB : Cv.rB tz tx ty z = true := by unfold Cv.rB; rw [h, decide_eq_true c]; rfl
      have hbd := (Cv.rf_bd tz tx ty z).resolve_right (by rw [hB]; decide)
      have e3 : Cv.re tz tx ty z = 0 := by unfold Cv.re; rw [h, if_pos rfl, if_pos c]
      have e2 : Cv.rt tz tx ty z = Cv.rf tz tx ty z + ((4 ^ (z - tz).toNat : Nat) : Int) - 1 := by unfold Cv.rt; rw [if_pos hB]
      have e1 : Cv.rf tz tx ty z = Cv.bv z + Cv.pv tz tx ty * ((4 ^ (z - tz).toNat : Nat) : Int) := by unfold Cv.rf; rw [if_pos hB]
      rw [e3, e2]
      obtain ⟨c1, c2⟩ := c
      obtain ⟨q0, q1⟩ := Cv.bv_bd tz
      obtain ⟨q2, q3⟩ := Cv.bv_bd z
      obtain ⟨v0, v1⟩ := Cv.pv_bd tz tx ty
      have ht : Cv.tid tz tx ty - Cv.bv tz = Cv.pv tz tx ty := by rw [hid]; omega
      have HT := Lib.hid ht
      have HE := Lib.hid e1
      clear e1 e2 e3 hB h hid ht hxl hyl
      go_enter Try.func32, Try.ntmps32
      go_wp2_with fail
      refine (id_any _ _ _ _).mono ?_; rintro e w1 ⟨rfl, hb1⟩
      obtain ⟨hA, hs1, hw1⟩ := blk_one hb1
      obtain ⟨⟨a0, a1, a2⟩, _⟩ := blk_cells3 hA
      clear hA
      go_wp2_with fail
      go_quiet ((go_at_call 47; exact quiet_left (base_any _ (by omega) (by omega) _)))
      go_wp2_with fail
      go_quiet (fail)
      go_wp2_with fail
      go_ret3
      all_goals
        all_goals
        have g1 := Cv.rng1 (Cv.bv z) (Cv.pv tz tx ty) (Cv.tid tz tx ty) (Cv.bv tz) (Cv.rf tz tx ty z) (z - tz) (by omega) HT.out v0 v1 q2 HE.out hbd.2
        exact ⟨ret3 g1 (Cv.rng2 _ _ _ (by omega) g1 hbd.1 hbd.2) rfl, bdraws (bdraws hw1 _) _⟩
    · have hB : Cv.rB tz tx ty z = false := by unfold Cv.rB; rw [h, decide_eq_false c]; rfl
      have e1 : Cv.rf tz tx ty z = 0 := by unfold Cv.rf; rw [if_neg (by rw [hB]; decide)]
      have e2 : Cv.rt tz tx ty z = 0 := by unfold Cv.rt; rw [if_neg (by rw [hB]; decide)]
      have e3 : Cv.re tz tx ty z = 8 := by unfold Cv.re; rw [h, if_pos rfl, if_neg c]
      rw [e1, e2, e3]
      clear e1 e2 e3 hB h hid hxl hyl
      have hc : z < tz ∨ (tz ≤ z ∧ 26 < z) := by omega
      clear c
      rcases hc with c | ⟨c, c'⟩
      all_goals
        go_enter Try.func32, Try.ntmps32
        go_wp2_with fail
        refine (id_any _ _ _ _).mono ?_; rintro e w1 ⟨rfl, hb1⟩
        obtain ⟨hA, hs1, hw1⟩ := blk_one hb1
        obtain ⟨⟨a0, a1, a2⟩, _⟩ := blk_cells3 hA
        clear hA
        go_wp2_with fail
        go_ret3
        exact ⟨rfl, hw1⟩
  · have hB : Cv.rB tz tx ty z = false := by unfold Cv.rB; rw [h]; rfl
    have e1 : Cv.rf tz tx ty z = 0 := by unfold Cv.rf; rw [if_neg (by rw [hB]; decide)]
    have e2 : Cv.rt tz tx ty z = 0 := by unfold Cv.rt; rw [if_neg (by rw [hB]; decide)]
    have e3 : Cv.re tz tx ty z = Cv.pe tz tx ty := by unfold Cv.re; rw [h]; rfl
    have hpe : (Cv.pe tz tx ty != 0) = true := by rcases Cv.pe_not h with q | q <;> rw [q] <;> rfl
    rw [e1, e2, e3]
    clear e1 e2 e3 hB h
    go_enter Try.func32, Try.ntmps32
    go_wp2_with fail
    refine (id_any _ _ _ _).mono ?_; rintro e w1 ⟨rfl, hb1⟩
    have hw1 := bthen ((Below.refl w.heap.size w).alloc (Nat.le_refl _) _) hb1
    go_wp2_with fail
    go_ret3
    exact ⟨rfl, hw1⟩

end Go.Proofs.Ytdipincjginmcaa
