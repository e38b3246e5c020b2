/- The walks of Range and Over. -/
import Derived.Test.YtdipincjginmcaaDoorTileId
namespace Go.Proofs.YtdipincjginmcaaDoor
open Go.RowKit

def Cv.rB (tz tx ty z : Int) : Bool := Cv.okB tz tx ty && decide (tz ≤ z ∧ z ≤ 26)
def Cv.rf (tz tx ty z : Int) : Int := if Cv.rB tz tx ty z then Cv.bv z + Cv.pv tz tx ty * ((4 ^ (z - tz).toNat : Nat) : Int) else 0
def Cv.rt (tz tx ty z : Int) : Int := if Cv.rB tz tx ty z then Cv.rf tz tx ty z + ((4 ^ (z - tz).toNat : Nat) : Int) - 1 else 0
def Cv.re (tz tx ty z : Int) : Int := if Cv.okB tz tx ty then (if tz ≤ z ∧ z ≤ 26 then 0 else 8) else Cv.pe tz tx ty

theorem Cv.rf_bd (tz tx ty z : Int) : 0 ≤ Cv.rf tz tx ty z ∧ Cv.rf tz tx ty z + ((4 ^ (z - tz).toNat : Nat) : Int) ≤ 18014398509481984 ∨ Cv.rB tz tx ty z = false := by
  rcases Bool.eq_false_or_eq_true (Cv.rB tz tx ty z) with h | h
  · left
    unfold Cv.rf
    rw [if_pos h]
    unfold Cv.rB at h
    rw [Bool.and_eq_true] at h
    obtain ⟨h1, h2⟩ := h
    have h2 := of_decide_eq_true h2
    obtain ⟨n, a, b, rfl, rfl, rfl, hn, ha, hb⟩ := Cv.ok_nat h1
    obtain ⟨m, rfl⟩ := Int.eq_ofNat_of_zero_le (show 0 ≤ z by omega)
    obtain ⟨k, rfl⟩ : ∃ k, m = n + k := ⟨m - n, by omega⟩
    have hl := Cv.place_lt n a b ha hb
    rw [Cv.pv_nat n a b hn ha hb, show (((n + k : Nat) : Int) - (n : Int)).toNat = k by omega]
    have hbv := Cv.bv_bd ((n + k : Nat) : Int)
    have h3 : (Cv.place n a b + 1) * 4 ^ k ≤ 4 ^ n * 4 ^ k := Nat.mul_le_mul_right _ hl
    rw [← Nat.pow_add, Nat.add_mul, Nat.one_mul] at h3
    have h4 := four26 (n + k) (by omega)
    have h5 : ((Cv.place n a b : Nat) : Int) * ((4 ^ k : Nat) : Int) = ((Cv.place n a b * 4 ^ k : Nat) : Int) := by rw [Int.natCast_mul]
    rw [h5]
    omega
  · right; exact h

theorem ipow4 (d : Int) (hd : 0 ≤ d) : (2 : Int) ^ (2 * d).toNat = ((4 ^ d.toNat : Nat) : Int) := by
  rw [show (2 * d).toNat = 2 * d.toNat by omega, Int.pow_mul]
  simp
theorem Cv.rng1 (D V T B0 rf d : Int) (hd : 0 ≤ d) (hT : T - B0 = V) (hV : 0 ≤ V) (hV1 : V < 4503599627370496) (hD : 0 ≤ D) (hrf : rf = D + V * ((4 ^ d.toNat : Nat) : Int)) (hb : rf + ((4 ^ d.toNat : Nat) : Int) ≤ 18014398509481984) :
    IntKind.u64.wrap (D + IntKind.u64.wrap (IntKind.u64.wrap (T - B0) * (2 : Int) ^ (2 * d).toNat)) = rf := by
  rw [hT, u64w hV (by omega), ipow4 d hd]
  have hQ : (0 : Int) ≤ ((4 ^ d.toNat : Nat) : Int) := Int.natCast_nonneg _
  have hM := Int.mul_nonneg hV hQ
  generalize ((4 ^ d.toNat : Nat) : Int) = Q at *
  generalize V * Q = M at *
  rw [u64w hM (by omega), u64w (by omega) (by omega), hrf]
theorem Cv.rng2 (F rf d : Int) (hd : 0 ≤ d) (hF : F = rf) (h0 : 0 ≤ rf) (hb : rf + ((4 ^ d.toNat : Nat) : Int) ≤ 18014398509481984) :
    IntKind.u64.wrap (IntKind.u64.wrap (F + IntKind.u64.wrap ((2 : Int) ^ (2 * d).toNat)) - 1) = rf + ((4 ^ d.toNat : Nat) : Int) - 1 := by
  rw [hF, ipow4 d hd]
  have hQ : (1 : Int) ≤ ((4 ^ d.toNat : Nat) : Int) := by have := Cv.pow_pos4 d.toNat; omega
  generalize ((4 ^ d.toNat : Nat) : Int) = Q at *
  rw [u64w (a := Q) (by omega) (by omega), u64w (a := rf + Q) (by omega) (by omega), u64w (by omega) (by omega)]

end Go.Proofs.YtdipincjginmcaaDoor
