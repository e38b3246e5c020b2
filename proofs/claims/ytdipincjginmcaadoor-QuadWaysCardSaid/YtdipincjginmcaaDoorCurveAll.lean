/- What curve's and the document's Place, Point, Next give, at every input, by one set of names; the small example. -/
import Derived.Test.YtdipincjginmcaaDoorCurvePlaceOk
import Derived.Test.YtdipincjginmcaaDoorCurvePoint
import Derived.Test.YtdipincjginmcaaDoorRefTop
namespace Go.Proofs.YtdipincjginmcaaDoor
open Go.RowKit

theorem bthen {w w1 w2 : World} (h : Below w.heap.size w w1) (k : Below w1.heap.size w1 w2) : Below w.heap.size w w2 := h.trans (k.mono h.size)
theorem beq_below {w w1 : World} (h : w = w1) : Below w.heap.size w w1 := by subst h; exact Below.refl _ _

def Cv.qok (z d : Int) : Bool := decide (0 ≤ z ∧ z ≤ 26 ∧ d < ((4 ^ z.toNat : Nat) : Int))
def Cv.px (z d : Int) : Int := if Cv.qok z d then (((Cv.point z.toNat d.toNat).1 : Nat) : Int) else 0
def Cv.py (z d : Int) : Int := if Cv.qok z d then (((Cv.point z.toNat d.toNat).2 : Nat) : Int) else 0
def Cv.qe (z d : Int) : Int := if 0 ≤ z ∧ z ≤ 26 then (if Cv.qok z d then 0 else 8) else 2
def Cv.nok (z x y : Int) : Bool := Cv.okB z x y && Cv.qok z (Cv.pv z x y + 1)
def Cv.nx (z x y : Int) : Int := if Cv.nok z x y then Cv.px z (Cv.pv z x y + 1) else 0
def Cv.ny (z x y : Int) : Int := if Cv.nok z x y then Cv.py z (Cv.pv z x y + 1) else 0
def Cv.ne (z x y : Int) : Int := if Cv.okB z x y then (if Cv.qok z (Cv.pv z x y + 1) then 0 else 6) else Cv.pe z x y

theorem Cv.side_in (z : Int) (h : 0 ≤ z ∧ z ≤ 26) : Cv.side z = ((2 ^ z.toNat : Nat) : Int) := by unfold Cv.side; rw [if_pos h]
theorem Cv.ok_in {z x y : Int} (h : Cv.okB z x y = true) : (0 ≤ z ∧ z ≤ 26) ∧ 0 ≤ x ∧ x < ((2 ^ z.toNat : Nat) : Int) ∧ 0 ≤ y ∧ y < ((2 ^ z.toNat : Nat) : Int) := by
  unfold Cv.okB at h
  have := of_decide_eq_true h
  exact ⟨⟨this.1, this.2.1⟩, this.2.2⟩
theorem Cv.ok_out {z x y : Int} (h : Cv.okB z x y = false) (hz : 0 ≤ z ∧ z ≤ 26) : x < 0 ∨ y < 0 ∨ Cv.side z ≤ x ∨ Cv.side z ≤ y := by
  unfold Cv.okB at h
  have := of_decide_eq_false h
  rw [Cv.side_in z hz]
  omega
theorem Cv.ok_mk (z x y : Nat) (hz : z ≤ 26) (hx : x < 2 ^ z) (hy : y < 2 ^ z) : Cv.okB z x y = true := by
  unfold Cv.okB
  exact decide_eq_true (by rw [Int.toNat_natCast]; omega)
theorem Cv.pv_ok {z x y : Int} (h : Cv.okB z x y = true) : Cv.pv z x y = ((Cv.place z.toNat x.toNat y.toNat : Nat) : Int) := by unfold Cv.pv; rw [if_pos h]
theorem Cv.pv_not {z x y : Int} (h : Cv.okB z x y = false) : Cv.pv z x y = 0 := by unfold Cv.pv; rw [if_neg (by simp [h])]
theorem Cv.pe_ok {z x y : Int} (h : Cv.okB z x y = true) : Cv.pe z x y = 0 := by unfold Cv.pe; rw [if_pos (Cv.ok_in h).1, if_pos h]
theorem Cv.pe_not {z x y : Int} (h : Cv.okB z x y = false) : Cv.pe z x y = 8 ∨ Cv.pe z x y = 2 := by
  unfold Cv.pe
  split
  · rw [if_neg (by simp [h])]; exact Or.inl rfl
  · exact Or.inr rfl
theorem Cv.pv_bd (z x y : Int) : 0 ≤ Cv.pv z x y ∧ Cv.pv z x y < 4503599627370496 := by
  unfold Cv.pv
  split
  · rename_i h
    obtain ⟨hz, hx0, hx, hy0, hy⟩ := Cv.ok_in h
    have h1 := Cv.place_lt z.toNat x.toNat y.toNat (by omega) (by omega)
    have h2 := four26 z.toNat (by omega)
    omega
  · omega
theorem Cv.q_in {z d : Int} (h : Cv.qok z d = true) : (0 ≤ z ∧ z ≤ 26) ∧ d < ((4 ^ z.toNat : Nat) : Int) := by
  unfold Cv.qok at h
  have := of_decide_eq_true h
  exact ⟨⟨this.1, this.2.1⟩, this.2.2⟩
theorem Cv.q_out {z d : Int} (h : Cv.qok z d = false) (hz : 0 ≤ z ∧ z ≤ 26) : ((4 ^ z.toNat : Nat) : Int) ≤ d := by
  unfold Cv.qok at h
  have := of_decide_eq_false h
  omega
theorem Cv.qe_ok {z d : Int} (h : Cv.qok z d = true) : Cv.qe z d = 0 := by unfold Cv.qe; rw [if_pos (Cv.q_in h).1, if_pos h]
theorem Cv.qe_not {z d : Int} (h : Cv.qok z d = false) : Cv.qe z d = 8 ∨ Cv.qe z d = 2 := by
  unfold Cv.qe
  split
  · rw [if_neg (by simp [h])]; exact Or.inl rfl
  · exact Or.inr rfl
theorem Cv.px_bd (z d : Int) : (0 ≤ Cv.px z d ∧ Cv.px z d < 67108864) ∧ 0 ≤ Cv.py z d ∧ Cv.py z d < 67108864 := by
  unfold Cv.px Cv.py
  split
  · rename_i h
    obtain ⟨hz, _⟩ := Cv.q_in h
    have h1 := Cv.point_lt z.toNat d.toNat
    have h2 := two26 z.toNat (by omega)
    omega
  · omega

theorem place_any (z x y : Int) (w : World) :
    Calls Tryd.prog 32 #[.int .i64 z, .int .i64 x, .int .i64 y] w fun e w' => e = .returned (.tuple #[.int .u64 (Cv.pv z x y), .int .i64 (Cv.pe z x y)]) ∧ Below w.heap.size w w' := by
  by_cases hz : 0 ≤ z ∧ z ≤ 26
  · rcases Bool.eq_false_or_eq_true (Cv.okB z x y) with h | h
    · rw [Cv.pv_ok h, Cv.pe_ok h]
      obtain ⟨_, hx0, hx, hy0, hy⟩ := Cv.ok_in h
      have hc := place_ok z.toNat x.toNat y.toNat (by omega) (by omega) (by omega) w
      rwa [Int.toNat_of_nonneg hz.1, Int.toNat_of_nonneg hx0, Int.toNat_of_nonneg hy0] at hc
    · have e : Cv.pe z x y = 8 := by unfold Cv.pe; rw [if_pos hz, if_neg (by simp [h])]
      rw [Cv.pv_not h, e]
      exact (place_out z x y hz.1 hz.2 (Cv.ok_out h hz) w).mono fun _ _ h => ⟨h.1, beq_below h.2⟩
  · have h : Cv.okB z x y = false := by unfold Cv.okB; exact decide_eq_false (by omega)
    have e : Cv.pe z x y = 2 := by unfold Cv.pe; rw [if_neg hz]
    rw [Cv.pv_not h, e]
    exact (place_arg z x y hz w).mono fun _ _ h => ⟨h.1, beq_below h.2⟩

theorem refPlace_any (z x y : Int) (w : World) :
    Calls Tryd.prog 34 #[.int .i64 z, .int .i64 x, .int .i64 y] w fun e w' => e = .returned (.tuple #[.int .u64 (Cv.pv z x y), .int .i64 (Cv.pe z x y)]) ∧ w = w' := by
  by_cases hz : 0 ≤ z ∧ z ≤ 26
  · rcases Bool.eq_false_or_eq_true (Cv.okB z x y) with h | h
    · rw [Cv.pv_ok h, Cv.pe_ok h]
      obtain ⟨_, hx0, hx, hy0, hy⟩ := Cv.ok_in h
      have hc := refPlace_ok z.toNat x.toNat y.toNat (by omega) (by omega) (by omega) w
      rwa [Int.toNat_of_nonneg hz.1, Int.toNat_of_nonneg hx0, Int.toNat_of_nonneg hy0] at hc
    · have e : Cv.pe z x y = 8 := by unfold Cv.pe; rw [if_pos hz, if_neg (by simp [h])]
      rw [Cv.pv_not h, e]
      exact (refPlace_out z x y hz.1 hz.2 (Cv.ok_out h hz) w).mono fun _ _ h => ⟨h.1, h.2⟩
  · have h : Cv.okB z x y = false := by unfold Cv.okB; exact decide_eq_false (by omega)
    have e : Cv.pe z x y = 2 := by unfold Cv.pe; rw [if_neg hz]
    rw [Cv.pv_not h, e]
    exact (refPlace_arg z x y hz w).mono fun _ _ h => ⟨h.1, h.2⟩

end Go.Proofs.YtdipincjginmcaaDoor
