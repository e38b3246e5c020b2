/- The walks of ID, Of, Up, lift (tileid's and the document's). -/
import Derived.Test.YtdipincjginmcaaDoorTileBase
import Derived.Test.YtdipincjginmcaaDoorBlk
namespace Go.Proofs.YtdipincjginmcaaDoor
open Go.RowKit

def Cv.tid (z x y : Int) : Int := if Cv.okB z x y then Cv.bv z + Cv.pv z x y else 0
theorem Cv.tid_ok {z x y : Int} (h : Cv.okB z x y = true) : Cv.tid z x y = Cv.bv z + Cv.pv z x y := by unfold Cv.tid; rw [if_pos h]
theorem Cv.tid_not {z x y : Int} (h : Cv.okB z x y = false) : Cv.tid z x y = 0 := by unfold Cv.tid; rw [if_neg (by simp [h])]

def Cv.oz (id : Int) : Int := if id < 6004799503160661 then Cv.zv id else 0
def Cv.ox (id : Int) : Int := if id < 6004799503160661 then Cv.px (Cv.zv id) (id - Cv.bv (Cv.zv id)) else 0
def Cv.oy (id : Int) : Int := if id < 6004799503160661 then Cv.py (Cv.zv id) (id - Cv.bv (Cv.zv id)) else 0
def Cv.oe (id : Int) : Int := if id < 6004799503160661 then 0 else 8

def Cv.upB (z x y : Int) : Bool := Cv.okB z x y && decide (0 < z)
def Cv.uz (z x y : Int) : Int := if Cv.upB z x y then z - 1 else 0
def Cv.ux (z x y : Int) : Int := if Cv.upB z x y then x / 2 else 0
def Cv.uy (z x y : Int) : Int := if Cv.upB z x y then y / 2 else 0
def Cv.ue (z x y : Int) : Int := if Cv.okB z x y then (if 0 < z then 0 else 6) else Cv.pe z x y

/-- what an identifier below Count gives -/
theorem Cv.zv_in {id : Int} (h0 : 0 ≤ id) (h : id < 6004799503160661) : 0 ≤ Cv.zv id ∧ Cv.zv id ≤ 26 ∧ Cv.bv (Cv.zv id) ≤ id ∧ Cv.qok (Cv.zv id) (id - Cv.bv (Cv.zv id)) = true := by
  have e : Cv.zv id = ((Cv.zm id.toNat : Nat) : Int) := by unfold Cv.zv; rw [if_pos h]
  have hz := Cv.zm_le id.toNat (by rw [Cv.bs27]; omega)
  obtain ⟨s1, s2⟩ := Cv.zm_spec id.toNat
  rw [Cv.bs_succ] at s2
  rw [e, Cv.bv_nat _ (by omega)]
  refine ⟨by omega, by omega, by omega, ?_⟩
  have e2 : id - (Cv.bs (Cv.zm id.toNat) : Int) = ((id.toNat - Cv.bs (Cv.zm id.toNat) : Nat) : Int) := by omega
  rw [e2]
  exact Cv.q_mk _ _ hz (by omega)

theorem id_any (z x y : Int) (w : World) :
    Calls Tryd.prog 25 #[.agg #[.int .i64 z, .int .i64 x, .int .i64 y]] w fun e w' => e = .returned (.tuple #[.int .u64 (Cv.tid z x y), .int .i64 (Cv.pe z x y)]) ∧ Below w.heap.size w w' := by
  obtain ⟨hv0, hv1⟩ := Cv.pv_bd z x y
  obtain ⟨hq0, hq1⟩ := Cv.bv_bd z
  rcases Bool.eq_false_or_eq_true (Cv.okB z x y) with h | h
  · have hpe := Cv.pe_ok h
    have hz0 := (Cv.ok_in h).1.1
    have hz1 := (Cv.ok_in h).1.2
    rw [Cv.tid_ok h, hpe]
    clear h
    go_enter Tryd.func25, Tryd.ntmps25
    go_wp2_with fail
    refine (place_any _ _ _ _).mono ?_; rintro e w1 ⟨rfl, hb1⟩
    obtain ⟨hc, hf⟩ := bcell hb1
    go_wp2_with fail
    refine (base_any _ hz0 (by omega) _).mono ?_; rintro e w2 ⟨rfl, rfl⟩
    go_wp2_with fail
    go_ret2
    exact ⟨rfl, bthen ((Below.refl _ _).alloc (Nat.le_refl _) _) hb1⟩
  · have hpe : (Cv.pe z x y != 0) = true := by rcases Cv.pe_not h with q | q <;> rw [q] <;> rfl
    rw [Cv.tid_not h]
    clear h
    go_enter Tryd.func25, Tryd.ntmps25
    go_wp2_with fail
    refine (place_any _ _ _ _).mono ?_; rintro e w1 ⟨rfl, hb1⟩
    go_wp2_with fail
    go_ret2
    exact ⟨rfl, bthen ((Below.refl _ _).alloc (Nat.le_refl _) _) hb1⟩

theorem refid_any (z x y : Int) (w : World) :
    Calls Tryd.prog 26 #[.agg #[.int .i64 z, .int .i64 x, .int .i64 y]] w fun e w' => e = .returned (.tuple #[.int .u64 (Cv.tid z x y), .int .i64 (Cv.pe z x y)]) ∧ Below w.heap.size w w' := by
  obtain ⟨hv0, hv1⟩ := Cv.pv_bd z x y
  obtain ⟨hq0, hq1⟩ := Cv.bv_bd z
  rcases Bool.eq_false_or_eq_true (Cv.okB z x y) with h | h
  · have hpe := Cv.pe_ok h
    have hz0 := (Cv.ok_in h).1.1
    have hz1 := (Cv.ok_in h).1.2
    rw [Cv.tid_ok h, hpe]
    clear h
    go_enter Tryd.func26, Tryd.ntmps26
    go_wp2_with fail
    refine (refPlace_any _ _ _ _).mono ?_; rintro e w1 ⟨rfl, rfl⟩
    go_wp2_with fail
    refine (refBase_any _ _).mono ?_; rintro e w2 ⟨rfl, rfl⟩
    go_wp2_with fail
    go_ret2
    exact ⟨rfl, (Below.refl _ _).alloc (Nat.le_refl _) _⟩
  · have hpe : (Cv.pe z x y != 0) = true := by rcases Cv.pe_not h with q | q <;> rw [q] <;> rfl
    rw [Cv.tid_not h]
    clear h
    go_enter Tryd.func26, Tryd.ntmps26
    go_wp2_with fail
    refine (refPlace_any _ _ _ _).mono ?_; rintro e w1 ⟨rfl, rfl⟩
    go_wp2_with fail
    go_ret2
    exact ⟨rfl, (Below.refl _ _).alloc (Nat.le_refl _) _⟩

theorem lift_any (z x y n : Int) (hz0 : 0 ≤ z) (hz1 : z ≤ 26) (h0 : 0 ≤ n) (h1 : n ≤ z) (w : World) :
    Calls Tryd.prog 31 #[.agg #[.int .i64 z, .int .i64 x, .int .i64 y], .int .i64 n] w fun e w' => e = .returned (.agg #[.int .i64 (z - n), .int .i64 (x / 2 ^ n.toNat), .int .i64 (y / 2 ^ n.toNat)]) ∧ Below w.heap.size w w' := by
  go_enter Tryd.func31, Tryd.ntmps31
  go_wp2_with fail
  go_region
  all_goals
    go_wp2_with fail
    exact bodyPost_ret (v := .agg #[.int .i64 (z - n), .int .i64 (x / 2 ^ n.toNat), .int .i64 (y / 2 ^ n.toNat)]) (by simp [results, Tryd.results31, go_sem]) rfl ⟨rfl, (by repeat (first | with_reducible exact Below.refl _ _ | with_reducible assumption | with_reducible refine Below.setCell ?_ (by first | (simp; done) | (simp; omega) | omega) _ | with_reducible refine Below.alloc ?_ (by first | exact Nat.le_refl _ | (simp; done) | (simp; omega) | omega) _ | with_reducible refine Below.drew ?_))⟩

end Go.Proofs.YtdipincjginmcaaDoor
