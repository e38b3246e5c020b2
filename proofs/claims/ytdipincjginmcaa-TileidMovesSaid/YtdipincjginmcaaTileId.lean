/- The walks of ID, Of, Up, lift (tileid's and the document's). -/
import Derived.Test.YtdipincjginmcaaTileBase
import Derived.Test.YtdipincjginmcaaBlk
namespace Go.Proofs.Ytdipincjginmcaa
open Go.RowKit

def Cv.tid (z x y : Int) : Int := if Cv.okB z x y then Cv.bv z + Cv.pv z x y else 0
theorem Cv.tid_ok {z x y : Int} (h : Cv.okB z x y = true) : Cv.tid z x y = Cv.bv z + Cv.pv z x y := by unfold Cv.tid; rw [if_pos h]
theorem Cv.tid_not {z x y : Int} (h : Cv.okB z x y = false) : Cv.tid z x y = 0 := by unfold Cv.tid; rw [if_neg (by simp [h])]

def Cv.oz (id : Int) : Int := if id < 6004799503160661 then Cv.zv id else 0
def Cv.ox (id : Int) : Int := if id < 6004799503160661 then Cv.px (Cv.zv id) (id - Cv.bv (Cv.zv id)) else 0
def Cv.oy (id : Int) : Int := if id < 6004799503160661 then Cv.py (Cv.zv id) (id - Cv.bv (Cv.zv id)) else 0
def Cv.oe (id : Int) : Int := if id < 6004799503160661 then 0 else 8

def Cv.upB (z x y : Int) : Bool := Cv.okB z x y && decide (0 < z)
def Cv.uz (z x y : Int) : Int := if Cv.upB z x y then z - 1 else 0
def Cv.ux (z x y : Int) : Int := if Cv.upB z x y then x / 2 else 0
def Cv.uy (z x y : Int) : Int := if Cv.upB z x y then y / 2 else 0
def Cv.ue (z x y : Int) : Int := if Cv.okB z x y then (if 0 < z then 0 else 6) else Cv.pe z x y

/-- what an identifier below Count gives -/
theorem Cv.zv_in {id : Int} (h0 : 0 ≤ id) (h : id < 6004799503160661) : 0 ≤ Cv.zv id ∧ Cv.zv id ≤ 26 ∧ Cv.bv (Cv.zv id) ≤ id ∧ Cv.qok (Cv.zv id) (id - Cv.bv (Cv.zv id)) = true := by
  have e : Cv.zv id = ((Cv.zm id.toNat : Nat) : Int) := by unfold Cv.zv; rw [if_pos h]
  have hz := Cv.zm_le id.toNat (by rw [Cv.bs27]; omega)
  obtain ⟨s1, s2⟩ := Cv.zm_spec id.toNat
  rw [Cv.bs_succ] at s2
  rw [e, Cv.bv_nat _ (by omega)]
  refine ⟨by omega, by omega, by omega, ?_⟩
  have e2 : id - (Cv.bs (Cv.zm id.toNat) : Int) = ((id.toNat - Cv.bs (Cv.zm id.toNat) : Nat) : Int) := by omega
  rw [e2]
  exact Cv.q_mk _ _ hz (by omega)

theorem id_any (z x y : Int) (w : World) :
    Calls Try.prog 23 #[.agg #[.int .i64 z, .int .i64 x, .int .i64 y]] w fun e w' => e = .returned (.tuple #[.int .u64 (Cv.tid z x y), .int .i64 (Cv.pe z x y)]) ∧ Below w.heap.size w w' := by
  obtain ⟨hv0, hv1⟩ := Cv.pv_bd z x y
  obtain ⟨hq0, hq1⟩ := Cv.bv_bd z
  rcases Bool.eq_false_or_eq_true (Cv.okB z x y) with h | h
  · have hpe := Cv.pe_ok h
    have hz0 := (Cv.ok_in h).1.1
    have hz1 := (Cv.ok_in h).1.2
    rw [Cv.tid_ok h, hpe]
    clear h
    go_enter Try.func23, Try.ntmps23
    go_wp2_with fail
    refine (place_any _ _ _ _).mono ?_; rintro e w1 ⟨rfl, hb1⟩
    obtain ⟨hc, hf⟩ := bcell hb1
    go_wp2_with fail
    refine (base_any _ hz0 (by omega) _).mono ?_; rintro e w2 ⟨rfl, rfl⟩
    go_wp2_with fail
    go_ret2
    exact ⟨rfl, bthen ((Below.refl _ _).alloc (Nat.le_refl _) _) hb1⟩
  · have hpe : (Cv.pe z x y != 0) = true := by rcases Cv.pe_not h with q | q <;> rw [q] <;> rfl
    rw [Cv.tid_not h]
    clear h
    go_enter Try.func23, Try.ntmps23
    go_wp2_with fail
    refine (place_any _ _ _ _).mono ?_; rintro e w1 ⟨rfl, hb1⟩
    go_wp2_with fail
    go_ret2
    exact ⟨rfl, bthen ((Below.refl _ _).alloc (Nat.le_refl _) _) hb1⟩

theorem refid_any (z x y : Int) (w : World) :
    Calls Try.prog 24 #[.agg #[.int .i64 z, .int .i64 x, .int .i64 y]] w fun e w' => e = .returned (.tuple #[.int .u64 (Cv.tid z x y), .int .i64 (Cv.pe z x y)]) ∧ Below w.heap.size w w' := by
  obtain ⟨hv0, hv1⟩ := Cv.pv_bd z x y
  obtain ⟨hq0, hq1⟩ := Cv.bv_bd z
  rcases Bool.eq_false_or_eq_true (Cv.okB z x y) with h | h
  · have hpe := Cv.pe_ok h
    have hz0 := (Cv.ok_in h).1.1
    have hz1 := (Cv.ok_in h).1.2
    rw [Cv.tid_ok h, hpe]
    clear h
    go_enter Try.func24, Try.ntmps24
    go_wp2_with fail
    refine (refPlace_any _ _ _ _).mono ?_; rintro e w1 ⟨rfl, rfl⟩
    go_wp2_with fail
    refine (refBase_any _ _).mono ?_; rintro e w2 ⟨rfl, rfl⟩
    go_wp2_with fail
    go_ret2
    exact ⟨rfl, (Below.refl _ _).alloc (Nat.le_refl _) _⟩
  · have hpe : (Cv.pe z x y != 0) = true := by rcases Cv.pe_not h with q | q <;> rw [q] <;> rfl
    rw [Cv.tid_not h]
    clear h
    go_enter Try.func24, Try.ntmps24
    go_wp2_with fail
    refine (refPlace_any _ _ _ _).mono ?_; rintro e w1 ⟨rfl, rfl⟩
    go_wp2_with fail
    go_ret2
    exact ⟨rfl, (Below.refl _ _).alloc (Nat.le_refl _) _⟩

theorem of_any (id : Int) (h0 : 0 ≤ id) (h2 : id ≤ 18446744073709551615) (w : World) :
    Calls Try.prog 25 #[.int .u64 id] w fun e w' => e = .returned (.tuple #[.agg #[.int .i64 (Cv.oz id), .int .i64 (Cv.ox id), .int .i64 (Cv.oy id)], .int .i64 (Cv.oe id)]) ∧ Below w.heap.size w w' := by
  by_cases h1 : id < 6004799503160661
  · obtain ⟨hz0, hz1, hbl, hq⟩ := Cv.zv_in h0 h1
    have e1 : Cv.oz id = Cv.zv id := by unfold Cv.oz; rw [if_pos h1]
    have e2 : Cv.ox id = Cv.px (Cv.zv id) (id - Cv.bv (Cv.zv id)) := by unfold Cv.ox; rw [if_pos h1]
    have e3 : Cv.oy id = Cv.py (Cv.zv id) (id - Cv.bv (Cv.zv id)) := by unfold Cv.oy; rw [if_pos h1]
    have e4 : Cv.oe id = 0 := by unfold Cv.oe; rw [if_pos h1]
    have hqe := Cv.qe_ok hq
    obtain ⟨hq0, hq1⟩ := Cv.bv_bd (Cv.zv id)
    rw [e1, e2, e3, e4]
    clear e1 e2 e3 e4 hq
    go_enter Try.func25, Try.ntmps25
    go_wp2_with fail
    refine (zoom_any _ h0 _).mono ?_; rintro e w1 ⟨rfl, rfl⟩
    go_wp2_with fail
    refine (base_any _ hz0 (by omega) _).mono ?_; rintro e w2 ⟨rfl, rfl⟩
    go_wp2_with fail
    refine (point_any _ _ (by omega) _).mono ?_; rintro e w3 ⟨rfl, hb3⟩
    obtain ⟨hc, hf⟩ := bcell hb3
    have hw3 := bthen ((Below.refl w.heap.size w).alloc (Nat.le_refl _) _) hb3
    have hs3 := hb3.size
    simp at hs3
    go_wp2_with fail
    exact bodyPost_ret (v := .tuple #[.agg #[.int .i64 (Cv.zv id), .int .i64 (Cv.px (Cv.zv id) (id - Cv.bv (Cv.zv id))), .int .i64 (Cv.py (Cv.zv id) (id - Cv.bv (Cv.zv id)))], .int .i64 0]) (by simp [results, Try.results25, go_sem, hc]) rfl ⟨rfl, (by repeat (first | with_reducible exact Below.refl _ _ | with_reducible assumption | with_reducible refine Below.setCell ?_ (by first | (simp; done) | (simp; omega) | omega) _ | with_reducible refine Below.alloc ?_ (by first | exact Nat.le_refl _ | (simp; done) | (simp; omega) | omega) _ | with_reducible refine Below.drew ?_))⟩
  · have e0 : Cv.zv id = -1 := by unfold Cv.zv; rw [if_neg h1]
    have e1 : Cv.oz id = 0 := by unfold Cv.oz; rw [if_neg h1]
    have e2 : Cv.ox id = 0 := by unfold Cv.ox; rw [if_neg h1]
    have e3 : Cv.oy id = 0 := by unfold Cv.oy; rw [if_neg h1]
    have e4 : Cv.oe id = 8 := by unfold Cv.oe; rw [if_neg h1]
    rw [e1, e2, e3, e4]
    clear e1 e2 e3 e4
    go_enter Try.func25, Try.ntmps25
    go_wp2_with fail
    refine (zoom_any _ h0 _).mono ?_; rintro e w1 ⟨rfl, rfl⟩
    go_wp2_with fail
    exact bodyPost_ret (v := .tuple #[.agg #[.int .i64 0, .int .i64 0, .int .i64 0], .int .i64 8]) (by simp [results, Try.results25, go_sem]) rfl ⟨rfl, (by repeat (first | with_reducible exact Below.refl _ _ | with_reducible assumption | with_reducible refine Below.setCell ?_ (by first | (simp; done) | (simp; omega) | omega) _ | with_reducible refine Below.alloc ?_ (by first | exact Nat.le_refl _ | (simp; done) | (simp; omega) | omega) _ | with_reducible refine Below.drew ?_))⟩

theorem refof_any (id : Int) (h0 : 0 ≤ id) (h2 : id ≤ 18446744073709551615) (w : World) :
    Calls Try.prog 26 #[.int .u64 id] w fun e w' => e = .returned (.tuple #[.agg #[.int .i64 (Cv.oz id), .int .i64 (Cv.ox id), .int .i64 (Cv.oy id)], .int .i64 (Cv.oe id)]) ∧ Below w.heap.size w w' := by
  by_cases h1 : id < 6004799503160661
  · obtain ⟨hz0, hz1, hbl, hq⟩ := Cv.zv_in h0 h1
    have e1 : Cv.oz id = Cv.zv id := by unfold Cv.oz; rw [if_pos h1]
    have e2 : Cv.ox id = Cv.px (Cv.zv id) (id - Cv.bv (Cv.zv id)) := by unfold Cv.ox; rw [if_pos h1]
    have e3 : Cv.oy id = Cv.py (Cv.zv id) (id - Cv.bv (Cv.zv id)) := by unfold Cv.oy; rw [if_pos h1]
    have e4 : Cv.oe id = 0 := by unfold Cv.oe; rw [if_pos h1]
    have hqe := Cv.qe_ok hq
    obtain ⟨hq0, hq1⟩ := Cv.bv_bd (Cv.zv id)
    rw [e1, e2, e3, e4]
    clear e1 e2 e3 e4 hq
    go_enter Try.func26, Try.ntmps26
    go_wp2_with fail
    refine (refzoom_any _ h0 _).mono ?_; rintro e w1 ⟨rfl, rfl⟩
    go_wp2_with fail
    refine (refBase_any _ _).mono ?_; rintro e w2 ⟨rfl, rfl⟩
    go_wp2_with fail
    refine (refPoint_any _ _ (by omega) _).mono ?_; rintro e w3 ⟨rfl, rfl⟩
    go_wp2_with fail
    exact bodyPost_ret (v := .tuple #[.agg #[.int .i64 (Cv.zv id), .int .i64 (Cv.px (Cv.zv id) (id - Cv.bv (Cv.zv id))), .int .i64 (Cv.py (Cv.zv id) (id - Cv.bv (Cv.zv id)))], .int .i64 0]) (by simp [results, Try.results26, go_sem]) rfl ⟨rfl, (by repeat (first | with_reducible exact Below.refl _ _ | with_reducible assumption | with_reducible refine Below.setCell ?_ (by first | (simp; done) | (simp; omega) | omega) _ | with_reducible refine Below.alloc ?_ (by first | exact Nat.le_refl _ | (simp; done) | (simp; omega) | omega) _ | with_reducible refine Below.drew ?_))⟩
  · have e0 : Cv.zv id = -1 := by unfold Cv.zv; rw [if_neg h1]
    have e1 : Cv.oz id = 0 := by unfold Cv.oz; rw [if_neg h1]
    have e2 : Cv.ox id = 0 := by unfold Cv.ox; rw [if_neg h1]
    have e3 : Cv.oy id = 0 := by unfold Cv.oy; rw [if_neg h1]
    have e4 : Cv.oe id = 8 := by unfold Cv.oe; rw [if_neg h1]
    rw [e1, e2, e3, e4]
    clear e1 e2 e3 e4
    go_enter Try.func26, Try.ntmps26
    go_wp2_with fail
    refine (refzoom_any _ h0 _).mono ?_; rintro e w1 ⟨rfl, rfl⟩
    go_wp2_with fail
    exact bodyPost_ret (v := .tuple #[.agg #[.int .i64 0, .int .i64 0, .int .i64 0], .int .i64 8]) (by simp [results, Try.results26, go_sem]) rfl ⟨rfl, (by repeat (first | with_reducible exact Below.refl _ _ | with_reducible assumption | with_reducible refine Below.setCell ?_ (by first | (simp; done) | (simp; omega) | omega) _ | with_reducible refine Below.alloc ?_ (by first | exact Nat.le_refl _ | (simp; done) | (simp; omega) | omega) _ | with_reducible refine Below.drew ?_))⟩

theorem lift_any (z x y n : Int) (hz0 : 0 ≤ z) (hz1 : z ≤ 26) (h0 : 0 ≤ n) (h1 : n ≤ z) (w : World) :
    Calls Try.prog 49 #[.agg #[.int .i64 z, .int .i64 x, .int .i64 y], .int .i64 n] w fun e w' => e = .returned (.agg #[.int .i64 (z - n), .int .i64 (x / 2 ^ n.toNat), .int .i64 (y / 2 ^ n.toNat)]) ∧ Below w.heap.size w w' := by
  go_enter Try.func49, Try.ntmps49
  go_wp2_with fail
  go_region
  all_goals
    go_wp2_with fail
    exact bodyPost_ret (v := .agg #[.int .i64 (z - n), .int .i64 (x / 2 ^ n.toNat), .int .i64 (y / 2 ^ n.toNat)]) (by simp [results, Try.results49, go_sem]) rfl ⟨rfl, (by repeat (first | with_reducible exact Below.refl _ _ | with_reducible assumption | with_reducible refine Below.setCell ?_ (by first | (simp; done) | (simp; omega) | omega) _ | with_reducible refine Below.alloc ?_ (by first | exact Nat.le_refl _ | (simp; done) | (simp; omega) | omega) _ | with_reducible refine Below.drew ?_))⟩

set_option maxHeartbeats 400000 in
theorem up_any (z x y : Int) (w : World) :
    Calls Try.prog 34 #[.agg #[.int .i64 z, .int .i64 x, .int .i64 y]] w fun e w' => e = .returned (.tuple #[.agg #[.int .i64 (Cv.uz z x y), .int .i64 (Cv.ux z x y), .int .i64 (Cv.uy z x y)], .int .i64 (Cv.ue z x y)]) ∧ Below w.heap.size w w' := by
  rcases Bool.eq_false_or_eq_true (Cv.okB z x y) with h | h
  · have hpe := Cv.pe_ok h
    obtain ⟨⟨hz0, hz1⟩, hx0, hxl, hy0, hyl⟩ := Cv.ok_in h
    have t26 := two26 z.toNat (by omega)
    have hx1 : x ≤ 67108864 := by omega
    have hy1 : y ≤ 67108864 := by omega
    clear t26 hxl hyl
    by_cases hz : 0 < z
    · have e1 : Cv.uz z x y = z - 1 := by unfold Cv.uz Cv.upB; rw [h, decide_eq_true hz]; rfl
      have e2 : Cv.ux z x y = x / 2 := by unfold Cv.ux Cv.upB; rw [h, decide_eq_true hz]; rfl
      have e3 : Cv.uy z x y = y / 2 := by unfold Cv.uy Cv.upB; rw [h, decide_eq_true hz]; rfl
      have e4 : Cv.ue z x y = 0 := by unfold Cv.ue; rw [h, if_pos rfl, if_pos hz]
      rw [e1, e2, e3, e4]
      clear e1 e2 e3 e4 h
      go_enter Try.func34, Try.ntmps34
      go_wp2_with fail
      refine (id_any _ _ _ _).mono ?_; rintro e w1 ⟨rfl, hb1⟩
      obtain ⟨hA, hB, hsA, hsB, hw1⟩ := blk_two hb1
      obtain ⟨⟨a0, a1, a2⟩, _⟩ := blk_cells3 hA
      obtain ⟨⟨b0, b1, b2⟩, g0, g1, g2⟩ := blk_cells3 hB
      have HB := Lib.hid hB
      clear hA hB
      go_wp2_with fail
      refine (lift_any _ _ _ 1 hz0 hz1 (by omega) (by omega) _).mono ?_; rintro e w2 ⟨rfl, hb2⟩
      have hw2 := bthen hw1 hb2
      have hB2 := blk_keep HB.out hb2
      obtain ⟨⟨d0, d1, d2⟩, k0, k1, k2⟩ := blk_cells3 hB2
      clear hB2 a0 a1 a2 b0 b1 b2 g0 g1 g2
      go_wp2_with fail
      exact bodyPost_ret (v := .tuple #[.agg #[.int .i64 (z - 1), .int .i64 (x / 2), .int .i64 (y / 2)], .int .i64 0]) (by simp [results, Try.results34, go_sem, d0, d1, d2]) rfl ⟨rfl, (by repeat (first | with_reducible exact Below.refl _ _ | with_reducible assumption | with_reducible refine Below.setCell ?_ (by first | (simp; done) | (simp; omega) | omega) _ | with_reducible refine Below.alloc ?_ (by first | exact Nat.le_refl _ | (simp; done) | (simp; omega) | omega) _ | with_reducible refine Below.drew ?_))⟩
    · have hz' : z = 0 := by omega
      have e1 : Cv.uz z x y = 0 := by unfold Cv.uz Cv.upB; rw [h, decide_eq_false hz]; rfl
      have e2 : Cv.ux z x y = 0 := by unfold Cv.ux Cv.upB; rw [h, decide_eq_false hz]; rfl
      have e3 : Cv.uy z x y = 0 := by unfold Cv.uy Cv.upB; rw [h, decide_eq_false hz]; rfl
      have e4 : Cv.ue z x y = 6 := by unfold Cv.ue; rw [h, if_pos rfl, if_neg hz]
      rw [e1, e2, e3, e4]
      clear e1 e2 e3 e4 h
      subst hz'
      go_enter Try.func34, Try.ntmps34
      go_wp2_with fail
      refine (id_any _ _ _ _).mono ?_; rintro e w1 ⟨rfl, hb1⟩
      obtain ⟨hA, hB, hsA, hsB, hw1⟩ := blk_two hb1
      obtain ⟨⟨a0, a1, a2⟩, _⟩ := blk_cells3 hA
      obtain ⟨⟨b0, b1, b2⟩, g0, g1, g2⟩ := blk_cells3 hB
      have HB := Lib.hid hB
      clear hA hB
      go_wp2_with fail
      exact bodyPost_ret (v := .tuple #[.agg #[.int .i64 0, .int .i64 0, .int .i64 0], .int .i64 6]) (by simp [results, Try.results34, go_sem, b0, b1, b2]) rfl ⟨rfl, (by repeat (first | with_reducible exact Below.refl _ _ | with_reducible assumption | with_reducible refine Below.setCell ?_ (by first | (simp; done) | (simp; omega) | omega) _ | with_reducible refine Below.alloc ?_ (by first | exact Nat.le_refl _ | (simp; done) | (simp; omega) | omega) _ | with_reducible refine Below.drew ?_))⟩
  · have hpe : (Cv.pe z x y != 0) = true := by rcases Cv.pe_not h with q | q <;> rw [q] <;> rfl
    have e1 : Cv.uz z x y = 0 := by unfold Cv.uz Cv.upB; rw [h]; rfl
    have e2 : Cv.ux z x y = 0 := by unfold Cv.ux Cv.upB; rw [h]; rfl
    have e3 : Cv.uy z x y = 0 := by unfold Cv.uy Cv.upB; rw [h]; rfl
    have e4 : Cv.ue z x y = Cv.pe z x y := by unfold Cv.ue; rw [h]; rfl
    rw [e1, e2, e3, e4]
    clear e1 e2 e3 e4 h
    go_enter Try.func34, Try.ntmps34
    go_wp2_with fail
    refine (id_any _ _ _ _).mono ?_; rintro e w1 ⟨rfl, hb1⟩
    obtain ⟨hA, hB, hsA, hsB, hw1⟩ := blk_two hb1
    obtain ⟨⟨a0, a1, a2⟩, _⟩ := blk_cells3 hA
    obtain ⟨⟨b0, b1, b2⟩, g0, g1, g2⟩ := blk_cells3 hB
    have HB := Lib.hid hB
    clear hA hB
    go_wp2_with fail
    exact bodyPost_ret (v := .tuple #[.agg #[.int .i64 0, .int .i64 0, .int .i64 0], .int .i64 (Cv.pe z x y)]) (by simp [results, Try.results34, go_sem, b0, b1, b2]) rfl ⟨rfl, (by repeat (first | with_reducible exact Below.refl _ _ | with_reducible assumption | with_reducible refine Below.setCell ?_ (by first | (simp; done) | (simp; omega) | omega) _ | with_reducible refine Below.alloc ?_ (by first | exact Nat.le_refl _ | (simp; done) | (simp; omega) | omega) _ | with_reducible refine Below.drew ?_))⟩

set_option maxHeartbeats 400000 in
theorem refup_any (z x y : Int) (w : World) :
    Calls Try.prog 35 #[.agg #[.int .i64 z, .int .i64 x, .int .i64 y]] w fun e w' => e = .returned (.tuple #[.agg #[.int .i64 (Cv.uz z x y), .int .i64 (Cv.ux z x y), .int .i64 (Cv.uy z x y)], .int .i64 (Cv.ue z x y)]) ∧ Below w.heap.size w w' := by
  rcases Bool.eq_false_or_eq_true (Cv.okB z x y) with h | h
  · have hpe := Cv.pe_ok h
    obtain ⟨⟨hz0, hz1⟩, hx0, hxl, hy0, hyl⟩ := Cv.ok_in h
    have t26 := two26 z.toNat (by omega)
    have hx1 : x ≤ 67108864 := by omega
    have hy1 : y ≤ 67108864 := by omega
    clear t26 hxl hyl
    by_cases hz : 0 < z
    · have e1 : Cv.uz z x y = z - 1 := by unfold Cv.uz Cv.upB; rw [h, decide_eq_true hz]; rfl
      have e2 : Cv.ux z x y = x / 2 := by unfold Cv.ux Cv.upB; rw [h, decide_eq_true hz]; rfl
      have e3 : Cv.uy z x y = y / 2 := by unfold Cv.uy Cv.upB; rw [h, decide_eq_true hz]; rfl
      have e4 : Cv.ue z x y = 0 := by unfold Cv.ue; rw [h, if_pos rfl, if_pos hz]
      rw [e1, e2, e3, e4]
      clear e1 e2 e3 e4 h
      go_enter Try.func35, Try.ntmps35
      go_wp2_with fail
      refine (refid_any _ _ _ _).mono ?_; rintro e w1 ⟨rfl, hb1⟩
      obtain ⟨hA, hB, hsA, hsB, hw1⟩ := blk_two hb1
      obtain ⟨⟨a0, a1, a2⟩, _⟩ := blk_cells3 hA
      obtain ⟨⟨b0, b1, b2⟩, g0, g1, g2⟩ := blk_cells3 hB
      have HB := Lib.hid hB
      clear hA hB
      go_wp2_with fail
      exact bodyPost_ret (v := .tuple #[.agg #[.int .i64 (z - 1), .int .i64 (x / 2), .int .i64 (y / 2)], .int .i64 0]) (by simp [results, Try.results35, go_sem, b0, b1, b2]) rfl ⟨rfl, (by repeat (first | with_reducible exact Below.refl _ _ | with_reducible assumption | with_reducible refine Below.setCell ?_ (by first | (simp; done) | (simp; omega) | omega) _ | with_reducible refine Below.alloc ?_ (by first | exact Nat.le_refl _ | (simp; done) | (simp; omega) | omega) _ | with_reducible refine Below.drew ?_))⟩
    · have hz' : z = 0 := by omega
      have e1 : Cv.uz z x y = 0 := by unfold Cv.uz Cv.upB; rw [h, decide_eq_false hz]; rfl
      have e2 : Cv.ux z x y = 0 := by unfold Cv.ux Cv.upB; rw [h, decide_eq_false hz]; rfl
      have e3 : Cv.uy z x y = 0 := by unfold Cv.uy Cv.upB; rw [h, decide_eq_false hz]; rfl
      have e4 : Cv.ue z x y = 6 := by unfold Cv.ue; rw [h, if_pos rfl, if_neg hz]
      rw [e1, e2, e3, e4]
      clear e1 e2 e3 e4 h
      subst hz'
      go_enter Try.func35, Try.ntmps35
      go_wp2_with fail
      refine (refid_any _ _ _ _).mono ?_; rintro e w1 ⟨rfl, hb1⟩
      obtain ⟨hA, hB, hsA, hsB, hw1⟩ := blk_two hb1
      obtain ⟨⟨a0, a1, a2⟩, _⟩ := blk_cells3 hA
      obtain ⟨⟨b0, b1, b2⟩, g0, g1, g2⟩ := blk_cells3 hB
      have HB := Lib.hid hB
      clear hA hB
      go_wp2_with fail
      exact bodyPost_ret (v := .tuple #[.agg #[.int .i64 0, .int .i64 0, .int .i64 0], .int .i64 6]) (by simp [results, Try.results35, go_sem, b0, b1, b2]) rfl ⟨rfl, (by repeat (first | with_reducible exact Below.refl _ _ | with_reducible assumption | with_reducible refine Below.setCell ?_ (by first | (simp; done) | (simp; omega) | omega) _ | with_reducible refine Below.alloc ?_ (by first | exact Nat.le_refl _ | (simp; done) | (simp; omega) | omega) _ | with_reducible refine Below.drew ?_))⟩
  · have hpe : (Cv.pe z x y != 0) = true := by rcases Cv.pe_not h with q | q <;> rw [q] <;> rfl
    have e1 : Cv.uz z x y = 0 := by unfold Cv.uz Cv.upB; rw [h]; rfl
    have e2 : Cv.ux z x y = 0 := by unfold Cv.ux Cv.upB; rw [h]; rfl
    have e3 : Cv.uy z x y = 0 := by unfold Cv.uy Cv.upB; rw [h]; rfl
    have e4 : Cv.ue z x y = Cv.pe z x y := by unfold Cv.ue; rw [h]; rfl
    rw [e1, e2, e3, e4]
    clear e1 e2 e3 e4 h
    go_enter Try.func35, Try.ntmps35
    go_wp2_with fail
    refine (refid_any _ _ _ _).mono ?_; rintro e w1 ⟨rfl, hb1⟩
    obtain ⟨hA, hB, hsA, hsB, hw1⟩ := blk_two hb1
    obtain ⟨⟨a0, a1, a2⟩, _⟩ := blk_cells3 hA
    obtain ⟨⟨b0, b1, b2⟩, g0, g1, g2⟩ := blk_cells3 hB
    have HB := Lib.hid hB
    clear hA hB
    go_wp2_with fail
    exact bodyPost_ret (v := .tuple #[.agg #[.int .i64 0, .int .i64 0, .int .i64 0], .int .i64 (Cv.pe z x y)]) (by simp [results, Try.results35, go_sem, b0, b1, b2]) rfl ⟨rfl, (by repeat (first | with_reducible exact Below.refl _ _ | with_reducible assumption | with_reducible refine Below.setCell ?_ (by first | (simp; done) | (simp; omega) | omega) _ | with_reducible refine Below.alloc ?_ (by first | exact Nat.le_refl _ | (simp; done) | (simp; omega) | omega) _ | with_reducible refine Below.drew ?_))⟩

end Go.Proofs.Ytdipincjginmcaa
