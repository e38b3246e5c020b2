/- The walks of Over. -/
import Derived.Test.YtdipincjginmcaaDoorTileRange
import Derived.Test.YtdipincjginmcaaDoorTileEq
import Derived.Deep.RegionHeld3
import Derived.Deep.DrawnRows
namespace Go.Proofs.YtdipincjginmcaaDoor
open Go.RowKit
attribute [local go_sem ↓] Go.wp_at_zero Go.wp_at_succ

def Cv.ovB (tz tx ty sz sx sy : Int) : Bool := Cv.okB tz tx ty && Cv.okB sz sx sy && decide (tz ≤ sz) && Cv.teq tz (sx / 2 ^ (sz - tz).toNat) (sy / 2 ^ (sz - tz).toNat) tz tx ty

set_option maxHeartbeats 1000000 in
theorem over_in (tz tx ty sz sx sy : Int) (w : World) (h : Cv.okB tz tx ty = true) (k : Cv.okB sz sx sy = true) (c : tz ≤ sz) :
    Calls Tryd.prog 24 #[.agg #[.int .i64 tz, .int .i64 tx, .int .i64 ty], .agg #[.int .i64 sz, .int .i64 sx, .int .i64 sy]] w fun e w' => e = .returned (.bool (Cv.ovB tz tx ty sz sx sy)) ∧ Below w.heap.size w w' := by
  have hpe := Cv.pe_ok h
  have kpe := Cv.pe_ok k
  obtain ⟨⟨hz0, hz1⟩, _⟩ := Cv.ok_in h
  obtain ⟨⟨kz0, kz1⟩, _⟩ := Cv.ok_in k
  have hov : Cv.ovB tz tx ty sz sx sy = Cv.teq tz (sx / 2 ^ (sz - tz).toNat) (sy / 2 ^ (sz - tz).toNat) tz tx ty := by unfold Cv.ovB; rw [h, k, decide_eq_true c]; rfl
  rw [hov]
  have hq := eq_tile
  have hwr : IntKind.i64.wrap (sz - tz) = sz - tz := IntWalk.i64_in _ (by omega)
  have hsub : sz - (sz - tz) = tz := by omega
  clear h k hov
  go_enter Tryd.func24, Tryd.ntmps24
  go_wp2_with fail
  refine (id_any _ _ _ _).mono ?_; rintro e w1 ⟨rfl, hb1⟩
  obtain ⟨hA, hB, hsA, hsB, hw1⟩ := blk_two hb1
  obtain ⟨⟨a0, a1, a2⟩, _⟩ := blk_cells3 hA
  obtain ⟨⟨b0, b1, b2⟩, _⟩ := blk_cells3 hB
  have HA := Lib.hid hA
  have HB := Lib.hid hB
  clear hA hB
  go_wp2_with fail
  refine (id_any _ _ _ _).mono ?_; rintro e w2 ⟨rfl, hb2⟩
  clear a0 a1 a2 b0 b1 b2
  have hA := blk_keep HA.out hb2
  have hB := blk_keep HB.out hb2
  have hw2 := bthen hw1 hb2
  obtain ⟨⟨a0, a1, a2⟩, _⟩ := blk_cells3 hA
  obtain ⟨⟨b0, b1, b2⟩, _⟩ := blk_cells3 hB
  have HA2 := Lib.hid hA
  have HB2 := Lib.hid hB
  clear hA hB HA HB
  go_wp2_with fail
  go_region_held3 (fun w' => (w'.cell? ⟨w.heap.size, 0, none⟩ = some (.int .i64 tz) ∧ w'.cell? ⟨w.heap.size, 1, none⟩ = some (.int .i64 tx) ∧ w'.cell? ⟨w.heap.size, 2, none⟩ = some (.int .i64 ty)) ∧ (w'.cell? ⟨w.heap.size + 1, 0, none⟩ = some (.int .i64 sz) ∧ w'.cell? ⟨w.heap.size + 1, 1, none⟩ = some (.int .i64 sx) ∧ w'.cell? ⟨w.heap.size + 1, 2, none⟩ = some (.int .i64 sy))) (first | exact ⟨⟨a0, a1, a2⟩, ⟨b0, b1, b2⟩⟩ | exact ⟨⟨c0, c1, c2⟩, ⟨d0, d1, d2⟩⟩) (first | (go_at_call 31; refine (lift_any _ _ _ _ kz0 kz1 ?p1 ?p2 _).mono ?_; (case p1 => omega); (case p2 => omega); rintro e w3 ⟨rfl, hb3⟩; obtain ⟨⟨c0, c1, c2⟩, _⟩ := blk_cells3 (blk_keep (w1 := w2.drew) HA2.out hb3); obtain ⟨⟨d0, d1, d2⟩, _⟩ := blk_cells3 (blk_keep (w1 := w2.drew) HB2.out hb3); have hw3 := bthen (Below.drew hw2) hb3))
  all_goals go_wp2_with fail
  all_goals go_ret
  all_goals exact ⟨rfl, by first | exact hw3 | exact Below.drew hw3 | exact bdraws hw3 _⟩

theorem over_low (tz tx ty sz sx sy : Int) (w : World) (h : Cv.okB tz tx ty = true) (k : Cv.okB sz sx sy = true) (c : sz < tz) :
    Calls Tryd.prog 24 #[.agg #[.int .i64 tz, .int .i64 tx, .int .i64 ty], .agg #[.int .i64 sz, .int .i64 sx, .int .i64 sy]] w fun e w' => e = .returned (.bool (Cv.ovB tz tx ty sz sx sy)) ∧ Below w.heap.size w w' := by
  have hpe := Cv.pe_ok h
  have kpe := Cv.pe_ok k
  have hov : Cv.ovB tz tx ty sz sx sy = false := by unfold Cv.ovB; rw [h, k, decide_eq_false (by omega)]; rfl
  have hd : decide (tz ≤ sz) = false := decide_eq_false (by omega)
  rw [hov]
  clear h k hov
  go_enter Tryd.func24, Tryd.ntmps24
  go_wp2_with fail
  refine (id_any _ _ _ _).mono ?_; rintro e w1 ⟨rfl, hb1⟩
  obtain ⟨hA, hB, hsA, hsB, hw1⟩ := blk_two hb1
  obtain ⟨⟨a0, a1, a2⟩, _⟩ := blk_cells3 hA
  obtain ⟨⟨b0, b1, b2⟩, _⟩ := blk_cells3 hB
  have HA := Lib.hid hA
  have HB := Lib.hid hB
  clear hA hB
  go_wp2_with fail
  refine (id_any _ _ _ _).mono ?_; rintro e w2 ⟨rfl, hb2⟩
  clear a0 a1 a2 b0 b1 b2
  have hA := blk_keep HA.out hb2
  have hB := blk_keep HB.out hb2
  have hw2 := bthen hw1 hb2
  obtain ⟨⟨a0, a1, a2⟩, _⟩ := blk_cells3 hA
  obtain ⟨⟨b0, b1, b2⟩, _⟩ := blk_cells3 hB
  clear hA hB HA HB
  go_wp2_with fail
  go_quiet (fail)
  go_wp2_with fail
  go_ret
  exact ⟨rfl, by first | exact hw2 | exact Below.drew hw2 | exact bdraws hw2 _⟩

theorem over_not (tz tx ty sz sx sy : Int) (w : World) (h : Cv.okB tz tx ty = false ∨ Cv.okB sz sx sy = false) :
    Calls Tryd.prog 24 #[.agg #[.int .i64 tz, .int .i64 tx, .int .i64 ty], .agg #[.int .i64 sz, .int .i64 sx, .int .i64 sy]] w fun e w' => e = .returned (.bool (Cv.ovB tz tx ty sz sx sy)) ∧ Below w.heap.size w w' := by
  have hov : Cv.ovB tz tx ty sz sx sy = false := by
    unfold Cv.ovB
    rcases h with h | h
    · rw [h]; rfl
    · rw [h]; cases Cv.okB tz tx ty <;> rfl
  rw [hov]
  clear hov
  rcases Bool.eq_false_or_eq_true (Cv.okB tz tx ty) with h1 | h1
  · have hpe := Cv.pe_ok h1
    have kpe : (Cv.pe sz sx sy == 0) = false := by
      rcases h with h | h
      · rw [h1] at h; cases h
      · rcases Cv.pe_not h with q | q <;> rw [q] <;> rfl
    clear h h1
    go_enter Tryd.func24, Tryd.ntmps24
    go_wp2_with fail
    refine (id_any _ _ _ _).mono ?_; rintro e w1 ⟨rfl, hb1⟩
    obtain ⟨hA, hB, hsA, hsB, hw1⟩ := blk_two hb1
    obtain ⟨⟨b0, b1, b2⟩, _⟩ := blk_cells3 hB
    clear hA hB
    go_wp2_with fail
    refine (id_any _ _ _ _).mono ?_; rintro e w2 ⟨rfl, hb2⟩
    have hw2 := bthen hw1 hb2
    go_wp2_with fail
    go_quiet (fail)
    go_wp2_with fail
    go_ret
    exact ⟨rfl, by first | exact hw2 | exact Below.drew hw2 | exact bdraws hw2 _⟩
  · have hpe : (Cv.pe tz tx ty == 0) = false := by rcases Cv.pe_not h1 with q | q <;> rw [q] <;> rfl
    clear h h1
    go_enter Tryd.func24, Tryd.ntmps24
    go_wp2_with fail
    refine (id_any _ _ _ _).mono ?_; rintro e w1 ⟨rfl, hb1⟩
    obtain ⟨hA, hB, hsA, hsB, hw1⟩ := blk_two hb1
    obtain ⟨⟨b0, b1, b2⟩, _⟩ := blk_cells3 hB
    clear hA hB
    go_wp2_with fail
    refine (id_any _ _ _ _).mono ?_; rintro e w2 ⟨rfl, hb2⟩
    have hw2 := bthen hw1 hb2
    go_wp2_with fail
    go_quiet (fail)
    go_wp2_with fail
    go_ret
    exact ⟨rfl, by first | exact hw2 | exact Below.drew hw2 | exact bdraws hw2 _⟩

theorem over_any (tz tx ty sz sx sy : Int) (w : World) :
    Calls Tryd.prog 24 #[.agg #[.int .i64 tz, .int .i64 tx, .int .i64 ty], .agg #[.int .i64 sz, .int .i64 sx, .int .i64 sy]] w fun e w' => e = .returned (.bool (Cv.ovB tz tx ty sz sx sy)) ∧ Below w.heap.size w w' := by
  rcases Bool.eq_false_or_eq_true (Cv.okB tz tx ty) with h | h
  · rcases Bool.eq_false_or_eq_true (Cv.okB sz sx sy) with k | k
    · by_cases c : tz ≤ sz
      · exact over_in _ _ _ _ _ _ w h k c
      · exact over_low _ _ _ _ _ _ w h k (by omega)
    · exact over_not _ _ _ _ _ _ w (Or.inr k)
  · exact over_not _ _ _ _ _ _ w (Or.inl h)

end Go.Proofs.YtdipincjginmcaaDoor
