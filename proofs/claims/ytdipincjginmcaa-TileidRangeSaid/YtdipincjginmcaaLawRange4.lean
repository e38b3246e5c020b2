/- TileidRange: at every input the identifiers of a zoom that are told of a tile are those of the tiles in it, as many as four to the zooms between, and the law returns true. -/
import Derived.Test.YtdipincjginmcaaLaw
import Derived.Test.YtdipincjginmcaaTileFacts
namespace Go.Proofs.Ytdipincjginmcaa.tileidRange
open Go.ChangeShapes Go.WideShapes Go.ChangeAt Go.RowKit
set_option linter.unusedVariables false

theorem blk_keep2 {w1 w2 : World} {g : Nat} {o : Obj} (hb : Below w1.heap.size w1 w2) (h : w1.heap[g]? = some o) : w2.heap[g]? = some o := (hb.block g (blk_lt h)).trans h
theorem bthen2 {w w1 w2 : World} (k : Below w1.heap.size w1 w2) (h : Below w.heap.size w w1) : Below w.heap.size w w2 := bthen h k

set_option maxHeartbeats 1000000 in
theorem rng_err (x0 y0 z0 x1 y1 z1 : Int) (hr : Cv.rB x0 y0 z0 x1 = false) (w : World) :
    Calls Try.prog 10 #[.agg #[.int .i64 x0, .int .i64 y0, .int .i64 z0], .agg #[.int .i64 x1, .int .i64 y1, .int .i64 z1]] w fun e w' => e = .returned (.bool true) ∧ Below w.heap.size w w' := by
  have e1 : Cv.rf x0 y0 z0 x1 = 0 := by unfold Cv.rf; rw [if_neg (by rw [hr]; decide)]
  have e2 : Cv.rt x0 y0 z0 x1 = 0 := by unfold Cv.rt; rw [if_neg (by rw [hr]; decide)]
  have e3 : (Cv.re x0 y0 z0 x1 != 0) = true := by
    unfold Cv.re
    split
    · rename_i h
      unfold Cv.rB at hr
      rw [h] at hr
      rw [if_neg (of_decide_eq_false (by simpa using hr))]
      rfl
    · rename_i h
      rcases Cv.pe_not (by simpa using h) with q | q <;> rw [q] <;> rfl
  clear hr
  go_enter Try.func10, Try.ntmps10
  go_wp2_with fail
  refine (range_any _ _ _ _ _).mono ?_; rintro e w1 ⟨rfl, hb1⟩
  obtain ⟨hA, hB, hsA, hsB, hw1⟩ := blk_two hb1
  have HA := Lib.hid hA
  have HB := Lib.hid hB
  obtain ⟨⟨b0, b1, b2⟩, _⟩ := blk_cells3 hB
  clear hA hB
  go_wp2_with fail
  refine (id_any _ _ _ _).mono ?_; rintro e w2 ⟨rfl, hb2⟩
  have hw2 := bthen hw1 hb2
  clear b0 b1 b2
  go_wp2_with fail
  refine (awake04 _).mono ?_; rintro e w9 ⟨rfl, hb9⟩
  go_wp2_with fail
  go_ret
  exact ⟨rfl, bthen hw2 hb9⟩

set_option maxHeartbeats 1000000 in
theorem rng_not (x0 y0 z0 x1 y1 z1 : Int) (h : Cv.okB x0 y0 z0 = true) (c1 : x0 ≤ x1) (c2 : x1 ≤ 26) (k : Cv.okB x1 y1 z1 = false) (w : World) :
    Calls Try.prog 10 #[.agg #[.int .i64 x0, .int .i64 y0, .int .i64 z0], .agg #[.int .i64 x1, .int .i64 y1, .int .i64 z1]] w fun e w' => e = .returned (.bool true) ∧ Below w.heap.size w w' := by
  obtain ⟨hz0, hz1⟩ := (Cv.ok_in h).1
  obtain ⟨⟨r0, r1, r2, r3⟩, r4, r5, r6⟩ := Cv.rng_zoom h c1 c2
  have hp4 := Cv.pow_pos4 (x1 - x0).toNat
  have r7 : Cv.rf x0 y0 z0 x1 ≤ Cv.rt x0 y0 z0 x1 := by omega
  have r8 : (Cv.rt x0 y0 z0 x1 - Cv.rf x0 y0 z0 x1 + 1 != IntKind.u64.wrap ((2 : Int) ^ (2 * (x1 - x0)).toNat)) = false := by
    rw [r6, ipow4 (x1 - x0) (by omega), u64w (by omega) (by rw [← r6]; omega)]
    simp
  have e3 : Cv.re x0 y0 z0 x1 = 0 := by unfold Cv.re; rw [h, if_pos rfl, if_pos ⟨c1, c2⟩]
  have s1 : IntKind.i64.wrap (x1 - x0) = x1 - x0 := IntWalk.i64_in _ (by omega)
  have s2 : IntKind.i64.wrap (2 * (x1 - x0)) = 2 * (x1 - x0) := IntWalk.i64_in _ (by omega)
  have s3 : IntKind.u64.wrap (2 * (x1 - x0)) = 2 * (x1 - x0) := u64w (by omega) (by omega)
  have s4 : IntKind.u64.wrap (Cv.rt x0 y0 z0 x1 - Cv.rf x0 y0 z0 x1) = Cv.rt x0 y0 z0 x1 - Cv.rf x0 y0 z0 x1 := u64w (by omega) (by omega)
  have s5 : IntKind.u64.wrap (Cv.rt x0 y0 z0 x1 - Cv.rf x0 y0 z0 x1 + 1) = Cv.rt x0 y0 z0 x1 - Cv.rf x0 y0 z0 x1 + 1 := u64w (by omega) (by omega)
  have kpe : (Cv.pe x1 y1 z1 != 0) = true := by rcases Cv.pe_not k with q | q <;> rw [q] <;> rfl
  clear k
  clear h r6 hp4
  go_enter Try.func10, Try.ntmps10
  go_wp2_with fail
  refine (range_any _ _ _ _ _).mono ?_; rintro e w1 ⟨rfl, hb1⟩
  obtain ⟨hA, hB, hsA, hsB, hw1⟩ := blk_two hb1
  have HA := Lib.hid hA
  have HB := Lib.hid hB
  obtain ⟨⟨b0, b1, b2⟩, _⟩ := blk_cells3 hB
  clear hA hB
  go_wp2_with fail
  refine (id_any _ _ _ _).mono ?_; rintro e w2 ⟨rfl, hb2⟩
  have hw2 := bthen hw1 hb2
  clear b0 b1 b2
  obtain ⟨⟨a0, a1, a2⟩, _⟩ := blk_cells3 (blk_keep2 hb2 HA.out)
  obtain ⟨⟨b0, b1, b2⟩, _⟩ := blk_cells3 (blk_keep2 hb2 HB.out)
  clear HA HB
  go_wp2_with fail
  go_quiet ((go_at_call 29; exact quiet_left (zoom_any _ (by omega) _)))
  clear s1 s2 s3 s4 s5 r8
  go_wp2_with fail
  refine (awake04 _).mono ?_; rintro e w9 ⟨rfl, hb9⟩
  go_wp2_with fail
  go_ret
  exact ⟨rfl, bthen2 hb9 (bdraws hw2 _)⟩

set_option maxHeartbeats 1000000 in
theorem rng_in (x0 y0 z0 x1 y1 z1 : Int) (h : Cv.okB x0 y0 z0 = true) (c1 : x0 ≤ x1) (c2 : x1 ≤ 26) (k : Cv.okB x1 y1 z1 = true) (p : Cv.rf x0 y0 z0 x1 ≤ Cv.tid x1 y1 z1) (q : Cv.tid x1 y1 z1 ≤ Cv.rt x0 y0 z0 x1) (w : World) :
    Calls Try.prog 10 #[.agg #[.int .i64 x0, .int .i64 y0, .int .i64 z0], .agg #[.int .i64 x1, .int .i64 y1, .int .i64 z1]] w fun e w' => e = .returned (.bool true) ∧ Below w.heap.size w w' := by
  obtain ⟨hz0, hz1⟩ := (Cv.ok_in h).1
  obtain ⟨⟨r0, r1, r2, r3⟩, r4, r5, r6⟩ := Cv.rng_zoom h c1 c2
  have hp4 := Cv.pow_pos4 (x1 - x0).toNat
  have r7 : Cv.rf x0 y0 z0 x1 ≤ Cv.rt x0 y0 z0 x1 := by omega
  have r8 : (Cv.rt x0 y0 z0 x1 - Cv.rf x0 y0 z0 x1 + 1 != IntKind.u64.wrap ((2 : Int) ^ (2 * (x1 - x0)).toNat)) = false := by
    rw [r6, ipow4 (x1 - x0) (by omega), u64w (by omega) (by rw [← r6]; omega)]
    simp
  have e3 : Cv.re x0 y0 z0 x1 = 0 := by unfold Cv.re; rw [h, if_pos rfl, if_pos ⟨c1, c2⟩]
  have s1 : IntKind.i64.wrap (x1 - x0) = x1 - x0 := IntWalk.i64_in _ (by omega)
  have s2 : IntKind.i64.wrap (2 * (x1 - x0)) = 2 * (x1 - x0) := IntWalk.i64_in _ (by omega)
  have s3 : IntKind.u64.wrap (2 * (x1 - x0)) = 2 * (x1 - x0) := u64w (by omega) (by omega)
  have s4 : IntKind.u64.wrap (Cv.rt x0 y0 z0 x1 - Cv.rf x0 y0 z0 x1) = Cv.rt x0 y0 z0 x1 - Cv.rf x0 y0 z0 x1 := u64w (by omega) (by omega)
  have s5 : IntKind.u64.wrap (Cv.rt x0 y0 z0 x1 - Cv.rf x0 y0 z0 x1 + 1) = Cv.rt x0 y0 z0 x1 - Cv.rf x0 y0 z0 x1 + 1 := u64w (by omega) (by omega)
  have hov : Cv.ovB x0 y0 z0 x1 y1 z1 = true := by rw [Cv.rng_over h k c1, decide_eq_true p, decide_eq_true q]; rfl
  have kpe := Cv.pe_ok k
  clear k
  clear h r6 hp4
  go_enter Try.func10, Try.ntmps10
  go_wp2_with fail
  refine (range_any _ _ _ _ _).mono ?_; rintro e w1 ⟨rfl, hb1⟩
  obtain ⟨hA, hB, hsA, hsB, hw1⟩ := blk_two hb1
  have HA := Lib.hid hA
  have HB := Lib.hid hB
  obtain ⟨⟨b0, b1, b2⟩, _⟩ := blk_cells3 hB
  clear hA hB
  go_wp2_with fail
  refine (id_any _ _ _ _).mono ?_; rintro e w2 ⟨rfl, hb2⟩
  have hw2 := bthen hw1 hb2
  clear b0 b1 b2
  obtain ⟨⟨a0, a1, a2⟩, _⟩ := blk_cells3 (blk_keep2 hb2 HA.out)
  obtain ⟨⟨b0, b1, b2⟩, _⟩ := blk_cells3 (blk_keep2 hb2 HB.out)
  clear HA HB
  go_wp2_with fail
  go_quiet ((go_at_call 29; exact quiet_left (zoom_any _ (by omega) _)))
  clear s1 s2 s3 s4 s5 r8
  go_wp2_with fail
  refine (over_any _ _ _ _ _ _ _).mono ?_; rintro e w3 ⟨rfl, hb3⟩
  have hw3 := bthen2 hb3 (bdraws hw2 _)
  go_wp2_with fail
  refine (awake04 _).mono ?_; rintro e w9 ⟨rfl, hb9⟩
  go_wp2_with fail
  go_ret
  exact ⟨rfl, bthen2 hb9 hw3⟩

set_option maxHeartbeats 1000000 in
theorem rng_lo (x0 y0 z0 x1 y1 z1 : Int) (h : Cv.okB x0 y0 z0 = true) (c1 : x0 ≤ x1) (c2 : x1 ≤ 26) (k : Cv.okB x1 y1 z1 = true) (p : Cv.tid x1 y1 z1 < Cv.rf x0 y0 z0 x1) (w : World) :
    Calls Try.prog 10 #[.agg #[.int .i64 x0, .int .i64 y0, .int .i64 z0], .agg #[.int .i64 x1, .int .i64 y1, .int .i64 z1]] w fun e w' => e = .returned (.bool true) ∧ Below w.heap.size w w' := by
  obtain ⟨hz0, hz1⟩ := (Cv.ok_in h).1
  obtain ⟨⟨r0, r1, r2, r3⟩, r4, r5, r6⟩ := Cv.rng_zoom h c1 c2
  have hp4 := Cv.pow_pos4 (x1 - x0).toNat
  have r7 : Cv.rf x0 y0 z0 x1 ≤ Cv.rt x0 y0 z0 x1 := by omega
  have r8 : (Cv.rt x0 y0 z0 x1 - Cv.rf x0 y0 z0 x1 + 1 != IntKind.u64.wrap ((2 : Int) ^ (2 * (x1 - x0)).toNat)) = false := by
    rw [r6, ipow4 (x1 - x0) (by omega), u64w (by omega) (by rw [← r6]; omega)]
    simp
  have e3 : Cv.re x0 y0 z0 x1 = 0 := by unfold Cv.re; rw [h, if_pos rfl, if_pos ⟨c1, c2⟩]
  have s1 : IntKind.i64.wrap (x1 - x0) = x1 - x0 := IntWalk.i64_in _ (by omega)
  have s2 : IntKind.i64.wrap (2 * (x1 - x0)) = 2 * (x1 - x0) := IntWalk.i64_in _ (by omega)
  have s3 : IntKind.u64.wrap (2 * (x1 - x0)) = 2 * (x1 - x0) := u64w (by omega) (by omega)
  have s4 : IntKind.u64.wrap (Cv.rt x0 y0 z0 x1 - Cv.rf x0 y0 z0 x1) = Cv.rt x0 y0 z0 x1 - Cv.rf x0 y0 z0 x1 := u64w (by omega) (by omega)
  have s5 : IntKind.u64.wrap (Cv.rt x0 y0 z0 x1 - Cv.rf x0 y0 z0 x1 + 1) = Cv.rt x0 y0 z0 x1 - Cv.rf x0 y0 z0 x1 + 1 := u64w (by omega) (by omega)
  have hov : Cv.ovB x0 y0 z0 x1 y1 z1 = false := by rw [Cv.rng_over h k c1, decide_eq_false (by omega)]; rfl
  have kpe := Cv.pe_ok k
  clear k
  clear h r6 hp4
  go_enter Try.func10, Try.ntmps10
  go_wp2_with fail
  refine (range_any _ _ _ _ _).mono ?_; rintro e w1 ⟨rfl, hb1⟩
  obtain ⟨hA, hB, hsA, hsB, hw1⟩ := blk_two hb1
  have HA := Lib.hid hA
  have HB := Lib.hid hB
  obtain ⟨⟨b0, b1, b2⟩, _⟩ := blk_cells3 hB
  clear hA hB
  go_wp2_with fail
  refine (id_any _ _ _ _).mono ?_; rintro e w2 ⟨rfl, hb2⟩
  have hw2 := bthen hw1 hb2
  clear b0 b1 b2
  obtain ⟨⟨a0, a1, a2⟩, _⟩ := blk_cells3 (blk_keep2 hb2 HA.out)
  obtain ⟨⟨b0, b1, b2⟩, _⟩ := blk_cells3 (blk_keep2 hb2 HB.out)
  clear HA HB
  go_wp2_with fail
  go_quiet ((go_at_call 29; exact quiet_left (zoom_any _ (by omega) _)))
  clear s1 s2 s3 s4 s5 r8
  go_wp2_with fail
  refine (over_any _ _ _ _ _ _ _).mono ?_; rintro e w3 ⟨rfl, hb3⟩
  have hw3 := bthen2 hb3 (bdraws hw2 _)
  go_wp2_with fail
  refine (awake04 _).mono ?_; rintro e w9 ⟨rfl, hb9⟩
  go_wp2_with fail
  go_ret
  exact ⟨rfl, bthen2 hb9 hw3⟩

set_option maxHeartbeats 1000000 in
theorem rng_hi (x0 y0 z0 x1 y1 z1 : Int) (h : Cv.okB x0 y0 z0 = true) (c1 : x0 ≤ x1) (c2 : x1 ≤ 26) (k : Cv.okB x1 y1 z1 = true) (p : Cv.rf x0 y0 z0 x1 ≤ Cv.tid x1 y1 z1) (q : Cv.rt x0 y0 z0 x1 < Cv.tid x1 y1 z1) (w : World) :
    Calls Try.prog 10 #[.agg #[.int .i64 x0, .int .i64 y0, .int .i64 z0], .agg #[.int .i64 x1, .int .i64 y1, .int .i64 z1]] w fun e w' => e = .returned (.bool true) ∧ Below w.heap.size w w' := by
  obtain ⟨hz0, hz1⟩ := (Cv.ok_in h).1
  obtain ⟨⟨r0, r1, r2, r3⟩, r4, r5, r6⟩ := Cv.rng_zoom h c1 c2
  have hp4 := Cv.pow_pos4 (x1 - x0).toNat
  have r7 : Cv.rf x0 y0 z0 x1 ≤ Cv.rt x0 y0 z0 x1 := by omega
  have r8 : (Cv.rt x0 y0 z0 x1 - Cv.rf x0 y0 z0 x1 + 1 != IntKind.u64.wrap ((2 : Int) ^ (2 * (x1 - x0)).toNat)) = false := by
    rw [r6, ipow4 (x1 - x0) (by omega), u64w (by omega) (by rw [← r6]; omega)]
    simp
  have e3 : Cv.re x0 y0 z0 x1 = 0 := by unfold Cv.re; rw [h, if_pos rfl, if_pos ⟨c1, c2⟩]
  have s1 : IntKind.i64.wrap (x1 - x0) = x1 - x0 := IntWalk.i64_in _ (by omega)
  have s2 : IntKind.i64.wrap (2 * (x1 - x0)) = 2 * (x1 - x0) := IntWalk.i64_in _ (by omega)
  have s3 : IntKind.u64.wrap (2 * (x1 - x0)) = 2 * (x1 - x0) := u64w (by omega) (by omega)
  have s4 : IntKind.u64.wrap (Cv.rt x0 y0 z0 x1 - Cv.rf x0 y0 z0 x1) = Cv.rt x0 y0 z0 x1 - Cv.rf x0 y0 z0 x1 := u64w (by omega) (by omega)
  have s5 : IntKind.u64.wrap (Cv.rt x0 y0 z0 x1 - Cv.rf x0 y0 z0 x1 + 1) = Cv.rt x0 y0 z0 x1 - Cv.rf x0 y0 z0 x1 + 1 := u64w (by omega) (by omega)
  have hdq : decide (Cv.tid x1 y1 z1 ≤ Cv.rt x0 y0 z0 x1) = false := decide_eq_false (by omega)
  have hov : Cv.ovB x0 y0 z0 x1 y1 z1 = false := by rw [Cv.rng_over h k c1, decide_eq_true p, decide_eq_false (by omega)]; rfl
  have kpe := Cv.pe_ok k
  clear k
  clear h r6 hp4
  go_enter Try.func10, Try.ntmps10
  go_wp2_with fail
  refine (range_any _ _ _ _ _).mono ?_; rintro e w1 ⟨rfl, hb1⟩
  obtain ⟨hA, hB, hsA, hsB, hw1⟩ := blk_two hb1
  have HA := Lib.hid hA
  have HB := Lib.hid hB
  obtain ⟨⟨b0, b1, b2⟩, _⟩ := blk_cells3 hB
  clear hA hB
  go_wp2_with fail
  refine (id_any _ _ _ _).mono ?_; rintro e w2 ⟨rfl, hb2⟩
  have hw2 := bthen hw1 hb2
  clear b0 b1 b2
  obtain ⟨⟨a0, a1, a2⟩, _⟩ := blk_cells3 (blk_keep2 hb2 HA.out)
  obtain ⟨⟨b0, b1, b2⟩, _⟩ := blk_cells3 (blk_keep2 hb2 HB.out)
  clear HA HB
  go_wp2_with fail
  go_quiet ((go_at_call 29; exact quiet_left (zoom_any _ (by omega) _)))
  clear s1 s2 s3 s4 s5 r8
  go_wp2_with fail
  refine (over_any _ _ _ _ _ _ _).mono ?_; rintro e w3 ⟨rfl, hb3⟩
  have hw3 := bthen2 hb3 (bdraws hw2 _)
  go_wp2_with fail
  refine (awake04 _).mono ?_; rintro e w9 ⟨rfl, hb9⟩
  go_wp2_with fail
  go_ret
  exact ⟨rfl, bthen2 hb9 hw3⟩

theorem walk (x0 y0 z0 : Int) (wx0 : (Lit.int .i64 x0).wf = true) (wy0 : (Lit.int .i64 y0).wf = true) (wz0 : (Lit.int .i64 z0).wf = true) (x1 y1 z1 : Int) (wx1 : (Lit.int .i64 x1).wf = true) (wy1 : (Lit.int .i64 y1).wf = true) (wz1 : (Lit.int .i64 z1).wf = true) (w : World) :
    Calls Try.prog 10 #[.agg #[.int .i64 x0, .int .i64 y0, .int .i64 z0], .agg #[.int .i64 x1, .int .i64 y1, .int .i64 z1]] w fun e w' => e = .returned (.bool true) ∧ Below w.heap.size w w' := by
  rcases Bool.eq_false_or_eq_true (Cv.rB x0 y0 z0 x1) with hr | hr
  · have hr' := hr
    unfold Cv.rB at hr'
    rw [Bool.and_eq_true] at hr'
    obtain ⟨h, c⟩ := hr'
    obtain ⟨c1, c2⟩ := of_decide_eq_true c
    rcases Bool.eq_false_or_eq_true (Cv.okB x1 y1 z1) with k | k
    · by_cases p : Cv.rf x0 y0 z0 x1 ≤ Cv.tid x1 y1 z1
      · by_cases q : Cv.tid x1 y1 z1 ≤ Cv.rt x0 y0 z0 x1
        · exact rng_in _ _ _ _ _ _ h c1 c2 k p q w
        · exact rng_hi _ _ _ _ _ _ h c1 c2 k p (by omega) w
      · exact rng_lo _ _ _ _ _ _ h c1 c2 k (by omega) w
    · exact rng_not _ _ _ _ _ _ h c1 c2 k w
  · exact rng_err _ _ _ _ _ _ hr w

set_option maxRecDepth 100000 in
theorem lifted (os : Os) (started : os.Started) (H : Type) (enc : TypeId × Value → H) :
    ReturnsInHanded {} Try.checked os 10 .any (Rows.tileidRangeSpec.pre6 enc Try.prog Try.f10 Rows.tileidRangeRow.domain false) (Rows.tileidRangeSpec.post enc Try.prog Try.f10 false true false false) := by
  refine returnsInHanded_of_change (C := Try.checked) own_ started (by kernel_rfl) Try.func10
    (ChangeSpec.witness6 (enc := enc) (C := Try.checked) false ⟨#[], #[.agg #[.int .i64 0, .int .i64 0, .int .i64 0], .agg #[.int .i64 0, .int .i64 0, .int .i64 0]], []⟩ 8 (by kernel_rfl) (by kernel_rfl) (by kernel_rfl) (by kernel_rfl)) ?_
  intro W base args ds gs before hval0 hW hcnd _
  have hval : ∀ (j : Nat) t v, Try.f10.params[j]? = some t → args[j]? = some v → Value.okWide Try.prog W .any base t v := hval0
  have hW' := hW
  obtain ⟨p, q, hA0, hV, e0, hfz, hnd⟩ := hW
  clear e0 hfz hnd hcnd
  have hA : DataW.TrodAll enc Try.prog W 0 (fun _ => true) true Try.f10.params.toList args.toList ds p := hA0
  rw [Try.params10] at hA hval
  obtain ⟨v0, vs0, d0, ds0, p0, q0, hargs, rfl, e0, h0, r0⟩ := trodAll_cons hA
  obtain ⟨v1, vs1, d1, ds1, p1, q1, rfl, rfl, e1, h1, r1⟩ := trodAll_cons r0
  obtain ⟨rfl, rfl, eN⟩ := trodAll_nil r1
  obtain rfl : args = #[v0, v1] := by cases args; simp_all
  obtain ⟨x0, y0, z0, rfl, wx0, wy0, wz0⟩ := open_three Try.underlying42 (by kernel_rfl) (by kernel_rfl) rfl rfl rfl Try.underlying3 (hval 0 42 v0 rfl rfl) h0
  obtain ⟨x1, y1, z1, rfl, wx1, wy1, wz1⟩ := open_three Try.underlying42 (by kernel_rfl) (by kernel_rfl) rfl rfl rfl Try.underlying3 (hval 1 42 v1 rfl rfl) h1
  refine (walk x0 y0 z0 wx0 wy0 wz0 x1 y1 z1 wx1 wy1 wz1 W).mono fun e W' ⟨he, hb⟩ => ?_
  subst he
  exact ⟨_, rfl, law_post laid_ (by kernel_rfl) hW' rfl rfl (by kernel_rfl) Try.underlying4 hb⟩

theorem over : Rows.tileidRangeRow.holds Try.pinned (OpenSpec.ofChange Rows.tileidRangeSpec) :=
  OpenClaim.holds_of_wide 10 Try.f10 rfl rfl rfl rfl rfl rfl rfl ⟨rfl, rfl, rfl, rfl, rfl⟩ rfl rfl rfl rfl rfl (by kernel_rfl) Try.func10 (by kernel_rfl)
    (of_decide_eq_true (by kernel_rfl)) (by unfold Func.isWrapper; first | (rw [if_pos (by decide +kernel)]; kernel_rfl) | (rw [if_neg (by decide +kernel)]; exact ⟨rfl, rfl⟩))
    (fun os started H enc _ => lifted os started H enc)

theorem proved : Rows.TileidRangeSaid := over
end Go.Proofs.Ytdipincjginmcaa.tileidRange
