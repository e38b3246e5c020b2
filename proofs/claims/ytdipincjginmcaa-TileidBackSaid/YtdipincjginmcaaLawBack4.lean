/- TileidBack: at every input a tile is its identifier's and an identifier is its tile's, tiles of lower zooms have lower ones, and the law returns true. -/
import Derived.Test.YtdipincjginmcaaLaw
import Derived.Test.YtdipincjginmcaaTileFacts
namespace Go.Proofs.Ytdipincjginmcaa.tileidBack
open Go.ChangeShapes Go.WideShapes Go.ChangeAt Go.RowKit
set_option linter.unusedVariables false

theorem blk_keep2 {w1 w2 : World} {g : Nat} {o : Obj} (hb : Below w1.heap.size w1 w2) (h : w1.heap[g]? = some o) : w2.heap[g]? = some o := (hb.block g (blk_lt h)).trans h
theorem bthen2 {w w1 w2 : World} (k : Below w1.heap.size w1 w2) (h : Below w.heap.size w w1) : Below w.heap.size w w2 := bthen h k

set_option maxHeartbeats 1000000 in
theorem back_abli (x0 y0 z0 x1 y1 z1 a2 : Int) (d0 : 0 ≤ a2) (d1 : a2 ≤ 18446744073709551615) (h : Cv.okB x0 y0 z0 = true) (k : Cv.okB x1 y1 z1 = true) (c : x0 < x1) (i : a2 < 6004799503160661) (w : World) :
    Calls Try.prog 9 #[.agg #[.int .i64 x0, .int .i64 y0, .int .i64 z0], .agg #[.int .i64 x1, .int .i64 y1, .int .i64 z1], .int .u64 a2] w fun e w' => e = .returned (.bool true) ∧ Below w.heap.size w w' := by
  have hq := eq_rtile
  have hqn := neq_tile
  have ht : ∀ a b c : Int, Cv.teq a b c a b c = true := fun a b c => by unfold Cv.teq; simp
  have hpe := Cv.pe_ok h
  obtain ⟨t0, t1, t2, t3, t4, t5, t6⟩ := Cv.of_tid h
  have kpe := Cv.pe_ok k
  have hte := Cv.tid_eq h k
  have hlo := Cv.tid_lower h k c
  obtain ⟨u0, u1, u2⟩ := Cv.tid_of d0 i
  have upe := Cv.pe_ok u0
  clear u0
  clear h k
  go_enter Try.func9, Try.ntmps9
  go_wp2_with fail
  refine (id_any _ _ _ _).mono ?_; rintro e w1 ⟨rfl, hb1⟩
  obtain ⟨hA, hB, hsA, hsB, hw1⟩ := blk_two hb1
  have HA := Lib.hid hA
  have HB := Lib.hid hB
  obtain ⟨⟨b0, b1, b2⟩, _⟩ := blk_cells3 hB
  clear hA hB
  go_wp2_with fail
  refine (id_any _ _ _ _).mono ?_; rintro e w2 ⟨rfl, hb2⟩
  have hw2 := bthen hw1 hb2
  clear b0 b1 b2
  have hA2 := blk_keep2 hb2 HA.out
  have hB2 := blk_keep2 hb2 HB.out
  have HA2 := Lib.hid hA2
  have HB2 := Lib.hid hB2
  clear HA HB hA2 hB2
  go_wp2_with fail
  refine (of_any _ t0 (by omega) _).mono ?_; rintro e w3 ⟨rfl, hb3⟩
  have hw3a := bthen hw2 hb3
  have hA3 := blk_keep2 hb3 HA2.out
  have hB3 := blk_keep2 hb3 HB2.out
  have g3 := blk_lt hA3
  have g4 := blk_lt hB3
  obtain ⟨⟨a0, a1, a2'⟩, _⟩ := blk_cells3 hA3
  obtain ⟨⟨b0, b1, b2⟩, _⟩ := blk_cells3 hB3
  have hw3 := hw3a.alloc hw3a.size (.cells #[.int .i64 x0, .int .i64 y0, .int .i64 z0] 44)
  clear HA2 HB2 hA3 hB3
  go_wp2_with fail
  go_quiet ((go_at_call 29; exact quiet_left (zoom_any _ t0 _)))
  go_wp2_with fail
  refine (of_any _ d0 d1 _).mono ?_; rintro e w4 ⟨rfl, hb4⟩
  have hw4 := bthen2 hb4 (bdraws hw3 _)
  go_wp2_with fail
  refine (id_any _ _ _ _).mono ?_; rintro e w5 ⟨rfl, hb5⟩
  obtain ⟨_, hs5, hw5'⟩ := blk_one hb5
  have hw5 := bthen hw4 hw5'
  go_wp2_with fail
  refine (awake04 _).mono ?_; rintro e w9 ⟨rfl, hb9⟩
  go_wp2_with fail
  go_ret
  exact ⟨rfl, bthen hw5 hb9⟩

set_option maxHeartbeats 1000000 in
theorem back_ablo (x0 y0 z0 x1 y1 z1 a2 : Int) (d0 : 0 ≤ a2) (d1 : a2 ≤ 18446744073709551615) (h : Cv.okB x0 y0 z0 = true) (k : Cv.okB x1 y1 z1 = true) (c : x0 < x1) (i : 6004799503160661 ≤ a2) (w : World) :
    Calls Try.prog 9 #[.agg #[.int .i64 x0, .int .i64 y0, .int .i64 z0], .agg #[.int .i64 x1, .int .i64 y1, .int .i64 z1], .int .u64 a2] w fun e w' => e = .returned (.bool true) ∧ Below w.heap.size w w' := by
  have hq := eq_rtile
  have hqn := neq_tile
  have ht : ∀ a b c : Int, Cv.teq a b c a b c = true := fun a b c => by unfold Cv.teq; simp
  have hpe := Cv.pe_ok h
  obtain ⟨t0, t1, t2, t3, t4, t5, t6⟩ := Cv.of_tid h
  have kpe := Cv.pe_ok k
  have hte := Cv.tid_eq h k
  have hlo := Cv.tid_lower h k c
  have u1 : Cv.zv a2 = -1 := by unfold Cv.zv; rw [if_neg (by omega)]
  have u2 : Cv.oe a2 = 8 := by unfold Cv.oe; rw [if_neg (by omega)]
  clear h k
  go_enter Try.func9, Try.ntmps9
  go_wp2_with fail
  refine (id_any _ _ _ _).mono ?_; rintro e w1 ⟨rfl, hb1⟩
  obtain ⟨hA, hB, hsA, hsB, hw1⟩ := blk_two hb1
  have HA := Lib.hid hA
  have HB := Lib.hid hB
  obtain ⟨⟨b0, b1, b2⟩, _⟩ := blk_cells3 hB
  clear hA hB
  go_wp2_with fail
  refine (id_any _ _ _ _).mono ?_; rintro e w2 ⟨rfl, hb2⟩
  have hw2 := bthen hw1 hb2
  clear b0 b1 b2
  have hA2 := blk_keep2 hb2 HA.out
  have hB2 := blk_keep2 hb2 HB.out
  have HA2 := Lib.hid hA2
  have HB2 := Lib.hid hB2
  clear HA HB hA2 hB2
  go_wp2_with fail
  refine (of_any _ t0 (by omega) _).mono ?_; rintro e w3 ⟨rfl, hb3⟩
  have hw3a := bthen hw2 hb3
  have hA3 := blk_keep2 hb3 HA2.out
  have hB3 := blk_keep2 hb3 HB2.out
  have g3 := blk_lt hA3
  have g4 := blk_lt hB3
  obtain ⟨⟨a0, a1, a2'⟩, _⟩ := blk_cells3 hA3
  obtain ⟨⟨b0, b1, b2⟩, _⟩ := blk_cells3 hB3
  have hw3 := hw3a.alloc hw3a.size (.cells #[.int .i64 x0, .int .i64 y0, .int .i64 z0] 44)
  clear HA2 HB2 hA3 hB3
  go_wp2_with fail
  go_quiet ((go_at_call 29; exact quiet_left (zoom_any _ t0 _)))
  go_wp2_with fail
  refine (of_any _ d0 d1 _).mono ?_; rintro e w4 ⟨rfl, hb4⟩
  have hw4 := bthen2 hb4 (bdraws hw3 _)
  go_wp2_with fail
  refine (zoom_any _ d0 _).mono ?_; rintro e w' ⟨rfl, rfl⟩
  go_wp2_with fail
  refine (awake04 _).mono ?_; rintro e w9 ⟨rfl, hb9⟩
  go_wp2_with fail
  go_ret
  exact ⟨rfl, bthen (hw4.alloc hw4.size _) hb9⟩

set_option maxHeartbeats 1000000 in
theorem back_abgi (x0 y0 z0 x1 y1 z1 a2 : Int) (d0 : 0 ≤ a2) (d1 : a2 ≤ 18446744073709551615) (h : Cv.okB x0 y0 z0 = true) (k : Cv.okB x1 y1 z1 = true) (c : x1 ≤ x0) (i : a2 < 6004799503160661) (w : World) :
    Calls Try.prog 9 #[.agg #[.int .i64 x0, .int .i64 y0, .int .i64 z0], .agg #[.int .i64 x1, .int .i64 y1, .int .i64 z1], .int .u64 a2] w fun e w' => e = .returned (.bool true) ∧ Below w.heap.size w w' := by
  have hq := eq_rtile
  have hqn := neq_tile
  have ht : ∀ a b c : Int, Cv.teq a b c a b c = true := fun a b c => by unfold Cv.teq; simp
  have hpe := Cv.pe_ok h
  obtain ⟨t0, t1, t2, t3, t4, t5, t6⟩ := Cv.of_tid h
  have kpe := Cv.pe_ok k
  have hte := Cv.tid_eq h k
  obtain ⟨u0, u1, u2⟩ := Cv.tid_of d0 i
  have upe := Cv.pe_ok u0
  clear u0
  clear h k
  go_enter Try.func9, Try.ntmps9
  go_wp2_with fail
  refine (id_any _ _ _ _).mono ?_; rintro e w1 ⟨rfl, hb1⟩
  obtain ⟨hA, hB, hsA, hsB, hw1⟩ := blk_two hb1
  have HA := Lib.hid hA
  have HB := Lib.hid hB
  obtain ⟨⟨b0, b1, b2⟩, _⟩ := blk_cells3 hB
  clear hA hB
  go_wp2_with fail
  refine (id_any _ _ _ _).mono ?_; rintro e w2 ⟨rfl, hb2⟩
  have hw2 := bthen hw1 hb2
  clear b0 b1 b2
  have hA2 := blk_keep2 hb2 HA.out
  have hB2 := blk_keep2 hb2 HB.out
  have HA2 := Lib.hid hA2
  have HB2 := Lib.hid hB2
  clear HA HB hA2 hB2
  go_wp2_with fail
  refine (of_any _ t0 (by omega) _).mono ?_; rintro e w3 ⟨rfl, hb3⟩
  have hw3a := bthen hw2 hb3
  have hA3 := blk_keep2 hb3 HA2.out
  have hB3 := blk_keep2 hb3 HB2.out
  have g3 := blk_lt hA3
  have g4 := blk_lt hB3
  obtain ⟨⟨a0, a1, a2'⟩, _⟩ := blk_cells3 hA3
  obtain ⟨⟨b0, b1, b2⟩, _⟩ := blk_cells3 hB3
  have hw3 := hw3a.alloc hw3a.size (.cells #[.int .i64 x0, .int .i64 y0, .int .i64 z0] 44)
  clear HA2 HB2 hA3 hB3
  go_wp2_with fail
  go_quiet ((go_at_call 29; exact quiet_left (zoom_any _ t0 _)))
  go_wp2_with fail
  refine (of_any _ d0 d1 _).mono ?_; rintro e w4 ⟨rfl, hb4⟩
  have hw4 := bthen2 hb4 (bdraws hw3 _)
  go_wp2_with fail
  refine (id_any _ _ _ _).mono ?_; rintro e w5 ⟨rfl, hb5⟩
  obtain ⟨_, hs5, hw5'⟩ := blk_one hb5
  have hw5 := bthen hw4 hw5'
  go_wp2_with fail
  refine (awake04 _).mono ?_; rintro e w9 ⟨rfl, hb9⟩
  go_wp2_with fail
  go_ret
  exact ⟨rfl, bthen hw5 hb9⟩

set_option maxHeartbeats 1000000 in
theorem back_abgo (x0 y0 z0 x1 y1 z1 a2 : Int) (d0 : 0 ≤ a2) (d1 : a2 ≤ 18446744073709551615) (h : Cv.okB x0 y0 z0 = true) (k : Cv.okB x1 y1 z1 = true) (c : x1 ≤ x0) (i : 6004799503160661 ≤ a2) (w : World) :
    Calls Try.prog 9 #[.agg #[.int .i64 x0, .int .i64 y0, .int .i64 z0], .agg #[.int .i64 x1, .int .i64 y1, .int .i64 z1], .int .u64 a2] w fun e w' => e = .returned (.bool true) ∧ Below w.heap.size w w' := by
  have hq := eq_rtile
  have hqn := neq_tile
  have ht : ∀ a b c : Int, Cv.teq a b c a b c = true := fun a b c => by unfold Cv.teq; simp
  have hpe := Cv.pe_ok h
  obtain ⟨t0, t1, t2, t3, t4, t5, t6⟩ := Cv.of_tid h
  have kpe := Cv.pe_ok k
  have hte := Cv.tid_eq h k
  have u1 : Cv.zv a2 = -1 := by unfold Cv.zv; rw [if_neg (by omega)]
  have u2 : Cv.oe a2 = 8 := by unfold Cv.oe; rw [if_neg (by omega)]
  clear h k
  go_enter Try.func9, Try.ntmps9
  go_wp2_with fail
  refine (id_any _ _ _ _).mono ?_; rintro e w1 ⟨rfl, hb1⟩
  obtain ⟨hA, hB, hsA, hsB, hw1⟩ := blk_two hb1
  have HA := Lib.hid hA
  have HB := Lib.hid hB
  obtain ⟨⟨b0, b1, b2⟩, _⟩ := blk_cells3 hB
  clear hA hB
  go_wp2_with fail
  refine (id_any _ _ _ _).mono ?_; rintro e w2 ⟨rfl, hb2⟩
  have hw2 := bthen hw1 hb2
  clear b0 b1 b2
  have hA2 := blk_keep2 hb2 HA.out
  have hB2 := blk_keep2 hb2 HB.out
  have HA2 := Lib.hid hA2
  have HB2 := Lib.hid hB2
  clear HA HB hA2 hB2
  go_wp2_with fail
  refine (of_any _ t0 (by omega) _).mono ?_; rintro e w3 ⟨rfl, hb3⟩
  have hw3a := bthen hw2 hb3
  have hA3 := blk_keep2 hb3 HA2.out
  have hB3 := blk_keep2 hb3 HB2.out
  have g3 := blk_lt hA3
  have g4 := blk_lt hB3
  obtain ⟨⟨a0, a1, a2'⟩, _⟩ := blk_cells3 hA3
  obtain ⟨⟨b0, b1, b2⟩, _⟩ := blk_cells3 hB3
  have hw3 := hw3a.alloc hw3a.size (.cells #[.int .i64 x0, .int .i64 y0, .int .i64 z0] 44)
  clear HA2 HB2 hA3 hB3
  go_wp2_with fail
  go_quiet ((go_at_call 29; exact quiet_left (zoom_any _ t0 _)))
  go_wp2_with fail
  refine (of_any _ d0 d1 _).mono ?_; rintro e w4 ⟨rfl, hb4⟩
  have hw4 := bthen2 hb4 (bdraws hw3 _)
  go_wp2_with fail
  refine (zoom_any _ d0 _).mono ?_; rintro e w' ⟨rfl, rfl⟩
  go_wp2_with fail
  refine (awake04 _).mono ?_; rintro e w9 ⟨rfl, hb9⟩
  go_wp2_with fail
  go_ret
  exact ⟨rfl, bthen (hw4.alloc hw4.size _) hb9⟩

set_option maxHeartbeats 1000000 in
theorem back_angi (x0 y0 z0 x1 y1 z1 a2 : Int) (d0 : 0 ≤ a2) (d1 : a2 ≤ 18446744073709551615) (h : Cv.okB x0 y0 z0 = true) (k : Cv.okB x1 y1 z1 = false) (i : a2 < 6004799503160661) (w : World) :
    Calls Try.prog 9 #[.agg #[.int .i64 x0, .int .i64 y0, .int .i64 z0], .agg #[.int .i64 x1, .int .i64 y1, .int .i64 z1], .int .u64 a2] w fun e w' => e = .returned (.bool true) ∧ Below w.heap.size w w' := by
  have hq := eq_rtile
  have hqn := neq_tile
  have ht : ∀ a b c : Int, Cv.teq a b c a b c = true := fun a b c => by unfold Cv.teq; simp
  have hpe := Cv.pe_ok h
  obtain ⟨t0, t1, t2, t3, t4, t5, t6⟩ := Cv.of_tid h
  have kpe : (Cv.pe x1 y1 z1 == 0) = false := by rcases Cv.pe_not k with q | q <;> rw [q] <;> rfl
  obtain ⟨u0, u1, u2⟩ := Cv.tid_of d0 i
  have upe := Cv.pe_ok u0
  clear u0
  clear h k
  go_enter Try.func9, Try.ntmps9
  go_wp2_with fail
  refine (id_any _ _ _ _).mono ?_; rintro e w1 ⟨rfl, hb1⟩
  obtain ⟨hA, hB, hsA, hsB, hw1⟩ := blk_two hb1
  have HA := Lib.hid hA
  have HB := Lib.hid hB
  obtain ⟨⟨b0, b1, b2⟩, _⟩ := blk_cells3 hB
  clear hA hB
  go_wp2_with fail
  refine (id_any _ _ _ _).mono ?_; rintro e w2 ⟨rfl, hb2⟩
  have hw2 := bthen hw1 hb2
  clear b0 b1 b2
  have hA2 := blk_keep2 hb2 HA.out
  have hB2 := blk_keep2 hb2 HB.out
  have HA2 := Lib.hid hA2
  have HB2 := Lib.hid hB2
  clear HA HB hA2 hB2
  go_wp2_with fail
  refine (of_any _ t0 (by omega) _).mono ?_; rintro e w3 ⟨rfl, hb3⟩
  have hw3a := bthen hw2 hb3
  have hA3 := blk_keep2 hb3 HA2.out
  have hB3 := blk_keep2 hb3 HB2.out
  have g3 := blk_lt hA3
  have g4 := blk_lt hB3
  obtain ⟨⟨a0, a1, a2'⟩, _⟩ := blk_cells3 hA3
  obtain ⟨⟨b0, b1, b2⟩, _⟩ := blk_cells3 hB3
  have hw3 := hw3a.alloc hw3a.size (.cells #[.int .i64 x0, .int .i64 y0, .int .i64 z0] 44)
  clear HA2 HB2 hA3 hB3
  go_wp2_with fail
  go_quiet ((go_at_call 29; exact quiet_left (zoom_any _ t0 _)))
  go_wp2_with fail
  refine (of_any _ d0 d1 _).mono ?_; rintro e w4 ⟨rfl, hb4⟩
  have hw4 := bthen2 hb4 (bdraws hw3 _)
  go_wp2_with fail
  refine (id_any _ _ _ _).mono ?_; rintro e w5 ⟨rfl, hb5⟩
  obtain ⟨_, hs5, hw5'⟩ := blk_one hb5
  have hw5 := bthen hw4 hw5'
  go_wp2_with fail
  refine (awake04 _).mono ?_; rintro e w9 ⟨rfl, hb9⟩
  go_wp2_with fail
  go_ret
  exact ⟨rfl, bthen hw5 hb9⟩

set_option maxHeartbeats 1000000 in
theorem back_ango (x0 y0 z0 x1 y1 z1 a2 : Int) (d0 : 0 ≤ a2) (d1 : a2 ≤ 18446744073709551615) (h : Cv.okB x0 y0 z0 = true) (k : Cv.okB x1 y1 z1 = false) (i : 6004799503160661 ≤ a2) (w : World) :
    Calls Try.prog 9 #[.agg #[.int .i64 x0, .int .i64 y0, .int .i64 z0], .agg #[.int .i64 x1, .int .i64 y1, .int .i64 z1], .int .u64 a2] w fun e w' => e = .returned (.bool true) ∧ Below w.heap.size w w' := by
  have hq := eq_rtile
  have hqn := neq_tile
  have ht : ∀ a b c : Int, Cv.teq a b c a b c = true := fun a b c => by unfold Cv.teq; simp
  have hpe := Cv.pe_ok h
  obtain ⟨t0, t1, t2, t3, t4, t5, t6⟩ := Cv.of_tid h
  have kpe : (Cv.pe x1 y1 z1 == 0) = false := by rcases Cv.pe_not k with q | q <;> rw [q] <;> rfl
  have u1 : Cv.zv a2 = -1 := by unfold Cv.zv; rw [if_neg (by omega)]
  have u2 : Cv.oe a2 = 8 := by unfold Cv.oe; rw [if_neg (by omega)]
  clear h k
  go_enter Try.func9, Try.ntmps9
  go_wp2_with fail
  refine (id_any _ _ _ _).mono ?_; rintro e w1 ⟨rfl, hb1⟩
  obtain ⟨hA, hB, hsA, hsB, hw1⟩ := blk_two hb1
  have HA := Lib.hid hA
  have HB := Lib.hid hB
  obtain ⟨⟨b0, b1, b2⟩, _⟩ := blk_cells3 hB
  clear hA hB
  go_wp2_with fail
  refine (id_any _ _ _ _).mono ?_; rintro e w2 ⟨rfl, hb2⟩
  have hw2 := bthen hw1 hb2
  clear b0 b1 b2
  have hA2 := blk_keep2 hb2 HA.out
  have hB2 := blk_keep2 hb2 HB.out
  have HA2 := Lib.hid hA2
  have HB2 := Lib.hid hB2
  clear HA HB hA2 hB2
  go_wp2_with fail
  refine (of_any _ t0 (by omega) _).mono ?_; rintro e w3 ⟨rfl, hb3⟩
  have hw3a := bthen hw2 hb3
  have hA3 := blk_keep2 hb3 HA2.out
  have hB3 := blk_keep2 hb3 HB2.out
  have g3 := blk_lt hA3
  have g4 := blk_lt hB3
  obtain ⟨⟨a0, a1, a2'⟩, _⟩ := blk_cells3 hA3
  obtain ⟨⟨b0, b1, b2⟩, _⟩ := blk_cells3 hB3
  have hw3 := hw3a.alloc hw3a.size (.cells #[.int .i64 x0, .int .i64 y0, .int .i64 z0] 44)
  clear HA2 HB2 hA3 hB3
  go_wp2_with fail
  go_quiet ((go_at_call 29; exact quiet_left (zoom_any _ t0 _)))
  go_wp2_with fail
  refine (of_any _ d0 d1 _).mono ?_; rintro e w4 ⟨rfl, hb4⟩
  have hw4 := bthen2 hb4 (bdraws hw3 _)
  go_wp2_with fail
  refine (zoom_any _ d0 _).mono ?_; rintro e w' ⟨rfl, rfl⟩
  go_wp2_with fail
  refine (awake04 _).mono ?_; rintro e w9 ⟨rfl, hb9⟩
  go_wp2_with fail
  go_ret
  exact ⟨rfl, bthen (hw4.alloc hw4.size _) hb9⟩

set_option maxHeartbeats 1000000 in
theorem back_nngi (x0 y0 z0 x1 y1 z1 a2 : Int) (d0 : 0 ≤ a2) (d1 : a2 ≤ 18446744073709551615) (h : Cv.okB x0 y0 z0 = false) (i : a2 < 6004799503160661) (w : World) :
    Calls Try.prog 9 #[.agg #[.int .i64 x0, .int .i64 y0, .int .i64 z0], .agg #[.int .i64 x1, .int .i64 y1, .int .i64 z1], .int .u64 a2] w fun e w' => e = .returned (.bool true) ∧ Below w.heap.size w w' := by
  have hq := eq_rtile
  have hqn := neq_tile
  have ht : ∀ a b c : Int, Cv.teq a b c a b c = true := fun a b c => by unfold Cv.teq; simp
  have hpe : (Cv.pe x0 y0 z0 == 0) = false := by rcases Cv.pe_not h with q | q <;> rw [q] <;> rfl
  obtain ⟨u0, u1, u2⟩ := Cv.tid_of d0 i
  have upe := Cv.pe_ok u0
  clear u0
  clear h
  go_enter Try.func9, Try.ntmps9
  go_wp2_with fail
  refine (id_any _ _ _ _).mono ?_; rintro e w1 ⟨rfl, hb1⟩
  obtain ⟨hA, hB, hsA, hsB, hw1⟩ := blk_two hb1
  have HA := Lib.hid hA
  have HB := Lib.hid hB
  obtain ⟨⟨b0, b1, b2⟩, _⟩ := blk_cells3 hB
  clear hA hB
  go_wp2_with fail
  refine (id_any _ _ _ _).mono ?_; rintro e w2 ⟨rfl, hb2⟩
  have hw2 := bthen hw1 hb2
  clear b0 b1 b2
  have hA2 := blk_keep2 hb2 HA.out
  have hB2 := blk_keep2 hb2 HB.out
  obtain ⟨⟨a0, a1, a2'⟩, _⟩ := blk_cells3 hA2
  obtain ⟨⟨b0, b1, b2⟩, _⟩ := blk_cells3 hB2
  have hw3 := hw2
  clear hA2 hB2 HA HB
  go_wp2_with fail
  refine (of_any _ d0 d1 _).mono ?_; rintro e w4 ⟨rfl, hb4⟩
  have hw4 := bthen2 hb4 hw3
  go_wp2_with fail
  refine (id_any _ _ _ _).mono ?_; rintro e w5 ⟨rfl, hb5⟩
  obtain ⟨_, hs5, hw5'⟩ := blk_one hb5
  have hw5 := bthen hw4 hw5'
  go_wp2_with fail
  refine (awake04 _).mono ?_; rintro e w9 ⟨rfl, hb9⟩
  go_wp2_with fail
  go_ret
  exact ⟨rfl, bthen hw5 hb9⟩

set_option maxHeartbeats 1000000 in
theorem back_nngo (x0 y0 z0 x1 y1 z1 a2 : Int) (d0 : 0 ≤ a2) (d1 : a2 ≤ 18446744073709551615) (h : Cv.okB x0 y0 z0 = false) (i : 6004799503160661 ≤ a2) (w : World) :
    Calls Try.prog 9 #[.agg #[.int .i64 x0, .int .i64 y0, .int .i64 z0], .agg #[.int .i64 x1, .int .i64 y1, .int .i64 z1], .int .u64 a2] w fun e w' => e = .returned (.bool true) ∧ Below w.heap.size w w' := by
  have hq := eq_rtile
  have hqn := neq_tile
  have ht : ∀ a b c : Int, Cv.teq a b c a b c = true := fun a b c => by unfold Cv.teq; simp
  have hpe : (Cv.pe x0 y0 z0 == 0) = false := by rcases Cv.pe_not h with q | q <;> rw [q] <;> rfl
  have u1 : Cv.zv a2 = -1 := by unfold Cv.zv; rw [if_neg (by omega)]
  have u2 : Cv.oe a2 = 8 := by unfold Cv.oe; rw [if_neg (by omega)]
  clear h
  go_enter Try.func9, Try.ntmps9
  go_wp2_with fail
  refine (id_any _ _ _ _).mono ?_; rintro e w1 ⟨rfl, hb1⟩
  obtain ⟨hA, hB, hsA, hsB, hw1⟩ := blk_two hb1
  have HA := Lib.hid hA
  have HB := Lib.hid hB
  obtain ⟨⟨b0, b1, b2⟩, _⟩ := blk_cells3 hB
  clear hA hB
  go_wp2_with fail
  refine (id_any _ _ _ _).mono ?_; rintro e w2 ⟨rfl, hb2⟩
  have hw2 := bthen hw1 hb2
  clear b0 b1 b2
  have hA2 := blk_keep2 hb2 HA.out
  have hB2 := blk_keep2 hb2 HB.out
  obtain ⟨⟨a0, a1, a2'⟩, _⟩ := blk_cells3 hA2
  obtain ⟨⟨b0, b1, b2⟩, _⟩ := blk_cells3 hB2
  have hw3 := hw2
  clear hA2 hB2 HA HB
  go_wp2_with fail
  refine (of_any _ d0 d1 _).mono ?_; rintro e w4 ⟨rfl, hb4⟩
  have hw4 := bthen2 hb4 hw3
  go_wp2_with fail
  refine (zoom_any _ d0 _).mono ?_; rintro e w' ⟨rfl, rfl⟩
  go_wp2_with fail
  refine (awake04 _).mono ?_; rintro e w9 ⟨rfl, hb9⟩
  go_wp2_with fail
  go_ret
  exact ⟨rfl, bthen (hw4.alloc hw4.size _) hb9⟩

theorem walk (x0 y0 z0 : Int) (wx0 : (Lit.int .i64 x0).wf = true) (wy0 : (Lit.int .i64 y0).wf = true) (wz0 : (Lit.int .i64 z0).wf = true) (x1 y1 z1 : Int) (wx1 : (Lit.int .i64 x1).wf = true) (wy1 : (Lit.int .i64 y1).wf = true) (wz1 : (Lit.int .i64 z1).wf = true) (a2 : Int) (w2 : (Lit.int .u64 a2).wf = true) (w : World) :
    Calls Try.prog 9 #[.agg #[.int .i64 x0, .int .i64 y0, .int .i64 z0], .agg #[.int .i64 x1, .int .i64 y1, .int .i64 z1], .int .u64 a2] w fun e w' => e = .returned (.bool true) ∧ Below w.heap.size w w' := by
  obtain ⟨d0, d1⟩ := bd_u64 w2
  by_cases i : a2 < 6004799503160661
  · rcases Bool.eq_false_or_eq_true (Cv.okB x0 y0 z0) with h | h
    · rcases Bool.eq_false_or_eq_true (Cv.okB x1 y1 z1) with k | k
      · by_cases c : x0 < x1
        · exact back_abli _ _ _ _ _ _ _ d0 d1 h k c i w
        · exact back_abgi _ _ _ _ _ _ _ d0 d1 h k (by omega) i w
      · exact back_angi _ _ _ _ _ _ _ d0 d1 h k i w
    · exact back_nngi _ _ _ _ _ _ _ d0 d1 h i w
  · rcases Bool.eq_false_or_eq_true (Cv.okB x0 y0 z0) with h | h
    · rcases Bool.eq_false_or_eq_true (Cv.okB x1 y1 z1) with k | k
      · by_cases c : x0 < x1
        · exact back_ablo _ _ _ _ _ _ _ d0 d1 h k c (by omega) w
        · exact back_abgo _ _ _ _ _ _ _ d0 d1 h k (by omega) (by omega) w
      · exact back_ango _ _ _ _ _ _ _ d0 d1 h k (by omega) w
    · exact back_nngo _ _ _ _ _ _ _ d0 d1 h (by omega) w

set_option maxRecDepth 100000 in
theorem lifted (os : Os) (started : os.Started) (H : Type) (enc : TypeId × Value → H) :
    ReturnsInHanded {} Try.checked os 9 .any (Rows.tileidBackSpec.pre6 enc Try.prog Try.f9 Rows.tileidBackRow.domain false) (Rows.tileidBackSpec.post enc Try.prog Try.f9 false true false false) := by
  refine returnsInHanded_of_change (C := Try.checked) own_ started (by kernel_rfl) Try.func9
    (ChangeSpec.witness6 (enc := enc) (C := Try.checked) false ⟨#[], #[.agg #[.int .i64 0, .int .i64 0, .int .i64 0], .agg #[.int .i64 0, .int .i64 0, .int .i64 0], .int .u64 0], []⟩ 8 (by kernel_rfl) (by kernel_rfl) (by kernel_rfl) (by kernel_rfl)) ?_
  intro W base args ds gs before hval0 hW hcnd _
  have hval : ∀ (j : Nat) t v, Try.f9.params[j]? = some t → args[j]? = some v → Value.okWide Try.prog W .any base t v := hval0
  have hW' := hW
  obtain ⟨p, q, hA0, hV, e0, hfz, hnd⟩ := hW
  clear e0 hfz hnd hcnd
  have hA : DataW.TrodAll enc Try.prog W 0 (fun _ => true) true Try.f9.params.toList args.toList ds p := hA0
  rw [Try.params9] at hA hval
  obtain ⟨v0, vs0, d0, ds0, p0, q0, hargs, rfl, e0, h0, r0⟩ := trodAll_cons hA
  obtain ⟨v1, vs1, d1, ds1, p1, q1, rfl, rfl, e1, h1, r1⟩ := trodAll_cons r0
  obtain ⟨v2, vs2, d2, ds2, p2, q2, rfl, rfl, e2, h2, r2⟩ := trodAll_cons r1
  obtain ⟨rfl, rfl, eN⟩ := trodAll_nil r2
  obtain rfl : args = #[v0, v1, v2] := by cases args; simp_all
  obtain ⟨x0, y0, z0, rfl, wx0, wy0, wz0⟩ := open_three Try.underlying42 (by kernel_rfl) (by kernel_rfl) rfl rfl rfl Try.underlying3 (hval 0 42 v0 rfl rfl) h0
  obtain ⟨x1, y1, z1, rfl, wx1, wy1, wz1⟩ := open_three Try.underlying42 (by kernel_rfl) (by kernel_rfl) rfl rfl rfl Try.underlying3 (hval 1 42 v1 rfl rfl) h1
  obtain ⟨a2, rfl, _, _, w2⟩ := open_int Try.underlying22 (hval 2 22 v2 rfl rfl) h2
  refine (walk x0 y0 z0 wx0 wy0 wz0 x1 y1 z1 wx1 wy1 wz1 a2 w2 W).mono fun e W' ⟨he, hb⟩ => ?_
  subst he
  exact ⟨_, rfl, law_post laid_ (by kernel_rfl) hW' rfl rfl (by kernel_rfl) Try.underlying4 hb⟩

theorem over : Rows.tileidBackRow.holds Try.pinned (OpenSpec.ofChange Rows.tileidBackSpec) :=
  OpenClaim.holds_of_wide 9 Try.f9 rfl rfl rfl rfl rfl rfl rfl ⟨rfl, rfl, rfl, rfl, rfl⟩ rfl rfl rfl rfl rfl (by kernel_rfl) Try.func9 (by kernel_rfl)
    (of_decide_eq_true (by kernel_rfl)) (by unfold Func.isWrapper; first | (rw [if_pos (by decide +kernel)]; kernel_rfl) | (rw [if_neg (by decide +kernel)]; exact ⟨rfl, rfl⟩))
    (fun os started H enc _ => lifted os started H enc)

theorem proved : Rows.TileidBackSaid := over
end Go.Proofs.Ytdipincjginmcaa.tileidBack
