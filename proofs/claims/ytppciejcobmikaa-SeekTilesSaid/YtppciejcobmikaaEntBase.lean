/- Entries: how wide, where the end, whether one may be. -/
import Derived.Test.YtppciejcobmikaaEntMath
import Derived.Deep.RegionHeld3
import Derived.Deep.DrawnRows
namespace Go.Proofs.Ytppciejcobmikaa
open Go.RowKit

theorem held_then {w w1 w2 : World} (k : Below w1.heap.size w1 w2) (h : Below w.heap.size w w1) : Below w.heap.size w w2 := bthen h k
theorem wide_any (i o l r : Int) (h : 0 ≤ r) (h' : r < 4294967296) (w : World) :
    Calls Try.prog 57 #[.agg #[.int .u64 i, .int .u64 o, .int .u32 l, .int .u32 r]] w fun e w' => e = .returned (.int .u64 (En.wd r)) ∧ Below w.heap.size w w' := by
  go_enter Try.func57, Try.ntmps57
  go_wp2_with fail
  all_goals
    go_ret
    exact ⟨ret1 (by unfold En.wd; split <;> omega), blk_new _ _⟩
theorem end_any (i o l r : Int) (h : En.fit i o l r) (c : o ≤ 1099511627776) (w : World) :
    Calls Try.prog 58 #[.agg #[.int .u64 i, .int .u64 o, .int .u32 l, .int .u32 r]] w fun e w' => e = .returned (.int .u64 (o + l)) ∧ Below w.heap.size w w' := by
  obtain ⟨⟨i0, i1⟩, ⟨o0, o1⟩, ⟨l0, l1⟩, r0, r1⟩ := h
  go_enter Try.func58, Try.ntmps58
  go_wp2_with fail
  go_ret
  exact ⟨rfl, blk_new _ _⟩
theorem refwide_any (i o l r : Int) (h : 0 ≤ r) (h' : r < 4294967296) (w : World) :
    Calls Try.prog 59 #[.agg #[.int .u64 i, .int .u64 o, .int .u32 l, .int .u32 r]] w fun e w' => e = .returned (.int .u64 (En.wd r)) ∧ Below w.heap.size w w' := by
  unfold En.wd
  by_cases c : r = 0
  · rw [if_pos c]
    go_enter Try.func59, Try.ntmps59
    go_wp2_with fail
    go_ret
    exact ⟨rfl, blk_new _ _⟩
  · rw [if_neg c]
    go_enter Try.func59, Try.ntmps59
    go_wp2_with fail
    go_ret
    exact ⟨rfl, blk_new _ _⟩
set_option maxHeartbeats 2000000 in
theorem check_any (i o l r : Int) (h : En.fit i o l r) (w : World) :
    Calls Try.prog 16 #[.agg #[.int .u64 i, .int .u64 o, .int .u32 l, .int .u32 r]] w fun e w' => e = .returned (.int .i64 (En.ck i o l r)) ∧ Below w.heap.size w w' := by
  have HF := Lib.hid h
  obtain ⟨⟨i0, i1⟩, ⟨o0, o1⟩, ⟨l0, l1⟩, r0, r1⟩ := h
  obtain ⟨d0, d1⟩ := En.wd_bd r0
  have d1 := d1 r1
  unfold En.ck
  by_cases c : l = 0
  · rw [if_pos c]
    clear HF
    go_enter Try.func16, Try.ntmps16
    go_wp2_with fail
    go_ret
    exact ⟨rfl, blk_new _ _⟩
  · rw [if_neg c]
    by_cases c1 : 6004799503160661 < i + En.wd r
    · rw [if_pos c1]
      have cw := u64w (a := 6004799503160661 - En.wd r) (by omega) (by omega)
      have c1' : decide (6004799503160661 - En.wd r < i) = true := decide_eq_true (by omega)
      go_enter Try.func16, Try.ntmps16
      go_wp2_with fail
      have HA := Lib.hid (heap_alloc_new w (.cells #[.int .u64 i, .int .u64 o, .int .u32 l, .int .u32 r] 26 (0, 0)))
      have hw := blk_new w (.cells #[.int .u64 i, .int .u64 o, .int .u32 l, .int .u32 r] 26 (0, 0))
      obtain ⟨a0, a1, a2, a3⟩ := blk_cells4 HA.out
      go_region_held3 (fun w' => w'.cell? ⟨w.heap.size, 0, none⟩ = some (.int .u64 i) ∧ w'.cell? ⟨w.heap.size, 1, none⟩ = some (.int .u64 o) ∧ w'.cell? ⟨w.heap.size, 2, none⟩ = some (.int .u32 l) ∧ w'.cell? ⟨w.heap.size, 3, none⟩ = some (.int .u32 r)) (exact ⟨a0, a1, a2, a3⟩) (first | (go_at_call 57; refine (wide_any _ _ _ _ r0 r1 _).mono ?_; rintro e w1 ⟨rfl, hb⟩; have hw := held_then hb (by first | exact hw | exact Below.drew hw | exact bdraws hw _); have HA := Lib.hid (blk_keep2 hb HA.out); obtain ⟨a0, a1, a2, a3⟩ := blk_cells4 HA.out))
      all_goals
        clear a0 a1 a2 a3
        obtain ⟨a0, a1, a2, a3⟩ := blk_cells4 HA.out
        go_wp2_with fail
        go_ret
        first | exact ⟨rfl, hw⟩ | exact ⟨rfl, bdraws hw _⟩
    · rw [if_neg c1]
      by_cases c2 : 1099511627776 < o + l
      · rw [if_pos c2]
        by_cases c3 : 1099511627776 < o
        · skip
          have cw := u64w (a := 6004799503160661 - En.wd r) (by omega) (by omega)
          have c1' : decide (6004799503160661 - En.wd r < i) = false := decide_eq_false (by omega)
          have c2' : decide (1099511627776 < o) = true := decide_eq_true (by omega)
          go_enter Try.func16, Try.ntmps16
          go_wp2_with fail
          have HA := Lib.hid (heap_alloc_new w (.cells #[.int .u64 i, .int .u64 o, .int .u32 l, .int .u32 r] 26 (0, 0)))
          have hw := blk_new w (.cells #[.int .u64 i, .int .u64 o, .int .u32 l, .int .u32 r] 26 (0, 0))
          obtain ⟨a0, a1, a2, a3⟩ := blk_cells4 HA.out
          go_region_held3 (fun w' => w'.cell? ⟨w.heap.size, 0, none⟩ = some (.int .u64 i) ∧ w'.cell? ⟨w.heap.size, 1, none⟩ = some (.int .u64 o) ∧ w'.cell? ⟨w.heap.size, 2, none⟩ = some (.int .u32 l) ∧ w'.cell? ⟨w.heap.size, 3, none⟩ = some (.int .u32 r)) (exact ⟨a0, a1, a2, a3⟩) (first | (go_at_call 57; refine (wide_any _ _ _ _ r0 r1 _).mono ?_; rintro e w1 ⟨rfl, hb⟩; have hw := held_then hb (by first | exact hw | exact Below.drew hw | exact bdraws hw _); have HA := Lib.hid (blk_keep2 hb HA.out); obtain ⟨a0, a1, a2, a3⟩ := blk_cells4 HA.out))
          all_goals
            clear a0 a1 a2 a3
            obtain ⟨a0, a1, a2, a3⟩ := blk_cells4 HA.out
            go_wp2_with fail
            go_ret
            first | exact ⟨rfl, hw⟩ | exact ⟨rfl, bdraws hw _⟩
        · skip
          have cw := u64w (a := 6004799503160661 - En.wd r) (by omega) (by omega)
          have c1' : decide (6004799503160661 - En.wd r < i) = false := decide_eq_false (by omega)
          have c2' : decide (1099511627776 < o) = false := decide_eq_false (by omega)
          have c3' : decide (1099511627776 < o + l) = true := decide_eq_true (by omega)
          go_enter Try.func16, Try.ntmps16
          go_wp2_with fail
          have HA := Lib.hid (heap_alloc_new w (.cells #[.int .u64 i, .int .u64 o, .int .u32 l, .int .u32 r] 26 (0, 0)))
          have hw := blk_new w (.cells #[.int .u64 i, .int .u64 o, .int .u32 l, .int .u32 r] 26 (0, 0))
          obtain ⟨a0, a1, a2, a3⟩ := blk_cells4 HA.out
          go_region_held3 (fun w' => w'.cell? ⟨w.heap.size, 0, none⟩ = some (.int .u64 i) ∧ w'.cell? ⟨w.heap.size, 1, none⟩ = some (.int .u64 o) ∧ w'.cell? ⟨w.heap.size, 2, none⟩ = some (.int .u32 l) ∧ w'.cell? ⟨w.heap.size, 3, none⟩ = some (.int .u32 r)) (exact ⟨a0, a1, a2, a3⟩) (first | (go_at_call 57; refine (wide_any _ _ _ _ r0 r1 _).mono ?_; rintro e w1 ⟨rfl, hb⟩; have hw := held_then hb (by first | exact hw | exact Below.drew hw | exact bdraws hw _); have HA := Lib.hid (blk_keep2 hb HA.out); obtain ⟨a0, a1, a2, a3⟩ := blk_cells4 HA.out))
          all_goals
            clear a0 a1 a2 a3
            obtain ⟨a0, a1, a2, a3⟩ := blk_cells4 HA.out
            go_wp2_with fail
            refine (end_any _ _ _ _ HF.out (by omega) _).mono ?_; rintro e w2 ⟨rfl, hb⟩
            have hw := held_then hb (by first | exact hw | exact Below.drew hw | exact bdraws hw _)
            clear a0 a1 a2 a3
            go_wp2_with fail
            go_ret
            first | exact ⟨rfl, hw⟩ | exact ⟨rfl, bdraws hw _⟩
      · rw [if_neg c2]
        have cw := u64w (a := 6004799503160661 - En.wd r) (by omega) (by omega)
        have c1' : decide (6004799503160661 - En.wd r < i) = false := decide_eq_false (by omega)
        have c2' : decide (1099511627776 < o) = false := decide_eq_false (by omega)
        have c3' : decide (1099511627776 < o + l) = false := decide_eq_false (by omega)
        go_enter Try.func16, Try.ntmps16
        go_wp2_with fail
        have HA := Lib.hid (heap_alloc_new w (.cells #[.int .u64 i, .int .u64 o, .int .u32 l, .int .u32 r] 26 (0, 0)))
        have hw := blk_new w (.cells #[.int .u64 i, .int .u64 o, .int .u32 l, .int .u32 r] 26 (0, 0))
        obtain ⟨a0, a1, a2, a3⟩ := blk_cells4 HA.out
        go_region_held3 (fun w' => w'.cell? ⟨w.heap.size, 0, none⟩ = some (.int .u64 i) ∧ w'.cell? ⟨w.heap.size, 1, none⟩ = some (.int .u64 o) ∧ w'.cell? ⟨w.heap.size, 2, none⟩ = some (.int .u32 l) ∧ w'.cell? ⟨w.heap.size, 3, none⟩ = some (.int .u32 r)) (exact ⟨a0, a1, a2, a3⟩) (first | (go_at_call 57; refine (wide_any _ _ _ _ r0 r1 _).mono ?_; rintro e w1 ⟨rfl, hb⟩; have hw := held_then hb (by first | exact hw | exact Below.drew hw | exact bdraws hw _); have HA := Lib.hid (blk_keep2 hb HA.out); obtain ⟨a0, a1, a2, a3⟩ := blk_cells4 HA.out))
        all_goals
          clear a0 a1 a2 a3
          obtain ⟨a0, a1, a2, a3⟩ := blk_cells4 HA.out
          go_wp2_with fail
          refine (end_any _ _ _ _ HF.out (by omega) _).mono ?_; rintro e w2 ⟨rfl, hb⟩
          have hw := held_then hb (by first | exact hw | exact Below.drew hw | exact bdraws hw _)
          clear a0 a1 a2 a3
          go_wp2_with fail
          go_ret
          first | exact ⟨rfl, hw⟩ | exact ⟨rfl, bdraws hw _⟩
set_option maxHeartbeats 2000000 in
theorem refcheck_any (i o l r : Int) (h : En.fit i o l r) (w : World) :
    Calls Try.prog 17 #[.agg #[.int .u64 i, .int .u64 o, .int .u32 l, .int .u32 r]] w fun e w' => e = .returned (.int .i64 (En.ck i o l r)) ∧ Below w.heap.size w w' := by
  have HF := Lib.hid h
  obtain ⟨⟨i0, i1⟩, ⟨o0, o1⟩, ⟨l0, l1⟩, r0, r1⟩ := h
  obtain ⟨d0, d1⟩ := En.wd_bd r0
  have d1 := d1 r1
  unfold En.ck
  by_cases c : l = 0
  · rw [if_pos c]
    clear HF
    go_enter Try.func17, Try.ntmps17
    go_wp2_with fail
    go_ret
    exact ⟨rfl, blk_new _ _⟩
  · rw [if_neg c]
    by_cases c1 : 6004799503160661 < i + En.wd r
    · rw [if_pos c1]
      by_cases c5 : 6004799503160661 ≤ i
      · have c1' : decide (6004799503160661 ≤ i) = true := decide_eq_true (by omega)
        go_enter Try.func17, Try.ntmps17
        go_wp2_with fail
        have HA := Lib.hid (heap_alloc_new w (.cells #[.int .u64 i, .int .u64 o, .int .u32 l, .int .u32 r] 25 (0, 0)))
        have hw := blk_new w (.cells #[.int .u64 i, .int .u64 o, .int .u32 l, .int .u32 r] 25 (0, 0))
        obtain ⟨a0, a1, a2, a3⟩ := blk_cells4 HA.out
        go_quiet (fail)
        all_goals
          clear a0 a1 a2 a3
          obtain ⟨a0, a1, a2, a3⟩ := blk_cells4 HA.out
          go_wp2_with fail
          go_ret
          first | exact ⟨rfl, hw⟩ | exact ⟨rfl, bdraws hw _⟩
      · have cs := u64w (a := i + En.wd r) (by omega) (by omega)
        have c1' : decide (6004799503160661 ≤ i) = false := decide_eq_false (by omega)
        have c4' : decide (6004799503160661 < i + En.wd r) = true := decide_eq_true (by omega)
        go_enter Try.func17, Try.ntmps17
        go_wp2_with fail
        have HA := Lib.hid (heap_alloc_new w (.cells #[.int .u64 i, .int .u64 o, .int .u32 l, .int .u32 r] 25 (0, 0)))
        have hw := blk_new w (.cells #[.int .u64 i, .int .u64 o, .int .u32 l, .int .u32 r] 25 (0, 0))
        obtain ⟨a0, a1, a2, a3⟩ := blk_cells4 HA.out
        go_region_held3 (fun w' => w'.cell? ⟨w.heap.size, 0, none⟩ = some (.int .u64 i) ∧ w'.cell? ⟨w.heap.size, 1, none⟩ = some (.int .u64 o) ∧ w'.cell? ⟨w.heap.size, 2, none⟩ = some (.int .u32 l) ∧ w'.cell? ⟨w.heap.size, 3, none⟩ = some (.int .u32 r)) (exact ⟨a0, a1, a2, a3⟩) (first | (go_at_call 59; refine (refwide_any _ _ _ _ r0 r1 _).mono ?_; rintro e w1 ⟨rfl, hb⟩; have hw := held_then hb (by first | exact hw | exact Below.drew hw | exact bdraws hw _); have HA := Lib.hid (blk_keep2 hb HA.out); obtain ⟨a0, a1, a2, a3⟩ := blk_cells4 HA.out))
        all_goals
          clear a0 a1 a2 a3
          obtain ⟨a0, a1, a2, a3⟩ := blk_cells4 HA.out
          go_wp2_with fail
          go_ret
          first | exact ⟨rfl, hw⟩ | exact ⟨rfl, bdraws hw _⟩
    · rw [if_neg c1]
      by_cases c2 : 1099511627776 < o + l
      · rw [if_pos c2]
        by_cases c3 : 1099511627776 < o
        · skip
          have cs := u64w (a := i + En.wd r) (by omega) (by omega)
          have c1' : decide (6004799503160661 ≤ i) = false := decide_eq_false (by omega)
          have c4' : decide (6004799503160661 < i + En.wd r) = false := decide_eq_false (by omega)
          have c2' : decide (1099511627776 < o) = true := decide_eq_true (by omega)
          go_enter Try.func17, Try.ntmps17
          go_wp2_with fail
          have HA := Lib.hid (heap_alloc_new w (.cells #[.int .u64 i, .int .u64 o, .int .u32 l, .int .u32 r] 25 (0, 0)))
          have hw := blk_new w (.cells #[.int .u64 i, .int .u64 o, .int .u32 l, .int .u32 r] 25 (0, 0))
          obtain ⟨a0, a1, a2, a3⟩ := blk_cells4 HA.out
          go_region_held3 (fun w' => w'.cell? ⟨w.heap.size, 0, none⟩ = some (.int .u64 i) ∧ w'.cell? ⟨w.heap.size, 1, none⟩ = some (.int .u64 o) ∧ w'.cell? ⟨w.heap.size, 2, none⟩ = some (.int .u32 l) ∧ w'.cell? ⟨w.heap.size, 3, none⟩ = some (.int .u32 r)) (exact ⟨a0, a1, a2, a3⟩) (first | (go_at_call 59; refine (refwide_any _ _ _ _ r0 r1 _).mono ?_; rintro e w1 ⟨rfl, hb⟩; have hw := held_then hb (by first | exact hw | exact Below.drew hw | exact bdraws hw _); have HA := Lib.hid (blk_keep2 hb HA.out); obtain ⟨a0, a1, a2, a3⟩ := blk_cells4 HA.out))
          all_goals
            clear a0 a1 a2 a3
            obtain ⟨a0, a1, a2, a3⟩ := blk_cells4 HA.out
            go_wp2_with fail
            go_ret
            first | exact ⟨rfl, hw⟩ | exact ⟨rfl, bdraws hw _⟩
        · skip
          have cs := u64w (a := i + En.wd r) (by omega) (by omega)
          have c1' : decide (6004799503160661 ≤ i) = false := decide_eq_false (by omega)
          have c4' : decide (6004799503160661 < i + En.wd r) = false := decide_eq_false (by omega)
          have c2' : decide (1099511627776 < o) = false := decide_eq_false (by omega)
          have os := u64w (a := o + l) (by omega) (by omega)
          have c3' : decide (1099511627776 < o + l) = true := decide_eq_true (by omega)
          go_enter Try.func17, Try.ntmps17
          go_wp2_with fail
          have HA := Lib.hid (heap_alloc_new w (.cells #[.int .u64 i, .int .u64 o, .int .u32 l, .int .u32 r] 25 (0, 0)))
          have hw := blk_new w (.cells #[.int .u64 i, .int .u64 o, .int .u32 l, .int .u32 r] 25 (0, 0))
          obtain ⟨a0, a1, a2, a3⟩ := blk_cells4 HA.out
          go_region_held3 (fun w' => w'.cell? ⟨w.heap.size, 0, none⟩ = some (.int .u64 i) ∧ w'.cell? ⟨w.heap.size, 1, none⟩ = some (.int .u64 o) ∧ w'.cell? ⟨w.heap.size, 2, none⟩ = some (.int .u32 l) ∧ w'.cell? ⟨w.heap.size, 3, none⟩ = some (.int .u32 r)) (exact ⟨a0, a1, a2, a3⟩) (first | (go_at_call 59; refine (refwide_any _ _ _ _ r0 r1 _).mono ?_; rintro e w1 ⟨rfl, hb⟩; have hw := held_then hb (by first | exact hw | exact Below.drew hw | exact bdraws hw _); have HA := Lib.hid (blk_keep2 hb HA.out); obtain ⟨a0, a1, a2, a3⟩ := blk_cells4 HA.out))
          all_goals
            clear a0 a1 a2 a3
            obtain ⟨a0, a1, a2, a3⟩ := blk_cells4 HA.out
            go_wp2_with fail
            go_ret
            first | exact ⟨rfl, hw⟩ | exact ⟨rfl, bdraws hw _⟩
      · rw [if_neg c2]
        have cs := u64w (a := i + En.wd r) (by omega) (by omega)
        have c1' : decide (6004799503160661 ≤ i) = false := decide_eq_false (by omega)
        have c4' : decide (6004799503160661 < i + En.wd r) = false := decide_eq_false (by omega)
        have c2' : decide (1099511627776 < o) = false := decide_eq_false (by omega)
        have os := u64w (a := o + l) (by omega) (by omega)
        have c3' : decide (1099511627776 < o + l) = false := decide_eq_false (by omega)
        go_enter Try.func17, Try.ntmps17
        go_wp2_with fail
        have HA := Lib.hid (heap_alloc_new w (.cells #[.int .u64 i, .int .u64 o, .int .u32 l, .int .u32 r] 25 (0, 0)))
        have hw := blk_new w (.cells #[.int .u64 i, .int .u64 o, .int .u32 l, .int .u32 r] 25 (0, 0))
        obtain ⟨a0, a1, a2, a3⟩ := blk_cells4 HA.out
        go_region_held3 (fun w' => w'.cell? ⟨w.heap.size, 0, none⟩ = some (.int .u64 i) ∧ w'.cell? ⟨w.heap.size, 1, none⟩ = some (.int .u64 o) ∧ w'.cell? ⟨w.heap.size, 2, none⟩ = some (.int .u32 l) ∧ w'.cell? ⟨w.heap.size, 3, none⟩ = some (.int .u32 r)) (exact ⟨a0, a1, a2, a3⟩) (first | (go_at_call 59; refine (refwide_any _ _ _ _ r0 r1 _).mono ?_; rintro e w1 ⟨rfl, hb⟩; have hw := held_then hb (by first | exact hw | exact Below.drew hw | exact bdraws hw _); have HA := Lib.hid (blk_keep2 hb HA.out); obtain ⟨a0, a1, a2, a3⟩ := blk_cells4 HA.out))
        all_goals
          clear a0 a1 a2 a3
          obtain ⟨a0, a1, a2, a3⟩ := blk_cells4 HA.out
          go_wp2_with fail
          go_ret
          first | exact ⟨rfl, hw⟩ | exact ⟨rfl, bdraws hw _⟩
theorem may_any (i o l r : Int) (h : En.fit i o l r) (w : World) :
    Calls Try.prog 60 #[.agg #[.int .u64 i, .int .u64 o, .int .u32 l, .int .u32 r]] w fun e w' => e = .returned (.bool (En.ck i o l r == 0)) ∧ Below w.heap.size w w' := by
  go_enter Try.func60, Try.ntmps60
  go_wp2_with fail
  refine (check_any _ _ _ _ h _).mono ?_; rintro e w1 ⟨rfl, hb⟩
  have hw := held_then hb (blk_new w _)
  go_wp2_with fail
  go_ret
  exact ⟨rfl, hw⟩
theorem En.ck_in {i o l r : Int} (h : En.ck i o l r = 0) : i + En.wd r ≤ 6004799503160661 := by
  unfold En.ck at h
  split at h
  · omega
  · split at h <;> omega
theorem last_any (i o l r : Int) (h : En.fit i o l r) (w : World) :
    Calls Try.prog 18 #[.agg #[.int .u64 i, .int .u64 o, .int .u32 l, .int .u32 r]] w fun e w' => e = .returned (.int .u64 (En.la i o l r)) ∧ Below w.heap.size w w' := by
  have HF := Lib.hid h
  obtain ⟨⟨i0, i1⟩, ⟨o0, o1⟩, ⟨l0, l1⟩, r0, r1⟩ := h
  obtain ⟨d0, d1⟩ := En.wd_bd r0
  have d1 := d1 r1
  unfold En.la
  by_cases c : En.ck i o l r = 0
  · rw [if_pos c]
    have hi : i + En.wd r ≤ 6004799503160661 := En.ck_in c
    have cc : (En.ck i o l r == 0) = true := by rw [c]; rfl
    have cs := u64w (a := i + En.wd r) (by omega) (by omega)
    have ct := u64w (a := i + En.wd r - 1) (by omega) (by omega)
    clear c
    go_enter Try.func18, Try.ntmps18
    go_wp2_with fail
    refine (may_any _ _ _ _ HF.out _).mono ?_; rintro e w0 ⟨rfl, hb⟩
    have HA := Lib.hid (blk_one hb).1
    have hw := (blk_one hb).2.2
    obtain ⟨a0, a1, a2, a3⟩ := blk_cells4 HA.out
    clear hb
    go_wp2_with fail
    go_region_held3 (fun w' => w'.cell? ⟨w.heap.size, 0, none⟩ = some (.int .u64 i) ∧ w'.cell? ⟨w.heap.size, 1, none⟩ = some (.int .u64 o) ∧ w'.cell? ⟨w.heap.size, 2, none⟩ = some (.int .u32 l) ∧ w'.cell? ⟨w.heap.size, 3, none⟩ = some (.int .u32 r)) (exact ⟨a0, a1, a2, a3⟩) (first | (go_at_call 57; refine (wide_any _ _ _ _ r0 r1 _).mono ?_; rintro e w1 ⟨rfl, hb⟩; have hw := held_then hb (by first | exact hw | exact Below.drew hw | exact bdraws hw _); have HA := Lib.hid (blk_keep2 hb HA.out); obtain ⟨a0, a1, a2, a3⟩ := blk_cells4 HA.out))
    all_goals
      clear a0 a1 a2 a3
      go_wp2_with fail
      go_ret
      first | exact ⟨rfl, hw⟩ | exact ⟨rfl, bdraws hw _⟩
  · rw [if_neg c]
    have cc : (En.ck i o l r == 0) = false := beq_eq_false_iff_ne.2 c
    clear c
    go_enter Try.func18, Try.ntmps18
    go_wp2_with fail
    refine (may_any _ _ _ _ HF.out _).mono ?_; rintro e w0 ⟨rfl, hb⟩
    have HA := Lib.hid (blk_one hb).1
    have hw := (blk_one hb).2.2
    obtain ⟨a0, a1, a2, a3⟩ := blk_cells4 HA.out
    clear hb
    clear a0 a1 a2 a3
    go_wp2_with fail
    go_ret
    first | exact ⟨rfl, hw⟩ | exact ⟨rfl, bdraws hw _⟩
theorem reflast_any (i o l r : Int) (h : En.fit i o l r) (w : World) :
    Calls Try.prog 19 #[.agg #[.int .u64 i, .int .u64 o, .int .u32 l, .int .u32 r]] w fun e w' => e = .returned (.int .u64 (En.la i o l r)) ∧ Below w.heap.size w w' := by
  have HF := Lib.hid h
  obtain ⟨⟨i0, i1⟩, ⟨o0, o1⟩, ⟨l0, l1⟩, r0, r1⟩ := h
  obtain ⟨d0, d1⟩ := En.wd_bd r0
  have d1 := d1 r1
  unfold En.la
  by_cases c : En.ck i o l r = 0
  · rw [if_pos c]
    have hi : i + En.wd r ≤ 6004799503160661 := En.ck_in c
    have cc : (En.ck i o l r != 0) = false := by rw [c]; rfl
    have cs := u64w (a := i + En.wd r) (by omega) (by omega)
    have ct := u64w (a := i + En.wd r - 1) (by omega) (by omega)
    clear c
    go_enter Try.func19, Try.ntmps19
    go_wp2_with fail
    refine (refcheck_any _ _ _ _ HF.out _).mono ?_; rintro e w0 ⟨rfl, hb⟩
    have HA := Lib.hid (blk_one hb).1
    have hw := (blk_one hb).2.2
    obtain ⟨a0, a1, a2, a3⟩ := blk_cells4 HA.out
    clear hb
    go_wp2_with fail
    go_region_held3 (fun w' => w'.cell? ⟨w.heap.size, 0, none⟩ = some (.int .u64 i) ∧ w'.cell? ⟨w.heap.size, 1, none⟩ = some (.int .u64 o) ∧ w'.cell? ⟨w.heap.size, 2, none⟩ = some (.int .u32 l) ∧ w'.cell? ⟨w.heap.size, 3, none⟩ = some (.int .u32 r)) (exact ⟨a0, a1, a2, a3⟩) (first | (go_at_call 59; refine (refwide_any _ _ _ _ r0 r1 _).mono ?_; rintro e w1 ⟨rfl, hb⟩; have hw := held_then hb (by first | exact hw | exact Below.drew hw | exact bdraws hw _); have HA := Lib.hid (blk_keep2 hb HA.out); obtain ⟨a0, a1, a2, a3⟩ := blk_cells4 HA.out))
    all_goals
      clear a0 a1 a2 a3
      go_wp2_with fail
      go_ret
      first | exact ⟨rfl, hw⟩ | exact ⟨rfl, bdraws hw _⟩
  · rw [if_neg c]
    have cc : (En.ck i o l r != 0) = true := by rw [bne_iff_ne]; exact c
    clear c
    go_enter Try.func19, Try.ntmps19
    go_wp2_with fail
    refine (refcheck_any _ _ _ _ HF.out _).mono ?_; rintro e w0 ⟨rfl, hb⟩
    have HA := Lib.hid (blk_one hb).1
    have hw := (blk_one hb).2.2
    obtain ⟨a0, a1, a2, a3⟩ := blk_cells4 HA.out
    clear hb
    clear a0 a1 a2 a3
    go_wp2_with fail
    go_ret
    first | exact ⟨rfl, hw⟩ | exact ⟨rfl, bdraws hw _⟩
theorem has_any (i o l r id : Int) (h : En.fit i o l r) (w : World) :
    Calls Try.prog 20 #[.agg #[.int .u64 i, .int .u64 o, .int .u32 l, .int .u32 r], .int .u64 id] w fun e w' => e = .returned (.bool (En.hs i o l r id)) ∧ Below w.heap.size w w' := by
  have HF := Lib.hid h
  obtain ⟨⟨i0, i1⟩, ⟨o0, o1⟩, ⟨l0, l1⟩, r0, r1⟩ := h
  obtain ⟨d0, d1⟩ := En.wd_bd r0
  have d1 := d1 r1
  unfold En.hs
  by_cases c : En.ck i o l r = 0
  · have hc := Lib.hid c
    have cc : (En.ck i o l r == 0) = true := by rw [c]; rfl
    clear c
    by_cases c2 : 0 < r
    · have k2 : decide (0 < r) = true := decide_eq_true c2
      by_cases c3 : i ≤ id
      · have k3 : decide (i ≤ id) = true := decide_eq_true c3
        go_enter Try.func20, Try.ntmps20
        go_wp2_with fail
        refine (may_any _ _ _ _ HF.out _).mono ?_; rintro e w0 ⟨rfl, hb⟩
        have HA := Lib.hid (blk_one hb).1
        have hw := (blk_one hb).2.2
        obtain ⟨a0, a1, a2, a3⟩ := blk_cells4 HA.out
        clear hb
        go_wp2_with fail
        refine (last_any _ _ _ _ HF.out _).mono ?_; rintro e w2 ⟨rfl, hb⟩
        have hw := held_then hb (by first | exact hw | exact Below.drew hw | exact bdraws hw _)
        clear a0 a1 a2 a3
        go_wp2_with fail
        go_ret
        exact ⟨retb (by simp [hc.out, c2, c3]), hw⟩
      · have k3 : decide (i ≤ id) = false := decide_eq_false c3
        go_enter Try.func20, Try.ntmps20
        go_wp2_with fail
        refine (may_any _ _ _ _ HF.out _).mono ?_; rintro e w0 ⟨rfl, hb⟩
        have HA := Lib.hid (blk_one hb).1
        have hw := (blk_one hb).2.2
        obtain ⟨a0, a1, a2, a3⟩ := blk_cells4 HA.out
        clear hb
        go_wp2_with fail
        go_ret
        exact ⟨retb (by simp; omega), hw⟩
    · have k2 : decide (0 < r) = false := decide_eq_false c2
      go_enter Try.func20, Try.ntmps20
      go_wp2_with fail
      refine (may_any _ _ _ _ HF.out _).mono ?_; rintro e w0 ⟨rfl, hb⟩
      have HA := Lib.hid (blk_one hb).1
      have hw := (blk_one hb).2.2
      obtain ⟨a0, a1, a2, a3⟩ := blk_cells4 HA.out
      clear hb
      go_wp2_with fail
      go_ret
      exact ⟨retb (by simp; omega), hw⟩
  · rw [decide_eq_false (fun q => c q.1)]
    have cc : (En.ck i o l r == 0) = false := beq_eq_false_iff_ne.2 c
    clear c
    go_enter Try.func20, Try.ntmps20
    go_wp2_with fail
    refine (may_any _ _ _ _ HF.out _).mono ?_; rintro e w0 ⟨rfl, hb⟩
    have HA := Lib.hid (blk_one hb).1
    have hw := (blk_one hb).2.2
    obtain ⟨a0, a1, a2, a3⟩ := blk_cells4 HA.out
    clear hb
    go_wp2_with fail
    go_ret
    exact ⟨rfl, hw⟩
theorem refhas_any (i o l r id : Int) (h : En.fit i o l r) (w : World) :
    Calls Try.prog 21 #[.agg #[.int .u64 i, .int .u64 o, .int .u32 l, .int .u32 r], .int .u64 id] w fun e w' => e = .returned (.bool (En.hs i o l r id)) ∧ Below w.heap.size w w' := by
  have HF := Lib.hid h
  obtain ⟨⟨i0, i1⟩, ⟨o0, o1⟩, ⟨l0, l1⟩, r0, r1⟩ := h
  obtain ⟨d0, d1⟩ := En.wd_bd r0
  have d1 := d1 r1
  unfold En.hs
  by_cases c : En.ck i o l r = 0
  · have hc := Lib.hid c
    have cc : (En.ck i o l r == 0) = true := by rw [c]; rfl
    clear c
    by_cases c2 : 0 < r
    · have k2 : decide (0 < r) = true := decide_eq_true c2
      by_cases c3 : i ≤ id
      · have k3 : decide (i ≤ id) = true := decide_eq_true c3
        go_enter Try.func21, Try.ntmps21
        go_wp2_with fail
        refine (refcheck_any _ _ _ _ HF.out _).mono ?_; rintro e w0 ⟨rfl, hb⟩
        have HA := Lib.hid (blk_one hb).1
        have hw := (blk_one hb).2.2
        obtain ⟨a0, a1, a2, a3⟩ := blk_cells4 HA.out
        clear hb
        go_wp2_with fail
        refine (reflast_any _ _ _ _ HF.out _).mono ?_; rintro e w2 ⟨rfl, hb⟩
        have hw := held_then hb (by first | exact hw | exact Below.drew hw | exact bdraws hw _)
        clear a0 a1 a2 a3
        go_wp2_with fail
        go_ret
        exact ⟨retb (by simp [hc.out, c2, c3]), hw⟩
      · have k3 : decide (i ≤ id) = false := decide_eq_false c3
        go_enter Try.func21, Try.ntmps21
        go_wp2_with fail
        refine (refcheck_any _ _ _ _ HF.out _).mono ?_; rintro e w0 ⟨rfl, hb⟩
        have HA := Lib.hid (blk_one hb).1
        have hw := (blk_one hb).2.2
        obtain ⟨a0, a1, a2, a3⟩ := blk_cells4 HA.out
        clear hb
        go_wp2_with fail
        go_ret
        exact ⟨retb (by simp; omega), hw⟩
    · have k2 : decide (0 < r) = false := decide_eq_false c2
      go_enter Try.func21, Try.ntmps21
      go_wp2_with fail
      refine (refcheck_any _ _ _ _ HF.out _).mono ?_; rintro e w0 ⟨rfl, hb⟩
      have HA := Lib.hid (blk_one hb).1
      have hw := (blk_one hb).2.2
      obtain ⟨a0, a1, a2, a3⟩ := blk_cells4 HA.out
      clear hb
      go_wp2_with fail
      go_ret
      exact ⟨retb (by simp; omega), hw⟩
  · rw [decide_eq_false (fun q => c q.1)]
    have cc : (En.ck i o l r == 0) = false := beq_eq_false_iff_ne.2 c
    clear c
    go_enter Try.func21, Try.ntmps21
    go_wp2_with fail
    refine (refcheck_any _ _ _ _ HF.out _).mono ?_; rintro e w0 ⟨rfl, hb⟩
    have HA := Lib.hid (blk_one hb).1
    have hw := (blk_one hb).2.2
    obtain ⟨a0, a1, a2, a3⟩ := blk_cells4 HA.out
    clear hb
    go_wp2_with fail
    go_ret
    exact ⟨rfl, hw⟩

end Go.Proofs.Ytppciejcobmikaa
