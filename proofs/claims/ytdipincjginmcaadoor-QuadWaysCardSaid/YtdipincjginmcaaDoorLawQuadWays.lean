/- The tiles over any tile, and the least one over any tiles, are what the document says: the walk and the law. -/
import Derived.Test.YtdipincjginmcaaDoorCardQuadWays
import Derived.Test.YtdipincjginmcaaDoorQuadRefCom
namespace Go.Proofs.YtdipincjginmcaaDoor.quadWays
open Go.RowKit
set_option linter.unusedVariables false

theorem way_len (z x y : Int) : (Qw.way z x y).length ≤ 100 := by
  rcases Bool.eq_false_or_eq_true (Cv.okB z x y) with h | h
  · obtain ⟨⟨hz0, hz1⟩, _⟩ := Cv.ok_in h
    unfold Qw.way
    rw [if_pos h, Qw.upto_len]
    omega
  · unfold Qw.way
    rw [if_neg (by simp [h])]
    simp
theorem reads_of {w : World} {B : Nat} {E : TypeId} {v : Value} {L : List Tl} (h : TilesAt w B E v L) : ∃ A c, v = .slice A L.length c ∧ Reads w w.heap.size 3 A L.length (tcells L) := by
  rcases h.forms with ⟨rfl, rfl⟩ | ⟨g, cap, rfl, _, _⟩
  · exact ⟨_, _, rfl, Reads.none_⟩
  · exact ⟨_, _, rfl, Reads.of_own h⟩
set_option maxRecDepth 100000 in
set_option maxHeartbeats 10000000 in
theorem walk : Walk := by
  intro w z0 x0 y0 wz0 wx0 wy0 A1 n1 c1_ L1 hr1 hn1 hm1 hc1
  clear hc1
  have HRR := Lib.hid hr1
  have HN := Lib.hid hn1
  have hq := eq_rtile
  have ht : ∀ a b c : Int, Cv.teq a b c a b c = true := fun a b c => by unfold Cv.teq; simp
  clear wz0 wx0 wy0 hr1 hn1 hm1
  by_cases hlen : (n1 : Int) > 20
  · go_enter Tryd.func4, Tryd.ntmps4
    go_wp2_with fail
    have hw : Below w.heap.size w (w.alloc (.cells #[.int .i64 z0, .int .i64 x0, .int .i64 y0] 23)) := (Below.refl _ _).alloc (Nat.le_refl _) _
    refine (awake42 _).mono ?_; rintro e wa ⟨rfl, hb⟩
    replace hw := bthen2 hb hw
    clear hb
    go_wp2_with fail
    go_ret
    exact ⟨rfl, hw⟩
  · have hn20 : n1 ≤ 20 := by omega
    go_enter Tryd.func4, Tryd.ntmps4
    go_wp2_with fail
    refine (tiles_any _ _ _ L1 w.heap.size _ (HRR.out.alloc (Nat.le_refl _) _) HN.out (by simp) (by omega)).mono ?_; rintro e w1 ⟨v1, rfl, hT1, hb⟩
    obtain ⟨A2, c2_, rfl, hR1⟩ := reads_of hT1
    obtain ⟨hA, _, hw⟩ := blk_one hb
    have HA := Lib.hid hA
    have HR1 := Lib.hid hR1
    clear hb hA hT1 hR1
    go_wp2_with fail
    refine (common_any _ L1.length c2_ L1 _ _ HR1.out rfl (Nat.le_refl _) (by have := HN.out; omega)).mono ?_; rintro e w2 ⟨he, hb⟩
    replace HA := blk_on HA hb
    replace hw := bthen2 hb hw
    obtain ⟨C, hC⟩ : ∃ C, C = Qc.ct L1 := ⟨_, rfl⟩
    obtain ⟨cb, hcb⟩ : ∃ cb, cb = Qc.cb L1 := ⟨_, rfl⟩
    unfold ComR at he
    rw [← hC, ← hcb] at he
    obtain ⟨cz, cx, cy⟩ := C
    subst he
    have HCOM : Hid (∀ e, ComR L1 e → e = .returned (.tuple #[.agg #[.int .i64 cz, .int .i64 cx, .int .i64 cy], .bool cb])) := Lib.hid (fun e he => by unfold ComR at he; rw [← hC, ← hcb] at he; exact he)
    have HC := Lib.hid (heap_alloc_new w2 (.cells #[.int .i64 cz, .int .i64 cx, .int .i64 cy] 30))
    replace HA := Lib.hid (blk_alloc HA.out (.cells #[.int .i64 cz, .int .i64 cx, .int .i64 cy] 30))
    replace hw := hw.alloc hw.size (.cells #[.int .i64 cz, .int .i64 cx, .int .i64 cy] 30)
    clear hb hC hcb HR1
    go_wp2_with fail
    refine (refcommon_any _ _ _ L1 w.heap.size _ (HRR.out.below hw) HN.out hw.size (by omega)).mono ?_; rintro e w3 ⟨he, hb⟩
    obtain rfl := HCOM.out _ he
    replace HA := blk_on HA hb
    replace HC := blk_on HC hb
    replace hw := bthen2 hb hw
    clear he hb HCOM HRR
    have HD := Lib.hid (heap_alloc_new w3 (.cells #[.int .i64 cz, .int .i64 cx, .int .i64 cy] 23))
    replace HA := Lib.hid (blk_alloc HA.out (.cells #[.int .i64 cz, .int .i64 cx, .int .i64 cy] 23))
    replace HC := Lib.hid (blk_alloc HC.out (.cells #[.int .i64 cz, .int .i64 cx, .int .i64 cy] 23))
    replace hw := hw.alloc hw.size (.cells #[.int .i64 cz, .int .i64 cx, .int .i64 cy] 23)
    obtain ⟨wd, hwd⟩ : ∃ wd, wd = w3.alloc (.cells #[.int .i64 cz, .int .i64 cx, .int .i64 cy] 23) := ⟨_, rfl⟩
    rw [← hwd] at HA HC HD hw
    obtain ⟨⟨a0, a1, a2⟩, _⟩ := blk_cells3 HA.out; obtain ⟨⟨b0, b1, b2⟩, _⟩ := blk_cells3 HC.out; obtain ⟨⟨d0, d1, d2⟩, _⟩ := blk_cells3 HD.out
    have HWD := Lib.hid hwd
    clear hwd
    go_wp2_with fail
    rw [← HWD.out]
    refine wp_region_held_drew (S := (fun w' => (w'.cell? ⟨w.heap.size, 0, none⟩ = some (.int .i64 z0) ∧ w'.cell? ⟨w.heap.size, 1, none⟩ = some (.int .i64 x0) ∧ w'.cell? ⟨w.heap.size, 2, none⟩ = some (.int .i64 y0)) ∧ (w'.cell? ⟨w2.heap.size, 0, none⟩ = some (.int .i64 cz) ∧ w'.cell? ⟨w2.heap.size, 1, none⟩ = some (.int .i64 cx) ∧ w'.cell? ⟨w2.heap.size, 2, none⟩ = some (.int .i64 cy)) ∧ (w'.cell? ⟨w3.heap.size, 0, none⟩ = some (.int .i64 cz) ∧ w'.cell? ⟨w3.heap.size, 1, none⟩ = some (.int .i64 cx) ∧ w'.cell? ⟨w3.heap.size, 2, none⟩ = some (.int .i64 cy)))) (by kernel_rfl) (by (try dsimp only); exact ⟨⟨a0, a1, a2⟩, ⟨b0, b1, b2⟩, d0, d1, d2⟩) (fun hHeld => ?_)
    simp only [List.size_toArray, List.length_cons, List.length_nil, Nat.zero_add, Nat.reduceAdd]
    refine held_take (i := 0) (v := ?_) rfl (by kernel_rfl) (by kernel_rfl) (by kernel_rfl) (fun _ _ _ h => h) (by rfl) ?_ (by assumption) ?_
    rotate_left
    · intro w hSw
      (try dsimp only at hSw)
      go_simp
      try with_reducible rfl
    try simp only [Act.put, List.setIfInBounds_toArray, List.set_cons_zero, List.set_cons_succ]
    refine held_take (i := 1) (v := ?_) rfl (by kernel_rfl) (by kernel_rfl) (by kernel_rfl) (fun _ _ _ h => h) (by rfl) ?_ (by assumption) ?_
    rotate_left
    · intro w hSw
      (try dsimp only at hSw)
      go_simp
      try with_reducible rfl
    try simp only [Act.put, List.setIfInBounds_toArray, List.set_cons_zero, List.set_cons_succ]
    refine held_take (i := 2) (v := ?_) rfl (by kernel_rfl) (by kernel_rfl) (by kernel_rfl) (fun _ _ _ h => h) (by rfl) ?_ (by assumption) ?_
    rotate_left
    · intro w hSw
      (try dsimp only at hSw)
      go_simp
      try with_reducible rfl
    try simp only [Act.put, List.setIfInBounds_toArray, List.set_cons_zero, List.set_cons_succ]
    refine held_take (i := 3) (v := ?_) rfl (by kernel_rfl) (by kernel_rfl) (by kernel_rfl) (fun _ _ _ h => h) (by rfl) ?_ (by assumption) ?_
    rotate_left
    · intro w hSw
      (try dsimp only at hSw)
      go_simp
      try with_reducible rfl
    try simp only [Act.put, List.setIfInBounds_toArray, List.set_cons_zero, List.set_cons_succ]
    refine held_take (i := 4) (v := ?_) rfl (by kernel_rfl) (by kernel_rfl) (by kernel_rfl) (fun _ _ _ h => h) (by rfl) ?_ (by assumption) ?_
    rotate_left
    · intro w hSw
      (try dsimp only at hSw)
      go_simp
      try with_reducible rfl
    try simp only [Act.put, List.setIfInBounds_toArray, List.set_cons_zero, List.set_cons_succ]
    refine held_take (i := 5) (v := ?_) rfl (by kernel_rfl) (by kernel_rfl) (by kernel_rfl) (fun _ _ _ h => h) (by rfl) ?_ (by assumption) ?_
    rotate_left
    · intro w hSw
      (try dsimp only at hSw)
      go_simp
      try with_reducible rfl
    try simp only [Act.put, List.setIfInBounds_toArray, List.set_cons_zero, List.set_cons_succ]
    refine held_take (i := 6) (v := ?_) rfl (by kernel_rfl) (by kernel_rfl) (by kernel_rfl) (fun _ _ _ h => h) (by rfl) ?_ (by assumption) ?_
    rotate_left
    · intro w hSw
      (try dsimp only at hSw)
      go_simp
      try with_reducible rfl
    try simp only [Act.put, List.setIfInBounds_toArray, List.set_cons_zero, List.set_cons_succ]
    refine held_take (i := 7) (v := ?_) rfl (by kernel_rfl) (by kernel_rfl) (by kernel_rfl) (fun _ _ _ h => h) (by rfl) ?_ (by assumption) ?_
    rotate_left
    · intro w hSw
      (try dsimp only at hSw)
      go_simp
      try with_reducible rfl
    try simp only [Act.put, List.setIfInBounds_toArray, List.set_cons_zero, List.set_cons_succ]
    refine held_take (i := 8) (v := ?_) rfl (by kernel_rfl) (by kernel_rfl) (by kernel_rfl) (fun _ _ _ h => h) (by rfl) ?_ (by assumption) ?_
    rotate_left
    · intro w hSw
      (try dsimp only at hSw)
      go_simp
      try with_reducible rfl
    try simp only [Act.put, List.setIfInBounds_toArray, List.set_cons_zero, List.set_cons_succ]
    refine held_take (i := 9) (v := ?_) rfl (by kernel_rfl) (by kernel_rfl) (by kernel_rfl) (fun _ _ _ h => h) (by rfl) ?_ (by assumption) ?_
    rotate_left
    · intro w hSw
      (try dsimp only at hSw)
      go_simp
      try with_reducible rfl
    try simp only [Act.put, List.setIfInBounds_toArray, List.set_cons_zero, List.set_cons_succ]
    refine held_take (i := 12) (v := ?_) rfl (by kernel_rfl) (by kernel_rfl) (by kernel_rfl) (fun _ _ _ h => h) (by rfl) ?_ (by assumption) ?_
    rotate_left
    · intro w hSw
      (try dsimp only at hSw)
      go_simp
      try with_reducible rfl
    try simp only [Act.put, List.setIfInBounds_toArray, List.set_cons_zero, List.set_cons_succ]
    refine held_call (i := 10) (by kernel_rfl) rfl (fun K hK => ?_)
    go_simp
    refine (way_any _ _ _ _).mono ?_; rintro e w5 ⟨v5, rfl, hT5, hb⟩; have hw := bthen2 hb (by first | exact hw | exact Below.drew hw | exact bdraws hw _); have HA := Lib.hid (blk_keep2 hb HA.out); have HC := Lib.hid (blk_keep2 hb HC.out); have HD := Lib.hid (blk_keep2 hb HD.out); obtain ⟨⟨a0, a1, a2⟩, _⟩ := blk_cells3 HA.out; obtain ⟨⟨b0, b1, b2⟩, _⟩ := blk_cells3 HC.out; obtain ⟨⟨d0, d1, d2⟩, _⟩ := blk_cells3 HD.out; have HT := Lib.hid hT5
    refine hK.out _ _ (by (try dsimp only); exact ⟨⟨a0, a1, a2⟩, ⟨b0, b1, b2⟩, d0, d1, d2⟩) (fun hHeld => ?_)
    clear hK K
    try simp only [Act.put, List.setIfInBounds_toArray, List.set_cons_zero, List.set_cons_succ]
    refine held_call (i := 11) (by kernel_rfl) rfl (fun K hK => ?_)
    go_simp
    refine (back_any _ _ _ _ (by exact HT.out) (way_len _ _ _)).mono ?_; rintro e w6 ⟨v6, rfl, hT6, hb⟩; have hw := bthen2 hb (by first | exact hw | exact Below.drew hw | exact bdraws hw _); have HA := Lib.hid (blk_keep2 hb HA.out); have HC := Lib.hid (blk_keep2 hb HC.out); have HD := Lib.hid (blk_keep2 hb HD.out); obtain ⟨⟨a0, a1, a2⟩, _⟩ := blk_cells3 HA.out; obtain ⟨⟨b0, b1, b2⟩, _⟩ := blk_cells3 HC.out; obtain ⟨⟨d0, d1, d2⟩, _⟩ := blk_cells3 HD.out; have HU := Lib.hid hT6
    refine hK.out _ _ (by (try dsimp only); exact ⟨⟨a0, a1, a2⟩, ⟨b0, b1, b2⟩, d0, d1, d2⟩) (fun hHeld => ?_)
    clear hK K
    try simp only [Act.put, List.setIfInBounds_toArray, List.set_cons_zero, List.set_cons_succ]
    refine held_call (i := 13) (by kernel_rfl) rfl (fun K hK => ?_)
    go_simp
    refine (refway_any _ _ _ _).mono ?_; rintro e w7 ⟨v7, rfl, hT7, hb⟩; have hw := bthen2 hb (by first | exact hw | exact Below.drew hw | exact bdraws hw _); have HA := Lib.hid (blk_keep2 hb HA.out); have HC := Lib.hid (blk_keep2 hb HC.out); have HD := Lib.hid (blk_keep2 hb HD.out); have HU := Lib.hid (own_keep2 hb HU.out); obtain ⟨⟨a0, a1, a2⟩, _⟩ := blk_cells3 HA.out; obtain ⟨⟨b0, b1, b2⟩, _⟩ := blk_cells3 HC.out; obtain ⟨⟨d0, d1, d2⟩, _⟩ := blk_cells3 HD.out; have HV := Lib.hid hT7
    refine hK.out _ _ (by (try dsimp only); exact ⟨⟨a0, a1, a2⟩, ⟨b0, b1, b2⟩, d0, d1, d2⟩) (fun hHeld => ?_)
    clear hK K
    try simp only [Act.put, List.setIfInBounds_toArray, List.set_cons_zero, List.set_cons_succ]
    refine held_call (i := 14) (by kernel_rfl) rfl (fun K hK => ?_)
    go_simp
    refine (same_any _ _ _ _ _ _ (by exact HU.out) (by exact HV.out) (way_len _ _ _)).mono ?_; rintro e w8 ⟨rfl, hb⟩; have hw := bthen2 hb (by first | exact hw | exact Below.drew hw | exact bdraws hw _); have HA := Lib.hid (blk_keep2 hb HA.out); have HC := Lib.hid (blk_keep2 hb HC.out); have HD := Lib.hid (blk_keep2 hb HD.out); obtain ⟨⟨a0, a1, a2⟩, _⟩ := blk_cells3 HA.out; obtain ⟨⟨b0, b1, b2⟩, _⟩ := blk_cells3 HC.out; obtain ⟨⟨d0, d1, d2⟩, _⟩ := blk_cells3 HD.out
    refine hK.out _ _ (by (try dsimp only); exact ⟨⟨a0, a1, a2⟩, ⟨b0, b1, b2⟩, d0, d1, d2⟩) (fun hHeld => ?_)
    clear hK K
    try simp only [Act.put, List.setIfInBounds_toArray, List.set_cons_zero, List.set_cons_succ]
    refine held_take (i := 15) (v := ?_) rfl (by kernel_rfl) (by kernel_rfl) (by kernel_rfl) (fun _ _ _ h => h) (by rfl) ?_ (by assumption) ?_
    rotate_left
    · intro w hSw
      (try dsimp only at hSw)
      go_simp
      try with_reducible rfl
    try simp only [Act.put, List.setIfInBounds_toArray, List.set_cons_zero, List.set_cons_succ]
    refine held_take (i := 16) (v := ?_) rfl (by kernel_rfl) (by kernel_rfl) (by kernel_rfl) (fun _ _ _ h => h) (by rfl) ?_ (by assumption) ?_
    rotate_left
    · intro w hSw
      (try dsimp only at hSw)
      go_simp
      try with_reducible rfl
    try simp only [Act.put, List.setIfInBounds_toArray, List.set_cons_zero, List.set_cons_succ]
    refine held_call (i := 17) (by kernel_rfl) rfl (fun K hK => ?_)
    go_simp
    refine (awake42 _).mono ?_; rintro e w9 ⟨rfl, hb⟩; have hw := bthen2 hb (by first | exact hw | exact Below.drew hw | exact bdraws hw _); have HA := Lib.hid (blk_keep2 hb HA.out); have HC := Lib.hid (blk_keep2 hb HC.out); have HD := Lib.hid (blk_keep2 hb HD.out); obtain ⟨⟨a0, a1, a2⟩, _⟩ := blk_cells3 HA.out; obtain ⟨⟨b0, b1, b2⟩, _⟩ := blk_cells3 HC.out; obtain ⟨⟨d0, d1, d2⟩, _⟩ := blk_cells3 HD.out
    refine hK.out _ _ (by (try dsimp only); exact ⟨⟨a0, a1, a2⟩, ⟨b0, b1, b2⟩, d0, d1, d2⟩) (fun hHeld => ?_)
    clear hK K
    try simp only [Act.put, List.setIfInBounds_toArray, List.set_cons_zero, List.set_cons_succ]
    refine held_take (i := 18) (v := ?_) rfl (by kernel_rfl) (by kernel_rfl) (by kernel_rfl) (fun _ _ _ h => h) (by rfl) ?_ (by assumption) ?_
    rotate_left
    · intro w hSw
      (try dsimp only at hSw)
      go_simp
      try with_reducible rfl
    try simp only [Act.put, List.setIfInBounds_toArray, List.set_cons_zero, List.set_cons_succ]
    refine held_take (i := 19) (v := ?_) rfl (by kernel_rfl) (by kernel_rfl) (by kernel_rfl) (fun _ _ _ h => h) (by rfl) ?_ (by assumption) ?_
    rotate_left
    · intro w hSw
      (try dsimp only at hSw)
      go_simp
      try with_reducible rfl
    try simp only [Act.put, List.setIfInBounds_toArray, List.set_cons_zero, List.set_cons_succ]
    refine wpAnyH_done (by kernel_rfl) ?_ _
    go_wp2_with fail
    go_ret
    exact ⟨rfl, hw⟩

theorem proved : Rows.QuadWaysCardSaid := card walk
end Go.Proofs.YtdipincjginmcaaDoor.quadWays
