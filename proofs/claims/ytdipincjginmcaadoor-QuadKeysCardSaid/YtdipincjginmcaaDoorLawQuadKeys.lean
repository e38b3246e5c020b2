/- Keys, texts and what begins with one: the walk and the law. -/
import Derived.Test.YtdipincjginmcaaDoorCardQuadKeys
import Derived.Test.YtdipincjginmcaaDoorQuadTexts
namespace Go.Proofs.YtdipincjginmcaaDoor.quadKeys
open Go.RowKit
set_option linter.unusedVariables false

theorem blk_new (w : World) (o : Obj) : Below w.heap.size w (w.alloc o) := (Below.refl _ _).alloc (Nat.le_refl _) _
set_option maxRecDepth 100000 in
set_option maxHeartbeats 10000000 in
theorem walk : Walk := by
  intro w z0 x0 y0 wz0 wx0 wy0 s1 hs1 A2 n2 c2_ L2 hr2 hn2 hm2' hc2
  have hm2 : n2 ≤ 140737488355328 := by omega
  have HS1 : Hid (s1.size ≤ maxLen) := Lib.hid (by simp only [maxLen]; omega)
  clear hm2'
  have HRR := Lib.hid hr2
  have HN := Lib.hid hn2
  have het := eq_tile
  have her := eq_rtile
  have ht : ∀ a b c : Int, Cv.teq a b c a b c = true := fun a b c => by unfold Cv.teq; simp
  clear wz0 wx0 wy0 hr2 hn2
  by_cases hlen : (s1.size : Int) > 300
  · go_enter Tryd.func3, Tryd.ntmps3
    go_wp2_with fail
    have hw : Below w.heap.size w (w.alloc (.cells #[.int .i64 z0, .int .i64 x0, .int .i64 y0] 23)) := (Below.refl _ _).alloc (Nat.le_refl _) _
    refine (awake42 _).mono ?_; rintro e wa ⟨rfl, hb⟩
    replace hw := bthen2 hb hw
    clear hb
    go_wp2_with fail
    go_ret
    exact ⟨rfl, hw⟩
  · have HR1 : Hid (Reads (w.alloc (.cells #[.int .i64 z0, .int .i64 x0, .int .i64 y0] 23)) w.heap.size 1 A2 n2 (Qu.row L2)) := Lib.hid (HRR.out.alloc (Nat.le_refl _) _)
    have hlb : (decide ((s1.size : Int) > 300)) = false := decide_eq_false hlen
    go_enter Tryd.func3, Tryd.ntmps3
    go_wp2_with fail
    refine (over35_any _ _ _ _ _ _ HR1.out HN.out hm2).mono ?_; rintro e wo ⟨⟨b, rfl, hbn⟩, rfl⟩
    cases b with
    | true =>
      clear hbn
      go_wp2_with fail
      have hw : Below w.heap.size w (w.alloc (.cells #[.int .i64 z0, .int .i64 x0, .int .i64 y0] 23)) := (Below.refl _ _).alloc (Nat.le_refl _) _
      refine (awake42 _).mono ?_; rintro e wa ⟨rfl, hb⟩
      replace hw := bthen2 hb hw
      clear hb
      go_wp2_with fail
      go_ret
      exact ⟨rfl, hw⟩
    | false =>
      have hn40 : n2 ≤ 40 := by rcases hbn with h | h; · cases h
                                · exact h
      clear hbn
      have HA := Lib.hid (heap_alloc_new w (.cells #[.int .i64 z0, .int .i64 x0, .int .i64 y0] 23))
      have hw : Below w.heap.size w (w.alloc (.cells #[.int .i64 z0, .int .i64 x0, .int .i64 y0] 23)) := (Below.refl _ _).alloc (Nat.le_refl _) _
      obtain ⟨⟨a0, a1, a2⟩, _⟩ := blk_cells3 HA.out
      go_wp2_with fail
      refine (key_any _ _ _ _).mono ?_; rintro e w1 ⟨he, hb⟩
      unfold KeyR at he
      subst he
      replace HA := blk_on HA hb
      replace hw := bthen2 hb hw
      clear hb a0 a1 a2
      obtain ⟨⟨a0, a1, a2⟩, _⟩ := blk_cells3 HA.out
      go_wp2_with fail
      refine (refkey_any _ _ _ _).mono ?_; rintro e w2 ⟨he, hb⟩
      unfold KeyR at he
      subst he
      replace hw := bthen2 hb hw
      clear hb a0 a1 a2 HA
      go_wp2_with fail
      refine (parse_any _ HS1.out _).mono ?_; rintro e w3 ⟨he, hb⟩
      unfold ParseR at he
      subst he
      replace hw := bthen2 hb hw
      clear hb
      go_wp2_with fail
      refine (refparse_any _ HS1.out _).mono ?_; rintro e w4 ⟨he, hb⟩
      unfold ParseR at he
      subst he
      obtain ⟨hU, _, hw4⟩ := blk_one hb
      replace hw := bthen2 hw4 hw
      have HU := Lib.hid (blk_alloc hU (.cells #[.int .i64 (Qs.pz s1), .int .i64 (Qs.px s1), .int .i64 (Qs.py s1)] 23))
      have HV := Lib.hid (heap_alloc_new w4 (.cells #[.int .i64 (Qs.pz s1), .int .i64 (Qs.px s1), .int .i64 (Qs.py s1)] 23))
      replace hw := bthen2 (blk_new w4 (.cells #[.int .i64 (Qs.pz s1), .int .i64 (Qs.px s1), .int .i64 (Qs.py s1)] 23)) hw
      clear hb hU hw4
      obtain ⟨⟨b0, b1, b2⟩, _⟩ := blk_cells3 HU.out
      obtain ⟨⟨c0, c1, c2⟩, _⟩ := blk_cells3 HV.out
      go_wp2_with fail
      refine (under_any _ _ _ _ _ _ _ (HRR.out.below hw) HN.out hw.size (by omega)).mono ?_; rintro e w5 ⟨v5, rfl, hS5, hb⟩
      replace hw := bthen2 hb hw
      clear hb b0 b1 b2 c0 c1 c2
      go_wp2_with fail
      refine (refunder_any _ _ _ _ _ _ _ (HRR.out.below hw) HN.out hw.size (by omega)).mono ?_; rintro e w6 ⟨v6, rfl, hS6, hb⟩
      replace hS5 := hS5.below hb
      replace hw := bthen2 hb hw
      clear hb
      have hul : (Qu.und L2 s1).length ≤ 1000 := by
        have := Qu.und_len L2 s1 L2.length
        rw [List.take_length] at this
        have := HN.out
        omega
      go_wp2_with fail
      refine (same21_any _ _ _ _ _ _ hS5 hS6 hul).mono ?_; rintro e w7 ⟨rfl, hb⟩
      replace hw := bthen2 hb hw
      clear hb hS5 hS6 hul
      go_wp2_with fail
      refine (awake42 _).mono ?_; rintro e wa ⟨rfl, hb⟩
      replace hw := bthen2 hb hw
      clear hb
      go_wp2_with fail
      go_ret
      exact ⟨rfl, hw⟩

theorem proved : Rows.QuadKeysCardSaid := card walk
end Go.Proofs.YtdipincjginmcaaDoor.quadKeys
