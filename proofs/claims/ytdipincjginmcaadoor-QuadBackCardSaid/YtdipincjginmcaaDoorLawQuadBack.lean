/- Keys and tiles, back and forth: the walk and the law. -/
import Derived.Test.YtdipincjginmcaaDoorCardQuadBack
import Derived.Test.YtdipincjginmcaaDoorQuadBackMath
import Derived.Deep.RegionHeld3
import Derived.Deep.DrawnRows
namespace Go.Proofs.YtdipincjginmcaaDoor.quadBack
open Go.RowKit
set_option linter.unusedVariables false

attribute [local go_sem ↓] Go.wp_at_zero Go.wp_at_succ

theorem blk_new (w : World) (o : Obj) : Below w.heap.size w (w.alloc o) := (Below.refl _ _).alloc (Nat.le_refl _) _
set_option maxRecDepth 100000 in
set_option maxHeartbeats 10000000 in
theorem walk : Walk := by
  intro w z0 x0 y0 wz0 wx0 wy0 z1 x1 y1 wz1 wx1 wy1 s2 hs2
  have HS2 : Hid (s2.size ≤ maxLen) := Lib.hid (by simp only [maxLen]; omega)
  have het := eq_tile
  have hnt := neq_tile
  have ht : ∀ a b c : Int, Cv.teq a b c a b c = true := fun a b c => by unfold Cv.teq; simp
  clear wz0 wx0 wy0 wz1 wx1 wy1
  by_cases hlen : (s2.size : Int) > 300
  · clear HS2
    go_enter Tryd.func5, Tryd.ntmps5
    go_wp2_with fail
    have hw : Below w.heap.size w ((w.alloc (.cells #[.int .i64 z0, .int .i64 x0, .int .i64 y0] 23)).alloc (.cells #[.int .i64 z1, .int .i64 x1, .int .i64 y1] 23)) := (((Below.refl _ _).alloc (Nat.le_refl _) _).alloc (by simp) _)
    refine (awake42 _).mono ?_; rintro e wa ⟨rfl, hb⟩
    replace hw := bthen2 hb hw
    clear hb
    go_wp2_with fail
    go_ret
    exact ⟨rfl, hw⟩
  · rcases Bool.eq_false_or_eq_true (Cv.okB z0 x0 y0) with h0 | h0
    · have HOK := Lib.hid h0
      have HKA := Lib.hid (fun e he => key_text h0 (e := e) he)
      have hks := key_size h0
      have HSA : Hid ((Qs.kt (Qc.key (z0, x0, y0))).size ≤ maxLen) := Lib.hid (by rw [Qs.kt_size]; have := Qc.key_len (t := (z0, x0, y0)) (by exact h0); simp only [maxLen]; omega)
      rcases Bool.eq_false_or_eq_true (Cv.okB z1 x1 y1) with h1 | h1
      · have HKB := Lib.hid (fun e he => key_text h1 (e := e) he)
        have HHP : Hid (∀ w, Calls Tryd.prog 23 #[.string (Qs.kt (Qc.key (z1, x1, y1))), .string (Qs.kt (Qc.key (z0, x0, y0)))] w fun e w' => e = .returned (.bool (Cv.ovB z0 x0 y0 z1 x1 y1)) ∧ w' = w) := Lib.hid (fun w => by rw [← key_prefix h0 h1]; exact Tryd.has_prefix _ _ w)
        clear h0 h1
        rcases Decidable.em (Qs.pc s2 = 0) with hpc | hpc
        · have HPT := Lib.hid (fun e he => parse_goods hpc (e := e) he)
          have HKT := Lib.hid (fun e he => key_parse hpc (e := e) he)
          clear hpc
          go_enter Tryd.func5, Tryd.ntmps5
          go_wp2_with fail
          refine (key_any _ _ _ _).mono ?_; rintro e w1 ⟨he, hb⟩
          obtain rfl := HKA.out _ he
          obtain ⟨hA, hB, _, _, hw⟩ := blk_two hb
          have HA := Lib.hid hA
          have HB := Lib.hid hB
          clear he hb hA hB
          obtain ⟨⟨b0, b1, b2⟩, _⟩ := blk_cells3 HB.out
          go_wp2_with fail
          refine (key_any _ _ _ _).mono ?_; rintro e w2 ⟨he, hb⟩
          obtain rfl := HKB.out _ he
          replace HA := blk_on HA hb
          replace HB := blk_on HB hb
          replace hw := bthen2 hb hw
          clear he hb b0 b1 b2
          go_wp2_with fail
          refine (parse_any _ HSA.out _).mono ?_; rintro e w3 ⟨he, hb⟩
          obtain rfl := back_key HOK.out he
          replace HA := blk_on HA hb
          replace HB := blk_on HB hb
          replace hw := bthen2 hb hw
          have HU := Lib.hid (heap_alloc_new w3 (.cells #[.int .i64 z0, .int .i64 x0, .int .i64 y0] 30))
          replace HA := Lib.hid (blk_alloc HA.out (.cells #[.int .i64 z0, .int .i64 x0, .int .i64 y0] 30))
          replace HB := Lib.hid (blk_alloc HB.out (.cells #[.int .i64 z0, .int .i64 x0, .int .i64 y0] 30))
          clear he hb
          obtain ⟨⟨a0, a1, a2⟩, _⟩ := blk_cells3 HA.out
          obtain ⟨⟨b0, b1, b2⟩, _⟩ := blk_cells3 HB.out
          obtain ⟨⟨c0, c1, c2⟩, _⟩ := blk_cells3 HU.out
          replace hw := bthen2 (blk_new w3 (.cells #[.int .i64 z0, .int .i64 x0, .int .i64 y0] 30)) hw
          go_wp2_with fail
          go_region_held3 (fun w' => (w'.cell? ⟨w.heap.size, 0, none⟩ = some (.int .i64 z0) ∧ w'.cell? ⟨w.heap.size, 1, none⟩ = some (.int .i64 x0) ∧ w'.cell? ⟨w.heap.size, 2, none⟩ = some (.int .i64 y0)) ∧ (w'.cell? ⟨w.heap.size + 1, 0, none⟩ = some (.int .i64 z1) ∧ w'.cell? ⟨w.heap.size + 1, 1, none⟩ = some (.int .i64 x1) ∧ w'.cell? ⟨w.heap.size + 1, 2, none⟩ = some (.int .i64 y1)) ∧ (w'.cell? ⟨w3.heap.size, 0, none⟩ = some (.int .i64 z0) ∧ w'.cell? ⟨w3.heap.size, 1, none⟩ = some (.int .i64 x0) ∧ w'.cell? ⟨w3.heap.size, 2, none⟩ = some (.int .i64 y0))) (exact ⟨⟨a0, a1, a2⟩, ⟨b0, b1, b2⟩, ⟨c0, c1, c2⟩⟩) (first | (go_at_call 23; refine (HHP.out _).mono ?_; rintro e w8 ⟨rfl, hw8⟩; subst hw8) | (go_at_call 24; refine (over_any _ _ _ _ _ _ _).mono ?_; rintro e w8 ⟨rfl, hb8⟩; have hw := bthen2 hb8 (by first | exact hw | exact Below.drew hw | exact bdraws hw _); have HA := Lib.hid (blk_keep2 hb8 HA.out); have HB := Lib.hid (blk_keep2 hb8 HB.out); have HU := Lib.hid (blk_keep2 hb8 HU.out); obtain ⟨⟨a0, a1, a2⟩, _⟩ := blk_cells3 HA.out; obtain ⟨⟨b0, b1, b2⟩, _⟩ := blk_cells3 HB.out; obtain ⟨⟨c0, c1, c2⟩, _⟩ := blk_cells3 HU.out))
          all_goals
            clear a0 a1 a2 b0 b1 b2 c0 c1 c2
            go_wp2_with fail
            refine (parse_any s2 HS2.out _).mono ?_; rintro e wp ⟨he, hb⟩
            obtain rfl := HPT.out _ he
            replace hw := bthen2 hb hw
            clear he hb
            go_wp2_with fail
            refine (key_any _ _ _ _).mono ?_; rintro e wk ⟨he, hb⟩
            obtain rfl := HKT.out _ he
            replace hw := bthen2 (blk_one hb).2.2 hw
            clear he hb
            go_wp2_with fail
            refine (awake42 _).mono ?_; rintro e wa ⟨rfl, hb⟩
            replace hw := bthen2 hb hw
            clear hb
            go_wp2_with fail
            go_ret
            exact ⟨rfl, hw⟩
        · have hpn : (Qs.pc s2 != 0) = true := by simpa using hpc
          have HPT := Lib.hid (fun e he => parse_bads hpc (e := e) he)
          clear hpc
          go_enter Tryd.func5, Tryd.ntmps5
          go_wp2_with fail
          refine (key_any _ _ _ _).mono ?_; rintro e w1 ⟨he, hb⟩
          obtain rfl := HKA.out _ he
          obtain ⟨hA, hB, _, _, hw⟩ := blk_two hb
          have HA := Lib.hid hA
          have HB := Lib.hid hB
          clear he hb hA hB
          obtain ⟨⟨b0, b1, b2⟩, _⟩ := blk_cells3 HB.out
          go_wp2_with fail
          refine (key_any _ _ _ _).mono ?_; rintro e w2 ⟨he, hb⟩
          obtain rfl := HKB.out _ he
          replace HA := blk_on HA hb
          replace HB := blk_on HB hb
          replace hw := bthen2 hb hw
          clear he hb b0 b1 b2
          go_wp2_with fail
          refine (parse_any _ HSA.out _).mono ?_; rintro e w3 ⟨he, hb⟩
          obtain rfl := back_key HOK.out he
          replace HA := blk_on HA hb
          replace HB := blk_on HB hb
          replace hw := bthen2 hb hw
          have HU := Lib.hid (heap_alloc_new w3 (.cells #[.int .i64 z0, .int .i64 x0, .int .i64 y0] 30))
          replace HA := Lib.hid (blk_alloc HA.out (.cells #[.int .i64 z0, .int .i64 x0, .int .i64 y0] 30))
          replace HB := Lib.hid (blk_alloc HB.out (.cells #[.int .i64 z0, .int .i64 x0, .int .i64 y0] 30))
          clear he hb
          obtain ⟨⟨a0, a1, a2⟩, _⟩ := blk_cells3 HA.out
          obtain ⟨⟨b0, b1, b2⟩, _⟩ := blk_cells3 HB.out
          obtain ⟨⟨c0, c1, c2⟩, _⟩ := blk_cells3 HU.out
          replace hw := bthen2 (blk_new w3 (.cells #[.int .i64 z0, .int .i64 x0, .int .i64 y0] 30)) hw
          go_wp2_with fail
          go_region_held3 (fun w' => (w'.cell? ⟨w.heap.size, 0, none⟩ = some (.int .i64 z0) ∧ w'.cell? ⟨w.heap.size, 1, none⟩ = some (.int .i64 x0) ∧ w'.cell? ⟨w.heap.size, 2, none⟩ = some (.int .i64 y0)) ∧ (w'.cell? ⟨w.heap.size + 1, 0, none⟩ = some (.int .i64 z1) ∧ w'.cell? ⟨w.heap.size + 1, 1, none⟩ = some (.int .i64 x1) ∧ w'.cell? ⟨w.heap.size + 1, 2, none⟩ = some (.int .i64 y1)) ∧ (w'.cell? ⟨w3.heap.size, 0, none⟩ = some (.int .i64 z0) ∧ w'.cell? ⟨w3.heap.size, 1, none⟩ = some (.int .i64 x0) ∧ w'.cell? ⟨w3.heap.size, 2, none⟩ = some (.int .i64 y0))) (exact ⟨⟨a0, a1, a2⟩, ⟨b0, b1, b2⟩, ⟨c0, c1, c2⟩⟩) (first | (go_at_call 23; refine (HHP.out _).mono ?_; rintro e w8 ⟨rfl, hw8⟩; subst hw8) | (go_at_call 24; refine (over_any _ _ _ _ _ _ _).mono ?_; rintro e w8 ⟨rfl, hb8⟩; have hw := bthen2 hb8 (by first | exact hw | exact Below.drew hw | exact bdraws hw _); have HA := Lib.hid (blk_keep2 hb8 HA.out); have HB := Lib.hid (blk_keep2 hb8 HB.out); have HU := Lib.hid (blk_keep2 hb8 HU.out); obtain ⟨⟨a0, a1, a2⟩, _⟩ := blk_cells3 HA.out; obtain ⟨⟨b0, b1, b2⟩, _⟩ := blk_cells3 HB.out; obtain ⟨⟨c0, c1, c2⟩, _⟩ := blk_cells3 HU.out))
          all_goals
            clear a0 a1 a2 b0 b1 b2 c0 c1 c2
            go_wp2_with fail
            refine (parse_any s2 HS2.out _).mono ?_; rintro e wp ⟨he, hb⟩
            obtain rfl := HPT.out _ he
            replace hw := bthen2 hb hw
            clear he hb
            go_wp2_with fail
            refine (awake42 _).mono ?_; rintro e wa ⟨rfl, hb⟩
            replace hw := bthen2 (blk_one hb).2.2 hw
            clear hb
            go_wp2_with fail
            go_ret
            exact ⟨rfl, hw⟩
      · have HKB := Lib.hid (fun e he => key_none h1 (e := e) he)
        have hpe : (Cv.pe z1 x1 y1 == 0) = false := by rcases Cv.pe_not h1 with q | q <;> rw [q] <;> rfl
        clear h0 h1
        rcases Decidable.em (Qs.pc s2 = 0) with hpc | hpc
        · have HPT := Lib.hid (fun e he => parse_goods hpc (e := e) he)
          have HKT := Lib.hid (fun e he => key_parse hpc (e := e) he)
          clear hpc
          go_enter Tryd.func5, Tryd.ntmps5
          go_wp2_with fail
          refine (key_any _ _ _ _).mono ?_; rintro e w1 ⟨he, hb⟩
          obtain rfl := HKA.out _ he
          obtain ⟨hA, hB, _, _, hw⟩ := blk_two hb
          have HA := Lib.hid hA
          have HB := Lib.hid hB
          clear he hb hA hB
          obtain ⟨⟨b0, b1, b2⟩, _⟩ := blk_cells3 HB.out
          go_wp2_with fail
          refine (key_any _ _ _ _).mono ?_; rintro e w2 ⟨he, hb⟩
          obtain rfl := HKB.out _ he
          replace HA := blk_on HA hb
          replace HB := blk_on HB hb
          replace hw := bthen2 hb hw
          clear he hb b0 b1 b2
          go_wp2_with fail
          refine (parse_any _ HSA.out _).mono ?_; rintro e w3 ⟨he, hb⟩
          obtain rfl := back_key HOK.out he
          replace HA := blk_on HA hb
          replace HB := blk_on HB hb
          replace hw := bthen2 hb hw
          have HU := Lib.hid (heap_alloc_new w3 (.cells #[.int .i64 z0, .int .i64 x0, .int .i64 y0] 30))
          replace HA := Lib.hid (blk_alloc HA.out (.cells #[.int .i64 z0, .int .i64 x0, .int .i64 y0] 30))
          replace HB := Lib.hid (blk_alloc HB.out (.cells #[.int .i64 z0, .int .i64 x0, .int .i64 y0] 30))
          clear he hb
          obtain ⟨⟨a0, a1, a2⟩, _⟩ := blk_cells3 HA.out
          obtain ⟨⟨b0, b1, b2⟩, _⟩ := blk_cells3 HB.out
          obtain ⟨⟨c0, c1, c2⟩, _⟩ := blk_cells3 HU.out
          replace hw := bthen2 (blk_new w3 (.cells #[.int .i64 z0, .int .i64 x0, .int .i64 y0] 30)) hw
          go_wp2_with fail
          go_quiet (fail)
          replace hw := bdraws hw nq
          clear a0 a1 a2 b0 b1 b2 c0 c1 c2
          go_wp2_with fail
          refine (parse_any s2 HS2.out _).mono ?_; rintro e wp ⟨he, hb⟩
          obtain rfl := HPT.out _ he
          replace hw := bthen2 hb hw
          clear he hb
          go_wp2_with fail
          refine (key_any _ _ _ _).mono ?_; rintro e wk ⟨he, hb⟩
          obtain rfl := HKT.out _ he
          replace hw := bthen2 (blk_one hb).2.2 hw
          clear he hb
          go_wp2_with fail
          refine (awake42 _).mono ?_; rintro e wa ⟨rfl, hb⟩
          replace hw := bthen2 hb hw
          clear hb
          go_wp2_with fail
          go_ret
          exact ⟨rfl, hw⟩
        · have hpn : (Qs.pc s2 != 0) = true := by simpa using hpc
          have HPT := Lib.hid (fun e he => parse_bads hpc (e := e) he)
          clear hpc
          go_enter Tryd.func5, Tryd.ntmps5
          go_wp2_with fail
          refine (key_any _ _ _ _).mono ?_; rintro e w1 ⟨he, hb⟩
          obtain rfl := HKA.out _ he
          obtain ⟨hA, hB, _, _, hw⟩ := blk_two hb
          have HA := Lib.hid hA
          have HB := Lib.hid hB
          clear he hb hA hB
          obtain ⟨⟨b0, b1, b2⟩, _⟩ := blk_cells3 HB.out
          go_wp2_with fail
          refine (key_any _ _ _ _).mono ?_; rintro e w2 ⟨he, hb⟩
          obtain rfl := HKB.out _ he
          replace HA := blk_on HA hb
          replace HB := blk_on HB hb
          replace hw := bthen2 hb hw
          clear he hb b0 b1 b2
          go_wp2_with fail
          refine (parse_any _ HSA.out _).mono ?_; rintro e w3 ⟨he, hb⟩
          obtain rfl := back_key HOK.out he
          replace HA := blk_on HA hb
          replace HB := blk_on HB hb
          replace hw := bthen2 hb hw
          have HU := Lib.hid (heap_alloc_new w3 (.cells #[.int .i64 z0, .int .i64 x0, .int .i64 y0] 30))
          replace HA := Lib.hid (blk_alloc HA.out (.cells #[.int .i64 z0, .int .i64 x0, .int .i64 y0] 30))
          replace HB := Lib.hid (blk_alloc HB.out (.cells #[.int .i64 z0, .int .i64 x0, .int .i64 y0] 30))
          clear he hb
          obtain ⟨⟨a0, a1, a2⟩, _⟩ := blk_cells3 HA.out
          obtain ⟨⟨b0, b1, b2⟩, _⟩ := blk_cells3 HB.out
          obtain ⟨⟨c0, c1, c2⟩, _⟩ := blk_cells3 HU.out
          replace hw := bthen2 (blk_new w3 (.cells #[.int .i64 z0, .int .i64 x0, .int .i64 y0] 30)) hw
          go_wp2_with fail
          go_quiet (fail)
          replace hw := bdraws hw nq
          clear a0 a1 a2 b0 b1 b2 c0 c1 c2
          go_wp2_with fail
          refine (parse_any s2 HS2.out _).mono ?_; rintro e wp ⟨he, hb⟩
          obtain rfl := HPT.out _ he
          replace hw := bthen2 hb hw
          clear he hb
          go_wp2_with fail
          refine (awake42 _).mono ?_; rintro e wa ⟨rfl, hb⟩
          replace hw := bthen2 (blk_one hb).2.2 hw
          clear hb
          go_wp2_with fail
          go_ret
          exact ⟨rfl, hw⟩
    · have HKA := Lib.hid (fun e he => key_none h0 (e := e) he)
      have hpa : (Cv.pe z0 x0 y0 == 0) = false := by rcases Cv.pe_not h0 with q | q <;> rw [q] <;> rfl
      clear h0
      rcases Bool.eq_false_or_eq_true (Cv.okB z1 x1 y1) with h1 | h1
      · have HKB := Lib.hid (fun e he => key_text h1 (e := e) he)
        clear h1
        rcases Decidable.em (Qs.pc s2 = 0) with hpc | hpc
        · have HPT := Lib.hid (fun e he => parse_goods hpc (e := e) he)
          have HKT := Lib.hid (fun e he => key_parse hpc (e := e) he)
          clear hpc
          go_enter Tryd.func5, Tryd.ntmps5
          go_wp2_with fail
          refine (key_any _ _ _ _).mono ?_; rintro e w1 ⟨he, hb⟩
          obtain rfl := HKA.out _ he
          obtain ⟨hA, hB, _, _, hw⟩ := blk_two hb
          have HA := Lib.hid hA
          have HB := Lib.hid hB
          clear he hb hA hB
          obtain ⟨⟨b0, b1, b2⟩, _⟩ := blk_cells3 HB.out
          go_wp2_with fail
          refine (key_any _ _ _ _).mono ?_; rintro e w2 ⟨he, hb⟩
          obtain rfl := HKB.out _ he
          replace HA := blk_on HA hb
          replace HB := blk_on HB hb
          replace hw := bthen2 hb hw
          clear he hb b0 b1 b2
          go_wp2_with fail
          refine (parse_any s2 HS2.out _).mono ?_; rintro e wp ⟨he, hb⟩
          obtain rfl := HPT.out _ he
          replace hw := bthen2 hb hw
          clear he hb
          go_wp2_with fail
          refine (key_any _ _ _ _).mono ?_; rintro e wk ⟨he, hb⟩
          obtain rfl := HKT.out _ he
          replace hw := bthen2 (blk_one hb).2.2 hw
          clear he hb
          go_wp2_with fail
          refine (awake42 _).mono ?_; rintro e wa ⟨rfl, hb⟩
          replace hw := bthen2 hb hw
          clear hb
          go_wp2_with fail
          go_ret
          exact ⟨rfl, hw⟩
        · have hpn : (Qs.pc s2 != 0) = true := by simpa using hpc
          have HPT := Lib.hid (fun e he => parse_bads hpc (e := e) he)
          clear hpc
          go_enter Tryd.func5, Tryd.ntmps5
          go_wp2_with fail
          refine (key_any _ _ _ _).mono ?_; rintro e w1 ⟨he, hb⟩
          obtain rfl := HKA.out _ he
          obtain ⟨hA, hB, _, _, hw⟩ := blk_two hb
          have HA := Lib.hid hA
          have HB := Lib.hid hB
          clear he hb hA hB
          obtain ⟨⟨b0, b1, b2⟩, _⟩ := blk_cells3 HB.out
          go_wp2_with fail
          refine (key_any _ _ _ _).mono ?_; rintro e w2 ⟨he, hb⟩
          obtain rfl := HKB.out _ he
          replace HA := blk_on HA hb
          replace HB := blk_on HB hb
          replace hw := bthen2 hb hw
          clear he hb b0 b1 b2
          go_wp2_with fail
          refine (parse_any s2 HS2.out _).mono ?_; rintro e wp ⟨he, hb⟩
          obtain rfl := HPT.out _ he
          replace hw := bthen2 hb hw
          clear he hb
          go_wp2_with fail
          refine (awake42 _).mono ?_; rintro e wa ⟨rfl, hb⟩
          replace hw := bthen2 (blk_one hb).2.2 hw
          clear hb
          go_wp2_with fail
          go_ret
          exact ⟨rfl, hw⟩
      · have HKB := Lib.hid (fun e he => key_none h1 (e := e) he)
        clear h1
        rcases Decidable.em (Qs.pc s2 = 0) with hpc | hpc
        · have HPT := Lib.hid (fun e he => parse_goods hpc (e := e) he)
          have HKT := Lib.hid (fun e he => key_parse hpc (e := e) he)
          clear hpc
          go_enter Tryd.func5, Tryd.ntmps5
          go_wp2_with fail
          refine (key_any _ _ _ _).mono ?_; rintro e w1 ⟨he, hb⟩
          obtain rfl := HKA.out _ he
          obtain ⟨hA, hB, _, _, hw⟩ := blk_two hb
          have HA := Lib.hid hA
          have HB := Lib.hid hB
          clear he hb hA hB
          obtain ⟨⟨b0, b1, b2⟩, _⟩ := blk_cells3 HB.out
          go_wp2_with fail
          refine (key_any _ _ _ _).mono ?_; rintro e w2 ⟨he, hb⟩
          obtain rfl := HKB.out _ he
          replace HA := blk_on HA hb
          replace HB := blk_on HB hb
          replace hw := bthen2 hb hw
          clear he hb b0 b1 b2
          go_wp2_with fail
          refine (parse_any s2 HS2.out _).mono ?_; rintro e wp ⟨he, hb⟩
          obtain rfl := HPT.out _ he
          replace hw := bthen2 hb hw
          clear he hb
          go_wp2_with fail
          refine (key_any _ _ _ _).mono ?_; rintro e wk ⟨he, hb⟩
          obtain rfl := HKT.out _ he
          replace hw := bthen2 (blk_one hb).2.2 hw
          clear he hb
          go_wp2_with fail
          refine (awake42 _).mono ?_; rintro e wa ⟨rfl, hb⟩
          replace hw := bthen2 hb hw
          clear hb
          go_wp2_with fail
          go_ret
          exact ⟨rfl, hw⟩
        · have hpn : (Qs.pc s2 != 0) = true := by simpa using hpc
          have HPT := Lib.hid (fun e he => parse_bads hpc (e := e) he)
          clear hpc
          go_enter Tryd.func5, Tryd.ntmps5
          go_wp2_with fail
          refine (key_any _ _ _ _).mono ?_; rintro e w1 ⟨he, hb⟩
          obtain rfl := HKA.out _ he
          obtain ⟨hA, hB, _, _, hw⟩ := blk_two hb
          have HA := Lib.hid hA
          have HB := Lib.hid hB
          clear he hb hA hB
          obtain ⟨⟨b0, b1, b2⟩, _⟩ := blk_cells3 HB.out
          go_wp2_with fail
          refine (key_any _ _ _ _).mono ?_; rintro e w2 ⟨he, hb⟩
          obtain rfl := HKB.out _ he
          replace HA := blk_on HA hb
          replace HB := blk_on HB hb
          replace hw := bthen2 hb hw
          clear he hb b0 b1 b2
          go_wp2_with fail
          refine (parse_any s2 HS2.out _).mono ?_; rintro e wp ⟨he, hb⟩
          obtain rfl := HPT.out _ he
          replace hw := bthen2 hb hw
          clear he hb
          go_wp2_with fail
          refine (awake42 _).mono ?_; rintro e wa ⟨rfl, hb⟩
          replace hw := bthen2 (blk_one hb).2.2 hw
          clear hb
          go_wp2_with fail
          go_ret
          exact ⟨rfl, hw⟩

theorem proved : Rows.QuadBackCardSaid := card walk
end Go.Proofs.YtdipincjginmcaaDoor.quadBack
