/- TileidFour: at every input the four tiles in a tile lie in it, one behind the other, and no other tile of that zoom does, and the law returns true. -/
import Derived.Test.YtdipincjginmcaaLaw
import Derived.Test.YtdipincjginmcaaTileFour
import Derived.Deep.RegionHeld3
import Derived.Deep.DrawnRows
namespace Go.Proofs.Ytdipincjginmcaa.tileidFour
open Go.ChangeShapes Go.WideShapes Go.ChangeAt Go.RowKit
set_option linter.unusedVariables false

attribute [local go_sem ↓] Go.wp_at_zero Go.wp_at_succ

theorem four_not (x0 y0 z0 x1 y1 z1 : Int) (h : Cv.dB x0 y0 z0 = false) (w : World) :
    Calls Try.prog 12 #[.agg #[.int .i64 x0, .int .i64 y0, .int .i64 z0], .agg #[.int .i64 x1, .int .i64 y1, .int .i64 z1]] w fun e w' => e = .returned (.bool true) ∧ Below w.heap.size w w' := by
  have hde : (Cv.de x0 y0 z0 != 0) = true := by
    unfold Cv.de
    unfold Cv.dB at h
    split
    · rename_i k
      rw [k] at h
      rw [if_neg (of_decide_eq_false (by simpa using h))]
      rfl
    · rename_i k
      rcases Cv.pe_not (by simpa using k) with q | q <;> rw [q] <;> rfl
  go_enter Try.func12, Try.ntmps12
  go_wp2_with fail
  refine (down_not _ _ _ _ h).mono ?_; rintro e w1 ⟨rfl, hb1⟩
  obtain ⟨hA, hB, hsA, hsB, hw1⟩ := blk_two hb1
  clear hA hB
  go_wp2_with fail
  refine (awake04 _).mono ?_; rintro e w9 ⟨rfl, hb9⟩
  go_wp2_with fail
  go_ret
  exact ⟨rfl, bthen hw1 hb9⟩

set_option maxRecDepth 100000 in
set_option maxHeartbeats 2000000 in
theorem four_in (x0 y0 z0 x1 y1 z1 : Int) (w1' : (Lit.int .i64 x0).wf = true) (h : Cv.okB x0 y0 z0 = true) (c : x0 < 26) (w : World) :
    Calls Try.prog 12 #[.agg #[.int .i64 x0, .int .i64 y0, .int .i64 z0], .agg #[.int .i64 x1, .int .i64 y1, .int .i64 z1]] w fun e w' => e = .returned (.bool true) ∧ Below w.heap.size w w' := by
  have hde : Cv.de x0 y0 z0 = 0 := by unfold Cv.de; rw [h, if_pos rfl, if_pos c]
  have hdl : Cv.dl x0 y0 z0 = Cv.tls (Cv.rf x0 y0 z0 (x0 + 1)) 4 := by unfold Cv.dl Cv.dB; rw [h, decide_eq_true c]; rfl
  have hfin : x1 = x0 + 1 → Cv.inB (Cv.rf x0 y0 z0 (x0 + 1)) x1 y1 z1 4 = Cv.ovB x0 y0 z0 x1 y1 z1 := fun hs => Cv.four_over h c hs
  have hff := fun i hi => Cv.four_facts h c i hi
  obtain ⟨⟨r0, r1, _⟩, _⟩ := Cv.rng_zoom h (show x0 ≤ x0 + 1 by omega) (by omega)
  obtain ⟨⟨hz0, hz1⟩, _⟩ := Cv.ok_in h
  obtain ⟨R, hR⟩ : ∃ R, R = Cv.rf x0 y0 z0 (x0 + 1) := ⟨_, rfl⟩
  have hdn := fun w => down_any x0 y0 z0 w
  rw [hde, hdl] at hdn
  rw [← hR] at hdn hfin hff r0 r1
  have HD := Lib.hid hdn
  have HF := Lib.hid hfin
  have HH := Lib.hid hff
  have hq := eq_tile
  have hqn := neq_tile
  have ht : ∀ a b c : Int, Cv.teq a b c a b c = true := fun a b c => by unfold Cv.teq; simp
  clear hde hdl hfin hff hdn hR h
  go_enter Try.func12, Try.ntmps12
  go_wp2_with fail
  refine (HD.out _).mono ?_
  intro e w1 h1
  obtain ⟨v, he, hT, hb1⟩ := h1
  obtain ⟨g, cap, hv, hg, hgl⟩ := World.ownsRow.form hT (by rw [Cv.tls_len]; omega)
  rw [Cv.tls_len] at hv
  rw [hv] at he hT
  subst he
  obtain ⟨hA, hB, hsA, hsB, hw1⟩ := blk_two hb1
  obtain ⟨k0, k1, k2⟩ := tls_cell hT 0 (by omega)
  simp at k0 k1 k2
  obtain ⟨f1, f2, _⟩ := HH.out 0 (by omega)
  simp at f1 f2
  have f3 := Cv.pe_ok f1
  have HT := Lib.hid hT
  have HA := Lib.hid hA
  have HB := Lib.hid hB
  clear hT hA hB hv hg hgl hb1 f1
  go_wp2_with fail
  refine (id_any _ _ _ _).mono ?_; rintro e w2 ⟨rfl, hb2⟩
  have hw2 := bthen hw1 hb2
  have hA2 := blk_keep2 hb2 HA.out
  have hB2 := blk_keep2 hb2 HB.out
  have hT2 := own_keep2 hb2 HT.out
  have HA2 := Lib.hid hA2
  have HB2 := Lib.hid hB2
  have HT2 := Lib.hid hT2
  clear hA2 hB2 hT2 HA HB HT k0 k1 k2 f3 hw1 hb2 hsA hsB
  go_wp2_with fail
  go_loopw [9, 10] (fun cb ci wr => ∃ (k : Nat) (b : Bool), k ≤ 4 ∧ ci = .int .i64 k ∧ cb = .bool b ∧ Hid (b = Cv.inB R x1 y1 z1 k) ∧ Below w.heap.size w wr ∧ Hid (wr.heap[w.heap.size]? = some (.cells #[.int .i64 x0, .int .i64 y0, .int .i64 z0] 42 (0, 0))) ∧ Hid (wr.heap[w.heap.size + 1]? = some (.cells #[.int .i64 x1, .int .i64 y1, .int .i64 z1] 42 (0, 0))) ∧ Hid (TilesAt wr (((w.alloc (.cells #[.int .i64 x0, .int .i64 y0, .int .i64 z0] 42)).alloc (.cells #[.int .i64 x1, .int .i64 y1, .int .i64 z1] 42)).heap.size) 44 (.slice (some ⟨g, 0, none⟩) 4 cap) (Cv.tls R 4))) (fun _ ci _ => 4 - (intOf ci).toNat)
  case atStart => exact ⟨0, false, by omega, rfl, rfl, rfl, hw2, HA2, HB2, HT2⟩
  case round =>
    obtain ⟨k, b, hk, rfl, rfl, hin, hbl, hA, hB, hT⟩ := hrel
    clear HA2 HB2 HT2 hw2
    by_cases hlt : k < 4
    · obtain ⟨f1, f2, ⟨f3, f4, f5, f6⟩, f7, f8⟩ := HH.out k hlt
      have f9 := Cv.pe_ok f1
      have hnew := hin.out
      have hnext : Cv.inB R x1 y1 z1 (k + 1) = (b || Cv.teq (Cv.oz (R + k)) (Cv.ox (R + k)) (Cv.oy (R + k)) x1 y1 z1) := by rw [Cv.inB, hnew]
      rw [f8] at hnext
      have HN := Lib.hid hnext
      obtain ⟨k0, k1, k2⟩ := tls_cell hT.out k hlt
      rw [f8] at f2 f3 f4 f5 f6 f7 f9 k0
      clear f1 hnew hnext
      go_wp2_with fail
      refine (id_any _ _ _ _).mono ?_; rintro e w3 ⟨rfl, hb3⟩
      have hw3 := bthen2 hb3 hbl
      have hA3 := Lib.hid (blk_keep2 hb3 hA.out)
      have hB3 := Lib.hid (blk_keep2 hb3 hB.out)
      have hT3 := Lib.hid (own_keep2 hb3 hT.out)
      clear k0 k1 k2 hA hB hT hbl hb3
      obtain ⟨k0, k1, k2⟩ := tls_cell hT3.out k hlt
      rw [f8] at k0
      go_wp2_with fail
      refine (up_any _ _ _ _).mono ?_; rintro e w4 ⟨rfl, hb4⟩
      have hw4 := bthen2 hb4 hw3
      have hA4 := Lib.hid (blk_alloc (blk_keep2 hb4 hA3.out) (.cells #[.int .i64 x0, .int .i64 y0, .int .i64 z0] 44))
      have hB4 := Lib.hid (blk_alloc (blk_keep2 hb4 hB3.out) (.cells #[.int .i64 x0, .int .i64 y0, .int .i64 z0] 44))
      have hT4 := Lib.hid (own_alloc2 (.cells #[.int .i64 x0, .int .i64 y0, .int .i64 z0] 44) (own_keep2 hb4 hT3.out))
      have hC4 := Lib.hid (heap_alloc_new w4 (.cells #[.int .i64 x0, .int .i64 y0, .int .i64 z0] 44))
      have hw5 := hw4.alloc hw4.size (.cells #[.int .i64 x0, .int .i64 y0, .int .i64 z0] 44)
      clear k0 k1 k2 hA3 hB3 hT3 hw3 hb4
      obtain ⟨⟨a0, a1, a2⟩, _⟩ := blk_cells3 hA4.out
      obtain ⟨⟨c0, c1, c2⟩, _⟩ := blk_cells3 hC4.out
      obtain ⟨k0, k1, k2⟩ := tls_cell hT4.out k hlt
      rw [f8] at k0
      have s1 : IntKind.u64.wrap (R + k) = R + k := u64w (by omega) (by omega)
      have s2 : IntKind.u64.wrap (k : Int) = k := u64w (by omega) (by omega)
      cases b
      all_goals
        go_wp2_with fail
        go_region_held3 (fun w' => (w'.cell? ⟨w.heap.size, 0, none⟩ = some (.int .i64 x0) ∧ w'.cell? ⟨w.heap.size, 1, none⟩ = some (.int .i64 y0) ∧ w'.cell? ⟨w.heap.size, 2, none⟩ = some (.int .i64 z0)) ∧ (w'.cell? ⟨w4.heap.size, 0, none⟩ = some (.int .i64 x0) ∧ w'.cell? ⟨w4.heap.size, 1, none⟩ = some (.int .i64 y0) ∧ w'.cell? ⟨w4.heap.size, 2, none⟩ = some (.int .i64 z0)) ∧ (w'.cell? ⟨g, k * 3, none⟩ = some (.int .i64 (x0 + 1)) ∧ w'.cell? ⟨g, k * 3 + 1, none⟩ = some (.int .i64 (Cv.ox (R + k))) ∧ w'.cell? ⟨g, k * 3 + 2, none⟩ = some (.int .i64 (Cv.oy (R + k))))) (first | exact ⟨⟨a0, a1, a2⟩, ⟨c0, c1, c2⟩, ⟨k0, k1, k2⟩⟩ | exact ⟨⟨a0', a1', a2'⟩, ⟨c0', c1', c2'⟩, ⟨k0', k1', k2'⟩⟩) (first | (go_at_call 33; refine (over_any _ _ _ _ _ _ _).mono ?_; rintro e w6 ⟨rfl, hb6⟩; have hA6 := blk_keep2 hb6 hA4.out; have hC6 := blk_keep2 hb6 hC4.out; have hB6 := blk_keep2 hb6 hB4.out; have hT6 := own_keep2 hb6 hT4.out; have hw6 := bthen2 hb6 (Below.drew hw5); obtain ⟨⟨a0', a1', a2'⟩, _⟩ := blk_cells3 hA6; obtain ⟨⟨c0', c1', c2'⟩, _⟩ := blk_cells3 hC6; obtain ⟨k0', k1', k2'⟩ := tls_cell hT6 k hlt; rw [f8] at k0'))
        clear a0 a1 a2 c0 c1 c2 k0 k1 k2 a0' a1' a2' c0' c1' c2' k0' k1' k2'
        obtain ⟨⟨d0, d1, d2⟩, _⟩ := blk_cells3 hB6
        obtain ⟨m0, m1, m2⟩ := tls_cell hT6 k hlt
        rw [f8] at m0
        have HA6 := Lib.hid hA6
        have HB6 := Lib.hid hB6
        have HT6 := Lib.hid hT6
        clear hA6 hB6 hT6 hC6 s1 s2
        go_wp2_with fail
        go_quiet (fail)
        go_wp2_with fail
        exact ⟨⟨k + 1, _, by omega, by go_num, rfl, Lib.hid (by rw [HN.out]; simp), bdraws hw6 _, HA6, HB6, HT6⟩, by simp [intOf]; omega⟩
    · have hk4 : k = 4 := by omega
      subst hk4
      obtain ⟨⟨a0, a1, a2⟩, _⟩ := blk_cells3 hA.out
      obtain ⟨⟨d0, d1, d2⟩, _⟩ := blk_cells3 hB.out
      by_cases hs : x1 = x0 + 1
      · have hov : Cv.ovB x0 y0 z0 x1 y1 z1 = b := by rw [hin.out]; exact (HF.out hs).symm
        have hne : (x1 != x0 + 1) = false := by rw [bne_eq_false_iff_eq]; exact hs
        clear hs
        go_wp2_with fail
        refine (over_any _ _ _ _ _ _ _).mono ?_; rintro e w3 ⟨rfl, hb3⟩
        have hw3 := bthen2 hb3 hbl
        clear a0 a1 a2 d0 d1 d2
        go_wp2_with fail
        refine (awake04 _).mono ?_; rintro e w9 ⟨rfl, hb9⟩
        go_wp2_with fail
        go_ret
        exact ⟨rfl, bthen hw3 hb9⟩
      · have hne : (x1 != x0 + 1) = true := by rw [bne_iff_ne]; exact hs
        clear hs
        go_wp2_with fail
        refine (awake04 _).mono ?_; rintro e w9 ⟨rfl, hb9⟩
        go_wp2_with fail
        go_ret
        exact ⟨rfl, bthen hbl hb9⟩

theorem walk (x0 y0 z0 : Int) (wx0 : (Lit.int .i64 x0).wf = true) (wy0 : (Lit.int .i64 y0).wf = true) (wz0 : (Lit.int .i64 z0).wf = true) (x1 y1 z1 : Int) (wx1 : (Lit.int .i64 x1).wf = true) (wy1 : (Lit.int .i64 y1).wf = true) (wz1 : (Lit.int .i64 z1).wf = true) (w : World) :
    Calls Try.prog 12 #[.agg #[.int .i64 x0, .int .i64 y0, .int .i64 z0], .agg #[.int .i64 x1, .int .i64 y1, .int .i64 z1]] w fun e w' => e = .returned (.bool true) ∧ Below w.heap.size w w' := by
  rcases Bool.eq_false_or_eq_true (Cv.dB x0 y0 z0) with h | h
  · have h' := h
    unfold Cv.dB at h'
    rw [Bool.and_eq_true] at h'
    exact four_in _ _ _ _ _ _ wx0 h'.1 (of_decide_eq_true h'.2) w
  · exact four_not _ _ _ _ _ _ h w

set_option maxRecDepth 100000 in
theorem lifted (os : Os) (started : os.Started) (H : Type) (enc : TypeId × Value → H) :
    ReturnsInHanded {} Try.checked os 12 .any (Rows.tileidFourSpec.pre6 enc Try.prog Try.f12 Rows.tileidFourRow.domain false) (Rows.tileidFourSpec.post enc Try.prog Try.f12 false true false false) := by
  refine returnsInHanded_of_change (C := Try.checked) own_ started (by kernel_rfl) Try.func12
    (ChangeSpec.witness6 (enc := enc) (C := Try.checked) false ⟨#[], #[.agg #[.int .i64 0, .int .i64 0, .int .i64 0], .agg #[.int .i64 0, .int .i64 0, .int .i64 0]], []⟩ 8 (by kernel_rfl) (by kernel_rfl) (by kernel_rfl) (by kernel_rfl)) ?_
  intro W base args ds gs before hval0 hW hcnd _
  have hval : ∀ (j : Nat) t v, Try.f12.params[j]? = some t → args[j]? = some v → Value.okWide Try.prog W .any base t v := hval0
  have hW' := hW
  obtain ⟨p, q, hA0, hV, e0, hfz, hnd⟩ := hW
  clear e0 hfz hnd hcnd
  have hA : DataW.TrodAll enc Try.prog W 0 (fun _ => true) true Try.f12.params.toList args.toList ds p := hA0
  rw [Try.params12] at hA hval
  obtain ⟨v0, vs0, d0, ds0, p0, q0, hargs, rfl, e0, h0, r0⟩ := trodAll_cons hA
  obtain ⟨v1, vs1, d1, ds1, p1, q1, rfl, rfl, e1, h1, r1⟩ := trodAll_cons r0
  obtain ⟨rfl, rfl, eN⟩ := trodAll_nil r1
  obtain rfl : args = #[v0, v1] := by cases args; simp_all
  obtain ⟨x0, y0, z0, rfl, wx0, wy0, wz0⟩ := open_three Try.underlying42 (by kernel_rfl) (by kernel_rfl) rfl rfl rfl Try.underlying3 (hval 0 42 v0 rfl rfl) h0
  obtain ⟨x1, y1, z1, rfl, wx1, wy1, wz1⟩ := open_three Try.underlying42 (by kernel_rfl) (by kernel_rfl) rfl rfl rfl Try.underlying3 (hval 1 42 v1 rfl rfl) h1
  refine (walk x0 y0 z0 wx0 wy0 wz0 x1 y1 z1 wx1 wy1 wz1 W).mono fun e W' ⟨he, hb⟩ => ?_
  subst he
  exact ⟨_, rfl, law_post laid_ (by kernel_rfl) hW' rfl rfl (by kernel_rfl) Try.underlying4 hb⟩

theorem over : Rows.tileidFourRow.holds Try.pinned (OpenSpec.ofChange Rows.tileidFourSpec) :=
  OpenClaim.holds_of_wide 12 Try.f12 rfl rfl rfl rfl rfl rfl rfl ⟨rfl, rfl, rfl, rfl, rfl⟩ rfl rfl rfl rfl rfl (by kernel_rfl) Try.func12 (by kernel_rfl)
    (of_decide_eq_true (by kernel_rfl)) (by unfold Func.isWrapper; first | (rw [if_pos (by decide +kernel)]; kernel_rfl) | (rw [if_neg (by decide +kernel)]; exact ⟨rfl, rfl⟩))
    (fun os started H enc _ => lifted os started H enc)

theorem proved : Rows.TileidFourSaid := over
end Go.Proofs.Ytdipincjginmcaa.tileidFour
