/- Moves of a tile: the walk and the law. -/
import Derived.Test.YtdipincjginmcaaLaw
import Derived.Test.YtdipincjginmcaaTileSame
import Derived.Test.YtdipincjginmcaaRefDown
import Derived.Test.YtdipincjginmcaaRefRange
import Derived.Test.YtdipincjginmcaaTileAwake
import Derived.Deep.RegionHeld3
import Derived.Deep.DrawnRows
namespace Go.Proofs.Ytdipincjginmcaa.tileidMoves
open Go.ChangeShapes Go.WideShapes Go.ChangeAt Go.RowKit
set_option linter.unusedVariables false

attribute [local go_sem ↓] Go.wp_at_zero Go.wp_at_succ

theorem held_then {w w1 w2 : World} (k : Below w1.heap.size w1 w2) (h : Below w.heap.size w w1) : Below w.heap.size w w2 := bthen h k
set_option maxRecDepth 100000 in
set_option maxHeartbeats 4000000 in
theorem walk (x0 y0 z0 : Int) (wx0 : (Lit.int .i64 x0).wf = true) (wy0 : (Lit.int .i64 y0).wf = true) (wz0 : (Lit.int .i64 z0).wf = true) (x1 y1 z1 : Int) (wx1 : (Lit.int .i64 x1).wf = true) (wy1 : (Lit.int .i64 y1).wf = true) (wz1 : (Lit.int .i64 z1).wf = true) (a2 : Int) (w2 : (Lit.int .i64 a2).wf = true) (w : World) :
    Calls Try.prog 11 #[.agg #[.int .i64 x0, .int .i64 y0, .int .i64 z0], .agg #[.int .i64 x1, .int .i64 y1, .int .i64 z1], .int .i64 a2] w fun e w' => e = .returned (.bool true) ∧ Below w.heap.size w w' := by
  have hq := eq_rtile
  have ht : ∀ a b c : Int, Cv.teq a b c a b c = true := fun a b c => by unfold Cv.teq; simp
  have hl : (Cv.dl x0 y0 z0).length ≤ 100 := by
    unfold Cv.dl
    split
    · rw [Cv.tls_len]; omega
    · simp
  have HL := Lib.hid hl
  clear hl wx0 wy0 wz0 wx1 wy1 wz1
  go_enter Try.func11, Try.ntmps11
  go_wp2_with fail
  refine (up_any _ _ _ _).mono ?_; rintro e w1 ⟨rfl, hb1⟩
  obtain ⟨hA, hB, hsA, hsB, hw1⟩ := blk_two hb1
  have HA := Lib.hid hA
  have HB := Lib.hid hB
  obtain ⟨⟨c0, c1, c2⟩, _⟩ := blk_cells3 (blk_alloc hA (.cells #[.int .i64 (Cv.uz x0 y0 z0), .int .i64 (Cv.ux x0 y0 z0), .int .i64 (Cv.uy x0 y0 z0)] 44 (0, 0)))
  clear hA hB hb1 hsA hsB
  go_wp2_with fail
  refine (refup_any _ _ _ _).mono ?_; rintro e w2 ⟨rfl, hb2⟩
  obtain ⟨hC, hsC, hw2'⟩ := blk_one hb2
  have hw2 := bthen hw1 hw2'
  have HA2 := Lib.hid (blk_keep (blk_alloc HA.out _) hb2)
  have HB2 := Lib.hid (blk_keep (blk_alloc HB.out _) hb2)
  have HC := Lib.hid hC
  clear c0 c1 c2
  obtain ⟨⟨c0, c1, c2⟩, _⟩ := blk_cells3 (blk_alloc HA2.out (.cells #[.int .i64 (Cv.uz x0 y0 z0), .int .i64 (Cv.ux x0 y0 z0), .int .i64 (Cv.uy x0 y0 z0)] 42 (0, 0)))
  clear hC hb2 hsC hw2' hw1 HA HB
  go_wp2_with fail
  refine (down_any _ _ _ _).mono ?_
  intro e w3 h3
  obtain ⟨va, he, hT, hb3⟩ := h3
  subst he
  obtain ⟨hD, hsD, hw3'⟩ := blk_one hb3
  have hw3 := bthen hw2 hw3'
  have HA3 := Lib.hid (blk_keep (blk_alloc HA2.out _) hb3)
  have HB3 := Lib.hid (blk_keep (blk_alloc HB2.out _) hb3)
  have HC3 := Lib.hid (blk_keep (blk_alloc HC.out _) hb3)
  have HD := Lib.hid hD
  have HT := Lib.hid hT
  clear c0 c1 c2 hD hb3 hsD hw3' hw2 HA2 HB2 HC hT
  obtain ⟨⟨c0, c1, c2⟩, _⟩ := blk_cells3 HA3.out
  go_wp2_with fail
  refine (refdown_any _ _ _ _).mono ?_
  intro e w4 h4
  obtain ⟨vb, he, hT, hb4⟩ := h4
  subst he
  have hw4 := bthen hw3 hb4
  have HA4 := Lib.hid (blk_keep HA3.out hb4)
  have HB4 := Lib.hid (blk_keep HB3.out hb4)
  have HC4 := Lib.hid (blk_keep HC3.out hb4)
  have HD4 := Lib.hid (blk_keep HD.out hb4)
  have HT4 := Lib.hid (own_keep2 hb4 HT.out)
  have HU := Lib.hid hT
  clear c0 c1 c2 hb4 hw3 HA3 HB3 HC3 HD HT hT
  obtain ⟨⟨c0, c1, c2⟩, _⟩ := blk_cells3 HA4.out
  go_wp2_with fail
  refine (range_any _ _ _ _ _).mono ?_; rintro e w5 ⟨rfl, hb5⟩
  have hw5 := bthen hw4 hb5
  have HA5 := Lib.hid (blk_keep HA4.out hb5)
  have HB5 := Lib.hid (blk_keep HB4.out hb5)
  have HC5 := Lib.hid (blk_keep HC4.out hb5)
  have HD5 := Lib.hid (blk_keep HD4.out hb5)
  have HT5 := Lib.hid (own_keep2 hb5 HT4.out)
  have HU5 := Lib.hid (own_keep2 hb5 HU.out)
  clear c0 c1 c2 hb5 hw4 HA4 HB4 HC4 HD4 HT4 HU
  obtain ⟨⟨c0, c1, c2⟩, _⟩ := blk_cells3 HA5.out
  go_wp2_with fail
  refine (refrange_any _ _ _ _ _).mono ?_; rintro e w6 ⟨rfl, hb6⟩
  have hw := bthen hw5 hb6
  have HA := Lib.hid (blk_keep HA5.out hb6)
  have HB := Lib.hid (blk_keep HB5.out hb6)
  have HC := Lib.hid (blk_keep HC5.out hb6)
  have HD := Lib.hid (blk_keep HD5.out hb6)
  have HT := Lib.hid (own_keep2 hb6 HT5.out)
  have HU := Lib.hid (own_keep2 hb6 HU5.out)
  clear c0 c1 c2 hb6 hw5 HA5 HB5 HC5 HD5 HT5 HU5
  obtain ⟨⟨a0, a1, a2'⟩, _⟩ := blk_cells3 HA.out
  obtain ⟨⟨b0, b1, b2⟩, _⟩ := blk_cells3 HB.out
  obtain ⟨⟨c0, c1, c2⟩, _⟩ := blk_cells3 HC.out
  obtain ⟨⟨d0, d1, d2⟩, _⟩ := blk_cells3 HD.out
  go_wp2_with fail
  go_region_held3 (fun w' => (w'.cell? ⟨w.heap.size, 0, none⟩ = some (.int .i64 x0) ∧ w'.cell? ⟨w.heap.size, 1, none⟩ = some (.int .i64 y0) ∧ w'.cell? ⟨w.heap.size, 2, none⟩ = some (.int .i64 z0)) ∧ (w'.cell? ⟨w.heap.size + 1, 0, none⟩ = some (.int .i64 x1) ∧ w'.cell? ⟨w.heap.size + 1, 1, none⟩ = some (.int .i64 y1) ∧ w'.cell? ⟨w.heap.size + 1, 2, none⟩ = some (.int .i64 z1)) ∧ (w'.cell? ⟨w1.heap.size, 0, none⟩ = some (.int .i64 (Cv.uz x0 y0 z0)) ∧ w'.cell? ⟨w1.heap.size, 1, none⟩ = some (.int .i64 (Cv.ux x0 y0 z0)) ∧ w'.cell? ⟨w1.heap.size, 2, none⟩ = some (.int .i64 (Cv.uy x0 y0 z0))) ∧ (w'.cell? ⟨w2.heap.size, 0, none⟩ = some (.int .i64 (Cv.uz x0 y0 z0)) ∧ w'.cell? ⟨w2.heap.size, 1, none⟩ = some (.int .i64 (Cv.ux x0 y0 z0)) ∧ w'.cell? ⟨w2.heap.size, 2, none⟩ = some (.int .i64 (Cv.uy x0 y0 z0)))) (exact ⟨⟨a0, a1, a2'⟩, ⟨b0, b1, b2⟩, ⟨c0, c1, c2⟩, ⟨d0, d1, d2⟩⟩) (first | (go_at_call 40; refine (back_any _ _ _ _ (by exact HT.out) HL.out).mono ?_; rintro e w8 ⟨v8, rfl, hV, hb8⟩; have hw := held_then hb8 (by first | exact hw | exact Below.drew hw | exact bdraws hw _); have HA := Lib.hid (blk_keep2 hb8 HA.out); have HB := Lib.hid (blk_keep2 hb8 HB.out); have HC := Lib.hid (blk_keep2 hb8 HC.out); have HD := Lib.hid (blk_keep2 hb8 HD.out); have HV := Lib.hid hV; have HU := Lib.hid (own_keep2 hb8 HU.out); clear hV; obtain ⟨⟨a0, a1, a2'⟩, _⟩ := blk_cells3 HA.out; obtain ⟨⟨b0, b1, b2⟩, _⟩ := blk_cells3 HB.out; obtain ⟨⟨c0, c1, c2⟩, _⟩ := blk_cells3 HC.out; obtain ⟨⟨d0, d1, d2⟩, _⟩ := blk_cells3 HD.out) | (go_at_call 39; refine (same_any _ _ _ _ _ _ (by exact HV.out) (by exact HU.out) HL.out).mono ?_; rintro e w8 ⟨rfl, hb8⟩; have hw := held_then hb8 (by first | exact hw | exact Below.drew hw | exact bdraws hw _); have HA := Lib.hid (blk_keep2 hb8 HA.out); have HB := Lib.hid (blk_keep2 hb8 HB.out); have HC := Lib.hid (blk_keep2 hb8 HC.out); have HD := Lib.hid (blk_keep2 hb8 HD.out); obtain ⟨⟨a0, a1, a2'⟩, _⟩ := blk_cells3 HA.out; obtain ⟨⟨b0, b1, b2⟩, _⟩ := blk_cells3 HB.out; obtain ⟨⟨c0, c1, c2⟩, _⟩ := blk_cells3 HC.out; obtain ⟨⟨d0, d1, d2⟩, _⟩ := blk_cells3 HD.out) | (go_at_call 33; refine (over_any _ _ _ _ _ _ _).mono ?_; rintro e w8 ⟨rfl, hb8⟩; have hw := held_then hb8 (by first | exact hw | exact Below.drew hw | exact bdraws hw _); have HA := Lib.hid (blk_keep2 hb8 HA.out); have HB := Lib.hid (blk_keep2 hb8 HB.out); have HC := Lib.hid (blk_keep2 hb8 HC.out); have HD := Lib.hid (blk_keep2 hb8 HD.out); obtain ⟨⟨a0, a1, a2'⟩, _⟩ := blk_cells3 HA.out; obtain ⟨⟨b0, b1, b2⟩, _⟩ := blk_cells3 HB.out; obtain ⟨⟨c0, c1, c2⟩, _⟩ := blk_cells3 HC.out; obtain ⟨⟨d0, d1, d2⟩, _⟩ := blk_cells3 HD.out) | (go_at_call 41; refine (refover_any _ _ _ _ _ _ _).mono ?_; rintro e w8 ⟨rfl, hb8⟩; have hw := held_then hb8 (by first | exact hw | exact Below.drew hw | exact bdraws hw _); have HA := Lib.hid (blk_keep2 hb8 HA.out); have HB := Lib.hid (blk_keep2 hb8 HB.out); have HC := Lib.hid (blk_keep2 hb8 HC.out); have HD := Lib.hid (blk_keep2 hb8 HD.out); obtain ⟨⟨a0, a1, a2'⟩, _⟩ := blk_cells3 HA.out; obtain ⟨⟨b0, b1, b2⟩, _⟩ := blk_cells3 HB.out; obtain ⟨⟨c0, c1, c2⟩, _⟩ := blk_cells3 HC.out; obtain ⟨⟨d0, d1, d2⟩, _⟩ := blk_cells3 HD.out) | (go_at_call 31; refine (awake04 _).mono ?_; rintro e w8 ⟨rfl, hb8⟩; have hw := held_then hb8 (by first | exact hw | exact Below.drew hw | exact bdraws hw _); have HA := Lib.hid (blk_keep2 hb8 HA.out); have HB := Lib.hid (blk_keep2 hb8 HB.out); have HC := Lib.hid (blk_keep2 hb8 HC.out); have HD := Lib.hid (blk_keep2 hb8 HD.out); obtain ⟨⟨a0, a1, a2'⟩, _⟩ := blk_cells3 HA.out; obtain ⟨⟨b0, b1, b2⟩, _⟩ := blk_cells3 HB.out; obtain ⟨⟨c0, c1, c2⟩, _⟩ := blk_cells3 HC.out; obtain ⟨⟨d0, d1, d2⟩, _⟩ := blk_cells3 HD.out))
  all_goals
    clear a0 a1 a2' b0 b1 b2 c0 c1 c2 d0 d1 d2
    go_wp2_with fail
    go_ret
    exact ⟨rfl, hw⟩

set_option maxRecDepth 100000 in
theorem lifted (os : Os) (started : os.Started) (H : Type) (enc : TypeId × Value → H) :
    ReturnsInHanded {} Try.checked os 11 .any (Rows.tileidMovesSpec.pre6 enc Try.prog Try.f11 Rows.tileidMovesRow.domain false) (Rows.tileidMovesSpec.post enc Try.prog Try.f11 false true false false) := by
  refine returnsInHanded_of_change (C := Try.checked) own_ started (by kernel_rfl) Try.func11
    (ChangeSpec.witness6 (enc := enc) (C := Try.checked) false ⟨#[], #[.agg #[.int .i64 0, .int .i64 0, .int .i64 0], .agg #[.int .i64 0, .int .i64 0, .int .i64 0], .int .i64 0], []⟩ 8 (by kernel_rfl) (by kernel_rfl) (by kernel_rfl) (by kernel_rfl)) ?_
  intro W base args ds gs before hval0 hW hcnd _
  have hval : ∀ (j : Nat) t v, Try.f11.params[j]? = some t → args[j]? = some v → Value.okWide Try.prog W .any base t v := hval0
  have hW' := hW
  obtain ⟨p, q, hA0, hV, e0, hfz, hnd⟩ := hW
  clear e0 hfz hnd hcnd
  have hA : DataW.TrodAll enc Try.prog W 0 (fun _ => true) true Try.f11.params.toList args.toList ds p := hA0
  rw [Try.params11] at hA hval
  obtain ⟨v0, vs0, d0, ds0, p0, q0, hargs, rfl, e0, h0, r0⟩ := trodAll_cons hA
  obtain ⟨v1, vs1, d1, ds1, p1, q1, rfl, rfl, e1, h1, r1⟩ := trodAll_cons r0
  obtain ⟨v2, vs2, d2, ds2, p2, q2, rfl, rfl, e2, h2, r2⟩ := trodAll_cons r1
  obtain ⟨rfl, rfl, eN⟩ := trodAll_nil r2
  obtain rfl : args = #[v0, v1, v2] := by cases args; simp_all
  obtain ⟨x0, y0, z0, rfl, wx0, wy0, wz0⟩ := open_three Try.underlying42 (by kernel_rfl) (by kernel_rfl) rfl rfl rfl Try.underlying3 (hval 0 42 v0 rfl rfl) h0
  obtain ⟨x1, y1, z1, rfl, wx1, wy1, wz1⟩ := open_three Try.underlying42 (by kernel_rfl) (by kernel_rfl) rfl rfl rfl Try.underlying3 (hval 1 42 v1 rfl rfl) h1
  obtain ⟨a2, rfl, _, _, w2⟩ := open_int Try.underlying3 (hval 2 3 v2 rfl rfl) h2
  refine (walk x0 y0 z0 wx0 wy0 wz0 x1 y1 z1 wx1 wy1 wz1 a2 w2 W).mono fun e W' ⟨he, hb⟩ => ?_
  subst he
  exact ⟨_, rfl, law_post laid_ (by kernel_rfl) hW' rfl rfl (by kernel_rfl) Try.underlying4 hb⟩

theorem over : Rows.tileidMovesRow.holds Try.pinned (OpenSpec.ofChange Rows.tileidMovesSpec) :=
  OpenClaim.holds_of_wide 11 Try.f11 rfl rfl rfl rfl rfl rfl rfl ⟨rfl, rfl, rfl, rfl, rfl⟩ rfl rfl rfl rfl rfl (by kernel_rfl) Try.func11 (by kernel_rfl)
    (of_decide_eq_true (by kernel_rfl)) (by unfold Func.isWrapper; first | (rw [if_pos (by decide +kernel)]; kernel_rfl) | (rw [if_neg (by decide +kernel)]; exact ⟨rfl, rfl⟩))
    (fun os started H enc _ => lifted os started H enc)

theorem proved : Rows.TileidMovesSaid := over
end Go.Proofs.Ytdipincjginmcaa.tileidMoves
