/- TileidTells: at every input the program's ID, Of, Zoom and Base are the document's, and the law returns true. -/
import Derived.Test.YtdipincjginmcaaLaw
import Derived.Test.YtdipincjginmcaaTileAwake
namespace Go.Proofs.Ytdipincjginmcaa.tileidTells
open Go.ChangeShapes Go.WideShapes Go.ChangeAt Go.RowKit
set_option linter.unusedVariables false

set_option maxHeartbeats 1000000 in
theorem walk (x0 y0 z0 : Int) (wx0 : (Lit.int .i64 x0).wf = true) (wy0 : (Lit.int .i64 y0).wf = true) (wz0 : (Lit.int .i64 z0).wf = true) (a1 : Int) (w1 : (Lit.int .u64 a1).wf = true) (a2 : Int) (w2 : (Lit.int .i64 a2).wf = true) (w : World) :
    Calls Try.prog 8 #[.agg #[.int .i64 x0, .int .i64 y0, .int .i64 z0], .int .u64 a1, .int .i64 a2] w fun e w' => e = .returned (.bool true) ∧ Below w.heap.size w w' := by
  obtain ⟨d0, d1⟩ := bd_u64 w1
  have hq := eq_rtile
  have ht : ∀ a b c : Int, Cv.teq a b c a b c = true := fun a b c => by unfold Cv.teq; simp
  go_enter Try.func8, Try.ntmps8
  go_wp2_with fail
  refine (id_any _ _ _ _).mono ?_; rintro e w1 ⟨rfl, hb1⟩
  obtain ⟨hA, hs1, hw1⟩ := blk_one hb1
  obtain ⟨⟨c0, c1, c2⟩, _⟩ := blk_cells3 hA
  clear hA hb1
  go_wp2_with fail
  refine (refid_any _ _ _ _).mono ?_; rintro e w2 ⟨rfl, hb2⟩
  have hw2 := bthen hw1 hb2
  clear c0 c1 c2
  go_wp2_with fail
  refine (of_any _ d0 d1 _).mono ?_; rintro e w3 ⟨rfl, hb3⟩
  have hw3 := bthen hw2 hb3
  go_wp2_with fail
  refine (refof_any _ d0 d1 _).mono ?_; rintro e w4 ⟨rfl, hb4⟩
  obtain ⟨hA, hs4, hw4'⟩ := blk_one hb4
  have hw4 := bthen hw3 hw4'
  obtain ⟨⟨c0, c1, c2⟩, _⟩ := blk_cells3 hA
  clear hA
  go_wp2_with fail
  refine (Base_any _ _).mono ?_; rintro e w' ⟨rfl, rfl⟩
  go_wp2_with fail
  refine (refBase_any _ _).mono ?_; rintro e w' ⟨rfl, rfl⟩
  go_wp2_with fail
  refine (zoom_any _ d0 _).mono ?_; rintro e w' ⟨rfl, rfl⟩
  go_wp2_with fail
  refine (refzoom_any _ d0 _).mono ?_; rintro e w' ⟨rfl, rfl⟩
  go_wp2_with fail
  refine (awake04 _).mono ?_; rintro e w9 ⟨rfl, hb9⟩
  go_wp2_with fail
  go_ret
  exact ⟨rfl, bthen (hw4.alloc hw4.size _) hb9⟩

set_option maxRecDepth 100000 in
theorem lifted (os : Os) (started : os.Started) (H : Type) (enc : TypeId × Value → H) :
    ReturnsInHanded {} Try.checked os 8 .any (Rows.tileidTellsSpec.pre6 enc Try.prog Try.f8 Rows.tileidTellsRow.domain false) (Rows.tileidTellsSpec.post enc Try.prog Try.f8 false true false false) := by
  refine returnsInHanded_of_change (C := Try.checked) own_ started (by kernel_rfl) Try.func8
    (ChangeSpec.witness6 (enc := enc) (C := Try.checked) false ⟨#[], #[.agg #[.int .i64 0, .int .i64 0, .int .i64 0], .int .u64 0, .int .i64 0], []⟩ 8 (by kernel_rfl) (by kernel_rfl) (by kernel_rfl) (by kernel_rfl)) ?_
  intro W base args ds gs before hval0 hW hcnd _
  have hval : ∀ (j : Nat) t v, Try.f8.params[j]? = some t → args[j]? = some v → Value.okWide Try.prog W .any base t v := hval0
  have hW' := hW
  obtain ⟨p, q, hA0, hV, e0, hfz, hnd⟩ := hW
  clear e0 hfz hnd hcnd
  have hA : DataW.TrodAll enc Try.prog W 0 (fun _ => true) true Try.f8.params.toList args.toList ds p := hA0
  rw [Try.params8] at hA hval
  obtain ⟨v0, vs0, d0, ds0, p0, q0, hargs, rfl, e0, h0, r0⟩ := trodAll_cons hA
  obtain ⟨v1, vs1, d1, ds1, p1, q1, rfl, rfl, e1, h1, r1⟩ := trodAll_cons r0
  obtain ⟨v2, vs2, d2, ds2, p2, q2, rfl, rfl, e2, h2, r2⟩ := trodAll_cons r1
  obtain ⟨rfl, rfl, eN⟩ := trodAll_nil r2
  obtain rfl : args = #[v0, v1, v2] := by cases args; simp_all
  obtain ⟨x0, y0, z0, rfl, wx0, wy0, wz0⟩ := open_three Try.underlying42 (by kernel_rfl) (by kernel_rfl) rfl rfl rfl Try.underlying3 (hval 0 42 v0 rfl rfl) h0
  obtain ⟨a1, rfl, _, _, w1⟩ := open_int Try.underlying22 (hval 1 22 v1 rfl rfl) h1
  obtain ⟨a2, rfl, _, _, w2⟩ := open_int Try.underlying3 (hval 2 3 v2 rfl rfl) h2
  refine (walk x0 y0 z0 wx0 wy0 wz0 a1 w1 a2 w2 W).mono fun e W' ⟨he, hb⟩ => ?_
  subst he
  exact ⟨_, rfl, law_post laid_ (by kernel_rfl) hW' rfl rfl (by kernel_rfl) Try.underlying4 hb⟩

theorem over : Rows.tileidTellsRow.holds Try.pinned (OpenSpec.ofChange Rows.tileidTellsSpec) :=
  OpenClaim.holds_of_wide 8 Try.f8 rfl rfl rfl rfl rfl rfl rfl ⟨rfl, rfl, rfl, rfl, rfl⟩ rfl rfl rfl rfl rfl (by kernel_rfl) Try.func8 (by kernel_rfl)
    (of_decide_eq_true (by kernel_rfl)) (by unfold Func.isWrapper; first | (rw [if_pos (by decide +kernel)]; kernel_rfl) | (rw [if_neg (by decide +kernel)]; exact ⟨rfl, rfl⟩))
    (fun os started H enc _ => lifted os started H enc)

theorem proved : Rows.TileidTellsSaid := over
end Go.Proofs.Ytdipincjginmcaa.tileidTells
