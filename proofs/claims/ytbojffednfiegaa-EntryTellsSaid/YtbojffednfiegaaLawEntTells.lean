/- EntryTells: at every input the program's Check, Last and Has of an entry are the document's, and the law returns true. -/
import Derived.Test.YtbojffednfiegaaEntOpen
import Derived.Test.YtbojffednfiegaaEntAwake
import Derived.Test.YtbojffednfiegaaEntRefRow
namespace Go.Proofs.Ytbojffednfiegaa.entryTells
open Go.ChangeShapes Go.WideShapes Go.ChangeAt Go.RowKit
set_option linter.unusedVariables false

set_option maxHeartbeats 2000000 in
theorem walk (w : World) (i0 o0 l0 r0 : Int) (f0 : En.fit i0 o0 l0 r0) (a1 : Int) (w1 : (Lit.int .u64 a1).wf = true) :
    Calls Try.prog 3 #[.agg #[.int .u64 i0, .int .u64 o0, .int .u32 l0, .int .u32 r0], .int .u64 a1] w fun e w' => e = .returned (.bool true) ∧ Below w.heap.size w w' := by
  have HF := Lib.hid f0
  go_enter Try.func3, Try.ntmps3
  go_wp2_with fail
  have HA := Lib.hid (blk_alloc (heap_alloc_new w (.cells #[.int .u64 i0, .int .u64 o0, .int .u32 l0, .int .u32 r0] 25)) (.cells #[.int .u64 i0, .int .u64 o0, .int .u32 l0, .int .u32 r0] 26))
  have HB := Lib.hid (heap_alloc_new (w.alloc (.cells #[.int .u64 i0, .int .u64 o0, .int .u32 l0, .int .u32 r0] 25)) (.cells #[.int .u64 i0, .int .u64 o0, .int .u32 l0, .int .u32 r0] 26))
  have hw : Below w.heap.size w ((w.alloc (.cells #[.int .u64 i0, .int .u64 o0, .int .u32 l0, .int .u32 r0] 25)).alloc (.cells #[.int .u64 i0, .int .u64 o0, .int .u32 l0, .int .u32 r0] 26)) := bthen (blk_new _ _) (blk_new _ _)
  rw [World.size_alloc] at HB
  obtain ⟨a0, a1, a2, a3⟩ := blk_cells4 HA.out
  obtain ⟨b0, b1, b2, b3⟩ := blk_cells4 HB.out
  go_region_held3 (fun w' => w'.cell? ⟨w.heap.size, 0, none⟩ = some (.int .u64 i0) ∧ w'.cell? ⟨w.heap.size, 1, none⟩ = some (.int .u64 o0) ∧ w'.cell? ⟨w.heap.size, 2, none⟩ = some (.int .u32 l0) ∧ w'.cell? ⟨w.heap.size, 3, none⟩ = some (.int .u32 r0) ∧ w'.cell? ⟨w.heap.size + 1, 0, none⟩ = some (.int .u64 i0) ∧ w'.cell? ⟨w.heap.size + 1, 1, none⟩ = some (.int .u64 o0) ∧ w'.cell? ⟨w.heap.size + 1, 2, none⟩ = some (.int .u32 l0) ∧ w'.cell? ⟨w.heap.size + 1, 3, none⟩ = some (.int .u32 r0)) (exact ⟨a0, a1, a2, a3, b0, b1, b2, b3⟩) (first | (go_at_call 16; refine (check_any _ _ _ _ HF.out _).mono ?_; rintro e w1 ⟨rfl, hb⟩; have hw := held_then hb (by first | exact hw | exact Below.drew hw | exact bdraws hw _); have HA := Lib.hid (blk_keep2 hb HA.out); have HB := Lib.hid (blk_keep2 hb HB.out); obtain ⟨a0, a1, a2, a3⟩ := blk_cells4 HA.out; obtain ⟨b0, b1, b2, b3⟩ := blk_cells4 HB.out) | (go_at_call 17; refine (refcheck_any _ _ _ _ HF.out _).mono ?_; rintro e w1 ⟨rfl, hb⟩; have hw := held_then hb (by first | exact hw | exact Below.drew hw | exact bdraws hw _); have HA := Lib.hid (blk_keep2 hb HA.out); have HB := Lib.hid (blk_keep2 hb HB.out); obtain ⟨a0, a1, a2, a3⟩ := blk_cells4 HA.out; obtain ⟨b0, b1, b2, b3⟩ := blk_cells4 HB.out) | (go_at_call 18; refine (last_any _ _ _ _ HF.out _).mono ?_; rintro e w1 ⟨rfl, hb⟩; have hw := held_then hb (by first | exact hw | exact Below.drew hw | exact bdraws hw _); have HA := Lib.hid (blk_keep2 hb HA.out); have HB := Lib.hid (blk_keep2 hb HB.out); obtain ⟨a0, a1, a2, a3⟩ := blk_cells4 HA.out; obtain ⟨b0, b1, b2, b3⟩ := blk_cells4 HB.out) | (go_at_call 19; refine (reflast_any _ _ _ _ HF.out _).mono ?_; rintro e w1 ⟨rfl, hb⟩; have hw := held_then hb (by first | exact hw | exact Below.drew hw | exact bdraws hw _); have HA := Lib.hid (blk_keep2 hb HA.out); have HB := Lib.hid (blk_keep2 hb HB.out); obtain ⟨a0, a1, a2, a3⟩ := blk_cells4 HA.out; obtain ⟨b0, b1, b2, b3⟩ := blk_cells4 HB.out) | (go_at_call 20; refine (has_any _ _ _ _ _ HF.out _).mono ?_; rintro e w1 ⟨rfl, hb⟩; have hw := held_then hb (by first | exact hw | exact Below.drew hw | exact bdraws hw _); have HA := Lib.hid (blk_keep2 hb HA.out); have HB := Lib.hid (blk_keep2 hb HB.out); obtain ⟨a0, a1, a2, a3⟩ := blk_cells4 HA.out; obtain ⟨b0, b1, b2, b3⟩ := blk_cells4 HB.out) | (go_at_call 21; refine (refhas_any _ _ _ _ _ HF.out _).mono ?_; rintro e w1 ⟨rfl, hb⟩; have hw := held_then hb (by first | exact hw | exact Below.drew hw | exact bdraws hw _); have HA := Lib.hid (blk_keep2 hb HA.out); have HB := Lib.hid (blk_keep2 hb HB.out); obtain ⟨a0, a1, a2, a3⟩ := blk_cells4 HA.out; obtain ⟨b0, b1, b2, b3⟩ := blk_cells4 HB.out) | (go_at_call 22; refine (awake07 _).mono ?_; rintro e w1 ⟨rfl, hb⟩; have hw := held_then hb (by first | exact hw | exact Below.drew hw | exact bdraws hw _); have HA := Lib.hid (blk_keep2 hb HA.out); have HB := Lib.hid (blk_keep2 hb HB.out); obtain ⟨a0, a1, a2, a3⟩ := blk_cells4 HA.out; obtain ⟨b0, b1, b2, b3⟩ := blk_cells4 HB.out))
  all_goals
    clear a0 a1 a2 a3 b0 b1 b2 b3
    go_wp2_with fail
    go_ret
    exact ⟨rfl, by first | exact hw | exact bdraws hw _⟩

set_option maxRecDepth 100000 in
set_option maxHeartbeats 1000000 in
theorem lifted (os : Os) (started : os.Started) (H : Type) (enc : TypeId × Value → H) :
    ReturnsInHanded {} Try.checked os 3 .any (Rows.entryTellsSpec.pre6 enc Try.prog Try.f3 Rows.entryTellsRow.domain false) (Rows.entryTellsSpec.post enc Try.prog Try.f3 false true false false) := by
  refine returnsInHanded_of_change (C := Try.checked) own_ started (by kernel_rfl) Try.func3
    (ChangeSpec.witness6 (enc := enc) (C := Try.checked) false ⟨#[], #[.agg #[.int .u64 0, .int .u64 0, .int .u32 0, .int .u32 0], .int .u64 0], []⟩ 8 (by kernel_rfl) (by kernel_rfl) (by kernel_rfl) (by kernel_rfl)) ?_
  intro W base args ds gs before hval0 hW hcnd _
  have hval : ∀ (j : Nat) t v, Try.f3.params[j]? = some t → args[j]? = some v → Value.okWide Try.prog W .any base t v := hval0
  have hW' := hW
  obtain ⟨p, q, hA0, hV, e0, hfz, hnd⟩ := hW
  clear e0 hfz hnd hcnd
  have hA : DataW.TrodAll enc Try.prog W 0 (fun _ => true) true Try.f3.params.toList args.toList ds p := hA0
  rw [Try.params3] at hA hval
  obtain ⟨v0, vs0, d0, ds0, p0, q0, hargs, rfl, e0, h0, rr0⟩ := trodAll_cons hA
  obtain ⟨v1, vs1, d1, ds1, p1, q1, rfl, rfl, e1, h1, rr1⟩ := trodAll_cons rr0
  obtain ⟨rfl, rfl, eN⟩ := trodAll_nil rr1
  obtain rfl : args = #[v0, v1] := by cases args; simp_all
  obtain ⟨i0, o0, l0, r0, rfl, f0⟩ := open_ent Try.underlying25 (by kernel_rfl) (by kernel_rfl) rfl rfl rfl rfl Try.underlying22 Try.underlying23 (hval 0 25 v0 rfl rfl) h0
  obtain ⟨a1, rfl, _, _, w1⟩ := open_int Try.underlying22 (hval 1 22 v1 rfl rfl) h1
  refine (walk W i0 o0 l0 r0 f0 a1 w1).mono fun e W' ⟨he, hb⟩ => ?_
  subst he
  exact ⟨_, rfl, law_post laid_ (by kernel_rfl) hW' rfl rfl (by kernel_rfl) Try.underlying4 hb⟩

theorem over : Rows.entryTellsRow.holds Try.pinned (OpenSpec.ofChange Rows.entryTellsSpec) :=
  OpenClaim.holds_of_wide 3 Try.f3 rfl rfl rfl rfl rfl rfl rfl ⟨rfl, rfl, rfl, rfl, rfl⟩ rfl rfl rfl rfl rfl (by kernel_rfl) Try.func3 (by kernel_rfl)
    (of_decide_eq_true (by kernel_rfl)) (by unfold Func.isWrapper; first | (rw [if_pos (by decide +kernel)]; kernel_rfl) | (rw [if_neg (by decide +kernel)]; exact ⟨rfl, rfl⟩))
    (fun os started H enc _ => lifted os started H enc)

theorem proved : Rows.EntryTellsSaid := over
end Go.Proofs.Ytbojffednfiegaa.entryTells
