/- The card of QuadWays, from its walk. -/
import Derived.Test.YtdipincjginmcaaDoorTie
import Derived.Test.YtdipincjginmcaaDoorCards
import Derived.Test.YtdipincjginmcaaDoorQuadOpen
import Derived.ProofKit
import Derived.OpenShut
import Derived.LaidMore
import Derived.Lay
import Derived.SevenTiedAt
import Derived.Stop.Joined
namespace Go.Proofs.YtdipincjginmcaaDoor.quadWays
open Go.ChangeShapes Go.WideShapes Go.ChangeAt Go.RowKit
set_option linter.unusedVariables false

def Walk : Prop := ∀ (w : World), ∀ (z0 x0 y0 : Int), (Lit.int .i64 z0).wf = true → (Lit.int .i64 x0).wf = true → (Lit.int .i64 y0).wf = true → ∀ (A1 : Option Addr) (n1 c1 : Nat) (L1 : List Tl), Reads w w.heap.size 3 A1 n1 (tcells L1) → n1 = L1.length → n1 * 24 ≤ 140737488355328 → n1 ≤ c1 → Calls Tryd.prog 4 #[.agg #[.int .i64 z0, .int .i64 x0, .int .i64 y0], .slice A1 n1 c1] w fun e w' => e = .returned (.bool true) ∧ Below w.heap.size w w'

set_option maxRecDepth 100000 in
set_option maxHeartbeats 1000000 in
theorem lifted (walk : Walk) (os : Os) (started : os.Started) (H : Type) (enc : TypeId × Value → H) :
    ReturnsInHanded {} Tryd.checked os 4 .any (fun w args => (Rows.quadWaysSpec.pre enc Tryd.prog Tryd.f4 Rows.quadWaysRow.domain false w args ∧ laidMetH Tryd.prog Rows.quadWaysRow.laid w) ∧ sizedMet enc Tryd.prog Tryd.f4 (OpenSpec.ofChange Rows.quadWaysSpec) false w args)
      (Rows.quadWaysSpec.post enc Tryd.prog Tryd.f4 false true false false) := by
  refine returnsInHanded_of_change_and (C := Tryd.checked) (X := fun w _ => laidMetH Tryd.prog Rows.quadWaysRow.laid w) (fun _ _ _ hh h => h.of_heap hh) own_ started (by kernel_rfl) Tryd.func4
    (ChangeSpec.witness_shaped (enc := enc) (C := Tryd.checked) (os := os) (X := fun w _ => laidMetH Tryd.prog Rows.quadWaysRow.laid w) false (World.laidAll Tryd.prog os Rows.quadWaysRow.laid) #[.agg #[.int .i64 0, .int .i64 0, .int .i64 0], .slice none 0 0] 8 (World.laidAll_os _ _ _)
      (World.shaped_of_ZipB (by kernel_rfl) (by kernel_rfl)) (by kernel_rfl) (by kernel_rfl) (by kernel_rfl)
      (by rw [MakeChecks.laidMetH_plain _ _ _ (by kernel_rfl)]; exact laidMet_laidAll _ (by kernel_rfl) (by kernel_rfl))) ?_
  intro W base args ds gs before hval0 hW hcnd hsz0 _ _
  have hval : ∀ (j : Nat) t v, Tryd.f4.params[j]? = some t → args[j]? = some v → Value.okWide Tryd.prog W .any base t v := hval0
  have hW' := hW
  obtain ⟨p, q, hA0, hV, e0, hfz, hnd⟩ := hW
  clear e0 hfz hnd hcnd
  have hA : DataW.TrodAll enc Tryd.prog W 0 (fun _ => true) true Tryd.f4.params.toList args.toList ds p := hA0
  have hsz : (DataW.weightsEach Tryd.prog (Tryd.f4.params.toList ++ Rows.quadWaysSpec.plain.varTypes Tryd.prog) (ds ++ gs)).all (· ≤ reachBytes) = true := hsz0
  rw [Tryd.params4] at hA hval hsz
  obtain ⟨v0, vs0, d0, ds0, p0, q0, hargs, rfl, e0_, h0, rr0⟩ := trodAll_cons hA
  obtain ⟨v1, vs1, d1, ds1, p1, q1, rfl, rfl, e1_, h1, rr1⟩ := trodAll_cons rr0
  obtain ⟨rfl, rfl, eN⟩ := trodAll_nil rr1
  obtain rfl : args = #[v0, v1] := by cases args; simp_all
  obtain ⟨z0, x0, y0, rfl, wz0, wx0, wy0⟩ := open_three Tryd.underlying23 (by kernel_rfl) (by kernel_rfl) rfl rfl rfl Tryd.underlying3 (hval 0 23 v0 rfl rfl) h0
  obtain ⟨A1, n1, c1, L1, rfl, hr1, hn1, hm1, hc1⟩ := open_tiles Tryd.underlying40 Tryd.underlying23 (by kernel_rfl) (by kernel_rfl) (by kernel_rfl) rfl rfl rfl Tryd.underlying3 (hval 1 40 v1 rfl rfl) h1 (fun elems spare hd => sized_slice hsz (j := 1) rfl (by rw [hd]; rfl) Tryd.underlying40)
  refine (walk W z0 x0 y0 wz0 wx0 wy0 A1 n1 c1 L1 hr1 hn1 hm1 hc1).mono fun e W' ⟨he, hb⟩ => ?_
  subst he
  exact ⟨_, rfl, law_post laid_ (by kernel_rfl) hW' rfl rfl (by kernel_rfl) Tryd.underlying4 hb⟩

theorem over (walk : Walk) : Rows.QuadWaysSaid :=
  OpenClaim.holds_of_wide 4 Tryd.f4 rfl rfl rfl rfl rfl rfl rfl ⟨rfl, rfl, rfl, rfl, rfl⟩ rfl rfl rfl rfl rfl (by kernel_rfl) Tryd.func4 (by kernel_rfl)
    (of_decide_eq_true (by kernel_rfl)) (by unfold Func.isWrapper; first | (rw [if_pos (by decide +kernel)]; kernel_rfl) | (rw [if_neg (by decide +kernel)]; exact ⟨rfl, rfl⟩))
    (fun os started H enc _ => lifted walk os started H enc)

theorem card (walk : Walk) : Rows.QuadWaysCardSaid :=
  Claim7.holds_tied_plain_at .later [] [.data, .pinned] true (true, "31b4c1d4388719af3c9fb299fd2e22c343088c2b828e7b29395ef178eef26850") false (over walk) (fun _ h => by cases h) (by kernel_rfl) (fun _ h => by cases h) quadWays_row_tie rfl ⟨rfl, rfl⟩ (by kernel_rfl) rfl
    (fun f fn hf hfn => by
      obtain rfl : f = 4 := Option.some.inj ((show Tryd.prog.funcNamed "gazetteer/gazetteerlaw42.QuadWays" = some 4 by kernel_rfl).symm.trans hf) |>.symm
      obtain rfl : fn = Tryd.f4 := (Option.some.inj (Tryd.func4.symm.trans hfn)).symm
      exact ⟨by kernel_rfl, fun j t ht => by
        rw [Tryd.params4] at ht
        have hm : t ∈ [23, 40] := by simpa using Array.mem_of_getElem? ht
        have hall : ([23, 40].all fun u => !Tryd.prog.wantsStandIn u) = true := by kernel_rfl
        exact (show Tryd.prog.wantsStandIn t = false by simpa using List.all_eq_true.1 hall t hm)⟩)
    (by kernel_rfl)
end Go.Proofs.YtdipincjginmcaaDoor.quadWays
