/- VarintGrows: of any two numbers the greater never has fewer bytes, and one has just as many as its binary digits need; and the law returns true. -/
import Derived.Test.YtbojffednfiegaaLaw
import Derived.Test.YtbojffednfiegaaVarAwake
import Derived.Test.YtbojffednfiegaaVarSize
namespace Go.Proofs.Ytbojffednfiegaa.varintGrows
open Go.ChangeShapes Go.WideShapes Go.ChangeAt Go.RowKit
set_option linter.unusedVariables false

set_option maxRecDepth 100000 in
set_option maxHeartbeats 2000000 in
theorem walk (w : World) (a0 : Int) (w0 : (Lit.int .u64 a0).wf = true) (a1 : Int) (w1 : (Lit.int .u64 a1).wf = true) :
    Calls Try.prog 15 #[.int .u64 a0, .int .u64 a1] w fun e w' => e = .returned (.bool true) ∧ Below w.heap.size w w' := by
  obtain ⟨x0, x1⟩ := bd_u64 w0
  obtain ⟨y0, y1⟩ := bd_u64 w1
  obtain ⟨n0, n1⟩ := Vi.sz_bd a0
  obtain ⟨m0, m1⟩ := Vi.sz_bd a1
  have hp := Vi.sz_pow x0 (by omega : a0 < 18446744073709551616)
  have hm : a0 ≤ a1 → Vi.sz a0 ≤ Vi.sz a1 := fun h => Vi.sz_mono x0 (by omega) h
  obtain ⟨N, hN⟩ : ∃ N, N = (Vi.bytes a0).length := ⟨_, rfl⟩
  have hs : Vi.sz a0 = (N : Int) := by rw [hN]; rfl
  obtain ⟨M, hM⟩ : ∃ M : Int, M = Vi.sz a1 := ⟨_, rfl⟩
  rw [← hM] at hm m0 m1
  rw [hs] at n0 n1 hm
  rw [← hN] at hp
  obtain ⟨hp1, hp2⟩ := hp
  have HS := Lib.hid hs
  have HM := Lib.hid hM.symm
  clear hs hM hN
  have hc : N = 1 ∨ N = 2 ∨ N = 3 ∨ N = 4 ∨ N = 5 ∨ N = 6 ∨ N = 7 ∨ N = 8 ∨ N = 9 ∨ N = 10 := by omega
  rcases hc with rfl | rfl | rfl | rfl | rfl | rfl | rfl | rfl | rfl | rfl
  all_goals
    simp at hp1 hp2
    have SX := Lib.hid (fun w => (size_any a0 w x0 (by omega)))
    have SY := Lib.hid (fun w => (size_any a1 w y0 (by omega)))
    rw [HS.out] at SX
    rw [HM.out] at SY
    by_cases hxy : a0 ≤ a1
    · have hmm := hm hxy
      clear hm
      go_enter Try.func15, Try.ntmps15
      go_wp2_with fail
      refine (SX.out _).mono ?_; rintro e w' ⟨rfl, rfl⟩
      go_wp2_with fail
      refine (SY.out _).mono ?_; rintro e w' ⟨rfl, rfl⟩
      go_wp2_with fail
      refine (awake02 _).mono ?_; rintro e w1 ⟨rfl, hb⟩
      go_wp2_with fail
      go_ret
      exact ⟨rfl, hb⟩
    · clear hm
      go_enter Try.func15, Try.ntmps15
      go_wp2_with fail
      refine (SX.out _).mono ?_; rintro e w' ⟨rfl, rfl⟩
      go_wp2_with fail
      refine (awake02 _).mono ?_; rintro e w1 ⟨rfl, hb⟩
      go_wp2_with fail
      go_ret
      exact ⟨rfl, hb⟩

set_option maxRecDepth 100000 in
set_option maxHeartbeats 1000000 in
theorem lifted (os : Os) (started : os.Started) (H : Type) (enc : TypeId × Value → H) :
    ReturnsInHanded {} Try.checked os 15 .any (Rows.varintGrowsSpec.pre6 enc Try.prog Try.f15 Rows.varintGrowsRow.domain false) (Rows.varintGrowsSpec.post enc Try.prog Try.f15 false true false false) := by
  refine returnsInHanded_of_change (C := Try.checked) own_ started (by kernel_rfl) Try.func15
    (ChangeSpec.witness6 (enc := enc) (C := Try.checked) false ⟨#[], #[.int .u64 0, .int .u64 0], []⟩ 8 (by kernel_rfl) (by kernel_rfl) (by kernel_rfl) (by kernel_rfl)) ?_
  intro W base args ds gs before hval0 hW hcnd _
  have hval : ∀ (j : Nat) t v, Try.f15.params[j]? = some t → args[j]? = some v → Value.okWide Try.prog W .any base t v := hval0
  have hW' := hW
  obtain ⟨p, q, hA0, hV, e0, hfz, hnd⟩ := hW
  clear e0 hfz hnd hcnd
  have hA : DataW.TrodAll enc Try.prog W 0 (fun _ => true) true Try.f15.params.toList args.toList ds p := hA0
  rw [Try.params15] at hA hval
  obtain ⟨v0, vs0, d0, ds0, p0, q0, hargs, rfl, e0, h0, rr0⟩ := trodAll_cons hA
  obtain ⟨v1, vs1, d1, ds1, p1, q1, rfl, rfl, e1, h1, rr1⟩ := trodAll_cons rr0
  obtain ⟨rfl, rfl, eN⟩ := trodAll_nil rr1
  obtain rfl : args = #[v0, v1] := by cases args; simp_all
  obtain ⟨a0, rfl, _, _, w0⟩ := open_int Try.underlying22 (hval 0 22 v0 rfl rfl) h0
  obtain ⟨a1, rfl, _, _, w1⟩ := open_int Try.underlying22 (hval 1 22 v1 rfl rfl) h1
  refine (walk W a0 w0 a1 w1).mono fun e W' ⟨he, hb⟩ => ?_
  subst he
  exact ⟨_, rfl, law_post laid_ (by kernel_rfl) hW' rfl rfl (by kernel_rfl) Try.underlying4 hb⟩

theorem over : Rows.varintGrowsRow.holds Try.pinned (OpenSpec.ofChange Rows.varintGrowsSpec) :=
  OpenClaim.holds_of_wide 15 Try.f15 rfl rfl rfl rfl rfl rfl rfl ⟨rfl, rfl, rfl, rfl, rfl⟩ rfl rfl rfl rfl rfl (by kernel_rfl) Try.func15 (by kernel_rfl)
    (of_decide_eq_true (by kernel_rfl)) (by unfold Func.isWrapper; first | (rw [if_pos (by decide +kernel)]; kernel_rfl) | (rw [if_neg (by decide +kernel)]; exact ⟨rfl, rfl⟩))
    (fun os started H enc _ => lifted os started H enc)

theorem proved : Rows.VarintGrowsSaid := over
end Go.Proofs.Ytbojffednfiegaa.varintGrows
