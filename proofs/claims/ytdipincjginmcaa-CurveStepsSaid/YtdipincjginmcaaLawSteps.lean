/- CurveSteps: at every input the tile behind a tile is its neighbour and has the next place, or there is none, and the law returns true. -/
import Derived.Test.YtdipincjginmcaaLaw
import Derived.Test.YtdipincjginmcaaCurveFacts
namespace Go.Proofs.Ytdipincjginmcaa.curveSteps
open Go.ChangeShapes Go.WideShapes Go.ChangeAt Go.RowKit
set_option linter.unusedVariables false

theorem worth_any (n : Int) (h0 : -9223372036854775807 ≤ n) (h1 : n ≤ 9223372036854775807) (w : World) :
    Calls Try.prog 22 #[.int .i64 n] w fun e w' => e = .returned (.int .i64 (Cv.wrth n)) ∧ w = w' := by
  by_cases h : n < 0
  · go_enter Try.func22, Try.ntmps22
    go_wp2_with fail
    go_ret
    exact ⟨ret1 (by unfold Cv.wrth; rw [if_pos h]), rfl⟩
  · go_enter Try.func22, Try.ntmps22
    go_wp2_with fail
    go_ret
    exact ⟨ret1 (by unfold Cv.wrth; rw [if_neg (by omega)]), rfl⟩

set_option maxHeartbeats 800000 in
theorem walk (a0 : Int) (w0 : (Lit.int .i64 a0).wf = true) (a1 : Int) (w1 : (Lit.int .i64 a1).wf = true) (a2 : Int) (w2 : (Lit.int .i64 a2).wf = true) (w : World) :
    Calls Try.prog 6 #[.int .i64 a0, .int .i64 a1, .int .i64 a2] w fun e w' => e = .returned (.bool true) ∧ Below w.heap.size w w' := by
  obtain ⟨hv0, hv1⟩ := Cv.pv_bd a0 a1 a2
  rcases Bool.eq_false_or_eq_true (Cv.okB a0 a1 a2) with h | h
  · have hpe := Cv.pe_ok h
    rcases Bool.eq_false_or_eq_true (Cv.qok a0 (Cv.pv a0 a1 a2 + 1)) with k | k
    · have e3 : Cv.ne a0 a1 a2 = 0 := by unfold Cv.ne; rw [h, k]; rfl
      obtain ⟨g1, g2, g3⟩ := Cv.steps_in h k
      have g4 := Cv.pe_ok g1
      obtain ⟨b1, b2, b3, b4⟩ := Cv.ok_in h
      obtain ⟨c1, c2, c3, c4⟩ := Cv.ok_in g1
      have t26 := two26 a0.toNat (by omega)
      have q1 : a1 ≤ 67108864 := by omega
      have q2 : a2 ≤ 67108864 := by omega
      have q3 : Cv.nx a0 a1 a2 ≤ 67108864 := by omega
      have q4 : Cv.ny a0 a1 a2 ≤ 67108864 := by omega
      have q5 := b4.1
      clear h k g1 b1 b3 b4 c1 t26 w0 w1 w2
      have r1 := c4.1
      clear c4 c3
      rcases g3 with ⟨u, v⟩ | ⟨u, v⟩
      · go_enter Try.func6, Try.ntmps6
        go_wp2_with fail
        refine (place_any _ _ _ _).mono ?_; rintro e w1 ⟨rfl, hb1⟩
        go_wp2_with fail
        refine (next_any _ _ _ _).mono ?_; rintro e w2 ⟨rfl, hb2⟩
        go_wp2_with fail
        refine (place_any _ _ _ _).mono ?_; rintro e w3 ⟨rfl, hb3⟩
        go_wp2_with fail
        refine (worth_any _ (by omega) (by omega) _).mono ?_; rintro e w' ⟨rfl, rfl⟩
        go_wp2_with fail
        refine (worth_any _ (by omega) (by omega) _).mono ?_; rintro e w' ⟨rfl, rfl⟩
        go_wp2_with fail
        refine (awake03 _).mono ?_; rintro e w9 ⟨rfl, hb9⟩
        go_wp2_with fail
        go_ret
        exact ⟨rfl, bthen hb1 (bthen hb2 (bthen hb3 hb9))⟩
      · go_enter Try.func6, Try.ntmps6
        go_wp2_with fail
        refine (place_any _ _ _ _).mono ?_; rintro e w1 ⟨rfl, hb1⟩
        go_wp2_with fail
        refine (next_any _ _ _ _).mono ?_; rintro e w2 ⟨rfl, hb2⟩
        go_wp2_with fail
        refine (place_any _ _ _ _).mono ?_; rintro e w3 ⟨rfl, hb3⟩
        go_wp2_with fail
        refine (worth_any _ (by omega) (by omega) _).mono ?_; rintro e w' ⟨rfl, rfl⟩
        go_wp2_with fail
        refine (worth_any _ (by omega) (by omega) _).mono ?_; rintro e w' ⟨rfl, rfl⟩
        go_wp2_with fail
        refine (awake03 _).mono ?_; rintro e w9 ⟨rfl, hb9⟩
        go_wp2_with fail
        go_ret
        exact ⟨rfl, bthen hb1 (bthen hb2 (bthen hb3 hb9))⟩
    · have e3 : Cv.ne a0 a1 a2 = 6 := by unfold Cv.ne; rw [h, k]; rfl
      obtain ⟨g1, g2⟩ := Cv.steps_end h k
      have hz := (Cv.ok_in h).1
      have s1 : 1 ≤ Cv.side a0 := by rw [Cv.side_in a0 hz]; have := Cv.pow_pos2 a0.toNat; omega
      have s2 : Cv.side a0 ≤ 67108864 := by rw [Cv.side_in a0 hz]; have := two26 a0.toNat (by omega); omega
      have t1 : (a2 == 0) = true := by rw [g1]; rfl
      have t2 : (a1 == Cv.side a0 - 1) = true := by rw [g2]; exact beq_self_eq_true _
      clear h k g1 g2 w0 w1 w2
      go_enter Try.func6, Try.ntmps6
      go_wp2_with fail
      refine (place_any _ _ _ _).mono ?_; rintro e w1 ⟨rfl, hb1⟩
      go_wp2_with fail
      refine (next_any _ _ _ _).mono ?_; rintro e w2 ⟨rfl, hb2⟩
      go_wp2_with fail
      refine (side_any _ _).mono ?_; rintro e w' ⟨rfl, rfl⟩
      go_wp2_with fail
      refine (awake03 _).mono ?_; rintro e w9 ⟨rfl, hb9⟩
      go_wp2_with fail
      go_ret
      exact ⟨rfl, bthen hb1 (bthen hb2 hb9)⟩
  · have e1 : Cv.nx a0 a1 a2 = 0 := by unfold Cv.nx Cv.nok; rw [h]; rfl
    have e2 : Cv.ny a0 a1 a2 = 0 := by unfold Cv.ny Cv.nok; rw [h]; rfl
    have e3 : Cv.ne a0 a1 a2 = Cv.pe a0 a1 a2 := by unfold Cv.ne; rw [h]; rfl
    have hpe : (Cv.pe a0 a1 a2 != 0) = true := by rcases Cv.pe_not h with q | q <;> rw [q] <;> rfl
    clear h w0 w1 w2
    go_enter Try.func6, Try.ntmps6
    go_wp2_with fail
    refine (place_any _ _ _ _).mono ?_; rintro e w1 ⟨rfl, hb1⟩
    go_wp2_with fail
    refine (next_any _ _ _ _).mono ?_; rintro e w2 ⟨rfl, hb2⟩
    go_wp2_with fail
    refine (awake03 _).mono ?_; rintro e w9 ⟨rfl, hb9⟩
    go_wp2_with fail
    go_ret
    exact ⟨rfl, bthen hb1 (bthen hb2 hb9)⟩

set_option maxRecDepth 100000 in
theorem lifted (os : Os) (started : os.Started) (H : Type) (enc : TypeId × Value → H) :
    ReturnsInHanded {} Try.checked os 6 .any (Rows.curveStepsSpec.pre6 enc Try.prog Try.f6 Rows.curveStepsRow.domain false) (Rows.curveStepsSpec.post enc Try.prog Try.f6 false true false false) := by
  refine returnsInHanded_of_change (C := Try.checked) own_ started (by kernel_rfl) Try.func6
    (ChangeSpec.witness6 (enc := enc) (C := Try.checked) false ⟨#[], #[.int .i64 0, .int .i64 0, .int .i64 0], []⟩ 8 (by kernel_rfl) (by kernel_rfl) (by kernel_rfl) (by kernel_rfl)) ?_
  intro W base args ds gs before hval0 hW hcnd _
  have hval : ∀ (j : Nat) t v, Try.f6.params[j]? = some t → args[j]? = some v → Value.okWide Try.prog W .any base t v := hval0
  have hW' := hW
  obtain ⟨p, q, hA0, hV, e0, hfz, hnd⟩ := hW
  clear e0 hfz hnd hcnd
  have hA : DataW.TrodAll enc Try.prog W 0 (fun _ => true) true Try.f6.params.toList args.toList ds p := hA0
  rw [Try.params6] at hA hval
  obtain ⟨v0, vs0, d0, ds0, p0, q0, hargs, rfl, e0, h0, r0⟩ := trodAll_cons hA
  obtain ⟨v1, vs1, d1, ds1, p1, q1, rfl, rfl, e1, h1, r1⟩ := trodAll_cons r0
  obtain ⟨v2, vs2, d2, ds2, p2, q2, rfl, rfl, e2, h2, r2⟩ := trodAll_cons r1
  obtain ⟨rfl, rfl, eN⟩ := trodAll_nil r2
  obtain rfl : args = #[v0, v1, v2] := by cases args; simp_all
  obtain ⟨a0, rfl, _, _, w0⟩ := open_int Try.underlying3 (hval 0 3 v0 rfl rfl) h0
  obtain ⟨a1, rfl, _, _, w1⟩ := open_int Try.underlying3 (hval 1 3 v1 rfl rfl) h1
  obtain ⟨a2, rfl, _, _, w2⟩ := open_int Try.underlying3 (hval 2 3 v2 rfl rfl) h2
  refine (walk a0 w0 a1 w1 a2 w2 W).mono fun e W' ⟨he, hb⟩ => ?_
  subst he
  exact ⟨_, rfl, law_post laid_ (by kernel_rfl) hW' rfl rfl (by kernel_rfl) Try.underlying4 hb⟩

theorem over : Rows.curveStepsRow.holds Try.pinned (OpenSpec.ofChange Rows.curveStepsSpec) :=
  OpenClaim.holds_of_wide 6 Try.f6 rfl rfl rfl rfl rfl rfl rfl ⟨rfl, rfl, rfl, rfl, rfl⟩ rfl rfl rfl rfl rfl (by kernel_rfl) Try.func6 (by kernel_rfl)
    (of_decide_eq_true (by kernel_rfl)) (by unfold Func.isWrapper; first | (rw [if_pos (by decide +kernel)]; kernel_rfl) | (rw [if_neg (by decide +kernel)]; exact ⟨rfl, rfl⟩))
    (fun os started H enc _ => lifted os started H enc)

theorem proved : Rows.CurveStepsSaid := over
end Go.Proofs.Ytdipincjginmcaa.curveSteps
