/- CurveBack: at every input a tile is its place's and a place is its tile's, and the law returns true. -/
import Derived.Test.YtdipincjginmcaaLaw
import Derived.Test.YtdipincjginmcaaCurveFacts
namespace Go.Proofs.Ytdipincjginmcaa.curveBack
open Go.ChangeShapes Go.WideShapes Go.ChangeAt Go.RowKit
set_option linter.unusedVariables false

set_option maxHeartbeats 2000000 in
theorem walk (x0 y0 z0 : Int) (wx0 : (Lit.int .i64 x0).wf = true) (wy0 : (Lit.int .i64 y0).wf = true) (wz0 : (Lit.int .i64 z0).wf = true) (a1 : Int) (w1 : (Lit.int .u64 a1).wf = true) (w : World) :
    Calls Try.prog 5 #[.agg #[.int .i64 x0, .int .i64 y0, .int .i64 z0], .int .u64 a1] w fun e w' => e = .returned (.bool true) ∧ Below w.heap.size w w' := by
  have d0 := (bd_u64 w1).1
  have B0 : ∀ n (o : Obj), Below w.heap.size w ((w.alloc o).drewN n) := fun n o => by
    have h := (Below.refl w.heap.size w).alloc (Nat.le_refl _) o
    exact ⟨h.os, h.tape, h.output, h.size, h.block⟩
  by_cases hz : 0 ≤ x0 ∧ x0 ≤ 26
  · obtain ⟨hz0, hz1⟩ := hz
    have hs := Cv.side_in x0 ⟨hz0, hz1⟩
    obtain ⟨m, rfl⟩ := Int.eq_ofNat_of_zero_le hz0
    rw [Int.toNat_natCast] at hs
    obtain ⟨A, hA⟩ : ∃ A : Nat, A = 4 ^ m := ⟨_, rfl⟩
    have t26 := two26 m (by omega)
    have hA1 : A ≤ 4503599627370496 := by rw [hA]; exact four26 m (by omega)
    have hsh : (Cv.side m != wrap64 ((2 : Int) ^ m)) = false := by rw [hs, i64pow m (by omega)]; simp
    have s1 : 1 ≤ Cv.side m := by rw [hs]; have := Cv.pow_pos2 m; omega
    have s2 : Cv.side m ≤ 67108864 := by rw [hs]; omega
    have hall : IntKind.u64.wrap (Cv.side m * Cv.side m) = (A : Int) := by
      have e : Cv.side m * Cv.side m = (A : Int) := by rw [hs, hA, Cv.four]; simp
      rw [e, u64w (by omega) (by omega)]
    obtain ⟨hv0, hv1⟩ := Cv.pv_bd m y0 z0
    have hvA : Cv.pv m y0 z0 < (A : Int) := by
      rcases Bool.eq_false_or_eq_true (Cv.okB m y0 z0) with h | h
      · have := (Cv.q_in (Cv.back_in h).1).2
        rw [Int.toNat_natCast, ← hA] at this
        exact this
      · rw [Cv.pv_not h]; have := Cv.pow_pos4 m; omega
    rcases Bool.eq_false_or_eq_true (Cv.okB m y0 z0) with h | h
    · have hpe := Cv.pe_ok h
      obtain ⟨b0, b1, b2⟩ := Cv.back_in h
      have b3 := Cv.qe_ok b0
      obtain ⟨i1, i2, i3, i4, i5⟩ := Cv.ok_in h
      rw [Int.toNat_natCast, ← hs] at i3 i5
      rcases Bool.eq_false_or_eq_true (Cv.qok m a1) with k | k
      · have k1 := Cv.qe_ok k
        obtain ⟨k2, k3⟩ := Cv.back_of k d0
        have k4 := Cv.pe_ok k2
        clear h k b0 i1 hs hA w1 wx0 wy0 wz0 k2 hz0
        go_enter Try.func5, Try.ntmps5
        go_wp2_with fail
        go_quiet (fail)
        go_wp2_with fail
        refine (side_any _ _).mono ?_; rintro e w' ⟨rfl, rfl⟩
        go_wp2_with fail
        refine (place_any _ _ _ _).mono ?_; rintro e w1 ⟨rfl, hb1⟩
        go_wp2_with fail
        refine (point_any _ _ (by omega) _).mono ?_; rintro e w2 ⟨rfl, hb2⟩
        go_wp2_with fail
        refine (point_any _ _ (by omega) _).mono ?_; rintro e w3 ⟨rfl, hb3⟩
        go_wp2_with fail
        refine (place_any _ _ _ _).mono ?_; rintro e w4 ⟨rfl, hb4⟩
        go_wp2_with fail
        refine (awake03 _).mono ?_; rintro e w9 ⟨rfl, hb9⟩
        go_wp2_with fail
        go_ret
        exact ⟨rfl, (B0 _ _).trans ((bthen hb1 (bthen hb2 (bthen hb3 (bthen hb4 hb9)))).mono (B0 _ _).size)⟩
      · have k1 : (Cv.qe m a1 != 0) = true := by rcases Cv.qe_not k with q | q <;> rw [q] <;> rfl
        have k2 := Cv.q_out k (by omega)
        rw [Int.toNat_natCast, ← hA] at k2
        have k3 : Cv.px m a1 = 0 := by unfold Cv.px; rw [k]; rfl
        have k4 : Cv.py m a1 = 0 := by unfold Cv.py; rw [k]; rfl
        clear h k b0 i1 hs hA w1 wx0 wy0 wz0 hz0
        go_enter Try.func5, Try.ntmps5
        go_wp2_with fail
        go_quiet (fail)
        go_wp2_with fail
        refine (side_any _ _).mono ?_; rintro e w' ⟨rfl, rfl⟩
        go_wp2_with fail
        refine (place_any _ _ _ _).mono ?_; rintro e w1 ⟨rfl, hb1⟩
        go_wp2_with fail
        refine (point_any _ _ (by omega) _).mono ?_; rintro e w2 ⟨rfl, hb2⟩
        go_wp2_with fail
        refine (point_any _ _ (by omega) _).mono ?_; rintro e w3 ⟨rfl, hb3⟩
        go_wp2_with fail
        refine (awake03 _).mono ?_; rintro e w9 ⟨rfl, hb9⟩
        go_wp2_with fail
        go_ret
        exact ⟨rfl, (B0 _ _).trans ((bthen hb1 (bthen hb2 (bthen hb3 hb9))).mono (B0 _ _).size)⟩
    · have hpe : (Cv.pe m y0 z0 == 0) = false := by rcases Cv.pe_not h with q | q <;> rw [q] <;> rfl
      have ho := Cv.ok_out h (by omega)
      have hcase : y0 < 0 ∨ (0 ≤ y0 ∧ Cv.side m ≤ y0) ∨ (0 ≤ y0 ∧ y0 < Cv.side m ∧ z0 < 0) ∨ (0 ≤ y0 ∧ y0 < Cv.side m ∧ 0 ≤ z0 ∧ Cv.side m ≤ z0) := by omega
      clear ho
      rcases Bool.eq_false_or_eq_true (Cv.qok m a1) with k | k
      · have k1 := Cv.qe_ok k
        obtain ⟨k2, k3⟩ := Cv.back_of k d0
        have k4 := Cv.pe_ok k2
        clear h k hs hA w1 wx0 wy0 wz0 k2 hz0
        rcases hcase with c | ⟨c1, c2⟩ | ⟨c1, c2, c3⟩ | ⟨c1, c2, c3, c4⟩
        all_goals
          go_enter Try.func5, Try.ntmps5
          go_wp2_with fail
          go_quiet (fail)
          go_wp2_with fail
          refine (side_any _ _).mono ?_; rintro e w' ⟨rfl, rfl⟩
          go_wp2_with fail
          refine (place_any _ _ _ _).mono ?_; rintro e w1 ⟨rfl, hb1⟩
          go_wp2_with fail
          refine (point_any _ _ (by omega) _).mono ?_; rintro e w3 ⟨rfl, hb3⟩
          go_wp2_with fail
          refine (place_any _ _ _ _).mono ?_; rintro e w4 ⟨rfl, hb4⟩
          go_wp2_with fail
          refine (awake03 _).mono ?_; rintro e w9 ⟨rfl, hb9⟩
          go_wp2_with fail
          go_ret
          exact ⟨rfl, (B0 _ _).trans ((bthen hb1 (bthen hb3 (bthen hb4 hb9))).mono (B0 _ _).size)⟩
      · have k1 : (Cv.qe m a1 != 0) = true := by rcases Cv.qe_not k with q | q <;> rw [q] <;> rfl
        have k2 := Cv.q_out k (by omega)
        rw [Int.toNat_natCast, ← hA] at k2
        have k3 : Cv.px m a1 = 0 := by unfold Cv.px; rw [k]; rfl
        have k4 : Cv.py m a1 = 0 := by unfold Cv.py; rw [k]; rfl
        clear h k hs hA w1 wx0 wy0 wz0 hz0
        rcases hcase with c | ⟨c1, c2⟩ | ⟨c1, c2, c3⟩ | ⟨c1, c2, c3, c4⟩
        all_goals
          go_enter Try.func5, Try.ntmps5
          go_wp2_with fail
          go_quiet (fail)
          go_wp2_with fail
          refine (side_any _ _).mono ?_; rintro e w' ⟨rfl, rfl⟩
          go_wp2_with fail
          refine (place_any _ _ _ _).mono ?_; rintro e w1 ⟨rfl, hb1⟩
          go_wp2_with fail
          refine (point_any _ _ (by omega) _).mono ?_; rintro e w3 ⟨rfl, hb3⟩
          go_wp2_with fail
          refine (awake03 _).mono ?_; rintro e w9 ⟨rfl, hb9⟩
          go_wp2_with fail
          go_ret
          exact ⟨rfl, (B0 _ _).trans ((bthen hb1 (bthen hb3 hb9)).mono (B0 _ _).size)⟩
  · have hs : Cv.side x0 = 0 := by unfold Cv.side; rw [if_neg hz]
    have hc : x0 < 0 ∨ (0 ≤ x0 ∧ 26 < x0) := by omega
    clear hz
    rcases hc with c | ⟨c1, c2⟩
    all_goals
      go_enter Try.func5, Try.ntmps5
      go_wp2_with fail
      go_quiet (fail)
      go_wp2_with fail
      refine (side_any _ _).mono ?_; rintro e w' ⟨rfl, rfl⟩
      go_wp2_with fail
      refine (awake03 _).mono ?_; rintro e w9 ⟨rfl, hb9⟩
      go_wp2_with fail
      go_ret
      exact ⟨rfl, (B0 _ _).trans (hb9.mono (B0 _ _).size)⟩

set_option maxRecDepth 100000 in
theorem lifted (os : Os) (started : os.Started) (H : Type) (enc : TypeId × Value → H) :
    ReturnsInHanded {} Try.checked os 5 .any (Rows.curveBackSpec.pre6 enc Try.prog Try.f5 Rows.curveBackRow.domain false) (Rows.curveBackSpec.post enc Try.prog Try.f5 false true false false) := by
  refine returnsInHanded_of_change (C := Try.checked) own_ started (by kernel_rfl) Try.func5
    (ChangeSpec.witness6 (enc := enc) (C := Try.checked) false ⟨#[], #[.agg #[.int .i64 0, .int .i64 0, .int .i64 0], .int .u64 0], []⟩ 8 (by kernel_rfl) (by kernel_rfl) (by kernel_rfl) (by kernel_rfl)) ?_
  intro W base args ds gs before hval0 hW hcnd _
  have hval : ∀ (j : Nat) t v, Try.f5.params[j]? = some t → args[j]? = some v → Value.okWide Try.prog W .any base t v := hval0
  have hW' := hW
  obtain ⟨p, q, hA0, hV, e0, hfz, hnd⟩ := hW
  clear e0 hfz hnd hcnd
  have hA : DataW.TrodAll enc Try.prog W 0 (fun _ => true) true Try.f5.params.toList args.toList ds p := hA0
  rw [Try.params5] at hA hval
  obtain ⟨v0, vs0, d0, ds0, p0, q0, hargs, rfl, e0, h0, r0⟩ := trodAll_cons hA
  obtain ⟨v1, vs1, d1, ds1, p1, q1, rfl, rfl, e1, h1, r1⟩ := trodAll_cons r0
  obtain ⟨rfl, rfl, eN⟩ := trodAll_nil r1
  obtain rfl : args = #[v0, v1] := by cases args; simp_all
  obtain ⟨x0, y0, z0, rfl, wx0, wy0, wz0⟩ := open_arr3 Try.underlying38 (by kernel_rfl) (by kernel_rfl) Try.underlying3 (hval 0 38 v0 rfl rfl) h0
  obtain ⟨a1, rfl, _, _, w1⟩ := open_int Try.underlying22 (hval 1 22 v1 rfl rfl) h1
  refine (walk x0 y0 z0 wx0 wy0 wz0 a1 w1 W).mono fun e W' ⟨he, hb⟩ => ?_
  subst he
  exact ⟨_, rfl, law_post laid_ (by kernel_rfl) hW' rfl rfl (by kernel_rfl) Try.underlying4 hb⟩

theorem over : Rows.curveBackRow.holds Try.pinned (OpenSpec.ofChange Rows.curveBackSpec) :=
  OpenClaim.holds_of_wide 5 Try.f5 rfl rfl rfl rfl rfl rfl rfl ⟨rfl, rfl, rfl, rfl, rfl⟩ rfl rfl rfl rfl rfl (by kernel_rfl) Try.func5 (by kernel_rfl)
    (of_decide_eq_true (by kernel_rfl)) (by unfold Func.isWrapper; first | (rw [if_pos (by decide +kernel)]; kernel_rfl) | (rw [if_neg (by decide +kernel)]; exact ⟨rfl, rfl⟩))
    (fun os started H enc _ => lifted os started H enc)

theorem proved : Rows.CurveBackSaid := over
end Go.Proofs.Ytdipincjginmcaa.curveBack
