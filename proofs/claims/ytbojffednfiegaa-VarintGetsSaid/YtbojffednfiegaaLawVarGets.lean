/- VarintGets: the number that any scan takes off, and any number of them, is the document's, and so is what went wrong; and the law returns true. -/
import Derived.Test.YtbojffednfiegaaVarOpen
import Derived.Test.YtbojffednfiegaaVarAwake
import Derived.Test.YtbojffednfiegaaVarRound
import Derived.Test.YtbojffednfiegaaVarSame
import Derived.Test.YtbojffednfiegaaVarRefTake
import Derived.Deep.RegionHeld3
namespace Go.Proofs.Ytbojffednfiegaa.varintGets
open Go.ChangeShapes Go.Op Go.WideShapes Go.ChangeAt Go.RowKit
set_option linter.unusedVariables false

theorem row_keep2 {w w' : World} {base size n : Nat} {e : TypeId} {v : Value} {xs : List Value} (hb : Below w.heap.size w w') (h : w.ownsRow base e size v n xs) : w'.ownsRow base e size v n xs := row_keep h hb
theorem Vi.rn_len (s : ByteArray) : ∀ (k : Nat) (a : Int), (Vi.rn s k a).1.length ≤ k := by
  intro k
  induction k with
  | zero => intro a; simp [Vi.rn]
  | succ k ih =>
    intro a
    by_cases h : Vi.gb s a 0 = 0
    · rw [Vi.rn_yes h]; have := ih (Vi.ga s a 0); simp; omega
    · rw [Vi.rn_no h]; simp
theorem Vi.tx_len (s : ByteArray) (a b n : Int) : (Vi.tx s a b n).length ≤ 65536 := by
  unfold Vi.tx
  by_cases h : Vi.tok s a b n
  · have h1 := Vi.rn_len s n.toNat a
    have h2 := h.2.2.2
    split
    · omega
    · simp
  · unfold Vi.tb
    rw [if_neg h]
    by_cases hb : b = 0
    · rw [if_pos hb]; simp
    · rw [if_neg hb, if_neg hb]; simp
theorem eq_rscan (s : ByteArray) (a b : Int) (w : World) :
    (binOp .eql 71 (Sc s a b) (.agg #[.string s, .int .i64 a, .int .i64 b])).run Try.prog w = .ok (.bool true) w := by
  unfold Sc
  simp [go_sem]

set_option maxRecDepth 100000 in
set_option maxHeartbeats 2000000 in
theorem walk (w : World) (t0 : ByteArray) (a0 b0 : Int) (ht0 : t0.size ≤ maxLen) (wa0 : (Lit.int .i64 a0).wf = true) (wb0 : (Lit.int .i64 b0).wf = true) (a1 : Int) (w1 : (Lit.int .i64 a1).wf = true) :
    Calls Try.prog 12 #[.agg #[.string t0, .int .i64 a0, .int .i64 b0], .int .i64 a1] w fun e w' => e = .returned (.bool true) ∧ Below w.heap.size w w' := by
  by_cases hbig : 300 < t0.size
  · have HX := Lib.hid (heap_alloc_new w (.cells #[.string t0, .int .i64 a0, .int .i64 b0] 71))
    have hw := blk_new w (.cells #[.string t0, .int .i64 a0, .int .i64 b0] 71)
    obtain ⟨⟨x0, x1, x2⟩, _⟩ := blk_cells3 HX.out
    go_enter Try.func12, Try.ntmps12
    go_wp2_with fail
    refine (awake02 _).mono ?_; rintro e u1 ⟨rfl, hb⟩
    have hw := bthen2 hb hw
    go_wp2_with fail
    go_ret
    exact ⟨rfl, hw⟩
  · have hsz : (t0.size : Int) ≤ 300 := by omega
    obtain ⟨X, hX⟩ : ∃ X, X = Vi.gx t0 a0 b0 := ⟨_, rfl⟩
    obtain ⟨P, hP⟩ : ∃ X, X = Vi.ga t0 a0 b0 := ⟨_, rfl⟩
    obtain ⟨Q, hQ⟩ : ∃ X, X = Vi.gb t0 a0 b0 := ⟨_, rfl⟩
    obtain ⟨L, hL⟩ : ∃ X, X = Vi.tx t0 a0 b0 a1 := ⟨_, rfl⟩
    obtain ⟨M, hM⟩ : ∃ X, X = Vi.ta t0 a0 b0 a1 := ⟨_, rfl⟩
    obtain ⟨N, hN⟩ : ∃ X, X = Vi.tb t0 a0 b0 a1 := ⟨_, rfl⟩
    have hLn : L.length ≤ 65536 := by rw [hL]; exact Vi.tx_len t0 a0 b0 a1
    have HG : Hid (∀ w, Calls Try.prog 49 #[Sc t0 a0 b0] w (ScPost X t0 P Q w)) := Lib.hid (fun w => by have h := get_any t0 a0 b0 (by omega) w; rwa [← hX, ← hP, ← hQ] at h)
    have HRG : Hid (∀ w, Calls Try.prog 51 #[Sc t0 a0 b0] w (ScPost X t0 P Q w)) := Lib.hid (fun w => by have h := refget_any t0 a0 b0 (by omega) w; rwa [← hX, ← hP, ← hQ] at h)
    have HT : Hid (∀ w, Calls Try.prog 52 #[Sc t0 a0 b0, .int .i64 a1] w (TkPost L t0 M N w)) := Lib.hid (fun w => by have h := take_any t0 a0 b0 a1 (by omega) w; rwa [← hL, ← hM, ← hN] at h)
    have HRT : Hid (∀ w, Calls Try.prog 53 #[Sc t0 a0 b0, .int .i64 a1] w (TkPost L t0 M N w)) := Lib.hid (fun w => by have h := reftake_any t0 a0 b0 a1 (by omega) w; rwa [← hL, ← hM, ← hN] at h)
    have hsm : Vi.sm L L = true := decide_eq_true rfl
    have hxx : (X == X) = true := beq_self_eq_true X
    have e1 := fun w => eq_rscan t0 P Q w
    have e2 := fun w => eq_rscan t0 M N w
    clear hX hP hQ hL hM hN wa0 wb0
    have HX := Lib.hid (heap_alloc_new w (.cells #[.string t0, .int .i64 a0, .int .i64 b0] 71))
    have hw := blk_new w (.cells #[.string t0, .int .i64 a0, .int .i64 b0] 71)
    obtain ⟨⟨x0, x1, x2⟩, _⟩ := blk_cells3 HX.out
    go_enter Try.func12, Try.ntmps12
    go_wp2_with fail
    refine (own02_any t0 a0 b0 _).mono ?_; rintro e u1 ⟨rfl, hb⟩
    have hw := bthen2 hb hw
    have HX := Lib.hid (blk_keep2 hb HX.out)
    obtain ⟨⟨x0, x1, x2⟩, _⟩ := blk_cells3 HX.out
    clear hb
    go_wp2_with fail
    refine (HG.out _).mono ?_
    intro e u2 hp
    obtain ⟨he, hb⟩ := hp
    subst he
    have hw := bthen2 hb hw
    have HX := Lib.hid (blk_keep2 hb HX.out)
    obtain ⟨⟨x0, x1, x2⟩, _⟩ := blk_cells3 HX.out
    clear hb
    have hw : Below w.heap.size w (u2.alloc (.cells #[.string t0, .int .i64 P, .int .i64 Q] 73)) := hw.alloc hw.size _
    have HX := Lib.hid (blk_keep2 (blk_new u2 (.cells #[.string t0, .int .i64 P, .int .i64 Q] 73)) HX.out)
    obtain ⟨⟨x0, x1, x2⟩, _⟩ := blk_cells3 HX.out
    have HE := Lib.hid (heap_alloc_new u2 (.cells #[.string t0, .int .i64 P, .int .i64 Q] 73))
    obtain ⟨⟨p0, p1, p2⟩, _⟩ := blk_cells3 HE.out
    go_wp2_with fail
    refine (HRG.out _).mono ?_
    intro e u3 hp
    obtain ⟨he, hb⟩ := hp
    subst he
    have hw := bthen2 hb hw
    have HX := Lib.hid (blk_keep2 hb HX.out)
    obtain ⟨⟨x0, x1, x2⟩, _⟩ := blk_cells3 HX.out
    have HE := Lib.hid (blk_keep2 hb HE.out)
    obtain ⟨⟨p0, p1, p2⟩, _⟩ := blk_cells3 HE.out
    clear hb
    have hw : Below w.heap.size w (u3.alloc (.cells #[.string t0, .int .i64 P, .int .i64 Q] 71)) := hw.alloc hw.size _
    have HX := Lib.hid (blk_keep2 (blk_new u3 (.cells #[.string t0, .int .i64 P, .int .i64 Q] 71)) HX.out)
    obtain ⟨⟨x0, x1, x2⟩, _⟩ := blk_cells3 HX.out
    have HE := Lib.hid (blk_keep2 (blk_new u3 (.cells #[.string t0, .int .i64 P, .int .i64 Q] 71)) HE.out)
    obtain ⟨⟨p0, p1, p2⟩, _⟩ := blk_cells3 HE.out
    have HF := Lib.hid (heap_alloc_new u3 (.cells #[.string t0, .int .i64 P, .int .i64 Q] 71))
    obtain ⟨⟨q0, q1, q2⟩, _⟩ := blk_cells3 HF.out
    go_wp2_with fail
    refine (own02_any t0 a0 b0 _).mono ?_; rintro e u4 ⟨rfl, hb⟩
    have hw := bthen2 hb hw
    have HX := Lib.hid (blk_keep2 hb HX.out)
    obtain ⟨⟨x0, x1, x2⟩, _⟩ := blk_cells3 HX.out
    have HE := Lib.hid (blk_keep2 hb HE.out)
    obtain ⟨⟨p0, p1, p2⟩, _⟩ := blk_cells3 HE.out
    have HF := Lib.hid (blk_keep2 hb HF.out)
    obtain ⟨⟨q0, q1, q2⟩, _⟩ := blk_cells3 HF.out
    clear hb
    go_wp2_with fail
    refine (HT.out _).mono ?_
    intro e u5 hp
    obtain ⟨v, he, hR, hb⟩ := hp
    subst he
    have HR1 := Lib.hid hR
    obtain ⟨Ac, kc, hv, _⟩ := row64_slice hR
    clear hR
    rw [hv] at HR1
    subst hv
    have hw := bthen2 hb hw
    have HX := Lib.hid (blk_keep2 hb HX.out)
    obtain ⟨⟨x0, x1, x2⟩, _⟩ := blk_cells3 HX.out
    have HE := Lib.hid (blk_keep2 hb HE.out)
    obtain ⟨⟨p0, p1, p2⟩, _⟩ := blk_cells3 HE.out
    have HF := Lib.hid (blk_keep2 hb HF.out)
    obtain ⟨⟨q0, q1, q2⟩, _⟩ := blk_cells3 HF.out
    clear hb
    have hw : Below w.heap.size w (u5.alloc (.cells #[.string t0, .int .i64 M, .int .i64 N] 73)) := hw.alloc hw.size _
    have HX := Lib.hid (blk_keep2 (blk_new u5 (.cells #[.string t0, .int .i64 M, .int .i64 N] 73)) HX.out)
    obtain ⟨⟨x0, x1, x2⟩, _⟩ := blk_cells3 HX.out
    have HE := Lib.hid (blk_keep2 (blk_new u5 (.cells #[.string t0, .int .i64 M, .int .i64 N] 73)) HE.out)
    obtain ⟨⟨p0, p1, p2⟩, _⟩ := blk_cells3 HE.out
    have HF := Lib.hid (blk_keep2 (blk_new u5 (.cells #[.string t0, .int .i64 M, .int .i64 N] 73)) HF.out)
    obtain ⟨⟨q0, q1, q2⟩, _⟩ := blk_cells3 HF.out
    have HR1 := Lib.hid (World.ownsRow.alloc HR1.out (.cells #[.string t0, .int .i64 M, .int .i64 N] 73))
    have HK := Lib.hid (heap_alloc_new u5 (.cells #[.string t0, .int .i64 M, .int .i64 N] 73))
    obtain ⟨⟨r0, r1, r2⟩, _⟩ := blk_cells3 HK.out
    go_wp2_with fail
    refine (HRT.out _).mono ?_
    intro e u6 hp
    obtain ⟨v, he, hR, hb⟩ := hp
    subst he
    have HR2 := Lib.hid hR
    obtain ⟨Ad, kd, hv, _⟩ := row64_slice hR
    clear hR
    rw [hv] at HR2
    subst hv
    have hw := bthen2 hb hw
    have HX := Lib.hid (blk_keep2 hb HX.out)
    obtain ⟨⟨x0, x1, x2⟩, _⟩ := blk_cells3 HX.out
    have HE := Lib.hid (blk_keep2 hb HE.out)
    obtain ⟨⟨p0, p1, p2⟩, _⟩ := blk_cells3 HE.out
    have HF := Lib.hid (blk_keep2 hb HF.out)
    obtain ⟨⟨q0, q1, q2⟩, _⟩ := blk_cells3 HF.out
    have HK := Lib.hid (blk_keep2 hb HK.out)
    obtain ⟨⟨r0, r1, r2⟩, _⟩ := blk_cells3 HK.out
    have HR1 := Lib.hid (row_keep HR1.out hb)
    clear hb
    have hw : Below w.heap.size w (u6.alloc (.cells #[.string t0, .int .i64 M, .int .i64 N] 71)) := hw.alloc hw.size _
    have HX := Lib.hid (blk_keep2 (blk_new u6 (.cells #[.string t0, .int .i64 M, .int .i64 N] 71)) HX.out)
    obtain ⟨⟨x0, x1, x2⟩, _⟩ := blk_cells3 HX.out
    have HE := Lib.hid (blk_keep2 (blk_new u6 (.cells #[.string t0, .int .i64 M, .int .i64 N] 71)) HE.out)
    obtain ⟨⟨p0, p1, p2⟩, _⟩ := blk_cells3 HE.out
    have HF := Lib.hid (blk_keep2 (blk_new u6 (.cells #[.string t0, .int .i64 M, .int .i64 N] 71)) HF.out)
    obtain ⟨⟨q0, q1, q2⟩, _⟩ := blk_cells3 HF.out
    have HK := Lib.hid (blk_keep2 (blk_new u6 (.cells #[.string t0, .int .i64 M, .int .i64 N] 71)) HK.out)
    obtain ⟨⟨r0, r1, r2⟩, _⟩ := blk_cells3 HK.out
    have HR1 := Lib.hid (World.ownsRow.alloc HR1.out (.cells #[.string t0, .int .i64 M, .int .i64 N] 71))
    have HR2 := Lib.hid (World.ownsRow.alloc HR2.out (.cells #[.string t0, .int .i64 M, .int .i64 N] 71))
    have HL := Lib.hid (heap_alloc_new u6 (.cells #[.string t0, .int .i64 M, .int .i64 N] 71))
    obtain ⟨⟨s0, s1, s2⟩, _⟩ := blk_cells3 HL.out
    go_wp2_with fail
    go_region_held3 (fun w' => w'.cell? ⟨u2.heap.size, 0, none⟩ = some (.string t0) ∧ w'.cell? ⟨u2.heap.size, 1, none⟩ = some (.int .i64 P) ∧ w'.cell? ⟨u2.heap.size, 2, none⟩ = some (.int .i64 Q) ∧ w'.cell? ⟨u3.heap.size, 0, none⟩ = some (.string t0) ∧ w'.cell? ⟨u3.heap.size, 1, none⟩ = some (.int .i64 P) ∧ w'.cell? ⟨u3.heap.size, 2, none⟩ = some (.int .i64 Q) ∧ w'.cell? ⟨u5.heap.size, 0, none⟩ = some (.string t0) ∧ w'.cell? ⟨u5.heap.size, 1, none⟩ = some (.int .i64 M) ∧ w'.cell? ⟨u5.heap.size, 2, none⟩ = some (.int .i64 N) ∧ w'.cell? ⟨u6.heap.size, 0, none⟩ = some (.string t0) ∧ w'.cell? ⟨u6.heap.size, 1, none⟩ = some (.int .i64 M) ∧ w'.cell? ⟨u6.heap.size, 2, none⟩ = some (.int .i64 N)) (exact ⟨p0, p1, p2, q0, q1, q2, r0, r1, r2, s0, s1, s2⟩) (first | (go_at_call 54; refine (back01_any t0 _ _ _).mono ?_; rintro e w7 ⟨rfl, hb⟩; have hw := bthen2 hb (by first | exact hw | exact Below.drew hw | exact bdraws hw _); have HE := Lib.hid (blk_keep2 hb HE.out); obtain ⟨⟨p0, p1, p2⟩, _⟩ := blk_cells3 HE.out; have HF := Lib.hid (blk_keep2 hb HF.out); obtain ⟨⟨q0, q1, q2⟩, _⟩ := blk_cells3 HF.out; have HK := Lib.hid (blk_keep2 hb HK.out); obtain ⟨⟨r0, r1, r2⟩, _⟩ := blk_cells3 HK.out; have HL := Lib.hid (blk_keep2 hb HL.out); obtain ⟨⟨s0, s1, s2⟩, _⟩ := blk_cells3 HL.out; have HR1 := Lib.hid (row_keep2 hb HR1.out); have HR2 := Lib.hid (row_keep2 hb HR2.out); clear hb) | (go_at_call 55; refine (same64_any Ac L.length kc L _ Ad L.length kd L _ _ (by exact Reads.of_own HR1.out) rfl (by exact Nat.le_refl _) (by exact Reads.of_own HR2.out) rfl (by exact Nat.le_refl _) (by omega) (by omega)).mono ?_; rintro e w7 ⟨rfl, hb⟩; have hw := bthen2 hb (by first | exact hw | exact Below.drew hw | exact bdraws hw _); have HE := Lib.hid (blk_keep2 hb HE.out); obtain ⟨⟨p0, p1, p2⟩, _⟩ := blk_cells3 HE.out; have HF := Lib.hid (blk_keep2 hb HF.out); obtain ⟨⟨q0, q1, q2⟩, _⟩ := blk_cells3 HF.out; have HK := Lib.hid (blk_keep2 hb HK.out); obtain ⟨⟨r0, r1, r2⟩, _⟩ := blk_cells3 HK.out; have HL := Lib.hid (blk_keep2 hb HL.out); obtain ⟨⟨s0, s1, s2⟩, _⟩ := blk_cells3 HL.out; have HR1 := Lib.hid (row_keep2 hb HR1.out); have HR2 := Lib.hid (row_keep2 hb HR2.out); clear hb) | (go_at_call 43; refine (awake02 _).mono ?_; rintro e w7 ⟨rfl, hb⟩; have hw := bthen2 hb (by first | exact hw | exact Below.drew hw | exact bdraws hw _); have HE := Lib.hid (blk_keep2 hb HE.out); obtain ⟨⟨p0, p1, p2⟩, _⟩ := blk_cells3 HE.out; have HF := Lib.hid (blk_keep2 hb HF.out); obtain ⟨⟨q0, q1, q2⟩, _⟩ := blk_cells3 HF.out; have HK := Lib.hid (blk_keep2 hb HK.out); obtain ⟨⟨r0, r1, r2⟩, _⟩ := blk_cells3 HK.out; have HL := Lib.hid (blk_keep2 hb HL.out); obtain ⟨⟨s0, s1, s2⟩, _⟩ := blk_cells3 HL.out; have HR1 := Lib.hid (row_keep2 hb HR1.out); have HR2 := Lib.hid (row_keep2 hb HR2.out); clear hb))
    all_goals
      go_wp2_with fail
      go_ret
      exact ⟨rfl, by first | exact hw | exact Below.drew hw | exact bdraws hw _⟩

set_option maxRecDepth 100000 in
set_option maxHeartbeats 1000000 in
theorem lifted (os : Os) (started : os.Started) (H : Type) (enc : TypeId × Value → H) :
    ReturnsInHanded {} Try.checked os 12 .any (Rows.varintGetsSpec.pre6 enc Try.prog Try.f12 Rows.varintGetsRow.domain false) (Rows.varintGetsSpec.post enc Try.prog Try.f12 false true false false) := by
  refine returnsInHanded_of_change (C := Try.checked) own_ started (by kernel_rfl) Try.func12
    (ChangeSpec.witness6 (enc := enc) (C := Try.checked) false ⟨#[], #[.agg #[.string ByteArray.empty, .int .i64 0, .int .i64 0], .int .i64 0], []⟩ 8 (by kernel_rfl) (by kernel_rfl) (by kernel_rfl) (by kernel_rfl)) ?_
  intro W base args ds gs before hval0 hW hcnd _
  have hval : ∀ (j : Nat) t v, Try.f12.params[j]? = some t → args[j]? = some v → Value.okWide Try.prog W .any base t v := hval0
  have hW' := hW
  obtain ⟨p, q, hA0, hV, e0, hfz, hnd⟩ := hW
  clear e0 hfz hnd hcnd
  have hA : DataW.TrodAll enc Try.prog W 0 (fun _ => true) true Try.f12.params.toList args.toList ds p := hA0
  rw [Try.params12] at hA hval
  obtain ⟨v0, vs0, d0, ds0, p0, q0, hargs, rfl, e0, h0, rr0⟩ := trodAll_cons hA
  obtain ⟨v1, vs1, d1, ds1, p1, q1, rfl, rfl, e1, h1, rr1⟩ := trodAll_cons rr0
  obtain ⟨rfl, rfl, eN⟩ := trodAll_nil rr1
  obtain rfl : args = #[v0, v1] := by cases args; simp_all
  obtain ⟨t0, a0, b0, rfl, ht0, wa0, wb0⟩ := open_scan Try.underlying71 (by kernel_rfl) (by kernel_rfl) rfl rfl rfl Try.underlying9 Try.underlying3 (hval 0 71 v0 rfl rfl) h0
  obtain ⟨a1, rfl, _, _, w1⟩ := open_int Try.underlying3 (hval 1 3 v1 rfl rfl) h1
  refine (walk W t0 a0 b0 ht0 wa0 wb0 a1 w1).mono fun e W' ⟨he, hb⟩ => ?_
  subst he
  exact ⟨_, rfl, law_post laid_ (by kernel_rfl) hW' rfl rfl (by kernel_rfl) Try.underlying4 hb⟩

theorem over : Rows.varintGetsRow.holds Try.pinned (OpenSpec.ofChange Rows.varintGetsSpec) :=
  OpenClaim.holds_of_wide 12 Try.f12 rfl rfl rfl rfl rfl rfl rfl ⟨rfl, rfl, rfl, rfl, rfl⟩ rfl rfl rfl rfl rfl (by kernel_rfl) Try.func12 (by kernel_rfl)
    (of_decide_eq_true (by kernel_rfl)) (by unfold Func.isWrapper; first | (rw [if_pos (by decide +kernel)]; kernel_rfl) | (rw [if_neg (by decide +kernel)]; exact ⟨rfl, rfl⟩))
    (fun os started H enc _ => lifted os started H enc)

theorem proved : Rows.VarintGetsSaid := over
end Go.Proofs.Ytbojffednfiegaa.varintGets
