/- SeekTells: of any entries and any identifier the place, what is found, and the pointers, are what the document says, and the law returns true. -/
import Derived.Test.YtppciejcobmikaaEntOpen
import Derived.Test.YtppciejcobmikaaSeekAwake
import Derived.Test.YtppciejcobmikaaEntSame
namespace Go.Proofs.Ytppciejcobmikaa.seekTells
open Go.ChangeShapes Go.WideShapes Go.ChangeAt Go.RowKit
set_option linter.unusedVariables false

set_option maxRecDepth 100000 in
set_option maxHeartbeats 2000000 in
theorem walk (w : World) (A0 : Option Addr) (n0 c0 : Nat) (L0 : List Ent) (hr0 : Reads w w.heap.size 4 A0 n0 (ecells L0)) (hn0 : n0 = L0.length) (hf0 : En.fits L0) (hm0 : n0 * 24 ≤ 140737488355328) (hc0 : n0 ≤ c0) (a1 : Int) (w1 : (Lit.int .u64 a1).wf = true) :
    Calls Try.prog 7 #[.slice A0 n0 c0, .int .u64 a1] w fun e w' => e = .returned (.bool true) ∧ Below w.heap.size w w' := by
  by_cases hg0 : 300 < n0
  · clear hr0 hn0 hf0
    go_enter Try.func7, Try.ntmps7
    go_wp2_with fail
    refine (awake09 _).mono ?_; rintro e w1 ⟨rfl, hb⟩
    go_wp2_with fail
    go_ret
    exact ⟨rfl, hb⟩
  · have HR0 := Lib.hid hr0
    have HN0 := Lib.hid hn0
    have HF0 := Lib.hid hf0
    clear hr0 hn0 hf0
    have hfg := Sk.f_good HF0.out a1
    have hfr : ∀ e, FindR L0 a1 e → e = .returned (.tuple #[.agg #[.int .u64 (Sk.f L0 a1).1, .int .u64 (Sk.f L0 a1).2.1, .int .u32 (Sk.f L0 a1).2.2.1, .int .u32 (Sk.f L0 a1).2.2.2], .bool (Sk.is L0 a1)]) := fun e h => h
    obtain ⟨⟨fi, fo, fl, fr⟩, hF⟩ : ∃ e, e = Sk.f L0 a1 := ⟨_, rfl⟩
    obtain ⟨fb, hB⟩ : ∃ b, b = Sk.is L0 a1 := ⟨_, rfl⟩
    rw [← hF, ← hB] at hfr
    rw [← hF] at hfg
    dsimp only at hfr
    have HFG : Hid (En.fit fi fo fl fr) := Lib.hid hfg
    have HFR := Lib.hid hfr
    have HFE := Lib.hid hF
    have HFB := Lib.hid hB
    clear hfg hfr hF hB
    obtain ⟨id0, id1⟩ := bd_u64 w1
    have hteq : En.teq fi fo fl fr fi fo fl fr = true := (En.teq_iff (fi, fo, fl, fr) (fi, fo, fl, fr)).2 rfl
    have heq := fun w => (eq_rent fi fo fl fr fi fo fl fr w)
    rw [hteq] at heq
    have HEQ := Lib.hid heq
    clear heq hteq
    go_enter Try.func7, Try.ntmps7
    go_wp2_with fail
    refine (own_any _ _ _ L0 _ _ HR0.out HN0.out (Nat.le_refl _) hm0).mono ?_
    intro e w1 h1
    obtain ⟨x, he, hO, hb⟩ := h1
    obtain ⟨Ax, kx, hv, hkx⟩ := own_slice hO
    rw [hv] at he hO
    rw [← HN0.out] at he hO hkx
    subst he
    clear hv
    have HX := Lib.hid hO
    have hw := hb
    clear hb hO
    go_wp2_with fail
    refine (find_any _ _ _ L0 _ _ a1 (Reads.of_own HX.out) HN0.out HF0.out (Nat.le_refl _) (by omega)).mono ?_; rintro e wa ⟨he, hb⟩
    replace he := HFR.out _ he
    subst he
    have HX := Lib.hid (ownsRow_keep HX.out hb)
    have hw := bthen2 hb hw
    clear hb
    go_wp2_with fail
    have HX := Lib.hid (ownsRow_keep HX.out (blk_new wa (.cells #[.int .u64 fi, .int .u64 fo, .int .u32 fl, .int .u32 fr] 26)))
    have H6 := Lib.hid (heap_alloc_new wa (.cells #[.int .u64 fi, .int .u64 fo, .int .u32 fl, .int .u32 fr] 26))
    have hw := bthen2 (blk_new wa (.cells #[.int .u64 fi, .int .u64 fo, .int .u32 fl, .int .u32 fr] 26)) hw
    refine (reffind_any _ _ _ L0 _ _ a1 (HR0.out.below hw) HN0.out HF0.out hw.size (by omega)).mono ?_; rintro e wb ⟨he, hb⟩
    replace he := HFR.out _ he
    subst he
    have HX := Lib.hid (ownsRow_keep HX.out hb)
    have H6 := Lib.hid (blk_keep2 hb H6.out)
    have hw := bthen2 hb hw
    clear hb
    go_wp2_with fail
    have HX := Lib.hid (ownsRow_keep HX.out (blk_new wb (.cells #[.int .u64 fi, .int .u64 fo, .int .u32 fl, .int .u32 fr] 25)))
    have H6 := Lib.hid (blk_alloc H6.out (.cells #[.int .u64 fi, .int .u64 fo, .int .u32 fl, .int .u32 fr] 25))
    have H8 := Lib.hid (heap_alloc_new wb (.cells #[.int .u64 fi, .int .u64 fo, .int .u32 fl, .int .u32 fr] 25))
    have hw := bthen2 (blk_new wb (.cells #[.int .u64 fi, .int .u64 fo, .int .u32 fl, .int .u32 fr] 25)) hw
    refine (place_any _ _ _ L0 _ _ a1 (Reads.of_own HX.out) HN0.out HF0.out (Nat.le_refl _) (by omega)).mono ?_; rintro e wc ⟨he, hb⟩
    subst he
    have HX := Lib.hid (ownsRow_keep HX.out hb)
    have H6 := Lib.hid (blk_keep2 hb H6.out)
    have H8 := Lib.hid (blk_keep2 hb H8.out)
    have hw := bthen2 hb hw
    clear hb
    go_wp2_with fail
    refine (refplace_any _ _ _ L0 _ _ a1 (HR0.out.below hw) HN0.out HF0.out hw.size (by omega)).mono ?_; rintro e wd ⟨he, hb⟩
    subst he
    have HX := Lib.hid (ownsRow_keep HX.out hb)
    have H6 := Lib.hid (blk_keep2 hb H6.out)
    have H8 := Lib.hid (blk_keep2 hb H8.out)
    have hw := bthen2 hb hw
    clear hb
    obtain ⟨c0, c1, c2, c3⟩ := blk_cells4 H6.out
    obtain ⟨d0, d1, d2, d3⟩ := blk_cells4 H8.out
    have heq := HEQ.out
    go_wp2_with fail
    clear heq c0 c1 c2 c3 d0 d1 d2 d3
    refine (leaves_any _ _ _ L0 _ _ (Reads.of_own HX.out) HN0.out (Nat.le_refl _) (by omega)).mono ?_
    intro e we hp
    obtain ⟨v7, he, hO7, hb⟩ := hp
    have hll := Sk.lv_len L0
    rw [← HN0.out] at hll
    obtain ⟨lv, hlv⟩ : ∃ lv, lv = Sk.lv L0 := ⟨_, rfl⟩
    rw [← hlv] at hO7 hll
    have HLV := Lib.hid hlv
    clear hlv
    obtain ⟨A7, k7, hv7, _⟩ := own_slice hO7
    rw [hv7] at hO7
    subst hv7
    subst he
    have H7 := Lib.hid hO7
    have hw := bthen2 hb hw
    clear hb hO7 HX H6 H8
    go_wp2_with fail
    refine (back_any _ _ _ lv _ _ (Reads.of_own H7.out) rfl (Nat.le_refl _) (by omega)).mono ?_
    intro e wf hp
    obtain ⟨v8, he, hO8, hb⟩ := hp
    obtain ⟨A8, k8, hv8, _⟩ := own_slice hO8
    rw [hv8] at hO8
    subst hv8
    subst he
    have H8 := Lib.hid hO8
    have hw := bthen2 hb hw
    clear hb hO8 H7
    go_wp2_with fail
    refine (refleaves_any _ _ _ L0 _ _ (HR0.out.below hw) HN0.out hw.size (by omega)).mono ?_
    intro e wg hp
    obtain ⟨v9, he, hO9, hb⟩ := hp
    rw [← HLV.out] at hO9
    obtain ⟨A9, k9, hv9, _⟩ := own_slice hO9
    rw [hv9] at hO9
    subst hv9
    subst he
    have H9 := Lib.hid hO9
    have H8 := Lib.hid (ownsRow_keep H8.out hb)
    have hw := bthen2 hb hw
    clear hb hO9
    go_wp2_with fail
    refine (refsame_any _ _ _ lv _ _ _ _ lv _ _ (Reads.of_own H8.out) rfl (Nat.le_refl _) (Reads.of_own H9.out) rfl (Nat.le_refl _) (by omega) (by omega)).mono ?_; rintro e wh ⟨he, hb⟩
    rw [show En.sm lv lv = true by simp [En.sm]] at he
    subst he
    have hw := bthen2 hb hw
    clear hb H8 H9
    go_wp2_with fail
    refine (awake09 _).mono ?_; rintro e wi ⟨rfl, hb⟩
    have hw := bthen2 hb hw
    go_wp2_with fail
    go_ret
    exact ⟨rfl, hw⟩

set_option maxRecDepth 100000 in
set_option maxHeartbeats 1000000 in
theorem lifted (os : Os) (started : os.Started) (H : Type) (enc : TypeId × Value → H) :
    ReturnsInHanded {} Try.checked os 7 .any (Rows.seekTellsSpec.pre6 enc Try.prog Try.f7 Rows.seekTellsRow.domain false) (Rows.seekTellsSpec.post enc Try.prog Try.f7 false true false false) := by
  refine returnsInHanded_of_change_sized (C := Try.checked) own_ started (by kernel_rfl) Try.func7
    (ChangeSpec.witness6 (enc := enc) (C := Try.checked) false ⟨#[], #[.slice none 0 0, .int .u64 0], []⟩ 8 (by kernel_rfl) (by kernel_rfl) (by kernel_rfl) (by kernel_rfl)) ?_
  intro W base args ds gs before hval0 hW hcnd hsz0 _
  have hval : ∀ (j : Nat) t v, Try.f7.params[j]? = some t → args[j]? = some v → Value.okWide Try.prog W .any base t v := hval0
  have hW' := hW
  obtain ⟨p, q, hA0, hV, e0, hfz, hnd⟩ := hW
  clear e0 hfz hnd hcnd
  have hA : DataW.TrodAll enc Try.prog W 0 (fun _ => true) true Try.f7.params.toList args.toList ds p := hA0
  have hsz : (DataW.weightsEach Try.prog (Try.f7.params.toList ++ Rows.seekTellsSpec.plain.varTypes Try.prog) (ds ++ gs)).all (· ≤ reachBytes) = true := hsz0
  rw [Try.params7] at hA hval hsz
  obtain ⟨v0, vs0, d0, ds0, p0, q0, hargs, rfl, e0, h0, rr0⟩ := trodAll_cons hA
  obtain ⟨v1, vs1, d1, ds1, p1, q1, rfl, rfl, e1, h1, rr1⟩ := trodAll_cons rr0
  obtain ⟨rfl, rfl, eN⟩ := trodAll_nil rr1
  obtain rfl : args = #[v0, v1] := by cases args; simp_all
  obtain ⟨A0, n0, c0, L0, rfl, hr0, hn0, hf0, hm0, hc0⟩ := open_ents Try.underlying35 Try.underlying25 (by kernel_rfl) (by kernel_rfl) (by kernel_rfl) rfl rfl rfl rfl Try.underlying22 Try.underlying23 (hval 0 35 v0 rfl rfl) h0 (fun elems spare hd => sized_slice hsz (j := 0) rfl (by rw [hd]; rfl) Try.underlying35)
  obtain ⟨a1, rfl, _, _, w1⟩ := open_int Try.underlying22 (hval 1 22 v1 rfl rfl) h1
  refine (walk W A0 n0 c0 L0 hr0 hn0 hf0 hm0 hc0 a1 w1).mono fun e W' ⟨he, hb⟩ => ?_
  subst he
  exact ⟨_, rfl, law_post laid_ (by kernel_rfl) hW' rfl rfl (by kernel_rfl) Try.underlying4 hb⟩

theorem over : Rows.seekTellsRow.holds Try.pinned (OpenSpec.ofChange Rows.seekTellsSpec) :=
  OpenClaim.holds_of_wide 7 Try.f7 rfl rfl rfl rfl rfl rfl rfl ⟨rfl, rfl, rfl, rfl, rfl⟩ rfl rfl rfl rfl rfl (by kernel_rfl) Try.func7 (by kernel_rfl)
    (of_decide_eq_true (by kernel_rfl)) (by unfold Func.isWrapper; first | (rw [if_pos (by decide +kernel)]; kernel_rfl) | (rw [if_neg (by decide +kernel)]; exact ⟨rfl, rfl⟩))
    (fun os started H enc _ => lifted os started H enc)

theorem proved : Rows.SeekTellsSaid := over
end Go.Proofs.Ytppciejcobmikaa.seekTells
