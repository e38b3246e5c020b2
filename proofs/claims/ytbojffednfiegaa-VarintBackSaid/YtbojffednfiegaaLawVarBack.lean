/- VarintBack: what is laid is taken off again, whatever stands ahead, and one more is not there; and the law returns true. -/
import Derived.Test.YtbojffednfiegaaVarOpen
import Derived.Test.YtbojffednfiegaaVarAwake
import Derived.Test.YtbojffednfiegaaVarRound
import Derived.Test.YtbojffednfiegaaVarSame
namespace Go.Proofs.Ytbojffednfiegaa.varintBack
open Go.ChangeShapes Go.WideShapes Go.ChangeAt Go.RowKit
set_option linter.unusedVariables false

set_option maxRecDepth 100000 in
set_option maxHeartbeats 2000000 in
theorem walk (w : World) (A0 : Option Addr) (n0 c0 : Nat) (L0 : List Int) (hr0 : Reads w w.heap.size 1 A0 n0 (L0.map (Value.int .u64))) (hn0 : n0 = L0.length) (hf0 : ∀ x ∈ L0, 0 ≤ x ∧ x < 18446744073709551616) (hm0 : n0 * 8 ≤ 140737488355328) (hc0 : n0 ≤ c0) (s1 : ByteArray) (h1s : s1.size ≤ 140737488355328) :
    Calls Try.prog 13 #[.slice A0 n0 c0, .string s1] w fun e w' => e = .returned (.bool true) ∧ Below w.heap.size w w' := by
  have hm0' : n0 ≤ 17592186044416 := by omega
  by_cases hbig : 100 < n0
  · go_enter Try.func13, Try.ntmps13
    go_wp2_with fail
    refine (awake02 _).mono ?_; rintro e w1 ⟨rfl, hb⟩
    go_wp2_with fail
    go_ret
    exact ⟨rfl, hb⟩
  · by_cases hbs : 50 < s1.size
    · go_enter Try.func13, Try.ntmps13
      go_wp2_with fail
      refine (awake02 _).mono ?_; rintro e w1 ⟨rfl, hb⟩
      go_wp2_with fail
      go_ret
      exact ⟨rfl, hb⟩
    · obtain ⟨T, hT⟩ : ∃ T, T = s1 ++ strOfNums (Vi.all L0) := ⟨_, rfl⟩
      obtain ⟨⟨x0, x1, x2⟩, ⟨y0, y1, y2⟩, hz⟩ := Vi.round s1 L0 hf0 (by omega) T hT
      have hal := Vi.all_len L0
      have hTs : T.size ≤ 10000 := by omega
      rw [← hn0] at x0 x1 x2 y0 y1 y2
      have HK : Hid (∀ w, Calls Try.prog 52 #[Sc T s1.size 0, .int .i64 n0] w (TkPost L0 T T.size 0 w)) := Lib.hid (fun w => by have h := take_any T s1.size 0 n0 (by omega) w; rwa [x0, x1, x2] at h)
      have HK1 : Hid (∀ w, Calls Try.prog 52 #[Sc T s1.size 0, .int .i64 ((n0 : Int) + 1)] w (TkPost [] T T.size 3 w)) := Lib.hid (fun w => by have h := take_any T s1.size 0 ((n0 : Int) + 1) (by omega) w; rwa [y0, y1, y2] at h)
      obtain ⟨q, hq, hq1⟩ : ∃ q, (strOfNums (Vi.all L0)).size = q ∧ q ≤ 1000 := ⟨_, rfl, by rw [strOfNums_size]; omega⟩
      have hT' : s1 ++ strOfNums (Vi.all L0) = T := hT.symm
      have hsm : Vi.sm L0 L0 = true := decide_eq_true rfl
      have HR := Lib.hid hr0
      have HN := Lib.hid hn0
      have HF := Lib.hid hf0
      clear x0 x1 x2 y0 y1 y2 hz hal hr0 hn0 hf0 hT
      go_enter Try.func13, Try.ntmps13
      go_wp2_with fail
      refine (all_any A0 n0 c0 L0 w.heap.size _ HR.out HN.out HF.out (Nat.le_refl _) (by omega)).mono ?_
      intro e w1 hp
      obtain ⟨v, he, hR, hw⟩ := hp
      subst he
      obtain ⟨Ab, kb, hv, _⟩ := hR.slice
      rw [hv] at hR
      have hstr := hR.str
      subst hv
      clear hR
      go_wp2_with fail
      have HA := Lib.hid (heap_alloc_new w1 (.cells #[.string T, .int .i64 s1.size, .int .i64 0] 73))
      have hw : Below w.heap.size w (w1.alloc (.cells #[.string T, .int .i64 s1.size, .int .i64 0] 73)) := hw.alloc hw.size _
      refine (HK.out _).mono ?_
      intro e w2 hp
      obtain ⟨v, he, hR, hb⟩ := hp
      subst he
      have HR2 := Lib.hid hR
      obtain ⟨Ac, kc, hv, _⟩ := row64_slice hR
      clear hR hstr
      rw [hv] at HR2
      subst hv
      have hw := bthen2 hb hw
      have HA := Lib.hid (blk_keep2 hb HA.out)
      obtain ⟨⟨a0, a1, a2⟩, _⟩ := blk_cells3 HA.out
      clear hb
      go_wp2_with fail
      have HB := Lib.hid (heap_alloc_new w2 (.cells #[.string T, .int .i64 T.size, .int .i64 0] 73))
      have hw : Below w.heap.size w (w2.alloc (.cells #[.string T, .int .i64 T.size, .int .i64 0] 73)) := hw.alloc hw.size _
      have HA := Lib.hid (blk_keep2 (blk_new w2 (.cells #[.string T, .int .i64 T.size, .int .i64 0] 73)) HA.out)
      have HR2 := Lib.hid (World.ownsRow.alloc HR2.out (.cells #[.string T, .int .i64 T.size, .int .i64 0] 73))
      refine (same64_any A0 n0 c0 L0 w.heap.size Ac L0.length kc L0 _ _ (HR.out.below hw) HN.out hw.size (Reads.of_own HR2.out) rfl (Nat.le_refl _) (by omega) (by have := HN.out; omega)).mono ?_
      rintro e w3 ⟨rfl, hb⟩
      have hw := bthen2 hb hw
      have HA := Lib.hid (blk_keep2 hb HA.out)
      have HB := Lib.hid (blk_keep2 hb HB.out)
      obtain ⟨⟨a0, a1, a2⟩, _⟩ := blk_cells3 HA.out
      obtain ⟨⟨b0, b1, b2⟩, _⟩ := blk_cells3 HB.out
      clear hb
      go_wp2_with fail
      refine (scend_any T _).mono ?_
      rintro e w4 ⟨rfl, hb⟩
      have hw := bthen2 hb hw
      have HA := Lib.hid (blk_keep2 hb HA.out)
      obtain ⟨⟨a0, a1, a2⟩, _⟩ := blk_cells3 HA.out
      clear hb
      go_wp2_with fail
      refine (HK1.out _).mono ?_
      intro e w5 hp
      obtain ⟨v, he, hR, hb⟩ := hp
      subst he
      obtain ⟨Ad, kd, hv, _⟩ := row64_slice hR
      clear hR
      subst hv
      have hw := bthen2 hb hw
      have HA := Lib.hid (blk_keep2 hb HA.out)
      obtain ⟨⟨a0, a1, a2⟩, _⟩ := blk_cells3 HA.out
      clear hb
      have HA := Lib.hid (blk_keep2 (blk_new w5 (.cells #[.string T, .int .i64 T.size, .int .i64 3] 73)) HA.out)
      obtain ⟨⟨k0, k1, k2⟩, _⟩ := blk_cells3 HA.out
      go_wp2_with fail
      have hw : Below w.heap.size w (w5.alloc (.cells #[.string T, .int .i64 T.size, .int .i64 3] 73)) := hw.alloc hw.size _
      refine (awake02 _).mono ?_; rintro e w9 ⟨rfl, hb⟩
      have hw := bthen2 hb hw
      go_wp2_with fail
      go_ret
      exact ⟨rfl, hw⟩

set_option maxRecDepth 100000 in
set_option maxHeartbeats 1000000 in
theorem lifted (os : Os) (started : os.Started) (H : Type) (enc : TypeId × Value → H) :
    ReturnsInHanded {} Try.checked os 13 .any (Rows.varintBackSpec.pre6 enc Try.prog Try.f13 Rows.varintBackRow.domain false) (Rows.varintBackSpec.post enc Try.prog Try.f13 false true false false) := by
  refine returnsInHanded_of_change_sized (C := Try.checked) own_ started (by kernel_rfl) Try.func13
    (ChangeSpec.witness6 (enc := enc) (C := Try.checked) false ⟨#[], #[.slice none 0 0, .string ByteArray.empty], []⟩ 8 (by kernel_rfl) (by kernel_rfl) (by kernel_rfl) (by kernel_rfl)) ?_
  intro W base args ds gs before hval0 hW hcnd hsz0 _
  have hval : ∀ (j : Nat) t v, Try.f13.params[j]? = some t → args[j]? = some v → Value.okWide Try.prog W .any base t v := hval0
  have hW' := hW
  obtain ⟨p, q, hA0, hV, e0, hfz, hnd⟩ := hW
  clear e0 hfz hnd hcnd
  have hA : DataW.TrodAll enc Try.prog W 0 (fun _ => true) true Try.f13.params.toList args.toList ds p := hA0
  have hsz : (DataW.weightsEach Try.prog (Try.f13.params.toList ++ Rows.varintBackSpec.plain.varTypes Try.prog) (ds ++ gs)).all (· ≤ reachBytes) = true := hsz0
  rw [Try.params13] at hA hval hsz
  obtain ⟨v0, vs0, d0, ds0, p0, q0, hargs, rfl, e0, h0, rr0⟩ := trodAll_cons hA
  obtain ⟨v1, vs1, d1, ds1, p1, q1, rfl, rfl, e1, h1, rr1⟩ := trodAll_cons rr0
  obtain ⟨rfl, rfl, eN⟩ := trodAll_nil rr1
  obtain rfl : args = #[v0, v1] := by cases args; simp_all
  obtain ⟨A0, n0, c0, L0, rfl, hr0, hn0, hf0, hm0, hc0⟩ := open_u64s Try.underlying63 Try.underlying22 (by kernel_rfl) (by kernel_rfl) (hval 0 63 v0 rfl rfl) h0 (fun elems spare hd => sized_slice hsz (j := 0) rfl (by rw [hd]; rfl) Try.underlying63)
  obtain ⟨s1, rfl, k1, _, h1s0⟩ := Go.ChangeMaps.open_string Try.underlying9 (hval 1 9 v1 rfl rfl) h1
  have h1s := small_string hsz (j := 1) rfl (by rw [k1]; rfl)
  refine (walk W A0 n0 c0 L0 hr0 hn0 hf0 hm0 hc0 s1 h1s).mono fun e W' ⟨he, hb⟩ => ?_
  subst he
  exact ⟨_, rfl, law_post laid_ (by kernel_rfl) hW' rfl rfl (by kernel_rfl) Try.underlying4 hb⟩

theorem over : Rows.varintBackRow.holds Try.pinned (OpenSpec.ofChange Rows.varintBackSpec) :=
  OpenClaim.holds_of_wide 13 Try.f13 rfl rfl rfl rfl rfl rfl rfl ⟨rfl, rfl, rfl, rfl, rfl⟩ rfl rfl rfl rfl rfl (by kernel_rfl) Try.func13 (by kernel_rfl)
    (of_decide_eq_true (by kernel_rfl)) (by unfold Func.isWrapper; first | (rw [if_pos (by decide +kernel)]; kernel_rfl) | (rw [if_neg (by decide +kernel)]; exact ⟨rfl, rfl⟩))
    (fun os started H enc _ => lifted os started H enc)

theorem proved : Rows.VarintBackSaid := over
end Go.Proofs.Ytbojffednfiegaa.varintBack
