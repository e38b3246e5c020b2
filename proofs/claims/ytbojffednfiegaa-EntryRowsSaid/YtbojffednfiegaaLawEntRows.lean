/- EntryRows: of any two lists of entries the program's Row, Count, Contents, End and Same are the document's, and the law returns true. -/
import Derived.Test.YtbojffednfiegaaEntOpen
import Derived.Test.YtbojffednfiegaaEntAwake
import Derived.Test.YtbojffednfiegaaEntRefRow
import Derived.Test.YtbojffednfiegaaEntRefCons
import Derived.Test.YtbojffednfiegaaEntMany
namespace Go.Proofs.Ytbojffednfiegaa.entryRows
open Go.ChangeShapes Go.WideShapes Go.ChangeAt Go.RowKit
set_option linter.unusedVariables false

set_option maxRecDepth 100000 in
set_option maxHeartbeats 2000000 in
theorem walk (w : World) (A0 : Option Addr) (n0 c0 : Nat) (L0 : List Ent) (hr0 : Reads w w.heap.size 4 A0 n0 (ecells L0)) (hn0 : n0 = L0.length) (hf0 : En.fits L0) (hm0 : n0 * 24 ≤ 140737488355328) (hc0 : n0 ≤ c0) (A1 : Option Addr) (n1 c1 : Nat) (L1 : List Ent) (hr1 : Reads w w.heap.size 4 A1 n1 (ecells L1)) (hn1 : n1 = L1.length) (hf1 : En.fits L1) (hm1 : n1 * 24 ≤ 140737488355328) (hc1 : n1 ≤ c1) (a2 : Int) (w2 : (Lit.int .u16 a2).wf = true) :
    Calls Try.prog 4 #[.slice A0 n0 c0, .slice A1 n1 c1, .int .u16 a2] w fun e w' => e = .returned (.bool true) ∧ Below w.heap.size w w' := by
  by_cases hg0 : 300 < n0
  · clear hr0 hn0 hf0 hr1 hn1 hf1
    go_enter Try.func4, Try.ntmps4
    go_wp2_with fail
    refine (awake07 _).mono ?_; rintro e w1 ⟨rfl, hb⟩
    go_wp2_with fail
    go_ret
    exact ⟨rfl, hb⟩
  · by_cases hg1 : 300 < n1
    · clear hr0 hn0 hf0 hr1 hn1 hf1
      go_enter Try.func4, Try.ntmps4
      go_wp2_with fail
      refine (awake07 _).mono ?_; rintro e w1 ⟨rfl, hb⟩
      go_wp2_with fail
      go_ret
      exact ⟨rfl, hb⟩
    · have HR0 := Lib.hid hr0
      have HN0 := Lib.hid hn0
      have HF0 := Lib.hid hf0
      have HR1 := Lib.hid hr1
      have HN1 := Lib.hid hn1
      have HF1 := Lib.hid hf1
      clear hr0 hn0 hf0 hr1 hn1 hf1
      obtain ⟨d0, d1⟩ := bd_u16 w2
      obtain ⟨i0, hi, iz0, iz1, iz2⟩ := info_parts ent_info
      go_enter Try.func4, Try.ntmps4
      go_wp2_with fail
      refine (own_any _ _ _ L0 _ _ (HR0.out) HN0.out (Nat.le_refl _) hm0).mono ?_
      intro e w1 h1
      obtain ⟨x, he, hO, hb⟩ := h1
      obtain ⟨Ax, kx, hv, hkx⟩ := own_slice hO
      rw [hv] at he hO
      rw [← HN0.out] at he hO hkx
      subst he
      clear hv
      have HX := Lib.hid hO
      have hw := hb
      clear hb hO
      go_wp2_with fail
      refine (own_any _ _ _ L1 _ _ (HR1.out.below hw) HN1.out hw.size hm1).mono ?_
      intro e w1 h1
      obtain ⟨y, he, hO, hb⟩ := h1
      obtain ⟨Ay, ky, hv, hky⟩ := own_slice hO
      rw [hv] at he hO
      rw [← HN1.out] at he hO hky
      subst he
      clear hv
      have HX := Lib.hid (ownsRow_keep HX.out hb)
      have HY := Lib.hid hO
      have hw := bthen2 hb hw
      clear hb hO
      go_wp2_with fail
      refine (row_any _ _ _ L0 _ _ (Reads.of_own HX.out) HN0.out HF0.out (Nat.le_refl _) (by omega)).mono ?_; rintro e w1 ⟨rfl, hb⟩
      have HX := Lib.hid (ownsRow_keep HX.out hb)
      have HY := Lib.hid (ownsRow_keep HY.out hb)
      have hw := bthen2 hb hw
      clear hb
      go_wp2_with fail
      refine (refrow_any _ _ _ L0 _ _ (HR0.out.below hw) HN0.out HF0.out hw.size (by omega)).mono ?_; rintro e w1 ⟨rfl, hb⟩
      have HX := Lib.hid (ownsRow_keep HX.out hb)
      have HY := Lib.hid (ownsRow_keep HY.out hb)
      have hw := bthen2 hb hw
      clear hb
      go_wp2_with fail
      refine (count_any _ _ _ L0 _ _ (Reads.of_own HX.out) HN0.out HF0.out (Nat.le_refl _) (by omega)).mono ?_; rintro e w1 ⟨rfl, hb⟩
      have HX := Lib.hid (ownsRow_keep HX.out hb)
      have HY := Lib.hid (ownsRow_keep HY.out hb)
      have hw := bthen2 hb hw
      clear hb
      go_wp2_with fail
      refine (refcount_any _ _ _ L0 _ _ (HR0.out.below hw) HN0.out HF0.out hw.size (by omega)).mono ?_; rintro e w1 ⟨rfl, hb⟩
      have HX := Lib.hid (ownsRow_keep HX.out hb)
      have HY := Lib.hid (ownsRow_keep HY.out hb)
      have hw := bthen2 hb hw
      clear hb
      go_wp2_with fail
      refine (con_any _ _ _ L0 _ _ (Reads.of_own HX.out) HN0.out HF0.out (Nat.le_refl _) (by omega)).mono ?_; rintro e w1 ⟨rfl, hb⟩
      have HX := Lib.hid (ownsRow_keep HX.out hb)
      have HY := Lib.hid (ownsRow_keep HY.out hb)
      have hw := bthen2 hb hw
      clear hb
      go_wp2_with fail
      refine (refcon_any _ _ _ L0 _ _ (HR0.out.below hw) HN0.out HF0.out hw.size (by omega)).mono ?_; rintro e w1 ⟨rfl, hb⟩
      have HX := Lib.hid (ownsRow_keep HX.out hb)
      have HY := Lib.hid (ownsRow_keep HY.out hb)
      have hw := bthen2 hb hw
      clear hb
      go_wp2_with fail
      refine (fin_any _ _ _ L0 _ _ (Reads.of_own HX.out) HN0.out HF0.out (Nat.le_refl _) (by omega)).mono ?_; rintro e w1 ⟨rfl, hb⟩
      have HX := Lib.hid (ownsRow_keep HX.out hb)
      have HY := Lib.hid (ownsRow_keep HY.out hb)
      have hw := bthen2 hb hw
      clear hb
      go_wp2_with fail
      refine (reffin_any _ _ _ L0 _ _ (HR0.out.below hw) HN0.out HF0.out hw.size (by omega)).mono ?_; rintro e w1 ⟨rfl, hb⟩
      have HX := Lib.hid (ownsRow_keep HX.out hb)
      have HY := Lib.hid (ownsRow_keep HY.out hb)
      have hw := bthen2 hb hw
      clear hb
      go_wp2_with fail
      refine (same_any _ _ _ L0 _ _ _ _ L1 _ _ (Reads.of_own HX.out) HN0.out (Nat.le_refl _) (Reads.of_own HY.out) HN1.out (Nat.le_refl _) (by omega) (by omega)).mono ?_; rintro e w1 ⟨rfl, hb⟩
      have HX := Lib.hid (ownsRow_keep HX.out hb)
      have HY := Lib.hid (ownsRow_keep HY.out hb)
      have hw := bthen2 hb hw
      clear hb
      go_wp2_with fail
      refine (refsame_any _ _ _ L0 _ _ _ _ L1 _ _ (HR0.out.below hw) HN0.out hw.size (HR1.out.below hw) HN1.out hw.size (by omega) (by omega)).mono ?_; rintro e w1 ⟨rfl, hb⟩
      have HX := Lib.hid (ownsRow_keep HX.out hb)
      have HY := Lib.hid (ownsRow_keep HY.out hb)
      have hw := bthen2 hb hw
      clear hb
      go_wp2_with fail
      clear HX HY
      obtain ⟨wo, hwo⟩ : ∃ wo : World, wo = w1 := ⟨_, rfl⟩
      rw [← hwo] at hw ⊢
      clear hwo
      go_loopw [9, 10] (fun cv ci wr => ∃ k : Nat, (k : Int) ≤ a2 % 4101 ∧ ci = .int .i64 k ∧ Hid (wr.ownsRow w.heap.size 26 4 cv k (ecells (En.mk 0 k))) ∧ Below w.heap.size w wr) (fun _ ci _ => (a2 % 4101 - intOf ci).toNat)
      case atStart => exact ⟨0, by omega, rfl, Lib.hid (World.ownsRow_nil _ _ _ _), hw⟩
      case round =>
        obtain ⟨k, hk, rfl, hT, hbl⟩ := hrel
        clear hw
        by_cases hlt : (k : Int) < a2 % 4101
        · have hlt2 := hT.out.lt
          go_wp2_with (at_builtin; go_must (refine wpList_append_own _ rfl (.tmp 67) (.tmp 71) _ rfl w.heap.size 26 i0 _ 4 24 Try.underlying37 hi iz0 iz1 iz2 rfl (by omega) _ k (ecells (En.mk 0 k)) rfl (hT.out.alloc _) ⟨wr.heap.size, 0, none⟩ 1 1 [.int .u64 k, .int .u64 0, .int .u32 1, .int .u32 1] rfl rfl ?c1 ?c2 ?c3 ?c4 ?c5 ?_))
          case c1 => exact blk_news4 (heap_alloc_new wr _)
          case c2 => intro u hu; simp at hu; rcases hu with rfl | rfl | rfl | rfl <;> rfl
          case c3 => simp only [maxLen]; omega
          case c4 => omega
          case c5 => have := hbl.size; simp; omega
          intro v' w3 hown3 hgrow3 _
          have hS : w.heap.size ≤ wr.heap.size := hbl.size
          have hb3 : Below w.heap.size w w3 := (hbl.alloc hS _).grown hgrow3 (by simp; omega) (fun g hg => (hlt2 g hg).1)
          have hT3 : Hid (w3.ownsRow w.heap.size 26 4 v' (k + 1) (ecells (En.mk 0 (k + 1)))) := Lib.hid (by rw [En.mk_snoc, ecells_append, Nat.zero_add]; exact hown3)
          clear hown3 hgrow3 hlt2
          go_wp2_with fail
          exact ⟨⟨k + 1, by omega, by go_num, hT3, hb3⟩, by simp [intOf]; omega⟩
        · obtain ⟨Av, kv, hv, hkv⟩ := own_slice hT.out
          subst hv
          have hkb : k ≤ 4100 := by omega
          have hLn := Lib.hid (En.mk_len k 0)
          have hLf := Lib.hid (En.mk_fits k 0 (by omega))
          have hrow := En.mk_row k (by omega)
          have hcnt := En.mk_cnt k (by omega)
          have hck : IntKind.u64.wrap (k : Int) = k := u64w (by omega) (by omega)
          by_cases hbig : 4096 < k
          all_goals
            first | rw [if_pos hbig] at hrow | rw [if_neg hbig] at hrow
            go_wp2_with fail
            refine (row_any _ _ _ (En.mk 0 k) _ _ (Reads.of_own hT.out) hLn.out.symm hLf.out (Nat.le_refl _) (by omega)).mono ?_; rintro e w1 ⟨rfl, hb⟩
            have HM := Lib.hid (ownsRow_keep hT.out hb)
            have hw := bthen2 hb hbl
            clear hb
            go_wp2_with fail
            refine (count_any _ _ _ (En.mk 0 k) _ _ (Reads.of_own HM.out) hLn.out.symm hLf.out (Nat.le_refl _) (by omega)).mono ?_; rintro e w1 ⟨rfl, hb⟩
            have hw := bthen2 hb hw
            clear hb
            go_wp2_with fail
            refine (awake07 _).mono ?_; rintro e w1 ⟨rfl, hb⟩
            have hw := bthen2 hb hw
            go_wp2_with fail
            go_ret
            exact ⟨rfl, hw⟩

set_option maxRecDepth 100000 in
set_option maxHeartbeats 1000000 in
theorem lifted (os : Os) (started : os.Started) (H : Type) (enc : TypeId × Value → H) :
    ReturnsInHanded {} Try.checked os 4 .any (Rows.entryRowsSpec.pre6 enc Try.prog Try.f4 Rows.entryRowsRow.domain false) (Rows.entryRowsSpec.post enc Try.prog Try.f4 false true false false) := by
  refine returnsInHanded_of_change_sized (C := Try.checked) own_ started (by kernel_rfl) Try.func4
    (ChangeSpec.witness6 (enc := enc) (C := Try.checked) false ⟨#[], #[.slice none 0 0, .slice none 0 0, .int .u16 0], []⟩ 8 (by kernel_rfl) (by kernel_rfl) (by kernel_rfl) (by kernel_rfl)) ?_
  intro W base args ds gs before hval0 hW hcnd hsz0 _
  have hval : ∀ (j : Nat) t v, Try.f4.params[j]? = some t → args[j]? = some v → Value.okWide Try.prog W .any base t v := hval0
  have hW' := hW
  obtain ⟨p, q, hA0, hV, e0, hfz, hnd⟩ := hW
  clear e0 hfz hnd hcnd
  have hA : DataW.TrodAll enc Try.prog W 0 (fun _ => true) true Try.f4.params.toList args.toList ds p := hA0
  have hsz : (DataW.weightsEach Try.prog (Try.f4.params.toList ++ Rows.entryRowsSpec.plain.varTypes Try.prog) (ds ++ gs)).all (· ≤ reachBytes) = true := hsz0
  rw [Try.params4] at hA hval hsz
  obtain ⟨v0, vs0, d0, ds0, p0, q0, hargs, rfl, e0, h0, rr0⟩ := trodAll_cons hA
  obtain ⟨v1, vs1, d1, ds1, p1, q1, rfl, rfl, e1, h1, rr1⟩ := trodAll_cons rr0
  obtain ⟨v2, vs2, d2, ds2, p2, q2, rfl, rfl, e2, h2, rr2⟩ := trodAll_cons rr1
  obtain ⟨rfl, rfl, eN⟩ := trodAll_nil rr2
  obtain rfl : args = #[v0, v1, v2] := by cases args; simp_all
  obtain ⟨A0, n0, c0, L0, rfl, hr0, hn0, hf0, hm0, hc0⟩ := open_ents Try.underlying35 Try.underlying25 (by kernel_rfl) (by kernel_rfl) (by kernel_rfl) rfl rfl rfl rfl Try.underlying22 Try.underlying23 (hval 0 35 v0 rfl rfl) h0 (fun elems spare hd => sized_slice hsz (j := 0) rfl (by rw [hd]; rfl) Try.underlying35)
  obtain ⟨A1, n1, c1, L1, rfl, hr1, hn1, hf1, hm1, hc1⟩ := open_ents Try.underlying35 Try.underlying25 (by kernel_rfl) (by kernel_rfl) (by kernel_rfl) rfl rfl rfl rfl Try.underlying22 Try.underlying23 (hval 1 35 v1 rfl rfl) h1 (fun elems spare hd => sized_slice hsz (j := 1) rfl (by rw [hd]; rfl) Try.underlying35)
  obtain ⟨a2, rfl, _, _, w2⟩ := open_int Try.underlying36 (hval 2 36 v2 rfl rfl) h2
  refine (walk W A0 n0 c0 L0 hr0 hn0 hf0 hm0 hc0 A1 n1 c1 L1 hr1 hn1 hf1 hm1 hc1 a2 w2).mono fun e W' ⟨he, hb⟩ => ?_
  subst he
  exact ⟨_, rfl, law_post laid_ (by kernel_rfl) hW' rfl rfl (by kernel_rfl) Try.underlying4 hb⟩

theorem over : Rows.entryRowsRow.holds Try.pinned (OpenSpec.ofChange Rows.entryRowsSpec) :=
  OpenClaim.holds_of_wide 4 Try.f4 rfl rfl rfl rfl rfl rfl rfl ⟨rfl, rfl, rfl, rfl, rfl⟩ rfl rfl rfl rfl rfl (by kernel_rfl) Try.func4 (by kernel_rfl)
    (of_decide_eq_true (by kernel_rfl)) (by unfold Func.isWrapper; first | (rw [if_pos (by decide +kernel)]; kernel_rfl) | (rw [if_neg (by decide +kernel)]; exact ⟨rfl, rfl⟩))
    (fun os started H enc _ => lifted os started H enc)

theorem proved : Rows.EntryRowsSaid := over
end Go.Proofs.Ytbojffednfiegaa.entryRows
