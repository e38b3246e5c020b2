/- EntryParts: of two lists of entries together the program tells as many tiles as of both, no more contents, the greater end, and the law returns true. -/
import Derived.Test.YtbojffednfiegaaEntOpen
import Derived.Test.YtbojffednfiegaaEntAwake
import Derived.Test.YtbojffednfiegaaEntApp
namespace Go.Proofs.Ytbojffednfiegaa.entryParts
open Go.ChangeShapes Go.WideShapes Go.ChangeAt Go.RowKit
set_option linter.unusedVariables false

set_option maxRecDepth 100000 in
set_option maxHeartbeats 2000000 in
theorem walk (w : World) (A0 : Option Addr) (n0 c0 : Nat) (L0 : List Ent) (hr0 : Reads w w.heap.size 4 A0 n0 (ecells L0)) (hn0 : n0 = L0.length) (hf0 : En.fits L0) (hm0 : n0 * 24 ≤ 140737488355328) (hc0 : n0 ≤ c0) (A1 : Option Addr) (n1 c1 : Nat) (L1 : List Ent) (hr1 : Reads w w.heap.size 4 A1 n1 (ecells L1)) (hn1 : n1 = L1.length) (hf1 : En.fits L1) (hm1 : n1 * 24 ≤ 140737488355328) (hc1 : n1 ≤ c1) :
    Calls Try.prog 6 #[.slice A0 n0 c0, .slice A1 n1 c1] w fun e w' => e = .returned (.bool true) ∧ Below w.heap.size w w' := by
  by_cases hg0 : 100 < n0
  · clear hr0 hn0 hf0 hr1 hn1 hf1
    go_enter Try.func6, Try.ntmps6
    go_wp2_with fail
    refine (awake07 _).mono ?_; rintro e w1 ⟨rfl, hb⟩
    go_wp2_with fail
    go_ret
    exact ⟨rfl, hb⟩
  · by_cases hg1 : 100 < n1
    · clear hr0 hn0 hf0 hr1 hn1 hf1
      go_enter Try.func6, Try.ntmps6
      go_wp2_with fail
      refine (awake07 _).mono ?_; rintro e w1 ⟨rfl, hb⟩
      go_wp2_with fail
      go_ret
      exact ⟨rfl, hb⟩
    · have HR0 := Lib.hid hr0
      have HN0 := Lib.hid hn0
      have HF0 := Lib.hid hf0
      have HR1 := Lib.hid hr1
      have HN1 := Lib.hid hn1
      have HF1 := Lib.hid hf1
      clear hr0 hn0 hf0 hr1 hn1 hf1
      obtain ⟨i0, hi, iz0, iz1, iz2⟩ := info_parts ent_info
      have g1 := En.cnt_app L0 L1
      have g2 := En.cnt_bd L0 HF0.out
      have g3 := En.cnt_bd L1 HF1.out
      have f1 := En.con_sum L0 L1
      have f2 := En.con_left L0 L1
      have f3 := En.con_right L0 L1
      have f4 : En.con (L0 ++ (L1 ++ L0)) = En.con (L0 ++ L1) := by rw [← List.append_assoc]; exact En.con_again L0 L1
      have f5 := En.con_bd L0
      have f6 := En.con_bd L1
      have f7 := En.con_bd (L0 ++ L1)
      have hx := En.fin_max L0 L1
      have HZN : Hid (n0 + n1 = (L0 ++ L1).length) := Lib.hid (by rw [List.length_append, ← HN0.out, ← HN1.out])
      have HUN : Hid (n0 + n1 + n0 = ((L0 ++ L1) ++ L0).length) := Lib.hid (by rw [List.length_append, ← HN0.out, ← HZN.out])
      have HZF := Lib.hid (En.fits_app HF0.out HF1.out)
      have HUF := Lib.hid (En.fits_app HZF.out HF0.out)
      rw [← HN0.out] at g2 f5
      rw [← HN1.out] at g3 f6
      rw [← HZN.out] at f7
      by_cases hmx : En.fin L0 < En.fin L1
      all_goals
        first | rw [if_pos hmx] at hx | rw [if_neg hmx] at hx
        go_enter Try.func6, Try.ntmps6
        go_wp2_with fail
        refine (own_any _ _ _ L0 _ _ (HR0.out) HN0.out (Nat.le_refl _) hm0).mono ?_
        intro e w1 h1
        obtain ⟨x, he, hO, hb⟩ := h1
        obtain ⟨Ax, kx, hv, hkx⟩ := own_slice hO
        rw [hv] at he hO
        rw [← HN0.out] at he hO hkx
        subst he
        clear hv
        have HX := Lib.hid hO
        have hw := hb
        clear hb hO
        go_wp2_with fail
        refine (own_any _ _ _ L1 _ _ (HR1.out.below hw) HN1.out hw.size hm1).mono ?_
        intro e w1 h1
        obtain ⟨y, he, hO, hb⟩ := h1
        obtain ⟨Ay, ky, hv, hky⟩ := own_slice hO
        rw [hv] at he hO
        rw [← HN1.out] at he hO hky
        subst he
        clear hv
        have HX := Lib.hid (ownsRow_keep HX.out hb)
        have HY := Lib.hid hO
        have hw := bthen2 hb hw
        clear hb hO
        have HQ1 := Lib.hid (Reads.of_own HX.out)
        have HQ2 := Lib.hid (Reads.of_own HY.out)
        obtain ⟨wq, hwq⟩ : ∃ wq : World, wq = w1 := ⟨_, rfl⟩
        rw [← hwq] at HQ1 HQ2 hw HX HY ⊢
        clear hwq
        have HL := Lib.hid (World.ownsRow_lit (base := wq.heap.size) (e := 26) (size := 4) wq #[] 0 (Nat.le_refl _) (by simp [maxLen]) rfl)
        go_wp2_with (at_builtin; go_must (refine wpList_append_any _ rfl (.tmp 22) (.tmp 23) _ rfl wq.heap.size 26 i0 _ 4 24 Try.underlying37 hi iz0 iz1 iz2 rfl (by omega) (.slice (some ⟨wq.heap.size, 0, none⟩) 0 0) 0 [] rfl HL.out wq.heap.size Ax n0 kx (ecells L0) rfl (HQ1.out.alloc (Nat.le_refl _) _) (ecells_one _) ?za1 ?za2 ?za3 ?_))
        case za1 => simp only [maxLen]; omega
        case za2 => omega
        case za3 => simp
        intro v3 w3 hown3 hgr3 hat3
        have hb3 : Below wq.heap.size wq w3 := grown_below (blk_new _ _) (by simp) hgr3 HL.out (Nat.le_refl _)
        have HO3 : Hid (w3.ownsRow wq.heap.size 26 4 v3 n0 (ecells L0)) := Lib.hid (by simpa using hown3)
        clear hown3 hgr3 hat3
        go_wp2_with (at_builtin; go_must (refine wpList_append_any _ rfl (.tmp 24) (.tmp 25) _ rfl wq.heap.size 26 i0 _ 4 24 Try.underlying37 hi iz0 iz1 iz2 rfl (by omega) v3 n0 (ecells L0) rfl HO3.out wq.heap.size Ay n1 ky (ecells L1) rfl (HQ2.out.below hb3) (ecells_one _) ?zb1 ?zb2 ?zb3 ?_))
        case zb1 => simp only [maxLen]; omega
        case zb2 => omega
        case zb3 => exact hb3.size
        intro v4 w4 hown4 hgr4 hat4
        have hb4 : Below wq.heap.size wq w4 := grown_below hb3 hb3.size hgr4 HO3.out (Nat.le_refl _)
        obtain ⟨Aw, kw, hv4, hkw⟩ := own_slice hown4
        rw [hv4, ← ecells_append] at hown4
        subst hv4
        have HW := Lib.hid hown4
        have hw := bthen2 hb4 hw
        clear hown4 hgr4 hat4 HO3 HL HQ1 HQ2 hb3 hkw
        have HZ := HW
        have HX := Lib.hid (ownsRow_keep HX.out hb4)
        have HY := Lib.hid (ownsRow_keep HY.out hb4)
        clear HW hb4
        go_wp2_with fail
        refine (con_any _ _ _ (L0 ++ L1) _ _ (Reads.of_own HZ.out) HZN.out HZF.out (Nat.le_refl _) (by omega)).mono ?_; rintro e w1 ⟨rfl, hb⟩
        have HX := Lib.hid (ownsRow_keep HX.out hb)
        have HY := Lib.hid (ownsRow_keep HY.out hb)
        have HZ := Lib.hid (ownsRow_keep HZ.out hb)
        have hw := bthen2 hb hw
        clear hb
        go_wp2_with fail
        refine (count_any _ _ _ (L0 ++ L1) _ _ (Reads.of_own HZ.out) HZN.out HZF.out (Nat.le_refl _) (by omega)).mono ?_; rintro e w1 ⟨rfl, hb⟩
        have HX := Lib.hid (ownsRow_keep HX.out hb)
        have HY := Lib.hid (ownsRow_keep HY.out hb)
        have HZ := Lib.hid (ownsRow_keep HZ.out hb)
        have hw := bthen2 hb hw
        clear hb
        go_wp2_with fail
        refine (count_any _ _ _ L0 _ _ (Reads.of_own HX.out) HN0.out HF0.out (Nat.le_refl _) (by omega)).mono ?_; rintro e w1 ⟨rfl, hb⟩
        have HX := Lib.hid (ownsRow_keep HX.out hb)
        have HY := Lib.hid (ownsRow_keep HY.out hb)
        have HZ := Lib.hid (ownsRow_keep HZ.out hb)
        have hw := bthen2 hb hw
        clear hb
        go_wp2_with fail
        refine (count_any _ _ _ L1 _ _ (Reads.of_own HY.out) HN1.out HF1.out (Nat.le_refl _) (by omega)).mono ?_; rintro e w1 ⟨rfl, hb⟩
        have HX := Lib.hid (ownsRow_keep HX.out hb)
        have HY := Lib.hid (ownsRow_keep HY.out hb)
        have HZ := Lib.hid (ownsRow_keep HZ.out hb)
        have hw := bthen2 hb hw
        clear hb
        go_wp2_with fail
        refine (fin_any _ _ _ (L0 ++ L1) _ _ (Reads.of_own HZ.out) HZN.out HZF.out (Nat.le_refl _) (by omega)).mono ?_; rintro e w1 ⟨rfl, hb⟩
        have HX := Lib.hid (ownsRow_keep HX.out hb)
        have HY := Lib.hid (ownsRow_keep HY.out hb)
        have HZ := Lib.hid (ownsRow_keep HZ.out hb)
        have hw := bthen2 hb hw
        clear hb
        go_wp2_with fail
        refine (fin_any _ _ _ L0 _ _ (Reads.of_own HX.out) HN0.out HF0.out (Nat.le_refl _) (by omega)).mono ?_; rintro e w1 ⟨rfl, hb⟩
        have HX := Lib.hid (ownsRow_keep HX.out hb)
        have HY := Lib.hid (ownsRow_keep HY.out hb)
        have HZ := Lib.hid (ownsRow_keep HZ.out hb)
        have hw := bthen2 hb hw
        clear hb
        go_wp2_with fail
        refine (fin_any _ _ _ L1 _ _ (Reads.of_own HY.out) HN1.out HF1.out (Nat.le_refl _) (by omega)).mono ?_; rintro e w1 ⟨rfl, hb⟩
        have HX := Lib.hid (ownsRow_keep HX.out hb)
        have HY := Lib.hid (ownsRow_keep HY.out hb)
        have HZ := Lib.hid (ownsRow_keep HZ.out hb)
        have hw := bthen2 hb hw
        clear hb
        go_wp2_with fail
        refine (con_any _ _ _ L0 _ _ (Reads.of_own HX.out) HN0.out HF0.out (Nat.le_refl _) (by omega)).mono ?_; rintro e w1 ⟨rfl, hb⟩
        have HX := Lib.hid (ownsRow_keep HX.out hb)
        have HY := Lib.hid (ownsRow_keep HY.out hb)
        have HZ := Lib.hid (ownsRow_keep HZ.out hb)
        have hw := bthen2 hb hw
        clear hb
        go_wp2_with fail
        refine (con_any _ _ _ L1 _ _ (Reads.of_own HY.out) HN1.out HF1.out (Nat.le_refl _) (by omega)).mono ?_; rintro e w1 ⟨rfl, hb⟩
        have HX := Lib.hid (ownsRow_keep HX.out hb)
        have HY := Lib.hid (ownsRow_keep HY.out hb)
        have HZ := Lib.hid (ownsRow_keep HZ.out hb)
        have hw := bthen2 hb hw
        clear hb
        go_wp2_with fail
        refine (con_any _ _ _ L0 _ _ (Reads.of_own HX.out) HN0.out HF0.out (Nat.le_refl _) (by omega)).mono ?_; rintro e w1 ⟨rfl, hb⟩
        have HX := Lib.hid (ownsRow_keep HX.out hb)
        have HY := Lib.hid (ownsRow_keep HY.out hb)
        have HZ := Lib.hid (ownsRow_keep HZ.out hb)
        have hw := bthen2 hb hw
        clear hb
        go_wp2_with fail
        refine (con_any _ _ _ L1 _ _ (Reads.of_own HY.out) HN1.out HF1.out (Nat.le_refl _) (by omega)).mono ?_; rintro e w1 ⟨rfl, hb⟩
        have HX := Lib.hid (ownsRow_keep HX.out hb)
        have HY := Lib.hid (ownsRow_keep HY.out hb)
        have HZ := Lib.hid (ownsRow_keep HZ.out hb)
        have hw := bthen2 hb hw
        clear hb
        have HQ1 := Lib.hid (Reads.of_own HZ.out)
        have HQ2 := Lib.hid (Reads.of_own HX.out)
        obtain ⟨wq, hwq⟩ : ∃ wq : World, wq = w1 := ⟨_, rfl⟩
        rw [← hwq] at HQ1 HQ2 hw HX HY HZ ⊢
        clear hwq
        have HL := Lib.hid (World.ownsRow_lit (base := wq.heap.size) (e := 26) (size := 4) wq #[] 0 (Nat.le_refl _) (by simp [maxLen]) rfl)
        go_wp2_with (at_builtin; go_must (refine wpList_append_met _ (by rfl) (.tmp 67) (.tmp 68) _ rfl wq.heap.size 26 i0 _ 4 24 Try.underlying37 hi iz0 iz1 iz2 rfl (by omega) (.slice (some ⟨wq.heap.size, 0, none⟩) 0 0) 0 [] rfl HL.out wq.heap.size Aw (n0 + n1) kw (ecells (L0 ++ L1)) rfl (HQ1.out.alloc (Nat.le_refl _) _) (ecells_one _) ?ua1 ?ua2 ?ua3 ?_))
        case ua1 => simp only [maxLen]; omega
        case ua2 => omega
        case ua3 => simp
        intro v3 w3 hown3 hgr3 hat3
        have hb3 : Below wq.heap.size wq w3 := grown_below (blk_new _ _) (by simp) hgr3 HL.out (Nat.le_refl _)
        have HO3 : Hid (w3.ownsRow wq.heap.size 26 4 v3 (n0 + n1) (ecells (L0 ++ L1))) := Lib.hid (by simpa using hown3)
        clear hown3 hgr3 hat3
        go_wp2_with (at_builtin; go_must (refine wpList_append_met _ (by rfl) (.tmp 69) (.tmp 70) _ rfl wq.heap.size 26 i0 _ 4 24 Try.underlying37 hi iz0 iz1 iz2 rfl (by omega) v3 (n0 + n1) (ecells (L0 ++ L1)) rfl HO3.out wq.heap.size Ax n0 kx (ecells L0) rfl (HQ2.out.below hb3) (ecells_one _) ?ub1 ?ub2 ?ub3 ?_))
        case ub1 => simp only [maxLen]; omega
        case ub2 => omega
        case ub3 => exact hb3.size
        intro v4 w4 hown4 hgr4 hat4
        have hb4 : Below wq.heap.size wq w4 := grown_below hb3 hb3.size hgr4 HO3.out (Nat.le_refl _)
        obtain ⟨Au, ku, hv4, hkw⟩ := own_slice hown4
        rw [hv4, ← ecells_append] at hown4
        subst hv4
        have HW := Lib.hid hown4
        have hw := bthen2 hb4 hw
        clear hown4 hgr4 hat4 HO3 HL HQ1 HQ2 hb3 hkw
        go_wp2_with fail
        refine (con_any _ _ _ ((L0 ++ L1) ++ L0) _ _ (Reads.of_own HW.out) HUN.out HUF.out (Nat.le_refl _) (by omega)).mono ?_; rintro e w1 ⟨rfl, hb⟩
        have hw := bthen2 hb hw
        clear hb
        go_wp2_with fail
        refine (awake07 _).mono ?_; rintro e w1 ⟨rfl, hb⟩
        have hw := bthen2 hb hw
        go_wp2_with fail
        go_ret
        exact ⟨rfl, hw⟩

set_option maxRecDepth 100000 in
set_option maxHeartbeats 1000000 in
theorem lifted (os : Os) (started : os.Started) (H : Type) (enc : TypeId × Value → H) :
    ReturnsInHanded {} Try.checked os 6 .any (Rows.entryPartsSpec.pre6 enc Try.prog Try.f6 Rows.entryPartsRow.domain false) (Rows.entryPartsSpec.post enc Try.prog Try.f6 false true false false) := by
  refine returnsInHanded_of_change_sized (C := Try.checked) own_ started (by kernel_rfl) Try.func6
    (ChangeSpec.witness6 (enc := enc) (C := Try.checked) false ⟨#[], #[.slice none 0 0, .slice none 0 0], []⟩ 8 (by kernel_rfl) (by kernel_rfl) (by kernel_rfl) (by kernel_rfl)) ?_
  intro W base args ds gs before hval0 hW hcnd hsz0 _
  have hval : ∀ (j : Nat) t v, Try.f6.params[j]? = some t → args[j]? = some v → Value.okWide Try.prog W .any base t v := hval0
  have hW' := hW
  obtain ⟨p, q, hA0, hV, e0, hfz, hnd⟩ := hW
  clear e0 hfz hnd hcnd
  have hA : DataW.TrodAll enc Try.prog W 0 (fun _ => true) true Try.f6.params.toList args.toList ds p := hA0
  have hsz : (DataW.weightsEach Try.prog (Try.f6.params.toList ++ Rows.entryPartsSpec.plain.varTypes Try.prog) (ds ++ gs)).all (· ≤ reachBytes) = true := hsz0
  rw [Try.params6] at hA hval hsz
  obtain ⟨v0, vs0, d0, ds0, p0, q0, hargs, rfl, e0, h0, rr0⟩ := trodAll_cons hA
  obtain ⟨v1, vs1, d1, ds1, p1, q1, rfl, rfl, e1, h1, rr1⟩ := trodAll_cons rr0
  obtain ⟨rfl, rfl, eN⟩ := trodAll_nil rr1
  obtain rfl : args = #[v0, v1] := by cases args; simp_all
  obtain ⟨A0, n0, c0, L0, rfl, hr0, hn0, hf0, hm0, hc0⟩ := open_ents Try.underlying35 Try.underlying25 (by kernel_rfl) (by kernel_rfl) (by kernel_rfl) rfl rfl rfl rfl Try.underlying22 Try.underlying23 (hval 0 35 v0 rfl rfl) h0 (fun elems spare hd => sized_slice hsz (j := 0) rfl (by rw [hd]; rfl) Try.underlying35)
  obtain ⟨A1, n1, c1, L1, rfl, hr1, hn1, hf1, hm1, hc1⟩ := open_ents Try.underlying35 Try.underlying25 (by kernel_rfl) (by kernel_rfl) (by kernel_rfl) rfl rfl rfl rfl Try.underlying22 Try.underlying23 (hval 1 35 v1 rfl rfl) h1 (fun elems spare hd => sized_slice hsz (j := 1) rfl (by rw [hd]; rfl) Try.underlying35)
  refine (walk W A0 n0 c0 L0 hr0 hn0 hf0 hm0 hc0 A1 n1 c1 L1 hr1 hn1 hf1 hm1 hc1).mono fun e W' ⟨he, hb⟩ => ?_
  subst he
  exact ⟨_, rfl, law_post laid_ (by kernel_rfl) hW' rfl rfl (by kernel_rfl) Try.underlying4 hb⟩

theorem over : Rows.entryPartsRow.holds Try.pinned (OpenSpec.ofChange Rows.entryPartsSpec) :=
  OpenClaim.holds_of_wide 6 Try.f6 rfl rfl rfl rfl rfl rfl rfl ⟨rfl, rfl, rfl, rfl, rfl⟩ rfl rfl rfl rfl rfl (by kernel_rfl) Try.func6 (by kernel_rfl)
    (of_decide_eq_true (by kernel_rfl)) (by unfold Func.isWrapper; first | (rw [if_pos (by decide +kernel)]; kernel_rfl) | (rw [if_neg (by decide +kernel)]; exact ⟨rfl, rfl⟩))
    (fun os started H enc _ => lifted os started H enc)

theorem proved : Rows.EntryPartsSaid := over
end Go.Proofs.Ytbojffednfiegaa.entryParts
