/- SeekParts: an identifier is found in a row as it is found in its beginning up to it, or in none of both; and the law returns true. -/
import Derived.Test.YtppciejcobmikaaEntOpen
import Derived.Test.YtppciejcobmikaaSeekAwake
import Derived.Test.YtppciejcobmikaaEntSame
import Derived.Test.YtppciejcobmikaaEntApp
namespace Go.Proofs.Ytppciejcobmikaa.seekParts
open Go.ChangeShapes Go.WideShapes Go.ChangeAt Go.RowKit
set_option linter.unusedVariables false

set_option maxRecDepth 100000 in
set_option maxHeartbeats 2000000 in
theorem walk (w : World) (A0 : Option Addr) (n0 c0 : Nat) (L0 : List Ent) (hr0 : Reads w w.heap.size 4 A0 n0 (ecells L0)) (hn0 : n0 = L0.length) (hf0 : En.fits L0) (hm0 : n0 * 24 ≤ 140737488355328) (hc0 : n0 ≤ c0) (a1 : Int) (w1 : (Lit.int .u64 a1).wf = true) :
    Calls Try.prog 9 #[.slice A0 n0 c0, .int .u64 a1] w fun e w' => e = .returned (.bool true) ∧ Below w.heap.size w w' := by
  by_cases hg0 : 200 < n0
  · have HR0 := Lib.hid hr0
    have HN0 := Lib.hid hn0
    have HF0 := Lib.hid hf0
    clear hr0 hn0 hf0
    have HT := Lib.hid ((by have h := HN0.out; rw [List.length_take]; omega) : 1 = (L0.take 1).length)
    have HTF : Hid (En.fits (L0.take 1)) := Lib.hid (fun e he => HF0.out e (List.mem_of_mem_take he))
    obtain ⟨pz, hpz⟩ : ∃ p, p = Sk.at (L0.take 1) 0 := ⟨_, rfl⟩
    have hp0 : pz ≤ 0 := by rw [hpz]; exact Sk.at_one _ _ (by rw [← HT.out]; exact Nat.le_refl _)
    have HPZ := Lib.hid hpz
    clear hpz
    go_enter Try.func9, Try.ntmps9
    go_wp2_with fail
    refine (own_any _ _ _ L0 _ _ HR0.out HN0.out (Nat.le_refl _) hm0).mono ?_
    intro e w1 h1
    obtain ⟨x, he, hO, hb⟩ := h1
    obtain ⟨Ax, kx, hv, hkx⟩ := own_slice hO
    rw [hv] at he hO
    rw [← HN0.out] at he hO hkx
    subst he
    clear hv
    have HX := Lib.hid hO
    have hw := hb
    clear hb hO
    go_wp2_with fail
    refine (place_any _ 1 kx (L0.take 1) _ _ 0 (by have h := (Reads.of_own HX.out).take_ (k := 1) (by omega); rw [ecells_take] at h; exact h) HT.out HTF.out (Nat.le_refl _) (by omega)).mono ?_; rintro e wy ⟨he, hb⟩
    rw [← HPZ.out] at he
    subst he
    replace hw := bthen2 hb hw
    clear hb HX
    go_wp2_with fail
    refine (awake09 _).mono ?_; rintro e wz ⟨rfl, hb⟩
    replace hw := bthen2 hb hw
    clear hb
    go_wp2_with fail
    go_ret
    exact ⟨rfl, hw⟩
  · have HR0 := Lib.hid hr0
    have HN0 := Lib.hid hn0
    have HF0 := Lib.hid hf0
    clear hr0 hn0 hf0
    by_cases hrow : En.row L0 = 0
    · have hfg := Sk.f_good HF0.out a1
      have hfr : ∀ e, FindR L0 a1 e → e = .returned (.tuple #[.agg #[.int .u64 (Sk.f L0 a1).1, .int .u64 (Sk.f L0 a1).2.1, .int .u32 (Sk.f L0 a1).2.2.1, .int .u32 (Sk.f L0 a1).2.2.2], .bool (Sk.is L0 a1)]) := fun e h => h
      obtain ⟨⟨fi, fo, fl, fr⟩, hF⟩ : ∃ e, e = Sk.f L0 a1 := ⟨_, rfl⟩
      obtain ⟨fb, hB⟩ : ∃ b, b = Sk.is L0 a1 := ⟨_, rfl⟩
      rw [← hF, ← hB] at hfr
      rw [← hF] at hfg
      dsimp only at hfr
      have HFG : Hid (En.fit fi fo fl fr) := Lib.hid hfg
      have HFR := Lib.hid hfr
      have HFE := Lib.hid hF
      have HFB := Lib.hid hB
      clear hfg hfr hF hB
      obtain ⟨id0, id1⟩ := bd_u64 w1
      have heq := fun w => eq_ent fi fo fl fr fi fo fl fr w
      rw [(En.teq_iff (fi, fo, fl, fr) (fi, fo, fl, fr)).2 rfl] at heq
      have HEQ := Lib.hid heq
      have hq : (En.row L0 != 0) = false := by rw [hrow]; rfl
      have HQ := Lib.hid hrow
      have hml := Sk.m_le L0 a1
      rw [← HN0.out] at hml
      obtain ⟨m, hmm⟩ : ∃ m, m = Sk.m L0 a1 := ⟨_, rfl⟩
      rw [← hmm] at hml
      have HM := Lib.hid hmm
      clear hrow heq hmm
      rcases m with _ | k
      · have hat : Sk.at L0 a1 = -1 := by unfold Sk.at; rw [← HM.out]; rfl
        have hmt := Sk.m_take (id := a1) HF0.out HQ.out
        have hit := Sk.is_take (id := a1) HF0.out HQ.out
        have hft := Sk.f_take (id := a1) HF0.out HQ.out
        rw [← HM.out] at hmt hit hft
        have hat2 : Sk.at (L0.take (0)) a1 = -1 := by unfold Sk.at; rw [hmt]; rfl
        have hfr2 : ∀ e, FindR (L0.take (0)) a1 e → e = .returned (.tuple #[.agg #[.int .u64 fi, .int .u64 fo, .int .u32 fl, .int .u32 fr], .bool fb]) := fun e h => HFR.out e (by unfold FindR at h ⊢; rw [hit, hft] at h; exact h)
        have HAT := Lib.hid hat
        have HAT2 := Lib.hid hat2
        have HFR2 := Lib.hid hfr2
        have HT := Lib.hid ((by have h := HN0.out; rw [List.length_take]; omega) : 0 = (L0.take (0)).length)
        have HTF : Hid (En.fits (L0.take (0))) := Lib.hid (fun e he => HF0.out e (List.mem_of_mem_take he))
        clear hat hmt hit hft hat2 hfr2
        go_enter Try.func9, Try.ntmps9
        go_wp2_with fail
        refine (own_any _ _ _ L0 _ _ HR0.out HN0.out (Nat.le_refl _) hm0).mono ?_
        intro e w1 h1
        obtain ⟨x, he, hO, hb⟩ := h1
        obtain ⟨Ax, kx, hv, hkx⟩ := own_slice hO
        rw [hv] at he hO
        rw [← HN0.out] at he hO hkx
        subst he
        clear hv
        have HX := Lib.hid hO
        have hw := hb
        clear hb hO
        go_wp2_with fail
        refine (row_any _ _ _ L0 _ _ (Reads.of_own HX.out) HN0.out HF0.out (Nat.le_refl _) (by omega)).mono ?_; rintro e w1 ⟨rfl, hb⟩
        replace HX := Lib.hid (ownsRow_keep HX.out hb)
        replace hw := bthen2 hb hw
        clear hb
        go_wp2_with fail
        refine (place_any _ _ _ L0 _ _ a1 (Reads.of_own HX.out) HN0.out HF0.out (Nat.le_refl _) (by omega)).mono ?_; rintro e wp ⟨he, hb⟩
        rw [HAT.out] at he
        subst he
        replace HX := Lib.hid (ownsRow_keep HX.out hb)
        replace hw := bthen2 hb hw
        clear hb
        go_wp2_with fail
        refine (find_any _ _ _ L0 _ _ a1 (Reads.of_own HX.out) HN0.out HF0.out (Nat.le_refl _) (by omega)).mono ?_; rintro e wa ⟨he, hb⟩
        replace he := HFR.out _ he
        subst he
        replace HX := Lib.hid (ownsRow_keep HX.out hb)
        replace hw := bthen2 hb hw
        clear hb
        go_wp2_with fail
        replace HX := Lib.hid (ownsRow_keep HX.out (blk_new wa (.cells #[.int .u64 fi, .int .u64 fo, .int .u32 fl, .int .u32 fr] 26)))
        have H6 := Lib.hid (heap_alloc_new wa (.cells #[.int .u64 fi, .int .u64 fo, .int .u32 fl, .int .u32 fr] 26))
        replace hw := bthen2 (blk_new wa (.cells #[.int .u64 fi, .int .u64 fo, .int .u32 fl, .int .u32 fr] 26)) hw
        refine (find_any _ (0) kx (L0.take (0)) _ _ a1 (by have h := (Reads.of_own HX.out).take_ (k := 0) (by omega); rw [ecells_take] at h; exact h) HT.out HTF.out (Nat.le_refl _) (by omega)).mono ?_; rintro e wb ⟨he, hb⟩
        replace he := HFR2.out _ he
        subst he
        replace HX := Lib.hid (ownsRow_keep HX.out hb)
        replace H6 := Lib.hid (blk_keep2 hb H6.out)
        replace hw := bthen2 hb hw
        clear hb
        obtain ⟨c0, c1, c2, c3⟩ := blk_cells4 H6.out
        have hz6 := blk_lt H6.out
        have heq := HEQ.out
        go_wp2_with fail
        clear heq c0 c1 c2 c3
        replace HX := Lib.hid (ownsRow_keep HX.out (blk_new wb (.cells #[.int .u64 fi, .int .u64 fo, .int .u32 fl, .int .u32 fr] 26)))
        replace H6 := Lib.hid (blk_alloc H6.out (.cells #[.int .u64 fi, .int .u64 fo, .int .u32 fl, .int .u32 fr] 26))
        have H8 := Lib.hid (heap_alloc_new wb (.cells #[.int .u64 fi, .int .u64 fo, .int .u32 fl, .int .u32 fr] 26))
        replace hw := bthen2 (blk_new wb (.cells #[.int .u64 fi, .int .u64 fo, .int .u32 fl, .int .u32 fr] 26)) hw
        refine (place_any _ (0) kx (L0.take (0)) _ _ a1 (by have h := (Reads.of_own HX.out).take_ (k := 0) (by omega); rw [ecells_take] at h; exact h) HT.out HTF.out (Nat.le_refl _) (by omega)).mono ?_; rintro e wc ⟨he, hb⟩
        rw [HAT2.out] at he
        subst he
        replace HX := Lib.hid (ownsRow_keep HX.out hb)
        replace hw := bthen2 hb hw
        clear hb
        go_wp2_with fail
        refine (awake09 _).mono ?_; rintro e wz ⟨rfl, hb⟩
        replace hw := bthen2 hb hw
        clear hb
        go_wp2_with fail
        go_ret
        exact ⟨rfl, hw⟩
      · have hat : Sk.at L0 a1 = (k : Int) := by unfold Sk.at; rw [← HM.out]; omega
        have hmt := Sk.m_take (id := a1) HF0.out HQ.out
        have hit := Sk.is_take (id := a1) HF0.out HQ.out
        have hft := Sk.f_take (id := a1) HF0.out HQ.out
        rw [← HM.out] at hmt hit hft
        have hat2 : Sk.at (L0.take (k + 1)) a1 = (k : Int) := by unfold Sk.at; rw [hmt]; omega
        have hfr2 : ∀ e, FindR (L0.take (k + 1)) a1 e → e = .returned (.tuple #[.agg #[.int .u64 fi, .int .u64 fo, .int .u32 fl, .int .u32 fr], .bool fb]) := fun e h => HFR.out e (by unfold FindR at h ⊢; rw [hit, hft] at h; exact h)
        have HAT := Lib.hid hat
        have HAT2 := Lib.hid hat2
        have HFR2 := Lib.hid hfr2
        have HT := Lib.hid ((by have h := HN0.out; rw [List.length_take]; omega) : k + 1 = (L0.take (k + 1)).length)
        have HTF : Hid (En.fits (L0.take (k + 1))) := Lib.hid (fun e he => HF0.out e (List.mem_of_mem_take he))
        clear hat hmt hit hft hat2 hfr2
        have hdr : Sk.at (L0.drop k) a1 = 0 := by
          have h := Sk.m_drop (id := a1) HF0.out HQ.out (by rw [← HM.out]; omega)
          rw [← HM.out] at h
          unfold Sk.at
          rw [show L0.drop k = L0.drop (k + 1 - 1) by simp, h]
          rfl
        have HDR := Lib.hid hdr
        have HD := Lib.hid ((by have h := HN0.out; rw [List.length_drop]; omega) : n0 - k = (L0.drop k).length)
        have HDF : Hid (En.fits (L0.drop k)) := Lib.hid (fun e he => HF0.out e (List.mem_of_mem_drop he))
        clear hdr
        go_enter Try.func9, Try.ntmps9
        go_wp2_with fail
        refine (own_any _ _ _ L0 _ _ HR0.out HN0.out (Nat.le_refl _) hm0).mono ?_
        intro e w1 h1
        obtain ⟨x, he, hO, hb⟩ := h1
        obtain ⟨Ax, kx, hv, hkx⟩ := own_slice hO
        rw [hv] at he hO
        rw [← HN0.out] at he hO hkx
        subst he
        clear hv
        have HX := Lib.hid hO
        have hw := hb
        clear hb hO
        go_wp2_with fail
        obtain ⟨g, cap, hv, _⟩ := HX.out.form (by omega)
        have hAx : Ax = some ⟨g, 0, none⟩ := by injection hv
        clear hv
        rw [hAx] at HX
        subst hAx
        have hkk : ¬ kx = k := by omega
        refine (row_any _ _ _ L0 _ _ (Reads.of_own HX.out) HN0.out HF0.out (Nat.le_refl _) (by omega)).mono ?_; rintro e w1 ⟨rfl, hb⟩
        replace HX := Lib.hid (ownsRow_keep HX.out hb)
        replace hw := bthen2 hb hw
        clear hb
        go_wp2_with fail
        refine (place_any _ _ _ L0 _ _ a1 (Reads.of_own HX.out) HN0.out HF0.out (Nat.le_refl _) (by omega)).mono ?_; rintro e wp ⟨he, hb⟩
        rw [HAT.out] at he
        subst he
        replace HX := Lib.hid (ownsRow_keep HX.out hb)
        replace hw := bthen2 hb hw
        clear hb
        go_wp2_with fail
        refine (find_any _ _ _ L0 _ _ a1 (Reads.of_own HX.out) HN0.out HF0.out (Nat.le_refl _) (by omega)).mono ?_; rintro e wa ⟨he, hb⟩
        replace he := HFR.out _ he
        subst he
        replace HX := Lib.hid (ownsRow_keep HX.out hb)
        replace hw := bthen2 hb hw
        clear hb
        go_wp2_with fail
        replace HX := Lib.hid (ownsRow_keep HX.out (blk_new wa (.cells #[.int .u64 fi, .int .u64 fo, .int .u32 fl, .int .u32 fr] 26)))
        have H6 := Lib.hid (heap_alloc_new wa (.cells #[.int .u64 fi, .int .u64 fo, .int .u32 fl, .int .u32 fr] 26))
        replace hw := bthen2 (blk_new wa (.cells #[.int .u64 fi, .int .u64 fo, .int .u32 fl, .int .u32 fr] 26)) hw
        refine (find_any _ (k + 1) kx (L0.take (k + 1)) _ _ a1 (by have h := (Reads.of_own HX.out).take_ (k := k + 1) (by omega); rw [ecells_take] at h; exact h) HT.out HTF.out (Nat.le_refl _) (by omega)).mono ?_; rintro e wb ⟨he, hb⟩
        replace he := HFR2.out _ he
        subst he
        replace HX := Lib.hid (ownsRow_keep HX.out hb)
        replace H6 := Lib.hid (blk_keep2 hb H6.out)
        replace hw := bthen2 hb hw
        clear hb
        obtain ⟨c0, c1, c2, c3⟩ := blk_cells4 H6.out
        have hz6 := blk_lt H6.out
        have heq := HEQ.out
        go_wp2_with fail
        clear heq c0 c1 c2 c3
        replace HX := Lib.hid (ownsRow_keep HX.out (blk_new wb (.cells #[.int .u64 fi, .int .u64 fo, .int .u32 fl, .int .u32 fr] 26)))
        replace H6 := Lib.hid (blk_alloc H6.out (.cells #[.int .u64 fi, .int .u64 fo, .int .u32 fl, .int .u32 fr] 26))
        have H8 := Lib.hid (heap_alloc_new wb (.cells #[.int .u64 fi, .int .u64 fo, .int .u32 fl, .int .u32 fr] 26))
        replace hw := bthen2 (blk_new wb (.cells #[.int .u64 fi, .int .u64 fo, .int .u32 fl, .int .u32 fr] 26)) hw
        refine (place_any _ (k + 1) kx (L0.take (k + 1)) _ _ a1 (by have h := (Reads.of_own HX.out).take_ (k := k + 1) (by omega); rw [ecells_take] at h; exact h) HT.out HTF.out (Nat.le_refl _) (by omega)).mono ?_; rintro e wc ⟨he, hb⟩
        rw [HAT2.out] at he
        subst he
        replace HX := Lib.hid (ownsRow_keep HX.out hb)
        replace hw := bthen2 hb hw
        clear hb
        go_wp2_with fail
        refine (place_any _ _ _ (L0.drop k) wc.heap.size _ a1 (by have h := (Reads.of_own HX.out).cut (k := k) (cap := kx) (by omega) hkx; rw [ecells_drop, if_neg hkk, Option.map_some, add_at] at h; exact h) HD.out HDF.out (Nat.le_refl _) (by omega)).mono ?_; rintro e wd ⟨he, hb⟩
        rw [HDR.out] at he
        subst he
        replace hw := bthen2 hb hw
        clear hb HX
        go_wp2_with fail
        refine (awake09 _).mono ?_; rintro e wz ⟨rfl, hb⟩
        replace hw := bthen2 hb hw
        clear hb
        go_wp2_with fail
        go_ret
        exact ⟨rfl, hw⟩
    · have hq := bne0 hrow
      have hn1 : 1 ≤ n0 := by
        rcases Nat.eq_zero_or_pos n0 with h0 | h0
        · exact absurd (by rw [List.eq_nil_of_length_eq_zero (HN0.out.symm.trans h0)]; rfl) hrow
        · exact h0
      clear hrow
      have HT := Lib.hid ((by have h := HN0.out; rw [List.length_take]; omega) : 1 = (L0.take 1).length)
      have HTF : Hid (En.fits (L0.take 1)) := Lib.hid (fun e he => HF0.out e (List.mem_of_mem_take he))
      obtain ⟨pz, hpz⟩ : ∃ p, p = Sk.at (L0.take 1) 0 := ⟨_, rfl⟩
      have hp0 : pz ≤ 0 := by rw [hpz]; exact Sk.at_one _ _ (by rw [← HT.out]; exact Nat.le_refl _)
      have HPZ := Lib.hid hpz
      clear hpz
      go_enter Try.func9, Try.ntmps9
      go_wp2_with fail
      refine (own_any _ _ _ L0 _ _ HR0.out HN0.out (Nat.le_refl _) hm0).mono ?_
      intro e w1 h1
      obtain ⟨x, he, hO, hb⟩ := h1
      obtain ⟨Ax, kx, hv, hkx⟩ := own_slice hO
      rw [hv] at he hO
      rw [← HN0.out] at he hO hkx
      subst he
      clear hv
      have HX := Lib.hid hO
      have hw := hb
      clear hb hO
      go_wp2_with fail
      refine (row_any _ _ _ L0 _ _ (Reads.of_own HX.out) HN0.out HF0.out (Nat.le_refl _) (by omega)).mono ?_; rintro e w1 ⟨rfl, hb⟩
      replace HX := Lib.hid (ownsRow_keep HX.out hb)
      replace hw := bthen2 hb hw
      clear hb
      go_wp2_with fail
      refine (place_any _ 1 kx (L0.take 1) _ _ 0 (by have h := (Reads.of_own HX.out).take_ (k := 1) (by omega); rw [ecells_take] at h; exact h) HT.out HTF.out (Nat.le_refl _) (by omega)).mono ?_; rintro e wy ⟨he, hb⟩
      rw [← HPZ.out] at he
      subst he
      replace hw := bthen2 hb hw
      clear hb HX
      go_wp2_with fail
      refine (awake09 _).mono ?_; rintro e wz ⟨rfl, hb⟩
      replace hw := bthen2 hb hw
      clear hb
      go_wp2_with fail
      go_ret
      exact ⟨rfl, hw⟩

set_option maxRecDepth 100000 in
set_option maxHeartbeats 1000000 in
theorem lifted (os : Os) (started : os.Started) (H : Type) (enc : TypeId × Value → H) :
    ReturnsInHanded {} Try.checked os 9 .any (Rows.seekPartsSpec.pre6 enc Try.prog Try.f9 Rows.seekPartsRow.domain false) (Rows.seekPartsSpec.post enc Try.prog Try.f9 false true false false) := by
  refine returnsInHanded_of_change_sized (C := Try.checked) own_ started (by kernel_rfl) Try.func9
    (ChangeSpec.witness6 (enc := enc) (C := Try.checked) false ⟨#[], #[.slice none 0 0, .int .u64 0], []⟩ 8 (by kernel_rfl) (by kernel_rfl) (by kernel_rfl) (by kernel_rfl)) ?_
  intro W base args ds gs before hval0 hW hcnd hsz0 _
  have hval : ∀ (j : Nat) t v, Try.f9.params[j]? = some t → args[j]? = some v → Value.okWide Try.prog W .any base t v := hval0
  have hW' := hW
  obtain ⟨p, q, hA0, hV, e0, hfz, hnd⟩ := hW
  clear e0 hfz hnd hcnd
  have hA : DataW.TrodAll enc Try.prog W 0 (fun _ => true) true Try.f9.params.toList args.toList ds p := hA0
  have hsz : (DataW.weightsEach Try.prog (Try.f9.params.toList ++ Rows.seekPartsSpec.plain.varTypes Try.prog) (ds ++ gs)).all (· ≤ reachBytes) = true := hsz0
  rw [Try.params9] at hA hval hsz
  obtain ⟨v0, vs0, d0, ds0, p0, q0, hargs, rfl, e0, h0, rr0⟩ := trodAll_cons hA
  obtain ⟨v1, vs1, d1, ds1, p1, q1, rfl, rfl, e1, h1, rr1⟩ := trodAll_cons rr0
  obtain ⟨rfl, rfl, eN⟩ := trodAll_nil rr1
  obtain rfl : args = #[v0, v1] := by cases args; simp_all
  obtain ⟨A0, n0, c0, L0, rfl, hr0, hn0, hf0, hm0, hc0⟩ := open_ents Try.underlying35 Try.underlying25 (by kernel_rfl) (by kernel_rfl) (by kernel_rfl) rfl rfl rfl rfl Try.underlying22 Try.underlying23 (hval 0 35 v0 rfl rfl) h0 (fun elems spare hd => sized_slice hsz (j := 0) rfl (by rw [hd]; rfl) Try.underlying35)
  obtain ⟨a1, rfl, _, _, w1⟩ := open_int Try.underlying22 (hval 1 22 v1 rfl rfl) h1
  refine (walk W A0 n0 c0 L0 hr0 hn0 hf0 hm0 hc0 a1 w1).mono fun e W' ⟨he, hb⟩ => ?_
  subst he
  exact ⟨_, rfl, law_post laid_ (by kernel_rfl) hW' rfl rfl (by kernel_rfl) Try.underlying4 hb⟩

theorem over : Rows.seekPartsRow.holds Try.pinned (OpenSpec.ofChange Rows.seekPartsSpec) :=
  OpenClaim.holds_of_wide 9 Try.f9 rfl rfl rfl rfl rfl rfl rfl ⟨rfl, rfl, rfl, rfl, rfl⟩ rfl rfl rfl rfl rfl (by kernel_rfl) Try.func9 (by kernel_rfl)
    (of_decide_eq_true (by kernel_rfl)) (by unfold Func.isWrapper; first | (rw [if_pos (by decide +kernel)]; kernel_rfl) | (rw [if_neg (by decide +kernel)]; exact ⟨rfl, rfl⟩))
    (fun os started H enc _ => lifted os started H enc)

theorem proved : Rows.SeekPartsSaid := over
end Go.Proofs.Ytppciejcobmikaa.seekParts
