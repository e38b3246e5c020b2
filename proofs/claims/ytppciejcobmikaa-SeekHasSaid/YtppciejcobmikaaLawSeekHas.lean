/- SeekHas: in a row what an entry has is found, as that entry; what is found has the identifier, or is a pointer that is not beyond it; nothing lies between; and the law returns true. -/
import Derived.Test.YtppciejcobmikaaEntOpen
import Derived.Test.YtppciejcobmikaaSeekAwake
import Derived.Test.YtppciejcobmikaaEntSame
namespace Go.Proofs.Ytppciejcobmikaa.seekHas
open Go.ChangeShapes Go.WideShapes Go.ChangeAt Go.RowKit
set_option linter.unusedVariables false

theorem cells8 {w w' : World} {g k b n kx : Nat} {L : List Ent} {i o l r fi fo fl fr : Int} (h : ∀ v : World, v.ownsRow w.heap.size 26 4 (.slice (some ⟨g, 0, none⟩) n kx) n (ecells L) → v.cell? ⟨g, k * 4, none⟩ = some (.int .u64 i) ∧ v.cell? ⟨g, k * 4 + 1, none⟩ = some (.int .u64 o) ∧ v.cell? ⟨g, k * 4 + 2, none⟩ = some (.int .u32 l) ∧ v.cell? ⟨g, k * 4 + 3, none⟩ = some (.int .u32 r))
    (hX : w'.ownsRow w.heap.size 26 4 (.slice (some ⟨g, 0, none⟩) n kx) n (ecells L)) (h6 : w'.heap[b]? = some (.cells #[.int .u64 fi, .int .u64 fo, .int .u32 fl, .int .u32 fr] 26 (0, 0))) :
    w'.cell? ⟨g, k * 4, none⟩ = some (.int .u64 i) ∧ w'.cell? ⟨g, k * 4 + 1, none⟩ = some (.int .u64 o) ∧ w'.cell? ⟨g, k * 4 + 2, none⟩ = some (.int .u32 l) ∧ w'.cell? ⟨g, k * 4 + 3, none⟩ = some (.int .u32 r) ∧ w'.cell? ⟨b, 0, none⟩ = some (.int .u64 fi) ∧ w'.cell? ⟨b, 1, none⟩ = some (.int .u64 fo) ∧ w'.cell? ⟨b, 2, none⟩ = some (.int .u32 fl) ∧ w'.cell? ⟨b, 3, none⟩ = some (.int .u32 fr) := by
  obtain ⟨a0, a1, a2, a3⟩ := h _ hX
  obtain ⟨b0, b1, b2, b3⟩ := blk_cells4 h6
  exact ⟨a0, a1, a2, a3, b0, b1, b2, b3⟩

set_option maxRecDepth 100000 in
set_option maxHeartbeats 10000000 in
theorem walk (w : World) (A0 : Option Addr) (n0 c0 : Nat) (L0 : List Ent) (hr0 : Reads w w.heap.size 4 A0 n0 (ecells L0)) (hn0 : n0 = L0.length) (hf0 : En.fits L0) (hm0 : n0 * 24 ≤ 140737488355328) (hc0 : n0 ≤ c0) (a1 : Int) (w1 : (Lit.int .u64 a1).wf = true) :
    Calls Try.prog 8 #[.slice A0 n0 c0, .int .u64 a1] w fun e w' => e = .returned (.bool true) ∧ Below w.heap.size w w' := by
  by_cases hg0 : 200 < n0
  · have HR0 := Lib.hid hr0
    have HN0 := Lib.hid hn0
    have HF0 := Lib.hid hf0
    clear hr0 hn0 hf0
    go_enter Try.func8, Try.ntmps8
    go_wp2_with fail
    refine (own_any _ _ _ L0 _ _ HR0.out HN0.out (Nat.le_refl _) hm0).mono ?_
    intro e w1 h1
    obtain ⟨x, he, hO, hb⟩ := h1
    obtain ⟨Ax, kx, hv, hkx⟩ := own_slice hO
    rw [hv] at he hO
    rw [← HN0.out] at he hO hkx
    subst he
    clear hv
    have HX := Lib.hid hO
    have hw := hb
    clear hb hO
    go_wp2_with fail
    refine (awake09 _).mono ?_; rintro e wz ⟨rfl, hb⟩
    replace hw := bthen2 hb hw
    clear hb
    go_wp2_with fail
    go_ret
    exact ⟨rfl, hw⟩
  · have HR0 := Lib.hid hr0
    have HN0 := Lib.hid hn0
    have HF0 := Lib.hid hf0
    clear hr0 hn0 hf0
    by_cases hrow : En.row L0 = 0
    · have hfg := Sk.f_good HF0.out a1
      have hfr : ∀ e, FindR L0 a1 e → e = .returned (.tuple #[.agg #[.int .u64 (Sk.f L0 a1).1, .int .u64 (Sk.f L0 a1).2.1, .int .u32 (Sk.f L0 a1).2.2.1, .int .u32 (Sk.f L0 a1).2.2.2], .bool (Sk.is L0 a1)]) := fun e h => h
      obtain ⟨⟨fi, fo, fl, fr⟩, hF⟩ : ∃ e, e = Sk.f L0 a1 := ⟨_, rfl⟩
      obtain ⟨fb, hB⟩ : ∃ b, b = Sk.is L0 a1 := ⟨_, rfl⟩
      rw [← hF, ← hB] at hfr
      rw [← hF] at hfg
      dsimp only at hfr
      have HFG : Hid (En.fit fi fo fl fr) := Lib.hid hfg
      have HFR := Lib.hid hfr
      have HFE := Lib.hid hF
      have HFB := Lib.hid hB
      clear hfg hfr hF hB
      obtain ⟨id0, id1⟩ := bd_u64 w1
      have hq : (En.row L0 != 0) = false := by rw [hrow]; rfl
      have HQ := Lib.hid hrow
      clear hrow
      rcases Nat.eq_zero_or_pos n0 with h0 | h0
      · subst h0
        have hL : L0 = [] := List.eq_nil_of_length_eq_zero HN0.out.symm
        go_enter Try.func8, Try.ntmps8
        go_wp2_with fail
        refine (own_any _ _ _ L0 _ _ HR0.out HN0.out (Nat.le_refl _) hm0).mono ?_
        intro e w1 h1
        obtain ⟨x, he, hO, hb⟩ := h1
        obtain ⟨Ax, kx, hv, hkx⟩ := own_slice hO
        rw [hv] at he hO
        rw [← HN0.out] at he hO hkx
        subst he
        clear hv
        have HX := Lib.hid hO
        have hw := hb
        clear hb hO
        go_wp2_with fail
        refine (row_any _ _ _ L0 _ _ (Reads.of_own HX.out) HN0.out HF0.out (Nat.le_refl _) (by omega)).mono ?_; rintro e w1 ⟨rfl, hb⟩
        replace HX := Lib.hid (ownsRow_keep HX.out hb)
        replace hw := bthen2 hb hw
        clear hb
        go_wp2_with fail
        refine (find_any _ _ _ L0 _ _ a1 (Reads.of_own HX.out) HN0.out HF0.out (Nat.le_refl _) (by omega)).mono ?_; rintro e wa ⟨he, hb⟩
        replace he := HFR.out _ he
        subst he
        replace HX := Lib.hid (ownsRow_keep HX.out hb)
        replace hw := bthen2 hb hw
        clear hb
        go_wp2_with fail
        replace HX := Lib.hid (ownsRow_keep HX.out (blk_new wa (.cells #[.int .u64 fi, .int .u64 fo, .int .u32 fl, .int .u32 fr] 26)))
        have H6 := Lib.hid (heap_alloc_new wa (.cells #[.int .u64 fi, .int .u64 fo, .int .u32 fl, .int .u32 fr] 26))
        replace hw := bthen2 (blk_new wa (.cells #[.int .u64 fi, .int .u64 fo, .int .u32 fl, .int .u32 fr] 26)) hw
        go_loopw [8] (fun ci wr => ci = .int .i64 0 ∧ Hid (wr.heap[wa.heap.size]? = some (.cells #[.int .u64 fi, .int .u64 fo, .int .u32 fl, .int .u32 fr] 26)) ∧ Below w.heap.size w wr) (fun ci _ => 4 - (intOf ci).toNat)
        case atStart => exact ⟨rfl, H6, hw⟩
        case round =>
          clear HX H6 hw
          obtain ⟨rfl, H6, hw⟩ := hrel
          rcases Bool.eq_false_or_eq_true fb with hb0 | hb0
          · subst hb0
            have hpt := Sk.pointer (id := a1) HF0.out (by rw [← HFB.out])
            rw [← HFE.out] at hpt
            have hpt' : En.hs fi fo fl fr a1 = true ∨ (fr = 0 ∧ fi ≤ a1) := hpt
            clear hpt
            rcases Bool.eq_false_or_eq_true (En.hs fi fo fl fr a1) with hh | hh
            · have HH := Lib.hid hh
              clear hpt' hh
              obtain ⟨c0, c1, c2, c3⟩ := blk_cells4 H6.out
              go_wp2_with fail
              refine (has_any _ _ _ _ _ HFG.out _).mono ?_; rintro e w5 ⟨he, hb⟩
              rw [HH.out] at he
              subst he
              replace hw := bthen2 hb hw
              clear c0 c1 c2 c3 hb
              go_wp2_with fail
              refine (awake09 _).mono ?_; rintro e wz ⟨rfl, hb⟩
              replace hw := bthen2 hb hw
              clear hb
              go_wp2_with fail
              go_ret
              exact ⟨rfl, hw⟩
            · obtain ⟨hr0, hr1⟩ : fr = 0 ∧ fi ≤ a1 := by rcases hpt' with h | h; rw [h] at hh; cases hh; exact h
              subst hr0
              have HH := Lib.hid hh
              clear hpt' hh
              obtain ⟨c0, c1, c2, c3⟩ := blk_cells4 H6.out
              go_wp2_with fail
              refine (has_any _ _ _ _ _ HFG.out _).mono ?_; rintro e w5 ⟨he, hb⟩
              rw [HH.out] at he
              subst he
              replace H6 := Lib.hid (blk_keep2 hb H6.out)
              replace hw := bthen2 hb hw
              clear c0 c1 c2 c3 hb
              obtain ⟨c0, c1, c2, c3⟩ := blk_cells4 H6.out
              go_wp2_with fail
              clear c0 c1 c2 c3
              refine (awake09 _).mono ?_; rintro e wz ⟨rfl, hb⟩
              replace hw := bthen2 hb hw
              clear hb
              go_wp2_with fail
              go_ret
              exact ⟨rfl, hw⟩
          · subst hb0
            have hz := Sk.f_not (L := L0) (id := a1) (by rw [← HFB.out])
            rw [← HFE.out] at hz
            simp only [Sk.z, Prod.mk.injEq] at hz
            obtain ⟨rfl, rfl, rfl, rfl⟩ := hz
            have heq := fun w => eq_ent 0 0 0 0 0 0 0 0 w
            rw [show En.teq 0 0 0 0 0 0 0 0 = true by decide] at heq
            obtain ⟨c0, c1, c2, c3⟩ := blk_cells4 H6.out
            go_wp2_with fail
            clear heq c0 c1 c2 c3
            refine (awake09 _).mono ?_; rintro e wz ⟨rfl, hb⟩
            replace hw := bthen2 hb hw
            clear hb
            go_wp2_with fail
            go_ret
            exact ⟨rfl, hw⟩
      · go_enter Try.func8, Try.ntmps8
        go_wp2_with fail
        refine (own_any _ _ _ L0 _ _ HR0.out HN0.out (Nat.le_refl _) hm0).mono ?_
        intro e w1 h1
        obtain ⟨x, he, hO, hb⟩ := h1
        obtain ⟨Ax, kx, hv, hkx⟩ := own_slice hO
        rw [hv] at he hO
        rw [← HN0.out] at he hO hkx
        subst he
        clear hv
        have HX := Lib.hid hO
        have hw := hb
        clear hb hO
        go_wp2_with fail
        obtain ⟨g, cap, hv, _⟩ := HX.out.form (by omega)
        have hAx : Ax = some ⟨g, 0, none⟩ := by injection hv
        clear hv
        rw [hAx] at HX
        subst hAx
        refine (row_any _ _ _ L0 _ _ (Reads.of_own HX.out) HN0.out HF0.out (Nat.le_refl _) (by omega)).mono ?_; rintro e w1 ⟨rfl, hb⟩
        replace HX := Lib.hid (ownsRow_keep HX.out hb)
        replace hw := bthen2 hb hw
        clear hb
        go_wp2_with fail
        refine (find_any _ _ _ L0 _ _ a1 (Reads.of_own HX.out) HN0.out HF0.out (Nat.le_refl _) (by omega)).mono ?_; rintro e wa ⟨he, hb⟩
        replace he := HFR.out _ he
        subst he
        replace HX := Lib.hid (ownsRow_keep HX.out hb)
        replace hw := bthen2 hb hw
        clear hb
        go_wp2_with fail
        replace HX := Lib.hid (ownsRow_keep HX.out (blk_new wa (.cells #[.int .u64 fi, .int .u64 fo, .int .u32 fl, .int .u32 fr] 26)))
        have H6 := Lib.hid (heap_alloc_new wa (.cells #[.int .u64 fi, .int .u64 fo, .int .u32 fl, .int .u32 fr] 26))
        replace hw := bthen2 (blk_new wa (.cells #[.int .u64 fi, .int .u64 fo, .int .u32 fl, .int .u32 fr] 26)) hw
        go_loopw [8] (fun ci wr => ∃ k : Nat, k ≤ n0 ∧ ci = .int .i64 k ∧ Hid (wr.ownsRow w.heap.size 26 4 (.slice (some ⟨g, 0, none⟩) n0 kx) n0 (ecells L0)) ∧ Hid (wr.heap[wa.heap.size]? = some (.cells #[.int .u64 fi, .int .u64 fo, .int .u32 fl, .int .u32 fr] 26)) ∧ Below w.heap.size w wr) (fun ci _ => n0 - (intOf ci).toNat)
        case atStart => exact ⟨0, by omega, rfl, HX, H6, hw⟩
        case round =>
          clear HX H6 hw
          obtain ⟨k, hk, rfl, HX, H6, hw⟩ := hrel
          by_cases hlt : k < n0
          · have hlt' : k < L0.length := by rw [← HN0.out]; exact hlt
            have HC := fun (v : World) (h : v.ownsRow w.heap.size 26 4 (.slice (some ⟨g, 0, none⟩) n0 kx) n0 (ecells L0)) => (Reads.of_own h).ent HN0.out k hlt'
            simp only [Nat.zero_add] at HC
            have hg1 := HF0.out _ (List.getElem_mem hlt')
            have hgk := Sk.g_eq hlt'
            have hfound := fun h => Sk.has_found (id := a1) HF0.out HQ.out k hlt' h
            have hbet := fun h => Sk.between (id := a1) HF0.out h k hlt'
            rw [hgk] at hfound hbet
            obtain ⟨⟨i, o, l, r⟩, he⟩ : ∃ e, e = L0[k]'hlt' := ⟨_, rfl⟩
            rw [← he] at HC hg1 hfound hbet
            rw [← HFB.out, ← HFE.out] at hfound hbet
            have HC := Lib.hid HC
            have HG : Hid (En.fit i o l r) := Lib.hid hg1
            have hfound' : En.hs i o l r a1 = true → fb = true ∧ (fi, fo, fl, fr) = (i, o, l, r) := hfound
            have hbet' : fb = true → ¬ (fi < i ∧ i ≤ a1) := hbet
            have b2 : (0 : Int) ≤ (k : Int) := by omega
            have b3 : (k : Int) < (n0 : Int) := by omega
            clear he hg1 hgk hfound hbet
            rcases Bool.eq_false_or_eq_true (En.hs i o l r a1) with hh | hh
            · obtain ⟨h1, h2⟩ := hfound' hh
              simp only [Prod.mk.injEq] at h2
              obtain ⟨rfl, rfl, rfl, rfl⟩ := h2
              subst h1
              have HH := Lib.hid hh
              have hne := fun w => neq_ent fi fo fl fr fi fo fl fr w
              rw [show En.teq fi fo fl fr fi fo fl fr = true from (En.teq_iff (fi, fo, fl, fr) (fi, fo, fl, fr)).2 rfl] at hne
              simp only [Bool.not_true] at hne
              have hlt3 : decide (fi < fi) = false := decide_eq_false (by omega)
              clear hfound' hbet' hh
              go_wp2_with fail
              refine wp_only ?_
              refine wp_region_held_drew (S := (fun w' => w'.cell? ⟨g, k * 4, none⟩ = some (.int .u64 fi) ∧ w'.cell? ⟨g, k * 4 + 1, none⟩ = some (.int .u64 fo) ∧ w'.cell? ⟨g, k * 4 + 2, none⟩ = some (.int .u32 fl) ∧ w'.cell? ⟨g, k * 4 + 3, none⟩ = some (.int .u32 fr) ∧ w'.cell? ⟨wa.heap.size, 0, none⟩ = some (.int .u64 fi) ∧ w'.cell? ⟨wa.heap.size, 1, none⟩ = some (.int .u64 fo) ∧ w'.cell? ⟨wa.heap.size, 2, none⟩ = some (.int .u32 fl) ∧ w'.cell? ⟨wa.heap.size, 3, none⟩ = some (.int .u32 fr))) (by kernel_rfl) (by (try dsimp only); exact cells8 HC.out HX.out H6.out) (fun hHeld => ?_)
              simp only [List.size_toArray, List.length_cons, List.length_nil, Nat.zero_add, Nat.reduceAdd]
              refine held_take (i := 0) (v := ?_) rfl (by kernel_rfl) (by kernel_rfl) (by kernel_rfl) (fun _ _ _ h => h) (by rfl) ?_ (by assumption) ?_
              rotate_left
              · intro w hSw
                (try dsimp only at hSw)
                go_simp
                try with_reducible rfl
              try simp only [Act.put, List.setIfInBounds_toArray, List.set_cons_zero, List.set_cons_succ]
              refine held_take (i := 1) (v := ?_) rfl (by kernel_rfl) (by kernel_rfl) (by kernel_rfl) (fun _ _ _ h => h) (by rfl) ?_ (by assumption) ?_
              rotate_left
              · intro w hSw
                (try dsimp only at hSw)
                go_simp
                try with_reducible rfl
              try simp only [Act.put, List.setIfInBounds_toArray, List.set_cons_zero, List.set_cons_succ]
              refine held_take (i := 2) (v := ?_) rfl (by kernel_rfl) (by kernel_rfl) (by kernel_rfl) (fun _ _ _ h => h) (by rfl) ?_ (by assumption) ?_
              rotate_left
              · intro w hSw
                (try dsimp only at hSw)
                go_simp
                try with_reducible rfl
              try simp only [Act.put, List.setIfInBounds_toArray, List.set_cons_zero, List.set_cons_succ]
              refine held_take (i := 3) (v := ?_) rfl (by kernel_rfl) (by kernel_rfl) (by kernel_rfl) (fun _ _ _ h => h) (by rfl) ?_ (by assumption) ?_
              rotate_left
              · intro w hSw
                (try dsimp only at hSw)
                go_simp
                try with_reducible rfl
              try simp only [Act.put, List.setIfInBounds_toArray, List.set_cons_zero, List.set_cons_succ]
              refine held_take (i := 4) (v := ?_) rfl (by kernel_rfl) (by kernel_rfl) (by kernel_rfl) (fun _ _ _ h => h) (by rfl) ?_ (by assumption) ?_
              rotate_left
              · intro w hSw
                (try dsimp only at hSw)
                go_simp
                try with_reducible rfl
              try simp only [Act.put, List.setIfInBounds_toArray, List.set_cons_zero, List.set_cons_succ]
              refine held_call (i := 5) (by kernel_rfl) rfl (fun K hK => ?_)
              go_simp
              refine (has_any _ _ _ _ _ HG.out _).mono ?_; rintro e w5 ⟨he, hb⟩; rw [HH.out] at he; subst he; replace HX := Lib.hid (ownsRow_keep (by exact HX.out) hb); replace H6 := Lib.hid (blk_keep2 hb H6.out); replace hw := bthen2 hb (by first | exact hw | exact Below.drew hw | exact bdraws hw _); clear hb
              refine hK.out _ _ (by (try dsimp only); exact cells8 HC.out HX.out H6.out) (fun hHeld => ?_)
              clear hK K
              try simp only [Act.put, List.setIfInBounds_toArray, List.set_cons_zero, List.set_cons_succ]
              refine held_take (i := 6) (v := ?_) rfl (by kernel_rfl) (by kernel_rfl) (by kernel_rfl) (fun _ _ _ h => h) (by rfl) ?_ (by assumption) ?_
              rotate_left
              · intro w hSw
                (try dsimp only at hSw)
                go_simp
                try with_reducible rfl
              try simp only [Act.put, List.setIfInBounds_toArray, List.set_cons_zero, List.set_cons_succ]
              refine held_take (i := 7) (v := ?_) rfl (by kernel_rfl) (by kernel_rfl) (by kernel_rfl) (fun _ _ _ h => h) (by rfl) ?_ (by assumption) ?_
              rotate_left
              · intro w hSw
                (try dsimp only at hSw)
                go_simp
                try with_reducible rfl
              try simp only [Act.put, List.setIfInBounds_toArray, List.set_cons_zero, List.set_cons_succ]
              refine held_take (i := 8) (v := ?_) rfl (by kernel_rfl) (by kernel_rfl) (by kernel_rfl) (fun _ _ _ h => h) (by rfl) ?_ (by assumption) ?_
              rotate_left
              · intro w hSw
                (try dsimp only at hSw)
                go_simp
                try with_reducible rfl
              try simp only [Act.put, List.setIfInBounds_toArray, List.set_cons_zero, List.set_cons_succ]
              refine held_take (i := 9) (v := ?_) rfl (by kernel_rfl) (by kernel_rfl) (by kernel_rfl) (fun _ _ _ h => h) (by rfl) ?_ (by assumption) ?_
              rotate_left
              · intro w hSw
                (try dsimp only at hSw)
                go_simp
                try with_reducible rfl
              try simp only [Act.put, List.setIfInBounds_toArray, List.set_cons_zero, List.set_cons_succ]
              refine held_take (i := 10) (v := ?_) rfl (by kernel_rfl) (by kernel_rfl) (by kernel_rfl) (fun _ _ _ h => h) (by rfl) ?_ (by assumption) ?_
              rotate_left
              · intro w hSw
                (try dsimp only at hSw)
                go_simp
                try with_reducible rfl
              try simp only [Act.put, List.setIfInBounds_toArray, List.set_cons_zero, List.set_cons_succ]
              refine held_take (i := 11) (v := ?_) rfl (by kernel_rfl) (by kernel_rfl) (by kernel_rfl) (fun _ _ _ h => h) (by rfl) ?_ (by assumption) ?_
              rotate_left
              · intro w hSw
                (try dsimp only at hSw)
                go_simp
                try with_reducible rfl
              try simp only [Act.put, List.setIfInBounds_toArray, List.set_cons_zero, List.set_cons_succ]
              refine held_take (i := 12) (v := ?_) rfl (by kernel_rfl) (by kernel_rfl) (by kernel_rfl) (fun _ _ _ h => h) (by rfl) ?_ (by assumption) ?_
              rotate_left
              · intro w hSw
                (try dsimp only at hSw)
                go_simp
                try with_reducible rfl
              try simp only [Act.put, List.setIfInBounds_toArray, List.set_cons_zero, List.set_cons_succ]
              refine held_take (i := 13) (v := ?_) rfl (by kernel_rfl) (by kernel_rfl) (by kernel_rfl) (fun _ _ _ h => h) (by rfl) ?_ (by assumption) ?_
              rotate_left
              · intro w hSw
                (try dsimp only at hSw)
                go_simp
                try with_reducible rfl
              try simp only [Act.put, List.setIfInBounds_toArray, List.set_cons_zero, List.set_cons_succ]
              refine held_take (i := 14) (v := ?_) rfl (by kernel_rfl) (by kernel_rfl) (by kernel_rfl) (fun _ _ _ h => h) (by rfl) ?_ (by assumption) ?_
              rotate_left
              · intro w hSw
                (try dsimp only at hSw)
                go_simp
                try with_reducible rfl
              try simp only [Act.put, List.setIfInBounds_toArray, List.set_cons_zero, List.set_cons_succ]
              refine held_take (i := 15) (v := ?_) rfl (by kernel_rfl) (by kernel_rfl) (by kernel_rfl) (fun _ _ _ h => h) (by rfl) ?_ (by assumption) ?_
              rotate_left
              · intro w hSw
                (try dsimp only at hSw)
                go_simp
                try with_reducible rfl
              try simp only [Act.put, List.setIfInBounds_toArray, List.set_cons_zero, List.set_cons_succ]
              refine held_take (i := 16) (v := ?_) rfl (by kernel_rfl) (by kernel_rfl) (by kernel_rfl) (fun _ _ _ h => h) (by rfl) ?_ (by assumption) ?_
              rotate_left
              · intro w hSw
                (try dsimp only at hSw)
                go_simp
                try with_reducible rfl
              try simp only [Act.put, List.setIfInBounds_toArray, List.set_cons_zero, List.set_cons_succ]
              refine held_take (i := 17) (v := ?_) rfl (by kernel_rfl) (by kernel_rfl) (by kernel_rfl) (fun _ _ _ h => h) (by rfl) ?_ (by assumption) ?_
              rotate_left
              · intro w hSw
                (try dsimp only at hSw)
                go_simp
                try with_reducible rfl
              try simp only [Act.put, List.setIfInBounds_toArray, List.set_cons_zero, List.set_cons_succ]
              refine held_take (i := 18) (v := ?_) rfl (by kernel_rfl) (by kernel_rfl) (by kernel_rfl) (fun _ _ _ h => h) (by rfl) ?_ (by assumption) ?_
              rotate_left
              · intro w hSw
                (try dsimp only at hSw)
                go_simp
                try with_reducible rfl
              try simp only [Act.put, List.setIfInBounds_toArray, List.set_cons_zero, List.set_cons_succ]
              refine held_take (i := 19) (v := ?_) rfl (by kernel_rfl) (by kernel_rfl) (by kernel_rfl) (fun _ _ _ h => h) (by rfl) ?_ (by assumption) ?_
              rotate_left
              · intro w hSw
                (try dsimp only at hSw)
                go_simp
                try with_reducible rfl
              try simp only [Act.put, List.setIfInBounds_toArray, List.set_cons_zero, List.set_cons_succ]
              refine held_take (i := 20) (v := ?_) rfl (by kernel_rfl) (by kernel_rfl) (by kernel_rfl) (fun _ _ _ h => h) (by rfl) ?_ (by assumption) ?_
              rotate_left
              · intro w hSw
                (try dsimp only at hSw)
                go_simp
                try with_reducible rfl
              try simp only [Act.put, List.setIfInBounds_toArray, List.set_cons_zero, List.set_cons_succ]
              refine held_take (i := 21) (v := ?_) rfl (by kernel_rfl) (by kernel_rfl) (by kernel_rfl) (fun _ _ _ h => h) (by rfl) ?_ (by assumption) ?_
              rotate_left
              · intro w hSw
                (try dsimp only at hSw)
                go_simp
                try with_reducible rfl
              try simp only [Act.put, List.setIfInBounds_toArray, List.set_cons_zero, List.set_cons_succ]
              refine held_take (i := 22) (v := ?_) rfl (by kernel_rfl) (by kernel_rfl) (by kernel_rfl) (fun _ _ _ h => h) (by rfl) ?_ (by assumption) ?_
              rotate_left
              · intro w hSw
                (try dsimp only at hSw)
                go_simp
                try with_reducible rfl
              try simp only [Act.put, List.setIfInBounds_toArray, List.set_cons_zero, List.set_cons_succ]
              refine held_take (i := 23) (v := ?_) rfl (by kernel_rfl) (by kernel_rfl) (by kernel_rfl) (fun _ _ _ h => h) (by rfl) ?_ (by assumption) ?_
              rotate_left
              · intro w hSw
                (try dsimp only at hSw)
                go_simp
                try with_reducible rfl
              try simp only [Act.put, List.setIfInBounds_toArray, List.set_cons_zero, List.set_cons_succ]
              refine held_take (i := 24) (v := ?_) rfl (by kernel_rfl) (by kernel_rfl) (by kernel_rfl) (fun _ _ _ h => h) (by rfl) ?_ (by assumption) ?_
              rotate_left
              · intro w hSw
                (try dsimp only at hSw)
                go_simp
                try with_reducible rfl
              try simp only [Act.put, List.setIfInBounds_toArray, List.set_cons_zero, List.set_cons_succ]
              refine held_take (i := 25) (v := ?_) rfl (by kernel_rfl) (by kernel_rfl) (by kernel_rfl) (fun _ _ _ h => h) (by rfl) ?_ (by assumption) ?_
              rotate_left
              · intro w hSw
                (try dsimp only at hSw)
                go_simp
                try with_reducible rfl
              try simp only [Act.put, List.setIfInBounds_toArray, List.set_cons_zero, List.set_cons_succ]
              refine held_take (i := 26) (v := ?_) rfl (by kernel_rfl) (by kernel_rfl) (by kernel_rfl) (fun _ _ _ h => h) (by rfl) ?_ (by assumption) ?_
              rotate_left
              · intro w hSw
                (try dsimp only at hSw)
                go_simp
                try with_reducible rfl
              try simp only [Act.put, List.setIfInBounds_toArray, List.set_cons_zero, List.set_cons_succ]
              refine held_take (i := 27) (v := ?_) rfl (by kernel_rfl) (by kernel_rfl) (by kernel_rfl) (fun _ _ _ h => h) (by rfl) ?_ (by assumption) ?_
              rotate_left
              · intro w hSw
                (try dsimp only at hSw)
                go_simp
                try with_reducible rfl
              try simp only [Act.put, List.setIfInBounds_toArray, List.set_cons_zero, List.set_cons_succ]
              refine held_take (i := 28) (v := ?_) rfl (by kernel_rfl) (by kernel_rfl) (by kernel_rfl) (fun _ _ _ h => h) (by rfl) ?_ (by assumption) ?_
              rotate_left
              · intro w hSw
                (try dsimp only at hSw)
                go_simp
                try with_reducible rfl
              try simp only [Act.put, List.setIfInBounds_toArray, List.set_cons_zero, List.set_cons_succ]
              refine held_take (i := 29) (v := ?_) rfl (by kernel_rfl) (by kernel_rfl) (by kernel_rfl) (fun _ _ _ h => h) (by rfl) ?_ (by assumption) ?_
              rotate_left
              · intro w hSw
                (try dsimp only at hSw)
                go_simp
                try with_reducible rfl
              try simp only [Act.put, List.setIfInBounds_toArray, List.set_cons_zero, List.set_cons_succ]
              refine held_take (i := 30) (v := ?_) rfl (by kernel_rfl) (by kernel_rfl) (by kernel_rfl) (fun _ _ _ h => h) (by rfl) ?_ (by assumption) ?_
              rotate_left
              · intro w hSw
                (try dsimp only at hSw)
                go_simp
                try with_reducible rfl
              try simp only [Act.put, List.setIfInBounds_toArray, List.set_cons_zero, List.set_cons_succ]
              refine held_skip (i := 31) rfl (by kernel_rfl) (by kernel_rfl) (by kernel_rfl) (fun _ _ _ h => h) (by rfl) (by assumption) ?_
              try simp only [Act.put, List.setIfInBounds_toArray, List.set_cons_zero, List.set_cons_succ]
              refine held_skip (i := 32) rfl (by kernel_rfl) (by kernel_rfl) (by kernel_rfl) (fun _ _ _ h => h) (by rfl) (by assumption) ?_
              try simp only [Act.put, List.setIfInBounds_toArray, List.set_cons_zero, List.set_cons_succ]
              refine held_skip (i := 33) rfl (by kernel_rfl) (by kernel_rfl) (by kernel_rfl) (fun _ _ _ h => h) (by rfl) (by assumption) ?_
              try simp only [Act.put, List.setIfInBounds_toArray, List.set_cons_zero, List.set_cons_succ]
              refine held_skip (i := 34) rfl (by kernel_rfl) (by kernel_rfl) (by kernel_rfl) (fun _ _ _ h => h) (by rfl) (by assumption) ?_
              try simp only [Act.put, List.setIfInBounds_toArray, List.set_cons_zero, List.set_cons_succ]
              refine held_skip (i := 35) rfl (by kernel_rfl) (by kernel_rfl) (by kernel_rfl) (fun _ _ _ h => h) (by rfl) (by assumption) ?_
              try simp only [Act.put, List.setIfInBounds_toArray, List.set_cons_zero, List.set_cons_succ]
              refine held_skip (i := 36) rfl (by kernel_rfl) (by kernel_rfl) (by kernel_rfl) (fun _ _ _ h => h) (by rfl) (by assumption) ?_
              try simp only [Act.put, List.setIfInBounds_toArray, List.set_cons_zero, List.set_cons_succ]
              refine held_skip (i := 37) rfl (by kernel_rfl) (by kernel_rfl) (by kernel_rfl) (fun _ _ _ h => h) (by rfl) (by assumption) ?_
              try simp only [Act.put, List.setIfInBounds_toArray, List.set_cons_zero, List.set_cons_succ]
              refine held_take (i := 38) (v := ?_) rfl (by kernel_rfl) (by kernel_rfl) (by kernel_rfl) (fun _ _ _ h => h) (by rfl) ?_ (by assumption) ?_
              rotate_left
              · intro w hSw
                (try dsimp only at hSw)
                go_simp
                try with_reducible rfl
              try simp only [Act.put, List.setIfInBounds_toArray, List.set_cons_zero, List.set_cons_succ]
              refine held_take (i := 39) (v := ?_) rfl (by kernel_rfl) (by kernel_rfl) (by kernel_rfl) (fun _ _ _ h => h) (by rfl) ?_ (by assumption) ?_
              rotate_left
              · intro w hSw
                (try dsimp only at hSw)
                go_simp
                try with_reducible rfl
              try simp only [Act.put, List.setIfInBounds_toArray, List.set_cons_zero, List.set_cons_succ]
              refine wpAnyH_done (by kernel_rfl) ?_ _
              refine only_in ?_
              go_wp2_with fail
              exact ⟨⟨k + 1, by omega, by go_num, Lib.hid (by first | exact HX.out | exact (HX.out).drew), Lib.hid (by exact H6.out), by first | exact hw | exact bdraws hw _⟩, by simp [intOf]; omega⟩
            · have HH := Lib.hid hh
              clear hfound' hh
              rcases Bool.eq_false_or_eq_true fb with hb0 | hb0
              · subst hb0
                have hbet := hbet' rfl
                clear hbet'
                by_cases hlt4 : fi < i
                · have hlt5 : decide (i ≤ a1) = false := decide_eq_false (fun h => hbet ⟨hlt4, h⟩)
                  have hlt6 : decide (fi < i) = true := decide_eq_true hlt4
                  have hlt7 : a1 < i := by have := of_decide_eq_false hlt5; omega
                  clear hbet
                  go_wp2_with fail
                  refine wp_only ?_
                  refine wp_region_held_drew (S := (fun w' => w'.cell? ⟨g, k * 4, none⟩ = some (.int .u64 i) ∧ w'.cell? ⟨g, k * 4 + 1, none⟩ = some (.int .u64 o) ∧ w'.cell? ⟨g, k * 4 + 2, none⟩ = some (.int .u32 l) ∧ w'.cell? ⟨g, k * 4 + 3, none⟩ = some (.int .u32 r) ∧ w'.cell? ⟨wa.heap.size, 0, none⟩ = some (.int .u64 fi) ∧ w'.cell? ⟨wa.heap.size, 1, none⟩ = some (.int .u64 fo) ∧ w'.cell? ⟨wa.heap.size, 2, none⟩ = some (.int .u32 fl) ∧ w'.cell? ⟨wa.heap.size, 3, none⟩ = some (.int .u32 fr))) (by kernel_rfl) (by (try dsimp only); exact cells8 HC.out HX.out H6.out) (fun hHeld => ?_)
                  simp only [List.size_toArray, List.length_cons, List.length_nil, Nat.zero_add, Nat.reduceAdd]
                  refine held_take (i := 0) (v := ?_) rfl (by kernel_rfl) (by kernel_rfl) (by kernel_rfl) (fun _ _ _ h => h) (by rfl) ?_ (by assumption) ?_
                  rotate_left
                  · intro w hSw
                    (try dsimp only at hSw)
                    go_simp
                    try with_reducible rfl
                  try simp only [Act.put, List.setIfInBounds_toArray, List.set_cons_zero, List.set_cons_succ]
                  refine held_take (i := 1) (v := ?_) rfl (by kernel_rfl) (by kernel_rfl) (by kernel_rfl) (fun _ _ _ h => h) (by rfl) ?_ (by assumption) ?_
                  rotate_left
                  · intro w hSw
                    (try dsimp only at hSw)
                    go_simp
                    try with_reducible rfl
                  try simp only [Act.put, List.setIfInBounds_toArray, List.set_cons_zero, List.set_cons_succ]
                  refine held_take (i := 2) (v := ?_) rfl (by kernel_rfl) (by kernel_rfl) (by kernel_rfl) (fun _ _ _ h => h) (by rfl) ?_ (by assumption) ?_
                  rotate_left
                  · intro w hSw
                    (try dsimp only at hSw)
                    go_simp
                    try with_reducible rfl
                  try simp only [Act.put, List.setIfInBounds_toArray, List.set_cons_zero, List.set_cons_succ]
                  refine held_take (i := 3) (v := ?_) rfl (by kernel_rfl) (by kernel_rfl) (by kernel_rfl) (fun _ _ _ h => h) (by rfl) ?_ (by assumption) ?_
                  rotate_left
                  · intro w hSw
                    (try dsimp only at hSw)
                    go_simp
                    try with_reducible rfl
                  try simp only [Act.put, List.setIfInBounds_toArray, List.set_cons_zero, List.set_cons_succ]
                  refine held_take (i := 4) (v := ?_) rfl (by kernel_rfl) (by kernel_rfl) (by kernel_rfl) (fun _ _ _ h => h) (by rfl) ?_ (by assumption) ?_
                  rotate_left
                  · intro w hSw
                    (try dsimp only at hSw)
                    go_simp
                    try with_reducible rfl
                  try simp only [Act.put, List.setIfInBounds_toArray, List.set_cons_zero, List.set_cons_succ]
                  refine held_call (i := 5) (by kernel_rfl) rfl (fun K hK => ?_)
                  go_simp
                  refine (has_any _ _ _ _ _ HG.out _).mono ?_; rintro e w5 ⟨he, hb⟩; rw [HH.out] at he; subst he; replace HX := Lib.hid (ownsRow_keep (by exact HX.out) hb); replace H6 := Lib.hid (blk_keep2 hb H6.out); replace hw := bthen2 hb (by first | exact hw | exact Below.drew hw | exact bdraws hw _); clear hb
                  refine hK.out _ _ (by (try dsimp only); exact cells8 HC.out HX.out H6.out) (fun hHeld => ?_)
                  clear hK K
                  try simp only [Act.put, List.setIfInBounds_toArray, List.set_cons_zero, List.set_cons_succ]
                  refine held_take (i := 6) (v := ?_) rfl (by kernel_rfl) (by kernel_rfl) (by kernel_rfl) (fun _ _ _ h => h) (by rfl) ?_ (by assumption) ?_
                  rotate_left
                  · intro w hSw
                    (try dsimp only at hSw)
                    go_simp
                    try with_reducible rfl
                  try simp only [Act.put, List.setIfInBounds_toArray, List.set_cons_zero, List.set_cons_succ]
                  refine held_skip (i := 7) rfl (by kernel_rfl) (by kernel_rfl) (by kernel_rfl) (fun _ _ _ h => h) (by rfl) (by assumption) ?_
                  try simp only [Act.put, List.setIfInBounds_toArray, List.set_cons_zero, List.set_cons_succ]
                  refine held_skip (i := 8) rfl (by kernel_rfl) (by kernel_rfl) (by kernel_rfl) (fun _ _ _ h => h) (by rfl) (by assumption) ?_
                  try simp only [Act.put, List.setIfInBounds_toArray, List.set_cons_zero, List.set_cons_succ]
                  refine held_skip (i := 9) rfl (by kernel_rfl) (by kernel_rfl) (by kernel_rfl) (fun _ _ _ h => h) (by rfl) (by assumption) ?_
                  try simp only [Act.put, List.setIfInBounds_toArray, List.set_cons_zero, List.set_cons_succ]
                  refine held_skip (i := 10) rfl (by kernel_rfl) (by kernel_rfl) (by kernel_rfl) (fun _ _ _ h => h) (by rfl) (by assumption) ?_
                  try simp only [Act.put, List.setIfInBounds_toArray, List.set_cons_zero, List.set_cons_succ]
                  refine held_skip (i := 11) rfl (by kernel_rfl) (by kernel_rfl) (by kernel_rfl) (fun _ _ _ h => h) (by rfl) (by assumption) ?_
                  try simp only [Act.put, List.setIfInBounds_toArray, List.set_cons_zero, List.set_cons_succ]
                  refine held_skip (i := 12) rfl (by kernel_rfl) (by kernel_rfl) (by kernel_rfl) (fun _ _ _ h => h) (by rfl) (by assumption) ?_
                  try simp only [Act.put, List.setIfInBounds_toArray, List.set_cons_zero, List.set_cons_succ]
                  refine held_skip (i := 13) rfl (by kernel_rfl) (by kernel_rfl) (by kernel_rfl) (fun _ _ _ h => h) (by rfl) (by assumption) ?_
                  try simp only [Act.put, List.setIfInBounds_toArray, List.set_cons_zero, List.set_cons_succ]
                  refine held_skip (i := 14) rfl (by kernel_rfl) (by kernel_rfl) (by kernel_rfl) (fun _ _ _ h => h) (by rfl) (by assumption) ?_
                  try simp only [Act.put, List.setIfInBounds_toArray, List.set_cons_zero, List.set_cons_succ]
                  refine held_skip (i := 15) rfl (by kernel_rfl) (by kernel_rfl) (by kernel_rfl) (fun _ _ _ h => h) (by rfl) (by assumption) ?_
                  try simp only [Act.put, List.setIfInBounds_toArray, List.set_cons_zero, List.set_cons_succ]
                  refine held_skip (i := 16) rfl (by kernel_rfl) (by kernel_rfl) (by kernel_rfl) (fun _ _ _ h => h) (by rfl) (by assumption) ?_
                  try simp only [Act.put, List.setIfInBounds_toArray, List.set_cons_zero, List.set_cons_succ]
                  refine held_take (i := 17) (v := ?_) rfl (by kernel_rfl) (by kernel_rfl) (by kernel_rfl) (fun _ _ _ h => h) (by rfl) ?_ (by assumption) ?_
                  rotate_left
                  · intro w hSw
                    (try dsimp only at hSw)
                    go_simp
                    try with_reducible rfl
                  try simp only [Act.put, List.setIfInBounds_toArray, List.set_cons_zero, List.set_cons_succ]
                  refine held_take (i := 18) (v := ?_) rfl (by kernel_rfl) (by kernel_rfl) (by kernel_rfl) (fun _ _ _ h => h) (by rfl) ?_ (by assumption) ?_
                  rotate_left
                  · intro w hSw
                    (try dsimp only at hSw)
                    go_simp
                    try with_reducible rfl
                  try simp only [Act.put, List.setIfInBounds_toArray, List.set_cons_zero, List.set_cons_succ]
                  refine held_take (i := 19) (v := ?_) rfl (by kernel_rfl) (by kernel_rfl) (by kernel_rfl) (fun _ _ _ h => h) (by rfl) ?_ (by assumption) ?_
                  rotate_left
                  · intro w hSw
                    (try dsimp only at hSw)
                    go_simp
                    try with_reducible rfl
                  try simp only [Act.put, List.setIfInBounds_toArray, List.set_cons_zero, List.set_cons_succ]
                  refine held_take (i := 20) (v := ?_) rfl (by kernel_rfl) (by kernel_rfl) (by kernel_rfl) (fun _ _ _ h => h) (by rfl) ?_ (by assumption) ?_
                  rotate_left
                  · intro w hSw
                    (try dsimp only at hSw)
                    go_simp
                    try with_reducible rfl
                  try simp only [Act.put, List.setIfInBounds_toArray, List.set_cons_zero, List.set_cons_succ]
                  refine held_take (i := 21) (v := ?_) rfl (by kernel_rfl) (by kernel_rfl) (by kernel_rfl) (fun _ _ _ h => h) (by rfl) ?_ (by assumption) ?_
                  rotate_left
                  · intro w hSw
                    (try dsimp only at hSw)
                    go_simp
                    try with_reducible rfl
                  try simp only [Act.put, List.setIfInBounds_toArray, List.set_cons_zero, List.set_cons_succ]
                  refine held_take (i := 22) (v := ?_) rfl (by kernel_rfl) (by kernel_rfl) (by kernel_rfl) (fun _ _ _ h => h) (by rfl) ?_ (by assumption) ?_
                  rotate_left
                  · intro w hSw
                    (try dsimp only at hSw)
                    go_simp
                    try with_reducible rfl
                  try simp only [Act.put, List.setIfInBounds_toArray, List.set_cons_zero, List.set_cons_succ]
                  refine held_take (i := 23) (v := ?_) rfl (by kernel_rfl) (by kernel_rfl) (by kernel_rfl) (fun _ _ _ h => h) (by rfl) ?_ (by assumption) ?_
                  rotate_left
                  · intro w hSw
                    (try dsimp only at hSw)
                    go_simp
                    try with_reducible rfl
                  try simp only [Act.put, List.setIfInBounds_toArray, List.set_cons_zero, List.set_cons_succ]
                  refine held_take (i := 24) (v := ?_) rfl (by kernel_rfl) (by kernel_rfl) (by kernel_rfl) (fun _ _ _ h => h) (by rfl) ?_ (by assumption) ?_
                  rotate_left
                  · intro w hSw
                    (try dsimp only at hSw)
                    go_simp
                    try with_reducible rfl
                  try simp only [Act.put, List.setIfInBounds_toArray, List.set_cons_zero, List.set_cons_succ]
                  refine held_take (i := 25) (v := ?_) rfl (by kernel_rfl) (by kernel_rfl) (by kernel_rfl) (fun _ _ _ h => h) (by rfl) ?_ (by assumption) ?_
                  rotate_left
                  · intro w hSw
                    (try dsimp only at hSw)
                    go_simp
                    try with_reducible rfl
                  try simp only [Act.put, List.setIfInBounds_toArray, List.set_cons_zero, List.set_cons_succ]
                  refine held_take (i := 26) (v := ?_) rfl (by kernel_rfl) (by kernel_rfl) (by kernel_rfl) (fun _ _ _ h => h) (by rfl) ?_ (by assumption) ?_
                  rotate_left
                  · intro w hSw
                    (try dsimp only at hSw)
                    go_simp
                    try with_reducible rfl
                  try simp only [Act.put, List.setIfInBounds_toArray, List.set_cons_zero, List.set_cons_succ]
                  refine held_take (i := 27) (v := ?_) rfl (by kernel_rfl) (by kernel_rfl) (by kernel_rfl) (fun _ _ _ h => h) (by rfl) ?_ (by assumption) ?_
                  rotate_left
                  · intro w hSw
                    (try dsimp only at hSw)
                    go_simp
                    try with_reducible rfl
                  try simp only [Act.put, List.setIfInBounds_toArray, List.set_cons_zero, List.set_cons_succ]
                  refine held_take (i := 28) (v := ?_) rfl (by kernel_rfl) (by kernel_rfl) (by kernel_rfl) (fun _ _ _ h => h) (by rfl) ?_ (by assumption) ?_
                  rotate_left
                  · intro w hSw
                    (try dsimp only at hSw)
                    go_simp
                    try with_reducible rfl
                  try simp only [Act.put, List.setIfInBounds_toArray, List.set_cons_zero, List.set_cons_succ]
                  refine held_take (i := 29) (v := ?_) rfl (by kernel_rfl) (by kernel_rfl) (by kernel_rfl) (fun _ _ _ h => h) (by rfl) ?_ (by assumption) ?_
                  rotate_left
                  · intro w hSw
                    (try dsimp only at hSw)
                    go_simp
                    try with_reducible rfl
                  try simp only [Act.put, List.setIfInBounds_toArray, List.set_cons_zero, List.set_cons_succ]
                  refine held_take (i := 30) (v := ?_) rfl (by kernel_rfl) (by kernel_rfl) (by kernel_rfl) (fun _ _ _ h => h) (by rfl) ?_ (by assumption) ?_
                  rotate_left
                  · intro w hSw
                    (try dsimp only at hSw)
                    go_simp
                    try with_reducible rfl
                  try simp only [Act.put, List.setIfInBounds_toArray, List.set_cons_zero, List.set_cons_succ]
                  refine held_take (i := 31) (v := ?_) rfl (by kernel_rfl) (by kernel_rfl) (by kernel_rfl) (fun _ _ _ h => h) (by rfl) ?_ (by assumption) ?_
                  rotate_left
                  · intro w hSw
                    (try dsimp only at hSw)
                    go_simp
                    try with_reducible rfl
                  try simp only [Act.put, List.setIfInBounds_toArray, List.set_cons_zero, List.set_cons_succ]
                  refine held_take (i := 32) (v := ?_) rfl (by kernel_rfl) (by kernel_rfl) (by kernel_rfl) (fun _ _ _ h => h) (by rfl) ?_ (by assumption) ?_
                  rotate_left
                  · intro w hSw
                    (try dsimp only at hSw)
                    go_simp
                    try with_reducible rfl
                  try simp only [Act.put, List.setIfInBounds_toArray, List.set_cons_zero, List.set_cons_succ]
                  refine held_take (i := 33) (v := ?_) rfl (by kernel_rfl) (by kernel_rfl) (by kernel_rfl) (fun _ _ _ h => h) (by rfl) ?_ (by assumption) ?_
                  rotate_left
                  · intro w hSw
                    (try dsimp only at hSw)
                    go_simp
                    try with_reducible rfl
                  try simp only [Act.put, List.setIfInBounds_toArray, List.set_cons_zero, List.set_cons_succ]
                  refine held_take (i := 34) (v := ?_) rfl (by kernel_rfl) (by kernel_rfl) (by kernel_rfl) (fun _ _ _ h => h) (by rfl) ?_ (by assumption) ?_
                  rotate_left
                  · intro w hSw
                    (try dsimp only at hSw)
                    go_simp
                    try with_reducible rfl
                  try simp only [Act.put, List.setIfInBounds_toArray, List.set_cons_zero, List.set_cons_succ]
                  refine held_take (i := 35) (v := ?_) rfl (by kernel_rfl) (by kernel_rfl) (by kernel_rfl) (fun _ _ _ h => h) (by rfl) ?_ (by assumption) ?_
                  rotate_left
                  · intro w hSw
                    (try dsimp only at hSw)
                    go_simp
                    try with_reducible rfl
                  try simp only [Act.put, List.setIfInBounds_toArray, List.set_cons_zero, List.set_cons_succ]
                  refine held_take (i := 36) (v := ?_) rfl (by kernel_rfl) (by kernel_rfl) (by kernel_rfl) (fun _ _ _ h => h) (by rfl) ?_ (by assumption) ?_
                  rotate_left
                  · intro w hSw
                    (try dsimp only at hSw)
                    go_simp
                    try with_reducible rfl
                  try simp only [Act.put, List.setIfInBounds_toArray, List.set_cons_zero, List.set_cons_succ]
                  refine held_take (i := 37) (v := ?_) rfl (by kernel_rfl) (by kernel_rfl) (by kernel_rfl) (fun _ _ _ h => h) (by rfl) ?_ (by assumption) ?_
                  rotate_left
                  · intro w hSw
                    (try dsimp only at hSw)
                    go_simp
                    try with_reducible rfl
                  try simp only [Act.put, List.setIfInBounds_toArray, List.set_cons_zero, List.set_cons_succ]
                  refine held_take (i := 38) (v := ?_) rfl (by kernel_rfl) (by kernel_rfl) (by kernel_rfl) (fun _ _ _ h => h) (by rfl) ?_ (by assumption) ?_
                  rotate_left
                  · intro w hSw
                    (try dsimp only at hSw)
                    go_simp
                    try with_reducible rfl
                  try simp only [Act.put, List.setIfInBounds_toArray, List.set_cons_zero, List.set_cons_succ]
                  refine held_take (i := 39) (v := ?_) rfl (by kernel_rfl) (by kernel_rfl) (by kernel_rfl) (fun _ _ _ h => h) (by rfl) ?_ (by assumption) ?_
                  rotate_left
                  · intro w hSw
                    (try dsimp only at hSw)
                    go_simp
                    try with_reducible rfl
                  try simp only [Act.put, List.setIfInBounds_toArray, List.set_cons_zero, List.set_cons_succ]
                  refine wpAnyH_done (by kernel_rfl) ?_ _
                  refine only_in ?_
                  go_wp2_with fail
                  exact ⟨⟨k + 1, by omega, by go_num, Lib.hid (by first | exact HX.out | exact (HX.out).drew), Lib.hid (by exact H6.out), by first | exact hw | exact bdraws hw _⟩, by simp [intOf]; omega⟩
                · have hlt6 : decide (fi < i) = false := decide_eq_false hlt4
                  have hlt7 : i ≤ fi := by omega
                  clear hbet
                  go_wp2_with fail
                  refine wp_only ?_
                  refine wp_region_held_drew (S := (fun w' => w'.cell? ⟨g, k * 4, none⟩ = some (.int .u64 i) ∧ w'.cell? ⟨g, k * 4 + 1, none⟩ = some (.int .u64 o) ∧ w'.cell? ⟨g, k * 4 + 2, none⟩ = some (.int .u32 l) ∧ w'.cell? ⟨g, k * 4 + 3, none⟩ = some (.int .u32 r) ∧ w'.cell? ⟨wa.heap.size, 0, none⟩ = some (.int .u64 fi) ∧ w'.cell? ⟨wa.heap.size, 1, none⟩ = some (.int .u64 fo) ∧ w'.cell? ⟨wa.heap.size, 2, none⟩ = some (.int .u32 fl) ∧ w'.cell? ⟨wa.heap.size, 3, none⟩ = some (.int .u32 fr))) (by kernel_rfl) (by (try dsimp only); exact cells8 HC.out HX.out H6.out) (fun hHeld => ?_)
                  simp only [List.size_toArray, List.length_cons, List.length_nil, Nat.zero_add, Nat.reduceAdd]
                  refine held_take (i := 0) (v := ?_) rfl (by kernel_rfl) (by kernel_rfl) (by kernel_rfl) (fun _ _ _ h => h) (by rfl) ?_ (by assumption) ?_
                  rotate_left
                  · intro w hSw
                    (try dsimp only at hSw)
                    go_simp
                    try with_reducible rfl
                  try simp only [Act.put, List.setIfInBounds_toArray, List.set_cons_zero, List.set_cons_succ]
                  refine held_take (i := 1) (v := ?_) rfl (by kernel_rfl) (by kernel_rfl) (by kernel_rfl) (fun _ _ _ h => h) (by rfl) ?_ (by assumption) ?_
                  rotate_left
                  · intro w hSw
                    (try dsimp only at hSw)
                    go_simp
                    try with_reducible rfl
                  try simp only [Act.put, List.setIfInBounds_toArray, List.set_cons_zero, List.set_cons_succ]
                  refine held_take (i := 2) (v := ?_) rfl (by kernel_rfl) (by kernel_rfl) (by kernel_rfl) (fun _ _ _ h => h) (by rfl) ?_ (by assumption) ?_
                  rotate_left
                  · intro w hSw
                    (try dsimp only at hSw)
                    go_simp
                    try with_reducible rfl
                  try simp only [Act.put, List.setIfInBounds_toArray, List.set_cons_zero, List.set_cons_succ]
                  refine held_take (i := 3) (v := ?_) rfl (by kernel_rfl) (by kernel_rfl) (by kernel_rfl) (fun _ _ _ h => h) (by rfl) ?_ (by assumption) ?_
                  rotate_left
                  · intro w hSw
                    (try dsimp only at hSw)
                    go_simp
                    try with_reducible rfl
                  try simp only [Act.put, List.setIfInBounds_toArray, List.set_cons_zero, List.set_cons_succ]
                  refine held_take (i := 4) (v := ?_) rfl (by kernel_rfl) (by kernel_rfl) (by kernel_rfl) (fun _ _ _ h => h) (by rfl) ?_ (by assumption) ?_
                  rotate_left
                  · intro w hSw
                    (try dsimp only at hSw)
                    go_simp
                    try with_reducible rfl
                  try simp only [Act.put, List.setIfInBounds_toArray, List.set_cons_zero, List.set_cons_succ]
                  refine held_call (i := 5) (by kernel_rfl) rfl (fun K hK => ?_)
                  go_simp
                  refine (has_any _ _ _ _ _ HG.out _).mono ?_; rintro e w5 ⟨he, hb⟩; rw [HH.out] at he; subst he; replace HX := Lib.hid (ownsRow_keep (by exact HX.out) hb); replace H6 := Lib.hid (blk_keep2 hb H6.out); replace hw := bthen2 hb (by first | exact hw | exact Below.drew hw | exact bdraws hw _); clear hb
                  refine hK.out _ _ (by (try dsimp only); exact cells8 HC.out HX.out H6.out) (fun hHeld => ?_)
                  clear hK K
                  try simp only [Act.put, List.setIfInBounds_toArray, List.set_cons_zero, List.set_cons_succ]
                  refine held_take (i := 6) (v := ?_) rfl (by kernel_rfl) (by kernel_rfl) (by kernel_rfl) (fun _ _ _ h => h) (by rfl) ?_ (by assumption) ?_
                  rotate_left
                  · intro w hSw
                    (try dsimp only at hSw)
                    go_simp
                    try with_reducible rfl
                  try simp only [Act.put, List.setIfInBounds_toArray, List.set_cons_zero, List.set_cons_succ]
                  refine held_skip (i := 7) rfl (by kernel_rfl) (by kernel_rfl) (by kernel_rfl) (fun _ _ _ h => h) (by rfl) (by assumption) ?_
                  try simp only [Act.put, List.setIfInBounds_toArray, List.set_cons_zero, List.set_cons_succ]
                  refine held_skip (i := 8) rfl (by kernel_rfl) (by kernel_rfl) (by kernel_rfl) (fun _ _ _ h => h) (by rfl) (by assumption) ?_
                  try simp only [Act.put, List.setIfInBounds_toArray, List.set_cons_zero, List.set_cons_succ]
                  refine held_skip (i := 9) rfl (by kernel_rfl) (by kernel_rfl) (by kernel_rfl) (fun _ _ _ h => h) (by rfl) (by assumption) ?_
                  try simp only [Act.put, List.setIfInBounds_toArray, List.set_cons_zero, List.set_cons_succ]
                  refine held_skip (i := 10) rfl (by kernel_rfl) (by kernel_rfl) (by kernel_rfl) (fun _ _ _ h => h) (by rfl) (by assumption) ?_
                  try simp only [Act.put, List.setIfInBounds_toArray, List.set_cons_zero, List.set_cons_succ]
                  refine held_skip (i := 11) rfl (by kernel_rfl) (by kernel_rfl) (by kernel_rfl) (fun _ _ _ h => h) (by rfl) (by assumption) ?_
                  try simp only [Act.put, List.setIfInBounds_toArray, List.set_cons_zero, List.set_cons_succ]
                  refine held_skip (i := 12) rfl (by kernel_rfl) (by kernel_rfl) (by kernel_rfl) (fun _ _ _ h => h) (by rfl) (by assumption) ?_
                  try simp only [Act.put, List.setIfInBounds_toArray, List.set_cons_zero, List.set_cons_succ]
                  refine held_skip (i := 13) rfl (by kernel_rfl) (by kernel_rfl) (by kernel_rfl) (fun _ _ _ h => h) (by rfl) (by assumption) ?_
                  try simp only [Act.put, List.setIfInBounds_toArray, List.set_cons_zero, List.set_cons_succ]
                  refine held_skip (i := 14) rfl (by kernel_rfl) (by kernel_rfl) (by kernel_rfl) (fun _ _ _ h => h) (by rfl) (by assumption) ?_
                  try simp only [Act.put, List.setIfInBounds_toArray, List.set_cons_zero, List.set_cons_succ]
                  refine held_skip (i := 15) rfl (by kernel_rfl) (by kernel_rfl) (by kernel_rfl) (fun _ _ _ h => h) (by rfl) (by assumption) ?_
                  try simp only [Act.put, List.setIfInBounds_toArray, List.set_cons_zero, List.set_cons_succ]
                  refine held_skip (i := 16) rfl (by kernel_rfl) (by kernel_rfl) (by kernel_rfl) (fun _ _ _ h => h) (by rfl) (by assumption) ?_
                  try simp only [Act.put, List.setIfInBounds_toArray, List.set_cons_zero, List.set_cons_succ]
                  refine held_take (i := 17) (v := ?_) rfl (by kernel_rfl) (by kernel_rfl) (by kernel_rfl) (fun _ _ _ h => h) (by rfl) ?_ (by assumption) ?_
                  rotate_left
                  · intro w hSw
                    (try dsimp only at hSw)
                    go_simp
                    try with_reducible rfl
                  try simp only [Act.put, List.setIfInBounds_toArray, List.set_cons_zero, List.set_cons_succ]
                  refine held_take (i := 18) (v := ?_) rfl (by kernel_rfl) (by kernel_rfl) (by kernel_rfl) (fun _ _ _ h => h) (by rfl) ?_ (by assumption) ?_
                  rotate_left
                  · intro w hSw
                    (try dsimp only at hSw)
                    go_simp
                    try with_reducible rfl
                  try simp only [Act.put, List.setIfInBounds_toArray, List.set_cons_zero, List.set_cons_succ]
                  refine held_take (i := 19) (v := ?_) rfl (by kernel_rfl) (by kernel_rfl) (by kernel_rfl) (fun _ _ _ h => h) (by rfl) ?_ (by assumption) ?_
                  rotate_left
                  · intro w hSw
                    (try dsimp only at hSw)
                    go_simp
                    try with_reducible rfl
                  try simp only [Act.put, List.setIfInBounds_toArray, List.set_cons_zero, List.set_cons_succ]
                  refine held_take (i := 20) (v := ?_) rfl (by kernel_rfl) (by kernel_rfl) (by kernel_rfl) (fun _ _ _ h => h) (by rfl) ?_ (by assumption) ?_
                  rotate_left
                  · intro w hSw
                    (try dsimp only at hSw)
                    go_simp
                    try with_reducible rfl
                  try simp only [Act.put, List.setIfInBounds_toArray, List.set_cons_zero, List.set_cons_succ]
                  refine held_take (i := 21) (v := ?_) rfl (by kernel_rfl) (by kernel_rfl) (by kernel_rfl) (fun _ _ _ h => h) (by rfl) ?_ (by assumption) ?_
                  rotate_left
                  · intro w hSw
                    (try dsimp only at hSw)
                    go_simp
                    try with_reducible rfl
                  try simp only [Act.put, List.setIfInBounds_toArray, List.set_cons_zero, List.set_cons_succ]
                  refine held_take (i := 22) (v := ?_) rfl (by kernel_rfl) (by kernel_rfl) (by kernel_rfl) (fun _ _ _ h => h) (by rfl) ?_ (by assumption) ?_
                  rotate_left
                  · intro w hSw
                    (try dsimp only at hSw)
                    go_simp
                    try with_reducible rfl
                  try simp only [Act.put, List.setIfInBounds_toArray, List.set_cons_zero, List.set_cons_succ]
                  refine held_take (i := 23) (v := ?_) rfl (by kernel_rfl) (by kernel_rfl) (by kernel_rfl) (fun _ _ _ h => h) (by rfl) ?_ (by assumption) ?_
                  rotate_left
                  · intro w hSw
                    (try dsimp only at hSw)
                    go_simp
                    try with_reducible rfl
                  try simp only [Act.put, List.setIfInBounds_toArray, List.set_cons_zero, List.set_cons_succ]
                  refine held_take (i := 24) (v := ?_) rfl (by kernel_rfl) (by kernel_rfl) (by kernel_rfl) (fun _ _ _ h => h) (by rfl) ?_ (by assumption) ?_
                  rotate_left
                  · intro w hSw
                    (try dsimp only at hSw)
                    go_simp
                    try with_reducible rfl
                  try simp only [Act.put, List.setIfInBounds_toArray, List.set_cons_zero, List.set_cons_succ]
                  refine held_take (i := 25) (v := ?_) rfl (by kernel_rfl) (by kernel_rfl) (by kernel_rfl) (fun _ _ _ h => h) (by rfl) ?_ (by assumption) ?_
                  rotate_left
                  · intro w hSw
                    (try dsimp only at hSw)
                    go_simp
                    try with_reducible rfl
                  try simp only [Act.put, List.setIfInBounds_toArray, List.set_cons_zero, List.set_cons_succ]
                  refine held_take (i := 26) (v := ?_) rfl (by kernel_rfl) (by kernel_rfl) (by kernel_rfl) (fun _ _ _ h => h) (by rfl) ?_ (by assumption) ?_
                  rotate_left
                  · intro w hSw
                    (try dsimp only at hSw)
                    go_simp
                    try with_reducible rfl
                  try simp only [Act.put, List.setIfInBounds_toArray, List.set_cons_zero, List.set_cons_succ]
                  refine held_take (i := 27) (v := ?_) rfl (by kernel_rfl) (by kernel_rfl) (by kernel_rfl) (fun _ _ _ h => h) (by rfl) ?_ (by assumption) ?_
                  rotate_left
                  · intro w hSw
                    (try dsimp only at hSw)
                    go_simp
                    try with_reducible rfl
                  try simp only [Act.put, List.setIfInBounds_toArray, List.set_cons_zero, List.set_cons_succ]
                  refine held_take (i := 28) (v := ?_) rfl (by kernel_rfl) (by kernel_rfl) (by kernel_rfl) (fun _ _ _ h => h) (by rfl) ?_ (by assumption) ?_
                  rotate_left
                  · intro w hSw
                    (try dsimp only at hSw)
                    go_simp
                    try with_reducible rfl
                  try simp only [Act.put, List.setIfInBounds_toArray, List.set_cons_zero, List.set_cons_succ]
                  refine held_take (i := 29) (v := ?_) rfl (by kernel_rfl) (by kernel_rfl) (by kernel_rfl) (fun _ _ _ h => h) (by rfl) ?_ (by assumption) ?_
                  rotate_left
                  · intro w hSw
                    (try dsimp only at hSw)
                    go_simp
                    try with_reducible rfl
                  try simp only [Act.put, List.setIfInBounds_toArray, List.set_cons_zero, List.set_cons_succ]
                  refine held_take (i := 30) (v := ?_) rfl (by kernel_rfl) (by kernel_rfl) (by kernel_rfl) (fun _ _ _ h => h) (by rfl) ?_ (by assumption) ?_
                  rotate_left
                  · intro w hSw
                    (try dsimp only at hSw)
                    go_simp
                    try with_reducible rfl
                  try simp only [Act.put, List.setIfInBounds_toArray, List.set_cons_zero, List.set_cons_succ]
                  refine held_skip (i := 31) rfl (by kernel_rfl) (by kernel_rfl) (by kernel_rfl) (fun _ _ _ h => h) (by rfl) (by assumption) ?_
                  try simp only [Act.put, List.setIfInBounds_toArray, List.set_cons_zero, List.set_cons_succ]
                  refine held_skip (i := 32) rfl (by kernel_rfl) (by kernel_rfl) (by kernel_rfl) (fun _ _ _ h => h) (by rfl) (by assumption) ?_
                  try simp only [Act.put, List.setIfInBounds_toArray, List.set_cons_zero, List.set_cons_succ]
                  refine held_skip (i := 33) rfl (by kernel_rfl) (by kernel_rfl) (by kernel_rfl) (fun _ _ _ h => h) (by rfl) (by assumption) ?_
                  try simp only [Act.put, List.setIfInBounds_toArray, List.set_cons_zero, List.set_cons_succ]
                  refine held_skip (i := 34) rfl (by kernel_rfl) (by kernel_rfl) (by kernel_rfl) (fun _ _ _ h => h) (by rfl) (by assumption) ?_
                  try simp only [Act.put, List.setIfInBounds_toArray, List.set_cons_zero, List.set_cons_succ]
                  refine held_skip (i := 35) rfl (by kernel_rfl) (by kernel_rfl) (by kernel_rfl) (fun _ _ _ h => h) (by rfl) (by assumption) ?_
                  try simp only [Act.put, List.setIfInBounds_toArray, List.set_cons_zero, List.set_cons_succ]
                  refine held_skip (i := 36) rfl (by kernel_rfl) (by kernel_rfl) (by kernel_rfl) (fun _ _ _ h => h) (by rfl) (by assumption) ?_
                  try simp only [Act.put, List.setIfInBounds_toArray, List.set_cons_zero, List.set_cons_succ]
                  refine held_skip (i := 37) rfl (by kernel_rfl) (by kernel_rfl) (by kernel_rfl) (fun _ _ _ h => h) (by rfl) (by assumption) ?_
                  try simp only [Act.put, List.setIfInBounds_toArray, List.set_cons_zero, List.set_cons_succ]
                  refine held_take (i := 38) (v := ?_) rfl (by kernel_rfl) (by kernel_rfl) (by kernel_rfl) (fun _ _ _ h => h) (by rfl) ?_ (by assumption) ?_
                  rotate_left
                  · intro w hSw
                    (try dsimp only at hSw)
                    go_simp
                    try with_reducible rfl
                  try simp only [Act.put, List.setIfInBounds_toArray, List.set_cons_zero, List.set_cons_succ]
                  refine held_take (i := 39) (v := ?_) rfl (by kernel_rfl) (by kernel_rfl) (by kernel_rfl) (fun _ _ _ h => h) (by rfl) ?_ (by assumption) ?_
                  rotate_left
                  · intro w hSw
                    (try dsimp only at hSw)
                    go_simp
                    try with_reducible rfl
                  try simp only [Act.put, List.setIfInBounds_toArray, List.set_cons_zero, List.set_cons_succ]
                  refine wpAnyH_done (by kernel_rfl) ?_ _
                  refine only_in ?_
                  go_wp2_with fail
                  exact ⟨⟨k + 1, by omega, by go_num, Lib.hid (by first | exact HX.out | exact (HX.out).drew), Lib.hid (by exact H6.out), by first | exact hw | exact bdraws hw _⟩, by simp [intOf]; omega⟩
              · subst hb0
                clear hbet'
                go_wp2_with fail
                refine wp_only ?_
                refine wp_region_held_drew (S := (fun w' => w'.cell? ⟨g, k * 4, none⟩ = some (.int .u64 i) ∧ w'.cell? ⟨g, k * 4 + 1, none⟩ = some (.int .u64 o) ∧ w'.cell? ⟨g, k * 4 + 2, none⟩ = some (.int .u32 l) ∧ w'.cell? ⟨g, k * 4 + 3, none⟩ = some (.int .u32 r) ∧ w'.cell? ⟨wa.heap.size, 0, none⟩ = some (.int .u64 fi) ∧ w'.cell? ⟨wa.heap.size, 1, none⟩ = some (.int .u64 fo) ∧ w'.cell? ⟨wa.heap.size, 2, none⟩ = some (.int .u32 fl) ∧ w'.cell? ⟨wa.heap.size, 3, none⟩ = some (.int .u32 fr))) (by kernel_rfl) (by (try dsimp only); exact cells8 HC.out HX.out H6.out) (fun hHeld => ?_)
                simp only [List.size_toArray, List.length_cons, List.length_nil, Nat.zero_add, Nat.reduceAdd]
                refine held_take (i := 0) (v := ?_) rfl (by kernel_rfl) (by kernel_rfl) (by kernel_rfl) (fun _ _ _ h => h) (by rfl) ?_ (by assumption) ?_
                rotate_left
                · intro w hSw
                  (try dsimp only at hSw)
                  go_simp
                  try with_reducible rfl
                try simp only [Act.put, List.setIfInBounds_toArray, List.set_cons_zero, List.set_cons_succ]
                refine held_take (i := 1) (v := ?_) rfl (by kernel_rfl) (by kernel_rfl) (by kernel_rfl) (fun _ _ _ h => h) (by rfl) ?_ (by assumption) ?_
                rotate_left
                · intro w hSw
                  (try dsimp only at hSw)
                  go_simp
                  try with_reducible rfl
                try simp only [Act.put, List.setIfInBounds_toArray, List.set_cons_zero, List.set_cons_succ]
                refine held_take (i := 2) (v := ?_) rfl (by kernel_rfl) (by kernel_rfl) (by kernel_rfl) (fun _ _ _ h => h) (by rfl) ?_ (by assumption) ?_
                rotate_left
                · intro w hSw
                  (try dsimp only at hSw)
                  go_simp
                  try with_reducible rfl
                try simp only [Act.put, List.setIfInBounds_toArray, List.set_cons_zero, List.set_cons_succ]
                refine held_take (i := 3) (v := ?_) rfl (by kernel_rfl) (by kernel_rfl) (by kernel_rfl) (fun _ _ _ h => h) (by rfl) ?_ (by assumption) ?_
                rotate_left
                · intro w hSw
                  (try dsimp only at hSw)
                  go_simp
                  try with_reducible rfl
                try simp only [Act.put, List.setIfInBounds_toArray, List.set_cons_zero, List.set_cons_succ]
                refine held_take (i := 4) (v := ?_) rfl (by kernel_rfl) (by kernel_rfl) (by kernel_rfl) (fun _ _ _ h => h) (by rfl) ?_ (by assumption) ?_
                rotate_left
                · intro w hSw
                  (try dsimp only at hSw)
                  go_simp
                  try with_reducible rfl
                try simp only [Act.put, List.setIfInBounds_toArray, List.set_cons_zero, List.set_cons_succ]
                refine held_call (i := 5) (by kernel_rfl) rfl (fun K hK => ?_)
                go_simp
                refine (has_any _ _ _ _ _ HG.out _).mono ?_; rintro e w5 ⟨he, hb⟩; rw [HH.out] at he; subst he; replace HX := Lib.hid (ownsRow_keep (by exact HX.out) hb); replace H6 := Lib.hid (blk_keep2 hb H6.out); replace hw := bthen2 hb (by first | exact hw | exact Below.drew hw | exact bdraws hw _); clear hb
                refine hK.out _ _ (by (try dsimp only); exact cells8 HC.out HX.out H6.out) (fun hHeld => ?_)
                clear hK K
                try simp only [Act.put, List.setIfInBounds_toArray, List.set_cons_zero, List.set_cons_succ]
                refine held_take (i := 6) (v := ?_) rfl (by kernel_rfl) (by kernel_rfl) (by kernel_rfl) (fun _ _ _ h => h) (by rfl) ?_ (by assumption) ?_
                rotate_left
                · intro w hSw
                  (try dsimp only at hSw)
                  go_simp
                  try with_reducible rfl
                try simp only [Act.put, List.setIfInBounds_toArray, List.set_cons_zero, List.set_cons_succ]
                refine held_skip (i := 7) rfl (by kernel_rfl) (by kernel_rfl) (by kernel_rfl) (fun _ _ _ h => h) (by rfl) (by assumption) ?_
                try simp only [Act.put, List.setIfInBounds_toArray, List.set_cons_zero, List.set_cons_succ]
                refine held_skip (i := 8) rfl (by kernel_rfl) (by kernel_rfl) (by kernel_rfl) (fun _ _ _ h => h) (by rfl) (by assumption) ?_
                try simp only [Act.put, List.setIfInBounds_toArray, List.set_cons_zero, List.set_cons_succ]
                refine held_skip (i := 9) rfl (by kernel_rfl) (by kernel_rfl) (by kernel_rfl) (fun _ _ _ h => h) (by rfl) (by assumption) ?_
                try simp only [Act.put, List.setIfInBounds_toArray, List.set_cons_zero, List.set_cons_succ]
                refine held_skip (i := 10) rfl (by kernel_rfl) (by kernel_rfl) (by kernel_rfl) (fun _ _ _ h => h) (by rfl) (by assumption) ?_
                try simp only [Act.put, List.setIfInBounds_toArray, List.set_cons_zero, List.set_cons_succ]
                refine held_skip (i := 11) rfl (by kernel_rfl) (by kernel_rfl) (by kernel_rfl) (fun _ _ _ h => h) (by rfl) (by assumption) ?_
                try simp only [Act.put, List.setIfInBounds_toArray, List.set_cons_zero, List.set_cons_succ]
                refine held_skip (i := 12) rfl (by kernel_rfl) (by kernel_rfl) (by kernel_rfl) (fun _ _ _ h => h) (by rfl) (by assumption) ?_
                try simp only [Act.put, List.setIfInBounds_toArray, List.set_cons_zero, List.set_cons_succ]
                refine held_skip (i := 13) rfl (by kernel_rfl) (by kernel_rfl) (by kernel_rfl) (fun _ _ _ h => h) (by rfl) (by assumption) ?_
                try simp only [Act.put, List.setIfInBounds_toArray, List.set_cons_zero, List.set_cons_succ]
                refine held_skip (i := 14) rfl (by kernel_rfl) (by kernel_rfl) (by kernel_rfl) (fun _ _ _ h => h) (by rfl) (by assumption) ?_
                try simp only [Act.put, List.setIfInBounds_toArray, List.set_cons_zero, List.set_cons_succ]
                refine held_skip (i := 15) rfl (by kernel_rfl) (by kernel_rfl) (by kernel_rfl) (fun _ _ _ h => h) (by rfl) (by assumption) ?_
                try simp only [Act.put, List.setIfInBounds_toArray, List.set_cons_zero, List.set_cons_succ]
                refine held_skip (i := 16) rfl (by kernel_rfl) (by kernel_rfl) (by kernel_rfl) (fun _ _ _ h => h) (by rfl) (by assumption) ?_
                try simp only [Act.put, List.setIfInBounds_toArray, List.set_cons_zero, List.set_cons_succ]
                refine held_take (i := 17) (v := ?_) rfl (by kernel_rfl) (by kernel_rfl) (by kernel_rfl) (fun _ _ _ h => h) (by rfl) ?_ (by assumption) ?_
                rotate_left
                · intro w hSw
                  (try dsimp only at hSw)
                  go_simp
                  try with_reducible rfl
                try simp only [Act.put, List.setIfInBounds_toArray, List.set_cons_zero, List.set_cons_succ]
                refine held_take (i := 18) (v := ?_) rfl (by kernel_rfl) (by kernel_rfl) (by kernel_rfl) (fun _ _ _ h => h) (by rfl) ?_ (by assumption) ?_
                rotate_left
                · intro w hSw
                  (try dsimp only at hSw)
                  go_simp
                  try with_reducible rfl
                try simp only [Act.put, List.setIfInBounds_toArray, List.set_cons_zero, List.set_cons_succ]
                refine held_take (i := 19) (v := ?_) rfl (by kernel_rfl) (by kernel_rfl) (by kernel_rfl) (fun _ _ _ h => h) (by rfl) ?_ (by assumption) ?_
                rotate_left
                · intro w hSw
                  (try dsimp only at hSw)
                  go_simp
                  try with_reducible rfl
                try simp only [Act.put, List.setIfInBounds_toArray, List.set_cons_zero, List.set_cons_succ]
                refine held_take (i := 20) (v := ?_) rfl (by kernel_rfl) (by kernel_rfl) (by kernel_rfl) (fun _ _ _ h => h) (by rfl) ?_ (by assumption) ?_
                rotate_left
                · intro w hSw
                  (try dsimp only at hSw)
                  go_simp
                  try with_reducible rfl
                try simp only [Act.put, List.setIfInBounds_toArray, List.set_cons_zero, List.set_cons_succ]
                refine held_skip (i := 21) rfl (by kernel_rfl) (by kernel_rfl) (by kernel_rfl) (fun _ _ _ h => h) (by rfl) (by assumption) ?_
                try simp only [Act.put, List.setIfInBounds_toArray, List.set_cons_zero, List.set_cons_succ]
                refine held_skip (i := 22) rfl (by kernel_rfl) (by kernel_rfl) (by kernel_rfl) (fun _ _ _ h => h) (by rfl) (by assumption) ?_
                try simp only [Act.put, List.setIfInBounds_toArray, List.set_cons_zero, List.set_cons_succ]
                refine held_skip (i := 23) rfl (by kernel_rfl) (by kernel_rfl) (by kernel_rfl) (fun _ _ _ h => h) (by rfl) (by assumption) ?_
                try simp only [Act.put, List.setIfInBounds_toArray, List.set_cons_zero, List.set_cons_succ]
                refine held_skip (i := 24) rfl (by kernel_rfl) (by kernel_rfl) (by kernel_rfl) (fun _ _ _ h => h) (by rfl) (by assumption) ?_
                try simp only [Act.put, List.setIfInBounds_toArray, List.set_cons_zero, List.set_cons_succ]
                refine held_skip (i := 25) rfl (by kernel_rfl) (by kernel_rfl) (by kernel_rfl) (fun _ _ _ h => h) (by rfl) (by assumption) ?_
                try simp only [Act.put, List.setIfInBounds_toArray, List.set_cons_zero, List.set_cons_succ]
                refine held_skip (i := 26) rfl (by kernel_rfl) (by kernel_rfl) (by kernel_rfl) (fun _ _ _ h => h) (by rfl) (by assumption) ?_
                try simp only [Act.put, List.setIfInBounds_toArray, List.set_cons_zero, List.set_cons_succ]
                refine held_skip (i := 27) rfl (by kernel_rfl) (by kernel_rfl) (by kernel_rfl) (fun _ _ _ h => h) (by rfl) (by assumption) ?_
                try simp only [Act.put, List.setIfInBounds_toArray, List.set_cons_zero, List.set_cons_succ]
                refine held_skip (i := 28) rfl (by kernel_rfl) (by kernel_rfl) (by kernel_rfl) (fun _ _ _ h => h) (by rfl) (by assumption) ?_
                try simp only [Act.put, List.setIfInBounds_toArray, List.set_cons_zero, List.set_cons_succ]
                refine held_take (i := 29) (v := ?_) rfl (by kernel_rfl) (by kernel_rfl) (by kernel_rfl) (fun _ _ _ h => h) (by rfl) ?_ (by assumption) ?_
                rotate_left
                · intro w hSw
                  (try dsimp only at hSw)
                  go_simp
                  try with_reducible rfl
                try simp only [Act.put, List.setIfInBounds_toArray, List.set_cons_zero, List.set_cons_succ]
                refine held_take (i := 30) (v := ?_) rfl (by kernel_rfl) (by kernel_rfl) (by kernel_rfl) (fun _ _ _ h => h) (by rfl) ?_ (by assumption) ?_
                rotate_left
                · intro w hSw
                  (try dsimp only at hSw)
                  go_simp
                  try with_reducible rfl
                try simp only [Act.put, List.setIfInBounds_toArray, List.set_cons_zero, List.set_cons_succ]
                refine held_skip (i := 31) rfl (by kernel_rfl) (by kernel_rfl) (by kernel_rfl) (fun _ _ _ h => h) (by rfl) (by assumption) ?_
                try simp only [Act.put, List.setIfInBounds_toArray, List.set_cons_zero, List.set_cons_succ]
                refine held_skip (i := 32) rfl (by kernel_rfl) (by kernel_rfl) (by kernel_rfl) (fun _ _ _ h => h) (by rfl) (by assumption) ?_
                try simp only [Act.put, List.setIfInBounds_toArray, List.set_cons_zero, List.set_cons_succ]
                refine held_skip (i := 33) rfl (by kernel_rfl) (by kernel_rfl) (by kernel_rfl) (fun _ _ _ h => h) (by rfl) (by assumption) ?_
                try simp only [Act.put, List.setIfInBounds_toArray, List.set_cons_zero, List.set_cons_succ]
                refine held_skip (i := 34) rfl (by kernel_rfl) (by kernel_rfl) (by kernel_rfl) (fun _ _ _ h => h) (by rfl) (by assumption) ?_
                try simp only [Act.put, List.setIfInBounds_toArray, List.set_cons_zero, List.set_cons_succ]
                refine held_skip (i := 35) rfl (by kernel_rfl) (by kernel_rfl) (by kernel_rfl) (fun _ _ _ h => h) (by rfl) (by assumption) ?_
                try simp only [Act.put, List.setIfInBounds_toArray, List.set_cons_zero, List.set_cons_succ]
                refine held_skip (i := 36) rfl (by kernel_rfl) (by kernel_rfl) (by kernel_rfl) (fun _ _ _ h => h) (by rfl) (by assumption) ?_
                try simp only [Act.put, List.setIfInBounds_toArray, List.set_cons_zero, List.set_cons_succ]
                refine held_skip (i := 37) rfl (by kernel_rfl) (by kernel_rfl) (by kernel_rfl) (fun _ _ _ h => h) (by rfl) (by assumption) ?_
                try simp only [Act.put, List.setIfInBounds_toArray, List.set_cons_zero, List.set_cons_succ]
                refine held_take (i := 38) (v := ?_) rfl (by kernel_rfl) (by kernel_rfl) (by kernel_rfl) (fun _ _ _ h => h) (by rfl) ?_ (by assumption) ?_
                rotate_left
                · intro w hSw
                  (try dsimp only at hSw)
                  go_simp
                  try with_reducible rfl
                try simp only [Act.put, List.setIfInBounds_toArray, List.set_cons_zero, List.set_cons_succ]
                refine held_take (i := 39) (v := ?_) rfl (by kernel_rfl) (by kernel_rfl) (by kernel_rfl) (fun _ _ _ h => h) (by rfl) ?_ (by assumption) ?_
                rotate_left
                · intro w hSw
                  (try dsimp only at hSw)
                  go_simp
                  try with_reducible rfl
                try simp only [Act.put, List.setIfInBounds_toArray, List.set_cons_zero, List.set_cons_succ]
                refine wpAnyH_done (by kernel_rfl) ?_ _
                refine only_in ?_
                go_wp2_with fail
                exact ⟨⟨k + 1, by omega, by go_num, Lib.hid (by first | exact HX.out | exact (HX.out).drew), Lib.hid (by exact H6.out), by first | exact hw | exact bdraws hw _⟩, by simp [intOf]; omega⟩
          · have hkn : k = n0 := by omega
            subst hkn
            rcases Bool.eq_false_or_eq_true fb with hb0 | hb0
            · subst hb0
              have hpt := Sk.pointer (id := a1) HF0.out (by rw [← HFB.out])
              rw [← HFE.out] at hpt
              have hpt' : En.hs fi fo fl fr a1 = true ∨ (fr = 0 ∧ fi ≤ a1) := hpt
              clear hpt
              rcases Bool.eq_false_or_eq_true (En.hs fi fo fl fr a1) with hh | hh
              · have HH := Lib.hid hh
                clear hpt' hh
                obtain ⟨c0, c1, c2, c3⟩ := blk_cells4 H6.out
                go_wp2_with fail
                refine (has_any _ _ _ _ _ HFG.out _).mono ?_; rintro e w5 ⟨he, hb⟩
                rw [HH.out] at he
                subst he
                replace hw := bthen2 hb hw
                clear c0 c1 c2 c3 hb
                go_wp2_with fail
                refine (awake09 _).mono ?_; rintro e wz ⟨rfl, hb⟩
                replace hw := bthen2 hb hw
                clear hb
                go_wp2_with fail
                go_ret
                exact ⟨rfl, hw⟩
              · obtain ⟨hr0, hr1⟩ : fr = 0 ∧ fi ≤ a1 := by rcases hpt' with h | h; rw [h] at hh; cases hh; exact h
                subst hr0
                have HH := Lib.hid hh
                clear hpt' hh
                obtain ⟨c0, c1, c2, c3⟩ := blk_cells4 H6.out
                go_wp2_with fail
                refine (has_any _ _ _ _ _ HFG.out _).mono ?_; rintro e w5 ⟨he, hb⟩
                rw [HH.out] at he
                subst he
                replace H6 := Lib.hid (blk_keep2 hb H6.out)
                replace hw := bthen2 hb hw
                clear c0 c1 c2 c3 hb
                obtain ⟨c0, c1, c2, c3⟩ := blk_cells4 H6.out
                go_wp2_with fail
                clear c0 c1 c2 c3
                refine (awake09 _).mono ?_; rintro e wz ⟨rfl, hb⟩
                replace hw := bthen2 hb hw
                clear hb
                go_wp2_with fail
                go_ret
                exact ⟨rfl, hw⟩
            · subst hb0
              have hz := Sk.f_not (L := L0) (id := a1) (by rw [← HFB.out])
              rw [← HFE.out] at hz
              simp only [Sk.z, Prod.mk.injEq] at hz
              obtain ⟨rfl, rfl, rfl, rfl⟩ := hz
              have heq := fun w => eq_ent 0 0 0 0 0 0 0 0 w
              rw [show En.teq 0 0 0 0 0 0 0 0 = true by decide] at heq
              obtain ⟨c0, c1, c2, c3⟩ := blk_cells4 H6.out
              go_wp2_with fail
              clear heq c0 c1 c2 c3
              refine (awake09 _).mono ?_; rintro e wz ⟨rfl, hb⟩
              replace hw := bthen2 hb hw
              clear hb
              go_wp2_with fail
              go_ret
              exact ⟨rfl, hw⟩
    · have hq := bne0 hrow
      clear hrow
      go_enter Try.func8, Try.ntmps8
      go_wp2_with fail
      refine (own_any _ _ _ L0 _ _ HR0.out HN0.out (Nat.le_refl _) hm0).mono ?_
      intro e w1 h1
      obtain ⟨x, he, hO, hb⟩ := h1
      obtain ⟨Ax, kx, hv, hkx⟩ := own_slice hO
      rw [hv] at he hO
      rw [← HN0.out] at he hO hkx
      subst he
      clear hv
      have HX := Lib.hid hO
      have hw := hb
      clear hb hO
      go_wp2_with fail
      refine (row_any _ _ _ L0 _ _ (Reads.of_own HX.out) HN0.out HF0.out (Nat.le_refl _) (by omega)).mono ?_; rintro e w1 ⟨rfl, hb⟩
      replace HX := Lib.hid (ownsRow_keep HX.out hb)
      replace hw := bthen2 hb hw
      clear hb
      go_wp2_with fail
      refine (awake09 _).mono ?_; rintro e wz ⟨rfl, hb⟩
      replace hw := bthen2 hb hw
      clear hb
      go_wp2_with fail
      go_ret
      exact ⟨rfl, hw⟩

set_option maxRecDepth 100000 in
set_option maxHeartbeats 1000000 in
theorem lifted (os : Os) (started : os.Started) (H : Type) (enc : TypeId × Value → H) :
    ReturnsInHanded {} Try.checked os 8 .any (Rows.seekHasSpec.pre6 enc Try.prog Try.f8 Rows.seekHasRow.domain false) (Rows.seekHasSpec.post enc Try.prog Try.f8 false true false false) := by
  refine returnsInHanded_of_change_sized (C := Try.checked) own_ started (by kernel_rfl) Try.func8
    (ChangeSpec.witness6 (enc := enc) (C := Try.checked) false ⟨#[], #[.slice none 0 0, .int .u64 0], []⟩ 8 (by kernel_rfl) (by kernel_rfl) (by kernel_rfl) (by kernel_rfl)) ?_
  intro W base args ds gs before hval0 hW hcnd hsz0 _
  have hval : ∀ (j : Nat) t v, Try.f8.params[j]? = some t → args[j]? = some v → Value.okWide Try.prog W .any base t v := hval0
  have hW' := hW
  obtain ⟨p, q, hA0, hV, e0, hfz, hnd⟩ := hW
  clear e0 hfz hnd hcnd
  have hA : DataW.TrodAll enc Try.prog W 0 (fun _ => true) true Try.f8.params.toList args.toList ds p := hA0
  have hsz : (DataW.weightsEach Try.prog (Try.f8.params.toList ++ Rows.seekHasSpec.plain.varTypes Try.prog) (ds ++ gs)).all (· ≤ reachBytes) = true := hsz0
  rw [Try.params8] at hA hval hsz
  obtain ⟨v0, vs0, d0, ds0, p0, q0, hargs, rfl, e0, h0, rr0⟩ := trodAll_cons hA
  obtain ⟨v1, vs1, d1, ds1, p1, q1, rfl, rfl, e1, h1, rr1⟩ := trodAll_cons rr0
  obtain ⟨rfl, rfl, eN⟩ := trodAll_nil rr1
  obtain rfl : args = #[v0, v1] := by cases args; simp_all
  obtain ⟨A0, n0, c0, L0, rfl, hr0, hn0, hf0, hm0, hc0⟩ := open_ents Try.underlying35 Try.underlying25 (by kernel_rfl) (by kernel_rfl) (by kernel_rfl) rfl rfl rfl rfl Try.underlying22 Try.underlying23 (hval 0 35 v0 rfl rfl) h0 (fun elems spare hd => sized_slice hsz (j := 0) rfl (by rw [hd]; rfl) Try.underlying35)
  obtain ⟨a1, rfl, _, _, w1⟩ := open_int Try.underlying22 (hval 1 22 v1 rfl rfl) h1
  refine (walk W A0 n0 c0 L0 hr0 hn0 hf0 hm0 hc0 a1 w1).mono fun e W' ⟨he, hb⟩ => ?_
  subst he
  exact ⟨_, rfl, law_post laid_ (by kernel_rfl) hW' rfl rfl (by kernel_rfl) Try.underlying4 hb⟩

theorem over : Rows.seekHasRow.holds Try.pinned (OpenSpec.ofChange Rows.seekHasSpec) :=
  OpenClaim.holds_of_wide 8 Try.f8 rfl rfl rfl rfl rfl rfl rfl ⟨rfl, rfl, rfl, rfl, rfl⟩ rfl rfl rfl rfl rfl (by kernel_rfl) Try.func8 (by kernel_rfl)
    (of_decide_eq_true (by kernel_rfl)) (by unfold Func.isWrapper; first | (rw [if_pos (by decide +kernel)]; kernel_rfl) | (rw [if_neg (by decide +kernel)]; exact ⟨rfl, rfl⟩))
    (fun os started H enc _ => lifted os started H enc)

theorem proved : Rows.SeekHasSaid := over
end Go.Proofs.Ytppciejcobmikaa.seekHas
