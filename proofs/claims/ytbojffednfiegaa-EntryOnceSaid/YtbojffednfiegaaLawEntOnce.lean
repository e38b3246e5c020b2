/- EntryOnce: of a row no identifier is told by two entries, and each beginning of it, and each end, is a row; and the law returns true. -/
import Derived.Test.YtbojffednfiegaaEntOpen
import Derived.Test.YtbojffednfiegaaEntAwake
import Derived.Test.YtbojffednfiegaaEntApp
import Derived.Test.YtbojffednfiegaaEntOnce
import Derived.Test.YtbojffednfiegaaHeld
import Derived.IntWalk
namespace Go.Proofs.Ytbojffednfiegaa.entryOnce
open Go.ChangeShapes Go.WideShapes Go.ChangeAt Go.RowKit
set_option linter.unusedVariables false

set_option maxRecDepth 100000 in
set_option maxHeartbeats 2000000 in
theorem walk (w : World) (A0 : Option Addr) (n0 c0 : Nat) (L0 : List Ent) (hr0 : Reads w w.heap.size 4 A0 n0 (ecells L0)) (hn0 : n0 = L0.length) (hf0 : En.fits L0) (hm0 : n0 * 24 ≤ 140737488355328) (hc0 : n0 ≤ c0) (a1 : Int) (w1 : (Lit.int .u64 a1).wf = true) (a2 : Int) (w2 : (Lit.int .u8 a2).wf = true) :
    Calls Try.prog 5 #[.slice A0 n0 c0, .int .u64 a1, .int .u8 a2] w fun e w' => e = .returned (.bool true) ∧ Below w.heap.size w w' := by
  have HR0 := Lib.hid hr0
  have HN0 := Lib.hid hn0
  have HF0 := Lib.hid hf0
  clear hr0 hn0 hf0
  by_cases hg0 : 200 < n0
  · go_enter Try.func5, Try.ntmps5
    go_wp2_with fail
    refine (own_any _ _ _ L0 _ _ (HR0.out) HN0.out (Nat.le_refl _) hm0).mono ?_
    intro e w1 h1
    obtain ⟨x, he, hO, hb⟩ := h1
    obtain ⟨Ax, kx, hv, hkx⟩ := own_slice hO
    rw [hv] at he hO
    rw [← HN0.out] at he hO hkx
    subst he
    clear hv
    have HX := Lib.hid hO
    have hw := hb
    clear hb hO
    go_wp2_with fail
    refine (awake07 _).mono ?_; rintro e w1 ⟨rfl, hb⟩
    have hw := bthen2 hb hw
    go_wp2_with fail
    go_ret
    exact ⟨rfl, hw⟩
  · by_cases q : En.row L0 = 0
    · have HQ := Lib.hid q
      clear q
      have hrow : (En.row L0 != 0) = false := by rw [HQ.out]; rfl
      obtain ⟨d0, d1⟩ := bd_u8 w2
      obtain ⟨u0, u1⟩ := bd_u64 w1
      go_enter Try.func5, Try.ntmps5
      go_wp2_with fail
      refine (own_any _ _ _ L0 _ _ (HR0.out) HN0.out (Nat.le_refl _) hm0).mono ?_
      intro e w1 h1
      obtain ⟨x, he, hO, hb⟩ := h1
      rw [← HN0.out] at hO
      rcases hO.2 with ⟨hv, hn0⟩ | ⟨g, cap, cur, hv, hg, hh, hcap, hcm, _⟩
      · subst hv
        subst hn0
        have hL : L0 = [] := List.eq_nil_of_length_eq_zero HN0.out.symm
        subst hL
        subst he
        have hw := hb
        have e0 : En.row [] = 0 := rfl
        clear hO hb
        go_wp2_with fail
        refine (row_any none 0 0 [] w1.heap.size _ Reads.none_ rfl (fun e he => by simp at he) (Nat.le_refl _) (by omega)).mono ?_; rintro e w1 ⟨rfl, hb⟩
        have hw := bthen2 hb hw
        clear hb
        go_wp2_with fail
        go_loopw [8, 9] (fun cn ci wr => cn = .int .i64 0 ∧ ci = .int .i64 0 ∧ Below w.heap.size w wr) (fun _ _ _ => 0)
        case atStart => exact ⟨rfl, rfl, hw⟩
        case round =>
          obtain ⟨rfl, rfl, hw⟩ := hrel
          go_wp2_with fail
          refine (row_any none 0 0 [] wr.heap.size _ Reads.none_ rfl (fun e he => by simp at he) (Nat.le_refl _) (by omega)).mono ?_; rintro e w1 ⟨rfl, hb⟩
          have hw := bthen2 hb hw
          clear hb
          go_wp2_with fail
          refine (row_any none 0 0 [] w1.heap.size _ Reads.none_ rfl (fun e he => by simp at he) (Nat.le_refl _) (by omega)).mono ?_; rintro e w1 ⟨rfl, hb⟩
          have hw := bthen2 hb hw
          clear hb
          go_wp2_with fail
          refine (awake07 _).mono ?_; rintro e w1 ⟨rfl, hb⟩
          have hw := bthen2 hb hw
          go_wp2_with fail
          go_ret
          exact ⟨rfl, hw⟩
      · rw [hv] at he hO
        subst he
        subst hv
        have HX := Lib.hid hO
        have hw := hb
        clear hO hb hh
        go_wp2_with fail
        refine (row_any _ _ _ L0 _ _ (Reads.of_own HX.out) HN0.out HF0.out (Nat.le_refl _) (by omega)).mono ?_; rintro e w1 ⟨rfl, hb⟩
        have HX := Lib.hid (ownsRow_keep HX.out hb)
        have hw := bthen2 hb hw
        clear hb
        go_wp2_with fail
        clear hrow
        go_loopw [8, 9] (fun cn ci wr => ∃ (k : Nat) (N : Int), k ≤ n0 ∧ ci = .int .i64 k ∧ cn = .int .i64 N ∧ (0 ≤ N ∧ N ≤ k) ∧ Hid (N = En.hits a1 (L0.take k)) ∧ Hid (wr.ownsRow w.heap.size 26 4 (.slice (some ⟨g, 0, none⟩) n0 cap) n0 (ecells L0)) ∧ Below w.heap.size w wr) (fun _ ci _ => n0 - (intOf ci).toNat)
        case atStart => exact ⟨0, 0, by omega, rfl, rfl, by omega, Lib.hid (by simp [En.hits]), HX, hw⟩
        case round =>
          obtain ⟨k, N, hk, rfl, rfl, ⟨hN0, hN1⟩, hS, HX, hbl⟩ := hrel
          clear hw
          by_cases hlt : k < n0
          · have hlt' : k < L0.length := by rw [← HN0.out]; exact hlt
            have HC := fun (v : World) (h : v.ownsRow w.heap.size 26 4 (.slice (some ⟨g, 0, none⟩) n0 cap) n0 (ecells L0)) => (Reads.of_own h).ent HN0.out k hlt'
            simp only [Nat.zero_add] at HC
            have hg1 := HF0.out _ (List.getElem_mem hlt')
            have hc1 := En.rowFrom_at L0 0 k hlt' (En.row_from HQ.out)
            have hge := En.l_ge hg1 hc1
            have hst : ((En.hits a1 (L0.take (k + 1)) : Nat) : Int) = if En.h a1 (L0[k]'hlt') = true then N + 1 else N := by rw [En.hits_step a1 L0 k hlt', hS.out]; split <;> simp
            have hnx : ∀ (m : Nat) (h : m < L0.length), k = m + 1 → En.l (L0[m]'h) < (L0[k]'hlt').1 := by
              intro m h e; subst e; exact En.rowFrom_next L0 0 m hlt' (En.row_from HQ.out)
            obtain ⟨⟨i, o, l, r⟩, he⟩ : ∃ e, e = L0[k]'hlt' := ⟨_, rfl⟩
            rw [← he] at HC hg1 hc1 hge hst hnx
            have HC := Lib.hid HC
            have HG : Hid (En.fit i o l r) := Lib.hid hg1
            have HNX : Hid (∀ (m : Nat) (h : m < L0.length), k = m + 1 → En.l (L0[m]'h) < i) := Lib.hid hnx
            have hge' : decide (En.la i o l r < i) = false := decide_eq_false (by have h : i ≤ En.la i o l r := hge; omega)
            have HST : Hid (((En.hits a1 (L0.take (k + 1)) : Nat) : Int) = if En.hs i o l r a1 = true then N + 1 else N) := Lib.hid (by rw [hst]; rfl)
            obtain ⟨⟨i0, i1⟩, _⟩ := HG.out
            have b2 : (0 : Int) ≤ (k : Int) := by omega
            have b3 : (k : Int) < (n0 : Int) := by omega
            obtain ⟨c0, c1, c2, c3⟩ := HC.out _ HX.out
            clear he hg1 hc1 hge hst hnx hS
            rcases k with _ | m
            · have hz : decide ((0 : Int) < 0) = false := by decide
              have HC : Hid (∀ v : World, v.ownsRow w.heap.size 26 4 (.slice (some ⟨g, 0, none⟩) n0 cap) n0 (ecells L0) → v.cell? ⟨g, 0, none⟩ = some (.int .u64 i) ∧ v.cell? ⟨g, 1, none⟩ = some (.int .u64 o) ∧ v.cell? ⟨g, 2, none⟩ = some (.int .u32 l) ∧ v.cell? ⟨g, 3, none⟩ = some (.int .u32 r)) := Lib.hid (by have h := HC.out; simpa only [Nat.zero_mul, Nat.zero_add] using h)
              clear c0 c1 c2 c3
              obtain ⟨c0, c1, c2, c3⟩ := HC.out _ HX.out
              rcases Bool.eq_false_or_eq_true (En.hs i o l r a1) with hh | hh
              · have HS : Hid (N + 1 = En.hits a1 (L0.take (0 + 1))) := Lib.hid (by rw [HST.out, if_pos hh])
                go_wp2_with fail
                refine (has_any _ _ _ _ _ HG.out _).mono ?_; rintro e w1 ⟨rfl, hb⟩
                have HX := Lib.hid (ownsRow_keep HX.out hb)
                have hw := bthen2 hb hbl
                clear hb c0 c1 c2 c3
                obtain ⟨c0, c1, c2, c3⟩ := HC.out _ HX.out
                go_wp2_with fail
                refine wp_region_held_drew (S := (fun w' => w'.cell? ⟨g, 0, none⟩ = some (.int .u64 i) ∧ w'.cell? ⟨g, 1, none⟩ = some (.int .u64 o) ∧ w'.cell? ⟨g, 2, none⟩ = some (.int .u32 l) ∧ w'.cell? ⟨g, 3, none⟩ = some (.int .u32 r))) (by kernel_rfl) (by (try dsimp only); exact ⟨c0, c1, c2, c3⟩) (fun hHeld => ?_)
                simp only [List.size_toArray, List.length_cons, List.length_nil, Nat.zero_add, Nat.reduceAdd]
                refine held_take (i := 0) (v := ?_) rfl (by kernel_rfl) (by kernel_rfl) (by kernel_rfl) (fun _ _ _ h => h) (by rfl) ?_ (by assumption) ?_
                rotate_left
                · intro w hSw
                  (try dsimp only at hSw)
                  go_simp
                  try with_reducible rfl
                try simp only [Act.put, List.setIfInBounds_toArray, List.set_cons_zero, List.set_cons_succ]
                refine held_take (i := 1) (v := ?_) rfl (by kernel_rfl) (by kernel_rfl) (by kernel_rfl) (fun _ _ _ h => h) (by rfl) ?_ (by assumption) ?_
                rotate_left
                · intro w hSw
                  (try dsimp only at hSw)
                  go_simp
                  try with_reducible rfl
                try simp only [Act.put, List.setIfInBounds_toArray, List.set_cons_zero, List.set_cons_succ]
                refine held_take (i := 2) (v := ?_) rfl (by kernel_rfl) (by kernel_rfl) (by kernel_rfl) (fun _ _ _ h => h) (by rfl) ?_ (by assumption) ?_
                rotate_left
                · intro w hSw
                  (try dsimp only at hSw)
                  go_simp
                  try with_reducible rfl
                try simp only [Act.put, List.setIfInBounds_toArray, List.set_cons_zero, List.set_cons_succ]
                refine held_take (i := 3) (v := ?_) rfl (by kernel_rfl) (by kernel_rfl) (by kernel_rfl) (fun _ _ _ h => h) (by rfl) ?_ (by assumption) ?_
                rotate_left
                · intro w hSw
                  (try dsimp only at hSw)
                  go_simp
                  try with_reducible rfl
                try simp only [Act.put, List.setIfInBounds_toArray, List.set_cons_zero, List.set_cons_succ]
                refine held_take (i := 5) (v := ?_) rfl (by kernel_rfl) (by kernel_rfl) (by kernel_rfl) (fun _ _ _ h => h) (by rfl) ?_ (by assumption) ?_
                rotate_left
                · intro w hSw
                  (try dsimp only at hSw)
                  go_simp
                  try with_reducible rfl
                try simp only [Act.put, List.setIfInBounds_toArray, List.set_cons_zero, List.set_cons_succ]
                refine held_take (i := 6) (v := ?_) rfl (by kernel_rfl) (by kernel_rfl) (by kernel_rfl) (fun _ _ _ h => h) (by rfl) ?_ (by assumption) ?_
                rotate_left
                · intro w hSw
                  (try dsimp only at hSw)
                  go_simp
                  try with_reducible rfl
                try simp only [Act.put, List.setIfInBounds_toArray, List.set_cons_zero, List.set_cons_succ]
                refine held_take (i := 7) (v := ?_) rfl (by kernel_rfl) (by kernel_rfl) (by kernel_rfl) (fun _ _ _ h => h) (by rfl) ?_ (by assumption) ?_
                rotate_left
                · intro w hSw
                  (try dsimp only at hSw)
                  go_simp
                  try with_reducible rfl
                try simp only [Act.put, List.setIfInBounds_toArray, List.set_cons_zero, List.set_cons_succ]
                refine held_take (i := 8) (v := ?_) rfl (by kernel_rfl) (by kernel_rfl) (by kernel_rfl) (fun _ _ _ h => h) (by rfl) ?_ (by assumption) ?_
                rotate_left
                · intro w hSw
                  (try dsimp only at hSw)
                  go_simp
                  try with_reducible rfl
                try simp only [Act.put, List.setIfInBounds_toArray, List.set_cons_zero, List.set_cons_succ]
                refine held_take (i := 9) (v := ?_) rfl (by kernel_rfl) (by kernel_rfl) (by kernel_rfl) (fun _ _ _ h => h) (by rfl) ?_ (by assumption) ?_
                rotate_left
                · intro w hSw
                  (try dsimp only at hSw)
                  go_simp
                  try with_reducible rfl
                try simp only [Act.put, List.setIfInBounds_toArray, List.set_cons_zero, List.set_cons_succ]
                refine held_call (i := 4) (by kernel_rfl) rfl (fun K hK => ?_)
                go_simp
                refine (last_any _ _ _ _ HG.out _).mono ?_; rintro e w2 ⟨rfl, hb⟩; have hw := held_then hb (by first | exact hw | exact Below.drew hw | exact bdraws hw _); have HX := Lib.hid (ownsRow_keep (by exact HX.out) hb); obtain ⟨c0, c1, c2, c3⟩ := HC.out _ HX.out; clear hb
                refine hK.out _ _ (by (try dsimp only); exact ⟨c0, c1, c2, c3⟩) (fun hHeld => ?_)
                clear hK K
                try simp only [Act.put, List.setIfInBounds_toArray, List.set_cons_zero, List.set_cons_succ]
                refine held_take (i := 10) (v := ?_) rfl (by kernel_rfl) (by kernel_rfl) (by kernel_rfl) (fun _ _ _ h => h) (by rfl) ?_ (by assumption) ?_
                rotate_left
                · intro w hSw
                  (try dsimp only at hSw)
                  go_simp
                  try with_reducible rfl
                try simp only [Act.put, List.setIfInBounds_toArray, List.set_cons_zero, List.set_cons_succ]
                refine held_take (i := 11) (v := ?_) rfl (by kernel_rfl) (by kernel_rfl) (by kernel_rfl) (fun _ _ _ h => h) (by rfl) ?_ (by assumption) ?_
                rotate_left
                · intro w hSw
                  (try dsimp only at hSw)
                  go_simp
                  try with_reducible rfl
                try simp only [Act.put, List.setIfInBounds_toArray, List.set_cons_zero, List.set_cons_succ]
                refine held_take (i := 12) (v := ?_) rfl (by kernel_rfl) (by kernel_rfl) (by kernel_rfl) (fun _ _ _ h => h) (by rfl) ?_ (by assumption) ?_
                rotate_left
                · intro w hSw
                  (try dsimp only at hSw)
                  go_simp
                  try with_reducible rfl
                try simp only [Act.put, List.setIfInBounds_toArray, List.set_cons_zero, List.set_cons_succ]
                refine held_take (i := 13) (v := ?_) rfl (by kernel_rfl) (by kernel_rfl) (by kernel_rfl) (fun _ _ _ h => h) (by rfl) ?_ (by assumption) ?_
                rotate_left
                · intro w hSw
                  (try dsimp only at hSw)
                  go_simp
                  try with_reducible rfl
                try simp only [Act.put, List.setIfInBounds_toArray, List.set_cons_zero, List.set_cons_succ]
                refine held_take (i := 14) (v := ?_) rfl (by kernel_rfl) (by kernel_rfl) (by kernel_rfl) (fun _ _ _ h => h) (by rfl) ?_ (by assumption) ?_
                rotate_left
                · intro w hSw
                  (try dsimp only at hSw)
                  go_simp
                  try with_reducible rfl
                try simp only [Act.put, List.setIfInBounds_toArray, List.set_cons_zero, List.set_cons_succ]
                refine held_skip (i := 15) rfl (by kernel_rfl) (by kernel_rfl) (by kernel_rfl) (fun _ _ _ h => h) (by rfl) (by assumption) ?_
                try simp only [Act.put, List.setIfInBounds_toArray, List.set_cons_zero, List.set_cons_succ]
                refine held_skip (i := 16) rfl (by kernel_rfl) (by kernel_rfl) (by kernel_rfl) (fun _ _ _ h => h) (by rfl) (by assumption) ?_
                try simp only [Act.put, List.setIfInBounds_toArray, List.set_cons_zero, List.set_cons_succ]
                refine held_skip (i := 17) rfl (by kernel_rfl) (by kernel_rfl) (by kernel_rfl) (fun _ _ _ h => h) (by rfl) (by assumption) ?_
                try simp only [Act.put, List.setIfInBounds_toArray, List.set_cons_zero, List.set_cons_succ]
                refine held_skip (i := 18) rfl (by kernel_rfl) (by kernel_rfl) (by kernel_rfl) (fun _ _ _ h => h) (by rfl) (by assumption) ?_
                try simp only [Act.put, List.setIfInBounds_toArray, List.set_cons_zero, List.set_cons_succ]
                refine held_skip (i := 19) rfl (by kernel_rfl) (by kernel_rfl) (by kernel_rfl) (fun _ _ _ h => h) (by rfl) (by assumption) ?_
                try simp only [Act.put, List.setIfInBounds_toArray, List.set_cons_zero, List.set_cons_succ]
                refine held_skip (i := 20) rfl (by kernel_rfl) (by kernel_rfl) (by kernel_rfl) (fun _ _ _ h => h) (by rfl) (by assumption) ?_
                try simp only [Act.put, List.setIfInBounds_toArray, List.set_cons_zero, List.set_cons_succ]
                refine held_skip (i := 21) rfl (by kernel_rfl) (by kernel_rfl) (by kernel_rfl) (fun _ _ _ h => h) (by rfl) (by assumption) ?_
                try simp only [Act.put, List.setIfInBounds_toArray, List.set_cons_zero, List.set_cons_succ]
                refine held_skip (i := 22) rfl (by kernel_rfl) (by kernel_rfl) (by kernel_rfl) (fun _ _ _ h => h) (by rfl) (by assumption) ?_
                try simp only [Act.put, List.setIfInBounds_toArray, List.set_cons_zero, List.set_cons_succ]
                refine held_skip (i := 23) rfl (by kernel_rfl) (by kernel_rfl) (by kernel_rfl) (fun _ _ _ h => h) (by rfl) (by assumption) ?_
                try simp only [Act.put, List.setIfInBounds_toArray, List.set_cons_zero, List.set_cons_succ]
                refine held_skip (i := 24) rfl (by kernel_rfl) (by kernel_rfl) (by kernel_rfl) (fun _ _ _ h => h) (by rfl) (by assumption) ?_
                try simp only [Act.put, List.setIfInBounds_toArray, List.set_cons_zero, List.set_cons_succ]
                refine held_skip (i := 25) rfl (by kernel_rfl) (by kernel_rfl) (by kernel_rfl) (fun _ _ _ h => h) (by rfl) (by assumption) ?_
                try simp only [Act.put, List.setIfInBounds_toArray, List.set_cons_zero, List.set_cons_succ]
                refine held_skip (i := 26) rfl (by kernel_rfl) (by kernel_rfl) (by kernel_rfl) (fun _ _ _ h => h) (by rfl) (by assumption) ?_
                try simp only [Act.put, List.setIfInBounds_toArray, List.set_cons_zero, List.set_cons_succ]
                refine held_take (i := 27) (v := ?_) rfl (by kernel_rfl) (by kernel_rfl) (by kernel_rfl) (fun _ _ _ h => h) (by rfl) ?_ (by assumption) ?_
                rotate_left
                · intro w hSw
                  (try dsimp only at hSw)
                  go_simp
                  try with_reducible rfl
                try simp only [Act.put, List.setIfInBounds_toArray, List.set_cons_zero, List.set_cons_succ]
                refine held_take (i := 28) (v := ?_) rfl (by kernel_rfl) (by kernel_rfl) (by kernel_rfl) (fun _ _ _ h => h) (by rfl) ?_ (by assumption) ?_
                rotate_left
                · intro w hSw
                  (try dsimp only at hSw)
                  go_simp
                  try with_reducible rfl
                try simp only [Act.put, List.setIfInBounds_toArray, List.set_cons_zero, List.set_cons_succ]
                refine wpAnyH_done (by kernel_rfl) ?_ _
                all_goals
                  go_wp2_with fail
                  exact ⟨⟨0 + 1, N + 1, by omega, by go_num, rfl, by omega, HS, Lib.hid (by first | exact HX.out | exact (HX.out).drew), by first | exact hw | exact bdraws hw _⟩, by simp [intOf]; omega⟩
              · have HS : Hid (N = En.hits a1 (L0.take (0 + 1))) := Lib.hid (by rw [HST.out, if_neg (by rw [hh]; decide)])
                go_wp2_with fail
                refine (has_any _ _ _ _ _ HG.out _).mono ?_; rintro e w1 ⟨rfl, hb⟩
                have HX := Lib.hid (ownsRow_keep HX.out hb)
                have hw := bthen2 hb hbl
                clear hb c0 c1 c2 c3
                obtain ⟨c0, c1, c2, c3⟩ := HC.out _ HX.out
                go_wp2_with fail
                refine wp_region_held_drew (S := (fun w' => w'.cell? ⟨g, 0, none⟩ = some (.int .u64 i) ∧ w'.cell? ⟨g, 1, none⟩ = some (.int .u64 o) ∧ w'.cell? ⟨g, 2, none⟩ = some (.int .u32 l) ∧ w'.cell? ⟨g, 3, none⟩ = some (.int .u32 r))) (by kernel_rfl) (by (try dsimp only); exact ⟨c0, c1, c2, c3⟩) (fun hHeld => ?_)
                simp only [List.size_toArray, List.length_cons, List.length_nil, Nat.zero_add, Nat.reduceAdd]
                refine held_take (i := 0) (v := ?_) rfl (by kernel_rfl) (by kernel_rfl) (by kernel_rfl) (fun _ _ _ h => h) (by rfl) ?_ (by assumption) ?_
                rotate_left
                · intro w hSw
                  (try dsimp only at hSw)
                  go_simp
                  try with_reducible rfl
                try simp only [Act.put, List.setIfInBounds_toArray, List.set_cons_zero, List.set_cons_succ]
                refine held_take (i := 1) (v := ?_) rfl (by kernel_rfl) (by kernel_rfl) (by kernel_rfl) (fun _ _ _ h => h) (by rfl) ?_ (by assumption) ?_
                rotate_left
                · intro w hSw
                  (try dsimp only at hSw)
                  go_simp
                  try with_reducible rfl
                try simp only [Act.put, List.setIfInBounds_toArray, List.set_cons_zero, List.set_cons_succ]
                refine held_take (i := 2) (v := ?_) rfl (by kernel_rfl) (by kernel_rfl) (by kernel_rfl) (fun _ _ _ h => h) (by rfl) ?_ (by assumption) ?_
                rotate_left
                · intro w hSw
                  (try dsimp only at hSw)
                  go_simp
                  try with_reducible rfl
                try simp only [Act.put, List.setIfInBounds_toArray, List.set_cons_zero, List.set_cons_succ]
                refine held_take (i := 3) (v := ?_) rfl (by kernel_rfl) (by kernel_rfl) (by kernel_rfl) (fun _ _ _ h => h) (by rfl) ?_ (by assumption) ?_
                rotate_left
                · intro w hSw
                  (try dsimp only at hSw)
                  go_simp
                  try with_reducible rfl
                try simp only [Act.put, List.setIfInBounds_toArray, List.set_cons_zero, List.set_cons_succ]
                refine held_take (i := 5) (v := ?_) rfl (by kernel_rfl) (by kernel_rfl) (by kernel_rfl) (fun _ _ _ h => h) (by rfl) ?_ (by assumption) ?_
                rotate_left
                · intro w hSw
                  (try dsimp only at hSw)
                  go_simp
                  try with_reducible rfl
                try simp only [Act.put, List.setIfInBounds_toArray, List.set_cons_zero, List.set_cons_succ]
                refine held_take (i := 6) (v := ?_) rfl (by kernel_rfl) (by kernel_rfl) (by kernel_rfl) (fun _ _ _ h => h) (by rfl) ?_ (by assumption) ?_
                rotate_left
                · intro w hSw
                  (try dsimp only at hSw)
                  go_simp
                  try with_reducible rfl
                try simp only [Act.put, List.setIfInBounds_toArray, List.set_cons_zero, List.set_cons_succ]
                refine held_take (i := 7) (v := ?_) rfl (by kernel_rfl) (by kernel_rfl) (by kernel_rfl) (fun _ _ _ h => h) (by rfl) ?_ (by assumption) ?_
                rotate_left
                · intro w hSw
                  (try dsimp only at hSw)
                  go_simp
                  try with_reducible rfl
                try simp only [Act.put, List.setIfInBounds_toArray, List.set_cons_zero, List.set_cons_succ]
                refine held_take (i := 8) (v := ?_) rfl (by kernel_rfl) (by kernel_rfl) (by kernel_rfl) (fun _ _ _ h => h) (by rfl) ?_ (by assumption) ?_
                rotate_left
                · intro w hSw
                  (try dsimp only at hSw)
                  go_simp
                  try with_reducible rfl
                try simp only [Act.put, List.setIfInBounds_toArray, List.set_cons_zero, List.set_cons_succ]
                refine held_take (i := 9) (v := ?_) rfl (by kernel_rfl) (by kernel_rfl) (by kernel_rfl) (fun _ _ _ h => h) (by rfl) ?_ (by assumption) ?_
                rotate_left
                · intro w hSw
                  (try dsimp only at hSw)
                  go_simp
                  try with_reducible rfl
                try simp only [Act.put, List.setIfInBounds_toArray, List.set_cons_zero, List.set_cons_succ]
                refine held_call (i := 4) (by kernel_rfl) rfl (fun K hK => ?_)
                go_simp
                refine (last_any _ _ _ _ HG.out _).mono ?_; rintro e w2 ⟨rfl, hb⟩; have hw := held_then hb (by first | exact hw | exact Below.drew hw | exact bdraws hw _); have HX := Lib.hid (ownsRow_keep (by exact HX.out) hb); obtain ⟨c0, c1, c2, c3⟩ := HC.out _ HX.out; clear hb
                refine hK.out _ _ (by (try dsimp only); exact ⟨c0, c1, c2, c3⟩) (fun hHeld => ?_)
                clear hK K
                try simp only [Act.put, List.setIfInBounds_toArray, List.set_cons_zero, List.set_cons_succ]
                refine held_take (i := 10) (v := ?_) rfl (by kernel_rfl) (by kernel_rfl) (by kernel_rfl) (fun _ _ _ h => h) (by rfl) ?_ (by assumption) ?_
                rotate_left
                · intro w hSw
                  (try dsimp only at hSw)
                  go_simp
                  try with_reducible rfl
                try simp only [Act.put, List.setIfInBounds_toArray, List.set_cons_zero, List.set_cons_succ]
                refine held_take (i := 11) (v := ?_) rfl (by kernel_rfl) (by kernel_rfl) (by kernel_rfl) (fun _ _ _ h => h) (by rfl) ?_ (by assumption) ?_
                rotate_left
                · intro w hSw
                  (try dsimp only at hSw)
                  go_simp
                  try with_reducible rfl
                try simp only [Act.put, List.setIfInBounds_toArray, List.set_cons_zero, List.set_cons_succ]
                refine held_take (i := 12) (v := ?_) rfl (by kernel_rfl) (by kernel_rfl) (by kernel_rfl) (fun _ _ _ h => h) (by rfl) ?_ (by assumption) ?_
                rotate_left
                · intro w hSw
                  (try dsimp only at hSw)
                  go_simp
                  try with_reducible rfl
                try simp only [Act.put, List.setIfInBounds_toArray, List.set_cons_zero, List.set_cons_succ]
                refine held_take (i := 13) (v := ?_) rfl (by kernel_rfl) (by kernel_rfl) (by kernel_rfl) (fun _ _ _ h => h) (by rfl) ?_ (by assumption) ?_
                rotate_left
                · intro w hSw
                  (try dsimp only at hSw)
                  go_simp
                  try with_reducible rfl
                try simp only [Act.put, List.setIfInBounds_toArray, List.set_cons_zero, List.set_cons_succ]
                refine held_take (i := 14) (v := ?_) rfl (by kernel_rfl) (by kernel_rfl) (by kernel_rfl) (fun _ _ _ h => h) (by rfl) ?_ (by assumption) ?_
                rotate_left
                · intro w hSw
                  (try dsimp only at hSw)
                  go_simp
                  try with_reducible rfl
                try simp only [Act.put, List.setIfInBounds_toArray, List.set_cons_zero, List.set_cons_succ]
                refine held_skip (i := 15) rfl (by kernel_rfl) (by kernel_rfl) (by kernel_rfl) (fun _ _ _ h => h) (by rfl) (by assumption) ?_
                try simp only [Act.put, List.setIfInBounds_toArray, List.set_cons_zero, List.set_cons_succ]
                refine held_skip (i := 16) rfl (by kernel_rfl) (by kernel_rfl) (by kernel_rfl) (fun _ _ _ h => h) (by rfl) (by assumption) ?_
                try simp only [Act.put, List.setIfInBounds_toArray, List.set_cons_zero, List.set_cons_succ]
                refine held_skip (i := 17) rfl (by kernel_rfl) (by kernel_rfl) (by kernel_rfl) (fun _ _ _ h => h) (by rfl) (by assumption) ?_
                try simp only [Act.put, List.setIfInBounds_toArray, List.set_cons_zero, List.set_cons_succ]
                refine held_skip (i := 18) rfl (by kernel_rfl) (by kernel_rfl) (by kernel_rfl) (fun _ _ _ h => h) (by rfl) (by assumption) ?_
                try simp only [Act.put, List.setIfInBounds_toArray, List.set_cons_zero, List.set_cons_succ]
                refine held_skip (i := 19) rfl (by kernel_rfl) (by kernel_rfl) (by kernel_rfl) (fun _ _ _ h => h) (by rfl) (by assumption) ?_
                try simp only [Act.put, List.setIfInBounds_toArray, List.set_cons_zero, List.set_cons_succ]
                refine held_skip (i := 20) rfl (by kernel_rfl) (by kernel_rfl) (by kernel_rfl) (fun _ _ _ h => h) (by rfl) (by assumption) ?_
                try simp only [Act.put, List.setIfInBounds_toArray, List.set_cons_zero, List.set_cons_succ]
                refine held_skip (i := 21) rfl (by kernel_rfl) (by kernel_rfl) (by kernel_rfl) (fun _ _ _ h => h) (by rfl) (by assumption) ?_
                try simp only [Act.put, List.setIfInBounds_toArray, List.set_cons_zero, List.set_cons_succ]
                refine held_skip (i := 22) rfl (by kernel_rfl) (by kernel_rfl) (by kernel_rfl) (fun _ _ _ h => h) (by rfl) (by assumption) ?_
                try simp only [Act.put, List.setIfInBounds_toArray, List.set_cons_zero, List.set_cons_succ]
                refine held_skip (i := 23) rfl (by kernel_rfl) (by kernel_rfl) (by kernel_rfl) (fun _ _ _ h => h) (by rfl) (by assumption) ?_
                try simp only [Act.put, List.setIfInBounds_toArray, List.set_cons_zero, List.set_cons_succ]
                refine held_skip (i := 24) rfl (by kernel_rfl) (by kernel_rfl) (by kernel_rfl) (fun _ _ _ h => h) (by rfl) (by assumption) ?_
                try simp only [Act.put, List.setIfInBounds_toArray, List.set_cons_zero, List.set_cons_succ]
                refine held_skip (i := 25) rfl (by kernel_rfl) (by kernel_rfl) (by kernel_rfl) (fun _ _ _ h => h) (by rfl) (by assumption) ?_
                try simp only [Act.put, List.setIfInBounds_toArray, List.set_cons_zero, List.set_cons_succ]
                refine held_skip (i := 26) rfl (by kernel_rfl) (by kernel_rfl) (by kernel_rfl) (fun _ _ _ h => h) (by rfl) (by assumption) ?_
                try simp only [Act.put, List.setIfInBounds_toArray, List.set_cons_zero, List.set_cons_succ]
                refine held_take (i := 27) (v := ?_) rfl (by kernel_rfl) (by kernel_rfl) (by kernel_rfl) (fun _ _ _ h => h) (by rfl) ?_ (by assumption) ?_
                rotate_left
                · intro w hSw
                  (try dsimp only at hSw)
                  go_simp
                  try with_reducible rfl
                try simp only [Act.put, List.setIfInBounds_toArray, List.set_cons_zero, List.set_cons_succ]
                refine held_take (i := 28) (v := ?_) rfl (by kernel_rfl) (by kernel_rfl) (by kernel_rfl) (fun _ _ _ h => h) (by rfl) ?_ (by assumption) ?_
                rotate_left
                · intro w hSw
                  (try dsimp only at hSw)
                  go_simp
                  try with_reducible rfl
                try simp only [Act.put, List.setIfInBounds_toArray, List.set_cons_zero, List.set_cons_succ]
                refine wpAnyH_done (by kernel_rfl) ?_ _
                all_goals
                  go_wp2_with fail
                  exact ⟨⟨0 + 1, N, by omega, by go_num, rfl, by omega, HS, Lib.hid (by first | exact HX.out | exact (HX.out).drew), by first | exact hw | exact bdraws hw _⟩, by simp [intOf]; omega⟩
            · have hm' : m < L0.length := by omega
              have hz : decide ((0 : Int) < (m : Int) + 1) = true := decide_eq_true (by omega)
              have HCP := fun (v : World) (h : v.ownsRow w.heap.size 26 4 (.slice (some ⟨g, 0, none⟩) n0 cap) n0 (ecells L0)) => (Reads.of_own h).ent HN0.out m hm'
              simp only [Nat.zero_add] at HCP
              have hp := HF0.out _ (List.getElem_mem hm')
              have hnl := HNX.out m hm' rfl
              obtain ⟨⟨i', o', l', r'⟩, he⟩ : ∃ e, e = L0[m]'hm' := ⟨_, rfl⟩
              rw [← he] at HCP hp hnl
              have HCP := Lib.hid HCP
              have HP : Hid (En.fit i' o' l' r') := Lib.hid hp
              have hnl' : decide (i ≤ En.la i' o' l' r') = false := decide_eq_false (by have h : En.la i' o' l' r' < i := hnl; omega)
              obtain ⟨p0, p1, p2, p3⟩ := HCP.out _ HX.out
              clear he hp hnl
              have b0 : (0 : Int) ≤ (m : Int) + 1 := by omega
              have b1 : (m : Int) + 1 < (n0 : Int) := by omega
              have b4 : (0 : Int) ≤ (m : Int) := by omega
              have b5 : (m : Int) < (n0 : Int) := by omega
              have b6 : ((m : Int) + 1).toNat = m + 1 := by omega
              have hmw : IntKind.i64.wrap (m : Int) = (m : Int) := IntWalk.i64_in _ (by omega)
              rcases Bool.eq_false_or_eq_true (En.hs i o l r a1) with hh | hh
              · have HS : Hid (N + 1 = En.hits a1 (L0.take (m + 1 + 1))) := Lib.hid (by rw [HST.out, if_pos hh])
                go_wp2_with fail
                refine (has_any _ _ _ _ _ HG.out _).mono ?_; rintro e w1 ⟨rfl, hb⟩
                have HX := Lib.hid (ownsRow_keep HX.out hb)
                have hw := bthen2 hb hbl
                clear hb c0 c1 c2 c3
                clear p0 p1 p2 p3
                obtain ⟨c0, c1, c2, c3⟩ := HC.out _ HX.out
                obtain ⟨p0, p1, p2, p3⟩ := HCP.out _ HX.out
                go_wp2_with fail
                go_region_held3 (fun w' => w'.cell? ⟨g, (m + 1) * 4, none⟩ = some (.int .u64 i) ∧ w'.cell? ⟨g, (m + 1) * 4 + 1, none⟩ = some (.int .u64 o) ∧ w'.cell? ⟨g, (m + 1) * 4 + 2, none⟩ = some (.int .u32 l) ∧ w'.cell? ⟨g, (m + 1) * 4 + 3, none⟩ = some (.int .u32 r) ∧ w'.cell? ⟨g, m * 4, none⟩ = some (.int .u64 i') ∧ w'.cell? ⟨g, m * 4 + 1, none⟩ = some (.int .u64 o') ∧ w'.cell? ⟨g, m * 4 + 2, none⟩ = some (.int .u32 l') ∧ w'.cell? ⟨g, m * 4 + 3, none⟩ = some (.int .u32 r')) (exact ⟨c0, c1, c2, c3, p0, p1, p2, p3⟩) (first | (go_at_call 18; refine (last_any _ _ _ _ (by first | exact HG.out | exact HP.out) _).mono ?_; rintro e w2 ⟨rfl, hb⟩; have hw := held_then hb (by first | exact hw | exact Below.drew hw | exact bdraws hw _); have HX := Lib.hid (ownsRow_keep (by exact HX.out) hb); obtain ⟨c0, c1, c2, c3⟩ := HC.out _ HX.out; obtain ⟨p0, p1, p2, p3⟩ := HCP.out _ HX.out; clear hb))
                all_goals
                  go_wp2_with fail
                  exact ⟨⟨m + 1 + 1, N + 1, by omega, by go_num, rfl, by omega, HS, Lib.hid (by first | exact HX.out | exact (HX.out).drew), by first | exact hw | exact bdraws hw _⟩, by simp [intOf]; omega⟩
              · have HS : Hid (N = En.hits a1 (L0.take (m + 1 + 1))) := Lib.hid (by rw [HST.out, if_neg (by rw [hh]; decide)])
                go_wp2_with fail
                refine (has_any _ _ _ _ _ HG.out _).mono ?_; rintro e w1 ⟨rfl, hb⟩
                have HX := Lib.hid (ownsRow_keep HX.out hb)
                have hw := bthen2 hb hbl
                clear hb c0 c1 c2 c3
                clear p0 p1 p2 p3
                obtain ⟨c0, c1, c2, c3⟩ := HC.out _ HX.out
                obtain ⟨p0, p1, p2, p3⟩ := HCP.out _ HX.out
                go_wp2_with fail
                go_region_held3 (fun w' => w'.cell? ⟨g, (m + 1) * 4, none⟩ = some (.int .u64 i) ∧ w'.cell? ⟨g, (m + 1) * 4 + 1, none⟩ = some (.int .u64 o) ∧ w'.cell? ⟨g, (m + 1) * 4 + 2, none⟩ = some (.int .u32 l) ∧ w'.cell? ⟨g, (m + 1) * 4 + 3, none⟩ = some (.int .u32 r) ∧ w'.cell? ⟨g, m * 4, none⟩ = some (.int .u64 i') ∧ w'.cell? ⟨g, m * 4 + 1, none⟩ = some (.int .u64 o') ∧ w'.cell? ⟨g, m * 4 + 2, none⟩ = some (.int .u32 l') ∧ w'.cell? ⟨g, m * 4 + 3, none⟩ = some (.int .u32 r')) (exact ⟨c0, c1, c2, c3, p0, p1, p2, p3⟩) (first | (go_at_call 18; refine (last_any _ _ _ _ (by first | exact HG.out | exact HP.out) _).mono ?_; rintro e w2 ⟨rfl, hb⟩; have hw := held_then hb (by first | exact hw | exact Below.drew hw | exact bdraws hw _); have HX := Lib.hid (ownsRow_keep (by exact HX.out) hb); obtain ⟨c0, c1, c2, c3⟩ := HC.out _ HX.out; obtain ⟨p0, p1, p2, p3⟩ := HCP.out _ HX.out; clear hb))
                all_goals
                  go_wp2_with fail
                  exact ⟨⟨m + 1 + 1, N, by omega, by go_num, rfl, by omega, HS, Lib.hid (by first | exact HX.out | exact (HX.out).drew), by first | exact hw | exact bdraws hw _⟩, by simp [intOf]; omega⟩
          · have hkn : k = n0 := by omega
            subst hkn
            have hN : N ≤ 1 := by
              have h1 := En.hits_one a1 HF0.out HQ.out
              have h2 := hS.out
              rw [List.take_of_length_le (by rw [← HN0.out]; omega)] at h2
              omega
            clear hS
            obtain ⟨K, hK⟩ : ∃ K : Nat, (K : Int) = a2 % ((k : Int) + 1) := ⟨(a2 % ((k : Int) + 1)).toNat, Int.toNat_of_nonneg (Int.emod_nonneg _ (by omega))⟩
            have hKk : K ≤ k := by have := Int.emod_lt_of_pos a2 (show (0 : Int) < (k : Int) + 1 by omega); omega
            have hK' := hK.symm
            have e1 := En.row_take HQ.out K
            have e2 := En.row_drop HF0.out HQ.out K
            have HT := Lib.hid ((by have h := HN0.out; rw [List.length_take]; omega) : K = (L0.take K).length)
            have HD := Lib.hid ((by have h := HN0.out; rw [List.length_drop]; omega) : k - K = (L0.drop K).length)
            have HTF : Hid (En.fits (L0.take K)) := Lib.hid (fun e he => HF0.out e (List.mem_of_mem_take he))
            have HDF : Hid (En.fits (L0.drop K)) := Lib.hid (fun e he => HF0.out e (List.mem_of_mem_drop he))
            clear hK
            by_cases hcK : cap = K
            all_goals
              go_wp2_with fail
              refine (row_any _ _ _ (L0.take K) wr.heap.size _ (by have h := (Reads.of_own HX.out).take_ hKk; rw [ecells_take] at h; exact h) HT.out HTF.out (Nat.le_refl _) (by omega)).mono ?_; rintro e w1 ⟨rfl, hb⟩
              have HX := Lib.hid (ownsRow_keep HX.out hb)
              have hw := bthen2 hb hbl
              clear hb
              go_wp2_with fail
              refine (row_any _ _ _ (L0.drop K) w1.heap.size _ (by have h := (Reads.of_own HX.out).cut (k := K) (cap := cap) hKk hcap; rw [ecells_drop] at h; first | (rw [if_pos hcK] at h; exact h) | (rw [if_neg hcK, Option.map_some, add_at] at h; exact h)) HD.out HDF.out (Nat.le_refl _) (by omega)).mono ?_; rintro e w1 ⟨rfl, hb⟩
              have hw := bthen2 hb hw
              clear hb
              go_wp2_with fail
              refine (awake07 _).mono ?_; rintro e w1 ⟨rfl, hb⟩
              have hw := bthen2 hb hw
              go_wp2_with fail
              go_ret
              exact ⟨rfl, hw⟩
    · have hne : (En.row L0 != 0) = true := by rw [bne_iff_ne]; exact q
      go_enter Try.func5, Try.ntmps5
      go_wp2_with fail
      refine (own_any _ _ _ L0 _ _ (HR0.out) HN0.out (Nat.le_refl _) hm0).mono ?_
      intro e w1 h1
      obtain ⟨x, he, hO, hb⟩ := h1
      obtain ⟨Ax, kx, hv, hkx⟩ := own_slice hO
      rw [hv] at he hO
      rw [← HN0.out] at he hO hkx
      subst he
      clear hv
      have HX := Lib.hid hO
      have hw := hb
      clear hb hO
      go_wp2_with fail
      refine (row_any _ _ _ L0 _ _ (Reads.of_own HX.out) HN0.out HF0.out (Nat.le_refl _) (by omega)).mono ?_; rintro e w1 ⟨rfl, hb⟩
      have HX := Lib.hid (ownsRow_keep HX.out hb)
      have hw := bthen2 hb hw
      clear hb
      go_wp2_with fail
      refine (awake07 _).mono ?_; rintro e w1 ⟨rfl, hb⟩
      have hw := bthen2 hb hw
      go_wp2_with fail
      go_ret
      exact ⟨rfl, hw⟩

set_option maxRecDepth 100000 in
set_option maxHeartbeats 1000000 in
theorem lifted (os : Os) (started : os.Started) (H : Type) (enc : TypeId × Value → H) :
    ReturnsInHanded {} Try.checked os 5 .any (Rows.entryOnceSpec.pre6 enc Try.prog Try.f5 Rows.entryOnceRow.domain false) (Rows.entryOnceSpec.post enc Try.prog Try.f5 false true false false) := by
  refine returnsInHanded_of_change_sized (C := Try.checked) own_ started (by kernel_rfl) Try.func5
    (ChangeSpec.witness6 (enc := enc) (C := Try.checked) false ⟨#[], #[.slice none 0 0, .int .u64 0, .int .u8 0], []⟩ 8 (by kernel_rfl) (by kernel_rfl) (by kernel_rfl) (by kernel_rfl)) ?_
  intro W base args ds gs before hval0 hW hcnd hsz0 _
  have hval : ∀ (j : Nat) t v, Try.f5.params[j]? = some t → args[j]? = some v → Value.okWide Try.prog W .any base t v := hval0
  have hW' := hW
  obtain ⟨p, q, hA0, hV, e0, hfz, hnd⟩ := hW
  clear e0 hfz hnd hcnd
  have hA : DataW.TrodAll enc Try.prog W 0 (fun _ => true) true Try.f5.params.toList args.toList ds p := hA0
  have hsz : (DataW.weightsEach Try.prog (Try.f5.params.toList ++ Rows.entryOnceSpec.plain.varTypes Try.prog) (ds ++ gs)).all (· ≤ reachBytes) = true := hsz0
  rw [Try.params5] at hA hval hsz
  obtain ⟨v0, vs0, d0, ds0, p0, q0, hargs, rfl, e0, h0, rr0⟩ := trodAll_cons hA
  obtain ⟨v1, vs1, d1, ds1, p1, q1, rfl, rfl, e1, h1, rr1⟩ := trodAll_cons rr0
  obtain ⟨v2, vs2, d2, ds2, p2, q2, rfl, rfl, e2, h2, rr2⟩ := trodAll_cons rr1
  obtain ⟨rfl, rfl, eN⟩ := trodAll_nil rr2
  obtain rfl : args = #[v0, v1, v2] := by cases args; simp_all
  obtain ⟨A0, n0, c0, L0, rfl, hr0, hn0, hf0, hm0, hc0⟩ := open_ents Try.underlying35 Try.underlying25 (by kernel_rfl) (by kernel_rfl) (by kernel_rfl) rfl rfl rfl rfl Try.underlying22 Try.underlying23 (hval 0 35 v0 rfl rfl) h0 (fun elems spare hd => sized_slice hsz (j := 0) rfl (by rw [hd]; rfl) Try.underlying35)
  obtain ⟨a1, rfl, _, _, w1⟩ := open_int Try.underlying22 (hval 1 22 v1 rfl rfl) h1
  obtain ⟨a2, rfl, _, _, w2⟩ := open_int Try.underlying5 (hval 2 5 v2 rfl rfl) h2
  refine (walk W A0 n0 c0 L0 hr0 hn0 hf0 hm0 hc0 a1 w1 a2 w2).mono fun e W' ⟨he, hb⟩ => ?_
  subst he
  exact ⟨_, rfl, law_post laid_ (by kernel_rfl) hW' rfl rfl (by kernel_rfl) Try.underlying4 hb⟩

theorem over : Rows.entryOnceRow.holds Try.pinned (OpenSpec.ofChange Rows.entryOnceSpec) :=
  OpenClaim.holds_of_wide 5 Try.f5 rfl rfl rfl rfl rfl rfl rfl ⟨rfl, rfl, rfl, rfl, rfl⟩ rfl rfl rfl rfl rfl (by kernel_rfl) Try.func5 (by kernel_rfl)
    (of_decide_eq_true (by kernel_rfl)) (by unfold Func.isWrapper; first | (rw [if_pos (by decide +kernel)]; kernel_rfl) | (rw [if_neg (by decide +kernel)]; exact ⟨rfl, rfl⟩))
    (fun os started H enc _ => lifted os started H enc)

theorem proved : Rows.EntryOnceSaid := over
end Go.Proofs.Ytbojffednfiegaa.entryOnce
