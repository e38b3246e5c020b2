/- The program's count of contents. -/
import Derived.Test.YtbojffednfiegaaEntMap
import Derived.IntWalk
import Derived.StillTailTactics
namespace Go.Proofs.Ytbojffednfiegaa
open Go.RowKit

theorem wf_of_u64 {a : Int} (h0 : 0 ≤ a) (h1 : a < 18446744073709551616) : (Lit.int .u64 a).wf = true := by
  simp [Lit.wf, IntKind.min, IntKind.max, IntKind.signed, IntKind.bits]; omega
theorem wf_of_u32 {a : Int} (h0 : 0 ≤ a) (h1 : a < 4294967296) : (Lit.int .u32 a).wf = true := by
  simp [Lit.wf, IntKind.min, IntKind.max, IntKind.signed, IntKind.bits]; omega

set_option maxRecDepth 100000 in
set_option maxHeartbeats 2000000 in
theorem con_any (A : Option Addr) (n cap : Nat) (L : List Ent) (B : Nat) (w : World) (hr : Reads w B 4 A n (ecells L)) (hn : n = L.length) (hf : En.fits L) (hB : B ≤ w.heap.size) (hm : n ≤ 65536) :
    Calls Try.prog 28 #[.slice A n cap] w fun e w' => e = .returned (.int .i64 (En.con L)) ∧ Below w.heap.size w w' := by
  have hmm := @run_makeMap Try.prog
  rcases Nat.eq_zero_or_pos n with h0 | h0
  · have hL : L = [] := List.eq_nil_of_length_eq_zero (by omega)
    subst hL
    subst h0
    have hl0 := ConMap.len (ConMap.made w)
    clear hr hn hf
    go_enter Try.func28, Try.ntmps28
    go_wp2_with fail
    go_loopw [9] (fun ci wr => ci = .int .i64 0 ∧ wr = w.alloc (.map #[] 0)) (fun ci _ => 4 - (intOf ci).toNat)
    case atStart => exact ⟨rfl, rfl⟩
    case round =>
      obtain ⟨rfl, rfl⟩ := hrel
      go_wp2_with fail
      go_ret
      exact ⟨rfl, blk_new _ _⟩
  · obtain ⟨g, off, rfl, hgB⟩ := hr.plain h0 hn
    have HR := Lib.hid hr
    have HN := Lib.hid hn
    have HF := Lib.hid hf
    clear hr hn hf
    go_enter Try.func28, Try.ntmps28
    go_wp2_with fail
    go_loopw [9] (fun ci wr => ∃ k : Nat, k ≤ n ∧ ci = .int .i64 k ∧ Hid (ConMap wr w.heap.size k (En.keys (L.take k))) ∧ Below w.heap.size w wr) (fun ci _ => n - (intOf ci).toNat)
    case atStart => exact ⟨0, by omega, rfl, Lib.hid (ConMap.made w), blk_new _ _⟩
    case round =>
      obtain ⟨k, hk, rfl, hM, hbl⟩ := hrel
      by_cases hlt : k < n
      · have hlt' : k < L.length := by rw [← HN.out]; exact hlt
        obtain ⟨c0, c1, c2, c3⟩ := ((HR.out.more hB).below hbl).ent HN.out k hlt'
        have hg := HF.out _ (List.getElem_mem hlt')
        have hnx := En.keys_step L k hlt'
        obtain ⟨⟨i, o, l, r⟩, he⟩ : ∃ e, e = L[k]'hlt' := ⟨_, rfl⟩
        rw [← he] at c0 c1 c2 c3 hg hnx
        have hg' : En.fit i o l r := hg
        have hnx' : En.keys (L.take (k + 1)) = if (En.ck i o l r = 0 ∧ 0 < r) ∧ (o, l) ∉ En.keys (L.take k) then En.keys (L.take k) ++ [(o, l)] else En.keys (L.take k) := by
          rw [hnx]; unfold En.addK En.p En.key; simp only [decide_eq_true_eq]; rfl
        have HG := Lib.hid hg'
        have HNX := Lib.hid hnx'
        obtain ⟨_, ⟨o0, o1⟩, ⟨l0, l1⟩, r0, r1⟩ := hg'
        clear he hg hnx hnx'
        by_cases q : En.ck i o l r = 0
        · have hq : (En.ck i o l r == 0) = true := by rw [q]; rfl
          have HQ := Lib.hid q
          clear q
          by_cases q1 : 0 < r
          · have hq1 : decide (0 < r) = true := decide_eq_true q1
            go_wp2_with fail
            refine (may_any _ _ _ _ HG.out _).mono ?_; rintro e w1 ⟨rfl, hb⟩
            have hA := Lib.hid (blk_one hb).1
            have hs := Lib.hid (blk_one hb).2.1
            have hM1 := (hM.out.kept (blk_one hb).2.2)
            have hw := bthen2 (blk_one hb).2.2 hbl
            obtain ⟨a0, a1, a2, a3⟩ := blk_cells4 hA.out
            obtain ⟨c, v0, st, w2, w3, hlk, hme, hes, hl2, hM3, hgr⟩ := hM1.drew.incr (by unfold maxLen; omega) (o, l) (wf_of_u64 o0 o1) (wf_of_u32 l0 l1)
            unfold En.kv at hlk hme hl2
            have hkk : En.keys (L.take (k + 1)) = if (o, l) ∈ En.keys (L.take k) then En.keys (L.take k) else En.keys (L.take k) ++ [(o, l)] := by
              rw [HNX.out]
              by_cases m : (o, l) ∈ En.keys (L.take k)
              · rw [if_pos m, if_neg (fun h => h.2 m)]
              · rw [if_neg m, if_pos ⟨⟨HQ.out, q1⟩, m⟩]
            rw [← hkk] at hM3
            have HM := Lib.hid hM3
            have hw3 : Below w.heap.size w w3 := hw.drew.grown hgr hw.size (fun g hg => by injection hg with hg; omega)
            clear hb hM hM1 hM3 hgr hkk
            go_wp2_with fail
            go_region
            all_goals
              go_wp2_with fail
              exact ⟨⟨k + 1, by omega, by go_num, HM, hw3⟩, by simp [intOf]; omega⟩
          · have hq1 : decide (0 < r) = false := decide_eq_false q1
            have hkk : En.keys (L.take (k + 1)) = En.keys (L.take k) := by rw [HNX.out, if_neg (fun h => q1 h.1.2)]
            go_wp2_with fail
            refine (may_any _ _ _ _ HG.out _).mono ?_; rintro e w1 ⟨rfl, hb⟩
            have hA := Lib.hid (blk_one hb).1
            have hM1 := (hM.out.kept (blk_one hb).2.2).mono (Nat.le_succ k)
            rw [← hkk] at hM1
            have HM := Lib.hid hM1
            have hw := bthen2 (blk_one hb).2.2 hbl
            obtain ⟨a0, a1, a2, a3⟩ := blk_cells4 hA.out
            clear hb hM hM1 hkk
            go_wp2_with fail
            exact ⟨⟨k + 1, by omega, by go_num, HM, hw⟩, by simp [intOf]; omega⟩
        · have hq : (En.ck i o l r == 0) = false := by rw [beq_eq_false_iff_ne]; exact q
          have hkk : En.keys (L.take (k + 1)) = En.keys (L.take k) := by rw [HNX.out, if_neg (fun h => q h.1.1)]
          clear q
          go_wp2_with fail
          refine (may_any _ _ _ _ HG.out _).mono ?_; rintro e w1 ⟨rfl, hb⟩
          have hA := Lib.hid (blk_one hb).1
          have hM1 := (hM.out.kept (blk_one hb).2.2).mono (Nat.le_succ k)
          rw [← hkk] at hM1
          have HM := Lib.hid hM1
          have hw := bthen2 (blk_one hb).2.2 hbl
          obtain ⟨a0, a1, a2, a3⟩ := blk_cells4 hA.out
          clear hb hM hM1 hkk
          go_wp2_with fail
          exact ⟨⟨k + 1, by omega, by go_num, HM, hw⟩, by simp [intOf]; omega⟩
      · have hkn : k = n := by omega
        subst hkn
        have hz : L.take k = L := List.take_of_length_le (by rw [← HN.out]; omega)
        have hl := ConMap.len hM.out
        rw [hz] at hl
        have hl' : ∀ ty, (Builtin.len_ #[92] ty #[.map (some w.heap.size)]).run Try.prog wr = .ok (.int .i64 (En.con L)) wr := hl
        clear hl hz
        go_wp2_with fail
        go_ret
        exact ⟨rfl, hbl⟩

end Go.Proofs.Ytbojffednfiegaa
