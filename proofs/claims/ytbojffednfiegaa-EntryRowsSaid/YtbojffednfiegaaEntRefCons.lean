/- The document's count of contents: the loop. -/
import Derived.Test.YtbojffednfiegaaEntRefCon
namespace Go.Proofs.Ytbojffednfiegaa
open Go.RowKit

set_option maxHeartbeats 2000000 in
theorem refcon_any (A : Option Addr) (n cap : Nat) (L : List Ent) (B : Nat) (w : World) (hr : Reads w B 4 A n (ecells L)) (hn : n = L.length) (hf : En.fits L) (hB : B ≤ w.heap.size) (hm : n ≤ 65536) :
    Calls Try.prog 29 #[.slice A n cap] w fun e w' => e = .returned (.int .i64 (En.con L)) ∧ Below w.heap.size w w' := by
  rcases Nat.eq_zero_or_pos n with h0 | h0
  · have hL : L = [] := List.eq_nil_of_length_eq_zero (by omega)
    subst hL
    subst h0
    clear hr hn hf
    go_enter Try.func29, Try.ntmps29
    go_wp2_with fail
    go_loopw [3, 4] (fun cf ci wr => cf = .int .i64 0 ∧ ci = .int .i64 0 ∧ wr = w) (fun _ ci _ => 4 - (intOf ci).toNat)
    case atStart => exact ⟨rfl, rfl, rfl⟩
    case round =>
      obtain ⟨rfl, rfl, rfl⟩ := hrel
      go_wp2_with fail
      go_ret
      exact ⟨rfl, Below.refl _ _⟩
  · have HA := Lib.hid hr
    obtain ⟨g, off, rfl, hgB⟩ := hr.plain h0 hn
    have HR := Lib.hid hr
    have HN := Lib.hid hn
    have HF := Lib.hid hf
    clear hr hn hf HA
    go_enter Try.func29, Try.ntmps29
    go_wp2_with fail
    go_loopw [3, 4] (fun cf ci wr => ∃ (k : Nat) (S : Int), k ≤ n ∧ ci = .int .i64 k ∧ cf = .int .i64 S ∧ (0 ≤ S ∧ S ≤ k) ∧ Hid (S = En.con (L.take k)) ∧ Below w.heap.size w wr) (fun _ ci _ => n - (intOf ci).toNat)
    case atStart => exact ⟨0, 0, by omega, rfl, rfl, by omega, Lib.hid (by rfl), Below.refl _ _⟩
    case round =>
      obtain ⟨k, S, hk, rfl, rfl, ⟨hs0, hs1⟩, hS, hbl⟩ := hrel
      by_cases hlt : k < n
      · have hlt' : k < L.length := by rw [← HN.out]; exact hlt
        obtain ⟨c0, c1, c2, c3⟩ := ((HR.out.more hB).below hbl).ent HN.out k hlt'
        have hg := HF.out _ (List.getElem_mem hlt')
        have hnx := En.con_next L k hlt'
        rw [← hS.out] at hnx
        obtain ⟨⟨i, o, l, r⟩, he⟩ : ∃ e, e = L[k]'hlt' := ⟨_, rfl⟩
        have hat : L[k]? = some (i, o, l, r) := by rw [he]; exact List.getElem?_eq_getElem hlt'
        rw [← he] at c0 c1 c2 c3 hg hnx
        have hg' : En.fit i o l r := hg
        have hnx' : En.con (L.take (k + 1)) = if (En.ck i o l r = 0 ∧ 0 < r) ∧ En.nw (o, l) (En.keys (L.take k)) = true then S + 1 else S := by
          rw [hnx]; unfold En.p En.key; simp only [decide_eq_true_eq]; rfl
        have HG := Lib.hid hg'
        have HE := Lib.hid he
        have HAT := Lib.hid hat
        have HNX := Lib.hid hnx'
        obtain ⟨_, ⟨o0, o1⟩, ⟨l0, l1⟩, r0, r1⟩ := hg'
        clear he hg hnx hnx' hat hS
        by_cases q : En.ck i o l r = 0
        · have hq : (En.ck i o l r == 0) = true := by rw [q]; rfl
          have HQ := Lib.hid q
          clear q
          by_cases q1 : 0 < r
          · have hq1 : decide (0 < r) = true := decide_eq_true q1
            rcases Bool.eq_false_or_eq_true (En.nw (o, l) (En.keys (L.take k))) with q2 | q2
            · have HS : Hid (S + 1 = En.con (L.take (k + 1))) := Lib.hid (by rw [HNX.out, if_pos ⟨⟨HQ.out, q1⟩, q2⟩])
              go_wp2_with fail
              refine (refcheck_any _ _ _ _ HG.out _).mono ?_; rintro e w1 ⟨rfl, hb⟩
              have hw := bthen2 hb hbl
              clear c0 c1 c2 c3 hb
              obtain ⟨c0, c1, c2, c3⟩ := ((HR.out.more hB).below hw).ent HN.out k hlt'
              rw [← HE.out] at c0 c1 c2 c3
              go_wp2_with fail
              refine (first_any _ _ _ _ _ k i o l r _ ((HR.out.more hB).below hw) HN.out HF.out hw.size hm hlt HAT.out).mono ?_; rintro e w2 ⟨rfl, hb⟩
              have hw := bthen2 hb hw
              clear c0 c1 c2 c3 hb
              go_wp2_with fail
              exact ⟨⟨k + 1, S + 1, by omega, by go_num, rfl, by omega, HS, hw⟩, by simp [intOf]; omega⟩
            · have HS : Hid (S = En.con (L.take (k + 1))) := Lib.hid (by rw [HNX.out, if_neg (fun h => by rw [q2] at h; cases h.2)])
              go_wp2_with fail
              refine (refcheck_any _ _ _ _ HG.out _).mono ?_; rintro e w1 ⟨rfl, hb⟩
              have hw := bthen2 hb hbl
              clear c0 c1 c2 c3 hb
              obtain ⟨c0, c1, c2, c3⟩ := ((HR.out.more hB).below hw).ent HN.out k hlt'
              rw [← HE.out] at c0 c1 c2 c3
              go_wp2_with fail
              refine (first_any _ _ _ _ _ k i o l r _ ((HR.out.more hB).below hw) HN.out HF.out hw.size hm hlt HAT.out).mono ?_; rintro e w2 ⟨rfl, hb⟩
              have hw := bthen2 hb hw
              clear c0 c1 c2 c3 hb
              go_wp2_with fail
              exact ⟨⟨k + 1, S, by omega, by go_num, rfl, by omega, HS, hw⟩, by simp [intOf]; omega⟩
          · have hq1 : decide (0 < r) = false := decide_eq_false q1
            have HS : Hid (S = En.con (L.take (k + 1))) := Lib.hid (by rw [HNX.out, if_neg (fun h => q1 h.1.2)])
            go_wp2_with fail
            refine (refcheck_any _ _ _ _ HG.out _).mono ?_; rintro e w1 ⟨rfl, hb⟩
            have hw := bthen2 hb hbl
            clear c0 c1 c2 c3 hb
            obtain ⟨c0, c1, c2, c3⟩ := ((HR.out.more hB).below hw).ent HN.out k hlt'
            rw [← HE.out] at c0 c1 c2 c3
            go_wp2_with fail
            exact ⟨⟨k + 1, S, by omega, by go_num, rfl, by omega, HS, hw⟩, by simp [intOf]; omega⟩
        · have hq : (En.ck i o l r == 0) = false := by rw [beq_eq_false_iff_ne]; exact q
          have HS : Hid (S = En.con (L.take (k + 1))) := Lib.hid (by rw [HNX.out, if_neg (fun h => q h.1.1)])
          clear q
          go_wp2_with fail
          refine (refcheck_any _ _ _ _ HG.out _).mono ?_; rintro e w1 ⟨rfl, hb⟩
          have hw := bthen2 hb hbl
          clear c0 c1 c2 c3 hb
          obtain ⟨c0, c1, c2, c3⟩ := ((HR.out.more hB).below hw).ent HN.out k hlt'
          rw [← HE.out] at c0 c1 c2 c3
          go_wp2_with fail
          exact ⟨⟨k + 1, S, by omega, by go_num, rfl, by omega, HS, hw⟩, by simp [intOf]; omega⟩
      · have hkn : k = n := by omega
        subst hkn
        have hz : S = En.con L := by rw [hS.out, List.take_of_length_le (by rw [← HN.out]; omega)]
        have HZ := Lib.hid hz
        clear hz
        go_wp2_with fail
        go_ret
        exact ⟨ret1 HZ.out, hbl⟩

end Go.Proofs.Ytbojffednfiegaa
