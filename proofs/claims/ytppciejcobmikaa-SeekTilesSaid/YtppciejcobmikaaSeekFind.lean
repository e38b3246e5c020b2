/- The walks of Find, the program's and the document's. -/
import Derived.Test.YtppciejcobmikaaSeekPlace
namespace Go.Proofs.Ytppciejcobmikaa
open Go.RowKit

theorem blk_frz4 {w : World} {g : Nat} {a b c d : Value} {t : TypeId} (h : w.heap[g]? = some (.cells #[a, b, c, d] t (0, 0))) :
    w.frozen? ⟨g, 0, none⟩ = false ∧ w.frozen? ⟨g, 1, none⟩ = false ∧ w.frozen? ⟨g, 2, none⟩ = false ∧ w.frozen? ⟨g, 3, none⟩ = false := by
  refine ⟨?_, ?_, ?_, ?_⟩ <;> simp [World.frozen?, h]
theorem Sk.at_neg {L : List Ent} {id : Int} (h : Sk.m L id = 0) : Sk.at L id = -1 := by unfold Sk.at; rw [h]; rfl
theorem Sk.at_pos {L : List Ent} {id : Int} {k : Nat} (h : Sk.m L id = k + 1) : Sk.at L id = (k : Int) := by unfold Sk.at; rw [h]; omega
theorem Sk.is_zero {L : List Ent} {id : Int} (h : Sk.m L id = 0) : Sk.is L id = false := by unfold Sk.is; rw [h]; simp
theorem Sk.is_at {L : List Ent} {id i o l r : Int} {k : Nat} (h : Sk.m L id = k + 1) (hg : Sk.g L k = (i, o, l, r)) : Sk.is L id = decide (¬ (0 < r ∧ En.hs i o l r id = false)) := by
  unfold Sk.is
  rw [h, show k + 1 - 1 = k from rfl, hg]
  unfold En.h
  simp
theorem Sk.f_at {L : List Ent} {id : Int} {k : Nat} {e : Ent} (h : Sk.m L id = k + 1) (hg : Sk.g L k = e) (hi : Sk.is L id = true) : Sk.f L id = e := by
  unfold Sk.f
  rw [if_pos hi, h, show k + 1 - 1 = k from rfl, hg]
def FindR (L : List Ent) (id : Int) (e : Ending) : Prop := e = .returned (.tuple #[.agg #[.int .u64 (Sk.f L id).1, .int .u64 (Sk.f L id).2.1, .int .u32 (Sk.f L id).2.2.1, .int .u32 (Sk.f L id).2.2.2], .bool (Sk.is L id)])
theorem FindR.no {L : List Ent} {id : Int} (h : Sk.is L id = false) : FindR L id (.returned (.tuple #[.agg #[.int .u64 0, .int .u64 0, .int .u32 0, .int .u32 0], .bool false])) := by
  unfold FindR; rw [Sk.f_not h, h]; rfl
theorem blk_new' {w : World} {B : Nat} (h : B ≤ w.heap.size) (o : Obj) : Below B w (w.alloc o) := (blk_new w o).mono h
theorem FindR.yes {L : List Ent} {id i o l r : Int} (h : Sk.is L id = true) (hf : Sk.f L id = (i, o, l, r)) : FindR L id (.returned (.tuple #[.agg #[.int .u64 i, .int .u64 o, .int .u32 l, .int .u32 r], .bool true])) := by
  unfold FindR; rw [hf, h]

set_option maxHeartbeats 1000000 in
theorem find_any (A : Option Addr) (n cap : Nat) (L : List Ent) (B : Nat) (w : World) (id : Int) (hr : Reads w B 4 A n (ecells L)) (hn : n = L.length) (hf : En.fits L) (hB : B ≤ w.heap.size) (hm : n ≤ 140737488355328) :
    Calls Try.prog 35 #[.slice A n cap, .int .u64 id] w fun e w' => FindR L id e ∧ Below w.heap.size w w' := by
  have HR := Lib.hid hr
  have HN := Lib.hid hn
  have HF := Lib.hid hf
  have hml := Sk.m_le L id
  rw [← hn] at hml
  clear hr hn hf
  obtain ⟨m, hmm⟩ : ∃ m, m = Sk.m L id := ⟨_, rfl⟩
  rw [← hmm] at hml
  rcases m with _ | k
  · have HAT := Lib.hid (Sk.at_neg hmm.symm)
    have HP := Lib.hid (FindR.no (Sk.is_zero hmm.symm))
    clear hmm
    go_enter Try.func35, Try.ntmps35
    go_wp2_with fail
    refine (place_any _ _ _ L _ _ _ (HR.out.below (by exact blk_new' hB _)) HN.out HF.out (by simp; omega) hm).mono ?_; rintro e w1 ⟨he, hb⟩
    rw [HAT.out] at he
    subst he
    have HB := Lib.hid (blk_one hb).1
    have hw := (blk_one hb).2.2
    obtain ⟨b0, b1, b2, b3⟩ := blk_cells4 HB.out
    obtain ⟨f0, f1, f2, f3⟩ := blk_frz4 HB.out
    have hz1 := (blk_one hb).2.1
    clear hb
    go_wp2_with fail
    exact bodyPost_ret (v := .tuple #[.agg #[.int .u64 0, .int .u64 0, .int .u32 0, .int .u32 0], .bool false]) (by simp [results, Try.results35, go_sem, b0, b1, b2, b3]) rfl ⟨HP.out, (by repeat (first | with_reducible exact Below.refl _ _ | with_reducible assumption | with_reducible refine Below.setCell ?_ (by first | (simp; done) | omega | (simp; omega)) _))⟩
  · have HAT := Lib.hid (Sk.at_pos hmm.symm)
    have hk : k < n := by omega
    have hlt' : k < L.length := by rw [← HN.out]; exact hk
    obtain ⟨g, off, hA, hgB⟩ := HR.out.plain (by omega) HN.out
    rw [hA] at HR
    subst hA
    have hg0 := Sk.g_eq hlt'
    have hgd := HF.out _ (List.getElem_mem hlt')
    obtain ⟨⟨i, o, l, r⟩, he⟩ : ∃ e, e = L[k]'hlt' := ⟨_, rfl⟩
    rw [← he] at hg0 hgd
    have his := Sk.is_at hmm.symm hg0
    have hfa := Sk.f_at hmm.symm hg0
    have HFA := Lib.hid hfa
    have HE := Lib.hid he
    have HG : Hid (En.fit i o l r) := Lib.hid hgd
    have hr0 : 0 ≤ r := hgd.2.2.2.1
    clear hg0 hgd hmm he hfa
    by_cases hrr : 0 < r
    · rcases Bool.eq_false_or_eq_true (En.hs i o l r id) with hh | hh
      · have hi' : Sk.is L id = true := by rw [his, hh]; simp
        have HP := Lib.hid (FindR.yes hi' (HFA.out hi'))
        have HH := Lib.hid hh
        clear his hi' hh
        go_enter Try.func35, Try.ntmps35
        go_wp2_with fail
        refine (place_any _ _ _ L _ _ _ (HR.out.below (by exact blk_new' hB _)) HN.out HF.out (by simp; omega) hm).mono ?_; rintro e w1 ⟨he, hb⟩
        rw [HAT.out] at he
        subst he
        have HB := Lib.hid (blk_one hb).1
        have hw := (blk_one hb).2.2
        obtain ⟨b0, b1, b2, b3⟩ := blk_cells4 HB.out
        obtain ⟨f0, f1, f2, f3⟩ := blk_frz4 HB.out
        have hz1 := (blk_one hb).2.1
        clear hb
        obtain ⟨c0, c1, c2, c3⟩ := ((HR.out.more hB).below hw).ent HN.out k hlt'
        rw [← HE.out] at c0 c1 c2 c3
        go_wp2_with fail
        refine (has_any _ _ _ _ _ HG.out _).mono ?_; rintro e w2 ⟨he, hb⟩
        rw [HH.out] at he
        subst he
        have HB := Lib.hid (blk_keep2 hb HB.out)
        have hw := bthen2 hb hw
        clear c0 c1 c2 c3 b0 b1 b2 b3 f0 f1 f2 f3 hb
        obtain ⟨b0, b1, b2, b3⟩ := blk_cells4 HB.out
        obtain ⟨f0, f1, f2, f3⟩ := blk_frz4 HB.out
        obtain ⟨c0, c1, c2, c3⟩ := ((HR.out.more hB).below hw).ent HN.out k hlt'
        rw [← HE.out] at c0 c1 c2 c3
        go_wp2_with fail
        exact bodyPost_ret (v := .tuple #[.agg #[.int .u64 i, .int .u64 o, .int .u32 l, .int .u32 r], .bool true]) (by simp [results, Try.results35, go_sem, b0, b1, b2, b3]) rfl ⟨HP.out, (by repeat (first | with_reducible exact Below.refl _ _ | with_reducible assumption | with_reducible refine Below.setCell ?_ (by first | (simp; done) | omega | (simp; omega)) _))⟩
      · have hi' : Sk.is L id = false := by rw [his, hh]; simp; omega
        have HP := Lib.hid (FindR.no hi')
        have HH := Lib.hid hh
        clear his hi' hh
        go_enter Try.func35, Try.ntmps35
        go_wp2_with fail
        refine (place_any _ _ _ L _ _ _ (HR.out.below (by exact blk_new' hB _)) HN.out HF.out (by simp; omega) hm).mono ?_; rintro e w1 ⟨he, hb⟩
        rw [HAT.out] at he
        subst he
        have HB := Lib.hid (blk_one hb).1
        have hw := (blk_one hb).2.2
        obtain ⟨b0, b1, b2, b3⟩ := blk_cells4 HB.out
        obtain ⟨f0, f1, f2, f3⟩ := blk_frz4 HB.out
        have hz1 := (blk_one hb).2.1
        clear hb
        obtain ⟨c0, c1, c2, c3⟩ := ((HR.out.more hB).below hw).ent HN.out k hlt'
        rw [← HE.out] at c0 c1 c2 c3
        go_wp2_with fail
        refine (has_any _ _ _ _ _ HG.out _).mono ?_; rintro e w2 ⟨he, hb⟩
        rw [HH.out] at he
        subst he
        have HB := Lib.hid (blk_keep2 hb HB.out)
        have hw := bthen2 hb hw
        clear c0 c1 c2 c3 b0 b1 b2 b3 f0 f1 f2 f3 hb
        obtain ⟨b0, b1, b2, b3⟩ := blk_cells4 HB.out
        obtain ⟨f0, f1, f2, f3⟩ := blk_frz4 HB.out
        go_wp2_with fail
        exact bodyPost_ret (v := .tuple #[.agg #[.int .u64 0, .int .u64 0, .int .u32 0, .int .u32 0], .bool false]) (by simp [results, Try.results35, go_sem, b0, b1, b2, b3]) rfl ⟨HP.out, (by repeat (first | with_reducible exact Below.refl _ _ | with_reducible assumption | with_reducible refine Below.setCell ?_ (by first | (simp; done) | omega | (simp; omega)) _))⟩
    · have hi' : Sk.is L id = true := by rw [his]; simp [hrr]
      have HP := Lib.hid (FindR.yes hi' (HFA.out hi'))
      obtain rfl : r = 0 := by omega
      clear his hi'
      go_enter Try.func35, Try.ntmps35
      go_wp2_with fail
      refine (place_any _ _ _ L _ _ _ (HR.out.below (by exact blk_new' hB _)) HN.out HF.out (by simp; omega) hm).mono ?_; rintro e w1 ⟨he, hb⟩
      rw [HAT.out] at he
      subst he
      have HB := Lib.hid (blk_one hb).1
      have hw := (blk_one hb).2.2
      obtain ⟨b0, b1, b2, b3⟩ := blk_cells4 HB.out
      obtain ⟨f0, f1, f2, f3⟩ := blk_frz4 HB.out
      have hz1 := (blk_one hb).2.1
      clear hb
      obtain ⟨c0, c1, c2, c3⟩ := ((HR.out.more hB).below hw).ent HN.out k hlt'
      rw [← HE.out] at c0 c1 c2 c3
      go_wp2_with fail
      exact bodyPost_ret (v := .tuple #[.agg #[.int .u64 i, .int .u64 o, .int .u32 l, .int .u32 0], .bool true]) (by simp [results, Try.results35, go_sem, b0, b1, b2, b3]) rfl ⟨HP.out, (by repeat (first | with_reducible exact Below.refl _ _ | with_reducible assumption | with_reducible refine Below.setCell ?_ (by first | (simp; done) | omega | (simp; omega)) _))⟩

set_option maxHeartbeats 1000000 in
theorem reffind_any (A : Option Addr) (n cap : Nat) (L : List Ent) (B : Nat) (w : World) (id : Int) (hr : Reads w B 4 A n (ecells L)) (hn : n = L.length) (hf : En.fits L) (hB : B ≤ w.heap.size) (hm : n ≤ 140737488355328) :
    Calls Try.prog 36 #[.slice A n cap, .int .u64 id] w fun e w' => FindR L id e ∧ Below w.heap.size w w' := by
  have HR := Lib.hid hr
  have HN := Lib.hid hn
  have HF := Lib.hid hf
  have hml := Sk.m_le L id
  rw [← hn] at hml
  clear hr hn hf
  obtain ⟨m, hmm⟩ : ∃ m, m = Sk.m L id := ⟨_, rfl⟩
  rw [← hmm] at hml
  rcases m with _ | k
  · have HAT := Lib.hid (Sk.at_neg hmm.symm)
    have HP := Lib.hid (FindR.no (Sk.is_zero hmm.symm))
    clear hmm
    go_enter Try.func36, Try.ntmps36
    go_wp2_with fail
    refine (refplace_any _ _ _ L _ _ _ (HR.out.below (by exact blk_new' hB _)) HN.out HF.out (by simp; omega) hm).mono ?_; rintro e w1 ⟨he, hb⟩
    rw [HAT.out] at he
    subst he
    have HB := Lib.hid (blk_one hb).1
    have hw := (blk_one hb).2.2
    obtain ⟨b0, b1, b2, b3⟩ := blk_cells4 HB.out
    obtain ⟨f0, f1, f2, f3⟩ := blk_frz4 HB.out
    have hz1 := (blk_one hb).2.1
    clear hb
    go_wp2_with fail
    exact bodyPost_ret (v := .tuple #[.agg #[.int .u64 0, .int .u64 0, .int .u32 0, .int .u32 0], .bool false]) (by simp [results, Try.results36, go_sem, b0, b1, b2, b3]) rfl ⟨HP.out, (by repeat (first | with_reducible exact Below.refl _ _ | with_reducible assumption | with_reducible refine Below.setCell ?_ (by first | (simp; done) | omega | (simp; omega)) _))⟩
  · have HAT := Lib.hid (Sk.at_pos hmm.symm)
    have hk : k < n := by omega
    have hlt' : k < L.length := by rw [← HN.out]; exact hk
    obtain ⟨g, off, hA, hgB⟩ := HR.out.plain (by omega) HN.out
    rw [hA] at HR
    subst hA
    have hg0 := Sk.g_eq hlt'
    have hgd := HF.out _ (List.getElem_mem hlt')
    obtain ⟨⟨i, o, l, r⟩, he⟩ : ∃ e, e = L[k]'hlt' := ⟨_, rfl⟩
    rw [← he] at hg0 hgd
    have his := Sk.is_at hmm.symm hg0
    have hfa := Sk.f_at hmm.symm hg0
    have HFA := Lib.hid hfa
    have HE := Lib.hid he
    have HG : Hid (En.fit i o l r) := Lib.hid hgd
    have hr0 : 0 ≤ r := hgd.2.2.2.1
    clear hg0 hgd hmm he hfa
    by_cases hrr : 0 < r
    · rcases Bool.eq_false_or_eq_true (En.hs i o l r id) with hh | hh
      · have hi' : Sk.is L id = true := by rw [his, hh]; simp
        have HP := Lib.hid (FindR.yes hi' (HFA.out hi'))
        have HH := Lib.hid hh
        clear his hi' hh
        go_enter Try.func36, Try.ntmps36
        go_wp2_with fail
        refine (refplace_any _ _ _ L _ _ _ (HR.out.below (by exact blk_new' hB _)) HN.out HF.out (by simp; omega) hm).mono ?_; rintro e w1 ⟨he, hb⟩
        rw [HAT.out] at he
        subst he
        have HB := Lib.hid (blk_one hb).1
        have hw := (blk_one hb).2.2
        obtain ⟨b0, b1, b2, b3⟩ := blk_cells4 HB.out
        obtain ⟨f0, f1, f2, f3⟩ := blk_frz4 HB.out
        have hz1 := (blk_one hb).2.1
        clear hb
        obtain ⟨c0, c1, c2, c3⟩ := ((HR.out.more hB).below hw).ent HN.out k hlt'
        rw [← HE.out] at c0 c1 c2 c3
        go_wp2_with fail
        refine (refhas_any _ _ _ _ _ HG.out _).mono ?_; rintro e w2 ⟨he, hb⟩
        rw [HH.out] at he
        subst he
        have HB := Lib.hid (blk_keep2 hb HB.out)
        have hw := bthen2 hb hw
        clear c0 c1 c2 c3 b0 b1 b2 b3 f0 f1 f2 f3 hb
        obtain ⟨b0, b1, b2, b3⟩ := blk_cells4 HB.out
        obtain ⟨f0, f1, f2, f3⟩ := blk_frz4 HB.out
        obtain ⟨c0, c1, c2, c3⟩ := ((HR.out.more hB).below hw).ent HN.out k hlt'
        rw [← HE.out] at c0 c1 c2 c3
        go_wp2_with fail
        exact bodyPost_ret (v := .tuple #[.agg #[.int .u64 i, .int .u64 o, .int .u32 l, .int .u32 r], .bool true]) (by simp [results, Try.results36, go_sem, b0, b1, b2, b3]) rfl ⟨HP.out, (by repeat (first | with_reducible exact Below.refl _ _ | with_reducible assumption | with_reducible refine Below.setCell ?_ (by first | (simp; done) | omega | (simp; omega)) _))⟩
      · have hi' : Sk.is L id = false := by rw [his, hh]; simp; omega
        have HP := Lib.hid (FindR.no hi')
        have HH := Lib.hid hh
        clear his hi' hh
        go_enter Try.func36, Try.ntmps36
        go_wp2_with fail
        refine (refplace_any _ _ _ L _ _ _ (HR.out.below (by exact blk_new' hB _)) HN.out HF.out (by simp; omega) hm).mono ?_; rintro e w1 ⟨he, hb⟩
        rw [HAT.out] at he
        subst he
        have HB := Lib.hid (blk_one hb).1
        have hw := (blk_one hb).2.2
        obtain ⟨b0, b1, b2, b3⟩ := blk_cells4 HB.out
        obtain ⟨f0, f1, f2, f3⟩ := blk_frz4 HB.out
        have hz1 := (blk_one hb).2.1
        clear hb
        obtain ⟨c0, c1, c2, c3⟩ := ((HR.out.more hB).below hw).ent HN.out k hlt'
        rw [← HE.out] at c0 c1 c2 c3
        go_wp2_with fail
        refine (refhas_any _ _ _ _ _ HG.out _).mono ?_; rintro e w2 ⟨he, hb⟩
        rw [HH.out] at he
        subst he
        have HB := Lib.hid (blk_keep2 hb HB.out)
        have hw := bthen2 hb hw
        clear c0 c1 c2 c3 b0 b1 b2 b3 f0 f1 f2 f3 hb
        obtain ⟨b0, b1, b2, b3⟩ := blk_cells4 HB.out
        obtain ⟨f0, f1, f2, f3⟩ := blk_frz4 HB.out
        go_wp2_with fail
        exact bodyPost_ret (v := .tuple #[.agg #[.int .u64 0, .int .u64 0, .int .u32 0, .int .u32 0], .bool false]) (by simp [results, Try.results36, go_sem, b0, b1, b2, b3]) rfl ⟨HP.out, (by repeat (first | with_reducible exact Below.refl _ _ | with_reducible assumption | with_reducible refine Below.setCell ?_ (by first | (simp; done) | omega | (simp; omega)) _))⟩
    · have hi' : Sk.is L id = true := by rw [his]; simp [hrr]
      have HP := Lib.hid (FindR.yes hi' (HFA.out hi'))
      obtain rfl : r = 0 := by omega
      clear his hi'
      go_enter Try.func36, Try.ntmps36
      go_wp2_with fail
      refine (refplace_any _ _ _ L _ _ _ (HR.out.below (by exact blk_new' hB _)) HN.out HF.out (by simp; omega) hm).mono ?_; rintro e w1 ⟨he, hb⟩
      rw [HAT.out] at he
      subst he
      have HB := Lib.hid (blk_one hb).1
      have hw := (blk_one hb).2.2
      obtain ⟨b0, b1, b2, b3⟩ := blk_cells4 HB.out
      obtain ⟨f0, f1, f2, f3⟩ := blk_frz4 HB.out
      have hz1 := (blk_one hb).2.1
      clear hb
      obtain ⟨c0, c1, c2, c3⟩ := ((HR.out.more hB).below hw).ent HN.out k hlt'
      rw [← HE.out] at c0 c1 c2 c3
      go_wp2_with fail
      exact bodyPost_ret (v := .tuple #[.agg #[.int .u64 i, .int .u64 o, .int .u32 l, .int .u32 0], .bool true]) (by simp [results, Try.results36, go_sem, b0, b1, b2, b3]) rfl ⟨HP.out, (by repeat (first | with_reducible exact Below.refl _ _ | with_reducible assumption | with_reducible refine Below.setCell ?_ (by first | (simp; done) | omega | (simp; omega)) _))⟩

end Go.Proofs.Ytppciejcobmikaa
