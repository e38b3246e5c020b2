/- The document's Take. -/
import Derived.Test.YtbojffednfiegaaVarTake
import Derived.Test.YtbojffednfiegaaVarRefGet
namespace Go.Proofs.Ytbojffednfiegaa
open Go.RowKit

set_option maxRecDepth 100000 in
set_option maxHeartbeats 4000000 in
theorem reftake_ok (s : ByteArray) (A : Nat) (N : Nat) (hs : s.size ≤ 1000000) (hA : A ≤ s.size) (hN : N ≤ 65536) (w : World) :
    Calls Try.prog 53 #[Sc s A 0, .int .i64 N] w (TkPost (Vi.tx s A 0 N) s (Vi.ta s A 0 N) (Vi.tb s A 0 N) w) := by
  have htok : Vi.tok s A 0 N := ⟨rfl, by omega, by omega, by omega, by omega⟩
  have hta : Vi.ta s A 0 N = (Vi.rn s N A).2.1 := by unfold Vi.ta; rw [if_pos htok]; simp
  have htb : Vi.tb s A 0 N = (Vi.rn s N A).2.2 := by unfold Vi.tb; rw [if_pos htok]; simp
  have htx : Vi.tx s A 0 N = if (Vi.rn s N A).2.2 = 0 then (Vi.rn s N A).1 else [] := by unfold Vi.tx; rw [htb]; simp
  have HTA := Lib.hid hta
  have HTB := Lib.hid htb
  have HTX := Lib.hid htx
  clear hta htb htx htok
  obtain ⟨i0, hi, iz0, iz1, iz2⟩ := info_parts u64_info
  have HS := Lib.hid hs
  have hN' : (N : Int) ≤ 65536 := by omega
  have hN0 : (0 : Int) ≤ (N : Int) := by omega
  have hA' : (A : Int) ≤ (s.size : Int) := by omega
  have hA0 : (0 : Int) ≤ (A : Int) := by omega
  have hdd : decide (s.size < A) = false := decide_eq_false (by omega)
  go_enter Try.func53, Try.ntmps53
  go_wp2_with fail
  go_loopw [6, 7] (fun cv ci wr => ∃ (k : Nat) (a : Int) (l : List Int), k ≤ N ∧ ci = .int .i64 k ∧ Hid (l.length = k) ∧ Hid (wr.ownsRow (w.heap.size + 2) 22 1 cv k (l.map (Value.int .u64))) ∧ Hid (wr.heap[w.heap.size]? = some (.cells #[.string s, .int .i64 a, .int .i64 0] 71 (0, 0))) ∧ Hid (wr.heap[w.heap.size + 1]? = some (.cells #[.string ⟨#[]⟩, .int .i64 0, .int .i64 0] 71 (0, 0))) ∧ Hid (Vi.rn s N A = (l ++ (Vi.rn s (N - k) a).1, (Vi.rn s (N - k) a).2)) ∧ Below w.heap.size w wr) (fun _ ci _ => N - (intOf ci).toNat)
  case atStart => exact ⟨0, A, [], by omega, rfl, Lib.hid rfl, Lib.hid (World.ownsRow_nil _ _ _ _), Lib.hid (blk_alloc (heap_alloc_new w _) _), Lib.hid (by have h := heap_alloc_new (w.alloc (.cells #[.string s, .int .i64 (A : Int), .int .i64 0] 71)) (.cells #[.string ⟨#[]⟩, .int .i64 0, .int .i64 0] 71); rwa [World.size_alloc] at h), Lib.hid (by simp), bthen (blk_new _ _) (blk_new _ _)⟩
  case round =>
    obtain ⟨k, a, l, hk, rfl, hl, hR, hP, hQ, hrn, hbl⟩ := hrel
    obtain ⟨⟨p0, p1, p2⟩, f0, f1, f2⟩ := blk_cells3 hP.out
    obtain ⟨⟨q0, q1, q2⟩, g0, g1, g2⟩ := blk_cells3 hQ.out
    have hsz := blk_lt hQ.out
    by_cases hlt : k < N
    · obtain ⟨m, hm⟩ : ∃ m, N - k = m + 1 := ⟨N - k - 1, by omega⟩
      have hrn2 := hrn.out
      rw [hm] at hrn2
      by_cases he : Vi.gb s a 0 = 0
      · rw [Vi.rn_yes he] at hrn2
        have hd : (Vi.gb s a 0 != 0) = false := by rw [he]; rfl
        have hm' : m = N - (k + 1) := by omega
        have HRN : Hid (Vi.rn s N A = ((l ++ [Vi.gx s a 0]) ++ (Vi.rn s (N - (k + 1)) (Vi.ga s a 0)).1, (Vi.rn s (N - (k + 1)) (Vi.ga s a 0)).2)) := Lib.hid (by rw [hrn2, hm']; simp)
        have HE := Lib.hid he
        clear hm hrn2 hm' he hrn
        go_wp2_with fail
        refine (refget_any s a 0 HS.out _).mono ?_
        intro e w1 hp
        obtain ⟨he, hb⟩ := hp
        subst he
        have hP1 := blk_keep hP.out hb
        have hQ1 := blk_keep hQ.out hb
        have hR1 := row_keep hR.out hb
        have hsw1 : w.heap.size + 2 ≤ w1.heap.size := by have := hb.size; omega
        have hw := bthen2 hb hbl
        clear p0 p1 p2 f0 f1 f2 q0 q1 q2 g0 g1 g2 hb
        obtain ⟨⟨p0, p1, p2⟩, f0, f1, f2⟩ := blk_cells3 hP1
        have HP2 := Lib.hid (blk_alloc (blk_set3 (a' := .string s) (b' := .int .i64 (Vi.ga s a 0)) (c' := .int .i64 (Vi.gb s a 0)) hP1) (.cells #[.string s, .int .i64 (Vi.ga s a 0), .int .i64 (Vi.gb s a 0)] 71))
        have hss : w.heap.size < w1.heap.size := by omega
        have hR3 := (row_far3 (g := w.heap.size) (i := 0) (j := 1) (k := 2) (u := .string s) (x := .int .i64 (Vi.ga s a 0)) (y := .int .i64 (Vi.gb s a 0)) hR1 (by omega)).alloc (.cells #[.string s, .int .i64 (Vi.ga s a 0), .int .i64 (Vi.gb s a 0)] 71)
        have HQ3 := Lib.hid (blk_alloc (blk_far3 (g' := w.heap.size) (i := 0) (j := 1) (k := 2) (u := .string s) (v := .int .i64 (Vi.ga s a 0)) (x := .int .i64 (Vi.gb s a 0)) hQ1 (Nat.succ_ne_self _)) (.cells #[.string s, .int .i64 (Vi.ga s a 0), .int .i64 (Vi.gb s a 0)] 71))
        have hlt2 := hR1.lt
        have hsw := hw.size
        clear hQ1 hR1
        go_wp2_with (at_builtin; go_must (refine wpList_append_own _ rfl (.tmp 50) (.tmp 52) _ rfl (w.heap.size + 2) 22 i0 _ 1 8 Try.underlying63 hi iz0 iz1 iz2 rfl (by omega) _ k (l.map (Value.int .u64)) rfl (hR3.alloc _) ⟨w1.heap.size + 1, 0, none⟩ 1 1 [.int .u64 (Vi.gx s a 0)] rfl rfl ?c1 ?c2 ?c3 ?c4 ?c5 ?_))
        case c1 =>
          have hnew := heap_alloc_new ((((w1.setCell ⟨w.heap.size, 0, none⟩ (.string s)).setCell ⟨w.heap.size, 1, none⟩ (.int .i64 (Vi.ga s a 0))).setCell ⟨w.heap.size, 2, none⟩ (.int .i64 (Vi.gb s a 0))).alloc (.cells #[.string s, .int .i64 (Vi.ga s a 0), .int .i64 (Vi.gb s a 0)] 71)) (.cells #[.int .u64 (Vi.gx s a 0)] 22)
          have hz : ((((w1.setCell ⟨w.heap.size, 0, none⟩ (.string s)).setCell ⟨w.heap.size, 1, none⟩ (.int .i64 (Vi.ga s a 0))).setCell ⟨w.heap.size, 2, none⟩ (.int .i64 (Vi.gb s a 0))).alloc (.cells #[.string s, .int .i64 (Vi.ga s a 0), .int .i64 (Vi.gb s a 0)] 71)).heap.size = w1.heap.size + 1 := by simp
          rw [hz] at hnew
          exact blk1c hnew
        case c2 => intro u hu; simp at hu; subst hu; rfl
        case c3 => simp only [maxLen]; omega
        case c4 => omega
        case c5 => simp; omega
        intro v' w3 hown3 hgrow3 _
        have hb3 : Below w.heap.size w w3 := (((((hw.setCell (p := ⟨w.heap.size, 0, none⟩) (Nat.le_refl _) _).setCell (p := ⟨w.heap.size, 1, none⟩) (Nat.le_refl _) _).setCell (p := ⟨w.heap.size, 2, none⟩) (Nat.le_refl _) _).alloc (by simp; omega) _).alloc (by simp; omega) _).grown hgrow3 (by simp; omega) (fun g hg => by have := (hlt2 g hg).1; omega)
        have hP3 := Lib.hid (blk_grown (blk_alloc HP2.out _) hgrow3 (fun g hg => by have := (hlt2 g hg).1; omega))
        have hQ4 := Lib.hid (blk_grown (blk_alloc HQ3.out _) hgrow3 (fun g hg => by have := (hlt2 g hg).1; omega))
        have hR4 : Hid (w3.ownsRow (w.heap.size + 2) 22 1 v' (k + 1) ((l ++ [Vi.gx s a 0]).map (Value.int .u64))) := Lib.hid (by rw [List.map_append]; exact hown3)
        have hP4 : Hid (w3.heap[w.heap.size]? = some (.cells #[.string s, .int .i64 (Vi.ga s a 0), .int .i64 0] 71 (0, 0))) := Lib.hid (by have h := hP3.out; rwa [HE.out] at h)
        clear hown3 hgrow3 hlt2 hR3 HQ3 HP2 hP3 p0 p1 p2 f0 f1 f2
        go_wp2_with fail
        exact ⟨⟨k + 1, Vi.ga s a 0, l ++ [Vi.gx s a 0], by omega, by go_num, Lib.hid (by rw [List.length_append, hl.out]; rfl), hR4, hP4, hQ4, HRN, hb3⟩, by simp [intOf]; omega⟩
      · have hgx := Vi.g_not (s := s) (a := a) (b := 0) rfl he
        have hga : Vi.ga s a 0 = a := hgx.2
        have hd : (Vi.gb s a 0 != 0) = true := by rw [bne_iff_ne]; exact he
        rw [Vi.rn_no he] at hrn2
        have HF : Hid (Vi.ta s A 0 N = a ∧ Vi.tb s A 0 N = Vi.gb s a 0 ∧ Vi.tx s A 0 N = []) := Lib.hid ⟨by rw [HTA.out, hrn2], by rw [HTB.out, hrn2], by rw [HTX.out, hrn2, if_neg he]⟩
        clear hm hrn2 he hrn hgx
        go_wp2_with fail
        refine (refget_any s a 0 HS.out _).mono ?_
        intro e w1 hp
        obtain ⟨he, hb⟩ := hp
        subst he
        have hP1 := blk_keep hP.out hb
        have hQ1 := blk_keep hQ.out hb
        have hw := bthen2 hb hbl
        have hsw := hw.size
        clear p0 p1 p2 f0 f1 f2 q0 q1 q2 g0 g1 g2 hb
        obtain ⟨⟨p0, p1, p2⟩, f0, f1, f2⟩ := blk_cells3 hP1
        obtain ⟨⟨q0, q1, q2⟩, g0, g1, g2⟩ := blk_cells3 hQ1
        have hss : w.heap.size < w1.heap.size := by have := blk_lt hP1; omega
        have hss1 : w.heap.size + 1 < w1.heap.size := blk_lt hQ1
        clear hP1 hQ1
        go_wp2_with fail
        go_region
        all_goals
          go_wp2_with fail
          exact bodyPost_ret (v := .tuple #[.slice none 0 0, Sc s a (Vi.gb s a 0)]) (by simp [results, Try.results53, go_sem, q0, q1, q2, hss1]) rfl ⟨_, by rw [HF.out.1, HF.out.2.1], by rw [HF.out.2.2]; exact Row64.nil _ _, (by repeat (first | with_reducible exact Below.refl _ _ | with_reducible assumption | with_reducible refine Below.setCell ?_ (by first | (simp; done) | (simp; omega) | omega) _ | with_reducible refine Below.alloc ?_ (by first | exact Nat.le_refl _ | (simp; done) | (simp; omega) | omega) _ | with_reducible refine Below.drew ?_))⟩
    · have hkn : k = N := by omega
      subst hkn
      have hrn2 := hrn.out
      rw [Nat.sub_self] at hrn2
      have HF : Hid (Vi.ta s A 0 k = a ∧ Vi.tb s A 0 k = 0 ∧ Vi.tx s A 0 k = l) := Lib.hid ⟨by rw [HTA.out, hrn2]; rfl, by rw [HTB.out, hrn2]; rfl, by rw [HTX.out, hrn2]; simp [Vi.rn]⟩
      have hsw := hbl.size
      clear hrn2 hrn
      go_wp2_with fail
      go_region
      all_goals
        go_wp2_with fail
        exact bodyPost_ret (v := .tuple #[u6, Sc s a 0]) (by simp [results, Try.results53, go_sem, q0, q1, q2]) rfl ⟨_, by rw [HF.out.1, HF.out.2.1], by rw [HF.out.2.2]; unfold Row64; rw [hl.out]; exact (row_far3 hR.out (Nat.lt_succ_self _)).mono (by omega), (by repeat (first | with_reducible exact Below.refl _ _ | with_reducible assumption | with_reducible refine Below.setCell ?_ (by first | (simp; done) | (simp; omega) | omega) _ | with_reducible refine Below.alloc ?_ (by first | exact Nat.le_refl _ | (simp; done) | (simp; omega) | omega) _ | with_reducible refine Below.drew ?_))⟩

set_option maxRecDepth 100000 in
set_option maxHeartbeats 2000000 in
theorem reftake_any (s : ByteArray) (a b n : Int) (hs : s.size ≤ 1000000) (w : World) :
    Calls Try.prog 53 #[Sc s a b, .int .i64 n] w (TkPost (Vi.tx s a b n) s (Vi.ta s a b n) (Vi.tb s a b n) w) := by
  by_cases hb : b = 0
  · subst hb
    by_cases ht : Vi.tok s a 0 n
    · obtain ⟨A, rfl⟩ := Int.eq_ofNat_of_zero_le ht.2.1
      obtain ⟨N, rfl⟩ := Int.eq_ofNat_of_zero_le ht.2.2.2.1
      exact reftake_ok s A N hs (by have := ht.2.2.1; omega) (by have := ht.2.2.2.2; omega) w
    · have hta : Vi.ta s a 0 n = a := by unfold Vi.ta; rw [if_neg ht]
      have htb : Vi.tb s a 0 n = 2 := by unfold Vi.tb; rw [if_neg ht, if_pos rfl]
      have htx : Vi.tx s a 0 n = [] := by unfold Vi.tx; rw [htb]; rfl
      rw [hta, htb, htx]
      clear hta htb htx
      have hc : n < 0 ∨ (¬ n < 0 ∧ 65536 < n ∧ a < 0) ∨ (¬ n < 0 ∧ 65536 < n ∧ ¬ a < 0 ∧ (s.size : Int) < a) ∨ (¬ n < 0 ∧ 65536 < n ∧ ¬ a < 0 ∧ ¬ (s.size : Int) < a) ∨ (¬ n < 0 ∧ ¬ 65536 < n ∧ a < 0) ∨ (¬ n < 0 ∧ ¬ 65536 < n ∧ ¬ a < 0 ∧ (s.size : Int) < a) := by unfold Vi.tok at ht; omega
      clear ht
      have hc2 : a < 0 ∨ (¬ a < 0 ∧ (s.size : Int) < a) ∨ (¬ a < 0 ∧ ¬ (s.size : Int) < a) := by omega
      rcases hc with h | ⟨h, h2, h3⟩ | ⟨h, h2, h3, h4⟩ | ⟨h, h2, h3, h4⟩ | ⟨h, h2, h3⟩ | ⟨h, h2, h3, h4⟩
      · rcases hc2 with g | ⟨g, g2⟩ | ⟨g, g2⟩
        all_goals
          go_enter Try.func53, Try.ntmps53
          go_wp2_with fail
          go_region
          all_goals
            go_wp2_with fail
            exact bodyPost_ret (v := .tuple #[.slice none 0 0, Sc s a 2]) (by simp [results, Try.results53, go_sem]) rfl ⟨_, rfl, Row64.nil _ _, (bthen (blk_new _ _) (blk_new _ _)).drew⟩
      all_goals
        clear hc2
        go_enter Try.func53, Try.ntmps53
        go_wp2_with fail
        go_region
        all_goals
          go_wp2_with fail
          exact bodyPost_ret (v := .tuple #[.slice none 0 0, Sc s a 2]) (by simp [results, Try.results53, go_sem]) rfl ⟨_, rfl, Row64.nil _ _, (bthen (blk_new _ _) (blk_new _ _)).drew⟩
  · have ht : ¬ Vi.tok s a b n := fun h => hb h.1
    have hta : Vi.ta s a b n = a := by unfold Vi.ta; rw [if_neg ht]
    have htb : Vi.tb s a b n = b := by unfold Vi.tb; rw [if_neg ht, if_neg hb]
    have htx : Vi.tx s a b n = [] := by unfold Vi.tx; rw [htb, if_neg hb]
    have hd : (b != 0) = true := by rw [bne_iff_ne]; exact hb
    rw [hta, htb, htx]
    clear hta htb htx ht hb
    go_enter Try.func53, Try.ntmps53
    go_wp2_with fail
    go_region
    all_goals
      go_wp2_with fail
      exact bodyPost_ret (v := .tuple #[.slice none 0 0, Sc s a b]) (by simp [results, Try.results53, go_sem]) rfl ⟨_, rfl, Row64.nil _ _, (bthen (blk_new _ _) (blk_new _ _)).drew⟩

end Go.Proofs.Ytbojffednfiegaa
