/- The program's Take. -/
import Derived.Test.YtppciejcobmikaaVarGet
import Derived.Test.YtppciejcobmikaaVarLay
import Derived.Deep.Onto
namespace Go.Proofs.Ytppciejcobmikaa
open Go.RowKit

def Vi.rn (s : ByteArray) : Nat → Int → List Int × Int × Int
  | 0, a => ([], a, 0)
  | k + 1, a => if Vi.gb s a 0 = 0 then (Vi.gx s a 0 :: (Vi.rn s k (Vi.ga s a 0)).1, (Vi.rn s k (Vi.ga s a 0)).2) else ([], a, Vi.gb s a 0)
def Vi.tok (s : ByteArray) (a b n : Int) : Prop := b = 0 ∧ 0 ≤ a ∧ a ≤ s.size ∧ 0 ≤ n ∧ n ≤ 65536
instance (s : ByteArray) (a b n : Int) : Decidable (Vi.tok s a b n) := by unfold Vi.tok; infer_instance
def Vi.ta (s : ByteArray) (a b n : Int) : Int := if Vi.tok s a b n then (Vi.rn s n.toNat a).2.1 else a
def Vi.tb (s : ByteArray) (a b n : Int) : Int := if Vi.tok s a b n then (Vi.rn s n.toNat a).2.2 else if b = 0 then 2 else b
def Vi.tx (s : ByteArray) (a b n : Int) : List Int := if Vi.tb s a b n = 0 then (Vi.rn s n.toNat a).1 else []
theorem Vi.rn_yes {s : ByteArray} {k : Nat} {a : Int} (h : Vi.gb s a 0 = 0) : Vi.rn s (k + 1) a = (Vi.gx s a 0 :: (Vi.rn s k (Vi.ga s a 0)).1, (Vi.rn s k (Vi.ga s a 0)).2) := by rw [Vi.rn, if_pos h]
theorem Vi.rn_no {s : ByteArray} {k : Nat} {a : Int} (h : Vi.gb s a 0 ≠ 0) : Vi.rn s (k + 1) a = ([], a, Vi.gb s a 0) := by rw [Vi.rn, if_neg h]

def Row64 (w : World) (B : Nat) (v : Value) (l : List Int) : Prop := w.ownsRow B 22 1 v l.length (l.map (Value.int .u64))
def TkPost (l : List Int) (s : ByteArray) (a b : Int) (w : World) (e : Ending) (w' : World) : Prop := ∃ v, e = .returned (.tuple #[v, Sc s a b]) ∧ Row64 w' w.heap.size v l ∧ Below w.heap.size w w'
theorem Row64.nil (w : World) (B : Nat) : Row64 w B (.slice none 0 0) [] := World.ownsRow_nil _ _ _ _
theorem u64_info : (Try.prog.info? 22).map (fun i => (i.zero, i.size, i.bytes)) = some (some (.int .u64 0), 1, 8) := by kernel_rfl
theorem blk_set3 {w : World} {g : Nat} {a b c a' b' c' : Value} {t : TypeId} (h : w.heap[g]? = some (.cells #[a, b, c] t (0, 0))) :
    (((w.setCell ⟨g, 0, none⟩ a').setCell ⟨g, 1, none⟩ b').setCell ⟨g, 2, none⟩ c').heap[g]? = some (.cells #[a', b', c'] t (0, 0)) := by
  simp [World.setCell, Array.getElem?_modify, h]
theorem blk_far {w : World} {g g' i : Nat} {o : Obj} {u : Value} (h : w.heap[g]? = some o) (hn : g ≠ g') : (w.setCell ⟨g', i, none⟩ u).heap[g]? = some o :=
  (Below.heap_setCell w ⟨g', i, none⟩ u g hn).trans h
theorem blk_far3 {w : World} {g g' i j k : Nat} {o : Obj} {u v x : Value} (h : w.heap[g]? = some o) (hn : g ≠ g') : (((w.setCell ⟨g', i, none⟩ u).setCell ⟨g', j, none⟩ v).setCell ⟨g', k, none⟩ x).heap[g]? = some o :=
  blk_far (blk_far (blk_far h hn) hn) hn
theorem row_keep {w w' : World} {base size n : Nat} {e : TypeId} {v : Value} {xs : List Value} (h : w.ownsRow base e size v n xs) (hb : Below w.heap.size w w') : w'.ownsRow base e size v n xs := by
  obtain ⟨h1, h2⟩ := h
  refine ⟨h1, ?_⟩
  rcases h2 with h2 | ⟨g, cap, cur, hv, hg, hh, r⟩
  · exact Or.inl h2
  · exact Or.inr ⟨g, cap, cur, hv, hg, blk_keep hh hb, r⟩
theorem row_far {w : World} {B size n : Nat} {e : TypeId} {v : Value} {xs : List Value} {g i : Nat} {u : Value} (h : w.ownsRow B e size v n xs) (hg : g < B) : (w.setCell ⟨g, i, none⟩ u).ownsRow B e size v n xs := by
  obtain ⟨h1, h2⟩ := h
  refine ⟨h1, ?_⟩
  rcases h2 with h2 | ⟨g', cap, cur, hv, hb, hh, r⟩
  · exact Or.inl h2
  · exact Or.inr ⟨g', cap, cur, hv, hb, blk_far hh (by omega), r⟩

theorem row_far3 {w : World} {B size n : Nat} {e : TypeId} {v : Value} {xs : List Value} {g i j k : Nat} {u x y : Value} (h : w.ownsRow B e size v n xs) (hg : g < B) : (((w.setCell ⟨g, i, none⟩ u).setCell ⟨g, j, none⟩ x).setCell ⟨g, k, none⟩ y).ownsRow B e size v n xs :=
  row_far (row_far (row_far h hg) hg) hg
theorem blk_grown {w w' : World} {g : Nat} {o : Obj} {row : Option Nat} (h : w.heap[g]? = some o) (hg : w.grownBy w' row) (hn : ∀ k, row = some k → k ≠ g) : w'.heap[g]? = some o :=
  (hg.block g (blk_lt h) (fun e => hn g e.symm rfl)).trans h
theorem blk1c {w : World} {g : Nat} {a : Value} {t : TypeId} (h : w.heap[g]? = some (.cells #[a] t (0, 0))) : ∀ j u, [a][j]? = some u → w.cell? ((⟨g, 0, none⟩ : Addr).add j) = some u := by
  intro j u hu
  cases j with
  | zero => simp at hu; subst hu; exact cell_of_row w g 0 _ _ _ h
  | succ j => simp at hu

set_option maxRecDepth 100000 in
set_option maxHeartbeats 4000000 in
theorem take_ok (s : ByteArray) (A : Nat) (N : Nat) (hs : s.size ≤ 1000000) (hA : A ≤ s.size) (hN : N ≤ 65536) (w : World) :
    Calls Try.prog 52 #[Sc s A 0, .int .i64 N] w (TkPost (Vi.tx s A 0 N) s (Vi.ta s A 0 N) (Vi.tb s A 0 N) w) := by
  have htok : Vi.tok s A 0 N := ⟨rfl, by omega, by omega, by omega, by omega⟩
  have hta : Vi.ta s A 0 N = (Vi.rn s N A).2.1 := by unfold Vi.ta; rw [if_pos htok]; simp
  have htb : Vi.tb s A 0 N = (Vi.rn s N A).2.2 := by unfold Vi.tb; rw [if_pos htok]; simp
  have htx : Vi.tx s A 0 N = if (Vi.rn s N A).2.2 = 0 then (Vi.rn s N A).1 else [] := by unfold Vi.tx; rw [htb]; simp
  have HTA := Lib.hid hta
  have HTB := Lib.hid htb
  have HTX := Lib.hid htx
  clear hta htb htx htok
  obtain ⟨i0, hi, iz0, iz1, iz2⟩ := info_parts u64_info
  have HS := Lib.hid hs
  have hN' : (N : Int) ≤ 65536 := by omega
  have hN0 : (0 : Int) ≤ (N : Int) := by omega
  have hA' : (A : Int) ≤ (s.size : Int) := by omega
  have hA0 : (0 : Int) ≤ (A : Int) := by omega
  have hdd : decide (s.size < A) = false := decide_eq_false (by omega)
  go_enter Try.func52, Try.ntmps52
  go_wp2_with fail
  go_loopw [6, 34] (fun cv ci wr => ∃ (k : Nat) (a : Int) (l : List Int), k ≤ N ∧ ci = .int .i64 k ∧ Hid (l.length = k) ∧ Hid (wr.ownsRow (w.heap.size + 2) 22 1 cv k (l.map (Value.int .u64))) ∧ Hid (wr.heap[w.heap.size]? = some (.cells #[.string s, .int .i64 a, .int .i64 0] 73 (0, 0))) ∧ Hid (wr.heap[w.heap.size + 1]? = some (.cells #[.string ⟨#[]⟩, .int .i64 0, .int .i64 0] 73 (0, 0))) ∧ Hid (Vi.rn s N A = (l ++ (Vi.rn s (N - k) a).1, (Vi.rn s (N - k) a).2)) ∧ Below w.heap.size w wr) (fun _ ci _ => N - (intOf ci).toNat)
  case atStart => exact ⟨0, A, [], by omega, rfl, Lib.hid rfl, Lib.hid (World.ownsRow_nil _ _ _ _), Lib.hid (blk_alloc (heap_alloc_new w _) _), Lib.hid (by have h := heap_alloc_new (w.alloc (.cells #[.string s, .int .i64 (A : Int), .int .i64 0] 73)) (.cells #[.string ⟨#[]⟩, .int .i64 0, .int .i64 0] 73); rwa [World.size_alloc] at h), Lib.hid (by simp), bthen (blk_new _ _) (blk_new _ _)⟩
  case round =>
    obtain ⟨k, a, l, hk, rfl, hl, hR, hP, hQ, hrn, hbl⟩ := hrel
    obtain ⟨⟨p0, p1, p2⟩, f0, f1, f2⟩ := blk_cells3 hP.out
    obtain ⟨⟨q0, q1, q2⟩, g0, g1, g2⟩ := blk_cells3 hQ.out
    have hsz := blk_lt hQ.out
    by_cases hlt : k < N
    · obtain ⟨m, hm⟩ : ∃ m, N - k = m + 1 := ⟨N - k - 1, by omega⟩
      have hrn2 := hrn.out
      rw [hm] at hrn2
      by_cases he : Vi.gb s a 0 = 0
      · rw [Vi.rn_yes he] at hrn2
        have hd : (Vi.gb s a 0 != 0) = false := by rw [he]; rfl
        have hm' : m = N - (k + 1) := by omega
        have HRN : Hid (Vi.rn s N A = ((l ++ [Vi.gx s a 0]) ++ (Vi.rn s (N - (k + 1)) (Vi.ga s a 0)).1, (Vi.rn s (N - (k + 1)) (Vi.ga s a 0)).2)) := Lib.hid (by rw [hrn2, hm']; simp)
        have HE := Lib.hid he
        clear hm hrn2 hm' he hrn
        go_wp2_with fail
        refine (get_any s a 0 HS.out _).mono ?_
        intro e w1 hp
        obtain ⟨he, hb⟩ := hp
        subst he
        have hP1 := blk_keep hP.out hb
        have hQ1 := blk_keep hQ.out hb
        have hR1 := row_keep hR.out hb
        have hsw1 : w.heap.size + 2 ≤ w1.heap.size := by have := hb.size; omega
        have hw := bthen2 hb hbl
        clear p0 p1 p2 f0 f1 f2 q0 q1 q2 g0 g1 g2 hb
        obtain ⟨⟨p0, p1, p2⟩, f0, f1, f2⟩ := blk_cells3 hP1
        have HP2 := Lib.hid (blk_set3 (a' := .string s) (b' := .int .i64 (Vi.ga s a 0)) (c' := .int .i64 (Vi.gb s a 0)) hP1)
        have hR3 := row_far3 (g := w.heap.size) (i := 0) (j := 1) (k := 2) (u := .string s) (x := .int .i64 (Vi.ga s a 0)) (y := .int .i64 (Vi.gb s a 0)) hR1 (by omega)
        have HQ3 := Lib.hid (blk_far3 (g' := w.heap.size) (i := 0) (j := 1) (k := 2) (u := .string s) (v := .int .i64 (Vi.ga s a 0)) (x := .int .i64 (Vi.gb s a 0)) hQ1 (Nat.succ_ne_self _))
        have hlt2 := hR1.lt
        have hsw := hw.size
        clear hQ1 hR1
        go_wp2_with (at_builtin; go_must (refine wpList_append_own _ rfl (.tmp 45) (.tmp 47) _ rfl (w.heap.size + 2) 22 i0 _ 1 8 Try.underlying63 hi iz0 iz1 iz2 rfl (by omega) _ k (l.map (Value.int .u64)) rfl (hR3.alloc _) ⟨w1.heap.size, 0, none⟩ 1 1 [.int .u64 (Vi.gx s a 0)] rfl rfl ?c1 ?c2 ?c3 ?c4 ?c5 ?_))
        case c1 =>
          have hnew := heap_alloc_new (((w1.setCell ⟨w.heap.size, 0, none⟩ (.string s)).setCell ⟨w.heap.size, 1, none⟩ (.int .i64 (Vi.ga s a 0))).setCell ⟨w.heap.size, 2, none⟩ (.int .i64 (Vi.gb s a 0))) (.cells #[.int .u64 (Vi.gx s a 0)] 22)
          have hz : (((w1.setCell ⟨w.heap.size, 0, none⟩ (.string s)).setCell ⟨w.heap.size, 1, none⟩ (.int .i64 (Vi.ga s a 0))).setCell ⟨w.heap.size, 2, none⟩ (.int .i64 (Vi.gb s a 0))).heap.size = w1.heap.size := by simp
          rw [hz] at hnew
          exact blk1c hnew
        case c2 => intro u hu; simp at hu; subst hu; rfl
        case c3 => simp only [maxLen]; omega
        case c4 => omega
        case c5 => simp; omega
        intro v' w3 hown3 hgrow3 _
        have hb3 : Below w.heap.size w w3 := ((((hw.setCell (p := ⟨w.heap.size, 0, none⟩) (Nat.le_refl _) _).setCell (p := ⟨w.heap.size, 1, none⟩) (Nat.le_refl _) _).setCell (p := ⟨w.heap.size, 2, none⟩) (Nat.le_refl _) _).alloc (by simp; omega) _).grown hgrow3 (by simp; omega) (fun g hg => by have := (hlt2 g hg).1; omega)
        have hP3 := Lib.hid (blk_grown (blk_alloc HP2.out _) hgrow3 (fun g hg => by have := (hlt2 g hg).1; omega))
        have hQ4 := Lib.hid (blk_grown (blk_alloc HQ3.out _) hgrow3 (fun g hg => by have := (hlt2 g hg).1; omega))
        have hR4 : Hid (w3.ownsRow (w.heap.size + 2) 22 1 v' (k + 1) ((l ++ [Vi.gx s a 0]).map (Value.int .u64))) := Lib.hid (by rw [List.map_append]; exact hown3)
        have hP4 : Hid (w3.heap[w.heap.size]? = some (.cells #[.string s, .int .i64 (Vi.ga s a 0), .int .i64 0] 73 (0, 0))) := Lib.hid (by have h := hP3.out; rwa [HE.out] at h)
        clear hown3 hgrow3 hlt2 hR3 HQ3 HP2 hP3 p0 p1 p2 f0 f1 f2
        go_wp2_with fail
        exact ⟨⟨k + 1, Vi.ga s a 0, l ++ [Vi.gx s a 0], by omega, by go_num, Lib.hid (by rw [List.length_append, hl.out]; rfl), hR4, hP4, hQ4, HRN, hb3⟩, by simp [intOf]; omega⟩
      · have hgx := Vi.g_not (s := s) (a := a) (b := 0) rfl he
        have hga : Vi.ga s a 0 = a := hgx.2
        have hd : (Vi.gb s a 0 != 0) = true := by rw [bne_iff_ne]; exact he
        rw [Vi.rn_no he] at hrn2
        have HF : Hid (Vi.ta s A 0 N = a ∧ Vi.tb s A 0 N = Vi.gb s a 0 ∧ Vi.tx s A 0 N = []) := Lib.hid ⟨by rw [HTA.out, hrn2], by rw [HTB.out, hrn2], by rw [HTX.out, hrn2, if_neg he]⟩
        clear hm hrn2 he hrn hgx
        go_wp2_with fail
        refine (get_any s a 0 HS.out _).mono ?_
        intro e w1 hp
        obtain ⟨he, hb⟩ := hp
        subst he
        have hP1 := blk_keep hP.out hb
        have hQ1 := blk_keep hQ.out hb
        have hw := bthen2 hb hbl
        have hsw := hw.size
        clear p0 p1 p2 f0 f1 f2 q0 q1 q2 g0 g1 g2 hb
        obtain ⟨⟨p0, p1, p2⟩, f0, f1, f2⟩ := blk_cells3 hP1
        obtain ⟨⟨q0, q1, q2⟩, g0, g1, g2⟩ := blk_cells3 hQ1
        clear hP1 hQ1
        go_wp2_with fail
        go_region
        all_goals
          go_wp2_with fail
          exact bodyPost_ret (v := .tuple #[.slice none 0 0, Sc s a (Vi.gb s a 0)]) (by simp [results, Try.results52, go_sem, q0, q1, q2]) rfl ⟨_, by rw [HF.out.1, HF.out.2.1], by rw [HF.out.2.2]; exact Row64.nil _ _, (by repeat (first | with_reducible exact Below.refl _ _ | with_reducible assumption | with_reducible refine Below.setCell ?_ (by first | (simp; done) | (simp; omega) | omega) _ | with_reducible refine Below.alloc ?_ (by first | exact Nat.le_refl _ | (simp; done) | (simp; omega) | omega) _ | with_reducible refine Below.drew ?_))⟩
    · have hkn : k = N := by omega
      subst hkn
      have hrn2 := hrn.out
      rw [Nat.sub_self] at hrn2
      have HF : Hid (Vi.ta s A 0 k = a ∧ Vi.tb s A 0 k = 0 ∧ Vi.tx s A 0 k = l) := Lib.hid ⟨by rw [HTA.out, hrn2]; rfl, by rw [HTB.out, hrn2]; rfl, by rw [HTX.out, hrn2]; simp [Vi.rn]⟩
      have hsw := hbl.size
      clear hrn2 hrn
      go_wp2_with fail
      go_region
      all_goals
        go_wp2_with fail
        exact bodyPost_ret (v := .tuple #[u6, Sc s a 0]) (by simp [results, Try.results52, go_sem, q0, q1, q2]) rfl ⟨_, by rw [HF.out.1, HF.out.2.1], by rw [HF.out.2.2]; unfold Row64; rw [hl.out]; exact (row_far3 hR.out (Nat.lt_succ_self _)).mono (by omega), (by repeat (first | with_reducible exact Below.refl _ _ | with_reducible assumption | with_reducible refine Below.setCell ?_ (by first | (simp; done) | (simp; omega) | omega) _ | with_reducible refine Below.alloc ?_ (by first | exact Nat.le_refl _ | (simp; done) | (simp; omega) | omega) _ | with_reducible refine Below.drew ?_))⟩

set_option maxRecDepth 100000 in
set_option maxHeartbeats 2000000 in
theorem take_any (s : ByteArray) (a b n : Int) (hs : s.size ≤ 1000000) (w : World) :
    Calls Try.prog 52 #[Sc s a b, .int .i64 n] w (TkPost (Vi.tx s a b n) s (Vi.ta s a b n) (Vi.tb s a b n) w) := by
  by_cases hb : b = 0
  · subst hb
    by_cases ht : Vi.tok s a 0 n
    · obtain ⟨A, rfl⟩ := Int.eq_ofNat_of_zero_le ht.2.1
      obtain ⟨N, rfl⟩ := Int.eq_ofNat_of_zero_le ht.2.2.2.1
      exact take_ok s A N hs (by have := ht.2.2.1; omega) (by have := ht.2.2.2.2; omega) w
    · have hta : Vi.ta s a 0 n = a := by unfold Vi.ta; rw [if_neg ht]
      have htb : Vi.tb s a 0 n = 2 := by unfold Vi.tb; rw [if_neg ht, if_pos rfl]
      have htx : Vi.tx s a 0 n = [] := by unfold Vi.tx; rw [htb]; rfl
      rw [hta, htb, htx]
      clear hta htb htx
      have hc : n < 0 ∨ (¬ n < 0 ∧ 65536 < n ∧ a < 0) ∨ (¬ n < 0 ∧ 65536 < n ∧ ¬ a < 0 ∧ (s.size : Int) < a) ∨ (¬ n < 0 ∧ 65536 < n ∧ ¬ a < 0 ∧ ¬ (s.size : Int) < a) ∨ (¬ n < 0 ∧ ¬ 65536 < n ∧ a < 0) ∨ (¬ n < 0 ∧ ¬ 65536 < n ∧ ¬ a < 0 ∧ (s.size : Int) < a) := by unfold Vi.tok at ht; omega
      clear ht
      have hc2 : a < 0 ∨ (¬ a < 0 ∧ (s.size : Int) < a) ∨ (¬ a < 0 ∧ ¬ (s.size : Int) < a) := by omega
      rcases hc with h | ⟨h, h2, h3⟩ | ⟨h, h2, h3, h4⟩ | ⟨h, h2, h3, h4⟩ | ⟨h, h2, h3⟩ | ⟨h, h2, h3, h4⟩
      · rcases hc2 with g | ⟨g, g2⟩ | ⟨g, g2⟩
        all_goals
          go_enter Try.func52, Try.ntmps52
          go_wp2_with fail
          go_region
          all_goals
            go_wp2_with fail
            exact bodyPost_ret (v := .tuple #[.slice none 0 0, Sc s a 2]) (by simp [results, Try.results52, go_sem]) rfl ⟨_, rfl, Row64.nil _ _, (bthen (blk_new _ _) (blk_new _ _)).drew⟩
      all_goals
        clear hc2
        go_enter Try.func52, Try.ntmps52
        go_wp2_with fail
        go_region
        all_goals
          go_wp2_with fail
          exact bodyPost_ret (v := .tuple #[.slice none 0 0, Sc s a 2]) (by simp [results, Try.results52, go_sem]) rfl ⟨_, rfl, Row64.nil _ _, (bthen (blk_new _ _) (blk_new _ _)).drew⟩
  · have ht : ¬ Vi.tok s a b n := fun h => hb h.1
    have hta : Vi.ta s a b n = a := by unfold Vi.ta; rw [if_neg ht]
    have htb : Vi.tb s a b n = b := by unfold Vi.tb; rw [if_neg ht, if_neg hb]
    have htx : Vi.tx s a b n = [] := by unfold Vi.tx; rw [htb, if_neg hb]
    have hd : (b != 0) = true := by rw [bne_iff_ne]; exact hb
    rw [hta, htb, htx]
    clear hta htb htx ht hb
    go_enter Try.func52, Try.ntmps52
    go_wp2_with fail
    go_region
    all_goals
      go_wp2_with fail
      exact bodyPost_ret (v := .tuple #[.slice none 0 0, Sc s a b]) (by simp [results, Try.results52, go_sem]) rfl ⟨_, rfl, Row64.nil _ _, (bthen (blk_new _ _) (blk_new _ _)).drew⟩

end Go.Proofs.Ytppciejcobmikaa
