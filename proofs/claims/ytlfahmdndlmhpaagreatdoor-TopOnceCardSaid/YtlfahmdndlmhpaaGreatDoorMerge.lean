/- The walk of merge's Rows. -/
import Derived.Test.YtlfahmdndlmhpaaGreatDoorM25
import Derived.Test.YtlfahmdndlmhpaaGreatDoorM42
import Derived.Test.YtlfahmdndlmhpaaGreatDoorM45
import Derived.Test.YtlfahmdndlmhpaaGreatDoorM46
import Derived.Laws.EntriesVeiled
namespace Go.Proofs.YtlfahmdndlmhpaaGreatDoor
open Go.RowKit Go.Shelf Go.ChangeShapes

theorem Pl.add_len (P : List ByteArray) (s : ByteArray) : (Pl.add P s).length ≤ P.length + 1 := by
  unfold Pl.add; split <;> simp
theorem Mg.pool_len (L : List Itm) : ∀ k, k ≤ L.length → (Mg.rows (L.take k)).1.length ≤ k := by
  intro k
  induction k with
  | zero => intro _; simp [Mg.rows]
  | succ k ih =>
    intro hk
    rw [Mg.rows_take L k (by omega)]
    have h1 := Pl.add_len (Mg.rows (L.take k)).1 (L[k]'(by omega)).2
    have h2 := ih (by omega)
    show (Pl.add _ _).length ≤ _
    omega
theorem own_store {w : World} {base size n g c j : Nat} {e : TypeId} {xs : List Value} {u : Value} (h : w.ownsRow base e size (.slice (some ⟨g, 0, none⟩) n c) n xs) : (w.setCell ⟨g, j, none⟩ u).ownsRow base e size (.slice (some ⟨g, 0, none⟩) n c) n (xs.set j u) := by
  obtain ⟨h1, h2⟩ := h
  refine ⟨by rw [List.length_set]; exact h1, ?_⟩
  rcases h2 with ⟨h2, _⟩ | ⟨g', cap, cur, hv, hg, hh, hn, hm, hs, ht⟩
  · cases h2
  · injection hv with hv _ hc
    injection hv with hv
    injection hv with hv
    subst hv
    subst hc
    exact Or.inr ⟨g, c, cur.setIfInBounds j u, rfl, hg, set_blk hh, hn, hm, by rw [Array.size_setIfInBounds]; exact hs, by rw [Array.toList_setIfInBounds, List.take_set, ht]⟩
/-- what the loop in Rows keeps -/
def RwI (L : List Itm) (cv : Value) (B g b4 b5 b6 b7 D : Nat) (w : World) (i : Nat) (X : World) : Prop :=
  ∃ v, X.heap[b4]? = some (.cells #[.func (.func 39) #[] #[]] 92 (0, 0)) ∧ X.heap[b5]? = some (.cells #[.pointer (some ⟨g, 0, none⟩)] 96 (0, 0)) ∧ X.heap[b6]? = some (.cells #[v] 35 (0, 0)) ∧
    X.ownsRow D 43 4 v (Mg.rows (L.take i)).2.length (ecells (Mg.rows (L.take i)).2) ∧ Pl.at_ X g (Mg.rows (L.take i)).1 ∧ D ≤ X.heap.size ∧ Below B w X ∧ X.heap[b7]? = some (.cells #[cv] 27 (0, 0))
def MrowsPost (L : List Itm) (w : World) (e : Ending) (w' : World) : Prop := ∃ v, e = .returned (.tuple #[v, .string (strOfNums (Pl.text (Mg.rows L).1))]) ∧ w'.ownsRow w.heap.size 43 4 v (Mg.rows L).2.length (ecells (Mg.rows L).2) ∧ Below w.heap.size w w'
/-- what a round does behind the pool's step: the out cell, rows of entries, and new blocks -/
structure Mv (D b6 : Nat) (W Y : World) : Prop where
  os : Y.os = W.os
  tape : Y.tape = W.tape
  output : Y.output = W.output
  size : W.heap.size ≤ Y.heap.size
  same : ∀ (k : Nat) (o : Obj), W.heap[k]? = some o → k ≠ b6 → (k < D ∨ isE o = false) → Y.heap[k]? = some o
theorem Mv.trans {D b6 : Nat} {a b c : World} (h : Mv D b6 a b) (k : Mv D b6 b c) : Mv D b6 a c := ⟨k.os.trans h.os, k.tape.trans h.tape, k.output.trans h.output, Nat.le_trans h.size k.size, fun i o hi hn ho => k.same i o (h.same i o hi hn ho) hn ho⟩
theorem Mv.of_below {D b6 : Nat} {W Y : World} (h : Below W.heap.size W Y) : Mv D b6 W Y := ⟨h.os, h.tape, h.output, h.size, fun _ _ hk _ _ => blk_keep2 h hk⟩
theorem Mv.grown {D b6 : Nat} {W Y : World} {row : Option Nat} (h : W.grownBy Y row) (hr : ∀ j, row = some j → j = b6 ∨ (D ≤ j ∧ ∀ o, W.heap[j]? = some o → isE o = true)) : Mv D b6 W Y :=
  ⟨h.os, h.tape, h.output, h.size, fun k o hk hn hq => blk_grown hk h (fun j e q => by
    subst q
    rcases hr j e with h1 | ⟨h1, h2⟩
    · exact hn h1
    · rcases hq with h3 | h3
      · omega
      · rw [h2 o hk] at h3; cases h3)⟩
theorem own_isE {w : World} {base size n : Nat} {v : Value} {xs : List Value} (h : w.ownsRow base 43 size v n xs) : ∀ j, v.ownBlock = some j → ∀ o, w.heap[j]? = some o → isE o = true := by
  intro j e1 o ho
  rcases h.2 with ⟨rfl, _⟩ | ⟨g, cap, cur, rfl, _, hh, _⟩
  · cases e1
  · simp only [Value.ownBlock, Option.some.injEq] at e1
    subst e1
    rw [hh] at ho
    cases ho
    rfl
theorem isP_isE {o : Obj} (h : Pl.isP o = true) : isE o = false := by
  cases o with
  | cells c t f =>
    unfold Pl.isP at h
    unfold isE
    by_cases ht : t = 43
    · subst ht; cases h
    · exact beq_false_of_ne ht
  | _ => rfl
theorem Mv.end_ {L : List Itm} {cv cv' v' : Value} {B g b4 b5 b6 b7 D i : Nat} {w X W3 Y : World} {P' : List ByteArray} {E' : List Ent} (M : Mv D b6 W3 Y) (HST : Mg.rows (L.take (i + 1)) = (P', E'))
    (h4 : W3.heap[b4]? = some (.cells #[.func (.func 39) #[] #[]] 92 (0, 0))) (h5 : W3.heap[b5]? = some (.cells #[.pointer (some ⟨g, 0, none⟩)] 96 (0, 0))) (h6 : W3.heap[b6]? = some (.cells #[cv'] 35 (0, 0))) (h8 : W3.heap[b7]? = some (.cells #[cv] 27 (0, 0)))
    (hA : Pl.at_ W3 g P') (hB : Below B w W3) (hKC : Kc B b7 X W3) (hKE : Rg.Keeps X W3) (hD : D ≤ W3.heap.size) (hBD : B ≤ D) (hB6 : B ≤ b6) (n4 : b4 ≠ b6) (n5 : b5 ≠ b6) (n7 : b7 ≠ b6) (hBw : B ≤ w.heap.size)
    (h6Y : Y.heap[b6]? = some (.cells #[v'] 35 (0, 0))) (hO : Y.ownsRow D 43 4 v' E'.length (ecells E')) :
    Rg.Keeps X Y ∧ Kc B b7 X Y ∧ RwI L cv B g b4 b5 b6 b7 D w (i + 1) Y := by
  refine ⟨hKE.trans ⟨M.size, fun k o hk ho => M.same k o hk (fun e => by subst e; rw [h6] at hk; cases hk; cases ho) (Or.inr (Rg.own_not ho))⟩, hKC.trans ⟨M.size, fun k o hk hq => ?_⟩, v', M.same _ _ h4 n4 (Or.inr rfl), M.same _ _ h5 n5 (Or.inr rfl), h6Y, by rw [HST]; exact hO, by rw [HST]; exact Pl.at_same hA (fun k o hk hq => M.same k o hk (fun e => by subst e; rw [h6] at hk; cases hk; cases hq) (Or.inr (isP_isE hq))), Nat.le_trans hD M.size, ?_, M.same _ _ h8 n7 (Or.inr rfl)⟩
  · rcases hq with h | h
    · exact M.same k o hk (by omega) (Or.inl (by omega))
    · subst h
      rw [h8] at hk
      cases hk
      exact M.same _ _ h8 n7 (Or.inr rfl)
  · refine ⟨M.os.trans hB.os, M.tape.trans hB.tape, M.output.trans hB.output, Nat.le_trans hB.size M.size, fun k hk => ?_⟩
    have hk2 : k < W3.heap.size := Nat.lt_of_lt_of_le (Nat.lt_of_lt_of_le hk hBw) hB.size
    rw [← hB.block k hk]
    exact (M.same k _ (Array.getElem?_eq_getElem hk2) (by omega) (Or.inl (by omega))).trans (Array.getElem?_eq_getElem hk2).symm
theorem Rg.own_isP {o : Obj} (h : Rg.own o = true) : Pl.isP o = false := by cases o <;> first | rfl | cases h
def New2 (w : World) (e : Ending) (w' : World) : Prop := ∃ g, e = .returned (.pointer (some ⟨g, 0, none⟩)) ∧ Pl.at_ w' g [] ∧ w.heap.size ≤ g ∧ g < w'.heap.size ∧ Below w.heap.size w w'
theorem pnew2_any (w : World) : Calls Tryz.prog 40 #[] w (New2 w) := (pnew_any w).mono fun e w' h => ⟨_, h.1, Pl.at_new h, Nat.le_refl _, by rw [h.2]; simp, by rw [h.2]; exact blk_new w _⟩
/-- a region's end where nothing panics -/
def NoP (Q : Exit → Act → World → Prop) : Exit → Act → World → Prop
  | .panic _, _, _ => False
  | e, a, w => Q e a w
theorem wp_nop {P : Program} {c : Code} {Q : Exit → Act → World → Prop} {a : Act} {w : World} (h : c.wp P (NoP Q) a w) : c.wp P Q a w :=
  Code.wp_mono (fun e a w h => by cases e <;> first | exact h | exact h.elim) h
attribute [local go_sem] Oper.semAt_some
set_option maxRecDepth 100000 in
set_option maxHeartbeats 8000000 in
theorem mrows_any (A : Option Addr) (n cap : Nat) (L : List Itm) (B : Nat) (w : World) (hr : Reads w B 2 A n (icells L)) (hn : n = L.length) (hs : It.ok L) (hB : B ≤ w.heap.size) (hm : n ≤ 60) (hb : It.sum L ≤ 3000) :
    Calls Tryz.prog 18 #[.agg #[.slice A n cap]] w (MrowsPost L w) := by
  subst hn
  have HR := Lib.hid hr
  have HS := Lib.hid hs
  have HSUM := Lib.hid hb
  clear hr hs hb
  refine calls_of_wp_marks Tryz.func18 rfl ?_
  simp only [Tryz.ntmps18, List.size_toArray, List.length_cons, List.length_nil, Nat.reduceAdd, Nat.reduceSub, Array.replicate_succ, Array.replicate_zero, List.push_toArray, List.append_toArray, List.nil_append, List.cons_append]
  go_wp2_with fail
  refine (pnew2_any _).mono ?_; rintro e w1 ⟨g, rfl, hA1, hg, hgw, hb⟩
  have HA1 := Lib.hid hA1
  have HB1 := Lib.hid (blk_keep2 hb (blk_alloc (heap_alloc_new w (.cells #[.slice A L.length cap] 27)) (.cells #[.func (.func 39) #[] #[]] 92)))
  have HF1 : Hid (w1.heap[w.heap.size + 1]? = some (.cells #[.func (.func 39) #[] #[]] 92 (0, 0))) := Lib.hid (blk_keep2 hb (heap_at (by simp)))
  have HW1 : Hid (Below w.heap.size w w1) := Lib.hid ((by exact (by repeat (first | with_reducible exact Below.refl _ _ | with_reducible assumption | with_reducible refine Below.setCell ?_ (by first | (simp; done) | (simp; omega) | omega) _ | with_reducible refine Below.alloc ?_ (by first | exact Nat.le_refl _ | (simp; done) | (simp; omega) | omega) _ | with_reducible refine Below.drew ?_)) : Below w.heap.size w ((w.alloc (.cells #[.slice A L.length cap] 27)).alloc (.cells #[.func (.func 39) #[] #[]] 92))).trans (hb.mono (by simp; omega)))
  have hz1 : w.heap.size + 1 < w1.heap.size := blk_lt HF1.out
  have hg2 : w.heap.size + 2 ≤ g := by simpa using hg
  have hz0 : w.heap.size < w1.heap.size := by omega
  have x0 := cell_of_row w1 w.heap.size 0 _ _ _ HB1.out
  clear hA1 hb hg
  go_wp2_with fail
  refine (each_any A L.length cap _).mono ?_; rintro e w2 ⟨rfl, hBs, hb2⟩
  have hX5 := blk_keep2 hb2 (blk_alloc (heap_alloc_new w1 (.cells #[.pointer (some ⟨g, 0, none⟩)] 96)) (.cells #[.slice none 0 0] 35))
  have hX6 : w2.heap[w1.heap.size + 1]? = some (.cells #[.slice none 0 0] 35 (0, 0)) := blk_keep2 hb2 (heap_at (by simp))
  have hbb : Below w1.heap.size w1 w2 := (by exact (by repeat (first | with_reducible exact Below.refl _ _ | with_reducible assumption | with_reducible refine Below.setCell ?_ (by first | (simp; done) | (simp; omega) | omega) _ | with_reducible refine Below.alloc ?_ (by first | exact Nat.le_refl _ | (simp; done) | (simp; omega) | omega) _ | with_reducible refine Below.drew ?_)) : Below w1.heap.size w1 ((w1.alloc (.cells #[.pointer (some ⟨g, 0, none⟩)] 96)).alloc (.cells #[.slice none 0 0] 35))).trans (hb2.mono (by simp; omega))
  have HX4 := Lib.hid (blk_keep2 hbb HF1.out)
  have HX5 := Lib.hid hX5
  have HX6 := Lib.hid hX6
  have HA2 := Lib.hid (Pl.at_below HA1.out hbb)
  have HW2 := Lib.hid (HW1.out.trans (hbb.mono (by omega)))
  have HR2 := Lib.hid (HR.out.below ((HW1.out.trans (hbb.mono (by omega))).mono hB))
  have hz2 : w1.heap.size + 1 < w2.heap.size := blk_lt hX6
  have HBS : Hid (w2.heap[w1.heap.size + 1 + 1]? = some (.cells #[.slice A L.length cap] 27 (0, 0))) := Lib.hid (by simpa using hBs)
  clear hX5 hX6 hbb hb2 hBs x0
  have hBsw : w1.heap.size + 1 + 1 < w2.heap.size := blk_lt HBS.out
  have HSEQ := Lib.hid (each_seq A cap L (w1.heap.size + 1 + 1) B w.heap.size w2 (by omega) HBS.out HR2.out hB (by omega))
  go_wp2_with fail
  refine wp_rangeGo (a1 := ?a1) (I := RwI L (.slice A L.length cap) w.heap.size g (w.heap.size + 1) w1.heap.size (w1.heap.size + 1) (w1.heap.size + 1 + 1) w2.heap.size w) (hseq := HSEQ.out) rfl (fun _ _ => rfl) ?hAo (fun h k => h.trans k) ?hKo ?hps ?hIa ?hIo ?hIn ?h0 ?hassign ?hbody ?hdone
  case hassign =>
    intro l x W K hK
    simp only [eEnc, List.zip_toArray, List.zip_cons_cons, List.zip_nil_right, List.foldl_toArray, List.foldl_cons, List.foldl_nil, List.setIfInBounds_toArray, List.set_cons_succ, List.set_cons_zero]
    gi_wp2
    exact hK
  case hps => intro x; rfl
  case hAo => exact fun B X Y k o h hk _ => blk_keep2 h hk
  case hKo =>
    intro X k o o' hk ho hw
    refine ⟨by simp [World.putObj], fun j p hj hq => (World.putObj_heap_other (fun e => ?_)).trans hj⟩
    rcases hq with h | h <;> omega
  case hIa =>
    rintro B' i X Y hB' ⟨v, h1, h2, h3, h4, h5, h6, h7, h8⟩ hA
    have hA' : Below X.heap.size X Y := hA
    exact ⟨v, blk_keep2 hA' h1, blk_keep2 hA' h2, blk_keep2 hA' h3, ownsRow_keep h4 hA', Pl.at_below h5 hA', Nat.le_trans h6 hA'.size, h7.trans (hA'.mono h7.size), blk_keep2 hA' h8⟩
  case hIo =>
    rintro i X k o o' hk ho hw ⟨v, h1, h2, h3, h4, h5, h6, h7, h8⟩
    exact ⟨v, (World.putObj_heap_other (by omega)).trans h1, (World.putObj_heap_other (by omega)).trans h2, (World.putObj_heap_other (by omega)).trans h3, own_put ho hw h4, Pl.at_same h5 (fun j p hj hq => (World.putObj_heap_other (fun e => by
      subst e
      rw [ho] at hj
      cases hj
      rw [Rg.own_isP hw] at hq
      cases hq)).trans hj), by simpa using h6, put_below h7 (by omega), (World.putObj_heap_other (by omega)).trans h8⟩
  case hIn =>
    rintro i X o _ ⟨v, h1, h2, h3, h4, h5, h6, h7, h8⟩
    exact ⟨v, blk_alloc h1 _, blk_alloc h2 _, blk_alloc h3 _, h4.alloc _, Pl.at_below h5 (blk_new X o), by simp; omega, h7.alloc h7.size _, blk_alloc h8 _⟩
  case h0 => exact ⟨_, HX4.out, HX5.out, HX6.out, World.ownsRow_nil _ _ _ _, HA2.out, Nat.le_refl _, HW2.out, HBS.out⟩
  case hbody =>
    rintro l i x X hx ⟨v, hI1, hI2, hI3, hI4, hI5, hI6, hI7, hI8⟩
    have hlt : i < L.length := (List.getElem?_eq_some_iff.1 hx).1
    have hxe : L[i]'hlt = x := (List.getElem?_eq_some_iff.1 hx).2
    have hinv := Mg.all HS.out (by have := HSUM.out; omega) (by omega) i (by omega)
    have hpl := Mg.pool_len L i (by omega)
    have hsp : It.sum (L.take i) + (L[i]'hlt).2.size ≤ 3000 := by have h1 := It.sum_take L i hlt; have h2 := It.sum_mono L (i + 1); have h3 := HSUM.out; omega
    have hgd := HS.out.good _ (List.getElem_mem hlt)
    have hst := Mg.rows_take L i hlt
    rw [hxe] at hsp hgd hst
    obtain ⟨P, hP⟩ : ∃ P, P = (Mg.rows (L.take i)).1 := ⟨_, rfl⟩
    obtain ⟨E, hE⟩ : ∃ E, E = (Mg.rows (L.take i)).2 := ⟨_, rfl⟩
    have hst2 : Mg.rows (L.take (i + 1)) = (Pl.add P x.2, Mg.put E (Mg.ent P x)) := by rw [hst, hP, hE]; rfl
    rw [← hP] at hpl hI5
    rw [← hE] at hI4
    rw [← hP, ← hE] at hinv
    have hel : E.length ≤ i := by have h1 := hinv.len; rw [List.length_take] at h1; omega
    have htot : Pl.tot P + x.2.size ≤ 3000 := by have h1 := hinv.tot; omega
    obtain ⟨id, s⟩ := x
    dsimp only at htot hgd hst2 hsp
    obtain ⟨⟨g0, g1⟩, g2, g3⟩ := hgd
    dsimp only at g0 g1 g2 g3
    have HINV := Lib.hid hinv
    have HST := Lib.hid hst2
    have HI1 := Lib.hid hI1
    have HI2 := Lib.hid hI2
    have HI3 := Lib.hid hI3
    have HI4 := Lib.hid hI4
    have HI5 := Lib.hid hI5
    have HI7 := Lib.hid hI7
    have HI8 := Lib.hid hI8
    have hpsz : ∀ t ∈ P, 0 < t.size ∧ t.size ≤ 65536 := fun t ht => by
      obtain ⟨it, h1, rfl⟩ := hinv.sup t ht
      exact (HS.out.good it (List.mem_of_mem_take h1)).2
    have HADD := Lib.hid (padd_any g P s X hI5 hinv.nd hpsz (by omega) (by omega) g2 g3)
    have c5 := cell_of_row X w1.heap.size 0 _ _ _ hI2
    clear hx hxe hinv hst hst2 hP hE hpsz hI1 hI2 hI3 hI4 hI5 hI7 hI8 hsp
    gi_wp2
    refine ⟨trivial, ?_⟩
    refine (CallsIn.inRound l (callsIn_wide.2 HADD.out)).mono ?_
    rintro e W3 ⟨b, rfl, hA3, hK3⟩
    have F4 := Lib.hid (hK3.same _ _ HI1.out (Or.inr rfl))
    have F5 := Lib.hid (hK3.same _ _ HI2.out (Or.inr rfl))
    have F6 := Lib.hid (hK3.same _ _ HI3.out (Or.inr rfl))
    have F8 := Lib.hid (hK3.same _ _ HI8.out (Or.inr rfl))
    have O3 := Lib.hid (own_same HI4.out (fun _ _ _ _ hh => hK3.same _ _ hh (Or.inr rfl)))
    have HB3 := Lib.hid (hK3.below HI7.out (by omega) (Nat.le_refl _))
    have HKC : Hid (Kc w.heap.size (w1.heap.size + 1 + 1) X W3) := Lib.hid ⟨hK3.size, fun k o hk hq => by
      rcases hq with h | h
      · exact hK3.same _ _ hk (Or.inl (by omega))
      · subst h
        have q := hK3.same _ _ HI8.out (Or.inr rfl)
        rw [HI8.out] at hk
        cases hk
        exact q⟩
    have HKE : Hid (Rg.Keeps X W3) := Lib.hid ⟨hK3.size, fun k o hk ho => hK3.same _ _ hk (Or.inr (Rg.own_isP ho))⟩
    have HA3 := Lib.hid hA3
    have hz3 : w2.heap.size ≤ W3.heap.size := Nat.le_trans hI6 hK3.size
    obtain ⟨o, ho⟩ : ∃ o, o = Pl.pos P s := ⟨_, rfl⟩
    rw [← ho]
    have HO := Lib.hid ho
    have hop : o ≤ 3000 := by rw [ho]; have := Pl.pos_le P s; omega
    obtain ⟨i0, hi, iz0, iz1, iz2⟩ := info_parts ent_info
    have y4 := cell_of_row W3 (w.heap.size + 1) 0 _ _ _ F4.out
    have y6 := cell_of_row W3 (w1.heap.size + 1) 0 _ _ _ F6.out
    have y6f : W3.frozen? ⟨w1.heap.size + 1, 0, none⟩ = false := by simp [World.frozen?, F6.out]
    have hz4 : w.heap.size + 1 < W3.heap.size := by omega
    have hz5 : w1.heap.size + 1 < W3.heap.size := by omega
    have hz6 : w1.heap.size < W3.heap.size := by omega
    have hz7 : w.heap.size < W3.heap.size := by omega
    clear hA3 hK3 c5 ho
    rcases List.eq_nil_or_concat E with hE0 | ⟨E', a, hE1⟩
    · subst hE0
      obtain ⟨Av, cv, rfl, _⟩ := own_slice O3.out
      have hlt3 := O3.out.lt
      gi_wp2
      refine round_start (fun _ => Hid True) (by kernel_rfl) (by (try dsimp only); exact Lib.hid True.intro) (fun hHeld => ?_)
      simp only [List.size_toArray, List.length_cons, List.length_nil, Nat.zero_add, Nat.reduceAdd]
      refine round_take (i := 0) (v := ?_) rfl (by kernel_rfl) (by kernel_rfl) (by kernel_rfl) (by kernel_rfl) (fun _ _ _ h => h) (by rfl) (fun _ => rfl) ?_ (by assumption) ?_
      rotate_left
      · intro w hSw
        replace hSw := hSw.out
        (try dsimp only at hSw)
        go_simp
        try with_reducible rfl
      try simp only [Act.put, List.setIfInBounds_toArray, List.set_cons_zero, List.set_cons_succ]
      refine round_take (i := 1) (v := ?_) rfl (by kernel_rfl) (by kernel_rfl) (by kernel_rfl) (by kernel_rfl) (fun _ _ _ h => h) (by rfl) (fun _ => rfl) ?_ (by assumption) ?_
      rotate_left
      · intro w hSw
        replace hSw := hSw.out
        (try dsimp only at hSw)
        go_simp
        try with_reducible rfl
      try simp only [Act.put, List.setIfInBounds_toArray, List.set_cons_zero, List.set_cons_succ]
      refine round_take (i := 2) (v := ?_) rfl (by kernel_rfl) (by kernel_rfl) (by kernel_rfl) (by kernel_rfl) (fun _ _ _ h => h) (by rfl) (fun _ => rfl) ?_ (by assumption) ?_
      rotate_left
      · intro w hSw
        replace hSw := hSw.out
        (try dsimp only at hSw)
        go_simp
        try with_reducible rfl
      try simp only [Act.put, List.setIfInBounds_toArray, List.set_cons_zero, List.set_cons_succ]
      refine round_skip (i := 3) rfl (by kernel_rfl) (by kernel_rfl) (by kernel_rfl) (by kernel_rfl) (fun _ _ _ h => h) (by rfl) (fun _ => rfl) (by assumption) ?_
      try simp only [Act.put, List.setIfInBounds_toArray, List.set_cons_zero, List.set_cons_succ]
      refine round_skip (i := 4) rfl (by kernel_rfl) (by kernel_rfl) (by kernel_rfl) (by kernel_rfl) (fun _ _ _ h => h) (by rfl) (fun _ => rfl) (by assumption) ?_
      try simp only [Act.put, List.setIfInBounds_toArray, List.set_cons_zero, List.set_cons_succ]
      refine round_skip (i := 5) rfl (by kernel_rfl) (by kernel_rfl) (by kernel_rfl) (by kernel_rfl) (fun _ _ _ h => h) (by rfl) (fun _ => rfl) (by assumption) ?_
      try simp only [Act.put, List.setIfInBounds_toArray, List.set_cons_zero, List.set_cons_succ]
      refine round_skip (i := 6) rfl (by kernel_rfl) (by kernel_rfl) (by kernel_rfl) (by kernel_rfl) (fun _ _ _ h => h) (by rfl) (fun _ => rfl) (by assumption) ?_
      try simp only [Act.put, List.setIfInBounds_toArray, List.set_cons_zero, List.set_cons_succ]
      refine round_skip (i := 7) rfl (by kernel_rfl) (by kernel_rfl) (by kernel_rfl) (by kernel_rfl) (fun _ _ _ h => h) (by rfl) (fun _ => rfl) (by assumption) ?_
      try simp only [Act.put, List.setIfInBounds_toArray, List.set_cons_zero, List.set_cons_succ]
      refine round_skip (i := 8) rfl (by kernel_rfl) (by kernel_rfl) (by kernel_rfl) (by kernel_rfl) (fun _ _ _ h => h) (by rfl) (fun _ => rfl) (by assumption) ?_
      try simp only [Act.put, List.setIfInBounds_toArray, List.set_cons_zero, List.set_cons_succ]
      refine round_skip (i := 9) rfl (by kernel_rfl) (by kernel_rfl) (by kernel_rfl) (by kernel_rfl) (fun _ _ _ h => h) (by rfl) (fun _ => rfl) (by assumption) ?_
      try simp only [Act.put, List.setIfInBounds_toArray, List.set_cons_zero, List.set_cons_succ]
      refine round_skip (i := 10) rfl (by kernel_rfl) (by kernel_rfl) (by kernel_rfl) (by kernel_rfl) (fun _ _ _ h => h) (by rfl) (fun _ => rfl) (by assumption) ?_
      try simp only [Act.put, List.setIfInBounds_toArray, List.set_cons_zero, List.set_cons_succ]
      refine round_one (i := 11) (by kernel_rfl) rfl ?_
      gi_wp2
      refine ⟨fun f h => (by cases h), ?_⟩
      try gi_wp2
      clear hHeld
      refine and_then_in (by (try dsimp only); exact Lib.hid True.intro) (fun hHeld => ?_)
      try simp only [Act.put, List.setIfInBounds_toArray, List.set_cons_zero, List.set_cons_succ]
      refine round_take (i := 12) (v := ?_) rfl (by kernel_rfl) (by kernel_rfl) (by kernel_rfl) (by kernel_rfl) (fun _ _ _ h => h) (by rfl) (fun _ => rfl) ?_ (by assumption) ?_
      rotate_left
      · intro w hSw
        replace hSw := hSw.out
        (try dsimp only at hSw)
        go_simp
        try with_reducible rfl
      try simp only [Act.put, List.setIfInBounds_toArray, List.set_cons_zero, List.set_cons_succ]
      refine round_done (by kernel_rfl) ?_ _
      gi_wp2_with (gi_at_builtin; go_must (refine wpListIn_append_own _ rfl (.tmp 56) (.tmp 58) _ rfl w2.heap.size 43 i0 _ 4 24 Tryz.underlying35 hi iz0 iz1 iz2 rfl (by omega) _ 0 [] rfl (((O3.out.alloc _).alloc _).alloc _) ⟨W3.heap.size + 1 + 1, 0, none⟩ 1 1 [.int .u64 id, .int .u64 (o : Int), .int .u32 (s.size : Int), .int .u32 1] rfl rfl ?c1 ?c2 ?c3 ?c4 ?c5 ?_))
      case c1 => exact blkn (l := [.int .u64 id, .int .u64 (o : Int), .int .u32 (s.size : Int), .int .u32 1]) (heap_at (by simp))
      case c2 => intro u hu; simp at hu; rcases hu with rfl | rfl | rfl | rfl <;> rfl
      case c3 => simp only [maxLen]; omega
      case c4 => omega
      case c5 => simp; omega
      intro v6 w6 hown6 hgr6 _
      have hoW := ((O3.out.alloc (.cells #[.int .u64 (o : Int), .int .u32 (s.size : Int)] 102)).alloc (.cells #[.int .u64 id, .int .u64 (o : Int), .int .u32 (s.size : Int), .int .u32 1] 43)).alloc (.cells #[.int .u64 id, .int .u64 (o : Int), .int .u32 (s.size : Int), .int .u32 1] 43)
      have hm1 : Mv w2.heap.size (w1.heap.size + 1) W3 ((((W3.alloc (.cells #[.int .u64 (o : Int), .int .u32 (s.size : Int)] 102)).alloc (.cells #[.int .u64 id, .int .u64 (o : Int), .int .u32 (s.size : Int), .int .u32 1] 43)).alloc (.cells #[.int .u64 id, .int .u64 (o : Int), .int .u32 (s.size : Int), .int .u32 1] 43)).drew) := Mv.of_below (by repeat (first | with_reducible exact Below.refl _ _ | with_reducible assumption | with_reducible refine Below.setCell ?_ (by first | (simp; done) | (simp; omega) | omega) _ | with_reducible refine Below.alloc ?_ (by first | exact Nat.le_refl _ | (simp; done) | (simp; omega) | omega) _ | with_reducible refine Below.drew ?_))
      have hm2 := hm1.trans (Mv.grown hgr6 (fun j e => Or.inr ⟨(hlt3 j e).1, own_isE hoW j e⟩))
      have hF6 : w6.heap[w1.heap.size + 1]? = some (.cells #[.slice Av 0 cv] 35 (0, 0)) := blk_grown (hid_drew (Lib.hid (blk_alloc (blk_alloc (blk_alloc F6.out _) _) _))).out hgr6 (fun k e => by have := (hlt3 k e).1; omega)
      have HF6 := Lib.hid hF6
      have HM2 := Lib.hid hm2
      have HO6 := Lib.hid hown6
      have z6 := cell_of_row w6 (w1.heap.size + 1) 0 _ _ _ hF6
      have z7 : w6.frozen? ⟨w1.heap.size + 1, 0, none⟩ = false := by simp [World.frozen?, hF6]
      obtain ⟨A6, c6, rfl, _⟩ := own_slice hown6
      clear hown6 hgr6 hoW hm1 hm2 hF6 y4 y6 y6f hi iz0 iz1 iz2
      gi_wp2
      exact Mv.end_ (HM2.out.trans (Mv.grown (gr_set w6 (w1.heap.size + 1) 0 _) (fun j e => Or.inl (by cases e; rfl)))) HST.out F4.out F5.out F6.out F8.out HA3.out HB3.out HKC.out HKE.out hz3 (by omega) (by omega) (by omega) (by omega) (by omega) (Nat.le_refl _) (set_blk HF6.out) (by
        rw [Mg.put_nil]
        unfold Mg.ent
        rw [← HO.out]
        exact ownsRow_setCell HO6.out (by dsimp only; omega) _)
    · rw [List.concat_eq_append] at hE1
      subst hE1
      obtain ⟨Av, cv, rfl, _⟩ := own_slice O3.out
      obtain ⟨go, co, hv, hgo, hgol⟩ := O3.out.form (by simp)
      injection hv with hv _ hcc
      subst hv
      subst hcc
      have hlt3 := O3.out.lt
      obtain ⟨m, hm0⟩ : ∃ m, m = E'.length := ⟨_, rfl⟩
      have hml : (E' ++ [a]).length = m + 1 := by rw [hm0]; simp
      have hae : (E' ++ [a])[m]? = some a := by rw [hm0]; simp
      obtain ⟨ai, ao, al, ar⟩ := a
      obtain ⟨hfa, hca, hra, hrl⟩ := HINV.out.ok (ai, ao, al, ar) (by simp)
      have hle := En.l_eq hca hra
      have hci := En.ck_in (show En.ck ai ao al ar = 0 from hca)
      have hwp := En.wd_pos hra
      dsimp only at hle hra hrl hwp
      rw [hwp] at hci
      have hfa' : En.fit ai ao al ar := hfa
      have hla0' : En.la ai ao al ar = ai + ar - 1 := hle
      have hai : 0 ≤ ai := hfa'.1.1
      have hla : En.la ai ao al ar + 1 < 18446744073709551616 := by omega
      have hla0 : 0 ≤ En.la ai ao al ar := by omega
      have HFA := Lib.hid hfa'
      have hrl2 : ar ≤ 60 := by rw [List.length_take] at hrl; omega
      obtain ⟨e0, e1, e2, e3⟩ := (Reads.of_own O3.out).ent rfl m (by omega)
      have hget : (E' ++ [(ai, ao, al, ar)])[m]'(by omega) = (ai, ao, al, ar) := (List.getElem?_eq_some_iff.1 hae).2
      rw [hget, Nat.zero_add] at e0 e1 e2 e3
      dsimp only at e0 e1 e2 e3
      rw [hml] at y6 hlt3
      have HO3 : Hid (W3.ownsRow w2.heap.size 43 4 (.slice (some ⟨go, 0, none⟩) (m + 1) cv) (m + 1) (ecells (E' ++ [(ai, ao, al, ar)]))) := Lib.hid (by have h := O3.out; rw [hml] at h; exact h)
      have HF6 : Hid (W3.heap[w1.heap.size + 1]? = some (.cells #[.slice (some ⟨go, 0, none⟩) (m + 1) cv] 35 (0, 0))) := Lib.hid (by have h := F6.out; rw [hml] at h; exact h)
      have HM := Lib.hid hm0
      have hm60 : m ≤ 60 := by omega
      have hgo3 : go < W3.heap.size := hgol
      have hbx := blk_cells4 (heap_at (w := W3.alloc (.cells #[.int .u64 (o : Int), .int .u32 (s.size : Int)] 102)) (o := .cells #[.int .u64 id, .int .u64 (o : Int), .int .u32 (s.size : Int), .int .u32 1] 43) (n := W3.heap.size + 1) (by simp))
      have q0 := cell_al (cell_al y4 (.cells #[.int .u64 (o : Int), .int .u32 (s.size : Int)] 102)) (.cells #[.int .u64 id, .int .u64 (o : Int), .int .u32 (s.size : Int), .int .u32 1] 43)
      have q1 := cell_al (cell_al y6 (.cells #[.int .u64 (o : Int), .int .u32 (s.size : Int)] 102)) (.cells #[.int .u64 id, .int .u64 (o : Int), .int .u32 (s.size : Int), .int .u32 1] 43)
      have q2 := cell_al (cell_al e0 (.cells #[.int .u64 (o : Int), .int .u32 (s.size : Int)] 102)) (.cells #[.int .u64 id, .int .u64 (o : Int), .int .u32 (s.size : Int), .int .u32 1] 43)
      have q3 := cell_al (cell_al e1 (.cells #[.int .u64 (o : Int), .int .u32 (s.size : Int)] 102)) (.cells #[.int .u64 id, .int .u64 (o : Int), .int .u32 (s.size : Int), .int .u32 1] 43)
      have q4 := cell_al (cell_al e2 (.cells #[.int .u64 (o : Int), .int .u32 (s.size : Int)] 102)) (.cells #[.int .u64 id, .int .u64 (o : Int), .int .u32 (s.size : Int), .int .u32 1] 43)
      have q5 := cell_al (cell_al e3 (.cells #[.int .u64 (o : Int), .int .u32 (s.size : Int)] 102)) (.cells #[.int .u64 id, .int .u64 (o : Int), .int .u32 (s.size : Int), .int .u32 1] 43)
      obtain ⟨q6, q7, q8, q9⟩ := hbx
      have HENT : Hid (Mg.ent P (id, s) = (id, (o : Int), (s.size : Int), 1)) := Lib.hid (by unfold Mg.ent; rw [HO.out])
      have hlm : (m : Int) < (m : Int) + 1 := by omega
      clear hget hae hml hm0 hfa hfa' hca hle hci hwp hla0' e0 e1 e2 e3 hrl
      rcases Bool.eq_false_or_eq_true (Mg.goes (ai, ao, al, ar) (id, (o : Int), (s.size : Int), 1)) with hgs | hgs
      · have HGS := Lib.hid hgs
        clear hgs
        gi_wp2
        refine round_start (fun w' => Hid (w'.cell? ⟨w.heap.size + 1, 0, none⟩ = some (.func (.func 39) #[] #[]) ∧ w'.cell? ⟨w1.heap.size + 1, 0, none⟩ = some (.slice (some ⟨go, 0, none⟩) (m + 1) cv) ∧ w'.cell? ⟨go, m * 4, none⟩ = some (.int .u64 ai) ∧ w'.cell? ⟨go, m * 4 + 1, none⟩ = some (.int .u64 ao) ∧ w'.cell? ⟨go, m * 4 + 2, none⟩ = some (.int .u32 al) ∧ w'.cell? ⟨go, m * 4 + 3, none⟩ = some (.int .u32 ar) ∧ w'.cell? ⟨W3.heap.size + 1, 0, none⟩ = some (.int .u64 id) ∧ w'.cell? ⟨W3.heap.size + 1, 1, none⟩ = some (.int .u64 (o : Int)) ∧ w'.cell? ⟨W3.heap.size + 1, 2, none⟩ = some (.int .u32 (s.size : Int)) ∧ w'.cell? ⟨W3.heap.size + 1, 3, none⟩ = some (.int .u32 1))) (by kernel_rfl) (by (try dsimp only); exact Lib.hid ⟨q0, q1, q2, q3, q4, q5, q6, q7, q8, q9⟩) (fun hHeld => ?_)
        simp only [List.size_toArray, List.length_cons, List.length_nil, Nat.zero_add, Nat.reduceAdd]
        refine round_take (i := 0) (v := ?_) rfl (by kernel_rfl) (by kernel_rfl) (by kernel_rfl) (by kernel_rfl) (fun _ _ _ h => h) (by rfl) (fun _ => rfl) ?_ (by assumption) ?_
        rotate_left
        · intro w hSw
          replace hSw := hSw.out
          (try dsimp only at hSw)
          go_simp
          try with_reducible rfl
        try simp only [Act.put, List.setIfInBounds_toArray, List.set_cons_zero, List.set_cons_succ]
        refine round_take (i := 1) (v := ?_) rfl (by kernel_rfl) (by kernel_rfl) (by kernel_rfl) (by kernel_rfl) (fun _ _ _ h => h) (by rfl) (fun _ => rfl) ?_ (by assumption) ?_
        rotate_left
        · intro w hSw
          replace hSw := hSw.out
          (try dsimp only at hSw)
          go_simp
          try with_reducible rfl
        try simp only [Act.put, List.setIfInBounds_toArray, List.set_cons_zero, List.set_cons_succ]
        refine round_take (i := 2) (v := ?_) rfl (by kernel_rfl) (by kernel_rfl) (by kernel_rfl) (by kernel_rfl) (fun _ _ _ h => h) (by rfl) (fun _ => rfl) ?_ (by assumption) ?_
        rotate_left
        · intro w hSw
          replace hSw := hSw.out
          (try dsimp only at hSw)
          go_simp
          try with_reducible rfl
        try simp only [Act.put, List.setIfInBounds_toArray, List.set_cons_zero, List.set_cons_succ]
        refine round_take (i := 3) (v := ?_) rfl (by kernel_rfl) (by kernel_rfl) (by kernel_rfl) (by kernel_rfl) (fun _ _ _ h => h) (by rfl) (fun _ => rfl) ?_ (by assumption) ?_
        rotate_left
        · intro w hSw
          replace hSw := hSw.out
          (try dsimp only at hSw)
          go_simp
          try with_reducible rfl
        try simp only [Act.put, List.setIfInBounds_toArray, List.set_cons_zero, List.set_cons_succ]
        refine round_take (i := 4) (v := ?_) rfl (by kernel_rfl) (by kernel_rfl) (by kernel_rfl) (by kernel_rfl) (fun _ _ _ h => h) (by rfl) (fun _ => rfl) ?_ (by assumption) ?_
        rotate_left
        · intro w hSw
          replace hSw := hSw.out
          (try dsimp only at hSw)
          go_simp
          try with_reducible rfl
        try simp only [Act.put, List.setIfInBounds_toArray, List.set_cons_zero, List.set_cons_succ]
        refine round_take (i := 5) (v := ?_) rfl (by kernel_rfl) (by kernel_rfl) (by kernel_rfl) (by kernel_rfl) (fun _ _ _ h => h) (by rfl) (fun _ => rfl) ?_ (by assumption) ?_
        rotate_left
        · intro w hSw
          replace hSw := hSw.out
          (try dsimp only at hSw)
          go_simp
          try with_reducible rfl
        try simp only [Act.put, List.setIfInBounds_toArray, List.set_cons_zero, List.set_cons_succ]
        refine round_take (i := 6) (v := ?_) rfl (by kernel_rfl) (by kernel_rfl) (by kernel_rfl) (by kernel_rfl) (fun _ _ _ h => h) (by rfl) (fun _ => rfl) ?_ (by assumption) ?_
        rotate_left
        · intro w hSw
          replace hSw := hSw.out
          (try dsimp only at hSw)
          go_simp
          try with_reducible rfl
        try simp only [Act.put, List.setIfInBounds_toArray, List.set_cons_zero, List.set_cons_succ]
        refine round_take (i := 7) (v := ?_) rfl (by kernel_rfl) (by kernel_rfl) (by kernel_rfl) (by kernel_rfl) (fun _ _ _ h => h) (by rfl) (fun _ => rfl) ?_ (by assumption) ?_
        rotate_left
        · intro w hSw
          replace hSw := hSw.out
          (try dsimp only at hSw)
          go_simp
          try with_reducible rfl
        try simp only [Act.put, List.setIfInBounds_toArray, List.set_cons_zero, List.set_cons_succ]
        refine round_take (i := 8) (v := ?_) rfl (by kernel_rfl) (by kernel_rfl) (by kernel_rfl) (by kernel_rfl) (fun _ _ _ h => h) (by rfl) (fun _ => rfl) ?_ (by assumption) ?_
        rotate_left
        · intro w hSw
          replace hSw := hSw.out
          (try dsimp only at hSw)
          go_simp
          try with_reducible rfl
        try simp only [Act.put, List.setIfInBounds_toArray, List.set_cons_zero, List.set_cons_succ]
        refine round_take (i := 9) (v := ?_) rfl (by kernel_rfl) (by kernel_rfl) (by kernel_rfl) (by kernel_rfl) (fun _ _ _ h => h) (by rfl) (fun _ => rfl) ?_ (by assumption) ?_
        rotate_left
        · intro w hSw
          replace hSw := hSw.out
          (try dsimp only at hSw)
          go_simp
          try with_reducible rfl
        try simp only [Act.put, List.setIfInBounds_toArray, List.set_cons_zero, List.set_cons_succ]
        refine round_take (i := 10) (v := ?_) rfl (by kernel_rfl) (by kernel_rfl) (by kernel_rfl) (by kernel_rfl) (fun _ _ _ h => h) (by rfl) (fun _ => rfl) ?_ (by assumption) ?_
        rotate_left
        · intro w hSw
          replace hSw := hSw.out
          (try dsimp only at hSw)
          go_simp
          try with_reducible rfl
        try simp only [Act.put, List.setIfInBounds_toArray, List.set_cons_zero, List.set_cons_succ]
        refine round_one (i := 11) (by kernel_rfl) rfl ?_
        gi_wp2
        refine ⟨trivial, ?_⟩
        refine (CallsIn.inRound l (callsIn_wide.2 (goes_any ai ao al ar id (o : Int) (s.size : Int) 1 HFA.out hla hla0 _))).mono ?_
        rintro e W5 ⟨he, hb5⟩
        rw [HGS.out] at he
        subst he
        have HB5 : Hid (Below W3.heap.size W3 W5) := Lib.hid (Below.trans (b := ((W3.alloc (.cells #[.int .u64 (o : Int), .int .u32 (s.size : Int)] 102)).alloc (.cells #[.int .u64 id, .int .u64 (o : Int), .int .u32 (s.size : Int), .int .u32 1] 43)).drew) (by exact (by repeat (first | with_reducible exact Below.refl _ _ | with_reducible assumption | with_reducible refine Below.setCell ?_ (by first | (simp; done) | (simp; omega) | omega) _ | with_reducible refine Below.alloc ?_ (by first | exact Nat.le_refl _ | (simp; done) | (simp; omega) | omega) _ | with_reducible refine Below.drew ?_))) (hb5.mono (by simp; omega)))
        have HQ : Hid (W5.cell? ⟨w.heap.size + 1, 0, none⟩ = some (.func (.func 39) #[] #[]) ∧ W5.cell? ⟨w1.heap.size + 1, 0, none⟩ = some (.slice (some ⟨go, 0, none⟩) (m + 1) cv) ∧ W5.cell? ⟨go, m * 4, none⟩ = some (.int .u64 ai) ∧ W5.cell? ⟨go, m * 4 + 1, none⟩ = some (.int .u64 ao) ∧ W5.cell? ⟨go, m * 4 + 2, none⟩ = some (.int .u32 al) ∧ W5.cell? ⟨go, m * 4 + 3, none⟩ = some (.int .u32 ar) ∧ W5.cell? ⟨W3.heap.size + 1, 0, none⟩ = some (.int .u64 id) ∧ W5.cell? ⟨W3.heap.size + 1, 1, none⟩ = some (.int .u64 (o : Int)) ∧ W5.cell? ⟨W3.heap.size + 1, 2, none⟩ = some (.int .u32 (s.size : Int)) ∧ W5.cell? ⟨W3.heap.size + 1, 3, none⟩ = some (.int .u32 1)) := Lib.hid ⟨(hb5.cell (p := ⟨w.heap.size + 1, 0, none⟩) (by simp <;> omega)).trans q0, (hb5.cell (p := ⟨w1.heap.size + 1, 0, none⟩) (by simp <;> omega)).trans q1, (hb5.cell (p := ⟨go, m * 4, none⟩) (by simp <;> omega)).trans q2, (hb5.cell (p := ⟨go, m * 4 + 1, none⟩) (by simp <;> omega)).trans q3, (hb5.cell (p := ⟨go, m * 4 + 2, none⟩) (by simp <;> omega)).trans q4, (hb5.cell (p := ⟨go, m * 4 + 3, none⟩) (by simp <;> omega)).trans q5, (hb5.cell (p := ⟨W3.heap.size + 1, 0, none⟩) (by simp <;> omega)).trans q6, (hb5.cell (p := ⟨W3.heap.size + 1, 1, none⟩) (by simp <;> omega)).trans q7, (hb5.cell (p := ⟨W3.heap.size + 1, 2, none⟩) (by simp <;> omega)).trans q8, (hb5.cell (p := ⟨W3.heap.size + 1, 3, none⟩) (by simp <;> omega)).trans q9⟩
        clear hb5
        try gi_wp2
        clear hHeld
        refine and_then_in (by (try dsimp only); exact HQ) (fun hHeld => ?_)
        try simp only [Act.put, List.setIfInBounds_toArray, List.set_cons_zero, List.set_cons_succ]
        refine round_take (i := 12) (v := ?_) rfl (by kernel_rfl) (by kernel_rfl) (by kernel_rfl) (by kernel_rfl) (fun _ _ _ h => h) (by rfl) (fun _ => rfl) ?_ (by assumption) ?_
        rotate_left
        · intro w hSw
          replace hSw := hSw.out
          (try dsimp only at hSw)
          go_simp
          try with_reducible rfl
        try simp only [Act.put, List.setIfInBounds_toArray, List.set_cons_zero, List.set_cons_succ]
        refine round_done (by kernel_rfl) ?_ _
        obtain ⟨p0, p1, p2, p3, p4, p5, p6, p7, p8, p9⟩ := HQ.out
        have hO5 := ownsRow_keep HO3.out HB5.out
        have HO5 := Lib.hid hO5
        have HF5 := Lib.hid (blk_keep2 HB5.out HF6.out)
        have hfz : W5.frozen? ⟨go, m * 4 + 3, none⟩ = false := by
          rcases hO5.2 with ⟨h1, _⟩ | ⟨g', cap', cur, hv', _, hh, _⟩
          · cases h1
          · injection hv' with hv' _ _
            injection hv' with hv'
            injection hv' with hv' _ _
            subst hv'
            simp [World.frozen?, hh]
        have har1 : 0 ≤ ar + 1 := by omega
        have har2 : ar + 1 < 4294967296 := by omega
        have hg6 : ¬ (w1.heap.size + 1 = go) := by have := (hlt3 go rfl).1; omega
        clear hO5 q0 q1 q2 q3 q4 q5 q6 q7 q8 q9 y4 y6 y6f hi iz0 iz1 iz2 p0 p2 p3 p4 p6 p7 p8 p9
        gi_wp2
        exact Mv.end_ ((Mv.of_below HB5.out).trans (Mv.grown (gr_set W5 go _ _) (fun j e => Or.inr (by cases e; exact ⟨(hlt3 go rfl).1, own_isE HO5.out go rfl⟩)))) HST.out F4.out F5.out F6.out F8.out HA3.out HB3.out HKC.out HKE.out hz3 (by omega) (by omega) (by omega) (by omega) (by omega) (Nat.le_refl _) (blk_grown HF5.out (gr_set W5 go _ _) (fun k e => by cases e; exact fun h => hg6 h.symm)) (by
          rw [HENT.out, Mg.put_snoc, if_pos HGS.out]
          have hl1 : (E' ++ [Mg.more (ai, ao, al, ar)]).length = m + 1 := by rw [HM.out]; simp
          have hl2 : m < (E' ++ [(ai, ao, al, ar)]).length := by rw [HM.out]; simp
          have hge : (E' ++ [(ai, ao, al, ar)])[m]'hl2 = (ai, ao, al, ar) := by simp [HM.out]
          have hse : (E' ++ [(ai, ao, al, ar)]).set m (Mg.more (ai, ao, al, ar)) = E' ++ [Mg.more (ai, ao, al, ar)] := by rw [HM.out]; simp
          rw [hl1, ← hse, ← ecells_set (E' ++ [(ai, ao, al, ar)]) m 3 (.int .u32 (ar + 1)) (Mg.more (ai, ao, al, ar)) hl2 (by omega) (by rw [hge]; rfl)]
          exact own_store HO5.out)
      · have HGS := Lib.hid hgs
        clear hgs
        gi_wp2
        refine round_start (fun w' => Hid (w'.cell? ⟨w.heap.size + 1, 0, none⟩ = some (.func (.func 39) #[] #[]) ∧ w'.cell? ⟨w1.heap.size + 1, 0, none⟩ = some (.slice (some ⟨go, 0, none⟩) (m + 1) cv) ∧ w'.cell? ⟨go, m * 4, none⟩ = some (.int .u64 ai) ∧ w'.cell? ⟨go, m * 4 + 1, none⟩ = some (.int .u64 ao) ∧ w'.cell? ⟨go, m * 4 + 2, none⟩ = some (.int .u32 al) ∧ w'.cell? ⟨go, m * 4 + 3, none⟩ = some (.int .u32 ar) ∧ w'.cell? ⟨W3.heap.size + 1, 0, none⟩ = some (.int .u64 id) ∧ w'.cell? ⟨W3.heap.size + 1, 1, none⟩ = some (.int .u64 (o : Int)) ∧ w'.cell? ⟨W3.heap.size + 1, 2, none⟩ = some (.int .u32 (s.size : Int)) ∧ w'.cell? ⟨W3.heap.size + 1, 3, none⟩ = some (.int .u32 1))) (by kernel_rfl) (by (try dsimp only); exact Lib.hid ⟨q0, q1, q2, q3, q4, q5, q6, q7, q8, q9⟩) (fun hHeld => ?_)
        simp only [List.size_toArray, List.length_cons, List.length_nil, Nat.zero_add, Nat.reduceAdd]
        refine round_take (i := 0) (v := ?_) rfl (by kernel_rfl) (by kernel_rfl) (by kernel_rfl) (by kernel_rfl) (fun _ _ _ h => h) (by rfl) (fun _ => rfl) ?_ (by assumption) ?_
        rotate_left
        · intro w hSw
          replace hSw := hSw.out
          (try dsimp only at hSw)
          go_simp
          try with_reducible rfl
        try simp only [Act.put, List.setIfInBounds_toArray, List.set_cons_zero, List.set_cons_succ]
        refine round_take (i := 1) (v := ?_) rfl (by kernel_rfl) (by kernel_rfl) (by kernel_rfl) (by kernel_rfl) (fun _ _ _ h => h) (by rfl) (fun _ => rfl) ?_ (by assumption) ?_
        rotate_left
        · intro w hSw
          replace hSw := hSw.out
          (try dsimp only at hSw)
          go_simp
          try with_reducible rfl
        try simp only [Act.put, List.setIfInBounds_toArray, List.set_cons_zero, List.set_cons_succ]
        refine round_take (i := 2) (v := ?_) rfl (by kernel_rfl) (by kernel_rfl) (by kernel_rfl) (by kernel_rfl) (fun _ _ _ h => h) (by rfl) (fun _ => rfl) ?_ (by assumption) ?_
        rotate_left
        · intro w hSw
          replace hSw := hSw.out
          (try dsimp only at hSw)
          go_simp
          try with_reducible rfl
        try simp only [Act.put, List.setIfInBounds_toArray, List.set_cons_zero, List.set_cons_succ]
        refine round_take (i := 3) (v := ?_) rfl (by kernel_rfl) (by kernel_rfl) (by kernel_rfl) (by kernel_rfl) (fun _ _ _ h => h) (by rfl) (fun _ => rfl) ?_ (by assumption) ?_
        rotate_left
        · intro w hSw
          replace hSw := hSw.out
          (try dsimp only at hSw)
          go_simp
          try with_reducible rfl
        try simp only [Act.put, List.setIfInBounds_toArray, List.set_cons_zero, List.set_cons_succ]
        refine round_take (i := 4) (v := ?_) rfl (by kernel_rfl) (by kernel_rfl) (by kernel_rfl) (by kernel_rfl) (fun _ _ _ h => h) (by rfl) (fun _ => rfl) ?_ (by assumption) ?_
        rotate_left
        · intro w hSw
          replace hSw := hSw.out
          (try dsimp only at hSw)
          go_simp
          try with_reducible rfl
        try simp only [Act.put, List.setIfInBounds_toArray, List.set_cons_zero, List.set_cons_succ]
        refine round_take (i := 5) (v := ?_) rfl (by kernel_rfl) (by kernel_rfl) (by kernel_rfl) (by kernel_rfl) (fun _ _ _ h => h) (by rfl) (fun _ => rfl) ?_ (by assumption) ?_
        rotate_left
        · intro w hSw
          replace hSw := hSw.out
          (try dsimp only at hSw)
          go_simp
          try with_reducible rfl
        try simp only [Act.put, List.setIfInBounds_toArray, List.set_cons_zero, List.set_cons_succ]
        refine round_take (i := 6) (v := ?_) rfl (by kernel_rfl) (by kernel_rfl) (by kernel_rfl) (by kernel_rfl) (fun _ _ _ h => h) (by rfl) (fun _ => rfl) ?_ (by assumption) ?_
        rotate_left
        · intro w hSw
          replace hSw := hSw.out
          (try dsimp only at hSw)
          go_simp
          try with_reducible rfl
        try simp only [Act.put, List.setIfInBounds_toArray, List.set_cons_zero, List.set_cons_succ]
        refine round_take (i := 7) (v := ?_) rfl (by kernel_rfl) (by kernel_rfl) (by kernel_rfl) (by kernel_rfl) (fun _ _ _ h => h) (by rfl) (fun _ => rfl) ?_ (by assumption) ?_
        rotate_left
        · intro w hSw
          replace hSw := hSw.out
          (try dsimp only at hSw)
          go_simp
          try with_reducible rfl
        try simp only [Act.put, List.setIfInBounds_toArray, List.set_cons_zero, List.set_cons_succ]
        refine round_take (i := 8) (v := ?_) rfl (by kernel_rfl) (by kernel_rfl) (by kernel_rfl) (by kernel_rfl) (fun _ _ _ h => h) (by rfl) (fun _ => rfl) ?_ (by assumption) ?_
        rotate_left
        · intro w hSw
          replace hSw := hSw.out
          (try dsimp only at hSw)
          go_simp
          try with_reducible rfl
        try simp only [Act.put, List.setIfInBounds_toArray, List.set_cons_zero, List.set_cons_succ]
        refine round_take (i := 9) (v := ?_) rfl (by kernel_rfl) (by kernel_rfl) (by kernel_rfl) (by kernel_rfl) (fun _ _ _ h => h) (by rfl) (fun _ => rfl) ?_ (by assumption) ?_
        rotate_left
        · intro w hSw
          replace hSw := hSw.out
          (try dsimp only at hSw)
          go_simp
          try with_reducible rfl
        try simp only [Act.put, List.setIfInBounds_toArray, List.set_cons_zero, List.set_cons_succ]
        refine round_take (i := 10) (v := ?_) rfl (by kernel_rfl) (by kernel_rfl) (by kernel_rfl) (by kernel_rfl) (fun _ _ _ h => h) (by rfl) (fun _ => rfl) ?_ (by assumption) ?_
        rotate_left
        · intro w hSw
          replace hSw := hSw.out
          (try dsimp only at hSw)
          go_simp
          try with_reducible rfl
        try simp only [Act.put, List.setIfInBounds_toArray, List.set_cons_zero, List.set_cons_succ]
        refine round_one (i := 11) (by kernel_rfl) rfl ?_
        gi_wp2
        refine ⟨trivial, ?_⟩
        refine (CallsIn.inRound l (callsIn_wide.2 (goes_any ai ao al ar id (o : Int) (s.size : Int) 1 HFA.out hla hla0 _))).mono ?_
        rintro e W5 ⟨he, hb5⟩
        rw [HGS.out] at he
        subst he
        have HB5 : Hid (Below W3.heap.size W3 W5) := Lib.hid (Below.trans (b := ((W3.alloc (.cells #[.int .u64 (o : Int), .int .u32 (s.size : Int)] 102)).alloc (.cells #[.int .u64 id, .int .u64 (o : Int), .int .u32 (s.size : Int), .int .u32 1] 43)).drew) (by exact (by repeat (first | with_reducible exact Below.refl _ _ | with_reducible assumption | with_reducible refine Below.setCell ?_ (by first | (simp; done) | (simp; omega) | omega) _ | with_reducible refine Below.alloc ?_ (by first | exact Nat.le_refl _ | (simp; done) | (simp; omega) | omega) _ | with_reducible refine Below.drew ?_))) (hb5.mono (by simp; omega)))
        have HQ : Hid (W5.cell? ⟨w.heap.size + 1, 0, none⟩ = some (.func (.func 39) #[] #[]) ∧ W5.cell? ⟨w1.heap.size + 1, 0, none⟩ = some (.slice (some ⟨go, 0, none⟩) (m + 1) cv) ∧ W5.cell? ⟨go, m * 4, none⟩ = some (.int .u64 ai) ∧ W5.cell? ⟨go, m * 4 + 1, none⟩ = some (.int .u64 ao) ∧ W5.cell? ⟨go, m * 4 + 2, none⟩ = some (.int .u32 al) ∧ W5.cell? ⟨go, m * 4 + 3, none⟩ = some (.int .u32 ar) ∧ W5.cell? ⟨W3.heap.size + 1, 0, none⟩ = some (.int .u64 id) ∧ W5.cell? ⟨W3.heap.size + 1, 1, none⟩ = some (.int .u64 (o : Int)) ∧ W5.cell? ⟨W3.heap.size + 1, 2, none⟩ = some (.int .u32 (s.size : Int)) ∧ W5.cell? ⟨W3.heap.size + 1, 3, none⟩ = some (.int .u32 1)) := Lib.hid ⟨(hb5.cell (p := ⟨w.heap.size + 1, 0, none⟩) (by simp <;> omega)).trans q0, (hb5.cell (p := ⟨w1.heap.size + 1, 0, none⟩) (by simp <;> omega)).trans q1, (hb5.cell (p := ⟨go, m * 4, none⟩) (by simp <;> omega)).trans q2, (hb5.cell (p := ⟨go, m * 4 + 1, none⟩) (by simp <;> omega)).trans q3, (hb5.cell (p := ⟨go, m * 4 + 2, none⟩) (by simp <;> omega)).trans q4, (hb5.cell (p := ⟨go, m * 4 + 3, none⟩) (by simp <;> omega)).trans q5, (hb5.cell (p := ⟨W3.heap.size + 1, 0, none⟩) (by simp <;> omega)).trans q6, (hb5.cell (p := ⟨W3.heap.size + 1, 1, none⟩) (by simp <;> omega)).trans q7, (hb5.cell (p := ⟨W3.heap.size + 1, 2, none⟩) (by simp <;> omega)).trans q8, (hb5.cell (p := ⟨W3.heap.size + 1, 3, none⟩) (by simp <;> omega)).trans q9⟩
        clear hb5
        try gi_wp2
        clear hHeld
        refine and_then_in (by (try dsimp only); exact HQ) (fun hHeld => ?_)
        try simp only [Act.put, List.setIfInBounds_toArray, List.set_cons_zero, List.set_cons_succ]
        refine round_take (i := 12) (v := ?_) rfl (by kernel_rfl) (by kernel_rfl) (by kernel_rfl) (by kernel_rfl) (fun _ _ _ h => h) (by rfl) (fun _ => rfl) ?_ (by assumption) ?_
        rotate_left
        · intro w hSw
          replace hSw := hSw.out
          (try dsimp only at hSw)
          go_simp
          try with_reducible rfl
        try simp only [Act.put, List.setIfInBounds_toArray, List.set_cons_zero, List.set_cons_succ]
        refine round_done (by kernel_rfl) ?_ _
        obtain ⟨p0, p1, p2, p3, p4, p5, p6, p7, p8, p9⟩ := HQ.out
        have hO5 := ownsRow_keep HO3.out HB5.out
        have HO5 := Lib.hid hO5
        have HF5 := Lib.hid (blk_keep2 HB5.out HF6.out)
        have hsz5 := HB5.out.size
        have hlt5 := hO5.lt
        clear q0 q1 q2 q3 q4 q5 q6 q7 q8 q9 y4 y6 y6f p0 p2 p3 p4 p5 hO5
        gi_wp2_with (gi_at_builtin; go_must (refine wpListIn_append_own _ rfl (.tmp 56) (.tmp 58) _ rfl w2.heap.size 43 i0 _ 4 24 Tryz.underlying35 hi iz0 iz1 iz2 rfl (by omega) _ (m + 1) (ecells (E' ++ [(ai, ao, al, ar)])) rfl (HO5.out.alloc _) ⟨W5.heap.size, 0, none⟩ 1 1 [.int .u64 id, .int .u64 (o : Int), .int .u32 (s.size : Int), .int .u32 1] rfl rfl ?c1 ?c2 ?c3 ?c4 ?c5 ?_))
        case c1 => exact blkn (l := [.int .u64 id, .int .u64 (o : Int), .int .u32 (s.size : Int), .int .u32 1]) (heap_at (by simp))
        case c2 => intro u hu; simp at hu; rcases hu with rfl | rfl | rfl | rfl <;> rfl
        case c3 => simp only [maxLen]; omega
        case c4 => omega
        case c5 => simp; omega
        intro v6 w6 hown6 hgr6 _
        have hoW := HO5.out.alloc (.cells #[.int .u64 id, .int .u64 (o : Int), .int .u32 (s.size : Int), .int .u32 1] 43)
        have hm1 : Mv w2.heap.size (w1.heap.size + 1) W3 (W5.alloc (.cells #[.int .u64 id, .int .u64 (o : Int), .int .u32 (s.size : Int), .int .u32 1] 43)) := Mv.of_below (HB5.out.alloc hsz5 _)
        have hm2 := hm1.trans (Mv.grown hgr6 (fun j e => Or.inr ⟨(hlt3 j e).1, own_isE hoW j e⟩))
        have hF6 : w6.heap[w1.heap.size + 1]? = some (.cells #[.slice (some ⟨go, 0, none⟩) (m + 1) cv] 35 (0, 0)) := blk_grown (blk_alloc HF5.out _) hgr6 (fun k e => by have := (hlt3 k e).1; omega)
        have HX6 := Lib.hid hF6
        have HM2 := Lib.hid hm2
        have HO6 := Lib.hid hown6
        have z6 := cell_of_row w6 (w1.heap.size + 1) 0 _ _ _ hF6
        have z7 : w6.frozen? ⟨w1.heap.size + 1, 0, none⟩ = false := by simp [World.frozen?, hF6]
        obtain ⟨A6, c6, rfl, _⟩ := own_slice hown6
        clear hown6 hgr6 hoW hm1 hm2 hF6 hi iz0 iz1 iz2 p6 p7 p8 p9
        gi_wp2
        exact Mv.end_ (HM2.out.trans (Mv.grown (gr_set w6 (w1.heap.size + 1) 0 _) (fun j e => Or.inl (by cases e; rfl)))) HST.out F4.out F5.out F6.out F8.out HA3.out HB3.out HKC.out HKE.out hz3 (by omega) (by omega) (by omega) (by omega) (by omega) (Nat.le_refl _) (set_blk HX6.out) (by
          rw [HENT.out, Mg.put_snoc, if_neg (by rw [HGS.out]; simp)]
          have hl1 : ((E' ++ [(ai, ao, al, ar)]) ++ [(id, (o : Int), (s.size : Int), 1)]).length = m + 1 + 1 := by rw [HM.out]; simp
          rw [hl1, ecells_append]
          exact ownsRow_setCell HO6.out (by dsimp only; omega) _)
  case hdone =>
    rintro D X hD ⟨v, hI1, hI2, hI3, hI4, hI5, hI6, hI7, hI8⟩ hDD
    rw [List.take_length] at hI4 hI5
    have hinv := Mg.whole HS.out (by have := HSUM.out; omega) (by omega)
    have htx := hinv.tot
    have hsm := HSUM.out
    have htt : Pl.tot (Mg.rows L).1 ≤ 1000000 := by omega
    obtain ⟨E, hE⟩ : ∃ E, E = (Mg.rows L).2 := ⟨_, rfl⟩
    obtain ⟨P, hP⟩ : ∃ P, P = (Mg.rows L).1 := ⟨_, rfl⟩
    rw [← hE] at hI4
    rw [← hP] at hI5 htt
    have HE := Lib.hid hE
    have HP := Lib.hid hP
    have HO4 := Lib.hid hI4
    have HB7 := Lib.hid hI7
    have c5 := cell_of_row X w1.heap.size 0 _ _ _ hI2
    have c6 := cell_of_row X (w1.heap.size + 1) 0 _ _ _ hI3
    have HDD := Lib.hid hDD
    have htp := ptext_any g P X.drew hI5 htt
    have HTXD := Lib.hid htp
    clear hinv htx hsm hI1 hI2 hI3 hI4 hI5 hI7 hI8 hE hP htp
    go_wp2
    refine wp_nop ?_
    refine wp_region_held_drew (S := (fun w' => w'.cell? ⟨w1.heap.size, 0, none⟩ = some (.pointer (some ⟨g, 0, none⟩)) ∧ w'.cell? ⟨w1.heap.size + 1, 0, none⟩ = some v)) (by kernel_rfl) (by (try dsimp only); exact ⟨c5, c6⟩) (fun hHeld => ?_)
    simp only [List.size_toArray, List.length_cons, List.length_nil, Nat.zero_add, Nat.reduceAdd]
    refine held_take (i := 0) (v := ?_) rfl (by kernel_rfl) (by kernel_rfl) (by kernel_rfl) (fun _ _ _ h => h) (by rfl) ?_ (by assumption) ?_
    rotate_left
    · intro w hSw
      (try dsimp only at hSw)
      go_simp
      try with_reducible rfl
    try simp only [Act.put, List.setIfInBounds_toArray, List.set_cons_zero, List.set_cons_succ]
    refine held_take (i := 1) (v := ?_) rfl (by kernel_rfl) (by kernel_rfl) (by kernel_rfl) (fun _ _ _ h => h) (by rfl) ?_ (by assumption) ?_
    rotate_left
    · intro w hSw
      (try dsimp only at hSw)
      go_simp
      try with_reducible rfl
    try simp only [Act.put, List.setIfInBounds_toArray, List.set_cons_zero, List.set_cons_succ]
    refine held_call (i := 2) (by kernel_rfl) rfl (fun K hK => ?_)
    go_simp
    refine HTXD.out.mono ?_
    rintro e w5 ⟨rfl, hb5⟩
    have HB5 : Hid (Below X.heap.size X w5) := Lib.hid ((Below.drew (Below.refl _ _)).trans hb5)
    have d5 : w5.cell? ⟨w1.heap.size, 0, none⟩ = some (.pointer (some ⟨g, 0, none⟩)) := (hb5.cell (p := ⟨w1.heap.size, 0, none⟩) (show w1.heap.size < X.heap.size by omega)).trans c5
    have d6 : w5.cell? ⟨w1.heap.size + 1, 0, none⟩ = some v := (hb5.cell (p := ⟨w1.heap.size + 1, 0, none⟩) (show w1.heap.size + 1 < X.heap.size by omega)).trans c6
    clear c5 c6 hb5
    refine hK.out _ _ (by (try dsimp only); exact ⟨d5, d6⟩) (fun hHeld => ?_)
    clear hK K
    try simp only [Act.put, List.setIfInBounds_toArray, List.set_cons_zero, List.set_cons_succ]
    refine held_take (i := 3) (v := ?_) rfl (by kernel_rfl) (by kernel_rfl) (by kernel_rfl) (fun _ _ _ h => h) (by rfl) ?_ (by assumption) ?_
    rotate_left
    · intro w hSw
      (try dsimp only at hSw)
      go_simp
      try with_reducible rfl
    try simp only [Act.put, List.setIfInBounds_toArray, List.set_cons_zero, List.set_cons_succ]
    refine held_take (i := 4) (v := ?_) rfl (by kernel_rfl) (by kernel_rfl) (by kernel_rfl) (fun _ _ _ h => h) (by rfl) ?_ (by assumption) ?_
    rotate_left
    · intro w hSw
      (try dsimp only at hSw)
      go_simp
      try with_reducible rfl
    try simp only [Act.put, List.setIfInBounds_toArray, List.set_cons_zero, List.set_cons_succ]
    refine wpAnyH_done (by kernel_rfl) ?_ _
    simp only [NoP]
    go_wp2
    refine ⟨by simp, .inl ⟨D, _, rfl, run_takeDeferred (blk_keep2 HB5.out HDD.out), ?_⟩⟩
    have hO5 := ownsRow_base (ownsRow_keep HO4.out HB5.out) (base' := w.heap.size) (by omega)
    have hB5 := HB7.out.trans (HB5.out.mono HB7.out.size)
    exact ⟨.tuple #[v, .string (strOfNums (Pl.text P))], by simp [results, Tryz.results18, go_sem], v, by rw [← HP.out], by rw [← HE.out]; exact own_put (blk_keep2 HB5.out HDD.out) rfl hO5, put_below hB5 (by omega)⟩
end Go.Proofs.YtlfahmdndlmhpaaGreatDoor
