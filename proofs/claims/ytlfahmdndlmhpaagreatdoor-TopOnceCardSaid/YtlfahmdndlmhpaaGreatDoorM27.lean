/- What the statement asks of the entries of a chart's items: plain. The walks of slices.Equal and chart's Same on one item. The walk of merge.wrong on the one entry of the statement's last part. -/
import Derived.Test.YtlfahmdndlmhpaaGreatDoorM24
import Derived.Test.YtlfahmdndlmhpaaGreatDoorM07
import Derived.Test.YtlfahmdndlmhpaaGreatDoorM09
import Derived.Test.YtlfahmdndlmhpaaGreatDoorM18
import Derived.Test.YtlfahmdndlmhpaaGreatDoorM26
import Derived.Test.YtlfahmdndlmhpaaGreatDoorM04
import Derived.Deep.QuietTactic
import Derived.BigQuiet
import Derived.LoopN
import Derived.Test.YtlfahmdndlmhpaaGreatDoorM23
namespace Go.Proofs.YtlfahmdndlmhpaaGreatDoor
open Go.RowKit

theorem Pl.mem_of (T : List ByteArray) : ∀ s, s ∈ Pl.of T ↔ s ∈ T := by
  rw [← List.reverse_reverse T]
  induction T.reverse with
  | nil => intro s; simp [Pl.of]
  | cons t R ih =>
    intro s
    rw [List.reverse_cons, Pl.of_snoc, Pl.mem_add_iff, ih, List.mem_append, List.mem_singleton]
/-- how long the unlike ones of the first so many are together -/
def Tm.tot (L : List Itm) (i : Nat) : Nat := Pl.tot (Pl.of ((L.take i).map (·.2)))
theorem Tm.tot_zero (L : List Itm) : Tm.tot L 0 = 0 := rfl
theorem Tm.tot_step (L : List Itm) (i : Nat) (hi : i < L.length) : Tm.tot L (i + 1) = if (∃ k, ∃ h : k < i, (L[k]'(by omega)).2 = (L[i]'hi).2) then Tm.tot L i else Tm.tot L i + (L[i]'hi).2.size := by
  unfold Tm.tot
  rw [take_snoc L i hi, List.map_append, List.map_cons, List.map_nil, Pl.of_snoc, Pl.tot_add]
  have h : (L[i]'hi).2 ∈ Pl.of ((L.take i).map (·.2)) ↔ ∃ k, ∃ h : k < i, (L[k]'(by omega)).2 = (L[i]'hi).2 := by
    rw [Pl.mem_of, List.mem_map]
    constructor
    · rintro ⟨x, hx, e⟩
      obtain ⟨k, hk, rfl⟩ := List.getElem_of_mem hx
      rw [List.length_take] at hk
      rw [List.getElem_take] at e
      exact ⟨k, by omega, e⟩
    · rintro ⟨k, hk, e⟩
      refine ⟨L[k]'(by omega), ?_, e⟩
      rw [List.mem_iff_getElem]
      exact ⟨k, by rw [List.length_take]; omega, by rw [List.getElem_take]⟩
  by_cases c : (L[i]'hi).2 ∈ Pl.of ((L.take i).map (·.2))
  · rw [if_pos c, if_pos (h.1 c)]
  · rw [if_neg c, if_neg (fun q => c (h.2 q))]
theorem Tm.tot_le (L : List Itm) (i : Nat) : Tm.tot L i ≤ It.sum L := by
  have h1 : ∀ T : List ByteArray, Pl.tot (Pl.of T) ≤ (T.map ByteArray.size).sum := by
    intro T
    rw [← List.reverse_reverse T]
    induction T.reverse with
    | nil => simp [Pl.of, Pl.tot]
    | cons t R ih =>
      rw [List.reverse_cons, Pl.of_snoc, Pl.tot_add, List.map_append, List.sum_append, List.map_cons, List.map_nil, List.sum_cons, List.sum_nil]
      split <;> omega
  have h2 := h1 ((L.take i).map (·.2))
  have h3 : It.sum L = It.sum (L.take i) + It.sum (L.drop i) := by
    unfold It.sum; rw [← List.sum_append, ← List.map_append, List.take_append_drop]
  have h4 : (((L.take i).map (·.2)).map ByteArray.size).sum = It.sum (L.take i) := by unfold It.sum; rw [List.map_map]; rfl
  unfold Tm.tot
  omega
theorem Tm.tot_all {L : List Itm} {P : List ByteArray} {E : List Ent} (h : Mg.Inv L P E) : Tm.tot L L.length = (Pl.text P).length := by
  unfold Tm.tot
  rw [List.take_length, Pl.text_len, h.ps]
theorem It.same_id {L : List Itm} (h : Ch.sorted L) {a b : Itm} (ha : a ∈ L) (hb : b ∈ L) (e : a.1 = b.1) : a = b := by
  obtain ⟨i, hi, rfl⟩ := List.getElem_of_mem ha
  obtain ⟨j, hj, rfl⟩ := List.getElem_of_mem hb
  rcases Nat.lt_trichotomy i j with c | rfl | c
  · have := h i j hi hj c; omega
  · rfl
  · have := h j i hj hi c; omega
theorem Tm.hs_iff {L : List Itm} {P : List ByteArray} {E : List Ent} (h : Mg.Inv L P E) {e : Ent} (he : e ∈ E) (id : Int) : En.hs e.1 e.2.1 e.2.2.1 e.2.2.2 id = true ↔ e.1 ≤ id ∧ id < e.1 + e.2.2.2 := by
  obtain ⟨_, h2, h3, _⟩ := h.ok e he
  have hl := En.l_eq h2 h3
  unfold En.hs
  unfold En.l at hl
  unfold En.c at h2
  rw [hl, decide_eq_true_eq]
  constructor
  · rintro ⟨_, _, a, b⟩; exact ⟨a, by omega⟩
  · rintro ⟨a, b⟩; exact ⟨h2, h3, a, by omega⟩
/-- the entry that has an identifier tells its text's place -/
theorem Tm.hs_at {L : List Itm} {P : List ByteArray} {E : List Ent} (h : Mg.Inv L P E) (ho : Ch.sorted L) {e : Ent} (he : e ∈ E) {it : Itm} (hi : it ∈ L) (hh : En.hs e.1 e.2.1 e.2.2.1 e.2.2.2 it.1 = true) :
    e.2.1 = (Pl.pos P it.2 : Int) ∧ e.2.2.1 = (it.2.size : Int) := by
  obtain ⟨h1, h2⟩ := (Tm.hs_iff h he it.1).1 hh
  obtain ⟨s, h3, h4, h5⟩ := h.c1 e he it.1 h1 h2
  have := It.same_id ho h3 hi rfl
  rw [← this]
  exact ⟨h4, h5⟩
theorem Tm.hs_some {L : List Itm} {P : List ByteArray} {E : List Ent} (h : Mg.Inv L P E) {it : Itm} (hi : it ∈ L) : ∃ k, ∃ hk : k < E.length, En.hs (E[k]'hk).1 (E[k]'hk).2.1 (E[k]'hk).2.2.1 (E[k]'hk).2.2.2 it.1 = true := by
  obtain ⟨e, he, h1⟩ := h.c2 it hi
  obtain ⟨k, hk, rfl⟩ := List.getElem_of_mem he
  exact ⟨k, hk, (Tm.hs_iff h he it.1).2 h1⟩
/-- two texts stand at one place just if they are one -/
theorem Tm.same {L : List Itm} {P : List ByteArray} {E : List Ent} (h : Mg.Inv L P E) (ho : It.ok L) {a b : Itm} (ha : a ∈ L) (hb : b ∈ L) : (Pl.pos P a.2 = Pl.pos P b.2 ∧ a.2.size = b.2.size) ↔ a.2 = b.2 := by
  constructor
  · rintro ⟨h1, _⟩
    exact Pl.pos_inj (h.sub a ha) (h.sub b hb) (ho.good a ha).2.1 (ho.good b hb).2.1 h1
  · intro e
    rw [e]
    exact ⟨rfl, rfl⟩
end Go.Proofs.YtlfahmdndlmhpaaGreatDoor
namespace Go.Proofs.YtlfahmdndlmhpaaGreatDoor
open Go.RowKit

/-- the one item of the statement's last part -/
def It.x : Itm := (0, ⟨#[120]⟩)
theorem item_neq (w : World) : (binOp .neq 45 (.agg #[.int .u64 0, .string ⟨#[120]⟩]) (.agg #[.int .u64 0, .string ⟨#[120]⟩])).run Tryz.prog w = .ok (.bool false) w := by kernel_rfl
set_option maxRecDepth 100000 in
theorem equal_one (g g' : Nat) (o o' : Nat) (c c' : Nat) (w : World) (h0 : w.cell? ⟨g, o, none⟩ = some (.int .u64 0)) (h1 : w.cell? ⟨g, o + 1, none⟩ = some (.string ⟨#[120]⟩)) (h2 : w.cell? ⟨g', o', none⟩ = some (.int .u64 0)) (h3 : w.cell? ⟨g', o' + 1, none⟩ = some (.string ⟨#[120]⟩)) :
    Calls Tryz.prog 34 #[.slice (some ⟨g, o, none⟩) 1 c, .slice (some ⟨g', o', none⟩) 1 c'] w fun e w' => e = .returned (.bool true) ∧ Below w.heap.size w w' := by
  have hq := item_neq
  go_enter Tryz.func34, Tryz.ntmps34
  go_wp2_with fail
  refine wp_loop_rounds 2 ?_
  rw [rounds_succ]
  go_wp2_with fail
  go_quiet (fail)
  go_wp2_with fail
  rw [rounds_succ]
  go_wp2_with fail
  go_ret
  exact ⟨rfl, bdraws (Below.refl _ _) _⟩
set_option maxRecDepth 100000 in
theorem same_one (g g' : Nat) (o o' : Nat) (c c' : Nat) (w : World) (h0 : w.cell? ⟨g, o, none⟩ = some (.int .u64 0)) (h1 : w.cell? ⟨g, o + 1, none⟩ = some (.string ⟨#[120]⟩)) (h2 : w.cell? ⟨g', o', none⟩ = some (.int .u64 0)) (h3 : w.cell? ⟨g', o' + 1, none⟩ = some (.string ⟨#[120]⟩)) :
    Calls Tryz.prog 13 #[.agg #[.slice (some ⟨g, o, none⟩) 1 c], .agg #[.slice (some ⟨g', o', none⟩) 1 c']] w fun e w' => e = .returned (.bool true) ∧ Below w.heap.size w w' := by
  have y0 := cell_al (cell_al h0 (.cells #[.slice (some ⟨g, o, none⟩) 1 c] 27)) (.cells #[.slice (some ⟨g', o', none⟩) 1 c'] 27)
  have y1 := cell_al (cell_al h1 (.cells #[.slice (some ⟨g, o, none⟩) 1 c] 27)) (.cells #[.slice (some ⟨g', o', none⟩) 1 c'] 27)
  have y2 := cell_al (cell_al h2 (.cells #[.slice (some ⟨g, o, none⟩) 1 c] 27)) (.cells #[.slice (some ⟨g', o', none⟩) 1 c'] 27)
  have y3 := cell_al (cell_al h3 (.cells #[.slice (some ⟨g, o, none⟩) 1 c] 27)) (.cells #[.slice (some ⟨g', o', none⟩) 1 c'] 27)
  have HE := Lib.hid (equal_one g g' o o' c c' _ y0 y1 y2 y3)
  clear h0 h1 h2 h3 y0 y1 y2 y3
  go_enter Tryz.func13, Tryz.ntmps13
  go_wp2_with fail
  refine HE.out.mono ?_; rintro e w1 ⟨rfl, hb1⟩
  have hw1 : Below w.heap.size w w1 := (by exact (by repeat (first | with_reducible exact Below.refl _ _ | with_reducible assumption | with_reducible refine Below.setCell ?_ (by first | (simp; done) | (simp; omega) | omega) _ | with_reducible refine Below.alloc ?_ (by first | exact Nat.le_refl _ | (simp; done) | (simp; omega) | omega) _ | with_reducible refine Below.drew ?_)) : Below w.heap.size w ((w.alloc (.cells #[.slice (some ⟨g, o, none⟩) 1 c] 27)).alloc (.cells #[.slice (some ⟨g', o', none⟩) 1 c'] 27))).trans (hb1.mono (by simp; omega))
  clear hb1
  go_wp2_with fail
  go_ret
  exact ⟨rfl, hw1⟩
end Go.Proofs.YtlfahmdndlmhpaaGreatDoor
namespace Go.Proofs.YtlfahmdndlmhpaaGreatDoor
open Go.RowKit

set_option maxRecDepth 100000 in
theorem mwrong_one (w : World) : Calls Tryz.prog 69 #[.agg #[.int .u64 0, .int .u64 0, .int .u32 1, .int .u32 1], .int .u64 1, .string ⟨#[120]⟩] w fun e w' => e = .returned (.int .i64 0) ∧ Below w.heap.size w w' := by
  have HA := blk_cells4 (heap_alloc_new w (.cells #[.int .u64 0, .int .u64 0, .int .u32 1, .int .u32 1] 43))
  obtain ⟨a0, a1, a2, a3⟩ := HA
  go_enter Tryz.func69, Tryz.ntmps69
  go_wp2_with fail
  go_ret
  exact ⟨rfl, (by repeat (first | with_reducible exact Below.refl _ _ | with_reducible assumption | with_reducible refine Below.setCell ?_ (by first | (simp; done) | (simp; omega) | omega) _ | with_reducible refine Below.alloc ?_ (by first | exact Nat.le_refl _ | (simp; done) | (simp; omega) | omega) _ | with_reducible refine Below.drew ?_))⟩
end Go.Proofs.YtlfahmdndlmhpaaGreatDoor
