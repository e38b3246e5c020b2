/- What the statement's loops ask of one item: plain. The walk of a directory's set. -/
import Derived.Test.YtlfahmdndlmhpaaGreatDoorM29
import Derived.Test.YtlfahmdndlmhpaaGreatDoorM28
import Derived.Test.YtlfahmdndlmhpaaGreatDoorM09
import Derived.Test.YtlfahmdndlmhpaaGreatDoorM14
namespace Go.Proofs.YtlfahmdndlmhpaaGreatDoor
open Go.RowKit

theorem Dr.getd (E : List Ent) (j : Nat) (hj : j < E.length) : E.getD j Dr.z = E[j]'hj := by rw [List.getD_eq_getElem?_getD, List.getElem?_eq_getElem hj]; rfl
theorem Tm.pick {M : List Itm} {P : List ByteArray} {E : List Ent} (h : Mg.Inv M P E) (ho : It.ok M) (i : Nat) (hi : i < M.length) :
    ∃ (n : Nat) (hn : n < E.length), Tm.last E (M[i]'hi).1 E.length = (n : Int) ∧ (E[n]'hn).2.1 = (Pl.pos P (M[i]'hi).2 : Int) ∧ (E[n]'hn).2.2.1 = ((M[i]'hi).2.size : Int) := by
  obtain ⟨k, hk, h1⟩ := Tm.hs_some h (List.getElem_mem hi)
  have h2 := Tm.last_some E (M[i]'hi).1 E.length k hk (by rw [Dr.getd E k hk]; exact h1)
  have h3 := Tm.last_bd E (M[i]'hi).1 E.length
  have h4 := Tm.last_hs E _ _ h2
  have hn : (Tm.last E (M[i]'hi).1 E.length).toNat < E.length := by omega
  rw [Dr.getd E _ hn] at h4
  have h5 := Tm.hs_at h ho.rise (List.getElem_mem hn) (List.getElem_mem hi) h4
  exact ⟨_, hn, by omega, h5.1, h5.2⟩
theorem Tm.last_yes (E : List Ent) (id : Int) (k : Nat) (hk : k < E.length) (h : En.hs (E[k]'hk).1 (E[k]'hk).2.1 (E[k]'hk).2.2.1 (E[k]'hk).2.2.2 id = true) : Tm.last E id (k + 1) = (k : Int) := by
  rw [Tm.last, Dr.getd E k hk, if_pos h]
theorem Tm.last_no (E : List Ent) (id : Int) (k : Nat) (hk : k < E.length) (h : En.hs (E[k]'hk).1 (E[k]'hk).2.1 (E[k]'hk).2.2.1 (E[k]'hk).2.2.2 id = false) : Tm.last E id (k + 1) = Tm.last E id k := by
  rw [Tm.last, Dr.getd E k hk, if_neg (by rw [h]; decide)]
theorem Tm.at_same {M : List Itm} {P : List ByteArray} {E T : List Ent} {i k : Nat} {e : Ent} (h : Mg.Inv M P E) (ho : It.ok M) (hT : Tm.At M P T i) (hi : i < M.length) (hk : k < i) (he : e.2.1 = (Pl.pos P (M[i]'hi).2 : Int) ∧ e.2.2.1 = ((M[i]'hi).2.size : Int)) :
    ∃ hk' : k < T.length, ((M[k]'(by omega)).2 = (M[i]'hi).2 → (T[k]'hk').2.1 = e.2.1 ∧ (T[k]'hk').2.2.1 = e.2.2.1) ∧ ((M[k]'(by omega)).2 ≠ (M[i]'hi).2 → (T[k]'hk').2.1 ≠ e.2.1) := by
  have hk' : k < T.length := by rw [hT.len]; exact hk
  obtain ⟨h1, h2⟩ := hT.at_ k hk' (by omega)
  refine ⟨hk', fun q => ?_, fun q c => q ?_⟩
  · rw [h1, h2, he.1, he.2, q]; exact ⟨rfl, rfl⟩
  · rw [h1, he.1] at c
    exact Pl.pos_inj (h.sub _ (List.getElem_mem _)) (h.sub _ (List.getElem_mem hi)) (ho.good _ (List.getElem_mem _)).2.1 (ho.good _ (List.getElem_mem hi)).2.1 (by omega)
theorem Tm.fst_yes (L : List Itm) (t : ByteArray) (k : Nat) (hk : k < L.length) (h : (L[k]'hk).2 ≠ t) : Tm.fst L t (k + 1) = Tm.fst L t k := by
  have hg : L.getD k (0, ⟨#[]⟩) = L[k]'hk := by rw [List.getD_eq_getElem?_getD, List.getElem?_eq_getElem hk]; rfl
  rw [Tm.fst, hg, decide_eq_false h]; simp
theorem Tm.fst_no (L : List Itm) (t : ByteArray) (k : Nat) (hk : k < L.length) (h : (L[k]'hk).2 = t) : Tm.fst L t (k + 1) = false := by
  have hg : L.getD k (0, ⟨#[]⟩) = L[k]'hk := by rw [List.getD_eq_getElem?_getD, List.getElem?_eq_getElem hk]; rfl
  rw [Tm.fst, hg, decide_eq_true h]; simp
theorem Tm.tot_first (L : List Itm) (i : Nat) (hi : i < L.length) (h : Tm.fst L (L[i]'hi).2 i = true) : Tm.tot L (i + 1) = Tm.tot L i + (L[i]'hi).2.size := by
  rw [Tm.tot_step L i hi, if_neg ((Tm.fst_iff L (L[i]'hi).2 i (by omega)).1 h)]
theorem Tm.tot_again (L : List Itm) (i : Nat) (hi : i < L.length) (h : Tm.fst L (L[i]'hi).2 i = false) : Tm.tot L (i + 1) = Tm.tot L i := by
  rw [Tm.tot_step L i hi, if_pos]
  refine Classical.byContradiction fun q => ?_
  rw [(Tm.fst_iff L (L[i]'hi).2 i (by omega)).2 q] at h
  cases h
end Go.Proofs.YtlfahmdndlmhpaaGreatDoor
namespace Go.Proofs.YtlfahmdndlmhpaaGreatDoor
open Go.RowKit

def SetP (g : Nat) (cur : Array Value) (w w' : World) : Prop := w.grownBy w' (some g) ∧ w'.heap[g]? = some (.cells cur 43 (0, 0))
def SetPost (g : Nat) (cur : Array Value) (w : World) (x : Ending) (w' : World) : Prop := x = .returned (.int .i64 0) ∧ SetP g cur w w'
def Dr.fld (c : Nat) : Nat := if c = 0 then 0 else if c = 1 then 3 else if c = 2 then 2 else 1
def Dr.new (c : Nat) (a : Ent) (x : Int) : Value := if c = 0 then .int .u64 (a.1 + x) else if c = 1 then .int .u32 x else if c = 2 then .int .u32 x else .int .u64 (if x = 0 then a.2.1 + a.2.2.1 else x - 1)
def Dr.okx (c i : Nat) (a : Ent) (x : Int) : Prop := 0 ≤ x ∧ x < 18446744073709551616 ∧ (c = 0 → a.1 + x < 18446744073709551616) ∧ (c = 1 → x < 4294967296) ∧ (c = 2 → x < 4294967296) ∧ (c = 3 → (x = 0 → 0 < i) ∧ (0 < x → 0 < i → x - 1 ≠ a.2.1 + a.2.2.1))
theorem gr_alloc_set {w : World} {o : Obj} {g i : Nat} {v : Value} : w.grownBy ((w.setCell ⟨g, i, none⟩ v).alloc o) (some g) := gr_trans (gr_set w g i v) (gr_new _ _ _)
theorem gr_drew {w W : World} {row : Option Nat} (h : w.grownBy W row) : w.grownBy W.drew row := ⟨h.os, h.tape, h.output, h.size, h.block⟩
theorem set_twice {cur : Array Value} {k : Nat} {u v : Value} : (cur.setIfInBounds k u).setIfInBounds k v = cur.setIfInBounds k v := by
  simp
section
variable (i g off : Nat) (ai ao al ar x : Int) (cur : Array Value) (v0 v1 v2 v3 : Value) (w : World)
set_option maxHeartbeats 2000000 in
theorem set0_any (ha : En.fit ai ao al ar) (hg : w.heap[g]? = some (.cells cur 43 (0, 0))) (h0 : cur[off]? = some v0) (h1 : cur[off + 1]? = some v1) (h2 : cur[off + 2]? = some v2) (h3 : cur[off + 3]? = some v3) (hx : 0 ≤ x) (hx1 : x < 18446744073709551616) (hs : ai + x < 18446744073709551616) : Calls Tryz.prog 62 #[.int .i64 0, .int .i64 i, .agg #[.int .u64 ai, .int .u64 ao, .int .u32 al, .int .u32 ar], .pointer (some ⟨g, off, none⟩), .int .u64 x] w (SetPost g (cur.setIfInBounds (off) (.int .u64 (ai + x))) w) := by
  have HG := Lib.hid hg
  have HFIT := Lib.hid ha
  have hlt := blk_lt hg
  obtain ⟨⟨ai0, ai1⟩, ⟨ao0, ao1⟩, ⟨al0, al1⟩, ar0, ar1⟩ := ha
  have c0 : w.cell? ⟨g, off, none⟩ = some v0 := (cell_of_row w g off _ _ _ hg).trans h0
  have c1 : w.cell? ⟨g, off + 1, none⟩ = some v1 := (cell_of_row w g (off + 1) _ _ _ hg).trans h1
  have c2 : w.cell? ⟨g, off + 2, none⟩ = some v2 := (cell_of_row w g (off + 2) _ _ _ hg).trans h2
  have c3 : w.cell? ⟨g, off + 3, none⟩ = some v3 := (cell_of_row w g (off + 3) _ _ _ hg).trans h3
  have f0 : w.frozen? ⟨g, off, none⟩ = false := by simp [World.frozen?, hg]
  have f1 : w.frozen? ⟨g, off + 1, none⟩ = false := by simp [World.frozen?, hg]
  have f2 : w.frozen? ⟨g, off + 2, none⟩ = false := by simp [World.frozen?, hg]
  have f3 : w.frozen? ⟨g, off + 3, none⟩ = false := by simp [World.frozen?, hg]
  clear hg h0 h1 h2 h3
  have hn : ¬ ai + x < x := by omega
  go_enter Tryz.func62, Tryz.ntmps62
  go_wp2_with fail
  go_ret
  exact ⟨rfl, gr_alloc_set, blk_alloc (set_blk HG.out) _⟩
set_option maxHeartbeats 2000000 in
theorem set1_any (ha : En.fit ai ao al ar) (hg : w.heap[g]? = some (.cells cur 43 (0, 0))) (h0 : cur[off]? = some v0) (h1 : cur[off + 1]? = some v1) (h2 : cur[off + 2]? = some v2) (h3 : cur[off + 3]? = some v3) (hx : 0 ≤ x) (hx1 : x < 18446744073709551616) (hs : x < 4294967296) : Calls Tryz.prog 62 #[.int .i64 1, .int .i64 i, .agg #[.int .u64 ai, .int .u64 ao, .int .u32 al, .int .u32 ar], .pointer (some ⟨g, off, none⟩), .int .u64 x] w (SetPost g (cur.setIfInBounds (off + 3) (.int .u32 x)) w) := by
  have HG := Lib.hid hg
  have HFIT := Lib.hid ha
  have hlt := blk_lt hg
  obtain ⟨⟨ai0, ai1⟩, ⟨ao0, ao1⟩, ⟨al0, al1⟩, ar0, ar1⟩ := ha
  have c0 : w.cell? ⟨g, off, none⟩ = some v0 := (cell_of_row w g off _ _ _ hg).trans h0
  have c1 : w.cell? ⟨g, off + 1, none⟩ = some v1 := (cell_of_row w g (off + 1) _ _ _ hg).trans h1
  have c2 : w.cell? ⟨g, off + 2, none⟩ = some v2 := (cell_of_row w g (off + 2) _ _ _ hg).trans h2
  have c3 : w.cell? ⟨g, off + 3, none⟩ = some v3 := (cell_of_row w g (off + 3) _ _ _ hg).trans h3
  have f0 : w.frozen? ⟨g, off, none⟩ = false := by simp [World.frozen?, hg]
  have f1 : w.frozen? ⟨g, off + 1, none⟩ = false := by simp [World.frozen?, hg]
  have f2 : w.frozen? ⟨g, off + 2, none⟩ = false := by simp [World.frozen?, hg]
  have f3 : w.frozen? ⟨g, off + 3, none⟩ = false := by simp [World.frozen?, hg]
  clear hg h0 h1 h2 h3
  go_enter Tryz.func62, Tryz.ntmps62
  go_wp2_with fail
  go_ret
  exact ⟨rfl, gr_alloc_set, blk_alloc (set_blk HG.out) _⟩
set_option maxHeartbeats 2000000 in
theorem set2_any (ha : En.fit ai ao al ar) (hg : w.heap[g]? = some (.cells cur 43 (0, 0))) (h0 : cur[off]? = some v0) (h1 : cur[off + 1]? = some v1) (h2 : cur[off + 2]? = some v2) (h3 : cur[off + 3]? = some v3) (hx : 0 ≤ x) (hx1 : x < 18446744073709551616) (hs : x < 4294967296) : Calls Tryz.prog 62 #[.int .i64 2, .int .i64 i, .agg #[.int .u64 ai, .int .u64 ao, .int .u32 al, .int .u32 ar], .pointer (some ⟨g, off, none⟩), .int .u64 x] w (SetPost g (cur.setIfInBounds (off + 2) (.int .u32 x)) w) := by
  have HG := Lib.hid hg
  have HFIT := Lib.hid ha
  have hlt := blk_lt hg
  obtain ⟨⟨ai0, ai1⟩, ⟨ao0, ao1⟩, ⟨al0, al1⟩, ar0, ar1⟩ := ha
  have c0 : w.cell? ⟨g, off, none⟩ = some v0 := (cell_of_row w g off _ _ _ hg).trans h0
  have c1 : w.cell? ⟨g, off + 1, none⟩ = some v1 := (cell_of_row w g (off + 1) _ _ _ hg).trans h1
  have c2 : w.cell? ⟨g, off + 2, none⟩ = some v2 := (cell_of_row w g (off + 2) _ _ _ hg).trans h2
  have c3 : w.cell? ⟨g, off + 3, none⟩ = some v3 := (cell_of_row w g (off + 3) _ _ _ hg).trans h3
  have f0 : w.frozen? ⟨g, off, none⟩ = false := by simp [World.frozen?, hg]
  have f1 : w.frozen? ⟨g, off + 1, none⟩ = false := by simp [World.frozen?, hg]
  have f2 : w.frozen? ⟨g, off + 2, none⟩ = false := by simp [World.frozen?, hg]
  have f3 : w.frozen? ⟨g, off + 3, none⟩ = false := by simp [World.frozen?, hg]
  clear hg h0 h1 h2 h3
  go_enter Tryz.func62, Tryz.ntmps62
  go_wp2_with fail
  go_ret
  exact ⟨rfl, gr_alloc_set, blk_alloc (set_blk HG.out) _⟩
set_option maxHeartbeats 2000000 in
theorem set3a_any (ha : En.fit ai ao al ar) (hg : w.heap[g]? = some (.cells cur 43 (0, 0))) (h0 : cur[off]? = some v0) (h1 : cur[off + 1]? = some v1) (h2 : cur[off + 2]? = some v2) (h3 : cur[off + 3]? = some v3) (hx : 0 ≤ x) (hx1 : x < 18446744073709551616) (hp : 0 < x) : Calls Tryz.prog 62 #[.int .i64 3, .int .i64 0, .agg #[.int .u64 ai, .int .u64 ao, .int .u32 al, .int .u32 ar], .pointer (some ⟨g, off, none⟩), .int .u64 x] w (SetPost g (cur.setIfInBounds (off + 1) (.int .u64 (x - 1))) w) := by
  have HG := Lib.hid hg
  have HFIT := Lib.hid ha
  have hlt := blk_lt hg
  obtain ⟨⟨ai0, ai1⟩, ⟨ao0, ao1⟩, ⟨al0, al1⟩, ar0, ar1⟩ := ha
  have c0 : w.cell? ⟨g, off, none⟩ = some v0 := (cell_of_row w g off _ _ _ hg).trans h0
  have c1 : w.cell? ⟨g, off + 1, none⟩ = some v1 := (cell_of_row w g (off + 1) _ _ _ hg).trans h1
  have c2 : w.cell? ⟨g, off + 2, none⟩ = some v2 := (cell_of_row w g (off + 2) _ _ _ hg).trans h2
  have c3 : w.cell? ⟨g, off + 3, none⟩ = some v3 := (cell_of_row w g (off + 3) _ _ _ hg).trans h3
  have f0 : w.frozen? ⟨g, off, none⟩ = false := by simp [World.frozen?, hg]
  have f1 : w.frozen? ⟨g, off + 1, none⟩ = false := by simp [World.frozen?, hg]
  have f2 : w.frozen? ⟨g, off + 2, none⟩ = false := by simp [World.frozen?, hg]
  have f3 : w.frozen? ⟨g, off + 3, none⟩ = false := by simp [World.frozen?, hg]
  clear hg h0 h1 h2 h3
  have hu := u64w (a := x - 1) (by omega) (by omega)
  have hq : (x == 0) = false := by rw [beq_eq_false_iff_ne]; omega
  go_enter Tryz.func62, Tryz.ntmps62
  go_wp2_with fail
  obtain ⟨W, hW⟩ : ∃ W, W = ((w.setCell ⟨g, off + 1, none⟩ (.int .u64 (x - 1))).alloc (.cells #[.int .u64 ai, .int .u64 ao, .int .u32 al, .int .u32 ar] 43)) := ⟨_, rfl⟩
  have HA : Hid (W.heap[w.heap.size]? = some (.cells #[.int .u64 ai, .int .u64 ao, .int .u32 al, .int .u32 ar] 43 (0, 0))) := Lib.hid (by rw [hW]; exact heap_at (by simp))
  have HB : Hid (W.heap[g]? = some (.cells (cur.setIfInBounds (off + 1) (.int .u64 (x - 1))) 43 (0, 0))) := Lib.hid (by rw [hW]; exact blk_alloc (set_blk HG.out) _)
  have HW : Hid (w.grownBy W (some g)) := Lib.hid (by rw [hW]; exact gr_alloc_set)
  have HC : Hid ((cur.setIfInBounds (off + 1) (.int .u64 (x - 1)))[off + 1]? = some (.int .u64 (x - 1))) := Lib.hid (by rw [Array.getElem?_setIfInBounds_self_of_lt]; have := cell_of_row w g (off + 1) _ _ _ HG.out; rw [c1] at this; exact (Array.getElem?_eq_some_iff.1 this.symm).1)
  rw [← hW]
  clear hW c0 c1 c2 c3 f0 f1 f2 f3
  obtain ⟨a0, a1, a2, a3⟩ := blk_cells4 HA.out
  have b1 : W.cell? ⟨g, off + 1, none⟩ = some (.int .u64 (x - 1)) := (cell_of_row W g (off + 1) _ _ _ HB.out).trans HC.out
  refine wp_region_held_drew (S := (fun w' => ((w'.cell? ⟨w.heap.size, 0, none⟩ = some (.int .u64 ai) ∧ w'.cell? ⟨w.heap.size, 1, none⟩ = some (.int .u64 ao) ∧ w'.cell? ⟨w.heap.size, 2, none⟩ = some (.int .u32 al) ∧ w'.cell? ⟨w.heap.size, 3, none⟩ = some (.int .u32 ar)) ∧ w'.cell? ⟨g, off + 1, none⟩ = some (.int .u64 (x - 1))))) (by kernel_rfl) (by (try dsimp only); exact ⟨⟨a0, a1, a2, a3⟩, b1⟩) (fun hHeld => ?_)
  simp only [List.size_toArray, List.length_cons, List.length_nil, Nat.zero_add, Nat.reduceAdd]
  refine held_take (i := 0) (v := ?_) rfl (by kernel_rfl) (by kernel_rfl) (by kernel_rfl) (fun _ _ _ h => h) (by rfl) ?_ (by assumption) ?_
  rotate_left
  · intro w hSw
    (try dsimp only at hSw)
    go_simp
    try with_reducible rfl
  try simp only [Act.put, List.setIfInBounds_toArray, List.set_cons_zero, List.set_cons_succ]
  refine held_take (i := 1) (v := ?_) rfl (by kernel_rfl) (by kernel_rfl) (by kernel_rfl) (fun _ _ _ h => h) (by rfl) ?_ (by assumption) ?_
  rotate_left
  · intro w hSw
    (try dsimp only at hSw)
    go_simp
    try with_reducible rfl
  try simp only [Act.put, List.setIfInBounds_toArray, List.set_cons_zero, List.set_cons_succ]
  refine held_take (i := 2) (v := ?_) rfl (by kernel_rfl) (by kernel_rfl) (by kernel_rfl) (fun _ _ _ h => h) (by rfl) ?_ (by assumption) ?_
  rotate_left
  · intro w hSw
    (try dsimp only at hSw)
    go_simp
    try with_reducible rfl
  try simp only [Act.put, List.setIfInBounds_toArray, List.set_cons_zero, List.set_cons_succ]
  refine held_take (i := 3) (v := ?_) rfl (by kernel_rfl) (by kernel_rfl) (by kernel_rfl) (fun _ _ _ h => h) (by rfl) ?_ (by assumption) ?_
  rotate_left
  · intro w hSw
    (try dsimp only at hSw)
    go_simp
    try with_reducible rfl
  try simp only [Act.put, List.setIfInBounds_toArray, List.set_cons_zero, List.set_cons_succ]
  refine held_take (i := 4) (v := ?_) rfl (by kernel_rfl) (by kernel_rfl) (by kernel_rfl) (fun _ _ _ h => h) (by rfl) ?_ (by assumption) ?_
  rotate_left
  · intro w hSw
    (try dsimp only at hSw)
    go_simp
    try with_reducible rfl
  try simp only [Act.put, List.setIfInBounds_toArray, List.set_cons_zero, List.set_cons_succ]
  refine held_take (i := 5) (v := ?_) rfl (by kernel_rfl) (by kernel_rfl) (by kernel_rfl) (fun _ _ _ h => h) (by rfl) ?_ (by assumption) ?_
  rotate_left
  · intro w hSw
    (try dsimp only at hSw)
    go_simp
    try with_reducible rfl
  try simp only [Act.put, List.setIfInBounds_toArray, List.set_cons_zero, List.set_cons_succ]
  refine held_take (i := 6) (v := ?_) rfl (by kernel_rfl) (by kernel_rfl) (by kernel_rfl) (fun _ _ _ h => h) (by rfl) ?_ (by assumption) ?_
  rotate_left
  · intro w hSw
    (try dsimp only at hSw)
    go_simp
    try with_reducible rfl
  try simp only [Act.put, List.setIfInBounds_toArray, List.set_cons_zero, List.set_cons_succ]
  refine held_take (i := 7) (v := ?_) rfl (by kernel_rfl) (by kernel_rfl) (by kernel_rfl) (fun _ _ _ h => h) (by rfl) ?_ (by assumption) ?_
  rotate_left
  · intro w hSw
    (try dsimp only at hSw)
    go_simp
    try with_reducible rfl
  try simp only [Act.put, List.setIfInBounds_toArray, List.set_cons_zero, List.set_cons_succ]
  refine held_take (i := 8) (v := ?_) rfl (by kernel_rfl) (by kernel_rfl) (by kernel_rfl) (fun _ _ _ h => h) (by rfl) ?_ (by assumption) ?_
  rotate_left
  · intro w hSw
    (try dsimp only at hSw)
    go_simp
    try with_reducible rfl
  try simp only [Act.put, List.setIfInBounds_toArray, List.set_cons_zero, List.set_cons_succ]
  refine held_take (i := 9) (v := ?_) rfl (by kernel_rfl) (by kernel_rfl) (by kernel_rfl) (fun _ _ _ h => h) (by rfl) ?_ (by assumption) ?_
  rotate_left
  · intro w hSw
    (try dsimp only at hSw)
    go_simp
    try with_reducible rfl
  try simp only [Act.put, List.setIfInBounds_toArray, List.set_cons_zero, List.set_cons_succ]
  refine held_skip (i := 10) rfl (by kernel_rfl) (by kernel_rfl) (by kernel_rfl) (fun _ _ _ h => h) (by rfl) (by assumption) ?_
  try simp only [Act.put, List.setIfInBounds_toArray, List.set_cons_zero, List.set_cons_succ]
  refine held_skip (i := 11) rfl (by kernel_rfl) (by kernel_rfl) (by kernel_rfl) (fun _ _ _ h => h) (by rfl) (by assumption) ?_
  try simp only [Act.put, List.setIfInBounds_toArray, List.set_cons_zero, List.set_cons_succ]
  refine held_take (i := 12) (v := ?_) rfl (by kernel_rfl) (by kernel_rfl) (by kernel_rfl) (fun _ _ _ h => h) (by rfl) ?_ (by assumption) ?_
  rotate_left
  · intro w hSw
    (try dsimp only at hSw)
    go_simp
    try with_reducible rfl
  try simp only [Act.put, List.setIfInBounds_toArray, List.set_cons_zero, List.set_cons_succ]
  refine held_take (i := 13) (v := ?_) rfl (by kernel_rfl) (by kernel_rfl) (by kernel_rfl) (fun _ _ _ h => h) (by rfl) ?_ (by assumption) ?_
  rotate_left
  · intro w hSw
    (try dsimp only at hSw)
    go_simp
    try with_reducible rfl
  try simp only [Act.put, List.setIfInBounds_toArray, List.set_cons_zero, List.set_cons_succ]
  refine held_skip (i := 14) rfl (by kernel_rfl) (by kernel_rfl) (by kernel_rfl) (fun _ _ _ h => h) (by rfl) (by assumption) ?_
  try simp only [Act.put, List.setIfInBounds_toArray, List.set_cons_zero, List.set_cons_succ]
  refine held_skip (i := 15) rfl (by kernel_rfl) (by kernel_rfl) (by kernel_rfl) (fun _ _ _ h => h) (by rfl) (by assumption) ?_
  try simp only [Act.put, List.setIfInBounds_toArray, List.set_cons_zero, List.set_cons_succ]
  refine held_skip (i := 16) rfl (by kernel_rfl) (by kernel_rfl) (by kernel_rfl) (fun _ _ _ h => h) (by rfl) (by assumption) ?_
  try simp only [Act.put, List.setIfInBounds_toArray, List.set_cons_zero, List.set_cons_succ]
  refine held_skip (i := 17) rfl (by kernel_rfl) (by kernel_rfl) (by kernel_rfl) (fun _ _ _ h => h) (by rfl) (by assumption) ?_
  try simp only [Act.put, List.setIfInBounds_toArray, List.set_cons_zero, List.set_cons_succ]
  refine held_skip (i := 18) rfl (by kernel_rfl) (by kernel_rfl) (by kernel_rfl) (fun _ _ _ h => h) (by rfl) (by assumption) ?_
  try simp only [Act.put, List.setIfInBounds_toArray, List.set_cons_zero, List.set_cons_succ]
  refine held_skip (i := 19) rfl (by kernel_rfl) (by kernel_rfl) (by kernel_rfl) (fun _ _ _ h => h) (by rfl) (by assumption) ?_
  try simp only [Act.put, List.setIfInBounds_toArray, List.set_cons_zero, List.set_cons_succ]
  refine held_skip (i := 20) rfl (by kernel_rfl) (by kernel_rfl) (by kernel_rfl) (fun _ _ _ h => h) (by rfl) (by assumption) ?_
  try simp only [Act.put, List.setIfInBounds_toArray, List.set_cons_zero, List.set_cons_succ]
  refine held_take (i := 21) (v := ?_) rfl (by kernel_rfl) (by kernel_rfl) (by kernel_rfl) (fun _ _ _ h => h) (by rfl) ?_ (by assumption) ?_
  rotate_left
  · intro w hSw
    (try dsimp only at hSw)
    go_simp
    try with_reducible rfl
  try simp only [Act.put, List.setIfInBounds_toArray, List.set_cons_zero, List.set_cons_succ]
  refine held_take (i := 22) (v := ?_) rfl (by kernel_rfl) (by kernel_rfl) (by kernel_rfl) (fun _ _ _ h => h) (by rfl) ?_ (by assumption) ?_
  rotate_left
  · intro w hSw
    (try dsimp only at hSw)
    go_simp
    try with_reducible rfl
  try simp only [Act.put, List.setIfInBounds_toArray, List.set_cons_zero, List.set_cons_succ]
  refine wpAnyH_done (by kernel_rfl) ?_ _
  go_wp2_with fail
  go_ret
  exact ⟨rfl, gr_drew HW.out, HB.out⟩
set_option maxHeartbeats 2000000 in
theorem set3c_any (ha : En.fit ai ao al ar) (hg : w.heap[g]? = some (.cells cur 43 (0, 0))) (h0 : cur[off]? = some v0) (h1 : cur[off + 1]? = some v1) (h2 : cur[off + 2]? = some v2) (h3 : cur[off + 3]? = some v3) (hx : 0 ≤ x) (hx1 : x < 18446744073709551616) (h0i : 0 < i) (hi : i ≤ 100000) (has : ao + al ≤ 1099511627776) (hp : 0 < x) (hne : x - 1 ≠ ao + al) : Calls Tryz.prog 62 #[.int .i64 3, .int .i64 i, .agg #[.int .u64 ai, .int .u64 ao, .int .u32 al, .int .u32 ar], .pointer (some ⟨g, off, none⟩), .int .u64 x] w (SetPost g (cur.setIfInBounds (off + 1) (.int .u64 (x - 1))) w) := by
  have HG := Lib.hid hg
  have HFIT := Lib.hid ha
  have hlt := blk_lt hg
  obtain ⟨⟨ai0, ai1⟩, ⟨ao0, ao1⟩, ⟨al0, al1⟩, ar0, ar1⟩ := ha
  have c0 : w.cell? ⟨g, off, none⟩ = some v0 := (cell_of_row w g off _ _ _ hg).trans h0
  have c1 : w.cell? ⟨g, off + 1, none⟩ = some v1 := (cell_of_row w g (off + 1) _ _ _ hg).trans h1
  have c2 : w.cell? ⟨g, off + 2, none⟩ = some v2 := (cell_of_row w g (off + 2) _ _ _ hg).trans h2
  have c3 : w.cell? ⟨g, off + 3, none⟩ = some v3 := (cell_of_row w g (off + 3) _ _ _ hg).trans h3
  have f0 : w.frozen? ⟨g, off, none⟩ = false := by simp [World.frozen?, hg]
  have f1 : w.frozen? ⟨g, off + 1, none⟩ = false := by simp [World.frozen?, hg]
  have f2 : w.frozen? ⟨g, off + 2, none⟩ = false := by simp [World.frozen?, hg]
  have f3 : w.frozen? ⟨g, off + 3, none⟩ = false := by simp [World.frozen?, hg]
  clear hg h0 h1 h2 h3
  have hu := u64w (a := x - 1) (by omega) (by omega)
  have hq : (x == 0) = false := by rw [beq_eq_false_iff_ne]; omega
  have hqi : ((i : Int) == 0) = false := by rw [beq_eq_false_iff_ne]; omega
  have hdi : decide ((0 : Int) < (i : Int)) = true := decide_eq_true (by omega)
  have hdx : decide (0 < x) = true := decide_eq_true hp
  have hnb : (x - 1 == ao + al) = false := by rw [beq_eq_false_iff_ne]; exact hne
  go_enter Tryz.func62, Tryz.ntmps62
  go_wp2_with fail
  obtain ⟨W, hW⟩ : ∃ W, W = ((w.setCell ⟨g, off + 1, none⟩ (.int .u64 (x - 1))).alloc (.cells #[.int .u64 ai, .int .u64 ao, .int .u32 al, .int .u32 ar] 43)) := ⟨_, rfl⟩
  have HA : Hid (W.heap[w.heap.size]? = some (.cells #[.int .u64 ai, .int .u64 ao, .int .u32 al, .int .u32 ar] 43 (0, 0))) := Lib.hid (by rw [hW]; exact heap_at (by simp))
  have HB : Hid (W.heap[g]? = some (.cells (cur.setIfInBounds (off + 1) (.int .u64 (x - 1))) 43 (0, 0))) := Lib.hid (by rw [hW]; exact blk_alloc (set_blk HG.out) _)
  have HW : Hid (w.grownBy W (some g)) := Lib.hid (by rw [hW]; exact gr_alloc_set)
  have HC : Hid ((cur.setIfInBounds (off + 1) (.int .u64 (x - 1)))[off + 1]? = some (.int .u64 (x - 1))) := Lib.hid (by rw [Array.getElem?_setIfInBounds_self_of_lt]; have := cell_of_row w g (off + 1) _ _ _ HG.out; rw [c1] at this; exact (Array.getElem?_eq_some_iff.1 this.symm).1)
  rw [← hW]
  clear hW c0 c1 c2 c3 f0 f1 f2 f3
  obtain ⟨a0, a1, a2, a3⟩ := blk_cells4 HA.out
  have b1 : W.cell? ⟨g, off + 1, none⟩ = some (.int .u64 (x - 1)) := (cell_of_row W g (off + 1) _ _ _ HB.out).trans HC.out
  refine wp_region_held_drew (S := (fun w' => ((w'.cell? ⟨w.heap.size, 0, none⟩ = some (.int .u64 ai) ∧ w'.cell? ⟨w.heap.size, 1, none⟩ = some (.int .u64 ao) ∧ w'.cell? ⟨w.heap.size, 2, none⟩ = some (.int .u32 al) ∧ w'.cell? ⟨w.heap.size, 3, none⟩ = some (.int .u32 ar)) ∧ w'.cell? ⟨g, off + 1, none⟩ = some (.int .u64 (x - 1))))) (by kernel_rfl) (by (try dsimp only); exact ⟨⟨a0, a1, a2, a3⟩, b1⟩) (fun hHeld => ?_)
  simp only [List.size_toArray, List.length_cons, List.length_nil, Nat.zero_add, Nat.reduceAdd]
  refine held_take (i := 0) (v := ?_) rfl (by kernel_rfl) (by kernel_rfl) (by kernel_rfl) (fun _ _ _ h => h) (by rfl) ?_ (by assumption) ?_
  rotate_left
  · intro w hSw
    (try dsimp only at hSw)
    go_simp
    try with_reducible rfl
  try simp only [Act.put, List.setIfInBounds_toArray, List.set_cons_zero, List.set_cons_succ]
  refine held_take (i := 1) (v := ?_) rfl (by kernel_rfl) (by kernel_rfl) (by kernel_rfl) (fun _ _ _ h => h) (by rfl) ?_ (by assumption) ?_
  rotate_left
  · intro w hSw
    (try dsimp only at hSw)
    go_simp
    try with_reducible rfl
  try simp only [Act.put, List.setIfInBounds_toArray, List.set_cons_zero, List.set_cons_succ]
  refine held_take (i := 2) (v := ?_) rfl (by kernel_rfl) (by kernel_rfl) (by kernel_rfl) (fun _ _ _ h => h) (by rfl) ?_ (by assumption) ?_
  rotate_left
  · intro w hSw
    (try dsimp only at hSw)
    go_simp
    try with_reducible rfl
  try simp only [Act.put, List.setIfInBounds_toArray, List.set_cons_zero, List.set_cons_succ]
  refine held_skip (i := 3) rfl (by kernel_rfl) (by kernel_rfl) (by kernel_rfl) (fun _ _ _ h => h) (by rfl) (by assumption) ?_
  try simp only [Act.put, List.setIfInBounds_toArray, List.set_cons_zero, List.set_cons_succ]
  refine held_skip (i := 4) rfl (by kernel_rfl) (by kernel_rfl) (by kernel_rfl) (fun _ _ _ h => h) (by rfl) (by assumption) ?_
  try simp only [Act.put, List.setIfInBounds_toArray, List.set_cons_zero, List.set_cons_succ]
  refine held_take (i := 5) (v := ?_) rfl (by kernel_rfl) (by kernel_rfl) (by kernel_rfl) (fun _ _ _ h => h) (by rfl) ?_ (by assumption) ?_
  rotate_left
  · intro w hSw
    (try dsimp only at hSw)
    go_simp
    try with_reducible rfl
  try simp only [Act.put, List.setIfInBounds_toArray, List.set_cons_zero, List.set_cons_succ]
  refine held_take (i := 6) (v := ?_) rfl (by kernel_rfl) (by kernel_rfl) (by kernel_rfl) (fun _ _ _ h => h) (by rfl) ?_ (by assumption) ?_
  rotate_left
  · intro w hSw
    (try dsimp only at hSw)
    go_simp
    try with_reducible rfl
  try simp only [Act.put, List.setIfInBounds_toArray, List.set_cons_zero, List.set_cons_succ]
  refine held_take (i := 7) (v := ?_) rfl (by kernel_rfl) (by kernel_rfl) (by kernel_rfl) (fun _ _ _ h => h) (by rfl) ?_ (by assumption) ?_
  rotate_left
  · intro w hSw
    (try dsimp only at hSw)
    go_simp
    try with_reducible rfl
  try simp only [Act.put, List.setIfInBounds_toArray, List.set_cons_zero, List.set_cons_succ]
  refine held_take (i := 8) (v := ?_) rfl (by kernel_rfl) (by kernel_rfl) (by kernel_rfl) (fun _ _ _ h => h) (by rfl) ?_ (by assumption) ?_
  rotate_left
  · intro w hSw
    (try dsimp only at hSw)
    go_simp
    try with_reducible rfl
  try simp only [Act.put, List.setIfInBounds_toArray, List.set_cons_zero, List.set_cons_succ]
  refine held_take (i := 9) (v := ?_) rfl (by kernel_rfl) (by kernel_rfl) (by kernel_rfl) (fun _ _ _ h => h) (by rfl) ?_ (by assumption) ?_
  rotate_left
  · intro w hSw
    (try dsimp only at hSw)
    go_simp
    try with_reducible rfl
  try simp only [Act.put, List.setIfInBounds_toArray, List.set_cons_zero, List.set_cons_succ]
  refine held_take (i := 10) (v := ?_) rfl (by kernel_rfl) (by kernel_rfl) (by kernel_rfl) (fun _ _ _ h => h) (by rfl) ?_ (by assumption) ?_
  rotate_left
  · intro w hSw
    (try dsimp only at hSw)
    go_simp
    try with_reducible rfl
  try simp only [Act.put, List.setIfInBounds_toArray, List.set_cons_zero, List.set_cons_succ]
  refine held_take (i := 11) (v := ?_) rfl (by kernel_rfl) (by kernel_rfl) (by kernel_rfl) (fun _ _ _ h => h) (by rfl) ?_ (by assumption) ?_
  rotate_left
  · intro w hSw
    (try dsimp only at hSw)
    go_simp
    try with_reducible rfl
  try simp only [Act.put, List.setIfInBounds_toArray, List.set_cons_zero, List.set_cons_succ]
  refine held_take (i := 12) (v := ?_) rfl (by kernel_rfl) (by kernel_rfl) (by kernel_rfl) (fun _ _ _ h => h) (by rfl) ?_ (by assumption) ?_
  rotate_left
  · intro w hSw
    (try dsimp only at hSw)
    go_simp
    try with_reducible rfl
  try simp only [Act.put, List.setIfInBounds_toArray, List.set_cons_zero, List.set_cons_succ]
  refine held_take (i := 13) (v := ?_) rfl (by kernel_rfl) (by kernel_rfl) (by kernel_rfl) (fun _ _ _ h => h) (by rfl) ?_ (by assumption) ?_
  rotate_left
  · intro w hSw
    (try dsimp only at hSw)
    go_simp
    try with_reducible rfl
  try simp only [Act.put, List.setIfInBounds_toArray, List.set_cons_zero, List.set_cons_succ]
  refine held_take (i := 14) (v := ?_) rfl (by kernel_rfl) (by kernel_rfl) (by kernel_rfl) (fun _ _ _ h => h) (by rfl) ?_ (by assumption) ?_
  rotate_left
  · intro w hSw
    (try dsimp only at hSw)
    go_simp
    try with_reducible rfl
  try simp only [Act.put, List.setIfInBounds_toArray, List.set_cons_zero, List.set_cons_succ]
  refine held_take (i := 15) (v := ?_) rfl (by kernel_rfl) (by kernel_rfl) (by kernel_rfl) (fun _ _ _ h => h) (by rfl) ?_ (by assumption) ?_
  rotate_left
  · intro w hSw
    (try dsimp only at hSw)
    go_simp
    try with_reducible rfl
  try simp only [Act.put, List.setIfInBounds_toArray, List.set_cons_zero, List.set_cons_succ]
  refine held_take (i := 16) (v := ?_) rfl (by kernel_rfl) (by kernel_rfl) (by kernel_rfl) (fun _ _ _ h => h) (by rfl) ?_ (by assumption) ?_
  rotate_left
  · intro w hSw
    (try dsimp only at hSw)
    go_simp
    try with_reducible rfl
  try simp only [Act.put, List.setIfInBounds_toArray, List.set_cons_zero, List.set_cons_succ]
  refine held_take (i := 17) (v := ?_) rfl (by kernel_rfl) (by kernel_rfl) (by kernel_rfl) (fun _ _ _ h => h) (by rfl) ?_ (by assumption) ?_
  rotate_left
  · intro w hSw
    (try dsimp only at hSw)
    go_simp
    try with_reducible rfl
  try simp only [Act.put, List.setIfInBounds_toArray, List.set_cons_zero, List.set_cons_succ]
  refine held_take (i := 18) (v := ?_) rfl (by kernel_rfl) (by kernel_rfl) (by kernel_rfl) (fun _ _ _ h => h) (by rfl) ?_ (by assumption) ?_
  rotate_left
  · intro w hSw
    (try dsimp only at hSw)
    go_simp
    try with_reducible rfl
  try simp only [Act.put, List.setIfInBounds_toArray, List.set_cons_zero, List.set_cons_succ]
  refine held_call (i := 19) (by kernel_rfl) rfl (fun K hK => ?_)
  go_simp
  refine (next_any ai ao al ar HFIT.out has _).mono ?_
  rintro y w3 ⟨rfl, hb3⟩
  have HA3 := Lib.hid (blk_keep2 hb3 HA.out)
  have HB3 := Lib.hid (blk_keep2 hb3 HB.out)
  have HW3 := Lib.hid (gr_trans (gr_drew HW.out) (gr_of hb3 (some g)))
  clear hb3 a0 a1 a2 a3 b1
  obtain ⟨a0, a1, a2, a3⟩ := blk_cells4 HA3.out
  have b1 : w3.cell? ⟨g, off + 1, none⟩ = some (.int .u64 (x - 1)) := (cell_of_row w3 g (off + 1) _ _ _ HB3.out).trans HC.out
  refine hK.out _ _ (by (try dsimp only); exact ⟨⟨a0, a1, a2, a3⟩, b1⟩) (fun hHeld => ?_)
  clear hK K
  try simp only [Act.put, List.setIfInBounds_toArray, List.set_cons_zero, List.set_cons_succ]
  refine held_take (i := 20) (v := ?_) rfl (by kernel_rfl) (by kernel_rfl) (by kernel_rfl) (fun _ _ _ h => h) (by rfl) ?_ (by assumption) ?_
  rotate_left
  · intro w hSw
    (try dsimp only at hSw)
    go_simp
    try with_reducible rfl
  try simp only [Act.put, List.setIfInBounds_toArray, List.set_cons_zero, List.set_cons_succ]
  refine held_take (i := 21) (v := ?_) rfl (by kernel_rfl) (by kernel_rfl) (by kernel_rfl) (fun _ _ _ h => h) (by rfl) ?_ (by assumption) ?_
  rotate_left
  · intro w hSw
    (try dsimp only at hSw)
    go_simp
    try with_reducible rfl
  try simp only [Act.put, List.setIfInBounds_toArray, List.set_cons_zero, List.set_cons_succ]
  refine held_take (i := 22) (v := ?_) rfl (by kernel_rfl) (by kernel_rfl) (by kernel_rfl) (fun _ _ _ h => h) (by rfl) ?_ (by assumption) ?_
  rotate_left
  · intro w hSw
    (try dsimp only at hSw)
    go_simp
    try with_reducible rfl
  try simp only [Act.put, List.setIfInBounds_toArray, List.set_cons_zero, List.set_cons_succ]
  refine wpAnyH_done (by kernel_rfl) ?_ _
  go_wp2_with fail
  go_ret
  exact ⟨rfl, HW3.out, HB3.out⟩
set_option maxHeartbeats 2000000 in
theorem set3b_any (ha : En.fit ai ao al ar) (hg : w.heap[g]? = some (.cells cur 43 (0, 0))) (h0 : cur[off]? = some v0) (h1 : cur[off + 1]? = some v1) (h2 : cur[off + 2]? = some v2) (h3 : cur[off + 3]? = some v3)  (h0i : 0 < i) (hi : i ≤ 100000) (has : ao + al ≤ 1099511627776) : Calls Tryz.prog 62 #[.int .i64 3, .int .i64 i, .agg #[.int .u64 ai, .int .u64 ao, .int .u32 al, .int .u32 ar], .pointer (some ⟨g, off, none⟩), .int .u64 0] w (SetPost g (cur.setIfInBounds (off + 1) (.int .u64 (ao + al))) w) := by
  have HG := Lib.hid hg
  have HFIT := Lib.hid ha
  have hlt := blk_lt hg
  obtain ⟨⟨ai0, ai1⟩, ⟨ao0, ao1⟩, ⟨al0, al1⟩, ar0, ar1⟩ := ha
  have c0 : w.cell? ⟨g, off, none⟩ = some v0 := (cell_of_row w g off _ _ _ hg).trans h0
  have c1 : w.cell? ⟨g, off + 1, none⟩ = some v1 := (cell_of_row w g (off + 1) _ _ _ hg).trans h1
  have c2 : w.cell? ⟨g, off + 2, none⟩ = some v2 := (cell_of_row w g (off + 2) _ _ _ hg).trans h2
  have c3 : w.cell? ⟨g, off + 3, none⟩ = some v3 := (cell_of_row w g (off + 3) _ _ _ hg).trans h3
  have f0 : w.frozen? ⟨g, off, none⟩ = false := by simp [World.frozen?, hg]
  have f1 : w.frozen? ⟨g, off + 1, none⟩ = false := by simp [World.frozen?, hg]
  have f2 : w.frozen? ⟨g, off + 2, none⟩ = false := by simp [World.frozen?, hg]
  have f3 : w.frozen? ⟨g, off + 3, none⟩ = false := by simp [World.frozen?, hg]
  clear hg h0 h1 h2 h3
  have hqi : ((i : Int) == 0) = false := by rw [beq_eq_false_iff_ne]; omega
  have hdi : decide ((0 : Int) < (i : Int)) = true := decide_eq_true (by omega)
  go_enter Tryz.func62, Tryz.ntmps62
  go_wp2_with fail
  obtain ⟨W, hW⟩ : ∃ W, W = ((w.setCell ⟨g, off + 1, none⟩ (.int .u64 (IntKind.u64.wrap (-1)))).alloc (.cells #[.int .u64 ai, .int .u64 ao, .int .u32 al, .int .u32 ar] 43)) := ⟨_, rfl⟩
  have HA : Hid (W.heap[w.heap.size]? = some (.cells #[.int .u64 ai, .int .u64 ao, .int .u32 al, .int .u32 ar] 43 (0, 0))) := Lib.hid (by rw [hW]; exact heap_at (by simp))
  have HB : Hid (W.heap[g]? = some (.cells (cur.setIfInBounds (off + 1) (.int .u64 (IntKind.u64.wrap (-1)))) 43 (0, 0))) := Lib.hid (by rw [hW]; exact blk_alloc (set_blk HG.out) _)
  have HW : Hid (w.grownBy W (some g)) := Lib.hid (by rw [hW]; exact gr_alloc_set)
  have HC : Hid ((cur.setIfInBounds (off + 1) (.int .u64 (IntKind.u64.wrap (-1))))[off + 1]? = some (.int .u64 (IntKind.u64.wrap (-1)))) := Lib.hid (by rw [Array.getElem?_setIfInBounds_self_of_lt]; have := cell_of_row w g (off + 1) _ _ _ HG.out; rw [c1] at this; exact (Array.getElem?_eq_some_iff.1 this.symm).1)
  rw [← hW]
  clear hW c0 c1 c2 c3 f0 f1 f2 f3
  obtain ⟨a0, a1, a2, a3⟩ := blk_cells4 HA.out
  have b1 : W.cell? ⟨g, off + 1, none⟩ = some (.int .u64 (IntKind.u64.wrap (-1))) := (cell_of_row W g (off + 1) _ _ _ HB.out).trans HC.out
  refine wp_region_held_drew (S := (fun w' => ((w'.cell? ⟨w.heap.size, 0, none⟩ = some (.int .u64 ai) ∧ w'.cell? ⟨w.heap.size, 1, none⟩ = some (.int .u64 ao) ∧ w'.cell? ⟨w.heap.size, 2, none⟩ = some (.int .u32 al) ∧ w'.cell? ⟨w.heap.size, 3, none⟩ = some (.int .u32 ar)) ∧ w'.cell? ⟨g, off + 1, none⟩ = some (.int .u64 (IntKind.u64.wrap (-1)))))) (by kernel_rfl) (by (try dsimp only); exact ⟨⟨a0, a1, a2, a3⟩, b1⟩) (fun hHeld => ?_)
  simp only [List.size_toArray, List.length_cons, List.length_nil, Nat.zero_add, Nat.reduceAdd]
  refine held_take (i := 0) (v := ?_) rfl (by kernel_rfl) (by kernel_rfl) (by kernel_rfl) (fun _ _ _ h => h) (by rfl) ?_ (by assumption) ?_
  rotate_left
  · intro w hSw
    (try dsimp only at hSw)
    go_simp
    try with_reducible rfl
  try simp only [Act.put, List.setIfInBounds_toArray, List.set_cons_zero, List.set_cons_succ]
  refine held_take (i := 1) (v := ?_) rfl (by kernel_rfl) (by kernel_rfl) (by kernel_rfl) (fun _ _ _ h => h) (by rfl) ?_ (by assumption) ?_
  rotate_left
  · intro w hSw
    (try dsimp only at hSw)
    go_simp
    try with_reducible rfl
  try simp only [Act.put, List.setIfInBounds_toArray, List.set_cons_zero, List.set_cons_succ]
  refine held_take (i := 2) (v := ?_) rfl (by kernel_rfl) (by kernel_rfl) (by kernel_rfl) (fun _ _ _ h => h) (by rfl) ?_ (by assumption) ?_
  rotate_left
  · intro w hSw
    (try dsimp only at hSw)
    go_simp
    try with_reducible rfl
  try simp only [Act.put, List.setIfInBounds_toArray, List.set_cons_zero, List.set_cons_succ]
  refine held_skip (i := 3) rfl (by kernel_rfl) (by kernel_rfl) (by kernel_rfl) (fun _ _ _ h => h) (by rfl) (by assumption) ?_
  try simp only [Act.put, List.setIfInBounds_toArray, List.set_cons_zero, List.set_cons_succ]
  refine held_skip (i := 4) rfl (by kernel_rfl) (by kernel_rfl) (by kernel_rfl) (fun _ _ _ h => h) (by rfl) (by assumption) ?_
  try simp only [Act.put, List.setIfInBounds_toArray, List.set_cons_zero, List.set_cons_succ]
  refine held_take (i := 5) (v := ?_) rfl (by kernel_rfl) (by kernel_rfl) (by kernel_rfl) (fun _ _ _ h => h) (by rfl) ?_ (by assumption) ?_
  rotate_left
  · intro w hSw
    (try dsimp only at hSw)
    go_simp
    try with_reducible rfl
  try simp only [Act.put, List.setIfInBounds_toArray, List.set_cons_zero, List.set_cons_succ]
  refine held_take (i := 6) (v := ?_) rfl (by kernel_rfl) (by kernel_rfl) (by kernel_rfl) (fun _ _ _ h => h) (by rfl) ?_ (by assumption) ?_
  rotate_left
  · intro w hSw
    (try dsimp only at hSw)
    go_simp
    try with_reducible rfl
  try simp only [Act.put, List.setIfInBounds_toArray, List.set_cons_zero, List.set_cons_succ]
  refine held_take (i := 7) (v := ?_) rfl (by kernel_rfl) (by kernel_rfl) (by kernel_rfl) (fun _ _ _ h => h) (by rfl) ?_ (by assumption) ?_
  rotate_left
  · intro w hSw
    (try dsimp only at hSw)
    go_simp
    try with_reducible rfl
  try simp only [Act.put, List.setIfInBounds_toArray, List.set_cons_zero, List.set_cons_succ]
  refine held_take (i := 8) (v := ?_) rfl (by kernel_rfl) (by kernel_rfl) (by kernel_rfl) (fun _ _ _ h => h) (by rfl) ?_ (by assumption) ?_
  rotate_left
  · intro w hSw
    (try dsimp only at hSw)
    go_simp
    try with_reducible rfl
  try simp only [Act.put, List.setIfInBounds_toArray, List.set_cons_zero, List.set_cons_succ]
  refine held_take (i := 9) (v := ?_) rfl (by kernel_rfl) (by kernel_rfl) (by kernel_rfl) (fun _ _ _ h => h) (by rfl) ?_ (by assumption) ?_
  rotate_left
  · intro w hSw
    (try dsimp only at hSw)
    go_simp
    try with_reducible rfl
  try simp only [Act.put, List.setIfInBounds_toArray, List.set_cons_zero, List.set_cons_succ]
  refine held_take (i := 10) (v := ?_) rfl (by kernel_rfl) (by kernel_rfl) (by kernel_rfl) (fun _ _ _ h => h) (by rfl) ?_ (by assumption) ?_
  rotate_left
  · intro w hSw
    (try dsimp only at hSw)
    go_simp
    try with_reducible rfl
  try simp only [Act.put, List.setIfInBounds_toArray, List.set_cons_zero, List.set_cons_succ]
  refine held_take (i := 11) (v := ?_) rfl (by kernel_rfl) (by kernel_rfl) (by kernel_rfl) (fun _ _ _ h => h) (by rfl) ?_ (by assumption) ?_
  rotate_left
  · intro w hSw
    (try dsimp only at hSw)
    go_simp
    try with_reducible rfl
  try simp only [Act.put, List.setIfInBounds_toArray, List.set_cons_zero, List.set_cons_succ]
  refine held_take (i := 12) (v := ?_) rfl (by kernel_rfl) (by kernel_rfl) (by kernel_rfl) (fun _ _ _ h => h) (by rfl) ?_ (by assumption) ?_
  rotate_left
  · intro w hSw
    (try dsimp only at hSw)
    go_simp
    try with_reducible rfl
  try simp only [Act.put, List.setIfInBounds_toArray, List.set_cons_zero, List.set_cons_succ]
  refine held_take (i := 13) (v := ?_) rfl (by kernel_rfl) (by kernel_rfl) (by kernel_rfl) (fun _ _ _ h => h) (by rfl) ?_ (by assumption) ?_
  rotate_left
  · intro w hSw
    (try dsimp only at hSw)
    go_simp
    try with_reducible rfl
  try simp only [Act.put, List.setIfInBounds_toArray, List.set_cons_zero, List.set_cons_succ]
  refine held_skip (i := 14) rfl (by kernel_rfl) (by kernel_rfl) (by kernel_rfl) (fun _ _ _ h => h) (by rfl) (by assumption) ?_
  try simp only [Act.put, List.setIfInBounds_toArray, List.set_cons_zero, List.set_cons_succ]
  refine held_skip (i := 15) rfl (by kernel_rfl) (by kernel_rfl) (by kernel_rfl) (fun _ _ _ h => h) (by rfl) (by assumption) ?_
  try simp only [Act.put, List.setIfInBounds_toArray, List.set_cons_zero, List.set_cons_succ]
  refine held_skip (i := 16) rfl (by kernel_rfl) (by kernel_rfl) (by kernel_rfl) (fun _ _ _ h => h) (by rfl) (by assumption) ?_
  try simp only [Act.put, List.setIfInBounds_toArray, List.set_cons_zero, List.set_cons_succ]
  refine held_skip (i := 17) rfl (by kernel_rfl) (by kernel_rfl) (by kernel_rfl) (fun _ _ _ h => h) (by rfl) (by assumption) ?_
  try simp only [Act.put, List.setIfInBounds_toArray, List.set_cons_zero, List.set_cons_succ]
  refine held_skip (i := 18) rfl (by kernel_rfl) (by kernel_rfl) (by kernel_rfl) (fun _ _ _ h => h) (by rfl) (by assumption) ?_
  try simp only [Act.put, List.setIfInBounds_toArray, List.set_cons_zero, List.set_cons_succ]
  refine held_skip (i := 19) rfl (by kernel_rfl) (by kernel_rfl) (by kernel_rfl) (fun _ _ _ h => h) (by rfl) (by assumption) ?_
  try simp only [Act.put, List.setIfInBounds_toArray, List.set_cons_zero, List.set_cons_succ]
  refine held_skip (i := 20) rfl (by kernel_rfl) (by kernel_rfl) (by kernel_rfl) (fun _ _ _ h => h) (by rfl) (by assumption) ?_
  try simp only [Act.put, List.setIfInBounds_toArray, List.set_cons_zero, List.set_cons_succ]
  refine held_take (i := 21) (v := ?_) rfl (by kernel_rfl) (by kernel_rfl) (by kernel_rfl) (fun _ _ _ h => h) (by rfl) ?_ (by assumption) ?_
  rotate_left
  · intro w hSw
    (try dsimp only at hSw)
    go_simp
    try with_reducible rfl
  try simp only [Act.put, List.setIfInBounds_toArray, List.set_cons_zero, List.set_cons_succ]
  refine held_take (i := 22) (v := ?_) rfl (by kernel_rfl) (by kernel_rfl) (by kernel_rfl) (fun _ _ _ h => h) (by rfl) ?_ (by assumption) ?_
  rotate_left
  · intro w hSw
    (try dsimp only at hSw)
    go_simp
    try with_reducible rfl
  try simp only [Act.put, List.setIfInBounds_toArray, List.set_cons_zero, List.set_cons_succ]
  refine wpAnyH_done (by kernel_rfl) ?_ _
  go_wp2_with fail
  refine (next_any ai ao al ar HFIT.out has _).mono ?_; rintro y w3 ⟨rfl, hb3⟩
  have HB3 := Lib.hid (blk_keep2 hb3 HB.out)
  have HW3 := Lib.hid (gr_trans (gr_drew HW.out) (gr_of hb3 (some g)))
  clear hb3 a0 a1 a2 a3 b1
  have b1 : w3.cell? ⟨g, off + 1, none⟩ = some (.int .u64 (IntKind.u64.wrap (-1))) := (cell_of_row w3 g (off + 1) _ _ _ HB3.out).trans HC.out
  have f1 : w3.frozen? ⟨g, off + 1, none⟩ = false := by simp [World.frozen?, HB3.out]
  go_wp2_with fail
  go_ret
  exact ⟨rfl, gr_trans HW3.out (gr_set _ _ _ _), (set_blk HB3.out).trans (by rw [set_twice])⟩
theorem set_any (c : Nat) (hc : c < 4) (ha : En.fit ai ao al ar) (hg : w.heap[g]? = some (.cells cur 43 (0, 0))) (h0 : cur[off]? = some v0) (h1 : cur[off + 1]? = some v1) (h2 : cur[off + 2]? = some v2) (h3 : cur[off + 3]? = some v3) (hi : i ≤ 100000) (has : ao + al ≤ 1099511627776) (hok : Dr.okx c i (ai, ao, al, ar) x) :
    Calls Tryz.prog 62 #[.int .i64 c, .int .i64 i, .agg #[.int .u64 ai, .int .u64 ao, .int .u32 al, .int .u32 ar], .pointer (some ⟨g, off, none⟩), .int .u64 x] w (SetPost g (cur.setIfInBounds (off + Dr.fld c) (Dr.new c (ai, ao, al, ar) x)) w) := by
  obtain ⟨x0, x1, k0, k1, k2, k3⟩ := hok
  rcases (show c = 0 ∨ c = 1 ∨ c = 2 ∨ c = 3 by omega) with rfl | rfl | rfl | rfl
  · exact set0_any i g off ai ao al ar x cur v0 v1 v2 v3 w ha hg h0 h1 h2 h3 x0 x1 (k0 rfl)
  · exact set1_any i g off ai ao al ar x cur v0 v1 v2 v3 w ha hg h0 h1 h2 h3 x0 x1 (k1 rfl)
  · exact set2_any i g off ai ao al ar x cur v0 v1 v2 v3 w ha hg h0 h1 h2 h3 x0 x1 (k2 rfl)
  · obtain ⟨k4, k5⟩ := k3 rfl
    by_cases hx : x = 0
    · subst hx
      have h := set3b_any i g off ai ao al ar cur v0 v1 v2 v3 w ha hg h0 h1 h2 h3 (k4 rfl) hi has
      exact h
    · have hp : 0 < x := by omega
      have e : Dr.new 3 (ai, ao, al, ar) x = .int .u64 (x - 1) := by unfold Dr.new; simp [hx]
      rw [e]
      rcases Nat.eq_zero_or_pos i with hi0 | hi0
      · subst hi0
        exact set3a_any g off ai ao al ar x cur v0 v1 v2 v3 w ha hg h0 h1 h2 h3 x0 x1 hp
      · exact set3c_any i g off ai ao al ar x cur v0 v1 v2 v3 w ha hg h0 h1 h2 h3 x0 x1 hi0 hi has hp (k5 hp hi0)
end
end Go.Proofs.YtlfahmdndlmhpaaGreatDoor
