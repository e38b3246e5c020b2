/- The walks of notes' each, object, value and Take at the text {}. The walks of press.Check at the statement's plan, and of Press's deferred closure. -/
import Derived.Test.YtlfahmdndlmhpaaGreatDoorM20
import Derived.Deep.QuietTactic
import Derived.BigQuiet
import Derived.Defers
namespace Go.Proofs.YtlfahmdndlmhpaaGreatDoor
open Go.RowKit Go.Shelf

set_option maxRecDepth 100000 in
theorem each_0 (b : Nat) (f : Value) (w : World) (h : Rdr w b 0) : Calls Tryz.prog 137 #[.pointer (some ⟨b, 0, none⟩), .int .i64 1, .int .u8 123, .int .u8 125, f] w (SignPost b 2 (.tuple #[]) w) := by
  go_enter Tryz.func137, Tryz.ntmps137
  go_wp2_with fail
  refine (sign_0 b _ h).mono ?_; rintro e w1 ⟨rfl, h1, g1⟩
  go_wp2_with fail
  refine (end_1 b _ h1).mono ?_; rintro e w2 ⟨rfl, h2, g2⟩
  go_wp2_with fail
  exact bodyPost_ret (results_none rfl _ _ _) rfl ⟨rfl, h2, gr_trans g1 g2⟩
theorem gr_below' {w w1 w2 : World} {g : Nat} (h : Below w.heap.size w w1) (k : w1.grownBy w2 (some g)) (hg : w.heap.size ≤ g := by omega) : Below w.heap.size w w2 := h.grown k h.size (fun j e => by cases e; exact hg)
def ObjPost (b : Nat) (w : World) (e : Ending) (w' : World) : Prop := ∃ v, e = .returned (.iface 90 v) ∧ Rdr w' b 2 ∧ w.grownBy w' (some b)
set_option maxRecDepth 100000 in
theorem object_0 (b : Nat) (w : World) (h : Rdr w b 0) : Calls Tryz.prog 115 #[.pointer (some ⟨b, 0, none⟩), .int .i64 1] w (ObjPost b w) := by
  have hmf : ∀ (fn : Fn) (first cap : Array Value) (w : World), (Instr.makeFunc fn first cap).run Tryz.prog w = .ok (.func fn first cap) w := fun _ _ _ _ => rfl
  go_enter Tryz.func115, Tryz.ntmps115
  go_wp2_with fail
  have H0 : Rdr ((((w.alloc (.cells #[.pointer (some ⟨b, 0, none⟩)] 148)).alloc (.cells #[.int .i64 1] 3)).alloc (.cells #[] 225)).alloc (.cells #[.slice (some ⟨w.heap.size + 1 + 1, 0, none⟩) 0 0] 90)) b 0 := blk_alloc (blk_alloc (blk_alloc (blk_alloc h _) _) _) _
  have hbl : b < w.heap.size := blk_lt h
  refine (each_0 b _ _ H0).mono ?_; rintro e w1 ⟨rfl, h1, g1⟩
  have hX := blk_grown (heap_at (w := ((w.alloc (.cells #[.pointer (some ⟨b, 0, none⟩)] 148)).alloc (.cells #[.int .i64 1] 3)).alloc (.cells #[] 225)) (o := .cells #[.slice (some ⟨w.heap.size + 1 + 1, 0, none⟩) 0 0] 90) (n := w.heap.size + 1 + 1 + 1) (by simp)) g1 (fun k e => by cases e; omega)
  have q0 := cell_of_row w1 (w.heap.size + 1 + 1 + 1) 0 _ _ _ hX
  have G1 := Lib.hid (gr_trans (gr_of (by exact (by repeat (first | with_reducible exact Below.refl _ _ | with_reducible assumption | with_reducible refine Below.setCell ?_ (by first | (simp; done) | (simp; omega) | omega) _ | with_reducible refine Below.alloc ?_ (by first | exact Nat.le_refl _ | (simp; done) | (simp; omega) | omega) _ | with_reducible refine Below.drew ?_)) : Below w.heap.size w ((((w.alloc (.cells #[.pointer (some ⟨b, 0, none⟩)] 148)).alloc (.cells #[.int .i64 1] 3)).alloc (.cells #[] 225)).alloc (.cells #[.slice (some ⟨w.heap.size + 1 + 1, 0, none⟩) 0 0] 90))) (some b)) g1)
  clear hX g1
  go_wp2_with fail
  go_ret
  exact ⟨_, rfl, h1, G1.out⟩
set_option maxRecDepth 100000 in
theorem value_0 (b : Nat) (w : World) (h : Rdr w b 0) : Calls Tryz.prog 73 #[.pointer (some ⟨b, 0, none⟩), .int .i64 1] w (ObjPost b w) := by
  obtain ⟨⟨c0, c1, c2⟩, _⟩ := blk_cells3 h
  have x0 := ch_0
  have HOB := fun w' (hw : Rdr w' b 0) => object_0 b w' hw
  have HRD := Lib.hid h
  clear h
  go_enter Tryz.func73, Tryz.ntmps73
  go_wp2_with fail
  refine wp_region_held_drew (S := (fun w' => w'.cell? ⟨b, 0, none⟩ = some (.string ⟨#[123, 125]⟩) ∧ w'.cell? ⟨b, 1, none⟩ = some (.int .i64 0))) (by kernel_rfl) (by (try dsimp only); exact ⟨c0, c1⟩) (fun hHeld => ?_)
  simp only [List.size_toArray, List.length_cons, List.length_nil, Nat.zero_add, Nat.reduceAdd]
  refine held_take (i := 0) (v := ?_) rfl (by kernel_rfl) (by kernel_rfl) (by kernel_rfl) (fun _ _ _ h => h) (by rfl) ?_ (by assumption) ?_
  rotate_left
  · intro w hSw
    (try dsimp only at hSw)
    go_simp
    try with_reducible rfl
  try simp only [Act.put, List.setIfInBounds_toArray, List.set_cons_zero, List.set_cons_succ]
  refine held_take (i := 1) (v := ?_) rfl (by kernel_rfl) (by kernel_rfl) (by kernel_rfl) (fun _ _ _ h => h) (by rfl) ?_ (by assumption) ?_
  rotate_left
  · intro w hSw
    (try dsimp only at hSw)
    go_simp
    try with_reducible rfl
  try simp only [Act.put, List.setIfInBounds_toArray, List.set_cons_zero, List.set_cons_succ]
  refine held_take (i := 2) (v := ?_) rfl (by kernel_rfl) (by kernel_rfl) (by kernel_rfl) (fun _ _ _ h => h) (by rfl) ?_ (by assumption) ?_
  rotate_left
  · intro w hSw
    (try dsimp only at hSw)
    go_simp
    try with_reducible rfl
  try simp only [Act.put, List.setIfInBounds_toArray, List.set_cons_zero, List.set_cons_succ]
  refine held_take (i := 3) (v := ?_) rfl (by kernel_rfl) (by kernel_rfl) (by kernel_rfl) (fun _ _ _ h => h) (by rfl) ?_ (by assumption) ?_
  rotate_left
  · intro w hSw
    (try dsimp only at hSw)
    go_simp
    try with_reducible rfl
  try simp only [Act.put, List.setIfInBounds_toArray, List.set_cons_zero, List.set_cons_succ]
  refine held_take (i := 4) (v := ?_) rfl (by kernel_rfl) (by kernel_rfl) (by kernel_rfl) (fun _ _ _ h => h) (by rfl) ?_ (by assumption) ?_
  rotate_left
  · intro w hSw
    (try dsimp only at hSw)
    go_simp
    try with_reducible rfl
  try simp only [Act.put, List.setIfInBounds_toArray, List.set_cons_zero, List.set_cons_succ]
  refine held_take (i := 5) (v := ?_) rfl (by kernel_rfl) (by kernel_rfl) (by kernel_rfl) (fun _ _ _ h => h) (by rfl) ?_ (by assumption) ?_
  rotate_left
  · intro w hSw
    (try dsimp only at hSw)
    go_simp
    try with_reducible rfl
  try simp only [Act.put, List.setIfInBounds_toArray, List.set_cons_zero, List.set_cons_succ]
  refine held_take (i := 6) (v := ?_) rfl (by kernel_rfl) (by kernel_rfl) (by kernel_rfl) (fun _ _ _ h => h) (by rfl) ?_ (by assumption) ?_
  rotate_left
  · intro w hSw
    (try dsimp only at hSw)
    go_simp
    try with_reducible rfl
  try simp only [Act.put, List.setIfInBounds_toArray, List.set_cons_zero, List.set_cons_succ]
  refine held_take (i := 7) (v := ?_) rfl (by kernel_rfl) (by kernel_rfl) (by kernel_rfl) (fun _ _ _ h => h) (by rfl) ?_ (by assumption) ?_
  rotate_left
  · intro w hSw
    (try dsimp only at hSw)
    go_simp
    try with_reducible rfl
  try simp only [Act.put, List.setIfInBounds_toArray, List.set_cons_zero, List.set_cons_succ]
  refine held_take (i := 8) (v := ?_) rfl (by kernel_rfl) (by kernel_rfl) (by kernel_rfl) (fun _ _ _ h => h) (by rfl) ?_ (by assumption) ?_
  rotate_left
  · intro w hSw
    (try dsimp only at hSw)
    go_simp
    try with_reducible rfl
  try simp only [Act.put, List.setIfInBounds_toArray, List.set_cons_zero, List.set_cons_succ]
  refine held_take (i := 9) (v := ?_) rfl (by kernel_rfl) (by kernel_rfl) (by kernel_rfl) (fun _ _ _ h => h) (by rfl) ?_ (by assumption) ?_
  rotate_left
  · intro w hSw
    (try dsimp only at hSw)
    go_simp
    try with_reducible rfl
  try simp only [Act.put, List.setIfInBounds_toArray, List.set_cons_zero, List.set_cons_succ]
  refine wpAnyH_done (by kernel_rfl) ?_ _
  go_wp2_with fail
  refine wp_region_held_drew (S := (fun w' => w'.cell? ⟨b, 0, none⟩ = some (.string ⟨#[123, 125]⟩) ∧ w'.cell? ⟨b, 1, none⟩ = some (.int .i64 0))) (by kernel_rfl) (by (try dsimp only); exact ⟨c0, c1⟩) (fun hHeld => ?_)
  simp only [List.size_toArray, List.length_cons, List.length_nil, Nat.zero_add, Nat.reduceAdd]
  refine held_take (i := 0) (v := ?_) rfl (by kernel_rfl) (by kernel_rfl) (by kernel_rfl) (fun _ _ _ h => h) (by rfl) ?_ (by assumption) ?_
  rotate_left
  · intro w hSw
    (try dsimp only at hSw)
    go_simp
    try with_reducible rfl
  try simp only [Act.put, List.setIfInBounds_toArray, List.set_cons_zero, List.set_cons_succ]
  refine held_take (i := 1) (v := ?_) rfl (by kernel_rfl) (by kernel_rfl) (by kernel_rfl) (fun _ _ _ h => h) (by rfl) ?_ (by assumption) ?_
  rotate_left
  · intro w hSw
    (try dsimp only at hSw)
    go_simp
    try with_reducible rfl
  try simp only [Act.put, List.setIfInBounds_toArray, List.set_cons_zero, List.set_cons_succ]
  refine held_take (i := 2) (v := ?_) rfl (by kernel_rfl) (by kernel_rfl) (by kernel_rfl) (fun _ _ _ h => h) (by rfl) ?_ (by assumption) ?_
  rotate_left
  · intro w hSw
    (try dsimp only at hSw)
    go_simp
    try with_reducible rfl
  try simp only [Act.put, List.setIfInBounds_toArray, List.set_cons_zero, List.set_cons_succ]
  refine held_take (i := 3) (v := ?_) rfl (by kernel_rfl) (by kernel_rfl) (by kernel_rfl) (fun _ _ _ h => h) (by rfl) ?_ (by assumption) ?_
  rotate_left
  · intro w hSw
    (try dsimp only at hSw)
    go_simp
    try with_reducible rfl
  try simp only [Act.put, List.setIfInBounds_toArray, List.set_cons_zero, List.set_cons_succ]
  refine held_take (i := 4) (v := ?_) rfl (by kernel_rfl) (by kernel_rfl) (by kernel_rfl) (fun _ _ _ h => h) (by rfl) ?_ (by assumption) ?_
  rotate_left
  · intro w hSw
    (try dsimp only at hSw)
    go_simp
    try with_reducible rfl
  try simp only [Act.put, List.setIfInBounds_toArray, List.set_cons_zero, List.set_cons_succ]
  refine held_take (i := 5) (v := ?_) rfl (by kernel_rfl) (by kernel_rfl) (by kernel_rfl) (fun _ _ _ h => h) (by rfl) ?_ (by assumption) ?_
  rotate_left
  · intro w hSw
    (try dsimp only at hSw)
    go_simp
    try with_reducible rfl
  try simp only [Act.put, List.setIfInBounds_toArray, List.set_cons_zero, List.set_cons_succ]
  refine held_take (i := 6) (v := ?_) rfl (by kernel_rfl) (by kernel_rfl) (by kernel_rfl) (fun _ _ _ h => h) (by rfl) ?_ (by assumption) ?_
  rotate_left
  · intro w hSw
    (try dsimp only at hSw)
    go_simp
    try with_reducible rfl
  try simp only [Act.put, List.setIfInBounds_toArray, List.set_cons_zero, List.set_cons_succ]
  refine held_take (i := 7) (v := ?_) rfl (by kernel_rfl) (by kernel_rfl) (by kernel_rfl) (fun _ _ _ h => h) (by rfl) ?_ (by assumption) ?_
  rotate_left
  · intro w hSw
    (try dsimp only at hSw)
    go_simp
    try with_reducible rfl
  try simp only [Act.put, List.setIfInBounds_toArray, List.set_cons_zero, List.set_cons_succ]
  refine held_take (i := 8) (v := ?_) rfl (by kernel_rfl) (by kernel_rfl) (by kernel_rfl) (fun _ _ _ h => h) (by rfl) ?_ (by assumption) ?_
  rotate_left
  · intro w hSw
    (try dsimp only at hSw)
    go_simp
    try with_reducible rfl
  try simp only [Act.put, List.setIfInBounds_toArray, List.set_cons_zero, List.set_cons_succ]
  refine held_take (i := 9) (v := ?_) rfl (by kernel_rfl) (by kernel_rfl) (by kernel_rfl) (fun _ _ _ h => h) (by rfl) ?_ (by assumption) ?_
  rotate_left
  · intro w hSw
    (try dsimp only at hSw)
    go_simp
    try with_reducible rfl
  try simp only [Act.put, List.setIfInBounds_toArray, List.set_cons_zero, List.set_cons_succ]
  refine wpAnyH_done (by kernel_rfl) ?_ _
  go_wp2_with fail
  refine (HOB w.drew.drew HRD.out).mono ?_; rintro e w1 ⟨v, rfl, h1, g1⟩
  go_wp2_with fail
  go_ret
  exact ⟨_, rfl, h1, gr_undrew (gr_undrew g1)⟩
def TakePost (w : World) (e : Ending) (w' : World) : Prop := ∃ v, e = .returned (.tuple #[.iface 90 v, .int .i64 2, .int .i64 0]) ∧ Below w.heap.size w w'
set_option maxRecDepth 100000 in
theorem take_0 (w : World) : Calls Tryz.prog 38 #[.string ⟨#[123, 125]⟩] w (TakePost w) := by
  have h0 : Rdr (w.alloc (.cells #[.string ⟨#[123, 125]⟩, .int .i64 0, .int .i64 0] 150)) w.heap.size 0 := heap_alloc_new w _
  go_enter Tryz.func38, Tryz.ntmps38
  go_wp2_with fail
  refine (blank_0 w.heap.size _ h0).mono ?_; rintro e w1 ⟨rfl, hb1⟩
  have h1 : Rdr w1 w.heap.size 0 := blk_keep2 hb1 h0
  have g1 := gr_of hb1 (some w.heap.size)
  clear h0 hb1
  go_wp2_with fail
  refine (value_0 w.heap.size _ h1).mono ?_; rintro e w2 ⟨v, rfl, h2, g2⟩
  have g3 := gr_trans g1 g2
  obtain ⟨⟨c0, c1, c2⟩, _⟩ := blk_cells3 h2
  clear g1 g2 h1
  go_wp2_with fail
  refine (blank_2 w.heap.size _ h2).mono ?_; rintro e w3 ⟨rfl, hb3⟩
  have h3 : Rdr w3 w.heap.size 2 := blk_keep2 hb3 h2
  have hw3 : Below w.heap.size w w3 := gr_below' (blk_new w _) (gr_trans g3 (gr_of hb3 (some w.heap.size)))
  clear c0 c1 c2 g3 hb3 h2
  obtain ⟨⟨c0, c1, c2⟩, _⟩ := blk_cells3 h3
  clear h3
  go_wp2_with fail
  go_ret3
  exact ⟨v, rfl, hw3⟩
end Go.Proofs.YtlfahmdndlmhpaaGreatDoor
namespace Go.Proofs.YtlfahmdndlmhpaaGreatDoor
open Go.RowKit Go.Shelf

set_option maxRecDepth 100000 in
theorem pcheck_0 (w : World) : Calls Tryz.prog 17 #[.agg #[.int .i64 512, .int .u8 0, .string ⟨#[123, 125]⟩]] w fun e w' => e = .returned (.int .i64 0) ∧ Below w.heap.size w w' := by
  have hta : ∀ (t : TypeId) (v : Value) (w : World), (Instr.typeAssert (.iface 90 v) t 90 true).run Tryz.prog w = .ok (.tuple #[v, .bool true]) w := fun _ _ _ => by kernel_rfl
  go_enter Tryz.func17, Tryz.ntmps17
  go_wp2_with fail
  refine (take_0 _).mono ?_; rintro e w1 ⟨v, rfl, hb1⟩
  have hw1 := (blk_one hb1).2.2
  clear hb1
  go_wp2_with fail
  go_ret
  exact ⟨rfl, hw1⟩
theorem blank_e (g k : Nat) (u : FrameMode) (w : World) (h : w.cell? ⟨g, 0, none⟩ = some (.int .i64 0)) : CallsD Tryz.prog 16 #[.pointer (some ⟨g, 0, none⟩), .pointer (some ⟨k, 0, none⟩)] u w fun e u' w' => u' = u ∧ (e = .returned (.tuple #[]) ∧ w' = w) := by
  go_enter_d Tryz.func16, Tryz.ntmps16
  go_wp2
  go_end0
  exact ⟨rfl, rfl⟩
end Go.Proofs.YtlfahmdndlmhpaaGreatDoor
