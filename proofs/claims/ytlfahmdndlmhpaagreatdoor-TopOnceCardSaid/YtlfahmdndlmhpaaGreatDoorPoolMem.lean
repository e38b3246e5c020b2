/- A pool in memory: its bytes, its places and its buckets; what a step leaves of them. -/
import Derived.Test.YtlfahmdndlmhpaaGreatDoorM05
import Derived.Test.YtlfahmdndlmhpaaGreatDoorFnv
import Derived.Test.YtlfahmdndlmhpaaGreatDoorM09
import Derived.Test.YtlfahmdndlmhpaaGreatDoorRange
import Derived.Maps.OwnRows
import Derived.Maps.Views
namespace Go.Proofs.YtlfahmdndlmhpaaGreatDoor
open Go.RowKit Go.ChangeShapes

def dints : DataW Unit → List Int
  | .slice ds _ => ds.map (fun d => match d with | .lit (.int _ z) => z | _ => 0)
  | _ => []
theorem dints_row {w : World} {base : Nat} {e : TypeId} {q : IntKind} {v : Value} {zs : List Int} (h : w.ownsInts base e q v zs) : dints (rowDatum q v zs) = zs := by
  rcases h.datum (H := Unit) with ⟨e1, e2⟩ | e1
  · rw [e1, e2]; rfl
  · rw [e1]
    unfold dints lits
    dsimp only
    rw [List.map_map]
    exact (List.map_congr_left (fun _ _ => rfl)).trans (List.map_id zs)
theorem ownsInts_same {w w' : World} {base : Nat} {e : TypeId} {q : IntKind} {v : Value} {zs : List Int} (h : w.ownsInts base e q v zs) (hs : ∀ (g : Nat) (cs : Array Value) (fr : Nat × Nat), w.heap[g]? = some (Obj.cells cs e fr) → w'.heap[g]? = some (Obj.cells cs e fr)) : w'.ownsInts base e q v zs := by
  obtain ⟨⟨h1, h2⟩, h3⟩ := h
  refine ⟨⟨h1, ?_⟩, h3⟩
  rcases h2 with h2 | ⟨g, cap, cur, hv, hg, hh, r⟩
  · exact Or.inl h2
  · exact Or.inr ⟨g, cap, cur, hv, hg, hs _ _ _ hh, r⟩
theorem groups_same {w w' : World} {P : Program} {k e : TypeId} {q : IntKind} {base b n : Nat} {D : DataW Unit} (h : w.ownsGroups P k base e q b n D) (hs : ∀ (g : Nat) (cs : Array Value) (fr : Nat × Nat), w.heap[g]? = some (Obj.cells cs e fr) → w'.heap[g]? = some (Obj.cells cs e fr))
    (hm : ∀ (g : Nat) (es : Array MapEntry) (c : Nat), w.heap[g]? = some (Obj.map es c) → w'.heap[g]? = some (Obj.map es c)) : w'.ownsGroups P k base e q b n D := by
  obtain ⟨es, clock, hb, F, hs0, rfl, hbb, hlen, hap⟩ := h
  have hst : ∀ x ∈ es.toList, ∀ z, rowElem (H := Unit) w base e q x.val = some z → rowElem w' base e q x.val = some z := fun x hx z hz => by
    obtain ⟨zs, ho, rfl⟩ := rowElem_inv hz
    exact rowElem_mk (ownsInts_same ho hs)
  obtain ⟨F1, hmap, _⟩ := F.stay hst
  refine ⟨es, clock, hm _ _ _ hb, F1, hs0, by rw [hmap], hbb, fun x hx zs ho => ?_, hap⟩
  obtain ⟨y, hy⟩ := F.reads x hx
  obtain ⟨z, hz, _⟩ := WideElems.rd_val hy
  obtain ⟨zs0, ho0, _⟩ := rowElem_inv hz
  rw [ho.unique (ownsInts_same ho0 hs)]
  exact hlen x hx zs0 ho0
theorem groups_map {w : World} {P : Program} {k e : TypeId} {q : IntKind} {base b n : Nat} {D : DataW Unit} (h : w.ownsGroups P k base e q b n D) : Maps.IsMap D ∧ b < w.heap.size := by
  obtain ⟨es, clock, hb, _, _, rfl, _⟩ := h
  exact ⟨⟨_, rfl⟩, blk_lt hb⟩

/-- where the contents lie, as cells -/
def ccells : Nat → List ByteArray → List Value
  | _, [] => []
  | o, t :: P => .int .u64 (o : Int) :: .int .u32 (t.size : Int) :: ccells (o + t.size) P
theorem ccells_len : ∀ (P : List ByteArray) (o : Nat), (ccells o P).length = P.length * 2 := by
  intro P
  induction P with
  | nil => intro o; rfl
  | cons t P ih => intro o; rw [ccells, List.length_cons, List.length_cons, ih, List.length_cons]; omega
theorem ccells_snoc (s : ByteArray) : ∀ (P : List ByteArray) (o : Nat), ccells o (P ++ [s]) = ccells o P ++ [.int .u64 ((o + Pl.tot P : Nat) : Int), .int .u32 (s.size : Int)] := by
  intro P
  induction P with
  | nil => intro o; rfl
  | cons t P ih =>
    intro o
    rw [List.cons_append, ccells, ih, ccells, Pl.tot_cons, List.cons_append, List.cons_append, Nat.add_assoc]
theorem ccells_get : ∀ (P : List ByteArray) (o k : Nat) (hk : k < P.length), (ccells o P)[k * 2]? = some (.int .u64 ((o + Pl.tot (P.take k) : Nat) : Int)) ∧ (ccells o P)[k * 2 + 1]? = some (.int .u32 ((P[k]'hk).size : Int)) := by
  intro P
  induction P with
  | nil => intro o k hk; simp at hk
  | cons t P ih =>
    intro o k hk
    cases k with
    | zero => exact ⟨rfl, rfl⟩
    | succ k =>
      obtain ⟨h1, h2⟩ := ih (o + t.size) k (by simpa using hk)
      rw [ccells, show (k + 1) * 2 = k * 2 + 1 + 1 by omega, List.getElem?_cons_succ, List.getElem?_cons_succ, List.getElem?_cons_succ, List.getElem?_cons_succ, List.take_succ_cons, Pl.tot_cons, ← Nat.add_assoc, List.getElem_cons_succ]
      exact ⟨h1, h2⟩

/-- each sum's bucket holds places, and all whose text has that sum -/
def Pl.bok (D : DataW Unit) (P : List ByteArray) : Prop := ∀ h : Int, (∀ z ∈ dints (D.atKey (.int .u64 h) .nil), 0 ≤ z ∧ z < P.length) ∧ ∀ (j : Nat) (hj : j < P.length), Fv.sum (P[j]'hj) = h → (j : Int) ∈ dints (D.atKey (.int .u64 h) .nil)
theorem Pl.bok_nil : Pl.bok (.map []) [] := fun h => ⟨fun z hz => (by cases hz), fun j hj => (by simp at hj)⟩
theorem Pl.bok_put {D : DataW Unit} {P : List ByteArray} {s : ByteArray} {d : DataW Unit} (h : Pl.bok D P) (hm : Maps.IsMap D) (hd : dints d = dints (D.atKey (.int .u64 (Fv.sum s)) .nil) ++ [(P.length : Int)]) : Pl.bok (D.put (.int .u64 (Fv.sum s)) d) (P ++ [s]) := by
  intro x
  obtain ⟨h1, h2⟩ := h x
  by_cases hx : x = Fv.sum s
  · subst hx
    rw [Maps.atKey_put_same hm (by trivial), hd]
    refine ⟨fun z hz => ?_, fun j hj hq => ?_⟩
    · rw [List.length_append]
      rcases List.mem_append.1 hz with hz | hz
      · have := h1 z hz
        simp
        omega
      · rw [List.mem_singleton] at hz
        subst hz
        simp
        omega
    · rw [List.length_append] at hj
      rcases Nat.lt_or_ge j P.length with hlt | hge
      · rw [List.getElem_append_left hlt] at hq
        exact List.mem_append_left _ (h2 j hlt hq)
      · have : j = P.length := by simp at hj; omega
        subst this
        exact List.mem_append_right _ (by simp)
  · have hne : (Lit.int .u64 x) ≠ (Lit.int .u64 (Fv.sum s)) := fun e => hx (by injection e)
    rw [Maps.atKey_put_other hne]
    refine ⟨fun z hz => ?_, fun j hj hq => ?_⟩
    · have := h1 z hz
      rw [List.length_append]
      simp
      omega
    · rw [List.length_append] at hj
      rcases Nat.lt_or_ge j P.length with hlt | hge
      · rw [List.getElem_append_left hlt] at hq
        exact h2 j hlt hq
      · have : j = P.length := by simp at hj; omega
        subst this
        rw [List.getElem_append_right (Nat.le_refl _)] at hq
        simp at hq
        exact absurd hq.symm hx

/-- the blocks that a pool is made of, by their kind -/
def Pl.isP : Obj → Bool
  | .cells _ t _ => t == 156 || t == 5 || t == 102 || t == 3
  | .map _ _ => true
  | _ => false
/-- a pool in block g -/
def Pl.mp (w : World) (g : Nat) (P : List ByteArray) (mv : Value) : Prop :=
  (P = [] ∧ mv = .map none) ∨ ∃ mb D, mv = .map (some mb) ∧ g < mb ∧ w.ownsGroups Tryz.prog 40 (mb + 1) 3 .i64 mb P.length D ∧ Pl.bok D P
def Pl.at_ (w : World) (g : Nat) (P : List ByteArray) : Prop :=
  ∃ vt vp mv, w.heap[g]? = some (.cells #[vt, vp, mv] 156 (0, 0)) ∧ Row8 w (g + 1) vt (Pl.text P) ∧ w.ownsRow (g + 1) 102 2 vp P.length (ccells 0 P) ∧ Pl.mp w g P mv
theorem own_same {w w' : World} {base size n : Nat} {e : TypeId} {v : Value} {xs : List Value} (ho : w.ownsRow base e size v n xs) (h : ∀ (g : Nat) (cs : Array Value) (fr : Nat × Nat), base ≤ g → w.heap[g]? = some (Obj.cells cs e fr) → w'.heap[g]? = some (Obj.cells cs e fr)) : w'.ownsRow base e size v n xs := by
  obtain ⟨h1, h2⟩ := ho
  refine ⟨h1, ?_⟩
  rcases h2 with h2 | ⟨g, cap, cur, hv, hg, hh, r⟩
  · exact Or.inl h2
  · exact Or.inr ⟨g, cap, cur, hv, hg, h _ _ _ hg hh, r⟩
theorem Pl.mp_same {w w' : World} {g : Nat} {P : List ByteArray} {mv : Value} (h : Pl.mp w g P mv) (hs : ∀ (k : Nat) (o : Obj), w.heap[k]? = some o → Pl.isP o = true → w'.heap[k]? = some o) : Pl.mp w' g P mv := by
  rcases h with h | ⟨mb, D, e1, e2, h1, h2⟩
  · exact Or.inl h
  · exact Or.inr ⟨mb, D, e1, e2, groups_same h1 (fun _ _ _ hh => hs _ _ hh rfl) (fun _ _ _ hh => hs _ _ hh rfl), h2⟩
theorem Pl.at_same {w w' : World} {g : Nat} {P : List ByteArray} (h : Pl.at_ w g P) (hs : ∀ (k : Nat) (o : Obj), w.heap[k]? = some o → Pl.isP o = true → w'.heap[k]? = some o) : Pl.at_ w' g P := by
  obtain ⟨vt, vp, mv, h1, h2, h3, h4⟩ := h
  exact ⟨vt, vp, mv, hs _ _ h1 rfl, own_same h2 (fun _ _ _ _ hh => hs _ _ hh rfl), own_same h3 (fun _ _ _ _ hh => hs _ _ hh rfl), Pl.mp_same h4 hs⟩
theorem Pl.at_below {w w' : World} {g : Nat} {P : List ByteArray} (h : Pl.at_ w g P) (hb : Below w.heap.size w w') : Pl.at_ w' g P := Pl.at_same h (fun _ _ hk _ => blk_keep2 hb hk)
theorem Pl.at_lt {w : World} {g : Nat} {P : List ByteArray} (h : Pl.at_ w g P) : g < w.heap.size := by
  obtain ⟨_, _, _, h1, _⟩ := h
  exact blk_lt h1
/-- what a step of a pool leaves: what lies ahead of it, and blocks of other kinds -/
structure Pl.Kp (g : Nat) (w w' : World) : Prop where
  os : w'.os = w.os
  tape : w'.tape = w.tape
  output : w'.output = w.output
  size : w.heap.size ≤ w'.heap.size
  same : ∀ (k : Nat) (o : Obj), w.heap[k]? = some o → (k < g ∨ Pl.isP o = false) → w'.heap[k]? = some o
theorem Pl.Kp.refl (g : Nat) (w : World) : Pl.Kp g w w := ⟨rfl, rfl, rfl, Nat.le_refl _, fun _ _ h _ => h⟩
theorem Pl.Kp.trans {g : Nat} {a b c : World} (h : Pl.Kp g a b) (k : Pl.Kp g b c) : Pl.Kp g a c := ⟨k.os.trans h.os, k.tape.trans h.tape, k.output.trans h.output, Nat.le_trans h.size k.size, fun i o hi ho => k.same i o (h.same i o hi ho) ho⟩
theorem Pl.Kp.of_below {g : Nat} {w w' : World} (h : Below w.heap.size w w') : Pl.Kp g w w' := ⟨h.os, h.tape, h.output, h.size, fun _ _ hk _ => blk_keep2 h hk⟩
theorem Pl.Kp.grown {g : Nat} {w w' : World} {row : Option Nat} (h : w.grownBy w' row) (hr : ∀ j, row = some j → g ≤ j ∧ ∀ o, w.heap[j]? = some o → Pl.isP o = true) : Pl.Kp g w w' :=
  ⟨h.os, h.tape, h.output, h.size, fun k o hk hq => (h.block k (blk_lt hk) (fun e => by
    obtain ⟨h1, h2⟩ := hr k e.symm
    rcases hq with hq | hq
    · omega
    · rw [h2 o hk] at hq; cases hq)).trans hk⟩
theorem Pl.Kp.below {g B : Nat} {a w w' : World} (h : Pl.Kp g w w') (hb : Below B a w) (hB : B ≤ g) (hs : B ≤ a.heap.size) : Below B a w' :=
  ⟨h.os.trans hb.os, h.tape.trans hb.tape, h.output.trans hb.output, Nat.le_trans hb.size h.size, fun k hk => by
    have hk2 : k < w.heap.size := Nat.lt_of_lt_of_le (Nat.lt_of_lt_of_le hk hs) hb.size
    rw [← hb.block k hk]
    exact (h.same k _ (Array.getElem?_eq_getElem hk2) (Or.inl (by omega))).trans (Array.getElem?_eq_getElem hk2).symm⟩
end Go.Proofs.YtlfahmdndlmhpaaGreatDoor
