/- A range over a function whose rounds all go on: what the iterator, the rounds and the loop's record owe each other, where the rounds may write maps, too. -/
import Derived.Test.YtlfahmdndlmhpaaGreatDoorM04
import Derived.RangeFuncLeaves
import Derived.RangeFuncCalls
import Derived.RangeFuncBound
import Derived.RangeFuncBox
namespace Go.Proofs.YtlfahmdndlmhpaaGreatDoor
open Go.RowKit

/-- a loop's own objects -/
def Rg.own : Obj → Bool
  | .loop _ => true
  | .deferred _ => true
  | _ => false
theorem Rg.own_cells {o : Obj} (h : Rg.own o = true) : o.isCells = false ∧ o.isWalk = false := by
  cases o <;> first | exact ⟨rfl, rfl⟩ | cases h
structure Rg.Keeps (W W' : World) : Prop where
  size : W.heap.size ≤ W'.heap.size
  same : ∀ (k : Nat) (o : Obj), W.heap[k]? = some o → Rg.own o = true → W'.heap[k]? = some o
theorem Rg.Keeps.refl (W : World) : Rg.Keeps W W := ⟨Nat.le_refl _, fun _ _ h _ => h⟩
theorem Rg.Keeps.trans {A B C : World} (h : Rg.Keeps A B) (k : Rg.Keeps B C) : Rg.Keeps A C := ⟨Nat.le_trans h.size k.size, fun i o hi ho => k.same i o (h.same i o hi ho) ho⟩
theorem Rg.Keeps.below {W W' : World} (h : Below W.heap.size W W') : Rg.Keeps W W' := ⟨h.size, fun _ _ hk _ => blk_keep hk h⟩
theorem Rg.Keeps.setCell (W : World) (p : Addr) (v : Value) : Rg.Keeps W (W.setCell p v) := ⟨by simp, fun k o hk ho => by
  simp only [World.setCell, Array.getElem?_modify]
  split
  · rename_i e
    subst e
    rw [hk]
    cases o <;> first | rfl | cases ho
  · exact hk⟩
theorem Rg.Keeps.grown {W W' : World} {row : Option Nat} (hg : W.grownBy W' row) (hr : ∀ g o, row = some g → W.heap[g]? = some o → Rg.own o = false) : Rg.Keeps W W' :=
  ⟨hg.size, fun k o hk ho => (hg.block k (blk_lt hk) (fun e => by rw [hr k o e.symm hk] at ho; cases ho)).trans hk⟩
theorem Rg.Keeps.drew (W : World) : Rg.Keeps W W.drew := ⟨Nat.le_refl _, fun _ _ h _ => h⟩

/-- an iterator that tells xs, one by one -/
def Rg.Seq {α : Type} (P : Program) (gf : Nat) (lb : Array Value) (encs : α → Array Value) (xs : List α) (Kp : World → World → Prop) (Ab : Nat → World → World → Prop) (w : World) : Prop :=
  ∀ (l : Nat) (J : Nat → World → Prop) (W : World), Below w.heap.size w W → (∀ i X Y, J i X → Ab W.heap.size X Y → J i Y) →
    (∀ i x X, xs[i]? = some x → J i X → YieldAt Fence.wide 3 P l (encs x) X fun e Y => e = .returned (.bool true) ∧ J (i + 1) Y ∧ Kp X Y) →
    J 0 W → CallsIn Fence.wide 4 P gf (#[.func (.yield l) #[] #[]] ++ lb) W fun e Y => (∃ v, e = .returned v) ∧ J xs.length Y

/-- the end of a round -/
def Rg.post (Kp : World → World → Prop) (I : Nat → World → Prop) (i : Nat) (X : World) : Exit → Act → World → Prop
  | .normal, _, Y => Rg.Keeps X Y ∧ Kp X Y ∧ I i Y
  | .panic _, _, _ => False
  | .exit _, _, _ => False
  | .goto _, _, _ => False
  | .ret, _, _ => False
  | .outgrown, _, _ => False

theorem wp_rangeGo {α : Type} {P : Program} {g : Operand} {ps : Array Tmp} {assign body : Code} {Q : Exit → Act → World → Prop} {a : Act} {w : World} {gf : Nat} {lb : Array Value} {encs : α → Array Value} {xs : List α} {Kp : World → World → Prop} {Ab : Nat → World → World → Prop}
    (hg : a.eval g = .func (.func gf) #[] lb) (eg : ∀ args w, (callFunc gf args).run P w = .ok (.enter gf args) w) (hseq : Rg.Seq P gf lb encs xs Kp Ab w)
    (hAo : ∀ (B : Nat) (X Y : World) (k : Nat) (o : Obj), Ab B X Y → X.heap[k]? = some o → Rg.own o = true → Y.heap[k]? = some o)
    (hKt : ∀ {A B C : World}, Kp A B → Kp B C → Kp A C) (hKo : ∀ (X : World) (k : Nat) (o o' : Obj), w.heap.size ≤ k → X.heap[k]? = some o → Rg.own o = true → Kp X (X.putObj k o')) (hps : ∀ x, (encs x).size = ps.size)
    (I : Nat → World → Prop) (hIa : ∀ (B i : Nat) (X Y : World), w.heap.size ≤ B → I i X → Ab B X Y → I i Y) (hIo : ∀ (i : Nat) (X : World) (k : Nat) (o o' : Obj), w.heap.size ≤ k → X.heap[k]? = some o → Rg.own o = true → I i X → I i (X.putObj k o')) (hIn : ∀ (i : Nat) (X : World) (o : Obj), Rg.own o = true → I i X → I i (X.alloc o))
    (h0 : I 0 w) (a1 : α → Act)
    (hassign : ∀ (l : Nat) (x : α) (X : World) (K : Act → World → Prop), K (a1 x) X → assign.wpIn (Fence.wide.inRound l) 3 P (Exit.then K (fun _ _ _ => False)) { tmps := (ps.zip (encs x)).foldl (fun t (p, v) => t.setIfInBounds p v) a.tmps, defers := [] } X)
    (hbody : ∀ (l i : Nat) (x : α) (X : World), xs[i]? = some x → I i X → body.wpIn (Fence.wide.inRound l) 3 P (Rg.post Kp I (i + 1) X) (a1 x) X)
    (hdone : ∀ (D : Nat) (X : World), w.heap.size ≤ D → I xs.length X → X.heap[D]? = some (.deferred (some [])) → Q .normal { a with defers := { target := .collected D, args := #[] } :: a.defers } X) :
    (Code.rangeFunc g ps assign body).wp P Q a w := by
  refine wpIn_wide.1 (wpIn_rangeFunc (F := Fence.wide) (n := 5) ?_)
  intro fn hfn
  obtain ⟨r, hr⟩ : ∃ r : Loop, r = { state := .ready, pending := none, fn := fn, tmps := a.tmps, params := ps, assign := assign, body := body, defers := w.heap.size } := ⟨_, rfl⟩
  have hrun := run_enterLoop_outer (P := P) (w := w) fn a.tmps ps assign body
  rw [← hr] at hrun
  have hst : r.state = .ready := by rw [hr]
  have hpe : r.pending = none := by rw [hr]
  have hfn' : r.fn = fn := by rw [hr]
  have htm : r.tmps = a.tmps := by rw [hr]
  have hpa : r.params = ps := by rw [hr]
  have has : r.assign = assign := by rw [hr]
  have hbo : r.body = body := by rw [hr]
  clear hr
  have hD := blk_alloc (heap_alloc_new w (.deferred (some []))) (.loop r)
  have hL := heap_alloc_new (w.alloc (.deferred (some []))) (.loop r)
  rw [World.size_alloc] at hL
  have hI1 : I 0 ((w.alloc (.deferred (some []))).alloc (.loop r)) := hIn _ _ _ rfl (hIn _ _ _ rfl h0)
  have hb1 : Below w.heap.size w ((w.alloc (.deferred (some []))).alloc (.loop r)) := ((Below.refl _ _).alloc (Nat.le_refl _) _).alloc (by simp) _
  obtain ⟨W, hW⟩ : ∃ W, W = (w.alloc (.deferred (some []))).alloc (.loop r) := ⟨_, rfl⟩
  rw [← hW] at hD hL hI1 hb1 hrun
  clear hW
  have hz := blk_lt hL
  refine ⟨w.heap.size + 1, [{ target := .collected w.heap.size, args := #[] }], W, { target := .fn (.func gf) lb, args := #[.func (.yield (w.heap.size + 1)) #[] #[]] }, W, gf, #[.func (.yield (w.heap.size + 1)) #[] #[]] ++ lb, W, hrun, ?_, fun _ _ => trivial, ?_, (fun h => by cases h), ?_⟩
  · simp only [resolve, hg]
    simp [go_sem]
  · simp [invoke, go_sem, eg]
  · refine (hseq (w.heap.size + 1) (fun i X => I i X ∧ X.heap[w.heap.size + 1]? = some (.loop r) ∧ X.heap[w.heap.size]? = some (.deferred (some []))) W hb1
      (fun i X Y h hab => ⟨hIa _ i X Y (by omega) h.1 hab, hAo _ _ _ _ _ hab h.2.1 rfl, hAo _ _ _ _ _ hab h.2.2 rfl⟩) ?_ ⟨hI1, hL, hD⟩).mono ?_
    · rintro i x X hx ⟨hi, hl, hd⟩
      have hlt := blk_lt hl
      have hy := run_yield (P := P) (args := encs x) hl (by rw [hpa]; exact hps x)
      rw [hfn', htm, hpa, has, hbo] at hy
      refine ⟨fn, _, assign, body, hy, roundIn_of_wpIn hfn (hassign _ x X _ ⟨_, run_beginRound hl hst, ?_⟩)⟩
      have hl2 : (X.putObj (w.heap.size + 1) (.loop { r with state := .busy })).heap[w.heap.size + 1]? = some (.loop { r with state := .busy }) := World.putObj_heap_same hlt
      have hd2 : (X.putObj (w.heap.size + 1) (.loop { r with state := .busy })).heap[w.heap.size]? = some (.deferred (some [])) := (World.putObj_heap_other (by omega)).trans hd
      refine wpIn_mono (hbody _ i x _ hx (hIo i X _ _ _ (by omega) hl rfl hi)) ?_
      rintro e b Y hp
      cases e with
      | normal =>
        obtain ⟨hk, hkp, hi2⟩ := hp
        have hl3 := hk.same _ _ hl2 rfl
        have hd3 := hk.same _ _ hd2 rfl
        have he := run_endRound (P := P) none hl3
        refine ⟨_, _, he, rfl, ⟨hIo _ _ _ _ _ (by omega) hl3 rfl hi2, ?_, ?_⟩, ?_⟩
        · have h := World.putObj_heap_same (o := .loop { ({ r with state := .busy } : Loop) with state := if (none : Option Code).isNone = true then .ready else .done, pending := none }) (blk_lt hl3)
          rw [h]
          congr 2
          cases r
          simp only at hst hpe
          subst hst hpe
          rfl
        · exact (World.putObj_heap_other (by omega)).trans hd3
        · exact hKt (hKt (hKo X _ _ _ (by omega) hl rfl) hkp) (hKo _ _ _ _ (by omega) hl3 rfl)
      | _ => exact hp.elim
    · rintro e Y ⟨⟨v, rfl⟩, hi, hl, hd⟩
      have he := run_endLoop (P := P) hl (by rw [hst]; simp)
      rw [hpe] at he
      exact ⟨none, _, he, hdone _ _ (Nat.le_refl _) (hIo _ _ _ _ _ (by omega) hl rfl hi) ((World.putObj_heap_other (by omega)).trans hd)⟩

/-- a function that holds a range over a function, by the plain walk -/
theorem calls_of_wp_marks {P : Program} {f : FuncId} {fn : Func} {c : Code} {args : Array Value} {w : World} {R : Ending → World → Prop} (hf : P.funcs[f]? = some fn) (hb : fn.body = some c)
    (h : c.wp P (bodyPostM Fence.wide 5 P fn R) { tmps := args ++ Array.replicate (fn.ntmps - args.size) undef, defers := [] } w) : Calls P f args w R :=
  callsIn_wide.1 (callsIn_of_wp_marks hf hb trivial (wpIn_wide.2 h))
end Go.Proofs.YtlfahmdndlmhpaaGreatDoor
