/- A range over the tiles of a row: the iterator's contract, and the loop's law at this seat's iterator, over the plain walk. -/
import Derived.Test.YtppciejcobmikaaSeekTiles
namespace Go.Proofs.Ytppciejcobmikaa
open Go.RowKit Go.Shelf

set_option maxRecDepth 100000 in
set_option maxHeartbeats 1000000 in
theorem tiles1_nil (F : Fence) (n : Nat) (h6 : F.fn 66) (hro : F.round = none) (l Bs : Nat) (J : List (Sk.T []) → World → Prop) (W : World) (hBs : W.cell? ⟨Bs, 0, none⟩ = some (.slice none 0 0)) (h0 : J [] W) :
    CallsIn F n Try.prog 66 #[.func (.yield l) #[] #[], .pointer (some ⟨Bs, 0, none⟩)] W fun e W' => (∃ v, e = .returned v) ∧ J [] W' := by
  refine callsIn_of_wp Try.func66 rfl h6 ?_ hro
  simp only [Try.ntmps66, List.size_toArray, List.length_cons, List.length_nil, Nat.reduceAdd, Nat.reduceSub, Array.replicate_succ, Array.replicate_zero, List.push_toArray, List.append_toArray, List.nil_append, List.cons_append]
  gi_wp2
  gi_loopw [8] (fun ci wr => ci = .int .i64 0 ∧ Hid (J [] wr)) (fun _ _ => 0)
  case atStart => exact ⟨rfl, Lib.hid h0⟩
  case round =>
    obtain ⟨rfl, hJs⟩ := hrel
    gi_wp2
    go_end0
    exact ⟨⟨_, rfl⟩, hJs.out⟩

theorem tiles_stops (F : Fence) (n : Nat) (h6 : F.fn 66) (hro : F.round = none) (hn : 1 ≤ n) (Bs base : Nat) (v : Value) (M : List Ent) (w : World) (hBs : Bs < w.heap.size) (hc : w.cell? ⟨Bs, 0, none⟩ = some v)
    (hO : w.ownsRow base 26 4 v M.length (ecells M)) (hm : M.length ≤ 100000) (hf : En.fits M) (hsum : ∀ e ∈ M, e.1 + e.2.2.2 < 18446744073709551616) :
    ∃ g, base ≤ g ∧ SeqStopsK F n Try.prog 66 #[.pointer (some ⟨Bs, 0, none⟩)] (fun x : Sk.T M => tEnc x.1) (Kpt g w.heap.size) (fun ys => ys = (Sk.ts M).attach) (fun pre => pre <+: (Sk.ts M).attach) (Sk.ts M).length w := by
  rcases hO.2 with ⟨rfl, h0⟩ | ⟨g, cap, cur, rfl, hg, hh, hcc, _, _, ht⟩
  · have hM : M = [] := List.eq_nil_of_length_eq_zero h0
    subst hM
    refine ⟨base, Nat.le_refl _, fun l J Jx W hW _ _ _ hJ0 => ?_⟩
    exact (tiles1_nil F n h6 hro l Bs J W ((hW.cell (p := ⟨Bs, 0, none⟩) hBs).trans hc) hJ0).mono fun e W' ⟨he, hj⟩ => ⟨he, .inl ⟨_, rfl, hj⟩⟩
  · refine ⟨g, hg, fun l J Jx W hW hJ _ hY hJ0 => ?_⟩
    exact tiles1_in F n h6 hro hn l Bs g w.heap.size M.length cap M rfl hm hf hsum J Jx W hW.size hJ hY ((hW.cell (p := ⟨Bs, 0, none⟩) hBs).trans hc) ⟨cur, blk_keep hh hW, ht⟩ hJ0

/-- all cells but some blocks lie as they lay -/
def KeptBut (S : Nat → Prop) (w0 W : World) : Prop := ∀ b o, ¬ S b → w0.heap[b]? = some o → o.isCells = true → W.heap[b]? = some o
theorem KeptBut.refl (S : Nat → Prop) (w : World) : KeptBut S w w := fun _ _ _ h _ => h
theorem KeptBut.below {S : Nat → Prop} {w0 W W' : World} (h : KeptBut S w0 W) (k : Below W.heap.size W W') : KeptBut S w0 W' := fun b o hs ho hc => blk_keep (h b o hs ho hc) k
theorem KeptBut.set {S : Nat → Prop} {w0 W : World} (h : KeptBut S w0 W) {p : Addr} (v : Value) (hp : S p.block) : KeptBut S w0 (W.setCell p v) := fun b o hs ho hc => by
  have hne : ¬ p.block = b := fun e => hs (e ▸ hp)
  rw [← h b o hs ho hc]
  simp only [World.setCell, Array.getElem?_modify, if_neg hne]
theorem keptBut_own {β : Type} (B : Nat) (S : Nat → Prop) (w0 : World) : OwnFrom B (fun (_ : β) W => KeptBut S w0 W) := fun _ W W' row hs hg hr b o hb ho hc => by
  have h := hs b o hb ho hc
  refine (hg.block b (blk_lt h) (fun e => ?_)).trans h
  obtain ⟨_, o', ho', hc'⟩ := hr b e.symm
  rw [h] at ho'
  cases ho'
  rw [hc] at hc'
  cases hc'
theorem cells_own {β : Type} (B b : Nat) (o : Obj) (h : o.isCells = true) : OwnFrom B (fun (_ : β) (W : World) => W.heap[b]? = some o) := fun _ W W' row hs hg hr => by
  refine (hg.block b (blk_lt hs) (fun e => ?_)).trans hs
  obtain ⟨_, o', ho', hc'⟩ := hr b e.symm
  rw [hs] at ho'
  cases ho'
  rw [h] at hc'
  cases hc'

def entObj (e : Ent) : Obj := .cells #[.int .u64 e.1, .int .u64 e.2.1, .int .u32 e.2.2.1, .int .u32 e.2.2.2] 26 (0, 0)
def roundAct (p1 p2 s1 s2 : Nat) (a : Act) (x : Int × Ent) (Bx : Nat) : Act :=
  { tmps := (((a.tmps.setIfInBounds p1 (.int .u64 x.1)).setIfInBounds p2 (.agg #[.int .u64 x.2.1, .int .u64 x.2.2.1, .int .u32 x.2.2.2.1, .int .u32 x.2.2.2.2])).setIfInBounds s1 (.int .u64 x.1)).setIfInBounds s2 (.pointer (some ⟨Bx, 0, none⟩)), defers := [] }

theorem wp_range_tiles {assign body : Code} {Q : Exit → Act → World → Prop} {a : Act} {w : World} {g : Operand} {p1 p2 : Tmp} (s1 s2 : Nat) {Bs gb : Nat} (M : List Ent)
    (hg : a.eval g = .func (.func 66) #[] #[.pointer (some ⟨Bs, 0, none⟩)])
    (hseq : SeqStopsK Fence.wide 4 Try.prog 66 #[.pointer (some ⟨Bs, 0, none⟩)] (fun x : Sk.T M => tEnc x.1) (Kpt gb w.heap.size) (fun ys => ys = (Sk.ts M).attach) (fun pre => pre <+: (Sk.ts M).attach) (Sk.ts M).length w)
    (I : List (Sk.T M) → World → Prop) (Ix : Code → List (Sk.T M) → World → Prop) (hI : OwnFrom w.heap.size I) (hIx : ∀ c, OwnFrom w.heap.size (Ix c)) (h0 : I [] w)
    (hassign : ∀ (l : Nat) (pre : List (Sk.T M)) (x : Sk.T M) (W : World) (K : Act → World → Prop), I pre W → w.heap.size ≤ W.heap.size → K (roundAct p1 p2 s1 s2 a x.1 W.heap.size) (W.alloc (entObj x.1.2)) →
      assign.wpIn (Fence.wide.inRound l) 3 Try.prog (Exit.then K (fun _ _ _ => False)) { tmps := (a.tmps.setIfInBounds p1 (.int .u64 x.1.1)).setIfInBounds p2 (.agg #[.int .u64 x.1.2.1, .int .u64 x.1.2.2.1, .int .u32 x.1.2.2.2.1, .int .u32 x.1.2.2.2.2]), defers := [] } W)
    (hIa : ∀ pre W o, I pre W → w.heap.size ≤ W.heap.size ∧ I pre (W.alloc o))
    (hbody : ∀ (l : Nat) (pre : List (Sk.T M)) (x : Sk.T M) (Bx : Nat) (W : World), I pre W → w.heap.size ≤ Bx → W.heap[Bx]? = some (entObj x.1.2) → pre.length < (Sk.ts M).length →
      body.wpIn (Fence.wide.inRound l) 3 Try.prog (ownPostG w.heap.size (Kpt gb w.heap.size) I Ix (pre ++ [x]) W) (roundAct p1 p2 s1 s2 a x.1 Bx) W)
    (hdone : ∀ (D : Nat) (W : World), w.heap.size ≤ D → I (Sk.ts M).attach W → W.heap[D]? = some (.deferred (some [])) → Q .normal { a with defers := { target := .collected D, args := #[] } :: a.defers } W)
    (hstop : ∀ (D : Nat) (c : Code) (pre : List (Sk.T M)) (W : World), w.heap.size ≤ D → pre <+: (Sk.ts M).attach → Ix c pre W → W.heap[D]? = some (.deferred (some [])) → c.wp Try.prog Q { a with defers := { target := .collected D, args := #[] } :: a.defers } W) :
    (Code.rangeFunc g #[p1, p2] assign body).wp Try.prog Q a w := by
  refine wpIn_wide.1 (wpIn_rangeFunc_ownH (F := Fence.wide) (n := 5) rfl (by omega) hg trivial (enters_of Try.func66 (by kernel_rfl) rfl) hseq Kpt.trans (fun W l o o' _ h hc _ => Kpt.putObj W l o o' h hc) (Below.refl _ _) (fun _ => rfl) I Ix hI hIx h0
    (fun x a' W => ∃ Bx, w.heap.size ≤ Bx ∧ W.heap[Bx]? = some (entObj x.1.2) ∧ a' = roundAct p1 p2 s1 s2 a x.1 Bx)
    (fun x a' _ X Y row hs hgr hr => by obtain ⟨Bx, e1, e2, e3⟩ := hs; exact ⟨Bx, e1, cells_own w.heap.size Bx (entObj x.1.2) rfl () X Y row e2 hgr hr, e3⟩) ?_ ?_ ?_ ?_)
  · intro l pre x W K hi hK
    obtain ⟨hs, hi'⟩ := hIa pre W (entObj x.1.2) hi
    have h := hassign l pre x W K hi hs (hK _ _ ((KeepsOthers.alloc _ _).from _) (Kpt.alloc _ _) hi' ⟨_, hs, heap_alloc_new W _, rfl⟩)
    refine cast (congrArg (fun t => Code.wpIn (Fence.wide.inRound l) 3 Try.prog assign (Exit.then K (fun _ _ _ => False)) { tmps := t, defers := [] } W) ?_) h
    simp [tEnc]
  · rintro l pre x a' W _ _ hi ⟨Bx, h1, h2, rfl⟩ hlen
    exact hbody l pre x Bx W hi h1 h2 hlen
  · rintro D xs W hD rfl hi hK
    exact hdone D W hD hi hK
  · intro D c pre W hD hp hx hK
    exact wpIn_wide.2 (hstop D c pre W hD hp hx hK)

/-- a function that holds a range over a function, by the plain walk -/
theorem calls_of_wp_marks {f : FuncId} {fn : Func} {c : Code} {args : Array Value} {w : World} {R : Ending → World → Prop} (hf : Try.prog.funcs[f]? = some fn) (hb : fn.body = some c)
    (h : c.wp Try.prog (bodyPostM Fence.wide 5 Try.prog fn R) { tmps := args ++ Array.replicate (fn.ntmps - args.size) undef, defers := [] } w) : Calls Try.prog f args w R :=
  callsIn_wide.1 (callsIn_of_wp_marks hf hb trivial (wpIn_wide.2 h))
end Go.Proofs.Ytppciejcobmikaa
