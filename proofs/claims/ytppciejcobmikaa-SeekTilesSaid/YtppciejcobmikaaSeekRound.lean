/- A loop over the tiles of a row that counts, looks back, and may leave early: the law at this seat's iterator. -/
import Derived.Test.YtppciejcobmikaaSeekRange
import Derived.Test.YtppciejcobmikaaSeekRise
namespace Go.Proofs.Ytppciejcobmikaa
open Go.RowKit Go.Shelf

theorem tiles_stops2 (F : Fence) (n : Nat) (h6 : F.fn 66) (hro : F.round = none) (hn : 1 ≤ n) (Bs base : Nat) (v : Value) (M : List Ent) (w w0 : World) (hBs : Bs < w.heap.size) (hc : w.cell? ⟨Bs, 0, none⟩ = some v)
    (hO0 : w0.ownsRow base 26 4 v M.length (ecells M)) (hb0 : base < w0.heap.size) (hb : Below w0.heap.size w0 w) (hm : M.length ≤ 100000) (hf : En.fits M) (hsum : ∀ e ∈ M, e.1 + e.2.2.2 < 18446744073709551616) :
    ∃ g, base ≤ g ∧ g < w0.heap.size ∧ SeqStopsK F n Try.prog 66 #[.pointer (some ⟨Bs, 0, none⟩)] (fun x : Sk.T M => tEnc x.1) (Kpt g w.heap.size) (fun ys => ys = (Sk.ts M).attach) (fun pre => pre <+: (Sk.ts M).attach) (Sk.ts M).length w := by
  have hO := ownsRow_keep hO0 hb
  rcases hO0.2 with ⟨rfl, h0⟩ | ⟨g, cap, cur, rfl, hg, hh, hcc, _, _, ht⟩
  · have hM : M = [] := List.eq_nil_of_length_eq_zero h0
    subst hM
    refine ⟨base, Nat.le_refl _, hb0, fun l J Jx W hW _ _ _ hJ0 => ?_⟩
    exact (tiles1_nil F n h6 hro l Bs J W ((hW.cell (p := ⟨Bs, 0, none⟩) hBs).trans hc) hJ0).mono fun e W' ⟨he, hj⟩ => ⟨he, .inl ⟨_, rfl, hj⟩⟩
  · refine ⟨g, hg, blk_lt hh, fun l J Jx W hW hJ _ hY hJ0 => ?_⟩
    exact tiles1_in F n h6 hro hn l Bs g w.heap.size M.length cap M rfl hm hf hsum J Jx W hW.size hJ hY ((hW.cell (p := ⟨Bs, 0, none⟩) hBs).trans hc) ⟨cur, blk_keep (blk_keep hh hb) hW, ht⟩ hJ0

theorem KeptBut.cell {S : Nat → Prop} {w0 W : World} (h : KeptBut S w0 W) {p : Addr} {v : Value} (hs : ¬ S p.block) (hc : w0.cell? p = some v) : W.cell? p = some v := by
  have hc0 := hc
  unfold World.cell? at hc
  split at hc
  · rename_i cs t r he
    have := h p.block _ hs he rfl
    rw [← hc0]
    unfold World.cell?
    rw [this, he]
  · cases hc
theorem KeptBut.ownsRow {S : Nat → Prop} {w0 w1 W : World} (h : KeptBut S w1 W) {base size n : Nat} {e : TypeId} {v : Value} {xs : List Value} (hO : w0.ownsRow base e size v n xs) (hb : Below w0.heap.size w0 w1) (hS : ∀ b, S b → w0.heap.size ≤ b) : W.ownsRow base e size v n xs := by
  obtain ⟨h1, h2⟩ := hO
  refine ⟨h1, ?_⟩
  rcases h2 with h2 | ⟨g, cap, cur, hv, hg, hh, r⟩
  · exact Or.inl h2
  · exact Or.inr ⟨g, cap, cur, hv, hg, h g _ (fun hs => by have := hS g hs; have := blk_lt hh; omega) (blk_keep hh hb) rfl, r⟩
theorem KeptBut.blk {S : Nat → Prop} {w0 w1 W : World} (h : KeptBut S w1 W) {g : Nat} {cs : Array Value} {t : TypeId} {r : Nat × Nat} (hh : w0.heap[g]? = some (.cells cs t r)) (hb : Below w0.heap.size w0 w1) (hS : ∀ b, S b → w0.heap.size ≤ b) : W.heap[g]? = some (.cells cs t r) :=
  h g _ (fun hs => by have := hS g hs; have := blk_lt hh; omega) (blk_keep hh hb) rfl
theorem ownFrom_or {β : Type} {B : Nat} {I J : β → World → Prop} (h : OwnFrom B I) (k : OwnFrom B J) : OwnFrom B (fun s W => I s W ∨ J s W) := fun s W W' row hs hg hr => hs.imp (fun a => h s W W' row a hg hr) (fun a => k s W W' row a hg hr)

def LoopI (bn bl : Nat) (w00 w : World) (n last : Int) (W : World) : Prop :=
  (((W.heap[bn]? = some (.cells #[.int .u64 n] 22 (0, 0)) ∧ W.heap[bl]? = some (.cells #[.int .u64 last] 22 (0, 0))) ∧ KeptBut (fun b => b = bn ∨ b = bl) w W) ∧ Below w00.heap.size w00 W) ∧ w.heap.size ≤ W.heap.size
theorem loopI_own {β : Type} (bn bl : Nat) (w00 w : World) (f g : β → Int) (h : w00.heap.size ≤ w.heap.size) : OwnFrom w.heap.size (fun (s : β) W => LoopI bn bl w00 w (f s) (g s) W) := by
  unfold LoopI
  exact OwnFrom.and (OwnFrom.and (OwnFrom.and (OwnFrom.and (Own.from (boxed_own bn 22 (fun s => .int .u64 (f s))) _) (Own.from (boxed_own bl 22 (fun s => .int .u64 (g s))) _)) (keptBut_own _ _ _)) (ownFrom_below (Nat.le_refl _) h)) (fun s X Y row hs hg hr => Nat.le_trans hs hg.size)
theorem LoopI.below {bn bl : Nat} {w00 w W W' : World} {n last : Int} (h : LoopI bn bl w00 w n last W) (k : Below W.heap.size W W') : LoopI bn bl w00 w n last W' := by
  obtain ⟨⟨⟨⟨h1, h2⟩, h3⟩, h4⟩, h5⟩ := h
  exact ⟨⟨⟨⟨blk_keep h1 k, blk_keep h2 k⟩, h3.below k⟩, bthen2 k h4⟩, Nat.le_trans h5 k.size⟩
theorem LoopI.step {bn bl : Nat} {w00 w W : World} {n last n' last' : Int} (h : LoopI bn bl w00 w n last W) (hne : bn ≠ bl) (h0 : w00.heap.size ≤ bn) (h1 : w00.heap.size ≤ bl) :
    LoopI bn bl w00 w n' last' ((W.setCell ⟨bn, 0, none⟩ (.int .u64 n')).setCell ⟨bl, 0, none⟩ (.int .u64 last')) := by
  obtain ⟨⟨⟨⟨a1, a2⟩, a3⟩, a4⟩, a5⟩ := h
  have b1 : Boxed W bn 22 (.int .u64 n) := a1
  have b2 : Boxed W bl 22 (.int .u64 last) := a2
  refine ⟨⟨⟨⟨?_, ?_⟩, (a3.set _ (Or.inl rfl)).set _ (Or.inr rfl)⟩, (a4.setCell h0 _).setCell h1 _⟩, by simpa using a5⟩
  · exact (Boxed.set _ b1).other hne _
  · exact Boxed.set _ (b2.other (Ne.symm hne) _)
theorem LoopI.keeps {bn bl gb D : Nat} {W W1 : World} (h : Below W.heap.size W W1) (hn : bn ≠ gb) (hl : bl ≠ gb) (hn' : bn < D) (hl' : bl < D) (n' last' : Int) :
    KeepsFrom D W ((W1.setCell ⟨bn, 0, none⟩ (.int .u64 n')).setCell ⟨bl, 0, none⟩ (.int .u64 last')) ∧ Kpt gb D W ((W1.setCell ⟨bn, 0, none⟩ (.int .u64 n')).setCell ⟨bl, 0, none⟩ (.int .u64 last')) :=
  ⟨((KeepsOthers.of_below h).trans ((KeepsOthers.setCell W1 ⟨bn, 0, none⟩ _).trans (KeepsOthers.setCell _ ⟨bl, 0, none⟩ _))).from _,
   (Kpt.below h).trans ((Kpt.setCell W1 (p := ⟨bn, 0, none⟩) _ hn hn').trans (Kpt.setCell _ (p := ⟨bl, 0, none⟩) _ hl hl'))⟩

theorem wp_range_seek {assign body : Code} {R : Exit → Act → World → Prop} {a : Act} {w : World} {g : Operand} {p1 p2 : Tmp} (s1 s2 : Nat) {Bs gb : Nat} (L : List Ent) (bn bl : Nat) (w00 : World) (lim : Int)
    (hg : a.eval g = .func (.func 66) #[] #[.pointer (some ⟨Bs, 0, none⟩)])
    (hseq : SeqStopsK Fence.wide 4 Try.prog 66 #[.pointer (some ⟨Bs, 0, none⟩)] (fun x : Sk.T (Sk.own L) => tEnc x.1) (Kpt gb w.heap.size) (fun ys => ys = (Sk.ts (Sk.own L)).attach) (fun pre => pre <+: (Sk.ts (Sk.own L)).attach) (Sk.ts (Sk.own L)).length w)
    (hf : En.fits L) (hlim : 0 < lim) (h0 : LoopI bn bl w00 w 0 0 w) (hw : w00.heap.size ≤ w.heap.size)
    (hassign : ∀ (l : Nat) (x : Sk.T (Sk.own L)) (W : World) (K : Act → World → Prop), K (roundAct p1 p2 s1 s2 a x.1 W.heap.size) (W.alloc (entObj x.1.2)) →
      assign.wpIn (Fence.wide.inRound l) 3 Try.prog (Exit.then K (fun _ _ _ => False)) { tmps := (a.tmps.setIfInBounds p1 (.int .u64 x.1.1)).setIfInBounds p2 (.agg #[.int .u64 x.1.2.1, .int .u64 x.1.2.2.1, .int .u32 x.1.2.2.2.1, .int .u32 x.1.2.2.2.2]), defers := [] } W)
    (hbody : ∀ (l n : Nat) (last : Int) (x : Sk.T (Sk.own L)) (Bx : Nat) (W : World) (Q : Exit → Act → World → Prop), LoopI bn bl w00 w n last W → (n : Int) < lim → (0 ≤ last ∧ last < 18446744073709551616) → W.heap[Bx]? = some (entObj x.1.2) →
      (0 < n → x.1.1 ≤ last → ∀ a' W', KeepsOthers W W' → Q .ret a' W') →
      (¬ (0 < n ∧ x.1.1 ≤ last) → (n : Int) + 1 = lim → ∀ a' W', (KeepsFrom w.heap.size W W' ∧ Kpt gb w.heap.size W W') → LoopI bn bl w00 w (n + 1) x.1.1 W' → Q (.exit 2) a' W') →
      (¬ (0 < n ∧ x.1.1 ≤ last) → (n : Int) + 1 < lim → ∀ a' W', (KeepsFrom w.heap.size W W' ∧ Kpt gb w.heap.size W W') → LoopI bn bl w00 w (n + 1) x.1.1 W' → Q .normal a' W') →
      body.wpIn (Fence.wide.inRound l) 3 Try.prog Q (roundAct p1 p2 s1 s2 a x.1 Bx) W)
    (hnext : ∀ (D : Nat) (W : World) (N last : Int), w.heap.size ≤ D → LoopI bn bl w00 w N last W → N = (if Sk.all L < lim then Sk.all L else lim) → W.heap[D]? = some (.deferred (some [])) → R .normal { a with defers := { target := .collected D, args := #[] } :: a.defers } W) :
    (Code.rangeFunc g #[p1, p2] assign body).wp Try.prog (Exit.inBlock 2 R) a w := by
  have hal := Sk.all_len hf
  refine wp_range_tiles s1 s2 (Sk.own L) hg hseq (fun pre W => LoopI bn bl w00 w (pre.length : Int) (Sk.last pre) W ∧ (pre.length : Int) < lim)
    (fun c pre W => (c = .ret ∧ ¬ Sk.Rising pre) ∨ (c = .exit 2 ∧ (LoopI bn bl w00 w (pre.length : Int) (Sk.last pre) W ∧ (pre.length : Int) = lim)))
    (OwnFrom.and (loopI_own bn bl w00 w _ _ hw) (ownFrom_pure _ _)) (fun c => ownFrom_or (ownFrom_pure _ _) (OwnFrom.and (ownFrom_pure _ (fun _ => c = .exit 2)) (OwnFrom.and (loopI_own bn bl w00 w _ _ hw) (ownFrom_pure _ _)))) ⟨h0, hlim⟩
    (fun l pre x W K _ _ hK => hassign l x W K hK) (fun pre W o h => ⟨h.1.2, h.1.below (blk_new W o), h.2⟩) ?_ ?_ ?_
  · intro l pre x Bx W ⟨hi, hn⟩ hBx hb _
    refine hbody l pre.length (Sk.last pre) x Bx W _ hi hn (Sk.last_bd hf pre) hb ?_ ?_ ?_
    · intro h1 h2 a' W' hk
      exact ⟨hk.from _, Or.inl ⟨rfl, Sk.fall h1 h2⟩⟩
    · intro _ h2 a' W' hk hi'
      refine ⟨hk.1, Or.inr ⟨rfl, ?_, ?_⟩⟩
      · rw [Sk.last_snoc, List.length_append]; exact hi'
      · rw [List.length_append]; exact h2
    · intro _ h2 a' W' hk hi'
      refine ⟨hk.1, hk.2, ?_, ?_⟩
      · rw [Sk.last_snoc, List.length_append]; exact hi'
      · rw [List.length_append]; exact h2
  · rintro D W hD ⟨hi, hn⟩ hK
    rw [List.length_attach, hal] at hi hn
    exact hnext D W _ _ hD hi (by rw [if_pos hn]) hK
  · rintro D c pre W hD hp (⟨rfl, h⟩ | ⟨rfl, hi, hn⟩) hK
    · exact absurd (Sk.rise_pre hf hp) h
    · refine wp_exit ?_
      have hle : (pre.length : Int) ≤ Sk.all L := by
        have := hp.length_le
        rw [List.length_attach] at this
        omega
      exact hnext D W _ _ hD hi (by rw [if_neg (by omega)]; exact hn) hK
end Go.Proofs.Ytppciejcobmikaa
