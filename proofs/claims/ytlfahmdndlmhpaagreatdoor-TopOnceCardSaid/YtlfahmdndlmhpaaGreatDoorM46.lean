/- A drawn region inside a round, walked in the order of its text under one condition on the world: the laws of OrdersHeld, where no operation is a defer. The walk of leaves.Cut. -/
import Derived.Test.YtlfahmdndlmhpaaGreatDoorM45
import Derived.OrdersHeld
import Derived.Test.YtlfahmdndlmhpaaGreatDoorM44
namespace Go.Proofs.YtlfahmdndlmhpaaGreatDoor
open Go.RowKit

section
variable {F : Fence} {n : Nat} {P : Program} {ops : Array Oper} {Q : Exit → Act → World → Prop} {md : Region.Mode} {S : World → Prop}

def noDefer (ops : Array Oper) : Bool := ops.all fun o => match o.op with | .defer _ => false | _ => true
theorem noDefer_spec (h : noDefer ops = true) : ∀ (j : Nat) (o : Oper), ops[j]? = some o → ∀ c, o.op ≠ .defer c := by
  intro j o ho c e
  have h1 := Array.all_eq_true.1 h j (Array.getElem?_eq_some_iff.1 ho).1
  rw [(Array.getElem?_eq_some_iff.1 ho).2, e] at h1
  cases h1
def YieldsR (P : Program) (ops : Array Oper) (S : World → Prop) (o : Oper) (v : Value) (a : Act) : Prop := YieldsIf P ops S o v a ∧ ∀ w, o.about P w a.eval = none
theorem YieldsR.wpOpIn {i : Nat} {o : Oper} {v : Value} {a : Act} (hnd : ∀ c, o.op ≠ .defer c) (hi : ops[i]? = some o) (hy : YieldsR P ops S o v a)
    {K : Act → World → Prop} {w : World} (hS : S w) (h : K (a.put o.dst v) w) : wpOpIn F n P ops Q i K a w := by
  unfold Go.wpOpIn
  simp only [hi]
  have hab : ∀ f, o.about P w a.eval = some f → F.fn f := fun f hf => by rw [hy.2 w] at hf; cases hf
  rcases hy.1 with ⟨hw, hv⟩ | ⟨hw, rfl⟩
  · simp only [hw, if_true, Oper.wpIn, Oper.semAt_eq _ _ _ hnd, hv w hS, Oper.uponIn]; exact ⟨hab, h⟩
  · simp only [hw, Bool.false_eq_true, if_false]; exact ⟨hab, h⟩
theorem YieldsR.of_same {o : Oper} {v : Value} {a a' : Act} (hy : YieldsR P ops S o v a) (he : execOp a'.eval o = execOp a.eval o)
    (hw : Region.wanted o (yielded ops a'.tmps) = Region.wanted o (yielded ops a.tmps)) (hb : ∀ w, o.about P w a'.eval = o.about P w a.eval) : YieldsR P ops S o v a' :=
  ⟨hy.1.of_same he hw, fun w => by rw [hb w]; exact hy.2 w⟩
theorem wpOpIn_putR {j : Nat} {oi oj : Oper} {v : Value} (hnd : ∀ c, oj.op ≠ .defer c) (hj : ops[j]? = some oj) (hap : oi.apart ops oj = true)
    (hsi : ∀ cs b, oi.op ≠ .select cs b) (hsj : ∀ cs b, oj.op ≠ .select cs b)
    (hQ : ∀ c a w, Q (.panic c) (a.put oi.dst v) w → Q (.panic c) a w) {K : Act → World → Prop} {a : Act} {w : World}
    (hy : YieldsR P ops S oi v a) (h : wpOpIn F n P ops Q j K (a.put oi.dst v) w) :
    wpOpIn F n P ops Q j (fun a' w' => YieldsR P ops S oi v a' ∧ K (a'.put oi.dst v) w') a w := by
  obtain ⟨h1, h2, h3⟩ := Oper.apart_spec hap
  have keep : ∀ (a : Act), YieldsR P ops S oi v a → ∀ u, YieldsR P ops S oi v (a.put oj.dst u) := fun a hy u =>
    hy.of_same (execOp_put oi hsi a oj.dst u h3) (wanted_put oi a oj.dst u h3) (fun w => about_put oi w a oj.dst u h3)
  have keepD : ∀ d, YieldsR P ops S oi v { a with defers := d :: a.defers } := fun d => hy.of_same rfl rfl (fun _ => rfl)
  unfold wpOpIn at *
  simp only [hj] at *
  rw [wanted_put oj a oi.dst v h1, about_put oj w a oi.dst v h1] at h
  split
  · rename_i hw
    simp only [hw, if_true] at h
    unfold Oper.wpIn at *
    rw [about_put oj w a oi.dst v h1] at h
    refine ⟨h.1, ?_⟩
    have h := h.2
    rw [Oper.semAt_eq _ _ _ hnd, execOp_put oj hsj a oi.dst v h1] at h
    rw [Oper.semAt_eq _ _ _ hnd]
    generalize (execOp a.eval oj).run P w = r at *
    cases r with
    | ok x w' =>
      cases x <;> simp only [Oper.uponIn] at h ⊢
      case value u => exact ⟨keep a hy u, by rw [← Act.put_comm a v u h2]; exact h⟩
      case skip => exact ⟨keep a hy _, by rw [← Act.put_comm a v undef h2]; exact h⟩
      case defer d =>
        refine ⟨keep _ (keepD d) _, ?_⟩
        rw [← Act.put_comm _ v undef h2, ← Act.put_defers]
        exact h
      case enter f args =>
        refine ⟨h.1, CallsIn.mono h.2 fun e w'' he => ?_⟩
        cases e with
        | returned u => exact ⟨keep a hy u, by rw [← Act.put_comm a v u h2]; exact he⟩
        | panicked c => exact hQ _ _ _ he
        | outgrown => exact he
      case row row args => exact ⟨h.1, RowsIn.mono h.2 fun u w'' he => ⟨keep a hy u, by rw [← Act.put_comm a v u h2]; exact he⟩⟩
      case round l f tmps assign body =>
        refine ⟨h.1, RoundIn.mono h.2 fun e w'' he => ?_⟩
        cases e with
        | returned u => exact ⟨keep a hy u, by rw [← Act.put_comm a v u h2]; exact he⟩
        | panicked c => exact hQ _ _ _ he
        | outgrown => exact he
    | halt x w' =>
      cases x <;> simp only [Oper.uponIn] at h ⊢
      case panic u => exact hQ _ _ _ h
  · rename_i hw
    simp only [hw] at h
    exact ⟨h.1, keep a hy _, by rw [← Act.put_comm a v undef h2]; exact h.2⟩
def wpAnyR (F : Fence) (n : Nat) (P : Program) (md : Region.Mode) (ops : Array Oper) (Q : Exit → Act → World → Prop) (S : World → Prop) : Nat → Array Bool → Act → World → Prop
  | 0, listed, a, w => Region.ready md ops listed = [] ∧ Q .normal a w
  | fuel + 1, listed, a, w =>
    (Region.ready md ops listed = [] → Q .normal a w) ∧
    ∀ i ∈ Region.ready md ops listed, wpOpIn F n P ops Q i (fun a' w' => S w' ∧ wpAnyR F n P md ops Q S fuel (listed.setIfInBounds i true) a' w') a w
theorem wpAnyIn_of_round : ∀ (fuel : Nat) (listed : Array Bool) (a : Act) (w : World), wpAnyR F n P md ops Q S fuel listed a w → wpAnyIn F n P md ops Q fuel listed a w
  | 0, _, _, _, h => h
  | fuel + 1, _, _, _, h => ⟨h.1, fun i hi => wpOpIn_mono (fun a' w' h' => wpAnyIn_of_round fuel _ a' w' h'.2) (h.2 i hi)⟩
theorem wpAnyR_first {i : Nat} {oi : Oper} {v : Value} (hnd : ∀ (j : Nat) (o : Oper), ops[j]? = some o → ∀ c, o.op ≠ .defer c) (hi : ops[i]? = some oi) (hsel : ∀ (j : Nat) (o : Oper) cs b, ops[j]? = some o → o.op ≠ .select cs b)
    (hQ : ∀ c a w, Q (.panic c) (a.put oi.dst v) w → Q (.panic c) a w) :
    ∀ (fuel : Nat) (listed : Array Bool) (a : Act) (w : World),
      (∀ j oj, ops[j]? = some oj → j ≠ i → listed.getD j true = false → (∀ e ∈ oj.after, Region.binds md e = true → e.on ≠ i) → oi.apart ops oj = true) →
      i ∈ Region.ready md ops listed → YieldsR P ops S oi v a → S w →
      wpAnyR F n P md ops Q S fuel (listed.setIfInBounds i true) (a.put oi.dst v) w → wpAnyR F n P md ops Q S (fuel + 1) listed a w := by
  intro fuel
  induction fuel with
  | zero =>
    intro listed a w _ hr hy hS H
    refine ⟨fun h => (by rw [h] at hr; cases hr), fun j hj => ?_⟩
    by_cases hji : j = i
    · subst hji; exact hy.wpOpIn (hnd _ _ hi) hi hS ⟨hS, H⟩
    · have := ready_mono hj hji
      rw [H.1] at this
      cases this
  | succ fuel ih =>
    intro listed a w hfree hr hy hS H
    refine ⟨fun h => (by rw [h] at hr; cases hr), fun j hj => ?_⟩
    by_cases hji : j = i
    · subst hji; exact hy.wpOpIn (hnd _ _ hi) hi hS ⟨hS, H⟩
    · have h1 := H.2 j (ready_mono hj hji)
      obtain ⟨hjun, oj, hoj, hall⟩ := mem_ready.1 hj
      have hnot : ∀ e ∈ oj.after, Region.binds md e = true → e.on ≠ i := fun e he hb heq => by
        have h1 := hall e he hb
        have h0 := (mem_ready.1 hr).1
        rw [heq] at h1
        rcases Nat.lt_or_ge i listed.size with h' | h'
        · simp [h'] at h0 h1; rw [h0] at h1; cases h1
        · simp [Array.getElem?_eq_none h'] at h1
      have h2 := wpOpIn_putR (hnd _ _ hoj) hoj (hfree j oj hoj hji hjun hnot) (fun cs b => hsel i oi cs b hi) (fun cs b => hsel j oj cs b hoj) hQ hy h1
      have hfree' : ∀ k ok, ops[k]? = some ok → k ≠ i → (listed.setIfInBounds j true).getD k true = false →
          (∀ e ∈ ok.after, Region.binds md e = true → e.on ≠ i) → oi.apart ops ok = true := fun k ok hk hki hun hno => by
        refine hfree k ok hk hki ?_ hno
        by_cases hjk : j = k
        · subst hjk; exact hjun
        · rw [getD_set_ne true hjk] at hun; exact hun
      refine wpOpIn_mono (fun a' w' h3 => ⟨h3.2.1, ih (listed.setIfInBounds j true) a' w' hfree' (ready_mono hr (Ne.symm hji)) h3.1 h3.2.1 ?_⟩) h2
      rw [Array.setIfInBounds_comm _ _ hji]
      exact h3.2.2
theorem round_start {id : Nat} {a : Act} {w : World} (S : World → Prop) (hm : P.follows .mixedOrders = true) (hS : S w.drew) (h : S w.drew → wpAnyR F n P .any ops Q S ops.size (Array.replicate ops.size false) a w.drew) : (Code.region id ops true).wpIn F n P Q a w :=
  wpIn_region_any hm (wpAnyIn_of_round _ _ _ _ (h hS))
theorem round_take {i : Nat} {d : Option Tmp} {op : Op} {t : TypeId} {p : String} {af : Array Edge} {g : Option (Nat × Bool)} {v : Value} {fuel : Nat} {listed : Array Bool} {a : Act} {w : World} (hi : ops[i]? = some ⟨d, op, t, p, af, g⟩)
    (hn : noDefer ops = true) (hs : Region.noSelect ops = true) (hf : Region.free md ops listed i = true) (hr : (Region.ready md ops listed).contains i = true)
    (hQ : ∀ c a w, Q (.panic c) (a.put d v) w → Q (.panic c) a w) (hw : Region.wanted ⟨d, op, t, p, af, g⟩ (yielded ops a.tmps) = true) (hab : ∀ w, Oper.about P w a.eval ⟨d, op, t, p, af, g⟩ = none)
    (hy : ∀ w, S w → (execOp a.eval ⟨d, op, t, p, af, g⟩).run P w = .ok (.value v) w) (hS : S w)
    (h : wpAnyR F n P md ops Q S fuel (listed.setIfInBounds i true) (a.put d v) w) : wpAnyR F n P md ops Q S (fuel + 1) listed a w :=
  wpAnyR_first (noDefer_spec hn) hi (Region.noSelect_spec hs) hQ fuel listed a w (Region.free_spec hi hf) (by simpa using hr) ⟨Or.inl ⟨hw, hy⟩, hab⟩ hS h
theorem round_skip {i : Nat} {d : Option Tmp} {op : Op} {t : TypeId} {p : String} {af : Array Edge} {g : Option (Nat × Bool)} {fuel : Nat} {listed : Array Bool} {a : Act} {w : World} (hi : ops[i]? = some ⟨d, op, t, p, af, g⟩)
    (hn : noDefer ops = true) (hs : Region.noSelect ops = true) (hf : Region.free md ops listed i = true) (hr : (Region.ready md ops listed).contains i = true)
    (hQ : ∀ c a w, Q (.panic c) (a.put d undef) w → Q (.panic c) a w) (hw : Region.wanted ⟨d, op, t, p, af, g⟩ (yielded ops a.tmps) = false) (hab : ∀ w, Oper.about P w a.eval ⟨d, op, t, p, af, g⟩ = none) (hS : S w)
    (h : wpAnyR F n P md ops Q S fuel (listed.setIfInBounds i true) (a.put d undef) w) : wpAnyR F n P md ops Q S (fuel + 1) listed a w :=
  wpAnyR_first (noDefer_spec hn) hi (Region.noSelect_spec hs) hQ fuel listed a w (Region.free_spec hi hf) (by simpa using hr) ⟨Or.inr ⟨hw, rfl⟩, hab⟩ hS h
theorem round_one {i fuel : Nat} {o : Oper} {listed : Array Bool} {a : Act} {w : World} (hr : Region.ready md ops listed = [i]) (hi : ops[i]? = some o)
    (h : wpListIn F n P ops (Qk (fun a' w' => S w' ∧ wpAnyR F n P md ops Q S fuel (listed.setIfInBounds i true) a' w') Q) [o] a w) : wpAnyR F n P md ops Q S (fuel + 1) listed a w := by
  refine ⟨fun e => (by rw [hr] at e; cases e), fun j hj => ?_⟩
  rw [hr, List.mem_singleton] at hj
  subst hj
  exact opIn_list hi h
theorem round_done {listed : Array Bool} {a : Act} {w : World} (hr : Region.ready md ops listed = []) (h : Q .normal a w) : ∀ fuel, wpAnyR F n P md ops Q S fuel listed a w
  | 0 => ⟨hr, h⟩
  | _ + 1 => ⟨fun _ => h, by rw [hr]; simp⟩
end
theorem and_then_in {p q : Prop} (h : p) (k : p → q) : p ∧ q := ⟨h, k h⟩
end Go.Proofs.YtlfahmdndlmhpaaGreatDoor
namespace Go.Proofs.YtlfahmdndlmhpaaGreatDoor
open Go.RowKit Go.Shelf

theorem slc_info : (Tryz.prog.info? 35).map (fun i => (i.zero, i.size, i.bytes)) = some (some (.slice none 0 0), 1, 24) := by kernel_rfl
theorem take_min {α : Type} (l : List α) (k : Nat) : l.take (min k l.length) = l.take k := by
  rcases Nat.le_total k l.length with h | h
  · rw [Nat.min_eq_left h]
  · rw [Nat.min_eq_right h, List.take_of_length_le (Nat.le_refl _), List.take_of_length_le h]
theorem reads_chunk {w : World} {B : Nat} {A : Option Addr} {L : List Ent} (h : Reads w B 4 A L.length (ecells L)) {k j : Nat} (hj : j * k ≤ L.length) :
    Reads w B 4 (A.map (·.add (j * k * 4))) (min k (L.length - j * k)) (ecells (Lv.chunk L k j)) := by
  have h1 := h.cut (k := j * k) (cap := L.length + 1) hj (by omega)
  rw [if_neg (by omega), ecells_drop] at h1
  have h2 := h1.take_ (k := min k (L.length - j * k)) (by omega)
  rw [ecells_take] at h2
  have h3 := take_min (L.drop (j * k)) k
  rw [List.length_drop] at h3
  rw [h3] at h2
  exact h2
theorem own_grown {X Y : World} {base size n base' size' n' : Nat} {e e' : TypeId} {v u : Value} {xs xs' : List Value} (h : X.ownsRow base e size v n xs) (hg : X.grownBy Y u.ownBlock) (hu : X.ownsRow base' e' size' u n' xs') (hne : e ≠ e') : Y.ownsRow base e size v n xs := by
  obtain ⟨h1, h2⟩ := h
  refine ⟨h1, ?_⟩
  rcases h2 with h2 | ⟨g, cap, cur, hv, hb, hh, r⟩
  · exact Or.inl h2
  · refine Or.inr ⟨g, cap, cur, hv, hb, (hg.block g (blk_lt hh) (fun e1 => ?_)).trans hh, r⟩
    rcases hu.2 with ⟨hv', _⟩ | ⟨g', cap', cur', hv', hb', hh', _⟩
    · rw [hv'] at e1; cases e1
    · rw [hv'] at e1
      cases e1
      rw [hh'] at hh
      injection hh with hh
      injection hh with _ h2 _
      exact hne h2.symm
/-- a row of rows, chunk by chunk -/
def CutsIn (L : List Ent) (k D : Nat) (X : World) (vs : List Value) : Prop := ∀ j x, vs[j]? = some x → X.ownsRow D 43 4 x (Lv.chunk L k j).length (ecells (Lv.chunk L k j))
theorem cuts_snoc {L : List Ent} {k D i : Nat} {X : World} {vs : List Value} {x : Value} (hl : vs.length = i) (h : CutsIn L k D X vs) (hx : X.ownsRow D 43 4 x (Lv.chunk L k i).length (ecells (Lv.chunk L k i))) : CutsIn L k D X (vs ++ [x]) := by
  intro j y hj
  rcases Nat.lt_or_ge j vs.length with h1 | h1
  · rw [List.getElem?_append_left h1] at hj
    exact h j y hj
  · rw [List.getElem?_append_right h1] at hj
    obtain ⟨h2, rfl⟩ : j - vs.length = 0 ∧ y = x := by
      rcases Nat.eq_zero_or_pos (j - vs.length) with h2 | h2
      · rw [h2] at hj; simp at hj; exact ⟨h2, hj.symm⟩
      · rw [List.getElem?_eq_none (by simp; omega)] at hj; cases hj
    obtain rfl : j = i := by omega
    exact hx
def CutI (L : List Ent) (k B b5 D : Nat) (w : World) (i : Nat) (X : World) : Prop := ∃ v vs, X.heap[b5]? = some (.cells #[v] 112 (0, 0)) ∧ X.ownsRow D 35 1 v i vs ∧ CutsIn L k D X vs ∧ D ≤ X.heap.size ∧ Below B w X
def LeafCutPost (L : List Ent) (k : Nat) (w : World) (e : Ending) (w' : World) : Prop := ∃ v vs, e = .returned v ∧ w'.ownsRow w.heap.size 35 1 v (Lv.cnt L.length k) vs ∧ CutsIn L k w.heap.size w' vs ∧ Below w.heap.size w w'
attribute [local go_sem] Oper.semAt_some
set_option maxRecDepth 100000 in
set_option maxHeartbeats 4000000 in
theorem leafcut_any (A : Option Addr) (cap : Nat) (L : List Ent) (B k : Nat) (w : World) (hk : 0 < k) (hk2 : k ≤ 4096) (hl : L.length ≤ 4096) (hcap : L.length ≤ cap) (hr : Reads w B 4 A L.length (ecells L)) (hB : B ≤ w.heap.size) :
    Calls Tryz.prog 49 #[.slice A L.length cap, .int .i64 (k : Int)] w (LeafCutPost L k w) := by
  have HR := Lib.hid hr
  have hd : ¬ ((k : Int) < 1) := by omega
  clear hr
  refine calls_of_wp_marks Tryz.func49 rfl ?_
  simp only [Tryz.ntmps49, List.size_toArray, List.length_cons, List.length_nil, Nat.reduceAdd, Nat.reduceSub, Array.replicate_succ, Array.replicate_zero, List.push_toArray, List.append_toArray, List.nil_append, List.cons_append]
  go_wp2_with fail
  refine (chunk_any A L.length cap k (by omega) _).mono ?_; rintro e w2 ⟨rfl, hB2, hK2, hb2⟩
  have HV2 := Lib.hid (blk_keep2 hb2 (heap_alloc_new w (.cells #[.slice none 0 0] 112)))
  have hsz2 := blk_lt hK2
  have hw2 := bthen (blk_new w (.cells #[.slice none 0 0] 112)) hb2
  rw [World.size_alloc] at hB2 hK2 hsz2
  have HB2 := Lib.hid hB2
  have HK2 := Lib.hid hK2
  have HR2 := Lib.hid (HR.out.below (hw2.mono hB))
  clear hB2 hK2 hb2
  go_wp2_with fail
  have hseq := chunk_seq A cap L k (w.heap.size + 1) (w.heap.size + 1 + 1) B w.heap.size w2 hk hk2 hl hcap HB2.out HK2.out (by omega) (by omega) HR2.out (by omega) hB
  have HSEQ := Lib.hid hseq
  clear hseq
  refine wp_rangeGo (a1 := ?a1) (I := CutI L k w.heap.size w.heap.size w2.heap.size w) (hseq := HSEQ.out) rfl (fun _ _ => rfl) ?hAo (fun h k => h.trans k) ?hKo ?hps ?hIa ?hIo ?hIn ?h0 ?hassign ?hbody ?hdone
  case hassign =>
    intro l x W K hK
    simp only [cEnc, List.zip_toArray, List.zip_cons_cons, List.zip_nil_right, List.foldl_toArray, List.foldl_cons, List.foldl_nil, List.setIfInBounds_toArray, List.set_cons_succ, List.set_cons_zero]
    gi_wp2
    exact hK
  case hps => intro x; rfl
  case hAo => exact fun B X Y k o h hk _ => blk_keep hk h
  case hKo =>
    intro X k o o' hk ho hw
    refine ⟨by simp [World.putObj], fun j p hj hq => ?_⟩
    have hne : j ≠ k := fun e => by
      subst e
      rw [ho] at hj
      cases hj
      rcases hq with h | h
      · omega
      · rw [Rg.own_not hw] at h; cases h
    exact (World.putObj_heap_other (by omega)).trans hj
  case hIa =>
    rintro B i X Y hB ⟨v, vs, h1, h2, h3, h4, h5⟩ hA
    exact ⟨v, vs, blk_keep h1 hA, ownsRow_keep h2 hA, fun j x hj => ownsRow_keep (h3 j x hj) hA, Nat.le_trans h4 hA.size, bthen h5 hA⟩
  case hIo =>
    rintro i X k o o' hk ho hw ⟨v, vs, h1, h2, h3, h4, h5⟩
    exact ⟨v, vs, (World.putObj_heap_other (by omega)).trans h1, own_put ho hw h2, fun j x hj => own_put ho hw (h3 j x hj), by simpa using h4, put_below h5 (by omega)⟩
  case hIn =>
    rintro i X o _ ⟨v, vs, h1, h2, h3, h4, h5⟩
    exact ⟨v, vs, blk_alloc h1 _, h2.alloc _, fun j x hj => (h3 j x hj).alloc _, by simp; omega, h5.alloc h5.size _⟩
  case h0 => exact ⟨_, [], HV2.out, World.ownsRow_nil _ _ _ _, fun j x hj => by simp at hj, Nat.le_refl _, hw2⟩
  case hbody =>
    rintro l i x X hx ⟨v, vs, hI1, hI2, hI3, hI4, hI5⟩
    have HI1 := Lib.hid hI1
    have HI2 := Lib.hid hI2
    have HI3 := Lib.hid hI3
    have HI5 := Lib.hid hI5
    have HX := Lib.hid hx
    obtain ⟨hi1, hi2⟩ := List.getElem?_eq_some_iff.1 hx
    rw [List.getElem_range] at hi2
    subst hi2
    rw [List.length_range] at hi1
    have hik := (Lv.cnt_iff hk).1 hi1
    have HR5 := Lib.hid (reads_chunk (k := k) (j := i) (HR.out.below (hI5.mono hB)) (by omega))
    have HML := Lib.hid (Lv.chunk_len L k i).symm
    have hm : min k (L.length - i * k) ≤ 100000 := by omega
    have hcn : Lv.cnt L.length k ≤ 4096 := Nat.le_trans (Lv.cnt_le hk) hl
    obtain ⟨A', hA'⟩ : ∃ A', A' = A.map (·.add (i * k * 4)) := ⟨_, rfl⟩
    obtain ⟨m, hm'⟩ : ∃ m, m = min k (L.length - i * k) := ⟨_, rfl⟩
    rw [← hA', ← hm'] at HR5 ⊢
    rw [← hm'] at HML hm
    have c0 := cell_of_row X w.heap.size 0 _ _ _ HI1.out
    have hBX : B ≤ X.drew.heap.size := Nat.le_trans hB HI5.out.size
    obtain ⟨j0, hj, jz0, jz1, jz2⟩ := info_parts slc_info
    clear hx hI1 hI2 hI3 hI5 hA' hm' HX hik
    gi_wp2
    refine wpIn_region_any (by kernel_rfl) ?_
    change wpAnyIn _ _ _ _ _ _ 6 #[false, false, false, false, false, false] _ X.drew
    -- ORDERS
    refine anyIn_two (i := 0) (j := 1) (by kernel_rfl) rfl rfl ?_ ?_
    · gi_wp2
      change wpAnyIn _ _ _ _ _ _ 5 #[true, false, false, false, false, false] _ _
      refine anyIn_one (i := 1) (by kernel_rfl) rfl ?_
      gi_wp2
      change wpAnyIn _ _ _ _ _ _ 4 #[true, true, false, false, false, false] _ _
      refine anyIn_one (i := 2) (by kernel_rfl) rfl ?_
      gi_wp2
      refine ⟨trivial, ?_⟩
      refine (CallsIn.inRound l (callsIn_wide.2 (entclone_any A' m m (Lv.chunk L k i) B _ HR5.out.drew HML.out hBX hm))).mono ?_
      rintro e w3 ⟨v3, rfl, hO3, hb3⟩
      have hsz3 : X.heap.size ≤ w3.heap.size := hb3.size
      have hV3 := blk_keep2 hb3 (hid_drew HI1).out
      have HO2 := Lib.hid (ownsRow_keep HI2.out.drew hb3)
      have HI3' := Lib.hid (fun j x hj => ownsRow_keep (HI3.out j x hj).drew hb3 : CutsIn L k w2.heap.size w3 vs)
      have HI5' := Lib.hid (bthen HI5.out.drew hb3)
      have HK3 : Hid (Nk w2.heap.size w.heap.size X w3) := Lib.hid (by have h : Nk w2.heap.size w.heap.size X.drew w3 := Nk.of_below hb3; exact ⟨h.size, h.same⟩)
      have HR3 : Hid (Rg.Keeps X w3) := Lib.hid ((Rg.Keeps.drew X).trans (Rg.Keeps.below hb3))
      clear hb3
      obtain ⟨A3, c3, rfl, hc3⟩ := own_slice hO3
      have HO3 := Lib.hid (ownsRow_base hO3 (show w2.heap.size ≤ X.drew.heap.size from hI4))
      have HV3 := Lib.hid hV3
      clear c0 hO3 hV3
      have c0 := cell_of_row w3 w.heap.size 0 _ _ _ HV3.out
      gi_wp2
      change wpAnyIn _ _ _ _ _ _ 3 #[true, true, true, false, false, false] _ _
      refine anyIn_one (i := 3) (by kernel_rfl) rfl ?_
      gi_wp2
      change wpAnyIn _ _ _ _ _ _ 2 #[true, true, true, true, false, false] _ _
      clear c0
      refine anyIn_one (i := 4) (by kernel_rfl) rfl ?_
      refine wpListIn_append_own _ rfl (.tmp 13) (.tmp 16) _ rfl w2.heap.size 35 j0 _ 1 24 Tryz.underlying112 hj jz0 jz1 jz2 rfl (by omega) v i vs rfl (HO2.out.alloc _) ⟨w3.heap.size, 0, none⟩ 1 1 [.slice A3 (Lv.chunk L k i).length c3] rfl rfl ?c1 ?c2 ?c3 ?c4 ?c5 ?_
      case c1 => intro j u hu; exact blk1 (heap_alloc_new w3 _) j u hu
      case c2 => intro u hu; simp at hu; rcases hu with rfl; rfl
      case c3 => simp only [maxLen]; omega
      case c4 => omega
      case c5 => simp; omega
      intro v' w4 hown4 hgr4 _
      have hO4 := HO2.out.alloc (.cells #[.slice A3 (Lv.chunk L k i).length c3] 35)
      have HV4 : Hid (w4.heap[w.heap.size]? = some (.cells #[v] 112 (0, 0))) := Lib.hid (blk_grown (blk_alloc HV3.out _) hgr4 (fun k e => by have := (hO4.lt k e).1; omega))
      have HC4 : Hid (CutsIn L k w2.heap.size w4 (vs ++ [.slice A3 (Lv.chunk L k i).length c3])) := Lib.hid (cuts_snoc (by simpa using HO2.out.1) (fun j x hj => own_grown ((HI3'.out j x hj).alloc _) hgr4 hO4 (by decide)) (own_grown (HO3.out.alloc _) hgr4 hO4 (by decide)))
      have HW4 : Hid (Below w.heap.size w w4) := Lib.hid ((HI5'.out.alloc HI5'.out.size _).grown hgr4 (by simp; omega) (fun k e => by have := (hO4.lt k e).1; omega))
      have HK4 : Hid (Nk w2.heap.size w.heap.size X w4) := Lib.hid ((HK3.out.trans (Nk.of_below (blk_new w3 _))).trans (Nk.grown hgr4 hO4 rfl (Nat.le_refl _)))
      have HR4 : Hid (Rg.Keeps X w4) := Lib.hid ((HR3.out.trans (Rg.Keeps.below (blk_new w3 _))).trans (Keeps.grown' hgr4 hO4))
      have hD4 : w2.heap.size ≤ w4.heap.size := by have := hgr4.size; simp at this; omega
      have d0 := cell_of_row w4 w.heap.size 0 _ _ _ HV4.out
      have f0 : w4.frozen? ⟨w.heap.size, 0, none⟩ = false := by simp [World.frozen?, HV4.out]
      obtain ⟨A4, c4, rfl, _⟩ := own_slice hown4
      have HO4 := Lib.hid hown4
      clear hown4 hgr4 hO4 hj jz0 jz1 jz2
      change wpAnyIn _ _ _ _ _ _ 1 #[true, true, true, true, true, false] _ _
      refine anyIn_one (i := 5) (by kernel_rfl) rfl ?_
      gi_wp2
      refine ⟨by kernel_rfl, ?_⟩
      have hI6 : CutI L k w.heap.size w.heap.size w2.heap.size w (i + 1) (w4.setCell ⟨w.heap.size, 0, none⟩ (.slice A4 (i + 1) c4)) := ⟨_, _, set_blk HV4.out, ownsRow_setCell HO4.out (by dsimp only; omega) _, fun j x hj => ownsRow_setCell (HC4.out j x hj) (by dsimp only; omega) _, by simpa using hD4, below_set HW4.out (Nat.le_refl _) _⟩
      exact ⟨HR4.out.trans (Rg.Keeps.setCell w4 _ _), HK4.out.trans (Nk.set HV4.out rfl), hI6⟩
    · gi_wp2
      change wpAnyIn _ _ _ _ _ _ 5 #[false, true, false, false, false, false] _ _
      refine anyIn_two (i := 0) (j := 2) (by kernel_rfl) rfl rfl ?_ ?_
      · gi_wp2
        change wpAnyIn _ _ _ _ _ _ 4 #[true, true, false, false, false, false] _ _
        refine anyIn_one (i := 2) (by kernel_rfl) rfl ?_
        gi_wp2
        refine ⟨trivial, ?_⟩
        refine (CallsIn.inRound l (callsIn_wide.2 (entclone_any A' m m (Lv.chunk L k i) B _ HR5.out.drew HML.out hBX hm))).mono ?_
        rintro e w3 ⟨v3, rfl, hO3, hb3⟩
        have hsz3 : X.heap.size ≤ w3.heap.size := hb3.size
        have hV3 := blk_keep2 hb3 (hid_drew HI1).out
        have HO2 := Lib.hid (ownsRow_keep HI2.out.drew hb3)
        have HI3' := Lib.hid (fun j x hj => ownsRow_keep (HI3.out j x hj).drew hb3 : CutsIn L k w2.heap.size w3 vs)
        have HI5' := Lib.hid (bthen HI5.out.drew hb3)
        have HK3 : Hid (Nk w2.heap.size w.heap.size X w3) := Lib.hid (by have h : Nk w2.heap.size w.heap.size X.drew w3 := Nk.of_below hb3; exact ⟨h.size, h.same⟩)
        have HR3 : Hid (Rg.Keeps X w3) := Lib.hid ((Rg.Keeps.drew X).trans (Rg.Keeps.below hb3))
        clear hb3
        obtain ⟨A3, c3, rfl, hc3⟩ := own_slice hO3
        have HO3 := Lib.hid (ownsRow_base hO3 (show w2.heap.size ≤ X.drew.heap.size from hI4))
        have HV3 := Lib.hid hV3
        clear c0 hO3 hV3
        have c0 := cell_of_row w3 w.heap.size 0 _ _ _ HV3.out
        gi_wp2
        change wpAnyIn _ _ _ _ _ _ 3 #[true, true, true, false, false, false] _ _
        refine anyIn_one (i := 3) (by kernel_rfl) rfl ?_
        gi_wp2
        change wpAnyIn _ _ _ _ _ _ 2 #[true, true, true, true, false, false] _ _
        clear c0
        refine anyIn_one (i := 4) (by kernel_rfl) rfl ?_
        refine wpListIn_append_own _ rfl (.tmp 13) (.tmp 16) _ rfl w2.heap.size 35 j0 _ 1 24 Tryz.underlying112 hj jz0 jz1 jz2 rfl (by omega) v i vs rfl (HO2.out.alloc _) ⟨w3.heap.size, 0, none⟩ 1 1 [.slice A3 (Lv.chunk L k i).length c3] rfl rfl ?c1 ?c2 ?c3 ?c4 ?c5 ?_
        case c1 => intro j u hu; exact blk1 (heap_alloc_new w3 _) j u hu
        case c2 => intro u hu; simp at hu; rcases hu with rfl; rfl
        case c3 => simp only [maxLen]; omega
        case c4 => omega
        case c5 => simp; omega
        intro v' w4 hown4 hgr4 _
        have hO4 := HO2.out.alloc (.cells #[.slice A3 (Lv.chunk L k i).length c3] 35)
        have HV4 : Hid (w4.heap[w.heap.size]? = some (.cells #[v] 112 (0, 0))) := Lib.hid (blk_grown (blk_alloc HV3.out _) hgr4 (fun k e => by have := (hO4.lt k e).1; omega))
        have HC4 : Hid (CutsIn L k w2.heap.size w4 (vs ++ [.slice A3 (Lv.chunk L k i).length c3])) := Lib.hid (cuts_snoc (by simpa using HO2.out.1) (fun j x hj => own_grown ((HI3'.out j x hj).alloc _) hgr4 hO4 (by decide)) (own_grown (HO3.out.alloc _) hgr4 hO4 (by decide)))
        have HW4 : Hid (Below w.heap.size w w4) := Lib.hid ((HI5'.out.alloc HI5'.out.size _).grown hgr4 (by simp; omega) (fun k e => by have := (hO4.lt k e).1; omega))
        have HK4 : Hid (Nk w2.heap.size w.heap.size X w4) := Lib.hid ((HK3.out.trans (Nk.of_below (blk_new w3 _))).trans (Nk.grown hgr4 hO4 rfl (Nat.le_refl _)))
        have HR4 : Hid (Rg.Keeps X w4) := Lib.hid ((HR3.out.trans (Rg.Keeps.below (blk_new w3 _))).trans (Keeps.grown' hgr4 hO4))
        have hD4 : w2.heap.size ≤ w4.heap.size := by have := hgr4.size; simp at this; omega
        have d0 := cell_of_row w4 w.heap.size 0 _ _ _ HV4.out
        have f0 : w4.frozen? ⟨w.heap.size, 0, none⟩ = false := by simp [World.frozen?, HV4.out]
        obtain ⟨A4, c4, rfl, _⟩ := own_slice hown4
        have HO4 := Lib.hid hown4
        clear hown4 hgr4 hO4 hj jz0 jz1 jz2
        change wpAnyIn _ _ _ _ _ _ 1 #[true, true, true, true, true, false] _ _
        refine anyIn_one (i := 5) (by kernel_rfl) rfl ?_
        gi_wp2
        refine ⟨by kernel_rfl, ?_⟩
        have hI6 : CutI L k w.heap.size w.heap.size w2.heap.size w (i + 1) (w4.setCell ⟨w.heap.size, 0, none⟩ (.slice A4 (i + 1) c4)) := ⟨_, _, set_blk HV4.out, ownsRow_setCell HO4.out (by dsimp only; omega) _, fun j x hj => ownsRow_setCell (HC4.out j x hj) (by dsimp only; omega) _, by simpa using hD4, below_set HW4.out (Nat.le_refl _) _⟩
        exact ⟨HR4.out.trans (Rg.Keeps.setCell w4 _ _), HK4.out.trans (Nk.set HV4.out rfl), hI6⟩
      · gi_wp2
        refine ⟨trivial, ?_⟩
        refine (CallsIn.inRound l (callsIn_wide.2 (entclone_any A' m m (Lv.chunk L k i) B _ HR5.out.drew HML.out hBX hm))).mono ?_
        rintro e w3 ⟨v3, rfl, hO3, hb3⟩
        have hsz3 : X.heap.size ≤ w3.heap.size := hb3.size
        have hV3 := blk_keep2 hb3 (hid_drew HI1).out
        have HO2 := Lib.hid (ownsRow_keep HI2.out.drew hb3)
        have HI3' := Lib.hid (fun j x hj => ownsRow_keep (HI3.out j x hj).drew hb3 : CutsIn L k w2.heap.size w3 vs)
        have HI5' := Lib.hid (bthen HI5.out.drew hb3)
        have HK3 : Hid (Nk w2.heap.size w.heap.size X w3) := Lib.hid (by have h : Nk w2.heap.size w.heap.size X.drew w3 := Nk.of_below hb3; exact ⟨h.size, h.same⟩)
        have HR3 : Hid (Rg.Keeps X w3) := Lib.hid ((Rg.Keeps.drew X).trans (Rg.Keeps.below hb3))
        clear hb3
        obtain ⟨A3, c3, rfl, hc3⟩ := own_slice hO3
        have HO3 := Lib.hid (ownsRow_base hO3 (show w2.heap.size ≤ X.drew.heap.size from hI4))
        have HV3 := Lib.hid hV3
        clear c0 hO3 hV3
        have c0 := cell_of_row w3 w.heap.size 0 _ _ _ HV3.out
        gi_wp2
        change wpAnyIn _ _ _ _ _ _ 4 #[false, true, true, false, false, false] _ _
        refine anyIn_two (i := 0) (j := 3) (by kernel_rfl) rfl rfl ?_ ?_
        · gi_wp2
          change wpAnyIn _ _ _ _ _ _ 3 #[true, true, true, false, false, false] _ _
          refine anyIn_one (i := 3) (by kernel_rfl) rfl ?_
          gi_wp2
          change wpAnyIn _ _ _ _ _ _ 2 #[true, true, true, true, false, false] _ _
          clear c0
          refine anyIn_one (i := 4) (by kernel_rfl) rfl ?_
          refine wpListIn_append_own _ rfl (.tmp 13) (.tmp 16) _ rfl w2.heap.size 35 j0 _ 1 24 Tryz.underlying112 hj jz0 jz1 jz2 rfl (by omega) v i vs rfl (HO2.out.alloc _) ⟨w3.heap.size, 0, none⟩ 1 1 [.slice A3 (Lv.chunk L k i).length c3] rfl rfl ?c1 ?c2 ?c3 ?c4 ?c5 ?_
          case c1 => intro j u hu; exact blk1 (heap_alloc_new w3 _) j u hu
          case c2 => intro u hu; simp at hu; rcases hu with rfl; rfl
          case c3 => simp only [maxLen]; omega
          case c4 => omega
          case c5 => simp; omega
          intro v' w4 hown4 hgr4 _
          have hO4 := HO2.out.alloc (.cells #[.slice A3 (Lv.chunk L k i).length c3] 35)
          have HV4 : Hid (w4.heap[w.heap.size]? = some (.cells #[v] 112 (0, 0))) := Lib.hid (blk_grown (blk_alloc HV3.out _) hgr4 (fun k e => by have := (hO4.lt k e).1; omega))
          have HC4 : Hid (CutsIn L k w2.heap.size w4 (vs ++ [.slice A3 (Lv.chunk L k i).length c3])) := Lib.hid (cuts_snoc (by simpa using HO2.out.1) (fun j x hj => own_grown ((HI3'.out j x hj).alloc _) hgr4 hO4 (by decide)) (own_grown (HO3.out.alloc _) hgr4 hO4 (by decide)))
          have HW4 : Hid (Below w.heap.size w w4) := Lib.hid ((HI5'.out.alloc HI5'.out.size _).grown hgr4 (by simp; omega) (fun k e => by have := (hO4.lt k e).1; omega))
          have HK4 : Hid (Nk w2.heap.size w.heap.size X w4) := Lib.hid ((HK3.out.trans (Nk.of_below (blk_new w3 _))).trans (Nk.grown hgr4 hO4 rfl (Nat.le_refl _)))
          have HR4 : Hid (Rg.Keeps X w4) := Lib.hid ((HR3.out.trans (Rg.Keeps.below (blk_new w3 _))).trans (Keeps.grown' hgr4 hO4))
          have hD4 : w2.heap.size ≤ w4.heap.size := by have := hgr4.size; simp at this; omega
          have d0 := cell_of_row w4 w.heap.size 0 _ _ _ HV4.out
          have f0 : w4.frozen? ⟨w.heap.size, 0, none⟩ = false := by simp [World.frozen?, HV4.out]
          obtain ⟨A4, c4, rfl, _⟩ := own_slice hown4
          have HO4 := Lib.hid hown4
          clear hown4 hgr4 hO4 hj jz0 jz1 jz2
          change wpAnyIn _ _ _ _ _ _ 1 #[true, true, true, true, true, false] _ _
          refine anyIn_one (i := 5) (by kernel_rfl) rfl ?_
          gi_wp2
          refine ⟨by kernel_rfl, ?_⟩
          have hI6 : CutI L k w.heap.size w.heap.size w2.heap.size w (i + 1) (w4.setCell ⟨w.heap.size, 0, none⟩ (.slice A4 (i + 1) c4)) := ⟨_, _, set_blk HV4.out, ownsRow_setCell HO4.out (by dsimp only; omega) _, fun j x hj => ownsRow_setCell (HC4.out j x hj) (by dsimp only; omega) _, by simpa using hD4, below_set HW4.out (Nat.le_refl _) _⟩
          exact ⟨HR4.out.trans (Rg.Keeps.setCell w4 _ _), HK4.out.trans (Nk.set HV4.out rfl), hI6⟩
        · gi_wp2
          replace c0 := cell_al c0 (.cells #[.slice A3 (Lv.chunk L k i).length c3] 35)
          change wpAnyIn _ _ _ _ _ _ 3 #[false, true, true, true, false, false] _ _
          refine anyIn_one (i := 0) (by kernel_rfl) rfl ?_
          gi_wp2
          change wpAnyIn _ _ _ _ _ _ 2 #[true, true, true, true, false, false] _ _
          clear c0
          refine anyIn_one (i := 4) (by kernel_rfl) rfl ?_
          refine wpListIn_append_own _ rfl (.tmp 13) (.tmp 16) _ rfl w2.heap.size 35 j0 _ 1 24 Tryz.underlying112 hj jz0 jz1 jz2 rfl (by omega) v i vs rfl (HO2.out.alloc _) ⟨w3.heap.size, 0, none⟩ 1 1 [.slice A3 (Lv.chunk L k i).length c3] rfl rfl ?c1 ?c2 ?c3 ?c4 ?c5 ?_
          case c1 => intro j u hu; exact blk1 (heap_alloc_new w3 _) j u hu
          case c2 => intro u hu; simp at hu; rcases hu with rfl; rfl
          case c3 => simp only [maxLen]; omega
          case c4 => omega
          case c5 => simp; omega
          intro v' w4 hown4 hgr4 _
          have hO4 := HO2.out.alloc (.cells #[.slice A3 (Lv.chunk L k i).length c3] 35)
          have HV4 : Hid (w4.heap[w.heap.size]? = some (.cells #[v] 112 (0, 0))) := Lib.hid (blk_grown (blk_alloc HV3.out _) hgr4 (fun k e => by have := (hO4.lt k e).1; omega))
          have HC4 : Hid (CutsIn L k w2.heap.size w4 (vs ++ [.slice A3 (Lv.chunk L k i).length c3])) := Lib.hid (cuts_snoc (by simpa using HO2.out.1) (fun j x hj => own_grown ((HI3'.out j x hj).alloc _) hgr4 hO4 (by decide)) (own_grown (HO3.out.alloc _) hgr4 hO4 (by decide)))
          have HW4 : Hid (Below w.heap.size w w4) := Lib.hid ((HI5'.out.alloc HI5'.out.size _).grown hgr4 (by simp; omega) (fun k e => by have := (hO4.lt k e).1; omega))
          have HK4 : Hid (Nk w2.heap.size w.heap.size X w4) := Lib.hid ((HK3.out.trans (Nk.of_below (blk_new w3 _))).trans (Nk.grown hgr4 hO4 rfl (Nat.le_refl _)))
          have HR4 : Hid (Rg.Keeps X w4) := Lib.hid ((HR3.out.trans (Rg.Keeps.below (blk_new w3 _))).trans (Keeps.grown' hgr4 hO4))
          have hD4 : w2.heap.size ≤ w4.heap.size := by have := hgr4.size; simp at this; omega
          have d0 := cell_of_row w4 w.heap.size 0 _ _ _ HV4.out
          have f0 : w4.frozen? ⟨w.heap.size, 0, none⟩ = false := by simp [World.frozen?, HV4.out]
          obtain ⟨A4, c4, rfl, _⟩ := own_slice hown4
          have HO4 := Lib.hid hown4
          clear hown4 hgr4 hO4 hj jz0 jz1 jz2
          change wpAnyIn _ _ _ _ _ _ 1 #[true, true, true, true, true, false] _ _
          refine anyIn_one (i := 5) (by kernel_rfl) rfl ?_
          gi_wp2
          refine ⟨by kernel_rfl, ?_⟩
          have hI6 : CutI L k w.heap.size w.heap.size w2.heap.size w (i + 1) (w4.setCell ⟨w.heap.size, 0, none⟩ (.slice A4 (i + 1) c4)) := ⟨_, _, set_blk HV4.out, ownsRow_setCell HO4.out (by dsimp only; omega) _, fun j x hj => ownsRow_setCell (HC4.out j x hj) (by dsimp only; omega) _, by simpa using hD4, below_set HW4.out (Nat.le_refl _) _⟩
          exact ⟨HR4.out.trans (Rg.Keeps.setCell w4 _ _), HK4.out.trans (Nk.set HV4.out rfl), hI6⟩
    -- DONE
  case hdone =>
    rintro D X hD ⟨v, vs, hI1, hI2, hI3, hI4, hI5⟩ hDD
    rw [List.length_range] at hI2
    obtain ⟨A5, c5, rfl, hc5⟩ := own_slice hI2
    have HI1 := Lib.hid hI1
    have HI2 := Lib.hid hI2
    have HI3 := Lib.hid hI3
    have HI5 := Lib.hid hI5
    have c0 := cell_of_row X w.heap.size 0 _ _ _ HI1.out
    clear hI1 hI2 hI3 hI5
    go_wp2_with fail
    refine ⟨by simp, .inl ⟨D, _, rfl, run_takeDeferred hDD, ?_⟩⟩
    have hoD : Rg.own (.deferred (some [])) = true := rfl
    exact ⟨_, by simp [results, Tryz.results49, go_sem], _, vs, rfl, ownsRow_base (own_put hDD hoD HI2.out) (by omega), fun j x hj => ownsRow_base (own_put hDD hoD (HI3.out j x hj)) (by omega), put_below HI5.out (by omega)⟩
end Go.Proofs.YtlfahmdndlmhpaaGreatDoor
