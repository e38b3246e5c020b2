/- The row's last step for a law that returns true and turns nothing that was there: the arguments' readings carried over 'Below', whatever their types; arguments opened to numbers. A list of items among the arguments, opened. -/
import Derived.Test.YtlfahmdndlmhpaaGreatDoorKit
import Derived.Lib.SmallJoins
import Derived.Laws.IdiomArrays
import Derived.Deep.Fields
import Derived.Test.YtlfahmdndlmhpaaGreatDoorM07
import Derived.SizedLaws
import Derived.Deep.SlicePairs
namespace Go.Proofs.YtlfahmdndlmhpaaGreatDoor
open Go.RowKit Go.WideShapes Go.ChangeShapes Go.ChangeAt Go.Deep

section
variable {H : Type} {enc : TypeId × Value → H} {P : Program}
def rowed (P : Program) (ts : List TypeId) : Bool := ts.all fun t => P.readableRec t && decide (t < P.types.size)

theorem trodAll_stays (hl : laidOutB P = true) {W W' : World} (hb : Below W.heap.size W W') (sp : Nat → Bool) :
    ∀ {ts : List TypeId} {vs : List Value} {ds : List (DataW H)} {ps : List MemPlace}, rowed P ts = true → DataW.TrodAll enc P W 0 (fun _ => true) true ts vs ds ps →
      (∀ x ∈ ps, x.block < W.heap.size) → (∀ x ∈ ps, sp x.block = true) → DataW.TrodAll enc P W' 0 sp true ts vs ds ps
  | [], [], [], _, _, h, _, _ => h
  | t :: ts, v :: vs, d :: ds, ps, hr, ⟨p, q, h1, h2, e⟩, hlt, hs => by
    simp only [rowed, List.all_cons, Bool.and_eq_true, decide_eq_true_eq] at hr
    refine ⟨p, q, WideElems.Trod_stays hl hr.1.1 hr.1.2 h1 (fun x hx => hb.same (hlt x (by rw [e]; exact List.mem_append_left _ hx))) (fun x hx => hs x (by rw [e]; exact List.mem_append_left _ hx)), ?_, e⟩
    exact trodAll_stays hl hb sp (by simpa only [rowed] using hr.2) h2 (fun x hx => hlt x (by rw [e]; exact List.mem_append_right _ hx)) (fun x hx => hs x (by rw [e]; exact List.mem_append_right _ hx))

theorem law_post {f : Func} {s : ChangeSpec} {W W' : World} {args : Array Value} {ds gs : List (DataW H)} {before : List MemPlace} {tb : TypeId} (hl : laidOutB P = true) (hr : rowed P f.params.toList = true)
    (hW : DataW.Whole enc P f.params.toList s.vars false W args.toList ds gs before) (hv : s.vars = []) (hfn0 : s.fn H ds = { results := [.lit (.bool true)], args := ds }) (hrt : f.resultTypes = #[tb]) (hu : P.underlying tb = some .bool)
    (hb : Below W.heap.size W W') : s.post enc P f false true false false W args (.bool true) W' := by
  have hlt : ∀ p ∈ before, p.block < W.heap.size := fun p hp => hW.lt p hp
  have hW0 := hW
  obtain ⟨p, q, hA, hV, e, _, _⟩ := hW0
  have hq : q = [] ∧ gs = [] := by
    rw [hv] at hV
    obtain ⟨h1, h2⟩ := trodVars_none hV
    exact ⟨by assumption, by assumption⟩
  obtain ⟨rfl, rfl⟩ := hq
  have hfn : s.fn H (ds ++ []) = { results := [.lit (.bool true)], args := ds } := by rw [List.append_nil]; exact hfn0
  refine post_of_below (pa := p) (pv := []) hW ?_ ?_ ?_ e hb ?_
  · intro b sp hd
    rw [hfn, hrt]
    exact trodAll_mk1 (shut_bool hu true)
  · intro sp hs
    rw [hfn]
    exact trodAll_stays hl hb sp hr hA (fun x hx => hlt x (by rw [e]; exact List.mem_append_left _ hx)) (fun x hx => hs x (by rw [e]; exact List.mem_append_left _ hx))
  · intro sp hs
    rw [hfn, hv]
    rfl
  · exact ok_one hrt rfl (okWide_bool_mk hu true)

variable {w : World} {base : Nat} {spare : Nat → Bool} {held : Bool}
/-- a struct of three ints, by value -/
theorem open_three {r : Reach} {b0 : Nat} {t e : TypeId} {f0 f1 f2 : Field} {v : Value} {d : DataW H} {p : List MemPlace} (hs : P.underlying t = some (.struct #[f0, f1, f2])) (hone : oneCellFields P #[f0, f1, f2] = true) (hC : P.cellsOf t = 3)
    (h0 : f0.type = e) (h1 : f1.type = e) (h2 : f2.type = e) (he : P.underlying e = some (.int .i64)) (hv : Value.okWide P w r b0 t v) (h : DataW.Trod enc P w base spare held t v d p) :
    ∃ a b c : Int, v = .agg #[.int .i64 a, .int .i64 b, .int .i64 c] ∧ (Lit.int .i64 a).wf = true ∧ (Lit.int .i64 b).wf = true ∧ (Lit.int .i64 c).wf = true := by
  obtain ⟨c0, c1, c2, y0, y1, y2, n, rfl, _, _, e0, e1, e2⟩ := Joins.open_agg3 hs hone hC hv h
  rw [h0] at e0
  rw [h1] at e1
  rw [h2] at e2
  obtain ⟨a, g0, _, w0⟩ := DataW.trod_int he e0
  obtain ⟨b, g1, _, w1⟩ := DataW.trod_int he e1
  obtain ⟨c, g2, _, w2⟩ := DataW.trod_int he e2
  simp only [List.cons.injEq, and_true] at g0 g1 g2
  subst g0 g1 g2
  exact ⟨a, b, c, rfl, w0, w1, w2⟩
/-- an array of three ints, by value -/
theorem open_arr3 {r : Reach} {b0 : Nat} {t e : TypeId} {v : Value} {d : DataW H} {p : List MemPlace} (hs : P.underlying t = some (.array 3 e)) (hC : P.cellsOf t = 3) (hc : P.cellsOf e = 1)
    (he : P.underlying e = some (.int .i64)) (hv : Value.okWide P w r b0 t v) (h : DataW.Trod enc P w base spare held t v d p) :
    ∃ a b c : Int, v = .agg #[.int .i64 a, .int .i64 b, .int .i64 c] ∧ (Lit.int .i64 a).wf = true ∧ (Lit.int .i64 b).wf = true ∧ (Lit.int .i64 c).wf = true := by
  simp only [Value.okWide, hs] at hv
  obtain ⟨cs, rfl, hsz, _⟩ := hv
  obtain ⟨c0, c1, c2, rfl⟩ := Joins.array3 (hsz.trans hC)
  obtain ⟨fuel, hf⟩ := h
  obtain ⟨y0, y1, y2, n, _, e0, e1, e2⟩ := trod_array3 hs hc hf
  obtain ⟨a, g0, _, w0⟩ := DataW.trod_int he e0
  obtain ⟨b, g1, _, w1⟩ := DataW.trod_int he e1
  obtain ⟨c, g2, _, w2⟩ := DataW.trod_int he e2
  simp only [List.cons.injEq, and_true] at g0 g1 g2
  subst g0 g1 g2
  exact ⟨a, b, c, rfl, w0, w1, w2⟩
end

theorem own_ : ownKnob Tryz.prog.godebug = none := by kernel_rfl
theorem laid_ : laidOutB Tryz.prog = true := by kernel_rfl
theorem bd_i64 {a : Int} (h : (Lit.int .i64 a).wf = true) : -9223372036854775808 ≤ a ∧ a ≤ 9223372036854775807 := by simpa [Lit.wf, IntKind.min, IntKind.max, IntKind.signed, IntKind.bits] using h
theorem bd_u64 {a : Int} (h : (Lit.int .u64 a).wf = true) : 0 ≤ a ∧ a ≤ 18446744073709551615 := by simpa [Lit.wf, IntKind.min, IntKind.max, IntKind.signed, IntKind.bits] using h
end Go.Proofs.YtlfahmdndlmhpaaGreatDoor
namespace Go.Proofs.YtlfahmdndlmhpaaGreatDoor
open Go.RowKit Go.WideShapes Go.ChangeShapes Go.ChangeAt Go.Deep

theorem list_of {α : Type} {Q : Nat → α → Prop} : ∀ (n : Nat), (∀ i, i < n → ∃ x, Q i x) → ∃ L : List α, L.length = n ∧ ∀ (i : Nat) (x : α), L[i]? = some x → Q i x
  | 0, _ => ⟨[], rfl, fun i x h => by simp at h⟩
  | n + 1, h => by
    obtain ⟨L, hl, hq⟩ := list_of n (fun i hi => h i (by omega))
    obtain ⟨x, hx⟩ := h n (by omega)
    refine ⟨L ++ [x], by simp [hl], fun i y hy => ?_⟩
    rw [List.getElem?_append] at hy
    split at hy
    · exact hq i y hy
    · have hi : i = n := by
        have := (List.getElem?_eq_some_iff.1 hy).1
        simp at this
        omega
      subst hi
      rw [hl, Nat.sub_self] at hy
      simp at hy
      subst hy
      exact hx
section
variable {H : Type} {enc : TypeId × Value → H} {P : Program} {w : World} {base : Nat} {held : Bool}
theorem weights_all {e : TypeId} : ∀ (l : List (DataW H)) (d : DataW H), d ∈ l → ∀ x, x ∈ d.weights P e → x ∈ DataW.weightsAll P e l
  | [], d, h, x, hx => by cases h
  | a :: l, d, h, x, hx => by
    unfold DataW.weightsAll
    rcases List.mem_cons.1 h with rfl | h
    · exact List.mem_append_left _ hx
    · exact List.mem_append_right _ (weights_all l d h x hx)
theorem open_items {r : Reach} {b0 : Nat} {ts : List TypeId} {ds : List (DataW H)} {j : Nat} {t e : TypeId} {f0 f1 : Field} {v : Value} {d : DataW H} {p : List MemPlace} (hall : (DataW.weightsEach P ts ds).all (· ≤ reachBytes) = true) (hts : ts[j]? = some t) (hds : ds[j]? = some d)
    (ht : P.underlying t = some (.slice e)) (hs : P.underlying e = some (.struct #[f0, f1])) (hC : P.cellsOf e = 2) (hby : P.bytesOf e = 24) (o0 : f0.offset = 0) (o1 : f1.offset = 1) (c0 : P.cellsOf f0.type = 1) (c1 : P.cellsOf f1.type = 1)
    (hu : P.underlying f0.type = some (.int .u64)) (hu' : P.underlying f1.type = some .string) (hv : Value.okWide P w r b0 t v) (h : DataW.Trod enc P w base (fun _ => true) held t v d p) :
    ∃ (A : Option Addr) (n cap : Nat) (L : List Itm), v = .slice A n cap ∧ Reads w w.heap.size 2 A n (icells L) ∧ n = L.length ∧ (∀ x ∈ L, 0 ≤ x.1) ∧ (∀ x ∈ L, x.2.size ≤ 140737488355328) ∧ n * 24 ≤ 140737488355328 ∧ n ≤ cap := by
  obtain ⟨A0, n0, c0', rfl⟩ := okWide_slice ht hv
  obtain ⟨fuel, hf⟩ := h
  have hf' : DataW.trod enc P w base (fun _ => true) held fuel t [.slice A0 n0 c0'] = some (d, p) := hf
  rcases open_slice_pairs ht hs hC o0 o1 c0 c1 hf' with ⟨hcs, _⟩ | ⟨a, len, cap, m, n, V0, V1, D0, D1, P0, P1, hcs, hb, hl, hm, hmm, hx, hi⟩
  · simp only [List.cons.injEq, Value.slice.injEq, and_true] at hcs
    obtain ⟨rfl, rfl, rfl⟩ := hcs
    exact ⟨none, 0, 0, [], rfl, Reads.none_, rfl, fun e he => by simp at he, fun e he => by simp at he, by omega, Nat.le_refl _⟩
  · simp only [List.cons.injEq, Value.slice.injEq, and_true] at hcs
    obtain ⟨rfl, rfl, rfl⟩ := hcs
    simp only [Prod.mk.injEq] at hx
    have hmc : m = c0' := by rw [hmm]; simp
    obtain ⟨hd, _⟩ := hx
    have hwm : ∀ x, x ∈ d.weights P t → x ≤ reachBytes := fun x hx => by
      have := List.all_eq_true.1 hall _ (DataW.weights_mem_each hts hds x hx)
      simpa using this
    have hr : reachBytes < 140737488355328 := reachBytes_lt
    have hn : n0 * 24 ≤ 140737488355328 := by
      have h1 := sized_slice hall hts (hd ▸ hds) ht
      simp only [List.length_map, List.length_range, hby] at h1
      have : n0 * 24 ≤ (n0 + (m - n0)) * 24 := Nat.mul_le_mul_right _ (by omega)
      omega
    have hq : ∀ i, i < n0 → ∃ e : Itm, (0 ≤ e.1 ∧ e.2.size ≤ 140737488355328) ∧ a.block < w.heap.size ∧ ∀ j u, (It.vals e)[j]? = some u → w.cell? (a.add (i * 2 + j)) = some u := by
      intro i hin
      obtain ⟨k0, k1, e0, e1⟩ := hi i (by omega)
      obtain ⟨x0, g0, _, w0⟩ := DataW.trod_int hu e0
      obtain ⟨s, g1, g2, _⟩ := DataW.trod_string hu' e1
      simp only [List.cons.injEq, and_true] at g0 g1
      simp only [Prod.mk.injEq] at g2
      rw [g0] at k0
      rw [g1] at k1
      have := bd_u64 w0
      have hblk : (a.add (i * 2)).block < w.heap.size := World.block_lt_of_cell? w _ k0
      rw [block_of_add] at hblk
      have hsz : s.size ≤ 140737488355328 := by
        have h1 : s.data.toList.length ∈ d.weights P t := by
          rw [hd]
          unfold DataW.weights
          rw [ht]
          refine List.mem_cons_of_mem _ (List.mem_append_left _ (weights_all _ (.agg [D0 i, D1 i]) (List.mem_map.2 ⟨i, List.mem_range.2 hin, rfl⟩) _ ?_))
          unfold DataW.weights
          rw [hs]
          simp only [List.map_cons, List.map_nil, DataW.weightsEach, g2.1]
          simp [DataW.weights]
        have h2 := hwm _ h1
        have h3 : s.data.toList.length = s.size := by rw [Array.length_toList]; rfl
        omega
      refine ⟨(x0, s), ⟨by show 0 ≤ x0; omega, hsz⟩, hblk, fun j u hu0 => ?_⟩
      match j, hu0 with
      | 0, hu0 => simp [It.vals] at hu0; subst hu0; exact k0
      | 1, hu0 => simp [It.vals] at hu0; subst hu0; exact k1
      | j + 2, hu0 => simp [It.vals] at hu0
    obtain ⟨L, hL, hLq⟩ := list_of n0 hq
    refine ⟨some a, n0, c0', L, rfl, ⟨by rw [icells_len, hL], fun hpos => ⟨a, rfl, ?_, fun j u hu0 => ?_⟩⟩, hL.symm, fun e he => ?_, fun e he => ?_, hn, hl⟩
    · have hk : 0 < L.length := by omega
      exact (hLq 0 _ (List.getElem?_eq_getElem hk)).2.1
    · have hj : j < (icells L).length := (List.getElem?_eq_some_iff.1 hu0).1
      rw [icells_len] at hj
      have hk : j / 2 < L.length := by omega
      have he := icells_get L (j / 2) (j % 2) hk (by omega)
      have hjj : j / 2 * 2 + j % 2 = j := by omega
      rw [hjj] at he
      rw [he] at hu0
      have := (hLq (j / 2) _ (List.getElem?_eq_getElem hk)).2.2 (j % 2) u hu0
      rw [hjj] at this
      exact this
    · obtain ⟨i, hi0, hie⟩ := List.mem_iff_getElem.1 he
      exact (hLq i e (by rw [List.getElem?_eq_getElem hi0, hie])).1.1
    · obtain ⟨i, hi0, hie⟩ := List.mem_iff_getElem.1 he
      exact (hLq i e (by rw [List.getElem?_eq_getElem hi0, hie])).1.2
end
end Go.Proofs.YtlfahmdndlmhpaaGreatDoor
