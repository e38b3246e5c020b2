/- Arguments that are texts, lists of tiles and lists of texts, opened. -/
import Derived.Test.YtdipincjginmcaaDoorLaw
import Derived.Test.YtdipincjginmcaaDoorQuadUnder
import Derived.SizedLaws
import Derived.Deep.Slices
namespace Go.Proofs.YtdipincjginmcaaDoor
open Go.RowKit Go.WideShapes Go.ChangeShapes Go.ChangeAt Go.Deep

theorem list_of {α : Type} {Q : Nat → α → Prop} : ∀ (n : Nat), (∀ i, i < n → ∃ x, Q i x) → ∃ L : List α, L.length = n ∧ ∀ (i : Nat) (x : α), L[i]? = some x → Q i x
  | 0, _ => ⟨[], rfl, fun i x h => by simp at h⟩
  | n + 1, h => by
    obtain ⟨L, hl, hq⟩ := list_of n (fun i hi => h i (by omega))
    obtain ⟨x, hx⟩ := h n (by omega)
    refine ⟨L ++ [x], by simp [hl], fun i y hy => ?_⟩
    rw [List.getElem?_append] at hy
    split at hy
    · exact hq i y hy
    · have hi : i = n := by
        have := (List.getElem?_eq_some_iff.1 hy).1
        simp at this
        omega
      subst hi
      rw [hl, Nat.sub_self] at hy
      simp at hy
      subst hy
      exact hx
theorem tcells_cut (L : List Tl) (j : Nat) (hj : j < (tcells L).length) : ∃ (hk : j / 3 < L.length), (tcells L)[j]? = [Value.int .i64 (L[j / 3]'hk).1, Value.int .i64 (L[j / 3]'hk).2.1, Value.int .i64 (L[j / 3]'hk).2.2][j % 3]? := by
  rw [tcells_len] at hj
  have hk : j / 3 < L.length := by omega
  refine ⟨hk, ?_⟩
  obtain ⟨h0, h1, h2⟩ := tcells_get L (j / 3) hk
  have h3 : j % 3 = 0 ∨ j % 3 = 1 ∨ j % 3 = 2 := by omega
  rcases h3 with e | e | e <;> rw [e]
  · rw [show j / 3 * 3 = j by omega] at h0; exact h0
  · rw [show j / 3 * 3 + 1 = j by omega] at h1; exact h1
  · rw [show j / 3 * 3 + 2 = j by omega] at h2; exact h2

section
variable {H : Type} {enc : TypeId × Value → H} {P : Program} {w : World} {base : Nat} {held : Bool}
theorem small_string {ts : List TypeId} {ds : List (DataW H)} (h : (DataW.weightsEach P ts ds).all (· ≤ reachBytes) = true) {j : Nat} {t : TypeId} {s : ByteArray} (ht : ts[j]? = some t) (hd : ds[j]? = some (.lit (.string s.data.toList))) : s.size ≤ 140737488355328 := by
  have h1 := sized_string h ht hd
  have h2 : reachBytes < 140737488355328 := reachBytes_lt
  have h3 : s.data.toList.length = s.size := by rw [Array.length_toList]; rfl
  omega
theorem open_tiles {r : Reach} {b0 : Nat} {t e tu : TypeId} {f0 f1 f2 : Field} {v : Value} {d : DataW H} {p : List MemPlace} (ht : P.underlying t = some (.slice e)) (hs : P.underlying e = some (.struct #[f0, f1, f2])) (hone : oneCellFields P #[f0, f1, f2] = true) (hC : P.cellsOf e = 3) (hby : P.bytesOf e = 24)
    (h0 : f0.type = tu) (h1 : f1.type = tu) (h2 : f2.type = tu) (hu : P.underlying tu = some (.int .i64)) (hv : Value.okWide P w r b0 t v) (h : DataW.Trod enc P w base (fun _ => true) held t v d p)
    (hz : ∀ elems spare, d = .slice elems spare → (elems.length + spare.length) * P.bytesOf e ≤ reachBytes) :
    ∃ (A : Option Addr) (n cap : Nat) (L : List Tl), v = .slice A n cap ∧ Reads w w.heap.size 3 A n (tcells L) ∧ n = L.length ∧ n * 24 ≤ 140737488355328 ∧ n ≤ cap := by
  obtain ⟨A0, n0, c0, rfl⟩ := okWide_slice ht hv
  obtain ⟨fuel, hf⟩ := h
  have hf' : DataW.trod enc P w base (fun _ => true) held fuel t [.slice A0 n0 c0] = some (d, p) := hf
  rcases open_slice ht hf' with ⟨hcs, _⟩ | ⟨a, len, cap, m, n, D, Pl, hcs, hb, hl, hm, hmm, hx, hi⟩
  · simp only [List.cons.injEq, Value.slice.injEq, and_true] at hcs
    obtain ⟨rfl, rfl, rfl⟩ := hcs
    exact ⟨none, 0, 0, [], rfl, Reads.none_, rfl, by omega, Nat.le_refl _⟩
  · simp only [List.cons.injEq, Value.slice.injEq, and_true] at hcs
    obtain ⟨rfl, rfl, rfl⟩ := hcs
    simp only [Prod.mk.injEq] at hx
    have hmc : m = c0 := by rw [hmm]; simp
    have hw := hz _ _ hx.1
    simp only [List.length_map, List.length_range, hby] at hw
    have hr : reachBytes < 140737488355328 := reachBytes_lt
    have hn : n0 * 24 ≤ 140737488355328 := by
      have : n0 * 24 ≤ (n0 + (m - n0)) * 24 := Nat.mul_le_mul_right _ (by omega)
      omega
    have hq : ∀ i, i < n0 → ∃ e : Tl, a.block < w.heap.size ∧ ∀ j u, [Value.int .i64 e.1, Value.int .i64 e.2.1, Value.int .i64 e.2.2][j]? = some u → w.cell? (a.add (i * 3 + j)) = some u := by
      intro i hin
      obtain ⟨cs', hc, ht'⟩ := hi i (by omega)
      rw [hC] at hc
      obtain ⟨ys, n', hn', hy, hlen, hyl, hg⟩ := DataW.trod_struct hs ht'
      obtain ⟨_, hcl, hat⟩ := World.cells?_some hc
      have fld : ∀ (j : Nat) (f : Field), #[f0, f1, f2][j]? = some f → ∃ (u : Value) (y : DataW H × List MemPlace), w.cell? (a.add (i * 3 + j)) = some u ∧ DataW.trod enc P w base (fun _ => true) held n' f.type [u] = some y := by
        intro j f hj
        obtain ⟨ho, hk⟩ := hone_of hone j f hj
        have hjl : j < 3 := by simpa using (Array.getElem?_eq_some_iff.1 hj).1
        have hcell := hat j hjl
        have hgj := hg j f hj
        rw [ho, hk] at hgj
        have hone' : (cs'.drop j).take 1 = [cs'[j]'(by omega)] := by
          rw [List.drop_eq_getElem_cons (by omega)]
          rfl
        rw [hone'] at hgj
        have hv : cs'[j]? = some (cs'[j]'(by omega)) := List.getElem?_eq_getElem (by omega)
        have hys : ys[j]? = some (ys[j]'(by simp at hyl; omega)) := List.getElem?_eq_getElem (by simp at hyl; omega)
        refine ⟨_, _, ?_, hgj.trans hys⟩
        rw [← Go.Deep.add_add, hcell, hv]
      obtain ⟨u0, y0, k0, e0⟩ := fld 0 f0 rfl
      obtain ⟨u1, y1, k1, e1⟩ := fld 1 f1 rfl
      obtain ⟨u2, y2, k2, e2⟩ := fld 2 f2 rfl
      rw [h0] at e0
      rw [h1] at e1
      rw [h2] at e2
      obtain ⟨x0, g0, _, w0⟩ := DataW.trod_int hu e0
      obtain ⟨x1, g1, _, w1⟩ := DataW.trod_int hu e1
      obtain ⟨x2, g2, _, w2⟩ := DataW.trod_int hu e2
      simp only [List.cons.injEq, and_true] at g0 g1 g2
      subst g0 g1 g2
      have hblk : (a.add (i * 3 + 0)).block < w.heap.size := World.block_lt_of_cell? w _ k0
      rw [block_of_add] at hblk
      refine ⟨(x0, x1, x2), hblk, fun j u hu0 => ?_⟩
      match j, hu0 with
      | 0, hu0 => simp at hu0; subst hu0; exact k0
      | 1, hu0 => simp at hu0; subst hu0; exact k1
      | 2, hu0 => simp at hu0; subst hu0; exact k2
      | j + 3, hu0 => simp at hu0
    obtain ⟨L, hL, hLq⟩ := list_of n0 hq
    refine ⟨some a, n0, c0, L, rfl, ⟨by rw [tcells_len, hL], fun hpos => ⟨a, rfl, ?_, fun j u hu0 => ?_⟩⟩, hL.symm, hn, hl⟩
    · have hk : 0 < L.length := by omega
      exact (hLq 0 _ (List.getElem?_eq_getElem hk)).1
    · have hj : j < (tcells L).length := (List.getElem?_eq_some_iff.1 hu0).1
      obtain ⟨hk, he⟩ := tcells_cut L j hj
      rw [he] at hu0
      have := (hLq (j / 3) _ (List.getElem?_eq_getElem hk)).2 (j % 3) u hu0
      rw [show j / 3 * 3 + j % 3 = j by omega] at this
      exact this
theorem open_strs {r : Reach} {b0 : Nat} {t e : TypeId} {v : Value} {d : DataW H} {p : List MemPlace} (ht : P.underlying t = some (.slice e)) (he : P.underlying e = some .string) (hC : P.cellsOf e = 1) (hby : P.bytesOf e = 16)
    (hv : Value.okWide P w r b0 t v) (h : DataW.Trod enc P w base (fun _ => true) held t v d p) (hz : ∀ elems spare, d = .slice elems spare → (elems.length + spare.length) * P.bytesOf e ≤ reachBytes) :
    ∃ (A : Option Addr) (n cap : Nat) (L : List ByteArray), v = .slice A n cap ∧ Reads w w.heap.size 1 A n (Qu.row L) ∧ n = L.length ∧ n * 16 ≤ 140737488355328 ∧ n ≤ cap := by
  obtain ⟨A0, n0, c0, rfl⟩ := okWide_slice ht hv
  obtain ⟨fuel, hf⟩ := h
  have hf' : DataW.trod enc P w base (fun _ => true) held fuel t [.slice A0 n0 c0] = some (d, p) := hf
  rcases open_slice ht hf' with ⟨hcs, _⟩ | ⟨a, len, cap, m, n, D, Pl, hcs, hb, hl, hm, hmm, hx, hi⟩
  · simp only [List.cons.injEq, Value.slice.injEq, and_true] at hcs
    obtain ⟨rfl, rfl, rfl⟩ := hcs
    exact ⟨none, 0, 0, [], rfl, Reads.none_, rfl, by omega, Nat.le_refl _⟩
  · simp only [List.cons.injEq, Value.slice.injEq, and_true] at hcs
    obtain ⟨rfl, rfl, rfl⟩ := hcs
    simp only [Prod.mk.injEq] at hx
    have hmc : m = c0 := by rw [hmm]; simp
    have hw := hz _ _ hx.1
    simp only [List.length_map, List.length_range, hby] at hw
    have hr : reachBytes < 140737488355328 := reachBytes_lt
    have hn : n0 * 16 ≤ 140737488355328 := by
      have : n0 * 16 ≤ (n0 + (m - n0)) * 16 := Nat.mul_le_mul_right _ (by omega)
      omega
    have hq : ∀ i, i < n0 → ∃ x : ByteArray, a.block < w.heap.size ∧ w.cell? (a.add i) = some (.string x) := by
      intro i hin
      obtain ⟨cs', hc, ht'⟩ := hi i (by omega)
      rw [hC] at hc
      obtain ⟨_, hcl, hat⟩ := World.cells?_some hc
      obtain ⟨u, rfl⟩ : ∃ u, cs' = [u] := List.length_eq_one_iff.1 hcl
      obtain ⟨x, g0, _⟩ := DataW.trod_string he ht'
      simp only [List.cons.injEq, and_true] at g0
      subst g0
      have h0 := hat 0 (by omega)
      simp only [Nat.mul_one] at h0
      have e0 : (a.add i).add 0 = a.add i := by unfold Addr.add; simp
      rw [e0] at h0
      have hblk : (a.add i).block < w.heap.size := World.block_lt_of_cell? w _ h0
      rw [block_of_add] at hblk
      exact ⟨x, hblk, h0⟩
    obtain ⟨L, hL, hLq⟩ := list_of n0 hq
    refine ⟨some a, n0, c0, L, rfl, ⟨by rw [Qu.row_len, hL, Nat.mul_one], fun hpos => ⟨a, rfl, ?_, fun j u hu0 => ?_⟩⟩, hL.symm, hn, hl⟩
    · have hk : 0 < L.length := by omega
      exact (hLq 0 _ (List.getElem?_eq_getElem hk)).1
    · unfold Qu.row at hu0
      rw [List.getElem?_map] at hu0
      cases hx0 : L[j]? with
      | none => rw [hx0] at hu0; simp at hu0
      | some x =>
        rw [hx0] at hu0
        simp at hu0
        subst hu0
        exact (hLq j x hx0).2
end
end Go.Proofs.YtdipincjginmcaaDoor
