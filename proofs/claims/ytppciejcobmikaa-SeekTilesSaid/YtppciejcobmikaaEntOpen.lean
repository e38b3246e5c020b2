/- Arguments that are entries, and lists of entries, opened. -/
import Derived.Test.YtppciejcobmikaaLaw
import Derived.Test.YtppciejcobmikaaEntRows
import Derived.SizedLaws
import Derived.Deep.Slices
namespace Go.Proofs.Ytppciejcobmikaa
open Go.RowKit Go.WideShapes Go.ChangeShapes Go.ChangeAt Go.Deep

theorem bd_u32 {a : Int} (h : (Lit.int .u32 a).wf = true) : 0 ≤ a ∧ a ≤ 4294967295 := by simpa [Lit.wf, IntKind.min, IntKind.max, IntKind.signed, IntKind.bits] using h
theorem bd_u8 {a : Int} (h : (Lit.int .u8 a).wf = true) : 0 ≤ a ∧ a ≤ 255 := by simpa [Lit.wf, IntKind.min, IntKind.max, IntKind.signed, IntKind.bits] using h
theorem bd_u16 {a : Int} (h : (Lit.int .u16 a).wf = true) : 0 ≤ a ∧ a ≤ 65535 := by simpa [Lit.wf, IntKind.min, IntKind.max, IntKind.signed, IntKind.bits] using h

theorem list_of {α : Type} {Q : Nat → α → Prop} : ∀ (n : Nat), (∀ i, i < n → ∃ x, Q i x) → ∃ L : List α, L.length = n ∧ ∀ (i : Nat) (x : α), L[i]? = some x → Q i x
  | 0, _ => ⟨[], rfl, fun i x h => by simp at h⟩
  | n + 1, h => by
    obtain ⟨L, hl, hq⟩ := list_of n (fun i hi => h i (by omega))
    obtain ⟨x, hx⟩ := h n (by omega)
    refine ⟨L ++ [x], by simp [hl], fun i y hy => ?_⟩
    rw [List.getElem?_append] at hy
    split at hy
    · exact hq i y hy
    · have hi : i = n := by
        have := (List.getElem?_eq_some_iff.1 hy).1
        simp at this
        omega
      subst hi
      rw [hl, Nat.sub_self] at hy
      simp at hy
      subst hy
      exact hx

section
variable {H : Type} {enc : TypeId × Value → H} {P : Program} {w : World} {base : Nat} {held : Bool}
theorem open_ent {spare : Nat → Bool} {r : Reach} {b0 : Nat} {t tu tv : TypeId} {f0 f1 f2 f3 : Field} {v : Value} {d : DataW H} {p : List MemPlace} (hs : P.underlying t = some (.struct #[f0, f1, f2, f3])) (hone : oneCellFields P #[f0, f1, f2, f3] = true) (hC : P.cellsOf t = 4)
    (h0 : f0.type = tu) (h1 : f1.type = tu) (h2 : f2.type = tv) (h3 : f3.type = tv) (hu : P.underlying tu = some (.int .u64)) (hu' : P.underlying tv = some (.int .u32)) (hv : Value.okWide P w r b0 t v) (h : DataW.Trod enc P w base spare held t v d p) :
    ∃ i o l r : Int, v = .agg #[.int .u64 i, .int .u64 o, .int .u32 l, .int .u32 r] ∧ En.fit i o l r := by
  obtain ⟨c0, c1, c2, c3, y0, y1, y2, y3, n, rfl, _, _, e0, e1, e2, e3⟩ := Joins.open_agg4 hs hone hC hv h
  rw [h0] at e0
  rw [h1] at e1
  rw [h2] at e2
  rw [h3] at e3
  obtain ⟨a, g0, _, w0⟩ := DataW.trod_int hu e0
  obtain ⟨b, g1, _, w1⟩ := DataW.trod_int hu e1
  obtain ⟨c, g2, _, w2⟩ := DataW.trod_int hu' e2
  obtain ⟨d, g3, _, w3⟩ := DataW.trod_int hu' e3
  simp only [List.cons.injEq, and_true] at g0 g1 g2 g3
  subst g0 g1 g2 g3
  have := bd_u64 w0
  have := bd_u64 w1
  have := bd_u32 w2
  have := bd_u32 w3
  exact ⟨a, b, c, d, rfl, by unfold En.fit; omega⟩

theorem open_ents {r : Reach} {b0 : Nat} {t e tu tv : TypeId} {f0 f1 f2 f3 : Field} {v : Value} {d : DataW H} {p : List MemPlace} (ht : P.underlying t = some (.slice e)) (hs : P.underlying e = some (.struct #[f0, f1, f2, f3])) (hone : oneCellFields P #[f0, f1, f2, f3] = true) (hC : P.cellsOf e = 4) (hby : P.bytesOf e = 24)
    (h0 : f0.type = tu) (h1 : f1.type = tu) (h2 : f2.type = tv) (h3 : f3.type = tv) (hu : P.underlying tu = some (.int .u64)) (hu' : P.underlying tv = some (.int .u32)) (hv : Value.okWide P w r b0 t v) (h : DataW.Trod enc P w base (fun _ => true) held t v d p)
    (hz : ∀ elems spare, d = .slice elems spare → (elems.length + spare.length) * P.bytesOf e ≤ reachBytes) :
    ∃ (A : Option Addr) (n cap : Nat) (L : List Ent), v = .slice A n cap ∧ Reads w w.heap.size 4 A n (ecells L) ∧ n = L.length ∧ En.fits L ∧ n * 24 ≤ 140737488355328 ∧ n ≤ cap := by
  obtain ⟨A0, n0, c0, rfl⟩ := okWide_slice ht hv
  obtain ⟨fuel, hf⟩ := h
  have hf' : DataW.trod enc P w base (fun _ => true) held fuel t [.slice A0 n0 c0] = some (d, p) := hf
  rcases open_slice ht hf' with ⟨hcs, _⟩ | ⟨a, len, cap, m, n, D, Pl, hcs, hb, hl, hm, hmm, hx, hi⟩
  · simp only [List.cons.injEq, Value.slice.injEq, and_true] at hcs
    obtain ⟨rfl, rfl, rfl⟩ := hcs
    exact ⟨none, 0, 0, [], rfl, Reads.none_, rfl, fun e he => by simp at he, by omega, Nat.le_refl _⟩
  · simp only [List.cons.injEq, Value.slice.injEq, and_true] at hcs
    obtain ⟨rfl, rfl, rfl⟩ := hcs
    simp only [Prod.mk.injEq] at hx
    have hmc : m = c0 := by rw [hmm]; simp
    have hw := hz _ _ hx.1
    simp only [List.length_map, List.length_range, hby] at hw
    have hr : reachBytes < 140737488355328 := reachBytes_lt
    have hn : n0 * 24 ≤ 140737488355328 := by
      have : n0 * 24 ≤ (n0 + (m - n0)) * 24 := Nat.mul_le_mul_right _ (by omega)
      omega
    have hq : ∀ i, i < n0 → ∃ e : Ent, En.good e ∧ a.block < w.heap.size ∧ ∀ j u, (En.vals e)[j]? = some u → w.cell? (a.add (i * 4 + j)) = some u := by
      intro i hin
      obtain ⟨cs', hc, ht'⟩ := hi i (by omega)
      rw [hC] at hc
      obtain ⟨ys, n', hn', hy, hlen, hyl, hg⟩ := DataW.trod_struct hs ht'
      obtain ⟨_, hcl, hat⟩ := World.cells?_some hc
      have fld : ∀ (j : Nat) (f : Field), #[f0, f1, f2, f3][j]? = some f → ∃ (u : Value) (y : DataW H × List MemPlace), w.cell? (a.add (i * 4 + j)) = some u ∧ DataW.trod enc P w base (fun _ => true) held n' f.type [u] = some y := by
        intro j f hj
        obtain ⟨ho, hk⟩ := hone_of hone j f hj
        have hjl : j < 4 := by simpa using (Array.getElem?_eq_some_iff.1 hj).1
        have hcell := hat j hjl
        have hgj := hg j f hj
        rw [ho, hk] at hgj
        have hone' : (cs'.drop j).take 1 = [cs'[j]'(by omega)] := by
          rw [List.drop_eq_getElem_cons (by omega)]
          rfl
        rw [hone'] at hgj
        have hv : cs'[j]? = some (cs'[j]'(by omega)) := List.getElem?_eq_getElem (by omega)
        have hys : ys[j]? = some (ys[j]'(by simp at hyl; omega)) := List.getElem?_eq_getElem (by simp at hyl; omega)
        refine ⟨_, _, ?_, hgj.trans hys⟩
        rw [← Go.Deep.add_add, hcell, hv]
      obtain ⟨u0, y0, k0, e0⟩ := fld 0 f0 rfl
      obtain ⟨u1, y1, k1, e1⟩ := fld 1 f1 rfl
      obtain ⟨u2, y2, k2, e2⟩ := fld 2 f2 rfl
      obtain ⟨u3, y3, k3, e3⟩ := fld 3 f3 rfl
      rw [h0] at e0
      rw [h1] at e1
      rw [h2] at e2
      rw [h3] at e3
      obtain ⟨x0, g0, _, w0⟩ := DataW.trod_int hu e0
      obtain ⟨x1, g1, _, w1⟩ := DataW.trod_int hu e1
      obtain ⟨x2, g2, _, w2⟩ := DataW.trod_int hu' e2
      obtain ⟨x3, g3, _, w3⟩ := DataW.trod_int hu' e3
      simp only [List.cons.injEq, and_true] at g0 g1 g2 g3
      subst g0 g1 g2 g3
      have := bd_u64 w0
      have := bd_u64 w1
      have := bd_u32 w2
      have := bd_u32 w3
      have hblk : (a.add (i * 4 + 0)).block < w.heap.size := World.block_lt_of_cell? w _ k0
      rw [block_of_add] at hblk
      refine ⟨(x0, x1, x2, x3), (by show En.fit x0 x1 x2 x3; unfold En.fit; omega), hblk, fun j u hu0 => ?_⟩
      match j, hu0 with
      | 0, hu0 => simp [En.vals] at hu0; subst hu0; exact k0
      | 1, hu0 => simp [En.vals] at hu0; subst hu0; exact k1
      | 2, hu0 => simp [En.vals] at hu0; subst hu0; exact k2
      | 3, hu0 => simp [En.vals] at hu0; subst hu0; exact k3
      | j + 4, hu0 => simp [En.vals] at hu0
    obtain ⟨L, hL, hLq⟩ := list_of n0 hq
    refine ⟨some a, n0, c0, L, rfl, ⟨by rw [ecells_len, hL], fun hpos => ⟨a, rfl, ?_, fun j u hu0 => ?_⟩⟩, hL.symm, fun e he => ?_, hn, hl⟩
    · have hk : 0 < L.length := by omega
      exact (hLq 0 _ (List.getElem?_eq_getElem hk)).2.1
    · have hj : j < (ecells L).length := (List.getElem?_eq_some_iff.1 hu0).1
      rw [ecells_len] at hj
      have hk : j / 4 < L.length := by omega
      have he := ecells_get L (j / 4) (j % 4) hk (by omega)
      have hjj : j / 4 * 4 + j % 4 = j := by omega
      rw [hjj] at he
      rw [he] at hu0
      have := (hLq (j / 4) _ (List.getElem?_eq_getElem hk)).2.2 (j % 4) u hu0
      rw [hjj] at this
      exact this
    · obtain ⟨i, hi0, hie⟩ := List.mem_iff_getElem.1 he
      exact (hLq i e (by rw [List.getElem?_eq_getElem hi0, hie])).1
end
end Go.Proofs.Ytppciejcobmikaa
