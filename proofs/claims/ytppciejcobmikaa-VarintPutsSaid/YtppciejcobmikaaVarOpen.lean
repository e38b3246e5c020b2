/- Arguments that are texts, bytes, numbers or scans, opened. -/
import Derived.Test.YtppciejcobmikaaLaw
import Derived.Test.YtppciejcobmikaaEntOpen
import Derived.Test.YtppciejcobmikaaVarScan
namespace Go.Proofs.Ytppciejcobmikaa
open Go.RowKit Go.WideShapes Go.ChangeShapes Go.ChangeAt Go.Deep

section
variable {H : Type} {enc : TypeId × Value → H} {P : Program} {w : World} {base : Nat} {held : Bool}
theorem small_string {ts : List TypeId} {ds : List (DataW H)} (h : (DataW.weightsEach P ts ds).all (· ≤ reachBytes) = true) {j : Nat} {t : TypeId} {s : ByteArray} (ht : ts[j]? = some t) (hd : ds[j]? = some (.lit (.string s.data.toList))) : s.size ≤ 140737488355328 := by
  have h1 := sized_string h ht hd
  have h2 : reachBytes < 140737488355328 := reachBytes_lt
  have h3 : s.data.toList.length = s.size := by rw [Array.length_toList]; rfl
  omega

/-- a slice of numbers -/
theorem open_nums {k : IntKind} {lim : Int} {r : Reach} {b0 : Nat} {t e : TypeId} {v : Value} {d : DataW H} {p : List MemPlace} {by_ : Nat} (hlim : ∀ a : Int, (Lit.int k a).wf = true → 0 ≤ a ∧ a < lim) (ht : P.underlying t = some (.slice e)) (he : P.underlying e = some (.int k)) (hC : P.cellsOf e = 1) (hby : P.bytesOf e = by_)
    (hv : Value.okWide P w r b0 t v) (h : DataW.Trod enc P w base (fun _ => true) held t v d p) (hz : ∀ elems spare, d = .slice elems spare → (elems.length + spare.length) * P.bytesOf e ≤ reachBytes) :
    ∃ (A : Option Addr) (n cap : Nat) (L : List Int), v = .slice A n cap ∧ Reads w w.heap.size 1 A n (L.map (Value.int k)) ∧ n = L.length ∧ (∀ x ∈ L, 0 ≤ x ∧ x < lim) ∧ n * by_ ≤ 140737488355328 ∧ n ≤ cap := by
  obtain ⟨A0, n0, c0, rfl⟩ := okWide_slice ht hv
  obtain ⟨fuel, hf⟩ := h
  have hf' : DataW.trod enc P w base (fun _ => true) held fuel t [.slice A0 n0 c0] = some (d, p) := hf
  rcases open_slice ht hf' with ⟨hcs, _⟩ | ⟨a, len, cap, m, n, D, Pl, hcs, hb, hl, hm, hmm, hx, hi⟩
  · simp only [List.cons.injEq, Value.slice.injEq, and_true] at hcs
    obtain ⟨rfl, rfl, rfl⟩ := hcs
    exact ⟨none, 0, 0, [], rfl, Reads.none_, rfl, fun e he => by simp at he, by omega, Nat.le_refl _⟩
  · simp only [List.cons.injEq, Value.slice.injEq, and_true] at hcs
    obtain ⟨rfl, rfl, rfl⟩ := hcs
    simp only [Prod.mk.injEq] at hx
    have hmc : m = c0 := by rw [hmm]; simp
    have hw := hz _ _ hx.1
    simp only [List.length_map, List.length_range, hby] at hw
    have hr : reachBytes < 140737488355328 := reachBytes_lt
    have hn : n0 * by_ ≤ 140737488355328 := by
      have : n0 * by_ ≤ (n0 + (m - n0)) * by_ := Nat.mul_le_mul_right _ (by omega)
      omega
    have hq : ∀ i, i < n0 → ∃ x : Int, (0 ≤ x ∧ x < lim) ∧ a.block < w.heap.size ∧ w.cell? (a.add i) = some (.int k x) := by
      intro i hin
      obtain ⟨cs', hc, ht'⟩ := hi i (by omega)
      rw [hC] at hc
      obtain ⟨_, hcl, hat⟩ := World.cells?_some hc
      obtain ⟨u, rfl⟩ : ∃ u, cs' = [u] := List.length_eq_one_iff.1 hcl
      obtain ⟨x, g0, _, w0⟩ := DataW.trod_int he ht'
      simp only [List.cons.injEq, and_true] at g0
      subst g0
      have h0 := hat 0 (by omega)
      simp only [Nat.mul_one] at h0
      have e0 : (a.add i).add 0 = a.add i := by unfold Addr.add; simp
      rw [e0] at h0
      have hblk : (a.add i).block < w.heap.size := World.block_lt_of_cell? w _ h0
      rw [block_of_add] at hblk
      exact ⟨x, hlim x w0, hblk, h0⟩
    obtain ⟨L, hL, hLq⟩ := list_of n0 hq
    refine ⟨some a, n0, c0, L, rfl, ⟨by rw [List.length_map, hL, Nat.mul_one], fun hpos => ⟨a, rfl, ?_, fun j u hu0 => ?_⟩⟩, hL.symm, fun e he => ?_, hn, hl⟩
    · have hk : 0 < L.length := by omega
      exact (hLq 0 _ (List.getElem?_eq_getElem hk)).2.1
    · rw [List.getElem?_map] at hu0
      cases hx0 : L[j]? with
      | none => rw [hx0] at hu0; simp at hu0
      | some x =>
        rw [hx0] at hu0
        simp at hu0
        subst hu0
        exact (hLq j x hx0).2.2
    · obtain ⟨i, hi0, hie⟩ := List.mem_iff_getElem.1 he
      exact (hLq i e (by rw [List.getElem?_eq_getElem hi0, hie])).1
theorem open_bytes {r : Reach} {b0 : Nat} {t e : TypeId} {v : Value} {d : DataW H} {p : List MemPlace} (ht : P.underlying t = some (.slice e)) (he : P.underlying e = some (.int .u8)) (hC : P.cellsOf e = 1) (hby : P.bytesOf e = 1)
    (hv : Value.okWide P w r b0 t v) (h : DataW.Trod enc P w base (fun _ => true) held t v d p) (hz : ∀ elems spare, d = .slice elems spare → (elems.length + spare.length) * P.bytesOf e ≤ reachBytes) :
    ∃ (A : Option Addr) (n cap : Nat) (L : List Int), v = .slice A n cap ∧ Reads w w.heap.size 1 A n (L.map (Value.int .u8)) ∧ n = L.length ∧ (∀ x ∈ L, 0 ≤ x ∧ x < 256) ∧ n ≤ 140737488355328 ∧ n ≤ cap := by
  obtain ⟨A, n, c, L, h1, h2, h3, h4, h5, h6⟩ := open_nums (lim := 256) (fun a ha => by have := bd_u8 ha; omega) ht he hC hby hv h hz
  exact ⟨A, n, c, L, h1, h2, h3, h4, by omega, h6⟩
theorem open_u64s {r : Reach} {b0 : Nat} {t e : TypeId} {v : Value} {d : DataW H} {p : List MemPlace} (ht : P.underlying t = some (.slice e)) (he : P.underlying e = some (.int .u64)) (hC : P.cellsOf e = 1) (hby : P.bytesOf e = 8)
    (hv : Value.okWide P w r b0 t v) (h : DataW.Trod enc P w base (fun _ => true) held t v d p) (hz : ∀ elems spare, d = .slice elems spare → (elems.length + spare.length) * P.bytesOf e ≤ reachBytes) :
    ∃ (A : Option Addr) (n cap : Nat) (L : List Int), v = .slice A n cap ∧ Reads w w.heap.size 1 A n (L.map (Value.int .u64)) ∧ n = L.length ∧ (∀ x ∈ L, 0 ≤ x ∧ x < 18446744073709551616) ∧ n * 8 ≤ 140737488355328 ∧ n ≤ cap :=
  open_nums (lim := 18446744073709551616) (fun a ha => by have := bd_u64 ha; omega) ht he hC hby hv h hz
/-- a struct of a text and two ints, by value -/
theorem open_scan {spare : Nat → Bool} {r : Reach} {b0 : Nat} {t ts ti : TypeId} {f0 f1 f2 : Field} {v : Value} {d : DataW H} {p : List MemPlace} (hs : P.underlying t = some (.struct #[f0, f1, f2])) (hone : oneCellFields P #[f0, f1, f2] = true) (hC : P.cellsOf t = 3)
    (h0 : f0.type = ts) (h1 : f1.type = ti) (h2 : f2.type = ti) (hts : P.underlying ts = some .string) (hti : P.underlying ti = some (.int .i64)) (hv : Value.okWide P w r b0 t v) (h : DataW.Trod enc P w base spare held t v d p) :
    ∃ (s : ByteArray) (a b : Int), v = Sc s a b ∧ s.size ≤ maxLen ∧ (Lit.int .i64 a).wf = true ∧ (Lit.int .i64 b).wf = true := by
  obtain ⟨c0, c1, c2, y0, y1, y2, n, rfl, _, _, e0, e1, e2⟩ := Joins.open_agg3 hs hone hC hv h
  rw [h0] at e0
  rw [h1] at e1
  rw [h2] at e2
  obtain ⟨s, g0, _, w0⟩ := DataW.trod_string hts e0
  obtain ⟨a, g1, _, w1⟩ := DataW.trod_int hti e1
  obtain ⟨b, g2, _, w2⟩ := DataW.trod_int hti e2
  simp only [List.cons.injEq, and_true] at g0 g1 g2
  subst g0 g1 g2
  exact ⟨s, a, b, rfl, w0, w1, w2⟩
end
end Go.Proofs.Ytppciejcobmikaa
