/- The walk of tileid.Down. -/
import Derived.Test.YtdipincjginmcaaDoorTileOver
import Derived.Deep.AppendLies
import Derived.Deep.DeepMust
namespace Go.Proofs.YtdipincjginmcaaDoor
open Go.RowKit

/-- the cells of a list of tiles -/
def tcells (L : List (Int × Int × Int)) : List Value := L.flatMap fun t => [.int .i64 t.1, .int .i64 t.2.1, .int .i64 t.2.2]
theorem tcells_len (L : List (Int × Int × Int)) : (tcells L).length = L.length * 3 := by
  induction L with
  | nil => rfl
  | cons t L ih => simp only [tcells, List.flatMap_cons, List.length_append, List.length_cons, List.length_nil] at *; omega
theorem tcells_snoc (L : List (Int × Int × Int)) (t : Int × Int × Int) : tcells (L ++ [t]) = tcells L ++ [.int .i64 t.1, .int .i64 t.2.1, .int .i64 t.2.2] := by simp [tcells]
/-- a slice of the call's own that holds the tiles L -/
def TilesAt (w : World) (B : Nat) (E : TypeId) (v : Value) (L : List (Int × Int × Int)) : Prop := w.ownsRow B E 3 v L.length (tcells L)
theorem TilesAt.cell {w : World} {B g cap n : Nat} {E : TypeId} {L : List (Int × Int × Int)} (h : TilesAt w B E (.slice (some ⟨g, 0, none⟩) n cap) L) (i : Nat) (hi : i < L.length) :
    w.cell? ⟨g, i * 3, none⟩ = some (.int .i64 (L[i]'hi).1) ∧ w.cell? ⟨g, i * 3 + 1, none⟩ = some (.int .i64 (L[i]'hi).2.1) ∧ w.cell? ⟨g, i * 3 + 2, none⟩ = some (.int .i64 (L[i]'hi).2.2) := by
  have hl : ∀ (L : List (Int × Int × Int)) (i : Nat) (hi : i < L.length), (tcells L)[i * 3]? = some (.int .i64 (L[i]'hi).1) ∧ (tcells L)[i * 3 + 1]? = some (.int .i64 (L[i]'hi).2.1) ∧ (tcells L)[i * 3 + 2]? = some (.int .i64 (L[i]'hi).2.2) := by
    intro L
    induction L with
    | nil => intro i hi; simp at hi
    | cons t L ih =>
      intro i hi
      cases i with
      | zero => exact ⟨rfl, rfl, rfl⟩
      | succ i =>
        have := ih i (by simpa using hi)
        rw [show (i + 1) * 3 = i * 3 + 1 + 1 + 1 by omega]
        exact this
  obtain ⟨h0, h1, h2⟩ := hl L i hi
  have hn : L.length = n := by
    rcases h.2 with ⟨hv, h0⟩ | ⟨g', cap', cur, hv, _⟩
    · rw [h0] at hi; omega
    · injection hv with _ hv _; exact hv.symm
  have hc := h.cells (g := g) rfl
  have e : ∀ j, (⟨g, 0, none⟩ : Addr).add j = ⟨g, j, none⟩ := fun j => by unfold Addr.add; split <;> simp_all
  exact ⟨e _ ▸ hc _ _ h0, e _ ▸ hc _ _ h1, e _ ▸ hc _ _ h2⟩

theorem tile_info : (Tryd.prog.info? 30).map (fun i => (i.zero, i.size, i.bytes)) = some (some (.agg #[.int .i64 0, .int .i64 0, .int .i64 0]), 3, 24) := by kernel_rfl

/-- tile i of those behind an identifier -/
def Cv.tl (id : Int) : Int × Int × Int := (Cv.oz id, Cv.ox id, Cv.oy id)
def Cv.tls (from_ : Int) : Nat → List (Int × Int × Int)
  | 0 => []
  | k + 1 => Cv.tls from_ k ++ [Cv.tl (from_ + k)]
theorem Cv.tls_len (f : Int) (k : Nat) : (Cv.tls f k).length = k := by
  induction k with
  | zero => rfl
  | succ k ih => simp [Cv.tls, ih]
def Cv.dB (tz tx ty : Int) : Bool := Cv.okB tz tx ty && decide (tz < 26)
def Cv.dl (tz tx ty : Int) : List (Int × Int × Int) := if Cv.dB tz tx ty then Cv.tls (Cv.rf tz tx ty (tz + 1)) 4 else []
def Cv.de (tz tx ty : Int) : Int := if Cv.okB tz tx ty then (if tz < 26 then 0 else 6) else Cv.pe tz tx ty

/-- what Down gives: a list of tiles of the call's own and an error -/
def DownPost (E : TypeId) (L : List (Int × Int × Int)) (err : Int) (w : World) (e : Ending) (w' : World) : Prop :=
  ∃ v, e = .returned (.tuple #[v, .int .i64 err]) ∧ TilesAt w' w.heap.size E v L ∧ Below w.heap.size w w'

theorem blk_news3 {w : World} {g : Nat} {a b c : Value} {t : TypeId} (h : w.heap[g]? = some (.cells #[a, b, c] t (0, 0))) : ∀ j u, [a, b, c][j]? = some u → w.cell? ((⟨g, 0, none⟩ : Addr).add j) = some u := by
  intro j u hu
  obtain ⟨⟨h0, h1, h2⟩, _⟩ := blk_cells3 h
  match j, hu with
  | 0, hu => simp at hu; subst hu; exact h0
  | 1, hu => simp at hu; subst hu; exact h1
  | 2, hu => simp at hu; subst hu; exact h2
  | j + 3, hu => simp at hu
theorem ownsRow_keep {w w' : World} {base size n : Nat} {e : TypeId} {v : Value} {xs : List Value} (h : w.ownsRow base e size v n xs) (hb : Below w.heap.size w w') : w'.ownsRow base e size v n xs := by
  obtain ⟨h1, h2⟩ := h
  refine ⟨h1, ?_⟩
  rcases h2 with h2 | ⟨g, cap, cur, hv, hg, hh, r⟩
  · exact Or.inl h2
  · exact Or.inr ⟨g, cap, cur, hv, hg, blk_keep hh hb, r⟩

end Go.Proofs.YtdipincjginmcaaDoor
