/- A row of bytes into which is stored: what a loop over it keeps. -/
import Derived.Test.YtppciejcobmikaaVarTake
namespace Go.Proofs.Ytppciejcobmikaa
open Go.RowKit

def Run8 (w : World) (g n : Nat) : Prop := ∃ cur, w.heap[g]? = some (.cells cur 5 (0, 0)) ∧ ∀ j, j < n → ∃ x : Int, 0 ≤ x ∧ x < 256 ∧ cur[j]? = some (.int .u8 x)
theorem Run8.cell {w : World} {g n k : Nat} (h : Run8 w g n) (hk : k < n) : ∃ x : Int, 0 ≤ x ∧ x < 256 ∧ w.cell? ⟨g, k, none⟩ = some (.int .u8 x) := by
  obtain ⟨cur, hh, hc⟩ := h
  obtain ⟨x, h0, h1, h2⟩ := hc k hk
  exact ⟨x, h0, h1, by rw [cell_of_row w g k cur _ (0, 0) hh, h2]⟩
theorem Run8.frz {w : World} {g n k : Nat} (h : Run8 w g n) : w.frozen? ⟨g, k, none⟩ = false := by
  obtain ⟨cur, hh, _⟩ := h
  simp [World.frozen?, hh]
theorem Run8.set {w : World} {g n k : Nat} {x : Int} (h : Run8 w g n) (h0 : 0 ≤ x) (h1 : x < 256) : Run8 (w.setCell ⟨g, k, none⟩ (.int .u8 x)) g n := by
  obtain ⟨cur, hh, hc⟩ := h
  refine ⟨cur.setIfInBounds k (.int .u8 x), by simp [World.setCell, Array.getElem?_modify, hh], fun j hj => ?_⟩
  obtain ⟨y, g0, g1, g2⟩ := hc j hj
  by_cases e : k = j
  · subst e
    refine ⟨x, h0, h1, ?_⟩
    have hlt := (Array.getElem?_eq_some_iff.1 g2).1
    rw [Array.getElem?_setIfInBounds_self_of_lt hlt]
  · exact ⟨y, g0, g1, by rw [Array.getElem?_setIfInBounds_ne e]; exact g2⟩
theorem row8_run {w : World} {B : Nat} {v : Value} {l : List Int} (h : Row8 w B v l) (h0 : 0 < l.length) (hf : ∀ x ∈ l, 0 ≤ x ∧ x < 256) : ∃ g cap, v = .slice (some ⟨g, 0, none⟩) l.length cap ∧ B ≤ g ∧ l.length ≤ cap ∧ Run8 w g l.length := by
  rcases h.2 with ⟨_, hn⟩ | ⟨g, cap, cur, hv, hg, hh, hc, hm, hs, ht⟩
  · omega
  · refine ⟨g, cap, hv, hg, hc, cur, hh, fun j hj => ?_⟩
    have hx := hf (l[j]'hj) (List.getElem_mem hj)
    refine ⟨l[j]'hj, hx.1, hx.2, ?_⟩
    have h1 : (l.map (Value.int .u8))[j]? = some (.int .u8 (l[j]'hj)) := by rw [List.getElem?_map, List.getElem?_eq_getElem hj]; rfl
    rw [← ht, List.getElem?_take] at h1
    split at h1
    · simpa using h1
    · cases h1
theorem run_keep2 {w w' : World} {g n : Nat} (hb : Below w.heap.size w w') (h : Run8 w g n) : Run8 w' g n := by
  obtain ⟨cur, hh, hc⟩ := h
  exact ⟨cur, blk_keep hh hb, hc⟩
theorem reads_keep2 {w w' : World} {B size n : Nat} {A : Option Addr} {xs : List Value} (hb : Below w.heap.size w w') (hB : B ≤ w.heap.size) (h : Reads w B size A n xs) : Reads w' B size A n xs :=
  h.keep fun _ hp => hb.cell (by omega)
end Go.Proofs.Ytppciejcobmikaa
