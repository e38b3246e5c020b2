/- The tiles of which a row tells, gone through: plain; and what a round of a loop over them keeps. -/
import Derived.Test.YtppciejcobmikaaSeekMath
import Derived.Test.YtppciejcobmikaaEntOwn
import Derived.RangeFuncNested
import Derived.RangeFuncBound
import Derived.RangeFuncCalls
import Derived.RangeFuncLeaves
namespace Go.Proofs.Ytppciejcobmikaa
open Go.RowKit

def Sk.own (L : List Ent) : List Ent := if En.row L = 0 then L else []
def Sk.one (e : Ent) : List (Int × Ent) := (List.range e.2.2.2.toNat).map (fun k : Nat => (e.1 + (k : Int), e))
def Sk.ts (M : List Ent) : List (Int × Ent) := M.flatMap Sk.one
def Sk.off (M : List Ent) (i : Nat) : Nat := (Sk.ts (M.take i)).length
abbrev Sk.T (M : List Ent) := { x : Int × Ent // x ∈ Sk.ts M }

theorem Sk.one_len (e : Ent) : (Sk.one e).length = e.2.2.2.toNat := by simp [Sk.one]
theorem Sk.ts_append (A B : List Ent) : Sk.ts (A ++ B) = Sk.ts A ++ Sk.ts B := by unfold Sk.ts; simp
theorem Sk.off_succ (M : List Ent) (i : Nat) (hi : i < M.length) : Sk.off M (i + 1) = Sk.off M i + (M[i]'hi).2.2.2.toNat := by
  unfold Sk.off
  rw [take_snoc M i hi, Sk.ts_append, List.length_append]
  simp [Sk.ts, Sk.one_len]
theorem Sk.off_all (M : List Ent) : Sk.off M M.length = (Sk.ts M).length := by unfold Sk.off; rw [List.take_length]
theorem Sk.off_zero (M : List Ent) : Sk.off M 0 = 0 := rfl
theorem Sk.ts_get (M : List Ent) (i k : Nat) (hi : i < M.length) (hk : k < (M[i]'hi).2.2.2.toNat) : (Sk.ts M)[Sk.off M i + k]? = some ((M[i]'hi).1 + (k : Int), M[i]'hi) := by
  have h : Sk.ts M = Sk.ts (M.take i) ++ (Sk.one (M[i]'hi) ++ Sk.ts (M.drop (i + 1))) := by
    have e : M = M.take i ++ (M[i]'hi :: M.drop (i + 1)) := by rw [← List.drop_eq_getElem_cons hi, List.take_append_drop]
    refine (congrArg Sk.ts e).trans ?_
    rw [Sk.ts_append]
    simp only [Sk.ts, List.flatMap_cons]
  rw [h, List.getElem?_append_right (by unfold Sk.off; omega), show Sk.off M i + k - (Sk.ts (M.take i)).length = k by unfold Sk.off; omega, List.getElem?_append_left (by rw [Sk.one_len]; exact hk)]
  unfold Sk.one
  rw [List.getElem?_map, List.getElem?_range hk]
  rfl
theorem Sk.off_le (M : List Ent) (i k : Nat) (hi : i < M.length) (hk : k < (M[i]'hi).2.2.2.toNat) : Sk.off M i + k < (Sk.ts M).length :=
  (List.getElem?_eq_some_iff.1 (Sk.ts_get M i k hi hk)).1
theorem Sk.attach_take {M : List Ent} (c : Nat) (x : Int × Ent) (h : (Sk.ts M)[c]? = some x) : ∃ hx : x ∈ Sk.ts M, (Sk.ts M).attach.take (c + 1) = (Sk.ts M).attach.take c ++ [⟨x, hx⟩] := by
  obtain ⟨hc, he⟩ := List.getElem?_eq_some_iff.1 h
  refine ⟨by rw [← he]; exact List.getElem_mem hc, ?_⟩
  rw [take_snoc _ c (by simpa using hc)]
  congr 1
  simp [he]
theorem Sk.ts_mem {M : List Ent} {x : Int × Ent} (h : x ∈ Sk.ts M) : x.2 ∈ M ∧ 0 < x.2.2.2.2 ∧ x.2.1 ≤ x.1 ∧ x.1 < x.2.1 + x.2.2.2.2 := by
  unfold Sk.ts at h
  obtain ⟨e, he, hx⟩ := List.mem_flatMap.1 h
  unfold Sk.one at hx
  obtain ⟨k, hk, rfl⟩ := List.mem_map.1 hx
  have hk := List.mem_range.1 hk
  refine ⟨he, ?_, ?_, ?_⟩ <;> dsimp only <;> omega

/-- what a round keeps: the block of the list, and the blocks that were laid since the loop began -/
def Kpt (g D : Nat) (W W' : World) : Prop := ∀ b o, (b = g ∨ D ≤ b) → W.heap[b]? = some o → o.isCells = true → W'.heap[b]? = some o
theorem Kpt.refl (g D : Nat) (W : World) : Kpt g D W W := fun _ _ _ h _ => h
theorem Kpt.trans {g D : Nat} {A B C : World} (h : Kpt g D A B) (k : Kpt g D B C) : Kpt g D A C := fun b o hb ho hc => k b o hb (h b o hb ho hc) hc
theorem Kpt.below {g D : Nat} {W W' : World} (h : Below W.heap.size W W') : Kpt g D W W' := fun _ _ _ ho _ => blk_keep ho h
theorem Kpt.alloc {g D : Nat} (W : World) (o : Obj) : Kpt g D W (W.alloc o) := Kpt.below (blk_new W o)
theorem Kpt.setCell {g D : Nat} (W : World) {p : Addr} (v : Value) (h1 : p.block ≠ g) (h2 : p.block < D) : Kpt g D W (W.setCell p v) := fun b o hb ho _ => by
  have hne : p.block ≠ b := by rcases hb with rfl | hb <;> omega
  rw [← ho]
  simp only [World.setCell, Array.getElem?_modify, if_neg hne]
theorem Kpt.putObj {g D : Nat} (W : World) (l : Nat) (o o' : Obj) (h : W.heap[l]? = some o) (hc : o.isCells = false) : Kpt g D W (W.putObj l o') := fun b p hb hp hcp => by
  have hne : b ≠ l := fun e => by subst e; rw [h] at hp; cases hp; rw [hc] at hcp; cases hcp
  rw [← hp]
  exact World.putObj_heap_other (by omega)
theorem KeepsOthers.of_below {W W' : World} (h : Below W.heap.size W W') : KeepsOthers W W' := ⟨h.size, fun _ _ hk _ => blk_keep hk h⟩

/-- the list of entries in its block -/
def EntBlk (E : TypeId) (g : Nat) (M : List Ent) (W : World) : Prop := ∃ cur, W.heap[g]? = some (.cells cur E (0, 0)) ∧ cur.toList.take (M.length * 4) = ecells M
theorem EntBlk.kpt {E g D : Nat} {M : List Ent} {W W' : World} (h : EntBlk E g M W) (k : Kpt g D W W') : EntBlk E g M W' := by
  obtain ⟨cur, hh, hc⟩ := h
  exact ⟨cur, k g _ (Or.inl rfl) hh rfl, hc⟩
theorem EntBlk.below {E g : Nat} {M : List Ent} {W W' : World} (h : EntBlk E g M W) (k : Below W.heap.size W W') : EntBlk E g M W' := by
  obtain ⟨cur, hh, hc⟩ := h
  exact ⟨cur, blk_keep hh k, hc⟩
theorem EntBlk.ent {E g : Nat} {M : List Ent} {W : World} (h : EntBlk E g M W) (k : Nat) (hk : k < M.length) :
    W.cell? ⟨g, k * 4, none⟩ = some (.int .u64 (M[k]'hk).1) ∧ W.cell? ⟨g, k * 4 + 1, none⟩ = some (.int .u64 (M[k]'hk).2.1) ∧ W.cell? ⟨g, k * 4 + 2, none⟩ = some (.int .u32 (M[k]'hk).2.2.1) ∧ W.cell? ⟨g, k * 4 + 3, none⟩ = some (.int .u32 (M[k]'hk).2.2.2) := by
  obtain ⟨cur, hh, hc⟩ := h
  have at_ : ∀ j, j < 4 → W.cell? ⟨g, k * 4 + j, none⟩ = (En.vals (M[k]'hk))[j]? := fun j hj => by
    have h1 := ecells_get M k j hk hj
    rw [← hc, List.getElem?_take, if_pos (by omega), Array.getElem?_toList] at h1
    rw [cell_of_row W g (k * 4 + j) cur E (0, 0) hh, h1]
  exact ⟨(at_ 0 (by omega)).trans rfl, (at_ 1 (by omega)).trans rfl, (at_ 2 (by omega)).trans rfl, (at_ 3 (by omega)).trans rfl⟩

end Go.Proofs.Ytppciejcobmikaa
