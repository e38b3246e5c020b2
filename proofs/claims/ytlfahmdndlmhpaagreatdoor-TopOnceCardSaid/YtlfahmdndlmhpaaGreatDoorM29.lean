/- A row cut into leaves, and its root: plain. What the statement's loops hold: plain. How long the leaves are together; what a cut is put together to; plain. -/
import Derived.Test.YtlfahmdndlmhpaaGreatDoorM28
import Derived.Test.YtlfahmdndlmhpaaGreatDoorM27
namespace Go.Proofs.YtlfahmdndlmhpaaGreatDoor
open Go.RowKit

def Lv.chunk (L : List Ent) (k j : Nat) : List Ent := (L.drop (j * k)).take k
def Lv.text (L : List Ent) (k j : Nat) : List Int := (List.range j).flatMap fun i => Dr.enc (Lv.chunk L k i)
def Lv.ptr (L : List Ent) (k i : Nat) : Ent := (((Lv.chunk L k i).getD 0 Dr.z).1, ((Lv.text L k i).length : Int), ((Dr.enc (Lv.chunk L k i)).length : Int), 0)
def Lv.root (L : List Ent) (k j : Nat) : List Ent := (List.range j).map (Lv.ptr L k)
def Lv.cnt (n k : Nat) : Nat := (n + k - 1) / k

theorem Lv.cnt_iff {n k j : Nat} (hk : 0 < k) : j < Lv.cnt n k ↔ j * k < n := by
  unfold Lv.cnt
  rw [Nat.lt_iff_add_one_le, Nat.le_div_iff_mul_le hk, Nat.add_mul, Nat.one_mul]
  omega
theorem Lv.cnt_le {n k : Nat} (hk : 0 < k) : Lv.cnt n k ≤ n := by
  rcases Nat.lt_or_ge n (Lv.cnt n k) with h | h
  · have := (Lv.cnt_iff hk).1 h
    have h2 := Nat.le_mul_of_pos_right n hk
    omega
  · exact h
theorem Lv.cnt_one {n k : Nat} (hk : 0 < k) (h : n ≤ k) : Lv.cnt n k ≤ 1 := by
  rcases Nat.lt_or_ge 1 (Lv.cnt n k) with h2 | h2
  · have := (Lv.cnt_iff hk).1 h2
    omega
  · exact h2
theorem Lv.text_succ (L : List Ent) (k j : Nat) : Lv.text L k (j + 1) = Lv.text L k j ++ Dr.enc (Lv.chunk L k j) := by
  unfold Lv.text
  rw [List.range_succ, List.flatMap_append]
  simp
theorem Lv.root_succ (L : List Ent) (k j : Nat) : Lv.root L k (j + 1) = Lv.root L k j ++ [Lv.ptr L k j] := by
  unfold Lv.root
  rw [List.range_succ, List.map_append]
  rfl
theorem Lv.root_len (L : List Ent) (k j : Nat) : (Lv.root L k j).length = j := by simp [Lv.root]
theorem Lv.root_at (L : List Ent) (k j i : Nat) (h : i < (Lv.root L k j).length) : (Lv.root L k j)[i]'h = Lv.ptr L k i := by
  simp [Lv.root]
theorem Lv.chunk_len (L : List Ent) (k j : Nat) : (Lv.chunk L k j).length = min k (L.length - j * k) := by
  unfold Lv.chunk
  rw [List.length_take, List.length_drop]
theorem Lv.chunk_le (L : List Ent) (k j : Nat) : (Lv.chunk L k j).length ≤ L.length := by
  rw [Lv.chunk_len]; omega
theorem Lv.chunk_pos {L : List Ent} {k j : Nat} (hk : 0 < k) (h : j * k < L.length) : 0 < (Lv.chunk L k j).length := by
  rw [Lv.chunk_len]; omega
theorem Lv.chunk_first {L : List Ent} {k j : Nat} (hk : 0 < k) (h : j * k < L.length) : (Lv.chunk L k j).getD 0 Dr.z = L[j * k]'h := by
  rw [Dr.getD_at _ _ (Lv.chunk_pos hk h)]
  simp [Lv.chunk]
theorem Lv.chunk_fine {L : List Ent} (h : En.fine L) (k j : Nat) : En.fine (Lv.chunk L k j) := En.fine_take (En.fine_drop h _) _
theorem Lv.chunk_fits {L : List Ent} (h : En.fits L) (k j : Nat) : En.fits (Lv.chunk L k j) := En.fits_take (En.fits_drop h _) _
theorem Lv.chunk_mem {L : List Ent} {k j : Nat} {e : Ent} (h : e ∈ Lv.chunk L k j) : e ∈ L := List.mem_of_mem_drop (List.mem_of_mem_take h)
theorem Lv.take_next (L : List Ent) (k j : Nat) : L.take (j * k) ++ Lv.chunk L k j = L.take ((j + 1) * k) := by
  unfold Lv.chunk
  rw [Nat.add_mul, Nat.one_mul, List.take_add]
theorem Lv.take_all (L : List Ent) (k : Nat) (hk : 0 < k) : L.take (Lv.cnt L.length k * k) = L := by
  refine List.take_of_length_le ?_
  have h : ¬ Lv.cnt L.length k < Lv.cnt L.length k := Nat.lt_irrefl _
  rw [Lv.cnt_iff hk] at h
  omega
theorem Lv.text_len (L : List Ent) (hl : L.length ≤ 60) (k j : Nat) : (Lv.text L k j).length ≤ j * 2410 := by
  induction j with
  | zero => simp [Lv.text]
  | succ j ih =>
    have h1 := Dr.enc_len (Lv.chunk L k j)
    have h2 := Lv.chunk_le L k j
    rw [Lv.text_succ, List.length_append]
    omega
theorem Dr.enc_pos (L : List Ent) : 1 ≤ (Dr.enc L).length := by
  have h := Vi.all_pos (Dr.nums L)
  rw [Dr.nums_len] at h
  unfold Dr.enc
  omega
theorem Lv.ptr_ok {L : List Ent} (h : En.fine L) (hf : En.fits L) (hl : L.length ≤ 60) {k j : Nat} (hk : 0 < k) (hj : j * k < L.length) :
    En.good (Lv.ptr L k j) ∧ En.c (Lv.ptr L k j) = 0 ∧ En.l (Lv.ptr L k j) = (L[j * k]'hj).1 ∧ (Lv.ptr L k j).1 = (L[j * k]'hj).1 := by
  have hj2 : j < 60 := by
    have := Nat.le_mul_of_pos_right j hk
    omega
  have h1 := Lv.text_len L hl k j
  have h2 := Dr.enc_len (Lv.chunk L k j)
  have h3 := Lv.chunk_le L k j
  have h4 := Dr.enc_pos (Lv.chunk L k j)
  have hg := hf _ (List.getElem_mem hj)
  have hc := h.c _ hj
  have hi := En.ck_in (show En.ck _ _ _ _ = 0 from hc)
  have hw := (En.wd_bd hg.2.2.2.1).1
  have e1 : (Lv.ptr L k j).1 = (L[j * k]'hj).1 := by unfold Lv.ptr; rw [Lv.chunk_first hk hj]
  have e0 : En.wd 0 = 1 := rfl
  have c0 : En.ck (L[j * k]'hj).1 ((Lv.text L k j).length : Int) ((Dr.enc (Lv.chunk L k j)).length : Int) 0 = 0 := by
    unfold En.ck
    rw [if_neg (by omega), e0, if_neg (by omega), if_neg (by omega)]
  have cc : En.c (Lv.ptr L k j) = 0 := by
    unfold En.c
    rw [e1]
    exact c0
  refine ⟨?_, cc, ?_, e1⟩
  · unfold En.good
    rw [e1]
    exact ⟨hg.1, ⟨by unfold Lv.ptr; dsimp only; omega, by unfold Lv.ptr; dsimp only; omega⟩, ⟨by unfold Lv.ptr; dsimp only; omega, by unfold Lv.ptr; dsimp only; omega⟩, by unfold Lv.ptr; dsimp only; omega, by unfold Lv.ptr; dsimp only; omega⟩
  · unfold En.l En.la
    rw [if_pos (by exact cc), e1]
    show _ + En.wd 0 - 1 = _
    rw [e0]
    omega
theorem Lv.root_fits {L : List Ent} (h : En.fine L) (hf : En.fits L) (hl : L.length ≤ 60) {k j : Nat} (hk : 0 < k) (hj : j ≤ Lv.cnt L.length k) : En.fits (Lv.root L k j) := by
  intro e he
  unfold Lv.root at he
  obtain ⟨i, hi, rfl⟩ := List.mem_map.1 he
  rw [List.mem_range] at hi
  exact (Lv.ptr_ok h hf hl hk ((Lv.cnt_iff hk).1 (by omega))).1
theorem Lv.root_fine {L : List Ent} (h : En.fine L) (hf : En.fits L) (hl : L.length ≤ 60) {k j : Nat} (hk : 0 < k) (hj : j ≤ Lv.cnt L.length k) : En.fine (Lv.root L k j) := by
  refine ⟨fun i hi => ?_, fun i hi => ?_⟩
  · rw [Lv.root_at]
    rw [Lv.root_len] at hi
    exact (Lv.ptr_ok h hf hl hk ((Lv.cnt_iff hk).1 (by omega))).2.1
  · rw [Lv.root_at, Lv.root_at]
    rw [Lv.root_len] at hi
    have h1 : (i + 1) * k < L.length := (Lv.cnt_iff hk).1 (by omega)
    have h0 : i * k < L.length := (Lv.cnt_iff hk).1 (by omega)
    rw [(Lv.ptr_ok h hf hl hk h0).2.2.1, (Lv.ptr_ok h hf hl hk h1).2.2.2]
    have e : (i + 1) * k = i * k + 1 + (k - 1) := by rw [Nat.add_mul]; omega
    have := En.fine_lt h hf (k - 1) (i * k) (by omega)
    simp only [e]
    exact this
theorem Lv.root_row {L : List Ent} (h : En.fine L) (hf : En.fits L) (hl : L.length ≤ 60) {k j : Nat} (hk : 0 < k) (hj : j ≤ Lv.cnt L.length k) : En.row (Lv.root L k j) = 0 :=
  En.fine_row (Lv.root_fine h hf hl hk hj) (Lv.root_fits h hf hl hk hj) (by rw [Lv.root_len]; have := Lv.cnt_le (n := L.length) hk; omega)
theorem Lv.chunk_row {L : List Ent} (h : En.fine L) (hf : En.fits L) (hl : L.length ≤ 60) (k j : Nat) : En.row (Lv.chunk L k j) = 0 :=
  En.fine_row (Lv.chunk_fine h k j) (Lv.chunk_fits hf k j) (by have := Lv.chunk_le L k j; omega)
/-- the bytes of a leaf in its place -/
theorem Lv.text_split (L : List Ent) (k : Nat) : ∀ (m j : Nat), j < m → ∃ R, Lv.text L k m = Lv.text L k j ++ (Dr.enc (Lv.chunk L k j) ++ R) := by
  intro m
  induction m with
  | zero => intro j h; omega
  | succ m ih =>
    intro j h
    rw [Lv.text_succ]
    rcases Nat.lt_or_ge j m with h2 | h2
    · obtain ⟨R, hR⟩ := ih j h2
      exact ⟨R ++ Dr.enc (Lv.chunk L k m), by rw [hR]; simp only [List.append_assoc]⟩
    · obtain rfl : j = m := by omega
      exact ⟨[], by simp⟩
theorem Lv.text_at (L : List Ent) (k m j : Nat) (h : j < m) : ((Lv.text L k m).drop (Lv.text L k j).length).take (Dr.enc (Lv.chunk L k j)).length = Dr.enc (Lv.chunk L k j) ∧ (Lv.text L k j).length + (Dr.enc (Lv.chunk L k j)).length ≤ (Lv.text L k m).length := by
  obtain ⟨R, hR⟩ := Lv.text_split L k m j h
  rw [hR, List.drop_left', List.take_left', List.length_append, List.length_append]
  · exact ⟨rfl, by omega⟩
  · rfl
  · rfl
theorem Lv.text_fit {L : List Ent} (h : En.fine L) (hf : En.fits L) (hl : L.length ≤ 60) (k j : Nat) : ∀ b ∈ Lv.text L k j, 0 ≤ b ∧ b < 256 := by
  intro b hb
  unfold Lv.text at hb
  obtain ⟨i, _, hb⟩ := List.mem_flatMap.1 hb
  exact Dr.enc_fit (Lv.chunk_fine h k i) (Lv.chunk_fits hf k i) (by have := Lv.chunk_le L k i; omega) b hb
/-- what a row is cut into, where the root may have so many bytes -/
inductive Lv.Cut (E : List Ent) (b : Nat) : List Ent → List Int → Prop
  | whole : (Dr.enc E).length ≤ b → Lv.Cut E b E []
  | parts (k : Nat) : 0 < k → (Dr.enc (Lv.root E k (Lv.cnt E.length k))).length ≤ b → Lv.Cut E b (Lv.root E k (Lv.cnt E.length k)) (Lv.text E k (Lv.cnt E.length k))
theorem Lv.root_one {L : List Ent} {k : Nat} (hk : 0 < k) (h : L.length ≤ k) : (Dr.enc (Lv.root L k (Lv.cnt L.length k))).length ≤ 50 := by
  have h1 := Dr.enc_len (Lv.root L k (Lv.cnt L.length k))
  rw [Lv.root_len] at h1
  have := Lv.cnt_one hk h
  omega
end Go.Proofs.YtlfahmdndlmhpaaGreatDoor
namespace Go.Proofs.YtlfahmdndlmhpaaGreatDoor
open Go.RowKit

/-- the last of the first k entries that has an identifier -/
def Tm.last (E : List Ent) (id : Int) : Nat → Int
  | 0 => -1
  | k + 1 => if En.hs (E.getD k Dr.z).1 (E.getD k Dr.z).2.1 (E.getD k Dr.z).2.2.1 (E.getD k Dr.z).2.2.2 id = true then (k : Int) else Tm.last E id k
theorem Tm.last_bd (E : List Ent) (id : Int) (k : Nat) : -1 ≤ Tm.last E id k ∧ Tm.last E id k < k := by
  induction k with
  | zero => simp [Tm.last]
  | succ k ih => unfold Tm.last; split <;> omega
theorem Tm.last_hs (E : List Ent) (id : Int) (k : Nat) (h : 0 ≤ Tm.last E id k) : En.hs (E.getD (Tm.last E id k).toNat Dr.z).1 (E.getD (Tm.last E id k).toNat Dr.z).2.1 (E.getD (Tm.last E id k).toNat Dr.z).2.2.1 (E.getD (Tm.last E id k).toNat Dr.z).2.2.2 id = true := by
  induction k with
  | zero => simp [Tm.last] at h
  | succ k ih =>
    unfold Tm.last at h ⊢
    by_cases c : En.hs (E.getD k Dr.z).1 (E.getD k Dr.z).2.1 (E.getD k Dr.z).2.2.1 (E.getD k Dr.z).2.2.2 id = true
    · rw [if_pos c]; exact c
    · rw [if_neg c] at h ⊢; exact ih h
theorem Tm.last_some (E : List Ent) (id : Int) (k j : Nat) (hj : j < k) (h : En.hs (E.getD j Dr.z).1 (E.getD j Dr.z).2.1 (E.getD j Dr.z).2.2.1 (E.getD j Dr.z).2.2.2 id = true) : 0 ≤ Tm.last E id k := by
  induction k with
  | zero => omega
  | succ k ih =>
    unfold Tm.last
    split
    · omega
    · rename_i c
      rcases Nat.lt_succ_iff_lt_or_eq.1 hj with h1 | rfl
      · exact ih h1
      · exact absurd h c
/-- is a text unlike the first k items' texts? -/
def Tm.fst (L : List Itm) (t : ByteArray) : Nat → Bool
  | 0 => true
  | k + 1 => Tm.fst L t k && !(decide ((L.getD k (0, ⟨#[]⟩)).2 = t))
theorem Tm.fst_iff (L : List Itm) (t : ByteArray) (k : Nat) (hk : k ≤ L.length) : Tm.fst L t k = true ↔ ¬ ∃ j, ∃ h : j < k, (L[j]'(by omega)).2 = t := by
  induction k with
  | zero => simp [Tm.fst]
  | succ k ih =>
    unfold Tm.fst
    have hg : L.getD k (0, ⟨#[]⟩) = L[k]'(by omega) := by rw [List.getD_eq_getElem?_getD, List.getElem?_eq_getElem (by omega)]; rfl
    rw [Bool.and_eq_true, ih (by omega), hg, Bool.not_eq_true', decide_eq_false_iff_not]
    constructor
    · rintro ⟨h1, h2⟩ ⟨j, hj, e⟩
      rcases Nat.lt_succ_iff_lt_or_eq.1 hj with h3 | rfl
      · exact h1 ⟨j, h3, e⟩
      · exact h2 e
    · intro h
      exact ⟨fun ⟨j, hj, e⟩ => h ⟨j, by omega, e⟩, fun e => h ⟨k, by omega, e⟩⟩
/-- what the kept entries tell: the items' places -/
structure Tm.At (L : List Itm) (P : List ByteArray) (T : List Ent) (i : Nat) : Prop where
  len : T.length = i
  at_ : ∀ (k : Nat) (h : k < T.length) (hL : k < L.length), (T[k]'h).2.1 = (Pl.pos P (L[k]'hL).2 : Int) ∧ (T[k]'h).2.2.1 = ((L[k]'hL).2.size : Int)
theorem Tm.at_nil (L : List Itm) (P : List ByteArray) : Tm.At L P [] 0 := ⟨rfl, fun k h => by simp at h⟩
theorem Tm.at_snoc {L : List Itm} {P : List ByteArray} {T : List Ent} {i : Nat} (h : Tm.At L P T i) {e : Ent} (hi : i < L.length) (he : e.2.1 = (Pl.pos P (L[i]'hi).2 : Int) ∧ e.2.2.1 = ((L[i]'hi).2.size : Int)) : Tm.At L P (T ++ [e]) (i + 1) := by
  refine ⟨by simp [h.len], fun k hk hk' => ?_⟩
  rw [List.length_append, List.length_singleton, h.len] at hk
  rcases Nat.lt_succ_iff_lt_or_eq.1 hk with h1 | rfl
  · rw [List.getElem_append_left (by rw [h.len]; exact h1)]
    exact h.at_ k (by rw [h.len]; exact h1) hk'
  · have hT : T.length = k := h.len
    rw [List.getElem_append_right (by omega)]
    simp only [hT, Nat.sub_self, List.getElem_cons_zero]
    exact he
theorem Mg.inv_fine {L : List Itm} {P : List ByteArray} {E : List Ent} (h : Mg.Inv L P E) : En.fine E := (En.fine_of E 0 h.row).1
theorem Mg.inv_run {L : List Itm} {P : List ByteArray} {E : List Ent} (h : Mg.Inv L P E) : ∀ e ∈ E, e.2.2.2 ≠ 0 := fun e he => by have := (h.ok e he).2.2.1; omega
end Go.Proofs.YtlfahmdndlmhpaaGreatDoor
namespace Go.Proofs.YtlfahmdndlmhpaaGreatDoor
open Go.RowKit

theorem Lv.text_le (L : List Ent) (k j : Nat) : (Lv.text L k j).length ≤ 10 * j + 40 * min (j * k) L.length := by
  induction j with
  | zero => simp [Lv.text]
  | succ j ih =>
    have h1 := Dr.enc_len (Lv.chunk L k j)
    rw [Lv.chunk_len] at h1
    rw [Lv.text_succ, List.length_append, Nat.add_mul, Nat.one_mul]
    omega
theorem Lv.text_all {L : List Ent} {k : Nat} (hk : 0 < k) (hl : L.length ≤ 60) : (Lv.text L k (Lv.cnt L.length k)).length ≤ 3000 := by
  have h1 := Lv.text_le L k (Lv.cnt L.length k)
  have h2 := Lv.cnt_le (n := L.length) hk
  omega
theorem Lv.cut_text {L R : List Ent} {T : List Int} {b : Nat} (h : Lv.Cut L b R T) (hl : L.length ≤ 60) : T.length ≤ 3000 := by
  cases h with
  | whole _ => simp
  | parts k hk _ => exact Lv.text_all hk hl
theorem Lv.cut_root {L R : List Ent} {T : List Int} {b : Nat} (h : Lv.Cut L b R T) : (Dr.enc R).length ≤ b := by
  cases h with
  | whole h => exact h
  | parts k hk h => exact h
theorem Lv.cut_fine {L R : List Ent} {T : List Int} {b : Nat} (h : Lv.Cut L b R T) (hL : En.fine L) (hf : En.fits L) (hl : L.length ≤ 60) : En.fine R ∧ En.fits R ∧ R.length ≤ 60 := by
  cases h with
  | whole _ => exact ⟨hL, hf, hl⟩
  | parts k hk _ => exact ⟨Lv.root_fine hL hf hl hk (Nat.le_refl _), Lv.root_fits hL hf hl hk (Nat.le_refl _), by rw [Lv.root_len]; have := Lv.cnt_le (n := L.length) hk; omega⟩
theorem Lv.cut_fit {L R : List Ent} {T : List Int} {b : Nat} (h : Lv.Cut L b R T) (hL : En.fine L) (hf : En.fits L) (hl : L.length ≤ 60) : ∀ x ∈ T, 0 ≤ x ∧ x < 256 := by
  cases h with
  | whole _ => intro x hx; cases hx
  | parts k hk _ => exact Lv.text_fit hL hf hl k _
theorem Lv.take_one (L : List Ent) (k j : Nat) : ecells (L.take (j * k)) ++ ecells (Lv.chunk L k j) = ecells (L.take ((j + 1) * k)) := by
  rw [← Lv.take_next]
  unfold ecells
  rw [List.flatMap_append]
theorem Lv.ptr_zero (L : List Ent) (k i : Nat) : (Lv.ptr L k i).2.2.2 = 0 := rfl
theorem Lv.root_get (L : List Ent) (k j i : Nat) (h : i < j) : (Lv.root L k j)[i]? = some (Lv.ptr L k i) := by
  unfold Lv.root
  rw [List.getElem?_map, List.getElem?_range h]
  rfl
end Go.Proofs.YtlfahmdndlmhpaaGreatDoor
