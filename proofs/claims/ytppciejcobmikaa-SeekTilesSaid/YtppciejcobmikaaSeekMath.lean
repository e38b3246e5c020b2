/- Where an identifier stands in a row, and what is found there: plain. -/
import Derived.Test.YtppciejcobmikaaEntOnce
namespace Go.Proofs.Ytppciejcobmikaa
open Go.RowKit

def Sk.z : Ent := (0, 0, 0, 0)
def Sk.g (L : List Ent) (i : Nat) : Ent := L.getD i Sk.z
def Sk.p (id : Int) (L : List Ent) : Nat → Nat
  | 0 => 0
  | k + 1 => if (Sk.g L k).1 ≤ id then k + 1 else Sk.p id L k
def Sk.m (L : List Ent) (id : Int) : Nat := if En.row L = 0 then Sk.p id L L.length else 0
def Sk.at (L : List Ent) (id : Int) : Int := (Sk.m L id : Int) - 1
def Sk.is (L : List Ent) (id : Int) : Bool := decide (0 < Sk.m L id ∧ ¬ (0 < (Sk.g L (Sk.m L id - 1)).2.2.2 ∧ En.h id (Sk.g L (Sk.m L id - 1)) = false))
def Sk.f (L : List Ent) (id : Int) : Ent := if Sk.is L id = true then Sk.g L (Sk.m L id - 1) else Sk.z
def Sk.lv (L : List Ent) : List Ent := L.filter (fun e => decide (e.2.2.2 = 0))

theorem Sk.g_eq {L : List Ent} {k : Nat} (hk : k < L.length) : Sk.g L k = L[k]'hk := by
  unfold Sk.g; rw [List.getD_eq_getElem?_getD, List.getElem?_eq_getElem hk]; rfl
theorem Sk.p_le (id : Int) (L : List Ent) : ∀ k, Sk.p id L k ≤ k := by
  intro k
  induction k with
  | zero => exact Nat.le_refl _
  | succ k ih => unfold Sk.p; split <;> omega
theorem Sk.p_step {id : Int} {L : List Ent} {k : Nat} (hk : k < L.length) : Sk.p id L (k + 1) = if (L[k]'hk).1 ≤ id then k + 1 else Sk.p id L k := by
  rw [← Sk.g_eq hk]; rfl
theorem Sk.p_pos (id : Int) (L : List Ent) : ∀ k m, Sk.p id L k = m + 1 → m < k ∧ (Sk.g L m).1 ≤ id := by
  intro k
  induction k with
  | zero => intro m h; simp [Sk.p] at h
  | succ k ih =>
    intro m h
    unfold Sk.p at h
    split at h
    · have : k = m := by omega
      subst this
      exact ⟨by omega, by assumption⟩
    · have := ih m h
      exact ⟨by omega, this.2⟩
theorem Sk.p_of {id : Int} {L : List Ent} {m : Nat} : ∀ n, m ≤ n → (∀ i, i < m → (Sk.g L i).1 ≤ id) → (∀ i, m ≤ i → i < n → id < (Sk.g L i).1) → Sk.p id L n = m := by
  intro n
  induction n with
  | zero => intro h _ _; have : m = 0 := by omega
            subst this; rfl
  | succ n ih =>
    intro h h1 h2
    unfold Sk.p
    by_cases e : m = n + 1
    · subst e
      rw [if_pos (h1 n (by omega))]
    · have := h2 n (by omega) (by omega)
      rw [if_neg (by omega)]
      exact ih (by omega) h1 (fun i a b => h2 i a (by omega))
theorem Sk.p_above (id : Int) (L : List Ent) : ∀ n i, Sk.p id L n ≤ i → i < n → id < (Sk.g L i).1 := by
  intro n
  induction n with
  | zero => intro i _ h; omega
  | succ n ih =>
    intro i h1 h2
    unfold Sk.p at h1
    split at h1
    · omega
    · by_cases e : i = n
      · subst e; omega
      · exact ih i h1 (by omega)

/-- a row rises -/
theorem Sk.next {L : List Ent} (h : En.row L = 0) (k : Nat) (hk : k + 1 < L.length) : En.l (Sk.g L k) < (Sk.g L (k + 1)).1 := by
  rw [Sk.g_eq hk, Sk.g_eq (by omega : k < L.length)]
  exact En.rowFrom_next L 0 k hk (En.row_from h)
theorem Sk.lge {L : List Ent} (hf : En.fits L) (h : En.row L = 0) (k : Nat) (hk : k < L.length) : (Sk.g L k).1 ≤ En.l (Sk.g L k) := by
  rw [Sk.g_eq hk]
  exact En.l_ge (hf _ (List.getElem_mem hk)) (En.rowFrom_at L 0 k hk (En.row_from h))
theorem Sk.strict {L : List Ent} (hf : En.fits L) (h : En.row L = 0) : ∀ j i, i < j → j < L.length → En.l (Sk.g L i) < (Sk.g L j).1 := by
  intro j
  induction j with
  | zero => intro i h1; omega
  | succ j ih =>
    intro i h1 h2
    have hn := Sk.next h j h2
    by_cases e : i = j
    · subst e; exact hn
    · have := ih i (by omega) (by omega)
      have := Sk.lge hf h j (by omega)
      omega
theorem Sk.mono {L : List Ent} (hf : En.fits L) (h : En.row L = 0) (i j : Nat) (hij : i ≤ j) (hj : j < L.length) : (Sk.g L i).1 ≤ (Sk.g L j).1 := by
  by_cases e : i = j
  · subst e; exact Int.le_refl _
  · have := Sk.strict hf h j i (by omega) hj
    have := Sk.lge hf h i (by omega)
    omega

theorem Sk.m_le (L : List Ent) (id : Int) : Sk.m L id ≤ L.length := by
  unfold Sk.m; split
  · exact Sk.p_le id L _
  · omega
theorem Sk.m_row {L : List Ent} {id : Int} (h : 0 < Sk.m L id) : En.row L = 0 := by
  unfold Sk.m at h; split at h
  · assumption
  · omega
theorem Sk.m_of {L : List Ent} {id : Int} (h : En.row L = 0) (m : Nat) (hm : m ≤ L.length) (h1 : ∀ i, i < m → (Sk.g L i).1 ≤ id) (h2 : ∀ i, m ≤ i → i < L.length → id < (Sk.g L i).1) : Sk.m L id = m := by
  unfold Sk.m; rw [if_pos h]; exact Sk.p_of _ hm h1 h2
theorem Sk.m_in {L : List Ent} {id : Int} (hf : En.fits L) (i : Nat) (hi : i < Sk.m L id) : (Sk.g L i).1 ≤ id := by
  have h := Sk.m_row (by omega : 0 < Sk.m L id)
  have hl := Sk.m_le L id
  obtain ⟨m, hm⟩ : ∃ m, Sk.m L id = m + 1 := ⟨Sk.m L id - 1, by omega⟩
  rw [hm] at hi hl
  unfold Sk.m at hm
  rw [if_pos h] at hm
  have := (Sk.p_pos id L _ m hm).2
  have := Sk.mono hf h i m (by omega) (by omega)
  omega
theorem Sk.m_out {L : List Ent} {id : Int} (h : En.row L = 0) (i : Nat) (h1 : Sk.m L id ≤ i) (h2 : i < L.length) : id < (Sk.g L i).1 := by
  unfold Sk.m at h1; rw [if_pos h] at h1; exact Sk.p_above id L _ i h1 h2

/-- what has an identifier is found -/
theorem Sk.has_m {L : List Ent} {id : Int} (hf : En.fits L) (h : En.row L = 0) (k : Nat) (hk : k < L.length) (hh : En.h id (Sk.g L k) = true) : Sk.m L id = k + 1 := by
  obtain ⟨a, b⟩ := En.h_in hh
  refine Sk.m_of h (k + 1) hk (fun i hi => ?_) (fun i h1 h2 => ?_)
  · have := Sk.mono hf h i k (by omega) hk; omega
  · have := Sk.strict hf h i k (by omega) h2; omega
theorem Sk.has_found {L : List Ent} {id : Int} (hf : En.fits L) (h : En.row L = 0) (k : Nat) (hk : k < L.length) (hh : En.h id (Sk.g L k) = true) : Sk.is L id = true ∧ Sk.f L id = Sk.g L k := by
  have hm := Sk.has_m hf h k hk hh
  have hi : Sk.is L id = true := by
    unfold Sk.is
    rw [hm]
    simp [hh]
  refine ⟨hi, ?_⟩
  unfold Sk.f
  rw [if_pos hi, hm]
  rfl
theorem Sk.is_pos {L : List Ent} {id : Int} (h : Sk.is L id = true) : 0 < Sk.m L id ∧ Sk.f L id = Sk.g L (Sk.m L id - 1) ∧ ((Sk.f L id).2.2.2 ≤ 0 ∨ En.h id (Sk.f L id) = true) := by
  have hf : Sk.f L id = Sk.g L (Sk.m L id - 1) := by unfold Sk.f; rw [if_pos h]
  rw [hf]
  unfold Sk.is at h
  have h := of_decide_eq_true h
  refine ⟨h.1, rfl, ?_⟩
  rcases Bool.eq_false_or_eq_true (En.h id (Sk.g L (Sk.m L id - 1))) with e | e
  · exact Or.inr e
  · exact Or.inl (by have := h.2; rw [e] at this; simp at this; omega)
theorem Sk.f_not {L : List Ent} {id : Int} (h : Sk.is L id = false) : Sk.f L id = Sk.z := by unfold Sk.f; rw [h]; rfl
theorem Sk.f_mem {L : List Ent} {id : Int} (h : Sk.is L id = true) : Sk.f L id ∈ L := by
  obtain ⟨a, b, _⟩ := Sk.is_pos h
  have := Sk.m_le L id
  rw [b, Sk.g_eq (by omega)]
  exact List.getElem_mem _
theorem Sk.f_good {L : List Ent} (hf : En.fits L) (id : Int) : En.good (Sk.f L id) := by
  rcases Bool.eq_false_or_eq_true (Sk.is L id) with e | e
  · exact hf _ (Sk.f_mem e)
  · rw [Sk.f_not e]; simp [Sk.z, En.good, En.fit]
/-- nothing lies between what is found and the identifier -/
theorem Sk.between {L : List Ent} {id : Int} (hf : En.fits L) (h : Sk.is L id = true) (k : Nat) (hk : k < L.length) : ¬ ((Sk.f L id).1 < (Sk.g L k).1 ∧ (Sk.g L k).1 ≤ id) := by
  obtain ⟨a, b, _⟩ := Sk.is_pos h
  have hl := Sk.m_le L id
  have hr := Sk.m_row a
  rw [b]
  rintro ⟨h1, h2⟩
  by_cases e : k < Sk.m L id
  · have := Sk.mono hf hr k (Sk.m L id - 1) (by omega) (by omega); omega
  · have := Sk.m_out (id := id) hr k (by omega) hk; omega
theorem Sk.pointer {L : List Ent} {id : Int} (hf : En.fits L) (h : Sk.is L id = true) : En.h id (Sk.f L id) = true ∨ ((Sk.f L id).2.2.2 = 0 ∧ (Sk.f L id).1 ≤ id) := by
  obtain ⟨a, b, c⟩ := Sk.is_pos h
  rcases c with c | c
  · refine Or.inr ⟨?_, ?_⟩
    · have := Sk.f_good hf id
      obtain ⟨_, _, _, r0, _⟩ := this
      omega
    · rw [b]; exact Sk.m_in hf _ (by omega)
  · exact Or.inl c

theorem Sk.g_take {L : List Ent} {m i : Nat} (h : i < m) : Sk.g (L.take m) i = Sk.g L i := by
  unfold Sk.g; rw [List.getD_eq_getElem?_getD, List.getD_eq_getElem?_getD, List.getElem?_take]; rw [if_pos h]
theorem Sk.g_drop {L : List Ent} {m i : Nat} : Sk.g (L.drop m) i = Sk.g L (m + i) := by
  unfold Sk.g; rw [List.getD_eq_getElem?_getD, List.getD_eq_getElem?_getD, List.getElem?_drop]
theorem Sk.m_take {L : List Ent} {id : Int} (hf : En.fits L) (h : En.row L = 0) : Sk.m (L.take (Sk.m L id)) id = Sk.m L id := by
  have hl := Sk.m_le L id
  refine Sk.m_of (En.row_take h _) _ (by rw [List.length_take]; omega) (fun i hi => ?_) (fun i h1 h2 => ?_)
  · rw [Sk.g_take hi]; exact Sk.m_in hf i hi
  · rw [List.length_take] at h2; omega
theorem Sk.m_drop {L : List Ent} {id : Int} (hf : En.fits L) (h : En.row L = 0) (hp : 0 < Sk.m L id) : Sk.m (L.drop (Sk.m L id - 1)) id = 1 := by
  have hl := Sk.m_le L id
  refine Sk.m_of (En.row_drop hf h _) _ (by rw [List.length_drop]; omega) (fun i hi => ?_) (fun i h1 h2 => ?_)
  · rw [Sk.g_drop]; exact Sk.m_in hf _ (by omega)
  · rw [Sk.g_drop]; rw [List.length_drop] at h2; exact Sk.m_out h _ (by omega) (by omega)
theorem Sk.is_take {L : List Ent} {id : Int} (hf : En.fits L) (h : En.row L = 0) : Sk.is (L.take (Sk.m L id)) id = Sk.is L id := by
  unfold Sk.is
  rw [Sk.m_take hf h]
  by_cases e : 0 < Sk.m L id
  · rw [Sk.g_take (by omega)]
  · simp [e]
theorem Sk.f_take {L : List Ent} {id : Int} (hf : En.fits L) (h : En.row L = 0) : Sk.f (L.take (Sk.m L id)) id = Sk.f L id := by
  unfold Sk.f
  rw [Sk.is_take hf h]
  rcases Bool.eq_false_or_eq_true (Sk.is L id) with e | e
  · rw [if_pos e, if_pos e, Sk.m_take hf h, Sk.g_take (by have := (Sk.is_pos e).1; omega)]
  · rw [e]; rfl
theorem Sk.at_one (L : List Ent) (id : Int) (h : L.length ≤ 1) : Sk.at L id ≤ 0 := by
  have := Sk.m_le L id
  unfold Sk.at; omega
theorem Sk.lv_step (L : List Ent) (k : Nat) (h : k < L.length) : Sk.lv (L.take (k + 1)) = if (L[k]'h).2.2.2 = 0 then Sk.lv (L.take k) ++ [L[k]'h] else Sk.lv (L.take k) := by
  rw [take_snoc L k h, Sk.lv, List.filter_append]
  by_cases e : (L[k]'h).2.2.2 = 0
  · rw [if_pos e]; simp [e, Sk.lv]
  · rw [if_neg e]; simp [e, Sk.lv]
theorem Sk.lv_len (L : List Ent) : (Sk.lv L).length ≤ L.length := List.length_filter_le _ _
theorem Sk.lv_fits {L : List Ent} (h : En.fits L) : En.fits (Sk.lv L) := fun e he => h e (List.mem_filter.1 he).1

end Go.Proofs.Ytppciejcobmikaa
