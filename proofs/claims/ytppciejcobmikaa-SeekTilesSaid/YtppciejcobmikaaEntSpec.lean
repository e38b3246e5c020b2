/- What lists of entries are told of: how many tiles, where they end, how many contents, sameness: plain. -/
import Derived.Test.YtppciejcobmikaaEntRows
namespace Go.Proofs.Ytppciejcobmikaa
open Go.RowKit

def En.addC (n : Int) (e : Ent) : Int := if En.c e = 0 then n + e.2.2.2 else n
def En.cnt (L : List Ent) : Int := L.foldl En.addC 0
def En.maxE (n : Int) (e : Ent) : Int := if En.c e = 0 then (if n < e.2.1 + e.2.2.1 then e.2.1 + e.2.2.1 else n) else n
def En.fin (L : List Ent) : Int := L.foldl En.maxE 0
def En.p (e : Ent) : Bool := decide (En.c e = 0 ∧ 0 < e.2.2.2)
def En.key (e : Ent) : Int × Int := (e.2.1, e.2.2.1)
def En.addK (ks : List (Int × Int)) (e : Ent) : List (Int × Int) := if En.p e = true ∧ En.key e ∉ ks then ks ++ [En.key e] else ks
def En.keys (L : List Ent) : List (Int × Int) := L.foldl En.addK []
def En.con (L : List Ent) : Int := (En.keys L).length

theorem take_snoc {α : Type} (L : List α) (k : Nat) (h : k < L.length) : L.take (k + 1) = L.take k ++ [L[k]'h] := by
  rw [List.take_succ_eq_append_getElem h]
theorem En.cnt_step (L : List Ent) (k : Nat) (h : k < L.length) : En.cnt (L.take (k + 1)) = En.addC (En.cnt (L.take k)) (L[k]'h) := by
  rw [take_snoc L k h, En.cnt, List.foldl_append]; rfl
theorem En.fin_step (L : List Ent) (k : Nat) (h : k < L.length) : En.fin (L.take (k + 1)) = En.maxE (En.fin (L.take k)) (L[k]'h) := by
  rw [take_snoc L k h, En.fin, List.foldl_append]; rfl
theorem En.keys_step (L : List Ent) (k : Nat) (h : k < L.length) : En.keys (L.take (k + 1)) = En.addK (En.keys (L.take k)) (L[k]'h) := by
  rw [take_snoc L k h, En.keys, List.foldl_append]; rfl

theorem En.addK_mem (ks : List (Int × Int)) (e : Ent) (q : Int × Int) : q ∈ En.addK ks e ↔ q ∈ ks ∨ (En.p e = true ∧ En.key e = q) := by
  unfold En.addK
  by_cases h : En.p e = true ∧ En.key e ∉ ks
  · rw [if_pos h, List.mem_append, List.mem_singleton]
    constructor
    · rintro (h1 | h1)
      · exact Or.inl h1
      · exact Or.inr ⟨h.1, h1.symm⟩
    · rintro (h1 | ⟨_, h1⟩)
      · exact Or.inl h1
      · exact Or.inr h1.symm
  · rw [if_neg h]
    constructor
    · exact Or.inl
    · rintro (h1 | ⟨h1, h2⟩)
      · exact h1
      · rcases Decidable.em (En.key e ∈ ks) with h3 | h3
        · rw [← h2]; exact h3
        · exact absurd ⟨h1, h3⟩ h
theorem En.addK_nodup (ks : List (Int × Int)) (e : Ent) (h : ks.Nodup) : (En.addK ks e).Nodup := by
  unfold En.addK
  by_cases c : En.p e = true ∧ En.key e ∉ ks
  · rw [if_pos c]
    refine List.nodup_append.2 ⟨h, by simp, fun a ha b hb e1 => ?_⟩
    rw [List.mem_singleton] at hb
    subst hb
    subst e1
    exact c.2 ha
  · rw [if_neg c]; exact h
theorem En.fold_mem (L : List Ent) : ∀ (ks : List (Int × Int)) (q : Int × Int), q ∈ L.foldl En.addK ks ↔ q ∈ ks ∨ ∃ e ∈ L, En.p e = true ∧ En.key e = q := by
  induction L with
  | nil => intro ks q; simp
  | cons e L ih =>
    intro ks q
    rw [List.foldl_cons, ih, En.addK_mem]
    simp only [List.mem_cons]
    constructor
    · rintro ((h | h) | ⟨e', h, h'⟩)
      · exact Or.inl h
      · exact Or.inr ⟨e, Or.inl rfl, h⟩
      · exact Or.inr ⟨e', Or.inr h, h'⟩
    · rintro (h | ⟨e', (rfl | h), h'⟩)
      · exact Or.inl (Or.inl h)
      · exact Or.inl (Or.inr h')
      · exact Or.inr ⟨e', h, h'⟩
theorem En.fold_nodup (L : List Ent) : ∀ (ks : List (Int × Int)), ks.Nodup → (L.foldl En.addK ks).Nodup := by
  induction L with
  | nil => intro ks h; exact h
  | cons e L ih => intro ks h; exact ih _ (En.addK_nodup ks e h)
theorem En.keys_mem (L : List Ent) (q : Int × Int) : q ∈ En.keys L ↔ ∃ e ∈ L, En.p e = true ∧ En.key e = q := by
  unfold En.keys; rw [En.fold_mem]; simp
theorem En.keys_nodup (L : List Ent) : (En.keys L).Nodup := En.fold_nodup L [] (by simp)
theorem En.addK_len (ks : List (Int × Int)) (e : Ent) : (En.addK ks e).length ≤ ks.length + 1 := by
  unfold En.addK
  split
  · simp
  · omega
theorem En.keys_len (L : List Ent) (k : Nat) (hk : k ≤ L.length) : (En.keys (L.take k)).length ≤ k := by
  induction k with
  | zero => simp [En.keys]
  | succ k ih =>
    rw [En.keys_step L k (by omega)]
    have := En.addK_len (En.keys (L.take k)) (L[k]'(by omega))
    have := ih (by omega)
    omega

theorem nodup_le {α : Type} [DecidableEq α] (xs : List α) : ∀ (ys : List α), xs.Nodup → (∀ x ∈ xs, x ∈ ys) → xs.length ≤ ys.length := by
  induction xs with
  | nil => intro ys _ _; simp
  | cons x xs ih =>
    intro ys hn hs
    obtain ⟨h1, h2⟩ := List.nodup_cons.1 hn
    have hx : x ∈ ys := hs x (by simp)
    have := ih (ys.erase x) h2 (fun z hz => by
      have hzy := hs z (List.mem_cons_of_mem _ hz)
      refine (List.mem_erase_of_ne ?_).2 hzy
      rintro rfl
      exact h1 hz)
    have hl := List.length_erase_of_mem hx
    have h0 : 0 < ys.length := List.length_pos_of_mem hx
    simp only [List.length_cons]
    omega
theorem En.con_le {L M : List Ent} (h : ∀ q, q ∈ En.keys L → q ∈ En.keys M) : En.con L ≤ En.con M := by
  have := nodup_le _ _ (En.keys_nodup L) h
  unfold En.con
  omega
theorem En.keys_app (L M : List Ent) (q : Int × Int) : q ∈ En.keys (L ++ M) ↔ q ∈ En.keys L ∨ q ∈ En.keys M := by
  simp only [En.keys_mem, List.mem_append]
  constructor
  · rintro ⟨e, (h | h), h'⟩
    · exact Or.inl ⟨e, h, h'⟩
    · exact Or.inr ⟨e, h, h'⟩
  · rintro (⟨e, h, h'⟩ | ⟨e, h, h'⟩)
    · exact ⟨e, Or.inl h, h'⟩
    · exact ⟨e, Or.inr h, h'⟩
theorem En.con_left (L M : List Ent) : En.con L ≤ En.con (L ++ M) := En.con_le fun q hq => (En.keys_app L M q).2 (Or.inl hq)
theorem En.con_right (L M : List Ent) : En.con M ≤ En.con (L ++ M) := En.con_le fun q hq => (En.keys_app L M q).2 (Or.inr hq)
theorem En.con_sum (L M : List Ent) : En.con (L ++ M) ≤ En.con L + En.con M := by
  have := nodup_le (En.keys (L ++ M)) (En.keys L ++ En.keys M) (En.keys_nodup _) (fun q hq => List.mem_append.2 ((En.keys_app L M q).1 hq))
  unfold En.con
  rw [List.length_append] at this
  omega
theorem En.con_again (L M : List Ent) : En.con ((L ++ M) ++ L) = En.con (L ++ M) := by
  have h1 := En.con_left (L ++ M) L
  have h2 : En.con ((L ++ M) ++ L) ≤ En.con (L ++ M) := En.con_le fun q hq => by
    rcases (En.keys_app _ _ q).1 hq with h | h
    · exact h
    · exact (En.keys_app _ _ q).2 (Or.inl h)
  omega
theorem En.cnt_fold (L : List Ent) : ∀ n, L.foldl En.addC n = n + En.cnt L := by
  induction L with
  | nil => intro n; simp [En.cnt]
  | cons e L ih =>
    intro n
    unfold En.cnt
    rw [List.foldl_cons, List.foldl_cons, ih, ih (En.addC 0 e)]
    unfold En.addC
    split <;> omega
theorem En.cnt_app (L M : List Ent) : En.cnt (L ++ M) = En.cnt L + En.cnt M := by
  unfold En.cnt
  rw [List.foldl_append, En.cnt_fold M]
  rfl
theorem En.fin_fold (L : List Ent) : ∀ n, 0 ≤ n → L.foldl En.maxE n = max n (En.fin L) := by
  induction L with
  | nil => intro n h; simp [En.fin]; omega
  | cons e L ih =>
    intro n h
    have h0 : 0 ≤ En.maxE 0 e := by unfold En.maxE; split <;> (try split) <;> omega
    have h1 : 0 ≤ En.maxE n e := by unfold En.maxE; split <;> (try split) <;> omega
    unfold En.fin
    rw [List.foldl_cons, List.foldl_cons, ih _ h1, ih _ h0]
    unfold En.maxE
    by_cases c : En.c e = 0
    · simp only [if_pos c]
      by_cases c1 : n < e.2.1 + e.2.2.1 <;> by_cases c2 : 0 < e.2.1 + e.2.2.1 <;> simp only [c1, c2, if_true, if_false] <;> omega
    · simp only [if_neg c]; omega
theorem En.fin_ge (L : List Ent) : 0 ≤ En.fin L := by
  have := En.fin_fold L 0 (by omega)
  unfold En.fin at *
  omega
theorem En.fin_app (L M : List Ent) : En.fin (L ++ M) = max (En.fin L) (En.fin M) := by
  unfold En.fin
  rw [List.foldl_append]
  exact En.fin_fold M _ (En.fin_ge L)
theorem En.ck_end {i o l r : Int} (h : En.ck i o l r = 0) : o + l ≤ 1099511627776 := by
  unfold En.ck at h
  split at h
  · omega
  · split at h
    · omega
    · split at h <;> omega

end Go.Proofs.Ytppciejcobmikaa
