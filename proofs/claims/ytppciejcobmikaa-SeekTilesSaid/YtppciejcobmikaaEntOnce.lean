/- What a row is: entries that may be, one behind the other: its beginnings, its ends, and who tells of an identifier: plain. -/
import Derived.Test.YtppciejcobmikaaEntRow
import Derived.Test.YtppciejcobmikaaEntSpec
namespace Go.Proofs.Ytppciejcobmikaa
open Go.RowKit

theorem En.rowFrom_cons {f : Int} {e : Ent} {L : List Ent} : En.rowFrom f (e :: L) = if En.c e = 0 then (if e.1 < f then 10 else En.rowFrom (En.l e + 1) L) else En.c e := rfl
theorem En.rowFrom_zero {f : Int} {e : Ent} {L : List Ent} (h : En.rowFrom f (e :: L) = 0) : En.c e = 0 ∧ f ≤ e.1 ∧ En.rowFrom (En.l e + 1) L = 0 := by
  rw [En.rowFrom_cons] at h
  by_cases c : En.c e = 0
  · rw [if_pos c] at h
    by_cases d : e.1 < f
    · rw [if_pos d] at h; omega
    · rw [if_neg d] at h; exact ⟨c, by omega, h⟩
  · rw [if_neg c] at h; exact absurd h c
theorem En.rowFrom_mk {f : Int} {e : Ent} {L : List Ent} (h1 : En.c e = 0) (h2 : f ≤ e.1) (h3 : En.rowFrom (En.l e + 1) L = 0) : En.rowFrom f (e :: L) = 0 := by
  rw [En.rowFrom_cons, if_pos h1, if_neg (by omega)]; exact h3
theorem En.rowFrom_less {f f' : Int} {L : List Ent} (h : En.rowFrom f L = 0) (hf : f' ≤ f) : En.rowFrom f' L = 0 := by
  cases L with
  | nil => rfl
  | cons e L =>
    obtain ⟨h1, h2, h3⟩ := En.rowFrom_zero h
    exact En.rowFrom_mk h1 (by omega) h3
theorem En.rowFrom_take (L : List Ent) : ∀ (f : Int) (k : Nat), En.rowFrom f L = 0 → En.rowFrom f (L.take k) = 0 := by
  induction L with
  | nil => intro f k _; simp [En.rowFrom]
  | cons e L ih =>
    intro f k h
    obtain ⟨h1, h2, h3⟩ := En.rowFrom_zero h
    cases k with
    | zero => simp [En.rowFrom]
    | succ k => rw [List.take_succ_cons]; exact En.rowFrom_mk h1 h2 (ih _ k h3)
/-- the last identifier is not below the first -/
theorem En.l_ge {e : Ent} (hg : En.good e) (c : En.c e = 0) : e.1 ≤ En.l e := by
  obtain ⟨_, _, _, r0, r1⟩ := hg
  have h2 := (En.wd_bd r0).1
  unfold En.l En.la
  unfold En.c at c
  rw [if_pos c]
  omega
theorem En.rowFrom_drop (L : List Ent) : ∀ (f : Int) (k : Nat), En.fits L → 0 ≤ f → En.rowFrom f L = 0 → En.rowFrom 0 (L.drop k) = 0 := by
  induction L with
  | nil => intro f k _ _ _; simp [En.rowFrom]
  | cons e L ih =>
    intro f k hf h0 h
    cases k with
    | zero => exact En.rowFrom_less h h0
    | succ k =>
      obtain ⟨h1, h2, h3⟩ := En.rowFrom_zero h
      have hl := En.l_ge (hf e (by simp)) h1
      obtain ⟨⟨i0, _⟩, _⟩ := hf e (by simp)
      rw [List.drop_succ_cons]
      exact ih _ k (fun x hx => hf x (List.mem_cons_of_mem _ hx)) (by omega) h3
theorem En.row_len {L : List Ent} (h : En.row L = 0) : L.length ≤ 4096 := by
  unfold En.row at h
  by_cases c : 4096 < L.length
  · rw [if_pos c] at h; omega
  · omega
theorem En.row_from {L : List Ent} (h : En.row L = 0) : En.rowFrom 0 L = 0 := by
  have hl := En.row_len h
  unfold En.row at h
  rwa [if_neg (by omega)] at h
theorem En.row_of {L : List Ent} (h : En.rowFrom 0 L = 0) (hl : L.length ≤ 4096) : En.row L = 0 := by
  unfold En.row; rw [if_neg (by omega)]; exact h
theorem En.row_take {L : List Ent} (h : En.row L = 0) (k : Nat) : En.row (L.take k) = 0 :=
  En.row_of (En.rowFrom_take L 0 k (En.row_from h)) (by have := En.row_len h; rw [List.length_take]; omega)
theorem En.row_drop {L : List Ent} (hf : En.fits L) (h : En.row L = 0) (k : Nat) : En.row (L.drop k) = 0 :=
  En.row_of (En.rowFrom_drop L 0 k hf (by omega) (En.row_from h)) (by have := En.row_len h; rw [List.length_drop]; omega)
theorem En.rowFrom_at (L : List Ent) : ∀ (f : Int) (k : Nat) (hk : k < L.length), En.rowFrom f L = 0 → En.c (L[k]'hk) = 0 := by
  induction L with
  | nil => intro f k hk; simp at hk
  | cons e L ih =>
    intro f k hk h
    obtain ⟨h1, h2, h3⟩ := En.rowFrom_zero h
    cases k with
    | zero => exact h1
    | succ k => exact ih _ k (by simpa using hk) h3
theorem En.rowFrom_next (L : List Ent) : ∀ (f : Int) (k : Nat) (hk : k + 1 < L.length), En.rowFrom f L = 0 → En.l (L[k]'(by omega)) < (L[k + 1]'hk).1 := by
  induction L with
  | nil => intro f k hk; simp at hk
  | cons e L ih =>
    intro f k hk h
    obtain ⟨h1, h2, h3⟩ := En.rowFrom_zero h
    cases k with
    | zero =>
      cases L with
      | nil => simp at hk
      | cons e' L =>
        have := (En.rowFrom_zero h3).2.1
        show En.l e < e'.1
        omega
    | succ k => exact ih _ k (by simpa using hk) h3

/-- how many entries tell of an identifier -/
def En.h (id : Int) (e : Ent) : Bool := En.hs e.1 e.2.1 e.2.2.1 e.2.2.2 id
def En.hits (id : Int) (L : List Ent) : Nat := (L.filter (En.h id)).length
theorem En.h_in {id : Int} {e : Ent} (h : En.h id e = true) : e.1 ≤ id ∧ id ≤ En.l e := by
  unfold En.h En.hs at h
  rw [decide_eq_true_eq] at h
  exact ⟨h.2.2.1, h.2.2.2⟩
theorem En.hits_from (id : Int) (L : List Ent) : ∀ (f : Int), En.fits L → En.rowFrom f L = 0 → En.hits id L ≤ (if id < f then 0 else 1) := by
  induction L with
  | nil => intro f _ _; simp [En.hits]
  | cons e L ih =>
    intro f hf h
    obtain ⟨h1, h2, h3⟩ := En.rowFrom_zero h
    have h4 := ih _ (fun x hx => hf x (List.mem_cons_of_mem _ hx)) h3
    have hl := En.l_ge (hf e (by simp)) h1
    unfold En.hits at *
    rw [List.filter_cons]
    by_cases c : En.h id e = true
    · obtain ⟨h5, h6⟩ := En.h_in c
      rw [if_pos c, List.length_cons]
      rw [if_pos (by omega)] at h4
      rw [if_neg (by omega)]
      omega
    · rw [if_neg c]
      by_cases d : id < f
      · rw [if_pos (by omega)] at h4
        rw [if_pos d]
        exact h4
      · rw [if_neg d]
        split at h4 <;> omega
theorem En.hits_one {L : List Ent} (id : Int) (hf : En.fits L) (h : En.row L = 0) : En.hits id L ≤ 1 := by
  have := En.hits_from id L 0 hf (En.row_from h)
  split at this <;> omega
theorem En.hits_step (id : Int) (L : List Ent) (k : Nat) (h : k < L.length) : En.hits id (L.take (k + 1)) = if En.h id (L[k]'h) = true then En.hits id (L.take k) + 1 else En.hits id (L.take k) := by
  unfold En.hits
  rw [take_snoc L k h, List.filter_append, List.length_append, List.filter_cons]
  split <;> simp

end Go.Proofs.Ytppciejcobmikaa
