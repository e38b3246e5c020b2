/- The list of entries one behind the other, one tile each. -/
import Derived.Test.YtbojffednfiegaaEntRow
import Derived.Test.YtbojffednfiegaaEntSpec
namespace Go.Proofs.Ytbojffednfiegaa
open Go.RowKit

def En.mk (i : Nat) : Nat → List Ent
  | 0 => []
  | n + 1 => ((i : Int), 0, 1, 1) :: En.mk (i + 1) n
theorem En.mk_len (n : Nat) : ∀ i, (En.mk i n).length = n := by
  induction n with
  | zero => intro i; rfl
  | succ n ih => intro i; simp [En.mk, ih]
theorem En.mk_snoc (n : Nat) : ∀ i, En.mk i (n + 1) = En.mk i n ++ [(((i + n : Nat) : Int), 0, 1, 1)] := by
  induction n with
  | zero => intro i; simp [En.mk]
  | succ n ih =>
    intro i
    rw [En.mk, ih (i + 1)]
    simp only [En.mk, List.cons_append]
    rw [show i + 1 + n = i + (n + 1) by omega]
theorem En.mk_fits (n : Nat) : ∀ i, i + n ≤ 100000 → En.fits (En.mk i n) := by
  induction n with
  | zero => intro i _ e he; simp [En.mk] at he
  | succ n ih =>
    intro i hi e he
    rw [En.mk, List.mem_cons] at he
    rcases he with rfl | he
    · show En.fit (i : Int) 0 1 1
      unfold En.fit
      omega
    · exact ih (i + 1) (by omega) e he
theorem En.mk_ck (i : Nat) (h : i ≤ 100000) : En.ck (i : Int) 0 1 1 = 0 := by
  unfold En.ck En.wd
  rw [if_neg (by omega), if_neg (by rw [if_neg (by omega)]; omega), if_neg (by omega)]
theorem En.mk_la (i : Nat) (h : i ≤ 100000) : En.la (i : Int) 0 1 1 = i := by
  unfold En.la
  rw [if_pos (En.mk_ck i h)]
  unfold En.wd
  rw [if_neg (by omega)]
  omega
theorem En.mk_rowFrom (n : Nat) : ∀ (i : Nat) (f : Int), f ≤ i → i + n ≤ 100000 → En.rowFrom f (En.mk i n) = 0 := by
  induction n with
  | zero => intro i f _ _; rfl
  | succ n ih =>
    intro i f hf hi
    rw [En.mk, En.rowFrom]
    have h1 : En.c ((i : Int), 0, 1, 1) = 0 := En.mk_ck i (by omega)
    have h2 : En.l ((i : Int), 0, 1, 1) = i := En.mk_la i (by omega)
    rw [if_pos h1, if_neg (by show ¬ (i : Int) < f; omega), h2]
    exact ih (i + 1) _ (by omega) (by omega)
theorem En.mk_row (n : Nat) (h : n ≤ 100000) : En.row (En.mk 0 n) = if 4096 < n then 21 else 0 := by
  unfold En.row
  rw [En.mk_len, En.mk_rowFrom n 0 0 (by omega) (by omega)]
theorem En.mk_fold (n : Nat) : ∀ (i : Nat) (s : Int), i + n ≤ 100000 → (En.mk i n).foldl En.addC s = s + n := by
  induction n with
  | zero => intro i s _; simp [En.mk]
  | succ n ih =>
    intro i s hi
    rw [En.mk, List.foldl_cons, ih (i + 1) _ (by omega)]
    unfold En.addC
    have h1 : En.c ((i : Int), 0, 1, 1) = 0 := En.mk_ck i (by omega)
    rw [if_pos h1]
    show s + 1 + (n : Int) = _
    omega
theorem En.mk_cnt (n : Nat) (h : n ≤ 100000) : En.cnt (En.mk 0 n) = n := by
  unfold En.cnt
  rw [En.mk_fold n 0 0 (by omega)]
  omega

end Go.Proofs.Ytbojffednfiegaa
