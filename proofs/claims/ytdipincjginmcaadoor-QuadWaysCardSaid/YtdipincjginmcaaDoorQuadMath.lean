/- Keys of tiles as lists of digits, with no program in sight. -/
namespace Go.Proofs.YtdipincjginmcaaDoor

theorem List.reverseRecOn' {α : Type} {motive : List α → Prop} (l : List α) (nil : motive []) (snoc : ∀ l d, motive l → motive (l ++ [d])) : motive l := by
  have h : ∀ m : List α, motive m.reverse := fun m => by
    induction m with
    | nil => exact nil
    | cons a m ih => rw [List.reverse_cons]; exact snoc _ _ ih
  have := h l.reverse
  rwa [List.reverse_reverse] at this

/-- the digits of a tile's key -/
def Qk.kd : Nat → Nat → Nat → List Nat
  | 0, _, _ => []
  | n + 1, x, y => Qk.kd n (x / 2) (y / 2) ++ [x % 2 + 2 * (y % 2)]
/-- the tile of digits -/
def Qk.pt (l : List Nat) : Nat × Nat := l.foldl (fun t d => (2 * t.1 + d % 2, 2 * t.2 + d / 2)) (0, 0)
/-- how many digits two keys begin with together -/
def Qk.sh : List Nat → List Nat → Nat
  | a :: l, b :: m => if a = b then Qk.sh l m + 1 else 0
  | _, _ => 0

theorem Qk.kd_len (n : Nat) : ∀ x y, (Qk.kd n x y).length = n := by
  induction n with
  | zero => intro x y; rfl
  | succ n ih => intro x y; unfold Qk.kd; rw [List.length_append, ih]; rfl
theorem Qk.kd_lt (n : Nat) : ∀ x y, ∀ d ∈ Qk.kd n x y, d < 4 := by
  induction n with
  | zero => intro x y d hd; simp [Qk.kd] at hd
  | succ n ih =>
    intro x y d hd
    unfold Qk.kd at hd
    rcases List.mem_append.1 hd with h | h
    · exact ih _ _ d h
    · simp at h; omega
/-- the digit at a place -/
theorem Qk.kd_get (n : Nat) : ∀ x y i, i < n → (Qk.kd n x y)[i]? = some (x / 2 ^ (n - 1 - i) % 2 + 2 * (y / 2 ^ (n - 1 - i) % 2)) := by
  induction n with
  | zero => intro x y i h; omega
  | succ n ih =>
    intro x y i h
    unfold Qk.kd
    by_cases e : i = n
    · subst e
      rw [List.getElem?_append_right (by rw [Qk.kd_len]; exact Nat.le_refl _), Qk.kd_len, Nat.sub_self]
      simp
    · rw [List.getElem?_append_left (by rw [Qk.kd_len]; omega), ih _ _ _ (by omega)]
      have e1 : n + 1 - 1 - i = (n - 1 - i) + 1 := by omega
      rw [e1, Nat.div_div_eq_div_mul, Nat.div_div_eq_div_mul, Nat.pow_succ, Nat.mul_comm 2]
theorem Qk.pt_snoc (l : List Nat) (d : Nat) : Qk.pt (l ++ [d]) = (2 * (Qk.pt l).1 + d % 2, 2 * (Qk.pt l).2 + d / 2) := by
  unfold Qk.pt; rw [List.foldl_append]; rfl
theorem Qk.pt_lt (l : List Nat) (h : ∀ d ∈ l, d < 4) : (Qk.pt l).1 < 2 ^ l.length ∧ (Qk.pt l).2 < 2 ^ l.length := by
  induction l using List.reverseRecOn' with
  | nil => simp [Qk.pt]
  | snoc l d ih =>
    obtain ⟨h1, h2⟩ := ih (fun x hx => h x (List.mem_append_left _ hx))
    have h3 := h d (by simp)
    rw [Qk.pt_snoc, List.length_append, List.length_singleton, Nat.pow_succ]
    dsimp only
    omega
theorem Qk.pt_kd (n : Nat) : ∀ x y, x < 2 ^ n → y < 2 ^ n → Qk.pt (Qk.kd n x y) = (x, y) := by
  induction n with
  | zero => intro x y hx hy; simp at hx hy; subst hx hy; rfl
  | succ n ih =>
    intro x y hx hy
    rw [Nat.pow_succ] at hx hy
    unfold Qk.kd
    rw [Qk.pt_snoc, ih _ _ (by omega) (by omega)]
    dsimp only
    congr 1 <;> omega
theorem Qk.kd_pt (l : List Nat) (h : ∀ d ∈ l, d < 4) : Qk.kd l.length (Qk.pt l).1 (Qk.pt l).2 = l := by
  induction l using List.reverseRecOn' with
  | nil => rfl
  | snoc l d ih =>
    have h3 := h d (by simp)
    have h4 := ih (fun x hx => h x (List.mem_append_left _ hx))
    rw [Qk.pt_snoc, List.length_append, List.length_singleton]
    unfold Qk.kd
    dsimp only
    rw [show (2 * (Qk.pt l).1 + d % 2) / 2 = (Qk.pt l).1 by omega, show (2 * (Qk.pt l).2 + d / 2) / 2 = (Qk.pt l).2 by omega, h4]
    congr 2
    omega
/-- the beginning of a key is the key of the tile over it -/
theorem Qk.kd_take (n : Nat) : ∀ x y k, k ≤ n → (Qk.kd n x y).take k = Qk.kd k (x / 2 ^ (n - k)) (y / 2 ^ (n - k)) := by
  induction n with
  | zero => intro x y k h; have : k = 0 := by omega
            subst this; simp [Qk.kd]
  | succ n ih =>
    intro x y k h
    by_cases e : k = n + 1
    · subst e
      rw [List.take_of_length_le (by rw [Qk.kd_len]; exact Nat.le_refl _)]
      simp
    · rw [show Qk.kd (n + 1) x y = Qk.kd n (x / 2) (y / 2) ++ [x % 2 + 2 * (y % 2)] from rfl]
      rw [List.take_append_of_le_length (by rw [Qk.kd_len]; omega), ih _ _ _ (by omega)]
      rw [show n + 1 - k = (n - k) + 1 by omega, Nat.div_div_eq_div_mul, Nat.div_div_eq_div_mul, Nat.pow_succ, Nat.mul_comm 2]
theorem Qk.kd_inj {n x y x' y' : Nat} (hx : x < 2 ^ n) (hy : y < 2 ^ n) (hx' : x' < 2 ^ n) (hy' : y' < 2 ^ n) (h : Qk.kd n x y = Qk.kd n x' y') : x = x' ∧ y = y' := by
  have e := congrArg Qk.pt h
  rw [Qk.pt_kd n x y hx hy, Qk.pt_kd n x' y' hx' hy'] at e
  exact ⟨congrArg Prod.fst e, congrArg Prod.snd e⟩
/-- one tile is over another one just if its key begins the other one's -/
theorem Qk.over_iff {n m x y x' y' : Nat} (hx : x < 2 ^ n) (hy : y < 2 ^ n) (hx' : x' < 2 ^ m) (hy' : y' < 2 ^ m) :
    (n ≤ m ∧ x' / 2 ^ (m - n) = x ∧ y' / 2 ^ (m - n) = y) ↔ Qk.kd n x y <+: Qk.kd m x' y' := by
  constructor
  · rintro ⟨h, rfl, rfl⟩
    rw [← Qk.kd_take m x' y' n h]
    exact List.take_prefix _ _
  · intro h
    have hl := h.length_le
    rw [Qk.kd_len, Qk.kd_len] at hl
    have e := List.prefix_iff_eq_take.1 h
    rw [Qk.kd_len, Qk.kd_take m x' y' n hl] at e
    have hp : 2 ^ m = 2 ^ n * 2 ^ (m - n) := by rw [← Nat.pow_add]; congr 1; omega
    obtain ⟨e1, e2⟩ := Qk.kd_inj hx hy (Nat.div_lt_of_lt_mul (by rw [Nat.mul_comm, ← hp]; exact hx')) (Nat.div_lt_of_lt_mul (by rw [Nat.mul_comm, ← hp]; exact hy')) e
    exact ⟨hl, e1.symm, e2.symm⟩

theorem Qk.sh_le (l m : List Nat) : Qk.sh l m ≤ l.length ∧ Qk.sh l m ≤ m.length := by
  induction l generalizing m with
  | nil => simp [Qk.sh]
  | cons a l ih =>
    cases m with
    | nil => simp [Qk.sh]
    | cons b m =>
      have := ih m
      unfold Qk.sh
      split <;> simp <;> omega
theorem Qk.sh_take (l m : List Nat) : l.take (Qk.sh l m) = m.take (Qk.sh l m) := by
  induction l generalizing m with
  | nil => simp [Qk.sh]
  | cons a l ih =>
    cases m with
    | nil => simp [Qk.sh]
    | cons b m =>
      unfold Qk.sh
      split
      · rename_i h; subst h; rw [List.take_succ_cons, List.take_succ_cons, ih]
      · rfl
theorem Qk.sh_max (l m : List Nat) (k : Nat) (hl : k ≤ l.length) (hm : k ≤ m.length) (h : l.take k = m.take k) : k ≤ Qk.sh l m := by
  induction l generalizing m k with
  | nil => simp at hl; omega
  | cons a l ih =>
    cases m with
    | nil => simp at hm; omega
    | cons b m =>
      cases k with
      | zero => omega
      | succ k =>
        rw [List.take_succ_cons, List.take_succ_cons] at h
        injection h with h1 h2
        unfold Qk.sh
        rw [if_pos h1]
        have := ih m k (by simpa using hl) (by simpa using hm) h2
        omega
theorem Qk.sh_step (l m : List Nat) (k : Nat) (hl : k < l.length) (hm : k < m.length) (h : l.take k = m.take k) : (l[k]'hl = m[k]'hm → l.take (k + 1) = m.take (k + 1)) ∧ (¬ l[k]'hl = m[k]'hm → Qk.sh l m = k) := by
  constructor
  · intro e
    rw [List.take_succ_eq_append_getElem hl, List.take_succ_eq_append_getElem hm, h, e]
  · intro e
    have h1 := Qk.sh_max l m k (by omega) (by omega) h
    rcases Nat.lt_or_ge k (Qk.sh l m) with h2 | h2
    · exfalso
      have h3 := congrArg (fun t => t[k]?) (Qk.sh_take l m)
      simp only [List.getElem?_take, if_pos h2, List.getElem?_eq_getElem hl, List.getElem?_eq_getElem hm, Option.some.injEq] at h3
      exact e h3
    · omega
theorem Qk.sh_end (l m : List Nat) (k : Nat) (hl : k ≤ l.length) (hm : k ≤ m.length) (h : l.take k = m.take k) (he : k = l.length ∨ k = m.length) : Qk.sh l m = k := by
  have h1 := Qk.sh_max l m k hl hm h
  have h2 := Qk.sh_le l m
  omega
end Go.Proofs.YtdipincjginmcaaDoor
