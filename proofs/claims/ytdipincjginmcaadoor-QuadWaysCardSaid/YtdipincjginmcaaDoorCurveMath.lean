/- Plain arithmetic of Hilbert's curve, with no program in sight: the place of a tile and the tile of a place are inverse to each other, neighbours follow each other, quarters nest. No conditions beyond those typed. -/
namespace Go.Proofs.YtdipincjginmcaaDoor.Cv

/-- the place of (x, y) in a square that is 2^n wide -/
def place : Nat → Nat → Nat → Nat
  | 0, _, _ => 0
  | n + 1, x, y =>
    if x < 2 ^ n then (if y < 2 ^ n then place n y x else 4 ^ n + place n x (y - 2 ^ n))
    else if y < 2 ^ n then 3 * 4 ^ n + place n (2 ^ n - 1 - y) (2 ^ n - 1 - (x - 2 ^ n)) else 2 * 4 ^ n + place n (x - 2 ^ n) (y - 2 ^ n)

/-- one step of the way back: quarter k of a square, whose quarters are 2^n wide, from the tile (a, b) in the quarter -/
def lay (n k a b : Nat) : Nat × Nat :=
  if k = 0 then (b, a) else if k = 1 then (a, b + 2 ^ n) else if k = 2 then (a + 2 ^ n, b + 2 ^ n) else (2 ^ n - 1 - b + 2 ^ n, 2 ^ n - 1 - a)

/-- the tile of place d in a square that is 2^n wide -/
def point : Nat → Nat → Nat × Nat
  | 0, _ => (0, 0)
  | n + 1, d => lay n (d / 4 ^ n % 4) (point n (d % 4 ^ n)).1 (point n (d % 4 ^ n)).2

theorem pow_pos2 (n : Nat) : 0 < 2 ^ n := Nat.pow_pos (by omega)
theorem pow_pos4 (n : Nat) : 0 < 4 ^ n := Nat.pow_pos (by omega)
theorem four (n : Nat) : 4 ^ n = 2 ^ n * 2 ^ n := by
  rw [show (4 : Nat) = 2 * 2 from rfl, Nat.mul_pow]
theorem two_succ (n : Nat) : 2 ^ (n + 1) = 2 * 2 ^ n := by rw [Nat.pow_succ]; omega
theorem four_succ (n : Nat) : 4 ^ (n + 1) = 4 * 4 ^ n := by rw [Nat.pow_succ]; omega

theorem place_lt (n : Nat) : ∀ x y, x < 2 ^ n → y < 2 ^ n → place n x y < 4 ^ n := by
  induction n with
  | zero => intro x y _ _; simp [place]
  | succ n ih =>
    intro x y hx hy
    rw [two_succ] at hx hy
    rw [four_succ]
    have h0 := pow_pos4 n
    unfold place
    split
    · split
      · have := ih y x (by omega) (by omega); omega
      · have := ih x (y - 2 ^ n) (by omega) (by omega); omega
    · split
      · have := ih (2 ^ n - 1 - y) (2 ^ n - 1 - (x - 2 ^ n)) (by omega) (by omega); omega
      · have := ih (x - 2 ^ n) (y - 2 ^ n) (by omega) (by omega); omega

theorem lay_lt (n k a b : Nat) (ha : a < 2 ^ n) (hb : b < 2 ^ n) : (lay n k a b).1 < 2 ^ (n + 1) ∧ (lay n k a b).2 < 2 ^ (n + 1) := by
  rw [two_succ]
  unfold lay
  split
  · constructor <;> dsimp only <;> omega
  · split
    · constructor <;> dsimp only <;> omega
    · split <;> constructor <;> dsimp only <;> omega

theorem point_lt (n : Nat) : ∀ d, (point n d).1 < 2 ^ n ∧ (point n d).2 < 2 ^ n := by
  induction n with
  | zero => intro d; simp [point]
  | succ n ih => intro d; exact lay_lt n _ _ _ (ih _).1 (ih _).2

theorem point_mod (n d : Nat) : point n (d % 4 ^ n) = point n d := by
  cases n with
  | zero => rfl
  | succ n =>
    unfold point
    have h1 : d % 4 ^ (n + 1) / 4 ^ n % 4 = d / 4 ^ n % 4 := by
      rw [four_succ, Nat.mul_comm, Nat.mod_mul_right_div_self, Nat.mod_mod]
    have h2 : d % 4 ^ (n + 1) % 4 ^ n = d % 4 ^ n := by
      rw [four_succ]; exact Nat.mod_mul_left_mod d 4 (4 ^ n)
    rw [h1, h2]

theorem div_of (a b c : Nat) (hc : c < b) : (a * b + c) / b = a := by
  rw [Nat.mul_comm, Nat.mul_add_div (by omega), Nat.div_eq_of_lt hc]; omega
theorem mod_of (a b c : Nat) (hc : c < b) : (a * b + c) % b = c := by
  rw [Nat.mul_comm, Nat.mul_add_mod]; exact Nat.mod_eq_of_lt hc

theorem point_place (n : Nat) : ∀ x y, x < 2 ^ n → y < 2 ^ n → point n (place n x y) = (x, y) := by
  induction n with
  | zero => intro x y hx hy; simp at hx hy; simp [point, hx, hy]
  | succ n ih =>
    intro x y hx hy
    rw [two_succ] at hx hy
    have hp := pow_pos2 n
    unfold place
    split
    · split
      · rename_i h1 h2
        have hl := place_lt n y x h2 h1
        have hd := div_of 0 (4 ^ n) _ hl
        have hm := mod_of 0 (4 ^ n) _ hl
        rw [Nat.zero_mul, Nat.zero_add] at hd hm
        unfold point
        rw [hd, hm, ih y x h2 h1]
        rfl
      · rename_i h1 h2
        have hl := place_lt n x (y - 2 ^ n) h1 (by omega)
        have hd := div_of 1 (4 ^ n) _ hl
        have hm := mod_of 1 (4 ^ n) _ hl
        rw [Nat.one_mul] at hd hm
        unfold point
        rw [hd, hm, ih _ _ h1 (by omega)]
        simp [lay]; omega
    · split
      · rename_i h1 h2
        have hl := place_lt n (2 ^ n - 1 - y) (2 ^ n - 1 - (x - 2 ^ n)) (by omega) (by omega)
        have hd := div_of 3 (4 ^ n) _ hl
        have hm := mod_of 3 (4 ^ n) _ hl
        unfold point
        rw [hd, hm, ih _ _ (by omega) (by omega)]
        simp [lay]; omega
      · rename_i h1 h2
        have hl := place_lt n (x - 2 ^ n) (y - 2 ^ n) (by omega) (by omega)
        have hd := div_of 2 (4 ^ n) _ hl
        have hm := mod_of 2 (4 ^ n) _ hl
        unfold point
        rw [hd, hm, ih _ _ (by omega) (by omega)]
        simp [lay]; omega

theorem place_lay (n k a b : Nat) (ha : a < 2 ^ n) (hb : b < 2 ^ n) (hk : k < 4) : place (n + 1) (lay n k a b).1 (lay n k a b).2 = k * 4 ^ n + place n a b := by
  have hp := pow_pos2 n
  have hk' : k = 0 ∨ k = 1 ∨ k = 2 ∨ k = 3 := by omega
  rcases hk' with rfl | rfl | rfl | rfl
  · simp only [lay, place]; rw [if_pos (by simpa using hb), if_pos (by simpa using ha)]; simp
  · simp only [lay, place]; simp only [Nat.reduceEqDiff, ↓reduceIte]
    rw [if_pos ha, if_neg (by omega), Nat.add_sub_cancel]; simp
  · simp only [lay, place]; simp only [Nat.reduceEqDiff, ↓reduceIte]
    rw [if_neg (by omega), if_neg (by omega), Nat.add_sub_cancel, Nat.add_sub_cancel]
  · simp only [lay, place]; simp only [Nat.reduceEqDiff, ↓reduceIte]
    rw [if_neg (by omega), if_pos (by omega), Nat.add_sub_cancel]
    congr 2 <;> omega

theorem place_point (n : Nat) : ∀ d, d < 4 ^ n → place n (point n d).1 (point n d).2 = d := by
  induction n with
  | zero => intro d hd; simp at hd; simp [place, hd]
  | succ n ih =>
    intro d hd
    rw [four_succ] at hd
    have h0 := pow_pos4 n
    have hk : d / 4 ^ n < 4 := by rw [Nat.div_lt_iff_lt_mul h0]; omega
    have hl := point_lt n (d % 4 ^ n)
    unfold point
    rw [Nat.mod_eq_of_lt hk, place_lay n _ _ _ hl.1 hl.2 hk, ih _ (Nat.mod_lt _ h0), Nat.mul_comm]
    exact Nat.div_add_mod d (4 ^ n)

/-- the way begins at (0, 0) .. -/
theorem point_zero (n : Nat) : point n 0 = (0, 0) := by
  induction n with
  | zero => rfl
  | succ n ih => unfold point; simp [ih, lay]

/-- .. and ends at the end of the first row -/
theorem point_last (n : Nat) : point n (4 ^ n - 1) = (2 ^ n - 1, 0) := by
  induction n with
  | zero => rfl
  | succ n ih =>
    have h0 := pow_pos4 n
    have hp := pow_pos2 n
    have e : 4 ^ (n + 1) - 1 = 3 * 4 ^ n + (4 ^ n - 1) := by rw [four_succ]; omega
    unfold point
    rw [e, div_of _ _ _ (by omega), mod_of _ _ _ (by omega), ih, two_succ]
    simp [lay]; omega

def near (p q : Nat × Nat) : Prop := (p.1 = q.1 ∧ (p.2 + 1 = q.2 ∨ q.2 + 1 = p.2)) ∨ (p.2 = q.2 ∧ (p.1 + 1 = q.1 ∨ q.1 + 1 = p.1))

theorem near_lay (n k : Nat) (p q : Nat × Nat) (hp : p.1 < 2 ^ n ∧ p.2 < 2 ^ n) (hq : q.1 < 2 ^ n ∧ q.2 < 2 ^ n) (h : near p q) : near (lay n k p.1 p.2) (lay n k q.1 q.2) := by
  unfold near at *
  unfold lay
  split
  · dsimp only; omega
  · split
    · dsimp only; omega
    · split <;> dsimp only <;> omega

/-- a tile and the one behind it are neighbours -/
theorem steps (n : Nat) : ∀ d, d + 1 < 4 ^ n → near (point n d) (point n (d + 1)) := by
  induction n with
  | zero => intro d hd; simp at hd
  | succ n ih =>
    intro d hd
    rw [four_succ] at hd
    have h0 := pow_pos4 n
    have hp := pow_pos2 n
    have hk : d / 4 ^ n < 4 := by rw [Nat.div_lt_iff_lt_mul h0]; omega
    have hr := Nat.mod_lt d h0
    have hdd := Nat.div_add_mod d (4 ^ n)
    by_cases hin : d % 4 ^ n + 1 < 4 ^ n
    · have e1 : d + 1 = d / 4 ^ n * 4 ^ n + (d % 4 ^ n + 1) := by rw [Nat.mul_comm]; omega
      have hd1 : (d + 1) / 4 ^ n = d / 4 ^ n := by rw [e1, div_of _ _ _ hin]
      have hm1 : (d + 1) % 4 ^ n = d % 4 ^ n + 1 := by rw [e1, mod_of _ _ _ hin]
      unfold point
      rw [hd1, hm1]
      exact near_lay n _ _ _ (point_lt n _) (point_lt n _) (ih _ hin)
    · have er : d % 4 ^ n = 4 ^ n - 1 := by omega
      have e0 : (d / 4 ^ n + 1) * 4 ^ n = 4 ^ n * (d / 4 ^ n) + 4 ^ n := by rw [Nat.add_mul, Nat.mul_comm, Nat.one_mul]
      have e1 : d + 1 = (d / 4 ^ n + 1) * 4 ^ n + 0 := by omega
      have hd1 : (d + 1) / 4 ^ n = d / 4 ^ n + 1 := by rw [e1, div_of _ _ _ h0]
      have hm1 : (d + 1) % 4 ^ n = 0 := by rw [e1, mod_of _ _ _ h0]
      have hk1 : d / 4 ^ n + 1 < 4 := by
        have : (d + 1) / 4 ^ n < 4 := by rw [Nat.div_lt_iff_lt_mul h0]; omega
        omega
      unfold point
      rw [hd1, hm1, er, point_zero, point_last]
      have hk3 : d / 4 ^ n = 0 ∨ d / 4 ^ n = 1 ∨ d / 4 ^ n = 2 := by
        clear hd1 hm1 e0 e1
        generalize d / 4 ^ n = k at hk1
        omega
      have q1 : 2 ^ n - 1 + 1 = 2 ^ n := by omega
      rcases hk3 with e | e | e <;> rw [e]
      · exact Or.inl ⟨rfl, Or.inl (by show 2 ^ n - 1 + 1 = 0 + 2 ^ n; omega)⟩
      · exact Or.inr ⟨rfl, Or.inl (by show 2 ^ n - 1 + 1 = 0 + 2 ^ n; omega)⟩
      · exact Or.inl ⟨by show 2 ^ n - 1 + 2 ^ n = 2 ^ n - 1 - 0 + 2 ^ n; omega, Or.inr (by show 2 ^ n - 1 - 0 + 1 = 0 + 2 ^ n; omega)⟩

theorem place_last (n x y : Nat) (hx : x < 2 ^ n) (hy : y < 2 ^ n) (h : 4 ^ n ≤ place n x y + 1) : x = 2 ^ n - 1 ∧ y = 0 := by
  have h1 := place_lt n x y hx hy
  have e : place n x y = 4 ^ n - 1 := by omega
  have h2 := point_place n x y hx hy
  rw [e, point_last] at h2
  injection h2 with h2 h3
  exact ⟨h2.symm, h3.symm⟩

/-- quarters nest -/
theorem place_up (n : Nat) : ∀ x y, x < 2 ^ (n + 1) → y < 2 ^ (n + 1) → place n (x / 2) (y / 2) = place (n + 1) x y / 4 := by
  induction n with
  | zero =>
    intro x y hx hy
    have := place_lt 1 x y hx hy
    simp [place] at *
    omega
  | succ n ih =>
    intro x y hx hy
    have hx' := two_succ (n + 1) ▸ hx
    have hy' := two_succ (n + 1) ▸ hy
    have h2 := two_succ n
    have h4 := four_succ n
    have hp := pow_pos2 n
    rw [place, place.eq_def (n + 1 + 1)]
    dsimp only
    by_cases c1 : x < 2 ^ (n + 1) <;> by_cases c2 : y < 2 ^ (n + 1)
    · rw [if_pos (by omega), if_pos (by omega), if_pos c1, if_pos c2, ih y x c2 c1]
    · rw [if_pos (by omega), if_neg (by omega), if_pos c1, if_neg c2]
      have := ih x (y - 2 ^ (n + 1)) c1 (by omega)
      rw [show (y - 2 ^ (n + 1)) / 2 = y / 2 - 2 ^ n from by omega] at this
      omega
    · rw [if_neg (by omega), if_pos (by omega), if_neg c1, if_pos c2]
      have := ih (2 ^ (n + 1) - 1 - y) (2 ^ (n + 1) - 1 - (x - 2 ^ (n + 1))) (by omega) (by omega)
      rw [show (2 ^ (n + 1) - 1 - y) / 2 = 2 ^ n - 1 - y / 2 from by omega, show (2 ^ (n + 1) - 1 - (x - 2 ^ (n + 1))) / 2 = 2 ^ n - 1 - (x / 2 - 2 ^ n) from by omega] at this
      omega
    · rw [if_neg (by omega), if_neg (by omega), if_neg c1, if_neg c2]
      have := ih (x - 2 ^ (n + 1)) (y - 2 ^ (n + 1)) (by omega) (by omega)
      rw [show (y - 2 ^ (n + 1)) / 2 = y / 2 - 2 ^ n from by omega, show (x - 2 ^ (n + 1)) / 2 = x / 2 - 2 ^ n from by omega] at this
      omega

end Go.Proofs.YtdipincjginmcaaDoor.Cv
