/- Plain arithmetic of the identifiers of tiles, with no program in sight: how many tiles lie ahead of a zoom, the zoom of an identifier, the way back, what lies in a tile. No conditions beyond those typed. -/
import Derived.Test.YtdipincjginmcaaDoorCurveMath
namespace Go.Proofs.YtdipincjginmcaaDoor.Cv

/-- how many tiles the zooms ahead have -/
def bs : Nat → Nat
  | 0 => 0
  | n + 1 => bs n + 4 ^ n

theorem bs3 (n : Nat) : 3 * bs n + 1 = 4 ^ n := by
  induction n with
  | zero => rfl
  | succ n ih => rw [four_succ, bs]; omega
theorem bs_div (n : Nat) : (4 ^ n - 1) / 3 = bs n := by have := bs3 n; omega
theorem bs_succ (n : Nat) : bs (n + 1) = bs n + 4 ^ n := rfl
theorem bs_lt (n : Nat) : bs n < bs (n + 1) := by have := pow_pos4 n; rw [bs_succ]; omega
theorem bs_mono (n k : Nat) : bs n ≤ bs (n + k) := by
  induction k with
  | zero => exact Nat.le_refl _
  | succ k ih => have := bs_lt (n + k); rw [← Nat.add_assoc]; omega
theorem bs_le (n m : Nat) (h : n ≤ m) : bs n ≤ bs m := by
  have := bs_mono n (m - n); rw [Nat.add_sub_cancel' h] at this; exact this

/-- an identifier's zoom -/
def zm (id : Nat) : Nat := (3 * id + 1).log2 / 2

theorem zm_spec (id : Nat) : bs (zm id) ≤ id ∧ id < bs (zm id + 1) := by
  have h0 : 3 * id + 1 ≠ 0 := by omega
  have h1 := Nat.log2_self_le h0
  have h2 := Nat.lt_log2_self (n := 3 * id + 1)
  have e4 : ∀ m, (4 : Nat) ^ m = 2 ^ (2 * m) := fun m => by rw [Nat.pow_mul]
  have a1 : (4 : Nat) ^ (zm id) ≤ 3 * id + 1 := by
    rw [e4]; exact Nat.le_trans (Nat.pow_le_pow_right (by omega) (by unfold zm; omega)) h1
  have a2 : 3 * id + 1 < 4 ^ (zm id + 1) := by
    rw [e4]; exact Nat.lt_of_lt_of_le h2 (Nat.pow_le_pow_right (by omega) (by unfold zm; omega))
  have b1 := bs3 (zm id)
  have b2 := bs3 (zm id + 1)
  omega

theorem zm_of (z id : Nat) (h1 : bs z ≤ id) (h2 : id < bs (z + 1)) : zm id = z := by
  obtain ⟨h3, h4⟩ := zm_spec id
  rcases Nat.lt_trichotomy (zm id) z with h | h | h
  · have := bs_le (zm id + 1) z (by omega); omega
  · exact h
  · have := bs_le (z + 1) (zm id) (by omega); omega

theorem zm_le (id : Nat) (h : id < bs 27) : zm id ≤ 26 := by
  rcases Nat.lt_or_ge 26 (zm id) with h1 | h1
  · have := bs_le 27 (zm id) (by omega); have := (zm_spec id).1; omega
  · exact h1

def idn (z x y : Nat) : Nat := bs z + place z x y

theorem idn_lt (z x y : Nat) (hx : x < 2 ^ z) (hy : y < 2 ^ z) : bs z ≤ idn z x y ∧ idn z x y < bs (z + 1) := by
  have := place_lt z x y hx hy
  unfold idn; rw [bs_succ]; omega
theorem idn_count (z x y : Nat) (hz : z ≤ 26) (hx : x < 2 ^ z) (hy : y < 2 ^ z) : idn z x y < bs 27 := by
  have := (idn_lt z x y hx hy).2
  have := bs_le (z + 1) 27 (by omega)
  omega
theorem zm_idn (z x y : Nat) (hx : x < 2 ^ z) (hy : y < 2 ^ z) : zm (idn z x y) = z := zm_of z _ (idn_lt z x y hx hy).1 (idn_lt z x y hx hy).2

/-- the tile of an identifier -/
def ofn (id : Nat) : Nat × Nat := point (zm id) (id - bs (zm id))

theorem ofn_idn (z x y : Nat) (hx : x < 2 ^ z) (hy : y < 2 ^ z) : ofn (idn z x y) = (x, y) := by
  unfold ofn
  rw [zm_idn z x y hx hy]
  unfold idn
  rw [Nat.add_sub_cancel_left, point_place z x y hx hy]
theorem ofn_lt (id : Nat) : (ofn id).1 < 2 ^ zm id ∧ (ofn id).2 < 2 ^ zm id := point_lt _ _
theorem idn_ofn (id : Nat) : idn (zm id) (ofn id).1 (ofn id).2 = id := by
  have h := zm_spec id
  unfold ofn idn
  rw [place_point _ _ (by rw [bs_succ] at h; omega)]
  omega
theorem idn_lower (z x y z' x' y' : Nat) (hx : x < 2 ^ z) (hy : y < 2 ^ z) (hx' : x' < 2 ^ z') (hy' : y' < 2 ^ z') (h : z < z') : idn z x y < idn z' x' y' := by
  have := (idn_lt z x y hx hy).2
  have := (idn_lt z' x' y' hx' hy').1
  have := bs_le (z + 1) z' (by omega)
  omega

/-- the place of what a tile lies in -/
theorem place_ups (n k : Nat) : ∀ x y, x < 2 ^ (n + k) → y < 2 ^ (n + k) → place n (x / 2 ^ k) (y / 2 ^ k) = place (n + k) x y / 4 ^ k := by
  induction k with
  | zero => intro x y _ _; simp
  | succ k ih =>
    intro x y hx hy
    have e := two_succ (n + k)
    have h := place_up (n + k) x y hx hy
    have h2 := ih (x / 2) (y / 2) (by rw [← Nat.add_assoc, e] at hx; omega) (by rw [← Nat.add_assoc, e] at hy; omega)
    rw [Nat.div_div_eq_div_mul, Nat.div_div_eq_div_mul, h, Nat.div_div_eq_div_mul, ← two_succ, ← four_succ] at h2
    exact h2

theorem div_pow_lt (n k x : Nat) (hx : x < 2 ^ (n + k)) : x / 2 ^ k < 2 ^ n := by
  rw [Nat.div_lt_iff_lt_mul (pow_pos2 k), ← Nat.pow_add]; exact hx

theorem place_inj (n x y x' y' : Nat) (hx : x < 2 ^ n) (hy : y < 2 ^ n) (hx' : x' < 2 ^ n) (hy' : y' < 2 ^ n) (h : place n x y = place n x' y') : x = x' ∧ y = y' := by
  have h1 := point_place n x y hx hy
  rw [h, point_place n x' y' hx' hy'] at h1
  injection h1 with h1 h2
  exact ⟨h1.symm, h2.symm⟩

/-- a tile k zooms below lies in (x, y) just if its place is between -/
theorem over_iff (n k x y sx sy : Nat) (hx : x < 2 ^ n) (hy : y < 2 ^ n) (hsx : sx < 2 ^ (n + k)) (hsy : sy < 2 ^ (n + k)) :
    (sx / 2 ^ k = x ∧ sy / 2 ^ k = y) ↔ (place n x y * 4 ^ k ≤ place (n + k) sx sy ∧ place (n + k) sx sy < place n x y * 4 ^ k + 4 ^ k) := by
  have h := place_ups n k sx sy hsx hsy
  have h0 := pow_pos4 k
  have hd := Nat.div_add_mod (place (n + k) sx sy) (4 ^ k)
  have hm := Nat.mod_lt (place (n + k) sx sy) h0
  constructor
  · rintro ⟨rfl, rfl⟩
    rw [h, Nat.mul_comm]
    omega
  · intro ⟨h1, h2⟩
    have e : place (n + k) sx sy / 4 ^ k = place n x y := by
      rw [show place (n + k) sx sy = place n x y * 4 ^ k + (place (n + k) sx sy - place n x y * 4 ^ k) from by omega]
      exact div_of _ _ _ (by omega)
    exact place_inj n _ _ _ _ (div_pow_lt n k sx hsx) (div_pow_lt n k sy hsy) hx hy (h.trans e)

/-- child i of a tile by the document's order of digits -/
def kid (x y i : Nat) : Nat × Nat := (2 * x + i % 2, 2 * y + i / 2)

theorem kid_lt (n x y i : Nat) (hx : x < 2 ^ n) (hy : y < 2 ^ n) (hi : i < 4) : (kid x y i).1 < 2 ^ (n + 1) ∧ (kid x y i).2 < 2 ^ (n + 1) := by
  rw [two_succ]; unfold kid; dsimp only; omega
theorem kid_place (n x y i : Nat) (hx : x < 2 ^ n) (hy : y < 2 ^ n) (hi : i < 4) : place (n + 1) (kid x y i).1 (kid x y i).2 / 4 = place n x y := by
  have h := kid_lt n x y i hx hy hi
  rw [← place_up n _ _ h.1 h.2]
  congr 1 <;> simp only [kid] <;> omega
/-- which of the four places the child i has -/
def kq (n x y i : Nat) : Nat := place (n + 1) (kid x y i).1 (kid x y i).2 % 4
theorem kid_eq (n x y i : Nat) (hx : x < 2 ^ n) (hy : y < 2 ^ n) (hi : i < 4) : place (n + 1) (kid x y i).1 (kid x y i).2 = 4 * place n x y + kq n x y i := by
  have h := kid_place n x y i hx hy hi
  unfold kq; omega
theorem kq_lt (n x y i : Nat) : kq n x y i < 4 := Nat.mod_lt _ (by omega)
theorem kq_ne (n x y i j : Nat) (hx : x < 2 ^ n) (hy : y < 2 ^ n) (hi : i < 4) (hj : j < 4) (hne : i ≠ j) : kq n x y i ≠ kq n x y j := by
  intro h
  have h1 := kid_eq n x y i hx hy hi
  have h2 := kid_eq n x y j hx hy hj
  have a := kid_lt n x y i hx hy hi
  have b := kid_lt n x y j hx hy hj
  have := place_inj (n + 1) _ _ _ _ a.1 a.2 b.1 b.2 (by omega)
  simp only [kid] at this
  omega
theorem kid_point (n x y i : Nat) (hx : x < 2 ^ n) (hy : y < 2 ^ n) (hi : i < 4) : kid x y i = point (n + 1) (4 * place n x y + kq n x y i) := by
  have a := kid_lt n x y i hx hy hi
  rw [← kid_eq n x y i hx hy hi, point_place (n + 1) _ _ a.1 a.2]

/-- the four are four -/
theorem kq_bits (n x y : Nat) (hx : x < 2 ^ n) (hy : y < 2 ^ n) :
    2 ^ kq n x y 0 ||| 2 ^ kq n x y 1 ||| 2 ^ kq n x y 2 ||| 2 ^ kq n x y 3 = 15 := by
  have a0 := kq_lt n x y 0
  have a1 := kq_lt n x y 1
  have a2 := kq_lt n x y 2
  have a3 := kq_lt n x y 3
  have b0 := kq_ne n x y 0 1 hx hy (by omega) (by omega) (by omega)
  have b1 := kq_ne n x y 0 2 hx hy (by omega) (by omega) (by omega)
  have b2 := kq_ne n x y 0 3 hx hy (by omega) (by omega) (by omega)
  have b3 := kq_ne n x y 1 2 hx hy (by omega) (by omega) (by omega)
  have b4 := kq_ne n x y 1 3 hx hy (by omega) (by omega) (by omega)
  have b5 := kq_ne n x y 2 3 hx hy (by omega) (by omega) (by omega)
  generalize kq n x y 0 = p at *
  generalize kq n x y 1 = q at *
  generalize kq n x y 2 = r at *
  generalize kq n x y 3 = s at *
  have all : ∀ p q r s : Fin 4, (p == q || p == r || p == s || q == r || q == s || r == s || (2 ^ p.val ||| 2 ^ q.val ||| 2 ^ r.val ||| 2 ^ s.val) == 15) = true := by decide +kernel
  have h := all ⟨p, a0⟩ ⟨q, a1⟩ ⟨r, a2⟩ ⟨s, a3⟩
  simpa [b0, b1, b2, b3, b4, b5] using h

end Go.Proofs.YtdipincjginmcaaDoor.Cv
