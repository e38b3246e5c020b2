/- The walk of tileid's Zoom; the zoom of an identifier. -/
import Derived.Test.YtlfahmdndlmhpaaGreatDoorShelf
import Derived.Test.YtlfahmdndlmhpaaGreatDoorKit
namespace Go.Proofs.YtlfahmdndlmhpaaGreatDoor.Cv
theorem pow_pos4 (n : Nat) : 0 < 4 ^ n := Nat.pow_pos (by omega)
theorem four_succ (n : Nat) : 4 ^ (n + 1) = 4 * 4 ^ n := by rw [Nat.pow_succ]; omega
/-- how many tiles the zooms ahead have -/
def bs : Nat → Nat
  | 0 => 0
  | n + 1 => bs n + 4 ^ n

theorem bs3 (n : Nat) : 3 * bs n + 1 = 4 ^ n := by
  induction n with
  | zero => rfl
  | succ n ih => rw [four_succ, bs]; omega
theorem bs_div (n : Nat) : (4 ^ n - 1) / 3 = bs n := by have := bs3 n; omega
theorem bs_succ (n : Nat) : bs (n + 1) = bs n + 4 ^ n := rfl
theorem bs_lt (n : Nat) : bs n < bs (n + 1) := by have := pow_pos4 n; rw [bs_succ]; omega
theorem bs_mono (n k : Nat) : bs n ≤ bs (n + k) := by
  induction k with
  | zero => exact Nat.le_refl _
  | succ k ih => have := bs_lt (n + k); rw [← Nat.add_assoc]; omega
theorem bs_le (n m : Nat) (h : n ≤ m) : bs n ≤ bs m := by
  have := bs_mono n (m - n); rw [Nat.add_sub_cancel' h] at this; exact this

/-- an identifier's zoom -/
def zm (id : Nat) : Nat := (3 * id + 1).log2 / 2

theorem zm_spec (id : Nat) : bs (zm id) ≤ id ∧ id < bs (zm id + 1) := by
  have h0 : 3 * id + 1 ≠ 0 := by omega
  have h1 := Nat.log2_self_le h0
  have h2 := Nat.lt_log2_self (n := 3 * id + 1)
  have e4 : ∀ m, (4 : Nat) ^ m = 2 ^ (2 * m) := fun m => by rw [Nat.pow_mul]
  have a1 : (4 : Nat) ^ (zm id) ≤ 3 * id + 1 := by
    rw [e4]; exact Nat.le_trans (Nat.pow_le_pow_right (by omega) (by unfold zm; omega)) h1
  have a2 : 3 * id + 1 < 4 ^ (zm id + 1) := by
    rw [e4]; exact Nat.lt_of_lt_of_le h2 (Nat.pow_le_pow_right (by omega) (by unfold zm; omega))
  have b1 := bs3 (zm id)
  have b2 := bs3 (zm id + 1)
  omega

theorem zm_of (z id : Nat) (h1 : bs z ≤ id) (h2 : id < bs (z + 1)) : zm id = z := by
  obtain ⟨h3, h4⟩ := zm_spec id
  rcases Nat.lt_trichotomy (zm id) z with h | h | h
  · have := bs_le (zm id + 1) z (by omega); omega
  · exact h
  · have := bs_le (z + 1) (zm id) (by omega); omega

theorem zm_le (id : Nat) (h : id < bs 27) : zm id ≤ 26 := by
  rcases Nat.lt_or_ge 26 (zm id) with h1 | h1
  · have := bs_le 27 (zm id) (by omega); have := (zm_spec id).1; omega
  · exact h1

end Go.Proofs.YtlfahmdndlmhpaaGreatDoor.Cv
namespace Go.Proofs.YtlfahmdndlmhpaaGreatDoor
open Go.RowKit
def Cv.zv (id : Int) : Int := if id < 6004799503160661 then ((Cv.zm id.toNat : Nat) : Int) else -1
theorem Cv.bs27 : Cv.bs 27 = 6004799503160661 := by decide
theorem Cv.zm_mono {a b : Nat} (h : a ≤ b) : Cv.zm a ≤ Cv.zm b := by
  rcases Nat.lt_or_ge (Cv.zm b) (Cv.zm a) with h1 | h1
  · have h2 := Cv.bs_le (Cv.zm b + 1) (Cv.zm a) (by omega)
    have h3 := (Cv.zm_spec a).1
    have h4 := (Cv.zm_spec b).2
    omega
  · exact h1
theorem Cv.zv_bd {id : Int} (h : id < 6004799503160661) : 0 ≤ Cv.zv id ∧ Cv.zv id ≤ 26 := by
  unfold Cv.zv
  rw [if_pos h]
  have := Cv.zm_le id.toNat (by rw [Cv.bs27]; omega)
  omega
theorem Cv.zv_mono {a b : Int} (h : a ≤ b) (hb : b < 6004799503160661) : Cv.zv a ≤ Cv.zv b := by
  unfold Cv.zv
  rw [if_pos (by omega), if_pos hb]
  have := Cv.zm_mono (a := a.toNat) (b := b.toNat) (by omega)
  omega
theorem bitLenAux_log (f : Nat) : ∀ x, 0 < x → x < 2 ^ f → Lib.bitLenAux f x = x.log2 + 1 := by
  induction f with
  | zero => intro x h1 h2; simp at h2; omega
  | succ f ih =>
    intro x h1 h2
    rw [Lib.bitLenAux, if_neg (by omega)]
    rcases Nat.lt_or_ge x 2 with h | h
    · have : x = 1 := by omega
      subst this
      cases f with
      | zero => rfl
      | succ f => rfl
    · rw [ih (x / 2) (by omega) (by rw [Nat.pow_succ] at h2; omega), Nat.log2_def x, if_pos h]
      omega
theorem bitLen_log (x : Nat) (h0 : 0 < x) (h1 : x < 18446744073709551616) : Lib.bitLen x = x.log2 + 1 := bitLenAux_log 64 x h0 (by simpa using h1)

theorem zoom_any (id : Int) (h0 : 0 ≤ id) (w : World) :
    Calls Tryz.prog 92 #[.int .u64 id] w fun e w' => e = .returned (.int .i64 (Cv.zv id)) ∧ w = w' := by
  by_cases h1 : id < 6004799503160661
  · have e1 : Cv.zv id = ((Cv.zm id.toNat : Nat) : Int) := by unfold Cv.zv; rw [if_pos h1]
    rw [e1]
    obtain ⟨L, hL⟩ : ∃ L, L = (3 * id.toNat + 1).log2 := ⟨_, rfl⟩
    have hl := bitLen_log (3 * id.toNat + 1) (by omega) (by omega)
    rw [← hL] at hl
    have hz := Cv.zm_le id.toNat (by rw [Cv.bs27]; omega)
    have hzm : Cv.zm id.toNat = L / 2 := by rw [hL]; rfl
    have hL2 : L ≤ 60 := by omega
    have hc := fun w => (Tryz.bits_Len64 (3 * id + 1) w (by omega) (by omega))
    rw [show (3 * id + 1).toNat = 3 * id.toNat + 1 by omega, hl] at hc
    have HZ := Lib.hid hzm
    have HC := Lib.hid hc
    clear hl hL hzm hz e1 hc
    go_enter Tryz.func92, Tryz.ntmps92
    go_wp2_with fail
    refine (HC.out _).mono ?_; rintro e w1 ⟨rfl, rfl⟩
    go_wp2_with fail
    go_ret
    exact ⟨ret1 (by rw [HZ.out]; omega), rfl⟩
  · have e1 : Cv.zv id = -1 := by unfold Cv.zv; rw [if_neg h1]
    rw [e1]
    go_enter Tryz.func92, Tryz.ntmps92
    go_wp2_with fail
    go_ret
    exact ⟨rfl, rfl⟩

end Go.Proofs.YtlfahmdndlmhpaaGreatDoor
