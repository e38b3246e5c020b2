/- How many bytes a number has. -/
import Derived.Test.YtlfahmdndlmhpaaGreatDoorM09
import Derived.Test.YtlfahmdndlmhpaaGreatDoorShelf
import Derived.Lib.ItoaNum
import Derived.Lib.BitFns
namespace Go.Proofs.YtlfahmdndlmhpaaGreatDoor
open Go.RowKit

def Vi.sz (x : Int) : Int := (Vi.bytes x).length
theorem bitLen_small {n : Nat} (h : n < 128) : Lib.bitLen n ≤ 7 := by
  have h1 : ∀ k : Fin 128, Lib.bitLen k.val ≤ 7 := by decide +kernel
  exact h1 ⟨n, h⟩
theorem bitLen_one {n : Nat} (h0 : n ≠ 0) (h : n < 2 ^ 64) : 1 ≤ Lib.bitLen n := (Lib.bitLenAux_bounds 64 n h h0).1
theorem Vi.enc_bits (f : Nat) : ∀ (x : Int), 0 ≤ x → x < 18446744073709551616 → x < Vi.cap f → ((Vi.enc f x).length : Int) = if 1 < ((Lib.bitLen x.toNat : Nat) + 6 : Int) / 7 then ((Lib.bitLen x.toNat : Nat) + 6 : Int) / 7 else 1 := by
  have small : ∀ (f : Nat) (x : Int), 0 ≤ x → x < 128 → ((Vi.enc f x).length : Int) = if 1 < ((Lib.bitLen x.toNat : Nat) + 6 : Int) / 7 then ((Lib.bitLen x.toNat : Nat) + 6 : Int) / 7 else 1 := by
    intro f x h0 h1
    rw [Vi.enc_small f h1]
    have := bitLen_small (n := x.toNat) (by omega)
    rw [if_neg (by omega)]
    rfl
  induction f with
  | zero => intro x h0 _ h1; exact small 0 x h0 (by simp [Vi.cap] at h1; omega)
  | succ f ih =>
    intro x h0 h64 h1
    by_cases c : x < 128
    · exact small _ x h0 c
    · rw [Vi.enc_big f (by omega), List.length_cons]
      have h := ih (x / 128) (by omega) (by omega) (Vi.cap_div h1)
      have hb := Lib.bitLen_shift 7 x.toNat (by omega) (by omega)
      have he : x.toNat / 2 ^ 7 = (x / 128).toNat := by omega
      rw [he] at hb
      have h1 := bitLen_one (n := (x / 128).toNat) (by omega) (by omega)
      rw [hb]
      push_cast
      rw [h]
      split <;> split <;> omega
theorem Vi.sz_bits {x : Int} (h0 : 0 ≤ x) (h1 : x < 18446744073709551616) : Vi.sz x = if 1 < ((Lib.bitLen x.toNat : Nat) + 6 : Int) / 7 then ((Lib.bitLen x.toNat : Nat) + 6 : Int) / 7 else 1 :=
  Vi.enc_bits 9 x h0 h1 (by rw [Vi.cap9]; exact h1)
theorem Vi.sz_bd (x : Int) : 1 ≤ Vi.sz x ∧ Vi.sz x ≤ 10 := by have := Vi.bytes_len x; unfold Vi.sz; omega

theorem size_any (x : Int) (w : World) (h0 : 0 ≤ x) (h1 : x < 18446744073709551616) :
    Calls Tryz.prog 80 #[.int .u64 x] w fun e w' => e = .returned (.int .i64 (Vi.sz x)) ∧ w = w' := by
  have hs := Lib.hid (Vi.sz_bits h0 h1)
  have hc := Lib.hid (fun w => Tryz.bits_Len64 x w h0 (by omega))
  have hL : Lib.bitLen x.toNat ≤ 64 := by
    rcases Nat.eq_zero_or_pos x.toNat with h | h
    · rw [h]; decide
    · have h2 := (Lib.bitLenAux_bounds 64 x.toNat (by omega) (by omega)).2.1
      rcases Nat.lt_or_ge 64 (Lib.bitLen x.toNat) with h3 | h3
      · exfalso
        have h4 : 2 ^ 64 ≤ 2 ^ (Lib.bitLenAux 64 x.toNat - 1) := Nat.pow_le_pow_right (by omega) (by unfold Lib.bitLen at h3; omega)
        omega
      · exact h3
  obtain ⟨L, hLL⟩ : ∃ L, L = Lib.bitLen x.toNat := ⟨_, rfl⟩
  have HS : Hid (Vi.sz x = if 1 < ((L : Nat) + 6 : Int) / 7 then ((L : Nat) + 6 : Int) / 7 else 1) := Lib.hid (by rw [hLL]; exact hs.out)
  have HC : Hid (∀ w, Calls Tryz.prog 109 #[.int .u64 x] w fun e w' => e = .returned (.int .i64 (L : Int)) ∧ w' = w) := Lib.hid (by rw [hLL]; exact hc.out)
  rw [← hLL] at hL
  clear hLL hs hc
  go_enter Tryz.func80, Tryz.ntmps80
  go_wp2_with fail
  refine (HC.out _).mono ?_; rintro e w1 ⟨rfl, rfl⟩
  go_wp2_with fail
  all_goals
    go_ret
    exact ⟨ret1 (by rw [HS.out]; first | rfl | (split <;> omega)), rfl⟩

/-- what its length says of a number -/
theorem Vi.enc_pow (f : Nat) : ∀ (x : Int), 0 ≤ x → x < Vi.cap f → x < (128 : Int) ^ (Vi.enc f x).length ∧ ((Vi.enc f x).length = 1 ∨ (128 : Int) ^ ((Vi.enc f x).length - 1) ≤ x) := by
  induction f with
  | zero => intro x h0 h1; simp [Vi.enc, Vi.cap] at *; omega
  | succ f ih =>
    intro x h0 h1
    by_cases c : x < 128
    · rw [Vi.enc_small _ c]; simp; omega
    · rw [Vi.enc_big f (by omega), List.length_cons]
      obtain ⟨h2, h3⟩ := ih (x / 128) (by omega) (Vi.cap_div h1)
      have h4 := (Vi.enc_len f (x / 128)).1
      obtain ⟨n, hn⟩ : ∃ n, (Vi.enc f (x / 128)).length = n + 1 := ⟨(Vi.enc f (x / 128)).length - 1, by omega⟩
      rw [hn] at h2 h3 ⊢
      rw [Nat.add_sub_cancel] at h3 ⊢
      rw [Int.pow_succ] at h2 ⊢
      rw [Int.pow_succ]
      refine ⟨by omega, Or.inr ?_⟩
      rcases h3 with h3 | h3
      · obtain rfl : n = 0 := by omega
        simp; omega
      · omega
theorem Vi.sz_pow {x : Int} (h0 : 0 ≤ x) (h1 : x < 18446744073709551616) : x < (128 : Int) ^ (Vi.bytes x).length ∧ ((Vi.bytes x).length = 1 ∨ (128 : Int) ^ ((Vi.bytes x).length - 1) ≤ x) :=
  Vi.enc_pow 9 x h0 (by rw [Vi.cap9]; exact h1)
theorem Vi.sz_mono {x y : Int} (h0 : 0 ≤ x) (h1 : y < 18446744073709551616) (h : x ≤ y) : Vi.sz x ≤ Vi.sz y := by
  obtain ⟨_, h3⟩ := Vi.sz_pow h0 (by omega)
  obtain ⟨h4, _⟩ := Vi.sz_pow (x := y) (by omega) h1
  have h5 := (Vi.bytes_len y).1
  unfold Vi.sz
  rcases h3 with h3 | h3
  · omega
  · rcases Nat.lt_or_ge (Vi.bytes y).length (Vi.bytes x).length with h6 | h6
    · exfalso
      have h7 : (128 : Int) ^ (Vi.bytes y).length ≤ (128 : Int) ^ ((Vi.bytes x).length - 1) := by
        have := Nat.pow_le_pow_right (n := 128) (by omega) (show (Vi.bytes y).length ≤ (Vi.bytes x).length - 1 by omega)
        exact_mod_cast this
      omega
    · omega

end Go.Proofs.YtlfahmdndlmhpaaGreatDoor
