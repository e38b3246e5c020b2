/- Numbers laid by seven binary digits a byte: plain. -/
import Derived.Test.YtppciejcobmikaaEntMath
import Derived.Laws.BytesArg
namespace Go.Proofs.Ytppciejcobmikaa
open Go.RowKit

def Vi.enc : Nat → Int → List Int
  | 0, x => [x]
  | f + 1, x => if x < 128 then [x] else (x % 128 + 128) :: Vi.enc f (x / 128)
def Vi.bytes (x : Int) : List Int := Vi.enc 9 x
def Vi.cap : Nat → Int
  | 0 => 2
  | f + 1 => 128 * Vi.cap f
theorem Vi.cap9 : Vi.cap 9 = 18446744073709551616 := by decide +kernel
theorem Vi.cap_pos (f : Nat) : 2 ≤ Vi.cap f := by
  induction f with
  | zero => simp [Vi.cap]
  | succ f ih => unfold Vi.cap; omega
theorem Vi.cap_div {f : Nat} {x : Int} (h : x < Vi.cap (f + 1)) : x / 128 < Vi.cap f := by unfold Vi.cap at h; omega
theorem Vi.cap_big {f : Nat} {x : Int} (h : x < Vi.cap f) (hx : 127 < x) : ∃ g, f = g + 1 := by
  cases f with
  | zero => simp [Vi.cap] at h; omega
  | succ g => exact ⟨g, rfl⟩
theorem Vi.enc_small (f : Nat) {x : Int} (h : x < 128) : Vi.enc f x = [x] := by
  cases f with
  | zero => rfl
  | succ f => unfold Vi.enc; rw [if_pos h]
theorem Vi.enc_big (f : Nat) {x : Int} (h : 127 < x) : Vi.enc (f + 1) x = (x % 128 + 128) :: Vi.enc f (x / 128) := by
  rw [Vi.enc, if_neg (by omega)]
theorem Vi.enc_fits (f : Nat) : ∀ (x : Int), 0 ≤ x → x < Vi.cap f → ∀ b ∈ Vi.enc f x, 0 ≤ b ∧ b < 256 := by
  induction f with
  | zero => intro x h0 h1 b hb; simp [Vi.enc] at hb; simp [Vi.cap] at h1; omega
  | succ f ih =>
    intro x h0 h1 b hb
    by_cases c : x < 128
    · rw [Vi.enc_small _ c] at hb
      simp at hb
      omega
    · rw [Vi.enc_big f (by omega), List.mem_cons] at hb
      rcases hb with rfl | hb
      · omega
      · exact ih _ (by omega) (Vi.cap_div h1) b hb
theorem Vi.enc_len (f : Nat) : ∀ (x : Int), 1 ≤ (Vi.enc f x).length ∧ (Vi.enc f x).length ≤ f + 1 := by
  induction f with
  | zero => intro x; simp [Vi.enc]
  | succ f ih =>
    intro x
    unfold Vi.enc
    split
    · simp
    · have := ih (x / 128); simp; omega
theorem Vi.bytes_fits {x : Int} (h0 : 0 ≤ x) (h1 : x < 18446744073709551616) : ∀ b ∈ Vi.bytes x, 0 ≤ b ∧ b < 256 := Vi.enc_fits 9 x h0 (by rw [Vi.cap9]; exact h1)
theorem Vi.bytes_len (x : Int) : 1 ≤ (Vi.bytes x).length ∧ (Vi.bytes x).length ≤ 10 := Vi.enc_len 9 x
def Vi.all (l : List Int) : List Int := l.flatMap Vi.bytes
theorem Vi.all_snoc (l : List Int) (x : Int) : Vi.all (l ++ [x]) = Vi.all l ++ Vi.bytes x := by simp [Vi.all]
theorem Vi.all_len (l : List Int) : (Vi.all l).length ≤ l.length * 10 := by
  induction l with
  | nil => simp [Vi.all]
  | cons x l ih =>
    have := Vi.bytes_len x
    unfold Vi.all at *
    rw [List.flatMap_cons, List.length_append, List.length_cons]
    omega
theorem Vi.all_fits {l : List Int} (h : ∀ x ∈ l, 0 ≤ x ∧ x < 18446744073709551616) : ∀ b ∈ Vi.all l, 0 ≤ b ∧ b < 256 := by
  intro b hb
  obtain ⟨x, hx, hb⟩ := List.mem_flatMap.1 hb
  exact Vi.bytes_fits (h x hx).1 (h x hx).2 b hb

theorem str_app (a b : List Int) : strOfNums a ++ strOfNums b = strOfNums (a ++ b) := by
  apply ByteArray.ext
  simp [strOfNums]
theorem str_nil : strOfNums [] = ByteArray.empty := rfl
theorem str_inj {a b : List Int} (ha : ∀ x ∈ a, 0 ≤ x ∧ x < 256) (hb : ∀ x ∈ b, 0 ≤ x ∧ x < 256) (h : strOfNums a = strOfNums b) : a = b := by
  have h2 : a.map (fun n => UInt8.ofNat n.toNat) = b.map (fun n => UInt8.ofNat n.toNat) := by
    have := congrArg (fun s : ByteArray => s.data.toList) h
    simpa [strOfNums] using this
  have back : ∀ (l : List Int), (∀ x ∈ l, 0 ≤ x ∧ x < 256) → (l.map (fun n => UInt8.ofNat n.toNat)).map (fun u => (u.toNat : Int)) = l := by
    intro l hl
    rw [List.map_map]
    conv => rhs; rw [← List.map_id l]
    apply List.map_congr_left
    intro x hx
    have := hl x hx
    simp
    omega
  rw [← back a ha, ← back b hb, h2]
end Go.Proofs.Ytppciejcobmikaa
