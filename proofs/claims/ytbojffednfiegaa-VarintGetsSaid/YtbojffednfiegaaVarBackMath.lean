/- What is laid is taken off again, and what is taken off is what is laid: plain. -/
import Derived.Test.YtbojffednfiegaaVarGetMath
import Derived.Test.YtbojffednfiegaaVarWrong
namespace Go.Proofs.Ytbojffednfiegaa
open Go.RowKit

/-- the bytes of one number: all but the last are 128 or more, the last one is less, and not 0 behind another -/
def Vi.one : List Int → Prop
  | [] => False
  | [b] => 0 ≤ b ∧ b < 128
  | b :: r => 128 ≤ b ∧ b < 256 ∧ Vi.one r ∧ 1 ≤ Vi.val r
theorem Vi.one_cons {b c : Int} {r : List Int} : Vi.one (b :: c :: r) ↔ 128 ≤ b ∧ b < 256 ∧ Vi.one (c :: r) ∧ 1 ≤ Vi.val (c :: r) := Iff.rfl
theorem Vi.one_mk {b : Int} {r : List Int} (h1 : 128 ≤ b) (h2 : b < 256) (h3 : Vi.one r) (h4 : 1 ≤ Vi.val r) : Vi.one (b :: r) := by
  cases r with
  | nil => exact h3.elim
  | cons c r => exact ⟨h1, h2, h3, h4⟩
theorem Vi.enc_val (f : Nat) : ∀ (x : Int), 0 ≤ x → x < Vi.cap f → Vi.val (Vi.enc f x) = x ∧ Vi.one (Vi.enc f x) := by
  have small : ∀ (f : Nat) (x : Int), 0 ≤ x → x < 128 → Vi.val (Vi.enc f x) = x ∧ Vi.one (Vi.enc f x) := by
    intro f x h0 h1
    rw [Vi.enc_small f h1]
    exact ⟨by simp [Vi.val]; omega, ⟨h0, h1⟩⟩
  induction f with
  | zero => intro x h0 h1; exact small 0 x h0 (by simp [Vi.cap] at h1; omega)
  | succ f ih =>
    intro x h0 h1
    by_cases c : x < 128
    · exact small _ x h0 c
    · rw [Vi.enc_big f (by omega)]
      obtain ⟨h2, h3⟩ := ih (x / 128) (by omega) (Vi.cap_div h1)
      exact ⟨by rw [Vi.val, h2]; omega, Vi.one_mk (by omega) (by omega) h3 (by rw [h2]; omega)⟩
theorem Vi.bytes_val {x : Int} (h0 : 0 ≤ x) (h1 : x < 18446744073709551616) : Vi.val (Vi.bytes x) = x ∧ Vi.one (Vi.bytes x) :=
  Vi.enc_val 9 x h0 (by rw [Vi.cap9]; exact h1)
theorem Vi.one_pos {M : List Int} (h : Vi.one M) : 0 < M.length := by
  cases M with
  | nil => exact h.elim
  | cons b r => simp
theorem Vi.one_lead (R : List Int) : ∀ (M : List Int), Vi.one M → Vi.lead (M ++ R) + 1 = M.length := by
  intro M
  induction M with
  | nil => intro h; exact h.elim
  | cons b r ih =>
    intro h
    cases r with
    | nil =>
      have h' : 0 ≤ b ∧ b < 128 := h
      rw [List.cons_append, Vi.lead_cons, if_neg (by omega)]; rfl
    | cons c r =>
      have h' := Vi.one_cons.1 h
      rw [List.cons_append, Vi.lead_cons, if_pos h'.1, ih h'.2.2.1]; rfl
/-- the last byte -/
theorem Vi.one_last : ∀ (M : List Int), Vi.one M → ∃ b, M[M.length - 1]? = some b ∧ 0 ≤ b ∧ b < 128 ∧ (1 < M.length → b ≠ 0) ∧ Vi.val M = Vi.val (M.take (M.length - 1)) + (128 : Int) ^ (M.length - 1) * b := by
  intro M
  induction M with
  | nil => intro h; exact h.elim
  | cons a r ih =>
    intro h
    cases r with
    | nil =>
      have h' : 0 ≤ a ∧ a < 128 := h
      exact ⟨a, rfl, h'.1, h'.2, by simp, by simp [Vi.val]; omega⟩
    | cons c r =>
      have h' := Vi.one_cons.1 h
      obtain ⟨b, h1, h2, h3, h4, h5⟩ := ih h'.2.2.1
      have hl : (a :: c :: r).length - 1 = ((c :: r).length - 1) + 1 := by simp
      refine ⟨b, by rw [hl]; exact h1, h2, h3, fun _ h0 => ?_, ?_⟩
      · subst h0
        cases r with
        | nil => have h6 := h'.2.2.2; simp [Vi.val] at h6 h1; omega
        | cons d r => exact h4 (by simp) rfl
      · have e1 : Vi.val (a :: c :: r) = a % 128 + 128 * Vi.val (c :: r) := rfl
        have e2 : ∀ T, Vi.val (a :: T) = a % 128 + 128 * Vi.val T := fun _ => rfl
        rw [hl, List.take_succ_cons, e1, e2, h5, Int.pow_succ, Int.mul_add, ← Int.mul_assoc 128, Int.mul_comm 128 ((128 : Int) ^ _)]
        omega
/-- a text that begins with a number's bytes -/
theorem Vi.one_read {M : List Int} (R : List Int) (h : Vi.one M) (hv : Vi.val M < 18446744073709551616) (hl : M.length ≤ 10) : Vi.wr (M ++ R) = 0 ∧ Vi.wn (M ++ R) = M.length ∧ Vi.num (M ++ R) = Vi.val M := by
  have h1 := Vi.one_lead R M h
  have h0 := Vi.one_pos h
  obtain ⟨b, h2, h3, h4, h5, h6⟩ := Vi.one_last M h
  have h7 : (M ++ R)[M.length - 1]? = some b := by rw [List.getElem?_append_left (by omega)]; exact h2
  have h8 := Vi.wr_fine (L := M ++ R) (n := M.length - 1) (b := b) (by omega) (by omega) h7 (fun h9 => ?_) (fun h9 => h5 (by omega))
  · have h9 : M.length - 1 + 1 = M.length := by omega
    rw [h9] at h8
    exact ⟨h8.1, h8.2, by unfold Vi.num; rw [h8.2, List.take_left']; rfl⟩
  · rw [h9] at h6
    have h10 := Vi.val_ge (M.take 9)
    have h11 : (128 : Int) ^ 9 = 9223372036854775808 := by decide
    rw [h11] at h6
    omega
/-- what was taken off is what is laid -/
theorem Vi.one_enc (f : Nat) : ∀ (M : List Int), Vi.one M → M.length ≤ f + 1 → Vi.enc f (Vi.val M) = M := by
  induction f with
  | zero =>
    intro M h hl
    cases M with
    | nil => exact h.elim
    | cons a r =>
      cases r with
      | nil => have h' : 0 ≤ a ∧ a < 128 := h; simp [Vi.enc, Vi.val]; omega
      | cons c r => simp at hl
  | succ f ih =>
    intro M h hl
    cases M with
    | nil => exact h.elim
    | cons a r =>
      cases r with
      | nil =>
        have h' : 0 ≤ a ∧ a < 128 := h
        have hv : Vi.val [a] = a := by simp [Vi.val]; omega
        rw [hv, Vi.enc_small _ h'.2]
      | cons c r =>
        have h' := Vi.one_cons.1 h
        have hi := ih (c :: r) h'.2.2.1 (by simp at hl ⊢; omega)
        have hv : Vi.val (a :: c :: r) = a % 128 + 128 * Vi.val (c :: r) := rfl
        rw [hv, Vi.enc_big f (by omega), show (a % 128 + 128 * Vi.val (c :: r)) / 128 = Vi.val (c :: r) by omega, hi, show (a % 128 + 128 * Vi.val (c :: r)) % 128 + 128 = a by omega]
theorem Vi.one_of {L : List Int} (hf : ∀ b ∈ L, 0 ≤ b ∧ b < 256) : ∀ (n : Nat) (b : Int), Vi.lead L = n → L[n]? = some b → (0 < n → b ≠ 0) → Vi.one (L.take (n + 1)) ∧ (0 < n → 1 ≤ Vi.val (L.take (n + 1))) := by
  induction L with
  | nil => intro n b _ h; simp at h
  | cons a r ih =>
    intro n b hn hb h0
    rw [Vi.lead_cons] at hn
    have ha := hf a (by simp)
    by_cases c : 128 ≤ a
    · rw [if_pos c] at hn
      cases n with
      | zero => omega
      | succ n =>
        have hb' : r[n]? = some b := by simpa using hb
        have hi := ih (fun x hx => hf x (List.mem_cons_of_mem _ hx)) n b (by omega) hb' (fun _ => h0 (by omega))
        have hv : 1 ≤ Vi.val (r.take (n + 1)) := by
          cases n with
          | succ n => exact hi.2 (by omega)
          | zero =>
            have hb2 : b ≠ 0 := h0 (by omega)
            have hlast : Vi.one (r.take 1) := hi.1
            cases r with
            | nil => simp at hb'
            | cons d r =>
              simp at hb'
              subst hb'
              have h9 : 0 ≤ d ∧ d < 128 := hlast
              simp [Vi.val]
              omega
        rw [List.take_succ_cons]
        exact ⟨Vi.one_mk c ha.2 hi.1 hv, fun _ => by rw [Vi.val]; omega⟩
    · rw [if_neg c] at hn
      subst hn
      simp at hb
      subst hb
      exact ⟨by simp only [Nat.zero_add, List.take_succ_cons, List.take_zero]; exact ⟨ha.1, by omega⟩, fun h => absurd h (by omega)⟩
theorem Vi.num_bytes {L : List Int} (hf : ∀ b ∈ L, 0 ≤ b ∧ b < 256) (h : Vi.wr L = 0) : Vi.bytes (Vi.num L) = L.take (Vi.wn L) := by
  obtain ⟨h1, h2, h3, h4⟩ := Vi.wr_ok h
  have hn : Vi.wn L = Vi.lead L + 1 := by unfold Vi.wn; rw [if_pos h]
  have hb : L[Vi.lead L]? = some (L[Vi.lead L]'h2) := List.getElem?_eq_getElem h2
  have hg : L.getD (Vi.lead L) 0 = L[Vi.lead L]'h2 := by rw [List.getD_eq_getElem?_getD, hb]; rfl
  have ho := (Vi.one_of hf _ _ rfl hb (fun h5 => by rw [← hg]; exact h4 h5)).1
  unfold Vi.num Vi.bytes
  rw [hn]
  exact Vi.one_enc 9 _ ho (by rw [List.length_take]; omega)

/-- a text's own bytes, laid -/
theorem str_nums (s : ByteArray) : strOfNums (Vi.nums s) = s := by
  apply ByteArray.ext
  apply Array.toList_inj.1
  rw [strOfNums_data]
  unfold Vi.nums
  rw [List.map_map]
  conv => rhs; rw [← List.map_id s.data.toList]
  apply List.map_congr_left
  intro u _
  simp
theorem str_take (s : ByteArray) (n : Nat) : strOfNums ((Vi.nums s).take n) = s.extract 0 n := by
  rw [← str_nums (s.extract 0 n)]
  congr 1
  unfold Vi.nums
  rw [← List.map_take, ByteArray.data_extract, Array.toList_extract, List.extract_eq_take_drop]
  simp
end Go.Proofs.Ytbojffednfiegaa
