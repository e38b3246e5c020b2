/- Keys as texts: bytes of digits, and what is told of any text. -/
import Derived.Test.YtdipincjginmcaaDoorQuadMath
import Derived.Test.YtdipincjginmcaaDoorWords
import Derived.Test.YtdipincjginmcaaDoorShelf
namespace Go.Proofs.YtdipincjginmcaaDoor
open Go.RowKit

def Qs.kt (l : List Nat) : ByteArray := ⟨(l.map (fun d => UInt8.ofNat (48 + d))).toArray⟩
def Qs.ok (b : UInt8) : Bool := decide (48 ≤ b.toNat ∧ b.toNat ≤ 51)
def Qs.good (s : ByteArray) : Bool := s.data.toList.all Qs.ok
def Qs.dg (s : ByteArray) : List Nat := s.data.toList.map (fun b => b.toNat - 48)
def Qs.pc (s : ByteArray) : Int := if Qs.good s = true then (if 26 < s.size then 5 else 0) else 4
def Qs.pz (s : ByteArray) : Int := if Qs.pc s = 0 then (s.size : Int) else 0
def Qs.px (s : ByteArray) : Int := if Qs.pc s = 0 then ((Qk.pt (Qs.dg s)).1 : Int) else 0
def Qs.py (s : ByteArray) : Int := if Qs.pc s = 0 then ((Qk.pt (Qs.dg s)).2 : Int) else 0

theorem Qs.kt_size (l : List Nat) : (Qs.kt l).size = l.length := by simp [Qs.kt, ByteArray.size]
theorem Qs.kt_bytes (l : List Nat) : (Qs.kt l).data.toList = l.map (fun d => UInt8.ofNat (48 + d)) := by simp [Qs.kt]
theorem Qs.byte_dig {d : Nat} (h : d < 4) : (UInt8.ofNat (48 + d)).toNat = 48 + d := by simp; omega
theorem Qs.kt_good {l : List Nat} (h : ∀ d ∈ l, d < 4) : Qs.good (Qs.kt l) = true := by
  unfold Qs.good
  rw [Qs.kt_bytes, List.all_map, List.all_eq_true]
  intro d hd
  simp only [Function.comp, Qs.ok, decide_eq_true_eq]
  rw [Qs.byte_dig (h d hd)]
  have := h d hd
  omega
theorem Qs.kt_dg {l : List Nat} (h : ∀ d ∈ l, d < 4) : Qs.dg (Qs.kt l) = l := by
  unfold Qs.dg
  rw [Qs.kt_bytes, List.map_map]
  conv => rhs; rw [← List.map_id l]
  refine List.map_congr_left fun d hd => ?_
  simp only [Function.comp, id]
  rw [Qs.byte_dig (h d hd)]
  omega
theorem Qs.dg_len (s : ByteArray) : (Qs.dg s).length = s.size := by unfold Qs.dg; rw [List.length_map, Array.length_toList]; rfl
theorem Qs.dg_lt {s : ByteArray} (h : Qs.good s = true) : ∀ d ∈ Qs.dg s, d < 4 := by
  intro d hd
  obtain ⟨b, hb, rfl⟩ := List.mem_map.1 hd
  have := of_decide_eq_true (List.all_eq_true.1 h b hb)
  omega
theorem Qs.dg_kt {s : ByteArray} (h : Qs.good s = true) : Qs.kt (Qs.dg s) = s := by
  unfold Qs.kt Qs.dg
  rw [List.map_map]
  have e : s.data.toList.map ((fun d => UInt8.ofNat (48 + d)) ∘ fun b => b.toNat - 48) = s.data.toList := by
    conv => rhs; rw [← List.map_id s.data.toList]
    refine List.map_congr_left fun b hb => ?_
    have hk := of_decide_eq_true (List.all_eq_true.1 h b hb)
    simp only [Function.comp, id]
    rw [show 48 + (b.toNat - 48) = b.toNat by omega]
    simp
  rw [e]
theorem Qs.good_at {s : ByteArray} (h : Qs.good s = true) (i : Nat) (hi : i < s.size) : 48 ≤ (s[i]'hi).toNat ∧ (s[i]'hi).toNat ≤ 51 := by
  refine of_decide_eq_true (List.all_eq_true.1 h (s[i]'hi) ?_)
  have : s[i]'hi = s.data.toList[i]'(by rw [Array.length_toList]; exact hi) := rfl
  rw [this]
  exact List.getElem_mem _
theorem Qs.dg_at {s : ByteArray} (i : Nat) (hi : i < s.size) : (Qs.dg s)[i]'(by rw [Qs.dg_len]; exact hi) = (s[i]'hi).toNat - 48 := by
  unfold Qs.dg
  rw [List.getElem_map]; rfl
/-- a text that is none has a byte that is no digit -/
theorem Qs.bad_at {s : ByteArray} (h : Qs.good s = false) : ∃ (i : Nat) (hi : i < s.size), ¬ (48 ≤ (s[i]'hi).toNat ∧ (s[i]'hi).toNat ≤ 51) ∧ ∀ j (hj : j < i), (48 ≤ (s[j]'(by omega)).toNat ∧ (s[j]'(by omega)).toNat ≤ 51) := by
  have h1 : ∃ i, ∃ hi : i < s.size, ¬ (48 ≤ (s[i]'hi).toNat ∧ (s[i]'hi).toNat ≤ 51) := by
    unfold Qs.good at h
    rw [List.all_eq_false] at h
    obtain ⟨b, hb, hbo⟩ := h
    obtain ⟨i, hi, rfl⟩ := List.mem_iff_getElem.1 hb
    rw [Array.length_toList] at hi
    refine ⟨i, hi, ?_⟩
    have h2 : Qs.ok (s[i]'hi) = false := by have h3 : ¬ Qs.ok (s[i]'hi) = true := hbo; exact (Bool.not_eq_true _).mp h3
    exact of_decide_eq_false h2
  have key : ∀ n, (∃ i, i ≤ n ∧ ∃ hi : i < s.size, ¬ (48 ≤ (s[i]'hi).toNat ∧ (s[i]'hi).toNat ≤ 51)) → ∃ (i : Nat) (hi : i < s.size), ¬ (48 ≤ (s[i]'hi).toNat ∧ (s[i]'hi).toNat ≤ 51) ∧ ∀ j (hj : j < i), (48 ≤ (s[j]'(by omega)).toNat ∧ (s[j]'(by omega)).toNat ≤ 51) := by
    intro n
    induction n with
    | zero =>
      rintro ⟨i, hn, hi, hb⟩
      exact ⟨i, hi, hb, fun j hj => by omega⟩
    | succ n ih =>
      rintro ⟨i, hn, hi, hb⟩
      by_cases e : ∃ j, j ≤ n ∧ ∃ hj : j < s.size, ¬ (48 ≤ (s[j]'hj).toNat ∧ (s[j]'hj).toNat ≤ 51)
      · exact ih e
      · refine ⟨i, hi, hb, fun j hj => ?_⟩
        rcases Decidable.em (48 ≤ (s[j]'(by omega)).toNat ∧ (s[j]'(by omega)).toNat ≤ 51) with q | q
        · exact q
        · exact absurd ⟨j, by omega, by omega, q⟩ e
  obtain ⟨i, hi, hb⟩ := h1
  exact key i ⟨i, Nat.le_refl _, hi, hb⟩
theorem Qs.in_set (b : UInt8) : ([48, 49, 50, 51] : List UInt8).contains b = Qs.ok b := by
  have e : ∀ c : UInt8, b = c ↔ b.toNat = c.toNat := fun c => UInt8.toNat_inj.symm
  rw [Bool.eq_iff_iff]
  unfold Qs.ok
  rw [decide_eq_true_eq, List.contains_iff_mem]
  simp only [List.mem_cons, List.not_mem_nil, or_false, e]
  have a0 : (48 : UInt8).toNat = 48 := rfl
  have a1 : (49 : UInt8).toNat = 49 := rfl
  have a2 : (50 : UInt8).toNat = 50 := rfl
  have a3 : (51 : UInt8).toNat = 51 := rfl
  rw [a0, a1, a2, a3]
  omega
theorem drop_all {p : UInt8 → Bool} (l : List UInt8) : l.dropWhile p = [] ↔ l.all p = true := by
  induction l with
  | nil => simp
  | cons a l ih =>
    rw [List.dropWhile_cons, List.all_cons]
    by_cases h : p a = true
    · rw [if_pos h, ih, h]; simp
    · rw [if_neg h]; simp [h]
theorem Qs.trim_nil (s : ByteArray) : Lib.trimS s.data.toList [48, 49, 50, 51] = [] ↔ Qs.good s = true := by
  have e : (fun b : UInt8 => ([48, 49, 50, 51] : List UInt8).contains b) = Qs.ok := funext Qs.in_set
  unfold Lib.trimS Lib.trimLeftS Lib.trimRightS Qs.good
  rw [e, drop_all]
  constructor
  · intro h
    rw [List.all_reverse] at h
    have h2 : (s.data.toList.reverse.dropWhile Qs.ok) = [] := by
      rcases hc : s.data.toList.reverse.dropWhile Qs.ok with _ | ⟨a, t⟩
      · rfl
      · exfalso
        have h3 := List.head_dropWhile_not Qs.ok (l := s.data.toList.reverse) (by rw [hc]; simp)
        rw [hc] at h
        simp only [hc, List.head_cons] at h3
        rw [List.all_cons, h3] at h
        cases h
    have h4 := (drop_all _).1 h2
    rwa [List.all_reverse] at h4
  · intro h
    have h2 : (s.data.toList.reverse.dropWhile Qs.ok) = [] := (drop_all _).2 (by rw [List.all_reverse]; exact h)
    rw [h2]; rfl
end Go.Proofs.YtdipincjginmcaaDoor
