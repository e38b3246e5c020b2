/- What is laid is taken off again, all of it, and one more is not there: plain. -/
import Derived.Test.YtbojffednfiegaaVarBackMath
import Derived.Test.YtbojffednfiegaaVarTake
namespace Go.Proofs.Ytbojffednfiegaa
open Go.RowKit

theorem Vi.nums_app (s : ByteArray) {l : List Int} (h : ∀ b ∈ l, 0 ≤ b ∧ b < 256) : Vi.nums (s ++ strOfNums l) = Vi.nums s ++ l := by
  have h1 : s ++ strOfNums l = strOfNums (Vi.nums s ++ l) := by rw [← str_app, str_nums]
  have h2 : ∀ b ∈ Vi.nums s ++ l, 0 ≤ b ∧ b < 256 := by
    intro b hb
    rcases List.mem_append.1 hb with hb | hb
    · exact Vi.nums_fit s b hb
    · exact h b hb
  refine str_inj (Vi.nums_fit _) h2 ?_
  rw [str_nums, h1]
theorem Vi.all_cons (x : Int) (l : List Int) : Vi.all (x :: l) = Vi.bytes x ++ Vi.all l := by simp [Vi.all]
theorem Vi.rn_app {s : ByteArray} (k : Nat) : ∀ (l : List Int) (a : Nat), (∀ x ∈ l, 0 ≤ x ∧ x < 18446744073709551616) → a ≤ s.size → (∃ R, (Vi.nums s).drop a = Vi.all l ++ R) →
    Vi.rn s (l.length + k) a = (l ++ (Vi.rn s k ((a + (Vi.all l).length : Nat) : Int)).1, (Vi.rn s k ((a + (Vi.all l).length : Nat) : Int)).2) := by
  intro l
  induction l with
  | nil => intro a _ _ _; simp [Vi.all]
  | cons x l ih =>
    intro a hf ha hR
    obtain ⟨R, hR⟩ := hR
    have hx := hf x (by simp)
    obtain ⟨hv, ho⟩ := Vi.bytes_val hx.1 hx.2
    have hlen := Vi.bytes_len x
    rw [Vi.all_cons, List.append_assoc] at hR
    obtain ⟨r1, r2, r3⟩ := Vi.one_read (Vi.all l ++ R) ho (by rw [hv]; exact hx.2) hlen.2
    have ht : Vi.tl s (a : Int) = Vi.bytes x ++ (Vi.all l ++ R) := by rw [Vi.tl_drop, hR]
    rw [← ht] at r1 r2 r3
    have g1 : Vi.gb s (a : Int) 0 = 0 := by unfold Vi.gb; rw [if_pos rfl, if_pos ⟨by omega, by omega⟩, r1]
    have g2 : Vi.gx s (a : Int) 0 = x := by unfold Vi.gx; rw [if_pos g1, r3, hv]
    have g3 : Vi.ga s (a : Int) 0 = ((a + (Vi.bytes x).length : Nat) : Int) := by unfold Vi.ga; rw [if_pos g1, r2]; omega
    have hd : (Vi.nums s).drop (a + (Vi.bytes x).length) = Vi.all l ++ R := by rw [← List.drop_drop, hR, List.drop_left']; rfl
    have hs : a + (Vi.bytes x).length ≤ s.size := by
      have h1 := congrArg List.length hR
      rw [List.length_drop, Vi.nums_len, List.length_append] at h1
      omega
    have hi := ih (a + (Vi.bytes x).length) (fun y hy => hf y (List.mem_cons_of_mem _ hy)) hs ⟨R, hd⟩
    rw [show (x :: l).length + k = (l.length + k) + 1 by simp; omega, Vi.rn_yes g1, g2, g3, hi, Vi.all_cons, List.length_append, Nat.add_assoc]
    rfl
/-- a text of numbers behind any other: its numbers, and no more -/
theorem Vi.round (s : ByteArray) (l : List Int) (hf : ∀ x ∈ l, 0 ≤ x ∧ x < 18446744073709551616) (hl : l.length ≤ 65535) (t : ByteArray) (ht : t = s ++ strOfNums (Vi.all l)) :
    (Vi.tx t s.size 0 l.length = l ∧ Vi.ta t s.size 0 l.length = t.size ∧ Vi.tb t s.size 0 l.length = 0) ∧
    (Vi.tx t s.size 0 ((l.length : Int) + 1) = [] ∧ Vi.ta t s.size 0 ((l.length : Int) + 1) = t.size ∧ Vi.tb t s.size 0 ((l.length : Int) + 1) = 3) ∧ t.size = s.size + (Vi.all l).length := by
  have hz : t.size = s.size + (Vi.all l).length := by rw [ht, ByteArray.size_append, strOfNums_size]
  have hn : Vi.nums t = Vi.nums s ++ Vi.all l := by rw [ht]; exact Vi.nums_app s (Vi.all_fits hf)
  have hd : (Vi.nums t).drop s.size = Vi.all l := by rw [hn, ← Vi.nums_len s, List.drop_left]
  have hR : ∀ k, Vi.rn t (l.length + k) s.size = (l ++ (Vi.rn t k (t.size : Int)).1, (Vi.rn t k (t.size : Int)).2) := fun k => by
    rw [Vi.rn_app k l s.size hf (by omega) ⟨[], by rw [hd, List.append_nil]⟩, hz]
  have h0 : Vi.tok t s.size 0 l.length := ⟨rfl, by omega, by omega, by omega, by omega⟩
  have h1 : Vi.tok t s.size 0 ((l.length : Int) + 1) := ⟨rfl, by omega, by omega, by omega, by omega⟩
  have r0 := hR 0
  have r1 := hR 1
  have g : Vi.gb t (t.size : Int) 0 = 3 := by
    have he : Vi.tl t (t.size : Int) = [] := by rw [Vi.tl_drop, ← Vi.nums_len, List.drop_length]
    unfold Vi.gb
    rw [if_pos rfl, if_pos ⟨by omega, by omega⟩, he]
    rfl
  rw [Vi.rn_no (k := 0) (by rw [g]; decide), g] at r1
  have e0 : ((l.length : Nat) : Int).toNat = l.length + 0 := by omega
  have e1 : (((l.length : Nat) : Int) + 1).toNat = l.length + 1 := by omega
  have b0 : Vi.tb t s.size 0 l.length = 0 := by unfold Vi.tb; rw [if_pos h0, e0, r0]; rfl
  have b1 : Vi.tb t s.size 0 ((l.length : Int) + 1) = 3 := by unfold Vi.tb; rw [if_pos h1, e1, r1]
  refine ⟨⟨?_, ?_, b0⟩, ⟨?_, ?_, b1⟩, hz⟩
  · unfold Vi.tx; rw [if_pos b0, e0, r0]; simp [Vi.rn]
  · unfold Vi.ta; rw [if_pos h0, e0, r0]; rfl
  · unfold Vi.tx; rw [if_neg (by rw [b1]; decide)]
  · unfold Vi.ta; rw [if_pos h1, e1, r1]
theorem row64_slice {w : World} {B : Nat} {v : Value} {l : List Int} (h : Row64 w B v l) : ∃ A c, v = .slice A l.length c ∧ l.length ≤ c := by
  rcases Nat.eq_zero_or_pos l.length with h0 | h0
  · rcases h.2 with ⟨hv, _⟩ | ⟨g, cap, cur, hv, _, _, hc, _⟩
    · exact ⟨none, 0, by rw [hv, h0], by omega⟩
    · exact ⟨_, cap, hv, hc⟩
  · rcases h.2 with ⟨hv, hn⟩ | ⟨g, cap, cur, hv, _, _, hc, _⟩
    · exact absurd hn (by omega)
    · exact ⟨_, cap, hv, hc⟩

end Go.Proofs.Ytbojffednfiegaa
