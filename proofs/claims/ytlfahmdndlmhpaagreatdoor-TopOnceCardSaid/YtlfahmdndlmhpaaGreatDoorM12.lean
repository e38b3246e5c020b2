/- What is laid is taken off again, all of it, and one more is not there: plain. Numbers laid by so many bytes, the least first, and the bytes of a header: plain. A row of bytes into which is stored: what a loop over it keeps. -/
import Derived.Test.YtlfahmdndlmhpaaGreatDoorM07
import Derived.Test.YtlfahmdndlmhpaaGreatDoorM11
namespace Go.Proofs.YtlfahmdndlmhpaaGreatDoor
open Go.RowKit

theorem Vi.nums_app (s : ByteArray) {l : List Int} (h : ∀ b ∈ l, 0 ≤ b ∧ b < 256) : Vi.nums (s ++ strOfNums l) = Vi.nums s ++ l := by
  have h1 : s ++ strOfNums l = strOfNums (Vi.nums s ++ l) := by rw [← str_app, str_nums]
  have h2 : ∀ b ∈ Vi.nums s ++ l, 0 ≤ b ∧ b < 256 := by
    intro b hb
    rcases List.mem_append.1 hb with hb | hb
    · exact Vi.nums_fit s b hb
    · exact h b hb
  refine str_inj (Vi.nums_fit _) h2 ?_
  rw [str_nums, h1]
theorem Vi.all_cons (x : Int) (l : List Int) : Vi.all (x :: l) = Vi.bytes x ++ Vi.all l := by simp [Vi.all]
theorem Vi.rn_app {s : ByteArray} (k : Nat) : ∀ (l : List Int) (a : Nat), (∀ x ∈ l, 0 ≤ x ∧ x < 18446744073709551616) → a ≤ s.size → (∃ R, (Vi.nums s).drop a = Vi.all l ++ R) →
    Vi.rn s (l.length + k) a = (l ++ (Vi.rn s k ((a + (Vi.all l).length : Nat) : Int)).1, (Vi.rn s k ((a + (Vi.all l).length : Nat) : Int)).2) := by
  intro l
  induction l with
  | nil => intro a _ _ _; simp [Vi.all]
  | cons x l ih =>
    intro a hf ha hR
    obtain ⟨R, hR⟩ := hR
    have hx := hf x (by simp)
    obtain ⟨hv, ho⟩ := Vi.bytes_val hx.1 hx.2
    have hlen := Vi.bytes_len x
    rw [Vi.all_cons, List.append_assoc] at hR
    obtain ⟨r1, r2, r3⟩ := Vi.one_read (Vi.all l ++ R) ho (by rw [hv]; exact hx.2) hlen.2
    have ht : Vi.tl s (a : Int) = Vi.bytes x ++ (Vi.all l ++ R) := by rw [Vi.tl_drop, hR]
    rw [← ht] at r1 r2 r3
    have g1 : Vi.gb s (a : Int) 0 = 0 := by unfold Vi.gb; rw [if_pos rfl, if_pos ⟨by omega, by omega⟩, r1]
    have g2 : Vi.gx s (a : Int) 0 = x := by unfold Vi.gx; rw [if_pos g1, r3, hv]
    have g3 : Vi.ga s (a : Int) 0 = ((a + (Vi.bytes x).length : Nat) : Int) := by unfold Vi.ga; rw [if_pos g1, r2]; omega
    have hd : (Vi.nums s).drop (a + (Vi.bytes x).length) = Vi.all l ++ R := by rw [← List.drop_drop, hR, List.drop_left']; rfl
    have hs : a + (Vi.bytes x).length ≤ s.size := by
      have h1 := congrArg List.length hR
      rw [List.length_drop, Vi.nums_len, List.length_append] at h1
      omega
    have hi := ih (a + (Vi.bytes x).length) (fun y hy => hf y (List.mem_cons_of_mem _ hy)) hs ⟨R, hd⟩
    rw [show (x :: l).length + k = (l.length + k) + 1 by simp; omega, Vi.rn_yes g1, g2, g3, hi, Vi.all_cons, List.length_append, Nat.add_assoc]
    rfl
/-- a text of numbers behind any other: its numbers, and no more -/
theorem Vi.round (s : ByteArray) (l : List Int) (hf : ∀ x ∈ l, 0 ≤ x ∧ x < 18446744073709551616) (hl : l.length ≤ 65535) (t : ByteArray) (ht : t = s ++ strOfNums (Vi.all l)) :
    (Vi.tx t s.size 0 l.length = l ∧ Vi.ta t s.size 0 l.length = t.size ∧ Vi.tb t s.size 0 l.length = 0) ∧
    (Vi.tx t s.size 0 ((l.length : Int) + 1) = [] ∧ Vi.ta t s.size 0 ((l.length : Int) + 1) = t.size ∧ Vi.tb t s.size 0 ((l.length : Int) + 1) = 3) ∧ t.size = s.size + (Vi.all l).length := by
  have hz : t.size = s.size + (Vi.all l).length := by rw [ht, ByteArray.size_append, strOfNums_size]
  have hn : Vi.nums t = Vi.nums s ++ Vi.all l := by rw [ht]; exact Vi.nums_app s (Vi.all_fits hf)
  have hd : (Vi.nums t).drop s.size = Vi.all l := by rw [hn, ← Vi.nums_len s, List.drop_left]
  have hR : ∀ k, Vi.rn t (l.length + k) s.size = (l ++ (Vi.rn t k (t.size : Int)).1, (Vi.rn t k (t.size : Int)).2) := fun k => by
    rw [Vi.rn_app k l s.size hf (by omega) ⟨[], by rw [hd, List.append_nil]⟩, hz]
  have h0 : Vi.tok t s.size 0 l.length := ⟨rfl, by omega, by omega, by omega, by omega⟩
  have h1 : Vi.tok t s.size 0 ((l.length : Int) + 1) := ⟨rfl, by omega, by omega, by omega, by omega⟩
  have r0 := hR 0
  have r1 := hR 1
  have g : Vi.gb t (t.size : Int) 0 = 3 := by
    have he : Vi.tl t (t.size : Int) = [] := by rw [Vi.tl_drop, ← Vi.nums_len, List.drop_length]
    unfold Vi.gb
    rw [if_pos rfl, if_pos ⟨by omega, by omega⟩, he]
    rfl
  rw [Vi.rn_no (k := 0) (by rw [g]; decide), g] at r1
  have e0 : ((l.length : Nat) : Int).toNat = l.length + 0 := by omega
  have e1 : (((l.length : Nat) : Int) + 1).toNat = l.length + 1 := by omega
  have b0 : Vi.tb t s.size 0 l.length = 0 := by unfold Vi.tb; rw [if_pos h0, e0, r0]; rfl
  have b1 : Vi.tb t s.size 0 ((l.length : Int) + 1) = 3 := by unfold Vi.tb; rw [if_pos h1, e1, r1]
  refine ⟨⟨?_, ?_, b0⟩, ⟨?_, ?_, b1⟩, hz⟩
  · unfold Vi.tx; rw [if_pos b0, e0, r0]; simp [Vi.rn]
  · unfold Vi.ta; rw [if_pos h0, e0, r0]; rfl
  · unfold Vi.tx; rw [if_neg (by rw [b1]; decide)]
  · unfold Vi.ta; rw [if_pos h1, e1, r1]
theorem row64_slice {w : World} {B : Nat} {v : Value} {l : List Int} (h : Row64 w B v l) : ∃ A c, v = .slice A l.length c ∧ l.length ≤ c := by
  rcases Nat.eq_zero_or_pos l.length with h0 | h0
  · rcases h.2 with ⟨hv, _⟩ | ⟨g, cap, cur, hv, _, _, hc, _⟩
    · exact ⟨none, 0, by rw [hv, h0], by omega⟩
    · exact ⟨_, cap, hv, hc⟩
  · rcases h.2 with ⟨hv, hn⟩ | ⟨g, cap, cur, hv, _, _, hc, _⟩
    · exact absurd hn (by omega)
    · exact ⟨_, cap, hv, hc⟩

end Go.Proofs.YtlfahmdndlmhpaaGreatDoor
namespace Go.Proofs.YtlfahmdndlmhpaaGreatDoor
open Go.RowKit

def Lt.le : Nat → Int → List Int
  | 0, _ => []
  | n + 1, x => x % 256 :: Lt.le n (x / 256)
def Lt.val : List Int → Int
  | [] => 0
  | b :: r => b + 256 * Lt.val r
theorem Lt.le_len : ∀ (n : Nat) (x : Int), (Lt.le n x).length = n := by
  intro n
  induction n with
  | zero => intro x; rfl
  | succ n ih => intro x; rw [Lt.le, List.length_cons, ih]
theorem Lt.le_fit : ∀ (n : Nat) (x : Int), ∀ b ∈ Lt.le n x, 0 ≤ b ∧ b < 256 := by
  intro n
  induction n with
  | zero => intro x b hb; cases hb
  | succ n ih =>
    intro x b hb
    rw [Lt.le] at hb
    rcases List.mem_cons.1 hb with rfl | hb
    · omega
    · exact ih _ b hb
theorem Lt.val_le : ∀ (n : Nat) (x : Int), 0 ≤ x → x < (256 : Int) ^ n → Lt.val (Lt.le n x) = x := by
  intro n
  induction n with
  | zero => intro x h0 h1; simp at h1; simp [Lt.le, Lt.val]; omega
  | succ n ih =>
    intro x h0 h1
    rw [Int.pow_succ] at h1
    rw [Lt.le, Lt.val, ih (x / 256) (by omega) (by omega)]
    omega
theorem Lt.val_app (a : List Int) : ∀ b : List Int, Lt.val (a ++ b) = Lt.val a + (256 : Int) ^ a.length * Lt.val b := by
  induction a with
  | nil => intro b; simp [Lt.val]
  | cons c a ih =>
    intro b
    rw [List.cons_append, Lt.val, Lt.val, ih, List.length_cons, Int.pow_succ, Int.mul_add, ← Int.mul_assoc, Int.mul_comm 256 ((256 : Int) ^ a.length)]
    omega
theorem Lt.val_snoc (a : List Int) (b : Int) : Lt.val (a ++ [b]) = Lt.val a + (256 : Int) ^ a.length * b := by rw [Lt.val_app]; simp [Lt.val]
theorem Lt.val_bd {a : List Int} (h : ∀ b ∈ a, 0 ≤ b ∧ b < 256) : 0 ≤ Lt.val a ∧ Lt.val a < (256 : Int) ^ a.length := by
  induction a with
  | nil => simp [Lt.val]
  | cons c a ih =>
    have hc := h c (by simp)
    have := ih (fun b hb => h b (List.mem_cons_of_mem _ hb))
    rw [Lt.val, List.length_cons, Int.pow_succ]
    omega
theorem Lt.le_snoc : ∀ (n : Nat) (x : Int), Lt.le (n + 1) x = Lt.le n x ++ [x / (256 : Int) ^ n % 256] := by
  intro n
  induction n with
  | zero => intro x; simp [Lt.le]
  | succ n ih =>
    intro x
    rw [Lt.le, ih, Lt.le, Int.pow_succ, Int.mul_comm, ← Int.ediv_ediv_of_nonneg (by omega)]
    rfl

/-- a header's fields: how many bytes each, and its number -/
def Hd.fields (S : List Int) (a e c lo hi : Int) : List (Nat × Int) :=
  S.map (fun x => (8, x)) ++ [(8, a), (8, e), (8, c), (1, 1), (1, 1), (1, 1), (1, 0), (1, lo), (1, hi), (4, 2494967296), (4, 3444456009), (4, 1800000000), (4, 850511287), (1, lo), (4, 0), (4, 0)]
def Hd.magic : List Int := [80, 77, 84, 105, 108, 101, 115, 3]
def Hd.lay (F : List (Nat × Int)) : List Int := F.flatMap fun p => Lt.le p.1 p.2
def Hd.bytes (S : List Int) (a e c lo hi : Int) : List Int := Hd.magic ++ Hd.lay (Hd.fields S a e c lo hi)
theorem Hd.lay_fit (F : List (Nat × Int)) : ∀ b ∈ Hd.lay F, 0 ≤ b ∧ b < 256 := by
  intro b hb
  unfold Hd.lay at hb
  obtain ⟨p, _, hb⟩ := List.mem_flatMap.1 hb
  exact Lt.le_fit _ _ b hb
theorem Hd.lay_cons (p : Nat × Int) (F : List (Nat × Int)) : Hd.lay (p :: F) = Lt.le p.1 p.2 ++ Hd.lay F := by simp [Hd.lay]
theorem Hd.bytes_fit (S : List Int) (a e c lo hi : Int) : ∀ b ∈ Hd.bytes S a e c lo hi, 0 ≤ b ∧ b < 256 := by
  intro b hb
  unfold Hd.bytes at hb
  rcases List.mem_append.1 hb with hb | hb
  · unfold Hd.magic at hb
    simp at hb
    omega
  · exact Hd.lay_fit _ b hb
theorem Hd.lay_len (F : List (Nat × Int)) : (Hd.lay F).length = (F.map (·.1)).sum := by
  induction F with
  | nil => rfl
  | cons p F ih => rw [Hd.lay_cons, List.length_append, Lt.le_len, ih]; simp
theorem Hd.bytes_len {S : List Int} (hS : S.length = 8) (a e c lo hi : Int) : (Hd.bytes S a e c lo hi).length = 127 := by
  unfold Hd.bytes
  rw [List.length_append, Hd.lay_len]
  match S, hS with
  | [_, _, _, _, _, _, _, _], _ => simp [Hd.fields, Hd.magic]
end Go.Proofs.YtlfahmdndlmhpaaGreatDoor
namespace Go.Proofs.YtlfahmdndlmhpaaGreatDoor
open Go.RowKit

def Run8 (w : World) (g n : Nat) : Prop := ∃ cur, w.heap[g]? = some (.cells cur 5 (0, 0)) ∧ ∀ j, j < n → ∃ x : Int, 0 ≤ x ∧ x < 256 ∧ cur[j]? = some (.int .u8 x)
theorem Run8.cell {w : World} {g n k : Nat} (h : Run8 w g n) (hk : k < n) : ∃ x : Int, 0 ≤ x ∧ x < 256 ∧ w.cell? ⟨g, k, none⟩ = some (.int .u8 x) := by
  obtain ⟨cur, hh, hc⟩ := h
  obtain ⟨x, h0, h1, h2⟩ := hc k hk
  exact ⟨x, h0, h1, by rw [cell_of_row w g k cur _ (0, 0) hh, h2]⟩
theorem Run8.frz {w : World} {g n k : Nat} (h : Run8 w g n) : w.frozen? ⟨g, k, none⟩ = false := by
  obtain ⟨cur, hh, _⟩ := h
  simp [World.frozen?, hh]
theorem Run8.set {w : World} {g n k : Nat} {x : Int} (h : Run8 w g n) (h0 : 0 ≤ x) (h1 : x < 256) : Run8 (w.setCell ⟨g, k, none⟩ (.int .u8 x)) g n := by
  obtain ⟨cur, hh, hc⟩ := h
  refine ⟨cur.setIfInBounds k (.int .u8 x), by simp [World.setCell, Array.getElem?_modify, hh], fun j hj => ?_⟩
  obtain ⟨y, g0, g1, g2⟩ := hc j hj
  by_cases e : k = j
  · subst e
    refine ⟨x, h0, h1, ?_⟩
    have hlt := (Array.getElem?_eq_some_iff.1 g2).1
    rw [Array.getElem?_setIfInBounds_self_of_lt hlt]
  · exact ⟨y, g0, g1, by rw [Array.getElem?_setIfInBounds_ne e]; exact g2⟩
theorem row8_run {w : World} {B : Nat} {v : Value} {l : List Int} (h : Row8 w B v l) (h0 : 0 < l.length) (hf : ∀ x ∈ l, 0 ≤ x ∧ x < 256) : ∃ g cap, v = .slice (some ⟨g, 0, none⟩) l.length cap ∧ B ≤ g ∧ l.length ≤ cap ∧ Run8 w g l.length := by
  rcases h.2 with ⟨_, hn⟩ | ⟨g, cap, cur, hv, hg, hh, hc, hm, hs, ht⟩
  · omega
  · refine ⟨g, cap, hv, hg, hc, cur, hh, fun j hj => ?_⟩
    have hx := hf (l[j]'hj) (List.getElem_mem hj)
    refine ⟨l[j]'hj, hx.1, hx.2, ?_⟩
    have h1 : (l.map (Value.int .u8))[j]? = some (.int .u8 (l[j]'hj)) := by rw [List.getElem?_map, List.getElem?_eq_getElem hj]; rfl
    rw [← ht, List.getElem?_take] at h1
    split at h1
    · simpa using h1
    · cases h1
theorem run_keep2 {w w' : World} {g n : Nat} (hb : Below w.heap.size w w') (h : Run8 w g n) : Run8 w' g n := by
  obtain ⟨cur, hh, hc⟩ := h
  exact ⟨cur, blk_keep hh hb, hc⟩
theorem reads_keep2 {w w' : World} {B size n : Nat} {A : Option Addr} {xs : List Value} (hb : Below w.heap.size w w') (hB : B ≤ w.heap.size) (h : Reads w B size A n xs) : Reads w' B size A n xs :=
  h.keep fun _ hp => hb.cell (by omega)
end Go.Proofs.YtlfahmdndlmhpaaGreatDoor
