/- Numbers taken off bytes: plain. Contents that are kept once, in order: where each stands; plain. Scans: the small functions. -/
import Derived.Test.YtlfahmdndlmhpaaGreatDoorM04
import Derived.Laws.BitsAllLaws
import Derived.RegionTactic
import Derived.IntWalk
namespace Go.Proofs.YtlfahmdndlmhpaaGreatDoor
open Go.RowKit

/-- a text's bytes as numbers -/
def Vi.nums (t : ByteArray) : List Int := t.data.toList.map fun u => (u.toNat : Int)
theorem Vi.nums_len (t : ByteArray) : (Vi.nums t).length = t.size := by unfold Vi.nums; rw [List.length_map, Array.length_toList]; rfl
theorem Vi.nums_at (t : ByteArray) (i : Nat) (h : i < t.size) : (Vi.nums t)[i]? = some ((t[i]'h).toNat : Int) := by
  unfold Vi.nums
  rw [List.getElem?_map, List.getElem?_eq_getElem (by rw [Array.length_toList]; exact h)]
  rfl
theorem Vi.nums_fit (t : ByteArray) : ∀ b ∈ Vi.nums t, 0 ≤ b ∧ b < 256 := by
  intro b hb
  obtain ⟨u, _, rfl⟩ := List.mem_map.1 hb
  have := u.toNat_lt
  omega
/-- how many bytes, from the first, are 128 or more -/
def Vi.lead : List Int → Nat
  | [] => 0
  | b :: r => if 128 ≤ b then Vi.lead r + 1 else 0
theorem Vi.lead_cons (b : Int) (r : List Int) : Vi.lead (b :: r) = if 128 ≤ b then Vi.lead r + 1 else 0 := rfl
theorem Vi.lead_le (L : List Int) : Vi.lead L ≤ L.length := by
  induction L with
  | nil => simp [Vi.lead]
  | cons b r ih => unfold Vi.lead; split <;> simp; omega
theorem Vi.lead_more (L : List Int) : ∀ (n : Nat) (b : Int), n ≤ Vi.lead L → L[n]? = some b → 128 ≤ b → n + 1 ≤ Vi.lead L := by
  induction L with
  | nil => intro n b _ h; simp at h
  | cons a r ih =>
    intro n b hn h hb
    rw [Vi.lead_cons] at hn ⊢
    cases n with
    | zero => simp at h; subst h; rw [if_pos hb]; omega
    | succ n =>
      split at hn
      · rename_i h2
        rw [if_pos h2]
        have := ih n b (by omega) (by simpa using h) hb
        omega
      · omega
theorem Vi.lead_stop (L : List Int) : ∀ (n : Nat) (b : Int), n ≤ Vi.lead L → L[n]? = some b → b < 128 → Vi.lead L = n := by
  induction L with
  | nil => intro n b _ h; simp at h
  | cons a r ih =>
    intro n b hn h hb
    rw [Vi.lead_cons] at hn ⊢
    cases n with
    | zero => simp at h; subst h; rw [if_neg (by omega)]
    | succ n =>
      split at hn
      · rename_i h2
        rw [if_pos h2]
        have := ih n b (by omega) (by simpa using h) hb
        omega
      · omega
/-- what is wrong with the first number, and how many bytes it has -/
def Vi.wr (L : List Int) : Int := if 10 ≤ Vi.lead L then 11 else if Vi.lead L = L.length then 3 else if Vi.lead L = 9 ∧ 1 < L.getD 9 0 then 11 else if 0 < Vi.lead L ∧ L.getD (Vi.lead L) 0 = 0 then 4 else 0
def Vi.wn (L : List Int) : Nat := if Vi.wr L = 0 then Vi.lead L + 1 else 0
def Vi.val : List Int → Int
  | [] => 0
  | b :: r => b % 128 + 128 * Vi.val r
def Vi.num (L : List Int) : Int := Vi.val (L.take (Vi.wn L))

theorem Vi.wr_ok {L : List Int} (h : Vi.wr L = 0) : Vi.lead L < 10 ∧ Vi.lead L < L.length ∧ (Vi.lead L = 9 → L.getD 9 0 ≤ 1) ∧ (0 < Vi.lead L → L.getD (Vi.lead L) 0 ≠ 0) := by
  have h1 := Vi.lead_le L
  unfold Vi.wr at h
  by_cases c1 : 10 ≤ Vi.lead L
  · rw [if_pos c1] at h; omega
  rw [if_neg c1] at h
  by_cases c2 : Vi.lead L = L.length
  · rw [if_pos c2] at h; omega
  rw [if_neg c2] at h
  by_cases c3 : Vi.lead L = 9 ∧ 1 < L.getD 9 0
  · rw [if_pos c3] at h; omega
  rw [if_neg c3] at h
  by_cases c4 : 0 < Vi.lead L ∧ L.getD (Vi.lead L) 0 = 0
  · rw [if_pos c4] at h; omega
  refine ⟨by omega, by omega, fun h9 => ?_, fun h0 h00 => c4 ⟨h0, h00⟩⟩
  by_cases h10 : 1 < L.getD 9 0
  · exact absurd ⟨h9, h10⟩ c3
  · omega
theorem Vi.wn_le (L : List Int) : Vi.wn L ≤ L.length ∧ Vi.wn L ≤ 10 := by
  unfold Vi.wn
  split
  · rename_i h
    have := Vi.wr_ok h
    omega
  · omega
theorem Vi.val_ge (L : List Int) : 0 ≤ Vi.val L := by
  induction L with
  | nil => simp [Vi.val]
  | cons b r ih => unfold Vi.val; omega
theorem Vi.val_lt (L : List Int) : Vi.val L < (128 : Int) ^ L.length := by
  induction L with
  | nil => simp [Vi.val]
  | cons b r ih => unfold Vi.val; rw [List.length_cons, Int.pow_succ]; omega
theorem Vi.val_app (L M : List Int) : Vi.val (L ++ M) = Vi.val L + (128 : Int) ^ L.length * Vi.val M := by
  induction L with
  | nil => simp [Vi.val]
  | cons b r ih =>
    rw [List.cons_append, Vi.val, Vi.val, ih, List.length_cons, Int.pow_succ, Int.mul_add, ← Int.mul_assoc, Int.mul_comm 128 ((128 : Int) ^ r.length)]
    omega
theorem Vi.val_snoc (L : List Int) (b : Int) : Vi.val (L ++ [b]) = Vi.val L + (128 : Int) ^ L.length * (b % 128) := by
  rw [Vi.val_app]; simp [Vi.val]
theorem Vi.val_drop (L : List Int) : ∀ k, Vi.val (L.drop k) ≤ Vi.val L := by
  induction L with
  | nil => intro k; simp
  | cons b r ih =>
    intro k
    cases k with
    | zero => simp
    | succ k =>
      have h1 := ih k
      have h2 := Vi.val_ge r
      rw [List.drop_succ_cons, Vi.val]
      omega
theorem Vi.val_step (L : List Int) (k : Nat) (b : Int) (h : L[k]? = some b) : Vi.val (L.drop k) = b % 128 + 128 * Vi.val (L.drop (k + 1)) := by
  have hk : k < L.length := (List.getElem?_eq_some_iff.1 h).1
  have hb : L[k]'hk = b := (List.getElem?_eq_some_iff.1 h).2
  rw [List.drop_eq_getElem_cons hk, Vi.val, hb]
/-- the number fits -/
theorem Vi.num_lt {L : List Int} (hf : ∀ b ∈ L, 0 ≤ b ∧ b < 256) : Vi.num L < 18446744073709551616 := by
  unfold Vi.num Vi.wn
  split
  · rename_i h
    obtain ⟨h1, h2, h3, _⟩ := Vi.wr_ok h
    rcases Nat.lt_or_ge (Vi.lead L) 9 with h9 | h9
    · have hv := Vi.val_lt (L.take (Vi.lead L + 1))
      have hl : (L.take (Vi.lead L + 1)).length ≤ 9 := by rw [List.length_take]; omega
      have hp : (128 : Int) ^ (L.take (Vi.lead L + 1)).length ≤ (128 : Int) ^ 9 := by
        have := Nat.pow_le_pow_right (n := 128) (by omega) hl
        exact_mod_cast this
      have h128 : (128 : Int) ^ 9 = 9223372036854775808 := by decide
      omega
    · have hl9 : Vi.lead L = 9 := by omega
      rw [hl9] at h2 ⊢
      have h10 := h3 hl9
      rw [List.getD_eq_getElem?_getD, List.getElem?_eq_getElem h2] at h10
      simp at h10
      rw [List.take_succ_eq_append_getElem h2, Vi.val_snoc]
      have hv := Vi.val_lt (L.take 9)
      have hl : (L.take 9).length = 9 := by rw [List.length_take]; omega
      rw [hl] at hv ⊢
      have h128 : (128 : Int) ^ 9 = 9223372036854775808 := by decide
      have hb := hf _ (List.getElem_mem h2)
      omega
  · simp [Vi.val]
theorem Vi.num_ge (L : List Int) : 0 ≤ Vi.num L := Vi.val_ge _
/-- the bits of the next byte are laid over those that are there -/
theorem or_over {x y : Int} {n : Nat} (h0 : 0 ≤ x) (h1 : x < (2 : Int) ^ n) (h2 : 0 ≤ y) (h3 : y * (2 : Int) ^ n < 18446744073709551616) (h4 : x < 18446744073709551616) :
    bits .or .u64 x (y * (2 : Int) ^ n) = x + y * (2 : Int) ^ n := by
  obtain ⟨a, rfl⟩ := Int.eq_ofNat_of_zero_le h0
  obtain ⟨b, rfl⟩ := Int.eq_ofNat_of_zero_le h2
  have e : (b : Int) * (2 : Int) ^ n = ((b * 2 ^ n : Nat) : Int) := by simp
  have ha : a < 2 ^ n := by exact_mod_cast h1
  rw [e] at h3 ⊢
  rw [u64_or_nat a (b * 2 ^ n) (by omega) (by omega), Nat.or_comm, ← Nat.shiftLeft_eq, ← Nat.shiftLeft_add_eq_or_of_lt ha]
  omega
theorem or_fits {x y : Int} (h0 : 0 ≤ x) (h1 : x < 18446744073709551616) (h2 : 0 ≤ y) (h3 : y < 18446744073709551616) : 0 ≤ bits .or .u64 x y ∧ bits .or .u64 x y < 18446744073709551616 := by
  obtain ⟨a, rfl⟩ := Int.eq_ofNat_of_zero_le h0
  obtain ⟨b, rfl⟩ := Int.eq_ofNat_of_zero_le h2
  rw [u64_or_nat a b (by omega) (by omega)]
  have : a ||| b < 2 ^ 64 := Nat.or_lt_two_pow (by omega) (by omega)
  omega
end Go.Proofs.YtlfahmdndlmhpaaGreatDoor
namespace Go.Proofs.YtlfahmdndlmhpaaGreatDoor
open Go.RowKit

instance : DecidableEq ByteArray := fun a b => decidable_of_iff (a.data = b.data) ⟨fun h => ByteArray.ext h, fun h => by rw [h]⟩
instance (s : ByteArray) : (P : List ByteArray) → Decidable (s ∈ P) := fun P =>
  match h : P.any (fun t => decide (t = s)) with
  | true => .isTrue (by simpa using h)
  | false => .isFalse (by simp at h; exact fun q => h s q rfl)

/-- a content once more -/
def Pl.add (P : List ByteArray) (s : ByteArray) : List ByteArray := if s ∈ P then P else P ++ [s]
/-- how long all are together -/
def Pl.tot (P : List ByteArray) : Nat := (P.map ByteArray.size).sum
/-- where a content stands, or would -/
def Pl.pos : List ByteArray → ByteArray → Nat
  | [], _ => 0
  | t :: P, s => if t = s then 0 else t.size + Pl.pos P s
/-- all bytes -/
def Pl.text (P : List ByteArray) : List Int := P.flatMap Vi.nums

theorem Pl.tot_cons (t : ByteArray) (P : List ByteArray) : Pl.tot (t :: P) = t.size + Pl.tot P := rfl
theorem Pl.tot_app (P Q : List ByteArray) : Pl.tot (P ++ Q) = Pl.tot P + Pl.tot Q := by
  unfold Pl.tot; rw [List.map_append, List.sum_append]
theorem Pl.tot_snoc (P : List ByteArray) (s : ByteArray) : Pl.tot (P ++ [s]) = Pl.tot P + s.size := by
  rw [Pl.tot_app]; simp [Pl.tot]
theorem Pl.text_len (P : List ByteArray) : (Pl.text P).length = Pl.tot P := by
  induction P with
  | nil => rfl
  | cons t P ih =>
    unfold Pl.text at *
    rw [List.flatMap_cons, List.length_append, ih, Vi.nums_len, Pl.tot_cons]
theorem Pl.text_snoc (P : List ByteArray) (s : ByteArray) : Pl.text (P ++ [s]) = Pl.text P ++ Vi.nums s := by unfold Pl.text; simp
theorem Pl.pos_new {P : List ByteArray} {s : ByteArray} (h : s ∉ P) : Pl.pos P s = Pl.tot P := by
  induction P with
  | nil => rfl
  | cons t P ih =>
    rw [List.mem_cons, not_or] at h
    unfold Pl.pos
    rw [if_neg (fun e => h.1 e.symm), ih h.2, Pl.tot_cons]
theorem Pl.pos_app {P : List ByteArray} {s : ByteArray} (Q : List ByteArray) (h : s ∈ P) : Pl.pos (P ++ Q) s = Pl.pos P s := by
  induction P with
  | nil => cases h
  | cons t P ih =>
    rw [List.cons_append, Pl.pos, Pl.pos]
    by_cases c : t = s
    · rw [if_pos c, if_pos c]
    · rw [if_neg c, if_neg c, ih ((List.mem_cons.1 h).resolve_left (fun e => c e.symm))]
theorem Pl.pos_le (P : List ByteArray) (s : ByteArray) : Pl.pos P s ≤ Pl.tot P := by
  induction P with
  | nil => simp [Pl.pos]
  | cons t P ih => unfold Pl.pos; rw [Pl.tot_cons]; split <;> omega
theorem Pl.pos_end {P : List ByteArray} {s : ByteArray} (h : s ∈ P) : Pl.pos P s + s.size ≤ Pl.tot P := by
  induction P with
  | nil => cases h
  | cons t P ih =>
    unfold Pl.pos
    rw [Pl.tot_cons]
    by_cases c : t = s
    · rw [if_pos c, c]; omega
    · rw [if_neg c]
      have := ih ((List.mem_cons.1 h).resolve_left (fun e => c e.symm))
      omega
theorem Pl.pos_inj {P : List ByteArray} {s t : ByteArray} (hs : s ∈ P) (ht : t ∈ P) (h0 : 0 < s.size) (h1 : 0 < t.size) (h : Pl.pos P s = Pl.pos P t) : s = t := by
  induction P with
  | nil => cases hs
  | cons u P ih =>
    unfold Pl.pos at h
    by_cases c : u = s
    · by_cases d : u = t
      · rw [← c, ← d]
      · rw [if_pos c, if_neg d] at h
        subst c
        omega
    · by_cases d : u = t
      · rw [if_neg c, if_pos d] at h
        subst d
        omega
      · rw [if_neg c, if_neg d] at h
        refine ih ?_ ?_ (by omega)
        · rcases List.mem_cons.1 hs with q | q
          · exact absurd q.symm c
          · exact q
        · rcases List.mem_cons.1 ht with q | q
          · exact absurd q.symm d
          · exact q
theorem Pl.mem_add (P : List ByteArray) (s : ByteArray) : s ∈ Pl.add P s := by
  unfold Pl.add; split
  · assumption
  · simp
theorem Pl.mem_add_of {P : List ByteArray} {s t : ByteArray} (h : t ∈ P) : t ∈ Pl.add P s := by
  unfold Pl.add; split
  · exact h
  · exact List.mem_append_left _ h
theorem Pl.mem_add_iff {P : List ByteArray} {s t : ByteArray} : t ∈ Pl.add P s ↔ t ∈ P ∨ t = s := by
  unfold Pl.add; split
  · rename_i h
    constructor
    · exact Or.inl
    · rintro (h' | rfl)
      · exact h'
      · exact h
  · rw [List.mem_append, List.mem_singleton]
theorem Pl.pos_add {P : List ByteArray} {s t : ByteArray} (h : t ∈ P) : Pl.pos (Pl.add P s) t = Pl.pos P t := by
  unfold Pl.add; split
  · rfl
  · exact Pl.pos_app _ h
theorem Pl.pos_last {P : List ByteArray} {s : ByteArray} (h : s ∉ P) : Pl.pos (P ++ [s]) s = Pl.tot P := by
  induction P with
  | nil => simp [Pl.pos, Pl.tot]
  | cons t P ih =>
    rw [List.mem_cons, not_or] at h
    rw [List.cons_append, Pl.pos, if_neg (fun e => h.1 e.symm), ih h.2, Pl.tot_cons]
theorem Pl.pos_self (P : List ByteArray) (s : ByteArray) : Pl.pos (Pl.add P s) s = Pl.pos P s := by
  unfold Pl.add; split
  · rfl
  · rename_i h
    rw [Pl.pos_new h, Pl.pos_last h]
theorem Pl.tot_add (P : List ByteArray) (s : ByteArray) : Pl.tot (Pl.add P s) = if s ∈ P then Pl.tot P else Pl.tot P + s.size := by
  unfold Pl.add; split
  · rfl
  · exact Pl.tot_snoc P s
theorem Pl.nodup_add {P : List ByteArray} (s : ByteArray) (h : P.Nodup) : (Pl.add P s).Nodup := by
  unfold Pl.add; split
  · exact h
  · rename_i c
    refine List.nodup_append.2 ⟨h, by simp, fun a ha b hb e => ?_⟩
    rw [List.mem_singleton] at hb
    subst hb; subst e
    exact c ha
/-- the bytes at a content's place -/
theorem Pl.text_at {P : List ByteArray} {s : ByteArray} (h : s ∈ P) : ((Pl.text P).drop (Pl.pos P s)).take s.size = Vi.nums s := by
  induction P with
  | nil => cases h
  | cons t P ih =>
    have e : Pl.text (t :: P) = Vi.nums t ++ Pl.text P := by unfold Pl.text; rw [List.flatMap_cons]
    rw [e]
    unfold Pl.pos
    by_cases c : t = s
    · rw [if_pos c, List.drop_zero, c, ← Vi.nums_len s, List.take_left']
      rfl
    · rw [if_neg c, ← Vi.nums_len t, List.drop_append, List.drop_of_length_le (by omega), List.nil_append, show (Vi.nums t).length + Pl.pos P s - (Vi.nums t).length = Pl.pos P s by omega]
      exact ih ((List.mem_cons.1 h).resolve_left (fun e => c e.symm))
/-- the place of the k-th -/
theorem Pl.pos_get {P : List ByteArray} (hn : P.Nodup) (k : Nat) (hk : k < P.length) : Pl.pos P (P[k]'hk) = Pl.tot (P.take k) := by
  induction P generalizing k with
  | nil => simp at hk
  | cons t P ih =>
    obtain ⟨h1, h2⟩ := List.nodup_cons.1 hn
    cases k with
    | zero => simp [Pl.pos, Pl.tot]
    | succ k =>
      have hk' : k < P.length := by simpa using hk
      have hne : ¬ t = (t :: P)[k + 1] := by
        rw [List.getElem_cons_succ]
        intro e
        rw [e] at h1
        exact h1 (List.getElem_mem hk')
      rw [Pl.pos, if_neg hne, List.getElem_cons_succ, ih h2 k hk', List.take_succ_cons, Pl.tot_cons]
/-- the contents of a list of texts, in order -/
def Pl.of (T : List ByteArray) : List ByteArray := T.foldl Pl.add []
theorem Pl.of_snoc (T : List ByteArray) (s : ByteArray) : Pl.of (T ++ [s]) = Pl.add (Pl.of T) s := by unfold Pl.of; rw [List.foldl_append]; rfl
end Go.Proofs.YtlfahmdndlmhpaaGreatDoor
namespace Go.Proofs.YtlfahmdndlmhpaaGreatDoor
open Go.RowKit

abbrev Sc (s : ByteArray) (a b : Int) : Value := .agg #[.string s, .int .i64 a, .int .i64 b]

set_option maxHeartbeats 1000000 in
theorem bad_any (s : ByteArray) (a b e : Int) (w : World) :
    Calls Tryz.prog 97 #[Sc s a b, .int .i64 e] w fun r w' => r = .returned (.tuple #[.int .u64 0, Sc s a e]) ∧ Below w.heap.size w w' := by
  go_enter Tryz.func97, Tryz.ntmps97
  go_wp2_with fail
  go_region
  all_goals
    go_wp2_with fail
    exact bodyPost_ret (v := .tuple #[.int .u64 0, Sc s a e]) (by simp [results, Tryz.results97, go_sem]) rfl ⟨rfl, (bthen (blk_new _ _) (blk_new _ _)).drew⟩

theorem stands_any (s : ByteArray) (a b : Int) (h : 0 ≤ a ∧ a ≤ s.size) (w : World) :
    Calls Tryz.prog 175 #[Sc s a b] w fun r w' => r = .returned (.bool true) ∧ Below w.heap.size w w' := by
  obtain ⟨h0, h1⟩ := h
  go_enter Tryz.func175, Tryz.ntmps175
  go_wp2_with fail
  go_ret
  exact ⟨rfl, blk_new _ _⟩
end Go.Proofs.YtlfahmdndlmhpaaGreatDoor
