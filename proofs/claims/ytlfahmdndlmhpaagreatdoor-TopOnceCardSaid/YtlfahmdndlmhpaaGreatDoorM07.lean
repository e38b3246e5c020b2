/- What is laid is taken off again, and what is taken off is what is laid: plain. A slice that reads as a list, nil let in; an append whose source may be nil (the words that the guide hands out for copying). Lists of items in memory: an identifier and a text each. -/
import Derived.Test.YtlfahmdndlmhpaaGreatDoorM05
import Derived.Test.YtlfahmdndlmhpaaGreatDoorM06
import Derived.Test.YtlfahmdndlmhpaaGreatDoorM04
import Derived.Laws.OwnMore
import Derived.Deep.AppendLies
import Derived.Deep.Draws
import Derived.Maps.AppendAt
import Derived.RegionTactic
import Derived.OwnWalk
namespace Go.Proofs.YtlfahmdndlmhpaaGreatDoor
open Go.RowKit

/-- the bytes of one number: all but the last are 128 or more, the last one is less, and not 0 behind another -/
def Vi.one : List Int → Prop
  | [] => False
  | [b] => 0 ≤ b ∧ b < 128
  | b :: r => 128 ≤ b ∧ b < 256 ∧ Vi.one r ∧ 1 ≤ Vi.val r
theorem Vi.one_cons {b c : Int} {r : List Int} : Vi.one (b :: c :: r) ↔ 128 ≤ b ∧ b < 256 ∧ Vi.one (c :: r) ∧ 1 ≤ Vi.val (c :: r) := Iff.rfl
theorem Vi.one_mk {b : Int} {r : List Int} (h1 : 128 ≤ b) (h2 : b < 256) (h3 : Vi.one r) (h4 : 1 ≤ Vi.val r) : Vi.one (b :: r) := by
  cases r with
  | nil => exact h3.elim
  | cons c r => exact ⟨h1, h2, h3, h4⟩
theorem Vi.enc_val (f : Nat) : ∀ (x : Int), 0 ≤ x → x < Vi.cap f → Vi.val (Vi.enc f x) = x ∧ Vi.one (Vi.enc f x) := by
  have small : ∀ (f : Nat) (x : Int), 0 ≤ x → x < 128 → Vi.val (Vi.enc f x) = x ∧ Vi.one (Vi.enc f x) := by
    intro f x h0 h1
    rw [Vi.enc_small f h1]
    exact ⟨by simp [Vi.val]; omega, ⟨h0, h1⟩⟩
  induction f with
  | zero => intro x h0 h1; exact small 0 x h0 (by simp [Vi.cap] at h1; omega)
  | succ f ih =>
    intro x h0 h1
    by_cases c : x < 128
    · exact small _ x h0 c
    · rw [Vi.enc_big f (by omega)]
      obtain ⟨h2, h3⟩ := ih (x / 128) (by omega) (Vi.cap_div h1)
      exact ⟨by rw [Vi.val, h2]; omega, Vi.one_mk (by omega) (by omega) h3 (by rw [h2]; omega)⟩
theorem Vi.bytes_val {x : Int} (h0 : 0 ≤ x) (h1 : x < 18446744073709551616) : Vi.val (Vi.bytes x) = x ∧ Vi.one (Vi.bytes x) :=
  Vi.enc_val 9 x h0 (by rw [Vi.cap9]; exact h1)
theorem Vi.one_pos {M : List Int} (h : Vi.one M) : 0 < M.length := by
  cases M with
  | nil => exact h.elim
  | cons b r => simp
theorem Vi.one_lead (R : List Int) : ∀ (M : List Int), Vi.one M → Vi.lead (M ++ R) + 1 = M.length := by
  intro M
  induction M with
  | nil => intro h; exact h.elim
  | cons b r ih =>
    intro h
    cases r with
    | nil =>
      have h' : 0 ≤ b ∧ b < 128 := h
      rw [List.cons_append, Vi.lead_cons, if_neg (by omega)]; rfl
    | cons c r =>
      have h' := Vi.one_cons.1 h
      rw [List.cons_append, Vi.lead_cons, if_pos h'.1, ih h'.2.2.1]; rfl
/-- the last byte -/
theorem Vi.one_last : ∀ (M : List Int), Vi.one M → ∃ b, M[M.length - 1]? = some b ∧ 0 ≤ b ∧ b < 128 ∧ (1 < M.length → b ≠ 0) ∧ Vi.val M = Vi.val (M.take (M.length - 1)) + (128 : Int) ^ (M.length - 1) * b := by
  intro M
  induction M with
  | nil => intro h; exact h.elim
  | cons a r ih =>
    intro h
    cases r with
    | nil =>
      have h' : 0 ≤ a ∧ a < 128 := h
      exact ⟨a, rfl, h'.1, h'.2, by simp, by simp [Vi.val]; omega⟩
    | cons c r =>
      have h' := Vi.one_cons.1 h
      obtain ⟨b, h1, h2, h3, h4, h5⟩ := ih h'.2.2.1
      have hl : (a :: c :: r).length - 1 = ((c :: r).length - 1) + 1 := by simp
      refine ⟨b, by rw [hl]; exact h1, h2, h3, fun _ h0 => ?_, ?_⟩
      · subst h0
        cases r with
        | nil => have h6 := h'.2.2.2; simp [Vi.val] at h6 h1; omega
        | cons d r => exact h4 (by simp) rfl
      · have e1 : Vi.val (a :: c :: r) = a % 128 + 128 * Vi.val (c :: r) := rfl
        have e2 : ∀ T, Vi.val (a :: T) = a % 128 + 128 * Vi.val T := fun _ => rfl
        rw [hl, List.take_succ_cons, e1, e2, h5, Int.pow_succ, Int.mul_add, ← Int.mul_assoc 128, Int.mul_comm 128 ((128 : Int) ^ _)]
        omega
/-- a text that begins with a number's bytes -/
theorem Vi.one_read {M : List Int} (R : List Int) (h : Vi.one M) (hv : Vi.val M < 18446744073709551616) (hl : M.length ≤ 10) : Vi.wr (M ++ R) = 0 ∧ Vi.wn (M ++ R) = M.length ∧ Vi.num (M ++ R) = Vi.val M := by
  have h1 := Vi.one_lead R M h
  have h0 := Vi.one_pos h
  obtain ⟨b, h2, h3, h4, h5, h6⟩ := Vi.one_last M h
  have h7 : (M ++ R)[M.length - 1]? = some b := by rw [List.getElem?_append_left (by omega)]; exact h2
  have h8 := Vi.wr_fine (L := M ++ R) (n := M.length - 1) (b := b) (by omega) (by omega) h7 (fun h9 => ?_) (fun h9 => h5 (by omega))
  · have h9 : M.length - 1 + 1 = M.length := by omega
    rw [h9] at h8
    exact ⟨h8.1, h8.2, by unfold Vi.num; rw [h8.2, List.take_left']; rfl⟩
  · rw [h9] at h6
    have h10 := Vi.val_ge (M.take 9)
    have h11 : (128 : Int) ^ 9 = 9223372036854775808 := by decide
    rw [h11] at h6
    omega
/-- what was taken off is what is laid -/
theorem Vi.one_enc (f : Nat) : ∀ (M : List Int), Vi.one M → M.length ≤ f + 1 → Vi.enc f (Vi.val M) = M := by
  induction f with
  | zero =>
    intro M h hl
    cases M with
    | nil => exact h.elim
    | cons a r =>
      cases r with
      | nil => have h' : 0 ≤ a ∧ a < 128 := h; simp [Vi.enc, Vi.val]; omega
      | cons c r => simp at hl
  | succ f ih =>
    intro M h hl
    cases M with
    | nil => exact h.elim
    | cons a r =>
      cases r with
      | nil =>
        have h' : 0 ≤ a ∧ a < 128 := h
        have hv : Vi.val [a] = a := by simp [Vi.val]; omega
        rw [hv, Vi.enc_small _ h'.2]
      | cons c r =>
        have h' := Vi.one_cons.1 h
        have hi := ih (c :: r) h'.2.2.1 (by simp at hl ⊢; omega)
        have hv : Vi.val (a :: c :: r) = a % 128 + 128 * Vi.val (c :: r) := rfl
        rw [hv, Vi.enc_big f (by omega), show (a % 128 + 128 * Vi.val (c :: r)) / 128 = Vi.val (c :: r) by omega, hi, show (a % 128 + 128 * Vi.val (c :: r)) % 128 + 128 = a by omega]
theorem Vi.one_of {L : List Int} (hf : ∀ b ∈ L, 0 ≤ b ∧ b < 256) : ∀ (n : Nat) (b : Int), Vi.lead L = n → L[n]? = some b → (0 < n → b ≠ 0) → Vi.one (L.take (n + 1)) ∧ (0 < n → 1 ≤ Vi.val (L.take (n + 1))) := by
  induction L with
  | nil => intro n b _ h; simp at h
  | cons a r ih =>
    intro n b hn hb h0
    rw [Vi.lead_cons] at hn
    have ha := hf a (by simp)
    by_cases c : 128 ≤ a
    · rw [if_pos c] at hn
      cases n with
      | zero => omega
      | succ n =>
        have hb' : r[n]? = some b := by simpa using hb
        have hi := ih (fun x hx => hf x (List.mem_cons_of_mem _ hx)) n b (by omega) hb' (fun _ => h0 (by omega))
        have hv : 1 ≤ Vi.val (r.take (n + 1)) := by
          cases n with
          | succ n => exact hi.2 (by omega)
          | zero =>
            have hb2 : b ≠ 0 := h0 (by omega)
            have hlast : Vi.one (r.take 1) := hi.1
            cases r with
            | nil => simp at hb'
            | cons d r =>
              simp at hb'
              subst hb'
              have h9 : 0 ≤ d ∧ d < 128 := hlast
              simp [Vi.val]
              omega
        rw [List.take_succ_cons]
        exact ⟨Vi.one_mk c ha.2 hi.1 hv, fun _ => by rw [Vi.val]; omega⟩
    · rw [if_neg c] at hn
      subst hn
      simp at hb
      subst hb
      exact ⟨by simp only [Nat.zero_add, List.take_succ_cons, List.take_zero]; exact ⟨ha.1, by omega⟩, fun h => absurd h (by omega)⟩
theorem Vi.num_bytes {L : List Int} (hf : ∀ b ∈ L, 0 ≤ b ∧ b < 256) (h : Vi.wr L = 0) : Vi.bytes (Vi.num L) = L.take (Vi.wn L) := by
  obtain ⟨h1, h2, h3, h4⟩ := Vi.wr_ok h
  have hn : Vi.wn L = Vi.lead L + 1 := by unfold Vi.wn; rw [if_pos h]
  have hb : L[Vi.lead L]? = some (L[Vi.lead L]'h2) := List.getElem?_eq_getElem h2
  have hg : L.getD (Vi.lead L) 0 = L[Vi.lead L]'h2 := by rw [List.getD_eq_getElem?_getD, hb]; rfl
  have ho := (Vi.one_of hf _ _ rfl hb (fun h5 => by rw [← hg]; exact h4 h5)).1
  unfold Vi.num Vi.bytes
  rw [hn]
  exact Vi.one_enc 9 _ ho (by rw [List.length_take]; omega)

/-- a text's own bytes, laid -/
theorem str_nums (s : ByteArray) : strOfNums (Vi.nums s) = s := by
  apply ByteArray.ext
  apply Array.toList_inj.1
  rw [strOfNums_data]
  unfold Vi.nums
  rw [List.map_map]
  conv => rhs; rw [← List.map_id s.data.toList]
  apply List.map_congr_left
  intro u _
  simp
theorem str_take (s : ByteArray) (n : Nat) : strOfNums ((Vi.nums s).take n) = s.extract 0 n := by
  rw [← str_nums (s.extract 0 n)]
  congr 1
  unfold Vi.nums
  rw [← List.map_take, ByteArray.data_extract, Array.toList_extract, List.extract_eq_take_drop]
  simp
end Go.Proofs.YtlfahmdndlmhpaaGreatDoor
namespace Go.Proofs.YtlfahmdndlmhpaaGreatDoor
open Go.RowKit
theorem block_of_add (a : Addr) (n : Nat) : (a.add n).block = a.block := by unfold Addr.add; split <;> rfl
theorem add_of_add (a : Addr) (i j : Nat) : (a.add i).add j = a.add (i + j) := by
  unfold Addr.add
  by_cases hi : i = 0 <;> by_cases hj : j = 0 <;> simp [hi, hj, Nat.add_assoc]

def Reads (w : World) (B size : Nat) (A : Option Addr) (n : Nat) (xs : List Value) : Prop :=
  xs.length = n * size ∧ (0 < n → ∃ ad, A = some ad ∧ ad.block < B ∧ ∀ j u, xs[j]? = some u → w.cell? (ad.add j) = some u)

section
variable {w w' : World} {B B' size n : Nat} {A : Option Addr} {xs : List Value}
theorem Reads.none_ : Reads w B size A 0 [] := ⟨by simp, fun h => absurd h (by omega)⟩
theorem Reads.at_ {k : Nat} (h : Reads w B 1 A n xs) (hk : k < n) : ∃ ad u, A = some ad ∧ ad.block < B ∧ xs[k]? = some u ∧ w.cell? (ad.add k) = some u := by
  obtain ⟨ad, e, hb, hc⟩ := h.2 (by omega)
  have hl : k < xs.length := by have := h.1; omega
  exact ⟨ad, xs[k], e, hb, List.getElem?_eq_getElem hl, hc k _ (List.getElem?_eq_getElem hl)⟩
theorem Reads.keep (h : Reads w B size A n xs) (hk : ∀ p : Addr, p.block < B → w'.cell? p = w.cell? p) : Reads w' B size A n xs :=
  ⟨h.1, fun hn => by
    obtain ⟨ad, e, hb, hc⟩ := h.2 hn
    exact ⟨ad, e, hb, fun j u hu => (hk _ (by rw [block_of_add]; exact hb)).trans (hc j u hu)⟩⟩
theorem Reads.more (h : Reads w B size A n xs) (hB : B ≤ B') : Reads w B' size A n xs :=
  ⟨h.1, fun hn => by
    obtain ⟨ad, e, hb, hc⟩ := h.2 hn
    exact ⟨ad, e, by omega, hc⟩⟩
theorem Reads.below (h : Reads w B size A n xs) (hb : Below B w w') : Reads w' B size A n xs := h.keep fun _ hp => hb.cell hp
theorem Reads.drew (h : Reads w B size A n xs) : Reads w.drew B size A n xs := h
theorem Reads.drewN (h : Reads w B size A n xs) (k : Nat) : Reads (w.drewN k) B size A n xs := h
theorem Reads.alloc (h : Reads w B size A n xs) (hB : B ≤ w.heap.size) (o : Obj) : Reads (w.alloc o) B size A n xs := h.keep fun p hp => World.cell?_alloc_lt w o p (by omega)
theorem Reads.setCell (h : Reads w B size A n xs) {p : Addr} (hB : B ≤ p.block) (u : Value) : Reads (w.setCell p u) B size A n xs :=
  h.keep fun q hq => World.cell?_setCell_other w p q u (fun e => by subst e; omega)
theorem Reads.grown (h : Reads w B size A n xs) {row : Option Nat} (hg : w.grownBy w' row) (hB : B ≤ w.heap.size) (hr : ∀ g, row = some g → B ≤ g) : Reads w' B size A n xs :=
  h.keep fun p hp => World.cell?_of_block (hg.block p.block (by omega) (fun e => by have := hr _ e.symm; omega))
theorem Reads.cut (h : Reads w B size A n xs) {k cap : Nat} (hk : k ≤ n) (hc : n ≤ cap) :
    Reads w B size (if cap = k then A else A.map (·.add (k * size))) (n - k) (xs.drop (k * size)) := by
  refine ⟨by rw [List.length_drop, h.1, Nat.sub_mul], fun hn => ?_⟩
  obtain ⟨ad, rfl, hb, hcell⟩ := h.2 (by omega)
  rw [if_neg (by omega)]
  refine ⟨ad.add (k * size), rfl, by rw [block_of_add]; exact hb, fun j u hu => ?_⟩
  rw [add_of_add]
  exact hcell _ u (by rw [← hu, List.getElem?_drop])
theorem Reads.of_own {base : Nat} {e : TypeId} {c : Nat} (h : w.ownsRow base e size (.slice A n c) n xs) : Reads w w.heap.size size A n xs := by
  refine ⟨h.1, fun hn => ?_⟩
  obtain ⟨g, cap, hv, _, hlt⟩ := h.form hn
  have hA : A = some ⟨g, 0, none⟩ := by injection hv
  subst hA
  exact ⟨_, rfl, hlt, h.cells (g := g) rfl⟩
end

theorem Reads.take_ {w : World} {B size n k : Nat} {A : Option Addr} {xs : List Value} (h : Reads w B size A n xs) (hk : k ≤ n) : Reads w B size A k (xs.take (k * size)) := by
  refine ⟨by rw [List.length_take, h.1]; exact Nat.min_eq_left (Nat.mul_le_mul_right _ hk), fun hn => ?_⟩
  obtain ⟨ad, e, hb, hc⟩ := h.2 (by omega)
  refine ⟨ad, e, hb, fun j u hu => hc j u ?_⟩
  rw [List.getElem?_take] at hu
  split at hu
  · exact hu
  · cases hu
section
variable {P : Program} (w : World)

theorem run_append_of_nil (base : Nat) (t ty e : TypeId) (i : TypeInfo) (size : Nat) (ht : P.underlying t = some (.slice e)) (hi : P.info? e = some i)
    (v : Value) (n : Nat) (xs : List Value) (hown : w.ownsRow base e size v n xs) (c : Nat) : (Builtin.append_ #[t, t] ty #[v, .slice none 0 c]).run P w = .ok v w := by
  rcases hown.2 with ⟨rfl, rfl⟩ | ⟨g, cap, cur, rfl, _, _, hnc, _⟩
  · simp [Builtin.append_, run_underlying ht, sizeOf, typeInfo, hi, Builtin.lenOf, Builtin.firstCells]
  · simp [Builtin.append_, run_underlying ht, sizeOf, typeInfo, hi, Builtin.lenOf, Builtin.firstCells, hnc, storeCells]

theorem run_append_any (base : Nat) (t ty e : TypeId) (i : TypeInfo) (z : Value) (size bytes : Nat) (ht : P.underlying t = some (.slice e)) (hi : P.info? e = some i) (hz : i.zero = some z)
    (hsize : i.size = size) (hby : i.bytes = bytes) (hzs : z.cells.size = size) (hsz : 0 < size)
    (v : Value) (n : Nat) (xs : List Value) (hown : w.ownsRow base e size v n xs)
    (B : Nat) (A : Option Addr) (m c : Nat) (news : List Value) (hr : Reads w B size A m news) (h1 : ∀ u ∈ news, u.oneCell' = true)
    (h63 : n + m ≤ maxLen) (hbytes : (n + m) * bytes ≤ 140737488355328) (hbase : base ≤ w.heap.size) :
    ∃ v' w', (Builtin.append_ #[t, t] ty #[v, .slice A m c]).run P w = .ok v' w' ∧ w'.ownsRow base e size v' (n + m) (xs ++ news) ∧ w.grownBy w' v.ownBlock ∧
      (v'.ownBlock = v.ownBlock ∨ v'.ownBlock = some w.heap.size) := by
  rcases A with _ | ad
  · have hm : m = 0 := by
      rcases Nat.eq_zero_or_pos m with h0 | h0
      · exact h0
      · obtain ⟨ad, h, _⟩ := hr.2 h0
        cases h
    subst hm
    have hn : news = [] := List.eq_nil_of_length_eq_zero (by simpa using hr.1)
    subst hn
    exact ⟨v, w, run_append_of_nil w base t ty e i size ht hi v n xs hown c, by simpa using hown, World.grownBy.refl w _, .inl rfl⟩
  · have hcells : ∀ j u, news[j]? = some u → w.cell? (ad.add j) = some u := by
      intro j u hu
      rcases Nat.eq_zero_or_pos m with h0 | h0
      · subst h0
        have hn : news = [] := List.eq_nil_of_length_eq_zero (by simpa using hr.1)
        subst hn
        simp at hu
      · obtain ⟨ad', h, _, hc⟩ := hr.2 h0
        injection h with h
        subst h
        exact hc j u hu
    obtain ⟨v', w', hrun, h2, h3, _, h5⟩ := run_append_own_at (P := P) w base t ty e i z size bytes ht hi hz hsize hby hzs hsz v n xs hown ad m c news hr.1 hcells h1 h63 hbytes hbase
    exact ⟨v', w', hrun, h2, h3, h5⟩

theorem wp_append_any {o : Oper} {a : Act} {K : Act → World → Prop} {Q : Exit → Act → World → Prop} (s x : Operand) (t : TypeId)
    (ho : o.op = .call { callee := .builtin .append, args := #[s, x], argTypes := #[t, t] })
    (base : Nat) (e : TypeId) (i : TypeInfo) (z : Value) (size bytes : Nat) (ht : P.underlying t = some (.slice e)) (hi : P.info? e = some i) (hz : i.zero = some z)
    (hsize : i.size = size) (hby : i.bytes = bytes) (hzs : z.cells.size = size) (hsz : 0 < size)
    (v : Value) (n : Nat) (xs : List Value) (hs : a.eval s = v) (hown : w.ownsRow base e size v n xs)
    (B : Nat) (A : Option Addr) (m c : Nat) (news : List Value) (hx : a.eval x = .slice A m c) (hr : Reads w B size A m news) (h1 : ∀ u ∈ news, u.oneCell' = true)
    (h63 : n + m ≤ maxLen) (hbytes : (n + m) * bytes ≤ 140737488355328) (hbase : base ≤ w.heap.size)
    (h : ∀ v' w', w'.ownsRow base e size v' (n + m) (xs ++ news) → w.grownBy w' v.ownBlock → (v'.ownBlock = v.ownBlock ∨ v'.ownBlock = some w.heap.size) → K (a.put o.dst v') w') : o.wp P a w K Q := by
  obtain ⟨v', w', hrun, h2, h3, h4⟩ := run_append_any (P := P) w base t o.type e i z size bytes ht hi hz hsize hby hzs hsz v n xs hown B A m c news hr h1 h63 hbytes hbase
  unfold Oper.wp execOp
  simp only [ho, resolve, invoke, builtin, Sem.run_bind, Sem.run_pure, Result.andThen_ok, List.map_toArray, List.map_cons, List.map_nil, hs, hx, hrun]
  exact h v' w' h2 h3 h4

theorem wpList_append_any {ops : Array Oper} {rest : List Oper} {o : Oper} {a : Act} {Q : Exit → Act → World → Prop} (hgd : o.guard = none) (s x : Operand) (t : TypeId)
    (ho : o.op = .call { callee := .builtin .append, args := #[s, x], argTypes := #[t, t] })
    (base : Nat) (e : TypeId) (i : TypeInfo) (z : Value) (size bytes : Nat) (ht : P.underlying t = some (.slice e)) (hi : P.info? e = some i) (hz : i.zero = some z)
    (hsize : i.size = size) (hby : i.bytes = bytes) (hzs : z.cells.size = size) (hsz : 0 < size)
    (v : Value) (n : Nat) (xs : List Value) (hs : a.eval s = v) (hown : w.ownsRow base e size v n xs)
    (B : Nat) (A : Option Addr) (m c : Nat) (news : List Value) (hx : a.eval x = .slice A m c) (hr : Reads w B size A m news) (h1 : ∀ u ∈ news, u.oneCell' = true)
    (h63 : n + m ≤ maxLen) (hbytes : (n + m) * bytes ≤ 140737488355328) (hbase : base ≤ w.heap.size)
    (h : ∀ v' w', w'.ownsRow base e size v' (n + m) (xs ++ news) → w.grownBy w' v.ownBlock → (v'.ownBlock = v.ownBlock ∨ v'.ownBlock = some w.heap.size) → wpList P ops Q rest (a.put o.dst v') w') : wpList P ops Q (o :: rest) a w :=
  wpList_plain hgd fun _ hK => wp_append_any w s x t ho base e i z size bytes ht hi hz hsize hby hzs hsz v n xs hs hown B A m c news hx hr h1 h63 hbytes hbase fun v' w' h2 h3 h4 => hK _ _ (h v' w' h2 h3 h4)

theorem step_append_any {ops : Array Oper} {o : Oper} {a : Act} {K : Act → World → Prop} {Q : Exit → Act → World → Prop} {E : Prop} (hgd : o.guard = none) (s x : Operand) (t : TypeId)
    (ho : o.op = .call { callee := .builtin .append, args := #[s, x], argTypes := #[t, t] })
    (base : Nat) (e : TypeId) (i : TypeInfo) (z : Value) (size bytes : Nat) (ht : P.underlying t = some (.slice e)) (hi : P.info? e = some i) (hz : i.zero = some z)
    (hsize : i.size = size) (hby : i.bytes = bytes) (hzs : z.cells.size = size) (hsz : 0 < size)
    (v : Value) (n : Nat) (xs : List Value) (hs : a.eval s = v) (hown : w.ownsRow base e size v n xs)
    (B : Nat) (A : Option Addr) (m c : Nat) (news : List Value) (hx : a.eval x = .slice A m c) (hr : Reads w B size A m news) (h1 : ∀ u ∈ news, u.oneCell' = true)
    (h63 : n + m ≤ maxLen) (hbytes : (n + m) * bytes ≤ 140737488355328) (hbase : base ≤ w.heap.size)
    (h : ∀ v' w', w'.ownsRow base e size v' (n + m) (xs ++ news) → w.grownBy w' v.ownBlock → (v'.ownBlock = v.ownBlock ∨ v'.ownBlock = some w.heap.size) → K (a.put o.dst v') w') :
    if Region.wanted o (yielded ops a.tmps) = true then Oper.wp P o a w K Q else E := by
  have hw : Region.wanted o (yielded ops a.tmps) = true := by simp [Region.wanted, hgd]
  rw [if_pos hw]
  exact wp_append_any w s x t ho base e i z size bytes ht hi hz hsize hby hzs hsz v n xs hs hown B A m c news hx hr h1 h63 hbytes hbase h
end

end Go.Proofs.YtlfahmdndlmhpaaGreatDoor
namespace Go.Proofs.YtlfahmdndlmhpaaGreatDoor
open Go.RowKit

abbrev Itm := Int × ByteArray
def It.vals (e : Itm) : List Value := [.int .u64 e.1, .string e.2]
def icells (L : List Itm) : List Value := L.flatMap It.vals
theorem icells_len (L : List Itm) : (icells L).length = L.length * 2 := by
  induction L with
  | nil => rfl
  | cons e L ih => unfold icells at *; rw [List.flatMap_cons, List.length_append, ih]; simp [It.vals]; omega
theorem icells_get (L : List Itm) : ∀ (k j : Nat) (hk : k < L.length), j < 2 → (icells L)[k * 2 + j]? = (It.vals (L[k]'hk))[j]? := by
  induction L with
  | nil => intro k j hk; simp at hk
  | cons e L ih =>
    intro k j hk hj
    unfold icells at *
    rw [List.flatMap_cons, List.getElem?_append]
    have hl : (It.vals e).length = 2 := rfl
    cases k with
    | zero => rw [if_pos (by omega)]; simp
    | succ k =>
      rw [if_neg (by omega), hl, show (k + 1) * 2 + j - 2 = k * 2 + j by omega]
      exact ih k j (by simpa using hk) hj
theorem icells_append (L M : List Itm) : icells (L ++ M) = icells L ++ icells M := by unfold icells; simp
theorem icells_snoc (L : List Itm) (e : Itm) : icells (L ++ [e]) = icells L ++ [.int .u64 e.1, .string e.2] := by unfold icells; simp [It.vals]
theorem icells_take (L : List Itm) : ∀ m, (icells L).take (m * 2) = icells (L.take m) := by
  induction L with
  | nil => intro m; simp [icells]
  | cons e L ih =>
    intro m
    cases m with
    | zero => simp [icells]
    | succ m =>
      have h := ih m
      unfold icells at *
      rw [List.flatMap_cons, List.take_append, List.take_of_length_le (by show 2 ≤ _; omega), show (m + 1) * 2 - (It.vals e).length = m * 2 by show (m + 1) * 2 - 2 = _; omega, h, List.take_succ_cons, List.flatMap_cons]
theorem icells_drop (L : List Itm) : ∀ m, (icells L).drop (m * 2) = icells (L.drop m) := by
  induction L with
  | nil => intro m; simp [icells]
  | cons e L ih =>
    intro m
    cases m with
    | zero => simp [icells]
    | succ m =>
      have h := ih m
      unfold icells at *
      rw [List.flatMap_cons, List.drop_append, List.drop_of_length_le (by show 2 ≤ _; omega), show (m + 1) * 2 - (It.vals e).length = m * 2 by show (m + 1) * 2 - 2 = _; omega, h, List.drop_succ_cons]
      rfl
theorem icells_one (L : List Itm) : ∀ u ∈ icells L, u.oneCell' = true := by
  intro u hu
  unfold icells at hu
  obtain ⟨e, _, he⟩ := List.mem_flatMap.1 hu
  simp only [It.vals, List.mem_cons, List.not_mem_nil, or_false] at he
  rcases he with rfl | rfl <;> rfl

theorem add_plain (g off m : Nat) : (⟨g, off, none⟩ : Addr).add m = ⟨g, off + m, none⟩ := by
  unfold Addr.add
  by_cases hm : m = 0
  · subst hm; rfl
  · rw [if_neg hm]
theorem Reads.icell {w : World} {B n : Nat} {A : Option Addr} {L : List Itm} (h : Reads w B 2 A n (icells L)) (hn : n = L.length) (k : Nat) (hk : k < L.length) :
    ∃ ad, A = some ad ∧ ad.block < B ∧ w.cell? (ad.add (k * 2)) = some (.int .u64 (L[k]'hk).1) ∧ w.cell? (ad.add (k * 2 + 1)) = some (.string (L[k]'hk).2) := by
  obtain ⟨ad, rfl, hb, hc⟩ := h.2 (by omega)
  exact ⟨ad, rfl, hb, hc _ _ ((icells_get L k 0 hk (by omega)).trans rfl), hc _ _ ((icells_get L k 1 hk (by omega)).trans rfl)⟩
theorem Reads.iplain {w : World} {B n : Nat} {A : Option Addr} {L : List Itm} (h : Reads w B 2 A n (icells L)) (h0 : 0 < n) (hn : n = L.length) : ∃ g off, A = some ⟨g, off, none⟩ ∧ g < B := by
  obtain ⟨ad, rfl, hb, c0, _⟩ := h.icell hn 0 (by omega)
  have hs := World.cell?_spot c0
  obtain ⟨g, off, s⟩ := ad
  refine ⟨g, off, ?_, hb⟩
  have : s = none := by simpa [Addr.add] using hs
  rw [this]
theorem Reads.itm {w : World} {B n g off : Nat} {L : List Itm} (h : Reads w B 2 (some ⟨g, off, none⟩) n (icells L)) (hn : n = L.length) (k : Nat) (hk : k < L.length) :
    w.cell? ⟨g, off + k * 2, none⟩ = some (.int .u64 (L[k]'hk).1) ∧ w.cell? ⟨g, off + k * 2 + 1, none⟩ = some (.string (L[k]'hk).2) := by
  obtain ⟨ad, e, _, c0, c1⟩ := h.icell hn k hk
  injection e with e
  subst e
  rw [add_plain] at c0 c1
  exact ⟨c0, c1⟩
end Go.Proofs.YtlfahmdndlmhpaaGreatDoor
