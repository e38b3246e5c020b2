/- The numbers of a directory, in order, and the directory that they make again: plain. The walks of a directory's next and number. -/
import Derived.Test.YtlfahmdndlmhpaaGreatDoorM12
import Derived.Test.YtlfahmdndlmhpaaGreatDoorM23
import Derived.Test.YtlfahmdndlmhpaaGreatDoorM08
import Derived.Test.YtlfahmdndlmhpaaGreatDoorM09
import Derived.Test.YtlfahmdndlmhpaaGreatDoorM18
namespace Go.Proofs.YtlfahmdndlmhpaaGreatDoor
open Go.RowKit

def Dr.z : Ent := (0, 0, 0, 0)
def Dr.ahead (L : List Ent) (i : Nat) : Ent := if i = 0 then Dr.z else L.getD (i - 1) Dr.z
def Dr.num (c i : Nat) (a e : Ent) : Int := if c = 0 then e.1 - a.1 else if c = 1 then e.2.2.2 else if c = 2 then e.2.2.1 else if 0 < i ∧ e.2.1 = a.2.1 + a.2.2.1 then 0 else e.2.1 + 1
def Dr.at_ (L : List Ent) (c i : Nat) : Int := Dr.num c i (Dr.ahead L i) (L.getD i Dr.z)
def Dr.nums (L : List Ent) : List Int := (L.length : Int) :: (List.range (4 * L.length)).map (fun k => Dr.at_ L (k / L.length) (k % L.length))
def Dr.enc (L : List Ent) : List Int := Vi.all (Dr.nums L)

theorem Dr.nums_len (L : List Ent) : (Dr.nums L).length = 1 + 4 * L.length := by simp [Dr.nums]; omega
theorem Dr.nums_zero (L : List Ent) : (Dr.nums L)[0]? = some (L.length : Int) := rfl
theorem Dr.nums_at (L : List Ent) (c i : Nat) (hc : c < 4) (hi : i < L.length) : (Dr.nums L)[1 + (c * L.length + i)]? = some (Dr.at_ L c i) := by
  have h1 : (c * L.length + i) / L.length = c := by
    rw [Nat.mul_comm, Nat.mul_add_div (by omega), Nat.div_eq_of_lt hi]; omega
  have h2 : (c * L.length + i) % L.length = i := by
    rw [Nat.mul_comm, Nat.mul_add_mod, Nat.mod_eq_of_lt hi]
  have h3 : c * L.length + i < 4 * L.length := by
    have := Nat.mul_le_mul_right L.length (show c ≤ 3 by omega)
    omega
  unfold Dr.nums
  rw [Nat.add_comm 1, List.getElem?_cons_succ, List.getElem?_map, List.getElem?_range h3, Option.map_some, h1, h2]
theorem Dr.ahead_succ (L : List Ent) (i : Nat) (hi : i < L.length) : Dr.ahead L (i + 1) = L[i]'hi := by
  unfold Dr.ahead
  rw [if_neg (by omega), List.getD_eq_getElem?_getD, Nat.add_sub_cancel, List.getElem?_eq_getElem hi]
  rfl
theorem Dr.getD_at (L : List Ent) (i : Nat) (hi : i < L.length) : L.getD i Dr.z = L[i]'hi := by
  rw [List.getD_eq_getElem?_getD, List.getElem?_eq_getElem hi]
  rfl

/-- a row, place by place -/
structure En.fine (L : List Ent) : Prop where
  c : ∀ i (hi : i < L.length), En.c (L[i]'hi) = 0
  up : ∀ i (hi : i + 1 < L.length), En.l (L[i]'(by omega)) < (L[i + 1]'hi).1
theorem En.fine_of : ∀ (L : List Ent) (f : Int), En.rowFrom f L = 0 → En.fine L ∧ ∀ (h : 0 < L.length), f ≤ (L[0]'h).1 := by
  intro L
  induction L with
  | nil => intro f _; exact ⟨⟨fun i hi => by simp at hi, fun i hi => by simp at hi⟩, fun h => by simp at h⟩
  | cons e L ih =>
    intro f h
    rw [En.rowFrom] at h
    by_cases c : En.c e = 0
    · rw [if_pos c] at h
      by_cases d : e.1 < f
      · rw [if_pos d] at h; omega
      · rw [if_neg d] at h
        obtain ⟨h1, h2⟩ := ih _ h
        refine ⟨⟨fun i hi => ?_, fun i hi => ?_⟩, fun _ => by simp; omega⟩
        · cases i with
          | zero => exact c
          | succ i => exact h1.c i (by simpa using hi)
        · cases i with
          | zero =>
            have := h2 (by simpa using hi)
            simp only [List.getElem_cons_zero, List.getElem_cons_succ, Nat.zero_add]
            omega
          | succ i => exact h1.up i (by simpa using hi)
    · rw [if_neg c] at h; exact absurd h c
theorem En.row_of {L : List Ent} (h : En.fine L) : ∀ (m k : Nat) (f : Int), k + m = L.length → (∀ hk : k < L.length, f ≤ (L[k]'hk).1) → En.rowFrom f (L.drop k) = 0 := by
  intro m
  induction m with
  | zero => intro k f hk _; rw [List.drop_of_length_le (by omega)]; rfl
  | succ m ih =>
    intro k f hk hf
    have hlt : k < L.length := by omega
    rw [En.rowFrom_step hlt, if_pos (h.c k hlt), if_neg (by have := hf hlt; omega)]
    exact ih (k + 1) _ (by omega) (fun hk' => by have := h.up k hk'; omega)
theorem En.fine_row {L : List Ent} (h : En.fine L) (hf : En.fits L) (hl : L.length ≤ 4096) : En.row L = 0 := by
  unfold En.row
  rw [if_neg (by omega)]
  exact En.row_of h L.length 0 0 (by omega) (fun hk => (hf _ (List.getElem_mem hk)).1.1)
theorem En.row_fine {L : List Ent} (h : En.row L = 0) : En.fine L ∧ L.length ≤ 4096 := by
  unfold En.row at h
  by_cases c : 4096 < L.length
  · rw [if_pos c] at h; omega
  · rw [if_neg c] at h
    exact ⟨(En.fine_of L 0 h).1, by omega⟩
theorem En.fine_take {L : List Ent} (h : En.fine L) (k : Nat) : En.fine (L.take k) := by
  refine ⟨fun i hi => ?_, fun i hi => ?_⟩
  · rw [List.length_take] at hi
    rw [List.getElem_take]
    exact h.c i (by omega)
  · rw [List.length_take] at hi
    rw [List.getElem_take, List.getElem_take]
    exact h.up i (by omega)
theorem En.fine_drop {L : List Ent} (h : En.fine L) (k : Nat) : En.fine (L.drop k) := by
  refine ⟨fun i hi => ?_, fun i hi => ?_⟩
  · rw [List.length_drop] at hi
    rw [List.getElem_drop]
    exact h.c (k + i) (by omega)
  · rw [List.length_drop] at hi
    rw [List.getElem_drop, List.getElem_drop]
    exact h.up (k + i) (by omega)
theorem En.fits_take {L : List Ent} (h : En.fits L) (k : Nat) : En.fits (L.take k) := fun e he => h e (List.mem_of_mem_take he)
theorem En.fits_drop {L : List Ent} (h : En.fits L) (k : Nat) : En.fits (L.drop k) := fun e he => h e (List.mem_of_mem_drop he)
theorem En.l_ge {e : Ent} (h : En.good e) (c : En.c e = 0) : e.1 ≤ En.l e := by
  obtain ⟨_, _, _, r0, _⟩ := h
  have h2 := (En.wd_bd r0).1
  unfold En.l En.la
  unfold En.c at c
  rw [if_pos c]
  omega
/-- identifiers rise -/
theorem En.fine_lt {L : List Ent} (h : En.fine L) (hf : En.fits L) : ∀ (d i : Nat) (hi : i + 1 + d < L.length), (L[i]'(by omega)).1 < (L[i + 1 + d]'hi).1 := by
  intro d
  induction d with
  | zero =>
    intro i hi
    have h1 := h.up i hi
    have h2 := En.l_ge (hf _ (List.getElem_mem (by omega : i < L.length))) (h.c i (by omega))
    simp only [Nat.add_zero]
    omega
  | succ d ih =>
    intro i hi
    have h1 := ih i (by omega)
    have h3 := h.up (i + 1 + d) (by omega)
    have h2 := En.l_ge (hf _ (List.getElem_mem (by omega : i + 1 + d < L.length))) (h.c (i + 1 + d) (by omega))
    simp only [Nat.add_assoc] at *
    omega
theorem En.ck_len {i o l r : Int} (h : En.ck i o l r = 0) : l ≠ 0 := by
  intro h0
  unfold En.ck at h
  rw [if_pos h0] at h
  omega

/-- the numbers fit -/
theorem Dr.ahead_le {L : List Ent} (h : En.fine L) (hf : En.fits L) (i : Nat) (hi : i < L.length) : (Dr.ahead L i).1 ≤ (L[i]'hi).1 ∧ 0 ≤ (Dr.ahead L i).1 ∧ En.good (Dr.ahead L i) ∧ (Dr.ahead L i).2.1 + (Dr.ahead L i).2.2.1 ≤ 1099511627776 := by
  cases i with
  | zero =>
    have := (hf _ (List.getElem_mem hi)).1.1
    exact ⟨this, Int.le_refl _, by unfold En.good En.fit Dr.ahead; simp [Dr.z], by unfold Dr.ahead; simp [Dr.z]⟩
  | succ i =>
    rw [Dr.ahead_succ L i (by omega)]
    have hg := hf _ (List.getElem_mem (by omega : i < L.length))
    have h1 := h.up i hi
    have h2 := En.l_ge hg (h.c i (by omega))
    exact ⟨by omega, hg.1.1, hg, En.ck_end (h.c i (by omega))⟩
theorem Dr.at_fits {L : List Ent} (h : En.fine L) (hf : En.fits L) (c i : Nat) (hi : i < L.length) : 0 ≤ Dr.at_ L c i ∧ Dr.at_ L c i < 18446744073709551616 := by
  have ha := Dr.ahead_le h hf i hi
  obtain ⟨⟨i0, i1⟩, ⟨o0, o1⟩, ⟨l0, l1⟩, r0, r1⟩ := hf _ (List.getElem_mem hi)
  have he := En.ck_end (h.c i hi)
  unfold Dr.at_ Dr.num
  rw [Dr.getD_at L i hi]
  split
  · omega
  · split
    · omega
    · split
      · omega
      · split <;> omega
theorem Dr.nums_fit {L : List Ent} (h : En.fine L) (hf : En.fits L) (hl : L.length ≤ 4096) : ∀ x ∈ Dr.nums L, 0 ≤ x ∧ x < 18446744073709551616 := by
  intro x hx
  unfold Dr.nums at hx
  rcases List.mem_cons.1 hx with rfl | hx
  · omega
  · obtain ⟨k, hk, rfl⟩ := List.mem_map.1 hx
    rw [List.mem_range] at hk
    have h0 : 0 < L.length := by omega
    exact Dr.at_fits h hf _ _ (Nat.mod_lt _ h0)
theorem Dr.enc_fit {L : List Ent} (h : En.fine L) (hf : En.fits L) (hl : L.length ≤ 4096) : ∀ b ∈ Dr.enc L, 0 ≤ b ∧ b < 256 := Vi.all_fits (Dr.nums_fit h hf hl)
theorem Dr.enc_len (L : List Ent) : (Dr.enc L).length ≤ 10 + 40 * L.length := by
  have := Vi.all_len (Dr.nums L)
  rw [Dr.nums_len] at this
  unfold Dr.enc
  omega
theorem Vi.all_pos (l : List Int) : l.length ≤ (Vi.all l).length := by
  induction l with
  | nil => simp
  | cons x l ih =>
    have := (Vi.bytes_len x).1
    rw [Vi.all_cons, List.length_append, List.length_cons]
    omega
/-- where the m-th number stands -/
def Dr.pos (L : List Ent) (m : Nat) : Nat := (Vi.all ((Dr.nums L).take m)).length
theorem Vi.all_app (a b : List Int) : Vi.all (a ++ b) = Vi.all a ++ Vi.all b := by simp [Vi.all]
theorem Dr.pos_zero (L : List Ent) : Dr.pos L 0 = 0 := rfl
theorem Dr.pos_end (L : List Ent) (m : Nat) (h : (Dr.nums L).length ≤ m) : Dr.pos L m = (Dr.enc L).length := by unfold Dr.pos Dr.enc; rw [List.take_of_length_le h]
theorem Dr.pos_le (L : List Ent) (m : Nat) : Dr.pos L m ≤ (Dr.enc L).length := by
  have : Dr.enc L = Vi.all ((Dr.nums L).take m) ++ Vi.all ((Dr.nums L).drop m) := by rw [← Vi.all_app, List.take_append_drop]; rfl
  unfold Dr.pos
  rw [this, List.length_append]
  omega
theorem Vi.one_get {s : ByteArray} {a : Nat} {x : Int} {R : List Int} (h0 : 0 ≤ x) (h1 : x < 18446744073709551616) (ha : a ≤ s.size) (hR : (Vi.nums s).drop a = Vi.bytes x ++ R) :
    Vi.gb s (a : Int) 0 = 0 ∧ Vi.gx s (a : Int) 0 = x ∧ Vi.ga s (a : Int) 0 = ((a + (Vi.bytes x).length : Nat) : Int) := by
  obtain ⟨hv, ho⟩ := Vi.bytes_val h0 h1
  have hlen := Vi.bytes_len x
  obtain ⟨r1, r2, r3⟩ := Vi.one_read R ho (by rw [hv]; exact h1) hlen.2
  have ht : Vi.tl s (a : Int) = Vi.bytes x ++ R := by rw [Vi.tl_drop, hR]
  rw [← ht] at r1 r2 r3
  have g1 : Vi.gb s (a : Int) 0 = 0 := by unfold Vi.gb; rw [if_pos rfl, if_pos ⟨by omega, by omega⟩, r1]
  exact ⟨g1, by unfold Vi.gx; rw [if_pos g1, r3, hv], by unfold Vi.ga; rw [if_pos g1, r2]; omega⟩
/-- the m-th number is read -/
theorem Dr.read {L : List Ent} (h : En.fine L) (hf : En.fits L) (hl : L.length ≤ 4096) {s : ByteArray} (hs : s = strOfNums (Dr.enc L)) (m : Nat) (x : Int) (hx : (Dr.nums L)[m]? = some x) :
    Vi.gb s (Dr.pos L m : Int) 0 = 0 ∧ Vi.gx s (Dr.pos L m : Int) 0 = x ∧ Vi.ga s (Dr.pos L m : Int) 0 = (Dr.pos L (m + 1) : Int) := by
  have hn : Vi.nums s = Dr.enc L := by
    refine str_inj (Vi.nums_fit s) (Dr.enc_fit h hf hl) ?_
    rw [str_nums, hs]
  have hm : m < (Dr.nums L).length := (List.getElem?_eq_some_iff.1 hx).1
  have hxm : (Dr.nums L)[m]'hm = x := (List.getElem?_eq_some_iff.1 hx).2
  have hfx := Dr.nums_fit h hf hl x (by rw [← hxm]; exact List.getElem_mem hm)
  have hsz : s.size = (Dr.enc L).length := by rw [← Vi.nums_len, hn]
  have hd : (Vi.nums s).drop (Dr.pos L m) = Vi.bytes x ++ Vi.all ((Dr.nums L).drop (m + 1)) := by
    rw [hn]
    have : Dr.enc L = Vi.all ((Dr.nums L).take m) ++ Vi.all ((Dr.nums L).drop m) := by rw [← Vi.all_app, List.take_append_drop]; rfl
    rw [this]
    unfold Dr.pos
    rw [List.drop_left', List.drop_eq_getElem_cons hm, Vi.all_cons, hxm]
    rfl
  obtain ⟨g1, g2, g3⟩ := Vi.one_get hfx.1 hfx.2 (by rw [hsz]; exact Dr.pos_le L m) hd
  refine ⟨g1, g2, g3.trans ?_⟩
  unfold Dr.pos
  rw [take_snoc _ _ hm, Vi.all_snoc, List.length_append, hxm]

/-- a directory of which some columns are there -/
def Dr.part (L : List Ent) (c i j : Nat) : Ent :=
  (if 0 < c ∨ j < i then (L.getD j Dr.z).1 else 0, if 3 < c ∨ (c = 3 ∧ j < i) then (L.getD j Dr.z).2.1 else 0, if 2 < c ∨ (c = 2 ∧ j < i) then (L.getD j Dr.z).2.2.1 else 0, if 1 < c ∨ (c = 1 ∧ j < i) then (L.getD j Dr.z).2.2.2 else 0)
def Dr.parts (L : List Ent) (c i : Nat) : List Ent := (List.range L.length).map (Dr.part L c i)
theorem Dr.parts_len (L : List Ent) (c i : Nat) : (Dr.parts L c i).length = L.length := by simp [Dr.parts]
theorem Dr.parts_at (L : List Ent) (c i j : Nat) (hj : j < (Dr.parts L c i).length) : (Dr.parts L c i)[j]'hj = Dr.part L c i j := by
  simp [Dr.parts]
theorem Dr.parts_next (L : List Ent) (c : Nat) : Dr.parts L (c + 1) 0 = Dr.parts L c L.length := by
  unfold Dr.parts
  refine List.map_congr_left fun j hj => ?_
  rw [List.mem_range] at hj
  unfold Dr.part
  refine Prod.ext ?_ (Prod.ext ?_ (Prod.ext ?_ ?_)) <;> dsimp only <;> congr 1 <;> apply propext <;> omega
theorem Dr.parts_all (L : List Ent) : Dr.parts L 4 0 = L := by
  refine List.ext_getElem (Dr.parts_len L 4 0) fun j h1 h2 => ?_
  rw [Dr.parts_at, Dr.part, Dr.getD_at L j h2]
  simp
theorem Dr.parts_zero (L : List Ent) : Dr.parts L 0 0 = List.replicate L.length Dr.z := by
  refine List.ext_getElem (by rw [Dr.parts_len, List.length_replicate]) fun j h1 h2 => ?_
  rw [Dr.parts_at, List.getElem_replicate]
  unfold Dr.part Dr.z
  simp
theorem Dr.parts_step (L : List Ent) (c i : Nat) : Dr.parts L c (i + 1) = (Dr.parts L c i).set i (Dr.part L c (i + 1) i) := by
  refine List.ext_getElem (by rw [List.length_set, Dr.parts_len, Dr.parts_len]) fun j h1 h2 => ?_
  rw [Dr.parts_at, List.getElem_set]
  split
  · rename_i e; rw [e]
  · rename_i e
    rw [Dr.parts_at]
    unfold Dr.part
    refine Prod.ext ?_ (Prod.ext ?_ (Prod.ext ?_ ?_)) <;> dsimp only <;> congr 1 <;> apply propext <;> omega
theorem Dr.part_fit {L : List Ent} (hf : En.fits L) (c i j : Nat) : En.good (Dr.part L c i j) := by
  have hg : En.good (L.getD j Dr.z) := by
    rcases Nat.lt_or_ge j L.length with h | h
    · rw [Dr.getD_at L j h]; exact hf _ (List.getElem_mem h)
    · rw [List.getD_eq_getElem?_getD, List.getElem?_eq_none h]
      unfold En.good En.fit; simp [Dr.z]
  obtain ⟨h1, h2, h3, h4⟩ := hg
  unfold En.good En.fit Dr.part
  dsimp only
  refine ⟨?_, ?_, ?_, ?_⟩ <;> split <;> first | assumption | exact ⟨by omega, by omega⟩
theorem ecells_set (M : List Ent) : ∀ (i f : Nat) (v : Value) (e' : Ent) (hi : i < M.length), f < 4 → En.vals e' = (En.vals (M[i]'hi)).set f v → (ecells M).set (i * 4 + f) v = ecells (M.set i e') := by
  induction M with
  | nil => intro i f v e' hi; simp at hi
  | cons e M ih =>
    intro i f v e' hi hf h
    unfold ecells at *
    cases i with
    | zero =>
      rw [List.set_cons_zero, List.flatMap_cons, List.flatMap_cons, h, List.set_append_left _ _ (by show _ < 4; omega), List.getElem_cons_zero, Nat.zero_mul, Nat.zero_add]
    | succ i =>
      have hl : (En.vals e).length = 4 := rfl
      rw [List.set_cons_succ, List.flatMap_cons, List.flatMap_cons, List.set_append_right _ _ (by rw [hl]; omega), hl, show (i + 1) * 4 + f - 4 = i * 4 + f by omega]
      congr 1
      exact ih i f v e' (by simpa using hi) hf h
end Go.Proofs.YtlfahmdndlmhpaaGreatDoor
namespace Go.Proofs.YtlfahmdndlmhpaaGreatDoor
open Go.RowKit

theorem next_any (i o l r : Int) (h : En.fit i o l r) (hs : o + l ≤ 1099511627776) (w : World) :
    Calls Tryz.prog 98 #[.agg #[.int .u64 i, .int .u64 o, .int .u32 l, .int .u32 r]] w fun e w' => e = .returned (.int .u64 (o + l)) ∧ Below w.heap.size w w' := by
  obtain ⟨_, ⟨o0, o1⟩, ⟨l0, l1⟩, _⟩ := h
  go_enter Tryz.func98, Tryz.ntmps98
  go_wp2_with fail
  go_ret
  exact ⟨rfl, blk_new _ _⟩
set_option maxHeartbeats 2000000 in
theorem number_any (c i : Nat) (ai ao al ar ei eo el er : Int) (hc : c < 4) (hi : i ≤ 100000) (ha : En.fit ai ao al ar) (he : En.fit ei eo el er) (hle : ai ≤ ei) (has : ao + al ≤ 1099511627776) (hes : eo ≤ 1099511627776) (w : World) :
    Calls Tryz.prog 83 #[.int .i64 c, .int .i64 i, .agg #[.int .u64 ai, .int .u64 ao, .int .u32 al, .int .u32 ar], .agg #[.int .u64 ei, .int .u64 eo, .int .u32 el, .int .u32 er]] w fun x w' => x = .returned (.int .u64 (Dr.num c i (ai, ao, al, ar) (ei, eo, el, er))) ∧ Below w.heap.size w w' := by
  have HA := Lib.hid ha
  obtain ⟨⟨ai0, ai1⟩, ⟨ao0, ao1⟩, ⟨al0, al1⟩, ar0, ar1⟩ := ha
  obtain ⟨⟨ei0, ei1⟩, ⟨eo0, eo1⟩, ⟨el0, el1⟩, er0, er1⟩ := he
  rcases (show c = 0 ∨ c = 1 ∨ c = 2 ∨ c = 3 by omega) with rfl | rfl | rfl | rfl
  · go_enter Tryz.func83, Tryz.ntmps83
    go_wp2_with fail
    go_ret
    exact ⟨rfl, bthen (blk_new _ _) (blk_new _ _)⟩
  · go_enter Tryz.func83, Tryz.ntmps83
    go_wp2_with fail
    go_ret
    exact ⟨rfl, bthen (blk_new _ _) (blk_new _ _)⟩
  · go_enter Tryz.func83, Tryz.ntmps83
    go_wp2_with fail
    go_ret
    exact ⟨rfl, bthen (blk_new _ _) (blk_new _ _)⟩
  · have hnum : Dr.num 3 i (ai, ao, al, ar) (ei, eo, el, er) = if 0 < i ∧ eo = ao + al then 0 else eo + 1 := rfl
    rcases Nat.eq_zero_or_pos i with h0 | h0
    · subst h0
      have HN : Hid (Dr.num 3 0 (ai, ao, al, ar) (ei, eo, el, er) = eo + 1) := Lib.hid (by simp [hnum])
      clear hnum
      go_enter Tryz.func83, Tryz.ntmps83
      go_wp2_with fail
      refine wp_region_held_drew (S := (fun _ => True)) (by kernel_rfl) (by (try dsimp only); skip) (fun hHeld => ?_)
      simp only [List.size_toArray, List.length_cons, List.length_nil, Nat.zero_add, Nat.reduceAdd]
      refine held_take (i := 0) (v := ?_) rfl (by kernel_rfl) (by kernel_rfl) (by kernel_rfl) (fun _ _ _ h => h) (by rfl) ?_ (by assumption) ?_
      rotate_left
      · intro w hSw
        (try dsimp only at hSw)
        go_simp
        try with_reducible rfl
      try simp only [Act.put, List.setIfInBounds_toArray, List.set_cons_zero, List.set_cons_succ]
      refine held_take (i := 1) (v := ?_) rfl (by kernel_rfl) (by kernel_rfl) (by kernel_rfl) (fun _ _ _ h => h) (by rfl) ?_ (by assumption) ?_
      rotate_left
      · intro w hSw
        (try dsimp only at hSw)
        go_simp
        try with_reducible rfl
      try simp only [Act.put, List.setIfInBounds_toArray, List.set_cons_zero, List.set_cons_succ]
      refine held_take (i := 2) (v := ?_) rfl (by kernel_rfl) (by kernel_rfl) (by kernel_rfl) (fun _ _ _ h => h) (by rfl) ?_ (by assumption) ?_
      rotate_left
      · intro w hSw
        (try dsimp only at hSw)
        go_simp
        try with_reducible rfl
      try simp only [Act.put, List.setIfInBounds_toArray, List.set_cons_zero, List.set_cons_succ]
      refine held_skip (i := 3) rfl (by kernel_rfl) (by kernel_rfl) (by kernel_rfl) (fun _ _ _ h => h) (by rfl) (by assumption) ?_
      try simp only [Act.put, List.setIfInBounds_toArray, List.set_cons_zero, List.set_cons_succ]
      refine held_skip (i := 4) rfl (by kernel_rfl) (by kernel_rfl) (by kernel_rfl) (fun _ _ _ h => h) (by rfl) (by assumption) ?_
      try simp only [Act.put, List.setIfInBounds_toArray, List.set_cons_zero, List.set_cons_succ]
      refine held_skip (i := 5) rfl (by kernel_rfl) (by kernel_rfl) (by kernel_rfl) (fun _ _ _ h => h) (by rfl) (by assumption) ?_
      try simp only [Act.put, List.setIfInBounds_toArray, List.set_cons_zero, List.set_cons_succ]
      refine held_skip (i := 6) rfl (by kernel_rfl) (by kernel_rfl) (by kernel_rfl) (fun _ _ _ h => h) (by rfl) (by assumption) ?_
      try simp only [Act.put, List.setIfInBounds_toArray, List.set_cons_zero, List.set_cons_succ]
      refine held_skip (i := 7) rfl (by kernel_rfl) (by kernel_rfl) (by kernel_rfl) (fun _ _ _ h => h) (by rfl) (by assumption) ?_
      try simp only [Act.put, List.setIfInBounds_toArray, List.set_cons_zero, List.set_cons_succ]
      refine held_take (i := 8) (v := ?_) rfl (by kernel_rfl) (by kernel_rfl) (by kernel_rfl) (fun _ _ _ h => h) (by rfl) ?_ (by assumption) ?_
      rotate_left
      · intro w hSw
        (try dsimp only at hSw)
        go_simp
        try with_reducible rfl
      try simp only [Act.put, List.setIfInBounds_toArray, List.set_cons_zero, List.set_cons_succ]
      refine held_take (i := 9) (v := ?_) rfl (by kernel_rfl) (by kernel_rfl) (by kernel_rfl) (fun _ _ _ h => h) (by rfl) ?_ (by assumption) ?_
      rotate_left
      · intro w hSw
        (try dsimp only at hSw)
        go_simp
        try with_reducible rfl
      try simp only [Act.put, List.setIfInBounds_toArray, List.set_cons_zero, List.set_cons_succ]
      refine wpAnyH_done (by kernel_rfl) ?_ _
      go_wp2_with fail
      go_ret
      exact ⟨ret1 HN.out.symm, Below.drew (bthen (blk_new _ _) (blk_new _ _))⟩
    · have hd : decide ((0 : Int) < (i : Int)) = true := decide_eq_true (by omega)
      by_cases hq : eo = ao + al
      · have HN : Hid (Dr.num 3 i (ai, ao, al, ar) (ei, eo, el, er) = 0) := Lib.hid (by rw [hnum, if_pos ⟨h0, hq⟩])
        have hqb : (eo == ao + al) = true := by rw [beq_iff_eq]; exact hq
        clear hnum hq
        go_enter Tryz.func83, Tryz.ntmps83
        go_wp2_with fail
        obtain ⟨W, hW⟩ : ∃ W, W = (w.alloc (.cells #[.int .u64 ai, .int .u64 ao, .int .u32 al, .int .u32 ar] 43)).alloc (.cells #[.int .u64 ei, .int .u64 eo, .int .u32 el, .int .u32 er] 43) := ⟨_, rfl⟩
        have H0 : Hid (W.heap[w.heap.size]? = some (.cells #[.int .u64 ai, .int .u64 ao, .int .u32 al, .int .u32 ar] 43 (0, 0))) := Lib.hid (by rw [hW]; exact blk_alloc (heap_alloc_new w _) _)
        have H1 : Hid (W.heap[w.heap.size + 1]? = some (.cells #[.int .u64 ei, .int .u64 eo, .int .u32 el, .int .u32 er] 43 (0, 0))) := Lib.hid (by rw [hW]; exact heap_at (by simp))
        have hw : Below w.heap.size w W := by rw [hW]; exact (by repeat (first | with_reducible exact Below.refl _ _ | with_reducible assumption | with_reducible refine Below.setCell ?_ (by first | (simp; done) | (simp; omega) | omega) _ | with_reducible refine Below.alloc ?_ (by first | exact Nat.le_refl _ | (simp; done) | (simp; omega) | omega) _ | with_reducible refine Below.drew ?_))
        rw [← hW]
        clear hW
        obtain ⟨c0, c1, c2, c3⟩ := blk_cells4 H0.out
        obtain ⟨_, d1, _, _⟩ := blk_cells4 H1.out
        refine wp_region_held_drew (S := (fun w' => (w'.cell? ⟨w.heap.size, 0, none⟩ = some (.int .u64 ai) ∧ w'.cell? ⟨w.heap.size, 1, none⟩ = some (.int .u64 ao) ∧ w'.cell? ⟨w.heap.size, 2, none⟩ = some (.int .u32 al) ∧ w'.cell? ⟨w.heap.size, 3, none⟩ = some (.int .u32 ar)) ∧ w'.cell? ⟨w.heap.size + 1, 1, none⟩ = some (.int .u64 eo))) (by kernel_rfl) (by (try dsimp only); exact ⟨⟨c0, c1, c2, c3⟩, d1⟩) (fun hHeld => ?_)
        simp only [List.size_toArray, List.length_cons, List.length_nil, Nat.zero_add, Nat.reduceAdd]
        refine held_take (i := 0) (v := ?_) rfl (by kernel_rfl) (by kernel_rfl) (by kernel_rfl) (fun _ _ _ h => h) (by rfl) ?_ (by assumption) ?_
        rotate_left
        · intro w hSw
          (try dsimp only at hSw)
          go_simp
          try with_reducible rfl
        try simp only [Act.put, List.setIfInBounds_toArray, List.set_cons_zero, List.set_cons_succ]
        refine held_take (i := 1) (v := ?_) rfl (by kernel_rfl) (by kernel_rfl) (by kernel_rfl) (fun _ _ _ h => h) (by rfl) ?_ (by assumption) ?_
        rotate_left
        · intro w hSw
          (try dsimp only at hSw)
          go_simp
          try with_reducible rfl
        try simp only [Act.put, List.setIfInBounds_toArray, List.set_cons_zero, List.set_cons_succ]
        refine held_take (i := 2) (v := ?_) rfl (by kernel_rfl) (by kernel_rfl) (by kernel_rfl) (fun _ _ _ h => h) (by rfl) ?_ (by assumption) ?_
        rotate_left
        · intro w hSw
          (try dsimp only at hSw)
          go_simp
          try with_reducible rfl
        try simp only [Act.put, List.setIfInBounds_toArray, List.set_cons_zero, List.set_cons_succ]
        refine held_take (i := 3) (v := ?_) rfl (by kernel_rfl) (by kernel_rfl) (by kernel_rfl) (fun _ _ _ h => h) (by rfl) ?_ (by assumption) ?_
        rotate_left
        · intro w hSw
          (try dsimp only at hSw)
          go_simp
          try with_reducible rfl
        try simp only [Act.put, List.setIfInBounds_toArray, List.set_cons_zero, List.set_cons_succ]
        refine held_take (i := 4) (v := ?_) rfl (by kernel_rfl) (by kernel_rfl) (by kernel_rfl) (fun _ _ _ h => h) (by rfl) ?_ (by assumption) ?_
        rotate_left
        · intro w hSw
          (try dsimp only at hSw)
          go_simp
          try with_reducible rfl
        try simp only [Act.put, List.setIfInBounds_toArray, List.set_cons_zero, List.set_cons_succ]
        refine held_take (i := 5) (v := ?_) rfl (by kernel_rfl) (by kernel_rfl) (by kernel_rfl) (fun _ _ _ h => h) (by rfl) ?_ (by assumption) ?_
        rotate_left
        · intro w hSw
          (try dsimp only at hSw)
          go_simp
          try with_reducible rfl
        try simp only [Act.put, List.setIfInBounds_toArray, List.set_cons_zero, List.set_cons_succ]
        refine held_call (i := 6) (by kernel_rfl) rfl (fun K hK => ?_)
        go_simp
        refine (next_any ai ao al ar HA.out has _).mono ?_
        rintro x w3 ⟨rfl, hb3⟩
        have H03 := blk_cells4 (blk_keep2 hb3 H0.out)
        have H13 := blk_cells4 (blk_keep2 hb3 H1.out)
        have hw3 := bthen (Below.drew hw) hb3
        clear c0 c1 c2 c3 d1
        refine hK.out _ _ (by (try dsimp only); exact ⟨H03, H13.2.1⟩) (fun hHeld => ?_)
        clear hK K
        try simp only [Act.put, List.setIfInBounds_toArray, List.set_cons_zero, List.set_cons_succ]
        refine held_take (i := 7) (v := ?_) rfl (by kernel_rfl) (by kernel_rfl) (by kernel_rfl) (fun _ _ _ h => h) (by rfl) ?_ (by assumption) ?_
        rotate_left
        · intro w hSw
          (try dsimp only at hSw)
          go_simp
          try with_reducible rfl
        try simp only [Act.put, List.setIfInBounds_toArray, List.set_cons_zero, List.set_cons_succ]
        refine held_take (i := 8) (v := ?_) rfl (by kernel_rfl) (by kernel_rfl) (by kernel_rfl) (fun _ _ _ h => h) (by rfl) ?_ (by assumption) ?_
        rotate_left
        · intro w hSw
          (try dsimp only at hSw)
          go_simp
          try with_reducible rfl
        try simp only [Act.put, List.setIfInBounds_toArray, List.set_cons_zero, List.set_cons_succ]
        refine held_take (i := 9) (v := ?_) rfl (by kernel_rfl) (by kernel_rfl) (by kernel_rfl) (fun _ _ _ h => h) (by rfl) ?_ (by assumption) ?_
        rotate_left
        · intro w hSw
          (try dsimp only at hSw)
          go_simp
          try with_reducible rfl
        try simp only [Act.put, List.setIfInBounds_toArray, List.set_cons_zero, List.set_cons_succ]
        refine wpAnyH_done (by kernel_rfl) ?_ _
        clear H03 H13 hb3
        go_wp2_with fail
        go_ret
        exact ⟨ret1 HN.out.symm, hw3⟩
      · have HN : Hid (Dr.num 3 i (ai, ao, al, ar) (ei, eo, el, er) = eo + 1) := Lib.hid (by rw [hnum, if_neg (fun h => hq h.2)])
        have hqb : (eo == ao + al) = false := by rw [beq_eq_false_iff_ne]; exact hq
        clear hnum hq
        go_enter Tryz.func83, Tryz.ntmps83
        go_wp2_with fail
        obtain ⟨W, hW⟩ : ∃ W, W = (w.alloc (.cells #[.int .u64 ai, .int .u64 ao, .int .u32 al, .int .u32 ar] 43)).alloc (.cells #[.int .u64 ei, .int .u64 eo, .int .u32 el, .int .u32 er] 43) := ⟨_, rfl⟩
        have H0 : Hid (W.heap[w.heap.size]? = some (.cells #[.int .u64 ai, .int .u64 ao, .int .u32 al, .int .u32 ar] 43 (0, 0))) := Lib.hid (by rw [hW]; exact blk_alloc (heap_alloc_new w _) _)
        have H1 : Hid (W.heap[w.heap.size + 1]? = some (.cells #[.int .u64 ei, .int .u64 eo, .int .u32 el, .int .u32 er] 43 (0, 0))) := Lib.hid (by rw [hW]; exact heap_at (by simp))
        have hw : Below w.heap.size w W := by rw [hW]; exact (by repeat (first | with_reducible exact Below.refl _ _ | with_reducible assumption | with_reducible refine Below.setCell ?_ (by first | (simp; done) | (simp; omega) | omega) _ | with_reducible refine Below.alloc ?_ (by first | exact Nat.le_refl _ | (simp; done) | (simp; omega) | omega) _ | with_reducible refine Below.drew ?_))
        rw [← hW]
        clear hW
        obtain ⟨c0, c1, c2, c3⟩ := blk_cells4 H0.out
        obtain ⟨_, d1, _, _⟩ := blk_cells4 H1.out
        refine wp_region_held_drew (S := (fun w' => (w'.cell? ⟨w.heap.size, 0, none⟩ = some (.int .u64 ai) ∧ w'.cell? ⟨w.heap.size, 1, none⟩ = some (.int .u64 ao) ∧ w'.cell? ⟨w.heap.size, 2, none⟩ = some (.int .u32 al) ∧ w'.cell? ⟨w.heap.size, 3, none⟩ = some (.int .u32 ar)) ∧ w'.cell? ⟨w.heap.size + 1, 1, none⟩ = some (.int .u64 eo))) (by kernel_rfl) (by (try dsimp only); exact ⟨⟨c0, c1, c2, c3⟩, d1⟩) (fun hHeld => ?_)
        simp only [List.size_toArray, List.length_cons, List.length_nil, Nat.zero_add, Nat.reduceAdd]
        refine held_take (i := 0) (v := ?_) rfl (by kernel_rfl) (by kernel_rfl) (by kernel_rfl) (fun _ _ _ h => h) (by rfl) ?_ (by assumption) ?_
        rotate_left
        · intro w hSw
          (try dsimp only at hSw)
          go_simp
          try with_reducible rfl
        try simp only [Act.put, List.setIfInBounds_toArray, List.set_cons_zero, List.set_cons_succ]
        refine held_take (i := 1) (v := ?_) rfl (by kernel_rfl) (by kernel_rfl) (by kernel_rfl) (fun _ _ _ h => h) (by rfl) ?_ (by assumption) ?_
        rotate_left
        · intro w hSw
          (try dsimp only at hSw)
          go_simp
          try with_reducible rfl
        try simp only [Act.put, List.setIfInBounds_toArray, List.set_cons_zero, List.set_cons_succ]
        refine held_take (i := 2) (v := ?_) rfl (by kernel_rfl) (by kernel_rfl) (by kernel_rfl) (fun _ _ _ h => h) (by rfl) ?_ (by assumption) ?_
        rotate_left
        · intro w hSw
          (try dsimp only at hSw)
          go_simp
          try with_reducible rfl
        try simp only [Act.put, List.setIfInBounds_toArray, List.set_cons_zero, List.set_cons_succ]
        refine held_take (i := 3) (v := ?_) rfl (by kernel_rfl) (by kernel_rfl) (by kernel_rfl) (fun _ _ _ h => h) (by rfl) ?_ (by assumption) ?_
        rotate_left
        · intro w hSw
          (try dsimp only at hSw)
          go_simp
          try with_reducible rfl
        try simp only [Act.put, List.setIfInBounds_toArray, List.set_cons_zero, List.set_cons_succ]
        refine held_take (i := 4) (v := ?_) rfl (by kernel_rfl) (by kernel_rfl) (by kernel_rfl) (fun _ _ _ h => h) (by rfl) ?_ (by assumption) ?_
        rotate_left
        · intro w hSw
          (try dsimp only at hSw)
          go_simp
          try with_reducible rfl
        try simp only [Act.put, List.setIfInBounds_toArray, List.set_cons_zero, List.set_cons_succ]
        refine held_take (i := 5) (v := ?_) rfl (by kernel_rfl) (by kernel_rfl) (by kernel_rfl) (fun _ _ _ h => h) (by rfl) ?_ (by assumption) ?_
        rotate_left
        · intro w hSw
          (try dsimp only at hSw)
          go_simp
          try with_reducible rfl
        try simp only [Act.put, List.setIfInBounds_toArray, List.set_cons_zero, List.set_cons_succ]
        refine held_call (i := 6) (by kernel_rfl) rfl (fun K hK => ?_)
        go_simp
        refine (next_any ai ao al ar HA.out has _).mono ?_
        rintro x w3 ⟨rfl, hb3⟩
        have H03 := blk_cells4 (blk_keep2 hb3 H0.out)
        have H13 := blk_cells4 (blk_keep2 hb3 H1.out)
        have hw3 := bthen (Below.drew hw) hb3
        clear c0 c1 c2 c3 d1
        refine hK.out _ _ (by (try dsimp only); exact ⟨H03, H13.2.1⟩) (fun hHeld => ?_)
        clear hK K
        try simp only [Act.put, List.setIfInBounds_toArray, List.set_cons_zero, List.set_cons_succ]
        refine held_take (i := 7) (v := ?_) rfl (by kernel_rfl) (by kernel_rfl) (by kernel_rfl) (fun _ _ _ h => h) (by rfl) ?_ (by assumption) ?_
        rotate_left
        · intro w hSw
          (try dsimp only at hSw)
          go_simp
          try with_reducible rfl
        try simp only [Act.put, List.setIfInBounds_toArray, List.set_cons_zero, List.set_cons_succ]
        refine held_take (i := 8) (v := ?_) rfl (by kernel_rfl) (by kernel_rfl) (by kernel_rfl) (fun _ _ _ h => h) (by rfl) ?_ (by assumption) ?_
        rotate_left
        · intro w hSw
          (try dsimp only at hSw)
          go_simp
          try with_reducible rfl
        try simp only [Act.put, List.setIfInBounds_toArray, List.set_cons_zero, List.set_cons_succ]
        refine held_take (i := 9) (v := ?_) rfl (by kernel_rfl) (by kernel_rfl) (by kernel_rfl) (fun _ _ _ h => h) (by rfl) ?_ (by assumption) ?_
        rotate_left
        · intro w hSw
          (try dsimp only at hSw)
          go_simp
          try with_reducible rfl
        try simp only [Act.put, List.setIfInBounds_toArray, List.set_cons_zero, List.set_cons_succ]
        refine wpAnyH_done (by kernel_rfl) ?_ _
        clear H03 H13 hb3
        go_wp2_with fail
        go_ret
        exact ⟨ret1 HN.out.symm, hw3⟩
end Go.Proofs.YtlfahmdndlmhpaaGreatDoor
