/- The walk of the chart's wrong. A chart's items with one more: in order, good, no longer than both; the sizes of a list of items; plain. The walks of slices.Clone at items, of the chart's Items and Len. -/
import Derived.Test.YtlfahmdndlmhpaaGreatDoorM24
import Derived.Test.YtlfahmdndlmhpaaGreatDoorM08
import Derived.Test.YtlfahmdndlmhpaaGreatDoorM09
import Derived.Deep.DeepMust
namespace Go.Proofs.YtlfahmdndlmhpaaGreatDoor
open Go.RowKit

def Ch.wr (id : Int) (s : ByteArray) (full : Bool) : Int := if id ≥ 6004799503160661 then 8 else if s.size = 0 then 2 else if s.size > 65536 then 5 else if full then 7 else 0
theorem empty_of {s : ByteArray} (h : s.size = 0) : s = ⟨#[]⟩ := by
  obtain ⟨d⟩ := s
  congr 1
  exact Array.eq_empty_of_size_eq_zero h
theorem wrong_any (id : Int) (s : ByteArray) (full : Bool) (w : World) (hs : s.size ≤ 140737488355328) :
    Calls Tryz.prog 29 #[.int .u64 id, .string s, .bool full] w fun e w' => e = .returned (.int .i64 (Ch.wr id s full)) ∧ w = w' := by
  have hv : Ch.wr id s full = if id ≥ 6004799503160661 then 8 else if s.size = 0 then 2 else if s.size > 65536 then 5 else if full then 7 else 0 := rfl
  by_cases h1 : id ≥ 6004799503160661
  · have HV : Hid (Ch.wr id s full = 8) := Lib.hid (by rw [hv, if_pos h1])
    clear hv
    go_enter Tryz.func29, Tryz.ntmps29
    go_wp2_with fail
    go_ret
    exact ⟨ret1 HV.out.symm, rfl⟩
  · by_cases h2 : s.size = 0
    · have HV : Hid (Ch.wr id s full = 2) := Lib.hid (by rw [hv, if_neg h1, if_pos h2])
      have he := empty_of h2
      clear hv h2
      subst he
      go_enter Tryz.func29, Tryz.ntmps29
      go_wp2_with fail
      go_ret
      exact ⟨ret1 HV.out.symm, rfl⟩
    · have hne : s.toList.isEmpty = false := by
        rw [List.isEmpty_eq_false_iff, ne_eq, ← List.length_eq_zero_iff, show s.toList = s.data.toList from ByteArray.toList_eq s]
        exact fun h => h2 (by simpa using h)
      by_cases h3 : s.size > 65536
      · have HV : Hid (Ch.wr id s full = 5) := Lib.hid (by rw [hv, if_neg h1, if_neg h2, if_pos h3])
        have h3' : (s.size : Int) > 65536 := by omega
        clear hv
        go_enter Tryz.func29, Tryz.ntmps29
        go_wp2_with fail
        go_ret
        exact ⟨ret1 HV.out.symm, rfl⟩
      · have h3' : ¬ (s.size : Int) > 65536 := by omega
        cases full with
        | true =>
          have HV : Hid (Ch.wr id s true = 7) := Lib.hid (by rw [hv, if_neg h1, if_neg h2, if_neg h3]; rfl)
          clear hv
          go_enter Tryz.func29, Tryz.ntmps29
          go_wp2_with fail
          go_ret
          exact ⟨ret1 HV.out.symm, rfl⟩
        | false =>
          have HV : Hid (Ch.wr id s false = 0) := Lib.hid (by rw [hv, if_neg h1, if_neg h2, if_neg h3]; rfl)
          clear hv
          go_enter Tryz.func29, Tryz.ntmps29
          go_wp2_with fail
          go_ret
          exact ⟨ret1 HV.out.symm, rfl⟩
end Go.Proofs.YtlfahmdndlmhpaaGreatDoor
namespace Go.Proofs.YtlfahmdndlmhpaaGreatDoor
open Go.RowKit

def Ch.put (L : List Itm) (id : Int) (s : ByteArray) (p : Nat) (is : Bool) : List Itm := L.take p ++ (id, s) :: L.drop (if is then p + 1 else p)
theorem Ch.sorted_iff (L : List Itm) : Ch.sorted L ↔ L.Pairwise (fun a b => a.1 < b.1) := by
  rw [List.pairwise_iff_getElem]
  constructor
  · intro h i j hi hj hij; exact h i j hi hj hij
  · intro h i j hi hj hij; exact h i j hi hj hij
theorem Ch.put_sorted {L : List Itm} {id : Int} {s : ByteArray} {p : Nat} {is : Bool} (hs : Ch.sorted L) (ha : Ch.At L id p is) : Ch.sorted (Ch.put L id s p is) := by
  have hp := (Ch.sorted_iff L).1 hs
  have h1 : ∀ a ∈ L.take p, a.1 < id := fun a h => by
    obtain ⟨j, hj, rfl⟩ := List.getElem_of_mem h
    rw [List.length_take] at hj
    rw [List.getElem_take]
    exact ha.lo j (by omega) (by omega)
  have h2 : ∀ b ∈ L.drop (if is then p + 1 else p), id < b.1 := fun b h => by
    obtain ⟨j, hj, rfl⟩ := List.getElem_of_mem h
    rw [List.length_drop] at hj
    rw [List.getElem_drop]
    have hj' : (if is = true then p + 1 else p) + j < L.length := by omega
    show id < (L[(if is = true then p + 1 else p) + j]'hj').1
    cases is with
    | true =>
      obtain ⟨hlt, he⟩ := ha.here.1 rfl
      have h3 := hs p ((if true = true then p + 1 else p) + j) hlt hj' (by simp only [if_true]; omega)
      omega
    | false =>
      have h0 : ¬ ∃ h : p < L.length, (L[p]'h).1 = id := fun q => by have := ha.here.2 q; cases this
      have hb := ha.hi ((if false = true then p + 1 else p) + j) hj' (by simp)
      have hpl : p < L.length := by simp at hj'; omega
      have hq := ha.hi p hpl (Nat.le_refl _)
      have hne : (L[p]'hpl).1 ≠ id := fun e => h0 ⟨hpl, e⟩
      rcases Nat.eq_zero_or_pos j with rfl | hj0
      · simp only [Bool.false_eq_true, if_false, Nat.add_zero]
        omega
      · have h3 := hs p ((if false = true then p + 1 else p) + j) hpl hj' (by simp; omega)
        omega
  rw [Ch.sorted_iff]
  unfold Ch.put
  rw [List.pairwise_append, List.pairwise_cons]
  refine ⟨hp.sublist (List.take_sublist _ _), ⟨h2, hp.sublist (List.drop_sublist _ _)⟩, ?_⟩
  intro a h b hb
  rcases List.mem_cons.1 hb with rfl | hb
  · exact h1 a h
  · exact Int.lt_trans (h1 a h) (h2 b hb)
theorem Ch.wr_zero {id : Int} {s : ByteArray} {full : Bool} (h : Ch.wr id s full = 0) : id < 6004799503160661 ∧ 0 < s.size ∧ s.size ≤ 65536 := by
  unfold Ch.wr at h
  by_cases h1 : id ≥ 6004799503160661
  · rw [if_pos h1] at h; omega
  · rw [if_neg h1] at h
    by_cases h2 : s.size = 0
    · rw [if_pos h2] at h; omega
    · rw [if_neg h2] at h
      by_cases h3 : s.size > 65536
      · rw [if_pos h3] at h; omega
      · exact ⟨by omega, by omega, by omega⟩
theorem Ch.put_ok {L : List Itm} {id : Int} {s : ByteArray} {p : Nat} {is : Bool} (h : It.ok L) (ha : Ch.At L id p is) (h0 : 0 ≤ id) (hw : Ch.wr id s false = 0) : It.ok (Ch.put L id s p is) := by
  refine ⟨Ch.put_sorted h.rise ha, fun e he => ?_⟩
  obtain ⟨w1, w2, w3⟩ := Ch.wr_zero hw
  unfold Ch.put at he
  rcases List.mem_append.1 he with he | he
  · exact h.good e (List.mem_of_mem_take he)
  · rcases List.mem_cons.1 he with rfl | he
    · exact ⟨⟨h0, w1⟩, w2, w3⟩
    · exact h.good e (List.mem_of_mem_drop he)
theorem It.sum_app (A B : List Itm) : It.sum (A ++ B) = It.sum A + It.sum B := by unfold It.sum; rw [List.map_append, List.sum_append]
theorem It.sum_split (L : List Itm) (k : Nat) : It.sum L = It.sum (L.take k) + It.sum (L.drop k) := by
  conv => lhs; rw [← List.take_append_drop k L]
  rw [It.sum_app]
theorem It.sum_drop (L : List Itm) (k : Nat) : It.sum (L.drop (k + 1)) ≤ It.sum (L.drop k) := by
  have h := It.sum_split (L.drop k) 1
  rw [List.drop_drop] at h
  omega
theorem Ch.put_sum (L : List Itm) (id : Int) (s : ByteArray) (p : Nat) (is : Bool) : It.sum (Ch.put L id s p is) ≤ It.sum L + s.size := by
  unfold Ch.put
  rw [It.sum_app, show ((id, s) :: L.drop (if is then p + 1 else p)) = [(id, s)] ++ L.drop (if is then p + 1 else p) from rfl, It.sum_app]
  have h1 := It.sum_split L p
  have h2 := It.sum_drop L p
  have h3 : It.sum [(id, s)] = s.size := by simp [It.sum]
  cases is <;> simp only [Bool.false_eq_true, if_false, if_true] <;> omega
theorem Ch.put_len {L : List Itm} {id : Int} {s : ByteArray} {p : Nat} {is : Bool} (h : p ≤ L.length) : (Ch.put L id s p is).length = p + 1 + (L.length - (if is then p + 1 else p)) := by
  unfold Ch.put
  simp [List.length_take, Nat.min_eq_left h]
  omega
theorem Ch.put_le {L : List Itm} {id : Int} {s : ByteArray} {p : Nat} {is : Bool} (h : Ch.At L id p is) : (Ch.put L id s p is).length ≤ L.length + 1 := by
  rw [Ch.put_len h.le]
  have := h.le
  cases is <;> simp only [Bool.false_eq_true, if_false, if_true] <;> omega
theorem It.sum_take (L : List Itm) (k : Nat) (hk : k < L.length) : It.sum (L.take (k + 1)) = It.sum (L.take k) + (L[k]'hk).2.size := by
  rw [take_snoc L k hk, It.sum_snoc]
theorem It.sum_mono (L : List Itm) (k : Nat) : It.sum (L.take k) ≤ It.sum L := by have := It.sum_split L k; omega
theorem It.ok_nil : It.ok [] := ⟨fun i j hi => by simp at hi, by simp⟩
end Go.Proofs.YtlfahmdndlmhpaaGreatDoor
namespace Go.Proofs.YtlfahmdndlmhpaaGreatDoor
open Go.RowKit

theorem item_info : (Tryz.prog.info? 45).map (fun i => (i.zero, i.size, i.bytes)) = some (some (.agg #[.int .u64 0, .string ⟨#[]⟩]), 2, 24) := by kernel_rfl
/-- a fresh row that holds items -/
def ItmPost (L : List Itm) (w : World) (e : Ending) (w' : World) : Prop :=
  ∃ v, e = .returned v ∧ w'.ownsRow w.heap.size 45 2 v L.length (icells L) ∧ Below w.heap.size w w'
set_option maxHeartbeats 1000000 in
theorem itmclone_any (A : Option Addr) (n cap : Nat) (L : List Itm) (B : Nat) (w : World) (hr : Reads w B 2 A n (icells L)) (hn : n = L.length) (hB : B ≤ w.heap.size) (hm : n ≤ 100000) :
    Calls Tryz.prog 26 #[.slice A n cap] w fun e w' => ItmPost L w e w' := by
  obtain ⟨i0, hi, iz0, iz1, iz2⟩ := info_parts item_info
  have hq := Lib.run_eql_slice_nil (P := Tryz.prog)
  cases A with
  | none =>
    have h0 : n = 0 := by
      rcases Nat.eq_zero_or_pos n with h | h
      · exact h
      · obtain ⟨ad, h2, _⟩ := hr.2 h; cases h2
    subst h0
    have hl : L = [] := List.eq_nil_of_length_eq_zero hn.symm
    subst hl
    clear hr hn
    go_enter Tryz.func26, Tryz.ntmps26
    go_wp2_with fail
    go_ret
    exact ⟨_, rfl, World.ownsRow_nil _ _ _ _, Below.refl _ _⟩
  | some ad =>
    have HR := Lib.hid hr
    have HN := Lib.hid hn
    clear hr hn
    go_enter Tryz.func26, Tryz.ntmps26
    have HL := Lib.hid (World.ownsRow_lit (base := w.heap.size) (e := 45) (size := 2) w #[] 0 (Nat.le_refl _) (by simp [maxLen]) rfl)
    go_wp2_with (at_builtin; go_must (refine wpList_append_any _ rfl (.tmp 5) (.tmp 6) _ rfl w.heap.size 45 i0 _ 2 24 Tryz.underlying25 hi iz0 iz1 iz2 rfl (by omega) (.slice (some ⟨w.heap.size, 0, none⟩) 0 0) 0 [] rfl HL.out B (some ad) n cap (icells L) rfl (HR.out.alloc hB _) (icells_one L) ?c1 ?c2 ?c3 ?_))
    case c1 => simp only [maxLen]; omega
    case c2 => omega
    intro v3 w3 hown3 hgr3 hat3
    have hb3 : Below w.heap.size w w3 := ((Below.refl _ _).alloc (Nat.le_refl _) _).grown hgr3 (by simp) (fun k hk => (HL.out.lt k hk).1)
    have hR3 : Hid (w3.ownsRow w.heap.size 45 2 v3 L.length (icells L)) := Lib.hid (by rw [← HN.out]; simpa using hown3)
    clear hown3 hgr3 hat3
    go_wp2_with fail
    go_ret
    exact ⟨_, rfl, hR3.out, hb3⟩
theorem items_any (A : Option Addr) (n cap : Nat) (L : List Itm) (B : Nat) (w : World) (hr : Reads w B 2 A n (icells L)) (hn : n = L.length) (hB : B ≤ w.heap.size) (hm : n ≤ 100000) :
    Calls Tryz.prog 9 #[.agg #[.slice A n cap]] w fun e w' => ItmPost L w e w' := by
  have HR := Lib.hid hr
  have HN := Lib.hid hn
  clear hr hn
  go_enter Tryz.func9, Tryz.ntmps9
  go_wp2_with fail
  refine (itmclone_any A n cap L B _ (HR.out.alloc hB _) HN.out (by simp; omega) hm).mono ?_
  rintro e w1 ⟨v, he, hO, hb⟩
  subst he
  have HO := Lib.hid hO
  have hw := (blk_one hb).2.2
  clear hO hb
  obtain ⟨A', k', hv, _⟩ := own_slice HO.out
  rw [hv] at HO
  subst hv
  go_wp2_with fail
  go_ret
  exact ⟨_, rfl, ownsRow_base HO.out (by simp), hw⟩
theorem len_any (A : Option Addr) (n cap : Nat) (w : World) : Calls Tryz.prog 56 #[.agg #[.slice A n cap]] w fun e w' => e = .returned (.int .i64 n) ∧ Below w.heap.size w w' := by
  go_enter Tryz.func56, Tryz.ntmps56
  go_wp2_with fail
  go_ret
  exact ⟨rfl, (Below.refl _ _).alloc (Nat.le_refl _) _⟩
end Go.Proofs.YtlfahmdndlmhpaaGreatDoor
