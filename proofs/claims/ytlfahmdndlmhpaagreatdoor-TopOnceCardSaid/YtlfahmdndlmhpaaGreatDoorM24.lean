/- The walks of cmp.Compare, of the chart's place and of the search beneath it. The entries of a chart's items: runs joined, contents once; plain. -/
import Derived.Test.YtlfahmdndlmhpaaGreatDoorM07
import Derived.Test.YtlfahmdndlmhpaaGreatDoorM23
import Derived.Deep.DeepMust
import Derived.Test.YtlfahmdndlmhpaaGreatDoorM05
import Derived.Test.YtlfahmdndlmhpaaGreatDoorM08
namespace Go.Proofs.YtlfahmdndlmhpaaGreatDoor
open Go.RowKit

def Ch.cmp (a b : Int) : Int := if a < b then -1 else if a > b then 1 else 0
theorem isnan_any (a : Int) (w : World) : Calls Tryz.prog 68 #[.int .u64 a] w fun e w' => e = .returned (.bool false) ∧ w = w' := by
  go_enter Tryz.func68, Tryz.ntmps68
  go_wp2_with fail
  go_ret
  exact ⟨by simp, rfl⟩
theorem compare_any (a b : Int) (w : World) : Calls Tryz.prog 32 #[.int .u64 a, .int .u64 b] w fun e w' => e = .returned (.int .i64 (Ch.cmp a b)) ∧ w = w' := by
  have hc : Ch.cmp a b = if a < b then -1 else if a > b then 1 else 0 := rfl
  have HC := Lib.hid hc
  clear hc
  by_cases h1 : a < b
  · have HV : Hid (Ch.cmp a b = -1) := Lib.hid (by rw [HC.out, if_pos h1])
    go_enter Tryz.func32, Tryz.ntmps32
    go_wp2_with (go_at_call 68; refine (isnan_any _ _).mono ?_; rintro e w1 ⟨rfl, rfl⟩)
    go_ret
    exact ⟨ret1 HV.out.symm, rfl⟩
  · by_cases h2 : a > b
    · have HV : Hid (Ch.cmp a b = 1) := Lib.hid (by rw [HC.out, if_neg h1, if_pos h2])
      go_enter Tryz.func32, Tryz.ntmps32
      go_wp2_with (go_at_call 68; refine (isnan_any _ _).mono ?_; rintro e w1 ⟨rfl, rfl⟩)
      go_ret
      exact ⟨ret1 HV.out.symm, rfl⟩
    · have HV : Hid (Ch.cmp a b = 0) := Lib.hid (by rw [HC.out, if_neg h1, if_neg h2])
      go_enter Tryz.func32, Tryz.ntmps32
      go_wp2_with (go_at_call 68; refine (isnan_any _ _).mono ?_; rintro e w1 ⟨rfl, rfl⟩)
      go_ret
      exact ⟨ret1 HV.out.symm, rfl⟩
theorem pl1_any (i : Int) (s : ByteArray) (id : Int) (w : World) : Calls Tryz.prog 71 #[.agg #[.int .u64 i, .string s], .int .u64 id] w fun e w' => e = .returned (.int .i64 (Ch.cmp i id)) ∧ Below w.heap.size w w' := by
  go_enter Tryz.func71, Tryz.ntmps71
  go_wp2_with (go_at_call 32; refine (compare_any _ _ _).mono ?_; rintro e w1 ⟨rfl, rfl⟩)
  go_ret
  exact ⟨rfl, (Below.refl _ _).alloc (Nat.le_refl _) _⟩

def Ch.sorted (L : List Itm) : Prop := ∀ i j (hi : i < L.length) (hj : j < L.length), i < j → (L[i]'hi).1 < (L[j]'hj).1
/-- where an identifier stands, or would -/
structure Ch.At (L : List Itm) (id : Int) (p : Nat) (is : Bool) : Prop where
  le : p ≤ L.length
  lo : ∀ j (hj : j < L.length), j < p → (L[j]'hj).1 < id
  hi : ∀ j (hj : j < L.length), p ≤ j → id ≤ (L[j]'hj).1
  here : is = true ↔ ∃ h : p < L.length, (L[p]'h).1 = id
def PlR (L : List Itm) (id : Int) (e : Ending) : Prop := ∃ p is, Ch.At L id p is ∧ e = .returned (.tuple #[.int .i64 (p : Int), .bool is])
theorem Ch.cmp_neg {a b : Int} (h : a < b) : Ch.cmp a b = -1 := by unfold Ch.cmp; rw [if_pos h]
theorem Ch.cmp_not {a b : Int} (h : ¬ a < b) : Ch.cmp a b = 0 ∨ Ch.cmp a b = 1 := by unfold Ch.cmp; rw [if_neg h]; split <;> simp
theorem Ch.cmp_zero {a : Int} : Ch.cmp a a = 0 := by unfold Ch.cmp; simp
theorem Ch.cmp_ne {a b : Int} (h : a ≠ b) : Ch.cmp a b ≠ 0 := by unfold Ch.cmp; split <;> (try split) <;> omega

set_option maxHeartbeats 1000000 in
theorem bsearch_any (A : Option Addr) (n cap : Nat) (L : List Itm) (B : Nat) (w : World) (id : Int) (hr : Reads w B 2 A n (icells L)) (hn : n = L.length) (hs : Ch.sorted L) (hB : B ≤ w.heap.size) (hm : n ≤ 140737488355328) :
    Calls Tryz.prog 70 #[.slice A n cap, .int .u64 id, .func (.func 71) #[] #[]] w fun e w' => PlR L id e ∧ Below w.heap.size w w' := by
  have HR := Lib.hid hr
  have HN := Lib.hid hn
  have HS := Lib.hid hs
  clear hr hn hs
  go_enter Tryz.func70, Tryz.ntmps70
  go_wp2_with fail
  go_loopw [9, 10] (fun ca cb wr => ∃ (a b : Nat), a ≤ b ∧ b ≤ n ∧ ca = .int .i64 a ∧ cb = .int .i64 b ∧ Hid (∀ j (hj : j < L.length), j < a → (L[j]'hj).1 < id) ∧ Hid (∀ j (hj : j < L.length), b ≤ j → id ≤ (L[j]'hj).1) ∧ Below w.heap.size w wr) (fun ca cb _ => (intOf cb - intOf ca).toNat)
  case atStart => exact ⟨0, n, by omega, by omega, rfl, rfl, Lib.hid (fun j _ h => by omega), Lib.hid (fun j hj h => by have := HN.out; omega), Below.refl _ _⟩
  case round =>
    obtain ⟨a, b, hab, hbn, rfl, rfl, hI1, hI2, hbl⟩ := hrel
    by_cases hlt : a < b
    · obtain ⟨m, hm1, hm2, hmd⟩ : ∃ m : Nat, a ≤ m ∧ m < b ∧ m = (a + b) / 2 := ⟨(a + b) / 2, by omega, by omega, rfl⟩
      have hlt' : m < L.length := by rw [← HN.out]; omega
      obtain ⟨g, off, hA, hgB⟩ := HR.out.iplain (by omega) HN.out
      have HR' := HR.out
      rw [hA] at HR'
      subst hA
      obtain ⟨c0, c1⟩ := ((HR'.more hB).below hbl).itm HN.out m hlt'
      have hlo : (L[m]'hlt').1 < id → ∀ j (hj : j < L.length), j < m + 1 → (L[j]'hj).1 < id := fun hc j hj hx => by
        rcases Nat.lt_or_ge j m with h | h
        · exact Int.lt_trans (HS.out j m hj hlt' h) hc
        · obtain rfl : j = m := by omega
          exact hc
      have hhi : ¬ (L[m]'hlt').1 < id → ∀ j (hj : j < L.length), m ≤ j → id ≤ (L[j]'hj).1 := fun hc j hj hx => by
        rcases Nat.lt_or_ge m j with h | h
        · have := HS.out m j hlt' hj h; omega
        · obtain rfl : j = m := by omega
          omega
      obtain ⟨⟨i, s⟩, he⟩ : ∃ e, e = L[m]'hlt' := ⟨_, rfl⟩
      rw [← he] at c0 c1 hlo hhi
      have hmz : ((a : Int) + (b : Int)) / 2 = (m : Int) := by omega
      have hmn : m < n := by omega
      have HLO := Lib.hid hlo
      have HHI := Lib.hid hhi
      clear he hmd hlo hhi HR'
      by_cases hc : i < id
      · have hcm : Ch.cmp i id = -1 := Ch.cmp_neg hc
        have HC := Lib.hid hcm
        clear hcm
        go_wp2_with fail
        refine (pl1_any _ _ _ _).mono ?_; rintro e w1 ⟨he, hb⟩
        rw [HC.out] at he
        subst he
        have hw := bthen hbl hb
        clear hb
        go_wp2_with fail
        exact ⟨⟨m + 1, b, by omega, by omega, by go_num, rfl, Lib.hid (HLO.out hc), hI2, hw⟩, by simp [intOf]; omega⟩
      · have hcm : ¬ Ch.cmp i id < 0 := by rcases Ch.cmp_not hc with h | h <;> omega
        go_wp2_with fail
        refine (pl1_any _ _ _ _).mono ?_; rintro e w1 ⟨rfl, hb⟩
        have hw := bthen hbl hb
        clear hb
        go_wp2_with fail
        exact ⟨⟨a, m, by omega, by omega, rfl, by go_num, hI1, Lib.hid (HHI.out hc), hw⟩, by simp [intOf]; omega⟩
    · obtain rfl : a = b := by omega
      rcases Nat.lt_or_ge a n with han | han
      · have hlt' : a < L.length := by rw [← HN.out]; exact han
        obtain ⟨g, off, hA, hgB⟩ := HR.out.iplain (by omega) HN.out
        have HR' := HR.out
        rw [hA] at HR'
        subst hA
        obtain ⟨c0, c1⟩ := ((HR'.more hB).below hbl).itm HN.out a hlt'
        have hp : ∀ is, (is = true ↔ (L[a]'hlt').1 = id) → PlR L id (.returned (.tuple #[.int .i64 (a : Int), .bool is])) := fun is h => ⟨a, is, ⟨by omega, hI1.out, hI2.out, by rw [h]; exact ⟨fun q => ⟨hlt', q⟩, fun ⟨_, q⟩ => q⟩⟩, rfl⟩
        obtain ⟨⟨i, s⟩, he⟩ : ∃ e, e = L[a]'hlt' := ⟨_, rfl⟩
        rw [← he] at c0 c1 hp
        have HP := Lib.hid hp
        clear he hp HR'
        by_cases hc : i = id
        · subst hc
          have HP2 := Lib.hid (HP.out true (by simp))
          have HC : Hid (Ch.cmp i i = 0) := Lib.hid Ch.cmp_zero
          go_wp2_with fail
          refine (pl1_any _ _ _ _).mono ?_; rintro e w1 ⟨he, hb⟩
          rw [HC.out] at he
          subst he
          have hw := bthen hbl hb
          clear hb
          go_wp2_with fail
          go_ret2
          exact ⟨HP2.out, hw⟩
        · have HP2 := Lib.hid (HP.out false (by simp [hc]))
          have hcm : (Ch.cmp i id == 0) = false := by rw [beq_eq_false_iff_ne]; exact Ch.cmp_ne hc
          go_wp2_with fail
          refine (pl1_any _ _ _ _).mono ?_; rintro e w1 ⟨rfl, hb⟩
          have hw := bthen hbl hb
          clear hb
          go_wp2_with fail
          go_ret2
          exact ⟨HP2.out, hw⟩
      · obtain rfl : a = n := by omega
        have HP : Hid (PlR L id (.returned (.tuple #[.int .i64 (a : Int), .bool false]))) := Lib.hid ⟨a, false, ⟨by have := HN.out; omega, hI1.out, hI2.out, by simp; intro h; have := HN.out; omega⟩, rfl⟩
        go_wp2_with fail
        go_ret2
        exact ⟨HP.out, hbl⟩

theorem place_any (A : Option Addr) (n cap : Nat) (L : List Itm) (B : Nat) (w : World) (id : Int) (hr : Reads w B 2 A n (icells L)) (hn : n = L.length) (hs : Ch.sorted L) (hB : B ≤ w.heap.size) (hm : n ≤ 140737488355328) :
    Calls Tryz.prog 35 #[.agg #[.slice A n cap], .int .u64 id] w fun e w' => PlR L id e ∧ Below w.heap.size w w' := by
  have HR := Lib.hid hr
  have HN := Lib.hid hn
  have HS := Lib.hid hs
  clear hr hn hs
  go_enter Tryz.func35, Tryz.ntmps35
  go_wp2_with fail
  refine (bsearch_any A n cap L B _ id (HR.out.alloc hB _) HN.out HS.out (by simp; omega) hm).mono ?_; rintro e w1 ⟨⟨p, is, hp, rfl⟩, hb⟩
  have HP := Lib.hid hp
  have hw := (blk_one hb).2.2
  clear hb hp
  go_wp2_with fail
  go_ret2
  exact ⟨⟨p, is, HP.out, rfl⟩, hw⟩
end Go.Proofs.YtlfahmdndlmhpaaGreatDoor
namespace Go.Proofs.YtlfahmdndlmhpaaGreatDoor
open Go.RowKit

def Mg.goes (a e : Ent) : Bool := decide (e.1 = En.l a + 1 ∧ e.2.1 = a.2.1 ∧ e.2.2.1 = a.2.2.1)
def Mg.more (a : Ent) : Ent := (a.1, a.2.1, a.2.2.1, a.2.2.2 + 1)
def Mg.put (E : List Ent) (e : Ent) : List Ent :=
  match E.getLast? with
  | none => [e]
  | some a => if Mg.goes a e = true then E.dropLast ++ [Mg.more a] else E ++ [e]
theorem Mg.put_nil (e : Ent) : Mg.put [] e = [e] := rfl
theorem Mg.put_snoc (E : List Ent) (a e : Ent) : Mg.put (E ++ [a]) e = if Mg.goes a e = true then E ++ [Mg.more a] else (E ++ [a]) ++ [e] := by
  unfold Mg.put
  rw [List.getLast?_concat, List.dropLast_concat]
def Mg.ent (P : List ByteArray) (it : Itm) : Ent := (it.1, (Pl.pos P it.2 : Int), (it.2.size : Int), 1)
def Mg.step (X : List ByteArray × List Ent) (it : Itm) : List ByteArray × List Ent := (Pl.add X.1 it.2, Mg.put X.2 (Mg.ent X.1 it))
def Mg.rows (L : List Itm) : List ByteArray × List Ent := L.foldl Mg.step ([], [])
theorem Mg.rows_snoc (L : List Itm) (it : Itm) : Mg.rows (L ++ [it]) = Mg.step (Mg.rows L) it := by unfold Mg.rows; rw [List.foldl_append]; rfl
theorem Mg.rows_take (L : List Itm) (k : Nat) (hk : k < L.length) : Mg.rows (L.take (k + 1)) = Mg.step (Mg.rows (L.take k)) (L[k]'hk) := by
  rw [take_snoc L k hk, Mg.rows_snoc]
theorem Mg.put_len (E : List Ent) (e : Ent) : (Mg.put E e).length ≤ E.length + 1 := by
  rcases List.eq_nil_or_concat E with rfl | ⟨E', a, rfl⟩
  · simp [Mg.put_nil]
  · rw [List.concat_eq_append, Mg.put_snoc]; split <;> simp

/-- what is free behind a row -/
def En.free (f : Int) : List Ent → Int
  | [] => f
  | e :: L => En.free (En.l e + 1) L
theorem En.free_snoc (E : List Ent) (a : Ent) : ∀ f, En.free f (E ++ [a]) = En.l a + 1 := by
  induction E with
  | nil => intro f; rfl
  | cons e E ih => intro f; exact ih _
theorem En.rowFrom_app (A B : List Ent) : ∀ f, En.rowFrom f (A ++ B) = if En.rowFrom f A = 0 then En.rowFrom (En.free f A) B else En.rowFrom f A := by
  induction A with
  | nil => intro f; simp [En.rowFrom, En.free]
  | cons e A ih =>
    intro f
    rw [List.cons_append, En.rowFrom, En.rowFrom, En.free]
    by_cases c : En.c e = 0
    · rw [if_pos c, if_pos c]
      by_cases d : e.1 < f
      · rw [if_pos d, if_pos d]; rfl
      · rw [if_neg d, if_neg d, ih]
    · rw [if_neg c, if_neg c, if_neg c]
theorem En.rowFrom_one {f : Int} {e : Ent} (hc : En.c e = 0) (hf : f ≤ e.1) : En.rowFrom f [e] = 0 := by
  rw [En.rowFrom, if_pos hc, if_neg (by omega)]; rfl

/-- an item that a chart may have -/
def It.good (e : Itm) : Prop := (0 ≤ e.1 ∧ e.1 < 6004799503160661) ∧ 0 < e.2.size ∧ e.2.size ≤ 65536
def It.sum (L : List Itm) : Nat := (L.map (fun e => e.2.size)).sum
structure It.ok (L : List Itm) : Prop where
  rise : Ch.sorted L
  good : ∀ e ∈ L, It.good e

structure Mg.Inv (L : List Itm) (P : List ByteArray) (E : List Ent) : Prop where
  ps : P = Pl.of (L.map (·.2))
  sub : ∀ it ∈ L, it.2 ∈ P
  sup : ∀ s ∈ P, ∃ it ∈ L, it.2 = s
  nd : P.Nodup
  tot : Pl.tot P ≤ It.sum L
  row : En.rowFrom 0 E = 0
  ok : ∀ e ∈ E, En.good e ∧ En.c e = 0 ∧ 0 < e.2.2.2 ∧ e.2.2.2 ≤ L.length
  c1 : ∀ e ∈ E, ∀ id, e.1 ≤ id → id < e.1 + e.2.2.2 → ∃ s, (id, s) ∈ L ∧ e.2.1 = (Pl.pos P s : Int) ∧ e.2.2.1 = (s.size : Int)
  c2 : ∀ it ∈ L, ∃ e ∈ E, e.1 ≤ it.1 ∧ it.1 < e.1 + e.2.2.2
  len : E.length ≤ L.length
  last : ∀ E' a, E = E' ++ [a] → ∃ s, (a.1 + a.2.2.2 - 1, s) ∈ L
theorem En.ck_zero {i o l r : Int} (hl : l ≠ 0) (h1 : i + En.wd r ≤ 6004799503160661) (h2 : o + l ≤ 1099511627776) : En.ck i o l r = 0 := by
  unfold En.ck; rw [if_neg hl, if_neg (by omega), if_neg (by omega)]
theorem En.wd_pos {r : Int} (h : 0 < r) : En.wd r = r := by unfold En.wd; rw [if_neg (by omega)]
theorem En.l_eq {e : Ent} (hc : En.c e = 0) (hr : 0 < e.2.2.2) : En.l e = e.1 + e.2.2.2 - 1 := by
  unfold En.l En.la
  unfold En.c at hc
  rw [if_pos hc, En.wd_pos hr]
theorem It.sum_snoc (L : List Itm) (it : Itm) : It.sum (L ++ [it]) = It.sum L + it.2.size := by unfold It.sum; rw [List.map_append, List.sum_append]; simp
theorem Mg.nil : Mg.Inv [] [] [] := ⟨rfl, by simp, by simp, by simp, by simp [Pl.tot], rfl, by simp, by simp, by simp, by simp, fun E' a h => by simp at h⟩
theorem Mg.next {L : List Itm} {P : List ByteArray} {E : List Ent} (h : Mg.Inv L P E) (it : Itm) (hs : ∀ x ∈ L, x.1 < it.1) (hg : It.good it) (hb : It.sum L + it.2.size ≤ 1000000) (hl : L.length ≤ 100000) :
    Mg.Inv (L ++ [it]) (Pl.add P it.2) (Mg.put E (Mg.ent P it)) := by
  obtain ⟨id, s⟩ := it
  obtain ⟨⟨g0, g1⟩, g2, g3⟩ := hg
  dsimp only at g0 g1 g2 g3 hs hb
  have hp := Pl.pos_le P s
  have ht := h.tot
  have htot : Pl.tot (Pl.add P s) ≤ It.sum (L ++ [(id, s)]) := by
    rw [Pl.tot_add, It.sum_snoc]; dsimp only; split <;> omega
  have hec : En.c (Mg.ent P (id, s)) = 0 := by
    unfold En.c Mg.ent
    dsimp only
    exact En.ck_zero (by omega) (by rw [En.wd_pos (by omega)]; omega) (by omega)
  have heg : En.good (Mg.ent P (id, s)) := by
    unfold En.good Mg.ent
    dsimp only
    exact ⟨⟨by omega, by omega⟩, ⟨by omega, by omega⟩, ⟨by omega, by omega⟩, by omega, by omega⟩
  have hold : ∀ e ∈ E, ∀ i, e.1 ≤ i → i < e.1 + e.2.2.2 → ∃ t, (i, t) ∈ L ++ [(id, s)] ∧ e.2.1 = (Pl.pos (Pl.add P s) t : Int) ∧ e.2.2.1 = (t.size : Int) := fun e he i h1 h2 => by
    obtain ⟨t, h3, h4, h5⟩ := h.c1 e he i h1 h2
    exact ⟨t, List.mem_append_left _ h3, by rw [Pl.pos_add (h.sub _ h3)]; exact h4, h5⟩
  have hfree : En.free 0 E ≤ id := by
    rcases List.eq_nil_or_concat E with rfl | ⟨E', a, rfl⟩
    · simpa [En.free] using g0
    · rw [List.concat_eq_append] at h
      rw [List.concat_eq_append, En.free_snoc]
      obtain ⟨_, a2, a3, _⟩ := h.ok a (by simp)
      obtain ⟨t, h1⟩ := h.last E' a rfl
      rw [En.l_eq a2 a3]
      have := hs _ h1
      dsimp only at this
      omega
  have plain : Mg.Inv (L ++ [(id, s)]) (Pl.add P s) (E ++ [Mg.ent P (id, s)]) := by
    refine ⟨by rw [h.ps, List.map_append, List.map_cons, List.map_nil, Pl.of_snoc], ?_, ?_, Pl.nodup_add s h.nd, htot, ?_, ?_, ?_, ?_, by simp; exact h.len, ?_⟩
    · intro x hx
      rcases List.mem_append.1 hx with hx | hx
      · exact Pl.mem_add_of (h.sub x hx)
      · rw [List.mem_singleton] at hx; subst hx; exact Pl.mem_add P s
    · intro t ht'
      rcases Pl.mem_add_iff.1 ht' with h1 | rfl
      · obtain ⟨x, hx, e⟩ := h.sup t h1
        exact ⟨x, List.mem_append_left _ hx, e⟩
      · exact ⟨(id, t), by simp, rfl⟩
    · rw [En.rowFrom_app, if_pos h.row]
      exact En.rowFrom_one hec hfree
    · intro e he
      rcases List.mem_append.1 he with he | he
      · obtain ⟨a1, a2, a3, a4⟩ := h.ok e he
        exact ⟨a1, a2, a3, by rw [List.length_append]; simp; omega⟩
      · rw [List.mem_singleton] at he
        subst he
        exact ⟨heg, hec, by unfold Mg.ent; dsimp only; omega, by unfold Mg.ent; simp; omega⟩
    · intro e he i h1 h2
      rcases List.mem_append.1 he with he | he
      · exact hold e he i h1 h2
      · rw [List.mem_singleton] at he
        subst he
        unfold Mg.ent at h1 h2 ⊢
        dsimp only at h1 h2 ⊢
        obtain rfl : i = id := by omega
        exact ⟨s, by simp, by rw [Pl.pos_self], rfl⟩
    · intro x hx
      rcases List.mem_append.1 hx with hx | hx
      · obtain ⟨e, he, h1⟩ := h.c2 x hx
        exact ⟨e, List.mem_append_left _ he, h1⟩
      · rw [List.mem_singleton] at hx
        subst hx
        exact ⟨Mg.ent P (id, s), by simp, by unfold Mg.ent; dsimp only; omega⟩
    · intro E' a he
      obtain ⟨_, e2⟩ := List.append_inj' he rfl
      injection e2 with e2
      subst e2
      refine ⟨s, ?_⟩
      unfold Mg.ent
      dsimp only
      rw [show id + 1 - 1 = id by omega]
      simp
  rcases List.eq_nil_or_concat E with hE | ⟨E', a, hE⟩
  · subst hE
    rw [Mg.put_nil]
    exact plain
  · rw [List.concat_eq_append] at hE
    subst hE
    rw [Mg.put_snoc]
    by_cases c : Mg.goes a (Mg.ent P (id, s)) = true
    · rw [if_pos c]
      obtain ⟨a1, a2, a3, a4⟩ := h.ok a (by simp)
      have al := En.l_eq a2 a3
      unfold Mg.goes at c
      rw [decide_eq_true_eq] at c
      obtain ⟨k1, k2, k3⟩ := c
      rw [al] at k1
      unfold Mg.ent at k1 k2 k3
      dsimp only at k1 k2 k3
      obtain ⟨ai, ao, al', ar⟩ := a
      dsimp only at a3 a4 k1 k2 k3
      obtain ⟨⟨i0, i1⟩, ⟨o0, o1⟩, ⟨l0, l1⟩, r0, r1⟩ := a1
      dsimp only at i0 i1 o0 o1 l0 l1 r0 r1
      have hmc : En.c (Mg.more (ai, ao, al', ar)) = 0 := by
        unfold En.c Mg.more
        dsimp only
        exact En.ck_zero (by omega) (by rw [En.wd_pos (by omega)]; omega) (by omega)
      have hmg : En.good (Mg.more (ai, ao, al', ar)) := ⟨⟨i0, i1⟩, ⟨o0, o1⟩, ⟨l0, l1⟩, by unfold Mg.more; dsimp only; omega, by unfold Mg.more; dsimp only; omega⟩
      refine ⟨by rw [h.ps, List.map_append, List.map_cons, List.map_nil, Pl.of_snoc], plain.sub, plain.sup, plain.nd, htot, ?_, ?_, ?_, ?_, ?_, ?_⟩
      · have hr := h.row
        rw [En.rowFrom_app] at hr ⊢
        by_cases d : En.rowFrom 0 E' = 0
        · rw [if_pos d] at hr ⊢
          refine En.rowFrom_one hmc ?_
          rw [En.rowFrom, if_pos a2] at hr
          by_cases q : (ai, ao, al', ar).1 < En.free 0 E'
          · rw [if_pos q] at hr; omega
          · unfold Mg.more; dsimp only at q ⊢; omega
        · rw [if_neg d] at hr; exact absurd hr d
      · intro e he
        rcases List.mem_append.1 he with he | he
        · obtain ⟨b1, b2, b3, b4⟩ := h.ok e (List.mem_append_left _ he)
          exact ⟨b1, b2, b3, by rw [List.length_append]; simp; omega⟩
        · rw [List.mem_singleton] at he
          subst he
          exact ⟨hmg, hmc, by unfold Mg.more; dsimp only; omega, by unfold Mg.more; simp; omega⟩
      · intro e he i h1 h2
        rcases List.mem_append.1 he with he | he
        · exact hold e (List.mem_append_left _ he) i h1 h2
        · rw [List.mem_singleton] at he
          subst he
          unfold Mg.more at h1 h2 ⊢
          dsimp only at h1 h2 ⊢
          by_cases q : i < ai + ar
          · exact hold (ai, ao, al', ar) (by simp) i h1 q
          · obtain rfl : i = id := by omega
            exact ⟨s, by simp, by rw [Pl.pos_self]; exact k2.symm, k3.symm⟩
      · intro x hx
        rcases List.mem_append.1 hx with hx | hx
        · obtain ⟨e, he, h1⟩ := h.c2 x hx
          rcases List.mem_append.1 he with he | he
          · exact ⟨e, List.mem_append_left _ he, h1⟩
          · rw [List.mem_singleton] at he
            subst he
            exact ⟨Mg.more (ai, ao, al', ar), by simp, by unfold Mg.more; dsimp only at h1 ⊢; omega⟩
        · rw [List.mem_singleton] at hx
          subst hx
          exact ⟨Mg.more (ai, ao, al', ar), by simp, by unfold Mg.more; dsimp only; omega⟩
      · have := h.len
        rw [List.length_append] at this ⊢
        rw [List.length_append]
        simp at this ⊢
        omega
      · intro F b he
        obtain ⟨_, e2⟩ := List.append_inj' he rfl
        injection e2 with e2
        subst e2
        refine ⟨s, ?_⟩
        unfold Mg.more
        dsimp only
        rw [show ai + (ar + 1) - 1 = id by omega]
        simp
    · rw [if_neg c]
      exact plain
theorem Mg.all {L : List Itm} (h : It.ok L) (hb : It.sum L ≤ 1000000) (hl : L.length ≤ 100000) : ∀ k, k ≤ L.length → Mg.Inv (L.take k) (Mg.rows (L.take k)).1 (Mg.rows (L.take k)).2 := by
  intro k
  induction k with
  | zero => intro _; exact Mg.nil
  | succ k ih =>
    intro hk
    have hk' : k < L.length := by omega
    rw [Mg.rows_take L k hk', take_snoc L k hk']
    have hsum : It.sum (L.take k) + (L[k]'hk').2.size ≤ It.sum L := by
      have e : It.sum L = It.sum (L.take (k + 1)) + It.sum (L.drop (k + 1)) := by
        unfold It.sum; rw [← List.sum_append, ← List.map_append, List.take_append_drop]
      rw [e, take_snoc L k hk', It.sum_snoc]
      omega
    refine Mg.next (ih (by omega)) (L[k]'hk') ?_ (h.good _ (List.getElem_mem hk')) (by omega) (by rw [List.length_take]; omega)
    intro x hx
    obtain ⟨j, hj, rfl⟩ := List.getElem_of_mem hx
    rw [List.length_take] at hj
    rw [List.getElem_take]
    exact h.rise j k (by omega) hk' (by omega)
theorem Mg.whole {L : List Itm} (h : It.ok L) (hb : It.sum L ≤ 1000000) (hl : L.length ≤ 100000) : Mg.Inv L (Mg.rows L).1 (Mg.rows L).2 := by
  have := Mg.all h hb hl L.length (Nat.le_refl _)
  rwa [List.take_length] at this
theorem Mg.inv_fits {L : List Itm} {P : List ByteArray} {E : List Ent} (h : Mg.Inv L P E) : En.fits E := fun e he => (h.ok e he).1
theorem Mg.inv_row {L : List Itm} {P : List ByteArray} {E : List Ent} (h : Mg.Inv L P E) (hl : L.length ≤ 4096) : En.row E = 0 := by
  unfold En.row
  rw [if_neg (by have := h.len; omega)]
  exact h.row
end Go.Proofs.YtlfahmdndlmhpaaGreatDoor
