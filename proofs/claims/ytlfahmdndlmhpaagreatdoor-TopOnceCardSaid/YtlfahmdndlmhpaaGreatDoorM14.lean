/- The walks of the header's taker: num, section, degree. The walks of the header's put, degrees and Encode. The walk of the header's Encode. -/
import Derived.Test.YtlfahmdndlmhpaaGreatDoorM13
import Derived.Test.YtlfahmdndlmhpaaGreatDoorM09
import Derived.Lib.SlBytesConst
import Derived.ArgAppend
import Derived.Test.YtlfahmdndlmhpaaGreatDoorM10
namespace Go.Proofs.YtlfahmdndlmhpaaGreatDoor
open Go.RowKit

/-- a taker stands at a place -/
def Tk (w : World) (g : Nat) (s : ByteArray) (a : Nat) : Prop := w.heap[g]? = some (.cells #[.string s, .int .i64 (a : Int), .int .i64 0] 187 (0, 0))
def TkP (g : Nat) (s : ByteArray) (a : Nat) (w w' : World) : Prop := w.grownBy w' (some g) ∧ Tk w' g s a
def Tk.v (s : ByteArray) (a n : Nat) : Int := Lt.val (((Vi.nums s).drop a).take n)
theorem Tk.v_bd (s : ByteArray) (a n : Nat) : 0 ≤ Tk.v s a n ∧ Tk.v s a n < (256 : Int) ^ (((Vi.nums s).drop a).take n).length := Lt.val_bd (fun b hb => Vi.nums_fit s b (List.mem_of_mem_drop (List.mem_of_mem_take hb)))
theorem gr_trans {w w1 w2 : World} {row : Option Nat} (h : w.grownBy w1 row) (k : w1.grownBy w2 row) : w.grownBy w2 row :=
  ⟨k.os.trans h.os, k.tape.trans h.tape, k.output.trans h.output, Nat.le_trans h.size k.size, fun i hi hn => (k.block i (Nat.lt_of_lt_of_le hi h.size) hn).trans (h.block i hi hn)⟩
theorem gr_set_new {w w2 : World} {row : Option Nat} {k i : Nat} (h : w.grownBy w2 row) (hk : w.heap.size ≤ k) (v : Value) : w.grownBy (w2.setCell ⟨k, i, none⟩ v) row :=
  ⟨h.os, h.tape, h.output, by simpa using h.size, fun j hj hn => by
    have : ¬ k = j := by omega
    simp only [World.setCell, Array.getElem?_modify, if_neg this]
    exact h.block j hj hn⟩
theorem gr_new (w : World) (o : Obj) (row : Option Nat) : w.grownBy (w.alloc o) row := gr_of (blk_new w o) row
theorem Tk.set {w : World} {g : Nat} {s : ByteArray} {a b : Nat} (h : Tk w g s a) : Tk (((w.setCell ⟨g, 0, none⟩ (.string s)).setCell ⟨g, 1, none⟩ (.int .i64 (b : Int))).setCell ⟨g, 2, none⟩ (.int .i64 0)) g s b := by
  unfold Tk at *
  rw [set_blk (set_blk (set_blk h))]
  rfl
set_option maxHeartbeats 1000000 in
theorem tnum_any (g : Nat) (s : ByteArray) (a n : Nat) (w : World) (h : Tk w g s a) (ha : a + n ≤ s.size) (hs : s.size ≤ 1000000) (h1 : 1 ≤ n) (h8 : n ≤ 8) :
    Calls Tryz.prog 95 #[.pointer (some ⟨g, 0, none⟩), .int .i64 n] w fun e w' => e = .returned (.int .u64 (Tk.v s a n)) ∧ TkP g s (a + n) w w' := by
  have HT := Lib.hid h
  obtain ⟨⟨c0, c1, c2⟩, f0, f1, f2⟩ := blk_cells3 h
  clear h
  go_enter Tryz.func95, Tryz.ntmps95
  go_wp2_with fail
  refine (num_any s a n ha hs h1 h8 _).mono ?_; rintro e w1 ⟨rfl, hb⟩
  have hlt := blk_lt HT.out
  have HT1 : Hid (Tk w1 g s a) := Lib.hid (blk_keep2 hb HT.out)
  obtain ⟨⟨d0, d1, d2⟩, g0, g1, g2⟩ := blk_cells3 HT1.out
  have hgr := gr_of hb (some g)
  have HG := Lib.hid hgr
  clear hb c0 c1 c2 f0 f1 f2 hgr
  go_wp2_with fail
  go_ret
  exact ⟨rfl, gr_trans HG.out (gr_trans (gr_trans (gr_set _ _ _ _) (gr_set _ _ _ _)) (gr_set _ _ _ _)), HT1.out.set⟩
theorem tsec_any (g : Nat) (s : ByteArray) (a : Nat) (w : World) (h : Tk w g s a) (ha : a + 16 ≤ s.size) (hs : s.size ≤ 1000000) :
    Calls Tryz.prog 94 #[.pointer (some ⟨g, 0, none⟩)] w fun e w' => e = .returned (.agg #[.int .u64 (Tk.v s a 8), .int .u64 (Tk.v s (a + 8) 8)]) ∧ TkP g s (a + 16) w w' := by
  have HT := Lib.hid h
  clear h
  have hlt := blk_lt HT.out
  go_enter Tryz.func94, Tryz.ntmps94
  go_wp2_with fail
  refine (tnum_any g s a 8 _ (blk_alloc HT.out _) (by omega) hs (by omega) (by omega)).mono ?_; rintro e w1 ⟨rfl, hg1, ht1⟩
  have HT1 := Lib.hid ht1
  have HG1 := Lib.hid hg1
  have HR1 := Lib.hid (gr_keep hg1 (heap_alloc_new w _) (by omega))
  have hz1 := blk_lt HR1.out
  clear ht1 hg1
  go_wp2_with fail
  refine (tnum_any g s (a + 8) 8 _ HT1.out (by omega) hs (by omega) (by omega)).mono ?_; rintro e w2 ⟨rfl, hg2, ht2⟩
  have HT2 := Lib.hid ht2
  have HG2 := Lib.hid hg2
  have HR2 := Lib.hid (gr_keep hg2 HR1.out (by omega))
  have hz2 := blk_lt HR2.out
  obtain ⟨c0, c1, e0, e1⟩ : w2.cell? ⟨w.heap.size, 0, none⟩ = some (.int .u64 0) ∧ w2.cell? ⟨w.heap.size, 1, none⟩ = some (.int .u64 0) ∧ w2.frozen? ⟨w.heap.size, 0, none⟩ = false ∧ w2.frozen? ⟨w.heap.size, 1, none⟩ = false :=
    ⟨cell_of_row w2 w.heap.size 0 _ _ _ HR2.out, cell_of_row w2 w.heap.size 1 _ _ _ HR2.out, by simp [World.frozen?, HR2.out], by simp [World.frozen?, HR2.out]⟩
  clear ht2 hg2
  go_wp2_with fail
  exact bodyPost_ret (v := .agg #[.int .u64 (Tk.v s a 8), .int .u64 (Tk.v s (a + 8) 8)]) (by simp [results, Tryz.results94, go_sem, c0, c1]) rfl ⟨rfl, gr_set_new (gr_set_new (gr_trans (gr_trans (gr_new _ _ _) HG1.out) HG2.out) (Nat.le_refl _) _) (Nat.le_refl _) _, set_far (set_far HT2.out (by omega)) (by omega)⟩
theorem tdeg_any (g : Nat) (s : ByteArray) (a : Nat) (w : World) (h : Tk w g s a) (ha : a + 4 ≤ s.size) (hs : s.size ≤ 1000000) :
    Calls Tryz.prog 96 #[.pointer (some ⟨g, 0, none⟩)] w fun e w' => e = .returned (.int .i64 (Lt.sg (Tk.v s a 4))) ∧ TkP g s (a + 4) w w' := by
  have HT := Lib.hid h
  have hbd := Tk.v_bd s a 4
  have hl : (((Vi.nums s).drop a).take 4).length = 4 := by rw [List.length_take, List.length_drop, Vi.nums_len]; omega
  rw [hl] at hbd
  have HBD : Hid (0 ≤ Tk.v s a 4 ∧ Tk.v s a 4 < 4294967296) := Lib.hid (by simpa using hbd)
  clear h hbd hl
  go_enter Tryz.func96, Tryz.ntmps96
  go_wp2_with fail
  refine (tnum_any g s a 4 _ HT.out ha hs (by omega) (by omega)).mono ?_; rintro e w1 ⟨rfl, hg1⟩
  go_wp2_with fail
  refine (sgn_any _ _ HBD.out.1 HBD.out.2).mono ?_; rintro e w2 ⟨rfl, rfl⟩
  go_wp2_with fail
  go_ret
  exact ⟨rfl, hg1⟩
end Go.Proofs.YtlfahmdndlmhpaaGreatDoor
namespace Go.Proofs.YtlfahmdndlmhpaaGreatDoor
open Go.RowKit

def Hd.cat (n : Nat) (xs : List Int) : List Int := xs.flatMap (Lt.le n)
theorem Hd.cat_snoc (n : Nat) (xs : List Int) (x : Int) : Hd.cat n (xs ++ [x]) = Hd.cat n xs ++ Lt.le n x := by simp [Hd.cat]
theorem Hd.cat_len (n : Nat) (xs : List Int) : (Hd.cat n xs).length = xs.length * n := by
  induction xs with
  | nil => simp [Hd.cat]
  | cons x xs ih => unfold Hd.cat at *; rw [List.flatMap_cons, List.length_append, ih, Lt.le_len, List.length_cons, Nat.add_mul]; omega
set_option maxHeartbeats 1000000 in
theorem hput_any (v : Value) (pre : List Int) (n : Nat) (A : Option Addr) (k cap : Nat) (xs : List Int) (B : Nat) (w : World) (hv : Rd8 w v pre) (hp : pre.length ≤ 500) (hr : Reads w B 1 A k (xs.map (Value.int .u64))) (hk : k = xs.length) (hk9 : k ≤ 9) (hB : B ≤ w.heap.size) (h1 : 1 ≤ n) (h8 : n ≤ 8)
    (hf : ∀ x ∈ xs, 0 ≤ x ∧ x < 18446744073709551616) : Calls Tryz.prog 87 #[v, .int .i64 n, .slice A k cap] w (Rd8Post (pre ++ Hd.cat n xs) w) := by
  have HV := Lib.hid hv
  have HR := Lib.hid hr
  have HK := Lib.hid hk
  have HF := Lib.hid hf
  clear hv hr hk hf
  go_enter Tryz.func87, Tryz.ntmps87
  go_wp2_with fail
  go_loopw [0, 8, 11] (fun cv _ ci wr => ∃ i : Nat, i ≤ k ∧ ci = .int .i64 i ∧ Hid (Rd8 wr cv (pre ++ Hd.cat n (xs.take i))) ∧ Below w.heap.size w wr) (fun _ _ ci _ => k - (intOf ci).toNat)
  case atStart => exact ⟨0, by omega, rfl, Lib.hid (by simpa [Hd.cat] using HV.out), Below.refl _ _⟩
  case round =>
    obtain ⟨i, hi, rfl, hT, hbl⟩ := hrel
    by_cases hlt : i < k
    · have hlt' : i < xs.length := by rw [← HK.out]; exact hlt
      obtain ⟨g, off, rfl, hg, hc⟩ := ((HR.out.more hB).below hbl).num HK.out i hlt'
      have hx := HF.out _ (List.getElem_mem hlt')
      have hs : Hd.cat n (xs.take (i + 1)) = Hd.cat n (xs.take i) ++ Lt.le n (xs[i]'hlt') := by rw [List.take_succ_eq_append_getElem hlt', Hd.cat_snoc]
      have hlen := Hd.cat_len n (xs.take i)
      have hlk := List.length_take_le i xs
      have hmul : (xs.take i).length * n ≤ 9 * 8 := Nat.mul_le_mul (by omega) h8
      obtain ⟨x, he⟩ : ∃ x, x = xs[i]'hlt' := ⟨_, rfl⟩
      rw [← he] at hc hx hs
      have HS := Lib.hid hs
      have HX := Lib.hid hx
      have HLEN : Hid ((pre ++ Hd.cat n (xs.take i)).length ≤ 1000) := Lib.hid (by rw [List.length_append]; omega)
      obtain ⟨A', c', rfl, hc', hR'⟩ := hT.out
      have HR' := Lib.hid hR'
      obtain ⟨q, hq⟩ : ∃ q, q = (pre ++ Hd.cat n (xs.take i)).length := ⟨_, rfl⟩
      rw [← hq] at HLEN HR'
      have HQ := Lib.hid hq
      clear hx hs he hlen hlk hmul hT hc' hR'
      simp only [← hq]
      clear hq
      go_wp2_with fail
      refine (lput_any A' q c' (pre ++ Hd.cat n (xs.take i)) wr.heap.size n x _ HR'.out HQ.out (Nat.le_refl _) HLEN.out h1 h8 HX.out.1 HX.out.2).mono ?_
      rintro e w2 ⟨v', he, hRow, hb2⟩
      subst he
      have HT2 : Hid (Rd8 w2 v' (pre ++ Hd.cat n (xs.take (i + 1)))) := Lib.hid (by rw [HS.out, ← List.append_assoc]; exact Rd8.of_row hRow)
      have hw := bthen hbl hb2
      clear hRow hc
      go_wp2_with fail
      exact ⟨⟨i + 1, by omega, by go_num, HT2, hw⟩, by simp [intOf]; omega⟩
    · obtain rfl : i = k := by omega
      have hz : xs.take i = xs := List.take_of_length_le (by rw [← HK.out]; omega)
      have HZ := Lib.hid hz
      clear hz
      go_wp2_with fail
      go_ret
      exact ⟨_, rfl, by have h := hT.out; rwa [HZ.out] at h, hbl⟩
set_option maxHeartbeats 1000000 in
theorem hdeg_any (v : Value) (pre : List Int) (A : Option Addr) (k cap : Nat) (xs : List Int) (B : Nat) (w : World) (hv : Rd8 w v pre) (hp : pre.length ≤ 500) (hr : Reads w B 1 A k (xs.map (Value.int .i64))) (hk : k = xs.length) (hk9 : k ≤ 9) (hB : B ≤ w.heap.size)
    (hf : ∀ x ∈ xs, -2147483648 ≤ x ∧ x < 2147483648) : Calls Tryz.prog 88 #[v, .slice A k cap] w (Rd8Post (pre ++ Hd.cat 4 (xs.map (· % 4294967296))) w) := by
  have HV := Lib.hid hv
  have HR := Lib.hid hr
  have HK := Lib.hid hk
  have HF := Lib.hid hf
  clear hv hr hk hf
  go_enter Tryz.func88, Tryz.ntmps88
  go_wp2_with fail
  go_loopw [0, 6, 7, 8, 11] (fun cv _ _ _ ci wr => ∃ i : Nat, i ≤ k ∧ ci = .int .i64 i ∧ Hid (Rd8 wr cv (pre ++ Hd.cat 4 ((xs.take i).map (· % 4294967296)))) ∧ Below w.heap.size w wr) (fun _ _ _ _ ci _ => k - (intOf ci).toNat)
  case atStart => exact ⟨0, by omega, rfl, Lib.hid (by simpa [Hd.cat] using HV.out), Below.refl _ _⟩
  case round =>
    obtain ⟨i, hi, rfl, hT, hbl⟩ := hrel
    by_cases hlt : i < k
    · have hlt' : i < xs.length := by rw [← HK.out]; exact hlt
      obtain ⟨g, off, rfl, hg, hc⟩ := ((HR.out.more hB).below hbl).num HK.out i hlt'
      have hx := HF.out _ (List.getElem_mem hlt')
      have hs : Hd.cat 4 ((xs.take (i + 1)).map (· % 4294967296)) = Hd.cat 4 ((xs.take i).map (· % 4294967296)) ++ Lt.le 4 ((xs[i]'hlt') % 4294967296) := by rw [List.take_succ_eq_append_getElem hlt', List.map_append, List.map_cons, List.map_nil, Hd.cat_snoc]
      have hlen := Hd.cat_len 4 ((xs.take i).map (· % 4294967296))
      have hlk := List.length_take_le i xs
      rw [List.length_map] at hlen
      obtain ⟨x, he⟩ : ∃ x, x = xs[i]'hlt' := ⟨_, rfl⟩
      rw [← he] at hc hx hs
      have HS := Lib.hid hs
      have HX := Lib.hid hx
      have HLEN : Hid ((pre ++ Hd.cat 4 ((xs.take i).map (· % 4294967296))).length ≤ 1000) := Lib.hid (by rw [List.length_append]; omega)
      obtain ⟨A', c', rfl, hc', hR'⟩ := hT.out
      have HR' := Lib.hid hR'
      obtain ⟨q, hq⟩ : ∃ q, q = (pre ++ Hd.cat 4 ((xs.take i).map (· % 4294967296))).length := ⟨_, rfl⟩
      rw [← hq] at HLEN HR'
      have HQ := Lib.hid hq
      clear hx hs he hlen hlk hT hc' hR'
      simp only [← hq]
      clear hq
      go_wp2_with fail
      refine (uns_any x _ HX.out.1 HX.out.2).mono ?_; rintro e w2 ⟨rfl, rfl⟩
      go_wp2_with fail
      refine (lput_any A' q c' (pre ++ Hd.cat 4 ((xs.take i).map (· % 4294967296))) wr.heap.size 4 (x % 4294967296) _ HR'.out HQ.out (Nat.le_refl _) HLEN.out (by omega) (by omega) (by omega) (by omega)).mono ?_
      rintro e w2 ⟨v', he, hRow, hb2⟩
      subst he
      have HT2 : Hid (Rd8 w2 v' (pre ++ Hd.cat 4 ((xs.take (i + 1)).map (· % 4294967296)))) := Lib.hid (by rw [HS.out, ← List.append_assoc]; exact Rd8.of_row hRow)
      have hw := bthen hbl hb2
      clear hRow hc
      go_wp2_with fail
      exact ⟨⟨i + 1, by omega, by go_num, HT2, hw⟩, by simp [intOf]; omega⟩
    · obtain rfl : i = k := by omega
      have hz : xs.take i = xs := List.take_of_length_le (by rw [← HK.out]; omega)
      have HZ := Lib.hid hz
      clear hz
      go_wp2_with fail
      go_ret
      exact ⟨_, rfl, by have h := hT.out; rwa [HZ.out] at h, hbl⟩
end Go.Proofs.YtlfahmdndlmhpaaGreatDoor
namespace Go.Proofs.YtlfahmdndlmhpaaGreatDoor
open Go.RowKit

def HencPost (S : List Int) (a e c lo hi : Int) (w : World) (x : Ending) (w' : World) : Prop := x = .returned (.tuple #[.string (strOfNums (Hd.bytes S a e c lo hi)), .int .i64 0]) ∧ Below w.heap.size w w'
/-- what is laid of the sections, in order -/
def Hd.pre (r0 r1 m0 m1 l0 l1 d0 d1 : Int) (k : Nat) : List Int := Hd.magic ++ Hd.cat 8 ([r0, r1, m0, m1, l0, l1, d0, d1].take (2 * k))
theorem Hd.pre_len (r0 r1 m0 m1 l0 l1 d0 d1 : Int) (k : Nat) : (Hd.pre r0 r1 m0 m1 l0 l1 d0 d1 k).length ≤ 72 := by
  unfold Hd.pre
  rw [List.length_append, Hd.cat_len, List.length_take]
  simp only [Hd.magic, List.length_cons, List.length_nil]
  omega
set_option maxRecDepth 100000 in
set_option maxHeartbeats 4000000 in
theorem henc_any (r0 r1 m0 m1 l0 l1 d0 d1 a e c lo hi : Int) (hr : 0 ≤ r0 ∧ 0 ≤ r1 ∧ r0 + r1 ≤ 1099511627776) (hm : 0 ≤ m0 ∧ 0 ≤ m1 ∧ m0 + m1 ≤ 1099511627776) (hl : 0 ≤ l0 ∧ 0 ≤ l1 ∧ l0 + l1 ≤ 1099511627776) (hd : 0 ≤ d0 ∧ 0 ≤ d1 ∧ d0 + d1 ≤ 1099511627776)
    (h0 : 0 ≤ lo) (h1 : lo ≤ hi) (h2 : hi ≤ 26) (ha : 0 ≤ a ∧ a < 18446744073709551616) (he : 0 ≤ e ∧ e < 18446744073709551616) (hc : 0 ≤ c ∧ c < 18446744073709551616) (w : World) :
    Calls Tryz.prog 53 #[.agg #[.int .u64 r0, .int .u64 r1, .int .u64 m0, .int .u64 m1, .int .u64 l0, .int .u64 l1, .int .u64 d0, .int .u64 d1, .int .u64 a, .int .u64 e, .int .u64 c, .bool true, .int .u8 1, .int .u8 1, .int .u8 0, .int .i64 lo, .int .i64 hi, .int .i64 (-1800000000), .int .i64 (-850511287), .int .i64 1800000000, .int .i64 850511287, .int .i64 lo, .int .i64 0, .int .i64 0]] w (HencPost [r0, r1, m0, m1, l0, l1, d0, d1] a e c lo hi w) := by
  have HC := Lib.hid (hcheck_any r0 r1 m0 m1 l0 l1 d0 d1 a e c lo hi hr hm hl hd h0 h1 h2)
  have HF8 : Hid (∀ x ∈ [r0, r1, m0, m1, l0, l1, d0, d1], 0 ≤ x ∧ x < 18446744073709551616) := Lib.hid (by
    intro x hx
    simp only [List.mem_cons, List.not_mem_nil, or_false] at hx
    rcases hx with rfl | rfl | rfl | rfl | rfl | rfl | rfl | rfl <;> omega)
  have HA := Lib.hid ha
  have HE := Lib.hid he
  have HCC := Lib.hid hc
  have HLO : Hid (0 ≤ lo ∧ lo ≤ 26 ∧ 0 ≤ hi ∧ hi ≤ 26) := Lib.hid (by omega)
  clear hr hm hl hd h0 h1 h2 ha he hc
  obtain ⟨j0, hj, jz0, jz1, jz2⟩ := info_parts u8_info
  have i0 : ∀ w, (Instr.index 120 (.agg #[.int .u64 r0, .int .u64 r1, .int .u64 m0, .int .u64 m1, .int .u64 l0, .int .u64 l1, .int .u64 d0, .int .u64 d1]) (.int .i64 0)).run Tryz.prog w = .ok (.agg #[.int .u64 r0, .int .u64 r1]) w := fun _ => by rfl
  have i1 : ∀ w, (Instr.index 120 (.agg #[.int .u64 r0, .int .u64 r1, .int .u64 m0, .int .u64 m1, .int .u64 l0, .int .u64 l1, .int .u64 d0, .int .u64 d1]) (.int .i64 1)).run Tryz.prog w = .ok (.agg #[.int .u64 m0, .int .u64 m1]) w := fun _ => by rfl
  have i2 : ∀ w, (Instr.index 120 (.agg #[.int .u64 r0, .int .u64 r1, .int .u64 m0, .int .u64 m1, .int .u64 l0, .int .u64 l1, .int .u64 d0, .int .u64 d1]) (.int .i64 2)).run Tryz.prog w = .ok (.agg #[.int .u64 l0, .int .u64 l1]) w := fun _ => by rfl
  have i3 : ∀ w, (Instr.index 120 (.agg #[.int .u64 r0, .int .u64 r1, .int .u64 m0, .int .u64 m1, .int .u64 l0, .int .u64 l1, .int .u64 d0, .int .u64 d1]) (.int .i64 3)).run Tryz.prog w = .ok (.agg #[.int .u64 d0, .int .u64 d1]) w := fun _ => by rfl
  have kc := fun (w : World) (C : Array Value) (n c : Nat) => Lib.run_convert_bytes_const (P := Tryz.prog) w 111 5 C n c Tryz.underlying111 Tryz.underlying5
  go_enter Tryz.func53, Tryz.ntmps53
  go_wp2_with (refine wpList_load_row rfl 65 (.tmp 1) rfl _ rfl _ _ _ _ (heap_alloc_new w _) Tryz.underlying65 rfl (by kernel_rfl) ?_)
  refine (HC.out _).mono ?_; rintro x w1 ⟨rfl, hb⟩
  have HB := Lib.hid (blk_one hb).1
  have hw := (blk_one hb).2.2
  clear hb
  go_wp2_with (at_builtin; go_must (refine wpList_append_grows _ rfl (.tmp 15) (.tmp 16) _ rfl 5 j0 _ 1 1 Tryz.underlying111 hj jz0 jz1 jz2 rfl (by omega) (some ⟨w1.heap.size, 0, none⟩) 7 7 [.int .u8 80, .int .u8 77, .int .u8 84, .int .u8 105, .int .u8 108, .int .u8 101, .int .u8 115] rfl (by intro h; cases h) rfl ?c0 ⟨w1.heap.size + 1, 0, none⟩ 1 1 [.int .u8 3] rfl rfl ?c1 ?c2 (by omega) (by simp [maxLen]) (by omega) ?_))
  case c0 =>
    intro b hb j u hu
    injection hb with hb
    subst hb
    exact blkn (blk_alloc (heap_alloc_new w1 _) _) j u hu
  case c1 => intro j u hu; exact blkn (heap_at (by simp)) j u hu
  case c2 => intro u hu; simp at hu; rcases hu with rfl; rfl
  intro v5 w5 hown5 hgr5
  have hb5 : Below w1.heap.size w1 w5 := (show Below w1.heap.size w1 _ from (by repeat (first | with_reducible exact Below.refl _ _ | with_reducible assumption | with_reducible refine Below.setCell ?_ (by first | (simp; done) | (simp; omega) | omega) _ | with_reducible refine Below.alloc ?_ (by first | exact Nat.le_refl _ | (simp; done) | (simp; omega) | omega) _ | with_reducible refine Below.drew ?_))).grown hgr5 (by simp; omega) (fun g hg => by cases hg)
  have HT5 : Hid (Rd8 w5 v5 (Hd.pre r0 r1 m0 m1 l0 l1 d0 d1 0)) := Lib.hid (Rd8.of_row (B := 0) (ownsRow_base hown5 (Nat.zero_le _)))
  have HB5 := Lib.hid (blk_keep2 hb5 HB.out)
  have hw5 := bthen hw hb5
  clear hown5 hgr5
  go_wp2_with (refine wpList_load_row rfl 65 (.tmp 1) rfl _ rfl _ _ _ _ HB5.out Tryz.underlying65 rfl (by kernel_rfl) ?_)
  refine (sections_any r0 r1 m0 m1 l0 l1 d0 d1 a e c lo hi _).mono ?_; rintro x w6 ⟨rfl, hb6⟩
  have HB6 := Lib.hid (blk_keep2 hb6 HB5.out)
  have HT6 := Lib.hid (HT5.out.keep hb6)
  have hw6 := bthen hw5 hb6
  go_wp2_with fail
  go_loopw [5, 7, 20] (fun cv _ ci wr => ∃ k : Nat, k ≤ 4 ∧ ci = .int .i64 k ∧ Hid (Rd8 wr cv (Hd.pre r0 r1 m0 m1 l0 l1 d0 d1 k)) ∧ Hid (wr.heap[w.heap.size]? = some (.cells #[.int .u64 r0, .int .u64 r1, .int .u64 m0, .int .u64 m1, .int .u64 l0, .int .u64 l1, .int .u64 d0, .int .u64 d1, .int .u64 a, .int .u64 e, .int .u64 c, .bool true, .int .u8 1, .int .u8 1, .int .u8 0, .int .i64 lo, .int .i64 hi, .int .i64 (-1800000000), .int .i64 (-850511287), .int .i64 1800000000, .int .i64 850511287, .int .i64 lo, .int .i64 0, .int .i64 0] 65 (0, 0))) ∧ Below w.heap.size w wr) (fun _ _ ci _ => 4 - (intOf ci).toNat)
  case atStart => exact ⟨0, by omega, rfl, HT6, HB6, hw6⟩
  case round =>
    obtain ⟨k, hk, rfl, hT, HH, hbl⟩ := hrel
    obtain ⟨cv, hcv⟩ : ∃ cv, cv = u5 := ⟨_, rfl⟩
    subst hcv
    rcases (show k = 0 ∨ k = 1 ∨ k = 2 ∨ k = 3 ∨ k = 4 by omega) with rfl | rfl | rfl | rfl | rfl
    · go_wp2_with fail
      refine (hput_any cv (Hd.pre r0 r1 m0 m1 l0 l1 d0 d1 0) 8 (some ⟨wr.heap.size + 1, 0, none⟩) 2 2 [r0, r1] (wr.heap.size + 2) _ (hT.out.keep (by exact (by repeat (first | with_reducible exact Below.refl _ _ | with_reducible assumption | with_reducible refine Below.setCell ?_ (by first | (simp; done) | (simp; omega) | omega) _ | with_reducible refine Below.alloc ?_ (by first | exact Nat.le_refl _ | (simp; done) | (simp; omega) | omega) _ | with_reducible refine Below.drew ?_)))) (Nat.le_trans (Hd.pre_len _ _ _ _ _ _ _ _ _) (by omega)) (reads_cells (heap_at (by simp)) rfl (by omega)) rfl (by omega) (by simp) (by omega) (by omega) (fun x hx => HF8.out x (by simp at hx; rcases hx with rfl | rfl <;> simp))).mono ?_
      rintro e w7 ⟨v7, he, hR7, hb7⟩
      subst he
      have hR7' : Hid (Rd8 w7 v7 (Hd.pre r0 r1 m0 m1 l0 l1 d0 d1 1)) := Lib.hid hR7
      have hb8 : Below wr.heap.size wr w7 := (show Below wr.heap.size wr _ from (by repeat (first | with_reducible exact Below.refl _ _ | with_reducible assumption | with_reducible refine Below.setCell ?_ (by first | (simp; done) | (simp; omega) | omega) _ | with_reducible refine Below.alloc ?_ (by first | exact Nat.le_refl _ | (simp; done) | (simp; omega) | omega) _ | with_reducible refine Below.drew ?_))).trans (hb7.mono (by simp; omega))
      have hbl2 := bthen hbl hb8
      have HH2 := Lib.hid (blk_keep2 hb8 HH.out)
      clear hR7 hb7
      go_wp2_with fail
      exact ⟨⟨1, by omega, rfl, hR7', HH2, hbl2⟩, by simp [intOf]⟩
    · go_wp2_with fail
      refine (hput_any cv (Hd.pre r0 r1 m0 m1 l0 l1 d0 d1 1) 8 (some ⟨wr.heap.size + 1, 0, none⟩) 2 2 [m0, m1] (wr.heap.size + 2) _ (hT.out.keep (by exact (by repeat (first | with_reducible exact Below.refl _ _ | with_reducible assumption | with_reducible refine Below.setCell ?_ (by first | (simp; done) | (simp; omega) | omega) _ | with_reducible refine Below.alloc ?_ (by first | exact Nat.le_refl _ | (simp; done) | (simp; omega) | omega) _ | with_reducible refine Below.drew ?_)))) (Nat.le_trans (Hd.pre_len _ _ _ _ _ _ _ _ _) (by omega)) (reads_cells (heap_at (by simp)) rfl (by omega)) rfl (by omega) (by simp) (by omega) (by omega) (fun x hx => HF8.out x (by simp at hx; rcases hx with rfl | rfl <;> simp))).mono ?_
      rintro e w7 ⟨v7, he, hR7, hb7⟩
      subst he
      have hR7' : Hid (Rd8 w7 v7 (Hd.pre r0 r1 m0 m1 l0 l1 d0 d1 2)) := Lib.hid hR7
      have hb8 : Below wr.heap.size wr w7 := (show Below wr.heap.size wr _ from (by repeat (first | with_reducible exact Below.refl _ _ | with_reducible assumption | with_reducible refine Below.setCell ?_ (by first | (simp; done) | (simp; omega) | omega) _ | with_reducible refine Below.alloc ?_ (by first | exact Nat.le_refl _ | (simp; done) | (simp; omega) | omega) _ | with_reducible refine Below.drew ?_))).trans (hb7.mono (by simp; omega))
      have hbl2 := bthen hbl hb8
      have HH2 := Lib.hid (blk_keep2 hb8 HH.out)
      clear hR7 hb7
      go_wp2_with fail
      exact ⟨⟨2, by omega, rfl, hR7', HH2, hbl2⟩, by simp [intOf]⟩
    · go_wp2_with fail
      refine (hput_any cv (Hd.pre r0 r1 m0 m1 l0 l1 d0 d1 2) 8 (some ⟨wr.heap.size + 1, 0, none⟩) 2 2 [l0, l1] (wr.heap.size + 2) _ (hT.out.keep (by exact (by repeat (first | with_reducible exact Below.refl _ _ | with_reducible assumption | with_reducible refine Below.setCell ?_ (by first | (simp; done) | (simp; omega) | omega) _ | with_reducible refine Below.alloc ?_ (by first | exact Nat.le_refl _ | (simp; done) | (simp; omega) | omega) _ | with_reducible refine Below.drew ?_)))) (Nat.le_trans (Hd.pre_len _ _ _ _ _ _ _ _ _) (by omega)) (reads_cells (heap_at (by simp)) rfl (by omega)) rfl (by omega) (by simp) (by omega) (by omega) (fun x hx => HF8.out x (by simp at hx; rcases hx with rfl | rfl <;> simp))).mono ?_
      rintro e w7 ⟨v7, he, hR7, hb7⟩
      subst he
      have hR7' : Hid (Rd8 w7 v7 (Hd.pre r0 r1 m0 m1 l0 l1 d0 d1 3)) := Lib.hid hR7
      have hb8 : Below wr.heap.size wr w7 := (show Below wr.heap.size wr _ from (by repeat (first | with_reducible exact Below.refl _ _ | with_reducible assumption | with_reducible refine Below.setCell ?_ (by first | (simp; done) | (simp; omega) | omega) _ | with_reducible refine Below.alloc ?_ (by first | exact Nat.le_refl _ | (simp; done) | (simp; omega) | omega) _ | with_reducible refine Below.drew ?_))).trans (hb7.mono (by simp; omega))
      have hbl2 := bthen hbl hb8
      have HH2 := Lib.hid (blk_keep2 hb8 HH.out)
      clear hR7 hb7
      go_wp2_with fail
      exact ⟨⟨3, by omega, rfl, hR7', HH2, hbl2⟩, by simp [intOf]⟩
    · go_wp2_with fail
      refine (hput_any cv (Hd.pre r0 r1 m0 m1 l0 l1 d0 d1 3) 8 (some ⟨wr.heap.size + 1, 0, none⟩) 2 2 [d0, d1] (wr.heap.size + 2) _ (hT.out.keep (by exact (by repeat (first | with_reducible exact Below.refl _ _ | with_reducible assumption | with_reducible refine Below.setCell ?_ (by first | (simp; done) | (simp; omega) | omega) _ | with_reducible refine Below.alloc ?_ (by first | exact Nat.le_refl _ | (simp; done) | (simp; omega) | omega) _ | with_reducible refine Below.drew ?_)))) (Nat.le_trans (Hd.pre_len _ _ _ _ _ _ _ _ _) (by omega)) (reads_cells (heap_at (by simp)) rfl (by omega)) rfl (by omega) (by simp) (by omega) (by omega) (fun x hx => HF8.out x (by simp at hx; rcases hx with rfl | rfl <;> simp))).mono ?_
      rintro e w7 ⟨v7, he, hR7, hb7⟩
      subst he
      have hR7' : Hid (Rd8 w7 v7 (Hd.pre r0 r1 m0 m1 l0 l1 d0 d1 4)) := Lib.hid hR7
      have hb8 : Below wr.heap.size wr w7 := (show Below wr.heap.size wr _ from (by repeat (first | with_reducible exact Below.refl _ _ | with_reducible assumption | with_reducible refine Below.setCell ?_ (by first | (simp; done) | (simp; omega) | omega) _ | with_reducible refine Below.alloc ?_ (by first | exact Nat.le_refl _ | (simp; done) | (simp; omega) | omega) _ | with_reducible refine Below.drew ?_))).trans (hb7.mono (by simp; omega))
      have hbl2 := bthen hbl hb8
      have HH2 := Lib.hid (blk_keep2 hb8 HH.out)
      clear hR7 hb7
      go_wp2_with fail
      exact ⟨⟨4, by omega, rfl, hR7', HH2, hbl2⟩, by simp [intOf]⟩
    · have hz := blk_lt HH.out
      have hA := HA.out
      have hE := HE.out
      have hC := HCC.out
      obtain ⟨hlo0, hlo1, hhi0, hhi1⟩ := HLO.out
      have HLEN : Hid ((Hd.pre r0 r1 m0 m1 l0 l1 d0 d1 4).length ≤ 72) := Lib.hid (Hd.pre_len _ _ _ _ _ _ _ _ _)
      have c8 : wr.cell? ⟨w.heap.size, 8, none⟩ = some (.int .u64 a) := cell_of_row wr w.heap.size 8 _ _ _ HH.out
      have c9 : wr.cell? ⟨w.heap.size, 9, none⟩ = some (.int .u64 e) := cell_of_row wr w.heap.size 9 _ _ _ HH.out
      have c10 : wr.cell? ⟨w.heap.size, 10, none⟩ = some (.int .u64 c) := cell_of_row wr w.heap.size 10 _ _ _ HH.out
      go_wp2_with fail
      refine (hput_any cv (Hd.pre r0 r1 m0 m1 l0 l1 d0 d1 4) 8 (some ⟨wr.heap.size, 0, none⟩) 3 3 [a, e, c] (wr.heap.size + 1) _ (hT.out.keep (by exact (by repeat (first | with_reducible exact Below.refl _ _ | with_reducible assumption | with_reducible refine Below.setCell ?_ (by first | (simp; done) | (simp; omega) | omega) _ | with_reducible refine Below.alloc ?_ (by first | exact Nat.le_refl _ | (simp; done) | (simp; omega) | omega) _ | with_reducible refine Below.drew ?_)))) (Nat.le_trans HLEN.out (by omega)) (reads_cells (heap_at rfl) rfl (by omega)) rfl (by omega) (by simp) (by omega) (by omega) (fun x hx => by simp at hx; rcases hx with rfl | rfl | rfl <;> omega)).mono ?_
      rintro x w10 ⟨v10, he, hR10, hb10⟩
      subst he
      have HT10 : Hid (Rd8 w10 v10 (Hd.pre r0 r1 m0 m1 l0 l1 d0 d1 4 ++ Hd.cat 8 [a, e, c])) := Lib.hid hR10
      have hbb10 : Below wr.heap.size wr w10 := (show Below wr.heap.size wr _ from (by repeat (first | with_reducible exact Below.refl _ _ | with_reducible assumption | with_reducible refine Below.setCell ?_ (by first | (simp; done) | (simp; omega) | omega) _ | with_reducible refine Below.alloc ?_ (by first | exact Nat.le_refl _ | (simp; done) | (simp; omega) | omega) _ | with_reducible refine Below.drew ?_))).trans (hb10.mono (by simp))
      have HH10 := Lib.hid (blk_keep2 hbb10 HH.out)
      have hbl10 := bthen hbl hbb10
      have HLEN10 : Hid (((Hd.pre r0 r1 m0 m1 l0 l1 d0 d1 4 ++ Hd.cat 8 [a, e, c])).length ≤ 96) := Lib.hid (by rw [List.length_append, Hd.cat_len]; have := HLEN.out; simp only [List.length_cons, List.length_nil]; omega)
      clear hR10 hb10 hbb10 c8 c9 c10
      have c11 : w10.cell? ⟨w.heap.size, 11, none⟩ = some (.bool true) := cell_of_row w10 w.heap.size 11 _ _ _ HH10.out
      have c12 : w10.cell? ⟨w.heap.size, 12, none⟩ = some (.int .u8 1) := cell_of_row w10 w.heap.size 12 _ _ _ HH10.out
      have c13 : w10.cell? ⟨w.heap.size, 13, none⟩ = some (.int .u8 1) := cell_of_row w10 w.heap.size 13 _ _ _ HH10.out
      have c14 : w10.cell? ⟨w.heap.size, 14, none⟩ = some (.int .u8 0) := cell_of_row w10 w.heap.size 14 _ _ _ HH10.out
      have c15 : w10.cell? ⟨w.heap.size, 15, none⟩ = some (.int .i64 lo) := cell_of_row w10 w.heap.size 15 _ _ _ HH10.out
      have c16 : w10.cell? ⟨w.heap.size, 16, none⟩ = some (.int .i64 hi) := cell_of_row w10 w.heap.size 16 _ _ _ HH10.out
      go_wp2_with fail
      refine (hput_any v10 (Hd.pre r0 r1 m0 m1 l0 l1 d0 d1 4 ++ Hd.cat 8 [a, e, c]) 1 (some ⟨w10.heap.size, 0, none⟩) 6 6 [1, 1, 1, 0, lo, hi] (w10.heap.size + 1) _ (HT10.out.keep (by exact (by repeat (first | with_reducible exact Below.refl _ _ | with_reducible assumption | with_reducible refine Below.setCell ?_ (by first | (simp; done) | (simp; omega) | omega) _ | with_reducible refine Below.alloc ?_ (by first | exact Nat.le_refl _ | (simp; done) | (simp; omega) | omega) _ | with_reducible refine Below.drew ?_)))) (Nat.le_trans HLEN10.out (by omega)) (reads_cells (heap_at rfl) rfl (by omega)) rfl (by omega) (by simp) (by omega) (by omega) (fun x hx => by simp at hx; rcases hx with rfl | rfl | rfl | rfl <;> omega)).mono ?_
      rintro x w11 ⟨v11, he, hR11, hb11⟩
      subst he
      have HT11 : Hid (Rd8 w11 v11 (Hd.pre r0 r1 m0 m1 l0 l1 d0 d1 4 ++ Hd.cat 8 [a, e, c] ++ Hd.cat 1 [1, 1, 1, 0, lo, hi])) := Lib.hid hR11
      have hbb11 : Below w10.heap.size w10 w11 := (show Below w10.heap.size w10 _ from (by repeat (first | with_reducible exact Below.refl _ _ | with_reducible assumption | with_reducible refine Below.setCell ?_ (by first | (simp; done) | (simp; omega) | omega) _ | with_reducible refine Below.alloc ?_ (by first | exact Nat.le_refl _ | (simp; done) | (simp; omega) | omega) _ | with_reducible refine Below.drew ?_))).trans (hb11.mono (by simp))
      have HH11 := Lib.hid (blk_keep2 hbb11 HH10.out)
      have hbl11 := bthen hbl10 hbb11
      have HLEN11 : Hid (((Hd.pre r0 r1 m0 m1 l0 l1 d0 d1 4 ++ Hd.cat 8 [a, e, c] ++ Hd.cat 1 [1, 1, 1, 0, lo, hi])).length ≤ 102) := Lib.hid (by rw [List.length_append, Hd.cat_len]; have := HLEN10.out; simp only [List.length_cons, List.length_nil]; omega)
      clear hR11 hb11 hbb11 c11 c12 c13 c14 c15 c16
      have c17 : w11.cell? ⟨w.heap.size, 17, none⟩ = some (.int .i64 (-1800000000)) := cell_of_row w11 w.heap.size 17 _ _ _ HH11.out
      have c18 : w11.cell? ⟨w.heap.size, 18, none⟩ = some (.int .i64 (-850511287)) := cell_of_row w11 w.heap.size 18 _ _ _ HH11.out
      have c19 : w11.cell? ⟨w.heap.size, 19, none⟩ = some (.int .i64 1800000000) := cell_of_row w11 w.heap.size 19 _ _ _ HH11.out
      have c20 : w11.cell? ⟨w.heap.size, 20, none⟩ = some (.int .i64 850511287) := cell_of_row w11 w.heap.size 20 _ _ _ HH11.out
      go_wp2_with fail
      refine (hdeg_any v11 (Hd.pre r0 r1 m0 m1 l0 l1 d0 d1 4 ++ Hd.cat 8 [a, e, c] ++ Hd.cat 1 [1, 1, 1, 0, lo, hi]) (some ⟨w11.heap.size, 0, none⟩) 4 4 [-1800000000, -850511287, 1800000000, 850511287] (w11.heap.size + 1) _ (HT11.out.keep (by exact (by repeat (first | with_reducible exact Below.refl _ _ | with_reducible assumption | with_reducible refine Below.setCell ?_ (by first | (simp; done) | (simp; omega) | omega) _ | with_reducible refine Below.alloc ?_ (by first | exact Nat.le_refl _ | (simp; done) | (simp; omega) | omega) _ | with_reducible refine Below.drew ?_)))) (Nat.le_trans HLEN11.out (by omega)) (reads_cells (heap_at rfl) rfl (by omega)) rfl (by omega) (by simp) (fun x hx => by simp at hx; rcases hx with rfl | rfl | rfl | rfl <;> omega)).mono ?_
      rintro x w12 ⟨v12, he, hR12, hb12⟩
      subst he
      have HT12 : Hid (Rd8 w12 v12 (Hd.pre r0 r1 m0 m1 l0 l1 d0 d1 4 ++ Hd.cat 8 [a, e, c] ++ Hd.cat 1 [1, 1, 1, 0, lo, hi] ++ Hd.cat 4 ([-1800000000, -850511287, 1800000000, 850511287].map (· % 4294967296)))) := Lib.hid hR12
      have hbb12 : Below w11.heap.size w11 w12 := (show Below w11.heap.size w11 _ from (by repeat (first | with_reducible exact Below.refl _ _ | with_reducible assumption | with_reducible refine Below.setCell ?_ (by first | (simp; done) | (simp; omega) | omega) _ | with_reducible refine Below.alloc ?_ (by first | exact Nat.le_refl _ | (simp; done) | (simp; omega) | omega) _ | with_reducible refine Below.drew ?_))).trans (hb12.mono (by simp))
      have HH12 := Lib.hid (blk_keep2 hbb12 HH11.out)
      have hbl12 := bthen hbl11 hbb12
      have HLEN12 : Hid (((Hd.pre r0 r1 m0 m1 l0 l1 d0 d1 4 ++ Hd.cat 8 [a, e, c] ++ Hd.cat 1 [1, 1, 1, 0, lo, hi] ++ Hd.cat 4 ([-1800000000, -850511287, 1800000000, 850511287].map (· % 4294967296)))).length ≤ 118) := Lib.hid (by rw [List.length_append, Hd.cat_len]; have := HLEN11.out; simp only [List.length_map, List.length_cons, List.length_nil]; omega)
      clear hR12 hb12 hbb12 c17 c18 c19 c20
      have c21 : w12.cell? ⟨w.heap.size, 21, none⟩ = some (.int .i64 lo) := cell_of_row w12 w.heap.size 21 _ _ _ HH12.out
      go_wp2_with fail
      refine (hput_any v12 (Hd.pre r0 r1 m0 m1 l0 l1 d0 d1 4 ++ Hd.cat 8 [a, e, c] ++ Hd.cat 1 [1, 1, 1, 0, lo, hi] ++ Hd.cat 4 ([-1800000000, -850511287, 1800000000, 850511287].map (· % 4294967296))) 1 (some ⟨w12.heap.size, 0, none⟩) 1 1 [lo] (w12.heap.size + 1) _ (HT12.out.keep (by exact (by repeat (first | with_reducible exact Below.refl _ _ | with_reducible assumption | with_reducible refine Below.setCell ?_ (by first | (simp; done) | (simp; omega) | omega) _ | with_reducible refine Below.alloc ?_ (by first | exact Nat.le_refl _ | (simp; done) | (simp; omega) | omega) _ | with_reducible refine Below.drew ?_)))) (Nat.le_trans HLEN12.out (by omega)) (reads_cells (heap_at rfl) rfl (by omega)) rfl (by omega) (by simp) (by omega) (by omega) (fun x hx => by simp at hx; subst hx; omega)).mono ?_
      rintro x w13 ⟨v13, he, hR13, hb13⟩
      subst he
      have HT13 : Hid (Rd8 w13 v13 (Hd.pre r0 r1 m0 m1 l0 l1 d0 d1 4 ++ Hd.cat 8 [a, e, c] ++ Hd.cat 1 [1, 1, 1, 0, lo, hi] ++ Hd.cat 4 ([-1800000000, -850511287, 1800000000, 850511287].map (· % 4294967296)) ++ Hd.cat 1 [lo])) := Lib.hid hR13
      have hbb13 : Below w12.heap.size w12 w13 := (show Below w12.heap.size w12 _ from (by repeat (first | with_reducible exact Below.refl _ _ | with_reducible assumption | with_reducible refine Below.setCell ?_ (by first | (simp; done) | (simp; omega) | omega) _ | with_reducible refine Below.alloc ?_ (by first | exact Nat.le_refl _ | (simp; done) | (simp; omega) | omega) _ | with_reducible refine Below.drew ?_))).trans (hb13.mono (by simp))
      have HH13 := Lib.hid (blk_keep2 hbb13 HH12.out)
      have hbl13 := bthen hbl12 hbb13
      have HLEN13 : Hid (((Hd.pre r0 r1 m0 m1 l0 l1 d0 d1 4 ++ Hd.cat 8 [a, e, c] ++ Hd.cat 1 [1, 1, 1, 0, lo, hi] ++ Hd.cat 4 ([-1800000000, -850511287, 1800000000, 850511287].map (· % 4294967296)) ++ Hd.cat 1 [lo])).length ≤ 119) := Lib.hid (by rw [List.length_append, Hd.cat_len]; have := HLEN12.out; simp only [List.length_cons, List.length_nil]; omega)
      clear hR13 hb13 hbb13 c21
      have c22 : w13.cell? ⟨w.heap.size, 22, none⟩ = some (.int .i64 0) := cell_of_row w13 w.heap.size 22 _ _ _ HH13.out
      have c23 : w13.cell? ⟨w.heap.size, 23, none⟩ = some (.int .i64 0) := cell_of_row w13 w.heap.size 23 _ _ _ HH13.out
      go_wp2_with fail
      refine (hdeg_any v13 (Hd.pre r0 r1 m0 m1 l0 l1 d0 d1 4 ++ Hd.cat 8 [a, e, c] ++ Hd.cat 1 [1, 1, 1, 0, lo, hi] ++ Hd.cat 4 ([-1800000000, -850511287, 1800000000, 850511287].map (· % 4294967296)) ++ Hd.cat 1 [lo]) (some ⟨w13.heap.size, 0, none⟩) 2 2 [0, 0] (w13.heap.size + 1) _ (HT13.out.keep (by exact (by repeat (first | with_reducible exact Below.refl _ _ | with_reducible assumption | with_reducible refine Below.setCell ?_ (by first | (simp; done) | (simp; omega) | omega) _ | with_reducible refine Below.alloc ?_ (by first | exact Nat.le_refl _ | (simp; done) | (simp; omega) | omega) _ | with_reducible refine Below.drew ?_)))) (Nat.le_trans HLEN13.out (by omega)) (reads_cells (heap_at rfl) rfl (by omega)) rfl (by omega) (by simp) (fun x hx => by simp at hx; subst hx; omega)).mono ?_
      rintro x w14 ⟨v14, he, hR14, hb14⟩
      subst he
      have HT14 : Hid (Rd8 w14 v14 (Hd.pre r0 r1 m0 m1 l0 l1 d0 d1 4 ++ Hd.cat 8 [a, e, c] ++ Hd.cat 1 [1, 1, 1, 0, lo, hi] ++ Hd.cat 4 ([-1800000000, -850511287, 1800000000, 850511287].map (· % 4294967296)) ++ Hd.cat 1 [lo] ++ Hd.cat 4 ([0, 0].map (· % 4294967296)))) := Lib.hid hR14
      have hbb14 : Below w13.heap.size w13 w14 := (show Below w13.heap.size w13 _ from (by repeat (first | with_reducible exact Below.refl _ _ | with_reducible assumption | with_reducible refine Below.setCell ?_ (by first | (simp; done) | (simp; omega) | omega) _ | with_reducible refine Below.alloc ?_ (by first | exact Nat.le_refl _ | (simp; done) | (simp; omega) | omega) _ | with_reducible refine Below.drew ?_))).trans (hb14.mono (by simp))
      have HH14 := Lib.hid (blk_keep2 hbb14 HH13.out)
      have hbl14 := bthen hbl13 hbb14
      have HLEN14 : Hid (((Hd.pre r0 r1 m0 m1 l0 l1 d0 d1 4 ++ Hd.cat 8 [a, e, c] ++ Hd.cat 1 [1, 1, 1, 0, lo, hi] ++ Hd.cat 4 ([-1800000000, -850511287, 1800000000, 850511287].map (· % 4294967296)) ++ Hd.cat 1 [lo] ++ Hd.cat 4 ([0, 0].map (· % 4294967296)))).length ≤ 127) := Lib.hid (by rw [List.length_append, Hd.cat_len]; have := HLEN13.out; simp only [List.length_map, List.length_cons, List.length_nil]; omega)
      clear hR14 hb14 hbb14 c22 c23
      have HEQ : Hid (Hd.bytes [r0, r1, m0, m1, l0, l1, d0, d1] a e c lo hi = Hd.pre r0 r1 m0 m1 l0 l1 d0 d1 4 ++ Hd.cat 8 [a, e, c] ++ Hd.cat 1 [1, 1, 1, 0, lo, hi] ++ Hd.cat 4 ([-1800000000, -850511287, 1800000000, 850511287].map (· % 4294967296)) ++ Hd.cat 1 [lo] ++ Hd.cat 4 ([0, 0].map (· % 4294967296))) := Lib.hid (by simp [Hd.bytes, Hd.pre, Hd.fields, Hd.lay, Hd.cat])
      have hT9 := HT14.out
      rw [← HEQ.out] at hT9
      obtain ⟨A9, c9, hv9, _, hR9⟩ := hT9
      obtain ⟨q9, hq9⟩ : ∃ q, q = (Hd.bytes [r0, r1, m0, m1, l0, l1, d0, d1] a e c lo hi).length := ⟨_, rfl⟩
      rw [← hq9] at hv9 hR9
      have hstr := row8_str (c := c9) hR9 hq9
      subst hv9
      clear hq9 hR9
      go_wp2_with fail
      go_ret2
      exact ⟨rfl, hbl14⟩
end Go.Proofs.YtlfahmdndlmhpaaGreatDoor
