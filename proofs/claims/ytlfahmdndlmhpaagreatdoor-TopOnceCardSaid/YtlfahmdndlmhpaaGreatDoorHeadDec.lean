/- The walk of the header's Decode. -/
import Derived.Test.YtlfahmdndlmhpaaGreatDoorM13
import Derived.Test.YtlfahmdndlmhpaaGreatDoorM14
import Derived.Test.YtlfahmdndlmhpaaGreatDoorShelf
import Derived.Test.YtlfahmdndlmhpaaGreatDoorM07
import Derived.Laws.Tables
import Derived.Deep.Cut
import Derived.Laws.CopyOwn
namespace Go.Proofs.YtlfahmdndlmhpaaGreatDoor
open Go.RowKit

theorem Hd.get {s : ByteArray} {S R : List Int} {a e c lo hi : Int} (hs : Vi.nums s = Hd.bytes S a e c lo hi ++ R) (i n o : Nat) (x : Int) (h : (Hd.fields S a e c lo hi)[i]? = some (n, x)) (h0 : 0 ≤ x) (h1 : x < (256 : Int) ^ n) (ho : o = 8 + (((Hd.fields S a e c lo hi).take i).map (·.1)).sum) : Tk.v s o n = x := by
  have hil : i < (Hd.fields S a e c lo hi).length := (List.getElem?_eq_some_iff.1 h).1
  have hx : (Hd.fields S a e c lo hi)[i]'hil = (n, x) := (List.getElem?_eq_some_iff.1 h).2
  have e1 : Hd.lay (Hd.fields S a e c lo hi) = Hd.lay ((Hd.fields S a e c lo hi).take i) ++ (Lt.le n x ++ Hd.lay ((Hd.fields S a e c lo hi).drop (i + 1))) := by
    have h2 : Hd.lay ((Hd.fields S a e c lo hi).drop i) = Lt.le n x ++ Hd.lay ((Hd.fields S a e c lo hi).drop (i + 1)) := by rw [List.drop_eq_getElem_cons hil, Hd.lay_cons, hx]
    rw [← h2]
    unfold Hd.lay
    rw [← List.flatMap_append, List.take_append_drop]
  unfold Tk.v
  rw [hs]
  unfold Hd.bytes
  rw [e1]
  have e2 : (Hd.magic ++ Hd.lay ((Hd.fields S a e c lo hi).take i)).length = o := by
    rw [List.length_append, Hd.lay_len, ho]; rfl
  rw [show Hd.magic ++ (Hd.lay ((Hd.fields S a e c lo hi).take i) ++ (Lt.le n x ++ Hd.lay ((Hd.fields S a e c lo hi).drop (i + 1)))) ++ R = (Hd.magic ++ Hd.lay ((Hd.fields S a e c lo hi).take i)) ++ (Lt.le n x ++ (Hd.lay ((Hd.fields S a e c lo hi).drop (i + 1)) ++ R)) by simp only [List.append_assoc]]
  rw [List.drop_left' e2, List.take_left' (Lt.le_len n x)]
  exact Lt.val_le n x h0 h1
theorem Hd.pref {s : ByteArray} {S R : List Int} {a e c lo hi : Int} (hs : Vi.nums s = Hd.bytes S a e c lo hi ++ R) : Lib.hasPrefix s.data.toList [80, 77, 84, 105, 108, 101, 115] = true := by
  have h : s.data.toList = (Vi.nums s).map fun n => UInt8.ofNat n.toNat := by
    unfold Vi.nums
    rw [List.map_map]
    have : ∀ l : List UInt8, l = l.map ((fun n : Int => UInt8.ofNat n.toNat) ∘ fun u : UInt8 => (u.toNat : Int)) := fun l => by
      induction l with
      | nil => rfl
      | cons b l ih => rw [List.map_cons, ← ih]; simp
    exact this _
  rw [h, hs]
  unfold Hd.bytes Hd.magic
  simp [Lib.hasPrefix, List.isPrefixOf]
theorem Hd.seven {s : ByteArray} {S R : List Int} {a e c lo hi : Int} (hs : Vi.nums s = Hd.bytes S a e c lo hi ++ R) (h : 7 < s.size) : ((s[7]'h).toNat : Int) = 3 := by
  have h1 := Vi.nums_at s 7 h
  rw [hs] at h1
  unfold Hd.bytes Hd.magic at h1
  simp at h1
  omega
def HdecPost (v : Value) (w : World) (x : Ending) (w' : World) : Prop := x = .returned (.tuple #[v, .int .i64 0]) ∧ Below w.heap.size w w'
set_option maxRecDepth 100000 in
set_option maxHeartbeats 8000000 in
theorem hdec_any (r0 r1 m0 m1 l0 l1 d0 d1 a e c lo hi : Int) (hr : 0 ≤ r0 ∧ 0 ≤ r1 ∧ r0 + r1 ≤ 1099511627776) (hm : 0 ≤ m0 ∧ 0 ≤ m1 ∧ m0 + m1 ≤ 1099511627776) (hl : 0 ≤ l0 ∧ 0 ≤ l1 ∧ l0 + l1 ≤ 1099511627776) (hd : 0 ≤ d0 ∧ 0 ≤ d1 ∧ d0 + d1 ≤ 1099511627776)
    (h0 : 0 ≤ lo) (h1 : lo ≤ hi) (h2 : hi ≤ 26) (ha : 0 ≤ a ∧ a < 18446744073709551616) (he : 0 ≤ e ∧ e < 18446744073709551616) (hc : 0 ≤ c ∧ c < 18446744073709551616) (s : ByteArray) (R : List Int) (hs : Vi.nums s = Hd.bytes [r0, r1, m0, m1, l0, l1, d0, d1] a e c lo hi ++ R) (hz : s.size ≤ 1000000) (w : World) :
    Calls Tryz.prog 59 #[.string s] w (HdecPost (.agg #[.int .u64 r0, .int .u64 r1, .int .u64 m0, .int .u64 m1, .int .u64 l0, .int .u64 l1, .int .u64 d0, .int .u64 d1, .int .u64 a, .int .u64 e, .int .u64 c, .bool true, .int .u8 1, .int .u8 1, .int .u8 0, .int .i64 lo, .int .i64 hi, .int .i64 (-1800000000), .int .i64 (-850511287), .int .i64 1800000000, .int .i64 850511287, .int .i64 lo, .int .i64 0, .int .i64 0]) w) := by
  have HC := Lib.hid (hcheck_any r0 r1 m0 m1 l0 l1 d0 d1 a e c lo hi hr hm hl hd h0 h1 h2)
  have hlen : 127 ≤ s.size := by rw [← Vi.nums_len, hs, List.length_append, Hd.bytes_len rfl]; omega
  have V8 : Hid (Tk.v s 8 8 = r0) := Lib.hid (Hd.get hs 0 8 8 r0 (by kernel_rfl) (by omega) (by simp; omega) (by kernel_rfl))
  have V16 : Hid (Tk.v s 16 8 = r1) := Lib.hid (Hd.get hs 1 8 16 r1 (by kernel_rfl) (by omega) (by simp; omega) (by kernel_rfl))
  have V24 : Hid (Tk.v s 24 8 = m0) := Lib.hid (Hd.get hs 2 8 24 m0 (by kernel_rfl) (by omega) (by simp; omega) (by kernel_rfl))
  have V32 : Hid (Tk.v s 32 8 = m1) := Lib.hid (Hd.get hs 3 8 32 m1 (by kernel_rfl) (by omega) (by simp; omega) (by kernel_rfl))
  have V40 : Hid (Tk.v s 40 8 = l0) := Lib.hid (Hd.get hs 4 8 40 l0 (by kernel_rfl) (by omega) (by simp; omega) (by kernel_rfl))
  have V48 : Hid (Tk.v s 48 8 = l1) := Lib.hid (Hd.get hs 5 8 48 l1 (by kernel_rfl) (by omega) (by simp; omega) (by kernel_rfl))
  have V56 : Hid (Tk.v s 56 8 = d0) := Lib.hid (Hd.get hs 6 8 56 d0 (by kernel_rfl) (by omega) (by simp; omega) (by kernel_rfl))
  have V64 : Hid (Tk.v s 64 8 = d1) := Lib.hid (Hd.get hs 7 8 64 d1 (by kernel_rfl) (by omega) (by simp; omega) (by kernel_rfl))
  have V72 : Hid (Tk.v s 72 8 = a) := Lib.hid (Hd.get hs 8 8 72 a (by kernel_rfl) (by omega) (by simp; omega) (by kernel_rfl))
  have V80 : Hid (Tk.v s 80 8 = e) := Lib.hid (Hd.get hs 9 8 80 e (by kernel_rfl) (by omega) (by simp; omega) (by kernel_rfl))
  have V88 : Hid (Tk.v s 88 8 = c) := Lib.hid (Hd.get hs 10 8 88 c (by kernel_rfl) (by omega) (by simp; omega) (by kernel_rfl))
  have V96 : Hid (Tk.v s 96 1 = 1) := Lib.hid (Hd.get hs 11 1 96 1 (by kernel_rfl) (by omega) (by simp) (by kernel_rfl))
  have V97 : Hid (Tk.v s 97 1 = 1) := Lib.hid (Hd.get hs 12 1 97 1 (by kernel_rfl) (by omega) (by simp) (by kernel_rfl))
  have V98 : Hid (Tk.v s 98 1 = 1) := Lib.hid (Hd.get hs 13 1 98 1 (by kernel_rfl) (by omega) (by simp) (by kernel_rfl))
  have V99 : Hid (Tk.v s 99 1 = 0) := Lib.hid (Hd.get hs 14 1 99 0 (by kernel_rfl) (by omega) (by simp) (by kernel_rfl))
  have V100 : Hid (Tk.v s 100 1 = lo) := Lib.hid (Hd.get hs 15 1 100 lo (by kernel_rfl) (by omega) (by simp; omega) (by kernel_rfl))
  have V101 : Hid (Tk.v s 101 1 = hi) := Lib.hid (Hd.get hs 16 1 101 hi (by kernel_rfl) (by omega) (by simp; omega) (by kernel_rfl))
  have V102 : Hid (Tk.v s 102 4 = 2494967296) := Lib.hid (Hd.get hs 17 4 102 2494967296 (by kernel_rfl) (by omega) (by simp) (by kernel_rfl))
  have V106 : Hid (Tk.v s 106 4 = 3444456009) := Lib.hid (Hd.get hs 18 4 106 3444456009 (by kernel_rfl) (by omega) (by simp) (by kernel_rfl))
  have V110 : Hid (Tk.v s 110 4 = 1800000000) := Lib.hid (Hd.get hs 19 4 110 1800000000 (by kernel_rfl) (by omega) (by simp) (by kernel_rfl))
  have V114 : Hid (Tk.v s 114 4 = 850511287) := Lib.hid (Hd.get hs 20 4 114 850511287 (by kernel_rfl) (by omega) (by simp) (by kernel_rfl))
  have V118 : Hid (Tk.v s 118 1 = lo) := Lib.hid (Hd.get hs 21 1 118 lo (by kernel_rfl) (by omega) (by simp; omega) (by kernel_rfl))
  have V119 : Hid (Tk.v s 119 4 = 0) := Lib.hid (Hd.get hs 22 4 119 0 (by kernel_rfl) (by omega) (by simp) (by kernel_rfl))
  have V123 : Hid (Tk.v s 123 4 = 0) := Lib.hid (Hd.get hs 23 4 123 0 (by kernel_rfl) (by omega) (by simp) (by kernel_rfl))
  have HP := Lib.hid (Hd.pref hs)
  have h7 : 7 < s.size := by omega
  have hsev := Hd.seven hs h7
  have HLO : Hid (0 ≤ lo ∧ lo ≤ 26 ∧ 0 ≤ hi ∧ hi ≤ 26) := Lib.hid (by omega)
  clear hr hm hl hd h0 h1 h2 ha he hc hs
  go_enter Tryz.func59, Tryz.ntmps59
  go_wp2_with fail
  refine (Tryz.strings_HasPrefix _ _ _).mono ?_; rintro x w1 ⟨hx, rfl⟩
  have hx' : x = .returned (.bool true) := by rw [hx]; exact congrArg (fun b => Ending.returned (.bool b)) HP.out
  subst hx'
  clear hx
  have hlen127 : (127 : Int) ≤ (s.size : Int) := by omega
  go_wp2_with fail
  have HB0 : Hid ((((w.alloc (.cells #[.int .u64 0, .int .u64 0, .int .u64 0, .int .u64 0, .int .u64 0, .int .u64 0, .int .u64 0, .int .u64 0, .int .u64 0, .int .u64 0, .int .u64 0, .bool false, .int .u8 0, .int .u8 0, .int .u8 0, .int .i64 0, .int .i64 0, .int .i64 0, .int .i64 0, .int .i64 0, .int .i64 0, .int .i64 0, .int .i64 0, .int .i64 0] 65)).alloc (.cells #[.string s, .int .i64 8, .int .i64 0] 187)).alloc (.cells #[.int .u64 0, .int .u64 0, .int .u64 0, .int .u64 0, .int .u64 0, .int .u64 0, .int .u64 0, .int .u64 0, .int .u64 0, .int .u64 0, .int .u64 0, .bool false, .int .u8 0, .int .u8 0, .int .u8 0, .int .i64 0, .int .i64 0, .int .i64 0, .int .i64 0, .int .i64 0, .int .i64 0, .int .i64 0, .int .i64 0, .int .i64 0] 65)).heap[w.heap.size]? = some (.cells #[.int .u64 0, .int .u64 0, .int .u64 0, .int .u64 0, .int .u64 0, .int .u64 0, .int .u64 0, .int .u64 0, .int .u64 0, .int .u64 0, .int .u64 0, .bool false, .int .u8 0, .int .u8 0, .int .u8 0, .int .i64 0, .int .i64 0, .int .i64 0, .int .i64 0, .int .i64 0, .int .i64 0, .int .i64 0, .int .i64 0, .int .i64 0] 65 (0, 0))) := Lib.hid (blk_alloc (blk_alloc (heap_alloc_new w _) _) _)
  have HT0 : Hid (Tk (((w.alloc (.cells #[.int .u64 0, .int .u64 0, .int .u64 0, .int .u64 0, .int .u64 0, .int .u64 0, .int .u64 0, .int .u64 0, .int .u64 0, .int .u64 0, .int .u64 0, .bool false, .int .u8 0, .int .u8 0, .int .u8 0, .int .i64 0, .int .i64 0, .int .i64 0, .int .i64 0, .int .i64 0, .int .i64 0, .int .i64 0, .int .i64 0, .int .i64 0] 65)).alloc (.cells #[.string s, .int .i64 8, .int .i64 0] 187)).alloc (.cells #[.int .u64 0, .int .u64 0, .int .u64 0, .int .u64 0, .int .u64 0, .int .u64 0, .int .u64 0, .int .u64 0, .int .u64 0, .int .u64 0, .int .u64 0, .bool false, .int .u8 0, .int .u8 0, .int .u8 0, .int .i64 0, .int .i64 0, .int .i64 0, .int .i64 0, .int .i64 0, .int .i64 0, .int .i64 0, .int .i64 0, .int .i64 0] 65)) (w.heap.size + 1) s 8) := Lib.hid (blk_alloc (heap_at (by simp)) _)
  have HH0 : Hid ((((w.alloc (.cells #[.int .u64 0, .int .u64 0, .int .u64 0, .int .u64 0, .int .u64 0, .int .u64 0, .int .u64 0, .int .u64 0, .int .u64 0, .int .u64 0, .int .u64 0, .bool false, .int .u8 0, .int .u8 0, .int .u8 0, .int .i64 0, .int .i64 0, .int .i64 0, .int .i64 0, .int .i64 0, .int .i64 0, .int .i64 0, .int .i64 0, .int .i64 0] 65)).alloc (.cells #[.string s, .int .i64 8, .int .i64 0] 187)).alloc (.cells #[.int .u64 0, .int .u64 0, .int .u64 0, .int .u64 0, .int .u64 0, .int .u64 0, .int .u64 0, .int .u64 0, .int .u64 0, .int .u64 0, .int .u64 0, .bool false, .int .u8 0, .int .u8 0, .int .u8 0, .int .i64 0, .int .i64 0, .int .i64 0, .int .i64 0, .int .i64 0, .int .i64 0, .int .i64 0, .int .i64 0, .int .i64 0] 65)).heap[w.heap.size + 2]? = some (.cells #[.int .u64 0, .int .u64 0, .int .u64 0, .int .u64 0, .int .u64 0, .int .u64 0, .int .u64 0, .int .u64 0, .int .u64 0, .int .u64 0, .int .u64 0, .bool false, .int .u8 0, .int .u8 0, .int .u8 0, .int .i64 0, .int .i64 0, .int .i64 0, .int .i64 0, .int .i64 0, .int .i64 0, .int .i64 0, .int .i64 0, .int .i64 0] 65 (0, 0))) := Lib.hid (heap_at (by simp))
  have hb0 : Below w.heap.size w (((w.alloc (.cells #[.int .u64 0, .int .u64 0, .int .u64 0, .int .u64 0, .int .u64 0, .int .u64 0, .int .u64 0, .int .u64 0, .int .u64 0, .int .u64 0, .int .u64 0, .bool false, .int .u8 0, .int .u8 0, .int .u8 0, .int .i64 0, .int .i64 0, .int .i64 0, .int .i64 0, .int .i64 0, .int .i64 0, .int .i64 0, .int .i64 0, .int .i64 0] 65)).alloc (.cells #[.string s, .int .i64 8, .int .i64 0] 187)).alloc (.cells #[.int .u64 0, .int .u64 0, .int .u64 0, .int .u64 0, .int .u64 0, .int .u64 0, .int .u64 0, .int .u64 0, .int .u64 0, .int .u64 0, .int .u64 0, .bool false, .int .u8 0, .int .u8 0, .int .u8 0, .int .i64 0, .int .i64 0, .int .i64 0, .int .i64 0, .int .i64 0, .int .i64 0, .int .i64 0, .int .i64 0, .int .i64 0] 65)) := (by repeat (first | with_reducible exact Below.refl _ _ | with_reducible assumption | with_reducible refine Below.setCell ?_ (by first | (simp; done) | (simp; omega) | omega) _ | with_reducible refine Below.alloc ?_ (by first | exact Nat.le_refl _ | (simp; done) | (simp; omega) | omega) _ | with_reducible refine Below.drew ?_))
  refine (tsec_any (w.heap.size + 1) s 8 _ HT0.out (by omega) hz).mono ?_; rintro x w11 ⟨he, hg, ht⟩
  rw [V8.out, show Tk.v s (8 + 8) 8 = r1 from V16.out] at he
  have hz1 := blk_lt HH0.out
  subst he
  have HT1 : Hid (Tk w11 (w.heap.size + 1) s 24) := Lib.hid ht
  have HB1 := Lib.hid (gr_keep hg HB0.out (by omega))
  have HH1 := Lib.hid (gr_keep hg HH0.out (by omega))
  have hb1 : Below w.heap.size w w11 := hb0.grown hg hb0.size (fun k e => by cases e; omega)
  clear hg ht hz1 hb0
  go_wp2_with fail
  refine (tsec_any (w.heap.size + 1) s 24 _ HT1.out (by omega) hz).mono ?_; rintro x w12 ⟨he, hg, ht⟩
  rw [V24.out, show Tk.v s (24 + 8) 8 = m1 from V32.out] at he
  have hz2 := blk_lt HH1.out
  subst he
  have HT2 : Hid (Tk w12 (w.heap.size + 1) s 40) := Lib.hid ht
  have HB2 := Lib.hid (gr_keep hg HB1.out (by omega))
  have HH2 := Lib.hid (gr_keep hg HH1.out (by omega))
  have hb2 : Below w.heap.size w w12 := hb1.grown hg hb1.size (fun k e => by cases e; omega)
  clear hg ht hz2 hb1
  go_wp2_with fail
  refine (tsec_any (w.heap.size + 1) s 40 _ HT2.out (by omega) hz).mono ?_; rintro x w13 ⟨he, hg, ht⟩
  rw [V40.out, show Tk.v s (40 + 8) 8 = l1 from V48.out] at he
  have hz3 := blk_lt HH2.out
  subst he
  have HT3 : Hid (Tk w13 (w.heap.size + 1) s 56) := Lib.hid ht
  have HB3 := Lib.hid (gr_keep hg HB2.out (by omega))
  have HH3 := Lib.hid (gr_keep hg HH2.out (by omega))
  have hb3 : Below w.heap.size w w13 := hb2.grown hg hb2.size (fun k e => by cases e; omega)
  clear hg ht hz3 hb2
  go_wp2_with fail
  refine (tsec_any (w.heap.size + 1) s 56 _ HT3.out (by omega) hz).mono ?_; rintro x w14 ⟨he, hg, ht⟩
  rw [V56.out, show Tk.v s (56 + 8) 8 = d1 from V64.out] at he
  have hz4 := blk_lt HH3.out
  subst he
  have HT4 : Hid (Tk w14 (w.heap.size + 1) s 72) := Lib.hid ht
  have HB4 := Lib.hid (gr_keep hg HB3.out (by omega))
  have HH4 := Lib.hid (gr_keep hg HH3.out (by omega))
  have hb4 : Below w.heap.size w w14 := hb3.grown hg hb3.size (fun k e => by cases e; omega)
  clear hg ht hz4 hb3
  have f0 : w14.frozen? ⟨w.heap.size + 2, 0, none⟩ = false := by simp [World.frozen?, HH4.out]
  have c0 : w14.cell? ⟨w.heap.size + 2, 0, none⟩ = some (.int .u64 0) := cell_of_row w14 _ 0 _ _ _ HH4.out
  have f1 : w14.frozen? ⟨w.heap.size + 2, 1, none⟩ = false := by simp [World.frozen?, HH4.out]
  have c1 : w14.cell? ⟨w.heap.size + 2, 1, none⟩ = some (.int .u64 0) := cell_of_row w14 _ 1 _ _ _ HH4.out
  have f2 : w14.frozen? ⟨w.heap.size + 2, 2, none⟩ = false := by simp [World.frozen?, HH4.out]
  have c2 : w14.cell? ⟨w.heap.size + 2, 2, none⟩ = some (.int .u64 0) := cell_of_row w14 _ 2 _ _ _ HH4.out
  have f3 : w14.frozen? ⟨w.heap.size + 2, 3, none⟩ = false := by simp [World.frozen?, HH4.out]
  have c3 : w14.cell? ⟨w.heap.size + 2, 3, none⟩ = some (.int .u64 0) := cell_of_row w14 _ 3 _ _ _ HH4.out
  have f4 : w14.frozen? ⟨w.heap.size + 2, 4, none⟩ = false := by simp [World.frozen?, HH4.out]
  have c4 : w14.cell? ⟨w.heap.size + 2, 4, none⟩ = some (.int .u64 0) := cell_of_row w14 _ 4 _ _ _ HH4.out
  have f5 : w14.frozen? ⟨w.heap.size + 2, 5, none⟩ = false := by simp [World.frozen?, HH4.out]
  have c5 : w14.cell? ⟨w.heap.size + 2, 5, none⟩ = some (.int .u64 0) := cell_of_row w14 _ 5 _ _ _ HH4.out
  have f6 : w14.frozen? ⟨w.heap.size + 2, 6, none⟩ = false := by simp [World.frozen?, HH4.out]
  have c6 : w14.cell? ⟨w.heap.size + 2, 6, none⟩ = some (.int .u64 0) := cell_of_row w14 _ 6 _ _ _ HH4.out
  have f7 : w14.frozen? ⟨w.heap.size + 2, 7, none⟩ = false := by simp [World.frozen?, HH4.out]
  have c7 : w14.cell? ⟨w.heap.size + 2, 7, none⟩ = some (.int .u64 0) := cell_of_row w14 _ 7 _ _ _ HH4.out
  go_wp2_with fail
  have HH5 : Hid (((((((((w14.setCell ⟨w.heap.size + 2, 0, none⟩ (.int .u64 r0)).setCell ⟨w.heap.size + 2, 1, none⟩ (.int .u64 r1)).setCell ⟨w.heap.size + 2, 2, none⟩ (.int .u64 m0)).setCell ⟨w.heap.size + 2, 3, none⟩ (.int .u64 m1)).setCell ⟨w.heap.size + 2, 4, none⟩ (.int .u64 l0)).setCell ⟨w.heap.size + 2, 5, none⟩ (.int .u64 l1)).setCell ⟨w.heap.size + 2, 6, none⟩ (.int .u64 d0)).setCell ⟨w.heap.size + 2, 7, none⟩ (.int .u64 d1)).heap[w.heap.size + 2]? = some (.cells #[.int .u64 r0, .int .u64 r1, .int .u64 m0, .int .u64 m1, .int .u64 l0, .int .u64 l1, .int .u64 d0, .int .u64 d1, .int .u64 0, .int .u64 0, .int .u64 0, .bool false, .int .u8 0, .int .u8 0, .int .u8 0, .int .i64 0, .int .i64 0, .int .i64 0, .int .i64 0, .int .i64 0, .int .i64 0, .int .i64 0, .int .i64 0, .int .i64 0] 65 (0, 0))) := Lib.hid ((set_blk (set_blk (set_blk (set_blk (set_blk (set_blk (set_blk (set_blk (HH4.out))))))))).trans (by kernel_rfl))
  have HT5 : Hid (Tk ((((((((w14.setCell ⟨w.heap.size + 2, 0, none⟩ (.int .u64 r0)).setCell ⟨w.heap.size + 2, 1, none⟩ (.int .u64 r1)).setCell ⟨w.heap.size + 2, 2, none⟩ (.int .u64 m0)).setCell ⟨w.heap.size + 2, 3, none⟩ (.int .u64 m1)).setCell ⟨w.heap.size + 2, 4, none⟩ (.int .u64 l0)).setCell ⟨w.heap.size + 2, 5, none⟩ (.int .u64 l1)).setCell ⟨w.heap.size + 2, 6, none⟩ (.int .u64 d0)).setCell ⟨w.heap.size + 2, 7, none⟩ (.int .u64 d1)) (w.heap.size + 1) s 72) := Lib.hid (set_far (set_far (set_far (set_far (set_far (set_far (set_far (set_far (HT4.out) (by omega)) (by omega)) (by omega)) (by omega)) (by omega)) (by omega)) (by omega)) (by omega))
  have HB5 : Hid (((((((((w14.setCell ⟨w.heap.size + 2, 0, none⟩ (.int .u64 r0)).setCell ⟨w.heap.size + 2, 1, none⟩ (.int .u64 r1)).setCell ⟨w.heap.size + 2, 2, none⟩ (.int .u64 m0)).setCell ⟨w.heap.size + 2, 3, none⟩ (.int .u64 m1)).setCell ⟨w.heap.size + 2, 4, none⟩ (.int .u64 l0)).setCell ⟨w.heap.size + 2, 5, none⟩ (.int .u64 l1)).setCell ⟨w.heap.size + 2, 6, none⟩ (.int .u64 d0)).setCell ⟨w.heap.size + 2, 7, none⟩ (.int .u64 d1)).heap[w.heap.size]? = some (.cells #[.int .u64 0, .int .u64 0, .int .u64 0, .int .u64 0, .int .u64 0, .int .u64 0, .int .u64 0, .int .u64 0, .int .u64 0, .int .u64 0, .int .u64 0, .bool false, .int .u8 0, .int .u8 0, .int .u8 0, .int .i64 0, .int .i64 0, .int .i64 0, .int .i64 0, .int .i64 0, .int .i64 0, .int .i64 0, .int .i64 0, .int .i64 0] 65 (0, 0))) := Lib.hid (set_far (set_far (set_far (set_far (set_far (set_far (set_far (set_far (HB4.out) (by omega)) (by omega)) (by omega)) (by omega)) (by omega)) (by omega)) (by omega)) (by omega))
  have hb5 : Below w.heap.size w ((((((((w14.setCell ⟨w.heap.size + 2, 0, none⟩ (.int .u64 r0)).setCell ⟨w.heap.size + 2, 1, none⟩ (.int .u64 r1)).setCell ⟨w.heap.size + 2, 2, none⟩ (.int .u64 m0)).setCell ⟨w.heap.size + 2, 3, none⟩ (.int .u64 m1)).setCell ⟨w.heap.size + 2, 4, none⟩ (.int .u64 l0)).setCell ⟨w.heap.size + 2, 5, none⟩ (.int .u64 l1)).setCell ⟨w.heap.size + 2, 6, none⟩ (.int .u64 d0)).setCell ⟨w.heap.size + 2, 7, none⟩ (.int .u64 d1)) := below_set (below_set (below_set (below_set (below_set (below_set (below_set (below_set (hb4) (by omega) _) (by omega) _) (by omega) _) (by omega) _) (by omega) _) (by omega) _) (by omega) _) (by omega) _
  clear hb4 f0 c0 f1 c1 f2 c2 f3 c3 f4 c4 f5 c5 f6 c6 f7 c7
  refine (tnum_any (w.heap.size + 1) s 72 8 _ HT5.out (by omega) hz (by omega) (by omega)).mono ?_; rintro x w16 ⟨he, hg, ht⟩
  rw [V72.out] at he
  have hz6 := blk_lt HH5.out
  subst he
  have HT6 : Hid (Tk w16 (w.heap.size + 1) s 80) := Lib.hid ht
  have HB6 := Lib.hid (gr_keep hg HB5.out (by omega))
  have HH6 := Lib.hid (gr_keep hg HH5.out (by omega))
  have hb6 : Below w.heap.size w w16 := hb5.grown hg hb5.size (fun k e => by cases e; omega)
  clear hg ht hz6 hb5
  go_wp2_with fail
  refine (tnum_any (w.heap.size + 1) s 80 8 _ HT6.out (by omega) hz (by omega) (by omega)).mono ?_; rintro x w17 ⟨he, hg, ht⟩
  rw [V80.out] at he
  have hz7 := blk_lt HH6.out
  subst he
  have HT7 : Hid (Tk w17 (w.heap.size + 1) s 88) := Lib.hid ht
  have HB7 := Lib.hid (gr_keep hg HB6.out (by omega))
  have HH7 := Lib.hid (gr_keep hg HH6.out (by omega))
  have hb7 : Below w.heap.size w w17 := hb6.grown hg hb6.size (fun k e => by cases e; omega)
  clear hg ht hz7 hb6
  go_wp2_with fail
  refine (tnum_any (w.heap.size + 1) s 88 8 _ HT7.out (by omega) hz (by omega) (by omega)).mono ?_; rintro x w18 ⟨he, hg, ht⟩
  rw [V88.out] at he
  have hz8 := blk_lt HH7.out
  subst he
  have HT8 : Hid (Tk w18 (w.heap.size + 1) s 96) := Lib.hid ht
  have HB8 := Lib.hid (gr_keep hg HB7.out (by omega))
  have HH8 := Lib.hid (gr_keep hg HH7.out (by omega))
  have hb8 : Below w.heap.size w w18 := hb7.grown hg hb7.size (fun k e => by cases e; omega)
  clear hg ht hz8 hb7
  have f8 : w18.frozen? ⟨w.heap.size + 2, 8, none⟩ = false := by simp [World.frozen?, HH8.out]
  have c8 : w18.cell? ⟨w.heap.size + 2, 8, none⟩ = some (.int .u64 0) := cell_of_row w18 _ 8 _ _ _ HH8.out
  have f9 : w18.frozen? ⟨w.heap.size + 2, 9, none⟩ = false := by simp [World.frozen?, HH8.out]
  have c9 : w18.cell? ⟨w.heap.size + 2, 9, none⟩ = some (.int .u64 0) := cell_of_row w18 _ 9 _ _ _ HH8.out
  have f10 : w18.frozen? ⟨w.heap.size + 2, 10, none⟩ = false := by simp [World.frozen?, HH8.out]
  have c10 : w18.cell? ⟨w.heap.size + 2, 10, none⟩ = some (.int .u64 0) := cell_of_row w18 _ 10 _ _ _ HH8.out
  go_wp2_with fail
  have HH9 : Hid ((((w18.setCell ⟨w.heap.size + 2, 8, none⟩ (.int .u64 a)).setCell ⟨w.heap.size + 2, 9, none⟩ (.int .u64 e)).setCell ⟨w.heap.size + 2, 10, none⟩ (.int .u64 c)).heap[w.heap.size + 2]? = some (.cells #[.int .u64 r0, .int .u64 r1, .int .u64 m0, .int .u64 m1, .int .u64 l0, .int .u64 l1, .int .u64 d0, .int .u64 d1, .int .u64 a, .int .u64 e, .int .u64 c, .bool false, .int .u8 0, .int .u8 0, .int .u8 0, .int .i64 0, .int .i64 0, .int .i64 0, .int .i64 0, .int .i64 0, .int .i64 0, .int .i64 0, .int .i64 0, .int .i64 0] 65 (0, 0))) := Lib.hid ((set_blk (set_blk (set_blk (HH8.out)))).trans (by kernel_rfl))
  have HT9 : Hid (Tk (((w18.setCell ⟨w.heap.size + 2, 8, none⟩ (.int .u64 a)).setCell ⟨w.heap.size + 2, 9, none⟩ (.int .u64 e)).setCell ⟨w.heap.size + 2, 10, none⟩ (.int .u64 c)) (w.heap.size + 1) s 96) := Lib.hid (set_far (set_far (set_far (HT8.out) (by omega)) (by omega)) (by omega))
  have HB9 : Hid ((((w18.setCell ⟨w.heap.size + 2, 8, none⟩ (.int .u64 a)).setCell ⟨w.heap.size + 2, 9, none⟩ (.int .u64 e)).setCell ⟨w.heap.size + 2, 10, none⟩ (.int .u64 c)).heap[w.heap.size]? = some (.cells #[.int .u64 0, .int .u64 0, .int .u64 0, .int .u64 0, .int .u64 0, .int .u64 0, .int .u64 0, .int .u64 0, .int .u64 0, .int .u64 0, .int .u64 0, .bool false, .int .u8 0, .int .u8 0, .int .u8 0, .int .i64 0, .int .i64 0, .int .i64 0, .int .i64 0, .int .i64 0, .int .i64 0, .int .i64 0, .int .i64 0, .int .i64 0] 65 (0, 0))) := Lib.hid (set_far (set_far (set_far (HB8.out) (by omega)) (by omega)) (by omega))
  have hb9 : Below w.heap.size w (((w18.setCell ⟨w.heap.size + 2, 8, none⟩ (.int .u64 a)).setCell ⟨w.heap.size + 2, 9, none⟩ (.int .u64 e)).setCell ⟨w.heap.size + 2, 10, none⟩ (.int .u64 c)) := below_set (below_set (below_set (hb8) (by omega) _) (by omega) _) (by omega) _
  clear hb8 f8 c8 f9 c9 f10 c10
  refine (tnum_any (w.heap.size + 1) s 96 1 _ HT9.out (by omega) hz (by omega) (by omega)).mono ?_; rintro x w20 ⟨he, hg, ht⟩
  rw [V96.out] at he
  have hz10 := blk_lt HH9.out
  subst he
  have HT10 : Hid (Tk w20 (w.heap.size + 1) s 97) := Lib.hid ht
  have HB10 := Lib.hid (gr_keep hg HB9.out (by omega))
  have HH10 := Lib.hid (gr_keep hg HH9.out (by omega))
  have hb10 : Below w.heap.size w w20 := hb9.grown hg hb9.size (fun k e => by cases e; omega)
  clear hg ht hz10 hb9
  have f11 : w20.frozen? ⟨w.heap.size + 2, 11, none⟩ = false := by simp [World.frozen?, HH10.out]
  have c11 : w20.cell? ⟨w.heap.size + 2, 11, none⟩ = some (.bool false) := cell_of_row w20 _ 11 _ _ _ HH10.out
  go_wp2_with fail
  have HH11 : Hid ((w20.setCell ⟨w.heap.size + 2, 11, none⟩ (.bool true)).heap[w.heap.size + 2]? = some (.cells #[.int .u64 r0, .int .u64 r1, .int .u64 m0, .int .u64 m1, .int .u64 l0, .int .u64 l1, .int .u64 d0, .int .u64 d1, .int .u64 a, .int .u64 e, .int .u64 c, .bool true, .int .u8 0, .int .u8 0, .int .u8 0, .int .i64 0, .int .i64 0, .int .i64 0, .int .i64 0, .int .i64 0, .int .i64 0, .int .i64 0, .int .i64 0, .int .i64 0] 65 (0, 0))) := Lib.hid ((set_blk (HH10.out)).trans (by kernel_rfl))
  have HT11 : Hid (Tk (w20.setCell ⟨w.heap.size + 2, 11, none⟩ (.bool true)) (w.heap.size + 1) s 97) := Lib.hid (set_far (HT10.out) (by omega))
  have HB11 : Hid ((w20.setCell ⟨w.heap.size + 2, 11, none⟩ (.bool true)).heap[w.heap.size]? = some (.cells #[.int .u64 0, .int .u64 0, .int .u64 0, .int .u64 0, .int .u64 0, .int .u64 0, .int .u64 0, .int .u64 0, .int .u64 0, .int .u64 0, .int .u64 0, .bool false, .int .u8 0, .int .u8 0, .int .u8 0, .int .i64 0, .int .i64 0, .int .i64 0, .int .i64 0, .int .i64 0, .int .i64 0, .int .i64 0, .int .i64 0, .int .i64 0] 65 (0, 0))) := Lib.hid (set_far (HB10.out) (by omega))
  have hb11 : Below w.heap.size w (w20.setCell ⟨w.heap.size + 2, 11, none⟩ (.bool true)) := below_set (hb10) (by omega) _
  clear hb10 f11 c11
  refine (tnum_any (w.heap.size + 1) s 97 1 _ HT11.out (by omega) hz (by omega) (by omega)).mono ?_; rintro x w22 ⟨he, hg, ht⟩
  rw [V97.out] at he
  have hz12 := blk_lt HH11.out
  subst he
  have HT12 : Hid (Tk w22 (w.heap.size + 1) s 98) := Lib.hid ht
  have HB12 := Lib.hid (gr_keep hg HB11.out (by omega))
  have HH12 := Lib.hid (gr_keep hg HH11.out (by omega))
  have hb12 : Below w.heap.size w w22 := hb11.grown hg hb11.size (fun k e => by cases e; omega)
  clear hg ht hz12 hb11
  go_wp2_with fail
  refine (tnum_any (w.heap.size + 1) s 98 1 _ HT12.out (by omega) hz (by omega) (by omega)).mono ?_; rintro x w23 ⟨he, hg, ht⟩
  rw [V98.out] at he
  have hz13 := blk_lt HH12.out
  subst he
  have HT13 : Hid (Tk w23 (w.heap.size + 1) s 99) := Lib.hid ht
  have HB13 := Lib.hid (gr_keep hg HB12.out (by omega))
  have HH13 := Lib.hid (gr_keep hg HH12.out (by omega))
  have hb13 : Below w.heap.size w w23 := hb12.grown hg hb12.size (fun k e => by cases e; omega)
  clear hg ht hz13 hb12
  go_wp2_with fail
  refine (tnum_any (w.heap.size + 1) s 99 1 _ HT13.out (by omega) hz (by omega) (by omega)).mono ?_; rintro x w24 ⟨he, hg, ht⟩
  rw [V99.out] at he
  have hz14 := blk_lt HH13.out
  subst he
  have HT14 : Hid (Tk w24 (w.heap.size + 1) s 100) := Lib.hid ht
  have HB14 := Lib.hid (gr_keep hg HB13.out (by omega))
  have HH14 := Lib.hid (gr_keep hg HH13.out (by omega))
  have hb14 : Below w.heap.size w w24 := hb13.grown hg hb13.size (fun k e => by cases e; omega)
  clear hg ht hz14 hb13
  have f12 : w24.frozen? ⟨w.heap.size + 2, 12, none⟩ = false := by simp [World.frozen?, HH14.out]
  have c12 : w24.cell? ⟨w.heap.size + 2, 12, none⟩ = some (.int .u8 0) := cell_of_row w24 _ 12 _ _ _ HH14.out
  have f13 : w24.frozen? ⟨w.heap.size + 2, 13, none⟩ = false := by simp [World.frozen?, HH14.out]
  have c13 : w24.cell? ⟨w.heap.size + 2, 13, none⟩ = some (.int .u8 0) := cell_of_row w24 _ 13 _ _ _ HH14.out
  have f14 : w24.frozen? ⟨w.heap.size + 2, 14, none⟩ = false := by simp [World.frozen?, HH14.out]
  have c14 : w24.cell? ⟨w.heap.size + 2, 14, none⟩ = some (.int .u8 0) := cell_of_row w24 _ 14 _ _ _ HH14.out
  go_wp2_with fail
  have HH15 : Hid ((((w24.setCell ⟨w.heap.size + 2, 12, none⟩ (.int .u8 1)).setCell ⟨w.heap.size + 2, 13, none⟩ (.int .u8 1)).setCell ⟨w.heap.size + 2, 14, none⟩ (.int .u8 0)).heap[w.heap.size + 2]? = some (.cells #[.int .u64 r0, .int .u64 r1, .int .u64 m0, .int .u64 m1, .int .u64 l0, .int .u64 l1, .int .u64 d0, .int .u64 d1, .int .u64 a, .int .u64 e, .int .u64 c, .bool true, .int .u8 1, .int .u8 1, .int .u8 0, .int .i64 0, .int .i64 0, .int .i64 0, .int .i64 0, .int .i64 0, .int .i64 0, .int .i64 0, .int .i64 0, .int .i64 0] 65 (0, 0))) := Lib.hid ((set_blk (set_blk (set_blk (HH14.out)))).trans (by kernel_rfl))
  have HT15 : Hid (Tk (((w24.setCell ⟨w.heap.size + 2, 12, none⟩ (.int .u8 1)).setCell ⟨w.heap.size + 2, 13, none⟩ (.int .u8 1)).setCell ⟨w.heap.size + 2, 14, none⟩ (.int .u8 0)) (w.heap.size + 1) s 100) := Lib.hid (set_far (set_far (set_far (HT14.out) (by omega)) (by omega)) (by omega))
  have HB15 : Hid ((((w24.setCell ⟨w.heap.size + 2, 12, none⟩ (.int .u8 1)).setCell ⟨w.heap.size + 2, 13, none⟩ (.int .u8 1)).setCell ⟨w.heap.size + 2, 14, none⟩ (.int .u8 0)).heap[w.heap.size]? = some (.cells #[.int .u64 0, .int .u64 0, .int .u64 0, .int .u64 0, .int .u64 0, .int .u64 0, .int .u64 0, .int .u64 0, .int .u64 0, .int .u64 0, .int .u64 0, .bool false, .int .u8 0, .int .u8 0, .int .u8 0, .int .i64 0, .int .i64 0, .int .i64 0, .int .i64 0, .int .i64 0, .int .i64 0, .int .i64 0, .int .i64 0, .int .i64 0] 65 (0, 0))) := Lib.hid (set_far (set_far (set_far (HB14.out) (by omega)) (by omega)) (by omega))
  have hb15 : Below w.heap.size w (((w24.setCell ⟨w.heap.size + 2, 12, none⟩ (.int .u8 1)).setCell ⟨w.heap.size + 2, 13, none⟩ (.int .u8 1)).setCell ⟨w.heap.size + 2, 14, none⟩ (.int .u8 0)) := below_set (below_set (below_set (hb14) (by omega) _) (by omega) _) (by omega) _
  clear hb14 f12 c12 f13 c13 f14 c14
  obtain ⟨hlo0, hlo1, hhi0, hhi1⟩ := HLO.out
  refine (tnum_any (w.heap.size + 1) s 100 1 _ HT15.out (by omega) hz (by omega) (by omega)).mono ?_; rintro x w26 ⟨he, hg, ht⟩
  rw [V100.out] at he
  have hz16 := blk_lt HH15.out
  subst he
  have HT16 : Hid (Tk w26 (w.heap.size + 1) s 101) := Lib.hid ht
  have HB16 := Lib.hid (gr_keep hg HB15.out (by omega))
  have HH16 := Lib.hid (gr_keep hg HH15.out (by omega))
  have hb16 : Below w.heap.size w w26 := hb15.grown hg hb15.size (fun k e => by cases e; omega)
  clear hg ht hz16 hb15
  go_wp2_with fail
  refine (tnum_any (w.heap.size + 1) s 101 1 _ HT16.out (by omega) hz (by omega) (by omega)).mono ?_; rintro x w27 ⟨he, hg, ht⟩
  rw [V101.out] at he
  have hz17 := blk_lt HH16.out
  subst he
  have HT17 : Hid (Tk w27 (w.heap.size + 1) s 102) := Lib.hid ht
  have HB17 := Lib.hid (gr_keep hg HB16.out (by omega))
  have HH17 := Lib.hid (gr_keep hg HH16.out (by omega))
  have hb17 : Below w.heap.size w w27 := hb16.grown hg hb16.size (fun k e => by cases e; omega)
  clear hg ht hz17 hb16
  have f15 : w27.frozen? ⟨w.heap.size + 2, 15, none⟩ = false := by simp [World.frozen?, HH17.out]
  have c15 : w27.cell? ⟨w.heap.size + 2, 15, none⟩ = some (.int .i64 0) := cell_of_row w27 _ 15 _ _ _ HH17.out
  have f16 : w27.frozen? ⟨w.heap.size + 2, 16, none⟩ = false := by simp [World.frozen?, HH17.out]
  have c16 : w27.cell? ⟨w.heap.size + 2, 16, none⟩ = some (.int .i64 0) := cell_of_row w27 _ 16 _ _ _ HH17.out
  go_wp2_with fail
  have HH18 : Hid (((w27.setCell ⟨w.heap.size + 2, 15, none⟩ (.int .i64 lo)).setCell ⟨w.heap.size + 2, 16, none⟩ (.int .i64 hi)).heap[w.heap.size + 2]? = some (.cells #[.int .u64 r0, .int .u64 r1, .int .u64 m0, .int .u64 m1, .int .u64 l0, .int .u64 l1, .int .u64 d0, .int .u64 d1, .int .u64 a, .int .u64 e, .int .u64 c, .bool true, .int .u8 1, .int .u8 1, .int .u8 0, .int .i64 lo, .int .i64 hi, .int .i64 0, .int .i64 0, .int .i64 0, .int .i64 0, .int .i64 0, .int .i64 0, .int .i64 0] 65 (0, 0))) := Lib.hid ((set_blk (set_blk (HH17.out))).trans (by kernel_rfl))
  have HT18 : Hid (Tk ((w27.setCell ⟨w.heap.size + 2, 15, none⟩ (.int .i64 lo)).setCell ⟨w.heap.size + 2, 16, none⟩ (.int .i64 hi)) (w.heap.size + 1) s 102) := Lib.hid (set_far (set_far (HT17.out) (by omega)) (by omega))
  have HB18 : Hid (((w27.setCell ⟨w.heap.size + 2, 15, none⟩ (.int .i64 lo)).setCell ⟨w.heap.size + 2, 16, none⟩ (.int .i64 hi)).heap[w.heap.size]? = some (.cells #[.int .u64 0, .int .u64 0, .int .u64 0, .int .u64 0, .int .u64 0, .int .u64 0, .int .u64 0, .int .u64 0, .int .u64 0, .int .u64 0, .int .u64 0, .bool false, .int .u8 0, .int .u8 0, .int .u8 0, .int .i64 0, .int .i64 0, .int .i64 0, .int .i64 0, .int .i64 0, .int .i64 0, .int .i64 0, .int .i64 0, .int .i64 0] 65 (0, 0))) := Lib.hid (set_far (set_far (HB17.out) (by omega)) (by omega))
  have hb18 : Below w.heap.size w ((w27.setCell ⟨w.heap.size + 2, 15, none⟩ (.int .i64 lo)).setCell ⟨w.heap.size + 2, 16, none⟩ (.int .i64 hi)) := below_set (below_set (hb17) (by omega) _) (by omega) _
  clear hb17 f15 c15 f16 c16
  refine (tdeg_any (w.heap.size + 1) s 102 _ HT18.out (by omega) hz).mono ?_; rintro x w29 ⟨he, hg, ht⟩
  rw [V102.out, show Lt.sg 2494967296 = (-1800000000) by decide] at he
  have hz19 := blk_lt HH18.out
  subst he
  have HT19 : Hid (Tk w29 (w.heap.size + 1) s 106) := Lib.hid ht
  have HB19 := Lib.hid (gr_keep hg HB18.out (by omega))
  have HH19 := Lib.hid (gr_keep hg HH18.out (by omega))
  have hb19 : Below w.heap.size w w29 := hb18.grown hg hb18.size (fun k e => by cases e; omega)
  clear hg ht hz19 hb18
  go_wp2_with fail
  refine (tdeg_any (w.heap.size + 1) s 106 _ HT19.out (by omega) hz).mono ?_; rintro x w30 ⟨he, hg, ht⟩
  rw [V106.out, show Lt.sg 3444456009 = (-850511287) by decide] at he
  have hz20 := blk_lt HH19.out
  subst he
  have HT20 : Hid (Tk w30 (w.heap.size + 1) s 110) := Lib.hid ht
  have HB20 := Lib.hid (gr_keep hg HB19.out (by omega))
  have HH20 := Lib.hid (gr_keep hg HH19.out (by omega))
  have hb20 : Below w.heap.size w w30 := hb19.grown hg hb19.size (fun k e => by cases e; omega)
  clear hg ht hz20 hb19
  go_wp2_with fail
  refine (tdeg_any (w.heap.size + 1) s 110 _ HT20.out (by omega) hz).mono ?_; rintro x w31 ⟨he, hg, ht⟩
  rw [V110.out, show Lt.sg 1800000000 = 1800000000 by decide] at he
  have hz21 := blk_lt HH20.out
  subst he
  have HT21 : Hid (Tk w31 (w.heap.size + 1) s 114) := Lib.hid ht
  have HB21 := Lib.hid (gr_keep hg HB20.out (by omega))
  have HH21 := Lib.hid (gr_keep hg HH20.out (by omega))
  have hb21 : Below w.heap.size w w31 := hb20.grown hg hb20.size (fun k e => by cases e; omega)
  clear hg ht hz21 hb20
  go_wp2_with fail
  refine (tdeg_any (w.heap.size + 1) s 114 _ HT21.out (by omega) hz).mono ?_; rintro x w32 ⟨he, hg, ht⟩
  rw [V114.out, show Lt.sg 850511287 = 850511287 by decide] at he
  have hz22 := blk_lt HH21.out
  subst he
  have HT22 : Hid (Tk w32 (w.heap.size + 1) s 118) := Lib.hid ht
  have HB22 := Lib.hid (gr_keep hg HB21.out (by omega))
  have HH22 := Lib.hid (gr_keep hg HH21.out (by omega))
  have hb22 : Below w.heap.size w w32 := hb21.grown hg hb21.size (fun k e => by cases e; omega)
  clear hg ht hz22 hb21
  have f17 : w32.frozen? ⟨w.heap.size + 2, 17, none⟩ = false := by simp [World.frozen?, HH22.out]
  have c17 : w32.cell? ⟨w.heap.size + 2, 17, none⟩ = some (.int .i64 0) := cell_of_row w32 _ 17 _ _ _ HH22.out
  have f18 : w32.frozen? ⟨w.heap.size + 2, 18, none⟩ = false := by simp [World.frozen?, HH22.out]
  have c18 : w32.cell? ⟨w.heap.size + 2, 18, none⟩ = some (.int .i64 0) := cell_of_row w32 _ 18 _ _ _ HH22.out
  have f19 : w32.frozen? ⟨w.heap.size + 2, 19, none⟩ = false := by simp [World.frozen?, HH22.out]
  have c19 : w32.cell? ⟨w.heap.size + 2, 19, none⟩ = some (.int .i64 0) := cell_of_row w32 _ 19 _ _ _ HH22.out
  have f20 : w32.frozen? ⟨w.heap.size + 2, 20, none⟩ = false := by simp [World.frozen?, HH22.out]
  have c20 : w32.cell? ⟨w.heap.size + 2, 20, none⟩ = some (.int .i64 0) := cell_of_row w32 _ 20 _ _ _ HH22.out
  go_wp2_with fail
  have HH23 : Hid (((((w32.setCell ⟨w.heap.size + 2, 17, none⟩ (.int .i64 (-1800000000))).setCell ⟨w.heap.size + 2, 18, none⟩ (.int .i64 (-850511287))).setCell ⟨w.heap.size + 2, 19, none⟩ (.int .i64 1800000000)).setCell ⟨w.heap.size + 2, 20, none⟩ (.int .i64 850511287)).heap[w.heap.size + 2]? = some (.cells #[.int .u64 r0, .int .u64 r1, .int .u64 m0, .int .u64 m1, .int .u64 l0, .int .u64 l1, .int .u64 d0, .int .u64 d1, .int .u64 a, .int .u64 e, .int .u64 c, .bool true, .int .u8 1, .int .u8 1, .int .u8 0, .int .i64 lo, .int .i64 hi, .int .i64 (-1800000000), .int .i64 (-850511287), .int .i64 1800000000, .int .i64 850511287, .int .i64 0, .int .i64 0, .int .i64 0] 65 (0, 0))) := Lib.hid ((set_blk (set_blk (set_blk (set_blk (HH22.out))))).trans (by kernel_rfl))
  have HT23 : Hid (Tk ((((w32.setCell ⟨w.heap.size + 2, 17, none⟩ (.int .i64 (-1800000000))).setCell ⟨w.heap.size + 2, 18, none⟩ (.int .i64 (-850511287))).setCell ⟨w.heap.size + 2, 19, none⟩ (.int .i64 1800000000)).setCell ⟨w.heap.size + 2, 20, none⟩ (.int .i64 850511287)) (w.heap.size + 1) s 118) := Lib.hid (set_far (set_far (set_far (set_far (HT22.out) (by omega)) (by omega)) (by omega)) (by omega))
  have HB23 : Hid (((((w32.setCell ⟨w.heap.size + 2, 17, none⟩ (.int .i64 (-1800000000))).setCell ⟨w.heap.size + 2, 18, none⟩ (.int .i64 (-850511287))).setCell ⟨w.heap.size + 2, 19, none⟩ (.int .i64 1800000000)).setCell ⟨w.heap.size + 2, 20, none⟩ (.int .i64 850511287)).heap[w.heap.size]? = some (.cells #[.int .u64 0, .int .u64 0, .int .u64 0, .int .u64 0, .int .u64 0, .int .u64 0, .int .u64 0, .int .u64 0, .int .u64 0, .int .u64 0, .int .u64 0, .bool false, .int .u8 0, .int .u8 0, .int .u8 0, .int .i64 0, .int .i64 0, .int .i64 0, .int .i64 0, .int .i64 0, .int .i64 0, .int .i64 0, .int .i64 0, .int .i64 0] 65 (0, 0))) := Lib.hid (set_far (set_far (set_far (set_far (HB22.out) (by omega)) (by omega)) (by omega)) (by omega))
  have hb23 : Below w.heap.size w ((((w32.setCell ⟨w.heap.size + 2, 17, none⟩ (.int .i64 (-1800000000))).setCell ⟨w.heap.size + 2, 18, none⟩ (.int .i64 (-850511287))).setCell ⟨w.heap.size + 2, 19, none⟩ (.int .i64 1800000000)).setCell ⟨w.heap.size + 2, 20, none⟩ (.int .i64 850511287)) := below_set (below_set (below_set (below_set (hb22) (by omega) _) (by omega) _) (by omega) _) (by omega) _
  clear hb22 f17 c17 f18 c18 f19 c19 f20 c20
  refine (tnum_any (w.heap.size + 1) s 118 1 _ HT23.out (by omega) hz (by omega) (by omega)).mono ?_; rintro x w34 ⟨he, hg, ht⟩
  rw [V118.out] at he
  have hz24 := blk_lt HH23.out
  subst he
  have HT24 : Hid (Tk w34 (w.heap.size + 1) s 119) := Lib.hid ht
  have HB24 := Lib.hid (gr_keep hg HB23.out (by omega))
  have HH24 := Lib.hid (gr_keep hg HH23.out (by omega))
  have hb24 : Below w.heap.size w w34 := hb23.grown hg hb23.size (fun k e => by cases e; omega)
  clear hg ht hz24 hb23
  go_wp2_with fail
  refine (tdeg_any (w.heap.size + 1) s 119 _ HT24.out (by omega) hz).mono ?_; rintro x w35 ⟨he, hg, ht⟩
  rw [V119.out, show Lt.sg 0 = 0 by decide] at he
  have hz25 := blk_lt HH24.out
  subst he
  have HT25 : Hid (Tk w35 (w.heap.size + 1) s 123) := Lib.hid ht
  have HB25 := Lib.hid (gr_keep hg HB24.out (by omega))
  have HH25 := Lib.hid (gr_keep hg HH24.out (by omega))
  have hb25 : Below w.heap.size w w35 := hb24.grown hg hb24.size (fun k e => by cases e; omega)
  clear hg ht hz25 hb24
  go_wp2_with fail
  refine (tdeg_any (w.heap.size + 1) s 123 _ HT25.out (by omega) hz).mono ?_; rintro x w36 ⟨he, hg, ht⟩
  rw [V123.out, show Lt.sg 0 = 0 by decide] at he
  have hz26 := blk_lt HH25.out
  subst he
  have HT26 : Hid (Tk w36 (w.heap.size + 1) s 127) := Lib.hid ht
  have HB26 := Lib.hid (gr_keep hg HB25.out (by omega))
  have HH26 := Lib.hid (gr_keep hg HH25.out (by omega))
  have hb26 : Below w.heap.size w w36 := hb25.grown hg hb25.size (fun k e => by cases e; omega)
  clear hg ht hz26 hb25
  have f21 : w36.frozen? ⟨w.heap.size + 2, 21, none⟩ = false := by simp [World.frozen?, HH26.out]
  have c21 : w36.cell? ⟨w.heap.size + 2, 21, none⟩ = some (.int .i64 0) := cell_of_row w36 _ 21 _ _ _ HH26.out
  have f22 : w36.frozen? ⟨w.heap.size + 2, 22, none⟩ = false := by simp [World.frozen?, HH26.out]
  have c22 : w36.cell? ⟨w.heap.size + 2, 22, none⟩ = some (.int .i64 0) := cell_of_row w36 _ 22 _ _ _ HH26.out
  have f23 : w36.frozen? ⟨w.heap.size + 2, 23, none⟩ = false := by simp [World.frozen?, HH26.out]
  have c23 : w36.cell? ⟨w.heap.size + 2, 23, none⟩ = some (.int .i64 0) := cell_of_row w36 _ 23 _ _ _ HH26.out
  have HHL : Hid ((((w36.setCell ⟨w.heap.size + 2, 21, none⟩ (.int .i64 lo)).setCell ⟨w.heap.size + 2, 22, none⟩ (.int .i64 0)).setCell ⟨w.heap.size + 2, 23, none⟩ (.int .i64 0)).heap[w.heap.size + 2]? = some (.cells #[.int .u64 r0, .int .u64 r1, .int .u64 m0, .int .u64 m1, .int .u64 l0, .int .u64 l1, .int .u64 d0, .int .u64 d1, .int .u64 a, .int .u64 e, .int .u64 c, .bool true, .int .u8 1, .int .u8 1, .int .u8 0, .int .i64 lo, .int .i64 hi, .int .i64 (-1800000000), .int .i64 (-850511287), .int .i64 1800000000, .int .i64 850511287, .int .i64 lo, .int .i64 0, .int .i64 0] 65 (0, 0))) := Lib.hid ((set_blk (set_blk (set_blk (HH26.out)))).trans (by kernel_rfl))
  have HBL : Hid ((((w36.setCell ⟨w.heap.size + 2, 21, none⟩ (.int .i64 lo)).setCell ⟨w.heap.size + 2, 22, none⟩ (.int .i64 0)).setCell ⟨w.heap.size + 2, 23, none⟩ (.int .i64 0)).heap[w.heap.size]? = some (.cells #[.int .u64 0, .int .u64 0, .int .u64 0, .int .u64 0, .int .u64 0, .int .u64 0, .int .u64 0, .int .u64 0, .int .u64 0, .int .u64 0, .int .u64 0, .bool false, .int .u8 0, .int .u8 0, .int .u8 0, .int .i64 0, .int .i64 0, .int .i64 0, .int .i64 0, .int .i64 0, .int .i64 0, .int .i64 0, .int .i64 0, .int .i64 0] 65 (0, 0))) := Lib.hid (set_far (set_far (set_far (HB26.out) (by omega)) (by omega)) (by omega))
  have hbL : Below w.heap.size w (((w36.setCell ⟨w.heap.size + 2, 21, none⟩ (.int .i64 lo)).setCell ⟨w.heap.size + 2, 22, none⟩ (.int .i64 0)).setCell ⟨w.heap.size + 2, 23, none⟩ (.int .i64 0)) := below_set (below_set (below_set (hb26) (by omega) _) (by omega) _) (by omega) _
  go_upto_region 19 with (fail)
  go_wp2_with (refine wpList_load_row rfl 65 (.tmp 5) rfl _ rfl _ _ _ _ HHL.out Tryz.underlying65 rfl (by kernel_rfl) ?_)
  refine (HC.out _).mono ?_; rintro x w99 ⟨rfl, hb⟩
  have HHM := Lib.hid (blk_keep2 hb HHL.out)
  have HBM := Lib.hid (blk_keep2 hb HBL.out)
  have hbM := bthen hbL hb
  clear hb hbL hb26 f21 c21 f22 c22 f23 c23
  go_upto_region 22 with (fail)
  go_step
  refine wpList_load_row rfl 65 (.tmp 5) rfl _ rfl _ _ _ _ HHM.out Tryz.underlying65 rfl (by kernel_rfl) ?_
  refine wpList_store_row rfl 65 (.tmp 2) (.tmp 104) rfl w.heap.size _ rfl rfl _ _ HBM.out (by kernel_rfl) rfl (by kernel_rfl) ?_
  go_wp2_with fail
  exact bodyPost_ret (v := .tuple #[.agg #[.int .u64 r0, .int .u64 r1, .int .u64 m0, .int .u64 m1, .int .u64 l0, .int .u64 l1, .int .u64 d0, .int .u64 d1, .int .u64 a, .int .u64 e, .int .u64 c, .bool true, .int .u8 1, .int .u8 1, .int .u8 0, .int .i64 lo, .int .i64 hi, .int .i64 (-1800000000), .int .i64 (-850511287), .int .i64 1800000000, .int .i64 850511287, .int .i64 lo, .int .i64 0, .int .i64 0], .int .i64 0]) (results_row_tmp Tryz.results59 _ _ w.heap.size _ _ _ _ _ rfl rfl (setRow_heap _ _ _ _ _ _ HBM.out) Tryz.underlying65 rfl (by kernel_rfl)) rfl ⟨rfl, below_setRow hbM (Nat.le_refl _) _⟩
end Go.Proofs.YtlfahmdndlmhpaaGreatDoor
