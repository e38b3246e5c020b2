/- The walk of the layout's Glue. -/
import Derived.Test.YtlfahmdndlmhpaaGreatDoorLaySec
import Derived.Test.YtlfahmdndlmhpaaGreatDoorLayWith
import Derived.Test.YtlfahmdndlmhpaaGreatDoorM14
import Derived.Test.YtlfahmdndlmhpaaGreatDoorShelf
import Derived.Test.YtlfahmdndlmhpaaGreatDoorM07
namespace Go.Proofs.YtlfahmdndlmhpaaGreatDoor
open Go.RowKit

theorem nums_append (s t : ByteArray) : Vi.nums (s ++ t) = Vi.nums s ++ Vi.nums t := by
  unfold Vi.nums
  rw [show (s ++ t).data.toList = s.data.toList ++ t.data.toList by simp [ByteArray.data_append], List.map_append]
theorem nums_str {l : List Int} (h : ∀ b ∈ l, 0 ≤ b ∧ b < 256) : Vi.nums (strOfNums l) = l := str_inj (Vi.nums_fit _) h (str_nums _)
def Ly.ln (p0 p1 p2 p3 : ByteArray) : Nat → List Value
  | 0 => [.int .u64 0, .int .u64 0, .int .u64 0, .int .u64 0]
  | 1 => [.int .u64 (p0.size : Int), .int .u64 0, .int .u64 0, .int .u64 0]
  | 2 => [.int .u64 (p0.size : Int), .int .u64 (p1.size : Int), .int .u64 0, .int .u64 0]
  | 3 => [.int .u64 (p0.size : Int), .int .u64 (p1.size : Int), .int .u64 (p2.size : Int), .int .u64 0]
  | _ => [.int .u64 (p0.size : Int), .int .u64 (p1.size : Int), .int .u64 (p2.size : Int), .int .u64 (p3.size : Int)]
def Ly.secs (p0 p1 p2 p3 : ByteArray) : List Int := [127, (p0.size : Int), 127 + (p0.size : Int), (p1.size : Int), 127 + (p0.size : Int) + (p1.size : Int), (p2.size : Int), 127 + (p0.size : Int) + (p1.size : Int) + (p2.size : Int), (p3.size : Int)]
def GluePost (p0 p1 p2 p3 : ByteArray) (a e c lo hi : Int) (w : World) (x : Ending) (w' : World) : Prop :=
  ∃ s, x = .returned (.tuple #[.string s, .int .i64 0]) ∧ Vi.nums s = Hd.bytes (Ly.secs p0 p1 p2 p3) a e c lo hi ++ (Vi.nums p0 ++ (Vi.nums p1 ++ (Vi.nums p2 ++ Vi.nums p3))) ∧ Below w.heap.size w w'
theorem Ly.joined (p0 p1 p2 p3 : ByteArray) (l : List Int) (h : ∀ b ∈ l, 0 ≤ b ∧ b < 256) : Vi.nums (strOfNums l ++ ⟨(Lib.join ([p0, p1, p2, p3].map (·.data.toList)) (ByteArray.mk #[]).data.toList).toArray⟩) = l ++ (Vi.nums p0 ++ (Vi.nums p1 ++ (Vi.nums p2 ++ Vi.nums p3))) := by
  rw [nums_append, nums_str h]
  congr 1
  unfold Vi.nums
  rw [List.map_cons, Lib.join_cons]
  simp [Lib.joinTail]
set_option maxRecDepth 100000 in
set_option maxHeartbeats 4000000 in
theorem glue_any (p0 p1 p2 p3 : ByteArray) (a e c lo hi : Int) (hp0 : p0.size ≤ 1000000) (hp1 : p1.size ≤ 1000000) (hp2 : p2.size ≤ 1000000) (hp3 : p3.size ≤ 1000000)
    (h0 : 0 ≤ lo) (h1 : lo ≤ hi) (h2 : hi ≤ 26) (ha : 0 ≤ a ∧ a < 18446744073709551616) (he : 0 ≤ e ∧ e < 18446744073709551616) (hc : 0 ≤ c ∧ c < 18446744073709551616) (w : World) :
    Calls Tryz.prog 21 #[.agg #[.int .u64 0, .int .u64 0, .int .u64 0, .int .u64 0, .int .u64 0, .int .u64 0, .int .u64 0, .int .u64 0, .int .u64 a, .int .u64 e, .int .u64 c, .bool true, .int .u8 1, .int .u8 1, .int .u8 0, .int .i64 lo, .int .i64 hi, .int .i64 (-1800000000), .int .i64 (-850511287), .int .i64 1800000000, .int .i64 850511287, .int .i64 lo, .int .i64 0, .int .i64 0], .agg #[.string p0, .string p1, .string p2, .string p3]] w (GluePost p0 p1 p2 p3 a e c lo hi w) := by
  have HE := Lib.hid (henc_any 127 p0.size (127 + (p0.size : Int)) p1.size (127 + (p0.size : Int) + (p1.size : Int)) p2.size (127 + (p0.size : Int) + (p1.size : Int) + (p2.size : Int)) p3.size a e c lo hi (by omega) (by omega) (by omega) (by omega) h0 h1 h2 ha he hc)
  have HS := Lib.hid (secs_any (p0.size : Int) (p1.size : Int) (p2.size : Int) (p3.size : Int) (by omega) (by omega) (by omega) (by omega) (by omega))
  have HL : Hid ((Lib.join ([p0, p1, p2, p3].map (·.data.toList)) (ByteArray.mk #[]).data.toList).length ≤ 140737488355328) := Lib.hid (by
    rw [List.map_cons, Lib.join_cons]
    simp only [Lib.joinTail, List.map_cons, List.map_nil, List.flatten_cons, List.flatten_nil, List.length_append, List.length_nil, Array.length_toList]
    have e0 : p0.data.size = p0.size := rfl
    have e1 : p1.data.size = p1.size := rfl
    have e2 : p2.data.size = p2.size := rfl
    have e3 : p3.data.size = p3.size := rfl
    simp only [e0, e1, e2, e3]
    simp
    omega)
  have HJ : Hid (Vi.nums (strOfNums (Hd.bytes (Ly.secs p0 p1 p2 p3) a e c lo hi) ++ ⟨(Lib.join ([p0, p1, p2, p3].map (·.data.toList)) (ByteArray.mk #[]).data.toList).toArray⟩) = Hd.bytes (Ly.secs p0 p1 p2 p3) a e c lo hi ++ (Vi.nums p0 ++ (Vi.nums p1 ++ (Vi.nums p2 ++ Vi.nums p3)))) := Lib.hid (Ly.joined _ _ _ _ _ (Hd.bytes_fit _ _ _ _ _ _))
  clear h0 h1 h2 ha he hc
  have i0 : ∀ w, (Instr.index 67 (.agg #[.string p0, .string p1, .string p2, .string p3]) (.int .i64 0)).run Tryz.prog w = .ok (.string p0) w := fun _ => by rfl
  have i1 : ∀ w, (Instr.index 67 (.agg #[.string p0, .string p1, .string p2, .string p3]) (.int .i64 1)).run Tryz.prog w = .ok (.string p1) w := fun _ => by rfl
  have i2 : ∀ w, (Instr.index 67 (.agg #[.string p0, .string p1, .string p2, .string p3]) (.int .i64 2)).run Tryz.prog w = .ok (.string p2) w := fun _ => by rfl
  have i3 : ∀ w, (Instr.index 67 (.agg #[.string p0, .string p1, .string p2, .string p3]) (.int .i64 3)).run Tryz.prog w = .ok (.string p3) w := fun _ => by rfl
  go_enter Tryz.func21, Tryz.ntmps21
  go_wp2_with fail
  go_loopw [7, 8, 14] (fun _ _ ci wr => ∃ k : Nat, k ≤ 4 ∧ ci = .int .i64 k ∧ Hid (wr.heap[w.heap.size + 2]? = some (.cells (Ly.ln p0 p1 p2 p3 k).toArray 119 (0, 0))) ∧ Hid (wr.heap[w.heap.size]? = some (.cells #[.int .u64 0, .int .u64 0, .int .u64 0, .int .u64 0, .int .u64 0, .int .u64 0, .int .u64 0, .int .u64 0, .int .u64 a, .int .u64 e, .int .u64 c, .bool true, .int .u8 1, .int .u8 1, .int .u8 0, .int .i64 lo, .int .i64 hi, .int .i64 (-1800000000), .int .i64 (-850511287), .int .i64 1800000000, .int .i64 850511287, .int .i64 lo, .int .i64 0, .int .i64 0] 65 (0, 0))) ∧ Hid (wr.heap[w.heap.size + 1]? = some (.cells #[.string p0, .string p1, .string p2, .string p3] 67 (0, 0))) ∧ Below w.heap.size w wr) (fun _ _ ci _ => 4 - (intOf ci).toNat)
  case atStart => exact ⟨0, by omega, rfl, Lib.hid (heap_at (by simp)), Lib.hid (blk_alloc (blk_alloc (heap_alloc_new w _) _) _), Lib.hid (blk_alloc (heap_at (by simp)) _), (by repeat (first | with_reducible exact Below.refl _ _ | with_reducible assumption | with_reducible refine Below.setCell ?_ (by first | (simp; done) | (simp; omega) | omega) _ | with_reducible refine Below.alloc ?_ (by first | exact Nat.le_refl _ | (simp; done) | (simp; omega) | omega) _ | with_reducible refine Below.drew ?_))⟩
  case round =>
    obtain ⟨k, hk, rfl, HB, H0, H1, hbl⟩ := hrel
    rcases (show k = 0 ∨ k = 1 ∨ k = 2 ∨ k = 3 ∨ k = 4 by omega) with rfl | rfl | rfl | rfl | rfl
    · have c0 : wr.cell? ⟨w.heap.size + 2, 0, none⟩ = some (.int .u64 0) := cell_of_row wr _ 0 _ _ _ HB.out
      have f0 : wr.frozen? ⟨w.heap.size + 2, 0, none⟩ = false := by simp [World.frozen?, HB.out]
      go_wp2_with fail
      exact ⟨⟨1, by omega, rfl, Lib.hid ((set_blk HB.out).trans (by kernel_rfl)), Lib.hid (set_far H0.out (by omega)), Lib.hid (set_far H1.out (by omega)), below_set hbl (by omega) _⟩, by simp [intOf]⟩
    · have c0 : wr.cell? ⟨w.heap.size + 2, 1, none⟩ = some (.int .u64 0) := cell_of_row wr _ 1 _ _ _ HB.out
      have f0 : wr.frozen? ⟨w.heap.size + 2, 1, none⟩ = false := by simp [World.frozen?, HB.out]
      go_wp2_with fail
      exact ⟨⟨2, by omega, rfl, Lib.hid ((set_blk HB.out).trans (by kernel_rfl)), Lib.hid (set_far H0.out (by omega)), Lib.hid (set_far H1.out (by omega)), below_set hbl (by omega) _⟩, by simp [intOf]⟩
    · have c0 : wr.cell? ⟨w.heap.size + 2, 2, none⟩ = some (.int .u64 0) := cell_of_row wr _ 2 _ _ _ HB.out
      have f0 : wr.frozen? ⟨w.heap.size + 2, 2, none⟩ = false := by simp [World.frozen?, HB.out]
      go_wp2_with fail
      exact ⟨⟨3, by omega, rfl, Lib.hid ((set_blk HB.out).trans (by kernel_rfl)), Lib.hid (set_far H0.out (by omega)), Lib.hid (set_far H1.out (by omega)), below_set hbl (by omega) _⟩, by simp [intOf]⟩
    · have c0 : wr.cell? ⟨w.heap.size + 2, 3, none⟩ = some (.int .u64 0) := cell_of_row wr _ 3 _ _ _ HB.out
      have f0 : wr.frozen? ⟨w.heap.size + 2, 3, none⟩ = false := by simp [World.frozen?, HB.out]
      go_wp2_with fail
      exact ⟨⟨4, by omega, rfl, Lib.hid ((set_blk HB.out).trans (by kernel_rfl)), Lib.hid (set_far H0.out (by omega)), Lib.hid (set_far H1.out (by omega)), below_set hbl (by omega) _⟩, by simp [intOf]⟩
    · have HB4 : Hid (wr.heap[w.heap.size + 1 + 1]? = some (.cells #[.int .u64 (p0.size : Int), .int .u64 (p1.size : Int), .int .u64 (p2.size : Int), .int .u64 (p3.size : Int)] 119 (0, 0))) := Lib.hid HB.out
      go_upto_region 7 with (fail)
      go_step
      refine wpList_load_row rfl 119 (.tmp 6) rfl _ rfl _ _ _ _ HB4.out Tryz.underlying119 rfl (by kernel_rfl) ?_
      go_wp2_with fail
      refine (HS.out _).mono ?_; rintro x w1 ⟨rfl, hb1⟩
      have H01 := Lib.hid (blk_keep2 hb1 H0.out)
      have H11 := Lib.hid (blk_keep2 hb1 H1.out)
      have hw1 := bthen hbl hb1
      clear hb1
      go_upto_region 10 with (fail)
      go_step
      refine wpList_load_row rfl 65 (.tmp 2) rfl _ rfl _ _ _ _ (blk_alloc H01.out _) Tryz.underlying65 rfl (by kernel_rfl) ?_
      go_wp2_with fail
      refine (with_any 127 (p0.size : Int) (127 + (p0.size : Int)) (p1.size : Int) (127 + (p0.size : Int) + (p1.size : Int)) (p2.size : Int) (127 + (p0.size : Int) + (p1.size : Int) + (p2.size : Int)) (p3.size : Int) a e c lo hi _).mono ?_; rintro x w2 ⟨rfl, hb2⟩
      have H12 := Lib.hid (blk_keep2 hb2 (blk_alloc H11.out _))
      have hw2 := bthen (blk_new1 hw1 _) hb2
      clear hb2
      go_wp2_with fail
      refine (HE.out _).mono ?_; rintro x w3 ⟨rfl, hb3⟩
      have H13 := Lib.hid (blk_keep2 hb3 H12.out)
      have hw3 := bthen hw2 hb3
      clear hb3
      go_wp2_with fail
      refine (Tryz.strings_Join (w.heap.size + 1) 0 4 [p0, p1, p2, p3] ⟨#[]⟩ _ ?_ (blk_lt H13.out) (by simp) (by simp) HL.out).mono ?_
      · intro j x hx
        have h := cell_of_row w3 (w.heap.size + 1) j _ _ _ H13.out
        rw [Nat.zero_add, h]
        rcases j with _ | _ | _ | _ | j <;> simp at hx ⊢ <;> exact hx
      rintro x w4 ⟨rfl, hb4⟩
      have hw4 := bthen hw3 hb4
      clear hb4
      have hsz : ¬ 9223372036854775807 < (strOfNums (Hd.bytes [127, (p0.size : Int), 127 + (p0.size : Int), (p1.size : Int), 127 + (p0.size : Int) + (p1.size : Int), (p2.size : Int), 127 + (p0.size : Int) + (p1.size : Int) + (p2.size : Int), (p3.size : Int)] a e c lo hi)).size + (Lib.join [p0.data.toList, p1.data.toList, p2.data.toList, p3.data.toList] []).length := by
        have h1 : (Lib.join [p0.data.toList, p1.data.toList, p2.data.toList, p3.data.toList] []).length ≤ 140737488355328 := HL.out
        rw [strOfNums_size, Hd.bytes_len rfl]
        omega
      go_wp2_with fail
      go_ret2
      exact ⟨_, rfl, HJ.out, hw4⟩
end Go.Proofs.YtlfahmdndlmhpaaGreatDoor
