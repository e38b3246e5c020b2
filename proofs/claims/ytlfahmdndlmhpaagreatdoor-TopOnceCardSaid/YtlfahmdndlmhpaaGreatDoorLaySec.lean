/- The walks of the layout's Sections. -/
import Derived.Test.YtlfahmdndlmhpaaGreatDoorM13
import Derived.Laws.Tables
import Derived.Laws.CopyOwn
import Derived.Deep.Cut
namespace Go.Proofs.YtlfahmdndlmhpaaGreatDoor
open Go.RowKit

def Ly.at_ (a0 a1 a2 a3 : Int) : Nat → Int
  | 0 => 127
  | 1 => 127 + a0
  | 2 => 127 + a0 + a1
  | 3 => 127 + a0 + a1 + a2
  | _ => 127 + a0 + a1 + a2 + a3
def Ly.out (a0 a1 a2 a3 : Int) : Nat → List Value
  | 0 => [.int .u64 0, .int .u64 0, .int .u64 0, .int .u64 0, .int .u64 0, .int .u64 0, .int .u64 0, .int .u64 0]
  | 1 => [.int .u64 127, .int .u64 a0, .int .u64 0, .int .u64 0, .int .u64 0, .int .u64 0, .int .u64 0, .int .u64 0]
  | 2 => [.int .u64 127, .int .u64 a0, .int .u64 (127 + a0), .int .u64 a1, .int .u64 0, .int .u64 0, .int .u64 0, .int .u64 0]
  | 3 => [.int .u64 127, .int .u64 a0, .int .u64 (127 + a0), .int .u64 a1, .int .u64 (127 + a0 + a1), .int .u64 a2, .int .u64 0, .int .u64 0]
  | _ => [.int .u64 127, .int .u64 a0, .int .u64 (127 + a0), .int .u64 a1, .int .u64 (127 + a0 + a1), .int .u64 a2, .int .u64 (127 + a0 + a1 + a2), .int .u64 a3]
def SecPost (v : Value) (n : Int) (w : World) (x : Ending) (w' : World) : Prop := x = .returned (.tuple #[v, .int .u64 n, .int .i64 0]) ∧ Below w.heap.size w w'
set_option maxRecDepth 100000 in
set_option maxHeartbeats 2000000 in
theorem secs_any (a0 a1 a2 a3 : Int) (h0 : 0 ≤ a0) (h1 : 0 ≤ a1) (h2 : 0 ≤ a2) (h3 : 0 ≤ a3) (h : a0 + a1 + a2 + a3 ≤ 1000000000) (w : World) :
    Calls Tryz.prog 52 #[.agg #[.int .u64 a0, .int .u64 a1, .int .u64 a2, .int .u64 a3]] w (SecPost (.agg #[.int .u64 127, .int .u64 a0, .int .u64 (127 + a0), .int .u64 a1, .int .u64 (127 + a0 + a1), .int .u64 a2, .int .u64 (127 + a0 + a1 + a2), .int .u64 a3]) (127 + a0 + a1 + a2 + a3) w) := by
  have i0 : ∀ w, (Instr.index 119 (.agg #[.int .u64 a0, .int .u64 a1, .int .u64 a2, .int .u64 a3]) (.int .i64 0)).run Tryz.prog w = .ok (.int .u64 a0) w := fun _ => by rfl
  have i1 : ∀ w, (Instr.index 119 (.agg #[.int .u64 a0, .int .u64 a1, .int .u64 a2, .int .u64 a3]) (.int .i64 1)).run Tryz.prog w = .ok (.int .u64 a1) w := fun _ => by rfl
  have i2 : ∀ w, (Instr.index 119 (.agg #[.int .u64 a0, .int .u64 a1, .int .u64 a2, .int .u64 a3]) (.int .i64 2)).run Tryz.prog w = .ok (.int .u64 a2) w := fun _ => by rfl
  have i3 : ∀ w, (Instr.index 119 (.agg #[.int .u64 a0, .int .u64 a1, .int .u64 a2, .int .u64 a3]) (.int .i64 3)).run Tryz.prog w = .ok (.int .u64 a3) w := fun _ => by rfl
  go_enter Tryz.func52, Tryz.ntmps52
  go_wp2_with fail
  go_loopw [6, 7, 8, 10] (fun ca _ _ ci wr => ∃ (k : Nat) (A : Int), k ≤ 4 ∧ ci = .int .i64 k ∧ ca = .int .u64 A ∧ Hid (A = Ly.at_ a0 a1 a2 a3 k) ∧ Hid (wr.heap[w.heap.size + 2]? = some (.cells (Ly.out a0 a1 a2 a3 k).toArray 120 (0, 0))) ∧ Hid (wr.heap[w.heap.size + 1]? = some (.cells #[.int .u64 0, .int .u64 0, .int .u64 0, .int .u64 0, .int .u64 0, .int .u64 0, .int .u64 0, .int .u64 0] 120 (0, 0))) ∧ Below w.heap.size w wr) (fun _ _ _ ci _ => 4 - (intOf ci).toNat)
  case atStart => exact ⟨0, _, by omega, rfl, rfl, Lib.hid rfl, Lib.hid (heap_at (by simp)), Lib.hid (blk_alloc (heap_at (by simp)) _), (by repeat (first | with_reducible exact Below.refl _ _ | with_reducible assumption | with_reducible refine Below.setCell ?_ (by first | (simp; done) | (simp; omega) | omega) _ | with_reducible refine Below.alloc ?_ (by first | exact Nat.le_refl _ | (simp; done) | (simp; omega) | omega) _ | with_reducible refine Below.drew ?_))⟩
  case round =>
    obtain ⟨k, A, hk, rfl, rfl, HA, HB, HZ, hbl⟩ := hrel
    rcases (show k = 0 ∨ k = 1 ∨ k = 2 ∨ k = 3 ∨ k = 4 by omega) with rfl | rfl | rfl | rfl | rfl
    · obtain rfl : A = 127 := HA.out
      have c0 : wr.cell? ⟨w.heap.size + 2, 0, none⟩ = some (.int .u64 0) := cell_of_row wr _ 0 _ _ _ HB.out
      have c1 : wr.cell? ⟨w.heap.size + 2, 1, none⟩ = some (.int .u64 0) := cell_of_row wr _ 1 _ _ _ HB.out
      have f0 : wr.frozen? ⟨w.heap.size + 2, 0, none⟩ = false := by simp [World.frozen?, HB.out]
      have f1 : wr.frozen? ⟨w.heap.size + 2, 1, none⟩ = false := by simp [World.frozen?, HB.out]
      have hu := u64w (a := 1099511627776 - (127)) (by omega) (by omega)
      have hg : ¬ a0 > 1099511627776 - (127) := by omega
      go_wp2_with fail
      exact ⟨⟨1, _, by omega, rfl, rfl, Lib.hid rfl, Lib.hid ((set_blk (set_blk HB.out)).trans (by kernel_rfl)), Lib.hid (set_far (set_far HZ.out (by omega)) (by omega)), below_set (below_set hbl (by omega) _) (by omega) _⟩, by simp [intOf]⟩
    · obtain rfl : A = 127 + a0 := HA.out
      have c0 : wr.cell? ⟨w.heap.size + 2, 2, none⟩ = some (.int .u64 0) := cell_of_row wr _ 2 _ _ _ HB.out
      have c1 : wr.cell? ⟨w.heap.size + 2, 3, none⟩ = some (.int .u64 0) := cell_of_row wr _ 3 _ _ _ HB.out
      have f0 : wr.frozen? ⟨w.heap.size + 2, 2, none⟩ = false := by simp [World.frozen?, HB.out]
      have f1 : wr.frozen? ⟨w.heap.size + 2, 3, none⟩ = false := by simp [World.frozen?, HB.out]
      have hu := u64w (a := 1099511627776 - (127 + a0)) (by omega) (by omega)
      have hg : ¬ a1 > 1099511627776 - (127 + a0) := by omega
      go_wp2_with fail
      exact ⟨⟨2, _, by omega, rfl, rfl, Lib.hid rfl, Lib.hid ((set_blk (set_blk HB.out)).trans (by kernel_rfl)), Lib.hid (set_far (set_far HZ.out (by omega)) (by omega)), below_set (below_set hbl (by omega) _) (by omega) _⟩, by simp [intOf]⟩
    · obtain rfl : A = 127 + a0 + a1 := HA.out
      have c0 : wr.cell? ⟨w.heap.size + 2, 4, none⟩ = some (.int .u64 0) := cell_of_row wr _ 4 _ _ _ HB.out
      have c1 : wr.cell? ⟨w.heap.size + 2, 5, none⟩ = some (.int .u64 0) := cell_of_row wr _ 5 _ _ _ HB.out
      have f0 : wr.frozen? ⟨w.heap.size + 2, 4, none⟩ = false := by simp [World.frozen?, HB.out]
      have f1 : wr.frozen? ⟨w.heap.size + 2, 5, none⟩ = false := by simp [World.frozen?, HB.out]
      have hu := u64w (a := 1099511627776 - (127 + a0 + a1)) (by omega) (by omega)
      have hg : ¬ a2 > 1099511627776 - (127 + a0 + a1) := by omega
      go_wp2_with fail
      exact ⟨⟨3, _, by omega, rfl, rfl, Lib.hid rfl, Lib.hid ((set_blk (set_blk HB.out)).trans (by kernel_rfl)), Lib.hid (set_far (set_far HZ.out (by omega)) (by omega)), below_set (below_set hbl (by omega) _) (by omega) _⟩, by simp [intOf]⟩
    · obtain rfl : A = 127 + a0 + a1 + a2 := HA.out
      have c0 : wr.cell? ⟨w.heap.size + 2, 6, none⟩ = some (.int .u64 0) := cell_of_row wr _ 6 _ _ _ HB.out
      have c1 : wr.cell? ⟨w.heap.size + 2, 7, none⟩ = some (.int .u64 0) := cell_of_row wr _ 7 _ _ _ HB.out
      have f0 : wr.frozen? ⟨w.heap.size + 2, 6, none⟩ = false := by simp [World.frozen?, HB.out]
      have f1 : wr.frozen? ⟨w.heap.size + 2, 7, none⟩ = false := by simp [World.frozen?, HB.out]
      have hu := u64w (a := 1099511627776 - (127 + a0 + a1 + a2)) (by omega) (by omega)
      have hg : ¬ a3 > 1099511627776 - (127 + a0 + a1 + a2) := by omega
      go_wp2_with fail
      exact ⟨⟨4, _, by omega, rfl, rfl, Lib.hid rfl, Lib.hid ((set_blk (set_blk HB.out)).trans (by kernel_rfl)), Lib.hid (set_far (set_far HZ.out (by omega)) (by omega)), below_set (below_set hbl (by omega) _) (by omega) _⟩, by simp [intOf]⟩
    · obtain rfl : A = 127 + a0 + a1 + a2 + a3 := HA.out
      have HB4 : wr.heap[w.heap.size + 1 + 1]? = some (.cells #[.int .u64 127, .int .u64 a0, .int .u64 (127 + a0), .int .u64 a1, .int .u64 (127 + a0 + a1), .int .u64 a2, .int .u64 (127 + a0 + a1 + a2), .int .u64 a3] 120 (0, 0)) := HB.out
      have HB4 := Lib.hid HB4
      go_upto_region 11 with (fail)
      go_step
      refine wpList_load_row rfl 120 (.tmp 5) rfl _ rfl _ _ _ _ HB4.out Tryz.underlying120 rfl (by kernel_rfl) ?_
      go_wp2_with (refine wpList_store_row rfl 120 (.tmp 2) (.tmp 28) rfl (w.heap.size + 1) #[.int .u64 127, .int .u64 a0, .int .u64 (127 + a0), .int .u64 a1, .int .u64 (127 + a0 + a1), .int .u64 a2, .int .u64 (127 + a0 + a1 + a2), .int .u64 a3] rfl rfl _ _ HZ.out (by kernel_rfl) rfl (by kernel_rfl) ?_)
      exact bodyPost_ret (v := .tuple #[.agg #[.int .u64 127, .int .u64 a0, .int .u64 (127 + a0), .int .u64 a1, .int .u64 (127 + a0 + a1), .int .u64 a2, .int .u64 (127 + a0 + a1 + a2), .int .u64 a3], .int .u64 (127 + a0 + a1 + a2 + a3), .int .i64 0]) (results_row_tmp2 Tryz.results52 _ _ (w.heap.size + 1) _ _ _ _ _ _ rfl rfl rfl (setRow_heap _ _ _ _ _ _ HZ.out) Tryz.underlying120 rfl (by kernel_rfl)) rfl ⟨rfl, below_setRow hbl (by omega) _⟩
end Go.Proofs.YtlfahmdndlmhpaaGreatDoor
