/- The walk of the layout's With. -/
import Derived.Test.YtlfahmdndlmhpaaGreatDoorM13
import Derived.Test.YtlfahmdndlmhpaaGreatDoorM18
import Derived.Laws.Tables
import Derived.Laws.CopyOwn
import Derived.Deep.Cut
namespace Go.Proofs.YtlfahmdndlmhpaaGreatDoor
open Go.RowKit

set_option maxRecDepth 100000 in
set_option maxHeartbeats 4000000 in
theorem with_any (r0 r1 m0 m1 l0 l1 d0 d1 a e c lo hi : Int) (w : World) :
    Calls Tryz.prog 54 #[.agg #[.int .u64 0, .int .u64 0, .int .u64 0, .int .u64 0, .int .u64 0, .int .u64 0, .int .u64 0, .int .u64 0, .int .u64 a, .int .u64 e, .int .u64 c, .bool true, .int .u8 1, .int .u8 1, .int .u8 0, .int .i64 lo, .int .i64 hi, .int .i64 (-1800000000), .int .i64 (-850511287), .int .i64 1800000000, .int .i64 850511287, .int .i64 lo, .int .i64 0, .int .i64 0], .agg #[.int .u64 r0, .int .u64 r1, .int .u64 m0, .int .u64 m1, .int .u64 l0, .int .u64 l1, .int .u64 d0, .int .u64 d1]] w fun x w' => x = .returned (.agg #[.int .u64 r0, .int .u64 r1, .int .u64 m0, .int .u64 m1, .int .u64 l0, .int .u64 l1, .int .u64 d0, .int .u64 d1, .int .u64 a, .int .u64 e, .int .u64 c, .bool true, .int .u8 1, .int .u8 1, .int .u8 0, .int .i64 lo, .int .i64 hi, .int .i64 (-1800000000), .int .i64 (-850511287), .int .i64 1800000000, .int .i64 850511287, .int .i64 lo, .int .i64 0, .int .i64 0]) ∧ Below w.heap.size w w' := by
  go_enter Tryz.func54, Tryz.ntmps54
  go_wp2_with fail
  go_region
  all_goals
    go_upto_region 2 with (fail)
    go_step
    refine wpList_load_row rfl 65 (.tmp 2) rfl w.heap.size rfl _ #[.int .u64 r0, .int .u64 r1, .int .u64 m0, .int .u64 m1, .int .u64 l0, .int .u64 l1, .int .u64 d0, .int .u64 d1, .int .u64 a, .int .u64 e, .int .u64 c, .bool true, .int .u8 1, .int .u8 1, .int .u8 0, .int .i64 lo, .int .i64 hi, .int .i64 (-1800000000), .int .i64 (-850511287), .int .i64 1800000000, .int .i64 850511287, .int .i64 lo, .int .i64 0, .int .i64 0] _ _ (blk_alloc (blk_alloc (heap_alloc_new w _) _) _) Tryz.underlying65 rfl (by kernel_rfl) ?_
    refine wpList_store_row rfl 65 (.tmp 4) (.tmp 17) rfl (w.heap.size + 1 + 1) #[.int .u64 r0, .int .u64 r1, .int .u64 m0, .int .u64 m1, .int .u64 l0, .int .u64 l1, .int .u64 d0, .int .u64 d1, .int .u64 a, .int .u64 e, .int .u64 c, .bool true, .int .u8 1, .int .u8 1, .int .u8 0, .int .i64 lo, .int .i64 hi, .int .i64 (-1800000000), .int .i64 (-850511287), .int .i64 1800000000, .int .i64 850511287, .int .i64 lo, .int .i64 0, .int .i64 0] rfl rfl _ _ (heap_at (by simp)) (by kernel_rfl) rfl (by kernel_rfl) ?_
    go_wp2_with fail
    exact bodyPost_ret (v := .agg #[.int .u64 r0, .int .u64 r1, .int .u64 m0, .int .u64 m1, .int .u64 l0, .int .u64 l1, .int .u64 d0, .int .u64 d1, .int .u64 a, .int .u64 e, .int .u64 c, .bool true, .int .u8 1, .int .u8 1, .int .u8 0, .int .i64 lo, .int .i64 hi, .int .i64 (-1800000000), .int .i64 (-850511287), .int .i64 1800000000, .int .i64 850511287, .int .i64 lo, .int .i64 0, .int .i64 0]) (results_cell_row Tryz.results54 _ _ (w.heap.size + 1 + 1) _ _ _ _ rfl (setRow_heap _ _ _ _ _ _ (heap_at (by simp))) Tryz.underlying65 rfl (by kernel_rfl)) rfl ⟨rfl, below_setRow ((by repeat (first | with_reducible exact Below.refl _ _ | with_reducible assumption | with_reducible refine Below.setCell ?_ (by first | (simp; done) | (simp; omega) | omega) _ | with_reducible refine Below.alloc ?_ (by first | exact Nat.le_refl _ | (simp; done) | (simp; omega) | omega) _ | with_reducible refine Below.drew ?_))) (by omega) _⟩
end Go.Proofs.YtlfahmdndlmhpaaGreatDoor
