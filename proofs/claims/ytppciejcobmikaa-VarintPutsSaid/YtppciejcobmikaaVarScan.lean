/- Scans: the small functions. -/
import Derived.Test.YtppciejcobmikaaVarMath
import Derived.Test.YtppciejcobmikaaBlk
import Derived.RegionTactic
import Derived.IntWalk
namespace Go.Proofs.Ytppciejcobmikaa
open Go.RowKit

abbrev Sc (s : ByteArray) (a b : Int) : Value := .agg #[.string s, .int .i64 a, .int .i64 b]

set_option maxHeartbeats 1000000 in
theorem bad_any (s : ByteArray) (a b e : Int) (w : World) :
    Calls Try.prog 70 #[Sc s a b, .int .i64 e] w fun r w' => r = .returned (.tuple #[.int .u64 0, Sc s a e]) ∧ Below w.heap.size w w' := by
  go_enter Try.func70, Try.ntmps70
  go_wp2_with fail
  go_region
  all_goals
    go_wp2_with fail
    exact bodyPost_ret (v := .tuple #[.int .u64 0, Sc s a e]) (by simp [results, Try.results70, go_sem]) rfl ⟨rfl, (bthen (blk_new _ _) (blk_new _ _)).drew⟩

theorem own02_any (s : ByteArray) (a b : Int) (w : World) :
    Calls Try.prog 50 #[Sc s a b] w fun r w' => r = .returned (Sc s a b) ∧ Below w.heap.size w w' := by
  go_enter Try.func50, Try.ntmps50
  go_wp2_with fail
  exact bodyPost_ret (v := Sc s a b) (by simp [results, Try.results50, go_sem]) rfl ⟨rfl, bthen (blk_new _ _) (blk_new _ _)⟩
theorem back01_any (s : ByteArray) (a b : Int) (w : World) :
    Calls Try.prog 54 #[Sc s a b] w fun r w' => r = .returned (Sc s a b) ∧ Below w.heap.size w w' := by
  go_enter Try.func54, Try.ntmps54
  go_wp2_with fail
  exact bodyPost_ret (v := Sc s a b) (by simp [results, Try.results54, go_sem]) rfl ⟨rfl, bthen (blk_new _ _) (blk_new _ _)⟩
theorem stands_any (s : ByteArray) (a b : Int) (h : 0 ≤ a ∧ a ≤ s.size) (w : World) :
    Calls Try.prog 72 #[Sc s a b] w fun r w' => r = .returned (.bool true) ∧ Below w.heap.size w w' := by
  obtain ⟨h0, h1⟩ := h
  go_enter Try.func72, Try.ntmps72
  go_wp2_with fail
  go_ret
  exact ⟨rfl, blk_new _ _⟩
/-- at the end, without a fault -/
theorem scend_any (s : ByteArray) (w : World) :
    Calls Try.prog 56 #[Sc s s.size 0] w fun r w' => r = .returned (.int .i64 0) ∧ Below w.heap.size w w' := by
  go_enter Try.func56, Try.ntmps56
  go_wp2_with fail
  refine (stands_any _ _ _ (by omega) _).mono ?_; rintro e w1 ⟨rfl, hb⟩
  have hA := Lib.hid (blk_one hb).1
  have hw := (blk_one hb).2.2
  obtain ⟨⟨a0, a1, a2⟩, _⟩ := blk_cells3 hA.out
  clear hb
  go_wp2_with fail
  go_ret
  exact ⟨rfl, hw⟩
end Go.Proofs.Ytppciejcobmikaa
