/- The walks of package curve: what each call gives. -/
import Derived.Test.YtdipincjginmcaaDoorKit
import Derived.Test.YtdipincjginmcaaDoorTileMath
import Derived.BigRegion
import Derived.BigQuiet
import Derived.Deep.QuietTactic
import Derived.Deep.RegionWith
import Derived.StillTailTactics
import Derived.Outline
namespace Go.Proofs.YtdipincjginmcaaDoor
open Go.RowKit

def Cv.num (x y : Nat) : Nat := if x = 0 then (if y = 0 then 0 else 1) else (if y = 0 then 3 else 2)

theorem number_any (x y : Nat) (hx : x < 2) (hy : y < 2) (w : World) :
    Calls Tryd.prog 45 #[.int .u64 x, .int .u64 y] w fun e w' => e = .returned (.int .u64 (Cv.num x y)) ∧ Below w.heap.size w w' := by
  have h : (x = 0 ∨ x = 1) ∧ (y = 0 ∨ y = 1) := by omega
  rcases h with ⟨rfl | rfl, rfl | rfl⟩
  all_goals
    go_enter Tryd.func45, Tryd.ntmps45
    go_wp2
    go_ret
    exact ⟨rfl, (Below.refl _ _).alloc (Nat.le_refl _) _⟩

theorem quarters_any (w : World) :
    Calls Tryd.prog 44 #[] w fun e w' => e = .returned (.agg #[.int .u64 0, .int .u64 0, .bool true, .bool false, .int .u64 0, .int .u64 1, .bool false, .bool false, .int .u64 1, .int .u64 1, .bool false, .bool false, .int .u64 1, .int .u64 0, .bool true, .bool true]) ∧ Below w.heap.size w w' := by
  go_enter Tryd.func44, Tryd.ntmps44
  go_wp2
  refine bodyPost_ret (v := .agg #[.int .u64 0, .int .u64 0, .bool true, .bool false, .int .u64 0, .int .u64 1, .bool false, .bool false, .int .u64 1, .int .u64 1, .bool false, .bool false, .int .u64 1, .int .u64 0, .bool true, .bool true]) (by simp [results, Tryd.results44, go_sem]) rfl ⟨rfl, ?_⟩
  exact (Below.refl _ _).alloc (Nat.le_refl _) _

def Cv.turn (sw mi : Bool) (n x y : Nat) : Nat × Nat :=
  if mi then (if sw then (2 ^ n - 1 - y % 2 ^ n, 2 ^ n - 1 - x % 2 ^ n) else (2 ^ n - 1 - x % 2 ^ n, 2 ^ n - 1 - y % 2 ^ n)) else (if sw then (y % 2 ^ n, x % 2 ^ n) else (x % 2 ^ n, y % 2 ^ n))

theorem turn_any (qx qy : Int) (sw mi : Bool) (n x y : Nat) (hn : n ≤ 26) (hx : x < 18446744073709551616) (hy : y < 18446744073709551616) (w : World) :
    Calls Tryd.prog 46 #[.agg #[.int .u64 qx, .int .u64 qy, .bool sw, .bool mi], .int .u64 x, .int .u64 y, .int .i64 n] w fun e w' => e = .returned (.tuple #[.int .u64 (Cv.turn sw mi n x y).1, .int .u64 (Cv.turn sw mi n x y).2]) ∧ Below w.heap.size w w' := by
  cases sw <;> cases mi
  all_goals
    go_enter Tryd.func46, Tryd.ntmps46
    go_wp2
    go_ret2
  · exact ⟨ret2 (u64mask n x (by omega) hx) (u64mask n y (by omega) hy), (Below.refl _ _).alloc (Nat.le_refl _) _⟩
  · exact ⟨ret2 (u64mir n x (by omega) hx) (u64mir n y (by omega) hy), (Below.refl _ _).alloc (Nat.le_refl _) _⟩
  · exact ⟨ret2 (u64mask n y (by omega) hy) (u64mask n x (by omega) hx), (Below.refl _ _).alloc (Nat.le_refl _) _⟩
  · exact ⟨ret2 (u64mir n y (by omega) hy) (u64mir n x (by omega) hx), (Below.refl _ _).alloc (Nat.le_refl _) _⟩

theorem number_int (x y : Int) (hx0 : 0 ≤ x) (hx : x ≤ 1) (hy0 : 0 ≤ y) (hy : y ≤ 1) (w : World) :
    Calls Tryd.prog 45 #[.int .u64 x, .int .u64 y] w fun e w' => e = .returned (.int .u64 (Cv.num x.toNat y.toNat)) ∧ Below w.heap.size w w' := by
  have h := number_any x.toNat y.toNat (by omega) (by omega) w
  rwa [Int.toNat_of_nonneg hx0, Int.toNat_of_nonneg hy0] at h

theorem turn_int (qx qy : Int) (sw mi : Bool) (n x y : Int) (hn0 : 0 ≤ n) (hn : n ≤ 26) (hx0 : 0 ≤ x) (hx : x < 18446744073709551616) (hy0 : 0 ≤ y) (hy : y < 18446744073709551616) (w : World) :
    Calls Tryd.prog 46 #[.agg #[.int .u64 qx, .int .u64 qy, .bool sw, .bool mi], .int .u64 x, .int .u64 y, .int .i64 n] w fun e w' => e = .returned (.tuple #[.int .u64 (Cv.turn sw mi n.toNat x.toNat y.toNat).1, .int .u64 (Cv.turn sw mi n.toNat x.toNat y.toNat).2]) ∧ Below w.heap.size w w' := by
  have h := turn_any qx qy sw mi n.toNat x.toNat y.toNat (by omega) (by omega) (by omega) w
  rwa [Int.toNat_of_nonneg hx0, Int.toNat_of_nonneg hy0, Int.toNat_of_nonneg hn0] at h

end Go.Proofs.YtdipincjginmcaaDoor
