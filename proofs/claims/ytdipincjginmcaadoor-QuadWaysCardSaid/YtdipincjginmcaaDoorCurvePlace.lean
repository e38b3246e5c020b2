/- The walk of curve.Place: the place of any tile, or why there is none. -/
import Derived.Test.YtdipincjginmcaaDoorCurveSide
import Derived.Deep.RegionHeld3
namespace Go.Proofs.YtdipincjginmcaaDoor
open Go.RowKit

/-- is there such a tile? -/
def Cv.okB (z x y : Int) : Bool := decide (0 ≤ z ∧ z ≤ 26 ∧ 0 ≤ x ∧ x < ((2 ^ z.toNat : Nat) : Int) ∧ 0 ≤ y ∧ y < ((2 ^ z.toNat : Nat) : Int))
/-- its place, or 0 -/
def Cv.pv (z x y : Int) : Int := if Cv.okB z x y then ((Cv.place z.toNat x.toNat y.toNat : Nat) : Int) else 0
/-- its error -/
def Cv.pe (z x y : Int) : Int := if 0 ≤ z ∧ z ≤ 26 then (if Cv.okB z x y then 0 else 8) else 2

theorem place_arg (z x y : Int) (h : ¬ (0 ≤ z ∧ z ≤ 26)) (w : World) :
    Calls Tryd.prog 32 #[.int .i64 z, .int .i64 x, .int .i64 y] w fun e w' => e = .returned (.tuple #[.int .u64 0, .int .i64 2]) ∧ w = w' := by
  have hs : Cv.side z = 0 := by unfold Cv.side; rw [if_neg h]
  go_enter Tryd.func32, Tryd.ntmps32
  go_wp2_with (go_at_call 43; refine (side_any _ _).mono ?_; rintro e w' ⟨rfl, rfl⟩)
  go_ret2
  exact ⟨rfl, rfl⟩

theorem place_out (z x y : Int) (h0 : 0 ≤ z) (h1 : z ≤ 26) (h : x < 0 ∨ y < 0 ∨ Cv.side z ≤ x ∨ Cv.side z ≤ y) (w : World) :
    Calls Tryd.prog 32 #[.int .i64 z, .int .i64 x, .int .i64 y] w fun e w' => e = .returned (.tuple #[.int .u64 0, .int .i64 8]) ∧ w = w' := by
  have hs : 0 < Cv.side z := by unfold Cv.side; rw [if_pos ⟨h0, h1⟩]; have := Cv.pow_pos2 z.toNat; omega
  by_cases c1 : x < 0
  · go_enter Tryd.func32, Tryd.ntmps32
    go_wp2_with (go_at_call 43; refine (side_any _ _).mono ?_; rintro e w' ⟨rfl, rfl⟩)
    go_ret2
    exact ⟨rfl, rfl⟩
  · by_cases c2 : y < 0
    · go_enter Tryd.func32, Tryd.ntmps32
      go_wp2_with (go_at_call 43; refine (side_any _ _).mono ?_; rintro e w' ⟨rfl, rfl⟩)
      go_ret2
      exact ⟨rfl, rfl⟩
    · by_cases c3 : Cv.side z ≤ x
      · go_enter Tryd.func32, Tryd.ntmps32
        go_wp2_with (go_at_call 43; refine (side_any _ _).mono ?_; rintro e w' ⟨rfl, rfl⟩)
        go_ret2
        exact ⟨rfl, rfl⟩
      · have c4 : Cv.side z ≤ y := by omega
        go_enter Tryd.func32, Tryd.ntmps32
        go_wp2_with (go_at_call 43; refine (side_any _ _).mono ?_; rintro e w' ⟨rfl, rfl⟩)
        go_ret2
        exact ⟨rfl, rfl⟩

end Go.Proofs.YtdipincjginmcaaDoor
