/- The walk of curve.Side. -/
import Derived.Test.YtdipincjginmcaaDoorKit
import Derived.Test.YtdipincjginmcaaDoorTileMath
import Derived.BigRegion
import Derived.BigQuiet
import Derived.Deep.QuietTactic
import Derived.Deep.RegionWith
import Derived.StillTailTactics
import Derived.Outline
namespace Go.Proofs.YtdipincjginmcaaDoor
open Go.RowKit

def Cv.side (z : Int) : Int := if 0 ≤ z ∧ z ≤ 26 then ((2 ^ z.toNat : Nat) : Int) else 0

theorem side_any (z : Int) (w : World) :
    Calls Tryd.prog 43 #[.int .i64 z] w fun e w' => e = .returned (.int .i64 (Cv.side z)) ∧ w = w' := by
  by_cases h0 : z < 0
  · go_enter Tryd.func43, Tryd.ntmps43
    go_wp2
    go_ret
    exact ⟨ret1 (by unfold Cv.side; rw [if_neg (by omega)]), rfl⟩
  · by_cases h1 : 26 < z
    · go_enter Tryd.func43, Tryd.ntmps43
      go_wp2
      go_ret
      exact ⟨ret1 (by unfold Cv.side; rw [if_neg (by omega)]), rfl⟩
    · have h0' : 0 ≤ z := by omega
      have h1' : z ≤ 26 := by omega
      go_enter Tryd.func43, Tryd.ntmps43
      go_wp2
      go_ret
      exact ⟨ret1 (by unfold Cv.side; rw [if_pos ⟨h0', h1'⟩]; exact i64pow z.toNat (by omega)), rfl⟩

end Go.Proofs.YtdipincjginmcaaDoor
