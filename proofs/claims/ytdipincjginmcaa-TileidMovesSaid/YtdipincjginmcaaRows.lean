/-
  No cell of these rows narrows 'for every input' (looked for: loops, veiled, ifaces, maps, wideKeys, modest, calm, conditions, laid).
  DERIVED. THE GIVEN ROWS OF THIS SEAT. 10 by the template 'for every input the law returns true; each argument reads behind the call as it read before'; 0 by the template 'total and deterministic' (their statements: YtdipincjginmcaaTotals.lean).
  GIVEN WITH THE SEED: the statements are not yours to turn. If you find one false, say at which input.
  Laid BY PROGRAM, IN A SANDBOX (cutbox-rows.mjs): the forced cells as the released guide's own fill.sh prints them over the translation d20cd9fc796f04f7… (all of the seat's roots in one cut). By AI agents, Wed Nov 11 2026. No macro, syntax, notation, axiom, sorry.
-/
import Derived.Test.YtdipincjginmcaaChecked
import GoSem.Claim
import GoSem.ClaimJoined
import GoSem.ClaimMapViews
import Derived.JoinedTies
import Derived.KernelRfl
namespace Go.Proofs.Ytdipincjginmcaa
/- THE CELL 'sum', in the pinned program and in every row, IS THE sha256 OF THE DUMP (.gsa) THAT YtdipincjginmcaaProg.lean LOADS. Nothing in Lean hashes anything: it is a label: what it is worth is what the hold of that sum in a sandbox is worth. -/
noncomputable def Try.pinned : Pinned := { name := "ytdipincjginmcaa", sum := "d20cd9fc796f04f79016eb6165320d9c6ec672d47cd964eb59ad68f8580896c0", checked := Try.checked }
namespace Rows
def none {H : Type} : Left H := { results := [], args := [] }

/-- 'gazetteerlaw03.CurveTells': WHATEVER THE INPUT: true; the input reads as it did. -/
def curveTellsSpec : ChangeSpec := { name := "curveTells", fn := fun _ => fun
  | [d1, d2, d3] => { results := [.lit (.bool true)], args := [d1, d2, d3] }
  | _ => none }
def curveTellsRow : OpenClaim := { program := "ytdipincjginmcaa", sum := "d20cd9fc796f04f79016eb6165320d9c6ec672d47cd964eb59ad68f8580896c0", func := "gazetteer/gazetteerlaw03.CurveTells", spec := "curveTells", recurses := true, apart := false }
def CurveTellsSaid : Prop := curveTellsRow.holds Try.pinned (OpenSpec.ofChange curveTellsSpec)

/-- ITS FALSE NEIGHBOUR: 'it returns false'. Refute it at one input. -/
def curveTellsWrong : ChangeSpec := { name := "curveTells", fn := fun _ => fun
  | [d1, d2, d3] => { results := [.lit (.bool false)], args := [d1, d2, d3] }
  | _ => none }
def CurveTellsWrongFalsely : Prop := curveTellsRow.holds Try.pinned (OpenSpec.ofChange curveTellsWrong)

/-- 'gazetteerlaw03.CurvePoints': WHATEVER THE INPUT: true; the input reads as it did. -/
def curvePointsSpec : ChangeSpec := { name := "curvePoints", fn := fun _ => fun
  | [d1, d2] => { results := [.lit (.bool true)], args := [d1, d2] }
  | _ => none }
def curvePointsRow : OpenClaim := { program := "ytdipincjginmcaa", sum := "d20cd9fc796f04f79016eb6165320d9c6ec672d47cd964eb59ad68f8580896c0", func := "gazetteer/gazetteerlaw03.CurvePoints", spec := "curvePoints", recurses := true, apart := false }
def CurvePointsSaid : Prop := curvePointsRow.holds Try.pinned (OpenSpec.ofChange curvePointsSpec)

/-- ITS FALSE NEIGHBOUR: 'it returns false'. Refute it at one input. -/
def curvePointsWrong : ChangeSpec := { name := "curvePoints", fn := fun _ => fun
  | [d1, d2] => { results := [.lit (.bool false)], args := [d1, d2] }
  | _ => none }
def CurvePointsWrongFalsely : Prop := curvePointsRow.holds Try.pinned (OpenSpec.ofChange curvePointsWrong)

/-- 'gazetteerlaw03.CurveBack': WHATEVER THE INPUT: true; the input reads as it did. -/
def curveBackSpec : ChangeSpec := { name := "curveBack", fn := fun _ => fun
  | [d1, d2] => { results := [.lit (.bool true)], args := [d1, d2] }
  | _ => none }
def curveBackRow : OpenClaim := { program := "ytdipincjginmcaa", sum := "d20cd9fc796f04f79016eb6165320d9c6ec672d47cd964eb59ad68f8580896c0", func := "gazetteer/gazetteerlaw03.CurveBack", spec := "curveBack", apart := false }
def CurveBackSaid : Prop := curveBackRow.holds Try.pinned (OpenSpec.ofChange curveBackSpec)

/-- ITS FALSE NEIGHBOUR: 'it returns false'. Refute it at one input. -/
def curveBackWrong : ChangeSpec := { name := "curveBack", fn := fun _ => fun
  | [d1, d2] => { results := [.lit (.bool false)], args := [d1, d2] }
  | _ => none }
def CurveBackWrongFalsely : Prop := curveBackRow.holds Try.pinned (OpenSpec.ofChange curveBackWrong)

/-- 'gazetteerlaw03.CurveSteps': WHATEVER THE INPUT: true; the input reads as it did. -/
def curveStepsSpec : ChangeSpec := { name := "curveSteps", fn := fun _ => fun
  | [d1, d2, d3] => { results := [.lit (.bool true)], args := [d1, d2, d3] }
  | _ => none }
def curveStepsRow : OpenClaim := { program := "ytdipincjginmcaa", sum := "d20cd9fc796f04f79016eb6165320d9c6ec672d47cd964eb59ad68f8580896c0", func := "gazetteer/gazetteerlaw03.CurveSteps", spec := "curveSteps", apart := false }
def CurveStepsSaid : Prop := curveStepsRow.holds Try.pinned (OpenSpec.ofChange curveStepsSpec)

/-- ITS FALSE NEIGHBOUR: 'it returns false'. Refute it at one input. -/
def curveStepsWrong : ChangeSpec := { name := "curveSteps", fn := fun _ => fun
  | [d1, d2, d3] => { results := [.lit (.bool false)], args := [d1, d2, d3] }
  | _ => none }
def CurveStepsWrongFalsely : Prop := curveStepsRow.holds Try.pinned (OpenSpec.ofChange curveStepsWrong)

/-- 'gazetteerlaw03.CurveQuarters': WHATEVER THE INPUT: true; the input reads as it did. -/
def curveQuartersSpec : ChangeSpec := { name := "curveQuarters", fn := fun _ => fun
  | [d1, d2, d3] => { results := [.lit (.bool true)], args := [d1, d2, d3] }
  | _ => none }
def curveQuartersRow : OpenClaim := { program := "ytdipincjginmcaa", sum := "d20cd9fc796f04f79016eb6165320d9c6ec672d47cd964eb59ad68f8580896c0", func := "gazetteer/gazetteerlaw03.CurveQuarters", spec := "curveQuarters", apart := false }
def CurveQuartersSaid : Prop := curveQuartersRow.holds Try.pinned (OpenSpec.ofChange curveQuartersSpec)

/-- ITS FALSE NEIGHBOUR: 'it returns false'. Refute it at one input. -/
def curveQuartersWrong : ChangeSpec := { name := "curveQuarters", fn := fun _ => fun
  | [d1, d2, d3] => { results := [.lit (.bool false)], args := [d1, d2, d3] }
  | _ => none }
def CurveQuartersWrongFalsely : Prop := curveQuartersRow.holds Try.pinned (OpenSpec.ofChange curveQuartersWrong)

/-- 'gazetteerlaw04.TileidTells': WHATEVER THE INPUT: true; the input reads as it did. -/
def tileidTellsSpec : ChangeSpec := { name := "tileidTells", fn := fun _ => fun
  | [d1, d2, d3] => { results := [.lit (.bool true)], args := [d1, d2, d3] }
  | _ => none }
def tileidTellsRow : OpenClaim := { program := "ytdipincjginmcaa", sum := "d20cd9fc796f04f79016eb6165320d9c6ec672d47cd964eb59ad68f8580896c0", func := "gazetteer/gazetteerlaw04.TileidTells", spec := "tileidTells", recurses := true, apart := false }
def TileidTellsSaid : Prop := tileidTellsRow.holds Try.pinned (OpenSpec.ofChange tileidTellsSpec)

/-- ITS FALSE NEIGHBOUR: 'it returns false'. Refute it at one input. -/
def tileidTellsWrong : ChangeSpec := { name := "tileidTells", fn := fun _ => fun
  | [d1, d2, d3] => { results := [.lit (.bool false)], args := [d1, d2, d3] }
  | _ => none }
def TileidTellsWrongFalsely : Prop := tileidTellsRow.holds Try.pinned (OpenSpec.ofChange tileidTellsWrong)

/-- 'gazetteerlaw04.TileidBack': WHATEVER THE INPUT: true; the input reads as it did. -/
def tileidBackSpec : ChangeSpec := { name := "tileidBack", fn := fun _ => fun
  | [d1, d2, d3] => { results := [.lit (.bool true)], args := [d1, d2, d3] }
  | _ => none }
def tileidBackRow : OpenClaim := { program := "ytdipincjginmcaa", sum := "d20cd9fc796f04f79016eb6165320d9c6ec672d47cd964eb59ad68f8580896c0", func := "gazetteer/gazetteerlaw04.TileidBack", spec := "tileidBack", apart := false }
def TileidBackSaid : Prop := tileidBackRow.holds Try.pinned (OpenSpec.ofChange tileidBackSpec)

/-- ITS FALSE NEIGHBOUR: 'it returns false'. Refute it at one input. -/
def tileidBackWrong : ChangeSpec := { name := "tileidBack", fn := fun _ => fun
  | [d1, d2, d3] => { results := [.lit (.bool false)], args := [d1, d2, d3] }
  | _ => none }
def TileidBackWrongFalsely : Prop := tileidBackRow.holds Try.pinned (OpenSpec.ofChange tileidBackWrong)

/-- 'gazetteerlaw04.TileidRange': WHATEVER THE INPUT: true; the input reads as it did. -/
def tileidRangeSpec : ChangeSpec := { name := "tileidRange", fn := fun _ => fun
  | [d1, d2] => { results := [.lit (.bool true)], args := [d1, d2] }
  | _ => none }
def tileidRangeRow : OpenClaim := { program := "ytdipincjginmcaa", sum := "d20cd9fc796f04f79016eb6165320d9c6ec672d47cd964eb59ad68f8580896c0", func := "gazetteer/gazetteerlaw04.TileidRange", spec := "tileidRange", apart := false }
def TileidRangeSaid : Prop := tileidRangeRow.holds Try.pinned (OpenSpec.ofChange tileidRangeSpec)

/-- ITS FALSE NEIGHBOUR: 'it returns false'. Refute it at one input. -/
def tileidRangeWrong : ChangeSpec := { name := "tileidRange", fn := fun _ => fun
  | [d1, d2] => { results := [.lit (.bool false)], args := [d1, d2] }
  | _ => none }
def TileidRangeWrongFalsely : Prop := tileidRangeRow.holds Try.pinned (OpenSpec.ofChange tileidRangeWrong)

/-- 'gazetteerlaw04.TileidMoves': WHATEVER THE INPUT: true; the input reads as it did. -/
def tileidMovesSpec : ChangeSpec := { name := "tileidMoves", fn := fun _ => fun
  | [d1, d2, d3] => { results := [.lit (.bool true)], args := [d1, d2, d3] }
  | _ => none }
def tileidMovesRow : OpenClaim := { program := "ytdipincjginmcaa", sum := "d20cd9fc796f04f79016eb6165320d9c6ec672d47cd964eb59ad68f8580896c0", func := "gazetteer/gazetteerlaw04.TileidMoves", spec := "tileidMoves", recurses := true, apart := false }
def TileidMovesSaid : Prop := tileidMovesRow.holds Try.pinned (OpenSpec.ofChange tileidMovesSpec)

/-- ITS FALSE NEIGHBOUR: 'it returns false'. Refute it at one input. -/
def tileidMovesWrong : ChangeSpec := { name := "tileidMoves", fn := fun _ => fun
  | [d1, d2, d3] => { results := [.lit (.bool false)], args := [d1, d2, d3] }
  | _ => none }
def TileidMovesWrongFalsely : Prop := tileidMovesRow.holds Try.pinned (OpenSpec.ofChange tileidMovesWrong)

/-- 'gazetteerlaw04.TileidFour': WHATEVER THE INPUT: true; the input reads as it did. -/
def tileidFourSpec : ChangeSpec := { name := "tileidFour", fn := fun _ => fun
  | [d1, d2] => { results := [.lit (.bool true)], args := [d1, d2] }
  | _ => none }
def tileidFourRow : OpenClaim := { program := "ytdipincjginmcaa", sum := "d20cd9fc796f04f79016eb6165320d9c6ec672d47cd964eb59ad68f8580896c0", func := "gazetteer/gazetteerlaw04.TileidFour", spec := "tileidFour", apart := false }
def TileidFourSaid : Prop := tileidFourRow.holds Try.pinned (OpenSpec.ofChange tileidFourSpec)

/-- ITS FALSE NEIGHBOUR: 'it returns false'. Refute it at one input. -/
def tileidFourWrong : ChangeSpec := { name := "tileidFour", fn := fun _ => fun
  | [d1, d2] => { results := [.lit (.bool false)], args := [d1, d2] }
  | _ => none }
def TileidFourWrongFalsely : Prop := tileidFourRow.holds Try.pinned (OpenSpec.ofChange tileidFourWrong)

/- THE SECOND FORM. 'bulk': how many values and letters a reading holds, each counted each time it is reached (what is shared counts as often as it is met; a slice's spare places count too). A statement '..UptoSaid' is the law's where the arguments, and the package variables that the reading takes, are together of bulk at most 1048576: NARROWER than '..Said'. Prove '..Said' where nothing that the law and all that it calls make is longer than what came in: it says more and counts as full. Else prove '..UptoSaid'. A law counts once. -/
mutual
def uptoBulk {H : Type} : DataW H → Nat
  | .lit (.string bytes) => bytes.length + 1
  | .lit _ => 1
  | .nil => 1
  | .ptr d => uptoBulk d + 1
  | .slice elems spare => uptoBulkAll elems + uptoBulkAll spare + 1
  | .agg parts => uptoBulkAll parts + 1
  | .iface _ d => uptoBulk d + 1
  | .map entries => uptoBulkEntries entries + 1
  | .held _ => 1
def uptoBulkAll {H : Type} : List (DataW H) → Nat
  | [] => 0
  | d :: r => uptoBulk d + uptoBulkAll r
def uptoBulkEntries {H : Type} : List (Lit × DataW H) → Nat
  | [] => 0
  | x :: r => uptoBulkEntry x + uptoBulkEntries r
def uptoBulkEntry {H : Type} : Lit × DataW H → Nat
  | (.string bytes, d) => bytes.length + uptoBulk d + 1
  | (_, d) => uptoBulk d + 1
 end
def uptoSmall : (H : Type) → List (DataW H) → Bool := fun _ ds => decide (uptoBulkAll ds ≤ 1048576)
def OpenSpec.upto (s : _root_.Go.ChangeSpec) : _root_.Go.OpenSpec := { _root_.Go.OpenSpec.ofChange s with cond := some uptoSmall }

/-- 'gazetteerlaw03.CurveTells', WHERE WHAT IT READS IS OF BULK AT MOST 1048576: true; the input reads as it did. -/
def curveTellsUptoRow : OpenClaim := { program := "ytdipincjginmcaa", sum := "d20cd9fc796f04f79016eb6165320d9c6ec672d47cd964eb59ad68f8580896c0", func := "gazetteer/gazetteerlaw03.CurveTells", spec := "curveTells", recurses := true, apart := false, narrowed := true }
def CurveTellsUptoSaid : Prop := curveTellsUptoRow.holds Try.pinned (OpenSpec.upto curveTellsSpec)

/-- 'gazetteerlaw03.CurvePoints', WHERE WHAT IT READS IS OF BULK AT MOST 1048576: true; the input reads as it did. -/
def curvePointsUptoRow : OpenClaim := { program := "ytdipincjginmcaa", sum := "d20cd9fc796f04f79016eb6165320d9c6ec672d47cd964eb59ad68f8580896c0", func := "gazetteer/gazetteerlaw03.CurvePoints", spec := "curvePoints", recurses := true, apart := false, narrowed := true }
def CurvePointsUptoSaid : Prop := curvePointsUptoRow.holds Try.pinned (OpenSpec.upto curvePointsSpec)

/-- 'gazetteerlaw03.CurveBack', WHERE WHAT IT READS IS OF BULK AT MOST 1048576: true; the input reads as it did. -/
def curveBackUptoRow : OpenClaim := { program := "ytdipincjginmcaa", sum := "d20cd9fc796f04f79016eb6165320d9c6ec672d47cd964eb59ad68f8580896c0", func := "gazetteer/gazetteerlaw03.CurveBack", spec := "curveBack", apart := false, narrowed := true }
def CurveBackUptoSaid : Prop := curveBackUptoRow.holds Try.pinned (OpenSpec.upto curveBackSpec)

/-- 'gazetteerlaw03.CurveSteps', WHERE WHAT IT READS IS OF BULK AT MOST 1048576: true; the input reads as it did. -/
def curveStepsUptoRow : OpenClaim := { program := "ytdipincjginmcaa", sum := "d20cd9fc796f04f79016eb6165320d9c6ec672d47cd964eb59ad68f8580896c0", func := "gazetteer/gazetteerlaw03.CurveSteps", spec := "curveSteps", apart := false, narrowed := true }
def CurveStepsUptoSaid : Prop := curveStepsUptoRow.holds Try.pinned (OpenSpec.upto curveStepsSpec)

/-- 'gazetteerlaw03.CurveQuarters', WHERE WHAT IT READS IS OF BULK AT MOST 1048576: true; the input reads as it did. -/
def curveQuartersUptoRow : OpenClaim := { program := "ytdipincjginmcaa", sum := "d20cd9fc796f04f79016eb6165320d9c6ec672d47cd964eb59ad68f8580896c0", func := "gazetteer/gazetteerlaw03.CurveQuarters", spec := "curveQuarters", apart := false, narrowed := true }
def CurveQuartersUptoSaid : Prop := curveQuartersUptoRow.holds Try.pinned (OpenSpec.upto curveQuartersSpec)

/-- 'gazetteerlaw04.TileidTells', WHERE WHAT IT READS IS OF BULK AT MOST 1048576: true; the input reads as it did. -/
def tileidTellsUptoRow : OpenClaim := { program := "ytdipincjginmcaa", sum := "d20cd9fc796f04f79016eb6165320d9c6ec672d47cd964eb59ad68f8580896c0", func := "gazetteer/gazetteerlaw04.TileidTells", spec := "tileidTells", recurses := true, apart := false, narrowed := true }
def TileidTellsUptoSaid : Prop := tileidTellsUptoRow.holds Try.pinned (OpenSpec.upto tileidTellsSpec)

/-- 'gazetteerlaw04.TileidBack', WHERE WHAT IT READS IS OF BULK AT MOST 1048576: true; the input reads as it did. -/
def tileidBackUptoRow : OpenClaim := { program := "ytdipincjginmcaa", sum := "d20cd9fc796f04f79016eb6165320d9c6ec672d47cd964eb59ad68f8580896c0", func := "gazetteer/gazetteerlaw04.TileidBack", spec := "tileidBack", apart := false, narrowed := true }
def TileidBackUptoSaid : Prop := tileidBackUptoRow.holds Try.pinned (OpenSpec.upto tileidBackSpec)

/-- 'gazetteerlaw04.TileidRange', WHERE WHAT IT READS IS OF BULK AT MOST 1048576: true; the input reads as it did. -/
def tileidRangeUptoRow : OpenClaim := { program := "ytdipincjginmcaa", sum := "d20cd9fc796f04f79016eb6165320d9c6ec672d47cd964eb59ad68f8580896c0", func := "gazetteer/gazetteerlaw04.TileidRange", spec := "tileidRange", apart := false, narrowed := true }
def TileidRangeUptoSaid : Prop := tileidRangeUptoRow.holds Try.pinned (OpenSpec.upto tileidRangeSpec)

/-- 'gazetteerlaw04.TileidMoves', WHERE WHAT IT READS IS OF BULK AT MOST 1048576: true; the input reads as it did. -/
def tileidMovesUptoRow : OpenClaim := { program := "ytdipincjginmcaa", sum := "d20cd9fc796f04f79016eb6165320d9c6ec672d47cd964eb59ad68f8580896c0", func := "gazetteer/gazetteerlaw04.TileidMoves", spec := "tileidMoves", recurses := true, apart := false, narrowed := true }
def TileidMovesUptoSaid : Prop := tileidMovesUptoRow.holds Try.pinned (OpenSpec.upto tileidMovesSpec)

/-- 'gazetteerlaw04.TileidFour', WHERE WHAT IT READS IS OF BULK AT MOST 1048576: true; the input reads as it did. -/
def tileidFourUptoRow : OpenClaim := { program := "ytdipincjginmcaa", sum := "d20cd9fc796f04f79016eb6165320d9c6ec672d47cd964eb59ad68f8580896c0", func := "gazetteer/gazetteerlaw04.TileidFour", spec := "tileidFour", apart := false, narrowed := true }
def TileidFourUptoSaid : Prop := tileidFourUptoRow.holds Try.pinned (OpenSpec.upto tileidFourSpec)

end Rows
end Go.Proofs.Ytdipincjginmcaa
