/-
  No cell of these rows narrows 'for every input' (looked for: loops, veiled, ifaces, maps, wideKeys, modest, calm, conditions, laid).
  DERIVED. THE GIVEN ROWS OF THIS SEAT. 13 by the template 'for every input the law returns true; each argument reads behind the call as it read before'; 0 by the template 'total and deterministic' (their statements: YtppciejcobmikaaTotals.lean).
  GIVEN WITH THE SEED: the statements are not yours to turn. If you find one false, say at which input.
  Laid BY PROGRAM, IN A SANDBOX (cutbox-rows.mjs): the forced cells as the released guide's own fill.sh prints them over the translation 77a6fc36b5c772e3… (all of the seat's roots in one cut). By AI agents, Wed Nov 11 2026. No macro, syntax, notation, axiom, sorry.
-/
import Derived.Test.YtppciejcobmikaaChecked
import GoSem.Claim
import GoSem.ClaimJoined
import GoSem.ClaimMapViews
import Derived.JoinedTies
import Derived.KernelRfl
namespace Go.Proofs.Ytppciejcobmikaa
/- THE CELL 'sum', in the pinned program and in every row, IS THE sha256 OF THE DUMP (.gsa) THAT YtppciejcobmikaaProg.lean LOADS. Nothing in Lean hashes anything: it is a label: what it is worth is what the hold of that sum in a sandbox is worth. -/
noncomputable def Try.pinned : Pinned := { name := "ytppciejcobmikaa", sum := "77a6fc36b5c772e38bb3a3b48c2ad812eafdcc7018ae249fc9e3126eaec46e30", checked := Try.checked }
namespace Rows
def none {H : Type} : Left H := { results := [], args := [] }

/-- 'gazetteerlaw07.EntryTells': WHATEVER THE INPUT: true; the input reads as it did. -/
def entryTellsSpec : ChangeSpec := { name := "entryTells", fn := fun _ => fun
  | [d1, d2] => { results := [.lit (.bool true)], args := [d1, d2] }
  | _ => none }
def entryTellsRow : OpenClaim := { program := "ytppciejcobmikaa", sum := "77a6fc36b5c772e38bb3a3b48c2ad812eafdcc7018ae249fc9e3126eaec46e30", func := "gazetteer/gazetteerlaw07.EntryTells", spec := "entryTells", plainKeys := false, apart := false }
def EntryTellsSaid : Prop := entryTellsRow.holds Try.pinned (OpenSpec.ofChange entryTellsSpec)

/-- ITS FALSE NEIGHBOUR: 'it returns false'. Refute it at one input. -/
def entryTellsWrong : ChangeSpec := { name := "entryTells", fn := fun _ => fun
  | [d1, d2] => { results := [.lit (.bool false)], args := [d1, d2] }
  | _ => none }
def EntryTellsWrongFalsely : Prop := entryTellsRow.holds Try.pinned (OpenSpec.ofChange entryTellsWrong)

/-- 'gazetteerlaw07.EntryRows': WHATEVER THE INPUT: true; the input reads as it did. -/
def entryRowsSpec : ChangeSpec := { name := "entryRows", fn := fun _ => fun
  | [d1, d2, d3] => { results := [.lit (.bool true)], args := [d1, d2, d3] }
  | _ => none }
def entryRowsRow : OpenClaim := { program := "ytppciejcobmikaa", sum := "77a6fc36b5c772e38bb3a3b48c2ad812eafdcc7018ae249fc9e3126eaec46e30", func := "gazetteer/gazetteerlaw07.EntryRows", spec := "entryRows", plainKeys := false, apart := false }
def EntryRowsSaid : Prop := entryRowsRow.holds Try.pinned (OpenSpec.ofChange entryRowsSpec)

/-- ITS FALSE NEIGHBOUR: 'it returns false'. Refute it at one input. -/
def entryRowsWrong : ChangeSpec := { name := "entryRows", fn := fun _ => fun
  | [d1, d2, d3] => { results := [.lit (.bool false)], args := [d1, d2, d3] }
  | _ => none }
def EntryRowsWrongFalsely : Prop := entryRowsRow.holds Try.pinned (OpenSpec.ofChange entryRowsWrong)

/-- 'gazetteerlaw07.EntryOnce': WHATEVER THE INPUT: true; the input reads as it did. -/
def entryOnceSpec : ChangeSpec := { name := "entryOnce", fn := fun _ => fun
  | [d1, d2, d3] => { results := [.lit (.bool true)], args := [d1, d2, d3] }
  | _ => none }
def entryOnceRow : OpenClaim := { program := "ytppciejcobmikaa", sum := "77a6fc36b5c772e38bb3a3b48c2ad812eafdcc7018ae249fc9e3126eaec46e30", func := "gazetteer/gazetteerlaw07.EntryOnce", spec := "entryOnce", plainKeys := false, apart := false }
def EntryOnceSaid : Prop := entryOnceRow.holds Try.pinned (OpenSpec.ofChange entryOnceSpec)

/-- ITS FALSE NEIGHBOUR: 'it returns false'. Refute it at one input. -/
def entryOnceWrong : ChangeSpec := { name := "entryOnce", fn := fun _ => fun
  | [d1, d2, d3] => { results := [.lit (.bool false)], args := [d1, d2, d3] }
  | _ => none }
def EntryOnceWrongFalsely : Prop := entryOnceRow.holds Try.pinned (OpenSpec.ofChange entryOnceWrong)

/-- 'gazetteerlaw07.EntryParts': WHATEVER THE INPUT: true; the input reads as it did. -/
def entryPartsSpec : ChangeSpec := { name := "entryParts", fn := fun _ => fun
  | [d1, d2] => { results := [.lit (.bool true)], args := [d1, d2] }
  | _ => none }
def entryPartsRow : OpenClaim := { program := "ytppciejcobmikaa", sum := "77a6fc36b5c772e38bb3a3b48c2ad812eafdcc7018ae249fc9e3126eaec46e30", func := "gazetteer/gazetteerlaw07.EntryParts", spec := "entryParts", plainKeys := false, apart := false }
def EntryPartsSaid : Prop := entryPartsRow.holds Try.pinned (OpenSpec.ofChange entryPartsSpec)

/-- ITS FALSE NEIGHBOUR: 'it returns false'. Refute it at one input. -/
def entryPartsWrong : ChangeSpec := { name := "entryParts", fn := fun _ => fun
  | [d1, d2] => { results := [.lit (.bool false)], args := [d1, d2] }
  | _ => none }
def EntryPartsWrongFalsely : Prop := entryPartsRow.holds Try.pinned (OpenSpec.ofChange entryPartsWrong)

/-- 'gazetteerlaw09.SeekTells': WHATEVER THE INPUT: true; the input reads as it did. -/
def seekTellsSpec : ChangeSpec := { name := "seekTells", fn := fun _ => fun
  | [d1, d2] => { results := [.lit (.bool true)], args := [d1, d2] }
  | _ => none }
def seekTellsRow : OpenClaim := { program := "ytppciejcobmikaa", sum := "77a6fc36b5c772e38bb3a3b48c2ad812eafdcc7018ae249fc9e3126eaec46e30", func := "gazetteer/gazetteerlaw09.SeekTells", spec := "seekTells", unfollowed := true, recurses := true, plainKeys := false, apart := false }
def SeekTellsSaid : Prop := seekTellsRow.holds Try.pinned (OpenSpec.ofChange seekTellsSpec)

/-- ITS FALSE NEIGHBOUR: 'it returns false'. Refute it at one input. -/
def seekTellsWrong : ChangeSpec := { name := "seekTells", fn := fun _ => fun
  | [d1, d2] => { results := [.lit (.bool false)], args := [d1, d2] }
  | _ => none }
def SeekTellsWrongFalsely : Prop := seekTellsRow.holds Try.pinned (OpenSpec.ofChange seekTellsWrong)

/-- 'gazetteerlaw09.SeekHas': WHATEVER THE INPUT: true; the input reads as it did. -/
def seekHasSpec : ChangeSpec := { name := "seekHas", fn := fun _ => fun
  | [d1, d2] => { results := [.lit (.bool true)], args := [d1, d2] }
  | _ => none }
def seekHasRow : OpenClaim := { program := "ytppciejcobmikaa", sum := "77a6fc36b5c772e38bb3a3b48c2ad812eafdcc7018ae249fc9e3126eaec46e30", func := "gazetteer/gazetteerlaw09.SeekHas", spec := "seekHas", unfollowed := true, recurses := true, plainKeys := false, apart := false }
def SeekHasSaid : Prop := seekHasRow.holds Try.pinned (OpenSpec.ofChange seekHasSpec)

/-- ITS FALSE NEIGHBOUR: 'it returns false'. Refute it at one input. -/
def seekHasWrong : ChangeSpec := { name := "seekHas", fn := fun _ => fun
  | [d1, d2] => { results := [.lit (.bool false)], args := [d1, d2] }
  | _ => none }
def SeekHasWrongFalsely : Prop := seekHasRow.holds Try.pinned (OpenSpec.ofChange seekHasWrong)

/-- 'gazetteerlaw09.SeekParts': WHATEVER THE INPUT: true; the input reads as it did. -/
def seekPartsSpec : ChangeSpec := { name := "seekParts", fn := fun _ => fun
  | [d1, d2] => { results := [.lit (.bool true)], args := [d1, d2] }
  | _ => none }
def seekPartsRow : OpenClaim := { program := "ytppciejcobmikaa", sum := "77a6fc36b5c772e38bb3a3b48c2ad812eafdcc7018ae249fc9e3126eaec46e30", func := "gazetteer/gazetteerlaw09.SeekParts", spec := "seekParts", unfollowed := true, recurses := true, plainKeys := false, apart := false }
def SeekPartsSaid : Prop := seekPartsRow.holds Try.pinned (OpenSpec.ofChange seekPartsSpec)

/-- ITS FALSE NEIGHBOUR: 'it returns false'. Refute it at one input. -/
def seekPartsWrong : ChangeSpec := { name := "seekParts", fn := fun _ => fun
  | [d1, d2] => { results := [.lit (.bool false)], args := [d1, d2] }
  | _ => none }
def SeekPartsWrongFalsely : Prop := seekPartsRow.holds Try.pinned (OpenSpec.ofChange seekPartsWrong)

/-- 'gazetteerlaw09.SeekTiles': WHATEVER THE INPUT: true; the input reads as it did. -/
def seekTilesSpec : ChangeSpec := { name := "seekTiles", fn := fun _ => fun
  | [d1, d2] => { results := [.lit (.bool true)], args := [d1, d2] }
  | _ => none }
def seekTilesRow : OpenClaim := { program := "ytppciejcobmikaa", sum := "77a6fc36b5c772e38bb3a3b48c2ad812eafdcc7018ae249fc9e3126eaec46e30", func := "gazetteer/gazetteerlaw09.SeekTiles", spec := "seekTiles", unfollowed := true, recurses := true, plainKeys := false, apart := false }
def SeekTilesSaid : Prop := seekTilesRow.holds Try.pinned (OpenSpec.ofChange seekTilesSpec)

/-- ITS FALSE NEIGHBOUR: 'it returns false'. Refute it at one input. -/
def seekTilesWrong : ChangeSpec := { name := "seekTiles", fn := fun _ => fun
  | [d1, d2] => { results := [.lit (.bool false)], args := [d1, d2] }
  | _ => none }
def SeekTilesWrongFalsely : Prop := seekTilesRow.holds Try.pinned (OpenSpec.ofChange seekTilesWrong)

/-- 'gazetteerlaw02.VarintPuts': WHATEVER THE INPUT: true; the input reads as it did. -/
def varintPutsSpec : ChangeSpec := { name := "varintPuts", fn := fun _ => fun
  | [d1, d2, d3] => { results := [.lit (.bool true)], args := [d1, d2, d3] }
  | _ => none }
def varintPutsRow : OpenClaim := { program := "ytppciejcobmikaa", sum := "77a6fc36b5c772e38bb3a3b48c2ad812eafdcc7018ae249fc9e3126eaec46e30", func := "gazetteer/gazetteerlaw02.VarintPuts", spec := "varintPuts", recurses := true, plainKeys := false, apart := false }
def VarintPutsSaid : Prop := varintPutsRow.holds Try.pinned (OpenSpec.ofChange varintPutsSpec)

/-- ITS FALSE NEIGHBOUR: 'it returns false'. Refute it at one input. -/
def varintPutsWrong : ChangeSpec := { name := "varintPuts", fn := fun _ => fun
  | [d1, d2, d3] => { results := [.lit (.bool false)], args := [d1, d2, d3] }
  | _ => none }
def VarintPutsWrongFalsely : Prop := varintPutsRow.holds Try.pinned (OpenSpec.ofChange varintPutsWrong)

/-- 'gazetteerlaw02.VarintGets': WHATEVER THE INPUT: true; the input reads as it did. -/
def varintGetsSpec : ChangeSpec := { name := "varintGets", fn := fun _ => fun
  | [d1, d2] => { results := [.lit (.bool true)], args := [d1, d2] }
  | _ => none }
def varintGetsRow : OpenClaim := { program := "ytppciejcobmikaa", sum := "77a6fc36b5c772e38bb3a3b48c2ad812eafdcc7018ae249fc9e3126eaec46e30", func := "gazetteer/gazetteerlaw02.VarintGets", spec := "varintGets", plainKeys := false, apart := false }
def VarintGetsSaid : Prop := varintGetsRow.holds Try.pinned (OpenSpec.ofChange varintGetsSpec)

/-- ITS FALSE NEIGHBOUR: 'it returns false'. Refute it at one input. -/
def varintGetsWrong : ChangeSpec := { name := "varintGets", fn := fun _ => fun
  | [d1, d2] => { results := [.lit (.bool false)], args := [d1, d2] }
  | _ => none }
def VarintGetsWrongFalsely : Prop := varintGetsRow.holds Try.pinned (OpenSpec.ofChange varintGetsWrong)

/-- 'gazetteerlaw02.VarintBack': WHATEVER THE INPUT: true; the input reads as it did. -/
def varintBackSpec : ChangeSpec := { name := "varintBack", fn := fun _ => fun
  | [d1, d2] => { results := [.lit (.bool true)], args := [d1, d2] }
  | _ => none }
def varintBackRow : OpenClaim := { program := "ytppciejcobmikaa", sum := "77a6fc36b5c772e38bb3a3b48c2ad812eafdcc7018ae249fc9e3126eaec46e30", func := "gazetteer/gazetteerlaw02.VarintBack", spec := "varintBack", plainKeys := false, apart := false }
def VarintBackSaid : Prop := varintBackRow.holds Try.pinned (OpenSpec.ofChange varintBackSpec)

/-- ITS FALSE NEIGHBOUR: 'it returns false'. Refute it at one input. -/
def varintBackWrong : ChangeSpec := { name := "varintBack", fn := fun _ => fun
  | [d1, d2] => { results := [.lit (.bool false)], args := [d1, d2] }
  | _ => none }
def VarintBackWrongFalsely : Prop := varintBackRow.holds Try.pinned (OpenSpec.ofChange varintBackWrong)

/-- 'gazetteerlaw02.VarintOne': WHATEVER THE INPUT: true; the input reads as it did. -/
def varintOneSpec : ChangeSpec := { name := "varintOne", fn := fun _ => fun
  | [d] => { results := [.lit (.bool true)], args := [d] }
  | _ => none }
def varintOneRow : OpenClaim := { program := "ytppciejcobmikaa", sum := "77a6fc36b5c772e38bb3a3b48c2ad812eafdcc7018ae249fc9e3126eaec46e30", func := "gazetteer/gazetteerlaw02.VarintOne", spec := "varintOne", plainKeys := false, apart := false }
def VarintOneSaid : Prop := varintOneRow.holds Try.pinned (OpenSpec.ofChange varintOneSpec)

/-- ITS FALSE NEIGHBOUR: 'it returns false'. Refute it at one input. -/
def varintOneWrong : ChangeSpec := { name := "varintOne", fn := fun _ => fun
  | [d] => { results := [.lit (.bool false)], args := [d] }
  | _ => none }
def VarintOneWrongFalsely : Prop := varintOneRow.holds Try.pinned (OpenSpec.ofChange varintOneWrong)

/-- 'gazetteerlaw02.VarintGrows': WHATEVER THE INPUT: true; the input reads as it did. -/
def varintGrowsSpec : ChangeSpec := { name := "varintGrows", fn := fun _ => fun
  | [d1, d2] => { results := [.lit (.bool true)], args := [d1, d2] }
  | _ => none }
def varintGrowsRow : OpenClaim := { program := "ytppciejcobmikaa", sum := "77a6fc36b5c772e38bb3a3b48c2ad812eafdcc7018ae249fc9e3126eaec46e30", func := "gazetteer/gazetteerlaw02.VarintGrows", spec := "varintGrows", plainKeys := false, apart := false }
def VarintGrowsSaid : Prop := varintGrowsRow.holds Try.pinned (OpenSpec.ofChange varintGrowsSpec)

/-- ITS FALSE NEIGHBOUR: 'it returns false'. Refute it at one input. -/
def varintGrowsWrong : ChangeSpec := { name := "varintGrows", fn := fun _ => fun
  | [d1, d2] => { results := [.lit (.bool false)], args := [d1, d2] }
  | _ => none }
def VarintGrowsWrongFalsely : Prop := varintGrowsRow.holds Try.pinned (OpenSpec.ofChange varintGrowsWrong)

/- THE SECOND FORM. 'bulk': how many values and letters a reading holds, each counted each time it is reached (what is shared counts as often as it is met; a slice's spare places count too). A statement '..UptoSaid' is the law's where the arguments, and the package variables that the reading takes, are together of bulk at most 1048576: NARROWER than '..Said'. Prove '..Said' where nothing that the law and all that it calls make is longer than what came in: it says more and counts as full. Else prove '..UptoSaid'. A law counts once. -/
mutual
def uptoBulk {H : Type} : DataW H → Nat
  | .lit (.string bytes) => bytes.length + 1
  | .lit _ => 1
  | .nil => 1
  | .ptr d => uptoBulk d + 1
  | .slice elems spare => uptoBulkAll elems + uptoBulkAll spare + 1
  | .agg parts => uptoBulkAll parts + 1
  | .iface _ d => uptoBulk d + 1
  | .map entries => uptoBulkEntries entries + 1
  | .held _ => 1
def uptoBulkAll {H : Type} : List (DataW H) → Nat
  | [] => 0
  | d :: r => uptoBulk d + uptoBulkAll r
def uptoBulkEntries {H : Type} : List (Lit × DataW H) → Nat
  | [] => 0
  | x :: r => uptoBulkEntry x + uptoBulkEntries r
def uptoBulkEntry {H : Type} : Lit × DataW H → Nat
  | (.string bytes, d) => bytes.length + uptoBulk d + 1
  | (_, d) => uptoBulk d + 1
 end
def uptoSmall : (H : Type) → List (DataW H) → Bool := fun _ ds => decide (uptoBulkAll ds ≤ 1048576)
def OpenSpec.upto (s : _root_.Go.ChangeSpec) : _root_.Go.OpenSpec := { _root_.Go.OpenSpec.ofChange s with cond := some uptoSmall }

/-- 'gazetteerlaw07.EntryTells', WHERE WHAT IT READS IS OF BULK AT MOST 1048576: true; the input reads as it did. -/
def entryTellsUptoRow : OpenClaim := { program := "ytppciejcobmikaa", sum := "77a6fc36b5c772e38bb3a3b48c2ad812eafdcc7018ae249fc9e3126eaec46e30", func := "gazetteer/gazetteerlaw07.EntryTells", spec := "entryTells", plainKeys := false, apart := false, narrowed := true }
def EntryTellsUptoSaid : Prop := entryTellsUptoRow.holds Try.pinned (OpenSpec.upto entryTellsSpec)

/-- 'gazetteerlaw07.EntryRows', WHERE WHAT IT READS IS OF BULK AT MOST 1048576: true; the input reads as it did. -/
def entryRowsUptoRow : OpenClaim := { program := "ytppciejcobmikaa", sum := "77a6fc36b5c772e38bb3a3b48c2ad812eafdcc7018ae249fc9e3126eaec46e30", func := "gazetteer/gazetteerlaw07.EntryRows", spec := "entryRows", plainKeys := false, apart := false, narrowed := true }
def EntryRowsUptoSaid : Prop := entryRowsUptoRow.holds Try.pinned (OpenSpec.upto entryRowsSpec)

/-- 'gazetteerlaw07.EntryOnce', WHERE WHAT IT READS IS OF BULK AT MOST 1048576: true; the input reads as it did. -/
def entryOnceUptoRow : OpenClaim := { program := "ytppciejcobmikaa", sum := "77a6fc36b5c772e38bb3a3b48c2ad812eafdcc7018ae249fc9e3126eaec46e30", func := "gazetteer/gazetteerlaw07.EntryOnce", spec := "entryOnce", plainKeys := false, apart := false, narrowed := true }
def EntryOnceUptoSaid : Prop := entryOnceUptoRow.holds Try.pinned (OpenSpec.upto entryOnceSpec)

/-- 'gazetteerlaw07.EntryParts', WHERE WHAT IT READS IS OF BULK AT MOST 1048576: true; the input reads as it did. -/
def entryPartsUptoRow : OpenClaim := { program := "ytppciejcobmikaa", sum := "77a6fc36b5c772e38bb3a3b48c2ad812eafdcc7018ae249fc9e3126eaec46e30", func := "gazetteer/gazetteerlaw07.EntryParts", spec := "entryParts", plainKeys := false, apart := false, narrowed := true }
def EntryPartsUptoSaid : Prop := entryPartsUptoRow.holds Try.pinned (OpenSpec.upto entryPartsSpec)

/-- 'gazetteerlaw09.SeekTells', WHERE WHAT IT READS IS OF BULK AT MOST 1048576: true; the input reads as it did. -/
def seekTellsUptoRow : OpenClaim := { program := "ytppciejcobmikaa", sum := "77a6fc36b5c772e38bb3a3b48c2ad812eafdcc7018ae249fc9e3126eaec46e30", func := "gazetteer/gazetteerlaw09.SeekTells", spec := "seekTells", unfollowed := true, recurses := true, plainKeys := false, apart := false, narrowed := true }
def SeekTellsUptoSaid : Prop := seekTellsUptoRow.holds Try.pinned (OpenSpec.upto seekTellsSpec)

/-- 'gazetteerlaw09.SeekHas', WHERE WHAT IT READS IS OF BULK AT MOST 1048576: true; the input reads as it did. -/
def seekHasUptoRow : OpenClaim := { program := "ytppciejcobmikaa", sum := "77a6fc36b5c772e38bb3a3b48c2ad812eafdcc7018ae249fc9e3126eaec46e30", func := "gazetteer/gazetteerlaw09.SeekHas", spec := "seekHas", unfollowed := true, recurses := true, plainKeys := false, apart := false, narrowed := true }
def SeekHasUptoSaid : Prop := seekHasUptoRow.holds Try.pinned (OpenSpec.upto seekHasSpec)

/-- 'gazetteerlaw09.SeekParts', WHERE WHAT IT READS IS OF BULK AT MOST 1048576: true; the input reads as it did. -/
def seekPartsUptoRow : OpenClaim := { program := "ytppciejcobmikaa", sum := "77a6fc36b5c772e38bb3a3b48c2ad812eafdcc7018ae249fc9e3126eaec46e30", func := "gazetteer/gazetteerlaw09.SeekParts", spec := "seekParts", unfollowed := true, recurses := true, plainKeys := false, apart := false, narrowed := true }
def SeekPartsUptoSaid : Prop := seekPartsUptoRow.holds Try.pinned (OpenSpec.upto seekPartsSpec)

/-- 'gazetteerlaw09.SeekTiles', WHERE WHAT IT READS IS OF BULK AT MOST 1048576: true; the input reads as it did. -/
def seekTilesUptoRow : OpenClaim := { program := "ytppciejcobmikaa", sum := "77a6fc36b5c772e38bb3a3b48c2ad812eafdcc7018ae249fc9e3126eaec46e30", func := "gazetteer/gazetteerlaw09.SeekTiles", spec := "seekTiles", unfollowed := true, recurses := true, plainKeys := false, apart := false, narrowed := true }
def SeekTilesUptoSaid : Prop := seekTilesUptoRow.holds Try.pinned (OpenSpec.upto seekTilesSpec)

/-- 'gazetteerlaw02.VarintPuts', WHERE WHAT IT READS IS OF BULK AT MOST 1048576: true; the input reads as it did. -/
def varintPutsUptoRow : OpenClaim := { program := "ytppciejcobmikaa", sum := "77a6fc36b5c772e38bb3a3b48c2ad812eafdcc7018ae249fc9e3126eaec46e30", func := "gazetteer/gazetteerlaw02.VarintPuts", spec := "varintPuts", recurses := true, plainKeys := false, apart := false, narrowed := true }
def VarintPutsUptoSaid : Prop := varintPutsUptoRow.holds Try.pinned (OpenSpec.upto varintPutsSpec)

/-- 'gazetteerlaw02.VarintGets', WHERE WHAT IT READS IS OF BULK AT MOST 1048576: true; the input reads as it did. -/
def varintGetsUptoRow : OpenClaim := { program := "ytppciejcobmikaa", sum := "77a6fc36b5c772e38bb3a3b48c2ad812eafdcc7018ae249fc9e3126eaec46e30", func := "gazetteer/gazetteerlaw02.VarintGets", spec := "varintGets", plainKeys := false, apart := false, narrowed := true }
def VarintGetsUptoSaid : Prop := varintGetsUptoRow.holds Try.pinned (OpenSpec.upto varintGetsSpec)

/-- 'gazetteerlaw02.VarintBack', WHERE WHAT IT READS IS OF BULK AT MOST 1048576: true; the input reads as it did. -/
def varintBackUptoRow : OpenClaim := { program := "ytppciejcobmikaa", sum := "77a6fc36b5c772e38bb3a3b48c2ad812eafdcc7018ae249fc9e3126eaec46e30", func := "gazetteer/gazetteerlaw02.VarintBack", spec := "varintBack", plainKeys := false, apart := false, narrowed := true }
def VarintBackUptoSaid : Prop := varintBackUptoRow.holds Try.pinned (OpenSpec.upto varintBackSpec)

/-- 'gazetteerlaw02.VarintOne', WHERE WHAT IT READS IS OF BULK AT MOST 1048576: true; the input reads as it did. -/
def varintOneUptoRow : OpenClaim := { program := "ytppciejcobmikaa", sum := "77a6fc36b5c772e38bb3a3b48c2ad812eafdcc7018ae249fc9e3126eaec46e30", func := "gazetteer/gazetteerlaw02.VarintOne", spec := "varintOne", plainKeys := false, apart := false, narrowed := true }
def VarintOneUptoSaid : Prop := varintOneUptoRow.holds Try.pinned (OpenSpec.upto varintOneSpec)

/-- 'gazetteerlaw02.VarintGrows', WHERE WHAT IT READS IS OF BULK AT MOST 1048576: true; the input reads as it did. -/
def varintGrowsUptoRow : OpenClaim := { program := "ytppciejcobmikaa", sum := "77a6fc36b5c772e38bb3a3b48c2ad812eafdcc7018ae249fc9e3126eaec46e30", func := "gazetteer/gazetteerlaw02.VarintGrows", spec := "varintGrows", plainKeys := false, apart := false, narrowed := true }
def VarintGrowsUptoSaid : Prop := varintGrowsUptoRow.holds Try.pinned (OpenSpec.upto varintGrowsSpec)

end Rows
end Go.Proofs.Ytppciejcobmikaa
