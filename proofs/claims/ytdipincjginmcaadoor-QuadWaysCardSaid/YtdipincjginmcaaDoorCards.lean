/-
  DERIVED. GIVEN WITH THE SEED: THE CARDS: each row of YtdipincjginmcaaDoorRows.lean that lists a variable, with what it lists TIED to the program's text (the seventh form; the later family's looks); each row that meets fmt, with fmt's text TOLD by the authors' own Lean function (tested against real Go, not proved from fmt's source: count such statements apart). THE CARD IS WHAT COUNTS. Prove the row's statement (the work); the ties are given (YtdipincjginmcaaDoorTie.lean); close each card by the builder's one call (the guide's Derived/Test/ToyasCard.lean, 'card_holds'). Laid BY PROGRAM, IN A SANDBOX (cutbox-door.mjs). By AI agents, Wed Nov 11 2026. No macro, syntax, notation, axiom, sorry.
-/
import Derived.Test.YtdipincjginmcaaDoorRows
import GoSem.ClaimSeven
namespace Go.Proofs.YtdipincjginmcaaDoor
namespace Rows

/-- THE TIED CARD OF 'gazetteerlaw42.QuadKeys'. -/
def quadKeysCard : Claim7 := { stood := { row := quadKeysRow, standIns := [], harness := (true, "31b4c1d4388719af3c9fb299fd2e22c343088c2b828e7b29395ef178eef26850"), looks := false }, kinds := [], alts := [], laidByText := true, laidKinds := [.data, .pinned], laidTests := true, laidLooks := .later }
def QuadKeysCardSaid : Prop := Claim7.holds Tryd.pinned (.plain (OpenSpec.ofChange quadKeysSpec)) quadKeysCard

/-- THE TIED CARD OF 'gazetteerlaw42.QuadWays'. -/
def quadWaysCard : Claim7 := { stood := { row := quadWaysRow, standIns := [], harness := (true, "31b4c1d4388719af3c9fb299fd2e22c343088c2b828e7b29395ef178eef26850"), looks := false }, kinds := [], alts := [], laidByText := true, laidKinds := [.data, .pinned], laidTests := true, laidLooks := .later }
def QuadWaysCardSaid : Prop := Claim7.holds Tryd.pinned (.plain (OpenSpec.ofChange quadWaysSpec)) quadWaysCard

/-- THE TIED CARD OF 'gazetteerlaw42.QuadBack'. -/
def quadBackCard : Claim7 := { stood := { row := quadBackRow, standIns := [], harness := (true, "31b4c1d4388719af3c9fb299fd2e22c343088c2b828e7b29395ef178eef26850"), looks := false }, kinds := [], alts := [], laidByText := true, laidKinds := [.data, .pinned], laidTests := true, laidLooks := .later }
def QuadBackCardSaid : Prop := Claim7.holds Tryd.pinned (.plain (OpenSpec.ofChange quadBackSpec)) quadBackCard

/-- THE TIED CARD OF 'gazetteerlaw42.QuadOver'. -/
def quadOverCard : Claim7 := { stood := { row := quadOverRow, standIns := [], harness := (true, "31b4c1d4388719af3c9fb299fd2e22c343088c2b828e7b29395ef178eef26850"), looks := false }, kinds := [], alts := [], laidByText := true, laidKinds := [.data, .pinned], laidTests := true, laidLooks := .later }
def QuadOverCardSaid : Prop := Claim7.holds Tryd.pinned (.plain (OpenSpec.ofChange quadOverSpec)) quadOverCard

/-- THE SECOND FORM's CARD OF 'gazetteerlaw42.QuadKeys'. -/
def quadKeysUptoCard : Claim7 := { stood := { row := quadKeysUptoRow, standIns := [], harness := (true, "31b4c1d4388719af3c9fb299fd2e22c343088c2b828e7b29395ef178eef26850"), looks := false }, kinds := [], alts := [], laidByText := true, laidKinds := [.data, .pinned], laidTests := true, laidLooks := .later }
def QuadKeysUptoCardSaid : Prop := Claim7.holds Tryd.pinned (.plain (OpenSpec.upto quadKeysSpec)) quadKeysUptoCard

/-- THE SECOND FORM's CARD OF 'gazetteerlaw42.QuadWays'. -/
def quadWaysUptoCard : Claim7 := { stood := { row := quadWaysUptoRow, standIns := [], harness := (true, "31b4c1d4388719af3c9fb299fd2e22c343088c2b828e7b29395ef178eef26850"), looks := false }, kinds := [], alts := [], laidByText := true, laidKinds := [.data, .pinned], laidTests := true, laidLooks := .later }
def QuadWaysUptoCardSaid : Prop := Claim7.holds Tryd.pinned (.plain (OpenSpec.upto quadWaysSpec)) quadWaysUptoCard

/-- THE SECOND FORM's CARD OF 'gazetteerlaw42.QuadBack'. -/
def quadBackUptoCard : Claim7 := { stood := { row := quadBackUptoRow, standIns := [], harness := (true, "31b4c1d4388719af3c9fb299fd2e22c343088c2b828e7b29395ef178eef26850"), looks := false }, kinds := [], alts := [], laidByText := true, laidKinds := [.data, .pinned], laidTests := true, laidLooks := .later }
def QuadBackUptoCardSaid : Prop := Claim7.holds Tryd.pinned (.plain (OpenSpec.upto quadBackSpec)) quadBackUptoCard

/-- THE SECOND FORM's CARD OF 'gazetteerlaw42.QuadOver'. -/
def quadOverUptoCard : Claim7 := { stood := { row := quadOverUptoRow, standIns := [], harness := (true, "31b4c1d4388719af3c9fb299fd2e22c343088c2b828e7b29395ef178eef26850"), looks := false }, kinds := [], alts := [], laidByText := true, laidKinds := [.data, .pinned], laidTests := true, laidLooks := .later }
def QuadOverUptoCardSaid : Prop := Claim7.holds Tryd.pinned (.plain (OpenSpec.upto quadOverSpec)) quadOverUptoCard
end Rows
end Go.Proofs.YtdipincjginmcaaDoor
