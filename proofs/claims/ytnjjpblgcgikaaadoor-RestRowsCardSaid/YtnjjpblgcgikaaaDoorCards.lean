/-
  DERIVED. GIVEN WITH THE SEED: THE CARDS: each row of YtnjjpblgcgikaaaDoorRows.lean that lists a variable, with what it lists TIED to the program's text (the seventh form; the later family's looks); each row that meets fmt, with fmt's text TOLD by the authors' own Lean function (tested against real Go, not proved from fmt's source: count such statements apart). THE CARD IS WHAT COUNTS. Prove the row's statement (the work); the ties are given (YtnjjpblgcgikaaaDoorTie.lean); close each card by the builder's one call (the guide's Derived/Test/ToyasCard.lean, 'card_holds'). Laid BY PROGRAM, IN A SANDBOX (cutbox-door.mjs). By AI agents, Wed Nov 11 2026. No macro, syntax, notation, axiom, sorry.
-/
import Derived.Test.YtnjjpblgcgikaaaDoorRows
import GoSem.ClaimSeven
namespace Go.Proofs.YtnjjpblgcgikaaaDoor
namespace Rows

/-- THE TIED CARD OF 'overhaullaw.DeltaTells'. -/
def deltaTellsCard : Claim7 := { stood := { row := deltaTellsRow, standIns := [], harness := (true, "0621d99a88ebaecb2ab0b8776ff68669ee7732f2c0d41559942948870c3ab980"), looks := true }, kinds := [], alts := [], laidByText := true, laidKinds := [.data, .data, .data, .sentinel, .sentinel], laidTests := true, laidLooks := .later }
def DeltaTellsCardSaid : Prop := Claim7.holds Tryd.pinned (.plain (OpenSpec.ofChange deltaTellsSpec)) deltaTellsCard

/-- THE TIED CARD OF 'overhaullaw.DeltaParts'. -/
def deltaPartsCard : Claim7 := { stood := { row := deltaPartsRow, standIns := [], harness := (true, "0621d99a88ebaecb2ab0b8776ff68669ee7732f2c0d41559942948870c3ab980"), looks := true }, kinds := [], alts := [], laidByText := true, laidKinds := [.data, .data, .data, .sentinel, .sentinel], laidTests := true, laidLooks := .later }
def DeltaPartsCardSaid : Prop := Claim7.holds Tryd.pinned (.plain (OpenSpec.ofChange deltaPartsSpec)) deltaPartsCard

/-- THE TIED CARD OF 'overhaullaw.RestRows'. -/
def restRowsCard : Claim7 := { stood := { row := restRowsRow, standIns := [], harness := (true, "0621d99a88ebaecb2ab0b8776ff68669ee7732f2c0d41559942948870c3ab980"), looks := true }, kinds := [], alts := [], laidByText := true, laidKinds := [.data, .data, .data, .sentinel, .sentinel], laidTests := true, laidLooks := .later }
def RestRowsCardSaid : Prop := Claim7.holds Tryd.pinned (.plain (OpenSpec.ofChange restRowsSpec)) restRowsCard

/-- THE TIED CARD OF 'overhaullaw.ValueTells'. -/
def valueTellsCard : Claim7 := { stood := { row := valueTellsRow, standIns := [], harness := (true, "0621d99a88ebaecb2ab0b8776ff68669ee7732f2c0d41559942948870c3ab980"), looks := true }, kinds := [], alts := [], laidByText := true, laidKinds := [.data, .data, .data, .sentinel, .sentinel], laidTests := true, laidLooks := .later }
def ValueTellsCardSaid : Prop := Claim7.holds Tryd.pinned (.plain (OpenSpec.ofChange valueTellsSpec)) valueTellsCard

/-- THE TIED CARD OF 'overhaullaw.ValueKeys'. -/
def valueKeysCard : Claim7 := { stood := { row := valueKeysRow, standIns := [], harness := (true, "0621d99a88ebaecb2ab0b8776ff68669ee7732f2c0d41559942948870c3ab980"), looks := true }, kinds := [], alts := [], laidByText := true, laidKinds := [.data, .data, .data, .sentinel, .sentinel], laidTests := true, laidLooks := .later }
def ValueKeysCardSaid : Prop := Claim7.holds Tryd.pinned (.plain (OpenSpec.ofChange valueKeysSpec)) valueKeysCard

/-- THE SECOND FORM's CARD OF 'overhaullaw.DeltaTells'. -/
def deltaTellsUptoCard : Claim7 := { stood := { row := deltaTellsUptoRow, standIns := [], harness := (true, "0621d99a88ebaecb2ab0b8776ff68669ee7732f2c0d41559942948870c3ab980"), looks := true }, kinds := [], alts := [], laidByText := true, laidKinds := [.data, .data, .data, .sentinel, .sentinel], laidTests := true, laidLooks := .later }
def DeltaTellsUptoCardSaid : Prop := Claim7.holds Tryd.pinned (.plain (OpenSpec.upto deltaTellsSpec)) deltaTellsUptoCard

/-- THE SECOND FORM's CARD OF 'overhaullaw.DeltaParts'. -/
def deltaPartsUptoCard : Claim7 := { stood := { row := deltaPartsUptoRow, standIns := [], harness := (true, "0621d99a88ebaecb2ab0b8776ff68669ee7732f2c0d41559942948870c3ab980"), looks := true }, kinds := [], alts := [], laidByText := true, laidKinds := [.data, .data, .data, .sentinel, .sentinel], laidTests := true, laidLooks := .later }
def DeltaPartsUptoCardSaid : Prop := Claim7.holds Tryd.pinned (.plain (OpenSpec.upto deltaPartsSpec)) deltaPartsUptoCard

/-- THE SECOND FORM's CARD OF 'overhaullaw.RestRows'. -/
def restRowsUptoCard : Claim7 := { stood := { row := restRowsUptoRow, standIns := [], harness := (true, "0621d99a88ebaecb2ab0b8776ff68669ee7732f2c0d41559942948870c3ab980"), looks := true }, kinds := [], alts := [], laidByText := true, laidKinds := [.data, .data, .data, .sentinel, .sentinel], laidTests := true, laidLooks := .later }
def RestRowsUptoCardSaid : Prop := Claim7.holds Tryd.pinned (.plain (OpenSpec.upto restRowsSpec)) restRowsUptoCard

/-- THE SECOND FORM's CARD OF 'overhaullaw.ValueTells'. -/
def valueTellsUptoCard : Claim7 := { stood := { row := valueTellsUptoRow, standIns := [], harness := (true, "0621d99a88ebaecb2ab0b8776ff68669ee7732f2c0d41559942948870c3ab980"), looks := true }, kinds := [], alts := [], laidByText := true, laidKinds := [.data, .data, .data, .sentinel, .sentinel], laidTests := true, laidLooks := .later }
def ValueTellsUptoCardSaid : Prop := Claim7.holds Tryd.pinned (.plain (OpenSpec.upto valueTellsSpec)) valueTellsUptoCard

/-- THE SECOND FORM's CARD OF 'overhaullaw.ValueKeys'. -/
def valueKeysUptoCard : Claim7 := { stood := { row := valueKeysUptoRow, standIns := [], harness := (true, "0621d99a88ebaecb2ab0b8776ff68669ee7732f2c0d41559942948870c3ab980"), looks := true }, kinds := [], alts := [], laidByText := true, laidKinds := [.data, .data, .data, .sentinel, .sentinel], laidTests := true, laidLooks := .later }
def ValueKeysUptoCardSaid : Prop := Claim7.holds Tryd.pinned (.plain (OpenSpec.upto valueKeysSpec)) valueKeysUptoCard
end Rows
end Go.Proofs.YtnjjpblgcgikaaaDoor
