/-
  DERIVED. GIVEN WITH THE SEED: THE CARDS: each row of YtbbfibhllfiofaaGreatDoorRows.lean that lists a variable, with what it lists TIED to the program's text (the seventh form; the later family's looks); each row that meets fmt, with fmt's text TOLD by the authors' own Lean function (tested against real Go, not proved from fmt's source: count such statements apart). THE CARD IS WHAT COUNTS. Prove the row's statement (the work); the ties are given (YtbbfibhllfiofaaGreatDoorTie.lean); close each card by the builder's one call (the guide's Derived/Test/ToyasCard.lean, 'card_holds'). Laid BY PROGRAM, IN A SANDBOX (cutbox-door.mjs). By AI agents, Wed Nov 11 2026. No macro, syntax, notation, axiom, sorry.
-/
import Derived.Test.YtbbfibhllfiofaaGreatDoorRows
import GoSem.ClaimSeven
namespace Go.Proofs.YtbbfibhllfiofaaGreatDoor
namespace Rows

/-- THE TIED CARD OF 'wattlelaw22.BfsNames'. -/
def bfsNamesCard : Claim7 := { stood := { row := bfsNamesRow, standIns := [], harness := (true, "9a99c7a8c874319549fa4eeb2a7ea26f9974e0b0b0796a6e122c4f568579e7ff"), looks := true }, kinds := [], alts := [], laidByText := true, laidKinds := [.data, .data], laidTests := true, laidLooks := .later }
def BfsNamesCardSaid : Prop := Claim7.holds Tryz.pinned (.plain (OpenSpec.ofChange bfsNamesSpec)) bfsNamesCard

/-- THE TIED CARD OF 'wattlelaw25.CoreNone'. -/
def coreNoneCard : Claim7 := { stood := { row := coreNoneRow, standIns := [], harness := (true, "9a99c7a8c874319549fa4eeb2a7ea26f9974e0b0b0796a6e122c4f568579e7ff"), looks := true }, kinds := [], alts := [], laidByText := true, laidKinds := [.data, .data], laidTests := true, laidLooks := .later }
def CoreNoneCardSaid : Prop := Claim7.holds Tryz.pinned (.plain (OpenSpec.ofChange coreNoneSpec)) coreNoneCard

/-- THE TIED CARD OF 'wattlelaw24.DomNames'. -/
def domNamesCard : Claim7 := { stood := { row := domNamesRow, standIns := [], harness := (true, "9a99c7a8c874319549fa4eeb2a7ea26f9974e0b0b0796a6e122c4f568579e7ff"), looks := true }, kinds := [], alts := [], laidByText := true, laidKinds := [.data, .data], laidTests := true, laidLooks := .later }
def DomNamesCardSaid : Prop := Claim7.holds Tryz.pinned (.plain (OpenSpec.ofChange domNamesSpec)) domNamesCard

/-- THE TIED CARD OF 'wattlelaw23.SccNames'. -/
def sccNamesCard : Claim7 := { stood := { row := sccNamesRow, standIns := [], harness := (true, "9a99c7a8c874319549fa4eeb2a7ea26f9974e0b0b0796a6e122c4f568579e7ff"), looks := true }, kinds := [], alts := [], laidByText := true, laidKinds := [.data, .data], laidTests := true, laidLooks := .later }
def SccNamesCardSaid : Prop := Claim7.holds Tryz.pinned (.plain (OpenSpec.ofChange sccNamesSpec)) sccNamesCard

/-- THE TIED CARD OF 'wattlelaw28.BallNone'. -/
def ballNoneCard : Claim7 := { stood := { row := ballNoneRow, standIns := [], harness := (true, "9a99c7a8c874319549fa4eeb2a7ea26f9974e0b0b0796a6e122c4f568579e7ff"), looks := true }, kinds := [], alts := [], laidByText := true, laidKinds := [.data, .data], laidTests := true, laidLooks := .later }
def BallNoneCardSaid : Prop := Claim7.holds Tryz.pinned (.plain (OpenSpec.ofChange ballNoneSpec)) ballNoneCard

/-- THE SECOND FORM's CARD OF 'wattlelaw22.BfsNames'. -/
def bfsNamesUptoCard : Claim7 := { stood := { row := bfsNamesUptoRow, standIns := [], harness := (true, "9a99c7a8c874319549fa4eeb2a7ea26f9974e0b0b0796a6e122c4f568579e7ff"), looks := true }, kinds := [], alts := [], laidByText := true, laidKinds := [.data, .data], laidTests := true, laidLooks := .later }
def BfsNamesUptoCardSaid : Prop := Claim7.holds Tryz.pinned (.plain (OpenSpec.upto bfsNamesSpec)) bfsNamesUptoCard

/-- THE SECOND FORM's CARD OF 'wattlelaw25.CoreNone'. -/
def coreNoneUptoCard : Claim7 := { stood := { row := coreNoneUptoRow, standIns := [], harness := (true, "9a99c7a8c874319549fa4eeb2a7ea26f9974e0b0b0796a6e122c4f568579e7ff"), looks := true }, kinds := [], alts := [], laidByText := true, laidKinds := [.data, .data], laidTests := true, laidLooks := .later }
def CoreNoneUptoCardSaid : Prop := Claim7.holds Tryz.pinned (.plain (OpenSpec.upto coreNoneSpec)) coreNoneUptoCard

/-- THE SECOND FORM's CARD OF 'wattlelaw24.DomNames'. -/
def domNamesUptoCard : Claim7 := { stood := { row := domNamesUptoRow, standIns := [], harness := (true, "9a99c7a8c874319549fa4eeb2a7ea26f9974e0b0b0796a6e122c4f568579e7ff"), looks := true }, kinds := [], alts := [], laidByText := true, laidKinds := [.data, .data], laidTests := true, laidLooks := .later }
def DomNamesUptoCardSaid : Prop := Claim7.holds Tryz.pinned (.plain (OpenSpec.upto domNamesSpec)) domNamesUptoCard

/-- THE SECOND FORM's CARD OF 'wattlelaw23.SccNames'. -/
def sccNamesUptoCard : Claim7 := { stood := { row := sccNamesUptoRow, standIns := [], harness := (true, "9a99c7a8c874319549fa4eeb2a7ea26f9974e0b0b0796a6e122c4f568579e7ff"), looks := true }, kinds := [], alts := [], laidByText := true, laidKinds := [.data, .data], laidTests := true, laidLooks := .later }
def SccNamesUptoCardSaid : Prop := Claim7.holds Tryz.pinned (.plain (OpenSpec.upto sccNamesSpec)) sccNamesUptoCard

/-- THE SECOND FORM's CARD OF 'wattlelaw28.BallNone'. -/
def ballNoneUptoCard : Claim7 := { stood := { row := ballNoneUptoRow, standIns := [], harness := (true, "9a99c7a8c874319549fa4eeb2a7ea26f9974e0b0b0796a6e122c4f568579e7ff"), looks := true }, kinds := [], alts := [], laidByText := true, laidKinds := [.data, .data], laidTests := true, laidLooks := .later }
def BallNoneUptoCardSaid : Prop := Claim7.holds Tryz.pinned (.plain (OpenSpec.upto ballNoneSpec)) ballNoneUptoCard
end Rows
end Go.Proofs.YtbbfibhllfiofaaGreatDoor
