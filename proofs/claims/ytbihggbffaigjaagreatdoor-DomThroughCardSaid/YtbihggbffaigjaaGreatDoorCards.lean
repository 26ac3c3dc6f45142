/-
  DERIVED. GIVEN WITH THE SEED: THE CARDS: each row of YtbihggbffaigjaaGreatDoorRows.lean that lists a variable, with what it lists TIED to the program's text (the seventh form; the later family's looks); each row that meets fmt, with fmt's text TOLD by the authors' own Lean function (tested against real Go, not proved from fmt's source: count such statements apart). THE CARD IS WHAT COUNTS. Prove the row's statement (the work); the ties are given (YtbihggbffaigjaaGreatDoorTie.lean); close each card by the builder's one call (the guide's Derived/Test/ToyasCard.lean, 'card_holds'). Laid BY PROGRAM, IN A SANDBOX (cutbox-door.mjs). By AI agents, Wed Nov 11 2026. No macro, syntax, notation, axiom, sorry.
-/
import Derived.Test.YtbihggbffaigjaaGreatDoorRows
import GoSem.ClaimSeven
namespace Go.Proofs.YtbihggbffaigjaaGreatDoor
namespace Rows

/-- THE TIED CARD OF 'wattlelaw24.DomThrough'. -/
def domThroughCard : Claim7 := { stood := { row := domThroughRow, standIns := [], harness := (true, "f50b771dfe4414e4dd469a8b3e3c9f7e450cb990f38131d3ea6dda0a5a1a51a4"), looks := true }, kinds := [], alts := [], laidByText := true, laidKinds := [.data, .data], laidTests := true, laidLooks := .later }
def DomThroughCardSaid : Prop := Claim7.holds Tryz.pinned (.plain (OpenSpec.ofChange domThroughSpec)) domThroughCard

/-- THE TIED CARD OF 'wattlelaw24.DomChain'. -/
def domChainCard : Claim7 := { stood := { row := domChainRow, standIns := [], harness := (true, "f50b771dfe4414e4dd469a8b3e3c9f7e450cb990f38131d3ea6dda0a5a1a51a4"), looks := true }, kinds := [], alts := [], laidByText := true, laidKinds := [.data, .data], laidTests := true, laidLooks := .later }
def DomChainCardSaid : Prop := Claim7.holds Tryz.pinned (.plain (OpenSpec.ofChange domChainSpec)) domChainCard

/-- THE TIED CARD OF 'wattlelaw24.DomTaken'. -/
def domTakenCard : Claim7 := { stood := { row := domTakenRow, standIns := [], harness := (true, "f50b771dfe4414e4dd469a8b3e3c9f7e450cb990f38131d3ea6dda0a5a1a51a4"), looks := true }, kinds := [], alts := [], laidByText := true, laidKinds := [.data, .data], laidTests := true, laidLooks := .later }
def DomTakenCardSaid : Prop := Claim7.holds Tryz.pinned (.plain (OpenSpec.ofChange domTakenSpec)) domTakenCard

/-- THE TIED CARD OF 'wattlelaw24.DomPlays'. -/
def domPlaysCard : Claim7 := { stood := { row := domPlaysRow, standIns := [], harness := (true, "f50b771dfe4414e4dd469a8b3e3c9f7e450cb990f38131d3ea6dda0a5a1a51a4"), looks := true }, kinds := [], alts := [], laidByText := true, laidKinds := [.data, .data], laidTests := true, laidLooks := .later }
def DomPlaysCardSaid : Prop := Claim7.holds Tryz.pinned (.plain (OpenSpec.ofChange domPlaysSpec)) domPlaysCard

/-- THE TIED CARD OF 'wattlelaw24.DomLoads'. -/
def domLoadsCard : Claim7 := { stood := { row := domLoadsRow, standIns := [], harness := (true, "f50b771dfe4414e4dd469a8b3e3c9f7e450cb990f38131d3ea6dda0a5a1a51a4"), looks := true }, kinds := [], alts := [], laidByText := true, laidKinds := [.data, .data], laidTests := true, laidLooks := .later }
def DomLoadsCardSaid : Prop := Claim7.holds Tryz.pinned (.plain (OpenSpec.ofChange domLoadsSpec)) domLoadsCard

/-- THE SECOND FORM's CARD OF 'wattlelaw24.DomThrough'. -/
def domThroughUptoCard : Claim7 := { stood := { row := domThroughUptoRow, standIns := [], harness := (true, "f50b771dfe4414e4dd469a8b3e3c9f7e450cb990f38131d3ea6dda0a5a1a51a4"), looks := true }, kinds := [], alts := [], laidByText := true, laidKinds := [.data, .data], laidTests := true, laidLooks := .later }
def DomThroughUptoCardSaid : Prop := Claim7.holds Tryz.pinned (.plain (OpenSpec.upto domThroughSpec)) domThroughUptoCard

/-- THE SECOND FORM's CARD OF 'wattlelaw24.DomChain'. -/
def domChainUptoCard : Claim7 := { stood := { row := domChainUptoRow, standIns := [], harness := (true, "f50b771dfe4414e4dd469a8b3e3c9f7e450cb990f38131d3ea6dda0a5a1a51a4"), looks := true }, kinds := [], alts := [], laidByText := true, laidKinds := [.data, .data], laidTests := true, laidLooks := .later }
def DomChainUptoCardSaid : Prop := Claim7.holds Tryz.pinned (.plain (OpenSpec.upto domChainSpec)) domChainUptoCard

/-- THE SECOND FORM's CARD OF 'wattlelaw24.DomTaken'. -/
def domTakenUptoCard : Claim7 := { stood := { row := domTakenUptoRow, standIns := [], harness := (true, "f50b771dfe4414e4dd469a8b3e3c9f7e450cb990f38131d3ea6dda0a5a1a51a4"), looks := true }, kinds := [], alts := [], laidByText := true, laidKinds := [.data, .data], laidTests := true, laidLooks := .later }
def DomTakenUptoCardSaid : Prop := Claim7.holds Tryz.pinned (.plain (OpenSpec.upto domTakenSpec)) domTakenUptoCard

/-- THE SECOND FORM's CARD OF 'wattlelaw24.DomPlays'. -/
def domPlaysUptoCard : Claim7 := { stood := { row := domPlaysUptoRow, standIns := [], harness := (true, "f50b771dfe4414e4dd469a8b3e3c9f7e450cb990f38131d3ea6dda0a5a1a51a4"), looks := true }, kinds := [], alts := [], laidByText := true, laidKinds := [.data, .data], laidTests := true, laidLooks := .later }
def DomPlaysUptoCardSaid : Prop := Claim7.holds Tryz.pinned (.plain (OpenSpec.upto domPlaysSpec)) domPlaysUptoCard

/-- THE SECOND FORM's CARD OF 'wattlelaw24.DomLoads'. -/
def domLoadsUptoCard : Claim7 := { stood := { row := domLoadsUptoRow, standIns := [], harness := (true, "f50b771dfe4414e4dd469a8b3e3c9f7e450cb990f38131d3ea6dda0a5a1a51a4"), looks := true }, kinds := [], alts := [], laidByText := true, laidKinds := [.data, .data], laidTests := true, laidLooks := .later }
def DomLoadsUptoCardSaid : Prop := Claim7.holds Tryz.pinned (.plain (OpenSpec.upto domLoadsSpec)) domLoadsUptoCard
end Rows
end Go.Proofs.YtbihggbffaigjaaGreatDoor
