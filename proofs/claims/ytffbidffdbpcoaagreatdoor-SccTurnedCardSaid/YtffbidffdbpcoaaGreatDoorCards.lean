/-
  DERIVED. GIVEN WITH THE SEED: THE CARDS: each row of YtffbidffdbpcoaaGreatDoorRows.lean that lists a variable, with what it lists TIED to the program's text (the seventh form; the later family's looks); each row that meets fmt, with fmt's text TOLD by the authors' own Lean function (tested against real Go, not proved from fmt's source: count such statements apart). THE CARD IS WHAT COUNTS. Prove the row's statement (the work); the ties are given (YtffbidffdbpcoaaGreatDoorTie.lean); close each card by the builder's one call (the guide's Derived/Test/ToyasCard.lean, 'card_holds'). Laid BY PROGRAM, IN A SANDBOX (cutbox-door.mjs). By AI agents, Wed Nov 11 2026. No macro, syntax, notation, axiom, sorry.
-/
import Derived.Test.YtffbidffdbpcoaaGreatDoorRows
import GoSem.ClaimSeven
namespace Go.Proofs.YtffbidffdbpcoaaGreatDoor
namespace Rows

/-- THE TIED CARD OF 'wattlelaw23.SccMutual'. -/
def sccMutualCard : Claim7 := { stood := { row := sccMutualRow, standIns := [], harness := (true, "9e124441a3fa1985b9e2a28a2a87bd915f1ea1de20dd61d08059fc5336959648"), looks := true }, kinds := [], alts := [], laidByText := true, laidKinds := [.data, .data], laidTests := true, laidLooks := .later }
def SccMutualCardSaid : Prop := Claim7.holds Tryz.pinned (.plain (OpenSpec.ofChange sccMutualSpec)) sccMutualCard

/-- THE TIED CARD OF 'wattlelaw23.SccTurned'. -/
def sccTurnedCard : Claim7 := { stood := { row := sccTurnedRow, standIns := [], harness := (true, "9e124441a3fa1985b9e2a28a2a87bd915f1ea1de20dd61d08059fc5336959648"), looks := true }, kinds := [], alts := [], laidByText := true, laidKinds := [.data, .data], laidTests := true, laidLooks := .later }
def SccTurnedCardSaid : Prop := Claim7.holds Tryz.pinned (.plain (OpenSpec.ofChange sccTurnedSpec)) sccTurnedCard

/-- THE TIED CARD OF 'wattlelaw23.SccTaken'. -/
def sccTakenCard : Claim7 := { stood := { row := sccTakenRow, standIns := [], harness := (true, "9e124441a3fa1985b9e2a28a2a87bd915f1ea1de20dd61d08059fc5336959648"), looks := true }, kinds := [], alts := [], laidByText := true, laidKinds := [.data, .data], laidTests := true, laidLooks := .later }
def SccTakenCardSaid : Prop := Claim7.holds Tryz.pinned (.plain (OpenSpec.ofChange sccTakenSpec)) sccTakenCard

/-- THE SECOND FORM's CARD OF 'wattlelaw23.SccMutual'. -/
def sccMutualUptoCard : Claim7 := { stood := { row := sccMutualUptoRow, standIns := [], harness := (true, "9e124441a3fa1985b9e2a28a2a87bd915f1ea1de20dd61d08059fc5336959648"), looks := true }, kinds := [], alts := [], laidByText := true, laidKinds := [.data, .data], laidTests := true, laidLooks := .later }
def SccMutualUptoCardSaid : Prop := Claim7.holds Tryz.pinned (.plain (OpenSpec.upto sccMutualSpec)) sccMutualUptoCard

/-- THE SECOND FORM's CARD OF 'wattlelaw23.SccTurned'. -/
def sccTurnedUptoCard : Claim7 := { stood := { row := sccTurnedUptoRow, standIns := [], harness := (true, "9e124441a3fa1985b9e2a28a2a87bd915f1ea1de20dd61d08059fc5336959648"), looks := true }, kinds := [], alts := [], laidByText := true, laidKinds := [.data, .data], laidTests := true, laidLooks := .later }
def SccTurnedUptoCardSaid : Prop := Claim7.holds Tryz.pinned (.plain (OpenSpec.upto sccTurnedSpec)) sccTurnedUptoCard

/-- THE SECOND FORM's CARD OF 'wattlelaw23.SccTaken'. -/
def sccTakenUptoCard : Claim7 := { stood := { row := sccTakenUptoRow, standIns := [], harness := (true, "9e124441a3fa1985b9e2a28a2a87bd915f1ea1de20dd61d08059fc5336959648"), looks := true }, kinds := [], alts := [], laidByText := true, laidKinds := [.data, .data], laidTests := true, laidLooks := .later }
def SccTakenUptoCardSaid : Prop := Claim7.holds Tryz.pinned (.plain (OpenSpec.upto sccTakenSpec)) sccTakenUptoCard
end Rows
end Go.Proofs.YtffbidffdbpcoaaGreatDoor
