/-
  DERIVED. GIVEN WITH THE SEED: THE CARDS: each row of YtpldpcjdjcgicaaGreatDoorRows.lean that lists a variable, with what it lists TIED to the program's text (the seventh form; the later family's looks); each row that meets fmt, with fmt's text TOLD by the authors' own Lean function (tested against real Go, not proved from fmt's source: count such statements apart). THE CARD IS WHAT COUNTS. Prove the row's statement (the work); the ties are given (YtpldpcjdjcgicaaGreatDoorTie.lean); close each card by the builder's one call (the guide's Derived/Test/ToyasCard.lean, 'card_holds'). Laid BY PROGRAM, IN A SANDBOX (cutbox-door.mjs). By AI agents, Wed Nov 11 2026. No macro, syntax, notation, axiom, sorry.
-/
import Derived.Test.YtpldpcjdjcgicaaGreatDoorRows
import GoSem.ClaimSeven
namespace Go.Proofs.YtpldpcjdjcgicaaGreatDoor
namespace Rows

/-- THE TIED CARD OF 'wattlelaw22.BfsAlong'. -/
def bfsAlongCard : Claim7 := { stood := { row := bfsAlongRow, standIns := [], harness := (true, "409d4f08d0c3ae96993ad4d3d14dae7f67f88f964d8d8fdc00c4c49ba2de40b9"), looks := false }, kinds := [], alts := [], laidByText := true, laidKinds := [.data, .data], laidTests := true, laidLooks := .later }
def BfsAlongCardSaid : Prop := Claim7.holds Tryz.pinned (.plain (OpenSpec.ofChange bfsAlongSpec)) bfsAlongCard

/-- THE TIED CARD OF 'wattlelaw22.BfsShortest'. -/
def bfsShortestCard : Claim7 := { stood := { row := bfsShortestRow, standIns := [], harness := (true, "409d4f08d0c3ae96993ad4d3d14dae7f67f88f964d8d8fdc00c4c49ba2de40b9"), looks := false }, kinds := [], alts := [], laidByText := true, laidKinds := [.data, .data], laidTests := true, laidLooks := .later }
def BfsShortestCardSaid : Prop := Claim7.holds Tryz.pinned (.plain (OpenSpec.ofChange bfsShortestSpec)) bfsShortestCard

/-- THE TIED CARD OF 'wattlelaw22.BfsTaken'. -/
def bfsTakenCard : Claim7 := { stood := { row := bfsTakenRow, standIns := [], harness := (true, "409d4f08d0c3ae96993ad4d3d14dae7f67f88f964d8d8fdc00c4c49ba2de40b9"), looks := false }, kinds := [], alts := [], laidByText := true, laidKinds := [.data, .data], laidTests := true, laidLooks := .later }
def BfsTakenCardSaid : Prop := Claim7.holds Tryz.pinned (.plain (OpenSpec.ofChange bfsTakenSpec)) bfsTakenCard

/-- THE SECOND FORM's CARD OF 'wattlelaw22.BfsAlong'. -/
def bfsAlongUptoCard : Claim7 := { stood := { row := bfsAlongUptoRow, standIns := [], harness := (true, "409d4f08d0c3ae96993ad4d3d14dae7f67f88f964d8d8fdc00c4c49ba2de40b9"), looks := false }, kinds := [], alts := [], laidByText := true, laidKinds := [.data, .data], laidTests := true, laidLooks := .later }
def BfsAlongUptoCardSaid : Prop := Claim7.holds Tryz.pinned (.plain (OpenSpec.upto bfsAlongSpec)) bfsAlongUptoCard

/-- THE SECOND FORM's CARD OF 'wattlelaw22.BfsShortest'. -/
def bfsShortestUptoCard : Claim7 := { stood := { row := bfsShortestUptoRow, standIns := [], harness := (true, "409d4f08d0c3ae96993ad4d3d14dae7f67f88f964d8d8fdc00c4c49ba2de40b9"), looks := false }, kinds := [], alts := [], laidByText := true, laidKinds := [.data, .data], laidTests := true, laidLooks := .later }
def BfsShortestUptoCardSaid : Prop := Claim7.holds Tryz.pinned (.plain (OpenSpec.upto bfsShortestSpec)) bfsShortestUptoCard

/-- THE SECOND FORM's CARD OF 'wattlelaw22.BfsTaken'. -/
def bfsTakenUptoCard : Claim7 := { stood := { row := bfsTakenUptoRow, standIns := [], harness := (true, "409d4f08d0c3ae96993ad4d3d14dae7f67f88f964d8d8fdc00c4c49ba2de40b9"), looks := false }, kinds := [], alts := [], laidByText := true, laidKinds := [.data, .data], laidTests := true, laidLooks := .later }
def BfsTakenUptoCardSaid : Prop := Claim7.holds Tryz.pinned (.plain (OpenSpec.upto bfsTakenSpec)) bfsTakenUptoCard
end Rows
end Go.Proofs.YtpldpcjdjcgicaaGreatDoor
