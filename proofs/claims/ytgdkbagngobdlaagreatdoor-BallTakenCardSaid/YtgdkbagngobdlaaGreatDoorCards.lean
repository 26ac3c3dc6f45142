/-
  DERIVED. GIVEN WITH THE SEED: THE CARDS: each row of YtgdkbagngobdlaaGreatDoorRows.lean that lists a variable, with what it lists TIED to the program's text (the seventh form; the later family's looks); each row that meets fmt, with fmt's text TOLD by the authors' own Lean function (tested against real Go, not proved from fmt's source: count such statements apart). THE CARD IS WHAT COUNTS. Prove the row's statement (the work); the ties are given (YtgdkbagngobdlaaGreatDoorTie.lean); close each card by the builder's one call (the guide's Derived/Test/ToyasCard.lean, 'card_holds'). Laid BY PROGRAM, IN A SANDBOX (cutbox-door.mjs). By AI agents, Wed Nov 11 2026. No macro, syntax, notation, axiom, sorry.
-/
import Derived.Test.YtgdkbagngobdlaaGreatDoorRows
import GoSem.ClaimSeven
namespace Go.Proofs.YtgdkbagngobdlaaGreatDoor
namespace Rows

/-- THE TIED CARD OF 'wattlelaw28.BallSketches'. -/
def ballSketchesCard : Claim7 := { stood := { row := ballSketchesRow, standIns := [], harness := (true, "dd71f116e6233cd3d394efd96d4585d22d59e113c1d45e0faf8390521f1877e1"), looks := false }, kinds := [], alts := [], laidByText := true, laidKinds := [.data, .data], laidTests := true, laidLooks := .later }
def BallSketchesCardSaid : Prop := Claim7.holds Tryz.pinned (.plain (OpenSpec.ofChange ballSketchesSpec)) ballSketchesCard

/-- THE TIED CARD OF 'wattlelaw28.BallTaken'. -/
def ballTakenCard : Claim7 := { stood := { row := ballTakenRow, standIns := [], harness := (true, "dd71f116e6233cd3d394efd96d4585d22d59e113c1d45e0faf8390521f1877e1"), looks := false }, kinds := [], alts := [], laidByText := true, laidKinds := [.data, .data], laidTests := true, laidLooks := .later }
def BallTakenCardSaid : Prop := Claim7.holds Tryz.pinned (.plain (OpenSpec.ofChange ballTakenSpec)) ballTakenCard

/-- THE TIED CARD OF 'wattlelaw28.BallPlays'. -/
def ballPlaysCard : Claim7 := { stood := { row := ballPlaysRow, standIns := [], harness := (true, "dd71f116e6233cd3d394efd96d4585d22d59e113c1d45e0faf8390521f1877e1"), looks := false }, kinds := [], alts := [], laidByText := true, laidKinds := [.data, .data], laidTests := true, laidLooks := .later }
def BallPlaysCardSaid : Prop := Claim7.holds Tryz.pinned (.plain (OpenSpec.ofChange ballPlaysSpec)) ballPlaysCard

/-- THE SECOND FORM's CARD OF 'wattlelaw28.BallSketches'. -/
def ballSketchesUptoCard : Claim7 := { stood := { row := ballSketchesUptoRow, standIns := [], harness := (true, "dd71f116e6233cd3d394efd96d4585d22d59e113c1d45e0faf8390521f1877e1"), looks := false }, kinds := [], alts := [], laidByText := true, laidKinds := [.data, .data], laidTests := true, laidLooks := .later }
def BallSketchesUptoCardSaid : Prop := Claim7.holds Tryz.pinned (.plain (OpenSpec.upto ballSketchesSpec)) ballSketchesUptoCard

/-- THE SECOND FORM's CARD OF 'wattlelaw28.BallTaken'. -/
def ballTakenUptoCard : Claim7 := { stood := { row := ballTakenUptoRow, standIns := [], harness := (true, "dd71f116e6233cd3d394efd96d4585d22d59e113c1d45e0faf8390521f1877e1"), looks := false }, kinds := [], alts := [], laidByText := true, laidKinds := [.data, .data], laidTests := true, laidLooks := .later }
def BallTakenUptoCardSaid : Prop := Claim7.holds Tryz.pinned (.plain (OpenSpec.upto ballTakenSpec)) ballTakenUptoCard

/-- THE SECOND FORM's CARD OF 'wattlelaw28.BallPlays'. -/
def ballPlaysUptoCard : Claim7 := { stood := { row := ballPlaysUptoRow, standIns := [], harness := (true, "dd71f116e6233cd3d394efd96d4585d22d59e113c1d45e0faf8390521f1877e1"), looks := false }, kinds := [], alts := [], laidByText := true, laidKinds := [.data, .data], laidTests := true, laidLooks := .later }
def BallPlaysUptoCardSaid : Prop := Claim7.holds Tryz.pinned (.plain (OpenSpec.upto ballPlaysSpec)) ballPlaysUptoCard
end Rows
end Go.Proofs.YtgdkbagngobdlaaGreatDoor
