/-
  DERIVED. GIVEN WITH THE SEED: THE CARDS: each row of YtfgjaafcgghnoaaGreatDoorRows.lean that lists a variable, with what it lists TIED to the program's text (the seventh form; the later family's looks); each row that meets fmt, with fmt's text TOLD by the authors' own Lean function (tested against real Go, not proved from fmt's source: count such statements apart). THE CARD IS WHAT COUNTS. Prove the row's statement (the work); the ties are given (YtfgjaafcgghnoaaGreatDoorTie.lean); close each card by the builder's one call (the guide's Derived/Test/ToyasCard.lean, 'card_holds'). Laid BY PROGRAM, IN A SANDBOX (cutbox-door.mjs). By AI agents, Wed Nov 11 2026. No macro, syntax, notation, axiom, sorry.
-/
import Derived.Test.YtfgjaafcgghnoaaGreatDoorRows
import GoSem.ClaimSeven
namespace Go.Proofs.YtfgjaafcgghnoaaGreatDoor
namespace Rows

/-- THE TIED CARD OF 'wattlelaw25.CoreNumbers'. -/
def coreNumbersCard : Claim7 := { stood := { row := coreNumbersRow, standIns := [], harness := (true, "37e60a2d6b9d77181dbde82ede6e97abd37f10b2d7caf59650365a7f698b3959"), looks := false }, kinds := [], alts := [], laidByText := true, laidKinds := [.data, .data], laidTests := true, laidLooks := .later }
def CoreNumbersCardSaid : Prop := Claim7.holds Tryz.pinned (.plain (OpenSpec.ofChange coreNumbersSpec)) coreNumbersCard

/-- THE TIED CARD OF 'wattlelaw25.CoreTaken'. -/
def coreTakenCard : Claim7 := { stood := { row := coreTakenRow, standIns := [], harness := (true, "37e60a2d6b9d77181dbde82ede6e97abd37f10b2d7caf59650365a7f698b3959"), looks := false }, kinds := [], alts := [], laidByText := true, laidKinds := [.data, .data], laidTests := true, laidLooks := .later }
def CoreTakenCardSaid : Prop := Claim7.holds Tryz.pinned (.plain (OpenSpec.ofChange coreTakenSpec)) coreTakenCard

/-- THE TIED CARD OF 'wattlelaw25.CorePlays'. -/
def corePlaysCard : Claim7 := { stood := { row := corePlaysRow, standIns := [], harness := (true, "37e60a2d6b9d77181dbde82ede6e97abd37f10b2d7caf59650365a7f698b3959"), looks := false }, kinds := [], alts := [], laidByText := true, laidKinds := [.data, .data], laidTests := true, laidLooks := .later }
def CorePlaysCardSaid : Prop := Claim7.holds Tryz.pinned (.plain (OpenSpec.ofChange corePlaysSpec)) corePlaysCard

/-- THE SECOND FORM's CARD OF 'wattlelaw25.CoreNumbers'. -/
def coreNumbersUptoCard : Claim7 := { stood := { row := coreNumbersUptoRow, standIns := [], harness := (true, "37e60a2d6b9d77181dbde82ede6e97abd37f10b2d7caf59650365a7f698b3959"), looks := false }, kinds := [], alts := [], laidByText := true, laidKinds := [.data, .data], laidTests := true, laidLooks := .later }
def CoreNumbersUptoCardSaid : Prop := Claim7.holds Tryz.pinned (.plain (OpenSpec.upto coreNumbersSpec)) coreNumbersUptoCard

/-- THE SECOND FORM's CARD OF 'wattlelaw25.CoreTaken'. -/
def coreTakenUptoCard : Claim7 := { stood := { row := coreTakenUptoRow, standIns := [], harness := (true, "37e60a2d6b9d77181dbde82ede6e97abd37f10b2d7caf59650365a7f698b3959"), looks := false }, kinds := [], alts := [], laidByText := true, laidKinds := [.data, .data], laidTests := true, laidLooks := .later }
def CoreTakenUptoCardSaid : Prop := Claim7.holds Tryz.pinned (.plain (OpenSpec.upto coreTakenSpec)) coreTakenUptoCard

/-- THE SECOND FORM's CARD OF 'wattlelaw25.CorePlays'. -/
def corePlaysUptoCard : Claim7 := { stood := { row := corePlaysUptoRow, standIns := [], harness := (true, "37e60a2d6b9d77181dbde82ede6e97abd37f10b2d7caf59650365a7f698b3959"), looks := false }, kinds := [], alts := [], laidByText := true, laidKinds := [.data, .data], laidTests := true, laidLooks := .later }
def CorePlaysUptoCardSaid : Prop := Claim7.holds Tryz.pinned (.plain (OpenSpec.upto corePlaysSpec)) corePlaysUptoCard
end Rows
end Go.Proofs.YtfgjaafcgghnoaaGreatDoor
