/-
  NARROWER THAN 'FOR EVERY INPUT', by the rows' own cells (each row's printed sentence says how): BallSketches: laid · BallTaken: laid · BallPlays: laid.
  DERIVED. THE GIVEN ROWS OF THIS SEAT. 3 by the template 'for every input the law returns true; each argument reads behind the call as it read before'; 0 by the template 'total and deterministic' (their statements: YtgdkbagngobdlaaGreatDoorTotals.lean).
  GIVEN WITH THE SEED: the statements are not yours to turn. If you find one false, say at which input.
  Laid BY PROGRAM, IN A SANDBOX (cutbox-rows.mjs): the forced cells as the released guide's own fill.sh prints them over the translation 687cb8a6f864276c… (all of the seat's roots in one cut). By AI agents, Wed Nov 11 2026. No macro, syntax, notation, axiom, sorry.
-/
import Derived.Test.YtgdkbagngobdlaaGreatDoorChecked
import GoSem.Claim
import GoSem.ClaimJoined
import GoSem.ClaimMapViews
import Derived.JoinedTies
import Derived.KernelRfl
namespace Go.Proofs.YtgdkbagngobdlaaGreatDoor
/- THE CELL 'sum', in the pinned program and in every row, IS THE sha256 OF THE DUMP (.gsa) THAT YtgdkbagngobdlaaGreatDoorProg.lean LOADS. Nothing in Lean hashes anything: it is a label: what it is worth is what the hold of that sum in a sandbox is worth. -/
noncomputable def Tryz.pinned : Pinned := { name := "ytgdkbagngobdlaagreatdoor", sum := "687cb8a6f864276c483bb427f686235a41921bb2017ba7965a0d958208b9fb03", checked := Tryz.checked }
namespace Rows
def none {H : Type} : Left H := { results := [], args := [] }

/- WHAT THE LISTED PACKAGE-LEVEL VARIABLES READ AS WHEN THE CALL BEGINS. Each datum BY PROGRAM (the guide's laid-datum.mjs) off the statement by which the dump's own 'gosem.cut.vars' lays the variable. In a bare row this is a premise. The card (YtgdkbagngobdlaaGreatDoorCards.lean) ties it to the program's text. -/
def laid_wattle_list_gamma {H : Type} : DataW H := .agg [.lit (.int .u8 1), .lit (.int .u64 0)]
def laid_wattle_list_unary {H : Type} : DataW H := .agg [.lit (.int .u8 0), .lit (.int .u64 0)]

/-- 'wattlelaw28.BallSketches': WHATEVER THE INPUT: true; the input reads as it did. -/
def ballSketchesSpec : ChangeSpec := { name := "ballSketches", fn := fun _ => fun
  | [d] => { results := [.lit (.bool true)], args := [d] }
  | _ => none }
def ballSketchesRow : OpenClaim := { program := "ytgdkbagngobdlaagreatdoor", sum := "687cb8a6f864276c483bb427f686235a41921bb2017ba7965a0d958208b9fb03", func := "wattle/wattlelaw28.BallSketches", spec := "ballSketches", inPlace := ["internal/abi.NoEscape", "internal/bytealg.MakeNoZero"], unfollowed := true, recurses := true, named := ["wattle/list.gamma", "wattle/list.unary", "math/bits.divideError", "math/bits.overflowError"], apart := false, laid := [("wattle/list.gamma", laid_wattle_list_gamma), ("wattle/list.unary", laid_wattle_list_unary)] }
def BallSketchesSaid : Prop := ballSketchesRow.holds Tryz.pinned (OpenSpec.ofChange ballSketchesSpec)

/-- ITS FALSE NEIGHBOUR: 'it returns false'. Refute it at one input. -/
def ballSketchesWrong : ChangeSpec := { name := "ballSketches", fn := fun _ => fun
  | [d] => { results := [.lit (.bool false)], args := [d] }
  | _ => none }
def BallSketchesWrongFalsely : Prop := ballSketchesRow.holds Tryz.pinned (OpenSpec.ofChange ballSketchesWrong)

/-- 'wattlelaw28.BallTaken': WHATEVER THE INPUT: true; the input reads as it did. -/
def ballTakenSpec : ChangeSpec := { name := "ballTaken", fn := fun _ => fun
  | [d1, d2] => { results := [.lit (.bool true)], args := [d1, d2] }
  | _ => none }
def ballTakenRow : OpenClaim := { program := "ytgdkbagngobdlaagreatdoor", sum := "687cb8a6f864276c483bb427f686235a41921bb2017ba7965a0d958208b9fb03", func := "wattle/wattlelaw28.BallTaken", spec := "ballTaken", inPlace := ["internal/abi.NoEscape", "internal/bytealg.MakeNoZero"], unfollowed := true, recurses := true, named := ["wattle/list.gamma", "wattle/list.unary", "math/bits.divideError", "math/bits.overflowError"], apart := false, laid := [("wattle/list.gamma", laid_wattle_list_gamma), ("wattle/list.unary", laid_wattle_list_unary)] }
def BallTakenSaid : Prop := ballTakenRow.holds Tryz.pinned (OpenSpec.ofChange ballTakenSpec)

/-- ITS FALSE NEIGHBOUR: 'it returns false'. Refute it at one input. -/
def ballTakenWrong : ChangeSpec := { name := "ballTaken", fn := fun _ => fun
  | [d1, d2] => { results := [.lit (.bool false)], args := [d1, d2] }
  | _ => none }
def BallTakenWrongFalsely : Prop := ballTakenRow.holds Tryz.pinned (OpenSpec.ofChange ballTakenWrong)

/-- 'wattlelaw28.BallPlays': WHATEVER THE INPUT: true; the input reads as it did. -/
def ballPlaysSpec : ChangeSpec := { name := "ballPlays", fn := fun _ => fun
  | [d1, d2] => { results := [.lit (.bool true)], args := [d1, d2] }
  | _ => none }
def ballPlaysRow : OpenClaim := { program := "ytgdkbagngobdlaagreatdoor", sum := "687cb8a6f864276c483bb427f686235a41921bb2017ba7965a0d958208b9fb03", func := "wattle/wattlelaw28.BallPlays", spec := "ballPlays", inPlace := ["internal/abi.NoEscape", "internal/bytealg.MakeNoZero"], unfollowed := true, recurses := true, named := ["wattle/list.gamma", "wattle/list.unary", "math/bits.divideError", "math/bits.overflowError"], apart := false, laid := [("wattle/list.gamma", laid_wattle_list_gamma), ("wattle/list.unary", laid_wattle_list_unary)] }
def BallPlaysSaid : Prop := ballPlaysRow.holds Tryz.pinned (OpenSpec.ofChange ballPlaysSpec)

/-- ITS FALSE NEIGHBOUR: 'it returns false'. Refute it at one input. -/
def ballPlaysWrong : ChangeSpec := { name := "ballPlays", fn := fun _ => fun
  | [d1, d2] => { results := [.lit (.bool false)], args := [d1, d2] }
  | _ => none }
def BallPlaysWrongFalsely : Prop := ballPlaysRow.holds Tryz.pinned (OpenSpec.ofChange ballPlaysWrong)

/- THE SECOND FORM. 'bulk': how many values and letters a reading holds, each counted each time it is reached (what is shared counts as often as it is met; a slice's spare places count too). A statement '..UptoSaid' is the law's where the arguments, and the package variables that the reading takes, are together of bulk at most 1048576: NARROWER than '..Said'. Prove '..Said' where nothing that the law and all that it calls make is longer than what came in: it says more and counts as full. Else prove '..UptoSaid'. A law counts once. -/
mutual
def uptoBulk {H : Type} : DataW H → Nat
  | .lit (.string bytes) => bytes.length + 1
  | .lit _ => 1
  | .nil => 1
  | .ptr d => uptoBulk d + 1
  | .slice elems spare => uptoBulkAll elems + uptoBulkAll spare + 1
  | .agg parts => uptoBulkAll parts + 1
  | .iface _ d => uptoBulk d + 1
  | .map entries => uptoBulkEntries entries + 1
  | .held _ => 1
def uptoBulkAll {H : Type} : List (DataW H) → Nat
  | [] => 0
  | d :: r => uptoBulk d + uptoBulkAll r
def uptoBulkEntries {H : Type} : List (Lit × DataW H) → Nat
  | [] => 0
  | x :: r => uptoBulkEntry x + uptoBulkEntries r
def uptoBulkEntry {H : Type} : Lit × DataW H → Nat
  | (.string bytes, d) => bytes.length + uptoBulk d + 1
  | (_, d) => uptoBulk d + 1
 end
def uptoSmall : (H : Type) → List (DataW H) → Bool := fun _ ds => decide (uptoBulkAll ds ≤ 1048576)
def OpenSpec.upto (s : _root_.Go.ChangeSpec) : _root_.Go.OpenSpec := { _root_.Go.OpenSpec.ofChange s with cond := some uptoSmall }

/-- 'wattlelaw28.BallSketches', WHERE WHAT IT READS IS OF BULK AT MOST 1048576: true; the input reads as it did. -/
def ballSketchesUptoRow : OpenClaim := { program := "ytgdkbagngobdlaagreatdoor", sum := "687cb8a6f864276c483bb427f686235a41921bb2017ba7965a0d958208b9fb03", func := "wattle/wattlelaw28.BallSketches", spec := "ballSketches", inPlace := ["internal/abi.NoEscape", "internal/bytealg.MakeNoZero"], unfollowed := true, recurses := true, named := ["wattle/list.gamma", "wattle/list.unary", "math/bits.divideError", "math/bits.overflowError"], apart := false, laid := [("wattle/list.gamma", laid_wattle_list_gamma), ("wattle/list.unary", laid_wattle_list_unary)], narrowed := true }
def BallSketchesUptoSaid : Prop := ballSketchesUptoRow.holds Tryz.pinned (OpenSpec.upto ballSketchesSpec)

/-- 'wattlelaw28.BallTaken', WHERE WHAT IT READS IS OF BULK AT MOST 1048576: true; the input reads as it did. -/
def ballTakenUptoRow : OpenClaim := { program := "ytgdkbagngobdlaagreatdoor", sum := "687cb8a6f864276c483bb427f686235a41921bb2017ba7965a0d958208b9fb03", func := "wattle/wattlelaw28.BallTaken", spec := "ballTaken", inPlace := ["internal/abi.NoEscape", "internal/bytealg.MakeNoZero"], unfollowed := true, recurses := true, named := ["wattle/list.gamma", "wattle/list.unary", "math/bits.divideError", "math/bits.overflowError"], apart := false, laid := [("wattle/list.gamma", laid_wattle_list_gamma), ("wattle/list.unary", laid_wattle_list_unary)], narrowed := true }
def BallTakenUptoSaid : Prop := ballTakenUptoRow.holds Tryz.pinned (OpenSpec.upto ballTakenSpec)

/-- 'wattlelaw28.BallPlays', WHERE WHAT IT READS IS OF BULK AT MOST 1048576: true; the input reads as it did. -/
def ballPlaysUptoRow : OpenClaim := { program := "ytgdkbagngobdlaagreatdoor", sum := "687cb8a6f864276c483bb427f686235a41921bb2017ba7965a0d958208b9fb03", func := "wattle/wattlelaw28.BallPlays", spec := "ballPlays", inPlace := ["internal/abi.NoEscape", "internal/bytealg.MakeNoZero"], unfollowed := true, recurses := true, named := ["wattle/list.gamma", "wattle/list.unary", "math/bits.divideError", "math/bits.overflowError"], apart := false, laid := [("wattle/list.gamma", laid_wattle_list_gamma), ("wattle/list.unary", laid_wattle_list_unary)], narrowed := true }
def BallPlaysUptoSaid : Prop := ballPlaysUptoRow.holds Tryz.pinned (OpenSpec.upto ballPlaysSpec)

end Rows
end Go.Proofs.YtgdkbagngobdlaaGreatDoor
