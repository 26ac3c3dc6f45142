/-
  NARROWER THAN 'FOR EVERY INPUT', by the rows' own cells (each row's printed sentence says how): BfsNames: laid · CoreNone: laid · DomNames: laid · SccNames: laid · BallNone: laid.
  DERIVED. THE GIVEN ROWS OF THIS SEAT. 5 by the template 'for every input the law returns true; each argument reads behind the call as it read before'; 0 by the template 'total and deterministic' (their statements: YtbbfibhllfiofaaGreatDoorTotals.lean).
  GIVEN WITH THE SEED: the statements are not yours to turn. If you find one false, say at which input.
  Laid BY PROGRAM, IN A SANDBOX (cutbox-rows.mjs): the forced cells as the released guide's own fill.sh prints them over the translation 0b0961b5cbeb82bf… (all of the seat's roots in one cut). By AI agents, Wed Nov 11 2026. No macro, syntax, notation, axiom, sorry.
-/
import Derived.Test.YtbbfibhllfiofaaGreatDoorChecked
import GoSem.Claim
import GoSem.ClaimJoined
import GoSem.ClaimMapViews
import Derived.JoinedTies
import Derived.KernelRfl
namespace Go.Proofs.YtbbfibhllfiofaaGreatDoor
/- THE CELL 'sum', in the pinned program and in every row, IS THE sha256 OF THE DUMP (.gsa) THAT YtbbfibhllfiofaaGreatDoorProg.lean LOADS. Nothing in Lean hashes anything: it is a label: what it is worth is what the hold of that sum in a sandbox is worth. -/
noncomputable def Tryz.pinned : Pinned := { name := "ytbbfibhllfiofaagreatdoor", sum := "0b0961b5cbeb82bf435bdf9ac51545df555ff2578e6ac1b5cc2231dac98b3d37", checked := Tryz.checked }
namespace Rows
def none {H : Type} : Left H := { results := [], args := [] }

/- WHAT THE LISTED PACKAGE-LEVEL VARIABLES READ AS WHEN THE CALL BEGINS. Each datum BY PROGRAM (the guide's laid-datum.mjs) off the statement by which the dump's own 'gosem.cut.vars' lays the variable. In a bare row this is a premise. The card (YtbbfibhllfiofaaGreatDoorCards.lean) ties it to the program's text. -/
def laid_wattle_list_gamma {H : Type} : DataW H := .agg [.lit (.int .u8 1), .lit (.int .u64 0)]
def laid_wattle_list_unary {H : Type} : DataW H := .agg [.lit (.int .u8 0), .lit (.int .u64 0)]

/-- 'wattlelaw22.BfsNames': WHATEVER THE INPUT: true; the input reads as it did. -/
def bfsNamesSpec : ChangeSpec := { name := "bfsNames", fn := fun _ => fun
  | [] => { results := [.lit (.bool true)], args := [] }
  | _ => none }
def bfsNamesRow : OpenClaim := { program := "ytbbfibhllfiofaagreatdoor", sum := "0b0961b5cbeb82bf435bdf9ac51545df555ff2578e6ac1b5cc2231dac98b3d37", func := "wattle/wattlelaw22.BfsNames", spec := "bfsNames", inPlace := ["internal/abi.NoEscape", "internal/bytealg.MakeNoZero"], unfollowed := true, recurses := true, named := ["wattle/list.gamma", "wattle/list.unary"], apart := false, laid := [("wattle/list.gamma", laid_wattle_list_gamma), ("wattle/list.unary", laid_wattle_list_unary)] }
def BfsNamesSaid : Prop := bfsNamesRow.holds Tryz.pinned (OpenSpec.ofChange bfsNamesSpec)

/-- ITS FALSE NEIGHBOUR: 'it returns false'. Refute it at one input. -/
def bfsNamesWrong : ChangeSpec := { name := "bfsNames", fn := fun _ => fun
  | [] => { results := [.lit (.bool false)], args := [] }
  | _ => none }
def BfsNamesWrongFalsely : Prop := bfsNamesRow.holds Tryz.pinned (OpenSpec.ofChange bfsNamesWrong)

/-- 'wattlelaw25.CoreNone': WHATEVER THE INPUT: true; the input reads as it did. -/
def coreNoneSpec : ChangeSpec := { name := "coreNone", fn := fun _ => fun
  | [] => { results := [.lit (.bool true)], args := [] }
  | _ => none }
def coreNoneRow : OpenClaim := { program := "ytbbfibhllfiofaagreatdoor", sum := "0b0961b5cbeb82bf435bdf9ac51545df555ff2578e6ac1b5cc2231dac98b3d37", func := "wattle/wattlelaw25.CoreNone", spec := "coreNone", inPlace := ["internal/abi.NoEscape", "internal/bytealg.MakeNoZero"], unfollowed := true, recurses := true, named := ["wattle/list.gamma", "wattle/list.unary"], apart := false, laid := [("wattle/list.gamma", laid_wattle_list_gamma), ("wattle/list.unary", laid_wattle_list_unary)] }
def CoreNoneSaid : Prop := coreNoneRow.holds Tryz.pinned (OpenSpec.ofChange coreNoneSpec)

/-- ITS FALSE NEIGHBOUR: 'it returns false'. Refute it at one input. -/
def coreNoneWrong : ChangeSpec := { name := "coreNone", fn := fun _ => fun
  | [] => { results := [.lit (.bool false)], args := [] }
  | _ => none }
def CoreNoneWrongFalsely : Prop := coreNoneRow.holds Tryz.pinned (OpenSpec.ofChange coreNoneWrong)

/-- 'wattlelaw24.DomNames': WHATEVER THE INPUT: true; the input reads as it did. -/
def domNamesSpec : ChangeSpec := { name := "domNames", fn := fun _ => fun
  | [] => { results := [.lit (.bool true)], args := [] }
  | _ => none }
def domNamesRow : OpenClaim := { program := "ytbbfibhllfiofaagreatdoor", sum := "0b0961b5cbeb82bf435bdf9ac51545df555ff2578e6ac1b5cc2231dac98b3d37", func := "wattle/wattlelaw24.DomNames", spec := "domNames", inPlace := ["internal/abi.NoEscape", "internal/bytealg.MakeNoZero"], unfollowed := true, recurses := true, named := ["wattle/list.gamma", "wattle/list.unary"], apart := false, laid := [("wattle/list.gamma", laid_wattle_list_gamma), ("wattle/list.unary", laid_wattle_list_unary)] }
def DomNamesSaid : Prop := domNamesRow.holds Tryz.pinned (OpenSpec.ofChange domNamesSpec)

/-- ITS FALSE NEIGHBOUR: 'it returns false'. Refute it at one input. -/
def domNamesWrong : ChangeSpec := { name := "domNames", fn := fun _ => fun
  | [] => { results := [.lit (.bool false)], args := [] }
  | _ => none }
def DomNamesWrongFalsely : Prop := domNamesRow.holds Tryz.pinned (OpenSpec.ofChange domNamesWrong)

/-- 'wattlelaw23.SccNames': WHATEVER THE INPUT: true; the input reads as it did. -/
def sccNamesSpec : ChangeSpec := { name := "sccNames", fn := fun _ => fun
  | [] => { results := [.lit (.bool true)], args := [] }
  | _ => none }
def sccNamesRow : OpenClaim := { program := "ytbbfibhllfiofaagreatdoor", sum := "0b0961b5cbeb82bf435bdf9ac51545df555ff2578e6ac1b5cc2231dac98b3d37", func := "wattle/wattlelaw23.SccNames", spec := "sccNames", inPlace := ["internal/abi.NoEscape", "internal/bytealg.MakeNoZero"], unfollowed := true, recurses := true, named := ["wattle/list.gamma", "wattle/list.unary"], apart := false, laid := [("wattle/list.gamma", laid_wattle_list_gamma), ("wattle/list.unary", laid_wattle_list_unary)] }
def SccNamesSaid : Prop := sccNamesRow.holds Tryz.pinned (OpenSpec.ofChange sccNamesSpec)

/-- ITS FALSE NEIGHBOUR: 'it returns false'. Refute it at one input. -/
def sccNamesWrong : ChangeSpec := { name := "sccNames", fn := fun _ => fun
  | [] => { results := [.lit (.bool false)], args := [] }
  | _ => none }
def SccNamesWrongFalsely : Prop := sccNamesRow.holds Tryz.pinned (OpenSpec.ofChange sccNamesWrong)

/-- 'wattlelaw28.BallNone': WHATEVER THE INPUT: true; the input reads as it did. -/
def ballNoneSpec : ChangeSpec := { name := "ballNone", fn := fun _ => fun
  | [] => { results := [.lit (.bool true)], args := [] }
  | _ => none }
def ballNoneRow : OpenClaim := { program := "ytbbfibhllfiofaagreatdoor", sum := "0b0961b5cbeb82bf435bdf9ac51545df555ff2578e6ac1b5cc2231dac98b3d37", func := "wattle/wattlelaw28.BallNone", spec := "ballNone", inPlace := ["internal/abi.NoEscape", "internal/bytealg.MakeNoZero"], unfollowed := true, recurses := true, named := ["wattle/list.gamma", "wattle/list.unary", "math/bits.divideError", "math/bits.overflowError"], apart := false, laid := [("wattle/list.gamma", laid_wattle_list_gamma), ("wattle/list.unary", laid_wattle_list_unary)] }
def BallNoneSaid : Prop := ballNoneRow.holds Tryz.pinned (OpenSpec.ofChange ballNoneSpec)

/-- ITS FALSE NEIGHBOUR: 'it returns false'. Refute it at one input. -/
def ballNoneWrong : ChangeSpec := { name := "ballNone", fn := fun _ => fun
  | [] => { results := [.lit (.bool false)], args := [] }
  | _ => none }
def BallNoneWrongFalsely : Prop := ballNoneRow.holds Tryz.pinned (OpenSpec.ofChange ballNoneWrong)

/- THE SECOND FORM. 'bulk': how many values and letters a reading holds, each counted each time it is reached (what is shared counts as often as it is met; a slice's spare places count too). A statement '..UptoSaid' is the law's where the arguments, and the package variables that the reading takes, are together of bulk at most 1048576: NARROWER than '..Said'. Prove '..Said' where nothing that the law and all that it calls make is longer than what came in: it says more and counts as full. Else prove '..UptoSaid'. A law counts once. -/
mutual
def uptoBulk {H : Type} : DataW H → Nat
  | .lit (.string bytes) => bytes.length + 1
  | .lit _ => 1
  | .nil => 1
  | .ptr d => uptoBulk d + 1
  | .slice elems spare => uptoBulkAll elems + uptoBulkAll spare + 1
  | .agg parts => uptoBulkAll parts + 1
  | .iface _ d => uptoBulk d + 1
  | .map entries => uptoBulkEntries entries + 1
  | .held _ => 1
def uptoBulkAll {H : Type} : List (DataW H) → Nat
  | [] => 0
  | d :: r => uptoBulk d + uptoBulkAll r
def uptoBulkEntries {H : Type} : List (Lit × DataW H) → Nat
  | [] => 0
  | x :: r => uptoBulkEntry x + uptoBulkEntries r
def uptoBulkEntry {H : Type} : Lit × DataW H → Nat
  | (.string bytes, d) => bytes.length + uptoBulk d + 1
  | (_, d) => uptoBulk d + 1
 end
def uptoSmall : (H : Type) → List (DataW H) → Bool := fun _ ds => decide (uptoBulkAll ds ≤ 1048576)
def OpenSpec.upto (s : _root_.Go.ChangeSpec) : _root_.Go.OpenSpec := { _root_.Go.OpenSpec.ofChange s with cond := some uptoSmall }

/-- 'wattlelaw22.BfsNames', WHERE WHAT IT READS IS OF BULK AT MOST 1048576: true; the input reads as it did. -/
def bfsNamesUptoRow : OpenClaim := { program := "ytbbfibhllfiofaagreatdoor", sum := "0b0961b5cbeb82bf435bdf9ac51545df555ff2578e6ac1b5cc2231dac98b3d37", func := "wattle/wattlelaw22.BfsNames", spec := "bfsNames", inPlace := ["internal/abi.NoEscape", "internal/bytealg.MakeNoZero"], unfollowed := true, recurses := true, named := ["wattle/list.gamma", "wattle/list.unary"], apart := false, laid := [("wattle/list.gamma", laid_wattle_list_gamma), ("wattle/list.unary", laid_wattle_list_unary)], narrowed := true }
def BfsNamesUptoSaid : Prop := bfsNamesUptoRow.holds Tryz.pinned (OpenSpec.upto bfsNamesSpec)

/-- 'wattlelaw25.CoreNone', WHERE WHAT IT READS IS OF BULK AT MOST 1048576: true; the input reads as it did. -/
def coreNoneUptoRow : OpenClaim := { program := "ytbbfibhllfiofaagreatdoor", sum := "0b0961b5cbeb82bf435bdf9ac51545df555ff2578e6ac1b5cc2231dac98b3d37", func := "wattle/wattlelaw25.CoreNone", spec := "coreNone", inPlace := ["internal/abi.NoEscape", "internal/bytealg.MakeNoZero"], unfollowed := true, recurses := true, named := ["wattle/list.gamma", "wattle/list.unary"], apart := false, laid := [("wattle/list.gamma", laid_wattle_list_gamma), ("wattle/list.unary", laid_wattle_list_unary)], narrowed := true }
def CoreNoneUptoSaid : Prop := coreNoneUptoRow.holds Tryz.pinned (OpenSpec.upto coreNoneSpec)

/-- 'wattlelaw24.DomNames', WHERE WHAT IT READS IS OF BULK AT MOST 1048576: true; the input reads as it did. -/
def domNamesUptoRow : OpenClaim := { program := "ytbbfibhllfiofaagreatdoor", sum := "0b0961b5cbeb82bf435bdf9ac51545df555ff2578e6ac1b5cc2231dac98b3d37", func := "wattle/wattlelaw24.DomNames", spec := "domNames", inPlace := ["internal/abi.NoEscape", "internal/bytealg.MakeNoZero"], unfollowed := true, recurses := true, named := ["wattle/list.gamma", "wattle/list.unary"], apart := false, laid := [("wattle/list.gamma", laid_wattle_list_gamma), ("wattle/list.unary", laid_wattle_list_unary)], narrowed := true }
def DomNamesUptoSaid : Prop := domNamesUptoRow.holds Tryz.pinned (OpenSpec.upto domNamesSpec)

/-- 'wattlelaw23.SccNames', WHERE WHAT IT READS IS OF BULK AT MOST 1048576: true; the input reads as it did. -/
def sccNamesUptoRow : OpenClaim := { program := "ytbbfibhllfiofaagreatdoor", sum := "0b0961b5cbeb82bf435bdf9ac51545df555ff2578e6ac1b5cc2231dac98b3d37", func := "wattle/wattlelaw23.SccNames", spec := "sccNames", inPlace := ["internal/abi.NoEscape", "internal/bytealg.MakeNoZero"], unfollowed := true, recurses := true, named := ["wattle/list.gamma", "wattle/list.unary"], apart := false, laid := [("wattle/list.gamma", laid_wattle_list_gamma), ("wattle/list.unary", laid_wattle_list_unary)], narrowed := true }
def SccNamesUptoSaid : Prop := sccNamesUptoRow.holds Tryz.pinned (OpenSpec.upto sccNamesSpec)

/-- 'wattlelaw28.BallNone', WHERE WHAT IT READS IS OF BULK AT MOST 1048576: true; the input reads as it did. -/
def ballNoneUptoRow : OpenClaim := { program := "ytbbfibhllfiofaagreatdoor", sum := "0b0961b5cbeb82bf435bdf9ac51545df555ff2578e6ac1b5cc2231dac98b3d37", func := "wattle/wattlelaw28.BallNone", spec := "ballNone", inPlace := ["internal/abi.NoEscape", "internal/bytealg.MakeNoZero"], unfollowed := true, recurses := true, named := ["wattle/list.gamma", "wattle/list.unary", "math/bits.divideError", "math/bits.overflowError"], apart := false, laid := [("wattle/list.gamma", laid_wattle_list_gamma), ("wattle/list.unary", laid_wattle_list_unary)], narrowed := true }
def BallNoneUptoSaid : Prop := ballNoneUptoRow.holds Tryz.pinned (OpenSpec.upto ballNoneSpec)

end Rows
end Go.Proofs.YtbbfibhllfiofaaGreatDoor
