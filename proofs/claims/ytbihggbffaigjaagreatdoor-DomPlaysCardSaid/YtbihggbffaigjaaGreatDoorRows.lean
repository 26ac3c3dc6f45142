/-
  NARROWER THAN 'FOR EVERY INPUT', by the rows' own cells (each row's printed sentence says how): DomThrough: laid · DomChain: laid · DomTaken: laid · DomPlays: laid · DomLoads: laid.
  DERIVED. THE GIVEN ROWS OF THIS SEAT. 5 by the template 'for every input the law returns true; each argument reads behind the call as it read before'; 0 by the template 'total and deterministic' (their statements: YtbihggbffaigjaaGreatDoorTotals.lean).
  GIVEN WITH THE SEED: the statements are not yours to turn. If you find one false, say at which input.
  Laid BY PROGRAM, IN A SANDBOX (cutbox-rows.mjs): the forced cells as the released guide's own fill.sh prints them over the translation 2be50662bb1bb776… (all of the seat's roots in one cut). By AI agents, Wed Nov 11 2026. No macro, syntax, notation, axiom, sorry.
-/
import Derived.Test.YtbihggbffaigjaaGreatDoorChecked
import GoSem.Claim
import GoSem.ClaimJoined
import GoSem.ClaimMapViews
import Derived.JoinedTies
import Derived.KernelRfl
namespace Go.Proofs.YtbihggbffaigjaaGreatDoor
/- THE CELL 'sum', in the pinned program and in every row, IS THE sha256 OF THE DUMP (.gsa) THAT YtbihggbffaigjaaGreatDoorProg.lean LOADS. Nothing in Lean hashes anything: it is a label: what it is worth is what the hold of that sum in a sandbox is worth. -/
noncomputable def Tryz.pinned : Pinned := { name := "ytbihggbffaigjaagreatdoor", sum := "2be50662bb1bb776c4d282154fa4f791cb8f526555a108ee9be5786b7bd10c3d", checked := Tryz.checked }
namespace Rows
def none {H : Type} : Left H := { results := [], args := [] }

/- WHAT THE LISTED PACKAGE-LEVEL VARIABLES READ AS WHEN THE CALL BEGINS. Each datum BY PROGRAM (the guide's laid-datum.mjs) off the statement by which the dump's own 'gosem.cut.vars' lays the variable. In a bare row this is a premise. The card (YtbihggbffaigjaaGreatDoorCards.lean) ties it to the program's text. -/
def laid_wattle_list_gamma {H : Type} : DataW H := .agg [.lit (.int .u8 1), .lit (.int .u64 0)]
def laid_wattle_list_unary {H : Type} : DataW H := .agg [.lit (.int .u8 0), .lit (.int .u64 0)]

/-- 'wattlelaw24.DomThrough': WHATEVER THE INPUT: true; the input reads as it did. -/
def domThroughSpec : ChangeSpec := { name := "domThrough", fn := fun _ => fun
  | [d1, d2, d3, d4, d5] => { results := [.lit (.bool true)], args := [d1, d2, d3, d4, d5] }
  | _ => none }
def domThroughRow : OpenClaim := { program := "ytbihggbffaigjaagreatdoor", sum := "2be50662bb1bb776c4d282154fa4f791cb8f526555a108ee9be5786b7bd10c3d", func := "wattle/wattlelaw24.DomThrough", spec := "domThrough", inPlace := ["internal/abi.NoEscape", "internal/bytealg.MakeNoZero"], unfollowed := true, recurses := true, named := ["wattle/list.gamma", "wattle/list.unary"], apart := false, laid := [("wattle/list.gamma", laid_wattle_list_gamma), ("wattle/list.unary", laid_wattle_list_unary)] }
def DomThroughSaid : Prop := domThroughRow.holds Tryz.pinned (OpenSpec.ofChange domThroughSpec)

/-- ITS FALSE NEIGHBOUR: 'it returns false'. Refute it at one input. -/
def domThroughWrong : ChangeSpec := { name := "domThrough", fn := fun _ => fun
  | [d1, d2, d3, d4, d5] => { results := [.lit (.bool false)], args := [d1, d2, d3, d4, d5] }
  | _ => none }
def DomThroughWrongFalsely : Prop := domThroughRow.holds Tryz.pinned (OpenSpec.ofChange domThroughWrong)

/-- 'wattlelaw24.DomChain': WHATEVER THE INPUT: true; the input reads as it did. -/
def domChainSpec : ChangeSpec := { name := "domChain", fn := fun _ => fun
  | [d1, d2, d3, d4, d5] => { results := [.lit (.bool true)], args := [d1, d2, d3, d4, d5] }
  | _ => none }
def domChainRow : OpenClaim := { program := "ytbihggbffaigjaagreatdoor", sum := "2be50662bb1bb776c4d282154fa4f791cb8f526555a108ee9be5786b7bd10c3d", func := "wattle/wattlelaw24.DomChain", spec := "domChain", inPlace := ["internal/abi.NoEscape", "internal/bytealg.MakeNoZero"], unfollowed := true, recurses := true, named := ["wattle/list.gamma", "wattle/list.unary"], apart := false, laid := [("wattle/list.gamma", laid_wattle_list_gamma), ("wattle/list.unary", laid_wattle_list_unary)] }
def DomChainSaid : Prop := domChainRow.holds Tryz.pinned (OpenSpec.ofChange domChainSpec)

/-- ITS FALSE NEIGHBOUR: 'it returns false'. Refute it at one input. -/
def domChainWrong : ChangeSpec := { name := "domChain", fn := fun _ => fun
  | [d1, d2, d3, d4, d5] => { results := [.lit (.bool false)], args := [d1, d2, d3, d4, d5] }
  | _ => none }
def DomChainWrongFalsely : Prop := domChainRow.holds Tryz.pinned (OpenSpec.ofChange domChainWrong)

/-- 'wattlelaw24.DomTaken': WHATEVER THE INPUT: true; the input reads as it did. -/
def domTakenSpec : ChangeSpec := { name := "domTaken", fn := fun _ => fun
  | [d1, d2, d3, d4] => { results := [.lit (.bool true)], args := [d1, d2, d3, d4] }
  | _ => none }
def domTakenRow : OpenClaim := { program := "ytbihggbffaigjaagreatdoor", sum := "2be50662bb1bb776c4d282154fa4f791cb8f526555a108ee9be5786b7bd10c3d", func := "wattle/wattlelaw24.DomTaken", spec := "domTaken", inPlace := ["internal/abi.NoEscape", "internal/bytealg.MakeNoZero"], unfollowed := true, recurses := true, named := ["wattle/list.gamma", "wattle/list.unary"], apart := false, laid := [("wattle/list.gamma", laid_wattle_list_gamma), ("wattle/list.unary", laid_wattle_list_unary)] }
def DomTakenSaid : Prop := domTakenRow.holds Tryz.pinned (OpenSpec.ofChange domTakenSpec)

/-- ITS FALSE NEIGHBOUR: 'it returns false'. Refute it at one input. -/
def domTakenWrong : ChangeSpec := { name := "domTaken", fn := fun _ => fun
  | [d1, d2, d3, d4] => { results := [.lit (.bool false)], args := [d1, d2, d3, d4] }
  | _ => none }
def DomTakenWrongFalsely : Prop := domTakenRow.holds Tryz.pinned (OpenSpec.ofChange domTakenWrong)

/-- 'wattlelaw24.DomPlays': WHATEVER THE INPUT: true; the input reads as it did. -/
def domPlaysSpec : ChangeSpec := { name := "domPlays", fn := fun _ => fun
  | [d1, d2, d3, d4, d5, d6] => { results := [.lit (.bool true)], args := [d1, d2, d3, d4, d5, d6] }
  | _ => none }
def domPlaysRow : OpenClaim := { program := "ytbihggbffaigjaagreatdoor", sum := "2be50662bb1bb776c4d282154fa4f791cb8f526555a108ee9be5786b7bd10c3d", func := "wattle/wattlelaw24.DomPlays", spec := "domPlays", inPlace := ["internal/abi.NoEscape", "internal/bytealg.MakeNoZero"], unfollowed := true, recurses := true, named := ["wattle/list.gamma", "wattle/list.unary"], apart := false, laid := [("wattle/list.gamma", laid_wattle_list_gamma), ("wattle/list.unary", laid_wattle_list_unary)] }
def DomPlaysSaid : Prop := domPlaysRow.holds Tryz.pinned (OpenSpec.ofChange domPlaysSpec)

/-- ITS FALSE NEIGHBOUR: 'it returns false'. Refute it at one input. -/
def domPlaysWrong : ChangeSpec := { name := "domPlays", fn := fun _ => fun
  | [d1, d2, d3, d4, d5, d6] => { results := [.lit (.bool false)], args := [d1, d2, d3, d4, d5, d6] }
  | _ => none }
def DomPlaysWrongFalsely : Prop := domPlaysRow.holds Tryz.pinned (OpenSpec.ofChange domPlaysWrong)

/-- 'wattlelaw24.DomLoads': WHATEVER THE INPUT: true; the input reads as it did. -/
def domLoadsSpec : ChangeSpec := { name := "domLoads", fn := fun _ => fun
  | [d1, d2, d3, d4, d5] => { results := [.lit (.bool true)], args := [d1, d2, d3, d4, d5] }
  | _ => none }
def domLoadsRow : OpenClaim := { program := "ytbihggbffaigjaagreatdoor", sum := "2be50662bb1bb776c4d282154fa4f791cb8f526555a108ee9be5786b7bd10c3d", func := "wattle/wattlelaw24.DomLoads", spec := "domLoads", inPlace := ["internal/abi.NoEscape", "internal/bytealg.MakeNoZero"], unfollowed := true, recurses := true, named := ["wattle/list.gamma", "wattle/list.unary"], apart := false, laid := [("wattle/list.gamma", laid_wattle_list_gamma), ("wattle/list.unary", laid_wattle_list_unary)] }
def DomLoadsSaid : Prop := domLoadsRow.holds Tryz.pinned (OpenSpec.ofChange domLoadsSpec)

/-- ITS FALSE NEIGHBOUR: 'it returns false'. Refute it at one input. -/
def domLoadsWrong : ChangeSpec := { name := "domLoads", fn := fun _ => fun
  | [d1, d2, d3, d4, d5] => { results := [.lit (.bool false)], args := [d1, d2, d3, d4, d5] }
  | _ => none }
def DomLoadsWrongFalsely : Prop := domLoadsRow.holds Tryz.pinned (OpenSpec.ofChange domLoadsWrong)

/- THE SECOND FORM. 'bulk': how many values and letters a reading holds, each counted each time it is reached (what is shared counts as often as it is met; a slice's spare places count too). A statement '..UptoSaid' is the law's where the arguments, and the package variables that the reading takes, are together of bulk at most 1048576: NARROWER than '..Said'. Prove '..Said' where nothing that the law and all that it calls make is longer than what came in: it says more and counts as full. Else prove '..UptoSaid'. A law counts once. -/
mutual
def uptoBulk {H : Type} : DataW H → Nat
  | .lit (.string bytes) => bytes.length + 1
  | .lit _ => 1
  | .nil => 1
  | .ptr d => uptoBulk d + 1
  | .slice elems spare => uptoBulkAll elems + uptoBulkAll spare + 1
  | .agg parts => uptoBulkAll parts + 1
  | .iface _ d => uptoBulk d + 1
  | .map entries => uptoBulkEntries entries + 1
  | .held _ => 1
def uptoBulkAll {H : Type} : List (DataW H) → Nat
  | [] => 0
  | d :: r => uptoBulk d + uptoBulkAll r
def uptoBulkEntries {H : Type} : List (Lit × DataW H) → Nat
  | [] => 0
  | x :: r => uptoBulkEntry x + uptoBulkEntries r
def uptoBulkEntry {H : Type} : Lit × DataW H → Nat
  | (.string bytes, d) => bytes.length + uptoBulk d + 1
  | (_, d) => uptoBulk d + 1
 end
def uptoSmall : (H : Type) → List (DataW H) → Bool := fun _ ds => decide (uptoBulkAll ds ≤ 1048576)
def OpenSpec.upto (s : _root_.Go.ChangeSpec) : _root_.Go.OpenSpec := { _root_.Go.OpenSpec.ofChange s with cond := some uptoSmall }

/-- 'wattlelaw24.DomThrough', WHERE WHAT IT READS IS OF BULK AT MOST 1048576: true; the input reads as it did. -/
def domThroughUptoRow : OpenClaim := { program := "ytbihggbffaigjaagreatdoor", sum := "2be50662bb1bb776c4d282154fa4f791cb8f526555a108ee9be5786b7bd10c3d", func := "wattle/wattlelaw24.DomThrough", spec := "domThrough", inPlace := ["internal/abi.NoEscape", "internal/bytealg.MakeNoZero"], unfollowed := true, recurses := true, named := ["wattle/list.gamma", "wattle/list.unary"], apart := false, laid := [("wattle/list.gamma", laid_wattle_list_gamma), ("wattle/list.unary", laid_wattle_list_unary)], narrowed := true }
def DomThroughUptoSaid : Prop := domThroughUptoRow.holds Tryz.pinned (OpenSpec.upto domThroughSpec)

/-- 'wattlelaw24.DomChain', WHERE WHAT IT READS IS OF BULK AT MOST 1048576: true; the input reads as it did. -/
def domChainUptoRow : OpenClaim := { program := "ytbihggbffaigjaagreatdoor", sum := "2be50662bb1bb776c4d282154fa4f791cb8f526555a108ee9be5786b7bd10c3d", func := "wattle/wattlelaw24.DomChain", spec := "domChain", inPlace := ["internal/abi.NoEscape", "internal/bytealg.MakeNoZero"], unfollowed := true, recurses := true, named := ["wattle/list.gamma", "wattle/list.unary"], apart := false, laid := [("wattle/list.gamma", laid_wattle_list_gamma), ("wattle/list.unary", laid_wattle_list_unary)], narrowed := true }
def DomChainUptoSaid : Prop := domChainUptoRow.holds Tryz.pinned (OpenSpec.upto domChainSpec)

/-- 'wattlelaw24.DomTaken', WHERE WHAT IT READS IS OF BULK AT MOST 1048576: true; the input reads as it did. -/
def domTakenUptoRow : OpenClaim := { program := "ytbihggbffaigjaagreatdoor", sum := "2be50662bb1bb776c4d282154fa4f791cb8f526555a108ee9be5786b7bd10c3d", func := "wattle/wattlelaw24.DomTaken", spec := "domTaken", inPlace := ["internal/abi.NoEscape", "internal/bytealg.MakeNoZero"], unfollowed := true, recurses := true, named := ["wattle/list.gamma", "wattle/list.unary"], apart := false, laid := [("wattle/list.gamma", laid_wattle_list_gamma), ("wattle/list.unary", laid_wattle_list_unary)], narrowed := true }
def DomTakenUptoSaid : Prop := domTakenUptoRow.holds Tryz.pinned (OpenSpec.upto domTakenSpec)

/-- 'wattlelaw24.DomPlays', WHERE WHAT IT READS IS OF BULK AT MOST 1048576: true; the input reads as it did. -/
def domPlaysUptoRow : OpenClaim := { program := "ytbihggbffaigjaagreatdoor", sum := "2be50662bb1bb776c4d282154fa4f791cb8f526555a108ee9be5786b7bd10c3d", func := "wattle/wattlelaw24.DomPlays", spec := "domPlays", inPlace := ["internal/abi.NoEscape", "internal/bytealg.MakeNoZero"], unfollowed := true, recurses := true, named := ["wattle/list.gamma", "wattle/list.unary"], apart := false, laid := [("wattle/list.gamma", laid_wattle_list_gamma), ("wattle/list.unary", laid_wattle_list_unary)], narrowed := true }
def DomPlaysUptoSaid : Prop := domPlaysUptoRow.holds Tryz.pinned (OpenSpec.upto domPlaysSpec)

/-- 'wattlelaw24.DomLoads', WHERE WHAT IT READS IS OF BULK AT MOST 1048576: true; the input reads as it did. -/
def domLoadsUptoRow : OpenClaim := { program := "ytbihggbffaigjaagreatdoor", sum := "2be50662bb1bb776c4d282154fa4f791cb8f526555a108ee9be5786b7bd10c3d", func := "wattle/wattlelaw24.DomLoads", spec := "domLoads", inPlace := ["internal/abi.NoEscape", "internal/bytealg.MakeNoZero"], unfollowed := true, recurses := true, named := ["wattle/list.gamma", "wattle/list.unary"], apart := false, laid := [("wattle/list.gamma", laid_wattle_list_gamma), ("wattle/list.unary", laid_wattle_list_unary)], narrowed := true }
def DomLoadsUptoSaid : Prop := domLoadsUptoRow.holds Tryz.pinned (OpenSpec.upto domLoadsSpec)

end Rows
end Go.Proofs.YtbihggbffaigjaaGreatDoor
