/-
  NARROWER THAN 'FOR EVERY INPUT', by the rows' own cells (each row's printed sentence says how): CoreNumbers: laid · CoreTaken: laid · CorePlays: laid.
  DERIVED. THE GIVEN ROWS OF THIS SEAT. 3 by the template 'for every input the law returns true; each argument reads behind the call as it read before'; 0 by the template 'total and deterministic' (their statements: YtfgjaafcgghnoaaGreatDoorTotals.lean).
  GIVEN WITH THE SEED: the statements are not yours to turn. If you find one false, say at which input.
  Laid BY PROGRAM, IN A SANDBOX (cutbox-rows.mjs): the forced cells as the released guide's own fill.sh prints them over the translation b2e6ff22466d420c… (all of the seat's roots in one cut). By AI agents, Wed Nov 11 2026. No macro, syntax, notation, axiom, sorry.
-/
import Derived.Test.YtfgjaafcgghnoaaGreatDoorChecked
import GoSem.Claim
import GoSem.ClaimJoined
import GoSem.ClaimMapViews
import Derived.JoinedTies
import Derived.KernelRfl
namespace Go.Proofs.YtfgjaafcgghnoaaGreatDoor
/- THE CELL 'sum', in the pinned program and in every row, IS THE sha256 OF THE DUMP (.gsa) THAT YtfgjaafcgghnoaaGreatDoorProg.lean LOADS. Nothing in Lean hashes anything: it is a label: what it is worth is what the hold of that sum in a sandbox is worth. -/
noncomputable def Tryz.pinned : Pinned := { name := "ytfgjaafcgghnoaagreatdoor", sum := "b2e6ff22466d420c5a776b66b053220a44adf4d4d47064d64a738178a871b49d", checked := Tryz.checked }
namespace Rows
def none {H : Type} : Left H := { results := [], args := [] }

/- WHAT THE LISTED PACKAGE-LEVEL VARIABLES READ AS WHEN THE CALL BEGINS. Each datum BY PROGRAM (the guide's laid-datum.mjs) off the statement by which the dump's own 'gosem.cut.vars' lays the variable. In a bare row this is a premise. The card (YtfgjaafcgghnoaaGreatDoorCards.lean) ties it to the program's text. -/
def laid_wattle_list_gamma {H : Type} : DataW H := .agg [.lit (.int .u8 1), .lit (.int .u64 0)]
def laid_wattle_list_unary {H : Type} : DataW H := .agg [.lit (.int .u8 0), .lit (.int .u64 0)]

/-- 'wattlelaw25.CoreNumbers': WHATEVER THE INPUT: true; the input reads as it did. -/
def coreNumbersSpec : ChangeSpec := { name := "coreNumbers", fn := fun _ => fun
  | [d] => { results := [.lit (.bool true)], args := [d] }
  | _ => none }
def coreNumbersRow : OpenClaim := { program := "ytfgjaafcgghnoaagreatdoor", sum := "b2e6ff22466d420c5a776b66b053220a44adf4d4d47064d64a738178a871b49d", func := "wattle/wattlelaw25.CoreNumbers", spec := "coreNumbers", inPlace := ["internal/abi.NoEscape", "internal/bytealg.MakeNoZero"], unfollowed := true, recurses := true, named := ["wattle/list.gamma", "wattle/list.unary"], apart := false, laid := [("wattle/list.gamma", laid_wattle_list_gamma), ("wattle/list.unary", laid_wattle_list_unary)] }
def CoreNumbersSaid : Prop := coreNumbersRow.holds Tryz.pinned (OpenSpec.ofChange coreNumbersSpec)

/-- ITS FALSE NEIGHBOUR: 'it returns false'. Refute it at one input. -/
def coreNumbersWrong : ChangeSpec := { name := "coreNumbers", fn := fun _ => fun
  | [d] => { results := [.lit (.bool false)], args := [d] }
  | _ => none }
def CoreNumbersWrongFalsely : Prop := coreNumbersRow.holds Tryz.pinned (OpenSpec.ofChange coreNumbersWrong)

/-- 'wattlelaw25.CoreTaken': WHATEVER THE INPUT: true; the input reads as it did. -/
def coreTakenSpec : ChangeSpec := { name := "coreTaken", fn := fun _ => fun
  | [d1, d2] => { results := [.lit (.bool true)], args := [d1, d2] }
  | _ => none }
def coreTakenRow : OpenClaim := { program := "ytfgjaafcgghnoaagreatdoor", sum := "b2e6ff22466d420c5a776b66b053220a44adf4d4d47064d64a738178a871b49d", func := "wattle/wattlelaw25.CoreTaken", spec := "coreTaken", inPlace := ["internal/abi.NoEscape", "internal/bytealg.MakeNoZero"], unfollowed := true, recurses := true, named := ["wattle/list.gamma", "wattle/list.unary"], apart := false, laid := [("wattle/list.gamma", laid_wattle_list_gamma), ("wattle/list.unary", laid_wattle_list_unary)] }
def CoreTakenSaid : Prop := coreTakenRow.holds Tryz.pinned (OpenSpec.ofChange coreTakenSpec)

/-- ITS FALSE NEIGHBOUR: 'it returns false'. Refute it at one input. -/
def coreTakenWrong : ChangeSpec := { name := "coreTaken", fn := fun _ => fun
  | [d1, d2] => { results := [.lit (.bool false)], args := [d1, d2] }
  | _ => none }
def CoreTakenWrongFalsely : Prop := coreTakenRow.holds Tryz.pinned (OpenSpec.ofChange coreTakenWrong)

/-- 'wattlelaw25.CorePlays': WHATEVER THE INPUT: true; the input reads as it did. -/
def corePlaysSpec : ChangeSpec := { name := "corePlays", fn := fun _ => fun
  | [d1, d2] => { results := [.lit (.bool true)], args := [d1, d2] }
  | _ => none }
def corePlaysRow : OpenClaim := { program := "ytfgjaafcgghnoaagreatdoor", sum := "b2e6ff22466d420c5a776b66b053220a44adf4d4d47064d64a738178a871b49d", func := "wattle/wattlelaw25.CorePlays", spec := "corePlays", inPlace := ["internal/abi.NoEscape", "internal/bytealg.MakeNoZero"], unfollowed := true, recurses := true, named := ["wattle/list.gamma", "wattle/list.unary"], apart := false, laid := [("wattle/list.gamma", laid_wattle_list_gamma), ("wattle/list.unary", laid_wattle_list_unary)] }
def CorePlaysSaid : Prop := corePlaysRow.holds Tryz.pinned (OpenSpec.ofChange corePlaysSpec)

/-- ITS FALSE NEIGHBOUR: 'it returns false'. Refute it at one input. -/
def corePlaysWrong : ChangeSpec := { name := "corePlays", fn := fun _ => fun
  | [d1, d2] => { results := [.lit (.bool false)], args := [d1, d2] }
  | _ => none }
def CorePlaysWrongFalsely : Prop := corePlaysRow.holds Tryz.pinned (OpenSpec.ofChange corePlaysWrong)

/- THE SECOND FORM. 'bulk': how many values and letters a reading holds, each counted each time it is reached (what is shared counts as often as it is met; a slice's spare places count too). A statement '..UptoSaid' is the law's where the arguments, and the package variables that the reading takes, are together of bulk at most 1048576: NARROWER than '..Said'. Prove '..Said' where nothing that the law and all that it calls make is longer than what came in: it says more and counts as full. Else prove '..UptoSaid'. A law counts once. -/
mutual
def uptoBulk {H : Type} : DataW H → Nat
  | .lit (.string bytes) => bytes.length + 1
  | .lit _ => 1
  | .nil => 1
  | .ptr d => uptoBulk d + 1
  | .slice elems spare => uptoBulkAll elems + uptoBulkAll spare + 1
  | .agg parts => uptoBulkAll parts + 1
  | .iface _ d => uptoBulk d + 1
  | .map entries => uptoBulkEntries entries + 1
  | .held _ => 1
def uptoBulkAll {H : Type} : List (DataW H) → Nat
  | [] => 0
  | d :: r => uptoBulk d + uptoBulkAll r
def uptoBulkEntries {H : Type} : List (Lit × DataW H) → Nat
  | [] => 0
  | x :: r => uptoBulkEntry x + uptoBulkEntries r
def uptoBulkEntry {H : Type} : Lit × DataW H → Nat
  | (.string bytes, d) => bytes.length + uptoBulk d + 1
  | (_, d) => uptoBulk d + 1
 end
def uptoSmall : (H : Type) → List (DataW H) → Bool := fun _ ds => decide (uptoBulkAll ds ≤ 1048576)
def OpenSpec.upto (s : _root_.Go.ChangeSpec) : _root_.Go.OpenSpec := { _root_.Go.OpenSpec.ofChange s with cond := some uptoSmall }

/-- 'wattlelaw25.CoreNumbers', WHERE WHAT IT READS IS OF BULK AT MOST 1048576: true; the input reads as it did. -/
def coreNumbersUptoRow : OpenClaim := { program := "ytfgjaafcgghnoaagreatdoor", sum := "b2e6ff22466d420c5a776b66b053220a44adf4d4d47064d64a738178a871b49d", func := "wattle/wattlelaw25.CoreNumbers", spec := "coreNumbers", inPlace := ["internal/abi.NoEscape", "internal/bytealg.MakeNoZero"], unfollowed := true, recurses := true, named := ["wattle/list.gamma", "wattle/list.unary"], apart := false, laid := [("wattle/list.gamma", laid_wattle_list_gamma), ("wattle/list.unary", laid_wattle_list_unary)], narrowed := true }
def CoreNumbersUptoSaid : Prop := coreNumbersUptoRow.holds Tryz.pinned (OpenSpec.upto coreNumbersSpec)

/-- 'wattlelaw25.CoreTaken', WHERE WHAT IT READS IS OF BULK AT MOST 1048576: true; the input reads as it did. -/
def coreTakenUptoRow : OpenClaim := { program := "ytfgjaafcgghnoaagreatdoor", sum := "b2e6ff22466d420c5a776b66b053220a44adf4d4d47064d64a738178a871b49d", func := "wattle/wattlelaw25.CoreTaken", spec := "coreTaken", inPlace := ["internal/abi.NoEscape", "internal/bytealg.MakeNoZero"], unfollowed := true, recurses := true, named := ["wattle/list.gamma", "wattle/list.unary"], apart := false, laid := [("wattle/list.gamma", laid_wattle_list_gamma), ("wattle/list.unary", laid_wattle_list_unary)], narrowed := true }
def CoreTakenUptoSaid : Prop := coreTakenUptoRow.holds Tryz.pinned (OpenSpec.upto coreTakenSpec)

/-- 'wattlelaw25.CorePlays', WHERE WHAT IT READS IS OF BULK AT MOST 1048576: true; the input reads as it did. -/
def corePlaysUptoRow : OpenClaim := { program := "ytfgjaafcgghnoaagreatdoor", sum := "b2e6ff22466d420c5a776b66b053220a44adf4d4d47064d64a738178a871b49d", func := "wattle/wattlelaw25.CorePlays", spec := "corePlays", inPlace := ["internal/abi.NoEscape", "internal/bytealg.MakeNoZero"], unfollowed := true, recurses := true, named := ["wattle/list.gamma", "wattle/list.unary"], apart := false, laid := [("wattle/list.gamma", laid_wattle_list_gamma), ("wattle/list.unary", laid_wattle_list_unary)], narrowed := true }
def CorePlaysUptoSaid : Prop := corePlaysUptoRow.holds Tryz.pinned (OpenSpec.upto corePlaysSpec)

end Rows
end Go.Proofs.YtfgjaafcgghnoaaGreatDoor
