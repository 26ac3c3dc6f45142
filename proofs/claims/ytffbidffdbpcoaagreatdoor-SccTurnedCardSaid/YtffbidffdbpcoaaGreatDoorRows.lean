/-
  NARROWER THAN 'FOR EVERY INPUT', by the rows' own cells (each row's printed sentence says how): SccMutual: laid · SccTurned: laid · SccTaken: laid.
  DERIVED. THE GIVEN ROWS OF THIS SEAT. 3 by the template 'for every input the law returns true; each argument reads behind the call as it read before'; 0 by the template 'total and deterministic' (their statements: YtffbidffdbpcoaaGreatDoorTotals.lean).
  GIVEN WITH THE SEED: the statements are not yours to turn. If you find one false, say at which input.
  Laid BY PROGRAM, IN A SANDBOX (cutbox-rows.mjs): the forced cells as the released guide's own fill.sh prints them over the translation aafe7d05ad5dfe8c… (all of the seat's roots in one cut). By AI agents, Wed Nov 11 2026. No macro, syntax, notation, axiom, sorry.
-/
import Derived.Test.YtffbidffdbpcoaaGreatDoorChecked
import GoSem.Claim
import GoSem.ClaimJoined
import GoSem.ClaimMapViews
import Derived.JoinedTies
import Derived.KernelRfl
namespace Go.Proofs.YtffbidffdbpcoaaGreatDoor
/- THE CELL 'sum', in the pinned program and in every row, IS THE sha256 OF THE DUMP (.gsa) THAT YtffbidffdbpcoaaGreatDoorProg.lean LOADS. Nothing in Lean hashes anything: it is a label: what it is worth is what the hold of that sum in a sandbox is worth. -/
noncomputable def Tryz.pinned : Pinned := { name := "ytffbidffdbpcoaagreatdoor", sum := "aafe7d05ad5dfe8cfcbbd19915d523e647062db1f8a08aa79ab43dd41f7eb699", checked := Tryz.checked }
namespace Rows
def none {H : Type} : Left H := { results := [], args := [] }

/- WHAT THE LISTED PACKAGE-LEVEL VARIABLES READ AS WHEN THE CALL BEGINS. Each datum BY PROGRAM (the guide's laid-datum.mjs) off the statement by which the dump's own 'gosem.cut.vars' lays the variable. In a bare row this is a premise. The card (YtffbidffdbpcoaaGreatDoorCards.lean) ties it to the program's text. -/
def laid_wattle_list_gamma {H : Type} : DataW H := .agg [.lit (.int .u8 1), .lit (.int .u64 0)]
def laid_wattle_list_unary {H : Type} : DataW H := .agg [.lit (.int .u8 0), .lit (.int .u64 0)]

/-- 'wattlelaw23.SccMutual': WHATEVER THE INPUT: true; the input reads as it did. -/
def sccMutualSpec : ChangeSpec := { name := "sccMutual", fn := fun _ => fun
  | [d1, d2, d3, d4] => { results := [.lit (.bool true)], args := [d1, d2, d3, d4] }
  | _ => none }
def sccMutualRow : OpenClaim := { program := "ytffbidffdbpcoaagreatdoor", sum := "aafe7d05ad5dfe8cfcbbd19915d523e647062db1f8a08aa79ab43dd41f7eb699", func := "wattle/wattlelaw23.SccMutual", spec := "sccMutual", inPlace := ["internal/abi.NoEscape", "internal/bytealg.MakeNoZero"], unfollowed := true, recurses := true, named := ["wattle/list.gamma", "wattle/list.unary"], apart := false, laid := [("wattle/list.gamma", laid_wattle_list_gamma), ("wattle/list.unary", laid_wattle_list_unary)] }
def SccMutualSaid : Prop := sccMutualRow.holds Tryz.pinned (OpenSpec.ofChange sccMutualSpec)

/-- ITS FALSE NEIGHBOUR: 'it returns false'. Refute it at one input. -/
def sccMutualWrong : ChangeSpec := { name := "sccMutual", fn := fun _ => fun
  | [d1, d2, d3, d4] => { results := [.lit (.bool false)], args := [d1, d2, d3, d4] }
  | _ => none }
def SccMutualWrongFalsely : Prop := sccMutualRow.holds Tryz.pinned (OpenSpec.ofChange sccMutualWrong)

/-- 'wattlelaw23.SccTurned': WHATEVER THE INPUT: true; the input reads as it did. -/
def sccTurnedSpec : ChangeSpec := { name := "sccTurned", fn := fun _ => fun
  | [d1, d2, d3, d4] => { results := [.lit (.bool true)], args := [d1, d2, d3, d4] }
  | _ => none }
def sccTurnedRow : OpenClaim := { program := "ytffbidffdbpcoaagreatdoor", sum := "aafe7d05ad5dfe8cfcbbd19915d523e647062db1f8a08aa79ab43dd41f7eb699", func := "wattle/wattlelaw23.SccTurned", spec := "sccTurned", inPlace := ["internal/abi.NoEscape", "internal/bytealg.MakeNoZero"], unfollowed := true, recurses := true, named := ["wattle/list.gamma", "wattle/list.unary"], apart := false, laid := [("wattle/list.gamma", laid_wattle_list_gamma), ("wattle/list.unary", laid_wattle_list_unary)] }
def SccTurnedSaid : Prop := sccTurnedRow.holds Tryz.pinned (OpenSpec.ofChange sccTurnedSpec)

/-- ITS FALSE NEIGHBOUR: 'it returns false'. Refute it at one input. -/
def sccTurnedWrong : ChangeSpec := { name := "sccTurned", fn := fun _ => fun
  | [d1, d2, d3, d4] => { results := [.lit (.bool false)], args := [d1, d2, d3, d4] }
  | _ => none }
def SccTurnedWrongFalsely : Prop := sccTurnedRow.holds Tryz.pinned (OpenSpec.ofChange sccTurnedWrong)

/-- 'wattlelaw23.SccTaken': WHATEVER THE INPUT: true; the input reads as it did. -/
def sccTakenSpec : ChangeSpec := { name := "sccTaken", fn := fun _ => fun
  | [d1, d2, d3] => { results := [.lit (.bool true)], args := [d1, d2, d3] }
  | _ => none }
def sccTakenRow : OpenClaim := { program := "ytffbidffdbpcoaagreatdoor", sum := "aafe7d05ad5dfe8cfcbbd19915d523e647062db1f8a08aa79ab43dd41f7eb699", func := "wattle/wattlelaw23.SccTaken", spec := "sccTaken", inPlace := ["internal/abi.NoEscape", "internal/bytealg.MakeNoZero"], unfollowed := true, recurses := true, named := ["wattle/list.gamma", "wattle/list.unary"], apart := false, laid := [("wattle/list.gamma", laid_wattle_list_gamma), ("wattle/list.unary", laid_wattle_list_unary)] }
def SccTakenSaid : Prop := sccTakenRow.holds Tryz.pinned (OpenSpec.ofChange sccTakenSpec)

/-- ITS FALSE NEIGHBOUR: 'it returns false'. Refute it at one input. -/
def sccTakenWrong : ChangeSpec := { name := "sccTaken", fn := fun _ => fun
  | [d1, d2, d3] => { results := [.lit (.bool false)], args := [d1, d2, d3] }
  | _ => none }
def SccTakenWrongFalsely : Prop := sccTakenRow.holds Tryz.pinned (OpenSpec.ofChange sccTakenWrong)

/- THE SECOND FORM. 'bulk': how many values and letters a reading holds, each counted each time it is reached (what is shared counts as often as it is met; a slice's spare places count too). A statement '..UptoSaid' is the law's where the arguments, and the package variables that the reading takes, are together of bulk at most 1048576: NARROWER than '..Said'. Prove '..Said' where nothing that the law and all that it calls make is longer than what came in: it says more and counts as full. Else prove '..UptoSaid'. A law counts once. -/
mutual
def uptoBulk {H : Type} : DataW H → Nat
  | .lit (.string bytes) => bytes.length + 1
  | .lit _ => 1
  | .nil => 1
  | .ptr d => uptoBulk d + 1
  | .slice elems spare => uptoBulkAll elems + uptoBulkAll spare + 1
  | .agg parts => uptoBulkAll parts + 1
  | .iface _ d => uptoBulk d + 1
  | .map entries => uptoBulkEntries entries + 1
  | .held _ => 1
def uptoBulkAll {H : Type} : List (DataW H) → Nat
  | [] => 0
  | d :: r => uptoBulk d + uptoBulkAll r
def uptoBulkEntries {H : Type} : List (Lit × DataW H) → Nat
  | [] => 0
  | x :: r => uptoBulkEntry x + uptoBulkEntries r
def uptoBulkEntry {H : Type} : Lit × DataW H → Nat
  | (.string bytes, d) => bytes.length + uptoBulk d + 1
  | (_, d) => uptoBulk d + 1
 end
def uptoSmall : (H : Type) → List (DataW H) → Bool := fun _ ds => decide (uptoBulkAll ds ≤ 1048576)
def OpenSpec.upto (s : _root_.Go.ChangeSpec) : _root_.Go.OpenSpec := { _root_.Go.OpenSpec.ofChange s with cond := some uptoSmall }

/-- 'wattlelaw23.SccMutual', WHERE WHAT IT READS IS OF BULK AT MOST 1048576: true; the input reads as it did. -/
def sccMutualUptoRow : OpenClaim := { program := "ytffbidffdbpcoaagreatdoor", sum := "aafe7d05ad5dfe8cfcbbd19915d523e647062db1f8a08aa79ab43dd41f7eb699", func := "wattle/wattlelaw23.SccMutual", spec := "sccMutual", inPlace := ["internal/abi.NoEscape", "internal/bytealg.MakeNoZero"], unfollowed := true, recurses := true, named := ["wattle/list.gamma", "wattle/list.unary"], apart := false, laid := [("wattle/list.gamma", laid_wattle_list_gamma), ("wattle/list.unary", laid_wattle_list_unary)], narrowed := true }
def SccMutualUptoSaid : Prop := sccMutualUptoRow.holds Tryz.pinned (OpenSpec.upto sccMutualSpec)

/-- 'wattlelaw23.SccTurned', WHERE WHAT IT READS IS OF BULK AT MOST 1048576: true; the input reads as it did. -/
def sccTurnedUptoRow : OpenClaim := { program := "ytffbidffdbpcoaagreatdoor", sum := "aafe7d05ad5dfe8cfcbbd19915d523e647062db1f8a08aa79ab43dd41f7eb699", func := "wattle/wattlelaw23.SccTurned", spec := "sccTurned", inPlace := ["internal/abi.NoEscape", "internal/bytealg.MakeNoZero"], unfollowed := true, recurses := true, named := ["wattle/list.gamma", "wattle/list.unary"], apart := false, laid := [("wattle/list.gamma", laid_wattle_list_gamma), ("wattle/list.unary", laid_wattle_list_unary)], narrowed := true }
def SccTurnedUptoSaid : Prop := sccTurnedUptoRow.holds Tryz.pinned (OpenSpec.upto sccTurnedSpec)

/-- 'wattlelaw23.SccTaken', WHERE WHAT IT READS IS OF BULK AT MOST 1048576: true; the input reads as it did. -/
def sccTakenUptoRow : OpenClaim := { program := "ytffbidffdbpcoaagreatdoor", sum := "aafe7d05ad5dfe8cfcbbd19915d523e647062db1f8a08aa79ab43dd41f7eb699", func := "wattle/wattlelaw23.SccTaken", spec := "sccTaken", inPlace := ["internal/abi.NoEscape", "internal/bytealg.MakeNoZero"], unfollowed := true, recurses := true, named := ["wattle/list.gamma", "wattle/list.unary"], apart := false, laid := [("wattle/list.gamma", laid_wattle_list_gamma), ("wattle/list.unary", laid_wattle_list_unary)], narrowed := true }
def SccTakenUptoSaid : Prop := sccTakenUptoRow.holds Tryz.pinned (OpenSpec.upto sccTakenSpec)

end Rows
end Go.Proofs.YtffbidffdbpcoaaGreatDoor
