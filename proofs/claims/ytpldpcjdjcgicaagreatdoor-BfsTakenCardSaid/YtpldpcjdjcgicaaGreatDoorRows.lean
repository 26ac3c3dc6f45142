/-
  NARROWER THAN 'FOR EVERY INPUT', by the rows' own cells (each row's printed sentence says how): BfsAlong: laid · BfsShortest: laid · BfsTaken: laid.
  DERIVED. THE GIVEN ROWS OF THIS SEAT. 3 by the template 'for every input the law returns true; each argument reads behind the call as it read before'; 0 by the template 'total and deterministic' (their statements: YtpldpcjdjcgicaaGreatDoorTotals.lean).
  GIVEN WITH THE SEED: the statements are not yours to turn. If you find one false, say at which input.
  Laid BY PROGRAM, IN A SANDBOX (cutbox-rows.mjs): the forced cells as the released guide's own fill.sh prints them over the translation f7b68444d09442d0… (all of the seat's roots in one cut). By AI agents, Wed Nov 11 2026. No macro, syntax, notation, axiom, sorry.
-/
import Derived.Test.YtpldpcjdjcgicaaGreatDoorChecked
import GoSem.Claim
import GoSem.ClaimJoined
import GoSem.ClaimMapViews
import Derived.JoinedTies
import Derived.KernelRfl
namespace Go.Proofs.YtpldpcjdjcgicaaGreatDoor
/- THE CELL 'sum', in the pinned program and in every row, IS THE sha256 OF THE DUMP (.gsa) THAT YtpldpcjdjcgicaaGreatDoorProg.lean LOADS. Nothing in Lean hashes anything: it is a label: what it is worth is what the hold of that sum in a sandbox is worth. -/
noncomputable def Tryz.pinned : Pinned := { name := "ytpldpcjdjcgicaagreatdoor", sum := "f7b68444d09442d0211c22a02375e18c5dba6060573034fad8daa22d4b6bef43", checked := Tryz.checked }
namespace Rows
def none {H : Type} : Left H := { results := [], args := [] }

/- WHAT THE LISTED PACKAGE-LEVEL VARIABLES READ AS WHEN THE CALL BEGINS. Each datum BY PROGRAM (the guide's laid-datum.mjs) off the statement by which the dump's own 'gosem.cut.vars' lays the variable. In a bare row this is a premise. The card (YtpldpcjdjcgicaaGreatDoorCards.lean) ties it to the program's text. -/
def laid_wattle_list_gamma {H : Type} : DataW H := .agg [.lit (.int .u8 1), .lit (.int .u64 0)]
def laid_wattle_list_unary {H : Type} : DataW H := .agg [.lit (.int .u8 0), .lit (.int .u64 0)]

/-- 'wattlelaw22.BfsAlong': WHATEVER THE INPUT: true; the input reads as it did. -/
def bfsAlongSpec : ChangeSpec := { name := "bfsAlong", fn := fun _ => fun
  | [d1, d2, d3, d4, d5] => { results := [.lit (.bool true)], args := [d1, d2, d3, d4, d5] }
  | _ => none }
def bfsAlongRow : OpenClaim := { program := "ytpldpcjdjcgicaagreatdoor", sum := "f7b68444d09442d0211c22a02375e18c5dba6060573034fad8daa22d4b6bef43", func := "wattle/wattlelaw22.BfsAlong", spec := "bfsAlong", inPlace := ["internal/abi.NoEscape", "internal/bytealg.MakeNoZero"], unfollowed := true, recurses := true, named := ["wattle/list.gamma", "wattle/list.unary"], apart := false, laid := [("wattle/list.gamma", laid_wattle_list_gamma), ("wattle/list.unary", laid_wattle_list_unary)] }
def BfsAlongSaid : Prop := bfsAlongRow.holds Tryz.pinned (OpenSpec.ofChange bfsAlongSpec)

/-- ITS FALSE NEIGHBOUR: 'it returns false'. Refute it at one input. -/
def bfsAlongWrong : ChangeSpec := { name := "bfsAlong", fn := fun _ => fun
  | [d1, d2, d3, d4, d5] => { results := [.lit (.bool false)], args := [d1, d2, d3, d4, d5] }
  | _ => none }
def BfsAlongWrongFalsely : Prop := bfsAlongRow.holds Tryz.pinned (OpenSpec.ofChange bfsAlongWrong)

/-- 'wattlelaw22.BfsShortest': WHATEVER THE INPUT: true; the input reads as it did. -/
def bfsShortestSpec : ChangeSpec := { name := "bfsShortest", fn := fun _ => fun
  | [d1, d2, d3, d4, d5] => { results := [.lit (.bool true)], args := [d1, d2, d3, d4, d5] }
  | _ => none }
def bfsShortestRow : OpenClaim := { program := "ytpldpcjdjcgicaagreatdoor", sum := "f7b68444d09442d0211c22a02375e18c5dba6060573034fad8daa22d4b6bef43", func := "wattle/wattlelaw22.BfsShortest", spec := "bfsShortest", inPlace := ["internal/abi.NoEscape", "internal/bytealg.MakeNoZero"], unfollowed := true, recurses := true, named := ["wattle/list.gamma", "wattle/list.unary"], apart := false, laid := [("wattle/list.gamma", laid_wattle_list_gamma), ("wattle/list.unary", laid_wattle_list_unary)] }
def BfsShortestSaid : Prop := bfsShortestRow.holds Tryz.pinned (OpenSpec.ofChange bfsShortestSpec)

/-- ITS FALSE NEIGHBOUR: 'it returns false'. Refute it at one input. -/
def bfsShortestWrong : ChangeSpec := { name := "bfsShortest", fn := fun _ => fun
  | [d1, d2, d3, d4, d5] => { results := [.lit (.bool false)], args := [d1, d2, d3, d4, d5] }
  | _ => none }
def BfsShortestWrongFalsely : Prop := bfsShortestRow.holds Tryz.pinned (OpenSpec.ofChange bfsShortestWrong)

/-- 'wattlelaw22.BfsTaken': WHATEVER THE INPUT: true; the input reads as it did. -/
def bfsTakenSpec : ChangeSpec := { name := "bfsTaken", fn := fun _ => fun
  | [d1, d2, d3, d4] => { results := [.lit (.bool true)], args := [d1, d2, d3, d4] }
  | _ => none }
def bfsTakenRow : OpenClaim := { program := "ytpldpcjdjcgicaagreatdoor", sum := "f7b68444d09442d0211c22a02375e18c5dba6060573034fad8daa22d4b6bef43", func := "wattle/wattlelaw22.BfsTaken", spec := "bfsTaken", inPlace := ["internal/abi.NoEscape", "internal/bytealg.MakeNoZero"], unfollowed := true, recurses := true, named := ["wattle/list.gamma", "wattle/list.unary"], apart := false, laid := [("wattle/list.gamma", laid_wattle_list_gamma), ("wattle/list.unary", laid_wattle_list_unary)] }
def BfsTakenSaid : Prop := bfsTakenRow.holds Tryz.pinned (OpenSpec.ofChange bfsTakenSpec)

/-- ITS FALSE NEIGHBOUR: 'it returns false'. Refute it at one input. -/
def bfsTakenWrong : ChangeSpec := { name := "bfsTaken", fn := fun _ => fun
  | [d1, d2, d3, d4] => { results := [.lit (.bool false)], args := [d1, d2, d3, d4] }
  | _ => none }
def BfsTakenWrongFalsely : Prop := bfsTakenRow.holds Tryz.pinned (OpenSpec.ofChange bfsTakenWrong)

/- THE SECOND FORM. 'bulk': how many values and letters a reading holds, each counted each time it is reached (what is shared counts as often as it is met; a slice's spare places count too). A statement '..UptoSaid' is the law's where the arguments, and the package variables that the reading takes, are together of bulk at most 1048576: NARROWER than '..Said'. Prove '..Said' where nothing that the law and all that it calls make is longer than what came in: it says more and counts as full. Else prove '..UptoSaid'. A law counts once. -/
mutual
def uptoBulk {H : Type} : DataW H → Nat
  | .lit (.string bytes) => bytes.length + 1
  | .lit _ => 1
  | .nil => 1
  | .ptr d => uptoBulk d + 1
  | .slice elems spare => uptoBulkAll elems + uptoBulkAll spare + 1
  | .agg parts => uptoBulkAll parts + 1
  | .iface _ d => uptoBulk d + 1
  | .map entries => uptoBulkEntries entries + 1
  | .held _ => 1
def uptoBulkAll {H : Type} : List (DataW H) → Nat
  | [] => 0
  | d :: r => uptoBulk d + uptoBulkAll r
def uptoBulkEntries {H : Type} : List (Lit × DataW H) → Nat
  | [] => 0
  | x :: r => uptoBulkEntry x + uptoBulkEntries r
def uptoBulkEntry {H : Type} : Lit × DataW H → Nat
  | (.string bytes, d) => bytes.length + uptoBulk d + 1
  | (_, d) => uptoBulk d + 1
 end
def uptoSmall : (H : Type) → List (DataW H) → Bool := fun _ ds => decide (uptoBulkAll ds ≤ 1048576)
def OpenSpec.upto (s : _root_.Go.ChangeSpec) : _root_.Go.OpenSpec := { _root_.Go.OpenSpec.ofChange s with cond := some uptoSmall }

/-- 'wattlelaw22.BfsAlong', WHERE WHAT IT READS IS OF BULK AT MOST 1048576: true; the input reads as it did. -/
def bfsAlongUptoRow : OpenClaim := { program := "ytpldpcjdjcgicaagreatdoor", sum := "f7b68444d09442d0211c22a02375e18c5dba6060573034fad8daa22d4b6bef43", func := "wattle/wattlelaw22.BfsAlong", spec := "bfsAlong", inPlace := ["internal/abi.NoEscape", "internal/bytealg.MakeNoZero"], unfollowed := true, recurses := true, named := ["wattle/list.gamma", "wattle/list.unary"], apart := false, laid := [("wattle/list.gamma", laid_wattle_list_gamma), ("wattle/list.unary", laid_wattle_list_unary)], narrowed := true }
def BfsAlongUptoSaid : Prop := bfsAlongUptoRow.holds Tryz.pinned (OpenSpec.upto bfsAlongSpec)

/-- 'wattlelaw22.BfsShortest', WHERE WHAT IT READS IS OF BULK AT MOST 1048576: true; the input reads as it did. -/
def bfsShortestUptoRow : OpenClaim := { program := "ytpldpcjdjcgicaagreatdoor", sum := "f7b68444d09442d0211c22a02375e18c5dba6060573034fad8daa22d4b6bef43", func := "wattle/wattlelaw22.BfsShortest", spec := "bfsShortest", inPlace := ["internal/abi.NoEscape", "internal/bytealg.MakeNoZero"], unfollowed := true, recurses := true, named := ["wattle/list.gamma", "wattle/list.unary"], apart := false, laid := [("wattle/list.gamma", laid_wattle_list_gamma), ("wattle/list.unary", laid_wattle_list_unary)], narrowed := true }
def BfsShortestUptoSaid : Prop := bfsShortestUptoRow.holds Tryz.pinned (OpenSpec.upto bfsShortestSpec)

/-- 'wattlelaw22.BfsTaken', WHERE WHAT IT READS IS OF BULK AT MOST 1048576: true; the input reads as it did. -/
def bfsTakenUptoRow : OpenClaim := { program := "ytpldpcjdjcgicaagreatdoor", sum := "f7b68444d09442d0211c22a02375e18c5dba6060573034fad8daa22d4b6bef43", func := "wattle/wattlelaw22.BfsTaken", spec := "bfsTaken", inPlace := ["internal/abi.NoEscape", "internal/bytealg.MakeNoZero"], unfollowed := true, recurses := true, named := ["wattle/list.gamma", "wattle/list.unary"], apart := false, laid := [("wattle/list.gamma", laid_wattle_list_gamma), ("wattle/list.unary", laid_wattle_list_unary)], narrowed := true }
def BfsTakenUptoSaid : Prop := bfsTakenUptoRow.holds Tryz.pinned (OpenSpec.upto bfsTakenSpec)

end Rows
end Go.Proofs.YtpldpcjdjcgicaaGreatDoor
