/-
  No cell of these rows narrows 'for every input' (looked for: loops, veiled, ifaces, maps, wideKeys, modest, calm, conditions, laid).
  DERIVED. THE GIVEN ROWS OF THIS SEAT. 5 by the template 'for every input the law returns true; each argument reads behind the call as it read before'; 0 by the template 'total and deterministic' (their statements: YtocnhaoilnojmaaGreatTotals.lean).
  GIVEN WITH THE SEED: the statements are not yours to turn. If you find one false, say at which input.
  Laid BY PROGRAM, IN A SANDBOX (cutbox-rows.mjs): the forced cells as the released guide's own fill.sh prints them over the translation d8f3ae6dfec9ea9c… (all of the seat's roots in one cut). By AI agents, Wed Nov 11 2026. No macro, syntax, notation, axiom, sorry.
-/
import Derived.Test.YtocnhaoilnojmaaGreatChecked
import GoSem.Claim
import GoSem.ClaimJoined
import GoSem.ClaimMapViews
import Derived.JoinedTies
import Derived.KernelRfl
namespace Go.Proofs.YtocnhaoilnojmaaGreat
/- THE CELL 'sum', in the pinned program and in every row, IS THE sha256 OF THE DUMP (.gsa) THAT YtocnhaoilnojmaaGreatProg.lean LOADS. Nothing in Lean hashes anything: it is a label: what it is worth is what the hold of that sum in a sandbox is worth. -/
noncomputable def Tryz.pinned : Pinned := { name := "ytocnhaoilnojmaagreat", sum := "d8f3ae6dfec9ea9cd4e2c2c0613f9fc6f49d59c28766bc0423dc478ea2ed2a5f", checked := Tryz.checked }
namespace Rows
def none {H : Type} : Left H := { results := [], args := [] }

/-- 'wattlelaw08.TreeAlike': WHATEVER THE INPUT: true; the input reads as it did. -/
def treeAlikeSpec : ChangeSpec := { name := "treeAlike", fn := fun _ => fun
  | [d1, d2] => { results := [.lit (.bool true)], args := [d1, d2] }
  | _ => none }
def treeAlikeRow : OpenClaim := { program := "ytocnhaoilnojmaagreat", sum := "d8f3ae6dfec9ea9cd4e2c2c0613f9fc6f49d59c28766bc0423dc478ea2ed2a5f", func := "wattle/wattlelaw08.TreeAlike", spec := "treeAlike", inPlace := ["slices.overlaps[string]", "slices.overlaps[uint32]", "internal/abi.NoEscape", "internal/bytealg.MakeNoZero"], unfollowed := true, recurses := true, apart := false }
def TreeAlikeSaid : Prop := treeAlikeRow.holds Tryz.pinned (OpenSpec.ofChange treeAlikeSpec)

/-- ITS FALSE NEIGHBOUR: 'it returns false'. Refute it at one input. -/
def treeAlikeWrong : ChangeSpec := { name := "treeAlike", fn := fun _ => fun
  | [d1, d2] => { results := [.lit (.bool false)], args := [d1, d2] }
  | _ => none }
def TreeAlikeWrongFalsely : Prop := treeAlikeRow.holds Tryz.pinned (OpenSpec.ofChange treeAlikeWrong)

/-- 'wattlelaw08.TreeLoads': WHATEVER THE INPUT: true; the input reads as it did. -/
def treeLoadsSpec : ChangeSpec := { name := "treeLoads", fn := fun _ => fun
  | [d1, d2, d3] => { results := [.lit (.bool true)], args := [d1, d2, d3] }
  | _ => none }
def treeLoadsRow : OpenClaim := { program := "ytocnhaoilnojmaagreat", sum := "d8f3ae6dfec9ea9cd4e2c2c0613f9fc6f49d59c28766bc0423dc478ea2ed2a5f", func := "wattle/wattlelaw08.TreeLoads", spec := "treeLoads", inPlace := ["internal/abi.NoEscape", "internal/bytealg.MakeNoZero", "slices.overlaps[string]", "slices.overlaps[uint32]"], unfollowed := true, recurses := true, apart := false }
def TreeLoadsSaid : Prop := treeLoadsRow.holds Tryz.pinned (OpenSpec.ofChange treeLoadsSpec)

/-- ITS FALSE NEIGHBOUR: 'it returns false'. Refute it at one input. -/
def treeLoadsWrong : ChangeSpec := { name := "treeLoads", fn := fun _ => fun
  | [d1, d2, d3] => { results := [.lit (.bool false)], args := [d1, d2, d3] }
  | _ => none }
def TreeLoadsWrongFalsely : Prop := treeLoadsRow.holds Tryz.pinned (OpenSpec.ofChange treeLoadsWrong)

/-- 'wattlelaw08.TreePlays': WHATEVER THE INPUT: true; the input reads as it did. -/
def treePlaysSpec : ChangeSpec := { name := "treePlays", fn := fun _ => fun
  | [d1, d2] => { results := [.lit (.bool true)], args := [d1, d2] }
  | _ => none }
def treePlaysRow : OpenClaim := { program := "ytocnhaoilnojmaagreat", sum := "d8f3ae6dfec9ea9cd4e2c2c0613f9fc6f49d59c28766bc0423dc478ea2ed2a5f", func := "wattle/wattlelaw08.TreePlays", spec := "treePlays", inPlace := ["slices.overlaps[string]", "slices.overlaps[uint32]", "internal/abi.NoEscape", "internal/bytealg.MakeNoZero"], unfollowed := true, recurses := true, apart := false }
def TreePlaysSaid : Prop := treePlaysRow.holds Tryz.pinned (OpenSpec.ofChange treePlaysSpec)

/-- ITS FALSE NEIGHBOUR: 'it returns false'. Refute it at one input. -/
def treePlaysWrong : ChangeSpec := { name := "treePlays", fn := fun _ => fun
  | [d1, d2] => { results := [.lit (.bool false)], args := [d1, d2] }
  | _ => none }
def TreePlaysWrongFalsely : Prop := treePlaysRow.holds Tryz.pinned (OpenSpec.ofChange treePlaysWrong)

/-- 'wattlelaw08.TreeShape': WHATEVER THE INPUT: true; the input reads as it did. -/
def treeShapeSpec : ChangeSpec := { name := "treeShape", fn := fun _ => fun
  | [d1, d2] => { results := [.lit (.bool true)], args := [d1, d2] }
  | _ => none }
def treeShapeRow : OpenClaim := { program := "ytocnhaoilnojmaagreat", sum := "d8f3ae6dfec9ea9cd4e2c2c0613f9fc6f49d59c28766bc0423dc478ea2ed2a5f", func := "wattle/wattlelaw08.TreeShape", spec := "treeShape", inPlace := ["slices.overlaps[string]", "slices.overlaps[uint32]", "internal/abi.NoEscape", "internal/bytealg.MakeNoZero"], unfollowed := true, recurses := true, apart := false }
def TreeShapeSaid : Prop := treeShapeRow.holds Tryz.pinned (OpenSpec.ofChange treeShapeSpec)

/-- ITS FALSE NEIGHBOUR: 'it returns false'. Refute it at one input. -/
def treeShapeWrong : ChangeSpec := { name := "treeShape", fn := fun _ => fun
  | [d1, d2] => { results := [.lit (.bool false)], args := [d1, d2] }
  | _ => none }
def TreeShapeWrongFalsely : Prop := treeShapeRow.holds Tryz.pinned (OpenSpec.ofChange treeShapeWrong)

/-- 'wattlelaw08.TreeStores': WHATEVER THE INPUT: true; the input reads as it did. -/
def treeStoresSpec : ChangeSpec := { name := "treeStores", fn := fun _ => fun
  | [d] => { results := [.lit (.bool true)], args := [d] }
  | _ => none }
def treeStoresRow : OpenClaim := { program := "ytocnhaoilnojmaagreat", sum := "d8f3ae6dfec9ea9cd4e2c2c0613f9fc6f49d59c28766bc0423dc478ea2ed2a5f", func := "wattle/wattlelaw08.TreeStores", spec := "treeStores", inPlace := ["slices.overlaps[string]", "slices.overlaps[uint32]", "internal/abi.NoEscape", "internal/bytealg.MakeNoZero"], unfollowed := true, recurses := true, apart := false }
def TreeStoresSaid : Prop := treeStoresRow.holds Tryz.pinned (OpenSpec.ofChange treeStoresSpec)

/-- ITS FALSE NEIGHBOUR: 'it returns false'. Refute it at one input. -/
def treeStoresWrong : ChangeSpec := { name := "treeStores", fn := fun _ => fun
  | [d] => { results := [.lit (.bool false)], args := [d] }
  | _ => none }
def TreeStoresWrongFalsely : Prop := treeStoresRow.holds Tryz.pinned (OpenSpec.ofChange treeStoresWrong)

/- THE SECOND FORM. 'bulk': how many values and letters a reading holds, each counted each time it is reached (what is shared counts as often as it is met; a slice's spare places count too). A statement '..UptoSaid' is the law's where the arguments, and the package variables that the reading takes, are together of bulk at most 1048576: NARROWER than '..Said'. Prove '..Said' where nothing that the law and all that it calls make is longer than what came in: it says more and counts as full. Else prove '..UptoSaid'. A law counts once. -/
mutual
def uptoBulk {H : Type} : DataW H → Nat
  | .lit (.string bytes) => bytes.length + 1
  | .lit _ => 1
  | .nil => 1
  | .ptr d => uptoBulk d + 1
  | .slice elems spare => uptoBulkAll elems + uptoBulkAll spare + 1
  | .agg parts => uptoBulkAll parts + 1
  | .iface _ d => uptoBulk d + 1
  | .map entries => uptoBulkEntries entries + 1
  | .held _ => 1
def uptoBulkAll {H : Type} : List (DataW H) → Nat
  | [] => 0
  | d :: r => uptoBulk d + uptoBulkAll r
def uptoBulkEntries {H : Type} : List (Lit × DataW H) → Nat
  | [] => 0
  | x :: r => uptoBulkEntry x + uptoBulkEntries r
def uptoBulkEntry {H : Type} : Lit × DataW H → Nat
  | (.string bytes, d) => bytes.length + uptoBulk d + 1
  | (_, d) => uptoBulk d + 1
 end
def uptoSmall : (H : Type) → List (DataW H) → Bool := fun _ ds => decide (uptoBulkAll ds ≤ 1048576)
def OpenSpec.upto (s : _root_.Go.ChangeSpec) : _root_.Go.OpenSpec := { _root_.Go.OpenSpec.ofChange s with cond := some uptoSmall }

/-- 'wattlelaw08.TreeAlike', WHERE WHAT IT READS IS OF BULK AT MOST 1048576: true; the input reads as it did. -/
def treeAlikeUptoRow : OpenClaim := { program := "ytocnhaoilnojmaagreat", sum := "d8f3ae6dfec9ea9cd4e2c2c0613f9fc6f49d59c28766bc0423dc478ea2ed2a5f", func := "wattle/wattlelaw08.TreeAlike", spec := "treeAlike", inPlace := ["slices.overlaps[string]", "slices.overlaps[uint32]", "internal/abi.NoEscape", "internal/bytealg.MakeNoZero"], unfollowed := true, recurses := true, apart := false, narrowed := true }
def TreeAlikeUptoSaid : Prop := treeAlikeUptoRow.holds Tryz.pinned (OpenSpec.upto treeAlikeSpec)

/-- 'wattlelaw08.TreeLoads', WHERE WHAT IT READS IS OF BULK AT MOST 1048576: true; the input reads as it did. -/
def treeLoadsUptoRow : OpenClaim := { program := "ytocnhaoilnojmaagreat", sum := "d8f3ae6dfec9ea9cd4e2c2c0613f9fc6f49d59c28766bc0423dc478ea2ed2a5f", func := "wattle/wattlelaw08.TreeLoads", spec := "treeLoads", inPlace := ["internal/abi.NoEscape", "internal/bytealg.MakeNoZero", "slices.overlaps[string]", "slices.overlaps[uint32]"], unfollowed := true, recurses := true, apart := false, narrowed := true }
def TreeLoadsUptoSaid : Prop := treeLoadsUptoRow.holds Tryz.pinned (OpenSpec.upto treeLoadsSpec)

/-- 'wattlelaw08.TreePlays', WHERE WHAT IT READS IS OF BULK AT MOST 1048576: true; the input reads as it did. -/
def treePlaysUptoRow : OpenClaim := { program := "ytocnhaoilnojmaagreat", sum := "d8f3ae6dfec9ea9cd4e2c2c0613f9fc6f49d59c28766bc0423dc478ea2ed2a5f", func := "wattle/wattlelaw08.TreePlays", spec := "treePlays", inPlace := ["slices.overlaps[string]", "slices.overlaps[uint32]", "internal/abi.NoEscape", "internal/bytealg.MakeNoZero"], unfollowed := true, recurses := true, apart := false, narrowed := true }
def TreePlaysUptoSaid : Prop := treePlaysUptoRow.holds Tryz.pinned (OpenSpec.upto treePlaysSpec)

/-- 'wattlelaw08.TreeShape', WHERE WHAT IT READS IS OF BULK AT MOST 1048576: true; the input reads as it did. -/
def treeShapeUptoRow : OpenClaim := { program := "ytocnhaoilnojmaagreat", sum := "d8f3ae6dfec9ea9cd4e2c2c0613f9fc6f49d59c28766bc0423dc478ea2ed2a5f", func := "wattle/wattlelaw08.TreeShape", spec := "treeShape", inPlace := ["slices.overlaps[string]", "slices.overlaps[uint32]", "internal/abi.NoEscape", "internal/bytealg.MakeNoZero"], unfollowed := true, recurses := true, apart := false, narrowed := true }
def TreeShapeUptoSaid : Prop := treeShapeUptoRow.holds Tryz.pinned (OpenSpec.upto treeShapeSpec)

/-- 'wattlelaw08.TreeStores', WHERE WHAT IT READS IS OF BULK AT MOST 1048576: true; the input reads as it did. -/
def treeStoresUptoRow : OpenClaim := { program := "ytocnhaoilnojmaagreat", sum := "d8f3ae6dfec9ea9cd4e2c2c0613f9fc6f49d59c28766bc0423dc478ea2ed2a5f", func := "wattle/wattlelaw08.TreeStores", spec := "treeStores", inPlace := ["slices.overlaps[string]", "slices.overlaps[uint32]", "internal/abi.NoEscape", "internal/bytealg.MakeNoZero"], unfollowed := true, recurses := true, apart := false, narrowed := true }
def TreeStoresUptoSaid : Prop := treeStoresUptoRow.holds Tryz.pinned (OpenSpec.upto treeStoresSpec)

end Rows
end Go.Proofs.YtocnhaoilnojmaaGreat
