/-
  No cell of these rows narrows 'for every input' (looked for: loops, veiled, ifaces, maps, wideKeys, modest, calm, conditions, laid).
  DERIVED. THE GIVEN ROWS OF THIS SEAT. 9 by the template 'for every input the law returns true; each argument reads behind the call as it read before'; 0 by the template 'total and deterministic' (their statements: YtdapkfppcaaohaaTotals.lean).
  GIVEN WITH THE SEED: the statements are not yours to turn. If you find one false, say at which input.
  Laid BY PROGRAM, IN A SANDBOX (cutbox-rows.mjs): the forced cells as the released guide's own fill.sh prints them over the translation 2ff504aad352e95a… (all of the seat's roots in one cut). By AI agents, Wed Nov 11 2026. No macro, syntax, notation, axiom, sorry.
-/
import Derived.Test.YtdapkfppcaaohaaChecked
import GoSem.Claim
import GoSem.ClaimJoined
import GoSem.ClaimMapViews
import Derived.JoinedTies
import Derived.KernelRfl
namespace Go.Proofs.Ytdapkfppcaaohaa
/- THE CELL 'sum', in the pinned program and in every row, IS THE sha256 OF THE DUMP (.gsa) THAT YtdapkfppcaaohaaProg.lean LOADS. Nothing in Lean hashes anything: it is a label: what it is worth is what the hold of that sum in a sandbox is worth. -/
noncomputable def Try.pinned : Pinned := { name := "ytdapkfppcaaohaa", sum := "2ff504aad352e95a472f4038ff3dec63374ee8a3eccdab338da652a504f0ab92", checked := Try.checked }
namespace Rows
def none {H : Type} : Left H := { results := [], args := [] }

/-- 'wattlelaw03.SumsTold': WHATEVER THE INPUT: true; the input reads as it did. -/
def sumsToldSpec : ChangeSpec := { name := "sumsTold", fn := fun _ => fun
  | [d1, d2, d3] => { results := [.lit (.bool true)], args := [d1, d2, d3] }
  | _ => none }
def sumsToldRow : OpenClaim := { program := "ytdapkfppcaaohaa", sum := "2ff504aad352e95a472f4038ff3dec63374ee8a3eccdab338da652a504f0ab92", func := "wattle/wattlelaw03.SumsTold", spec := "sumsTold", unfollowed := true, recurses := true, apart := false }
def SumsToldSaid : Prop := sumsToldRow.holds Try.pinned (OpenSpec.ofChange sumsToldSpec)

/-- ITS FALSE NEIGHBOUR: 'it returns false'. Refute it at one input. -/
def sumsToldWrong : ChangeSpec := { name := "sumsTold", fn := fun _ => fun
  | [d1, d2, d3] => { results := [.lit (.bool false)], args := [d1, d2, d3] }
  | _ => none }
def SumsToldWrongFalsely : Prop := sumsToldRow.holds Try.pinned (OpenSpec.ofChange sumsToldWrong)

/-- 'wattlelaw03.SumsReads': WHATEVER THE INPUT: true; the input reads as it did. -/
def sumsReadsSpec : ChangeSpec := { name := "sumsReads", fn := fun _ => fun
  | [d1, d2, d3] => { results := [.lit (.bool true)], args := [d1, d2, d3] }
  | _ => none }
def sumsReadsRow : OpenClaim := { program := "ytdapkfppcaaohaa", sum := "2ff504aad352e95a472f4038ff3dec63374ee8a3eccdab338da652a504f0ab92", func := "wattle/wattlelaw03.SumsReads", spec := "sumsReads", unfollowed := true, recurses := true, apart := false }
def SumsReadsSaid : Prop := sumsReadsRow.holds Try.pinned (OpenSpec.ofChange sumsReadsSpec)

/-- ITS FALSE NEIGHBOUR: 'it returns false'. Refute it at one input. -/
def sumsReadsWrong : ChangeSpec := { name := "sumsReads", fn := fun _ => fun
  | [d1, d2, d3] => { results := [.lit (.bool false)], args := [d1, d2, d3] }
  | _ => none }
def SumsReadsWrongFalsely : Prop := sumsReadsRow.holds Try.pinned (OpenSpec.ofChange sumsReadsWrong)

/-- 'wattlelaw03.SumsGoes': WHATEVER THE INPUT: true; the input reads as it did. -/
def sumsGoesSpec : ChangeSpec := { name := "sumsGoes", fn := fun _ => fun
  | [d1, d2] => { results := [.lit (.bool true)], args := [d1, d2] }
  | _ => none }
def sumsGoesRow : OpenClaim := { program := "ytdapkfppcaaohaa", sum := "2ff504aad352e95a472f4038ff3dec63374ee8a3eccdab338da652a504f0ab92", func := "wattle/wattlelaw03.SumsGoes", spec := "sumsGoes", unfollowed := true, recurses := true, apart := false }
def SumsGoesSaid : Prop := sumsGoesRow.holds Try.pinned (OpenSpec.ofChange sumsGoesSpec)

/-- ITS FALSE NEIGHBOUR: 'it returns false'. Refute it at one input. -/
def sumsGoesWrong : ChangeSpec := { name := "sumsGoes", fn := fun _ => fun
  | [d1, d2] => { results := [.lit (.bool false)], args := [d1, d2] }
  | _ => none }
def SumsGoesWrongFalsely : Prop := sumsGoesRow.holds Try.pinned (OpenSpec.ofChange sumsGoesWrong)

/-- 'wattlelaw03.SumsNone': WHATEVER THE INPUT: true; the input reads as it did. -/
def sumsNoneSpec : ChangeSpec := { name := "sumsNone", fn := fun _ => fun
  | [] => { results := [.lit (.bool true)], args := [] }
  | _ => none }
def sumsNoneRow : OpenClaim := { program := "ytdapkfppcaaohaa", sum := "2ff504aad352e95a472f4038ff3dec63374ee8a3eccdab338da652a504f0ab92", func := "wattle/wattlelaw03.SumsNone", spec := "sumsNone", unfollowed := true, recurses := true, apart := false }
def SumsNoneSaid : Prop := sumsNoneRow.holds Try.pinned (OpenSpec.ofChange sumsNoneSpec)

/-- ITS FALSE NEIGHBOUR: 'it returns false'. Refute it at one input. -/
def sumsNoneWrong : ChangeSpec := { name := "sumsNone", fn := fun _ => fun
  | [] => { results := [.lit (.bool false)], args := [] }
  | _ => none }
def SumsNoneWrongFalsely : Prop := sumsNoneRow.holds Try.pinned (OpenSpec.ofChange sumsNoneWrong)

/-- 'wattlelaw04.DeviceNothingElse': WHATEVER THE INPUT: true; the input reads as it did. -/
def deviceNothingElseSpec : ChangeSpec := { name := "deviceNothingElse", fn := fun _ => fun
  | [d1, d2, d3, d4, d5] => { results := [.lit (.bool true)], args := [d1, d2, d3, d4, d5] }
  | _ => none }
def deviceNothingElseRow : OpenClaim := { program := "ytdapkfppcaaohaa", sum := "2ff504aad352e95a472f4038ff3dec63374ee8a3eccdab338da652a504f0ab92", func := "wattle/wattlelaw04.DeviceNothingElse", spec := "deviceNothingElse", unfollowed := true, recurses := true, apart := false }
def DeviceNothingElseSaid : Prop := deviceNothingElseRow.holds Try.pinned (OpenSpec.ofChange deviceNothingElseSpec)

/-- ITS FALSE NEIGHBOUR: 'it returns false'. Refute it at one input. -/
def deviceNothingElseWrong : ChangeSpec := { name := "deviceNothingElse", fn := fun _ => fun
  | [d1, d2, d3, d4, d5] => { results := [.lit (.bool false)], args := [d1, d2, d3, d4, d5] }
  | _ => none }
def DeviceNothingElseWrongFalsely : Prop := deviceNothingElseRow.holds Try.pinned (OpenSpec.ofChange deviceNothingElseWrong)

/-- 'wattlelaw04.DeviceSafe': WHATEVER THE INPUT: true; the input reads as it did. -/
def deviceSafeSpec : ChangeSpec := { name := "deviceSafe", fn := fun _ => fun
  | [d1, d2, d3, d4, d5] => { results := [.lit (.bool true)], args := [d1, d2, d3, d4, d5] }
  | _ => none }
def deviceSafeRow : OpenClaim := { program := "ytdapkfppcaaohaa", sum := "2ff504aad352e95a472f4038ff3dec63374ee8a3eccdab338da652a504f0ab92", func := "wattle/wattlelaw04.DeviceSafe", spec := "deviceSafe", inPlace := ["maps.clone"], unfollowed := true, recurses := true, apart := false }
def DeviceSafeSaid : Prop := deviceSafeRow.holds Try.pinned (OpenSpec.ofChange deviceSafeSpec)

/-- ITS FALSE NEIGHBOUR: 'it returns false'. Refute it at one input. -/
def deviceSafeWrong : ChangeSpec := { name := "deviceSafe", fn := fun _ => fun
  | [d1, d2, d3, d4, d5] => { results := [.lit (.bool false)], args := [d1, d2, d3, d4, d5] }
  | _ => none }
def DeviceSafeWrongFalsely : Prop := deviceSafeRow.holds Try.pinned (OpenSpec.ofChange deviceSafeWrong)

/-- 'wattlelaw04.DeviceTwins': WHATEVER THE INPUT: true; the input reads as it did. -/
def deviceTwinsSpec : ChangeSpec := { name := "deviceTwins", fn := fun _ => fun
  | [d1, d2, d3] => { results := [.lit (.bool true)], args := [d1, d2, d3] }
  | _ => none }
def deviceTwinsRow : OpenClaim := { program := "ytdapkfppcaaohaa", sum := "2ff504aad352e95a472f4038ff3dec63374ee8a3eccdab338da652a504f0ab92", func := "wattle/wattlelaw04.DeviceTwins", spec := "deviceTwins", inPlace := ["maps.clone"], unfollowed := true, recurses := true, apart := false }
def DeviceTwinsSaid : Prop := deviceTwinsRow.holds Try.pinned (OpenSpec.ofChange deviceTwinsSpec)

/-- ITS FALSE NEIGHBOUR: 'it returns false'. Refute it at one input. -/
def deviceTwinsWrong : ChangeSpec := { name := "deviceTwins", fn := fun _ => fun
  | [d1, d2, d3] => { results := [.lit (.bool false)], args := [d1, d2, d3] }
  | _ => none }
def DeviceTwinsWrongFalsely : Prop := deviceTwinsRow.holds Try.pinned (OpenSpec.ofChange deviceTwinsWrong)

/-- 'wattlelaw04.DevicePlays': WHATEVER THE INPUT: true; the input reads as it did. -/
def devicePlaysSpec : ChangeSpec := { name := "devicePlays", fn := fun _ => fun
  | [d1, d2, d3] => { results := [.lit (.bool true)], args := [d1, d2, d3] }
  | _ => none }
def devicePlaysRow : OpenClaim := { program := "ytdapkfppcaaohaa", sum := "2ff504aad352e95a472f4038ff3dec63374ee8a3eccdab338da652a504f0ab92", func := "wattle/wattlelaw04.DevicePlays", spec := "devicePlays", inPlace := ["maps.clone"], unfollowed := true, recurses := true, apart := false }
def DevicePlaysSaid : Prop := devicePlaysRow.holds Try.pinned (OpenSpec.ofChange devicePlaysSpec)

/-- ITS FALSE NEIGHBOUR: 'it returns false'. Refute it at one input. -/
def devicePlaysWrong : ChangeSpec := { name := "devicePlays", fn := fun _ => fun
  | [d1, d2, d3] => { results := [.lit (.bool false)], args := [d1, d2, d3] }
  | _ => none }
def DevicePlaysWrongFalsely : Prop := devicePlaysRow.holds Try.pinned (OpenSpec.ofChange devicePlaysWrong)

/-- 'wattlelaw04.DeviceNames': WHATEVER THE INPUT: true; the input reads as it did. -/
def deviceNamesSpec : ChangeSpec := { name := "deviceNames", fn := fun _ => fun
  | [] => { results := [.lit (.bool true)], args := [] }
  | _ => none }
def deviceNamesRow : OpenClaim := { program := "ytdapkfppcaaohaa", sum := "2ff504aad352e95a472f4038ff3dec63374ee8a3eccdab338da652a504f0ab92", func := "wattle/wattlelaw04.DeviceNames", spec := "deviceNames", inPlace := ["maps.clone"], unfollowed := true, recurses := true, apart := false }
def DeviceNamesSaid : Prop := deviceNamesRow.holds Try.pinned (OpenSpec.ofChange deviceNamesSpec)

/-- ITS FALSE NEIGHBOUR: 'it returns false'. Refute it at one input. -/
def deviceNamesWrong : ChangeSpec := { name := "deviceNames", fn := fun _ => fun
  | [] => { results := [.lit (.bool false)], args := [] }
  | _ => none }
def DeviceNamesWrongFalsely : Prop := deviceNamesRow.holds Try.pinned (OpenSpec.ofChange deviceNamesWrong)

/- THE SECOND FORM. 'bulk': how many values and letters a reading holds, each counted each time it is reached (what is shared counts as often as it is met; a slice's spare places count too). A statement '..UptoSaid' is the law's where the arguments, and the package variables that the reading takes, are together of bulk at most 1048576: NARROWER than '..Said'. Prove '..Said' where nothing that the law and all that it calls make is longer than what came in: it says more and counts as full. Else prove '..UptoSaid'. A law counts once. -/
mutual
def uptoBulk {H : Type} : DataW H → Nat
  | .lit (.string bytes) => bytes.length + 1
  | .lit _ => 1
  | .nil => 1
  | .ptr d => uptoBulk d + 1
  | .slice elems spare => uptoBulkAll elems + uptoBulkAll spare + 1
  | .agg parts => uptoBulkAll parts + 1
  | .iface _ d => uptoBulk d + 1
  | .map entries => uptoBulkEntries entries + 1
  | .held _ => 1
def uptoBulkAll {H : Type} : List (DataW H) → Nat
  | [] => 0
  | d :: r => uptoBulk d + uptoBulkAll r
def uptoBulkEntries {H : Type} : List (Lit × DataW H) → Nat
  | [] => 0
  | x :: r => uptoBulkEntry x + uptoBulkEntries r
def uptoBulkEntry {H : Type} : Lit × DataW H → Nat
  | (.string bytes, d) => bytes.length + uptoBulk d + 1
  | (_, d) => uptoBulk d + 1
 end
def uptoSmall : (H : Type) → List (DataW H) → Bool := fun _ ds => decide (uptoBulkAll ds ≤ 1048576)
def OpenSpec.upto (s : _root_.Go.ChangeSpec) : _root_.Go.OpenSpec := { _root_.Go.OpenSpec.ofChange s with cond := some uptoSmall }

/-- 'wattlelaw03.SumsTold', WHERE WHAT IT READS IS OF BULK AT MOST 1048576: true; the input reads as it did. -/
def sumsToldUptoRow : OpenClaim := { program := "ytdapkfppcaaohaa", sum := "2ff504aad352e95a472f4038ff3dec63374ee8a3eccdab338da652a504f0ab92", func := "wattle/wattlelaw03.SumsTold", spec := "sumsTold", unfollowed := true, recurses := true, apart := false, narrowed := true }
def SumsToldUptoSaid : Prop := sumsToldUptoRow.holds Try.pinned (OpenSpec.upto sumsToldSpec)

/-- 'wattlelaw03.SumsReads', WHERE WHAT IT READS IS OF BULK AT MOST 1048576: true; the input reads as it did. -/
def sumsReadsUptoRow : OpenClaim := { program := "ytdapkfppcaaohaa", sum := "2ff504aad352e95a472f4038ff3dec63374ee8a3eccdab338da652a504f0ab92", func := "wattle/wattlelaw03.SumsReads", spec := "sumsReads", unfollowed := true, recurses := true, apart := false, narrowed := true }
def SumsReadsUptoSaid : Prop := sumsReadsUptoRow.holds Try.pinned (OpenSpec.upto sumsReadsSpec)

/-- 'wattlelaw03.SumsGoes', WHERE WHAT IT READS IS OF BULK AT MOST 1048576: true; the input reads as it did. -/
def sumsGoesUptoRow : OpenClaim := { program := "ytdapkfppcaaohaa", sum := "2ff504aad352e95a472f4038ff3dec63374ee8a3eccdab338da652a504f0ab92", func := "wattle/wattlelaw03.SumsGoes", spec := "sumsGoes", unfollowed := true, recurses := true, apart := false, narrowed := true }
def SumsGoesUptoSaid : Prop := sumsGoesUptoRow.holds Try.pinned (OpenSpec.upto sumsGoesSpec)

/-- 'wattlelaw03.SumsNone', WHERE WHAT IT READS IS OF BULK AT MOST 1048576: true; the input reads as it did. -/
def sumsNoneUptoRow : OpenClaim := { program := "ytdapkfppcaaohaa", sum := "2ff504aad352e95a472f4038ff3dec63374ee8a3eccdab338da652a504f0ab92", func := "wattle/wattlelaw03.SumsNone", spec := "sumsNone", unfollowed := true, recurses := true, apart := false, narrowed := true }
def SumsNoneUptoSaid : Prop := sumsNoneUptoRow.holds Try.pinned (OpenSpec.upto sumsNoneSpec)

/-- 'wattlelaw04.DeviceNothingElse', WHERE WHAT IT READS IS OF BULK AT MOST 1048576: true; the input reads as it did. -/
def deviceNothingElseUptoRow : OpenClaim := { program := "ytdapkfppcaaohaa", sum := "2ff504aad352e95a472f4038ff3dec63374ee8a3eccdab338da652a504f0ab92", func := "wattle/wattlelaw04.DeviceNothingElse", spec := "deviceNothingElse", unfollowed := true, recurses := true, apart := false, narrowed := true }
def DeviceNothingElseUptoSaid : Prop := deviceNothingElseUptoRow.holds Try.pinned (OpenSpec.upto deviceNothingElseSpec)

/-- 'wattlelaw04.DeviceSafe', WHERE WHAT IT READS IS OF BULK AT MOST 1048576: true; the input reads as it did. -/
def deviceSafeUptoRow : OpenClaim := { program := "ytdapkfppcaaohaa", sum := "2ff504aad352e95a472f4038ff3dec63374ee8a3eccdab338da652a504f0ab92", func := "wattle/wattlelaw04.DeviceSafe", spec := "deviceSafe", inPlace := ["maps.clone"], unfollowed := true, recurses := true, apart := false, narrowed := true }
def DeviceSafeUptoSaid : Prop := deviceSafeUptoRow.holds Try.pinned (OpenSpec.upto deviceSafeSpec)

/-- 'wattlelaw04.DeviceTwins', WHERE WHAT IT READS IS OF BULK AT MOST 1048576: true; the input reads as it did. -/
def deviceTwinsUptoRow : OpenClaim := { program := "ytdapkfppcaaohaa", sum := "2ff504aad352e95a472f4038ff3dec63374ee8a3eccdab338da652a504f0ab92", func := "wattle/wattlelaw04.DeviceTwins", spec := "deviceTwins", inPlace := ["maps.clone"], unfollowed := true, recurses := true, apart := false, narrowed := true }
def DeviceTwinsUptoSaid : Prop := deviceTwinsUptoRow.holds Try.pinned (OpenSpec.upto deviceTwinsSpec)

/-- 'wattlelaw04.DevicePlays', WHERE WHAT IT READS IS OF BULK AT MOST 1048576: true; the input reads as it did. -/
def devicePlaysUptoRow : OpenClaim := { program := "ytdapkfppcaaohaa", sum := "2ff504aad352e95a472f4038ff3dec63374ee8a3eccdab338da652a504f0ab92", func := "wattle/wattlelaw04.DevicePlays", spec := "devicePlays", inPlace := ["maps.clone"], unfollowed := true, recurses := true, apart := false, narrowed := true }
def DevicePlaysUptoSaid : Prop := devicePlaysUptoRow.holds Try.pinned (OpenSpec.upto devicePlaysSpec)

/-- 'wattlelaw04.DeviceNames', WHERE WHAT IT READS IS OF BULK AT MOST 1048576: true; the input reads as it did. -/
def deviceNamesUptoRow : OpenClaim := { program := "ytdapkfppcaaohaa", sum := "2ff504aad352e95a472f4038ff3dec63374ee8a3eccdab338da652a504f0ab92", func := "wattle/wattlelaw04.DeviceNames", spec := "deviceNames", inPlace := ["maps.clone"], unfollowed := true, recurses := true, apart := false, narrowed := true }
def DeviceNamesUptoSaid : Prop := deviceNamesUptoRow.holds Try.pinned (OpenSpec.upto deviceNamesSpec)

end Rows
end Go.Proofs.Ytdapkfppcaaohaa
