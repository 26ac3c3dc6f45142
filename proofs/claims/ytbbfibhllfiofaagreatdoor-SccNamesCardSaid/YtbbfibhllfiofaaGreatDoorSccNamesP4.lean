/- SccNames: its calls answer so: reckoned by the kernel; printed by a program of ours. -/
import Derived.Test.YtbbfibhllfiofaaGreatDoorSccNamesP1
import Derived.Test.YtbbfibhllfiofaaGreatDoorSccNamesP2
import Derived.Test.YtbbfibhllfiofaaGreatDoorSccNamesP3
import Derived.KernelRfl
namespace Go.Proofs.YtbbfibhllfiofaaGreatDoor
open Go
set_option linter.all false
set_option maxRecDepth 1000000
noncomputable def sccNamesHk6 : Hook Tryz.prog 5 := mkHookM hkBase hkDef [sccNamesM7] hkBase_ok hkDef_ok (memos_cons sccNamesM7_ok memos_nil)
theorem sccNamesM6_ok : MemoOK Tryz.prog 5 sccNamesM6 := memo_ok (X := sccNamesHk6) (n := 100000000) (by kernel_rfl)
noncomputable def sccNamesHk29 : Hook Tryz.prog 5 := mkHookM hkBase hkDef [sccNamesM30, sccNamesM31] hkBase_ok hkDef_ok (memos_cons sccNamesM30_ok (memos_cons sccNamesM31_ok memos_nil))
theorem sccNamesM29_ok : MemoOK Tryz.prog 5 sccNamesM29 := memo_ok (X := sccNamesHk29) (n := 100000000) (by kernel_rfl)
noncomputable def sccNamesHk36 : Hook Tryz.prog 5 := mkHookM hkBase hkDef [sccNamesM37] hkBase_ok hkDef_ok (memos_cons sccNamesM37_ok memos_nil)
theorem sccNamesM36_ok : MemoOK Tryz.prog 5 sccNamesM36 := memo_ok (X := sccNamesHk36) (n := 100000000) (by kernel_rfl)
end Go.Proofs.YtbbfibhllfiofaaGreatDoor
