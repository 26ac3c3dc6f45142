/- DomNames: its calls answer so: reckoned by the kernel; printed by a program of ours. -/
import Derived.Test.YtbbfibhllfiofaaGreatDoorDomNamesP1
import Derived.Test.YtbbfibhllfiofaaGreatDoorDomNamesP2
import Derived.Test.YtbbfibhllfiofaaGreatDoorDomNamesP3
import Derived.KernelRfl
namespace Go.Proofs.YtbbfibhllfiofaaGreatDoor
open Go
set_option linter.all false
set_option maxRecDepth 1000000
noncomputable def domNamesHk2 : Hook Tryz.prog 5 := mkHookM hkBase hkDef [domNamesM3, domNamesM4] hkBase_ok hkDef_ok (memos_cons domNamesM3_ok (memos_cons domNamesM4_ok memos_nil))
theorem domNamesM2_ok : MemoOK Tryz.prog 5 domNamesM2 := memo_ok (X := domNamesHk2) (n := 100000000) (by kernel_rfl)
noncomputable def domNamesHk22 : Hook Tryz.prog 5 := mkHookM hkBase hkDef [domNamesM23, domNamesM24, domNamesM25] hkBase_ok hkDef_ok (memos_cons domNamesM23_ok (memos_cons domNamesM24_ok (memos_cons domNamesM25_ok memos_nil)))
theorem domNamesM22_ok : MemoOK Tryz.prog 5 domNamesM22 := memo_ok (X := domNamesHk22) (n := 100000000) (by kernel_rfl)
end Go.Proofs.YtbbfibhllfiofaaGreatDoor
