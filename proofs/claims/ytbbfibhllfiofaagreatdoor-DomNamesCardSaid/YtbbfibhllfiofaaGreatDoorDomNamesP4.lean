/- DomNames: its calls answer so: reckoned by the kernel; printed by a program of ours. -/
import Derived.Test.YtbbfibhllfiofaaGreatDoorDomNamesP1
import Derived.Test.YtbbfibhllfiofaaGreatDoorDomNamesP2
import Derived.Test.YtbbfibhllfiofaaGreatDoorDomNamesP3
import Derived.KernelRfl
namespace Go.Proofs.YtbbfibhllfiofaaGreatDoor
open Go
set_option linter.all false
set_option maxRecDepth 1000000
noncomputable def domNamesHk6 : Hook Tryz.prog 5 := mkHookM hkBase hkDef [domNamesM7] hkBase_ok hkDef_ok (memos_cons domNamesM7_ok memos_nil)
theorem domNamesM6_ok : MemoOK Tryz.prog 5 domNamesM6 := memo_ok (X := domNamesHk6) (n := 100000000) (by kernel_rfl)
end Go.Proofs.YtbbfibhllfiofaaGreatDoor
