/- CoreNone: its calls answer so: reckoned by the kernel; printed by a program of ours. -/
import Derived.Test.YtbbfibhllfiofaaGreatDoorCoreNoneP1
import Derived.Test.YtbbfibhllfiofaaGreatDoorCoreNoneP2
import Derived.Test.YtbbfibhllfiofaaGreatDoorCoreNoneP3
import Derived.KernelRfl
namespace Go.Proofs.YtbbfibhllfiofaaGreatDoor
open Go
set_option linter.all false
set_option maxRecDepth 1000000
noncomputable def coreNoneHk10 : Hook Tryz.prog 5 := mkHookM hkBase hkDef [coreNoneM11] hkBase_ok hkDef_ok (memos_cons coreNoneM11_ok memos_nil)
theorem coreNoneM10_ok : MemoOK Tryz.prog 5 coreNoneM10 := memo_ok (X := coreNoneHk10) (n := 100000000) (by kernel_rfl)
end Go.Proofs.YtbbfibhllfiofaaGreatDoor
