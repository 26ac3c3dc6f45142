/- CoreNone: its calls answer so: reckoned by the kernel; printed by a program of ours. -/
import Derived.Test.YtbbfibhllfiofaaGreatDoorCoreNoneP1
import Derived.Test.YtbbfibhllfiofaaGreatDoorCoreNoneP2
import Derived.Test.YtbbfibhllfiofaaGreatDoorCoreNoneP3
import Derived.KernelRfl
namespace Go.Proofs.YtbbfibhllfiofaaGreatDoor
open Go
set_option linter.all false
set_option maxRecDepth 1000000
noncomputable def coreNoneHk0 : Hook Tryz.prog 5 := mkHookM hkBase hkDef [coreNoneM1] hkBase_ok hkDef_ok (memos_cons coreNoneM1_ok memos_nil)
theorem coreNoneM0_ok : MemoOK Tryz.prog 5 coreNoneM0 := memo_ok (X := coreNoneHk0) (n := 100000000) (by kernel_rfl)
end Go.Proofs.YtbbfibhllfiofaaGreatDoor
