/- CoreNone: its calls answer so: reckoned by the kernel; printed by a program of ours. -/
import Derived.Test.YtbbfibhllfiofaaGreatDoorCoreNoneP1
import Derived.Test.YtbbfibhllfiofaaGreatDoorCoreNoneP2
import Derived.Test.YtbbfibhllfiofaaGreatDoorCoreNoneP3
import Derived.KernelRfl
namespace Go.Proofs.YtbbfibhllfiofaaGreatDoor
open Go
set_option linter.all false
set_option maxRecDepth 1000000
noncomputable def coreNoneHk7 : Hook Tryz.prog 5 := mkHookM hkBase hkDef [coreNoneM8] hkBase_ok hkDef_ok (memos_cons coreNoneM8_ok memos_nil)
theorem coreNoneM7_ok : MemoOK Tryz.prog 5 coreNoneM7 := memo_ok (X := coreNoneHk7) (n := 100000000) (by kernel_rfl)
noncomputable def coreNoneHk13 : Hook Tryz.prog 5 := mkHookM hkBase hkDef [coreNoneM14, coreNoneM15] hkBase_ok hkDef_ok (memos_cons coreNoneM14_ok (memos_cons coreNoneM15_ok memos_nil))
theorem coreNoneM13_ok : MemoOK Tryz.prog 5 coreNoneM13 := memo_ok (X := coreNoneHk13) (n := 100000000) (by kernel_rfl)
end Go.Proofs.YtbbfibhllfiofaaGreatDoor
