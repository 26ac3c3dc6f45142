/- CoreNone: its calls answer so: reckoned by the kernel; printed by a program of ours. -/
import Derived.Test.YtbbfibhllfiofaaGreatDoorCoreNoneM
import Derived.KernelRfl
namespace Go.Proofs.YtbbfibhllfiofaaGreatDoor
open Go
set_option linter.all false
set_option maxRecDepth 1000000
noncomputable def coreNoneHk3 : Hook Tryz.prog 5 := mkHookM hkBase hkDef [] hkBase_ok hkDef_ok memos_nil
theorem coreNoneM3_ok : MemoOK Tryz.prog 5 coreNoneM3 := memo_ok (X := coreNoneHk3) (n := 100000000) (by kernel_rfl)
noncomputable def coreNoneHk12 : Hook Tryz.prog 5 := mkHookM hkBase hkDef [] hkBase_ok hkDef_ok memos_nil
theorem coreNoneM12_ok : MemoOK Tryz.prog 5 coreNoneM12 := memo_ok (X := coreNoneHk12) (n := 100000000) (by kernel_rfl)
noncomputable def coreNoneHk15 : Hook Tryz.prog 5 := mkHookM hkBase hkDef [] hkBase_ok hkDef_ok memos_nil
theorem coreNoneM15_ok : MemoOK Tryz.prog 5 coreNoneM15 := memo_ok (X := coreNoneHk15) (n := 100000000) (by kernel_rfl)
end Go.Proofs.YtbbfibhllfiofaaGreatDoor
