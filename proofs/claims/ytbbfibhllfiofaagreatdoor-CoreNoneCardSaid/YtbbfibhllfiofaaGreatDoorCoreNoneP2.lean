/- CoreNone: its calls answer so: reckoned by the kernel; printed by a program of ours. -/
import Derived.Test.YtbbfibhllfiofaaGreatDoorCoreNoneM
import Derived.KernelRfl
namespace Go.Proofs.YtbbfibhllfiofaaGreatDoor
open Go
set_option linter.all false
set_option maxRecDepth 1000000
noncomputable def coreNoneHk1 : Hook Tryz.prog 5 := mkHookM hkBase hkDef [] hkBase_ok hkDef_ok memos_nil
theorem coreNoneM1_ok : MemoOK Tryz.prog 5 coreNoneM1 := memo_ok (X := coreNoneHk1) (n := 100000000) (by kernel_rfl)
noncomputable def coreNoneHk2 : Hook Tryz.prog 5 := mkHookM hkBase hkDef [] hkBase_ok hkDef_ok memos_nil
theorem coreNoneM2_ok : MemoOK Tryz.prog 5 coreNoneM2 := memo_ok (X := coreNoneHk2) (n := 100000000) (by kernel_rfl)
noncomputable def coreNoneHk11 : Hook Tryz.prog 5 := mkHookM hkBase hkDef [] hkBase_ok hkDef_ok memos_nil
theorem coreNoneM11_ok : MemoOK Tryz.prog 5 coreNoneM11 := memo_ok (X := coreNoneHk11) (n := 100000000) (by kernel_rfl)
end Go.Proofs.YtbbfibhllfiofaaGreatDoor
