/- CoreNone: its calls answer so: reckoned by the kernel; printed by a program of ours. -/
import Derived.Test.YtbbfibhllfiofaaGreatDoorCoreNoneM
import Derived.KernelRfl
namespace Go.Proofs.YtbbfibhllfiofaaGreatDoor
open Go
set_option linter.all false
set_option maxRecDepth 1000000
noncomputable def coreNoneHk8 : Hook Tryz.prog 5 := mkHookM hkBase hkDef [] hkBase_ok hkDef_ok memos_nil
theorem coreNoneM8_ok : MemoOK Tryz.prog 5 coreNoneM8 := memo_ok (X := coreNoneHk8) (n := 100000000) (by kernel_rfl)
noncomputable def coreNoneHk9 : Hook Tryz.prog 5 := mkHookM hkBase hkDef [] hkBase_ok hkDef_ok memos_nil
theorem coreNoneM9_ok : MemoOK Tryz.prog 5 coreNoneM9 := memo_ok (X := coreNoneHk9) (n := 100000000) (by kernel_rfl)
noncomputable def coreNoneHk14 : Hook Tryz.prog 5 := mkHookM hkBase hkDef [] hkBase_ok hkDef_ok memos_nil
theorem coreNoneM14_ok : MemoOK Tryz.prog 5 coreNoneM14 := memo_ok (X := coreNoneHk14) (n := 100000000) (by kernel_rfl)
end Go.Proofs.YtbbfibhllfiofaaGreatDoor
