/- CoreNone: what the reckoner finds is true. -/
import Derived.Test.YtbbfibhllfiofaaGreatDoorCoreNoneM
import Derived.Test.YtbbfibhllfiofaaGreatDoorCoreNoneP1
import Derived.Test.YtbbfibhllfiofaaGreatDoorCoreNoneP2
import Derived.Test.YtbbfibhllfiofaaGreatDoorCoreNoneP3
import Derived.Test.YtbbfibhllfiofaaGreatDoorCoreNoneP4
import Derived.Test.YtbbfibhllfiofaaGreatDoorCoreNoneP5
import Derived.Test.YtbbfibhllfiofaaGreatDoorCoreNoneP6
import Derived.KernelRfl
namespace Go.Proofs.YtbbfibhllfiofaaGreatDoor
open Go
set_option linter.all false
set_option maxRecDepth 1000000
noncomputable def coreNoneHk6 : Hook Tryz.prog 5 := mkHookM hkBase hkDef [coreNoneM7] hkBase_ok hkDef_ok (memos_cons coreNoneM7_ok memos_nil)
theorem coreNoneM6_ok : MemoOK Tryz.prog 5 coreNoneM6 := memo_ok (X := coreNoneHk6) (n := 100000000) (by kernel_rfl)
noncomputable def coreNoneHk5 : Hook Tryz.prog 5 := mkHookM hkBase hkDef [coreNoneM6, coreNoneM9] hkBase_ok hkDef_ok (memos_cons coreNoneM6_ok (memos_cons coreNoneM9_ok memos_nil))
theorem coreNoneM5_ok : MemoOK Tryz.prog 5 coreNoneM5 := memo_ok (X := coreNoneHk5) (n := 100000000) (by kernel_rfl)
noncomputable def coreNoneHk4 : Hook Tryz.prog 5 := mkHookM hkBase hkDef [coreNoneM5, coreNoneM10, coreNoneM12, coreNoneM13] hkBase_ok hkDef_ok (memos_cons coreNoneM5_ok (memos_cons coreNoneM10_ok (memos_cons coreNoneM12_ok (memos_cons coreNoneM13_ok memos_nil))))
theorem coreNoneM4_ok : MemoOK Tryz.prog 5 coreNoneM4 := memo_ok (X := coreNoneHk4) (n := 100000000) (by kernel_rfl)
noncomputable def coreNoneHook : Hook Tryz.prog 5 := mkHookM hkBase hkDef [coreNoneM0, coreNoneM2, coreNoneM3, coreNoneM4] hkBase_ok hkDef_ok (memos_cons coreNoneM0_ok (memos_cons coreNoneM2_ok (memos_cons coreNoneM3_ok (memos_cons coreNoneM4_ok memos_nil))))

theorem coreNone_true : isTrueR (evF Tryz.prog 5 coreNoneHook 100000000 4 [] (hLay 5 [(0, [.int .u8 (.ofNat 1), .int .u64 (.ofNat 0)]), (1, [.int .u8 (.ofNat 0), .int .u64 (.ofNat 0)])])) = true := by kernel_rfl
end Go.Proofs.YtbbfibhllfiofaaGreatDoor
