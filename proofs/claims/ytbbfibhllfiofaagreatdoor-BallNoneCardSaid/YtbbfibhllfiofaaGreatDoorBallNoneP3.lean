/- BallNone: its calls answer so: reckoned by the kernel; printed by a program of ours. -/
import Derived.Test.YtbbfibhllfiofaaGreatDoorBallNoneM
import Derived.KernelRfl
namespace Go.Proofs.YtbbfibhllfiofaaGreatDoor
open Go
set_option linter.all false
set_option maxRecDepth 1000000
noncomputable def ballNoneHk1 : Hook Tryz.prog 5 := mkHookM hkBase hkDef [] hkBase_ok hkDef_ok memos_nil
theorem ballNoneM1_ok : MemoOK Tryz.prog 5 ballNoneM1 := memo_ok (X := ballNoneHk1) (n := 100000000) (by kernel_rfl)
noncomputable def ballNoneHk7 : Hook Tryz.prog 5 := mkHookM hkBase hkDef [] hkBase_ok hkDef_ok memos_nil
theorem ballNoneM7_ok : MemoOK Tryz.prog 5 ballNoneM7 := memo_ok (X := ballNoneHk7) (n := 100000000) (by kernel_rfl)
noncomputable def ballNoneHk9 : Hook Tryz.prog 5 := mkHookM hkBase hkDef [] hkBase_ok hkDef_ok memos_nil
theorem ballNoneM9_ok : MemoOK Tryz.prog 5 ballNoneM9 := memo_ok (X := ballNoneHk9) (n := 100000000) (by kernel_rfl)
end Go.Proofs.YtbbfibhllfiofaaGreatDoor
