/- BallNone: its calls answer so: reckoned by the kernel; printed by a program of ours. -/
import Derived.Test.YtbbfibhllfiofaaGreatDoorBallNoneP1
import Derived.Test.YtbbfibhllfiofaaGreatDoorBallNoneP2
import Derived.Test.YtbbfibhllfiofaaGreatDoorBallNoneP3
import Derived.KernelRfl
namespace Go.Proofs.YtbbfibhllfiofaaGreatDoor
open Go
set_option linter.all false
set_option maxRecDepth 1000000
noncomputable def ballNoneHk4 : Hook Tryz.prog 5 := mkHookM hkBase hkDef [ballNoneM5, ballNoneM6] hkBase_ok hkDef_ok (memos_cons ballNoneM5_ok (memos_cons ballNoneM6_ok memos_nil))
theorem ballNoneM4_ok : MemoOK Tryz.prog 5 ballNoneM4 := memo_ok (X := ballNoneHk4) (n := 100000000) (by kernel_rfl)
noncomputable def ballNoneHk12 : Hook Tryz.prog 5 := mkHookM hkBase hkDef [ballNoneM13] hkBase_ok hkDef_ok (memos_cons ballNoneM13_ok memos_nil)
theorem ballNoneM12_ok : MemoOK Tryz.prog 5 ballNoneM12 := memo_ok (X := ballNoneHk12) (n := 100000000) (by kernel_rfl)
end Go.Proofs.YtbbfibhllfiofaaGreatDoor
