/- BallNone: its calls answer so: reckoned by the kernel; printed by a program of ours. -/
import Derived.Test.YtbbfibhllfiofaaGreatDoorBallNoneM
import Derived.KernelRfl
namespace Go.Proofs.YtbbfibhllfiofaaGreatDoor
open Go
set_option linter.all false
set_option maxRecDepth 1000000
noncomputable def ballNoneHk5 : Hook Tryz.prog 5 := mkHookM hkBase hkDef [] hkBase_ok hkDef_ok memos_nil
theorem ballNoneM5_ok : MemoOK Tryz.prog 5 ballNoneM5 := memo_ok (X := ballNoneHk5) (n := 100000000) (by kernel_rfl)
noncomputable def ballNoneHk6 : Hook Tryz.prog 5 := mkHookM hkBase hkDef [] hkBase_ok hkDef_ok memos_nil
theorem ballNoneM6_ok : MemoOK Tryz.prog 5 ballNoneM6 := memo_ok (X := ballNoneHk6) (n := 100000000) (by kernel_rfl)
noncomputable def ballNoneHk11 : Hook Tryz.prog 5 := mkHookM hkBase hkDef [] hkBase_ok hkDef_ok memos_nil
theorem ballNoneM11_ok : MemoOK Tryz.prog 5 ballNoneM11 := memo_ok (X := ballNoneHk11) (n := 100000000) (by kernel_rfl)
end Go.Proofs.YtbbfibhllfiofaaGreatDoor
