/- BallNone: its calls answer so: reckoned by the kernel; printed by a program of ours. -/
import Derived.Test.YtbbfibhllfiofaaGreatDoorBallNoneP1
import Derived.Test.YtbbfibhllfiofaaGreatDoorBallNoneP2
import Derived.Test.YtbbfibhllfiofaaGreatDoorBallNoneP3
import Derived.KernelRfl
namespace Go.Proofs.YtbbfibhllfiofaaGreatDoor
open Go
set_option linter.all false
set_option maxRecDepth 1000000
noncomputable def ballNoneHk10 : Hook Tryz.prog 5 := mkHookM hkBase hkDef [ballNoneM11] hkBase_ok hkDef_ok (memos_cons ballNoneM11_ok memos_nil)
theorem ballNoneM10_ok : MemoOK Tryz.prog 5 ballNoneM10 := memo_ok (X := ballNoneHk10) (n := 100000000) (by kernel_rfl)
end Go.Proofs.YtbbfibhllfiofaaGreatDoor
