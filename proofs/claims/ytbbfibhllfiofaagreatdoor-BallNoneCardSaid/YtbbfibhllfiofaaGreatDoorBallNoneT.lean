/- BallNone: what the reckoner finds is true. -/
import Derived.Test.YtbbfibhllfiofaaGreatDoorBallNoneM
import Derived.Test.YtbbfibhllfiofaaGreatDoorBallNoneP1
import Derived.Test.YtbbfibhllfiofaaGreatDoorBallNoneP2
import Derived.Test.YtbbfibhllfiofaaGreatDoorBallNoneP3
import Derived.Test.YtbbfibhllfiofaaGreatDoorBallNoneP4
import Derived.Test.YtbbfibhllfiofaaGreatDoorBallNoneP5
import Derived.Test.YtbbfibhllfiofaaGreatDoorBallNoneP6
import Derived.KernelRfl
namespace Go.Proofs.YtbbfibhllfiofaaGreatDoor
open Go
set_option linter.all false
set_option maxRecDepth 1000000
noncomputable def ballNoneHook : Hook Tryz.prog 5 := mkHookM hkBase hkDef [ballNoneM0, ballNoneM2, ballNoneM3, ballNoneM4, ballNoneM7, ballNoneM8, ballNoneM9, ballNoneM10, ballNoneM12] hkBase_ok hkDef_ok (memos_cons ballNoneM0_ok (memos_cons ballNoneM2_ok (memos_cons ballNoneM3_ok (memos_cons ballNoneM4_ok (memos_cons ballNoneM7_ok (memos_cons ballNoneM8_ok (memos_cons ballNoneM9_ok (memos_cons ballNoneM10_ok (memos_cons ballNoneM12_ok memos_nil)))))))))

theorem ballNone_true : isTrueR (evF Tryz.prog 5 ballNoneHook 100000000 7 [] (hLay 5 [(0, [.int .u8 (.ofNat 1), .int .u64 (.ofNat 0)]), (1, [.int .u8 (.ofNat 0), .int .u64 (.ofNat 0)])])) = true := by kernel_rfl
end Go.Proofs.YtbbfibhllfiofaaGreatDoor
