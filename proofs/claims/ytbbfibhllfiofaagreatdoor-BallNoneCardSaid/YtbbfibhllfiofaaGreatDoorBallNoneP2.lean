/- BallNone: its calls answer so: reckoned by the kernel; printed by a program of ours. -/
import Derived.Test.YtbbfibhllfiofaaGreatDoorBallNoneM
import Derived.KernelRfl
namespace Go.Proofs.YtbbfibhllfiofaaGreatDoor
open Go
set_option linter.all false
set_option maxRecDepth 1000000
noncomputable def ballNoneHk2 : Hook Tryz.prog 5 := mkHookM hkBase hkDef [] hkBase_ok hkDef_ok memos_nil
theorem ballNoneM2_ok : MemoOK Tryz.prog 5 ballNoneM2 := memo_ok (X := ballNoneHk2) (n := 100000000) (by kernel_rfl)
noncomputable def ballNoneHk3 : Hook Tryz.prog 5 := mkHookM hkBase hkDef [] hkBase_ok hkDef_ok memos_nil
theorem ballNoneM3_ok : MemoOK Tryz.prog 5 ballNoneM3 := memo_ok (X := ballNoneHk3) (n := 100000000) (by kernel_rfl)
noncomputable def ballNoneHk8 : Hook Tryz.prog 5 := mkHookM hkBase hkDef [] hkBase_ok hkDef_ok memos_nil
theorem ballNoneM8_ok : MemoOK Tryz.prog 5 ballNoneM8 := memo_ok (X := ballNoneHk8) (n := 100000000) (by kernel_rfl)
noncomputable def ballNoneHk13 : Hook Tryz.prog 5 := mkHookM hkBase hkDef [] hkBase_ok hkDef_ok memos_nil
theorem ballNoneM13_ok : MemoOK Tryz.prog 5 ballNoneM13 := memo_ok (X := ballNoneHk13) (n := 100000000) (by kernel_rfl)
end Go.Proofs.YtbbfibhllfiofaaGreatDoor
