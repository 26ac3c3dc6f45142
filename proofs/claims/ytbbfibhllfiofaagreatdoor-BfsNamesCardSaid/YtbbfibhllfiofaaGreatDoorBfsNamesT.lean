/- BfsNames: what the reckoner finds is true. -/
import Derived.Test.YtbbfibhllfiofaaGreatDoorBfsNamesM
import Derived.Test.YtbbfibhllfiofaaGreatDoorBfsNamesP1
import Derived.Test.YtbbfibhllfiofaaGreatDoorBfsNamesP2
import Derived.Test.YtbbfibhllfiofaaGreatDoorBfsNamesP3
import Derived.Test.YtbbfibhllfiofaaGreatDoorBfsNamesP4
import Derived.Test.YtbbfibhllfiofaaGreatDoorBfsNamesP5
import Derived.Test.YtbbfibhllfiofaaGreatDoorBfsNamesP6
import Derived.Test.YtbbfibhllfiofaaGreatDoorBfsNamesP7
import Derived.KernelRfl
namespace Go.Proofs.YtbbfibhllfiofaaGreatDoor
open Go
set_option linter.all false
set_option maxRecDepth 1000000
noncomputable def bfsNamesHook : Hook Tryz.prog 5 := mkHookM hkBase hkDef [bfsNamesM0, bfsNamesM5, bfsNamesM6] hkBase_ok hkDef_ok (memos_cons bfsNamesM0_ok (memos_cons bfsNamesM5_ok (memos_cons bfsNamesM6_ok memos_nil)))

theorem bfsNames_true : isTrueR (evF Tryz.prog 5 bfsNamesHook 100000000 3 [] (hLay 5 [(0, [.int .u8 (.ofNat 1), .int .u64 (.ofNat 0)]), (1, [.int .u8 (.ofNat 0), .int .u64 (.ofNat 0)])])) = true := by kernel_rfl
end Go.Proofs.YtbbfibhllfiofaaGreatDoor
