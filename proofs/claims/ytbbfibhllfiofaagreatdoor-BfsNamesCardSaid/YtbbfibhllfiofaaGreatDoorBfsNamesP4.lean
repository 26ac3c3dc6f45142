/- BfsNames: its calls answer so: reckoned by the kernel; printed by a program of ours. -/
import Derived.Test.YtbbfibhllfiofaaGreatDoorBfsNamesP1
import Derived.Test.YtbbfibhllfiofaaGreatDoorBfsNamesP2
import Derived.Test.YtbbfibhllfiofaaGreatDoorBfsNamesP3
import Derived.KernelRfl
namespace Go.Proofs.YtbbfibhllfiofaaGreatDoor
open Go
set_option linter.all false
set_option maxRecDepth 1000000
noncomputable def bfsNamesHk1 : Hook Tryz.prog 5 := mkHookM hkBase hkDef [bfsNamesM2] hkBase_ok hkDef_ok (memos_cons bfsNamesM2_ok memos_nil)
theorem bfsNamesM1_ok : MemoOK Tryz.prog 5 bfsNamesM1 := memo_ok (X := bfsNamesHk1) (n := 100000000) (by kernel_rfl)
end Go.Proofs.YtbbfibhllfiofaaGreatDoor
