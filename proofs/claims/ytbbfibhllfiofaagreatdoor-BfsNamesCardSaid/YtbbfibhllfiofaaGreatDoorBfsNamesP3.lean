/- BfsNames: its calls answer so: reckoned by the kernel; printed by a program of ours. -/
import Derived.Test.YtbbfibhllfiofaaGreatDoorBfsNamesM
import Derived.KernelRfl
namespace Go.Proofs.YtbbfibhllfiofaaGreatDoor
open Go
set_option linter.all false
set_option maxRecDepth 1000000
noncomputable def bfsNamesHk2 : Hook Tryz.prog 5 := mkHookM hkBase hkDef [] hkBase_ok hkDef_ok memos_nil
theorem bfsNamesM2_ok : MemoOK Tryz.prog 5 bfsNamesM2 := memo_ok (X := bfsNamesHk2) (n := 100000000) (by kernel_rfl)
noncomputable def bfsNamesHk5 : Hook Tryz.prog 5 := mkHookM hkBase hkDef [] hkBase_ok hkDef_ok memos_nil
theorem bfsNamesM5_ok : MemoOK Tryz.prog 5 bfsNamesM5 := memo_ok (X := bfsNamesHk5) (n := 100000000) (by kernel_rfl)
end Go.Proofs.YtbbfibhllfiofaaGreatDoor
