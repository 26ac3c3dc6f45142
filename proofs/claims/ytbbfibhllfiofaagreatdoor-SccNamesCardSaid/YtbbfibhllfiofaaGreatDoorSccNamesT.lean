/- SccNames: what the reckoner finds is true. -/
import Derived.Test.YtbbfibhllfiofaaGreatDoorSccNamesM
import Derived.Test.YtbbfibhllfiofaaGreatDoorSccNamesP1
import Derived.Test.YtbbfibhllfiofaaGreatDoorSccNamesP2
import Derived.Test.YtbbfibhllfiofaaGreatDoorSccNamesP3
import Derived.Test.YtbbfibhllfiofaaGreatDoorSccNamesP4
import Derived.Test.YtbbfibhllfiofaaGreatDoorSccNamesP5
import Derived.Test.YtbbfibhllfiofaaGreatDoorSccNamesP6
import Derived.KernelRfl
namespace Go.Proofs.YtbbfibhllfiofaaGreatDoor
open Go
set_option linter.all false
set_option maxRecDepth 1000000
noncomputable def sccNamesHk1 : Hook Tryz.prog 5 := mkHookM hkBase hkDef [sccNamesM2] hkBase_ok hkDef_ok (memos_cons sccNamesM2_ok memos_nil)
theorem sccNamesM1_ok : MemoOK Tryz.prog 5 sccNamesM1 := memo_ok (X := sccNamesHk1) (n := 100000000) (by kernel_rfl)
noncomputable def sccNamesHk0 : Hook Tryz.prog 5 := mkHookM hkBase hkDef [sccNamesM1, sccNamesM5] hkBase_ok hkDef_ok (memos_cons sccNamesM1_ok (memos_cons sccNamesM5_ok memos_nil))
theorem sccNamesM0_ok : MemoOK Tryz.prog 5 sccNamesM0 := memo_ok (X := sccNamesHk0) (n := 100000000) (by kernel_rfl)
noncomputable def sccNamesHook : Hook Tryz.prog 5 := mkHookM hkBase hkDef [sccNamesM0, sccNamesM6, sccNamesM8, sccNamesM9, sccNamesM15, sccNamesM20, sccNamesM25, sccNamesM29, sccNamesM32, sccNamesM34, sccNamesM35, sccNamesM36, sccNamesM38, sccNamesM40, sccNamesM41] hkBase_ok hkDef_ok (memos_cons sccNamesM0_ok (memos_cons sccNamesM6_ok (memos_cons sccNamesM8_ok (memos_cons sccNamesM9_ok (memos_cons sccNamesM15_ok (memos_cons sccNamesM20_ok (memos_cons sccNamesM25_ok (memos_cons sccNamesM29_ok (memos_cons sccNamesM32_ok (memos_cons sccNamesM34_ok (memos_cons sccNamesM35_ok (memos_cons sccNamesM36_ok (memos_cons sccNamesM38_ok (memos_cons sccNamesM40_ok (memos_cons sccNamesM41_ok memos_nil)))))))))))))))

theorem sccNames_true : isTrueR (evF Tryz.prog 5 sccNamesHook 100000000 6 [] (hLay 5 [(0, [.int .u8 (.ofNat 1), .int .u64 (.ofNat 0)]), (1, [.int .u8 (.ofNat 0), .int .u64 (.ofNat 0)])])) = true := by kernel_rfl
end Go.Proofs.YtbbfibhllfiofaaGreatDoor
