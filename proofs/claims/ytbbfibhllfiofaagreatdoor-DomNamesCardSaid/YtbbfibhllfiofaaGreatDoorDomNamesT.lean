/- DomNames: what the reckoner finds is true. -/
import Derived.Test.YtbbfibhllfiofaaGreatDoorDomNamesM
import Derived.Test.YtbbfibhllfiofaaGreatDoorDomNamesP1
import Derived.Test.YtbbfibhllfiofaaGreatDoorDomNamesP2
import Derived.Test.YtbbfibhllfiofaaGreatDoorDomNamesP3
import Derived.Test.YtbbfibhllfiofaaGreatDoorDomNamesP4
import Derived.Test.YtbbfibhllfiofaaGreatDoorDomNamesP5
import Derived.Test.YtbbfibhllfiofaaGreatDoorDomNamesP6
import Derived.KernelRfl
namespace Go.Proofs.YtbbfibhllfiofaaGreatDoor
open Go
set_option linter.all false
set_option maxRecDepth 1000000
noncomputable def domNamesHk1 : Hook Tryz.prog 5 := mkHookM hkBase hkDef [domNamesM2] hkBase_ok hkDef_ok (memos_cons domNamesM2_ok memos_nil)
theorem domNamesM1_ok : MemoOK Tryz.prog 5 domNamesM1 := memo_ok (X := domNamesHk1) (n := 100000000) (by kernel_rfl)
noncomputable def domNamesHk0 : Hook Tryz.prog 5 := mkHookM hkBase hkDef [domNamesM1, domNamesM5] hkBase_ok hkDef_ok (memos_cons domNamesM1_ok (memos_cons domNamesM5_ok memos_nil))
theorem domNamesM0_ok : MemoOK Tryz.prog 5 domNamesM0 := memo_ok (X := domNamesHk0) (n := 100000000) (by kernel_rfl)
noncomputable def domNamesHook : Hook Tryz.prog 5 := mkHookM hkBase hkDef [domNamesM0, domNamesM6, domNamesM8, domNamesM9, domNamesM10, domNamesM11, domNamesM12, domNamesM13, domNamesM14, domNamesM15, domNamesM16, domNamesM17, domNamesM18, domNamesM22] hkBase_ok hkDef_ok (memos_cons domNamesM0_ok (memos_cons domNamesM6_ok (memos_cons domNamesM8_ok (memos_cons domNamesM9_ok (memos_cons domNamesM10_ok (memos_cons domNamesM11_ok (memos_cons domNamesM12_ok (memos_cons domNamesM13_ok (memos_cons domNamesM14_ok (memos_cons domNamesM15_ok (memos_cons domNamesM16_ok (memos_cons domNamesM17_ok (memos_cons domNamesM18_ok (memos_cons domNamesM22_ok memos_nil))))))))))))))

theorem domNames_true : isTrueR (evF Tryz.prog 5 domNamesHook 100000000 5 [] (hLay 5 [(0, [.int .u8 (.ofNat 1), .int .u64 (.ofNat 0)]), (1, [.int .u8 (.ofNat 0), .int .u64 (.ofNat 0)])])) = true := by kernel_rfl
end Go.Proofs.YtbbfibhllfiofaaGreatDoor
