/- SccNames: its calls answer so: reckoned by the kernel; printed by a program of ours. -/
import Derived.Test.YtbbfibhllfiofaaGreatDoorSccNamesP1
import Derived.Test.YtbbfibhllfiofaaGreatDoorSccNamesP2
import Derived.Test.YtbbfibhllfiofaaGreatDoorSccNamesP3
import Derived.KernelRfl
namespace Go.Proofs.YtbbfibhllfiofaaGreatDoor
open Go
set_option linter.all false
set_option maxRecDepth 1000000
noncomputable def sccNamesHk15 : Hook Tryz.prog 5 := mkHookM hkBase hkDef [sccNamesM16, sccNamesM17, sccNamesM18, sccNamesM19] hkBase_ok hkDef_ok (memos_cons sccNamesM16_ok (memos_cons sccNamesM17_ok (memos_cons sccNamesM18_ok (memos_cons sccNamesM19_ok memos_nil))))
theorem sccNamesM15_ok : MemoOK Tryz.prog 5 sccNamesM15 := memo_ok (X := sccNamesHk15) (n := 100000000) (by kernel_rfl)
noncomputable def sccNamesHk32 : Hook Tryz.prog 5 := mkHookM hkBase hkDef [sccNamesM33] hkBase_ok hkDef_ok (memos_cons sccNamesM33_ok memos_nil)
theorem sccNamesM32_ok : MemoOK Tryz.prog 5 sccNamesM32 := memo_ok (X := sccNamesHk32) (n := 100000000) (by kernel_rfl)
noncomputable def sccNamesHk38 : Hook Tryz.prog 5 := mkHookM hkBase hkDef [sccNamesM39] hkBase_ok hkDef_ok (memos_cons sccNamesM39_ok memos_nil)
theorem sccNamesM38_ok : MemoOK Tryz.prog 5 sccNamesM38 := memo_ok (X := sccNamesHk38) (n := 100000000) (by kernel_rfl)
end Go.Proofs.YtbbfibhllfiofaaGreatDoor
