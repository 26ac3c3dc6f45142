/- SccNames: its calls answer so: reckoned by the kernel; printed by a program of ours. -/
import Derived.Test.YtbbfibhllfiofaaGreatDoorSccNamesP1
import Derived.Test.YtbbfibhllfiofaaGreatDoorSccNamesP2
import Derived.Test.YtbbfibhllfiofaaGreatDoorSccNamesP3
import Derived.KernelRfl
namespace Go.Proofs.YtbbfibhllfiofaaGreatDoor
open Go
set_option linter.all false
set_option maxRecDepth 1000000
noncomputable def sccNamesHk2 : Hook Tryz.prog 5 := mkHookM hkBase hkDef [sccNamesM3, sccNamesM4] hkBase_ok hkDef_ok (memos_cons sccNamesM3_ok (memos_cons sccNamesM4_ok memos_nil))
theorem sccNamesM2_ok : MemoOK Tryz.prog 5 sccNamesM2 := memo_ok (X := sccNamesHk2) (n := 100000000) (by kernel_rfl)
noncomputable def sccNamesHk9 : Hook Tryz.prog 5 := mkHookM hkBase hkDef [sccNamesM10, sccNamesM11, sccNamesM12, sccNamesM13, sccNamesM14] hkBase_ok hkDef_ok (memos_cons sccNamesM10_ok (memos_cons sccNamesM11_ok (memos_cons sccNamesM12_ok (memos_cons sccNamesM13_ok (memos_cons sccNamesM14_ok memos_nil)))))
theorem sccNamesM9_ok : MemoOK Tryz.prog 5 sccNamesM9 := memo_ok (X := sccNamesHk9) (n := 100000000) (by kernel_rfl)
noncomputable def sccNamesHk20 : Hook Tryz.prog 5 := mkHookM hkBase hkDef [sccNamesM21, sccNamesM22, sccNamesM23, sccNamesM24] hkBase_ok hkDef_ok (memos_cons sccNamesM21_ok (memos_cons sccNamesM22_ok (memos_cons sccNamesM23_ok (memos_cons sccNamesM24_ok memos_nil))))
theorem sccNamesM20_ok : MemoOK Tryz.prog 5 sccNamesM20 := memo_ok (X := sccNamesHk20) (n := 100000000) (by kernel_rfl)
noncomputable def sccNamesHk25 : Hook Tryz.prog 5 := mkHookM hkBase hkDef [sccNamesM26, sccNamesM27, sccNamesM28] hkBase_ok hkDef_ok (memos_cons sccNamesM26_ok (memos_cons sccNamesM27_ok (memos_cons sccNamesM28_ok memos_nil)))
theorem sccNamesM25_ok : MemoOK Tryz.prog 5 sccNamesM25 := memo_ok (X := sccNamesHk25) (n := 100000000) (by kernel_rfl)
end Go.Proofs.YtbbfibhllfiofaaGreatDoor
