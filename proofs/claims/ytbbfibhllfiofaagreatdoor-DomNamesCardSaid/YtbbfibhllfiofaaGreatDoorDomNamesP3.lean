/- DomNames: its calls answer so: reckoned by the kernel; printed by a program of ours. -/
import Derived.Test.YtbbfibhllfiofaaGreatDoorDomNamesM
import Derived.KernelRfl
namespace Go.Proofs.YtbbfibhllfiofaaGreatDoor
open Go
set_option linter.all false
set_option maxRecDepth 1000000
noncomputable def domNamesHk3 : Hook Tryz.prog 5 := mkHookM hkBase hkDef [] hkBase_ok hkDef_ok memos_nil
theorem domNamesM3_ok : MemoOK Tryz.prog 5 domNamesM3 := memo_ok (X := domNamesHk3) (n := 100000000) (by kernel_rfl)
noncomputable def domNamesHk7 : Hook Tryz.prog 5 := mkHookM hkBase hkDef [] hkBase_ok hkDef_ok memos_nil
theorem domNamesM7_ok : MemoOK Tryz.prog 5 domNamesM7 := memo_ok (X := domNamesHk7) (n := 100000000) (by kernel_rfl)
noncomputable def domNamesHk11 : Hook Tryz.prog 5 := mkHookM hkBase hkDef [] hkBase_ok hkDef_ok memos_nil
theorem domNamesM11_ok : MemoOK Tryz.prog 5 domNamesM11 := memo_ok (X := domNamesHk11) (n := 100000000) (by kernel_rfl)
noncomputable def domNamesHk12 : Hook Tryz.prog 5 := mkHookM hkBase hkDef [] hkBase_ok hkDef_ok memos_nil
theorem domNamesM12_ok : MemoOK Tryz.prog 5 domNamesM12 := memo_ok (X := domNamesHk12) (n := 100000000) (by kernel_rfl)
noncomputable def domNamesHk16 : Hook Tryz.prog 5 := mkHookM hkBase hkDef [] hkBase_ok hkDef_ok memos_nil
theorem domNamesM16_ok : MemoOK Tryz.prog 5 domNamesM16 := memo_ok (X := domNamesHk16) (n := 100000000) (by kernel_rfl)
noncomputable def domNamesHk23 : Hook Tryz.prog 5 := mkHookM hkBase hkDef [] hkBase_ok hkDef_ok memos_nil
theorem domNamesM23_ok : MemoOK Tryz.prog 5 domNamesM23 := memo_ok (X := domNamesHk23) (n := 100000000) (by kernel_rfl)
noncomputable def domNamesHk25 : Hook Tryz.prog 5 := mkHookM hkBase hkDef [] hkBase_ok hkDef_ok memos_nil
theorem domNamesM25_ok : MemoOK Tryz.prog 5 domNamesM25 := memo_ok (X := domNamesHk25) (n := 100000000) (by kernel_rfl)
end Go.Proofs.YtbbfibhllfiofaaGreatDoor
