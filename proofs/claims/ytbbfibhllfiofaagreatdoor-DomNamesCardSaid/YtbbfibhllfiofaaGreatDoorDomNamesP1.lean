/- DomNames: its calls answer so: reckoned by the kernel; printed by a program of ours. -/
import Derived.Test.YtbbfibhllfiofaaGreatDoorDomNamesM
import Derived.KernelRfl
namespace Go.Proofs.YtbbfibhllfiofaaGreatDoor
open Go
set_option linter.all false
set_option maxRecDepth 1000000
noncomputable def domNamesHk5 : Hook Tryz.prog 5 := mkHookM hkBase hkDef [] hkBase_ok hkDef_ok memos_nil
theorem domNamesM5_ok : MemoOK Tryz.prog 5 domNamesM5 := memo_ok (X := domNamesHk5) (n := 100000000) (by kernel_rfl)
noncomputable def domNamesHk9 : Hook Tryz.prog 5 := mkHookM hkBase hkDef [] hkBase_ok hkDef_ok memos_nil
theorem domNamesM9_ok : MemoOK Tryz.prog 5 domNamesM9 := memo_ok (X := domNamesHk9) (n := 100000000) (by kernel_rfl)
noncomputable def domNamesHk10 : Hook Tryz.prog 5 := mkHookM hkBase hkDef [] hkBase_ok hkDef_ok memos_nil
theorem domNamesM10_ok : MemoOK Tryz.prog 5 domNamesM10 := memo_ok (X := domNamesHk10) (n := 100000000) (by kernel_rfl)
noncomputable def domNamesHk14 : Hook Tryz.prog 5 := mkHookM hkBase hkDef [] hkBase_ok hkDef_ok memos_nil
theorem domNamesM14_ok : MemoOK Tryz.prog 5 domNamesM14 := memo_ok (X := domNamesHk14) (n := 100000000) (by kernel_rfl)
noncomputable def domNamesHk21 : Hook Tryz.prog 5 := mkHookM hkBase hkDef [] hkBase_ok hkDef_ok memos_nil
theorem domNamesM21_ok : MemoOK Tryz.prog 5 domNamesM21 := memo_ok (X := domNamesHk21) (n := 100000000) (by kernel_rfl)
noncomputable def domNamesHk24 : Hook Tryz.prog 5 := mkHookM hkBase hkDef [] hkBase_ok hkDef_ok memos_nil
theorem domNamesM24_ok : MemoOK Tryz.prog 5 domNamesM24 := memo_ok (X := domNamesHk24) (n := 100000000) (by kernel_rfl)
end Go.Proofs.YtbbfibhllfiofaaGreatDoor
