/- DomNames: its calls answer so: reckoned by the kernel; printed by a program of ours. -/
import Derived.Test.YtbbfibhllfiofaaGreatDoorDomNamesM
import Derived.KernelRfl
namespace Go.Proofs.YtbbfibhllfiofaaGreatDoor
open Go
set_option linter.all false
set_option maxRecDepth 1000000
noncomputable def domNamesHk4 : Hook Tryz.prog 5 := mkHookM hkBase hkDef [] hkBase_ok hkDef_ok memos_nil
theorem domNamesM4_ok : MemoOK Tryz.prog 5 domNamesM4 := memo_ok (X := domNamesHk4) (n := 100000000) (by kernel_rfl)
noncomputable def domNamesHk8 : Hook Tryz.prog 5 := mkHookM hkBase hkDef [] hkBase_ok hkDef_ok memos_nil
theorem domNamesM8_ok : MemoOK Tryz.prog 5 domNamesM8 := memo_ok (X := domNamesHk8) (n := 100000000) (by kernel_rfl)
noncomputable def domNamesHk13 : Hook Tryz.prog 5 := mkHookM hkBase hkDef [] hkBase_ok hkDef_ok memos_nil
theorem domNamesM13_ok : MemoOK Tryz.prog 5 domNamesM13 := memo_ok (X := domNamesHk13) (n := 100000000) (by kernel_rfl)
noncomputable def domNamesHk15 : Hook Tryz.prog 5 := mkHookM hkBase hkDef [] hkBase_ok hkDef_ok memos_nil
theorem domNamesM15_ok : MemoOK Tryz.prog 5 domNamesM15 := memo_ok (X := domNamesHk15) (n := 100000000) (by kernel_rfl)
noncomputable def domNamesHk17 : Hook Tryz.prog 5 := mkHookM hkBase hkDef [] hkBase_ok hkDef_ok memos_nil
theorem domNamesM17_ok : MemoOK Tryz.prog 5 domNamesM17 := memo_ok (X := domNamesHk17) (n := 100000000) (by kernel_rfl)
noncomputable def domNamesHk19 : Hook Tryz.prog 5 := mkHookM hkBase hkDef [] hkBase_ok hkDef_ok memos_nil
theorem domNamesM19_ok : MemoOK Tryz.prog 5 domNamesM19 := memo_ok (X := domNamesHk19) (n := 100000000) (by kernel_rfl)
noncomputable def domNamesHk20 : Hook Tryz.prog 5 := mkHookM hkBase hkDef [] hkBase_ok hkDef_ok memos_nil
theorem domNamesM20_ok : MemoOK Tryz.prog 5 domNamesM20 := memo_ok (X := domNamesHk20) (n := 100000000) (by kernel_rfl)
end Go.Proofs.YtbbfibhllfiofaaGreatDoor
