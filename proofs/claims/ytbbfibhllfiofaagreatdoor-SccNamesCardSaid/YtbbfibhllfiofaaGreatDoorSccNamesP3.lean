/- SccNames: its calls answer so: reckoned by the kernel; printed by a program of ours. -/
import Derived.Test.YtbbfibhllfiofaaGreatDoorSccNamesM
import Derived.KernelRfl
namespace Go.Proofs.YtbbfibhllfiofaaGreatDoor
open Go
set_option linter.all false
set_option maxRecDepth 1000000
noncomputable def sccNamesHk3 : Hook Tryz.prog 5 := mkHookM hkBase hkDef [] hkBase_ok hkDef_ok memos_nil
theorem sccNamesM3_ok : MemoOK Tryz.prog 5 sccNamesM3 := memo_ok (X := sccNamesHk3) (n := 100000000) (by kernel_rfl)
noncomputable def sccNamesHk7 : Hook Tryz.prog 5 := mkHookM hkBase hkDef [] hkBase_ok hkDef_ok memos_nil
theorem sccNamesM7_ok : MemoOK Tryz.prog 5 sccNamesM7 := memo_ok (X := sccNamesHk7) (n := 100000000) (by kernel_rfl)
noncomputable def sccNamesHk8 : Hook Tryz.prog 5 := mkHookM hkBase hkDef [] hkBase_ok hkDef_ok memos_nil
theorem sccNamesM8_ok : MemoOK Tryz.prog 5 sccNamesM8 := memo_ok (X := sccNamesHk8) (n := 100000000) (by kernel_rfl)
noncomputable def sccNamesHk13 : Hook Tryz.prog 5 := mkHookM hkBase hkDef [] hkBase_ok hkDef_ok memos_nil
theorem sccNamesM13_ok : MemoOK Tryz.prog 5 sccNamesM13 := memo_ok (X := sccNamesHk13) (n := 100000000) (by kernel_rfl)
noncomputable def sccNamesHk14 : Hook Tryz.prog 5 := mkHookM hkBase hkDef [] hkBase_ok hkDef_ok memos_nil
theorem sccNamesM14_ok : MemoOK Tryz.prog 5 sccNamesM14 := memo_ok (X := sccNamesHk14) (n := 100000000) (by kernel_rfl)
noncomputable def sccNamesHk17 : Hook Tryz.prog 5 := mkHookM hkBase hkDef [] hkBase_ok hkDef_ok memos_nil
theorem sccNamesM17_ok : MemoOK Tryz.prog 5 sccNamesM17 := memo_ok (X := sccNamesHk17) (n := 100000000) (by kernel_rfl)
noncomputable def sccNamesHk31 : Hook Tryz.prog 5 := mkHookM hkBase hkDef [] hkBase_ok hkDef_ok memos_nil
theorem sccNamesM31_ok : MemoOK Tryz.prog 5 sccNamesM31 := memo_ok (X := sccNamesHk31) (n := 100000000) (by kernel_rfl)
noncomputable def sccNamesHk33 : Hook Tryz.prog 5 := mkHookM hkBase hkDef [] hkBase_ok hkDef_ok memos_nil
theorem sccNamesM33_ok : MemoOK Tryz.prog 5 sccNamesM33 := memo_ok (X := sccNamesHk33) (n := 100000000) (by kernel_rfl)
noncomputable def sccNamesHk37 : Hook Tryz.prog 5 := mkHookM hkBase hkDef [] hkBase_ok hkDef_ok memos_nil
theorem sccNamesM37_ok : MemoOK Tryz.prog 5 sccNamesM37 := memo_ok (X := sccNamesHk37) (n := 100000000) (by kernel_rfl)
noncomputable def sccNamesHk40 : Hook Tryz.prog 5 := mkHookM hkBase hkDef [] hkBase_ok hkDef_ok memos_nil
theorem sccNamesM40_ok : MemoOK Tryz.prog 5 sccNamesM40 := memo_ok (X := sccNamesHk40) (n := 100000000) (by kernel_rfl)
end Go.Proofs.YtbbfibhllfiofaaGreatDoor
