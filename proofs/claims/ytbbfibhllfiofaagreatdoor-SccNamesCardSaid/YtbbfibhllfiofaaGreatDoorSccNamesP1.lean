/- SccNames: its calls answer so: reckoned by the kernel; printed by a program of ours. -/
import Derived.Test.YtbbfibhllfiofaaGreatDoorSccNamesM
import Derived.KernelRfl
namespace Go.Proofs.YtbbfibhllfiofaaGreatDoor
open Go
set_option linter.all false
set_option maxRecDepth 1000000
noncomputable def sccNamesHk5 : Hook Tryz.prog 5 := mkHookM hkBase hkDef [] hkBase_ok hkDef_ok memos_nil
theorem sccNamesM5_ok : MemoOK Tryz.prog 5 sccNamesM5 := memo_ok (X := sccNamesHk5) (n := 100000000) (by kernel_rfl)
noncomputable def sccNamesHk10 : Hook Tryz.prog 5 := mkHookM hkBase hkDef [] hkBase_ok hkDef_ok memos_nil
theorem sccNamesM10_ok : MemoOK Tryz.prog 5 sccNamesM10 := memo_ok (X := sccNamesHk10) (n := 100000000) (by kernel_rfl)
noncomputable def sccNamesHk19 : Hook Tryz.prog 5 := mkHookM hkBase hkDef [] hkBase_ok hkDef_ok memos_nil
theorem sccNamesM19_ok : MemoOK Tryz.prog 5 sccNamesM19 := memo_ok (X := sccNamesHk19) (n := 100000000) (by kernel_rfl)
noncomputable def sccNamesHk21 : Hook Tryz.prog 5 := mkHookM hkBase hkDef [] hkBase_ok hkDef_ok memos_nil
theorem sccNamesM21_ok : MemoOK Tryz.prog 5 sccNamesM21 := memo_ok (X := sccNamesHk21) (n := 100000000) (by kernel_rfl)
noncomputable def sccNamesHk22 : Hook Tryz.prog 5 := mkHookM hkBase hkDef [] hkBase_ok hkDef_ok memos_nil
theorem sccNamesM22_ok : MemoOK Tryz.prog 5 sccNamesM22 := memo_ok (X := sccNamesHk22) (n := 100000000) (by kernel_rfl)
noncomputable def sccNamesHk27 : Hook Tryz.prog 5 := mkHookM hkBase hkDef [] hkBase_ok hkDef_ok memos_nil
theorem sccNamesM27_ok : MemoOK Tryz.prog 5 sccNamesM27 := memo_ok (X := sccNamesHk27) (n := 100000000) (by kernel_rfl)
noncomputable def sccNamesHk28 : Hook Tryz.prog 5 := mkHookM hkBase hkDef [] hkBase_ok hkDef_ok memos_nil
theorem sccNamesM28_ok : MemoOK Tryz.prog 5 sccNamesM28 := memo_ok (X := sccNamesHk28) (n := 100000000) (by kernel_rfl)
noncomputable def sccNamesHk35 : Hook Tryz.prog 5 := mkHookM hkBase hkDef [] hkBase_ok hkDef_ok memos_nil
theorem sccNamesM35_ok : MemoOK Tryz.prog 5 sccNamesM35 := memo_ok (X := sccNamesHk35) (n := 100000000) (by kernel_rfl)
noncomputable def sccNamesHk39 : Hook Tryz.prog 5 := mkHookM hkBase hkDef [] hkBase_ok hkDef_ok memos_nil
theorem sccNamesM39_ok : MemoOK Tryz.prog 5 sccNamesM39 := memo_ok (X := sccNamesHk39) (n := 100000000) (by kernel_rfl)
noncomputable def sccNamesHk41 : Hook Tryz.prog 5 := mkHookM hkBase hkDef [] hkBase_ok hkDef_ok memos_nil
theorem sccNamesM41_ok : MemoOK Tryz.prog 5 sccNamesM41 := memo_ok (X := sccNamesHk41) (n := 100000000) (by kernel_rfl)
end Go.Proofs.YtbbfibhllfiofaaGreatDoor
