/- SccNames: its calls answer so: reckoned by the kernel; printed by a program of ours. -/
import Derived.Test.YtbbfibhllfiofaaGreatDoorSccNamesM
import Derived.KernelRfl
namespace Go.Proofs.YtbbfibhllfiofaaGreatDoor
open Go
set_option linter.all false
set_option maxRecDepth 1000000
noncomputable def sccNamesHk4 : Hook Tryz.prog 5 := mkHookM hkBase hkDef [] hkBase_ok hkDef_ok memos_nil
theorem sccNamesM4_ok : MemoOK Tryz.prog 5 sccNamesM4 := memo_ok (X := sccNamesHk4) (n := 100000000) (by kernel_rfl)
noncomputable def sccNamesHk11 : Hook Tryz.prog 5 := mkHookM hkBase hkDef [] hkBase_ok hkDef_ok memos_nil
theorem sccNamesM11_ok : MemoOK Tryz.prog 5 sccNamesM11 := memo_ok (X := sccNamesHk11) (n := 100000000) (by kernel_rfl)
noncomputable def sccNamesHk12 : Hook Tryz.prog 5 := mkHookM hkBase hkDef [] hkBase_ok hkDef_ok memos_nil
theorem sccNamesM12_ok : MemoOK Tryz.prog 5 sccNamesM12 := memo_ok (X := sccNamesHk12) (n := 100000000) (by kernel_rfl)
noncomputable def sccNamesHk16 : Hook Tryz.prog 5 := mkHookM hkBase hkDef [] hkBase_ok hkDef_ok memos_nil
theorem sccNamesM16_ok : MemoOK Tryz.prog 5 sccNamesM16 := memo_ok (X := sccNamesHk16) (n := 100000000) (by kernel_rfl)
noncomputable def sccNamesHk18 : Hook Tryz.prog 5 := mkHookM hkBase hkDef [] hkBase_ok hkDef_ok memos_nil
theorem sccNamesM18_ok : MemoOK Tryz.prog 5 sccNamesM18 := memo_ok (X := sccNamesHk18) (n := 100000000) (by kernel_rfl)
noncomputable def sccNamesHk23 : Hook Tryz.prog 5 := mkHookM hkBase hkDef [] hkBase_ok hkDef_ok memos_nil
theorem sccNamesM23_ok : MemoOK Tryz.prog 5 sccNamesM23 := memo_ok (X := sccNamesHk23) (n := 100000000) (by kernel_rfl)
noncomputable def sccNamesHk24 : Hook Tryz.prog 5 := mkHookM hkBase hkDef [] hkBase_ok hkDef_ok memos_nil
theorem sccNamesM24_ok : MemoOK Tryz.prog 5 sccNamesM24 := memo_ok (X := sccNamesHk24) (n := 100000000) (by kernel_rfl)
noncomputable def sccNamesHk26 : Hook Tryz.prog 5 := mkHookM hkBase hkDef [] hkBase_ok hkDef_ok memos_nil
theorem sccNamesM26_ok : MemoOK Tryz.prog 5 sccNamesM26 := memo_ok (X := sccNamesHk26) (n := 100000000) (by kernel_rfl)
noncomputable def sccNamesHk30 : Hook Tryz.prog 5 := mkHookM hkBase hkDef [] hkBase_ok hkDef_ok memos_nil
theorem sccNamesM30_ok : MemoOK Tryz.prog 5 sccNamesM30 := memo_ok (X := sccNamesHk30) (n := 100000000) (by kernel_rfl)
noncomputable def sccNamesHk34 : Hook Tryz.prog 5 := mkHookM hkBase hkDef [] hkBase_ok hkDef_ok memos_nil
theorem sccNamesM34_ok : MemoOK Tryz.prog 5 sccNamesM34 := memo_ok (X := sccNamesHk34) (n := 100000000) (by kernel_rfl)
end Go.Proofs.YtbbfibhllfiofaaGreatDoor
