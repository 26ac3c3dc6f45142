/- CatalogNames: its calls answer so: reckoned by the kernel; printed by a program of ours. -/
import Derived.Test.YtkgiammeeckfbaaGreatCatalogNamesM
import Derived.KernelRfl
namespace Go.Proofs.YtkgiammeeckfbaaGreat
open Go
set_option linter.all false
set_option maxRecDepth 1000000
noncomputable def catalogNamesHk0 : Hook Tryz.prog 1 := mkHookM hkBase hkDef [] hkBase_ok hkDef_ok memos_nil
theorem catalogNamesM0_ok : MemoOK Tryz.prog 1 catalogNamesM0 := memo_ok (X := catalogNamesHk0) (n := 100000000) (by kernel_rfl)
end Go.Proofs.YtkgiammeeckfbaaGreat
