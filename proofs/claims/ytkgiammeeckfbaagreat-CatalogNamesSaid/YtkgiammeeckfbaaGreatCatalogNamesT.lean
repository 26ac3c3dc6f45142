/- CatalogNames: what the reckoner finds is true. -/
import Derived.Test.YtkgiammeeckfbaaGreatCatalogNamesM
import Derived.Test.YtkgiammeeckfbaaGreatCatalogNamesP1
import Derived.Test.YtkgiammeeckfbaaGreatCatalogNamesP2
import Derived.KernelRfl
namespace Go.Proofs.YtkgiammeeckfbaaGreat
open Go
set_option linter.all false
set_option maxRecDepth 1000000
noncomputable def catalogNamesHook : Hook Tryz.prog 1 := mkHookM hkBase hkDef [catalogNamesM0, catalogNamesM1] hkBase_ok hkDef_ok (memos_cons catalogNamesM0_ok (memos_cons catalogNamesM1_ok memos_nil))

theorem catalogNames_true : isTrueR (evF Tryz.prog 1 catalogNamesHook 100000000 3 [] (h0 1)) = true := by kernel_rfl
end Go.Proofs.YtkgiammeeckfbaaGreat
