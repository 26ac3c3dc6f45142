/- The statement CatalogNames: the function takes nothing, and what the reckoner finds is what it returns. -/
import Derived.Test.YtkgiammeeckfbaaGreatCatalogNamesT
import Derived.Test.YtkgiammeeckfbaaGreatRow
import Derived.Test.YtkgiammeeckfbaaGreatRows
import Derived.Test.YtkgiammeeckfbaaGreatCatalogNamesF
namespace Go.Proofs.YtkgiammeeckfbaaGreat
open Go Go.ChangeShapes Go.WideShapes Go.ChangeAt Go.RowKit
open Go.ChangeMaps (open_string shut_string)
set_option linter.all false
set_option maxRecDepth 1000000

theorem catalogNames_lifted (os : Os) (started : os.Started) (H : Type) (enc : TypeId × Value → H) :
    ReturnsInHanded {} Tryz.checked os 3 .any (Rows.catalogNamesSpec.pre6 enc Tryz.prog Tryz.f3 [] false) (Rows.catalogNamesSpec.post enc Tryz.prog Tryz.f3 false true false false) := by
  refine law_lifted (C := Tryz.checked) (fn := Tryz.f3) (ts := []) own started laidOut (by kernel_rfl) Tryz.func3 rfl (by kernel_rfl) rfl Tryz.underlying4 rfl (fun ds h => ?_)
    (ChangeSpec.witness6 (enc := enc) (C := Tryz.checked) false ⟨#[], #[], []⟩ 8 (by kernel_rfl) (by kernel_rfl) (by kernel_rfl) (by kernel_rfl)) ?_
  · match ds, h with
    | [], _ => rfl
  · intro W base args ds ps hval hA hfz hsz
    obtain ⟨rfl, rfl, rfl⟩ := trodAll_nil hA
    exact evF_true catalogNames_true W

theorem catalogNames_holds : Rows.CatalogNamesSaid :=
  OpenClaim.holds_of_wide 3 Tryz.f3 rfl rfl rfl rfl rfl rfl rfl ⟨rfl, rfl, rfl, rfl, rfl⟩ rfl rfl rfl rfl rfl (by kernel_rfl) Tryz.func3 catalogNames_joined
    (of_decide_eq_true (by kernel_rfl)) (by unfold Func.isWrapper; first | (rw [if_pos (by decide +kernel)]; kernel_rfl) | (rw [if_neg (by decide +kernel)]; exact ⟨rfl, rfl⟩))
    (fun os started H enc _ => catalogNames_lifted os started H enc)
#print axioms catalogNames_holds
end Go.Proofs.YtkgiammeeckfbaaGreat
