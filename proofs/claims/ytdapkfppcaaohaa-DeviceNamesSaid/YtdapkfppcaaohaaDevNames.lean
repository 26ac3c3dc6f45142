/- The statement DeviceNames: the function takes nothing, and what the reckoner finds is what it returns. -/
import Derived.Test.YtdapkfppcaaohaaEvU
import Derived.Test.YtdapkfppcaaohaaRow
import Derived.Test.YtdapkfppcaaohaaRows
namespace Go.Proofs.Ytdapkfppcaaohaa
open Go Go.ChangeShapes Go.WideShapes Go.ChangeAt Go.RowKit
open Go.ChangeMaps (open_string shut_string)
set_option linter.all false
set_option maxRecDepth 1000000

theorem deviceNames_true : isTrueR (evF Try.prog 1 100000 11 [] (h0 1)) = true := by kernel_rfl

theorem deviceNames_lifted (os : Os) (started : os.Started) (H : Type) (enc : TypeId × Value → H) :
    ReturnsInHanded {} Try.checked os 11 .any (Rows.deviceNamesSpec.pre6 enc Try.prog Try.f11 [] false) (Rows.deviceNamesSpec.post enc Try.prog Try.f11 false true false false) := by
  refine law_lifted (C := Try.checked) (fn := Try.f11) (ts := []) own started laidOut (by kernel_rfl) Try.func11 rfl (by kernel_rfl) rfl Try.underlying4 rfl (fun ds h => ?_)
    (ChangeSpec.witness6 (enc := enc) (C := Try.checked) false ⟨#[], #[], []⟩ 8 (by kernel_rfl) (by kernel_rfl) (by kernel_rfl) (by kernel_rfl)) ?_
  · match ds, h with
    | [], _ => rfl
  · intro W base args ds ps hval hA hfz hsz
    obtain ⟨rfl, rfl, rfl⟩ := trodAll_nil hA
    exact evF_true deviceNames_true W

theorem deviceNames_holds : Rows.DeviceNamesSaid :=
  OpenClaim.holds_of_wide 11 Try.f11 rfl rfl rfl rfl rfl rfl rfl ⟨rfl, rfl, rfl, rfl, rfl⟩ rfl rfl rfl rfl rfl (by kernel_rfl) Try.func11 (by kernel_rfl)
    (of_decide_eq_true (by kernel_rfl)) (by unfold Func.isWrapper; first | (rw [if_pos (by decide +kernel)]; kernel_rfl) | (rw [if_neg (by decide +kernel)]; exact ⟨rfl, rfl⟩))
    (fun os started H enc _ => deviceNames_lifted os started H enc)
#print axioms deviceNames_holds
end Go.Proofs.Ytdapkfppcaaohaa
