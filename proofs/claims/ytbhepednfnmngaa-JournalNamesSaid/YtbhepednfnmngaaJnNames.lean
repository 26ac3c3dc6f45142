/- The statement JournalNames: the function takes nothing, and what the reckoner finds is what it returns. -/
import Derived.Test.YtbhepednfnmngaaCrc
import Derived.Test.YtbhepednfnmngaaRow
import Derived.Test.YtbhepednfnmngaaRows
namespace Go.Proofs.Ytbhepednfnmngaa
open Go Go.ChangeShapes Go.WideShapes Go.ChangeAt Go.RowKit
open Go.ChangeMaps (open_string shut_string)
set_option linter.all false
set_option maxRecDepth 1000000

noncomputable def theHook : Hook Try.prog 1 := mkHook [(68, xSame), (69, xMake 5), (61, xOn)] (by
  intro p hp
  simp only [List.mem_cons, List.not_mem_nil, or_false] at hp
  rcases hp with rfl | rfl | rfl
  · exact xSame_ok ⟨_, Try.func68, by kernel_rfl, by kernel_rfl, by kernel_rfl, by kernel_rfl⟩
  · exact xMake_ok (ps := #[3]) (t := 86) ⟨_, Try.func69, by kernel_rfl, by kernel_rfl, by kernel_rfl, by kernel_rfl⟩ Try.underlying86
  · exact xOn_ok)

theorem journalNames_true : isTrueR (evF Try.prog 1 theHook 10000000 3 [] (h0 1)) = true := by kernel_rfl

theorem journalNames_lifted (os : Os) (started : os.Started) (H : Type) (enc : TypeId × Value → H) :
    ReturnsInHanded {} Try.checked os 3 .any (Rows.journalNamesSpec.pre6 enc Try.prog Try.f3 [] false) (Rows.journalNamesSpec.post enc Try.prog Try.f3 false true false false) := by
  refine law_lifted (C := Try.checked) (fn := Try.f3) (ts := []) own started laidOut (by kernel_rfl) Try.func3 rfl (by kernel_rfl) rfl Try.underlying4 rfl (fun ds h => ?_)
    (ChangeSpec.witness6 (enc := enc) (C := Try.checked) false ⟨#[], #[], []⟩ 8 (by kernel_rfl) (by kernel_rfl) (by kernel_rfl) (by kernel_rfl)) ?_
  · match ds, h with
    | [], _ => rfl
  · intro W base args ds ps hval hA hfz hsz
    obtain ⟨rfl, rfl, rfl⟩ := trodAll_nil hA
    exact evF_true journalNames_true W

theorem journalNames_holds : Rows.JournalNamesSaid :=
  OpenClaim.holds_of_wide 3 Try.f3 rfl rfl rfl rfl rfl rfl rfl ⟨rfl, rfl, rfl, rfl, rfl⟩ rfl rfl rfl rfl rfl (by kernel_rfl) Try.func3 (by kernel_rfl)
    (of_decide_eq_true (by kernel_rfl)) (by unfold Func.isWrapper; first | (rw [if_pos (by decide +kernel)]; kernel_rfl) | (rw [if_neg (by decide +kernel)]; exact ⟨rfl, rfl⟩))
    (fun os started H enc _ => journalNames_lifted os started H enc)
#print axioms journalNames_holds
end Go.Proofs.Ytbhepednfnmngaa
