/- The statement TreeNone: the function takes nothing, and what the reckoner finds is what it returns. -/
import Derived.Test.YtbhepednfnmngaaGreatCrc
import Derived.Test.YtbhepednfnmngaaGreatRow
import Derived.Test.YtbhepednfnmngaaGreatRows
namespace Go.Proofs.YtbhepednfnmngaaGreat
open Go Go.ChangeShapes Go.WideShapes Go.ChangeAt Go.RowKit
open Go.ChangeMaps (open_string shut_string)
set_option linter.all false
set_option maxRecDepth 1000000

noncomputable def theHook : Hook Tryz.prog 1 := mkHook [(260, xSame), (268, xMake 5), (103, xOver), (110, xOver)] (by
  intro p hp
  simp only [List.mem_cons, List.not_mem_nil, or_false] at hp
  rcases hp with rfl | rfl | rfl | rfl
  · exact xSame_ok ⟨_, Tryz.func260, by kernel_rfl, by kernel_rfl, by kernel_rfl, by kernel_rfl⟩
  · exact xMake_ok (ps := #[3]) (t := 36) ⟨_, Tryz.func268, by kernel_rfl, by kernel_rfl, by kernel_rfl, by kernel_rfl⟩ Tryz.underlying36
  · exact xOver_ok (tS := 89) (tR := 4) (e := 9) (size := 1) ⟨_, Tryz.func103, by kernel_rfl, by kernel_rfl, by kernel_rfl, by kernel_rfl⟩ Tryz.underlying89 (fun _ => ti9.size)
  · exact xOver_ok (tS := 90) (tR := 4) (e := 99) (size := 1) ⟨_, Tryz.func110, by kernel_rfl, by kernel_rfl, by kernel_rfl, by kernel_rfl⟩ Tryz.underlying90 (fun _ => ti99.size))

theorem treeNone_true : isTrueR (evF Tryz.prog 1 theHook 100000000 3 [] (h0 1)) = true := by kernel_rfl

theorem treeNone_lifted (os : Os) (started : os.Started) (H : Type) (enc : TypeId × Value → H) :
    ReturnsInHanded {} Tryz.checked os 3 .any (Rows.treeNoneSpec.pre6 enc Tryz.prog Tryz.f3 [] false) (Rows.treeNoneSpec.post enc Tryz.prog Tryz.f3 false true false false) := by
  refine law_lifted (C := Tryz.checked) (fn := Tryz.f3) (ts := []) own started laidOut (by kernel_rfl) Tryz.func3 rfl (by kernel_rfl) rfl Tryz.underlying4 rfl (fun ds h => ?_)
    (ChangeSpec.witness6 (enc := enc) (C := Tryz.checked) false ⟨#[], #[], []⟩ 8 (by kernel_rfl) (by kernel_rfl) (by kernel_rfl) (by kernel_rfl)) ?_
  · match ds, h with
    | [], _ => rfl
  · intro W base args ds ps hval hA hfz hsz
    obtain ⟨rfl, rfl, rfl⟩ := trodAll_nil hA
    exact evF_true treeNone_true W

theorem treeNone_holds : Rows.TreeNoneSaid :=
  OpenClaim.holds_of_wide 3 Tryz.f3 rfl rfl rfl rfl rfl rfl rfl ⟨rfl, rfl, rfl, rfl, rfl⟩ rfl rfl rfl rfl rfl (by kernel_rfl) Tryz.func3 (by kernel_rfl)
    (of_decide_eq_true (by kernel_rfl)) (by unfold Func.isWrapper; first | (rw [if_pos (by decide +kernel)]; kernel_rfl) | (rw [if_neg (by decide +kernel)]; exact ⟨rfl, rfl⟩))
    (fun os started H enc _ => treeNone_lifted os started H enc)
#print axioms treeNone_holds
end Go.Proofs.YtbhepednfnmngaaGreat
