/- The statement TreeShape: on every input the law's function returns true, and the input reads as it did. -/
import Derived.Test.YtocnhaoilnojmaaGreatTSp9
import Derived.Test.YtocnhaoilnojmaaGreatRows
namespace Go.Proofs.YtocnhaoilnojmaaGreat
open Go Go.ChangeShapes Go.WideShapes Go.ChangeAt Go.RowKit
open Go.ChangeMaps (open_string shut_string)
set_option linter.all false
set_option maxRecDepth 100000

theorem treeShape_lifted (os : Os) (started : os.Started) (H : Type) (enc : TypeId × Value → H) :
    ReturnsInHanded {} Tryz.checked os 6 .any (Rows.treeShapeSpec.pre6 enc Tryz.prog Tryz.f6 [] false) (Rows.treeShapeSpec.post enc Tryz.prog Tryz.f6 false true false false) := by
  refine law_lifted (C := Tryz.checked) (fn := Tryz.f6) (ts := [3, 22]) own started laidOut (by kernel_rfl) Tryz.func6 rfl (by kernel_rfl) rfl Tryz.underlying4 rfl (fun ds h => ?_)
    (ChangeSpec.witness6 (enc := enc) (C := Tryz.checked) false ⟨#[], #[.int .i64 0, .slice none 0 0], []⟩ 8 (by kernel_rfl) (by kernel_rfl) (by kernel_rfl) (by kernel_rfl)) ?_
  · match ds, h with
    | [_, _], _ => rfl
  · intro W base args ds ps hval hA hfz hsz
    obtain ⟨v0, vs0, d0, ds0, p0, q0, rfl, rfl, rfl, h0, r0⟩ := trodAll_cons hA
    obtain ⟨v1, vs1, d1, ds1, p1, q1, rfl, rfl, rfl, h1, r1⟩ := trodAll_cons r0
    obtain ⟨rfl, rfl, rfl⟩ := trodAll_nil r1
    have hwt : ∀ (j : Nat) t d, [3, 22][j]? = some t → [d0, d1][j]? = some d → ∀ n ∈ d.weights Tryz.prog t, n ≤ reachBytes := fun j t d ht hd n hn => by
      have := List.all_eq_true.1 hsz _ (DataW.weights_mem_each ht hd n hn)
      simpa using this
    obtain ⟨z0, rfl⟩ := okWide_int Tryz.underlying3 (hval 0 _ v0 rfl rfl)
    obtain ⟨a1, l1, c1, rfl⟩ := okWide_slice Tryz.underlying22 (hval 1 _ v1 rfl rfl)
    obtain ⟨f1, h1⟩ := h1
    obtain ⟨l, hL⟩ := open_ops h1 (hwt 1 _ d1 rfl rfl)
    exact treeShape_ret _ hL

theorem treeShape_holds : Rows.TreeShapeSaid :=
  OpenClaim.holds_of_wide 6 Tryz.f6 rfl rfl rfl rfl rfl rfl rfl ⟨rfl, rfl, rfl, rfl, rfl⟩ rfl rfl rfl rfl rfl (by kernel_rfl) Tryz.func6 (by kernel_rfl)
    (of_decide_eq_true (by kernel_rfl)) (by unfold Func.isWrapper; first | (rw [if_pos (by decide +kernel)]; kernel_rfl) | (rw [if_neg (by decide +kernel)]; exact ⟨rfl, rfl⟩))
    (fun os started H enc _ => treeShape_lifted os started H enc)
#print axioms treeShape_holds
end Go.Proofs.YtocnhaoilnojmaaGreat
