/- The statement TreeLoads: on every input the law's function returns true, and the input reads as it did. -/
import Derived.Test.YtocnhaoilnojmaaGreatTLp9
import Derived.Test.YtocnhaoilnojmaaGreatRows
namespace Go.Proofs.YtocnhaoilnojmaaGreat
open Go Go.ChangeShapes Go.WideShapes Go.ChangeAt Go.RowKit
open Go.ChangeMaps (open_string shut_string)
set_option linter.all false
set_option maxRecDepth 100000

theorem treeLoads_lifted (os : Os) (started : os.Started) (H : Type) (enc : TypeId × Value → H) :
    ReturnsInHanded {} Tryz.checked os 4 .any (Rows.treeLoadsSpec.pre6 enc Tryz.prog Tryz.f4 [] false) (Rows.treeLoadsSpec.post enc Tryz.prog Tryz.f4 false true false false) := by
  refine law_lifted (C := Tryz.checked) (fn := Tryz.f4) (ts := [3, 3, 33]) own started laidOut (by kernel_rfl) Tryz.func4 rfl (by kernel_rfl) rfl Tryz.underlying4 rfl (fun ds h => ?_)
    (ChangeSpec.witness6 (enc := enc) (C := Tryz.checked) false ⟨#[], #[.int .i64 0, .int .i64 0, .slice none 0 0], []⟩ 8 (by kernel_rfl) (by kernel_rfl) (by kernel_rfl) (by kernel_rfl)) ?_
  · match ds, h with
    | [_, _, _], _ => rfl
  · intro W base args ds ps hval hA hfz hsz
    obtain ⟨v0, vs0, d0, ds0, p0, q0, rfl, rfl, rfl, h0, r0⟩ := trodAll_cons hA
    obtain ⟨v1, vs1, d1, ds1, p1, q1, rfl, rfl, rfl, h1, r1⟩ := trodAll_cons r0
    obtain ⟨v2, vs2, d2, ds2, p2, q2, rfl, rfl, rfl, h2, r2⟩ := trodAll_cons r1
    obtain ⟨rfl, rfl, rfl⟩ := trodAll_nil r2
    have hwt : ∀ (j : Nat) t d, [3, 3, 33][j]? = some t → [d0, d1, d2][j]? = some d → ∀ n ∈ d.weights Tryz.prog t, n ≤ reachBytes := fun j t d ht hd n hn => by
      have := List.all_eq_true.1 hsz _ (DataW.weights_mem_each ht hd n hn)
      simpa using this
    obtain ⟨z0, rfl⟩ := okWide_int Tryz.underlying3 (hval 0 _ v0 rfl rfl)
    obtain ⟨z1, rfl⟩ := okWide_int Tryz.underlying3 (hval 1 _ v1 rfl rfl)
    obtain ⟨a2, l2, c2, rfl⟩ := okWide_slice Tryz.underlying33 (hval 2 _ v2 rfl rfl)
    obtain ⟨f2, h2⟩ := h2
    obtain ⟨l, a, c, hv, hR, hc, hl, ht⟩ := open_pgs h2 (hwt 2 _ d2 rfl rfl)
    cases hv
    exact treeLoads_ret _ _ hR hc hl ht

theorem treeLoads_holds : Rows.TreeLoadsSaid :=
  OpenClaim.holds_of_wide 4 Tryz.f4 rfl rfl rfl rfl rfl rfl rfl ⟨rfl, rfl, rfl, rfl, rfl⟩ rfl rfl rfl rfl rfl (by kernel_rfl) Tryz.func4 (by kernel_rfl)
    (of_decide_eq_true (by kernel_rfl)) (by unfold Func.isWrapper; first | (rw [if_pos (by decide +kernel)]; kernel_rfl) | (rw [if_neg (by decide +kernel)]; exact ⟨rfl, rfl⟩))
    (fun os started H enc _ => treeLoads_lifted os started H enc)
#print axioms treeLoads_holds
end Go.Proofs.YtocnhaoilnojmaaGreat
