/- The statement SumsReads: on every input the law's function returns true, and the input reads as it did. -/
import Derived.Test.YtdapkfppcaaohaaSumsL
import Derived.Test.YtdapkfppcaaohaaRow
import Derived.Test.YtdapkfppcaaohaaRows
namespace Go.Proofs.Ytdapkfppcaaohaa
open Go Go.ChangeShapes Go.WideShapes Go.ChangeAt Go.RowKit
open Go.ChangeMaps (open_string shut_string)
set_option linter.all false
set_option maxRecDepth 100000

theorem sumsReads_lifted (os : Os) (started : os.Started) (H : Type) (enc : TypeId × Value → H) :
    ReturnsInHanded {} Try.checked os 4 .any (Rows.sumsReadsSpec.pre6 enc Try.prog Try.f4 [] false) (Rows.sumsReadsSpec.post enc Try.prog Try.f4 false true false false) := by
  refine law_lifted (C := Try.checked) (fn := Try.f4) (ts := [9, 9, 35]) own started laidOut (by kernel_rfl) Try.func4 rfl (by kernel_rfl) rfl Try.underlying4 rfl (fun ds h => ?_)
    (ChangeSpec.witness6 (enc := enc) (C := Try.checked) false ⟨#[], #[.string ⟨#[]⟩, .string ⟨#[]⟩, .agg #[.int .u32 0, .int .u32 0, .int .i64 0]], []⟩ 8 (by kernel_rfl) (by kernel_rfl) (by kernel_rfl) (by kernel_rfl)) ?_
  · match ds, h with
    | [_, _, _], _ => rfl
  · intro W base args ds ps hval hA hfz hsz
    obtain ⟨v0, vs0, d0, ds0, p0, q0, rfl, rfl, rfl, h0, r0⟩ := trodAll_cons hA
    obtain ⟨v1, vs1, d1, ds1, p1, q1, rfl, rfl, rfl, h1, r1⟩ := trodAll_cons r0
    obtain ⟨s0, rfl, rfl, rfl, hs0⟩ := open_string Try.underlying9 (hval 0 _ v0 rfl rfl) h0
    obtain ⟨s1, rfl, rfl, rfl, hs1⟩ := open_string Try.underlying9 (hval 1 _ v1 rfl rfl) h1
    have z0 := sized_string hsz (j := 0) rfl rfl
    have z1 := sized_string hsz (j := 1) rfl rfl
    rw [reachBytes] at z0 z1
    rw [str_S s0, str_S s1]
    obtain ⟨v2, vs2, d2, ds2, p2, q2, rfl, rfl, rfl, h2, r2⟩ := trodAll_cons r1
    obtain ⟨rfl, rfl, rfl⟩ := trodAll_nil r2
    obtain ⟨a0, a1, a2, y0, y1, y2, n, rfl, rfl, rfl, g0, g1, g2⟩ := Joins.open_agg3 Try.underlying35 (by kernel_rfl) (by kernel_rfl) (hval 2 _ v2 rfl rfl) h2
    obtain ⟨n0, e0, rfl, k0⟩ := DataW.trod_int Try.underlying33 g0
    obtain ⟨n1, e1, rfl, k1⟩ := DataW.trod_int Try.underlying33 g1
    obtain ⟨n2, e2, rfl, k2⟩ := DataW.trod_int Try.underlying3 g2
    simp only [List.cons.injEq, and_true] at e0 e1 e2
    subst e0; subst e1; subst e2
    simp [Lit.wf, IntKind.min, IntKind.max, IntKind.signed, IntKind.bits] at k0 k1 k2
    obtain ⟨m0, rfl⟩ : ∃ m : Nat, n0 = (m : Int) := ⟨n0.toNat, by omega⟩
    obtain ⟨m1, rfl⟩ : ∃ m : Nat, n1 = (m : Int) := ⟨n1.toNat, by omega⟩
    exact sumsReads_ret _ _ m0 m1 n2 W z0 z1 (by omega) (by omega) (by omega)

theorem sumsReads_holds : Rows.SumsReadsSaid :=
  OpenClaim.holds_of_wide 4 Try.f4 rfl rfl rfl rfl rfl rfl rfl ⟨rfl, rfl, rfl, rfl, rfl⟩ rfl rfl rfl rfl rfl (by kernel_rfl) Try.func4 (by kernel_rfl)
    (of_decide_eq_true (by kernel_rfl)) (by unfold Func.isWrapper; first | (rw [if_pos (by decide +kernel)]; kernel_rfl) | (rw [if_neg (by decide +kernel)]; exact ⟨rfl, rfl⟩))
    (fun os started H enc _ => sumsReads_lifted os started H enc)
#print axioms sumsReads_holds
end Go.Proofs.Ytdapkfppcaaohaa
