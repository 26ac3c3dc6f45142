/- The statement JournalAnew: on every input the law's function returns true, and the input reads as it did. -/
import Derived.Test.YtkhkebcflaokpaaAn12
import Derived.Test.YtkhkebcflaokpaaRows
namespace Go.Proofs.Ytkhkebcflaokpaa
open Go Go.ChangeShapes Go.WideShapes Go.ChangeAt Go.RowKit
open Go.ChangeMaps (open_string shut_string)
set_option linter.all false
set_option maxRecDepth 100000

theorem journalAnew_lifted (os : Os) (started : os.Started) (H : Type) (enc : TypeId × Value → H) :
    ReturnsInHanded {} Try.checked os 3 .any (Rows.journalAnewSpec.pre6 enc Try.prog Try.f3 [] false) (Rows.journalAnewSpec.post enc Try.prog Try.f3 false true false false) := by
  refine law_lifted (C := Try.checked) (fn := Try.f3) (ts := [3, 22, 3, 25]) own started laidOut (by kernel_rfl) Try.func3 rfl (by kernel_rfl) rfl Try.underlying4 rfl (fun ds h => ?_)
    (ChangeSpec.witness6 (enc := enc) (C := Try.checked) false ⟨#[], #[.int .i64 0, .slice none 0 0, .int .i64 0, .agg #[.slice none 0 0, .int .i64 0, .int .u8 0]], []⟩ 8 (by kernel_rfl) (by kernel_rfl) (by kernel_rfl) (by kernel_rfl)) ?_
  · match ds, h with
    | [_, _, _, _], _ => rfl
  · intro W base args ds ps hval hA hfz hsz
    obtain ⟨v0, vs0, d0, ds0, p0, q0, rfl, rfl, rfl, h0, r0⟩ := trodAll_cons hA
    obtain ⟨v1, vs1, d1, ds1, p1, q1, rfl, rfl, rfl, h1, r1⟩ := trodAll_cons r0
    obtain ⟨v2, vs2, d2, ds2, p2, q2, rfl, rfl, rfl, h2, r2⟩ := trodAll_cons r1
    obtain ⟨v3, vs3, d3, ds3, p3, q3, rfl, rfl, rfl, h3, r3⟩ := trodAll_cons r2
    obtain ⟨rfl, rfl, rfl⟩ := trodAll_nil r3
    have hwt : ∀ (j : Nat) t d, [3, 22, 3, 25][j]? = some t → [d0, d1, d2, d3][j]? = some d → ∀ n ∈ d.weights Try.prog t, n ≤ reachBytes := fun j t d ht hd n hn => by
      have := List.all_eq_true.1 hsz _ (DataW.weights_mem_each ht hd n hn)
      simpa using this
    obtain ⟨z0, rfl⟩ := okWide_int Try.underlying3 (hval 0 _ v0 rfl rfl)
    obtain ⟨a1, l1, c1, rfl⟩ := okWide_slice Try.underlying22 (hval 1 _ v1 rfl rfl)
    obtain ⟨z2, rfl⟩ := okWide_int Try.underlying3 (hval 2 _ v2 rfl rfl)
    obtain ⟨cs3, rfl, hs3⟩ := okWide_struct Try.underlying25 (hval 3 _ v3 rfl rfl)
    obtain ⟨f0, h0⟩ := h0
    obtain ⟨f1, h1⟩ := h1
    obtain ⟨f2, h2⟩ := h2
    obtain ⟨f3, h3⟩ := h3
    obtain ⟨n2, e2, -, w2⟩ := DataW.trod_int Try.underlying3 h2
    cases e2
    have b2 := i64_le _ w2
    obtain ⟨ls, hls⟩ := open_putss h1 (hwt 1 _ d1 rfl rfl)
    obtain ⟨kv, l, tn, mk, hcs, hr, hl⟩ := open_crash h3 (hwt 3 _ d3 rfl rfl)
    have e : Value.agg cs3 = .agg #[kv, I tn, u8v mk] := by
      have e1 : cs3.toList = [kv, I tn, u8v mk] := hcs
      have e2 : cs3 = [kv, I tn, u8v mk].toArray := by rw [← e1, Array.toArray_toList]
      rw [e2]
    rw [e]
    exact journalAnew_ret _ _ _ kv ls l tn mk W hls hl hr b2.1

theorem journalAnew_holds : Rows.JournalAnewSaid :=
  OpenClaim.holds_of_wide 3 Try.f3 rfl rfl rfl rfl rfl rfl rfl ⟨rfl, rfl, rfl, rfl, rfl⟩ rfl rfl rfl rfl rfl (by kernel_rfl) Try.func3 (by kernel_rfl)
    (of_decide_eq_true (by kernel_rfl)) (by unfold Func.isWrapper; first | (rw [if_pos (by decide +kernel)]; kernel_rfl) | (rw [if_neg (by decide +kernel)]; exact ⟨rfl, rfl⟩))
    (fun os started H enc _ => journalAnew_lifted os started H enc)
#print axioms journalAnew_holds
end Go.Proofs.Ytkhkebcflaokpaa
