/- The statement DeviceNothingElse: on every input the law's function returns true, and the input reads as it did. -/
import Derived.Test.YtdapkfppcaaohaaDvNe
import Derived.Test.YtdapkfppcaaohaaOpenP
import Derived.Test.YtdapkfppcaaohaaRow
import Derived.Test.YtdapkfppcaaohaaRows
namespace Go.Proofs.Ytdapkfppcaaohaa
open Go Go.ChangeShapes Go.WideShapes Go.ChangeAt Go.RowKit
open Go.ChangeMaps (open_string shut_string)
set_option linter.all false
set_option maxRecDepth 100000

theorem deviceNothingElse_lifted (os : Os) (started : os.Started) (H : Type) (enc : TypeId × Value → H) :
    ReturnsInHanded {} Try.checked os 7 .any (Rows.deviceNothingElseSpec.pre6 enc Try.prog Try.f7 [] false) (Rows.deviceNothingElseSpec.post enc Try.prog Try.f7 false true false false) := by
  refine law_lifted (C := Try.checked) (fn := Try.f7) (ts := [3, 3, 42, 42, 45]) own started laidOut (by kernel_rfl) Try.func7 rfl (by kernel_rfl) rfl Try.underlying4 rfl (fun ds h => ?_)
    (ChangeSpec.witness6 (enc := enc) (C := Try.checked) false ⟨#[], #[.int .i64 0, .int .i64 0, .slice none 0 0, .slice none 0 0, .agg #[.slice none 0 0, .int .i64 0, .int .u8 0]], []⟩ 8 (by kernel_rfl) (by kernel_rfl) (by kernel_rfl) (by kernel_rfl)) ?_
  · match ds, h with
    | [_, _, _, _, _], _ => rfl
  · intro W base args ds ps hval hA hfz hsz
    obtain ⟨v0, vs0, d0, ds0, p0, q0, rfl, rfl, rfl, h0, r0⟩ := trodAll_cons hA
    obtain ⟨v1, vs1, d1, ds1, p1, q1, rfl, rfl, rfl, h1, r1⟩ := trodAll_cons r0
    obtain ⟨v2, vs2, d2, ds2, p2, q2, rfl, rfl, rfl, h2, r2⟩ := trodAll_cons r1
    obtain ⟨v3, vs3, d3, ds3, p3, q3, rfl, rfl, rfl, h3, r3⟩ := trodAll_cons r2
    obtain ⟨v4, vs4, d4, ds4, p4, q4, rfl, rfl, rfl, h4, r4⟩ := trodAll_cons r3
    obtain ⟨rfl, rfl, rfl⟩ := trodAll_nil r4
    have hwt : ∀ (j : Nat) t d, [3, 3, 42, 42, 45][j]? = some t → [d0, d1, d2, d3, d4][j]? = some d → ∀ n ∈ d.weights Try.prog t, n ≤ reachBytes := fun j t d ht hd n hn => by
      have := List.all_eq_true.1 hsz _ (DataW.weights_mem_each ht hd n hn)
      simpa using this
    obtain ⟨z0, rfl⟩ := okWide_int Try.underlying3 (hval 0 _ v0 rfl rfl)
    obtain ⟨z1, rfl⟩ := okWide_int Try.underlying3 (hval 1 _ v1 rfl rfl)
    obtain ⟨a2, l2, c2, rfl⟩ := okWide_slice Try.underlying42 (hval 2 _ v2 rfl rfl)
    obtain ⟨a3, l3, c3, rfl⟩ := okWide_slice Try.underlying42 (hval 3 _ v3 rfl rfl)
    obtain ⟨cs4, rfl, hs4⟩ := okWide_struct Try.underlying45 (hval 4 _ v4 rfl rfl)
    obtain ⟨f0, h0⟩ := h0
    obtain ⟨f1, h1⟩ := h1
    obtain ⟨f2, h2⟩ := h2
    obtain ⟨f3, h3⟩ := h3
    obtain ⟨f4, h4⟩ := h4
    obtain ⟨n0, e0, -, w0⟩ := DataW.trod_int Try.underlying3 h0
    obtain ⟨n1, e1, -, w1⟩ := DataW.trod_int Try.underlying3 h1
    cases e0
    cases e1
    have b0 := i64_le _ w0
    have b1 := i64_le _ w1
    obtain ⟨safe, hsafe⟩ := open_puts h2 (hwt 2 _ d2 rfl rfl)
    obtain ⟨more, hmore⟩ := open_puts h3 (hwt 3 _ d3 rfl rfl)
    obtain ⟨kv, l, tn, mk, hcs, hr, hl⟩ := open_crash h4 (hwt 4 _ d4 rfl rfl)
    have e : Value.agg cs4 = .agg #[kv, I tn, u8v mk] := by
      have e1 : cs4.toList = [kv, I tn, u8v mk] := hcs
      have e2 : cs4 = [kv, I tn, u8v mk].toArray := by rw [← e1, Array.toArray_toList]
      rw [e2]
    rw [e]
    exact deviceNothingElse_ret _ _ _ _ kv safe more l tn mk W ⟨b0.2, b0.1⟩ ⟨b1.2, b1.1⟩ hsafe hmore hl hr

theorem deviceNothingElse_holds : Rows.DeviceNothingElseSaid :=
  OpenClaim.holds_of_wide 7 Try.f7 rfl rfl rfl rfl rfl rfl rfl ⟨rfl, rfl, rfl, rfl, rfl⟩ rfl rfl rfl rfl rfl (by kernel_rfl) Try.func7 (by kernel_rfl)
    (of_decide_eq_true (by kernel_rfl)) (by unfold Func.isWrapper; first | (rw [if_pos (by decide +kernel)]; kernel_rfl) | (rw [if_neg (by decide +kernel)]; exact ⟨rfl, rfl⟩))
    (fun os started H enc _ => deviceNothingElse_lifted os started H enc)
#print axioms deviceNothingElse_holds
end Go.Proofs.Ytdapkfppcaaohaa
