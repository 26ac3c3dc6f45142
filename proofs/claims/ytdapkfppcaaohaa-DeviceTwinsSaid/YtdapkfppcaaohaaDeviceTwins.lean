/- The statement DeviceTwins: on every input the law's function returns true, and the input reads as it did. -/
import Derived.Test.YtdapkfppcaaohaaDvTw
import Derived.Test.YtdapkfppcaaohaaOpen
import Derived.Test.YtdapkfppcaaohaaRow
import Derived.Test.YtdapkfppcaaohaaRows
namespace Go.Proofs.Ytdapkfppcaaohaa
open Go Go.ChangeShapes Go.WideShapes Go.ChangeAt Go.RowKit
open Go.ChangeMaps (open_string shut_string)
set_option linter.all false
set_option maxRecDepth 100000

theorem deviceTwins_lifted (os : Os) (started : os.Started) (H : Type) (enc : TypeId × Value → H) :
    ReturnsInHanded {} Try.checked os 9 .any (Rows.deviceTwinsSpec.pre6 enc Try.prog Try.f9 [] false) (Rows.deviceTwinsSpec.post enc Try.prog Try.f9 false true false false) := by
  refine law_lifted (C := Try.checked) (fn := Try.f9) (ts := [62, 62, 64]) own started laidOut (by kernel_rfl) Try.func9 rfl (by kernel_rfl) rfl Try.underlying4 rfl (fun ds h => ?_)
    (ChangeSpec.witness6 (enc := enc) (C := Try.checked) false ⟨#[], #[.slice none 0 0, .slice none 0 0, .agg #[.int .i64 0, .int .i64 0, .int .i64 0, .int .i64 0, .string ⟨#[]⟩, .slice none 0 0, .int .i64 0, .int .u8 0]], []⟩ 8 (by kernel_rfl) (by kernel_rfl) (by kernel_rfl) (by kernel_rfl)) ?_
  · match ds, h with
    | [_, _, _], _ => rfl
  · intro W base args ds ps hval hA hfz hsz
    obtain ⟨v0, vs0, d0, ds0, p0, q0, rfl, rfl, rfl, h0, r0⟩ := trodAll_cons hA
    obtain ⟨v1, vs1, d1, ds1, p1, q1, rfl, rfl, rfl, h1, r1⟩ := trodAll_cons r0
    obtain ⟨v2, vs2, d2, ds2, p2, q2, rfl, rfl, rfl, h2, r2⟩ := trodAll_cons r1
    obtain ⟨rfl, rfl, rfl⟩ := trodAll_nil r2
    have hwt : ∀ (j : Nat) t d, [62, 62, 64][j]? = some t → [d0, d1, d2][j]? = some d → ∀ n ∈ d.weights Try.prog t, n ≤ reachBytes := fun j t d ht hd n hn => by
      have := List.all_eq_true.1 hsz _ (DataW.weights_mem_each ht hd n hn)
      simpa using this
    obtain ⟨a0, l0, c0, rfl⟩ := okWide_slice Try.underlying62 (hval 0 _ v0 rfl rfl)
    obtain ⟨a1, l1, c1, rfl⟩ := okWide_slice Try.underlying62 (hval 1 _ v1 rfl rfl)
    obtain ⟨cs2, rfl, hs2⟩ := okWide_struct Try.underlying64 (hval 2 _ v2 rfl rfl)
    obtain ⟨f0, h0⟩ := h0
    obtain ⟨f1, h1⟩ := h1
    obtain ⟨f2, h2⟩ := h2
    obtain ⟨os, hos⟩ := open_ops h0 (hwt 0 _ d0 rfl rfl)
    obtain ⟨os', hos'⟩ := open_ops h1 (hwt 1 _ d1 rfl rfl)
    obtain ⟨o, kv, hcs, hr, hok⟩ := open_op h2 (hwt 2 _ d2 rfl rfl)
    have e : Value.agg cs2 = o.val kv := by
      have e1 : cs2.toList = o.cs kv := hcs
      have e2 : cs2 = (o.cs kv).toArray := by rw [← e1, Array.toArray_toList]
      rw [e2]; rfl
    rw [e]
    exact deviceTwins_ret _ _ kv os os' o W hos hos' hok hr

theorem deviceTwins_holds : Rows.DeviceTwinsSaid :=
  OpenClaim.holds_of_wide 9 Try.f9 rfl rfl rfl rfl rfl rfl rfl ⟨rfl, rfl, rfl, rfl, rfl⟩ rfl rfl rfl rfl rfl (by kernel_rfl) Try.func9 (by kernel_rfl)
    (of_decide_eq_true (by kernel_rfl)) (by unfold Func.isWrapper; first | (rw [if_pos (by decide +kernel)]; kernel_rfl) | (rw [if_neg (by decide +kernel)]; exact ⟨rfl, rfl⟩))
    (fun os started H enc _ => deviceTwins_lifted os started H enc)
#print axioms deviceTwins_holds
end Go.Proofs.Ytdapkfppcaaohaa
