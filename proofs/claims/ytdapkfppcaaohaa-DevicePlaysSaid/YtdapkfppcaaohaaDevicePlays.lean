/- The statement DevicePlays: on every input the law's function returns true, and the input reads as it did. -/
import Derived.Test.YtdapkfppcaaohaaDvPl
import Derived.Test.YtdapkfppcaaohaaOpen
import Derived.Test.YtdapkfppcaaohaaRow
import Derived.Test.YtdapkfppcaaohaaRows
namespace Go.Proofs.Ytdapkfppcaaohaa
open Go Go.ChangeShapes Go.WideShapes Go.ChangeAt Go.RowKit
open Go.ChangeMaps (open_string shut_string)
set_option linter.all false
set_option maxRecDepth 100000

theorem open_geo {H : Type} {enc : TypeId × Value → H} {W : World} {base : Nat} {sp : Nat → Bool} {v : Value} {d : DataW H} {p : List MemPlace} (hv : Value.okWide Try.prog W .any base 74 v) (h : DataW.Trod enc Try.prog W 0 sp true 74 v d p) : ∃ b n : Int, v = .agg #[I b, I n] := by
  obtain ⟨cs, rfl, hs⟩ := okWide_struct Try.underlying74 hv
  obtain ⟨f, h⟩ := h
  obtain ⟨xs, n, -, hx, hl, hlen, hf⟩ := DataW.trod_struct Try.underlying74 h
  rw [show Try.prog.cellsOf 74 = 2 by kernel_rfl] at hl
  obtain ⟨cl⟩ := cs
  have hl' : cl.length = 2 := hl
  match xs, hlen with
  | [y0, y1], _ =>
  match cl, hl' with
  | [c0, c1], _ =>
    have t0 := hf 0 _ rfl
    have t1 := hf 1 _ rfl
    simp only [Value.cells, show Try.prog.cellsOf 3 = 1 by kernel_rfl, List.drop, List.take, List.getElem?_cons_zero, List.getElem?_cons_succ] at t0 t1
    obtain ⟨n0, e0, -, -⟩ := DataW.trod_int Try.underlying3 t0
    obtain ⟨n1, e1, -, -⟩ := DataW.trod_int Try.underlying3 t1
    cases e0
    cases e1
    exact ⟨n0, n1, rfl⟩

theorem devicePlays_lifted (os : Os) (started : os.Started) (H : Type) (enc : TypeId × Value → H) :
    ReturnsInHanded {} Try.checked os 10 .any (Rows.devicePlaysSpec.pre6 enc Try.prog Try.f10 [] false) (Rows.devicePlaysSpec.post enc Try.prog Try.f10 false true false false) := by
  refine law_lifted (C := Try.checked) (fn := Try.f10) (ts := [74, 74, 62]) own started laidOut (by kernel_rfl) Try.func10 rfl (by kernel_rfl) rfl Try.underlying4 rfl (fun ds h => ?_)
    (ChangeSpec.witness6 (enc := enc) (C := Try.checked) false ⟨#[], #[.agg #[.int .i64 0, .int .i64 0], .agg #[.int .i64 0, .int .i64 0], .slice none 0 0], []⟩ 8 (by kernel_rfl) (by kernel_rfl) (by kernel_rfl) (by kernel_rfl)) ?_
  · match ds, h with
    | [_, _, _], _ => rfl
  · intro W base args ds ps hval hA hfz hsz
    obtain ⟨v0, vs0, d0, ds0, p0, q0, rfl, rfl, rfl, h0, r0⟩ := trodAll_cons hA
    obtain ⟨v1, vs1, d1, ds1, p1, q1, rfl, rfl, rfl, h1, r1⟩ := trodAll_cons r0
    obtain ⟨v2, vs2, d2, ds2, p2, q2, rfl, rfl, rfl, h2, r2⟩ := trodAll_cons r1
    obtain ⟨rfl, rfl, rfl⟩ := trodAll_nil r2
    have hwt : ∀ (j : Nat) t d, [74, 74, 62][j]? = some t → [d0, d1, d2][j]? = some d → ∀ n ∈ d.weights Try.prog t, n ≤ reachBytes := fun j t d ht hd n hn => by
      have := List.all_eq_true.1 hsz _ (DataW.weights_mem_each ht hd n hn)
      simpa using this
    obtain ⟨x0, x1, rfl⟩ := open_geo (hval 0 _ v0 rfl rfl) h0
    obtain ⟨y0, y1, rfl⟩ := open_geo (hval 1 _ v1 rfl rfl) h1
    obtain ⟨a2, l2, c2, rfl⟩ := okWide_slice Try.underlying62 (hval 2 _ v2 rfl rfl)
    obtain ⟨f2, h2⟩ := h2
    obtain ⟨os, hos⟩ := open_ops h2 (hwt 2 _ d2 rfl rfl)
    exact devicePlays_ret x0 x1 y0 y1 _ os W hos

theorem devicePlays_holds : Rows.DevicePlaysSaid :=
  OpenClaim.holds_of_wide 10 Try.f10 rfl rfl rfl rfl rfl rfl rfl ⟨rfl, rfl, rfl, rfl, rfl⟩ rfl rfl rfl rfl rfl (by kernel_rfl) Try.func10 (by kernel_rfl)
    (of_decide_eq_true (by kernel_rfl)) (by unfold Func.isWrapper; first | (rw [if_pos (by decide +kernel)]; kernel_rfl) | (rw [if_neg (by decide +kernel)]; exact ⟨rfl, rfl⟩))
    (fun os started H enc _ => devicePlays_lifted os started H enc)
#print axioms devicePlays_holds
end Go.Proofs.Ytdapkfppcaaohaa
