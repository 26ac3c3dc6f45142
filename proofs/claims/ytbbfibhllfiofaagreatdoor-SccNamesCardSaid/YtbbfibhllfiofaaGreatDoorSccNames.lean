/- The statement SccNames: the function takes nothing, and what the reckoner finds is what it returns; two listed variables are tied to the program's text. -/
import Derived.Test.YtbbfibhllfiofaaGreatDoorSccNamesT
import Derived.Test.YtbbfibhllfiofaaGreatDoorRowL
import Derived.Test.YtbbfibhllfiofaaGreatDoorRows
import Derived.Test.YtbbfibhllfiofaaGreatDoorSccNamesF
import Derived.Test.YtbbfibhllfiofaaGreatDoorCards
import Derived.Test.YtbbfibhllfiofaaGreatDoorTie
import Derived.SevenTiedAt
namespace Go.Proofs.YtbbfibhllfiofaaGreatDoor
open Go Go.ChangeShapes Go.WideShapes Go.ChangeAt Go.RowKit
open Go.ChangeMaps (open_string shut_string)
set_option linter.all false
set_option maxRecDepth 1000000

theorem laid_blk {W : World} (h : laidMet Tryz.prog Rows.sccNamesRow.laid W) : ∀ p ∈ ([(0, [.int .u8 (.ofNat 1), .int .u64 (.ofNat 0)]), (1, [.int .u8 (.ofNat 0), .int .u64 (.ofNat 0)])] : List (Nat × List V)), p.1 < 5 ∧ ∃ us us' T fz, BlkF W p.1 (us ++ us') T fz ∧ CVs (phG 5) p.2 us := by
  obtain ⟨ps, hL, -, hB⟩ := h
  obtain ⟨g0, t0, cs0, fuel0, p0, q0, hg0, ht0, hv0, hd0, hL, hps⟩ := hL
  obtain ⟨g1, t1, cs1, fuel1, p1, q1, hg1, ht1, hv1, hd1, hL, hqs⟩ := hL
  obtain rfl := Option.some.inj ((show Tryz.prog.globalNamed "wattle/list.gamma" = some 0 by kernel_rfl).symm.trans hg0)
  obtain rfl := Option.some.inj ((show Tryz.prog.globalNamed "wattle/list.unary" = some 1 by kernel_rfl).symm.trans hg1)
  obtain rfl := Option.some.inj ((show (Tryz.prog.globals[0]?).map (·.type) = some 309 by kernel_rfl).symm.trans ht0)
  obtain rfl := Option.some.inj ((show (Tryz.prog.globals[1]?).map (·.type) = some 309 by kernel_rfl).symm.trans ht1)
  have e0 := pair_cells Tryz.underlying309 (by kernel_rfl) rfl rfl (by kernel_rfl) (by kernel_rfl) Tryz.underlying5 Tryz.underlying39 hd0
  have e1 := pair_cells Tryz.underlying309 (by kernel_rfl) rfl rfl (by kernel_rfl) (by kernel_rfl) Tryz.underlying5 Tryz.underlying39 hd1
  have z0 : cs0.size = 2 := by rw [← Array.length_toList, e0]; rfl
  have z1 : cs1.size = 2 := by rw [← Array.length_toList, e1]; rfl
  have hm : ∀ g : Nat, MemPlace.cell g 0 ∈ MemPlace.row ⟨g, 0, none⟩ 2 := fun g => by simp [MemPlace.row, List.range_succ]
  obtain ⟨us0, us0', T0, fz0, hB0, rfl⟩ := blk_laid hg0 hv0 e0 (hB 0 0 (by rw [hps, z0]; exact List.mem_append_left _ (List.mem_append_left _ (hm 0)))).1
  obtain ⟨us1, us1', T1, fz1, hB1, rfl⟩ := blk_laid hg1 hv1 e1 (hB 1 0 (by rw [hps, hqs, z1]; exact List.mem_append_right _ (List.mem_append_left _ (List.mem_append_left _ (hm 1))))).1
  intro p hp
  simp only [List.mem_cons, List.not_mem_nil, or_false] at hp
  rcases hp with rfl | rfl
  · exact ⟨by decide, _, _, _, _, hB0, .cons .int (.cons .int .nil)⟩
  · exact ⟨by decide, _, _, _, _, hB1, .cons .int (.cons .int .nil)⟩

/-- The settled world, but the variable holds what is listed. -/
noncomputable def limWorld (os : Os) : World :=
  let w0 := World.holding Tryz.prog os ⟨#[], #[], []⟩
  { w0 with heap := w0.heap.modify 0 fun
      | .cells _ t frozen => .cells #[.int .u8 1, .int .u64 0] t frozen
      | o => o }
theorem laid_met (os : Os) : laidMetH Tryz.prog Rows.sccNamesRow.laid ((limWorld os).forCall (fun _ _ => 0) ⟨#[], #[], []⟩).memory :=
  (MakeChecks.laidMetH_plain _ _ _ (by kernel_rfl)) ▸ laidMet_of_run (ps := [.cell 0 0, .cell 0 1, .cell 1 0, .cell 1 1]) 8 (by kernel_rfl) (by kernel_rfl) (by kernel_rfl)

theorem sccNames_lifted (os : Os) (started : os.Started) (H : Type) (enc : TypeId × Value → H) :
    ReturnsInHanded {} Tryz.checked os 6 .any (fun w args => (Rows.sccNamesSpec.pre enc Tryz.prog Tryz.f6 [] false w args ∧ laidMetH Tryz.prog Rows.sccNamesRow.laid w) ∧ sizedMet enc Tryz.prog Tryz.f6 (OpenSpec.ofChange Rows.sccNamesSpec) false w args) (Rows.sccNamesSpec.post enc Tryz.prog Tryz.f6 false true false false) := by
  refine law_lifted_laid (C := Tryz.checked) (fn := Tryz.f6) own started (by kernel_rfl) Tryz.func6 (by kernel_rfl) rfl Tryz.underlying4 rfl (by kernel_rfl) rfl
    (ChangeSpec.witness_at (enc := enc) (C := Tryz.checked) (os := os) (X := fun w _ => laidMetH Tryz.prog Rows.sccNamesRow.laid w) false (limWorld os) #[] 8 rfl (by kernel_rfl) (by kernel_rfl) (by kernel_rfl) (by kernel_rfl) (by kernel_rfl) (laid_met os)) ?_
  intro W hL
  exact evL_true sccNames_true W (laid_blk hL)

theorem sccNames_row : Rows.SccNamesSaid :=
  OpenClaim.holds_of_wide 6 Tryz.f6 rfl rfl rfl rfl rfl rfl rfl ⟨rfl, rfl, rfl, rfl, rfl⟩ rfl rfl rfl rfl rfl (by kernel_rfl) Tryz.func6 sccNames_joined
    (of_decide_eq_true (by kernel_rfl)) (by unfold Func.isWrapper; first | (rw [if_pos (by decide +kernel)]; kernel_rfl) | (rw [if_neg (by decide +kernel)]; exact ⟨rfl, rfl⟩))
    (fun os started H enc _ => sccNames_lifted os started H enc)

theorem sccNames_holds : Rows.SccNamesCardSaid :=
  Claim7.holds_tied_plain_at .later [] [.data, .data] true Rows.sccNamesCard.stood.harness true
    sccNames_row (fun _ h => by cases h) (by kernel_rfl) (fun _ h => by cases h) sccNames_row_tie rfl ⟨rfl, rfl⟩ (by kernel_rfl) rfl
    (fun f fn hf hfn => by
      obtain rfl : f = 6 := Option.some.inj ((show Tryz.prog.funcNamed "wattle/wattlelaw23.SccNames" = some 6 by kernel_rfl).symm.trans hf) |>.symm
      obtain rfl : fn = Tryz.f6 := (Option.some.inj (Tryz.func6.symm.trans hfn)).symm
      exact ⟨by kernel_rfl, fun j t ht => by
        rw [Tryz.params6] at ht
        simp at ht⟩)
    (by kernel_rfl)
#print axioms sccNames_holds
end Go.Proofs.YtbbfibhllfiofaaGreatDoor
