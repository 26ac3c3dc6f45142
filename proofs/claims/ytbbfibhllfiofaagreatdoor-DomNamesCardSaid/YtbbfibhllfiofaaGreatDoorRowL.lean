/- The frame of a law's row that lists variables of packages (structs of two whole numbers), and of its tied card. -/
import Derived.Test.YtbbfibhllfiofaaGreatDoorRow
import Derived.Test.YtbbfibhllfiofaaGreatDoorEvZ
import Derived.LaidLaws
import Derived.MakeChecks
import Derived.Handed
namespace Go.Proofs.YtbbfibhllfiofaaGreatDoor
open Go Go.ChangeShapes Go.WideShapes Go.ChangeAt Go.RowKit
set_option linter.all false

theorem law_lifted_laid {H : Type} {enc : TypeId × Value → H} {C : Checked} {os : Os} {f : FuncId} {fn : Func} {s : ChangeSpec} {t : TypeId} {laid : List (String × DataW Unit)}
    (own : ownKnob C.prog.godebug = none) (started : os.Started) (noInit : C.prog.inits.idxOf? f = none) (hfn : C.prog.funcs[f]? = some fn)
    (hts : fn.params.toList = []) (hrt : fn.resultTypes = #[t]) (hb : C.prog.underlying t = some .bool) (hsv : s.vars = [])
    (hpl : (laid.all fun x => x.2.handleName?.isNone) = true) (hspec : s.fn H [] = { results := [.lit (.bool true)], args := [] })
    (witness : ∃ (w : World) (tape : Tape) (i : Input), w.os = os ∧ (w.forCall tape i).Shaped C.prog ∧ i.vars = [] ∧ Input.okWide C.prog (w.forCall tape i) .any w.heap.size f i ∧
      ((s.pre enc C.prog fn [] false (w.forCall tape i).memory i.args ∧ laidMetH C.prog laid (w.forCall tape i).memory) ∧ sizedMet enc C.prog fn (OpenSpec.ofChange s) false (w.forCall tape i).memory i.args) ∧ ({} : Assume).holds C.prog (lone (Frame.enter C.prog f i.args .normal) [] (w.forCall tape i)))
    (hret : ∀ (W : World), laidMet C.prog laid W → Ret C.prog f [] W fun v w' => v = .bool true ∧ Ext W w') :
    ReturnsInHanded {} C os f .any (fun w args => (s.pre enc C.prog fn [] false w args ∧ laidMetH C.prog laid w) ∧ sizedMet enc C.prog fn (OpenSpec.ofChange s) false w args) (s.post enc C.prog fn false true false false) := by
  refine returnsInHanded_of_change_and (C := C) (X := fun w _ => laidMetH C.prog laid w) (fun _ _ _ hh h => by
    rw [MakeChecks.laidMetH_plain _ _ _ hpl] at h ⊢
    exact h.of_heap hh) own started noInit hfn witness ?_
  intro W base args ds gs before hval0 hW _ _ hL _
  have hW' := hW
  obtain ⟨p, q, hA, hV, rfl, hfz, _⟩ := hW
  rw [hsv] at hV
  obtain ⟨rfl, rfl⟩ := trodVars_none hV
  rw [hts] at hA
  obtain ⟨ha, rfl, rfl⟩ := trodAll_nil hA
  have hargs : args = #[] := by apply Array.toList_inj.1; exact ha
  rw [MakeChecks.laidMetH_plain _ _ _ hpl] at hL
  have hr := hret W hL
  unfold Ret at hr
  rw [hargs] at hW' ⊢
  refine Calls.mono hr fun x W' ⟨v, hx, hv, hext⟩ => ?_
  subst hx; subst hv
  have bel := hext.below
  refine ⟨_, rfl, [], [], [] ++ [], [], [], [], hW', ?_, ?_, ?_, bel.frame _, fun h => by cases h⟩
  · rw [List.append_nil, hspec, hrt]
    exact trodAll_mk1 (shut_bool hb _)
  · rw [List.append_nil, hspec, hts]
    trivial
  · rw [hsv, List.append_nil, hspec]
    rfl

theorem pair_cells {P : Program} {W : World} {t fuel : Nat} {cs : Array Value} {f0 f1 : Field} {ka kb : IntKind} {a b : Int} {p : List MemPlace} (hs : P.underlying t = some (.struct #[f0, f1])) (hc : P.cellsOf t = 2) (o0 : f0.offset = 0) (o1 : f1.offset = 1)
    (c0 : P.cellsOf f0.type = 1) (c1 : P.cellsOf f1.type = 1) (u0 : P.underlying f0.type = some (.int ka)) (u1 : P.underlying f1.type = some (.int kb))
    (hd : DataW.trod (fun _ => ()) P W 0 (fun _ => true) false fuel t cs.toList = some (.agg [.lit (.int ka a), .lit (.int kb b)], p)) : cs.toList = [.int ka a, .int kb b] := by
  obtain ⟨y0, y1, n, hx, hl, h0, h1⟩ := trod_struct2 hs hd
  obtain ⟨v0, e0, rfl, -⟩ := DataW.trod_int u0 h0
  obtain ⟨v1, e1, rfl, -⟩ := DataW.trod_int u1 h1
  rw [hc] at hl
  rw [o0, c0] at e0
  rw [o1, c1] at e1
  simp at hx
  obtain ⟨⟨rfl, rfl⟩, -⟩ := hx
  match hcs : cs.toList, hl with
  | [x, y], _ =>
    rw [hcs] at e0 e1
    simp at e0 e1
    rw [e0, e1]
theorem blk_laid {P : Program} {W : World} {n : String} {g : Nat} {cs : Array Value} {l : List Value} (hg : P.globalNamed n = some g) (hv : W.var? P n = some cs) (hcs : cs.toList = l) (hfz : ∃ c t, W.heap[g]? = some (.cells c t (0, 0))) :
    ∃ us us' T fz, BlkF W g (us ++ us') T fz ∧ us = l := by
  obtain ⟨c, t, hh⟩ := hfz
  simp only [World.var?, hg, Option.bind_some, hh] at hv
  have hc : c = cs := by simpa using hv
  subst hc
  refine ⟨l, [], t, (0, 0), ⟨?_, fun i _ hh => by simp at hh⟩, rfl⟩
  rw [hh, ← hcs]; simp
end Go.Proofs.YtbbfibhllfiofaaGreatDoor
