/- The statement BallSketches: on every input the law's function returns true, and the input reads as it did; two listed variables are tied to the program's text. -/
import Derived.Test.YtgdkbagngobdlaaGreatDoorZs9
import Derived.Test.YtgdkbagngobdlaaGreatDoorCards
import Derived.Test.YtgdkbagngobdlaaGreatDoorTie
import Derived.SevenTiedAt
namespace Go.Proofs.YtgdkbagngobdlaaGreatDoor
open Go Go.ChangeShapes Go.WideShapes Go.ChangeAt Go.RowKit
open Go.ChangeMaps (open_string shut_string)
set_option linter.all false
set_option maxRecDepth 1000000
theorem ballSketches_laid_met (os:Os):laidMetH Tryz.prog Rows.ballSketchesRow.laid ((limWorld os).forCall (λ_ _=>0) ⟨#[],#[.agg #[.int .i64 0,.slice none 0 0,.bool false,.int .i64 0,.int .i64 0,.int .i64 0,.int .i64 0,.int .u64 0]],[]⟩).memory:=
  (MakeChecks.laidMetH_plain _ _ _ (by kernel_rfl))▸laidMet_of_run (ps:=[.cell 2 0,.cell 2 1,.cell 3 0,.cell 3 1]) 8 (by kernel_rfl) (by kernel_rfl) (by kernel_rfl)
theorem ballSketches_lifted (os:Os)(started:os.Started)(H:Type)(enc:TypeId×Value->H):
    ReturnsInHanded {} Tryz.checked os 3 .any (λw args=>(Rows.ballSketchesSpec.pre enc Tryz.prog Tryz.f3 [] false w args/\laidMetH Tryz.prog Rows.ballSketchesRow.laid w)/\sizedMet enc Tryz.prog Tryz.f3 (OpenSpec.ofChange Rows.ballSketchesSpec) false w args) (Rows.ballSketchesSpec.post enc Tryz.prog Tryz.f3 false true false false):=by
  refine law_lifted_tied (C:=Tryz.checked) (fn:=Tryz.f3) (ts:=[25]) own started laidOut (by kernel_rfl) Tryz.func3 rfl (by kernel_rfl) rfl Tryz.underlying4 rfl (by kernel_rfl) (λds h=>?_)
    (ChangeSpec.witness_at (enc:=enc) (C:=Tryz.checked) (os:=os) (X:=λw _=>laidMetH Tryz.prog Rows.ballSketchesRow.laid w) false (limWorld os) #[.agg #[.int .i64 0,.slice none 0 0,.bool false,.int .i64 0,.int .i64 0,.int .i64 0,.int .i64 0,.int .u64 0]] 8 rfl (by kernel_rfl) (by kernel_rfl) (by kernel_rfl) (by kernel_rfl) (by kernel_rfl) (ballSketches_laid_met os)) ?_
  · match ds,h with
    |[_],_=>rfl
  · intro W base args ds ps hsh hlm hval hA hfz hsz
    obtain⟨hG,hU⟩:=laid_two rfl hsh hlm
    obtain⟨v0,vs0,d0,ds0,p0,q0,rfl,rfl,rfl,h0,r0⟩:=trodAll_cons hA
    obtain⟨rfl,rfl,rfl⟩:=trodAll_nil r0
    have hwt:∀(j:Nat) t d,[25][j]? =some t->[d0][j]? =some d->∀n∈d.weights Tryz.prog t,n<=reachBytes:=λj t d ht hd n hn=>by
      have:=List.all_eq_true.1 hsz _ (DataW.weights_mem_each ht hd n hn)
      simpa using this
    obtain⟨cs0,rfl,hs0⟩:=okWide_struct Tryz.underlying25 (hval 0 _ v0 rfl rfl)
    obtain⟨f0,h0⟩:=h0
    obtain⟨n,fr,fo,p,ro,sd,pl,ea,ec,es,hcs,hn,hfr,hfo,hp,hro,hsd,hE,hes⟩:=open_net8 h0 (hwt 0 _ d0 rfl rfl)
    have e:Value.agg cs0= .agg #[I n,.slice ea es.length ec,.bool pl,I fr,I fo,I p,I ro,u64v sd]:=by
      have e1:cs0.toList=[I n,.slice ea es.length ec,.bool pl,I fr,I fo,I p,I ro,u64v sd]:=hcs
      have e2:cs0=[I n,.slice ea es.length ec,.bool pl,I fr,I fo,I p,I ro,u64v sd].toArray:=by rw[<-e1,Array.toArray_toList]
      rw[e2]
    rw[e]
    exact sketches_ret hG hU n fr fo p ro sd pl hn hfr hfo hp hro hsd hes hE
set_option maxHeartbeats 64000000 in
theorem ballSketches_row:Rows.BallSketchesSaid:=
  OpenClaim.holds_of_wide 3 Tryz.f3 rfl rfl rfl rfl rfl rfl rfl ⟨rfl,rfl,rfl,rfl,rfl⟩ rfl rfl rfl rfl rfl (by kernel_rfl) Tryz.func3 (by unfold joinedFacts;repeat' (with_reducible refine(Bool.and_eq_true _ _).mpr ⟨?_,?_⟩);all_goals as_aux_lemma=>kernel_rfl)
    (of_decide_eq_true (by kernel_rfl)) (by unfold Func.isWrapper;first|(rw[if_pos (by decide+kernel)];kernel_rfl)|(rw[if_neg (by decide+kernel)];exact⟨rfl,rfl⟩))
    (λos started H enc _=>ballSketches_lifted os started H enc)
theorem ballSketches_holds : Rows.BallSketchesCardSaid :=
  Claim7.holds_tied_plain_at .later [] [.data,.data] true Rows.ballSketchesCard.stood.harness false
    ballSketches_row (λ_ h=>by cases h) (by kernel_rfl) (λ_ h=>by cases h) ballSketches_row_tie rfl ⟨rfl,rfl⟩ (by kernel_rfl) rfl
    (λf fn hf hfn=>by
      obtain rfl:f=3:=Option.some.inj ((show Tryz.prog.funcNamed "wattle/wattlelaw28.BallSketches"=some 3 by kernel_rfl).symm.trans hf) |>.symm
      obtain rfl:fn=Tryz.f3:=(Option.some.inj (Tryz.func3.symm.trans hfn)).symm
      exact⟨by kernel_rfl,λj t ht=>by
        rw[Tryz.params3] at ht
        match j,ht with
        |0,ht=>cases ht;show Tryz.prog.wantsStandIn 25=false;kernel_rfl
        |j+1,ht=>simp at ht⟩)
    (by kernel_rfl)
#print axioms ballSketches_holds
end Go.Proofs.YtgdkbagngobdlaaGreatDoor
