/- The statement BallTaken: on every input the law's function returns true, and the input reads as it did; two listed variables are tied to the program's text. -/
import Derived.Test.YtgdkbagngobdlaaGreatDoorZt9
import Derived.Test.YtgdkbagngobdlaaGreatDoorCards
import Derived.Test.YtgdkbagngobdlaaGreatDoorTie
import Derived.SevenTiedAt
namespace Go.Proofs.YtgdkbagngobdlaaGreatDoor
open Go Go.ChangeShapes Go.WideShapes Go.ChangeAt Go.RowKit
open Go.ChangeMaps (open_string shut_string)
set_option linter.all false
set_option maxRecDepth 1000000
theorem ballTaken_laid_met (os:Os):laidMetH Tryz.prog Rows.ballTakenRow.laid ((limWorld os).forCall (λ_ _=>0) ⟨#[],#[.agg #[.int .i64 0,.slice none 0 0,.bool false,.int .i64 0,.int .i64 0,.int .i64 0,.int .i64 0,.int .u64 0],.slice none 0 0],[]⟩).memory:=
  (MakeChecks.laidMetH_plain _ _ _ (by kernel_rfl))▸laidMet_of_run (ps:=[.cell 2 0,.cell 2 1,.cell 3 0,.cell 3 1]) 8 (by kernel_rfl) (by kernel_rfl) (by kernel_rfl)
theorem ballTaken_lifted (os:Os)(started:os.Started)(H:Type)(enc:TypeId×Value->H):
    ReturnsInHanded {} Tryz.checked os 4 .any (λw args=>(Rows.ballTakenSpec.pre enc Tryz.prog Tryz.f4 [] false w args/\laidMetH Tryz.prog Rows.ballTakenRow.laid w)/\sizedMet enc Tryz.prog Tryz.f4 (OpenSpec.ofChange Rows.ballTakenSpec) false w args) (Rows.ballTakenSpec.post enc Tryz.prog Tryz.f4 false true false false):=by
  refine law_lifted_tied (C:=Tryz.checked) (fn:=Tryz.f4) (ts:=[25,56]) own started laidOut (by kernel_rfl) Tryz.func4 rfl (by kernel_rfl) rfl Tryz.underlying4 rfl (by kernel_rfl) (λds h=>?_)
    (ChangeSpec.witness_at (enc:=enc) (C:=Tryz.checked) (os:=os) (X:=λw _=>laidMetH Tryz.prog Rows.ballTakenRow.laid w) false (limWorld os) #[.agg #[.int .i64 0,.slice none 0 0,.bool false,.int .i64 0,.int .i64 0,.int .i64 0,.int .i64 0,.int .u64 0],.slice none 0 0] 8 rfl (by kernel_rfl) (by kernel_rfl) (by kernel_rfl) (by kernel_rfl) (by kernel_rfl) (ballTaken_laid_met os)) ?_
  · match ds,h with
    |[_,_],_=>rfl
  · intro W base args ds ps hsh hlm hval hA hfz hsz
    obtain⟨hG,hU⟩:=laid_two rfl hsh hlm
    obtain⟨v0,vs0,d0,ds0,p0,q0,rfl,rfl,rfl,h0,r0⟩:=trodAll_cons hA
    obtain⟨v1,vs1,d1,ds1,p1,q1,rfl,rfl,rfl,h1,r1⟩:=trodAll_cons r0
    obtain⟨rfl,rfl,rfl⟩:=trodAll_nil r1
    have hwt:∀(j:Nat) t d,[25,56][j]? =some t->[d0,d1][j]? =some d->∀n∈d.weights Tryz.prog t,n<=reachBytes:=λj t d ht hd n hn=>by
      have:=List.all_eq_true.1 hsz _ (DataW.weights_mem_each ht hd n hn)
      simpa using this
    obtain⟨cs0,rfl,hs0⟩:=okWide_struct Tryz.underlying25 (hval 0 _ v0 rfl rfl)
    obtain⟨f0,h0⟩:=h0
    obtain⟨n,fr,fo,p,ro,sd,pl,ea,ec,es,hcs,hn,hfr,hfo,hp,hro,hsd,hE,hes⟩:=open_net8 h0 (hwt 0 _ d0 rfl rfl)
    have e:Value.agg cs0= .agg #[I n,.slice ea es.length ec,.bool pl,I fr,I fo,I p,I ro,u64v sd]:=by
      have e1:cs0.toList=[I n,.slice ea es.length ec,.bool pl,I fr,I fo,I p,I ro,u64v sd]:=hcs
      have e2:cs0=[I n,.slice ea es.length ec,.bool pl,I fr,I fo,I p,I ro,u64v sd].toArray:=by rw[<-e1,Array.toArray_toList]
      rw[e2]
    rw[e]
    obtain⟨f1,h1⟩:=h1
    obtain⟨a1,l1,c1,rfl⟩:=okWide_slice Tryz.underlying56 (hval 1 _ v1 rfl rfl)
    obtain⟨la,lc,ls,e3,hL,hls⟩:=open_stops h1 (hwt 1 _ d1 rfl rfl)
    obtain⟨rfl,rfl,rfl⟩:a1=la/\l1=ls.length/\c1=lc:=by simpa using e3
    exact bltaken_ret hG hU n fr fo p ro sd pl hn hfr hfo hp hro hsd hes hE hls hL
set_option maxHeartbeats 64000000 in
theorem ballTaken_row:Rows.BallTakenSaid:=
  OpenClaim.holds_of_wide 4 Tryz.f4 rfl rfl rfl rfl rfl rfl rfl ⟨rfl,rfl,rfl,rfl,rfl⟩ rfl rfl rfl rfl rfl (by kernel_rfl) Tryz.func4 (by unfold joinedFacts;repeat' (with_reducible refine(Bool.and_eq_true _ _).mpr ⟨?_,?_⟩);all_goals as_aux_lemma=>kernel_rfl)
    (of_decide_eq_true (by kernel_rfl)) (by unfold Func.isWrapper;first|(rw[if_pos (by decide+kernel)];kernel_rfl)|(rw[if_neg (by decide+kernel)];exact⟨rfl,rfl⟩))
    (λos started H enc _=>ballTaken_lifted os started H enc)
theorem ballTaken_holds:Rows.BallTakenCardSaid:=
  Claim7.holds_tied_plain_at .later [] [.data,.data] true Rows.ballTakenCard.stood.harness false
    ballTaken_row (λ_ h=>by cases h) (by kernel_rfl) (λ_ h=>by cases h) ballTaken_row_tie rfl ⟨rfl,rfl⟩ (by kernel_rfl) rfl
    (λf fn hf hfn=>by
      obtain rfl:f=4:=Option.some.inj ((show Tryz.prog.funcNamed "wattle/wattlelaw28.BallTaken"=some 4 by kernel_rfl).symm.trans hf) |>.symm
      obtain rfl:fn=Tryz.f4:=(Option.some.inj (Tryz.func4.symm.trans hfn)).symm
      exact⟨by kernel_rfl,λj t ht=>by
        rw[Tryz.params4] at ht
        match j,ht with
        |0,ht=>cases ht;show Tryz.prog.wantsStandIn 25=false;kernel_rfl
        |1,ht=>cases ht;show Tryz.prog.wantsStandIn 56=false;kernel_rfl
        |j+2,ht=>simp at ht⟩)
    (by kernel_rfl)
#print axioms ballTaken_holds
end Go.Proofs.YtgdkbagngobdlaaGreatDoor
