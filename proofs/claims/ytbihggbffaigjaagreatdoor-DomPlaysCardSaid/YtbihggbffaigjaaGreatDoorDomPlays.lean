/- The statement DomPlays: on every input the law's function returns true, and the input reads as it did; two listed variables are tied to the program's text. -/
import Derived.Test.YtbihggbffaigjaaGreatDoorZp9
import Derived.Test.YtbihggbffaigjaaGreatDoorCards
import Derived.Test.YtbihggbffaigjaaGreatDoorTie
import Derived.SevenTiedAt
namespace Go.Proofs.YtbihggbffaigjaaGreatDoor
open Go Go.ChangeShapes Go.WideShapes Go.ChangeAt Go.RowKit
open Go.ChangeMaps (open_string shut_string)
set_option linter.all false
set_option maxRecDepth 1000000
theorem domPlays_laid_met (os:Os):laidMetH Tryz.prog Rows.domPlaysRow.laid ((limWorld os).forCall (λ_ _=>0) ⟨#[],#[.int .i64 0,.slice none 0 0,.int .i64 0,.int .i64 0,.int .i64 0,.slice none 0 0],[]⟩).memory:=
  (MakeChecks.laidMetH_plain _ _ _ (by kernel_rfl))▸laidMet_of_run (ps:=[.cell 1 0,.cell 1 1,.cell 2 0,.cell 2 1]) 8 (by kernel_rfl) (by kernel_rfl) (by kernel_rfl)
theorem domPlays_lifted (os:Os)(started:os.Started)(H:Type)(enc:TypeId×Value->H):
    ReturnsInHanded {} Tryz.checked os 6 .any (λw args=>(Rows.domPlaysSpec.pre enc Tryz.prog Tryz.f6 [] false w args/\laidMetH Tryz.prog Rows.domPlaysRow.laid w)/\sizedMet enc Tryz.prog Tryz.f6 (OpenSpec.ofChange Rows.domPlaysSpec) false w args) (Rows.domPlaysSpec.post enc Tryz.prog Tryz.f6 false true false false):=by
  refine law_lifted_tied (C:=Tryz.checked) (fn:=Tryz.f6) (ts:=[3,22,3,3,3,60]) own started laidOut (by kernel_rfl) Tryz.func6 rfl (by kernel_rfl) rfl Tryz.underlying4 rfl (by kernel_rfl) (λds h=>?_)
    (ChangeSpec.witness_at (enc:=enc) (C:=Tryz.checked) (os:=os) (X:=λw _=>laidMetH Tryz.prog Rows.domPlaysRow.laid w) false (limWorld os) #[.int .i64 0,.slice none 0 0,.int .i64 0,.int .i64 0,.int .i64 0,.slice none 0 0] 8 rfl (by kernel_rfl) (by kernel_rfl) (by kernel_rfl) (by kernel_rfl) (by kernel_rfl) (domPlays_laid_met os)) ?_
  · match ds,h with
    |[_,_,_,_,_,_],_=>rfl
  · intro W base args ds ps hsh hlm hval hA hfz hsz
    obtain⟨hG,hU⟩:=laid_two rfl hsh hlm
    obtain⟨v0,vs0,d0,ds0,p0,q0,rfl,rfl,rfl,h0,r0⟩:=trodAll_cons hA
    obtain⟨v1,vs1,d1,ds1,p1,q1,rfl,rfl,rfl,h1,r1⟩:=trodAll_cons r0
    obtain⟨v2,vs2,d2,ds2,p2,q2,rfl,rfl,rfl,h2,r2⟩:=trodAll_cons r1
    obtain⟨v3,vs3,d3,ds3,p3,q3,rfl,rfl,rfl,h3,r3⟩:=trodAll_cons r2
    obtain⟨v4,vs4,d4,ds4,p4,q4,rfl,rfl,rfl,h4,r4⟩:=trodAll_cons r3
    obtain⟨v5,vs5,d5,ds5,p5,q5,rfl,rfl,rfl,h5,r5⟩:=trodAll_cons r4
    obtain⟨rfl,rfl,rfl⟩:=trodAll_nil r5
    have hwt:∀(j:Nat) t d,[3,22,3,3,3,60][j]? =some t->[d0,d1,d2,d3,d4,d5][j]? =some d->∀n∈d.weights Tryz.prog t,n<=reachBytes:=λj t d ht hd n hn=>by
      have:=List.all_eq_true.1 hsz _ (DataW.weights_mem_each ht hd n hn)
      simpa using this
    obtain⟨f0,h0⟩:=h0
    obtain⟨n0,e0,-,w0⟩:=DataW.trod_int Tryz.underlying3 h0
    obtain⟨z0,rfl⟩:=okWide_int Tryz.underlying3 (hval 0 _ v0 rfl rfl)
    obtain rfl:z0=n0:=by simpa[Value.cells] using e0
    obtain⟨f2,h2⟩:=h2
    obtain⟨n2,e2,-,w2⟩:=DataW.trod_int Tryz.underlying3 h2
    obtain⟨z2,rfl⟩:=okWide_int Tryz.underlying3 (hval 2 _ v2 rfl rfl)
    obtain rfl:z2=n2:=by simpa[Value.cells] using e2
    obtain⟨f3,h3⟩:=h3
    obtain⟨n3,e3,-,w3⟩:=DataW.trod_int Tryz.underlying3 h3
    obtain⟨z3,rfl⟩:=okWide_int Tryz.underlying3 (hval 3 _ v3 rfl rfl)
    obtain rfl:z3=n3:=by simpa[Value.cells] using e3
    obtain⟨f4,h4⟩:=h4
    obtain⟨n4,e4,-,w4⟩:=DataW.trod_int Tryz.underlying3 h4
    obtain⟨z4,rfl⟩:=okWide_int Tryz.underlying3 (hval 4 _ v4 rfl rfl)
    obtain rfl:z4=n4:=by simpa[Value.cells] using e4
    obtain⟨f1,h1⟩:=h1
    obtain⟨a1,l1,c1,rfl⟩:=okWide_slice Tryz.underlying22 (hval 1 _ v1 rfl rfl)
    obtain⟨ea,ec,es,e1,hE,hes⟩:=open_edges h1 (hwt 1 _ d1 rfl rfl)
    obtain⟨rfl,rfl,rfl⟩:a1=ea/\l1=es.length/\c1=ec:=by simpa using e1
    obtain⟨f5,h5⟩:=h5
    obtain⟨a5,l5,c5,rfl⟩:=okWide_slice Tryz.underlying60 (hval 5 _ v5 rfl rfl)
    obtain⟨la,lc,ls,e5,hL,hls⟩:=open_opqs h5 (hwt 5 _ d5 rfl rfl)
    obtain⟨rfl,rfl,rfl⟩:a5=la/\l5=ls.length/\c5=lc:=by simpa using e5
    exact domplays_ret hG hU z0 z2 z3 z4 (i64_in _ w0) (i64_in _ w2) (i64_in _ w3) (i64_in _ w4) hes hE hls hL
set_option maxHeartbeats 64000000 in
theorem domPlays_row:Rows.DomPlaysSaid:=
  OpenClaim.holds_of_wide 6 Tryz.f6 rfl rfl rfl rfl rfl rfl rfl ⟨rfl,rfl,rfl,rfl,rfl⟩ rfl rfl rfl rfl rfl (by kernel_rfl) Tryz.func6 (by unfold joinedFacts;repeat' (with_reducible refine(Bool.and_eq_true _ _).mpr ⟨?_,?_⟩);all_goals as_aux_lemma=>kernel_rfl)
    (of_decide_eq_true (by kernel_rfl)) (by unfold Func.isWrapper;first|(rw[if_pos (by decide+kernel)];kernel_rfl)|(rw[if_neg (by decide+kernel)];exact⟨rfl,rfl⟩))
    (λos started H enc _=>domPlays_lifted os started H enc)
theorem domPlays_holds:Rows.DomPlaysCardSaid:=
  Claim7.holds_tied_plain_at .later [] [.data,.data] true Rows.domPlaysCard.stood.harness true
    domPlays_row (λ_ h=>by cases h) (by kernel_rfl) (λ_ h=>by cases h) domPlays_row_tie rfl ⟨rfl,rfl⟩ (by kernel_rfl) rfl
    (λf fn hf hfn=>by
      obtain rfl:f=6:=Option.some.inj ((show Tryz.prog.funcNamed "wattle/wattlelaw24.DomPlays"=some 6 by kernel_rfl).symm.trans hf) |>.symm
      obtain rfl:fn=Tryz.f6:=(Option.some.inj (Tryz.func6.symm.trans hfn)).symm
      exact⟨by kernel_rfl,λj t ht=>by
        rw[Tryz.params6] at ht
        match j,ht with
        |0,ht=>cases ht;show Tryz.prog.wantsStandIn 3=false;kernel_rfl
        |1,ht=>cases ht;show Tryz.prog.wantsStandIn 22=false;kernel_rfl
        |2,ht=>cases ht;show Tryz.prog.wantsStandIn 3=false;kernel_rfl
        |3,ht=>cases ht;show Tryz.prog.wantsStandIn 3=false;kernel_rfl
        |4,ht=>cases ht;show Tryz.prog.wantsStandIn 3=false;kernel_rfl
        |5,ht=>cases ht;show Tryz.prog.wantsStandIn 60=false;kernel_rfl
        |j+6,ht=>simp at ht⟩)
    (by kernel_rfl)
#print axioms domPlays_holds
end Go.Proofs.YtbihggbffaigjaaGreatDoor
