/- The statement DomTaken: on every input the law's function returns true, and the input reads as it did; two listed variables are tied to the program's text. -/
import Derived.Test.YtbihggbffaigjaaGreatDoorZt9
import Derived.Test.YtbihggbffaigjaaGreatDoorCards
import Derived.Test.YtbihggbffaigjaaGreatDoorTie
import Derived.SevenTiedAt
namespace Go.Proofs.YtbihggbffaigjaaGreatDoor
open Go Go.ChangeShapes Go.WideShapes Go.ChangeAt Go.RowKit
open Go.ChangeMaps (open_string shut_string)
set_option linter.all false
set_option maxRecDepth 1000000
theorem domTaken_laid_met (os:Os):laidMetH Tryz.prog Rows.domTakenRow.laid ((limWorld os).forCall (λ_ _=>0) ⟨#[],#[.int .i64 0,.slice none 0 0,.int .i64 0,.slice none 0 0],[]⟩).memory:=
  (MakeChecks.laidMetH_plain _ _ _ (by kernel_rfl))▸laidMet_of_run (ps:=[.cell 1 0,.cell 1 1,.cell 2 0,.cell 2 1]) 8 (by kernel_rfl) (by kernel_rfl) (by kernel_rfl)
theorem domTaken_lifted (os:Os)(started:os.Started)(H:Type)(enc:TypeId×Value->H):
    ReturnsInHanded {} Tryz.checked os 5 .any (λw args=>(Rows.domTakenSpec.pre enc Tryz.prog Tryz.f5 [] false w args/\laidMetH Tryz.prog Rows.domTakenRow.laid w)/\sizedMet enc Tryz.prog Tryz.f5 (OpenSpec.ofChange Rows.domTakenSpec) false w args) (Rows.domTakenSpec.post enc Tryz.prog Tryz.f5 false true false false):=by
  refine law_lifted_tied (C:=Tryz.checked) (fn:=Tryz.f5) (ts:=[3,22,3,43]) own started laidOut (by kernel_rfl) Tryz.func5 rfl (by kernel_rfl) rfl Tryz.underlying4 rfl (by kernel_rfl) (λds h=>?_)
    (ChangeSpec.witness_at (enc:=enc) (C:=Tryz.checked) (os:=os) (X:=λw _=>laidMetH Tryz.prog Rows.domTakenRow.laid w) false (limWorld os) #[.int .i64 0,.slice none 0 0,.int .i64 0,.slice none 0 0] 8 rfl (by kernel_rfl) (by kernel_rfl) (by kernel_rfl) (by kernel_rfl) (by kernel_rfl) (domTaken_laid_met os)) ?_
  · match ds,h with
    |[_,_,_,_],_=>rfl
  · intro W base args ds ps hsh hlm hval hA hfz hsz
    obtain⟨hG,hU⟩:=laid_two rfl hsh hlm
    obtain⟨v0,vs0,d0,ds0,p0,q0,rfl,rfl,rfl,h0,r0⟩:=trodAll_cons hA
    obtain⟨v1,vs1,d1,ds1,p1,q1,rfl,rfl,rfl,h1,r1⟩:=trodAll_cons r0
    obtain⟨v2,vs2,d2,ds2,p2,q2,rfl,rfl,rfl,h2,r2⟩:=trodAll_cons r1
    obtain⟨v3,vs3,d3,ds3,p3,q3,rfl,rfl,rfl,h3,r3⟩:=trodAll_cons r2
    obtain⟨rfl,rfl,rfl⟩:=trodAll_nil r3
    have hwt:∀(j:Nat) t d,[3,22,3,43][j]? =some t->[d0,d1,d2,d3][j]? =some d->∀n∈d.weights Tryz.prog t,n<=reachBytes:=λj t d ht hd n hn=>by
      have:=List.all_eq_true.1 hsz _ (DataW.weights_mem_each ht hd n hn)
      simpa using this
    obtain⟨f0,h0⟩:=h0
    obtain⟨n0,e0,-,w0⟩:=DataW.trod_int Tryz.underlying3 h0
    obtain⟨z0,rfl⟩:=okWide_int Tryz.underlying3 (hval 0 _ v0 rfl rfl)
    obtain rfl:z0=n0:=by simpa[Value.cells] using e0
    obtain⟨f2,h2⟩:=h2
    obtain⟨n2,e2,-,w2⟩:=DataW.trod_int Tryz.underlying3 h2
    obtain⟨z2,rfl⟩:=okWide_int Tryz.underlying3 (hval 2 _ v2 rfl rfl)
    obtain rfl:z2=n2:=by simpa[Value.cells] using e2
    obtain⟨f1,h1⟩:=h1
    obtain⟨a1,l1,c1,rfl⟩:=okWide_slice Tryz.underlying22 (hval 1 _ v1 rfl rfl)
    obtain⟨ea,ec,es,e1,hE,hes⟩:=open_edges h1 (hwt 1 _ d1 rfl rfl)
    obtain⟨rfl,rfl,rfl⟩:a1=ea/\l1=es.length/\c1=ec:=by simpa using e1
    obtain⟨f3,h3⟩:=h3
    obtain⟨a3,l3,c3,rfl⟩:=okWide_slice Tryz.underlying43 (hval 3 _ v3 rfl rfl)
    obtain⟨la,lc,ls,e3,hL,hls⟩:=open_stops h3 (hwt 3 _ d3 rfl rfl)
    obtain⟨rfl,rfl,rfl⟩:a3=la/\l3=ls.length/\c3=lc:=by simpa using e3
    exact domtaken_ret hG hU z0 z2 (i64_in _ w2) (i64_in _ w0) hes hE hls hL
set_option maxHeartbeats 64000000 in
theorem domTaken_row:Rows.DomTakenSaid:=
  OpenClaim.holds_of_wide 5 Tryz.f5 rfl rfl rfl rfl rfl rfl rfl ⟨rfl,rfl,rfl,rfl,rfl⟩ rfl rfl rfl rfl rfl (by kernel_rfl) Tryz.func5 (by unfold joinedFacts;repeat' (with_reducible refine(Bool.and_eq_true _ _).mpr ⟨?_,?_⟩);all_goals as_aux_lemma=>kernel_rfl)
    (of_decide_eq_true (by kernel_rfl)) (by unfold Func.isWrapper;first|(rw[if_pos (by decide+kernel)];kernel_rfl)|(rw[if_neg (by decide+kernel)];exact⟨rfl,rfl⟩))
    (λos started H enc _=>domTaken_lifted os started H enc)
theorem domTaken_holds:Rows.DomTakenCardSaid:=
  Claim7.holds_tied_plain_at .later [] [.data,.data] true Rows.domTakenCard.stood.harness true
    domTaken_row (λ_ h=>by cases h) (by kernel_rfl) (λ_ h=>by cases h) domTaken_row_tie rfl ⟨rfl,rfl⟩ (by kernel_rfl) rfl
    (λf fn hf hfn=>by
      obtain rfl:f=5:=Option.some.inj ((show Tryz.prog.funcNamed "wattle/wattlelaw24.DomTaken"=some 5 by kernel_rfl).symm.trans hf) |>.symm
      obtain rfl:fn=Tryz.f5:=(Option.some.inj (Tryz.func5.symm.trans hfn)).symm
      exact⟨by kernel_rfl,λj t ht=>by
        rw[Tryz.params5] at ht
        match j,ht with
        |0,ht=>cases ht;show Tryz.prog.wantsStandIn 3=false;kernel_rfl
        |1,ht=>cases ht;show Tryz.prog.wantsStandIn 22=false;kernel_rfl
        |2,ht=>cases ht;show Tryz.prog.wantsStandIn 3=false;kernel_rfl
        |3,ht=>cases ht;show Tryz.prog.wantsStandIn 43=false;kernel_rfl
        |j+4,ht=>simp at ht⟩)
    (by kernel_rfl)
#print axioms domTaken_holds
end Go.Proofs.YtbihggbffaigjaaGreatDoor
