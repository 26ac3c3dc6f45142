/- The statement CorePlays: on every input the law's function returns true, and the input reads as it did; two listed variables are tied to the program's text. -/
import Derived.Test.YtfgjaafcgghnoaaGreatDoorCPp9
import Derived.Test.YtfgjaafcgghnoaaGreatDoorCards
import Derived.Test.YtfgjaafcgghnoaaGreatDoorTie
import Derived.SevenTiedAt
namespace Go.Proofs.YtfgjaafcgghnoaaGreatDoor
open Go Go.ChangeShapes Go.WideShapes Go.ChangeAt Go.RowKit
open Go.ChangeMaps (open_string shut_string)
set_option linter.all false
set_option maxRecDepth 1000000
theorem corePlays_laid_met (os:Os):laidMetH Tryz.prog Rows.corePlaysRow.laid ((limWorld os).forCall (λ_ _=>0) ⟨#[],#[.agg #[.int .i64 0,.slice none 0 0,.bool false,.int .i64 0,.int .i64 0],.slice none 0 0],[]⟩).memory:=
  (MakeChecks.laidMetH_plain _ _ _ (by kernel_rfl))▸laidMet_of_run (ps:=[.cell 0 0,.cell 0 1,.cell 1 0,.cell 1 1]) 8 (by kernel_rfl) (by kernel_rfl) (by kernel_rfl)
theorem corePlays_lifted (os:Os)(started:os.Started)(H:Type)(enc:TypeId×Value->H):
    ReturnsInHanded {} Tryz.checked os 5 .any (λw args=>(Rows.corePlaysSpec.pre enc Tryz.prog Tryz.f5 [] false w args/\laidMetH Tryz.prog Rows.corePlaysRow.laid w)/\sizedMet enc Tryz.prog Tryz.f5 (OpenSpec.ofChange Rows.corePlaysSpec) false w args) (Rows.corePlaysSpec.post enc Tryz.prog Tryz.f5 false true false false):=by
  refine law_lifted_tied (C:=Tryz.checked) (fn:=Tryz.f5) (ts:=[24,60]) own started laidOut (by kernel_rfl) Tryz.func5 rfl (by kernel_rfl) rfl Tryz.underlying4 rfl (by kernel_rfl) (λds h=>?_)
    (ChangeSpec.witness_at (enc:=enc) (C:=Tryz.checked) (os:=os) (X:=λw _=>laidMetH Tryz.prog Rows.corePlaysRow.laid w) false (limWorld os) #[.agg #[.int .i64 0,.slice none 0 0,.bool false,.int .i64 0,.int .i64 0],.slice none 0 0] 8 rfl (by kernel_rfl) (by kernel_rfl) (by kernel_rfl) (by kernel_rfl) (by kernel_rfl) (corePlays_laid_met os)) ?_
  · match ds,h with
    |[_,_],_=>rfl
  · intro W base args ds ps hsh hlm hval hA hfz hsz
    obtain⟨hG,hU⟩:=laid_two rfl hsh hlm
    obtain⟨v0,vs0,d0,ds0,p0,q0,rfl,rfl,rfl,h0,r0⟩:=trodAll_cons hA
    obtain⟨v1,vs1,d1,ds1,p1,q1,rfl,rfl,rfl,h1,r1⟩:=trodAll_cons r0
    obtain⟨rfl,rfl,rfl⟩:=trodAll_nil r1
    have hwt:∀(j:Nat) t d,[24,60][j]? =some t->[d0,d1][j]? =some d->∀n∈d.weights Tryz.prog t,n<=reachBytes:=λj t d ht hd n hn=>by
      have:=List.all_eq_true.1 hsz _ (DataW.weights_mem_each ht hd n hn)
      simpa using this
    obtain⟨cs0,rfl,hs0⟩:=okWide_struct Tryz.underlying24 (hval 0 _ v0 rfl rfl)
    obtain⟨f0,h0⟩:=h0
    obtain⟨n,fr,fo,pl,ea,ec,es,hcs,hn,hfr,hfo,hE,hes⟩:=open_net h0 (hwt 0 _ d0 rfl rfl)
    have e:Value.agg cs0= .agg #[I n,.slice ea es.length ec,.bool pl,I fr,I fo]:=by
      have e1:cs0.toList=[I n,.slice ea es.length ec,.bool pl,I fr,I fo]:=hcs
      have e2:cs0=[I n,.slice ea es.length ec,.bool pl,I fr,I fo].toArray:=by rw[<-e1,Array.toArray_toList]
      rw[e2]
    rw[e]
    obtain⟨f1,h1⟩:=h1
    obtain⟨a1,l1,c1,rfl⟩:=okWide_slice Tryz.underlying60 (hval 1 _ v1 rfl rfl)
    obtain⟨la,lc,ls,e3,hL,hls⟩:=open_cops h1 (hwt 1 _ d1 rfl rfl)
    obtain⟨rfl,rfl,rfl⟩:a1=la/\l1=ls.length/\c1=lc:=by simpa using e3
    exact plays_ret hG hU n fr fo pl hn hfr hfo hes hE hls hL
theorem corePlays_row:Rows.CorePlaysSaid:=
  OpenClaim.holds_of_wide 5 Tryz.f5 rfl rfl rfl rfl rfl rfl rfl ⟨rfl,rfl,rfl,rfl,rfl⟩ rfl rfl rfl rfl rfl (by kernel_rfl) Tryz.func5 (by kernel_rfl)
    (of_decide_eq_true (by kernel_rfl)) (by unfold Func.isWrapper;first|(rw[if_pos (by decide+kernel)];kernel_rfl)|(rw[if_neg (by decide+kernel)];exact⟨rfl,rfl⟩))
    (λos started H enc _=>corePlays_lifted os started H enc)
theorem corePlays_holds : Rows.CorePlaysCardSaid :=
  Claim7.holds_tied_plain_at .later [] [.data,.data] true Rows.corePlaysCard.stood.harness false
    corePlays_row (λ_ h=>by cases h) (by kernel_rfl) (λ_ h=>by cases h) corePlays_row_tie rfl ⟨rfl,rfl⟩ (by kernel_rfl) rfl
    (λf fn hf hfn=>by
      obtain rfl:f=5:=Option.some.inj ((show Tryz.prog.funcNamed "wattle/wattlelaw25.CorePlays"=some 5 by kernel_rfl).symm.trans hf) |>.symm
      obtain rfl:fn=Tryz.f5:=(Option.some.inj (Tryz.func5.symm.trans hfn)).symm
      exact⟨by kernel_rfl,λj t ht=>by
        rw[Tryz.params5] at ht
        match j,ht with
        |0,ht=>cases ht;show Tryz.prog.wantsStandIn 24=false;kernel_rfl
        |1,ht=>cases ht;show Tryz.prog.wantsStandIn 60=false;kernel_rfl
        |j+2,ht=>simp at ht⟩)
    (by kernel_rfl)
#print axioms corePlays_holds
end Go.Proofs.YtfgjaafcgghnoaaGreatDoor
