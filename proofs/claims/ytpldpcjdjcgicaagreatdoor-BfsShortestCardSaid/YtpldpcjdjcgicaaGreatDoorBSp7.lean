/- Texts ArD, ArE, ArF, ArG, PlA, PlB, PlC, PlD, PlE, PlF, PlG, ShR, Bdr, StP, VcP, one behind the other (what the statement BfsShortest does not use is left out). -/
import Derived.Test.YtpldpcjdjcgicaaGreatDoorBSp2
import Derived.Test.YtpldpcjdjcgicaaGreatDoorBSp6
import Derived.Shelf.Strings.Repeat
import Derived.Test.YtpldpcjdjcgicaaGreatDoorProg
set_option maxHeartbeats 16000000
namespace Go.Proofs.YtpldpcjdjcgicaaGreatDoor
open Go Go.RowKit
set_option linter.all false
set_option maxRecDepth 100000
def MQ (WG:Bool)(g:Option Int):List Value:=[.bool WG,.bool g.isSome,I (g.getD 0)]
abbrev z7F (WG:Bool)(g:Option Int):Value:= .agg (MQ WG g).toArray
section
variable {w w' w2:World}{c p:Nat}{A A' A2:Arc}{V V' V2:Nat->Value×Value}{S:Nat->Prop}{k:Int}
theorem Arc.Ok.lens (h:A.Ok)(co:A.size<=1000)(j:Nat):(A.li j).length<=2000:=by
 have h1:=h.held
 have h2:=h.first
 have h3:=h.total
 have h4:=A.Mo
 unfold Arc.li
 split<;>omega
theorem OB (h : NR w c A V p)(hA : A.Ok)(co : A.size <= 1000)(bo : Bool) : Lk Tryz.prog 160 [ptr c 0, .bool bo] w fun v w' => v = z7F false (A.room bo).2 /\ ∃ V', R3 w c V p w' (A.room bo).1 V' := by
 have ir:=hA.lens co 2
 have lT:=hA.lens co 3
 have Ip:=hA.tg
 have gM:=hA.pos
 have fh:=hA.nd
 unfold Arc.all at fh
 rw[List.nodup_append] at fh
 obtain⟨nd1,nd2,nd3⟩:=fh
 rw[List.nodup_append] at nd2
 obtain⟨nd4,nd5,nd6⟩:=nd2
 rw[List.nodup_append] at nd5
 obtain⟨nd7,nd8,nd9⟩:=nd5
 have aO:∀{b:Nat},NI c V p b->b<w.heap.size:=h.lt
 refine KJ (e:=[(0,_),(1,_)]) Tryz.func160 rfl Tryz.ntmps160 rfl rfl (qN rfl (KU rfl rfl (N3 (cs:=[_,_,_]) Lo rfl) ?_))
 rintro _ w1 ⟨b4,rfl,gh,ad,aJ⟩
 have o8:=h.ext ad
 have n4:∀b,NI c V p b->b≠b4:=fun b hb e=>by have:=aO hb;omega
 refine py (run_seq (qN rfl (An rfl (La [.tmp 11] z8t rfl (X7 o8 hA co) ?_))))
 rintro _ w2 ⟨rfl,af⟩
 have bq:=af.KN aJ
 have aI:=ad.trans af
 have dP:=h.ext aI
 by_cases bR:¬A.once.length+A.often.length=A.size
 ·rw[decide_eq_false bR];have iP:A.room bo=(A,none):=by unfold Arc.room;rw[if_neg bR]
  refine qV ((by first|exact LN rfl|exact Na rfl)) ?_;refine py (L3 rfl (qN rfl (qV (Lj (news:=MQ false none) NK rfl Lo rfl (KY.cells (n:=3) bq rfl) rfl) (L0 rfl (Lz (news:=MQ false none) Lo rfl rfl rfl rfl bq (by simp)) ?_))));rintro w3 ⟨dA,au⟩;replace dA:KY w3 b4 [.bool false,.bool false,I 0] 232:=dA;refine py (Lh Tryz.func160 (.cell NK rfl Lo rfl (KY.cells (n:=3) dA (news:=[_,_,_]) rfl) rfl .nil) ?_);rw[iP];exact⟨_,rfl,rfl,V,dP.kp au (fun b hb=>n4 b hb),fun b hb=> .inl hb,(aI.KK au (fun j e=>by omega)).kp⟩
 ·have bR := Classical.not_not.1 bR; rw [decide_eq_true bR]; refine qV ((by first | exact LN rfl | exact Na rfl)) ?_; refine py (KH rfl ?_); have ak := dP.cells; obtain ⟨a0, c0, e0, -⟩ : ∃ a c, (V 0).1 = .slice a A.once.length c /\ _ := (h.q 0 (by decide)).sl.rd.shape; rw [e0] at ak; have f0 := Qo dP (j := 0) (by decide); have f1 := Qo dP (j := 1) (by decide); rw [show A.li 0 = A.once from rfl] at f0; rw [show A.li 1 = A.often from rfl] at f1
  cases ho:A.once with
  | nil =>
    cases hf:A.often with
    | nil =>
      exfalso;rw[ho,hf] at bR;simp at bR
      omega
    | cons x1 r1 =>
      have iP:A.room bo=({A with often:=r1,L4:=A.L4++[x1]},some x1):=by unfold Arc.room;rw[if_pos bR,ho,hf]
      have Iq:A.once.length=0:=by rw[ho];rfl
      have g0:Sb A.once= .tuple #[I 0,.bool false]:=by rw[ho];rfl
      have g1:Sb A.often= .tuple #[I x1,.bool true]:=by rw[hf];rfl
      rw[g0] at f0;rw[g1] at f1;refine It (qN rfl (An rfl (An rfl (qV (L6 rfl) (qV (KT M9 rfl) (La [.tmp 16,.tmp 19] T5 rfl (f0) ?_))))));rintro _ w2 ⟨rfl,rfl⟩;refine An rfl (qV (Lu (v:=I 0) rfl rfl) (qV (Lu (v:= .bool false) rfl rfl) (KO rfl (KO rfl (qM rfl (An rfl (An rfl (qV (L6 rfl) (qV (KT MF rfl) (La [.tmp 24,.tmp 27] T5 rfl (f1) ?_))))))))));rintro _ w2 ⟨rfl,rfl⟩;refine An rfl (qV (Lu (v:=I x1) rfl rfl) (qV (Lu (v:= .bool true) rfl rfl) (KO rfl (KO rfl (py (Ll.qb (e:=[(0,_),(1,_),(4,_),(5,_),(6,_),(7,_),(8,_)]) ?_))))));refine qN rfl (An rfl (qV (L6 rfl) (qV (KT M9 rfl) (qV (KT LL rfl) (qV (KS Mw rfl rfl ak rfl) (qV (LM Mw rfl) (KO rfl (qM rfl (An rfl (qV (Ou rfl rfl) (Ly (An rfl (qS ?_)))))))))))));refine qS (qS (qS (qS (qS (qS (qS (qS (qS (qS (qS (qS (qS (qS ?_)))))))))))));refine qS (qS (qV (Ls rfl rfl) (KO rfl (py (Ll.qb (e:=[(0,_),(4,_),(5,_),(6,_),(7,_),(8,_),(10,_)]) ?_)))));refine run_seq (qN rfl (An rfl (An rfl (qS (qV (Ls rfl rfl) (An rfl (An rfl (qV ((by first|exact LN rfl|exact Na rfl)) ?_))))))));refine An rfl (An rfl (qV ((by first|exact LN rfl|exact Na rfl)) ?_));refine qV (LR rfl rfl) (qV (Ls rfl rfl) (py (KH rfl (It (qN rfl (An rfl (qV (L6 rfl) (qV (KT MF rfl) (An rfl (La [.tmp 84,.tmp 85] NP rfl (LS dP (j:=1) (k:=x1) (by decide)) ?_))))))))));rintro _ w3 ⟨rfl,V3,bX⟩;have ie:(A.li 1).erase x1=r1:=by show A.often.erase x1=r1;rw[hf];simp
      rw[ie] at bX
      have dp:x1∉(A.Mg 1 r1).li 3:=by
       show x1∉A.L4;intro e;exact nd6 x1 (by rw[hf];simp) x1 (by simp[e]) rfl
      refine qM rfl (An rfl (qV (L6 rfl) (qV (KT MC rfl) (An rfl (La [.tmp 89,.tmp 90] Ol rfl (Ml bX.m (j:=3) (k:=x1) (by decide) dp (by show A.L4.length<=_;exact Nat.le_trans lT (by decide))) ?_)))));rintro _ w4 ⟨rfl,V4,bC⟩;have hr:=(dP.r (Ext.refl w2)).trans (bX.trans bC);have cj:=hr.k.KN bq (fun e=>n4 _ e rfl);refine py (Ll.qb (e:=[(4,_),(7,_)]) ?_);refine qN rfl (An rfl (qV (NA (parts:=[(1,.const (Value.bool true)),(2,.tmp 92)]) (cs:=[_,_,_]) Lo rfl QZ rfl rfl) (L0 rfl (Lz (news:=MQ false (some x1)) Lo rfl rfl rfl rfl cj (by simp)) ?_)));rintro w5 ⟨aK,aj⟩;replace aK:KY w5 b4 [.bool false,.bool true,I x1] 232:=aK;refine py (Lh Tryz.func160 (.cell NK rfl Lo rfl (KY.cells (n:=3) aK (news:=[_,_,_]) rfl) rfl .nil) ?_)
      have dS:∀b,NI c V4 p b->b≠b4:=fun b hb e=>by
       rcases hr.fp b hb with h5|h5
       ·exact n4 b h5 e
       ·have:=bq.lt;omega
      rw[iP]
      exact⟨_,rfl,rfl,V4,hr.m.kp aj dS,fun b hb=>(hr.fp b hb).imp id (fun e=>by have:=aI.size;omega),(aI.kp.trans hr.k).KK aj (fun j e=> .inl (by omega))⟩
  | cons x0 r0 =>
    have Iq:1<=A.once.length:=by rw[ho];simp
    cases hf:A.often with
    | nil =>
      have iP:A.room bo=({A with once:=r0,L7:=A.L7++[x0]},some x0):=by unfold Arc.room;rw[if_pos bR,ho,hf]
      have g0:Sb A.once= .tuple #[I x0,.bool true]:=by rw[ho];rfl
      have g1:Sb A.often= .tuple #[I 0,.bool false]:=by rw[hf];rfl
      rw[g0] at f0;rw[g1] at f1;refine It (qN rfl (An rfl (An rfl (qV (L6 rfl) (qV (KT M9 rfl) (La [.tmp 16,.tmp 19] T5 rfl (f0) ?_))))));rintro _ w2 ⟨rfl,rfl⟩;refine An rfl (qV (Lu (v:=I x0) rfl rfl) (qV (Lu (v:= .bool true) rfl rfl) (KO rfl (KO rfl (qM rfl (An rfl (An rfl (qV (L6 rfl) (qV (KT MF rfl) (La [.tmp 24,.tmp 27] T5 rfl (f1) ?_))))))))));rintro _ w2 ⟨rfl,rfl⟩;refine An rfl (qV (Lu (v:=I 0) rfl rfl) (qV (Lu (v:= .bool false) rfl rfl) (KO rfl (KO rfl (py (Ll.qb (e:=[(0,_),(1,_),(4,_),(5,_),(6,_),(7,_),(8,_)]) ?_))))));refine qN rfl (An rfl (qV (L6 rfl) (qV (KT M9 rfl) (qV (KT LL rfl) (qV (KS Mw rfl rfl ak rfl) (qV (LM Mw rfl) (KO rfl (qM rfl (An rfl (qV (Ou rfl rfl) (MR (An rfl ?_))))))))))))
      by_cases h1:(A.once.length:Int)>A.target
      ·skip
       refine An rfl (An rfl (qV (L6 rfl) (qV (KT MA rfl) (qV (KS U3 rfl rfl ak rfl) (qV (LU rfl rfl) (MR (An rfl (qS (qS (qS (qS (qS (qS ?_)))))))))))));refine qS (qS (qS (qV (LR rfl rfl) (qV (LR rfl rfl) (KO rfl (py (Ll.qb (e:=[(0,_),(4,_),(5,_),(6,_),(7,_),(8,_),(10,_)]) ?_)))))));refine run_seq (qN rfl (An rfl (An rfl (An rfl (qV (LR rfl rfl) (An rfl (qS (qS (qS (qS (qS (qS (qV (LR rfl rfl) ?_)))))))))))));refine py (L3 rfl (qN rfl (An rfl (qV (L6 rfl) (qV (KT M9 rfl) (An rfl (La [.tmp 72,.tmp 73] NP rfl (LS dP (j:=0) (k:=x0) (by decide)) ?_)))))));rintro _ w3 ⟨rfl,V3,bX⟩;have ie:(A.li 0).erase x0=r0:=by show A.once.erase x0=r0;rw[ho];simp
       rw[ie] at bX
       have dp:x0∉(A.Mg 0 r0).li 2:=by
        show x0∉A.L7;intro e;exact nd3 x0 (by rw[ho];simp) x0 (by simp[e]) rfl
       refine qM rfl (An rfl (qV (L6 rfl) (qV (KT Mn rfl) (An rfl (La [.tmp 77,.tmp 78] Ol rfl (Ml bX.m (j:=2) (k:=x0) (by decide) dp (by show A.L7.length<=_;exact Nat.le_trans ir (by decide))) ?_)))));rintro _ w4 ⟨rfl,V4,bC⟩;have hr:=(dP.r (Ext.refl w2)).trans (bX.trans bC);have cj:=hr.k.KN bq (fun e=>n4 _ e rfl);refine py (Ll.qb (e:=[(0,_),(4,_),(5,_),(7,_)]) ?_);refine qN rfl (An rfl (qV (NA (parts:=[(1,.const (Value.bool true)),(2,.tmp 80)]) (cs:=[_,_,_]) Lo rfl QZ rfl rfl) (L0 rfl (Lz (news:=MQ false (some x0)) Lo rfl rfl rfl rfl cj (by simp)) ?_)));rintro w5 ⟨aK,aj⟩;replace aK:KY w5 b4 [.bool false,.bool true,I x0] 232:=aK;refine py (Lh Tryz.func160 (.cell NK rfl Lo rfl (KY.cells (n:=3) aK (news:=[_,_,_]) rfl) rfl .nil) ?_)
       have dS:∀b,NI c V4 p b->b≠b4:=fun b hb e=>by
        rcases hr.fp b hb with h5|h5
        ·exact n4 b h5 e
        ·have:=bq.lt;omega
       rw[iP];exact⟨_,rfl,rfl,V4,hr.m.kp aj dS,fun b hb=>(hr.fp b hb).imp id (fun e=>by have:=aI.size;omega),(aI.kp.trans hr.k).KK aj (fun j e=> .inl (by omega))⟩
      ·refine An rfl (An rfl (qV (L6 rfl) (qV (KT MA rfl) (qV (KS U3 rfl rfl ak rfl) (qV (LU rfl rfl) (Ly (An rfl ?_)))))));by_cases h2:(A.once.length:Int)=A.target
       ·refine An rfl (An rfl (qV (L6 rfl) (qV (KT MA rfl) (qV (KS U3 rfl rfl ak rfl) (qV (Mr rfl rfl) (MR (An rfl ?_)))))))
        cases bo with
        | true =>
          refine An rfl ?_
          skip
          refine qV (LR rfl rfl) (qV (Ls rfl rfl) (qV (LR rfl rfl) (KO rfl (py (Ll.qb (e:=[(0,_),(4,_),(5,_),(6,_),(7,_),(8,_),(10,_)]) ?_)))));refine run_seq (qN rfl (An rfl (An rfl (An rfl (qV (LR rfl rfl) (An rfl (qS (qS (qS (qS (qS (qS (qV (LR rfl rfl) ?_)))))))))))));refine py (L3 rfl (qN rfl (An rfl (qV (L6 rfl) (qV (KT M9 rfl) (An rfl (La [.tmp 72,.tmp 73] NP rfl (LS dP (j:=0) (k:=x0) (by decide)) ?_)))))));rintro _ w3 ⟨rfl,V3,bX⟩;have ie:(A.li 0).erase x0=r0:=by show A.once.erase x0=r0;rw[ho];simp
          rw[ie] at bX
          have dp:x0∉(A.Mg 0 r0).li 2:=by
           show x0∉A.L7;intro e;exact nd3 x0 (by rw[ho];simp) x0 (by simp[e]) rfl
          refine qM rfl (An rfl (qV (L6 rfl) (qV (KT Mn rfl) (An rfl (La [.tmp 77,.tmp 78] Ol rfl (Ml bX.m (j:=2) (k:=x0) (by decide) dp (by show A.L7.length<=_;exact Nat.le_trans ir (by decide))) ?_)))));rintro _ w4 ⟨rfl,V4,bC⟩;have hr:=(dP.r (Ext.refl w2)).trans (bX.trans bC);have cj:=hr.k.KN bq (fun e=>n4 _ e rfl);refine py (Ll.qb (e:=[(0,_),(4,_),(5,_),(7,_)]) ?_);refine qN rfl (An rfl (qV (NA (parts:=[(1,.const (Value.bool true)),(2,.tmp 80)]) (cs:=[_,_,_]) Lo rfl QZ rfl rfl) (L0 rfl (Lz (news:=MQ false (some x0)) Lo rfl rfl rfl rfl cj (by simp)) ?_)));rintro w5 ⟨aK,aj⟩;replace aK:KY w5 b4 [.bool false,.bool true,I x0] 232:=aK;refine py (Lh Tryz.func160 (.cell NK rfl Lo rfl (KY.cells (n:=3) aK (news:=[_,_,_]) rfl) rfl .nil) ?_)
          have dS:∀b,NI c V4 p b->b≠b4:=fun b hb e=>by
           rcases hr.fp b hb with h5|h5
           ·exact n4 b h5 e
           ·have:=bq.lt;omega
          rw[iP]
          exact⟨_,rfl,rfl,V4,hr.m.kp aj dS,fun b hb=>(hr.fp b hb).imp id (fun e=>by have:=aI.size;omega),(aI.kp.trans hr.k).KK aj (fun j e=> .inl (by omega))⟩
        | false =>
          refine An rfl ?_
          skip
          refine qV (LR rfl rfl) (qV (Ls rfl rfl) (qV (LR rfl rfl) (KO rfl (py (Ll.qb (e:=[(0,_),(4,_),(5,_),(6,_),(7,_),(8,_),(10,_)]) ?_)))));refine run_seq (qN rfl (An rfl (An rfl (qS (qV (Ls rfl rfl) (An rfl (An rfl (qV ((by first|exact LN rfl|exact Na rfl)) ?_))))))));refine An rfl (An rfl (qV ((by first|exact LN rfl|exact Na rfl)) ?_));refine qV (LR rfl rfl) (qV (Ls rfl rfl) (py (L3 rfl (qN rfl (An rfl (qV (L6 rfl) (qV (KT M9 rfl) (An rfl (La [.tmp 72,.tmp 73] NP rfl (LS dP (j:=0) (k:=x0) (by decide)) ?_)))))))));rintro _ w3 ⟨rfl,V3,bX⟩;have ie:(A.li 0).erase x0=r0:=by show A.once.erase x0=r0;rw[ho];simp
          rw[ie] at bX
          have dp:x0∉(A.Mg 0 r0).li 2:=by
           show x0∉A.L7;intro e;exact nd3 x0 (by rw[ho];simp) x0 (by simp[e]) rfl
          refine qM rfl (An rfl (qV (L6 rfl) (qV (KT Mn rfl) (An rfl (La [.tmp 77,.tmp 78] Ol rfl (Ml bX.m (j:=2) (k:=x0) (by decide) dp (by show A.L7.length<=_;exact Nat.le_trans ir (by decide))) ?_)))));rintro _ w4 ⟨rfl,V4,bC⟩;have hr:=(dP.r (Ext.refl w2)).trans (bX.trans bC);have cj:=hr.k.KN bq (fun e=>n4 _ e rfl);refine py (Ll.qb (e:=[(0,_),(4,_),(5,_),(7,_)]) ?_);refine qN rfl (An rfl (qV (NA (parts:=[(1,.const (Value.bool true)),(2,.tmp 80)]) (cs:=[_,_,_]) Lo rfl QZ rfl rfl) (L0 rfl (Lz (news:=MQ false (some x0)) Lo rfl rfl rfl rfl cj (by simp)) ?_)));rintro w5 ⟨aK,aj⟩;replace aK:KY w5 b4 [.bool false,.bool true,I x0] 232:=aK;refine py (Lh Tryz.func160 (.cell NK rfl Lo rfl (KY.cells (n:=3) aK (news:=[_,_,_]) rfl) rfl .nil) ?_)
          have dS:∀b,NI c V4 p b->b≠b4:=fun b hb e=>by
           rcases hr.fp b hb with h5|h5
           ·exact n4 b h5 e
           ·have:=bq.lt;omega
          rw[iP];exact⟨_,rfl,rfl,V4,hr.m.kp aj dS,fun b hb=>(hr.fp b hb).imp id (fun e=>by have:=aI.size;omega),(aI.kp.trans hr.k).KK aj (fun j e=> .inl (by omega))⟩
       ·refine An rfl (An rfl (qV (L6 rfl) (qV (KT MA rfl) (qV (KS U3 rfl rfl ak rfl) (qV (Mr rfl rfl) (Ly (An rfl ?_)))))))
        skip
        refine qS (qV (Ls rfl rfl) (qV (Ls rfl rfl) (qV (LR rfl rfl) (KO rfl (py (Ll.qb (e:=[(0,_),(4,_),(5,_),(6,_),(7,_),(8,_),(10,_)]) ?_))))));refine run_seq (qN rfl (An rfl (An rfl (qS (qV (Ls rfl rfl) (An rfl (An rfl (qV ((by first|exact LN rfl|exact Na rfl)) ?_))))))));refine An rfl (An rfl (qV ((by first|exact LN rfl|exact Na rfl)) ?_));refine qV (LR rfl rfl) (qV (Ls rfl rfl) (py (L3 rfl (qN rfl (An rfl (qV (L6 rfl) (qV (KT M9 rfl) (An rfl (La [.tmp 72,.tmp 73] NP rfl (LS dP (j:=0) (k:=x0) (by decide)) ?_)))))))));rintro _ w3 ⟨rfl,V3,bX⟩;have ie:(A.li 0).erase x0=r0:=by show A.once.erase x0=r0;rw[ho];simp
        rw[ie] at bX
        have dp:x0∉(A.Mg 0 r0).li 2:=by
         show x0∉A.L7;intro e;exact nd3 x0 (by rw[ho];simp) x0 (by simp[e]) rfl
        refine qM rfl (An rfl (qV (L6 rfl) (qV (KT Mn rfl) (An rfl (La [.tmp 77,.tmp 78] Ol rfl (Ml bX.m (j:=2) (k:=x0) (by decide) dp (by show A.L7.length<=_;exact Nat.le_trans ir (by decide))) ?_)))));rintro _ w4 ⟨rfl,V4,bC⟩;have hr:=(dP.r (Ext.refl w2)).trans (bX.trans bC);have cj:=hr.k.KN bq (fun e=>n4 _ e rfl);refine py (Ll.qb (e:=[(0,_),(4,_),(5,_),(7,_)]) ?_);refine qN rfl (An rfl (qV (NA (parts:=[(1,.const (Value.bool true)),(2,.tmp 80)]) (cs:=[_,_,_]) Lo rfl QZ rfl rfl) (L0 rfl (Lz (news:=MQ false (some x0)) Lo rfl rfl rfl rfl cj (by simp)) ?_)));rintro w5 ⟨aK,aj⟩;replace aK:KY w5 b4 [.bool false,.bool true,I x0] 232:=aK;refine py (Lh Tryz.func160 (.cell NK rfl Lo rfl (KY.cells (n:=3) aK (news:=[_,_,_]) rfl) rfl .nil) ?_)
        have dS:∀b,NI c V4 p b->b≠b4:=fun b hb e=>by
         rcases hr.fp b hb with h5|h5
         ·exact n4 b h5 e
         ·have:=bq.lt;omega
        rw[iP]
        exact⟨_,rfl,rfl,V4,hr.m.kp aj dS,fun b hb=>(hr.fp b hb).imp id (fun e=>by have:=aI.size;omega),(aI.kp.trans hr.k).KK aj (fun j e=> .inl (by omega))⟩
    | cons x1 r1 =>
      have g0:Sb A.once= .tuple #[I x0,.bool true]:=by rw[ho];rfl
      have g1:Sb A.often= .tuple #[I x1,.bool true]:=by rw[hf];rfl
      rw[g0] at f0;rw[g1] at f1;refine It (qN rfl (An rfl (An rfl (qV (L6 rfl) (qV (KT M9 rfl) (La [.tmp 16,.tmp 19] T5 rfl (f0) ?_))))));rintro _ w2 ⟨rfl,rfl⟩;refine An rfl (qV (Lu (v:=I x0) rfl rfl) (qV (Lu (v:= .bool true) rfl rfl) (KO rfl (KO rfl (qM rfl (An rfl (An rfl (qV (L6 rfl) (qV (KT MF rfl) (La [.tmp 24,.tmp 27] T5 rfl (f1) ?_))))))))));rintro _ w2 ⟨rfl,rfl⟩;refine An rfl (qV (Lu (v:=I x1) rfl rfl) (qV (Lu (v:= .bool true) rfl rfl) (KO rfl (KO rfl (py (Ll.qb (e:=[(0,_),(1,_),(4,_),(5,_),(6,_),(7,_),(8,_)]) ?_))))));refine qN rfl (An rfl (qV (L6 rfl) (qV (KT M9 rfl) (qV (KT LL rfl) (qV (KS Mw rfl rfl ak rfl) (qV (LM Mw rfl) (KO rfl (qM rfl (An rfl (qV (Ou rfl rfl) (MR (An rfl ?_))))))))))))
      by_cases h1:(A.once.length:Int)>A.target
      ·have iP:A.room bo=({A with once:=r0,L7:=A.L7++[x0]},some x0):=by unfold Arc.room;rw[if_pos bR,ho,hf];exact if_pos (by rw[<-ho];exact .inl h1)
       refine An rfl (An rfl (qV (L6 rfl) (qV (KT MA rfl) (qV (KS U3 rfl rfl ak rfl) (qV (LU rfl rfl) (MR (An rfl (qS (qS (qS (qS (qS (qS ?_)))))))))))));refine qS (qS (qS (qV (LR rfl rfl) (qV (LR rfl rfl) (KO rfl (py (Ll.qb (e:=[(0,_),(4,_),(5,_),(6,_),(7,_),(8,_),(10,_)]) ?_)))))));refine run_seq (qN rfl (An rfl (An rfl (An rfl (qV (LR rfl rfl) (An rfl (qS (qS (qS (qS (qS (qS (qV (LR rfl rfl) ?_)))))))))))));refine py (L3 rfl (qN rfl (An rfl (qV (L6 rfl) (qV (KT M9 rfl) (An rfl (La [.tmp 72,.tmp 73] NP rfl (LS dP (j:=0) (k:=x0) (by decide)) ?_)))))));rintro _ w3 ⟨rfl,V3,bX⟩;have ie:(A.li 0).erase x0=r0:=by show A.once.erase x0=r0;rw[ho];simp
       rw[ie] at bX
       have dp:x0∉(A.Mg 0 r0).li 2:=by
        show x0∉A.L7;intro e;exact nd3 x0 (by rw[ho];simp) x0 (by simp[e]) rfl
       refine qM rfl (An rfl (qV (L6 rfl) (qV (KT Mn rfl) (An rfl (La [.tmp 77,.tmp 78] Ol rfl (Ml bX.m (j:=2) (k:=x0) (by decide) dp (by show A.L7.length<=_;exact Nat.le_trans ir (by decide))) ?_)))));rintro _ w4 ⟨rfl,V4,bC⟩;have hr:=(dP.r (Ext.refl w2)).trans (bX.trans bC);have cj:=hr.k.KN bq (fun e=>n4 _ e rfl);refine py (Ll.qb (e:=[(0,_),(4,_),(5,_),(7,_)]) ?_);refine qN rfl (An rfl (qV (NA (parts:=[(1,.const (Value.bool true)),(2,.tmp 80)]) (cs:=[_,_,_]) Lo rfl QZ rfl rfl) (L0 rfl (Lz (news:=MQ false (some x0)) Lo rfl rfl rfl rfl cj (by simp)) ?_)));rintro w5 ⟨aK,aj⟩;replace aK:KY w5 b4 [.bool false,.bool true,I x0] 232:=aK;refine py (Lh Tryz.func160 (.cell NK rfl Lo rfl (KY.cells (n:=3) aK (news:=[_,_,_]) rfl) rfl .nil) ?_)
       have dS:∀b,NI c V4 p b->b≠b4:=fun b hb e=>by
        rcases hr.fp b hb with h5|h5
        ·exact n4 b h5 e
        ·have:=bq.lt;omega
       rw[iP];exact⟨_,rfl,rfl,V4,hr.m.kp aj dS,fun b hb=>(hr.fp b hb).imp id (fun e=>by have:=aI.size;omega),(aI.kp.trans hr.k).KK aj (fun j e=> .inl (by omega))⟩
      ·refine An rfl (An rfl (qV (L6 rfl) (qV (KT MA rfl) (qV (KS U3 rfl rfl ak rfl) (qV (LU rfl rfl) (Ly (An rfl ?_)))))));by_cases h2:(A.once.length:Int)=A.target
       ·refine An rfl (An rfl (qV (L6 rfl) (qV (KT MA rfl) (qV (KS U3 rfl rfl ak rfl) (qV (Mr rfl rfl) (MR (An rfl ?_)))))))
        cases bo with
        | true =>
          refine An rfl ?_;have iP:A.room true=({A with once:=r0,L7:=A.L7++[x0]},some x0):=by unfold Arc.room;rw[if_pos bR,ho,hf];exact if_pos (by rw[<-ho];exact .inr ⟨h2,rfl⟩)
          refine qV (LR rfl rfl) (qV (Ls rfl rfl) (qV (LR rfl rfl) (KO rfl (py (Ll.qb (e:=[(0,_),(4,_),(5,_),(6,_),(7,_),(8,_),(10,_)]) ?_)))));refine run_seq (qN rfl (An rfl (An rfl (An rfl (qV (LR rfl rfl) (An rfl (qS (qS (qS (qS (qS (qS (qV (LR rfl rfl) ?_)))))))))))));refine py (L3 rfl (qN rfl (An rfl (qV (L6 rfl) (qV (KT M9 rfl) (An rfl (La [.tmp 72,.tmp 73] NP rfl (LS dP (j:=0) (k:=x0) (by decide)) ?_)))))));rintro _ w3 ⟨rfl,V3,bX⟩;have ie:(A.li 0).erase x0=r0:=by show A.once.erase x0=r0;rw[ho];simp
          rw[ie] at bX
          have dp:x0∉(A.Mg 0 r0).li 2:=by
           show x0∉A.L7;intro e;exact nd3 x0 (by rw[ho];simp) x0 (by simp[e]) rfl
          refine qM rfl (An rfl (qV (L6 rfl) (qV (KT Mn rfl) (An rfl (La [.tmp 77,.tmp 78] Ol rfl (Ml bX.m (j:=2) (k:=x0) (by decide) dp (by show A.L7.length<=_;exact Nat.le_trans ir (by decide))) ?_)))));rintro _ w4 ⟨rfl,V4,bC⟩;have hr:=(dP.r (Ext.refl w2)).trans (bX.trans bC);have cj:=hr.k.KN bq (fun e=>n4 _ e rfl);refine py (Ll.qb (e:=[(0,_),(4,_),(5,_),(7,_)]) ?_);refine qN rfl (An rfl (qV (NA (parts:=[(1,.const (Value.bool true)),(2,.tmp 80)]) (cs:=[_,_,_]) Lo rfl QZ rfl rfl) (L0 rfl (Lz (news:=MQ false (some x0)) Lo rfl rfl rfl rfl cj (by simp)) ?_)));rintro w5 ⟨aK,aj⟩;replace aK:KY w5 b4 [.bool false,.bool true,I x0] 232:=aK;refine py (Lh Tryz.func160 (.cell NK rfl Lo rfl (KY.cells (n:=3) aK (news:=[_,_,_]) rfl) rfl .nil) ?_)
          have dS:∀b,NI c V4 p b->b≠b4:=fun b hb e=>by
           rcases hr.fp b hb with h5|h5
           ·exact n4 b h5 e
           ·have:=bq.lt;omega
          rw[iP]
          exact⟨_,rfl,rfl,V4,hr.m.kp aj dS,fun b hb=>(hr.fp b hb).imp id (fun e=>by have:=aI.size;omega),(aI.kp.trans hr.k).KK aj (fun j e=> .inl (by omega))⟩
        | false =>
          refine An rfl ?_;have iP:A.room false=({A with often:=r1,L4:=A.L4++[x1]},some x1):=by unfold Arc.room;rw[if_pos bR,ho,hf];exact if_neg (by rw[<-ho];rintro(e|⟨e,e2⟩);exact h1 e;cases e2)
          refine qV (LR rfl rfl) (qV (Ls rfl rfl) (qV (LR rfl rfl) (KO rfl (py (Ll.qb (e:=[(0,_),(4,_),(5,_),(6,_),(7,_),(8,_),(10,_)]) ?_)))));refine run_seq (qN rfl (An rfl (An rfl (qS (qV (Ls rfl rfl) (An rfl (An rfl (qV ((by first|exact LN rfl|exact Na rfl)) ?_))))))));refine An rfl (An rfl (qV ((by first|exact LN rfl|exact Na rfl)) ?_));refine qV (LR rfl rfl) (qV (Ls rfl rfl) (py (KH rfl (It (qN rfl (An rfl (qV (L6 rfl) (qV (KT MF rfl) (An rfl (La [.tmp 84,.tmp 85] NP rfl (LS dP (j:=1) (k:=x1) (by decide)) ?_))))))))));rintro _ w3 ⟨rfl,V3,bX⟩;have ie:(A.li 1).erase x1=r1:=by show A.often.erase x1=r1;rw[hf];simp
          rw[ie] at bX
          have dp:x1∉(A.Mg 1 r1).li 3:=by
           show x1∉A.L4;intro e;exact nd6 x1 (by rw[hf];simp) x1 (by simp[e]) rfl
          refine qM rfl (An rfl (qV (L6 rfl) (qV (KT MC rfl) (An rfl (La [.tmp 89,.tmp 90] Ol rfl (Ml bX.m (j:=3) (k:=x1) (by decide) dp (by show A.L4.length<=_;exact Nat.le_trans lT (by decide))) ?_)))));rintro _ w4 ⟨rfl,V4,bC⟩;have hr:=(dP.r (Ext.refl w2)).trans (bX.trans bC);have cj:=hr.k.KN bq (fun e=>n4 _ e rfl);refine py (Ll.qb (e:=[(4,_),(7,_)]) ?_);refine qN rfl (An rfl (qV (NA (parts:=[(1,.const (Value.bool true)),(2,.tmp 92)]) (cs:=[_,_,_]) Lo rfl QZ rfl rfl) (L0 rfl (Lz (news:=MQ false (some x1)) Lo rfl rfl rfl rfl cj (by simp)) ?_)));rintro w5 ⟨aK,aj⟩;replace aK:KY w5 b4 [.bool false,.bool true,I x1] 232:=aK;refine py (Lh Tryz.func160 (.cell NK rfl Lo rfl (KY.cells (n:=3) aK (news:=[_,_,_]) rfl) rfl .nil) ?_)
          have dS:∀b,NI c V4 p b->b≠b4:=fun b hb e=>by
           rcases hr.fp b hb with h5|h5
           ·exact n4 b h5 e
           ·have:=bq.lt;omega
          rw[iP];exact⟨_,rfl,rfl,V4,hr.m.kp aj dS,fun b hb=>(hr.fp b hb).imp id (fun e=>by have:=aI.size;omega),(aI.kp.trans hr.k).KK aj (fun j e=> .inl (by omega))⟩
       ·refine An rfl (An rfl (qV (L6 rfl) (qV (KT MA rfl) (qV (KS U3 rfl rfl ak rfl) (qV (Mr rfl rfl) (Ly (An rfl ?_)))))));have iP:A.room bo=({A with often:=r1,L4:=A.L4++[x1]},some x1):=by unfold Arc.room;rw[if_pos bR,ho,hf];exact if_neg (by rw[<-ho];rintro(e|⟨e,e2⟩);exact h1 e;exact h2 e)
        refine qS (qV (Ls rfl rfl) (qV (Ls rfl rfl) (qV (LR rfl rfl) (KO rfl (py (Ll.qb (e:=[(0,_),(4,_),(5,_),(6,_),(7,_),(8,_),(10,_)]) ?_))))));refine run_seq (qN rfl (An rfl (An rfl (qS (qV (Ls rfl rfl) (An rfl (An rfl (qV ((by first|exact LN rfl|exact Na rfl)) ?_))))))));refine An rfl (An rfl (qV ((by first|exact LN rfl|exact Na rfl)) ?_));refine qV (LR rfl rfl) (qV (Ls rfl rfl) (py (KH rfl (It (qN rfl (An rfl (qV (L6 rfl) (qV (KT MF rfl) (An rfl (La [.tmp 84,.tmp 85] NP rfl (LS dP (j:=1) (k:=x1) (by decide)) ?_))))))))));rintro _ w3 ⟨rfl,V3,bX⟩;have ie:(A.li 1).erase x1=r1:=by show A.often.erase x1=r1;rw[hf];simp
        rw[ie] at bX
        have dp:x1∉(A.Mg 1 r1).li 3:=by
         show x1∉A.L4;intro e;exact nd6 x1 (by rw[hf];simp) x1 (by simp[e]) rfl
        refine qM rfl (An rfl (qV (L6 rfl) (qV (KT MC rfl) (An rfl (La [.tmp 89,.tmp 90] Ol rfl (Ml bX.m (j:=3) (k:=x1) (by decide) dp (by show A.L4.length<=_;exact Nat.le_trans lT (by decide))) ?_)))));rintro _ w4 ⟨rfl,V4,bC⟩;have hr:=(dP.r (Ext.refl w2)).trans (bX.trans bC);have cj:=hr.k.KN bq (fun e=>n4 _ e rfl);refine py (Ll.qb (e:=[(4,_),(7,_)]) ?_);refine qN rfl (An rfl (qV (NA (parts:=[(1,.const (Value.bool true)),(2,.tmp 92)]) (cs:=[_,_,_]) Lo rfl QZ rfl rfl) (L0 rfl (Lz (news:=MQ false (some x1)) Lo rfl rfl rfl rfl cj (by simp)) ?_)));rintro w5 ⟨aK,aj⟩;replace aK:KY w5 b4 [.bool false,.bool true,I x1] 232:=aK;refine py (Lh Tryz.func160 (.cell NK rfl Lo rfl (KY.cells (n:=3) aK (news:=[_,_,_]) rfl) rfl .nil) ?_)
        have dS:∀b,NI c V4 p b->b≠b4:=fun b hb e=>by
         rcases hr.fp b hb with h5|h5
         ·exact n4 b h5 e
         ·have:=bq.lt;omega
        rw[iP];exact⟨_,rfl,rfl,V4,hr.m.kp aj dS,fun b hb=>(hr.fp b hb).imp id (fun e=>by have:=aI.size;omega),(aI.kp.trans hr.k).KK aj (fun j e=> .inl (by omega))⟩
end
theorem Arc.Ok.z9P {A:Arc}(h:A.Ok):(A.Mg 2 (A.L7.drop 1)).Ok:=by
 have hs:(A.Mg 2 (A.L7.drop 1)).all.Sublist A.all:=(((List.drop_sublist 1 A.L7).append_right A.L4).append_left A.often).append_left A.once
 have:=h.first
 have h2:=hs.length_le
 have h3:=h.total
 exact⟨h.pos,h.nd.sublist hs,h.held,by show A.once.length+(A.L7.drop 1).length<=A.size;rw[List.length_drop];omega,Nat.le_trans h2 h3,h.tg⟩
theorem Arc.Ok.zbd {A:Arc}(h:A.Ok):(A.Mg 3 (A.L4.drop 1)).Ok:=by
 have hs:(A.Mg 3 (A.L4.drop 1)).all.Sublist A.all:=(((List.drop_sublist 1 A.L4).append_left A.L7).append_left A.often).append_left A.once
 exact⟨h.pos,h.nd.sublist hs,h.held,h.first,Nat.le_trans hs.length_le h.total,h.tg⟩
section
variable {w w' w2:World}{c p:Nat}{A A' A2:Arc}{V V' V2:Nat->Value×Value}{S:Nat->Prop}{k:Int}
theorem NR.head (h:NR w c A V p){j:Nat}(hj:j<4){x:Int}{r:List Int}(hl:A.li j=x::r):∃b o cp,(V j).1= .slice (some ⟨b,o,none⟩) (A.li j).length cp/\w.cell? ⟨b,o+0*1,none⟩=some (I x):=by
 have hR:=(h.q j hj).sl.rd
 rcases hR.2 with⟨c,hc,h0⟩|⟨b,off,c',hc,-⟩
 ·rw[hl] at h0;simp at h0
 ·rw[hc] at hR;exact⟨b,off,c',hc,LV hR (i:=0) (by rw[hl];rfl)⟩
theorem Vo (h:NR w c A V p)(hA:A.Ok)(co:A.size<=1000):Lk Tryz.prog 161 [ptr c 0] w fun v w'=>v=z7F false A.add.2/\∃V',R3 w c V p w' A.add.1 V':=by
 have ru:=hA.lens co 0
 have jJ:=hA.lens co 1
 have ir:=hA.lens co 2
 have lT:=hA.lens co 3
 have gM:=hA.pos
 have iK:=A.Mo
 have tU:=hA.held
 have Kl:=hA.first
 have eA:=hA.total
 have aO:∀{b:Nat},NI c V p b->b<w.heap.size:=h.lt
 rw[show A.li 0=A.once from rfl] at ru
 rw[show A.li 1=A.often from rfl] at jJ
 rw[show A.li 2=A.L7 from rfl] at ir
 rw[show A.li 3=A.L4 from rfl] at lT
 have hB:=h.cells
 obtain⟨a0,c0,e0,-⟩:∃a c,(V 0).1= .slice a A.once.length c/\_:=(h.q 0 (by decide)).sl.rd.shape
 obtain⟨a1,c1,e1,-⟩:∃a c,(V 1).1= .slice a A.often.length c/\_:=(h.q 1 (by decide)).sl.rd.shape
 obtain⟨a2,c2,e2,-⟩:∃a c,(V 2).1= .slice a A.L7.length c/\_:=(h.q 2 (by decide)).sl.rd.shape
 obtain⟨a3,c3,e3,-⟩:∃a c,(V 3).1= .slice a A.L4.length c/\_:=(h.q 3 (by decide)).sl.rd.shape
 rw[e0,e1,e2,e3] at hB
 refine KJ (e:=[(0,_)]) Tryz.func161 rfl Tryz.ntmps161 rfl rfl (qN rfl (KU rfl rfl (N3 (cs:=[_,_,_]) Lo rfl) ?_))
 rintro _ w1 ⟨b2,rfl,bT,ad,ak⟩
 replace ak:KY w1 b2 [.bool false,.bool false,I 0] 232:=ak
 have n2:∀b,NI c V p b->b≠b2:=fun b hb e=>by have:=aO hb;omega
 have ai:=ad.KN hB
 have bj:=Ext.Lb w1
 refine py (run_seq (KV (fun w'=>Ext w1 w') (by kernel_rfl) rfl (KR 0 rfl (KW rfl) bj (KR 1 rfl (L6 rfl) bj (KR 2 rfl (KT M9 rfl) bj (KR 3 rfl (KT LL rfl) bj (qT 4 rfl (fun _ h=>KS Mw rfl rfl (h.KN ai) rfl) bj (KR 5 rfl (LM Mw rfl) bj (KR 6 rfl (KW rfl) bj (KR 7 rfl (L6 rfl) bj (KR 8 rfl (KT Mn rfl) bj (KR 9 rfl (KT LL rfl) bj (qT 10 rfl (fun _ h=>KS Mw rfl rfl (h.KN ai) rfl) bj ?_)))))))))))))
 refine KR 11 rfl (LM Mw rfl) bj (KR 12 rfl (PM rfl rfl (by omega)) bj (KR 13 rfl (MO rfl) bj (qE (run_seq ?_))))
 rw[show(A.once.length:Int)+(A.L7.length:Int)=((A.once.length+A.L7.length:Nat):Int) by omega]
 have aa:=Ext.Lb w1.drew
 have nj:=bj.KN ai
 refine KV (fun w'=>Ext w1.drew w') (by kernel_rfl) rfl (KR 0 rfl (KW rfl) aa (KR 1 rfl (KW rfl) aa (KR 2 rfl (L6 rfl) aa (KR 3 rfl (KT MF rfl) aa (KR 4 rfl (KT LL rfl) aa (qT 5 rfl (fun _ h=>KS Mw rfl rfl (h.KN nj) rfl) aa (KR 6 rfl (LM Mw rfl) aa (KR 7 rfl (PM rfl rfl (by omega)) aa (KR 8 rfl (KW rfl) aa (KR 9 rfl (L6 rfl) aa (KR 10 rfl (KT MC rfl) aa (KR 11 rfl (KT LL rfl) aa (qT 12 rfl (fun _ h=>KS Mw rfl rfl (h.KN nj) rfl) aa ?_)))))))))))))
 refine KR 13 rfl (LM Mw rfl) aa (KR 14 rfl (PM rfl rfl (by omega)) aa (KR 15 rfl (MO rfl) aa ?_))
 rw[show((A.once.length+A.L7.length:Nat):Int)+(A.often.length:Int)+(A.L4.length:Int)=(A.all.length:Int) by omega]
 have af:=(ad.trans bj).trans aa
 obtain⟨w2,lU⟩:∃w2,w1.drew.drew=w2:=⟨_,rfl⟩
 rw[lU] at af
 have aC:=bj.trans aa
 rw[lU] at aC⊢
 have h2:=h.ext af
 have jf:=h2.cells
 rw[e0,e1,e2,e3] at jf
 have gT:=aC.KN ak
 have ag:=Ext.Lb w2
 refine qE (Ll.qb (e:=[(0,_),(2,_),(3,_),(4,_)]) ?_)
 refine run_seq (Lx (fun e' w'=>e'=[(0,ptr c 0),(2,ptr b2 0)]/\∃A' V',A'.Ok/\A'.size=A.size/\R3 w2 c V p w' A' V'/\KY w' b2 [.bool false,.bool false,I 0] 232/\A.add=A'.room false/\w2.heap.size<=w'.heap.size) ?eR (fun eR=>?jQ))
 case eR=>
  rintro e' w3 ⟨rfl,A',V',Ir,xm,bX,ao,dq,z3⟩;refine qN rfl (An rfl (La [.tmp 115,.const (Value.bool false)] Vk rfl (OB bX.m Ir (by omega) false) ?_));rintro _ w4 ⟨rfl,V4,bC⟩;have hr:=bX.trans bC
  have n3:∀b,NI c V' p b->b≠b2:=fun b hb e=>by
   rcases bX.fp b hb with h5|h5
   ·exact n2 b h5 e
   ·have:=gT.lt;omega
  have n4:∀b,NI c V4 p b->b≠b2:=fun b hb e=>by
   rcases hr.fp b hb with h5|h5
   ·exact n2 b h5 e
   ·have:=gT.lt;omega
  have e8:=bC.k.KN ao (fun e=>n3 _ e rfl);obtain⟨g,hg⟩:∃g,(A'.room false).2=g:=⟨_,rfl⟩;rw[hg];refine L0 rfl (Lz (news:=MQ false g) Lo rfl rfl rfl rfl e8 (by simp)) ?_;rintro w5 ⟨cA,aj⟩;replace cA:KY w5 b2 [.bool false,.bool g.isSome,I (g.getD 0)] 232:=cA;refine py (Lh Tryz.func161 (.cell NK rfl Lo rfl (KY.cells (n:=3) cA (news:=[_,_,_]) rfl) rfl .nil) ?_);rw[dq,hg];have z1:=ad.size;have z2:=af.size;exact⟨_,rfl,rfl,V4,hr.m.kp aj n4,fun b hb=>(hr.fp b hb).imp id (fun e=>by omega),(af.kp.trans hr.k).KK aj (fun j e=> .inl (by omega))⟩
 case jQ =>
  have e13:(A.all.length:Int)=(A.all.length:Int):=rfl;have h3:=h2.ext ag;have pu:=ag.KN jf;have ct:=ag.KN gT;have z1:=ad.size;have z2:=af.size;by_cases hf:A.once.length+A.L7.length=A.size
  ·by_cases ho:A.once.length<A.size
   ·refine KL (run_seq (KV (fun w'=>Ext w2 w') (by kernel_rfl) rfl (KR 0 rfl (KW rfl) ag (KR 1 rfl (KW rfl) ag (KR 2 rfl (L6 rfl) ag (KR 3 rfl (KT Nu rfl) ag (qT 4 rfl (fun _ h=>KS U3 rfl rfl (h.KN jf) rfl) ag (KR 5 rfl (Mr rfl rfl) ag (OL (KR 6 rfl (KW rfl) ag (KR 7 rfl (KW rfl) ag (KR 8 rfl (L6 rfl) ag (KR 9 rfl (KT M9 rfl) ag ?_)))))))))))));refine KR 10 rfl (KT LL rfl) ag (qT 11 rfl (fun _ h=>KS Mw rfl rfl (h.KN jf) rfl) ag (KR 12 rfl (LM Mw rfl) ag (KR 13 rfl (KW rfl) ag (KR 14 rfl (L6 rfl) ag (KR 15 rfl (KT Nu rfl) ag (qT 16 rfl (fun _ h=>KS U3 rfl rfl (h.KN jf) rfl) ag (KR 17 rfl (LX rfl rfl) ag (OL (KR 18 rfl (LR rfl rfl) ag (KR 19 rfl (MO rfl) ag (qE (L3 rfl ?_))))))))))))
    obtain⟨x,r,hw⟩:∃x r,A.L7=x::r:=by
     cases hx:A.L7 with
     |nil=>rw[hx] at hf;simp at hf;omega
     |cons x r=>exact⟨x,r,rfl⟩
    obtain⟨lb,lo,lc,xn,-⟩:=h2.head (j:=2) (by decide) hw;rw[e2] at xn;cases xn;have dj:=(h3.q 2 (by decide)).sl.rd;rw[e2] at dj;have qp:0<A.L7.length:=by rw[hw];simp
    have jb:((A.li 2).map I)[0]? =some (I x):=by show(A.L7.map I)[0]? =_;rw[hw];rfl
    have ae:=Ext.Lb w2.drew;refine Le [10] (fun w'=>Ext w2.drew w') (by kernel_rfl) rfl (qL [1,2,10] 0 rfl (fun _ h=>KW rfl) ae (qL [2,10] 1 rfl (fun _ h=>L6 rfl) ae (qL [10] 2 rfl (fun _ h=>KT Mn rfl) ae (qL [4,5,6,7,8,9,10] 3 rfl (fun _ h=>KW rfl) ae (qL [5,6,7,8,9,10] 4 rfl (fun _ h=>L6 rfl) ae (qL [6,7,8,9,10] 5 rfl (fun _ h=>KT Mn rfl) ae (qL [7,8,9,10] 6 rfl (fun _ h=>KT LL rfl) ae (qL [8,9,10] 7 rfl (fun _ h=>KS Mw rfl rfl (h.KN (ag.KN jf)) rfl) ae (qL [9,10] 8 rfl (fun _ h=>LC Mw LG rfl rfl (by omega)) ae (qL [10] 9 rfl (fun _ h=>Lm U3 rfl rfl (LV (dj.ext h) (i:=0) jb)) ae (LD [10] (by kernel_rfl) (by kernel_rfl) (O2 10 [.tmp 57,.tmp 64] rfl NP rfl (LS (h3.ext ae) (j:=2) (k:=x) (by decide)) ?_))))))))))));rintro _ w5 ⟨rfl,V5,bU⟩;refine⟨trivial,?_⟩;have xo:(A.li 2).erase x=A.L7.drop 1:=by show A.L7.erase x=A.L7.drop 1;rw[hw];simp
    rw[xo] at bU;have eK:=(h2.r (ag.trans ae)).trans bU;have cA:=eK.k.KN gT (fun e=>n2 _ e rfl);refine qE (Ll.qb (e:=[(0,_),(2,_)]) ?_);refine KM ?_;exact(eR _ _ ⟨rfl,_,V5,hA.z9P,(US A (j:=2) (by decide) _).1,eK,cA,by unfold Arc.add;rw[if_pos hf,if_pos ho];rfl,eK.k.size⟩).qb
   ·refine KL (run_seq (KV (fun w'=>Ext w2 w') (by kernel_rfl) rfl (KR 0 rfl (KW rfl) ag (KR 1 rfl (KW rfl) ag (KR 2 rfl (L6 rfl) ag (KR 3 rfl (KT Nu rfl) ag (qT 4 rfl (fun _ h=>KS U3 rfl rfl (h.KN jf) rfl) ag (KR 5 rfl (Mr rfl rfl) ag (OL (KR 6 rfl (KW rfl) ag (KR 7 rfl (KW rfl) ag (KR 8 rfl (L6 rfl) ag (KR 9 rfl (KT M9 rfl) ag ?_)))))))))))));refine KR 10 rfl (KT LL rfl) ag (qT 11 rfl (fun _ h=>KS Mw rfl rfl (h.KN jf) rfl) ag (KR 12 rfl (LM Mw rfl) ag (KR 13 rfl (KW rfl) ag (KR 14 rfl (L6 rfl) ag (KR 15 rfl (KT Nu rfl) ag (qT 16 rfl (fun _ h=>KS U3 rfl rfl (h.KN jf) rfl) ag (KR 17 rfl (LX rfl rfl) ag (PA (KR 18 rfl (LR rfl rfl) ag (KR 19 rfl (MO rfl) ag (qE (KH rfl (qN rfl ?_)))))))))))));refine An rfl (An rfl (qV (L6 rfl) (qV (KT Nu rfl) (qV (KS U3 rfl rfl pu rfl) (qV (Mr rfl rfl) (MR (KO rfl (py (Ll.qb (e:=[(0,_),(2,_),(4,_),(66,_)]) ?_)))))))));refine L3 rfl (qN rfl (An rfl (An rfl (qV (L6 rfl) (qV (KT M9 rfl) ?_)))))
    obtain⟨x,r,hw⟩:∃x r,A.once=x::r:=by
     cases hx:A.once with
     |nil=>rw[hx] at ho;simp at ho;omega
     |cons x r=>exact⟨x,r,rfl⟩
    have f0:=Qo h3 (j:=0) (by decide);rw[show A.li 0=A.once from rfl,show Sb A.once= .tuple #[I x,.bool true] by rw[hw];rfl] at f0;obtain⟨w3,pw⟩:∃w3,w2.drew=w3:=⟨_,rfl⟩;rw[pw] at f0 h3 ct ag⊢;refine La [.tmp 74,.tmp 77] T5 rfl (f0) ?_;rintro _ w3 ⟨rfl,rfl⟩;refine An rfl (qV (Lu (v:=I x) rfl rfl) (qV (Lu (v:= .bool true) rfl rfl) (KO rfl (KO rfl (qM rfl (An rfl (qV (L6 rfl) (qV (KT M9 rfl) (An rfl (La [.tmp 83,.tmp 84] NP rfl (LS h3 (j:=0) (k:=x) (by decide)) ?_))))))))));rintro _ w5 ⟨rfl,V5,bU⟩;have xo:(A.li 0).erase x=A.once.drop 1:=by show A.once.erase x=A.once.drop 1;rw[hw];simp
    rw[xo] at bU;have eK:=(h2.r ag).trans bU;have cA:=eK.k.KN gT (fun e=>n2 _ e rfl);refine qM rfl (An rfl (qV (NA (parts:=[(1,.const (Value.bool true)),(2,.tmp 86)]) (cs:=[_,_,_]) Lo rfl QZ rfl rfl) (L0 rfl (Lz (news:=MQ false (some x)) Lo rfl rfl rfl rfl cA (by simp)) ?_)));rintro w6 ⟨ft,aT⟩;replace ft:KY w6 b2 [.bool false,.bool true,I x] 232:=ft;refine py (Lh Tryz.func161 (.cell NK rfl Lo rfl (KY.cells (n:=3) ft (news:=[_,_,_]) rfl) rfl .nil) ?_)
    have n5:∀b,NI c V5 p b->b≠b2:=fun b hb e=>by
     rcases eK.fp b hb with h5|h5
     ·exact n2 b h5 e
     ·have:=gT.lt;omega
    have dq:A.add=(A.Mg 0 (A.once.drop 1),some x):=by unfold Arc.add;rw[if_pos hf,if_neg ho,hw];rfl
    rw[dq];exact⟨_,rfl,rfl,V5,eK.m.kp aT n5,fun b hb=>(eK.fp b hb).imp id (fun e=>by omega),(af.kp.trans eK.k).KK aT (fun j e=> .inl (by omega))⟩
  ·refine KL (run_seq (KV (fun w'=>Ext w2 w') (by kernel_rfl) rfl (KR 0 rfl (KW rfl) ag (KR 1 rfl (KW rfl) ag (KR 2 rfl (L6 rfl) ag (KR 3 rfl (KT Nu rfl) ag (qT 4 rfl (fun _ h=>KS U3 rfl rfl (h.KN jf) rfl) ag (KR 5 rfl (Mr rfl rfl) ag (PA (KR 6 rfl (KW rfl) ag (qJ 7 rfl (ag) (qJ 8 rfl (ag) (qJ 9 rfl (ag) ?_)))))))))))));refine qJ 10 rfl (ag) (qJ 11 rfl (ag) (qJ 12 rfl (ag) (qJ 13 rfl (ag) (qJ 14 rfl (ag) (qJ 15 rfl (ag) (qJ 16 rfl (ag) (qJ 17 rfl (ag) (KR 18 rfl (Ls rfl rfl) ag (KR 19 rfl (MO rfl) ag (qE (KH rfl (qN rfl (An rfl ?_)))))))))))));refine An rfl (qV (L6 rfl) (qV (KT Nu rfl) (qV (KS U3 rfl rfl pu rfl) (qV (Mr rfl rfl) (Ly (KO rfl (py (Ll.qb (e:=[(0,_),(2,_),(4,_),(66,_)]) ?_))))))));refine KH rfl (qN rfl (An rfl (An rfl (qV (L6 rfl) (qV (KT Nu rfl) (qV (KS U3 rfl rfl pu rfl) ?_))))));by_cases h4:A.all.length<A.size
   ·refine qV (LX rfl rfl) (MR (KO rfl (py (L3 rfl (qN rfl (qV (NA (parts:=[]) (cs:=[_,_,_]) Lo rfl QZ rfl rfl) (L0 rfl (Lz (news:=MQ false none) Lo rfl rfl rfl rfl ct (by simp)) ?_)))))));rintro w5 ⟨cA,aj⟩;replace cA:KY w5 b2 [.bool false,.bool false,I 0] 232:=cA;refine py (Lh Tryz.func161 (.cell NK rfl Lo rfl (KY.cells (n:=3) cA (news:=[_,_,_]) rfl) rfl .nil) ?_);have dq:A.add=(A,none):=by unfold Arc.add;rw[if_neg hf,if_pos h4]
    rw[dq];exact⟨_,rfl,rfl,V,h3.kp aj n2,fun b hb=> .inl hb,((af.trans ag).KK aj (fun j e=>by omega)).kp⟩
   ·refine qV (LX rfl rfl) (Ly (KO rfl (py (KH rfl (qN rfl (An rfl (An rfl (qV (L6 rfl) (qV (KT Nu rfl) (qV (KS U3 rfl rfl pu rfl) (qV (Tu rfl rfl (by omega)) ?_)))))))))));by_cases h5:A.all.length=2*A.size
    ·refine qV (Mr rfl rfl) (MR (KO rfl (py (L3 rfl ?_))))
     obtain⟨x,r,hw⟩:∃x r,A.L4=x::r:=by
      cases hx:A.L4 with
      |nil=>rw[hx] at iK;simp at iK;omega
      |cons x r=>exact⟨x,r,rfl⟩
     obtain⟨lb,lo,lc,xn,-⟩:=h2.head (j:=3) (by decide) hw;rw[e3] at xn;cases xn;have dj:=(h3.q 3 (by decide)).sl.rd;rw[e3] at dj;have qp:0<A.L4.length:=by rw[hw];simp
     have jb:((A.li 3).map I)[0]? =some (I x):=by show(A.L4.map I)[0]? =_;rw[hw];rfl
     have ae:=Ext.Lb w2.drew;refine Le [10] (fun w'=>Ext w2.drew w') (by kernel_rfl) rfl (qL [1,2,10] 0 rfl (fun _ h=>KW rfl) ae (qL [2,10] 1 rfl (fun _ h=>L6 rfl) ae (qL [10] 2 rfl (fun _ h=>KT MC rfl) ae (qL [4,5,6,7,8,9,10] 3 rfl (fun _ h=>KW rfl) ae (qL [5,6,7,8,9,10] 4 rfl (fun _ h=>L6 rfl) ae (qL [6,7,8,9,10] 5 rfl (fun _ h=>KT MC rfl) ae (qL [7,8,9,10] 6 rfl (fun _ h=>KT LL rfl) ae (qL [8,9,10] 7 rfl (fun _ h=>KS Mw rfl rfl (h.KN (ag.KN jf)) rfl) ae (qL [9,10] 8 rfl (fun _ h=>LC Mw LG rfl rfl (by omega)) ae (qL [10] 9 rfl (fun _ h=>Lm U3 rfl rfl (LV (dj.ext h) (i:=0) jb)) ae (LD [10] (by kernel_rfl) (by kernel_rfl) (O2 10 [.tmp 106,.tmp 113] rfl NP rfl (LS (h3.ext ae) (j:=3) (k:=x) (by decide)) ?_))))))))))));rintro _ w5 ⟨rfl,V5,bU⟩;refine⟨trivial,?_⟩;have xo:(A.li 3).erase x=A.L4.drop 1:=by show A.L4.erase x=A.L4.drop 1;rw[hw];simp
     rw[xo] at bU;have eK:=(h2.r (ag.trans ae)).trans bU;have cA:=eK.k.KN gT (fun e=>n2 _ e rfl);refine qE (Ll.qb (e:=[(0,_),(2,_)]) ?_);refine KM ?_;exact(eR _ _ ⟨rfl,_,V5,hA.zbd,(US A (j:=3) (by decide) _).1,eK,cA,by unfold Arc.add;rw[if_neg hf,if_neg h4,if_pos h5];rfl,eK.k.size⟩).qb
    ·refine qV (Mr rfl rfl) (Ly (KO rfl (py (KH rfl (It (KM ?_))))));exact(eR _ _ ⟨rfl,A,V,hA,rfl,h2.r ag,ct,by unfold Arc.add;rw[if_neg hf,if_neg h4,if_neg h5],ag.size⟩).qb
end
section
variable {w w' w2:World}{c p:Nat}{A A' A2:Arc}{V V' V2:Nat->Value×Value}{S:Nat->Prop}{k:Int}
theorem NR.U8 (h:NR w c A V p){T:Int}(hB:KY w' c (acC A.size T V p) 167)(hk:Kp (fun b=>b=c) w w'):R3 w c V p w' {A with target:=T} V:=
 ⟨⟨hB,fun j hj=>by
  have e:({A with target:=T}:Arc).li j=A.li j:=by match j,hj with|0,_|1,_|2,_|3,_=>rfl
  rw[e]
  exact(h.q j hj).kp hk fun b hb e=>h.nc j hj (e▸hb),hk.map h.pins (fun e=>h.cp e.symm),h.QU,h.nc,h.np,h.cp⟩,fun b hb=> .inl hb,hk.L2 fun b e=> .inl e⟩
theorem Arc.Ok.U8 (h:A.Ok){T:Int}(hT:0<=T/\T<=A.size):({A with target:=T}:Arc).Ok:=⟨h.pos,h.nd,h.held,h.first,h.total,hT⟩
theorem R3.mono (h:R3 w c V p w' A' V'){b:Nat}(hb:∀j,NI c V p j->j≠b)(hw:b<w.heap.size):∀j,NI c V' p j->j≠b:=fun j hj e=>by
 rcases h.fp j hj with h5|h5
 ·exact hb j h5 e
 ·omega
theorem z0J (h : NR w c A V p)(hA : A.Ok)(co : A.size <= 1000) : Lk Tryz.prog 125 [ptr c 0, I k] w fun v w' => v = .tuple #[z7F (A.MI k).2.1 (A.MI k).2.2, I 0] /\ ∃ V', R3 w c V p w' (A.MI k).1 V' := by
 have jJ:=hA.lens co 1
 have ir:=hA.lens co 2
 have lT:=hA.lens co 3
 have Ip:=hA.tg
 have gM:=hA.pos
 have iK:=A.Mo
 have eA:=hA.total
 have fh:=hA.nd
 unfold Arc.all at fh
 rw[List.nodup_append] at fh
 obtain⟨nd1,nd2,nd3⟩:=fh
 rw[List.nodup_append] at nd2
 obtain⟨nd4,nd5,nd6⟩:=nd2
 have aO:∀{b:Nat},NI c V p b->b<w.heap.size:=h.lt
 rw[show A.li 1=A.often from rfl] at jJ
 rw[show A.li 2=A.L7 from rfl] at ir
 rw[show A.li 3=A.L4 from rfl] at lT
 refine KJ (e:=[(0,_),(1,_)]) Tryz.func125 rfl Tryz.ntmps125 rfl rfl (qN rfl (KU rfl rfl (N3 (cs:=[_,_,_]) Lo rfl) ?_))
 rintro _ w1 ⟨b4,rfl,gh,ad,aJ⟩
 replace aJ:KY w1 b4 [.bool false,.bool false,I 0] 232:=aJ
 have n4:∀b,NI c V p b->b≠b4:=fun b hb e=>by have:=aO hb;omega
 have l4:=aJ.lt
 have h1:=h.ext ad
 have z1:=ad.size
 refine KO rfl (py (run_seq (qN rfl (An rfl (qV (LQ U89 rfl rfl) (py (KH rfl (It (run_seq (qN rfl (An rfl (An rfl (La [.tmp 13,.tmp 14] z81 rfl (Xh h1 (k:=k)) ?_)))))))))))))
 rintro _ w1 ⟨rfl,rfl⟩
 by_cases bu:k∈A.once\/k∈A.often
 ·rw[decide_eq_true bu];refine py (L3 rfl (qN rfl (An rfl (qV (L6 rfl) (qV (KT M9 rfl) (An rfl (La [.tmp 18,.tmp 19] NP rfl (LS h1 (j:=0) (k:=k) (by decide)) ?_)))))));rintro _ w2 ⟨rfl,V2,dz⟩;refine qM rfl (An rfl (qV (L6 rfl) (qV (KT MF rfl) (An rfl (La [.tmp 23,.tmp 24] NP rfl (LS dz.m (j:=1) (k:=k) (by decide)) ?_)))));rintro _ w3 ⟨rfl,V3,bX⟩;refine qM rfl (An rfl (qV (L6 rfl) (qV (KT MF rfl) (An rfl ?_))))
  have tQ:k∉((A.Mg 0 ((A.li 0).erase k)).Mg 1 (((A.Mg 0 ((A.li 0).erase k)).li 1).erase k)).li 1:=by
   show k∉A.often.erase k;exact nd4.not_mem_erase
  have jn:(((A.Mg 0 ((A.li 0).erase k)).Mg 1 (((A.Mg 0 ((A.li 0).erase k)).li 1).erase k)).li 1).length<=8191:=by
   show(A.often.erase k).length<=_;have:=(List.length_erase_le:(A.often.erase k).length<=A.often.length);omega
  refine La [.tmp 28,.tmp 29] Ol rfl (Ml bX.m (j:=1) (k:=k) (by decide) tQ jn) ?_;rintro _ w4 ⟨rfl,V4,bC⟩;have hr:=(dz.trans bX).trans bC;have cj:=hr.k.KN aJ (fun e=>n4 _ e rfl);refine qM rfl (qV (NA (parts:=[(0,.const (Value.bool true))]) (cs:=[_,_,_]) Lo rfl QZ rfl rfl) (L0 rfl (Lz (news:=MQ true none) Lo rfl rfl rfl rfl cj (by simp)) ?_));rintro w5 ⟨aK,aj⟩;replace aK:KY w5 b4 [.bool true,.bool false,I 0] 232:=aK;refine KO rfl (py (Ll.qb (e:=[(0,_),(1,_),(4,_),(5,_)]) ?_));refine Lh Tryz.func125 (.cell NK rfl Lo rfl (KY.cells (n:=3) aK (news:=[_,_,_]) rfl) rfl (.tmp rfl .nil)) ?_;have eA:A.MI k=({A with once:=A.once.erase k,often:=A.often.erase k++[k]},true,none):=by unfold Arc.MI;rw[if_pos bu]
  rw[eA];exact⟨_,rfl,rfl,V4,hr.m.kp aj (hr.mono n4 l4),fun b hb=>(hr.fp b hb).imp id (fun e=>by omega),(ad.kp.trans hr.k).KK aj (fun j e=> .inl (by omega))⟩
 ·rw [decide_eq_false bu]; have g9 : k ∉ A.once := fun e => bu (.inl e); have aM : k ∉ A.often := fun e => bu (.inr e); have kY : ¬ A.held k := bu; refine py (KH rfl ?_); have f0 := Qo h1 (j := 0) (by decide); have f1 := Qo h1 (j := 1) (by decide); rw [show A.li 0 = A.once from rfl] at f0; rw [show A.li 1 = A.often from rfl] at f1
  obtain⟨v0,o0,e0,q0⟩:∃x o,Sb A.once= .tuple #[I x,.bool o]/\(o=true↔A.once≠[]):=by
   cases A.once with
   |nil=>exact⟨_,_,rfl,by simp⟩
   |cons x r=>exact⟨_,_,rfl,by simp⟩
  obtain⟨v1,o1,e1,q1⟩:∃x o,Sb A.often= .tuple #[I x,.bool o]/\(o=true↔A.often≠[]):=by
   cases A.often with
   |nil=>exact⟨_,_,rfl,by simp⟩
   |cons x r=>exact⟨_,_,rfl,by simp⟩
  rw[e0] at f0;rw[e1] at f1;refine It (qN rfl (An rfl (An rfl (qV (L6 rfl) (qV (KT M9 rfl) (La [.tmp 33,.tmp 36] T5 rfl (f0) ?_))))));rintro _ w1 ⟨rfl,rfl⟩;refine An rfl (qV (Lu (v:=I v0) rfl rfl) (qV (Lu (v:= .bool o0) rfl rfl) (KO rfl (KO rfl (qM rfl (An rfl (An rfl (qV (L6 rfl) (qV (KT MF rfl) (La [.tmp 41,.tmp 44] T5 rfl (f1) ?_))))))))));rintro _ w1 ⟨rfl,rfl⟩;refine An rfl (qV (Lu (v:=I v1) rfl rfl) (qV (Lu (v:= .bool o1) rfl rfl) (KO rfl (KO rfl (py (Ll.qb (e:=[(0,_),(1,_),(4,_),(5,_),(7,_),(9,_)]) ?_))))));refine run_seq (qN rfl (An rfl (La [.tmp 48] z8t rfl (X7 h1 hA co) ?_)));rintro _ w2 ⟨rfl,af⟩;have h2:=h1.ext af;have bq:=af.KN aJ;have aI:=ad.trans af;have z2:=af.size;have eB:=h2.cells;have aa:=Ext.Lb w2;obtain⟨a2,c2,e2,-⟩:∃a c,(V 2).1= .slice a A.L7.length c/\_:=(h.q 2 (by decide)).sl.rd.shape;obtain⟨a3,c3,e3,-⟩:∃a c,(V 3).1= .slice a A.L4.length c/\_:=(h.q 3 (by decide)).sl.rd.shape;rw[e2,e3] at eB;have lU:=Ql h2 (j:=2) (k:=k) (by decide);have pw:=Ql h2 (j:=3) (k:=k) (by decide);rw[show A.li 2=A.L7 from rfl] at lU;rw[show A.li 3=A.L4 from rfl] at pw;have n4':∀b,NI c V p b->b≠b4:=n4;have l42:b4<w2.heap.size:=by omega
  by_cases bR:A.once.length+A.often.length=A.size
  ·rw [decide_eq_true bR]
   cases Fo:o0 with
   | true =>
     subst Fo;refine An rfl (An rfl (qV ((by first|exact LN rfl|exact Na rfl)) ?_));refine qV (LR rfl rfl) (An rfl (qS (qS (qV (Ls rfl rfl) (py (KH rfl (It (run_seq (KL (qN rfl (An rfl (qV (L6 rfl) (qV (KT Mn rfl) ?_)))))))))))));refine An rfl (La [.tmp 69,.tmp 70] Sf rfl (lU) ?_);rintro _ w2 ⟨rfl,rfl⟩;by_cases hg:k∈A.L7
     ·rw[decide_eq_true hg];refine KO rfl (py (L3 rfl (run_seq ?_)));have qp:0<A.L7.length:=List.length_pos_of_mem hg;obtain⟨q,hq⟩:∃q,A.L4.length / A.L7.length=q:=⟨_,rfl⟩;have fE:q<=2000:=by rw[<-hq];exact Nat.le_trans (Nat.div_le_self _ _) lT
      have lV:(A.L4.length:Int) / (A.L7.length:Int)=(q:Int):=by rw[<-hq];exact(Int.natCast_ediv _ _).symm
      refine Le [27] (fun w'=>Ext w2 w') (by kernel_rfl) rfl (qL [25,26,27] 0 rfl (fun _ h=>KW rfl) aa (qL [2,3,4,24,25,26,27] 1 rfl (fun _ h=>KW rfl) aa (qL [3,4,24,25,26,27] 2 rfl (fun _ h=>L6 rfl) aa (qL [4,24,25,26,27] 3 rfl (fun _ h=>KT Nu rfl) aa (qL [24,25,26,27] 4 rfl (fun _ h=>KS U3 rfl rfl (h.KN eB) rfl) aa (qL [6,7,8,23,24,25,26,27] 5 rfl (fun _ h=>KW rfl) aa (qL [7,8,23,24,25,26,27] 6 rfl (fun _ h=>L6 rfl) aa (qL [8,23,24,25,26,27] 7 rfl (fun _ h=>KT MA rfl) aa (qL [23,24,25,26,27] 8 rfl (fun _ h=>KS U3 rfl rfl (h.KN eB) rfl) aa (qL [10,11,12,13,14,21,22,23,24,25,26,27] 9 rfl (fun _ h=>KW rfl) aa (qL [11,12,13,14,21,22,23,24,25,26,27] 10 rfl (fun _ h=>L6 rfl) aa (qL [12,13,14,21,22,23,24,25,26,27] 11 rfl (fun _ h=>KT MC rfl) aa (qL [13,14,21,22,23,24,25,26,27] 12 rfl (fun _ h=>KT LL rfl) aa ?_)))))))))))));refine qL [14,21,22,23,24,25,26,27] 13 rfl (fun _ h=>KS Mw rfl rfl (h.KN eB) rfl) aa (qL [21,22,23,24,25,26,27] 14 rfl (fun _ h=>LM Mw rfl) aa (qL [16,17,18,19,20,21,22,23,24,25,26,27] 15 rfl (fun _ h=>KW rfl) aa (qL [17,18,19,20,21,22,23,24,25,26,27] 16 rfl (fun _ h=>L6 rfl) aa (qL [18,19,20,21,22,23,24,25,26,27] 17 rfl (fun _ h=>KT Mn rfl) aa (qL [19,20,21,22,23,24,25,26,27] 18 rfl (fun _ h=>KT LL rfl) aa (qL [20,21,22,23,24,25,26,27] 19 rfl (fun _ h=>KS Mw rfl rfl (h.KN eB) rfl) aa (qL [21,22,23,24,25,26,27] 20 rfl (fun _ h=>LM Mw rfl) aa (qL [22,23,24,25,26,27] 21 rfl (fun _ h=>RE rfl rfl ⟨by omega,by omega,by omega⟩) aa ?_))))))));rw[lV];refine qL [23,24,25,26,27] 22 rfl (fun _ h=>yma rfl rfl) aa (qL [24,25,26,27] 23 rfl (fun _ h=>PM rfl rfl (by omega)) aa (qL [25,26,27] 24 rfl (fun _ h=>ymi rfl rfl) aa (qL [26,27] 25 rfl (fun _ h=>L6 rfl) aa (qL [27] 26 rfl (fun _ h=>KT MA rfl) aa (LD [27] (by kernel_rfl) (by kernel_rfl) (qO 27 (Lv (i:=27) rfl rfl (Mt LG rfl rfl rfl (aa.KN eB) (by simp)) ?_)))))));rintro w5 ⟨aF,aj⟩;refine⟨trivial,?_⟩;obtain⟨T,hT⟩:∃T:Int,min (A.size:Int) (A.target+max 1 (q:Int))=T:=⟨_,rfl⟩;have nl:0<=T/\T<=A.size:=by omega
      rw[hT] at aF
      replace aF:KY w5 c (acC A.size T V p) 167:=by
       show KY w5 c [I (A.size:Int),(V 0).1,(V 0).2,(V 1).1,(V 1).2,(V 2).1,(V 2).2,(V 3).1,(V 3).2,I T,.map (some p)] _;rw[e2,e3];exact aF
      have bU:=(h2.ext aa).U8 aF aj;have aS:=hA.U8 nl;obtain⟨A5,bA⟩:∃A5:Arc,{A with target:=T}=A5:=⟨_,rfl⟩;have nR:A5.size=A.size:=by rw[<-bA]
      have nn:¬A5.held k:=by rw[<-bA];exact kY
      have qm:k∈A5.L7:=by rw[<-bA];exact hg
      rw[bA] at bU aS;refine qE (Ll.qb (e:=[(0,_),(1,_),(4,_),(5,_)]) ?_);refine qN rfl (An rfl (La [.tmp 99,.const (Value.bool false)] Vk rfl (OB bU.m aS (by omega) false) ?_));rintro _ w6 ⟨rfl,V6,cn⟩;have av:=Arc.Om aS false;obtain⟨r6,cf⟩:∃r,A5.room false=r:=⟨_,rfl⟩;rw[cf] at cn av⊢;obtain⟨A6,g6⟩:=r6;dsimp only at cn av⊢;have dT:=av.perm.length_eq;have iQ:=A6.Mo;have nq:=A5.Mo;have nr:=aS.total;have az:=((h2.r aa).trans bU).trans cn;have bJ:=az.k.KN bq (fun e=>n4' _ e rfl);refine L0 rfl (Lz (news:=MQ false g6) Lo rfl rfl rfl rfl bJ (by simp)) ?_;rintro w7 ⟨ba,aA⟩;replace ba:KY w7 b4 [.bool false,.bool g6.isSome,I (g6.getD 0)] 232:=ba;have n46:=az.mono n4' l42;have fP:=az.m.kp aA n46;refine qM rfl (An rfl (qV (L6 rfl) (qV (KT Mn rfl) (An rfl (La [.tmp 103,.tmp 104] NP rfl (LS fP (j:=2) (k:=k) (by decide)) ?_)))));rintro _ w8 ⟨rfl,V8,fg⟩
      have dr:k∉(A6.Mg 2 ((A6.li 2).erase k)).li 1:=by
       show k∉A6.often;exact fun e=>nn ((av.gone k).1 (.inr e)).1
      refine py (KQ rfl (An rfl (qV (L6 rfl) (qV (KT MF rfl) (An rfl (La [.tmp 108,.tmp 109] Ol rfl (Ml fg.m (j:=1) (k:=k) (by decide) dr (by show A6.often.length<=_;omega)) ?_))))));rintro _ w9 ⟨rfl,V9,gz⟩;have aY:=fg.trans gz;have bI:=aY.k.KN ba (fun e=>n46 _ e rfl);have eC:=bI
      have cg:∀b,NI c V9 p b->NI c V p b\/w2.heap.size<=b:=fun b hb=>by
       rcases aY.fp b hb with h5|h5
       ·exact az.fp b h5
       ·have:=az.k.size;have:=aA.size;exact .inr (by omega)
      have aL:Kp (fun j=>NI c V p j\/j=b4) w2 w9:=((az.k.L2 fun j e=> .inl e).trans (aA.L2 fun j e=> .inr e)).KK aY.k (fun j e=>by
       rcases az.fp j e with h5|h5
       ·exact .inr (.inl h5)
       ·exact .inl h5)
      refine py (KM (qN rfl (qV (Lj (news:=MQ false g6) NK rfl Lo rfl (KY.cells (n:=3) eC rfl) rfl) (L0 rfl (Lz (news:=MQ false g6) Lo rfl rfl rfl rfl eC (by simp)) ?_))));rintro we ⟨cU,da⟩;replace cU:KY we b4 [.bool false,.bool g6.isSome,I (g6.getD 0)] 232:=cU;refine KO rfl (py (Lh Tryz.func125 (.cell NK rfl Lo rfl (KY.cells (n:=3) cU (news:=[_,_,_]) rfl) rfl (.tmp rfl .nil)) ?_))
      have n49:∀b,NI c V9 p b->b≠b4:=fun b hb e=>by
       rcases cg b hb with h5|h5
       ·exact n4' b h5 e
       ·omega
      have eA:A.MI k=({A6 with L7:=A6.L7.erase k,often:=A6.often++[k]},false,g6):=by
       unfold Arc.MI;rw[if_neg bu,if_pos hg];dsimp only;rw[hq,hT,bA,cf]
      rw[eA]
      exact⟨_,rfl,rfl,V9,aY.m.kp da n49,fun b hb=>(cg b hb).imp id (fun e=>by omega),(aI.kp.KK aL (fun j e=>by
       rcases e with e| e
       ·exact .inr e
       ·exact .inl (by omega))).KK da (fun j e=> .inl (by omega))⟩
     ·have qq:=hg;rw[decide_eq_false hg];refine KO rfl (py (KH rfl (qN rfl (An rfl (qV (L6 rfl) (qV (KT MC rfl) (An rfl (La [.tmp 114,.tmp 115] Sf rfl (pw) ?_))))))));rintro _ w2 ⟨rfl,rfl⟩;by_cases hg:k∈A.L4
      ·rw[decide_eq_true hg];refine KO rfl (py (Ll.qb (e:=[(0,_),(1,_),(4,_),(5,_),(111,_)]) ?_));refine L3 rfl (run_seq ?_);have qp:0<A.L4.length:=List.length_pos_of_mem hg;obtain⟨q,hq⟩:∃q,A.L7.length / A.L4.length=q:=⟨_,rfl⟩;have fE:q<=2000:=by rw[<-hq];exact Nat.le_trans (Nat.div_le_self _ _) ir
       have lV:(A.L7.length:Int) / (A.L4.length:Int)=(q:Int):=by rw[<-hq];exact(Int.natCast_ediv _ _).symm
       refine Le [23] (fun w'=>Ext w2 w') (by kernel_rfl) rfl (qL [21,22,23] 0 rfl (fun _ h=>KW rfl) aa (qL [2,3,4,19,20,21,22,23] 1 rfl (fun _ h=>KW rfl) aa (qL [3,4,19,20,21,22,23] 2 rfl (fun _ h=>L6 rfl) aa (qL [4,19,20,21,22,23] 3 rfl (fun _ h=>KT MA rfl) aa (qL [19,20,21,22,23] 4 rfl (fun _ h=>KS U3 rfl rfl (h.KN eB) rfl) aa (qL [6,7,8,9,10,17,18,19,20,21,22,23] 5 rfl (fun _ h=>KW rfl) aa (qL [7,8,9,10,17,18,19,20,21,22,23] 6 rfl (fun _ h=>L6 rfl) aa (qL [8,9,10,17,18,19,20,21,22,23] 7 rfl (fun _ h=>KT Mn rfl) aa (qL [9,10,17,18,19,20,21,22,23] 8 rfl (fun _ h=>KT LL rfl) aa (qL [10,17,18,19,20,21,22,23] 9 rfl (fun _ h=>KS Mw rfl rfl (h.KN eB) rfl) aa (qL [17,18,19,20,21,22,23] 10 rfl (fun _ h=>LM Mw rfl) aa (qL [12,13,14,15,16,17,18,19,20,21,22,23] 11 rfl (fun _ h=>KW rfl) aa (qL [13,14,15,16,17,18,19,20,21,22,23] 12 rfl (fun _ h=>L6 rfl) aa ?_)))))))))))));refine qL [14,15,16,17,18,19,20,21,22,23] 13 rfl (fun _ h=>KT MC rfl) aa (qL [15,16,17,18,19,20,21,22,23] 14 rfl (fun _ h=>KT LL rfl) aa (qL [16,17,18,19,20,21,22,23] 15 rfl (fun _ h=>KS Mw rfl rfl (h.KN eB) rfl) aa (qL [17,18,19,20,21,22,23] 16 rfl (fun _ h=>LM Mw rfl) aa (qL [18,19,20,21,22,23] 17 rfl (fun _ h=>RE rfl rfl ⟨by omega,by omega,by omega⟩) aa ?_))));rw[lV];refine qL [19,20,21,22,23] 18 rfl (fun _ h=>yma rfl rfl) aa (qL [20,21,22,23] 19 rfl (fun _ h=>Md rfl rfl (by omega)) aa (qL [21,22,23] 20 rfl (fun _ h=>yma rfl rfl) aa (qL [22,23] 21 rfl (fun _ h=>L6 rfl) aa (qL [23] 22 rfl (fun _ h=>KT MA rfl) aa (LD [23] (by kernel_rfl) (by kernel_rfl) (qO 23 (Lv (i:=23) rfl rfl (Mt LG rfl rfl rfl (aa.KN eB) (by simp)) ?_)))))));rintro w5 ⟨aF,aj⟩;refine⟨trivial,?_⟩;obtain⟨T,hT⟩:∃T:Int,max 0 (A.target-max 1 (q:Int))=T:=⟨_,rfl⟩;have nl:0<=T/\T<=A.size:=by omega
       rw[hT] at aF
       replace aF:KY w5 c (acC A.size T V p) 167:=by
        show KY w5 c [I (A.size:Int),(V 0).1,(V 0).2,(V 1).1,(V 1).2,(V 2).1,(V 2).2,(V 3).1,(V 3).2,I T,.map (some p)] _;rw[e2,e3];exact aF
       have bU:=(h2.ext aa).U8 aF aj;have aS:=hA.U8 nl;obtain⟨A5,bA⟩:∃A5:Arc,{A with target:=T}=A5:=⟨_,rfl⟩;have nR:A5.size=A.size:=by rw[<-bA]
       have nn:¬A5.held k:=by rw[<-bA];exact kY
       have qm:k∈A5.L4:=by rw[<-bA];exact hg
       rw[bA] at bU aS;refine qE (Ll.qb (e:=[(0,_),(1,_),(4,_),(5,_)]) ?_);refine qN rfl (An rfl (La [.tmp 140,.const (Value.bool true)] Vk rfl (OB bU.m aS (by omega) true) ?_));rintro _ w6 ⟨rfl,V6,cn⟩;have av:=Arc.Om aS true;obtain⟨r6,cf⟩:∃r,A5.room true=r:=⟨_,rfl⟩;rw[cf] at cn av⊢;obtain⟨A6,g6⟩:=r6;dsimp only at cn av⊢;have dT:=av.perm.length_eq;have iQ:=A6.Mo;have nq:=A5.Mo;have nr:=aS.total;have az:=((h2.r aa).trans bU).trans cn;have bJ:=az.k.KN bq (fun e=>n4' _ e rfl);refine L0 rfl (Lz (news:=MQ false g6) Lo rfl rfl rfl rfl bJ (by simp)) ?_;rintro w7 ⟨ba,aA⟩;replace ba:KY w7 b4 [.bool false,.bool g6.isSome,I (g6.getD 0)] 232:=ba;have n46:=az.mono n4' l42;have fP:=az.m.kp aA n46;refine qM rfl (An rfl (qV (L6 rfl) (qV (KT MC rfl) (An rfl (La [.tmp 144,.tmp 145] NP rfl (LS fP (j:=3) (k:=k) (by decide)) ?_)))));rintro _ w8 ⟨rfl,V8,fg⟩
       have dr:k∉(A6.Mg 3 ((A6.li 3).erase k)).li 1:=by
        show k∉A6.often;exact fun e=>nn ((av.gone k).1 (.inr e)).1
       refine py (KQ rfl (An rfl (qV (L6 rfl) (qV (KT MF rfl) (An rfl (La [.tmp 149,.tmp 150] Ol rfl (Ml fg.m (j:=1) (k:=k) (by decide) dr (by show A6.often.length<=_;omega)) ?_))))));rintro _ w9 ⟨rfl,V9,gz⟩;have aY:=fg.trans gz;have bI:=aY.k.KN ba (fun e=>n46 _ e rfl);have eC:=bI
       have cg:∀b,NI c V9 p b->NI c V p b\/w2.heap.size<=b:=fun b hb=>by
        rcases aY.fp b hb with h5|h5
        ·exact az.fp b h5
        ·have:=az.k.size;have:=aA.size;exact .inr (by omega)
       have aL:Kp (fun j=>NI c V p j\/j=b4) w2 w9:=((az.k.L2 fun j e=> .inl e).trans (aA.L2 fun j e=> .inr e)).KK aY.k (fun j e=>by
        rcases az.fp j e with h5|h5
        ·exact .inr (.inl h5)
        ·exact .inl h5)
       refine py (KM (qN rfl (qV (Lj (news:=MQ false g6) NK rfl Lo rfl (KY.cells (n:=3) eC rfl) rfl) (L0 rfl (Lz (news:=MQ false g6) Lo rfl rfl rfl rfl eC (by simp)) ?_))));rintro we ⟨cU,da⟩;replace cU:KY we b4 [.bool false,.bool g6.isSome,I (g6.getD 0)] 232:=cU;refine KO rfl (py (Lh Tryz.func125 (.cell NK rfl Lo rfl (KY.cells (n:=3) cU (news:=[_,_,_]) rfl) rfl (.tmp rfl .nil)) ?_))
       have n49:∀b,NI c V9 p b->b≠b4:=fun b hb e=>by
        rcases cg b hb with h5|h5
        ·exact n4' b h5 e
        ·omega
       have eA:A.MI k=({A6 with L4:=A6.L4.erase k,often:=A6.often++[k]},false,g6):=by
        unfold Arc.MI;rw[if_neg bu,if_neg qq,if_pos hg];dsimp only;rw[hq,hT,bA,cf]
       rw[eA]
       exact⟨_,rfl,rfl,V9,aY.m.kp da n49,fun b hb=>(cg b hb).imp id (fun e=>by omega),(aI.kp.KK aL (fun j e=>by
        rcases e with e| e
        ·exact .inr e
        ·exact .inl (by omega))).KK da (fun j e=> .inl (by omega))⟩
      ·rw[decide_eq_false hg];refine KO rfl (py (Ll.qb (e:=[(0,_),(1,_),(4,_),(5,_),(111,_)]) ?_));refine KH rfl (qN rfl (An rfl (La [.tmp 59] z5D rfl (Vo h2 hA co) ?_)));rintro _ w6 ⟨rfl,V6,cn⟩;have dq:=Arc.Y5 hA;obtain⟨r6,cf⟩:∃r,A.add=r:=⟨_,rfl⟩;rw[cf] at cn dq⊢;obtain⟨A6,g6⟩:=r6;dsimp only at cn dq⊢;obtain⟨eS,-,-⟩:=dq;have iQ:=A6.Mo;have az:=cn;have bJ:=az.k.KN bq (fun e=>n4' _ e rfl);refine L0 rfl (Lz (news:=MQ false g6) Lo rfl rfl rfl rfl bJ (by simp)) ?_;rintro w7 ⟨ba,aA⟩;replace ba:KY w7 b4 [.bool false,.bool g6.isSome,I (g6.getD 0)] 232:=ba;have n46:=az.mono n4' l42;have fP:=az.m.kp aA n46
       have dr:k∉A6.li 0:=by
        show k∉A6.once;exact fun e=>kY ((eS.gone k).1 (.inl e)).1
       have o7:=eS.Tq;refine py (KQ rfl (An rfl (qV (L6 rfl) (qV (KT M9 rfl) (An rfl (La [.tmp 63,.tmp 64] Ol rfl (Ml fP (j:=0) (k:=k) (by decide) dr (by show A6.once.length<=_;omega)) ?_))))));rintro _ w9 ⟨rfl,V9,gz⟩;have aY:=gz;have bI:=aY.k.KN ba (fun e=>n46 _ e rfl);have eC:=bI
       have cg:∀b,NI c V9 p b->NI c V p b\/w2.heap.size<=b:=fun b hb=>by
        rcases aY.fp b hb with h5|h5
        ·exact az.fp b h5
        ·have:=az.k.size;have:=aA.size;exact .inr (by omega)
       have aL:Kp (fun j=>NI c V p j\/j=b4) w2 w9:=((az.k.L2 fun j e=> .inl e).trans (aA.L2 fun j e=> .inr e)).KK aY.k (fun j e=>by
        rcases az.fp j e with h5|h5
        ·exact .inr (.inl h5)
        ·exact .inl h5)
       refine py (KM (qN rfl (qV (Lj (news:=MQ false g6) NK rfl Lo rfl (KY.cells (n:=3) eC rfl) rfl) (L0 rfl (Lz (news:=MQ false g6) Lo rfl rfl rfl rfl eC (by simp)) ?_))));rintro we ⟨cU,da⟩;replace cU:KY we b4 [.bool false,.bool g6.isSome,I (g6.getD 0)] 232:=cU;refine KO rfl (py (Lh Tryz.func125 (.cell NK rfl Lo rfl (KY.cells (n:=3) cU (news:=[_,_,_]) rfl) rfl (.tmp rfl .nil)) ?_))
       have n49:∀b,NI c V9 p b->b≠b4:=fun b hb e=>by
        rcases cg b hb with h5|h5
        ·exact n4' b h5 e
        ·omega
       have eA:A.MI k=({A6 with once:=A6.once++[k]},false,g6):=by
        unfold Arc.MI;rw[if_neg bu,if_neg qq,if_neg hg];dsimp only;rw[cf]
       rw[eA]
       exact⟨_,rfl,rfl,V9,aY.m.kp da n49,fun b hb=>(cg b hb).imp id (fun e=>by omega),(aI.kp.KK aL (fun j e=>by
        rcases e with e| e
        ·exact .inr e
        ·exact .inl (by omega))).KK da (fun j e=> .inl (by omega))⟩
   | false =>
     subst Fo
     have xl:o1=true:=by
      have e:A.once=[]:=Classical.not_not.1 fun e=>by have:=q0.2 e;cases this
      rw[e] at bR;exact q1.2 fun e=>by rw[e] at bR;simp at bR;omega
     subst xl;refine An rfl (An rfl (qV ((by first|exact LN rfl|exact Na rfl)) ?_));refine qV (LR rfl rfl) (An rfl (An rfl (qV ((by first|exact LN rfl|exact Na rfl)) ?_)));refine qV (LR rfl rfl) (py (KH rfl (It (run_seq (KL (qN rfl (An rfl (qV (L6 rfl) (qV (KT Mn rfl) (An rfl (La [.tmp 69,.tmp 70] Sf rfl (lU) ?_)))))))))));rintro _ w2 ⟨rfl,rfl⟩;by_cases hg:k∈A.L7
     ·rw[decide_eq_true hg];refine KO rfl (py (L3 rfl (run_seq ?_)));have qp:0<A.L7.length:=List.length_pos_of_mem hg;obtain⟨q,hq⟩:∃q,A.L4.length / A.L7.length=q:=⟨_,rfl⟩;have fE:q<=2000:=by rw[<-hq];exact Nat.le_trans (Nat.div_le_self _ _) lT
      have lV:(A.L4.length:Int) / (A.L7.length:Int)=(q:Int):=by rw[<-hq];exact(Int.natCast_ediv _ _).symm
      refine Le [27] (fun w'=>Ext w2 w') (by kernel_rfl) rfl (qL [25,26,27] 0 rfl (fun _ h=>KW rfl) aa (qL [2,3,4,24,25,26,27] 1 rfl (fun _ h=>KW rfl) aa (qL [3,4,24,25,26,27] 2 rfl (fun _ h=>L6 rfl) aa (qL [4,24,25,26,27] 3 rfl (fun _ h=>KT Nu rfl) aa (qL [24,25,26,27] 4 rfl (fun _ h=>KS U3 rfl rfl (h.KN eB) rfl) aa (qL [6,7,8,23,24,25,26,27] 5 rfl (fun _ h=>KW rfl) aa (qL [7,8,23,24,25,26,27] 6 rfl (fun _ h=>L6 rfl) aa (qL [8,23,24,25,26,27] 7 rfl (fun _ h=>KT MA rfl) aa (qL [23,24,25,26,27] 8 rfl (fun _ h=>KS U3 rfl rfl (h.KN eB) rfl) aa (qL [10,11,12,13,14,21,22,23,24,25,26,27] 9 rfl (fun _ h=>KW rfl) aa (qL [11,12,13,14,21,22,23,24,25,26,27] 10 rfl (fun _ h=>L6 rfl) aa (qL [12,13,14,21,22,23,24,25,26,27] 11 rfl (fun _ h=>KT MC rfl) aa (qL [13,14,21,22,23,24,25,26,27] 12 rfl (fun _ h=>KT LL rfl) aa ?_)))))))))))));refine qL [14,21,22,23,24,25,26,27] 13 rfl (fun _ h=>KS Mw rfl rfl (h.KN eB) rfl) aa (qL [21,22,23,24,25,26,27] 14 rfl (fun _ h=>LM Mw rfl) aa (qL [16,17,18,19,20,21,22,23,24,25,26,27] 15 rfl (fun _ h=>KW rfl) aa (qL [17,18,19,20,21,22,23,24,25,26,27] 16 rfl (fun _ h=>L6 rfl) aa (qL [18,19,20,21,22,23,24,25,26,27] 17 rfl (fun _ h=>KT Mn rfl) aa (qL [19,20,21,22,23,24,25,26,27] 18 rfl (fun _ h=>KT LL rfl) aa (qL [20,21,22,23,24,25,26,27] 19 rfl (fun _ h=>KS Mw rfl rfl (h.KN eB) rfl) aa (qL [21,22,23,24,25,26,27] 20 rfl (fun _ h=>LM Mw rfl) aa (qL [22,23,24,25,26,27] 21 rfl (fun _ h=>RE rfl rfl ⟨by omega,by omega,by omega⟩) aa ?_))))))));rw[lV];refine qL [23,24,25,26,27] 22 rfl (fun _ h=>yma rfl rfl) aa (qL [24,25,26,27] 23 rfl (fun _ h=>PM rfl rfl (by omega)) aa (qL [25,26,27] 24 rfl (fun _ h=>ymi rfl rfl) aa (qL [26,27] 25 rfl (fun _ h=>L6 rfl) aa (qL [27] 26 rfl (fun _ h=>KT MA rfl) aa (LD [27] (by kernel_rfl) (by kernel_rfl) (qO 27 (Lv (i:=27) rfl rfl (Mt LG rfl rfl rfl (aa.KN eB) (by simp)) ?_)))))));rintro w5 ⟨aF,aj⟩;refine⟨trivial,?_⟩;obtain⟨T,hT⟩:∃T:Int,min (A.size:Int) (A.target+max 1 (q:Int))=T:=⟨_,rfl⟩;have nl:0<=T/\T<=A.size:=by omega
      rw[hT] at aF
      replace aF:KY w5 c (acC A.size T V p) 167:=by
       show KY w5 c [I (A.size:Int),(V 0).1,(V 0).2,(V 1).1,(V 1).2,(V 2).1,(V 2).2,(V 3).1,(V 3).2,I T,.map (some p)] _;rw[e2,e3];exact aF
      have bU:=(h2.ext aa).U8 aF aj;have aS:=hA.U8 nl;obtain⟨A5,bA⟩:∃A5:Arc,{A with target:=T}=A5:=⟨_,rfl⟩;have nR:A5.size=A.size:=by rw[<-bA]
      have nn:¬A5.held k:=by rw[<-bA];exact kY
      have qm:k∈A5.L7:=by rw[<-bA];exact hg
      rw[bA] at bU aS;refine qE (Ll.qb (e:=[(0,_),(1,_),(4,_),(5,_)]) ?_);refine qN rfl (An rfl (La [.tmp 99,.const (Value.bool false)] Vk rfl (OB bU.m aS (by omega) false) ?_));rintro _ w6 ⟨rfl,V6,cn⟩;have av:=Arc.Om aS false;obtain⟨r6,cf⟩:∃r,A5.room false=r:=⟨_,rfl⟩;rw[cf] at cn av⊢;obtain⟨A6,g6⟩:=r6;dsimp only at cn av⊢;have dT:=av.perm.length_eq;have iQ:=A6.Mo;have nq:=A5.Mo;have nr:=aS.total;have az:=((h2.r aa).trans bU).trans cn;have bJ:=az.k.KN bq (fun e=>n4' _ e rfl);refine L0 rfl (Lz (news:=MQ false g6) Lo rfl rfl rfl rfl bJ (by simp)) ?_;rintro w7 ⟨ba,aA⟩;replace ba:KY w7 b4 [.bool false,.bool g6.isSome,I (g6.getD 0)] 232:=ba;have n46:=az.mono n4' l42;have fP:=az.m.kp aA n46;refine qM rfl (An rfl (qV (L6 rfl) (qV (KT Mn rfl) (An rfl (La [.tmp 103,.tmp 104] NP rfl (LS fP (j:=2) (k:=k) (by decide)) ?_)))));rintro _ w8 ⟨rfl,V8,fg⟩
      have dr:k∉(A6.Mg 2 ((A6.li 2).erase k)).li 1:=by
       show k∉A6.often;exact fun e=>nn ((av.gone k).1 (.inr e)).1
      refine py (KQ rfl (An rfl (qV (L6 rfl) (qV (KT MF rfl) (An rfl (La [.tmp 108,.tmp 109] Ol rfl (Ml fg.m (j:=1) (k:=k) (by decide) dr (by show A6.often.length<=_;omega)) ?_))))));rintro _ w9 ⟨rfl,V9,gz⟩;have aY:=fg.trans gz;have bI:=aY.k.KN ba (fun e=>n46 _ e rfl);have eC:=bI
      have cg:∀b,NI c V9 p b->NI c V p b\/w2.heap.size<=b:=fun b hb=>by
       rcases aY.fp b hb with h5|h5
       ·exact az.fp b h5
       ·have:=az.k.size;have:=aA.size;exact .inr (by omega)
      have aL:Kp (fun j=>NI c V p j\/j=b4) w2 w9:=((az.k.L2 fun j e=> .inl e).trans (aA.L2 fun j e=> .inr e)).KK aY.k (fun j e=>by
       rcases az.fp j e with h5|h5
       ·exact .inr (.inl h5)
       ·exact .inl h5)
      refine py (KM (qN rfl (qV (Lj (news:=MQ false g6) NK rfl Lo rfl (KY.cells (n:=3) eC rfl) rfl) (L0 rfl (Lz (news:=MQ false g6) Lo rfl rfl rfl rfl eC (by simp)) ?_))));rintro we ⟨cU,da⟩;replace cU:KY we b4 [.bool false,.bool g6.isSome,I (g6.getD 0)] 232:=cU;refine KO rfl (py (Lh Tryz.func125 (.cell NK rfl Lo rfl (KY.cells (n:=3) cU (news:=[_,_,_]) rfl) rfl (.tmp rfl .nil)) ?_))
      have n49:∀b,NI c V9 p b->b≠b4:=fun b hb e=>by
       rcases cg b hb with h5|h5
       ·exact n4' b h5 e
       ·omega
      have eA:A.MI k=({A6 with L7:=A6.L7.erase k,often:=A6.often++[k]},false,g6):=by
       unfold Arc.MI;rw[if_neg bu,if_pos hg];dsimp only;rw[hq,hT,bA,cf]
      rw[eA]
      exact⟨_,rfl,rfl,V9,aY.m.kp da n49,fun b hb=>(cg b hb).imp id (fun e=>by omega),(aI.kp.KK aL (fun j e=>by
       rcases e with e| e
       ·exact .inr e
       ·exact .inl (by omega))).KK da (fun j e=> .inl (by omega))⟩
     ·have qq:=hg;rw[decide_eq_false hg];refine KO rfl (py (KH rfl (qN rfl (An rfl (qV (L6 rfl) (qV (KT MC rfl) (An rfl (La [.tmp 114,.tmp 115] Sf rfl (pw) ?_))))))));rintro _ w2 ⟨rfl,rfl⟩;by_cases hg:k∈A.L4
      ·rw[decide_eq_true hg];refine KO rfl (py (Ll.qb (e:=[(0,_),(1,_),(4,_),(5,_),(111,_)]) ?_));refine L3 rfl (run_seq ?_);have qp:0<A.L4.length:=List.length_pos_of_mem hg;obtain⟨q,hq⟩:∃q,A.L7.length / A.L4.length=q:=⟨_,rfl⟩;have fE:q<=2000:=by rw[<-hq];exact Nat.le_trans (Nat.div_le_self _ _) ir
       have lV:(A.L7.length:Int) / (A.L4.length:Int)=(q:Int):=by rw[<-hq];exact(Int.natCast_ediv _ _).symm
       refine Le [23] (fun w'=>Ext w2 w') (by kernel_rfl) rfl (qL [21,22,23] 0 rfl (fun _ h=>KW rfl) aa (qL [2,3,4,19,20,21,22,23] 1 rfl (fun _ h=>KW rfl) aa (qL [3,4,19,20,21,22,23] 2 rfl (fun _ h=>L6 rfl) aa (qL [4,19,20,21,22,23] 3 rfl (fun _ h=>KT MA rfl) aa (qL [19,20,21,22,23] 4 rfl (fun _ h=>KS U3 rfl rfl (h.KN eB) rfl) aa (qL [6,7,8,9,10,17,18,19,20,21,22,23] 5 rfl (fun _ h=>KW rfl) aa (qL [7,8,9,10,17,18,19,20,21,22,23] 6 rfl (fun _ h=>L6 rfl) aa (qL [8,9,10,17,18,19,20,21,22,23] 7 rfl (fun _ h=>KT Mn rfl) aa (qL [9,10,17,18,19,20,21,22,23] 8 rfl (fun _ h=>KT LL rfl) aa (qL [10,17,18,19,20,21,22,23] 9 rfl (fun _ h=>KS Mw rfl rfl (h.KN eB) rfl) aa (qL [17,18,19,20,21,22,23] 10 rfl (fun _ h=>LM Mw rfl) aa (qL [12,13,14,15,16,17,18,19,20,21,22,23] 11 rfl (fun _ h=>KW rfl) aa (qL [13,14,15,16,17,18,19,20,21,22,23] 12 rfl (fun _ h=>L6 rfl) aa ?_)))))))))))));refine qL [14,15,16,17,18,19,20,21,22,23] 13 rfl (fun _ h=>KT MC rfl) aa (qL [15,16,17,18,19,20,21,22,23] 14 rfl (fun _ h=>KT LL rfl) aa (qL [16,17,18,19,20,21,22,23] 15 rfl (fun _ h=>KS Mw rfl rfl (h.KN eB) rfl) aa (qL [17,18,19,20,21,22,23] 16 rfl (fun _ h=>LM Mw rfl) aa (qL [18,19,20,21,22,23] 17 rfl (fun _ h=>RE rfl rfl ⟨by omega,by omega,by omega⟩) aa ?_))));rw[lV];refine qL [19,20,21,22,23] 18 rfl (fun _ h=>yma rfl rfl) aa (qL [20,21,22,23] 19 rfl (fun _ h=>Md rfl rfl (by omega)) aa (qL [21,22,23] 20 rfl (fun _ h=>yma rfl rfl) aa (qL [22,23] 21 rfl (fun _ h=>L6 rfl) aa (qL [23] 22 rfl (fun _ h=>KT MA rfl) aa (LD [23] (by kernel_rfl) (by kernel_rfl) (qO 23 (Lv (i:=23) rfl rfl (Mt LG rfl rfl rfl (aa.KN eB) (by simp)) ?_)))))));rintro w5 ⟨aF,aj⟩;refine⟨trivial,?_⟩;obtain⟨T,hT⟩:∃T:Int,max 0 (A.target-max 1 (q:Int))=T:=⟨_,rfl⟩;have nl:0<=T/\T<=A.size:=by omega
       rw[hT] at aF
       replace aF:KY w5 c (acC A.size T V p) 167:=by
        show KY w5 c [I (A.size:Int),(V 0).1,(V 0).2,(V 1).1,(V 1).2,(V 2).1,(V 2).2,(V 3).1,(V 3).2,I T,.map (some p)] _;rw[e2,e3];exact aF
       have bU:=(h2.ext aa).U8 aF aj;have aS:=hA.U8 nl;obtain⟨A5,bA⟩:∃A5:Arc,{A with target:=T}=A5:=⟨_,rfl⟩;have nR:A5.size=A.size:=by rw[<-bA]
       have nn:¬A5.held k:=by rw[<-bA];exact kY
       have qm:k∈A5.L4:=by rw[<-bA];exact hg
       rw[bA] at bU aS;refine qE (Ll.qb (e:=[(0,_),(1,_),(4,_),(5,_)]) ?_);refine qN rfl (An rfl (La [.tmp 140,.const (Value.bool true)] Vk rfl (OB bU.m aS (by omega) true) ?_));rintro _ w6 ⟨rfl,V6,cn⟩;have av:=Arc.Om aS true;obtain⟨r6,cf⟩:∃r,A5.room true=r:=⟨_,rfl⟩;rw[cf] at cn av⊢;obtain⟨A6,g6⟩:=r6;dsimp only at cn av⊢;have dT:=av.perm.length_eq;have iQ:=A6.Mo;have nq:=A5.Mo;have nr:=aS.total;have az:=((h2.r aa).trans bU).trans cn;have bJ:=az.k.KN bq (fun e=>n4' _ e rfl);refine L0 rfl (Lz (news:=MQ false g6) Lo rfl rfl rfl rfl bJ (by simp)) ?_;rintro w7 ⟨ba,aA⟩;replace ba:KY w7 b4 [.bool false,.bool g6.isSome,I (g6.getD 0)] 232:=ba;have n46:=az.mono n4' l42;have fP:=az.m.kp aA n46;refine qM rfl (An rfl (qV (L6 rfl) (qV (KT MC rfl) (An rfl (La [.tmp 144,.tmp 145] NP rfl (LS fP (j:=3) (k:=k) (by decide)) ?_)))));rintro _ w8 ⟨rfl,V8,fg⟩
       have dr:k∉(A6.Mg 3 ((A6.li 3).erase k)).li 1:=by
        show k∉A6.often;exact fun e=>nn ((av.gone k).1 (.inr e)).1
       refine py (KQ rfl (An rfl (qV (L6 rfl) (qV (KT MF rfl) (An rfl (La [.tmp 149,.tmp 150] Ol rfl (Ml fg.m (j:=1) (k:=k) (by decide) dr (by show A6.often.length<=_;omega)) ?_))))));rintro _ w9 ⟨rfl,V9,gz⟩;have aY:=fg.trans gz;have bI:=aY.k.KN ba (fun e=>n46 _ e rfl);have eC:=bI
       have cg:∀b,NI c V9 p b->NI c V p b\/w2.heap.size<=b:=fun b hb=>by
        rcases aY.fp b hb with h5|h5
        ·exact az.fp b h5
        ·have:=az.k.size;have:=aA.size;exact .inr (by omega)
       have aL:Kp (fun j=>NI c V p j\/j=b4) w2 w9:=((az.k.L2 fun j e=> .inl e).trans (aA.L2 fun j e=> .inr e)).KK aY.k (fun j e=>by
        rcases az.fp j e with h5|h5
        ·exact .inr (.inl h5)
        ·exact .inl h5)
       refine py (KM (qN rfl (qV (Lj (news:=MQ false g6) NK rfl Lo rfl (KY.cells (n:=3) eC rfl) rfl) (L0 rfl (Lz (news:=MQ false g6) Lo rfl rfl rfl rfl eC (by simp)) ?_))));rintro we ⟨cU,da⟩;replace cU:KY we b4 [.bool false,.bool g6.isSome,I (g6.getD 0)] 232:=cU;refine KO rfl (py (Lh Tryz.func125 (.cell NK rfl Lo rfl (KY.cells (n:=3) cU (news:=[_,_,_]) rfl) rfl (.tmp rfl .nil)) ?_))
       have n49:∀b,NI c V9 p b->b≠b4:=fun b hb e=>by
        rcases cg b hb with h5|h5
        ·exact n4' b h5 e
        ·omega
       have eA:A.MI k=({A6 with L4:=A6.L4.erase k,often:=A6.often++[k]},false,g6):=by
        unfold Arc.MI;rw[if_neg bu,if_neg qq,if_pos hg];dsimp only;rw[hq,hT,bA,cf]
       rw[eA]
       exact⟨_,rfl,rfl,V9,aY.m.kp da n49,fun b hb=>(cg b hb).imp id (fun e=>by omega),(aI.kp.KK aL (fun j e=>by
        rcases e with e| e
        ·exact .inr e
        ·exact .inl (by omega))).KK da (fun j e=> .inl (by omega))⟩
      ·rw[decide_eq_false hg];refine KO rfl (py (Ll.qb (e:=[(0,_),(1,_),(4,_),(5,_),(111,_)]) ?_));refine KH rfl (qN rfl (An rfl (La [.tmp 59] z5D rfl (Vo h2 hA co) ?_)));rintro _ w6 ⟨rfl,V6,cn⟩;have dq:=Arc.Y5 hA;obtain⟨r6,cf⟩:∃r,A.add=r:=⟨_,rfl⟩;rw[cf] at cn dq⊢;obtain⟨A6,g6⟩:=r6;dsimp only at cn dq⊢;obtain⟨eS,-,-⟩:=dq;have iQ:=A6.Mo;have az:=cn;have bJ:=az.k.KN bq (fun e=>n4' _ e rfl);refine L0 rfl (Lz (news:=MQ false g6) Lo rfl rfl rfl rfl bJ (by simp)) ?_;rintro w7 ⟨ba,aA⟩;replace ba:KY w7 b4 [.bool false,.bool g6.isSome,I (g6.getD 0)] 232:=ba;have n46:=az.mono n4' l42;have fP:=az.m.kp aA n46
       have dr:k∉A6.li 0:=by
        show k∉A6.once;exact fun e=>kY ((eS.gone k).1 (.inl e)).1
       have o7:=eS.Tq;refine py (KQ rfl (An rfl (qV (L6 rfl) (qV (KT M9 rfl) (An rfl (La [.tmp 63,.tmp 64] Ol rfl (Ml fP (j:=0) (k:=k) (by decide) dr (by show A6.once.length<=_;omega)) ?_))))));rintro _ w9 ⟨rfl,V9,gz⟩;have aY:=gz;have bI:=aY.k.KN ba (fun e=>n46 _ e rfl);have eC:=bI
       have cg:∀b,NI c V9 p b->NI c V p b\/w2.heap.size<=b:=fun b hb=>by
        rcases aY.fp b hb with h5|h5
        ·exact az.fp b h5
        ·have:=az.k.size;have:=aA.size;exact .inr (by omega)
       have aL:Kp (fun j=>NI c V p j\/j=b4) w2 w9:=((az.k.L2 fun j e=> .inl e).trans (aA.L2 fun j e=> .inr e)).KK aY.k (fun j e=>by
        rcases az.fp j e with h5|h5
        ·exact .inr (.inl h5)
        ·exact .inl h5)
       refine py (KM (qN rfl (qV (Lj (news:=MQ false g6) NK rfl Lo rfl (KY.cells (n:=3) eC rfl) rfl) (L0 rfl (Lz (news:=MQ false g6) Lo rfl rfl rfl rfl eC (by simp)) ?_))));rintro we ⟨cU,da⟩;replace cU:KY we b4 [.bool false,.bool g6.isSome,I (g6.getD 0)] 232:=cU;refine KO rfl (py (Lh Tryz.func125 (.cell NK rfl Lo rfl (KY.cells (n:=3) cU (news:=[_,_,_]) rfl) rfl (.tmp rfl .nil)) ?_))
       have n49:∀b,NI c V9 p b->b≠b4:=fun b hb e=>by
        rcases cg b hb with h5|h5
        ·exact n4' b h5 e
        ·omega
       have eA:A.MI k=({A6 with once:=A6.once++[k]},false,g6):=by
        unfold Arc.MI;rw[if_neg bu,if_neg qq,if_neg hg];dsimp only;rw[cf]
       rw[eA]
       exact⟨_,rfl,rfl,V9,aY.m.kp da n49,fun b hb=>(cg b hb).imp id (fun e=>by omega),(aI.kp.KK aL (fun j e=>by
        rcases e with e| e
        ·exact .inr e
        ·exact .inl (by omega))).KK da (fun j e=> .inl (by omega))⟩
  ·rw [decide_eq_false bR]; refine An rfl (qS (qS (qV (Ls rfl rfl) (An rfl (qS (qS (qV (Ls rfl rfl) (py (KH rfl (It (run_seq (KL (qN rfl ?_))))))))))))); refine An rfl (qV (L6 rfl) (qV (KT Mn rfl) (An rfl (La [.tmp 69, .tmp 70] Sf rfl (lU) ?_)))); rintro _ w2 ⟨rfl, rfl⟩; by_cases hg : k ∈ A.L7
   ·rw[decide_eq_true hg];refine KO rfl (py (L3 rfl (run_seq ?_)));have qp:0<A.L7.length:=List.length_pos_of_mem hg;obtain⟨q,hq⟩:∃q,A.L4.length / A.L7.length=q:=⟨_,rfl⟩;have fE:q<=2000:=by rw[<-hq];exact Nat.le_trans (Nat.div_le_self _ _) lT
    have lV:(A.L4.length:Int) / (A.L7.length:Int)=(q:Int):=by rw[<-hq];exact(Int.natCast_ediv _ _).symm
    refine Le [27] (fun w'=>Ext w2 w') (by kernel_rfl) rfl (qL [25,26,27] 0 rfl (fun _ h=>KW rfl) aa (qL [2,3,4,24,25,26,27] 1 rfl (fun _ h=>KW rfl) aa (qL [3,4,24,25,26,27] 2 rfl (fun _ h=>L6 rfl) aa (qL [4,24,25,26,27] 3 rfl (fun _ h=>KT Nu rfl) aa (qL [24,25,26,27] 4 rfl (fun _ h=>KS U3 rfl rfl (h.KN eB) rfl) aa (qL [6,7,8,23,24,25,26,27] 5 rfl (fun _ h=>KW rfl) aa (qL [7,8,23,24,25,26,27] 6 rfl (fun _ h=>L6 rfl) aa (qL [8,23,24,25,26,27] 7 rfl (fun _ h=>KT MA rfl) aa (qL [23,24,25,26,27] 8 rfl (fun _ h=>KS U3 rfl rfl (h.KN eB) rfl) aa (qL [10,11,12,13,14,21,22,23,24,25,26,27] 9 rfl (fun _ h=>KW rfl) aa (qL [11,12,13,14,21,22,23,24,25,26,27] 10 rfl (fun _ h=>L6 rfl) aa (qL [12,13,14,21,22,23,24,25,26,27] 11 rfl (fun _ h=>KT MC rfl) aa (qL [13,14,21,22,23,24,25,26,27] 12 rfl (fun _ h=>KT LL rfl) aa ?_)))))))))))));refine qL [14,21,22,23,24,25,26,27] 13 rfl (fun _ h=>KS Mw rfl rfl (h.KN eB) rfl) aa (qL [21,22,23,24,25,26,27] 14 rfl (fun _ h=>LM Mw rfl) aa (qL [16,17,18,19,20,21,22,23,24,25,26,27] 15 rfl (fun _ h=>KW rfl) aa (qL [17,18,19,20,21,22,23,24,25,26,27] 16 rfl (fun _ h=>L6 rfl) aa (qL [18,19,20,21,22,23,24,25,26,27] 17 rfl (fun _ h=>KT Mn rfl) aa (qL [19,20,21,22,23,24,25,26,27] 18 rfl (fun _ h=>KT LL rfl) aa (qL [20,21,22,23,24,25,26,27] 19 rfl (fun _ h=>KS Mw rfl rfl (h.KN eB) rfl) aa (qL [21,22,23,24,25,26,27] 20 rfl (fun _ h=>LM Mw rfl) aa (qL [22,23,24,25,26,27] 21 rfl (fun _ h=>RE rfl rfl ⟨by omega,by omega,by omega⟩) aa ?_))))))));rw[lV];refine qL [23,24,25,26,27] 22 rfl (fun _ h=>yma rfl rfl) aa (qL [24,25,26,27] 23 rfl (fun _ h=>PM rfl rfl (by omega)) aa (qL [25,26,27] 24 rfl (fun _ h=>ymi rfl rfl) aa (qL [26,27] 25 rfl (fun _ h=>L6 rfl) aa (qL [27] 26 rfl (fun _ h=>KT MA rfl) aa (LD [27] (by kernel_rfl) (by kernel_rfl) (qO 27 (Lv (i:=27) rfl rfl (Mt LG rfl rfl rfl (aa.KN eB) (by simp)) ?_)))))));rintro w5 ⟨aF,aj⟩;refine⟨trivial,?_⟩;obtain⟨T,hT⟩:∃T:Int,min (A.size:Int) (A.target+max 1 (q:Int))=T:=⟨_,rfl⟩;have nl:0<=T/\T<=A.size:=by omega
    rw[hT] at aF
    replace aF:KY w5 c (acC A.size T V p) 167:=by
     show KY w5 c [I (A.size:Int),(V 0).1,(V 0).2,(V 1).1,(V 1).2,(V 2).1,(V 2).2,(V 3).1,(V 3).2,I T,.map (some p)] _;rw[e2,e3];exact aF
    have bU:=(h2.ext aa).U8 aF aj;have aS:=hA.U8 nl;obtain⟨A5,bA⟩:∃A5:Arc,{A with target:=T}=A5:=⟨_,rfl⟩;have nR:A5.size=A.size:=by rw[<-bA]
    have nn:¬A5.held k:=by rw[<-bA];exact kY
    have qm:k∈A5.L7:=by rw[<-bA];exact hg
    rw[bA] at bU aS;refine qE (Ll.qb (e:=[(0,_),(1,_),(4,_),(5,_)]) ?_);refine qN rfl (An rfl (La [.tmp 99,.const (Value.bool false)] Vk rfl (OB bU.m aS (by omega) false) ?_));rintro _ w6 ⟨rfl,V6,cn⟩;have av:=Arc.Om aS false;obtain⟨r6,cf⟩:∃r,A5.room false=r:=⟨_,rfl⟩;rw[cf] at cn av⊢;obtain⟨A6,g6⟩:=r6;dsimp only at cn av⊢;have dT:=av.perm.length_eq;have iQ:=A6.Mo;have nq:=A5.Mo;have nr:=aS.total;have az:=((h2.r aa).trans bU).trans cn;have bJ:=az.k.KN bq (fun e=>n4' _ e rfl);refine L0 rfl (Lz (news:=MQ false g6) Lo rfl rfl rfl rfl bJ (by simp)) ?_;rintro w7 ⟨ba,aA⟩;replace ba:KY w7 b4 [.bool false,.bool g6.isSome,I (g6.getD 0)] 232:=ba;have n46:=az.mono n4' l42;have fP:=az.m.kp aA n46;refine qM rfl (An rfl (qV (L6 rfl) (qV (KT Mn rfl) (An rfl (La [.tmp 103,.tmp 104] NP rfl (LS fP (j:=2) (k:=k) (by decide)) ?_)))));rintro _ w8 ⟨rfl,V8,fg⟩
    have dr:k∉(A6.Mg 2 ((A6.li 2).erase k)).li 1:=by
     show k∉A6.often;exact fun e=>nn ((av.gone k).1 (.inr e)).1
    refine py (KQ rfl (An rfl (qV (L6 rfl) (qV (KT MF rfl) (An rfl (La [.tmp 108,.tmp 109] Ol rfl (Ml fg.m (j:=1) (k:=k) (by decide) dr (by show A6.often.length<=_;omega)) ?_))))));rintro _ w9 ⟨rfl,V9,gz⟩;have aY:=fg.trans gz;have bI:=aY.k.KN ba (fun e=>n46 _ e rfl);have eC:=bI
    have cg:∀b,NI c V9 p b->NI c V p b\/w2.heap.size<=b:=fun b hb=>by
     rcases aY.fp b hb with h5|h5
     ·exact az.fp b h5
     ·have:=az.k.size;have:=aA.size;exact .inr (by omega)
    have aL:Kp (fun j=>NI c V p j\/j=b4) w2 w9:=((az.k.L2 fun j e=> .inl e).trans (aA.L2 fun j e=> .inr e)).KK aY.k (fun j e=>by
     rcases az.fp j e with h5|h5
     ·exact .inr (.inl h5)
     ·exact .inl h5)
    refine py (KM (qN rfl (qV (Lj (news:=MQ false g6) NK rfl Lo rfl (KY.cells (n:=3) eC rfl) rfl) (L0 rfl (Lz (news:=MQ false g6) Lo rfl rfl rfl rfl eC (by simp)) ?_))));rintro we ⟨cU,da⟩;replace cU:KY we b4 [.bool false,.bool g6.isSome,I (g6.getD 0)] 232:=cU;refine KO rfl (py (Lh Tryz.func125 (.cell NK rfl Lo rfl (KY.cells (n:=3) cU (news:=[_,_,_]) rfl) rfl (.tmp rfl .nil)) ?_))
    have n49:∀b,NI c V9 p b->b≠b4:=fun b hb e=>by
     rcases cg b hb with h5|h5
     ·exact n4' b h5 e
     ·omega
    have eA:A.MI k=({A6 with L7:=A6.L7.erase k,often:=A6.often++[k]},false,g6):=by
     unfold Arc.MI;rw[if_neg bu,if_pos hg];dsimp only;rw[hq,hT,bA,cf]
    rw[eA]
    exact⟨_,rfl,rfl,V9,aY.m.kp da n49,fun b hb=>(cg b hb).imp id (fun e=>by omega),(aI.kp.KK aL (fun j e=>by
     rcases e with e| e
     ·exact .inr e
     ·exact .inl (by omega))).KK da (fun j e=> .inl (by omega))⟩
   ·have qq:=hg;rw[decide_eq_false hg];refine KO rfl (py (KH rfl (qN rfl (An rfl (qV (L6 rfl) (qV (KT MC rfl) (An rfl (La [.tmp 114,.tmp 115] Sf rfl (pw) ?_))))))));rintro _ w2 ⟨rfl,rfl⟩;by_cases hg:k∈A.L4
    ·rw[decide_eq_true hg];refine KO rfl (py (Ll.qb (e:=[(0,_),(1,_),(4,_),(5,_),(111,_)]) ?_));refine L3 rfl (run_seq ?_);have qp:0<A.L4.length:=List.length_pos_of_mem hg;obtain⟨q,hq⟩:∃q,A.L7.length / A.L4.length=q:=⟨_,rfl⟩;have fE:q<=2000:=by rw[<-hq];exact Nat.le_trans (Nat.div_le_self _ _) ir
     have lV:(A.L7.length:Int) / (A.L4.length:Int)=(q:Int):=by rw[<-hq];exact(Int.natCast_ediv _ _).symm
     refine Le [23] (fun w'=>Ext w2 w') (by kernel_rfl) rfl (qL [21,22,23] 0 rfl (fun _ h=>KW rfl) aa (qL [2,3,4,19,20,21,22,23] 1 rfl (fun _ h=>KW rfl) aa (qL [3,4,19,20,21,22,23] 2 rfl (fun _ h=>L6 rfl) aa (qL [4,19,20,21,22,23] 3 rfl (fun _ h=>KT MA rfl) aa (qL [19,20,21,22,23] 4 rfl (fun _ h=>KS U3 rfl rfl (h.KN eB) rfl) aa (qL [6,7,8,9,10,17,18,19,20,21,22,23] 5 rfl (fun _ h=>KW rfl) aa (qL [7,8,9,10,17,18,19,20,21,22,23] 6 rfl (fun _ h=>L6 rfl) aa (qL [8,9,10,17,18,19,20,21,22,23] 7 rfl (fun _ h=>KT Mn rfl) aa (qL [9,10,17,18,19,20,21,22,23] 8 rfl (fun _ h=>KT LL rfl) aa (qL [10,17,18,19,20,21,22,23] 9 rfl (fun _ h=>KS Mw rfl rfl (h.KN eB) rfl) aa (qL [17,18,19,20,21,22,23] 10 rfl (fun _ h=>LM Mw rfl) aa (qL [12,13,14,15,16,17,18,19,20,21,22,23] 11 rfl (fun _ h=>KW rfl) aa (qL [13,14,15,16,17,18,19,20,21,22,23] 12 rfl (fun _ h=>L6 rfl) aa ?_)))))))))))));refine qL [14,15,16,17,18,19,20,21,22,23] 13 rfl (fun _ h=>KT MC rfl) aa (qL [15,16,17,18,19,20,21,22,23] 14 rfl (fun _ h=>KT LL rfl) aa (qL [16,17,18,19,20,21,22,23] 15 rfl (fun _ h=>KS Mw rfl rfl (h.KN eB) rfl) aa (qL [17,18,19,20,21,22,23] 16 rfl (fun _ h=>LM Mw rfl) aa (qL [18,19,20,21,22,23] 17 rfl (fun _ h=>RE rfl rfl ⟨by omega,by omega,by omega⟩) aa ?_))));rw[lV];refine qL [19,20,21,22,23] 18 rfl (fun _ h=>yma rfl rfl) aa (qL [20,21,22,23] 19 rfl (fun _ h=>Md rfl rfl (by omega)) aa (qL [21,22,23] 20 rfl (fun _ h=>yma rfl rfl) aa (qL [22,23] 21 rfl (fun _ h=>L6 rfl) aa (qL [23] 22 rfl (fun _ h=>KT MA rfl) aa (LD [23] (by kernel_rfl) (by kernel_rfl) (qO 23 (Lv (i:=23) rfl rfl (Mt LG rfl rfl rfl (aa.KN eB) (by simp)) ?_)))))));rintro w5 ⟨aF,aj⟩;refine⟨trivial,?_⟩;obtain⟨T,hT⟩:∃T:Int,max 0 (A.target-max 1 (q:Int))=T:=⟨_,rfl⟩;have nl:0<=T/\T<=A.size:=by omega
     rw[hT] at aF
     replace aF:KY w5 c (acC A.size T V p) 167:=by
      show KY w5 c [I (A.size:Int),(V 0).1,(V 0).2,(V 1).1,(V 1).2,(V 2).1,(V 2).2,(V 3).1,(V 3).2,I T,.map (some p)] _;rw[e2,e3];exact aF
     have bU:=(h2.ext aa).U8 aF aj;have aS:=hA.U8 nl;obtain⟨A5,bA⟩:∃A5:Arc,{A with target:=T}=A5:=⟨_,rfl⟩;have nR:A5.size=A.size:=by rw[<-bA]
     have nn:¬A5.held k:=by rw[<-bA];exact kY
     have qm:k∈A5.L4:=by rw[<-bA];exact hg
     rw[bA] at bU aS;refine qE (Ll.qb (e:=[(0,_),(1,_),(4,_),(5,_)]) ?_);refine qN rfl (An rfl (La [.tmp 140,.const (Value.bool true)] Vk rfl (OB bU.m aS (by omega) true) ?_));rintro _ w6 ⟨rfl,V6,cn⟩;have av:=Arc.Om aS true;obtain⟨r6,cf⟩:∃r,A5.room true=r:=⟨_,rfl⟩;rw[cf] at cn av⊢;obtain⟨A6,g6⟩:=r6;dsimp only at cn av⊢;have dT:=av.perm.length_eq;have iQ:=A6.Mo;have nq:=A5.Mo;have nr:=aS.total;have az:=((h2.r aa).trans bU).trans cn;have bJ:=az.k.KN bq (fun e=>n4' _ e rfl);refine L0 rfl (Lz (news:=MQ false g6) Lo rfl rfl rfl rfl bJ (by simp)) ?_;rintro w7 ⟨ba,aA⟩;replace ba:KY w7 b4 [.bool false,.bool g6.isSome,I (g6.getD 0)] 232:=ba;have n46:=az.mono n4' l42;have fP:=az.m.kp aA n46;refine qM rfl (An rfl (qV (L6 rfl) (qV (KT MC rfl) (An rfl (La [.tmp 144,.tmp 145] NP rfl (LS fP (j:=3) (k:=k) (by decide)) ?_)))));rintro _ w8 ⟨rfl,V8,fg⟩
     have dr:k∉(A6.Mg 3 ((A6.li 3).erase k)).li 1:=by
      show k∉A6.often;exact fun e=>nn ((av.gone k).1 (.inr e)).1
     refine py (KQ rfl (An rfl (qV (L6 rfl) (qV (KT MF rfl) (An rfl (La [.tmp 149,.tmp 150] Ol rfl (Ml fg.m (j:=1) (k:=k) (by decide) dr (by show A6.often.length<=_;omega)) ?_))))));rintro _ w9 ⟨rfl,V9,gz⟩;have aY:=fg.trans gz;have bI:=aY.k.KN ba (fun e=>n46 _ e rfl);have eC:=bI
     have cg:∀b,NI c V9 p b->NI c V p b\/w2.heap.size<=b:=fun b hb=>by
      rcases aY.fp b hb with h5|h5
      ·exact az.fp b h5
      ·have:=az.k.size;have:=aA.size;exact .inr (by omega)
     have aL:Kp (fun j=>NI c V p j\/j=b4) w2 w9:=((az.k.L2 fun j e=> .inl e).trans (aA.L2 fun j e=> .inr e)).KK aY.k (fun j e=>by
      rcases az.fp j e with h5|h5
      ·exact .inr (.inl h5)
      ·exact .inl h5)
     refine py (KM (qN rfl (qV (Lj (news:=MQ false g6) NK rfl Lo rfl (KY.cells (n:=3) eC rfl) rfl) (L0 rfl (Lz (news:=MQ false g6) Lo rfl rfl rfl rfl eC (by simp)) ?_))));rintro we ⟨cU,da⟩;replace cU:KY we b4 [.bool false,.bool g6.isSome,I (g6.getD 0)] 232:=cU;refine KO rfl (py (Lh Tryz.func125 (.cell NK rfl Lo rfl (KY.cells (n:=3) cU (news:=[_,_,_]) rfl) rfl (.tmp rfl .nil)) ?_))
     have n49:∀b,NI c V9 p b->b≠b4:=fun b hb e=>by
      rcases cg b hb with h5|h5
      ·exact n4' b h5 e
      ·omega
     have eA:A.MI k=({A6 with L4:=A6.L4.erase k,often:=A6.often++[k]},false,g6):=by
      unfold Arc.MI;rw[if_neg bu,if_neg qq,if_pos hg];dsimp only;rw[hq,hT,bA,cf]
     rw[eA]
     exact⟨_,rfl,rfl,V9,aY.m.kp da n49,fun b hb=>(cg b hb).imp id (fun e=>by omega),(aI.kp.KK aL (fun j e=>by
      rcases e with e| e
      ·exact .inr e
      ·exact .inl (by omega))).KK da (fun j e=> .inl (by omega))⟩
    ·rw[decide_eq_false hg];refine KO rfl (py (Ll.qb (e:=[(0,_),(1,_),(4,_),(5,_),(111,_)]) ?_));refine KH rfl (qN rfl (An rfl (La [.tmp 59] z5D rfl (Vo h2 hA co) ?_)));rintro _ w6 ⟨rfl,V6,cn⟩;have dq:=Arc.Y5 hA;obtain⟨r6,cf⟩:∃r,A.add=r:=⟨_,rfl⟩;rw[cf] at cn dq⊢;obtain⟨A6,g6⟩:=r6;dsimp only at cn dq⊢;obtain⟨eS,-,-⟩:=dq;have iQ:=A6.Mo;have az:=cn;have bJ:=az.k.KN bq (fun e=>n4' _ e rfl);refine L0 rfl (Lz (news:=MQ false g6) Lo rfl rfl rfl rfl bJ (by simp)) ?_;rintro w7 ⟨ba,aA⟩;replace ba:KY w7 b4 [.bool false,.bool g6.isSome,I (g6.getD 0)] 232:=ba;have n46:=az.mono n4' l42;have fP:=az.m.kp aA n46
     have dr:k∉A6.li 0:=by
      show k∉A6.once;exact fun e=>kY ((eS.gone k).1 (.inl e)).1
     have o7:=eS.Tq;refine py (KQ rfl (An rfl (qV (L6 rfl) (qV (KT M9 rfl) (An rfl (La [.tmp 63,.tmp 64] Ol rfl (Ml fP (j:=0) (k:=k) (by decide) dr (by show A6.once.length<=_;omega)) ?_))))));rintro _ w9 ⟨rfl,V9,gz⟩;have aY:=gz;have bI:=aY.k.KN ba (fun e=>n46 _ e rfl);have eC:=bI
     have cg:∀b,NI c V9 p b->NI c V p b\/w2.heap.size<=b:=fun b hb=>by
      rcases aY.fp b hb with h5|h5
      ·exact az.fp b h5
      ·have:=az.k.size;have:=aA.size;exact .inr (by omega)
     have aL:Kp (fun j=>NI c V p j\/j=b4) w2 w9:=((az.k.L2 fun j e=> .inl e).trans (aA.L2 fun j e=> .inr e)).KK aY.k (fun j e=>by
      rcases az.fp j e with h5|h5
      ·exact .inr (.inl h5)
      ·exact .inl h5)
     refine py (KM (qN rfl (qV (Lj (news:=MQ false g6) NK rfl Lo rfl (KY.cells (n:=3) eC rfl) rfl) (L0 rfl (Lz (news:=MQ false g6) Lo rfl rfl rfl rfl eC (by simp)) ?_))));rintro we ⟨cU,da⟩;replace cU:KY we b4 [.bool false,.bool g6.isSome,I (g6.getD 0)] 232:=cU;refine KO rfl (py (Lh Tryz.func125 (.cell NK rfl Lo rfl (KY.cells (n:=3) cU (news:=[_,_,_]) rfl) rfl (.tmp rfl .nil)) ?_))
     have n49:∀b,NI c V9 p b->b≠b4:=fun b hb e=>by
      rcases cg b hb with h5|h5
      ·exact n4' b h5 e
      ·omega
     have eA:A.MI k=({A6 with once:=A6.once++[k]},false,g6):=by
      unfold Arc.MI;rw[if_neg bu,if_neg qq,if_neg hg];dsimp only;rw[cf]
     rw[eA]
     exact⟨_,rfl,rfl,V9,aY.m.kp da n49,fun b hb=>(cg b hb).imp id (fun e=>by omega),(aI.kp.KK aL (fun j e=>by
      rcases e with e| e
      ·exact .inr e
      ·exact .inl (by omega))).KK da (fun j e=> .inl (by omega))⟩
end
def Arc.z1N (A:Arc)(k:Int):Nat->Arc
 |0=>A
 |i+1=>(A.z1N k i).Mg i (((A.z1N k i).li i).erase k)
def Arc.drop (A:Arc)(k:Int):Arc:=A.z1N k 4
theorem Arc.drop_eq (A:Arc)(k:Int):A.drop k={A with once:=A.once.erase k,often:=A.often.erase k,L7:=A.L7.erase k,L4:=A.L4.erase k}:=rfl
theorem Arc.Ok.drop {A:Arc}(h:A.Ok)(k:Int):(A.drop k).Ok:=by
 rw[Arc.drop_eq]
 have hs:(A.once.erase k++(A.often.erase k++(A.L7.erase k++A.L4.erase k))).Sublist A.all:=List.erase_sublist.append (List.erase_sublist.append (List.erase_sublist.append List.erase_sublist))
 have a1:(A.once.erase k).length<=A.once.length:=List.length_erase_le
 have a2:(A.often.erase k).length<=A.often.length:=List.length_erase_le
 have a3:(A.L7.erase k).length<=A.L7.length:=List.length_erase_le
 have h1:=h.held
 have h2:=h.first
 exact⟨h.pos,h.nd.sublist hs,by dsimp only;omega,by dsimp only;omega,Nat.le_trans hs.length_le h.total,h.tg⟩
theorem Arc.z3d {A:Arc}(h:A.Ok)(k x:Int):(A.drop k).held x↔A.held x/\x≠k:=by
 have fh:=h.nd
 unfold Arc.all at fh
 rw[List.nodup_append] at fh
 obtain⟨nd1,nd2,-⟩:=fh
 rw[List.nodup_append] at nd2
 obtain⟨nd4,-,-⟩:=nd2
 rw[Arc.drop_eq]
 unfold Arc.held
 dsimp only
 rw[nd1.mem_erase_iff,nd4.mem_erase_iff]
 constructor
 ·rintro(⟨a,b⟩|⟨a,b⟩)
  ·exact⟨.inl b,a⟩
  ·exact⟨.inr b,a⟩
 ·rintro⟨b|b,a⟩
  ·exact .inl ⟨a,b⟩
  ·exact .inr ⟨a,b⟩
section
variable {w w' w2:World}{c p:Nat}{A A' A2:Arc}{V V' V2:Nat->Value×Value}{S:Nat->Prop}{k:Int}
theorem z3s (h:NR w c A V p):Lk Tryz.prog 116 [ptr c 0,I k] w fun v w'=>(∃z,v=I z)/\∃V',R3 w c V p w' (A.drop k) V':=by
 have hB:=h.cells
 have lU:=Ql h (j:=2) (k:=k) (by decide)
 have pw:=Ql h (j:=3) (k:=k) (by decide)
 rw[show A.li 2=A.L7 from rfl] at lU
 rw[show A.li 3=A.L4 from rfl] at pw
 refine KJ (e:=[(0,_),(1,_)]) Tryz.func116 rfl Tryz.ntmps116 rfl rfl (qN rfl (KO rfl (py (run_seq (Lx (fun e' w'=>e'=[(0,ptr c 0),(1,I k)]/\w'=w) ?eR (fun eR=>?jQ))))))
 case eR=>
  rintro e' w1 ⟨rfl,rfl⟩;have hg:=Ext.Lb w1;refine run_seq (run_seq (KV (fun w'=>Ext w1 w') (by kernel_rfl) rfl (KR 0 rfl (KW rfl) hg (KR 1 rfl (L6 rfl) hg (KR 2 rfl (KT M9 rfl) hg (KR 3 rfl (KW rfl) hg (KR 4 rfl (L6 rfl) hg (KR 5 rfl (KT MF rfl) hg (KR 6 rfl (KW rfl) hg (KR 7 rfl (L6 rfl) hg (KR 8 rfl (KT Mn rfl) hg (KR 9 rfl (KW rfl) hg (KR 10 rfl (L6 rfl) hg ?_)))))))))))));refine KR 11 rfl (KT MC rfl) hg (KR 14 rfl (KW rfl) hg (qO 12 (Um (i:=12) rfl rfl rfl (Tx (parts:=[(0,.tmp 41),(1,.tmp 44),(2,.tmp 47),(3,.tmp 50)]) (cs:=[_,_,_,_]) (zs:=[Value.pointer none,Value.pointer none,Value.pointer none,Value.pointer none]) z9D z83 rfl (by kernel_rfl) rfl rfl rfl (by decide)) ?_)));rintro _ w2 ⟨b51,rfl,⟨CK,af,Is⟩,xq⟩;refine⟨hg.trans af,?_⟩;have aC:=hg.trans af;refine KR 13 rfl (LM z9D rfl) (hg.trans af) (qE (KL ?_));have aO:∀{b:Nat},NI c V p b->b<w1.heap.size:=h.lt;have lb:=xq.lt (g:=b51) rfl;have z12:=hg.size;have CL:=xq.rd;refine MV (α:=Nat×(Nat->Value×Value)) ((0,V)) (fun x=>[(1,I k),(51,.slice (some ⟨b51,0,none⟩) 4 4),(52,I 4),(53,I (x.1:Int))]) (fun x w'=>x.1<=4/\R3 w2 c V p w' (A.z1N k x.1) x.2/\Rd w' (.slice (some ⟨b51,0,none⟩) 4 4) 1 4 [ptr c 1,ptr c 3,ptr c 5,ptr c 7]) (fun x=>4-x.1) ?hI ?hround
  case hI=>exact⟨Nat.zero_le _,(h.ext aC).r (Ext.refl w2),CL⟩
  case hround=>
   rintro⟨i,Vi⟩ w3 ⟨hi,lq,CM⟩ ih;dsimp only at hi lq CM ih⊢
   try dsimp only
   refine qN rfl (qV (LX rfl rfl) (py (run_seq (KZ rfl (fun h0=>?_) (fun h0=>?_)))))
   ·have nW:i<4:=by omega
    have hx:([ptr c 1,ptr c 3,ptr c 5,ptr c 7]:List Value)[i]? =some (ptr c (1+2*i)):=by
     match i,nW with
     |0,_|1,_|2,_|3,_=>rfl
    refine It (run_seq (KL (qN rfl (qV (LC z9D z83 rfl rfl (by omega)) (qV (Lm ze0 rfl rfl (LV CM hx)) (KO rfl (py (KQ rfl (An rfl (An rfl (La [.tmp 57,.tmp 58] NP rfl (LS lq.m (j:=i) (k:=k) nW) ?_)))))))))));rintro _ w4 ⟨rfl,V4,bC⟩;refine py (KM (KQ rfl (LH rfl rfl (An rfl (py ((ih (i+1,V4) _ ⟨nW,lq.trans bC,CM.kp bC.k fun g e hf=>?_⟩ (by dsimp only;omega)).qb))))));have e':b51=g:=ML e;rcases lq.fp _ hf with e| e
    ·have:=aO e;have hb:b51=w1.drew.heap.size:=CK;omega
    ·omega
   ·have nW:i=4:=by omega
    subst nW;refine KX rfl (qN rfl (KO rfl (py (KP Tryz.func116 rfl ?_))));exact⟨_,rfl,⟨0,rfl⟩,Vi,(h.r aC).trans lq⟩
 case jQ =>
  refine KL (qN rfl (An rfl (qV (LQ U89 rfl rfl) (KO rfl (py (KH rfl (qN rfl (An rfl (An rfl (La [.tmp 11,.tmp 12] z81 rfl (Xh h (k:=k)) ?_))))))))));rintro _ w ⟨rfl,rfl⟩;by_cases g9:k∈A.once\/k∈A.often
  ·rw[decide_eq_true g9];refine qV ((by first|exact LN rfl|exact Na rfl)) ?_;refine An rfl (qS (qS (qS (qS (qS (qS (qV (Ls rfl rfl) (An rfl (qS (qS (qS (qS (qS ?_)))))))))))));refine qS (qV (Ls rfl rfl) (KO rfl (py (Ll.qb (e:=[(0,_),(1,_),(4,_),(10,_)]) ?_))));refine KH rfl (qN rfl (An rfl (qV (L6 rfl) (qV (KT Va rfl) (qV (KS S2 rfl rfl hB rfl) (An rfl (qV (ylk (k:=k) (K:=KI) S2 (Ng U3) LG rfl rfl h.pins) (qV (LU rfl rfl) (Ly (KO rfl (py (KH rfl (It ?_)))))))))))));refine KM ?_;exact(eR _ _ ⟨rfl,rfl⟩).qb
  ·rw [decide_eq_false g9]; refine qV ((by first | exact LN rfl | exact Na rfl)) ?_; refine An rfl (An rfl (qV (L6 rfl) (qV (KT Mn rfl) (An rfl (La [.tmp 18, .tmp 19] Sf rfl (lU) ?_))))); rintro _ w ⟨rfl, rfl⟩; by_cases am : k ∈ A.L7
   ·rw[decide_eq_true am];refine qV ((by first|exact LN rfl|exact Na rfl)) ?_;refine qV (LR rfl rfl) (An rfl (qS (qS (qS (qS (qS (qS (qV (Ls rfl rfl) (KO rfl (py (Ll.qb (e:=[(0,_),(1,_),(4,_),(10,_)]) ?_)))))))))));refine KH rfl (qN rfl (An rfl (qV (L6 rfl) (qV (KT Va rfl) (qV (KS S2 rfl rfl hB rfl) (An rfl (qV (ylk (k:=k) (K:=KI) S2 (Ng U3) LG rfl rfl h.pins) (qV (LU rfl rfl) (Ly (KO rfl (py (KH rfl (It ?_)))))))))))));refine KM ?_;exact(eR _ _ ⟨rfl,rfl⟩).qb
   ·rw[decide_eq_false am];refine qV ((by first|exact LN rfl|exact Na rfl)) ?_;refine qV (LR rfl rfl) (An rfl (An rfl (qV (L6 rfl) (qV (KT MC rfl) (An rfl (La [.tmp 26,.tmp 27] Sf rfl (pw) ?_))))));rintro _ w ⟨rfl,rfl⟩;by_cases au:k∈A.L4
    ·rw[decide_eq_true au];refine qV ((by first|exact LN rfl|exact Na rfl)) ?_;refine qV (LR rfl rfl) (KO rfl (py (Ll.qb (e:=[(0,_),(1,_),(4,_),(10,_)]) ?_)));refine KH rfl (qN rfl (An rfl (qV (L6 rfl) (qV (KT Va rfl) (qV (KS S2 rfl rfl hB rfl) (An rfl (qV (ylk (k:=k) (K:=KI) S2 (Ng U3) LG rfl rfl h.pins) (qV (LU rfl rfl) (Ly (KO rfl (py (KH rfl (It ?_)))))))))))));refine KM ?_;exact(eR _ _ ⟨rfl,rfl⟩).qb
    ·rw[decide_eq_false au];refine qV ((by first|exact LN rfl|exact Na rfl)) ?_;refine qV (LR rfl rfl) (KO rfl (py (Ll.qb (e:=[(0,_),(1,_),(4,_),(10,_)]) ?_)));refine L3 rfl (qN rfl (KO rfl (py (KP Tryz.func116 rfl ?_))))
     have hd:A.drop k=A:=by
      rw[Arc.drop_eq,List.erase_of_not_mem (fun e=>g9 (.inl e)),List.erase_of_not_mem (fun e=>g9 (.inr e)),List.erase_of_not_mem am,List.erase_of_not_mem au]
     rw[hd];exact⟨_,rfl,⟨6,rfl⟩,V,h.r (Ext.refl w)⟩
end
structure Pg where
 k:Int
 b:Nat
 t:Bytes
 d:Bool
def PO (l:List Pg):List (Int×Value):=l.map fun g=>(g.k,ptr g.b 0)
def pgC (t:Bytes)(d:Bool):List Value:=[S t,.bool d,I 0]
structure N1 where
 s:Nat
 d:Nat
 m:Nat
 gi:Nat
 c:Nat
 pm:Nat
 p:Nat
 fr:Nat
 V:Nat->Value×Value
 D:Dev
 A:Arc
 l:List Pg
 L:List Bool
 Fd:Nat->Prop
 h:Int
 mi:Int
 wr:Int
def N1.cp (P:N1):Nat->Nat->Prop
 |0,b=>b=P.s
 |1,b=>P.Fd b
 |2,b=>b=P.m\/b=P.gi
 |3,b=>NI P.c P.V P.p b
 |4,b=>b=P.pm
 |5,b=>∃g∈P.l,g.b=b
 |_,_=>False
def N1.fp (P:N1)(b:Nat):Prop:=∃i,P.cp i b
def plC (P:N1):List Value:=[ptr P.d 0,ptr P.m 0,ptr P.c 0,.map (some P.pm),I (P.fr:Int),I P.h,I P.mi,I P.wr,I 0,I 0,I 0,.bool false]
def Dis (f:Nat->Nat->Prop):Prop:=∀i j,i≠j->∀b,f i b->¬f j b
structure Pl (w:World)(P:N1):Prop where
 KN:KY w P.s (plC P) 92
 dev:R0 w P.d P.D P.Fd
 ext:Sj w P.m P.gi P.L
 arc:NR w P.c P.A P.V P.p
 mp:NJ KI w P.pm (PO P.l)
 pg:∀g∈P.l,KY w g.b (pgC g.t g.d) 191
 pnd:(P.l.map (·.b)).Nodup
 QU:Dis P.cp
section
variable {w w' w0:World}{P P0 P':N1}{S:Nat->Prop}{i0:Nat}
theorem Pl.lt (h:Pl w P){b:Nat}(hb:P.fp b):b<w.heap.size:=by
 obtain⟨i,hi⟩:=hb
 match i,hi with
 |0,e=>rw[show b=P.s from e];exact h.KN.lt
 |1,e=>exact h.dev.lt b e
 | 2, e =>
   rcases e with e| e
   ·rw[e];exact h.ext.ltm
   ·rw[e];exact h.ext.ltg
 |3,e=>exact h.arc.lt e
 |4,e=>rw[show b=P.pm from e];exact h.mp.lt
 |5,⟨g,hg,e⟩=>rw[<-e];exact(h.pg g hg).lt
theorem Pl.kp (h:Pl w P)(hk:Kp S w w')(hn:∀b,P.fp b->¬S b):Pl w' P:=
 ⟨hk.KN h.KN (hn _ ⟨0,rfl⟩),h.dev.kp hk fun b hb=>hn b ⟨1,hb⟩,h.ext.kp hk (hn _ ⟨2,.inl rfl⟩) (hn _ ⟨2,.inr rfl⟩),h.arc.kp hk fun b hb=>hn b ⟨3,hb⟩,h.mp.kp hk (hn _ ⟨4,rfl⟩),fun g hg=>hk.KN (h.pg g hg) (hn _ ⟨5,g,hg,rfl⟩),h.pnd,h.QU⟩
theorem Pl.ext' (h:Pl w P)(hx:Ext w w'):Pl w' P:=h.kp (S:=fun _=>False) hx fun _ _=>id
theorem Pl.z35 (h:Pl w P)(hk:Kp (P.cp i0) w w')(ne:0≠i0):KY w' P.s (plC P) 92:=hk.KN h.KN (h.QU 0 i0 ne _ rfl)
theorem Pl.z36 (h:Pl w P)(hk:Kp (P.cp i0) w w')(ne:1≠i0):R0 w' P.d P.D P.Fd:=h.dev.kp hk fun b hb=>h.QU 1 i0 ne b hb
theorem Pl.text (h:Pl w P)(hk:Kp (P.cp i0) w w')(ne:2≠i0):Sj w' P.m P.gi P.L:=h.ext.kp hk (h.QU 2 i0 ne _ (.inl rfl)) (h.QU 2 i0 ne _ (.inr rfl))
theorem Pl.z2O (h:Pl w P)(hk:Kp (P.cp i0) w w')(ne:3≠i0):NR w' P.c P.A P.V P.p:=h.arc.kp hk fun b hb=>h.QU 3 i0 ne b hb
theorem Pl.tmp (h:Pl w P)(hk:Kp (P.cp i0) w w')(ne:4≠i0):NJ KI w' P.pm (PO P.l):=h.mp.kp hk (h.QU 4 i0 ne _ rfl)
theorem Pl.tpg (h:Pl w P)(hk:Kp (P.cp i0) w w')(ne:5≠i0):∀g∈P.l,KY w' g.b (pgC g.t g.d) 191:=fun g hg=>hk.KN (h.pg g hg) (h.QU 5 i0 ne _ ⟨g,hg,rfl⟩)
theorem Pl.z5y (h:Pl w P)(hs:∀i,i≠i0->P'.cp i=P.cp i)(hi:∀b,P'.cp i0 b->P.cp i0 b\/∀i,¬P.cp i b):Dis P'.cp:=fun i j ne b hb bT=>by
 by_cases e:i=i0
 ·have e2:j≠i0:=fun e2=>ne (e.trans e2.symm);rw[e] at hb;rw[hs j e2] at bT;rcases hi b hb with h1|h1
  ·exact h.QU i0 j (fun e3=>e2 e3.symm) b h1 bT
  ·exact h1 j bT
 ·rw[hs i e] at hb;by_cases e2:j=i0
  ·rw[e2] at bT;rcases hi b bT with h1|h1
   ·exact h.QU i i0 e b hb h1
   ·exact h1 i hb
  ·rw[hs j e2] at bT;exact h.QU i j ne b hb bT
theorem Pl.new (h:Pl w P){b:Nat}(hb:w.heap.size<=b):∀i,¬P.cp i b:=fun i e=>by have:=h.lt ⟨i,e⟩;omega
structure Ph (w0:World)(P0:N1)(w:World)(P:N1):Prop where
 m:Pl w P
 fp:∀b,P.fp b->P0.fp b\/w0.heap.size<=b
 k:Kp P0.fp w0 w
theorem Pl.r (h:Pl w P)(hx:Ext w w'):Ph w P w' P:=⟨h.ext' hx,fun b hb=> .inl hb,hx.kp⟩
theorem Ph.ext (h:Ph w0 P0 w P)(hx:Ext w w'):Ph w0 P0 w' P:=⟨h.m.ext' hx,h.fp,h.k.trans hx.kp⟩
theorem Ph.loc (h:Ph w0 P0 w P)(hk:Kp S w w')(hS:∀b,S b->(P0.fp b\/w0.heap.size<=b)/\∀i,¬P.cp i b):Ph w0 P0 w' P:=
 ⟨h.m.kp hk fun b ⟨i,hb⟩ e=>(hS b e).2 i hb,h.fp,h.k.KK hk fun b e=>(hS b e).1.symm⟩
theorem Ph.part (h:Ph w0 P0 w P)(i0:Nat)(hm:Pl w' P')(hs:∀i,i≠i0->P'.cp i=P.cp i)(hi:∀b,P'.cp i0 b->P.cp i0 b\/w0.heap.size<=b)(hk:Kp (P.cp i0) w w'):Ph w0 P0 w' P':=
 ⟨hm,fun b ⟨i,hb⟩=>by
  by_cases e:i=i0
  ·rw[e] at hb;rcases hi b hb with h1|h1
   ·exact h.fp b ⟨i0,h1⟩
   ·exact .inr h1
  ·rw[hs i e] at hb
   exact h.fp b ⟨i,hb⟩,h.k.KK hk fun b hb=>(h.fp b ⟨i0,hb⟩).symm⟩
theorem Ph.trans {w2:World}{P2:N1}(h:Ph w0 P0 w P)(h2:Ph w P w2 P2):Ph w0 P0 w2 P2:=
 ⟨h2.m,fun b hb=>by
  rcases h2.fp b hb with e| e
  ·exact h.fp b e
  ·exact .inr (by have:=h.k.size;omega),h.k.KK h2.k fun b hb=>(h.fp b hb).symm⟩
theorem Ph.dev (h:Ph w0 P0 w P){D':Dev}(ht:z4g w P.d P.Fd D' w'):∃Fd',Ph w0 P0 w' {P with D:=D',Fd:=Fd'}/\∀b,Fd' b->P.Fd b\/w.heap.size<=b:=by
 obtain⟨F',hd,hu⟩:=ht
 have hs:∀i,i≠1->N1.cp {P with D:=D',Fd:=F'} i=P.cp i:=fun i e=>by
  match i,e with
  |0,_|2,_|3,_|4,_|5,_=>rfl
  |i+6,_=>rfl
 have hk:Kp (P.cp 1) w w':=hu.1
 refine⟨F',h.part 1 ⟨h.m.z35 hk (by decide),hd,h.m.text hk (by decide),h.m.z2O hk (by decide),h.m.tmp hk (by decide),h.m.tpg hk (by decide),h.m.pnd,h.m.z5y hs fun b hb=>?_⟩ hs (fun b hb=>?_) hk,hu.2⟩
 ·exact(hu.2 b hb).imp id fun e=>h.m.new e
 ·exact(hu.2 b hb).imp id fun e=>by have:=h.k.size;omega
theorem Ph.arc (h:Ph w0 P0 w P){A':Arc}{V':Nat->Value×Value}(hr:R3 w P.c P.V P.p w' A' V'):Ph w0 P0 w' {P with A:=A',V:=V'}:=by
 have hs:∀i,i≠3->N1.cp {P with A:=A',V:=V'} i=P.cp i:=fun i e=>by
  match i,e with
  |0,_|1,_|2,_|4,_|5,_=>rfl
  |i+6,_=>rfl
 have hk:Kp (P.cp 3) w w':=hr.k
 refine h.part 3 ⟨h.m.z35 hk (by decide),h.m.z36 hk (by decide),h.m.text hk (by decide),hr.m,h.m.tmp hk (by decide),h.m.tpg hk (by decide),h.m.pnd,h.m.z5y hs fun b hb=>?_⟩ hs (fun b hb=>?_) hk
 ·exact(hr.fp b hb).imp id fun e=>h.m.new e
 ·exact(hr.fp b hb).imp id fun e=>by have:=h.k.size;omega
theorem Ph.exM (h:Ph w0 P0 w P){L':List Bool}(he:Sj w' P.m P.gi L')(hk:Kp (fun b=>b=P.gi) w w'):Ph w0 P0 w' {P with L:=L'}:=by
 have hs:∀i,i≠2->N1.cp {P with L:=L'} i=P.cp i:=fun i e=>by
  match i,e with
  |0,_|1,_|3,_|4,_|5,_=>rfl
  |i+6,_=>rfl
 have hk:Kp (P.cp 2) w w':=hk.L2 fun b e=> .inr e
 exact h.part 2 ⟨h.m.z35 hk (by decide),h.m.z36 hk (by decide),he,h.m.z2O hk (by decide),h.m.tmp hk (by decide),h.m.tpg hk (by decide),h.m.pnd,h.m.z5y hs fun b hb=> .inl hb⟩ hs (fun b hb=> .inl hb) hk
theorem Ph.cnt (h:Ph w0 P0 w P){a b c:Int}(hB:KY w' P.s (plC {P with h:=a,mi:=b,wr:=c}) 92)(hk:Kp (fun b=>b=P.s) w w'):Ph w0 P0 w' {P with h:=a,mi:=b,wr:=c}:=by
 have hs:∀i,i≠0->N1.cp {P with h:=a,mi:=b,wr:=c} i=P.cp i:=fun i e=>by
  match i,e with
  |1,_|2,_|3,_|4,_|5,_=>rfl
  |i+6,_=>rfl
 have hk:Kp (P.cp 0) w w':=hk
 exact h.part 0 ⟨hB,h.m.z36 hk (by decide),h.m.text hk (by decide),h.m.z2O hk (by decide),h.m.tmp hk (by decide),h.m.tpg hk (by decide),h.m.pnd,h.m.z5y hs fun b hb=> .inl hb⟩ hs (fun b hb=> .inl hb) hk
theorem Ph.del (h:Ph w0 P0 w P){l':List Pg}(hl:l'.Sublist P.l)(hm:NJ KI w' P.pm (PO l'))(hk:Kp (fun b=>b=P.pm) w w'):Ph w0 P0 w' {P with l:=l'}:=by
 have hk:Kp (P.cp 4) w w':=hk
 have dg:∀i b,N1.cp {P with l:=l'} i b->P.cp i b:=fun i b hb=>by
  match i,hb with
  |0,e|1,e|2,e|3,e|4,e=>exact e
  |5,⟨g,hg,e⟩=>exact⟨g,hl.subset hg,e⟩
 have hp:=h.m.tpg hk (by decide)
 exact⟨⟨h.m.z35 hk (by decide),h.m.z36 hk (by decide),h.m.text hk (by decide),h.m.z2O hk (by decide),hm,fun g hg=>hp g (hl.subset hg),(hl.map _).nodup h.m.pnd,fun i j ne b hb bT=>h.m.QU i j ne b (dg i b hb) (dg j b bT)⟩,fun b ⟨i,hb⟩=>h.fp b ⟨i,dg i b hb⟩,h.k.KK hk fun b hb=>(h.fp b ⟨4,hb⟩).symm⟩
theorem Ph.ins (h:Ph w0 P0 w P){g:Pg}(hg:w0.heap.size<=g.b/\∀i,¬P.cp i g.b)(hb:KY w g.b (pgC g.t g.d) 191)(hm:NJ KI w' P.pm (PO (P.l++[g])))(hk:Kp (fun b=>b=P.pm) w w'):Ph w0 P0 w' {P with l:=P.l++[g]}:=by
 have hk:Kp (P.cp 4) w w':=hk
 have hp:=h.m.tpg hk (by decide)
 have fN:∀i b,N1.cp {P with l:=P.l++[g]} i b->P.cp i b\/(i=5/\b=g.b):=fun i b hb=>by
  match i,hb with
  |0,e|1,e|2,e|3,e|4,e=>exact .inl e
  | 5, ⟨g', cD, e⟩ =>
    rcases List.mem_append.1 cD with e2|e2
    ·exact .inl ⟨g',e2,e⟩
    ·rw[List.mem_singleton.1 e2] at e;exact .inr ⟨rfl,e.symm⟩
 refine⟨⟨h.m.z35 hk (by decide),h.m.z36 hk (by decide),h.m.text hk (by decide),h.m.z2O hk (by decide),hm,fun g' cD=>?_,?_,fun i j ne b hb bT=>?_⟩,fun b ⟨i,hb⟩=>?_,h.k.KK hk fun b hb=>(h.fp b ⟨4,hb⟩).symm⟩
 ·rcases List.mem_append.1 cD with e| e
  ·exact hp g' e
  ·rw[List.mem_singleton.1 e];exact hk.KN hb (hg.2 4)
 ·show((P.l++[g]).map (·.b)).Nodup;rw[List.map_append,List.nodup_append];refine⟨h.m.pnd,by simp,fun a ha b hb e=>?_⟩;obtain⟨g',cD,rfl⟩:=List.mem_map.1 ha;rw[List.map_singleton,List.mem_singleton] at hb;exact hg.2 5 ⟨g',cD,e.trans hb⟩
 ·rcases fN i b hb with e|⟨e,e2⟩
  ·rcases fN j b bT with f|⟨f,f2⟩
   ·exact h.m.QU i j ne b e f
   ·rw[f2] at e;exact hg.2 i e
  ·rcases fN j b bT with f|⟨f,f2⟩
   ·rw[e2] at f;exact hg.2 j f
   ·exact ne (e.trans f.symm)
 ·rcases fN i b hb with e|⟨e,e2⟩
  ·exact h.fp b ⟨i,e⟩
  ·rw[e2];exact .inr hg.1
theorem NO {α β:Type}{f:α->β}:∀{l:List α},(l.map f).Nodup->∀{a b:α},a∈l->b∈l->f a=f b->a=b
 |[],_,a,b,ha,_,_=>by cases ha
 | x :: l, hn, a, b, ha, hb, e => by
   rw[List.map_cons,List.nodup_cons] at hn;rcases List.mem_cons.1 ha with h1|h1
   ·rcases List.mem_cons.1 hb with h2|h2
    ·rw[h1,h2]
    ·exact absurd (List.mem_map.2 ⟨b,h2,by rw[<-e,h1]⟩) hn.1
   ·rcases List.mem_cons.1 hb with h2|h2
    ·exact absurd (List.mem_map.2 ⟨a,h1,by rw[e,h2]⟩) hn.1
    ·exact NO hn.2 h1 h2 e
def MU (l:List Pg)(k:Int)(t:Bytes)(d:Bool):List Pg:=l.map fun g=>if g.k=k then {g with t:=t,d:=d} else g
theorem z5J (l:List Pg)(k:Int)(t:Bytes)(d:Bool):PO (MU l k t d)=PO l:=by
 unfold PO MU
 rw[List.map_map]
 refine List.map_congr_left fun g _=>?_
 by_cases h:g.k=k
 ·simp only[Function.comp_apply,if_pos h]
 ·simp only[Function.comp_apply,if_neg h]
theorem XE (l:List Pg)(k:Int)(t:Bytes)(d:Bool):(MU l k t d).map (·.b)=l.map (·.b):=by
 unfold MU
 rw[List.map_map]
 refine List.map_congr_left fun g _=>?_
 show Pg.b (if _ then _ else _)=_
 split<;>rfl
theorem Ph.zci (h:Ph w0 P0 w P){g:Pg}(hg:g∈P.l){t:Bytes}{d:Bool}(hb:KY w' g.b (pgC t d) 191)(hk:Kp (fun b=>b=g.b) w w'):Ph w0 P0 w' {P with l:=MU P.l g.k t d}:=by
 have fh:=h.m.mp.nd
 have ko:∀b,(∃g'∈MU P.l g.k t d,g'.b=b)↔∃g'∈P.l,g'.b=b:=fun b=>by
  have e:=XE P.l g.k t d;constructor
  ·rintro⟨g',cD,rfl⟩;have:g'.b∈P.l.map (·.b):=by rw[<-e];exact List.mem_map.2 ⟨g',cD,rfl⟩
   obtain⟨g2,a,b⟩:=List.mem_map.1 this;exact⟨g2,a,b⟩
  ·rintro⟨g',cD,rfl⟩;have:g'.b∈(MU P.l g.k t d).map (·.b):=by rw[e];exact List.mem_map.2 ⟨g',cD,rfl⟩
   obtain⟨g2,a,b⟩:=List.mem_map.1 this;exact⟨g2,a,b⟩
 have hs:∀i,i≠5->N1.cp {P with l:=MU P.l g.k t d} i=P.cp i:=fun i e=>by
  match i,e with
  |0,_|1,_|2,_|3,_|4,_=>rfl
  |i+6,_=>rfl
 have aj:Kp (P.cp 5) w w':=hk.L2 fun b e=>⟨g,hg,e.symm⟩
 have hi:∀b,N1.cp {P with l:=MU P.l g.k t d} 5 b->P.cp 5 b:=fun b hb=>(ko b).1 hb
 refine h.part 5 ⟨h.m.z35 aj (by decide),h.m.z36 aj (by decide),h.m.text aj (by decide),h.m.z2O aj (by decide),?_,fun g' cD=>?_,?_,h.m.z5y hs fun b hb=> .inl (hi b hb)⟩ hs (fun b hb=> .inl (hi b hb)) aj
 ·show NJ KI w' P.pm (PO (MU P.l g.k t d));rw[z5J];exact h.m.tmp aj (by decide)
 ·obtain⟨g2,aa,rfl⟩:=List.mem_map.1 cD;by_cases e:g2.k=g.k
  ·rw[if_pos e]
   have e2:g2=g:=by
    unfold PO at fh;rw[List.map_map] at fh;have CN:(P.l.map (·.k)).Nodup:=fh;exact NO CN aa hg e
   rw[e2];exact hb
  ·rw[if_neg e];have bG:g2.b≠g.b:=fun e2=>e (by rw[NO h.m.pnd aa hg e2]);exact hk.KN (h.m.pg g2 aa) bG
 ·show((MU P.l g.k t d).map (·.b)).Nodup;rw[XE];exact h.m.pnd
end
def N8 (l:List Pg):Nat:=l.countP (·.d)
structure QQ (P:N1)(txt:Int->Bytes)(K:Nat):Prop where
 aok:P.A.Ok
 asz:P.A.size<=1000
 keys:∀x,x∈P.l.map (·.k)↔P.A.held x
 nd:(P.l.map (·.k)).Nodup
 rng:∀g∈P.l,0<=g.k/\g.k<(P.L.length:Int)
 tx:∀g∈P.l,g.t=txt g.k
 cl:∀g∈P.l,g.d=false->P.D.now g.k=txt g.k
 out:∀x,0<=x->x<(P.L.length:Int)->¬P.A.held x->P.D.now x=txt x
 len:∀x,0<=x->x<(P.L.length:Int)->(txt x).length=512
 down:P.D.down=false
 due:P.D.due=0
 B:P.D.B=P.L.length
 N:P.D.N=1
 ca:P.D.calls+(N8 P.l:Int)<=(K:Int)
 cc:P.D.cache.length+N8 P.l<=K
 Nz:P.D.Nz.length<=17592186044416
def TJ (txt:Int->Bytes)(no:Int)(wt:Option Bytes):Int->Bytes:=fun x=>if x=no then wt.getD (txt x) else txt x
theorem TH (txt:Int->Bytes)(no:Int):TJ txt no none=txt:=by
 funext x
 unfold TJ
 split<;>rfl
theorem Nd (txt:Int->Bytes)(no:Int)(wt:Option Bytes):TJ txt no wt no=wt.getD (txt no):=if_pos rfl
theorem MJ (txt:Int->Bytes){no x:Int}(wt:Option Bytes)(h:x≠no):TJ txt no wt x=txt x:=if_neg h
def wN (wt:Option Bytes):Nat:=if wt.isSome then 1 else 0
theorem YX (D:Dev)(n x:Int)(s:Bytes):((D.push n s).count).now x=if n=x then s else D.now x:=by
 unfold Dev.now Dev.count Dev.push
 dsimp only
 rw[z0R]
 split<;>rfl
theorem WO (D:Dev)(z:Int)(x:Int):({D with reads:=z}:Dev).now x=D.now x:=rfl
section
variable {P:N1}{txt:Int->Bytes}{K:Nat}{no:Int}{wt:Option Bytes}
theorem Uc (no:Int)(t:Bytes):∀{l:List Pg},(l.map (·.k)).Nodup->N8 (MU l no t true)<=N8 l+1
 |[],_=>Nat.zero_le _
 | g :: l, hn => by
   rw[List.map_cons,List.nodup_cons] at hn;by_cases h:g.k=no
   ·have e:MU l no t true=l:=by
     unfold MU
     conv=>rhs;rw[<-List.map_id l]
     refine List.map_congr_left fun g' cD=>?_;rw[if_neg fun e=>hn.1 (List.mem_map.2 ⟨g',cD,by rw[e,h]⟩)];rfl
    have e2:MU (g::l) no t true={g with t:=t,d:=true}::l:=by
     show(if g.k=no then _ else g)::MU l no t true=_;rw[if_pos h,e]
    rw[e2];unfold N8;rw[List.countP_cons,List.countP_cons];split<;>split<;>omega
   ·have ih:=Uc no t hn.2
    have e2:MU (g::l) no t true=g::MU l no t true:=by
     show(if g.k=no then _ else g)::MU l no t true=_;rw[if_neg h]
    rw[e2];unfold N8 at*;rw[List.countP_cons,List.countP_cons];omega
theorem W2 {l:List Pg}(hn:(l.map (·.k)).Nodup){g:Pg}(hg:g∈l):MU l g.k g.t g.d=l:=by
 unfold MU
 conv=>rhs;rw[<-List.map_id l]
 refine List.map_congr_left fun g' cD=>?_
 by_cases h:g'.k=g.k
 ·rw[if_pos h,NO hn cD hg h];rfl
 ·rw[if_neg h];rfl
theorem z2g (l:List Pg)(k:Int)(t:Bytes)(d:Bool):(MU l k t d).map (·.k)=l.map (·.k):=by
 unfold MU
 rw[List.map_map]
 refine List.map_congr_left fun g _=>?_
 by_cases h:g.k=k
 ·simp only[Function.comp_apply,if_pos h]
 ·simp only[Function.comp_apply,if_neg h]
theorem Ua {l:List Pg}{k:Int}{t:Bytes}{d:Bool}{g:Pg}(h:g∈MU l k t d):(g∈l/\g.k≠k)\/(g.k=k/\g.t=t/\g.d=d/\∃g'∈l,g'.k=k):=by
 obtain⟨g',cD,rfl⟩:=List.mem_map.1 h
 by_cases e:g'.k=k
 ·rw[if_pos e];exact .inr ⟨e,rfl,rfl,g',cD,e⟩
 ·rw[if_neg e];exact .inl ⟨cD,e⟩
theorem QQ.WG (h:QQ P txt K){g:Pg}(hg:g∈P.l)(oc:∀t,wt=some t->t.length=512){P':N1}(hA:P'.A=(P.A.MI g.k).1)(hl:P'.l=MU P.l g.k (wt.getD g.t) (wt.isSome ||g.d))(hL:P'.L=P.L)(hD:P'.D=P.D):QQ P' (TJ txt g.k wt) (K+wN wt):=by
 have ht:=Arc.VZ h.aok g.k
 have bu:P.A.held g.k:=(h.keys _).1 (List.mem_map.2 ⟨g,hg,rfl⟩)
 have fO:=ht.no (ht.WG.2 bu)
 have tU:∀x,P'.A.held x↔P.A.held x:=fun x=>by
  rw[hA,ht.held,fO];constructor
  ·rintro(e|e)
   ·rw[e];exact bu
   ·exact e.1
  ·intro e;exact .inr ⟨e,by simp⟩
 have hr:=h.rng g hg
 have tV:N8 P'.l<=N8 P.l+wN wt:=by
  rw[hl]
  cases wt with
  |none=>rw[show(none:Option Bytes).getD g.t=g.t from rfl,show((none:Option Bytes).isSome ||g.d)=g.d from rfl,W2 h.nd hg];exact Nat.le_add_right _ _
  |some t=>exact Uc _ _ h.nd
 have Fp:=h.ca
 have CO:=h.cc
 refine⟨by rw[hA];exact ht.ok,by rw[hA,ht.size];exact h.asz,fun x=>by rw[hl,z2g,h.keys,tU],by rw[hl,z2g];exact h.nd,fun g' cD=>?_,fun g' cD=>?_,fun g' cD hd=>?_,fun x h0 h1 hx=>?_,fun x h0 h1=>?_,by rw[hD];exact h.down,by rw[hD];exact h.due,by rw[hD,hL];exact h.B,by rw[hD];exact h.N,by rw[hD];omega,by rw[hD];omega,by rw[hD];exact h.Nz⟩
 ·rw[hL];rw[hl] at cD;rcases Ua cD with e| e
  ·exact h.rng g' e.1
  ·rw[e.1];exact hr
 ·rw[hl] at cD;rcases Ua cD with e| e
  ·rw[MJ _ _ e.2];exact h.tx g' e.1
  ·rw[e.1,Nd,e.2.1,h.tx g hg]
 ·rw[hD];rw[hl] at cD;rcases Ua cD with e| e
  ·rw[MJ _ _ e.2];exact h.cl g' e.1 hd
  ·rw[e.2.2.1] at hd
   have hw:wt=none:=by
    cases wt with
    |none=>rfl
    |some t=>cases hd
   rw[e.1,hw,TH];rw[hw] at hd;exact h.cl g hg hd
 ·rw[hL] at h1;rw[tU] at hx;have bG:x≠g.k:=fun e=>hx (e▸bu);rw[hD,MJ _ _ bG];exact h.out x h0 h1 hx
 ·rw[hL] at h1;by_cases e:x=g.k
  ·rw[e,Nd]
   cases hw:wt with
   |none=>exact h.len _ (e▸h0) (e▸h1)
   |some t=>exact oc t hw
  ·rw[MJ _ _ e];exact h.len x h0 h1
def dropPg:List Pg->Int->List Pg
 |[],_=>[]
 |g::l,k=>if g.k=k then l else g::dropPg l k
theorem Qc (g:Pg)(l:List Pg)(k:Int):dropPg (g::l) k=if g.k=k then l else g::dropPg l k:=rfl
theorem Xn (l:List Pg)(k:Int):delL (PO l) k=PO (dropPg l k):=by
 induction l with
 |nil=>rfl
 | cons g l ih =>
   show(if k=g.k then PO l else(g.k,ptr g.b 0)::delL (PO l) k)=_;rw[Qc];by_cases h:k=g.k
   ·rw[if_pos h,if_pos h.symm]
   ·rw[if_neg h,if_neg (fun e=>h e.symm),ih];rfl
theorem NV:∀(l:List Pg) (k:Int),(dropPg l k).Sublist l
 |[],_=>List.Sublist.refl _
 | g :: l, k => by
   rw[Qc];split
   ·exact List.sublist_cons_self _ _
   ·exact(NV l k).cons_cons _
theorem VR {l:List Pg}(hn:(l.map (·.k)).Nodup)(k x:Int):x∈(dropPg l k).map (·.k)↔x∈l.map (·.k)/\x≠k:=by
 induction l with
 |nil=>simp[dropPg]
 | cons g l ih =>
   rw[List.map_cons,List.nodup_cons] at hn;rw[Qc];by_cases h:g.k=k
   ·rw[if_pos h,List.map_cons,List.mem_cons];constructor
    ·intro e;exact⟨.inr e,fun e2=>hn.1 (by rw[h,<-e2];exact e)⟩
    ·rintro⟨e|e,e2⟩
     ·exact absurd (e.trans h) e2
     ·exact e
   ·rw[if_neg h,List.map_cons,List.map_cons,List.mem_cons,List.mem_cons];have:=ih hn.2;rw[this];constructor
    ·rintro(e|e)
     ·exact⟨.inl e,fun e2=>h (by rw[<-e,e2])⟩
     ·exact⟨.inr e.1,e.2⟩
    ·rintro⟨e|e,e2⟩
     ·exact .inl e
     ·exact .inr ⟨e,e2⟩
theorem XB {l:List Pg}{g:Pg}(hn:(l.map (·.k)).Nodup)(hg:g∈l):N8 (dropPg l g.k)+(if g.d then 1 else 0)=N8 l:=by
 induction l with
 |nil=>cases hg
 | cons a l ih =>
   rw[List.map_cons,List.nodup_cons] at hn;rw[Qc];by_cases h:a.k=g.k
   ·rw[if_pos h]
    have e:a=g:=by
     rcases List.mem_cons.1 hg with e| e
     ·exact e.symm
     ·exact absurd (List.mem_map.2 ⟨g,e,h.symm⟩) hn.1
    rw[e];unfold N8;rw[List.countP_cons]
   ·rw[if_neg h]
    have aa:g∈l:=by
     rcases List.mem_cons.1 hg with e| e
     ·exact absurd (by rw[e]) h
     ·exact e
    have:=ih hn.2 aa;unfold N8 at*;rw[List.countP_cons,List.countP_cons];omega
structure z7H (P:N1)(txt:Int->Bytes)(K:Nat)(g:Option Int)(D':Dev)(l':List Pg):Prop where
 now:∀x,0<=x->x<(P.L.length:Int)->x∉l'.map (·.k)->D'.now x=txt x
 cl:∀q∈l',q.d=false->D'.now q.k=txt q.k
 sub:l'.Sublist P.l
 keys:∀x,x∈l'.map (·.k)↔x∈P.l.map (·.k)/\g≠some x
 down:D'.down=false
 due:D'.due=0
 B:D'.B=P.D.B
 N:D'.N=P.D.N
 ca:D'.calls+(N8 l':Int)<=(K:Int)
 cc:D'.cache.length+N8 l'<=K
 Nz:D'.Nz.length<=17592186044416
theorem QQ.za7 (h:QQ P txt K):z7H P txt K none P.D P.l:=
 ⟨fun x h0 h1 hx=>h.out x h0 h1 fun e=>hx ((h.keys x).2 e),h.cl,List.Sublist.refl _,fun x=>by simp,h.down,h.due,rfl,rfl,h.ca,h.cc,h.Nz⟩
theorem QQ.zcG (h:QQ P txt K){g:Pg}(hg:g∈P.l):z7H P txt K (some g.k) (if g.d then(P.D.push g.k g.t).count else P.D) (dropPg P.l g.k):=by
 have sG:=XB h.nd hg
 have hk:=VR h.nd g.k
 have Fp:=h.ca
 have CO:=h.cc
 have dg:=NV P.l g.k
 have jb:∀x,0<=x->x<(P.L.length:Int)->x∉(dropPg P.l g.k).map (·.k)->x=g.k\/¬P.A.held x:=fun x h0 h1 hx=>by
  rw[hk,not_and] at hx;by_cases e:x=g.k
  ·exact .inl e
  ·exact .inr fun e2=>hx ((h.keys x).2 e2) e
 have fQ:∀q∈dropPg P.l g.k,q∈P.l/\q.k≠g.k:=fun q hq=>⟨dg.subset hq,((hk q.k).1 (List.mem_map.2 ⟨q,hq,rfl⟩)).2⟩
 have qr:∀x,x∈(dropPg P.l g.k).map (·.k)↔x∈P.l.map (·.k)/\some g.k≠some x:=fun x=>by
  rw[hk];simp only[ne_eq,Option.some.injEq];constructor
  ·rintro⟨a,b⟩;exact⟨a,fun e=>b e.symm⟩
  ·rintro⟨a,b⟩;exact⟨a,fun e=>b e.symm⟩
 cases hd:g.d with
 | true =>
   rw[hd] at sG;rw[if_pos rfl] at sG⊢;refine⟨fun x h0 h1 hx=>?_,fun q hq s7=>?_,dg,qr,h.down,?_,rfl,rfl,?_,?_,h.Nz⟩
   ·rw[YX];rcases jb x h0 h1 hx with e| e
    ·rw[if_pos e.symm,e,h.tx g hg]
    ·by_cases e2:g.k=x
     ·rw[if_pos e2,<-e2,h.tx g hg]
     ·rw[if_neg e2];exact h.out x h0 h1 e
   ·obtain⟨a,b⟩:=fQ q hq;rw[YX,if_neg fun e=>b e.symm];exact h.cl q a s7
   ·have:=h.due;show(if P.D.due=0 then(0:Int) else _)=0;rw[if_pos this]
   ·show P.D.calls+1+_<=_;omega
   ·show(P.D.cache++[_]).length+_<=_
    rw[List.length_append,List.length_singleton];omega
 | false =>
   rw[hd] at sG;rw[if_neg (by simp)] at sG⊢;refine⟨fun x h0 h1 hx=>?_,fun q hq s7=>?_,dg,qr,h.down,h.due,rfl,rfl,by omega,by omega,h.Nz⟩
   ·rcases jb x h0 h1 hx with e| e
    ·rw[e];exact h.cl g hg hd
    ·exact h.out x h0 h1 e
   ·exact h.cl q (fQ q hq).1 s7
theorem QQ.zas (h:QQ P txt K)(h0:0<=no)(h1:no<(P.L.length:Int))(hh:¬P.A.held no)(oc:∀t,wt=some t->t.length=512){D':Dev}{l':List Pg}(hg:z7H P txt K (P.A.MI no).2.2 D' l'){P':N1}{b:Nat}{z:Int}
  (hA:P'.A=(P.A.MI no).1) (hl:P'.l=l'++[⟨no,b,wt.getD (txt no),wt.isSome⟩]) (hL:P'.L=P.L) (hD:P'.D={D' with reads:=z}):QQ P' (TJ txt no wt) (K+wN wt):=by
 have ht:=Arc.VZ h.aok no
 have Iu:=hg.ca
 have Iv:=hg.cc
 have lQ:∀x,x∈P'.l.map (·.k)↔x=no\/x∈l'.map (·.k):=fun x=>by
  rw[hl,List.map_append,List.mem_append,List.map_singleton,List.mem_singleton,or_comm]
 have tU:∀x,P'.A.held x↔x=no\/x∈l'.map (·.k):=fun x=>by
  rw[hA,ht.held,hg.keys,h.keys]
 have kP:no∉l'.map (·.k):=fun e=>hh ((h.keys no).1 ((hg.keys no).1 e).1)
 have tV:N8 P'.l=N8 l'+wN wt:=by
  rw[hl];unfold N8 wN;rw[List.countP_append,List.countP_singleton]
 refine⟨by rw[hA];exact ht.ok,by rw[hA,ht.size];exact h.asz,fun x=>by rw[lQ,tU],?_,fun g j6=>?_,fun g j6=>?_,fun g j6 hd=>?_,fun x x0 x1 hx=>?_,fun x x0 x1=>?_,by rw[hD];exact hg.down,by rw[hD];exact hg.due,by rw[hD,hL];exact hg.B.trans h.B,by rw[hD];exact hg.N.trans h.N,by rw[hD];show D'.calls+_<=_;omega,by rw[hD];show D'.cache.length+_<=_;omega,by rw[hD];exact hg.Nz⟩
 ·rw[hl,List.map_append,List.nodup_append];refine⟨(hg.sub.map _).nodup h.nd,by simp,fun a ha c hc e=>?_⟩;rw[List.map_singleton,List.mem_singleton] at hc;exact kP (by rw[<-show a=no from e.trans hc];exact ha)
 ·rw[hL];rw[hl] at j6;rcases List.mem_append.1 j6 with e| e
  ·exact h.rng g (hg.sub.subset e)
  ·rw[List.mem_singleton.1 e];exact⟨h0,h1⟩
 ·rw[hl] at j6;rcases List.mem_append.1 j6 with e| e
  ·rw[MJ _ _ (fun e2=>kP (by rw[<-e2];exact List.mem_map.2 ⟨g,e,rfl⟩))];exact h.tx g (hg.sub.subset e)
  ·rw[List.mem_singleton.1 e,Nd]
 ·rw[hD,WO];rw[hl] at j6;rcases List.mem_append.1 j6 with e| e
  ·rw[MJ _ _ (fun e2=>kP (by rw[<-e2];exact List.mem_map.2 ⟨g,e,rfl⟩))];exact hg.cl g e hd
  ·rw[List.mem_singleton.1 e] at hd⊢
   have hw:wt=none:=by
    cases wt with
    |none=>rfl
    |some t=>cases hd
   rw[hw,TH];exact hg.now no h0 h1 kP
 ·rw[hL] at x1;rw[tU,not_or] at hx;rw[hD,WO,MJ _ _ hx.1];exact hg.now x x0 x1 hx.2
 ·rw[hL] at x1;by_cases e:x=no
  ·rw[e,Nd]
   cases hw:wt with
   |none=>exact h.len _ h0 h1
   |some t=>exact oc t hw
  ·rw[MJ _ _ e];exact h.len x x0 x1
end
section
variable {w w' w0:World}{P P0 P':N1}{S:Nat->Prop}{txt:Int->Bytes}{K:Nat}
theorem Pl.cells (h:Pl w P):KY w P.s [ptr P.d 0,ptr P.m 0,ptr P.c 0,.map (some P.pm),I (P.fr:Int),I P.h,I P.mi,I P.wr,I 0,I 0,I 0,.bool false] 92:=h.KN
theorem QQ.z9d (h:QQ P txt K):P.D.Small K:=⟨by have:=h.ca;omega,by have:=h.cc;omega,trivial,h.Nz⟩
theorem Vr (h:Pl w P)(hN:P.D.N=1):Lk Tryz.prog 44 [ptr P.s 0] w fun v w'=>v=I 512/\w'=w:=by
 have hB:=h.cells
 have co:=z3C h.dev
 rw[hN] at co
 refine KJ (e:=[(0,_)]) Tryz.func44 rfl Tryz.ntmps44 rfl rfl (qN rfl (KO rfl (py (run_seq (qN rfl (An rfl (qV (LQ S4 rfl rfl) (py (KH rfl (It (qN rfl (An rfl (qV (L6 rfl) ?_)))))))))))))
 refine qV (KT R8 rfl) (qV (KS ZY rfl rfl hB rfl) (La [.tmp 8] z94 rfl (co) ?_))
 rintro _ w ⟨rfl,rfl⟩
 refine KO rfl (py (KP Tryz.func44 rfl ?_))
 exact⟨_,rfl,rfl,rfl⟩
theorem z3m (h:Pl w P):Lk Tryz.prog 109 [ptr P.s 0] w fun v w'=>v=ptr P.d 0/\w'=w:=by
 have hB:=h.cells
 refine KJ (e:=[(0,_)]) Tryz.func109 rfl Tryz.ntmps109 rfl rfl (qN rfl (KO rfl (py (run_seq (qN rfl (An rfl (qV (LQ S4 rfl rfl) (py (KH rfl (It (qN rfl (An rfl (qV (L6 rfl) ?_)))))))))))))
 refine qV (KT R8 rfl) (qV (KS ZY rfl rfl hB rfl) (KO rfl (py (KP Tryz.func109 rfl ?_))))
 exact⟨_,rfl,rfl,rfl⟩
theorem z30 (h:Pl w P):Lk Tryz.prog 17 [ptr P.s 0] w fun v w'=>v=ptr P.m 0/\w'=w:=by
 have hB:=h.cells
 refine KJ (e:=[(0,_)]) Tryz.func17 rfl Tryz.ntmps17 rfl rfl (qN rfl (KO rfl (py (run_seq (qN rfl (An rfl (qV (LQ S4 rfl rfl) (py (KH rfl (It (qN rfl (An rfl (qV (L6 rfl) ?_)))))))))))))
 refine qV (KT z04 rfl) (qV (KS Wo rfl rfl hB rfl) (KO rfl (py (KP Tryz.func17 rfl ?_))))
 exact⟨_,rfl,rfl,rfl⟩
theorem Uz (h:Pl w P)(hd:P.D.down=false):Lk Tryz.prog 89 [ptr P.s 0] w fun v w'=>v=I 0/\w'=w:=by
 have hB:=h.cells
 have tV:=z3T h.dev
 rw[hd] at tV
 refine KJ (e:=[(0,_)]) Tryz.func89 rfl Tryz.ntmps89 rfl rfl (qN rfl (KO rfl (py (run_seq (KL (qN rfl (An rfl (qV (LQ S4 rfl rfl) (KO rfl (py (KH rfl (qN rfl (An rfl ?_)))))))))))))
 refine qV (L6 rfl) (qV (KT z5X rfl) (qV (KS U4 rfl rfl hB rfl) (An rfl (An rfl (qV (L6 rfl) (qV (KT R8 rfl) (qV (KS ZY rfl rfl hB rfl) (La [.tmp 15] zbo rfl (tV) ?_))))))))
 rintro _ w ⟨rfl,rfl⟩
 refine qV (Ls rfl rfl) (KO rfl (py (KH rfl (It (KM (qN rfl (KO rfl (py (KP Tryz.func89 rfl ?_)))))))))
 exact⟨_,rfl,rfl,rfl⟩
theorem Yz (h:Pl w P)(sn:P.D.Small K)(tV:P.D.down=false)(qs:P.D.due=0)(Iw:P.D.B=P.L.length)(jR:P.D.N=1)(hK:K<1000000000000){b:Nat}{t:Bytes}{d:Bool}{no:Int}(h0:0<=no)(h1:no<(P.L.length:Int))(ht:t.length=512)(hb:KY w b (pgC t d) 191)(mU:∀i,¬P.cp i b):
  Lk Tryz.prog 126 [ptr P.s 0,I no,ptr b 0] w fun v w'=>v=I 0/\∃Fd' wr',Pl w' {P with D:=if d then(P.D.push no t).count else P.D,Fd:=Fd',wr:=wr'}/\Kp (fun j=>j=b\/P.cp 0 j\/P.cp 1 j) w w'/\(∀j,Fd' j->P.Fd j\/w.heap.size<=j):=by
 replace hb:KY w b [S t,.bool d,I 0] 191:=hb
 have hB:=h.cells
 have hg:=Ext.Lb w
 have pS:P.s≠b:=fun e=>mU 0 e.symm
 have Fr:¬P.Fd P.s:=fun e=>h.QU 0 1 (by decide) P.s rfl e
 have CP:¬P.Fd b:=mU 1
 refine KJ (e:=[(0,_),(1,_),(2,_)]) Tryz.func126 rfl Tryz.ntmps126 rfl rfl ?_
 cases d with
 | false =>
   refine qN rfl (KO rfl (py (run_seq (qN rfl (An rfl (qV (L6 rfl) (qV (KT QJ rfl) (qV (KT XJ rfl) (qV (KS U4 rfl rfl hb rfl) (qV ((by first|exact LN rfl|exact Na rfl)) ?_))))))))));refine py (L3 rfl (qN rfl (KO rfl (py (KP Tryz.func126 rfl (⟨_,rfl,rfl,P.Fd,P.wr,?_,Kp.refl _ _,fun j e=> .inl e⟩))))));rw[if_neg (by simp)]
   exact h
 | true =>
   refine qN rfl (KO rfl (py (run_seq (qN rfl (An rfl (qV (L6 rfl) (qV (KT QJ rfl) (qV (KT XJ rfl) (qV (KS U4 rfl rfl hb rfl) (qV ((by first|exact LN rfl|exact Na rfl)) ?_))))))))));have CQ:=z09 no t (h.dev.ext hg) sn hK;rw[z5O tV qs ⟨h0,by rw[Iw];exact h1⟩ (by rw[jR];exact ht)] at CQ;dsimp only at CQ;refine py (KH rfl (It (run_seq (run_seq (KV (fun w'=>Kp P.Fd w w') (by kernel_rfl) rfl (KR 0 rfl (KW rfl) (hg.kp) (KR 1 rfl (L6 rfl) (hg.kp) (KR 2 rfl (KT R8 rfl) (hg.kp) (qT 3 rfl (fun _ h=>(by first|exact KS ZY rfl rfl (h.KN hB Fr) rfl|exact KS ZY rfl rfl (h.KN hb CP) rfl)) (hg.kp) ?_)))))))));refine KR 4 rfl (KW rfl) (hg.kp) (KR 5 rfl (KW rfl) (hg.kp) (KR 6 rfl (L6 rfl) (hg.kp) (KR 7 rfl (KT QJ rfl) (hg.kp) (KR 8 rfl (KT Xw rfl) (hg.kp) (qT 9 rfl (fun _ h=>(by first|exact KS U9 rfl rfl (h.KN hB Fr) rfl|exact KS U9 rfl rfl (h.KN hb CP) rfl)) (hg.kp) ?_)))));refine O2 10 [.tmp 17,.tmp 18,.tmp 23] rfl zbu rfl (CQ) ?_;rintro _ w1 ⟨rfl,mf⟩;refine⟨hg.kp.trans mf.kpF,?_⟩;obtain⟨Fd',cT,nT⟩:=((h.r (Ext.refl w)).ext hg).dev mf;have aM:Kp P.Fd w w1:=hg.kp.trans mf.kpF;have oU:∀j,Fd' j->P.Fd j\/w.heap.size<=j:=fun j e=>(nT j e).imp id fun e=>by have:=hg.size;omega
   refine KR 11 rfl (MO rfl) (hg.kp.trans mf.kpF) (qE (qN rfl (An rfl (qV (M0 rfl rfl) ?_))));have ai:=cT.m.cells;refine py (KH rfl (It (qN rfl (An rfl (qV (L6 rfl) (qV (KT TG rfl) (qV (KT z4W rfl) (qV (KS U3 rfl rfl ai rfl) (qV (z5d rfl rfl) (qV (L6 rfl) (qV (KT TG rfl) (qV (KT z4W rfl) (L0 rfl (Mt LG rfl rfl rfl ai (by simp)) ?_)))))))))))));rintro w2 ⟨ak,am⟩;obtain⟨z,hz⟩:∃z,IntKind.i64.wrap (P.wr+1)=z:=⟨_,rfl⟩;rw[hz] at ak;have dz:=cT.cnt (a:=P.h) (b:=P.mi) (c:=z) ak am;have bT:=am.KN (aM.KN hb CP) (fun e=>pS e.symm);refine py (Ll.qb (e:=[(2,_),(6,_)]) ?_);refine qN rfl (An rfl (qV (L6 rfl) (qV (KT QJ rfl) (qV (KT XJ rfl) (L0 rfl (Mt QX rfl rfl rfl bT (by simp)) ?_)))));rintro w3 ⟨dZ,au⟩
   have CR:∀i,¬N1.cp {P with D:=(P.D.push no t).count,Fd:=Fd',h:=P.h,mi:=P.mi,wr:=z} i b:=fun i e=>by
    match i,e with
    |0,e=>exact mU 0 e
    | 1, e =>
      rcases oU b e with e| e
      ·exact mU 1 e
      ·have:=hb.lt;omega
    |2,e=>exact mU 2 e
    |3,e=>exact mU 3 e
    |4,e=>exact mU 4 e
    |5,e=>exact mU 5 e
   refine qM rfl (KO rfl (py (KP Tryz.func126 rfl (⟨_,rfl,rfl,Fd',z,?_,?_,oU⟩))))
   ·rw[if_pos rfl];exact dz.m.kp au fun j ⟨i,hj⟩ e=>CR i (e▸hj)
   ·exact((aM.L2 fun j e=> .inr (.inr e)).trans (am.L2 fun j e=> .inr (.inl e))).trans (au.L2 fun j e=> .inl e)
end
structure N1.Same (P P':N1):Prop where
 s:P'.s=P.s
 d:P'.d=P.d
 m:P'.m=P.m
 gi:P'.gi=P.gi
 c:P'.c=P.c
 pm:P'.pm=P.pm
 p:P'.p=P.p
 fr:P'.fr=P.fr
 L:P'.L=P.L
theorem N1.Same.trans {P P' P2:N1}(h:P.Same P')(h2:P'.Same P2):P.Same P2:=
 ⟨h2.s.trans h.s,h2.d.trans h.d,h2.m.trans h.m,h2.gi.trans h.gi,h2.c.trans h.c,h2.pm.trans h.pm,h2.p.trans h.p,h2.fr.trans h.fr,h2.L.trans h.L⟩
theorem Vh {l:List Pg}{k:Int}{b:Nat}{t0 t:Bytes}{d0 d:Bool}(h:k∉l.map (·.k)):MU (l++[⟨k,b,t0,d0⟩]) k t d=l++[⟨k,b,t,d⟩]:=by
 unfold MU
 rw[List.map_append]
 congr 1
 ·conv=>rhs;rw[<-List.map_id l]
  refine List.map_congr_left fun g hg=>?_;rw[if_neg fun e=>h (List.mem_map.2 ⟨g,hg,e⟩)];rfl
 ·show [if k=k then _ else _]=_;rw[if_pos rfl]
section
variable {w w' w0:World}{P P0 P':N1}{S':Nat->Prop}{txt:Int->Bytes}{K:Nat}
theorem Pl.get (h:Pl w P){q:Pg}(hq:q∈P.l):getL (PO P.l) q.k=some (ptr q.b 0):=
 Yn h.mp.nd (List.mem_map.2 ⟨q,hq,rfl⟩)
theorem Ph.write (h:Ph w0 P0 w P){D':Dev}{Fd':Nat->Prop}{wr':Int}{b:Nat}(hm:Pl w' {P with D:=D',Fd:=Fd',wr:=wr'})(hk:Kp (fun j=>j=b\/P.cp 0 j\/P.cp 1 j) w w')(hF:∀j,Fd' j->P.Fd j\/w.heap.size<=j)(hb:P0.fp b\/w0.heap.size<=b):Ph w0 P0 w' {P with D:=D',Fd:=Fd',wr:=wr'}:=
 ⟨hm,fun j ⟨i,hj⟩=>by
  match i,hj with
  |0,e=>exact h.fp j ⟨0,e⟩
  | 1, e =>
    rcases hF j e with e| e
    ·exact h.fp j ⟨1,e⟩
    ·exact .inr (by have:=h.k.size;omega)
  |2,e=>exact h.fp j ⟨2,e⟩
  |3,e=>exact h.fp j ⟨3,e⟩
  |4,e=>exact h.fp j ⟨4,e⟩
  |5,e=>exact h.fp j ⟨5,e⟩,h.k.KK hk fun j e=>by
  rcases e with e|e| e
  ·rw[e];exact hb.symm
  ·exact(h.fp j ⟨0,e⟩).symm
  ·exact(h.fp j ⟨1,e⟩).symm⟩
theorem Ux (hr : Ph w0 P0 w P)(hI : QQ P txt K)(hK : K < 1000000000000){no : Int}(h0 : 0 <= no)(h1 : no < (P.L.length : Int))(wt : Option Bytes)(oc : ∀ t, wt = some t -> t.length = 512){x : Nat}{x0 : Value}(jb : w0.heap.size <= x)(dX : ∀ i, ¬ P.cp i x)(f9 : KY w x [x0] 9){f : Nat}(oo : CF Tryz.prog f)
  (CS:∀(w1:World) (b:Nat) (t:Bytes) (d:Bool),b≠x->KY w1 b (pgC t d) 191->KY w1 x [x0] 9->Lk Tryz.prog f [ptr b 0,ptr x 0] w1 fun v w2=>v= .tuple #[]/\KY w2 b (pgC (wt.getD t) (wt.isSome ||d)) 191/\KY w2 x [S (wt.getD t)] 9/\Kp (fun j=>j=if wt.isSome then b else x) w1 w2):
  Lk Tryz.prog 90 [ptr P.s 0,I no,.bool wt.isSome,.func (.func f) #[] #[ptr x 0]] w fun v w'=>v=I 0/\KY w' x [S (wt.getD (txt no))] 9/\∃P',Ph w0 P0 w' P'/\QQ P' (TJ txt no wt) (K+wN wt)/\P.Same P'/\∀i,¬P'.cp i x:=by
 have hB:=hr.m.cells
 have eN:=Rr hr.m.dev
 rw[hI.B] at eN
 have lx:=f9.lt
 have fR:=Arc.VZ hI.aok no
 obtain⟨T,hT⟩:∃T,P.A.MI no=T:=⟨_,rfl⟩
 have eA:=z0J hr.m.arc hI.aok hI.asz (k:=no)
 rw[hT] at fR eA
 obtain⟨A2,WG,g⟩:=T
 dsimp only at fR eA
 have n4096:=hr.m.ext.n
 refine KJ (e:=[(0,_),(1,_),(2,_),(3,_)]) Tryz.func90 rfl Tryz.ntmps90 rfl rfl (qN rfl (KO rfl (py (run_seq (qN rfl (An rfl (qV (LX rfl rfl) (Ly (An rfl (An rfl (An rfl (qV (L6 rfl) (qV (KT R8 rfl) ?_)))))))))))))
 refine qV (KS ZY rfl rfl hB rfl) (La [.tmp 21] YD rfl (eN) ?_)
 rintro _ w ⟨rfl,rfl⟩
 refine qV (Ou rfl rfl) (Ly (qV (Ls rfl rfl) (py (KH rfl (It (qN rfl (An rfl (qV (L6 rfl) (qV (KT z5n rfl) (qV (KS U89 rfl rfl hB rfl) (An rfl (La [.tmp 29,.tmp 30] za8 rfl (eA) ?_))))))))))))
 rintro _ w1 ⟨rfl,V2,qt⟩
 have cT:=hr.arc qt
 have CT:=qt.k.KN f9 (dX 3)
 have z1:=qt.k.size
 refine An rfl (qV (Lu (v:=z7F WG g) rfl rfl) (qV (Lu (v:=I 0) rfl rfl) (KU rfl rfl (N3 (cs:=[_,_,_]) Lo rfl) ?_)))
 rintro _ w2 ⟨b9,rfl,nV,af,cC⟩
 have z2:=af.size
 refine L0 rfl (Lz (news:=MQ WG g) Lo rfl rfl rfl rfl cC (by simp)) ?_
 rintro w3 ⟨cd,au⟩
 replace cd:KY w3 b9 [.bool WG,.bool g.isSome,I (g.getD 0)] 232:=cd
 have aX:Ext w1 w3:=af.KK au (fun j e=>by omega)
 have bX:=cT.ext aX
 have xt:=aX.KN CT
 have z01:=cT.k.size
 have z13:=aX.size
 have er:∀i,¬N1.cp {P with A:=A2,V:=V2} i x:=fun i e=>by
  match i,e with
  |0,e=>exact dX 0 e
  |1,e=>exact dX 1 e
  |2,e=>exact dX 2 e
  | 3, e =>
    rcases qt.fp x e with e| e
    ·exact dX 3 e
    ·omega
  |4,e=>exact dX 4 e
  |5,e=>exact dX 5 e
 have xu:∀i,¬N1.cp {P with A:=A2,V:=V2} i b9:=cT.m.new (by omega)
 have Km:b9≠x:=by omega
 have l93:=cd.lt
 have iR:=bX.m.cells
 dsimp only at iR
 refine KO rfl (py (Ll.qb (e:=[(0,_),(1,_),(2,_),(3,_),(8,_),(9,_),(10,_)]) ?_))
 refine run_seq (qN rfl (An rfl (qV (M0 rfl rfl) (py (KH rfl (It (run_seq (qN rfl (qV (KT z7K rfl) ?_)))))))))
 cases WG with
 | true =>
   have bu:=fR.WG.1 rfl
   obtain⟨q,hq,CU⟩:∃q∈P.l,q.k=no:=by
    obtain⟨q,a,b⟩:=List.mem_map.1 ((hI.keys no).2 bu);exact⟨q,a,b⟩
   subst CU;refine qV (KS U4 rfl rfl cd rfl) (py (L3 rfl (qN rfl (An rfl (qV (L6 rfl) (qV (KT TG rfl) (qV (KT z4O rfl) (qV (KS U3 rfl rfl iR rfl) (qV (z5d rfl rfl) (qV (L6 rfl) (qV (KT TG rfl) (qV (KT z4O rfl) (L0 rfl (Mt LG rfl rfl rfl iR (by simp)) ?_)))))))))))));rintro w4 ⟨aJ,aw⟩;obtain⟨z,hz⟩:∃z,IntKind.i64.wrap (P.h+1)=z:=⟨_,rfl⟩;rw[hz] at aJ;have bC:=bX.cnt (a:=z) (b:=P.mi) (c:=P.wr) aJ aw;have fS:=bC.m.cells;dsimp only at fS;have px:=aw.KN xt (dX 0);have dW:=bC.m.get hq;dsimp only at dW;have pR:KY w4 q.b (pgC q.t q.d) 191:=bC.m.pg q hq;have sH:q.b≠x:=fun e=>dX 5 ⟨q,hq,e⟩;refine qM rfl (An rfl (An rfl (qV (L6 rfl) (qV (KT Ss rfl) (qV (KS Yg rfl rfl fS rfl) (An rfl (qV (ylk (k:=q.k) (K:=KI) Yg (Ng U3) z5R rfl rfl bC.m.mp.l) ?_)))))));dsimp only;rw[dW];refine Mi rfl rfl (Nk (args:=[.tmp 54]) oo rfl rfl) (CS w4 q.b q.t q.d sH pR px) ?_;rintro _ w5 ⟨rfl,CV,pz,aj⟩;refine py (Ll.qb (e:=[(0,_),(1,_),(2,_),(3,_),(8,_),(9,_),(10,_)]) ?_);refine qN rfl (KO rfl (py (KP Tryz.func90 rfl ?_)));have CW:=hI.tx q hq;refine⟨_,rfl,rfl,by rw[<-CW];exact pz,?_⟩
   cases wt with
   | none =>
     have xv:∀i,¬N1.cp {P with A:=A2,V:=V2,h:=z,mi:=P.mi,wr:=P.wr} i x:=fun i e2=>by
      match i,e2 with
      |0,e2=>exact er 0 e2
      |1,e2=>exact er 1 e2
      |2,e2=>exact er 2 e2
      |3,e2=>exact er 3 e2
      |4,e2=>exact er 4 e2
      |5,e2=>exact er 5 e2
     refine⟨_,bC.loc aj (fun j e=>⟨.inr (by rw[show j=x from e];exact jb),by rw[show j=x from e];exact xv⟩),hI.WG hq oc (by rw[hT]) ?_ rfl rfl,⟨rfl,rfl,rfl,rfl,rfl,rfl,rfl,rfl,rfl⟩,xv⟩;show P.l=MU P.l q.k q.t q.d
     exact(W2 hI.nd hq).symm
   | some t =>
     refine⟨_,bC.zci hq CV aj,hI.WG hq oc (by rw[hT]) rfl rfl rfl,⟨rfl,rfl,rfl,rfl,rfl,rfl,rfl,rfl,rfl⟩,fun i e2=>?_⟩
     match i,e2 with
     |0,e2=>exact er 0 e2
     |1,e2=>exact er 1 e2
     |2,e2=>exact er 2 e2
     |3,e2=>exact er 3 e2
     |4,e2=>exact er 4 e2
     | 5, ⟨g', cD, e2⟩ =>
       have h3:g'.b∈P.l.map (·.b):=by rw[<-XE P.l q.k];exact List.mem_map.2 ⟨g',cD,rfl⟩
       obtain⟨g2,a,b⟩:=List.mem_map.1 h3
       exact er 5 ⟨g2,a,b.trans e2⟩
 | false =>
   have CX:¬P.A.held no:=fun e=>by have:=fR.WG.2 e;cases this
   refine qV (KS U4 rfl rfl cd rfl) (py (KH rfl (It (qN rfl (An rfl (qV (L6 rfl) (qV (KT TG rfl) (qV (KT z5E rfl) (qV (KS U3 rfl rfl iR rfl) (qV (z5d rfl rfl) (qV (L6 rfl) (qV (KT TG rfl) (qV (KT z5E rfl) ?_)))))))))))));refine L0 rfl (Mt LG rfl rfl rfl iR (by simp)) ?_;rintro w4 ⟨aJ,aw⟩;obtain⟨z,hz⟩:∃z,IntKind.i64.wrap (P.mi+1)=z:=⟨_,rfl⟩;rw[hz] at aJ;have bC:=bX.cnt (a:=P.h) (b:=z) (c:=P.wr) aJ aw;have fS:=bC.m.cells;dsimp only at fS;have px:=aw.KN xt (dX 0);have zg:b9≠P.s:=fun e=>xu 0 e;have jN:=aw.KN cd zg;have z4:=aw.size;refine py (run_seq (qN rfl (qV (KT z7B rfl) (qV (KS U4 rfl rfl jN rfl) (py ?_)))))
   have Ix:∀(D':Dev) (Fd':Nat->Prop) (l':List Pg) (wr':Int),(∀j,Fd' j->P.Fd j\/w.heap.size<=j)->l'.Sublist P.l->∀b,(∀i,¬N1.cp {P with A:=A2,V:=V2} i b)->b<w.heap.size\/(∀j,Fd' j->j≠b)->∀i,¬N1.cp {P with A:=A2,V:=V2,D:=D',Fd:=Fd',l:=l',mi:=z,wr:=wr'} i b:=fun D' Fd' l' wr' hF hl b hb bT i e=>by
    match i,e with
    |0,e=>exact hb 0 e
    | 1, e =>
      rcases bT with h| h
      ·rcases hF b e with e| e
       ·exact hb 1 e
       ·omega
      ·exact h b e rfl
    |2,e=>exact hb 2 e
    |3,e=>exact hb 3 e
    |4,e=>exact hb 4 e
    |5,⟨q,hq,e⟩=>exact hb 5 ⟨q,hl.subset hq,e⟩
   refine Lx (fun e' w'=>e'=[(0,ptr P.s 0),(1,I no),(2,.bool wt.isSome),(3,.func (.func f) #[] #[ptr x 0])]/\∃D' Fd' l' wr',Ph w0 P0 w' {P with A:=A2,V:=V2,D:=D',Fd:=Fd',l:=l',mi:=z,wr:=wr'}/\z7H P txt K g D' l'/\KY w' x [x0] 9/\(∀j,Fd' j->P.Fd j\/w.heap.size<=j/\j≠x)) ?eR (fun eR=>?jQ)
   case eR =>
    rintro e' w5 ⟨rfl,D',Fd',l',wr',bU,dH,pz,tN⟩;have kP:no∉l'.map (·.k):=fun e=>CX ((hI.keys no).1 ((dH.keys no).1 e).1);have z5:=bU.k.size;have lx5:=pz.lt
    have et:∀i,¬N1.cp {P with A:=A2,V:=V2,D:=D',Fd:=Fd',l:=l',mi:=z,wr:=wr'} i x:=fun i e=>by
     match i,e with
     |0,e=>exact dX 0 e
     | 1, e =>
       rcases tN x e with e| e
       ·exact dX 1 e
       ·exact e.2 rfl
     |2,e=>exact dX 2 e
     |3,e=>exact er 3 e
     |4,e=>exact dX 4 e
     |5,⟨q,hq,e⟩=>exact dX 5 ⟨q,dH.sub.subset hq,e⟩
    refine qN rfl (qV (NA (parts:=[]) (cs:=[_,_,_]) zb1 rfl zcp rfl rfl) (KU rfl rfl (MH rfl (cs:=pgC [] false) rfl) ?_));rintro _ w6 ⟨b,rfl,hb,aG,aN⟩;replace aN:KY w6 b [S [],.bool false,I 0] 191:=aN;have cn:=bU.ext aG;have ns:=aG.KN pz;have nt:b≠x:=by omega
    have fT:∀i,¬N1.cp {P with A:=A2,V:=V2,D:=D',Fd:=Fd',l:=l',mi:=z,wr:=wr'} i b:=bU.m.new (by omega);have lb6:=aN.lt
    have xw:getL (PO l') no=none:=Xf fun e=>kP (by
     unfold PO at e;rw[List.map_map] at e
     exact e)
    refine KO rfl (py (run_seq (qN rfl (An rfl (qV ((by first|exact LN rfl|exact Na rfl)) ?_)))))
    cases wt with
    | none =>
      refine py (L3 rfl ?_);have lD:=cn.m.cells;dsimp only at lD;have ee:=z3l no cn.m.dev (k:=K) ⟨by have:=dH.ca;show D'.calls<=_;omega,by have:=dH.cc;show D'.cache.length<=_;omega,trivial,dH.Nz⟩ hK
      have Iy:D'.read no=({D' with reads:=IntKind.i64.wrap (D'.reads+1)},txt no,0):=by
       have hh:D'.has no=true:=by
        have:=dH.B;have:=hI.B;simp[Dev.has];omega
       unfold Dev.read;rw[if_neg (by rw[dH.down];simp),if_neg (by rw[hh];simp),dH.now no h0 h1 kP]
      dsimp only at ee;rw[Iy] at ee;dsimp only at ee;refine qN rfl (An rfl (An rfl (qV (L6 rfl) (qV (KT R8 rfl) (qV (KS ZY rfl rfl lD rfl) (An rfl (La [.tmp 97,.tmp 98] zau rfl (ee) ?_)))))));rintro _ w7 ⟨rfl,qn⟩;obtain⟨Fd7,xy,xz⟩:=cn.dev qn;have gN:Kp Fd' w6 w7:=qn.kpF;have bE:=gN.KN aN (fT 1);have sI:=gN.KN ns (et 1);refine An rfl (qV (Lu (v:=S (txt no)) rfl rfl) (qV (Lu (v:=I 0) rfl rfl) (qV (L6 rfl) (qV (KT QJ rfl) (qV (KT Xw rfl) (L0 rfl (Mt WR rfl rfl rfl bE (by simp)) ?_))))));rintro w8 ⟨bZ,bh⟩;replace bZ:KY w8 b (pgC (txt no) false) 191:=bZ
      have sJ:∀i,¬N1.cp {P with A:=A2,V:=V2,D:={D' with reads:=IntKind.i64.wrap (D'.reads+1)},Fd:=Fd7,l:=l',mi:=z,wr:=wr'} i b:=fun i e=>by
       match i,e with
       |0,e=>exact fT 0 e
       | 1, e =>
         rcases xz b e with e| e
         ·exact fT 1 e
         ·omega
       |2,e=>exact fT 2 e
       |3,e=>exact fT 3 e
       |4,e=>exact fT 4 e
       |5,e=>exact fT 5 e
      have jS:∀i,¬N1.cp {P with A:=A2,V:=V2,D:={D' with reads:=IntKind.i64.wrap (D'.reads+1)},Fd:=Fd7,l:=l',mi:=z,wr:=wr'} i x:=fun i e=>by
       match i,e with
       |0,e=>exact et 0 e
       | 1, e =>
         rcases xz x e with e| e
         ·exact et 1 e
         ·have:=ns.lt;omega
       |2,e=>exact et 2 e
       |3,e=>exact et 3 e
       |4,e=>exact et 4 e
       |5,e=>exact et 5 e
      have fg:=xy.loc bh (fun j e=>by rw[show j=b from e];exact⟨.inr (by omega),sJ⟩);have CY:=bh.KN sI (fun e=>nt e.symm);have xA:=fg.m.cells;dsimp only at xA;refine KO rfl (qM rfl (An rfl (qV (M0 rfl rfl) (py (Ll.qb (e:=[(0,_),(1,_),(3,_),(10,_),(13,_),(106,_)]) ?_)))));refine KH rfl (It (qN rfl (An rfl (qV (L6 rfl) (qV (KT Ss rfl) (qV (KS Yg rfl rfl xA rfl) (An rfl (An rfl (L0 rfl (z8S (k:=no) (K:=KI) Yg (Ng U3) rfl rfl rfl fg.m.mp) ?_)))))))));rintro w9 ⟨lX,aL⟩;dsimp only at lX;rw[PJ _ _ _ xw] at lX;have gz:=fg.ins (g:=⟨no,b,txt no,false⟩) ⟨by dsimp only;omega,sJ⟩ bZ (by unfold PO at lX⊢;rw[List.map_append];exact lX) aL;have cC:=aL.KN bZ (sJ 4);have sK:=aL.KN CY (jS 4);refine qM rfl (An rfl (An rfl (Mi rfl rfl (Nk (args:=[.tmp 117]) oo rfl rfl) (CS w9 b (txt no) false nt cC sK) ?_)));rintro _ w10 ⟨rfl,qu,nu,ax⟩;refine qM rfl (KO rfl (py (KP Tryz.func90 rfl ?_)))
      have xv:∀i,¬N1.cp {P with A:=A2,V:=V2,D:={D' with reads:=IntKind.i64.wrap (D'.reads+1)},Fd:=Fd7,l:=l'++[⟨no,b,txt no,false⟩],mi:=z,wr:=wr'} i x:=fun i e2=>by
       match i,e2 with
       |0,e2=>exact jS 0 e2
       |1,e2=>exact jS 1 e2
       |2,e2=>exact jS 2 e2
       |3,e2=>exact jS 3 e2
       |4,e2=>exact jS 4 e2
       | 5, ⟨q, hq, e2⟩ =>
         rcases List.mem_append.1 hq with e3|e3
         ·exact jS 5 ⟨q,e3,e2⟩
         ·rw[List.mem_singleton.1 e3] at e2;exact nt e2
      exact⟨_,rfl,rfl,nu,_,gz.loc ax (fun j e=>⟨.inr (by rw[show j=x from e];exact jb),by rw[show j=x from e];exact xv⟩),hI.zas h0 h1 CX oc (by rw[hT];exact dH) (by rw[hT]) rfl rfl rfl,⟨rfl,rfl,rfl,rfl,rfl,rfl,rfl,rfl,rfl⟩,xv⟩
    | some t =>
      refine py (KH rfl ?_);have lD:=cn.m.cells;dsimp only at lD;refine It (qN rfl (An rfl (qV (L6 rfl) (qV (KT Ss rfl) (qV (KS Yg rfl rfl lD rfl) (An rfl (An rfl (L0 rfl (z8S (k:=no) (K:=KI) Yg (Ng U3) rfl rfl rfl cn.m.mp) ?_))))))));rintro w9 ⟨lX,aL⟩;dsimp only at lX;rw[PJ _ _ _ xw] at lX;have gz:=cn.ins (g:=⟨no,b,[],false⟩) ⟨by dsimp only;omega,fT⟩ aN (by unfold PO at lX⊢;rw[List.map_append];exact lX) aL;have cC:=aL.KN aN (fT 4);have sK:=aL.KN ns (et 4);refine qM rfl (An rfl (An rfl (Mi rfl rfl (Nk (args:=[.tmp 117]) oo rfl rfl) (CS w9 b [] false nt cC sK) ?_)));rintro _ w10 ⟨rfl,qu,nu,ax⟩;refine qM rfl (KO rfl (py (KP Tryz.func90 rfl ?_)));have mQ:=gz.zci (g:=⟨no,b,[],false⟩) (List.mem_append_right _ (List.mem_singleton.2 rfl)) qu ax;refine⟨_,rfl,rfl,nu,_,mQ,hI.zas h0 h1 CX oc (by rw[hT];exact dH) (by rw[hT]) (Vh kP) rfl rfl,⟨rfl,rfl,rfl,rfl,rfl,rfl,rfl,rfl,rfl⟩,fun i e2=>?_⟩
      match i,e2 with
      |0,e2=>exact et 0 e2
      |1,e2=>exact et 1 e2
      |2,e2=>exact et 2 e2
      |3,e2=>exact et 3 e2
      |4,e2=>exact et 4 e2
      | 5, ⟨q, hq, e2⟩ =>
        have e4:=Vh (b:=b) (t0:=[]) (t:=(some t).getD []) (d0:=false) (d:=(some t).isSome ||false) kP;have Iz:q∈l'++[⟨no,b,(some t).getD [],(some t).isSome ||false⟩]:=by rw[<-e4];exact hq
        rcases List.mem_append.1 Iz with e3|e3
        ·exact et 5 ⟨q,e3,e2⟩
        ·rw[List.mem_singleton.1 e3] at e2;exact nt e2
   case jQ=>
    cases g with
    | none =>
      refine KH rfl (It ?_)
      exact(eR _ _ ⟨rfl,_,_,_,P.wr,bC,hI.za7,px,fun j e=> .inl e⟩).qb
    | some gk =>
      obtain⟨IA,IB⟩:=fR.gone gk rfl
      obtain⟨q,hq,CU⟩:∃q∈P.l,q.k=gk:=by
       obtain⟨q,a,b⟩:=List.mem_map.1 ((hI.keys gk).2 IA);exact⟨q,a,b⟩
      subst CU;have dW:=bC.m.get hq;dsimp only at dW;have ae:=Ext.Lb w4;refine L3 rfl (run_seq (KV (fun w'=>Ext w4 w') (by kernel_rfl) rfl (KR 0 rfl (KW rfl) ae (KR 1 rfl (L6 rfl) ae (KR 2 rfl (KT Ss rfl) ae (qT 3 rfl (fun _ h=>(by first|exact KS Yg rfl rfl (h.KN fS) rfl|exact KS Yg rfl rfl (h.KN jN) rfl)) ae ?_))))));refine KR 4 rfl (KT Xv rfl) ae (qT 5 rfl (fun _ h=>(by first|exact KS U3 rfl rfl (h.KN fS) rfl|exact KS U3 rfl rfl (h.KN jN) rfl)) ae ?_);refine qT 6 rfl (fun _ h=>ylk (k:=q.k) (K:=KI) Yg (Ng U3) z5R rfl rfl (bC.m.ext' h).mp.l) ae ?_;dsimp only;rw[dW];refine KR 7 rfl (MO rfl) ae (qE (Ll.qb (e:=[(0,_),(1,_),(2,_),(3,_),(8,_),(9,_),(10,_),(11,_)]) ?_));refine run_seq ?_;have dG:=Ext.Lb w4.drew;have jT:=ae.KN fS;have gt:=ae.KN jN;have bU:=bC.ext (ae.trans dG);refine Le [6] (fun w'=>Ext w4.drew w') (by kernel_rfl) rfl (qL [1,2,3,6] 0 rfl (fun _ h=>KW rfl) dG (qL [2,3,6] 1 rfl (fun _ h=>L6 rfl) dG (qL [3,6] 2 rfl (fun _ h=>KT Ss rfl) dG (qL [6] 3 rfl (fun _ h=>(by first|exact KS Yg rfl rfl (h.KN jT) rfl|exact KS Yg rfl rfl (h.KN gt) rfl)) dG ?_))));refine qL [5,6] 4 rfl (fun _ h=>KT Xv rfl) dG (qL [6] 5 rfl (fun _ h=>(by first|exact KS U3 rfl rfl (h.KN jT) rfl|exact KS U3 rfl rfl (h.KN gt) rfl)) dG ?_);refine LD [6] (by kernel_rfl) (by kernel_rfl) (qO 6 (z6a (i:=6) rfl rfl (z9C (k:=q.k) (K:=KI) Yg (Ng U3) rfl rfl bU.m.mp rfl) ?_));rintro _ w6 ⟨tW,aT⟩;refine⟨trivial,?_⟩;dsimp only at tW;rw[Xn] at tW;have cn:=bU.del (NV P.l q.k) tW aT;have CZ:KY w4 q.b (pgC q.t q.d) 191:=bC.m.pg q hq;have xB:q.b≠P.pm:=fun e=>bC.m.QU 5 4 (by decide) q.b ⟨q,hq,rfl⟩ e;have rv:=aT.KN ((ae.trans dG).KN CZ) xB
      have fT:∀i,¬N1.cp {P with A:=A2,V:=V2,h:=P.h,mi:=z,wr:=P.wr,l:=dropPg P.l q.k} i q.b:=fun i e=>by
       match i,e with
       |0,e=>exact bC.m.QU 5 0 (by decide) q.b ⟨q,hq,rfl⟩ e
       |1,e=>exact bC.m.QU 5 1 (by decide) q.b ⟨q,hq,rfl⟩ e
       |2,e=>exact bC.m.QU 5 2 (by decide) q.b ⟨q,hq,rfl⟩ e
       |3,e=>exact bC.m.QU 5 3 (by decide) q.b ⟨q,hq,rfl⟩ e
       |4,e=>exact xB e
       | 5, ⟨q2, fE, e⟩ =>
         have e2:q2=q:=NO bC.m.pnd ((NV P.l q.k).subset fE) hq e;have:=((VR hI.nd q.k q2.k).1 (List.mem_map.2 ⟨q2,fE,rfl⟩)).2;exact this (by rw[e2])
      have pA:=hI.rng q hq;have CW:=hI.tx q hq;have vQ:q.t.length=512:=by rw[CW];exact hI.len q.k pA.1 pA.2
      have ns:=aT.KN ((ae.trans dG).KN px) (er 4);have lD:=cn.m.cells;have D2:=aT.KN ((ae.trans dG).KN jN) (xu 4);have z46:=(ae.trans dG).size;have z56:=aT.size;refine qE (qN rfl (An rfl (qV (KT Xv rfl) (qV (KS U3 rfl rfl D2 rfl) (An rfl (La [.tmp 80,.tmp 82,.tmp 83] zcb rfl (Yz cn.m hI.z9d hI.down hI.due hI.B hI.N hK pA.1 pA.2 vQ rv fT) ?_))))));rintro _ w7 ⟨rfl,Fd7,wr7,fP,aA,xz⟩;have xy:=cn.write fP aA xz (bC.fp q.b ⟨5,q,hq,rfl⟩);have sH:q.b≠x:=fun e=>dX 5 ⟨q,hq,e⟩
      have sI:=aA.KN ns (fun e=>by
       rcases e with e|e| e
       ·exact sH e.symm
       ·exact dX 0 e
       ·exact dX 1 e)
      refine KO rfl (qM rfl (An rfl (qV (M0 rfl rfl) (py (KH rfl (It ?_))))));exact(eR _ _ ⟨rfl,_,Fd7,_,wr7,xy,hI.zcG hq,sI,fun j e=>(xz j e).imp id fun e=>⟨by omega,by omega⟩⟩).qb
end
section
variable {w w' w0:World}{P P0 P':N1}{S':Nat->Prop}{txt:Int->Bytes}{K:Nat}
theorem z38 {b x:Nat}{t:Bytes}{d:Bool}{x0:Value}(f9:b≠x)(hb:KY w b (pgC t d) 191)(hx:KY w x [x0] 9):Lk Tryz.prog 91 [ptr b 0,ptr x 0] w fun v w2=>v= .tuple #[]/\KY w2 b (pgC t d) 191/\KY w2 x [S t] 9/\Kp (fun j=>j=x) w w2:=by
 replace hb:KY w b [S t,.bool d,I 0] 191:=hb
 refine KJ (e:=[(0,_),(1,_)]) Tryz.func91 rfl Tryz.ntmps91 rfl rfl (KQ rfl (An rfl (qV (L6 rfl) (qV (KT QJ rfl) (qV (KT Xw rfl) (qV (KS U9 rfl rfl hb rfl) (L0 rfl (Mt WR rfl rfl rfl hx (by simp)) ?_)))))))
 rintro w1 ⟨ad,aM⟩
 refine py (M8 Tryz.func91 rfl ?_)
 exact⟨_,rfl,rfl,aM.KN hb f9,ad,aM⟩
theorem z1b {b x:Nat}{t s:Bytes}{d:Bool}(f9:b≠x)(hb:KY w b (pgC t d) 191)(hx:KY w x [S s] 9):Lk Tryz.prog 92 [ptr b 0,ptr x 0] w fun v w2=>v= .tuple #[]/\KY w2 b (pgC s true) 191/\KY w2 x [S s] 9/\Kp (fun j=>j=b) w w2:=by
 replace hb:KY w b [S t,.bool d,I 0] 191:=hb
 refine KJ (e:=[(0,_),(1,_)]) Tryz.func92 rfl Tryz.ntmps92 rfl rfl (KQ rfl (An rfl (qV (KS U9 rfl rfl hx rfl) (qV (NA (parts:=[(0,.tmp 4),(1,.const (Value.bool true))]) (cs:=[_,_]) z1R rfl zcP rfl rfl) (qV (L6 rfl) (qV (KT QJ rfl) (L0 rfl (Lz (news:=[S s,.bool true]) z1R rfl rfl rfl rfl hb (by simp)) ?_)))))))
 rintro w1 ⟨bS,aM⟩
 refine py (M8 Tryz.func92 rfl ?_)
 exact⟨_,rfl,rfl,bS,aM.KN hx (fun e=>f9 e.symm),aM⟩
theorem z06 (hm:Pl w P)(hI:QQ P txt K)(hK:K<1000000000000){no:Int}(h0:0<=no)(h1:no<(P.L.length:Int)):Lk Tryz.prog 60 [ptr P.s 0,I no] w fun v w'=>v= .tuple #[S (txt no),I 0]/\∃P',Ph w P w' P'/\QQ P' txt K/\P.Same P':=by
 refine KJ (e:=[(0,_),(1,_)]) Tryz.func60 rfl Tryz.ntmps60 rfl rfl (qN rfl (KU rfl rfl (N3 (cs:=[_]) WR rfl) ?_))
 rintro _ w1 ⟨x,rfl,hx,ad,hB⟩
 have cT:=hm.r ad
 have dX:∀i,¬P.cp i x:=hm.new (by omega)
 refine KO rfl (py (run_seq (qN rfl (An rfl (La [.tmp 7] zbZ rfl (Uz cT.m hI.down) ?_)))))
 rintro _ w1 ⟨rfl,rfl⟩
 refine KO rfl (qM rfl (An rfl (qV (M0 rfl rfl) (py (KH rfl (It (qN rfl (An rfl (An rfl (qV (Zj (first:=[]) (caps:=[.tmp 4]) rfl rfl) (La [.tmp 12,.tmp 13,.const (Value.bool false),.tmp 14] zcW rfl (Ux cT hI hK h0 h1 none (fun t e=>by cases e) (by omega) dX hB zdi (fun w1 b t d f9 hb hx=>z38 f9 hb hx)) ?_)))))))))))
 rintro _ w2 ⟨rfl,ak,P',dz,cH,cP,xC⟩
 rw[TH] at cH
 replace ak:KY w2 x [S (txt no)] 9:=ak
 refine KO rfl (qM rfl (qV (KS U9 rfl rfl ak rfl) (An rfl (L0 rfl (Mt WR rfl rfl rfl ak (by simp)) ?_))))
 rintro w3 ⟨ao,au⟩
 replace ao:KY w3 x [S (txt no)] 9:=ao
 refine KO rfl (py (Lh Tryz.func60 (.cell1 U9 rfl rfl ((ao).cell _) (.tmp rfl .nil)) ?_))
 exact⟨_,rfl,rfl,P',dz.loc au (fun j e=>by rw[show j=x from e];exact⟨.inr (by omega),xC⟩),cH,cP⟩
theorem z3M (hm:Pl w P)(hI:QQ P txt K)(hK:K<1000000000000){no:Int}(h0:0<=no)(h1:no<(P.L.length:Int))(t:Bytes)(ht:t.length=512):Lk Tryz.prog 61 [ptr P.s 0,I no,S t] w fun v w'=>v=I 0/\∃P',Ph w P w' P'/\QQ P' (TJ txt no (some t)) (K+1)/\P.Same P':=by
 refine KJ (e:=[(0,_),(1,_),(2,_)]) Tryz.func61 rfl Tryz.ntmps61 rfl rfl (qN rfl (KU rfl rfl (MH rfl (cs:=[S t]) rfl) ?_))
 rintro _ w1 ⟨x,rfl,hx,ad,hB⟩
 have cT:=hm.r ad
 have dX:∀i,¬P.cp i x:=hm.new (by omega)
 refine KO rfl (py (run_seq (qN rfl (An rfl (La [.tmp 8] zbZ rfl (Uz cT.m hI.down) ?_)))))
 rintro _ w1 ⟨rfl,rfl⟩
 refine KO rfl (qM rfl (An rfl (qV (M0 rfl rfl) ?_)))
 have hg:=Ext.Lb w1
 refine py (KH rfl (It (run_seq (run_seq (KV (fun w'=>Ext w1 w') (by kernel_rfl) rfl (qT 0 rfl (fun _ h=>KS U9 rfl rfl (h.KN hB) rfl) hg (KR 1 rfl (R1 U9 rfl) hg (KR 2 rfl (KW rfl) hg (O2 3 [.tmp 15] rfl YT rfl (Vr (cT.m.ext' hg) hI.N) ?_)))))))))
 rintro _ w2 ⟨rfl,rfl⟩
 refine⟨hg,?_⟩
 refine KR 4 rfl (M0 rfl rfl) hg (PA (qE (KH rfl (It (qN rfl (An rfl (An rfl (qV (Zj (first:=[]) (caps:=[.tmp 5]) rfl rfl) (La [.tmp 18,.tmp 19,.const (Value.bool true),.tmp 20] zcW rfl (Ux (cT.ext hg) hI hK h0 h1 (some t) (fun s e=>by cases e;exact ht) (by omega) dX (hg.KN hB) zd6 (fun w1 b t2 d f9 hb hx=>z1b f9 hb hx)) ?_)))))))))
 rintro _ w2 ⟨rfl,ak,P',dz,cH,cP,xC⟩
 refine KO rfl (py (KP Tryz.func61 rfl ?_))
 exact⟨_,rfl,rfl,P',dz,cH,cP⟩
theorem z0N (hm:Pl w P){a n:Nat}(hp:ZX P.L a)(cG:1<=n)(ob:a+n<=P.L.length):Lk Tryz.prog 45 [ptr P.s 0,I (n:Int)] w fun v w'=>v= .tuple #[.agg #[I (a:Int),I (n:Int)],I 0]/\Ph w P w' {P with L:=Mz P.L a n true}:=by
 refine KJ (e:=[(0,_),(1,_)]) Tryz.func45 rfl Tryz.ntmps45 rfl rfl (qN rfl (KU rfl rfl (N3 (cs:=[_,_]) Nh rfl) ?_))
 rintro _ w1 ⟨x,rfl,hx,ad,hB⟩
 have cT:=hm.r ad
 have dX:∀i,¬P.cp i x:=hm.new (by omega)
 have jd:=cT.m.cells
 refine KO rfl (py (run_seq (qN rfl (An rfl (qV (LQ S4 rfl rfl) (py (KH rfl (It (qN rfl (An rfl (qV (L6 rfl) (qV (KT z04 rfl) (qV (KS Wo rfl rfl jd rfl) ?_)))))))))))))
 refine An rfl (La [.tmp 12,.tmp 13] zd3 rfl (Zz cT.m.ext hp cG ob) ?_)
 rintro _ w2 ⟨rfl,dP,am⟩
 have dz:=cT.exM dP am
 have ak:=am.KN hB (fun e=>dX 2 (.inr e))
 refine qV (Lu (v:= .agg #[I (a:Int),I (n:Int)]) rfl rfl) (qV (Lu (v:=I 0) rfl rfl) (L0 rfl (Lz (news:=[I (a:Int),I (n:Int)]) Nh rfl rfl rfl rfl ak (by simp)) ?_))
 rintro w3 ⟨ao,au⟩
 replace ao:KY w3 x [I (a:Int),I (n:Int)] 97:=ao
 refine KO rfl (py (Lh Tryz.func45 (.cell YE rfl Nh rfl (KY.cells (n:=2) ao (news:=[_,_]) rfl) rfl (.tmp rfl .nil)) ?_))
 refine⟨_,rfl,rfl,dz.loc au (fun j e=>by
  rw[show j=x from e];refine⟨.inr (by omega),fun i e2=>?_⟩
  match i,e2 with
  |0,e2=>exact dX 0 e2
  |1,e2=>exact dX 1 e2
  |2,e2=>exact dX 2 e2
  |3,e2=>exact dX 3 e2
  |4,e2=>exact dX 4 e2
  |5,e2=>exact dX 5 e2)⟩
theorem QQ.Mg (h:QQ P txt K){L':List Bool}(hl:L'.length=P.L.length):QQ {P with L:=L'} txt K:=
 ⟨h.aok,h.asz,h.keys,h.nd,fun g hg=>by rw[hl];exact h.rng g hg,h.tx,h.cl,fun x h0 h1=>by rw[hl] at h1;exact h.out x h0 h1,fun x h0 h1=>by rw[hl] at h1;exact h.len x h0 h1,h.down,h.due,h.B.trans hl.symm,h.N,h.ca,h.cc,h.Nz⟩
theorem z3S {d m gi:Nat}{L:List Bool}{Fd:Nat->Prop}(hd:R0 w d (Dev.fresh L.length 1) Fd)(he:Sj w m gi L)(zh:¬Fd m/\¬Fd gi)(n:Nat)(cG:1<=n)(j5:n<=1000):Lk Tryz.prog 23 [ptr d 0,I (n:Int),ptr m 0] w fun v w'=>∃P,v= .tuple #[ptr P.s 0,I 0]/\Pl w' P/\QQ P (fun _=>zeros 512) 0/\P.m=m/\P.gi=gi/\P.L=L/\(∀b,P.fp b->Fd b\/b=m\/b=gi\/w.heap.size<=b)/\Ext w w':=by
 refine KJ (e:=[(0,_),(1,_),(2,_)]) Tryz.func23 rfl Tryz.ntmps23 rfl rfl (qN rfl (KO rfl (KO rfl (py (run_seq (KL (qN rfl (An rfl (qV (LQ ZY rfl rfl) (An rfl (An rfl (qV (LQ Wo rfl rfl) (qV (Ls rfl rfl) ?_)))))))))))))
 refine KO rfl (py (KH rfl (qN rfl (An rfl (qV (LX rfl rfl) (Ly (An rfl (An rfl (qV (LU rfl rfl) (Ly (qV (Ls rfl rfl) (KO rfl (py ?_)))))))))))))
 refine KH rfl (It (KM (qN rfl (An rfl (La [.tmp 25] zda rfl (z4I n cG (by omega) w) ?_)))))
 rintro _ w1 ⟨c,V,p,rfl,kh,il,ad⟩
 refine An rfl (qV (Lu (v:=ptr c 0) rfl rfl) (qV (Lu (v:=I 0) rfl rfl) (KO rfl (KO rfl (py (Ll.qb (e:=[(0,_),(1,_),(2,_),(6,_),(7,_),(8,_),(9,_)]) ?_))))))
 refine run_seq (qN rfl (An rfl (qV (M0 rfl rfl) (py (KH rfl (It (qN rfl (An rfl (An rfl (An rfl (KU rfl rfl (pmm) ?_)))))))))))
 rintro _ w2 ⟨pm,rfl,Ie,af,cy⟩
 have lS:NJ KI w2 pm []:=NJ.new cy
 have lpm:=lS.lt
 refine An rfl (qV (NA (parts:=[(0,.tmp 36)]) (cs:=[_,_,_,_,_,_,_]) z9o rfl zef rfl rfl) (qV (NA (parts:=[(0,.tmp 32),(1,.tmp 33),(2,.tmp 34),(3,.tmp 35),(4,.tmp 37)]) (cs:=[_,_,_,_,_,_,_,_,_,_,_,_]) ze5 rfl zdY rfl rfl) (KU rfl rfl (MH rfl (cs:=plC ⟨0,d,m,gi,c,pm,p,n,V,Dev.fresh L.length 1,z1e n,[],L,Fd,0,0,0⟩) rfl) ?_)))
 rintro _ w3 ⟨s,rfl,hs,ah,ao⟩
 refine KO rfl (KO rfl (py (KP Tryz.func23 rfl ?_)))
 have z1:=ad.size
 have z2:=af.size
 have dO:=af.trans ah
 have cE:=ad.trans dO
 have mu:=kh.ext dO
 have D3:∀{b:Nat},NI c V p b->b<w1.heap.size:=kh.lt
 have D4:=hd.lt
 have ltm:=he.ltm
 have ltg:=he.ltg
 refine⟨_,rfl,⟨s,d,m,gi,c,pm,p,n,V,Dev.fresh L.length 1,z1e n,[],L,Fd,0,0,0⟩,rfl,⟨ao,hd.ext cE,he.ext cE,mu,lS.ext ah,(fun g hg=>by cases hg),List.nodup_nil,?_⟩,⟨z7m cG,j5,fun x=>?_,List.nodup_nil,(fun g hg=>by cases hg),(fun g hg=>by cases hg),(fun g hg=>by cases hg),fun x _ _ _=>rfl,fun x _ _=>by simp[zeros],rfl,rfl,rfl,rfl,Int.le_refl _,Nat.le_refl _,Nat.zero_le _⟩,rfl,rfl,rfl,fun b ⟨i,hb⟩=>?_,cE⟩
 ·intro i j ne b hb bT
  have cls:∀i,N1.cp ⟨s,d,m,gi,c,pm,p,n,V,Dev.fresh L.length 1,z1e n,[],L,Fd,0,0,0⟩ i b->(i=0/\b=s)\/(i=1/\Fd b/\b<w.heap.size)\/(i=2/\(b=m\/b=gi)/\b<w.heap.size)\/(i=3/\w.heap.size<=b/\b<w1.heap.size)\/(i=4/\b=pm):=fun i hb=>by
   match i,hb with
   |0,e=>exact .inl ⟨rfl,e⟩
   |1,e=>exact .inr (.inl ⟨rfl,e,D4 b e⟩)
   |2,e=>exact .inr (.inr (.inl ⟨rfl,e,by have e':b=m\/b=gi:=e;omega⟩))
   |3,e=>exact .inr (.inr (.inr (.inl ⟨rfl,il b e,D3 e⟩)))
   |4,e=>exact .inr (.inr (.inr (.inr ⟨rfl,e⟩)))
   |5,⟨g,hg,e⟩=>cases hg
  have h1:=cls i hb;have h2:=cls j bT;rcases h1 with⟨e,h1⟩|⟨e,h1,tG⟩|⟨e,h1,tG⟩|⟨e,h1,tG⟩|⟨e,h1⟩<;>rcases h2 with⟨f,h2⟩|⟨f,h2,Fs⟩|⟨f,h2,Fs⟩|⟨f,h2,Fs⟩|⟨f,h2⟩<;>first|omega|skip
  ·rcases h2 with e| e
   ·exact zh.1 (e▸h1)
   ·exact zh.2 (e▸h1)
  ·rcases h1 with e| e
   ·exact zh.1 (e▸h2)
   ·exact zh.2 (e▸h2)
 ·constructor
  ·intro e;cases e
  ·intro e;rcases e with e|e<;>cases e
 ·match i,hb with
  |0,e=>exact .inr (.inr (.inr (by have:b=s:=e;omega)))
  |1,e=>exact .inl e
  |2,e=>rcases e with e|e;exact .inr (.inl e);exact .inr (.inr (.inl e))
  |3,e=>exact .inr (.inr (.inr (il b e)))
  |4,e=>exact .inr (.inr (.inr (by have:b=pm:=e;omega)))
  |5,⟨g,hg,e⟩=>cases hg
end
theorem z3R {l:List (Int×Bytes)}{n:Int}{t:Bytes}(h:Rl l n=some t):∃x∈l,x.2=t:=by
 unfold Rl at h
 obtain⟨x,hx,e⟩:=Option.map_eq_some_iff.1 h
 exact⟨x,List.mem_reverse.1 (List.mem_of_find?_eq_some hx),e⟩
theorem Dev.Ok.z7r {D:Dev}(h:D.Ok)(n:Int):(D.now n).length=512*D.N:=by
 unfold Dev.now
 cases hl:Rl D.cache n with
 |none=>exact h.kept n
 | some t =>
   obtain⟨x,hx,rfl⟩:=z3R hl;exact(h.cache x hx).2.2
section
variable {w w' w0:World}{P P0 P':N1}{S':Nat->Prop}{txt:Int->Bytes}{K:Nat}
theorem QQ.z9X (h:QQ P txt K)(av:P.D.Ok){k:Int}:QQ {P with A:=P.A.drop k,l:=dropPg P.l k} (fun x=>if x=k then P.D.now k else txt x) K:=by
 have hk:=VR h.nd k
 have dg:=NV P.l k
 have bu:=Arc.z3d h.aok k
 have Fp:=h.ca
 have CO:=h.cc
 have sG:N8 (dropPg P.l k)<=N8 P.l:=dg.countP_le
 have fQ:∀q∈dropPg P.l k,q∈P.l/\q.k≠k:=fun q hq=>⟨dg.subset hq,((hk q.k).1 (List.mem_map.2 ⟨q,hq,rfl⟩)).2⟩
 refine⟨h.aok.drop k,h.asz,fun x=>by dsimp only;rw[hk,bu,h.keys],(dg.map _).nodup h.nd,fun q hq=>h.rng q (fQ q hq).1,fun q hq=>?_,fun q hq hd=>?_,fun x h0 h1 hx=>?_,fun x h0 h1=>?_,h.down,h.due,h.B,h.N,by dsimp only;omega,by dsimp only;omega,h.Nz⟩
 ·rw[if_neg (fQ q hq).2];exact h.tx q (fQ q hq).1
 ·rw[if_neg (fQ q hq).2];exact h.cl q (fQ q hq).1 hd
 ·dsimp only at h1 hx⊢;rw[bu,not_and] at hx;by_cases e:x=k
  ·rw[if_pos e,e]
  ·rw[if_neg e];exact h.out x h0 h1 fun e2=>hx e2 e
 ·dsimp only at h1⊢;by_cases e:x=k
  ·rw[if_pos e,av.z7r,h.N]
  ·rw[if_neg e];exact h.len x h0 h1
theorem QQ.W1 (h:QQ P txt K)(hA:P'.A=P.A)(hl:P'.l=P.l)(hD:P'.D=P.D)(hL:P'.L=P.L):QQ P' txt K:=by
 obtain⟨a1,a2,a3,a4,a5,a6,a7,a8,a9,b1,b2,b3,b4,b5,b6,b7⟩:=h
 constructor<;>simp only[hA,hl,hD,hL]<;>assumption
theorem Pl.dok (h:Pl w P):P.D.Ok:=by
 obtain⟨m,kp,ca,h1,-⟩:=h.dev
 exact h1.ok
theorem z3P (l:List Pg)(k:Int):(k∉l.map (·.k)/\getL (PO l) k=none)\/∃q∈l,q.k=k/\getL (PO l) k=some (ptr q.b 0):=by
 induction l with
 |nil=>exact .inl ⟨by simp,rfl⟩
 | cons g l ih =>
   show _\/_;by_cases h:k=g.k
   ·exact .inr ⟨g,List.mem_cons_self,h.symm,if_pos h⟩
   ·have e:getL (PO (g::l)) k=getL (PO l) k:=if_neg h;rw[e];rcases ih with⟨a,b⟩|⟨q,a,b,c⟩
    ·exact .inl ⟨by simp[h] at a⊢;exact a,b⟩
    ·exact .inr ⟨q,List.mem_cons_of_mem _ a,b,c⟩
theorem z0D (hm : Pl w P)(hI : QQ P txt K){s n : Nat}(cG : 1 <= n)(gS : s + n <= P.L.length) : Lk Tryz.prog 83 [ptr P.s 0, .agg #[I (s : Int), I (n : Int)]] w fun v w' => v = I 0 /\ ∃ P' txt', Ph w P w' P' /\ QQ P' txt' K /\ (∀ x : Int, x < (s : Int) \/ (s : Int) + (n : Int) <= x -> txt' x = txt x) /\ P.Same P' := by
 have dS:=hm.ext.n
 have jd:=hm.cells
 refine KJ (e:=[(0,_),(1,_)]) Tryz.func83 rfl Tryz.ntmps83 rfl rfl (qN rfl (KU rfl rfl (MH rfl (cs:=[I (s:Int),I (n:Int)]) rfl) ?_))
 rintro _ w1 ⟨b3,rfl,dZ,ad,ao⟩
 have cT:=hm.r ad
 have kZ:∀i,¬P.cp i b3:=hm.new (by omega)
 have ig:=ad.KN jd
 have hg:=Ext.Lb w1
 have eN:=Rr (cT.m.dev.ext hg)
 rw[hI.B] at eN
 refine KO rfl (py (run_seq (KL (qN rfl (An rfl (qV (LQ S4 rfl rfl) (KO rfl (py (KH rfl (qN rfl (An rfl (qV (L6 rfl) (qV (KT z5X rfl) ?_)))))))))))))
 refine qV (KS U4 rfl rfl ig rfl) (KO rfl (py (KH rfl (run_seq (KV (fun w'=>Ext w1 w') (by kernel_rfl) rfl (KR 0 rfl (KT MS rfl) hg (qT 1 rfl (fun _ h=>(by first|exact KS U3 rfl rfl (h.KN ao) rfl|exact KS U3 rfl rfl (h.KN ig) rfl)) hg ?_)))))))
 refine KR 2 rfl (LX rfl rfl) hg (PA (KR 3 rfl (KW rfl) hg (KR 4 rfl (KT MN rfl) hg (qT 5 rfl (fun _ h=>(by first|exact KS U3 rfl rfl (h.KN ao) rfl|exact KS U3 rfl rfl (h.KN ig) rfl)) hg ?_))))
 refine KR 6 rfl (LX rfl rfl) hg (PA (KR 7 rfl (Ls rfl rfl) hg (KR 8 rfl (KW rfl) hg (KR 9 rfl (KT MN rfl) hg (qT 10 rfl (fun _ h=>(by first|exact KS U3 rfl rfl (h.KN ao) rfl|exact KS U3 rfl rfl (h.KN ig) rfl)) hg ?_)))))
 refine KR 11 rfl (KW rfl) hg (KR 12 rfl (L6 rfl) hg (KR 13 rfl (KT R8 rfl) hg (qT 14 rfl (fun _ h=>(by first|exact KS ZY rfl rfl (h.KN ao) rfl|exact KS ZY rfl rfl (h.KN ig) rfl)) hg ?_)))
 refine O2 15 [.tmp 31] rfl YD rfl (eN) ?_
 rintro _ w2 ⟨rfl,rfl⟩
 refine⟨hg,?_⟩
 refine KR 16 rfl (Ou rfl rfl) hg (PA (KR 17 rfl (Ls rfl rfl) hg (KR 18 rfl (KW rfl) hg (KR 19 rfl (KT MS rfl) hg (qT 20 rfl (fun _ h=>(by first|exact KS U3 rfl rfl (h.KN ao) rfl|exact KS U3 rfl rfl (h.KN ig) rfl)) hg ?_)))))
 refine KR 21 rfl (KW rfl) hg (KR 22 rfl (L6 rfl) hg (KR 23 rfl (KT R8 rfl) hg (qT 24 rfl (fun _ h=>(by first|exact KS ZY rfl rfl (h.KN ao) rfl|exact KS ZY rfl rfl (h.KN ig) rfl)) hg ?_)))
 refine KR 26 rfl (KT MN rfl) hg (qT 27 rfl (fun _ h=>(by first|exact KS U3 rfl rfl (h.KN ao) rfl|exact KS U3 rfl rfl (h.KN ig) rfl)) hg ?_)
 refine O2 25 [.tmp 41] rfl YD rfl (eN) ?_
 rintro _ w2 ⟨rfl,rfl⟩
 refine⟨hg,?_⟩
 refine KR 28 rfl (Md rfl rfl (by omega)) hg (KR 29 rfl (LU rfl rfl) hg (PA (KR 30 rfl (Ls rfl rfl) hg (KR 31 rfl (MO rfl) hg ?_))))
 obtain⟨w2,lU⟩:∃w2,w1.drew=w2:=⟨_,rfl⟩
 rw[lU] at hg⊢
 have cV:=hg.KN ao
 have dz:=cT.ext hg
 have iS:=hg.KN ig
 have l3:=cV.lt
 refine qE (Ll.qb (e:=[(0,_),(3,_),(4,_),(16,_)]) ?_)
 refine KH rfl (It (KM (run_seq (qN rfl (qV (KT MS rfl) (qV (KS U3 rfl rfl cV rfl) (An rfl (py (KL (MV (α:=Nat) (0) (fun i=>[(0,ptr P.s 0),(3,ptr b3 0),(49,I (n:Int)),(50,I (i:Int))]) (fun i w'=>Ext w2 w'/\i<=n) (fun i=>n-i) ?hI ?hround))))))))))
 case hI=>exact⟨Ext.refl _,Nat.zero_le _⟩
 case hround =>
  rintro i w3 ⟨ah,hi⟩ ih;have bX:=dz.ext ah;have iR:=ah.KN iS;have cZ:=ah.KN cV;have ag:=Ext.Lb w3
  try dsimp only
  refine qN rfl (qV (LX rfl rfl) (py (run_seq (KZ rfl (fun h0=>?_) (fun h0=>?_)))))
  ·refine It (run_seq (KL (qN rfl (An rfl (KO rfl (py (run_seq (KV (fun w'=>Ext w3 w') (by kernel_rfl) rfl (KR 0 rfl (KW rfl) ag (KR 1 rfl (L6 rfl) ag (KR 2 rfl (KT Ss rfl) ag (qT 3 rfl (fun _ h=>(by first|exact KS Yg rfl rfl (h.KN cZ) rfl|exact KS Yg rfl rfl (h.KN iR) rfl)) ag ?_))))))))))));refine KR 4 rfl (KT MN rfl) ag (qT 5 rfl (fun _ h=>(by first|exact KS U3 rfl rfl (h.KN cZ) rfl|exact KS U3 rfl rfl (h.KN iR) rfl)) ag ?_);refine KR 6 rfl (KW rfl) ag (KR 7 rfl (PM rfl rfl (by omega)) ag ?_);rw[show(s:Int)+(i:Int)=((s+i:Nat):Int) by omega];refine qT 8 rfl (fun _ hS=>ylk (k:=((s+i:Nat):Int)) (K:=KI) Yg (Ng U3) z5R rfl rfl (bX.m.ext' hS).mp.l) ag ?_;rcases z3P P.l ((s+i:Nat):Int) with⟨-,dW⟩|⟨q,hq,-,dW⟩
   ·rw[dW];refine KR 9 rfl (MO rfl) ag (qE (qN rfl (An rfl (qV (ZB zaQ rfl rfl) (An rfl (qS (qS (qS (qS (qS (qV (Ls rfl rfl) (py (KH rfl ?_)))))))))))));refine It (KM (KQ rfl (LH rfl rfl (An rfl (py ?_)))));exact(ih (i+1) _ ⟨ah.trans ag,by omega⟩ (by omega)).qb
   ·rw[dW];have pR:=(ag.KN (bX.m.pg q hq):KY w3.drew q.b [S q.t,.bool q.d,I 0] 191);refine KR 9 rfl (MO rfl) ag (qE (qN rfl (An rfl (qV (ZB zaQ rfl rfl) (An rfl (An rfl (qV (L6 rfl) (qV (KT z6K rfl) (qV (KS U3 rfl rfl pR rfl) (qV (LU rfl rfl) (Ly (qV (LR rfl rfl) (py ?_)))))))))))));refine KH rfl (It (KM (KQ rfl (LH rfl rfl (An rfl (py ?_))))));exact(ih (i+1) _ ⟨ah.trans ag,by omega⟩ (by omega)).qb
  ·have aW : i = n := by omega
   subst aW;refine KX rfl (run_seq (qN rfl (qV (KT MS rfl) (qV (KS U3 rfl rfl cZ rfl) (An rfl (py (KL (MV (α:=Nat×N1×(Int->Bytes)) ((0,P,txt)) (fun y=>[(0,ptr P.s 0),(3,ptr b3 0),(73,I (i:Int)),(74,I (y.1:Int))]) (fun y w'=>Ph w P w' y.2.1/\QQ y.2.1 y.2.2 K/\y.1<=i/\P.Same y.2.1/\(∀x:Int,x<(s:Int)\/(s:Int)+(i:Int)<=x->y.2.2 x=txt x)/\KY w' b3 [I (s:Int),I (i:Int)] 97/\∀j,¬y.2.1.cp j b3) (fun y=>i-y.1) ?hI ?hround))))))))
   case hI=>exact⟨bX,hI,Nat.zero_le _,⟨rfl,rfl,rfl,rfl,rfl,rfl,rfl,rfl,rfl⟩,fun x _=>rfl,cZ,kZ⟩
   case hround =>
    rintro⟨j,Pj,tj⟩ w4 ⟨bC,jK,hj,bY,io,cB,nh⟩ ih2;dsimp only at bC jK hj bY io cB nh ih2⊢;have fS:=bC.m.cells;rw[bY.s] at fS;have ae:=Ext.Lb w4;have dG:=Ext.Lb w4.drew
    try dsimp only
    refine qN rfl (qV (LX rfl rfl) (py (run_seq (KZ rfl (fun h2=>?_) (fun h2=>?_)))))
    ·refine It (run_seq (KL (qN rfl (An rfl (KO rfl (py (run_seq (Le [8] (fun w'=>Ext w4 w') (by kernel_rfl) rfl (qL [1,2,3,8] 0 rfl (fun _ h=>KW rfl) ae (qL [2,3,8] 1 rfl (fun _ h=>L6 rfl) ae (qL [3,8] 2 rfl (fun _ h=>KT Ss rfl) ae (qL [8] 3 rfl (fun _ h=>(by first|exact KS Yg rfl rfl (h.KN cB) rfl|exact KS Yg rfl rfl (h.KN fS) rfl)) ae ?_))))))))))));refine qL [5,7,8] 4 rfl (fun _ h=>KT MN rfl) ae (qL [7,8] 5 rfl (fun _ h=>(by first|exact KS U3 rfl rfl (h.KN cB) rfl|exact KS U3 rfl rfl (h.KN fS) rfl)) ae ?_);refine qL [7,8] 6 rfl (fun _ h=>KW rfl) ae (qL [8] 7 rfl (fun _ h=>PM rfl rfl (by omega)) ae (LD [8] (by kernel_rfl) (by kernel_rfl) ?_));rw[show(s:Int)+(j:Int)=((s+j:Nat):Int) by omega];refine qO 8 (z6a (i:=8) rfl rfl (z9C (k:=((s+j:Nat):Int)) (K:=KI) Yg (Ng U3) rfl rfl (bC.ext ae).m.mp rfl) ?_);rintro _ w5 ⟨na,aj⟩;refine⟨trivial,?_⟩;rw[Xn] at na;have bU:=(bC.ext ae).del (NV _ _) na aj;have bN:=aj.KN (ae.KN cB) (nh 4);have jT:=bU.m.cells;dsimp only at jT;rw[bY.s] at jT;have df:=Ext.Lb w5;have cn:=bU.ext df;refine qE (Le [8] (fun w'=>Ext w5 w') (by kernel_rfl) rfl (qL [1,2,3,8] 0 rfl (fun _ h=>KW rfl) df (qL [2,3,8] 1 rfl (fun _ h=>L6 rfl) df (qL [3,8] 2 rfl (fun _ h=>KT z5n rfl) df (qL [8] 3 rfl (fun _ h=>(by first|exact KS U89 rfl rfl (h.KN bN) rfl|exact KS U89 rfl rfl (h.KN jT) rfl)) df ?_)))));refine qL [5,7,8] 4 rfl (fun _ h=>KT MN rfl) df (qL [7,8] 5 rfl (fun _ h=>(by first|exact KS U3 rfl rfl (h.KN bN) rfl|exact KS U3 rfl rfl (h.KN jT) rfl)) df ?_);refine qL [7,8] 6 rfl (fun _ h=>KW rfl) df (qL [8] 7 rfl (fun _ h=>PM rfl rfl (by omega)) df (LD [8] (by kernel_rfl) (by kernel_rfl) ?_));rw[show(s:Int)+(j:Int)=((s+j:Nat):Int) by omega];refine O2 8 [.tmp 88,.tmp 92] rfl za0 rfl (z3s cn.m.arc (k:=((s+j:Nat):Int))) ?_;rintro _ w6 ⟨⟨z,rfl⟩,V6,qt⟩;refine⟨trivial,?_⟩;have xy:=cn.arc qt;have gO:=qt.k.KN (df.KN bN) (nh 3);refine qE (KM (KQ rfl (LH rfl rfl (An rfl (py ((ih2 (j+1,_,_) _ ⟨xy,(jK.z9X bC.m.dok (k:=((s+j:Nat):Int))).W1 rfl rfl rfl rfl,by dsimp only;omega,⟨bY.s,bY.d,bY.m,bY.gi,bY.c,bY.pm,bY.p,bY.fr,bY.L⟩,fun x hx=>?_,gO,fun i2 e=>?_⟩ (by dsimp only;omega)).qb))))))
     ·show(if x=((s+j:Nat):Int) then Pj.D.now ((s+j:Nat):Int) else tj x)=txt x;rw[if_neg (by omega)];exact io x hx
     ·match i2,e with
      |0,e=>exact nh 0 e
      |1,e=>exact nh 1 e
      |2,e=>exact nh 2 e
      | 3, e =>
        rcases qt.fp b3 e with e| e
        ·exact nh 3 e
        ·have:=(df.KN bN).lt;omega
      |4,e=>exact nh 4 e
      |5,⟨q,hq,e⟩=>exact nh 5 ⟨q,(NV _ _).subset hq,e⟩
    ·have qe:j=i:=by omega
     subst qe;refine KX rfl (qN rfl (KO rfl (py (KP Tryz.func83 rfl ?_))));exact⟨_,rfl,rfl,Pj,tj,bC,jK,io,bY⟩
theorem z0F (hm:Pl w P)(hI:QQ P txt K){s n:Nat}(cG:1<=n)(cP:2<=s)(gS:s+n<=P.L.length)(hc:∀i,s<=i->i<s+n->P.L[i]? =some true):Lk Tryz.prog 52 [ptr P.s 0,.agg #[I (s:Int),I (n:Int)]] w fun v w'=>v=I 0/\∃P' txt',Ph w P w' {P' with L:=Mz P.L s n false}/\QQ {P' with L:=Mz P.L s n false} txt' K/\(∀x:Int,x<(s:Int)\/(s:Int)+(n:Int)<=x->txt' x=txt x)/\P.Same P':=by
 refine KJ (e:=[(0,_),(1,_)]) Tryz.func52 rfl Tryz.ntmps52 rfl rfl (qN rfl (KU rfl rfl (MH rfl (cs:=[I (s:Int),I (n:Int)]) rfl) ?_))
 rintro _ w1 ⟨b3,rfl,dZ,ad,ao⟩
 have cT:=hm.r ad
 have kZ:∀i,¬P.cp i b3:=hm.new (by omega)
 refine KO rfl (py (run_seq (qN rfl (An rfl (qV (Lj (news:=[I (s:Int),I (n:Int)]) YE rfl Nh rfl (KY.cells (n:=2) ao rfl) rfl) (La [.tmp 6,.tmp 7] zdL rfl (z0D cT.m hI cG gS) ?_))))))
 rintro _ w2 ⟨rfl,P',txt',dz,cH,io,bY⟩
 have l3:=ao.lt
 have cV:=dz.k.KN ao (fun⟨i,e⟩=>kZ i e)
 have sL:=cT.trans dz
 have iS:=sL.m.cells
 rw[bY.s] at iS
 refine KO rfl (qM rfl (An rfl (qV (M0 rfl rfl) ?_)))
 have aa:=Ext.Lb w2
 have kw:=(sL.ext aa).m.ext
 rw[bY.L] at kw
 refine py (KH rfl (It (run_seq (Le [5,6] (fun w'=>Ext w2 w') (by kernel_rfl) rfl (qL [1,2,3,5,6] 0 rfl (fun _ h=>KW rfl) aa (qL [2,3,5,6] 1 rfl (fun _ h=>L6 rfl) aa (qL [3,5,6] 2 rfl (fun _ h=>KT z04 rfl) aa (qL [5,6] 3 rfl (fun _ h=>KS Wo rfl rfl (h.KN iS) rfl) aa (qL [5,6] 4 rfl (fun _ h=>Lj (news:=[I (s:Int),I (n:Int)]) YE rfl Nh rfl (KY.cells (n:=2) (h.KN cV) rfl) rfl) aa (LD [5] (by kernel_rfl) (by kernel_rfl) (O2 5 [.tmp 15,.tmp 16] rfl zdr rfl (z1l kw s n cG cP gS hc) ?_)))))))))))
 rintro _ w3 ⟨rfl,EQ,aw⟩
 refine⟨trivial,?_⟩
 have bX:=(sL.ext aa).exM EQ aw
 refine KR 6 rfl (MO rfl) trivial (qE (KP Tryz.func52 rfl ?_))
 exact⟨_,rfl,rfl,P',txt',bX,cH.Mg (by rw[My gS,bY.L]),io,bY⟩
end
def Sp (Q:N1)(txt:Int->Bytes)(K:Nat)(X:Nat->Prop)(w:World):Prop:=∃P,Pl w P/\QQ P txt K/\Q.Same P/\∀b,P.fp b->¬X b
section
variable {w w' w0:World}{Q Q' P P':N1}{X Y S':Nat->Prop}{txt txt':Int->Bytes}{K K':Nat}
theorem Sp.step (h:Sp Q txt K X w)(hk:Kp S' w w')(hS:∀b,S' b->X b)(hY:∀b,Y b->X b\/w.heap.size<=b):Sp Q txt K Y w':=by
 obtain⟨P,hm,hI,hs,hf⟩:=h
 refine⟨P,hm.kp hk fun b hb e=>hf b hb (hS b e),hI,hs,fun b hb e=>?_⟩
 rcases hY b e with e| e
 ·exact hf b hb e
 ·have:=hm.lt hb;omega
theorem Sp.ext (h:Sp Q txt K X w)(hx:Ext w w')(hY:∀b,Y b->X b\/w.heap.size<=b):Sp Q txt K Y w':=h.step (S':=fun _=>False) hx (fun _ e=>e.elim) hY
theorem Sp.ext' (h:Sp Q txt K X w)(hx:Ext w w'):Sp Q txt K X w':=h.ext hx fun _ e=> .inl e
theorem Sp.own (h:Sp Q txt K X w)(hk:Kp S' w w')(hS:∀b,S' b->X b):Sp Q txt K X w':=h.step hk hS fun _ e=> .inl e
theorem Sp.of (hf:∀b,P.fp b->¬X b)(hX:∀b,X b->b<w.heap.size)(hr:Ph w P w' P')(hI:QQ P' txt' K')(hs:Q'.Same P'):Sp Q' txt' K' X w'/\Kp (fun b=>¬X b) w w':=
 ⟨⟨P',hr.m,hI,hs,fun b hb e=>by
  rcases hr.fp b hb with h| h
  ·exact hf b h e
  ·have:=hX b e;omega⟩,hr.k.L2 hf⟩
theorem QQ.more (h:QQ P txt K)(hK:K<=K'):QQ P txt K':=by
 obtain⟨a1,a2,a3,a4,a5,a6,a7,a8,a9,b1,b2,b3,b4,b5,b6,b7⟩:=h
 exact⟨a1,a2,a3,a4,a5,a6,a7,a8,a9,b1,b2,b3,b4,by omega,by omega,b7⟩
theorem Sp.more (h:Sp Q txt K X w)(hK:K<=K'):Sp Q txt K' X w:=by
 obtain⟨P,hm,hI,hs,hf⟩:=h
 exact⟨P,hm,hI.more hK,hs,hf⟩
theorem Sp.less (h:Sp Q txt K X w)(hY:∀b,Y b->X b):Sp Q txt K Y w:=by
 obtain⟨P,hm,hI,hs,hf⟩:=h
 exact⟨P,hm,hI,hs,fun b hb e=>hf b hb (hY b e)⟩
theorem Sp.size (h:Sp Q txt K X w):Lk Tryz.prog 44 [ptr Q.s 0] w fun v w'=>v=I 512/\w'=w:=by
 obtain⟨P,hm,hI,hs,-⟩:=h
 rw[<-hs.s]
 exact Vr hm hI.N
theorem Sp.dev (h:Sp Q txt K X w):Lk Tryz.prog 109 [ptr Q.s 0] w fun v w'=>v=ptr Q.d 0/\w'=w:=by
 obtain⟨P,hm,hI,hs,-⟩:=h
 rw[<-hs.s,<-hs.d]
 exact z3m hm
theorem Sp.blocks (h:Sp Q txt K X w):Lk Tryz.prog 110 [ptr Q.d 0] w fun v w'=>v=I (Q.L.length:Int)/\w'=w:=by
 obtain⟨P,hm,hI,hs,-⟩:=h
 have hb:=Rr hm.dev
 rw[hI.B] at hb
 rw[<-hs.d,<-hs.L]
 exact hb
theorem Sp.map (h:Sp Q txt K X w):Lk Tryz.prog 17 [ptr Q.s 0] w fun v w'=>v=ptr Q.m 0/\w'=w:=by
 obtain⟨P,hm,hI,hs,-⟩:=h
 rw[<-hs.s,<-hs.m]
 exact z30 hm
theorem Sp.room (h:Sp Q txt K X w){a:Nat}(hp:ZX Q.L a)(ha:a<Q.L.length):Lk Tryz.prog 18 [ptr Q.m 0] w fun v w'=>v=I ((Q.L.length-a:Nat):Int)/\Ext w w':=by
 obtain⟨P,hm,hI,hs,-⟩:=h
 rw[<-hs.m]
 rw[<-hs.L] at hp ha⊢
 exact z18 hm.ext hp ha
theorem Sp.W8 (h:Sp Q txt K X w){x:Int}(h0:0<=x)(h1:x<(Q.L.length:Int)):(txt x).length=512:=by
 obtain⟨P,hm,hI,hs,-⟩:=h
 exact hI.len x h0 (by rw[hs.L];exact h1)
theorem Sp.n (h:Sp Q txt K X w):Q.L.length<=4096:=by
 obtain⟨P,hm,hI,hs,-⟩:=h
 rw[<-hs.L]
 exact hm.ext.n
theorem Sp.read (h:Sp Q txt K X w)(hX:∀b,X b->b<w.heap.size)(hK:K<1000000000000){no:Int}(h0:0<=no)(h1:no<(Q.L.length:Int)):Lk Tryz.prog 60 [ptr Q.s 0,I no] w fun v w'=>v= .tuple #[S (txt no),I 0]/\Sp Q txt K X w'/\Kp (fun b=>¬X b) w w':=by
 obtain⟨P,hm,hI,hs,hf⟩:=h
 rw[<-hs.s]
 refine(z06 hm hI hK h0 (by rw[hs.L];exact h1)).mono fun v w' ⟨hv,P',hr,xD,pq⟩=>⟨hv,Sp.of hf hX hr xD (hs.trans pq)⟩
theorem Sp.write (h:Sp Q txt K X w)(hX:∀b,X b->b<w.heap.size)(hK:K<1000000000000){no:Int}(h0:0<=no)(h1:no<(Q.L.length:Int))(t:Bytes)(ht:t.length=512):Lk Tryz.prog 61 [ptr Q.s 0,I no,S t] w fun v w'=>v=I 0/\Sp Q (TJ txt no (some t)) (K+1) X w'/\Kp (fun b=>¬X b) w w':=by
 obtain⟨P,hm,hI,hs,hf⟩:=h
 rw[<-hs.s]
 refine(z3M hm hI hK h0 (by rw[hs.L];exact h1) t ht).mono fun v w' ⟨hv,P',hr,xD,pq⟩=>⟨hv,Sp.of hf hX hr xD (hs.trans pq)⟩
def N1.Mg (Q:N1)(L:List Bool):N1:={Q with L:=L}
theorem N1.Same.Mg (h:Q.Same P)(L:List Bool):(Q.Mg L).Same {P with L:=L}:=⟨h.s,h.d,h.m,h.gi,h.c,h.pm,h.p,h.fr,rfl⟩
theorem Sp.take (h:Sp Q txt K X w)(hX:∀b,X b->b<w.heap.size){a n:Nat}(hp:ZX Q.L a)(cG:1<=n)(ob:a+n<=Q.L.length):Lk Tryz.prog 45 [ptr Q.s 0,I (n:Int)] w fun v w'=>v= .tuple #[.agg #[I (a:Int),I (n:Int)],I 0]/\Sp (Q.Mg (Mz Q.L a n true)) txt K X w'/\Kp (fun b=>¬X b) w w':=by
 obtain⟨P,hm,hI,hs,hf⟩:=h
 rw[<-hs.s]
 rw[<-hs.L] at hp ob
 refine(z0N hm hp cG ob).mono fun v w' ⟨hv,hr⟩=>⟨hv,?_⟩
 rw[<-hs.L]
 exact Sp.of hf hX hr (hI.Mg (by rw[My ob])) (hs.Mg _)
theorem Sp.zdx (h:Sp Q txt K X w)(hX:∀b,X b->b<w.heap.size){s n:Nat}(cG:1<=n)(cP:2<=s)(gS:s+n<=Q.L.length)(hc:∀i,s<=i->i<s+n->Q.L[i]? =some true):Lk Tryz.prog 52 [ptr Q.s 0,.agg #[I (s:Int),I (n:Int)]] w fun v w'=>v=I 0/\∃txt',Sp (Q.Mg (Mz Q.L s n false)) txt' K X w'/\(∀x:Int,x<(s:Int)\/(s:Int)+(n:Int)<=x->txt' x=txt x)/\Kp (fun b=>¬X b) w w':=by
 obtain⟨P,hm,hI,hs,hf⟩:=h
 rw[<-hs.s]
 rw[<-hs.L] at gS hc
 refine(z0F hm hI cG cP gS hc).mono fun v w' ⟨hv,P',txt',hr,xD,io,pq⟩=>⟨hv,txt',?_⟩
 obtain⟨h1,h2⟩:=Sp.of hf hX hr xD ((hs.trans pq).Mg _)
 rw[<-hs.L]
 exact⟨h1,io,h2⟩
end
end Go.Proofs.YtpldpcjdjcgicaaGreatDoor
namespace Go.Proofs.YtpldpcjdjcgicaaGreatDoor
open Go Go.Proofs Go.Shelf
set_option linter.all false
def ZW:Go.Shelf.Ren:=⟨fun|105=>55|212=>85|99=>86|165=>87|166=>64|170=>88|169=>65|263=>119|264=>120|206=>121|240=>95|241=>122|276=>134|277=>156|n=>n,fun|9=>9|3=>3|4=>4|20=>20|0=>0|46=>152|109=>182|5=>5|72=>157|76=>160|51=>46|146=>226|53=>41|148=>228|70=>155|37=>151|75=>159|127=>196|164=>247|80=>162|n=>n,fun|n=>n⟩
theorem z8P:Go.Proofs.Lays.n105 Tryz.prog ZW:={
 mixed:=by kernel_rfl
 f99:=Tryz.func86.trans (congrArg some (by kernel_rfl))
 f105:=Tryz.func55.trans (congrArg some (by kernel_rfl))
 f165:=Tryz.func87.trans (congrArg some (by kernel_rfl))
 f166:=Tryz.func64.trans (congrArg some (by kernel_rfl))
 f169:=Tryz.func65.trans (congrArg some (by kernel_rfl))
 f170:=Tryz.func88.trans (congrArg some (by kernel_rfl))
 f206:=Tryz.func121.trans (congrArg some (by kernel_rfl))
 f212:=Tryz.func85.trans (congrArg some (by kernel_rfl))
 f240:=Tryz.func95.trans (congrArg some (by kernel_rfl))
 f241:=Tryz.func122.trans (congrArg some (by kernel_rfl))
 f263:=Tryz.func119.trans (congrArg some (by kernel_rfl))
 f264:=Tryz.func120.trans (congrArg some (by kernel_rfl))
 f276:=Tryz.func134.trans (congrArg some (by kernel_rfl))
 f277:=Tryz.func156.trans (congrArg some (by kernel_rfl))
 t0:=Tryz.underlying0
 a0:=Tryz.isAgg0
 z0:=Tryz.sizeOf0
 v0:=Tryz.zeroValue0
 t3:=Tryz.underlying3
 a3:=Tryz.isAgg3
 z3:=Tryz.sizeOf3
 v3:=Tryz.zeroValue3
 t4:=Tryz.underlying4
 a4:=Tryz.isAgg4
 z4:=Tryz.sizeOf4
 v4:=Tryz.zeroValue4
 t5:=Tryz.underlying5
 a5:=Tryz.isAgg5
 z5:=Tryz.sizeOf5
 v5:=Tryz.zeroValue5
 t9:=Tryz.underlying9
 a9:=Tryz.isAgg9
 z9:=Tryz.sizeOf9
 v9:=Tryz.zeroValue9
 t20:=Tryz.underlying20
 a20:=Tryz.isAgg20
 z20:=Tryz.sizeOf20
 v20:=Tryz.zeroValue20
 t37:=Tryz.underlying151
 a37:=Tryz.isAgg151
 z37:=Tryz.sizeOf151
 v37:=Tryz.zeroValue151
 t46:=Tryz.underlying152
 a46:=Tryz.isAgg152
 z46:=Tryz.sizeOf152
 v46:=Tryz.zeroValue152
 t51:=Tryz.underlying46
 a51:=Tryz.isAgg46
 z51:=Tryz.sizeOf46
 v51:=Tryz.zeroValue46
 t53:=Tryz.underlying41
 a53:=Tryz.isAgg41
 z53:=Tryz.sizeOf41
 v53:=Tryz.zeroValue41
 t70:=Tryz.underlying155
 a70:=Tryz.isAgg155
 z70:=Tryz.sizeOf155
 v70:=Tryz.zeroValue155
 t72:=Tryz.underlying157
 a72:=Tryz.isAgg157
 z72:=Tryz.sizeOf157
 v72:=Tryz.zeroValue157
 t75:=Tryz.underlying159
 a75:=Tryz.isAgg159
 z75:=Tryz.sizeOf159
 v75:=Tryz.zeroValue159
 t76:=Tryz.underlying160
 a76:=Tryz.isAgg160
 z76:=Tryz.sizeOf160
 v76:=Tryz.zeroValue160
 t109:=Tryz.underlying182
 a109:=Tryz.isAgg182
 z109:=Tryz.sizeOf182
 v109:=Tryz.zeroValue182
 t127:=Tryz.underlying196
 a127:=Tryz.isAgg196
 z127:=Tryz.sizeOf196
 v127:=Tryz.zeroValue196
 t146:=Tryz.underlying226
 a146:=Tryz.isAgg226
 z146:=Tryz.sizeOf226
 v146:=Tryz.zeroValue226
 t148:=Tryz.underlying228
 a148:=Tryz.isAgg228
 z148:=Tryz.sizeOf228
 v148:=Tryz.zeroValue228
 t164:=Tryz.underlying247
 a164:=Tryz.isAgg247
 z164:=Tryz.sizeOf247
 v164:=Tryz.zeroValue247}
end Go.Proofs.YtpldpcjdjcgicaaGreatDoor
namespace Go.Proofs.YtpldpcjdjcgicaaGreatDoor
open Go Go.RowKit Go.Shelf
set_option linter.all false
set_option maxRecDepth 100000
/-! ### A builder of strings -/
theorem z9b:Builder.Extra Tryz.prog ZW where
 sizeBuilder:=by kernel_rfl
 liesBuilder:=by kernel_rfl
 t5:=by kernel_rfl
 a5:=fun _=>by kernel_rfl
 z5:=fun _=>by kernel_rfl
 v5:=fun w=>TI.zero (w:=w) SJ
 infoByte:=by kernel_rfl
 cellsByte:=by kernel_rfl
 sizeByte:=by kernel_rfl
 neB5:=by decide
section
variable {w:World}
end
theorem z2n (l:Bytes):∀n,Lib.repeatL l n=(List.replicate n l).flatten
 |0=>rfl
 |n+1=>by rw[Lib.repeatL,z2n l n];rfl
theorem TL (l:Bytes)(n:Nat)(hl:l.length<=100)(hn:n<=1000000)(w:World):Lk Tryz.prog 55 [S l,I (n:Int)] w fun v w'=>v=S (List.replicate n l).flatten/\Ext w w':=by
 have h2:n*l.length<=1000000*100:=Nat.mul_le_mul hn hl
 have:=Any.strings_Repeat z8P z9b ⟨l.toArray⟩ n w (by omega) (by rw[NX,Nat.mul_comm];omega)
 refine Calls.mono this fun _ _ ⟨he,hw⟩=>⟨_,he,?_,Ext.z4V hw⟩
 show Value.string ⟨(Lib.repeatL l n).toArray⟩=_
 rw[z2n]
end Go.Proofs.YtpldpcjdjcgicaaGreatDoor
namespace Go.Proofs.YtpldpcjdjcgicaaGreatDoor
open Go Go.RowKit
set_option linter.all false
set_option maxRecDepth 100000
def Qg (w n:Nat):Bytes:=(List.range w).map fun k=>UInt8.ofNat (n / 2^(8*(w-1-k)))
theorem LK (w n:Nat):(Qg w n).length=w:=by simp[Qg]
theorem z58 (w n:Nat):Qg (w+1) n=UInt8.ofNat (n / 2^(8*w))::Qg w n:=by
 unfold Qg
 rw[List.range_succ_eq_map,List.map_cons,List.map_map]
 congr 1
 refine List.map_congr_left fun k hk=>?_
 show UInt8.ofNat (n / 2^(8*(w+1-1-(k+1))))=_
 rw[show w+1-1-(k+1)=w-1-k by omega]
theorem TF:∀(w n:Nat),Lc (Qg w n)=bitsN (8*w) n
 |0,n=>rfl
 | w + 1, n => by
   rw[z58,OH,TF w n,show 8*(w+1)=8+8*w by omega,N9]
   congr 1
   refine Rm ?_;have:(UInt8.ofNat (n / 2^(8*w))).toNat=n / 2^(8*w)%256:=by simp
   rw[this];omega
theorem XC {w n:Nat}(h:n<2^(8*w)):valB (Lc (Qg w n))=n:=by
 rw[TF,LJ,Nat.mod_eq_of_lt h]
theorem z7f (s:Bytes):Qg s.length (valB (Lc s))=s:=by
 have h1:Lc (Qg s.length (valB (Lc s)))=Lc s:=by
  rw[TF];have:=VE (Lc s);rw[bitsT_length] at this;exact this
 have inj : ∀ a b : Bytes, a.length = b.length -> Lc a = Lc b -> a = b := fun a => by
  induction a with
  | nil => intro b hb _; cases b with
    |nil=>rfl
    |cons=>cases hb
  | cons c a ih =>
    intro b hb he
    cases b with
    |nil=>cases hb
    | cons d b =>
      rw[OH,OH] at he;obtain⟨e1,e2⟩:=List.append_inj he (by rw[bitsN_length,bitsN_length]);rw[ih b (by simpa using hb) e2]
      congr 1
      have:=congrArg valB e1;rw[LJ,LJ] at this;have h3:=c.toNat_lt;have h4:=d.toNat_lt;exact UInt8.toNat_inj.1 (by omega)
 exact inj _ _ (LK _ _) h1
def Laid (txt:Int->Bytes)(a:Nat)(T:Bytes):Prop:=∀k,512*k<T.length->(txt ((a+k:Nat):Int)).take (T.length-512*k)=(T.drop (512*k)).take 512
section
variable {txt txt':Int->Bytes}{a n:Nat}{T:Bytes}
theorem Laid.piece (h:Laid txt a T){off n:Nat}(h1:off+n<=T.length)(h2:n<=512-off%512):((txt ((a+off / 512:Nat):Int)).drop (off%512)).take n=(T.drop off).take n:=by
 by_cases hn:n=0
 ·subst hn;simp
 have hk:=h (off / 512) (by omega)
 have e:=congrArg (fun l=>(l.drop (off%512)).take n) hk
 try dsimp only at e
 rw[List.drop_take,List.take_take,Nat.min_eq_left (by omega),List.drop_take,List.take_take,List.drop_drop,Nat.min_eq_left (by omega),show 512*(off / 512)+off%512=off by omega] at e
 exact e
theorem Laid.W1 (h:Laid txt a T)(e:∀k,512*k<T.length->txt' ((a+k:Nat):Int)=txt ((a+k:Nat):Int)):Laid txt' a T:=fun k hk=>by rw[e k hk];exact h k hk
theorem Laid.of (h:∀k,512*k<T.length->(txt ((a+k:Nat):Int)).length=512/\∃r,txt ((a+k:Nat):Int)=(T.drop (512*k)).take 512++r):Laid txt a T:=fun k hk=>by
 obtain⟨hl,r,e⟩:=h k hk
 have h1:((T.drop (512*k)).take 512).length=min 512 (T.length-512*k):=by simp
 rw[e,List.length_append,h1] at hl
 rw[e]
 by_cases hc:T.length-512*k<=512
 ·exact List.take_left' (by rw[h1];omega)
 ·have:r=[]:=List.eq_nil_of_length_eq_zero (by omega);rw[this,List.append_nil,List.take_of_length_le (by rw[h1];omega)]
end
def VcT (txt:Int->Bytes)(st width each:Nat)(xs:List Nat):Prop:=∀i x,xs[i]? =some x->((txt ((st+i / each:Nat):Int)).drop (i%each*width)).take width=Qg width x/\x<2^(8*width)
theorem Wy (a b c:Bytes){k n:Nat}(hn:k+n<=a.length):((a++b++c).drop k).take n=(a.drop k).take n:=by
 rw[List.append_assoc,List.drop_append_of_le_length (by omega),List.take_append_of_le_length (by rw[List.length_drop];omega)]
section
variable {txt txt':Int->Bytes}{st width each:Nat}{xs:List Nat}
theorem VcT.set (h:VcT txt st width each xs)(he:1<=each){i x:Nat}(hx:x<2^(8*width))(hi:i<xs.length){t:Bytes}(ht:txt ((st+i / each:Nat):Int)=t)(hl:i%each*width+width<=t.length):VcT (TJ txt ((st+i / each:Nat):Int) (some (t.take (i%each*width)++Qg width x++t.drop (i%each*width+width)))) st width each (xs.set i x):=fun j y hy=>by
 by_cases hb:j / each=i / each
 ·rw[hb,Nd];show((t.take (i%each*width)++Qg width x++t.drop (i%each*width+width)).drop (j%each*width)).take width=_/\_;have aO:(t.take (i%each*width)).length=i%each*width:=by rw[List.length_take];omega
  by_cases gI:j=i
  ·subst gI;rw[List.getElem?_set_self hi] at hy;cases hy;refine⟨?_,hx⟩;rw[List.append_assoc,List.drop_left' aO,List.take_left' (LK _ _)]
  ·rw[List.getElem?_set_ne (fun e=>gI e.symm)] at hy;obtain⟨h1,h2⟩:=h j y hy;refine⟨?_,h2⟩;rw[hb,ht] at h1;rw[<-h1];have o5:=Nat.div_add_mod i each;have ma:=Nat.div_add_mod j each;rw[hb] at ma;have bG:j%each≠i%each:=fun e=>gI (by omega);rcases Nat.lt_or_gt_of_ne bG with oh|Kn
   ·have hm:(j%each+1)*width<=i%each*width:=Nat.mul_le_mul_right _ (by omega);rw[Nat.add_mul,Nat.one_mul] at hm;rw[Wy _ _ _ (by omega),List.drop_take,List.take_take,Nat.min_eq_left (by omega)]
   ·have hm:(i%each+1)*width<=j%each*width:=Nat.mul_le_mul_right _ (by omega);rw[Nat.add_mul,Nat.one_mul] at hm;rw[List.drop_append,List.drop_of_length_le (by rw[List.length_append,aO,LK];omega),List.nil_append,List.length_append,aO,LK,List.drop_drop,show i%each*width+width+(j%each*width-(i%each*width+width))=j%each*width by omega]
 ·have gI:j≠i:=fun e=>hb (by rw[e]);rw[List.getElem?_set_ne (fun e=>gI e.symm)] at hy;rw[MJ _ _ (by omega)];exact h j y hy
theorem Vz {l z:Bytes}{w:Nat}(hl:l.length=w):∀(e k:Nat),k<e->(((List.replicate e l).flatten++z).drop (k*w)).take w=l
 |0,k,h=>by omega
 | e + 1, 0, h => by
   rw[Nat.zero_mul,List.drop_zero,List.replicate_succ,List.flatten_cons,List.append_assoc]
   exact List.take_left' hl
 | e + 1, k + 1, h => by
   rw[List.replicate_succ,List.flatten_cons,List.append_assoc,List.drop_append,List.drop_of_length_le (by rw[hl,Nat.add_mul];omega),List.nil_append,hl,Nat.add_mul,Nat.one_mul,Nat.add_sub_cancel];exact Vz hl e k (by omega)
theorem VcT.fill {n x:Nat}(hx:x<2^(8*width))(he:1<=each)(h:∀i,i<n->∃z,txt ((st+i / each:Nat):Int)=(List.replicate each (Qg width x)).flatten++z):VcT txt st width each (List.replicate n x):=fun i y hy=>by
 rw[List.getElem?_replicate] at hy
 split at hy
 ·rename_i hi
  cases hy;obtain⟨z,e⟩:=h i hi;rw[e];exact⟨Vz (LK _ _) each _ (Nat.mod_lt _ he),hx⟩
 ·cases hy
end
end Go.Proofs.YtpldpcjdjcgicaaGreatDoor
