/- Merged by program. -/
import Derived.Test.YtpldpcjdjcgicaaGreatDoorBTp6
import Derived.Shelf.Strings.Repeat
import Derived.Test.YtpldpcjdjcgicaaGreatDoorProg
set_option linter.all false
set_option maxRecDepth 1000000
set_option maxHeartbeats 16000000
namespace Go.Proofs.YtpldpcjdjcgicaaGreatDoor
open Go Go.RowKit
theorem Arc.Ok.zdc {A:Arc}(h:A.Ok):(A.Ni 2 (A.M8.drop 1)).Ok:=by
 have hs:(A.Ni 2 (A.M8.drop 1)).all.Sublist A.all:=(((List.drop_sublist 1 A.M8).append_right A.M5).append_left A.often).append_left A.once
 have:=h.first
 have h2:=hs.length_le
 have h3:=h.total
 exact⟨h.pos,h.nd.sublist hs,h.held,by show A.once.length+(A.M8.drop 1).length<=A.size;rw[List.length_drop];omega,Nat.le_trans h2 h3,h.tg⟩
theorem Arc.Ok.zca {A:Arc}(h:A.Ok):(A.Ni 3 (A.M5.drop 1)).Ok:=by
 have hs:(A.Ni 3 (A.M5.drop 1)).all.Sublist A.all:=(((List.drop_sublist 1 A.M5).append_left A.M8).append_left A.often).append_left A.once
 exact⟨h.pos,h.nd.sublist hs,h.held,h.first,Nat.le_trans hs.length_le h.total,h.tg⟩
section
variable {w w' w2:World}{c p:Nat}{A A' A2:Arc}{V V' V2:Nat->Value×Value}{S:Nat->Prop}{k:Int}
theorem P5.head (h:P5 w c A V p){j:Nat}(hj:j<4){x:Int}{r:List Int}(hl:A.li j=x::r):∃b o cp,(V j).1= .slice (some ⟨b,o,none⟩) (A.li j).length cp/\w.cell? ⟨b,o+0*1,none⟩=some (I x):=by
 have hR:=(h.q j hj).sl.rd
 rcases hR.2 with⟨c,hc,h0⟩|⟨b,off,c',hc,-⟩
 ·rw[hl] at h0;simp at h0
 ·rw[hc] at hR;exact⟨b,off,c',hc,MX hR (i:=0) (by rw[hl];rfl)⟩
theorem XU (h:P5 w c A V p)(hA:A.Ok)(cz:A.size<=1000):Mm Tryz.prog 161 [ptr c 0] w λv w'=>v=z9h false A.add.2/\∃V',So w c V p w' A.add.1 V':=by
 have rW:=hA.lens cz 0
 have jZ:=hA.lens cz 1
 have iH:=hA.lens cz 2
 have mj:=hA.lens cz 3
 have gX:=hA.pos
 have gE:=A.Np
 have ut:=hA.held
 have Lk:=hA.first
 have eD:=hA.total
 have aP:∀{b:Nat},OY c V p b->b<w.heap.size:=h.lt
 rw[show A.li 0=A.once from rfl] at rW
 rw[show A.li 1=A.often from rfl] at jZ
 rw[show A.li 2=A.M8 from rfl] at iH
 rw[show A.li 3=A.M5 from rfl] at mj
 have hB:=h.cells
 obtain⟨a0,c0,e0,-⟩:∃a c,(V 0).1= .slice a A.once.length c/\_:=(h.q 0 (by decide)).sl.rd.shape
 obtain⟨a1,c1,e1,-⟩:∃a c,(V 1).1= .slice a A.often.length c/\_:=(h.q 1 (by decide)).sl.rd.shape
 obtain⟨a2,c2,e2,-⟩:∃a c,(V 2).1= .slice a A.M8.length c/\_:=(h.q 2 (by decide)).sl.rd.shape
 obtain⟨a3,c3,e3,-⟩:∃a c,(V 3).1= .slice a A.M5.length c/\_:=(h.q 3 (by decide)).sl.rd.shape
 rw[e0,e1,e2,e3] at hB
 refine It (e:=[(0,_)]) Tryz.func161 rfl Tryz.ntmps161 rfl rfl (qN rfl (LV rfl rfl (O9 (cs:=[_,_,_]) Mr rfl) ?_))
 rintro _ w1 ⟨b2,rfl,bY,ad,am⟩
 replace am:LX w1 b2 [.bool false,.bool false,I 0] 232:=am
 have n2:∀b,OY c V p b->b≠b2:=λb hb e=>by have:=aP hb;omega
 have ai:=ad.LN hB
 have aG:=Ext.Ma w1
 refine LO (run_seq (NF (λw'=>Ext w1 w') rfl (M9 0 rfl rfl (aG) (LS 1 rfl (MS rfl) aG (LS 2 rfl (Mo N8 rfl) aG (LS 3 rfl (Mo MQ rfl) aG (qT 4 rfl (λ_ h=>LR NQ rfl rfl (h.LN ai) rfl) aG (LS 5 rfl (OZ NQ rfl) aG (M9 6 rfl rfl (aG) (LS 7 rfl (MS rfl) aG (LS 8 rfl (Mo Nl rfl) aG (LS 9 rfl (Mo MQ rfl) aG (qT 10 rfl (λ_ h=>LR NQ rfl rfl (h.LN ai) rfl) aG ?_)))))))))))))
 refine LS 11 rfl (OZ NQ rfl) aG (LS 12 rfl (R9 rfl rfl (by omega)) aG (LS 13 rfl (NK rfl) aG (qE (run_seq ?_))))
 rw[show(A.once.length:Int)+(A.M8.length:Int)=((A.once.length+A.M8.length:Nat):Int) by omega]
 have aa:=Ext.Ma w1.drew
 have kk:=aG.LN ai
 refine NF (λw'=>Ext w1.drew w') rfl (M9 0 rfl rfl (aa) (M9 1 rfl rfl (aa) (LS 2 rfl (MS rfl) aa (LS 3 rfl (Mo NM rfl) aa (LS 4 rfl (Mo MQ rfl) aa (qT 5 rfl (λ_ h=>LR NQ rfl rfl (h.LN kk) rfl) aa (LS 6 rfl (OZ NQ rfl) aa (LS 7 rfl (R9 rfl rfl (by omega)) aa (M9 8 rfl rfl (aa) (LS 9 rfl (MS rfl) aa (LS 10 rfl (Mo NH rfl) aa (LS 11 rfl (Mo MQ rfl) aa (qT 12 rfl (λ_ h=>LR NQ rfl rfl (h.LN kk) rfl) aa ?_)))))))))))))
 refine LS 13 rfl (OZ NQ rfl) aa (LS 14 rfl (R9 rfl rfl (by omega)) aa (LS 15 rfl (NK rfl) aa ?_))
 rw[show((A.once.length+A.M8.length:Nat):Int)+(A.often.length:Int)+(A.M5.length:Int)=(A.all.length:Int) by omega]
 have af:=(ad.trans aG).trans aa
 obtain⟨w2,kT⟩:∃w2,w1.drew.drew=w2:=⟨_,rfl⟩
 rw[kT] at af
 have aD:=aG.trans aa
 rw[kT] at aD⊢
 have h2:=h.ext af
 have js:=h2.cells
 rw[e0,e1,e2,e3] at js
 have i9:=aD.LN am
 have ag:=Ext.Ma w2
 refine qE (Mn.qb (e:=[(0,_),(2,_),(3,_),(4,_)]) ?_)
 refine run_seq (MA (λe' w'=>e'=[(0,ptr c 0),(2,ptr b2 0)]/\∃A' V',A'.Ok/\A'.size=A.size/\So w2 c V p w' A' V'/\LX w' b2 [.bool false,.bool false,I 0] 232/\A.add=A'.room false/\w2.heap.size<=w'.heap.size) ?eV (λeV=>?kl))
 case eV=>
  rintro e' w3 ⟨rfl,A',V',tc,xO,c6,aq,dB,z3⟩;refine qN rfl (LM rfl (Mb X5 rfl (PT c6.m tc (by omega) false) ?_));rintro _ w4 ⟨rfl,V4,bD⟩;have hr:=c6.trans bD
  have n3:∀b,OY c V' p b->b≠b2:=λb hb e=>by
   rcases c6.fp b hb with h5|h5
   ·exact n2 b h5 e
   ·have:=i9.lt;omega
  have n4:∀b,OY c V4 p b->b≠b2:=λb hb e=>by
   rcases hr.fp b hb with h5|h5
   ·exact n2 b h5 e
   ·have:=i9.lt;omega
  have ep:=bD.k.LN aq (λe=>n3 _ e rfl);obtain⟨g,hg⟩:∃g,(A'.room false).2=g:=⟨_,rfl⟩;rw[hg];refine M1 rfl (MD (news:=O0 false g) Mr rfl rfl rfl rfl ep (by simp)) ?_;rintro w5 ⟨cF,aj⟩;replace cF:LX w5 b2 [.bool false,.bool g.isSome,I (g.getD 0)] 232:=cF;refine LO (Mj Tryz.func161 (.cell OW rfl Mr rfl (LX.cells (n:=3) cF (news:=[_,_,_]) rfl) rfl .nil) ?_);rw[dB,hg];have z1:=ad.size;have z2:=af.size;exact⟨_,rfl,rfl,V4,hr.m.kp aj n4,λb hb=>(hr.fp b hb).imp id (λe=>by omega),(af.kp.trans hr.k).LJ aj (λj e=> .inl (by omega))⟩
 case kl =>
  have e13:(A.all.length:Int)=(A.all.length:Int):=rfl;have h3:=h2.ext ag;have pL:=ag.LN js;have cA:=ag.LN i9;have z1:=ad.size;have z2:=af.size;by_cases hf:A.once.length+A.M8.length=A.size
  ·by_cases ho:A.once.length<A.size
   ·refine LK (run_seq (NF (λw'=>Ext w2 w') rfl (M9 0 rfl rfl (ag) (M9 1 rfl rfl (ag) (LS 2 rfl (MS rfl) ag (LS 3 rfl (Mo OO rfl) ag (qT 4 rfl (λ_ h=>LR U3 rfl rfl (h.LN js) rfl) ag (LS 5 rfl (ZT rfl rfl) ag (Qq (M9 6 rfl rfl (ag) (M9 7 rfl rfl (ag) (LS 8 rfl (MS rfl) ag (LS 9 rfl (Mo N8 rfl) ag ?_)))))))))))));refine LS 10 rfl (Mo MQ rfl) ag (qT 11 rfl (λ_ h=>LR NQ rfl rfl (h.LN js) rfl) ag (LS 12 rfl (OZ NQ rfl) ag (M9 13 rfl rfl (ag) (LS 14 rfl (MS rfl) ag (LS 15 rfl (Mo OO rfl) ag (qT 16 rfl (λ_ h=>LR U3 rfl rfl (h.LN js) rfl) ag (LS 17 rfl (XF rfl rfl) ag (Qq (LS 18 rfl (Rx rfl rfl) ag (LS 19 rfl (NK rfl) ag (qE (M3 rfl ?_))))))))))))
    obtain⟨x,r,hw⟩:∃x r,A.M8=x::r:=by
     cases hx:A.M8 with
     |nil=>rw[hx] at hf;simp at hf;omega
     |cons x r=>exact⟨x,r,rfl⟩
    obtain⟨lb,lo,lc,xP,-⟩:=h2.head (j:=2) (by decide) hw;rw[e2] at xP;cases xP;have dw:=(h3.q 2 (by decide)).sl.rd;rw[e2] at dw;have qU:0<A.M8.length:=by rw[hw];simp
    have il:((A.li 2).map I)[0]? =some (I x):=by show(A.M8.map I)[0]? =_;rw[hw];rfl
    have ae:=Ext.Ma w2.drew;refine Me [10] (λw'=>Ext w2.drew w') (by kernel_rfl) rfl (qL [1,2,10] 0 rfl (λ_ h=>My rfl) ae (qL [2,10] 1 rfl (λ_ h=>MS rfl) ae (qL [10] 2 rfl (λ_ h=>Mo Nl rfl) ae (qL [4,5,6,7,8,9,10] 3 rfl (λ_ h=>My rfl) ae (qL [5,6,7,8,9,10] 4 rfl (λ_ h=>MS rfl) ae (qL [6,7,8,9,10] 5 rfl (λ_ h=>Mo Nl rfl) ae (qL [7,8,9,10] 6 rfl (λ_ h=>Mo MQ rfl) ae (qL [8,9,10] 7 rfl (λ_ h=>LR NQ rfl rfl (h.LN (ag.LN js)) rfl) ae (qL [9,10] 8 rfl (λ_ h=>MN NQ MO rfl rfl (by omega)) ae (qL [10] 9 rfl (λ_ h=>Mt U3 rfl rfl (MX (dw.ext h) (i:=0) il)) ae (Pv [10] (Pw 10 rfl P9 rfl (MT (h3.ext ae) (j:=2) (k:=x) (by decide)) ?_))))))))))));rintro _ w5 ⟨rfl,V5,bZ⟩;refine⟨trivial,?_⟩;have xQ:(A.li 2).erase x=A.M8.drop 1:=by show A.M8.erase x=A.M8.drop 1;rw[hw];simp
    rw[xQ] at bZ;have eS:=(h2.r (ag.trans ae)).trans bZ;have cF:=eS.k.LN i9 (λe=>n2 _ e rfl);refine qE (Mn.qb (e:=[(0,_),(2,_)]) ?_);refine LL ?_;exact(eV _ _ ⟨rfl,_,V5,hA.zdc,(Wr A (j:=2) (by decide) _).1,eS,cF,by unfold Arc.add;rw[if_pos hf,if_pos ho];rfl,eS.k.size⟩).qb
   ·refine LK (run_seq (NF (λw'=>Ext w2 w') rfl (M9 0 rfl rfl (ag) (M9 1 rfl rfl (ag) (LS 2 rfl (MS rfl) ag (LS 3 rfl (Mo OO rfl) ag (qT 4 rfl (λ_ h=>LR U3 rfl rfl (h.LN js) rfl) ag (LS 5 rfl (ZT rfl rfl) ag (Qq (M9 6 rfl rfl (ag) (M9 7 rfl rfl (ag) (LS 8 rfl (MS rfl) ag (LS 9 rfl (Mo N8 rfl) ag ?_)))))))))))));refine LS 10 rfl (Mo MQ rfl) ag (qT 11 rfl (λ_ h=>LR NQ rfl rfl (h.LN js) rfl) ag (LS 12 rfl (OZ NQ rfl) ag (M9 13 rfl rfl (ag) (LS 14 rfl (MS rfl) ag (LS 15 rfl (Mo OO rfl) ag (qT 16 rfl (λ_ h=>LR U3 rfl rfl (h.LN js) rfl) ag (LS 17 rfl (XF rfl rfl) ag (QG (LS 18 rfl (Rx rfl rfl) ag (LS 19 rfl (NK rfl) ag (qE (An rfl (qN rfl ?_)))))))))))));refine M4 rfl rfl (Mp rfl (M0 OO rfl (qV (LR U3 rfl rfl pL rfl) (NS rfl rfl (O8 (LU rfl (Mn.qb (e:=[(0,_),(2,_),(4,_),(66,_)]) ?_)))))));refine M3 rfl (qN rfl (M4 rfl rfl (Mp rfl (M0 N8 rfl ?_))))
    obtain⟨x,r,hw⟩:∃x r,A.once=x::r:=by
     cases hx:A.once with
     |nil=>rw[hx] at ho;simp at ho;omega
     |cons x r=>exact⟨x,r,rfl⟩
    have f0:=RQ h3 (j:=0) (by decide);rw[show A.li 0=A.once from rfl,show TE A.once= .tuple #[I x,.bool true] by rw[hw];rfl] at f0;obtain⟨w3,pM⟩:∃w3,w2.drew=w3:=⟨_,rfl⟩;rw[pM] at f0 h3 cA ag⊢;refine Mb Ux rfl (f0) ?_;rintro _ w3 ⟨rfl,rfl⟩;refine LM rfl (qV (NO (v:=I x) rfl rfl) (qV (NO (v:= .bool true) rfl rfl) (M6 rfl (M6 rfl (qM rfl (LM rfl (Mp rfl (M0 N8 rfl (LM rfl (Mb P9 rfl (MT h3 (j:=0) (k:=x) (by decide)) ?_))))))))));rintro _ w5 ⟨rfl,V5,bZ⟩;have xQ:(A.li 0).erase x=A.once.drop 1:=by show A.once.erase x=A.once.drop 1;rw[hw];simp
    rw[xQ] at bZ;have eS:=(h2.r ag).trans bZ;have cF:=eS.k.LN i9 (λe=>n2 _ e rfl);refine qM rfl (LM rfl (qV (OJ (cs:=[_,_,_]) Mr rfl Sg rfl rfl) (M1 rfl (MD (news:=O0 false (some x)) Mr rfl rfl rfl rfl cF (by simp)) ?_)));rintro w6 ⟨bK,aR⟩;replace bK:LX w6 b2 [.bool false,.bool true,I x] 232:=bK;refine LO (Mj Tryz.func161 (.cell OW rfl Mr rfl (LX.cells (n:=3) bK (news:=[_,_,_]) rfl) rfl .nil) ?_)
    have n5:∀b,OY c V5 p b->b≠b2:=λb hb e=>by
     rcases eS.fp b hb with h5|h5
     ·exact n2 b h5 e
     ·have:=i9.lt;omega
    have dB:A.add=(A.Ni 0 (A.once.drop 1),some x):=by unfold Arc.add;rw[if_pos hf,if_neg ho,hw];rfl
    rw[dB];exact⟨_,rfl,rfl,V5,eS.m.kp aR n5,λb hb=>(eS.fp b hb).imp id (λe=>by omega),(af.kp.trans eS.k).LJ aR (λj e=> .inl (by omega))⟩
  ·refine LK (run_seq (NF (λw'=>Ext w2 w') rfl (M9 0 rfl rfl (ag) (M9 1 rfl rfl (ag) (LS 2 rfl (MS rfl) ag (LS 3 rfl (Mo OO rfl) ag (qT 4 rfl (λ_ h=>LR U3 rfl rfl (h.LN js) rfl) ag (LS 5 rfl (ZT rfl rfl) ag (QG (M9 6 rfl rfl (ag) (qJ 7 rfl (ag) (qJ 8 rfl (ag) (qJ 9 rfl (ag) ?_)))))))))))));refine qJ 10 rfl (ag) (qJ 11 rfl (ag) (qJ 12 rfl (ag) (qJ 13 rfl (ag) (qJ 14 rfl (ag) (qJ 15 rfl (ag) (qJ 16 rfl (ag) (qJ 17 rfl (ag) (LS 18 rfl (R8 rfl rfl) ag (LS 19 rfl (NK rfl) ag (qE (An rfl (qN rfl (M4 rfl rfl ?_)))))))))))));refine Mp rfl (M0 OO rfl (qV (LR U3 rfl rfl pL rfl) (NS rfl rfl (MC (LU rfl (Mn.qb (e:=[(0,_),(2,_),(4,_),(66,_)]) ?_))))));refine An rfl (qN rfl (M4 rfl rfl (Mp rfl (M0 OO rfl (qV (LR U3 rfl rfl pL rfl) ?_)))));by_cases h4:A.all.length<A.size
   ·refine Nr rfl rfl (O8 (LU rfl (M3 rfl (qN rfl (qV (OJ (cs:=[_,_,_]) Mr rfl Sg rfl rfl) (M1 rfl (MD (news:=O0 false none) Mr rfl rfl rfl rfl cA (by simp)) ?_))))));rintro w5 ⟨cF,aj⟩;replace cF:LX w5 b2 [.bool false,.bool false,I 0] 232:=cF;refine LO (Mj Tryz.func161 (.cell OW rfl Mr rfl (LX.cells (n:=3) cF (news:=[_,_,_]) rfl) rfl .nil) ?_);have dB:A.add=(A,none):=by unfold Arc.add;rw[if_neg hf,if_pos h4]
    rw[dB];exact⟨_,rfl,rfl,V,h3.kp aj n2,λb hb=> .inl hb,((af.trans ag).LJ aj (λj e=>by omega)).kp⟩
   ·refine Nr rfl rfl (MC (LU rfl (An rfl (qN rfl (M4 rfl rfl (Mp rfl (M0 OO rfl (qV (LR U3 rfl rfl pL rfl) (qV (SV rfl rfl (by omega)) ?_)))))))));by_cases h5:A.all.length=2*A.size
    ·refine NS rfl rfl (O8 (LU rfl (M3 rfl ?_)))
     obtain⟨x,r,hw⟩:∃x r,A.M5=x::r:=by
      cases hx:A.M5 with
      |nil=>rw[hx] at gE;simp at gE;omega
      |cons x r=>exact⟨x,r,rfl⟩
     obtain⟨lb,lo,lc,xP,-⟩:=h2.head (j:=3) (by decide) hw;rw[e3] at xP;cases xP;have dw:=(h3.q 3 (by decide)).sl.rd;rw[e3] at dw;have qU:0<A.M5.length:=by rw[hw];simp
     have il:((A.li 3).map I)[0]? =some (I x):=by show(A.M5.map I)[0]? =_;rw[hw];rfl
     have ae:=Ext.Ma w2.drew;refine Me [10] (λw'=>Ext w2.drew w') (by kernel_rfl) rfl (qL [1,2,10] 0 rfl (λ_ h=>My rfl) ae (qL [2,10] 1 rfl (λ_ h=>MS rfl) ae (qL [10] 2 rfl (λ_ h=>Mo NH rfl) ae (qL [4,5,6,7,8,9,10] 3 rfl (λ_ h=>My rfl) ae (qL [5,6,7,8,9,10] 4 rfl (λ_ h=>MS rfl) ae (qL [6,7,8,9,10] 5 rfl (λ_ h=>Mo NH rfl) ae (qL [7,8,9,10] 6 rfl (λ_ h=>Mo MQ rfl) ae (qL [8,9,10] 7 rfl (λ_ h=>LR NQ rfl rfl (h.LN (ag.LN js)) rfl) ae (qL [9,10] 8 rfl (λ_ h=>MN NQ MO rfl rfl (by omega)) ae (qL [10] 9 rfl (λ_ h=>Mt U3 rfl rfl (MX (dw.ext h) (i:=0) il)) ae (Pv [10] (Pw 10 rfl P9 rfl (MT (h3.ext ae) (j:=3) (k:=x) (by decide)) ?_))))))))))));rintro _ w5 ⟨rfl,V5,bZ⟩;refine⟨trivial,?_⟩;have xQ:(A.li 3).erase x=A.M5.drop 1:=by show A.M5.erase x=A.M5.drop 1;rw[hw];simp
     rw[xQ] at bZ;have eS:=(h2.r (ag.trans ae)).trans bZ;have cF:=eS.k.LN i9 (λe=>n2 _ e rfl);refine qE (Mn.qb (e:=[(0,_),(2,_)]) ?_);refine LL ?_;exact(eV _ _ ⟨rfl,_,V5,hA.zca,(Wr A (j:=3) (by decide) _).1,eS,cF,by unfold Arc.add;rw[if_neg hf,if_neg h4,if_pos h5];rfl,eS.k.size⟩).qb
    ·refine NS rfl rfl (MC (LU rfl (An rfl (py (LL ?_)))));exact(eV _ _ ⟨rfl,A,V,hA,rfl,h2.r ag,cA,by unfold Arc.add;rw[if_neg hf,if_neg h4,if_neg h5],ag.size⟩).qb
end
section
variable {w w' w2:World}{c p:Nat}{A A' A2:Arc}{V V' V2:Nat->Value×Value}{S:Nat->Prop}{k:Int}
theorem P5.Vg (h:P5 w c A V p){T:Int}(hB:LX w' c (acC A.size T V p) 167)(hk:Kp (λb=>b=c) w w'):So w c V p w' {A with target:=T} V:=
 ⟨⟨hB,λj hj=>by
  have e:({A with target:=T}:Arc).li j=A.li j:=by match j,hj with|0,_|1,_|2,_|3,_=>rfl
  rw[e]
  exact(h.q j hj).kp hk λb hb e=>h.nc j hj (e▸hb),hk.map h.pins (λe=>h.cp e.symm),h.RT,h.nc,h.np,h.cp⟩,λb hb=> .inl hb,hk.LZ λb e=> .inl e⟩
theorem Arc.Ok.Vg (h:A.Ok){T:Int}(hT:0<=T/\T<=A.size):({A with target:=T}:Arc).Ok:=⟨h.pos,h.nd,h.held,h.first,h.total,hT⟩
theorem So.mono (h:So w c V p w' A' V'){b:Nat}(hb:∀j,OY c V p j->j≠b)(hw:b<w.heap.size):∀j,OY c V' p j->j≠b:=λj hj e=>by
 rcases h.fp j hj with h5|h5
 ·exact hb j h5 e
 ·omega
theorem z2w (h : P5 w c A V p)(hA : A.Ok)(cz : A.size <= 1000) : Mm Tryz.prog 125 [ptr c 0, I k] w λv w' => v = .tuple #[z9h (A.NT k).2.1 (A.NT k).2.2, I 0] /\ ∃ V', So w c V p w' (A.NT k).1 V' := by
 have jZ:=hA.lens cz 1
 have iH:=hA.lens cz 2
 have mj:=hA.lens cz 3
 have J6:=hA.tg
 have gX:=hA.pos
 have gE:=A.Np
 have eD:=hA.total
 have ft:=hA.nd
 unfold Arc.all at ft
 rw[List.nodup_append] at ft
 obtain⟨nd1,nd2,nd3⟩:=ft
 rw[List.nodup_append] at nd2
 obtain⟨nd4,nd5,nd6⟩:=nd2
 have aP:∀{b:Nat},OY c V p b->b<w.heap.size:=h.lt
 rw[show A.li 1=A.often from rfl] at jZ
 rw[show A.li 2=A.M8 from rfl] at iH
 rw[show A.li 3=A.M5 from rfl] at mj
 refine It (e:=[(0,_),(1,_)]) Tryz.func125 rfl Tryz.ntmps125 rfl rfl (qN rfl (LV rfl rfl (O9 (cs:=[_,_,_]) Mr rfl) ?_))
 rintro _ w1 ⟨b4,rfl,eA,ad,aM⟩
 replace aM:LX w1 b4 [.bool false,.bool false,I 0] 232:=aM
 have n4:∀b,OY c V p b->b≠b4:=λb hb e=>by have:=aP hb;omega
 have l4:=aM.lt
 have h1:=h.ext ad
 have z1:=ad.size
 refine LU rfl (run_seq (qN rfl (LM rfl (qV (MU U89 rfl rfl) (LO (An rfl (py (run_seq (qN rfl (M4 rfl rfl (Mb z9J rfl (Yk h1 (k:=k)) ?_)))))))))))
 rintro _ w1 ⟨rfl,rfl⟩
 by_cases bz:k∈A.once\/k∈A.often
 ·rw[decide_eq_true bz];refine LO (M3 rfl (qN rfl (LM rfl (Mp rfl (M0 N8 rfl (LM rfl (Mb P9 rfl (MT h1 (j:=0) (k:=k) (by decide)) ?_)))))));rintro _ w2 ⟨rfl,V2,dx⟩;refine qM rfl (LM rfl (Mp rfl (M0 NM rfl (LM rfl (Mb P9 rfl (MT dx.m (j:=1) (k:=k) (by decide)) ?_)))));rintro _ w3 ⟨rfl,V3,c6⟩;refine qM rfl (LM rfl (Mp rfl (M0 NM rfl (LM rfl ?_))))
  have um:k∉((A.Ni 0 ((A.li 0).erase k)).Ni 1 (((A.Ni 0 ((A.li 0).erase k)).li 1).erase k)).li 1:=by
   show k∉A.often.erase k;exact nd4.not_mem_erase
  have jB:(((A.Ni 0 ((A.li 0).erase k)).Ni 1 (((A.Ni 0 ((A.li 0).erase k)).li 1).erase k)).li 1).length<=8191:=by
   show(A.often.erase k).length<=_;have:=(List.length_erase_le:(A.often.erase k).length<=A.often.length);omega
  refine Mb PL rfl (Nn c6.m (j:=1) (k:=k) (by decide) um jB) ?_;rintro _ w4 ⟨rfl,V4,bD⟩;have hr:=(dx.trans c6).trans bD;have cq:=hr.k.LN aM (λe=>n4 _ e rfl);refine qM rfl (qV (OJ (cs:=[_,_,_]) Mr rfl Sg rfl rfl) (M1 rfl (MD (news:=O0 true none) Mr rfl rfl rfl rfl cq (by simp)) ?_));rintro w5 ⟨aJ,aj⟩;replace aJ:LX w5 b4 [.bool true,.bool false,I 0] 232:=aJ;refine LU rfl (Mn.qb (e:=[(0,_),(1,_),(4,_),(5,_)]) ?_);refine Mj Tryz.func125 (.cell OW rfl Mr rfl (LX.cells (n:=3) aJ (news:=[_,_,_]) rfl) rfl (.tmp rfl .nil)) ?_;have eD:A.NT k=({A with once:=A.once.erase k,often:=A.often.erase k++[k]},true,none):=by unfold Arc.NT;rw[if_pos bz]
  rw[eD];exact⟨_,rfl,rfl,V4,hr.m.kp aj (hr.mono n4 l4),λb hb=>(hr.fp b hb).imp id (λe=>by omega),(ad.kp.trans hr.k).LJ aj (λj e=> .inl (by omega))⟩
 ·rw [decide_eq_false bz]; have gL : k ∉ A.once := λe => bz (.inl e); have aK : k ∉ A.often := λe => bz (.inr e); have lG : ¬ A.held k := bz; refine LO (An rfl ?_); have f0 := RQ h1 (j := 0) (by decide); have f1 := RQ h1 (j := 1) (by decide); rw [show A.li 0 = A.once from rfl] at f0; rw [show A.li 1 = A.often from rfl] at f1
  obtain⟨v0,o0,e0,q0⟩:∃x o,TE A.once= .tuple #[I x,.bool o]/\(o=true↔A.once≠[]):=by
   cases A.once with
   |nil=>exact⟨_,_,rfl,by simp⟩
   |cons x r=>exact⟨_,_,rfl,by simp⟩
  obtain⟨v1,o1,e1,q1⟩:∃x o,TE A.often= .tuple #[I x,.bool o]/\(o=true↔A.often≠[]):=by
   cases A.often with
   |nil=>exact⟨_,_,rfl,by simp⟩
   |cons x r=>exact⟨_,_,rfl,by simp⟩
  rw[e0] at f0;rw[e1] at f1;refine py (qN rfl (M4 rfl rfl (Mp rfl (M0 N8 rfl (Mb Ux rfl (f0) ?_)))));rintro _ w1 ⟨rfl,rfl⟩;refine LM rfl (qV (NO (v:=I v0) rfl rfl) (qV (NO (v:= .bool o0) rfl rfl) (M6 rfl (M6 rfl (qM rfl (M4 rfl rfl (Mp rfl (M0 NM rfl (Mb Ux rfl (f1) ?_)))))))));rintro _ w1 ⟨rfl,rfl⟩;refine LM rfl (qV (NO (v:=I v1) rfl rfl) (qV (NO (v:= .bool o1) rfl rfl) (M6 rfl (LU rfl (Mn.qb (e:=[(0,_),(1,_),(4,_),(5,_),(7,_),(9,_)]) ?_)))));refine run_seq (qN rfl (LM rfl (Mb zal rfl (YY h1 hA cz) ?_)));rintro _ w2 ⟨rfl,af⟩;have h2:=h1.ext af;have bq:=af.LN aM;have aI:=ad.trans af;have z2:=af.size;have eF:=h2.cells;have aa:=Ext.Ma w2;obtain⟨a2,c2,e2,-⟩:∃a c,(V 2).1= .slice a A.M8.length c/\_:=(h.q 2 (by decide)).sl.rd.shape;obtain⟨a3,c3,e3,-⟩:∃a c,(V 3).1= .slice a A.M5.length c/\_:=(h.q 3 (by decide)).sl.rd.shape;rw[e2,e3] at eF;have kT:=RG h2 (j:=2) (k:=k) (by decide);have pM:=RG h2 (j:=3) (k:=k) (by decide);rw[show A.li 2=A.M8 from rfl] at kT;rw[show A.li 3=A.M5 from rfl] at pM;have n4':∀b,OY c V p b->b≠b4:=n4;have l42:b4<w2.heap.size:=by omega
  by_cases bX:A.once.length+A.often.length=A.size
  ·rw [decide_eq_true bX]
   cases Gb:o0 with
   | true =>
     subst Gb;refine M4 rfl rfl (qV ((by first|exact ML rfl|exact Oh rfl)) ?_);refine NB rfl rfl (LM rfl (qS (qS (ME rfl rfl (LO (An rfl (py (run_seq (LK (qN rfl (LM rfl (Mp rfl (M0 Nl rfl ?_)))))))))))));refine LM rfl (Mb TC rfl (kT) ?_);rintro _ w2 ⟨rfl,rfl⟩;by_cases hg:k∈A.M8
     ·rw[decide_eq_true hg];refine LU rfl (M3 rfl (run_seq ?_));have qU:0<A.M8.length:=List.length_pos_of_mem hg;obtain⟨q,hq⟩:∃q,A.M5.length / A.M8.length=q:=⟨_,rfl⟩;have gy:q<=2000:=by rw[<-hq];exact Nat.le_trans (Nat.div_le_self _ _) mj
      have mm:(A.M5.length:Int) / (A.M8.length:Int)=(q:Int):=by rw[<-hq];exact(Int.natCast_ediv _ _).symm
      refine Me [27] (λw'=>Ext w2 w') (by kernel_rfl) rfl (qL [25,26,27] 0 rfl (λ_ h=>My rfl) aa (qL [2,3,4,24,25,26,27] 1 rfl (λ_ h=>My rfl) aa (qL [3,4,24,25,26,27] 2 rfl (λ_ h=>MS rfl) aa (qL [4,24,25,26,27] 3 rfl (λ_ h=>Mo OO rfl) aa (qL [24,25,26,27] 4 rfl (λ_ h=>LR U3 rfl rfl (h.LN eF) rfl) aa (qL [6,7,8,23,24,25,26,27] 5 rfl (λ_ h=>My rfl) aa (qL [7,8,23,24,25,26,27] 6 rfl (λ_ h=>MS rfl) aa (qL [8,23,24,25,26,27] 7 rfl (λ_ h=>Mo NG rfl) aa (qL [23,24,25,26,27] 8 rfl (λ_ h=>LR U3 rfl rfl (h.LN eF) rfl) aa (qL [10,11,12,13,14,21,22,23,24,25,26,27] 9 rfl (λ_ h=>My rfl) aa (qL [11,12,13,14,21,22,23,24,25,26,27] 10 rfl (λ_ h=>MS rfl) aa (qL [12,13,14,21,22,23,24,25,26,27] 11 rfl (λ_ h=>Mo NH rfl) aa (qL [13,14,21,22,23,24,25,26,27] 12 rfl (λ_ h=>Mo MQ rfl) aa ?_)))))))))))));refine qL [14,21,22,23,24,25,26,27] 13 rfl (λ_ h=>LR NQ rfl rfl (h.LN eF) rfl) aa (qL [21,22,23,24,25,26,27] 14 rfl (λ_ h=>OZ NQ rfl) aa (qL [16,17,18,19,20,21,22,23,24,25,26,27] 15 rfl (λ_ h=>My rfl) aa (qL [17,18,19,20,21,22,23,24,25,26,27] 16 rfl (λ_ h=>MS rfl) aa (qL [18,19,20,21,22,23,24,25,26,27] 17 rfl (λ_ h=>Mo Nl rfl) aa (qL [19,20,21,22,23,24,25,26,27] 18 rfl (λ_ h=>Mo MQ rfl) aa (qL [20,21,22,23,24,25,26,27] 19 rfl (λ_ h=>LR NQ rfl rfl (h.LN eF) rfl) aa (qL [21,22,23,24,25,26,27] 20 rfl (λ_ h=>OZ NQ rfl) aa (qL [22,23,24,25,26,27] 21 rfl (λ_ h=>Tg rfl rfl ⟨by omega,by omega,by omega⟩) aa ?_))))))));rw[mm];refine qL [23,24,25,26,27] 22 rfl (λ_ h=>yma rfl rfl) aa (qL [24,25,26,27] 23 rfl (λ_ h=>R9 rfl rfl (by omega)) aa (qL [25,26,27] 24 rfl (λ_ h=>ymi rfl rfl) aa (qL [26,27] 25 rfl (λ_ h=>MS rfl) aa (qL [27] 26 rfl (λ_ h=>Mo NG rfl) aa (Pv [27] (qO 27 (Mx (i:=27) rfl rfl (NC MO rfl rfl rfl (aa.LN eF) (by simp)) ?_)))))));rintro w5 ⟨aF,aj⟩;refine⟨trivial,?_⟩;obtain⟨T,hT⟩:∃T:Int,min (A.size:Int) (A.target+max 1 (q:Int))=T:=⟨_,rfl⟩;have nC:0<=T/\T<=A.size:=by omega
      rw[hT] at aF
      replace aF:LX w5 c (acC A.size T V p) 167:=by
       show LX w5 c [I (A.size:Int),(V 0).1,(V 0).2,(V 1).1,(V 1).2,(V 2).1,(V 2).2,(V 3).1,(V 3).2,I T,.map (some p)] _;rw[e2,e3];exact aF
      have bZ:=(h2.ext aa).Vg aF aj;have aS:=hA.Vg nC;obtain⟨A5,bA⟩:∃A5:Arc,{A with target:=T}=A5:=⟨_,rfl⟩;have o5:A5.size=A.size:=by rw[<-bA]
      have nD:¬A5.held k:=by rw[<-bA];exact lG
      have qP:k∈A5.M8:=by rw[<-bA];exact hg
      rw[bA] at bZ aS;refine qE (Mn.qb (e:=[(0,_),(1,_),(4,_),(5,_)]) ?_);refine qN rfl (LM rfl (Mb X5 rfl (PT bZ.m aS (by omega) false) ?_));rintro _ w6 ⟨rfl,V6,cx⟩;have au:=Arc.PB aS false;obtain⟨r6,cn⟩:∃r,A5.room false=r:=⟨_,rfl⟩;rw[cn] at cx au⊢;obtain⟨A6,g6⟩:=r6;dsimp only at cx au⊢;have dZ:=au.perm.length_eq;have j5:=A6.Np;have nE:=A5.Np;have nF:=aS.total;have az:=((h2.r aa).trans bZ).trans cx;have bP:=az.k.LN bq (λe=>n4' _ e rfl);refine M1 rfl (MD (news:=O0 false g6) Mr rfl rfl rfl rfl bP (by simp)) ?_;rintro w7 ⟨bc,aA⟩;replace bc:LX w7 b4 [.bool false,.bool g6.isSome,I (g6.getD 0)] 232:=bc;have n46:=az.mono n4' l42;have fT:=az.m.kp aA n46;refine qM rfl (LM rfl (Mp rfl (M0 Nl rfl (LM rfl (Mb P9 rfl (MT fT (j:=2) (k:=k) (by decide)) ?_)))));rintro _ w8 ⟨rfl,V8,fm⟩
      have dC:k∉(A6.Ni 2 ((A6.li 2).erase k)).li 1:=by
       show k∉A6.often;exact λe=>nD ((au.gone k).1 (.inr e)).1
      refine LO (LQ rfl (LM rfl (Mp rfl (M0 NM rfl (LM rfl (Mb PL rfl (Nn fm.m (j:=1) (k:=k) (by decide) dC (by show A6.often.length<=_;omega)) ?_))))));rintro _ w9 ⟨rfl,V9,gG⟩;have aZ:=fm.trans gG;have bO:=aZ.k.LN bc (λe=>n46 _ e rfl);have eG:=bO
      have co:∀b,OY c V9 p b->OY c V p b\/w2.heap.size<=b:=λb hb=>by
       rcases aZ.fp b hb with h5|h5
       ·exact az.fp b h5
       ·have:=az.k.size;have:=aA.size;exact .inr (by omega)
      have aL:Kp (λj=>OY c V p j\/j=b4) w2 w9:=((az.k.LZ λj e=> .inl e).trans (aA.LZ λj e=> .inr e)).LJ aZ.k (λj e=>by
       rcases az.fp j e with h5|h5
       ·exact .inr (.inl h5)
       ·exact .inl h5)
      refine LO (LL (qN rfl (qV (Mk (news:=O0 false g6) OW rfl Mr rfl (LX.cells (n:=3) eG rfl) rfl) (M1 rfl (MD (news:=O0 false g6) Mr rfl rfl rfl rfl eG (by simp)) ?_))));rintro we ⟨cW,dh⟩;replace cW:LX we b4 [.bool false,.bool g6.isSome,I (g6.getD 0)] 232:=cW;refine LU rfl (Mj Tryz.func125 (.cell OW rfl Mr rfl (LX.cells (n:=3) cW (news:=[_,_,_]) rfl) rfl (.tmp rfl .nil)) ?_)
      have n49:∀b,OY c V9 p b->b≠b4:=λb hb e=>by
       rcases co b hb with h5|h5
       ·exact n4' b h5 e
       ·omega
      have eD:A.NT k=({A6 with M8:=A6.M8.erase k,often:=A6.often++[k]},false,g6):=by
       unfold Arc.NT;rw[if_neg bz,if_pos hg];dsimp only;rw[hq,hT,bA,cn]
      rw[eD]
      exact⟨_,rfl,rfl,V9,aZ.m.kp dh n49,λb hb=>(co b hb).imp id (λe=>by omega),(aI.kp.LJ aL (λj e=>by
       rcases e with e| e
       ·exact .inr e
       ·exact .inl (by omega))).LJ dh (λj e=> .inl (by omega))⟩
     ·have qW:=hg;rw[decide_eq_false hg];refine LU rfl (An rfl (qN rfl (LM rfl (Mp rfl (M0 NH rfl (LM rfl (Mb TC rfl (pM) ?_)))))));rintro _ w2 ⟨rfl,rfl⟩;by_cases hg:k∈A.M5
      ·rw[decide_eq_true hg];refine LU rfl (Mn.qb (e:=[(0,_),(1,_),(4,_),(5,_),(111,_)]) ?_);refine M3 rfl (run_seq ?_);have qU:0<A.M5.length:=List.length_pos_of_mem hg;obtain⟨q,hq⟩:∃q,A.M8.length / A.M5.length=q:=⟨_,rfl⟩;have gy:q<=2000:=by rw[<-hq];exact Nat.le_trans (Nat.div_le_self _ _) iH
       have mm:(A.M8.length:Int) / (A.M5.length:Int)=(q:Int):=by rw[<-hq];exact(Int.natCast_ediv _ _).symm
       refine Me [23] (λw'=>Ext w2 w') (by kernel_rfl) rfl (qL [21,22,23] 0 rfl (λ_ h=>My rfl) aa (qL [2,3,4,19,20,21,22,23] 1 rfl (λ_ h=>My rfl) aa (qL [3,4,19,20,21,22,23] 2 rfl (λ_ h=>MS rfl) aa (qL [4,19,20,21,22,23] 3 rfl (λ_ h=>Mo NG rfl) aa (qL [19,20,21,22,23] 4 rfl (λ_ h=>LR U3 rfl rfl (h.LN eF) rfl) aa (qL [6,7,8,9,10,17,18,19,20,21,22,23] 5 rfl (λ_ h=>My rfl) aa (qL [7,8,9,10,17,18,19,20,21,22,23] 6 rfl (λ_ h=>MS rfl) aa (qL [8,9,10,17,18,19,20,21,22,23] 7 rfl (λ_ h=>Mo Nl rfl) aa (qL [9,10,17,18,19,20,21,22,23] 8 rfl (λ_ h=>Mo MQ rfl) aa (qL [10,17,18,19,20,21,22,23] 9 rfl (λ_ h=>LR NQ rfl rfl (h.LN eF) rfl) aa (qL [17,18,19,20,21,22,23] 10 rfl (λ_ h=>OZ NQ rfl) aa (qL [12,13,14,15,16,17,18,19,20,21,22,23] 11 rfl (λ_ h=>My rfl) aa (qL [13,14,15,16,17,18,19,20,21,22,23] 12 rfl (λ_ h=>MS rfl) aa ?_)))))))))))));refine qL [14,15,16,17,18,19,20,21,22,23] 13 rfl (λ_ h=>Mo NH rfl) aa (qL [15,16,17,18,19,20,21,22,23] 14 rfl (λ_ h=>Mo MQ rfl) aa (qL [16,17,18,19,20,21,22,23] 15 rfl (λ_ h=>LR NQ rfl rfl (h.LN eF) rfl) aa (qL [17,18,19,20,21,22,23] 16 rfl (λ_ h=>OZ NQ rfl) aa (qL [18,19,20,21,22,23] 17 rfl (λ_ h=>Tg rfl rfl ⟨by omega,by omega,by omega⟩) aa ?_))));rw[mm];refine qL [19,20,21,22,23] 18 rfl (λ_ h=>yma rfl rfl) aa (qL [20,21,22,23] 19 rfl (λ_ h=>TF rfl rfl (by omega)) aa (qL [21,22,23] 20 rfl (λ_ h=>yma rfl rfl) aa (qL [22,23] 21 rfl (λ_ h=>MS rfl) aa (qL [23] 22 rfl (λ_ h=>Mo NG rfl) aa (Pv [23] (qO 23 (Mx (i:=23) rfl rfl (NC MO rfl rfl rfl (aa.LN eF) (by simp)) ?_)))))));rintro w5 ⟨aF,aj⟩;refine⟨trivial,?_⟩;obtain⟨T,hT⟩:∃T:Int,max 0 (A.target-max 1 (q:Int))=T:=⟨_,rfl⟩;have nC:0<=T/\T<=A.size:=by omega
       rw[hT] at aF
       replace aF:LX w5 c (acC A.size T V p) 167:=by
        show LX w5 c [I (A.size:Int),(V 0).1,(V 0).2,(V 1).1,(V 1).2,(V 2).1,(V 2).2,(V 3).1,(V 3).2,I T,.map (some p)] _;rw[e2,e3];exact aF
       have bZ:=(h2.ext aa).Vg aF aj;have aS:=hA.Vg nC;obtain⟨A5,bA⟩:∃A5:Arc,{A with target:=T}=A5:=⟨_,rfl⟩;have o5:A5.size=A.size:=by rw[<-bA]
       have nD:¬A5.held k:=by rw[<-bA];exact lG
       have qP:k∈A5.M5:=by rw[<-bA];exact hg
       rw[bA] at bZ aS;refine qE (Mn.qb (e:=[(0,_),(1,_),(4,_),(5,_)]) ?_);refine qN rfl (LM rfl (Mb X5 rfl (PT bZ.m aS (by omega) true) ?_));rintro _ w6 ⟨rfl,V6,cx⟩;have au:=Arc.PB aS true;obtain⟨r6,cn⟩:∃r,A5.room true=r:=⟨_,rfl⟩;rw[cn] at cx au⊢;obtain⟨A6,g6⟩:=r6;dsimp only at cx au⊢;have dZ:=au.perm.length_eq;have j5:=A6.Np;have nE:=A5.Np;have nF:=aS.total;have az:=((h2.r aa).trans bZ).trans cx;have bP:=az.k.LN bq (λe=>n4' _ e rfl);refine M1 rfl (MD (news:=O0 false g6) Mr rfl rfl rfl rfl bP (by simp)) ?_;rintro w7 ⟨bc,aA⟩;replace bc:LX w7 b4 [.bool false,.bool g6.isSome,I (g6.getD 0)] 232:=bc;have n46:=az.mono n4' l42;have fT:=az.m.kp aA n46;refine qM rfl (LM rfl (Mp rfl (M0 NH rfl (LM rfl (Mb P9 rfl (MT fT (j:=3) (k:=k) (by decide)) ?_)))));rintro _ w8 ⟨rfl,V8,fm⟩
       have dC:k∉(A6.Ni 3 ((A6.li 3).erase k)).li 1:=by
        show k∉A6.often;exact λe=>nD ((au.gone k).1 (.inr e)).1
       refine LO (LQ rfl (LM rfl (Mp rfl (M0 NM rfl (LM rfl (Mb PL rfl (Nn fm.m (j:=1) (k:=k) (by decide) dC (by show A6.often.length<=_;omega)) ?_))))));rintro _ w9 ⟨rfl,V9,gG⟩;have aZ:=fm.trans gG;have bO:=aZ.k.LN bc (λe=>n46 _ e rfl);have eG:=bO
       have co:∀b,OY c V9 p b->OY c V p b\/w2.heap.size<=b:=λb hb=>by
        rcases aZ.fp b hb with h5|h5
        ·exact az.fp b h5
        ·have:=az.k.size;have:=aA.size;exact .inr (by omega)
       have aL:Kp (λj=>OY c V p j\/j=b4) w2 w9:=((az.k.LZ λj e=> .inl e).trans (aA.LZ λj e=> .inr e)).LJ aZ.k (λj e=>by
        rcases az.fp j e with h5|h5
        ·exact .inr (.inl h5)
        ·exact .inl h5)
       refine LO (LL (qN rfl (qV (Mk (news:=O0 false g6) OW rfl Mr rfl (LX.cells (n:=3) eG rfl) rfl) (M1 rfl (MD (news:=O0 false g6) Mr rfl rfl rfl rfl eG (by simp)) ?_))));rintro we ⟨cW,dh⟩;replace cW:LX we b4 [.bool false,.bool g6.isSome,I (g6.getD 0)] 232:=cW;refine LU rfl (Mj Tryz.func125 (.cell OW rfl Mr rfl (LX.cells (n:=3) cW (news:=[_,_,_]) rfl) rfl (.tmp rfl .nil)) ?_)
       have n49:∀b,OY c V9 p b->b≠b4:=λb hb e=>by
        rcases co b hb with h5|h5
        ·exact n4' b h5 e
        ·omega
       have eD:A.NT k=({A6 with M5:=A6.M5.erase k,often:=A6.often++[k]},false,g6):=by
        unfold Arc.NT;rw[if_neg bz,if_neg qW,if_pos hg];dsimp only;rw[hq,hT,bA,cn]
       rw[eD]
       exact⟨_,rfl,rfl,V9,aZ.m.kp dh n49,λb hb=>(co b hb).imp id (λe=>by omega),(aI.kp.LJ aL (λj e=>by
        rcases e with e| e
        ·exact .inr e
        ·exact .inl (by omega))).LJ dh (λj e=> .inl (by omega))⟩
      ·rw[decide_eq_false hg];refine LU rfl (Mn.qb (e:=[(0,_),(1,_),(4,_),(5,_),(111,_)]) ?_);refine An rfl (qN rfl (LM rfl (Mb z7H rfl (XU h2 hA cz) ?_)));rintro _ w6 ⟨rfl,V6,cx⟩;have dB:=Arc.Z2 hA;obtain⟨r6,cn⟩:∃r,A.add=r:=⟨_,rfl⟩;rw[cn] at cx dB⊢;obtain⟨A6,g6⟩:=r6;dsimp only at cx dB⊢;obtain⟨eW,-,-⟩:=dB;have j5:=A6.Np;have az:=cx;have bP:=az.k.LN bq (λe=>n4' _ e rfl);refine M1 rfl (MD (news:=O0 false g6) Mr rfl rfl rfl rfl bP (by simp)) ?_;rintro w7 ⟨bc,aA⟩;replace bc:LX w7 b4 [.bool false,.bool g6.isSome,I (g6.getD 0)] 232:=bc;have n46:=az.mono n4' l42;have fT:=az.m.kp aA n46
       have dC:k∉A6.li 0:=by
        show k∉A6.once;exact λe=>lG ((eW.gone k).1 (.inl e)).1
       have ol:=eW.UJ;refine LO (LQ rfl (LM rfl (Mp rfl (M0 N8 rfl (LM rfl (Mb PL rfl (Nn fT (j:=0) (k:=k) (by decide) dC (by show A6.once.length<=_;omega)) ?_))))));rintro _ w9 ⟨rfl,V9,gG⟩;have aZ:=gG;have bO:=aZ.k.LN bc (λe=>n46 _ e rfl);have eG:=bO
       have co:∀b,OY c V9 p b->OY c V p b\/w2.heap.size<=b:=λb hb=>by
        rcases aZ.fp b hb with h5|h5
        ·exact az.fp b h5
        ·have:=az.k.size;have:=aA.size;exact .inr (by omega)
       have aL:Kp (λj=>OY c V p j\/j=b4) w2 w9:=((az.k.LZ λj e=> .inl e).trans (aA.LZ λj e=> .inr e)).LJ aZ.k (λj e=>by
        rcases az.fp j e with h5|h5
        ·exact .inr (.inl h5)
        ·exact .inl h5)
       refine LO (LL (qN rfl (qV (Mk (news:=O0 false g6) OW rfl Mr rfl (LX.cells (n:=3) eG rfl) rfl) (M1 rfl (MD (news:=O0 false g6) Mr rfl rfl rfl rfl eG (by simp)) ?_))));rintro we ⟨cW,dh⟩;replace cW:LX we b4 [.bool false,.bool g6.isSome,I (g6.getD 0)] 232:=cW;refine LU rfl (Mj Tryz.func125 (.cell OW rfl Mr rfl (LX.cells (n:=3) cW (news:=[_,_,_]) rfl) rfl (.tmp rfl .nil)) ?_)
       have n49:∀b,OY c V9 p b->b≠b4:=λb hb e=>by
        rcases co b hb with h5|h5
        ·exact n4' b h5 e
        ·omega
       have eD:A.NT k=({A6 with once:=A6.once++[k]},false,g6):=by
        unfold Arc.NT;rw[if_neg bz,if_neg qW,if_neg hg];dsimp only;rw[cn]
       rw[eD]
       exact⟨_,rfl,rfl,V9,aZ.m.kp dh n49,λb hb=>(co b hb).imp id (λe=>by omega),(aI.kp.LJ aL (λj e=>by
        rcases e with e| e
        ·exact .inr e
        ·exact .inl (by omega))).LJ dh (λj e=> .inl (by omega))⟩
   | false =>
     subst Gb
     have xN:o1=true:=by
      have e:A.once=[]:=Classical.not_not.1 λe=>by have:=q0.2 e;cases this
      rw[e] at bX;exact q1.2 λe=>by rw[e] at bX;simp at bX;omega
     subst xN;refine M4 rfl rfl (qV ((by first|exact ML rfl|exact Oh rfl)) ?_);refine NB rfl rfl (M4 rfl rfl (qV ((by first|exact ML rfl|exact Oh rfl)) ?_));refine NB rfl rfl (LO (An rfl (py (run_seq (LK (qN rfl (LM rfl (Mp rfl (M0 Nl rfl (LM rfl (Mb TC rfl (kT) ?_)))))))))));rintro _ w2 ⟨rfl,rfl⟩;by_cases hg:k∈A.M8
     ·rw[decide_eq_true hg];refine LU rfl (M3 rfl (run_seq ?_));have qU:0<A.M8.length:=List.length_pos_of_mem hg;obtain⟨q,hq⟩:∃q,A.M5.length / A.M8.length=q:=⟨_,rfl⟩;have gy:q<=2000:=by rw[<-hq];exact Nat.le_trans (Nat.div_le_self _ _) mj
      have mm:(A.M5.length:Int) / (A.M8.length:Int)=(q:Int):=by rw[<-hq];exact(Int.natCast_ediv _ _).symm
      refine Me [27] (λw'=>Ext w2 w') (by kernel_rfl) rfl (qL [25,26,27] 0 rfl (λ_ h=>My rfl) aa (qL [2,3,4,24,25,26,27] 1 rfl (λ_ h=>My rfl) aa (qL [3,4,24,25,26,27] 2 rfl (λ_ h=>MS rfl) aa (qL [4,24,25,26,27] 3 rfl (λ_ h=>Mo OO rfl) aa (qL [24,25,26,27] 4 rfl (λ_ h=>LR U3 rfl rfl (h.LN eF) rfl) aa (qL [6,7,8,23,24,25,26,27] 5 rfl (λ_ h=>My rfl) aa (qL [7,8,23,24,25,26,27] 6 rfl (λ_ h=>MS rfl) aa (qL [8,23,24,25,26,27] 7 rfl (λ_ h=>Mo NG rfl) aa (qL [23,24,25,26,27] 8 rfl (λ_ h=>LR U3 rfl rfl (h.LN eF) rfl) aa (qL [10,11,12,13,14,21,22,23,24,25,26,27] 9 rfl (λ_ h=>My rfl) aa (qL [11,12,13,14,21,22,23,24,25,26,27] 10 rfl (λ_ h=>MS rfl) aa (qL [12,13,14,21,22,23,24,25,26,27] 11 rfl (λ_ h=>Mo NH rfl) aa (qL [13,14,21,22,23,24,25,26,27] 12 rfl (λ_ h=>Mo MQ rfl) aa ?_)))))))))))));refine qL [14,21,22,23,24,25,26,27] 13 rfl (λ_ h=>LR NQ rfl rfl (h.LN eF) rfl) aa (qL [21,22,23,24,25,26,27] 14 rfl (λ_ h=>OZ NQ rfl) aa (qL [16,17,18,19,20,21,22,23,24,25,26,27] 15 rfl (λ_ h=>My rfl) aa (qL [17,18,19,20,21,22,23,24,25,26,27] 16 rfl (λ_ h=>MS rfl) aa (qL [18,19,20,21,22,23,24,25,26,27] 17 rfl (λ_ h=>Mo Nl rfl) aa (qL [19,20,21,22,23,24,25,26,27] 18 rfl (λ_ h=>Mo MQ rfl) aa (qL [20,21,22,23,24,25,26,27] 19 rfl (λ_ h=>LR NQ rfl rfl (h.LN eF) rfl) aa (qL [21,22,23,24,25,26,27] 20 rfl (λ_ h=>OZ NQ rfl) aa (qL [22,23,24,25,26,27] 21 rfl (λ_ h=>Tg rfl rfl ⟨by omega,by omega,by omega⟩) aa ?_))))))));rw[mm];refine qL [23,24,25,26,27] 22 rfl (λ_ h=>yma rfl rfl) aa (qL [24,25,26,27] 23 rfl (λ_ h=>R9 rfl rfl (by omega)) aa (qL [25,26,27] 24 rfl (λ_ h=>ymi rfl rfl) aa (qL [26,27] 25 rfl (λ_ h=>MS rfl) aa (qL [27] 26 rfl (λ_ h=>Mo NG rfl) aa (Pv [27] (qO 27 (Mx (i:=27) rfl rfl (NC MO rfl rfl rfl (aa.LN eF) (by simp)) ?_)))))));rintro w5 ⟨aF,aj⟩;refine⟨trivial,?_⟩;obtain⟨T,hT⟩:∃T:Int,min (A.size:Int) (A.target+max 1 (q:Int))=T:=⟨_,rfl⟩;have nC:0<=T/\T<=A.size:=by omega
      rw[hT] at aF
      replace aF:LX w5 c (acC A.size T V p) 167:=by
       show LX w5 c [I (A.size:Int),(V 0).1,(V 0).2,(V 1).1,(V 1).2,(V 2).1,(V 2).2,(V 3).1,(V 3).2,I T,.map (some p)] _;rw[e2,e3];exact aF
      have bZ:=(h2.ext aa).Vg aF aj;have aS:=hA.Vg nC;obtain⟨A5,bA⟩:∃A5:Arc,{A with target:=T}=A5:=⟨_,rfl⟩;have o5:A5.size=A.size:=by rw[<-bA]
      have nD:¬A5.held k:=by rw[<-bA];exact lG
      have qP:k∈A5.M8:=by rw[<-bA];exact hg
      rw[bA] at bZ aS;refine qE (Mn.qb (e:=[(0,_),(1,_),(4,_),(5,_)]) ?_);refine qN rfl (LM rfl (Mb X5 rfl (PT bZ.m aS (by omega) false) ?_));rintro _ w6 ⟨rfl,V6,cx⟩;have au:=Arc.PB aS false;obtain⟨r6,cn⟩:∃r,A5.room false=r:=⟨_,rfl⟩;rw[cn] at cx au⊢;obtain⟨A6,g6⟩:=r6;dsimp only at cx au⊢;have dZ:=au.perm.length_eq;have j5:=A6.Np;have nE:=A5.Np;have nF:=aS.total;have az:=((h2.r aa).trans bZ).trans cx;have bP:=az.k.LN bq (λe=>n4' _ e rfl);refine M1 rfl (MD (news:=O0 false g6) Mr rfl rfl rfl rfl bP (by simp)) ?_;rintro w7 ⟨bc,aA⟩;replace bc:LX w7 b4 [.bool false,.bool g6.isSome,I (g6.getD 0)] 232:=bc;have n46:=az.mono n4' l42;have fT:=az.m.kp aA n46;refine qM rfl (LM rfl (Mp rfl (M0 Nl rfl (LM rfl (Mb P9 rfl (MT fT (j:=2) (k:=k) (by decide)) ?_)))));rintro _ w8 ⟨rfl,V8,fm⟩
      have dC:k∉(A6.Ni 2 ((A6.li 2).erase k)).li 1:=by
       show k∉A6.often;exact λe=>nD ((au.gone k).1 (.inr e)).1
      refine LO (LQ rfl (LM rfl (Mp rfl (M0 NM rfl (LM rfl (Mb PL rfl (Nn fm.m (j:=1) (k:=k) (by decide) dC (by show A6.often.length<=_;omega)) ?_))))));rintro _ w9 ⟨rfl,V9,gG⟩;have aZ:=fm.trans gG;have bO:=aZ.k.LN bc (λe=>n46 _ e rfl);have eG:=bO
      have co:∀b,OY c V9 p b->OY c V p b\/w2.heap.size<=b:=λb hb=>by
       rcases aZ.fp b hb with h5|h5
       ·exact az.fp b h5
       ·have:=az.k.size;have:=aA.size;exact .inr (by omega)
      have aL:Kp (λj=>OY c V p j\/j=b4) w2 w9:=((az.k.LZ λj e=> .inl e).trans (aA.LZ λj e=> .inr e)).LJ aZ.k (λj e=>by
       rcases az.fp j e with h5|h5
       ·exact .inr (.inl h5)
       ·exact .inl h5)
      refine LO (LL (qN rfl (qV (Mk (news:=O0 false g6) OW rfl Mr rfl (LX.cells (n:=3) eG rfl) rfl) (M1 rfl (MD (news:=O0 false g6) Mr rfl rfl rfl rfl eG (by simp)) ?_))));rintro we ⟨cW,dh⟩;replace cW:LX we b4 [.bool false,.bool g6.isSome,I (g6.getD 0)] 232:=cW;refine LU rfl (Mj Tryz.func125 (.cell OW rfl Mr rfl (LX.cells (n:=3) cW (news:=[_,_,_]) rfl) rfl (.tmp rfl .nil)) ?_)
      have n49:∀b,OY c V9 p b->b≠b4:=λb hb e=>by
       rcases co b hb with h5|h5
       ·exact n4' b h5 e
       ·omega
      have eD:A.NT k=({A6 with M8:=A6.M8.erase k,often:=A6.often++[k]},false,g6):=by
       unfold Arc.NT;rw[if_neg bz,if_pos hg];dsimp only;rw[hq,hT,bA,cn]
      rw[eD]
      exact⟨_,rfl,rfl,V9,aZ.m.kp dh n49,λb hb=>(co b hb).imp id (λe=>by omega),(aI.kp.LJ aL (λj e=>by
       rcases e with e| e
       ·exact .inr e
       ·exact .inl (by omega))).LJ dh (λj e=> .inl (by omega))⟩
     ·have qW:=hg;rw[decide_eq_false hg];refine LU rfl (An rfl (qN rfl (LM rfl (Mp rfl (M0 NH rfl (LM rfl (Mb TC rfl (pM) ?_)))))));rintro _ w2 ⟨rfl,rfl⟩;by_cases hg:k∈A.M5
      ·rw[decide_eq_true hg];refine LU rfl (Mn.qb (e:=[(0,_),(1,_),(4,_),(5,_),(111,_)]) ?_);refine M3 rfl (run_seq ?_);have qU:0<A.M5.length:=List.length_pos_of_mem hg;obtain⟨q,hq⟩:∃q,A.M8.length / A.M5.length=q:=⟨_,rfl⟩;have gy:q<=2000:=by rw[<-hq];exact Nat.le_trans (Nat.div_le_self _ _) iH
       have mm:(A.M8.length:Int) / (A.M5.length:Int)=(q:Int):=by rw[<-hq];exact(Int.natCast_ediv _ _).symm
       refine Me [23] (λw'=>Ext w2 w') (by kernel_rfl) rfl (qL [21,22,23] 0 rfl (λ_ h=>My rfl) aa (qL [2,3,4,19,20,21,22,23] 1 rfl (λ_ h=>My rfl) aa (qL [3,4,19,20,21,22,23] 2 rfl (λ_ h=>MS rfl) aa (qL [4,19,20,21,22,23] 3 rfl (λ_ h=>Mo NG rfl) aa (qL [19,20,21,22,23] 4 rfl (λ_ h=>LR U3 rfl rfl (h.LN eF) rfl) aa (qL [6,7,8,9,10,17,18,19,20,21,22,23] 5 rfl (λ_ h=>My rfl) aa (qL [7,8,9,10,17,18,19,20,21,22,23] 6 rfl (λ_ h=>MS rfl) aa (qL [8,9,10,17,18,19,20,21,22,23] 7 rfl (λ_ h=>Mo Nl rfl) aa (qL [9,10,17,18,19,20,21,22,23] 8 rfl (λ_ h=>Mo MQ rfl) aa (qL [10,17,18,19,20,21,22,23] 9 rfl (λ_ h=>LR NQ rfl rfl (h.LN eF) rfl) aa (qL [17,18,19,20,21,22,23] 10 rfl (λ_ h=>OZ NQ rfl) aa (qL [12,13,14,15,16,17,18,19,20,21,22,23] 11 rfl (λ_ h=>My rfl) aa (qL [13,14,15,16,17,18,19,20,21,22,23] 12 rfl (λ_ h=>MS rfl) aa ?_)))))))))))));refine qL [14,15,16,17,18,19,20,21,22,23] 13 rfl (λ_ h=>Mo NH rfl) aa (qL [15,16,17,18,19,20,21,22,23] 14 rfl (λ_ h=>Mo MQ rfl) aa (qL [16,17,18,19,20,21,22,23] 15 rfl (λ_ h=>LR NQ rfl rfl (h.LN eF) rfl) aa (qL [17,18,19,20,21,22,23] 16 rfl (λ_ h=>OZ NQ rfl) aa (qL [18,19,20,21,22,23] 17 rfl (λ_ h=>Tg rfl rfl ⟨by omega,by omega,by omega⟩) aa ?_))));rw[mm];refine qL [19,20,21,22,23] 18 rfl (λ_ h=>yma rfl rfl) aa (qL [20,21,22,23] 19 rfl (λ_ h=>TF rfl rfl (by omega)) aa (qL [21,22,23] 20 rfl (λ_ h=>yma rfl rfl) aa (qL [22,23] 21 rfl (λ_ h=>MS rfl) aa (qL [23] 22 rfl (λ_ h=>Mo NG rfl) aa (Pv [23] (qO 23 (Mx (i:=23) rfl rfl (NC MO rfl rfl rfl (aa.LN eF) (by simp)) ?_)))))));rintro w5 ⟨aF,aj⟩;refine⟨trivial,?_⟩;obtain⟨T,hT⟩:∃T:Int,max 0 (A.target-max 1 (q:Int))=T:=⟨_,rfl⟩;have nC:0<=T/\T<=A.size:=by omega
       rw[hT] at aF
       replace aF:LX w5 c (acC A.size T V p) 167:=by
        show LX w5 c [I (A.size:Int),(V 0).1,(V 0).2,(V 1).1,(V 1).2,(V 2).1,(V 2).2,(V 3).1,(V 3).2,I T,.map (some p)] _;rw[e2,e3];exact aF
       have bZ:=(h2.ext aa).Vg aF aj;have aS:=hA.Vg nC;obtain⟨A5,bA⟩:∃A5:Arc,{A with target:=T}=A5:=⟨_,rfl⟩;have o5:A5.size=A.size:=by rw[<-bA]
       have nD:¬A5.held k:=by rw[<-bA];exact lG
       have qP:k∈A5.M5:=by rw[<-bA];exact hg
       rw[bA] at bZ aS;refine qE (Mn.qb (e:=[(0,_),(1,_),(4,_),(5,_)]) ?_);refine qN rfl (LM rfl (Mb X5 rfl (PT bZ.m aS (by omega) true) ?_));rintro _ w6 ⟨rfl,V6,cx⟩;have au:=Arc.PB aS true;obtain⟨r6,cn⟩:∃r,A5.room true=r:=⟨_,rfl⟩;rw[cn] at cx au⊢;obtain⟨A6,g6⟩:=r6;dsimp only at cx au⊢;have dZ:=au.perm.length_eq;have j5:=A6.Np;have nE:=A5.Np;have nF:=aS.total;have az:=((h2.r aa).trans bZ).trans cx;have bP:=az.k.LN bq (λe=>n4' _ e rfl);refine M1 rfl (MD (news:=O0 false g6) Mr rfl rfl rfl rfl bP (by simp)) ?_;rintro w7 ⟨bc,aA⟩;replace bc:LX w7 b4 [.bool false,.bool g6.isSome,I (g6.getD 0)] 232:=bc;have n46:=az.mono n4' l42;have fT:=az.m.kp aA n46;refine qM rfl (LM rfl (Mp rfl (M0 NH rfl (LM rfl (Mb P9 rfl (MT fT (j:=3) (k:=k) (by decide)) ?_)))));rintro _ w8 ⟨rfl,V8,fm⟩
       have dC:k∉(A6.Ni 3 ((A6.li 3).erase k)).li 1:=by
        show k∉A6.often;exact λe=>nD ((au.gone k).1 (.inr e)).1
       refine LO (LQ rfl (LM rfl (Mp rfl (M0 NM rfl (LM rfl (Mb PL rfl (Nn fm.m (j:=1) (k:=k) (by decide) dC (by show A6.often.length<=_;omega)) ?_))))));rintro _ w9 ⟨rfl,V9,gG⟩;have aZ:=fm.trans gG;have bO:=aZ.k.LN bc (λe=>n46 _ e rfl);have eG:=bO
       have co:∀b,OY c V9 p b->OY c V p b\/w2.heap.size<=b:=λb hb=>by
        rcases aZ.fp b hb with h5|h5
        ·exact az.fp b h5
        ·have:=az.k.size;have:=aA.size;exact .inr (by omega)
       have aL:Kp (λj=>OY c V p j\/j=b4) w2 w9:=((az.k.LZ λj e=> .inl e).trans (aA.LZ λj e=> .inr e)).LJ aZ.k (λj e=>by
        rcases az.fp j e with h5|h5
        ·exact .inr (.inl h5)
        ·exact .inl h5)
       refine LO (LL (qN rfl (qV (Mk (news:=O0 false g6) OW rfl Mr rfl (LX.cells (n:=3) eG rfl) rfl) (M1 rfl (MD (news:=O0 false g6) Mr rfl rfl rfl rfl eG (by simp)) ?_))));rintro we ⟨cW,dh⟩;replace cW:LX we b4 [.bool false,.bool g6.isSome,I (g6.getD 0)] 232:=cW;refine LU rfl (Mj Tryz.func125 (.cell OW rfl Mr rfl (LX.cells (n:=3) cW (news:=[_,_,_]) rfl) rfl (.tmp rfl .nil)) ?_)
       have n49:∀b,OY c V9 p b->b≠b4:=λb hb e=>by
        rcases co b hb with h5|h5
        ·exact n4' b h5 e
        ·omega
       have eD:A.NT k=({A6 with M5:=A6.M5.erase k,often:=A6.often++[k]},false,g6):=by
        unfold Arc.NT;rw[if_neg bz,if_neg qW,if_pos hg];dsimp only;rw[hq,hT,bA,cn]
       rw[eD]
       exact⟨_,rfl,rfl,V9,aZ.m.kp dh n49,λb hb=>(co b hb).imp id (λe=>by omega),(aI.kp.LJ aL (λj e=>by
        rcases e with e| e
        ·exact .inr e
        ·exact .inl (by omega))).LJ dh (λj e=> .inl (by omega))⟩
      ·rw[decide_eq_false hg];refine LU rfl (Mn.qb (e:=[(0,_),(1,_),(4,_),(5,_),(111,_)]) ?_);refine An rfl (qN rfl (LM rfl (Mb z7H rfl (XU h2 hA cz) ?_)));rintro _ w6 ⟨rfl,V6,cx⟩;have dB:=Arc.Z2 hA;obtain⟨r6,cn⟩:∃r,A.add=r:=⟨_,rfl⟩;rw[cn] at cx dB⊢;obtain⟨A6,g6⟩:=r6;dsimp only at cx dB⊢;obtain⟨eW,-,-⟩:=dB;have j5:=A6.Np;have az:=cx;have bP:=az.k.LN bq (λe=>n4' _ e rfl);refine M1 rfl (MD (news:=O0 false g6) Mr rfl rfl rfl rfl bP (by simp)) ?_;rintro w7 ⟨bc,aA⟩;replace bc:LX w7 b4 [.bool false,.bool g6.isSome,I (g6.getD 0)] 232:=bc;have n46:=az.mono n4' l42;have fT:=az.m.kp aA n46
       have dC:k∉A6.li 0:=by
        show k∉A6.once;exact λe=>lG ((eW.gone k).1 (.inl e)).1
       have ol:=eW.UJ;refine LO (LQ rfl (LM rfl (Mp rfl (M0 N8 rfl (LM rfl (Mb PL rfl (Nn fT (j:=0) (k:=k) (by decide) dC (by show A6.once.length<=_;omega)) ?_))))));rintro _ w9 ⟨rfl,V9,gG⟩;have aZ:=gG;have bO:=aZ.k.LN bc (λe=>n46 _ e rfl);have eG:=bO
       have co:∀b,OY c V9 p b->OY c V p b\/w2.heap.size<=b:=λb hb=>by
        rcases aZ.fp b hb with h5|h5
        ·exact az.fp b h5
        ·have:=az.k.size;have:=aA.size;exact .inr (by omega)
       have aL:Kp (λj=>OY c V p j\/j=b4) w2 w9:=((az.k.LZ λj e=> .inl e).trans (aA.LZ λj e=> .inr e)).LJ aZ.k (λj e=>by
        rcases az.fp j e with h5|h5
        ·exact .inr (.inl h5)
        ·exact .inl h5)
       refine LO (LL (qN rfl (qV (Mk (news:=O0 false g6) OW rfl Mr rfl (LX.cells (n:=3) eG rfl) rfl) (M1 rfl (MD (news:=O0 false g6) Mr rfl rfl rfl rfl eG (by simp)) ?_))));rintro we ⟨cW,dh⟩;replace cW:LX we b4 [.bool false,.bool g6.isSome,I (g6.getD 0)] 232:=cW;refine LU rfl (Mj Tryz.func125 (.cell OW rfl Mr rfl (LX.cells (n:=3) cW (news:=[_,_,_]) rfl) rfl (.tmp rfl .nil)) ?_)
       have n49:∀b,OY c V9 p b->b≠b4:=λb hb e=>by
        rcases co b hb with h5|h5
        ·exact n4' b h5 e
        ·omega
       have eD:A.NT k=({A6 with once:=A6.once++[k]},false,g6):=by
        unfold Arc.NT;rw[if_neg bz,if_neg qW,if_neg hg];dsimp only;rw[cn]
       rw[eD]
       exact⟨_,rfl,rfl,V9,aZ.m.kp dh n49,λb hb=>(co b hb).imp id (λe=>by omega),(aI.kp.LJ aL (λj e=>by
        rcases e with e| e
        ·exact .inr e
        ·exact .inl (by omega))).LJ dh (λj e=> .inl (by omega))⟩
  ·rw [decide_eq_false bX]; refine LM rfl (qS (qS (ME rfl rfl (LM rfl (qS (qS (ME rfl rfl (LO (An rfl (py (run_seq (LK (qN rfl ?_))))))))))))); refine LM rfl (Mp rfl (M0 Nl rfl (LM rfl (Mb TC rfl (kT) ?_)))); rintro _ w2 ⟨rfl, rfl⟩; by_cases hg : k ∈ A.M8
   ·rw[decide_eq_true hg];refine LU rfl (M3 rfl (run_seq ?_));have qU:0<A.M8.length:=List.length_pos_of_mem hg;obtain⟨q,hq⟩:∃q,A.M5.length / A.M8.length=q:=⟨_,rfl⟩;have gy:q<=2000:=by rw[<-hq];exact Nat.le_trans (Nat.div_le_self _ _) mj
    have mm:(A.M5.length:Int) / (A.M8.length:Int)=(q:Int):=by rw[<-hq];exact(Int.natCast_ediv _ _).symm
    refine Me [27] (λw'=>Ext w2 w') (by kernel_rfl) rfl (qL [25,26,27] 0 rfl (λ_ h=>My rfl) aa (qL [2,3,4,24,25,26,27] 1 rfl (λ_ h=>My rfl) aa (qL [3,4,24,25,26,27] 2 rfl (λ_ h=>MS rfl) aa (qL [4,24,25,26,27] 3 rfl (λ_ h=>Mo OO rfl) aa (qL [24,25,26,27] 4 rfl (λ_ h=>LR U3 rfl rfl (h.LN eF) rfl) aa (qL [6,7,8,23,24,25,26,27] 5 rfl (λ_ h=>My rfl) aa (qL [7,8,23,24,25,26,27] 6 rfl (λ_ h=>MS rfl) aa (qL [8,23,24,25,26,27] 7 rfl (λ_ h=>Mo NG rfl) aa (qL [23,24,25,26,27] 8 rfl (λ_ h=>LR U3 rfl rfl (h.LN eF) rfl) aa (qL [10,11,12,13,14,21,22,23,24,25,26,27] 9 rfl (λ_ h=>My rfl) aa (qL [11,12,13,14,21,22,23,24,25,26,27] 10 rfl (λ_ h=>MS rfl) aa (qL [12,13,14,21,22,23,24,25,26,27] 11 rfl (λ_ h=>Mo NH rfl) aa (qL [13,14,21,22,23,24,25,26,27] 12 rfl (λ_ h=>Mo MQ rfl) aa ?_)))))))))))));refine qL [14,21,22,23,24,25,26,27] 13 rfl (λ_ h=>LR NQ rfl rfl (h.LN eF) rfl) aa (qL [21,22,23,24,25,26,27] 14 rfl (λ_ h=>OZ NQ rfl) aa (qL [16,17,18,19,20,21,22,23,24,25,26,27] 15 rfl (λ_ h=>My rfl) aa (qL [17,18,19,20,21,22,23,24,25,26,27] 16 rfl (λ_ h=>MS rfl) aa (qL [18,19,20,21,22,23,24,25,26,27] 17 rfl (λ_ h=>Mo Nl rfl) aa (qL [19,20,21,22,23,24,25,26,27] 18 rfl (λ_ h=>Mo MQ rfl) aa (qL [20,21,22,23,24,25,26,27] 19 rfl (λ_ h=>LR NQ rfl rfl (h.LN eF) rfl) aa (qL [21,22,23,24,25,26,27] 20 rfl (λ_ h=>OZ NQ rfl) aa (qL [22,23,24,25,26,27] 21 rfl (λ_ h=>Tg rfl rfl ⟨by omega,by omega,by omega⟩) aa ?_))))))));rw[mm];refine qL [23,24,25,26,27] 22 rfl (λ_ h=>yma rfl rfl) aa (qL [24,25,26,27] 23 rfl (λ_ h=>R9 rfl rfl (by omega)) aa (qL [25,26,27] 24 rfl (λ_ h=>ymi rfl rfl) aa (qL [26,27] 25 rfl (λ_ h=>MS rfl) aa (qL [27] 26 rfl (λ_ h=>Mo NG rfl) aa (Pv [27] (qO 27 (Mx (i:=27) rfl rfl (NC MO rfl rfl rfl (aa.LN eF) (by simp)) ?_)))))));rintro w5 ⟨aF,aj⟩;refine⟨trivial,?_⟩;obtain⟨T,hT⟩:∃T:Int,min (A.size:Int) (A.target+max 1 (q:Int))=T:=⟨_,rfl⟩;have nC:0<=T/\T<=A.size:=by omega
    rw[hT] at aF
    replace aF:LX w5 c (acC A.size T V p) 167:=by
     show LX w5 c [I (A.size:Int),(V 0).1,(V 0).2,(V 1).1,(V 1).2,(V 2).1,(V 2).2,(V 3).1,(V 3).2,I T,.map (some p)] _;rw[e2,e3];exact aF
    have bZ:=(h2.ext aa).Vg aF aj;have aS:=hA.Vg nC;obtain⟨A5,bA⟩:∃A5:Arc,{A with target:=T}=A5:=⟨_,rfl⟩;have o5:A5.size=A.size:=by rw[<-bA]
    have nD:¬A5.held k:=by rw[<-bA];exact lG
    have qP:k∈A5.M8:=by rw[<-bA];exact hg
    rw[bA] at bZ aS;refine qE (Mn.qb (e:=[(0,_),(1,_),(4,_),(5,_)]) ?_);refine qN rfl (LM rfl (Mb X5 rfl (PT bZ.m aS (by omega) false) ?_));rintro _ w6 ⟨rfl,V6,cx⟩;have au:=Arc.PB aS false;obtain⟨r6,cn⟩:∃r,A5.room false=r:=⟨_,rfl⟩;rw[cn] at cx au⊢;obtain⟨A6,g6⟩:=r6;dsimp only at cx au⊢;have dZ:=au.perm.length_eq;have j5:=A6.Np;have nE:=A5.Np;have nF:=aS.total;have az:=((h2.r aa).trans bZ).trans cx;have bP:=az.k.LN bq (λe=>n4' _ e rfl);refine M1 rfl (MD (news:=O0 false g6) Mr rfl rfl rfl rfl bP (by simp)) ?_;rintro w7 ⟨bc,aA⟩;replace bc:LX w7 b4 [.bool false,.bool g6.isSome,I (g6.getD 0)] 232:=bc;have n46:=az.mono n4' l42;have fT:=az.m.kp aA n46;refine qM rfl (LM rfl (Mp rfl (M0 Nl rfl (LM rfl (Mb P9 rfl (MT fT (j:=2) (k:=k) (by decide)) ?_)))));rintro _ w8 ⟨rfl,V8,fm⟩
    have dC:k∉(A6.Ni 2 ((A6.li 2).erase k)).li 1:=by
     show k∉A6.often;exact λe=>nD ((au.gone k).1 (.inr e)).1
    refine LO (LQ rfl (LM rfl (Mp rfl (M0 NM rfl (LM rfl (Mb PL rfl (Nn fm.m (j:=1) (k:=k) (by decide) dC (by show A6.often.length<=_;omega)) ?_))))));rintro _ w9 ⟨rfl,V9,gG⟩;have aZ:=fm.trans gG;have bO:=aZ.k.LN bc (λe=>n46 _ e rfl);have eG:=bO
    have co:∀b,OY c V9 p b->OY c V p b\/w2.heap.size<=b:=λb hb=>by
     rcases aZ.fp b hb with h5|h5
     ·exact az.fp b h5
     ·have:=az.k.size;have:=aA.size;exact .inr (by omega)
    have aL:Kp (λj=>OY c V p j\/j=b4) w2 w9:=((az.k.LZ λj e=> .inl e).trans (aA.LZ λj e=> .inr e)).LJ aZ.k (λj e=>by
     rcases az.fp j e with h5|h5
     ·exact .inr (.inl h5)
     ·exact .inl h5)
    refine LO (LL (qN rfl (qV (Mk (news:=O0 false g6) OW rfl Mr rfl (LX.cells (n:=3) eG rfl) rfl) (M1 rfl (MD (news:=O0 false g6) Mr rfl rfl rfl rfl eG (by simp)) ?_))));rintro we ⟨cW,dh⟩;replace cW:LX we b4 [.bool false,.bool g6.isSome,I (g6.getD 0)] 232:=cW;refine LU rfl (Mj Tryz.func125 (.cell OW rfl Mr rfl (LX.cells (n:=3) cW (news:=[_,_,_]) rfl) rfl (.tmp rfl .nil)) ?_)
    have n49:∀b,OY c V9 p b->b≠b4:=λb hb e=>by
     rcases co b hb with h5|h5
     ·exact n4' b h5 e
     ·omega
    have eD:A.NT k=({A6 with M8:=A6.M8.erase k,often:=A6.often++[k]},false,g6):=by
     unfold Arc.NT;rw[if_neg bz,if_pos hg];dsimp only;rw[hq,hT,bA,cn]
    rw[eD]
    exact⟨_,rfl,rfl,V9,aZ.m.kp dh n49,λb hb=>(co b hb).imp id (λe=>by omega),(aI.kp.LJ aL (λj e=>by
     rcases e with e| e
     ·exact .inr e
     ·exact .inl (by omega))).LJ dh (λj e=> .inl (by omega))⟩
   ·have qW:=hg;rw[decide_eq_false hg];refine LU rfl (An rfl (qN rfl (LM rfl (Mp rfl (M0 NH rfl (LM rfl (Mb TC rfl (pM) ?_)))))));rintro _ w2 ⟨rfl,rfl⟩;by_cases hg:k∈A.M5
    ·rw[decide_eq_true hg];refine LU rfl (Mn.qb (e:=[(0,_),(1,_),(4,_),(5,_),(111,_)]) ?_);refine M3 rfl (run_seq ?_);have qU:0<A.M5.length:=List.length_pos_of_mem hg;obtain⟨q,hq⟩:∃q,A.M8.length / A.M5.length=q:=⟨_,rfl⟩;have gy:q<=2000:=by rw[<-hq];exact Nat.le_trans (Nat.div_le_self _ _) iH
     have mm:(A.M8.length:Int) / (A.M5.length:Int)=(q:Int):=by rw[<-hq];exact(Int.natCast_ediv _ _).symm
     refine Me [23] (λw'=>Ext w2 w') (by kernel_rfl) rfl (qL [21,22,23] 0 rfl (λ_ h=>My rfl) aa (qL [2,3,4,19,20,21,22,23] 1 rfl (λ_ h=>My rfl) aa (qL [3,4,19,20,21,22,23] 2 rfl (λ_ h=>MS rfl) aa (qL [4,19,20,21,22,23] 3 rfl (λ_ h=>Mo NG rfl) aa (qL [19,20,21,22,23] 4 rfl (λ_ h=>LR U3 rfl rfl (h.LN eF) rfl) aa (qL [6,7,8,9,10,17,18,19,20,21,22,23] 5 rfl (λ_ h=>My rfl) aa (qL [7,8,9,10,17,18,19,20,21,22,23] 6 rfl (λ_ h=>MS rfl) aa (qL [8,9,10,17,18,19,20,21,22,23] 7 rfl (λ_ h=>Mo Nl rfl) aa (qL [9,10,17,18,19,20,21,22,23] 8 rfl (λ_ h=>Mo MQ rfl) aa (qL [10,17,18,19,20,21,22,23] 9 rfl (λ_ h=>LR NQ rfl rfl (h.LN eF) rfl) aa (qL [17,18,19,20,21,22,23] 10 rfl (λ_ h=>OZ NQ rfl) aa (qL [12,13,14,15,16,17,18,19,20,21,22,23] 11 rfl (λ_ h=>My rfl) aa (qL [13,14,15,16,17,18,19,20,21,22,23] 12 rfl (λ_ h=>MS rfl) aa ?_)))))))))))));refine qL [14,15,16,17,18,19,20,21,22,23] 13 rfl (λ_ h=>Mo NH rfl) aa (qL [15,16,17,18,19,20,21,22,23] 14 rfl (λ_ h=>Mo MQ rfl) aa (qL [16,17,18,19,20,21,22,23] 15 rfl (λ_ h=>LR NQ rfl rfl (h.LN eF) rfl) aa (qL [17,18,19,20,21,22,23] 16 rfl (λ_ h=>OZ NQ rfl) aa (qL [18,19,20,21,22,23] 17 rfl (λ_ h=>Tg rfl rfl ⟨by omega,by omega,by omega⟩) aa ?_))));rw[mm];refine qL [19,20,21,22,23] 18 rfl (λ_ h=>yma rfl rfl) aa (qL [20,21,22,23] 19 rfl (λ_ h=>TF rfl rfl (by omega)) aa (qL [21,22,23] 20 rfl (λ_ h=>yma rfl rfl) aa (qL [22,23] 21 rfl (λ_ h=>MS rfl) aa (qL [23] 22 rfl (λ_ h=>Mo NG rfl) aa (Pv [23] (qO 23 (Mx (i:=23) rfl rfl (NC MO rfl rfl rfl (aa.LN eF) (by simp)) ?_)))))));rintro w5 ⟨aF,aj⟩;refine⟨trivial,?_⟩;obtain⟨T,hT⟩:∃T:Int,max 0 (A.target-max 1 (q:Int))=T:=⟨_,rfl⟩;have nC:0<=T/\T<=A.size:=by omega
     rw[hT] at aF
     replace aF:LX w5 c (acC A.size T V p) 167:=by
      show LX w5 c [I (A.size:Int),(V 0).1,(V 0).2,(V 1).1,(V 1).2,(V 2).1,(V 2).2,(V 3).1,(V 3).2,I T,.map (some p)] _;rw[e2,e3];exact aF
     have bZ:=(h2.ext aa).Vg aF aj;have aS:=hA.Vg nC;obtain⟨A5,bA⟩:∃A5:Arc,{A with target:=T}=A5:=⟨_,rfl⟩;have o5:A5.size=A.size:=by rw[<-bA]
     have nD:¬A5.held k:=by rw[<-bA];exact lG
     have qP:k∈A5.M5:=by rw[<-bA];exact hg
     rw[bA] at bZ aS;refine qE (Mn.qb (e:=[(0,_),(1,_),(4,_),(5,_)]) ?_);refine qN rfl (LM rfl (Mb X5 rfl (PT bZ.m aS (by omega) true) ?_));rintro _ w6 ⟨rfl,V6,cx⟩;have au:=Arc.PB aS true;obtain⟨r6,cn⟩:∃r,A5.room true=r:=⟨_,rfl⟩;rw[cn] at cx au⊢;obtain⟨A6,g6⟩:=r6;dsimp only at cx au⊢;have dZ:=au.perm.length_eq;have j5:=A6.Np;have nE:=A5.Np;have nF:=aS.total;have az:=((h2.r aa).trans bZ).trans cx;have bP:=az.k.LN bq (λe=>n4' _ e rfl);refine M1 rfl (MD (news:=O0 false g6) Mr rfl rfl rfl rfl bP (by simp)) ?_;rintro w7 ⟨bc,aA⟩;replace bc:LX w7 b4 [.bool false,.bool g6.isSome,I (g6.getD 0)] 232:=bc;have n46:=az.mono n4' l42;have fT:=az.m.kp aA n46;refine qM rfl (LM rfl (Mp rfl (M0 NH rfl (LM rfl (Mb P9 rfl (MT fT (j:=3) (k:=k) (by decide)) ?_)))));rintro _ w8 ⟨rfl,V8,fm⟩
     have dC:k∉(A6.Ni 3 ((A6.li 3).erase k)).li 1:=by
      show k∉A6.often;exact λe=>nD ((au.gone k).1 (.inr e)).1
     refine LO (LQ rfl (LM rfl (Mp rfl (M0 NM rfl (LM rfl (Mb PL rfl (Nn fm.m (j:=1) (k:=k) (by decide) dC (by show A6.often.length<=_;omega)) ?_))))));rintro _ w9 ⟨rfl,V9,gG⟩;have aZ:=fm.trans gG;have bO:=aZ.k.LN bc (λe=>n46 _ e rfl);have eG:=bO
     have co:∀b,OY c V9 p b->OY c V p b\/w2.heap.size<=b:=λb hb=>by
      rcases aZ.fp b hb with h5|h5
      ·exact az.fp b h5
      ·have:=az.k.size;have:=aA.size;exact .inr (by omega)
     have aL:Kp (λj=>OY c V p j\/j=b4) w2 w9:=((az.k.LZ λj e=> .inl e).trans (aA.LZ λj e=> .inr e)).LJ aZ.k (λj e=>by
      rcases az.fp j e with h5|h5
      ·exact .inr (.inl h5)
      ·exact .inl h5)
     refine LO (LL (qN rfl (qV (Mk (news:=O0 false g6) OW rfl Mr rfl (LX.cells (n:=3) eG rfl) rfl) (M1 rfl (MD (news:=O0 false g6) Mr rfl rfl rfl rfl eG (by simp)) ?_))));rintro we ⟨cW,dh⟩;replace cW:LX we b4 [.bool false,.bool g6.isSome,I (g6.getD 0)] 232:=cW;refine LU rfl (Mj Tryz.func125 (.cell OW rfl Mr rfl (LX.cells (n:=3) cW (news:=[_,_,_]) rfl) rfl (.tmp rfl .nil)) ?_)
     have n49:∀b,OY c V9 p b->b≠b4:=λb hb e=>by
      rcases co b hb with h5|h5
      ·exact n4' b h5 e
      ·omega
     have eD:A.NT k=({A6 with M5:=A6.M5.erase k,often:=A6.often++[k]},false,g6):=by
      unfold Arc.NT;rw[if_neg bz,if_neg qW,if_pos hg];dsimp only;rw[hq,hT,bA,cn]
     rw[eD]
     exact⟨_,rfl,rfl,V9,aZ.m.kp dh n49,λb hb=>(co b hb).imp id (λe=>by omega),(aI.kp.LJ aL (λj e=>by
      rcases e with e| e
      ·exact .inr e
      ·exact .inl (by omega))).LJ dh (λj e=> .inl (by omega))⟩
    ·rw[decide_eq_false hg];refine LU rfl (Mn.qb (e:=[(0,_),(1,_),(4,_),(5,_),(111,_)]) ?_);refine An rfl (qN rfl (LM rfl (Mb z7H rfl (XU h2 hA cz) ?_)));rintro _ w6 ⟨rfl,V6,cx⟩;have dB:=Arc.Z2 hA;obtain⟨r6,cn⟩:∃r,A.add=r:=⟨_,rfl⟩;rw[cn] at cx dB⊢;obtain⟨A6,g6⟩:=r6;dsimp only at cx dB⊢;obtain⟨eW,-,-⟩:=dB;have j5:=A6.Np;have az:=cx;have bP:=az.k.LN bq (λe=>n4' _ e rfl);refine M1 rfl (MD (news:=O0 false g6) Mr rfl rfl rfl rfl bP (by simp)) ?_;rintro w7 ⟨bc,aA⟩;replace bc:LX w7 b4 [.bool false,.bool g6.isSome,I (g6.getD 0)] 232:=bc;have n46:=az.mono n4' l42;have fT:=az.m.kp aA n46
     have dC:k∉A6.li 0:=by
      show k∉A6.once;exact λe=>lG ((eW.gone k).1 (.inl e)).1
     have ol:=eW.UJ;refine LO (LQ rfl (LM rfl (Mp rfl (M0 N8 rfl (LM rfl (Mb PL rfl (Nn fT (j:=0) (k:=k) (by decide) dC (by show A6.once.length<=_;omega)) ?_))))));rintro _ w9 ⟨rfl,V9,gG⟩;have aZ:=gG;have bO:=aZ.k.LN bc (λe=>n46 _ e rfl);have eG:=bO
     have co:∀b,OY c V9 p b->OY c V p b\/w2.heap.size<=b:=λb hb=>by
      rcases aZ.fp b hb with h5|h5
      ·exact az.fp b h5
      ·have:=az.k.size;have:=aA.size;exact .inr (by omega)
     have aL:Kp (λj=>OY c V p j\/j=b4) w2 w9:=((az.k.LZ λj e=> .inl e).trans (aA.LZ λj e=> .inr e)).LJ aZ.k (λj e=>by
      rcases az.fp j e with h5|h5
      ·exact .inr (.inl h5)
      ·exact .inl h5)
     refine LO (LL (qN rfl (qV (Mk (news:=O0 false g6) OW rfl Mr rfl (LX.cells (n:=3) eG rfl) rfl) (M1 rfl (MD (news:=O0 false g6) Mr rfl rfl rfl rfl eG (by simp)) ?_))));rintro we ⟨cW,dh⟩;replace cW:LX we b4 [.bool false,.bool g6.isSome,I (g6.getD 0)] 232:=cW;refine LU rfl (Mj Tryz.func125 (.cell OW rfl Mr rfl (LX.cells (n:=3) cW (news:=[_,_,_]) rfl) rfl (.tmp rfl .nil)) ?_)
     have n49:∀b,OY c V9 p b->b≠b4:=λb hb e=>by
      rcases co b hb with h5|h5
      ·exact n4' b h5 e
      ·omega
     have eD:A.NT k=({A6 with once:=A6.once++[k]},false,g6):=by
      unfold Arc.NT;rw[if_neg bz,if_neg qW,if_neg hg];dsimp only;rw[cn]
     rw[eD]
     exact⟨_,rfl,rfl,V9,aZ.m.kp dh n49,λb hb=>(co b hb).imp id (λe=>by omega),(aI.kp.LJ aL (λj e=>by
      rcases e with e| e
      ·exact .inr e
      ·exact .inl (by omega))).LJ dh (λj e=> .inl (by omega))⟩
end
def Arc.z3Z (A:Arc)(k:Int):Nat->Arc
 |0=>A
 |i+1=>(A.z3Z k i).Ni i (((A.z3Z k i).li i).erase k)
def Arc.drop (A:Arc)(k:Int):Arc:=A.z3Z k 4
theorem Arc.drop_eq (A:Arc)(k:Int):A.drop k={A with once:=A.once.erase k,often:=A.often.erase k,M8:=A.M8.erase k,M5:=A.M5.erase k}:=rfl
theorem Arc.Ok.drop {A:Arc}(h:A.Ok)(k:Int):(A.drop k).Ok:=by
 rw[Arc.drop_eq]
 have hs:(A.once.erase k++(A.often.erase k++(A.M8.erase k++A.M5.erase k))).Sublist A.all:=List.erase_sublist.append (List.erase_sublist.append (List.erase_sublist.append List.erase_sublist))
 have a1:(A.once.erase k).length<=A.once.length:=List.length_erase_le
 have a2:(A.often.erase k).length<=A.often.length:=List.length_erase_le
 have a3:(A.M8.erase k).length<=A.M8.length:=List.length_erase_le
 have h1:=h.held
 have h2:=h.first
 exact⟨h.pos,h.nd.sublist hs,by dsimp only;omega,by dsimp only;omega,Nat.le_trans hs.length_le h.total,h.tg⟩
theorem Arc.z5G {A:Arc}(h:A.Ok)(k x:Int):(A.drop k).held x↔A.held x/\x≠k:=by
 have ft:=h.nd
 unfold Arc.all at ft
 rw[List.nodup_append] at ft
 obtain⟨nd1,nd2,-⟩:=ft
 rw[List.nodup_append] at nd2
 obtain⟨nd4,-,-⟩:=nd2
 rw[Arc.drop_eq]
 unfold Arc.held
 dsimp only
 rw[nd1.mem_erase_iff,nd4.mem_erase_iff]
 constructor
 ·rintro(⟨a,b⟩|⟨a,b⟩)
  ·exact⟨.inl b,a⟩
  ·exact⟨.inr b,a⟩
 ·rintro⟨b|b,a⟩
  ·exact .inl ⟨a,b⟩
  ·exact .inr ⟨a,b⟩
section
variable {w w' w2:World}{c p:Nat}{A A' A2:Arc}{V V' V2:Nat->Value×Value}{S:Nat->Prop}{k:Int}
theorem z5b (h:P5 w c A V p):Mm Tryz.prog 116 [ptr c 0,I k] w λv w'=>(∃z,v=I z)/\∃V',So w c V p w' (A.drop k) V':=by
 have hB:=h.cells
 have kT:=RG h (j:=2) (k:=k) (by decide)
 have pM:=RG h (j:=3) (k:=k) (by decide)
 rw[show A.li 2=A.M8 from rfl] at kT
 rw[show A.li 3=A.M5 from rfl] at pM
 refine It (e:=[(0,_),(1,_)]) Tryz.func116 rfl Tryz.ntmps116 rfl rfl (qN rfl (LU rfl (run_seq (MA (λe' w'=>e'=[(0,ptr c 0),(1,I k)]/\w'=w) ?eV (λeV=>?kl)))))
 case eV=>
  rintro e' w1 ⟨rfl,rfl⟩;have hg:=Ext.Ma w1;refine run_seq (run_seq (NF (λw'=>Ext w1 w') rfl (M9 0 rfl rfl (hg) (LS 1 rfl (MS rfl) hg (LS 2 rfl (Mo N8 rfl) hg (M9 3 rfl rfl (hg) (LS 4 rfl (MS rfl) hg (LS 5 rfl (Mo NM rfl) hg (M9 6 rfl rfl (hg) (LS 7 rfl (MS rfl) hg (LS 8 rfl (Mo Nl rfl) hg (M9 9 rfl rfl (hg) (LS 10 rfl (MS rfl) hg ?_)))))))))))));refine LS 11 rfl (Mo NH rfl) hg (M9 14 rfl rfl (hg) (qO 12 (VP (i:=12) rfl rfl rfl (Uu (cs:=[_,_,_,_]) (zs:=[Value.pointer none,Value.pointer none,Value.pointer none,Value.pointer none]) zb5 za5 rfl (by kernel_rfl) rfl rfl rfl (by decide)) ?_)));rintro _ w2 ⟨b51,rfl,⟨Dr,af,J8⟩,xR⟩;refine⟨hg.trans af,?_⟩;have aD:=hg.trans af;refine LS 13 rfl (OZ zb5 rfl) (hg.trans af) (qE (LK ?_));have aP:∀{b:Nat},OY c V p b->b<w1.heap.size:=h.lt;have lb:=xR.lt (g:=b51) rfl;have z12:=hg.size;have Dt:=xR.rd;refine Oe (α:=Nat×(Nat->Value×Value)) ((0,V)) (λx=>[(1,I k),(51,.slice (some ⟨b51,0,none⟩) 4 4),(52,I 4),(53,I (x.1:Int))]) (λx w'=>x.1<=4/\So w2 c V p w' (A.z3Z k x.1) x.2/\Rd w' (.slice (some ⟨b51,0,none⟩) 4 4) 1 4 [ptr c 1,ptr c 3,ptr c 5,ptr c 7]) (λx=>4-x.1) ?hI ?hround
  case hI=>exact⟨Nat.zero_le _,(h.ext aD).r (Ext.refl w2),Dt⟩
  case hround=>
   rintro⟨i,Vi⟩ w3 ⟨hi,lM,Du⟩ ih;dsimp only at hi lM Du ih⊢
   try dsimp only
   refine qN rfl (Nr rfl rfl (LO (run_seq (LY rfl (λh0=>?_) (λh0=>?_)))))
   ·have o9:i<4:=by omega
    have hx:([ptr c 1,ptr c 3,ptr c 5,ptr c 7]:List Value)[i]? =some (ptr c (1+2*i)):=by
     match i,o9 with
     |0,_|1,_|2,_|3,_=>rfl
    refine py (run_seq (LK (qN rfl (qV (MN zb5 za5 rfl rfl (by omega)) (qV (Mt zf6 rfl rfl (MX Du hx)) (LU rfl (LQ rfl (M4 rfl rfl (Mb P9 rfl (MT lM.m (j:=i) (k:=k) o9) ?_)))))))));rintro _ w4 ⟨rfl,V4,bD⟩;refine LO (LL (LQ rfl (MK rfl rfl (LM rfl (LO ((ih (i+1,V4) _ ⟨o9,lM.trans bD,Du.kp bD.k λg e hf=>?_⟩ (by dsimp only;omega)).qb))))));have e':b51=g:=NV e;rcases lM.fp _ hf with e| e
    ·have:=aP e;have hb:b51=w1.drew.heap.size:=Dr;omega
    ·omega
   ·have o9:i=4:=by omega
    subst o9;refine LW rfl (qN rfl (LU rfl (LP Tryz.func116 rfl ?_)));exact⟨_,rfl,⟨0,rfl⟩,Vi,(h.r aD).trans lM⟩
 case kl =>
  refine LK (qN rfl (LM rfl (qV (MU U89 rfl rfl) (LU rfl (An rfl (qN rfl (M4 rfl rfl (Mb z9J rfl (Yk h (k:=k)) ?_))))))));rintro _ w ⟨rfl,rfl⟩;by_cases gL:k∈A.once\/k∈A.often
  ·rw[decide_eq_true gL];refine qV ((by first|exact ML rfl|exact Oh rfl)) ?_;refine LM rfl (qS (qS (qS (qS (qS (qS (ME rfl rfl (LM rfl (qS (qS (qS (qS (qS ?_)))))))))))));refine qS (ME rfl rfl (LU rfl (Mn.qb (e:=[(0,_),(1,_),(4,_),(10,_)]) ?_)));refine An rfl (qN rfl (LM rfl (Mp rfl (M0 Wk rfl (qV (LR Tp rfl rfl hB rfl) (LM rfl (qV (ylk (k:=k) (K:=KI) Tp (Oy U3) MO rfl rfl h.pins) (Nc rfl rfl (MC (LU rfl (An rfl (py (LL ?_)))))))))))));exact(eV _ _ ⟨rfl,rfl⟩).qb
  ·rw [decide_eq_false gL]; refine qV ((by first | exact ML rfl | exact Oh rfl)) ?_; refine M4 rfl rfl (Mp rfl (M0 Nl rfl (LM rfl (Mb TC rfl (kT) ?_)))); rintro _ w ⟨rfl, rfl⟩; by_cases ao : k ∈ A.M8
   ·rw[decide_eq_true ao];refine qV ((by first|exact ML rfl|exact Oh rfl)) ?_;refine NB rfl rfl (LM rfl (qS (qS (qS (qS (qS (qS (ME rfl rfl (LU rfl (Mn.qb (e:=[(0,_),(1,_),(4,_),(10,_)]) ?_))))))))));refine An rfl (qN rfl (LM rfl (Mp rfl (M0 Wk rfl (qV (LR Tp rfl rfl hB rfl) (LM rfl (qV (ylk (k:=k) (K:=KI) Tp (Oy U3) MO rfl rfl h.pins) (Nc rfl rfl (MC (LU rfl (An rfl (py (LL ?_)))))))))))));exact(eV _ _ ⟨rfl,rfl⟩).qb
   ·rw[decide_eq_false ao];refine qV ((by first|exact ML rfl|exact Oh rfl)) ?_;refine NB rfl rfl (M4 rfl rfl (Mp rfl (M0 NH rfl (LM rfl (Mb TC rfl (pM) ?_)))));rintro _ w ⟨rfl,rfl⟩;by_cases ar:k∈A.M5
    ·rw[decide_eq_true ar];refine qV ((by first|exact ML rfl|exact Oh rfl)) ?_;refine NB rfl rfl (LU rfl (Mn.qb (e:=[(0,_),(1,_),(4,_),(10,_)]) ?_));refine An rfl (qN rfl (LM rfl (Mp rfl (M0 Wk rfl (qV (LR Tp rfl rfl hB rfl) (LM rfl (qV (ylk (k:=k) (K:=KI) Tp (Oy U3) MO rfl rfl h.pins) (Nc rfl rfl (MC (LU rfl (An rfl (py (LL ?_)))))))))))));exact(eV _ _ ⟨rfl,rfl⟩).qb
    ·rw[decide_eq_false ar];refine qV ((by first|exact ML rfl|exact Oh rfl)) ?_;refine NB rfl rfl (LU rfl (Mn.qb (e:=[(0,_),(1,_),(4,_),(10,_)]) ?_));refine M3 rfl (qN rfl (LU rfl (LP Tryz.func116 rfl ?_)))
     have hd:A.drop k=A:=by
      rw[Arc.drop_eq,List.erase_of_not_mem (λe=>gL (.inl e)),List.erase_of_not_mem (λe=>gL (.inr e)),List.erase_of_not_mem ao,List.erase_of_not_mem ar]
     rw[hd];exact⟨_,rfl,⟨6,rfl⟩,V,h.r (Ext.refl w)⟩
end
structure Pg where
 k:Int
 b:Nat
 t:Bytes
 d:Bool
def Rf (l:List Pg):List (Int×Value):=l.map λg=>(g.k,ptr g.b 0)
def pgC (t:Bytes)(d:Bool):List Value:=[S t,.bool d,I 0]
structure NZ where
 s:Nat
 d:Nat
 m:Nat
 gi:Nat
 c:Nat
 pm:Nat
 p:Nat
 fr:Nat
 V:Nat->Value×Value
 D:Dev
 A:Arc
 l:List Pg
 L:List Bool
 Fd:Nat->Prop
 h:Int
 mi:Int
 wr:Int
def NZ.cp (P:NZ):Nat->Nat->Prop
 |0,b=>b=P.s
 |1,b=>P.Fd b
 |2,b=>b=P.m\/b=P.gi
 |3,b=>OY P.c P.V P.p b
 |4,b=>b=P.pm
 |5,b=>∃g∈P.l,g.b=b
 |_,_=>False
def NZ.fp (P:NZ)(b:Nat):Prop:=∃i,P.cp i b
def plC (P:NZ):List Value:=[ptr P.d 0,ptr P.m 0,ptr P.c 0,.map (some P.pm),I (P.fr:Int),I P.h,I P.mi,I P.wr,I 0,I 0,I 0,.bool false]
def Dis (f:Nat->Nat->Prop):Prop:=∀i j,i≠j->∀b,f i b->¬f j b
structure QP (w:World)(P:NZ):Prop where
 LN:LX w P.s (plC P) 92
 dev:Sq w P.d P.D P.Fd
 ext:Tv w P.m P.gi P.L
 arc:P5 w P.c P.A P.V P.p
 mp:P3 KI w P.pm (Rf P.l)
 pg:∀g∈P.l,LX w g.b (pgC g.t g.d) 191
 pnd:(P.l.map (·.b)).Nodup
 RT:Dis P.cp
section
variable {w w' w0:World}{P P0 P':NZ}{S:Nat->Prop}{i0:Nat}
theorem QP.lt (h:QP w P){b:Nat}(hb:P.fp b):b<w.heap.size:=by
 obtain⟨i,hi⟩:=hb
 match i,hi with
 |0,e=>rw[show b=P.s from e];exact h.LN.lt
 |1,e=>exact h.dev.lt b e
 | 2, e =>
   rcases e with e| e
   ·rw[e];exact h.ext.ltm
   ·rw[e];exact h.ext.ltg
 |3,e=>exact h.arc.lt e
 |4,e=>rw[show b=P.pm from e];exact h.mp.lt
 |5,⟨g,hg,e⟩=>rw[<-e];exact(h.pg g hg).lt
theorem QP.kp (h:QP w P)(hk:Kp S w w')(hn:∀b,P.fp b->¬S b):QP w' P:=
 ⟨hk.LN h.LN (hn _ ⟨0,rfl⟩),h.dev.kp hk λb hb=>hn b ⟨1,hb⟩,h.ext.kp hk (hn _ ⟨2,.inl rfl⟩) (hn _ ⟨2,.inr rfl⟩),h.arc.kp hk λb hb=>hn b ⟨3,hb⟩,h.mp.kp hk (hn _ ⟨4,rfl⟩),λg hg=>hk.LN (h.pg g hg) (hn _ ⟨5,g,hg,rfl⟩),h.pnd,h.RT⟩
theorem QP.ext' (h:QP w P)(hx:Ext w w'):QP w' P:=h.kp (S:=λ_=>False) hx λ_ _=>id
theorem QP.z5v (h:QP w P)(hk:Kp (P.cp i0) w w')(ne:0≠i0):LX w' P.s (plC P) 92:=hk.LN h.LN (h.RT 0 i0 ne _ rfl)
theorem QP.z4H (h:QP w P)(hk:Kp (P.cp i0) w w')(ne:1≠i0):Sq w' P.d P.D P.Fd:=h.dev.kp hk λb hb=>h.RT 1 i0 ne b hb
theorem QP.text (h:QP w P)(hk:Kp (P.cp i0) w w')(ne:2≠i0):Tv w' P.m P.gi P.L:=h.ext.kp hk (h.RT 2 i0 ne _ (.inl rfl)) (h.RT 2 i0 ne _ (.inr rfl))
theorem QP.z5p (h:QP w P)(hk:Kp (P.cp i0) w w')(ne:3≠i0):P5 w' P.c P.A P.V P.p:=h.arc.kp hk λb hb=>h.RT 3 i0 ne b hb
theorem QP.tmp (h:QP w P)(hk:Kp (P.cp i0) w w')(ne:4≠i0):P3 KI w' P.pm (Rf P.l):=h.mp.kp hk (h.RT 4 i0 ne _ rfl)
theorem QP.tpg (h:QP w P)(hk:Kp (P.cp i0) w w')(ne:5≠i0):∀g∈P.l,LX w' g.b (pgC g.t g.d) 191:=λg hg=>hk.LN (h.pg g hg) (h.RT 5 i0 ne _ ⟨g,hg,rfl⟩)
theorem QP.z7U (h:QP w P)(hs:∀i,i≠i0->P'.cp i=P.cp i)(hi:∀b,P'.cp i0 b->P.cp i0 b\/∀i,¬P.cp i b):Dis P'.cp:=λi j ne b hb bY=>by
 by_cases e:i=i0
 ·have e2:j≠i0:=λe2=>ne (e.trans e2.symm);rw[e] at hb;rw[hs j e2] at bY;rcases hi b hb with h1|h1
  ·exact h.RT i0 j (λe3=>e2 e3.symm) b h1 bY
  ·exact h1 j bY
 ·rw[hs i e] at hb;by_cases e2:j=i0
  ·rw[e2] at bY;rcases hi b bY with h1|h1
   ·exact h.RT i i0 e b hb h1
   ·exact h1 i hb
  ·rw[hs j e2] at bY;exact h.RT i j ne b hb bY
theorem QP.new (h:QP w P){b:Nat}(hb:w.heap.size<=b):∀i,¬P.cp i b:=λi e=>by have:=h.lt ⟨i,e⟩;omega
structure QF (w0:World)(P0:NZ)(w:World)(P:NZ):Prop where
 m:QP w P
 fp:∀b,P.fp b->P0.fp b\/w0.heap.size<=b
 k:Kp P0.fp w0 w
theorem QP.r (h:QP w P)(hx:Ext w w'):QF w P w' P:=⟨h.ext' hx,λb hb=> .inl hb,hx.kp⟩
theorem QF.ext (h:QF w0 P0 w P)(hx:Ext w w'):QF w0 P0 w' P:=⟨h.m.ext' hx,h.fp,h.k.trans hx.kp⟩
theorem QF.loc (h:QF w0 P0 w P)(hk:Kp S w w')(hS:∀b,S b->(P0.fp b\/w0.heap.size<=b)/\∀i,¬P.cp i b):QF w0 P0 w' P:=
 ⟨h.m.kp hk λb ⟨i,hb⟩ e=>(hS b e).2 i hb,h.fp,h.k.LJ hk λb e=>(hS b e).1.symm⟩
theorem QF.part (h:QF w0 P0 w P)(i0:Nat)(hm:QP w' P')(hs:∀i,i≠i0->P'.cp i=P.cp i)(hi:∀b,P'.cp i0 b->P.cp i0 b\/w0.heap.size<=b)(hk:Kp (P.cp i0) w w'):QF w0 P0 w' P':=
 ⟨hm,λb ⟨i,hb⟩=>by
  by_cases e:i=i0
  ·rw[e] at hb;rcases hi b hb with h1|h1
   ·exact h.fp b ⟨i0,h1⟩
   ·exact .inr h1
  ·rw[hs i e] at hb
   exact h.fp b ⟨i,hb⟩,h.k.LJ hk λb hb=>(h.fp b ⟨i0,hb⟩).symm⟩
theorem QF.trans {w2:World}{P2:NZ}(h:QF w0 P0 w P)(h2:QF w P w2 P2):QF w0 P0 w2 P2:=
 ⟨h2.m,λb hb=>by
  rcases h2.fp b hb with e| e
  ·exact h.fp b e
  ·exact .inr (by have:=h.k.size;omega),h.k.LJ h2.k λb hb=>(h.fp b hb).symm⟩
theorem QF.dev (h:QF w0 P0 w P){D':Dev}(ht:z4z w P.d P.Fd D' w'):∃Fd',QF w0 P0 w' {P with D:=D',Fd:=Fd'}/\∀b,Fd' b->P.Fd b\/w.heap.size<=b:=by
 obtain⟨F',hd,hu⟩:=ht
 have hs:∀i,i≠1->NZ.cp {P with D:=D',Fd:=F'} i=P.cp i:=λi e=>by
  match i,e with
  |0,_|2,_|3,_|4,_|5,_=>rfl
  |i+6,_=>rfl
 have hk:Kp (P.cp 1) w w':=hu.1
 refine⟨F',h.part 1 ⟨h.m.z5v hk (by decide),hd,h.m.text hk (by decide),h.m.z5p hk (by decide),h.m.tmp hk (by decide),h.m.tpg hk (by decide),h.m.pnd,h.m.z7U hs λb hb=>?_⟩ hs (λb hb=>?_) hk,hu.2⟩
 ·exact(hu.2 b hb).imp id λe=>h.m.new e
 ·exact(hu.2 b hb).imp id λe=>by have:=h.k.size;omega
theorem QF.arc (h:QF w0 P0 w P){A':Arc}{V':Nat->Value×Value}(hr:So w P.c P.V P.p w' A' V'):QF w0 P0 w' {P with A:=A',V:=V'}:=by
 have hs:∀i,i≠3->NZ.cp {P with A:=A',V:=V'} i=P.cp i:=λi e=>by
  match i,e with
  |0,_|1,_|2,_|4,_|5,_=>rfl
  |i+6,_=>rfl
 have hk:Kp (P.cp 3) w w':=hr.k
 refine h.part 3 ⟨h.m.z5v hk (by decide),h.m.z4H hk (by decide),h.m.text hk (by decide),hr.m,h.m.tmp hk (by decide),h.m.tpg hk (by decide),h.m.pnd,h.m.z7U hs λb hb=>?_⟩ hs (λb hb=>?_) hk
 ·exact(hr.fp b hb).imp id λe=>h.m.new e
 ·exact(hr.fp b hb).imp id λe=>by have:=h.k.size;omega
theorem QF.exM (h:QF w0 P0 w P){L':List Bool}(he:Tv w' P.m P.gi L')(hk:Kp (λb=>b=P.gi) w w'):QF w0 P0 w' {P with L:=L'}:=by
 have hs:∀i,i≠2->NZ.cp {P with L:=L'} i=P.cp i:=λi e=>by
  match i,e with
  |0,_|1,_|3,_|4,_|5,_=>rfl
  |i+6,_=>rfl
 have hk:Kp (P.cp 2) w w':=hk.LZ λb e=> .inr e
 exact h.part 2 ⟨h.m.z5v hk (by decide),h.m.z4H hk (by decide),he,h.m.z5p hk (by decide),h.m.tmp hk (by decide),h.m.tpg hk (by decide),h.m.pnd,h.m.z7U hs λb hb=> .inl hb⟩ hs (λb hb=> .inl hb) hk
theorem QF.cnt (h:QF w0 P0 w P){a b c:Int}(hB:LX w' P.s (plC {P with h:=a,mi:=b,wr:=c}) 92)(hk:Kp (λb=>b=P.s) w w'):QF w0 P0 w' {P with h:=a,mi:=b,wr:=c}:=by
 have hs:∀i,i≠0->NZ.cp {P with h:=a,mi:=b,wr:=c} i=P.cp i:=λi e=>by
  match i,e with
  |1,_|2,_|3,_|4,_|5,_=>rfl
  |i+6,_=>rfl
 have hk:Kp (P.cp 0) w w':=hk
 exact h.part 0 ⟨hB,h.m.z4H hk (by decide),h.m.text hk (by decide),h.m.z5p hk (by decide),h.m.tmp hk (by decide),h.m.tpg hk (by decide),h.m.pnd,h.m.z7U hs λb hb=> .inl hb⟩ hs (λb hb=> .inl hb) hk
theorem QF.del (h:QF w0 P0 w P){l':List Pg}(hl:l'.Sublist P.l)(hm:P3 KI w' P.pm (Rf l'))(hk:Kp (λb=>b=P.pm) w w'):QF w0 P0 w' {P with l:=l'}:=by
 have hk:Kp (P.cp 4) w w':=hk
 have dp:∀i b,NZ.cp {P with l:=l'} i b->P.cp i b:=λi b hb=>by
  match i,hb with
  |0,e|1,e|2,e|3,e|4,e=>exact e
  |5,⟨g,hg,e⟩=>exact⟨g,hl.subset hg,e⟩
 have hp:=h.m.tpg hk (by decide)
 exact⟨⟨h.m.z5v hk (by decide),h.m.z4H hk (by decide),h.m.text hk (by decide),h.m.z5p hk (by decide),hm,λg hg=>hp g (hl.subset hg),(hl.map _).nodup h.m.pnd,λi j ne b hb bY=>h.m.RT i j ne b (dp i b hb) (dp j b bY)⟩,λb ⟨i,hb⟩=>h.fp b ⟨i,dp i b hb⟩,h.k.LJ hk λb hb=>(h.fp b ⟨4,hb⟩).symm⟩
theorem QF.ins (h:QF w0 P0 w P){g:Pg}(hg:w0.heap.size<=g.b/\∀i,¬P.cp i g.b)(hb:LX w g.b (pgC g.t g.d) 191)(hm:P3 KI w' P.pm (Rf (P.l++[g])))(hk:Kp (λb=>b=P.pm) w w'):QF w0 P0 w' {P with l:=P.l++[g]}:=by
 have hk:Kp (P.cp 4) w w':=hk
 have hp:=h.m.tpg hk (by decide)
 have fR:∀i b,NZ.cp {P with l:=P.l++[g]} i b->P.cp i b\/(i=5/\b=g.b):=λi b hb=>by
  match i,hb with
  |0,e|1,e|2,e|3,e|4,e=>exact .inl e
  | 5, ⟨g', cH, e⟩ =>
    rcases List.mem_append.1 cH with e2|e2
    ·exact .inl ⟨g',e2,e⟩
    ·rw[List.mem_singleton.1 e2] at e;exact .inr ⟨rfl,e.symm⟩
 refine⟨⟨h.m.z5v hk (by decide),h.m.z4H hk (by decide),h.m.text hk (by decide),h.m.z5p hk (by decide),hm,λg' cH=>?_,?_,λi j ne b hb bY=>?_⟩,λb ⟨i,hb⟩=>?_,h.k.LJ hk λb hb=>(h.fp b ⟨4,hb⟩).symm⟩
 ·rcases List.mem_append.1 cH with e| e
  ·exact hp g' e
  ·rw[List.mem_singleton.1 e];exact hk.LN hb (hg.2 4)
 ·show((P.l++[g]).map (·.b)).Nodup;rw[List.map_append,List.nodup_append];refine⟨h.m.pnd,by simp,λa ha b hb e=>?_⟩;obtain⟨g',cH,rfl⟩:=List.mem_map.1 ha;rw[List.map_singleton,List.mem_singleton] at hb;exact hg.2 5 ⟨g',cH,e.trans hb⟩
 ·rcases fR i b hb with e|⟨e,e2⟩
  ·rcases fR j b bY with f|⟨f,f2⟩
   ·exact h.m.RT i j ne b e f
   ·rw[f2] at e;exact hg.2 i e
  ·rcases fR j b bY with f|⟨f,f2⟩
   ·rw[e2] at f;exact hg.2 j f
   ·exact ne (e.trans f.symm)
 ·rcases fR i b hb with e|⟨e,e2⟩
  ·exact h.fp b ⟨i,e⟩
  ·rw[e2];exact .inr hg.1
theorem P8 {α β:Type}{f:α->β}:∀{l:List α},(l.map f).Nodup->∀{a b:α},a∈l->b∈l->f a=f b->a=b
 |[],_,a,b,ha,_,_=>by cases ha
 | x :: l, hn, a, b, ha, hb, e => by
   rw[List.map_cons,List.nodup_cons] at hn;rcases List.mem_cons.1 ha with h1|h1
   ·rcases List.mem_cons.1 hb with h2|h2
    ·rw[h1,h2]
    ·exact absurd (List.mem_map.2 ⟨b,h2,by rw[<-e,h1]⟩) hn.1
   ·rcases List.mem_cons.1 hb with h2|h2
    ·exact absurd (List.mem_map.2 ⟨a,h1,by rw[e,h2]⟩) hn.1
    ·exact P8 hn.2 h1 h2 e
def O7 (l:List Pg)(k:Int)(t:Bytes)(d:Bool):List Pg:=l.map λg=>if g.k=k then {g with t:=t,d:=d} else g
theorem z84 (l:List Pg)(k:Int)(t:Bytes)(d:Bool):Rf (O7 l k t d)=Rf l:=by
 unfold Rf O7
 rw[List.map_map]
 refine List.map_congr_left λg _=>?_
 by_cases h:g.k=k
 ·simp only[Function.comp_apply,if_pos h]
 ·simp only[Function.comp_apply,if_neg h]
theorem Z3 (l:List Pg)(k:Int)(t:Bytes)(d:Bool):(O7 l k t d).map (·.b)=l.map (·.b):=by
 unfold O7
 rw[List.map_map]
 refine List.map_congr_left λg _=>?_
 show Pg.b (if _ then _ else _)=_
 split<;>rfl
theorem QF.zby (h:QF w0 P0 w P){g:Pg}(hg:g∈P.l){t:Bytes}{d:Bool}(hb:LX w' g.b (pgC t d) 191)(hk:Kp (λb=>b=g.b) w w'):QF w0 P0 w' {P with l:=O7 P.l g.k t d}:=by
 have ft:=h.m.mp.nd
 have kL:∀b,(∃g'∈O7 P.l g.k t d,g'.b=b)↔∃g'∈P.l,g'.b=b:=λb=>by
  have e:=Z3 P.l g.k t d;constructor
  ·rintro⟨g',cH,rfl⟩;have:g'.b∈P.l.map (·.b):=by rw[<-e];exact List.mem_map.2 ⟨g',cH,rfl⟩
   obtain⟨g2,a,b⟩:=List.mem_map.1 this;exact⟨g2,a,b⟩
  ·rintro⟨g',cH,rfl⟩;have:g'.b∈(O7 P.l g.k t d).map (·.b):=by rw[e];exact List.mem_map.2 ⟨g',cH,rfl⟩
   obtain⟨g2,a,b⟩:=List.mem_map.1 this;exact⟨g2,a,b⟩
 have hs:∀i,i≠5->NZ.cp {P with l:=O7 P.l g.k t d} i=P.cp i:=λi e=>by
  match i,e with
  |0,_|1,_|2,_|3,_|4,_=>rfl
  |i+6,_=>rfl
 have aj:Kp (P.cp 5) w w':=hk.LZ λb e=>⟨g,hg,e.symm⟩
 have hi:∀b,NZ.cp {P with l:=O7 P.l g.k t d} 5 b->P.cp 5 b:=λb hb=>(kL b).1 hb
 refine h.part 5 ⟨h.m.z5v aj (by decide),h.m.z4H aj (by decide),h.m.text aj (by decide),h.m.z5p aj (by decide),?_,λg' cH=>?_,?_,h.m.z7U hs λb hb=> .inl (hi b hb)⟩ hs (λb hb=> .inl (hi b hb)) aj
 ·show P3 KI w' P.pm (Rf (O7 P.l g.k t d));rw[z84];exact h.m.tmp aj (by decide)
 ·obtain⟨g2,aa,rfl⟩:=List.mem_map.1 cH;by_cases e:g2.k=g.k
  ·rw[if_pos e]
   have e2:g2=g:=by
    unfold Rf at ft;rw[List.map_map] at ft;have Dv:(P.l.map (·.k)).Nodup:=ft;exact P8 Dv aa hg e
   rw[e2];exact hb
  ·rw[if_neg e];have bI:g2.b≠g.b:=λe2=>e (by rw[P8 h.m.pnd aa hg e2]);exact hk.LN (h.m.pg g2 aa) bI
 ·show((O7 P.l g.k t d).map (·.b)).Nodup;rw[Z3];exact h.m.pnd
end
def On (l:List Pg):Nat:=l.countP (·.d)
structure Sh (P:NZ)(txt:Int->Bytes)(K:Nat):Prop where
 aok:P.A.Ok
 asz:P.A.size<=1000
 keys:∀x,x∈P.l.map (·.k)↔P.A.held x
 nd:(P.l.map (·.k)).Nodup
 rng:∀g∈P.l,0<=g.k/\g.k<(P.L.length:Int)
 tx:∀g∈P.l,g.t=txt g.k
 cl:∀g∈P.l,g.d=false->P.D.now g.k=txt g.k
 out:∀x,0<=x->x<(P.L.length:Int)->¬P.A.held x->P.D.now x=txt x
 len:∀x,0<=x->x<(P.L.length:Int)->(txt x).length=512
 down:P.D.down=false
 due:P.D.due=0
 B:P.D.B=P.L.length
 N:P.D.N=1
 ca:P.D.calls+(On P.l:Int)<=(K:Int)
 cc:P.D.cache.length+On P.l<=K
 OM:P.D.OM.length<=17592186044416
def Vf (txt:Int->Bytes)(no:Int)(wt:Option Bytes):Int->Bytes:=λx=>if x=no then wt.getD (txt x) else txt x
theorem Vp (txt:Int->Bytes)(no:Int):Vf txt no none=txt:=by
 funext x
 unfold Vf
 split<;>rfl
theorem Ow (txt:Int->Bytes)(no:Int)(wt:Option Bytes):Vf txt no wt no=wt.getD (txt no):=if_pos rfl
theorem NU (txt:Int->Bytes){no x:Int}(wt:Option Bytes)(h:x≠no):Vf txt no wt x=txt x:=if_neg h
def wN (wt:Option Bytes):Nat:=if wt.isSome then 1 else 0
theorem z0s (D:Dev)(n x:Int)(s:Bytes):((D.push n s).count).now x=if n=x then s else D.now x:=by
 unfold Dev.now Dev.count Dev.push
 dsimp only
 rw[z1K]
 split<;>rfl
theorem Ym (D:Dev)(z:Int)(x:Int):({D with reads:=z}:Dev).now x=D.now x:=rfl
section
variable {P:NZ}{txt:Int->Bytes}{K:Nat}{no:Int}{wt:Option Bytes}
theorem VK (no:Int)(t:Bytes):∀{l:List Pg},(l.map (·.k)).Nodup->On (O7 l no t true)<=On l+1
 |[],_=>Nat.zero_le _
 | g :: l, hn => by
   rw[List.map_cons,List.nodup_cons] at hn;by_cases h:g.k=no
   ·have e:O7 l no t true=l:=by
     unfold O7
     conv=>rhs;rw[<-List.map_id l]
     refine List.map_congr_left λg' cH=>?_;rw[if_neg λe=>hn.1 (List.mem_map.2 ⟨g',cH,by rw[e,h]⟩)];rfl
    have e2:O7 (g::l) no t true={g with t:=t,d:=true}::l:=by
     show(if g.k=no then _ else g)::O7 l no t true=_;rw[if_pos h,e]
    rw[e2];unfold On;rw[List.countP_cons,List.countP_cons];split<;>split<;>omega
   ·have ih:=VK no t hn.2
    have e2:O7 (g::l) no t true=g::O7 l no t true:=by
     show(if g.k=no then _ else g)::O7 l no t true=_;rw[if_neg h]
    rw[e2];unfold On at*;rw[List.countP_cons,List.countP_cons];omega
theorem XQ {l:List Pg}(hn:(l.map (·.k)).Nodup){g:Pg}(hg:g∈l):O7 l g.k g.t g.d=l:=by
 unfold O7
 conv=>rhs;rw[<-List.map_id l]
 refine List.map_congr_left λg' cH=>?_
 by_cases h:g'.k=g.k
 ·rw[if_pos h,P8 hn cH hg h];rfl
 ·rw[if_neg h];rfl
theorem z3q (l:List Pg)(k:Int)(t:Bytes)(d:Bool):(O7 l k t d).map (·.k)=l.map (·.k):=by
 unfold O7
 rw[List.map_map]
 refine List.map_congr_left λg _=>?_
 by_cases h:g.k=k
 ·simp only[Function.comp_apply,if_pos h]
 ·simp only[Function.comp_apply,if_neg h]
theorem Vm {l:List Pg}{k:Int}{t:Bytes}{d:Bool}{g:Pg}(h:g∈O7 l k t d):(g∈l/\g.k≠k)\/(g.k=k/\g.t=t/\g.d=d/\∃g'∈l,g'.k=k):=by
 obtain⟨g',cH,rfl⟩:=List.mem_map.1 h
 by_cases e:g'.k=k
 ·rw[if_pos e];exact .inr ⟨e,rfl,rfl,g',cH,e⟩
 ·rw[if_neg e];exact .inl ⟨cH,e⟩
theorem Sh.hit (h:Sh P txt K){g:Pg}(hg:g∈P.l)(oz:∀t,wt=some t->t.length=512){P':NZ}(hA:P'.A=(P.A.NT g.k).1)(hl:P'.l=O7 P.l g.k (wt.getD g.t) (wt.isSome ||g.d))(hL:P'.L=P.L)(hD:P'.D=P.D):Sh P' (Vf txt g.k wt) (K+wN wt):=by
 have ht:=Arc.WQ h.aok g.k
 have bz:P.A.held g.k:=(h.keys _).1 (List.mem_map.2 ⟨g,hg,rfl⟩)
 have fS:=ht.no (ht.hit.2 bz)
 have ut:∀x,P'.A.held x↔P.A.held x:=λx=>by
  rw[hA,ht.held,fS];constructor
  ·rintro(e|e)
   ·rw[e];exact bz
   ·exact e.1
  ·intro e;exact .inr ⟨e,by simp⟩
 have hr:=h.rng g hg
 have pN:On P'.l<=On P.l+wN wt:=by
  rw[hl]
  cases wt with
  |none=>rw[show(none:Option Bytes).getD g.t=g.t from rfl,show((none:Option Bytes).isSome ||g.d)=g.d from rfl,XQ h.nd hg];exact Nat.le_add_right _ _
  |some t=>exact VK _ _ h.nd
 have Gc:=h.ca
 have Dw:=h.cc
 refine⟨by rw[hA];exact ht.ok,by rw[hA,ht.size];exact h.asz,λx=>by rw[hl,z3q,h.keys,ut],by rw[hl,z3q];exact h.nd,λg' cH=>?_,λg' cH=>?_,λg' cH hd=>?_,λx h0 h1 hx=>?_,λx h0 h1=>?_,by rw[hD];exact h.down,by rw[hD];exact h.due,by rw[hD,hL];exact h.B,by rw[hD];exact h.N,by rw[hD];omega,by rw[hD];omega,by rw[hD];exact h.OM⟩
 ·rw[hL];rw[hl] at cH;rcases Vm cH with e| e
  ·exact h.rng g' e.1
  ·rw[e.1];exact hr
 ·rw[hl] at cH;rcases Vm cH with e| e
  ·rw[NU _ _ e.2];exact h.tx g' e.1
  ·rw[e.1,Ow,e.2.1,h.tx g hg]
 ·rw[hD];rw[hl] at cH;rcases Vm cH with e| e
  ·rw[NU _ _ e.2];exact h.cl g' e.1 hd
  ·rw[e.2.2.1] at hd
   have hw:wt=none:=by
    cases wt with
    |none=>rfl
    |some t=>cases hd
   rw[e.1,hw,Vp];rw[hw] at hd;exact h.cl g hg hd
 ·rw[hL] at h1;rw[ut] at hx;have bI:x≠g.k:=λe=>hx (e▸bz);rw[hD,NU _ _ bI];exact h.out x h0 h1 hx
 ·rw[hL] at h1;by_cases e:x=g.k
  ·rw[e,Ow]
   cases hw:wt with
   |none=>exact h.len _ (e▸h0) (e▸h1)
   |some t=>exact oz t hw
  ·rw[NU _ _ e];exact h.len x h0 h1
def dropPg:List Pg->Int->List Pg
 |[],_=>[]
 |g::l,k=>if g.k=k then l else g::dropPg l k
theorem Ru (g:Pg)(l:List Pg)(k:Int):dropPg (g::l) k=if g.k=k then l else g::dropPg l k:=rfl
theorem YH (l:List Pg)(k:Int):delL (Rf l) k=Rf (dropPg l k):=by
 induction l with
 |nil=>rfl
 | cons g l ih =>
   show(if k=g.k then Rf l else(g.k,ptr g.b 0)::delL (Rf l) k)=_;rw[Ru];by_cases h:k=g.k
   ·rw[if_pos h,if_pos h.symm]
   ·rw[if_neg h,if_neg (λe=>h e.symm),ih];rfl
theorem Pf:∀(l:List Pg) (k:Int),(dropPg l k).Sublist l
 |[],_=>List.Sublist.refl _
 | g :: l, k => by
   rw[Ru];split
   ·exact List.sublist_cons_self _ _
   ·exact(Pf l k).cons_cons _
theorem WW {l:List Pg}(hn:(l.map (·.k)).Nodup)(k x:Int):x∈(dropPg l k).map (·.k)↔x∈l.map (·.k)/\x≠k:=by
 induction l with
 |nil=>simp[dropPg]
 | cons g l ih =>
   rw[List.map_cons,List.nodup_cons] at hn;rw[Ru];by_cases h:g.k=k
   ·rw[if_pos h,List.map_cons,List.mem_cons];constructor
    ·intro e;exact⟨.inr e,λe2=>hn.1 (by rw[h,<-e2];exact e)⟩
    ·rintro⟨e|e,e2⟩
     ·exact absurd (e.trans h) e2
     ·exact e
   ·rw[if_neg h,List.map_cons,List.map_cons,List.mem_cons,List.mem_cons];have:=ih hn.2;rw[this];constructor
    ·rintro(e|e)
     ·exact⟨.inl e,λe2=>h (by rw[<-e,e2])⟩
     ·exact⟨.inr e.1,e.2⟩
    ·rintro⟨e|e,e2⟩
     ·exact .inl e
     ·exact .inr ⟨e,e2⟩
theorem Zr {l:List Pg}{g:Pg}(hn:(l.map (·.k)).Nodup)(hg:g∈l):On (dropPg l g.k)+(if g.d then 1 else 0)=On l:=by
 induction l with
 |nil=>cases hg
 | cons a l ih =>
   rw[List.map_cons,List.nodup_cons] at hn;rw[Ru];by_cases h:a.k=g.k
   ·rw[if_pos h]
    have e:a=g:=by
     rcases List.mem_cons.1 hg with e| e
     ·exact e.symm
     ·exact absurd (List.mem_map.2 ⟨g,e,h.symm⟩) hn.1
    rw[e];unfold On;rw[List.countP_cons]
   ·rw[if_neg h]
    have aa:g∈l:=by
     rcases List.mem_cons.1 hg with e| e
     ·exact absurd (by rw[e]) h
     ·exact e
    have:=ih hn.2 aa;unfold On at*;rw[List.countP_cons,List.countP_cons];omega
structure z8s (P:NZ)(txt:Int->Bytes)(K:Nat)(g:Option Int)(D':Dev)(l':List Pg):Prop where
 now:∀x,0<=x->x<(P.L.length:Int)->x∉l'.map (·.k)->D'.now x=txt x
 cl:∀q∈l',q.d=false->D'.now q.k=txt q.k
 sub:l'.Sublist P.l
 keys:∀x,x∈l'.map (·.k)↔x∈P.l.map (·.k)/\g≠some x
 down:D'.down=false
 due:D'.due=0
 B:D'.B=P.D.B
 N:D'.N=P.D.N
 ca:D'.calls+(On l':Int)<=(K:Int)
 cc:D'.cache.length+On l'<=K
 OM:D'.OM.length<=17592186044416
theorem Sh.zez (h:Sh P txt K):z8s P txt K none P.D P.l:=
 ⟨λx h0 h1 hx=>h.out x h0 h1 λe=>hx ((h.keys x).2 e),h.cl,List.Sublist.refl _,λx=>by simp,h.down,h.due,rfl,rfl,h.ca,h.cc,h.OM⟩
theorem Sh.zcr (h:Sh P txt K){g:Pg}(hg:g∈P.l):z8s P txt K (some g.k) (if g.d then(P.D.push g.k g.t).count else P.D) (dropPg P.l g.k):=by
 have xS:=Zr h.nd hg
 have hk:=WW h.nd g.k
 have Gc:=h.ca
 have Dw:=h.cc
 have dp:=Pf P.l g.k
 have il:∀x,0<=x->x<(P.L.length:Int)->x∉(dropPg P.l g.k).map (·.k)->x=g.k\/¬P.A.held x:=λx h0 h1 hx=>by
  rw[hk,not_and] at hx;by_cases e:x=g.k
  ·exact .inl e
  ·exact .inr λe2=>hx ((h.keys x).2 e2) e
 have fU:∀q∈dropPg P.l g.k,q∈P.l/\q.k≠g.k:=λq hq=>⟨dp.subset hq,((hk q.k).1 (List.mem_map.2 ⟨q,hq,rfl⟩)).2⟩
 have qX:∀x,x∈(dropPg P.l g.k).map (·.k)↔x∈P.l.map (·.k)/\some g.k≠some x:=λx=>by
  rw[hk];simp only[ne_eq,Option.some.injEq];constructor
  ·rintro⟨a,b⟩;exact⟨a,λe=>b e.symm⟩
  ·rintro⟨a,b⟩;exact⟨a,λe=>b e.symm⟩
 cases hd:g.d with
 | true =>
   rw[hd] at xS;rw[if_pos rfl] at xS⊢;refine⟨λx h0 h1 hx=>?_,λq hq sI=>?_,dp,qX,h.down,?_,rfl,rfl,?_,?_,h.OM⟩
   ·rw[z0s];rcases il x h0 h1 hx with e| e
    ·rw[if_pos e.symm,e,h.tx g hg]
    ·by_cases e2:g.k=x
     ·rw[if_pos e2,<-e2,h.tx g hg]
     ·rw[if_neg e2];exact h.out x h0 h1 e
   ·obtain⟨a,b⟩:=fU q hq;rw[z0s,if_neg λe=>b e.symm];exact h.cl q a sI
   ·have:=h.due;show(if P.D.due=0 then(0:Int) else _)=0;rw[if_pos this]
   ·show P.D.calls+1+_<=_;omega
   ·show(P.D.cache++[_]).length+_<=_
    rw[List.length_append,List.length_singleton];omega
 | false =>
   rw[hd] at xS;rw[if_neg (by simp)] at xS⊢;refine⟨λx h0 h1 hx=>?_,λq hq sI=>?_,dp,qX,h.down,h.due,rfl,rfl,by omega,by omega,h.OM⟩
   ·rcases il x h0 h1 hx with e| e
    ·rw[e];exact h.cl g hg hd
    ·exact h.out x h0 h1 e
   ·exact h.cl q (fU q hq).1 sI
theorem Sh.zdX (h:Sh P txt K)(h0:0<=no)(h1:no<(P.L.length:Int))(hh:¬P.A.held no)(oz:∀t,wt=some t->t.length=512){D':Dev}{l':List Pg}(hg:z8s P txt K (P.A.NT no).2.2 D' l'){P':NZ}{b:Nat}{z:Int}
  (hA:P'.A=(P.A.NT no).1) (hl:P'.l=l'++[⟨no,b,wt.getD (txt no),wt.isSome⟩]) (hL:P'.L=P.L) (hD:P'.D={D' with reads:=z}):Sh P' (Vf txt no wt) (K+wN wt):=by
 have ht:=Arc.WQ h.aok no
 have J9:=hg.ca
 have Ja:=hg.cc
 have mf:∀x,x∈P'.l.map (·.k)↔x=no\/x∈l'.map (·.k):=λx=>by
  rw[hl,List.map_append,List.mem_append,List.map_singleton,List.mem_singleton,or_comm]
 have ut:∀x,P'.A.held x↔x=no\/x∈l'.map (·.k):=λx=>by
  rw[hA,ht.held,hg.keys,h.keys]
 have lw:no∉l'.map (·.k):=λe=>hh ((h.keys no).1 ((hg.keys no).1 e).1)
 have pN:On P'.l=On l'+wN wt:=by
  rw[hl];unfold On wN;rw[List.countP_append,List.countP_singleton]
 refine⟨by rw[hA];exact ht.ok,by rw[hA,ht.size];exact h.asz,λx=>by rw[mf,ut],?_,λg jk=>?_,λg jk=>?_,λg jk hd=>?_,λx x0 x1 hx=>?_,λx x0 x1=>?_,by rw[hD];exact hg.down,by rw[hD];exact hg.due,by rw[hD,hL];exact hg.B.trans h.B,by rw[hD];exact hg.N.trans h.N,by rw[hD];show D'.calls+_<=_;omega,by rw[hD];show D'.cache.length+_<=_;omega,by rw[hD];exact hg.OM⟩
 ·rw[hl,List.map_append,List.nodup_append];refine⟨(hg.sub.map _).nodup h.nd,by simp,λa ha c hc e=>?_⟩;rw[List.map_singleton,List.mem_singleton] at hc;exact lw (by rw[<-show a=no from e.trans hc];exact ha)
 ·rw[hL];rw[hl] at jk;rcases List.mem_append.1 jk with e| e
  ·exact h.rng g (hg.sub.subset e)
  ·rw[List.mem_singleton.1 e];exact⟨h0,h1⟩
 ·rw[hl] at jk;rcases List.mem_append.1 jk with e| e
  ·rw[NU _ _ (λe2=>lw (by rw[<-e2];exact List.mem_map.2 ⟨g,e,rfl⟩))];exact h.tx g (hg.sub.subset e)
  ·rw[List.mem_singleton.1 e,Ow]
 ·rw[hD,Ym];rw[hl] at jk;rcases List.mem_append.1 jk with e| e
  ·rw[NU _ _ (λe2=>lw (by rw[<-e2];exact List.mem_map.2 ⟨g,e,rfl⟩))];exact hg.cl g e hd
  ·rw[List.mem_singleton.1 e] at hd⊢
   have hw:wt=none:=by
    cases wt with
    |none=>rfl
    |some t=>cases hd
   rw[hw,Vp];exact hg.now no h0 h1 lw
 ·rw[hL] at x1;rw[ut,not_or] at hx;rw[hD,Ym,NU _ _ hx.1];exact hg.now x x0 x1 hx.2
 ·rw[hL] at x1;by_cases e:x=no
  ·rw[e,Ow]
   cases hw:wt with
   |none=>exact h.len _ h0 h1
   |some t=>exact oz t hw
  ·rw[NU _ _ e];exact h.len x x0 x1
end
section
variable {w w' w0:World}{P P0 P':NZ}{S:Nat->Prop}{txt:Int->Bytes}{K:Nat}
theorem QP.cells (h:QP w P):LX w P.s [ptr P.d 0,ptr P.m 0,ptr P.c 0,.map (some P.pm),I (P.fr:Int),I P.h,I P.mi,I P.wr,I 0,I 0,I 0,.bool false] 92:=h.LN
theorem Sh.zb8 (h:Sh P txt K):P.D.Small K:=⟨by have:=h.ca;omega,by have:=h.cc;omega,trivial,h.OM⟩
theorem Xr (h:QP w P)(hN:P.D.N=1):Mm Tryz.prog 44 [ptr P.s 0] w λv w'=>v=I 512/\w'=w:=by
 have hB:=h.cells
 have cz:=z57 h.dev
 rw[hN] at cz
 refine It (e:=[(0,_)]) Tryz.func44 rfl Tryz.ntmps44 rfl rfl (qN rfl (LU rfl (run_seq (qN rfl (LM rfl (qV (MU T7 rfl rfl) (LO (An rfl (py (qN rfl (LM rfl (Mp rfl (M0 SI rfl ?_)))))))))))))
 refine qV (LR U26 rfl rfl hB rfl) (Mb zb2 rfl (cz) ?_)
 rintro _ w ⟨rfl,rfl⟩
 refine LU rfl (LP Tryz.func44 rfl ?_)
 exact⟨_,rfl,rfl,rfl⟩
theorem z5i (h:QP w P):Mm Tryz.prog 109 [ptr P.s 0] w λv w'=>v=ptr P.d 0/\w'=w:=by
 have hB:=h.cells
 refine It (e:=[(0,_)]) Tryz.func109 rfl Tryz.ntmps109 rfl rfl (qN rfl (LU rfl (run_seq (qN rfl (LM rfl (qV (MU T7 rfl rfl) (LO (An rfl (py (qN rfl (LM rfl (Mp rfl (M0 SI rfl ?_)))))))))))))
 refine qV (LR U26 rfl rfl hB rfl) (LU rfl (LP Tryz.func109 rfl ?_))
 exact⟨_,rfl,rfl,rfl⟩
theorem W9 (h:QP w P)(hd:P.D.down=false):Mm Tryz.prog 89 [ptr P.s 0] w λv w'=>v=I 0/\w'=w:=by
 have hB:=h.cells
 have pN:=z5s h.dev
 rw[hd] at pN
 refine It (e:=[(0,_)]) Tryz.func89 rfl Tryz.ntmps89 rfl rfl (qN rfl (LU rfl (run_seq (LK (qN rfl (LM rfl (qV (MU T7 rfl rfl) (LU rfl (An rfl (qN rfl (LM rfl (Mp rfl (M0 z7R rfl ?_)))))))))))))
 refine qV (LR U4 rfl rfl hB rfl) (M4 rfl rfl (Mp rfl (M0 SI rfl (qV (LR U26 rfl rfl hB rfl) (Mb zdG rfl (pN) ?_)))))
 rintro _ w ⟨rfl,rfl⟩
 refine ME rfl rfl (LU rfl (An rfl (py (LL (qN rfl (LU rfl (LP Tryz.func89 rfl ?_)))))))
 exact⟨_,rfl,rfl,rfl⟩
theorem z0P (h:QP w P)(sQ:P.D.Small K)(pN:P.D.down=false)(Jb:P.D.due=0)(Jc:P.D.B=P.L.length)(km:P.D.N=1)(hK:K<1000000000000){b:Nat}{t:Bytes}{d:Bool}{no:Int}(h0:0<=no)(h1:no<(P.L.length:Int))(ht:t.length=512)(hb:LX w b (pgC t d) 191)(lR:∀i,¬P.cp i b):
  Mm Tryz.prog 126 [ptr P.s 0,I no,ptr b 0] w λv w'=>v=I 0/\∃Fd' wr',QP w' {P with D:=if d then(P.D.push no t).count else P.D,Fd:=Fd',wr:=wr'}/\Kp (λj=>j=b\/P.cp 0 j\/P.cp 1 j) w w'/\(∀j,Fd' j->P.Fd j\/w.heap.size<=j):=by
 replace hb:LX w b [S t,.bool d,I 0] 191:=hb
 have hB:=h.cells
 have hg:=Ext.Ma w
 have qo:P.s≠b:=λe=>lR 0 e.symm
 have Gd:¬P.Fd P.s:=λe=>h.RT 0 1 (by decide) P.s rfl e
 have Dx:¬P.Fd b:=lR 1
 refine It (e:=[(0,_),(1,_),(2,_)]) Tryz.func126 rfl Tryz.ntmps126 rfl rfl ?_
 cases d with
 | false =>
   refine qN rfl (LU rfl (run_seq (qN rfl (LM rfl (Mp rfl (M0 S6 rfl (M0 Z9 rfl (qV (LR U4 rfl rfl hb rfl) (qV ((by first|exact ML rfl|exact Oh rfl)) ?_)))))))));refine LO (M3 rfl (qN rfl (LU rfl (LP Tryz.func126 rfl (⟨_,rfl,rfl,P.Fd,P.wr,?_,Kp.refl _ _,λj e=> .inl e⟩)))));rw[if_neg (by simp)]
   exact h
 | true =>
   refine qN rfl (LU rfl (run_seq (qN rfl (LM rfl (Mp rfl (M0 S6 rfl (M0 Z9 rfl (qV (LR U4 rfl rfl hb rfl) (qV ((by first|exact ML rfl|exact Oh rfl)) ?_)))))))));have Dy:=z1V no t (h.dev.ext hg) sQ hK;rw[z6a pN Jb ⟨h0,by rw[Jc];exact h1⟩ (by rw[km];exact ht)] at Dy;dsimp only at Dy;refine LO (An rfl (py (run_seq (run_seq (NF (λw'=>Kp P.Fd w w') rfl (M9 0 rfl rfl (hg.kp) (LS 1 rfl (MS rfl) (hg.kp) (LS 2 rfl (Mo SI rfl) (hg.kp) (qT 3 rfl (λ_ h=>(by first|exact LR U26 rfl rfl (h.LN hB Gd) rfl|exact LR U26 rfl rfl (h.LN hb Dx) rfl)) (hg.kp) ?_)))))))));refine M9 4 rfl rfl (hg.kp) (M9 5 rfl rfl (hg.kp) (LS 6 rfl (MS rfl) (hg.kp) (LS 7 rfl (Mo S6 rfl) (hg.kp) (LS 8 rfl (Mo Zy rfl) (hg.kp) (qT 9 rfl (λ_ h=>(by first|exact LR U9 rfl rfl (h.LN hB Gd) rfl|exact LR U9 rfl rfl (h.LN hb Dx) rfl)) (hg.kp) ?_)))));refine Pw 10 rfl zdh rfl (Dy) ?_;rintro _ w1 ⟨rfl,mG⟩;refine⟨hg.kp.trans mG.kpF,?_⟩;obtain⟨Fd',cP,o6⟩:=((h.r (Ext.refl w)).ext hg).dev mG;have aK:Kp P.Fd w w1:=hg.kp.trans mG.kpF;have pj:∀j,Fd' j->P.Fd j\/w.heap.size<=j:=λj e=>(o6 j e).imp id λe=>by have:=hg.size;omega
   refine LS 11 rfl (NK rfl) (hg.kp.trans mG.kpF) (qE (qN rfl (LM rfl (MY rfl rfl ?_))));have ai:=cP.m.cells;refine LO (An rfl (py (qN rfl (LM rfl (Mp rfl (M0 Vr rfl (M0 z6b rfl (qV (LR U3 rfl rfl ai rfl) (qV (z88 rfl rfl) (Mp rfl (M0 Vr rfl (M0 z6b rfl (M1 rfl (NC MO rfl rfl rfl ai (by simp)) ?_)))))))))))));rintro w2 ⟨am,ao⟩;obtain⟨z,hz⟩:∃z,IntKind.i64.wrap (P.wr+1)=z:=⟨_,rfl⟩;rw[hz] at am;have dx:=cP.cnt (a:=P.h) (b:=P.mi) (c:=z) am ao;have bY:=ao.LN (aK.LN hb Dx) (λe=>qo e.symm);refine LO (Mn.qb (e:=[(2,_),(6,_)]) ?_);refine qN rfl (LM rfl (Mp rfl (M0 S6 rfl (M0 Z9 rfl (M1 rfl (NC RX rfl rfl rfl bY (by simp)) ?_)))));rintro w3 ⟨en,ar⟩
   have Dz:∀i,¬NZ.cp {P with D:=(P.D.push no t).count,Fd:=Fd',h:=P.h,mi:=P.mi,wr:=z} i b:=λi e=>by
    match i,e with
    |0,e=>exact lR 0 e
    | 1, e =>
      rcases pj b e with e| e
      ·exact lR 1 e
      ·have:=hb.lt;omega
    |2,e=>exact lR 2 e
    |3,e=>exact lR 3 e
    |4,e=>exact lR 4 e
    |5,e=>exact lR 5 e
   refine qM rfl (LU rfl (LP Tryz.func126 rfl (⟨_,rfl,rfl,Fd',z,?_,?_,pj⟩)))
   ·rw[if_pos rfl];exact dx.m.kp ar λj ⟨i,hj⟩ e=>Dz i (e▸hj)
   ·exact((aK.LZ λj e=> .inr (.inr e)).trans (ao.LZ λj e=> .inr (.inl e))).trans (ar.LZ λj e=> .inl e)
end
structure NZ.Same (P P':NZ):Prop where
 s:P'.s=P.s
 d:P'.d=P.d
 m:P'.m=P.m
 gi:P'.gi=P.gi
 c:P'.c=P.c
 pm:P'.pm=P.pm
 p:P'.p=P.p
 fr:P'.fr=P.fr
 L:P'.L=P.L
theorem NZ.Same.trans {P P' P2:NZ}(h:P.Same P')(h2:P'.Same P2):P.Same P2:=
 ⟨h2.s.trans h.s,h2.d.trans h.d,h2.m.trans h.m,h2.gi.trans h.gi,h2.c.trans h.c,h2.pm.trans h.pm,h2.p.trans h.p,h2.fr.trans h.fr,h2.L.trans h.L⟩
theorem Xy {l:List Pg}{k:Int}{b:Nat}{t0 t:Bytes}{d0 d:Bool}(h:k∉l.map (·.k)):O7 (l++[⟨k,b,t0,d0⟩]) k t d=l++[⟨k,b,t,d⟩]:=by
 unfold O7
 rw[List.map_append]
 congr 1
 ·conv=>rhs;rw[<-List.map_id l]
  refine List.map_congr_left λg hg=>?_;rw[if_neg λe=>h (List.mem_map.2 ⟨g,hg,e⟩)];rfl
 ·show [if k=k then _ else _]=_;rw[if_pos rfl]
section
variable {w w' w0:World}{P P0 P':NZ}{S':Nat->Prop}{txt:Int->Bytes}{K:Nat}
theorem QP.get (h:QP w P){q:Pg}(hq:q∈P.l):getL (Rf P.l) q.k=some (ptr q.b 0):=
 z0J h.mp.nd (List.mem_map.2 ⟨q,hq,rfl⟩)
theorem QF.write (h:QF w0 P0 w P){D':Dev}{Fd':Nat->Prop}{wr':Int}{b:Nat}(hm:QP w' {P with D:=D',Fd:=Fd',wr:=wr'})(hk:Kp (λj=>j=b\/P.cp 0 j\/P.cp 1 j) w w')(hF:∀j,Fd' j->P.Fd j\/w.heap.size<=j)(hb:P0.fp b\/w0.heap.size<=b):QF w0 P0 w' {P with D:=D',Fd:=Fd',wr:=wr'}:=
 ⟨hm,λj ⟨i,hj⟩=>by
  match i,hj with
  |0,e=>exact h.fp j ⟨0,e⟩
  | 1, e =>
    rcases hF j e with e| e
    ·exact h.fp j ⟨1,e⟩
    ·exact .inr (by have:=h.k.size;omega)
  |2,e=>exact h.fp j ⟨2,e⟩
  |3,e=>exact h.fp j ⟨3,e⟩
  |4,e=>exact h.fp j ⟨4,e⟩
  |5,e=>exact h.fp j ⟨5,e⟩,h.k.LJ hk λj e=>by
  rcases e with e|e| e
  ·rw[e];exact hb.symm
  ·exact(h.fp j ⟨0,e⟩).symm
  ·exact(h.fp j ⟨1,e⟩).symm⟩
theorem W5 (hr : QF w0 P0 w P)(hI : Sh P txt K)(hK : K < 1000000000000){no : Int}(h0 : 0 <= no)(h1 : no < (P.L.length : Int))(wt : Option Bytes)(oz : ∀ t, wt = some t -> t.length = 512){x : Nat}{x0 : Value}(il : w0.heap.size <= x)(eh : ∀ i, ¬ P.cp i x)(eR : LX w x [x0] 9){f : Nat}(oE : CF Tryz.prog f)
  (DA:∀(w1:World) (b:Nat) (t:Bytes) (d:Bool),b≠x->LX w1 b (pgC t d) 191->LX w1 x [x0] 9->Mm Tryz.prog f [ptr b 0,ptr x 0] w1 λv w2=>v= .tuple #[]/\LX w2 b (pgC (wt.getD t) (wt.isSome ||d)) 191/\LX w2 x [S (wt.getD t)] 9/\Kp (λj=>j=if wt.isSome then b else x) w1 w2):
  Mm Tryz.prog 90 [ptr P.s 0,I no,.bool wt.isSome,.func (.func f) #[] #[ptr x 0]] w λv w'=>v=I 0/\LX w' x [S (wt.getD (txt no))] 9/\∃P',QF w0 P0 w' P'/\Sh P' (Vf txt no wt) (K+wN wt)/\P.Same P'/\∀i,¬P'.cp i x:=by
 have hB:=hr.m.cells
 have ff:=SR hr.m.dev
 rw[hI.B] at ff
 have lx:=eR.lt
 have fV:=Arc.WQ hI.aok no
 obtain⟨T,hT⟩:∃T,P.A.NT no=T:=⟨_,rfl⟩
 have eD:=z2w hr.m.arc hI.aok hI.asz (k:=no)
 rw[hT] at fV eD
 obtain⟨A2,hit,g⟩:=T
 dsimp only at fV eD
 have n4096:=hr.m.ext.n
 refine It (e:=[(0,_),(1,_),(2,_),(3,_)]) Tryz.func90 rfl Tryz.ntmps90 rfl rfl (qN rfl (LU rfl (run_seq (qN rfl (LM rfl (Nr rfl rfl (MC (M4 rfl rfl (LM rfl (Mp rfl (M0 SI rfl (qV (LR U26 rfl rfl hB rfl) (Mb z0R rfl (ff) ?_)))))))))))))
 rintro _ w ⟨rfl,rfl⟩
 refine PQ rfl rfl (MC (ME rfl rfl (LO (An rfl (py (qN rfl (LM rfl (Mp rfl (M0 z89 rfl (qV (LR U89 rfl rfl hB rfl) (LM rfl (Mb zcx rfl (eD) ?_))))))))))))
 rintro _ w1 ⟨rfl,V2,qY⟩
 have cP:=hr.arc qY
 have DB:=qY.k.LN eR (eh 3)
 have z1:=qY.k.size
 refine LM rfl (qV (NO (v:=z9h hit g) rfl rfl) (qV (NO (v:=I 0) rfl rfl) (LV rfl rfl (O9 (cs:=[_,_,_]) Mr rfl) ?_)))
 rintro _ w2 ⟨b9,rfl,o8,af,cB⟩
 have z2:=af.size
 refine M1 rfl (MD (news:=O0 hit g) Mr rfl rfl rfl rfl cB (by simp)) ?_
 rintro w3 ⟨ci,ar⟩
 replace ci:LX w3 b9 [.bool hit,.bool g.isSome,I (g.getD 0)] 232:=ci
 have aO:Ext w1 w3:=af.LJ ar (λj e=>by omega)
 have c6:=cP.ext aO
 have xT:=aO.LN DB
 have z01:=cP.k.size
 have z13:=aO.size
 have ey:∀i,¬NZ.cp {P with A:=A2,V:=V2} i x:=λi e=>by
  match i,e with
  |0,e=>exact eh 0 e
  |1,e=>exact eh 1 e
  |2,e=>exact eh 2 e
  | 3, e =>
    rcases qY.fp x e with e| e
    ·exact eh 3 e
    ·omega
  |4,e=>exact eh 4 e
  |5,e=>exact eh 5 e
 have xU:∀i,¬NZ.cp {P with A:=A2,V:=V2} i b9:=cP.m.new (by omega)
 have Ll:b9≠x:=by omega
 have l93:=ci.lt
 have j6:=c6.m.cells
 dsimp only at j6
 refine LU rfl (Mn.qb (e:=[(0,_),(1,_),(2,_),(3,_),(8,_),(9,_),(10,_)]) ?_)
 refine run_seq (qN rfl (LM rfl (MY rfl rfl (LO (An rfl (py (run_seq (qN rfl (M0 z8I rfl ?_)))))))))
 cases hit with
 | true =>
   have bz:=fV.hit.1 rfl
   obtain⟨q,hq,DC⟩:∃q∈P.l,q.k=no:=by
    obtain⟨q,a,b⟩:=List.mem_map.1 ((hI.keys no).2 bz);exact⟨q,a,b⟩
   subst DC;refine qV (LR U4 rfl rfl ci rfl) (LO (M3 rfl (qN rfl (LM rfl (Mp rfl (M0 Vr rfl (M0 z6h rfl (qV (LR U3 rfl rfl j6 rfl) (qV (z88 rfl rfl) (Mp rfl (M0 Vr rfl (M0 z6h rfl (M1 rfl (NC MO rfl rfl rfl j6 (by simp)) ?_)))))))))))));rintro w4 ⟨aM,ax⟩;obtain⟨z,hz⟩:∃z,IntKind.i64.wrap (P.h+1)=z:=⟨_,rfl⟩;rw[hz] at aM;have bD:=c6.cnt (a:=z) (b:=P.mi) (c:=P.wr) aM ax;have fW:=bD.m.cells;dsimp only at fW;have pO:=ax.LN xT (eh 0);have eE:=bD.m.get hq;dsimp only at eE;have qn:LX w4 q.b (pgC q.t q.d) 191:=bD.m.pg q hq;have te:q.b≠x:=λe=>eh 5 ⟨q,hq,e⟩;refine qM rfl (M4 rfl rfl (Mp rfl (M0 TZ rfl (qV (LR ZV rfl rfl fW rfl) (LM rfl (qV (ylk (k:=q.k) (K:=KI) ZV (Oy U3) z7F rfl rfl bD.m.mp.l) ?_))))));dsimp only;rw[eE];refine Nj rfl rfl (OC oE rfl rfl) (DA w4 q.b q.t q.d te qn pO) ?_;rintro _ w5 ⟨rfl,DD,pP,aj⟩;refine LO (Mn.qb (e:=[(0,_),(1,_),(2,_),(3,_),(8,_),(9,_),(10,_)]) ?_);refine qN rfl (LU rfl (LP Tryz.func90 rfl ?_));have DE:=hI.tx q hq;refine⟨_,rfl,rfl,by rw[<-DE];exact pP,?_⟩
   cases wt with
   | none =>
     have xV:∀i,¬NZ.cp {P with A:=A2,V:=V2,h:=z,mi:=P.mi,wr:=P.wr} i x:=λi e2=>by
      match i,e2 with
      |0,e2=>exact ey 0 e2
      |1,e2=>exact ey 1 e2
      |2,e2=>exact ey 2 e2
      |3,e2=>exact ey 3 e2
      |4,e2=>exact ey 4 e2
      |5,e2=>exact ey 5 e2
     refine⟨_,bD.loc aj (λj e=>⟨.inr (by rw[show j=x from e];exact il),by rw[show j=x from e];exact xV⟩),hI.hit hq oz (by rw[hT]) ?_ rfl rfl,⟨rfl,rfl,rfl,rfl,rfl,rfl,rfl,rfl,rfl⟩,xV⟩;show P.l=O7 P.l q.k q.t q.d
     exact(XQ hI.nd hq).symm
   | some t =>
     refine⟨_,bD.zby hq DD aj,hI.hit hq oz (by rw[hT]) rfl rfl rfl,⟨rfl,rfl,rfl,rfl,rfl,rfl,rfl,rfl,rfl⟩,λi e2=>?_⟩
     match i,e2 with
     |0,e2=>exact ey 0 e2
     |1,e2=>exact ey 1 e2
     |2,e2=>exact ey 2 e2
     |3,e2=>exact ey 3 e2
     |4,e2=>exact ey 4 e2
     | 5, ⟨g', cH, e2⟩ =>
       have h3:g'.b∈P.l.map (·.b):=by rw[<-Z3 P.l q.k];exact List.mem_map.2 ⟨g',cH,rfl⟩
       obtain⟨g2,a,b⟩:=List.mem_map.1 h3
       exact ey 5 ⟨g2,a,b.trans e2⟩
 | false =>
   have DF:¬P.A.held no:=λe=>by have:=fV.hit.2 e;cases this
   refine qV (LR U4 rfl rfl ci rfl) (LO (An rfl (py (qN rfl (LM rfl (Mp rfl (M0 Vr rfl (M0 z7C rfl (qV (LR U3 rfl rfl j6 rfl) (qV (z88 rfl rfl) (Mp rfl (M0 Vr rfl (M0 z7C rfl ?_)))))))))))));refine M1 rfl (NC MO rfl rfl rfl j6 (by simp)) ?_;rintro w4 ⟨aM,ax⟩;obtain⟨z,hz⟩:∃z,IntKind.i64.wrap (P.mi+1)=z:=⟨_,rfl⟩;rw[hz] at aM;have bD:=c6.cnt (a:=P.h) (b:=z) (c:=P.wr) aM ax;have fW:=bD.m.cells;dsimp only at fW;have pO:=ax.LN xT (eh 0);have zS:b9≠P.s:=λe=>xU 0 e;have kg:=ax.LN ci zS;have z4:=ax.size;refine LO (run_seq (qN rfl (M0 z8O rfl (qV (LR U4 rfl rfl kg rfl) (LO ?_)))))
   have Jd:∀(D':Dev) (Fd':Nat->Prop) (l':List Pg) (wr':Int),(∀j,Fd' j->P.Fd j\/w.heap.size<=j)->l'.Sublist P.l->∀b,(∀i,¬NZ.cp {P with A:=A2,V:=V2} i b)->b<w.heap.size\/(∀j,Fd' j->j≠b)->∀i,¬NZ.cp {P with A:=A2,V:=V2,D:=D',Fd:=Fd',l:=l',mi:=z,wr:=wr'} i b:=λD' Fd' l' wr' hF hl b hb bY i e=>by
    match i,e with
    |0,e=>exact hb 0 e
    | 1, e =>
      rcases bY with h| h
      ·rcases hF b e with e| e
       ·exact hb 1 e
       ·omega
      ·exact h b e rfl
    |2,e=>exact hb 2 e
    |3,e=>exact hb 3 e
    |4,e=>exact hb 4 e
    |5,⟨q,hq,e⟩=>exact hb 5 ⟨q,hl.subset hq,e⟩
   refine MA (λe' w'=>e'=[(0,ptr P.s 0),(1,I no),(2,.bool wt.isSome),(3,.func (.func f) #[] #[ptr x 0])]/\∃D' Fd' l' wr',QF w0 P0 w' {P with A:=A2,V:=V2,D:=D',Fd:=Fd',l:=l',mi:=z,wr:=wr'}/\z8s P txt K g D' l'/\LX w' x [x0] 9/\(∀j,Fd' j->P.Fd j\/w.heap.size<=j/\j≠x)) ?eV (λeV=>?kl)
   case eV =>
    rintro e' w5 ⟨rfl,D',Fd',l',wr',bZ,dT,pP,ui⟩;have lw:no∉l'.map (·.k):=λe=>DF ((hI.keys no).1 ((dT.keys no).1 e).1);have z5:=bZ.k.size;have lx5:=pP.lt
    have ez:∀i,¬NZ.cp {P with A:=A2,V:=V2,D:=D',Fd:=Fd',l:=l',mi:=z,wr:=wr'} i x:=λi e=>by
     match i,e with
     |0,e=>exact eh 0 e
     | 1, e =>
       rcases ui x e with e| e
       ·exact eh 1 e
       ·exact e.2 rfl
     |2,e=>exact eh 2 e
     |3,e=>exact ey 3 e
     |4,e=>exact eh 4 e
     |5,⟨q,hq,e⟩=>exact eh 5 ⟨q,dT.sub.subset hq,e⟩
    refine qN rfl (qV (OJ (cs:=[_,_,_]) zbz rfl zcn rfl rfl) (LV rfl rfl (NN rfl (cs:=pgC [] false) rfl) ?_));rintro _ w6 ⟨b,rfl,hb,aN,aX⟩;replace aX:LX w6 b [S [],.bool false,I 0] 191:=aX;have cx:=bZ.ext aN;have nG:=aN.LN pP;have nH:b≠x:=by omega
    have fX:∀i,¬NZ.cp {P with A:=A2,V:=V2,D:=D',Fd:=Fd',l:=l',mi:=z,wr:=wr'} i b:=bZ.m.new (by omega);have lb6:=aX.lt
    have xW:getL (Rf l') no=none:=YU λe=>lw (by
     unfold Rf at e;rw[List.map_map] at e
     exact e)
    refine LU rfl (run_seq (qN rfl (LM rfl (qV ((by first|exact ML rfl|exact Oh rfl)) ?_))))
    cases wt with
    | none =>
      refine LO (M3 rfl ?_);have lX:=cx.m.cells;dsimp only at lX;have dQ:=z5x no cx.m.dev (k:=K) ⟨by have:=dT.ca;show D'.calls<=_;omega,by have:=dT.cc;show D'.cache.length<=_;omega,trivial,dT.OM⟩ hK
      have Je:D'.read no=({D' with reads:=IntKind.i64.wrap (D'.reads+1)},txt no,0):=by
       have hh:D'.has no=true:=by
        have:=dT.B;have:=hI.B;simp[Dev.has];omega
       unfold Dev.read;rw[if_neg (by rw[dT.down];simp),if_neg (by rw[hh];simp),dT.now no h0 h1 lw]
      dsimp only at dQ;rw[Je] at dQ;dsimp only at dQ;refine qN rfl (M4 rfl rfl (Mp rfl (M0 SI rfl (qV (LR U26 rfl rfl lX rfl) (LM rfl (Mb zbm rfl (dQ) ?_))))));rintro _ w7 ⟨rfl,qQ⟩;obtain⟨Fd7,xX,xY⟩:=cx.dev qQ;have gY:Kp Fd' w6 w7:=qQ.kpF;have bN:=gY.LN aX (fX 1);have tf:=gY.LN nG (ez 1);refine LM rfl (qV (NO (v:=S (txt no)) rfl rfl) (qV (NO (v:=I 0) rfl rfl) (Mp rfl (M0 S6 rfl (M0 Zy rfl (M1 rfl (NC YZ rfl rfl rfl bN (by simp)) ?_))))));rintro w8 ⟨ce,bj⟩;replace ce:LX w8 b (pgC (txt no) false) 191:=ce
      have th:∀i,¬NZ.cp {P with A:=A2,V:=V2,D:={D' with reads:=IntKind.i64.wrap (D'.reads+1)},Fd:=Fd7,l:=l',mi:=z,wr:=wr'} i b:=λi e=>by
       match i,e with
       |0,e=>exact fX 0 e
       | 1, e =>
         rcases xY b e with e| e
         ·exact fX 1 e
         ·omega
       |2,e=>exact fX 2 e
       |3,e=>exact fX 3 e
       |4,e=>exact fX 4 e
       |5,e=>exact fX 5 e
      have ko:∀i,¬NZ.cp {P with A:=A2,V:=V2,D:={D' with reads:=IntKind.i64.wrap (D'.reads+1)},Fd:=Fd7,l:=l',mi:=z,wr:=wr'} i x:=λi e=>by
       match i,e with
       |0,e=>exact ez 0 e
       | 1, e =>
         rcases xY x e with e| e
         ·exact ez 1 e
         ·have:=nG.lt;omega
       |2,e=>exact ez 2 e
       |3,e=>exact ez 3 e
       |4,e=>exact ez 4 e
       |5,e=>exact ez 5 e
      have fm:=xX.loc bj (λj e=>by rw[show j=b from e];exact⟨.inr (by omega),th⟩);have DG:=bj.LN tf (λe=>nH e.symm);have xZ:=fm.m.cells;dsimp only at xZ;refine M6 rfl (qM rfl (LM rfl (MY rfl rfl (LO (Mn.qb (e:=[(0,_),(1,_),(3,_),(10,_),(13,_),(106,_)]) ?_)))));refine An rfl (py (qN rfl (LM rfl (Mp rfl (M0 TZ rfl (qV (LR ZV rfl rfl xZ rfl) (M4 rfl rfl (M1 rfl (zaw (k:=no) (K:=KI) ZV (Oy U3) rfl rfl rfl fm.m.mp) ?_))))))));rintro w9 ⟨mn,aL⟩;dsimp only at mn;rw[R1 _ _ _ xW] at mn;have gG:=fm.ins (g:=⟨no,b,txt no,false⟩) ⟨by dsimp only;omega,th⟩ ce (by unfold Rf at mn⊢;rw[List.map_append];exact mn) aL;have cB:=aL.LN ce (th 4);have ti:=aL.LN DG (ko 4);refine qM rfl (M4 rfl rfl (Nj rfl rfl (OC oE rfl rfl) (DA w9 b (txt no) false nH cB ti) ?_));rintro _ w10 ⟨rfl,qZ,nI,aw⟩;refine qM rfl (LU rfl (LP Tryz.func90 rfl ?_))
      have xV:∀i,¬NZ.cp {P with A:=A2,V:=V2,D:={D' with reads:=IntKind.i64.wrap (D'.reads+1)},Fd:=Fd7,l:=l'++[⟨no,b,txt no,false⟩],mi:=z,wr:=wr'} i x:=λi e2=>by
       match i,e2 with
       |0,e2=>exact ko 0 e2
       |1,e2=>exact ko 1 e2
       |2,e2=>exact ko 2 e2
       |3,e2=>exact ko 3 e2
       |4,e2=>exact ko 4 e2
       | 5, ⟨q, hq, e2⟩ =>
         rcases List.mem_append.1 hq with e3|e3
         ·exact ko 5 ⟨q,e3,e2⟩
         ·rw[List.mem_singleton.1 e3] at e2;exact nH e2
      exact⟨_,rfl,rfl,nI,_,gG.loc aw (λj e=>⟨.inr (by rw[show j=x from e];exact il),by rw[show j=x from e];exact xV⟩),hI.zdX h0 h1 DF oz (by rw[hT];exact dT) (by rw[hT]) rfl rfl rfl,⟨rfl,rfl,rfl,rfl,rfl,rfl,rfl,rfl,rfl⟩,xV⟩
    | some t =>
      refine LO (An rfl ?_);have lX:=cx.m.cells;dsimp only at lX;refine py (qN rfl (LM rfl (Mp rfl (M0 TZ rfl (qV (LR ZV rfl rfl lX rfl) (M4 rfl rfl (M1 rfl (zaw (k:=no) (K:=KI) ZV (Oy U3) rfl rfl rfl cx.m.mp) ?_)))))));rintro w9 ⟨mn,aL⟩;dsimp only at mn;rw[R1 _ _ _ xW] at mn;have gG:=cx.ins (g:=⟨no,b,[],false⟩) ⟨by dsimp only;omega,fX⟩ aX (by unfold Rf at mn⊢;rw[List.map_append];exact mn) aL;have cB:=aL.LN aX (fX 4);have ti:=aL.LN nG (ez 4);refine qM rfl (M4 rfl rfl (Nj rfl rfl (OC oE rfl rfl) (DA w9 b [] false nH cB ti) ?_));rintro _ w10 ⟨rfl,qZ,nI,aw⟩;refine qM rfl (LU rfl (LP Tryz.func90 rfl ?_));have nn:=gG.zby (g:=⟨no,b,[],false⟩) (List.mem_append_right _ (List.mem_singleton.2 rfl)) qZ aw;refine⟨_,rfl,rfl,nI,_,nn,hI.zdX h0 h1 DF oz (by rw[hT];exact dT) (by rw[hT]) (Xy lw) rfl rfl,⟨rfl,rfl,rfl,rfl,rfl,rfl,rfl,rfl,rfl⟩,λi e2=>?_⟩
      match i,e2 with
      |0,e2=>exact ez 0 e2
      |1,e2=>exact ez 1 e2
      |2,e2=>exact ez 2 e2
      |3,e2=>exact ez 3 e2
      |4,e2=>exact ez 4 e2
      | 5, ⟨q, hq, e2⟩ =>
        have e4:=Xy (b:=b) (t0:=[]) (t:=(some t).getD []) (d0:=false) (d:=(some t).isSome ||false) lw;have Jf:q∈l'++[⟨no,b,(some t).getD [],(some t).isSome ||false⟩]:=by rw[<-e4];exact hq
        rcases List.mem_append.1 Jf with e3|e3
        ·exact ez 5 ⟨q,e3,e2⟩
        ·rw[List.mem_singleton.1 e3] at e2;exact nH e2
   case kl=>
    cases g with
    | none =>
      refine An rfl (py ?_)
      exact(eV _ _ ⟨rfl,_,_,_,P.wr,bD,hI.zez,pO,λj e=> .inl e⟩).qb
    | some gk =>
      obtain⟨Jg,Jh⟩:=fV.gone gk rfl
      obtain⟨q,hq,DC⟩:∃q∈P.l,q.k=gk:=by
       obtain⟨q,a,b⟩:=List.mem_map.1 ((hI.keys gk).2 Jg);exact⟨q,a,b⟩
      subst DC;have eE:=bD.m.get hq;dsimp only at eE;have ae:=Ext.Ma w4;refine M3 rfl (run_seq (NF (λw'=>Ext w4 w') rfl (M9 0 rfl rfl (ae) (LS 1 rfl (MS rfl) ae (LS 2 rfl (Mo TZ rfl) ae (qT 3 rfl (λ_ h=>(by first|exact LR ZV rfl rfl (h.LN fW) rfl|exact LR ZV rfl rfl (h.LN kg) rfl)) ae ?_))))));refine LS 4 rfl (Mo ZC rfl) ae (qT 5 rfl (λ_ h=>(by first|exact LR U3 rfl rfl (h.LN fW) rfl|exact LR U3 rfl rfl (h.LN kg) rfl)) ae ?_);refine qT 6 rfl (λ_ h=>ylk (k:=q.k) (K:=KI) ZV (Oy U3) z7F rfl rfl (bD.m.ext' h).mp.l) ae ?_;dsimp only;rw[eE];refine LS 7 rfl (NK rfl) ae (qE (Mn.qb (e:=[(0,_),(1,_),(2,_),(3,_),(8,_),(9,_),(10,_),(11,_)]) ?_));refine run_seq ?_;have dS:=Ext.Ma w4.drew;have kq:=ae.LN fW;have gB:=ae.LN kg;have bZ:=bD.ext (ae.trans dS);refine Me [6] (λw'=>Ext w4.drew w') (by kernel_rfl) rfl (qL [1,2,3,6] 0 rfl (λ_ h=>My rfl) dS (qL [2,3,6] 1 rfl (λ_ h=>MS rfl) dS (qL [3,6] 2 rfl (λ_ h=>Mo TZ rfl) dS (qL [6] 3 rfl (λ_ h=>(by first|exact LR ZV rfl rfl (h.LN kq) rfl|exact LR ZV rfl rfl (h.LN gB) rfl)) dS ?_))));refine qL [5,6] 4 rfl (λ_ h=>Mo ZC rfl) dS (qL [6] 5 rfl (λ_ h=>(by first|exact LR U3 rfl rfl (h.LN kq) rfl|exact LR U3 rfl rfl (h.LN gB) rfl)) dS ?_);refine Pv [6] (qO 6 (z7y (i:=6) rfl rfl (zb1 (k:=q.k) (K:=KI) ZV (Oy U3) rfl rfl bZ.m.mp rfl) ?_));rintro _ w6 ⟨uu,aR⟩;refine⟨trivial,?_⟩;dsimp only at uu;rw[YH] at uu;have cx:=bZ.del (Pf P.l q.k) uu aR;have DH:LX w4 q.b (pgC q.t q.d) 191:=bD.m.pg q hq;have y4:q.b≠P.pm:=λe=>bD.m.RT 5 4 (by decide) q.b ⟨q,hq,rfl⟩ e;have rX:=aR.LN ((ae.trans dS).LN DH) y4
      have fX:∀i,¬NZ.cp {P with A:=A2,V:=V2,h:=P.h,mi:=z,wr:=P.wr,l:=dropPg P.l q.k} i q.b:=λi e=>by
       match i,e with
       |0,e=>exact bD.m.RT 5 0 (by decide) q.b ⟨q,hq,rfl⟩ e
       |1,e=>exact bD.m.RT 5 1 (by decide) q.b ⟨q,hq,rfl⟩ e
       |2,e=>exact bD.m.RT 5 2 (by decide) q.b ⟨q,hq,rfl⟩ e
       |3,e=>exact bD.m.RT 5 3 (by decide) q.b ⟨q,hq,rfl⟩ e
       |4,e=>exact y4 e
       | 5, ⟨q2, gy, e⟩ =>
         have e2:q2=q:=P8 bD.m.pnd ((Pf P.l q.k).subset gy) hq e;have:=((WW hI.nd q.k q2.k).1 (List.mem_map.2 ⟨q2,gy,rfl⟩)).2;exact this (by rw[e2])
      have pQ:=hI.rng q hq;have DE:=hI.tx q hq;have wI:q.t.length=512:=by rw[DE];exact hI.len q.k pQ.1 pQ.2
      have nG:=aR.LN ((ae.trans dS).LN pO) (ey 4);have lX:=cx.m.cells;have DI:=aR.LN ((ae.trans dS).LN kg) (xU 4);have z46:=(ae.trans dS).size;have z56:=aR.size;refine qE (qN rfl (LM rfl (M0 ZC rfl (qV (LR U3 rfl rfl DI rfl) (LM rfl (Mb zcM rfl (z0P cx.m hI.zb8 hI.down hI.due hI.B hI.N hK pQ.1 pQ.2 wI rX fX) ?_))))));rintro _ w7 ⟨rfl,Fd7,wr7,fT,aA,xY⟩;have xX:=cx.write fT aA xY (bD.fp q.b ⟨5,q,hq,rfl⟩);have te:q.b≠x:=λe=>eh 5 ⟨q,hq,e⟩
      have tf:=aA.LN nG (λe=>by
       rcases e with e|e| e
       ·exact te e.symm
       ·exact eh 0 e
       ·exact eh 1 e)
      refine M6 rfl (qM rfl (LM rfl (MY rfl rfl (LO (An rfl (py ?_))))));exact(eV _ _ ⟨rfl,_,Fd7,_,wr7,xX,hI.zcr hq,tf,λj e=>(xY j e).imp id λe=>⟨by omega,by omega⟩⟩).qb
end
section
variable {w w' w0:World}{P P0 P':NZ}{S':Nat->Prop}{txt:Int->Bytes}{K:Nat}
theorem z5Z {b x:Nat}{t:Bytes}{d:Bool}{x0:Value}(eR:b≠x)(hb:LX w b (pgC t d) 191)(hx:LX w x [x0] 9):Mm Tryz.prog 91 [ptr b 0,ptr x 0] w λv w2=>v= .tuple #[]/\LX w2 b (pgC t d) 191/\LX w2 x [S t] 9/\Kp (λj=>j=x) w w2:=by
 replace hb:LX w b [S t,.bool d,I 0] 191:=hb
 refine It (e:=[(0,_),(1,_)]) Tryz.func91 rfl Tryz.ntmps91 rfl rfl (LQ rfl (LM rfl (Mp rfl (M0 S6 rfl (M0 Zy rfl (qV (LR U9 rfl rfl hb rfl) (M1 rfl (NC YZ rfl rfl rfl hx (by simp)) ?_)))))))
 rintro w1 ⟨ad,aK⟩
 refine LO (N9 Tryz.func91 rfl ?_)
 exact⟨_,rfl,rfl,aK.LN hb eR,ad,aK⟩
theorem z33 {b x:Nat}{t s:Bytes}{d:Bool}(eR:b≠x)(hb:LX w b (pgC t d) 191)(hx:LX w x [S s] 9):Mm Tryz.prog 92 [ptr b 0,ptr x 0] w λv w2=>v= .tuple #[]/\LX w2 b (pgC s true) 191/\LX w2 x [S s] 9/\Kp (λj=>j=b) w w2:=by
 replace hb:LX w b [S t,.bool d,I 0] 191:=hb
 refine It (e:=[(0,_),(1,_)]) Tryz.func92 rfl Tryz.ntmps92 rfl rfl (LQ rfl (LM rfl (qV (LR U9 rfl rfl hx rfl) (qV (OJ (cs:=[_,_]) z3z rfl zcZ rfl rfl) (Mp rfl (M0 S6 rfl (M1 rfl (MD (news:=[S s,.bool true]) z3z rfl rfl rfl rfl hb (by simp)) ?_)))))))
 rintro w1 ⟨bR,aK⟩
 refine LO (N9 Tryz.func92 rfl ?_)
 exact⟨_,rfl,rfl,bR,aK.LN hx (λe=>eR e.symm),aK⟩
theorem z2s (hm:QP w P)(hI:Sh P txt K)(hK:K<1000000000000){no:Int}(h0:0<=no)(h1:no<(P.L.length:Int)):Mm Tryz.prog 60 [ptr P.s 0,I no] w λv w'=>v= .tuple #[S (txt no),I 0]/\∃P',QF w P w' P'/\Sh P' txt K/\P.Same P':=by
 refine It (e:=[(0,_),(1,_)]) Tryz.func60 rfl Tryz.ntmps60 rfl rfl (qN rfl (LV rfl rfl (O9 (cs:=[_]) YZ rfl) ?_))
 rintro _ w1 ⟨x,rfl,hx,ad,hB⟩
 have cP:=hm.r ad
 have eh:∀i,¬P.cp i x:=hm.new (by omega)
 refine LU rfl (run_seq (qN rfl (LM rfl (Mb zdQ rfl (W9 cP.m hI.down) ?_))))
 rintro _ w1 ⟨rfl,rfl⟩
 refine M6 rfl (qM rfl (LM rfl (MY rfl rfl (LO (An rfl (py (qN rfl (M4 rfl rfl (qV (ZU (first:=[]) (caps:=[.tmp 4]) rfl rfl) (Mb ze4 rfl (W5 cP hI hK h0 h1 none (λt e=>by cases e) (by omega) eh hB zf5 (λw1 b t d eR hb hx=>z5Z eR hb hx)) ?_))))))))))
 rintro _ w2 ⟨rfl,am,P',dx,cy,cS,y5⟩
 rw[Vp] at cy
 replace am:LX w2 x [S (txt no)] 9:=am
 refine M6 rfl (qM rfl (qV (LR U9 rfl rfl am rfl) (LM rfl (M1 rfl (NC YZ rfl rfl rfl am (by simp)) ?_))))
 rintro w3 ⟨aq,ar⟩
 replace aq:LX w3 x [S (txt no)] 9:=aq
 refine LU rfl (Mj Tryz.func60 (.cell1 U9 rfl rfl ((aq).cell _) (.tmp rfl .nil)) ?_)
 exact⟨_,rfl,rfl,P',dx.loc ar (λj e=>by rw[show j=x from e];exact⟨.inr (by omega),y5⟩),cy,cS⟩
theorem z5J (hm:QP w P)(hI:Sh P txt K)(hK:K<1000000000000){no:Int}(h0:0<=no)(h1:no<(P.L.length:Int))(t:Bytes)(ht:t.length=512):Mm Tryz.prog 61 [ptr P.s 0,I no,S t] w λv w'=>v=I 0/\∃P',QF w P w' P'/\Sh P' (Vf txt no (some t)) (K+1)/\P.Same P':=by
 refine It (e:=[(0,_),(1,_),(2,_)]) Tryz.func61 rfl Tryz.ntmps61 rfl rfl (qN rfl (LV rfl rfl (NN rfl (cs:=[S t]) rfl) ?_))
 rintro _ w1 ⟨x,rfl,hx,ad,hB⟩
 have cP:=hm.r ad
 have eh:∀i,¬P.cp i x:=hm.new (by omega)
 refine LU rfl (run_seq (qN rfl (LM rfl (Mb zdQ rfl (W9 cP.m hI.down) ?_))))
 rintro _ w1 ⟨rfl,rfl⟩
 refine M6 rfl (qM rfl (LM rfl (MY rfl rfl ?_)))
 have hg:=Ext.Ma w1
 refine LO (An rfl (py (run_seq (run_seq (NF (λw'=>Ext w1 w') rfl (qT 0 rfl (λ_ h=>LR U9 rfl rfl (h.LN hB) rfl) hg (LS 1 rfl (Ra U9 rfl) hg (M9 2 rfl rfl (hg) (Pw 3 rfl z0m rfl (Xr (cP.m.ext' hg) hI.N) ?_)))))))))
 rintro _ w2 ⟨rfl,rfl⟩
 refine⟨hg,?_⟩
 refine LS 4 rfl (yne rfl rfl) hg (QG (qE (An rfl (py (qN rfl (M4 rfl rfl (qV (ZU (first:=[]) (caps:=[.tmp 5]) rfl rfl) (Mb ze4 rfl (W5 (cP.ext hg) hI hK h0 h1 (some t) (λs e=>by cases e;exact ht) (by omega) eh (hg.LN hB) zeU (λw1 b t2 d eR hb hx=>z33 eR hb hx)) ?_))))))))
 rintro _ w2 ⟨rfl,am,P',dx,cy,cS,y5⟩
 refine LU rfl (LP Tryz.func61 rfl ?_)
 exact⟨_,rfl,rfl,P',dx,cy,cS⟩
theorem z2i (hm:QP w P){a n:Nat}(hp:Pre P.L a)(cK:1<=n)(oy:a+n<=P.L.length):Mm Tryz.prog 45 [ptr P.s 0,I (n:Int)] w λv w'=>v= .tuple #[.agg #[I (a:Int),I (n:Int)],I 0]/\QF w P w' {P with L:=NI P.L a n true}:=by
 refine It (e:=[(0,_),(1,_)]) Tryz.func45 rfl Tryz.ntmps45 rfl rfl (qN rfl (LV rfl rfl (O9 (cs:=[_,_]) Ox rfl) ?_))
 rintro _ w1 ⟨x,rfl,hx,ad,hB⟩
 have cP:=hm.r ad
 have eh:∀i,¬P.cp i x:=hm.new (by omega)
 have gR:=cP.m.cells
 refine LU rfl (run_seq (qN rfl (LM rfl (qV (MU T7 rfl rfl) (LO (An rfl (py (qN rfl (LM rfl (Mp rfl (M0 z6U rfl (qV (LR Ya rfl rfl gR rfl) (LM rfl ?_)))))))))))))
 refine Mb zfb rfl (z1k cP.m.ext hp cK oy) ?_
 rintro _ w2 ⟨rfl,dz,ao⟩
 have dx:=cP.exM dz ao
 have am:=ao.LN hB (λe=>eh 2 (.inr e))
 refine qV (NO (v:= .agg #[I (a:Int),I (n:Int)]) rfl rfl) (qV (NO (v:=I 0) rfl rfl) (M1 rfl (MD (news:=[I (a:Int),I (n:Int)]) Ox rfl rfl rfl rfl am (by simp)) ?_))
 rintro w3 ⟨aq,ar⟩
 replace aq:LX w3 x [I (a:Int),I (n:Int)] 97:=aq
 refine LU rfl (Mj Tryz.func45 (.cell U97 rfl Ox rfl (LX.cells (n:=2) aq (news:=[_,_]) rfl) rfl (.tmp rfl .nil)) ?_)
 refine⟨_,rfl,rfl,dx.loc ar (λj e=>by
  rw[show j=x from e];refine⟨.inr (by omega),λi e2=>?_⟩
  match i,e2 with
  |0,e2=>exact eh 0 e2
  |1,e2=>exact eh 1 e2
  |2,e2=>exact eh 2 e2
  |3,e2=>exact eh 3 e2
  |4,e2=>exact eh 4 e2
  |5,e2=>exact eh 5 e2)⟩
theorem Sh.Ni (h:Sh P txt K){L':List Bool}(hl:L'.length=P.L.length):Sh {P with L:=L'} txt K:=
 ⟨h.aok,h.asz,h.keys,h.nd,λg hg=>by rw[hl];exact h.rng g hg,h.tx,h.cl,λx h0 h1=>by rw[hl] at h1;exact h.out x h0 h1,λx h0 h1=>by rw[hl] at h1;exact h.len x h0 h1,h.down,h.due,h.B.trans hl.symm,h.N,h.ca,h.cc,h.OM⟩
theorem z58 {d m gi:Nat}{L:List Bool}{Fd:Nat->Prop}(hd:Sq w d (Dev.fresh L.length 1) Fd)(he:Tv w m gi L)(zT:¬Fd m/\¬Fd gi)(n:Nat)(cK:1<=n)(gW:n<=1000):Mm Tryz.prog 23 [ptr d 0,I (n:Int),ptr m 0] w λv w'=>∃P,v= .tuple #[ptr P.s 0,I 0]/\QP w' P/\Sh P (λ_=>zeros 512) 0/\P.m=m/\P.gi=gi/\P.L=L/\(∀b,P.fp b->Fd b\/b=m\/b=gi\/w.heap.size<=b)/\Ext w w':=by
 refine It (e:=[(0,_),(1,_),(2,_)]) Tryz.func23 rfl Tryz.ntmps23 rfl rfl (qN rfl (M6 rfl (LU rfl (run_seq (LK (qN rfl (LM rfl (qV (MU U26 rfl rfl) (M4 rfl rfl (qV (MU Ya rfl rfl) (ME rfl rfl (LU rfl (An rfl ?_)))))))))))))
 refine qN rfl (LM rfl (Nr rfl rfl (MC (M4 rfl rfl (Nc rfl rfl (MC (ME rfl rfl (LU rfl (An rfl (py (LL (qN rfl (LM rfl ?_)))))))))))))
 refine Mb zeR rfl (z7x n cK (by omega) w) ?_
 rintro _ w1 ⟨c,V,p,rfl,kF,iB,ad⟩
 refine LM rfl (qV (NO (v:=ptr c 0) rfl rfl) (qV (NO (v:=I 0) rfl rfl) (M6 rfl (LU rfl (Mn.qb (e:=[(0,_),(1,_),(2,_),(6,_),(7,_),(8,_),(9,_)]) ?_)))))
 refine run_seq (qN rfl (LM rfl (MY rfl rfl (LO (An rfl (py (qN rfl (M4 rfl rfl (LM rfl (LV rfl rfl (pmm) ?_))))))))))
 rintro _ w2 ⟨pm,rfl,IV,af,cE⟩
 have mh:P3 KI w2 pm []:=P3.new cE
 have lpm:=mh.lt
 refine LM rfl (qV (OJ (cs:=[_,_,_,_,_,_,_]) zb3 rfl zeF rfl rfl) (qV (OJ (cs:=[_,_,_,_,_,_,_,_,_,_,_,_]) zfN rfl zfP rfl rfl) (LV rfl rfl (NN rfl (cs:=plC ⟨0,d,m,gi,c,pm,p,n,V,Dev.fresh L.length 1,z2X n,[],L,Fd,0,0,0⟩) rfl) ?_)))
 rintro _ w3 ⟨s,rfl,hs,ah,aq⟩
 refine M6 rfl (LU rfl (LP Tryz.func23 rfl ?_))
 have z1:=ad.size
 have z2:=af.size
 have dy:=af.trans ah
 have cI:=ad.trans dy
 have mO:=kF.ext dy
 have DJ:∀{b:Nat},OY c V p b->b<w1.heap.size:=kF.lt
 have DK:=hd.lt
 have ltm:=he.ltm
 have ltg:=he.ltg
 refine⟨_,rfl,⟨s,d,m,gi,c,pm,p,n,V,Dev.fresh L.length 1,z2X n,[],L,Fd,0,0,0⟩,rfl,⟨aq,hd.ext cI,he.ext cI,mO,mh.ext ah,(λg hg=>by cases hg),List.nodup_nil,?_⟩,⟨z8E cK,gW,λx=>?_,List.nodup_nil,(λg hg=>by cases hg),(λg hg=>by cases hg),(λg hg=>by cases hg),λx _ _ _=>rfl,λx _ _=>by simp[zeros],rfl,rfl,rfl,rfl,Int.le_refl _,Nat.le_refl _,Nat.zero_le _⟩,rfl,rfl,rfl,λb ⟨i,hb⟩=>?_,cI⟩
 ·intro i j ne b hb bY
  have cls:∀i,NZ.cp ⟨s,d,m,gi,c,pm,p,n,V,Dev.fresh L.length 1,z2X n,[],L,Fd,0,0,0⟩ i b->(i=0/\b=s)\/(i=1/\Fd b/\b<w.heap.size)\/(i=2/\(b=m\/b=gi)/\b<w.heap.size)\/(i=3/\w.heap.size<=b/\b<w1.heap.size)\/(i=4/\b=pm):=λi hb=>by
   match i,hb with
   |0,e=>exact .inl ⟨rfl,e⟩
   |1,e=>exact .inr (.inl ⟨rfl,e,DK b e⟩)
   |2,e=>exact .inr (.inr (.inl ⟨rfl,e,by have e':b=m\/b=gi:=e;omega⟩))
   |3,e=>exact .inr (.inr (.inr (.inl ⟨rfl,iB b e,DJ e⟩)))
   |4,e=>exact .inr (.inr (.inr (.inr ⟨rfl,e⟩)))
   |5,⟨g,hg,e⟩=>cases hg
  have h1:=cls i hb;have h2:=cls j bY;rcases h1 with⟨e,h1⟩|⟨e,h1,i5⟩|⟨e,h1,i5⟩|⟨e,h1,i5⟩|⟨e,h1⟩<;>rcases h2 with⟨f,h2⟩|⟨f,h2,oA⟩|⟨f,h2,oA⟩|⟨f,h2,oA⟩|⟨f,h2⟩<;>first|omega|skip
  ·rcases h2 with e| e
   ·exact zT.1 (e▸h1)
   ·exact zT.2 (e▸h1)
  ·rcases h1 with e| e
   ·exact zT.1 (e▸h2)
   ·exact zT.2 (e▸h2)
 ·constructor
  ·intro e;cases e
  ·intro e;rcases e with e|e<;>cases e
 ·match i,hb with
  |0,e=>exact .inr (.inr (.inr (by have:b=s:=e;omega)))
  |1,e=>exact .inl e
  |2,e=>rcases e with e|e;exact .inr (.inl e);exact .inr (.inr (.inl e))
  |3,e=>exact .inr (.inr (.inr (iB b e)))
  |4,e=>exact .inr (.inr (.inr (by have:b=pm:=e;omega)))
  |5,⟨g,hg,e⟩=>cases hg
end
theorem z5m {l:List (Int×Bytes)}{n:Int}{t:Bytes}(h:SA l n=some t):∃x∈l,x.2=t:=by
 unfold SA at h
 obtain⟨x,hx,e⟩:=Option.map_eq_some_iff.1 h
 exact⟨x,List.mem_reverse.1 (List.mem_of_find?_eq_some hx),e⟩
theorem Dev.Ok.z8r {D:Dev}(h:D.Ok)(n:Int):(D.now n).length=512*D.N:=by
 unfold Dev.now
 cases hl:SA D.cache n with
 |none=>exact h.kept n
 | some t =>
   obtain⟨x,hx,rfl⟩:=z5m hl;exact(h.cache x hx).2.2
section
variable {w w' w0:World}{P P0 P':NZ}{S':Nat->Prop}{txt:Int->Bytes}{K:Nat}
theorem Sh.zer (h:Sh P txt K)(au:P.D.Ok){k:Int}:Sh {P with A:=P.A.drop k,l:=dropPg P.l k} (λx=>if x=k then P.D.now k else txt x) K:=by
 have hk:=WW h.nd k
 have dp:=Pf P.l k
 have bz:=Arc.z5G h.aok k
 have Gc:=h.ca
 have Dw:=h.cc
 have xS:On (dropPg P.l k)<=On P.l:=dp.countP_le
 have fU:∀q∈dropPg P.l k,q∈P.l/\q.k≠k:=λq hq=>⟨dp.subset hq,((hk q.k).1 (List.mem_map.2 ⟨q,hq,rfl⟩)).2⟩
 refine⟨h.aok.drop k,h.asz,λx=>by dsimp only;rw[hk,bz,h.keys],(dp.map _).nodup h.nd,λq hq=>h.rng q (fU q hq).1,λq hq=>?_,λq hq hd=>?_,λx h0 h1 hx=>?_,λx h0 h1=>?_,h.down,h.due,h.B,h.N,by dsimp only;omega,by dsimp only;omega,h.OM⟩
 ·rw[if_neg (fU q hq).2];exact h.tx q (fU q hq).1
 ·rw[if_neg (fU q hq).2];exact h.cl q (fU q hq).1 hd
 ·dsimp only at h1 hx⊢;rw[bz,not_and] at hx;by_cases e:x=k
  ·rw[if_pos e,e]
  ·rw[if_neg e];exact h.out x h0 h1 λe2=>hx e2 e
 ·dsimp only at h1⊢;by_cases e:x=k
  ·rw[if_pos e,au.z8r,h.N]
  ·rw[if_neg e];exact h.len x h0 h1
theorem Sh.TU (h:Sh P txt K)(hA:P'.A=P.A)(hl:P'.l=P.l)(hD:P'.D=P.D)(hL:P'.L=P.L):Sh P' txt K:=by
 obtain⟨a1,a2,a3,a4,a5,a6,a7,a8,a9,b1,b2,b3,b4,b5,b6,b7⟩:=h
 constructor<;>simp only[hA,hl,hD,hL]<;>assumption
theorem QP.dok (h:QP w P):P.D.Ok:=by
 obtain⟨m,kp,ca,h1,-⟩:=h.dev
 exact h1.ok
theorem z4U (l:List Pg)(k:Int):(k∉l.map (·.k)/\getL (Rf l) k=none)\/∃q∈l,q.k=k/\getL (Rf l) k=some (ptr q.b 0):=by
 induction l with
 |nil=>exact .inl ⟨by simp,rfl⟩
 | cons g l ih =>
   show _\/_;by_cases h:k=g.k
   ·exact .inr ⟨g,List.mem_cons_self,h.symm,if_pos h⟩
   ·have e:getL (Rf (g::l)) k=getL (Rf l) k:=if_neg h;rw[e];rcases ih with⟨a,b⟩|⟨q,a,b,c⟩
    ·exact .inl ⟨by simp[h] at a⊢;exact a,b⟩
    ·exact .inr ⟨q,List.mem_cons_of_mem _ a,b,c⟩
theorem z1L (hm : QP w P)(hI : Sh P txt K){s n : Nat}(cK : 1 <= n)(i8 : s + n <= P.L.length) : Mm Tryz.prog 83 [ptr P.s 0, .agg #[I (s : Int), I (n : Int)]] w λv w' => v = I 0 /\ ∃ P' txt', QF w P w' P' /\ Sh P' txt' K /\ (∀ x : Int, x < (s : Int) \/ (s : Int) + (n : Int) <= x -> txt' x = txt x) /\ P.Same P' := by
 have dO:=hm.ext.n
 have gR:=hm.cells
 refine It (e:=[(0,_),(1,_)]) Tryz.func83 rfl Tryz.ntmps83 rfl rfl (qN rfl (LV rfl rfl (NN rfl (cs:=[I (s:Int),I (n:Int)]) rfl) ?_))
 rintro _ w1 ⟨b3,rfl,en,ad,aq⟩
 have cP:=hm.r ad
 have lH:∀i,¬P.cp i b3:=hm.new (by omega)
 have iy:=ad.LN gR
 have hg:=Ext.Ma w1
 have ff:=SR (cP.m.dev.ext hg)
 rw[hI.B] at ff
 refine LU rfl (run_seq (LK (qN rfl (LM rfl (qV (MU T7 rfl rfl) (LU rfl (An rfl (qN rfl (LM rfl (Mp rfl (M0 z7R rfl (qV (LR U4 rfl rfl iy rfl) (LU rfl ?_)))))))))))))
 refine An rfl (run_seq (NF (λw'=>Ext w1 w') rfl (LS 0 rfl (Mo O5 rfl) hg (qT 1 rfl (λ_ h=>(by first|exact LR U3 rfl rfl (h.LN aq) rfl|exact LR U3 rfl rfl (h.LN iy) rfl)) hg ?_))))
 refine LS 2 rfl (XF rfl rfl) hg (QG (M9 3 rfl rfl (hg) (LS 4 rfl (Mo NR rfl) hg (qT 5 rfl (λ_ h=>(by first|exact LR U3 rfl rfl (h.LN aq) rfl|exact LR U3 rfl rfl (h.LN iy) rfl)) hg ?_))))
 refine LS 6 rfl (XF rfl rfl) hg (QG (LS 7 rfl (R8 rfl rfl) hg (M9 8 rfl rfl (hg) (LS 9 rfl (Mo NR rfl) hg (qT 10 rfl (λ_ h=>(by first|exact LR U3 rfl rfl (h.LN aq) rfl|exact LR U3 rfl rfl (h.LN iy) rfl)) hg ?_)))))
 refine M9 11 rfl rfl (hg) (LS 12 rfl (MS rfl) hg (LS 13 rfl (Mo SI rfl) hg (qT 14 rfl (λ_ h=>(by first|exact LR U26 rfl rfl (h.LN aq) rfl|exact LR U26 rfl rfl (h.LN iy) rfl)) hg ?_)))
 refine Pw 15 rfl z0R rfl (ff) ?_
 rintro _ w2 ⟨rfl,rfl⟩
 refine⟨hg,?_⟩
 refine LS 16 rfl (yge rfl rfl) hg (QG (LS 17 rfl (R8 rfl rfl) hg (M9 18 rfl rfl (hg) (LS 19 rfl (Mo O5 rfl) hg (qT 20 rfl (λ_ h=>(by first|exact LR U3 rfl rfl (h.LN aq) rfl|exact LR U3 rfl rfl (h.LN iy) rfl)) hg ?_)))))
 refine M9 21 rfl rfl (hg) (LS 22 rfl (MS rfl) hg (LS 23 rfl (Mo SI rfl) hg (qT 24 rfl (λ_ h=>(by first|exact LR U26 rfl rfl (h.LN aq) rfl|exact LR U26 rfl rfl (h.LN iy) rfl)) hg ?_)))
 refine LS 26 rfl (Mo NR rfl) hg (qT 27 rfl (λ_ h=>(by first|exact LR U3 rfl rfl (h.LN aq) rfl|exact LR U3 rfl rfl (h.LN iy) rfl)) hg ?_)
 refine Pw 25 rfl z0R rfl (ff) ?_
 rintro _ w2 ⟨rfl,rfl⟩
 refine⟨hg,?_⟩
 refine LS 28 rfl (TF rfl rfl (by omega)) hg (LS 29 rfl (UZ rfl rfl) hg (QG (LS 30 rfl (R8 rfl rfl) hg (LS 31 rfl (NK rfl) hg ?_))))
 obtain⟨w2,kT⟩:∃w2,w1.drew=w2:=⟨_,rfl⟩
 rw[kT] at hg⊢
 have cX:=hg.LN aq
 have dx:=cP.ext hg
 have j7:=hg.LN iy
 have l3:=cX.lt
 refine qE (Mn.qb (e:=[(0,_),(3,_),(4,_),(16,_)]) ?_)
 refine An rfl (py (LL (run_seq (qN rfl (M0 O5 rfl (qV (LR U3 rfl rfl cX rfl) (LM rfl (LO (LK (Oe (α:=Nat) (0) (λi=>[(0,ptr P.s 0),(3,ptr b3 0),(49,I (n:Int)),(50,I (i:Int))]) (λi w'=>Ext w2 w'/\i<=n) (λi=>n-i) ?hI ?hround))))))))))
 case hI=>exact⟨Ext.refl _,Nat.zero_le _⟩
 case hround =>
  rintro i w3 ⟨ah,hi⟩ ih;have c6:=dx.ext ah;have j6:=ah.LN j7;have df:=ah.LN cX;have ag:=Ext.Ma w3
  try dsimp only
  refine qN rfl (Nr rfl rfl (LO (run_seq (LY rfl (λh0=>?_) (λh0=>?_)))))
  ·refine py (run_seq (LK (qN rfl (LM rfl (LU rfl (run_seq (NF (λw'=>Ext w3 w') rfl (M9 0 rfl rfl (ag) (LS 1 rfl (MS rfl) ag (LS 2 rfl (Mo TZ rfl) ag (qT 3 rfl (λ_ h=>(by first|exact LR ZV rfl rfl (h.LN df) rfl|exact LR ZV rfl rfl (h.LN j6) rfl)) ag ?_)))))))))));refine LS 4 rfl (Mo NR rfl) ag (qT 5 rfl (λ_ h=>(by first|exact LR U3 rfl rfl (h.LN df) rfl|exact LR U3 rfl rfl (h.LN j6) rfl)) ag ?_);refine M9 6 rfl rfl (ag) (LS 7 rfl (R9 rfl rfl (by omega)) ag ?_);rw[show(s:Int)+(i:Int)=((s+i:Nat):Int) by omega];refine qT 8 rfl (λ_ hS=>ylk (k:=((s+i:Nat):Int)) (K:=KI) ZV (Oy U3) z7F rfl rfl (c6.m.ext' hS).mp.l) ag ?_;rcases z4U P.l ((s+i:Nat):Int) with⟨-,eE⟩|⟨q,hq,-,eE⟩
   ·rw[eE];refine LS 9 rfl (NK rfl) ag (qE (qN rfl (LM rfl (qV (z0j zbQ rfl rfl) (LM rfl (qS (qS (qS (qS (qS (ME rfl rfl (LO (An rfl ?_)))))))))))));refine py (LL (LQ rfl (MK rfl rfl (LM rfl (LO ?_)))));exact(ih (i+1) _ ⟨ah.trans ag,by omega⟩ (by omega)).qb
   ·rw[eE];have qn:=(ag.LN (c6.m.pg q hq):LX w3.drew q.b [S q.t,.bool q.d,I 0] 191);refine LS 9 rfl (NK rfl) ag (qE (qN rfl (LM rfl (qV (z0j zbQ rfl rfl) (M4 rfl rfl (Mp rfl (M0 z8S rfl (qV (LR U3 rfl rfl qn rfl) (Nc rfl rfl (MC (NB rfl rfl (LO (An rfl ?_)))))))))))));refine py (LL (LQ rfl (MK rfl rfl (LM rfl (LO ?_)))));exact(ih (i+1) _ ⟨ah.trans ag,by omega⟩ (by omega)).qb
  ·have aY : i = n := by omega
   subst aY;refine LW rfl (run_seq (qN rfl (M0 O5 rfl (qV (LR U3 rfl rfl df rfl) (LM rfl (LO (LK (Oe (α:=Nat×NZ×(Int->Bytes)) ((0,P,txt)) (λy=>[(0,ptr P.s 0),(3,ptr b3 0),(73,I (i:Int)),(74,I (y.1:Int))]) (λy w'=>QF w P w' y.2.1/\Sh y.2.1 y.2.2 K/\y.1<=i/\P.Same y.2.1/\(∀x:Int,x<(s:Int)\/(s:Int)+(i:Int)<=x->y.2.2 x=txt x)/\LX w' b3 [I (s:Int),I (i:Int)] 97/\∀j,¬y.2.1.cp j b3) (λy=>i-y.1) ?hI ?hround))))))))
   case hI=>exact⟨c6,hI,Nat.zero_le _,⟨rfl,rfl,rfl,rfl,rfl,rfl,rfl,rfl,rfl⟩,λx _=>rfl,df,lH⟩
   case hround =>
    rintro⟨j,Pj,tj⟩ w4 ⟨bD,kd,hj,cd,iE,cG,nA⟩ ih2;dsimp only at bD kd hj cd iE cG nA ih2⊢;have fW:=bD.m.cells;rw[cd.s] at fW;have ae:=Ext.Ma w4;have dS:=Ext.Ma w4.drew
    try dsimp only
    refine qN rfl (Nr rfl rfl (LO (run_seq (LY rfl (λh2=>?_) (λh2=>?_)))))
    ·refine py (run_seq (LK (qN rfl (LM rfl (LU rfl (run_seq (Me [8] (λw'=>Ext w4 w') (by kernel_rfl) rfl (qL [1,2,3,8] 0 rfl (λ_ h=>My rfl) ae (qL [2,3,8] 1 rfl (λ_ h=>MS rfl) ae (qL [3,8] 2 rfl (λ_ h=>Mo TZ rfl) ae (qL [8] 3 rfl (λ_ h=>(by first|exact LR ZV rfl rfl (h.LN cG) rfl|exact LR ZV rfl rfl (h.LN fW) rfl)) ae ?_)))))))))));refine qL [5,7,8] 4 rfl (λ_ h=>Mo NR rfl) ae (qL [7,8] 5 rfl (λ_ h=>(by first|exact LR U3 rfl rfl (h.LN cG) rfl|exact LR U3 rfl rfl (h.LN fW) rfl)) ae ?_);refine qL [7,8] 6 rfl (λ_ h=>My rfl) ae (qL [8] 7 rfl (λ_ h=>R9 rfl rfl (by omega)) ae (Pv [8] ?_));rw[show(s:Int)+(j:Int)=((s+j:Nat):Int) by omega];refine qO 8 (z7y (i:=8) rfl rfl (zb1 (k:=((s+j:Nat):Int)) (K:=KI) ZV (Oy U3) rfl rfl (bD.ext ae).m.mp rfl) ?_);rintro _ w5 ⟨ny,aj⟩;refine⟨trivial,?_⟩;rw[YH] at ny;have bZ:=(bD.ext ae).del (Pf _ _) ny aj;have bT:=aj.LN (ae.LN cG) (nA 4);have kq:=bZ.m.cells;dsimp only at kq;rw[cd.s] at kq;have dm:=Ext.Ma w5;have cx:=bZ.ext dm;refine qE (Me [8] (λw'=>Ext w5 w') (by kernel_rfl) rfl (qL [1,2,3,8] 0 rfl (λ_ h=>My rfl) dm (qL [2,3,8] 1 rfl (λ_ h=>MS rfl) dm (qL [3,8] 2 rfl (λ_ h=>Mo z89 rfl) dm (qL [8] 3 rfl (λ_ h=>(by first|exact LR U89 rfl rfl (h.LN bT) rfl|exact LR U89 rfl rfl (h.LN kq) rfl)) dm ?_)))));refine qL [5,7,8] 4 rfl (λ_ h=>Mo NR rfl) dm (qL [7,8] 5 rfl (λ_ h=>(by first|exact LR U3 rfl rfl (h.LN bT) rfl|exact LR U3 rfl rfl (h.LN kq) rfl)) dm ?_);refine qL [7,8] 6 rfl (λ_ h=>My rfl) dm (qL [8] 7 rfl (λ_ h=>R9 rfl rfl (by omega)) dm (Pv [8] ?_));rw[show(s:Int)+(j:Int)=((s+j:Nat):Int) by omega];refine Pw 8 rfl ze1 rfl (z5b cx.m.arc (k:=((s+j:Nat):Int))) ?_;rintro _ w6 ⟨⟨z,rfl⟩,V6,qY⟩;refine⟨trivial,?_⟩;have xX:=cx.arc qY;have gZ:=qY.k.LN (dm.LN bT) (nA 3);refine qE (LL (LQ rfl (MK rfl rfl (LM rfl (LO ((ih2 (j+1,_,_) _ ⟨xX,(kd.zer bD.m.dok (k:=((s+j:Nat):Int))).TU rfl rfl rfl rfl,by dsimp only;omega,⟨cd.s,cd.d,cd.m,cd.gi,cd.c,cd.pm,cd.p,cd.fr,cd.L⟩,λx hx=>?_,gZ,λi2 e=>?_⟩ (by dsimp only;omega)).qb))))))
     ·show(if x=((s+j:Nat):Int) then Pj.D.now ((s+j:Nat):Int) else tj x)=txt x;rw[if_neg (by omega)];exact iE x hx
     ·match i2,e with
      |0,e=>exact nA 0 e
      |1,e=>exact nA 1 e
      |2,e=>exact nA 2 e
      | 3, e =>
        rcases qY.fp b3 e with e| e
        ·exact nA 3 e
        ·have:=(dm.LN bT).lt;omega
      |4,e=>exact nA 4 e
      |5,⟨q,hq,e⟩=>exact nA 5 ⟨q,(Pf _ _).subset hq,e⟩
    ·have qB:j=i:=by omega
     subst qB;refine LW rfl (qN rfl (LU rfl (LP Tryz.func83 rfl ?_)));exact⟨_,rfl,rfl,Pj,tj,bD,kd,iE,cd⟩
theorem z2C (hm:QP w P)(hI:Sh P txt K){s n:Nat}(cK:1<=n)(cS:2<=s)(i8:s+n<=P.L.length)(hc:∀i,s<=i->i<s+n->P.L[i]? =some true):Mm Tryz.prog 52 [ptr P.s 0,.agg #[I (s:Int),I (n:Int)]] w λv w'=>v=I 0/\∃P' txt',QF w P w' {P' with L:=NI P.L s n false}/\Sh {P' with L:=NI P.L s n false} txt' K/\(∀x:Int,x<(s:Int)\/(s:Int)+(n:Int)<=x->txt' x=txt x)/\P.Same P':=by
 refine It (e:=[(0,_),(1,_)]) Tryz.func52 rfl Tryz.ntmps52 rfl rfl (qN rfl (LV rfl rfl (NN rfl (cs:=[I (s:Int),I (n:Int)]) rfl) ?_))
 rintro _ w1 ⟨b3,rfl,en,ad,aq⟩
 have cP:=hm.r ad
 have lH:∀i,¬P.cp i b3:=hm.new (by omega)
 refine LU rfl (run_seq (qN rfl (LM rfl (qV (Mk (news:=[I (s:Int),I (n:Int)]) U97 rfl Ox rfl (LX.cells (n:=2) aq rfl) rfl) (Mb zeG rfl (z1L cP.m hI cK i8) ?_)))))
 rintro _ w2 ⟨rfl,P',txt',dx,cy,iE,cd⟩
 have l3:=aq.lt
 have cX:=dx.k.LN aq (λ⟨i,e⟩=>lH i e)
 have tp:=cP.trans dx
 have j7:=tp.m.cells
 rw[cd.s] at j7
 refine M6 rfl (qM rfl (LM rfl (MY rfl rfl ?_)))
 have aa:=Ext.Ma w2
 have kQ:=(tp.ext aa).m.ext
 rw[cd.L] at kQ
 refine LO (An rfl (py (run_seq (Me [5,6] (λw'=>Ext w2 w') (by kernel_rfl) rfl (qL [1,2,3,5,6] 0 rfl (λ_ h=>My rfl) aa (qL [2,3,5,6] 1 rfl (λ_ h=>MS rfl) aa (qL [3,5,6] 2 rfl (λ_ h=>Mo z6U rfl) aa (qL [5,6] 3 rfl (λ_ h=>LR Ya rfl rfl (h.LN j7) rfl) aa (qL [5,6] 4 rfl (λ_ h=>Mk (news:=[I (s:Int),I (n:Int)]) U97 rfl Ox rfl (LX.cells (n:=2) (h.LN cX) rfl) rfl) aa (Pv [5] (Pw 5 rfl zf3 rfl (z2k kQ s n cK cS i8 hc) ?_)))))))))))
 rintro _ w3 ⟨rfl,FH,ax⟩
 refine⟨trivial,?_⟩
 have c6:=(tp.ext aa).exM FH ax
 refine LS 6 rfl (NK rfl) trivial (qE (LP Tryz.func52 rfl ?_))
 exact⟨_,rfl,rfl,P',txt',c6,cy.Ni (by rw[Nv i8,cd.L]),iE,cd⟩
end
def Sp (Q:NZ)(txt:Int->Bytes)(K:Nat)(X:Nat->Prop)(w:World):Prop:=∃P,QP w P/\Sh P txt K/\Q.Same P/\∀b,P.fp b->¬X b
section
variable {w w' w0:World}{Q Q' P P':NZ}{X Y S':Nat->Prop}{txt txt':Int->Bytes}{K K':Nat}
theorem Sp.step (h:Sp Q txt K X w)(hk:Kp S' w w')(hS:∀b,S' b->X b)(hY:∀b,Y b->X b\/w.heap.size<=b):Sp Q txt K Y w':=by
 obtain⟨P,hm,hI,hs,hf⟩:=h
 refine⟨P,hm.kp hk λb hb e=>hf b hb (hS b e),hI,hs,λb hb e=>?_⟩
 rcases hY b e with e| e
 ·exact hf b hb e
 ·have:=hm.lt hb;omega
theorem Sp.ext (h:Sp Q txt K X w)(hx:Ext w w')(hY:∀b,Y b->X b\/w.heap.size<=b):Sp Q txt K Y w':=h.step (S':=λ_=>False) hx (λ_ e=>e.elim) hY
theorem Sp.ext' (h:Sp Q txt K X w)(hx:Ext w w'):Sp Q txt K X w':=h.ext hx λ_ e=> .inl e
theorem Sp.own (h:Sp Q txt K X w)(hk:Kp S' w w')(hS:∀b,S' b->X b):Sp Q txt K X w':=h.step hk hS λ_ e=> .inl e
theorem Sp.of (hf:∀b,P.fp b->¬X b)(hX:∀b,X b->b<w.heap.size)(hr:QF w P w' P')(hI:Sh P' txt' K')(hs:Q'.Same P'):Sp Q' txt' K' X w'/\Kp (λb=>¬X b) w w':=
 ⟨⟨P',hr.m,hI,hs,λb hb e=>by
  rcases hr.fp b hb with h| h
  ·exact hf b h e
  ·have:=hX b e;omega⟩,hr.k.LZ hf⟩
theorem Sh.more (h:Sh P txt K)(hK:K<=K'):Sh P txt K':=by
 obtain⟨a1,a2,a3,a4,a5,a6,a7,a8,a9,b1,b2,b3,b4,b5,b6,b7⟩:=h
 exact⟨a1,a2,a3,a4,a5,a6,a7,a8,a9,b1,b2,b3,b4,by omega,by omega,b7⟩
theorem Sp.more (h:Sp Q txt K X w)(hK:K<=K'):Sp Q txt K' X w:=by
 obtain⟨P,hm,hI,hs,hf⟩:=h
 exact⟨P,hm,hI.more hK,hs,hf⟩
theorem Sp.less (h:Sp Q txt K X w)(hY:∀b,Y b->X b):Sp Q txt K Y w:=by
 obtain⟨P,hm,hI,hs,hf⟩:=h
 exact⟨P,hm,hI,hs,λb hb e=>hf b hb (hY b e)⟩
theorem Sp.size (h:Sp Q txt K X w):Mm Tryz.prog 44 [ptr Q.s 0] w λv w'=>v=I 512/\w'=w:=by
 obtain⟨P,hm,hI,hs,-⟩:=h
 rw[<-hs.s]
 exact Xr hm hI.N
theorem Sp.dev (h:Sp Q txt K X w):Mm Tryz.prog 109 [ptr Q.s 0] w λv w'=>v=ptr Q.d 0/\w'=w:=by
 obtain⟨P,hm,hI,hs,-⟩:=h
 rw[<-hs.s,<-hs.d]
 exact z5i hm
theorem Sp.blocks (h:Sp Q txt K X w):Mm Tryz.prog 110 [ptr Q.d 0] w λv w'=>v=I (Q.L.length:Int)/\w'=w:=by
 obtain⟨P,hm,hI,hs,-⟩:=h
 have hb:=SR hm.dev
 rw[hI.B] at hb
 rw[<-hs.d,<-hs.L]
 exact hb
theorem Sp.room (h:Sp Q txt K X w){a:Nat}(hp:Pre Q.L a)(ha:a<Q.L.length):Mm Tryz.prog 18 [ptr Q.m 0] w λv w'=>v=I ((Q.L.length-a:Nat):Int)/\Ext w w':=by
 obtain⟨P,hm,hI,hs,-⟩:=h
 rw[<-hs.m]
 rw[<-hs.L] at hp ha⊢
 exact z2N hm.ext hp ha
theorem Sp.VF (h:Sp Q txt K X w){x:Int}(h0:0<=x)(h1:x<(Q.L.length:Int)):(txt x).length=512:=by
 obtain⟨P,hm,hI,hs,-⟩:=h
 exact hI.len x h0 (by rw[hs.L];exact h1)
theorem Sp.n (h:Sp Q txt K X w):Q.L.length<=4096:=by
 obtain⟨P,hm,hI,hs,-⟩:=h
 rw[<-hs.L]
 exact hm.ext.n
theorem Sp.read (h:Sp Q txt K X w)(hX:∀b,X b->b<w.heap.size)(hK:K<1000000000000){no:Int}(h0:0<=no)(h1:no<(Q.L.length:Int)):Mm Tryz.prog 60 [ptr Q.s 0,I no] w λv w'=>v= .tuple #[S (txt no),I 0]/\Sp Q txt K X w'/\Kp (λb=>¬X b) w w':=by
 obtain⟨P,hm,hI,hs,hf⟩:=h
 rw[<-hs.s]
 refine(z2s hm hI hK h0 (by rw[hs.L];exact h1)).mono λv w' ⟨hv,P',hr,y6,pK⟩=>⟨hv,Sp.of hf hX hr y6 (hs.trans pK)⟩
theorem Sp.write (h:Sp Q txt K X w)(hX:∀b,X b->b<w.heap.size)(hK:K<1000000000000){no:Int}(h0:0<=no)(h1:no<(Q.L.length:Int))(t:Bytes)(ht:t.length=512):Mm Tryz.prog 61 [ptr Q.s 0,I no,S t] w λv w'=>v=I 0/\Sp Q (Vf txt no (some t)) (K+1) X w'/\Kp (λb=>¬X b) w w':=by
 obtain⟨P,hm,hI,hs,hf⟩:=h
 rw[<-hs.s]
 refine(z5J hm hI hK h0 (by rw[hs.L];exact h1) t ht).mono λv w' ⟨hv,P',hr,y6,pK⟩=>⟨hv,Sp.of hf hX hr y6 (hs.trans pK)⟩
def NZ.Ni (Q:NZ)(L:List Bool):NZ:={Q with L:=L}
theorem NZ.Same.Ni (h:Q.Same P)(L:List Bool):(Q.Ni L).Same {P with L:=L}:=⟨h.s,h.d,h.m,h.gi,h.c,h.pm,h.p,h.fr,rfl⟩
theorem Sp.take (h:Sp Q txt K X w)(hX:∀b,X b->b<w.heap.size){a n:Nat}(hp:Pre Q.L a)(cK:1<=n)(oy:a+n<=Q.L.length):Mm Tryz.prog 45 [ptr Q.s 0,I (n:Int)] w λv w'=>v= .tuple #[.agg #[I (a:Int),I (n:Int)],I 0]/\Sp (Q.Ni (NI Q.L a n true)) txt K X w'/\Kp (λb=>¬X b) w w':=by
 obtain⟨P,hm,hI,hs,hf⟩:=h
 rw[<-hs.s]
 rw[<-hs.L] at hp oy
 refine(z2i hm hp cK oy).mono λv w' ⟨hv,hr⟩=>⟨hv,?_⟩
 rw[<-hs.L]
 exact Sp.of hf hX hr (hI.Ni (by rw[Nv oy])) (hs.Ni _)
theorem Sp.zf9 (h:Sp Q txt K X w)(hX:∀b,X b->b<w.heap.size){s n:Nat}(cK:1<=n)(cS:2<=s)(i8:s+n<=Q.L.length)(hc:∀i,s<=i->i<s+n->Q.L[i]? =some true):Mm Tryz.prog 52 [ptr Q.s 0,.agg #[I (s:Int),I (n:Int)]] w λv w'=>v=I 0/\∃txt',Sp (Q.Ni (NI Q.L s n false)) txt' K X w'/\(∀x:Int,x<(s:Int)\/(s:Int)+(n:Int)<=x->txt' x=txt x)/\Kp (λb=>¬X b) w w':=by
 obtain⟨P,hm,hI,hs,hf⟩:=h
 rw[<-hs.s]
 rw[<-hs.L] at i8 hc
 refine(z2C hm hI cK cS i8 hc).mono λv w' ⟨hv,P',txt',hr,y6,iE,pK⟩=>⟨hv,txt',?_⟩
 obtain⟨h1,h2⟩:=Sp.of hf hX hr y6 ((hs.trans pK).Ni _)
 rw[<-hs.L]
 exact⟨h1,iE,h2⟩
end
end Go.Proofs.YtpldpcjdjcgicaaGreatDoor
namespace Go.Proofs.YtpldpcjdjcgicaaGreatDoor
open Go Go.Proofs Go.Shelf
def z0L:Go.Shelf.Ren:=⟨fun|105=>55|212=>85|99=>86|165=>87|166=>64|170=>88|169=>65|263=>119|264=>120|206=>121|240=>95|241=>122|276=>134|277=>156|n=>n,fun|9=>9|3=>3|4=>4|20=>20|0=>0|46=>152|109=>182|5=>5|72=>157|76=>160|51=>46|146=>226|53=>41|148=>228|70=>155|37=>151|75=>159|127=>196|164=>247|80=>162|n=>n,fun|n=>n⟩
theorem zaq:Go.Proofs.Lays.n105 Tryz.prog z0L:={
 mixed:=by kernel_rfl
 f99:=Tryz.func86.trans (congrArg some (by kernel_rfl))
 f105:=Tryz.func55.trans (congrArg some (by kernel_rfl))
 f165:=Tryz.func87.trans (congrArg some (by kernel_rfl))
 f166:=Tryz.func64.trans (congrArg some (by kernel_rfl))
 f169:=Tryz.func65.trans (congrArg some (by kernel_rfl))
 f170:=Tryz.func88.trans (congrArg some (by kernel_rfl))
 f206:=Tryz.func121.trans (congrArg some (by kernel_rfl))
 f212:=Tryz.func85.trans (congrArg some (by kernel_rfl))
 f240:=Tryz.func95.trans (congrArg some (by kernel_rfl))
 f241:=Tryz.func122.trans (congrArg some (by kernel_rfl))
 f263:=Tryz.func119.trans (congrArg some (by kernel_rfl))
 f264:=Tryz.func120.trans (congrArg some (by kernel_rfl))
 f276:=Tryz.func134.trans (congrArg some (by kernel_rfl))
 f277:=Tryz.func156.trans (congrArg some (by kernel_rfl))
 t0:=Tryz.underlying0
 a0:=Tryz.isAgg0
 z0:=Tryz.sizeOf0
 v0:=Tryz.zeroValue0
 t3:=Tryz.underlying3
 a3:=Tryz.isAgg3
 z3:=Tryz.sizeOf3
 v3:=Tryz.zeroValue3
 t4:=Tryz.underlying4
 a4:=Tryz.isAgg4
 z4:=Tryz.sizeOf4
 v4:=Tryz.zeroValue4
 t5:=Tryz.underlying5
 a5:=Tryz.isAgg5
 z5:=Tryz.sizeOf5
 v5:=Tryz.zeroValue5
 t9:=Tryz.underlying9
 a9:=Tryz.isAgg9
 z9:=Tryz.sizeOf9
 v9:=Tryz.zeroValue9
 t20:=Tryz.underlying20
 a20:=Tryz.isAgg20
 z20:=Tryz.sizeOf20
 v20:=Tryz.zeroValue20
 t37:=Tryz.underlying151
 a37:=Tryz.isAgg151
 z37:=Tryz.sizeOf151
 v37:=Tryz.zeroValue151
 t46:=Tryz.underlying152
 a46:=Tryz.isAgg152
 z46:=Tryz.sizeOf152
 v46:=Tryz.zeroValue152
 t51:=Tryz.underlying46
 a51:=Tryz.isAgg46
 z51:=Tryz.sizeOf46
 v51:=Tryz.zeroValue46
 t53:=Tryz.underlying41
 a53:=Tryz.isAgg41
 z53:=Tryz.sizeOf41
 v53:=Tryz.zeroValue41
 t70:=Tryz.underlying155
 a70:=Tryz.isAgg155
 z70:=Tryz.sizeOf155
 v70:=Tryz.zeroValue155
 t72:=Tryz.underlying157
 a72:=Tryz.isAgg157
 z72:=Tryz.sizeOf157
 v72:=Tryz.zeroValue157
 t75:=Tryz.underlying159
 a75:=Tryz.isAgg159
 z75:=Tryz.sizeOf159
 v75:=Tryz.zeroValue159
 t76:=Tryz.underlying160
 a76:=Tryz.isAgg160
 z76:=Tryz.sizeOf160
 v76:=Tryz.zeroValue160
 t109:=Tryz.underlying182
 a109:=Tryz.isAgg182
 z109:=Tryz.sizeOf182
 v109:=Tryz.zeroValue182
 t127:=Tryz.underlying196
 a127:=Tryz.isAgg196
 z127:=Tryz.sizeOf196
 v127:=Tryz.zeroValue196
 t146:=Tryz.underlying226
 a146:=Tryz.isAgg226
 z146:=Tryz.sizeOf226
 v146:=Tryz.zeroValue226
 t148:=Tryz.underlying228
 a148:=Tryz.isAgg228
 z148:=Tryz.sizeOf228
 v148:=Tryz.zeroValue228
 t164:=Tryz.underlying247
 a164:=Tryz.isAgg247
 z164:=Tryz.sizeOf247
 v164:=Tryz.zeroValue247}
end Go.Proofs.YtpldpcjdjcgicaaGreatDoor
namespace Go.Proofs.YtpldpcjdjcgicaaGreatDoor
open Go Go.RowKit Go.Shelf
/-! ### A builder of strings -/
theorem zaQ:Builder.Extra Tryz.prog z0L where
 sizeBuilder:=by kernel_rfl
 liesBuilder:=by kernel_rfl
 t5:=by kernel_rfl
 a5:=λ_=>by kernel_rfl
 z5:=λ_=>by kernel_rfl
 v5:=λw=>TI.zero (w:=w) TQ
 infoByte:=by kernel_rfl
 cellsByte:=by kernel_rfl
 sizeByte:=by kernel_rfl
 neB5:=by decide
section
variable {w:World}
end
theorem z3B (l:Bytes):∀n,Lib.repeatL l n=(List.replicate n l).flatten
 |0=>rfl
 |n+1=>by rw[Lib.repeatL,z3B l n];rfl
theorem VD (l:Bytes)(n:Nat)(hl:l.length<=100)(hn:n<=1000000)(w:World):Mm Tryz.prog 55 [S l,I (n:Int)] w λv w'=>v=S (List.replicate n l).flatten/\Ext w w':=by
 have h2:n*l.length<=1000000*100:=Nat.mul_le_mul hn hl
 have:=Any.strings_Repeat zaq zaQ ⟨l.toArray⟩ n w (by omega) (by rw[Pb,Nat.mul_comm];omega)
 refine Calls.mono this λ_ _ ⟨he,hw⟩=>⟨_,he,?_,Ext.z7d hw⟩
 show Value.string ⟨(Lib.repeatL l n).toArray⟩=_
 rw[z3B]
end Go.Proofs.YtpldpcjdjcgicaaGreatDoor
namespace Go.Proofs.YtpldpcjdjcgicaaGreatDoor
open Go Go.RowKit
def Ql (w n:Nat):Bytes:=(List.range w).map λk=>UInt8.ofNat (n / 2^(8*(w-1-k)))
theorem Mz (w n:Nat):(Ql w n).length=w:=by simp[Ql]
theorem z7q (w n:Nat):Ql (w+1) n=UInt8.ofNat (n / 2^(8*w))::Ql w n:=by
 unfold Ql
 rw[List.range_succ_eq_map,List.map_cons,List.map_map]
 congr 1
 refine List.map_congr_left λk hk=>?_
 show UInt8.ofNat (n / 2^(8*(w+1-1-(k+1))))=_
 rw[show w+1-1-(k+1)=w-1-k by omega]
theorem Ve:∀(w n:Nat),Md (Ql w n)=bitsN (8*w) n
 |0,n=>rfl
 | w + 1, n => by
   rw[z7q,Q5,Ve w n,show 8*(w+1)=8+8*w by omega,Om]
   congr 1
   refine SD ?_;have:(UInt8.ofNat (n / 2^(8*w))).toNat=n / 2^(8*w)%256:=by simp
   rw[this];omega
theorem WC {w n:Nat}(h:n<2^(8*w)):valB (Md (Ql w n))=n:=by
 rw[Ve,MJ,Nat.mod_eq_of_lt h]
theorem z3W (s:Bytes):Ql s.length (valB (Md s))=s:=by
 have h1:Md (Ql s.length (valB (Md s)))=Md s:=by
  rw[Ve];have:=XK (Md s);rw[bitsT_length] at this;exact this
 have inj : ∀ a b : Bytes, a.length = b.length -> Md a = Md b -> a = b := λa => by
  induction a with
  | nil => intro b hb _; cases b with
    |nil=>rfl
    |cons=>cases hb
  | cons c a ih =>
    intro b hb he
    cases b with
    |nil=>cases hb
    | cons d b =>
      rw[Q5,Q5] at he;obtain⟨e1,e2⟩:=List.append_inj he (by rw[bitsN_length,bitsN_length]);rw[ih b (by simpa using hb) e2]
      congr 1
      have:=congrArg valB e1;rw[MJ,MJ] at this;have h3:=c.toNat_lt;have h4:=d.toNat_lt;exact UInt8.toNat_inj.1 (by omega)
 exact inj _ _ (Mz _ _) h1
def Laid (txt:Int->Bytes)(a:Nat)(T:Bytes):Prop:=∀k,512*k<T.length->(txt ((a+k:Nat):Int)).take (T.length-512*k)=(T.drop (512*k)).take 512
section
variable {txt txt':Int->Bytes}{a n:Nat}{T:Bytes}
theorem Laid.piece (h:Laid txt a T){off n:Nat}(h1:off+n<=T.length)(h2:n<=512-off%512):((txt ((a+off / 512:Nat):Int)).drop (off%512)).take n=(T.drop off).take n:=by
 by_cases hn:n=0
 ·subst hn;simp
 have hk:=h (off / 512) (by omega)
 have e:=congrArg (λl=>(l.drop (off%512)).take n) hk
 try dsimp only at e
 rw[List.drop_take,List.take_take,Nat.min_eq_left (by omega),List.drop_take,List.take_take,List.drop_drop,Nat.min_eq_left (by omega),show 512*(off / 512)+off%512=off by omega] at e
 exact e
theorem Laid.TU (h:Laid txt a T)(e:∀k,512*k<T.length->txt' ((a+k:Nat):Int)=txt ((a+k:Nat):Int)):Laid txt' a T:=λk hk=>by rw[e k hk];exact h k hk
theorem Laid.of (h:∀k,512*k<T.length->(txt ((a+k:Nat):Int)).length=512/\∃r,txt ((a+k:Nat):Int)=(T.drop (512*k)).take 512++r):Laid txt a T:=λk hk=>by
 obtain⟨hl,r,e⟩:=h k hk
 have h1:((T.drop (512*k)).take 512).length=min 512 (T.length-512*k):=by simp
 rw[e,List.length_append,h1] at hl
 rw[e]
 by_cases hc:T.length-512*k<=512
 ·exact List.take_left' (by rw[h1];omega)
 ·have:r=[]:=List.eq_nil_of_length_eq_zero (by omega);rw[this,List.append_nil,List.take_of_length_le (by rw[h1];omega)]
end
def ZR (txt:Int->Bytes)(st width each:Nat)(xs:List Nat):Prop:=∀i x,xs[i]? =some x->((txt ((st+i / each:Nat):Int)).drop (i%each*width)).take width=Ql width x/\x<2^(8*width)
theorem Y6 (a b c:Bytes){k n:Nat}(hn:k+n<=a.length):((a++b++c).drop k).take n=(a.drop k).take n:=by
 rw[List.append_assoc,List.drop_append_of_le_length (by omega),List.take_append_of_le_length (by rw[List.length_drop];omega)]
section
variable {txt txt':Int->Bytes}{st width each:Nat}{xs:List Nat}
theorem ZR.TU (h:ZR txt st width each xs)(e:∀i,i<xs.length->txt' ((st+i / each:Nat):Int)=txt ((st+i / each:Nat):Int)):ZR txt' st width each xs:=λi x hx=>by
 have hi:i<xs.length:=by
  rcases Nat.lt_or_ge i xs.length with h| h
  ·exact h
  ·rw[List.getElem?_eq_none h] at hx;cases hx
 rw[e i hi]
 exact h i x hx
theorem ZR.set (h:ZR txt st width each xs)(he:1<=each){i x:Nat}(hx:x<2^(8*width))(hi:i<xs.length){t:Bytes}(ht:txt ((st+i / each:Nat):Int)=t)(hl:i%each*width+width<=t.length):ZR (Vf txt ((st+i / each:Nat):Int) (some (t.take (i%each*width)++Ql width x++t.drop (i%each*width+width)))) st width each (xs.set i x):=λj y hy=>by
 by_cases hb:j / each=i / each
 ·rw[hb,Ow];show((t.take (i%each*width)++Ql width x++t.drop (i%each*width+width)).drop (j%each*width)).take width=_/\_;have aP:(t.take (i%each*width)).length=i%each*width:=by rw[List.length_take];omega
  by_cases gT:j=i
  ·subst gT;rw[List.getElem?_set_self hi] at hy;cases hy;refine⟨?_,hx⟩;rw[List.append_assoc,List.drop_left' aP,List.take_left' (Mz _ _)]
  ·rw[List.getElem?_set_ne (λe=>gT e.symm)] at hy;obtain⟨h1,h2⟩:=h j y hy;refine⟨?_,h2⟩;rw[hb,ht] at h1;rw[<-h1];have og:=Nat.div_add_mod i each;have ji:=Nat.div_add_mod j each;rw[hb] at ji;have bI:j%each≠i%each:=λe=>gT (by omega);rcases Nat.lt_or_gt_of_ne bI with kZ|Lm
   ·have hm:(j%each+1)*width<=i%each*width:=Nat.mul_le_mul_right _ (by omega);rw[Nat.add_mul,Nat.one_mul] at hm;rw[Y6 _ _ _ (by omega),List.drop_take,List.take_take,Nat.min_eq_left (by omega)]
   ·have hm:(i%each+1)*width<=j%each*width:=Nat.mul_le_mul_right _ (by omega);rw[Nat.add_mul,Nat.one_mul] at hm;rw[List.drop_append,List.drop_of_length_le (by rw[List.length_append,aP,Mz];omega),List.nil_append,List.length_append,aP,Mz,List.drop_drop,show i%each*width+width+(j%each*width-(i%each*width+width))=j%each*width by omega]
 ·have gT:j≠i:=λe=>hb (by rw[e]);rw[List.getElem?_set_ne (λe=>gT e.symm)] at hy;rw[NU _ _ (by omega)];exact h j y hy
theorem Xw {l z:Bytes}{w:Nat}(hl:l.length=w):∀(e k:Nat),k<e->(((List.replicate e l).flatten++z).drop (k*w)).take w=l
 |0,k,h=>by omega
 | e + 1, 0, h => by
   rw[Nat.zero_mul,List.drop_zero,List.replicate_succ,List.flatten_cons,List.append_assoc]
   exact List.take_left' hl
 | e + 1, k + 1, h => by
   rw[List.replicate_succ,List.flatten_cons,List.append_assoc,List.drop_append,List.drop_of_length_le (by rw[hl,Nat.add_mul];omega),List.nil_append,hl,Nat.add_mul,Nat.one_mul,Nat.add_sub_cancel];exact Xw hl e k (by omega)
theorem ZR.fill {n x:Nat}(hx:x<2^(8*width))(he:1<=each)(h:∀i,i<n->∃z,txt ((st+i / each:Nat):Int)=(List.replicate each (Ql width x)).flatten++z):ZR txt st width each (List.replicate n x):=λi y hy=>by
 rw[List.getElem?_replicate] at hy
 split at hy
 ·rename_i hi
  cases hy;obtain⟨z,e⟩:=h i hi;rw[e];exact⟨Xw (Mz _ _) each _ (Nat.mod_lt _ he),hx⟩
 ·cases hy
theorem ZR.block (h:ZR txt st width each xs){b:Nat}(hl:each*width<=(txt ((st+b:Nat):Int)).length):∀m,m<=each->b*each+m<=xs.length->(txt ((st+b:Nat):Int)).take (m*width)=((xs.drop (b*each)).take m).flatMap (Ql width)
 |0,_,_=>by simp
 | m + 1, hm, hx => by
   have ih:=h.block hl m (by omega) (by omega);have aP:b*each+m<xs.length:=by omega
   have h1:=(h (b*each+m) xs[b*each+m] (List.getElem?_eq_getElem aP)).1;have dz:(m+1)*width<=each*width:=Nat.mul_le_mul_right _ hm;rw[Nat.add_mul,Nat.one_mul] at dz;rw[show(b*each+m) / each=b from by rw[Nat.mul_comm,Nat.mul_add_div (by omega),Nat.div_eq_of_lt (by omega),Nat.add_zero],show(b*each+m)%each=m from by rw[Nat.mul_comm,Nat.mul_add_mod,Nat.mod_eq_of_lt (by omega)]] at h1
   have h2:(xs.drop (b*each)).take (m+1)=(xs.drop (b*each)).take m++[xs[b*each+m]]:=by
    rw[List.take_add_one,List.getElem?_drop,List.getElem?_eq_getElem aP];rfl
   rw[h2,List.flatMap_append,<-ih,Nat.add_mul,Nat.one_mul,List.take_add,h1];simp
def Tr (width:Nat)(xs:List Nat):Bytes:=xs.flatMap (Ql width)
def Wf (width n:Nat)(s:Bytes):List Nat:=(List.range n).map λi=>valB (Md ((s.drop (i*width)).take width))
theorem Za (width n:Nat)(s:Bytes):(Wf width n s).length=n:=by simp[Wf]
theorem Rm (width:Nat):∀xs:List Nat,(Tr width xs).length=xs.length*width
 |[]=>by simp[Tr]
 | x :: xs => by
   have:=Rm width xs;unfold Tr at*;rw[List.flatMap_cons,List.length_append,Mz,this,List.length_cons,Nat.add_mul];omega
theorem WX {width:Nat}:∀{xs:List Nat},(∀x∈xs,x<2^(8*width))->Wf width xs.length (Tr width xs)=xs
 |[],_=>rfl
 | x :: xs, h => by
   have ih:=WX (xs:=xs) λy hy=>h y (List.mem_cons_of_mem _ hy);unfold Wf Tr at*;rw[List.length_cons,List.range_succ_eq_map,List.map_cons,List.map_map,List.flatMap_cons]
   congr 1
   ·rw[Nat.zero_mul,List.drop_zero,List.take_left' (Mz _ _),WC (h x List.mem_cons_self)]
   ·conv=>rhs;rw[<-ih]
    refine List.map_congr_left λi _=>?_;show valB (Md (List.take width (List.drop ((i+1)*width) _)))=_;rw[Nat.add_mul,Nat.one_mul,List.drop_append,List.drop_of_length_le (by rw[Mz];omega),List.nil_append,Mz,Nat.add_sub_cancel]
theorem ZR.load {n:Nat}{s:Bytes}(hs:s.length=n*width)(he:1<=each)(h:∀i,i<n->∃z,txt ((st+i / each:Nat):Int)=(s.drop (i / each*(each*width))).take (each*width)++z):ZR txt st width each (Wf width n s):=λi y hy=>by
 unfold Wf at hy
 rw[List.getElem?_map] at hy
 by_cases hi:i<n
 ·rw[List.getElem?_range hi] at hy;cases hy;obtain⟨z,e⟩:=h i hi;have hd:=Nat.div_add_mod i each;have Ji:=Nat.mod_lt i he
  have aB:((s.drop (i*width)).take width).length=width:=by
   have:(i+1)*width<=n*width:=Nat.mul_le_mul_right _ (by omega);rw[Nat.add_mul,Nat.one_mul] at this;rw[List.length_take,List.length_drop,hs];omega
  have e1:i*width=i / each*(each*width)+i%each*width:=by
   rw[<-Nat.mul_assoc,<-Nat.add_mul,Nat.mul_comm (i / each)];rw[hd]
  have dz:(i%each+1)*width<=each*width:=Nat.mul_le_mul_right _ (by omega);rw[Nat.add_mul,Nat.one_mul] at dz;have aY:(i+1)*width<=n*width:=Nat.mul_le_mul_right _ (by omega);rw[Nat.add_mul,Nat.one_mul] at aY;refine⟨?_,?_⟩
  ·have hb:=z3W ((s.drop (i*width)).take width);rw[aB] at hb;rw[hb,e]
   have hc:i%each*width+width<=((s.drop (i / each*(each*width))).take (each*width)).length:=by
    rw[List.length_take,List.length_drop,hs];omega
   rw[List.drop_append_of_le_length (by omega),List.take_append_of_le_length (by rw[List.length_drop];omega),List.drop_take,List.take_take,List.drop_drop,Nat.min_eq_left (by omega),<-e1]
  ·have h1:=Nu (Md ((s.drop (i*width)).take width));rw[bitsT_length,aB] at h1;exact h1
 ·rw[List.getElem?_eq_none (by simpa using hi)] at hy;cases hy
end
def Xd (n wd k:Nat):List Value:=(List.range wd).map λi=>if i<k then Px (UInt8.ofNat (n / 2^(8*(wd-1-i)))) else .int .u8 0
@[simp] theorem beTo_length (n wd k:Nat):(Xd n wd k).length=wd:=by simp[Xd]
theorem Yn (n wd:Nat):Xd n wd 0=List.replicate wd (.int .u8 0):=by
 apply List.ext_getElem<;>simp[Xd]
theorem z0n (n wd:Nat):Xd n wd wd=(Ql wd n).map Px:=by
 simp only[Xd,Ql,List.map_map]
 apply List.map_congr_left
 intro i hi
 rw[if_pos (by simpa using hi)];rfl
theorem z1z (n wd k:Nat)(h:k<wd):(Xd n wd k).set (0+k*1) (.int .u8 ((n / 2^(8*(wd-1-k))%256:Nat):Int))=Xd n wd (k+1):=by
 apply List.ext_getElem
 ·simp
 ·intro j h1 h2;have hj:j<wd:=by simpa using h2
  simp only[Xd,List.getElem_set,List.getElem_map,List.getElem_range];by_cases Cy:j=k
  ·subst Cy;simp[Px]
  ·rw[if_neg (by omega)];by_cases aP:j<k
   ·rw[if_pos aP,if_pos (by omega)]
   ·rw[if_neg aP,if_neg (by omega)]
theorem Wb (n wd:Nat)(w:World)(hn:n<18446744073709551616)(ov:wd<=8):Mm Tryz.prog 79 [M7 n,I (wd:Int)] w λv w'=>v=S (Ql wd n)/\Ext w w':=by
 have f7:maxLen=9223372036854775807:=rfl
 refine It (e:=[(0,_),(1,_)]) Tryz.func79 rfl Tryz.ntmps79 rfl rfl (qN rfl (M6 rfl (qM rfl (LM rfl (LV rfl rfl (pmk (c:=wd) (n:=wd) N1 TQ rfl rfl rfl (by omega) (by omega) (by omega)) ?_)))))
 rintro _ w1 ⟨b1,rfl,⟨bR,ad,ai⟩,-⟩
 refine LU rfl (run_seq (qN rfl (LM rfl (NX N1 rfl (LM rfl (LO (LK ?_)))))))
 rw[<-Yn n wd] at ai
 refine Oe (α:=Nat) (0) (λk=>[(0,M7 n),(1,I (wd:Int)),(5,.slice (some ⟨b1,0,none⟩) wd wd),(10,I (wd:Int)),(11,I (k:Int))]) (λk w'=>k<=wd/\LX w' b1 (Xd n wd k) 5/\Ext w w') (λk=>wd-k) ?hI ?hround
 case hI=>exact⟨by omega,ai,ad⟩
 case hround=>
  rintro k w2 ⟨hk,am,af⟩ ih
  try dsimp only
  refine qN rfl (Nr rfl rfl (LO (run_seq (LY rfl (λaP=>?_) (λaP=>?_)))))
  ·have DL:k<wd:=by omega
   refine py (run_seq (LK (qN rfl (LM rfl (LU rfl (LQ rfl (M4 rfl rfl (M4 rfl rfl (NP rfl rfl (LM rfl (NP rfl rfl (qV (SV rfl rfl (by omega)) ?_))))))))))));rw[show(8:Int)*(((wd:Int)-1)-(k:Int))=((8*(wd-1-k):Nat):Int) from by omega];refine qV (Qm (8*(wd-1-k)) (2^(8*(wd-1-k))) rfl rfl (by simp only[IntKind.bits];omega) rfl) ?_;refine qV (z0G rfl Ns U5) (qV (MN N1 TQ rfl rfl (by omega)) (M1 rfl (NC TQ rfl rfl rfl am (by simp;omega)) ?_));rintro w3 ⟨aq,ar⟩;rw[z1z n wd k DL] at aq;refine LO (LL (LQ rfl (MK rfl rfl (LM rfl (LO ?_)))));exact(ih (k+1) w3 ⟨by omega,aq,af.LJ ar (λi hi=>by rw[hi,bR];exact Nat.le_refl _)⟩ (by omega)).qb
  ·have:k=wd:=by omega
   subst this;rw[z0n] at am;refine LW rfl (qN rfl (LM rfl (qV (z2l (l:=Ql k n) N1 U5 U9 rfl am (by rw[List.drop_zero];exact List.take_of_length_le (by rw[List.length_map,Mz];omega)) (by simp[Ql])) ?_)));refine LU rfl (LP Tryz.func79 rfl ?_);exact⟨_,rfl,rfl,af⟩
theorem YD (s:Bytes)(hs:s.length<=8)(w:World):Mm Tryz.prog 80 [S s] w λv w'=>v=M7 (valB (Md s))/\Ext w w':=by
 refine It (e:=[(0,_)]) Tryz.func80 rfl Tryz.ntmps80 rfl rfl (qN rfl (LU rfl (run_seq (qN rfl (LM rfl (LV rfl rfl (z7Z U9 N1 U5 rfl) ?_))))))
 rintro _ w1 ⟨b7,c7,rest,rfl,⟨kX,ad,ai⟩,C3⟩
 refine NX N1 rfl (LM rfl (LO (LK (Oe (α:=Nat) (0) (λi=>[(2,M7 (valB (Md (s.take i)))),(6,.slice (some ⟨b7,0,none⟩) s.length c7),(7,I (s.length:Int)),(8,I (i:Int))]) (λi w'=>w'=w1/\i<=s.length) (λi=>s.length-i) ?hI ?hround))))
 case hI=>exact⟨rfl,Nat.zero_le _⟩
 case hround=>
  rintro i w2 ⟨rfl,hi⟩ ih
  try dsimp only
  refine qN rfl (Nr rfl rfl (LO (run_seq (LY rfl (λh0=>?_) (λh0=>?_)))))
  ·obtain⟨c,hc⟩:∃c,s[i]? =some c:=⟨_,List.getElem?_eq_getElem (by omega)⟩;have dU:=c.toNat_lt;have ot:=WN hc
   have aP:valB (Md (s.take i))<72057594037927936:=by
    have h1:=Nu (Md (s.take i));rw[bitsT_length,List.length_take] at h1;have h2:2^(8*min i s.length)<=2^56:=Nat.pow_le_pow_right (by decide) (by omega);omega
   have bh:w2.cell? ⟨b7,0+i*1,none⟩=some (Px c):=by
    rw[ai.cell,Nat.zero_add,Nat.mul_one,List.getElem?_append_left (by rw[List.length_map];omega),List.getElem?_map,hc];rfl
   refine py (run_seq (LK (qN rfl (qV (MN N1 TQ rfl rfl (by omega)) (qV (Mt U5 rfl rfl bh) ?_)))))
   generalize valB (Md (s.take i))=q at ot aP
   refine LU rfl (LQ rfl (LM rfl (qV (NJ 8 256 rfl rfl (by decide) rfl) (LM rfl (qV ((by first|exact Yi rfl U5 Ns (by decide)|exact MH rfl U5 Ns (by omega))) ?_)))));refine qV (Xp rfl rfl (by omega) (by omega)) ?_
   have nX:(q*256%18446744073709551616 |||c.toNat)=valB (Md (s.take (i+1))):=by
    rw[ot,Nat.mod_eq_of_lt (by omega),Nat.mul_comm q];exact(Nat.two_pow_add_eq_or_of_lt (i:=8) dU q).symm
   rw[nX];refine LU rfl (LL (LQ rfl (MK rfl rfl (LM rfl (LO ?_)))));exact(ih (i+1) _ ⟨rfl,by omega⟩ (by omega)).qb
  ·have cR:i=s.length:=by omega
   subst cR;rw[List.take_length];refine LW rfl (qN rfl (LM rfl (LU rfl (LP Tryz.func80 rfl ?_))));exact⟨_,rfl,rfl,ad⟩
def vcC (n width each st len s:Nat)(cl:Bool):List Value:=[I (n:Int),I (width:Int),I (each:Int),I (st:Int),I (len:Int),ptr s 0,.bool cl]
def Q8 (n each:Nat):Nat:=max 1 ((n+each-1) / each)
structure St (Q:NZ)(txt:Int->Bytes)(vb width st:Nat)(xs:List Nat)(w:World):Prop where
 LN:LX w vb (vcC xs.length width (512 / width) st (Q8 xs.length (512 / width)) Q.s false) 137
 wd:width=1\/width=2\/width=4\/width=8
 t:ZR txt st width (512 / width) xs
 n:xs.length<=4194304
 fit:st+Q8 xs.length (512 / width)<=Q.L.length
theorem VI {n each:Nat}(he:1<=each){i:Nat}(hi:i<n):i / each<Q8 n each:=by
 unfold Q8
 have h1:i / each<=(n-1) / each:=Nat.div_le_div_right (by omega)
 have h2:(n+each-1) / each=(n-1) / each+1:=by
  rw[show n+each-1=(n-1)+each by omega,Nat.add_div_right _ (by omega)]
 omega
section
variable {w w':World}{Q Q':NZ}{txt txt':Int->Bytes}{vb width st:Nat}{xs ys:List Nat}{S':Nat->Prop}
theorem St.e (h:St Q txt vb width st xs w):64<=512 / width/\512 / width<=512/\512 / width*width=512/\1<=width/\width<=8:=by
 rcases h.wd with e|e|e|e<;>subst e<;>decide
theorem St.kp (h:St Q txt vb width st xs w)(hk:Kp S' w w')(hn:¬S' vb):St Q txt vb width st xs w':=⟨hk.LN h.LN hn,h.wd,h.t,h.n,h.fit⟩
theorem St.ext (h:St Q txt vb width st xs w)(hx:Ext w w'):St Q txt vb width st xs w':=h.kp (S':=λ_=>False) hx id
theorem St.TU (h:St Q txt vb width st xs w)(e:∀y:Int,(st:Int)<=y->y<(st:Int)+(Q8 xs.length (512 / width):Int)->txt' y=txt y):St Q txt' vb width st xs w:=
 ⟨h.LN,h.wd,h.t.TU λi hi=>by
  have:=VI (each:=512 / width) (by have:=h.e;omega) hi
  generalize i / (512 / width)=q at this⊢
  exact e _ (by omega) (by omega),h.n,h.fit⟩
theorem St.q (h:St Q txt vb width st xs w)(hs:Q'.s=Q.s)(hl:Q'.L.length=Q.L.length):St Q' txt vb width st xs w:=⟨by rw[hs];exact h.LN,h.wd,h.t,h.n,by rw[hl];exact h.fit⟩
theorem St.lt (h:St Q txt vb width st xs w):vb<w.heap.size:=h.LN.lt
theorem St.at_ (h:St Q txt vb width st xs w){i:Nat}(hi:i<xs.length):st+i / (512 / width)<Q.L.length/\i%(512 / width)*width+width<=512/\i / (512 / width)<Q8 xs.length (512 / width):=by
 obtain⟨h1,h2,h3,h4,h5⟩:=h.e
 have h6:=VI (each:=512 / width) (by omega) hi
 have h7:=h.fit
 have h8:(i%(512 / width)+1)*width<=512 / width*width:=Nat.mul_le_mul_right _ (Nat.mod_lt _ (by omega))
 rw[Nat.add_mul,Nat.one_mul] at h8
 refine⟨by omega,by omega,h6⟩
theorem St.cells (h:St Q txt vb width st xs w):LX w vb [I (xs.length:Int),I (width:Int),I ((512 / width:Nat):Int),I (st:Int),I (Q8 xs.length (512 / width):Int),ptr Q.s 0,.bool false] 137:=h.LN
def VcW (Q:NZ)(txt:Int->Bytes)(K:Nat)(X:Nat->Prop)(vb width st:Nat)(ys:List Nat)(w w':World):Prop:=
 ∃txt',Sp Q txt' K X w'/\St Q txt' vb width st ys w'/\(∀y:Int,y<(st:Int)\/(st:Int)+(Q8 ys.length (512 / width):Int)<=y->txt' y=txt y)/\Kp (λb=>¬X b) w w'
end
end Go.Proofs.YtpldpcjdjcgicaaGreatDoor
namespace Go.Proofs.YtpldpcjdjcgicaaGreatDoor.Sums
def bit (c:Nat):Nat:=if c%2=1 then(c / 2)^^^2197175160 else c / 2
def z9O (c:Nat):Nat:=bit (bit (bit (bit (bit (bit (bit (bit c)))))))
def byte (c:Nat)(b:UInt8):Nat:=z9O (c^^^b.toNat)
def raw (c:Nat)(l:List UInt8):Nat:=l.foldl byte c
def neg (c:Nat):Nat:=4294967295^^^c
def on (c:Nat)(l:List UInt8):Nat:=neg (raw (neg c) l)
def crc (l:List UInt8):Nat:=on 0 l
def num (l:List UInt8):Nat:=(l.getD 0 0).toNat*16777216+(l.getD 1 0).toNat*65536+(l.getD 2 0).toNat*256+(l.getD 3 0).toNat
def be4 (n:Nat):List UInt8:=[UInt8.ofNat (n / 16777216),UInt8.ofNat (n / 65536),UInt8.ofNat (n / 256),UInt8.ofNat n]
@[simp] theorem be4_length (n:Nat):(be4 n).length=4:=rfl
def head (k:UInt8)(p:List UInt8):List UInt8:=k::be4 p.length
def frame (k:UInt8)(p:List UInt8):List UInt8:=head k p++be4 (crc (head k p++p))++p
@[simp] theorem head_length (k:UInt8) (p:List UInt8):(head k p).length=5:=rfl
theorem z7N (c:Nat):(c / 2)^^^(2197175160&&&((4294967296-(c&&&1))%4294967296))=bit c:=by
 have h1:c&&&1=c%2:=Nat.and_two_pow_sub_one_eq_mod c 1
 rw[h1]
 unfold bit
 by_cases h:c%2=1
 ·rw[if_pos h,h]
  congr 1
 ·have h0:c%2=0:=by omega
  rw[if_neg h,h0];simp
theorem Un {a b:Nat}(ha:a<4294967296)(hb:b<4294967296):a^^^b<4294967296:=Nat.xor_lt_two_pow (n:=32) ha hb
theorem RU {c:Nat}(h:c<4294967296):bit c<4294967296:=by
 unfold bit
 split
 ·exact Un (by omega) (by omega)
 ·omega
theorem z71 {c:Nat}(h:c<4294967296):z9O c<4294967296:=RU (RU (RU (RU (RU (RU (RU (RU h)))))))
theorem z4l {c:Nat}(h:c<4294967296)(b:UInt8):byte c b<4294967296:=z71 (Un h (by have:=b.toNat_lt;omega))
theorem z61:∀(l:List UInt8) {c:Nat},c<4294967296->raw c l<4294967296
 |[],_,h=>h
 |b::l,_,h=>z61 l (z4l h b)
theorem z2h {c:Nat}(h:c<4294967296):neg c<4294967296:=Un (by omega) h
theorem z9B {c:Nat}(l:List UInt8)(h:c<4294967296):on c l<4294967296:=z2h (z61 l (z2h h))
theorem zaW (l:List UInt8):crc l<4294967296:=z9B l (by omega)
theorem z2y (c:Nat)(a b:List UInt8):raw c (a++b)=raw (raw c a) b:=List.foldl_append ..
/-! ### The step is linear -/
/-! ### Linear maps, by their table -/
def iter (L:Nat->Nat):Nat->Nat->Nat
 |0,x=>x
 |n+1,x=>iter L n (L x)
/-! ### Frames -/
theorem z3j {n:Nat}(h:n<4294967296)(t:List UInt8):num (be4 n++t)=n:=by
 simp[num,be4]
 omega
@[simp] theorem frame_length (k:UInt8) (p:List UInt8):(frame k p).length=9+p.length:=by simp[frame];omega
/-! ### A byte that is turned is told -/
theorem getD_take (s:List UInt8)(n i:Nat)(h:i<n):(s.take n).getD i 0=s.getD i 0:=by simp[List.getD,h]
def z6m (s:List UInt8)(i:Nat)(d:UInt8):List UInt8:=s.set i (s.getD i 0^^^d)
@[simp] theorem turned_length (s:List UInt8) (i:Nat) (d:UInt8):(z6m s i d).length=s.length:=by simp[z6m]
end Go.Proofs.YtpldpcjdjcgicaaGreatDoor.Sums
namespace Go.Proofs.YtpldpcjdjcgicaaGreatDoor
open Go Go.RowKit
set_option linter.unusedVariables false
abbrev U (n:Nat):Value:= .int .u32 (n:Int)
theorem or3 (a b c d:Nat)(ha:a<256)(hb:b<256)(hc:c<256)(hd:d<256):
  a*16777216 |||b*65536=a*16777216+b*65536/\a*16777216 |||b*65536 |||c*256=a*16777216+b*65536+c*256/\a*16777216 |||b*65536 |||c*256 |||d=a*16777216+b*65536+c*256+d:=by
 have h1:a*16777216 |||b*65536=a*16777216+b*65536:=nat_join 24 _ _ (by omega) (by omega)
 have h2:a*16777216 |||b*65536 |||c*256=a*16777216+b*65536+c*256:=by rw[h1];exact nat_join 16 _ _ (by omega) (by omega)
 refine⟨h1,h2,?_⟩
 rw[h2]
 exact nat_join 8 _ _ (by omega) (by omega)
theorem z6Q (c:Nat)(b:UInt8)(p:Nat)(T:TypeId)(w:World)(hB:LX w p [U c] T)(hc:c<4294967296):
  Mm Tryz.prog 111 [Px b,ptr p 0] w λv w'=>v= .tuple #[]/\LX w' p [U (Sums.byte c b)] T/\Kp (λk=>k=p) w w':=by
 have hb:=b.toNat_lt
 have hx:=Sums.Un hc (show b.toNat<4294967296 by omega)
 refine It (e:=[(0,_),(1,_)]) Tryz.func111 rfl Tryz.ntmps111 rfl rfl (qN rfl (qV (LR N5 rfl rfl hB rfl) (LM rfl (qV ((by first|exact Yi rfl U5 N5 (by decide)|exact UT rfl U5 N5 (by omega))) ?_))))
 refine qV (z9Y rfl rfl (by omega) (by omega)) (M1 rfl (NC Mc rfl rfl rfl hB (by simp)) ?_)
 rintro w1 ⟨ai,aK⟩
 refine qM rfl (LM rfl (LO (LK (Oe (α:=Nat×Nat) ((0,c^^^b.toNat)) (λx=>[(0,Px b),(1,ptr p 0),(7,I (x.1:Int))]) (λx w'=>x.1<=8/\x.2<4294967296/\Sums.iter Sums.bit (8-x.1) x.2=Sums.byte c b/\LX w' p [U x.2] T/\Kp (λk=>k=p) w w') (λx=>8-x.1) ?hI ?hround))))
 case hI=>exact⟨by omega,hx,rfl,ai,aK⟩
 case hround=>
  rintro⟨k,d⟩ w2 ⟨bj,hd,hs,am,ao⟩ ih
  try dsimp only
  refine qN rfl (Nr rfl rfl (LO (run_seq (LY rfl (λaP=>?_) (λaP=>?_)))))
  ·have jx:d&&&1<4294967296:=Nat.lt_of_le_of_lt Nat.and_le_right (by omega);have tq:(4294967296-(d&&&1))%4294967296<4294967296:=Nat.mod_lt _ (by omega);have iG:2197175160&&&((4294967296-(d&&&1))%4294967296)<4294967296:=Nat.lt_of_le_of_lt Nat.and_le_left (by omega);refine py (run_seq (LK (LQ rfl (qV (LR N5 rfl rfl am rfl) (qV (Qm 1 2 rfl rfl (by decide) rfl) (qV (LR N5 rfl rfl am rfl) (qV (z9L rfl rfl (by omega) (by omega)) (qV (zes rfl (by omega)) (qV (z9L rfl rfl (by omega) (by omega)) (qV (z9Y rfl rfl (by omega) (by omega)) (M1 rfl (NC Mc rfl rfl rfl am (by simp)) ?_)))))))))));rintro w3 ⟨aq,ar⟩;refine LO (LL (LQ rfl (MK rfl rfl (LM rfl (LO ?_)))));simp only[List.set_cons_zero] at aq;rw[Sums.z7N] at aq;refine(ih (k+1,Sums.bit d) w3 ⟨by dsimp only at*;omega,Sums.RU hd,?_,aq,ao.trans ar⟩ (by dsimp only at*;omega)).qb;have h8:8-k=(8-(k+1))+1:=by dsimp only at*;omega
   dsimp only at hs⊢;rw[h8] at hs;exact hs
  ·refine LW rfl (N9 Tryz.func111 rfl ?_);have hk:k=8:=by dsimp only at*;omega
   subst hk;refine⟨_,rfl,rfl,?_,ao⟩;have:d=Sums.byte c b:=hs;rw[<-this];exact am
theorem zb9 {l:List UInt8}{rest:List Value}{k:Nat}(h:k<l.length):(l.map Px++rest)[0+k*1]? =some (Px (l.getD k 0)):=by
 rw[Nat.zero_add,Nat.mul_one,List.getElem?_append_left (by simpa using h)]
 simp[h,List.getD]
theorem Y1 (c:Nat)(l:List UInt8)(k:Nat)(h:k<l.length):Sums.raw c (l.take (k+1))=Sums.byte (Sums.raw c (l.take k)) (l.getD k 0):=by
 rw[List.take_succ_eq_append_getElem h,Sums.z2y]
 simp[Sums.raw,List.getD,h]
theorem z7g (c:Nat)(l:List UInt8)(w:World)(hc:c<4294967296)(hl:l.length<=9223372036854775807):
  Mm Tryz.prog 78 [U c,S l] w λv w'=>v=U (Sums.on c l)/\Ext w w':=by
 refine It (e:=[(0,_),(1,_)]) Tryz.func78 rfl Tryz.ntmps78 rfl rfl (qN rfl (LV rfl rfl (NN rfl rfl) ?_))
 rintro _ w1 ⟨b1,rfl,bR,ad,ai⟩
 refine M6 rfl (qM rfl (qV (LR N5 rfl rfl ai rfl) (qV (z9N rfl (by omega)) (M1 rfl (NC Mc rfl rfl rfl ai (by simp)) ?_))))
 rintro w2 ⟨am,ao⟩
 simp only[List.set_cons_zero] at am
 have af:Ext w w2:=ad.LJ ao (λi hi=>by rw[hi,bR];exact Nat.le_refl _)
 refine qM rfl (qV (ZU (first:=[]) (caps:=[.tmp 2]) rfl rfl) (LU rfl (run_seq (qN rfl (LM rfl (LV rfl rfl (z7Z U9 N1 U5 rfl) ?_))))))
 rintro _ w3 ⟨b3,cap,rest,rfl,⟨en,ah,aq⟩,jy⟩
 refine NX N1 rfl (LM rfl (LO (LK ?_)))
 have bI:b3≠b1:=by have:=am.lt;omega
 refine Oe (α:=Nat×Nat) ((0,Sums.neg c)) (λx=>[(2,ptr b1 0),(5,.func (.func 111) #[] #[ptr b1 0]),(12,.slice (some ⟨b3,0,none⟩) l.length cap),(13,I (l.length:Int)),(14,I (x.1:Int))]) (λx w'=>x.1<=l.length/\x.2<4294967296/\x.2=Sums.raw (Sums.neg c) (l.take x.1)/\LX w' b1 [U x.2] 46/\LX w' b3 (l.map Px++rest) 5/\Ext w w') (λx=>l.length-x.1) ?hI ?hround
 case hI=>exact⟨by simp,Sums.z2h hc,rfl,ah.LN am,aq,af.trans ah⟩
 case hround=>
  rintro⟨k,d⟩ w4 ⟨hk,hd,hs,aM,aF,aC⟩ ih;dsimp only at hk hd hs aM
  try dsimp only
  refine qN rfl (Nr rfl rfl (LO (run_seq (LY rfl (λaP=>?_) (λaP=>?_)))))
  ·have mf:k<l.length:=by omega
   refine py (run_seq (LK (qN rfl (qV (MN N1 TQ rfl rfl (by omega)) (qV (LR U5 rfl rfl aF (zb9 mf)) (LU rfl (LQ rfl (M4 rfl rfl (Nj rfl rfl (OC zew rfl rfl) (z6Q d (l.getD k 0) b1 _ w4 aM hd) ?_)))))))));rintro _ w5 ⟨rfl,aX,aR⟩;refine LO (LL (LQ rfl (MK rfl rfl (LM rfl (LO ((ih (k+1,Sums.byte d (l.getD k 0)) w5 ⟨mf,Sums.z4l hd _,?_,aX,aR.LN aF bI,aC.LJ aR (λi hi=>by rw[hi,bR];exact Nat.le_refl _)⟩ (by dsimp only;omega)).qb))))));rw[Y1 _ _ _ mf,<-hs]
  ·refine LW rfl (qN rfl (qV (LR N5 rfl rfl aM rfl) (qV (z9N rfl (by omega)) (LU rfl (LP Tryz.func78 rfl (⟨_,rfl,?_,aC⟩))))));have md:k=l.length:=by omega
   subst md;rw[List.take_length] at hs;show U (Sums.neg d)=_;rw[hs]
   rfl
theorem z4k (l:List UInt8)(w:World)(hl:l.length<=9223372036854775807):
  Mm Tryz.prog 73 [S l] w λv w'=>v=U (Sums.crc l)/\Ext w w':=by
 refine It (e:=[(0,_)]) Tryz.func73 rfl Tryz.ntmps73 rfl rfl (qN rfl (M6 rfl (qM rfl (LM rfl (Mb zdk rfl (z7g 0 l _ (by omega) hl) ?_)))))
 rintro _ w1 ⟨rfl,ad⟩
 refine LU rfl (LP Tryz.func73 rfl ?_)
 exact⟨_,rfl,rfl,ad⟩
end Go.Proofs.YtpldpcjdjcgicaaGreatDoor
