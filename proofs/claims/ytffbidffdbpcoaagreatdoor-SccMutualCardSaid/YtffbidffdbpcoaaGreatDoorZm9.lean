/- Merged by program. -/
import Derived.Test.YtffbidffdbpcoaaGreatDoorZm8
import Derived.RecoverIn
import Derived.SizedLaws
import Derived.Carry
import Derived.ProofKit
import Derived.OpenShut
import Derived.ShutString
import Derived.ChangeOld
import Derived.Below
import Derived.Deep.SlicePairs
import Derived.LaidLaws
import Derived.MakeChecks
import Derived.Handed
set_option linter.all false
set_option maxRecDepth 1000000
set_option maxHeartbeats 16000000
namespace Go.Proofs.YtffbidffdbpcoaaGreatDoor
open Go Go.RowKit Go.Proofs.Tryz
section
variable {G T:ZI}{w w':World}{Q:Ra}{txt txt':Int->OI}{K K' ok:Nat}{X Y O_:Nat->Prop}{rr a L vl vc vm bx v:Nat}{s s':Sc}
theorem z6X (h:Qn (Sn false T.k) G T Q txt K X rr O_ a L s w)(hI:UK G.g s)(hK:K<=900000000000)(hb:OP w bx [ptr rr 0] 43)(cR:X bx/\¬O_ bx)(hv:v<G.g.length)(iZ:R5 s.label v):Pm prog 105 [I (v:Int),ptr bx 0] w λr w'=>r= .bool (vtS G.g T.g 2 s v).2/\ScW G T Q txt K X rr O_ a L 40 (vtS G.g T.g 2 s v).1 w w':=by
 have aQ:∀b,X b->b<w.heap.size:=λb hb=>h.lt b (.inl (.inl hb))
 have cg:=h.far
 obtain⟨n1,n2,n3⟩:=h.ng
 have qc:=h.lt T.rb (.inl (.inr O))
 have eE:=h.m.n
 have C5:=hI.cn
 have BP:=hI.mn
 have fU:=zbs h.m.g.ok.gr.len hv
 obtain⟨vl,vc,vm,hV⟩:=h.sc
 have hR:=Qn.cells hV
 have gS:=h.xr _ hV.o.1
 obtain⟨m,hm⟩:∃m,s.mark[v]? =some m:=⟨_,List.getElem?_eq_getElem (by omega)⟩
 obtain⟨x,hx⟩:∃x,s.OR[v]? =some x:=⟨_,List.getElem?_eq_getElem (by omega)⟩
 have nw:vtS G.g T.g 2 s v=if m=0/\(OU G.g v).any (λu=>decide (bkC s.label s.OR s.mark v u))=true then({s with mark:=s.mark.set v 1},true) else(s,false):=by
  have h1:vtS G.g T.g 2 s v=({s with mark:=(bkV G.g s.label s.OR (s.mark,false) v).1},(bkV G.g s.label s.OR (s.mark,false) v).2):=rfl;rw[h1];unfold bkV;rw[Tk hm];by_cases e:m=0/\(OU G.g v).any (λu=>decide (bkC s.label s.OR s.mark v u))=true
  ·rw[if_pos ⟨iZ,e⟩,if_pos e]
  ·rw[if_neg (λe2=>e e2.2),if_neg e]
 rw[nw]
 refine py (e:=[(0,_),(1,_)]) func105 O ntmps105 O O$ qN O$ OJ O O (R4 O (cs:=[I (v:Int)]) O) ?_
 rintro _ w1 ⟨b2,rfl,bN,ad,ai⟩
 refine OJ O O (Ry (cs:=[_]) UH O) ?_
 rintro _ w2 ⟨b3,rfl,dG,ae,ak⟩
 have aX:=ae.OA ai
 have aG:=ad.trans ae
 have jM:=aG.OA hb
 have di:=aG.OA hR
 replace ak:OP w2 b3 [.bool false] 4:=ak
 have z1:=ad.size
 have z2:=ae.size
 have l1:=ai.lt
 have l2:=ak.lt
 have dg:∀j,w.heap.size<=j->¬O_ j:=λj hj=>(cg j hj).2.2.2.2.2.2
 obtain⟨X0,vK⟩:∃X0:Nat->Prop,(λj=>X j\/j=b2\/j=b3)=X0:=⟨_,rfl⟩
 have rK:∀j,X j->X0 j:=λj hj=>by rw[<-vK];exact .inl hj
 have g7:X0 b2/\X0 b3:=by rw[<-vK];exact⟨.inr (.inl O),.inr (.inr O)⟩
 have GX:∀j,X0 j->X j\/(w.heap.size<=j/\j<w2.heap.size):=λj hj=>by rw[<-vK] at hj;exact hj.imp id λe=>by omega
 have N9:Qn (Sn false T.k) G T Q txt K X0 rr O_ a L s w2:=h.grow aG GX rK
 have hg:=Ext.P4 w2
 have h2:=N9.ext hg
 have ly:VC false Q txt G.k T.k rr O_ a L s vl vc vm w2.drew:=hV.kp (S:=λ_=>False) (aG.kp.trans hg.kp) (λ_ _ e=>e)
 have hn:∀j,X0 j->¬¬Vk G T X0 j:=λj hj e=>e (.inl (.inl hj))
 have AM:=rK _ cR.1
 refine OC$ An$ An$ QV (λw'=>Kp (λb=>¬Vk G T X0 b) w2 w') O$ qT 0 O (λ_ hS=>(OM Xo O O (hS.OA jM (hn _ AM)) O)) (hg.kp)$ OG 1 O (Q8 O) (hg.kp)$ OG 2 O (Pr WH O) (hg.kp)$ qT 3 O (λ_ hS=>(OM Zd O O (hS.OA di (hn _ (rK _ gS))) O)) (hg.kp)$ qT 4 O (λ_ hS=>(OM U3 O O (hS.OA aX (hn _ g7.1)) O)) (hg.kp)$ RT 5 O XA O (S2 h2.sp h2.lt h2.m.g.Vu ly.mar (.inl (.inl (rK _ (h.xr _ ly.o.2.2.2)))) hm) ?_
 rintro _ w3 ⟨rfl,gd,av⟩
 refine⟨hg.kp.trans av,?_⟩
 have cJ:=hg.kp.trans av
 have h3:Qn (Sn false T.k) G T Q txt K X0 rr O_ a L s w3:=h2.read av gd
 have iX:=cJ.OA jM (hn _ AM)
 have lV:=cJ.OA di (hn _ (rK _ gS))
 have bV:=cJ.OA aX (hn _ g7.1)
 have bF:=cJ.OA ak (hn _ g7.2)
 have z3:=cJ.size
 have ct:Kp (λb=>¬Vk G T X0 b) w w3:=aG.kp.trans cJ
 by_cases em:m=0
 ·subst em;refine OG 6 O (yne O O) (hg.kp.trans av)$ qE ?_;have ag:=Ext.P4 w3;refine SH O$ An$ An$ QV (λw'=>Kp (λ_=>False) w3 w') O$ qT 0 O (λ_ h=>(OM Xo O O (h.OA iX id) O)) (ag.kp)$ qT 1 O (λ_ h=>(OM Xo O O (h.OA iX id) O)) (ag.kp)$ OG 2 O (Q8 O) (ag.kp)$ OG 3 O (Pr Y9 O) (ag.kp)$ qT 4 O (λ_ h=>(OM ZH O O (h.OA lV id) O)) (ag.kp)$ qT 5 O (λ_ h=>(OM U3 O O (h.OA bV id) O)) (ag.kp)$ RT 6 O zbf O (Y2 G.k v _) ?_;rintro _ w4 ⟨c3,c4,c5,rfl,t8,AG,vE,nz,m7,J7,AN⟩;refine⟨ag.kp.trans AN.kp,?_⟩;have aA:=ag.trans AN;have z4:=aA.size;have l4:=t8.lt;have N6:=ag.size;have cX:=aA.OA bV;have fP:=aA.OA bF;have kY:=aA.OA iX;refine qE$ OE$ RG (ps:=[19]) (p:=[]) (q:=[_,_,_]) O zc9 ?_;rintro l wl cE eP cD hD Rc bK dx;have zl:=cE.size;have AO:=aA.trans cE;obtain⟨X1,dr⟩:∃X1:Nat->Prop,(λj=>X0 j\/j=c3\/j=w4.heap.size\/j=l)=X1:=⟨_,rfl⟩;have df:∀j,X0 j->X1 j:=λj hj=>by rw[<-dr];exact .inl hj
  have ao:X1 b2/\X1 b3/\X1 c3/\X1 w4.heap.size/\X1 l:=⟨df _ g7.1,df _ g7.2,by rw[<-dr];exact .inr (.inl O),by rw[<-dr];exact .inr (.inr (.inl O)),by rw[<-dr];exact .inr (.inr (.inr O))⟩;have eH:∀j,X j->X1 j:=λj hj=>df j (rK j hj);have rI:Qn (Sn false T.k) G T Q txt K X1 rr O_ a L s wl:=h3.grow AO (λj hj=>by rw[<-dr] at hj;exact hj.imp id λe=>by omega) df;have Cf:=aQ _ cR.1
  refine Pm.mono (Zq hv hI.ln rI (cE.OA AG) (cE.OA vE) (cE.OA t8) ao.2.2.1 (λj=>j=l\/j=b3) (λj hj=>by
    rcases hj with rfl|rfl
    ·exact⟨ao.2.2.2.2,by omega,dg _ (by omega)⟩
    ·exact⟨ao.2.1,by omega,dg _ (by omega)⟩)
   (λi txt' K' s' w'=>Rc .ready none w'/\txt'=txt/\K'=K/\s'=s/\(∀u,u∈(OU G.g v).take i->¬bkC s.label s.OR s.mark v u)/\w'.heap[w4.heap.size]? =some (.deferred (some []))/\OP w' b2 [I (v:Int)] 3/\OP w' b3 [.bool false] 4/\OP w' bx [ptr rr 0] 43/\Kp (λb=>¬X b) w w')
   (λtxt' K' s' w'=>Rc .done (some .ret) w'/\s'={s with mark:=s.mark.set v 1}/\K'<=K+1/\(∀y:Int,y<(a:Int)\/(a:Int)+(L:Int)<=y->txt' y=txt y)/\(∃u,u∈OU G.g v/\bkC s.label s.OR s.mark v u)/\w'.heap[w4.heap.size]? =some (.deferred (some []))/\OP w' b3 [.bool true] 4/\Kp (λb=>¬X b) w w')
   ?_ ?_ ?_ ?_ ?_) ?_
  ·rintro i txt' K' s' w7 w8 ⟨e1,e2,e3,e4,e5,e6,e7,e8,e9,e10⟩ hz hk;exact⟨hk.rc bK e1 (λe=>e ao.2.2.2.2),e2,e3,e4,e5,hk.heap e6 (λe=>e ao.2.2.2.1),hk.OA e7 (λe=>e ao.1),hk.OA e8 (λe=>e ao.2.1),hk.OA e9 (λe=>e (eH _ cR.1)),e10.trans (hk.OH λb e e2=>e (eH _ e2))⟩
  ·rintro txt' K' s' w7 w8 ⟨e1,e2,e3,e4,e5,e6,e8,e10⟩ hz hk;exact⟨hk.rc bK e1 (λe=>e ao.2.2.2.2),e2,e3,e4,e5,hk.heap e6 (λe=>e ao.2.2.2.1),hk.OA e8 (λe=>e ao.2.1),e10.trans (hk.OH λb e e2=>e (eH _ e2))⟩
  ·intro w7 hz hk;have rL:=AO.kp.trans hk;have dS:Kp (λb=>¬X b) w w7:=(ct.OH λb e e2=>e (.inl (.inl (rK _ e2)))).trans (rL.OH λb e e2=>e (eH _ e2));exact⟨hk.rc bK dx (λe=>e ao.2.2.2.2),rfl,rfl,rfl,λu hu=>(by cases hu),hk.heap hD (λe=>e ao.2.2.2.1),rL.OA bV (λe=>e ao.1),rL.OA bF (λe=>e ao.2.1),rL.OA iX (λe=>e (eH _ cR.1)),dS⟩
  ·rintro i u txt' K' s' w7 hs iG ⟨e1,e2,e3,e4,e5,e6,e7,e8,e9,e10⟩;refine⟨e1,e2,e3,e4,λx hx=>?_,e6,e7,e8,e9,e10⟩;rw[PC hs,List.mem_append,List.mem_singleton] at hx;rcases hx with hx|rfl
   ·exact e5 x hx
   ·exact λe=>iG e.1
  ·rintro Y i u txt' K' s' w7 aN lq z7 hs AP ik h7 ⟨pa,rfl,rfl,rfl,cQ,vD,fw,ia,kZ,dS⟩;have gT:Y l/\Y b3:=⟨aN _ ao.2.2.2.2,aN _ ao.2.1⟩;have j4:∀j,X j->Y j:=λj hj=>aN j (eH j hj)
   have rE:u<G.g.length:=by
    have:=hI.ln;have:=RF AP;omega
   obtain⟨mu,J8⟩:∃mu,s'.mark[u]? =some mu:=⟨_,List.getElem?_eq_getElem (by omega)⟩;obtain⟨y,hy⟩:∃y,s'.OR[u]? =some y:=⟨_,List.getElem?_eq_getElem (by omega)⟩
   have fH:bkC s'.label s'.OR s'.mark v u↔mu=1/\y=x:=by
    unfold bkC;rw[Tk J8,Tk hx,Tk hy];exact⟨λe=>e.2,λe=>⟨AP,e⟩⟩
   refine Sd bK pa O O$ OK O$ OV O$ run_beginRound O bK pa ?_;rintro w8 pX aL;have h8:=h7.own aL (λj e=>by subst e;exact⟨gT.1,cg _ (by omega)⟩);have gZ:=aL.OA fw (by omega);have er:=aL.OA ia (by omega);have ie:=aL.OA kZ (by omega);have sX:=aL.heap vD (by omega);have z8:=aL.size;obtain⟨vl8,vc8,vm8,vG⟩:=h8.sc;have nj:=Qn.cells vG;have aP:=Ext.P4 w8;have mZ:=h8.ext aP;have lz:VC false Q txt' G.k T.k rr O_ a L s' vl8 vc8 vm8 w8.drew:=vG.kp (S:=λ_=>False) aP.kp (λ_ _ e=>e);have dC:∀j,Y j->¬¬Vk G T Y j:=λj hj e=>e (.inl (.inl hj));have qd:=j4 _ cR.1;have wY:=j4 _ (h.xr _ vG.o.1);refine OE$ An$ PD (λe' w'=>e'=[(41,.bool (decide (bkC s'.label s'.OR s'.mark v u))),(3,ptr b3 0),(2,ptr b2 0),(1,ptr bx 0)]/\Qn (Sn false T.k) G T Q txt' K' Y rr O_ a L s' w'/\VC false Q txt' G.k T.k rr O_ a L s' vl8 vc8 vm8 w'/\Kp (λb=>¬Vk G T Y b) w8 w') ?tJ$ λtJ=>?GZ
   case tJ=>
    rintro e' wa ⟨rfl,ha,nF,ee⟩;have AL:=Qn.cells nF;have jN:=ee.OA ie (dC _ qd);have pi:=ee.OA er (dC _ gT.2);have pj:=ee.OA gZ (dC _ (aN _ ao.1));have sZ:=ee.heap sX (dC _ (aN _ ao.2.2.2.1));have sY:=ee.rc bK pX (dC _ gT.1);have za:=ee.size;have pn:Kp (λb=>¬X b) w wa:=(dS.trans (aL.OH λj e e2=>by have:=aQ j e2;omega)).trans (ee.OH λj e e2=>e (.inl (.inl (j4 j e2))));have po:Kp (λj=>(¬Y j/\j≠T.rb)\/(j=l\/j=b3)) w7 wa:=(aL.OH λj e=> .inr (.inl e)).trans (ee.OH λj e=> .inl ⟨λe2=>e (.inl (.inl e2)),λe2=>e (.inl (.inr e2))⟩);by_cases ebk:bkC s'.label s'.OR s'.mark v u
    ·rw[decide_eq_true ebk];have jO:=Ext.P4 wa;have AQ:=ha.ext jO;have vL:VC false Q txt' G.k T.k rr O_ a L s' vl8 vc8 vm8 wa.drew:=nF.kp (S:=λ_=>False) jO.kp (λ_ _ e=>e);refine OS O$ An$ QV (λw'=>Kp (λb=>¬Vk G T Y b) wa w') O$ qT 0 O (λ_ hS=>(OM Xo O O (hS.OA jN (dC _ qd)) O)) (jO.kp)$ OG 1 O (Q8 O) (jO.kp)$ OG 2 O (Pr WH O) (jO.kp)$ qT 3 O (λ_ hS=>(OM Zd O O (hS.OA AL (dC _ wY)) O)) (jO.kp)$ qT 4 O (λ_ hS=>(OM U3 O O (hS.OA pj (dC _ (aN _ ao.1))) O)) (jO.kp)$ RT 5 O z9j O (Uh AQ.sp AQ.lt AQ.m.g.Vu vL.mar (.inl (.inl (AQ.xr _ vL.o.2.2.2))) (i:=v) (x:=1) (by omega) (by decide)) ?_;rintro _ wb ⟨rfl,hW⟩;refine⟨jO.kp.trans (by obtain⟨_,_,_,_,hk⟩:=hW;exact hk),?_⟩;obtain⟨txtb,gX,GP,GY⟩:=AQ.z6W vL (List.length_set ..) (by omega) hW;have aY:=jO.kp.trans GY;refine RT 6 O z3d O (Sx _) ?_;rintro _ wb rfl;refine⟨aY,?_⟩;have vH:=aY.OA pi (dC _ gT.2);have GR:=aY.heap sZ (dC _ (aN _ ao.2.2.2.1));have kQ:=aY.rc bK sY (dC _ gT.1);have zb:=aY.size;refine qE$ qN O$ OT O (QG UH O O O vH (by simp)) ?_;rintro wc ⟨vJ,aq⟩;have GS:=aq.rc bK kQ (by omega);have GT:=aq.heap GR (by omega);have zc:=aq.size;have hc:=gX.own aq (λj e=>by subst e;exact⟨gT.2,cg _ (by omega)⟩);refine OC$ Tf bK GS ?_;intro wd kP dp;exact⟨.inr ⟨rfl,txtb,K'+1,{s' with mark:=s'.mark.set v 1},rfl,hc.own dp (λj e=>by subst e;exact⟨gT.1,cg _ (by omega)⟩),kP,rfl,Nat.le_refl _,GP,⟨u,List.mem_of_getElem? hs,ebk⟩,dp.heap GT (by omega),dp.OA vJ (by omega),((pn.trans (aY.OH λj e e2=>e (.inl (.inl (j4 j e2))))).trans (aq.OH λj e e2=>by have:=aQ j e2;omega)).trans (dp.OH λj e e2=>by have:=aQ j e2;omega)⟩,((po.trans (aY.OH λj e=> .inl ⟨λe2=>e (.inl (.inl e2)),λe2=>e (.inl (.inr e2))⟩)).trans (aq.OH λj e=> .inr (.inr e))).trans (dp.OH λj e=> .inr (.inl e))⟩
    ·rw[decide_eq_false ebk];refine SH O$ Oz$ RA bK sY ?_;intro wd kP dp;refine⟨.inl ⟨rfl,txt',K',s',rfl,ha.own dp (λj e=>by subst e;exact⟨gT.1,cg _ (by omega)⟩),kP,rfl,rfl,rfl,λx hx=>?_,dp.heap sZ (by omega),dp.OA pj (by omega),dp.OA pi (by omega),dp.OA jN (by omega),pn.trans (dp.OH λj e e2=>by have:=aQ j e2;omega)⟩,po.trans (dp.OH λj e=> .inr (.inl e))⟩;rw[PC hs,List.mem_append,List.mem_singleton] at hx;rcases hx with hx|rfl
     ·exact cQ x hx
     ·exact ebk
   case GZ=>
    refine QV (λw'=>Kp (λb=>¬Vk G T Y b) w8 w') O$ qT 0 O (λ_ hS=>(OM Xo O O (hS.OA ie (dC _ qd)) O)) (aP.kp)$ OG 1 O (Q8 O) (aP.kp)$ OG 2 O (Pr WH O) (aP.kp)$ qT 3 O (λ_ hS=>(OM Zd O O (hS.OA nj (dC _ wY)) O)) (aP.kp)$ OZ 4 O O (aP.kp)$ RT 5 O XA O (S2 mZ.sp mZ.lt mZ.m.g.Vu lz.mar (.inl (.inl (mZ.xr _ lz.o.2.2.2))) J8) ?_;rintro _ w9 ⟨rfl,q9,aw⟩;refine⟨aP.kp.trans aw,?_⟩;have h9:=mZ.read aw q9;have pf:VC false Q txt' G.k T.k rr O_ a L s' vl8 vc8 vm8 w9:=lz.kp aw (λb e e2=>e2 (.inl (.inl (mZ.xr b e))));have ii:=aP.kp.trans aw;by_cases e1:mu=1
    ·refine OG 6 O (yeq O O) (aP.kp.trans aw)$ TL$ OZ 7 O O (aP.kp.trans aw)$ qT 8 O (λ_ hS=>(OM Xo O O (hS.OA ie (dC _ qd)) O)) (aP.kp.trans aw)$ OG 9 O (Q8 O) (aP.kp.trans aw)$ OG 10 O (Pr Vg O) (aP.kp.trans aw)$ qT 11 O (λ_ hS=>(OM Zd O O (hS.OA nj (dC _ wY)) O)) (aP.kp.trans aw)$ OZ 12 O O (aP.kp.trans aw)$ qT 14 O (λ_ hS=>(OM Xo O O (hS.OA ie (dC _ qd)) O)) (aP.kp.trans aw)$ OG 15 O (Q8 O) (aP.kp.trans aw)$ OG 16 O (Pr Vg O) (aP.kp.trans aw)$ qT 17 O (λ_ hS=>(OM Zd O O (hS.OA nj (dC _ wY)) O)) (aP.kp.trans aw)$ qT 18 O (λ_ hS=>(OM U3 O O (hS.OA gZ (dC _ (aN _ ao.1))) O)) (aP.kp.trans aw)$ RT 13 O XA O (S2 h9.sp h9.lt h9.m.g.Vu pf.col (.inl (.inl (h9.xr _ pf.o.2.2.1))) hy) ?_;rintro _ wb ⟨rfl,BN,aY⟩;refine⟨ii.trans aY,?_⟩;have jb:=h9.read aY BN;have xj:VC false Q txt' G.k T.k rr O_ a L s' vl8 vc8 vm8 wb:=pf.kp aY (λb e e2=>e2 (.inl (.inl (h9.xr b e))));have n8:=ii.trans aY;refine RT 19 O XA O (S2 jb.sp jb.lt jb.m.g.Vu xj.col (.inl (.inl (jb.xr _ xj.o.2.2.1))) hx) ?_;rintro _ wc ⟨rfl,Na,aq⟩;refine⟨n8.trans aq,?_⟩;have J9:=jb.read aq Na;have Ja:VC false Q txt' G.k T.k rr O_ a L s' vl8 vc8 vm8 wc:=xj.kp aq (λb e e2=>e2 (.inl (.inl (jb.xr b e))));have AR:=n8.trans aq;by_cases e2:y=x
     ·have pp:=tJ [(41,.bool true),(3,ptr b3 0),(2,ptr b2 0),(1,ptr bx 0)] wc ⟨by rw[decide_eq_true (fH.2 ⟨e1,e2⟩)],J9,Ja,AR⟩;refine OG 20 O (yeq O O) (n8.trans aq)$ TL$ OG 21 O (Uu O O) (n8.trans aq)$ qE$ Po.qb (e:=[(1,_),(2,_),(3,_),(41,_)]) ?_;exact pp.qb
     ·have pp:=tJ [(41,.bool false),(3,ptr b3 0),(2,ptr b2 0),(1,ptr bx 0)] wc ⟨by rw[decide_eq_false (λe=>e2 (fH.1 e).2)],J9,Ja,AR⟩;refine OG 20 O (yeq O O) (n8.trans aq)$ TD$ OG 21 O (Uu O O) (n8.trans aq)$ qE$ Po.qb (e:=[(1,_),(2,_),(3,_),(41,_)]) ?_;exact pp.qb
    ·have pp:=tJ [(41,.bool false),(3,ptr b3 0),(2,ptr b2 0),(1,ptr bx 0)] w9 ⟨by rw[decide_eq_false (λe=>e1 (fH.1 e).1)],h9,pf,ii⟩;refine OG 6 O (yeq O O) (aP.kp.trans aw)$ TD$ OZ 7 O O (aP.kp.trans aw)$ qJ 8 O (aP.kp.trans aw)$ qJ 9 O (aP.kp.trans aw)$ qJ 10 O (aP.kp.trans aw)$ qJ 11 O (aP.kp.trans aw)$ qJ 12 O (aP.kp.trans aw)$ qJ 13 O (aP.kp.trans aw)$ qJ 14 O (aP.kp.trans aw)$ qJ 15 O (aP.kp.trans aw)$ qJ 16 O (aP.kp.trans aw)$ qJ 17 O (aP.kp.trans aw)$ qJ 18 O (aP.kp.trans aw) ?_;refine qJ 19 O (aP.kp.trans aw)$ qJ 20 O (aP.kp.trans aw)$ OG 21 O (U0 O O) (aP.kp.trans aw)$ qE$ Po.qb (e:=[(1,_),(2,_),(3,_),(41,_)]) ?_;exact pp.qb
  ·rintro v' wz ⟨rfl,Y,txtz,Kz,sz,aN,lq,iz,hz,⟨mX,rfl,rfl,rfl,cQ,mY,rq,j0,GW,cZ⟩|⟨mX,rfl,N8,og,wn,mY,j0,cZ⟩⟩
   ·refine⟨_,_,mX,by simp,λwy de=>?_⟩;have zz:=cZ.size;have zy:=de.size;have il:=de.OA j0 (by omega);have jE:=de.heap mY (by omega);rw[List.take_length] at cQ
    rw[if_neg (λe=>by
     obtain⟨u,hu,hb⟩:=List.any_eq_true.1 e.2
     exact cQ u hu (of_decide_eq_true hb))]
    refine Oz$ qN O$ OT O (QG UH O O O il (by simp)) ?_;rintro wx ⟨pe,iw⟩;have AH:=iw.heap jE (by omega);have dP:Kp (λk=>k=w4.heap.size) wx (Rl [.mk w4.heap.size] wx):=Q4 wx w4.heap.size (.deferred none);have j3:=dP.OA pe (by omega);have bQ:Kp (λk=>k=l\/k=b3\/k=w4.heap.size) wz (Rl [.mk w4.heap.size] wx):=((de.OH λj e=> .inl e).trans (iw.OH λj e=> .inr (.inl e))).trans (dP.OH λj e=> .inr (.inr e));refine OC$ T3 (by simp) (Ts AH) func105 (.cell1 U4 O O ((j3).cell _) .nil) ?_;exact⟨_,rfl,rfl,.of ((hz.own bQ (λj e=>⟨by rcases e with rfl|rfl|rfl;exact aN _ ao.2.2.2.2;exact aN _ ao.2.1;exact aN _ ao.2.2.2.1,cg j (by omega)⟩)).less (λj hj=>aN j (eH j hj)) h.xk h.xr) (Nat.le_add_right _ _) (λ_ _=>rfl) (cZ.trans (bQ.OH λj e e2=>by have:=aQ j e2;omega))⟩
   ·refine⟨_,_,mX,by simp,λwy de=>?_⟩;have zz:=cZ.size;have zy:=de.size;have il:=de.OA j0 (by omega);have jE:=de.heap mY (by omega);have dP:Kp (λk=>k=w4.heap.size) wy (Rl [.mk w4.heap.size] wy):=Q4 wy w4.heap.size (.deferred none);have j3:=dP.OA il (by omega);have bQ:Kp (λk=>k=l\/k=b3\/k=w4.heap.size) wz (Rl [.mk w4.heap.size] wy):=(de.OH λj e=> .inl e).trans (dP.OH λj e=> .inr (.inr e))
    rw[if_pos ⟨rfl,by
     obtain⟨u,hu,hb⟩:=wn
     exact List.any_eq_true.2 ⟨u,hu,decide_eq_true hb⟩⟩]
    refine T3 (by simp) (Ts jE) func105 (.cell1 U4 O O ((j3).cell _) .nil) ?_;exact⟨_,rfl,rfl,.of ((hz.own bQ (λj e=>⟨by rcases e with rfl|rfl|rfl;exact aN _ ao.2.2.2.2;exact aN _ ao.2.1;exact aN _ ao.2.2.2.1,cg j (by omega)⟩)).less (λj hj=>aN j (eH j hj)) h.xk h.xr) (by omega) og (cZ.trans (bQ.OH λj e e2=>by have:=aQ j e2;omega))⟩
 ·rw[if_neg (λe=>em e.1)];refine OG 6 O (yne O O) (hg.kp.trans av)$ TL$ qE$ OS O$ qN O$ OT O (QG UH O O O bF (by simp)) ?_;rintro w4 ⟨fP,au⟩;refine OC$ Pf func105 (.cell1 U4 O O ((fP).cell _) .nil) ?_;exact⟨_,rfl,rfl,.of ((h3.own au (λj e=>by subst e;exact⟨g7.2,cg _ (by omega)⟩)).less rK h.xk h.xr) (Nat.le_add_right _ _) (λ_ _=>rfl) ((ct.OH λj e e2=>e (.inl (.inl (rK _ e2)))).trans (au.OH λj e e2=>by have:=aQ j e2;omega))⟩
end
section
variable {g t:List (List Nat)}{s:Sc}{k v:Nat}
def vtF (g t:List (List Nat))(ph:Nat)(a:Sc×Bool)(v:Nat):Sc×Bool:=if R5 a.1.label v then((vtS g t ph a.1 v).1,(vtS g t ph a.1 v).2 ||a.2) else a
def ZA (g t:List (List Nat))(ph:Nat)(s:Sc)(k:Nat):Sc×Bool:=(List.range k).foldl (vtF g t ph) (s,false)
def rtF (ph:Nat)(s:Sc)(v:Nat):Sc:=if R5 s.label v then rtS ph s v else s
def rtL (ph:Nat)(s:Sc)(k:Nat):Sc:=(List.range k).foldl (rtF ph) s
theorem Wz (ph:Nat):ZA g t ph s (k+1)=vtF g t ph (ZA g t ph s k) k:=by
 unfold ZA
 rw[List.range_succ,List.foldl_append]
 rfl
theorem Wp (ph:Nat):rtL ph s (k+1)=rtF ph (rtL ph s k) k:=by
 unfold rtL
 rw[List.range_succ,List.foldl_append]
 rfl
theorem zcn {l c:List Nat}{b:Bool}{u:Nat}:XE l v (c,b) u=((XE l v (c,false) u).1,(XE l v (c,false) u).2 ||b):=by
 unfold XE
 by_cases e:R5 l u/\c.getD v 0<c.getD u 0
 ·rw[if_pos e,if_pos e];rfl
 ·rw[if_neg e,if_neg e];simp
theorem ZE {l:List Nat}:∀{us:List Nat} {c:List Nat} {b:Bool},us.foldl (XE l v) (c,b)=((us.foldl (XE l v) (c,false)).1,(us.foldl (XE l v) (c,false)).2 ||b)
 |[],c,b=>by simp
 | u :: us, c, b => by
   rw[List.foldl_cons,List.foldl_cons,zcn (b:=b)];rw[ZE (us:=us) (c:=(XE l v (c,false) u).1) (b:=(XE l v (c,false) u).2 ||b)];have h:=ZE (l:=l) (us:=us) (c:=(XE l v (c,false) u).1) (b:=(XE l v (c,false) u).2);rw[show((XE l v (c,false) u).1,(XE l v (c,false) u).2)=XE l v (c,false) u from rfl] at h;rw[h,Bool.or_assoc]
theorem zfy:∀k,ZA g t 0 s k=({s with label:=(trS g t s.label k).1},(trS g t s.label k).2)
 |0=>rfl
 | k + 1 => by
   rw[Wz,zfy k,show trS g t s.label (k+1)=trV g t (trS g t s.label k) k by unfold trS;rw[List.range_succ,List.foldl_append];rfl];unfold vtF vtS trV;dsimp only;by_cases e:R5 (trS g t s.label k).1 k
   ·rw[if_pos e,if_pos O];by_cases e2:Wi g (trS g t s.label k).1 k=true\/Wi t (trS g t s.label k).1 k=true
    ·rw[if_pos ⟨e,e2⟩,if_pos ⟨e,e2⟩];rfl
    ·rw[if_neg (λh=>e2 h.2),if_neg (λh=>e2 h.2)];simp
   ·rw[if_neg e,if_neg (λh=>e h.1)]
theorem zfH:∀k,ZA g t 1 s k=({s with OR:=(XN g s.label s.OR k).1},(XN g s.label s.OR k).2)
 |0=>rfl
 | k + 1 => by
   rw[Wz,zfH k,show XN g s.label s.OR (k+1)=coV g s.label (XN g s.label s.OR k) k by unfold XN;rw[List.range_succ,List.foldl_append];rfl];unfold vtF vtS coV;dsimp only;by_cases e:R5 s.label k
   ·rw[if_pos e,if_neg (by decide),if_pos O,if_pos e];have h:=ZE (l:=s.label) (v:=k) (us:=OU g k) (c:=(XN g s.label s.OR k).1) (b:=(XN g s.label s.OR k).2);rw[show((XN g s.label s.OR k).1,(XN g s.label s.OR k).2)=XN g s.label s.OR k from rfl] at h;rw[if_pos e,h]
   ·rw[if_neg e,if_neg e]
theorem zg0:∀k,ZA g t 2 s k=({s with mark:=(bkS g s.label s.OR s.mark k).1},(bkS g s.label s.OR s.mark k).2)
 |0=>rfl
 | k + 1 => by
   rw[Wz,zg0 k,show bkS g s.label s.OR s.mark (k+1)=bkV g s.label s.OR (bkS g s.label s.OR s.mark k) k by unfold bkS;rw[List.range_succ,List.foldl_append];rfl];unfold vtF vtS bkV;dsimp only;by_cases e:R5 s.label k
   ·rw[if_pos e,if_neg (by decide),if_neg (by decide)];by_cases e2:(bkS g s.label s.OR s.mark k).1.getD k 0=0/\(OU g k).any (λu=>decide (bkC s.label s.OR (bkS g s.label s.OR s.mark k).1 k u))=true
    ·rw[if_pos ⟨e,e2⟩,if_pos ⟨e,e2⟩];rfl
    ·rw[if_neg (λh=>e2 h.2),if_neg (λh=>e2 h.2)];simp
   ·rw[if_neg e,if_neg (λh=>e h.1)]
theorem zbJ:∀k {l:List Nat},(trS g t l k).2=false->(trS g t l k).1=l
 |0,_,_=>rfl
 | k + 1, l, h => by
   rw[show trS g t l (k+1)=trV g t (trS g t l k) k by unfold trS;rw[List.range_succ,List.foldl_append];rfl] at h⊢;unfold trV at h⊢;split at h
   ·cases h
   ·rename_i e
    rw[if_neg e];exact zbJ k h
def zfO {l:List Nat}{a:List Nat×Bool}{u:Nat}(h:(XE l v a u).2=false):XE l v a u=a:=by
 unfold XE at h⊢
 split at h
 ·cases h
 ·rename_i e
  rw[if_neg e]
def z8s {l:List Nat}:∀{us:List Nat} {a:List Nat×Bool},(us.foldl (XE l v) a).2=false->us.foldl (XE l v) a=a
 |[],_,_=>rfl
 | u :: us, a, h => by
   rw[List.foldl_cons] at h⊢;have h1:=z8s h;rw[h1] at h⊢;exact zfO h
theorem z6C:∀k {l c:List Nat},(XN g l c k).2=false->(XN g l c k).1=c
 |0,_,_,_=>rfl
 | k + 1, l, c, h => by
   rw[show XN g l c (k+1)=coV g l (XN g l c k) k by unfold XN;rw[List.range_succ,List.foldl_append];rfl] at h⊢;unfold coV at h⊢;split at h
   ·rename_i e
    rw[if_pos e];have h1:=z8s h;rw[h1] at h⊢;exact z6C k h
   ·rename_i e
    rw[if_neg e];exact z6C k h
theorem zaw:∀k {l c m:List Nat},(bkS g l c m k).2=false->(bkS g l c m k).1=m
 |0,_,_,_,_=>rfl
 | k + 1, l, c, m, h => by
   rw[show bkS g l c m (k+1)=bkV g l c (bkS g l c m k) k by unfold bkS;rw[List.range_succ,List.foldl_append];rfl] at h⊢;unfold bkV at h⊢;split at h
   ·cases h
   ·rename_i e
    rw[if_neg e];exact zaw k h
theorem zfm {ph:Nat}(hp:ph<=2)(h:(ZA g t ph s k).2=false):(ZA g t ph s k).1=s:=by
 match ph,hp with
 |0,_=>rw[zfy] at h⊢;show {s with label:=(trS g t s.label k).1}=s;rw[zbJ k h]
 |1,_=>rw[zfH] at h⊢;show {s with OR:=(XN g s.label s.OR k).1}=s;rw[z6C k h]
 |2,_=>rw[zg0] at h⊢;show {s with mark:=(bkS g s.label s.OR s.mark k).1}=s;rw[zaw k h]
theorem zi0:∀k,rtL 0 s k={s with OR:=rsC s.label s.OR k}
 |0=>rfl
 | k + 1 => by
   rw[Wp,zi0 k,show rsC s.label s.OR (k+1)=if R5 s.label k then(rsC s.label s.OR k).set k k else rsC s.label s.OR k by unfold rsC;rw[List.range_succ,List.foldl_append];rfl];unfold rtF rtS;dsimp only;by_cases e:R5 s.label k
   ·rw[if_pos e,if_pos e,if_pos O]
   ·rw[if_neg e,if_neg e]
theorem zgR:∀k,rtL 1 s k={s with mark:=rsM s.label s.OR s.mark k}
 |0=>rfl
 | k + 1 => by
   rw[Wp,zgR k,show rsM s.label s.OR s.mark (k+1)=if R5 s.label k/\s.OR.getD k 0=k then(rsM s.label s.OR s.mark k).set k 1 else rsM s.label s.OR s.mark k by unfold rsM;rw[List.range_succ,List.foldl_append];rfl];unfold rtF rtS;dsimp only;by_cases e:R5 s.label k
   ·rw[if_pos e,if_neg (by decide),if_pos O];by_cases e2:s.OR.getD k 0=k
    ·rw[if_pos e2,if_pos ⟨e,e2⟩]
    ·rw[if_neg e2,if_neg (λh=>e2 h.2)]
   ·rw[if_neg e,if_neg (λh=>e h.1)]
theorem zgh:∀k,rtL 2 s k={s with label:=rsL s.label s.OR s.mark k}
 |0=>rfl
 | k + 1 => by
   rw[Wp,zgh k,show rsL s.label s.OR s.mark (k+1)=if R5 (rsL s.label s.OR s.mark k) k/\s.mark.getD k 0=1 then(rsL s.label s.OR s.mark k).set k (s.OR.getD k 0) else rsL s.label s.OR s.mark k by unfold rsL;rw[List.range_succ,List.foldl_append];rfl];unfold rtF rtS;dsimp only;by_cases e:R5 (rsL s.label s.OR s.mark k) k
   ·rw[if_pos e,if_neg (by decide),if_neg (by decide)];by_cases e2:s.mark.getD k 0=1
    ·rw[if_pos e2,if_pos ⟨e,e2⟩]
    ·rw[if_neg e2,if_neg (λh=>e2 h.2)]
   ·rw[if_neg e,if_neg (λh=>e h.1)]
def zdG (ph:Nat):Nat:=if ph=2 then 0 else ph+1
def Vo (ph:Nat)(s:Sc):Sc:=if ph=1 then {s with mark:=List.replicate s.mark.length 0} else s
def zg2 (hp:s.phase<=2)(hm:s.mark.length=g.length):s.go g t=if(ZA g t s.phase s g.length).2 then(ZA g t s.phase s g.length).1 else {rtL s.phase (Vo s.phase s) g.length with phase:=zdG s.phase}:=by
 obtain⟨a,ph,d,l,c,m⟩:=s
 dsimp only at hp hm⊢
 match ph,hp with
 |0,_=>rw[zfy,show Vo 0 _=_ from rfl,zi0];rfl
 |1,_=>rw[zfH,show Vo 1 _=Sc.mk a 1 d l c (List.replicate m.length 0) from rfl,zgR,hm];rfl
 |2,_=>rw[zg0,show Vo 2 _=_ from rfl,zgh];rfl
end
def UK.vt {g t:List (List Nat)}{s:Sc}{ph v:Nat}(h:UK g s)(hp:ph<=2)(hv:v<g.length)(hn:g.length<=60):UK g (vtS g t ph s v).1:=by
 match ph,hp with
 | 0, _ =>
   show UK g {s with label:=(trV g t (s.label,false) v).1};unfold trV;dsimp only;split
   ·exact⟨h.ph,by show(s.label.set v v).length=_;rw[List.length_set];exact h.ln,h.cn,h.mn,Tn h.lb (by omega),h.cb,h.mb⟩
   ·exact h
 | 1, _ =>
   show UK g {s with OR:=(coV g s.label (s.OR,false) v).1};unfold coV;split
   ·have h1:=z0k (l:=s.label) (v:=v) (us:=OU g v) (a:=(s.OR,false)) h.cb;exact⟨h.ph,h.ln,h1.2.trans h.cn,h.mn,h.lb,h1.1,h.mb⟩
   ·exact h
 | 2, _ =>
   show UK g {s with mark:=(bkV g s.label s.OR (s.mark,false) v).1};unfold bkV;dsimp only;split
   ·exact⟨h.ph,h.ln,h.cn,by show(s.mark.set v 1).length=_;rw[List.length_set];exact h.mn,h.lb,h.cb,Tn h.mb (by decide)⟩
   ·exact h
def UK.rt {g:List (List Nat)}{s:Sc}{ph v:Nat}(h:UK g s)(hv:v<g.length)(hn:g.length<=60):UK g (rtS ph s v):=by
 unfold rtS
 split
 ·exact⟨h.ph,h.ln,by show(s.OR.set v v).length=_;rw[List.length_set];exact h.cn,h.mn,h.lb,Tn h.cb (by omega),h.mb⟩
 ·split
  ·split
   ·exact⟨h.ph,h.ln,h.cn,by show(s.mark.set v 1).length=_;rw[List.length_set];exact h.mn,h.lb,h.cb,Tn h.mb (by decide)⟩
   ·exact h
  ·split
   ·exact⟨h.ph,by show(s.label.set v _).length=_;rw[List.length_set];exact h.ln,h.cn,h.mn,Tn h.lb (z15 (P:=λx=>x<4294967296) h.cb (by decide)),h.cb,h.mb⟩
   ·exact h
def UK.vts {g t:List (List Nat)}{s:Sc}{ph:Nat}(h:UK g s)(hp:ph<=2)(hn:g.length<=60):∀k,k<=g.length->UK g (ZA g t ph s k).1
 |0,_=>h
 | k + 1, hk => by
   have ih:=UK.vts (t:=t) h hp hn k (by omega);rw[Wz];unfold vtF;split
   ·exact ih.vt hp (by omega) hn
   ·exact ih
def UK.rts {g:List (List Nat)}{s:Sc}{ph:Nat}(h:UK g s)(hn:g.length<=60):∀k,k<=g.length->UK g (rtL ph s k)
 |0,_=>h
 | k + 1, hk => by
   have ih:=UK.rts (ph:=ph) h hn k (by omega);rw[Wp];unfold rtF;split
   ·exact ih.rt (by omega) hn
   ·exact ih
def UK.fil {g:List (List Nat)}{s:Sc}{ph:Nat}(h:UK g s):UK g (Vo ph s):=by
 unfold Vo
 split
 ·exact⟨h.ph,h.ln,h.cn,by show(List.replicate _ _).length=_;rw[List.length_replicate];exact h.mn,h.lb,h.cb,λx hx=>by rw[(List.mem_replicate.1 hx).2];decide⟩
 ·exact h
section
variable {G T:ZI}{w w':World}{sw:Bool}{Q:Ra}{txt txt':Int->OI}{K K' ok:Nat}{X O_:Nat->Prop}{rr a L vl vc vm bx v:Nat}{s s':Sc}
def z1S (ph:Nat):FuncId:=if ph=0 then 97 else if ph=1 then 101 else 105
def z2c (ph:Nat):FuncId:=if ph=0 then 100 else if ph=1 then 104 else 106
def Xp (f:FuncId)(b:Nat):Value:= .func (.func f) #[] #[ptr b 0]
def Yi (w:World):Pm prog 65 [ptr rr 0] w λr w'=>∃b,r= .agg #[Xp (z1S 0) b,Xp (z2c 0) b,I 1,Xp (z1S 1) b,Xp (z2c 1) b,I 2,Xp (z1S 2) b,Xp (z2c 2) b,I 0]/\OP w' b [ptr rr 0] 43/\w.heap.size<=b/\Kp (λj=>w.heap.size<=j) w w':=by
 refine py (e:=[(0,_)]) func65 O ntmps65 O O$ qN O$ OJ O O (R4 O (cs:=[ptr rr 0]) O) ?_
 rintro _ w1 ⟨b1,rfl,bL,ad,ai⟩
 refine OJ O O (Ry (cs:=[_,_,_,_,_,_,_,_,_]) z7Y O) ?_
 rintro _ w2 ⟨b2,rfl,bN,ae,ak⟩
 have z1:=ad.size
 have l1:=ai.lt
 refine qM O$ qV (ymf (first:=[]) (caps:=[.tmp 1]) O O)$ qV (ymf (first:=[]) (caps:=[.tmp 1]) O O)$ qV (Sa (cs:=[_,_,_]) Xy O zce O O)$ qV (ymf (first:=[]) (caps:=[.tmp 1]) O O)$ qV (ymf (first:=[]) (caps:=[.tmp 1]) O O)$ qV (Sa (cs:=[_,_,_]) Xy O zce O O)$ qV (ymf (first:=[]) (caps:=[.tmp 1]) O O)$ qV (ymf (first:=[]) (caps:=[.tmp 1]) O O)$ qV (Sa (cs:=[_,_,_]) Xy O zce O O)$ qV (zdh (parts:=[(0,.tmp 5),(1,.tmp 8),(2,.tmp 11)]) (cs:=[_,_,_,_,_,_,_,_,_]) z7Y O zdj Xy O O)$ OT O (PG z7Y O O O O ak (by simp)) ?_
 rintro w3 ⟨ar,av⟩
 refine OC$ Pf func65 (.cell zdj O z7Y O (OP.cells (n:=9) ar (news:=[_,_,_,_,_,_,_,_,_]) O) O .nil) ?_
 exact⟨_,rfl,b1,rfl,av.OA (ae.OA ai) (by omega),by omega,(ad.trans ae).kp.trans (av.OH λj e=>by omega)⟩
theorem ScW.more {n n':Nat}(h:ScW G T Q txt K X rr O_ a L n s w w')(hn:n<=n'):ScW G T Q txt K X rr O_ a L n' s w w':=by
 obtain⟨⟨txt',K',h1,h2,h3⟩,hk⟩:=h
 exact⟨⟨txt',K',h1,by omega,h3⟩,hk⟩
def zbo (h:Qn (Sn false T.k) G T Q txt K X rr O_ a L s w)(hI:UK G.g s)(ht:T.g.length=G.g.length)(hK:K<=900000000000)(hb:OP w bx [ptr rr 0] 43)(cR:X bx/\¬O_ bx)(hv:v<G.g.length)(iZ:R5 s.label v){ph:Nat}(hp:ph<=2):Pm prog (z1S ph) [I (v:Int),ptr bx 0] w λr w'=>r= .bool (vtS G.g T.g ph s v).2/\ScW G T Q txt K X rr O_ a L 40 (vtS G.g T.g ph s v).1 w w':=by
 match ph,hp with
 |0,_=>exact(z5I h hI ht hK hb cR.1 hv iZ).mono λr w' ⟨e1,e2⟩=>⟨e1,e2.more (by decide)⟩
 |1,_=>exact z3B h hI hK hb cR hv iZ
 |2,_=>exact z6X h hI hK hb cR hv iZ
def zcc (h:Qn (Sn false T.k) G T Q txt K X rr O_ a L s w)(hI:UK G.g s)(hK:K<=900000000000)(hb:OP w bx [ptr rr 0] 43)(cR:X bx/\¬O_ bx)(hv:v<G.g.length){ph:Nat}(hp:ph<=2):Pm prog (z2c ph) [I (v:Int),ptr bx 0] w λ_ w'=>ScW G T Q txt K X rr O_ a L 1 (rtS ph s v) w w':=by
 match ph,hp with
 |0,_=>exact z4w h hI hK hb cR.1 hv
 |1,_=>exact z3S h hI hK hb cR.1 hv
 |2,_=>exact z57 h hI hK hb cR.1 hv
def zkb {ph:Nat}(hp:ph<=2):CF prog (z1S ph):=by
 match ph,hp with
 |0,_=>exact zkt
 |1,_=>exact ziq
 |2,_=>exact zjz
def zjQ {ph:Nat}(hp:ph<=2):CF prog (z2c ph):=by
 match ph,hp with
 |0,_=>exact zjp
 |1,_=>exact zid
 |2,_=>exact zim
theorem ze7 {b ph:Nat}(h:ph<=2):Value.agg ((#[Xp (z1S 0) b,Xp (z2c 0) b,I 1,Xp (z1S 1) b,Xp (z2c 1) b,I 2,Xp (z1S 2) b,Xp (z2c 2) b,I 0]:Array Value).extract (ph*3) (ph*3+3))= .agg #[Xp (z1S ph) b,Xp (z2c ph) b,I (zdG ph:Int)]:=by
 match ph,h with
 |0,_=>rfl
 |1,_=>rfl
 |2,_=>rfl
def Qn.z7N (h:Qn (Sn false T.k) G T Q txt K X rr O_ a L s w):Pm prog 30 [ptr G.k 0] w λv w'=>v=I (G.g.length:Int)/\w'=w:=z0i h.m.g
theorem VC.put (h:VC sw Q txt G.k ok rr O_ a L s vl vc vm w)(hk:Kp (λb=>b=rr) w w')(hr:OP w' rr (scC s' (if sw then ok else G.k) (if sw then G.k else ok) vl vc vm) 86)(hl:s'.label=s.label)(hc:s'.OR=s.OR)(hm:s'.mark=s.mark):VC sw Q txt G.k ok rr O_ a L s' vl vc vm w':=by
 refine⟨h.o,h.ne,hr,?_,?_,?_,?_,h.L⟩
 ·rw[hl];exact h.Zc.kp hk (λe=>h.ne.1 e.symm)
 ·rw[hc];exact h.col.kp hk (λe=>h.ne.2.1 e.symm)
 ·rw[hm];exact h.mar.kp hk (λe=>h.ne.2.2.1 e.symm)
 ·rw[hl,hc,hm];exact h.n
theorem z6M (h:Qn (Sn false T.k) G T Q txt K X rr O_ a L s w)(hI:UK G.g s)(ht:T.g.length=G.g.length)(hK:K<=800000000000):Pm prog 37 [ptr rr 0] w λr w'=>r= .bool (z1t (s.go G.g T.g).label G.g.length)/\(∃txt' K',Qn (Sn false T.k) G T Q txt' K' X rr O_ a L (s.go G.g T.g) w'/\K'<=K+9000/\∀y:Int,y<(a:Int)\/(a:Int)+(L:Int)<=y->txt' y=txt y)/\Kp (λb=>¬X b\/O_ b) w w':=by
 have eE:=h.m.n
 obtain⟨vl,vc,vm,hV⟩:=h.sc
 have hR:=Qn.cells hV
 have gS:=h.xr _ hV.o.1
 have rM:=hI.ph
 have aQ:∀b,X b->b<w.heap.size:=λb hb=>h.lt b (.inl (.inl hb))
 have xq:=aQ _ gS
 refine py (e:=[(0,_)]) func37 O ntmps37 O O$ Qx O$ An$ PD (λe' w'=>∃b3 bx,e'=[(3,ptr b3 0),(2,.bool false),(0,ptr rr 0)]/\OP w' b3 [Xp (z1S s.phase) bx,Xp (z2c s.phase) bx,I (zdG s.phase:Int)] 153/\OP w' bx [ptr rr 0] 43/\w.heap.size<=b3/\w.heap.size<=bx/\b3≠bx/\Kp (λj=>w.heap.size<=j) w w') ?H0$ λH0=>?H3
 case H0 =>
  rintro e' w1 ⟨b3,bx,rfl,ai,oM,dG,fJ,wh,az⟩;have ad:Ext w w1:=Kp.mono az (λk hl hs=>by omega);have z1:=ad.size;have lb3:=ai.lt;have lbx:=oM.lt;obtain⟨X1,dr⟩:∃X1:Nat->Prop,(λj=>X j\/j=b3\/j=bx)=X1:=⟨_,rfl⟩;have df:∀j,X j->X1 j:=λj hj=>by rw[<-dr];exact .inl hj
  have ao:X1 b3/\X1 bx:=by rw[<-dr];exact⟨.inr (.inl O),.inr (.inr O)⟩
  have h1:Qn (Sn false T.k) G T Q txt K X1 rr O_ a L s w1:=h.grow ad (λj hj=>by rw[<-dr] at hj;exact hj.imp id λe=>by omega) df;have Jb:¬O_ bx:=λe=>by have:=aQ _ (h.xr _ e);omega
  have lA:G.g.length<=60:=by omega
  have iA:=ad.OA hR;refine Qx O$ PK O$ Pq O$ OW Y9 O$ qV (OM ZH O O iA O)$ P5 z7k O (h1.z7N) ?_;rintro _ w1 ⟨rfl,rfl⟩;refine ON O$ OC$ OE$ Rr (α:=Nat) (0) (λk=>[(0,ptr rr 0),(2,.bool false),(3,ptr b3 0),(4,.bool (ZA G.g T.g s.phase s k).2),(19,I (G.g.length:Int)),(20,I (k:Int))]) (λk w'=>k<=G.g.length/\(∃txt' K',Qn (Sn false T.k) G T Q txt' K' X1 rr O_ a L (ZA G.g T.g s.phase s k).1 w'/\K'<=K+40*k/\∀y:Int,y<(a:Int)\/(a:Int)+(L:Int)<=y->txt' y=txt y)/\Kp (λb=>¬X1 b) w1 w') (λk=>G.g.length-k) ?hI ?hround
  case hI=>exact⟨Nat.zero_le _,⟨txt,K,h1,Nat.le_refl _,λ_ _=>rfl⟩,Kp.refl _ _⟩
  case hround =>
   rintro k w4 ⟨hk,⟨txt4,K4,h4,H1,nG⟩,au⟩ ih;dsimp only at ih⊢;have aK:=au.OA ai (λe=>e ao.1);have kY:=au.OA oM (λe=>e ao.2);have jB:=hI.vts (t:=T.g) rM lA k hk;have AS:=Wz (g:=G.g) (t:=T.g) (s:=s) (k:=k) s.phase
   try dsimp only
   refine qN O$ Qw O$ OC$ An$ OQ O (λh0=>?_)$ λh0=>?_
   ·have kh:k<G.g.length:=by omega
    refine OD$ QA$ Pn O$ OV O$ OK O$ Pa O$ P5 zdo O (VU h4 (by rw[jB.ln];exact kh)) ?_;rintro _ w5 ⟨rfl,h5,aj⟩;have j5:Kp (λb=>¬X1 b) w4 w5:=aj.OH λb e e2=>e (.inl (.inl e2));have aH:=j5.OA aK (λe=>e ao.1);have mQ:=j5.OA kY (λe=>e ao.2);by_cases el:R5 (ZA G.g T.g s.phase s k).1.label k
    ·rw[decide_eq_true el];refine ON O$ OW zdl O$ qV (OM zif O O aH O)$ ON O$ Qp O O (RN (zkb rM) O O) (zbo h5 jB ht (by omega) mQ ⟨ao.2,Jb⟩ kh el rM) ?_;rintro _ w6 ⟨rfl,hW⟩;obtain⟨⟨txt6,K6,h6,Oq,J3⟩,aM⟩:=hW
     have j6:ZA G.g T.g s.phase s (k+1)=((vtS G.g T.g s.phase (ZA G.g T.g s.phase s k).1 k).1,(vtS G.g T.g s.phase (ZA G.g T.g s.phase s k).1 k).2 ||(ZA G.g T.g s.phase s k).2):=by
      rw[AS];unfold vtF;rw[if_pos el]
     rw[show(vtS G.g T.g s.phase (ZA G.g T.g s.phase s k).1 k).1=(ZA G.g T.g s.phase s (k+1)).1 by rw[j6]] at h6;have iH:(ZA G.g T.g s.phase s (k+1)).2=((vtS G.g T.g s.phase (ZA G.g T.g s.phase s k).1 k).2 ||(ZA G.g T.g s.phase s k).2):=by rw[j6]
     have lY:=ih (k+1) w6 ⟨by omega,⟨txt6,K6,h6,by omega,λy e=>(J3 y e).trans (nG y e)⟩,(au.trans j5).trans aM⟩ (by omega);rw[iH] at lY
     generalize (vtS G.g T.g s.phase (ZA G.g T.g s.phase s k).1 k).2=o at lY
     cases o with
     | true =>
       refine QX O$ ON O$ qS$ QX O$ OV O$ Oz$ OK O$ PS O$ ON O$ OC ?_
       exact lY.qb
     | false =>
       refine QX O$ Pa O$ PM O$ OV O$ Oz$ OK O$ PS O$ ON O$ OC ?_;exact lY.qb
    ·rw[decide_eq_false el];refine ON O$ QL$ QL$ PM O$ Pa O$ PM O$ OV O$ Oz$ OK O$ PS O$ ON O$ OC ?_
     have j6:ZA G.g T.g s.phase s (k+1)=ZA G.g T.g s.phase s k:=by
      rw[AS];unfold vtF;rw[if_neg el]
     have lY:=ih (k+1) w5 ⟨by omega,⟨txt4,K4,by rw[j6];exact h5,by omega,nG⟩,au.trans j5⟩ (by omega);rw[j6] at lY;exact lY.qb
   ·have kh : k = G.g.length := by omega
    refine OO O$ An$ PD (λe' w'=>e'=[(0,ptr rr 0),(2,.bool false)]/\(∃txt' K',Qn (Sn false T.k) G T Q txt' K' X1 rr O_ a L (s.go G.g T.g) w'/\K'<=K+9000/\∀y:Int,y<(a:Int)\/(a:Int)+(L:Int)<=y->txt' y=txt y)/\Kp (λb=>¬X1 b\/O_ b) w1 w') ?cZ$ λcZ=>?iW
    case cZ =>
     rintro e' w9 ⟨rfl,⟨txt9,K9,h9,Jc,BY⟩,aw⟩;have i4:UK G.g (s.go G.g T.g):=hI.go lA;obtain⟨vl9,vc9,vm9,pf⟩:=h9.sc;have pC:=Qn.cells pf;have oY:Kp (λb=>¬X b\/O_ b) w w9:=(ad.kp.trans aw).OH λb e=>e.imp (λe e2=>e (df _ e2)) id;refine PK O$ Pq O$ OW Y9 O$ qV (OM ZH O O pC O)$ P5 z7k O (h9.z7N) ?_;rintro _ w9 ⟨rfl,rfl⟩;refine ON O$ OC$ OE$ Rr (α:=Nat) (0) (λk=>[(0,ptr rr 0),(2,.bool false),(74,I (G.g.length:Int)),(75,I (k:Int))]) (λk w'=>k<=G.g.length/\(∀v,v<k->¬R5 (s.go G.g T.g).label v)/\Qn (Sn false T.k) G T Q txt9 K9 X1 rr O_ a L (s.go G.g T.g) w'/\Kp (λb=>¬X b\/O_ b) w w') (λk=>G.g.length-k) ?hI ?hround
     case hI=>exact⟨Nat.zero_le _,λv hv=>absurd hv (Nat.not_lt_zero _),h9,oY⟩
     case hround =>
      rintro k wa ⟨hk,cQ,ha,bE⟩ ih;dsimp only at ih⊢
      try dsimp only
      refine qN O$ Qw O$ OC$ An$ OQ O (λh1=>?_)$ λh1=>?_
      ·have kh:k<G.g.length:=by omega
       refine OD$ QA$ Pn O$ QS O$ Pa O$ P5 zdo O (VU ha (by rw[i4.ln];exact kh)) ?_;rintro _ wb ⟨rfl,gX,aY⟩;have lB:Kp (λb=>¬X b\/O_ b) wa wb:=aY.OH λb e=> .inl λe2=>e (.inl (.inl (df _ e2)));by_cases el:R5 (s.go G.g T.g).label k
       ·rw[decide_eq_true el];refine OC$ OS O$ Qx O$ OB func37 O ?_;exact⟨_,rfl,by rw[(z1o i4.ln).2 ⟨k,el⟩];rfl,⟨txt9,K9,gX.less df h.xk h.xr,Jc,BY⟩,bE.trans lB⟩
       ·rw[decide_eq_false el];refine Qg O$ Oz$ OK O$ PS O$ ON O$ OC ?_
        exact(ih (k+1) wb ⟨by omega,λv hv=>by
         by_cases e:v=k
         ·rw[e];exact el
         ·exact cQ v (by omega),gX,bE.trans lB⟩ (by omega)).qb
      ·have kh:k=G.g.length:=by omega
       refine OO O$ Qx O$ OB func37 O ?_
       have ho:z1t (s.go G.g T.g).label G.g.length=true:=by
        cases e:z1t (s.go G.g T.g).label G.g.length with
        |true=>rfl
        | false =>
          obtain⟨v,hv⟩:=(z1o i4.ln).1 e;have h1:=RF hv;rw[i4.ln] at h1;exact absurd hv (cQ v (by omega))
       rw[ho];exact⟨_,rfl,rfl,⟨txt9,K9,ha.less df h.xk h.xr,Jc,BY⟩,bE⟩
    case iW =>
     subst kh;have wZ:=zg2 (t:=T.g) rM hI.mn
     cases iH:(ZA G.g T.g s.phase s G.g.length).2 with
     | true =>
       rw[iH] at wZ;rw[if_pos O] at wZ;refine Pn O$ qV ((RZ O))$ Qg O ?_
       exact(cZ _ _ ⟨rfl,⟨txt4,K4,by rw[wZ];exact h4,by omega,nG⟩,au.OH λb e=> .inl e⟩).qb
     | false =>
       rw[iH] at wZ;rw[if_neg (by decide)] at wZ;rw[zfm rM iH] at h4;obtain⟨vl4,vc4,vm4,na⟩:=h4.sc;have fi:=Qn.cells na;refine Pn O$ qV ((RZ O))$ OC$ OS O$ PK O$ Pq O$ OW z73 O$ qV (OM U84 O O fi O)$ Rg O$ OC$ PD (λe' w'=>e'=[(0,ptr rr 0),(2,.bool false),(3,ptr b3 0)]/\(∃txt' K',Qn (Sn false T.k) G T Q txt' K' X1 rr O_ a L (Vo s.phase s) w'/\K'<=K+2000/\∀y:Int,y<(a:Int)\/(a:Int)+(L:Int)<=y->txt' y=txt y)/\Kp (λb=>¬X1 b) w1 w') ?bQ$ λbQ=>?ug
       case bQ =>
        rintro e' w5 ⟨rfl,⟨txt5,K5,h5,Nb,AU⟩,aj⟩;have kH:UK G.g (Vo s.phase s):=hI.fil;obtain⟨vl5,vc5,vm5,C6⟩:=h5.sc;have mf:=Qn.cells C6;refine PK O$ Pq O$ OW Y9 O$ qV (OM ZH O O mf O)$ P5 z7k O (h5.z7N) ?_;rintro _ w5 ⟨rfl,rfl⟩;refine ON O$ OC$ OE$ Rr (α:=Nat) (0) (λk=>[(0,ptr rr 0),(2,.bool false),(3,ptr b3 0),(53,I (G.g.length:Int)),(54,I (k:Int))]) (λk w'=>k<=G.g.length/\(∃txt' K',Qn (Sn false T.k) G T Q txt' K' X1 rr O_ a L (rtL s.phase (Vo s.phase s) k) w'/\K'<=K5+k/\∀y:Int,y<(a:Int)\/(a:Int)+(L:Int)<=y->txt' y=txt y)/\Kp (λb=>¬X1 b) w1 w') (λk=>G.g.length-k) ?hI ?hround
        case hI=>exact⟨Nat.zero_le _,⟨txt5,K5,h5,Nat.le_refl _,AU⟩,aj⟩
        case hround=>
         rintro k wa ⟨hk,⟨txta,Ka,ha,Ot,H2⟩,bE⟩ ih;dsimp only at ih⊢;have C4:=bE.OA ai (λe=>e ao.1);have jN:=bE.OA oM (λe=>e ao.2);have Jd:=kH.rts (ph:=s.phase) lA k hk;have AS:=Wp (s:=Vo s.phase s) (k:=k) s.phase
         try dsimp only
         refine qN O$ Qw O$ OC$ An$ OQ O (λh1=>?_)$ λh1=>?_
         ·have kh:k<G.g.length:=by omega
          refine OD$ QA$ Pn O$ QS O$ Pa O$ P5 zdo O (VU ha (by rw[Jd.ln];exact kh)) ?_;rintro _ wb ⟨rfl,gX,aY⟩;have lB:Kp (λb=>¬X1 b) wa wb:=aY.OH λb e e2=>e (.inl (.inl e2));have wR:=lB.OA C4 (λe=>e ao.1);have vI:=lB.OA jN (λe=>e ao.2);by_cases el:R5 (rtL s.phase (Vo s.phase s) k).label k
          ·rw[decide_eq_true el];refine OC$ OS O$ OK O$ OW zdD O$ qV (OM zkk O O wR O)$ ON O$ Qp O O (RN (zjQ rM) O O) (zcc gX Jd (by omega) vI ⟨ao.2,Jb⟩ kh rM) ?_;rintro _ wc hW;obtain⟨⟨txtc,Kc,hc,Ou,Nc⟩,aq⟩:=hW
           have j6:rtL s.phase (Vo s.phase s) (k+1)=rtS s.phase (rtL s.phase (Vo s.phase s) k) k:=by
            rw[AS];unfold rtF;rw[if_pos el]
           rw[<-j6] at hc;have lY:=ih (k+1) wc ⟨by omega,⟨txtc,Kc,hc,by omega,λy e=>(Nc y e).trans (H2 y e)⟩,(bE.trans lB).trans aq⟩ (by omega);refine OC$ Oz$ OK O$ PS O$ ON O$ OC ?_;exact lY.qb
          ·rw[decide_eq_false el];refine Qg O$ Oz$ OK O$ PS O$ ON O$ OC ?_
           have j6:rtL s.phase (Vo s.phase s) (k+1)=rtL s.phase (Vo s.phase s) k:=by
            rw[AS];unfold rtF;rw[if_neg el]
           have lY:=ih (k+1) wb ⟨by omega,⟨txta,Ka,by rw[j6];exact gX,by omega,H2⟩,bE.trans lB⟩ (by omega);exact lY.qb
         ·have kh:k=G.g.length:=by omega
          obtain⟨vla,vca,vma,nF⟩:=ha.sc;have AL:=Qn.cells nF;refine OO O$ R6 O$ OW zcs O$ qV ((OM U84 O O C4 O))$ Pq O$ OW z73 O$ OT O (QG zbw O O O AL (by simp)) ?_;rintro wb ⟨Bf,aY⟩;have gX:Qn (Sn false T.k) G T Q txta Ka X1 rr O_ a L {rtL s.phase (Vo s.phase s) k with phase:=zdG s.phase} wb:=ha.set aY (λb e=>by rw[e];exact nF.o.1) ⟨vla,vca,vma,nF.put aY Bf O O O⟩;rw[kh] at gX;rw[<-wZ] at gX;refine OC ?_;exact(cZ _ _ ⟨rfl,⟨txta,Ka,gX,by omega,H2⟩,(bE.OH λb e=> .inl e).trans (aY.OH λb e=> .inr (by rw[e];exact nF.o.1))⟩).qb
       case ug=>
        by_cases ep:s.phase=1
        ·rw[show decide ((s.phase:Int)=1)=true from decide_eq_true (by omega)];refine OS O$ R6 O$ Pq O$ OW WH O$ qV (OM Zd O O fi O)$ P5 zfb O (Y1 h4.sp h4.lt (by omega) na.mar (.inl (.inl (h4.xr _ na.o.2.2.2))) (x:=0) (by decide)) ?_;rintro _ w5 ⟨rfl,hW⟩;rw[WV na.n.2.2] at hW;obtain⟨txt5,h5,AU,aj⟩:=h4.z6W na (List.length_replicate ..) (by omega) hW;refine P5 z3d O (Sx _) ?_;rintro _ w5 rfl;refine OC ?_
         have hf:Vo s.phase s={s with mark:=List.replicate s.mark.length 0}:=by
          unfold Vo;rw[if_pos ep]
         exact(bQ _ _ ⟨rfl,⟨txt5,K4+1,by rw[hf];exact h5,by omega,λy e=>(AU y e).trans (nG y e)⟩,au.trans (aj.OH λb e e2=>e (.inl (.inl e2)))⟩).qb
        ·rw[show decide ((s.phase:Int)=1)=false from decide_eq_false (by omega)];refine SH O ?_
         have hf:Vo s.phase s=s:=by
          unfold Vo;rw[if_neg ep]
         exact(bQ _ _ ⟨rfl,⟨txt4,K4,by rw[hf];exact h4,by omega,nG⟩,au⟩).qb
 case H3=>
  have hg:=Ext.P4 w;have Ov:=hg.size;refine QV (λw'=>Kp (λj=>w.heap.size<=j) w w') O$ OZ 0 O O (hg.kp)$ OZ 2 O O (hg.kp)$ OG 3 O (Q8 O) (hg.kp)$ OG 4 O (Pr z73 O) (hg.kp)$ qT 5 O (λ_ h=>OM U84 O O (h.OA hR (by omega)) O) (hg.kp)$ zl4 (i:=1) (j:=7) (by kernel_rfl) ?_ ?_
  ·refine W3 (i:=1) O O O (yc ziy O) (Yi _) ?_;rintro _ w2 ⟨bx,rfl,jM,eL,am⟩;refine⟨hg.kp.trans (am.OH λj e=>by omega),?_⟩;have nn:=am.size;have gj:=jM.lt;refine OG 6 O (zdy (n:=s.phase) (len:=3) zdj Xy zhM O O O (by omega)) (hg.kp.trans (am.OH λj e=>by omega)) ?_;rw[ze7 rM];refine qO 7$ XJ (i:=7) O O O (Ry (cs:=[_,_,_]) Xy O) ?_;rintro _ w3 ⟨b3,rfl,dG,ah,ar⟩;refine⟨(hg.kp.trans (am.OH λj e=>by omega)).trans ah.kp,?_⟩;refine qO 8$ PE (i:=8) O O (PG Xy O O O O ar (by simp)) ?_;rintro w4 ⟨aK,au⟩;refine⟨((hg.kp.trans (am.OH λj e=>by omega)).trans ah.kp).trans (au.OH λj e=>by omega),?_⟩;refine qE ?_;exact(H0 _ _ ⟨b3,bx,rfl,aK,au.OA (ah.OA jM) (by omega),by omega,by omega,by omega,((hg.kp.trans (am.OH λj e=>by omega)).trans ah.kp).trans (au.OH λj e=>by omega)⟩).qb
  ·refine XJ (i:=7) O O O (Ry (cs:=[_,_,_]) Xy O) ?_;rintro _ w2 ⟨b3,rfl,dG,ae,ak⟩;refine⟨hg.kp.trans ae.kp,?_⟩;have nn:=ae.size;have gj:=ak.lt;refine RT 1 O ziy O (Yi _) ?_;rintro _ w3 ⟨bx,rfl,iX,eL,av⟩;refine⟨(hg.kp.trans ae.kp).trans (av.OH λj e=>by omega),?_⟩;have ar:=av.OA ak (by omega);refine OG 6 O (zdy (n:=s.phase) (len:=3) zdj Xy zhM O O O (by omega)) ((hg.kp.trans ae.kp).trans (av.OH λj e=>by omega)) ?_;rw[ze7 rM];refine qO 8$ PE (i:=8) O O (PG Xy O O O O ar (by simp)) ?_;rintro w4 ⟨aK,au⟩;refine⟨((hg.kp.trans ae.kp).trans (av.OH λj e=>by omega)).trans (au.OH λj e=>by omega),?_⟩;refine qE ?_;exact(H0 _ _ ⟨b3,bx,rfl,aK,au.OA iX (by omega),by omega,by omega,by omega,((hg.kp.trans ae.kp).trans (av.OH λj e=>by omega)).trans (au.OH λj e=>by omega)⟩).qb
end
theorem z4N {P:Program}{ρ:Operand->Value}{o:Oper}{c:Call}{w:World}(ho:o.op= .call c)(hc:c.callee= .builtin .recover)(ha:c.args.toList=[]):(execOp ρ o).run P w= .ok .recover w:=by
 obtain⟨callee,args,tys⟩:=c
 simp only at hc ha
 subst hc
 have:args=#[]:=Array.toList_inj.1 ha
 subst this
 simp[execOp,ho,go_sem]
def z3r {P:Program}{f:FuncId}{fn:Func}{id:Nat}{ops:Array Oper}{c2:Code}{args:List Value}{e:Env}{w:World}{S:Value->World->Prop}{n d:Nat}{o:Oper}{rest:List Oper}{c:Call}
  (hf:P.funcs[f]? =some fn) (hb:fn.body=some (.seq (.region id ops false) c2)) (hnt:fn.ntmps=n) (hn:Nat.ble args.length n=true) (he:envOf 0 args=e)
  (hops:ops.toList=o::rest) (hg:o.guard=none) (hop:o.op= .call c) (hcal:c.callee= .builtin .recover) (hca:c.args.toList=[]) (hdst:o.dst=some d) (hd:Nat.blt d n=true) (ho:RR n ops.toList=true)
  (h:RL ⟨⟨P,f,S,n,none,[],true⟩,ops.toList,[.code c2],ho⟩ rest ((d,.nilIface)::e) w):z95 P f args w S:=by
 subst hnt
 refine⟨trivial,λc0 cs hm _=>?_⟩
 let b:Frame:={(default:Frame) with fn:=f,kind:= .deferred,roundOf:=none}
 have hn':args.length<=fn.ntmps:=by simpa using hn
 let a:Act:={tmps:=args.toArray++Array.replicate (fn.ntmps-args.toArray.size) undef,defers:=[]}
 have henter:Frame.enter P f args.toArray .deferred=b.atR a [.code (.seq (.region id ops false) c2)]:=by
  simp[Frame.enter,Frame.atR,hf,hb,b,a]
 have hok:WR fn.ntmps [] e a:=by
  refine⟨by simp[a];omega,rfl,λi v hi=>?_⟩;subst he;obtain⟨-,h2⟩:=WZ args 0 i v hi;simp at h2
  have hlt:i<args.length:=by
   rcases Nat.lt_or_ge i args.length with h| h
   ·exact h
   ·simp[List.getElem?_eq_none h] at h2
  have h3:args[i]=v:=by simpa[List.getElem?_eq_getElem hlt] using h2
  simp only[a,Array.getD];rw[dif_pos (by simp;omega)];simp[hlt,h3]
 have hok':=hok.put hd .nilIface
 have h0:ops[0]? =some o:=by
  rw[<-Array.getElem?_toList,hops];rfl
 have hrange:List.range ops.size=0::List.range' 1 rest.length:=by
  have:ops.size=rest.length+1:=by rw[<-Array.length_toList,hops];rfl
  rw[this,List.range_eq_range',List.range'_succ]
 -- recover
 have hgs:=stepGR_op (P:=P) (b:=b) (a:=a) (k:=[.code c2]) (cs:=c0::cs) (w:=w) (ops:=ops) (i:=0) (rest:=List.range' 1 rest.length) h0 (by simp[Region.wanted,hg])
 rw[show b.roundOf=none from rfl,Oper.semAt_none] at hgs
 have hfin:(b.atR a (.inRegion ops (0::List.range' 1 rest.length)::[.code c2])).finish .nilIface=b.atR (a.put o.dst .nilIface) (.inRegion ops (List.range' 1 rest.length)::[.code c2]):=by
  rw[Frame.finish_atR,h0];rfl
 have htr:=tryRecover_deferred (show(b.atR a (.inRegion ops (0::List.range' 1 rest.length)::[.code c2])).kind= .deferred from rfl) (c0::cs)
 have hrec:recoverD (c0::cs)=none:=by simp[recoverD,hm]
 have hstep:step P (lone (b.atR a (.inRegion ops (0::List.range' 1 rest.length)::[.code c2])) (c0::cs) w)= .next (lone (b.atR (a.put (some d) .nilIface) (.inRegion ops (List.range' 1 rest.length)::[.code c2])) (c0::cs) w):=by
  refine step_lone_go ?_;rw[<-hdst,hgs,<-hfin];simp only[Frame.atR,show b.roundOf=none from rfl] at htr⊢;simp[stepG.apply,z4N hop hcal hca,htr,hrec]
 -- the rest
 have hl:=h _ hok'
 have hl':wpOpsIn (WF none) 0 P ops (QK ⟨P,f,S,fn.ntmps,none,[],true⟩ [.code c2]) (List.range' 1 rest.length) (a.put (some d) .nilIface) w:=by
  rw[wpOpsIn_eq_wpListIn rest 1 (λj=>by
   rw[<-Array.getElem?_toList,hops,Nat.add_comm];rfl)]
  simpa using hl
 obtain⟨x,a',w',q,harr⟩:=wp_opsIn _ _ _ hl' b [.code c2] (c0::cs) O trivial (z8j _ _)
 have hland:z0c P f none true (Wu S) (lone (b.atR (a.put (some d) .nilIface) (.inRegion ops (List.range' 1 rest.length)::[.code c2])) (c0::cs) w) (c0::cs):=by
  cases x with
  |normal=>exact(q b O O O (c0::cs)).of_steps (StepsIn.steps harr)
  |outgrown=>exact q.elim
  |exit id=>exact q.elim
  |goto l=>exact q.elim
  |ret=>exact q.elim
  |panic ch=>exact q.elim
 have s1:step P (lone (b.atR a [.code (.seq (.region id ops false) c2)]) (c0::cs) w)= .next (lone (b.atR a (.code (.region id ops false)::[.code c2])) (c0::cs) w):=stepR_seq
 have s2:step P (lone (b.atR a (.code (.region id ops false)::[.code c2])) (c0::cs) w)= .next (lone (b.atR a (.inRegion ops (0::List.range' 1 rest.length)::[.code c2])) (c0::cs) w):=by
  rw[<-hrange];exact stepR_region
 have hall:=hland.of_steps (.head s1 (.head s2 (.one hstep)))
 obtain⟨x,w',fr,hR,hc,hfn,hk,hg⟩:=hall
 have hcc:({c0 with mode:= .returning}:Frame)=c0:=by cases c0;simp_all
 rw[henter]
 exact⟨x,.returning,w',fr,⟨rfl,hR⟩,by rw[hcc];exact comesIn_wide.2 hc,hk,hfn,hg⟩
section
variable {P:Program}{e:Env}{w:World}{t t' ty:TypeId}{d:Option Tmp}{x:Operand}{pos:String}{aft:Array Edge}{g:Option (Nat×Bool)}
def zi8 {ms:Array (String×TypeId)}(ht:P.underlying t=some (.interface ms))(hx:look e x=some .nilIface):Y P e ⟨d,.binOp .eql t x (.const .nilIface) t',ty,pos,aft,g⟩ (.bool true) w w:=fun ρ hρ=>by
 have h1:(Op.equal t .nilIface .nilIface).run P w= .ok true w:=by
  have hA:∀n,(Op.equalIn (n+1) t .nilIface .nilIface).run P w= .ok true w:=λn=>by simp[Op.equalIn,run_underlying ht]
  exact hA 9999
 have h2:eqGuard .eql t x (.const .nilIface) .nilIface .nilIface=pure ():=by cases x<;>rfl
 have h3:binOp .eql t .nilIface .nilIface=(do pure (.bool (<-Op.equal t .nilIface .nilIface))):=rfl
 have h4:ρ (.const .nilIface)= .nilIface:=hρ _ _ O
 simp only[execOp,hρ _ _ hx,h4,h2,h3,pure_bind,Sem.run_bind,h1,Result.andThen,Sem.run_pure]
end
section
variable {G T:ZI}{w w':World}{sw:Bool}{Q:Ra}{txt txt':Int->OI}{K K' ok:Nat}{X O_:Nat->Prop}{rr a L vl vc vm:Nat}{s:Sc}
theorem zc1 {g t:List (List Nat)}:(s.go g t).steps=s.steps:=by
 unfold Sc.go
 dsimp only
 split
 ·split<;>rfl
 ·split
  ·split<;>rfl
  ·split<;>rfl
def Qn.ziJ (h:Qn (Sn sw ok) G T Q txt K X rr O_ a L s w)(dg:∀j,w.heap.size<=j->¬O_ j){j:Nat}(hj:w.heap.size<=j):j≠G.k/\j≠G.x/\j≠T.k/\j≠T.x/\j≠1/\j≠2/\¬O_ j:=h.far j hj
theorem ZP (h:Qn (Sn false T.k) G T Q txt K X rr O_ a L s w):Pm prog 35 [ptr rr 0] w λr w'=>r=I 0/\w'=w:=by
 obtain⟨vl,vc,vm,hV⟩:=h.sc
 have hR:=Qn.cells hV
 refine py (e:=[(0,_)]) func35 O ntmps35 O O$ Qx O$ QA$ Pn O$ qV (PY Xo O O)$ OV O$ OL O$ Pn O$ Pq O$ OW zbq O$ qV (OM U4 O O hR O)$ OV O$ SH O$ Oz ?_
 refine Qx O$ OB func35 O ?_
 exact⟨_,rfl,rfl,rfl⟩
def z3f {b1 b2 b3:Nat}:z95 prog 36 [ptr b1 0,ptr b2 0,ptr b3 0] w λu w'=>w'=w:=by
 refine z3r (e:=[(0,_),(1,_),(2,_)]) func36 O ntmps36 O O O O O O O O O O$ OC$ OE$ qN O$ qV (zi8 U20 O)$ OC$ OS O$ OK O$ OV O$ Oz$ z4y O O O func36$ λa ha=>⟨_,T4 ha _ _ _ _ O,?_⟩
 exact⟨_,rfl,rfl⟩
theorem z3Q (h:Qn (Sn false T.k) G T Q txt K X rr O_ a L s w)(hI:UK G.g s)(ht:T.g.length=G.g.length)(hK:K<=800000000000)(hd:s.done=false)(lU:s.steps<=1000000000000):Pm prog 14 [ptr rr 0] w λr w'=>r= .tuple #[.bool (s.step G.g T.g).done,I 0]/\(∃txt' K',Qn (Sn false T.k) G T Q txt' K' X rr O_ a L (s.step G.g T.g) w'/\K'<=K+9000/\∀y:Int,y<(a:Int)\/(a:Int)+(L:Int)<=y->txt' y=txt y)/\Kp (λb=>¬X b\/O_ b) w w':=by
 obtain⟨vl,vc,vm,hV⟩:=h.sc
 have hR:=Qn.cells hV
 have gS:=h.xr _ hV.o.1
 have aQ:∀b,X b->b<w.heap.size:=λb hb=>h.lt b (.inl (.inl hb))
 have xq:=aQ _ gS
 refine py (e:=[(0,_)]) func14 O ntmps14 O O$ qN O$ OJ O O (R4 O (cs:=[ptr rr 0]) O) ?_
 rintro _ w1 ⟨b1,rfl,bL,ad,ai⟩
 refine OJ O O (Ry (cs:=[_]) UH O) ?_
 rintro _ w2 ⟨b2,rfl,bN,ae,ak⟩
 refine OJ O O (Ry (cs:=[_]) z2Y O) ?_
 rintro _ w3 ⟨b3,rfl,dG,ah,ar⟩
 replace ak:OP w2 b2 [.bool false] 4:=ak
 replace ar:OP w3 b3 [I 0] 44:=ar
 have ck:=(ad.trans ae).trans ah
 have z1:=ad.size
 have z2:=ae.size
 have z3:=ah.size
 have l1:=ai.lt
 have l2:=ak.lt
 have l3:=ar.lt
 have bV:=ah.OA (ae.OA ai)
 have bF:=ah.OA ak
 obtain⟨X1,dr⟩:∃X1:Nat->Prop,(λj=>X j\/j=b1\/j=b2\/j=b3)=X1:=⟨_,rfl⟩
 have df:∀j,X j->X1 j:=λj hj=>by rw[<-dr];exact .inl hj
 have ao:X1 b1/\X1 b2/\X1 b3:=by rw[<-dr];exact⟨.inr (.inl O),.inr (.inr (.inl O)),.inr (.inr (.inr O))⟩
 have dg:∀j,w.heap.size<=j->¬O_ j:=λj hj e=>by have:=aQ _ (h.xr _ e);omega
 have h3:Qn (Sn false T.k) G T Q txt K X1 rr O_ a L s w3:=h.grow ck (λj hj=>by rw[<-dr] at hj;exact hj.imp id λe=>by omega) df
 have lV:=ck.OA hR
 refine OC$ An$ qN O$ qV ((OM Xo O O bV O))$ P5 zgj O (ZP h3) ?_
 rintro _ w3 ⟨rfl,rfl⟩
 refine QW O$ QE O$ OC$ OQ O (λc0=>?_)$ λc0=>?_
 ·exact absurd O c0
 ·refine OD$ An$ qN O$ qV ((OM Xo O O bV O))$ Pq O$ OW z3J O$ qV ((OM U4 O O lV O))$ OC ?_;rw[hd];refine SH O$ qN O$ qV (ymf (first:=[]) (caps:=[.tmp 1,.tmp 2,.tmp 3]) O O)$ zaM O O (ydf O)$ OC$ An ?_;have hg:=Ext.P4 w3;have Nd:=h3.ext hg;refine QV (λw'=>Kp (λb=>¬X1 b\/O_ b) w3 w') O$ qT 0 O (λ_ hS=>OM Xo O O (hS.OA bV (λe=>e.elim (λe=>e ao.1) (dg _ (by omega)))) O) (hg.kp)$ qT 1 O (λ_ hS=>OM Xo O O (hS.OA bV (λe=>e.elim (λe=>e ao.1) (dg _ (by omega)))) O) (hg.kp)$ RT 2 O zks O (z6M Nd hI ht hK) ?_;rintro _ w4 ⟨rfl,⟨txt4,K4,h4,H1,nG⟩,rN⟩;refine⟨hg.kp.trans rN,?_⟩;have au:Kp (λb=>¬X1 b\/O_ b) w3 w4:=hg.kp.trans rN;obtain⟨vl4,vc4,vm4,na⟩:=h4.sc;have fi:=Qn.cells na;refine OG 3 O (Q8 O) (hg.kp.trans rN)$ OG 4 O (Pr z3J O) (hg.kp.trans rN)$ qO 5$ PE (i:=5) O O (QG UH O O O fi (by simp)) ?_;rintro w5 ⟨mf,aj⟩;refine⟨au.trans (aj.OH λb e=> .inr (by rw[e];exact na.o.1)),?_⟩;have h5:Qn (Sn false T.k) G T Q txt4 K4 X1 rr O_ a L {s.go G.g T.g with done:=z1t (s.go G.g T.g).label G.g.length} w5:=h4.set aj (λb e=>by rw[e];exact na.o.1) ⟨vl4,vc4,vm4,na.put aj mf O O O⟩;have fG:Kp (λb=>¬X1 b\/O_ b) w3 w5:=au.trans (aj.OH λb e=> .inr (by rw[e];exact na.o.1));obtain⟨vl5,vc5,vm5,C6⟩:=h5.sc
  have AV:OP w5 rr [ptr G.k 0,ptr T.k 0,ptr vl5 0,ptr vc5 0,ptr vm5 0,I (s.steps:Int),I ((s.go G.g T.g).phase:Int),.bool (z1t (s.go G.g T.g).label G.g.length),.bool false] 86:=by
   have:=Qn.cells C6;rw[<-zc1 (s:=s) (g:=G.g) (t:=T.g)];exact this
  have eU:=fG.OA bV (λe=>e.elim (λe=>e ao.1) (dg _ (by omega)));have dK:=fG.OA bF (λe=>e.elim (λe=>e ao.2.1) (dg _ (by omega)));have cW:=fG.OA ar (λe=>e.elim (λe=>e ao.2.2) (dg _ (by omega)));have Nf:rr≠b1/\rr≠b2/\rr≠b3:=by omega
  refine qE$ qN O$ qV ((OM Xo O O eU O))$ Pq O$ OW zaE O$ qV ((OM U3 O O AV O))$ PS O$ Pq O$ OW zaE O$ OT O (QG PV O O O AV (by simp)) ?_;rintro w6 ⟨ir,aM⟩;have h6:Qn (Sn false T.k) G T Q txt4 K4 X1 rr O_ a L (s.step G.g T.g) w6:=h5.set aM (λb e=>by rw[e];exact na.o.1) ⟨vl5,vc5,vm5,C6.put aM ir O O O⟩;have lu:=aM.OA eU (by omega);have gY:=aM.OA dK (by omega);have jp:=aM.OA cW (by omega);replace ir:OP w6 rr [ptr G.k 0,ptr T.k 0,ptr vl5 0,ptr vc5 0,ptr vm5 0,I ((s.steps:Int)+1),I ((s.go G.g T.g).phase:Int),.bool (z1t (s.go G.g T.g).label G.g.length),.bool false] 86:=ir;refine OC$ Po.qb (e:=[(1,_),(2,_),(3,_)]) ?_;refine qN O$ qV ((OM Xo O O lu O))$ Pq O$ OW z3J O$ qV ((OM U4 O O ir O))$ OT O (QG UH O O O gY (by simp)) ?_;rintro w7 ⟨H4,aB⟩;have kq:=aB.OA jp (by omega);refine OT O (QG z2Y O O O kq (by simp)) ?_;rintro w8 ⟨nR,aL⟩;have yk:=aL.OA H4 (by omega);refine OC$ z2F func14 zjK (z3f (b1:=b1) (b2:=b2) (b3:=b3)) ?_;rintro u w' rfl;refine⟨_,.cell1 U4 O O ((yk).cell _) (.cell1 U44 O O ((nR).cell _) .nil),_,rfl,rfl,⟨txt4,K4,?_,H1,nG⟩,?_⟩
  ·exact((h6.own aB (λj e=>by subst e;exact⟨ao.2.1,h.ziJ dg (by omega)⟩)).own aL (λj e=>by subst e;exact⟨ao.2.2,h.ziJ dg (by omega)⟩)).less df h.xk h.xr
  ·have H5:Kp (λb=>¬X1 b\/O_ b) w3 w6:=fG.trans (aM.OH λb e=> .inr (by rw[e];exact na.o.1));exact(((ck.kp.trans (H5.OH λb e=>e.imp (λe e2=>e (df _ e2)) id)).trans (aB.OH λb e=> .inl λe2=>by have:=aQ _ e2;omega)).trans (aL.OH λb e=> .inl λe2=>by have:=aQ _ e2;omega))
end
theorem z2I {p q:Nat->Bool}:∀{l:List Nat},(∀x∈l,p x=true->q x=false)->l.countP (λx=>p x ||q x)=l.countP p+l.countP q
 |[],_=>rfl
 | x :: l, h => by
   have ih:=z2I (p:=p) (q:=q) (l:=l) λy hy=>h y (List.mem_cons_of_mem _ hy);have h1:=h x List.mem_cons_self;rw[List.countP_cons,List.countP_cons,List.countP_cons,ih]
   cases hp:p x with
   |false=>cases q x<;>simp<;>omega
   |true=>rw[h1 hp];simp;omega
theorem z2y {a:Nat}:∀n,a<n->(List.range n).countP (λx=>decide (x=a))=1
 |0,h=>absurd h (Nat.not_lt_zero _)
 | n + 1, h => by
   rw[List.range_succ,List.countP_append,List.countP_singleton];by_cases e:a=n
   ·subst e
    have:(List.range a).countP (λx=>decide (x=a))=0:=by
     rw[List.countP_eq_zero];intro x hx hd;have:=List.mem_range.1 hx;have:=of_decide_eq_true hd;omega
    rw[this];simp
   ·rw[z2y n (by omega),if_neg (by simpa using λe2=>e e2.symm)]
def z0V {n:Nat}:∀{l:List Nat},l.Nodup->(∀x∈l,x<n)->l.length=(List.range n).countP (λx=>decide (x∈l))
 |[],_,_=>by rw[List.length_nil,eq_comm,List.countP_eq_zero];simp
 | a :: l, hn, h => by
   rw[List.nodup_cons] at hn;have ih:=z0V (l:=l) hn.2 λx hx=>h x (List.mem_cons_of_mem _ hx)
   have e:(λx=>decide (x∈a::l))=λx=>decide (x=a) ||decide (x∈l):=by
    funext x
    rw[<-Bool.decide_or,decide_eq_decide,List.mem_cons]
   rw[e,z2I,z2y n (h a List.mem_cons_self),List.length_cons,ih,Nat.add_comm];intro x hx hp;rw[of_decide_eq_true hp];exact decide_eq_false hn.1
theorem z1B {p:Nat->Nat->Bool}{m:Nat}:∀n,((List.range n).map λx=>(List.range m).countP (p x)).sum=((List.range m).map λu=>(List.range n).countP (λx=>p x u)).sum
 | 0 => by
   rw[List.range_zero,List.map_nil,List.sum_nil,eq_comm]
   have:∀l:List Nat,(l.map λu=>([]:List Nat).countP (λx=>p x u)).sum=0:=λl=>by
    induction l with
    |nil=>rfl
    |cons a l ih=>rw[List.map_cons,List.sum_cons,ih];rfl
   exact this _
 | n + 1 => by
   rw[List.range_succ,List.map_append,List.sum_append,z1B n]
   have:∀l:List Nat,(l.map λu=>(List.range n).countP (λx=>p x u)).sum+l.countP (p n)=(l.map λu=>(List.range n++[n]).countP (λx=>p x u)).sum:=λl=>by
    induction l with
    |nil=>rfl
    | cons a l ih =>
      rw[List.map_cons,List.sum_cons,List.map_cons,List.sum_cons,List.countP_cons,<-ih,List.countP_append,List.countP_singleton];omega
   rw[<-this];simp
theorem z0d (g:List (List Nat)):PT g=((List.range g.length).map λx=>(OU g x).length).sum:=by
 unfold PT
 congr 1
 refine List.ext_getElem? λi=>?_
 rw[List.getElem?_map,List.getElem?_map]
 by_cases h:i<g.length
 ·rw[List.getElem?_range h];unfold OU;simp[List.getElem?_eq_getElem h]
 ·rw[List.getElem?_eq_none (by omega),List.getElem?_eq_none (by rw[List.length_range];omega)]
  rfl
def z6N {g:List (List Nat)}(h:Rh g)(hnd:∀x,(OU g x).Nodup)(hlt:∀x y,y∈OU g x->y<g.length):PT (Qr g)=PT g:=by
 rw[z0d,z0d,So]
 have e1:((List.range g.length).map λx=>(OU g x).length)=(List.range g.length).map λx=>(List.range g.length).countP (λu=>decide (u∈OU g x)):=
  List.map_congr_left λx _=>z0V (hnd x) (hlt x)
 have e2:((List.range g.length).map λu=>(OU (Qr g) u).length)=(List.range g.length).map λu=>(List.range g.length).countP (λx=>decide (u∈OU g x)):=
  List.map_congr_left λu hu=>by
   unfold OU;rw[Zx g (List.mem_range.1 hu),List.countP_eq_length_filter]
   rfl
 rw[e1,e2,z1B]
def z4Q {g:List (List Nat)}(h:Rh g):PT (Qr g)=PT g:=by
 have hm:∀x,OU g x∈g\/OU g x=[]:=λx=>by
  unfold OU;by_cases e:x<g.length
  ·rw[List.getElem?_eq_getElem e];exact .inl (List.getElem_mem e)
  ·rw[List.getElem?_eq_none (by omega)];exact .inr O
 refine z6N h (λx=>?_) λx y hy=>?_
 ·rcases hm x with e| e
  ·exact List.Pairwise.imp (λh e=>by omega) (h.ok _ e).ris
  ·rw[e];exact .nil
 ·rcases hm x with e| e
  ·exact h.lt _ e y hy
  ·rw[e] at hy;cases hy
structure W2 (G T:ZI)(Q:Ra)(txt:Int->OI)(K:Nat)(X:Nat->Prop)(w:World):Prop where
 g:SI G Q txt K (λb=>X b\/b=T.rb) w
 t:SI T Q txt K (λb=>X b\/b=G.rb) w
 xk:X G.k/\X G.x/\X T.k/\X T.x/\X 1/\X 2
section
variable {G T:ZI}{w w':World}{Q Q':Ra}{txt txt':Int->OI}{K K':Nat}{X Y S' O_:Nat->Prop}{rr a L:Nat}{s:Sc}
def W2.ng (h:W2 G T Q txt K X w):¬X G.rb/\G.rb≠T.rb/\¬X T.rb:=by
 have h1:=h.g.rbX
 have h2:=h.t.rbX
 exact⟨λe=>h1 (.inl e),λe=>h1 (.inr e),λe=>h2 (.inl e)⟩
def W2.sp (h:W2 G T Q txt K X w):Sp Q txt K (Vk G T X) w:=h.g.sp
def W2.lt (h:W2 G T Q txt K X w):∀b,Vk G T X b->b<w.heap.size:=h.g.lt1
theorem W2.Z5 (h:W2 G T Q txt K X w)(hk:Kp S' w w')(hS:∀b,S' b->¬Vk G T X b\/(X b/\b≠G.k/\b≠G.x/\b≠T.k/\b≠T.x/\b≠1/\b≠2))(aN:∀j,X j->Y j)(hY:∀j,Y j->X j\/w.heap.size<=j)(aS:∀j,Y j->j<w'.heap.size)(hP:Sp Q' txt' K' (Vk G T Y) w')(hs:Q'.s=Q.s)(hl:Q'.L.length=Q.L.length)(hK:K'<1000000000000)(Ah:∀y:Int,((G.st:Int)<=y/\y<(G.st:Int)+(G.len:Int))\/((T.st:Int)<=y/\y<(T.st:Int)+(T.len:Int))->txt' y=txt y):W2 G T Q' txt' K' Y w':=by
 obtain⟨n1,n2,n3⟩:=h.ng
 have hx:=h.xk
 have AW:=h.lt
 have qc:=AW T.rb (.inl (.inr O))
 have BZ:=AW G.rb (.inr O)
 have hz:=hk.size
 have Ng:¬Y G.rb:=λe=>(hY _ e).elim n1 (by omega)
 have Nh:¬Y T.rb:=λe=>(hY _ e).elim n3 (by omega)
 have hn:∀{b},X b->((b=G.k\/b=G.x\/b=T.k)\/b=T.x\/b=1\/b=2)->¬S' b:=λhb he e=>by
  rcases hS _ e with e|⟨-,m1,m2,m3,m4,m5,m6⟩
  ·exact e (.inl (.inl hb))
  ·rcases he with(e|e|e)|e|e| e
   ·exact m1 e
   ·exact m2 e
   ·exact m3 e
   ·exact m4 e
   ·exact m5 e
   ·exact m6 e
 have dj:¬S' G.rb:=λe=>(hS _ e).elim (λe=>e (.inr O)) λe=>n1 e.1
 have dt:¬S' T.rb:=λe=>(hS _ e).elim (λe=>e (.inl (.inr O))) λe=>n3 e.1
 refine⟨h.g.at_ hk ⟨hn hx.1 (.inl (.inl O)),hn hx.2.1 (.inl (.inr (.inl O))),hn hx.2.2.2.2.1 (.inr (.inr (.inl O))),hn hx.2.2.2.2.2 (.inr (.inr (.inr O))),dj⟩ ⟨.inl (aN _ hx.1),.inl (aN _ hx.2.1),.inl (aN _ hx.2.2.2.2.1),.inl (aN _ hx.2.2.2.2.2)⟩ (λj e=>e.elim (aS j) λe=>by omega) (λe=>e.elim Ng n2) hP hs hl hK (λy e1 e2=>Ah y (.inl ⟨e1,e2⟩)),
  h.t.at_ hk ⟨hn hx.2.2.1 (.inl (.inr (.inr O))),hn hx.2.2.2.1 (.inr (.inl O)),hn hx.2.2.2.2.1 (.inr (.inr (.inl O))),hn hx.2.2.2.2.2 (.inr (.inr (.inr O))),dt⟩ ⟨.inl (aN _ hx.2.2.1),.inl (aN _ hx.2.2.2.1),.inl (aN _ hx.2.2.2.2.1),.inl (aN _ hx.2.2.2.2.2)⟩ (λj e=>e.elim (aS j) λe=>by omega) (λe=>e.elim Nh λe=>n2 e.symm) (hP.iff λb=>?_) hs hl hK (λy e1 e2=>Ah y (.inr ⟨e1,e2⟩)),⟨aN _ hx.1,aN _ hx.2.1,aN _ hx.2.2.1,aN _ hx.2.2.2.1,aN _ hx.2.2.2.2.1,aN _ hx.2.2.2.2.2⟩⟩
 constructor
 ·rintro((e|e)|e)
  ·exact .inl (.inl e)
  ·exact .inr e
  ·exact .inl (.inr e)
 ·rintro((e|e)|e)
  ·exact .inl (.inl e)
  ·exact .inr e
  ·exact .inl (.inr e)
def W2.own (h:W2 G T Q txt K X w)(hk:Kp S' w w')(hS:∀b,S' b->X b/\b≠G.k/\b≠G.x/\b≠T.k/\b≠T.x/\b≠1/\b≠2):W2 G T Q txt K X w':=
 ⟨h.g.own hk λj e=>⟨.inl (hS j e).1,(hS j e).2.1,(hS j e).2.2.1,(hS j e).2.2.2.2.2.1,(hS j e).2.2.2.2.2.2⟩,h.t.own hk λj e=>⟨.inl (hS j e).1,(hS j e).2.2.2.1,(hS j e).2.2.2.2.1,(hS j e).2.2.2.2.2.1,(hS j e).2.2.2.2.2.2⟩,h.xk⟩
def W2.grow (h:W2 G T Q txt K X w)(hx:Ext w w')(hY:∀j,Y j->X j\/(w.heap.size<=j/\j<w'.heap.size))(aN:∀j,X j->Y j):W2 G T Q txt K Y w':=by
 have hk:=h.xk
 exact⟨h.g.grow hx (λj e=>e.elim (λe=>(hY j e).imp .inl id) (λe=> .inl (.inr e))) (λj e=>e.imp (aN j) id),h.t.grow hx (λj e=>e.elim (λe=>(hY j e).imp .inl id) (λe=> .inl (.inr e))) (λj e=>e.imp (aN j) id),⟨aN _ hk.1,aN _ hk.2.1,aN _ hk.2.2.1,aN _ hk.2.2.2.1,aN _ hk.2.2.2.2.1,aN _ hk.2.2.2.2.2⟩⟩
def W2.less (h:W2 G T Q txt K Y w)(aN:∀j,X j->Y j)(hx:X G.k/\X G.x/\X T.k/\X T.x/\X 1/\X 2):W2 G T Q txt K X w:=
 ⟨h.g.less (λj e=>e.imp (aN j) id) ⟨.inl hx.1,.inl hx.2.1,.inl hx.2.2.2.2.1,.inl hx.2.2.2.2.2⟩,h.t.less (λj e=>e.imp (aN j) id) ⟨.inl hx.2.2.1,.inl hx.2.2.2.1,.inl hx.2.2.2.2.1,.inl hx.2.2.2.2.2⟩,hx⟩
def W2.far (h:W2 G T Q txt K X w):∀j,w.heap.size<=j->j≠G.k/\j≠G.x/\j≠T.k/\j≠T.x/\j≠1/\j≠2:=λj hj=>by
 have aS:∀b,X b->b<w.heap.size:=λb hb=>h.lt b (.inl (.inl hb))
 have hx:=h.xk
 have e1:=aS _ hx.1
 have e2:=aS _ hx.2.1
 have e3:=aS _ hx.2.2.1
 have e4:=aS _ hx.2.2.2.1
 have e5:=aS _ hx.2.2.2.2.1
 have e6:=aS _ hx.2.2.2.2.2
 exact⟨by omega,by omega,by omega,by omega,by omega,by omega⟩
def z7T (h:SI G Q txt K X w):Pm prog 31 [ptr G.k 0] w λv w'=>v=I (PT G.g:Int)/\w'=w:=by
 obtain⟨o,h⟩:=h
 have hB:=h.cells
 refine py (e:=[(0,_)]) func31 O ntmps31 O O$ Qx O$ PK O$ qV (PY ZH O O)$ Qg O$ Pn O$ Pq O$ OW VG O$ OW z0s O$ qV (OM U3 O O hB O)$ OV O$ OB func31 O ?_
 exact⟨_,rfl,rfl,rfl⟩
def Zr {be bs bg n width:Nat}(h:W2 G T Q txt K X w)(hn:G.g.length=n)(ek:n<=100)(hK:K<=800000000000)(dH:Pre Q.L a)(nA:width=1\/width=4)(cm:a+1<=Q.L.length)(eD:OP w be [I 0] 44)(kV:OP w bs [ptr Q.s 0] 27)(uF:OP w bg [ptr G.k 0] 28)(H6:X be/\X bs/\X bg):Pm prog 32 ([I (width:Int)]++[ptr be 0,ptr bs 0,ptr bg 0]) w λv w'=>∃vb txt' w1,v=ptr vb 0/\w.heap.size<=vb/\Sp (Q.Qi (Qd Q.L a 1 true)) txt' (K+1) (λb=>Vk G T X b\/b=vb) w1/\Uk (Q.Qi (Qd Q.L a 1 true)) txt' vb width a (List.replicate n 0) w1/\(∀y:Int,y<(a:Int)\/(a:Int)+1<=y->txt' y=txt y)/\Kp (λb=>¬Vk G T X b) w w1/\Kp (λb=>b=be) w1 w'/\OP w' be [I 0] 44:=by
 have fO:VE n (512 / width)=1:=by
  rcases nA with e|e<;>subst e
  ·exact WV ek
  ·exact RK ek
 have hg:=Ext.P4 w
 have hd:=h.grow hg (λj e=> .inl e) (λj e=>e)
 have Je:=zaj hd.sp hd.lt hK dH n width (by omega) (by omega) (by rw[fO];exact cm)
 rw[fO] at Je
 have uE:=z0i hd.g
 rw[hn] at uE
 have H7:∀{b},X b->¬¬Vk G T X b:=λhb e=>e (.inl (.inl hb))
 refine py (e:=[(0,_),(1,_),(2,_),(3,_)]) func32 O ntmps32 O O$ Qx O$ An$ qN O$ qV (OM U44 O O eD O)$ QE O$ Qg O$ An$ QV (λw'=>Kp (λb=>¬Vk G T X b) w w') O$ qT 0 O (λ_ hS=>(OM XH O O (hS.OA kV (H7 H6.2.1)) O)) (hg.kp)$ qT 1 O (λ_ hS=>(OM ZH O O (hS.OA uF (H7 H6.2.2)) O)) (hg.kp)$ OZ 3 O O (hg.kp)$ RT 2 O z7k O (uE) ?_
 rintro _ w0 ⟨rfl,rfl⟩
 refine⟨hg.kp,?_⟩
 refine RT 4 O zjZ O (Je) ?_
 rintro _ w1 ⟨vb,txt1,rfl,eX,iy,H8,yu,az⟩
 refine⟨hg.kp.trans az,?_⟩
 have dz:=hg.kp.trans az
 have H9:=dz.OA eD (H7 H6.1)
 refine OZ 5 O O (hg.kp.trans az)$ OG 6 O (Ru O O) (hg.kp.trans az)$ OG 7 O (Ru O O) (hg.kp.trans az)$ OG 8 O (Rp O) (hg.kp.trans az)$ OG 9 O (Rp O) (hg.kp.trans az)$ qE$ Pn O$ OT O (QG z2Y O O O H9 (by simp)) ?_
 rintro w2 ⟨Ha,am⟩
 refine qM O$ ON O$ OV O$ OB func32 O ?_
 exact⟨_,rfl,vb,txt1,w1,rfl,eX,iy,H8,yu,dz,am,Ha⟩
theorem W2.vec {Q1:Ra}{txt1:Int->OI}{v be K1:Nat}{w5 w6:World}(h:W2 G T Q txt K X w)(hk:Kp (λb=>¬Vk G T X b) w w5)(hP:Sp Q1 txt1 K1 (λb=>Vk G T X b\/b=v) w5)(hv:w.heap.size<=v)(sF:v<w5.heap.size)(hs:Q1.s=Q.s)(hl:Q1.L.length=Q.L.length)(hK:K1<1000000000000)(jO:G.st+G.len<=a)(vM:T.st+T.len<=a)(hy:∀y:Int,y<(a:Int)->txt1 y=txt y)(aM:Kp (λb=>b=be) w5 w6)(hb:X be/\be≠G.k/\be≠G.x/\be≠T.k/\be≠T.x/\be≠1/\be≠2):W2 G T Q1 txt1 K1 (λj=>X j\/j=v) w6:=by
 have aS:=h.lt
 have hz:=hk.size
 refine(h.Z5 (Y:=λj=>X j\/j=v) hk (λb e=> .inl e) (λj e=> .inl e) (λj hj=>hj.imp id λe=>by omega) (λj hj=>by
   rcases hj with e| e
   ·have:=aS j (.inl (.inl e));omega
   ·omega) (hP.iff λb=>?_) hs hl hK (λy e=>hy y (by omega))).own aM λj e=>by rw[e];exact⟨.inl hb.1,hb.2⟩
 constructor
 ·rintro(((e|e)|e)|e)
  ·exact .inl (.inl (.inl e))
  ·exact .inl (.inr e)
  ·exact .inr e
  ·exact .inl (.inl (.inr e))
 ·rintro(((e|e)|e)|e)
  ·exact .inl (.inl (.inl e))
  ·exact .inr e
  ·exact .inl (.inl (.inr e))
  ·exact .inl (.inr e)
def z5H {l:List Bool}{a:Nat}(h:a+3<=l.length):Qd (Qd (Qd l a 1 true) (a+1) 1 true) (a+2) 1 true=Qd l a 3 true:=by
 have g1:(Qd l a 1 true).length=l.length:=PZ (by omega)
 have g2:(Qd (Qd l a 1 true) (a+1) 1 true).length=l.length:=by rw[PZ (by rw[g1];omega),g1]
 refine List.ext_getElem? λi=>?_
 rw[RE (by rw[g2];omega),RE (by rw[g1];omega),RE (by omega),RE h]
 by_cases c1:a+2<=i/\i<a+2+1
 ·rw[if_pos c1,if_pos (by omega)]
 ·rw[if_neg c1];by_cases c2:a+1<=i/\i<a+1+1
  ·rw[if_pos c2,if_pos (by omega)]
  ·rw[if_neg c2];by_cases c3:a<=i/\i<a+1
   ·rw[if_pos c3,if_pos (by omega)]
   ·rw[if_neg c3,if_neg (by omega)]
def z8U (h:W2 G T Q txt K X w)(hK:K<=600000000000)(eE:G.g.length<=40)(ax:Rh G.g)(ht:T.g=Qr G.g)(dH:Pre Q.L a)(jO:G.st+G.len<=a)(vM:T.st+T.len<=a)(cm:a+3<=Q.L.length):Pm prog 13 [ptr Q.s 0,ptr G.k 0,ptr T.k 0] w λv w'=>∃(rr:Nat) (O_:Nat->Prop) (txt':Int->OI),v= .tuple #[ptr rr 0,I 0]/\(∀b,O_ b->w.heap.size<=b)/\Qn (Sn false T.k) G T (Q.Qi (Qd Q.L a 3 true)) txt' (K+4) (λb=>X b\/O_ b) rr O_ a 3 (Sc.new G.g.length) w'/\(∀y:Int,y<(a:Int)\/(a:Int)+3<=y->txt' y=txt y)/\Kp (λb=>¬X b) w w':=by
 have kw:T.g.length=G.g.length:=by rw[ht];exact So _
 have Ni:PT T.g=PT G.g:=by rw[ht];exact z4Q ax
 have aQ:=h.lt
 have nh:=h.xk
 have cg:=h.far
 refine py (e:=[(0,_),(1,_),(2,_)]) func13 O ntmps13 O O$ qN O$ OJ O O (R4 O (cs:=[ptr Q.s 0]) O) ?_
 rintro _ w1 ⟨bs,rfl,wO,ad,ll⟩
 refine OJ O O (R4 O (cs:=[ptr G.k 0]) O) ?_
 rintro _ w2 ⟨bg,rfl,IP,ae,ib⟩
 have ig:=ae.OA ll
 have aG:=ad.trans ae
 have z1:=ad.size
 have z2:=ae.size
 have q1:=ll.lt
 have q2:=ib.lt
 have h2:=h.grow aG (λj e=> .inl e) (λj e=>e)
 have Jf:=z0i h2.t
 rw[kw] at Jf
 have kg:=z7T h2.t
 rw[Ni] at kg
 refine Qm O$ QA$ qN O$ qV ((OM XH O O ig O))$ qV (PY XH O O)$ ON O$ qV ((OM ZH O O ib O))$ qV (PY ZH O O)$ PM O$ Pa O$ qV (PY ZH O O)$ PM O$ OV O$ OL O ?_
 refine qN O$ qV ((OM ZH O O ib O))$ P5 z7k O (z0i h2.g) ?_
 rintro _ w2 ⟨rfl,rfl⟩
 refine ON O$ P5 z7k O (Jf) ?_
 rintro _ w2 ⟨rfl,rfl⟩
 refine QE O$ PH$ ON O$ qV ((OM ZH O O ib O))$ P5 zhK O (z7T h2.g) ?_
 rintro _ w2 ⟨rfl,rfl⟩
 refine ON O$ P5 zhK O (kg) ?_
 rintro _ w2 ⟨rfl,rfl⟩
 refine QE O$ PH$ PM O$ OV O$ Po.qb (e:=[(2,_),(3,_),(4,_),(6,_),(7,_),(22,_)]) ?_
 refine SH O$ Oz$ qN O$ qV ((OM ZH O O ib O))$ ON O$ qV (Sa (cs:=[_,_,_,_,_,_,_,_,_]) zkv O zkB O O)$ OJ O O (R4 O (cs:=[ptr G.k 0,ptr T.k 0,.pointer none,.pointer none,.pointer none,I 0,I 0,.bool false,.bool false]) O) ?_
 rintro _ w3 ⟨rr,rfl,o4,ah,AX⟩
 refine QS O$ OJ O O (Ry (cs:=[_]) z2Y O) ?_
 rintro _ w4 ⟨be,rfl,EI,aA,rO⟩
 replace rO:OP w4 be [I 0] 44:=rO
 have z3:=ah.size
 have z4:=aA.size
 have q3:=AX.lt
 have q4:=rO.lt
 have cF:Ext w w4:=(aG.trans ah).trans aA
 have fX:=aA.OA (ah.OA ig)
 have rl:=aA.OA (ah.OA ib)
 have Hb:=aA.OA AX
 obtain⟨X0,vK⟩:∃X0:Nat->Prop,(λj=>X j\/j=rr\/j=be\/j=bs\/j=bg)=X0:=⟨_,rfl⟩
 have eH:∀j,X j->X0 j:=λj hj=>by rw[<-vK];exact .inl hj
 have ao:X0 rr/\X0 be/\X0 bs/\X0 bg:=by rw[<-vK];exact⟨.inr (.inl O),.inr (.inr (.inl O)),.inr (.inr (.inr (.inl O))),.inr (.inr (.inr (.inr O)))⟩
 have h4:W2 G T Q txt K X0 w4:=h.grow cF (λj hj=>by rw[<-vK] at hj;exact hj.imp id λe=>by omega) eH
 refine qM O$ qV (ymf (first:=[]) (caps:=[.tmp 9,.tmp 3,.tmp 4]) O O)$ QS O$ Pa O$ Pa O$ Qp O O (RN zf1 O O) (Zr h4 O (by omega) (by omega) dH (width:=4) (.inr O) (by omega) rO fX rl ao.2) ?_
 rintro _ w5 ⟨v1,txt1,w5',rfl,Hc,i5,nE,yu,aj,rP,lw⟩
 obtain⟨Q1,xN⟩:∃Q1,Q.Qi (Qd Q.L a 1 true)=Q1:=⟨_,rfl⟩
 rw[xN] at i5 nE
 have vN:Q1.s=Q.s:=by rw[<-xN];rfl
 have vO:Q1.L=Qd Q.L a 1 true:=by rw[<-xN];rfl
 have Hd:Q1.L.length=Q.L.length:=by rw[vO];exact PZ (by omega)
 have tc:Pre Q1.L (a+1):=by rw[vO];exact Yw dH (by omega)
 have zz5:=aj.size
 have zz5':=rP.size
 have lv1:=nE.lt
 have rQ:=cg be (by omega)
 have h5:=h4.vec aj i5 Hc lv1 vN Hd (by omega) jO vM (λy e=>yu y (.inl e)) rP ⟨ao.2.1,rQ⟩
 have He:=nE.kp rP (λe=>by omega)
 have j5:Kp (λb=>¬Vk G T X0 b\/b=be) w4 w5:=(aj.OH λb e=> .inl e).trans (rP.OH λb e=> .inr e)
 have sy:∀{b},X0 b->b≠be->¬(¬Vk G T X0 b\/b=be):=λhb bu e=>e.elim (λe=>e (.inl (.inl hb))) bu
 have jH:=j5.OA fX (sy ao.2.2.1 (by omega))
 have AY:=j5.OA rl (sy ao.2.2.2 (by omega))
 have Hf:=j5.OA Hb (sy ao.1 (by omega))
 obtain⟨X5,Av⟩:∃X5:Nat->Prop,(λj=>X0 j\/j=v1)=X5:=⟨_,rfl⟩
 rw[Av] at h5
 have j7:∀j,X0 j->X5 j:=λj hj=>by rw[<-Av];exact .inl hj
 have vP:X5 v1:=by rw[<-Av];exact .inr O
 have Hg:=Zr (bs:=bs) (bg:=bg) h5 O (by omega) (by omega) tc (width:=4) (.inr O) (by omega) lw (by rw[vN];exact jH) AY ⟨j7 _ ao.2.1,j7 _ ao.2.2.1,j7 _ ao.2.2.2⟩
 refine ON O$ Qp O O (RN zf1 O O) (Hg) ?_
 rintro _ w6 ⟨v2,txt2,w6',rfl,Hh,nD,ly,pR,aM,rR,Hi⟩
 obtain⟨Q2,pO⟩:∃Q2,Q1.Qi (Qd Q1.L (a+1) 1 true)=Q2:=⟨_,rfl⟩
 rw[pO] at nD ly
 have rT:Q2.s=Q1.s:=by rw[<-pO];rfl
 have rU:Q2.L=Qd Q1.L (a+1) 1 true:=by rw[<-pO];rfl
 have AZ:Q2.L.length=Q1.L.length:=by rw[rU];exact PZ (by omega)
 have B0:Pre Q2.L (a+1+1):=by rw[rU];exact Yw tc (by omega)
 have zz6:=aM.size
 have zz6':=rR.size
 have lv2:=ly.lt
 have h6:=h5.vec aM nD Hh lv2 rT AZ (by omega) jO vM (λy e=>pR y (.inl (by omega))) rR ⟨j7 _ ao.2.1,rQ⟩
 have Hj:=ly.kp rR (λe=>by omega)
 have pq:Kp (λb=>¬Vk G T X5 b\/b=be) w5 w6:=(aM.OH λb e=> .inl e).trans (rR.OH λb e=> .inr e)
 have C7:∀{b},X5 b->b≠be->¬(¬Vk G T X5 b\/b=be):=λhb bu e=>e.elim (λe=>e (.inl (.inl hb))) bu
 have jG:=pq.OA jH (C7 (j7 _ ao.2.2.1) (by omega))
 have Hk:=pq.OA AY (C7 (j7 _ ao.2.2.2) (by omega))
 have Hl:=pq.OA Hf (C7 (j7 _ ao.1) (by omega))
 have rV:G.g.length<=100:=by omega
 have Hm:Uk Q2 txt2 v1 4 a (List.replicate G.g.length 0) w6:=((He.kp pq (C7 vP (by omega))).SK (λy e1 e2=>by
  rw[List.length_replicate,RK rV] at e2
  exact pR y (.inl (by omega)))).q rT AZ
 obtain⟨X6,mR⟩:∃X6:Nat->Prop,(λj=>X5 j\/j=v2)=X6:=⟨_,rfl⟩
 rw[mR] at h6
 have vQ:∀j,X5 j->X6 j:=λj hj=>by rw[<-mR];exact .inl hj
 have lC:∀j,X0 j->X6 j:=λj hj=>vQ j (j7 j hj)
 have B1:X6 v2:=by rw[<-mR];exact .inr O
 have Hn:=Zr (bs:=bs) (bg:=bg) h6 O (by omega) (by omega) B0 (width:=1) (.inl O) (by omega) Hi (by rw[rT,vN];exact jG) Hk ⟨lC _ ao.2.1,lC _ ao.2.2.1,lC _ ao.2.2.2⟩
 refine ON O$ Qp O O (RN zf1 O O) (Hn) ?_
 rintro _ w7 ⟨v3,txt3,w7',rfl,Ho,sT,vF,m8,aB,eY,Hp⟩
 obtain⟨Q3,rG⟩:∃Q3,Q2.Qi (Qd Q2.L (a+1+1) 1 true)=Q3:=⟨_,rfl⟩
 rw[rG] at sT vF
 have vR:Q3.s=Q2.s:=by rw[<-rG];rfl
 have B2:Q3.L=Qd Q2.L (a+1+1) 1 true:=by rw[<-rG];rfl
 have vS:Q3.L.length=Q2.L.length:=by rw[B2];exact PZ (by omega)
 have Hq:Q3=Q.Qi (Qd Q.L a 3 true):=by
  have e:Q3.L=Qd Q.L a 3 true:=by
   rw[B2,rU,vO];exact z5H cm
  rw[<-e,<-rG,<-pO,<-xN];rfl
 have zz7:=aB.size
 have zz7':=eY.size
 have lv3:=vF.lt
 have h7:=h6.vec aB sT Ho lv3 vR vS (by omega) jO vM (λy e=>m8 y (.inl (by omega))) eY ⟨lC _ ao.2.1,rQ⟩
 have Hr:=vF.kp eY (λe=>by omega)
 have eQ:Kp (λb=>¬Vk G T X6 b\/b=be) w6 w7:=(aB.OH λb e=> .inl e).trans (eY.OH λb e=> .inr e)
 have pU:∀{b},X6 b->b≠be->¬(¬Vk G T X6 b\/b=be):=λhb bu e=>e.elim (λe=>e (.inl (.inl hb))) bu
 have vT:=eQ.OA Hl (pU (lC _ ao.1) (by omega))
 have Hs:Uk Q3 txt3 v1 4 a (List.replicate G.g.length 0) w7:=((Hm.kp eQ (pU (vQ _ vP) (by omega))).SK (λy e1 e2=>by
  rw[List.length_replicate,RK rV] at e2
  exact m8 y (.inl (by omega)))).q vR vS
 have Ht:Uk Q3 txt3 v2 4 (a+1) (List.replicate G.g.length 0) w7:=((Hj.kp eQ (pU B1 (by omega))).SK (λy e1 e2=>by
  rw[List.length_replicate,RK rV] at e2
  exact m8 y (.inl (by omega)))).q vR vS
 obtain⟨X7,Hu⟩:∃X7:Nat->Prop,(λj=>X6 j\/j=v3)=X7:=⟨_,rfl⟩
 rw[Hu] at h7
 have vU:∀j,X6 j->X7 j:=λj hj=>by rw[<-Hu];exact .inl hj
 have ni:∀j,X0 j->X7 j:=λj hj=>vU j (lC j hj)
 have Hv:X7 v3:=by rw[<-Hu];exact .inr O
 replace vT:OP w7 rr [ptr G.k 0,ptr T.k 0,.pointer none,.pointer none,.pointer none,I 0,I 0,.bool false,.bool false] 86:=vT
 refine Pq O$ OW VQ O$ OT O (QG z1Z O O O vT (by simp)) ?_
 rintro w8 ⟨Hw,aL⟩
 refine Pq O$ OW Vg O$ OT O (QG z1Z O O O Hw (by simp)) ?_
 rintro w9 ⟨Hx,aw⟩
 refine Pq O$ OW WH O$ OT O (QG z1Z O O O Hx (by simp)) ?_
 rintro w10 ⟨m9,aC⟩
 replace m9:OP w10 rr [ptr G.k 0,ptr T.k 0,ptr v1 0,ptr v2 0,ptr v3 0,I 0,I 0,.bool false,.bool false] 86:=m9
 have gP:Kp (λj=>j=rr) w7 w10:=(aL.trans aw).trans aC
 have zz10:=gP.size
 have te:=gP.OA Hp (by omega)
 obtain⟨O_,hO⟩:∃O_:Nat->Prop,(λb=>b=rr\/b=v1\/b=v2\/b=v3)=O_:=⟨_,rfl⟩
 have Hy:O_ rr/\O_ v1/\O_ v2/\O_ v3:=by rw[<-hO];exact⟨.inl O,.inr (.inl O),.inr (.inr (.inl O)),.inr (.inr (.inr O))⟩
 have rW:∀b,O_ b->w.heap.size<=b/\b≠be:=λb hb=>by rw[<-hO] at hb;omega
 have wX:∀b,O_ b->X7 b:=λb hb=>by
  rw[<-hO] at hb;rcases hb with e|e|e| e
  ·rw[e];exact ni _ ao.1
  ·rw[e];exact vU _ (vQ _ vP)
  ·rw[e];exact vU _ B1
  ·rw[e];exact Hv
 have jf:=cg rr (by omega)
 have eI:W2 G T Q3 txt3 (K+1+1+1) X7 w10:=h7.own gP (λj e=>by rw[e];exact⟨ni _ ao.1,jf⟩)
 obtain⟨s0,Ad⟩:∃s0:Sc,(⟨0,0,false,List.replicate G.g.length 0,List.replicate G.g.length 0,List.replicate G.g.length 0⟩:Sc)=s0:=⟨_,rfl⟩
 have V10:VC false Q3 txt3 G.k T.k rr O_ a 3 s0 v1 v2 v3 w10:=by
  rw[<-Ad];exact⟨Hy,⟨by omega,by omega,by omega,by omega,by omega,by omega⟩,m9,Hs.kp gP (λe=>by omega),Ht.kp gP (λe=>by omega),Hr.kp gP (λe=>by omega),by simp only[List.length_replicate];omega,rfl⟩
 have Hz:=eI.xk
 have mE:Qn (Sn false T.k) G T Q3 txt3 (K+1+1+1) X7 rr O_ a 3 s0 w10:=
  ⟨⟨eI.g,⟨v1,v2,v3,V10⟩,λb hb=> .inl (wX b hb),Hy.1,λb hb=>by
   have:=cg b (rW b hb).1
   exact⟨this.1,this.2.1,this.2.2.2.2.1,this.2.2.2.2.2⟩,jO,eE⟩,eI.t,wX,Hz,λb hb=>by
   have:=cg b (rW b hb).1
   exact⟨this.2.2.1,this.2.2.2.1⟩,vM⟩
 refine OC$ Po.qb (e:=[(6,_),(7,_),(8,_),(9,_)]) ?_
 refine An$ qN O$ qV (OM U44 O O te O)$ Rg O$ OC$ OS O$ R6 O$ Pq O$ OW VQ O$ qV (OM Zd O O m9 O) ?_
 have fU:s0.label.length=G.g.length:=by rw[<-Ad];exact List.length_replicate
 refine P5 zfb O (Y1 mE.sp mE.lt (by omega) V10.Zc (.inl (.inl (wX _ Hy.2.1))) (x:=4294967295) (by decide)) ?_
 rintro _ w11 ⟨rfl,hW⟩
 rw[fU,RK rV] at hW
 obtain⟨txt11,qf,HA,bz⟩:=mE.z62 V10 (by rw[List.length_replicate,fU]) (by omega) hW
 have B3:=bz.OA te (λe=>e (.inl (.inl (ni _ ao.2.1))))
 refine OT O (QG z2Y O O O B3 (by simp)) ?_
 rintro w12 ⟨pu,bA⟩
 replace pu:OP w12 be [I 0] 44:=pu
 refine OC$ An$ qN O$ qV (OM U44 O O pu O)$ QE O$ Qg O$ Pn O$ Qm O$ OB func13 O ?_
 have Du:=qf.own bA (λj e=>by
  rw[e]
  exact⟨ni _ ao.2.1,rQ.1,rQ.2.1,rQ.2.2.1,rQ.2.2.2.1,rQ.2.2.2.2.1,rQ.2.2.2.2.2,λe2=>(rW be e2).2 O⟩)
 have wQ:=Du.less (X:=λb=>X b\/O_ b) (λb e=>e.elim (λe=>ni b (eH b e)) (wX b)) ⟨.inl nh.1,.inl nh.2.1,.inl nh.2.2.1,.inl nh.2.2.2.1,.inl nh.2.2.2.2.1,.inl nh.2.2.2.2.2⟩ (λb e=> .inr e)
 have cB:({s0 with label:=List.replicate G.g.length 4294967295}:Sc)=Sc.new G.g.length:=by rw[<-Ad];rfl
 rw[cB] at wQ
 have HB:∀b,X b->b<w.heap.size:=λb hb=>aQ b (.inl (.inl hb))
 have fY:∀{b},X b->∀{Z:Nat->Prop},(∀j,X j->Z j)->¬(¬Vk G T Z b\/b=be):=λhb _ hZ e=>e.elim (λe=>e (.inl (.inl (hZ _ hb)))) (λe=>by have:=HB _ hb;omega)
 have ka:Kp (λb=>¬X b) w w5:=cF.kp.trans (j5.OH λb e e2=>fY e2 (λj hj=>eH j hj) e)
 have kb:Kp (λb=>¬X b) w w6:=ka.trans (pq.OH λb e e2=>fY e2 (λj hj=>j7 j (eH j hj)) e)
 have kc:Kp (λb=>¬X b) w w7:=kb.trans (eQ.OH λb e e2=>fY e2 (λj hj=>lC j (eH j hj)) e)
 have kd:Kp (λb=>¬X b) w w10:=kc.trans (gP.OH λb e e2=>by have:=HB _ e2;omega)
 have ke:Kp (λb=>¬X b) w w11:=kd.trans (bz.OH λb e e2=>e (.inl (.inl (ni b (eH b e2)))))
 have kf:Kp (λb=>¬X b) w w12:=ke.trans (bA.OH λb e e2=>by have:=HB _ e2;omega)
 refine⟨_,rfl,rr,O_,txt11,rfl,λb hb=>(rW b hb).1,?_,λy hy=>?_,kf⟩
 ·rw[<-Hq];exact wQ
 ·rw[HA y (by omega),m8 y (by omega),pR y (by omega),yu y (by omega)]
end
structure Vc1 where
 vb:Nat
 width:Nat
 st:Nat
 xs:List Nat
def Vc1.len (v:Vc1):Nat:=VE v.xs.length (512 / v.width)
def WD (L:List Bool)(T:List Vc1):List Bool:=T.foldl (λL v=>Qd L v.st v.len false) L
theorem z2u (L:List Bool)(T:List Vc1)(v:Vc1):WD L (T++[v])=Qd (WD L T) v.st v.len false:=by
 unfold WD
 rw[List.foldl_append];rfl
def z4L:∀(T:List Vc1) (L:List Bool),(∀v∈T,v.st+v.len<=L.length)->(WD L T).length=L.length
 |[],L,_=>rfl
 | v :: T, L, h => by
   have h1:=PZ (b:=false) (h v List.mem_cons_self);have:=z4L T (Qd L v.st v.len false) λu hu=>by rw[h1];exact h u (List.mem_cons_of_mem _ hu)
   exact this.trans h1
theorem z11:∀(T:List Vc1) (L:List Bool) (i:Nat),(∀v∈T,v.st+v.len<=L.length)->(∀v∈T,i<v.st\/v.st+v.len<=i)->(WD L T)[i]? =L[i]?
 |[],L,i,_,_=>rfl
 | v :: T, L, i, h, h' => by
   have h1:=PZ (b:=false) (h v List.mem_cons_self);have:=z11 T (Qd L v.st v.len false) i (λu hu=>by rw[h1];exact h u (List.mem_cons_of_mem _ hu)) λu hu=>h' u (List.mem_cons_of_mem _ hu);refine Eq.trans this ?_;have h2:=h' v List.mem_cons_self;rw[RE (h v List.mem_cons_self),if_neg (by omega)]
def zbu (T:List Vc1):Prop:=∀(i j:Nat) (u v:Vc1),T[i]? =some u->T[j]? =some v->i≠j->u.vb≠v.vb/\(u.st+u.len<=v.st\/v.st+v.len<=u.st)
structure z9e (Q:Ra)(txt:Int->OI)(K:Nat)(X:Nat->Prop)(T:List Vc1)(a L:Nat)(w:World)(i:Nat)(w':World):Prop where
 ex:∃txt',Sp (Q.Qi (WD Q.L (T.take i))) txt' K X w'/\(∀(j:Nat) (v:Vc1),i<=j->T[j]? =some v->Uk (Q.Qi (WD Q.L (T.take i))) txt' v.vb v.width v.st v.xs w')/\(∀y:Int,y<(a:Int)\/(a:Int)+(L:Int)<=y->txt' y=txt y)
 k:Kp (λb=>¬X b\/∃v∈T,b=v.vb) w w'
section
variable {w w' w1:World}{Q:Ra}{txt:Int->OI}{K a L i:Nat}{X:Nat->Prop}{T:List Vc1}{v:Vc1}
theorem z9e.zero (hP:Sp Q txt K X w)(hT:∀(j:Nat) (v:Vc1),T[j]? =some v->Uk Q txt v.vb v.width v.st v.xs w):z9e Q txt K X T a L w 0 w:=
 ⟨⟨txt,hP,λj v _ h=>hT j v h,λ_ _=>rfl⟩,Kp.refl _ _⟩
def z9e.next (h:z9e Q txt K X T a L w i w1)(hX:∀b,X b->b<w.heap.size)(hv:T[i]? =some v)(hin:∀v∈T,X v.vb/\a<=v.st/\v.st+v.len<=a+L)(hap:zbu T)(ha2:2<=a)(hfit:a+L<=Q.L.length)(hown:∀i,a<=i->i<a+L->Q.L[i]? =some true):
  Pm prog 40 [ptr v.vb 0] w1 λr w'=>r=I 0/\z9e Q txt K X T a L w (i+1) w':=by
 obtain⟨⟨txt1,hP1,hV1,hy1⟩,hk1⟩:=h
 have hvm:=List.mem_of_getElem? hv
 obtain⟨hvX,hva,hvL⟩:=hin v hvm
 have hfitT:∀u∈T.take i,u.st+u.len<=Q.L.length:=λu hu=>by have:=(hin u (List.mem_of_mem_take hu)).2.2;omega
 have hcl:(WD Q.L (T.take i)).length=Q.L.length:=z4L _ _ hfitT
 have hil:i<T.length:=by
  rcases Nat.lt_or_ge i T.length with h| h
  ·exact h
  ·rw[List.getElem?_eq_none h] at hv;cases hv
 have htk:T.take (i+1)=T.take i++[v]:=by rw[List.take_add_one,hv];rfl
 have z1:=hk1.size
 refine(z5E hP1 (λb hb=>by have:=hX b hb;omega) (hV1 i v (Nat.le_refl _) hv) hvX (by omega) ?_).mono ?_
 ·intro k e1 e2;show(WD Q.L (T.take i))[k]? =some true;have e2:k<v.st+v.len:=e2;rw[z11 _ _ _ hfitT]
  ·exact hown k (by omega) (by omega)
  ·intro u hu;obtain⟨j,hj⟩:=List.getElem?_of_mem hu
   have hji:j<i:=by
    rcases Nat.lt_or_ge j i with h| h
    ·exact h
    ·rw[List.getElem?_eq_none (by rw[List.length_take];omega)] at hj;cases hj
   rw[List.getElem?_take_of_lt hji] at hj;have:=(hap j i u v hj hv (by omega)).2;omega
 ·rintro r w' ⟨rfl,txt',hP',hy',hk'⟩
  have hq:(Q.Qi (WD Q.L (T.take i))).Qi (Qd (Q.Qi (WD Q.L (T.take i))).L v.st v.len false)=Q.Qi (WD Q.L (T.take (i+1))):=by
   rw[htk,z2u];rfl
  have hP':Sp ((Q.Qi (WD Q.L (T.take i))).Qi (Qd (Q.Qi (WD Q.L (T.take i))).L v.st v.len false)) txt' K X w':=hP';rw[hq] at hP';refine⟨rfl,⟨txt',hP',λj u hj hu=>?_,λy hy=>?_⟩,hk1.trans (hk'.OH λb e=>e.imp id λe=>⟨v,hvm,e⟩)⟩
  ·obtain⟨n1,n2⟩:=hap i j v u hv hu (by omega);have huX:=(hin u (List.mem_of_getElem? hu)).1;have hl2:(WD Q.L (T.take (i+1))).length=(WD Q.L (T.take i)).length:=by rw[htk,z2u,PZ (by rw[hcl];omega)]
   refine(((hV1 j u (by omega) hu).kp hk' λe=>e.elim (λe=>e huX) λe=>n1 e.symm).SK λy e1 e2=>hy' y ?_).q O hl2;have e2:y<(u.st:Int)+(u.len:Int):=e2;show y<(v.st:Int)\/(v.st:Int)+(v.len:Int)<=y;omega
  ·rw[hy' y (by show y<(v.st:Int)\/(v.st:Int)+(v.len:Int)<=y;omega)];exact hy1 y hy
end
section
variable {G T:ZI}{w w':World}{Q:Ra}{txt txt':Int->OI}{K:Nat}{X O_:Nat->Prop}{rr a L vl vc vm v:Nat}{s:Sc}
theorem z5e (h:Qn (Sn false T.k) G T Q txt K X rr O_ a L s w):Pm prog 26 [ptr rr 0] w λv w'=>v=I (G.g.length:Int)/\w'=w:=by
 obtain⟨vl,vc,vm,hV⟩:=h.sc
 have hR:=Qn.cells hV
 refine py (e:=[(0,_)]) func26 O ntmps26 O O$ Qx O$ PK O$ qV (PY Xo O O)$ Qg O$ Pn O$ Pq O$ OW Y9 O$ qV (OM ZH O O hR O)$ P5 z7k O (h.z7N) ?_
 rintro _ w ⟨rfl,rfl⟩
 refine OV O$ OB func26 O ?_
 exact⟨_,rfl,rfl,rfl⟩
theorem z8L (h:Qn (Sn false T.k) G T Q txt K X rr O_ a L s w)(hd:s.done=true){v x:Nat}(hx:s.label[v]? =some x):Pm prog 18 [ptr rr 0,I (v:Int)] w λr w'=>r= .tuple #[OY x,I 0]/\Qn (Sn false T.k) G T Q txt K X rr O_ a L s w'/\Kp (λb=>¬Vk G T X b) w w':=by
 obtain⟨vl,vc,vm,hV⟩:=h.sc
 have hR:=Qn.cells hV
 rw[hd] at hR
 refine py (e:=[(0,_),(1,_)]) func18 O ntmps18 O O$ qN O$ Qm O$ PK O$ P5 zgj O (ZP h) ?_
 rintro _ w ⟨rfl,rfl⟩
 refine QW O$ QE O$ Qg O$ PK O$ Pq O$ OW z3J O$ qV (OM U4 O O hR O)$ qV ((RZ O))$ Qg O$ Pn O$ Pq O$ OW VQ O$ qV (OM Zd O O hR O)$ ON O ?_
 refine P5 zhd O (z2l h.sp h.lt h.m.g.Vu hV.Zc (.inl (.inl (h.xr _ hV.o.2.1))) hx) ?_
 rintro _ w1 ⟨rfl,iy,az⟩
 refine SU O$ Qm O$ OB func18 O ?_
 exact⟨_,rfl,rfl,h.read az iy,az⟩
def z6g {α:Type}{P:Nat->α->Prop}{x y z:α}(h0:P 0 x)(h1:P 1 y)(h2:P 2 z):∀(j:Nat) (v:α),[x,y,z][j]? =some v->P j v
 |0,v,h=>by cases h;exact h0
 |1,v,h=>by cases h;exact h1
 |2,v,h=>by cases h;exact h2
 |j+3,v,h=>by cases h
theorem z3W (h:Qn (Sn false T.k) G T Q txt K X rr O_ a L s w)(Nj:2<=a)(cm:a+3<=Q.L.length)(HC:∀i,a<=i->i<a+3->Q.L[i]? =some true):Pm prog 16 [ptr rr 0] w λr w'=>r=I 0/\∃txt',W2 G T (Q.Qi (Qd Q.L a 3 false)) txt' K X w'/\(∀y:Int,y<(a:Int)\/(a:Int)+3<=y->txt' y=txt y)/\Kp (λb=>¬X b\/O_ b) w w':=by
 have eE:=h.m.n
 have Gd:=h.Vm
 have Nk:=h.m.Vm
 obtain⟨vl,vc,vm,hV⟩:=h.sc
 have hR:=Qn.cells hV
 have gS:=h.xr _ hV.o.1
 have aQ:∀b,Vk G T X b->b<w.heap.size:=h.lt
 have B4:∀b,O_ b->b≠G.k/\b≠G.x/\b≠T.k/\b≠T.x/\b≠1/\b≠2:=λb hb=>by
  have m1:=h.m.ne b hb;have m2:=h.nk b hb;exact⟨m1.1,m1.2.1,m2.1,m2.2,m1.2.2.1,m1.2.2.2⟩
 obtain⟨n1,n2,n3,n4,n5,n6⟩:=hV.ne
 obtain⟨l1,l2,l3⟩:=hV.n
 obtain⟨A,hA⟩:∃A:List Vc1,[(⟨vl,4,a,s.label⟩:Vc1),⟨vc,4,a+1,s.OR⟩,⟨vm,1,a+2,s.mark⟩]=A:=⟨_,rfl⟩
 have e1:(⟨vl,4,a,s.label⟩:Vc1).len=1:=RK l1
 have e2:(⟨vc,4,a+1,s.OR⟩:Vc1).len=1:=RK l2
 have e3:(⟨vm,1,a+2,s.mark⟩:Vc1).len=1:=WV l3
 have Kg:A.length=3:=by rw[<-hA];rfl
 have tf:∀{P:Vc1->Prop},P ⟨vl,4,a,s.label⟩->P ⟨vc,4,a+1,s.OR⟩->P ⟨vm,1,a+2,s.mark⟩->∀v∈A,P v:=fun {P} p1 p2 p3 v hv=>by
  obtain⟨j,hj⟩:=List.getElem?_of_mem hv;rw[<-hA] at hj;exact z6g (P:=λ_ v=>P v) p1 p2 p3 j v hj
 have ao:∀v∈A,Vk G T X v.vb/\a<=v.st/\v.st+v.len<=a+3:=tf ⟨.inl (.inl (h.xr _ hV.o.2.1)),by show a<=a;omega,by rw[e1];show a+1<=a+3;omega⟩ ⟨.inl (.inl (h.xr _ hV.o.2.2.1)),by show a<=a+1;omega,by rw[e2];show a+1+1<=a+3;omega⟩ ⟨.inl (.inl (h.xr _ hV.o.2.2.2)),by show a<=a+2;omega,by rw[e3];show a+2+1<=a+3;omega⟩
 have HD:∀v∈A,O_ v.vb/\v.vb≠rr:=tf ⟨hV.o.2.1,λe=>n1 e.symm⟩ ⟨hV.o.2.2.1,λe=>n2 e.symm⟩ ⟨hV.o.2.2.2,λe=>n3 e.symm⟩
 have CI:zbu A:=λi j u v hu hv gW=>by
  rw[<-hA] at hu hv
  have xn:i<3:=by
   rcases Nat.lt_or_ge i 3 with h| h
   ·exact h
   ·rw[List.getElem?_eq_none (by simpa using h)] at hu;cases hu
  have Ow:j<3:=by
   rcases Nat.lt_or_ge j 3 with h| h
   ·exact h
   ·rw[List.getElem?_eq_none (by simpa using h)] at hv;cases hv
  obtain rfl|rfl|rfl:i=0\/i=1\/i=2:=by omega
  all_goals obtain rfl|rfl|rfl:j=0\/j=1\/j=2:=by omega
  all_goals first
   |exact absurd O gW
   |(cases hu;cases hv;rw[e1,e2];exact⟨n4,by show a+1<=a+1\/a+1+1<=a;omega⟩)
   |(cases hu;cases hv;rw[e1,e3];exact⟨n5,by show a+1<=a+2\/a+2+1<=a;omega⟩)
   |(cases hu;cases hv;rw[e2,e1];exact⟨n4.symm,by show a+1+1<=a\/a+1<=a+1;omega⟩)
   |(cases hu;cases hv;rw[e2,e3];exact⟨n6,by show a+1+1<=a+2\/a+2+1<=a+1;omega⟩)
   |(cases hu;cases hv;rw[e3,e1];exact⟨n5.symm,by show a+2+1<=a\/a+1<=a+2;omega⟩)
   |(cases hu;cases hv;rw[e3,e2];exact⟨n6.symm,by show a+2+1<=a+1\/a+1+1<=a+2;omega⟩)
 have B5:∀v∈A,v.st+v.len<=Q.L.length:=λv hv=>by have:=(ao v hv).2.2;omega
 have cQ:WD Q.L A=Qd Q.L a 3 false:=by
  refine List.ext_getElem? λi=>?_;rw[RE cm];by_cases hi:a<=i/\i<a+3
  ·rw[if_pos hi,<-hA];show(Qd (Qd (Qd Q.L a _ false) (a+1) _ false) (a+2) _ false)[i]? =_;rw[e1,e2,e3];have g1:(Qd Q.L a 1 false).length=Q.L.length:=PZ (by omega);have g2:(Qd (Qd Q.L a 1 false) (a+1) 1 false).length=Q.L.length:=by rw[PZ (by rw[g1];omega),g1]
   rw[RE (by rw[g2];omega),RE (by rw[g1];omega),RE (by omega)];by_cases c1:a+2<=i/\i<a+2+1
   ·rw[if_pos c1]
   ·rw[if_neg c1];by_cases c2:a+1<=i/\i<a+1+1
    ·rw[if_pos c2]
    ·rw[if_neg c2,if_pos (by omega)]
  ·rw[if_neg hi];exact z11 A Q.L i B5 λv hv=>by have:=ao v hv;omega
 refine py (e:=[(0,_)]) func16 O ntmps16 O O$ Qx O$ QA$ Pn O$ qV (PY Xo O O)$ OV O$ OL O$ Pn O$ Pq O$ OW VQ O$ qV (OM Zd O O hR O)$ qV (PY Zd O O) ?_
 have hg:=Ext.P4 w
 have BM:Sp Q txt K (Vk G T X) w.drew:=h.sp.ext' hg
 have Nl:∀(j:Nat) (v:Vc1),A[j]? =some v->Uk Q txt v.vb v.width v.st v.xs w.drew:=λj v hj=>by
  rw[<-hA] at hj;exact z6g (P:=λ_ v=>Uk Q txt v.vb v.width v.st v.xs w.drew) (hV.Zc.ext hg) (hV.col.ext hg) (hV.mar.ext hg) j v hj
 have Ox:w.drew.heap.size=w.heap.size:=rfl
 refine OV O$ SH O$ Oz$ An$ An$ QV (λw'=>Ext w w') O$ OZ 0 O O (hg)$ OG 1 O (Q8 O) hg$ OG 2 O (Pr VQ O) hg$ qT 3 O (λ_ h=>OM Zd O O (h.OA hR) O) hg$ OZ 4 O O (hg)$ OG 5 O (Q8 O) hg$ OG 6 O (Pr Vg O) hg$ qT 7 O (λ_ h=>OM Zd O O (h.OA hR) O) hg ?_
 refine OZ 8 O O (hg)$ OG 9 O (Q8 O) hg$ OG 10 O (Pr WH O) hg$ qT 11 O (λ_ h=>OM Zd O O (h.OA hR) O) hg$ OG 12 O (zdh (parts:=[(0,.tmp 18),(1,.tmp 22),(2,.tmp 26)]) (cs:=[_,_,_]) zk9 O U95 z1Z O O) hg$ OZ 13 O O (hg)$ qE$ Po.qb (e:=[(0,_),(2,_),(27,_),(28,_)]) ?_
 refine OE$ Rr (α:=Nat) (0) (λi=>[(0,ptr rr 0),(27,.agg #[ptr vl 0,ptr vc 0,ptr vm 0]),(28,I (i:Int))]) (λi w'=>i<=3/\z9e Q txt K (Vk G T X) A a 3 w.drew i w') (λi=>3-i) ?hI ?hround
 case hI=>exact⟨Nat.zero_le _,.zero BM Nl⟩
 case hround=>
  rintro i w4 ⟨hi,hC⟩ ih
  try dsimp only
  refine qN O$ Qw O$ OC$ An$ OQ O (λh0=>?_)$ λh0=>?_
  ·have xn:i<3:=by omega
   obtain⟨v,hv⟩:∃v,A[i]? =some v:=⟨_,List.getElem?_eq_getElem (by omega)⟩
   have Nm:(#[ptr vl 0,ptr vc 0,ptr vm 0]:Array Value)[i]? =some (ptr v.vb 0):=by
    rw[<-hA] at hv;exact z6g (P:=λi v=>(#[ptr vl 0,ptr vc 0,ptr vm 0]:Array Value)[i]? =some (ptr v.vb 0)) O O O i v hv
   refine OD$ QA$ qN O$ qV (yxa U95 z1Z Zd O O O xn (v:=ptr v.vb 0) Nm)$ OV O$ PK O$ qV (PY Zd O O)$ Qg O$ Pn O$ P5 zk8 O (hC.next aQ hv ao CI Nj cm HC) ?_;rintro _ w5 ⟨rfl,vE⟩;refine QW O$ QE O$ Qg O$ Oz$ OK O$ PS O$ ON O$ OC ?_;exact(ih (i+1) _ ⟨by omega,vE⟩ (by omega)).qb
  ·have xn:i=3:=by omega
   subst xn;obtain⟨⟨txt4,jW,-,nG⟩,au⟩:=hC;rw[List.take_of_length_le (by omega),cQ] at jW;have fW:Kp (λb=>¬Vk G T X b\/(O_ b/\b≠rr)) w w4:=hg.kp.trans (au.OH λb e=>e.imp id λ⟨v,hv,e⟩=>by rw[e];exact HD v hv);have h0:W2 G T Q txt K X w:=⟨h.m.g,h.t,h.xk⟩;have z4:=fW.size;have h4:W2 G T (Q.Qi (Qd Q.L a 3 false)) txt4 K X w4:=h0.Z5 fW (λb e=>e.imp id λe=>⟨h.xr _ e.1,B4 b e.1⟩) (λ_ e=>e) (λ_ e=> .inl e) (λj e=>by have:=aQ j (.inl (.inl e));omega) jW O (PZ cm) h.m.g.Vu (λy e=>nG y (.inl (by omega)));have fi:=fW.OA hR (λe=>e.elim (λe=>e (.inl (.inl gS))) λe=>e.2 O);refine OO O$ Qt O$ Pq O$ OW VQ O$ OT O (QG z1Z O O O fi (by simp)) ?_;rintro w5 ⟨mf,aj⟩;refine Pq O$ OW zbq O$ OT O (QG UH O O O mf (by simp)) ?_;rintro w6 ⟨ir,aM⟩;refine qM O$ OV O$ OB func16 O ?_;have B6:Kp (λj=>j=rr) w4 w6:=aj.trans aM;exact⟨_,rfl,rfl,txt4,h4.own B6 (λj e=>by rw[e];exact⟨gS,B4 rr hV.o.1⟩),nG,(fW.OH λb e=>e.imp (λe e2=>e (.inl (.inl e2))) And.left).trans (B6.OH λb e=> .inr (by rw[e];exact hV.o.1))⟩
end
def Vf (g t:List (List Nat)):Nat->Sc
 |0=>Sc.new g.length
 |k+1=>(Vf g t k).step g t
structure z5s (g t:List (List Nat))(k:Nat):Prop where
 d:(Vf g t k).done=true
 f:∀j,j<k->(Vf g t j).done=false
theorem z5s.eq {g t:List (List Nat)}{k k':Nat}(h:z5s g t k)(h':z5s g t k'):k=k':=by
 rcases Nat.lt_trichotomy k k' with e|e| e
 ·have:=h'.f k e;rw[h.d] at this;cases this
 ·exact e
 ·have:=h.f k' e;rw[h'.d] at this;cases this
section
variable {g t:List (List Nat)}
theorem z1A:∀k,(Vf g t k).steps=k
 |0=>rfl
 | k + 1 => by
   show(Vf g t k).steps+1=k+1;rw[z1A k]
def z78 (hn:g.length<=60):∀k,UK g (Vf g t k)
 |0=> .new hn
 |k+1=>(z78 hn k).step hn
def z7m (hg:Rh g)(h1:1<=g.length)(ht:∀u v,u∈OU t v↔v∈OU g u):∀k,(∀j,j<k->(Vf g t j).done=false)->∃b,b+k<=g.length*g.length+3*g.length/\ScJ g (Vf g t k) b
 |0,_=>⟨_,Nat.le_refl _,.new hg h1⟩
 | k + 1, h => by
   obtain⟨b,hb,hj⟩:=z7m hg h1 ht k λj hj=>h j (by omega);obtain⟨b',gX,C8⟩:=hj.step hg ht (h k (by omega));exact⟨b',by omega,C8⟩
def z2M {u v:Nat}(h:Rh g):u∈OU (Qr g) v↔v∈OU g u:=by
 have hm:∀x y,y∈OU g x->x<g.length/\y<g.length:=λx y hy=>by
  unfold OU at hy;by_cases e:x<g.length
  ·rw[List.getElem?_eq_getElem e] at hy;exact⟨e,h.lt _ (List.getElem_mem e) y hy⟩
  ·rw[List.getElem?_eq_none (by omega)] at hy;cases hy
 by_cases hv:v<g.length
 ·have e:OU (Qr g) v=(List.range g.length).filter λx=>decide (v∈OU g x):=by
   show((Qr g)[v]?.getD [])=_;rw[Zx g hv];rfl
  rw[e,List.mem_filter,List.mem_range];exact⟨λe=>of_decide_eq_true e.2,λe=>⟨(hm u v e).1,decide_eq_true e⟩⟩
 ·have e:OU (Qr g) v=[]:=by
   show((Qr g)[v]?.getD [])=_;rw[List.getElem?_eq_none (by rw[So];omega)];rfl
  rw[e];exact⟨λe=>(by cases e),λe=>absurd (hm u v e).2 hv⟩
end
def Qn.append {σ:Type}{R:RuK σ}{G T:ZI}{w w1 w2:World}{Q:Ra}{txt:Int->OI}{K:Nat}{X O_:Nat->Prop}{rr a L:Nat}{s:σ}(h:Qn R G T Q txt K X rr O_ a L s w){u v:Value}(hu:∀b,u.ownBlock=some b->X b)(hn:∀b,u.ownBlock=some b->b≠G.k/\b≠G.x/\b≠T.k/\b≠T.x/\b≠1/\b≠2/\¬O_ b)(hx:Ext w w1)(hk:Kp (λk=>u.ownBlock=some k) w1 w2)(hf:∀g,v.ownBlock=some g->u.ownBlock=some g\/w1.heap.size<=g)(hl:∀b,v.ownBlock=some b->b<w2.heap.size):Qn R G T Q txt K (λb=>X b\/v.ownBlock=some b) rr O_ a L s w2:=by
 refine(h.ext hx).step hk (λj e=>⟨hu j e,hn j e⟩) (λj e=> .inl e) λj e=>?_
 rcases e with e| e
 ·exact .inl e
 ·rcases hf j e with e2|e2
  ·exact .inl (hu j e2)
  ·exact .inr ⟨e2,hl j e⟩
section
variable {G T:ZI}{w w':World}{Q:Ra}{txt:Int->OI}{K:Nat}{X:Nat->Prop}{a d:Nat}
def z5W (h:W2 G T Q txt K X w)(hK:K<=500000000000)(h1:1<=G.g.length)(eE:G.g.length<=40)(ax:Rh G.g)(ht:T.g=Qr G.g)(dH:Pre Q.L a)(jO:G.st+G.len<=a)(vM:T.st+T.len<=a)(ha:a<=146)(hL:Q.L.length=200):
  Pm prog 10 [.agg #[ptr d 0,ptr Q.s 0,ptr G.k 0,ptr T.k 0,I ((200-a:Nat):Int)]] w λv w'=>∃(k b c:Nat) (txt':Int->OI) (K':Nat),v= .tuple #[.slice (some ⟨b,0,none⟩) G.g.length c,I (k:Int)]/\1<=k/\z5s G.g (Qr G.g) k/\Sl w' (.slice (some ⟨b,0,none⟩) G.g.length c) 39 1 G.g.length ((Vf G.g (Qr G.g) k).label.map OY)/\W2 G T Q txt' K' (λj=>X j\/j=b) w'/\K'<=K+20000000/\w.heap.size<=b/\(∀y:Int,y<(a:Int)->txt' y=txt y)/\Kp (λb=>¬X b) w w':=by
 have kw:T.g.length=G.g.length:=by rw[ht];exact So _
 have s6:∀u v,u∈OU (Qr G.g) v↔v∈OU G.g u:=λu v=>z2M ax
 have aQ:=h.lt
 have nh:=h.xk
 have cg:=h.far
 have lA:G.g.length<=60:=by omega
 have fh:maxLen=9223372036854775807:=rfl
 refine py (e:=[(0,_)]) func10 O ntmps10 O O$ qN O$ OJ O O (R4 O (cs:=[ptr d 0,ptr Q.s 0,ptr G.k 0,ptr T.k 0,I ((200-a:Nat):Int)]) O) ?_
 rintro _ w1 ⟨b1,rfl,bL,ad,ai⟩
 have z1:=ad.size
 have q1:=ai.lt
 obtain⟨X1,dr⟩:∃X1:Nat->Prop,(λj=>X j\/j=b1)=X1:=⟨_,rfl⟩
 have df:∀j,X j->X1 j:=λj hj=>by rw[<-dr];exact .inl hj
 have tG:X1 b1:=by rw[<-dr];exact .inr O
 have bh:W2 G T Q txt K X1 w1:=h.grow ad (λj hj=>by rw[<-dr] at hj;exact hj.imp id λe=>by omega) df
 refine SA O$ QS O$ OW z6c O$ qV (OM XH O O ai O)$ OW zeX O$ qV (OM ZH O O ai O)$ OW zff O$ qV (OM ZH O O ai O)$ P5 zkZ O (z8U bh (by omega) eE ax ht dH jO vM (by omega)) ?_
 rintro _ w2 ⟨rr,O_,txt2,rfl,Jg,dt,pR,am⟩
 obtain⟨Q2,pO⟩:∃Q2,Q.Qi (Qd Q.L a 3 true)=Q2:=⟨_,rfl⟩
 rw[pO] at dt
 have vV:Q2.L=Qd Q.L a 3 true:=by rw[<-pO];rfl
 have rU:Q2.L.length=200:=by rw[vV,PZ (by omega),hL]
 have rT:Q2.s=Q.s/\Q2.m=Q.m:=by rw[<-pO];exact⟨rfl,rfl⟩
 obtain⟨Y,hY⟩:∃Y:Nat->Prop,(λb=>X1 b\/O_ b)=Y:=⟨_,rfl⟩
 rw[hY] at dt
 have aN:∀j,X1 j->Y j:=λj hj=>by rw[<-hY];exact .inl hj
 have z2:=am.size
 refine ON O$ SU O$ Qm O$ PK O$ QE O$ Qg O$ Pn O$ P5 zk1 O (z5e dt) ?_
 rintro _ w2 ⟨rfl,rfl⟩
 have hM:∃M:Nat,((G.g.length:Int)+2)*((G.g.length:Int)+2)=(M:Int)/\G.g.length*G.g.length+3*G.g.length<M/\M<=2000:=by
  refine⟨(G.g.length+2)*(G.g.length+2),by push_cast;rfl,?_,?_⟩
  ·rw[Nat.add_mul,Nat.mul_add];omega
  ·have:=Nat.mul_le_mul (show G.g.length+2<=42 by omega) (show G.g.length+2<=42 by omega);omega
 obtain⟨M,dD,kg,wT⟩:=hM
 have th:Y b1/\¬O_ b1:=⟨aN _ tG,λe=>by have:=Jg _ e;omega⟩
 have ak:=am.OA ai (λe=>e tG)
 have Jh:∀{b},X b->¬O_ b:=λhb e=>by have:=aQ _ (.inl (.inl hb));have:=Jg _ e;omega
 refine OV O$ An$ Qx O$ OE$ Rr (α:=Nat) (0) (λk=>[(1,ptr b1 0),(4,ptr rr 0),(6,I (G.g.length:Int)),(7,I (k:Int))]) (λk w'=>(∃txt' K',Qn (Sn false T.k) G T Q2 txt' K' Y rr O_ a 3 (Vf G.g (Qr G.g) k) w'/\K'<=K+4+9000*k/\∀y:Int,y<(a:Int)->txt' y=txt y)/\(∀j,j<=k->(Vf G.g (Qr G.g) j).done=false)/\Kp (λb=>¬Y b\/O_ b) w2 w') (λk=>2000-k) ?hI ?hround
 case hI=>exact⟨⟨txt2,_,dt,by omega,λy e=>pR y (.inl e)⟩,λj hj=>by rw[Nat.le_zero.1 hj];rfl,Kp.refl _ _⟩
 case hround =>
  rintro k w4 ⟨⟨txt4,K4,bG,H1,nG⟩,eW,au⟩ ih;dsimp only at ih⊢;obtain⟨bd,sA,-⟩:=z7m ax h1 s6 k λj hj=>eW j (by omega);have aK:=au.OA ak (λe=>e.elim (λe=>e th.1) th.2);have jB:=z78 (g:=G.g) (t:=Qr G.g) lA k;have lU:=z1A (g:=G.g) (t:=Qr G.g) k;have ge:=z3Q bG jB kw (by omega) (eW k (Nat.le_refl _)) (by omega);rw[ht,show(Vf G.g (Qr G.g) k).step G.g (Qr G.g)=Vf G.g (Qr G.g) (k+1) from rfl] at ge
  try dsimp only
  refine An$ Qt O$ PS O$ ON O$ PS O$ qV (Yb O O (by rw[dD];omega)) ?_;rw[dD];refine Qw O$ Rz$ OC$ OS O$ OD$ QA$ Pn O$ P5 zl6 O (ge) ?_;rintro _ w5 ⟨rfl,⟨txt5,K5,bP,Nb,AU⟩,aj⟩;have me:Kp (λb=>¬Y b\/O_ b) w2 w5:=au.trans aj;have B7:∀y:Int,y<(a:Int)->txt5 y=txt y:=λy e=>(AU y (.inl e)).trans (nG y e);refine ON O$ SU O$ Qm O$ PK O$ QE O ?_;by_cases hd:(Vf G.g (Qr G.g) (k+1)).done=true
  ·rw [hd]; obtain ⟨s, hs⟩ : ∃ s, Vf G.g (Qr G.g) (k + 1) = s := ⟨_, rfl⟩; rw [hs] at bP hd; have Ji : UK G.g s := hs ▸ z78 (g := G.g) (t := Qr G.g) lA (k + 1); have Nn : ∀ b, Y b -> b < w5.heap.size := λb hb => bP.lt b (.inl (.inl hb)); have pw := bP.far; refine Qg O (PK O (qV ((RZ O)) (Qg O (Qx O (An (Qx O (OE (Rr (α := Nat × Value) ((0, .slice none 0 0)) (λy => [(1, ptr b1 0), (4, ptr rr 0), (6, I (G.g.length : Int)), (7, I (k : Int)), (10, y.2), (11, I (y.1 : Int))]) (λy w' => y.1 <= G.g.length /\ Sl w' y.2 39 1 y.1 ((s.label.take y.1).map OY) /\ (∀ b, y.2.ownBlock = some b -> w5.heap.size <= b) /\ (∃ Z : Nat -> Prop, (∀ b, Y b -> Z b) /\ (∀ b, y.2.ownBlock = some b -> Z b) /\ Qn (Sn false T.k) G T Q2 txt5 K5 Z rr O_ a 3 s w') /\ Kp (λb => ¬ Y b) w5 w') (λy => G.g.length - y.1) ?hI ?hround))))))))
   case hI=>exact⟨Nat.zero_le _,by simpa using Sl.nil _ _ _,λb hb=>(by cases hb),⟨Y,λ_ e=>e,λb hb=>(by cases hb),bP⟩,Kp.refl _ _⟩
   case hround=>
    rintro⟨v,u⟩ w6 ⟨hv,g8,vW,⟨Z,C9,B8,h6⟩,aM⟩ ih2;dsimp only at hv g8 vW B8 ih2⊢;have z6:=aM.size;have aT:=(me.trans (aM.OH λb e=> .inl e)).OA ak (λe=>e.elim (λe=>e th.1) th.2)
    try dsimp only
    refine An$ Qt O$ Qw O$ OC$ OQ O (λh0=>?_)$ λh0=>?_
    ·have fg:v<G.g.length:=by omega
     obtain⟨x,hx⟩:∃x,s.label[v]? =some x:=⟨_,List.getElem?_eq_getElem (by rw[Ji.ln];exact fg)⟩;refine OD$ QA$ Qt O$ P5 zkM O (z8L h6 hd hx) ?_;rintro _ w7 ⟨rfl,h7,aB⟩;have hH:=g8.kp aB (λb hb e=>e (.inl (.inl (B8 b hb))));have z7:=aB.size;refine ON O$ SU O$ Qm O$ PK O$ QE O$ Qg O$ OK O$ Pa O$ OJ O O (XZ (cs:=[_]) (zs:=[Value.int .u64 0]) U34 Tv O (by kernel_rfl) O O O (by decide)) ?_;rintro _ w8 ⟨b8,rfl,⟨ja,cT,cj⟩,dO⟩;refine OJ O O (pap U34 Tv O (by decide) O O (hH.ext cT) dO.rd (by intro c hc;simp at hc;subst hc;rfl) (by omega) (by omega)) ?_;rintro u9 w9 ⟨kz,aw,Jj,-⟩;have z8:=cT.size;have uJ:∀b,u.ownBlock=some b->b≠G.k/\b≠G.x/\b≠T.k/\b≠T.x/\b≠1/\b≠2/\¬O_ b:=λb hb=>pw b (vW b hb);have h9:=h7.append B8 uJ cT aw Jj (λb hb=>kz.lt hb);have tN:Kp (λb=>¬Y b) w6 w9:=((aB.OH λb e e2=>e (.inl (.inl (C9 b e2)))).trans cT.kp).trans (aw.OH λb e e2=>by have:=vW b e;have:=Nn b e2;omega);refine OV O$ Oz$ R6 O$ PS O$ OV O ?_
     refine(ih2 (v+1,u9) _ ⟨by show v+1<=G.g.length;omega,?_,λb hb=>by
      rcases Jj b hb with e| e
      ·exact vW b e
      ·omega,⟨_,λb e=> .inl (C9 b e),λb e=> .inr e,h9⟩,aM.trans tN⟩ (by show G.g.length-(v+1)<G.g.length-v;omega)).qb
     show Sl w9 u9 _ 1 (v+1) ((s.label.take (v+1)).map OY);rw[PC hx,List.map_append];exact kz
    ·have fg:v=G.g.length:=by omega
     subst fg;rw[List.take_of_length_le (by rw[Ji.ln];exact Nat.le_refl _)] at g8
     obtain⟨gb,gc,rfl⟩:∃b c,u= .slice (some ⟨b,0,none⟩) G.g.length c:=by
      rcases g8.shape with⟨-,e⟩|⟨b,c,e,-⟩
      ·omega
      ·exact⟨b,c,e⟩
     have hg:=Ext.P4 w6;have fL:=z3W (h6.ext hg) dH.a2 (by omega) (λi e1 e2=>by rw[vV,RE (by omega),if_pos ⟨e1,e2⟩]);rw[show Q2.Qi (Qd Q2.L a 3 false)=Q by rw[vV,za6 dH (by omega),<-pO];rfl] at fL;have rX:∀{b},Z b->¬O_ b->¬(¬Z b\/O_ b):=λh1 h2 e=>e.elim (λe=>e h1) h2;have HK:¬O_ gb:=(pw gb (vW gb O)).2.2.2.2.2.2;have vX:=C9 _ th.1;have j8:∀{w14:World},Kp (λb=>¬Z b\/O_ b) w6.drew w14->Kp (λb=>¬Z b\/O_ b) w6 w14:=λhk=>hg.kp.trans hk;have cu:∀{w14 w16:World},Kp (λb=>¬Z b\/O_ b) w6.drew w14->Ext w14 w16->Kp (λb=>¬Z b\/O_ b) w6 w16:=λhk hx=>(j8 hk).trans hx.kp;refine OO O$ An$ An$ QV (λw'=>Kp (λb=>¬Z b\/O_ b) w6 w') O$ OZ 0 O O (hg.kp)$ RT 1 O zjU O (fL) ?_;rintro _ w14 ⟨rfl,txt14,rY,HE,cH⟩;refine⟨j8 cH,?_⟩;refine OG 2 O (yne O O) (j8 cH)$ TD$ OZ 3 O O (j8 cH)$ OG 4 O (Pr z6c O) (j8 cH)$ qT 5 O (λ_ h=>OM XH O O (h.OA aT (rX vX th.2)) O) (j8 cH)$ OG 8 O (Pr zf2 O) (j8 cH)$ qT 9 O (λ_ h=>OM U3 O O (h.OA aT (rX vX th.2)) O) (j8 cH)$ RT 6 O zkG O (rY.sp.map) ?_;rintro _ w15 ⟨rfl,rfl⟩;refine⟨j8 cH,?_⟩;have f9:=rY.sp.room dH (by omega);rw[hL] at f9;refine RT 7 O ziv O (f9) ?_;rintro _ w16 ⟨rfl,bB⟩;refine⟨cu cH bB,?_⟩;refine OG 10 O (yne O O) (cu cH bB)$ TD$ OG 11 O (U0 O O) (cu cH bB)$ OZ 12 O O (cu cH bB)$ OG 13 O (Pr z6c O) (cu cH bB)$ qT 14 O (λ_ h=>OM XH O O (h.OA aT (rX vX th.2)) O) (cu cH bB) ?_;have lU:=z3U (rY.sp.ext' bB);refine RT 15 O zl8 O (lU) ?_;rintro _ w17 ⟨c1,c2,c3,c4,c5,rfl,dq⟩;refine⟨cu cH (bB.trans dq),?_⟩;refine OG 16 O (yfd zfW O O) (cu cH (bB.trans dq))$ OG 17 O (Yf O O) (cu cH (bB.trans dq))$ TD$ OG 18 O (U0 O O) (cu cH (bB.trans dq))$ qE$ SH O$ Qt O$ PS O$ Qm O$ OB func10 O ?_;have eV:=bB.trans dq;have ti:=cu cH eV;have Jk:∀j,X j->Z j:=λj e=>C9 j (aN j (df j e));have HF:W2 G T Q txt14 K5 (λj=>X j\/j=gb) w17:=(rY.grow eV (λj e=> .inl e) (λ_ e=>e)).less (λj e=>e.elim (Jk j) λe=>by rw[e];exact B8 gb O) ⟨.inl nh.1,.inl nh.2.1,.inl nh.2.2.1,.inl nh.2.2.2.1,.inl nh.2.2.2.2.1,.inl nh.2.2.2.2.2⟩;rw[<-hs] at g8 hd;refine⟨_,rfl,k+1,gb,gc,txt14,K5,rfl,by omega,⟨hd,λj hj=>eW j (by omega)⟩,g8.kp ti (λb hb=>rX (B8 b hb) ((pw b (vW b hb)).2.2.2.2.2.2)),HF,by omega,by have:=vW gb O;have:=me.size;omega,λy e=>(HE y (.inl e)).trans (B7 y e),?_⟩;refine(((ad.kp.trans (am.OH λb e e2=>e (df b e2))).trans (me.OH λb e e2=>?_)).trans (aM.OH λb e e2=>e (aN b (df b e2)))).trans (ti.OH λb e e2=>?_)
     ·exact e.elim (λe=>e (aN b (df b e2))) (Jh e2)
     ·exact e.elim (λe=>e (Jk b e2)) (Jh e2)
  ·have nP:(Vf G.g (Qr G.g) (k+1)).done=false:=by simpa using hd
   rw[nP];refine Qg O$ PK O$ qV ((RZ O))$ OC$ OS O$ OO O$ R6 O$ PS O$ OV O ?_
   exact(ih (k+1) w5 ⟨⟨txt5,K5,bP,by omega,B7⟩,λj hj=>by
    by_cases e:j=k+1
    ·rw[e];exact nP
    ·exact eW j (by omega),me⟩ (by omega)).qb
end
def z8d {g:List (List Nat)}(h:Rh g){v u:Nat}(hv:v<g.length):dI (dF (UN g v g.length) u)<0↔¬Wt g v u:=by
 have hL:=z5g h hv g.length
 rw[zcL h]
 cases e:dF (UN g v g.length) u with
 | some k =>
   show(k:Int)<0↔_
   exact⟨λh=>by omega,λhn=>absurd ⟨k,(hL.has u k e).1⟩ hn⟩
 | none =>
   refine⟨λ_ ⟨k,hk⟩=>?_,λ_=>by decide⟩;have:=hL.all u k hk (by have:=hk.zkf h hv;omega);rw[e] at this;cases this
section
variable {w:World}{g:List (List Nat)}{gb go gc:Nat}
def z4a (ax:Rh g)(h1:1<=g.length)(hg:GrR w gb go g):Pm prog 11 [.slice (some ⟨gb,go,none⟩) g.length gc] w λv w'=>∃(b c:Nat) (ls:List Nat),v= .slice (some ⟨b,0,none⟩) g.length c/\ls.length=g.length/\(∀(v x:Nat),ls[v]? =some x->Wx g v x)/\Sl w' v 3 1 g.length (ls.map λx:Nat=>I (x:Int))/\Ext w w':=by
 have fh:maxLen=9223372036854775807:=rfl
 have lA:=ax.n
 refine py (e:=[(0,_)]) func11 O ntmps11 O O$ qN O$ QS O$ OV O$ An$ Qx O$ OE$ Rr (α:=(Value×List Nat)×Nat) (((.slice none 0 0,[]),0)) (λy=>[(0,.slice (some ⟨gb,go,none⟩) g.length gc),(3,y.1.1),(4,I (y.2:Int))]) (λy w'=>y.2<=g.length/\y.1.2.length=y.2/\Sl w' y.1.1 37 1 y.2 (y.1.2.map λb=> .slice (some ⟨b,0,none⟩) g.length g.length)/\(∀b,y.1.1.ownBlock=some b->w.heap.size<=b/\b∉y.1.2)/\(∀(j b:Nat),y.1.2[j]? =some b->OP w' b ((UN g j g.length).map λo=>I (dI o)) 3)/\Ext w w') (λy=>g.length-y.2) ?hI ?hround
 case hI=>exact⟨Nat.zero_le _,rfl,by simpa using Sl.nil _ _ _,λb hb=>(by cases hb),λj b hj=>(by cases hj),Ext.refl _⟩
 case hround =>
  rintro⟨⟨u,bs⟩,v⟩ w1 ⟨hv,hl,hS,ho,hB,hx⟩ ih;dsimp only at hv hl hS ho hB ih⊢
  try dsimp only
  refine An$ Qt O$ Rs WQ O$ Qw O$ OC$ OQ O (λh0=>?_)$ λh0=>?_
  ·have fg:v<g.length:=by omega
   refine OD$ QA$ OK O$ Pa O$ ON O$ P5 zjL O (z29 ax fg (hg.ext hx)) ?_;rintro _ w2 ⟨bd,rfl,mO,sA,ae⟩;have z1:=hx.size;have z2:=ae.size;have ld:=mO.lt;refine OJ O O (XZ (cs:=[_]) (zs:=[Value.slice none 0 0]) U81 z14 O (by kernel_rfl) O O O (by decide)) ?_;rintro _ w3 ⟨b3,rfl,⟨dG,ah,ar⟩,da⟩;have z3:=ah.size;refine OJ O O (pap U81 z14 O (by decide) O O (hS.ext (ae.trans ah)) da.rd (by intro c hc;simp at hc;subst hc;rfl) (by omega) (by omega)) ?_;rintro u4 w4 ⟨eg,au,o9,-⟩;have eL:∀(j b:Nat),bs[j]? =some b->b<w1.heap.size:=λj b hj=>(hB j b hj).lt;have nq:∀b,u.ownBlock=some b->b<w1.heap.size:=λb hb=>hS.lt hb;refine OV O$ Oz$ R6 O$ PS O$ OV O ?_
   exact(ih ((u4,bs++[bd]),v+1) _ ⟨by show v+1<=g.length;omega,by simp[hl],by
     show Sl w4 u4 _ 1 (v+1) ((bs++[bd]).map _);rw[List.map_append]
     exact eg,λb hb=>by
     rcases o9 b hb with e| e
     ·refine⟨(ho b e).1,λhm=>?_⟩;rcases List.mem_append.1 hm with hm|hm
      ·exact(ho b e).2 hm
      ·have:=nq b e;have:=List.mem_singleton.1 hm;omega
     ·refine⟨by omega,λhm=>?_⟩;rcases List.mem_append.1 hm with hm|hm
      ·obtain⟨j,hj⟩:=List.getElem?_of_mem hm;have:=eL j b hj;omega
      ·have:=List.mem_singleton.1 hm
       omega,λj b hj=>by
     by_cases e:j=v
     ·subst e;rw[List.getElem?_append_right (by omega),hl,Nat.sub_self] at hj;cases hj;exact au.OA (ah.OA mO) λe=>by have:=nq _ e;omega
     ·have C8:bs[j]? =some b:=by
       by_cases e2:j<bs.length
       ·rw[List.getElem?_append_left e2] at hj;exact hj
       ·rw[List.getElem?_eq_none (by rw[List.length_append,List.length_singleton];omega)] at hj;cases hj
      exact au.OA ((ae.trans ah).OA (hB j b C8)) λe=>(ho b e).2 (List.mem_of_getElem? C8),((hx.trans ae).trans ah).It au λb e=>(ho b e).1⟩ (by show g.length-(v+1)<g.length-v;omega)).qb
  ·have fg : v = g.length := by omega
   subst fg
   obtain⟨db,dc,rfl⟩:∃b c,u= .slice (some ⟨b,0,none⟩) g.length c:=by
    rcases hS.shape with⟨-,e⟩|⟨b,c,e,-⟩
    ·omega
    ·exact⟨b,c,e⟩
   have z1:=hx.size;refine OO O$ Qx O$ An$ Qx O$ OE$ Rr (α:=(Value×List Nat)×Nat) (((.slice none 0 0,[]),0)) (λy=>[(0,.slice (some ⟨gb,go,none⟩) g.length gc),(3,.slice (some ⟨db,0,none⟩) g.length dc),(5,y.1.1),(6,I (y.2:Int))]) (λy w'=>y.2<=g.length/\y.1.2.length=y.2/\(∀(j x:Nat),y.1.2[j]? =some x->Wx g j x)/\Sl w' y.1.1 3 1 y.2 (y.1.2.map λx:Nat=>I (x:Int))/\(∀b,y.1.1.ownBlock=some b->w1.heap.size<=b)/\Ext w1 w') (λy=>g.length-y.2) ?hI ?hround
   case hI=>exact⟨Nat.zero_le _,rfl,λj x hj=>(by cases hj),by simpa using Sl.nil _ _ _,λb hb=>(by cases hb),Ext.refl _⟩
   case hround =>
    rintro⟨⟨u,ls⟩,v⟩ w2 ⟨hv,gj,ip,cL,pY,ae⟩ ih;dsimp only at hv gj ip cL pY ih⊢;have No:=hS.ext ae;have mO:∀(j b:Nat),bs[j]? =some b->OP w2 b ((UN g j g.length).map λo=>I (dI o)) 3:=λj b hj=>ae.OA (hB j b hj)
    try dsimp only
    refine An$ Qt O$ Rs WQ O$ Qw O$ OC$ OQ O (λh0=>?_)$ λh0=>?_
    ·have fg : v < g.length := by omega
     have gU:∀j,j<g.length->∃b,bs[j]? =some b/\w2.cell? ⟨db,0+j*1,none⟩=some (.slice (some ⟨b,0,none⟩) g.length g.length):=λj hj=>by
      obtain⟨b,hb⟩:∃b,bs[j]? =some b:=⟨_,List.getElem?_eq_getElem (by omega)⟩;exact⟨b,hb,PU No.rd (by rw[List.getElem?_map,hb];rfl)⟩
     have jv:∀i j b,bs[i]? =some b->j<g.length->w2.cell? ⟨b,0+j*1,none⟩=some (I (dI (dF (UN g i g.length) j))):=λi j b hb hj=>by
      have yb:j<(UN g i g.length).length:=by rw[Vb];exact hj
      rw[Nat.mul_one,(mO i b hb).cell,Nat.zero_add,List.getElem?_map];unfold dF;rw[List.getElem?_eq_getElem yb];rfl
     obtain⟨bv,Np,ns⟩:=gU v fg;refine OD$ QA$ Qx O$ QA$ Rr (α:=Nat) (0) (λi=>[(0,.slice (some ⟨gb,go,none⟩) g.length gc),(3,.slice (some ⟨db,0,none⟩) g.length dc),(5,u),(6,I (v:Int)),(7,I (i:Int))]) (λi w'=>i<=v/\(∀j,j<i->¬Mut g v j)/\w'=w2) (λi=>v-i) ?hI ?hround
     case hI=>exact⟨Nat.zero_le _,λj hj=>absurd hj (Nat.not_lt_zero _),rfl⟩
     case hround =>
      rintro i w3 ⟨hi,pV,rfl⟩ ih2;have ao:i<g.length:=by omega
      obtain⟨bi,sU,Nq⟩:=gU i ao;have d1:=z8d ax fg (u:=i);have d2:=z8d ax ao (u:=v);have fx:=jv v i bv Np ao;have ft:=jv i v bi sU fg
      generalize dI (dF (UN g v g.length) i)=x1 at d1 fx
      generalize dI (dF (UN g i g.length) v)=x2 at d2 ft
      try dsimp only
      refine An$ Qt O$ qV (PR U81 z14 O O (by omega))$ qV (Ps R0 O O ns)$ ON O$ qV (PR R0 PV O O (by omega))$ qV (Ps U3 O O fx) ?_;by_cases e1:x1<0
      ·refine Qw O$ Rz$ ON O$ QL$ QL$ QL$ QL$ QX O$ OC$ OS O$ OD$ OE$ R6 O$ PS O ?_;refine OV O$ Oz ?_;have bu:¬Mut g v i:=λe=>d1.1 e1 e.1;have Nr:i≠v:=λe=>bu (e▸Mut.refl)
       exact(ih2 (i+1) _ ⟨by omega,λj hj=>by
        by_cases e:j=i
        ·rw[e];exact bu
        ·exact pV j (by omega),rfl⟩ (by omega)).qb
      ·refine Qw O$ PH$ Pa O$ ON O$ qV (PR U81 z14 O O (by omega))$ qV (Ps R0 O O Nq)$ ON O$ qV (PR R0 PV O O (by omega))$ qV (Ps U3 O O ft) ?_;by_cases e2:x2<0
       ·refine Qw O$ Rz$ PM O$ OC$ OS O$ OD$ OE$ R6 O$ PS O$ OV O$ Oz ?_;have bu:¬Mut g v i:=λe=>d2.1 e2 e.2;have Nr:i≠v:=λe=>bu (e▸Mut.refl)
        exact(ih2 (i+1) _ ⟨by omega,λj hj=>by
         by_cases e:j=i
         ·rw[e];exact bu
         ·exact pV j (by omega),rfl⟩ (by omega)).qb
       ·refine Qw O$ PH ?_;have HG:Mut g v i:=⟨Classical.byContradiction λe=>e1 (d1.2 e),Classical.byContradiction λe=>e2 (d2.2 e)⟩
        have io:Wx g v i:=⟨HG,λj hj=>by
         rcases Nat.lt_or_ge j i with e| e
         ·exact absurd hj (pV j e)
         ·exact e⟩
        refine PM O$ OC$ OL O$ OO O$ OK O$ Pa O$ OJ O O (XZ (cs:=[_]) (zs:=[Value.int .i64 0]) R0 PV O (by kernel_rfl) O O O (by decide)) ?_;rintro _ w4 ⟨b4,rfl,⟨fZ,aA,aK⟩,eg⟩;have z4:=aA.size;have z3:=ae.size;refine OJ O O (pap R0 PV O (by decide) O O (cL.ext aA) eg.rd (by intro c hc;simp at hc;subst hc;rfl) (by omega) (by omega)) ?_;rintro u5 w5 ⟨gh,aj,qz,-⟩;refine OV O$ Oz$ R6 O$ PS O$ OV O ?_
        exact(ih ((u5,ls++[i]),v+1) _ ⟨by show v+1<=g.length;omega,by simp[gj],λj x hj=>by
          by_cases e:j<ls.length
          ·rw[List.getElem?_append_left e] at hj;exact ip j x hj
          ·rw[List.getElem?_append_right (by omega)] at hj
           have e3:j-ls.length=0:=by
            rcases Nat.eq_zero_or_pos (j-ls.length) with e| e
            ·exact e
            ·rw[List.getElem?_eq_none (by simp;omega)] at hj;cases hj
           rw[e3] at hj;cases hj;rw[show j=v by omega]
           exact io,by
          show Sl w5 u5 _ 1 (v+1) ((ls++[i]).map _);rw[List.map_append]
          exact gh,λb hb=>by
          rcases qz b hb with e| e
          ·exact pY b e
          ·omega,(ae.trans aA).It aj λb e=>pY b e⟩ (by show g.length-(v+1)<g.length-v;omega)).qb
    ·have fg:v=g.length:=by omega
     subst fg
     obtain⟨rb,rc,rfl⟩:∃b c,u= .slice (some ⟨b,0,none⟩) g.length c:=by
      rcases cL.shape with⟨-,e⟩|⟨b,c,e,-⟩
      ·omega
      ·exact⟨b,c,e⟩
     refine OO O$ Pn O$ OV O$ OB func11 O ?_;exact⟨_,rfl,rb,rc,ls,rfl,gj,ip,cL,hx.trans ae⟩
end
abbrev Wd.x (W:Wd)(XX:Nat->Prop):Nat->Prop:=λb=>XX b/\b≠W.G.rb/\b≠W.T.rb
def WdM.gw2 {W:Wd}{g:List (List Nat)}{XX:Nat->Prop}{w:World}(h:WdM W g XX w):W2 W.G W.T W.Q W.txt W.K (W.x XX) w:=by
 obtain⟨r1,r2,r3,r4,r5,r6,r7⟩:=h.rb
 obtain⟨⟨a1,a2⟩,⟨a3,a4⟩,⟨a5,a6⟩,a7,a8⟩:=h.hg.xk
 obtain⟨⟨c1,c2⟩,⟨c3,c4⟩,⟨c5,c6⟩,c7,c8⟩:=h.ht.xk
 refine⟨h.hg.less (λb e=>?_) ⟨.inl ⟨a1,a2,r4.symm⟩,.inl ⟨a3,a4,r5.symm⟩,.inl ⟨a5,a6,c6⟩,.inl ⟨a7,a8,c8⟩⟩,h.ht.less (λb e=>?_) ⟨.inl ⟨c1,r6.symm,c2⟩,.inl ⟨c3,r7.symm,c4⟩,.inl ⟨a5,a6,c6⟩,.inl ⟨a7,a8,c8⟩⟩,⟨a1,a2,r4.symm⟩,⟨a3,a4,r5.symm⟩,⟨c1,r6.symm,c2⟩,⟨c3,r7.symm,c4⟩,⟨a5,a6,c6⟩,⟨a7,a8,c8⟩⟩
 ·rcases e with e| e
  ·exact⟨e.1,e.2.1⟩
  ·rw[e];exact⟨r2,λe=>r3 e.symm⟩
 ·rcases e with e| e
  ·exact⟨e.1,e.2.2⟩
  ·rw[e];exact⟨r1,r3⟩
theorem z5s.least {g:List (List Nat)}{k:Nat}(h:z5s g (Qr g) k)(ax:Rh g)(h1:1<=g.length):(Vf g (Qr g) k).label.length=g.length/\∀v,v<g.length->∃x,(Vf g (Qr g) k).label[v]? =some x/\Wx g v x:=by
 obtain⟨b,-,hj⟩:=z7m ax h1 (λu v=>z2M ax) k h.f
 exact⟨hj.i.ln,λv hv=>hj.end_ h.d hv⟩
def ZJ {W:Wd}{g:List (List Nat)}{txt:Int->OI}{K:Nat}{X:Nat->Prop}{w:World}(h:W2 W.G W.T W.Q txt K X w)(hK:K<=500000000000)(ay:W.G.g=g)(Fo:W.T.g=Qr g)(dH:Pre W.Q.L W.a)(ha:W.a<=146)(hL:W.Q.L.length=200)(Oy:W.G.st+W.G.len<=W.T.st)(s6:W.T.st+W.T.len<=W.a)(ax:Rh g)(h1:1<=g.length)(eE:g.length<=40):
  Pm prog 10 [.agg #[ptr W.d 0,ptr W.Q.s 0,ptr W.G.k 0,ptr W.T.k 0,I ((200-W.a:Nat):Int)]] w λv w'=>∃(k b c:Nat) (txt':Int->OI) (K':Nat),v= .tuple #[.slice (some ⟨b,0,none⟩) g.length c,I (k:Int)]/\1<=k/\z5s g (Qr g) k/\Sl w' (.slice (some ⟨b,0,none⟩) g.length c) 39 1 g.length ((Vf g (Qr g) k).label.map OY)/\W2 W.G W.T W.Q txt' K' (λj=>X j\/j=b) w'/\K'<=K+20000000/\w.heap.size<=b/\(∀y:Int,y<(W.a:Int)->txt' y=txt y)/\Kp (λb=>¬X b) w w':=by
 subst ay
 have:=z5W (d:=W.d) h hK h1 eE ax Fo dH (by omega) s6 ha hL
 exact this
abbrev g3:List (List Nat):=[[1],[0],[0]]
def zec:Rh g3:=⟨λl hl=>by
 simp only[List.mem_cons,List.not_mem_nil,or_false] at hl
 rcases hl with rfl|rfl|rfl<;>exact⟨by decide,by decide⟩,by decide,by decide⟩
def zfV:z5s g3 (Qr g3) 6:=⟨by decide,by decide⟩
theorem zfo:(Vf g3 (Qr g3) 6).label=[0,0,2]:=by decide
def z4G {w:World}(hG:OP w 1 (Sg .gamma) 294)(hU:OP w 2 (Sg .unary) 294):Pm prog 9 [] w λv w'=>v= .bool true/\Ext w w':=by
 refine py (e:=[]) func9 O ntmps9 O O$ qN O$ QS O$ OJ O O (XZ (cs:=[_]) (zs:=[Value.int .u32 0]) Pu P6 O (by kernel_rfl) O O O (by decide)) ?_
 rintro _ w1 ⟨b1,rfl,⟨bL,ad,ai⟩,jZ⟩
 refine OJ O O (XZ (cs:=[_]) (zs:=[Value.int .u32 0]) Pu P6 O (by kernel_rfl) O O O (by decide)) ?_
 rintro _ w2 ⟨b2,rfl,⟨bN,ae,ak⟩,cL⟩
 refine OJ O O (XZ (cs:=[_]) (zs:=[Value.int .u32 0]) Pu P6 O (by kernel_rfl) O O O (by decide)) ?_
 rintro _ w3 ⟨b3,rfl,⟨dG,ah,ar⟩,da⟩
 refine OJ O O (XZ (cs:=[_,_,_]) (zs:=[Value.slice none 0 0,Value.slice none 0 0,Value.slice none 0 0]) WQ Tz O (by kernel_rfl) O O O (by decide)) ?_
 rintro _ w4 ⟨b4,rfl,⟨fZ,aA,aK⟩,eg⟩
 have jX:GrM w4 (.slice (some ⟨b4,0,none⟩) 3 3) g3:=by
  refine⟨⟨_,eg.rd,λi l hl=>?_⟩⟩
  match i,hl with
  | 0, hl =>
    cases hl
    exact⟨_,_,rfl,Nat.le_refl _,((jZ.rd.ext ae).ext ah).ext aA⟩
  | 1, hl =>
    cases hl
    exact⟨_,_,rfl,Nat.le_refl _,(cL.rd.ext ah).ext aA⟩
  | 2, hl =>
    cases hl
    exact⟨_,_,rfl,Nat.le_refl _,da.rd.ext aA⟩
  |i+3,hl=>cases hl
 have cF:=((ad.trans ae).trans ah).trans aA
 have z4:=cF.size
 refine P5 cf8 O (z7y (g:=g3) zec (by decide) (by decide) jX (cF.OA hG) (cF.OA hU) 1 0 (by decide) (by decide)) ?_
 rintro _ w5 ⟨W,XX,rfl,hW,aU,eH⟩
 have bS:=cF.trans aU
 have z5:=aU.size
 refine ON O$ SU O$ OJ O O (Ry (cs:=[_,_,_,_,_]) z2d O) ?_
 rintro _ w6 ⟨b6,rfl,nN,aR,aT⟩
 have z6:=aR.size
 refine OT O (PG (news:=W.v) z2d O O O O aT (by simp)) ?_
 rintro w7 ⟨bO,aB⟩
 have jk:OP w7 b6 [ptr W.d 0,ptr W.Q.s 0,ptr W.G.k 0,ptr W.T.k 0,I ((200-W.a:Nat):Int)] 30:=bO
 have i8:Ext w5 w7:=aR.It aB λb e=>by omega
 have h7:=hW.gw2.grow i8 (λj e=> .inl e) (λ_ e=>e)
 have Ns:=hW.K
 refine OV O$ PK O$ qV ((RZ O)) ?_
 rw[show(!true)=false from rfl]
 refine Qg O$ qN O$ qV (Pp U30 O z2d O (OP.cells (n:=5) jk (news:=[_,_,_,_,_]) O) O)$ P5 zjn O (ZJ h7 (by omega) hW.gg hW.tg hW.pre hW.a hW.L hW.gs hW.ts zec (by decide) (by decide)) ?_
 rintro _ w8 ⟨k,b,c,txt8,K8,rfl,az,hE,dO,-,-,ja,-,aL⟩
 have aM:k=6:=hE.eq zfV
 subst aM
 rw[zfo] at dO
 have lZ:g3.length=3:=rfl
 rw[lZ] at dO⊢
 have c0:=PU dO.rd (i:=0) (v:=OY 0) O
 have c1:=PU dO.rd (i:=1) (v:=OY 0) O
 have c2:=PU dO.rd (i:=2) (v:=OY 2) O
 refine ON O$ SU O$ SA O$ QW O$ QB O$ Rz$ Pa O$ Rs U34 O$ Rg O$ Rz$ QX O$ Pa O$ qV (PR U34 Tv O O (by omega))$ qV (Ps Rt O O c0) ?_
 refine Rg O$ Rz$ QX O$ Pa O$ qV (PR U34 Tv O O (by omega))$ qV (Ps Rt O O c1)$ Rg O$ Rz$ QX O$ Pa O$ qV (PR U34 Tv O O (by omega))$ qV (Ps Rt O O c2)$ Rg O$ Rz ?_
 refine QX O$ OV O$ Po.qb (e:=[(0,_)]) ?_
 refine OB func9 O (⟨_,rfl,rfl,(bS.trans i8).It aL λb e=>?_⟩)
 rcases Nat.lt_or_ge b w.heap.size with h| h
 ·exact absurd (eH b (by omega)) e
 ·exact h
def z9d {g:List (List Nat)}{v x y:Nat}(h1:Wx g v x)(h2:Wx g v y):x=y:=Nat.le_antisymm (h1.2 y h2.1) (h2.2 x h1.1)
def mutual_ret {w:World}(hG:OP w 1 (Sg .gamma) 294)(hU:OP w 2 (Sg .unary) 294)(n fr fo:Int)(hn:JIq n)(jU:JIq fr)(vy:JIq fo){ea:Option Addr}{ec:Nat}{es:List (Nat×Nat)}(uy:es.length<=9000000000000000000)(hE:EdR w ea es):Pm prog 3 [I n,.slice ea es.length ec,I fr,I fo] w λv w'=>v= .bool true/\Ext w w':=by
 refine py (e:=[(0,_),(1,_),(2,_),(3,_)]) func3 O ntmps3 O O$ qN O$ QW O$ P5 cf7 O (z3v n hn _) ?_
 rintro _ w ⟨m,rfl,pS,eB,rfl⟩
 refine ON O$ P5 cf6 O (zam pS eB uy hE) ?_
 rintro _ w1 ⟨g,bg,rfl,jT,ax,iA,ad⟩
 have B9:=iA.gr
 have bh:1<=g.length:=by omega
 have ij:g.length<=40:=by omega
 refine QS O$ Pa O$ ON O$ P5 cf8 O (z7y ax bh ij B9 (ad.OA hG) (ad.OA hU) fr fo jU vy) ?_
 rintro _ w5 ⟨W,XX,rfl,hW,aU,eH⟩
 have z5:=aU.size
 refine ON O$ SU O$ OJ O O (Ry (cs:=[_,_,_,_,_]) z2d O) ?_
 rintro _ w6 ⟨b6,rfl,nN,aR,aT⟩
 have z6:=aR.size
 refine OT O (PG (news:=W.v) z2d O O O O aT (by simp)) ?_
 rintro w7 ⟨bO,aB⟩
 have jk:OP w7 b6 [ptr W.d 0,ptr W.Q.s 0,ptr W.G.k 0,ptr W.T.k 0,I ((200-W.a:Nat):Int)] 30:=bO
 have l7:=bO.lt
 have z7:=aB.size
 have i8:Ext w5 w7:=aR.It aB λb e=>by omega
 have dq:=aU.trans i8
 have Ns:=hW.K
 refine OV O$ PK O$ qV ((RZ O)) ?_
 rw[show(!true)=false from rfl]
 refine ON O$ P5 cf9 O (z4G (dq.OA (ad.OA hG)) (dq.OA (ad.OA hU))) ?_
 rintro _ w8 ⟨rfl,cT⟩
 refine qV ((RZ O)) ?_
 rw[show(!true)=false from rfl]
 have cj:=cT.OA jk
 obtain⟨X,hX⟩:∃X:Nat->Prop,(λb=>W.x XX b\/b=b6)=X:=⟨_,rfl⟩
 have Nt:∀b,b<w1.heap.size->X b:=λb hb=>by rw[<-hX];exact .inl (eH b hb)
 have z8:=cT.size
 have h8:W2 W.G W.T W.Q W.txt W.K X w8:=hW.gw2.grow (i8.trans cT) (λj e=>by rw[<-hX] at e;exact e.imp id λe=>by omega) (λj e=>by rw[<-hX];exact .inl e)
 refine PM O$ OC$ Po.qb (e:=[(8,_),(9,_),(10,_),(32,_)]) ?_
 refine SH O$ qN O$ qV (Pp U30 O z2d O (OP.cells (n:=5) cj (news:=[_,_,_,_,_]) O) O)$ P5 zjn O (ZJ h8 (by omega) hW.gg hW.tg hW.pre hW.a hW.L hW.gs hW.ts ax bh ij) ?_
 rintro _ w9 ⟨k,b,c,txt9,K9,rfl,az,wM,kz,-,-,jb,-,aw⟩
 have gF:Ext w1 w9:=(dq.trans cT).It aw λb e=>by
  rcases Nat.lt_or_ge b w1.heap.size with h| h
  ·exact absurd (Nt b h) e
  ·exact h
 obtain⟨eP,io⟩:=wM.least ax bh
 generalize (Vf g (Qr g) k).label=xs at kz eP io
 obtain⟨gb,go,gc,km,Gw⟩:=(B9.ext gF).r bh
 cases km
 refine ON O$ SU O$ SA O$ QW O$ P5 zkl O (z4a ax bh Gw) ?_
 rintro _ w10 ⟨rb,rc,ls,rfl,Nu,ip,Nv,bJ⟩
 have bZ:=kz.ext bJ
 refine OV O$ PK O$ Rg O$ PH$ Pa O$ Rs U34 O$ ON O$ Rs R0 O$ QE O$ PH$ PM O$ Qg O$ An$ Qx O ?_
 refine OE$ Rr (α:=Nat) (0) (λi=>[(9,.slice (some ⟨bg,0,none⟩) g.length g.length),(12,.slice (some ⟨b,0,none⟩) g.length c),(14,.slice (some ⟨rb,0,none⟩) g.length rc),(15,I (i:Int))]) (λi w'=>i<=g.length/\Ext w10 w') (λi=>g.length-i) ?hI ?hround
 case hI=>exact⟨Nat.zero_le _,Ext.refl _⟩
 case hround=>
  rintro i w11 ⟨hi,aV⟩ ih;have nT:=bZ.ext aV;have Ba:=Nv.ext aV
  try dsimp only
  refine An$ Qt O$ Rs WQ O$ Qw O$ OC$ OQ O (λh0=>?_)$ λh0=>?_
  ·have ao:i<g.length:=by omega
   obtain⟨x,hx,Jl⟩:=io i ao;obtain⟨y,hy⟩:∃y,ls[i]? =some y:=⟨_,List.getElem?_eq_getElem (by omega)⟩;have BU:y=x:=z9d (ip i y hy) Jl;subst BU;have JC:y<=i:=Jl.2 i .refl;have cx:=PU nT.rd (i:=i) (v:=OY y) (by rw[List.getElem?_map,hx];rfl);have cy:=PU Ba.rd (i:=i) (v:=I (y:Int)) (by rw[List.getElem?_map,hy];rfl);refine OD$ QA$ An ?_;have hg:=Ext.P4 w11;refine QV (λw'=>Ext w11 w') O$ OZ 0 O O (hg)$ OZ 1 O O (hg)$ OG 2 O (PR U34 Tv O O (by omega)) hg$ OZ 4 O O (hg)$ OZ 5 O O (hg)$ OG 6 O (PR R0 PV O O (by omega)) hg$ qT 3 O (λ_ h=>Ps Rt O O (Qu h cx)) hg$ qT 7 O (λ_ h=>Ps U3 O O (Qu h cy)) hg$ OG 8 O ((Q7 O U3 Rt (by omega))) hg$ OG 9 O (yne O O) hg$ TD$ qE$ SH O ?_;refine Oz$ R6 O$ PS O$ OV O ?_;exact(ih (i+1) _ ⟨by omega,aV.trans hg⟩ (by omega)).qb
  ·refine OO O$ Qx O$ OB func3 O ?_;exact⟨_,rfl,rfl,ad.trans (gF.trans (bJ.trans aV))⟩
end Go.Proofs.YtffbidffdbpcoaaGreatDoor
namespace Go.Proofs.YtffbidffdbpcoaaGreatDoor
open Go Go.ChangeShapes Go.WideShapes Go.ChangeAt Go.RowKit Go.Proofs.Tryz
def Z9 (P:Program)(ts:List TypeId):Bool:=ts.all λt=>P.readableRec t&&decide (t<P.types.size)
def Xv {H:Type}{enc:TypeId×Value->H}{P:Program}(hl:laidOutB P=true){W W':World}(hb:Below W.heap.size W W'):
  ∀ {ts : List TypeId} {vs : List Value} {ds : List (DataW H)} {ps : List MemPlace}, Z9 P ts = true -> DataW.TrodAll enc P W 0 (λ_ => true) true ts vs ds ps ->
    DataW.TrodAll enc P W' 0 (λb=>decide (b<W.heap.size)) true ts vs ds ps
 |[],[],[],_,_,h=>h
 | t :: ts, v :: vs, d :: ds, _, hr, h => by
   obtain⟨p,q,h1,h2,rfl⟩:=h;simp only[Z9,List.all_cons,Bool.and_eq_true,decide_eq_true_eq] at hr
   exact⟨p,q,Below.trod hl hr.1.1 hr.1.2 h1 hb (by obtain⟨m,hm⟩:=h1;exact DataW.trod_lt m _ _ _ hm),Xv hl hb hr.2 h2,rfl⟩
 |[],[],_::_,_,_,h=>h.elim
 |[],_::_,_,_,_,h=>h.elim
 |_::_,[],_,_,_,h=>h.elim
 |_::_,_::_,[],_,_,h=>h.elim
def z06 {H:Type}{enc:TypeId×Value->H}{P:Program}{W:World}{base:Nat}{spare:Nat->Bool}{held:Bool}:
  ∀{ts:List TypeId} {vs:List Value} {ds:List (DataW H)} {ps:List MemPlace},DataW.TrodAll enc P W base spare held ts vs ds ps->ds.length=ts.length
 |[],[],[],_,_=>rfl
 | t :: ts, v :: vs, d :: ds, _, h => by
   obtain⟨p,q,h1,h2,rfl⟩:=h
   simpa using z06 h2
 |[],[],_::_,_,h=>h.elim
 |[],_::_,_,_,h=>h.elim
 |_::_,[],_,_,h=>h.elim
 |_::_,_::_,[],_,h=>h.elim
def own:ownKnob prog.godebug=none:=by kernel_rfl
def laidOut:laidOutB prog=true:=by kernel_rfl
open Go.Deep
section
variable {H:Type}{enc:TypeId×Value->H}{W:World}{sp:Nat->Bool}
def zbH (n:Int)(h:(Lit.int .u32 n).wf=true):Value.int .u32 n=Px n.toNat/\n.toNat<4294967296:=by
 simp[Lit.wf,IntKind.min,IntKind.max,IntKind.signed,IntKind.bits] at h
 exact⟨by unfold Px;congr;omega,by omega⟩
def i64_in (n:Int)(h:(Lit.int .i64 n).wf=true):JIq n:=by
 simp[Lit.wf,IntKind.min,IntKind.max,IntKind.signed,IntKind.bits] at h;omega
def z9P {w:World}{b off:Nat}{spot:Option Nat}{v:Value}(h:w.cell? ⟨b,off,spot⟩=some v):spot=none:=by
 unfold World.cell? at h
 split at h
 ·cases spot with
  |none=>rfl
  |some s=>simp at h
 ·cases h
def open_edges {fuel:Nat}{v:Value}{x:DataW H×List MemPlace}(h:DataW.trod enc prog W 0 sp true fuel 22 [v]=some x)(hw:∀n∈x.1.weights prog 22,n<=reachBytes):∃(ea:Option Addr) (ec:Nat) (es:List (Nat×Nat)),v= .slice ea es.length ec/\EdR W ea es/\es.length<=9000000000000000000:=by
 rcases open_slice_pairs U22 U61 (by kernel_rfl) O O (by kernel_rfl) (by kernel_rfl) h with⟨hv,hx⟩|⟨a,len,cap,m,n,V0,V1,D0,D1,P0,P1,hv,-,hl,hm,BC,hx,px⟩
 ·cases hv;exact⟨none,0,[],rfl,λi e he=>by simp at he,by simp⟩
 ·cases hv;have fh:maxLen=9223372036854775807:=rfl;have iB:len<=m:=by rw[BC];split<;>omega
  have hk:∀i,i<len->∃e:Nat×Nat,e.1<4294967296/\e.2<4294967296/\W.cell? (a.add (i*2))=some (Px e.1)/\W.cell? (a.add (i*2+1))=some (Px e.2):=λi hi=>by
   obtain⟨c0,c1,h0,h1⟩:=px i (by omega);obtain⟨n0,e0,-,f0⟩:=DataW.trod_int QR h0;obtain⟨n1,e1,-,f1⟩:=DataW.trod_int QR h1;have e0:V0 i= .int .u32 n0:=by simpa using e0
   have e1:V1 i= .int .u32 n1:=by simpa using e1
   obtain⟨q0,b0⟩:=zbH n0 f0;obtain⟨q1,b1⟩:=zbH n1 f1;exact⟨(n0.toNat,n1.toNat),b0,b1,by rw[c0,e0,q0],by rw[c1,e1,q1]⟩
  obtain⟨E,hE⟩:∃E:Nat->Nat×Nat,∀i,i<len->(E i).1<4294967296/\(E i).2<4294967296/\W.cell? (a.add (i*2))=some (Px (E i).1)/\W.cell? (a.add (i*2+1))=some (Px (E i).2):=
   choose_lt (α:=Nat×Nat) (n:=len) (p:=λi e=>e.1<4294967296/\e.2<4294967296/\W.cell? (a.add (i*2))=some (Px e.1)/\W.cell? (a.add (i*2+1))=some (Px e.2)) hk
  refine⟨some a,cap,(List.range len).map E,by simp,λi e he=>?_,?_⟩
  ·rw[List.getElem?_map] at he;rcases Nat.lt_or_ge i len with hi|hi
   ·rw[List.getElem?_range hi] at he;obtain rfl:=Rx he;obtain⟨g1,g2,g3,g4⟩:=hE i hi;obtain⟨b,off,spot⟩:=a;have h3:=(hE 0 (by omega)).2.2.1;rw[Nat.zero_mul] at h3;simp only[Addr.add,if_true] at h3;obtain rfl:=z9P h3;rw[Rk] at g3 g4;exact⟨g1,g2,b,off,rfl,g3,by rw[Nat.add_assoc];exact g4⟩
   ·rw[List.getElem?_eq_none (by simpa using hi)] at he;cases he
  ·have pZ:=hw ((len+(m-len))*8) (by rw[hx];simp[DataW.weights,U22,show prog.bytesOf 61=8 by kernel_rfl]);simp[reachBytes] at pZ;simp;omega
end
def law_lifted_tied {H:Type}{enc:TypeId×Value->H}{C:Checked}{os:Os}{f:FuncId}{fn:Func}{s:ChangeSpec}{t:TypeId}{ts:List TypeId}{laid:List (String×DataW Unit)}
  (own:ownKnob C.prog.godebug=none) (started:os.Started) (hl:laidOutB C.prog=true) (noInit:C.prog.inits.idxOf? f=none) (hfn:C.prog.funcs[f]? =some fn)
  (hts:fn.params.toList=ts) (hrd:Z9 C.prog ts=true) (hrt:fn.resultTypes=#[t]) (hb:C.prog.underlying t=some .bool) (hsv:s.vars=[])
  (hpl:(laid.all λx=>x.2.handleName?.isNone)=true)
  (hspec:∀ds:List (DataW H),ds.length=ts.length->s.fn H ds={results:=[.lit (.bool true)],args:=ds})
  (witness:∃(w:World) (tape:Tape) (i:Input),w.os=os/\(w.forCall tape i).Shaped C.prog/\i.vars=[]/\Input.okWide C.prog (w.forCall tape i) .any w.heap.size f i/\
   ((s.pre enc C.prog fn [] false (w.forCall tape i).memory i.args/\laidMetH C.prog laid (w.forCall tape i).memory)/\sizedMet enc C.prog fn (OpenSpec.ofChange s) false (w.forCall tape i).memory i.args)/\({}:Assume).holds C.prog (lone (Frame.enter C.prog f i.args .normal) [] (w.forCall tape i)))
  (hret:∀(W:World) (base:Nat) (args:List Value) (ds:List (DataW H)) (ps:List MemPlace),W.ShapedOpen C.prog->laidMet C.prog laid W->
   (∀(j:Nat) t v,ts[j]? =some t->args[j]? =some v->Value.okWide C.prog W .any base t v)->
   DataW.TrodAll enc C.prog W 0 (λ_=>true) true ts args ds ps->W.noneFrozen ps->
   (DataW.weightsEach C.prog ts ds).all (·<=reachBytes)=true->
   Pm C.prog f args W λv w'=>v= .bool true/\Ext W w'):
  ReturnsInHanded {} C os f .any (λw args=>(s.pre enc C.prog fn [] false w args/\laidMetH C.prog laid w)/\sizedMet enc C.prog fn (OpenSpec.ofChange s) false w args) (s.post enc C.prog fn false true false false):=by
 refine returnsInHanded_of_calls own started noInit witness ?_
 intro w tape i _ hsh _ hok hpre hholds
 obtain⟨_,_,_,fn',hfn',_,_,_,_,hval⟩:=hok
 have e:fn'=fn:=Option.some.inj (hfn'.symm.trans hfn)
 subst e
 obtain⟨⟨⟨ds,gs,before,hw,hc⟩,hx⟩,hz⟩:=hpre
 have hW:=DataW.Whole.of_heap (w':=w.forCall tape i) (by rfl) hw
 have hW':=hW
 have hsz0:(DataW.weightsEach C.prog (fn'.params.toList++s.plain.varTypes C.prog) (ds++gs)).all (·<=reachBytes)=true:=hz.weights hw
 obtain⟨p,q,hA,hV,rfl,hfz,_⟩:=hW
 rw[hsv] at hV
 obtain⟨rfl,rfl⟩:=trodVars_none hV
 rw[hts] at hA
 have hlen:=z06 hA
 have hsz:(DataW.weightsEach C.prog ts ds).all (·<=reachBytes)=true:=by
  have hv:s.plain.varTypes C.prog=[]:=by simp[ChangeSpec.plain,DataSpec.varTypes,hsv]
  rw[hts,hv,List.append_nil,List.append_nil] at hsz0;exact hsz0
 have hL:laidMet C.prog laid (w.forCall tape i):=by
  rw[MakeChecks.laidMetH_plain _ _ _ hpl] at hx;exact hx.of_heap (by rfl)
 have hr:=hret _ w.heap.size i.args.toList ds p hsh hL (λj t v h1 h2=>hval j t v (by rw[<-hts] at h1;simpa using h1) (by simpa using h2)) hA (by rw[List.append_nil] at hfz;exact hfz) hsz
 unfold Pm at hr;rw[Array.toArray_toList] at hr
 refine Calls.mono hr λx W' ⟨v,hx,hv,hext⟩=>?_
 subst hx;subst hv
 have bel:=hext.below
 refine ChangeSpec.post_blind ⟨ds,[],p++[],[],p,[],hW',?_,?_,?_,bel.frame _,λh=>by cases h⟩
 ·rw[List.append_nil,hspec ds hlen,hrt];exact trodAll_mk1 (shut_bool hb _)
 ·rw[List.append_nil,hspec ds hlen,hts];exact Xv hl bel hrd hA
 ·rw[hsv,List.append_nil,hspec ds hlen]
  rfl
def pair_cells {P:Program}{W:World}{t fuel:Nat}{cs:Array Value}{f0 f1:Field}{ka kb:IntKind}{a b:Int}{p:List MemPlace}(hs:P.underlying t=some (.struct #[f0,f1]))(hc:P.cellsOf t=2)(o0:f0.offset=0)(o1:f1.offset=1)
  (c0:P.cellsOf f0.type=1) (c1:P.cellsOf f1.type=1) (u0:P.underlying f0.type=some (.int ka)) (u1:P.underlying f1.type=some (.int kb))
  (hd:DataW.trod (λ_=>()) P W 0 (λ_=>true) false fuel t cs.toList=some (.agg [.lit (.int ka a),.lit (.int kb b)],p)):cs.toList=[.int ka a,.int kb b]:=by
 obtain⟨y0,y1,n,hx,hl,h0,h1⟩:=trod_struct2 hs hd
 obtain⟨v0,e0,rfl,-⟩:=DataW.trod_int u0 h0
 obtain⟨v1,e1,rfl,-⟩:=DataW.trod_int u1 h1
 rw[hc] at hl
 rw[o0,c0] at e0
 rw[o1,c1] at e1
 simp at hx
 obtain⟨⟨rfl,rfl⟩,-⟩:=hx
 match hcs:cs.toList,hl with
 | [x, y], _ =>
   rw[hcs] at e0 e1;simp at e0 e1;rw[e0,e1]
def z8q {P:Program}{W:World}{n:String}{g T:Nat}{cs:Array Value}{l:List Value}(hW:W.ShapedOpen P)(hgs:g<P.globals.size)(hz:(((begin P (λ_ _=>0) default).world.heap[g]?).bind Obj.row?).map (·.2)=some T)(hg:P.globalNamed n=some g)(hv:W.var? P n=some cs)(hcs:cs.toList=l):OP W g l T:=by
 cases hr:((begin P (λ_ _=>0) default).world.heap[g]?).bind Obj.row? with
 |none=>rw[hr] at hz;cases hz
 | some x =>
   obtain⟨z,t⟩:=x;rw[hr] at hz;obtain rfl:t=T:=Option.some.inj hz;obtain⟨c,hh,-,-⟩:=hW.1 g z t hgs hr;simp only[World.var?,hg,Option.bind_some,hh] at hv;have hc:c=cs:=by simpa using hv
   subst hc;refine⟨(0,0),by rw[hh,<-hcs],λi _ e=>by simp at e⟩
def laid_two {W:World}{laid:List (String×DataW Unit)}(hlaid:laid=[("wattle/list.gamma",.agg [.lit (.int .u8 1),.lit (.int .u64 0)]),("wattle/list.unary",.agg [.lit (.int .u8 0),.lit (.int .u64 0)])])(hW:W.ShapedOpen prog)(h:laidMet prog laid W):OP W 1 [.int .u8 1,.int .u64 0] 294/\OP W 2 [.int .u8 0,.int .u64 0] 294:=by
 subst hlaid
 obtain⟨ps,hL,-,hB⟩:=h
 obtain⟨g0,t0,cs0,fuel0,p0,q0,hg0,ht0,hv0,hd0,hL,hps⟩:=hL
 obtain⟨g1,t1,cs1,fuel1,p1,q1,hg1,ht1,hv1,hd1,hL,hqs⟩:=hL
 obtain rfl:=Option.some.inj ((show prog.globalNamed "wattle/list.gamma"=some 1 by kernel_rfl).symm.trans hg0)
 obtain rfl:=Option.some.inj ((show prog.globalNamed "wattle/list.unary"=some 2 by kernel_rfl).symm.trans hg1)
 obtain rfl:=Option.some.inj ((show(prog.globals[1]?).map (·.type)=some 294 by kernel_rfl).symm.trans ht0)
 obtain rfl:=Option.some.inj ((show(prog.globals[2]?).map (·.type)=some 294 by kernel_rfl).symm.trans ht1)
 have e0:=pair_cells underlying294 (by kernel_rfl) O O (by kernel_rfl) (by kernel_rfl) underlying5 underlying39 hd0
 have e1:=pair_cells underlying294 (by kernel_rfl) O O (by kernel_rfl) (by kernel_rfl) underlying5 underlying39 hd1
 exact⟨z8q hW (show 1<prog.globals.size from of_decide_eq_true (by kernel_rfl)) (by kernel_rfl) hg0 hv0 e0,z8q hW (show 2<prog.globals.size from of_decide_eq_true (by kernel_rfl)) (by kernel_rfl) hg1 hv1 e1⟩
noncomputable def limWorld (os:Os):World:=
 let w0:=World.holding prog os ⟨#[],#[],[]⟩
 { w0 with heap := w0.heap.modify 1 fun
   | .cells _ t frozen=> .cells #[.int .u8 1,.int .u64 0] t frozen
   |o=>o}
end Go.Proofs.YtffbidffdbpcoaaGreatDoor
