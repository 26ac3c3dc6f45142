/- Merged by program. -/
import Derived.Test.YtpldpcjdjcgicaaGreatDoorBTp4
import Derived.WideLaws
set_option linter.all false
set_option maxRecDepth 1000000
set_option maxHeartbeats 16000000
namespace Go.Proofs.YtpldpcjdjcgicaaGreatDoor
open Go Go.RowKit
def Na (L:List (List Nat))(n r:Nat):List Nat:=if r=0 then [] else(L[n-r]?).getD []
def VT (p:MZ)(L:List (List Nat))(E:List (Nat×Nat))(n size:Nat)(e:Nat×Nat):Prop:=
 e=(0,0)\/(1<=e.1/\e.1<=p.Mh/\e.1<=n/\∃l e',L[n-e.1]? =some l/\E[n-e.1]? =some e'/\e.2=e'.2+1/\Qp p l.length size e'.2=true)
theorem zao {j n:Nat}(h1:j<n)(h2:n+1<=j+17):j%17≠n%17:=by omega
theorem PkM.add {w wA wB wC wD wE wF:World}{k:Nat}{p:MZ}{L:List (List Nat)}{E:List (Nat×Nat)}{bs bs':List Bool}{F F':Nat->Prop}{R:List (Value×Nat)}{wp ed b4:Nat}(h:PkM w k p L E bs F R wp ed)(kO:Ext w wA)(iO:Kp F wA wB)(zw:UH wB wp bs' F')(pj:∀i,F' i->F i\/wA.heap.size<=i)
  {a':Option Addr} {cp' ch r:Nat} {succ:List Nat} (hs:Mw succ) (BN:Ext wB wC) (ug:Sl wC (.slice a' succ.length cp') 46 1 succ.length (succ.map Ms)) (sy:succ.length<=cp') (cE:∀g,(Value.slice a' succ.length cp').ownBlock=some g->wB.heap.size<=g)
  (fh:Kp (λi=>i=k) wC wD) (oc:Kp (λi=>i=k) wD wE) (sA:Kp (λi=>i=b4) wE wF) (eA:w.heap.size<=b4) (HT:b4<wA.heap.size) (BO:LX wF k (TJ p (R.set (L.length%17) (.slice a' succ.length cp',ch)) (L.length+1) wp (ed+succ.length)) 255):
  PkM wF k p (L++[succ]) (E++[(r,ch)]) bs' F' (R.set (L.length%17) (.slice a' succ.length cp',ch)) wp (ed+succ.length)/\Kp (λi=>F i\/i=k) w wF/\∀i,F' i->F i\/w.heap.size<=i:=by
 have lk:=h.LN.lt
 have zA:=kO.size
 have zB:=iO.size
 have jz:∀i,F i->i<w.heap.size:=λi hi=>h.wr.lt hi
 have na:∀i,F' i->i<wB.heap.size:=λi hi=>zw.lt hi
 have sB:¬F' k:=λe=>by rcases pj k e with e|e;exact h.nk e;omega
 have BP:¬F' b4:=λe=>by rcases pj b4 e with e|e;(have:=jz _ e;omega);omega
 have BQ:∀{v:Value} {n:Nat} {cs:List Value},Sl w v 46 1 n cs->(∀g,v.ownBlock=some g->¬F g/\g≠k)->Sl wF v 46 1 n cs:=λhS hg=>
  ((((((hS.ext kO).kp iO (λg e=>(hg g e).1)).ext BN).kp fh (λg e=>(hg g e).2)).kp oc (λg e=>(hg g e).2)).kp sA (λg e e'=>by have:=hS.lt e;omega))
 have HU:=((ug.kp fh (λg e e'=>by have:=cE g e;omega)).kp oc (λg e e'=>by have:=cE g e;omega)).kp sA (λg e e'=>by have:=cE g e;omega)
 refine⟨⟨by rw[List.length_append,List.length_singleton];exact BO,by rw[List.length_set];exact h.len,(((zw.ext BN).kp fh (λi hi e=>sB (e▸hi))).kp oc (λi hi e=>sB (e▸hi))).kp sA (λi hi e=>BP (e▸hi)),sB,by rw[List.length_append,List.length_append,h.el];rfl,λl hl=>?_,λj l e h1 h2 h3=>?_⟩,?_,λi hi=>?_⟩
 ·rcases List.mem_append.1 hl with hl|hl
  ·exact h.ok l hl
  ·rw[List.mem_singleton.1 hl];exact hs
 ·rw[List.length_append,List.length_singleton] at h3;rcases Nat.lt_or_ge j L.length with hj|hj
  ·rw[List.getElem?_append_left hj] at h1;rw[List.getElem?_append_left (by rw[h.el];exact hj)] at h2;obtain⟨a,cp,g1,g2,g3,g4⟩:=h.ring j l e h1 h2 (by omega);refine⟨a,cp,?_,g2,BQ g3 g4,λg hg=>⟨λe'=>?_,(g4 g hg).2⟩⟩
   ·rw[List.getElem?_set_ne (λe'=>zao hj (by omega) e'.symm)];exact g1
   ·rcases pj g e' with e'|e'
    ·exact(g4 g hg).1 e'
    ·have:=g3.lt hg;omega
  ·have BR:=(List.getElem?_eq_some_iff.1 h1).1;rw[List.length_append,List.length_singleton] at BR;have ej:j=L.length:=by omega
   subst ej;rw[List.getElem?_append_right (Nat.le_refl _),Nat.sub_self,List.getElem?_cons_zero] at h1;rw[List.getElem?_append_right (by rw[h.el];exact Nat.le_refl _),h.el,Nat.sub_self,List.getElem?_cons_zero] at h2;cases h1;cases h2;refine⟨a',cp',List.getElem?_set_self (by rw[h.len];exact Nat.mod_lt _ (by decide)),sy,HU,λg hg=>⟨λe'=>?_,λe'=>?_⟩⟩
   ·have:=cE g hg;have:=na g e';omega
   ·have:=cE g hg;omega
 ·exact((((kO.kp.trans (iO.LZ λi e=> .inl e)).trans BN.kp).trans (fh.LZ λi e=> .inr e)).trans (oc.LZ λi e=> .inr e)).LJ sA (λi e=> .inl (by omega))
 ·rcases pj i hi with e| e
  ·exact .inl e
  ·exact .inr (by omega)
theorem z4u {w:World}{k:Nat}{p:MZ}(hp:p.N4){L:List (List Nat)}{E:List (Nat×Nat)}{bs:List Bool}{F:Nat->Prop}{R:List (Value×Nat)}{wp ed:Nat}(h:PkM w k p L E bs F R wp ed)(hG:LX w 1 (OU .gamma) 298)(hU:LX w 2 (OU .unary) 298)(hL:L.length<65536)
  {a:Option Addr} {cp:Nat} {succ:List Nat} (hs:Mw succ) (kL:succ.length<=cp) (eg:Rd w (.slice a succ.length cp) 1 succ.length (succ.map Ms)) (zx:ed+succ.length<=1048576) (HV:∀g,0<succ.length->(Value.slice a succ.length cp).ownBlock=some g->¬F g/\g≠k)
  (ng:∀r,r<=p.Mh->bs.length+(Mf (NW p.list L.length succ (Na L L.length r) r)).length<=134217728):
  Mm Tryz.prog 98 [ptr k 0,.slice a succ.length cp] w λu w'=>∃(r least ch:Nat) (F':Nat->Prop) (R':List (Value×Nat)),u= .tuple #[I (r:Int),I (least:Int),I 0]/\VT p L E L.length succ.length (r,ch)/\
   PkM w' k p (L++[succ]) (E++[(r,ch)]) (bs++Mf (NW p.list L.length succ (Na L L.length r) r)) F' R' wp (ed+succ.length)/\Kp (λi=>F i\/i=k) w w'/\∀i,F' i->F i\/w.heap.size<=i:=by
 have vK:p.Mh<=16:=hp.1.1
 have lk:=h.LN.lt
 have lI:∀{w2:World},LX w2 k (TJ p R L.length wp ed) 255->∀j u,(Rz p)[j]? =some u->w2.cell? ⟨k,0+j,none⟩=some u:=λhB j u hj=>hB.cells (i:=0) (n:=5) (news:=Rz p) rfl j u hj
 refine It (e:=[(0,_),(1,_)]) Tryz.func98 rfl Tryz.ntmps98 rfl rfl (qN rfl (LV rfl rfl (NN rfl (cs:=[ptr k 0]) rfl) ?_))
 rintro _ w1 ⟨b2,rfl,bY,ad,am⟩
 refine LV rfl rfl (NN rfl (cs:=[.slice a succ.length cp]) rfl) ?_
 rintro _ w2 ⟨b3,rfl,en,af,aq⟩
 refine LV rfl rfl (O9 (cs:=[_]) MO rfl) ?_
 rintro _ w3 ⟨b4,rfl,eA,ah,aM⟩
 have z1:=ad.size
 have z2:=af.size
 have z3:=ah.size
 have lb2:=am.lt
 have lb3:=aq.lt
 have lb4:=aM.lt
 have cI:=(ad.trans af).trans ah
 have cA:=ah.LN (af.LN am)
 have df:=ah.LN aq
 have mZ:=cI.LN h.LN
 replace aM:LX w3 b4 [I ((0:Nat):Int)] 3:=aM
 refine M6 rfl (LU rfl (run_seq (LK (qN rfl (qV ((by first|exact LR Od rfl rfl cA rfl|exact LR Od rfl rfl df rfl)) ?_)))))
 refine qV (MU Od rfl rfl) (LU rfl (An rfl (qN rfl (qV ((by first|exact LR Od rfl rfl cA rfl|exact LR Od rfl rfl df rfl)) ?_))))
 refine Mp rfl (M0 UR rfl (M0 Rr rfl (qV (LR U3 rfl rfl mZ (z3b h.len)) (PQ rfl rfl (MC (LU rfl (An rfl (py (LL (qN rfl (qV ((by first|exact LR Od rfl rfl cA rfl|exact LR Od rfl rfl df rfl)) ?_)))))))))))
 refine Mp rfl (M0 UR rfl (M0 Rr rfl (qV (LR U3 rfl rfl mZ (z3b h.len)) (LV rfl rfl (O9 (cs:=[_]) MO rfl) ?_))))
 rintro _ w4 ⟨b7,rfl,kX,aC,bN⟩
 have z4:=aC.size
 have lb7:=bN.lt
 refine M1 rfl (NC MO rfl rfl rfl bN (by simp)) ?_
 rintro w5 ⟨gA,aj⟩
 replace gA:LX w5 b7 [I (L.length:Int)] 3:=gA
 have cm:Ext w3 w5:=aC.LJ aj (λi e=>by omega)
 have bC:=cI.trans cm
 have z5:=cm.size
 have z45:=aj.size
 have vP:=bC.LN h.LN
 have cF:=cm.LN cA
 have bT:=cm.LN df
 have aJ:=cm.LN aM
 have dS:=Ext.Ma w5
 refine LO (run_seq (MA (λe' w'=>∃b8 least,e'=[(2,ptr b2 0),(3,ptr b3 0),(4,ptr b4 0),(7,ptr b7 0),(8,ptr b8 0),(6,I 0)]/\Ext w5 w'/\w5.heap.size<=b8/\LX w' b8 [I ((least:Nat):Int)] 3) ?cu (λcu=>?cM)))
 case cu =>
  rintro e' w6 ⟨b8,least0,rfl,aN,jh,ce⟩;have z6:=aN.size;have lb8:=ce.lt;have ii:=bC.trans aN;have BS:=aN.LN vP;have bK:=aN.LN cF;have gZ:=aN.LN bT;have dm:=Ext.Ma w6;refine run_seq (LK (qN rfl (LM rfl (MY rfl rfl (LU rfl (An rfl (run_seq (NF (λw'=>Ext w6 w') rfl (qT 0 rfl (λ_ h=>(by first|exact LR Od rfl rfl (h.LN bK) rfl|exact LR Od rfl rfl (h.LN gZ) rfl)) dm ?_)))))))));refine LS 1 rfl (MS rfl) dm (LS 2 rfl (Mo Zx rfl) dm (qT 4 rfl (λ_ h=>(by first|exact LR Ml rfl rfl (h.LN bK) rfl|exact LR Ml rfl rfl (h.LN gZ) rfl)) dm ?_));refine LS 5 rfl (OZ Ml rfl) dm (qT 3 rfl (λ_ hS=>LR U3 rfl rfl (hS.LN BS) (zcQ h.len)) dm (LS 6 rfl (R9 rfl rfl (by omega)) dm (LS 7 rfl (UZ rfl rfl) dm (QG (LS 8 rfl (NK rfl) dm (qE (An rfl (py (LL (qN rfl ?_))))))))));have zg6:=dm.size;refine LV rfl rfl (O9 (cs:=[_,_]) N0 rfl) ?_;rintro _ w7 ⟨b9,rfl,o8,bQ,cB⟩;have lb9:=cB.lt;have fQ:=dm.trans bQ;have gt:=ii.trans fQ;have pn:=aN.trans fQ;have z7:=gt.size;have z67:=fQ.size;have BT:=gt.LN h.LN;have zg:AdM w7 k b2 b3 b7 b8 b4 b9 a succ.length cp L.length least0 0 (.slice none 0 0) 0:=⟨fQ.LN bK,fQ.LN gZ,pn.LN gA,fQ.LN ce,pn.LN aJ,cB⟩;have hd:b8≠b2/\b8≠b3/\b8≠b7/\b4≠b2/\b4≠b3/\b4≠b7/\b9≠b2/\b9≠b3/\b9≠b7/\b8≠b4/\b8≠b9/\b4≠b9:=by omega
  refine qM rfl (qV (ZU (first:=[]) (caps:=[.tmp 2,.tmp 3,.tmp 7,.tmp 8,.tmp 4,.tmp 9]) rfl rfl) (LU rfl (run_seq (qN rfl ?_))));have BU:=zg.c2;refine qV (LR Od rfl rfl BU rfl) (Mp rfl (M0 Tb rfl (M0 XC rfl (qV (LR U3 rfl rfl BT rfl) (LM rfl (LO (Mn.qb (e:=[(2,_),(3,_),(4,_),(6,_),(7,_),(8,_),(9,_),(10,_),(58,_),(59,_)]) ?_)))))));refine LK (Oe (α:=Nat) (0) (λi=>[(2,ptr b2 0),(3,ptr b3 0),(4,ptr b4 0),(7,ptr b7 0),(8,ptr b8 0),(9,ptr b9 0),(10,.func (.func 137) #[] #[ptr b2 0,ptr b3 0,ptr b7 0,ptr b8 0,ptr b4 0,ptr b9 0]),(58,I (p.Mh:Int)),(59,I (i:Int))]) (λi w'=>Ext w w'/\w7.heap.size<=w'.heap.size/\i<=p.Mh/\∃least ref v c,AdM w' k b2 b3 b7 b8 b4 b9 a succ.length cp L.length least ref v c/\Found p L E R succ.length ref v c) (λi=>p.Mh-i) ?hI ?hround)
  case hI=>exact⟨gt,Nat.le_refl _,Nat.zero_le _,_,_,_,_,zg,.inl ⟨rfl,rfl,rfl⟩⟩
  case hround=>
   rintro i wA ⟨kO,L2,hi,least,ref,v,c,hA,hF⟩ ih
   try dsimp only
   refine qN rfl (Nr rfl rfl (LO (run_seq (LY rfl (λh0=>?_) (λh0=>?_)))))
   ·refine py (run_seq (LK (qN rfl (LM rfl (LU rfl (LQ rfl (M4 rfl rfl (MK rfl rfl ?_))))))));rw[show(i:Int)+1=((i+1:Nat):Int) by omega];refine Nj rfl rfl (OC zbx rfl rfl) (z9e hp (h.ext kO) (kO.LN hG) (kO.LN hU) hL hs kL (eg.ext kO) hA hF hd (i+1) (by omega) (by omega)) ?_;rintro _ w9 ⟨rfl,aL,least',ref',v',c',qq,HW⟩;have z9:=aL.size;refine LO (LL (LQ rfl (MK rfl rfl (LM rfl (LO ?_)))));exact(ih (i+1) _ ⟨kO.LJ aL (λi hi=>by omega),by omega,by omega,_,_,_,_,qq,HW⟩ (by omega)).qb
   ·have cQ:∀b,w.heap.size<=b->¬F b:=λb hb e=>by have:=h.wr.lt e;omega
    have sC:=kO.LN h.LN
    have yZ:ref<=p.Mh/\(ref=0->Na L L.length ref=[])/\Mw (Na L L.length ref)/\(∃va vc,v= .slice va (Na L L.length ref).length vc/\(Na L L.length ref).length<=vc/\Rd wA (.slice va (Na L L.length ref).length vc) 1 (Na L L.length ref).length ((Na L L.length ref).map Ms))/\VT p L E L.length succ.length (ref,if 0<ref then c+1 else 0)/\c<=65536:=by
     rcases hF with⟨rfl,rfl,rfl⟩|⟨f1,f2,f3,f4,l,e,f5,f6,rfl,f8⟩
     ·refine⟨Nat.zero_le _,λ_=>rfl,⟨List.Pairwise.nil,λy h=>(by cases h)⟩,⟨none,0,rfl,Nat.zero_le _,RD⟩,.inl rfl,Nat.zero_le _⟩
     ·have jp:Na L L.length ref=l:=by unfold Na;rw[if_neg (by omega),f5];rfl
      obtain⟨va,vc,g1,g2,g3,g4⟩:=h.ring _ l e f5 f6 (by omega);rw[f4] at g1;have gv:v= .slice va l.length vc:=(Prod.mk.inj (NV g1)).1;have hb:=of_decide_eq_true f8;have HX:=hp.2.1;rw[jp];exact⟨f2,λe=>by omega,h.ok l (List.mem_of_getElem? f5),⟨va,vc,gv,g2,(g3.ext kO).rd⟩,.inr ⟨f1,f2,f3,l,e,f5,f6,by dsimp only;rw[if_pos (by omega)],f8⟩,by omega⟩
    obtain⟨cP,dx,c6,⟨va,vc,rfl,bD,bZ⟩,gD,HY⟩:=yZ;have BV:=ng ref cP
    generalize BW:Na L L.length ref=lr at dx c6 bD bZ BV hA
    have lq:=hA.c2;have mO:=hA.c3;have lJ:=hA.c7;have jU:=hA.c9;have jV:=hA.c4;have BX:=hA.c8;have jW:=Ext.Ma wA;refine LW rfl (run_seq (run_seq (NF (λw'=>Kp F wA w') rfl (qT 0 rfl (λ_ hS=>(by first|exact LR Od rfl rfl (hS.LN lq (cQ _ (by omega))) rfl|exact LR Od rfl rfl (hS.LN mO (cQ _ (by omega))) rfl|exact LR Od rfl rfl (hS.LN lJ (cQ _ (by omega))) rfl|exact LR Od rfl rfl (hS.LN jU (cQ _ (by omega))) rfl|exact LR Od rfl rfl (hS.LN jV (cQ _ (by omega))) rfl)) (jW.kp) ?_))));refine LS 1 rfl (MS rfl) (jW.kp) (LS 2 rfl (Mo Zv rfl) (jW.kp) (qT 4 rfl (λ_ hS=>(by first|exact LR U3 rfl rfl (hS.LN lq (cQ _ (by omega))) rfl|exact LR U3 rfl rfl (hS.LN mO (cQ _ (by omega))) rfl|exact LR U3 rfl rfl (hS.LN lJ (cQ _ (by omega))) rfl|exact LR U3 rfl rfl (hS.LN jU (cQ _ (by omega))) rfl|exact LR U3 rfl rfl (hS.LN jV (cQ _ (by omega))) rfl)) (jW.kp) ?_));refine qT 5 rfl (λ_ hS=>(by first|exact LR Ml rfl rfl (hS.LN lq (cQ _ (by omega))) rfl|exact LR Ml rfl rfl (hS.LN mO (cQ _ (by omega))) rfl|exact LR Ml rfl rfl (hS.LN lJ (cQ _ (by omega))) rfl|exact LR Ml rfl rfl (hS.LN jU (cQ _ (by omega))) rfl|exact LR Ml rfl rfl (hS.LN jV (cQ _ (by omega))) rfl)) (jW.kp) ?_;refine LS 6 rfl (Mo OP rfl) (jW.kp) (qT 7 rfl (λ_ hS=>(by first|exact LR Ml rfl rfl (hS.LN lq (cQ _ (by omega))) rfl|exact LR Ml rfl rfl (hS.LN mO (cQ _ (by omega))) rfl|exact LR Ml rfl rfl (hS.LN lJ (cQ _ (by omega))) rfl|exact LR Ml rfl rfl (hS.LN jU (cQ _ (by omega))) rfl|exact LR Ml rfl rfl (hS.LN jV (cQ _ (by omega))) rfl)) (jW.kp) ?_);refine qT 8 rfl (λ_ hS=>(by first|exact LR U3 rfl rfl (hS.LN lq (cQ _ (by omega))) rfl|exact LR U3 rfl rfl (hS.LN mO (cQ _ (by omega))) rfl|exact LR U3 rfl rfl (hS.LN lJ (cQ _ (by omega))) rfl|exact LR U3 rfl rfl (hS.LN jU (cQ _ (by omega))) rfl|exact LR U3 rfl rfl (hS.LN jV (cQ _ (by omega))) rfl)) (jW.kp) ?_;refine qT 9 rfl (λ_ hS=>(by first|exact LR Od rfl rfl (hS.LN lq (cQ _ (by omega))) rfl|exact LR Od rfl rfl (hS.LN mO (cQ _ (by omega))) rfl|exact LR Od rfl rfl (hS.LN lJ (cQ _ (by omega))) rfl|exact LR Od rfl rfl (hS.LN jU (cQ _ (by omega))) rfl|exact LR Od rfl rfl (hS.LN jV (cQ _ (by omega))) rfl)) (jW.kp) ?_;refine LS 10 rfl (MS rfl) (jW.kp) (LS 11 rfl (Mo Tb rfl) (jW.kp) (qT 3 rfl (λ_ hS=>LR Zo rfl rfl (hS.LN sC h.nk) (zbb h.len)) (jW.kp) (qT 12 rfl (λ_ hS=>Mk (news:=Rz p) Xi rfl O3 rfl (lI (hS.LN sC h.nk)) rfl) (jW.kp) (Pw 13 rfl Xk rfl (Pk p _) ?_))));rintro _ w9 ⟨rfl,fg⟩;refine⟨(jW.trans fg).kp,?_⟩;have lK:=jW.trans fg;have fP:=kO.trans lK;refine Pw 14 rfl zaj rfl (VO (h.wr.ext fP) p.list hp.1 L.length hL succ lr hs c6 ref cP dx (fP.LN hG) (fP.LN hU) (eg.ext fP) (bZ.ext lK) kL bD BV) ?_;rintro _ wB ⟨rfl,F',zw,iO,pj⟩;refine⟨lK.kp.trans iO,?_⟩;have ij:Kp F wA wB:=lK.kp.trans iO;have BY:∀i,F' i->F i\/wA.heap.size<=i:=λi hi=>(pj i hi).imp id (λe=>by have:=lK.size;omega);have vQ:=ij.LN jV (cQ _ (by omega))
    have vR:=ij.LN jU (cQ _ (by omega));have sD:=ij.LN lq (cQ _ (by omega));have sE:=ij.LN mO (cQ _ (by omega));have BZ:=ij.LN BX (cQ _ (by omega));have C1:=ij.LN sC h.nk;have zAB:=ij.size;have C2:Rd wB (.slice a succ.length cp) 1 succ.length (succ.map Ms):=(eg.ext kO).kpz ij (λh0 g hg=>(HV g h0 hg).1);refine LS 15 rfl (NK rfl) (lK.kp.trans iO) (qE (Mn.qb (e:=[(2,_),(3,_),(4,_),(8,_),(9,_),(12,_)]) ?_));refine qN rfl (LM rfl (MY rfl rfl (LO (An rfl (py (qN rfl (LU rfl (run_seq (qN rfl (qV ((by first|exact LR U3 rfl rfl vQ rfl|exact LR U3 rfl rfl vR rfl)) ?_))))))))));refine Nc rfl rfl (LO (MA (λe' w'=>e'=[(2,ptr b2 0),(3,ptr b3 0),(4,ptr b4 0),(8,ptr b8 0),(13,I ((if 0<ref then c+1 else 0:Nat):Int))]/\w'=wB) ?av (λav=>?dr)))
    case av=>
     rintro e' wB' ⟨rfl,rfl⟩
     generalize (if 0<ref then c+1 else 0)=ch at gD
     have po:=Ext.Ma wB';have C3:∀i,i<wB'.heap.size->¬(Value.slice none 0 0).ownBlock=some i:=λi _ e=>by cases e
     refine run_seq (NF (λw'=>Kp (λi=>i=k) wB' w') rfl (qT 0 rfl (λ_ hS=>(by first|exact LR Od rfl rfl (hS.LN sD (by omega)) rfl|exact LR Od rfl rfl (hS.LN sE (by omega)) rfl)) (po.kp) ?_));refine LS 1 rfl (MS rfl) (po.kp) (LS 2 rfl (Mo UR rfl) (po.kp) (qT 3 rfl (λ_ hS=>(by first|exact LR Ml rfl rfl (hS.LN sD (by omega)) rfl|exact LR Ml rfl rfl (hS.LN sE (by omega)) rfl)) (po.kp) ?_));refine M9 5 rfl rfl (po.kp) (qO 4 (VP (i:=4) rfl rfl rfl (pap Ml Mc rfl (by decide) rfl rfl (Sl.nil _ _ _) (C2.ext po) (Zj _) (by omega) (by simp only[maxLen];omega)) ?_));rintro v' wC ⟨ug,jl,HZ,-⟩;refine⟨po.kp.trans (jl.LZ λi e=>by cases e),?_⟩;have jX:Ext wB' wC:=po.trans ((Ext.refl _).LJ jl (λi e=>by cases e));rw[Nat.zero_add,List.nil_append] at ug;obtain⟨a',cp',rfl,-⟩:=ug.rd.shape
     have sy:succ.length<=cp':=by
      rcases ug.shape with⟨e,h0⟩|⟨g,c1,hv,fx⟩
      ·omega
      ·cases hv;exact fx
     have vS:∀g,(Value.slice a' succ.length cp').ownBlock=some g->wB'.heap.size<=g:=λg hg=>by
      rcases HZ g hg with e| e
      ·cases e
      ·have:=po.size;omega
     have C4:=jX.LN C1;refine Pw 6 rfl zcc rfl (z6z C4 h.len (by omega) a' succ.length cp' ch) ?_;rintro _ wD ⟨rfl,FA,fh⟩;refine⟨jX.kp.trans fh,?_⟩;have dw:(R.set (L.length%17) (.slice a' succ.length cp',ch)).length=17:=by rw[List.length_set];exact h.len
     have vT:=fh.LN (jX.LN sD) (by omega);have vU:=fh.LN (jX.LN sE) (by omega);have C5:=fh.LN (jX.LN vQ) (by omega);have C6:=fh.LN (jX.LN BZ) (by omega);have nh:=Ext.Ma wD;refine qE (run_seq (Me [9] (λw'=>Ext wD w') (by kernel_rfl) rfl (qL [1,2,3,6,7,8,9] 0 rfl (λ_ h=>(by first|exact LR Od rfl rfl (h.LN vT) rfl|exact LR Od rfl rfl (h.LN vU) rfl)) nh ?_)));refine qL [2,3,6,7,8,9] 1 rfl (λ_ h=>MS rfl) nh (qL [3,6,7,8,9] 2 rfl (λ_ h=>Mo Zx rfl) nh (qL [5,6,7,8,9] 4 rfl (λ_ h=>(by first|exact LR Ml rfl rfl (h.LN vT) rfl|exact LR Ml rfl rfl (h.LN vU) rfl)) nh ?_));refine qL [6,7,8,9] 5 rfl (λ_ h=>OZ Ml rfl) nh (qL [6,7,8,9] 3 rfl (λ_ h=>LR U3 rfl rfl (h.LN FA) (zcQ dw)) nh (qL [7,8,9] 6 rfl (λ_ h=>R9 rfl rfl (by omega)) nh (qL [8,9] 7 rfl (λ_ h=>MS rfl) nh (qL [9] 8 rfl (λ_ h=>Mo Zx rfl) nh (Pv [9] (qO 9 (Mx (i:=9) rfl rfl (NC MO rfl rfl rfl (nh.LN FA) (by rw[z30 dw];decide)) ?_)))))));rintro wE ⟨zC,C7⟩;refine⟨trivial,?_⟩;replace zC:LX wE k ((TJ p (R.set (L.length%17) (.slice a' succ.length cp',ch)) (L.length+1) wp ed).set 41 (I ((ed+succ.length:Nat):Int))) 255:=zC;rw[z9b dw] at zC;have oc:Kp (λi=>i=k) wD wE:=nh.kp.trans C7;have sF:=oc.LN C5 (by omega);have vV:=oc.LN C6 (by omega);have pp:=Ext.Ma wE;refine qE (run_seq (NF (λw'=>Kp (λi=>i=b4) wE w'/\LX w' b4 [I (ref:Int)] 3) rfl (qT 0 rfl (λ_ hS=>(by first|exact LR U3 rfl rfl hS.2 rfl|exact LR U3 rfl rfl (hS.1.LN vV (by omega)) rfl)) (⟨pp.kp,pp.LN sF⟩) ?_)));refine qT 1 rfl (λ_ hS=>(by first|exact LR U3 rfl rfl hS.2 rfl|exact LR U3 rfl rfl (hS.1.LN vV (by omega)) rfl)) (⟨pp.kp,pp.LN sF⟩) ?_;refine qO 2 (Mx (i:=2) rfl rfl (NC MO rfl rfl rfl (pp.LN sF) (by simp)) ?_);rintro wF ⟨lL,pq⟩;refine⟨⟨pp.kp.trans pq,lL⟩,?_⟩;replace lL:LX wF b4 [I (ref:Int)] 3:=lL;have sA:Kp (λi=>i=b4) wE wF:=pp.kp.trans pq;have BO:=sA.LN zC (by omega);refine LS 3 rfl (NK rfl) (⟨pp.kp.trans pq,lL⟩) (LS 4 rfl (NK rfl) (⟨pp.kp.trans pq,lL⟩) (qE (Mn.qb (e:=[(4,_),(5,_),(6,_)]) ?_)));refine Mj Tryz.func98 (.cell1 U3 rfl rfl ((lL).cell _) (.tmp rfl (.tmp rfl .nil))) ?_;obtain⟨q1,q2,q3⟩:=h.add (r:=ref) kO ij zw BY hs jX ug sy vS fh oc sA (by omega) (by omega) BO;exact⟨_,rfl,ref,least,ch,F',_,rfl,gD,by rw[BW];exact q1,q2,q3⟩
    case dr=>
     refine LY rfl (λh5=>?_) (λh5=>?_)
     ·refine LQ rfl (M0 Zt rfl (qV (LR U3 rfl rfl vR rfl) (MK rfl rfl (LU rfl ?_))));rw[show(c:Int)+1=((if 0<ref then c+1 else 0:Nat):Int) by rw[if_pos (by omega)];omega];exact(av _ _ ⟨rfl,rfl⟩).qb
     ·refine py ?_;have iV:(if 0<ref then c+1 else 0)=0:=if_neg (by omega);exact(av _ _ ⟨by rw[iV],rfl⟩).qb
 case cM=>
  have av:=dS;refine Me [12] (λw'=>Ext w5 w') (by kernel_rfl) rfl (qL [7,8,9,10,12,13] 0 rfl (λ_ h=>(by first|exact LR U3 rfl rfl (h.LN cF) rfl|exact LR U3 rfl rfl (h.LN bT) rfl|exact LR U3 rfl rfl (h.LN gA) rfl)) av ?_);refine qL [7,8,9,10,12,13] 1 rfl (λ_ h=>(by first|exact LR Ml rfl rfl (h.LN cF) rfl|exact LR Ml rfl rfl (h.LN bT) rfl|exact LR Ml rfl rfl (h.LN gA) rfl)) av ?_;refine qL [3,4,5,6,7,8,9,10,12,13] 2 rfl (λ_ h=>(by first|exact LR Od rfl rfl (h.LN cF) rfl|exact LR Od rfl rfl (h.LN bT) rfl|exact LR Od rfl rfl (h.LN gA) rfl)) av ?_;refine qL [4,5,6,7,8,9,10,12,13] 3 rfl (λ_ h=>MS rfl) av (qL [5,6,7,8,9,10,12,13] 4 rfl (λ_ h=>Mo Tb rfl) av (qL [6,7,8,9,10,12,13] 5 rfl (λ_ h=>Mk (news:=Rz p) Xi rfl O3 rfl (lI (h.LN vP)) rfl) av (Sv (i:=6) (j:=11) (by kernel_rfl) ?_ ?_)))
  ·refine O4 (i:=6) rfl rfl rfl (yc Xk rfl) (Pk p _) ?_;rintro _ w6 ⟨rfl,aN⟩;refine⟨av.trans aN,?_⟩
   try have aH:=aN.LN aH
   have av:=av.trans aN;refine Sv (i:=7) (j:=11) (by kernel_rfl) ?_ ?_
   ·refine O4 (i:=7) rfl rfl rfl (yc z1g rfl) (RE p.list hp.1 L.length hL succ [] hs ⟨List.Pairwise.nil,λy h=>(by cases h)⟩ 0 (Nat.zero_le _) (λ_=>rfl) ((bC.trans av).LN hG) ((bC.trans av).LN hU) (eg.ext (bC.trans av)) RD kL (Nat.zero_le _)) ?_;rintro _ w7 ⟨rfl,bQ⟩;refine⟨av.trans bQ,?_⟩
    try have aH:=bQ.LN aH
    have av:=av.trans bQ;refine qL [9,10,12,13] 8 rfl (λ_ h=>My rfl) av (qL [12,13] 9 rfl (λ_ h=>NO rfl rfl) av (MM (i:=10) rfl (by kernel_rfl) rfl rfl (λ_=>NO rfl rfl) av (Nw (i:=11) (by kernel_rfl) (MV (i:=11) rfl rfl rfl (O9 (cs:=[_]) MO rfl) ?_))));rintro _ w11 ⟨b8,rfl,iN,aQ,aH⟩;refine⟨av.trans aQ,?_⟩;have ni:w5.heap.size<=b8:=by have:=av.size;omega
    have av:=av.trans aQ;refine Pv [12] (qO 12 (Mx (i:=12) rfl rfl (NC MO rfl rfl rfl aH (by simp)) ?_));rintro w12 ⟨bu,aV⟩;refine⟨trivial,?_⟩;refine LS 13 rfl (NK rfl) trivial (qE (Mn.qb (e:=[(2,_),(3,_),(4,_),(5,_),(6,_),(7,_),(8,_)]) ?_));exact(cu _ _ ⟨b8,_,rfl,av.LJ aV (λi e=>by omega),ni,bu⟩).qb
   ·refine MV (i:=11) rfl rfl rfl (O9 (cs:=[_]) MO rfl) ?_;rintro _ w11 ⟨b8,rfl,iN,aQ,aH⟩;refine⟨av.trans aQ,?_⟩;have ni:w5.heap.size<=b8:=by have:=av.size;omega
    have av:=av.trans aQ;refine Nw (i:=7) (by kernel_rfl) (O4 (i:=7) rfl rfl rfl (yc z1g rfl) (RE p.list hp.1 L.length hL succ [] hs ⟨List.Pairwise.nil,λy h=>(by cases h)⟩ 0 (Nat.zero_le _) (λ_=>rfl) ((bC.trans av).LN hG) ((bC.trans av).LN hU) (eg.ext (bC.trans av)) RD kL (Nat.zero_le _)) ?_);rintro _ w7 ⟨rfl,bQ⟩;refine⟨av.trans bQ,?_⟩
    try have aH:=bQ.LN aH
    have av:=av.trans bQ;refine qL [9,10,12,13] 8 rfl (λ_ h=>My rfl) av (qL [12,13] 9 rfl (λ_ h=>NO rfl rfl) av (MM (i:=10) rfl (by kernel_rfl) rfl rfl (λ_=>NO rfl rfl) av (Pv [12] (qO 12 (Mx (i:=12) rfl rfl (NC MO rfl rfl rfl aH (by simp)) ?_)))));rintro w12 ⟨bu,aV⟩;refine⟨trivial,?_⟩;refine LS 13 rfl (NK rfl) trivial (qE (Mn.qb (e:=[(2,_),(3,_),(4,_),(5,_),(6,_),(7,_),(8,_)]) ?_));exact(cu _ _ ⟨b8,_,rfl,av.LJ aV (λi e=>by omega),ni,bu⟩).qb
  ·refine MV (i:=11) rfl rfl rfl (O9 (cs:=[_]) MO rfl) ?_;rintro _ w11 ⟨b8,rfl,iN,aQ,aH⟩;refine⟨av.trans aQ,?_⟩;have ni:w5.heap.size<=b8:=by have:=av.size;omega
   have av:=av.trans aQ;refine Nw (i:=6) (by kernel_rfl) (O4 (i:=6) rfl rfl rfl (yc Xk rfl) (Pk p _) ?_);rintro _ w6 ⟨rfl,aN⟩;refine⟨av.trans aN,?_⟩
   try have aH:=aN.LN aH
   have av:=av.trans aN;refine Nw (i:=7) (by kernel_rfl) (O4 (i:=7) rfl rfl rfl (yc z1g rfl) (RE p.list hp.1 L.length hL succ [] hs ⟨List.Pairwise.nil,λy h=>(by cases h)⟩ 0 (Nat.zero_le _) (λ_=>rfl) ((bC.trans av).LN hG) ((bC.trans av).LN hU) (eg.ext (bC.trans av)) RD kL (Nat.zero_le _)) ?_);rintro _ w7 ⟨rfl,bQ⟩;refine⟨av.trans bQ,?_⟩
   try have aH:=bQ.LN aH
   have av:=av.trans bQ;refine qL [9,10,12,13] 8 rfl (λ_ h=>My rfl) av (qL [12,13] 9 rfl (λ_ h=>NO rfl rfl) av (MM (i:=10) rfl (by kernel_rfl) rfl rfl (λ_=>NO rfl rfl) av (Pv [12] (qO 12 (Mx (i:=12) rfl rfl (NC MO rfl rfl rfl aH (by simp)) ?_)))));rintro w12 ⟨bu,aV⟩;refine⟨trivial,?_⟩;refine LS 13 rfl (NK rfl) trivial (qE (Mn.qb (e:=[(2,_),(3,_),(4,_),(5,_),(6,_),(7,_),(8,_)]) ?_));exact(cu _ _ ⟨b8,_,rfl,av.LJ aV (λi e=>by omega),ni,bu⟩).qb
section
variable {w:World}{k:Nat}{p:MZ}{L:List (List Nat)}{E:List (Nat×Nat)}{bs:List Bool}{F:Nat->Prop}{R:List (Value×Nat)}{wp ed:Nat}
theorem z2G (h:PkM w k p L E bs F R wp ed)(hl:bs.length<=9223372036854775):Mm Tryz.prog 99 [ptr k 0] w λu w'=>u=I (bs.length:Int)/\Ext w w':=by
 refine It (e:=[(0,_)]) Tryz.func99 rfl Tryz.ntmps99 rfl rfl ?_
 have hg:=Ext.Ma w
 refine qN rfl (LU rfl (run_seq (qN rfl (LM rfl (qV (MU Od rfl rfl) (LO (An rfl (py (run_seq (NF (λw'=>Ext w w') rfl (M9 0 rfl rfl (hg) (LS 1 rfl (MS rfl) hg (LS 2 rfl (Mo z94 rfl) hg ?_)))))))))))))
 refine M9 4 rfl rfl (hg) (LS 5 rfl (MS rfl) hg (LS 6 rfl (Mo Zv rfl) hg (qT 3 rfl (λ_ hS=>LR U3 rfl rfl (hS.LN h.LN) (zfm h.len)) hg (qT 7 rfl (λ_ hS=>LR Zo rfl rfl (hS.LN h.LN) (zbb h.len)) hg (Pw 8 rfl Yz rfl (RS (h.wr.ext hg)) ?_)))))
 rintro _ w1 ⟨rfl,rfl⟩
 refine⟨hg,?_⟩
 refine LS 9 rfl (R9 rfl rfl (by omega)) hg (LS 10 rfl (NK rfl) hg (qE ?_))
 rw[show(0:Int)+(bs.length:Int)=(bs.length:Int) by omega]
 refine LP Tryz.func99 rfl ?_
 exact⟨_,rfl,rfl,hg⟩
theorem z2W (h:PkM w k p L E bs F R wp ed):Mm Tryz.prog 100 [ptr k 0] w λu w'=>u= .tuple #[S (Mi bs),I 0]/\w'=w:=by
 refine It (e:=[(0,_)]) Tryz.func100 rfl Tryz.ntmps100 rfl rfl (qN rfl (M6 rfl (LU rfl (run_seq (qN rfl (LM rfl (qV (MU Od rfl rfl) (LO (An rfl (py (qN rfl (LM rfl (Mp rfl ?_)))))))))))))
 refine M0 Zv rfl (qV (LR Zo rfl rfl h.LN (zbb h.len)) (Mb z42 rfl (Tj h.wr) ?_))
 rintro _ w1 ⟨rfl,rfl⟩
 refine MW rfl rfl (MW rfl rfl (M6 rfl (LU rfl (LP Tryz.func100 rfl ?_))))
 exact⟨_,rfl,rfl,rfl⟩
end
structure GrM (w:World)(v:Value)(g:List (List Nat)):Prop where
 ex:∃vs:List Value,Rd w v 1 g.length vs/\∀(i:Nat) (l:List Nat),g[i]? =some l->∃(a:Option Addr) (c:Nat),vs[i]? =some (Value.slice a l.length c)/\l.length<=c/\Rd w (.slice a l.length c) 1 l.length (l.map Ms)
theorem GrM.ext {w w':World}{v:Value}{g:List (List Nat)}(h:GrM w v g)(hx:Ext w w'):GrM w' v g:=by
 obtain⟨vs,h1,h2⟩:=h.ex
 refine⟨vs,h1.ext hx,λi l hl=>?_⟩
 obtain⟨a,c,g1,g2,g3⟩:=h2 i l hl
 exact⟨a,c,g1,g2,g3.ext hx⟩
structure Og (g:List (List Nat)):Prop where
 ok:∀l∈g,Mw l
 lt:∀l∈g,∀y∈l,y<g.length
 n:g.length<=60
theorem Og.len {g:List (List Nat)}(h:Og g){l:List Nat}(hl:l∈g):l.length<=g.length:=by
 have:=ZM l 0 g.length (h.ok l hl).Xo (λy hy=>⟨Nat.zero_le _,h.lt l hl y hy⟩) (Nat.zero_le _)
 omega
def N2 (g:List (List Nat)):Nat:=(g.map List.length).sum
theorem TY (g:List (List Nat))(l:List Nat):N2 (g++[l])=N2 g+l.length:=by simp[N2]
theorem z6P {g:List (List Nat)}{n:Nat}(h:∀l∈g,l.length<=n):N2 g<=g.length*n:=by
 induction g with
 |nil=>simp[N2]
 | cons l g ih =>
   have h1:=ih (λm hm=>h m (List.mem_cons_of_mem _ hm));have h2:=h l List.mem_cons_self;show(l.length::g.map List.length).sum<=_;rw[List.sum_cons,List.length_cons,Nat.add_mul];have e:N2 g=(g.map List.length).sum:=rfl;omega
theorem Qk {g:List (List Nat)}(h:Og g)(i:Nat):N2 (g.take i)<=3600:=by
 have h1:N2 (g.take i)<=(g.take i).length*60:=z6P (λl hl=>by have:=h.len (List.mem_of_mem_take hl);have:=h.n;omega)
 have h2:(g.take i).length<=60:=by rw[List.length_take];have:=h.n;omega
 omega
theorem z0Z {w:World}{ga:Option Addr}{gc:Nat}{g:List (List Nat)}(h:GrM w (.slice ga g.length gc) g)(hg:Og g):Mm Tryz.prog 97 [.slice ga g.length gc] w λu w'=>u= .bool true/\w'=w:=by
 have hn:=hg.n
 obtain⟨vs,eM,kC⟩:=h.ex
 refine It (e:=[(0,_)]) Tryz.func97 rfl Tryz.ntmps97 rfl rfl (qN rfl (M6 rfl (qM rfl (LU rfl (run_seq (qN rfl (LM rfl (NX Uz rfl (LM rfl (LO (LK (Oe (α:=Nat) (0) (λi=>[(0,.slice ga g.length gc),(3,I (N2 (g.take i):Int)),(8,.slice ga g.length gc),(9,I (g.length:Int)),(10,I (i:Int))]) (λi w'=>w'=w/\i<=g.length) (λi=>g.length-i) ?hI ?hround))))))))))))
 case hI=>exact⟨rfl,Nat.zero_le _⟩
 case hround =>
  rintro i w4 ⟨rfl,hi⟩ ih;have sG:=Qk hg i
  try dsimp only
  refine qN rfl (Nr rfl rfl (LO (run_seq (LY rfl (λh0=>?_) (λh0=>?_)))))
  ·have dv:i<g.length:=by omega
   obtain⟨l,hl⟩:∃l,g[i]? =some l:=⟨_,List.getElem?_eq_getElem dv⟩;have gu:=List.mem_of_getElem? hl;have eT:=hg.len gu;obtain⟨a,c,e1,e2,e3⟩:=kC i l hl
   obtain⟨gb,go,gc',e4⟩:∃b o c',Value.slice ga g.length gc= .slice (some ⟨b,o,none⟩) g.length c':=by
    rcases eM.2 with⟨c,hc,h0⟩|⟨b,off,c',hc,-⟩
    ·omega
    ·exact⟨b,off,c',hc⟩
   cases e4;refine py (run_seq (LK (qN rfl (qV (MN Uz Qz rfl rfl (by omega)) (qV (Mt Ml rfl rfl (MX eM e1)) (M6 rfl (qM rfl (M4 rfl rfl (NX Ml rfl (MK rfl rfl (M6 rfl (qM rfl (LM rfl ?_)))))))))))));refine NX Ml rfl (LM rfl (LO (LK ?_)));have zx:=TY (g.take i) l;rw[<-MG hl] at zx;rw[show(N2 (g.take i):Int)+(l.length:Int)=(N2 (g.take (i+1)):Int) by omega];refine Oe (α:=Nat) (0) (λj=>[(0,.slice (some ⟨gb,go,none⟩) g.length gc),(3,I (N2 (g.take (i+1)):Int)),(5,.slice a l.length c),(8,.slice (some ⟨gb,go,none⟩) g.length gc),(9,I (g.length:Int)),(10,I (i:Int)),(18,.slice a l.length c),(19,I (l.length:Int)),(20,I (j:Int))]) (λj w'=>w'=w4/\j<=l.length) (λj=>l.length-j) ?hI ?hround
   case hI=>exact⟨rfl,Nat.zero_le _⟩
   case hround=>
    rintro j w5 ⟨rfl,hj⟩ ih2
    try dsimp only
    refine qN rfl (Nr rfl rfl (LO (run_seq (LY rfl (λh1=>?_) (λh1=>?_)))))
    ·have kD:j<l.length:=by omega
     obtain⟨y,hy⟩:∃y,l[j]? =some y:=⟨_,List.getElem?_eq_getElem kD⟩;have Fg:=hg.lt l gu y (List.mem_of_getElem? hy)
     obtain⟨lb,lo,lc,e5⟩:∃b o c',Value.slice a l.length c= .slice (some ⟨b,o,none⟩) l.length c':=by
      rcases e3.2 with⟨c,hc,h0⟩|⟨b,off,c',hc,-⟩
      ·omega
      ·exact⟨b,off,c',hc⟩
     cases e5;refine py (run_seq (LK (qN rfl (LM rfl (qV (MN Ml Mc rfl rfl (by omega)) (qV (Mt N5 rfl rfl (MX e3 (show(l.map Ms)[j]? =some (Ms y) by rw[List.getElem?_map,hy];rfl))) ?_))))));refine M6 rfl (M6 rfl (qM rfl (LM rfl (qV (MB rfl N5 U3 (by omega)) (LM rfl (NX Uz rfl (PQ rfl rfl (MC (LM rfl ?_)))))))));rcases Nat.eq_zero_or_pos j with I0|I0
     ·refine LM rfl (Nc rfl rfl (MC (LM rfl (qS (qS (qS (qS (qS (qS (qS (ME rfl rfl (ME rfl rfl (LO ?_)))))))))))));refine An rfl (py (LL (LQ rfl (MK rfl rfl (LM rfl (LO ?_))))));exact(ih2 (j+1) _ ⟨rfl,by omega⟩ (by omega)).qb
     ·obtain⟨z,hz⟩:∃z,l[j-1]? =some z:=⟨_,List.getElem?_eq_getElem (by omega)⟩
      have L3:z<y:=by
       obtain⟨a1,a2⟩:=List.getElem?_eq_some_iff.1 hz;obtain⟨b1,b2⟩:=List.getElem?_eq_some_iff.1 hy;have:=List.pairwise_iff_getElem.1 (hg.ok l gu).Xo (j-1) j a1 b1 (by omega)
       rwa [a2,b2] at this
      refine LM rfl (Nc rfl rfl (O8 (M4 rfl rfl (M4 rfl rfl (NP rfl rfl ?_)))));rw[show(j:Int)-1=((j-1:Nat):Int) by omega];refine qV (MN Ml Mc rfl rfl (by omega)) (qV (Mt N5 rfl rfl (MX e3 (show(l.map Ms)[j-1]? =some (Ms z) by rw[List.getElem?_map,hz];rfl))) ?_);refine zle rfl rfl (MC (NB rfl rfl (ME rfl rfl (LO (An rfl (py (LL (LQ rfl (MK rfl rfl (LM rfl (LO ?_)))))))))));exact(ih2 (j+1) _ ⟨rfl,by omega⟩ (by omega)).qb
    ·refine LW rfl (LL (LQ rfl (MK rfl rfl (LM rfl (LO ?_)))));exact(ih (i+1) _ ⟨rfl,by omega⟩ (by omega)).qb
  ·refine LW rfl (qN rfl (LM rfl (NX Uz rfl (zle rfl rfl (O8 (M4 rfl rfl (zle rfl rfl (O8 (NB rfl rfl (LU rfl (LP Tryz.func97 rfl ?_)))))))))));exact⟨_,rfl,rfl,rfl⟩
/-! ### How many bits -/
theorem TH.Z6 {k:Nat}{q:Cd×Nat}(h:TH k q)(hk:1<=k/\k<=16):(q.1.enc q.2).length<=112:=by
 obtain⟨h1,h2⟩:=h.N4 hk
 obtain⟨-,q2,-⟩:=Tn h1 h2
 rw[T3]
 rcases h with⟨e,h⟩|⟨e,h⟩|⟨e,h⟩
 ·rw[e] at q2⊢;show q.2+1+_<=_;omega
 ·have:=(S7 (v:=q.2) (by omega)).2.2;rw[e] at q2⊢;show Nat.log2 (q.2+1)+1+_<=_;omega
 ·have h3:=(S7 (v:=q.2) (by omega)).2.2;have h4:Nat.log2 (q.2+1) / k<=Nat.log2 (q.2+1):=Nat.div_le_self _ _;rw[e] at q2⊢;show Nat.log2 (q.2+1) / k+1+_<=_;omega
theorem YK {n:Nat}{L:List (Cd×Nat)}(h:∀q∈L,(q.1.enc q.2).length<=n):(Mf L).length<=L.length*n:=by
 induction L with
 |nil=>simp[Mf]
 | cons q L ih =>
   have h1:=ih (λq hq=>h q (List.mem_cons_of_mem _ hq));have h2:=h q List.mem_cons_self;rw[MI,List.length_append,List.length_cons,Nat.add_mul];omega
theorem Yu (least:Nat){l:List Nat}(h:Mw l):(rowsN least l).1.length<=l.length:=by
 have h1:=(PX least l).length_eq
 rw[List.length_append] at h1
 have h4:∀(R:List (Nat×Nat)) (lo:Nat),Pc least lo R->R.length<=(Nq R).length:=by
  intro R
  induction R with
  |nil=>intro lo h;exact Nat.le_refl _
  | cons q R ih =>
    intro lo h;have h5:=ih _ h.2.2.2;have h6:1<=q.2:=h.2.1;rw[show Nq (q::R)=(List.range q.2).map (q.1+·)++Nq R from rfl,List.length_append,List.length_map,List.length_range,List.length_cons];omega
 have h5:=h4 _ 0 (Ro least l 0 h.Xo (λy _=>Nat.zero_le _))
 omega
theorem Vb {p:Oq}(hp:p.N4){x:Nat}(hx:x<65536){succ ref:List Nat}(hs:Mw succ)(hr:Mw ref){r:Nat}(iR:r<=p.Mh)(I1:succ.length<=60)(yW:ref.length<=60):(Mf (NW p x succ ref r)).length<=44800:=by
 have au:Mw (leftOf succ ref):=hs.sub List.filter_sublist
 have eT:(leftOf succ ref).length<=succ.length:=List.length_filter_le _ _
 have h1:=(Ps succ ref).WL
 rw[List.length_map] at h1
 have h2:=Yu p.interval au
 have h3:=(QS p.interval (leftOf succ ref)).length_le
 have aB:(NW p x succ ref r).length<=400:=by
  unfold NW;rw[List.length_cons];split
  ·simp
  rw[List.length_append,List.length_append];have e1:(if 0<p.Mh then [(Cd.unary,r)] else []).length<=1:=by split<;>simp
  have e2:(if 0<r then(Cd.gamma,(ND succ ref).length-1)::runNums 0 (ND succ ref).dropLast else []).length<=62:=by
   split
   ·rw[List.length_cons,Pp,List.length_dropLast];omega
   ·simp
  have e3:(if leftOf succ ref=[] then [] else(if 0<p.interval then(Cd.gamma,(rowsN p.interval (leftOf succ ref)).1.length)::longNums x p.interval none (rowsN p.interval (leftOf succ ref)).1 else [])++restNums x p.zeta none (rowsN p.interval (leftOf succ ref)).2).length<=200:=by
   split
   ·simp
   ·rw[List.length_append,Pz];split
    ·rw[List.length_cons,OL];omega
    ·simp;omega
  omega
 have:=YK (n:=112) (L:=NW p x succ ref r) (λq hq=>(Wn hp hx hs hr iR q hq).Z6 ⟨hp.2.2.1,hp.2.2.2⟩)
 omega
/-! ### All bits -/
def U8 (p:MZ)(g:List (List Nat))(E:List (Nat×Nat))(i:Nat):List Bool:=
 Mf (NW p.list i ((g[i]?).getD []) (Na g i ((E[i]?).getD (0,0)).1) ((E[i]?).getD (0,0)).1)
def N6 (p:MZ)(g:List (List Nat))(E:List (Nat×Nat))(n:Nat):List Bool:=(List.range n).flatMap (U8 p g E)
theorem Pq (p:MZ)(g:List (List Nat))(E:List (Nat×Nat))(n:Nat):N6 p g E (n+1)=N6 p g E n++U8 p g E n:=by
 unfold N6
 rw[List.range_succ,List.flatMap_append];simp
theorem Xh (p:MZ)(g:List (List Nat))(E:List (Nat×Nat))(e:Nat×Nat):∀n,n<=E.length->N6 p g (E++[e]) n=N6 p g E n
 |0,_=>rfl
 | n + 1, h => by
   rw[Pq,Pq,Xh p g E e n (by omega)]
   congr 1
   unfold U8;rw[List.getElem?_append_left (by omega)]
structure z9S (p:MZ)(g:List (List Nat))(E:List (Nat×Nat)):Prop where
 ent:∀i e,E[i]? =some e->VT p g E i ((g[i]?).getD []).length e
theorem VT.mono {p:MZ}{L L':List (List Nat)}{E E':List (Nat×Nat)}{n size:Nat}{e:Nat×Nat}(h:VT p L E n size e)(hL:∀(j:Nat) (l:List Nat),L[j]? =some l->L'[j]? =some l)(hE:∀(j:Nat) (l:Nat×Nat),E[j]? =some l->E'[j]? =some l):VT p L' E' n size e:=by
 rcases h with h|⟨h1,h2,h3,l,e',h4,h5,h6,h7⟩
 ·exact .inl h
 ·exact .inr ⟨h1,h2,h3,l,e',hL _ _ h4,hE _ _ h5,h6,h7⟩
theorem Sl.typed {w:World}{v:Value}{T:TypeId}{k n g:Nat}{cs:List Value}(h:Sl w v T k n cs)(hg:v.ownBlock=some g):∃cur,w.heap[g]? =some (.cells cur T (0,0)):=by
 rcases h.2 with⟨hz,-⟩|⟨g1,cap1,cur,hv,-,aG,-⟩
 ·rw[hz] at hg;cases hg
 ·rw[hv] at hg;have e:g1=g:=NV hg;exact⟨cur,e▸aG⟩
theorem PkM.kpT {w w':World}{k:Nat}{p:MZ}{L:List (List Nat)}{E:List (Nat×Nat)}{bs:List Bool}{F:Nat->Prop}{R:List (Value×Nat)}{wp ed:Nat}(h:PkM w k p L E bs F R wp ed){v:Value}{T:TypeId}{sz n:Nat}{cs:List Value}(hT:T≠46)(hv:Sl w v T sz n cs)(hk:Kp (λi=>v.ownBlock=some i) w w')(n1:v.ownBlock≠some k)(n2:∀i,F i->v.ownBlock≠some i):PkM w' k p L E bs F R wp ed:=
 ⟨hk.LN h.LN n1,h.len,h.wr.kp hk n2,h.nk,h.el,h.ok,λj l e h1 h2 h3=>by
  obtain⟨a,cp,g1,g2,g3,g4⟩:=h.ring j l e h1 h2 h3;refine⟨a,cp,g1,g2,g3.kp hk (λg hg e=>?_),g4⟩;obtain⟨c1,f1⟩:=g3.typed hg;obtain⟨c2,f2⟩:=hv.typed e;rw[f1] at f2
  injection f2 with f3
  injection f3 with f4 f5
  exact hT f5.symm⟩
def Ss (p:MZ)(g:List (List Nat))(E:List (Nat×Nat))(n:Nat):List Nat:=(List.range (n+1)).map λj=>(N6 p g E j).length
theorem z8D (p:MZ)(g:List (List Nat))(E:List (Nat×Nat))(e:Nat×Nat)(n:Nat)(h:n<=E.length):Ss p g (E++[e]) n=Ss p g E n:=by
 unfold Ss
 refine List.map_congr_left λj hj=>?_
 rw[Xh p g E e j (by have:=List.mem_range.1 hj;omega)]
theorem z7O (p:MZ)(g:List (List Nat))(E:List (Nat×Nat))(n:Nat):Ss p g E (n+1)=Ss p g E n++[(N6 p g E (n+1)).length]:=by
 unfold Ss
 rw[List.range_succ,List.map_append];rfl
theorem ZI (p:MZ)(g:List (List Nat))(E:List (Nat×Nat))(n:Nat):(Ss p g E n).length=n+1:=by simp[Ss]
theorem getD_take {α:Type}{l:List α}{i j:Nat}(h:j<i):(l.take i)[j]? =l[j]? :=by rw[List.getElem?_take,if_pos h]
theorem T0 (L:List (List Nat))(n r:Nat):Na L n r=[]\/Na L n r∈L:=by
 unfold Na
 split
 ·exact .inl rfl
 ·cases h:L[n-r]? with
  |none=>exact .inl rfl
  |some l=>exact .inr (List.mem_of_getElem? h)
theorem z1M {L:List (List Nat)}{n r:Nat}(h:r<=n):Na (L.take n) n r=Na L n r:=by
 unfold Na
 by_cases e:r=0
 ·rw[if_pos e,if_pos e]
 ·rw[if_neg e,if_neg e,getD_take (by omega)]
structure EnI (w:World)(p:MZ)(g:List (List Nat))(k wp:Nat)(i:Nat)(E:List (Nat×Nat))(v:Value)(w':World):Prop where
 pk:∃F R,PkM w' k p (g.take i) E (N6 p g E i) F R wp (N2 (g.take i))/\(∀j,F j->w.heap.size<=j)/\∀j,F j->v.ownBlock≠some j
 ext:Ext w w'
 nk:w.heap.size<=k
 sl:Sl w' v 41 1 (Ss p g E i).length ((Ss p g E i).map M7)
 fr:∀b,v.ownBlock=some b->w.heap.size<=b
 vk:v.ownBlock≠some k
 ent:∀j e,E[j]? =some e->VT p g E j ((g[j]?).getD []).length e
 bd:(N6 p g E i).length<=i*44800
theorem z4O {w:World}{p:MZ}(hp:p.N4){g:List (List Nat)}(hg:Og g){ga:Option Addr}{gc:Nat}(kP:GrM w (.slice ga g.length gc) g)(hG:LX w 1 (OU .gamma) 298)(hU:LX w 2 (OU .unary) 298):
  Mm Tryz.prog 67 [.slice ga g.length gc,bpV p] w λu w'=>∃E v,u= .tuple #[S (Mi (N6 p g E g.length)),v,I 0]/\E.length=g.length/\z9S p g E/\(N6 p g E g.length).length<=2688000/\Sl w' v 41 1 (g.length+1) ((Ss p g E g.length).map M7)/\(∀b,v.ownBlock=some b->w.heap.size<=b)/\Ext w w':=by
 have hn:=hg.n
 refine It (e:=[(0,_),(1,_)]) Tryz.func67 rfl Tryz.ntmps67 rfl rfl (qN rfl (LV rfl rfl (NN rfl (cs:=Rz p) rfl) ?_))
 rintro _ w1 ⟨b3,rfl,en,ad,aq⟩
 have z1:=ad.size
 refine M6 rfl (M6 rfl (M6 rfl (qM rfl (qV (Mk (news:=Rz p) Xi rfl O3 rfl (aq.cells (n:=5) rfl) rfl) (Mb zeJ rfl (z5R p hp w1) ?_)))))
 rintro _ w2 ⟨k,wp,F,rfl,uh,hW,I2,af,aK,o6⟩
 have z2:=af.size
 have aI:=ad.trans af
 refine LM rfl (qV (NO (v:=ptr k 0) rfl rfl) (qV (NO (v:=I 0) rfl rfl) (M6 rfl (LU rfl (run_seq (qN rfl (LM rfl (MY rfl rfl (M4 rfl rfl (Mb zfu rfl (z0Z (kP.ext aI) hg) ?_))))))))))
 rintro _ w2 ⟨rfl,rfl⟩
 refine qV ((by first|exact ML rfl|exact Oh rfl)) ?_
 refine ME rfl rfl (LO (An rfl (py (qN rfl (LV rfl rfl (Uu (cs:=[_]) (zs:=[Value.int .u64 0]) U40 Rg rfl (by kernel_rfl) rfl rfl rfl (by decide)) ?_)))))
 rintro _ w3 ⟨b28,rfl,⟨I3,ah,vW⟩,C8⟩
 have z3:=ah.size
 have lk:=uh.lt
 have zD:PkM w3 k p (g.take 0) [] (N6 p g [] 0) F z3I wp (N2 (g.take 0)):=⟨ah.LN uh,List.length_replicate,hW.ext ah,I2,rfl,(λl hl=>by simp at hl),λj l e h1=>by simp at h1⟩
 refine LU rfl (run_seq (qN rfl (LM rfl (NX Uz rfl (LM rfl (LO (Mn.qb (e:=[(4,_),(5,_),(6,_),(7,_),(8,_),(9,_),(29,_),(30,_),(31,_)]) ?_)))))))
 refine LK (Oe (α:=Nat×List (Nat×Nat)×Value) ((0,[],.slice (some ⟨b28,0,none⟩) 1 1)) (λy=>[(7,ptr k 0),(9,y.2.2),(29,.slice ga g.length gc),(30,I (g.length:Int)),(31,I (y.1:Int))]) (λy w'=>EnI w p g k wp y.1 y.2.1 y.2.2 w'/\y.1<=g.length) (λy=>g.length-y.1) ?hI ?hround)
 case hI=>exact⟨⟨⟨F,z3I,zD,λj hj=>by have:=o6 j hj;omega,λj hj e=>by have e1:b28=j:=NV e;have:=hW.lt hj;omega⟩,aI.trans ah,by omega,C8,λb hb=>by have e1:b28=b:=NV hb;omega,λe=>by have e1:b28=k:=NV e;omega,λj e h=>by simp at h,Nat.zero_le _⟩,Nat.zero_le _⟩
 case hround =>
  rintro⟨i,E,v⟩ w4 ⟨hI,hi⟩ ih;dsimp only at hI hi;obtain⟨F,R,hP,hF,FB⟩:=hI.pk;have vI:=hI.bd;have aP:=ZI p g E i;have qA:=hP.el;rw[List.length_take,Nat.min_eq_left hi] at qA;obtain⟨va,vc,rfl,-⟩:=hI.sl.rd.shape
  try dsimp only
  refine qN rfl (Nr rfl rfl (LO (run_seq (LY rfl (λh0=>?_) (λh0=>?_)))))
  ·have dv:i<g.length:=by omega
   obtain⟨l,hl⟩:∃l,g[i]? =some l:=⟨_,List.getElem?_eq_getElem dv⟩;have gu:=List.mem_of_getElem? hl;have eT:=hg.len gu;have hs:=hg.ok l gu;obtain⟨vs,C9,kC⟩:=kP.ex;obtain⟨a,c,e1,e2,e3w⟩:=kC i l hl;have eM:=C9.ext hI.ext;have e3:=e3w.ext hI.ext
   obtain⟨gb,go,gc',e4⟩:∃b o c',Value.slice ga g.length gc= .slice (some ⟨b,o,none⟩) g.length c':=by
    rcases eM.2 with⟨c,hc,h0⟩|⟨b,off,c',hc,-⟩
    ·omega
    ·exact⟨b,off,c',hc⟩
   cases e4;have p8:(g.take i).length=i:=by rw[List.length_take];omega
   have sG:=Qk hg i;refine py (run_seq (LK (qN rfl (qV (MN Uz Qz rfl rfl (by omega)) (qV (Mt Ml rfl rfl (MX eM e1)) ?_)))))
   have ng:∀r,r<=p.Mh->(N6 p g E i).length+(Mf (NW p.list (g.take i).length l (Na (g.take i) (g.take i).length r) r)).length<=134217728:=λr hr=>by
    have h2:Mw (Na (g.take i) (g.take i).length r)/\(Na (g.take i) (g.take i).length r).length<=60:=by
     rcases T0 (g.take i) (g.take i).length r with e| e
     ·rw[e];exact⟨⟨List.Pairwise.nil,λy h=>(by cases h)⟩,Nat.zero_le _⟩
     ·exact⟨hg.ok _ (List.mem_of_mem_take e),by have:=hg.len (List.mem_of_mem_take e);omega⟩
    have h3:=Vb hp.1 (x:=(g.take i).length) (by omega) hs h2.1 (show r<=p.list.Mh from hr) (by omega) h2.2;omega
   have qi:=hI.sl;have vh:∀b,(Value.slice va (Ss p g E i).length vc).ownBlock=some b->b<w4.heap.size:=λb hb=>qi.lt hb;refine LU rfl (run_seq (qN rfl (M4 rfl rfl (Mb zfQ rfl (z4u hp hP (hI.ext.LN hG) (hI.ext.LN hU) (by omega) hs e2 e3 (by omega) (λb h0 hb=>by have h1:=e3w.ltz (by decide) h0 hb;have:=hI.nk;exact⟨λe=>by have:=hF b e;omega,by omega⟩) ng) ?_))));rintro _ w5 ⟨r,least,ch,F',R',rfl,gD,gh,aj,ui⟩;have lk4:=hP.LN.lt;have z5:=aj.size;have aT:Ext w w5:=hI.ext.LJ aj (λj hj=>by rcases hj with e|e;exact hF j e;(have:=hI.nk;omega));have I4:(E++[(r,ch)]).length=i+1:=by rw[List.length_append,qA];rfl
   have lM:r<=i:=by
    rcases gD with e|⟨-,-,h3,-⟩
    ·have:r=0:=(Prod.mk.inj e).1;omega
    ·rw[p8] at h3;exact h3
   have sH:(E++[(r,ch)])[i]? =some (r,ch):=by rw[List.getElem?_append_right (by omega),qA,Nat.sub_self];rfl
   have pu:U8 p g (E++[(r,ch)]) i=Mf (NW p.list (g.take i).length l (Na (g.take i) (g.take i).length r) r):=by
    unfold U8;rw[sH,hl,p8,z1M lM];rfl
   have gE:N6 p g (E++[(r,ch)]) (i+1)=N6 p g E i++Mf (NW p.list (g.take i).length l (Na (g.take i) (g.take i).length r) r):=by
    rw[Pq,Xh p g E _ i (by omega),pu]
   have Ca:(N6 p g (E++[(r,ch)]) (i+1)).length<=(i+1)*44800:=by
    have h2:Mw (Na (g.take i) (g.take i).length r)/\(Na (g.take i) (g.take i).length r).length<=60:=by
     rcases T0 (g.take i) (g.take i).length r with e| e
     ·rw[e];exact⟨⟨List.Pairwise.nil,λy h=>(by cases h)⟩,Nat.zero_le _⟩
     ·exact⟨hg.ok _ (List.mem_of_mem_take e),by have:=hg.len (List.mem_of_mem_take e);omega⟩
    have iR:r<=p.list.Mh:=by
     rcases gD with e|⟨-,h3,-⟩
     ·have:r=0:=(Prod.mk.inj e).1;omega
     ·exact h3
    have h3:=Vb hp.1 (x:=(g.take i).length) (by omega) hs h2.1 iR (by omega) h2.2;rw[gE,List.length_append];omega
   rw[<-gE,<-MG hl,<-TY,<-MG hl] at gh;have gN:(N6 p g (E++[(r,ch)]) (i+1)).length<=9223372036854775:=by omega
   refine LM rfl (MW rfl rfl (MW rfl rfl (qV (NO (v:=I 0) rfl rfl) (M6 rfl (M6 rfl (M6 rfl (qM rfl (LM rfl (MY rfl rfl (LO (An rfl (py (LQ rfl ?_)))))))))))));refine M4 rfl rfl (Mb zfy rfl (z2G gh gN) ?_);rintro _ w6 ⟨rfl,aN⟩;refine qV ((by first|exact MH rfl U3 Ns (by omega)|exact Oc rfl U3 Ns)) ?_;refine LV rfl rfl (Uu (cs:=[_]) (zs:=[Value.int .u64 0]) U40 Rg rfl (by kernel_rfl) rfl rfl rfl (by decide)) ?_;rintro _ w7 ⟨b49,rfl,⟨I5,bQ,bO⟩,Cb⟩;have fQ:=aN.trans bQ;have z67:=fQ.size;have na:∀j,F' j->j<w5.heap.size:=λj hj=>gh.wr.lt hj;have Fj:=qi.kp aj (λb hb e=>by rcases e with e|e;exact FB b e hb;exact hI.vk (e▸hb));have zE:=Fj.ext fQ
   have vX:∀j,F' j->(Value.slice va (Ss p g E i).length vc).ownBlock≠some j:=λj hj e=>by
    rcases ui j hj with e1|e1
    ·exact FB j e1 e
    ·have:=vh j e;omega
   refine LV rfl rfl (pap U40 Rg rfl (by decide) rfl rfl zE Cb.rd (by intro c hc;simp at hc;subst hc;rfl) (by omega) (by simp only[maxLen];omega)) ?_;rintro v8 w8 ⟨eB,bj,kB,-⟩;have oh:=(gh.ext fQ).kpT (T:=41) (by decide) zE bj hI.vk vX;have nj:∀b,v8.ownBlock=some b->(Value.slice va (Ss p g E i).length vc).ownBlock=some b\/w5.heap.size<=b:=λb hb=>(kB b hb).imp id (λe=>by omega);refine LU rfl (LL (LQ rfl (MK rfl rfl (LM rfl (LO ((ih (i+1,E++[(r,ch)],v8) _ ⟨⟨⟨F',R',oh,λj hj=>?_,λj hj e=>?_⟩,(aT.trans fQ).LJ bj (λj hj=>hI.fr j hj),hI.nk,?_,λb hb=>?_,λe=>?_,λj e hj=>?_,Ca⟩,dv⟩ (by dsimp only;omega)).qb))))))
   ·rcases ui j hj with e| e
    ·exact hF j e
    ·have:=hI.ext.size;omega
   ·rcases nj j e with e1|e1
    ·exact vX j hj e1
    ·have:=na j hj;omega
   ·rw[z7O,z8D p g E _ i (by omega),List.length_append,List.map_append];exact eB
   ·rcases nj b hb with e1|e1
    ·exact hI.fr b e1
    ·have:=aT.size;omega
   ·rcases nj k e with e1|e1
    ·exact hI.vk e1
    ·omega
   ·rcases Nat.lt_or_ge j i with qB|qB
    ·rw[List.getElem?_append_left (by omega)] at hj;exact(hI.ent j e hj).mono (λ_ _ h=>h) (λj' l' h=>by rw[List.getElem?_append_left (List.getElem?_eq_some_iff.1 h).1];exact h)
    ·have BR:=(List.getElem?_eq_some_iff.1 hj).1;rw[I4] at BR;have ej:j=i:=by omega
     subst ej;rw[sH] at hj;cases hj;rw[hl];rw[p8] at gD
     exact gD.mono (λj' l' h=>by
      have:=(List.getElem?_eq_some_iff.1 h).1;rw[p8] at this
      rwa [getD_take this] at h) (λj' l' h=>by rw[List.getElem?_append_left (List.getElem?_eq_some_iff.1 h).1];exact h)
  ·have cR:i=g.length:=by omega
   subst cR;refine LW rfl (qN rfl (LM rfl (Mb zbG rfl (z2W hP) ?_)));rintro _ w5 ⟨rfl,rfl⟩;refine LM rfl (MW rfl rfl (MW rfl rfl (M6 rfl (M6 rfl (qM rfl (M4 rfl rfl (LM rfl (M6 rfl (M6 rfl (LU rfl (LP Tryz.func67 rfl ?_)))))))))));have fK:=hI.sl;rw[aP] at fK;exact⟨_,rfl,E,_,rfl,qA,⟨hI.ent⟩,by omega,by rw[aP];exact fK,hI.fr,hI.ext⟩
structure Fm where
 n:Nat
 u:Nat
 width:Nat
 bits:Nat
def fmC (f:Fm):List Value:=[I (f.n:Int),M7 f.u,I (f.width:Int),I (f.bits:Int)]
abbrev fmV (f:Fm):Value:= .agg (fmC f).toArray
def Ua (n u:Nat):Nat:=if u / n=0 then 0 else MF (u / n)-1
def Qj (n u:Nat):Fm:=⟨n,u,Ua n u,(u-1) / 2^Ua n u+n⟩
def Fm.high (f:Fm):Nat:=12+(f.n*f.width+7) / 8
def Fm.Re (f:Fm):Nat:=f.high+(f.bits+7) / 8
def Fm.size (f:Fm):Nat:=f.Re+4*((f.n+63) / 64)
theorem VA {n u:Nat}(hu:u<=1000000000):Ua n u<=30:=by
 unfold Ua
 split
 ·omega
 ·have h1:u / n<=u:=Nat.div_le_self _ _;have h2:MF (u / n)<=30:=Ny (by omega);omega
theorem Xu {n u:Nat}(hn:1<=n)(hu:1<=u):(u-1) / 2^Ua n u<2*n:=by
 have h2:0<2^Ua n u:=Nat.two_pow_pos _
 rw[Nat.div_lt_iff_lt_mul h2]
 unfold Ua
 split
 ·rename_i h
  have:u<n:=by
   rcases Nat.lt_or_ge u n with h1|h1
   ·exact h1
   ·have:=Nat.div_pos h1 (by omega);omega
  simp;omega
 ·rename_i h
  have h3:u / n<2^MF (u / n):=Td;have h4:MF (u / n)≠0:=λe=>by rw[e,Nat.pow_zero] at h3;exact h (Nat.lt_one_iff.1 h3)
  obtain⟨k,hk⟩:∃k,MF (u / n)=k+1:=⟨MF (u / n)-1,by omega⟩;rw[hk] at h3⊢;rw[Nat.add_sub_cancel]
  have h5:u<n*2^(k+1):=by
   have:=(Nat.div_lt_iff_lt_mul (show 0<n by omega)).1 h3
   rwa [Nat.mul_comm] at this
  rw[Nat.pow_succ] at h5;have e:n*(2^k*2)=2*n*2^k:=by rw[Nat.mul_comm (2^k) 2,<-Nat.mul_assoc,Nat.mul_comm n 2]
  omega
theorem z4W {n u:Nat}(hn:1<=n)(hu:1<=u):(Qj n u).bits<=3*n:=by
 have:=Xu hn hu
 show(u-1) / 2^Ua n u+n<=_
 omega
theorem U0 (n u:Nat)(hn:1<=n)(gW:n<=1000)(hu:1<=u)(m8:u<=1000000000)(w:World):Mm Tryz.prog 106 [I (n:Int),M7 u] w λv w'=>v=fmV (Qj n u)/\Ext w w':=by
 have uj:=VA (n:=n) m8
 have ff:=Xu hn hu
 have hq:u / n<=u:=Nat.div_le_self _ _
 obtain⟨q,sI⟩:∃q,u / n=q:=⟨_,rfl⟩
 have FC:Ua n u=if q=0 then 0 else MF q-1:=by rw[Ua,sI]
 rw[sI] at hq
 have Cc:MF q<=30:=Ny (by omega)
 refine It (e:=[(0,_),(1,_)]) Tryz.func106 rfl Tryz.ntmps106 rfl rfl (qN rfl (LV rfl rfl (O9 (cs:=[_,_,_,_]) PC rfl) ?_))
 rintro _ w1 ⟨b4,rfl,eA,ad,aM⟩
 refine qM rfl (M4 rfl rfl (qV (OJ (cs:=[_,_,_,_]) PC rfl zbB rfl rfl) (LV rfl rfl (O9 (cs:=[_,_,_,_]) PC rfl) ?_)))
 rintro _ w2 ⟨b5,rfl,gN,af,aF⟩
 have z1:=ad.size
 have z2:=af.size
 have l4:=aM.lt
 have l5:=aF.lt
 refine M1 rfl (MD (news:=[I (n:Int),M7 u,I 0,I 0]) PC rfl rfl rfl rfl aF (by simp)) ?_
 rintro w3 ⟨ik,ar⟩
 replace ik:LX w3 b5 [I (n:Int),M7 u,I 0,I 0] 210:=ik
 have dy:Ext w w3:=(ad.trans af).LJ ar (λi e=>by omega)
 have dL:=ar.LN (af.LN aM) (by omega)
 have z3:=ar.size
 refine LO (run_seq (qN rfl (LM rfl (NS rfl rfl (MC (LO (An rfl (py (run_seq (qN rfl (M4 rfl rfl (qV ((by first|exact MH rfl U3 Ns (by omega)|exact Oc rfl U3 Ns)) ?_))))))))))))
 refine qV (zbv (m:=u) (n:=n) rfl rfl rfl (by show u<2^64;omega) (by omega)) ?_
 rw[sI]
 refine M6 rfl (qM rfl (LM rfl (Nc rfl rfl (LO (MA (λe' w'=>e'=[(0,I (n:Int)),(1,M7 u),(4,ptr b4 0),(5,ptr b5 0)]/\Ext w w'/\LX w' b5 [I (n:Int),M7 u,I (Ua n u:Int),I 0] 210/\LX w' b4 [I 0,M7 0,I 0,I 0] 210) ?cu (λcu=>?cM))))))
 case cu=>
  rintro e' w4 ⟨rfl,aC,gz,cq⟩;refine qN rfl (LM rfl (qV (SM (m:=u) (n:=1) rfl rfl rfl (by show u<2^64;omega) (by omega)) ?_));refine M0 PF rfl (qV (LR U3 rfl rfl gz rfl) (qV (Qm (Ua n u) (2^Ua n u) rfl rfl (by show Ua n u<=64;omega) rfl) ?_))
  generalize I6:(u-1) / 2^Ua n u=qb at ff
  refine qV (MB rfl Ns U3 (by omega)) (LM rfl (MK rfl rfl (M0 UA rfl (M1 rfl (NC MO rfl rfl rfl gz (by simp)) ?_))));rintro w5 ⟨sJ,aj⟩;replace sJ:LX w5 b5 [I (n:Int),M7 u,I (Ua n u:Int),I ((qb+n:Nat):Int)] 210:=sJ;refine qM rfl (qV (Mk z1o rfl PC rfl (LX.cells (n:=4) sJ (news:=[_,_,_,_]) rfl) rfl) (M1 rfl (MD (news:=[I (n:Int),M7 u,I (Ua n u:Int),I ((qb+n:Nat):Int)]) PC rfl rfl rfl rfl (aj.LN cq (by omega)) (by simp)) ?_));rintro w6 ⟨bP,aR⟩;replace bP:LX w6 b4 [I (n:Int),M7 u,I (Ua n u:Int),I ((qb+n:Nat):Int)] 210:=bP;refine LO (Mj Tryz.func106 (.cell z1o rfl PC rfl (LX.cells (n:=4) bP (news:=[_,_,_,_]) rfl) rfl .nil) (⟨_,rfl,?_,(aC.LJ aj (λi e=>by omega)).LJ aR (λi e=>by omega)⟩));unfold fmV fmC Qj;rw[I6]
  rfl
 case cM=>
  refine LY rfl (λh0=>?_) (λh0=>?_)
  ·refine LQ rfl (LM rfl (Mb YJ rfl (QJ q (by omega) _) ?_));rintro _ w3 ⟨rfl,rfl⟩;have rW:MF q≠0:=λe=>by have:=Td (v:=q);rw[e] at this;omega
   refine NP rfl rfl ?_;rw[show(MF q:Int)-1=(Ua n u:Int) by rw[FC,if_neg (by omega)];omega];refine M0 PF rfl (M1 rfl (NC MO rfl rfl rfl ik (by simp)) ?_);rintro w4 ⟨gz,ax⟩;replace gz:LX w4 b5 [I (n:Int),M7 u,I (Ua n u:Int),I 0] 210:=gz;refine LO ?_;exact(cu _ _ ⟨rfl,dy.LJ ax (λi e=>by omega),gz,ax.LN dL (by omega)⟩).qb
  ·have mI:Ua n u=0:=by rw[FC,if_pos (by omega)]
   refine py ?_;exact(cu _ _ ⟨rfl,dy,by rw[mI];exact ik,dL⟩).qb
def Fm.small (f:Fm):Prop:=f.n<=100000/\f.width<=64/\f.bits<=1000000
theorem z0u (f:Fm)(hf:f.small)(w:World):Mm Tryz.prog 202 [fmV f] w λv w'=>v=I (f.high:Int)/\Ext w w':=by
 obtain⟨h1,h2,h3⟩:=hf
 have hm:f.n*f.width<=100000*64:=Nat.mul_le_mul h1 h2
 refine It (e:=[(0,_)]) Tryz.func202 rfl Tryz.ntmps202 rfl rfl (qN rfl (LV rfl rfl (NN rfl (cs:=fmC f) rfl) ?_))
 rintro _ w1 ⟨b1,rfl,bR,ad,ai⟩
 replace ai:LX w1 b1 [I (f.n:Int),M7 f.u,I (f.width:Int),I (f.bits:Int)] 210:=ai
 refine M6 rfl (qM rfl (M0 Uc rfl (qV (LR U3 rfl rfl ai rfl) (M0 PF rfl (qV (LR U3 rfl rfl ai rfl) ?_)))))
 have qh:((f.n*f.width:Nat):Int)=(f.n:Int)*(f.width:Int):=Int.natCast_mul _ _
 refine qV (SV rfl rfl (by rw[<-qh];omega)) ?_
 rw[<-qh]
 refine MK rfl rfl (qV (Tg rfl rfl (by omega)) (MK rfl rfl (LU rfl (LP Tryz.func202 rfl (⟨_,rfl,?_,ad⟩)))))
 show I (12+(((f.n*f.width:Nat):Int)+7) / 8)=I ((12+(f.n*f.width+7) / 8:Nat):Int)
 congr 1
theorem Fm.T4 {f:Fm}(hf:f.small):f.high<=10000000:=by
 obtain⟨h1,h2,h3⟩:=hf
 have hm:f.n*f.width<=100000*64:=Nat.mul_le_mul h1 h2
 unfold Fm.high
 omega
theorem z0c (f:Fm)(hf:f.small)(w:World):Mm Tryz.prog 181 [fmV f] w λv w'=>v=I (f.Re:Int)/\Ext w w':=by
 have ol:=Fm.T4 hf
 obtain⟨h1,h2,h3⟩:=id hf
 refine It (e:=[(0,_)]) Tryz.func181 rfl Tryz.ntmps181 rfl rfl (qN rfl (LV rfl rfl (NN rfl (cs:=fmC f) rfl) ?_))
 rintro _ w1 ⟨b1,rfl,bR,ad,ai⟩
 replace ai:LX w1 b1 [I (f.n:Int),M7 f.u,I (f.width:Int),I (f.bits:Int)] 210:=ai
 have hg:=Ext.Ma w1
 refine LU rfl (run_seq (NF (λw'=>Ext w1 w') rfl (qT 0 rfl (λ_ h=>Mk z1o rfl PC rfl (LX.cells (n:=4) (h.LN ai) (news:=[_,_,_,_]) rfl) rfl) hg (LS 2 rfl (Mo UA rfl) hg (qT 3 rfl (λ_ h=>LR U3 rfl rfl (h.LN ai) rfl) hg (LS 4 rfl (R9 rfl rfl (by omega)) hg (LS 5 rfl (Tg rfl rfl (by omega)) hg (Pw 1 rfl za9 rfl (z0u f hf _) ?_))))))))
 rintro _ w2 ⟨rfl,af⟩
 refine⟨hg.trans af,?_⟩
 refine LS 6 rfl (R9 rfl rfl (by omega)) (hg.trans af) (LS 7 rfl (NK rfl) (hg.trans af) (qE (LP Tryz.func181 rfl (⟨_,rfl,?_,(ad.trans hg).trans af⟩))))
 show I ((f.high:Int)+((f.bits:Int)+7) / 8)=I ((f.high+(f.bits+7) / 8:Nat):Int)
 congr 1
theorem Z0 (f:Fm)(hf:f.small)(w:World):Mm Tryz.prog 150 [fmV f] w λv w'=>v=I (f.size:Int)/\Ext w w':=by
 have ol:=Fm.T4 hf
 obtain⟨h1,h2,h3⟩:=id hf
 have fK:f.Re<=20000000:=by unfold Fm.Re;omega
 refine It (e:=[(0,_)]) Tryz.func150 rfl Tryz.ntmps150 rfl rfl (qN rfl (LV rfl rfl (NN rfl (cs:=fmC f) rfl) ?_))
 rintro _ w1 ⟨b1,rfl,bR,ad,ai⟩
 replace ai:LX w1 b1 [I (f.n:Int),M7 f.u,I (f.width:Int),I (f.bits:Int)] 210:=ai
 have hg:=Ext.Ma w1
 refine LU rfl (run_seq (NF (λw'=>Ext w1 w') rfl (qT 0 rfl (λ_ h=>Mk z1o rfl PC rfl (LX.cells (n:=4) (h.LN ai) (news:=[_,_,_,_]) rfl) rfl) hg (LS 2 rfl (Mo Uc rfl) hg (qT 3 rfl (λ_ h=>LR U3 rfl rfl (h.LN ai) rfl) hg (LS 4 rfl (R9 rfl rfl (by omega)) hg (LS 5 rfl (TF rfl rfl (by omega)) hg ?_)))))))
 rw[show(f.n:Int)+64-1=((f.n+63:Nat):Int) by omega]
 refine LS 6 rfl (Tg rfl rfl (by omega)) hg (LS 7 rfl (SV rfl rfl (by omega)) hg (Pw 1 rfl z9M rfl (z0c f hf _) ?_))
 rintro _ w2 ⟨rfl,af⟩
 refine⟨hg.trans af,?_⟩
 refine LS 8 rfl (R9 rfl rfl (by omega)) (hg.trans af) (LS 9 rfl (NK rfl) (hg.trans af) (qE (LP Tryz.func150 rfl (⟨_,rfl,?_,(ad.trans hg).trans af⟩))))
 show I ((f.Re:Int)+4*(((f.n+63:Nat):Int) / 64))=I ((f.Re+4*((f.n+63) / 64):Nat):Int)
 congr 1
theorem ZG {n u:Nat}(hn:1<=n)(gW:n<=1000)(hu:1<=u)(m8:u<=1000000000):(Qj n u).small:=by
 have h1:=z4W hn hu
 have h2:=VA (n:=n) m8
 refine⟨?_,?_,by omega⟩
 ·show n<=_;omega
 ·show Ua n u<=_;omega
theorem z35 (n last:Nat)(hn:1<=n)(gW:n<=1000)(m8:last+1<=1000000000)(w:World):Mm Tryz.prog 148 [I (n:Int),M7 last] w λv w'=>v= .tuple #[I ((Qj n (last+1)).size:Int),I 0]/\Ext w w':=by
 refine It (e:=[(0,_),(1,_)]) Tryz.func148 rfl Tryz.ntmps148 rfl rfl (qN rfl (M6 rfl (LU rfl (run_seq (LK (qN rfl (LM rfl (Nr rfl rfl (M4 rfl rfl (Nc rfl rfl (MC (ME rfl rfl (M4 rfl rfl ?_)))))))))))))
 refine Nc rfl rfl (MC (ME rfl rfl (M4 rfl rfl (NS rfl rfl (MC (LM rfl (qS (qS (ME rfl rfl (ME rfl rfl (LU rfl (An rfl (qN rfl ?_)))))))))))))
 refine LM rfl (NS rfl rfl (MC (LU rfl (Mn.qb (e:=[(0,_),(1,_),(4,_),(5,_),(25,_)]) ?_))))
 refine An rfl (py (LL (qN rfl (M4 rfl rfl (qV (QL rfl rfl) ?_)))))
 rw[Nat.mod_eq_of_lt (show last+1<18446744073709551616 by omega)]
 refine Mb z6e rfl (U0 n (last+1) hn gW (by omega) m8 _) ?_
 rintro _ w1 ⟨rfl,ad⟩
 refine Mb z9K rfl (Z0 _ (ZG hn gW (by omega) m8) _) ?_
 rintro _ w2 ⟨rfl,af⟩
 refine M6 rfl (LU rfl (LP Tryz.func148 rfl ?_))
 exact⟨_,rfl,rfl,ad.trans af⟩
theorem z4C {w:World}{a:Option Addr}{c:Nat}{l:List Nat}(hl:l.length<=1000)(hn:Nof l)(hm:∀v∈l,v<=1000000000)(hR:Rd w (.slice a l.length c) 1 l.length (l.map M7)):Mm Tryz.prog 105 [.slice a l.length c] w λv w'=>v= .bool true/\w'=w:=by
 refine It (e:=[(0,_)]) Tryz.func105 rfl Tryz.ntmps105 rfl rfl (qN rfl (LU rfl (run_seq (qN rfl (LM rfl (NX U40 rfl (Nc rfl rfl (MC (LO (An rfl (py (qN rfl (LU rfl ?_)))))))))))))
 refine run_seq (qN rfl (LM rfl (NX U40 rfl (LM rfl (LO (LK (Oe (α:=Nat×Nat) ((0,0)) (λy=>[(3,M7 y.2),(9,.slice a l.length c),(10,I (l.length:Int)),(11,I (y.1:Int))]) (λy w'=>w'=w/\y.1<=l.length/\y.2<=1000000000/\∀v,l[y.1]? =some v->y.2<=v) (λy=>l.length-y.1) ?hI ?hround)))))))
 case hI=>exact⟨rfl,Nat.zero_le _,Nat.zero_le _,λv _=>Nat.zero_le _⟩
 case hround=>
  rintro⟨i,z⟩ w4 ⟨rfl,hi,hz,zF⟩ ih;dsimp only at hi hz zF
  try dsimp only
  refine qN rfl (Nr rfl rfl (LO (run_seq (LY rfl (λh0=>?_) (λh0=>?_)))))
  ·have dv:i<l.length:=by omega
   obtain⟨v,hv⟩:∃v,l[i]? =some v:=⟨_,List.getElem?_eq_getElem dv⟩;have I7:=zF v hv;have Ce:=hm v (List.mem_of_getElem? hv)
   obtain⟨gb,go,gc',e4⟩:∃b o c',Value.slice a l.length c= .slice (some ⟨b,o,none⟩) l.length c':=by
    rcases hR.2 with⟨c,hc,h0⟩|⟨b,off,c',hc,-⟩
    ·omega
    ·exact⟨b,off,c',hc⟩
   cases e4;refine py (run_seq (LK (qN rfl (qV (MN U40 Rg rfl rfl (by omega)) (qV (Mt Ns rfl rfl (MX hR (show(l.map M7)[i]? =some (M7 v) by rw[List.getElem?_map,hv];rfl))) ?_)))));refine LU rfl (run_seq (qN rfl (M4 rfl rfl (Nr rfl rfl (MC (M4 rfl rfl (Nc rfl rfl (MC (ME rfl rfl (LO (An rfl (py (LQ rfl ?_)))))))))))));refine LM rfl (LU rfl (LL (LQ rfl (MK rfl rfl (LM rfl (LO ((ih (i+1,v) _ ⟨rfl,dv,Ce,λu hu=>?_⟩ (by dsimp only;omega)).qb)))))));obtain⟨a1,a2⟩:=List.getElem?_eq_some_iff.1 hv;obtain⟨b1,b2⟩:=List.getElem?_eq_some_iff.1 hu;have:=List.pairwise_iff_getElem.1 hn i (i+1) a1 b1 (by omega)
   rwa [a2,b2] at this
  ·refine LW rfl (qN rfl (LU rfl (LP Tryz.func105 rfl ?_)));exact⟨_,rfl,rfl,rfl⟩
def OQ (k:Nat)(l:List Nat):List Bool:=l.flatMap λv=>bitsN k (v%2^k)
def restB (k:Nat):List Nat->List Bool
 |[]=>[]
 |v::_=>bitsN 32 (v / 2^k)
theorem z5Y (k:Nat)(l:List Nat)(v:Nat):OQ k (l++[v])=OQ k l++bitsN k (v%2^k):=by simp[OQ]
theorem R3 (k:Nat):∀l:List Nat,(OQ k l).length=l.length*k
 |[]=>by simp[OQ]
 | v :: l => by
   show(bitsN k (v%2^k)++OQ k l).length=_;rw[List.length_append,R3 k l,bitsN_length,List.length_cons,Nat.add_mul];omega
theorem z0Q (k:Nat):∀(l:List Nat) (len i v:Nat),Nof (l++[v])->(∀x,(l++[v]).head? =some x->len<=x / 2^k+i)->
  len+(hiB k len i l).length<=v / 2^k+(i+l.length)/\hiB k len i (l++[v])=hiB k len i l++(List.replicate (v / 2^k+(i+l.length)-(len+(hiB k len i l).length)) false++[true])
 | [], len, i, v, _, hl => by
   have:=hl v rfl;refine⟨by simp[hiB];omega,?_⟩
   simp[hiB]
 | x :: r, len, i, v, hn, hl => by
   have hx:=hl x rfl;rw[List.cons_append] at hn;obtain⟨n1,n2⟩:=List.pairwise_cons.1 hn
   obtain⟨h1,h2⟩:=z0Q k r (x / 2^k+i+1) (i+1) v n2 (λy hy=>by
    have oo:y∈r++[v]:=List.mem_of_mem_head? hy;have:=Nat.div_le_div_right (c:=2^k) (n1 y oo)
    omega)
   rw[List.cons_append,hiB,hiB,h2,List.length_append,List.length_replicate,List.length_cons,List.length_cons];refine⟨by omega,?_⟩;rw[List.append_assoc,List.cons_append,show v / 2^k+(i+1+r.length)-(x / 2^k+i+1+(hiB k (x / 2^k+i+1) (i+1) r).length)=v / 2^k+(i+(r.length+1))-(len+(x / 2^k+i-len+((hiB k (x / 2^k+i+1) (i+1) r).length+1))) by omega]
theorem z1R (k:Nat)(l:List Nat)(v:Nat):restB k (l++[v])=restB k l++if l.length=0 then bitsN 32 (v / 2^k) else []:=by
 cases l with
 |nil=>simp[restB]
 |cons x l=>simp[restB]
def UK (l:List Nat)(f:Fm):Bytes:=Mi (bitsN 32 f.n++bitsN 64 f.u)++Mi (OQ f.width l)++Mi (hiB f.width 0 0 l)++Mi (restB f.width l)
theorem z6T {b:Nat}:∀{l:List Nat},(∀x∈l,x<=b)->l.sum<=l.length*b
 |[],_=>by simp
 | x :: l, h => by
   have h1:=h x List.mem_cons_self;have h2:=z6T (λy hy=>h y (List.mem_cons_of_mem x hy));rw[List.sum_cons,List.length_cons,Nat.add_mul];omega
theorem z5P (k:Nat)(l:List Nat):(restB k l).length<=32:=by
 cases l with
 |nil=>simp[restB]
 |cons v l=>simp[restB]
theorem Xz (k:Nat){l:List Nat}(hn:Nof l){z:Nat}(hz:l[l.length-1]? =some z):(hiB k 0 0 l).length=z / 2^k+l.length:=by
 have:=z4i k l 0 0 hn (λx hx=>Nat.zero_le _) z (by rw[List.getLast?_eq_getElem?];exact hz)
 omega
/-! ### Three writers side by side -/
def z69 (A B:Nat->Prop):Prop:=∀k,A k->¬B k
structure ZP (w0 w:World)(b5:Nat)(f:Fm)(p1 p2 p3:Nat)(l1 l2 l3:List Bool):Prop where
 ex:∃F1 F2 F3:Nat->Prop,UH w p1 l1 F1/\UH w p2 l2 F2/\UH w p3 l3 F3/\z69 F1 F2/\z69 F2 F3/\z69 F3 F1/\∀k,F1 k\/F2 k\/F3 k->w0.heap.size<=k/\k≠b5
 ext:Ext w0 w
 LN:LX w b5 (fmC f) 210
section
variable {w0 w:World}{b5:Nat}{f:Fm}{p1 p2 p3:Nat}{l1 l2 l3:List Bool}
theorem ZP.rot (h:ZP w0 w b5 f p1 p2 p3 l1 l2 l3):ZP w0 w b5 f p2 p3 p1 l2 l3 l1:=by
 obtain⟨⟨F1,F2,F3,h1,h2,h3,h4,h5,h6,h7⟩,hx,hb⟩:=h
 exact⟨⟨F2,F3,F1,h2,h3,h1,h5,h6,h4,λk hk=>h7 k (by rcases hk with e|e|e;exact .inr (.inl e);exact .inr (.inr e);exact .inl e)⟩,hx,hb⟩
theorem ZP.on (h:ZP w0 w b5 f p1 p2 p3 l1 l2 l3){w2:World}(hx:Ext w w2):ZP w0 w2 b5 f p1 p2 p3 l1 l2 l3:=by
 obtain⟨⟨F1,F2,F3,h1,h2,h3,h4,h5,h6,h7⟩,il,hb⟩:=h
 exact⟨⟨F1,F2,F3,h1.ext hx,h2.ext hx,h3.ext hx,h4,h5,h6,h7⟩,il.trans hx,hx.LN hb⟩
theorem ZP.z8z (h:ZP w0 w b5 f p1 p2 p3 l1 l2 l3):∃F1,UH w p1 l1 F1/\¬F1 b5/\(∀w2 l,WrR p1 F1 w w2 l->ZP w0 w2 b5 f p1 p2 p3 l l2 l3):=by
 obtain⟨⟨F1,F2,F3,h1,h2,h3,h4,h5,h6,h7⟩,il,hb⟩:=h
 refine⟨F1,h1,λe=>(h7 b5 (.inl e)).2 rfl,λw2 l hr=>?_⟩
 obtain⟨F1',g1,g2,g3⟩:=hr
 have z:=il.size
 have lb:=hb.lt
 refine⟨⟨F1',F2,F3,g1,h2.kp g2 (λi hi e=>h4 i e hi),h3.kp g2 (λi hi e=>h6 i hi e),λk hk e=>?_,h5,λk hk e=>?_,λk hk=>?_⟩,il.LJ g2 (λk hk=>(h7 k (.inl hk)).1),g2.LN hb (λe=>(h7 b5 (.inl e)).2 rfl)⟩
 ·rcases g3 k hk with e1|e1
  ·exact h4 k e1 e
  ·have:=h2.lt e;omega
 ·rcases g3 k e with e1|e1
  ·exact h6 k hk e1
  ·have:=h3.lt hk;omega
 ·rcases hk with hk|hk
  ·rcases g3 k hk with e1|e1
   ·exact h7 k (.inl e1)
   ·exact⟨by omega,by omega⟩
  ·exact h7 k (.inr hk)
theorem ZP.z8x (h:ZP w0 w b5 f p1 p2 p3 l1 l2 l3):∃F2,UH w p2 l2 F2/\(∀w2 l,WrR p2 F2 w w2 l->ZP w0 w2 b5 f p1 p2 p3 l1 l l3):=by
 obtain⟨F2,h1,-,h2⟩:=h.rot.z8z
 exact⟨F2,h1,λw2 l hr=>(h2 w2 l hr).rot.rot⟩
theorem ZP.zcG (h:ZP w0 w b5 f p1 p2 p3 l1 l2 l3):∃F3,UH w p3 l3 F3/\(∀w2 l,WrR p3 F3 w w2 l->ZP w0 w2 b5 f p1 p2 p3 l1 l2 l):=by
 obtain⟨F3,h1,-,h2⟩:=h.rot.rot.z8z
 exact⟨F3,h1,λw2 l hr=>(h2 w2 l hr).rot⟩
end
theorem z0M {w:World}{a:Option Addr}{c:Nat}{l:List Nat}(cK:1<=l.length)(hn:l.length<=64)(lN:Nof l)(hm:∀v∈l,v<=999999999)(hR:Rd w (.slice a l.length c) 1 l.length (l.map M7)){z:Nat}(hz:l[l.length-1]? =some z):
  Mm Tryz.prog 70 [.slice a l.length c] w λv w'=>v= .tuple #[S (UK l (Qj l.length (z+1))),I 0]/\Ext w w':=by
 have L4:=hm z (List.mem_of_getElem? hz)
 have FD:∀v∈l,v<=z:=λv hv=>by
  obtain⟨j,hj⟩:=List.mem_iff_getElem?.1 hv;obtain⟨a1,a2⟩:=List.getElem?_eq_some_iff.1 hj;obtain⟨b1,b2⟩:=List.getElem?_eq_some_iff.1 hz;rcases Nat.lt_or_ge j (l.length-1) with h| h
  ·have:=List.pairwise_iff_getElem.1 lN j (l.length-1) a1 b1 h
   rwa [a2,b2] at this
  ·have e:j=l.length-1:=by omega
   subst e;rw[hz] at hj;cases hj;exact Nat.le_refl _
 have uj:=VA (n:=l.length) (u:=z+1) (by omega)
 have nl:=Xu (n:=l.length) (u:=z+1) cK (by omega)
 rw[Nat.add_sub_cancel] at nl
 obtain⟨gb,go,gc',e4⟩:∃b o c',Value.slice a l.length c= .slice (some ⟨b,o,none⟩) l.length c':=by
  rcases hR.2 with⟨c,hc,h0⟩|⟨b,off,c',hc,-⟩
  ·omega
  ·exact⟨b,off,c',hc⟩
 cases e4
 refine It (e:=[(0,_)]) Tryz.func70 rfl Tryz.ntmps70 rfl rfl (qN rfl (M6 rfl (LU rfl (run_seq (qN rfl (LM rfl (Mb zdZ rfl (z4C (by omega) lN (λv hv=>by have:=hm v hv;omega) hR) ?_)))))))
 rintro _ w ⟨rfl,rfl⟩
 refine qV ((by first|exact ML rfl|exact Oh rfl)) ?_
 refine LO (An rfl (py (qN rfl (LU rfl (run_seq (qN rfl (LM rfl (NX U40 rfl (Nc rfl rfl (LO (LY rfl (λh0=>?_) (λh0=>?_))))))))))))
 ·refine LQ rfl (M4 rfl rfl (NX U40 rfl (NP rfl rfl ?_)));rw[show(l.length:Int)-1=((l.length-1:Nat):Int) by omega];refine qV (MN U40 Rg rfl rfl (by omega)) (qV (Mt Ns rfl rfl (MX hR (show(l.map M7)[l.length-1]? =some (M7 z) by rw[List.getElem?_map,hz];rfl))) ?_);refine qV (QL rfl rfl) ?_;rw[Nat.mod_eq_of_lt (show z+1<18446744073709551616 by omega)];refine M6 rfl (qM rfl (LM rfl (NX U40 rfl (LM rfl (Mb z6e rfl (U0 l.length (z+1) cK (by omega) (by omega) (by omega) _) ?_)))));rintro _ w1 ⟨rfl,ad⟩
  generalize hf:Qj l.length (z+1)=f
  have I8:f.width=Ua l.length (z+1):=by rw[<-hf];rfl
  have oU:f.n=l.length:=by rw[<-hf];rfl
  have zH:f.u=z+1:=by rw[<-hf];rfl
  rw[<-I8] at uj nl;refine LV rfl rfl (O9 (cs:=[_,_,_,_]) PC rfl) ?_;rintro _ w2 ⟨b5,rfl,gN,af,aF⟩;refine M1 rfl (MD (news:=fmC f) PC rfl rfl rfl rfl aF (by simp)) ?_;rintro w3 ⟨ik,ar⟩;replace ik:LX w3 b5 (fmC f) 210:=ik;have z1:=ad.size;have z2:=af.size;have lb5:=ik.lt;have aO:Ext w1 w3:=af.LJ ar (λi e=>by omega);have z3:=aO.size;refine qM rfl (Mb WV rfl (QX w3) ?_);rintro _ w4 ⟨p1,F1,rfl,Cf,aC,o6⟩;refine Mb WV rfl (QX w4) ?_;rintro _ w5 ⟨p2,F2,rfl,FE,aT,FF⟩;refine Mb WV rfl (QX w5) ?_;rintro _ w6 ⟨p3,F3,rfl,lF,aN,pi⟩;have z4:=aC.size;have z5:=aT.size
  have I9:ZP w w6 b5 f p1 p2 p3 [] [] []:=⟨⟨F1,F2,F3,(Cf.ext aT).ext aN,FE.ext aN,lF,λk h1 h2=>by have:=Cf.lt h1;have:=FF k h2;omega,λk h1 h2=>by have:=FE.lt h1;have:=pi k h2;omega,λk h1 h2=>by have:=Cf.lt h2;have:=pi k h1;omega,λk hk=>by
   rcases hk with h|h| h
   ·have:=o6 k h;omega
   ·have:=FF k h;omega
   ·have:=pi k h;omega⟩,(((ad.trans aO).trans aC).trans aT).trans aN,aN.LN (aT.LN (aC.LN ik))⟩
  refine M6 rfl (M6 rfl (LU rfl (Mn.qb (e:=[(0,_),(2,_),(3,_),(4,_),(5,_),(6,_),(7,_),(8,_)]) ?_)));refine run_seq (qN rfl (LM rfl (NX U40 rfl (LM rfl (LO (LK (Oe (α:=Nat) (0) (λi=>[(4,M7 (z+1)),(5,ptr b5 0),(6,ptr p1 0),(7,ptr p2 0),(8,ptr p3 0),(39,.slice (some ⟨gb,go,none⟩) l.length c),(40,I (l.length:Int)),(41,I (i:Int))]) (λi w'=>ZP w w' b5 f p1 p2 p3 (OQ f.width (l.take i)) (hiB f.width 0 0 (l.take i)) (restB f.width (l.take i))/\i<=l.length) (λi=>l.length-i) ?hI ?hround)))))))
  case hI=>exact⟨I9,Nat.zero_le _⟩
  case hround =>
   rintro i w7 ⟨hE,hi⟩ ih
   try dsimp only
   refine qN rfl (Nr rfl rfl (LO (run_seq (LY rfl (λh1=>?_) (λh1=>?_)))))
   ·have dv:i<l.length:=by omega
    obtain⟨v,hv⟩:∃v,l[i]? =some v:=⟨_,List.getElem?_eq_getElem dv⟩;have Ce:=FD v (List.mem_of_getElem? hv);have FG:v / 2^f.width<=z / 2^f.width:=Nat.div_le_div_right Ce;have p8:(l.take i).length=i:=by rw[List.length_take];omega
    obtain⟨dP,cS⟩:=z0Q f.width (l.take i) 0 0 v (by rw[<-MG hv];exact lN.sublist (List.take_sublist _ _)) (λx hx=>Nat.zero_le _);rw[<-MG hv,Nat.zero_add,Nat.zero_add,p8] at cS;rw[Nat.zero_add,Nat.zero_add,p8] at dP;have Ia:(l.take i).length*f.width<=64*30:=Nat.mul_le_mul (by omega) (by omega);have hg:=Ext.Ma w7;obtain⟨F1',Cg,vY,fx⟩:=(hE.on hg).z8z;have vZ:LX w7 b5 [I (f.n:Int),M7 f.u,I (f.width:Int),I (f.bits:Int)] 210:=hE.LN;have rV:=Nat.two_pow_pos f.width;have L5:2^f.width<=2^30:=Nat.pow_le_pow_right (by decide) uj;refine py (run_seq (LK (qN rfl (LM rfl (qV (MN U40 Rg rfl rfl (by omega)) (qV (Mt Ns rfl rfl (MX (hR.ext hE.ext) (show(l.map M7)[i]? =some (M7 v) by rw[List.getElem?_map,hv];rfl))) ?_))))));refine M6 rfl (LU rfl (run_seq (NF (λw'=>Kp F1' w7 w') rfl (M9 0 rfl rfl (hg.kp) (M9 1 rfl rfl (hg.kp) (LS 2 rfl (Mo PF rfl) (hg.kp) (qT 3 rfl (λ_ h=>LR U3 rfl rfl (h.LN vZ vY) rfl) (hg.kp) (LS 7 rfl (Mo PF rfl) (hg.kp) (qT 8 rfl (λ_ h=>LR U3 rfl rfl (h.LN vZ vY) rfl) (hg.kp) (LS 4 rfl (NJ f.width (2^f.width) rfl rfl (by omega) rfl) (hg.kp) ?_))))))))));rw[show 1*2^f.width%18446744073709551616=2^f.width by rw[Nat.one_mul];exact Nat.mod_eq_of_lt (by omega)];refine LS 5 rfl (SM (m:=2^f.width) (n:=1) rfl rfl rfl (by show 2^f.width<2^64;omega) (by omega)) (hg.kp) ?_;refine LS 6 rfl (QT rfl rfl (by omega) (by omega)) (hg.kp) ?_;rw[Nat.and_two_pow_sub_one_eq_mod];refine Pw 9 rfl SE rfl (OI Cg (v%2^f.width) f.width (by omega) (Nat.mod_lt _ rV) (by rw[R3];omega)) ?_;rintro _ w8 ⟨rfl,fm⟩;refine⟨hg.kp.trans fm.choose_spec.2.1,?_⟩;have zI:=fx _ _ fm;rw[<-z5Y,<-MG hv] at zI;have sK:LX w8 b5 [I (f.n:Int),M7 f.u,I (f.width:Int),I (f.bits:Int)] 210:=zI.LN;obtain⟨F2',pw,eI⟩:=zI.z8x;refine qE (qN rfl (LM rfl (M0 PF rfl (qV (LR U3 rfl rfl sK rfl) (qV (Qm f.width (2^f.width) rfl rfl (by show f.width<=64;omega) rfl) ?_)))));have eg:=z1R f.width (l.take i) v;rw[<-MG hv,p8] at eg
    generalize v / 2^f.width=vq at dP cS FG eg
    generalize z / 2^f.width=zq at FG nl
    refine qV (MB rfl Ns U3 (by omega)) (LM rfl (MK rfl rfl ?_));rw[show(vq:Int)+(i:Int)=((vq+i:Nat):Int) by omega];refine LU rfl (run_seq (qN rfl (M4 rfl rfl (Mb Yz rfl (RS pw) ?_))));rintro _ w8 ⟨rfl,rfl⟩;refine NP rfl rfl ?_
    generalize Ch:(hiB f.width 0 0 (l.take i)).length=HL at dP cS
    rw[show((vq+i:Nat):Int)-(HL:Int)=((vq+i-(HL+0):Nat):Int) by omega];refine LU rfl (LK (Oe (α:=Nat) (0) (λy=>[(4,M7 (z+1)),(5,ptr b5 0),(6,ptr p1 0),(7,ptr p2 0),(8,ptr p3 0),(9,I (i:Int)),(11,I ((vq+i:Nat):Int)),(12,I ((vq+i-(HL+y):Nat):Int)),(39,.slice (some ⟨gb,go,none⟩) l.length c),(40,I (l.length:Int)),(41,I (i:Int))]) (λy w'=>ZP w w' b5 f p1 p2 p3 (OQ f.width (l.take (i+1))) (hiB f.width 0 0 (l.take i)++List.replicate y false) (restB f.width (l.take i))/\HL+y<=vq+i) (λy=>vq+i-(HL+y)) ?hI ?hround))
    case hI=>exact⟨by simpa using zI,dP⟩
    case hround=>
     rintro y w9 ⟨Ib,hy⟩ ih2
     try dsimp only
     obtain⟨F2',pw,eI⟩:=Ib.z8x;refine run_seq (qN rfl (LM rfl (Nc rfl rfl (LO (LY rfl (λh2=>?_) (λh2=>?_))))))
     ·obtain⟨m,oq,dz,kQ,FH⟩:∃m,min (vq+i-(HL+y)) 64=m/\1<=m/\m<=64/\HL+y+m<=vq+i:=⟨_,rfl,by omega,by omega,by omega⟩;refine py (run_seq (LK (LQ rfl (M4 rfl rfl (qV (ymi rfl rfl) ?_)))));rw[show min ((vq+i-(HL+y):Nat):Int) 64=(m:Int) by omega];refine Mb SE rfl (OI pw 0 m kQ (Nat.two_pow_pos _) (by rw[List.length_append,List.length_replicate,Ch];omega)) ?_;rintro _ w10 ⟨rfl,nn⟩;have jY:=eI _ _ nn;rw[RW,List.append_assoc,List.replicate_append_replicate] at jY;obtain⟨F2'',wc,-⟩:=jY.z8x;refine LO (LL (LQ rfl (M4 rfl rfl (Mb Yz rfl (RS wc) ?_))));rintro _ w10 ⟨rfl,rfl⟩;rw[show(hiB f.width 0 0 (l.take i)++List.replicate (y+m) false).length=HL+(y+m) by rw[List.length_append,List.length_replicate,Ch]];refine NP rfl rfl ?_;rw[show((vq+i:Nat):Int)-((HL+(y+m):Nat):Int)=((vq+i-(HL+(y+m)):Nat):Int) by omega];refine LU rfl ?_;exact(ih2 (y+m) _ ⟨jY,by omega⟩ (by omega)).qb
     ·have Ic:y=vq+i-HL:=by omega
      subst Ic;refine LW rfl (qN rfl (LM rfl (Mb SE rfl (OI pw 1 1 (by decide) (by decide) (by rw[List.length_append,List.length_replicate,Ch];omega)) ?_)));rintro _ w10 ⟨rfl,nn⟩;have jY:=eI _ _ nn;rw[show bitsN 1 1=[true] from rfl,List.append_assoc,<-cS] at jY;refine qM rfl (LM rfl (qV (yre rfl rfl (by omega)) (NS rfl rfl (LO (LY rfl (λh3=>?_) (λh3=>?_))))))
      ·have jO:i=0:=by omega
       obtain⟨F3',Ci,lH⟩:=jY.zcG;refine LQ rfl (M4 rfl rfl (qV ((by first|exact MH rfl U3 Ns (by omega)|exact Oc rfl U3 Ns)) ?_));refine Mb SE rfl (OI Ci (vq+i) 32 (by decide) (by show _<2^32;omega) (by rw[jO];show 0+32<=_;omega)) ?_;rintro _ w11 ⟨rfl,Cj⟩;have lO:=lH _ _ Cj;refine LO (LL (LQ rfl (MK rfl rfl (LM rfl (LO ((ih (i+1) _ ⟨?_,dv⟩ (by omega)).qb))))));rw[eg,if_pos jO];rw[show vq+i=vq by omega] at lO;exact lO
      ·refine py (LL (LQ rfl (MK rfl rfl (LM rfl (LO ((ih (i+1) _ ⟨?_,dv⟩ (by omega)).qb))))));rw[eg,if_neg (by omega),List.append_nil];exact jY
   ·have cR:i=l.length:=by omega
    subst cR;rw[List.take_length] at hE;refine LW rfl (qN rfl (Mb WV rfl (QX w7) ?_));rintro _ w8 ⟨p4,F4,rfl,lD,cV,FI⟩;have sK:LX w8 b5 [I (f.n:Int),M7 f.u,I (f.width:Int),I (f.bits:Int)] 210:=(hE.on cV).LN;refine M6 rfl (qM rfl (LM rfl (M0 Uc rfl (qV (LR U3 rfl rfl sK rfl) (qV ((by first|exact MH rfl U3 Ns (by omega)|exact Oc rfl U3 Ns)) ?_)))));refine Mb SE rfl (OI lD f.n 32 (by decide) (by show _<2^32;omega) (by simp)) ?_;rintro _ w9 ⟨rfl,F5,zJ,aL,ui⟩;have im:Ext w7 w9:=cV.LJ aL FI;have z79:=im.size;refine qM rfl (M4 rfl rfl (Mb SE rfl (OI zJ (z+1) 64 (by decide) (by show _<2^64;omega) (by simp)) ?_));rintro _ w10 ⟨rfl,F6,kY,aw,L6⟩
    have qC:Ext w7 w10:=im.LJ aw (λk hk=>by
     rcases ui k hk with e| e
     ·exact FI k e
     ·have:=cV.size;omega)
    rw[List.nil_append,<-zH] at kY;refine qM rfl (LU rfl (run_seq (qN rfl (M4 rfl rfl (M4 rfl rfl (LV rfl rfl (Uu (cs:=[_,_,_,_]) (zs:=[Value.pointer none,Value.pointer none,Value.pointer none,Value.pointer none]) zbe z4a rfl (by kernel_rfl) rfl rfl rfl (by decide)) ?_))))));rintro _ w11 ⟨b100,rfl,⟨FJ,aQ,FK⟩,wg⟩;have lO:=hE.on (qC.trans aQ);obtain⟨tx,iE⟩:∃tx:List Bytes,tx=[Mi (bitsN 32 f.n++bitsN 64 f.u),Mi (OQ f.width l),Mi (hiB f.width 0 0 l),Mi (restB f.width l)]:=⟨_,rfl⟩
    have mF:∀j,(List.take j (List.map List.length tx)).sum<=4000:=λj=>by
     have h1:∀x∈List.take j (List.map List.length tx),x<=1000:=λx hx=>by
      have af:=List.mem_of_mem_take hx;rw[iE] at af;have eT:(OQ f.width l).length<=64*30:=by rw[R3];exact Nat.mul_le_mul hn (by omega)
      have ol:=Xz f.width lN hz;have gM:=z5P f.width l;simp only[List.map_cons,List.map_nil,Mv,List.length_append,bitsN_length] at af;simp only[List.mem_cons,List.not_mem_nil,or_false] at af
      generalize z / 2^f.width=zq at nl ol
      omega
     have h2:=z6T h1;have h3:(List.take j (List.map List.length tx)).length<=4:=by rw[List.length_take,List.length_map,iE];simp;omega
     omega
    have dZ:∀(j:Nat) (x:Bytes),tx[j]? =some x->x.length<=4000:=λj x hx=>by
     have h1:=mF (j+1);rw[MG (q:=x.length) (by rw[List.getElem?_map,hx];rfl),List.sum_append] at h1;simp at h1;omega
    have hq:∀j,j<4->∃q bs F,([ptr p4 0,ptr p1 0,ptr p2 0,ptr p3 0]:List Value)[j]? =some (ptr q 0)/\tx[j]? =some (Mi bs)/\UH w11 q bs F:=λj hj=>by
     obtain⟨F1,h1,-,-⟩:=lO.z8z;obtain⟨F2,h2,-⟩:=lO.z8x;obtain⟨F3,h3,-⟩:=lO.zcG;rw[iE];have Ck:j=0\/j=1\/j=2\/j=3:=by omega
     rcases Ck with e|e|e|e<;>subst e
     ·exact⟨p4,_,_,rfl,rfl,kY.ext aQ⟩
     ·exact⟨p1,_,_,rfl,rfl,h1⟩
     ·exact⟨p2,_,_,rfl,rfl,h2⟩
     ·exact⟨p3,_,_,rfl,rfl,h3⟩
    refine NX zbe rfl (LM rfl (LO (Mn.qb (e:=[(14,_),(100,_),(101,_),(102,_)]) ?_)));refine LK (Oe (α:=Nat) (0) (λj=>[(14,S ((tx.take j).flatten)),(100,.slice (some ⟨b100,0,none⟩) 4 4),(101,I 4),(102,I (j:Int))]) (λj w'=>w'=w11/\j<=4) (λj=>4-j) ?hI ?hround)
    case hI=>exact⟨rfl,Nat.zero_le _⟩
    case hround=>
     rintro j w12 ⟨rfl,hj⟩ ih2
     try dsimp only
     refine qN rfl (Nr rfl rfl (LO (run_seq (LY rfl (λh2=>?_) (λh2=>?_)))))
     ·obtain⟨q,bs,F,g1,g2,g3⟩:=hq j (by omega);have L7:=mF j;have L8:=dZ j _ g2;refine py (run_seq (LK (qN rfl (qV (MN zbe z4a rfl rfl (by omega)) (qV (Mt Zo rfl rfl (MX wg.rd g1)) (M6 rfl (qM rfl (LM rfl (Mb z42 rfl (Tj g3) ?_)))))))));rintro _ w12 ⟨rfl,rfl⟩;refine LM rfl (MW rfl rfl (qV (NO (v:=I 0) rfl rfl) (M6 rfl (LU rfl (run_seq (qN rfl (LM rfl (MY rfl rfl (LO (An rfl (py (LQ rfl (M4 rfl rfl ?_)))))))))))));refine qV (SQ rfl rfl (by first|omega|(simp;done)|(simp;omega))) ?_;refine LU rfl (LL (LQ rfl (MK rfl rfl (LM rfl (LO ?_)))));rw[show(tx.take j).flatten++Mi bs=(tx.take (j+1)).flatten by rw[MG g2,List.flatten_append];simp];exact(ih2 (j+1) _ ⟨rfl,by omega⟩ (by omega)).qb
     ·have Ck:j=4:=by omega
      subst Ck;refine LW rfl (qN rfl (LM rfl (M6 rfl (LU rfl (LP Tryz.func70 rfl (⟨_,rfl,?_,(hE.ext.trans qC).trans aQ⟩))))));rw[iE];simp[resVal,UK]
 ·omega
structure PHd where
 n:Nat
 m:Nat
 p:MZ
 bits:Nat
def hdC (h:PHd):List Value:=[I (h.n:Int),I (h.m:Int),I (h.p.Mh:Int),I (h.p.chain:Int),I (h.p.interval:Int),I (h.p.zeta:Int),I (h.p.most:Int),I (h.bits:Int)]
abbrev hdV (h:PHd):Value:= .agg (hdC h).toArray
structure PHd.N4 (h:PHd):Prop where
 n1:1<=h.n
 n2:h.n<=65536
 m:h.m<=1048576
 bits:h.bits<=134217728
 p:h.p.N4
def Va (h:PHd):List (Nat×Nat):=[(h.n,32),(h.m,32),(h.p.Mh,8),(h.p.chain,8),(h.p.interval,8),(h.p.zeta,8),(h.p.most,32),(h.bits,64)]
def NL (l:List (Nat×Nat)):List Bool:=l.flatMap λq=>bitsN q.2 q.1
def z3r:Bytes:=[119,116,108,49]
def hdT (h:PHd):Bytes:=z3r++Mi (NL (Va h))
theorem R0 (h:PHd):(NL (Va h)).length=192:=by
 simp[NL,Va]
theorem Th (h:PHd):(hdT h).length=28:=by
 unfold hdT
 rw[List.length_append,Mv,R0];rfl
theorem TX (h:PHd)(hh:h.N4)(w:World):Mm Tryz.prog 101 [hdV h] w λu w'=>u=I 0/\Ext w w':=by
 obtain⟨g1,g2,g3,g4,g5⟩:=hh
 refine It (e:=[(0,_)]) Tryz.func101 rfl Tryz.ntmps101 rfl rfl (qN rfl (LV rfl rfl (NN rfl (cs:=hdC h) rfl) ?_))
 rintro _ w1 ⟨b1,rfl,bR,ad,ai⟩
 replace ai:LX w1 b1 [I (h.n:Int),I (h.m:Int),I (h.p.Mh:Int),I (h.p.chain:Int),I (h.p.interval:Int),I (h.p.zeta:Int),I (h.p.most:Int),I (h.bits:Int)] 128:=ai
 refine LU rfl (run_seq (LK (run_seq (qN rfl (M0 Qw rfl (qV (LR U3 rfl rfl ai rfl) (Nr rfl rfl (MC (LM rfl (M0 Qw rfl (qV (LR U3 rfl rfl ai rfl) (Nc rfl rfl (MC ?_)))))))))))))
 refine ME rfl rfl (LU rfl (An rfl (qN rfl (M0 Zh rfl (qV (LR U3 rfl rfl ai rfl) (Nr rfl rfl (MC (LM rfl (M0 Zh rfl (qV (LR U3 rfl rfl ai rfl) (Nc rfl rfl (MC (ME rfl rfl ?_)))))))))))))
 refine LU rfl (An rfl (qN rfl (M0 Rp rfl (qV (LR U3 rfl rfl ai rfl) (Nr rfl rfl (MC (LM rfl (M0 Rp rfl (qV (LR U3 rfl rfl ai rfl) (Nc rfl rfl (MC (ME rfl rfl (LU rfl ?_)))))))))))))
 refine Mn.qb (e:=[(1,_),(2,_),(3,_)]) ?_
 refine An rfl (LQ rfl (M0 Qw rfl (qV (LR U3 rfl rfl ai rfl) (NS rfl rfl (MC (LM rfl (qS (qS (qS (qS (qS (qS (ME rfl rfl ?_)))))))))))))
 refine LU rfl (An rfl (py (LL (qN rfl (M0 Us rfl (qV (Mk (news:=Rz h.p) Xi rfl O3 rfl (ai.cells (i:=2) (n:=5) rfl) rfl) (Mb z9P rfl (W3 h.p g5 _) ?_)))))))
 rintro _ w2 ⟨rfl,af⟩
 refine LU rfl (LP Tryz.func101 rfl ?_)
 exact⟨_,rfl,rfl,ad.trans af⟩
theorem z55 (h:PHd)(hh:h.N4)(w:World):Mm Tryz.prog 69 [hdV h] w λu w'=>u= .tuple #[S (hdT h),I 0]/\Ext w w':=by
 obtain⟨g1,g2,g3,g4,g5⟩:=id hh
 obtain⟨q1,q2,q3⟩:=id g5
 obtain⟨r1,r2,r3,r4⟩:=id q1
 have r1':h.p.Mh<=16:=r1
 have r2':h.p.interval<=64:=by
  have:h.p.interval=0\/2<=h.p.interval/\h.p.interval<=64:=r2;omega
 have r4':h.p.zeta<=16:=r4
 refine It (e:=[(0,_)]) Tryz.func69 rfl Tryz.ntmps69 rfl rfl (qN rfl (LV rfl rfl (NN rfl (cs:=hdC h) rfl) ?_))
 rintro _ w1 ⟨b1,rfl,bR,ad,ai⟩
 replace ai:LX w1 b1 [I (h.n:Int),I (h.m:Int),I (h.p.Mh:Int),I (h.p.chain:Int),I (h.p.interval:Int),I (h.p.zeta:Int),I (h.p.most:Int),I (h.bits:Int)] 128:=ai
 refine M6 rfl (LU rfl (run_seq (qN rfl (qV (Mk (news:=hdC h) z2Q rfl Qh rfl (ai.cells (n:=8) rfl) rfl) (Mb z73 rfl (TX h hh _) ?_)))))
 rintro _ w2 ⟨rfl,af⟩
 refine M6 rfl (qM rfl (LM rfl (MY rfl rfl (LO (An rfl (py (qN rfl (Mb WV rfl (QX w2) ?_))))))))
 rintro _ w3 ⟨wp,F,rfl,lF,ah,pi⟩
 have aO:=af.trans ah
 have ev:=aO.LN ai
 refine M6 rfl (qM rfl (M0 Us rfl (qV (Mk (news:=Rz h.p) Xi rfl O3 rfl (ev.cells (i:=2) (n:=5) rfl) rfl) (LV rfl rfl (O9 (cs:=[_,_,_,_,_]) O3 rfl) ?_))))
 rintro _ w4 ⟨b6,rfl,nY,aC,aX⟩
 refine M1 rfl (MD (news:=Rz h.p) O3 rfl rfl rfl rfl aX (by simp)) ?_
 rintro w5 ⟨dW,aj⟩
 replace dW:LX w5 b6 [I (h.p.Mh:Int),I (h.p.chain:Int),I (h.p.interval:Int),I (h.p.zeta:Int),I (h.p.most:Int)] 77:=dW
 have cm:Ext w3 w5:=aC.LJ aj (λi e=>by omega)
 have dM:=cm.LN ev
 refine LO (run_seq (qN rfl (M0 Qw rfl (qV ((by first|exact LR U3 rfl rfl dM rfl|exact LR U3 rfl rfl dW rfl)) ?_))))
 refine qV (OJ (cs:=[_,_]) RF rfl We rfl rfl) (M0 Zh rfl (qV ((by first|exact LR U3 rfl rfl dM rfl|exact LR U3 rfl rfl dW rfl)) ?_))
 refine qV (OJ (cs:=[_,_]) RF rfl We rfl rfl) (M0 XC rfl (qV ((by first|exact LR U3 rfl rfl dM rfl|exact LR U3 rfl rfl dW rfl)) ?_))
 refine qV (OJ (cs:=[_,_]) RF rfl We rfl rfl) (M0 Vj rfl (qV ((by first|exact LR U3 rfl rfl dM rfl|exact LR U3 rfl rfl dW rfl)) ?_))
 refine qV (OJ (cs:=[_,_]) RF rfl We rfl rfl) (M0 z7c rfl (qV ((by first|exact LR U3 rfl rfl dM rfl|exact LR U3 rfl rfl dW rfl)) ?_))
 refine qV (OJ (cs:=[_,_]) RF rfl We rfl rfl) (M0 z7J rfl (qV ((by first|exact LR U3 rfl rfl dM rfl|exact LR U3 rfl rfl dW rfl)) ?_))
 refine qV (OJ (cs:=[_,_]) RF rfl We rfl rfl) (M0 PS rfl (qV ((by first|exact LR U3 rfl rfl dM rfl|exact LR U3 rfl rfl dW rfl)) ?_))
 refine qV (OJ (cs:=[_,_]) RF rfl We rfl rfl) (M0 Rp rfl (qV ((by first|exact LR U3 rfl rfl dM rfl|exact LR U3 rfl rfl dW rfl)) ?_))
 refine qV (OJ (cs:=[_,_]) RF rfl We rfl rfl) (LV rfl rfl (Uu (cs:=[_,_,_,_,_,_,_,_,_,_,_,_,_,_,_,_]) (zs:=[Value.int .i64 0,Value.int .i64 0,Value.int .i64 0,Value.int .i64 0,Value.int .i64 0,Value.int .i64 0,Value.int .i64 0,Value.int .i64 0,Value.int .i64 0,Value.int .i64 0,Value.int .i64 0,Value.int .i64 0,Value.int .i64 0,Value.int .i64 0,Value.int .i64 0,Value.int .i64 0]) zba RF rfl (by kernel_rfl) rfl rfl rfl (by decide)) ?_)
 rintro _ w6 ⟨b43,rfl,⟨Bf,aN,dL⟩,mQ⟩
 have wh:=cm.trans aN
 have kY:=lF.ext wh
 have z3:=ah.size
 have hL:(Va h).length=8:=rfl
 replace mQ:Sl w6 (.slice (some ⟨b43,0,none⟩) 8 8) 205 2 8 ((Va h).flatMap λq=>[I (q.1:Int),I (q.2:Int)]):=mQ
 refine NX zba rfl (LM rfl (LO (Mn.qb (e:=[(2,_),(3,_),(5,_),(43,_),(44,_),(45,_)]) ?_)))
 refine LK (Oe (α:=Nat) (0) (λi=>[(5,ptr wp 0),(43,.slice (some ⟨b43,0,none⟩) 8 8),(44,I 8),(45,I (i:Int))]) (λi w'=>WrR wp F w6 w' (NL ((Va h).take i))/\i<=8) (λi=>8-i) ?hI ?hround)
 case hI=>exact⟨⟨F,kY,Kp.refl _ _,λk hk=> .inl hk⟩,Nat.zero_le _⟩
 case hround=>
  rintro i w7 ⟨⟨F7,o2,aA,o3⟩,hi⟩ ih
  try dsimp only
  refine qN rfl (Nr rfl rfl (LO (run_seq (LY rfl (λh0=>?_) (λh0=>?_)))))
  ·obtain⟨⟨v,c⟩,hq⟩:∃q,(Va h)[i]? =some q:=⟨_,List.getElem?_eq_getElem (by rw[hL];omega)⟩
   have zu:v<2^c/\c<=64/\v<=134217728:=by
    have hm:=List.mem_of_getElem? hq;simp only[Va,List.mem_cons,List.not_mem_nil,or_false,Prod.mk.injEq] at hm;rcases hm with⟨rfl,rfl⟩|⟨rfl,rfl⟩|⟨rfl,rfl⟩|⟨rfl,rfl⟩|⟨rfl,rfl⟩|⟨rfl,rfl⟩|⟨rfl,rfl⟩|⟨rfl,rfl⟩<;>refine⟨by omega,by omega,by omega⟩
   have ff:(NL ((Va h).take i)).length+c<=192:=by
    have e:NL ((Va h).take (i+1))=NL ((Va h).take i)++bitsN c v:=by rw[MG hq];simp[NL]
    have e2:=congrArg List.length e;rw[List.length_append,bitsN_length] at e2
    have e3:(NL (Va h)).length=(NL ((Va h).take (i+1))).length+(NL ((Va h).drop (i+1))).length:=by
     conv=>lhs;rw[<-List.take_append_drop (i+1) (Va h)]
     unfold NL;rw[List.flatMap_append,List.length_append]
    have e4:=R0 h;omega
   have gV:=mQ.kp aA (λg hg e=>by have e1:b43=g:=NV hg;have:=kY.lt e;have:=lF.lt e;have:=cm.size;omega);have jP:=XB (f:=λq:Nat×Nat=>[I (q.1:Int),I (q.2:Int)]) (λ_=>rfl) gV.rd hq;refine py (run_seq (LK (qN rfl (qV (MN zba RF rfl rfl (by omega)) (qV (Mk (news:=[I (v:Int),I (c:Int)]) zfX rfl RF rfl jP rfl) (LV rfl rfl (O9 (cs:=[_,_]) RF rfl) ?_))))));rintro _ w8 ⟨b8,rfl,jh,cV,ce⟩;refine M1 rfl (MD (news:=[I (v:Int),I (c:Int)]) RF rfl rfl rfl rfl ce (by simp)) ?_;rintro w9 ⟨px,aL⟩;replace px:LX w9 b8 [I (v:Int),I (c:Int)] 205:=px;have im:Ext w7 w9:=cV.LJ aL (λi e=>by omega);refine LO (LQ rfl (LM rfl (M0 z8o rfl (qV (LR U3 rfl rfl px rfl) (qV ((by first|exact MH rfl U3 Ns (by omega)|exact Oc rfl U3 Ns)) ?_)))));refine M0 z8q rfl (qV (LR U3 rfl rfl px rfl) (Mb SE rfl (OI (o2.ext im) v c zu.2.1 zu.1 (by omega)) ?_));rintro _ w10 ⟨rfl,F10,Cl,aw,cg⟩;refine LO (LL (LQ rfl (MK rfl rfl (LM rfl (LO ((ih (i+1) _ ⟨⟨F10,?_,(aA.trans im.kp).LJ aw (λk hk=>(o3 k hk).symm),λk hk=>?_⟩,by omega⟩ (by omega)).qb))))))
   ·rw[MG hq,show NL ((Va h).take i++[(v,c)])=NL ((Va h).take i)++bitsN c v by simp[NL]];exact Cl
   ·rcases cg k hk with e| e
    ·exact o3 k e
    ·have:=aA.size;have:=im.size;exact .inr (by omega)
  ·have cR:i=8:=by omega
   subst cR;rw[show(Va h).take 8=Va h from rfl] at o2;refine LW rfl (qN rfl (LM rfl (Mb z42 rfl (Tj o2) ?_)));rintro _ w8 ⟨rfl,rfl⟩;have dZ:(Mi (NL (Va h))).length=24:=by rw[Mv,R0]
   refine LM rfl (MW rfl rfl (MW rfl rfl (M6 rfl (M6 rfl (qM rfl (LM rfl (qV (SQ rfl rfl (by first|omega|(simp;done)|(simp;omega))) ?_)))))));refine LM rfl (M6 rfl (LU rfl (LP Tryz.func69 rfl (⟨_,rfl,?_,((ad.trans aO).trans wh).LJ aA (λk hk=>by have:=pi k hk;have:=af.size;have:=ad.size;omega)⟩))));simp[resVal,hdT,z3r]
theorem z25 {w:World}{ga:Option Addr}{gc:Nat}{g:List (List Nat)}(h:GrM w (.slice ga g.length gc) g)(hg:Og g):Mm Tryz.prog 68 [.slice ga g.length gc] w λu w'=>u=I (N2 g:Int)/\w'=w:=by
 have hn:=hg.n
 obtain⟨vs,eM,kC⟩:=h.ex
 refine It (e:=[(0,_)]) Tryz.func68 rfl Tryz.ntmps68 rfl rfl (qN rfl (M6 rfl (qM rfl (LU rfl (run_seq (qN rfl (LM rfl (NX Uz rfl (LM rfl (LO (LK (Oe (α:=Nat) (0) (λi=>[(3,I (N2 (g.take i):Int)),(6,.slice ga g.length gc),(7,I (g.length:Int)),(8,I (i:Int))]) (λi w'=>w'=w/\i<=g.length) (λi=>g.length-i) ?hI ?hround))))))))))))
 case hI=>exact⟨rfl,Nat.zero_le _⟩
 case hround=>
  rintro i w4 ⟨rfl,hi⟩ ih;have sG:=Qk hg i
  try dsimp only
  refine qN rfl (Nr rfl rfl (LO (run_seq (LY rfl (λh0=>?_) (λh0=>?_)))))
  ·obtain⟨l,hl⟩:∃l,g[i]? =some l:=⟨_,List.getElem?_eq_getElem (by omega)⟩;have eT:=hg.len (List.mem_of_getElem? hl);obtain⟨a,c,e1,e2,e3⟩:=kC i l hl
   obtain⟨gb,go,gc',e4⟩:∃b o c',Value.slice ga g.length gc= .slice (some ⟨b,o,none⟩) g.length c':=by
    rcases eM.2 with⟨c,hc,h0⟩|⟨b,off,c',hc,-⟩
    ·omega
    ·exact⟨b,off,c',hc⟩
   cases e4;have zx:=TY (g.take i) l;rw[<-MG hl] at zx;refine py (run_seq (LK (qN rfl (qV (MN Uz Qz rfl rfl (by omega)) (qV (Mt Ml rfl rfl (MX eM e1)) (LU rfl (LQ rfl (M4 rfl rfl (NX Ml rfl (MK rfl rfl (LU rfl (LL (LQ rfl ?_)))))))))))));refine MK rfl rfl (LM rfl (LO ?_));rw[show(N2 (g.take i):Int)+(l.length:Int)=(N2 (g.take (i+1)):Int) by omega];exact(ih (i+1) _ ⟨rfl,by omega⟩ (by omega)).qb
  ·have cR:i=g.length:=by omega
   subst cR;rw[List.take_length];refine LW rfl (qN rfl (LM rfl (LU rfl (LP Tryz.func68 rfl ?_))));exact⟨_,rfl,rfl,rfl⟩
theorem SW (p:MZ)(g:List (List Nat))(E:List (Nat×Nat)):∀(d i:Nat),(N6 p g E i).length<=(N6 p g E (i+d)).length
 |0,i=>Nat.le_refl _
 | d + 1, i => by
   have h:=SW p g E d i;rw[<-Nat.add_assoc,Pq,List.length_append];omega
theorem z3w (p:MZ)(g:List (List Nat))(E:List (Nat×Nat))(n:Nat):Nof (Ss p g E n):=by
 unfold Ss Nof
 rw[List.pairwise_map]
 refine List.pairwise_lt_range.imp fun {i j} gT=>?_
 have:=SW p g E (j-i) i
 rwa [show i+(j-i)=j by omega] at this
theorem Wz (p:MZ)(g:List (List Nat))(E:List (Nat×Nat)){n i:Nat}(h:i<=n):(Ss p g E n)[i]? =some (N6 p g E i).length:=by
 unfold Ss
 rw[List.getElem?_map,List.getElem?_range (by omega)];rfl
theorem zap (p:MZ)(g:List (List Nat))(E:List (Nat×Nat))(n:Nat):∀v∈Ss p g E n,v<=(N6 p g E n).length:=λv hv=>by
 unfold Ss at hv
 obtain⟨j,hj,rfl⟩:=List.mem_map.1 hv
 have h1:=List.mem_range.1 hj
 have:=SW p g E (n-j) j
 rwa [show j+(n-j)=n by omega] at this
theorem z0e {l:List Nat}(cK:1<=l.length)(hn:l.length<=64)(lN:Nof l){z:Nat}(hz:l[l.length-1]? =some z):(UK l (Qj l.length (z+1))).length=(Qj l.length (z+1)).size:=by
 have h1:=Xz (Qj l.length (z+1)).width lN hz
 have h2:=R3 (Qj l.length (z+1)).width l
 have h3:(restB (Qj l.length (z+1)).width l).length=32:=by
  cases l with
  |nil=>simp at cK
  |cons v l=>simp[restB]
 have h4:(Qj l.length (z+1)).bits=z / 2^(Qj l.length (z+1)).width+l.length:=by
  show(z+1-1) / _+_=_;rw[Nat.add_sub_cancel]
  rfl
 unfold UK Fm.size Fm.Re Fm.high
 rw[List.length_append,List.length_append,List.length_append,Mv,Mv,Mv,Mv,List.length_append,bitsN_length,bitsN_length,h1,h2,h3,h4]
 show _=12+(l.length*_+7) / 8+_+4*((l.length+63) / 64)
 have h5:(l.length+63) / 64=1:=by omega
 rw[h5]
def TL (p:MZ)(g:List (List Nat))(E:List (Nat×Nat)):Bytes:=
 hdT ⟨g.length,N2 g,p,(N6 p g E g.length).length⟩++Mi (N6 p g E g.length)++UK (Ss p g E g.length) (Qj (g.length+1) ((N6 p g E g.length).length+1))
structure z6R (p:MZ)(g:List (List Nat))(E:List (Nat×Nat)):Prop where
 el:E.length=g.length
 ok:z9S p g E
 bits:(N6 p g E g.length).length<=2688000
theorem z1X {w:World}{p:MZ}(hp:p.N4){g:List (List Nat)}(hg:Og g)(aG:1<=g.length){ga:Option Addr}{gc:Nat}(kP:GrM w (.slice ga g.length gc) g)(hG:LX w 1 (OU .gamma) 298)(hU:LX w 2 (OU .unary) 298):
  Mm Tryz.prog 42 [.slice ga g.length gc,bpV p] w λu w'=>∃E,z6R p g E/\u= .tuple #[S (TL p g E),I 0]/\Ext w w':=by
 have hn:=hg.n
 have sL:=Qk hg g.length
 rw[List.take_length] at sL
 refine It (e:=[(0,_),(1,_)]) Tryz.func42 rfl Tryz.ntmps42 rfl rfl (qN rfl (LV rfl rfl (NN rfl (cs:=Rz p) rfl) ?_))
 rintro _ w1 ⟨b3,rfl,en,ad,aq⟩
 refine M6 rfl (M6 rfl (qM rfl (LM rfl (qV (Mk (news:=Rz p) Xi rfl O3 rfl (aq.cells (n:=5) rfl) rfl) (Mb zfG rfl (z4O hp hg (kP.ext ad) (ad.LN hG) (ad.LN hU)) ?_)))))
 rintro _ w2 ⟨E,v,rfl,qA,Id,vI,cN,rq,af⟩
 have aI:=ad.trans af
 have aa:=Ext.Ma w2
 obtain⟨va,vc,rfl,-⟩:=cN.rd.shape
 have wj:=z3w p g E g.length
 have jB:=zap p g E g.length
 have aB:=ZI p g E g.length
 have qD:=Wz p g E (Nat.le_refl g.length)
 obtain⟨vb,vc2,e5⟩:∃b c,Value.slice va (g.length+1) vc= .slice (some ⟨b,0,none⟩) (g.length+1) c:=by
  rcases cN.shape with⟨-,h0⟩|⟨b,c,e,hc⟩
  ·omega
  ·exact⟨b,c,e⟩
 cases e5
 refine LM rfl (qV (NO (v:=S (Mi (N6 p g E g.length))) rfl rfl) (qV (NO (v:= .slice (some ⟨vb,0,none⟩) (g.length+1) vc) rfl rfl) (qV (NO (v:=I 0) rfl rfl) (M6 rfl (M6 rfl (LU rfl (run_seq (qN rfl (LM rfl (MY rfl rfl (LO (An rfl (py ?_)))))))))))))
 refine run_seq ?_
 have Ie:PHd.N4 ⟨g.length,N2 g,p,(N6 p g E g.length).length⟩:=⟨aG,(by show g.length<=_;omega),(by show N2 g<=_;omega),(by show(N6 p g E g.length).length<=_;omega),hp⟩
 refine NF (λw'=>Ext w2 w') rfl (M9 0 rfl rfl (aa) (LS 1 rfl (OZ Uz rfl) aa (M9 2 rfl rfl (aa) (M9 5 rfl rfl (aa) (M9 6 rfl rfl (aa) (LS 7 rfl (OZ Uz rfl) aa (LS 8 rfl (MN U40 Rg rfl rfl (by omega)) aa (qT 4 rfl (λ_ hS=>Mk (news:=Rz p) Xi rfl O3 rfl ((hS.LN (af.LN aq)).cells (n:=5) rfl) rfl) aa (qT 9 rfl (λ_ hS=>Mt Ns rfl rfl (MX (cN.ext hS).rd (show((Ss p g E g.length).map M7)[g.length]? =some (M7 (N6 p g E g.length).length) by rw[List.getElem?_map,qD];rfl))) aa ?_)))))))))
 refine LS 10 rfl (MB rfl Ns U3 (by omega)) aa (Pw 3 rfl zeC rfl (z25 ((kP.ext aI).ext aa) hg) ?_)
 rintro _ w3 ⟨rfl,rfl⟩
 refine⟨aa,?_⟩
 refine LS 11 rfl (OJ (cs:=[_,_,_,_,_,_,_,_]) Qh rfl z9w rfl rfl) aa (Pw 12 rfl zfV rfl (z55 ⟨g.length,N2 g,p,(N6 p g E g.length).length⟩ Ie _) ?_)
 rintro _ w3 ⟨rfl,ah⟩
 refine⟨aa.trans ah,?_⟩
 have dy:=aa.trans ah
 refine M9 13 rfl rfl (aa.trans ah) (qT 14 rfl (λ_ hS=>NO (v:=S (hdT ⟨g.length,N2 g,p,(N6 p g E g.length).length⟩)) rfl rfl) (aa.trans ah) (LS 16 rfl (NK rfl) (aa.trans ah) (LS 15 rfl (NO (v:=I 0) rfl rfl) (aa.trans ah) (LS 17 rfl (NK rfl) (aa.trans ah) (qE (Mn.qb (e:=[(4,_),(5,_),(6,_),(7,_),(8,_),(9,_)]) ?_))))))
 refine run_seq (qN rfl (LM rfl (MY rfl rfl ?_)))
 have Cm:Rd w3 (.slice (some ⟨vb,0,none⟩) (Ss p g E g.length).length vc) 1 (Ss p g E g.length).length ((Ss p g E g.length).map M7):=by rw[aB];exact(cN.ext dy).rd
 have hz:(Ss p g E g.length)[(Ss p g E g.length).length-1]? =some (N6 p g E g.length).length:=by rw[aB];exact qD
 have AS:=z0M (by omega) (by omega) wj (λv hv=>by have:=jB v hv;omega) Cm hz
 have sG:=z0e (by omega) (by omega) wj hz
 have If:(Qj (Ss p g E g.length).length ((N6 p g E g.length).length+1)).size<=40000000:=by
  have h1:=ZG (n:=(Ss p g E g.length).length) (u:=(N6 p g E g.length).length+1) (by omega) (by omega) (by omega) (by omega);have h2:=Fm.T4 h1;obtain⟨h3,h4,h5⟩:=h1;unfold Fm.size Fm.Re;omega
 rw[aB] at AS sG If
 have ol:=Th ⟨g.length,N2 g,p,(N6 p g E g.length).length⟩
 have dZ:=Mv (N6 p g E g.length)
 refine LO (An rfl (py (qN rfl (LM rfl (Mb zeL rfl (AS) ?_)))))
 rintro _ w4 ⟨rfl,aC⟩
 refine LM rfl (qV (NO (v:=S (UK (Ss p g E g.length) (Qj (g.length+1) ((N6 p g E g.length).length+1)))) rfl rfl) (qV (NO (v:=I 0) rfl rfl) (M6 rfl (M6 rfl (qM rfl (M4 rfl rfl (qV (SQ rfl rfl (by first|omega|(simp;done)|(simp;omega))) ?_)))))))
 refine LM rfl (qV (SQ rfl rfl (by first|omega|(simp;done)|(simp;omega))) ?_)
 refine LM rfl (M6 rfl (LU rfl (LP Tryz.func42 rfl ?_)))
 exact⟨_,rfl,E,⟨qA,Id,vI⟩,rfl,(aI.trans dy).trans aC⟩
/-! ### Bytes of a word, the least first -/
def val8:List Nat->Nat
 |[]=>0
 |b::r=>b+256*val8 r
theorem RO {s a b c d:Nat}(hb:b<2^s)(hd:d<2^s):(b+2^s*a)&&&(d+2^s*c)=(b&&&d)+2^s*(a&&&c):=by
 apply Nat.eq_of_testBit_eq
 intro j
 have vI:b&&&d<2^s:=Nat.lt_of_le_of_lt Nat.and_le_left hb
 rw[Nat.testBit_and,Nat.add_comm b,Nat.add_comm d,Nat.add_comm (b&&&d),Nat.testBit_two_pow_mul_add _ hb,Nat.testBit_two_pow_mul_add _ hd,Nat.testBit_two_pow_mul_add _ vI]
 by_cases h:j<s
 ·simp only[if_pos h,Nat.testBit_and]
 ·simp only[if_neg h,Nat.testBit_and]
theorem z8p {s a b m:Nat}(hb:b<2^s)(hm:m<2^s):(b+2^s*a)&&&m=b&&&m:=by
 have:=RO (a:=a) (c:=0) hb hm
 simpa using this
theorem XJ (m:Nat)(hm:m<256):∀L:List Nat,(∀b∈L,b<256)->val8 L&&&val8 (List.replicate L.length m)=val8 (L.map (·&&&m))
 |[],_=>by simp[val8]
 | b :: r, h => by
   have ih:=XJ m hm r (λx hx=>h x (List.mem_cons_of_mem b hx));rw[List.length_cons,List.replicate_succ,val8,val8,List.map_cons,val8,<-ih];exact RO (s:=8) (h b List.mem_cons_self) hm
theorem ZA (s m:Nat)(hs:s<=8)(hm:m<2^(8-s)):∀L:List Nat,(∀b∈L,b<256)->val8 L / 2^s&&&val8 (List.replicate L.length m)=val8 (L.map λb=>b / 2^s&&&m)
 |[],_=>by simp[val8]
 | b :: r, h => by
   have ih:=ZA s m hs hm r (λx hx=>h x (List.mem_cons_of_mem b hx));have hb:=h b List.mem_cons_self;have e256:256=2^s*2^(8-s):=by rw[<-Nat.pow_add,show s+(8-s)=8 by omega]
   have hp:0<2^s:=Nat.two_pow_pos s;have wk:b / 2^s<2^(8-s):=by rw[Nat.div_lt_iff_lt_mul hp,Nat.mul_comm,<-e256];exact hb
   have e1:(b+256*val8 r) / 2^s=b / 2^s+2^(8-s)*val8 r:=by
    rw[e256,Nat.mul_assoc,Nat.add_mul_div_left _ _ hp]
   have e2:b / 2^s+2^(8-s)*val8 r=(b / 2^s+2^(8-s)*(val8 r%2^s))+2^8*(val8 r / 2^s):=by
    have h1:=Nat.div_add_mod (val8 r) (2^s);have e3:2^8=2^(8-s)*2^s:=by rw[Nat.mul_comm];exact e256
    rw[e3,Nat.mul_assoc,Nat.add_assoc,<-Nat.mul_add,Nat.add_comm (val8 r%2^s),h1]
   have h3:b / 2^s+2^(8-s)*(val8 r%2^s)<2^8:=by
    have h4:val8 r%2^s+1<=2^s:=Nat.mod_lt _ hp;have h5:=Nat.mul_le_mul_left (2^(8-s)) h4;rw[Nat.mul_add,Nat.mul_one] at h5;have e3:2^8=2^(8-s)*2^s:=by rw[Nat.mul_comm];exact e256
    omega
   have Ig:m<2^8:=Nat.lt_of_lt_of_le hm (Nat.pow_le_pow_right (by decide) (by omega));rw[List.length_cons,List.replicate_succ,val8,val8,List.map_cons,val8,<-ih,e1,e2];have:=RO (s:=8) (a:=val8 r / 2^s) (c:=val8 (List.replicate r.length m)) h3 Ig;rw[show m+256*val8 (List.replicate r.length m)=m+2^8*val8 (List.replicate r.length m) from rfl,this,z8p wk hm]
theorem XT (f g:Nat->Nat):∀L:List Nat,val8 (L.map f)+val8 (L.map g)=val8 (L.map λb=>f b+g b)
 |[]=>rfl
 | b :: r => by
   rw[List.map_cons,List.map_cons,List.map_cons,val8,val8,val8,<-XT f g r,Nat.mul_add];omega
theorem z0V:∀L:List Nat,(∀c∈L,c / 16<=4/\c%16<=4)->(val8 L / 16+val8 L)&&&val8 (List.replicate L.length 15)=val8 (L.map λc=>c / 16+c%16)/\val8 L%16<=4
 |[],_=>⟨by simp[val8],by simp[val8]⟩
 | c :: r, h => by
   obtain⟨ih,ih2⟩:=z0V r (λx hx=>h x (List.mem_cons_of_mem c hx));obtain⟨h1,h2⟩:=h c List.mem_cons_self;have e:(c+256*val8 r) / 16+(c+256*val8 r)=(c / 16+16*(val8 r%16)+c)+2^8*(val8 r / 16+val8 r):=by omega
   have aP:c / 16+16*(val8 r%16)+c<2^8:=by omega
   have Ih:(c / 16+16*(val8 r%16)+c)&&&15=c / 16+c%16:=by
    have:=Nat.and_two_pow_sub_one_eq_mod (c / 16+16*(val8 r%16)+c) 4;rw[show(2:Nat)^4-1=15 from rfl,show(2:Nat)^4=16 from rfl] at this;rw[this];omega
   refine⟨?_,by rw[val8];omega⟩;rw[List.length_cons,List.replicate_succ,val8,val8,List.map_cons,val8,<-ih,e];have:=RO (s:=8) (a:=val8 r / 16+val8 r) (c:=val8 (List.replicate r.length 15)) aP (by decide:15<2^8);rw[show 15+256*val8 (List.replicate r.length 15)=15+2^8*val8 (List.replicate r.length 15) from rfl,this,Ih]
theorem z0a:∀L:List Nat,(∀b∈L,b<256)->(bitsN (8*L.length) (val8 L)).count true=(L.map λb=>(bitsN 8 b).count true).sum
 |[],_=>rfl
 | b :: r, h => by
   have ih:=z0a r (λx hx=>h x (List.mem_cons_of_mem b hx));have hb:=h b List.mem_cons_self;rw[List.length_cons,Nat.mul_add,Nat.mul_one,Om,List.count_append,val8];have e1:(b+256*val8 r) / 2^8=val8 r:=by omega
   rw[List.map_cons,List.sum_cons,show(bitsN 8 (b+256*val8 r))=bitsN 8 b from SD (by omega),e1,ih];omega
def Y4 (b:Nat):Nat:=(b / 2&&&85)+(b&&&85)
def s2B (b:Nat):Nat:=(b / 4&&&51)+(b&&&51)
theorem z5X:∀b:Fin 256,Y4 b<256/\s2B (Y4 b)<256/\s2B (Y4 b) / 16<=4/\s2B (Y4 b)%16<=4/\s2B (Y4 b) / 16+s2B (Y4 b)%16=(bitsN 8 b).count true:=by decide+kernel
theorem TK {b:Nat}(h:b<256):Y4 b<256/\s2B (Y4 b)<256/\s2B (Y4 b) / 16<=4/\s2B (Y4 b)%16<=4/\s2B (Y4 b) / 16+s2B (Y4 b)%16=(bitsN 8 b).count true:=z5X ⟨b,h⟩
def VB (x:Nat):List Nat:=[x%256,x / 256%256,x / 65536%256,x / 16777216%256,x / 4294967296%256,x / 1099511627776%256,x / 281474976710656%256,x / 72057594037927936%256]
theorem z1T {x:Nat}(h:x<18446744073709551616):val8 (VB x)=x:=by
 simp only[VB,val8]
 omega
theorem z5u (x:Nat):∀b∈VB x,b<256:=λb hb=>by
 simp only[VB,List.mem_cons,List.not_mem_nil,or_false] at hb
 rcases hb with rfl|rfl|rfl|rfl|rfl|rfl|rfl|rfl<;>exact Nat.mod_lt _ (by decide)
theorem z27 {x:Nat}(h:x<18446744073709551616):∃D:List Nat,D.length=8/\(∀d∈D,d<=8)/\
  ((((x / 2&&&6148914691236517205)+(x&&&6148914691236517205)) / 4&&&3689348814741910323)+(((x / 2&&&6148914691236517205)+(x&&&6148914691236517205))&&&3689348814741910323)) / 16+((((x / 2&&&6148914691236517205)+(x&&&6148914691236517205)) / 4&&&3689348814741910323)+(((x / 2&&&6148914691236517205)+(x&&&6148914691236517205))&&&3689348814741910323))&&&1085102592571150095=val8 D/\D.sum=(bitsN 64 x).count true:=by
 have hv:=z1T h
 have hl:=z5u x
 have hL:(VB x).length=8:=rfl
 generalize VB x=L at hv hl hL
 have m0:6148914691236517205=val8 (List.replicate L.length 85):=by rw[hL];rfl
 have m1:3689348814741910323=val8 (List.replicate L.length 51):=by rw[hL];rfl
 have m2:1085102592571150095=val8 (List.replicate L.length 15):=by rw[hL];rfl
 have f1:=ZA 1 85 (by decide) (by decide) L hl
 have f2:=XJ 85 (by decide) L hl
 rw[show(2:Nat)^1=2 from rfl] at f1
 have jZ:∀b∈L.map Y4,b<256:=λb hb=>by
  obtain⟨y,hy,rfl⟩:=List.mem_map.1 hb;exact(TK (hl y hy)).1
 have e1:(x / 2&&&6148914691236517205)+(x&&&6148914691236517205)=val8 (L.map Y4):=by
  rw[m0,<-hv,f1,f2,XT];rfl
 have f3:=ZA 2 51 (by decide) (by decide) (L.map Y4) jZ
 have f4:=XJ 51 (by decide) (L.map Y4) jZ
 rw[show(2:Nat)^2=4 from rfl] at f3
 rw[List.length_map] at f3 f4
 have e2:(val8 (L.map Y4) / 4&&&3689348814741910323)+(val8 (L.map Y4)&&&3689348814741910323)=val8 ((L.map Y4).map s2B):=by
  rw[m1,f3,f4,XT];rfl
 rw[e1,e2]
 have iH:∀c∈(L.map Y4).map s2B,c / 16<=4/\c%16<=4:=λc hc=>by
  obtain⟨z,hz,rfl⟩:=List.mem_map.1 hc;obtain⟨y,hy,rfl⟩:=List.mem_map.1 hz;have:=TK (hl y hy);exact⟨this.2.2.1,this.2.2.2.1⟩
 have f5:=(z0V _ iH).1
 rw[List.length_map,List.length_map] at f5
 refine⟨((L.map Y4).map s2B).map λc=>c / 16+c%16,by rw[List.length_map,List.length_map,List.length_map];exact hL,λd hd=>?_,by rw[m2];exact f5,?_⟩
 ·obtain⟨c,hc,rfl⟩:=List.mem_map.1 hd;have:=iH c hc;omega
 ·have sM:=z0a L hl;rw[hL,hv] at sM;rw[show 8*8=64 from rfl] at sM;rw[sM,List.map_map,List.map_map]
  congr 1
  refine List.map_congr_left λb hb=>?_;exact(TK (hl b hb)).2.2.2.2
theorem z77 {D:List Nat}(h8:D.length=8)(hd:∀d∈D,d<=8):let x4:=val8 D+val8 D / 256;let x5:=x4+x4 / 65536;let x6:=x5+x5 / 4294967296;val8 D<1152921504606846976/\x6%128=D.sum/\D.sum<=64:=by
 obtain⟨d0,d1,d2,d3,d4,d5,d6,d7,rfl⟩:∃d0 d1 d2 d3 d4 d5 d6 d7,D=[d0,d1,d2,d3,d4,d5,d6,d7]:=by
  match D,h8 with
  |[a,b,c,d,e,f,g,i],_=>exact⟨a,b,c,d,e,f,g,i,rfl⟩
 have k0:=hd d0 (by simp)
 have k1:=hd d1 (by simp)
 have k2:=hd d2 (by simp)
 have k3:=hd d3 (by simp)
 have k4:=hd d4 (by simp)
 have k5:=hd d5 (by simp)
 have k6:=hd d6 (by simp)
 have k7:=hd d7 (by simp)
 have h3:val8 [d0,d1,d2,d3,d4,d5,d6,d7] / 256=val8 [d1,d2,d3,d4,d5,d6,d7]:=by
  rw[val8,Nat.add_mul_div_left _ _ (by decide),Nat.div_eq_of_lt (by omega),Nat.zero_add]
 have h4:val8 [d0,d1,d2,d3,d4,d5,d6,d7]+val8 [d1,d2,d3,d4,d5,d6,d7]=(d0+d1+256*(d1+d2))+65536*((d2+d3)+256*(d3+d4)+65536*((d4+d5)+256*(d5+d6)+65536*((d6+d7)+256*d7))):=by
  simp only[val8];omega
 have h5:(val8 [d0,d1,d2,d3,d4,d5,d6,d7]+val8 [d1,d2,d3,d4,d5,d6,d7]) / 65536=(d2+d3)+256*(d3+d4)+65536*((d4+d5)+256*(d5+d6)+65536*((d6+d7)+256*d7)):=by
  rw[h4,Nat.add_mul_div_left _ _ (by decide),Nat.div_eq_of_lt (by omega),Nat.zero_add]
 dsimp only
 rw[h3,h5,h4]
 have h6:(d0+d1+256*(d1+d2))+65536*((d2+d3)+256*(d3+d4)+65536*((d4+d5)+256*(d5+d6)+65536*((d6+d7)+256*d7)))+((d2+d3)+256*(d3+d4)+65536*((d4+d5)+256*(d5+d6)+65536*((d6+d7)+256*d7)))=
   ((d0+d1+d2+d3)+256*(d1+d2+d3+d4)+65536*((d2+d3+d4+d5)+256*(d3+d4+d5+d6)))+4294967296*((d4+d5+d6+d7)+256*(d5+d6+d7)+65536*(d6+d7+256*d7)):=by omega
 rw[h6,Nat.add_mul_div_left _ _ (by decide),Nat.div_eq_of_lt (by omega),Nat.zero_add]
 refine⟨by simp only[val8];omega,?_,by simp only[List.sum_cons,List.sum_nil];omega⟩
 simp only[List.sum_cons,List.sum_nil]
 have h7:(d0+d1+d2+d3)+256*(d1+d2+d3+d4)+65536*((d2+d3+d4+d5)+256*(d3+d4+d5+d6))+4294967296*((d4+d5+d6+d7)+256*(d5+d6+d7)+65536*(d6+d7+256*d7))+((d4+d5+d6+d7)+256*(d5+d6+d7)+65536*(d6+d7+256*d7))=
   (d0+d1+d2+d3+d4+d5+d6+d7)+128*(2*(d1+d2+d3+d4)+512*((d2+d3+d4+d5)+256*(d3+d4+d5+d6))+33554432*((d4+d5+d6+d7)+256*(d5+d6+d7)+65536*(d6+d7+256*d7))+(2*(d5+d6+d7)+512*(d6+d7+256*d7))):=by omega
 rw[h7,Nat.add_mul_mod_self_left,Nat.mod_eq_of_lt (by omega)]
 omega
theorem z7I (x:Nat)(hx:x<18446744073709551616)(w:World):Mm Tryz.prog 217 [M7 x] w λv w'=>v=I ((bitsN 64 x).count true:Int)/\w'=w:=by
 obtain⟨D,h1,h2,h3,h4⟩:=z27 hx
 obtain⟨f1,f2,f3⟩:=z77 h1 h2
 have a1:x / 2&&&6148914691236517205<=6148914691236517205:=Nat.and_le_right
 have a2:x&&&6148914691236517205<=6148914691236517205:=Nat.and_le_right
 rw[<-h4]
 refine It (e:=[(0,_)]) Tryz.func217 rfl Tryz.ntmps217 rfl rfl (qN rfl (M6 rfl (qM rfl (LM rfl (qV (Qm 1 2 rfl rfl (by decide) rfl) (qV (QT rfl rfl (by omega) (by omega)) (LM rfl (qV (QT rfl rfl (by omega) (by omega)) (qV (QL rfl rfl) (M6 rfl (qM rfl ?_)))))))))))
 rw[Nat.mod_eq_of_lt (show(x / 2&&&6148914691236517205)+(x&&&6148914691236517205)<18446744073709551616 by omega)]
 generalize hy:(x / 2&&&6148914691236517205)+(x&&&6148914691236517205)=y at h3
 have qF:y<18446744073709551616:=by omega
 have a3:y / 4&&&3689348814741910323<=3689348814741910323:=Nat.and_le_right
 have a4:y&&&3689348814741910323<=3689348814741910323:=Nat.and_le_right
 refine LM rfl (qV (Qm 2 4 rfl rfl (by decide) rfl) (qV (QT rfl rfl (by omega) (by omega)) (LM rfl (qV (QT rfl rfl (by omega) (by omega)) (qV (QL rfl rfl) (M6 rfl (qM rfl ?_)))))))
 rw[Nat.mod_eq_of_lt (show(y / 4&&&3689348814741910323)+(y&&&3689348814741910323)<18446744073709551616 by omega)]
 generalize hz:(y / 4&&&3689348814741910323)+(y&&&3689348814741910323)=z at h3
 have mw:z<=7378697629483820646:=by omega
 refine LM rfl (qV (Qm 4 16 rfl rfl (by decide) rfl) (LM rfl (qV (QL rfl rfl) ?_)))
 rw[Nat.mod_eq_of_lt (show z / 16+z<18446744073709551616 by omega)]
 refine qV (QT rfl rfl (by omega) (by omega)) (M6 rfl (qM rfl ?_))
 rw[h3]
 generalize val8 D=x3 at f1 f2
 refine M4 rfl rfl (qV (Qm 8 256 rfl rfl (by decide) rfl) (qV (QL rfl rfl) (M6 rfl (qM rfl ?_))))
 rw[Nat.mod_eq_of_lt (show x3+x3 / 256<18446744073709551616 by omega)]
 generalize aC:x3+x3 / 256=x4 at f2
 have wm:x4<=1157495777000000000:=by omega
 refine M4 rfl rfl (qV (Qm 16 65536 rfl rfl (by decide) rfl) (qV (QL rfl rfl) (LU rfl (Mn.qb (e:=[(0,_),(2,_)]) ?_))))
 refine qN rfl ?_
 rw[Nat.mod_eq_of_lt (show x4+x4 / 65536<18446744073709551616 by omega)]
 generalize aT:x4+x4 / 65536=x5 at f2
 have sN:x5<=1160000000000000000:=by omega
 refine M4 rfl rfl (qV (Qm 32 4294967296 rfl rfl (by decide) rfl) (qV (QL rfl rfl) (M6 rfl (qM rfl ?_))))
 rw[Nat.mod_eq_of_lt (show x5+x5 / 4294967296<18446744073709551616 by omega)]
 generalize aN:x5+x5 / 4294967296=x6 at f2
 have Ii:x6<=1170000000000000000:=by omega
 refine LM rfl (qV (MB rfl Ns U3 (by omega)) (qV (Tw rfl rfl (by omega) (by omega)) ?_))
 rw[show x6&&&127=D.sum by rw[<-f2];exact Nat.and_two_pow_sub_one_eq_mod x6 7]
 refine LU rfl (LP Tryz.func217 rfl ?_)
 exact⟨_,rfl,rfl,rfl⟩
theorem z5n {x:Nat}(hx:x<18446744073709551616):MF x<=64:=Ny (by omega)
theorem z6M (x:Nat)(hx:x<18446744073709551616)(w:World):Mm Tryz.prog 218 [M7 x] w λv w'=>v=I ((64-MF x:Nat):Int)/\w'=w:=by
 have rx:=z5n hx
 refine It (e:=[(0,_)]) Tryz.func218 rfl Tryz.ntmps218 rfl rfl (qN rfl (M6 rfl (qM rfl (LM rfl (Mb YJ rfl (QJ x hx w) ?_)))))
 rintro _ w ⟨rfl,rfl⟩
 refine NP rfl rfl ?_
 rw[show(64:Int)-(MF x:Int)=((64-MF x:Nat):Int) by omega]
 refine LU rfl (LP Tryz.func218 rfl ?_)
 exact⟨_,rfl,rfl,rfl⟩
def methT (P:Program)(t:TypeId)(name:String):Option FuncId:=match P.info? t with
 | some i => match i.methods.toList.find? (·.name == name) with
   | some m => match m.path.toList, m.func with
     | [], some (f, pr) => match P.underlying t with
       |some (.pointer _)=>cond pr (some f) none
       |some _=>cond pr none (some f)
       |none=>none
     |_,_=>none
   |none=>none
 |none=>none
section
variable {P:Program}{e:Env}{d:Option Nat}{ty t t':TypeId}{pos:String}{aft:Array Edge}{g:Option (Nat×Bool)}{x y:Operand}{w:World}{m n:Nat}
theorem Qe {i:TypeInfo}(h:P.info? t=some i):(typeInfo t).run P w= .ok i w:=by simp[typeInfo,program,Sem.run,h]
theorem z5g {f:FuncId}{name:String}{u:Value}(h:methT P t name=some f)(n:Nat):(method (n+1) t u name).run P w= .ok (f,u) w:=by
 unfold methT at h
 split at h<;>try cases h
 rename_i i hi
 split at h<;>try cases h
 rename_i m hm
 split at h<;>try cases h
 rename_i f' pr iY iZ
 have lE:i.methods.find? (·.name==name)=some m:=by rw[<-hm,Array.find?_toList]
 split at h<;>try cases h
 ·rename_i el hu
  cases pr<;>simp at h;subst h;simp[method,Qe hi,lE,iY,follow,iZ,receiverAt,run_underlying hu,Place.get]
 ·rename_i td FM hu
  cases pr<;>simp at h;subst h;unfold method;simp only[Sem.run_bind,Qe hi,Result.andThen_ok,lE,iY,follow,Sem.run_pure,iZ,receiverAt,run_underlying hu,Place.get]
theorem yci {f:FuncId}{nm:String}{args:List Operand}{ts:Array TypeId}{vs:List Value}{u:Value}(hf:CF P f)(hm:methT P t nm=some f)(hx:look e x=some (.iface t u))(ha:looks e args=some vs):
  Yc P e ⟨d,.call ⟨.invoke x nm,args.toArray,ts⟩,ty,pos,aft,g⟩ f (u::vs) w:=fun ρ hρ=>by
 have zK:=λw=>z5g (P:=P) (w:=w) (u:=u) hm (P.types.size+(Made.depth-1))
 rw[show P.types.size+(Made.depth-1)+1=P.types.size+Made.depth from rfl] at zK
 have rZ:(program).run P w= .ok P w:=rfl
 have lE:=Q0 hρ _ _ ha
 have h0:=hρ _ _ hx
 simp[execOp,resolve,lE,h0,Deferred.ofValue,invoke,callMethod,rZ,zK,PK hf]
theorem zb7 (hx:look e x=some (I (m:Int)))(hy:look e y=some (I 7))(hm:m<2^62):Y P e ⟨d,.binOp .andNot t x y t',ty,pos,aft,g⟩ (I ((m / 8*8:Nat):Int)) w w:=fun ρ hρ=>by
 have h1:m<2^IntKind.i64.bits:=by simp only[IntKind.bits];omega
 have h3:m&&&18446744073709551608=m / 8*8:=by
  have h4:=RO (s:=3) (a:=m / 8) (b:=m%8) (c:=2305843009213693951) (d:=0) (Nat.mod_lt _ (by decide)) (by decide);rw[Nat.and_zero,Nat.zero_add,Nat.zero_add] at h4;have h5:=Nat.and_two_pow_sub_one_eq_mod (m / 8) 61;rw[show(2:Nat)^61-1=2305843009213693951 from rfl,Nat.mod_eq_of_lt (by omega)] at h5;rw[h5,show(2:Nat)^3=8 from rfl,show 8*2305843009213693951=18446744073709551608 from rfl,show m%8+8*(m / 8)=m by omega] at h4;rw[h4];omega
 have h6:(BitVec.ofInt IntKind.i64.bits (m:Int)&&&~~~(BitVec.ofInt IntKind.i64.bits 7)).toNat=m / 8*8:=by
  rw[BitVec.toNat_and,Nf h1,show(~~~(BitVec.ofInt IntKind.i64.bits 7)).toNat=18446744073709551608 by decide,h3]
 simp only[execOp,eqGuard_andNot,binOp_andNot,intBits_andNot,hρ _ _ hx,hρ _ _ hy,pure_bind,Sem.run_pure,bits,h6]
 rw[wrap_i64 ⟨by omega,by omega⟩]
theorem zfd {r v q:Nat}(hr:r<=63)(hv:v<2^r)(hq:2^r=q)(hx:look e x=some (.int .u64 ((q+v:Nat):Int)))(hy:look e y=some (.int .u64 (q:Int))):Y P e ⟨d,.binOp .andNot t x y t',ty,pos,aft,g⟩ (.int .u64 (v:Int)) w w:=fun ρ hρ=>by
 subst hq
 have hp:2^r<=2^63:=Nat.pow_le_pow_right (by decide) hr
 have rx:2^64=2^r*2^(64-r):=by rw[<-Nat.pow_add,show r+(64-r)=64 by omega]
 have h2:2^(64-r)=2*2^(63-r):=by rw[<-Nat.pow_succ',show 64-r=(63-r)+1 by omega]
 have B8:0<2^(63-r):=Nat.two_pow_pos _
 have h1:2^r+v<2^IntKind.u64.bits:=by simp only[IntKind.bits];omega
 have h3:2^r<2^IntKind.u64.bits:=by simp only[IntKind.bits];omega
 have h4:(2^r+v)&&&(2^64-1-2^r)=v:=by
  have h5:=RO (s:=r) (a:=1) (b:=v) (c:=2^(64-r)-2) (d:=2^r-1) hv (by have:=Nat.two_pow_pos r;omega);rw[Nat.mul_one,Nat.and_two_pow_sub_one_eq_mod,Nat.mod_eq_of_lt hv,Nat.one_and_eq_mod_two,h2,show(2*2^(63-r)-2)%2=0 by omega,Nat.mul_zero,Nat.add_zero] at h5
  have h6:2^r-1+2^r*(2*2^(63-r)-2)=2^64-1-2^r:=by
   rw[Nat.mul_sub,<-h2,<-rx];have:=Nat.two_pow_pos r;omega
  rw[h6,Nat.add_comm v] at h5;exact h5
 have h6:(BitVec.ofInt IntKind.u64.bits ((2^r+v:Nat):Int)&&&~~~(BitVec.ofInt IntKind.u64.bits ((2^r:Nat):Int))).toNat=v:=by
  rw[BitVec.toNat_and,BitVec.toNat_not,Nf h1,Nf h3];exact h4
 simp only[execOp,eqGuard_andNot,binOp_andNot,intBits_andNot,hρ _ _ hx,hρ _ _ hy,pure_bind,Sem.run_pure,bits,h6]
 rw[Xl (k:= .u64) rfl (by simp only[IntKind.bits];omega)]
end
structure Src (t:TypeId)(u:Value)(T:Bytes) where
 inv:(Nat->Prop)->World->Prop
 fl:FuncId
 fr:FuncId
 cl:CF Tryz.prog fl
 cr:CF Tryz.prog fr
 ml:methT Tryz.prog t "Length"=some fl
 mr:methT Tryz.prog t "ReadAt"=some fr
 ext:∀{X Y:Nat->Prop} {w w':World},inv X w->Ext w w'->(∀k,Y k->X k\/w.heap.size<=k)->inv Y w'
 step:∀{X Y S:Nat->Prop} {w w':World},inv X w->Kp S w w'->(∀k,S k->X k)->(∀k,Y k->X k\/w.heap.size<=k)->inv Y w'
 len:∀{X:Nat->Prop} {w:World},inv X w->Mm Tryz.prog fl [u] w λv w'=>v=I (T.length:Int)/\Ext w w'
 rd:∀{X:Nat->Prop} {w:World} (off n:Nat),inv X w->(∀k,X k->k<w.heap.size)->off+n<=T.length->Mm Tryz.prog fr [u,I (off:Int),I (n:Int)] w λv w'=>v= .tuple #[S ((T.drop off).take n),I 0]/\inv X w'/\Kp (λk=>¬X k) w w'
theorem Src.own {t:TypeId}{u:Value}{T:Bytes}(R:Src t u T){X S:Nat->Prop}{w w':World}(h:R.inv X w)(hk:Kp S w w')(hS:∀k,S k->X k):R.inv X w':=R.step h hk hS λ_ e=> .inl e
theorem WN {s:Bytes}{i:Nat}{c:UInt8}(h:s[i]? =some c):valB (Md (s.take (i+1)))=valB (Md (s.take i))*256+c.toNat:=by
 rw[MG h,Ub,Oi,show Md [c]=bitsN 8 c.toNat by simp[Md],MJ,bitsN_length]
 have:=c.toNat_lt
 omega
theorem SY (s:Bytes)(hs:s.length<=8)(w:World):Mm Tryz.prog 149 [S s] w λv w'=>v=M7 (valB (Md s))/\Ext w w':=by
 refine It (e:=[(0,_)]) Tryz.func149 rfl Tryz.ntmps149 rfl rfl (qN rfl (M6 rfl (qM rfl (LU rfl (run_seq (qN rfl (LM rfl (LV rfl rfl (z7Z U9 N1 U5 rfl) ?_))))))))
 rintro _ w1 ⟨b7,c7,rest,rfl,⟨kX,ad,ai⟩,C3⟩
 refine NX N1 rfl (LM rfl (LO (LK (Oe (α:=Nat) (0) (λi=>[(3,M7 (valB (Md (s.take i)))),(7,.slice (some ⟨b7,0,none⟩) s.length c7),(8,I (s.length:Int)),(9,I (i:Int))]) (λi w'=>w'=w1/\i<=s.length) (λi=>s.length-i) ?hI ?hround))))
 case hI=>exact⟨rfl,Nat.zero_le _⟩
 case hround=>
  rintro i w2 ⟨rfl,hi⟩ ih
  try dsimp only
  refine qN rfl (Nr rfl rfl (LO (run_seq (LY rfl (λh0=>?_) (λh0=>?_)))))
  ·obtain⟨c,hc⟩:∃c,s[i]? =some c:=⟨_,List.getElem?_eq_getElem (by omega)⟩;have dU:=c.toNat_lt;have ot:=WN hc
   have aP:valB (Md (s.take i))<72057594037927936:=by
    have h1:=Nu (Md (s.take i));rw[bitsT_length,List.length_take] at h1;have h2:2^(8*min i s.length)<=2^56:=Nat.pow_le_pow_right (by decide) (by omega);omega
   have bh:w2.cell? ⟨b7,0+i*1,none⟩=some (Px c):=by
    rw[ai.cell,Nat.zero_add,Nat.mul_one,List.getElem?_append_left (by rw[List.length_map];omega),List.getElem?_map,hc];rfl
   refine py (run_seq (LK (qN rfl (qV (MN N1 TQ rfl rfl (by omega)) (qV (Mt U5 rfl rfl bh) ?_)))))
   generalize valB (Md (s.take i))=q at ot aP
   refine LU rfl (LQ rfl (LM rfl (qV (NJ 8 256 rfl rfl (by decide) rfl) (LM rfl (qV ((by first|exact Yi rfl U5 Ns (by decide)|exact MH rfl U5 Ns (by omega))) ?_)))));refine qV (Xp rfl rfl (by omega) (by omega)) ?_
   have nX:(q*256%18446744073709551616 |||c.toNat)=valB (Md (s.take (i+1))):=by
    rw[ot,Nat.mod_eq_of_lt (by omega),Nat.mul_comm q];exact(Nat.two_pow_add_eq_or_of_lt (i:=8) dU q).symm
   rw[nX];refine LU rfl (LL (LQ rfl (MK rfl rfl (LM rfl (LO ?_)))));exact(ih (i+1) _ ⟨rfl,by omega⟩ (by omega)).qb
  ·have cR:i=s.length:=by omega
   subst cR;rw[List.take_length];refine LW rfl (qN rfl (LM rfl (LU rfl (LP Tryz.func149 rfl ?_))));exact⟨_,rfl,rfl,ad⟩
section
variable {P:Program}{e:Env}{d:Option Nat}{ty t t':TypeId}{pos:String}{aft:Array Edge}{g:Option (Nat×Bool)}{x y:Operand}{w:World}
theorem z8d {ms:Array (String×TypeId)}{tx:TypeId}{v:Value}(ht:P.underlying t=some (.interface ms)):(binOp .eql t (.iface tx v) .nilIface).run P w= .ok (.bool false) w:=by
 have h:P.methodsAt t=ms:=by unfold Program.methodsAt;rw[ht]
 exact run_eql_held_nil w t tx v (by rw[h];exact ht)
theorem z9y {ms:Array (String×TypeId)}{tx:TypeId}{v:Value}(ht:P.underlying t=some (.interface ms))(hx:look e x=some (.iface tx v))(hy:look e y=some .nilIface):Y P e ⟨d,.binOp .eql t x y t',ty,pos,aft,g⟩ (.bool false) w w:=fun ρ hρ=>by
 have hg:∀a b,(eqGuard .eql t a b (.iface tx v) .nilIface).run P w= .ok () w:=λa b=>rfl
 simp only[execOp,hρ _ _ hx,hρ _ _ hy,Sem.run_bind,hg,Result.andThen_ok,z8d ht,Sem.run_pure]
theorem zcz {tx:TypeId}{v:Value}(hx:look e x=some (.iface tx v)):Y P e ⟨d,.nilCheck x,ty,pos,aft,g⟩ (.iface tx v) w w:=fun ρ hρ=>by simp[execOp,hρ _ _ hx]
end
structure RI (l:List Nat)(f:Fm)(z:Nat):Prop where
 n1:1<=l.length
 n2:l.length<=64
 nof:Nof l
 last:l[l.length-1]? =some z
 zb:z<=999999998
 fe:f=Qj l.length (z+1)
theorem RI.small {l:List Nat}{f:Fm}{z:Nat}(h:RI l f z):f.small:=by
 rw[h.fe]
 exact ZG h.n1 (by have:=h.n2;omega) (by omega) (by have:=h.zb;omega)
theorem RI.len {l:List Nat}{f:Fm}{z:Nat}(h:RI l f z):(UK l f).length=f.size:=by
 rw[h.fe]
 exact z0e h.n1 h.n2 h.nof h.last
theorem RI.n {l:List Nat}{f:Fm}{z:Nat}(h:RI l f z):f.n=l.length:=by rw[h.fe];rfl
theorem RI.u {l:List Nat}{f:Fm}{z:Nat}(h:RI l f z):f.u=z+1:=by rw[h.fe];rfl
theorem RI.size_le {l:List Nat}{f:Fm}{z:Nat}(h:RI l f z):f.size<=40000000/\12<=f.size:=by
 have h1:=h.small
 have h2:=Fm.T4 h1
 obtain⟨h3,h4,h5⟩:=h1
 unfold Fm.size Fm.Re
 have:12<=f.high:=by unfold Fm.high;omega
 omega
theorem piece {A B C:Bytes}{off n o:Nat}(h:off=A.length+o)(hn:o+n<=B.length):((A++B++C).drop off).take n=(B.drop o).take n:=by
 rw[h,List.append_assoc,List.drop_length_add_append,List.drop_append_of_le_length (by omega),List.take_append_of_le_length (by rw[List.length_drop];omega)]
def Pt (f:Fm):List Bool:=bitsN 32 f.n++bitsN 64 f.u
theorem Yr (f:Fm):Md (Mi (Pt f))=Pt f:=by
 obtain⟨z,h1,h2,h3⟩:=OD (Pt f)
 have hl:(Pt f).length=96:=by simp[Pt]
 have hz:z=0:=by omega
 rw[h1,hz,List.replicate_zero,List.append_nil]
theorem R6 (f:Fm):(Mi (Pt f)).length=12:=by
 rw[Mv];simp[Pt]
theorem zas (f:Fm)(hn:f.n<4294967296):valB (Md ((Mi (Pt f)).take 4))=f.n:=by
 rw[R4,Yr]
 unfold Pt
 rw[List.take_left' (by simp),MJ]
 exact Nat.mod_eq_of_lt hn
theorem zb0 (f:Fm)(hu:f.u<18446744073709551616):valB (Md ((Mi (Pt f)).drop 4))=f.u:=by
 rw[PU,Yr]
 unfold Pt
 rw[List.drop_left' (by simp),MJ]
 exact Nat.mod_eq_of_lt hu
theorem z6V (l:List Nat)(f:Fm):((UK l f).drop 0).take 12=Mi (Pt f):=by
 have h:=piece (A:=[]) (B:=Mi (Pt f)) (C:=Mi (OQ f.width l)++(Mi (hiB f.width 0 0 l)++Mi (restB f.width l))) (off:=0) (n:=12) (o:=0) rfl (by rw[R6];omega)
 rw[List.nil_append] at h
 unfold UK
 rw[List.append_assoc,List.append_assoc]
 refine h.trans ?_
 rw[List.drop_zero,List.take_of_length_le (by rw[R6];omega)]
def elC (f:Fm)(t:TypeId)(u:Value):List Value:=[I (f.n:Int),M7 f.u,I (f.width:Int),I (f.bits:Int),.iface t u]
theorem z39 {t:TypeId}{u:Value}{l:List Nat}{f:Fm}{z:Nat}(he:RI l f z)(R:Src t u (UK l f)){X:Nat->Prop}{w:World}(hI:R.inv X w)(hX:∀k,X k->k<w.heap.size):
  Mm Tryz.prog 114 [.iface t u] w λv w'=>∃x,v= .tuple #[ptr x 0,I 0]/\LX w' x (elC f t u) 271/\w.heap.size<=x/\R.inv (λk=>X k\/k=x) w'/\Kp (λk=>¬X k) w w':=by
 obtain⟨dP,cS⟩:=he.size_le
 have aB:=he.len
 have oU:=he.n
 have zH:=he.u
 have gW:=he.n2
 have cK:=he.n1
 have uy:=he.zb
 refine It (e:=[(0,_)]) Tryz.func114 rfl Tryz.ntmps114 rfl rfl (qN rfl (M6 rfl (LU rfl (run_seq (LK (qN rfl (LM rfl (qV (z9y z14 rfl rfl) (LU rfl (An rfl (qN rfl (LM rfl (Nj rfl rfl (yci R.cl R.ml rfl rfl) (R.len hI) ?_)))))))))))))
 rintro _ w1 ⟨rfl,ad⟩
 rw[aB]
 have lP:=R.ext hI ad (λk hk=> .inl hk)
 have kR:∀k,X k->k<w1.heap.size:=λk hk=>by have:=hX k hk;have:=ad.size;omega
 refine Nr rfl rfl (MC (LU rfl (An rfl (py (LL (qN rfl (LM rfl (Nj rfl rfl (yci R.cr R.mr rfl rfl) (R.rd 0 12 lP kR (by rw[aB];omega)) ?_))))))))
 rintro _ w2 ⟨rfl,cy,ao⟩
 rw[z6V]
 have dX:Kp (λk=>¬X k) w w2:=ad.kp.trans ao
 have gj:∀k,X k->k<w2.heap.size:=λk hk=>by have:=kR k hk;have:=ao.size;omega
 have ol:=R6 f
 have og:((Mi (Pt f)).take 4).length<=8:=by rw[List.length_take];omega
 have ji:((Mi (Pt f)).drop 4).length<=8:=by rw[List.length_drop];omega
 have uk:=zas f (by omega)
 have FN:=zb0 f (by omega)
 generalize Mi (Pt f)=hb at ol og ji uk FN
 have aa:=Ext.Ma w2
 refine LM rfl (MW rfl rfl (MW rfl rfl (M6 rfl (LU rfl (run_seq (qN rfl (LM rfl (MY rfl rfl (LO (An rfl (py (run_seq (NF (λw'=>Ext w2 w') rfl ?_)))))))))))))
 refine M9 0 rfl rfl (aa) (LS 1 rfl (YI U9 rfl rfl (by omega)) aa (M9 3 rfl rfl (aa) (LS 4 rfl (VU U9 rfl rfl (by omega)) aa (Pw 2 rfl z3L rfl (SY (hb.take 4) og _) ?_))))
 rintro _ w3 ⟨rfl,ah⟩
 refine⟨aa.trans ah,?_⟩
 refine Pw 5 rfl z3L rfl (SY (hb.drop 4) ji _) ?_
 rintro _ w4 ⟨rfl,aC⟩
 refine⟨(aa.trans ah).trans aC,?_⟩
 have cZ:=(aa.trans ah).trans aC
 rw[uk,FN]
 have kd:=R.ext cy cZ (λk hk=> .inl hk)
 refine LS 6 rfl (NK rfl) ((aa.trans ah).trans aC) (LS 7 rfl (NK rfl) ((aa.trans ah).trans aC) (qE (Mn.qb (e:=[(0,_),(2,_),(3,_),(6,_),(7,_)]) ?_)))
 refine run_seq (qN rfl (LM rfl (Nc rfl rfl (MC (M4 rfl rfl (Nc rfl rfl (MC (ME rfl rfl (M4 rfl rfl (NS rfl rfl (MC (LM rfl (NS rfl rfl ?_)))))))))))))
 refine MC (qV (z7r rfl rfl U4) (ME rfl rfl (LO (An rfl (py (qN rfl (LM rfl (qV (MB rfl Ns U3 (by omega)) (LM rfl ?_)))))))))
 have Ij:Qj f.n f.u=f:=by rw[oU,zH];exact he.fe.symm
 have me:=U0 f.n f.u (by omega) (by omega) (by omega) (by omega) w4
 rw[Ij] at me
 refine Mb z6e rfl (me) ?_
 rintro _ w5 ⟨rfl,aT⟩
 refine LV rfl rfl (O9 (cs:=[_,_,_,_]) PC rfl) ?_
 rintro _ w6 ⟨b8,rfl,jh,aN,ce⟩
 refine M1 rfl (MD (news:=fmC f) PC rfl rfl rfl rfl ce (by simp)) ?_
 rintro w7 ⟨pz,aA⟩
 replace pz:LX w7 b8 (fmC f) 210:=pz
 have pn:Ext w5 w7:=aN.LJ aA (λi e=>by omega)
 have wn:=aT.trans pn
 have jm:=R.ext kd wn (λk hk=> .inl hk)
 refine LO (run_seq (qN rfl (qV (Mk (news:=fmC f) z1o rfl PC rfl (pz.cells (n:=4) rfl) rfl) (Mb z9K rfl (Z0 f he.small _) ?_))))
 rintro _ w8 ⟨rfl,cV⟩
 have Cn:=R.ext jm cV (λk hk=> .inl hk)
 refine LM rfl (Nj rfl rfl (yci R.cl R.ml rfl rfl) (R.len Cn) ?_)
 rintro _ w9 ⟨rfl,fg⟩
 rw[aB]
 have jn:=R.ext Cn fg (λk hk=> .inl hk)
 have im:=cV.trans fg
 have wo:=(cZ.trans wn).trans im
 refine MY rfl rfl (MC (LO (Mn.qb (e:=[(0,_),(2,_),(3,_),(8,_),(51,_)]) ?_)))
 refine An rfl (py (qN rfl (qV (Mk (news:=fmC f) z1o rfl PC rfl ((im.LN pz).cells (n:=4) rfl) rfl) (LM rfl (qV (OJ (cs:=[_,_,_,_,_]) zdD rfl zcj rfl rfl) (LV rfl rfl (NN rfl (cs:=elC f t u) rfl) ?_))))))
 rintro _ w10 ⟨x,rfl,hx,bL,fd⟩
 refine M6 rfl (LU rfl (LP Tryz.func114 rfl ?_))
 exact⟨_,rfl,x,rfl,fd,by have:=dX.size;have:=wo.size;omega,R.ext jn bL (λk hk=>hk.imp id λe=>by omega),dX.trans (wo.trans bL).kp⟩
theorem z5q {t:TypeId}{u:Value}{f:Fm}{x:Nat}{w:World}(hB:LX w x (elC f t u) 271):Mm Tryz.prog 115 [ptr x 0] w λv w'=>v=I (f.n:Int)/\w'=w:=by
 replace hB:LX w x [I (f.n:Int),M7 f.u,I (f.width:Int),I (f.bits:Int),.iface t u] 271:=hB
 refine It (e:=[(0,_)]) Tryz.func115 rfl Tryz.ntmps115 rfl rfl (qN rfl (LU rfl (run_seq (qN rfl (LM rfl (qV (MU Uw rfl rfl) (LO (An rfl (py (qN rfl (LM rfl (Mp rfl (M0 ON rfl ?_)))))))))))))
 refine M0 Uc rfl (qV (LR U3 rfl rfl hB rfl) (LU rfl (LP Tryz.func115 rfl ?_)))
 exact⟨_,rfl,rfl,rfl⟩
theorem z6p (k:Nat)(a b:List Nat):OQ k (a++b)=OQ k a++OQ k b:=by simp[OQ]
theorem z9o {k i v:Nat}{l:List Nat}(h:l[i]? =some v)(rest:List Bool):((OQ k l++rest).drop (i*k)).take k=bitsN k (v%2^k):=by
 have hi:=(List.getElem?_eq_some_iff.1 h).1
 have e:l=l.take i++(v::l.drop (i+1)):=by
  conv=>lhs;rw[<-List.take_append_drop i l]
  congr 1
  rw[List.drop_eq_getElem_cons hi,(List.getElem?_eq_some_iff.1 h).2]
 have hl:(OQ k (l.take i)).length=i*k:=by rw[R3,List.length_take,Nat.min_eq_left (by omega)]
 rw[e,z6p,List.append_assoc,List.drop_left' hl]
 show((bitsN k (v%2^k)++OQ k (l.drop (i+1)))++rest).take k=_
 rw[List.append_assoc,List.take_left' (by simp)]
theorem Y7 {B:Bytes}{o n a m:Nat}(h:a+m<=8*n):((Md ((B.drop o).take n)).drop a).take m=((Md B).drop (8*o+a)).take m:=by
 rw[R4,PU,List.drop_take,List.drop_drop,List.take_take,Nat.min_eq_left (by omega)]
theorem z9m (l:List Nat)(f:Fm){o n:Nat}(h:o+n<=(Mi (OQ f.width l)).length):((UK l f).drop (12+o)).take n=((Mi (OQ f.width l)).drop o).take n:=by
 unfold UK
 rw[List.append_assoc (Mi (bitsN 32 f.n++bitsN 64 f.u)++Mi (OQ f.width l))]
 exact piece (by rw[show Mi (bitsN 32 f.n++bitsN 64 f.u)=Mi (Pt f) from rfl,R6]) h
theorem z5Q {t:TypeId}{u:Value}{l:List Nat}{f:Fm}{z:Nat}(he:RI l f z)(R:Src t u (UK l f)){X:Nat->Prop}{w:World}(hI:R.inv X w)(hX:∀k,X k->k<w.heap.size){x:Nat}(hx:X x)(hB:LX w x (elC f t u) 271){i v:Nat}(hv:l[i]? =some v):
  Mm Tryz.prog 206 [ptr x 0,I (i:Int)] w λr w'=>r= .tuple #[M7 (v%2^f.width),I 0]/\R.inv X w'/\Kp (λk=>¬X k) w w':=by
 have cR:=(List.getElem?_eq_some_iff.1 hv).1
 have aB:=he.len
 obtain⟨uT,wq⟩:=he.size_le
 have gW:=he.n2
 have uj:f.width<=30:=by rw[he.fe];exact VA (by have:=he.zb;omega)
 replace hB:LX w x [I (f.n:Int),M7 f.u,I (f.width:Int),I (f.bits:Int),.iface t u] 271:=hB
 refine It (e:=[(0,_),(1,_)]) Tryz.func206 rfl Tryz.ntmps206 rfl rfl (qN rfl (M6 rfl (LU rfl (run_seq (qN rfl (LM rfl (Mp rfl (M0 ON rfl (M0 PF rfl (qV (LR U3 rfl rfl hB rfl) (NS rfl rfl (LO (LY rfl (λh0=>?_) (λh0=>?_))))))))))))))
 ·have mI:f.width=0:=by omega
  refine qN rfl (M6 rfl (LU rfl (LP Tryz.func206 rfl (⟨_,rfl,?_,hI,Kp.refl _ _⟩))));rw[mI,Nat.pow_zero,Nat.mod_one]
  rfl
 ·have Fo:1<=f.width:=by omega
  have Ik:i*f.width<=64*30:=Nat.mul_le_mul (by omega) uj;have FO:(i+1)*f.width=i*f.width+f.width:=by rw[Nat.add_mul,Nat.one_mul]
  have f7:(i+1)*f.width<=l.length*f.width:=Nat.mul_le_mul_right _ cR;have e1:((i*f.width:Nat):Int)=(i:Int)*(f.width:Int):=Int.natCast_mul _ _;have e2:(((i+1)*f.width:Nat):Int)=((i:Int)+1)*(f.width:Int):=Int.natCast_mul _ _;have hg:=Ext.Ma w;refine py (run_seq (NF (λw'=>Ext w w') rfl (M9 0 rfl rfl (hg) (M9 1 rfl rfl (hg) (LS 2 rfl (MS rfl) hg (LS 3 rfl (Mo ON rfl) hg (LS 4 rfl (Mo PF rfl) hg (qT 5 rfl (λ_ h=>LR U3 rfl rfl (h.LN hB) rfl) hg (M9 7 rfl rfl (hg) (LS 8 rfl (R9 rfl rfl (by omega)) hg (M9 9 rfl rfl (hg) (LS 10 rfl (MS rfl) hg (LS 11 rfl (Mo ON rfl) hg ?_)))))))))))));refine LS 12 rfl (Mo PF rfl) hg (qT 13 rfl (λ_ h=>LR U3 rfl rfl (h.LN hB) rfl) hg (LS 6 rfl (SV rfl rfl (by rw[<-e1];omega)) hg ?_));rw[<-e1];refine LS 15 rfl (NK rfl) hg (LS 14 rfl (SV rfl rfl (by rw[<-e2];omega)) hg ?_);rw[<-e2,FO];refine LS 16 rfl (NK rfl) hg (qE (Mn.qb (e:=[(0,_),(4,_),(5,_),(6,_),(7,_)]) ?_));refine qN rfl (LM rfl (Mp rfl (M0 ZF rfl (qV (LR z14 rfl rfl hB rfl) (LM rfl (qV (Tg rfl rfl (by omega)) (MK rfl rfl (LM rfl (MK rfl rfl (qV (Tg rfl rfl (by omega)) (LM rfl (qV (Tg rfl rfl (by omega)) (NP rfl rfl ?_)))))))))))));have wu:=hg.LN hB;have Il:=R.ext hI hg (λk hk=> .inl hk);have Im:∀k,X k->k<w.drew.heap.size:=λk hk=>by have:=hX k hk;have:=hg.size;omega
  have Co:(Mi (OQ f.width l)).length=(l.length*f.width+7) / 8:=by rw[Mv,R3]
  have Cp:=z9o (k:=f.width) hv;have oL:∀rest,((OQ f.width l++rest).drop (i*f.width)).take f.width=bitsN f.width (v%2^f.width):=Cp;rw[FO] at f7
  generalize i*f.width=fr at Ik f7 oL e1
  rw[show(12:Int)+(fr:Int) / 8=((12+fr / 8:Nat):Int) by omega,show((fr+f.width:Nat):Int)+7=((fr+f.width+7:Nat):Int) by omega,show((fr+f.width+7:Nat):Int) / 8-(fr:Int) / 8=(((fr+f.width+7) / 8-fr / 8:Nat):Int) by omega];have sO:fr / 8+((fr+f.width+7) / 8-fr / 8)<=(Mi (OQ f.width l)).length:=by rw[Co];omega
  have jg:=z9m l f sO
  have sP:12+fr / 8+((fr+f.width+7) / 8-fr / 8)<=(UK l f).length:=by
   have e:(UK l f).length=12+(Mi (OQ f.width l)).length+(Mi (hiB f.width 0 0 l)).length+(Mi (restB f.width l)).length:=by
    unfold UK;rw[List.length_append,List.length_append,List.length_append,show Mi (bitsN 32 f.n++bitsN 64 f.u)=Mi (Pt f) from rfl,R6]
   omega
  refine Nj rfl rfl (yci R.cr R.mr rfl rfl) (R.rd (12+fr / 8) ((fr+f.width+7) / 8-fr / 8) Il Im sP) ?_;rintro _ w1 ⟨rfl,lP,aK⟩;rw[jg];have io:Kp (λk=>¬X k) w w1:=hg.kp.trans aK;have ai:=io.LN hB (λe=>e hx)
  have dZ:(((Mi (OQ f.width l)).drop (fr / 8)).take ((fr+f.width+7) / 8-fr / 8)).length=(fr+f.width+7) / 8-fr / 8:=by
   rw[List.length_take,List.length_drop];omega
  obtain⟨zz,mw,-,-⟩:=OD (OQ f.width l);have bS:=Y7 (B:=Mi (OQ f.width l)) (o:=fr / 8) (n:=(fr+f.width+7) / 8-fr / 8) (a:=fr%8) (m:=f.width) (by omega);rw[show 8*(fr / 8)+fr%8=fr by omega,mw,oL] at bS
  generalize ((Mi (OQ f.width l)).drop (fr / 8)).take ((fr+f.width+7) / 8-fr / 8)=pt at dZ bS
  refine LM rfl (MW rfl rfl (MW rfl rfl (M6 rfl (LU rfl (run_seq (qN rfl (LM rfl (MY rfl rfl (LO (Mn.qb (e:=[(0,_),(4,_),(5,_),(6,_),(8,_),(9,_),(52,_)]) ?_))))))))));refine An rfl (py (qN rfl (LM rfl (Mb z3n rfl (Tf pt (by omega) w1) ?_))));rintro _ w2 ⟨r,rfl,dw,af,dx⟩;refine M6 rfl (qM rfl (M4 rfl rfl (qV (Tw rfl rfl (by omega) (by omega)) ?_)));rw[show fr&&&7=fr%8 from Nat.and_two_pow_sub_one_eq_mod fr 3];refine Mb z81 rfl (Vy dw (fr%8) (by omega)) ?_;rintro _ w3 ⟨rfl,ou,ar⟩;have aO:Ext w1 w3:=af.LJ ar (λi e=>by omega);have aq:=aO.LN ai;refine qM rfl (M4 rfl rfl (Mp rfl (M0 ON rfl (M0 PF rfl (qV (LR U3 rfl rfl aq rfl) (Mb z0W rfl (RN ou f.width (by omega)) ?_))))));rintro v4 w4 oH
  have iJ:v4= .tuple #[M7 (v%2^f.width),I 0]/\Kp (λk=>k=r) w3 w4:=by
   rcases oH with⟨-,e,-,hk⟩|⟨e,-,-⟩
   ·rw[bS,MJ,Nat.mod_mod] at e;exact⟨e,hk⟩
   ·omega
  obtain⟨rfl,ax⟩:=iJ;have bF:Ext w1 w4:=aO.LJ ax (λi e=>by omega);refine LM rfl (MW rfl rfl (MW rfl rfl (M6 rfl (LU rfl (Mn.qb (e:=[(4,_),(5,_),(11,_)]) ?_)))));refine qN rfl (LM rfl (M6 rfl (LU rfl (LP Tryz.func206 rfl ?_))));exact⟨_,rfl,rfl,R.ext lP bF (λk hk=> .inl hk),io.trans bF.kp⟩
theorem XW (n:Nat):valB (List.replicate n false)=0:=by
 rw[<-RW,MJ];simp
theorem z0O (b:List Bool)(k:Nat):valB (b++List.replicate k false)=valB b*2^k:=by
 rw[Oi,XW,List.length_replicate,Nat.add_zero]
theorem Yt (b:List Bool)(k:Nat):valB (List.replicate k false++b)=valB b:=by
 rw[Oi,XW];simp
theorem WT {D:List Bool}{a b m:Nat}(ha:m<=D.length+a)(hb:m<=D.length+b):(D++List.replicate a false).take m=(D++List.replicate b false).take m:=by
 rw[List.take_append,List.take_append,List.take_replicate,List.take_replicate,Nat.min_eq_left (by omega),Nat.min_eq_left (by omega)]
def ZN (H:List Bool)(a:Nat):List Bool:=List.replicate (a%8) false++(H.drop a++List.replicate 64 false).take (64-a%8)
theorem z3Y (H:List Bool)(a:Nat):(ZN H a).length=64:=by
 unfold ZN
 rw[List.length_append,List.length_replicate,List.length_take,List.length_append,List.length_replicate]
 omega
theorem z4B {H:List Bool}{fq n:Nat}(hf:8*fq<H.length)(hn:n=min 8 ((H.length+7) / 8-fq)):
  Md (((Mi H).drop fq).take n)++List.replicate (64-8*n) false=(H.drop (8*fq)++List.replicate 64 false).take 64:=by
 obtain⟨z,h1,h2,h3⟩:=OD H
 rw[R4,PU,h1,List.drop_append_of_le_length (by omega)]
 have hD:(H.drop (8*fq)).length=H.length-8*fq:=List.length_drop
 generalize H.drop (8*fq)=D at hD
 rcases Nat.lt_or_ge n 8 with h| h
 ·have e:8*n=D.length+z:=by omega
  rw[List.take_of_length_le (by rw[List.length_append,List.length_replicate];omega),List.append_assoc,List.replicate_append_replicate];rw[WT (a:=64) (b:=z+(64-8*n)) (by omega) (by omega),List.take_of_length_le (by rw[List.length_append,List.length_replicate];omega)]
 ·have e:n=8:=by omega
  subst e;rw[show 64-8*8=0 from rfl,List.replicate_zero,List.append_nil];exact WT (by omega) (by omega)
theorem z5U {W:List Bool}(hW:W.length=64){d:Nat}(hd:d<=64):valB W%2^(64-d)=valB (List.replicate d false++W.drop d):=by
 have h1:=Oi (W.take d) (W.drop d)
 rw[List.take_append_drop,List.length_drop,hW] at h1
 have h2:=Nu (W.drop d)
 rw[List.length_drop,hW] at h2
 rw[Yt,h1,Nat.add_comm,Nat.add_mul_mod_self_right,Nat.mod_eq_of_lt h2]
theorem z5S {H:List Bool}{a:Nat}(ha:a<H.length):List.replicate (a%8) false++((H.drop (8*(a / 8))++List.replicate 64 false).take 64).drop (a%8)=ZN H a:=by
 unfold ZN
 congr 1
 have hd:a%8<=(H.drop (8*(a / 8))).length:=by rw[List.length_drop];omega
 rw[List.drop_take,List.drop_append_of_le_length hd,List.drop_drop,show 8*(a / 8)+a%8=a by omega]
theorem z6Z {H:List Bool}{a r:Nat}(ha:a<H.length)(hr:a / 8*8+64=H.length+r):∃q,valB (ZN H a)=q*2^r:=by
 have hD:(H.drop a).length=H.length-a:=List.length_drop
 refine⟨valB (List.replicate (a%8) false++H.drop a),?_⟩
 rw[<-z0O]
 congr 1
 unfold ZN
 rw[List.append_assoc,WT (a:=64) (b:=r) (by omega) (by omega),List.take_of_length_le (by rw[List.length_append,List.length_replicate];omega)]
theorem z5D {d:Nat}(hd:d<=64):18446744073709551615 / 2^d=2^(64-d)-1:=by
 have hp:0<2^d:=Nat.two_pow_pos d
 have h1:2^64=2^d*2^(64-d):=by rw[<-Nat.pow_add,show d+(64-d)=64 by omega]
 have h2:0<2^(64-d):=Nat.two_pow_pos _
 have h3:18446744073709551615=(2^d-1)+2^d*(2^(64-d)-1):=by
  rw[Nat.mul_sub,<-h1,Nat.mul_one];have h4:2^d<=2^64:=Nat.pow_le_pow_right (by decide) hd;omega
 rw[h3,Nat.add_mul_div_left _ _ hp,Nat.div_eq_of_lt (by omega),Nat.zero_add]
theorem z47 {b:List Bool}(h:b.length=64):valB b<18446744073709551616:=by
 have:=Nu b
 rw[h] at this
 exact this
theorem zaT (l:List Nat)(f:Fm)(hf:f.high=12+(Mi (OQ f.width l)).length){o n:Nat}(h:o+n<=(Mi (hiB f.width 0 0 l)).length):((UK l f).drop (f.high+o)).take n=((Mi (hiB f.width 0 0 l)).drop o).take n:=by
 unfold UK
 exact piece (by rw[List.length_append,show Mi (bitsN 32 f.n++bitsN 64 f.u)=Mi (Pt f) from rfl,R6,hf]) h
theorem RI.high {l:List Nat}{f:Fm}{z:Nat}(he:RI l f z):f.high=12+(Mi (OQ f.width l)).length:=by
 unfold Fm.high
 rw[Mv,R3,he.n]
theorem RI.bits {l:List Nat}{f:Fm}{z:Nat}(he:RI l f z):f.bits=(hiB f.width 0 0 l).length:=by
 rw[Xz f.width he.nof he.last]
 rw[he.fe]
 show(z+1-1) / _+_=_
 rw[Nat.add_sub_cancel]
 rfl
theorem z2o {t:TypeId}{u:Value}{l:List Nat}{f:Fm}{z:Nat}(he:RI l f z)(R:Src t u (UK l f)){X:Nat->Prop}{w:World}(hI:R.inv X w)(hX:∀k,X k->k<w.heap.size){x b3 b8 v0:Nat}(hx:X x)(h3:X b3)(h8:X b8)(ru:b8≠x/\b8≠b3)(hB:LX w x (elC f t u) 271)(aq:LX w b3 [ptr x 0] 131)(ce:LX w b8 [M7 v0] 41){a:Nat}(ha:a<f.bits):
  Mm Tryz.prog 216 [I (a:Int),ptr b3 0,ptr b8 0] w λr w'=>r=I 0/\R.inv X w'/\Kp (λk=>¬X k\/k=b8) w w'/\LX w' b8 [M7 (valB (ZN (hiB f.width 0 0 l) a))] 41:=by
 have aB:=he.len
 obtain⟨uT,wq⟩:=he.size_le
 have sQ:=he.small
 have ol:=Fm.T4 sQ
 have ff:=sQ.2.2
 have bS:=he.bits
 have wv:=he.high
 have dZ:(Mi (hiB f.width 0 0 l)).length=(f.bits+7) / 8:=by rw[Mv,bS]
 replace hB:LX w x [I (f.n:Int),M7 f.u,I (f.width:Int),I (f.bits:Int),.iface t u] 271:=hB
 refine It (e:=[(0,_),(1,_),(2,_)]) Tryz.func216 rfl Tryz.ntmps216 rfl rfl (qN rfl (M6 rfl (qM rfl (LM rfl (qV (zb7 rfl rfl (by omega)) (M6 rfl (qM rfl (qV ((by first|exact LR Uw rfl rfl hB rfl|exact LR Uw rfl rfl aq rfl)) ?_))))))))
 refine Mp rfl (M0 ON rfl (M0 UA rfl (qV ((by first|exact LR U3 rfl rfl hB rfl|exact LR U3 rfl rfl aq rfl)) ?_)))
 refine MK rfl rfl (qV (Tg rfl rfl (by omega)) (LM rfl (qV (Tg rfl rfl (by omega)) (NP rfl rfl ?_))))
 rw[show((f.bits:Int)+7) / 8-((a / 8*8:Nat):Int) / 8=(((f.bits+7) / 8-a / 8:Nat):Int) by omega]
 refine qV (ymi rfl rfl) ?_
 rw[show min (8:Int) (((f.bits+7) / 8-a / 8:Nat):Int)=((min 8 ((f.bits+7) / 8-a / 8):Nat):Int) by omega]
 obtain⟨n,hn⟩:∃n,n=min 8 ((f.bits+7) / 8-a / 8):=⟨_,rfl⟩
 rw[<-hn]
 have hg:=Ext.Ma w
 refine LU rfl (run_seq (NF (λw'=>Kp (λk=>¬X k) w w') rfl (qT 0 rfl (λ_ hS=>(by first|exact LR Uw rfl rfl (hS.LN hB (λe=>e hx)) rfl|exact LR Uw rfl rfl (hS.LN aq (λe=>e h3)) rfl)) (hg.kp) ?_)))
 refine LS 1 rfl (MS rfl) (hg.kp) (LS 2 rfl (Mo ZF rfl) (hg.kp) (qT 3 rfl (λ_ hS=>(by first|exact LR z14 rfl rfl (hS.LN hB (λe=>e hx)) rfl|exact LR z14 rfl rfl (hS.LN aq (λe=>e h3)) rfl)) (hg.kp) ?_))
 refine qT 4 rfl (λ_ hS=>(by first|exact LR Uw rfl rfl (hS.LN hB (λe=>e hx)) rfl|exact LR Uw rfl rfl (hS.LN aq (λe=>e h3)) rfl)) (hg.kp) ?_
 refine LS 5 rfl (MS rfl) (hg.kp) (LS 6 rfl (Mo ON rfl) (hg.kp) (M9 9 rfl rfl (hg.kp) (LS 10 rfl (Tg rfl rfl (by omega)) (hg.kp) (M9 12 rfl rfl (hg.kp) (qT 7 rfl (λ_ hS=>Mk (news:=fmC f) z1o rfl PC rfl ((hS.LN hB (λe=>e hx)).cells (n:=4) rfl) rfl) (hg.kp) (LS 13 rfl (zcz rfl) (hg.kp) (M9 14 rfl rfl (hg.kp) (Pw 8 rfl za9 rfl (z0u f sQ _) ?_))))))))
 rintro _ w1 ⟨rfl,ad⟩
 refine⟨(hg.trans ad).kp,?_⟩
 have bG:=hg.trans ad
 refine LS 11 rfl (R9 rfl rfl (by omega)) ((hg.trans ad).kp) ?_
 rw[show(f.high:Int)+((a / 8*8:Nat):Int) / 8=((f.high+a / 8:Nat):Int) by omega]
 have lP:=R.ext hI bG (λk hk=> .inl hk)
 have kR:∀k,X k->k<w1.heap.size:=λk hk=>by have:=hX k hk;have:=bG.size;omega
 have sO:a / 8+n<=(Mi (hiB f.width 0 0 l)).length:=by rw[dZ];omega
 have sP:f.high+a / 8+n<=(UK l f).length:=by
  rw[aB];have e:f.size=f.Re+4*((f.n+63) / 64):=rfl;have e2:f.Re=f.high+(f.bits+7) / 8:=rfl;omega
 have jg:=zaT l f wv sO
 have nl:=z4B (H:=hiB f.width 0 0 l) (fq:=a / 8) (n:=n) (by omega) (by rw[<-bS];exact hn)
 refine qO 15 (SS (i:=15) rfl rfl rfl (yci R.cr R.mr rfl rfl) (R.rd (f.high+a / 8) n lP kR sP) ?_)
 rintro _ w2 ⟨rfl,cy,ao⟩
 refine⟨bG.kp.trans ao,?_⟩
 rw[jg]
 have dX:Kp (λk=>¬X k) w w2:=bG.kp.trans ao
 have am:=dX.LN hB (λe=>e hx)
 have cX:=dX.LN aq (λe=>e h3)
 have sw:=dX.LN ce (λe=>e h8)
 have Cq:(((Mi (hiB f.width 0 0 l)).drop (a / 8)).take n).length=n:=by rw[List.length_take,List.length_drop];omega
 generalize ((Mi (hiB f.width 0 0 l)).drop (a / 8)).take n=pt at nl Cq
 refine M9 16 rfl rfl (bG.kp.trans ao) (LS 17 rfl (NO rfl rfl) (bG.kp.trans ao) (LS 18 rfl (NO rfl rfl) (bG.kp.trans ao) (LS 19 rfl (NK rfl) (bG.kp.trans ao) (LS 20 rfl (NK rfl) (bG.kp.trans ao) (qE (Mn.qb (e:=[(0,_),(1,_),(2,_),(4,_),(5,_),(6,_),(7,_),(8,_)]) ?_))))))
 refine qN rfl (LM rfl (Mb z3L rfl (SY pt (by omega) w2) ?_))
 rintro _ w3 ⟨rfl,ah⟩
 refine LM rfl (qV (SV rfl rfl (by omega)) (NP rfl rfl ?_))
 rw[show(64:Int)-8*(n:Int)=((64-8*n:Nat):Int) by omega]
 refine qV (NJ (64-8*n) (2^(64-8*n)) rfl rfl (by omega) rfl) ?_
 have Cr:=z0O (Md pt) (64-8*n)
 rw[nl] at Cr
 have In:((hiB f.width 0 0 l).drop (8*(a / 8))++List.replicate 64 false).take 64=((hiB f.width 0 0 l).drop (8*(a / 8))++List.replicate 64 false).take 64:=rfl
 obtain⟨W0,ww⟩:∃W0,W0=((hiB f.width 0 0 l).drop (8*(a / 8))++List.replicate 64 false).take 64:=⟨_,rfl⟩
 have wx:W0.length=64:=by rw[ww,List.length_take,List.length_append,List.length_replicate];omega
 have FP:=z5S (H:=hiB f.width 0 0 l) (a:=a) (by omega)
 rw[<-ww] at Cr FP
 have f7:=z5U wx (d:=a%8) (by omega)
 rw[FP] at f7
 have Cs:=z47 wx
 rw[<-Cr,Nat.mod_eq_of_lt Cs]
 refine M1 rfl (NC Rg rfl rfl rfl (ah.LN sw) (by simp)) ?_
 rintro w4 ⟨et,ax⟩
 replace et:LX w4 b8 [M7 (valB W0)] 41:=et
 have aM:=ax.LN (ah.LN am) (λe=>ru.1 e.symm)
 have cG:=ax.LN (ah.LN cX) (λe=>ru.2 e.symm)
 have kd:=R.own (R.ext cy ah (λk hk=> .inl hk)) ax (λk e=>by rw[e];exact h8)
 have ae:=Ext.Ma w4
 refine LO (run_seq (Me [6] (λw'=>Ext w4 w') (by kernel_rfl) rfl (qL [5,6] 0 rfl (λ_ h=>LR Ns rfl rfl (h.LN et) rfl) ae (qL [3,4,5,6] 1 rfl (λ_ h=>My rfl) ae (qL [3,4,5,6] 2 rfl (λ_ h=>My rfl) ae (qL [4,5,6] 3 rfl (λ_ h=>TF rfl rfl (by omega)) ae ?_))))))
 rw[show(a:Int)-((a / 8*8:Nat):Int)=((a%8:Nat):Int) by omega]
 refine qL [5,6] 4 rfl (λ_ h=>Qm (m:=18446744073709551615) (a%8) (2^(a%8)) rfl rfl (by show a%8<=64;omega) rfl) ae ?_
 rw[z5D (d:=a%8) (by omega)]
 have Io:2^(64-a%8)<=2^64:=Nat.pow_le_pow_right (by decide) (by omega)
 refine qL [6] 5 rfl (λ_ h=>QT rfl rfl (by omega) (by omega)) ae ?_
 rw[Nat.and_two_pow_sub_one_eq_mod,f7]
 refine Pv [6] (qO 6 (Mx (i:=6) rfl rfl (NC Rg rfl rfl rfl (ae.LN et) (by simp)) ?_))
 rintro w5 ⟨bE,aj⟩
 refine⟨trivial,?_⟩
 replace bE:LX w5 b8 [M7 (valB (ZN (hiB f.width 0 0 l) a))] 41:=bE
 have aF:=aj.LN (ae.LN aM) (λe=>ru.1 e.symm)
 have bT:=aj.LN (ae.LN cG) (λe=>ru.2 e.symm)
 have jL:=R.own (R.ext kd ae (λk hk=> .inl hk)) aj (λk e=>by rw[e];exact h8)
 have ck:Kp (λk=>¬X k\/k=b8) w w5:=(((dX.LZ λk e=> .inl e).trans ah.kp).trans (ax.LZ λk e=> .inr e)).trans (ae.kp.trans (aj.LZ λk e=> .inr e))
 have Ct:=z47 (z3Y (hiB f.width 0 0 l) a)
 refine qE (run_seq (qN rfl (LM rfl (MK rfl rfl (qV ((by first|exact LR Uw rfl rfl aF rfl|exact LR Uw rfl rfl bT rfl)) ?_)))))
 refine Mp rfl (M0 ON rfl (M0 UA rfl (qV ((by first|exact LR U3 rfl rfl aF rfl|exact LR U3 rfl rfl bT rfl)) ?_)))
 refine NP rfl rfl (LU rfl (Mn.qb (e:=[(2,_),(4,_),(8,_),(9,_)]) ?_))
 refine qN rfl (LM rfl (Nc rfl rfl (LO (LY rfl (λh0=>?_) (λh0=>?_)))))
 ·obtain⟨r,hr⟩:∃r,a / 8*8+64=f.bits+r:=⟨a / 8*8+64-f.bits,by omega⟩;obtain⟨q,hq⟩:=z6Z (H:=hiB f.width 0 0 l) (a:=a) (r:=r) (by omega) (by omega);rw[show((a / 8*8:Nat):Int)+64-(f.bits:Int)=(r:Int) by omega];have hp:=Nat.two_pow_pos r
  have wG:valB (ZN (hiB f.width 0 0 l) a) / 2^r*2^r%18446744073709551616=valB (ZN (hiB f.width 0 0 l) a):=by
   rw[Nat.mod_eq_of_lt (Nat.lt_of_le_of_lt (Nat.div_mul_le_self _ _) Ct),hq,Nat.mul_div_cancel _ hp]
  refine LQ rfl (qV (LR Ns rfl rfl bE rfl) (LM rfl (qV (Qm r (2^r) rfl rfl (by show r<=64;omega) rfl) ?_)));refine LM rfl (qV (NJ r (2^r) rfl rfl (by omega) rfl) ?_);rw[wG];refine M1 rfl (NC Rg rfl rfl rfl bE (by simp)) ?_;rintro w6 ⟨ke,aR⟩;refine qM rfl (LM rfl (LU rfl (LP Tryz.func216 rfl ?_)));exact⟨_,rfl,rfl,R.own jL aR (λk e=>by rw[e];exact h8),ck.trans (aR.LZ λk e=> .inr e),ke⟩
 ·refine py (qN rfl (LM rfl (LU rfl (LP Tryz.func216 rfl ?_))));exact⟨_,rfl,rfl,jL,ck,bE⟩
theorem z0Y:∀{W:List Bool} {k p:Nat},nth1 W k=some p->∃z r,W=List.replicate z false++true::r
 |true::W,k,p,h=>⟨0,W,rfl⟩
 | false :: W, k, p, h => by
   simp only[nth1,Option.map_eq_some_iff] at h;obtain⟨q,hq,-⟩:=h;obtain⟨z,r,e⟩:=z0Y hq
   exact⟨z+1,r,by rw[e,List.replicate_succ];rfl⟩
 |[],k,p,h=>by simp[nth1] at h
theorem z29 (z:Nat)(r:List Bool)(k:Nat):nth1 (List.replicate z false++true::r) (k+1)=nth1 (List.replicate (z+1) false++r) k:=by
 rw[QR,QR,nth1,Option.map_map]
 congr 1
 funext j;show j+1+z=j+(z+1);omega
theorem z4J (z:Nat)(r:List Bool):nth1 (List.replicate z false++true::r) 0=some z:=by
 rw[QR,nth1];simp
theorem z1N (z:Nat)(r:List Bool):MF (valB (List.replicate z false++true::r))=r.length+1:=by
 rw[TO]
 have:=Nu r
 exact z3K (by omega) (by rw[Nat.pow_succ];omega)
theorem Yx (n:Nat):(List.replicate n false).count true=0:=by
 rw[List.count_replicate];rfl
theorem YA (H:List Bool)(a:Nat):(ZN H a).count true=((H.drop a).take (64-a%8)).count true:=by
 unfold ZN
 rw[List.count_append,Yx,Nat.zero_add,List.take_append,List.count_append,List.take_replicate,Yx];omega
theorem z95 {W:List Bool}(h:W.length=64):(bitsN 64 (valB W)).count true=W.count true:=by
 have:=XK W
 rw[h] at this
 rw[this]
theorem z98 {H:List Bool}{a k q:Nat}(h:nth1 (H.drop a) k=some q)(hk:k<(ZN H a).count true):nth1 (ZN H a) k=some (a%8+q):=by
 rw[YA] at hk
 have h1:=SO ((H.drop a).take (64-a%8)) ((H.drop a).drop (64-a%8)) k
 rw[List.take_append_drop,if_pos hk,h] at h1
 unfold ZN
 rw[QR,List.take_append,SO,if_pos hk,<-h1]
 show some (q+a%8)=_
 rw[Nat.add_comm]
theorem z50 {H:List Bool}{a k q:Nat}(h:nth1 (H.drop a) k=some q)(hk:(ZN H a).count true<=k):64-a%8<=q/\nth1 (H.drop (a / 8*8+64)) (k-(ZN H a).count true)=some (q-(64-a%8)):=by
 rw[YA] at hk⊢
 have h1:=SO ((H.drop a).take (64-a%8)) ((H.drop a).drop (64-a%8)) k
 rw[List.take_append_drop,if_neg (by omega),h] at h1
 obtain⟨p,hp,Ip⟩:=Option.map_eq_some_iff.1 h1.symm
 have h2:=(Wx hp).1
 rw[List.length_drop] at h2
 rw[List.length_take,Nat.min_eq_left (by omega)] at Ip
 rw[List.drop_drop,show a+(64-a%8)=a / 8*8+64 by omega] at hp
 exact⟨by omega,by rw[hp];congr 1;omega⟩
theorem z4M {t:TypeId}{u:Value}{l:List Nat}{f:Fm}{z:Nat}(he:RI l f z)(R:Src t u (UK l f)){X:Nat->Prop}{w:World}(hI:R.inv X w)(hX:∀k,X k->k<w.heap.size){x:Nat}(hx:X x)(hB:LX w x (elC f t u) 271){p k q:Nat}(aK:k<=1000000)(hq:nth1 ((hiB f.width 0 0 l).drop p) k=some q):
  Mm Tryz.prog 205 [ptr x 0,I (p:Int),I (k:Int)] w λr w'=>r= .tuple #[I ((p+q:Nat):Int),I 0]/\R.inv X w'/\Kp (λj=>¬X j) w w':=by
 have bS:=he.bits
 have ff:=he.small.2.2
 have du:=hX x hx
 refine It (e:=[(0,_),(1,_),(2,_)]) Tryz.func205 rfl Tryz.ntmps205 rfl rfl (qN rfl (LV rfl rfl (NN rfl (cs:=[ptr x 0]) rfl) ?_))
 rintro _ w1 ⟨b3,rfl,en,ad,aq⟩
 refine M6 rfl (M6 rfl (qM rfl (LV rfl rfl (O9 (cs:=[_]) Rg rfl) ?_)))
 rintro _ w2 ⟨b8,rfl,jh,af,ce⟩
 have z1:=ad.size
 have z2:=af.size
 have l3:=aq.lt
 have l8:=ce.lt
 have aD:=ad.trans af
 have cy:R.inv (λj=>X j\/j=b3\/j=b8) w2:=R.ext hI aD (λj hj=>by rcases hj with e|e|e;exact .inl e;exact .inr (by omega);exact .inr (by omega))
 replace ce:LX w2 b8 [M7 0] 41:=ce
 refine qM rfl (qV (ZU (first:=[]) (caps:=[.tmp 3,.tmp 8]) rfl rfl) (LU rfl (run_seq (qN rfl (LM rfl (LU rfl (LK (Oe (α:=Nat×Nat×Nat×Nat) ((p,k,q,0)) (λy=>[(2,I (y.2.1:Int)),(3,ptr b3 0),(8,ptr b8 0),(9,.func (.func 216) #[] #[ptr b3 0,ptr b8 0]),(10,I (y.1:Int))]) (λy w'=>R.inv (λj=>X j\/j=b3\/j=b8) w'/\Kp (λj=>¬X j) w w'/\w2.heap.size<=w'.heap.size/\LX w' x (elC f t u) 271/\LX w' b3 [ptr x 0] 131/\LX w' b8 [M7 y.2.2.2] 41/\nth1 ((hiB f.width 0 0 l).drop y.1) y.2.1=some y.2.2.1/\y.1+y.2.2.1=p+q/\y.2.1<=1000000) (λy=>f.bits-y.1) ?hI ?hround))))))))
 case hI=>exact⟨cy,aD.kp,Nat.le_refl _,aD.LN hB,af.LN aq,ce,hq,rfl,aK⟩
 case hround =>
  rintro⟨a,k4,q4,v4⟩ w4 ⟨kd,ax,zL,aM,cG,et,ct,BL,wH⟩ ih;dsimp only at kd ax zL aM cG et ct BL wH;have wI:=(Wx ct).1;rw[List.length_drop] at wI;have zM:a<f.bits:=by omega
  have Cu:∀j,(X j\/j=b3\/j=b8)->j<w4.heap.size:=λj hj=>by
   rcases hj with e|e| e
   ·have:=hX j e;omega
   ·omega
   ·omega
  have ew:LX w4 x [I (f.n:Int),M7 f.u,I (f.width:Int),I (f.bits:Int),.iface t u] 271:=aM
  try dsimp only
  refine run_seq (qN rfl (LM rfl (qV ((by first|exact LR Uw rfl rfl cG rfl|exact LR Uw rfl rfl ew rfl)) ?_)));refine Mp rfl (M0 ON rfl (M0 UA rfl (qV ((by first|exact LR U3 rfl rfl cG rfl|exact LR U3 rfl rfl ew rfl)) ?_)));refine Nr rfl rfl (LO (LY rfl (λh0=>?_) (λh0=>?_)))
  ·refine py (run_seq (LK (run_seq (qN rfl (M4 rfl rfl (Nj rfl rfl (OC zcm rfl rfl) (z2o he R kd Cu (.inl hx) (.inr (.inl rfl)) (.inr (.inr rfl)) ⟨by omega,by omega⟩ aM cG et zM) ?_))))));rintro _ w5 ⟨rfl,jL,aj,bE⟩;have z5:=aj.size;have ck:Kp (λj=>¬X j) w w5:=ax.LJ aj (λj hj=>by rcases hj with e|e;exact .inr (λh=>e (.inl h));exact .inl (by omega));have aF:=aj.LN aM (λe=>by rcases e with e|e;exact e (.inl hx);omega);have bT:=aj.LN cG (λe=>by rcases e with e|e;exact e (.inr (.inl rfl));omega);have wJ:=z3Y (hiB f.width 0 0 l) a;have wK:=z47 wJ;have zN:=z95 wJ;have ov:=λh=>z98 (H:=hiB f.width 0 0 l) ct h;have FQ:=λh=>z50 (H:=hiB f.width 0 0 l) ct h
   generalize ZN (hiB f.width 0 0 l) a=W at wJ wK zN ov FQ bE
   have dU:W.count true<=64:=by rw[<-wJ];exact List.count_le_length
   refine M6 rfl (qM rfl (LM rfl (MY rfl rfl (LO (An rfl (py (run_seq (qN rfl (qV (LR Ns rfl rfl bE rfl) (Mb zdU rfl (z7I (valB W) wK w5) ?_))))))))));rintro _ w5 ⟨rfl,rfl⟩;rw[zN];refine M6 rfl (qM rfl (M4 rfl rfl (zle rfl rfl (LO (LY rfl (λh1=>?_) (λh1=>?_))))))
   ·obtain⟨dP,cS⟩:=FQ (by omega);refine qN rfl (M4 rfl rfl (NP rfl rfl (LU rfl (LW rfl (LQ rfl (LM rfl ?_))))));rw[show(k4:Int)-((W.count true:Nat):Int)=((k4-W.count true:Nat):Int) by omega];refine qV (zb7 rfl rfl (by omega)) (MK rfl rfl (LU rfl ?_));rw[show((a / 8*8:Nat):Int)+64=((a / 8*8+64:Nat):Int) by omega];exact(ih (a / 8*8+64,k4-W.count true,q4-(64-a%8),valB W) _ ⟨jL,ck,by omega,aF,bT,bE,cS,by dsimp only;omega,by dsimp only;omega⟩ (by dsimp only;omega)).qb
   ·have zp:=ov (by omega);refine py (run_seq (LK (Oe (α:=List Bool×Nat) ((W,k4)) (λy=>[(2,I (y.2:Int)),(8,ptr b8 0),(10,I (a:Int))]) (λy w'=>R.inv (λj=>X j\/j=b3\/j=b8) w'/\Kp (λj=>¬X j) w w'/\LX w' b8 [M7 (valB y.1)] 41/\y.1.length=64/\nth1 y.1 y.2=some (a%8+q4)/\y.2<=1000000) (λy=>y.2) ?hI ?hround)))
    case hI=>exact⟨jL,ck,bE,wJ,zp,wH⟩
    case hround=>
     rintro⟨W6,k6⟩ w6 ⟨oN,aR,ke,kY,ul,Cv⟩ ih2;dsimp only at oN aR ke kY ul Cv;obtain⟨zz,r,rfl⟩:=z0Y ul;have FS:=z1N zz r;have Iq:=TO zz r;have mg:=Nu r;have wL:=z47 kY;rw[List.length_append,List.length_replicate,List.length_cons] at kY
     try dsimp only
     refine run_seq (qN rfl (LM rfl (Nc rfl rfl (LO (LY rfl (λh2=>?_) (λh2=>?_))))))
     ·obtain⟨k7,rfl⟩:∃k7,k6=k7+1:=⟨k6-1,by omega⟩;rw[z29] at ul;have dm:=Ext.Ma w6;refine py (run_seq (LK (Me [6] (λw'=>Ext w6 w') (by kernel_rfl) rfl (qL [5,6] 0 rfl (λ_ h=>LR Ns rfl rfl (h.LN ke) rfl) dm (qL [2,3,4,5,6] 1 rfl (λ_ h=>LR Ns rfl rfl (h.LN ke) rfl) dm (Nw (i:=2) (by kernel_rfl) (O4 (i:=2) rfl rfl rfl (yc z9u rfl) (z6M _ wL _) ?_)))))));rintro _ w7 ⟨rfl,rfl⟩;refine⟨dm,?_⟩;rw[FS];refine qL [4,5,6] 3 rfl (λ_ h=>TF rfl rfl (by omega)) dm ?_;rw[show(63:Int)-((64-(r.length+1):Nat):Int)=(r.length:Int) by omega];refine qL [5,6] 4 rfl (λ_ h=>NJ r.length (2^r.length) rfl rfl (by omega) rfl) dm ?_;have dZ:2^r.length<=2^63:=Nat.pow_le_pow_right (by decide) (by omega);rw[show 1*2^r.length%18446744073709551616=2^r.length by rw[Nat.one_mul];exact Nat.mod_eq_of_lt (by omega)];rw[Iq];refine qL [6] 5 rfl (λ_ h=>zfd (by omega) mg rfl rfl rfl) dm (Pv [6] (qO 6 (Mx (i:=6) rfl rfl (NC Rg rfl rfl rfl (dm.LN ke) (by simp)) ?_)));rintro w8 ⟨sR,bj⟩;refine⟨trivial,?_⟩;replace sR:LX w8 b8 [M7 (valB r)] 41:=sR;refine qE (LL (LQ rfl (LM rfl (NP rfl rfl (LU rfl ?_)))));rw[show((k7+1:Nat):Int)-1=(k7:Int) by omega];refine(ih2 (List.replicate (zz+1) false++r,k7) _ ⟨R.own (R.ext oN dm (λj hj=> .inl hj)) bj (λj e=> .inr (.inr e)),(aR.trans dm.kp).LJ bj (λj e=> .inl (by omega)),?_,?_,ul,by dsimp only;omega⟩ (by dsimp only;omega)).qb
      ·dsimp only;rw[Yt];exact sR
      ·dsimp only;rw[List.length_append,List.length_replicate];omega
     ·have Cw:k6=0:=by omega
      subst Cw;rw[z4J] at ul;have L9:zz=a%8+q4:=NV ul;refine LW rfl (qN rfl (LM rfl (qV (zb7 rfl rfl (by omega)) (qV (LR Ns rfl rfl ke rfl) (Mb z9u rfl (z6M _ wL _) ?_)))));rintro _ w7 ⟨rfl,rfl⟩;rw[FS];refine MK rfl rfl ?_;rw[show((a / 8*8:Nat):Int)+((64-(r.length+1):Nat):Int)=((p+q:Nat):Int) by omega];refine M6 rfl (LU rfl (LP Tryz.func205 rfl ?_));exact⟨_,rfl,rfl,R.ext oN (Ext.refl _) (λj hj=> .inl (.inl hj)),aR⟩
  ·omega
theorem z7h (l:List Nat)(f:Fm)(hf:f.Re=12+(Mi (OQ f.width l)).length+(Mi (hiB f.width 0 0 l)).length)(h4:(Mi (restB f.width l)).length=4):((UK l f).drop f.Re).take 4=Mi (restB f.width l):=by
 have h:=piece (A:=Mi (bitsN 32 f.n++bitsN 64 f.u)++Mi (OQ f.width l)++Mi (hiB f.width 0 0 l)) (B:=Mi (restB f.width l)) (C:=[]) (off:=f.Re) (n:=4) (o:=0) (by rw[List.length_append,List.length_append,show Mi (bitsN 32 f.n++bitsN 64 f.u)=Mi (Pt f) from rfl,R6,hf];omega) (by omega)
 have h2:((Mi (restB f.width l)).drop 0).take 4=Mi (restB f.width l):=by rw[List.drop_zero];exact List.take_of_length_le (by omega)
 rw[List.append_nil] at h
 exact h.trans h2
theorem z6t {k:Nat}{l:List Nat}{y:Nat}(h:l[0]? =some y)(hy:y<4294967296):valB (Md (Mi (restB k l)))=y / 2^k/\(Mi (restB k l)).length=4:=by
 obtain⟨r,rfl⟩:∃r,l=y::r:=by
  cases l with
  |nil=>simp at h
  |cons a r=>simp at h;subst h;exact⟨r,rfl⟩
 have hr:restB k (y::r)=bitsN 32 (y / 2^k):=rfl
 obtain⟨z,h1,h2,h3⟩:=OD (bitsN 32 (y / 2^k))
 rw[bitsN_length] at h2
 have hz:z=0:=by omega
 rw[hr,h1,hz,List.replicate_zero,List.append_nil,MJ,Mv,bitsN_length]
 have:=Nat.div_le_self y (2^k)
 exact⟨Nat.mod_eq_of_lt (by omega),rfl⟩
theorem Yj {t:TypeId}{u:Value}{l:List Nat}{f:Fm}{z:Nat}(he:RI l f z)(R:Src t u (UK l f)){X:Nat->Prop}{w:World}(hI:R.inv X w)(hX:∀k,X k->k<w.heap.size){x:Nat}(hx:X x)(hB:LX w x (elC f t u) 271){i v:Nat}(hv:l[i]? =some v):
  Mm Tryz.prog 189 [ptr x 0,I (i:Int)] w λr w'=>r= .tuple #[M7 v,I 0]/\R.inv X w'/\Kp (λj=>¬X j) w w':=by
 have cR:=(List.getElem?_eq_some_iff.1 hv).1
 have aB:=he.len
 have gW:=he.n2
 have oU:=he.n
 have uy:=he.zb
 have uj:f.width<=30:=by rw[he.fe];exact VA (by omega)
 have sQ:=he.small
 have qG:∀j y k y2,l[j]? =some y->l[k]? =some y2->j<=k->y<=y2:=λj y k y2 hj hk Cy=>by
  obtain⟨a1,a2⟩:=List.getElem?_eq_some_iff.1 hj;obtain⟨b1,b2⟩:=List.getElem?_eq_some_iff.1 hk;rcases Nat.lt_or_ge j k with h| h
  ·have:=List.pairwise_iff_getElem.1 he.nof j k a1 b1 h
   rwa [a2,b2] at this
  ·have e:j=k:=Nat.le_antisymm Cy h;subst e;rw[hj] at hk;cases hk;exact Nat.le_refl _
 have FD:v<=z:=qG i v _ z hv he.last (by omega)
 obtain⟨y0,Cz⟩:∃y,l[0]? =some y:=⟨_,List.getElem?_eq_getElem (by omega)⟩
 have CA:y0<=v:=qG 0 y0 i v Cz hv (Nat.zero_le _)
 obtain⟨Ir,gM⟩:=z6t (k:=f.width) Cz (by omega)
 have CB:=z7h l f (by
  have e:f.Re=f.high+(f.bits+7) / 8:=rfl
  rw[e,he.high,Mv (hiB f.width 0 0 l),he.bits]) gM
 have cK:=XR f.width l 0 0 0 y0 he.nof Cz (λy _=>Nat.zero_le _)
 have um:=XR f.width l 0 0 i v he.nof hv (λy _=>Nat.zero_le _)
 simp only[Nat.add_zero,Nat.sub_zero] at cK um
 have ft:=VG (hiB f.width 0 0 l) 0 (y0 / 2^f.width) i cK
 rw[Nat.zero_add,um] at ft
 have FT:y0 / 2^f.width<=v / 2^f.width:=Nat.div_le_div_right CA
 have qH:f.Re+4<=(UK l f).length:=by
  rw[aB];have e:f.size=f.Re+4*((f.n+63) / 64):=rfl;rw[e,oU];omega
 have fK:f.Re<=40000000:=by have:=he.size_le.1;rw[aB] at qH;omega
 replace hB:LX w x [I (f.n:Int),M7 f.u,I (f.width:Int),I (f.bits:Int),.iface t u] 271:=hB
 refine It (e:=[(0,_),(1,_)]) Tryz.func189 rfl Tryz.ntmps189 rfl rfl (qN rfl (M6 rfl (LU rfl (run_seq (LK (qN rfl (LM rfl (qV (MU Uw rfl rfl) (LU rfl (An rfl (qN rfl (LM rfl (Nr rfl rfl ?_)))))))))))))
 refine MC (M4 rfl rfl (LM rfl (Mp rfl (M0 ON rfl (M0 Uc rfl (qV (LR U3 rfl rfl hB rfl) (PQ rfl rfl (MC (ME rfl rfl (LU rfl (An rfl (py (LL ?_)))))))))))))
 refine run_seq ?_
 have hg:=Ext.Ma w
 refine NF (λw'=>Kp (λk=>¬X k) w w') rfl (M9 0 rfl rfl (hg.kp) (LS 1 rfl (MS rfl) (hg.kp) (LS 2 rfl (Mo ZF rfl) (hg.kp) (qT 3 rfl (λ_ h=>LR z14 rfl rfl (h.LN hB (λe=>e hx)) rfl) (hg.kp) (M9 4 rfl rfl (hg.kp) (LS 5 rfl (MS rfl) (hg.kp) (LS 6 rfl (Mo ON rfl) (hg.kp) (M9 9 rfl rfl (hg.kp) (LS 10 rfl (Tg rfl rfl (by omega)) (hg.kp) (LS 11 rfl (SV rfl rfl (by omega)) (hg.kp) (qT 7 rfl (λ_ hS=>Mk (news:=fmC f) z1o rfl PC rfl ((hS.LN hB (λe=>e hx)).cells (n:=4) rfl) rfl) (hg.kp) (LS 13 rfl (zcz rfl) (hg.kp) (M9 14 rfl rfl (hg.kp) ?_)))))))))))))
 refine Pw 8 rfl z9M rfl (z0c f sQ _) ?_
 rintro _ w1 ⟨rfl,ad⟩
 refine⟨(hg.trans ad).kp,?_⟩
 have bG:=hg.trans ad
 have lP:=R.ext hI bG (λk hk=> .inl hk)
 have kR:∀k,X k->k<w1.heap.size:=λk hk=>by have:=hX k hk;have:=bG.size;omega
 refine LS 12 rfl (R9 rfl rfl (by omega)) ((hg.trans ad).kp) ?_
 rw[show(f.Re:Int)+4*((i:Int) / 64)=((f.Re:Nat):Int) by omega]
 refine qO 15 (SS (i:=15) rfl rfl rfl (yci R.cr R.mr rfl rfl) (R.rd f.Re 4 lP kR qH) ?_)
 rintro _ w2 ⟨rfl,cy,ao⟩
 refine⟨bG.kp.trans ao,?_⟩
 rw[CB]
 have dX:Kp (λk=>¬X k) w w2:=bG.kp.trans ao
 refine M9 16 rfl rfl (bG.kp.trans ao) (LS 17 rfl (NO rfl rfl) (bG.kp.trans ao) (LS 18 rfl (NO rfl rfl) (bG.kp.trans ao) (LS 19 rfl (NK rfl) (bG.kp.trans ao) (LS 20 rfl (NK rfl) (bG.kp.trans ao) (qE (Mn.qb (e:=[(0,_),(1,_),(4,_),(5,_),(6,_),(7,_)]) ?_))))))
 refine run_seq (qN rfl (LM rfl (MY rfl rfl (LO (An rfl (py (qN rfl (M4 rfl rfl (Mb z3L rfl (SY (Mi (restB f.width l)) (by omega) w2) ?_)))))))))
 rintro _ w3 ⟨rfl,ah⟩
 rw[Ir]
 have cw:Kp (λk=>¬X k) w w3:=dX.trans ah.kp
 have CC:=R.ext cy ah (λk hk=> .inl hk)
 have fj:∀k,X k->k<w3.heap.size:=λk hk=>by have:=hX k hk;have:=cw.size;omega
 have aq:=cw.LN hB (λe=>e hx)
 have Is:y0 / 2^f.width<=y0:=Nat.div_le_self _ _
 have Iu:v / 2^f.width<=v:=Nat.div_le_self _ _
 have nX:v / 2^f.width*2^f.width%18446744073709551616 |||v%2^f.width=v:=by
  have h1:=Nat.div_mul_le_self v (2^f.width);rw[Nat.mod_eq_of_lt (by omega),Nat.mul_comm,<-Nat.two_pow_add_eq_or_of_lt (Nat.mod_lt _ (Nat.two_pow_pos _))];exact Nat.div_add_mod v (2^f.width)
 have gu:v%2^f.width<=v:=Nat.mod_le _ _
 generalize Iv:v / 2^f.width=vq at ft FT Iu nX
 generalize y0 / 2^f.width=yq at ft FT Is
 refine qV (MB rfl Ns U3 (by omega)) (LM rfl (qV (yre rfl rfl (by omega)) ?_))
 rw[show(i:Int)%64=(i:Int) by omega]
 refine Mb zcO rfl (z4M he R CC fj hx aq (k:=i) (by omega) ft) ?_
 rintro _ w4 ⟨rfl,kd,ax⟩
 rw[show yq+(vq+i-yq)=vq+i by omega]
 have kf:=cw.trans ax
 have Cu:∀k,X k->k<w4.heap.size:=λk hk=>by have:=hX k hk;have:=kf.size;omega
 have aM:=kf.LN hB (λe=>e hx)
 refine LM rfl (MW rfl rfl (MW rfl rfl (M6 rfl (LU rfl (run_seq (qN rfl (LM rfl (MY rfl rfl (LO (An rfl (py (qN rfl (M4 rfl rfl ?_)))))))))))))
 refine Mb zdT rfl (z5Q he R kd Cu hx aM hv) ?_
 rintro _ w5 ⟨rfl,jL,aj⟩
 have ck:=kf.trans aj
 have aF:=ck.LN hB (λe=>e hx)
 have zH:=he.u
 refine LM rfl (MW rfl rfl (MW rfl rfl (M6 rfl (LU rfl (Mn.qb (e:=[(0,_),(1,_),(4,_),(5,_),(7,_),(8,_),(9,_)]) ?_)))))
 refine run_seq (qN rfl (LM rfl (MY rfl rfl (LO (An rfl (py (qN rfl (M4 rfl rfl (NP rfl rfl ?_)))))))))
 rw[show((vq+i:Nat):Int)-(i:Int)=(vq:Int) by omega]
 refine qV ((by first|exact MH rfl U3 Ns (by omega)|exact Oc rfl U3 Ns)) ?_
 refine LM rfl (Mp rfl (M0 ON rfl (M0 PF rfl (qV (LR U3 rfl rfl aF rfl) (qV (NJ f.width (2^f.width) rfl rfl (by omega) rfl) (LM rfl ?_))))))
 have zO:=Nat.mod_lt (vq*2^f.width) (show 0<18446744073709551616 by decide)
 refine qV (Xp rfl rfl (by omega) (by omega)) ?_
 rw[nX]
 refine LU rfl (run_seq (qN rfl (M4 rfl rfl (Nr rfl rfl (MC (M4 rfl rfl (LM rfl (Mp rfl (M0 ON rfl (M0 z8h rfl (qV (LR Ns rfl rfl aF rfl) (PQ rfl rfl (MC ?_)))))))))))))
 refine ME rfl rfl (LO (Mn.qb (e:=[(4,_),(5,_),(10,_),(93,_)]) ?_))
 refine An rfl (py (qN rfl (LM rfl (M6 rfl (LU rfl (LP Tryz.func189 rfl ?_))))))
 exact⟨_,rfl,rfl,jL,ck⟩
theorem z7X (a b:Bytes)(w:World)(hl:(a++b).length<=100000000000):Mm Tryz.prog 121 [S (a++b),S a] w λu w'=>u= .bool true/\w'=w:=by
 rw[List.length_append] at hl
 have jf:(a++b).length=a.length+b.length:=List.length_append
 have ht:(a++b).take a.length=a:=List.take_left
 refine It (e:=[(0,_),(1,_)]) Tryz.func121 rfl Tryz.ntmps121 rfl rfl (qN rfl (M6 rfl (qM rfl (LM rfl (qV (Ra U9 rfl) (LM rfl (qV (Ra U9 rfl) (PQ rfl rfl (O8 (M4 rfl rfl (LM rfl (qV (Ra U9 rfl) (qV (YI U9 rfl rfl (by omega)) ?_)))))))))))))
 refine LM rfl ?_
 rw[ht]
 refine qV (zeD rfl rfl) (O8 (NB rfl rfl (LU rfl (LP Tryz.func121 rfl ?_))))
 exact⟨_,rfl,rfl,rfl⟩
theorem z7o (a b:Bytes)(w:World)(hl:(a++b).length<=100000000000):Mm Tryz.prog 178 [S (a++b),S a] w λu w'=>u= .tuple #[S b,.bool true]/\w'=w:=by
 have jf:(a++b).length=a.length+b.length:=List.length_append
 have hd:(a++b).drop a.length=b:=List.drop_left
 refine It (e:=[(0,_),(1,_)]) Tryz.func178 rfl Tryz.ntmps178 rfl rfl (qN rfl (M6 rfl (LU rfl (run_seq (qN rfl (M4 rfl rfl (Mb zc9 rfl (z7X a b w hl) ?_)))))))
 rintro _ w ⟨rfl,rfl⟩
 refine qV ((by first|exact ML rfl|exact Oh rfl)) ?_
 refine LO (An rfl (py (qN rfl (M4 rfl rfl (qV (Ra U9 rfl) (qV (VU U9 rfl rfl (by omega)) ?_))))))
 rw[hd]
 refine M6 rfl (LU rfl (LP Tryz.func178 rfl ?_))
 exact⟨_,rfl,rfl,rfl⟩
theorem z3d (a b:Bytes)(w:World)(hl:(a++b).length<=100000000000):Mm Tryz.prog 144 [S (a++b),S a] w λu w'=>u= .tuple #[S b,.bool true]/\w'=w:=by
 refine It (e:=[(0,_),(1,_)]) Tryz.func144 rfl Tryz.ntmps144 rfl rfl (qN rfl (M6 rfl (M6 rfl (qM rfl (M4 rfl rfl (Mb zbO rfl (z7o a b w hl) ?_))))))
 rintro _ w ⟨rfl,rfl⟩
 refine MW rfl rfl (MW rfl rfl (M6 rfl (LU rfl (LP Tryz.func144 rfl ?_))))
 exact⟨_,rfl,rfl,rfl⟩
theorem Pr {w:World}{r a b6 b7:Nat}{s:Bytes}(h:Qc w r s a)(aX:LX w b6 [ptr r 0] 240)(bN:LX w b7 [.bool false] 4)(h6:b6≠r/\b7≠r/\b6≠b7)(n v:Nat)(hn:n<=64)(hv:v<2^n)(kC:v<=134217728)(rest:List Bool)(hb:(Md s).drop a=bitsN n v++rest):
  Mm Tryz.prog 146 [I (n:Int),ptr b6 0,ptr b7 0] w λu w'=>u=I (v:Int)/\Qc w' r s (a+n)/\LX w' b6 [ptr r 0] 240/\LX w' b7 [.bool false] 4/\Kp (λk=>k=r\/k=b7) w w':=by
 have aB:a+n<=8*s.length:=by
  have e:=congrArg List.length hb;rw[List.length_drop,bitsT_length,List.length_append,bitsN_length] at e;have:=h.2.1;omega
 have CD:valB (((Md s).drop a).take n)=v:=by
  rw[hb,List.take_left' (by simp),MJ];exact Nat.mod_eq_of_lt hv
 refine It (e:=[(0,_),(1,_),(2,_)]) Tryz.func146 rfl Tryz.ntmps146 rfl rfl (qN rfl (M6 rfl (qM rfl (qV (LR PW rfl rfl aX rfl) (LM rfl (Mb z0W rfl (RN h n hn) ?_))))))
 rintro v1 w1 eM
 have iJ:v1= .tuple #[M7 v,I 0]/\Qc w1 r s (a+n)/\Kp (λk=>k=r) w w1:=by
  rcases eM with⟨-,e,h1,hk⟩|⟨e,-,-⟩
  ·rw[CD] at e;exact⟨e,h1,hk⟩
  ·omega
 obtain⟨rfl,h1,aK⟩:=iJ
 have wM:=aK.LN bN h6.2.1
 have CE:=aK.LN aX h6.1
 refine LM rfl (MW rfl rfl (MW rfl rfl (M6 rfl (M6 rfl (qM rfl (qV (LR U4 rfl rfl wM rfl) (M4 rfl rfl (MY rfl rfl (ME rfl rfl (M4 rfl rfl (Nc rfl rfl (MC (ME rfl rfl ?_)))))))))))))
 refine M1 rfl (NC RX rfl rfl rfl wM (by simp)) ?_
 rintro w2 ⟨dV,ao⟩
 refine qM rfl (LM rfl (qV (QT rfl rfl (by omega) (by omega)) ?_))
 rw[show v&&&268435455=v from(Nat.and_two_pow_sub_one_eq_mod v 28).trans (Nat.mod_eq_of_lt (by omega))]
 refine qV (MB rfl Ns U3 (by omega)) (LU rfl (LP Tryz.func146 rfl ?_))
 exact⟨_,rfl,rfl,⟨ao.LN h1.1 (λe=>h6.2.1 e.symm),h1.2⟩,ao.LN CE h6.2.2,dV,(aK.LZ λk e=> .inl e).trans (ao.LZ λk e=> .inr e)⟩
theorem Pn {s:List Bool}{n v a:Nat}{rest:List Bool}(h:s.drop a=bitsN n v++rest):s.drop (a+n)=rest:=by
 rw[<-List.drop_drop,h,List.drop_left' (by simp)]
theorem z8u (h:PHd):Md (Mi (NL (Va h)))=bitsN 32 h.n++(bitsN 32 h.m++(bitsN 8 h.p.Mh++(bitsN 8 h.p.chain++(bitsN 8 h.p.interval++(bitsN 8 h.p.zeta++(bitsN 32 h.p.most++(bitsN 64 h.bits++[]))))))):=by
 obtain⟨z,h1,h2,h3⟩:=OD (NL (Va h))
 have hl:=R0 h
 have hz:z=0:=by omega
 rw[h1,hz,List.replicate_zero,List.append_nil]
 rfl
theorem z5j (h:PHd)(hh:h.N4)(w:World):Mm Tryz.prog 112 [S (hdT h)] w λu w'=>u= .tuple #[hdV h,I 0]/\Ext w w':=by
 obtain⟨g1,g2,g3,g4,g5⟩:=id hh
 obtain⟨q1,q2,q3⟩:=id g5
 obtain⟨r1,r2,r3,r4⟩:=id q1
 have r1':h.p.Mh<=16:=r1
 have r2':h.p.interval<=64:=by
  have:h.p.interval=0\/2<=h.p.interval/\h.p.interval<=64:=r2;omega
 have r4':h.p.zeta<=16:=r4
 have Iw:=Th h
 have ox:=z8u h
 rw[show Md (Mi (NL (Va h)))=(Md (Mi (NL (Va h)))).drop 0 from List.drop_zero.symm] at ox
 have dZ:(Mi (NL (Va h))).length=24:=by rw[Mv,R0]
 refine It (e:=[(0,_)]) Tryz.func112 rfl Tryz.ntmps112 rfl rfl (qN rfl (LV rfl rfl (O9 (cs:=[_,_,_,_,_,_,_,_]) Qh rfl) ?_))
 rintro _ w1 ⟨b2,rfl,bY,ad,am⟩
 refine M6 rfl (qM rfl (LM rfl (Nj rfl rfl (yc (args:=[.tmp 11,.const (Value.string (⟨#[119,116,108,49]⟩))]) zcA rfl) (z3d z3r (Mi (NL (Va h))) _ (by rw[show z3r++Mi (NL (Va h))=hdT h from rfl];omega)) ?_)))
 rintro _ w1 ⟨rfl,rfl⟩
 refine LM rfl (MW rfl rfl (MW rfl rfl (M6 rfl (LU rfl (run_seq (qN rfl (LM rfl (qV ((by first|exact ML rfl|exact Oh rfl)) ?_))))))))
 refine M4 rfl rfl (qV (Ra U9 rfl) (Nr rfl rfl (MC (ME rfl rfl (LO (An rfl (py (qN rfl (LM rfl ?_)))))))))
 generalize Mi (NL (Va h))=pt at ox dZ
 refine Mb z3n rfl (Tf pt (by omega) w1) ?_
 rintro _ w2 ⟨r,rfl,dw,af,dx⟩
 refine LV rfl rfl (O9 (cs:=[_]) Yl rfl) ?_
 rintro _ w3 ⟨b6,rfl,nY,ah,aX⟩
 refine M1 rfl (NC Yl rfl rfl rfl aX (by simp)) ?_
 rintro w4 ⟨pA,ax⟩
 replace pA:LX w4 b6 [ptr r 0] 240:=pA
 refine qM rfl (LV rfl rfl (O9 (cs:=[_]) RX rfl) ?_)
 rintro _ w5 ⟨b7,rfl,kX,aT,bN⟩
 refine M1 rfl (NC RX rfl rfl rfl bN (by simp)) ?_
 rintro w6 ⟨pB,aR⟩
 replace pB:LX w6 b7 [.bool false] 4:=pB
 have z1:=ad.size
 have z2:=af.size
 have z3:=ah.size
 have z4:=ax.size
 have z5:=aT.size
 have lr:=dw.1.lt
 have l6:=pA.lt
 have l2:=am.lt
 have sS:=aR.LN (aT.LN pA) (by omega)
 have kN:Qc w6 r pt 0:=⟨aR.LN (aT.LN (ax.LN (ah.LN dw.1) (by omega))) (by omega),dw.2⟩
 have cb:Ext w1 w6:=(((af.trans ah).LJ ax (λi e=>by omega)).trans aT).LJ aR (λi e=>by omega)
 refine qM rfl (qV (ZU (first:=[]) (caps:=[.tmp 6,.tmp 7]) rfl rfl) (M6 rfl (qM rfl (LM rfl (Nj rfl rfl (OC W2 rfl rfl) (Pr kN sS pB ⟨by omega,by omega,by omega⟩ 32 h.n (by decide) (by omega) (by omega) _ ox) ?_)))))
 rintro _ v0 ⟨rfl,CG,wO,wP,wQ⟩
 have wR:=Pn ox
 refine LM rfl (Nj rfl rfl (OC W2 rfl rfl) (Pr CG wO wP ⟨by omega,by omega,by omega⟩ 32 h.m (by decide) (by omega) (by omega) _ wR) ?_)
 rintro _ v1 ⟨rfl,wS,wT,wU,wV⟩
 have wW:=Pn wR
 refine qV (OJ (cs:=[_,_,_,_,_,_,_,_]) Qh rfl z9w rfl rfl) (LV rfl rfl (O9 (cs:=[_,_,_,_,_,_,_,_]) Qh rfl) ?_)
 rintro _ w7 ⟨b9,rfl,o8,bQ,cB⟩
 have zv1:=wQ.size
 have zv2:=wV.size
 have z7:=bQ.size
 have z6:=aR.size
 have l9:=cB.lt
 refine M1 rfl (MD (news:=[I (h.n:Int),I (h.m:Int),I 0,I 0,I 0,I 0,I 0,I 0]) Qh rfl rfl rfl rfl cB (by simp)) ?_
 rintro w8 ⟨sT,bj⟩
 replace sT:LX w8 b9 [I (h.n:Int),I (h.m:Int),I 0,I 0,I 0,I 0,I 0,I 0] 128:=sT
 have l7:=pB.lt
 have cV:Ext v1 w8:=bQ.LJ bj (λi e=>by omega)
 have tZ:Qc w8 r pt (0+32+32):=⟨cV.LN wS.1,wS.2⟩
 have ip:=cV.LN wT
 have CH:=cV.LN wU
 have oa:Kp (λk=>k=r\/k=b7) w6 w8:=(wQ.trans wV).trans cV.kp
 refine LO (Mn.qb (e:=[(2,_),(3,_),(7,_),(8,_),(9,_)]) ?_)
 refine qN rfl (LM rfl (Nj rfl rfl (OC W2 rfl rfl) (Pr tZ ip CH ⟨by omega,by omega,by omega⟩ 8 h.p.Mh (by decide) (by omega) (by omega) _ wW) ?_))
 rintro _ v2 ⟨rfl,CI,wX,wY,CJ⟩
 have wZ:=Pn wW
 refine LM rfl (Nj rfl rfl (OC W2 rfl rfl) (Pr CI wX wY ⟨by omega,by omega,by omega⟩ 8 h.p.chain (by decide) (by omega) (by omega) _ wZ) ?_)
 rintro _ v3 ⟨rfl,CK,x8,x9,CL⟩
 have xa:=Pn wZ
 refine LM rfl (Nj rfl rfl (OC W2 rfl rfl) (Pr CK x8 x9 ⟨by omega,by omega,by omega⟩ 8 h.p.interval (by decide) (by omega) (by omega) _ xa) ?_)
 rintro _ v4 ⟨rfl,CM,xc,xd,CN⟩
 have xe:=Pn xa
 refine LM rfl (Nj rfl rfl (OC W2 rfl rfl) (Pr CM xc xd ⟨by omega,by omega,by omega⟩ 8 h.p.zeta (by decide) (by omega) (by omega) _ xe) ?_)
 rintro _ v5 ⟨rfl,CO,xh,xi,CP⟩
 have xj:=Pn xe
 refine LM rfl (Nj rfl rfl (OC W2 rfl rfl) (Pr CO xh xi ⟨by omega,by omega,by omega⟩ 32 h.p.most (by decide) (by omega) (by omega) _ xj) ?_)
 rintro _ v6 ⟨rfl,xl,xm,xn,CQ⟩
 have xo:=Pn xj
 have iO:Kp (λk=>k=r\/k=b7) w8 v6:=(((CJ.trans CL).trans CN).trans CP).trans CQ
 have CR:=iO.LN sT (by omega)
 refine qV (OJ (cs:=[_,_,_,_,_]) O3 rfl z8C rfl rfl) (M0 Us rfl (M1 rfl (MD (news:=Rz h.p) O3 rfl rfl rfl rfl CR (by simp)) ?_))
 rintro w9 ⟨sU,aL⟩
 replace sU:LX w9 b9 [I (h.n:Int),I (h.m:Int),I (h.p.Mh:Int),I (h.p.chain:Int),I (h.p.interval:Int),I (h.p.zeta:Int),I (h.p.most:Int),I 0] 128:=sU
 have u9:Qc w9 r pt (0+32+32+8+8+8+8+32):=⟨aL.LN xl.1 (by omega),xl.2⟩
 have iq:=aL.LN xm (by omega)
 have CS:=aL.LN xn (by omega)
 refine qM rfl (LM rfl (Nj rfl rfl (OC W2 rfl rfl) (Pr u9 iq CS ⟨by omega,by omega,by omega⟩ 64 h.bits (by decide) (by omega) (by omega) _ xo) ?_))
 rintro _ v7 ⟨rfl,Ix,FU,xq,xt⟩
 have Iy:=Pn xo
 have CT:=xt.LN sU (by omega)
 refine M0 Rp rfl (M1 rfl (NC MO rfl rfl rfl CT (by simp)) ?_)
 rintro w10 ⟨kS,aw⟩
 replace kS:LX w10 b9 (hdC h) 128:=kS
 have xu:=aw.LN xq (by omega)
 have xv:Kp (λk=>k=r\/k=b7\/k=b9) w6 w10:=((((oa.trans iO).LZ λk e=>by omega).trans (aL.LZ λk e=>by omega)).trans (xt.LZ λk e=>by omega)).trans (aw.LZ λk e=>by omega)
 have eu:Ext w1 w10:=cb.LJ xv (λk e=>by omega)
 refine LO (run_seq (qN rfl (qV (LR U4 rfl rfl xu rfl) (LM rfl (qV (Mk (news:=hdC h) z2Q rfl Qh rfl (kS.cells (n:=8) rfl) rfl) (Mb z73 rfl (TX h hh _) ?_))))))
 rintro _ w11 ⟨rfl,aQ⟩
 refine MY rfl rfl (ME rfl rfl (LO (Mn.qb (e:=[(2,_),(3,_),(9,_),(51,_)]) ?_)))
 refine An rfl (py (qN rfl (qV (Mk (news:=hdC h) z2Q rfl Qh rfl ((aQ.LN kS).cells (n:=8) rfl) rfl) ?_)))
 have nq:=(eu.trans aQ).LN am
 refine M1 rfl (MD (news:=hdC h) Qh rfl rfl rfl rfl nq (by simp)) ?_
 rintro w12 ⟨j0,aV⟩
 replace j0:LX w12 b2 (hdC h) 128:=j0
 replace j0:LX w12 b2 [I (h.n:Int),I (h.m:Int),I (h.p.Mh:Int),I (h.p.chain:Int),I (h.p.interval:Int),I (h.p.zeta:Int),I (h.p.most:Int),I (h.bits:Int)] 128:=j0
 refine LU rfl (Mj Tryz.func112 (.cell z2Q rfl Qh rfl (LX.cells (n:=8) j0 (news:=[_,_,_,_,_,_,_,_]) rfl) rfl (.tmp rfl .nil)) ?_)
 exact⟨_,rfl,rfl,((ad.trans eu).trans aQ).LJ aV (λk e=>by omega)⟩
theorem z5d (h:PHd)(hh:h.N4)(bY:h.n<=500)(w:World):Mm Tryz.prog 113 [hdV h] w λu w'=>u= .tuple #[I ((28+(h.bits+7) / 8+(Qj (h.n+1) (h.bits+1)).size:Nat):Int),I 0]/\Ext w w':=by
 obtain⟨g1,g2,g3,g4,g5⟩:=id hh
 have hs:=ZG (n:=h.n+1) (u:=h.bits+1) (by omega) (by omega) (by omega) (by omega)
 have cz:(Qj (h.n+1) (h.bits+1)).size<=40000000:=by
  have h2:=Fm.T4 hs;obtain⟨h3,h4,h5⟩:=hs;unfold Fm.size Fm.Re;omega
 refine It (e:=[(0,_)]) Tryz.func113 rfl Tryz.ntmps113 rfl rfl (qN rfl (LV rfl rfl (NN rfl (cs:=hdC h) rfl) ?_))
 rintro _ w1 ⟨b1,rfl,bR,ad,ai⟩
 replace ai:LX w1 b1 [I (h.n:Int),I (h.m:Int),I (h.p.Mh:Int),I (h.p.chain:Int),I (h.p.interval:Int),I (h.p.zeta:Int),I (h.p.most:Int),I (h.bits:Int)] 128:=ai
 refine M6 rfl (LU rfl (run_seq (qN rfl (qV (Mk (news:=hdC h) z2Q rfl Qh rfl (ai.cells (n:=8) rfl) rfl) (Mb z73 rfl (TX h hh _) ?_)))))
 rintro _ w2 ⟨rfl,af⟩
 have bu:=af.LN ai
 refine M6 rfl (qM rfl (LM rfl (MY rfl rfl (LO (An rfl (py (qN rfl (M0 Qw rfl (qV (LR U3 rfl rfl bu rfl) (MK rfl rfl (M0 Rp rfl (qV (LR U3 rfl rfl bu rfl) (qV ((by first|exact MH rfl U3 Ns (by omega)|exact Oc rfl U3 Ns)) ?_)))))))))))))
 rw[show(h.n:Int)+1=((h.n+1:Nat):Int) by omega]
 refine Mb zdm rfl (z35 (h.n+1) h.bits (by omega) (by omega) (by omega) _) ?_
 rintro _ w3 ⟨rfl,ah⟩
 have ev:=ah.LN bu
 refine LM rfl (qV (NO (v:=I ((Qj (h.n+1) (h.bits+1)).size:Int)) rfl rfl) (qV (NO (v:=I 0) rfl rfl) ?_))
 generalize (Qj (h.n+1) (h.bits+1)).size=q at cz
 refine M6 rfl (M6 rfl (qM rfl (M0 Rp rfl (qV (LR U3 rfl rfl ev rfl) (MK rfl rfl (qV (Tg rfl rfl (by omega)) (MK rfl rfl (LM rfl (MK rfl rfl (LM rfl (M6 rfl (LU rfl (Mn.qb (e:=[(2,_),(3,_)]) ?_)))))))))))))
 refine LP Tryz.func113 rfl (⟨_,rfl,?_,(ad.trans af).trans ah⟩)
 show Value.tuple #[I (28+((h.bits:Int)+7) / 8+(q:Int)),I 0]= .tuple #[I ((28+(h.bits+7) / 8+q:Nat):Int),I 0]
 rw[show(28:Int)+((h.bits:Int)+7) / 8+(q:Int)=((28+(h.bits+7) / 8+q:Nat):Int) by omega]
section
variable {P:Program}{e:Env}{d:Option Nat}{ty t t':TypeId}{pos:String}{aft:Array Edge}{g:Option (Nat×Bool)}{x y:Operand}{w:World}
theorem z2m {f:FuncId}{name:String}{u:Value}(h:methT P t name=some f):(nilAhead (P.types.size+Made.depth) t u name).run P w= .ok (some false) w:=by
 rw[show P.types.size+Made.depth=P.types.size+(Made.depth-1)+1 from rfl]
 unfold methT at h
 split at h<;>try cases h
 rename_i i hi
 split at h<;>try cases h
 rename_i m hm
 split at h<;>try cases h
 rename_i f' pr iY iZ
 have lE:i.methods.find? (·.name==name)=some m:=by rw[<-hm,Array.find?_toList]
 unfold nilAhead
 split at h<;>try cases h
 ·rename_i el hu
  cases pr<;>simp at h;subst h;simp[Qe hi,lE,iY,followBlind,iZ]
 ·rename_i td FM hu
  cases pr<;>simp at h;subst h;simp only[Sem.run_bind,Qe hi,Result.andThen_ok,lE,iY,followBlind,Sem.run_pure,iZ,run_underlying hu];cases td<;>first|exact absurd rfl (FM _)|rfl
theorem zcV {td:TypeDesc}{v:Value}(ht:P.underlying t=some td)(hn:∀ms,td≠ .interface ms)(hx:look e x=some v):Y P e ⟨d,.makeInterface t x,ty,pos,aft,g⟩ (.iface t v) w w:=fun ρ hρ=>by
 simp only[execOp,hρ _ _ hx,Instr.makeInterface,Sem.run_bind,run_underlying ht,Result.andThen_ok]
 cases td<;>first|rfl|exact(hn _ rfl).elim
theorem ymm {nm:String}{v:Value}(hx:look e x=some v):Y P e ⟨d,.makeFunc (.method nm) #[x] #[],ty,pos,aft,g⟩ (.func (.method nm) #[v] #[]) w w:=fun ρ hρ=>by
 simp[execOp,hρ _ _ hx,Instr.makeFunc]
theorem zeS {f:FuncId}{nm:String}{tx:TypeId}{v:Value}(hm:methT P tx nm=some f)(hx:look e x=some (.func (.method nm) #[.iface tx v] #[])):Y P e ⟨d,.nilCheck x,ty,pos,aft,g⟩ (.func (.method nm) #[.iface tx v] #[]) w w:=fun ρ hρ=>by
 have hn:=z2m (w:=w) (u:=v) hm
 have rZ:(program).run P w= .ok P w:=rfl
 simp[execOp,hρ _ _ hx,rZ,hn]
end
def VZ (t:TypeId)(u:Value)(a n:Nat):Value:= .agg #[.iface t u,I (a:Int),I (n:Int)]
theorem z1h (t:TypeId)(u:Value)(a n:Nat)(w:World):Mm Tryz.prog 264 [VZ t u a n] w λv w'=>v=I (n:Int)/\Ext w w':=by
 unfold VZ
 refine It (e:=[(0,_)]) Tryz.func264 rfl Tryz.ntmps264 rfl rfl (qN rfl (LV rfl rfl (NN rfl (cs:=[.iface t u,I (a:Int),I (n:Int)]) rfl) ?_))
 rintro _ w1 ⟨b1,rfl,bR,ad,ai⟩
 refine M6 rfl (qM rfl (M0 Zz rfl (qV (LR U3 rfl rfl ai rfl) (LU rfl (LP Tryz.func264 rfl ?_)))))
 exact⟨_,rfl,rfl,ad⟩
theorem z3f {t:TypeId}{u:Value}{T:Bytes}(R:Src t u T){X:Nat->Prop}{w:World}(a n:Nat)(oy:a+n<=T.length)(hT:T.length<=100000000000)(off m:Nat)(hI:R.inv X w)(hX:∀k,X k->k<w.heap.size)(h:off+m<=n):
  Mm Tryz.prog 265 [VZ t u a n,I (off:Int),I (m:Int)] w λv w'=>v= .tuple #[S ((((T.drop a).take n).drop off).take m),I 0]/\R.inv X w'/\Kp (λk=>¬X k) w w':=by
 have e:(((T.drop a).take n).drop off).take m=(T.drop (a+off)).take m:=by
  rw[List.drop_take,List.take_take,List.drop_drop,show min m (n-off)=m by omega]
 rw[e]
 unfold VZ
 refine It (e:=[(0,_),(1,_),(2,_)]) Tryz.func265 rfl Tryz.ntmps265 rfl rfl (qN rfl (LV rfl rfl (NN rfl (cs:=[.iface t u,I (a:Int),I (n:Int)]) rfl) ?_))
 rintro _ w1 ⟨b1,rfl,bR,ad,ai⟩
 refine M6 rfl (LU rfl (run_seq (qN rfl (LM rfl (Nr rfl rfl (M4 rfl rfl (Nr rfl rfl (MC (ME rfl rfl (M4 rfl rfl (M0 Zz rfl (qV (LR U3 rfl rfl ai rfl) (Nc rfl rfl ?_)))))))))))))
 refine MC (ME rfl rfl (M4 rfl rfl (M0 Zz rfl (qV (LR U3 rfl rfl ai rfl) (LM rfl (NP rfl rfl (Nc rfl rfl (MC (ME rfl rfl (LO (Mn.qb (e:=[(1,_),(2,_),(3,_),(6,_),(7,_),(27,_)]) ?_)))))))))))
 refine An rfl (py (qN rfl (M0 z8Q rfl (qV (LR z14 rfl rfl ai rfl) (M0 z8B rfl (qV (LR U3 rfl rfl ai rfl) (LM rfl (MK rfl rfl (LM rfl ?_)))))))))
 rw[show(a:Int)+(off:Int)=((a+off:Nat):Int) by omega]
 refine Nj rfl rfl (yci R.cr R.mr rfl rfl) (R.rd (a+off) m (R.ext hI ad (λk hk=> .inl hk)) (λk hk=>by have:=hX k hk;have:=ad.size;omega) (by omega)) ?_
 rintro _ w2 ⟨rfl,cy,ao⟩
 refine MW rfl rfl (MW rfl rfl (M6 rfl (LU rfl (LP Tryz.func265 rfl ?_))))
 exact⟨_,rfl,rfl,cy,ad.kp.trans ao⟩
def z9x {t:TypeId}{u:Value}{T:Bytes}(R:Src t u T)(a n:Nat)(B:Bytes)(oy:a+n<=T.length)(hT:T.length<=100000000000)(hB:(T.drop a).take n=B):Src 223 (VZ t u a n) B where
 inv:=R.inv
 fl:=264
 fr:=265
 cl:=zdE
 cr:=zdz
 ml:=by kernel_rfl
 mr:=by kernel_rfl
 ext:=R.ext
 step:=R.step
 len:=fun {X w} h=>by
  have e:B.length=n:=by rw[<-hB,List.length_take,List.length_drop];omega
  rw[e];exact z1h t u a n w
 rd:=fun {X w} off m h hX ho=>by
  have e:B.length=n:=by rw[<-hB,List.length_take,List.length_drop];omega
  rw[<-hB];exact z3f R a n oy hT off m h hX (by omega)
end Go.Proofs.YtpldpcjdjcgicaaGreatDoor
