/- Texts BvE, BvF, BvG, EfA, EfB, PkA, PkB, EfC, EfD, EfE, EfF, EfG, EfH, EfI, PkC, one behind the other (what the statement BfsAlong does not use is left out). -/
import Derived.Test.YtpldpcjdjcgicaaGreatDoorBAp2
import Derived.Test.YtpldpcjdjcgicaaGreatDoorBAp4
import Derived.WideLaws
set_option maxHeartbeats 16000000
namespace Go.Proofs.YtpldpcjdjcgicaaGreatDoor
open Go Go.RowKit
set_option linter.all false
set_option maxRecDepth 100000
def M0 (L:List (List Nat))(n r:Nat):List Nat:=if r=0 then [] else(L[n-r]?).getD []
def Ue (p:LJ)(L:List (List Nat))(E:List (Nat×Nat))(n size:Nat)(e:Nat×Nat):Prop:=
 e=(0,0)∨(1≤e.1∧e.1≤p.L6∧e.1≤n∧∃l e',L[n-e.1]? =some l∧E[n-e.1]? =some e'∧e.2=e'.2+1∧OK p l.length size e'.2=true)
theorem z8B {j n:Nat}(h1:j<n)(h2:n+1≤j+17):j%17≠n%17:=by omega
theorem Zx.add {w wA wB wC wD wE wF:World}{k:Nat}{p:LJ}{L:List (List Nat)}{E:List (Nat×Nat)}{bs bs':List Bool}{F F':Nat→Prop}{R:List (Value×Nat)}{wp ed b4:Nat}(h:Zx w k p L E bs F R wp ed)(kh:Ext w wA)(iv:Kp F wA wB)(yD:SG wB wp bs' F')(oK:∀i,F' i→F i∨wA.heap.size≤i)
  {a':Option Addr} {cp' ch r:Nat} {succ:List Nat} (hs:Lj succ) (B3:Ext wB wC) (tz:Sl wC (.slice a' succ.length cp') 46 1 succ.length (succ.map Lg)) (rI:succ.length≤cp') (cw:∀g,(Value.slice a' succ.length cp').ownBlock=some g→wB.heap.size≤g)
  (eV:Kp (fun i=>i=k) wC wD) (nN:Kp (fun i=>i=k) wD wE) (rJ:Kp (fun i=>i=b4) wE wF) (gA:w.heap.size≤b4) (H6:b4<wA.heap.size) (B4:KP wF k (Sb p (R.set (L.length%17) (.slice a' succ.length cp',ch)) (L.length+1) wp (ed+succ.length)) 255):
  Zx wF k p (L++[succ]) (E++[(r,ch)]) bs' F' (R.set (L.length%17) (.slice a' succ.length cp',ch)) wp (ed+succ.length)∧Kp (fun i=>F i∨i=k) w wF∧∀i,F' i→F i∨w.heap.size≤i:=by
 have lk:=h.KD.lt
 have zA:=kh.size
 have zB:=iv.size
 have jf:∀i,F i→i<w.heap.size:=fun i hi=>h.wr.lt hi
 have mC:∀i,F' i→i<wB.heap.size:=fun i hi=>yD.lt hi
 have rK:¬F' k:=fun e=>by rcases oK k e with e|e;exact h.nk e;omega
 have B5:¬F' b4:=fun e=>by rcases oK b4 e with e|e;(have:=jf _ e;omega);omega
 have B6:∀{v:Value} {n:Nat} {cs:List Value},Sl w v 46 1 n cs→(∀g,v.ownBlock=some g→¬F g∧g≠k)→Sl wF v 46 1 n cs:=fun hS hg=>
  ((((((hS.ext kh).kp iv (fun g e=>(hg g e).1)).ext B3).kp eV (fun g e=>(hg g e).2)).kp nN (fun g e=>(hg g e).2)).kp rJ (fun g e e'=>by have:=hS.lt e;omega))
 have H7:=((tz.kp eV (fun g e e'=>by have:=cw g e;omega)).kp nN (fun g e e'=>by have:=cw g e;omega)).kp rJ (fun g e e'=>by have:=cw g e;omega)
 refine⟨⟨by rw[List.length_append,List.length_singleton];exact B4,by rw[List.length_set];exact h.len,(((yD.ext B3).kp eV (fun i hi e=>rK (e▸hi))).kp nN (fun i hi e=>rK (e▸hi))).kp rJ (fun i hi e=>B5 (e▸hi)),rK,by rw[List.length_append,List.length_append,h.el];rfl,fun l hl=>?_,fun j l e h1 h2 h3=>?_⟩,?_,fun i hi=>?_⟩
 ·rcases List.mem_append.1 hl with hl|hl
  ·exact h.ok l hl
  ·rw[List.mem_singleton.1 hl];exact hs
 ·rw[List.length_append,List.length_singleton] at h3;rcases Nat.lt_or_ge j L.length with hj|hj
  ·rw[List.getElem?_append_left hj] at h1;rw[List.getElem?_append_left (by rw[h.el];exact hj)] at h2;obtain⟨a,cp,g1,g2,g3,g4⟩:=h.ring j l e h1 h2 (by omega);refine⟨a,cp,?_,g2,B6 g3 g4,fun g hg=>⟨fun e'=>?_,(g4 g hg).2⟩⟩
   ·rw[List.getElem?_set_ne (fun e'=>z8B hj (by omega) e'.symm)];exact g1
   ·rcases oK g e' with e'|e'
    ·exact(g4 g hg).1 e'
    ·have:=g3.lt hg;omega
  ·have B7:=(List.getElem?_eq_some_iff.1 h1).1;rw[List.length_append,List.length_singleton] at B7;have ej:j=L.length:=by omega
   subst ej;rw[List.getElem?_append_right (Nat.le_refl _),Nat.sub_self,List.getElem?_cons_zero] at h1;rw[List.getElem?_append_right (by rw[h.el];exact Nat.le_refl _),h.el,Nat.sub_self,List.getElem?_cons_zero] at h2;cases h1;cases h2;refine⟨a',cp',List.getElem?_set_self (by rw[h.len];exact Nat.mod_lt _ (by decide)),rI,H7,fun g hg=>⟨fun e'=>?_,fun e'=>?_⟩⟩
   ·have:=cw g hg;have:=mC g e';omega
   ·have:=cw g hg;omega
 ·exact((((kh.kp.trans (iv.KT fun i e=> .inl e)).trans B3.kp).trans (eV.KT fun i e=> .inr e)).trans (nN.KT fun i e=> .inr e)).Kz rJ (fun i e=> .inl (by omega))
 ·rcases oK i hi with e| e
  ·exact .inl e
  ·exact .inr (by omega)
theorem z3H {w:World}{k:Nat}{p:LJ}(hp:p.LS){L:List (List Nat)}{E:List (Nat×Nat)}{bs:List Bool}{F:Nat→Prop}{R:List (Value×Nat)}{wp ed:Nat}(h:Zx w k p L E bs F R wp ed)(hG:KP w 1 (Nu .gamma) 298)(hU:KP w 2 (Nu .unary) 298)(hL:L.length<65536)
  {a:Option Addr} {cp:Nat} {succ:List Nat} (hs:Lj succ) (ke:succ.length≤cp) (dQ:Rd w (.slice a succ.length cp) 1 succ.length (succ.map Lg)) (yE:ed+succ.length≤1048576) (H8:∀g,0<succ.length→(Value.slice a succ.length cp).ownBlock=some g→¬F g∧g≠k)
  (mD:∀r,r≤p.L6→bs.length+(L3 (My p.list L.length succ (M0 L L.length r) r)).length≤134217728):
  Le Tryz.prog 98 [ptr k 0,.slice a succ.length cp] w fun u w'=>∃(r least ch:Nat) (F':Nat→Prop) (R':List (Value×Nat)),u= .tuple #[I (r:Int),I (least:Int),I 0]∧Ue p L E L.length succ.length (r,ch)∧
   Zx w' k p (L++[succ]) (E++[(r,ch)]) (bs++L3 (My p.list L.length succ (M0 L L.length r) r)) F' R' wp (ed+succ.length)∧Kp (fun i=>F i∨i=k) w w'∧∀i,F' i→F i∨w.heap.size≤i:=by
 have uN:p.L6≤16:=hp.1.1
 have lk:=h.KD.lt
 have kS:∀{w2:World},KP w2 k (Sb p R L.length wp ed) 255→∀j u,(PO p)[j]? =some u→w2.cell? ⟨k,0+j,none⟩=some u:=fun hB j u hj=>hB.cells (i:=0) (n:=5) (news:=PO p) rfl j u hj
 refine KA (e:=[(0,_),(1,_)]) Tryz.func98 rfl Tryz.ntmps98 rfl rfl (qN rfl (KL rfl rfl (Mz rfl (cs:=[ptr k 0]) rfl) ?_))
 rintro _ w1 ⟨b2,rfl,bM,ad,ak⟩
 refine KL rfl rfl (Mz rfl (cs:=[.slice a succ.length cp]) rfl) ?_
 rintro _ w2 ⟨b3,rfl,eL,af,ar⟩
 refine KL rfl rfl (MN (cs:=[_]) LC rfl) ?_
 rintro _ w3 ⟨b4,rfl,gA,ah,aI⟩
 have z1:=ad.size
 have z2:=af.size
 have z3:=ah.size
 have lb2:=ak.lt
 have lb3:=ar.lt
 have lb4:=aI.lt
 have c6:=(ad.trans af).trans ah
 have co:=ah.KD (af.KD ak)
 have g9:=ah.KD ar
 have mB:=c6.KD h.KD
 replace aI:KP w3 b4 [I ((0:Nat):Int)] 3:=aI
 refine KE rfl (KE rfl (py (run_seq (KB (qN rfl (qV ((by first|exact KJ MO rfl rfl co rfl|exact KJ MO rfl rfl g9 rfl)) ?_))))))
 refine qV (LO MO rfl rfl) (KE rfl (py (Kx rfl (qN rfl (qV ((by first|exact KJ MO rfl rfl co rfl|exact KJ MO rfl rfl g9 rfl)) ?_)))))
 refine qV (KZ rfl) (qV (KK T5 rfl) (qV (KK Pz rfl) (qV (KJ U3 rfl rfl mB (z0O h.len)) (qV (OL rfl rfl) (Lq (KE rfl (py (Kx rfl (It (KC (qN rfl (qV ((by first|exact KJ MO rfl rfl co rfl|exact KJ MO rfl rfl g9 rfl)) ?_))))))))))))
 refine qV (KZ rfl) (qV (KK T5 rfl) (qV (KK Pz rfl) (qV (KJ U3 rfl rfl mB (z0O h.len)) (KL rfl rfl (MN (cs:=[_]) LC rfl) ?_))))
 rintro _ w4 ⟨b7,rfl,kr,aB,bG⟩
 have z4:=aB.size
 have lb7:=bG.lt
 refine KR rfl (Mn LC rfl rfl rfl bG (by simp)) ?_
 rintro w5 ⟨gn,aj⟩
 replace gn:KP w5 b7 [I (L.length:Int)] 3:=gn
 have cb:Ext w3 w5:=aB.Kz aj (fun i e=>by omega)
 have bz:=c6.trans cb
 have z5:=cb.size
 have z45:=aj.size
 have uR:=bz.KD h.KD
 have cx:=cb.KD co
 have ci:=cb.KD g9
 have aH:=cb.KD aI
 have dE:=Ext.L4 w5
 refine py (run_seq (Lp (fun e' w'=>∃b8 least,e'=[(2,ptr b2 0),(3,ptr b3 0),(4,ptr b4 0),(7,ptr b7 0),(8,ptr b8 0),(6,I 0)]∧Ext w5 w'∧w5.heap.size≤b8∧KP w' b8 [I ((least:Nat):Int)] 3) ?cD (fun cD=>?cQ)))
 case cD =>
  rintro e' w6 ⟨b8,least0,rfl,aK,iU,bU⟩;have z6:=aK.size;have lb8:=bU.lt;have gY:=bz.trans aK;have B8:=aK.KD uR;have fj:=aK.KD cx;have jk:=aK.KD ci;have f7:=Ext.L4 w6;refine run_seq (KB (qN rfl (An rfl (qV (LQ rfl rfl) (KE rfl (py (Kx rfl (run_seq (KN (fun w'=>Ext w6 w') (by kernel_rfl) rfl (qT 0 rfl (fun _ h=>(by first|exact KJ MO rfl rfl (h.KD fj) rfl|exact KJ MO rfl rfl (h.KD jk) rfl)) f7 ?_))))))))));refine KH 1 rfl (KZ rfl) f7 (KH 2 rfl (KK Xc rfl) f7 (qT 4 rfl (fun _ h=>(by first|exact KJ L9 rfl rfl (h.KD fj) rfl|exact KJ L9 rfl rfl (h.KD jk) rfl)) f7 ?_));refine KH 5 rfl (LG L9 rfl) f7 (qT 3 rfl (fun _ hS=>KJ U3 rfl rfl (hS.KD B8) (zbf h.len)) f7 (KH 6 rfl (PW rfl rfl (by omega)) f7 (KH 7 rfl (LH rfl rfl) f7 (Pw (KH 8 rfl (ML rfl) f7 (qE (Kx rfl (It (KC (qN rfl ?_))))))))));have zg6:=f7.size;refine KL rfl rfl (MN (cs:=[_,_]) LL rfl) ?_;rintro _ w7 ⟨b9,rfl,nK,bL,cy⟩;have lb9:=cy.lt;have fK:=f7.trans bL;have gd:=gY.trans fK;have oL:=aK.trans fK;have z7:=gd.size;have z67:=fK.size;have B9:=gd.KD h.KD;have yo:AdM w7 k b2 b3 b7 b8 b4 b9 a succ.length cp L.length least0 0 (.slice none 0 0) 0:=⟨fK.KD fj,fK.KD jk,oL.KD gn,fK.KD bU,oL.KD aH,cy⟩;have hd:b8≠b2∧b8≠b3∧b8≠b7∧b4≠b2∧b4≠b3∧b4≠b7∧b9≠b2∧b9≠b3∧b9≠b7∧b8≠b4∧b8≠b9∧b4≠b9:=by omega
  refine qM rfl (qV (Zw (first:=[]) (caps:=[.tmp 2,.tmp 3,.tmp 7,.tmp 8,.tmp 4,.tmp 9]) rfl rfl) (KE rfl (py (run_seq (qN rfl ?_)))));have Ba:=yo.c2;refine qV (KJ MO rfl rfl Ba rfl) (qV (KZ rfl) (qV (KK Rl rfl) (qV (KK UU rfl) (qV (KJ U3 rfl rfl B9 rfl) (An rfl (py (Lc.qb (e:=[(2,_),(3,_),(4,_),(6,_),(7,_),(8,_),(9,_),(10,_),(58,_),(59,_)]) ?_)))))));refine KB (MQ (α:=Nat) (0) (fun i=>[(2,ptr b2 0),(3,ptr b3 0),(4,ptr b4 0),(7,ptr b7 0),(8,ptr b8 0),(9,ptr b9 0),(10,.func (.func 137) #[] #[ptr b2 0,ptr b3 0,ptr b7 0,ptr b8 0,ptr b4 0,ptr b9 0]),(58,I (p.L6:Int)),(59,I (i:Int))]) (fun i w'=>Ext w w'∧w7.heap.size≤w'.heap.size∧i≤p.L6∧∃least ref v c,AdM w' k b2 b3 b7 b8 b4 b9 a succ.length cp L.length least ref v c∧Found p L E R succ.length ref v c) (fun i=>p.L6-i) ?hI ?hround)
  case hI=>exact⟨gd,Nat.le_refl _,Nat.zero_le _,_,_,_,_,yo,.inl ⟨rfl,rfl,rfl⟩⟩
  case hround=>
   rintro i wA ⟨kh,JR,hi,least,ref,v,c,hA,hF⟩ ih
   try dsimp only
   refine qN rfl (qV (LW rfl rfl) (py (run_seq (KQ rfl (fun h0=>?_) (fun h0=>?_)))))
   ·refine It (run_seq (KB (qN rfl (An rfl (KE rfl (py (KF rfl (An rfl (An rfl (Lz rfl rfl ?_))))))))));rw[show(i:Int)+1=((i+1:Nat):Int) by omega];refine Mb rfl rfl (N6 (args:=[.tmp 64]) zbG rfl rfl) (z5T hp (h.ext kh) (kh.KD hG) (kh.KD hU) hL hs ke (dQ.ext kh) hA hF hd (i+1) (by omega) (by omega)) ?_;rintro _ w9 ⟨rfl,aJ,least',ref',v',c',pI,H9⟩;have z9:=aJ.size;refine py (KC (KF rfl (Lz rfl rfl (An rfl (py ?_)))));exact(ih (i+1) _ ⟨kh.Kz aJ (fun i hi=>by omega),by omega,by omega,_,_,_,_,pI,H9⟩ (by omega)).qb
   ·have cJ:∀b,w.heap.size≤b→¬F b:=fun b hb e=>by have:=h.wr.lt e;omega
    have rL:=kh.KD h.KD
    have A0:ref≤p.L6∧(ref=0→M0 L L.length ref=[])∧Lj (M0 L L.length ref)∧(∃va vc,v= .slice va (M0 L L.length ref).length vc∧(M0 L L.length ref).length≤vc∧Rd wA (.slice va (M0 L L.length ref).length vc) 1 (M0 L L.length ref).length ((M0 L L.length ref).map Lg))∧Ue p L E L.length succ.length (ref,if 0<ref then c+1 else 0)∧c≤65536:=by
     rcases hF with⟨rfl,rfl,rfl⟩|⟨f1,f2,f3,f4,l,e,f5,f6,rfl,f8⟩
     ·refine⟨Nat.zero_le _,fun _=>rfl,⟨List.Pairwise.nil,fun y h=>(by cases h)⟩,⟨none,0,rfl,Nat.zero_le _,Q7⟩,.inl rfl,Nat.zero_le _⟩
     ·have j4:M0 L L.length ref=l:=by unfold M0;rw[if_neg (by omega),f5];rfl
      obtain⟨va,vc,g1,g2,g3,g4⟩:=h.ring _ l e f5 f6 (by omega);rw[f4] at g1;have gv:v= .slice va l.length vc:=(Prod.mk.inj (MA g1)).1;have hb:=of_decide_eq_true f8;have Ha:=hp.2.1;rw[j4];exact⟨f2,fun e=>by omega,h.ok l (List.mem_of_getElem? f5),⟨va,vc,gv,g2,(g3.ext kh).rd⟩,.inr ⟨f1,f2,f3,l,e,f5,f6,by dsimp only;rw[if_pos (by omega)],f8⟩,by omega⟩
    obtain⟨dw,et,cf,⟨va,vc,rfl,bO,bY⟩,gq,Hb⟩:=A0;have Bb:=mD ref dw
    generalize Bc:M0 L L.length ref=lr at et cf bO bY Bb hA
    have kC:=hA.c2;have mh:=hA.c3;have kT:=hA.c7;have jz:=hA.c9;have jA:=hA.c4;have Be:=hA.c8;have jB:=Ext.L4 wA;refine KO rfl (run_seq (run_seq (KN (fun w'=>Kp F wA w') (by kernel_rfl) rfl (qT 0 rfl (fun _ hS=>(by first|exact KJ MO rfl rfl (hS.KD kC (cJ _ (by omega))) rfl|exact KJ MO rfl rfl (hS.KD mh (cJ _ (by omega))) rfl|exact KJ MO rfl rfl (hS.KD kT (cJ _ (by omega))) rfl|exact KJ MO rfl rfl (hS.KD jz (cJ _ (by omega))) rfl|exact KJ MO rfl rfl (hS.KD jA (cJ _ (by omega))) rfl)) (jB.kp) ?_))));refine KH 1 rfl (KZ rfl) (jB.kp) (KH 2 rfl (KK WX rfl) (jB.kp) (qT 4 rfl (fun _ hS=>(by first|exact KJ U3 rfl rfl (hS.KD kC (cJ _ (by omega))) rfl|exact KJ U3 rfl rfl (hS.KD mh (cJ _ (by omega))) rfl|exact KJ U3 rfl rfl (hS.KD kT (cJ _ (by omega))) rfl|exact KJ U3 rfl rfl (hS.KD jz (cJ _ (by omega))) rfl|exact KJ U3 rfl rfl (hS.KD jA (cJ _ (by omega))) rfl)) (jB.kp) ?_));refine qT 5 rfl (fun _ hS=>(by first|exact KJ L9 rfl rfl (hS.KD kC (cJ _ (by omega))) rfl|exact KJ L9 rfl rfl (hS.KD mh (cJ _ (by omega))) rfl|exact KJ L9 rfl rfl (hS.KD kT (cJ _ (by omega))) rfl|exact KJ L9 rfl rfl (hS.KD jz (cJ _ (by omega))) rfl|exact KJ L9 rfl rfl (hS.KD jA (cJ _ (by omega))) rfl)) (jB.kp) ?_;refine KH 6 rfl (KK Nn rfl) (jB.kp) (qT 7 rfl (fun _ hS=>(by first|exact KJ L9 rfl rfl (hS.KD kC (cJ _ (by omega))) rfl|exact KJ L9 rfl rfl (hS.KD mh (cJ _ (by omega))) rfl|exact KJ L9 rfl rfl (hS.KD kT (cJ _ (by omega))) rfl|exact KJ L9 rfl rfl (hS.KD jz (cJ _ (by omega))) rfl|exact KJ L9 rfl rfl (hS.KD jA (cJ _ (by omega))) rfl)) (jB.kp) ?_);refine qT 8 rfl (fun _ hS=>(by first|exact KJ U3 rfl rfl (hS.KD kC (cJ _ (by omega))) rfl|exact KJ U3 rfl rfl (hS.KD mh (cJ _ (by omega))) rfl|exact KJ U3 rfl rfl (hS.KD kT (cJ _ (by omega))) rfl|exact KJ U3 rfl rfl (hS.KD jz (cJ _ (by omega))) rfl|exact KJ U3 rfl rfl (hS.KD jA (cJ _ (by omega))) rfl)) (jB.kp) ?_;refine qT 9 rfl (fun _ hS=>(by first|exact KJ MO rfl rfl (hS.KD kC (cJ _ (by omega))) rfl|exact KJ MO rfl rfl (hS.KD mh (cJ _ (by omega))) rfl|exact KJ MO rfl rfl (hS.KD kT (cJ _ (by omega))) rfl|exact KJ MO rfl rfl (hS.KD jz (cJ _ (by omega))) rfl|exact KJ MO rfl rfl (hS.KD jA (cJ _ (by omega))) rfl)) (jB.kp) ?_;refine KH 10 rfl (KZ rfl) (jB.kp) (KH 11 rfl (KK Rl rfl) (jB.kp) (qT 3 rfl (fun _ hS=>KJ Xr rfl rfl (hS.KD rL h.nk) (z81 h.len)) (jB.kp) (qT 12 rfl (fun _ hS=>La (news:=PO p) Vq rfl ME rfl (kS (hS.KD rL h.nk)) rfl) (jB.kp) (OJ 13 [.tmp 79] rfl VF rfl (NJ p _) ?_))));rintro _ w9 ⟨rfl,eS⟩;refine⟨(jB.trans eS).kp,?_⟩;have kU:=jB.trans eS;have fI:=kh.trans kU;refine OJ 14 [.tmp 70,.tmp 71,.tmp 72,.tmp 74,.tmp 75,.tmp 80] rfl z7D rfl (TV (h.wr.ext fI) p.list hp.1 L.length hL succ lr hs cf ref dw et (fI.KD hG) (fI.KD hU) (dQ.ext fI) (bY.ext kU) ke bO Bb) ?_;rintro _ wB ⟨rfl,F',yD,iv,oK⟩;refine⟨kU.kp.trans iv,?_⟩;have gZ:Kp F wA wB:=kU.kp.trans iv;have Bf:∀i,F' i→F i∨wA.heap.size≤i:=fun i hi=>(oK i hi).imp id (fun e=>by have:=kU.size;omega)
    have uS:=gZ.KD jA (cJ _ (by omega));have uT:=gZ.KD jz (cJ _ (by omega));have rM:=gZ.KD kC (cJ _ (by omega));have rN:=gZ.KD mh (cJ _ (by omega));have Bg:=gZ.KD Be (cJ _ (by omega));have Bh:=gZ.KD rL h.nk;have zAB:=gZ.size;have Bi:Rd wB (.slice a succ.length cp) 1 succ.length (succ.map Lg):=(dQ.ext kh).kpz gZ (fun h0 g hg=>(H8 g h0 hg).1);refine KH 15 rfl (ML rfl) (kU.kp.trans iv) (qE (Lc.qb (e:=[(2,_),(3,_),(4,_),(8,_),(9,_),(12,_)]) ?_));refine qN rfl (An rfl (qV (LQ rfl rfl) (py (Kx rfl (It (qN rfl (KE rfl (py (run_seq (qN rfl (qV ((by first|exact KJ U3 rfl rfl uS rfl|exact KJ U3 rfl rfl uT rfl)) ?_)))))))))));refine qV (LH rfl rfl) (py (Lp (fun e' w'=>e'=[(2,ptr b2 0),(3,ptr b3 0),(4,ptr b4 0),(8,ptr b8 0),(13,I ((if 0<ref then c+1 else 0:Nat):Int))]∧w'=wB) ?aq (fun aq=>?dD)))
    case aq=>
     rintro e' wB' ⟨rfl,rfl⟩
     generalize (if 0<ref then c+1 else 0)=ch at gq
     have oM:=Ext.L4 wB';have Bj:∀i,i<wB'.heap.size→¬(Value.slice none 0 0).ownBlock=some i:=fun i _ e=>by cases e
     refine run_seq (KN (fun w'=>Kp (fun i=>i=k) wB' w') (by kernel_rfl) rfl (qT 0 rfl (fun _ hS=>(by first|exact KJ MO rfl rfl (hS.KD rM (by omega)) rfl|exact KJ MO rfl rfl (hS.KD rN (by omega)) rfl)) (oM.kp) ?_));refine KH 1 rfl (KZ rfl) (oM.kp) (KH 2 rfl (KK T5 rfl) (oM.kp) (qT 3 rfl (fun _ hS=>(by first|exact KJ L9 rfl rfl (hS.KD rM (by omega)) rfl|exact KJ L9 rfl rfl (hS.KD rN (by omega)) rfl)) (oM.kp) ?_));refine KH 5 rfl (KM rfl) (oM.kp) (qO 4 (VK (i:=4) rfl rfl rfl (pap L9 KY rfl (by decide) rfl rfl (Sl.nil _ _ _) (Bi.ext oM) (Xn _) (by omega) (by simp only[maxLen];omega)) ?_));rintro v' wC ⟨tz,iZ,Hc,-⟩;refine⟨oM.kp.trans (iZ.KT fun i e=>by cases e),?_⟩;have jC:Ext wB' wC:=oM.trans ((Ext.refl _).Kz iZ (fun i e=>by cases e));rw[Nat.zero_add,List.nil_append] at tz;obtain⟨a',cp',rfl,-⟩:=tz.rd.shape
     have rI:succ.length≤cp':=by
      rcases tz.shape with⟨e,h0⟩|⟨g,c1,hv,fm⟩
      ·omega
      ·cases hv;exact fm
     have uU:∀g,(Value.slice a' succ.length cp').ownBlock=some g→wB'.heap.size≤g:=fun g hg=>by
      rcases Hc g hg with e| e
      ·cases e
      ·have:=oM.size;omega
     have Bk:=jC.KD Bh;refine OJ 6 [.tmp 92,.tmp 94,.tmp 95] rfl z8Z rfl (z58 Bk h.len (by omega) a' succ.length cp' ch) ?_;rintro _ wD ⟨rfl,EF,eV⟩;refine⟨jC.kp.trans eV,?_⟩;have df:(R.set (L.length%17) (.slice a' succ.length cp',ch)).length=17:=by rw[List.length_set];exact h.len
     have uV:=eV.KD (jC.KD rM) (by omega);have uW:=eV.KD (jC.KD rN) (by omega);have Bl:=eV.KD (jC.KD uS) (by omega);have Bm:=eV.KD (jC.KD Bg) (by omega);have mE:=Ext.L4 wD;refine qE (run_seq (L5 [9] (fun w'=>Ext wD w') (by kernel_rfl) rfl (qL [1,2,3,6,7,8,9] 0 rfl (fun _ h=>(by first|exact KJ MO rfl rfl (h.KD uV) rfl|exact KJ MO rfl rfl (h.KD uW) rfl)) mE ?_)));refine qL [2,3,6,7,8,9] 1 rfl (fun _ h=>KZ rfl) mE (qL [3,6,7,8,9] 2 rfl (fun _ h=>KK Xc rfl) mE (qL [5,6,7,8,9] 4 rfl (fun _ h=>(by first|exact KJ L9 rfl rfl (h.KD uV) rfl|exact KJ L9 rfl rfl (h.KD uW) rfl)) mE ?_));refine qL [6,7,8,9] 5 rfl (fun _ h=>LG L9 rfl) mE (qL [6,7,8,9] 3 rfl (fun _ h=>KJ U3 rfl rfl (h.KD EF) (zbf df)) mE (qL [7,8,9] 6 rfl (fun _ h=>PW rfl rfl (by omega)) mE (qL [8,9] 7 rfl (fun _ h=>KZ rfl) mE (qL [9] 8 rfl (fun _ h=>KK Xc rfl) mE (Lu [9] (by kernel_rfl) (by kernel_rfl) (qO 9 (Lm (i:=9) rfl rfl (Mn LC rfl rfl rfl (mE.KD EF) (by rw[ZR df];decide)) ?_)))))));rintro wE ⟨yF,Bn⟩;refine⟨trivial,?_⟩;replace yF:KP wE k ((Sb p (R.set (L.length%17) (.slice a' succ.length cp',ch)) (L.length+1) wp ed).set 41 (I ((ed+succ.length:Nat):Int))) 255:=yF;rw[z6V df] at yF;have nN:Kp (fun i=>i=k) wD wE:=mE.kp.trans Bn;have rO:=nN.KD Bl (by omega);have uX:=nN.KD Bm (by omega);have oN:=Ext.L4 wE;refine qE (run_seq (KN (fun w'=>Kp (fun i=>i=b4) wE w'∧KP w' b4 [I (ref:Int)] 3) (by kernel_rfl) rfl (qT 0 rfl (fun _ hS=>(by first|exact KJ U3 rfl rfl hS.2 rfl|exact KJ U3 rfl rfl (hS.1.KD uX (by omega)) rfl)) (⟨oN.kp,oN.KD rO⟩) ?_)));refine qT 1 rfl (fun _ hS=>(by first|exact KJ U3 rfl rfl hS.2 rfl|exact KJ U3 rfl rfl (hS.1.KD uX (by omega)) rfl)) (⟨oN.kp,oN.KD rO⟩) ?_;refine qO 2 (Lm (i:=2) rfl rfl (Mn LC rfl rfl rfl (oN.KD rO) (by simp)) ?_);rintro wF ⟨kV,oO⟩;refine⟨⟨oN.kp.trans oO,kV⟩,?_⟩;replace kV:KP wF b4 [I (ref:Int)] 3:=kV;have rJ:Kp (fun i=>i=b4) wE wF:=oN.kp.trans oO;have B4:=rJ.KD yF (by omega);refine KH 3 rfl (ML rfl) (⟨oN.kp.trans oO,kV⟩) (KH 4 rfl (ML rfl) (⟨oN.kp.trans oO,kV⟩) (qE (Lc.qb (e:=[(4,_),(5,_),(6,_)]) ?_)));refine L8 Tryz.func98 (.cell1 U3 rfl rfl ((kV).cell _) (.tmp rfl (.tmp rfl .nil))) ?_;obtain⟨q1,q2,q3⟩:=h.add (r:=ref) kh gZ yD Bf hs jC tz rI uU eV nN rJ (by omega) (by omega) B4;exact⟨_,rfl,ref,least,ch,F',_,rfl,gq,by rw[Bc];exact q1,q2,q3⟩
    case dD=>
     refine KQ rfl (fun h5=>?_) (fun h5=>?_)
     ·refine KF rfl (qV (KK Xz rfl) (qV (KJ U3 rfl rfl uT rfl) (Lz rfl rfl (KE rfl (py ?_)))));rw[show(c:Int)+1=((if 0<ref then c+1 else 0:Nat):Int) by rw[if_pos (by omega)];omega];exact(aq _ _ ⟨rfl,rfl⟩).qb
     ·refine It ?_;have iB:(if 0<ref then c+1 else 0)=0:=if_neg (by omega);exact(aq _ _ ⟨by rw[iB],rfl⟩).qb
 case cQ=>
  have aq:=dE;refine L5 [12] (fun w'=>Ext w5 w') (by kernel_rfl) rfl (qL [7,8,9,10,12,13] 0 rfl (fun _ h=>(by first|exact KJ U3 rfl rfl (h.KD cx) rfl|exact KJ U3 rfl rfl (h.KD ci) rfl|exact KJ U3 rfl rfl (h.KD gn) rfl)) aq ?_);refine qL [7,8,9,10,12,13] 1 rfl (fun _ h=>(by first|exact KJ L9 rfl rfl (h.KD cx) rfl|exact KJ L9 rfl rfl (h.KD ci) rfl|exact KJ L9 rfl rfl (h.KD gn) rfl)) aq ?_;refine qL [3,4,5,6,7,8,9,10,12,13] 2 rfl (fun _ h=>(by first|exact KJ MO rfl rfl (h.KD cx) rfl|exact KJ MO rfl rfl (h.KD ci) rfl|exact KJ MO rfl rfl (h.KD gn) rfl)) aq ?_;refine qL [4,5,6,7,8,9,10,12,13] 3 rfl (fun _ h=>KZ rfl) aq (qL [5,6,7,8,9,10,12,13] 4 rfl (fun _ h=>KK Rl rfl) aq (qL [6,7,8,9,10,12,13] 5 rfl (fun _ h=>La (news:=PO p) Vq rfl ME rfl (kS (h.KD uR)) rfl) aq (RK (i:=6) (j:=11) (by kernel_rfl) ?_ ?_)))
  ·refine MU (i:=6) rfl rfl rfl (yc (args:=[.tmp 35]) VF rfl) (NJ p _) ?_;rintro _ w6 ⟨rfl,aK⟩;refine⟨aq.trans aK,?_⟩
   try have aF:=aK.KD aF
   have aq:=aq.trans aK;refine RK (i:=7) (j:=11) (by kernel_rfl) ?_ ?_
   ·refine MU (i:=7) rfl rfl rfl (yc (args:=[.tmp 30,.tmp 31,.const (Value.slice none 0 0),.const (Value.int .i64 0),.tmp 36]) Y4 rfl) (Q4 p.list hp.1 L.length hL succ [] hs ⟨List.Pairwise.nil,fun y h=>(by cases h)⟩ 0 (Nat.zero_le _) (fun _=>rfl) ((bz.trans aq).KD hG) ((bz.trans aq).KD hU) (dQ.ext (bz.trans aq)) Q7 ke (Nat.zero_le _)) ?_;rintro _ w7 ⟨rfl,bL⟩;refine⟨aq.trans bL,?_⟩
    try have aF:=bL.KD aF
    have aq:=aq.trans bL;refine qL [9,10,12,13] 8 rfl (fun _ h=>KM rfl) aq (qL [12,13] 9 rfl (fun _ h=>Ll rfl rfl) aq (LD (i:=10) rfl (by kernel_rfl) rfl rfl (fun _=>Ll rfl rfl) aq (Mp (i:=11) (by kernel_rfl) (LM (i:=11) rfl rfl rfl (MN (cs:=[_]) LC rfl) ?_))));rintro _ w11 ⟨b8,rfl,iu,aT,aF⟩;refine⟨aq.trans aT,?_⟩;have mF:w5.heap.size≤b8:=by have:=aq.size;omega
    have aq:=aq.trans aT;refine Lu [12] (by kernel_rfl) (by kernel_rfl) (qO 12 (Lm (i:=12) rfl rfl (Mn LC rfl rfl rfl aF (by simp)) ?_));rintro w12 ⟨ba,aU⟩;refine⟨trivial,?_⟩;refine KH 13 rfl (ML rfl) trivial (qE (Lc.qb (e:=[(2,_),(3,_),(4,_),(5,_),(6,_),(7,_),(8,_)]) ?_));exact(cD _ _ ⟨b8,_,rfl,aq.Kz aU (fun i e=>by omega),mF,ba⟩).qb
   ·refine LM (i:=11) rfl rfl rfl (MN (cs:=[_]) LC rfl) ?_;rintro _ w11 ⟨b8,rfl,iu,aT,aF⟩;refine⟨aq.trans aT,?_⟩;have mF:w5.heap.size≤b8:=by have:=aq.size;omega
    have aq:=aq.trans aT;refine Mp (i:=7) (by kernel_rfl) (MU (i:=7) rfl rfl rfl (yc (args:=[.tmp 30,.tmp 31,.const (Value.slice none 0 0),.const (Value.int .i64 0),.tmp 36]) Y4 rfl) (Q4 p.list hp.1 L.length hL succ [] hs ⟨List.Pairwise.nil,fun y h=>(by cases h)⟩ 0 (Nat.zero_le _) (fun _=>rfl) ((bz.trans aq).KD hG) ((bz.trans aq).KD hU) (dQ.ext (bz.trans aq)) Q7 ke (Nat.zero_le _)) ?_);rintro _ w7 ⟨rfl,bL⟩;refine⟨aq.trans bL,?_⟩
    try have aF:=bL.KD aF
    have aq:=aq.trans bL;refine qL [9,10,12,13] 8 rfl (fun _ h=>KM rfl) aq (qL [12,13] 9 rfl (fun _ h=>Ll rfl rfl) aq (LD (i:=10) rfl (by kernel_rfl) rfl rfl (fun _=>Ll rfl rfl) aq (Lu [12] (by kernel_rfl) (by kernel_rfl) (qO 12 (Lm (i:=12) rfl rfl (Mn LC rfl rfl rfl aF (by simp)) ?_)))));rintro w12 ⟨ba,aU⟩;refine⟨trivial,?_⟩;refine KH 13 rfl (ML rfl) trivial (qE (Lc.qb (e:=[(2,_),(3,_),(4,_),(5,_),(6,_),(7,_),(8,_)]) ?_));exact(cD _ _ ⟨b8,_,rfl,aq.Kz aU (fun i e=>by omega),mF,ba⟩).qb
  ·refine LM (i:=11) rfl rfl rfl (MN (cs:=[_]) LC rfl) ?_;rintro _ w11 ⟨b8,rfl,iu,aT,aF⟩;refine⟨aq.trans aT,?_⟩;have mF:w5.heap.size≤b8:=by have:=aq.size;omega
   have aq:=aq.trans aT;refine Mp (i:=6) (by kernel_rfl) (MU (i:=6) rfl rfl rfl (yc (args:=[.tmp 35]) VF rfl) (NJ p _) ?_);rintro _ w6 ⟨rfl,aK⟩;refine⟨aq.trans aK,?_⟩
   try have aF:=aK.KD aF
   have aq:=aq.trans aK;refine Mp (i:=7) (by kernel_rfl) (MU (i:=7) rfl rfl rfl (yc (args:=[.tmp 30,.tmp 31,.const (Value.slice none 0 0),.const (Value.int .i64 0),.tmp 36]) Y4 rfl) (Q4 p.list hp.1 L.length hL succ [] hs ⟨List.Pairwise.nil,fun y h=>(by cases h)⟩ 0 (Nat.zero_le _) (fun _=>rfl) ((bz.trans aq).KD hG) ((bz.trans aq).KD hU) (dQ.ext (bz.trans aq)) Q7 ke (Nat.zero_le _)) ?_);rintro _ w7 ⟨rfl,bL⟩;refine⟨aq.trans bL,?_⟩
   try have aF:=bL.KD aF
   have aq:=aq.trans bL;refine qL [9,10,12,13] 8 rfl (fun _ h=>KM rfl) aq (qL [12,13] 9 rfl (fun _ h=>Ll rfl rfl) aq (LD (i:=10) rfl (by kernel_rfl) rfl rfl (fun _=>Ll rfl rfl) aq (Lu [12] (by kernel_rfl) (by kernel_rfl) (qO 12 (Lm (i:=12) rfl rfl (Mn LC rfl rfl rfl aF (by simp)) ?_)))));rintro w12 ⟨ba,aU⟩;refine⟨trivial,?_⟩;refine KH 13 rfl (ML rfl) trivial (qE (Lc.qb (e:=[(2,_),(3,_),(4,_),(5,_),(6,_),(7,_),(8,_)]) ?_));exact(cD _ _ ⟨b8,_,rfl,aq.Kz aU (fun i e=>by omega),mF,ba⟩).qb
section
variable {w:World}{k:Nat}{p:LJ}{L:List (List Nat)}{E:List (Nat×Nat)}{bs:List Bool}{F:Nat→Prop}{R:List (Value×Nat)}{wp ed:Nat}
theorem z04 (h:Zx w k p L E bs F R wp ed)(hl:bs.length≤9223372036854775):Le Tryz.prog 99 [ptr k 0] w fun u w'=>u=I (bs.length:Int)∧Ext w w':=by
 refine KA (e:=[(0,_)]) Tryz.func99 rfl Tryz.ntmps99 rfl rfl ?_
 have hg:=Ext.L4 w
 refine qN rfl (KE rfl (py (run_seq (qN rfl (An rfl (qV (LO MO rfl rfl) (py (Kx rfl (It (run_seq (KN (fun w'=>Ext w w') (by kernel_rfl) rfl (KH 0 rfl (KM rfl) hg (KH 1 rfl (KZ rfl) hg ?_)))))))))))))
 refine KH 2 rfl (KK z5Z rfl) hg (KH 4 rfl (KM rfl) hg (KH 5 rfl (KZ rfl) hg (KH 6 rfl (KK WX rfl) hg (qT 3 rfl (fun _ hS=>KJ U3 rfl rfl (hS.KD h.KD) (zcJ h.len)) hg (qT 7 rfl (fun _ hS=>KJ Xr rfl rfl (hS.KD h.KD) (z81 h.len)) hg (OJ 8 [.tmp 12] rfl WJ rfl (Q2 (h.wr.ext hg)) ?_))))))
 rintro _ w1 ⟨rfl,rfl⟩
 refine⟨hg,?_⟩
 refine KH 9 rfl (PW rfl rfl (by omega)) hg (KH 10 rfl (ML rfl) hg (qE ?_))
 rw[show(0:Int)+(bs.length:Int)=(bs.length:Int) by omega]
 refine KG Tryz.func99 rfl ?_
 exact⟨_,rfl,rfl,hg⟩
theorem z0g (h:Zx w k p L E bs F R wp ed):Le Tryz.prog 100 [ptr k 0] w fun u w'=>u= .tuple #[S (L7 bs),I 0]∧w'=w:=by
 refine KA (e:=[(0,_)]) Tryz.func100 rfl Tryz.ntmps100 rfl rfl (qN rfl (KE rfl (KE rfl (py (run_seq (qN rfl (An rfl (qV (LO MO rfl rfl) (py (Kx rfl (It (qN rfl (An rfl ?_)))))))))))))
 refine qV (KZ rfl) (qV (KK WX rfl) (qV (KJ Xr rfl rfl h.KD (z81 h.len)) (L2 [.tmp 9] z1c rfl (Rt h.wr) ?_)))
 rintro _ w1 ⟨rfl,rfl⟩
 refine qV (Ll rfl rfl) (qV (Ll rfl rfl) (KE rfl (KE rfl (py (KG Tryz.func100 rfl ?_)))))
 exact⟨_,rfl,rfl,rfl⟩
end
structure GrM (w:World)(v:Value)(g:List (List Nat)):Prop where
 ex:∃vs:List Value,Rd w v 1 g.length vs∧∀(i:Nat) (l:List Nat),g[i]? =some l→∃(a:Option Addr) (c:Nat),vs[i]? =some (Value.slice a l.length c)∧l.length≤c∧Rd w (.slice a l.length c) 1 l.length (l.map Lg)
theorem GrM.ext {w w':World}{v:Value}{g:List (List Nat)}(h:GrM w v g)(hx:Ext w w'):GrM w' v g:=by
 obtain⟨vs,h1,h2⟩:=h.ex
 refine⟨vs,h1.ext hx,fun i l hl=>?_⟩
 obtain⟨a,c,g1,g2,g3⟩:=h2 i l hl
 exact⟨a,c,g1,g2,g3.ext hx⟩
structure N1 (g:List (List Nat)):Prop where
 ok:∀l∈g,Lj l
 lt:∀l∈g,∀y∈l,y<g.length
 n:g.length≤60
theorem N1.len {g:List (List Nat)}(h:N1 g){l:List Nat}(hl:l∈g):l.length≤g.length:=by
 have:=Xa l 0 g.length (h.ok l hl).Vw (fun y hy=>⟨Nat.zero_le _,h.lt l hl y hy⟩) (Nat.zero_le _)
 omega
def LR (g:List (List Nat)):Nat:=(g.map List.length).sum
theorem RW (g:List (List Nat))(l:List Nat):LR (g++[l])=LR g+l.length:=by simp[LR]
theorem z5g {g:List (List Nat)}{n:Nat}(h:∀l∈g,l.length≤n):LR g≤g.length*n:=by
 induction g with
 |nil=>simp[LR]
 | cons l g ih =>
   have h1:=ih (fun m hm=>h m (List.mem_cons_of_mem _ hm));have h2:=h l List.mem_cons_self;show(l.length::g.map List.length).sum≤_;rw[List.sum_cons,List.length_cons,Nat.add_mul];have e:LR g=(g.map List.length).sum:=rfl;omega
theorem OH {g:List (List Nat)}(h:N1 g)(i:Nat):LR (g.take i)≤3600:=by
 have h1:LR (g.take i)≤(g.take i).length*60:=z5g (fun l hl=>by have:=h.len (List.mem_of_mem_take hl);have:=h.n;omega)
 have h2:(g.take i).length≤60:=by rw[List.length_take];have:=h.n;omega
 omega
theorem Z1 {w:World}{ga:Option Addr}{gc:Nat}{g:List (List Nat)}(h:GrM w (.slice ga g.length gc) g)(hg:N1 g):Le Tryz.prog 97 [.slice ga g.length gc] w fun u w'=>u= .bool true∧w'=w:=by
 have hn:=hg.n
 obtain⟨vs,eT,jS⟩:=h.ex
 refine KA (e:=[(0,_)]) Tryz.func97 rfl Tryz.ntmps97 rfl rfl (qN rfl (KE rfl (qM rfl (KE rfl (py (run_seq (qN rfl (An rfl (qV (LG Rb rfl) (An rfl (py (KB (MQ (α:=Nat) (0) (fun i=>[(0,.slice ga g.length gc),(3,I (LR (g.take i):Int)),(8,.slice ga g.length gc),(9,I (g.length:Int)),(10,I (i:Int))]) (fun i w'=>w'=w∧i≤g.length) (fun i=>g.length-i) ?hI ?hround)))))))))))))
 case hI=>exact⟨rfl,Nat.zero_le _⟩
 case hround =>
  rintro i w4 ⟨rfl,hi⟩ ih;have rP:=OH hg i
  try dsimp only
  refine qN rfl (qV (LW rfl rfl) (py (run_seq (KQ rfl (fun h0=>?_) (fun h0=>?_)))))
  ·have de:i<g.length:=by omega
   obtain⟨l,hl⟩:∃l,g[i]? =some l:=⟨_,List.getElem?_eq_getElem de⟩;have gL:=List.mem_of_getElem? hl;have eM:=hg.len gL;obtain⟨a,c,e1,e2,e3⟩:=jS i l hl
   obtain⟨gb,go,gc',e4⟩:∃b o c',Value.slice ga g.length gc= .slice (some ⟨b,o,none⟩) g.length c':=by
    rcases eT.2 with⟨c,hc,h0⟩|⟨b,off,c',hc,-⟩
    ·omega
    ·exact⟨b,off,c',hc⟩
   cases e4;refine It (run_seq (KB (qN rfl (qV (Lt Rb OC rfl rfl (by omega)) (qV (Lb L9 rfl rfl (LN eT e1)) (KE rfl (qM rfl (An rfl (An rfl (qV (LG L9 rfl) (Lz rfl rfl (KE rfl (qM rfl ?_)))))))))))));refine An rfl (qV (LG L9 rfl) (An rfl (py (KB ?_))));have yE:=RW (g.take i) l;rw[←Ls hl] at yE;rw[show(LR (g.take i):Int)+(l.length:Int)=(LR (g.take (i+1)):Int) by omega];refine MQ (α:=Nat) (0) (fun j=>[(0,.slice (some ⟨gb,go,none⟩) g.length gc),(3,I (LR (g.take (i+1)):Int)),(5,.slice a l.length c),(8,.slice (some ⟨gb,go,none⟩) g.length gc),(9,I (g.length:Int)),(10,I (i:Int)),(18,.slice a l.length c),(19,I (l.length:Int)),(20,I (j:Int))]) (fun j w'=>w'=w4∧j≤l.length) (fun j=>l.length-j) ?hI ?hround
   case hI=>exact⟨rfl,Nat.zero_le _⟩
   case hround=>
    rintro j w5 ⟨rfl,hj⟩ ih2
    try dsimp only
    refine qN rfl (qV (LW rfl rfl) (py (run_seq (KQ rfl (fun h1=>?_) (fun h1=>?_)))))
    ·have jT:j<l.length:=by omega
     obtain⟨y,hy⟩:∃y,l[j]? =some y:=⟨_,List.getElem?_eq_getElem jT⟩;have Em:=hg.lt l gL y (List.mem_of_getElem? hy)
     obtain⟨lb,lo,lc,e5⟩:∃b o c',Value.slice a l.length c= .slice (some ⟨b,o,none⟩) l.length c':=by
      rcases e3.2 with⟨c,hc,h0⟩|⟨b,off,c',hc,-⟩
      ·omega
      ·exact⟨b,off,c',hc⟩
     cases e5;refine It (run_seq (KB (qN rfl (An rfl (qV (Lt L9 KY rfl rfl (by omega)) (qV (Lb Mg rfl rfl (LN e3 (show(l.map Lg)[j]? =some (Lg y) by rw[List.getElem?_map,hy];rfl))) ?_))))));refine KE rfl (KE rfl (qM rfl (An rfl (qV (Ln rfl Mg U3 (by omega)) (An rfl (qV (LG Rb rfl) (qV (OL rfl rfl) (Lq (An rfl ?_)))))))));rcases Nat.eq_zero_or_pos j with Hd|Hd
     ·refine An rfl (qV (LH rfl rfl) (Lq (An rfl (qS (qS (qS (qS (qS (qS (qS (qV (Lk rfl rfl) (qV (Lk rfl rfl) (py ?_)))))))))))));refine Kx rfl (It (KC (KF rfl (Lz rfl rfl (An rfl (py ?_))))));exact(ih2 (j+1) _ ⟨rfl,by omega⟩ (by omega)).qb
     ·obtain⟨z,hz⟩:∃z,l[j-1]? =some z:=⟨_,List.getElem?_eq_getElem (by omega)⟩
      have JS:z<y:=by
       obtain⟨a1,a2⟩:=List.getElem?_eq_some_iff.1 hz;obtain⟨b1,b2⟩:=List.getElem?_eq_some_iff.1 hy;have:=List.pairwise_iff_getElem.1 (hg.ok l gL).Vw (j-1) j a1 b1 (by omega)
       rwa [a2,b2] at this
      refine An rfl (qV (LH rfl rfl) (MC (An rfl (An rfl (An rfl (An rfl (qV (M8 rfl rfl (by omega)) ?_)))))));rw[show(j:Int)-1=((j-1:Nat):Int) by omega];refine qV (Lt L9 KY rfl rfl (by omega)) (qV (Lb Mg rfl rfl (LN e3 (show(l.map Lg)[j-1]? =some (Lg z) by rw[List.getElem?_map,hz];rfl))) ?_);refine qV (Qh rfl rfl) (Lq (qV (LK rfl rfl) (qV (Lk rfl rfl) (py (Kx rfl (It (KC (KF rfl (Lz rfl rfl (An rfl (py ?_)))))))))));exact(ih2 (j+1) _ ⟨rfl,by omega⟩ (by omega)).qb
    ·refine KO rfl (KC (KF rfl (Lz rfl rfl (An rfl (py ?_)))));exact(ih (i+1) _ ⟨rfl,by omega⟩ (by omega)).qb
  ·refine KO rfl (qN rfl (An rfl (qV (LG Rb rfl) (qV (Qh rfl rfl) (MC (An rfl (An rfl (qV (Qh rfl rfl) (MC (qV (LK rfl rfl) (KE rfl (py (KG Tryz.func97 rfl ?_)))))))))))));exact⟨_,rfl,rfl,rfl⟩
/-! ### How many bits -/
theorem RO.Xi {k:Nat}{q:Cd×Nat}(h:RO k q)(hk:1≤k∧k≤16):(q.1.enc q.2).length≤112:=by
 obtain⟨h1,h2⟩:=h.LS hk
 obtain⟨-,q2,-⟩:=R8 h1 h2
 rw[Rh]
 rcases h with⟨e,h⟩|⟨e,h⟩|⟨e,h⟩
 ·rw[e] at q2⊢;show q.2+1+_≤_;omega
 ·have:=(Ql (v:=q.2) (by omega)).2.2;rw[e] at q2⊢;show Nat.log2 (q.2+1)+1+_≤_;omega
 ·have h3:=(Ql (v:=q.2) (by omega)).2.2;have h4:Nat.log2 (q.2+1) / k≤Nat.log2 (q.2+1):=Nat.div_le_self _ _;rw[e] at q2⊢;show Nat.log2 (q.2+1) / k+1+_≤_;omega
theorem Wn {n:Nat}{L:List (Cd×Nat)}(h:∀q∈L,(q.1.enc q.2).length≤n):(L3 L).length≤L.length*n:=by
 induction L with
 |nil=>simp[L3]
 | cons q L ih =>
   have h1:=ih (fun q hq=>h q (List.mem_cons_of_mem _ hq));have h2:=h q List.mem_cons_self;rw[Lx,List.length_append,List.length_cons,Nat.add_mul];omega
theorem Ww (least:Nat){l:List Nat}(h:Lj l):(rowsN least l).1.length≤l.length:=by
 have h1:=(Ot least l).length_eq
 rw[List.length_append] at h1
 have h4:∀(R:List (Nat×Nat)) (lo:Nat),NI least lo R→R.length≤(Me R).length:=by
  intro R
  induction R with
  |nil=>intro lo h;exact Nat.le_refl _
  | cons q R ih =>
    intro lo h;have h5:=ih _ h.2.2.2;have h6:1≤q.2:=h.2.1;rw[show Me (q::R)=(List.range q.2).map (q.1+·)++Me R from rfl,List.length_append,List.length_map,List.length_range,List.length_cons];omega
 have h5:=h4 _ 0 (PF least l 0 h.Vw (fun y _=>Nat.zero_le _))
 omega
theorem Tu {p:MX}(hp:p.LS){x:Nat}(hx:x<65536){succ ref:List Nat}(hs:Lj succ)(hr:Lj ref){r:Nat}(iz:r≤p.L6)(He:succ.length≤60)(yh:ref.length≤60):(L3 (My p x succ ref r)).length≤44800:=by
 have aw:Lj (leftOf succ ref):=hs.sub List.filter_sublist
 have eM:(leftOf succ ref).length≤succ.length:=List.length_filter_le _ _
 have h1:=(NT succ ref).Vy
 rw[List.length_map] at h1
 have h2:=Ww p.interval aw
 have h3:=(Pa p.interval (leftOf succ ref)).length_le
 have aD:(My p x succ ref r).length≤400:=by
  unfold My;rw[List.length_cons];split
  ·simp
  rw[List.length_append,List.length_append];have e1:(if 0<p.L6 then [(Cd.unary,r)] else []).length≤1:=by split<;>simp
  have e2:(if 0<r then(Cd.gamma,(Mm succ ref).length-1)::runNums 0 (Mm succ ref).dropLast else []).length≤62:=by
   split
   ·rw[List.length_cons,NQ,List.length_dropLast];omega
   ·simp
  have e3:(if leftOf succ ref=[] then [] else(if 0<p.interval then(Cd.gamma,(rowsN p.interval (leftOf succ ref)).1.length)::longNums x p.interval none (rowsN p.interval (leftOf succ ref)).1 else [])++restNums x p.zeta none (rowsN p.interval (leftOf succ ref)).2).length≤200:=by
   split
   ·simp
   ·rw[List.length_append,NZ];split
    ·rw[List.length_cons,Nk];omega
    ·simp;omega
  omega
 have:=Wn (n:=112) (L:=My p x succ ref r) (fun q hq=>(Us hp hx hs hr iz q hq).Xi ⟨hp.2.2.1,hp.2.2.2⟩)
 omega
/-! ### All bits -/
def S2 (p:LJ)(g:List (List Nat))(E:List (Nat×Nat))(i:Nat):List Bool:=
 L3 (My p.list i ((g[i]?).getD []) (M0 g i ((E[i]?).getD (0,0)).1) ((E[i]?).getD (0,0)).1)
def LY (p:LJ)(g:List (List Nat))(E:List (Nat×Nat))(n:Nat):List Bool:=(List.range n).flatMap (S2 p g E)
theorem NM (p:LJ)(g:List (List Nat))(E:List (Nat×Nat))(n:Nat):LY p g E (n+1)=LY p g E n++S2 p g E n:=by
 unfold LY
 rw[List.range_succ,List.flatMap_append];simp
theorem Vs (p:LJ)(g:List (List Nat))(E:List (Nat×Nat))(e:Nat×Nat):∀n,n≤E.length→LY p g (E++[e]) n=LY p g E n
 |0,_=>rfl
 | n + 1, h => by
   rw[NM,NM,Vs p g E e n (by omega)]
   congr 1
   unfold S2;rw[List.getElem?_append_left (by omega)]
structure z7h (p:LJ)(g:List (List Nat))(E:List (Nat×Nat)):Prop where
 ent:∀i e,E[i]? =some e→Ue p g E i ((g[i]?).getD []).length e
theorem Ue.mono {p:LJ}{L L':List (List Nat)}{E E':List (Nat×Nat)}{n size:Nat}{e:Nat×Nat}(h:Ue p L E n size e)(hL:∀(j:Nat) (l:List Nat),L[j]? =some l→L'[j]? =some l)(hE:∀(j:Nat) (l:Nat×Nat),E[j]? =some l→E'[j]? =some l):Ue p L' E' n size e:=by
 rcases h with h|⟨h1,h2,h3,l,e',h4,h5,h6,h7⟩
 ·exact .inl h
 ·exact .inr ⟨h1,h2,h3,l,e',hL _ _ h4,hE _ _ h5,h6,h7⟩
theorem Sl.typed {w:World}{v:Value}{T:TypeId}{k n g:Nat}{cs:List Value}(h:Sl w v T k n cs)(hg:v.ownBlock=some g):∃cur,w.heap[g]? =some (.cells cur T (0,0)):=by
 rcases h.2 with⟨hz,-⟩|⟨g1,cap1,cur,hv,-,aP,-⟩
 ·rw[hz] at hg;cases hg
 ·rw[hv] at hg;have e:g1=g:=MA hg;exact⟨cur,e▸aP⟩
theorem Zx.kpT {w w':World}{k:Nat}{p:LJ}{L:List (List Nat)}{E:List (Nat×Nat)}{bs:List Bool}{F:Nat→Prop}{R:List (Value×Nat)}{wp ed:Nat}(h:Zx w k p L E bs F R wp ed){v:Value}{T:TypeId}{sz n:Nat}{cs:List Value}(hT:T≠46)(hv:Sl w v T sz n cs)(hk:Kp (fun i=>v.ownBlock=some i) w w')(n1:v.ownBlock≠some k)(n2:∀i,F i→v.ownBlock≠some i):Zx w' k p L E bs F R wp ed:=
 ⟨hk.KD h.KD n1,h.len,h.wr.kp hk n2,h.nk,h.el,h.ok,fun j l e h1 h2 h3=>by
  obtain⟨a,cp,g1,g2,g3,g4⟩:=h.ring j l e h1 h2 h3;refine⟨a,cp,g1,g2,g3.kp hk (fun g hg e=>?_),g4⟩;obtain⟨c1,f1⟩:=g3.typed hg;obtain⟨c2,f2⟩:=hv.typed e;rw[f1] at f2
  injection f2 with f3
  injection f3 with f4 f5
  exact hT f5.symm⟩
def QG (p:LJ)(g:List (List Nat))(E:List (Nat×Nat))(n:Nat):List Nat:=(List.range (n+1)).map fun j=>(LY p g E j).length
theorem z6e (p:LJ)(g:List (List Nat))(E:List (Nat×Nat))(e:Nat×Nat)(n:Nat)(h:n≤E.length):QG p g (E++[e]) n=QG p g E n:=by
 unfold QG
 refine List.map_congr_left fun j hj=>?_
 rw[Vs p g E e j (by have:=List.mem_range.1 hj;omega)]
theorem z4o (p:LJ)(g:List (List Nat))(E:List (Nat×Nat))(n:Nat):QG p g E (n+1)=QG p g E n++[(LY p g E (n+1)).length]:=by
 unfold QG
 rw[List.range_succ,List.map_append];rfl
theorem XM (p:LJ)(g:List (List Nat))(E:List (Nat×Nat))(n:Nat):(QG p g E n).length=n+1:=by simp[QG]
theorem getD_take {α:Type}{l:List α}{i j:Nat}(h:j<i):(l.take i)[j]? =l[j]? :=by rw[List.getElem?_take,if_pos h]
theorem RA (L:List (List Nat))(n r:Nat):M0 L n r=[]∨M0 L n r∈L:=by
 unfold M0
 split
 ·exact .inl rfl
 ·cases h:L[n-r]? with
  |none=>exact .inl rfl
  |some l=>exact .inr (List.mem_of_getElem? h)
theorem ZO {L:List (List Nat)}{n r:Nat}(h:r≤n):M0 (L.take n) n r=M0 L n r:=by
 unfold M0
 by_cases e:r=0
 ·rw[if_pos e,if_pos e]
 ·rw[if_neg e,if_neg e,getD_take (by omega)]
structure EnI (w:World)(p:LJ)(g:List (List Nat))(k wp:Nat)(i:Nat)(E:List (Nat×Nat))(v:Value)(w':World):Prop where
 pk:∃F R,Zx w' k p (g.take i) E (LY p g E i) F R wp (LR (g.take i))∧(∀j,F j→w.heap.size≤j)∧∀j,F j→v.ownBlock≠some j
 ext:Ext w w'
 nk:w.heap.size≤k
 sl:Sl w' v 41 1 (QG p g E i).length ((QG p g E i).map KV)
 fr:∀b,v.ownBlock=some b→w.heap.size≤b
 vk:v.ownBlock≠some k
 ent:∀j e,E[j]? =some e→Ue p g E j ((g[j]?).getD []).length e
 bd:(LY p g E i).length≤i*44800
theorem z2I {w:World}{p:LJ}(hp:p.LS){g:List (List Nat)}(hg:N1 g){ga:Option Addr}{gc:Nat}(lN:GrM w (.slice ga g.length gc) g)(hG:KP w 1 (Nu .gamma) 298)(hU:KP w 2 (Nu .unary) 298):
  Le Tryz.prog 67 [.slice ga g.length gc,bpV p] w fun u w'=>∃E v,u= .tuple #[S (L7 (LY p g E g.length)),v,I 0]∧E.length=g.length∧z7h p g E∧(LY p g E g.length).length≤2688000∧Sl w' v 41 1 (g.length+1) ((QG p g E g.length).map KV)∧(∀b,v.ownBlock=some b→w.heap.size≤b)∧Ext w w':=by
 have hn:=hg.n
 refine KA (e:=[(0,_),(1,_)]) Tryz.func67 rfl Tryz.ntmps67 rfl rfl (qN rfl (KL rfl rfl (Mz rfl (cs:=PO p) rfl) ?_))
 rintro _ w1 ⟨b3,rfl,eL,ad,ar⟩
 have z1:=ad.size
 refine KE rfl (KE rfl (KE rfl (qM rfl (qV (La (news:=PO p) Vq rfl ME rfl (ar.cells (n:=5) rfl) rfl) (L2 [.tmp 17] zch rfl (z2Q p hp w1) ?_)))))
 rintro _ w2 ⟨k,wp,F,rfl,tA,hW,Hf,af,aN,nI⟩
 have z2:=af.size
 have aL:=ad.trans af
 refine An rfl (qV (Ll (v:=ptr k 0) rfl rfl) (qV (Ll (v:=I 0) rfl rfl) (KE rfl (KE rfl (py (run_seq (qN rfl (An rfl (qV (LQ rfl rfl) (An rfl (An rfl (L2 [.tmp 24] zd4 rfl (Z1 (lN.ext aL) hg) ?_))))))))))))
 rintro _ w2 ⟨rfl,rfl⟩
 refine qV ((by first|exact LP rfl|exact Nq rfl)) ?_
 refine qV (Lk rfl rfl) (py (Kx rfl (It (qN rfl (KL rfl rfl (Tb (parts:=[(0,.const (Value.int .u64 0))]) (cs:=[_]) (zs:=[Value.int .u64 0]) Uo Nf rfl (by kernel_rfl) rfl rfl rfl (by decide)) ?_)))))
 rintro _ w3 ⟨b28,rfl,⟨Hg,ah,uY⟩,Bo⟩
 have z3:=ah.size
 have lk:=tA.lt
 have yG:Zx w3 k p (g.take 0) [] (LY p g [] 0) F z1u wp (LR (g.take 0)):=⟨ah.KD tA,List.length_replicate,hW.ext ah,Hf,rfl,(fun l hl=>by simp at hl),fun j l e h1=>by simp at h1⟩
 refine KE rfl (py (run_seq (qN rfl (An rfl (qV (LG Rb rfl) (An rfl (py (Lc.qb (e:=[(4,_),(5,_),(6,_),(7,_),(8,_),(9,_),(29,_),(30,_),(31,_)]) ?_))))))))
 refine KB (MQ (α:=Nat×List (Nat×Nat)×Value) ((0,[],.slice (some ⟨b28,0,none⟩) 1 1)) (fun y=>[(7,ptr k 0),(9,y.2.2),(29,.slice ga g.length gc),(30,I (g.length:Int)),(31,I (y.1:Int))]) (fun y w'=>EnI w p g k wp y.1 y.2.1 y.2.2 w'∧y.1≤g.length) (fun y=>g.length-y.1) ?hI ?hround)
 case hI=>exact⟨⟨⟨F,z1u,yG,fun j hj=>by have:=nI j hj;omega,fun j hj e=>by have e1:b28=j:=MA e;have:=hW.lt hj;omega⟩,aL.trans ah,by omega,Bo,fun b hb=>by have e1:b28=b:=MA hb;omega,fun e=>by have e1:b28=k:=MA e;omega,fun j e h=>by simp at h,Nat.zero_le _⟩,Nat.zero_le _⟩
 case hround =>
  rintro⟨i,E,v⟩ w4 ⟨hI,hi⟩ ih;dsimp only at hI hi;obtain⟨F,R,hP,hF,EG⟩:=hI.pk;have uL:=hI.bd;have aQ:=XM p g E i;have pS:=hP.el;rw[List.length_take,Nat.min_eq_left hi] at pS;obtain⟨va,vc,rfl,-⟩:=hI.sl.rd.shape
  try dsimp only
  refine qN rfl (qV (LW rfl rfl) (py (run_seq (KQ rfl (fun h0=>?_) (fun h0=>?_)))))
  ·have de:i<g.length:=by omega
   obtain⟨l,hl⟩:∃l,g[i]? =some l:=⟨_,List.getElem?_eq_getElem de⟩;have gL:=List.mem_of_getElem? hl;have eM:=hg.len gL;have hs:=hg.ok l gL;obtain⟨vs,Bp,jS⟩:=lN.ex;obtain⟨a,c,e1,e2,e3w⟩:=jS i l hl;have eT:=Bp.ext hI.ext;have e3:=e3w.ext hI.ext
   obtain⟨gb,go,gc',e4⟩:∃b o c',Value.slice ga g.length gc= .slice (some ⟨b,o,none⟩) g.length c':=by
    rcases eT.2 with⟨c,hc,h0⟩|⟨b,off,c',hc,-⟩
    ·omega
    ·exact⟨b,off,c',hc⟩
   cases e4;have oB:(g.take i).length=i:=by rw[List.length_take];omega
   have rP:=OH hg i;refine It (run_seq (KB (qN rfl (qV (Lt Rb OC rfl rfl (by omega)) (qV (Lb L9 rfl rfl (LN eT e1)) ?_)))))
   have mD:∀r,r≤p.L6→(LY p g E i).length+(L3 (My p.list (g.take i).length l (M0 (g.take i) (g.take i).length r) r)).length≤134217728:=fun r hr=>by
    have h2:Lj (M0 (g.take i) (g.take i).length r)∧(M0 (g.take i) (g.take i).length r).length≤60:=by
     rcases RA (g.take i) (g.take i).length r with e| e
     ·rw[e];exact⟨⟨List.Pairwise.nil,fun y h=>(by cases h)⟩,Nat.zero_le _⟩
     ·exact⟨hg.ok _ (List.mem_of_mem_take e),by have:=hg.len (List.mem_of_mem_take e);omega⟩
    have h3:=Tu hp.1 (x:=(g.take i).length) (by omega) hs h2.1 (show r≤p.list.L6 from hr) (by omega) h2.2;omega
   have t8:=hI.sl;have ux:∀b,(Value.slice va (QG p g E i).length vc).ownBlock=some b→b<w4.heap.size:=fun b hb=>t8.lt hb;refine KE rfl (py (run_seq (qN rfl (An rfl (An rfl (L2 [.tmp 36,.tmp 37] zcH rfl (z3H hp hP (hI.ext.KD hG) (hI.ext.KD hU) (by omega) hs e2 e3 (by omega) (fun b h0 hb=>by have h1:=e3w.ltz (by decide) h0 hb;have:=hI.nk;exact⟨fun e=>by have:=hF b e;omega,by omega⟩) mD) ?_))))));rintro _ w5 ⟨r,least,ch,F',R',rfl,gq,gB,aj,tB⟩;have lk4:=hP.KD.lt;have z5:=aj.size;have aR:Ext w w5:=hI.ext.Kz aj (fun j hj=>by rcases hj with e|e;exact hF j e;(have:=hI.nk;omega));have Hh:(E++[(r,ch)]).length=i+1:=by rw[List.length_append,pS];rfl
   have rQ:r≤i:=by
    rcases gq with e|⟨-,-,h3,-⟩
    ·have:r=0:=(Prod.mk.inj e).1;omega
    ·rw[oB] at h3;exact h3
   have rR:(E++[(r,ch)])[i]? =some (r,ch):=by rw[List.getElem?_append_right (by omega),pS,Nat.sub_self];rfl
   have oP:S2 p g (E++[(r,ch)]) i=L3 (My p.list (g.take i).length l (M0 (g.take i) (g.take i).length r) r):=by
    unfold S2;rw[rR,hl,oB,ZO rQ];rfl
   have iE:LY p g (E++[(r,ch)]) (i+1)=LY p g E i++L3 (My p.list (g.take i).length l (M0 (g.take i) (g.take i).length r) r):=by
    rw[NM,Vs p g E _ i (by omega),oP]
   have Bq:(LY p g (E++[(r,ch)]) (i+1)).length≤(i+1)*44800:=by
    have h2:Lj (M0 (g.take i) (g.take i).length r)∧(M0 (g.take i) (g.take i).length r).length≤60:=by
     rcases RA (g.take i) (g.take i).length r with e| e
     ·rw[e];exact⟨⟨List.Pairwise.nil,fun y h=>(by cases h)⟩,Nat.zero_le _⟩
     ·exact⟨hg.ok _ (List.mem_of_mem_take e),by have:=hg.len (List.mem_of_mem_take e);omega⟩
    have iz:r≤p.list.L6:=by
     rcases gq with e|⟨-,h3,-⟩
     ·have:r=0:=(Prod.mk.inj e).1;omega
     ·exact h3
    have h3:=Tu hp.1 (x:=(g.take i).length) (by omega) hs h2.1 iz (by omega) h2.2;rw[iE,List.length_append];omega
   rw[←iE,←Ls hl,←RW,←Ls hl] at gB;have gI:(LY p g (E++[(r,ch)]) (i+1)).length≤9223372036854775:=by omega
   refine An rfl (qV (Ll rfl rfl) (qV (Ll rfl rfl) (qV (Ll (v:=I 0) rfl rfl) (KE rfl (KE rfl (KE rfl (qM rfl (An rfl (qV (LQ rfl rfl) (py (Kx rfl (It (KF rfl ?_)))))))))))));refine An rfl (An rfl (L2 [.tmp 46] zdp rfl (z04 gB gI) ?_));rintro _ w6 ⟨rfl,aK⟩;refine qV ((by first|exact Lw rfl U3 M3 (by omega)|exact MI rfl U3 M3)) ?_;refine KL rfl rfl (Tb (parts:=[(0,.tmp 48)]) (cs:=[_]) (zs:=[Value.int .u64 0]) Uo Nf rfl (by kernel_rfl) rfl rfl rfl (by decide)) ?_;rintro _ w7 ⟨b49,rfl,⟨Hi,bL,bH⟩,Br⟩;have fK:=aK.trans bL;have z67:=fK.size;have mC:∀j,F' j→j<w5.heap.size:=fun j hj=>gB.wr.lt hj;have Ep:=t8.kp aj (fun b hb e=>by rcases e with e|e;exact EG b e hb;exact hI.vk (e▸hb));have yH:=Ep.ext fK
   have uZ:∀j,F' j→(Value.slice va (QG p g E i).length vc).ownBlock≠some j:=fun j hj e=>by
    rcases tB j hj with e1|e1
    ·exact EG j e1 e
    ·have:=ux j e;omega
   refine KL rfl rfl (pap Uo Nf rfl (by decide) rfl rfl yH Br.rd (by intro c hc;simp at hc;subst hc;rfl) (by omega) (by simp only[maxLen];omega)) ?_;rintro v8 w8 ⟨er,bj,jR,-⟩;have nS:=(gB.ext fK).kpT (T:=41) (by decide) yH bj hI.vk uZ;have mG:∀b,v8.ownBlock=some b→(Value.slice va (QG p g E i).length vc).ownBlock=some b∨w5.heap.size≤b:=fun b hb=>(jR b hb).imp id (fun e=>by omega);refine KE rfl (py (KC (KF rfl (Lz rfl rfl (An rfl (py ((ih (i+1,E++[(r,ch)],v8) _ ⟨⟨⟨F',R',nS,fun j hj=>?_,fun j hj e=>?_⟩,(aR.trans fK).Kz bj (fun j hj=>hI.fr j hj),hI.nk,?_,fun b hb=>?_,fun e=>?_,fun j e hj=>?_,Bq⟩,de⟩ (by dsimp only;omega)).qb)))))))
   ·rcases tB j hj with e| e
    ·exact hF j e
    ·have:=hI.ext.size;omega
   ·rcases mG j e with e1|e1
    ·exact uZ j hj e1
    ·have:=mC j hj;omega
   ·rw[z4o,z6e p g E _ i (by omega),List.length_append,List.map_append];exact er
   ·rcases mG b hb with e1|e1
    ·exact hI.fr b e1
    ·have:=aR.size;omega
   ·rcases mG k e with e1|e1
    ·exact hI.vk e1
    ·omega
   ·rcases Nat.lt_or_ge j i with tC|tC
    ·rw[List.getElem?_append_left (by omega)] at hj;exact(hI.ent j e hj).mono (fun _ _ h=>h) (fun j' l' h=>by rw[List.getElem?_append_left (List.getElem?_eq_some_iff.1 h).1];exact h)
    ·have B7:=(List.getElem?_eq_some_iff.1 hj).1;rw[Hh] at B7;have ej:j=i:=by omega
     subst ej;rw[rR] at hj;cases hj;rw[hl];rw[oB] at gq
     exact gq.mono (fun j' l' h=>by
      have:=(List.getElem?_eq_some_iff.1 h).1;rw[oB] at this
      rwa [getD_take this] at h) (fun j' l' h=>by rw[List.getElem?_append_left (List.getElem?_eq_some_iff.1 h).1];exact h)
  ·have cL:i=g.length:=by omega
   subst cL;refine KO rfl (qN rfl (An rfl (L2 [.tmp 53] za2 rfl (z0g hP) ?_)));rintro _ w5 ⟨rfl,rfl⟩;refine An rfl (qV (Ll rfl rfl) (qV (Ll rfl rfl) (KE rfl (KE rfl (qM rfl (An rfl (An rfl (An rfl (KE rfl (KE rfl (KE rfl (py (KG Tryz.func67 rfl ?_)))))))))))));have gl:=hI.sl;rw[aQ] at gl;exact⟨_,rfl,E,_,rfl,pS,⟨hI.ent⟩,by omega,by rw[aQ];exact gl,hI.fr,hI.ext⟩
structure Fm where
 n:Nat
 u:Nat
 width:Nat
 bits:Nat
def fmC (f:Fm):List Value:=[I (f.n:Int),KV f.u,I (f.width:Int),I (f.bits:Int)]
abbrev fmV (f:Fm):Value:= .agg (fmC f).toArray
def Sg (n u:Nat):Nat:=if u / n=0 then 0 else Lr (u / n)-1
def OG (n u:Nat):Fm:=⟨n,u,Sg n u,(u-1) / 2^Sg n u+n⟩
def Fm.high (f:Fm):Nat:=12+(f.n*f.width+7) / 8
def Fm.Pv (f:Fm):Nat:=f.high+(f.bits+7) / 8
def Fm.size (f:Fm):Nat:=f.Pv+4*((f.n+63) / 64)
theorem Ts {n u:Nat}(hu:u≤1000000000):Sg n u≤30:=by
 unfold Sg
 split
 ·omega
 ·have h1:u / n≤u:=Nat.div_le_self _ _;have h2:Lr (u / n)≤30:=Mj (by omega);omega
theorem VU {n u:Nat}(hn:1≤n)(hu:1≤u):(u-1) / 2^Sg n u<2*n:=by
 have h2:0<2^Sg n u:=Nat.two_pow_pos _
 rw[Nat.div_lt_iff_lt_mul h2]
 unfold Sg
 split
 ·rename_i h
  have:u<n:=by
   rcases Nat.lt_or_ge u n with h1|h1
   ·exact h1
   ·have:=Nat.div_pos h1 (by omega);omega
  simp;omega
 ·rename_i h
  have h3:u / n<2^Lr (u / n):=Ry;have h4:Lr (u / n)≠0:=fun e=>by rw[e,Nat.pow_zero] at h3;exact h (Nat.lt_one_iff.1 h3)
  obtain⟨k,hk⟩:∃k,Lr (u / n)=k+1:=⟨Lr (u / n)-1,by omega⟩;rw[hk] at h3⊢;rw[Nat.add_sub_cancel]
  have h5:u<n*2^(k+1):=by
   have:=(Nat.div_lt_iff_lt_mul (show 0<n by omega)).1 h3
   rwa [Nat.mul_comm] at this
  rw[Nat.pow_succ] at h5;have e:n*(2^k*2)=2*n*2^k:=by rw[Nat.mul_comm (2^k) 2,←Nat.mul_assoc,Nat.mul_comm n 2]
  omega
theorem z2S {n u:Nat}(hn:1≤n)(hu:1≤u):(OG n u).bits≤3*n:=by
 have:=VU hn hu
 show(u-1) / 2^Sg n u+n≤_
 omega
theorem Sd (n u:Nat)(hn:1≤n)(iX:n≤1000)(hu:1≤u)(lF:u≤1000000000)(w:World):Le Tryz.prog 106 [I (n:Int),KV u] w fun v w'=>v=fmV (OG n u)∧Ext w w':=by
 have tD:=Ts (n:=n) lF
 have g8:=VU hn hu
 have hq:u / n≤u:=Nat.div_le_self _ _
 obtain⟨q,rS⟩:∃q,u / n=q:=⟨_,rfl⟩
 have EH:Sg n u=if q=0 then 0 else Lr q-1:=by rw[Sg,rS]
 rw[rS] at hq
 have Bs:Lr q≤30:=Mj (by omega)
 refine KA (e:=[(0,_),(1,_)]) Tryz.func106 rfl Tryz.ntmps106 rfl rfl (qN rfl (KL rfl rfl (MN (cs:=[_,_,_,_]) O9 rfl) ?_))
 rintro _ w1 ⟨b4,rfl,gA,ad,aI⟩
 refine qM rfl (An rfl (An rfl (qV (Nc (parts:=[(0,.tmp 7),(1,.tmp 8)]) (cs:=[_,_,_,_]) O9 rfl zaG rfl rfl) (KL rfl rfl (MN (cs:=[_,_,_,_]) O9 rfl) ?_))))
 rintro _ w2 ⟨b5,rfl,gI,af,aG⟩
 have z1:=ad.size
 have z2:=af.size
 have l4:=aI.lt
 have l5:=aG.lt
 refine KR rfl (Lo (news:=[I (n:Int),KV u,I 0,I 0]) O9 rfl rfl rfl rfl aG (by simp)) ?_
 rintro w3 ⟨hC,ax⟩
 replace hC:KP w3 b5 [I (n:Int),KV u,I 0,I 0] 210:=hC
 have dI:Ext w w3:=(ad.trans af).Kz ax (fun i e=>by omega)
 have dy:=ax.KD (af.KD aI) (by omega)
 have z3:=ax.size
 refine py (run_seq (qN rfl (An rfl (qV (Mc rfl rfl) (Lq (py (Kx rfl (It (run_seq (qN rfl (An rfl (An rfl (qV ((by first|exact Lw rfl U3 M3 (by omega)|exact MI rfl U3 M3)) ?_)))))))))))))
 refine qV (zbq (m:=u) (n:=n) rfl rfl rfl (by show u<2^64;omega) (by omega)) ?_
 rw[rS]
 refine KE rfl (qM rfl (An rfl (qV (LH rfl rfl) (py (Lp (fun e' w'=>e'=[(0,I (n:Int)),(1,KV u),(4,ptr b4 0),(5,ptr b5 0)]∧Ext w w'∧KP w' b5 [I (n:Int),KV u,I (Sg n u:Int),I 0] 210∧KP w' b4 [I 0,KV 0,I 0,I 0] 210) ?cD (fun cD=>?cQ))))))
 case cD=>
  rintro e' w4 ⟨rfl,aB,gm,cg⟩;refine qN rfl (An rfl (qV (QV (m:=u) (n:=1) rfl rfl rfl (by show u<2^64;omega) (by omega)) ?_));refine qV (KK Oc rfl) (qV (KJ U3 rfl rfl gm rfl) (qV (Ps (Sg n u) (2^Sg n u) rfl rfl (by show Sg n u≤64;omega) rfl) ?_))
  generalize Hj:(u-1) / 2^Sg n u=qb at g8
  refine qV (Ln rfl M3 U3 (by omega)) (An rfl (Lz rfl rfl (qV (KK SF rfl) (KR rfl (Mn LC rfl rfl rfl gm (by simp)) ?_))));rintro w5 ⟨rT,aj⟩;replace rT:KP w5 b5 [I (n:Int),KV u,I (Sg n u:Int),I ((qb+n:Nat):Int)] 210:=rT;refine qM rfl (qV (La Yt rfl O9 rfl (KP.cells (n:=4) rT (news:=[_,_,_,_]) rfl) rfl) (KR rfl (Lo (news:=[I (n:Int),KV u,I (Sg n u:Int),I ((qb+n:Nat):Int)]) O9 rfl rfl rfl rfl (aj.KD cg (by omega)) (by simp)) ?_));rintro w6 ⟨bI,aS⟩;replace bI:KP w6 b4 [I (n:Int),KV u,I (Sg n u:Int),I ((qb+n:Nat):Int)] 210:=bI;refine py (L8 Tryz.func106 (.cell Yt rfl O9 rfl (KP.cells (n:=4) bI (news:=[_,_,_,_]) rfl) rfl .nil) (⟨_,rfl,?_,(aB.Kz aj (fun i e=>by omega)).Kz aS (fun i e=>by omega)⟩));unfold fmV fmC OG;rw[Hj]
  rfl
 case cQ=>
  refine KQ rfl (fun h0=>?_) (fun h0=>?_)
  ·refine KF rfl (An rfl (L2 [.tmp 19] Wx rfl (P3 q (by omega) _) ?_));rintro _ w3 ⟨rfl,rfl⟩;have rh:Lr q≠0:=fun e=>by have:=Ry (v:=q);rw[e] at this;omega
   refine qV (M8 rfl rfl (by omega)) ?_;rw[show(Lr q:Int)-1=(Sg n u:Int) by rw[EH,if_neg (by omega)];omega];refine qV (KK Oc rfl) (KR rfl (Mn LC rfl rfl rfl hC (by simp)) ?_);rintro w4 ⟨gm,av⟩;replace gm:KP w4 b5 [I (n:Int),KV u,I (Sg n u:Int),I 0] 210:=gm;refine py ?_;exact(cD _ _ ⟨rfl,dI.Kz av (fun i e=>by omega),gm,av.KD dy (by omega)⟩).qb
  ·have mb:Sg n u=0:=by rw[EH,if_pos (by omega)]
   refine It ?_;exact(cD _ _ ⟨rfl,dI,by rw[mb];exact hC,dy⟩).qb
def Fm.small (f:Fm):Prop:=f.n≤100000∧f.width≤64∧f.bits≤1000000
theorem Zs (f:Fm)(hf:f.small)(w:World):Le Tryz.prog 202 [fmV f] w fun v w'=>v=I (f.high:Int)∧Ext w w':=by
 obtain⟨h1,h2,h3⟩:=hf
 have hm:f.n*f.width≤100000*64:=Nat.mul_le_mul h1 h2
 refine KA (e:=[(0,_)]) Tryz.func202 rfl Tryz.ntmps202 rfl rfl (qN rfl (KL rfl rfl (Mz rfl (cs:=fmC f) rfl) ?_))
 rintro _ w1 ⟨b1,rfl,bT,ad,ai⟩
 replace ai:KP w1 b1 [I (f.n:Int),KV f.u,I (f.width:Int),I (f.bits:Int)] 210:=ai
 refine KE rfl (qM rfl (qV (KK SQ rfl) (qV (KJ U3 rfl rfl ai rfl) (qV (KK Oc rfl) (qV (KJ U3 rfl rfl ai rfl) ?_)))))
 have pD:((f.n*f.width:Nat):Int)=(f.n:Int)*(f.width:Int):=Int.natCast_mul _ _
 refine qV (SD rfl rfl (by rw[←pD];omega)) ?_
 rw[←pD]
 refine Lz rfl rfl (qV (Ra rfl rfl (by omega)) (Lz rfl rfl (KE rfl (py (KG Tryz.func202 rfl (⟨_,rfl,?_,ad⟩))))))
 show I (12+(((f.n*f.width:Nat):Int)+7) / 8)=I ((12+(f.n*f.width+7) / 8:Nat):Int)
 congr 1
theorem Fm.Ro {f:Fm}(hf:f.small):f.high≤10000000:=by
 obtain⟨h1,h2,h3⟩:=hf
 have hm:f.n*f.width≤100000*64:=Nat.mul_le_mul h1 h2
 unfold Fm.high
 omega
theorem Z7 (f:Fm)(hf:f.small)(w:World):Le Tryz.prog 181 [fmV f] w fun v w'=>v=I (f.Pv:Int)∧Ext w w':=by
 have nT:=Fm.Ro hf
 obtain⟨h1,h2,h3⟩:=id hf
 refine KA (e:=[(0,_)]) Tryz.func181 rfl Tryz.ntmps181 rfl rfl (qN rfl (KL rfl rfl (Mz rfl (cs:=fmC f) rfl) ?_))
 rintro _ w1 ⟨b1,rfl,bT,ad,ai⟩
 replace ai:KP w1 b1 [I (f.n:Int),KV f.u,I (f.width:Int),I (f.bits:Int)] 210:=ai
 have hg:=Ext.L4 w1
 refine KE rfl (py (run_seq (KN (fun w'=>Ext w1 w') (by kernel_rfl) rfl (qT 0 rfl (fun _ h=>La Yt rfl O9 rfl (KP.cells (n:=4) (h.KD ai) (news:=[_,_,_,_]) rfl) rfl) hg (KH 2 rfl (KK SF rfl) hg (qT 3 rfl (fun _ h=>KJ U3 rfl rfl (h.KD ai) rfl) hg (KH 4 rfl (PW rfl rfl (by omega)) hg (KH 5 rfl (Ra rfl rfl (by omega)) hg (OJ 1 [.tmp 3] rfl z7p rfl (Zs f hf _) ?_)))))))))
 rintro _ w2 ⟨rfl,af⟩
 refine⟨hg.trans af,?_⟩
 refine KH 6 rfl (PW rfl rfl (by omega)) (hg.trans af) (KH 7 rfl (ML rfl) (hg.trans af) (qE (KG Tryz.func181 rfl (⟨_,rfl,?_,(ad.trans hg).trans af⟩))))
 show I ((f.high:Int)+((f.bits:Int)+7) / 8)=I ((f.high+(f.bits+7) / 8:Nat):Int)
 congr 1
theorem WC (f:Fm)(hf:f.small)(w:World):Le Tryz.prog 150 [fmV f] w fun v w'=>v=I (f.size:Int)∧Ext w w':=by
 have nT:=Fm.Ro hf
 obtain⟨h1,h2,h3⟩:=id hf
 have gl:f.Pv≤20000000:=by unfold Fm.Pv;omega
 refine KA (e:=[(0,_)]) Tryz.func150 rfl Tryz.ntmps150 rfl rfl (qN rfl (KL rfl rfl (Mz rfl (cs:=fmC f) rfl) ?_))
 rintro _ w1 ⟨b1,rfl,bT,ad,ai⟩
 replace ai:KP w1 b1 [I (f.n:Int),KV f.u,I (f.width:Int),I (f.bits:Int)] 210:=ai
 have hg:=Ext.L4 w1
 refine KE rfl (py (run_seq (KN (fun w'=>Ext w1 w') (by kernel_rfl) rfl (qT 0 rfl (fun _ h=>La Yt rfl O9 rfl (KP.cells (n:=4) (h.KD ai) (news:=[_,_,_,_]) rfl) rfl) hg (KH 2 rfl (KK SQ rfl) hg (qT 3 rfl (fun _ h=>KJ U3 rfl rfl (h.KD ai) rfl) hg (KH 4 rfl (PW rfl rfl (by omega)) hg (KH 5 rfl (M8 rfl rfl (by omega)) hg ?_))))))))
 rw[show(f.n:Int)+64-1=((f.n+63:Nat):Int) by omega]
 refine KH 6 rfl (Ra rfl rfl (by omega)) hg (KH 7 rfl (SD rfl rfl (by omega)) hg (OJ 1 [.tmp 3] rfl z7E rfl (Z7 f hf _) ?_))
 rintro _ w2 ⟨rfl,af⟩
 refine⟨hg.trans af,?_⟩
 refine KH 8 rfl (PW rfl rfl (by omega)) (hg.trans af) (KH 9 rfl (ML rfl) (hg.trans af) (qE (KG Tryz.func150 rfl (⟨_,rfl,?_,(ad.trans hg).trans af⟩))))
 show I ((f.Pv:Int)+4*(((f.n+63:Nat):Int) / 64))=I ((f.Pv+4*((f.n+63) / 64):Nat):Int)
 congr 1
theorem XL {n u:Nat}(hn:1≤n)(iX:n≤1000)(hu:1≤u)(lF:u≤1000000000):(OG n u).small:=by
 have h1:=z2S hn hu
 have h2:=Ts (n:=n) lF
 refine⟨?_,?_,by omega⟩
 ·show n≤_;omega
 ·show Sg n u≤_;omega
theorem z0l (n last:Nat)(hn:1≤n)(iX:n≤1000)(lF:last+1≤1000000000)(w:World):Le Tryz.prog 148 [I (n:Int),KV last] w fun v w'=>v= .tuple #[I ((OG n (last+1)).size:Int),I 0]∧Ext w w':=by
 refine KA (e:=[(0,_),(1,_)]) Tryz.func148 rfl Tryz.ntmps148 rfl rfl (qN rfl (KE rfl (KE rfl (py (run_seq (KB (qN rfl (An rfl (qV (LW rfl rfl) (An rfl (An rfl (qV (LH rfl rfl) (Lq ?_)))))))))))))
 refine qV (Lk rfl rfl) (An rfl (An rfl (qV (LH rfl rfl) (Lq (qV (Lk rfl rfl) (An rfl (An rfl (qV (Mc rfl rfl) (Lq (An rfl (qS (qS (qV (Lk rfl rfl) ?_)))))))))))))
 refine qV (Lk rfl rfl) (KE rfl (py (Kx rfl (qN rfl (An rfl (qV (Mc rfl rfl) (Lq (KE rfl (py (Lc.qb (e:=[(0,_),(1,_),(4,_),(5,_),(25,_)]) ?_))))))))))
 refine Kx rfl (It (KC (qN rfl (An rfl (An rfl (qV (OD rfl rfl) ?_))))))
 rw[Nat.mod_eq_of_lt (show last+1<18446744073709551616 by omega)]
 refine L2 [.tmp 28,.tmp 30] z4e rfl (Sd n (last+1) hn iX (by omega) lF _) ?_
 rintro _ w1 ⟨rfl,ad⟩
 refine L2 [.tmp 31] z6Z rfl (WC _ (XL hn iX (by omega) lF) _) ?_
 rintro _ w2 ⟨rfl,af⟩
 refine KE rfl (KE rfl (py (KG Tryz.func148 rfl ?_)))
 exact⟨_,rfl,rfl,ad.trans af⟩
theorem z2l {w:World}{a:Option Addr}{c:Nat}{l:List Nat}(hl:l.length≤1000)(hn:Nof l)(hm:∀v∈l,v≤1000000000)(hR:Rd w (.slice a l.length c) 1 l.length (l.map KV)):Le Tryz.prog 105 [.slice a l.length c] w fun v w'=>v= .bool true∧w'=w:=by
 refine KA (e:=[(0,_)]) Tryz.func105 rfl Tryz.ntmps105 rfl rfl (qN rfl (KE rfl (py (run_seq (qN rfl (An rfl (qV (LG Uo rfl) (qV (LH rfl rfl) (Lq (py (Kx rfl (It (qN rfl ?_)))))))))))))
 refine KE rfl (py (run_seq (qN rfl (An rfl (qV (LG Uo rfl) (An rfl (py (KB (MQ (α:=Nat×Nat) ((0,0)) (fun y=>[(3,KV y.2),(9,.slice a l.length c),(10,I (l.length:Int)),(11,I (y.1:Int))]) (fun y w'=>w'=w∧y.1≤l.length∧y.2≤1000000000∧∀v,l[y.1]? =some v→y.2≤v) (fun y=>l.length-y.1) ?hI ?hround)))))))))
 case hI=>exact⟨rfl,Nat.zero_le _,Nat.zero_le _,fun v _=>Nat.zero_le _⟩
 case hround=>
  rintro⟨i,z⟩ w4 ⟨rfl,hi,hz,yI⟩ ih;dsimp only at hi hz yI
  try dsimp only
  refine qN rfl (qV (LW rfl rfl) (py (run_seq (KQ rfl (fun h0=>?_) (fun h0=>?_)))))
  ·have de:i<l.length:=by omega
   obtain⟨v,hv⟩:∃v,l[i]? =some v:=⟨_,List.getElem?_eq_getElem de⟩;have Hk:=yI v hv;have Bt:=hm v (List.mem_of_getElem? hv)
   obtain⟨gb,go,gc',e4⟩:∃b o c',Value.slice a l.length c= .slice (some ⟨b,o,none⟩) l.length c':=by
    rcases hR.2 with⟨c,hc,h0⟩|⟨b,off,c',hc,-⟩
    ·omega
    ·exact⟨b,off,c',hc⟩
   cases e4;refine It (run_seq (KB (qN rfl (qV (Lt Uo Nf rfl rfl (by omega)) (qV (Lb M3 rfl rfl (LN hR (show(l.map KV)[i]? =some (KV v) by rw[List.getElem?_map,hv];rfl))) ?_)))));refine KE rfl (py (run_seq (qN rfl (An rfl (An rfl (qV (LW rfl rfl) (Lq (An rfl (An rfl (qV (LH rfl rfl) (Lq (qV (Lk rfl rfl) (py ?_)))))))))))));refine Kx rfl (It (KF rfl (An rfl (KE rfl (py (KC (KF rfl (Lz rfl rfl (An rfl (py ((ih (i+1,v) _ ⟨rfl,de,Bt,fun u hu=>?_⟩ (by dsimp only;omega)).qb)))))))))));obtain⟨a1,a2⟩:=List.getElem?_eq_some_iff.1 hv;obtain⟨b1,b2⟩:=List.getElem?_eq_some_iff.1 hu;have:=List.pairwise_iff_getElem.1 hn i (i+1) a1 b1 (by omega)
   rwa [a2,b2] at this
  ·refine KO rfl (qN rfl (KE rfl (py (KG Tryz.func105 rfl ?_))));exact⟨_,rfl,rfl,rfl⟩
def Nd (k:Nat)(l:List Nat):List Bool:=l.flatMap fun v=>bitsN k (v%2^k)
def restB (k:Nat):List Nat→List Bool
 |[]=>[]
 |v::_=>bitsN 32 (v / 2^k)
theorem z3g (k:Nat)(l:List Nat)(v:Nat):Nd k (l++[v])=Nd k l++bitsN k (v%2^k):=by simp[Nd]
theorem Pb (k:Nat):∀l:List Nat,(Nd k l).length=l.length*k
 |[]=>by simp[Nd]
 | v :: l => by
   show(bitsN k (v%2^k)++Nd k l).length=_;rw[List.length_append,Pb k l,bitsN_length,List.length_cons,Nat.add_mul];omega
theorem Z8 (k:Nat):∀(l:List Nat) (len i v:Nat),Nof (l++[v])→(∀x,(l++[v]).head? =some x→len≤x / 2^k+i)→
  len+(hiB k len i l).length≤v / 2^k+(i+l.length)∧hiB k len i (l++[v])=hiB k len i l++(List.replicate (v / 2^k+(i+l.length)-(len+(hiB k len i l).length)) false++[true])
 | [], len, i, v, _, hl => by
   have:=hl v rfl;refine⟨by simp[hiB];omega,?_⟩
   simp[hiB]
 | x :: r, len, i, v, hn, hl => by
   have hx:=hl x rfl;rw[List.cons_append] at hn;obtain⟨n1,n2⟩:=List.pairwise_cons.1 hn
   obtain⟨h1,h2⟩:=Z8 k r (x / 2^k+i+1) (i+1) v n2 (fun y hy=>by
    have pT:y∈r++[v]:=List.mem_of_mem_head? hy;have:=Nat.div_le_div_right (c:=2^k) (n1 y pT)
    omega)
   rw[List.cons_append,hiB,hiB,h2,List.length_append,List.length_replicate,List.length_cons,List.length_cons];refine⟨by omega,?_⟩;rw[List.append_assoc,List.cons_append,show v / 2^k+(i+1+r.length)-(x / 2^k+i+1+(hiB k (x / 2^k+i+1) (i+1) r).length)=v / 2^k+(i+(r.length+1))-(len+(x / 2^k+i-len+((hiB k (x / 2^k+i+1) (i+1) r).length+1))) by omega]
theorem z0s (k:Nat)(l:List Nat)(v:Nat):restB k (l++[v])=restB k l++if l.length=0 then bitsN 32 (v / 2^k) else []:=by
 cases l with
 |nil=>simp[restB]
 |cons x l=>simp[restB]
def SA (l:List Nat)(f:Fm):Bytes:=L7 (bitsN 32 f.n++bitsN 64 f.u)++L7 (Nd f.width l)++L7 (hiB f.width 0 0 l)++L7 (restB f.width l)
theorem z5c {b:Nat}:∀{l:List Nat},(∀x∈l,x≤b)→l.sum≤l.length*b
 |[],_=>by simp
 | x :: l, h => by
   have h1:=h x List.mem_cons_self;have h2:=z5c (fun y hy=>h y (List.mem_cons_of_mem x hy));rw[List.sum_cons,List.length_cons,Nat.add_mul];omega
theorem z2j (k:Nat)(l:List Nat):(restB k l).length≤32:=by
 cases l with
 |nil=>simp[restB]
 |cons v l=>simp[restB]
theorem Va (k:Nat){l:List Nat}(hn:Nof l){z:Nat}(hz:l[l.length-1]? =some z):(hiB k 0 0 l).length=z / 2^k+l.length:=by
 have:=z1U k l 0 0 hn (fun x hx=>Nat.zero_le _) z (by rw[List.getLast?_eq_getElem?];exact hz)
 omega
/-! ### Three writers side by side -/
def z4E (A B:Nat→Prop):Prop:=∀k,A k→¬B k
structure XU (w0 w:World)(b5:Nat)(f:Fm)(p1 p2 p3:Nat)(l1 l2 l3:List Bool):Prop where
 ex:∃F1 F2 F3:Nat→Prop,SG w p1 l1 F1∧SG w p2 l2 F2∧SG w p3 l3 F3∧z4E F1 F2∧z4E F2 F3∧z4E F3 F1∧∀k,F1 k∨F2 k∨F3 k→w0.heap.size≤k∧k≠b5
 ext:Ext w0 w
 KD:KP w b5 (fmC f) 210
section
variable {w0 w:World}{b5:Nat}{f:Fm}{p1 p2 p3:Nat}{l1 l2 l3:List Bool}
theorem XU.rot (h:XU w0 w b5 f p1 p2 p3 l1 l2 l3):XU w0 w b5 f p2 p3 p1 l2 l3 l1:=by
 obtain⟨⟨F1,F2,F3,h1,h2,h3,h4,h5,h6,h7⟩,hx,hb⟩:=h
 exact⟨⟨F2,F3,F1,h2,h3,h1,h5,h6,h4,fun k hk=>h7 k (by rcases hk with e|e|e;exact .inr (.inl e);exact .inr (.inr e);exact .inl e)⟩,hx,hb⟩
theorem XU.on (h:XU w0 w b5 f p1 p2 p3 l1 l2 l3){w2:World}(hx:Ext w w2):XU w0 w2 b5 f p1 p2 p3 l1 l2 l3:=by
 obtain⟨⟨F1,F2,F3,h1,h2,h3,h4,h5,h6,h7⟩,j5,hb⟩:=h
 exact⟨⟨F1,F2,F3,h1.ext hx,h2.ext hx,h3.ext hx,h4,h5,h6,h7⟩,j5.trans hx,hx.KD hb⟩
theorem XU.z6R (h:XU w0 w b5 f p1 p2 p3 l1 l2 l3):∃F1,SG w p1 l1 F1∧¬F1 b5∧(∀w2 l,WrR p1 F1 w w2 l→XU w0 w2 b5 f p1 p2 p3 l l2 l3):=by
 obtain⟨⟨F1,F2,F3,h1,h2,h3,h4,h5,h6,h7⟩,j5,hb⟩:=h
 refine⟨F1,h1,fun e=>(h7 b5 (.inl e)).2 rfl,fun w2 l hr=>?_⟩
 obtain⟨F1',g1,g2,g3⟩:=hr
 have z:=j5.size
 have lb:=hb.lt
 refine⟨⟨F1',F2,F3,g1,h2.kp g2 (fun i hi e=>h4 i e hi),h3.kp g2 (fun i hi e=>h6 i hi e),fun k hk e=>?_,h5,fun k hk e=>?_,fun k hk=>?_⟩,j5.Kz g2 (fun k hk=>(h7 k (.inl hk)).1),g2.KD hb (fun e=>(h7 b5 (.inl e)).2 rfl)⟩
 ·rcases g3 k hk with e1|e1
  ·exact h4 k e1 e
  ·have:=h2.lt e;omega
 ·rcases g3 k e with e1|e1
  ·exact h6 k hk e1
  ·have:=h3.lt hk;omega
 ·rcases hk with hk|hk
  ·rcases g3 k hk with e1|e1
   ·exact h7 k (.inl e1)
   ·exact⟨by omega,by omega⟩
  ·exact h7 k (.inr hk)
theorem XU.z5M (h:XU w0 w b5 f p1 p2 p3 l1 l2 l3):∃F2,SG w p2 l2 F2∧(∀w2 l,WrR p2 F2 w w2 l→XU w0 w2 b5 f p1 p2 p3 l1 l l3):=by
 obtain⟨F2,h1,-,h2⟩:=h.rot.z6R
 exact⟨F2,h1,fun w2 l hr=>(h2 w2 l hr).rot.rot⟩
theorem XU.zc6 (h:XU w0 w b5 f p1 p2 p3 l1 l2 l3):∃F3,SG w p3 l3 F3∧(∀w2 l,WrR p3 F3 w w2 l→XU w0 w2 b5 f p1 p2 p3 l1 l2 l):=by
 obtain⟨F3,h1,-,h2⟩:=h.rot.rot.z6R
 exact⟨F3,h1,fun w2 l hr=>(h2 w2 l hr).rot⟩
end
theorem Yb {w:World}{a:Option Addr}{c:Nat}{l:List Nat}(du:1≤l.length)(hn:l.length≤64)(kW:Nof l)(hm:∀v∈l,v≤999999999)(hR:Rd w (.slice a l.length c) 1 l.length (l.map KV)){z:Nat}(hz:l[l.length-1]? =some z):
  Le Tryz.prog 70 [.slice a l.length c] w fun v w'=>v= .tuple #[S (SA l (OG l.length (z+1))),I 0]∧Ext w w':=by
 have JT:=hm z (List.mem_of_getElem? hz)
 have EI:∀v∈l,v≤z:=fun v hv=>by
  obtain⟨j,hj⟩:=List.mem_iff_getElem?.1 hv;obtain⟨a1,a2⟩:=List.getElem?_eq_some_iff.1 hj;obtain⟨b1,b2⟩:=List.getElem?_eq_some_iff.1 hz;rcases Nat.lt_or_ge j (l.length-1) with h| h
  ·have:=List.pairwise_iff_getElem.1 kW j (l.length-1) a1 b1 h
   rwa [a2,b2] at this
  ·have e:j=l.length-1:=by omega
   subst e;rw[hz] at hj;cases hj;exact Nat.le_refl _
 have tD:=Ts (n:=l.length) (u:=z+1) (by omega)
 have mH:=VU (n:=l.length) (u:=z+1) du (by omega)
 rw[Nat.add_sub_cancel] at mH
 obtain⟨gb,go,gc',e4⟩:∃b o c',Value.slice a l.length c= .slice (some ⟨b,o,none⟩) l.length c':=by
  rcases hR.2 with⟨c,hc,h0⟩|⟨b,off,c',hc,-⟩
  ·omega
  ·exact⟨b,off,c',hc⟩
 cases e4
 refine KA (e:=[(0,_)]) Tryz.func70 rfl Tryz.ntmps70 rfl rfl (qN rfl (KE rfl (KE rfl (py (run_seq (qN rfl (An rfl (L2 [.tmp 19] za4 rfl (z2l (by omega) kW (fun v hv=>by have:=hm v hv;omega) hR) ?_))))))))
 rintro _ w ⟨rfl,rfl⟩
 refine qV ((by first|exact LP rfl|exact Nq rfl)) ?_
 refine py (Kx rfl (It (qN rfl (KE rfl (py (run_seq (qN rfl (An rfl (qV (LG Uo rfl) (qV (LH rfl rfl) (py (KQ rfl (fun h0=>?_) (fun h0=>?_)))))))))))))
 ·refine KF rfl (An rfl (An rfl (qV (LG Uo rfl) (qV (M8 rfl rfl (by omega)) ?_))));rw[show(l.length:Int)-1=((l.length-1:Nat):Int) by omega];refine qV (Lt Uo Nf rfl rfl (by omega)) (qV (Lb M3 rfl rfl (LN hR (show(l.map KV)[l.length-1]? =some (KV z) by rw[List.getElem?_map,hz];rfl))) ?_);refine qV (OD rfl rfl) ?_;rw[Nat.mod_eq_of_lt (show z+1<18446744073709551616 by omega)];refine KE rfl (qM rfl (An rfl (qV (LG Uo rfl) (An rfl (L2 [.tmp 33,.tmp 34] z4e rfl (Sd l.length (z+1) du (by omega) (by omega) (by omega) _) ?_)))));rintro _ w1 ⟨rfl,ad⟩
  generalize hf:OG l.length (z+1)=f
  have Hl:f.width=Sg l.length (z+1):=by rw[←hf];rfl
  have ou:f.n=l.length:=by rw[←hf];rfl
  have yJ:f.u=z+1:=by rw[←hf];rfl
  rw[←Hl] at tD mH;refine KL rfl rfl (MN (cs:=[_,_,_,_]) O9 rfl) ?_;rintro _ w2 ⟨b5,rfl,gI,af,aG⟩;refine KR rfl (Lo (news:=fmC f) O9 rfl rfl rfl rfl aG (by simp)) ?_;rintro w3 ⟨hC,ax⟩;replace hC:KP w3 b5 (fmC f) 210:=hC;have z1:=ad.size;have z2:=af.size;have lb5:=hC.lt;have aX:Ext w1 w3:=af.Kz ax (fun i e=>by omega);have z3:=aX.size;refine qM rfl (L2 [] UY rfl (P5 w3) ?_);rintro _ w4 ⟨p1,F1,rfl,Bu,aB,nI⟩;refine L2 [] UY rfl (P5 w4) ?_;rintro _ w5 ⟨p2,F2,rfl,EJ,aR,EK⟩;refine L2 [] UY rfl (P5 w5) ?_;rintro _ w6 ⟨p3,F3,rfl,kQ,aK,oI⟩;have z4:=aB.size;have z5:=aR.size
  have Hm:XU w w6 b5 f p1 p2 p3 [] [] []:=⟨⟨F1,F2,F3,(Bu.ext aR).ext aK,EJ.ext aK,kQ,fun k h1 h2=>by have:=Bu.lt h1;have:=EK k h2;omega,fun k h1 h2=>by have:=EJ.lt h1;have:=oI k h2;omega,fun k h1 h2=>by have:=Bu.lt h2;have:=oI k h1;omega,fun k hk=>by
   rcases hk with h|h| h
   ·have:=nI k h;omega
   ·have:=EK k h;omega
   ·have:=oI k h;omega⟩,(((ad.trans aX).trans aB).trans aR).trans aK,aK.KD (aR.KD (aB.KD hC))⟩
  refine KE rfl (KE rfl (KE rfl (py (Lc.qb (e:=[(0,_),(2,_),(3,_),(4,_),(5,_),(6,_),(7,_),(8,_)]) ?_))));refine run_seq (qN rfl (An rfl (qV (LG Uo rfl) (An rfl (py (KB (MQ (α:=Nat) (0) (fun i=>[(4,KV (z+1)),(5,ptr b5 0),(6,ptr p1 0),(7,ptr p2 0),(8,ptr p3 0),(39,.slice (some ⟨gb,go,none⟩) l.length c),(40,I (l.length:Int)),(41,I (i:Int))]) (fun i w'=>XU w w' b5 f p1 p2 p3 (Nd f.width (l.take i)) (hiB f.width 0 0 (l.take i)) (restB f.width (l.take i))∧i≤l.length) (fun i=>l.length-i) ?hI ?hround)))))))
  case hI=>exact⟨Hm,Nat.zero_le _⟩
  case hround =>
   rintro i w7 ⟨hE,hi⟩ ih
   try dsimp only
   refine qN rfl (qV (LW rfl rfl) (py (run_seq (KQ rfl (fun h1=>?_) (fun h1=>?_)))))
   ·have de:i<l.length:=by omega
    obtain⟨v,hv⟩:∃v,l[i]? =some v:=⟨_,List.getElem?_eq_getElem de⟩;have Bt:=EI v (List.mem_of_getElem? hv);have mI:v / 2^f.width≤z / 2^f.width:=Nat.div_le_div_right Bt;have oB:(l.take i).length=i:=by rw[List.length_take];omega
    obtain⟨dz,dB⟩:=Z8 f.width (l.take i) 0 0 v (by rw[←Ls hv];exact kW.sublist (List.take_sublist _ _)) (fun x hx=>Nat.zero_le _);rw[←Ls hv,Nat.zero_add,Nat.zero_add,oB] at dB;rw[Nat.zero_add,Nat.zero_add,oB] at dz;have JU:(l.take i).length*f.width≤64*30:=Nat.mul_le_mul (by omega) (by omega);have hg:=Ext.L4 w7;obtain⟨F1',Bv,vd,fm⟩:=(hE.on hg).z6R;have ve:KP w7 b5 [I (f.n:Int),KV f.u,I (f.width:Int),I (f.bits:Int)] 210:=hE.KD;have rg:=Nat.two_pow_pos f.width;have JV:2^f.width≤2^30:=Nat.pow_le_pow_right (by decide) tD;refine It (run_seq (KB (qN rfl (An rfl (qV (Lt Uo Nf rfl rfl (by omega)) (qV (Lb M3 rfl rfl (LN (hR.ext hE.ext) (show(l.map KV)[i]? =some (KV v) by rw[List.getElem?_map,hv];rfl))) ?_))))));refine KE rfl (KE rfl (py (run_seq (KN (fun w'=>Kp F1' w7 w') (by kernel_rfl) rfl (KH 0 rfl (KM rfl) (hg.kp) (KH 1 rfl (KM rfl) (hg.kp) (KH 2 rfl (KK Oc rfl) (hg.kp) (qT 3 rfl (fun _ h=>KJ U3 rfl rfl (h.KD ve vd) rfl) (hg.kp) (KH 7 rfl (KK Oc rfl) (hg.kp) (qT 8 rfl (fun _ h=>KJ U3 rfl rfl (h.KD ve vd) rfl) (hg.kp) (KH 4 rfl (Mq f.width (2^f.width) rfl rfl (by omega) rfl) (hg.kp) ?_)))))))))));rw[show 1*2^f.width%18446744073709551616=2^f.width by rw[Nat.one_mul];exact Nat.mod_eq_of_lt (by omega)];refine KH 5 rfl (QV (m:=2^f.width) (n:=1) rfl rfl rfl (by show 2^f.width<2^64;omega) (by omega)) (hg.kp) ?_;refine KH 6 rfl (Ph rfl rfl (by omega) (by omega)) (hg.kp) ?_;rw[Nat.and_two_pow_sub_one_eq_mod];refine OJ 9 [.tmp 46,.tmp 52,.tmp 54] rfl QQ rfl (Na Bv (v%2^f.width) f.width (by omega) (Nat.mod_lt _ rg) (by rw[Pb];omega)) ?_;rintro _ w8 ⟨rfl,f9⟩;refine⟨hg.kp.trans f9.choose_spec.2.1,?_⟩;have yK:=fm _ _ f9;rw[←z3g,←Ls hv] at yK;have rU:KP w8 b5 [I (f.n:Int),KV f.u,I (f.width:Int),I (f.bits:Int)] 210:=yK.KD;obtain⟨F2',oQ,eK⟩:=yK.z5M;refine qE (qN rfl (An rfl (qV (KK Oc rfl) (qV (KJ U3 rfl rfl rU rfl) (qV (Ps f.width (2^f.width) rfl rfl (by show f.width≤64;omega) rfl) ?_)))));have dQ:=z0s f.width (l.take i) v;rw[←Ls hv,oB] at dQ
    generalize v / 2^f.width=vq at dz dB mI dQ
    generalize z / 2^f.width=zq at mI mH
    refine qV (Ln rfl M3 U3 (by omega)) (An rfl (Lz rfl rfl ?_));rw[show(vq:Int)+(i:Int)=((vq+i:Nat):Int) by omega];refine KE rfl (py (run_seq (qN rfl (An rfl (An rfl (L2 [.tmp 64] WJ rfl (Q2 oQ) ?_))))));rintro _ w8 ⟨rfl,rfl⟩;refine qV (M8 rfl rfl (by omega)) ?_
    generalize Bw:(hiB f.width 0 0 (l.take i)).length=HL at dz dB
    rw[show((vq+i:Nat):Int)-(HL:Int)=((vq+i-(HL+0):Nat):Int) by omega];refine KE rfl (py (KB (MQ (α:=Nat) (0) (fun y=>[(4,KV (z+1)),(5,ptr b5 0),(6,ptr p1 0),(7,ptr p2 0),(8,ptr p3 0),(9,I (i:Int)),(11,I ((vq+i:Nat):Int)),(12,I ((vq+i-(HL+y):Nat):Int)),(39,.slice (some ⟨gb,go,none⟩) l.length c),(40,I (l.length:Int)),(41,I (i:Int))]) (fun y w'=>XU w w' b5 f p1 p2 p3 (Nd f.width (l.take (i+1))) (hiB f.width 0 0 (l.take i)++List.replicate y false) (restB f.width (l.take i))∧HL+y≤vq+i) (fun y=>vq+i-(HL+y)) ?hI ?hround)))
    case hI=>exact⟨by simpa using yK,dz⟩
    case hround=>
     rintro y w9 ⟨Hn,hy⟩ ih2
     try dsimp only
     obtain⟨F2',oQ,eK⟩:=Hn.z5M;refine run_seq (qN rfl (An rfl (qV (LH rfl rfl) (py (KQ rfl (fun h2=>?_) (fun h2=>?_))))))
     ·obtain⟨m,nU,e8,mJ,JW⟩:∃m,min (vq+i-(HL+y)) 64=m∧1≤m∧m≤64∧HL+y+m≤vq+i:=⟨_,rfl,by omega,by omega,by omega⟩;refine It (run_seq (KB (KF rfl (An rfl (An rfl (qV (ymi rfl rfl) ?_))))));rw[show min ((vq+i-(HL+y):Nat):Int) 64=(m:Int) by omega];refine L2 [.tmp 73,.const (Value.int .u64 0),.tmp 75] QQ rfl (Na oQ 0 m mJ (Nat.two_pow_pos _) (by rw[List.length_append,List.length_replicate,Bw];omega)) ?_;rintro _ w10 ⟨rfl,mK⟩;have jD:=eK _ _ mK;rw[Qi,List.append_assoc,List.replicate_append_replicate] at jD;obtain⟨F2'',vf,-⟩:=jD.z5M;refine py (KC (KF rfl (An rfl (An rfl (L2 [.tmp 70] WJ rfl (Q2 vf) ?_)))));rintro _ w10 ⟨rfl,rfl⟩;rw[show(hiB f.width 0 0 (l.take i)++List.replicate (y+m) false).length=HL+(y+m) by rw[List.length_append,List.length_replicate,Bw]];refine qV (M8 rfl rfl (by omega)) ?_;rw[show((vq+i:Nat):Int)-((HL+(y+m):Nat):Int)=((vq+i-(HL+(y+m)):Nat):Int) by omega];refine KE rfl (py ?_);exact(ih2 (y+m) _ ⟨jD,by omega⟩ (by omega)).qb
     ·have Ho:y=vq+i-HL:=by omega
      subst Ho;refine KO rfl (qN rfl (An rfl (L2 [.tmp 77,.const (Value.int .u64 1),.const (Value.int .i64 1)] QQ rfl (Na oQ 1 1 (by decide) (by decide) (by rw[List.length_append,List.length_replicate,Bw];omega)) ?_)));rintro _ w10 ⟨rfl,mK⟩;have jD:=eK _ _ mK;rw[show bitsN 1 1=[true] from rfl,List.append_assoc,←dB] at jD;refine qM rfl (An rfl (qV (yre rfl rfl (by omega)) (qV (Mc rfl rfl) (py (KQ rfl (fun h3=>?_) (fun h3=>?_))))))
      ·have ju:i=0:=by omega
       obtain⟨F3',Bx,oJ⟩:=jD.zc6;refine KF rfl (An rfl (An rfl (qV ((by first|exact Lw rfl U3 M3 (by omega)|exact MI rfl U3 M3)) ?_)));refine L2 [.tmp 82,.tmp 84,.const (Value.int .i64 32)] QQ rfl (Na Bx (vq+i) 32 (by decide) (by show _<2^32;omega) (by rw[ju];show 0+32≤_;omega)) ?_;rintro _ w11 ⟨rfl,Bz⟩;have kX:=oJ _ _ Bz;refine py (KC (KF rfl (Lz rfl rfl (An rfl (py ((ih (i+1) _ ⟨?_,de⟩ (by omega)).qb))))));rw[dQ,if_pos ju];rw[show vq+i=vq by omega] at kX;exact kX
      ·refine It (KC (KF rfl (Lz rfl rfl (An rfl (py ((ih (i+1) _ ⟨?_,de⟩ (by omega)).qb))))));rw[dQ,if_neg (by omega),List.append_nil];exact jD
   ·have cL:i=l.length:=by omega
    subst cL;rw[List.take_length] at hE;refine KO rfl (qN rfl (L2 [] UY rfl (P5 w7) ?_));rintro _ w8 ⟨p4,F4,rfl,kP,cE,EL⟩;have rU:KP w8 b5 [I (f.n:Int),KV f.u,I (f.width:Int),I (f.bits:Int)] 210:=(hE.on cE).KD;refine KE rfl (qM rfl (An rfl (qV (KK SQ rfl) (qV (KJ U3 rfl rfl rU rfl) (qV ((by first|exact Lw rfl U3 M3 (by omega)|exact MI rfl U3 M3)) ?_)))));refine L2 [.tmp 88,.tmp 91,.const (Value.int .i64 32)] QQ rfl (Na kP f.n 32 (by decide) (by show _<2^32;omega) (by simp)) ?_;rintro _ w9 ⟨rfl,F5,yL,aJ,tB⟩;have hH:Ext w7 w9:=cE.Kz aJ EL;have z79:=hH.size;refine qM rfl (An rfl (An rfl (L2 [.tmp 93,.tmp 94,.const (Value.int .i64 64)] QQ rfl (Na yL (z+1) 64 (by decide) (by show _<2^64;omega) (by simp)) ?_)));rintro _ w10 ⟨rfl,F6,ku,au,JX⟩
    have pU:Ext w7 w10:=hH.Kz au (fun k hk=>by
     rcases tB k hk with e| e
     ·exact EL k e
     ·have:=cE.size;omega)
    rw[List.nil_append,←yJ] at ku;refine qM rfl (KE rfl (py (run_seq (qN rfl (An rfl (An rfl (An rfl (An rfl (KL rfl rfl (Tb (parts:=[(0,.tmp 96),(1,.tmp 97),(2,.tmp 98),(3,.tmp 99)]) (cs:=[_,_,_,_]) (zs:=[Value.pointer none,Value.pointer none,Value.pointer none,Value.pointer none]) z8R z1D rfl (by kernel_rfl) rfl rfl rfl (by decide)) ?_)))))))));rintro _ w11 ⟨b100,rfl,⟨EM,aT,EN⟩,vg⟩;have kX:=hE.on (pU.trans aT);obtain⟨tx,nV⟩:∃tx:List Bytes,tx=[L7 (bitsN 32 f.n++bitsN 64 f.u),L7 (Nd f.width l),L7 (hiB f.width 0 0 l),L7 (restB f.width l)]:=⟨_,rfl⟩
    have m9:∀j,(List.take j (List.map List.length tx)).sum≤4000:=fun j=>by
     have h1:∀x∈List.take j (List.map List.length tx),x≤1000:=fun x hx=>by
      have af:=List.mem_of_mem_take hx;rw[nV] at af;have eM:(Nd f.width l).length≤64*30:=by rw[Pb];exact Nat.mul_le_mul hn (by omega)
      have nT:=Va f.width kW hz;have gz:=z2j f.width l;simp only[List.map_cons,List.map_nil,Lh,List.length_append,bitsN_length] at af;simp only[List.mem_cons,List.not_mem_nil,or_false] at af
      generalize z / 2^f.width=zq at mH nT
      omega
     have h2:=z5c h1;have h3:(List.take j (List.map List.length tx)).length≤4:=by rw[List.length_take,List.length_map,nV];simp;omega
     omega
    have dM:∀(j:Nat) (x:Bytes),tx[j]? =some x→x.length≤4000:=fun j x hx=>by
     have h1:=m9 (j+1);rw[Ls (q:=x.length) (by rw[List.getElem?_map,hx];rfl),List.sum_append] at h1;simp at h1;omega
    have hq:∀j,j<4→∃q bs F,([ptr p4 0,ptr p1 0,ptr p2 0,ptr p3 0]:List Value)[j]? =some (ptr q 0)∧tx[j]? =some (L7 bs)∧SG w11 q bs F:=fun j hj=>by
     obtain⟨F1,h1,-,-⟩:=kX.z6R;obtain⟨F2,h2,-⟩:=kX.z5M;obtain⟨F3,h3,-⟩:=kX.zc6;rw[nV];have BA:j=0∨j=1∨j=2∨j=3:=by omega
     rcases BA with e|e|e|e<;>subst e
     ·exact⟨p4,_,_,rfl,rfl,ku.ext aT⟩
     ·exact⟨p1,_,_,rfl,rfl,h1⟩
     ·exact⟨p2,_,_,rfl,rfl,h2⟩
     ·exact⟨p3,_,_,rfl,rfl,h3⟩
    refine qV (LG z8R rfl) (An rfl (py (Lc.qb (e:=[(14,_),(100,_),(101,_),(102,_)]) ?_)));refine KB (MQ (α:=Nat) (0) (fun j=>[(14,S ((tx.take j).flatten)),(100,.slice (some ⟨b100,0,none⟩) 4 4),(101,I 4),(102,I (j:Int))]) (fun j w'=>w'=w11∧j≤4) (fun j=>4-j) ?hI ?hround)
    case hI=>exact⟨rfl,Nat.zero_le _⟩
    case hround=>
     rintro j w12 ⟨rfl,hj⟩ ih2
     try dsimp only
     refine qN rfl (qV (LW rfl rfl) (py (run_seq (KQ rfl (fun h2=>?_) (fun h2=>?_)))))
     ·obtain⟨q,bs,F,g1,g2,g3⟩:=hq j (by omega);have JY:=m9 j;have JZ:=dM j _ g2;refine It (run_seq (KB (qN rfl (qV (Lt z8R z1D rfl rfl (by omega)) (qV (Lb Xr rfl rfl (LN vg.rd g1)) (KE rfl (qM rfl (An rfl (L2 [.tmp 107] z1c rfl (Rt g3) ?_)))))))));rintro _ w12 ⟨rfl,rfl⟩;refine An rfl (qV (Ll rfl rfl) (qV (Ll (v:=I 0) rfl rfl) (KE rfl (KE rfl (py (run_seq (qN rfl (An rfl (qV (LQ rfl rfl) (py (Kx rfl (It (KF rfl ?_)))))))))))));refine An rfl (An rfl (qV (SN rfl rfl (by first|omega|(simp;done)|(simp;omega))) ?_));refine KE rfl (py (KC (KF rfl (Lz rfl rfl (An rfl (py ?_))))));rw[show(tx.take j).flatten++L7 bs=(tx.take (j+1)).flatten by rw[Ls g2,List.flatten_append];simp];exact(ih2 (j+1) _ ⟨rfl,by omega⟩ (by omega)).qb
     ·have BA:j=4:=by omega
      subst BA;refine KO rfl (qN rfl (An rfl (KE rfl (KE rfl (py (KG Tryz.func70 rfl (⟨_,rfl,?_,(hE.ext.trans pU).trans aT⟩)))))));rw[nV];simp[resVal,SA]
 ·omega
structure Zy where
 n:Nat
 m:Nat
 p:LJ
 bits:Nat
def hdC (h:Zy):List Value:=[I (h.n:Int),I (h.m:Int),I (h.p.L6:Int),I (h.p.chain:Int),I (h.p.interval:Int),I (h.p.zeta:Int),I (h.p.most:Int),I (h.bits:Int)]
abbrev hdV (h:Zy):Value:= .agg (hdC h).toArray
structure Zy.LS (h:Zy):Prop where
 n1:1≤h.n
 n2:h.n≤65536
 m:h.m≤1048576
 bits:h.bits≤134217728
 p:h.p.LS
def Tc (h:Zy):List (Nat×Nat):=[(h.n,32),(h.m,32),(h.p.L6,8),(h.p.chain,8),(h.p.interval,8),(h.p.zeta,8),(h.p.most,32),(h.bits,64)]
def Ms (l:List (Nat×Nat)):List Bool:=l.flatMap fun q=>bitsN q.2 q.1
def z1j:Bytes:=[119,116,108,49]
def hdT (h:Zy):Bytes:=z1j++L7 (Ms (Tc h))
theorem Pr (h:Zy):(Ms (Tc h)).length=192:=by
 simp[Ms,Tc]
theorem Ru (h:Zy):(hdT h).length=28:=by
 unfold hdT
 rw[List.length_append,Lh,Pr];rfl
theorem Se (h:Zy)(hh:h.LS)(w:World):Le Tryz.prog 101 [hdV h] w fun u w'=>u=I 0∧Ext w w':=by
 obtain⟨g1,g2,g3,g4,g5⟩:=hh
 refine KA (e:=[(0,_)]) Tryz.func101 rfl Tryz.ntmps101 rfl rfl (qN rfl (KL rfl rfl (Mz rfl (cs:=hdC h) rfl) ?_))
 rintro _ w1 ⟨b1,rfl,bT,ad,ai⟩
 replace ai:KP w1 b1 [I (h.n:Int),I (h.m:Int),I (h.p.L6:Int),I (h.p.chain:Int),I (h.p.interval:Int),I (h.p.zeta:Int),I (h.p.most:Int),I (h.bits:Int)] 128:=ai
 refine KE rfl (py (run_seq (KB (run_seq (qN rfl (qV (KK OR rfl) (qV (KJ U3 rfl rfl ai rfl) (qV (LW rfl rfl) (Lq (An rfl (qV (KK OR rfl) (qV (KJ U3 rfl rfl ai rfl) (qV (LH rfl rfl) ?_)))))))))))))
 refine Lq (qV (Lk rfl rfl) (KE rfl (py (Kx rfl (qN rfl (qV (KK XC rfl) (qV (KJ U3 rfl rfl ai rfl) (qV (LW rfl rfl) (Lq (An rfl (qV (KK XC rfl) (qV (KJ U3 rfl rfl ai rfl) (qV (LH rfl rfl) ?_)))))))))))))
 refine Lq (qV (Lk rfl rfl) (KE rfl (py (Kx rfl (qN rfl (qV (KK PA rfl) (qV (KJ U3 rfl rfl ai rfl) (qV (LW rfl rfl) (Lq (An rfl (qV (KK PA rfl) (qV (KJ U3 rfl rfl ai rfl) (qV (LH rfl rfl) ?_)))))))))))))
 refine Lq (qV (Lk rfl rfl) (KE rfl (py (Lc.qb (e:=[(1,_),(2,_),(3,_)]) ?_))))
 refine Kx rfl (KF rfl (qV (KK OR rfl) (qV (KJ U3 rfl rfl ai rfl) (qV (Mc rfl rfl) (Lq (An rfl (qS (qS (qS (qS (qS (qS (qV (Lk rfl rfl) ?_)))))))))))))
 refine KE rfl (py (Kx rfl (It (KC (qN rfl (qV (KK Sj rfl) (qV (La (news:=PO h.p) Vq rfl ME rfl (ai.cells (i:=2) (n:=5) rfl) rfl) (L2 [.tmp 40] z7y rfl (Uj h.p g5 _) ?_))))))))
 rintro _ w2 ⟨rfl,af⟩
 refine KE rfl (py (KG Tryz.func101 rfl ?_))
 exact⟨_,rfl,rfl,ad.trans af⟩
theorem z2P (h:Zy)(hh:h.LS)(w:World):Le Tryz.prog 69 [hdV h] w fun u w'=>u= .tuple #[S (hdT h),I 0]∧Ext w w':=by
 obtain⟨g1,g2,g3,g4,g5⟩:=id hh
 obtain⟨q1,q2,q3⟩:=id g5
 obtain⟨r1,r2,r3,r4⟩:=id q1
 have r1':h.p.L6≤16:=r1
 have r2':h.p.interval≤64:=by
  have:h.p.interval=0∨2≤h.p.interval∧h.p.interval≤64:=r2;omega
 have r4':h.p.zeta≤16:=r4
 refine KA (e:=[(0,_)]) Tryz.func69 rfl Tryz.ntmps69 rfl rfl (qN rfl (KL rfl rfl (Mz rfl (cs:=hdC h) rfl) ?_))
 rintro _ w1 ⟨b1,rfl,bT,ad,ai⟩
 replace ai:KP w1 b1 [I (h.n:Int),I (h.m:Int),I (h.p.L6:Int),I (h.p.chain:Int),I (h.p.interval:Int),I (h.p.zeta:Int),I (h.p.most:Int),I (h.bits:Int)] 128:=ai
 refine KE rfl (KE rfl (py (run_seq (qN rfl (qV (La (news:=hdC h) z0c rfl OE rfl (ai.cells (n:=8) rfl) rfl) (L2 [.tmp 11] z4V rfl (Se h hh _) ?_))))))
 rintro _ w2 ⟨rfl,af⟩
 refine KE rfl (qM rfl (An rfl (qV (LQ rfl rfl) (py (Kx rfl (It (qN rfl (L2 [] UY rfl (P5 w2) ?_))))))))
 rintro _ w3 ⟨wp,F,rfl,kQ,ah,oI⟩
 have aX:=af.trans ah
 have cU:=aX.KD ai
 refine KE rfl (qM rfl (qV (KK Sj rfl) (qV (La (news:=PO h.p) Vq rfl ME rfl (cU.cells (i:=2) (n:=5) rfl) rfl) (KL rfl rfl (MN (cs:=[_,_,_,_,_]) ME rfl) ?_))))
 rintro _ w4 ⟨b6,rfl,nD,aB,aW⟩
 refine KR rfl (Lo (news:=PO h.p) ME rfl rfl rfl rfl aW (by simp)) ?_
 rintro w5 ⟨dJ,aj⟩
 replace dJ:KP w5 b6 [I (h.p.L6:Int),I (h.p.chain:Int),I (h.p.interval:Int),I (h.p.zeta:Int),I (h.p.most:Int)] 77:=dJ
 have cb:Ext w3 w5:=aB.Kz aj (fun i e=>by omega)
 have cV:=cb.KD cU
 refine py (run_seq (qN rfl (qV (KK OR rfl) (qV ((by first|exact KJ U3 rfl rfl cV rfl|exact KJ U3 rfl rfl dJ rfl)) ?_))))
 refine qV (Nc (parts:=[(0,.tmp 20),(1,.const (Value.int .i64 32))]) (cs:=[_,_]) Q1 rfl Uf rfl rfl) (qV (KK XC rfl) (qV ((by first|exact KJ U3 rfl rfl cV rfl|exact KJ U3 rfl rfl dJ rfl)) ?_))
 refine qV (Nc (parts:=[(0,.tmp 23),(1,.const (Value.int .i64 32))]) (cs:=[_,_]) Q1 rfl Uf rfl rfl) (qV (KK UU rfl) (qV ((by first|exact KJ U3 rfl rfl cV rfl|exact KJ U3 rfl rfl dJ rfl)) ?_))
 refine qV (Nc (parts:=[(0,.tmp 26),(1,.const (Value.int .i64 8))]) (cs:=[_,_]) Q1 rfl Uf rfl rfl) (qV (KK Tk rfl) (qV ((by first|exact KJ U3 rfl rfl cV rfl|exact KJ U3 rfl rfl dJ rfl)) ?_))
 refine qV (Nc (parts:=[(0,.tmp 29),(1,.const (Value.int .i64 8))]) (cs:=[_,_]) Q1 rfl Uf rfl rfl) (qV (KK z5s rfl) (qV ((by first|exact KJ U3 rfl rfl cV rfl|exact KJ U3 rfl rfl dJ rfl)) ?_))
 refine qV (Nc (parts:=[(0,.tmp 32),(1,.const (Value.int .i64 8))]) (cs:=[_,_]) Q1 rfl Uf rfl rfl) (qV (KK z4G rfl) (qV ((by first|exact KJ U3 rfl rfl cV rfl|exact KJ U3 rfl rfl dJ rfl)) ?_))
 refine qV (Nc (parts:=[(0,.tmp 35),(1,.const (Value.int .i64 8))]) (cs:=[_,_]) Q1 rfl Uf rfl rfl) (qV (KK Oh rfl) (qV ((by first|exact KJ U3 rfl rfl cV rfl|exact KJ U3 rfl rfl dJ rfl)) ?_))
 refine qV (Nc (parts:=[(0,.tmp 38),(1,.const (Value.int .i64 32))]) (cs:=[_,_]) Q1 rfl Uf rfl rfl) (qV (KK PA rfl) (qV ((by first|exact KJ U3 rfl rfl cV rfl|exact KJ U3 rfl rfl dJ rfl)) ?_))
 refine qV (Nc (parts:=[(0,.tmp 41),(1,.const (Value.int .i64 64))]) (cs:=[_,_]) Q1 rfl Uf rfl rfl) (KL rfl rfl (Tb (parts:=[(0,.tmp 21),(1,.tmp 24),(2,.tmp 27),(3,.tmp 30),(4,.tmp 33),(5,.tmp 36),(6,.tmp 39),(7,.tmp 42)]) (cs:=[_,_,_,_,_,_,_,_,_,_,_,_,_,_,_,_]) (zs:=[Value.int .i64 0,Value.int .i64 0,Value.int .i64 0,Value.int .i64 0,Value.int .i64 0,Value.int .i64 0,Value.int .i64 0,Value.int .i64 0,Value.int .i64 0,Value.int .i64 0,Value.int .i64 0,Value.int .i64 0,Value.int .i64 0,Value.int .i64 0,Value.int .i64 0,Value.int .i64 0]) z8n Q1 rfl (by kernel_rfl) rfl rfl rfl (by decide)) ?_)
 rintro _ w6 ⟨b43,rfl,⟨Ax,aK,dy⟩,mn⟩
 have vh:=cb.trans aK
 have ku:=kQ.ext vh
 have z3:=ah.size
 have hL:(Tc h).length=8:=rfl
 replace mn:Sl w6 (.slice (some ⟨b43,0,none⟩) 8 8) 205 2 8 ((Tc h).flatMap fun q=>[I (q.1:Int),I (q.2:Int)]):=mn
 refine qV (LG z8n rfl) (An rfl (py (Lc.qb (e:=[(2,_),(3,_),(5,_),(43,_),(44,_),(45,_)]) ?_)))
 refine KB (MQ (α:=Nat) (0) (fun i=>[(5,ptr wp 0),(43,.slice (some ⟨b43,0,none⟩) 8 8),(44,I 8),(45,I (i:Int))]) (fun i w'=>WrR wp F w6 w' (Ms ((Tc h).take i))∧i≤8) (fun i=>8-i) ?hI ?hround)
 case hI=>exact⟨⟨F,ku,Kp.refl _ _,fun k hk=> .inl hk⟩,Nat.zero_le _⟩
 case hround=>
  rintro i w7 ⟨⟨F7,nF,aA,nG⟩,hi⟩ ih
  try dsimp only
  refine qN rfl (qV (LW rfl rfl) (py (run_seq (KQ rfl (fun h0=>?_) (fun h0=>?_)))))
  ·obtain⟨⟨v,c⟩,hq⟩:∃q,(Tc h)[i]? =some q:=⟨_,List.getElem?_eq_getElem (by rw[hL];omega)⟩
   have yB:v<2^c∧c≤64∧v≤134217728:=by
    have hm:=List.mem_of_getElem? hq;simp only[Tc,List.mem_cons,List.not_mem_nil,or_false,Prod.mk.injEq] at hm;rcases hm with⟨rfl,rfl⟩|⟨rfl,rfl⟩|⟨rfl,rfl⟩|⟨rfl,rfl⟩|⟨rfl,rfl⟩|⟨rfl,rfl⟩|⟨rfl,rfl⟩|⟨rfl,rfl⟩<;>refine⟨by omega,by omega,by omega⟩
   have g8:(Ms ((Tc h).take i)).length+c≤192:=by
    have e:Ms ((Tc h).take (i+1))=Ms ((Tc h).take i)++bitsN c v:=by rw[Ls hq];simp[Ms]
    have e2:=congrArg List.length e;rw[List.length_append,bitsN_length] at e2
    have e3:(Ms (Tc h)).length=(Ms ((Tc h).take (i+1))).length+(Ms ((Tc h).drop (i+1))).length:=by
     conv=>lhs;rw[←List.take_append_drop (i+1) (Tc h)]
     unfold Ms;rw[List.flatMap_append,List.length_append]
    have e4:=Pr h;omega
   have gK:=mn.kp aA (fun g hg e=>by have e1:b43=g:=MA hg;have:=ku.lt e;have:=kQ.lt e;have:=cb.size;omega);have jv:=Vj (f:=fun q:Nat×Nat=>[I (q.1:Int),I (q.2:Int)]) (fun _=>rfl) gK.rd hq;refine It (run_seq (KB (qN rfl (qV (Lt z8n Q1 rfl rfl (by omega)) (qV (La (news:=[I (v:Int),I (c:Int)]) zcy rfl Q1 rfl jv rfl) (KL rfl rfl (MN (cs:=[_,_]) Q1 rfl) ?_))))));rintro _ w8 ⟨b8,rfl,iU,cE,bU⟩;refine KR rfl (Lo (news:=[I (v:Int),I (c:Int)]) Q1 rfl rfl rfl rfl bU (by simp)) ?_;rintro w9 ⟨oR,aJ⟩;replace oR:KP w9 b8 [I (v:Int),I (c:Int)] 205:=oR;have hH:Ext w7 w9:=cE.Kz aJ (fun i e=>by omega);refine py (KF rfl (An rfl (qV (KK z6m rfl) (qV (KJ U3 rfl rfl oR rfl) (qV ((by first|exact Lw rfl U3 M3 (by omega)|exact MI rfl U3 M3)) ?_)))));refine qV (KK z6l rfl) (qV (KJ U3 rfl rfl oR rfl) (L2 [.tmp 49,.tmp 52,.tmp 54] QQ rfl (Na (nF.ext hH) v c yB.2.1 yB.1 (by omega)) ?_));rintro _ w10 ⟨rfl,F10,BB,au,bX⟩;refine py (KC (KF rfl (Lz rfl rfl (An rfl (py ((ih (i+1) _ ⟨⟨F10,?_,(aA.trans hH.kp).Kz au (fun k hk=>(nG k hk).symm),fun k hk=>?_⟩,by omega⟩ (by omega)).qb))))))
   ·rw[Ls hq,show Ms ((Tc h).take i++[(v,c)])=Ms ((Tc h).take i)++bitsN c v by simp[Ms]];exact BB
   ·rcases bX k hk with e| e
    ·exact nG k e
    ·have:=aA.size;have:=hH.size;exact .inr (by omega)
  ·have cL:i=8:=by omega
   subst cL;rw[show(Tc h).take 8=Tc h from rfl] at nF;refine KO rfl (qN rfl (An rfl (L2 [.tmp 58] z1c rfl (Rt nF) ?_)));rintro _ w8 ⟨rfl,rfl⟩;have dM:(L7 (Ms (Tc h))).length=24:=by rw[Lh,Pr]
   refine An rfl (qV (Ll rfl rfl) (qV (Ll rfl rfl) (KE rfl (KE rfl (qM rfl (An rfl (qV (SN rfl rfl (by first|omega|(simp;done)|(simp;omega))) ?_)))))));refine An rfl (KE rfl (KE rfl (py (KG Tryz.func69 rfl (⟨_,rfl,?_,((ad.trans aX).trans vh).Kz aA (fun k hk=>by have:=oI k hk;have:=af.size;have:=ad.size;omega)⟩)))));simp[resVal,hdT,z1j]
theorem z0m {w:World}{ga:Option Addr}{gc:Nat}{g:List (List Nat)}(h:GrM w (.slice ga g.length gc) g)(hg:N1 g):Le Tryz.prog 68 [.slice ga g.length gc] w fun u w'=>u=I (LR g:Int)∧w'=w:=by
 have hn:=hg.n
 obtain⟨vs,eT,jS⟩:=h.ex
 refine KA (e:=[(0,_)]) Tryz.func68 rfl Tryz.ntmps68 rfl rfl (qN rfl (KE rfl (qM rfl (KE rfl (py (run_seq (qN rfl (An rfl (qV (LG Rb rfl) (An rfl (py (KB (MQ (α:=Nat) (0) (fun i=>[(3,I (LR (g.take i):Int)),(6,.slice ga g.length gc),(7,I (g.length:Int)),(8,I (i:Int))]) (fun i w'=>w'=w∧i≤g.length) (fun i=>g.length-i) ?hI ?hround)))))))))))))
 case hI=>exact⟨rfl,Nat.zero_le _⟩
 case hround=>
  rintro i w4 ⟨rfl,hi⟩ ih;have rP:=OH hg i
  try dsimp only
  refine qN rfl (qV (LW rfl rfl) (py (run_seq (KQ rfl (fun h0=>?_) (fun h0=>?_)))))
  ·obtain⟨l,hl⟩:∃l,g[i]? =some l:=⟨_,List.getElem?_eq_getElem (by omega)⟩;have eM:=hg.len (List.mem_of_getElem? hl);obtain⟨a,c,e1,e2,e3⟩:=jS i l hl
   obtain⟨gb,go,gc',e4⟩:∃b o c',Value.slice ga g.length gc= .slice (some ⟨b,o,none⟩) g.length c':=by
    rcases eT.2 with⟨c,hc,h0⟩|⟨b,off,c',hc,-⟩
    ·omega
    ·exact⟨b,off,c',hc⟩
   cases e4;have yE:=RW (g.take i) l;rw[←Ls hl] at yE;refine It (run_seq (KB (qN rfl (qV (Lt Rb OC rfl rfl (by omega)) (qV (Lb L9 rfl rfl (LN eT e1)) (KE rfl (py (KF rfl (An rfl (An rfl (qV (LG L9 rfl) (Lz rfl rfl (KE rfl ?_)))))))))))));refine py (KC (KF rfl (Lz rfl rfl (An rfl (py ?_)))));rw[show(LR (g.take i):Int)+(l.length:Int)=(LR (g.take (i+1)):Int) by omega];exact(ih (i+1) _ ⟨rfl,by omega⟩ (by omega)).qb
  ·have cL:i=g.length:=by omega
   subst cL;rw[List.take_length];refine KO rfl (qN rfl (An rfl (KE rfl (py (KG Tryz.func68 rfl ?_)))));exact⟨_,rfl,rfl,rfl⟩
theorem Rz (p:LJ)(g:List (List Nat))(E:List (Nat×Nat)):∀(d i:Nat),(LY p g E i).length≤(LY p g E (i+d)).length
 |0,i=>Nat.le_refl _
 | d + 1, i => by
   have h:=Rz p g E d i;rw[←Nat.add_assoc,NM,List.length_append];omega
theorem z1f (p:LJ)(g:List (List Nat))(E:List (Nat×Nat))(n:Nat):Nof (QG p g E n):=by
 unfold QG Nof
 rw[List.pairwise_map]
 refine List.pairwise_lt_range.imp fun {i j} gH=>?_
 have:=Rz p g E (j-i) i
 rwa [show i+(j-i)=j by omega] at this
theorem UH (p:LJ)(g:List (List Nat))(E:List (Nat×Nat)){n i:Nat}(h:i≤n):(QG p g E n)[i]? =some (LY p g E i).length:=by
 unfold QG
 rw[List.getElem?_map,List.getElem?_range (by omega)];rfl
theorem z8a (p:LJ)(g:List (List Nat))(E:List (Nat×Nat))(n:Nat):∀v∈QG p g E n,v≤(LY p g E n).length:=fun v hv=>by
 unfold QG at hv
 obtain⟨j,hj,rfl⟩:=List.mem_map.1 hv
 have h1:=List.mem_range.1 hj
 have:=Rz p g E (n-j) j
 rwa [show j+(n-j)=n by omega] at this
theorem Z2 {l:List Nat}(du:1≤l.length)(hn:l.length≤64)(kW:Nof l){z:Nat}(hz:l[l.length-1]? =some z):(SA l (OG l.length (z+1))).length=(OG l.length (z+1)).size:=by
 have h1:=Va (OG l.length (z+1)).width kW hz
 have h2:=Pb (OG l.length (z+1)).width l
 have h3:(restB (OG l.length (z+1)).width l).length=32:=by
  cases l with
  |nil=>simp at du
  |cons v l=>simp[restB]
 have h4:(OG l.length (z+1)).bits=z / 2^(OG l.length (z+1)).width+l.length:=by
  show(z+1-1) / _+_=_;rw[Nat.add_sub_cancel]
  rfl
 unfold SA Fm.size Fm.Pv Fm.high
 rw[List.length_append,List.length_append,List.length_append,Lh,Lh,Lh,Lh,List.length_append,bitsN_length,bitsN_length,h1,h2,h3,h4]
 show _=12+(l.length*_+7) / 8+_+4*((l.length+63) / 64)
 have h5:(l.length+63) / 64=1:=by omega
 rw[h5]
def S1 (p:LJ)(g:List (List Nat))(E:List (Nat×Nat)):Bytes:=
 hdT ⟨g.length,LR g,p,(LY p g E g.length).length⟩++L7 (LY p g E g.length)++SA (QG p g E g.length) (OG (g.length+1) ((LY p g E g.length).length+1))
structure z4F (p:LJ)(g:List (List Nat))(E:List (Nat×Nat)):Prop where
 el:E.length=g.length
 ok:z7h p g E
 bits:(LY p g E g.length).length≤2688000
theorem z00 {w:World}{p:LJ}(hp:p.LS){g:List (List Nat)}(hg:N1 g)(aP:1≤g.length){ga:Option Addr}{gc:Nat}(lN:GrM w (.slice ga g.length gc) g)(hG:KP w 1 (Nu .gamma) 298)(hU:KP w 2 (Nu .unary) 298):
  Le Tryz.prog 42 [.slice ga g.length gc,bpV p] w fun u w'=>∃E,z4F p g E∧u= .tuple #[S (S1 p g E),I 0]∧Ext w w':=by
 have hn:=hg.n
 have rV:=OH hg g.length
 rw[List.take_length] at rV
 refine KA (e:=[(0,_),(1,_)]) Tryz.func42 rfl Tryz.ntmps42 rfl rfl (qN rfl (KL rfl rfl (Mz rfl (cs:=PO p) rfl) ?_))
 rintro _ w1 ⟨b3,rfl,eL,ad,ar⟩
 refine KE rfl (KE rfl (qM rfl (An rfl (qV (La (news:=PO p) Vq rfl ME rfl (ar.cells (n:=5) rfl) rfl) (L2 [.tmp 12,.tmp 13] zcK rfl (z2I hp hg (lN.ext ad) (ad.KD hG) (ad.KD hU)) ?_)))))
 rintro _ w2 ⟨E,v,rfl,pS,Hp,uL,cH,qu,af⟩
 have aL:=ad.trans af
 have aa:=Ext.L4 w2
 obtain⟨va,vc,rfl,-⟩:=cH.rd.shape
 have vm:=z1f p g E g.length
 have jh:=z8a p g E g.length
 have aD:=XM p g E g.length
 have pV:=UH p g E (Nat.le_refl g.length)
 obtain⟨vb,vc2,e5⟩:∃b c,Value.slice va (g.length+1) vc= .slice (some ⟨b,0,none⟩) (g.length+1) c:=by
  rcases cH.shape with⟨-,h0⟩|⟨b,c,e,hc⟩
  ·omega
  ·exact⟨b,c,e⟩
 cases e5
 refine An rfl (qV (Ll (v:=S (L7 (LY p g E g.length))) rfl rfl) (qV (Ll (v:= .slice (some ⟨vb,0,none⟩) (g.length+1) vc) rfl rfl) (qV (Ll (v:=I 0) rfl rfl) (KE rfl (KE rfl (KE rfl (py (run_seq (qN rfl (An rfl (qV (LQ rfl rfl) (py (Kx rfl ?_)))))))))))))
 refine It (run_seq ?_)
 have Hq:Zy.LS ⟨g.length,LR g,p,(LY p g E g.length).length⟩:=⟨aP,(by show g.length≤_;omega),(by show LR g≤_;omega),(by show(LY p g E g.length).length≤_;omega),hp⟩
 refine KN (fun w'=>Ext w2 w') (by kernel_rfl) rfl (KH 0 rfl (KM rfl) aa (KH 1 rfl (LG Rb rfl) aa (KH 2 rfl (KM rfl) aa (KH 5 rfl (KM rfl) aa (KH 6 rfl (KM rfl) aa (KH 7 rfl (LG Rb rfl) aa (KH 8 rfl (Lt Uo Nf rfl rfl (by omega)) aa (qT 4 rfl (fun _ hS=>La (news:=PO p) Vq rfl ME rfl ((hS.KD (af.KD ar)).cells (n:=5) rfl) rfl) aa (qT 9 rfl (fun _ hS=>Lb M3 rfl rfl (LN (cH.ext hS).rd (show((QG p g E g.length).map KV)[g.length]? =some (KV (LY p g E g.length).length) by rw[List.getElem?_map,pV];rfl))) aa ?_)))))))))
 refine KH 10 rfl (Ln rfl M3 U3 (by omega)) aa (OJ 3 [.tmp 24] rfl zce rfl (z0m ((lN.ext aL).ext aa) hg) ?_)
 rintro _ w3 ⟨rfl,rfl⟩
 refine⟨aa,?_⟩
 refine KH 11 rfl (Nc (parts:=[(0,.tmp 23),(1,.tmp 25),(2,.tmp 26),(3,.tmp 32)]) (cs:=[_,_,_,_,_,_,_,_]) OE rfl z7G rfl rfl) aa (OJ 12 [.tmp 33] rfl zcq rfl (z2P ⟨g.length,LR g,p,(LY p g E g.length).length⟩ Hq _) ?_)
 rintro _ w3 ⟨rfl,ah⟩
 refine⟨aa.trans ah,?_⟩
 have dI:=aa.trans ah
 refine KH 13 rfl (KM rfl) (aa.trans ah) (qT 14 rfl (fun _ hS=>Ll (v:=S (hdT ⟨g.length,LR g,p,(LY p g E g.length).length⟩)) rfl rfl) (aa.trans ah) (KH 16 rfl (ML rfl) (aa.trans ah) (KH 15 rfl (Ll (v:=I 0) rfl rfl) (aa.trans ah) (KH 17 rfl (ML rfl) (aa.trans ah) (qE (Lc.qb (e:=[(4,_),(5,_),(6,_),(7,_),(8,_),(9,_)]) ?_))))))
 refine run_seq (qN rfl (An rfl (qV (LQ rfl rfl) ?_)))
 have BC:Rd w3 (.slice (some ⟨vb,0,none⟩) (QG p g E g.length).length vc) 1 (QG p g E g.length).length ((QG p g E g.length).map KV):=by rw[aD];exact(cH.ext dI).rd
 have hz:(QG p g E g.length)[(QG p g E g.length).length-1]? =some (LY p g E g.length).length:=by rw[aD];exact pV
 have Aa:=Yb (by omega) (by omega) vm (fun v hv=>by have:=jh v hv;omega) BC hz
 have rP:=Z2 (by omega) (by omega) vm hz
 have Hr:(OG (QG p g E g.length).length ((LY p g E g.length).length+1)).size≤40000000:=by
  have h1:=XL (n:=(QG p g E g.length).length) (u:=(LY p g E g.length).length+1) (by omega) (by omega) (by omega) (by omega);have h2:=Fm.Ro h1;obtain⟨h3,h4,h5⟩:=h1;unfold Fm.size Fm.Pv;omega
 rw[aD] at Aa rP Hr
 have nT:=Ru ⟨g.length,LR g,p,(LY p g E g.length).length⟩
 have dM:=Lh (LY p g E g.length)
 refine py (Kx rfl (It (qN rfl (An rfl (L2 [.tmp 41] zdh rfl (Aa) ?_)))))
 rintro _ w4 ⟨rfl,aB⟩
 refine An rfl (qV (Ll (v:=S (SA (QG p g E g.length) (OG (g.length+1) ((LY p g E g.length).length+1)))) rfl rfl) (qV (Ll (v:=I 0) rfl rfl) (KE rfl (KE rfl (qM rfl (An rfl (An rfl (qV (SN rfl rfl (by first|omega|(simp;done)|(simp;omega))) ?_))))))))
 refine An rfl (qV (SN rfl rfl (by first|omega|(simp;done)|(simp;omega))) ?_)
 refine An rfl (KE rfl (KE rfl (py (KG Tryz.func42 rfl ?_))))
 exact⟨_,rfl,E,⟨pS,Hp,uL⟩,rfl,(aL.trans dI).trans aB⟩
/-! ### Bytes of a word, the least first -/
def val8:List Nat→Nat
 |[]=>0
 |b::r=>b+256*val8 r
theorem Q5 {s a b c d:Nat}(hb:b<2^s)(hd:d<2^s):(b+2^s*a)&&&(d+2^s*c)=(b&&&d)+2^s*(a&&&c):=by
 apply Nat.eq_of_testBit_eq
 intro j
 have uL:b&&&d<2^s:=Nat.lt_of_le_of_lt Nat.and_le_left hb
 rw[Nat.testBit_and,Nat.add_comm b,Nat.add_comm d,Nat.add_comm (b&&&d),Nat.testBit_two_pow_mul_add _ hb,Nat.testBit_two_pow_mul_add _ hd,Nat.testBit_two_pow_mul_add _ uL]
 by_cases h:j<s
 ·simp only[if_pos h,Nat.testBit_and]
 ·simp only[if_neg h,Nat.testBit_and]
theorem z6f {s a b m:Nat}(hb:b<2^s)(hm:m<2^s):(b+2^s*a)&&&m=b&&&m:=by
 have:=Q5 (a:=a) (c:=0) hb hm
 simpa using this
theorem Vl (m:Nat)(hm:m<256):∀L:List Nat,(∀b∈L,b<256)→val8 L&&&val8 (List.replicate L.length m)=val8 (L.map (·&&&m))
 |[],_=>by simp[val8]
 | b :: r, h => by
   have ih:=Vl m hm r (fun x hx=>h x (List.mem_cons_of_mem b hx));rw[List.length_cons,List.replicate_succ,val8,val8,List.map_cons,val8,←ih];exact Q5 (s:=8) (h b List.mem_cons_self) hm
theorem Xy (s m:Nat)(hs:s≤8)(hm:m<2^(8-s)):∀L:List Nat,(∀b∈L,b<256)→val8 L / 2^s&&&val8 (List.replicate L.length m)=val8 (L.map fun b=>b / 2^s&&&m)
 |[],_=>by simp[val8]
 | b :: r, h => by
   have ih:=Xy s m hs hm r (fun x hx=>h x (List.mem_cons_of_mem b hx));have hb:=h b List.mem_cons_self;have e256:256=2^s*2^(8-s):=by rw[←Nat.pow_add,show s+(8-s)=8 by omega]
   have hp:0<2^s:=Nat.two_pow_pos s;have vp:b / 2^s<2^(8-s):=by rw[Nat.div_lt_iff_lt_mul hp,Nat.mul_comm,←e256];exact hb
   have e1:(b+256*val8 r) / 2^s=b / 2^s+2^(8-s)*val8 r:=by
    rw[e256,Nat.mul_assoc,Nat.add_mul_div_left _ _ hp]
   have e2:b / 2^s+2^(8-s)*val8 r=(b / 2^s+2^(8-s)*(val8 r%2^s))+2^8*(val8 r / 2^s):=by
    have h1:=Nat.div_add_mod (val8 r) (2^s);have e3:2^8=2^(8-s)*2^s:=by rw[Nat.mul_comm];exact e256
    rw[e3,Nat.mul_assoc,Nat.add_assoc,←Nat.mul_add,Nat.add_comm (val8 r%2^s),h1]
   have h3:b / 2^s+2^(8-s)*(val8 r%2^s)<2^8:=by
    have h4:val8 r%2^s+1≤2^s:=Nat.mod_lt _ hp;have h5:=Nat.mul_le_mul_left (2^(8-s)) h4;rw[Nat.mul_add,Nat.mul_one] at h5;have e3:2^8=2^(8-s)*2^s:=by rw[Nat.mul_comm];exact e256
    omega
   have Hs:m<2^8:=Nat.lt_of_lt_of_le hm (Nat.pow_le_pow_right (by decide) (by omega));rw[List.length_cons,List.replicate_succ,val8,val8,List.map_cons,val8,←ih,e1,e2];have:=Q5 (s:=8) (a:=val8 r / 2^s) (c:=val8 (List.replicate r.length m)) h3 Hs;rw[show m+256*val8 (List.replicate r.length m)=m+2^8*val8 (List.replicate r.length m) from rfl,this,z6f vp hm]
theorem Vk (f g:Nat→Nat):∀L:List Nat,val8 (L.map f)+val8 (L.map g)=val8 (L.map fun b=>f b+g b)
 |[]=>rfl
 | b :: r => by
   rw[List.map_cons,List.map_cons,List.map_cons,val8,val8,val8,←Vk f g r,Nat.mul_add];omega
theorem XW:∀L:List Nat,(∀c∈L,c / 16≤4∧c%16≤4)→(val8 L / 16+val8 L)&&&val8 (List.replicate L.length 15)=val8 (L.map fun c=>c / 16+c%16)∧val8 L%16≤4
 |[],_=>⟨by simp[val8],by simp[val8]⟩
 | c :: r, h => by
   obtain⟨ih,ih2⟩:=XW r (fun x hx=>h x (List.mem_cons_of_mem c hx));obtain⟨h1,h2⟩:=h c List.mem_cons_self;have e:(c+256*val8 r) / 16+(c+256*val8 r)=(c / 16+16*(val8 r%16)+c)+2^8*(val8 r / 16+val8 r):=by omega
   have aQ:c / 16+16*(val8 r%16)+c<2^8:=by omega
   have Ht:(c / 16+16*(val8 r%16)+c)&&&15=c / 16+c%16:=by
    have:=Nat.and_two_pow_sub_one_eq_mod (c / 16+16*(val8 r%16)+c) 4;rw[show(2:Nat)^4-1=15 from rfl,show(2:Nat)^4=16 from rfl] at this;rw[this];omega
   refine⟨?_,by rw[val8];omega⟩;rw[List.length_cons,List.replicate_succ,val8,val8,List.map_cons,val8,←ih,e];have:=Q5 (s:=8) (a:=val8 r / 16+val8 r) (c:=val8 (List.replicate r.length 15)) aQ (by decide:15<2^8);rw[show 15+256*val8 (List.replicate r.length 15)=15+2^8*val8 (List.replicate r.length 15) from rfl,this,Ht]
theorem Yz:∀L:List Nat,(∀b∈L,b<256)→(bitsN (8*L.length) (val8 L)).count true=(L.map fun b=>(bitsN 8 b).count true).sum
 |[],_=>rfl
 | b :: r, h => by
   have ih:=Yz r (fun x hx=>h x (List.mem_cons_of_mem b hx));have hb:=h b List.mem_cons_self;rw[List.length_cons,Nat.mul_add,Nat.mul_one,MW,List.count_append,val8];have e1:(b+256*val8 r) / 2^8=val8 r:=by omega
   rw[List.map_cons,List.sum_cons,show(bitsN 8 (b+256*val8 r))=bitsN 8 b from QU (by omega),e1,ih];omega
def Wf (b:Nat):Nat:=(b / 2&&&85)+(b&&&85)
def s2B (b:Nat):Nat:=(b / 4&&&51)+(b&&&51)
theorem z36:∀b:Fin 256,Wf b<256∧s2B (Wf b)<256∧s2B (Wf b) / 16≤4∧s2B (Wf b)%16≤4∧s2B (Wf b) / 16+s2B (Wf b)%16=(bitsN 8 b).count true:=by decide+kernel
theorem RZ {b:Nat}(h:b<256):Wf b<256∧s2B (Wf b)<256∧s2B (Wf b) / 16≤4∧s2B (Wf b)%16≤4∧s2B (Wf b) / 16+s2B (Wf b)%16=(bitsN 8 b).count true:=z36 ⟨b,h⟩
def Ty (x:Nat):List Nat:=[x%256,x / 256%256,x / 65536%256,x / 16777216%256,x / 4294967296%256,x / 1099511627776%256,x / 281474976710656%256,x / 72057594037927936%256]
theorem z0j {x:Nat}(h:x<18446744073709551616):val8 (Ty x)=x:=by
 simp only[Ty,val8]
 omega
theorem z2i (x:Nat):∀b∈Ty x,b<256:=fun b hb=>by
 simp only[Ty,List.mem_cons,List.not_mem_nil,or_false] at hb
 rcases hb with rfl|rfl|rfl|rfl|rfl|rfl|rfl|rfl<;>exact Nat.mod_lt _ (by decide)
theorem ZP {x:Nat}(h:x<18446744073709551616):∃D:List Nat,D.length=8∧(∀d∈D,d≤8)∧
  ((((x / 2&&&6148914691236517205)+(x&&&6148914691236517205)) / 4&&&3689348814741910323)+(((x / 2&&&6148914691236517205)+(x&&&6148914691236517205))&&&3689348814741910323)) / 16+((((x / 2&&&6148914691236517205)+(x&&&6148914691236517205)) / 4&&&3689348814741910323)+(((x / 2&&&6148914691236517205)+(x&&&6148914691236517205))&&&3689348814741910323))&&&1085102592571150095=val8 D∧D.sum=(bitsN 64 x).count true:=by
 have hv:=z0j h
 have hl:=z2i x
 have hL:(Ty x).length=8:=rfl
 generalize Ty x=L at hv hl hL
 have m0:6148914691236517205=val8 (List.replicate L.length 85):=by rw[hL];rfl
 have m1:3689348814741910323=val8 (List.replicate L.length 51):=by rw[hL];rfl
 have m2:1085102592571150095=val8 (List.replicate L.length 15):=by rw[hL];rfl
 have f1:=Xy 1 85 (by decide) (by decide) L hl
 have f2:=Vl 85 (by decide) L hl
 rw[show(2:Nat)^1=2 from rfl] at f1
 have j6:∀b∈L.map Wf,b<256:=fun b hb=>by
  obtain⟨y,hy,rfl⟩:=List.mem_map.1 hb;exact(RZ (hl y hy)).1
 have e1:(x / 2&&&6148914691236517205)+(x&&&6148914691236517205)=val8 (L.map Wf):=by
  rw[m0,←hv,f1,f2,Vk];rfl
 have f3:=Xy 2 51 (by decide) (by decide) (L.map Wf) j6
 have f4:=Vl 51 (by decide) (L.map Wf) j6
 rw[show(2:Nat)^2=4 from rfl] at f3
 rw[List.length_map] at f3 f4
 have e2:(val8 (L.map Wf) / 4&&&3689348814741910323)+(val8 (L.map Wf)&&&3689348814741910323)=val8 ((L.map Wf).map s2B):=by
  rw[m1,f3,f4,Vk];rfl
 rw[e1,e2]
 have il:∀c∈(L.map Wf).map s2B,c / 16≤4∧c%16≤4:=fun c hc=>by
  obtain⟨z,hz,rfl⟩:=List.mem_map.1 hc;obtain⟨y,hy,rfl⟩:=List.mem_map.1 hz;have:=RZ (hl y hy);exact⟨this.2.2.1,this.2.2.2.1⟩
 have f5:=(XW _ il).1
 rw[List.length_map,List.length_map] at f5
 refine⟨((L.map Wf).map s2B).map fun c=>c / 16+c%16,by rw[List.length_map,List.length_map,List.length_map];exact hL,fun d hd=>?_,by rw[m2];exact f5,?_⟩
 ·obtain⟨c,hc,rfl⟩:=List.mem_map.1 hd;have:=il c hc;omega
 ·have rW:=Yz L hl;rw[hL,hv] at rW;rw[show 8*8=64 from rfl] at rW;rw[rW,List.map_map,List.map_map]
  congr 1
  refine List.map_congr_left fun b hb=>?_;exact(RZ (hl b hb)).2.2.2.2
theorem z5p {D:List Nat}(h8:D.length=8)(hd:∀d∈D,d≤8):let x4:=val8 D+val8 D / 256;let x5:=x4+x4 / 65536;let x6:=x5+x5 / 4294967296;val8 D<1152921504606846976∧x6%128=D.sum∧D.sum≤64:=by
 obtain⟨d0,d1,d2,d3,d4,d5,d6,d7,rfl⟩:∃d0 d1 d2 d3 d4 d5 d6 d7,D=[d0,d1,d2,d3,d4,d5,d6,d7]:=by
  match D,h8 with
  |[a,b,c,d,e,f,g,i],_=>exact⟨a,b,c,d,e,f,g,i,rfl⟩
 have k0:=hd d0 (by simp)
 have k1:=hd d1 (by simp)
 have k2:=hd d2 (by simp)
 have k3:=hd d3 (by simp)
 have k4:=hd d4 (by simp)
 have k5:=hd d5 (by simp)
 have k6:=hd d6 (by simp)
 have k7:=hd d7 (by simp)
 have h3:val8 [d0,d1,d2,d3,d4,d5,d6,d7] / 256=val8 [d1,d2,d3,d4,d5,d6,d7]:=by
  rw[val8,Nat.add_mul_div_left _ _ (by decide),Nat.div_eq_of_lt (by omega),Nat.zero_add]
 have h4:val8 [d0,d1,d2,d3,d4,d5,d6,d7]+val8 [d1,d2,d3,d4,d5,d6,d7]=(d0+d1+256*(d1+d2))+65536*((d2+d3)+256*(d3+d4)+65536*((d4+d5)+256*(d5+d6)+65536*((d6+d7)+256*d7))):=by
  simp only[val8];omega
 have h5:(val8 [d0,d1,d2,d3,d4,d5,d6,d7]+val8 [d1,d2,d3,d4,d5,d6,d7]) / 65536=(d2+d3)+256*(d3+d4)+65536*((d4+d5)+256*(d5+d6)+65536*((d6+d7)+256*d7)):=by
  rw[h4,Nat.add_mul_div_left _ _ (by decide),Nat.div_eq_of_lt (by omega),Nat.zero_add]
 dsimp only
 rw[h3,h5,h4]
 have h6:(d0+d1+256*(d1+d2))+65536*((d2+d3)+256*(d3+d4)+65536*((d4+d5)+256*(d5+d6)+65536*((d6+d7)+256*d7)))+((d2+d3)+256*(d3+d4)+65536*((d4+d5)+256*(d5+d6)+65536*((d6+d7)+256*d7)))=
   ((d0+d1+d2+d3)+256*(d1+d2+d3+d4)+65536*((d2+d3+d4+d5)+256*(d3+d4+d5+d6)))+4294967296*((d4+d5+d6+d7)+256*(d5+d6+d7)+65536*(d6+d7+256*d7)):=by omega
 rw[h6,Nat.add_mul_div_left _ _ (by decide),Nat.div_eq_of_lt (by omega),Nat.zero_add]
 refine⟨by simp only[val8];omega,?_,by simp only[List.sum_cons,List.sum_nil];omega⟩
 simp only[List.sum_cons,List.sum_nil]
 have h7:(d0+d1+d2+d3)+256*(d1+d2+d3+d4)+65536*((d2+d3+d4+d5)+256*(d3+d4+d5+d6))+4294967296*((d4+d5+d6+d7)+256*(d5+d6+d7)+65536*(d6+d7+256*d7))+((d4+d5+d6+d7)+256*(d5+d6+d7)+65536*(d6+d7+256*d7))=
   (d0+d1+d2+d3+d4+d5+d6+d7)+128*(2*(d1+d2+d3+d4)+512*((d2+d3+d4+d5)+256*(d3+d4+d5+d6))+33554432*((d4+d5+d6+d7)+256*(d5+d6+d7)+65536*(d6+d7+256*d7))+(2*(d5+d6+d7)+512*(d6+d7+256*d7))):=by omega
 rw[h7,Nat.add_mul_mod_self_left,Nat.mod_eq_of_lt (by omega)]
 omega
theorem z5k (x:Nat)(hx:x<18446744073709551616)(w:World):Le Tryz.prog 217 [KV x] w fun v w'=>v=I ((bitsN 64 x).count true:Int)∧w'=w:=by
 obtain⟨D,h1,h2,h3,h4⟩:=ZP hx
 obtain⟨f1,f2,f3⟩:=z5p h1 h2
 have a1:x / 2&&&6148914691236517205≤6148914691236517205:=Nat.and_le_right
 have a2:x&&&6148914691236517205≤6148914691236517205:=Nat.and_le_right
 rw[←h4]
 refine KA (e:=[(0,_)]) Tryz.func217 rfl Tryz.ntmps217 rfl rfl (qN rfl (KE rfl (qM rfl (An rfl (qV (Ps 1 2 rfl rfl (by decide) rfl) (qV (Ph rfl rfl (by omega) (by omega)) (An rfl (qV (Ph rfl rfl (by omega) (by omega)) (qV (OD rfl rfl) (KE rfl (qM rfl ?_)))))))))))
 rw[Nat.mod_eq_of_lt (show(x / 2&&&6148914691236517205)+(x&&&6148914691236517205)<18446744073709551616 by omega)]
 generalize hy:(x / 2&&&6148914691236517205)+(x&&&6148914691236517205)=y at h3
 have vt:y<18446744073709551616:=by omega
 have a3:y / 4&&&3689348814741910323≤3689348814741910323:=Nat.and_le_right
 have a4:y&&&3689348814741910323≤3689348814741910323:=Nat.and_le_right
 refine An rfl (qV (Ps 2 4 rfl rfl (by decide) rfl) (qV (Ph rfl rfl (by omega) (by omega)) (An rfl (qV (Ph rfl rfl (by omega) (by omega)) (qV (OD rfl rfl) (KE rfl (qM rfl ?_)))))))
 rw[Nat.mod_eq_of_lt (show(y / 4&&&3689348814741910323)+(y&&&3689348814741910323)<18446744073709551616 by omega)]
 generalize hz:(y / 4&&&3689348814741910323)+(y&&&3689348814741910323)=z at h3
 have lV:z≤7378697629483820646:=by omega
 refine An rfl (qV (Ps 4 16 rfl rfl (by decide) rfl) (An rfl (qV (OD rfl rfl) ?_)))
 rw[Nat.mod_eq_of_lt (show z / 16+z<18446744073709551616 by omega)]
 refine qV (Ph rfl rfl (by omega) (by omega)) (KE rfl (qM rfl ?_))
 rw[h3]
 generalize val8 D=x3 at f1 f2
 refine An rfl (An rfl (qV (Ps 8 256 rfl rfl (by decide) rfl) (qV (OD rfl rfl) (KE rfl (qM rfl ?_)))))
 rw[Nat.mod_eq_of_lt (show x3+x3 / 256<18446744073709551616 by omega)]
 generalize aB:x3+x3 / 256=x4 at f2
 have vw:x4≤1157495777000000000:=by omega
 refine An rfl (An rfl (qV (Ps 16 65536 rfl rfl (by decide) rfl) (qV (OD rfl rfl) (KE rfl (py (Lc.qb (e:=[(0,_),(2,_)]) ?_))))))
 refine qN rfl ?_
 rw[Nat.mod_eq_of_lt (show x4+x4 / 65536<18446744073709551616 by omega)]
 generalize aR:x4+x4 / 65536=x5 at f2
 have rX:x5≤1160000000000000000:=by omega
 refine An rfl (An rfl (qV (Ps 32 4294967296 rfl rfl (by decide) rfl) (qV (OD rfl rfl) (KE rfl (qM rfl ?_)))))
 rw[Nat.mod_eq_of_lt (show x5+x5 / 4294967296<18446744073709551616 by omega)]
 generalize aK:x5+x5 / 4294967296=x6 at f2
 have Hu:x6≤1170000000000000000:=by omega
 refine An rfl (qV (Ln rfl M3 U3 (by omega)) (qV (RS rfl rfl (by omega) (by omega)) ?_))
 rw[show x6&&&127=D.sum by rw[←f2];exact Nat.and_two_pow_sub_one_eq_mod x6 7]
 refine KE rfl (py (KG Tryz.func217 rfl ?_))
 exact⟨_,rfl,rfl,rfl⟩
theorem z3o {x:Nat}(hx:x<18446744073709551616):Lr x≤64:=Mj (by omega)
theorem z5n (x:Nat)(hx:x<18446744073709551616)(w:World):Le Tryz.prog 218 [KV x] w fun v w'=>v=I ((64-Lr x:Nat):Int)∧w'=w:=by
 have qx:=z3o hx
 refine KA (e:=[(0,_)]) Tryz.func218 rfl Tryz.ntmps218 rfl rfl (qN rfl (KE rfl (qM rfl (An rfl (L2 [.tmp 3] Wx rfl (P3 x hx w) ?_)))))
 rintro _ w ⟨rfl,rfl⟩
 refine qV (M8 rfl rfl (by omega)) ?_
 rw[show(64:Int)-(Lr x:Int)=((64-Lr x:Nat):Int) by omega]
 refine KE rfl (py (KG Tryz.func218 rfl ?_))
 exact⟨_,rfl,rfl,rfl⟩
def methT (P:Program)(t:TypeId)(name:String):Option FuncId:=match P.info? t with
 | some i => match i.methods.toList.find? (·.name == name) with
   | some m => match m.path.toList, m.func with
     | [], some (f, pr) => match P.underlying t with
       |some (.pointer _)=>cond pr (some f) none
       |some _=>cond pr none (some f)
       |none=>none
     |_,_=>none
   |none=>none
 |none=>none
section
variable {P:Program}{e:Env}{d:Option Nat}{ty t t':TypeId}{pos:String}{aft:Array Edge}{g:Option (Nat×Bool)}{x y:Operand}{w:World}{m n:Nat}
theorem OB {i:TypeInfo}(h:P.info? t=some i):(typeInfo t).run P w= .ok i w:=by simp[typeInfo,program,Sem.run,h]
theorem z2M {f:FuncId}{name:String}{u:Value}(h:methT P t name=some f)(n:Nat):(method (n+1) t u name).run P w= .ok (f,u) w:=by
 unfold methT at h
 split at h<;>try cases h
 rename_i i hi
 split at h<;>try cases h
 rename_i m hm
 split at h<;>try cases h
 rename_i f' pr iF iG
 have mz:i.methods.find? (·.name==name)=some m:=by rw[←hm,Array.find?_toList]
 split at h<;>try cases h
 ·rename_i el hu
  cases pr<;>simp at h;subst h;simp[method,OB hi,mz,iF,follow,iG,receiverAt,run_underlying hu,Place.get]
 ·rename_i td EO hu
  cases pr<;>simp at h;subst h;unfold method;simp only[Sem.run_bind,OB hi,Result.andThen_ok,mz,iF,follow,Sem.run_pure,iG,receiverAt,run_underlying hu,Place.get]
theorem yci {f:FuncId}{nm:String}{args:List Operand}{ts:Array TypeId}{vs:List Value}{u:Value}(hf:CF P f)(hm:methT P t nm=some f)(hx:look e x=some (.iface t u))(ha:looks e args=some vs):
  Yc P e ⟨d,.call ⟨.invoke x nm,args.toArray,ts⟩,ty,pos,aft,g⟩ f (u::vs) w:=fun ρ hρ=>by
 have yM:=fun w=>z2M (P:=P) (w:=w) (u:=u) hm (P.types.size+(Made.depth-1))
 rw[show P.types.size+(Made.depth-1)+1=P.types.size+Made.depth from rfl] at yM
 have rj:(program).run P w= .ok P w:=rfl
 have mz:=On hρ _ _ ha
 have h0:=hρ _ _ hx
 simp[execOp,resolve,mz,h0,Deferred.ofValue,invoke,callMethod,rj,yM,NW hf]
theorem z8H (hx:look e x=some (I (m:Int)))(hy:look e y=some (I 7))(hm:m<2^62):Y P e ⟨d,.binOp .andNot t x y t',ty,pos,aft,g⟩ (I ((m / 8*8:Nat):Int)) w w:=fun ρ hρ=>by
 have h1:m<2^IntKind.i64.bits:=by simp only[IntKind.bits];omega
 have h3:m&&&18446744073709551608=m / 8*8:=by
  have h4:=Q5 (s:=3) (a:=m / 8) (b:=m%8) (c:=2305843009213693951) (d:=0) (Nat.mod_lt _ (by decide)) (by decide);rw[Nat.and_zero,Nat.zero_add,Nat.zero_add] at h4;have h5:=Nat.and_two_pow_sub_one_eq_mod (m / 8) 61;rw[show(2:Nat)^61-1=2305843009213693951 from rfl,Nat.mod_eq_of_lt (by omega)] at h5;rw[h5,show(2:Nat)^3=8 from rfl,show 8*2305843009213693951=18446744073709551608 from rfl,show m%8+8*(m / 8)=m by omega] at h4;rw[h4];omega
 have h6:(BitVec.ofInt IntKind.i64.bits (m:Int)&&&~~~(BitVec.ofInt IntKind.i64.bits 7)).toNat=m / 8*8:=by
  rw[BitVec.toNat_and,M5 h1,show(~~~(BitVec.ofInt IntKind.i64.bits 7)).toNat=18446744073709551608 by decide,h3]
 simp only[execOp,eqGuard_andNot,binOp_andNot,intBits_andNot,hρ _ _ hx,hρ _ _ hy,pure_bind,Sem.run_pure,bits,h6]
 rw[wrap_i64 ⟨by omega,by omega⟩]
theorem zcR {r v q:Nat}(hr:r≤63)(hv:v<2^r)(hq:2^r=q)(hx:look e x=some (.int .u64 ((q+v:Nat):Int)))(hy:look e y=some (.int .u64 (q:Int))):Y P e ⟨d,.binOp .andNot t x y t',ty,pos,aft,g⟩ (.int .u64 (v:Int)) w w:=fun ρ hρ=>by
 subst hq
 have hp:2^r≤2^63:=Nat.pow_le_pow_right (by decide) hr
 have qx:2^64=2^r*2^(64-r):=by rw[←Nat.pow_add,show r+(64-r)=64 by omega]
 have h2:2^(64-r)=2*2^(63-r):=by rw[←Nat.pow_succ',show 64-r=(63-r)+1 by omega]
 have Ar:0<2^(63-r):=Nat.two_pow_pos _
 have h1:2^r+v<2^IntKind.u64.bits:=by simp only[IntKind.bits];omega
 have h3:2^r<2^IntKind.u64.bits:=by simp only[IntKind.bits];omega
 have h4:(2^r+v)&&&(2^64-1-2^r)=v:=by
  have h5:=Q5 (s:=r) (a:=1) (b:=v) (c:=2^(64-r)-2) (d:=2^r-1) hv (by have:=Nat.two_pow_pos r;omega);rw[Nat.mul_one,Nat.and_two_pow_sub_one_eq_mod,Nat.mod_eq_of_lt hv,Nat.one_and_eq_mod_two,h2,show(2*2^(63-r)-2)%2=0 by omega,Nat.mul_zero,Nat.add_zero] at h5
  have h6:2^r-1+2^r*(2*2^(63-r)-2)=2^64-1-2^r:=by
   rw[Nat.mul_sub,←h2,←qx];have:=Nat.two_pow_pos r;omega
  rw[h6,Nat.add_comm v] at h5;exact h5
 have h6:(BitVec.ofInt IntKind.u64.bits ((2^r+v:Nat):Int)&&&~~~(BitVec.ofInt IntKind.u64.bits ((2^r:Nat):Int))).toNat=v:=by
  rw[BitVec.toNat_and,BitVec.toNat_not,M5 h1,M5 h3];exact h4
 simp only[execOp,eqGuard_andNot,binOp_andNot,intBits_andNot,hρ _ _ hx,hρ _ _ hy,pure_bind,Sem.run_pure,bits,h6]
 rw[VT (k:= .u64) rfl (by simp only[IntKind.bits];omega)]
end
structure Src (t:TypeId)(u:Value)(T:Bytes) where
 inv:(Nat→Prop)→World→Prop
 fl:FuncId
 fr:FuncId
 cl:CF Tryz.prog fl
 cr:CF Tryz.prog fr
 ml:methT Tryz.prog t "Length"=some fl
 mr:methT Tryz.prog t "ReadAt"=some fr
 ext:∀{X Y:Nat→Prop} {w w':World},inv X w→Ext w w'→(∀k,Y k→X k∨w.heap.size≤k)→inv Y w'
 step:∀{X Y S:Nat→Prop} {w w':World},inv X w→Kp S w w'→(∀k,S k→X k)→(∀k,Y k→X k∨w.heap.size≤k)→inv Y w'
 len:∀{X:Nat→Prop} {w:World},inv X w→Le Tryz.prog fl [u] w fun v w'=>v=I (T.length:Int)∧Ext w w'
 rd:∀{X:Nat→Prop} {w:World} (off n:Nat),inv X w→(∀k,X k→k<w.heap.size)→off+n≤T.length→Le Tryz.prog fr [u,I (off:Int),I (n:Int)] w fun v w'=>v= .tuple #[S ((T.drop off).take n),I 0]∧inv X w'∧Kp (fun k=>¬X k) w w'
theorem Src.own {t:TypeId}{u:Value}{T:Bytes}(R:Src t u T){X S:Nat→Prop}{w w':World}(h:R.inv X w)(hk:Kp S w w')(hS:∀k,S k→X k):R.inv X w':=R.step h hk hS fun _ e=> .inl e
theorem Vr {s:Bytes}{i:Nat}{c:UInt8}(h:s[i]? =some c):valB (L0 (s.take (i+1)))=valB (L0 (s.take i))*256+c.toNat:=by
 rw[Ls h,Sw,MR,show L0 [c]=bitsN 8 c.toNat by simp[L0],Ly,bitsN_length]
 have:=c.toNat_lt
 omega
theorem Rx (s:Bytes)(hs:s.length≤8)(w:World):Le Tryz.prog 149 [S s] w fun v w'=>v=KV (valB (L0 s))∧Ext w w':=by
 refine KA (e:=[(0,_)]) Tryz.func149 rfl Tryz.ntmps149 rfl rfl (qN rfl (KE rfl (qM rfl (KE rfl (py (run_seq (qN rfl (An rfl (KL rfl rfl (z4H U9 LU U5 rfl) ?_)))))))))
 rintro _ w1 ⟨b7,c7,rest,rfl,⟨kr,ad,ai⟩,Bj⟩
 refine qV (LG LU rfl) (An rfl (py (KB (MQ (α:=Nat) (0) (fun i=>[(3,KV (valB (L0 (s.take i)))),(7,.slice (some ⟨b7,0,none⟩) s.length c7),(8,I (s.length:Int)),(9,I (i:Int))]) (fun i w'=>w'=w1∧i≤s.length) (fun i=>s.length-i) ?hI ?hround))))
 case hI=>exact⟨rfl,Nat.zero_le _⟩
 case hround=>
  rintro i w2 ⟨rfl,hi⟩ ih
  try dsimp only
  refine qN rfl (qV (LW rfl rfl) (py (run_seq (KQ rfl (fun h0=>?_) (fun h0=>?_)))))
  ·obtain⟨c,hc⟩:∃c,s[i]? =some c:=⟨_,List.getElem?_eq_getElem (by omega)⟩;have fY:=c.toNat_lt;have ki:=Vr hc
   have aQ:valB (L0 (s.take i))<72057594037927936:=by
    have h1:=Mk (L0 (s.take i));rw[bitsT_length,List.length_take] at h1;have h2:2^(8*min i s.length)≤2^56:=Nat.pow_le_pow_right (by decide) (by omega);omega
   have bh:w2.cell? ⟨b7,0+i*1,none⟩=some (Od c):=by
    rw[ai.cell,Nat.zero_add,Nat.mul_one,List.getElem?_append_left (by rw[List.length_map];omega),List.getElem?_map,hc];rfl
   refine It (run_seq (KB (qN rfl (qV (Lt LU Sf rfl rfl (by omega)) (qV (Lb U5 rfl rfl bh) ?_)))))
   generalize valB (L0 (s.take i))=q at ki aQ
   refine KE rfl (py (KF rfl (An rfl (qV (Mq 8 256 rfl rfl (by decide) rfl) (An rfl (qV ((by first|exact z2t rfl U5 M3 (by decide)|exact Lw rfl U5 M3 (by omega))) ?_))))));refine qV (Vu rfl rfl (by omega) (by omega)) ?_
   have nC:(q*256%18446744073709551616 |||c.toNat)=valB (L0 (s.take (i+1))):=by
    rw[ki,Nat.mod_eq_of_lt (by omega),Nat.mul_comm q];exact(Nat.two_pow_add_eq_or_of_lt (i:=8) fY q).symm
   rw[nC];refine KE rfl (py (KC (KF rfl (Lz rfl rfl (An rfl (py ?_))))));exact(ih (i+1) _ ⟨rfl,by omega⟩ (by omega)).qb
  ·have cL:i=s.length:=by omega
   subst cL;rw[List.take_length];refine KO rfl (qN rfl (An rfl (KE rfl (py (KG Tryz.func149 rfl ?_)))));exact⟨_,rfl,rfl,ad⟩
section
variable {P:Program}{e:Env}{d:Option Nat}{ty t t':TypeId}{pos:String}{aft:Array Edge}{g:Option (Nat×Bool)}{x y:Operand}{w:World}
theorem z6T {ms:Array (String×TypeId)}{tx:TypeId}{v:Value}(ht:P.underlying t=some (.interface ms)):(binOp .eql t (.iface tx v) .nilIface).run P w= .ok (.bool false) w:=by
 have h:P.methodsAt t=ms:=by unfold Program.methodsAt;rw[ht]
 exact run_eql_held_nil w t tx v (by rw[h];exact ht)
theorem z7X {ms:Array (String×TypeId)}{tx:TypeId}{v:Value}(ht:P.underlying t=some (.interface ms))(hx:look e x=some (.iface tx v))(hy:look e y=some .nilIface):Y P e ⟨d,.binOp .eql t x y t',ty,pos,aft,g⟩ (.bool false) w w:=fun ρ hρ=>by
 have hg:∀a b,(eqGuard .eql t a b (.iface tx v) .nilIface).run P w= .ok () w:=fun a b=>rfl
 simp only[execOp,hρ _ _ hx,hρ _ _ hy,Sem.run_bind,hg,Result.andThen_ok,z6T ht,Sem.run_pure]
theorem z9W {tx:TypeId}{v:Value}(hx:look e x=some (.iface tx v)):Y P e ⟨d,.nilCheck x,ty,pos,aft,g⟩ (.iface tx v) w w:=fun ρ hρ=>by simp[execOp,hρ _ _ hx]
end
structure Q8 (l:List Nat)(f:Fm)(z:Nat):Prop where
 n1:1≤l.length
 n2:l.length≤64
 nof:Nof l
 last:l[l.length-1]? =some z
 zb:z≤999999998
 fe:f=OG l.length (z+1)
theorem Q8.small {l:List Nat}{f:Fm}{z:Nat}(h:Q8 l f z):f.small:=by
 rw[h.fe]
 exact XL h.n1 (by have:=h.n2;omega) (by omega) (by have:=h.zb;omega)
theorem Q8.len {l:List Nat}{f:Fm}{z:Nat}(h:Q8 l f z):(SA l f).length=f.size:=by
 rw[h.fe]
 exact Z2 h.n1 h.n2 h.nof h.last
theorem Q8.n {l:List Nat}{f:Fm}{z:Nat}(h:Q8 l f z):f.n=l.length:=by rw[h.fe];rfl
theorem Q8.u {l:List Nat}{f:Fm}{z:Nat}(h:Q8 l f z):f.u=z+1:=by rw[h.fe];rfl
theorem Q8.size_le {l:List Nat}{f:Fm}{z:Nat}(h:Q8 l f z):f.size≤40000000∧12≤f.size:=by
 have h1:=h.small
 have h2:=Fm.Ro h1
 obtain⟨h3,h4,h5⟩:=h1
 unfold Fm.size Fm.Pv
 have:12≤f.high:=by unfold Fm.high;omega
 omega
theorem piece {A B C:Bytes}{off n o:Nat}(h:off=A.length+o)(hn:o+n≤B.length):((A++B++C).drop off).take n=(B.drop o).take n:=by
 rw[h,List.append_assoc,List.drop_length_add_append,List.drop_append_of_le_length (by omega),List.take_append_of_le_length (by rw[List.length_drop];omega)]
def NO (f:Fm):List Bool:=bitsN 32 f.n++bitsN 64 f.u
theorem WR (f:Fm):L0 (L7 (NO f))=NO f:=by
 obtain⟨z,h1,h2,h3⟩:=N4 (NO f)
 have hl:(NO f).length=96:=by simp[NO]
 have hz:z=0:=by omega
 rw[h1,hz,List.replicate_zero,List.append_nil]
theorem P4 (f:Fm):(L7 (NO f)).length=12:=by
 rw[Lh];simp[NO]
theorem z8F (f:Fm)(hn:f.n<4294967296):valB (L0 ((L7 (NO f)).take 4))=f.n:=by
 rw[P6,WR]
 unfold NO
 rw[List.take_left' (by simp),Ly]
 exact Nat.mod_eq_of_lt hn
theorem z8N (f:Fm)(hu:f.u<18446744073709551616):valB (L0 ((L7 (NO f)).drop 4))=f.u:=by
 rw[Ou,WR]
 unfold NO
 rw[List.drop_left' (by simp),Ly]
 exact Nat.mod_eq_of_lt hu
theorem z4y (l:List Nat)(f:Fm):((SA l f).drop 0).take 12=L7 (NO f):=by
 have h:=piece (A:=[]) (B:=L7 (NO f)) (C:=L7 (Nd f.width l)++(L7 (hiB f.width 0 0 l)++L7 (restB f.width l))) (off:=0) (n:=12) (o:=0) rfl (by rw[P4];omega)
 rw[List.nil_append] at h
 unfold SA
 rw[List.append_assoc,List.append_assoc]
 refine h.trans ?_
 rw[List.drop_zero,List.take_of_length_le (by rw[P4];omega)]
def elC (f:Fm)(t:TypeId)(u:Value):List Value:=[I (f.n:Int),KV f.u,I (f.width:Int),I (f.bits:Int),.iface t u]
theorem z0y {t:TypeId}{u:Value}{l:List Nat}{f:Fm}{z:Nat}(he:Q8 l f z)(R:Src t u (SA l f)){X:Nat→Prop}{w:World}(hI:R.inv X w)(hX:∀k,X k→k<w.heap.size):
  Le Tryz.prog 114 [.iface t u] w fun v w'=>∃x,v= .tuple #[ptr x 0,I 0]∧KP w' x (elC f t u) 271∧w.heap.size≤x∧R.inv (fun k=>X k∨k=x) w'∧Kp (fun k=>¬X k) w w':=by
 obtain⟨dz,dB⟩:=he.size_le
 have aD:=he.len
 have ou:=he.n
 have yJ:=he.u
 have iX:=he.n2
 have du:=he.n1
 have tT:=he.zb
 refine KA (e:=[(0,_)]) Tryz.func114 rfl Tryz.ntmps114 rfl rfl (qN rfl (KE rfl (KE rfl (py (run_seq (KB (qN rfl (An rfl (qV (z7X YY rfl rfl) (KE rfl (py (Kx rfl (qN rfl ?_)))))))))))))
 refine An rfl (Mb rfl rfl (yci (args:=[]) R.cl R.ml rfl rfl) (R.len hI) ?_)
 rintro _ w1 ⟨rfl,ad⟩
 rw[aD]
 have kY:=R.ext hI ad (fun k hk=> .inl hk)
 have kj:∀k,X k→k<w1.heap.size:=fun k hk=>by have:=hX k hk;have:=ad.size;omega
 refine qV (LW rfl rfl) (Lq (KE rfl (py (Kx rfl (It (KC (qN rfl (An rfl (Mb rfl rfl (yci (args:=[.const (Value.int .i64 0),.const (Value.int .i64 12)]) R.cr R.mr rfl rfl) (R.rd 0 12 kY kj (by rw[aD];omega)) ?_)))))))))
 rintro _ w2 ⟨rfl,cG,am⟩
 rw[z4y]
 have dK:Kp (fun k=>¬X k) w w2:=ad.kp.trans am
 have fW:∀k,X k→k<w2.heap.size:=fun k hk=>by have:=kj k hk;have:=am.size;omega
 have nT:=P4 f
 have nR:((L7 (NO f)).take 4).length≤8:=by rw[List.length_take];omega
 have jQ:((L7 (NO f)).drop 4).length≤8:=by rw[List.length_drop];omega
 have vx:=z8F f (by omega)
 have EP:=z8N f (by omega)
 generalize L7 (NO f)=hb at nT nR jQ vx EP
 have aa:=Ext.L4 w2
 refine An rfl (qV (Ll rfl rfl) (qV (Ll rfl rfl) (KE rfl (KE rfl (py (run_seq (qN rfl (An rfl (qV (LQ rfl rfl) (py (Kx rfl (It (run_seq ?_)))))))))))))
 refine KN (fun w'=>Ext w2 w') (by kernel_rfl) rfl (KH 0 rfl (KM rfl) aa (KH 1 rfl (Zu U9 rfl rfl (by omega)) aa (KH 3 rfl (KM rfl) aa (KH 4 rfl (UR U9 rfl rfl (by omega)) aa (OJ 2 [.tmp 25] rfl z1B rfl (Rx (hb.take 4) nR _) ?_)))))
 rintro _ w3 ⟨rfl,ah⟩
 refine⟨aa.trans ah,?_⟩
 refine OJ 5 [.tmp 28] rfl z1B rfl (Rx (hb.drop 4) jQ _) ?_
 rintro _ w4 ⟨rfl,aB⟩
 refine⟨(aa.trans ah).trans aB,?_⟩
 have dh:=(aa.trans ah).trans aB
 rw[vx,EP]
 have mL:=R.ext cG dh (fun k hk=> .inl hk)
 refine KH 6 rfl (ML rfl) ((aa.trans ah).trans aB) (KH 7 rfl (ML rfl) ((aa.trans ah).trans aB) (qE (Lc.qb (e:=[(0,_),(2,_),(3,_),(6,_),(7,_)]) ?_)))
 refine run_seq (qN rfl (An rfl (qV (LH rfl rfl) (Lq (An rfl (An rfl (qV (LH rfl rfl) (Lq (qV (Lk rfl rfl) (An rfl (An rfl (qV (Mc rfl rfl) (Lq ?_)))))))))))))
 refine An rfl (qV (Mc rfl rfl) (Lq (qV (YW rfl rfl U4) (qV (Lk rfl rfl) (py (Kx rfl (It (qN rfl (An rfl (qV (Ln rfl M3 U3 (by omega)) (An rfl ?_)))))))))))
 have Hv:OG f.n f.u=f:=by rw[ou,yJ];exact he.fe.symm
 have lL:=Sd f.n f.u (by omega) (by omega) (by omega) (by omega) w4
 rw[Hv] at lL
 refine L2 [.tmp 44,.tmp 45] z4e rfl (lL) ?_
 rintro _ w5 ⟨rfl,aR⟩
 refine KL rfl rfl (MN (cs:=[_,_,_,_]) O9 rfl) ?_
 rintro _ w6 ⟨b8,rfl,iU,aK,bU⟩
 refine KR rfl (Lo (news:=fmC f) O9 rfl rfl rfl rfl bU (by simp)) ?_
 rintro w7 ⟨oS,aA⟩
 replace oS:KP w7 b8 (fmC f) 210:=oS
 have oL:Ext w5 w7:=aK.Kz aA (fun i e=>by omega)
 have vy:=aR.trans oL
 have j0:=R.ext mL vy (fun k hk=> .inl hk)
 refine py (run_seq (qN rfl (qV (La (news:=fmC f) Yt rfl O9 rfl (oS.cells (n:=4) rfl) rfl) (L2 [.tmp 47] z6Z rfl (WC f he.small _) ?_))))
 rintro _ w8 ⟨rfl,cE⟩
 have BD:=R.ext j0 cE (fun k hk=> .inl hk)
 refine An rfl (Mb rfl rfl (yci (args:=[]) R.cl R.ml rfl rfl) (R.len BD) ?_)
 rintro _ w9 ⟨rfl,eS⟩
 rw[aD]
 have j3:=R.ext BD eS (fun k hk=> .inl hk)
 have hH:=cE.trans eS
 have vz:=(dh.trans vy).trans hH
 refine qV (LQ rfl rfl) (Lq (py (Lc.qb (e:=[(0,_),(2,_),(3,_),(8,_),(51,_)]) ?_)))
 refine Kx rfl (It (qN rfl (qV (La (news:=fmC f) Yt rfl O9 rfl ((hH.KD oS).cells (n:=4) rfl) rfl) (An rfl (qV (Nc (parts:=[(0,.tmp 52),(1,.tmp 53)]) (cs:=[_,_,_,_,_]) zak rfl z9f rfl rfl) (KL rfl rfl (Mz rfl (cs:=elC f t u) rfl) ?_))))))
 rintro _ w10 ⟨x,rfl,hx,bB,dU⟩
 refine KE rfl (KE rfl (py (KG Tryz.func114 rfl ?_)))
 exact⟨_,rfl,x,rfl,dU,by have:=dK.size;have:=vz.size;omega,R.ext j3 bB (fun k hk=>hk.imp id fun e=>by omega),dK.trans (vz.trans bB).kp⟩
theorem z2Y {t:TypeId}{u:Value}{f:Fm}{x:Nat}{w:World}(hB:KP w x (elC f t u) 271):Le Tryz.prog 115 [ptr x 0] w fun v w'=>v=I (f.n:Int)∧w'=w:=by
 replace hB:KP w x [I (f.n:Int),KV f.u,I (f.width:Int),I (f.bits:Int),.iface t u] 271:=hB
 refine KA (e:=[(0,_)]) Tryz.func115 rfl Tryz.ntmps115 rfl rfl (qN rfl (KE rfl (py (run_seq (qN rfl (An rfl (qV (LO Sz rfl rfl) (py (Kx rfl (It (qN rfl (An rfl (qV (KZ rfl) ?_)))))))))))))
 refine qV (KK Ni rfl) (qV (KK SQ rfl) (qV (KJ U3 rfl rfl hB rfl) (KE rfl (py (KG Tryz.func115 rfl ?_)))))
 exact⟨_,rfl,rfl,rfl⟩
theorem z5u (k:Nat)(a b:List Nat):Nd k (a++b)=Nd k a++Nd k b:=by simp[Nd]
theorem z6h {k i v:Nat}{l:List Nat}(h:l[i]? =some v)(rest:List Bool):((Nd k l++rest).drop (i*k)).take k=bitsN k (v%2^k):=by
 have hi:=(List.getElem?_eq_some_iff.1 h).1
 have e:l=l.take i++(v::l.drop (i+1)):=by
  conv=>lhs;rw[←List.take_append_drop i l]
  congr 1
  rw[List.drop_eq_getElem_cons hi,(List.getElem?_eq_some_iff.1 h).2]
 have hl:(Nd k (l.take i)).length=i*k:=by rw[Pb,List.length_take,Nat.min_eq_left (by omega)]
 rw[e,z5u,List.append_assoc,List.drop_left' hl]
 show((bitsN k (v%2^k)++Nd k (l.drop (i+1)))++rest).take k=_
 rw[List.append_assoc,List.take_left' (by simp)]
theorem We {B:Bytes}{o n a m:Nat}(h:a+m≤8*n):((L0 ((B.drop o).take n)).drop a).take m=((L0 B).drop (8*o+a)).take m:=by
 rw[P6,Ou,List.drop_take,List.drop_drop,List.take_take,Nat.min_eq_left (by omega)]
theorem z5P (l:List Nat)(f:Fm){o n:Nat}(h:o+n≤(L7 (Nd f.width l)).length):((SA l f).drop (12+o)).take n=((L7 (Nd f.width l)).drop o).take n:=by
 unfold SA
 rw[List.append_assoc (L7 (bitsN 32 f.n++bitsN 64 f.u)++L7 (Nd f.width l))]
 exact piece (by rw[show L7 (bitsN 32 f.n++bitsN 64 f.u)=L7 (NO f) from rfl,P4]) h
theorem z2f {t:TypeId}{u:Value}{l:List Nat}{f:Fm}{z:Nat}(he:Q8 l f z)(R:Src t u (SA l f)){X:Nat→Prop}{w:World}(hI:R.inv X w)(hX:∀k,X k→k<w.heap.size){x:Nat}(hx:X x)(hB:KP w x (elC f t u) 271){i v:Nat}(hv:l[i]? =some v):
  Le Tryz.prog 206 [ptr x 0,I (i:Int)] w fun r w'=>r= .tuple #[KV (v%2^f.width),I 0]∧R.inv X w'∧Kp (fun k=>¬X k) w w':=by
 have cL:=(List.getElem?_eq_some_iff.1 hv).1
 have aD:=he.len
 obtain⟨um,vA⟩:=he.size_le
 have iX:=he.n2
 have tD:f.width≤30:=by rw[he.fe];exact Ts (by have:=he.zb;omega)
 replace hB:KP w x [I (f.n:Int),KV f.u,I (f.width:Int),I (f.bits:Int),.iface t u] 271:=hB
 refine KA (e:=[(0,_),(1,_)]) Tryz.func206 rfl Tryz.ntmps206 rfl rfl (qN rfl (KE rfl (KE rfl (py (run_seq (qN rfl (An rfl (qV (KZ rfl) (qV (KK Ni rfl) (qV (KK Oc rfl) (qV (KJ U3 rfl rfl hB rfl) (qV (Mc rfl rfl) (py ?_)))))))))))))
 refine KQ rfl (fun h0=>?_) (fun h0=>?_)
 ·have mb:f.width=0:=by omega
  refine qN rfl (KE rfl (KE rfl (py (KG Tryz.func206 rfl (⟨_,rfl,?_,hI,Kp.refl _ _⟩)))));rw[mb,Nat.pow_zero,Nat.mod_one]
  rfl
 ·have Et:1≤f.width:=by omega
  have Hw:i*f.width≤64*30:=Nat.mul_le_mul (by omega) tD;have EQ:(i+1)*f.width=i*f.width+f.width:=by rw[Nat.add_mul,Nat.one_mul]
  have eJ:(i+1)*f.width≤l.length*f.width:=Nat.mul_le_mul_right _ cL;have e1:((i*f.width:Nat):Int)=(i:Int)*(f.width:Int):=Int.natCast_mul _ _;have e2:(((i+1)*f.width:Nat):Int)=((i:Int)+1)*(f.width:Int):=Int.natCast_mul _ _;have hg:=Ext.L4 w;refine It (run_seq (KN (fun w'=>Ext w w') (by kernel_rfl) rfl (KH 0 rfl (KM rfl) hg (KH 1 rfl (KM rfl) hg (KH 2 rfl (KZ rfl) hg (KH 3 rfl (KK Ni rfl) hg (KH 4 rfl (KK Oc rfl) hg (qT 5 rfl (fun _ h=>KJ U3 rfl rfl (h.KD hB) rfl) hg (KH 7 rfl (KM rfl) hg (KH 8 rfl (PW rfl rfl (by omega)) hg (KH 9 rfl (KM rfl) hg (KH 10 rfl (KZ rfl) hg (KH 11 rfl (KK Ni rfl) hg ?_)))))))))))));refine KH 12 rfl (KK Oc rfl) hg (qT 13 rfl (fun _ h=>KJ U3 rfl rfl (h.KD hB) rfl) hg (KH 6 rfl (SD rfl rfl (by rw[←e1];omega)) hg ?_));rw[←e1];refine KH 15 rfl (ML rfl) hg (KH 14 rfl (SD rfl rfl (by rw[←e2];omega)) hg ?_);rw[←e2,EQ];refine KH 16 rfl (ML rfl) hg (qE (Lc.qb (e:=[(0,_),(4,_),(5,_),(6,_),(7,_)]) ?_));refine qN rfl (An rfl (qV (KZ rfl) (qV (KK XO rfl) (qV (KJ YY rfl rfl hB rfl) (An rfl (qV (Ra rfl rfl (by omega)) (Lz rfl rfl (An rfl (Lz rfl rfl (qV (Ra rfl rfl (by omega)) (An rfl (qV (Ra rfl rfl (by omega)) (qV (M8 rfl rfl (by omega)) ?_)))))))))))));have vB:=hg.KD hB;have Hx:=R.ext hI hg (fun k hk=> .inl hk);have Hy:∀k,X k→k<w.drew.heap.size:=fun k hk=>by have:=hX k hk;have:=hg.size;omega
  have BE:(L7 (Nd f.width l)).length=(l.length*f.width+7) / 8:=by rw[Lh,Pb]
  have BF:=z6h (k:=f.width) hv;have oc:∀rest,((Nd f.width l++rest).drop (i*f.width)).take f.width=bitsN f.width (v%2^f.width):=BF;rw[EQ] at eJ
  generalize i*f.width=fr at Hw eJ oc e1
  rw[show(12:Int)+(fr:Int) / 8=((12+fr / 8:Nat):Int) by omega,show((fr+f.width:Nat):Int)+7=((fr+f.width+7:Nat):Int) by omega,show((fr+f.width+7:Nat):Int) / 8-(fr:Int) / 8=(((fr+f.width+7) / 8-fr / 8:Nat):Int) by omega];have rY:fr / 8+((fr+f.width+7) / 8-fr / 8)≤(L7 (Nd f.width l)).length:=by rw[BE];omega
  have kq:=z5P l f rY
  have rZ:12+fr / 8+((fr+f.width+7) / 8-fr / 8)≤(SA l f).length:=by
   have e:(SA l f).length=12+(L7 (Nd f.width l)).length+(L7 (hiB f.width 0 0 l)).length+(L7 (restB f.width l)).length:=by
    unfold SA;rw[List.length_append,List.length_append,List.length_append,show L7 (bitsN 32 f.n++bitsN 64 f.u)=L7 (NO f) from rfl,P4]
   omega
  refine Mb rfl rfl (yci (args:=[.tmp 41,.tmp 47]) R.cr R.mr rfl rfl) (R.rd (12+fr / 8) ((fr+f.width+7) / 8-fr / 8) Hx Hy rZ) ?_;rintro _ w1 ⟨rfl,kY,aN⟩;rw[kq];have kZ:Kp (fun k=>¬X k) w w1:=hg.kp.trans aN;have ai:=kZ.KD hB (fun e=>e hx)
  have dM:(((L7 (Nd f.width l)).drop (fr / 8)).take ((fr+f.width+7) / 8-fr / 8)).length=(fr+f.width+7) / 8-fr / 8:=by
   rw[List.length_take,List.length_drop];omega
  obtain⟨zz,lV,-,-⟩:=N4 (Nd f.width l);have bN:=We (B:=L7 (Nd f.width l)) (o:=fr / 8) (n:=(fr+f.width+7) / 8-fr / 8) (a:=fr%8) (m:=f.width) (by omega);rw[show 8*(fr / 8)+fr%8=fr by omega,lV,oc] at bN
  generalize ((L7 (Nd f.width l)).drop (fr / 8)).take ((fr+f.width+7) / 8-fr / 8)=pt at dM bN
  refine An rfl (qV (Ll rfl rfl) (qV (Ll rfl rfl) (KE rfl (KE rfl (py (run_seq (qN rfl (An rfl (qV (LQ rfl rfl) (py (Lc.qb (e:=[(0,_),(4,_),(5,_),(6,_),(8,_),(9,_),(52,_)]) ?_)))))))))));refine Kx rfl (It (qN rfl (An rfl (L2 [.tmp 54] z19 rfl (Re pt (by omega) w1) ?_))));rintro _ w2 ⟨r,rfl,df,af,et⟩;refine KE rfl (qM rfl (An rfl (An rfl (qV (RS rfl rfl (by omega) (by omega)) ?_))));rw[show fr&&&7=fr%8 from Nat.and_two_pow_sub_one_eq_mod fr 3];refine L2 [.tmp 56,.tmp 58] z4c rfl (TG df (fr%8) (by omega)) ?_;rintro _ w3 ⟨rfl,nW,ax⟩;have aX:Ext w1 w3:=af.Kz ax (fun i e=>by omega);have ar:=aX.KD ai;refine qM rfl (An rfl (An rfl (qV (KZ rfl) (qV (KK Ni rfl) (qV (KK Oc rfl) (qV (KJ U3 rfl rfl ar rfl) (L2 [.tmp 61,.tmp 66] YZ rfl (Q0 nW f.width (by omega)) ?_)))))));rintro v4 w4 ti
  have io:v4= .tuple #[KV (v%2^f.width),I 0]∧Kp (fun k=>k=r) w3 w4:=by
   rcases ti with⟨-,e,-,hk⟩|⟨e,-,-⟩
   ·rw[bN,Ly,Nat.mod_mod] at e;exact⟨e,hk⟩
   ·omega
  obtain⟨rfl,av⟩:=io;have cN:Ext w1 w4:=aX.Kz av (fun i e=>by omega);refine An rfl (qV (Ll rfl rfl) (qV (Ll rfl rfl) (KE rfl (KE rfl (py (Lc.qb (e:=[(4,_),(5,_),(11,_)]) ?_))))));refine qN rfl (An rfl (KE rfl (KE rfl (py (KG Tryz.func206 rfl ?_)))));exact⟨_,rfl,rfl,R.ext kY cN (fun k hk=> .inl hk),kZ.trans cN.kp⟩
theorem Vc (n:Nat):valB (List.replicate n false)=0:=by
 rw[←Qi,Ly];simp
theorem Yv (b:List Bool)(k:Nat):valB (b++List.replicate k false)=valB b*2^k:=by
 rw[MR,Vc,List.length_replicate,Nat.add_zero]
theorem WT (b:List Bool)(k:Nat):valB (List.replicate k false++b)=valB b:=by
 rw[MR,Vc];simp
theorem VL {D:List Bool}{a b m:Nat}(ha:m≤D.length+a)(hb:m≤D.length+b):(D++List.replicate a false).take m=(D++List.replicate b false).take m:=by
 rw[List.take_append,List.take_append,List.take_replicate,List.take_replicate,Nat.min_eq_left (by omega),Nat.min_eq_left (by omega)]
def XS (H:List Bool)(a:Nat):List Bool:=List.replicate (a%8) false++(H.drop a++List.replicate 64 false).take (64-a%8)
theorem z1A (H:List Bool)(a:Nat):(XS H a).length=64:=by
 unfold XS
 rw[List.length_append,List.length_replicate,List.length_take,List.length_append,List.length_replicate]
 omega
theorem z2w {H:List Bool}{fq n:Nat}(hf:8*fq<H.length)(hn:n=min 8 ((H.length+7) / 8-fq)):
  L0 (((L7 H).drop fq).take n)++List.replicate (64-8*n) false=(H.drop (8*fq)++List.replicate 64 false).take 64:=by
 obtain⟨z,h1,h2,h3⟩:=N4 H
 rw[P6,Ou,h1,List.drop_append_of_le_length (by omega)]
 have hD:(H.drop (8*fq)).length=H.length-8*fq:=List.length_drop
 generalize H.drop (8*fq)=D at hD
 rcases Nat.lt_or_ge n 8 with h| h
 ·have e:8*n=D.length+z:=by omega
  rw[List.take_of_length_le (by rw[List.length_append,List.length_replicate];omega),List.append_assoc,List.replicate_append_replicate];rw[VL (a:=64) (b:=z+(64-8*n)) (by omega) (by omega),List.take_of_length_le (by rw[List.length_append,List.length_replicate];omega)]
 ·have e:n=8:=by omega
  subst e;rw[show 64-8*8=0 from rfl,List.replicate_zero,List.append_nil];exact VL (by omega) (by omega)
theorem z38 {W:List Bool}(hW:W.length=64){d:Nat}(hd:d≤64):valB W%2^(64-d)=valB (List.replicate d false++W.drop d):=by
 have h1:=MR (W.take d) (W.drop d)
 rw[List.take_append_drop,List.length_drop,hW] at h1
 have h2:=Mk (W.drop d)
 rw[List.length_drop,hW] at h2
 rw[WT,h1,Nat.add_comm,Nat.add_mul_mod_self_right,Nat.mod_eq_of_lt h2]
theorem z3y {H:List Bool}{a:Nat}(ha:a<H.length):List.replicate (a%8) false++((H.drop (8*(a / 8))++List.replicate 64 false).take 64).drop (a%8)=XS H a:=by
 unfold XS
 congr 1
 have hd:a%8≤(H.drop (8*(a / 8))).length:=by rw[List.length_drop];omega
 rw[List.drop_take,List.drop_append_of_le_length hd,List.drop_drop,show 8*(a / 8)+a%8=a by omega]
theorem z3M {H:List Bool}{a r:Nat}(ha:a<H.length)(hr:a / 8*8+64=H.length+r):∃q,valB (XS H a)=q*2^r:=by
 have hD:(H.drop a).length=H.length-a:=List.length_drop
 refine⟨valB (List.replicate (a%8) false++H.drop a),?_⟩
 rw[←Yv]
 congr 1
 unfold XS
 rw[List.append_assoc,VL (a:=64) (b:=r) (by omega) (by omega),List.take_of_length_le (by rw[List.length_append,List.length_replicate];omega)]
theorem z2p {d:Nat}(hd:d≤64):18446744073709551615 / 2^d=2^(64-d)-1:=by
 have hp:0<2^d:=Nat.two_pow_pos d
 have h1:2^64=2^d*2^(64-d):=by rw[←Nat.pow_add,show d+(64-d)=64 by omega]
 have h2:0<2^(64-d):=Nat.two_pow_pos _
 have h3:18446744073709551615=(2^d-1)+2^d*(2^(64-d)-1):=by
  rw[Nat.mul_sub,←h1,Nat.mul_one];have h4:2^d≤2^64:=Nat.pow_le_pow_right (by decide) hd;omega
 rw[h3,Nat.add_mul_div_left _ _ hp,Nat.div_eq_of_lt (by omega),Nat.zero_add]
theorem z22 {b:List Bool}(h:b.length=64):valB b<18446744073709551616:=by
 have:=Mk b
 rw[h] at this
 exact this
theorem z8L (l:List Nat)(f:Fm)(hf:f.high=12+(L7 (Nd f.width l)).length){o n:Nat}(h:o+n≤(L7 (hiB f.width 0 0 l)).length):((SA l f).drop (f.high+o)).take n=((L7 (hiB f.width 0 0 l)).drop o).take n:=by
 unfold SA
 exact piece (by rw[List.length_append,show L7 (bitsN 32 f.n++bitsN 64 f.u)=L7 (NO f) from rfl,P4,hf]) h
theorem Q8.high {l:List Nat}{f:Fm}{z:Nat}(he:Q8 l f z):f.high=12+(L7 (Nd f.width l)).length:=by
 unfold Fm.high
 rw[Lh,Pb,he.n]
theorem Q8.bits {l:List Nat}{f:Fm}{z:Nat}(he:Q8 l f z):f.bits=(hiB f.width 0 0 l).length:=by
 rw[Va f.width he.nof he.last]
 rw[he.fe]
 show(z+1-1) / _+_=_
 rw[Nat.add_sub_cancel]
 rfl
theorem ZX {t:TypeId}{u:Value}{l:List Nat}{f:Fm}{z:Nat}(he:Q8 l f z)(R:Src t u (SA l f)){X:Nat→Prop}{w:World}(hI:R.inv X w)(hX:∀k,X k→k<w.heap.size){x b3 b8 v0:Nat}(hx:X x)(h3:X b3)(h8:X b8)(qv:b8≠x∧b8≠b3)(hB:KP w x (elC f t u) 271)(ar:KP w b3 [ptr x 0] 131)(bU:KP w b8 [KV v0] 41){a:Nat}(ha:a<f.bits):
  Le Tryz.prog 216 [I (a:Int),ptr b3 0,ptr b8 0] w fun r w'=>r=I 0∧R.inv X w'∧Kp (fun k=>¬X k∨k=b8) w w'∧KP w' b8 [KV (valB (XS (hiB f.width 0 0 l) a))] 41:=by
 have aD:=he.len
 obtain⟨um,vA⟩:=he.size_le
 have s0:=he.small
 have nT:=Fm.Ro s0
 have g8:=s0.2.2
 have bN:=he.bits
 have vC:=he.high
 have dM:(L7 (hiB f.width 0 0 l)).length=(f.bits+7) / 8:=by rw[Lh,bN]
 replace hB:KP w x [I (f.n:Int),KV f.u,I (f.width:Int),I (f.bits:Int),.iface t u] 271:=hB
 refine KA (e:=[(0,_),(1,_),(2,_)]) Tryz.func216 rfl Tryz.ntmps216 rfl rfl (qN rfl (KE rfl (qM rfl (An rfl (qV (z8H rfl rfl (by omega)) (KE rfl (qM rfl (qV ((by first|exact KJ Sz rfl rfl hB rfl|exact KJ Sz rfl rfl ar rfl)) ?_))))))))
 refine qV (KZ rfl) (qV (KK Ni rfl) (qV (KK SF rfl) (qV ((by first|exact KJ U3 rfl rfl hB rfl|exact KJ U3 rfl rfl ar rfl)) ?_)))
 refine Lz rfl rfl (qV (Ra rfl rfl (by omega)) (An rfl (qV (Ra rfl rfl (by omega)) (qV (M8 rfl rfl (by omega)) ?_))))
 rw[show((f.bits:Int)+7) / 8-((a / 8*8:Nat):Int) / 8=(((f.bits+7) / 8-a / 8:Nat):Int) by omega]
 refine qV (ymi rfl rfl) ?_
 rw[show min (8:Int) (((f.bits+7) / 8-a / 8:Nat):Int)=((min 8 ((f.bits+7) / 8-a / 8):Nat):Int) by omega]
 obtain⟨n,hn⟩:∃n,n=min 8 ((f.bits+7) / 8-a / 8):=⟨_,rfl⟩
 rw[←hn]
 have hg:=Ext.L4 w
 refine KE rfl (py (run_seq (KN (fun w'=>Kp (fun k=>¬X k) w w') (by kernel_rfl) rfl (qT 0 rfl (fun _ hS=>(by first|exact KJ Sz rfl rfl (hS.KD hB (fun e=>e hx)) rfl|exact KJ Sz rfl rfl (hS.KD ar (fun e=>e h3)) rfl)) (hg.kp) ?_))))
 refine KH 1 rfl (KZ rfl) (hg.kp) (KH 2 rfl (KK XO rfl) (hg.kp) (qT 3 rfl (fun _ hS=>(by first|exact KJ YY rfl rfl (hS.KD hB (fun e=>e hx)) rfl|exact KJ YY rfl rfl (hS.KD ar (fun e=>e h3)) rfl)) (hg.kp) ?_))
 refine qT 4 rfl (fun _ hS=>(by first|exact KJ Sz rfl rfl (hS.KD hB (fun e=>e hx)) rfl|exact KJ Sz rfl rfl (hS.KD ar (fun e=>e h3)) rfl)) (hg.kp) ?_
 refine KH 5 rfl (KZ rfl) (hg.kp) (KH 6 rfl (KK Ni rfl) (hg.kp) (KH 9 rfl (KM rfl) (hg.kp) (KH 10 rfl (Ra rfl rfl (by omega)) (hg.kp) (KH 12 rfl (KM rfl) (hg.kp) (qT 7 rfl (fun _ hS=>La (news:=fmC f) Yt rfl O9 rfl ((hS.KD hB (fun e=>e hx)).cells (n:=4) rfl) rfl) (hg.kp) (KH 13 rfl (z9W rfl) (hg.kp) (KH 14 rfl (KM rfl) (hg.kp) (OJ 8 [.tmp 31] rfl z7p rfl (Zs f s0 _) ?_))))))))
 rintro _ w1 ⟨rfl,ad⟩
 refine⟨(hg.trans ad).kp,?_⟩
 have bR:=hg.trans ad
 refine KH 11 rfl (PW rfl rfl (by omega)) ((hg.trans ad).kp) ?_
 rw[show(f.high:Int)+((a / 8*8:Nat):Int) / 8=((f.high+a / 8:Nat):Int) by omega]
 have kY:=R.ext hI bR (fun k hk=> .inl hk)
 have kj:∀k,X k→k<w1.heap.size:=fun k hk=>by have:=hX k hk;have:=bR.size;omega
 have rY:a / 8+n≤(L7 (hiB f.width 0 0 l)).length:=by rw[dM];omega
 have rZ:f.high+a / 8+n≤(SA l f).length:=by
  rw[aD];have e:f.size=f.Pv+4*((f.n+63) / 64):=rfl;have e2:f.Pv=f.high+(f.bits+7) / 8:=rfl;omega
 have kq:=z8L l f vC rY
 have mH:=z2w (H:=hiB f.width 0 0 l) (fq:=a / 8) (n:=n) (by omega) (by rw[←bN];exact hn)
 refine qO 15 (QN (i:=15) rfl rfl rfl (yci (args:=[.tmp 35,.tmp 36]) R.cr R.mr rfl rfl) (R.rd (f.high+a / 8) n kY kj rZ) ?_)
 rintro _ w2 ⟨rfl,cG,am⟩
 refine⟨bR.kp.trans am,?_⟩
 rw[kq]
 have dK:Kp (fun k=>¬X k) w w2:=bR.kp.trans am
 have ak:=dK.KD hB (fun e=>e hx)
 have gO:=dK.KD ar (fun e=>e h3)
 have rG:=dK.KD bU (fun e=>e h8)
 have BG:(((L7 (hiB f.width 0 0 l)).drop (a / 8)).take n).length=n:=by rw[List.length_take,List.length_drop];omega
 generalize ((L7 (hiB f.width 0 0 l)).drop (a / 8)).take n=pt at mH BG
 refine KH 16 rfl (KM rfl) (bR.kp.trans am) (KH 17 rfl (Ll rfl rfl) (bR.kp.trans am) (KH 18 rfl (Ll rfl rfl) (bR.kp.trans am) (KH 19 rfl (ML rfl) (bR.kp.trans am) (KH 20 rfl (ML rfl) (bR.kp.trans am) (qE (Lc.qb (e:=[(0,_),(1,_),(2,_),(4,_),(5,_),(6,_),(7,_),(8,_)]) ?_))))))
 refine qN rfl (An rfl (L2 [.tmp 42] z1B rfl (Rx pt (by omega) w2) ?_))
 rintro _ w3 ⟨rfl,ah⟩
 refine An rfl (qV (SD rfl rfl (by omega)) (qV (M8 rfl rfl (by omega)) ?_))
 rw[show(64:Int)-8*(n:Int)=((64-8*n:Nat):Int) by omega]
 refine qV (Mq (64-8*n) (2^(64-8*n)) rfl rfl (by omega) rfl) ?_
 have BH:=Yv (L0 pt) (64-8*n)
 rw[mH] at BH
 have Hz:((hiB f.width 0 0 l).drop (8*(a / 8))++List.replicate 64 false).take 64=((hiB f.width 0 0 l).drop (8*(a / 8))++List.replicate 64 false).take 64:=rfl
 obtain⟨W0,vD⟩:∃W0,W0=((hiB f.width 0 0 l).drop (8*(a / 8))++List.replicate 64 false).take 64:=⟨_,rfl⟩
 have vE:W0.length=64:=by rw[vD,List.length_take,List.length_append,List.length_replicate];omega
 have ER:=z3y (H:=hiB f.width 0 0 l) (a:=a) (by omega)
 rw[←vD] at BH ER
 have eJ:=z38 vE (d:=a%8) (by omega)
 rw[ER] at eJ
 have BI:=z22 vE
 rw[←BH,Nat.mod_eq_of_lt BI]
 refine KR rfl (Mn Nf rfl rfl rfl (ah.KD rG) (by simp)) ?_
 rintro w4 ⟨dZ,av⟩
 replace dZ:KP w4 b8 [KV (valB W0)] 41:=dZ
 have aI:=av.KD (ah.KD ak) (fun e=>qv.1 e.symm)
 have cW:=av.KD (ah.KD gO) (fun e=>qv.2 e.symm)
 have mL:=R.own (R.ext cG ah (fun k hk=> .inl hk)) av (fun k e=>by rw[e];exact h8)
 have ae:=Ext.L4 w4
 refine py (run_seq (L5 [6] (fun w'=>Ext w4 w') (by kernel_rfl) rfl (qL [5,6] 0 rfl (fun _ h=>KJ M3 rfl rfl (h.KD dZ) rfl) ae (qL [3,4,5,6] 1 rfl (fun _ h=>KM rfl) ae (qL [3,4,5,6] 2 rfl (fun _ h=>KM rfl) ae (qL [4,5,6] 3 rfl (fun _ h=>M8 rfl rfl (by omega)) ae ?_))))))
 rw[show(a:Int)-((a / 8*8:Nat):Int)=((a%8:Nat):Int) by omega]
 refine qL [5,6] 4 rfl (fun _ h=>Ps (m:=18446744073709551615) (a%8) (2^(a%8)) rfl rfl (by show a%8≤64;omega) rfl) ae ?_
 rw[z2p (d:=a%8) (by omega)]
 have HA:2^(64-a%8)≤2^64:=Nat.pow_le_pow_right (by decide) (by omega)
 refine qL [6] 5 rfl (fun _ h=>Ph rfl rfl (by omega) (by omega)) ae ?_
 rw[Nat.and_two_pow_sub_one_eq_mod,eJ]
 refine Lu [6] (by kernel_rfl) (by kernel_rfl) (qO 6 (Lm (i:=6) rfl rfl (Mn Nf rfl rfl rfl (ae.KD dZ) (by simp)) ?_))
 rintro w5 ⟨bA,aj⟩
 refine⟨trivial,?_⟩
 replace bA:KP w5 b8 [KV (valB (XS (hiB f.width 0 0 l) a))] 41:=bA
 have aG:=aj.KD (ae.KD aI) (fun e=>qv.1 e.symm)
 have ci:=aj.KD (ae.KD cW) (fun e=>qv.2 e.symm)
 have jq:=R.own (R.ext mL ae (fun k hk=> .inl hk)) aj (fun k e=>by rw[e];exact h8)
 have cq:Kp (fun k=>¬X k∨k=b8) w w5:=(((dK.KT fun k e=> .inl e).trans ah.kp).trans (av.KT fun k e=> .inr e)).trans (ae.kp.trans (aj.KT fun k e=> .inr e))
 have BJ:=z22 (z1A (hiB f.width 0 0 l) a)
 refine qE (run_seq (qN rfl (An rfl (Lz rfl rfl (qV ((by first|exact KJ Sz rfl rfl aG rfl|exact KJ Sz rfl rfl ci rfl)) ?_)))))
 refine qV (KZ rfl) (qV (KK Ni rfl) (qV (KK SF rfl) (qV ((by first|exact KJ U3 rfl rfl aG rfl|exact KJ U3 rfl rfl ci rfl)) ?_)))
 refine qV (M8 rfl rfl (by omega)) (KE rfl (py (Lc.qb (e:=[(2,_),(4,_),(8,_),(9,_)]) ?_)))
 refine qN rfl (An rfl (qV (LH rfl rfl) (py (KQ rfl (fun h0=>?_) (fun h0=>?_)))))
 ·obtain⟨r,hr⟩:∃r,a / 8*8+64=f.bits+r:=⟨a / 8*8+64-f.bits,by omega⟩;obtain⟨q,hq⟩:=z3M (H:=hiB f.width 0 0 l) (a:=a) (r:=r) (by omega) (by omega);rw[show((a / 8*8:Nat):Int)+64-(f.bits:Int)=(r:Int) by omega];have hp:=Nat.two_pow_pos r
  have vF:valB (XS (hiB f.width 0 0 l) a) / 2^r*2^r%18446744073709551616=valB (XS (hiB f.width 0 0 l) a):=by
   rw[Nat.mod_eq_of_lt (Nat.lt_of_le_of_lt (Nat.div_mul_le_self _ _) BJ),hq,Nat.mul_div_cancel _ hp]
  refine KF rfl (qV (KJ M3 rfl rfl bA rfl) (An rfl (qV (Ps r (2^r) rfl rfl (by show r≤64;omega) rfl) ?_)));refine An rfl (qV (Mq r (2^r) rfl rfl (by omega) rfl) ?_);rw[vF];refine KR rfl (Mn Nf rfl rfl rfl bA (by simp)) ?_;rintro w6 ⟨jE,aS⟩;refine qM rfl (An rfl (KE rfl (py (KG Tryz.func216 rfl ?_))));exact⟨_,rfl,rfl,R.own jq aS (fun k e=>by rw[e];exact h8),cq.trans (aS.KT fun k e=> .inr e),jE⟩
 ·refine It (qN rfl (An rfl (KE rfl (py (KG Tryz.func216 rfl ?_)))));exact⟨_,rfl,rfl,jq,cq,bA⟩
theorem Yx:∀{W:List Bool} {k p:Nat},nth1 W k=some p→∃z r,W=List.replicate z false++true::r
 |true::W,k,p,h=>⟨0,W,rfl⟩
 | false :: W, k, p, h => by
   simp only[nth1,Option.map_eq_some_iff] at h;obtain⟨q,hq,-⟩:=h;obtain⟨z,r,e⟩:=Yx hq
   exact⟨z+1,r,by rw[e,List.replicate_succ];rfl⟩
 |[],k,p,h=>by simp[nth1] at h
theorem z0q (z:Nat)(r:List Bool)(k:Nat):nth1 (List.replicate z false++true::r) (k+1)=nth1 (List.replicate (z+1) false++r) k:=by
 rw[Pt,Pt,nth1,Option.map_map]
 congr 1
 funext j;show j+1+z=j+(z+1);omega
theorem z2v (z:Nat)(r:List Bool):nth1 (List.replicate z false++true::r) 0=some z:=by
 rw[Pt,nth1];simp
theorem ZC (z:Nat)(r:List Bool):Lr (valB (List.replicate z false++true::r))=r.length+1:=by
 rw[S0]
 have:=Mk r
 exact z1h (by omega) (by rw[Nat.pow_succ];omega)
theorem Ws (n:Nat):(List.replicate n false).count true=0:=by
 rw[List.count_replicate];rfl
theorem WB (H:List Bool)(a:Nat):(XS H a).count true=((H.drop a).take (64-a%8)).count true:=by
 unfold XS
 rw[List.count_append,Ws,Nat.zero_add,List.take_append,List.count_append,List.take_replicate,Ws];omega
theorem z6z {W:List Bool}(h:W.length=64):(bitsN 64 (valB W)).count true=W.count true:=by
 have:=VN W
 rw[h] at this
 rw[this]
theorem z5X {H:List Bool}{a k q:Nat}(h:nth1 (H.drop a) k=some q)(hk:k<(XS H a).count true):nth1 (XS H a) k=some (a%8+q):=by
 rw[WB] at hk
 have h1:=QY ((H.drop a).take (64-a%8)) ((H.drop a).drop (64-a%8)) k
 rw[List.take_append_drop,if_pos hk,h] at h1
 unfold XS
 rw[Pt,List.take_append,QY,if_pos hk,←h1]
 show some (q+a%8)=_
 rw[Nat.add_comm]
theorem z3D {H:List Bool}{a k q:Nat}(h:nth1 (H.drop a) k=some q)(hk:(XS H a).count true≤k):64-a%8≤q∧nth1 (H.drop (a / 8*8+64)) (k-(XS H a).count true)=some (q-(64-a%8)):=by
 rw[WB] at hk⊢
 have h1:=QY ((H.drop a).take (64-a%8)) ((H.drop a).drop (64-a%8)) k
 rw[List.take_append_drop,if_neg (by omega),h] at h1
 obtain⟨p,hp,HB⟩:=Option.map_eq_some_iff.1 h1.symm
 have h2:=(Uz hp).1
 rw[List.length_drop] at h2
 rw[List.length_take,Nat.min_eq_left (by omega)] at HB
 rw[List.drop_drop,show a+(64-a%8)=a / 8*8+64 by omega] at hp
 exact⟨by omega,by rw[hp];congr 1;omega⟩
theorem z2u {t:TypeId}{u:Value}{l:List Nat}{f:Fm}{z:Nat}(he:Q8 l f z)(R:Src t u (SA l f)){X:Nat→Prop}{w:World}(hI:R.inv X w)(hX:∀k,X k→k<w.heap.size){x:Nat}(hx:X x)(hB:KP w x (elC f t u) 271){p k q:Nat}(aN:k≤1000000)(hq:nth1 ((hiB f.width 0 0 l).drop p) k=some q):
  Le Tryz.prog 205 [ptr x 0,I (p:Int),I (k:Int)] w fun r w'=>r= .tuple #[I ((p+q:Nat):Int),I 0]∧R.inv X w'∧Kp (fun j=>¬X j) w w':=by
 have bN:=he.bits
 have g8:=he.small.2.2
 have eU:=hX x hx
 refine KA (e:=[(0,_),(1,_),(2,_)]) Tryz.func205 rfl Tryz.ntmps205 rfl rfl (qN rfl (KL rfl rfl (Mz rfl (cs:=[ptr x 0]) rfl) ?_))
 rintro _ w1 ⟨b3,rfl,eL,ad,ar⟩
 refine KE rfl (KE rfl (qM rfl (KL rfl rfl (MN (cs:=[_]) Nf rfl) ?_)))
 rintro _ w2 ⟨b8,rfl,iU,af,bU⟩
 have z1:=ad.size
 have z2:=af.size
 have l3:=ar.lt
 have l8:=bU.lt
 have aC:=ad.trans af
 have cG:R.inv (fun j=>X j∨j=b3∨j=b8) w2:=R.ext hI aC (fun j hj=>by rcases hj with e|e|e;exact .inl e;exact .inr (by omega);exact .inr (by omega))
 replace bU:KP w2 b8 [KV 0] 41:=bU
 refine qM rfl (qV (Zw (first:=[]) (caps:=[.tmp 3,.tmp 8]) rfl rfl) (KE rfl (py (run_seq (qN rfl (An rfl (KE rfl (py (KB (MQ (α:=Nat×Nat×Nat×Nat) ((p,k,q,0)) (fun y=>[(2,I (y.2.1:Int)),(3,ptr b3 0),(8,ptr b8 0),(9,.func (.func 216) #[] #[ptr b3 0,ptr b8 0]),(10,I (y.1:Int))]) (fun y w'=>R.inv (fun j=>X j∨j=b3∨j=b8) w'∧Kp (fun j=>¬X j) w w'∧w2.heap.size≤w'.heap.size∧KP w' x (elC f t u) 271∧KP w' b3 [ptr x 0] 131∧KP w' b8 [KV y.2.2.2] 41∧nth1 ((hiB f.width 0 0 l).drop y.1) y.2.1=some y.2.2.1∧y.1+y.2.2.1=p+q∧y.2.1≤1000000) (fun y=>f.bits-y.1) ?hI ?hround))))))))))
 case hI=>exact⟨cG,aC.kp,Nat.le_refl _,aC.KD hB,af.KD ar,bU,hq,rfl,aN⟩
 case hround =>
  rintro⟨a,k4,q4,v4⟩ w4 ⟨mL,av,yN,aI,cW,dZ,cj,B1,vG⟩ ih;dsimp only at mL av yN aI cW dZ cj B1 vG;have vH:=(Uz cj).1;rw[List.length_drop] at vH;have yO:a<f.bits:=by omega
  have BK:∀j,(X j∨j=b3∨j=b8)→j<w4.heap.size:=fun j hj=>by
   rcases hj with e|e| e
   ·have:=hX j e;omega
   ·omega
   ·omega
  have ee:KP w4 x [I (f.n:Int),KV f.u,I (f.width:Int),I (f.bits:Int),.iface t u] 271:=aI
  try dsimp only
  refine run_seq (qN rfl (An rfl (qV ((by first|exact KJ Sz rfl rfl cW rfl|exact KJ Sz rfl rfl ee rfl)) ?_)));refine qV (KZ rfl) (qV (KK Ni rfl) (qV (KK SF rfl) (qV ((by first|exact KJ U3 rfl rfl cW rfl|exact KJ U3 rfl rfl ee rfl)) ?_)));refine qV (LW rfl rfl) (py (KQ rfl (fun h0=>?_) (fun h0=>?_)))
  ·refine It (run_seq (KB (run_seq (qN rfl (An rfl (An rfl (Mb rfl rfl (N6 (args:=[.tmp 26]) zbL rfl rfl) (ZX he R mL BK (.inl hx) (.inr (.inl rfl)) (.inr (.inr rfl)) ⟨by omega,by omega⟩ aI cW dZ yO) ?_)))))));rintro _ w5 ⟨rfl,jq,aj,bA⟩;have z5:=aj.size;have cq:Kp (fun j=>¬X j) w w5:=av.Kz aj (fun j hj=>by rcases hj with e|e;exact .inr (fun h=>e (.inl h));exact .inl (by omega));have aG:=aj.KD aI (fun e=>by rcases e with e|e;exact e (.inl hx);omega);have ci:=aj.KD cW (fun e=>by rcases e with e|e;exact e (.inr (.inl rfl));omega);have vI:=z1A (hiB f.width 0 0 l) a;have vJ:=z22 vI;have yP:=z6z vI;have nX:=fun h=>z5X (H:=hiB f.width 0 0 l) cj h;have ES:=fun h=>z3D (H:=hiB f.width 0 0 l) cj h
   generalize XS (hiB f.width 0 0 l) a=W at vI vJ yP nX ES bA
   have fY:W.count true≤64:=by rw[←vI];exact List.count_le_length
   refine KE rfl (qM rfl (An rfl (qV (LQ rfl rfl) (py (Kx rfl (It (run_seq (qN rfl (qV (KJ M3 rfl rfl bA rfl) (L2 [.tmp 31] z9U rfl (z5k (valB W) vJ w5) ?_))))))))));rintro _ w5 ⟨rfl,rfl⟩;rw[yP];refine KE rfl (qM rfl (An rfl (An rfl (qV (Qh rfl rfl) (py (KQ rfl (fun h1=>?_) (fun h1=>?_)))))))
   ·obtain⟨dz,dB⟩:=ES (by omega);refine qN rfl (An rfl (An rfl (qV (M8 rfl rfl (by omega)) (KE rfl (py (KO rfl (KF rfl (An rfl ?_))))))));rw[show(k4:Int)-((W.count true:Nat):Int)=((k4-W.count true:Nat):Int) by omega];refine qV (z8H rfl rfl (by omega)) (Lz rfl rfl (KE rfl (py ?_)));rw[show((a / 8*8:Nat):Int)+64=((a / 8*8+64:Nat):Int) by omega];exact(ih (a / 8*8+64,k4-W.count true,q4-(64-a%8),valB W) _ ⟨jq,cq,by omega,aG,ci,bA,dB,by dsimp only;omega,by dsimp only;omega⟩ (by dsimp only;omega)).qb
   ·have yz:=nX (by omega);refine It (run_seq (KB (MQ (α:=List Bool×Nat) ((W,k4)) (fun y=>[(2,I (y.2:Int)),(8,ptr b8 0),(10,I (a:Int))]) (fun y w'=>R.inv (fun j=>X j∨j=b3∨j=b8) w'∧Kp (fun j=>¬X j) w w'∧KP w' b8 [KV (valB y.1)] 41∧y.1.length=64∧nth1 y.1 y.2=some (a%8+q4)∧y.2≤1000000) (fun y=>y.2) ?hI ?hround)))
    case hI=>exact⟨jq,cq,bA,vI,yz,vG⟩
    case hround=>
     rintro⟨W6,k6⟩ w6 ⟨oe,aS,jE,ku,tE,BL⟩ ih2;dsimp only at oe aS jE ku tE BL;obtain⟨zz,r,rfl⟩:=Yx tE;have ET:=ZC zz r;have HC:=S0 zz r;have s6:=Mk r;have vK:=z22 ku;rw[List.length_append,List.length_replicate,List.length_cons] at ku
     try dsimp only
     refine run_seq (qN rfl (An rfl (qV (LH rfl rfl) (py (KQ rfl (fun h2=>?_) (fun h2=>?_))))))
     ·obtain⟨k7,rfl⟩:∃k7,k6=k7+1:=⟨k6-1,by omega⟩;rw[z0q] at tE;have f7:=Ext.L4 w6;refine It (run_seq (KB (L5 [6] (fun w'=>Ext w6 w') (by kernel_rfl) rfl (qL [5,6] 0 rfl (fun _ h=>KJ M3 rfl rfl (h.KD jE) rfl) f7 (qL [2,3,4,5,6] 1 rfl (fun _ h=>KJ M3 rfl rfl (h.KD jE) rfl) f7 (Mp (i:=2) (by kernel_rfl) (MU (i:=2) rfl rfl rfl (yc (args:=[.tmp 44]) z7B rfl) (z5n _ vK _) ?_)))))));rintro _ w7 ⟨rfl,rfl⟩;refine⟨f7,?_⟩;rw[ET];refine qL [4,5,6] 3 rfl (fun _ h=>M8 rfl rfl (by omega)) f7 ?_;rw[show(63:Int)-((64-(r.length+1):Nat):Int)=(r.length:Int) by omega];refine qL [5,6] 4 rfl (fun _ h=>Mq r.length (2^r.length) rfl rfl (by omega) rfl) f7 ?_;have dM:2^r.length≤2^63:=Nat.pow_le_pow_right (by decide) (by omega);rw[show 1*2^r.length%18446744073709551616=2^r.length by rw[Nat.one_mul];exact Nat.mod_eq_of_lt (by omega)];rw[HC];refine qL [6] 5 rfl (fun _ h=>zcR (by omega) s6 rfl rfl rfl) f7 (Lu [6] (by kernel_rfl) (by kernel_rfl) (qO 6 (Lm (i:=6) rfl rfl (Mn Nf rfl rfl rfl (f7.KD jE) (by simp)) ?_)));rintro w8 ⟨s7,bj⟩;refine⟨trivial,?_⟩;replace s7:KP w8 b8 [KV (valB r)] 41:=s7;refine qE (KC (KF rfl (An rfl (qV (M8 rfl rfl (by omega)) (KE rfl (py ?_))))));rw[show((k7+1:Nat):Int)-1=(k7:Int) by omega];refine(ih2 (List.replicate (zz+1) false++r,k7) _ ⟨R.own (R.ext oe f7 (fun j hj=> .inl hj)) bj (fun j e=> .inr (.inr e)),(aS.trans f7.kp).Kz bj (fun j e=> .inl (by omega)),?_,?_,tE,by dsimp only;omega⟩ (by dsimp only;omega)).qb
      ·dsimp only;rw[WT];exact s7
      ·dsimp only;rw[List.length_append,List.length_replicate];omega
     ·have BM:k6=0:=by omega
      subst BM;rw[z2v] at tE;have K0:zz=a%8+q4:=MA tE;refine KO rfl (qN rfl (An rfl (qV (z8H rfl rfl (by omega)) (qV (KJ M3 rfl rfl jE rfl) (L2 [.tmp 51] z7B rfl (z5n _ vK _) ?_)))));rintro _ w7 ⟨rfl,rfl⟩;rw[ET];refine Lz rfl rfl ?_;rw[show((a / 8*8:Nat):Int)+((64-(r.length+1):Nat):Int)=((p+q:Nat):Int) by omega];refine KE rfl (KE rfl (py (KG Tryz.func205 rfl ?_)));exact⟨_,rfl,rfl,R.ext oe (Ext.refl _) (fun j hj=> .inl (.inl hj)),aS⟩
  ·omega
theorem z3J (l:List Nat)(f:Fm)(hf:f.Pv=12+(L7 (Nd f.width l)).length+(L7 (hiB f.width 0 0 l)).length)(h4:(L7 (restB f.width l)).length=4):((SA l f).drop f.Pv).take 4=L7 (restB f.width l):=by
 have h:=piece (A:=L7 (bitsN 32 f.n++bitsN 64 f.u)++L7 (Nd f.width l)++L7 (hiB f.width 0 0 l)) (B:=L7 (restB f.width l)) (C:=[]) (off:=f.Pv) (n:=4) (o:=0) (by rw[List.length_append,List.length_append,show L7 (bitsN 32 f.n++bitsN 64 f.u)=L7 (NO f) from rfl,P4,hf];omega) (by omega)
 have h2:((L7 (restB f.width l)).drop 0).take 4=L7 (restB f.width l):=by rw[List.drop_zero];exact List.take_of_length_le (by omega)
 rw[List.append_nil] at h
 exact h.trans h2
theorem z3X {k:Nat}{l:List Nat}{y:Nat}(h:l[0]? =some y)(hy:y<4294967296):valB (L0 (L7 (restB k l)))=y / 2^k∧(L7 (restB k l)).length=4:=by
 obtain⟨r,rfl⟩:∃r,l=y::r:=by
  cases l with
  |nil=>simp at h
  |cons a r=>simp at h;subst h;exact⟨r,rfl⟩
 have hr:restB k (y::r)=bitsN 32 (y / 2^k):=rfl
 obtain⟨z,h1,h2,h3⟩:=N4 (bitsN 32 (y / 2^k))
 rw[bitsN_length] at h2
 have hz:z=0:=by omega
 rw[hr,h1,hz,List.replicate_zero,List.append_nil,Ly,Lh,bitsN_length]
 have:=Nat.div_le_self y (2^k)
 exact⟨Nat.mod_eq_of_lt (by omega),rfl⟩
theorem Wo {t:TypeId}{u:Value}{l:List Nat}{f:Fm}{z:Nat}(he:Q8 l f z)(R:Src t u (SA l f)){X:Nat→Prop}{w:World}(hI:R.inv X w)(hX:∀k,X k→k<w.heap.size){x:Nat}(hx:X x)(hB:KP w x (elC f t u) 271){i v:Nat}(hv:l[i]? =some v):
  Le Tryz.prog 189 [ptr x 0,I (i:Int)] w fun r w'=>r= .tuple #[KV v,I 0]∧R.inv X w'∧Kp (fun j=>¬X j) w w':=by
 have cL:=(List.getElem?_eq_some_iff.1 hv).1
 have aD:=he.len
 have iX:=he.n2
 have ou:=he.n
 have tT:=he.zb
 have tD:f.width≤30:=by rw[he.fe];exact Ts (by omega)
 have s0:=he.small
 have pW:∀j y k y2,l[j]? =some y→l[k]? =some y2→j≤k→y≤y2:=fun j y k y2 hj hk BN=>by
  obtain⟨a1,a2⟩:=List.getElem?_eq_some_iff.1 hj;obtain⟨b1,b2⟩:=List.getElem?_eq_some_iff.1 hk;rcases Nat.lt_or_ge j k with h| h
  ·have:=List.pairwise_iff_getElem.1 he.nof j k a1 b1 h
   rwa [a2,b2] at this
  ·have e:j=k:=Nat.le_antisymm BN h;subst e;rw[hj] at hk;cases hk;exact Nat.le_refl _
 have EI:v≤z:=pW i v _ z hv he.last (by omega)
 obtain⟨y0,BO⟩:∃y,l[0]? =some y:=⟨_,List.getElem?_eq_getElem (by omega)⟩
 have BP:y0≤v:=pW 0 y0 i v BO hv (Nat.zero_le _)
 obtain⟨HD,gz⟩:=z3X (k:=f.width) BO (by omega)
 have HE:=z3J l f (by
  have e:f.Pv=f.high+(f.bits+7) / 8:=rfl
  rw[e,he.high,Lh (hiB f.width 0 0 l),he.bits]) gz
 have du:=Vx f.width l 0 0 0 y0 he.nof BO (fun y _=>Nat.zero_le _)
 have tF:=Vx f.width l 0 0 i v he.nof hv (fun y _=>Nat.zero_le _)
 simp only[Nat.add_zero,Nat.sub_zero] at du tF
 have gE:=Te (hiB f.width 0 0 l) 0 (y0 / 2^f.width) i du
 rw[Nat.zero_add,tF] at gE
 have EU:y0 / 2^f.width≤v / 2^f.width:=Nat.div_le_div_right BP
 have pX:f.Pv+4≤(SA l f).length:=by
  rw[aD];have e:f.size=f.Pv+4*((f.n+63) / 64):=rfl;rw[e,ou];omega
 have gl:f.Pv≤40000000:=by have:=he.size_le.1;rw[aD] at pX;omega
 replace hB:KP w x [I (f.n:Int),KV f.u,I (f.width:Int),I (f.bits:Int),.iface t u] 271:=hB
 refine KA (e:=[(0,_),(1,_)]) Tryz.func189 rfl Tryz.ntmps189 rfl rfl (qN rfl (KE rfl (KE rfl (py (run_seq (KB (qN rfl (An rfl (qV (LO Sz rfl rfl) (KE rfl (py (Kx rfl (qN rfl ?_)))))))))))))
 refine An rfl (qV (LW rfl rfl) (Lq (An rfl (An rfl (An rfl (qV (KZ rfl) (qV (KK Ni rfl) (qV (KK SQ rfl) (qV (KJ U3 rfl rfl hB rfl) (qV (OL rfl rfl) (Lq (qV (Lk rfl rfl) (KE rfl ?_)))))))))))))
 refine py (Kx rfl (It (KC (run_seq ?_))))
 have hg:=Ext.L4 w
 refine KN (fun w'=>Kp (fun k=>¬X k) w w') (by kernel_rfl) rfl (KH 0 rfl (KM rfl) (hg.kp) (KH 1 rfl (KZ rfl) (hg.kp) (KH 2 rfl (KK XO rfl) (hg.kp) (qT 3 rfl (fun _ h=>KJ YY rfl rfl (h.KD hB (fun e=>e hx)) rfl) (hg.kp) (KH 4 rfl (KM rfl) (hg.kp) (KH 5 rfl (KZ rfl) (hg.kp) (KH 6 rfl (KK Ni rfl) (hg.kp) (KH 9 rfl (KM rfl) (hg.kp) (KH 10 rfl (Ra rfl rfl (by omega)) (hg.kp) (KH 11 rfl (SD rfl rfl (by omega)) (hg.kp) (qT 7 rfl (fun _ hS=>La (news:=fmC f) Yt rfl O9 rfl ((hS.KD hB (fun e=>e hx)).cells (n:=4) rfl) rfl) (hg.kp) (KH 13 rfl (z9W rfl) (hg.kp) (KH 14 rfl (KM rfl) (hg.kp) ?_)))))))))))))
 refine OJ 8 [.tmp 34] rfl z7E rfl (Z7 f s0 _) ?_
 rintro _ w1 ⟨rfl,ad⟩
 refine⟨(hg.trans ad).kp,?_⟩
 have bR:=hg.trans ad
 have kY:=R.ext hI bR (fun k hk=> .inl hk)
 have kj:∀k,X k→k<w1.heap.size:=fun k hk=>by have:=hX k hk;have:=bR.size;omega
 refine KH 12 rfl (PW rfl rfl (by omega)) ((hg.trans ad).kp) ?_
 rw[show(f.Pv:Int)+4*((i:Int) / 64)=((f.Pv:Nat):Int) by omega]
 refine qO 15 (QN (i:=15) rfl rfl rfl (yci (args:=[.tmp 39,.const (Value.int .i64 4)]) R.cr R.mr rfl rfl) (R.rd f.Pv 4 kY kj pX) ?_)
 rintro _ w2 ⟨rfl,cG,am⟩
 refine⟨bR.kp.trans am,?_⟩
 rw[HE]
 have dK:Kp (fun k=>¬X k) w w2:=bR.kp.trans am
 refine KH 16 rfl (KM rfl) (bR.kp.trans am) (KH 17 rfl (Ll rfl rfl) (bR.kp.trans am) (KH 18 rfl (Ll rfl rfl) (bR.kp.trans am) (KH 19 rfl (ML rfl) (bR.kp.trans am) (KH 20 rfl (ML rfl) (bR.kp.trans am) (qE (Lc.qb (e:=[(0,_),(1,_),(4,_),(5,_),(6,_),(7,_)]) ?_))))))
 refine run_seq (qN rfl (An rfl (qV (LQ rfl rfl) (py (Kx rfl (It (qN rfl (An rfl (An rfl (L2 [.tmp 50] z1B rfl (Rx (L7 (restB f.width l)) (by omega) w2) ?_))))))))))
 rintro _ w3 ⟨rfl,ah⟩
 rw[HD]
 have cm:Kp (fun k=>¬X k) w w3:=dK.trans ah.kp
 have BQ:=R.ext cG ah (fun k hk=> .inl hk)
 have nQ:∀k,X k→k<w3.heap.size:=fun k hk=>by have:=hX k hk;have:=cm.size;omega
 have ar:=cm.KD hB (fun e=>e hx)
 have HF:y0 / 2^f.width≤y0:=Nat.div_le_self _ _
 have HG:v / 2^f.width≤v:=Nat.div_le_self _ _
 have nC:v / 2^f.width*2^f.width%18446744073709551616 |||v%2^f.width=v:=by
  have h1:=Nat.div_mul_le_self v (2^f.width);rw[Nat.mod_eq_of_lt (by omega),Nat.mul_comm,←Nat.two_pow_add_eq_or_of_lt (Nat.mod_lt _ (Nat.two_pow_pos _))];exact Nat.div_add_mod v (2^f.width)
 have gL:v%2^f.width≤v:=Nat.mod_le _ _
 generalize HH:v / 2^f.width=vq at gE EU HG nC
 generalize y0 / 2^f.width=yq at gE EU HF
 refine qV (Ln rfl M3 U3 (by omega)) (An rfl (qV (yre rfl rfl (by omega)) ?_))
 rw[show(i:Int)%64=(i:Int) by omega]
 refine L2 [.tmp 49,.tmp 52,.tmp 54] zaI rfl (z2u he R BQ nQ hx ar (k:=i) (by omega) gE) ?_
 rintro _ w4 ⟨rfl,mL,av⟩
 rw[show yq+(vq+i-yq)=vq+i by omega]
 have jF:=cm.trans av
 have BK:∀k,X k→k<w4.heap.size:=fun k hk=>by have:=hX k hk;have:=jF.size;omega
 have aI:=jF.KD hB (fun e=>e hx)
 refine An rfl (qV (Ll rfl rfl) (qV (Ll rfl rfl) (KE rfl (KE rfl (py (run_seq (qN rfl (An rfl (qV (LQ rfl rfl) (py (Kx rfl (It (qN rfl ?_)))))))))))))
 refine An rfl (An rfl (L2 [.tmp 62,.tmp 63] z9J rfl (z2f he R mL BK hx aI hv) ?_))
 rintro _ w5 ⟨rfl,jq,aj⟩
 have cq:=jF.trans aj
 have aG:=cq.KD hB (fun e=>e hx)
 have yJ:=he.u
 refine An rfl (qV (Ll rfl rfl) (qV (Ll rfl rfl) (KE rfl (KE rfl (py (Lc.qb (e:=[(0,_),(1,_),(4,_),(5,_),(7,_),(8,_),(9,_)]) ?_))))))
 refine run_seq (qN rfl (An rfl (qV (LQ rfl rfl) (py (Kx rfl (It (qN rfl (An rfl (An rfl (qV (M8 rfl rfl (by omega)) ?_))))))))))
 rw[show((vq+i:Nat):Int)-(i:Int)=(vq:Int) by omega]
 refine qV ((by first|exact Lw rfl U3 M3 (by omega)|exact MI rfl U3 M3)) ?_
 refine An rfl (qV (KZ rfl) (qV (KK Ni rfl) (qV (KK Oc rfl) (qV (KJ U3 rfl rfl aG rfl) (qV (Mq f.width (2^f.width) rfl rfl (by omega) rfl) (An rfl ?_))))))
 have yQ:=Nat.mod_lt (vq*2^f.width) (show 0<18446744073709551616 by decide)
 refine qV (Vu rfl rfl (by omega) (by omega)) ?_
 rw[nC]
 refine KE rfl (py (run_seq (qN rfl (An rfl (An rfl (qV (LW rfl rfl) (Lq (An rfl (An rfl (An rfl (qV (KZ rfl) (qV (KK Ni rfl) (qV (KK z5S rfl) ?_)))))))))))))
 refine qV (KJ M3 rfl rfl aG rfl) (qV (OL rfl rfl) (Lq (qV (Lk rfl rfl) (py (Lc.qb (e:=[(4,_),(5,_),(10,_),(93,_)]) ?_)))))
 refine Kx rfl (It (qN rfl (An rfl (KE rfl (KE rfl (py (KG Tryz.func189 rfl ?_)))))))
 exact⟨_,rfl,rfl,jq,cq⟩
theorem z52 (a b:Bytes)(w:World)(hl:(a++b).length≤100000000000):Le Tryz.prog 121 [S (a++b),S a] w fun u w'=>u= .bool true∧w'=w:=by
 rw[List.length_append] at hl
 have iS:(a++b).length=a.length+b.length:=List.length_append
 have ht:(a++b).take a.length=a:=List.take_left
 refine KA (e:=[(0,_),(1,_)]) Tryz.func121 rfl Tryz.ntmps121 rfl rfl (qN rfl (KE rfl (qM rfl (An rfl (qV (QE U9 rfl) (An rfl (qV (QE U9 rfl) (qV (OL rfl rfl) (MC (An rfl (An rfl (An rfl (qV (QE U9 rfl) ?_)))))))))))))
 refine qV (Zu U9 rfl rfl (by omega)) (An rfl ?_)
 rw[ht]
 refine qV (zd3 rfl rfl) (MC (qV (LK rfl rfl) (KE rfl (py (KG Tryz.func121 rfl ?_)))))
 exact⟨_,rfl,rfl,rfl⟩
theorem z44 (a b:Bytes)(w:World)(hl:(a++b).length≤100000000000):Le Tryz.prog 178 [S (a++b),S a] w fun u w'=>u= .tuple #[S b,.bool true]∧w'=w:=by
 have iS:(a++b).length=a.length+b.length:=List.length_append
 have hd:(a++b).drop a.length=b:=List.drop_left
 refine KA (e:=[(0,_),(1,_)]) Tryz.func178 rfl Tryz.ntmps178 rfl rfl (qN rfl (KE rfl (KE rfl (py (run_seq (qN rfl (An rfl (An rfl (L2 [.tmp 6,.tmp 7] zbs rfl (z52 a b w hl) ?_)))))))))
 rintro _ w ⟨rfl,rfl⟩
 refine qV ((by first|exact LP rfl|exact Nq rfl)) ?_
 refine py (Kx rfl (It (qN rfl (An rfl (An rfl (qV (QE U9 rfl) (qV (UR U9 rfl rfl (by omega)) ?_)))))))
 rw[hd]
 refine KE rfl (KE rfl (py (KG Tryz.func178 rfl ?_)))
 exact⟨_,rfl,rfl,rfl⟩
theorem z0t (a b:Bytes)(w:World)(hl:(a++b).length≤100000000000):Le Tryz.prog 144 [S (a++b),S a] w fun u w'=>u= .tuple #[S b,.bool true]∧w'=w:=by
 refine KA (e:=[(0,_),(1,_)]) Tryz.func144 rfl Tryz.ntmps144 rfl rfl (qN rfl (KE rfl (KE rfl (qM rfl (An rfl (An rfl (L2 [.tmp 6,.tmp 7] zbZ rfl (z44 a b w hl) ?_)))))))
 rintro _ w ⟨rfl,rfl⟩
 refine qV (Ll rfl rfl) (qV (Ll rfl rfl) (KE rfl (KE rfl (py (KG Tryz.func144 rfl ?_)))))
 exact⟨_,rfl,rfl,rfl⟩
theorem NP {w:World}{r a b6 b7:Nat}{s:Bytes}(h:Oz w r s a)(aW:KP w b6 [ptr r 0] 240)(bG:KP w b7 [.bool false] 4)(h6:b6≠r∧b7≠r∧b6≠b7)(n v:Nat)(hn:n≤64)(hv:v<2^n)(jS:v≤134217728)(rest:List Bool)(hb:(L0 s).drop a=bitsN n v++rest):
  Le Tryz.prog 146 [I (n:Int),ptr b6 0,ptr b7 0] w fun u w'=>u=I (v:Int)∧Oz w' r s (a+n)∧KP w' b6 [ptr r 0] 240∧KP w' b7 [.bool false] 4∧Kp (fun k=>k=r∨k=b7) w w':=by
 have aD:a+n≤8*s.length:=by
  have e:=congrArg List.length hb;rw[List.length_drop,bitsT_length,List.length_append,bitsN_length] at e;have:=h.2.1;omega
 have BR:valB (((L0 s).drop a).take n)=v:=by
  rw[hb,List.take_left' (by simp),Ly];exact Nat.mod_eq_of_lt hv
 refine KA (e:=[(0,_),(1,_),(2,_)]) Tryz.func146 rfl Tryz.ntmps146 rfl rfl (qN rfl (KE rfl (qM rfl (qV (KJ Oi rfl rfl aW rfl) (An rfl (L2 [.tmp 8,.tmp 9] YZ rfl (Q0 h n hn) ?_))))))
 rintro v1 w1 eT
 have io:v1= .tuple #[KV v,I 0]∧Oz w1 r s (a+n)∧Kp (fun k=>k=r) w w1:=by
  rcases eT with⟨-,e,h1,hk⟩|⟨e,-,-⟩
  ·rw[BR] at e;exact⟨e,h1,hk⟩
  ·omega
 obtain⟨rfl,h1,aN⟩:=io
 have vL:=aN.KD bG h6.2.1
 have BS:=aN.KD aW h6.1
 refine An rfl (qV (Ll rfl rfl) (qV (Ll rfl rfl) (KE rfl (KE rfl (qM rfl (qV (KJ U4 rfl rfl vL rfl) (An rfl (An rfl (qV (LQ rfl rfl) (qV (Lk rfl rfl) (An rfl (An rfl (qV (LH rfl rfl) ?_)))))))))))))
 refine Lq (qV (Lk rfl rfl) (KR rfl (Mn PS rfl rfl rfl vL (by simp)) ?_))
 rintro w2 ⟨dH,am⟩
 refine qM rfl (An rfl (qV (Ph rfl rfl (by omega) (by omega)) ?_))
 rw[show v&&&268435455=v from(Nat.and_two_pow_sub_one_eq_mod v 28).trans (Nat.mod_eq_of_lt (by omega))]
 refine qV (Ln rfl M3 U3 (by omega)) (KE rfl (py (KG Tryz.func146 rfl ?_)))
 exact⟨_,rfl,rfl,⟨am.KD h1.1 (fun e=>h6.2.1 e.symm),h1.2⟩,am.KD BS h6.2.2,dH,(aN.KT fun k e=> .inl e).trans (am.KT fun k e=> .inr e)⟩
theorem NS {s:List Bool}{n v a:Nat}{rest:List Bool}(h:s.drop a=bitsN n v++rest):s.drop (a+n)=rest:=by
 rw[←List.drop_drop,h,List.drop_left' (by simp)]
theorem z6K (h:Zy):L0 (L7 (Ms (Tc h)))=bitsN 32 h.n++(bitsN 32 h.m++(bitsN 8 h.p.L6++(bitsN 8 h.p.chain++(bitsN 8 h.p.interval++(bitsN 8 h.p.zeta++(bitsN 32 h.p.most++(bitsN 64 h.bits++[]))))))):=by
 obtain⟨z,h1,h2,h3⟩:=N4 (Ms (Tc h))
 have hl:=Pr h
 have hz:z=0:=by omega
 rw[h1,hz,List.replicate_zero,List.append_nil]
 rfl
theorem z2o (h:Zy)(hh:h.LS)(w:World):Le Tryz.prog 112 [S (hdT h)] w fun u w'=>u= .tuple #[hdV h,I 0]∧Ext w w':=by
 obtain⟨g1,g2,g3,g4,g5⟩:=id hh
 obtain⟨q1,q2,q3⟩:=id g5
 obtain⟨r1,r2,r3,r4⟩:=id q1
 have r1':h.p.L6≤16:=r1
 have r2':h.p.interval≤64:=by
  have:h.p.interval=0∨2≤h.p.interval∧h.p.interval≤64:=r2;omega
 have r4':h.p.zeta≤16:=r4
 have HI:=Ru h
 have oT:=z6K h
 rw[show L0 (L7 (Ms (Tc h)))=(L0 (L7 (Ms (Tc h)))).drop 0 from List.drop_zero.symm] at oT
 have dM:(L7 (Ms (Tc h))).length=24:=by rw[Lh,Pr]
 refine KA (e:=[(0,_)]) Tryz.func112 rfl Tryz.ntmps112 rfl rfl (qN rfl (KL rfl rfl (MN (cs:=[_,_,_,_,_,_,_,_]) OE rfl) ?_))
 rintro _ w1 ⟨b2,rfl,bM,ad,ak⟩
 refine KE rfl (qM rfl (An rfl (Mb rfl rfl (yc (args:=[.tmp 11,.const (Value.string (⟨#[119,116,108,49]⟩))]) z9B rfl) (z0t z1j (L7 (Ms (Tc h))) _ (by rw[show z1j++L7 (Ms (Tc h))=hdT h from rfl];omega)) ?_)))
 rintro _ w1 ⟨rfl,rfl⟩
 refine An rfl (qV (Ll rfl rfl) (qV (Ll rfl rfl) (KE rfl (KE rfl (py (run_seq (qN rfl (An rfl (qV ((by first|exact LP rfl|exact Nq rfl)) ?_)))))))))
 refine An rfl (An rfl (qV (QE U9 rfl) (qV (LW rfl rfl) (Lq (qV (Lk rfl rfl) (py (Kx rfl (It (qN rfl (An rfl ?_))))))))))
 generalize L7 (Ms (Tc h))=pt at oT dM
 refine L2 [.tmp 23] z19 rfl (Re pt (by omega) w1) ?_
 rintro _ w2 ⟨r,rfl,df,af,et⟩
 refine KL rfl rfl (MN (cs:=[_]) Wq rfl) ?_
 rintro _ w3 ⟨b6,rfl,nD,ah,aW⟩
 refine KR rfl (Mn Wq rfl rfl rfl aW (by simp)) ?_
 rintro w4 ⟨oU,av⟩
 replace oU:KP w4 b6 [ptr r 0] 240:=oU
 refine qM rfl (KL rfl rfl (MN (cs:=[_]) PS rfl) ?_)
 rintro _ w5 ⟨b7,rfl,kr,aR,bG⟩
 refine KR rfl (Mn PS rfl rfl rfl bG (by simp)) ?_
 rintro w6 ⟨oV,aS⟩
 replace oV:KP w6 b7 [.bool false] 4:=oV
 have z1:=ad.size
 have z2:=af.size
 have z3:=ah.size
 have z4:=av.size
 have z5:=aR.size
 have lr:=df.1.lt
 have l6:=oU.lt
 have l2:=ak.lt
 have sd:=aS.KD (aR.KD oU) (by omega)
 have kg:Oz w6 r pt 0:=⟨aS.KD (aR.KD (av.KD (ah.KD df.1) (by omega))) (by omega),df.2⟩
 have bP:Ext w1 w6:=(((af.trans ah).Kz av (fun i e=>by omega)).trans aR).Kz aS (fun i e=>by omega)
 refine qM rfl (qV (Zw (first:=[]) (caps:=[.tmp 6,.tmp 7]) rfl rfl) (KE rfl (qM rfl (An rfl (Mb rfl rfl (N6 (args:=[.const (Value.int .i64 32)]) TN rfl rfl) (NP kg sd oV ⟨by omega,by omega,by omega⟩ 32 h.n (by decide) (by omega) (by omega) _ oT) ?_)))))
 rintro _ v0 ⟨rfl,BT,vM,vO,vP⟩
 have vQ:=NS oT
 refine An rfl (Mb rfl rfl (N6 (args:=[.const (Value.int .i64 32)]) TN rfl rfl) (NP BT vM vO ⟨by omega,by omega,by omega⟩ 32 h.m (by decide) (by omega) (by omega) _ vQ) ?_)
 rintro _ v1 ⟨rfl,vR,vS,vT,vU⟩
 have vV:=NS vQ
 refine qV (Nc (parts:=[(0,.tmp 27),(1,.tmp 29)]) (cs:=[_,_,_,_,_,_,_,_]) OE rfl z7G rfl rfl) (KL rfl rfl (MN (cs:=[_,_,_,_,_,_,_,_]) OE rfl) ?_)
 rintro _ w7 ⟨b9,rfl,nK,bL,cy⟩
 have zv1:=vP.size
 have zv2:=vU.size
 have z7:=bL.size
 have z6:=aS.size
 have l9:=cy.lt
 refine KR rfl (Lo (news:=[I (h.n:Int),I (h.m:Int),I 0,I 0,I 0,I 0,I 0,I 0]) OE rfl rfl rfl rfl cy (by simp)) ?_
 rintro w8 ⟨se,bj⟩
 replace se:KP w8 b9 [I (h.n:Int),I (h.m:Int),I 0,I 0,I 0,I 0,I 0,I 0] 128:=se
 have l7:=oV.lt
 have cE:Ext v1 w8:=bL.Kz bj (fun i e=>by omega)
 have sY:Oz w8 r pt (0+32+32):=⟨cE.KD vR.1,vR.2⟩
 have i5:=cE.KD vS
 have BU:=cE.KD vT
 have nL:Kp (fun k=>k=r∨k=b7) w6 w8:=(vP.trans vU).trans cE.kp
 refine py (Lc.qb (e:=[(2,_),(3,_),(7,_),(8,_),(9,_)]) ?_)
 refine qN rfl (An rfl (Mb rfl rfl (N6 (args:=[.const (Value.int .i64 8)]) TN rfl rfl) (NP sY i5 BU ⟨by omega,by omega,by omega⟩ 8 h.p.L6 (by decide) (by omega) (by omega) _ vV) ?_))
 rintro _ v2 ⟨rfl,BV,vW,vX,BW⟩
 have vY:=NS vV
 refine An rfl (Mb rfl rfl (N6 (args:=[.const (Value.int .i64 8)]) TN rfl rfl) (NP BV vW vX ⟨by omega,by omega,by omega⟩ 8 h.p.chain (by decide) (by omega) (by omega) _ vY) ?_)
 rintro _ v3 ⟨rfl,BX,vZ,wa,BY⟩
 have wc:=NS vY
 refine An rfl (Mb rfl rfl (N6 (args:=[.const (Value.int .i64 8)]) TN rfl rfl) (NP BX vZ wa ⟨by omega,by omega,by omega⟩ 8 h.p.interval (by decide) (by omega) (by omega) _ wc) ?_)
 rintro _ v4 ⟨rfl,BZ,wg,wh,C1⟩
 have wj:=NS wc
 refine An rfl (Mb rfl rfl (N6 (args:=[.const (Value.int .i64 8)]) TN rfl rfl) (NP BZ wg wh ⟨by omega,by omega,by omega⟩ 8 h.p.zeta (by decide) (by omega) (by omega) _ wj) ?_)
 rintro _ v5 ⟨rfl,C2,wk,wm,C3⟩
 have wn:=NS wj
 refine An rfl (Mb rfl rfl (N6 (args:=[.const (Value.int .i64 32)]) TN rfl rfl) (NP C2 wk wm ⟨by omega,by omega,by omega⟩ 32 h.p.most (by decide) (by omega) (by omega) _ wn) ?_)
 rintro _ v6 ⟨rfl,wo,wq,wu,C4⟩
 have wv:=NS wn
 have iv:Kp (fun k=>k=r∨k=b7) w8 v6:=(((BW.trans BY).trans C1).trans C3).trans C4
 have C5:=iv.KD se (by omega)
 refine qV (Nc (parts:=[(0,.tmp 32),(1,.tmp 34),(2,.tmp 36),(3,.tmp 38),(4,.tmp 40)]) (cs:=[_,_,_,_,_]) ME rfl z65 rfl rfl) (qV (KK Sj rfl) (KR rfl (Lo (news:=PO h.p) ME rfl rfl rfl rfl C5 (by simp)) ?_))
 rintro w9 ⟨sg,aJ⟩
 replace sg:KP w9 b9 [I (h.n:Int),I (h.m:Int),I (h.p.L6:Int),I (h.p.chain:Int),I (h.p.interval:Int),I (h.p.zeta:Int),I (h.p.most:Int),I 0] 128:=sg
 have tc:Oz w9 r pt (0+32+32+8+8+8+8+32):=⟨aJ.KD wo.1 (by omega),wo.2⟩
 have i6:=aJ.KD wq (by omega)
 have C6:=aJ.KD wu (by omega)
 refine qM rfl (An rfl (Mb rfl rfl (N6 (args:=[.const (Value.int .i64 64)]) TN rfl rfl) (NP tc i6 C6 ⟨by omega,by omega,by omega⟩ 64 h.bits (by decide) (by omega) (by omega) _ wv) ?_))
 rintro _ v7 ⟨rfl,HJ,EV,ww,wx⟩
 have HK:=NS wv
 have C7:=wx.KD sg (by omega)
 refine qV (KK PA rfl) (KR rfl (Mn LC rfl rfl rfl C7 (by simp)) ?_)
 rintro w10 ⟨kk,au⟩
 replace kk:KP w10 b9 (hdC h) 128:=kk
 have wG:=au.KD ww (by omega)
 have wH:Kp (fun k=>k=r∨k=b7∨k=b9) w6 w10:=((((nL.trans iv).KT fun k e=>by omega).trans (aJ.KT fun k e=>by omega)).trans (wx.KT fun k e=>by omega)).trans (au.KT fun k e=>by omega)
 have fJ:Ext w1 w10:=bP.Kz wH (fun k e=>by omega)
 refine py (run_seq (qN rfl (qV (KJ U4 rfl rfl wG rfl) (An rfl (qV (La (news:=hdC h) z0c rfl OE rfl (kk.cells (n:=8) rfl) rfl) (L2 [.tmp 48] z4V rfl (Se h hh _) ?_))))))
 rintro _ w11 ⟨rfl,aT⟩
 refine qV (LQ rfl rfl) (qV (Lk rfl rfl) (py (Lc.qb (e:=[(2,_),(3,_),(9,_),(51,_)]) ?_)))
 refine Kx rfl (It (qN rfl (qV (La (news:=hdC h) z0c rfl OE rfl ((aT.KD kk).cells (n:=8) rfl) rfl) ?_)))
 have mM:=(fJ.trans aT).KD ak
 refine KR rfl (Lo (news:=hdC h) OE rfl rfl rfl rfl mM (by simp)) ?_
 rintro w12 ⟨iH,aU⟩
 replace iH:KP w12 b2 (hdC h) 128:=iH
 replace iH:KP w12 b2 [I (h.n:Int),I (h.m:Int),I (h.p.L6:Int),I (h.p.chain:Int),I (h.p.interval:Int),I (h.p.zeta:Int),I (h.p.most:Int),I (h.bits:Int)] 128:=iH
 refine KE rfl (py (L8 Tryz.func112 (.cell z0c rfl OE rfl (KP.cells (n:=8) iH (news:=[_,_,_,_,_,_,_,_]) rfl) rfl (.tmp rfl .nil)) ?_))
 exact⟨_,rfl,rfl,((ad.trans fJ).trans aT).Kz aU (fun k e=>by omega)⟩
theorem z2n (h:Zy)(hh:h.LS)(bM:h.n≤500)(w:World):Le Tryz.prog 113 [hdV h] w fun u w'=>u= .tuple #[I ((28+(h.bits+7) / 8+(OG (h.n+1) (h.bits+1)).size:Nat):Int),I 0]∧Ext w w':=by
 obtain⟨g1,g2,g3,g4,g5⟩:=id hh
 have hs:=XL (n:=h.n+1) (u:=h.bits+1) (by omega) (by omega) (by omega) (by omega)
 have cn:(OG (h.n+1) (h.bits+1)).size≤40000000:=by
  have h2:=Fm.Ro hs;obtain⟨h3,h4,h5⟩:=hs;unfold Fm.size Fm.Pv;omega
 refine KA (e:=[(0,_)]) Tryz.func113 rfl Tryz.ntmps113 rfl rfl (qN rfl (KL rfl rfl (Mz rfl (cs:=hdC h) rfl) ?_))
 rintro _ w1 ⟨b1,rfl,bT,ad,ai⟩
 replace ai:KP w1 b1 [I (h.n:Int),I (h.m:Int),I (h.p.L6:Int),I (h.p.chain:Int),I (h.p.interval:Int),I (h.p.zeta:Int),I (h.p.most:Int),I (h.bits:Int)] 128:=ai
 refine KE rfl (KE rfl (py (run_seq (qN rfl (qV (La (news:=hdC h) z0c rfl OE rfl (ai.cells (n:=8) rfl) rfl) (L2 [.tmp 7] z4V rfl (Se h hh _) ?_))))))
 rintro _ w2 ⟨rfl,af⟩
 have ba:=af.KD ai
 refine KE rfl (qM rfl (An rfl (qV (LQ rfl rfl) (py (Kx rfl (It (qN rfl (qV (KK OR rfl) (qV (KJ U3 rfl rfl ba rfl) (Lz rfl rfl (qV (KK PA rfl) (qV (KJ U3 rfl rfl ba rfl) (qV ((by first|exact Lw rfl U3 M3 (by omega)|exact MI rfl U3 M3)) ?_)))))))))))))
 rw[show(h.n:Int)+1=((h.n+1:Nat):Int) by omega]
 refine L2 [.tmp 15,.tmp 18] z8V rfl (z0l (h.n+1) h.bits (by omega) (by omega) (by omega) _) ?_
 rintro _ w3 ⟨rfl,ah⟩
 have cU:=ah.KD ba
 refine An rfl (qV (Ll (v:=I ((OG (h.n+1) (h.bits+1)).size:Int)) rfl rfl) (qV (Ll (v:=I 0) rfl rfl) ?_))
 generalize (OG (h.n+1) (h.bits+1)).size=q at cn
 refine KE rfl (KE rfl (qM rfl (qV (KK PA rfl) (qV (KJ U3 rfl rfl cU rfl) (Lz rfl rfl (qV (Ra rfl rfl (by omega)) (Lz rfl rfl (An rfl (Lz rfl rfl (An rfl (KE rfl (KE rfl (py ?_)))))))))))))
 refine Lc.qb (e:=[(2,_),(3,_)]) ?_
 refine KG Tryz.func113 rfl (⟨_,rfl,?_,(ad.trans af).trans ah⟩)
 show Value.tuple #[I (28+((h.bits:Int)+7) / 8+(q:Int)),I 0]= .tuple #[I ((28+(h.bits+7) / 8+q:Nat):Int),I 0]
 rw[show(28:Int)+((h.bits:Int)+7) / 8+(q:Int)=((28+(h.bits+7) / 8+q:Nat):Int) by omega]
end Go.Proofs.YtpldpcjdjcgicaaGreatDoor
