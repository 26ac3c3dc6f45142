/- Texts BvE, BvF, BvG, EfA, EfB, PkA, PkB, EfC, EfD, EfE, EfF, EfG, EfH, EfI, PkC, WkA, one behind the other (what the statement BfsShortest does not use is left out). -/
import Derived.Test.YtpldpcjdjcgicaaGreatDoorBSp2
import Derived.Test.YtpldpcjdjcgicaaGreatDoorBSp4
import Derived.WideLaws
set_option maxHeartbeats 16000000
namespace Go.Proofs.YtpldpcjdjcgicaaGreatDoor
open Go Go.RowKit
set_option linter.all false
set_option maxRecDepth 100000
def Ma (L:List (List Nat))(n r:Nat):List Nat:=if r=0 then [] else(L[n-r]?).getD []
def Ul (p:LW)(L:List (List Nat))(E:List (Nat×Nat))(n size:Nat)(e:Nat×Nat):Prop:=
 e=(0,0)\/(1<=e.1/\e.1<=p.Lf/\e.1<=n/\∃l e',L[n-e.1]? =some l/\E[n-e.1]? =some e'/\e.2=e'.2+1/\OY p l.length size e'.2=true)
theorem z9k {j n:Nat}(h1:j<n)(h2:n+1<=j+17):j%17≠n%17:=by omega
theorem PkM.add {w wA wB wC wD wE wF:World}{k:Nat}{p:LW}{L:List (List Nat)}{E:List (Nat×Nat)}{bs bs':List Bool}{F F':Nat->Prop}{R:List (Value×Nat)}{wp ed b4:Nat}(h:PkM w k p L E bs F R wp ed)(ku:Ext w wA)(iA:Kp F wA wB)(yJ:Tv wB wp bs' F')(oU:∀i,F' i->F i\/wA.heap.size<=i)
  {a':Option Addr} {cp' ch r:Nat} {succ:List Nat} (hs:Lt succ) (B7:Ext wB wC) (tL:Sl wC (.slice a' succ.length cp') 46 1 succ.length (succ.map Lp)) (rT:succ.length<=cp') (cy:∀g,(Value.slice a' succ.length cp').ownBlock=some g->wB.heap.size<=g)
  (f7:Kp (fun i=>i=k) wC wD) (nZ:Kp (fun i=>i=k) wD wE) (rU:Kp (fun i=>i=b4) wE wF) (gh:w.heap.size<=b4) (Hd:b4<wA.heap.size) (B8:KY wF k (Sn p (R.set (L.length%17) (.slice a' succ.length cp',ch)) (L.length+1) wp (ed+succ.length)) 255):
  PkM wF k p (L++[succ]) (E++[(r,ch)]) bs' F' (R.set (L.length%17) (.slice a' succ.length cp',ch)) wp (ed+succ.length)/\Kp (fun i=>F i\/i=k) w wF/\∀i,F' i->F i\/w.heap.size<=i:=by
 have lk:=h.KN.lt
 have zA:=ku.size
 have zB:=iA.size
 have jl:∀i,F i->i<w.heap.size:=fun i hi=>h.wr.lt hi
 have mK:∀i,F' i->i<wB.heap.size:=fun i hi=>yJ.lt hi
 have rV:¬F' k:=fun e=>by rcases oU k e with e|e;exact h.nk e;omega
 have B9:¬F' b4:=fun e=>by rcases oU b4 e with e|e;(have:=jl _ e;omega);omega
 have Ba:∀{v:Value} {n:Nat} {cs:List Value},Sl w v 46 1 n cs->(∀g,v.ownBlock=some g->¬F g/\g≠k)->Sl wF v 46 1 n cs:=fun hS hg=>
  ((((((hS.ext ku).kp iA (fun g e=>(hg g e).1)).ext B7).kp f7 (fun g e=>(hg g e).2)).kp nZ (fun g e=>(hg g e).2)).kp rU (fun g e e'=>by have:=hS.lt e;omega))
 have He:=((tL.kp f7 (fun g e e'=>by have:=cy g e;omega)).kp nZ (fun g e e'=>by have:=cy g e;omega)).kp rU (fun g e e'=>by have:=cy g e;omega)
 refine⟨⟨by rw[List.length_append,List.length_singleton];exact B8,by rw[List.length_set];exact h.len,(((yJ.ext B7).kp f7 (fun i hi e=>rV (e▸hi))).kp nZ (fun i hi e=>rV (e▸hi))).kp rU (fun i hi e=>B9 (e▸hi)),rV,by rw[List.length_append,List.length_append,h.el];rfl,fun l hl=>?_,fun j l e h1 h2 h3=>?_⟩,?_,fun i hi=>?_⟩
 ·rcases List.mem_append.1 hl with hl|hl
  ·exact h.ok l hl
  ·rw[List.mem_singleton.1 hl];exact hs
 ·rw[List.length_append,List.length_singleton] at h3;rcases Nat.lt_or_ge j L.length with hj|hj
  ·rw[List.getElem?_append_left hj] at h1;rw[List.getElem?_append_left (by rw[h.el];exact hj)] at h2;obtain⟨a,cp,g1,g2,g3,g4⟩:=h.ring j l e h1 h2 (by omega);refine⟨a,cp,?_,g2,Ba g3 g4,fun g hg=>⟨fun e'=>?_,(g4 g hg).2⟩⟩
   ·rw[List.getElem?_set_ne (fun e'=>z9k hj (by omega) e'.symm)];exact g1
   ·rcases oU g e' with e'|e'
    ·exact(g4 g hg).1 e'
    ·have:=g3.lt hg;omega
  ·have Bb:=(List.getElem?_eq_some_iff.1 h1).1;rw[List.length_append,List.length_singleton] at Bb;have ej:j=L.length:=by omega
   subst ej;rw[List.getElem?_append_right (Nat.le_refl _),Nat.sub_self,List.getElem?_cons_zero] at h1;rw[List.getElem?_append_right (by rw[h.el];exact Nat.le_refl _),h.el,Nat.sub_self,List.getElem?_cons_zero] at h2;cases h1;cases h2;refine⟨a',cp',List.getElem?_set_self (by rw[h.len];exact Nat.mod_lt _ (by decide)),rT,He,fun g hg=>⟨fun e'=>?_,fun e'=>?_⟩⟩
   ·have:=cy g hg;have:=mK g e';omega
   ·have:=cy g hg;omega
 ·exact((((ku.kp.trans (iA.L2 fun i e=> .inl e)).trans B7.kp).trans (f7.L2 fun i e=> .inr e)).trans (nZ.L2 fun i e=> .inr e)).KK rU (fun i e=> .inl (by omega))
 ·rcases oU i hi with e| e
  ·exact .inl e
  ·exact .inr (by omega)
theorem z3o {w:World}{k:Nat}{p:LW}(hp:p.M3){L:List (List Nat)}{E:List (Nat×Nat)}{bs:List Bool}{F:Nat->Prop}{R:List (Value×Nat)}{wp ed:Nat}(h:PkM w k p L E bs F R wp ed)(hG:KY w 1 (NM .gamma) 298)(hU:KY w 2 (NM .unary) 298)(hL:L.length<65536)
  {a:Option Addr} {cp:Nat} {succ:List Nat} (hs:Lt succ) (ko:succ.length<=cp) (dV:Rd w (.slice a succ.length cp) 1 succ.length (succ.map Lp)) (yK:ed+succ.length<=1048576) (Hf:∀g,0<succ.length->(Value.slice a succ.length cp).ownBlock=some g->¬F g/\g≠k)
  (mL:∀r,r<=p.Lf->bs.length+(Ld (MK p.list L.length succ (Ma L L.length r) r)).length<=134217728):
  Lk Tryz.prog 98 [ptr k 0,.slice a succ.length cp] w fun u w'=>∃(r least ch:Nat) (F':Nat->Prop) (R':List (Value×Nat)),u= .tuple #[I (r:Int),I (least:Int),I 0]/\Ul p L E L.length succ.length (r,ch)/\
   PkM w' k p (L++[succ]) (E++[(r,ch)]) (bs++Ld (MK p.list L.length succ (Ma L L.length r) r)) F' R' wp (ed+succ.length)/\Kp (fun i=>F i\/i=k) w w'/\∀i,F' i->F i\/w.heap.size<=i:=by
 have uX:p.Lf<=16:=hp.1.1
 have lk:=h.KN.lt
 have ld:∀{w2:World},KY w2 k (Sn p R L.length wp ed) 255->∀j u,(Qf p)[j]? =some u->w2.cell? ⟨k,0+j,none⟩=some u:=fun hB j u hj=>hB.cells (i:=0) (n:=5) (news:=Qf p) rfl j u hj
 refine KJ (e:=[(0,_),(1,_)]) Tryz.func98 rfl Tryz.ntmps98 rfl rfl (qN rfl (KU rfl rfl (MH rfl (cs:=[ptr k 0]) rfl) ?_))
 rintro _ w1 ⟨b2,rfl,bT,ad,ak⟩
 refine KU rfl rfl (MH rfl (cs:=[.slice a succ.length cp]) rfl) ?_
 rintro _ w2 ⟨b3,rfl,dZ,af,ao⟩
 refine KU rfl rfl (N3 (cs:=[_]) LG rfl) ?_
 rintro _ w3 ⟨b4,rfl,gh,ah,aJ⟩
 have z1:=ad.size
 have z2:=af.size
 have z3:=ah.size
 have lb2:=ak.lt
 have lb3:=ao.lt
 have lb4:=aJ.lt
 have cE:=(ad.trans af).trans ah
 have ct:=ah.KN (af.KN ak)
 have cZ:=ah.KN ao
 have mJ:=cE.KN h.KN
 replace aJ:KY w3 b4 [I ((0:Nat):Int)] 3:=aJ
 refine KO rfl (KO rfl (py (run_seq (KL (qN rfl (qV ((by first|exact KS MZ rfl rfl ct rfl|exact KS MZ rfl rfl cZ rfl)) ?_))))))
 refine qV (LQ MZ rfl rfl) (KO rfl (py (KH rfl (qN rfl (qV ((by first|exact KS MZ rfl rfl ct rfl|exact KS MZ rfl rfl cZ rfl)) ?_)))))
 refine qV (L6 rfl) (qV (KT SZ rfl) (qV (KT Qb rfl) (qV (KS U3 rfl rfl mJ (z0Y h.len)) (qV (Ou rfl rfl) (Ly (KO rfl (py (KH rfl (It (KM (qN rfl (qV ((by first|exact KS MZ rfl rfl ct rfl|exact KS MZ rfl rfl cZ rfl)) ?_))))))))))))
 refine qV (L6 rfl) (qV (KT SZ rfl) (qV (KT Qb rfl) (qV (KS U3 rfl rfl mJ (z0Y h.len)) (KU rfl rfl (N3 (cs:=[_]) LG rfl) ?_))))
 rintro _ w4 ⟨b7,rfl,kF,aB,bE⟩
 have z4:=aB.size
 have lb7:=bE.lt
 refine L0 rfl (Mt LG rfl rfl rfl bE (by simp)) ?_
 rintro w5 ⟨gq,aj⟩
 replace gq:KY w5 b7 [I (L.length:Int)] 3:=gq
 have ce:Ext w3 w5:=aB.KK aj (fun i e=>by omega)
 have bB:=cE.trans ce
 have z5:=ce.size
 have z45:=aj.size
 have ve:=bB.KN h.KN
 have cA:=ce.KN ct
 have bN:=ce.KN cZ
 have aK:=ce.KN aJ
 have dG:=Ext.Lb w5
 refine py (run_seq (Lx (fun e' w'=>∃b8 least,e'=[(2,ptr b2 0),(3,ptr b3 0),(4,ptr b4 0),(7,ptr b7 0),(8,ptr b8 0),(6,I 0)]/\Ext w5 w'/\w5.heap.size<=b8/\KY w' b8 [I ((least:Nat):Int)] 3) ?cq (fun cq=>?cJ)))
 case cq =>
  rintro e' w6 ⟨b8,least0,rfl,aG,j0,bZ⟩;have z6:=aG.size;have lb8:=bZ.lt;have gZ:=bB.trans aG;have Bc:=aG.KN ve;have ft:=aG.KN cA;have gO:=aG.KN bN;have df:=Ext.Lb w6;refine run_seq (KL (qN rfl (An rfl (qV (M0 rfl rfl) (KO rfl (py (KH rfl (run_seq (KV (fun w'=>Ext w6 w') (by kernel_rfl) rfl (qT 0 rfl (fun _ h=>(by first|exact KS MZ rfl rfl (h.KN ft) rfl|exact KS MZ rfl rfl (h.KN gO) rfl)) df ?_))))))))));refine KR 1 rfl (L6 rfl) df (KR 2 rfl (KT XZ rfl) df (qT 4 rfl (fun _ h=>(by first|exact KS Li rfl rfl (h.KN ft) rfl|exact KS Li rfl rfl (h.KN gO) rfl)) df ?_));refine KR 5 rfl (LM Li rfl) df (qT 3 rfl (fun _ hS=>KS U3 rfl rfl (hS.KN Bc) (zcI h.len)) df (KR 6 rfl (PM rfl rfl (by omega)) df (KR 7 rfl (LU rfl rfl) df (PA (KR 8 rfl (MO rfl) df (qE (KH rfl (It (KM (qN rfl ?_))))))))));have zg6:=df.size;refine KU rfl rfl (N3 (cs:=[_,_]) LY rfl) ?_;rintro _ w7 ⟨b9,rfl,nV,bL,cC⟩;have lb9:=cC.lt;have fM:=df.trans bL;have gj:=gZ.trans fM;have oV:=aG.trans fM;have z7:=gj.size;have z67:=fM.size;have Be:=gj.KN h.KN;have yw:AdM w7 k b2 b3 b7 b8 b4 b9 a succ.length cp L.length least0 0 (.slice none 0 0) 0:=⟨fM.KN ft,fM.KN gO,oV.KN gq,fM.KN bZ,oV.KN aK,cC⟩;have hd:b8≠b2/\b8≠b3/\b8≠b7/\b4≠b2/\b4≠b3/\b4≠b7/\b9≠b2/\b9≠b3/\b9≠b7/\b8≠b4/\b8≠b9/\b4≠b9:=by omega
  refine qM rfl (qV (Zj (first:=[]) (caps:=[.tmp 2,.tmp 3,.tmp 7,.tmp 8,.tmp 4,.tmp 9]) rfl rfl) (KO rfl (py (run_seq (qN rfl ?_)))));have Bf:=yw.c2;refine qV (KS MZ rfl rfl Bf rfl) (qV (L6 rfl) (qV (KT Ry rfl) (qV (KT Ve rfl) (qV (KS U3 rfl rfl Be rfl) (An rfl (py (Ll.qb (e:=[(2,_),(3,_),(4,_),(6,_),(7,_),(8,_),(9,_),(10,_),(58,_),(59,_)]) ?_)))))));refine KL (MV (α:=Nat) (0) (fun i=>[(2,ptr b2 0),(3,ptr b3 0),(4,ptr b4 0),(7,ptr b7 0),(8,ptr b8 0),(9,ptr b9 0),(10,.func (.func 137) #[] #[ptr b2 0,ptr b3 0,ptr b7 0,ptr b8 0,ptr b4 0,ptr b9 0]),(58,I (p.Lf:Int)),(59,I (i:Int))]) (fun i w'=>Ext w w'/\w7.heap.size<=w'.heap.size/\i<=p.Lf/\∃least ref v c,AdM w' k b2 b3 b7 b8 b4 b9 a succ.length cp L.length least ref v c/\Found p L E R succ.length ref v c) (fun i=>p.Lf-i) ?hI ?hround)
  case hI=>exact⟨gj,Nat.le_refl _,Nat.zero_le _,_,_,_,_,yw,.inl ⟨rfl,rfl,rfl⟩⟩
  case hround=>
   rintro i wA ⟨ku,K2,hi,least,ref,v,c,hA,hF⟩ ih
   try dsimp only
   refine qN rfl (qV (LX rfl rfl) (py (run_seq (KZ rfl (fun h0=>?_) (fun h0=>?_)))))
   ·refine It (run_seq (KL (qN rfl (An rfl (KO rfl (py (KQ rfl (An rfl (An rfl (LH rfl rfl ?_))))))))));rw[show(i:Int)+1=((i+1:Nat):Int) by omega];refine Mi rfl rfl (Nk (args:=[.tmp 64]) zbU rfl rfl) (z7G hp (h.ext ku) (ku.KN hG) (ku.KN hU) hL hs ko (dV.ext ku) hA hF hd (i+1) (by omega) (by omega)) ?_;rintro _ w9 ⟨rfl,aL,least',ref',v',c',pU,Hg⟩;have z9:=aL.size;refine py (KM (KQ rfl (LH rfl rfl (An rfl (py ?_)))));exact(ih (i+1) _ ⟨ku.KK aL (fun i hi=>by omega),by omega,by omega,_,_,_,_,pU,Hg⟩ (by omega)).qb
   ·have cN:∀b,w.heap.size<=b->¬F b:=fun b hb e=>by have:=h.wr.lt e;omega
    have rW:=ku.KN h.KN
    have A4:ref<=p.Lf/\(ref=0->Ma L L.length ref=[])/\Lt (Ma L L.length ref)/\(∃va vc,v= .slice va (Ma L L.length ref).length vc/\(Ma L L.length ref).length<=vc/\Rd wA (.slice va (Ma L L.length ref).length vc) 1 (Ma L L.length ref).length ((Ma L L.length ref).map Lp))/\Ul p L E L.length succ.length (ref,if 0<ref then c+1 else 0)/\c<=65536:=by
     rcases hF with⟨rfl,rfl,rfl⟩|⟨f1,f2,f3,f4,l,e,f5,f6,rfl,f8⟩
     ·refine⟨Nat.zero_le _,fun _=>rfl,⟨List.Pairwise.nil,fun y h=>(by cases h)⟩,⟨none,0,rfl,Nat.zero_le _,Qm⟩,.inl rfl,Nat.zero_le _⟩
     ·have ja:Ma L L.length ref=l:=by unfold Ma;rw[if_neg (by omega),f5];rfl
      obtain⟨va,vc,g1,g2,g3,g4⟩:=h.ring _ l e f5 f6 (by omega);rw[f4] at g1;have gv:v= .slice va l.length vc:=(Prod.mk.inj (ML g1)).1;have hb:=of_decide_eq_true f8;have Hh:=hp.2.1;rw[ja];exact⟨f2,fun e=>by omega,h.ok l (List.mem_of_getElem? f5),⟨va,vc,gv,g2,(g3.ext ku).rd⟩,.inr ⟨f1,f2,f3,l,e,f5,f6,by dsimp only;rw[if_pos (by omega)],f8⟩,by omega⟩
    obtain⟨cT,dz,bX,⟨va,vc,rfl,bC,bU⟩,gx,Hi⟩:=A4;have Bg:=mL ref cT
    generalize Bh:Ma L L.length ref=lr at dz bX bC bU Bg hA
    have kM:=hA.c2;have mu:=hA.c3;have lh:=hA.c7;have jE:=hA.c9;have jF:=hA.c4;have Bi:=hA.c8;have jG:=Ext.Lb wA;refine KX rfl (run_seq (run_seq (KV (fun w'=>Kp F wA w') (by kernel_rfl) rfl (qT 0 rfl (fun _ hS=>(by first|exact KS MZ rfl rfl (hS.KN kM (cN _ (by omega))) rfl|exact KS MZ rfl rfl (hS.KN mu (cN _ (by omega))) rfl|exact KS MZ rfl rfl (hS.KN lh (cN _ (by omega))) rfl|exact KS MZ rfl rfl (hS.KN jE (cN _ (by omega))) rfl|exact KS MZ rfl rfl (hS.KN jF (cN _ (by omega))) rfl)) (jG.kp) ?_))));refine KR 1 rfl (L6 rfl) (jG.kp) (KR 2 rfl (KT Y7 rfl) (jG.kp) (qT 4 rfl (fun _ hS=>(by first|exact KS U3 rfl rfl (hS.KN kM (cN _ (by omega))) rfl|exact KS U3 rfl rfl (hS.KN mu (cN _ (by omega))) rfl|exact KS U3 rfl rfl (hS.KN lh (cN _ (by omega))) rfl|exact KS U3 rfl rfl (hS.KN jE (cN _ (by omega))) rfl|exact KS U3 rfl rfl (hS.KN jF (cN _ (by omega))) rfl)) (jG.kp) ?_));refine qT 5 rfl (fun _ hS=>(by first|exact KS Li rfl rfl (hS.KN kM (cN _ (by omega))) rfl|exact KS Li rfl rfl (hS.KN mu (cN _ (by omega))) rfl|exact KS Li rfl rfl (hS.KN lh (cN _ (by omega))) rfl|exact KS Li rfl rfl (hS.KN jE (cN _ (by omega))) rfl|exact KS Li rfl rfl (hS.KN jF (cN _ (by omega))) rfl)) (jG.kp) ?_;refine KR 6 rfl (KT Nw rfl) (jG.kp) (qT 7 rfl (fun _ hS=>(by first|exact KS Li rfl rfl (hS.KN kM (cN _ (by omega))) rfl|exact KS Li rfl rfl (hS.KN mu (cN _ (by omega))) rfl|exact KS Li rfl rfl (hS.KN lh (cN _ (by omega))) rfl|exact KS Li rfl rfl (hS.KN jE (cN _ (by omega))) rfl|exact KS Li rfl rfl (hS.KN jF (cN _ (by omega))) rfl)) (jG.kp) ?_);refine qT 8 rfl (fun _ hS=>(by first|exact KS U3 rfl rfl (hS.KN kM (cN _ (by omega))) rfl|exact KS U3 rfl rfl (hS.KN mu (cN _ (by omega))) rfl|exact KS U3 rfl rfl (hS.KN lh (cN _ (by omega))) rfl|exact KS U3 rfl rfl (hS.KN jE (cN _ (by omega))) rfl|exact KS U3 rfl rfl (hS.KN jF (cN _ (by omega))) rfl)) (jG.kp) ?_;refine qT 9 rfl (fun _ hS=>(by first|exact KS MZ rfl rfl (hS.KN kM (cN _ (by omega))) rfl|exact KS MZ rfl rfl (hS.KN mu (cN _ (by omega))) rfl|exact KS MZ rfl rfl (hS.KN lh (cN _ (by omega))) rfl|exact KS MZ rfl rfl (hS.KN jE (cN _ (by omega))) rfl|exact KS MZ rfl rfl (hS.KN jF (cN _ (by omega))) rfl)) (jG.kp) ?_;refine KR 10 rfl (L6 rfl) (jG.kp) (KR 11 rfl (KT Ry rfl) (jG.kp) (qT 3 rfl (fun _ hS=>KS XF rfl rfl (hS.KN rW h.nk) (z98 h.len)) (jG.kp) (qT 12 rfl (fun _ hS=>Lj (news:=Qf p) VA rfl MP rfl (ld (hS.KN rW h.nk)) rfl) (jG.kp) (O2 13 [.tmp 79] rfl VD rfl (NZ p _) ?_))));rintro _ w9 ⟨rfl,eX⟩;refine⟨(jG.trans eX).kp,?_⟩;have ll:=jG.trans eX;have fK:=ku.trans ll;refine O2 14 [.tmp 70,.tmp 71,.tmp 72,.tmp 74,.tmp 75,.tmp 80] rfl z8G rfl (Up (h.wr.ext fK) p.list hp.1 L.length hL succ lr hs bX ref cT dz (fK.KN hG) (fK.KN hU) (dV.ext fK) (bU.ext ll) ko bC Bg) ?_;rintro _ wB ⟨rfl,F',yJ,iA,oU⟩;refine⟨ll.kp.trans iA,?_⟩;have hC:Kp F wA wB:=ll.kp.trans iA;have Bj:∀i,F' i->F i\/wA.heap.size<=i:=fun i hi=>(oU i hi).imp id (fun e=>by have:=ll.size;omega)
    have vf:=hC.KN jF (cN _ (by omega));have vg:=hC.KN jE (cN _ (by omega));have rX:=hC.KN kM (cN _ (by omega));have rY:=hC.KN mu (cN _ (by omega));have Bk:=hC.KN Bi (cN _ (by omega));have Bl:=hC.KN rW h.nk;have zAB:=hC.size;have Bm:Rd wB (.slice a succ.length cp) 1 succ.length (succ.map Lp):=(dV.ext ku).kpz hC (fun h0 g hg=>(Hf g h0 hg).1);refine KR 15 rfl (MO rfl) (ll.kp.trans iA) (qE (Ll.qb (e:=[(2,_),(3,_),(4,_),(8,_),(9,_),(12,_)]) ?_));refine qN rfl (An rfl (qV (M0 rfl rfl) (py (KH rfl (It (qN rfl (KO rfl (py (run_seq (qN rfl (qV ((by first|exact KS U3 rfl rfl vf rfl|exact KS U3 rfl rfl vg rfl)) ?_)))))))))));refine qV (LU rfl rfl) (py (Lx (fun e' w'=>e'=[(2,ptr b2 0),(3,ptr b3 0),(4,ptr b4 0),(8,ptr b8 0),(13,I ((if 0<ref then c+1 else 0:Nat):Int))]/\w'=wB) ?ar (fun ar=>?dJ)))
    case ar=>
     rintro e' wB' ⟨rfl,rfl⟩
     generalize (if 0<ref then c+1 else 0)=ch at gx
     have oW:=Ext.Lb wB';have Bn:∀i,i<wB'.heap.size->¬(Value.slice none 0 0).ownBlock=some i:=fun i _ e=>by cases e
     refine run_seq (KV (fun w'=>Kp (fun i=>i=k) wB' w') (by kernel_rfl) rfl (qT 0 rfl (fun _ hS=>(by first|exact KS MZ rfl rfl (hS.KN rX (by omega)) rfl|exact KS MZ rfl rfl (hS.KN rY (by omega)) rfl)) (oW.kp) ?_));refine KR 1 rfl (L6 rfl) (oW.kp) (KR 2 rfl (KT SZ rfl) (oW.kp) (qT 3 rfl (fun _ hS=>(by first|exact KS Li rfl rfl (hS.KN rX (by omega)) rfl|exact KS Li rfl rfl (hS.KN rY (by omega)) rfl)) (oW.kp) ?_));refine KR 5 rfl (KW rfl) (oW.kp) (qO 4 (Um (i:=4) rfl rfl rfl (pap Li L8 rfl (by decide) rfl rfl (Sl.nil _ _ _) (Bm.ext oW) (Xy _) (by omega) (by simp only[maxLen];omega)) ?_));rintro v' wC ⟨tL,j7,Hj,-⟩;refine⟨oW.kp.trans (j7.L2 fun i e=>by cases e),?_⟩;have jH:Ext wB' wC:=oW.trans ((Ext.refl _).KK j7 (fun i e=>by cases e));rw[Nat.zero_add,List.nil_append] at tL;obtain⟨a',cp',rfl,-⟩:=tL.rd.shape
     have rT:succ.length<=cp':=by
      rcases tL.shape with⟨e,h0⟩|⟨g,c1,hv,ff⟩
      ·omega
      ·cases hv;exact ff
     have vh:∀g,(Value.slice a' succ.length cp').ownBlock=some g->wB'.heap.size<=g:=fun g hg=>by
      rcases Hj g hg with e| e
      ·cases e
      ·have:=oW.size;omega
     have Bo:=jH.KN Bl;refine O2 6 [.tmp 92,.tmp 94,.tmp 95] rfl zbR rfl (z4G Bo h.len (by omega) a' succ.length cp' ch) ?_;rintro _ wD ⟨rfl,EJ,f7⟩;refine⟨jH.kp.trans f7,?_⟩;have dj:(R.set (L.length%17) (.slice a' succ.length cp',ch)).length=17:=by rw[List.length_set];exact h.len
     have vm:=f7.KN (jH.KN rX) (by omega);have vp:=f7.KN (jH.KN rY) (by omega);have Bp:=f7.KN (jH.KN vf) (by omega);have Bq:=f7.KN (jH.KN Bk) (by omega);have mM:=Ext.Lb wD;refine qE (run_seq (Le [9] (fun w'=>Ext wD w') (by kernel_rfl) rfl (qL [1,2,3,6,7,8,9] 0 rfl (fun _ h=>(by first|exact KS MZ rfl rfl (h.KN vm) rfl|exact KS MZ rfl rfl (h.KN vp) rfl)) mM ?_)));refine qL [2,3,6,7,8,9] 1 rfl (fun _ h=>L6 rfl) mM (qL [3,6,7,8,9] 2 rfl (fun _ h=>KT XZ rfl) mM (qL [5,6,7,8,9] 4 rfl (fun _ h=>(by first|exact KS Li rfl rfl (h.KN vm) rfl|exact KS Li rfl rfl (h.KN vp) rfl)) mM ?_));refine qL [6,7,8,9] 5 rfl (fun _ h=>LM Li rfl) mM (qL [6,7,8,9] 3 rfl (fun _ h=>KS U3 rfl rfl (h.KN EJ) (zcI dj)) mM (qL [7,8,9] 6 rfl (fun _ h=>PM rfl rfl (by omega)) mM (qL [8,9] 7 rfl (fun _ h=>L6 rfl) mM (qL [9] 8 rfl (fun _ h=>KT XZ rfl) mM (LD [9] (by kernel_rfl) (by kernel_rfl) (qO 9 (Lv (i:=9) rfl rfl (Mt LG rfl rfl rfl (mM.KN EJ) (by rw[z0w dj];decide)) ?_)))))));rintro wE ⟨yL,Br⟩;refine⟨trivial,?_⟩;replace yL:KY wE k ((Sn p (R.set (L.length%17) (.slice a' succ.length cp',ch)) (L.length+1) wp ed).set 41 (I ((ed+succ.length:Nat):Int))) 255:=yL;rw[z6x dj] at yL;have nZ:Kp (fun i=>i=k) wD wE:=mM.kp.trans Br;have rZ:=nZ.KN Bp (by omega);have vt:=nZ.KN Bq (by omega);have oX:=Ext.Lb wE;refine qE (run_seq (KV (fun w'=>Kp (fun i=>i=b4) wE w'/\KY w' b4 [I (ref:Int)] 3) (by kernel_rfl) rfl (qT 0 rfl (fun _ hS=>(by first|exact KS U3 rfl rfl hS.2 rfl|exact KS U3 rfl rfl (hS.1.KN vt (by omega)) rfl)) (⟨oX.kp,oX.KN rZ⟩) ?_)));refine qT 1 rfl (fun _ hS=>(by first|exact KS U3 rfl rfl hS.2 rfl|exact KS U3 rfl rfl (hS.1.KN vt (by omega)) rfl)) (⟨oX.kp,oX.KN rZ⟩) ?_;refine qO 2 (Lv (i:=2) rfl rfl (Mt LG rfl rfl rfl (oX.KN rZ) (by simp)) ?_);rintro wF ⟨ln,oY⟩;refine⟨⟨oX.kp.trans oY,ln⟩,?_⟩;replace ln:KY wF b4 [I (ref:Int)] 3:=ln;have rU:Kp (fun i=>i=b4) wE wF:=oX.kp.trans oY;have B8:=rU.KN yL (by omega);refine KR 3 rfl (MO rfl) (⟨oX.kp.trans oY,ln⟩) (KR 4 rfl (MO rfl) (⟨oX.kp.trans oY,ln⟩) (qE (Ll.qb (e:=[(4,_),(5,_),(6,_)]) ?_)));refine Lh Tryz.func98 (.cell1 U3 rfl rfl ((ln).cell _) (.tmp rfl (.tmp rfl .nil))) ?_;obtain⟨q1,q2,q3⟩:=h.add (r:=ref) ku hC yJ Bj hs jH tL rT vh f7 nZ rU (by omega) (by omega) B8;exact⟨_,rfl,ref,least,ch,F',_,rfl,gx,by rw[Bh];exact q1,q2,q3⟩
    case dJ=>
     refine KZ rfl (fun h5=>?_) (fun h5=>?_)
     ·refine KQ rfl (qV (KT Y0 rfl) (qV (KS U3 rfl rfl vg rfl) (LH rfl rfl (KO rfl (py ?_)))));rw[show(c:Int)+1=((if 0<ref then c+1 else 0:Nat):Int) by rw[if_pos (by omega)];omega];exact(ar _ _ ⟨rfl,rfl⟩).qb
     ·refine It ?_;have iH:(if 0<ref then c+1 else 0)=0:=if_neg (by omega);exact(ar _ _ ⟨by rw[iH],rfl⟩).qb
 case cJ=>
  have ar:=dG;refine Le [12] (fun w'=>Ext w5 w') (by kernel_rfl) rfl (qL [7,8,9,10,12,13] 0 rfl (fun _ h=>(by first|exact KS U3 rfl rfl (h.KN cA) rfl|exact KS U3 rfl rfl (h.KN bN) rfl|exact KS U3 rfl rfl (h.KN gq) rfl)) ar ?_);refine qL [7,8,9,10,12,13] 1 rfl (fun _ h=>(by first|exact KS Li rfl rfl (h.KN cA) rfl|exact KS Li rfl rfl (h.KN bN) rfl|exact KS Li rfl rfl (h.KN gq) rfl)) ar ?_;refine qL [3,4,5,6,7,8,9,10,12,13] 2 rfl (fun _ h=>(by first|exact KS MZ rfl rfl (h.KN cA) rfl|exact KS MZ rfl rfl (h.KN bN) rfl|exact KS MZ rfl rfl (h.KN gq) rfl)) ar ?_;refine qL [4,5,6,7,8,9,10,12,13] 3 rfl (fun _ h=>L6 rfl) ar (qL [5,6,7,8,9,10,12,13] 4 rfl (fun _ h=>KT Ry rfl) ar (qL [6,7,8,9,10,12,13] 5 rfl (fun _ h=>Lj (news:=Qf p) VA rfl MP rfl (ld (h.KN ve)) rfl) ar (S8 (i:=6) (j:=11) (by kernel_rfl) ?_ ?_)))
  ·refine N6 (i:=6) rfl rfl rfl (yc (args:=[.tmp 35]) VD rfl) (NZ p _) ?_;rintro _ w6 ⟨rfl,aG⟩;refine⟨ar.trans aG,?_⟩
   try have aH:=aG.KN aH
   have ar:=ar.trans aG;refine S8 (i:=7) (j:=11) (by kernel_rfl) ?_ ?_
   ·refine N6 (i:=7) rfl rfl rfl (yc (args:=[.tmp 30,.tmp 31,.const (Value.slice none 0 0),.const (Value.int .i64 0),.tmp 36]) Zb rfl) (Qq p.list hp.1 L.length hL succ [] hs ⟨List.Pairwise.nil,fun y h=>(by cases h)⟩ 0 (Nat.zero_le _) (fun _=>rfl) ((bB.trans ar).KN hG) ((bB.trans ar).KN hU) (dV.ext (bB.trans ar)) Qm ko (Nat.zero_le _)) ?_;rintro _ w7 ⟨rfl,bL⟩;refine⟨ar.trans bL,?_⟩
    try have aH:=bL.KN aH
    have ar:=ar.trans bL;refine qL [9,10,12,13] 8 rfl (fun _ h=>KW rfl) ar (qL [12,13] 9 rfl (fun _ h=>Lu rfl rfl) ar (LP (i:=10) rfl (by kernel_rfl) rfl rfl (fun _=>Lu rfl rfl) ar (MB (i:=11) (by kernel_rfl) (LZ (i:=11) rfl rfl rfl (N3 (cs:=[_]) LG rfl) ?_))));rintro _ w11 ⟨b8,rfl,iz,aQ,aH⟩;refine⟨ar.trans aQ,?_⟩;have mN:w5.heap.size<=b8:=by have:=ar.size;omega
    have ar:=ar.trans aQ;refine LD [12] (by kernel_rfl) (by kernel_rfl) (qO 12 (Lv (i:=12) rfl rfl (Mt LG rfl rfl rfl aH (by simp)) ?_));rintro w12 ⟨aZ,aU⟩;refine⟨trivial,?_⟩;refine KR 13 rfl (MO rfl) trivial (qE (Ll.qb (e:=[(2,_),(3,_),(4,_),(5,_),(6,_),(7,_),(8,_)]) ?_));exact(cq _ _ ⟨b8,_,rfl,ar.KK aU (fun i e=>by omega),mN,aZ⟩).qb
   ·refine LZ (i:=11) rfl rfl rfl (N3 (cs:=[_]) LG rfl) ?_;rintro _ w11 ⟨b8,rfl,iz,aQ,aH⟩;refine⟨ar.trans aQ,?_⟩;have mN:w5.heap.size<=b8:=by have:=ar.size;omega
    have ar:=ar.trans aQ;refine MB (i:=7) (by kernel_rfl) (N6 (i:=7) rfl rfl rfl (yc (args:=[.tmp 30,.tmp 31,.const (Value.slice none 0 0),.const (Value.int .i64 0),.tmp 36]) Zb rfl) (Qq p.list hp.1 L.length hL succ [] hs ⟨List.Pairwise.nil,fun y h=>(by cases h)⟩ 0 (Nat.zero_le _) (fun _=>rfl) ((bB.trans ar).KN hG) ((bB.trans ar).KN hU) (dV.ext (bB.trans ar)) Qm ko (Nat.zero_le _)) ?_);rintro _ w7 ⟨rfl,bL⟩;refine⟨ar.trans bL,?_⟩
    try have aH:=bL.KN aH
    have ar:=ar.trans bL;refine qL [9,10,12,13] 8 rfl (fun _ h=>KW rfl) ar (qL [12,13] 9 rfl (fun _ h=>Lu rfl rfl) ar (LP (i:=10) rfl (by kernel_rfl) rfl rfl (fun _=>Lu rfl rfl) ar (LD [12] (by kernel_rfl) (by kernel_rfl) (qO 12 (Lv (i:=12) rfl rfl (Mt LG rfl rfl rfl aH (by simp)) ?_)))));rintro w12 ⟨aZ,aU⟩;refine⟨trivial,?_⟩;refine KR 13 rfl (MO rfl) trivial (qE (Ll.qb (e:=[(2,_),(3,_),(4,_),(5,_),(6,_),(7,_),(8,_)]) ?_));exact(cq _ _ ⟨b8,_,rfl,ar.KK aU (fun i e=>by omega),mN,aZ⟩).qb
  ·refine LZ (i:=11) rfl rfl rfl (N3 (cs:=[_]) LG rfl) ?_;rintro _ w11 ⟨b8,rfl,iz,aQ,aH⟩;refine⟨ar.trans aQ,?_⟩;have mN:w5.heap.size<=b8:=by have:=ar.size;omega
   have ar:=ar.trans aQ;refine MB (i:=6) (by kernel_rfl) (N6 (i:=6) rfl rfl rfl (yc (args:=[.tmp 35]) VD rfl) (NZ p _) ?_);rintro _ w6 ⟨rfl,aG⟩;refine⟨ar.trans aG,?_⟩
   try have aH:=aG.KN aH
   have ar:=ar.trans aG;refine MB (i:=7) (by kernel_rfl) (N6 (i:=7) rfl rfl rfl (yc (args:=[.tmp 30,.tmp 31,.const (Value.slice none 0 0),.const (Value.int .i64 0),.tmp 36]) Zb rfl) (Qq p.list hp.1 L.length hL succ [] hs ⟨List.Pairwise.nil,fun y h=>(by cases h)⟩ 0 (Nat.zero_le _) (fun _=>rfl) ((bB.trans ar).KN hG) ((bB.trans ar).KN hU) (dV.ext (bB.trans ar)) Qm ko (Nat.zero_le _)) ?_);rintro _ w7 ⟨rfl,bL⟩;refine⟨ar.trans bL,?_⟩
   try have aH:=bL.KN aH
   have ar:=ar.trans bL;refine qL [9,10,12,13] 8 rfl (fun _ h=>KW rfl) ar (qL [12,13] 9 rfl (fun _ h=>Lu rfl rfl) ar (LP (i:=10) rfl (by kernel_rfl) rfl rfl (fun _=>Lu rfl rfl) ar (LD [12] (by kernel_rfl) (by kernel_rfl) (qO 12 (Lv (i:=12) rfl rfl (Mt LG rfl rfl rfl aH (by simp)) ?_)))));rintro w12 ⟨aZ,aU⟩;refine⟨trivial,?_⟩;refine KR 13 rfl (MO rfl) trivial (qE (Ll.qb (e:=[(2,_),(3,_),(4,_),(5,_),(6,_),(7,_),(8,_)]) ?_));exact(cq _ _ ⟨b8,_,rfl,ar.KK aU (fun i e=>by omega),mN,aZ⟩).qb
section
variable {w:World}{k:Nat}{p:LW}{L:List (List Nat)}{E:List (Nat×Nat)}{bs:List Bool}{F:Nat->Prop}{R:List (Value×Nat)}{wp ed:Nat}
theorem z1f (h:PkM w k p L E bs F R wp ed)(hl:bs.length<=9223372036854775):Lk Tryz.prog 99 [ptr k 0] w fun u w'=>u=I (bs.length:Int)/\Ext w w':=by
 refine KJ (e:=[(0,_)]) Tryz.func99 rfl Tryz.ntmps99 rfl rfl ?_
 have hg:=Ext.Lb w
 refine qN rfl (KO rfl (py (run_seq (qN rfl (An rfl (qV (LQ MZ rfl rfl) (py (KH rfl (It (run_seq (KV (fun w'=>Ext w w') (by kernel_rfl) rfl (KR 0 rfl (KW rfl) hg (KR 1 rfl (L6 rfl) hg ?_)))))))))))))
 refine KR 2 rfl (KT z7p rfl) hg (KR 4 rfl (KW rfl) hg (KR 5 rfl (L6 rfl) hg (KR 6 rfl (KT Y7 rfl) hg (qT 3 rfl (fun _ hS=>KS U3 rfl rfl (hS.KN h.KN) (zdv h.len)) hg (qT 7 rfl (fun _ hS=>KS XF rfl rfl (hS.KN h.KN) (z98 h.len)) hg (O2 8 [.tmp 12] rfl WL rfl (Qt (h.wr.ext hg)) ?_))))))
 rintro _ w1 ⟨rfl,rfl⟩
 refine⟨hg,?_⟩
 refine KR 9 rfl (PM rfl rfl (by omega)) hg (KR 10 rfl (MO rfl) hg (qE ?_))
 rw[show(0:Int)+(bs.length:Int)=(bs.length:Int) by omega]
 refine KP Tryz.func99 rfl ?_
 exact⟨_,rfl,rfl,hg⟩
theorem z1i (h:PkM w k p L E bs F R wp ed):Lk Tryz.prog 100 [ptr k 0] w fun u w'=>u= .tuple #[S (Lg bs),I 0]/\w'=w:=by
 refine KJ (e:=[(0,_)]) Tryz.func100 rfl Tryz.ntmps100 rfl rfl (qN rfl (KO rfl (KO rfl (py (run_seq (qN rfl (An rfl (qV (LQ MZ rfl rfl) (py (KH rfl (It (qN rfl (An rfl ?_)))))))))))))
 refine qV (L6 rfl) (qV (KT Y7 rfl) (qV (KS XF rfl rfl h.KN (z98 h.len)) (La [.tmp 9] z2G rfl (RK h.wr) ?_)))
 rintro _ w1 ⟨rfl,rfl⟩
 refine qV (Lu rfl rfl) (qV (Lu rfl rfl) (KO rfl (KO rfl (py (KP Tryz.func100 rfl ?_)))))
 exact⟨_,rfl,rfl,rfl⟩
end
structure GrM (w:World)(v:Value)(g:List (List Nat)):Prop where
 ex:∃vs:List Value,Rd w v 1 g.length vs/\∀(i:Nat) (l:List Nat),g[i]? =some l->∃(a:Option Addr) (c:Nat),vs[i]? =some (Value.slice a l.length c)/\l.length<=c/\Rd w (.slice a l.length c) 1 l.length (l.map Lp)
theorem GrM.ext {w w':World}{v:Value}{g:List (List Nat)}(h:GrM w v g)(hx:Ext w w'):GrM w' v g:=by
 obtain⟨vs,h1,h2⟩:=h.ex
 refine⟨vs,h1.ext hx,fun i l hl=>?_⟩
 obtain⟨a,c,g1,g2,g3⟩:=h2 i l hl
 exact⟨a,c,g1,g2,g3.ext hx⟩
structure N2 (g:List (List Nat)):Prop where
 ok:∀l∈g,Lt l
 lt:∀l∈g,∀y∈l,y<g.length
 n:g.length<=60
theorem N2.len {g:List (List Nat)}(h:N2 g){l:List Nat}(hl:l∈g):l.length<=g.length:=by
 have:=XO l 0 g.length (h.ok l hl).Wb (fun y hy=>⟨Nat.zero_le _,h.lt l hl y hy⟩) (Nat.zero_le _)
 omega
def M1 (g:List (List Nat)):Nat:=(g.map List.length).sum
theorem Sq (g:List (List Nat))(l:List Nat):M1 (g++[l])=M1 g+l.length:=by simp[M1]
theorem z4E {g:List (List Nat)}{n:Nat}(h:∀l∈g,l.length<=n):M1 g<=g.length*n:=by
 induction g with
 |nil=>simp[M1]
 | cons l g ih =>
   have h1:=ih (fun m hm=>h m (List.mem_cons_of_mem _ hm));have h2:=h l List.mem_cons_self;show(l.length::g.map List.length).sum<=_;rw[List.sum_cons,List.length_cons,Nat.add_mul];have e:M1 g=(g.map List.length).sum:=rfl;omega
theorem OV {g:List (List Nat)}(h:N2 g)(i:Nat):M1 (g.take i)<=3600:=by
 have h1:M1 (g.take i)<=(g.take i).length*60:=z4E (fun l hl=>by have:=h.len (List.mem_of_mem_take hl);have:=h.n;omega)
 have h2:(g.take i).length<=60:=by rw[List.length_take];have:=h.n;omega
 omega
theorem ZG {w:World}{ga:Option Addr}{gc:Nat}{g:List (List Nat)}(h:GrM w (.slice ga g.length gc) g)(hg:N2 g):Lk Tryz.prog 97 [.slice ga g.length gc] w fun u w'=>u= .bool true/\w'=w:=by
 have hn:=hg.n
 obtain⟨vs,eY,ke⟩:=h.ex
 refine KJ (e:=[(0,_)]) Tryz.func97 rfl Tryz.ntmps97 rfl rfl (qN rfl (KO rfl (qM rfl (KO rfl (py (run_seq (qN rfl (An rfl (qV (LM R6 rfl) (An rfl (py (KL (MV (α:=Nat) (0) (fun i=>[(0,.slice ga g.length gc),(3,I (M1 (g.take i):Int)),(8,.slice ga g.length gc),(9,I (g.length:Int)),(10,I (i:Int))]) (fun i w'=>w'=w/\i<=g.length) (fun i=>g.length-i) ?hI ?hround)))))))))))))
 case hI=>exact⟨rfl,Nat.zero_le _⟩
 case hround =>
  rintro i w4 ⟨rfl,hi⟩ ih;have s0:=OV hg i
  try dsimp only
  refine qN rfl (qV (LX rfl rfl) (py (run_seq (KZ rfl (fun h0=>?_) (fun h0=>?_)))))
  ·have di:i<g.length:=by omega
   obtain⟨l,hl⟩:∃l,g[i]? =some l:=⟨_,List.getElem?_eq_getElem di⟩;have gL:=List.mem_of_getElem? hl;have eO:=hg.len gL;obtain⟨a,c,e1,e2,e3⟩:=ke i l hl
   obtain⟨gb,go,gc',e4⟩:∃b o c',Value.slice ga g.length gc= .slice (some ⟨b,o,none⟩) g.length c':=by
    rcases eY.2 with⟨c,hc,h0⟩|⟨b,off,c',hc,-⟩
    ·omega
    ·exact⟨b,off,c',hc⟩
   cases e4;refine It (run_seq (KL (qN rfl (qV (LC R6 OI rfl rfl (by omega)) (qV (Lm Li rfl rfl (LV eY e1)) (KO rfl (qM rfl (An rfl (An rfl (qV (LM Li rfl) (LH rfl rfl (KO rfl (qM rfl ?_)))))))))))));refine An rfl (qV (LM Li rfl) (An rfl (py (KL ?_))));have yK:=Sq (g.take i) l;rw[<-LA hl] at yK;rw[show(M1 (g.take i):Int)+(l.length:Int)=(M1 (g.take (i+1)):Int) by omega];refine MV (α:=Nat) (0) (fun j=>[(0,.slice (some ⟨gb,go,none⟩) g.length gc),(3,I (M1 (g.take (i+1)):Int)),(5,.slice a l.length c),(8,.slice (some ⟨gb,go,none⟩) g.length gc),(9,I (g.length:Int)),(10,I (i:Int)),(18,.slice a l.length c),(19,I (l.length:Int)),(20,I (j:Int))]) (fun j w'=>w'=w4/\j<=l.length) (fun j=>l.length-j) ?hI ?hround
   case hI=>exact⟨rfl,Nat.zero_le _⟩
   case hround=>
    rintro j w5 ⟨rfl,hj⟩ ih2
    try dsimp only
    refine qN rfl (qV (LX rfl rfl) (py (run_seq (KZ rfl (fun h1=>?_) (fun h1=>?_)))))
    ·have kf:j<l.length:=by omega
     obtain⟨y,hy⟩:∃y,l[j]? =some y:=⟨_,List.getElem?_eq_getElem kf⟩;have Eq:=hg.lt l gL y (List.mem_of_getElem? hy)
     obtain⟨lb,lo,lc,e5⟩:∃b o c',Value.slice a l.length c= .slice (some ⟨b,o,none⟩) l.length c':=by
      rcases e3.2 with⟨c,hc,h0⟩|⟨b,off,c',hc,-⟩
      ·omega
      ·exact⟨b,off,c',hc⟩
     cases e5;refine It (run_seq (KL (qN rfl (An rfl (qV (LC Li L8 rfl rfl (by omega)) (qV (Lm Mk rfl rfl (LV e3 (show(l.map Lp)[j]? =some (Lp y) by rw[List.getElem?_map,hy];rfl))) ?_))))));refine KO rfl (KO rfl (qM rfl (An rfl (qV (Lw rfl Mk U3 (by omega)) (An rfl (qV (LM R6 rfl) (qV (Ou rfl rfl) (Ly (An rfl ?_)))))))));rcases Nat.eq_zero_or_pos j with Hk|Hk
     ·refine An rfl (qV (LU rfl rfl) (Ly (An rfl (qS (qS (qS (qS (qS (qS (qS (qV (Ls rfl rfl) (qV (Ls rfl rfl) (py ?_)))))))))))));refine KH rfl (It (KM (KQ rfl (LH rfl rfl (An rfl (py ?_))))));exact(ih2 (j+1) _ ⟨rfl,by omega⟩ (by omega)).qb
     ·obtain⟨z,hz⟩:∃z,l[j-1]? =some z:=⟨_,List.getElem?_eq_getElem (by omega)⟩
      have K3:z<y:=by
       obtain⟨a1,a2⟩:=List.getElem?_eq_some_iff.1 hz;obtain⟨b1,b2⟩:=List.getElem?_eq_some_iff.1 hy;have:=List.pairwise_iff_getElem.1 (hg.ok l gL).Wb (j-1) j a1 b1 (by omega)
       rwa [a2,b2] at this
      refine An rfl (qV (LU rfl rfl) (MR (An rfl (An rfl (An rfl (An rfl (qV (Md rfl rfl (by omega)) ?_)))))));rw[show(j:Int)-1=((j-1:Nat):Int) by omega];refine qV (LC Li L8 rfl rfl (by omega)) (qV (Lm Mk rfl rfl (LV e3 (show(l.map Lp)[j-1]? =some (Lp z) by rw[List.getElem?_map,hz];rfl))) ?_);refine qV (Qv rfl rfl) (Ly (qV (LR rfl rfl) (qV (Ls rfl rfl) (py (KH rfl (It (KM (KQ rfl (LH rfl rfl (An rfl (py ?_)))))))))));exact(ih2 (j+1) _ ⟨rfl,by omega⟩ (by omega)).qb
    ·refine KX rfl (KM (KQ rfl (LH rfl rfl (An rfl (py ?_)))));exact(ih (i+1) _ ⟨rfl,by omega⟩ (by omega)).qb
  ·refine KX rfl (qN rfl (An rfl (qV (LM R6 rfl) (qV (Qv rfl rfl) (MR (An rfl (An rfl (qV (Qv rfl rfl) (MR (qV (LR rfl rfl) (KO rfl (py (KP Tryz.func97 rfl ?_)))))))))))));exact⟨_,rfl,rfl,rfl⟩
/-! ### How many bits -/
theorem Si.XG {k:Nat}{q:Cd×Nat}(h:Si k q)(hk:1<=k/\k<=16):(q.1.enc q.2).length<=112:=by
 obtain⟨h1,h2⟩:=h.M3 hk
 obtain⟨-,q2,-⟩:=RU h1 h2
 rw[RT]
 rcases h with⟨e,h⟩|⟨e,h⟩|⟨e,h⟩
 ·rw[e] at q2⊢;show q.2+1+_<=_;omega
 ·have:=(QN (v:=q.2) (by omega)).2.2;rw[e] at q2⊢;show Nat.log2 (q.2+1)+1+_<=_;omega
 ·have h3:=(QN (v:=q.2) (by omega)).2.2;have h4:Nat.log2 (q.2+1) / k<=Nat.log2 (q.2+1):=Nat.div_le_self _ _;rw[e] at q2⊢;show Nat.log2 (q.2+1) / k+1+_<=_;omega
theorem X5 {n:Nat}{L:List (Cd×Nat)}(h:∀q∈L,(q.1.enc q.2).length<=n):(Ld L).length<=L.length*n:=by
 induction L with
 |nil=>simp[Ld]
 | cons q L ih =>
   have h1:=ih (fun q hq=>h q (List.mem_cons_of_mem _ hq));have h2:=h q List.mem_cons_self;rw[LI,List.length_append,List.length_cons,Nat.add_mul];omega
theorem WW (least:Nat){l:List Nat}(h:Lt l):(rowsN least l).1.length<=l.length:=by
 have h1:=(Ox least l).length_eq
 rw[List.length_append] at h1
 have h4:∀(R:List (Nat×Nat)) (lo:Nat),NU least lo R->R.length<=(Mp R).length:=by
  intro R
  induction R with
  |nil=>intro lo h;exact Nat.le_refl _
  | cons q R ih =>
    intro lo h;have h5:=ih _ h.2.2.2;have h6:1<=q.2:=h.2.1;rw[show Mp (q::R)=(List.range q.2).map (q.1+·)++Mp R from rfl,List.length_append,List.length_map,List.length_range,List.length_cons];omega
 have h5:=h4 _ 0 (Q8 least l 0 h.Wb (fun y _=>Nat.zero_le _))
 omega
theorem TE {p:Nc}(hp:p.M3){x:Nat}(hx:x<65536){succ ref:List Nat}(hs:Lt succ)(hr:Lt ref){r:Nat}(iD:r<=p.Lf)(Hl:succ.length<=60)(yo:ref.length<=60):(Ld (MK p x succ ref r)).length<=44800:=by
 have av:Lt (leftOf succ ref):=hs.sub List.filter_sublist
 have eO:(leftOf succ ref).length<=succ.length:=List.length_filter_le _ _
 have h1:=(O4 succ ref).Wf
 rw[List.length_map] at h1
 have h2:=WW p.interval av
 have h3:=(PI p.interval (leftOf succ ref)).length_le
 have aD:(MK p x succ ref r).length<=400:=by
  unfold MK;rw[List.length_cons];split
  ·simp
  rw[List.length_append,List.length_append];have e1:(if 0<p.Lf then [(Cd.unary,r)] else []).length<=1:=by split<;>simp
  have e2:(if 0<r then(Cd.gamma,(Mx succ ref).length-1)::runNums 0 (Mx succ ref).dropLast else []).length<=62:=by
   split
   ·rw[List.length_cons,O9,List.length_dropLast];omega
   ·simp
  have e3:(if leftOf succ ref=[] then [] else(if 0<p.interval then(Cd.gamma,(rowsN p.interval (leftOf succ ref)).1.length)::longNums x p.interval none (rowsN p.interval (leftOf succ ref)).1 else [])++restNums x p.zeta none (rowsN p.interval (leftOf succ ref)).2).length<=200:=by
   split
   ·simp
   ·rw[List.length_append,Oj];split
    ·rw[List.length_cons,NG];omega
    ·simp;omega
  omega
 have:=X5 (n:=112) (L:=MK p x succ ref r) (fun q hq=>(UT hp hx hs hr iD q hq).XG ⟨hp.2.2.1,hp.2.2.2⟩)
 omega
/-! ### All bits -/
def SC (p:LW)(g:List (List Nat))(E:List (Nat×Nat))(i:Nat):List Bool:=
 Ld (MK p.list i ((g[i]?).getD []) (Ma g i ((E[i]?).getD (0,0)).1) ((E[i]?).getD (0,0)).1)
def M7 (p:LW)(g:List (List Nat))(E:List (Nat×Nat))(n:Nat):List Bool:=(List.range n).flatMap (SC p g E)
theorem O0 (p:LW)(g:List (List Nat))(E:List (Nat×Nat))(n:Nat):M7 p g E (n+1)=M7 p g E n++SC p g E n:=by
 unfold M7
 rw[List.range_succ,List.flatMap_append];simp
theorem W7 (p:LW)(g:List (List Nat))(E:List (Nat×Nat))(e:Nat×Nat):∀n,n<=E.length->M7 p g (E++[e]) n=M7 p g E n
 |0,_=>rfl
 | n + 1, h => by
   rw[O0,O0,W7 p g E e n (by omega)]
   congr 1
   unfold SC;rw[List.getElem?_append_left (by omega)]
structure z8E (p:LW)(g:List (List Nat))(E:List (Nat×Nat)):Prop where
 ent:∀i e,E[i]? =some e->Ul p g E i ((g[i]?).getD []).length e
theorem Ul.mono {p:LW}{L L':List (List Nat)}{E E':List (Nat×Nat)}{n size:Nat}{e:Nat×Nat}(h:Ul p L E n size e)(hL:∀(j:Nat) (l:List Nat),L[j]? =some l->L'[j]? =some l)(hE:∀(j:Nat) (l:Nat×Nat),E[j]? =some l->E'[j]? =some l):Ul p L' E' n size e:=by
 rcases h with h|⟨h1,h2,h3,l,e',h4,h5,h6,h7⟩
 ·exact .inl h
 ·exact .inr ⟨h1,h2,h3,l,e',hL _ _ h4,hE _ _ h5,h6,h7⟩
theorem Sl.typed {w:World}{v:Value}{T:TypeId}{k n g:Nat}{cs:List Value}(h:Sl w v T k n cs)(hg:v.ownBlock=some g):∃cur,w.heap[g]? =some (.cells cur T (0,0)):=by
 rcases h.2 with⟨hz,-⟩|⟨g1,cap1,cur,hv,-,bj,-⟩
 ·rw[hz] at hg;cases hg
 ·rw[hv] at hg;have e:g1=g:=ML hg;exact⟨cur,e▸bj⟩
theorem PkM.kpT {w w':World}{k:Nat}{p:LW}{L:List (List Nat)}{E:List (Nat×Nat)}{bs:List Bool}{F:Nat->Prop}{R:List (Value×Nat)}{wp ed:Nat}(h:PkM w k p L E bs F R wp ed){v:Value}{T:TypeId}{sz n:Nat}{cs:List Value}(hT:T≠46)(hv:Sl w v T sz n cs)(hk:Kp (fun i=>v.ownBlock=some i) w w')(n1:v.ownBlock≠some k)(n2:∀i,F i->v.ownBlock≠some i):PkM w' k p L E bs F R wp ed:=
 ⟨hk.KN h.KN n1,h.len,h.wr.kp hk n2,h.nk,h.el,h.ok,fun j l e h1 h2 h3=>by
  obtain⟨a,cp,g1,g2,g3,g4⟩:=h.ring j l e h1 h2 h3;refine⟨a,cp,g1,g2,g3.kp hk (fun g hg e=>?_),g4⟩;obtain⟨c1,f1⟩:=g3.typed hg;obtain⟨c2,f2⟩:=hv.typed e;rw[f1] at f2
  injection f2 with f3
  injection f3 with f4 f5
  exact hT f5.symm⟩
def R7 (p:LW)(g:List (List Nat))(E:List (Nat×Nat))(n:Nat):List Nat:=(List.range (n+1)).map fun j=>(M7 p g E j).length
theorem z7u (p:LW)(g:List (List Nat))(E:List (Nat×Nat))(e:Nat×Nat)(n:Nat)(h:n<=E.length):R7 p g (E++[e]) n=R7 p g E n:=by
 unfold R7
 refine List.map_congr_left fun j hj=>?_
 rw[W7 p g E e j (by have:=List.mem_range.1 hj;omega)]
theorem z5b (p:LW)(g:List (List Nat))(E:List (Nat×Nat))(n:Nat):R7 p g E (n+1)=R7 p g E n++[(M7 p g E (n+1)).length]:=by
 unfold R7
 rw[List.range_succ,List.map_append];rfl
theorem Y3 (p:LW)(g:List (List Nat))(E:List (Nat×Nat))(n:Nat):(R7 p g E n).length=n+1:=by simp[R7]
theorem getD_take {α:Type}{l:List α}{i j:Nat}(h:j<i):(l.take i)[j]? =l[j]? :=by rw[List.getElem?_take,if_pos h]
theorem RF (L:List (List Nat))(n r:Nat):Ma L n r=[]\/Ma L n r∈L:=by
 unfold Ma
 split
 ·exact .inl rfl
 ·cases h:L[n-r]? with
  |none=>exact .inl rfl
  |some l=>exact .inr (List.mem_of_getElem? h)
theorem z0O {L:List (List Nat)}{n r:Nat}(h:r<=n):Ma (L.take n) n r=Ma L n r:=by
 unfold Ma
 by_cases e:r=0
 ·rw[if_pos e,if_pos e]
 ·rw[if_neg e,if_neg e,getD_take (by omega)]
structure EnI (w:World)(p:LW)(g:List (List Nat))(k wp:Nat)(i:Nat)(E:List (Nat×Nat))(v:Value)(w':World):Prop where
 pk:∃F R,PkM w' k p (g.take i) E (M7 p g E i) F R wp (M1 (g.take i))/\(∀j,F j->w.heap.size<=j)/\∀j,F j->v.ownBlock≠some j
 ext:Ext w w'
 nk:w.heap.size<=k
 sl:Sl w' v 41 1 (R7 p g E i).length ((R7 p g E i).map L5)
 fr:∀b,v.ownBlock=some b->w.heap.size<=b
 vk:v.ownBlock≠some k
 ent:∀j e,E[j]? =some e->Ul p g E j ((g[j]?).getD []).length e
 bd:(M7 p g E i).length<=i*44800
theorem z4f {w:World}{p:LW}(hp:p.M3){g:List (List Nat)}(hg:N2 g){ga:Option Addr}{gc:Nat}(lR:GrM w (.slice ga g.length gc) g)(hG:KY w 1 (NM .gamma) 298)(hU:KY w 2 (NM .unary) 298):
  Lk Tryz.prog 67 [.slice ga g.length gc,bpV p] w fun u w'=>∃E v,u= .tuple #[S (Lg (M7 p g E g.length)),v,I 0]/\E.length=g.length/\z8E p g E/\(M7 p g E g.length).length<=2688000/\Sl w' v 41 1 (g.length+1) ((R7 p g E g.length).map L5)/\(∀b,v.ownBlock=some b->w.heap.size<=b)/\Ext w w':=by
 have hn:=hg.n
 refine KJ (e:=[(0,_),(1,_)]) Tryz.func67 rfl Tryz.ntmps67 rfl rfl (qN rfl (KU rfl rfl (MH rfl (cs:=Qf p) rfl) ?_))
 rintro _ w1 ⟨b3,rfl,dZ,ad,ao⟩
 have z1:=ad.size
 refine KO rfl (KO rfl (KO rfl (qM rfl (qV (Lj (news:=Qf p) VA rfl MP rfl (ao.cells (n:=5) rfl) rfl) (La [.tmp 17] zdn rfl (z2R p hp w1) ?_)))))
 rintro _ w2 ⟨k,wp,F,rfl,tM,hW,Hm,af,aM,nT⟩
 have z2:=af.size
 have aI:=ad.trans af
 refine An rfl (qV (Lu (v:=ptr k 0) rfl rfl) (qV (Lu (v:=I 0) rfl rfl) (KO rfl (KO rfl (py (run_seq (qN rfl (An rfl (qV (M0 rfl rfl) (An rfl (An rfl (La [.tmp 24] zdy rfl (ZG (lR.ext aI) hg) ?_))))))))))))
 rintro _ w2 ⟨rfl,rfl⟩
 refine qV ((by first|exact LN rfl|exact Na rfl)) ?_
 refine qV (Ls rfl rfl) (py (KH rfl (It (qN rfl (KU rfl rfl (Tx (parts:=[(0,.const (Value.int .u64 0))]) (cs:=[_]) (zs:=[Value.int .u64 0]) U40 PQ rfl (by kernel_rfl) rfl rfl rfl (by decide)) ?_)))))
 rintro _ w3 ⟨b28,rfl,⟨Hn,ah,vw⟩,Bs⟩
 have z3:=ah.size
 have lk:=tM.lt
 have yM:PkM w3 k p (g.take 0) [] (M7 p g [] 0) F z2o wp (M1 (g.take 0)):=⟨ah.KN tM,List.length_replicate,hW.ext ah,Hm,rfl,(fun l hl=>by simp at hl),fun j l e h1=>by simp at h1⟩
 refine KO rfl (py (run_seq (qN rfl (An rfl (qV (LM R6 rfl) (An rfl (py (Ll.qb (e:=[(4,_),(5,_),(6,_),(7,_),(8,_),(9,_),(29,_),(30,_),(31,_)]) ?_))))))))
 refine KL (MV (α:=Nat×List (Nat×Nat)×Value) ((0,[],.slice (some ⟨b28,0,none⟩) 1 1)) (fun y=>[(7,ptr k 0),(9,y.2.2),(29,.slice ga g.length gc),(30,I (g.length:Int)),(31,I (y.1:Int))]) (fun y w'=>EnI w p g k wp y.1 y.2.1 y.2.2 w'/\y.1<=g.length) (fun y=>g.length-y.1) ?hI ?hround)
 case hI=>exact⟨⟨⟨F,z2o,yM,fun j hj=>by have:=nT j hj;omega,fun j hj e=>by have e1:b28=j:=ML e;have:=hW.lt hj;omega⟩,aI.trans ah,by omega,Bs,fun b hb=>by have e1:b28=b:=ML hb;omega,fun e=>by have e1:b28=k:=ML e;omega,fun j e h=>by simp at h,Nat.zero_le _⟩,Nat.zero_le _⟩
 case hround =>
  rintro⟨i,E,v⟩ w4 ⟨hI,hi⟩ ih;dsimp only at hI hi;obtain⟨F,R,hP,hF,EK⟩:=hI.pk;have rO:=hI.bd;have aO:=Y3 p g E i;have oZ:=hP.el;rw[List.length_take,Nat.min_eq_left hi] at oZ;obtain⟨va,vc,rfl,-⟩:=hI.sl.rd.shape
  try dsimp only
  refine qN rfl (qV (LX rfl rfl) (py (run_seq (KZ rfl (fun h0=>?_) (fun h0=>?_)))))
  ·have di:i<g.length:=by omega
   obtain⟨l,hl⟩:∃l,g[i]? =some l:=⟨_,List.getElem?_eq_getElem di⟩;have gL:=List.mem_of_getElem? hl;have eO:=hg.len gL;have hs:=hg.ok l gL;obtain⟨vs,Bt,ke⟩:=lR.ex;obtain⟨a,c,e1,e2,e3w⟩:=ke i l hl;have eY:=Bt.ext hI.ext;have e3:=e3w.ext hI.ext
   obtain⟨gb,go,gc',e4⟩:∃b o c',Value.slice ga g.length gc= .slice (some ⟨b,o,none⟩) g.length c':=by
    rcases eY.2 with⟨c,hc,h0⟩|⟨b,off,c',hc,-⟩
    ·omega
    ·exact⟨b,off,c',hc⟩
   cases e4;have oN:(g.take i).length=i:=by rw[List.length_take];omega
   have s0:=OV hg i;refine It (run_seq (KL (qN rfl (qV (LC R6 OI rfl rfl (by omega)) (qV (Lm Li rfl rfl (LV eY e1)) ?_)))))
   have mL:∀r,r<=p.Lf->(M7 p g E i).length+(Ld (MK p.list (g.take i).length l (Ma (g.take i) (g.take i).length r) r)).length<=134217728:=fun r hr=>by
    have h2:Lt (Ma (g.take i) (g.take i).length r)/\(Ma (g.take i) (g.take i).length r).length<=60:=by
     rcases RF (g.take i) (g.take i).length r with e| e
     ·rw[e];exact⟨⟨List.Pairwise.nil,fun y h=>(by cases h)⟩,Nat.zero_le _⟩
     ·exact⟨hg.ok _ (List.mem_of_mem_take e),by have:=hg.len (List.mem_of_mem_take e);omega⟩
    have h3:=TE hp.1 (x:=(g.take i).length) (by omega) hs h2.1 (show r<=p.list.Lf from hr) (by omega) h2.2;omega
   have tz:=hI.sl;have uG:∀b,(Value.slice va (R7 p g E i).length vc).ownBlock=some b->b<w4.heap.size:=fun b hb=>tz.lt hb;refine KO rfl (py (run_seq (qN rfl (An rfl (An rfl (La [.tmp 36,.tmp 37] zdh rfl (z3o hp hP (hI.ext.KN hG) (hI.ext.KN hU) (by omega) hs e2 e3 (by omega) (fun b h0 hb=>by have h1:=e3w.ltz (by decide) h0 hb;have:=hI.nk;exact⟨fun e=>by have:=hF b e;omega,by omega⟩) mL) ?_))))));rintro _ w5 ⟨r,least,ch,F',R',rfl,gx,gE,aj,tN⟩;have lk4:=hP.KN.lt;have z5:=aj.size;have aR:Ext w w5:=hI.ext.KK aj (fun j hj=>by rcases hj with e|e;exact hF j e;(have:=hI.nk;omega));have Ho:(E++[(r,ch)]).length=i+1:=by rw[List.length_append,oZ];rfl
   have lq:r<=i:=by
    rcases gx with e|⟨-,-,h3,-⟩
    ·have:r=0:=(Prod.mk.inj e).1;omega
    ·rw[oN] at h3;exact h3
   have s6:(E++[(r,ch)])[i]? =some (r,ch):=by rw[List.getElem?_append_right (by omega),oZ,Nat.sub_self];rfl
   have p5:SC p g (E++[(r,ch)]) i=Ld (MK p.list (g.take i).length l (Ma (g.take i) (g.take i).length r) r):=by
    unfold SC;rw[s6,hl,oN,z0O lq];rfl
   have iK:M7 p g (E++[(r,ch)]) (i+1)=M7 p g E i++Ld (MK p.list (g.take i).length l (Ma (g.take i) (g.take i).length r) r):=by
    rw[O0,W7 p g E _ i (by omega),p5]
   have Bu:(M7 p g (E++[(r,ch)]) (i+1)).length<=(i+1)*44800:=by
    have h2:Lt (Ma (g.take i) (g.take i).length r)/\(Ma (g.take i) (g.take i).length r).length<=60:=by
     rcases RF (g.take i) (g.take i).length r with e| e
     ·rw[e];exact⟨⟨List.Pairwise.nil,fun y h=>(by cases h)⟩,Nat.zero_le _⟩
     ·exact⟨hg.ok _ (List.mem_of_mem_take e),by have:=hg.len (List.mem_of_mem_take e);omega⟩
    have iD:r<=p.list.Lf:=by
     rcases gx with e|⟨-,h3,-⟩
     ·have:r=0:=(Prod.mk.inj e).1;omega
     ·exact h3
    have h3:=TE hp.1 (x:=(g.take i).length) (by omega) hs h2.1 iD (by omega) h2.2;rw[iK,List.length_append];omega
   rw[<-iK,<-LA hl,<-Sq,<-LA hl] at gE;have gD:(M7 p g (E++[(r,ch)]) (i+1)).length<=9223372036854775:=by omega
   refine An rfl (qV (Lu rfl rfl) (qV (Lu rfl rfl) (qV (Lu (v:=I 0) rfl rfl) (KO rfl (KO rfl (KO rfl (qM rfl (An rfl (qV (M0 rfl rfl) (py (KH rfl (It (KQ rfl ?_)))))))))))));refine An rfl (An rfl (La [.tmp 46] zek rfl (z1f gE gD) ?_));rintro _ w6 ⟨rfl,aG⟩;refine qV ((by first|exact LF rfl U3 Mq (by omega)|exact N0 rfl U3 Mq)) ?_;refine KU rfl rfl (Tx (parts:=[(0,.tmp 48)]) (cs:=[_]) (zs:=[Value.int .u64 0]) U40 PQ rfl (by kernel_rfl) rfl rfl rfl (by decide)) ?_;rintro _ w7 ⟨b49,rfl,⟨Hp,bL,bI⟩,Bv⟩;have fM:=aG.trans bL;have z67:=fM.size;have mK:∀j,F' j->j<w5.heap.size:=fun j hj=>gE.wr.lt hj;have Et:=tz.kp aj (fun b hb e=>by rcases e with e|e;exact EK b e hb;exact hI.vk (e▸hb));have yN:=Et.ext fM
   have vx:∀j,F' j->(Value.slice va (R7 p g E i).length vc).ownBlock≠some j:=fun j hj e=>by
    rcases tN j hj with e1|e1
    ·exact EK j e1 e
    ·have:=uG j e;omega
   refine KU rfl rfl (pap U40 PQ rfl (by decide) rfl rfl yN Bv.rd (by intro c hc;simp at hc;subst hc;rfl) (by omega) (by simp only[maxLen];omega)) ?_;rintro v8 w8 ⟨ez,bh,kd,-⟩;have o6:=(gE.ext fM).kpT (T:=41) (by decide) yN bh hI.vk vx;have mO:∀b,v8.ownBlock=some b->(Value.slice va (R7 p g E i).length vc).ownBlock=some b\/w5.heap.size<=b:=fun b hb=>(kd b hb).imp id (fun e=>by omega);refine KO rfl (py (KM (KQ rfl (LH rfl rfl (An rfl (py ((ih (i+1,E++[(r,ch)],v8) _ ⟨⟨⟨F',R',o6,fun j hj=>?_,fun j hj e=>?_⟩,(aR.trans fM).KK bh (fun j hj=>hI.fr j hj),hI.nk,?_,fun b hb=>?_,fun e=>?_,fun j e hj=>?_,Bu⟩,di⟩ (by dsimp only;omega)).qb)))))))
   ·rcases tN j hj with e| e
    ·exact hF j e
    ·have:=hI.ext.size;omega
   ·rcases mO j e with e1|e1
    ·exact vx j hj e1
    ·have:=mK j hj;omega
   ·rw[z5b,z7u p g E _ i (by omega),List.length_append,List.map_append];exact ez
   ·rcases mO b hb with e1|e1
    ·exact hI.fr b e1
    ·have:=aR.size;omega
   ·rcases mO k e with e1|e1
    ·exact hI.vk e1
    ·omega
   ·rcases Nat.lt_or_ge j i with qe|qe
    ·rw[List.getElem?_append_left (by omega)] at hj;exact(hI.ent j e hj).mono (fun _ _ h=>h) (fun j' l' h=>by rw[List.getElem?_append_left (List.getElem?_eq_some_iff.1 h).1];exact h)
    ·have Bb:=(List.getElem?_eq_some_iff.1 hj).1;rw[Ho] at Bb;have ej:j=i:=by omega
     subst ej;rw[s6] at hj;cases hj;rw[hl];rw[oN] at gx
     exact gx.mono (fun j' l' h=>by
      have:=(List.getElem?_eq_some_iff.1 h).1;rw[oN] at this
      rwa [getD_take this] at h) (fun j' l' h=>by rw[List.getElem?_append_left (List.getElem?_eq_some_iff.1 h).1];exact h)
  ·have cO:i=g.length:=by omega
   subst cO;refine KX rfl (qN rfl (An rfl (La [.tmp 53] zbl rfl (z1i hP) ?_)));rintro _ w5 ⟨rfl,rfl⟩;refine An rfl (qV (Lu rfl rfl) (qV (Lu rfl rfl) (KO rfl (KO rfl (qM rfl (An rfl (An rfl (An rfl (KO rfl (KO rfl (KO rfl (py (KP Tryz.func67 rfl ?_)))))))))))));have gm:=hI.sl;rw[aO] at gm;exact⟨_,rfl,E,_,rfl,oZ,⟨hI.ent⟩,by omega,by rw[aO];exact gm,hI.fr,hI.ext⟩
structure Fm where
 n:Nat
 u:Nat
 width:Nat
 bits:Nat
def fmC (f:Fm):List Value:=[I (f.n:Int),L5 f.u,I (f.width:Int),I (f.bits:Int)]
abbrev fmV (f:Fm):Value:= .agg (fmC f).toArray
def SI (n u:Nat):Nat:=if u / n=0 then 0 else LB (u / n)-1
def OW (n u:Nat):Fm:=⟨n,u,SI n u,(u-1) / 2^SI n u+n⟩
def Fm.high (f:Fm):Nat:=12+(f.n*f.width+7) / 8
def Fm.PR (f:Fm):Nat:=f.high+(f.bits+7) / 8
def Fm.size (f:Fm):Nat:=f.PR+4*((f.n+63) / 64)
theorem TD {n u:Nat}(hu:u<=1000000000):SI n u<=30:=by
 unfold SI
 split
 ·omega
 ·have h1:u / n<=u:=Nat.div_le_self _ _;have h2:LB (u / n)<=30:=Mu (by omega);omega
theorem W5 {n u:Nat}(hn:1<=n)(hu:1<=u):(u-1) / 2^SI n u<2*n:=by
 have h2:0<2^SI n u:=Nat.two_pow_pos _
 rw[Nat.div_lt_iff_lt_mul h2]
 unfold SI
 split
 ·rename_i h
  have:u<n:=by
   rcases Nat.lt_or_ge u n with h1|h1
   ·exact h1
   ·have:=Nat.div_pos h1 (by omega);omega
  simp;omega
 ·rename_i h
  have h3:u / n<2^LB (u / n):=RW;have h4:LB (u / n)≠0:=fun e=>by rw[e,Nat.pow_zero] at h3;exact h (Nat.lt_one_iff.1 h3)
  obtain⟨k,hk⟩:∃k,LB (u / n)=k+1:=⟨LB (u / n)-1,by omega⟩;rw[hk] at h3⊢;rw[Nat.add_sub_cancel]
  have h5:u<n*2^(k+1):=by
   have:=(Nat.div_lt_iff_lt_mul (show 0<n by omega)).1 h3
   rwa [Nat.mul_comm] at this
  rw[Nat.pow_succ] at h5;have e:n*(2^k*2)=2*n*2^k:=by rw[Nat.mul_comm (2^k) 2,<-Nat.mul_assoc,Nat.mul_comm n 2]
  omega
theorem z3t {n u:Nat}(hn:1<=n)(hu:1<=u):(OW n u).bits<=3*n:=by
 have:=W5 hn hu
 show(u-1) / 2^SI n u+n<=_
 omega
theorem SE (n u:Nat)(hn:1<=n)(j5:n<=1000)(hu:1<=u)(lJ:u<=1000000000)(w:World):Lk Tryz.prog 106 [I (n:Int),L5 u] w fun v w'=>v=fmV (OW n u)/\Ext w w':=by
 have tO:=TD (n:=n) lJ
 have eN:=W5 hn hu
 have hq:u / n<=u:=Nat.div_le_self _ _
 obtain⟨q,s7⟩:∃q,u / n=q:=⟨_,rfl⟩
 have EL:SI n u=if q=0 then 0 else LB q-1:=by rw[SI,s7]
 rw[s7] at hq
 have Bw:LB q<=30:=Mu (by omega)
 refine KJ (e:=[(0,_),(1,_)]) Tryz.func106 rfl Tryz.ntmps106 rfl rfl (qN rfl (KU rfl rfl (N3 (cs:=[_,_,_,_]) On rfl) ?_))
 rintro _ w1 ⟨b4,rfl,gh,ad,aJ⟩
 refine qM rfl (An rfl (An rfl (qV (NA (parts:=[(0,.tmp 7),(1,.tmp 8)]) (cs:=[_,_,_,_]) On rfl zaC rfl rfl) (KU rfl rfl (N3 (cs:=[_,_,_,_]) On rfl) ?_))))
 rintro _ w2 ⟨b5,rfl,gD,af,aF⟩
 have z1:=ad.size
 have z2:=af.size
 have l4:=aJ.lt
 have l5:=aF.lt
 refine L0 rfl (Lz (news:=[I (n:Int),L5 u,I 0,I 0]) On rfl rfl rfl rfl aF (by simp)) ?_
 rintro w3 ⟨hH,au⟩
 replace hH:KY w3 b5 [I (n:Int),L5 u,I 0,I 0] 210:=hH
 have dO:Ext w w3:=(ad.trans af).KK au (fun i e=>by omega)
 have dA:=au.KN (af.KN aJ) (by omega)
 have z3:=au.size
 refine py (run_seq (qN rfl (An rfl (qV (Mr rfl rfl) (Ly (py (KH rfl (It (run_seq (qN rfl (An rfl (An rfl (qV ((by first|exact LF rfl U3 Mq (by omega)|exact N0 rfl U3 Mq)) ?_)))))))))))))
 refine qV (zcF (m:=u) (n:=n) rfl rfl rfl (by show u<2^64;omega) (by omega)) ?_
 rw[s7]
 refine KO rfl (qM rfl (An rfl (qV (LU rfl rfl) (py (Lx (fun e' w'=>e'=[(0,I (n:Int)),(1,L5 u),(4,ptr b4 0),(5,ptr b5 0)]/\Ext w w'/\KY w' b5 [I (n:Int),L5 u,I (SI n u:Int),I 0] 210/\KY w' b4 [I 0,L5 0,I 0,I 0] 210) ?cq (fun cq=>?cJ))))))
 case cq=>
  rintro e' w4 ⟨rfl,aB,gn,cj⟩;refine qN rfl (An rfl (qV (Rh (m:=u) (n:=1) rfl rfl rfl (by show u<2^64;omega) (by omega)) ?_));refine qV (KT Oo rfl) (qV (KS U3 rfl rfl gn rfl) (qV (Ps (SI n u) (2^SI n u) rfl rfl (by show SI n u<=64;omega) rfl) ?_))
  generalize Hq:(u-1) / 2^SI n u=qb at eN
  refine qV (Lw rfl Mq U3 (by omega)) (An rfl (LH rfl rfl (qV (KT SM rfl) (L0 rfl (Mt LG rfl rfl rfl gn (by simp)) ?_))));rintro w5 ⟨sd,aj⟩;replace sd:KY w5 b5 [I (n:Int),L5 u,I (SI n u:Int),I ((qb+n:Nat):Int)] 210:=sd;refine qM rfl (qV (Lj Z3 rfl On rfl (KY.cells (n:=4) sd (news:=[_,_,_,_]) rfl) rfl) (L0 rfl (Lz (news:=[I (n:Int),L5 u,I (SI n u:Int),I ((qb+n:Nat):Int)]) On rfl rfl rfl rfl (aj.KN cj (by omega)) (by simp)) ?_));rintro w6 ⟨bJ,aT⟩;replace bJ:KY w6 b4 [I (n:Int),L5 u,I (SI n u:Int),I ((qb+n:Nat):Int)] 210:=bJ;refine py (Lh Tryz.func106 (.cell Z3 rfl On rfl (KY.cells (n:=4) bJ (news:=[_,_,_,_]) rfl) rfl .nil) (⟨_,rfl,?_,(aB.KK aj (fun i e=>by omega)).KK aT (fun i e=>by omega)⟩));unfold fmV fmC OW;rw[Hq]
  rfl
 case cJ=>
  refine KZ rfl (fun h0=>?_) (fun h0=>?_)
  ·refine KQ rfl (An rfl (La [.tmp 19] WY rfl (Pn q (by omega) _) ?_));rintro _ w3 ⟨rfl,rfl⟩;have ru:LB q≠0:=fun e=>by have:=RW (v:=q);rw[e] at this;omega
   refine qV (Md rfl rfl (by omega)) ?_;rw[show(LB q:Int)-1=(SI n u:Int) by rw[EL,if_neg (by omega)];omega];refine qV (KT Oo rfl) (L0 rfl (Mt LG rfl rfl rfl hH (by simp)) ?_);rintro w4 ⟨gn,aw⟩;replace gn:KY w4 b5 [I (n:Int),L5 u,I (SI n u:Int),I 0] 210:=gn;refine py ?_;exact(cq _ _ ⟨rfl,dO.KK aw (fun i e=>by omega),gn,aw.KN dA (by omega)⟩).qb
  ·have mh:SI n u=0:=by rw[EL,if_pos (by omega)]
   refine It ?_;exact(cq _ _ ⟨rfl,dO,by rw[mh];exact hH,dA⟩).qb
def Fm.small (f:Fm):Prop:=f.n<=100000/\f.width<=64/\f.bits<=1000000
theorem YH (f:Fm)(hf:f.small)(w:World):Lk Tryz.prog 202 [fmV f] w fun v w'=>v=I (f.high:Int)/\Ext w w':=by
 obtain⟨h1,h2,h3⟩:=hf
 have hm:f.n*f.width<=100000*64:=Nat.mul_le_mul h1 h2
 refine KJ (e:=[(0,_)]) Tryz.func202 rfl Tryz.ntmps202 rfl rfl (qN rfl (KU rfl rfl (MH rfl (cs:=fmC f) rfl) ?_))
 rintro _ w1 ⟨b1,rfl,bS,ad,ai⟩
 replace ai:KY w1 b1 [I (f.n:Int),L5 f.u,I (f.width:Int),I (f.bits:Int)] 210:=ai
 refine KO rfl (qM rfl (qV (KT SR rfl) (qV (KS U3 rfl rfl ai rfl) (qV (KT Oo rfl) (qV (KS U3 rfl rfl ai rfl) ?_)))))
 have pO:((f.n*f.width:Nat):Int)=(f.n:Int)*(f.width:Int):=Int.natCast_mul _ _
 refine qV (Tu rfl rfl (by rw[<-pO];omega)) ?_
 rw[<-pO]
 refine LH rfl rfl (qV (RE rfl rfl (by omega)) (LH rfl rfl (KO rfl (py (KP Tryz.func202 rfl (⟨_,rfl,?_,ad⟩))))))
 show I (12+(((f.n*f.width:Nat):Int)+7) / 8)=I ((12+(f.n*f.width+7) / 8:Nat):Int)
 congr 1
theorem Fm.Rx {f:Fm}(hf:f.small):f.high<=10000000:=by
 obtain⟨h1,h2,h3⟩:=hf
 have hm:f.n*f.width<=100000*64:=Nat.mul_le_mul h1 h2
 unfold Fm.high
 omega
theorem Z0 (f:Fm)(hf:f.small)(w:World):Lk Tryz.prog 181 [fmV f] w fun v w'=>v=I (f.PR:Int)/\Ext w w':=by
 have o7:=Fm.Rx hf
 obtain⟨h1,h2,h3⟩:=id hf
 refine KJ (e:=[(0,_)]) Tryz.func181 rfl Tryz.ntmps181 rfl rfl (qN rfl (KU rfl rfl (MH rfl (cs:=fmC f) rfl) ?_))
 rintro _ w1 ⟨b1,rfl,bS,ad,ai⟩
 replace ai:KY w1 b1 [I (f.n:Int),L5 f.u,I (f.width:Int),I (f.bits:Int)] 210:=ai
 have hg:=Ext.Lb w1
 refine KO rfl (py (run_seq (KV (fun w'=>Ext w1 w') (by kernel_rfl) rfl (qT 0 rfl (fun _ h=>Lj Z3 rfl On rfl (KY.cells (n:=4) (h.KN ai) (news:=[_,_,_,_]) rfl) rfl) hg (KR 2 rfl (KT SM rfl) hg (qT 3 rfl (fun _ h=>KS U3 rfl rfl (h.KN ai) rfl) hg (KR 4 rfl (PM rfl rfl (by omega)) hg (KR 5 rfl (RE rfl rfl (by omega)) hg (O2 1 [.tmp 3] rfl z8C rfl (YH f hf _) ?_)))))))))
 rintro _ w2 ⟨rfl,af⟩
 refine⟨hg.trans af,?_⟩
 refine KR 6 rfl (PM rfl rfl (by omega)) (hg.trans af) (KR 7 rfl (MO rfl) (hg.trans af) (qE (KP Tryz.func181 rfl (⟨_,rfl,?_,(ad.trans hg).trans af⟩))))
 show I ((f.high:Int)+((f.bits:Int)+7) / 8)=I ((f.high+(f.bits+7) / 8:Nat):Int)
 congr 1
theorem WN (f:Fm)(hf:f.small)(w:World):Lk Tryz.prog 150 [fmV f] w fun v w'=>v=I (f.size:Int)/\Ext w w':=by
 have o7:=Fm.Rx hf
 obtain⟨h1,h2,h3⟩:=id hf
 have gm:f.PR<=20000000:=by unfold Fm.PR;omega
 refine KJ (e:=[(0,_)]) Tryz.func150 rfl Tryz.ntmps150 rfl rfl (qN rfl (KU rfl rfl (MH rfl (cs:=fmC f) rfl) ?_))
 rintro _ w1 ⟨b1,rfl,bS,ad,ai⟩
 replace ai:KY w1 b1 [I (f.n:Int),L5 f.u,I (f.width:Int),I (f.bits:Int)] 210:=ai
 have hg:=Ext.Lb w1
 refine KO rfl (py (run_seq (KV (fun w'=>Ext w1 w') (by kernel_rfl) rfl (qT 0 rfl (fun _ h=>Lj Z3 rfl On rfl (KY.cells (n:=4) (h.KN ai) (news:=[_,_,_,_]) rfl) rfl) hg (KR 2 rfl (KT SR rfl) hg (qT 3 rfl (fun _ h=>KS U3 rfl rfl (h.KN ai) rfl) hg (KR 4 rfl (PM rfl rfl (by omega)) hg (KR 5 rfl (Md rfl rfl (by omega)) hg ?_))))))))
 rw[show(f.n:Int)+64-1=((f.n+63:Nat):Int) by omega]
 refine KR 6 rfl (RE rfl rfl (by omega)) hg (KR 7 rfl (Tu rfl rfl (by omega)) hg (O2 1 [.tmp 3] rfl z8r rfl (Z0 f hf _) ?_))
 rintro _ w2 ⟨rfl,af⟩
 refine⟨hg.trans af,?_⟩
 refine KR 8 rfl (PM rfl rfl (by omega)) (hg.trans af) (KR 9 rfl (MO rfl) (hg.trans af) (qE (KP Tryz.func150 rfl (⟨_,rfl,?_,(ad.trans hg).trans af⟩))))
 show I ((f.PR:Int)+4*(((f.n+63:Nat):Int) / 64))=I ((f.PR+4*((f.n+63) / 64):Nat):Int)
 congr 1
theorem XR {n u:Nat}(hn:1<=n)(j5:n<=1000)(hu:1<=u)(lJ:u<=1000000000):(OW n u).small:=by
 have h1:=z3t hn hu
 have h2:=TD (n:=n) lJ
 refine⟨?_,?_,by omega⟩
 ·show n<=_;omega
 ·show SI n u<=_;omega
theorem z0e (n last:Nat)(hn:1<=n)(j5:n<=1000)(lJ:last+1<=1000000000)(w:World):Lk Tryz.prog 148 [I (n:Int),L5 last] w fun v w'=>v= .tuple #[I ((OW n (last+1)).size:Int),I 0]/\Ext w w':=by
 refine KJ (e:=[(0,_),(1,_)]) Tryz.func148 rfl Tryz.ntmps148 rfl rfl (qN rfl (KO rfl (KO rfl (py (run_seq (KL (qN rfl (An rfl (qV (LX rfl rfl) (An rfl (An rfl (qV (LU rfl rfl) (Ly ?_)))))))))))))
 refine qV (Ls rfl rfl) (An rfl (An rfl (qV (LU rfl rfl) (Ly (qV (Ls rfl rfl) (An rfl (An rfl (qV (Mr rfl rfl) (Ly (An rfl (qS (qS (qV (Ls rfl rfl) ?_)))))))))))))
 refine qV (Ls rfl rfl) (KO rfl (py (KH rfl (qN rfl (An rfl (qV (Mr rfl rfl) (Ly (KO rfl (py (Ll.qb (e:=[(0,_),(1,_),(4,_),(5,_),(25,_)]) ?_))))))))))
 refine KH rfl (It (KM (qN rfl (An rfl (An rfl (qV (Pp rfl rfl) ?_))))))
 rw[Nat.mod_eq_of_lt (show last+1<18446744073709551616 by omega)]
 refine La [.tmp 28,.tmp 30] z5z rfl (SE n (last+1) hn j5 (by omega) lJ _) ?_
 rintro _ w1 ⟨rfl,ad⟩
 refine La [.tmp 31] z8l rfl (WN _ (XR hn j5 (by omega) lJ) _) ?_
 rintro _ w2 ⟨rfl,af⟩
 refine KO rfl (KO rfl (py (KP Tryz.func148 rfl ?_)))
 exact⟨_,rfl,rfl,ad.trans af⟩
theorem z2J {w:World}{a:Option Addr}{c:Nat}{l:List Nat}(hl:l.length<=1000)(hn:Nof l)(hm:∀v∈l,v<=1000000000)(hR:Rd w (.slice a l.length c) 1 l.length (l.map L5)):Lk Tryz.prog 105 [.slice a l.length c] w fun v w'=>v= .bool true/\w'=w:=by
 refine KJ (e:=[(0,_)]) Tryz.func105 rfl Tryz.ntmps105 rfl rfl (qN rfl (KO rfl (py (run_seq (qN rfl (An rfl (qV (LM U40 rfl) (qV (LU rfl rfl) (Ly (py (KH rfl (It (qN rfl ?_)))))))))))))
 refine KO rfl (py (run_seq (qN rfl (An rfl (qV (LM U40 rfl) (An rfl (py (KL (MV (α:=Nat×Nat) ((0,0)) (fun y=>[(3,L5 y.2),(9,.slice a l.length c),(10,I (l.length:Int)),(11,I (y.1:Int))]) (fun y w'=>w'=w/\y.1<=l.length/\y.2<=1000000000/\∀v,l[y.1]? =some v->y.2<=v) (fun y=>l.length-y.1) ?hI ?hround)))))))))
 case hI=>exact⟨rfl,Nat.zero_le _,Nat.zero_le _,fun v _=>Nat.zero_le _⟩
 case hround=>
  rintro⟨i,z⟩ w4 ⟨rfl,hi,hz,yO⟩ ih;dsimp only at hi hz yO
  try dsimp only
  refine qN rfl (qV (LX rfl rfl) (py (run_seq (KZ rfl (fun h0=>?_) (fun h0=>?_)))))
  ·have di:i<l.length:=by omega
   obtain⟨v,hv⟩:∃v,l[i]? =some v:=⟨_,List.getElem?_eq_getElem di⟩;have Hr:=yO v hv;have Bx:=hm v (List.mem_of_getElem? hv)
   obtain⟨gb,go,gc',e4⟩:∃b o c',Value.slice a l.length c= .slice (some ⟨b,o,none⟩) l.length c':=by
    rcases hR.2 with⟨c,hc,h0⟩|⟨b,off,c',hc,-⟩
    ·omega
    ·exact⟨b,off,c',hc⟩
   cases e4;refine It (run_seq (KL (qN rfl (qV (LC U40 PQ rfl rfl (by omega)) (qV (Lm Mq rfl rfl (LV hR (show(l.map L5)[i]? =some (L5 v) by rw[List.getElem?_map,hv];rfl))) ?_)))));refine KO rfl (py (run_seq (qN rfl (An rfl (An rfl (qV (LX rfl rfl) (Ly (An rfl (An rfl (qV (LU rfl rfl) (Ly (qV (Ls rfl rfl) (py ?_)))))))))))));refine KH rfl (It (KQ rfl (An rfl (KO rfl (py (KM (KQ rfl (LH rfl rfl (An rfl (py ((ih (i+1,v) _ ⟨rfl,di,Bx,fun u hu=>?_⟩ (by dsimp only;omega)).qb)))))))))));obtain⟨a1,a2⟩:=List.getElem?_eq_some_iff.1 hv;obtain⟨b1,b2⟩:=List.getElem?_eq_some_iff.1 hu;have:=List.pairwise_iff_getElem.1 hn i (i+1) a1 b1 (by omega)
   rwa [a2,b2] at this
  ·refine KX rfl (qN rfl (KO rfl (py (KP Tryz.func105 rfl ?_))));exact⟨_,rfl,rfl,rfl⟩
def NF (k:Nat)(l:List Nat):List Bool:=l.flatMap fun v=>bitsN k (v%2^k)
def restB (k:Nat):List Nat->List Bool
 |[]=>[]
 |v::_=>bitsN 32 (v / 2^k)
theorem z3G (k:Nat)(l:List Nat)(v:Nat):NF k (l++[v])=NF k l++bitsN k (v%2^k):=by simp[NF]
theorem Pr (k:Nat):∀l:List Nat,(NF k l).length=l.length*k
 |[]=>by simp[NF]
 | v :: l => by
   show(bitsN k (v%2^k)++NF k l).length=_;rw[List.length_append,Pr k l,bitsN_length,List.length_cons,Nat.add_mul];omega
theorem YK (k:Nat):∀(l:List Nat) (len i v:Nat),Nof (l++[v])->(∀x,(l++[v]).head? =some x->len<=x / 2^k+i)->
  len+(hiB k len i l).length<=v / 2^k+(i+l.length)/\hiB k len i (l++[v])=hiB k len i l++(List.replicate (v / 2^k+(i+l.length)-(len+(hiB k len i l).length)) false++[true])
 | [], len, i, v, _, hl => by
   have:=hl v rfl;refine⟨by simp[hiB];omega,?_⟩
   simp[hiB]
 | x :: r, len, i, v, hn, hl => by
   have hx:=hl x rfl;rw[List.cons_append] at hn;obtain⟨n1,n2⟩:=List.pairwise_cons.1 hn
   obtain⟨h1,h2⟩:=YK k r (x / 2^k+i+1) (i+1) v n2 (fun y hy=>by
    have qf:y∈r++[v]:=List.mem_of_mem_head? hy;have:=Nat.div_le_div_right (c:=2^k) (n1 y qf)
    omega)
   rw[List.cons_append,hiB,hiB,h2,List.length_append,List.length_replicate,List.length_cons,List.length_cons];refine⟨by omega,?_⟩;rw[List.append_assoc,List.cons_append,show v / 2^k+(i+1+r.length)-(x / 2^k+i+1+(hiB k (x / 2^k+i+1) (i+1) r).length)=v / 2^k+(i+(r.length+1))-(len+(x / 2^k+i-len+((hiB k (x / 2^k+i+1) (i+1) r).length+1))) by omega]
theorem z1x (k:Nat)(l:List Nat)(v:Nat):restB k (l++[v])=restB k l++if l.length=0 then bitsN 32 (v / 2^k) else []:=by
 cases l with
 |nil=>simp[restB]
 |cons x l=>simp[restB]
def T6 (l:List Nat)(f:Fm):Bytes:=Lg (bitsN 32 f.n++bitsN 64 f.u)++Lg (NF f.width l)++Lg (hiB f.width 0 0 l)++Lg (restB f.width l)
theorem z5F {b:Nat}:∀{l:List Nat},(∀x∈l,x<=b)->l.sum<=l.length*b
 |[],_=>by simp
 | x :: l, h => by
   have h1:=h x List.mem_cons_self;have h2:=z5F (fun y hy=>h y (List.mem_cons_of_mem x hy));rw[List.sum_cons,List.length_cons,Nat.add_mul];omega
theorem z4i (k:Nat)(l:List Nat):(restB k l).length<=32:=by
 cases l with
 |nil=>simp[restB]
 |cons v l=>simp[restB]
theorem Wh (k:Nat){l:List Nat}(hn:Nof l){z:Nat}(hz:l[l.length-1]? =some z):(hiB k 0 0 l).length=z / 2^k+l.length:=by
 have:=z1I k l 0 0 hn (fun x hx=>Nat.zero_le _) z (by rw[List.getLast?_eq_getElem?];exact hz)
 omega
/-! ### Three writers side by side -/
def z4x (A B:Nat->Prop):Prop:=∀k,A k->¬B k
structure Ye (w0 w:World)(b5:Nat)(f:Fm)(p1 p2 p3:Nat)(l1 l2 l3:List Bool):Prop where
 ex:∃F1 F2 F3:Nat->Prop,Tv w p1 l1 F1/\Tv w p2 l2 F2/\Tv w p3 l3 F3/\z4x F1 F2/\z4x F2 F3/\z4x F3 F1/\∀k,F1 k\/F2 k\/F3 k->w0.heap.size<=k/\k≠b5
 ext:Ext w0 w
 KN:KY w b5 (fmC f) 210
section
variable {w0 w:World}{b5:Nat}{f:Fm}{p1 p2 p3:Nat}{l1 l2 l3:List Bool}
theorem Ye.rot (h:Ye w0 w b5 f p1 p2 p3 l1 l2 l3):Ye w0 w b5 f p2 p3 p1 l2 l3 l1:=by
 obtain⟨⟨F1,F2,F3,h1,h2,h3,h4,h5,h6,h7⟩,hx,hb⟩:=h
 exact⟨⟨F2,F3,F1,h2,h3,h1,h5,h6,h4,fun k hk=>h7 k (by rcases hk with e|e|e;exact .inr (.inl e);exact .inr (.inr e);exact .inl e)⟩,hx,hb⟩
theorem Ye.on (h:Ye w0 w b5 f p1 p2 p3 l1 l2 l3){w2:World}(hx:Ext w w2):Ye w0 w2 b5 f p1 p2 p3 l1 l2 l3:=by
 obtain⟨⟨F1,F2,F3,h1,h2,h3,h4,h5,h6,h7⟩,jb,hb⟩:=h
 exact⟨⟨F1,F2,F3,h1.ext hx,h2.ext hx,h3.ext hx,h4,h5,h6,h7⟩,jb.trans hx,hx.KN hb⟩
theorem Ye.z6w (h:Ye w0 w b5 f p1 p2 p3 l1 l2 l3):∃F1,Tv w p1 l1 F1/\¬F1 b5/\(∀w2 l,WrR p1 F1 w w2 l->Ye w0 w2 b5 f p1 p2 p3 l l2 l3):=by
 obtain⟨⟨F1,F2,F3,h1,h2,h3,h4,h5,h6,h7⟩,jb,hb⟩:=h
 refine⟨F1,h1,fun e=>(h7 b5 (.inl e)).2 rfl,fun w2 l hr=>?_⟩
 obtain⟨F1',g1,g2,g3⟩:=hr
 have z:=jb.size
 have lb:=hb.lt
 refine⟨⟨F1',F2,F3,g1,h2.kp g2 (fun i hi e=>h4 i e hi),h3.kp g2 (fun i hi e=>h6 i hi e),fun k hk e=>?_,h5,fun k hk e=>?_,fun k hk=>?_⟩,jb.KK g2 (fun k hk=>(h7 k (.inl hk)).1),g2.KN hb (fun e=>(h7 b5 (.inl e)).2 rfl)⟩
 ·rcases g3 k hk with e1|e1
  ·exact h4 k e1 e
  ·have:=h2.lt e;omega
 ·rcases g3 k e with e1|e1
  ·exact h6 k hk e1
  ·have:=h3.lt hk;omega
 ·rcases hk with hk|hk
  ·rcases g3 k hk with e1|e1
   ·exact h7 k (.inl e1)
   ·exact⟨by omega,by omega⟩
  ·exact h7 k (.inr hk)
theorem Ye.z6y (h:Ye w0 w b5 f p1 p2 p3 l1 l2 l3):∃F2,Tv w p2 l2 F2/\(∀w2 l,WrR p2 F2 w w2 l->Ye w0 w2 b5 f p1 p2 p3 l1 l l3):=by
 obtain⟨F2,h1,-,h2⟩:=h.rot.z6w
 exact⟨F2,h1,fun w2 l hr=>(h2 w2 l hr).rot.rot⟩
theorem Ye.z9S (h:Ye w0 w b5 f p1 p2 p3 l1 l2 l3):∃F3,Tv w p3 l3 F3/\(∀w2 l,WrR p3 F3 w w2 l->Ye w0 w2 b5 f p1 p2 p3 l1 l2 l):=by
 obtain⟨F3,h1,-,h2⟩:=h.rot.rot.z6w
 exact⟨F3,h1,fun w2 l hr=>(h2 w2 l hr).rot⟩
end
theorem Ym {w:World}{a:Option Addr}{c:Nat}{l:List Nat}(cG:1<=l.length)(hn:l.length<=64)(ls:Nof l)(hm:∀v∈l,v<=999999999)(hR:Rd w (.slice a l.length c) 1 l.length (l.map L5)){z:Nat}(hz:l[l.length-1]? =some z):
  Lk Tryz.prog 70 [.slice a l.length c] w fun v w'=>v= .tuple #[S (T6 l (OW l.length (z+1))),I 0]/\Ext w w':=by
 have K4:=hm z (List.mem_of_getElem? hz)
 have EM:∀v∈l,v<=z:=fun v hv=>by
  obtain⟨j,hj⟩:=List.mem_iff_getElem?.1 hv;obtain⟨a1,a2⟩:=List.getElem?_eq_some_iff.1 hj;obtain⟨b1,b2⟩:=List.getElem?_eq_some_iff.1 hz;rcases Nat.lt_or_ge j (l.length-1) with h| h
  ·have:=List.pairwise_iff_getElem.1 ls j (l.length-1) a1 b1 h
   rwa [a2,b2] at this
  ·have e:j=l.length-1:=by omega
   subst e;rw[hz] at hj;cases hj;exact Nat.le_refl _
 have tO:=TD (n:=l.length) (u:=z+1) (by omega)
 have mP:=W5 (n:=l.length) (u:=z+1) cG (by omega)
 rw[Nat.add_sub_cancel] at mP
 obtain⟨gb,go,gc',e4⟩:∃b o c',Value.slice a l.length c= .slice (some ⟨b,o,none⟩) l.length c':=by
  rcases hR.2 with⟨c,hc,h0⟩|⟨b,off,c',hc,-⟩
  ·omega
  ·exact⟨b,off,c',hc⟩
 cases e4
 refine KJ (e:=[(0,_)]) Tryz.func70 rfl Tryz.ntmps70 rfl rfl (qN rfl (KO rfl (KO rfl (py (run_seq (qN rfl (An rfl (La [.tmp 19] zcJ rfl (z2J (by omega) ls (fun v hv=>by have:=hm v hv;omega) hR) ?_))))))))
 rintro _ w ⟨rfl,rfl⟩
 refine qV ((by first|exact LN rfl|exact Na rfl)) ?_
 refine py (KH rfl (It (qN rfl (KO rfl (py (run_seq (qN rfl (An rfl (qV (LM U40 rfl) (qV (LU rfl rfl) (py (KZ rfl (fun h0=>?_) (fun h0=>?_)))))))))))))
 ·refine KQ rfl (An rfl (An rfl (qV (LM U40 rfl) (qV (Md rfl rfl (by omega)) ?_))));rw[show(l.length:Int)-1=((l.length-1:Nat):Int) by omega];refine qV (LC U40 PQ rfl rfl (by omega)) (qV (Lm Mq rfl rfl (LV hR (show(l.map L5)[l.length-1]? =some (L5 z) by rw[List.getElem?_map,hz];rfl))) ?_);refine qV (Pp rfl rfl) ?_;rw[Nat.mod_eq_of_lt (show z+1<18446744073709551616 by omega)];refine KO rfl (qM rfl (An rfl (qV (LM U40 rfl) (An rfl (La [.tmp 33,.tmp 34] z5z rfl (SE l.length (z+1) cG (by omega) (by omega) (by omega) _) ?_)))));rintro _ w1 ⟨rfl,ad⟩
  generalize hf:OW l.length (z+1)=f
  have Hs:f.width=SI l.length (z+1):=by rw[<-hf];rfl
  have oH:f.n=l.length:=by rw[<-hf];rfl
  have yP:f.u=z+1:=by rw[<-hf];rfl
  rw[<-Hs] at tO mP;refine KU rfl rfl (N3 (cs:=[_,_,_,_]) On rfl) ?_;rintro _ w2 ⟨b5,rfl,gD,af,aF⟩;refine L0 rfl (Lz (news:=fmC f) On rfl rfl rfl rfl aF (by simp)) ?_;rintro w3 ⟨hH,au⟩;replace hH:KY w3 b5 (fmC f) 210:=hH;have z1:=ad.size;have z2:=af.size;have lb5:=hH.lt;have aX:Ext w1 w3:=af.KK au (fun i e=>by omega);have z3:=aX.size;refine qM rfl (La [] Vf rfl (PD w3) ?_);rintro _ w4 ⟨p1,F1,rfl,Bz,aB,nT⟩;refine La [] Vf rfl (PD w4) ?_;rintro _ w5 ⟨p2,F2,rfl,EN,aR,EO⟩;refine La [] Vf rfl (PD w5) ?_;rintro _ w6 ⟨p3,F3,rfl,kX,aG,oT⟩;have z4:=aB.size;have z5:=aR.size
  have Ht:Ye w w6 b5 f p1 p2 p3 [] [] []:=⟨⟨F1,F2,F3,(Bz.ext aR).ext aG,EN.ext aG,kX,fun k h1 h2=>by have:=Bz.lt h1;have:=EO k h2;omega,fun k h1 h2=>by have:=EN.lt h1;have:=oT k h2;omega,fun k h1 h2=>by have:=Bz.lt h2;have:=oT k h1;omega,fun k hk=>by
   rcases hk with h|h| h
   ·have:=nT k h;omega
   ·have:=EO k h;omega
   ·have:=oT k h;omega⟩,(((ad.trans aX).trans aB).trans aR).trans aG,aG.KN (aR.KN (aB.KN hH))⟩
  refine KO rfl (KO rfl (KO rfl (py (Ll.qb (e:=[(0,_),(2,_),(3,_),(4,_),(5,_),(6,_),(7,_),(8,_)]) ?_))));refine run_seq (qN rfl (An rfl (qV (LM U40 rfl) (An rfl (py (KL (MV (α:=Nat) (0) (fun i=>[(4,L5 (z+1)),(5,ptr b5 0),(6,ptr p1 0),(7,ptr p2 0),(8,ptr p3 0),(39,.slice (some ⟨gb,go,none⟩) l.length c),(40,I (l.length:Int)),(41,I (i:Int))]) (fun i w'=>Ye w w' b5 f p1 p2 p3 (NF f.width (l.take i)) (hiB f.width 0 0 (l.take i)) (restB f.width (l.take i))/\i<=l.length) (fun i=>l.length-i) ?hI ?hround)))))))
  case hI=>exact⟨Ht,Nat.zero_le _⟩
  case hround =>
   rintro i w7 ⟨hE,hi⟩ ih
   try dsimp only
   refine qN rfl (qV (LX rfl rfl) (py (run_seq (KZ rfl (fun h1=>?_) (fun h1=>?_)))))
   ·have di:i<l.length:=by omega
    obtain⟨v,hv⟩:∃v,l[i]? =some v:=⟨_,List.getElem?_eq_getElem di⟩;have Bx:=EM v (List.mem_of_getElem? hv);have EP:v / 2^f.width<=z / 2^f.width:=Nat.div_le_div_right Bx;have oN:(l.take i).length=i:=by rw[List.length_take];omega
    obtain⟨dC,cP⟩:=YK f.width (l.take i) 0 0 v (by rw[<-LA hv];exact ls.sublist (List.take_sublist _ _)) (fun x hx=>Nat.zero_le _);rw[<-LA hv,Nat.zero_add,Nat.zero_add,oN] at cP;rw[Nat.zero_add,Nat.zero_add,oN] at dC;have K5:(l.take i).length*f.width<=64*30:=Nat.mul_le_mul (by omega) (by omega);have hg:=Ext.Lb w7;obtain⟨F1',BA,vy,ff⟩:=(hE.on hg).z6w;have vz:KY w7 b5 [I (f.n:Int),L5 f.u,I (f.width:Int),I (f.bits:Int)] 210:=hE.KN;have rt:=Nat.two_pow_pos f.width;have K6:2^f.width<=2^30:=Nat.pow_le_pow_right (by decide) tO;refine It (run_seq (KL (qN rfl (An rfl (qV (LC U40 PQ rfl rfl (by omega)) (qV (Lm Mq rfl rfl (LV (hR.ext hE.ext) (show(l.map L5)[i]? =some (L5 v) by rw[List.getElem?_map,hv];rfl))) ?_))))));refine KO rfl (KO rfl (py (run_seq (KV (fun w'=>Kp F1' w7 w') (by kernel_rfl) rfl (KR 0 rfl (KW rfl) (hg.kp) (KR 1 rfl (KW rfl) (hg.kp) (KR 2 rfl (KT Oo rfl) (hg.kp) (qT 3 rfl (fun _ h=>KS U3 rfl rfl (h.KN vz vy) rfl) (hg.kp) (KR 7 rfl (KT Oo rfl) (hg.kp) (qT 8 rfl (fun _ h=>KS U3 rfl rfl (h.KN vz vy) rfl) (hg.kp) (KR 4 rfl (MD f.width (2^f.width) rfl rfl (by omega) rfl) (hg.kp) ?_)))))))))));rw[show 1*2^f.width%18446744073709551616=2^f.width by rw[Nat.one_mul];exact Nat.mod_eq_of_lt (by omega)];refine KR 5 rfl (Rh (m:=2^f.width) (n:=1) rfl rfl rfl (by show 2^f.width<2^64;omega) (by omega)) (hg.kp) ?_;refine KR 6 rfl (PF rfl rfl (by omega) (by omega)) (hg.kp) ?_;rw[Nat.and_two_pow_sub_one_eq_mod];refine O2 9 [.tmp 46,.tmp 52,.tmp 54] rfl Rt rfl (Nr BA (v%2^f.width) f.width (by omega) (Nat.mod_lt _ rt) (by rw[Pr];omega)) ?_;rintro _ w8 ⟨rfl,fg⟩;refine⟨hg.kp.trans fg.choose_spec.2.1,?_⟩;have yQ:=ff _ _ fg;rw[<-z3G,<-LA hv] at yQ;have se:KY w8 b5 [I (f.n:Int),L5 f.u,I (f.width:Int),I (f.bits:Int)] 210:=yQ.KN;obtain⟨F2',p8,eM⟩:=yQ.z6y;refine qE (qN rfl (An rfl (qV (KT Oo rfl) (qV (KS U3 rfl rfl se rfl) (qV (Ps f.width (2^f.width) rfl rfl (by show f.width<=64;omega) rfl) ?_)))));have dV:=z1x f.width (l.take i) v;rw[<-LA hv,oN] at dV
    generalize v / 2^f.width=vq at dC cP EP dV
    generalize z / 2^f.width=zq at EP mP
    refine qV (Lw rfl Mq U3 (by omega)) (An rfl (LH rfl rfl ?_));rw[show(vq:Int)+(i:Int)=((vq+i:Nat):Int) by omega];refine KO rfl (py (run_seq (qN rfl (An rfl (An rfl (La [.tmp 64] WL rfl (Qt p8) ?_))))));rintro _ w8 ⟨rfl,rfl⟩;refine qV (Md rfl rfl (by omega)) ?_
    generalize BB:(hiB f.width 0 0 (l.take i)).length=HL at dC cP
    rw[show((vq+i:Nat):Int)-(HL:Int)=((vq+i-(HL+0):Nat):Int) by omega];refine KO rfl (py (KL (MV (α:=Nat) (0) (fun y=>[(4,L5 (z+1)),(5,ptr b5 0),(6,ptr p1 0),(7,ptr p2 0),(8,ptr p3 0),(9,I (i:Int)),(11,I ((vq+i:Nat):Int)),(12,I ((vq+i-(HL+y):Nat):Int)),(39,.slice (some ⟨gb,go,none⟩) l.length c),(40,I (l.length:Int)),(41,I (i:Int))]) (fun y w'=>Ye w w' b5 f p1 p2 p3 (NF f.width (l.take (i+1))) (hiB f.width 0 0 (l.take i)++List.replicate y false) (restB f.width (l.take i))/\HL+y<=vq+i) (fun y=>vq+i-(HL+y)) ?hI ?hround)))
    case hI=>exact⟨by simpa using yQ,dC⟩
    case hround=>
     rintro y w9 ⟨Hu,hy⟩ ih2
     try dsimp only
     obtain⟨F2',p8,eM⟩:=Hu.z6y;refine run_seq (qN rfl (An rfl (qV (LU rfl rfl) (py (KZ rfl (fun h2=>?_) (fun h2=>?_))))))
     ·obtain⟨m,o8,dP,kw,EQ⟩:∃m,min (vq+i-(HL+y)) 64=m/\1<=m/\m<=64/\HL+y+m<=vq+i:=⟨_,rfl,by omega,by omega,by omega⟩;refine It (run_seq (KL (KQ rfl (An rfl (An rfl (qV (ymi rfl rfl) ?_))))));rw[show min ((vq+i-(HL+y):Nat):Int) 64=(m:Int) by omega];refine La [.tmp 73,.const (Value.int .u64 0),.tmp 75] Rt rfl (Nr p8 0 m kw (Nat.two_pow_pos _) (by rw[List.length_append,List.length_replicate,BB];omega)) ?_;rintro _ w10 ⟨rfl,mQ⟩;have jI:=eM _ _ mQ;rw[QC,List.append_assoc,List.replicate_append_replicate] at jI;obtain⟨F2'',vA,-⟩:=jI.z6y;refine py (KM (KQ rfl (An rfl (An rfl (La [.tmp 70] WL rfl (Qt vA) ?_)))));rintro _ w10 ⟨rfl,rfl⟩;rw[show(hiB f.width 0 0 (l.take i)++List.replicate (y+m) false).length=HL+(y+m) by rw[List.length_append,List.length_replicate,BB]];refine qV (Md rfl rfl (by omega)) ?_;rw[show((vq+i:Nat):Int)-((HL+(y+m):Nat):Int)=((vq+i-(HL+(y+m)):Nat):Int) by omega];refine KO rfl (py ?_);exact(ih2 (y+m) _ ⟨jI,by omega⟩ (by omega)).qb
     ·have Hv:y=vq+i-HL:=by omega
      subst Hv;refine KX rfl (qN rfl (An rfl (La [.tmp 77,.const (Value.int .u64 1),.const (Value.int .i64 1)] Rt rfl (Nr p8 1 1 (by decide) (by decide) (by rw[List.length_append,List.length_replicate,BB];omega)) ?_)));rintro _ w10 ⟨rfl,mQ⟩;have jI:=eM _ _ mQ;rw[show bitsN 1 1=[true] from rfl,List.append_assoc,<-cP] at jI;refine qM rfl (An rfl (qV (yre rfl rfl (by omega)) (qV (Mr rfl rfl) (py (KZ rfl (fun h3=>?_) (fun h3=>?_))))))
      ·have iG:i=0:=by omega
       obtain⟨F3',BC,kZ⟩:=jI.z9S;refine KQ rfl (An rfl (An rfl (qV ((by first|exact LF rfl U3 Mq (by omega)|exact N0 rfl U3 Mq)) ?_)));refine La [.tmp 82,.tmp 84,.const (Value.int .i64 32)] Rt rfl (Nr BC (vq+i) 32 (by decide) (by show _<2^32;omega) (by rw[iG];show 0+32<=_;omega)) ?_;rintro _ w11 ⟨rfl,BD⟩;have lu:=kZ _ _ BD;refine py (KM (KQ rfl (LH rfl rfl (An rfl (py ((ih (i+1) _ ⟨?_,di⟩ (by omega)).qb))))));rw[dV,if_pos iG];rw[show vq+i=vq by omega] at lu;exact lu
      ·refine It (KM (KQ rfl (LH rfl rfl (An rfl (py ((ih (i+1) _ ⟨?_,di⟩ (by omega)).qb))))));rw[dV,if_neg (by omega),List.append_nil];exact jI
   ·have cO:i=l.length:=by omega
    subst cO;rw[List.take_length] at hE;refine KX rfl (qN rfl (La [] Vf rfl (PD w7) ?_));rintro _ w8 ⟨p4,F4,rfl,kW,cI,ER⟩;have se:KY w8 b5 [I (f.n:Int),L5 f.u,I (f.width:Int),I (f.bits:Int)] 210:=(hE.on cI).KN;refine KO rfl (qM rfl (An rfl (qV (KT SR rfl) (qV (KS U3 rfl rfl se rfl) (qV ((by first|exact LF rfl U3 Mq (by omega)|exact N0 rfl U3 Mq)) ?_)))));refine La [.tmp 88,.tmp 91,.const (Value.int .i64 32)] Rt rfl (Nr kW f.n 32 (by decide) (by show _<2^32;omega) (by simp)) ?_;rintro _ w9 ⟨rfl,F5,yR,aL,tN⟩;have i5:Ext w7 w9:=cI.KK aL ER;have z79:=i5.size;refine qM rfl (An rfl (An rfl (La [.tmp 93,.tmp 94,.const (Value.int .i64 64)] Rt rfl (Nr yR (z+1) 64 (by decide) (by show _<2^64;omega) (by simp)) ?_)));rintro _ w10 ⟨rfl,F6,kG,ax,K7⟩
    have qg:Ext w7 w10:=i5.KK ax (fun k hk=>by
     rcases tN k hk with e| e
     ·exact ER k e
     ·have:=cI.size;omega)
    rw[List.nil_append,<-yP] at kG;refine qM rfl (KO rfl (py (run_seq (qN rfl (An rfl (An rfl (An rfl (An rfl (KU rfl rfl (Tx (parts:=[(0,.tmp 96),(1,.tmp 97),(2,.tmp 98),(3,.tmp 99)]) (cs:=[_,_,_,_]) (zs:=[Value.pointer none,Value.pointer none,Value.pointer none,Value.pointer none]) z97 z2v rfl (by kernel_rfl) rfl rfl rfl (by decide)) ?_)))))))));rintro _ w11 ⟨b100,rfl,⟨ES,aQ,ET⟩,vB⟩;have lu:=hE.on (qg.trans aQ);obtain⟨tx,io⟩:∃tx:List Bytes,tx=[Lg (bitsN 32 f.n++bitsN 64 f.u),Lg (NF f.width l),Lg (hiB f.width 0 0 l),Lg (restB f.width l)]:=⟨_,rfl⟩
    have me:∀j,(List.take j (List.map List.length tx)).sum<=4000:=fun j=>by
     have h1:∀x∈List.take j (List.map List.length tx),x<=1000:=fun x hx=>by
      have af:=List.mem_of_mem_take hx;rw[io] at af;have eO:(NF f.width l).length<=64*30:=by rw[Pr];exact Nat.mul_le_mul hn (by omega)
      have o7:=Wh f.width ls hz;have gC:=z4i f.width l;simp only[List.map_cons,List.map_nil,Lq,List.length_append,bitsN_length] at af;simp only[List.mem_cons,List.not_mem_nil,or_false] at af
      generalize z / 2^f.width=zq at mP o7
      omega
     have h2:=z5F h1;have h3:(List.take j (List.map List.length tx)).length<=4:=by rw[List.length_take,List.length_map,io];simp;omega
     omega
    have dT:∀(j:Nat) (x:Bytes),tx[j]? =some x->x.length<=4000:=fun j x hx=>by
     have h1:=me (j+1);rw[LA (q:=x.length) (by rw[List.getElem?_map,hx];rfl),List.sum_append] at h1;simp at h1;omega
    have hq:∀j,j<4->∃q bs F,([ptr p4 0,ptr p1 0,ptr p2 0,ptr p3 0]:List Value)[j]? =some (ptr q 0)/\tx[j]? =some (Lg bs)/\Tv w11 q bs F:=fun j hj=>by
     obtain⟨F1,h1,-,-⟩:=lu.z6w;obtain⟨F2,h2,-⟩:=lu.z6y;obtain⟨F3,h3,-⟩:=lu.z9S;rw[io];have BE:j=0\/j=1\/j=2\/j=3:=by omega
     rcases BE with e|e|e|e<;>subst e
     ·exact⟨p4,_,_,rfl,rfl,kG.ext aQ⟩
     ·exact⟨p1,_,_,rfl,rfl,h1⟩
     ·exact⟨p2,_,_,rfl,rfl,h2⟩
     ·exact⟨p3,_,_,rfl,rfl,h3⟩
    refine qV (LM z97 rfl) (An rfl (py (Ll.qb (e:=[(14,_),(100,_),(101,_),(102,_)]) ?_)));refine KL (MV (α:=Nat) (0) (fun j=>[(14,S ((tx.take j).flatten)),(100,.slice (some ⟨b100,0,none⟩) 4 4),(101,I 4),(102,I (j:Int))]) (fun j w'=>w'=w11/\j<=4) (fun j=>4-j) ?hI ?hround)
    case hI=>exact⟨rfl,Nat.zero_le _⟩
    case hround=>
     rintro j w12 ⟨rfl,hj⟩ ih2
     try dsimp only
     refine qN rfl (qV (LX rfl rfl) (py (run_seq (KZ rfl (fun h2=>?_) (fun h2=>?_)))))
     ·obtain⟨q,bs,F,g1,g2,g3⟩:=hq j (by omega);have K8:=me j;have K9:=dT j _ g2;refine It (run_seq (KL (qN rfl (qV (LC z97 z2v rfl rfl (by omega)) (qV (Lm XF rfl rfl (LV vB.rd g1)) (KO rfl (qM rfl (An rfl (La [.tmp 107] z2G rfl (RK g3) ?_)))))))));rintro _ w12 ⟨rfl,rfl⟩;refine An rfl (qV (Lu rfl rfl) (qV (Lu (v:=I 0) rfl rfl) (KO rfl (KO rfl (py (run_seq (qN rfl (An rfl (qV (M0 rfl rfl) (py (KH rfl (It (KQ rfl ?_)))))))))))));refine An rfl (An rfl (qV (T3 rfl rfl (by first|omega|(simp;done)|(simp;omega))) ?_));refine KO rfl (py (KM (KQ rfl (LH rfl rfl (An rfl (py ?_))))));rw[show(tx.take j).flatten++Lg bs=(tx.take (j+1)).flatten by rw[LA g2,List.flatten_append];simp];exact(ih2 (j+1) _ ⟨rfl,by omega⟩ (by omega)).qb
     ·have BE:j=4:=by omega
      subst BE;refine KX rfl (qN rfl (An rfl (KO rfl (KO rfl (py (KP Tryz.func70 rfl (⟨_,rfl,?_,(hE.ext.trans qg).trans aQ⟩)))))));rw[io];simp[resVal,T6]
 ·omega
structure PHd where
 n:Nat
 m:Nat
 p:LW
 bits:Nat
def hdC (h:PHd):List Value:=[I (h.n:Int),I (h.m:Int),I (h.p.Lf:Int),I (h.p.chain:Int),I (h.p.interval:Int),I (h.p.zeta:Int),I (h.p.most:Int),I (h.bits:Int)]
abbrev hdV (h:PHd):Value:= .agg (hdC h).toArray
structure PHd.M3 (h:PHd):Prop where
 n1:1<=h.n
 n2:h.n<=65536
 m:h.m<=1048576
 bits:h.bits<=134217728
 p:h.p.M3
def Ty (h:PHd):List (Nat×Nat):=[(h.n,32),(h.m,32),(h.p.Lf,8),(h.p.chain,8),(h.p.interval,8),(h.p.zeta,8),(h.p.most,32),(h.bits,64)]
def MG (l:List (Nat×Nat)):List Bool:=l.flatMap fun q=>bitsN q.2 q.1
def z1V:Bytes:=[119,116,108,49]
def hdT (h:PHd):Bytes:=z1V++Lg (MG (Ty h))
theorem Pq (h:PHd):(MG (Ty h)).length=192:=by
 simp[MG,Ty]
theorem RJ (h:PHd):(hdT h).length=28:=by
 unfold hdT
 rw[List.length_append,Lq,Pq];rfl
theorem So (h:PHd)(hh:h.M3)(w:World):Lk Tryz.prog 101 [hdV h] w fun u w'=>u=I 0/\Ext w w':=by
 obtain⟨g1,g2,g3,g4,g5⟩:=hh
 refine KJ (e:=[(0,_)]) Tryz.func101 rfl Tryz.ntmps101 rfl rfl (qN rfl (KU rfl rfl (MH rfl (cs:=hdC h) rfl) ?_))
 rintro _ w1 ⟨b1,rfl,bS,ad,ai⟩
 replace ai:KY w1 b1 [I (h.n:Int),I (h.m:Int),I (h.p.Lf:Int),I (h.p.chain:Int),I (h.p.interval:Int),I (h.p.zeta:Int),I (h.p.most:Int),I (h.bits:Int)] 128:=ai
 refine KO rfl (py (run_seq (KL (run_seq (qN rfl (qV (KT P7 rfl) (qV (KS U3 rfl rfl ai rfl) (qV (LX rfl rfl) (Ly (An rfl (qV (KT P7 rfl) (qV (KS U3 rfl rfl ai rfl) (qV (LU rfl rfl) ?_)))))))))))))
 refine Ly (qV (Ls rfl rfl) (KO rfl (py (KH rfl (qN rfl (qV (KT XY rfl) (qV (KS U3 rfl rfl ai rfl) (qV (LX rfl rfl) (Ly (An rfl (qV (KT XY rfl) (qV (KS U3 rfl rfl ai rfl) (qV (LU rfl rfl) ?_)))))))))))))
 refine Ly (qV (Ls rfl rfl) (KO rfl (py (KH rfl (qN rfl (qV (KT PT rfl) (qV (KS U3 rfl rfl ai rfl) (qV (LX rfl rfl) (Ly (An rfl (qV (KT PT rfl) (qV (KS U3 rfl rfl ai rfl) (qV (LU rfl rfl) ?_)))))))))))))
 refine Ly (qV (Ls rfl rfl) (KO rfl (py (Ll.qb (e:=[(1,_),(2,_),(3,_)]) ?_))))
 refine KH rfl (KQ rfl (qV (KT P7 rfl) (qV (KS U3 rfl rfl ai rfl) (qV (Mr rfl rfl) (Ly (An rfl (qS (qS (qS (qS (qS (qS (qV (Ls rfl rfl) ?_)))))))))))))
 refine KO rfl (py (KH rfl (It (KM (qN rfl (qV (KT Th rfl) (qV (Lj (news:=Qf h.p) VA rfl MP rfl (ai.cells (i:=2) (n:=5) rfl) rfl) (La [.tmp 40] z7W rfl (Ur h.p g5 _) ?_))))))))
 rintro _ w2 ⟨rfl,af⟩
 refine KO rfl (py (KP Tryz.func101 rfl ?_))
 exact⟨_,rfl,rfl,ad.trans af⟩
theorem z4b (h:PHd)(hh:h.M3)(w:World):Lk Tryz.prog 69 [hdV h] w fun u w'=>u= .tuple #[S (hdT h),I 0]/\Ext w w':=by
 obtain⟨g1,g2,g3,g4,g5⟩:=id hh
 obtain⟨q1,q2,q3⟩:=id g5
 obtain⟨r1,r2,r3,r4⟩:=id q1
 have r1':h.p.Lf<=16:=r1
 have r2':h.p.interval<=64:=by
  have:h.p.interval=0\/2<=h.p.interval/\h.p.interval<=64:=r2;omega
 have r4':h.p.zeta<=16:=r4
 refine KJ (e:=[(0,_)]) Tryz.func69 rfl Tryz.ntmps69 rfl rfl (qN rfl (KU rfl rfl (MH rfl (cs:=hdC h) rfl) ?_))
 rintro _ w1 ⟨b1,rfl,bS,ad,ai⟩
 replace ai:KY w1 b1 [I (h.n:Int),I (h.m:Int),I (h.p.Lf:Int),I (h.p.chain:Int),I (h.p.interval:Int),I (h.p.zeta:Int),I (h.p.most:Int),I (h.bits:Int)] 128:=ai
 refine KO rfl (KO rfl (py (run_seq (qN rfl (qV (Lj (news:=hdC h) z05 rfl OT rfl (ai.cells (n:=8) rfl) rfl) (La [.tmp 11] z6c rfl (So h hh _) ?_))))))
 rintro _ w2 ⟨rfl,af⟩
 refine KO rfl (qM rfl (An rfl (qV (M0 rfl rfl) (py (KH rfl (It (qN rfl (La [] Vf rfl (PD w2) ?_))))))))
 rintro _ w3 ⟨wp,F,rfl,kX,ah,oT⟩
 have aX:=af.trans ah
 have dm:=aX.KN ai
 refine KO rfl (qM rfl (qV (KT Th rfl) (qV (Lj (news:=Qf h.p) VA rfl MP rfl (dm.cells (i:=2) (n:=5) rfl) rfl) (KU rfl rfl (N3 (cs:=[_,_,_,_,_]) MP rfl) ?_))))
 rintro _ w4 ⟨b6,rfl,nN,aB,aN⟩
 refine L0 rfl (Lz (news:=Qf h.p) MP rfl rfl rfl rfl aN (by simp)) ?_
 rintro w5 ⟨dQ,aj⟩
 replace dQ:KY w5 b6 [I (h.p.Lf:Int),I (h.p.chain:Int),I (h.p.interval:Int),I (h.p.zeta:Int),I (h.p.most:Int)] 77:=dQ
 have ce:Ext w3 w5:=aB.KK aj (fun i e=>by omega)
 have dB:=ce.KN dm
 refine py (run_seq (qN rfl (qV (KT P7 rfl) (qV ((by first|exact KS U3 rfl rfl dB rfl|exact KS U3 rfl rfl dQ rfl)) ?_))))
 refine qV (NA (parts:=[(0,.tmp 20),(1,.const (Value.int .i64 32))]) (cs:=[_,_]) Qi rfl Uh rfl rfl) (qV (KT XY rfl) (qV ((by first|exact KS U3 rfl rfl dB rfl|exact KS U3 rfl rfl dQ rfl)) ?_))
 refine qV (NA (parts:=[(0,.tmp 23),(1,.const (Value.int .i64 32))]) (cs:=[_,_]) Qi rfl Uh rfl rfl) (qV (KT Ve rfl) (qV ((by first|exact KS U3 rfl rfl dB rfl|exact KS U3 rfl rfl dQ rfl)) ?_))
 refine qV (NA (parts:=[(0,.tmp 26),(1,.const (Value.int .i64 8))]) (cs:=[_,_]) Qi rfl Uh rfl rfl) (qV (KT TU rfl) (qV ((by first|exact KS U3 rfl rfl dB rfl|exact KS U3 rfl rfl dQ rfl)) ?_))
 refine qV (NA (parts:=[(0,.tmp 29),(1,.const (Value.int .i64 8))]) (cs:=[_,_]) Qi rfl Uh rfl rfl) (qV (KT z5Q rfl) (qV ((by first|exact KS U3 rfl rfl dB rfl|exact KS U3 rfl rfl dQ rfl)) ?_))
 refine qV (NA (parts:=[(0,.tmp 32),(1,.const (Value.int .i64 8))]) (cs:=[_,_]) Qi rfl Uh rfl rfl) (qV (KT z5G rfl) (qV ((by first|exact KS U3 rfl rfl dB rfl|exact KS U3 rfl rfl dQ rfl)) ?_))
 refine qV (NA (parts:=[(0,.tmp 35),(1,.const (Value.int .i64 8))]) (cs:=[_,_]) Qi rfl Uh rfl rfl) (qV (KT OD rfl) (qV ((by first|exact KS U3 rfl rfl dB rfl|exact KS U3 rfl rfl dQ rfl)) ?_))
 refine qV (NA (parts:=[(0,.tmp 38),(1,.const (Value.int .i64 32))]) (cs:=[_,_]) Qi rfl Uh rfl rfl) (qV (KT PT rfl) (qV ((by first|exact KS U3 rfl rfl dB rfl|exact KS U3 rfl rfl dQ rfl)) ?_))
 refine qV (NA (parts:=[(0,.tmp 41),(1,.const (Value.int .i64 64))]) (cs:=[_,_]) Qi rfl Uh rfl rfl) (KU rfl rfl (Tx (parts:=[(0,.tmp 21),(1,.tmp 24),(2,.tmp 27),(3,.tmp 30),(4,.tmp 33),(5,.tmp 36),(6,.tmp 39),(7,.tmp 42)]) (cs:=[_,_,_,_,_,_,_,_,_,_,_,_,_,_,_,_]) (zs:=[Value.int .i64 0,Value.int .i64 0,Value.int .i64 0,Value.int .i64 0,Value.int .i64 0,Value.int .i64 0,Value.int .i64 0,Value.int .i64 0,Value.int .i64 0,Value.int .i64 0,Value.int .i64 0,Value.int .i64 0,Value.int .i64 0,Value.int .i64 0,Value.int .i64 0,Value.int .i64 0]) z9A Qi rfl (by kernel_rfl) rfl rfl rfl (by decide)) ?_)
 rintro _ w6 ⟨b43,rfl,⟨Az,aG,dA⟩,my⟩
 have vC:=ce.trans aG
 have kG:=kX.ext vC
 have z3:=ah.size
 have hL:(Ty h).length=8:=rfl
 replace my:Sl w6 (.slice (some ⟨b43,0,none⟩) 8 8) 205 2 8 ((Ty h).flatMap fun q=>[I (q.1:Int),I (q.2:Int)]):=my
 refine qV (LM z9A rfl) (An rfl (py (Ll.qb (e:=[(2,_),(3,_),(5,_),(43,_),(44,_),(45,_)]) ?_)))
 refine KL (MV (α:=Nat) (0) (fun i=>[(5,ptr wp 0),(43,.slice (some ⟨b43,0,none⟩) 8 8),(44,I 8),(45,I (i:Int))]) (fun i w'=>WrR wp F w6 w' (MG ((Ty h).take i))/\i<=8) (fun i=>8-i) ?hI ?hround)
 case hI=>exact⟨⟨F,kG,Kp.refl _ _,fun k hk=> .inl hk⟩,Nat.zero_le _⟩
 case hround=>
  rintro i w7 ⟨⟨F7,nP,aA,nQ⟩,hi⟩ ih
  try dsimp only
  refine qN rfl (qV (LX rfl rfl) (py (run_seq (KZ rfl (fun h0=>?_) (fun h0=>?_)))))
  ·obtain⟨⟨v,c⟩,hq⟩:∃q,(Ty h)[i]? =some q:=⟨_,List.getElem?_eq_getElem (by rw[hL];omega)⟩
   have rP:v<2^c/\c<=64/\v<=134217728:=by
    have hm:=List.mem_of_getElem? hq;simp only[Ty,List.mem_cons,List.not_mem_nil,or_false,Prod.mk.injEq] at hm;rcases hm with⟨rfl,rfl⟩|⟨rfl,rfl⟩|⟨rfl,rfl⟩|⟨rfl,rfl⟩|⟨rfl,rfl⟩|⟨rfl,rfl⟩|⟨rfl,rfl⟩|⟨rfl,rfl⟩<;>refine⟨by omega,by omega,by omega⟩
   have eN:(MG ((Ty h).take i)).length+c<=192:=by
    have e:MG ((Ty h).take (i+1))=MG ((Ty h).take i)++bitsN c v:=by rw[LA hq];simp[MG]
    have e2:=congrArg List.length e;rw[List.length_append,bitsN_length] at e2
    have e3:(MG (Ty h)).length=(MG ((Ty h).take (i+1))).length+(MG ((Ty h).drop (i+1))).length:=by
     conv=>lhs;rw[<-List.take_append_drop (i+1) (Ty h)]
     unfold MG;rw[List.flatMap_append,List.length_append]
    have e4:=Pq h;omega
   have gK:=my.kp aA (fun g hg e=>by have e1:b43=g:=ML hg;have:=kG.lt e;have:=kX.lt e;have:=ce.size;omega);have jz:=VK (f:=fun q:Nat×Nat=>[I (q.1:Int),I (q.2:Int)]) (fun _=>rfl) gK.rd hq;refine It (run_seq (KL (qN rfl (qV (LC z9A Qi rfl rfl (by omega)) (qV (Lj (news:=[I (v:Int),I (c:Int)]) zd8 rfl Qi rfl jz rfl) (KU rfl rfl (N3 (cs:=[_,_]) Qi rfl) ?_))))));rintro _ w8 ⟨b8,rfl,j0,cI,bZ⟩;refine L0 rfl (Lz (news:=[I (v:Int),I (c:Int)]) Qi rfl rfl rfl rfl bZ (by simp)) ?_;rintro w9 ⟨p9,aL⟩;replace p9:KY w9 b8 [I (v:Int),I (c:Int)] 205:=p9;have i5:Ext w7 w9:=cI.KK aL (fun i e=>by omega);refine py (KQ rfl (An rfl (qV (KT z6F rfl) (qV (KS U3 rfl rfl p9 rfl) (qV ((by first|exact LF rfl U3 Mq (by omega)|exact N0 rfl U3 Mq)) ?_)))));refine qV (KT z7C rfl) (qV (KS U3 rfl rfl p9 rfl) (La [.tmp 49,.tmp 52,.tmp 54] Rt rfl (Nr (nP.ext i5) v c rP.2.1 rP.1 (by omega)) ?_));rintro _ w10 ⟨rfl,F10,BF,ax,cb⟩;refine py (KM (KQ rfl (LH rfl rfl (An rfl (py ((ih (i+1) _ ⟨⟨F10,?_,(aA.trans i5.kp).KK ax (fun k hk=>(nQ k hk).symm),fun k hk=>?_⟩,by omega⟩ (by omega)).qb))))))
   ·rw[LA hq,show MG ((Ty h).take i++[(v,c)])=MG ((Ty h).take i)++bitsN c v by simp[MG]];exact BF
   ·rcases cb k hk with e| e
    ·exact nQ k e
    ·have:=aA.size;have:=i5.size;exact .inr (by omega)
  ·have cO:i=8:=by omega
   subst cO;rw[show(Ty h).take 8=Ty h from rfl] at nP;refine KX rfl (qN rfl (An rfl (La [.tmp 58] z2G rfl (RK nP) ?_)));rintro _ w8 ⟨rfl,rfl⟩;have dT:(Lg (MG (Ty h))).length=24:=by rw[Lq,Pq]
   refine An rfl (qV (Lu rfl rfl) (qV (Lu rfl rfl) (KO rfl (KO rfl (qM rfl (An rfl (qV (T3 rfl rfl (by first|omega|(simp;done)|(simp;omega))) ?_)))))));refine An rfl (KO rfl (KO rfl (py (KP Tryz.func69 rfl (⟨_,rfl,?_,((ad.trans aX).trans vC).KK aA (fun k hk=>by have:=oT k hk;have:=af.size;have:=ad.size;omega)⟩)))));simp[resVal,hdT,z1V]
theorem z0z {w:World}{ga:Option Addr}{gc:Nat}{g:List (List Nat)}(h:GrM w (.slice ga g.length gc) g)(hg:N2 g):Lk Tryz.prog 68 [.slice ga g.length gc] w fun u w'=>u=I (M1 g:Int)/\w'=w:=by
 have hn:=hg.n
 obtain⟨vs,eY,ke⟩:=h.ex
 refine KJ (e:=[(0,_)]) Tryz.func68 rfl Tryz.ntmps68 rfl rfl (qN rfl (KO rfl (qM rfl (KO rfl (py (run_seq (qN rfl (An rfl (qV (LM R6 rfl) (An rfl (py (KL (MV (α:=Nat) (0) (fun i=>[(3,I (M1 (g.take i):Int)),(6,.slice ga g.length gc),(7,I (g.length:Int)),(8,I (i:Int))]) (fun i w'=>w'=w/\i<=g.length) (fun i=>g.length-i) ?hI ?hround)))))))))))))
 case hI=>exact⟨rfl,Nat.zero_le _⟩
 case hround=>
  rintro i w4 ⟨rfl,hi⟩ ih;have s0:=OV hg i
  try dsimp only
  refine qN rfl (qV (LX rfl rfl) (py (run_seq (KZ rfl (fun h0=>?_) (fun h0=>?_)))))
  ·obtain⟨l,hl⟩:∃l,g[i]? =some l:=⟨_,List.getElem?_eq_getElem (by omega)⟩;have eO:=hg.len (List.mem_of_getElem? hl);obtain⟨a,c,e1,e2,e3⟩:=ke i l hl
   obtain⟨gb,go,gc',e4⟩:∃b o c',Value.slice ga g.length gc= .slice (some ⟨b,o,none⟩) g.length c':=by
    rcases eY.2 with⟨c,hc,h0⟩|⟨b,off,c',hc,-⟩
    ·omega
    ·exact⟨b,off,c',hc⟩
   cases e4;have yK:=Sq (g.take i) l;rw[<-LA hl] at yK;refine It (run_seq (KL (qN rfl (qV (LC R6 OI rfl rfl (by omega)) (qV (Lm Li rfl rfl (LV eY e1)) (KO rfl (py (KQ rfl (An rfl (An rfl (qV (LM Li rfl) (LH rfl rfl (KO rfl ?_)))))))))))));refine py (KM (KQ rfl (LH rfl rfl (An rfl (py ?_)))));rw[show(M1 (g.take i):Int)+(l.length:Int)=(M1 (g.take (i+1)):Int) by omega];exact(ih (i+1) _ ⟨rfl,by omega⟩ (by omega)).qb
  ·have cO:i=g.length:=by omega
   subst cO;rw[List.take_length];refine KX rfl (qN rfl (An rfl (KO rfl (py (KP Tryz.func68 rfl ?_)))));exact⟨_,rfl,rfl,rfl⟩
theorem RA (p:LW)(g:List (List Nat))(E:List (Nat×Nat)):∀(d i:Nat),(M7 p g E i).length<=(M7 p g E (i+d)).length
 |0,i=>Nat.le_refl _
 | d + 1, i => by
   have h:=RA p g E d i;rw[<-Nat.add_assoc,O0,List.length_append];omega
theorem z1K (p:LW)(g:List (List Nat))(E:List (Nat×Nat))(n:Nat):Nof (R7 p g E n):=by
 unfold R7 Nof
 rw[List.pairwise_map]
 refine List.pairwise_lt_range.imp fun {i j} gI=>?_
 have:=RA p g E (j-i) i
 rwa [show i+(j-i)=j by omega] at this
theorem UP (p:LW)(g:List (List Nat))(E:List (Nat×Nat)){n i:Nat}(h:i<=n):(R7 p g E n)[i]? =some (M7 p g E i).length:=by
 unfold R7
 rw[List.getElem?_map,List.getElem?_range (by omega)];rfl
theorem z9u (p:LW)(g:List (List Nat))(E:List (Nat×Nat))(n:Nat):∀v∈R7 p g E n,v<=(M7 p g E n).length:=fun v hv=>by
 unfold R7 at hv
 obtain⟨j,hj,rfl⟩:=List.mem_map.1 hv
 have h1:=List.mem_range.1 hj
 have:=RA p g E (n-j) j
 rwa [show j+(n-j)=n by omega] at this
theorem YG {l:List Nat}(cG:1<=l.length)(hn:l.length<=64)(ls:Nof l){z:Nat}(hz:l[l.length-1]? =some z):(T6 l (OW l.length (z+1))).length=(OW l.length (z+1)).size:=by
 have h1:=Wh (OW l.length (z+1)).width ls hz
 have h2:=Pr (OW l.length (z+1)).width l
 have h3:(restB (OW l.length (z+1)).width l).length=32:=by
  cases l with
  |nil=>simp at cG
  |cons v l=>simp[restB]
 have h4:(OW l.length (z+1)).bits=z / 2^(OW l.length (z+1)).width+l.length:=by
  show(z+1-1) / _+_=_;rw[Nat.add_sub_cancel]
  rfl
 unfold T6 Fm.size Fm.PR Fm.high
 rw[List.length_append,List.length_append,List.length_append,Lq,Lq,Lq,Lq,List.length_append,bitsN_length,bitsN_length,h1,h2,h3,h4]
 show _=12+(l.length*_+7) / 8+_+4*((l.length+63) / 64)
 have h5:(l.length+63) / 64=1:=by omega
 rw[h5]
def Sy (p:LW)(g:List (List Nat))(E:List (Nat×Nat)):Bytes:=
 hdT ⟨g.length,M1 g,p,(M7 p g E g.length).length⟩++Lg (M7 p g E g.length)++T6 (R7 p g E g.length) (OW (g.length+1) ((M7 p g E g.length).length+1))
structure z6f (p:LW)(g:List (List Nat))(E:List (Nat×Nat)):Prop where
 el:E.length=g.length
 ok:z8E p g E
 bits:(M7 p g E g.length).length<=2688000
theorem z1k {w:World}{p:LW}(hp:p.M3){g:List (List Nat)}(hg:N2 g)(bj:1<=g.length){ga:Option Addr}{gc:Nat}(lR:GrM w (.slice ga g.length gc) g)(hG:KY w 1 (NM .gamma) 298)(hU:KY w 2 (NM .unary) 298):
  Lk Tryz.prog 42 [.slice ga g.length gc,bpV p] w fun u w'=>∃E,z6f p g E/\u= .tuple #[S (Sy p g E),I 0]/\Ext w w':=by
 have hn:=hg.n
 have sg:=OV hg g.length
 rw[List.take_length] at sg
 refine KJ (e:=[(0,_),(1,_)]) Tryz.func42 rfl Tryz.ntmps42 rfl rfl (qN rfl (KU rfl rfl (MH rfl (cs:=Qf p) rfl) ?_))
 rintro _ w1 ⟨b3,rfl,dZ,ad,ao⟩
 refine KO rfl (KO rfl (qM rfl (An rfl (qV (Lj (news:=Qf p) VA rfl MP rfl (ao.cells (n:=5) rfl) rfl) (La [.tmp 12,.tmp 13] zdU rfl (z4f hp hg (lR.ext ad) (ad.KN hG) (ad.KN hU)) ?_)))))
 rintro _ w2 ⟨E,v,rfl,oZ,Hw,rO,cL,qF,af⟩
 have aI:=ad.trans af
 have aa:=Ext.Lb w2
 obtain⟨va,vc,rfl,-⟩:=cL.rd.shape
 have vD:=z1K p g E g.length
 have jn:=z9u p g E g.length
 have aD:=Y3 p g E g.length
 have qh:=UP p g E (Nat.le_refl g.length)
 obtain⟨vb,vc2,e5⟩:∃b c,Value.slice va (g.length+1) vc= .slice (some ⟨b,0,none⟩) (g.length+1) c:=by
  rcases cL.shape with⟨-,h0⟩|⟨b,c,e,hc⟩
  ·omega
  ·exact⟨b,c,e⟩
 cases e5
 refine An rfl (qV (Lu (v:=S (Lg (M7 p g E g.length))) rfl rfl) (qV (Lu (v:= .slice (some ⟨vb,0,none⟩) (g.length+1) vc) rfl rfl) (qV (Lu (v:=I 0) rfl rfl) (KO rfl (KO rfl (KO rfl (py (run_seq (qN rfl (An rfl (qV (M0 rfl rfl) (py (KH rfl ?_)))))))))))))
 refine It (run_seq ?_)
 have Hx:PHd.M3 ⟨g.length,M1 g,p,(M7 p g E g.length).length⟩:=⟨bj,(by show g.length<=_;omega),(by show M1 g<=_;omega),(by show(M7 p g E g.length).length<=_;omega),hp⟩
 refine KV (fun w'=>Ext w2 w') (by kernel_rfl) rfl (KR 0 rfl (KW rfl) aa (KR 1 rfl (LM R6 rfl) aa (KR 2 rfl (KW rfl) aa (KR 5 rfl (KW rfl) aa (KR 6 rfl (KW rfl) aa (KR 7 rfl (LM R6 rfl) aa (KR 8 rfl (LC U40 PQ rfl rfl (by omega)) aa (qT 4 rfl (fun _ hS=>Lj (news:=Qf p) VA rfl MP rfl ((hS.KN (af.KN ao)).cells (n:=5) rfl) rfl) aa (qT 9 rfl (fun _ hS=>Lm Mq rfl rfl (LV (cL.ext hS).rd (show((R7 p g E g.length).map L5)[g.length]? =some (L5 (M7 p g E g.length).length) by rw[List.getElem?_map,qh];rfl))) aa ?_)))))))))
 refine KR 10 rfl (Lw rfl Mq U3 (by omega)) aa (O2 3 [.tmp 24] rfl zdl rfl (z0z ((lR.ext aI).ext aa) hg) ?_)
 rintro _ w3 ⟨rfl,rfl⟩
 refine⟨aa,?_⟩
 refine KR 11 rfl (NA (parts:=[(0,.tmp 23),(1,.tmp 25),(2,.tmp 26),(3,.tmp 32)]) (cs:=[_,_,_,_,_,_,_,_]) OT rfl z8H rfl rfl) aa (O2 12 [.tmp 33] rfl zds rfl (z4b ⟨g.length,M1 g,p,(M7 p g E g.length).length⟩ Hx _) ?_)
 rintro _ w3 ⟨rfl,ah⟩
 refine⟨aa.trans ah,?_⟩
 have dO:=aa.trans ah
 refine KR 13 rfl (KW rfl) (aa.trans ah) (qT 14 rfl (fun _ hS=>Lu (v:=S (hdT ⟨g.length,M1 g,p,(M7 p g E g.length).length⟩)) rfl rfl) (aa.trans ah) (KR 16 rfl (MO rfl) (aa.trans ah) (KR 15 rfl (Lu (v:=I 0) rfl rfl) (aa.trans ah) (KR 17 rfl (MO rfl) (aa.trans ah) (qE (Ll.qb (e:=[(4,_),(5,_),(6,_),(7,_),(8,_),(9,_)]) ?_))))))
 refine run_seq (qN rfl (An rfl (qV (M0 rfl rfl) ?_)))
 have BG:Rd w3 (.slice (some ⟨vb,0,none⟩) (R7 p g E g.length).length vc) 1 (R7 p g E g.length).length ((R7 p g E g.length).map L5):=by rw[aD];exact(cL.ext dO).rd
 have hz:(R7 p g E g.length)[(R7 p g E g.length).length-1]? =some (M7 p g E g.length).length:=by rw[aD];exact qh
 have Ad:=Ym (by omega) (by omega) vD (fun v hv=>by have:=jn v hv;omega) BG hz
 have s0:=YG (by omega) (by omega) vD hz
 have Hy:(OW (R7 p g E g.length).length ((M7 p g E g.length).length+1)).size<=40000000:=by
  have h1:=XR (n:=(R7 p g E g.length).length) (u:=(M7 p g E g.length).length+1) (by omega) (by omega) (by omega) (by omega);have h2:=Fm.Rx h1;obtain⟨h3,h4,h5⟩:=h1;unfold Fm.size Fm.PR;omega
 rw[aD] at Ad s0 Hy
 have o7:=RJ ⟨g.length,M1 g,p,(M7 p g E g.length).length⟩
 have dT:=Lq (M7 p g E g.length)
 refine py (KH rfl (It (qN rfl (An rfl (La [.tmp 41] ze6 rfl (Ad) ?_)))))
 rintro _ w4 ⟨rfl,aB⟩
 refine An rfl (qV (Lu (v:=S (T6 (R7 p g E g.length) (OW (g.length+1) ((M7 p g E g.length).length+1)))) rfl rfl) (qV (Lu (v:=I 0) rfl rfl) (KO rfl (KO rfl (qM rfl (An rfl (An rfl (qV (T3 rfl rfl (by first|omega|(simp;done)|(simp;omega))) ?_))))))))
 refine An rfl (qV (T3 rfl rfl (by first|omega|(simp;done)|(simp;omega))) ?_)
 refine An rfl (KO rfl (KO rfl (py (KP Tryz.func42 rfl ?_))))
 exact⟨_,rfl,E,⟨oZ,Hw,rO⟩,rfl,(aI.trans dO).trans aB⟩
/-! ### Bytes of a word, the least first -/
def val8:List Nat->Nat
 |[]=>0
 |b::r=>b+256*val8 r
theorem Qs {s a b c d:Nat}(hb:b<2^s)(hd:d<2^s):(b+2^s*a)&&&(d+2^s*c)=(b&&&d)+2^s*(a&&&c):=by
 apply Nat.eq_of_testBit_eq
 intro j
 have rO:b&&&d<2^s:=Nat.lt_of_le_of_lt Nat.and_le_left hb
 rw[Nat.testBit_and,Nat.add_comm b,Nat.add_comm d,Nat.add_comm (b&&&d),Nat.testBit_two_pow_mul_add _ hb,Nat.testBit_two_pow_mul_add _ hd,Nat.testBit_two_pow_mul_add _ rO]
 by_cases h:j<s
 ·simp only[if_pos h,Nat.testBit_and]
 ·simp only[if_neg h,Nat.testBit_and]
theorem z6R {s a b m:Nat}(hb:b<2^s)(hm:m<2^s):(b+2^s*a)&&&m=b&&&m:=by
 have:=Qs (a:=a) (c:=0) hb hm
 simpa using this
theorem VB (m:Nat)(hm:m<256):∀L:List Nat,(∀b∈L,b<256)->val8 L&&&val8 (List.replicate L.length m)=val8 (L.map (·&&&m))
 |[],_=>by simp[val8]
 | b :: r, h => by
   have ih:=VB m hm r (fun x hx=>h x (List.mem_cons_of_mem b hx));rw[List.length_cons,List.replicate_succ,val8,val8,List.map_cons,val8,<-ih];exact Qs (s:=8) (h b List.mem_cons_self) hm
theorem XP (s m:Nat)(hs:s<=8)(hm:m<2^(8-s)):∀L:List Nat,(∀b∈L,b<256)->val8 L / 2^s&&&val8 (List.replicate L.length m)=val8 (L.map fun b=>b / 2^s&&&m)
 |[],_=>by simp[val8]
 | b :: r, h => by
   have ih:=XP s m hs hm r (fun x hx=>h x (List.mem_cons_of_mem b hx));have hb:=h b List.mem_cons_self;have e256:256=2^s*2^(8-s):=by rw[<-Nat.pow_add,show s+(8-s)=8 by omega]
   have hp:0<2^s:=Nat.two_pow_pos s;have vE:b / 2^s<2^(8-s):=by rw[Nat.div_lt_iff_lt_mul hp,Nat.mul_comm,<-e256];exact hb
   have e1:(b+256*val8 r) / 2^s=b / 2^s+2^(8-s)*val8 r:=by
    rw[e256,Nat.mul_assoc,Nat.add_mul_div_left _ _ hp]
   have e2:b / 2^s+2^(8-s)*val8 r=(b / 2^s+2^(8-s)*(val8 r%2^s))+2^8*(val8 r / 2^s):=by
    have h1:=Nat.div_add_mod (val8 r) (2^s);have e3:2^8=2^(8-s)*2^s:=by rw[Nat.mul_comm];exact e256
    rw[e3,Nat.mul_assoc,Nat.add_assoc,<-Nat.mul_add,Nat.add_comm (val8 r%2^s),h1]
   have h3:b / 2^s+2^(8-s)*(val8 r%2^s)<2^8:=by
    have h4:val8 r%2^s+1<=2^s:=Nat.mod_lt _ hp;have h5:=Nat.mul_le_mul_left (2^(8-s)) h4;rw[Nat.mul_add,Nat.mul_one] at h5;have e3:2^8=2^(8-s)*2^s:=by rw[Nat.mul_comm];exact e256
    omega
   have Hz:m<2^8:=Nat.lt_of_lt_of_le hm (Nat.pow_le_pow_right (by decide) (by omega));rw[List.length_cons,List.replicate_succ,val8,val8,List.map_cons,val8,<-ih,e1,e2];have:=Qs (s:=8) (a:=val8 r / 2^s) (c:=val8 (List.replicate r.length m)) h3 Hz;rw[show m+256*val8 (List.replicate r.length m)=m+2^8*val8 (List.replicate r.length m) from rfl,this,z6R vE hm]
theorem W3 (f g:Nat->Nat):∀L:List Nat,val8 (L.map f)+val8 (L.map g)=val8 (L.map fun b=>f b+g b)
 |[]=>rfl
 | b :: r => by
   rw[List.map_cons,List.map_cons,List.map_cons,val8,val8,val8,<-W3 f g r,Nat.mul_add];omega
theorem Z4:∀L:List Nat,(∀c∈L,c / 16<=4/\c%16<=4)->(val8 L / 16+val8 L)&&&val8 (List.replicate L.length 15)=val8 (L.map fun c=>c / 16+c%16)/\val8 L%16<=4
 |[],_=>⟨by simp[val8],by simp[val8]⟩
 | c :: r, h => by
   obtain⟨ih,ih2⟩:=Z4 r (fun x hx=>h x (List.mem_cons_of_mem c hx));obtain⟨h1,h2⟩:=h c List.mem_cons_self;have e:(c+256*val8 r) / 16+(c+256*val8 r)=(c / 16+16*(val8 r%16)+c)+2^8*(val8 r / 16+val8 r):=by omega
   have aO:c / 16+16*(val8 r%16)+c<2^8:=by omega
   have HA:(c / 16+16*(val8 r%16)+c)&&&15=c / 16+c%16:=by
    have:=Nat.and_two_pow_sub_one_eq_mod (c / 16+16*(val8 r%16)+c) 4;rw[show(2:Nat)^4-1=15 from rfl,show(2:Nat)^4=16 from rfl] at this;rw[this];omega
   refine⟨?_,by rw[val8];omega⟩;rw[List.length_cons,List.replicate_succ,val8,val8,List.map_cons,val8,<-ih,e];have:=Qs (s:=8) (a:=val8 r / 16+val8 r) (c:=val8 (List.replicate r.length 15)) aO (by decide:15<2^8);rw[show 15+256*val8 (List.replicate r.length 15)=15+2^8*val8 (List.replicate r.length 15) from rfl,this,HA]
theorem Yr:∀L:List Nat,(∀b∈L,b<256)->(bitsN (8*L.length) (val8 L)).count true=(L.map fun b=>(bitsN 8 b).count true).sum
 |[],_=>rfl
 | b :: r, h => by
   have ih:=Yr r (fun x hx=>h x (List.mem_cons_of_mem b hx));have hb:=h b List.mem_cons_self;rw[List.length_cons,Nat.mul_add,Nat.mul_one,N9,List.count_append,val8];have e1:(b+256*val8 r) / 2^8=val8 r:=by omega
   rw[List.map_cons,List.sum_cons,show(bitsN 8 (b+256*val8 r))=bitsN 8 b from Rm (by omega),e1,ih];omega
def WB (b:Nat):Nat:=(b / 2&&&85)+(b&&&85)
def s2B (b:Nat):Nat:=(b / 4&&&51)+(b&&&51)
theorem z2K:∀b:Fin 256,WB b<256/\s2B (WB b)<256/\s2B (WB b) / 16<=4/\s2B (WB b)%16<=4/\s2B (WB b) / 16+s2B (WB b)%16=(bitsN 8 b).count true:=by decide+kernel
theorem SF {b:Nat}(h:b<256):WB b<256/\s2B (WB b)<256/\s2B (WB b) / 16<=4/\s2B (WB b)%16<=4/\s2B (WB b) / 16+s2B (WB b)%16=(bitsN 8 b).count true:=z2K ⟨b,h⟩
def TM (x:Nat):List Nat:=[x%256,x / 256%256,x / 65536%256,x / 16777216%256,x / 4294967296%256,x / 1099511627776%256,x / 281474976710656%256,x / 72057594037927936%256]
theorem z1o {x:Nat}(h:x<18446744073709551616):val8 (TM x)=x:=by
 simp only[TM,val8]
 omega
theorem z4c (x:Nat):∀b∈TM x,b<256:=fun b hb=>by
 simp only[TM,List.mem_cons,List.not_mem_nil,or_false] at hb
 rcases hb with rfl|rfl|rfl|rfl|rfl|rfl|rfl|rfl<;>exact Nat.mod_lt _ (by decide)
theorem z0Z {x:Nat}(h:x<18446744073709551616):∃D:List Nat,D.length=8/\(∀d∈D,d<=8)/\
  ((((x / 2&&&6148914691236517205)+(x&&&6148914691236517205)) / 4&&&3689348814741910323)+(((x / 2&&&6148914691236517205)+(x&&&6148914691236517205))&&&3689348814741910323)) / 16+((((x / 2&&&6148914691236517205)+(x&&&6148914691236517205)) / 4&&&3689348814741910323)+(((x / 2&&&6148914691236517205)+(x&&&6148914691236517205))&&&3689348814741910323))&&&1085102592571150095=val8 D/\D.sum=(bitsN 64 x).count true:=by
 have hv:=z1o h
 have hl:=z4c x
 have hL:(TM x).length=8:=rfl
 generalize TM x=L at hv hl hL
 have m0:6148914691236517205=val8 (List.replicate L.length 85):=by rw[hL];rfl
 have m1:3689348814741910323=val8 (List.replicate L.length 51):=by rw[hL];rfl
 have m2:1085102592571150095=val8 (List.replicate L.length 15):=by rw[hL];rfl
 have f1:=XP 1 85 (by decide) (by decide) L hl
 have f2:=VB 85 (by decide) L hl
 rw[show(2:Nat)^1=2 from rfl] at f1
 have jJ:∀b∈L.map WB,b<256:=fun b hb=>by
  obtain⟨y,hy,rfl⟩:=List.mem_map.1 hb;exact(SF (hl y hy)).1
 have e1:(x / 2&&&6148914691236517205)+(x&&&6148914691236517205)=val8 (L.map WB):=by
  rw[m0,<-hv,f1,f2,W3];rfl
 have f3:=XP 2 51 (by decide) (by decide) (L.map WB) jJ
 have f4:=VB 51 (by decide) (L.map WB) jJ
 rw[show(2:Nat)^2=4 from rfl] at f3
 rw[List.length_map] at f3 f4
 have e2:(val8 (L.map WB) / 4&&&3689348814741910323)+(val8 (L.map WB)&&&3689348814741910323)=val8 ((L.map WB).map s2B):=by
  rw[m1,f3,f4,W3];rfl
 rw[e1,e2]
 have ir:∀c∈(L.map WB).map s2B,c / 16<=4/\c%16<=4:=fun c hc=>by
  obtain⟨z,hz,rfl⟩:=List.mem_map.1 hc;obtain⟨y,hy,rfl⟩:=List.mem_map.1 hz;have:=SF (hl y hy);exact⟨this.2.2.1,this.2.2.2.1⟩
 have f5:=(Z4 _ ir).1
 rw[List.length_map,List.length_map] at f5
 refine⟨((L.map WB).map s2B).map fun c=>c / 16+c%16,by rw[List.length_map,List.length_map,List.length_map];exact hL,fun d hd=>?_,by rw[m2];exact f5,?_⟩
 ·obtain⟨c,hc,rfl⟩:=List.mem_map.1 hd;have:=ir c hc;omega
 ·have sh:=Yr L hl;rw[hL,hv] at sh;rw[show 8*8=64 from rfl] at sh;rw[sh,List.map_map,List.map_map]
  congr 1
  refine List.map_congr_left fun b hb=>?_;exact(SF (hl b hb)).2.2.2.2
theorem z6d {D:List Nat}(h8:D.length=8)(hd:∀d∈D,d<=8):let x4:=val8 D+val8 D / 256;let x5:=x4+x4 / 65536;let x6:=x5+x5 / 4294967296;val8 D<1152921504606846976/\x6%128=D.sum/\D.sum<=64:=by
 obtain⟨d0,d1,d2,d3,d4,d5,d6,d7,rfl⟩:∃d0 d1 d2 d3 d4 d5 d6 d7,D=[d0,d1,d2,d3,d4,d5,d6,d7]:=by
  match D,h8 with
  |[a,b,c,d,e,f,g,i],_=>exact⟨a,b,c,d,e,f,g,i,rfl⟩
 have k0:=hd d0 (by simp)
 have k1:=hd d1 (by simp)
 have k2:=hd d2 (by simp)
 have k3:=hd d3 (by simp)
 have k4:=hd d4 (by simp)
 have k5:=hd d5 (by simp)
 have k6:=hd d6 (by simp)
 have k7:=hd d7 (by simp)
 have h3:val8 [d0,d1,d2,d3,d4,d5,d6,d7] / 256=val8 [d1,d2,d3,d4,d5,d6,d7]:=by
  rw[val8,Nat.add_mul_div_left _ _ (by decide),Nat.div_eq_of_lt (by omega),Nat.zero_add]
 have h4:val8 [d0,d1,d2,d3,d4,d5,d6,d7]+val8 [d1,d2,d3,d4,d5,d6,d7]=(d0+d1+256*(d1+d2))+65536*((d2+d3)+256*(d3+d4)+65536*((d4+d5)+256*(d5+d6)+65536*((d6+d7)+256*d7))):=by
  simp only[val8];omega
 have h5:(val8 [d0,d1,d2,d3,d4,d5,d6,d7]+val8 [d1,d2,d3,d4,d5,d6,d7]) / 65536=(d2+d3)+256*(d3+d4)+65536*((d4+d5)+256*(d5+d6)+65536*((d6+d7)+256*d7)):=by
  rw[h4,Nat.add_mul_div_left _ _ (by decide),Nat.div_eq_of_lt (by omega),Nat.zero_add]
 dsimp only
 rw[h3,h5,h4]
 have h6:(d0+d1+256*(d1+d2))+65536*((d2+d3)+256*(d3+d4)+65536*((d4+d5)+256*(d5+d6)+65536*((d6+d7)+256*d7)))+((d2+d3)+256*(d3+d4)+65536*((d4+d5)+256*(d5+d6)+65536*((d6+d7)+256*d7)))=
   ((d0+d1+d2+d3)+256*(d1+d2+d3+d4)+65536*((d2+d3+d4+d5)+256*(d3+d4+d5+d6)))+4294967296*((d4+d5+d6+d7)+256*(d5+d6+d7)+65536*(d6+d7+256*d7)):=by omega
 rw[h6,Nat.add_mul_div_left _ _ (by decide),Nat.div_eq_of_lt (by omega),Nat.zero_add]
 refine⟨by simp only[val8];omega,?_,by simp only[List.sum_cons,List.sum_nil];omega⟩
 simp only[List.sum_cons,List.sum_nil]
 have h7:(d0+d1+d2+d3)+256*(d1+d2+d3+d4)+65536*((d2+d3+d4+d5)+256*(d3+d4+d5+d6))+4294967296*((d4+d5+d6+d7)+256*(d5+d6+d7)+65536*(d6+d7+256*d7))+((d4+d5+d6+d7)+256*(d5+d6+d7)+65536*(d6+d7+256*d7))=
   (d0+d1+d2+d3+d4+d5+d6+d7)+128*(2*(d1+d2+d3+d4)+512*((d2+d3+d4+d5)+256*(d3+d4+d5+d6))+33554432*((d4+d5+d6+d7)+256*(d5+d6+d7)+65536*(d6+d7+256*d7))+(2*(d5+d6+d7)+512*(d6+d7+256*d7))):=by omega
 rw[h7,Nat.add_mul_mod_self_left,Nat.mod_eq_of_lt (by omega)]
 omega
theorem z5o (x:Nat)(hx:x<18446744073709551616)(w:World):Lk Tryz.prog 217 [L5 x] w fun v w'=>v=I ((bitsN 64 x).count true:Int)/\w'=w:=by
 obtain⟨D,h1,h2,h3,h4⟩:=z0Z hx
 obtain⟨f1,f2,f3⟩:=z6d h1 h2
 have a1:x / 2&&&6148914691236517205<=6148914691236517205:=Nat.and_le_right
 have a2:x&&&6148914691236517205<=6148914691236517205:=Nat.and_le_right
 rw[<-h4]
 refine KJ (e:=[(0,_)]) Tryz.func217 rfl Tryz.ntmps217 rfl rfl (qN rfl (KO rfl (qM rfl (An rfl (qV (Ps 1 2 rfl rfl (by decide) rfl) (qV (PF rfl rfl (by omega) (by omega)) (An rfl (qV (PF rfl rfl (by omega) (by omega)) (qV (Pp rfl rfl) (KO rfl (qM rfl ?_)))))))))))
 rw[Nat.mod_eq_of_lt (show(x / 2&&&6148914691236517205)+(x&&&6148914691236517205)<18446744073709551616 by omega)]
 generalize hy:(x / 2&&&6148914691236517205)+(x&&&6148914691236517205)=y at h3
 have qi:y<18446744073709551616:=by omega
 have a3:y / 4&&&3689348814741910323<=3689348814741910323:=Nat.and_le_right
 have a4:y&&&3689348814741910323<=3689348814741910323:=Nat.and_le_right
 refine An rfl (qV (Ps 2 4 rfl rfl (by decide) rfl) (qV (PF rfl rfl (by omega) (by omega)) (An rfl (qV (PF rfl rfl (by omega) (by omega)) (qV (Pp rfl rfl) (KO rfl (qM rfl ?_)))))))
 rw[Nat.mod_eq_of_lt (show(y / 4&&&3689348814741910323)+(y&&&3689348814741910323)<18446744073709551616 by omega)]
 generalize hz:(y / 4&&&3689348814741910323)+(y&&&3689348814741910323)=z at h3
 have m4:z<=7378697629483820646:=by omega
 refine An rfl (qV (Ps 4 16 rfl rfl (by decide) rfl) (An rfl (qV (Pp rfl rfl) ?_)))
 rw[Nat.mod_eq_of_lt (show z / 16+z<18446744073709551616 by omega)]
 refine qV (PF rfl rfl (by omega) (by omega)) (KO rfl (qM rfl ?_))
 rw[h3]
 generalize val8 D=x3 at f1 f2
 refine An rfl (An rfl (qV (Ps 8 256 rfl rfl (by decide) rfl) (qV (Pp rfl rfl) (KO rfl (qM rfl ?_)))))
 rw[Nat.mod_eq_of_lt (show x3+x3 / 256<18446744073709551616 by omega)]
 generalize aB:x3+x3 / 256=x4 at f2
 have vF:x4<=1157495777000000000:=by omega
 refine An rfl (An rfl (qV (Ps 16 65536 rfl rfl (by decide) rfl) (qV (Pp rfl rfl) (KO rfl (py (Ll.qb (e:=[(0,_),(2,_)]) ?_))))))
 refine qN rfl ?_
 rw[Nat.mod_eq_of_lt (show x4+x4 / 65536<18446744073709551616 by omega)]
 generalize aR:x4+x4 / 65536=x5 at f2
 have si:x5<=1160000000000000000:=by omega
 refine An rfl (An rfl (qV (Ps 32 4294967296 rfl rfl (by decide) rfl) (qV (Pp rfl rfl) (KO rfl (qM rfl ?_)))))
 rw[Nat.mod_eq_of_lt (show x5+x5 / 4294967296<18446744073709551616 by omega)]
 generalize aG:x5+x5 / 4294967296=x6 at f2
 have HB:x6<=1170000000000000000:=by omega
 refine An rfl (qV (Lw rfl Mq U3 (by omega)) (qV (S9 rfl rfl (by omega) (by omega)) ?_))
 rw[show x6&&&127=D.sum by rw[<-f2];exact Nat.and_two_pow_sub_one_eq_mod x6 7]
 refine KO rfl (py (KP Tryz.func217 rfl ?_))
 exact⟨_,rfl,rfl,rfl⟩
theorem z3w {x:Nat}(hx:x<18446744073709551616):LB x<=64:=Mu (by omega)
theorem z4F (x:Nat)(hx:x<18446744073709551616)(w:World):Lk Tryz.prog 218 [L5 x] w fun v w'=>v=I ((64-LB x:Nat):Int)/\w'=w:=by
 have qI:=z3w hx
 refine KJ (e:=[(0,_)]) Tryz.func218 rfl Tryz.ntmps218 rfl rfl (qN rfl (KO rfl (qM rfl (An rfl (La [.tmp 3] WY rfl (Pn x hx w) ?_)))))
 rintro _ w ⟨rfl,rfl⟩
 refine qV (Md rfl rfl (by omega)) ?_
 rw[show(64:Int)-(LB x:Int)=((64-LB x:Nat):Int) by omega]
 refine KO rfl (py (KP Tryz.func218 rfl ?_))
 exact⟨_,rfl,rfl,rfl⟩
def methT (P:Program)(t:TypeId)(name:String):Option FuncId:=match P.info? t with
 | some i => match i.methods.toList.find? (·.name == name) with
   | some m => match m.path.toList, m.func with
     | [], some (f, pr) => match P.underlying t with
       |some (.pointer _)=>cond pr (some f) none
       |some _=>cond pr none (some f)
       |none=>none
     |_,_=>none
   |none=>none
 |none=>none
section
variable {P:Program}{e:Env}{d:Option Nat}{ty t t':TypeId}{pos:String}{aft:Array Edge}{g:Option (Nat×Bool)}{x y:Operand}{w:World}{m n:Nat}
theorem OJ {i:TypeInfo}(h:P.info? t=some i):(typeInfo t).run P w= .ok i w:=by simp[typeInfo,program,Sem.run,h]
theorem z2T {f:FuncId}{name:String}{u:Value}(h:methT P t name=some f)(n:Nat):(method (n+1) t u name).run P w= .ok (f,u) w:=by
 unfold methT at h
 split at h<;>try cases h
 rename_i i hi
 split at h<;>try cases h
 rename_i m hm
 split at h<;>try cases h
 rename_i f' pr iL iM
 have mH:i.methods.find? (·.name==name)=some m:=by rw[<-hm,Array.find?_toList]
 split at h<;>try cases h
 ·rename_i el hu
  cases pr<;>simp at h;subst h;simp[method,OJ hi,mH,iL,follow,iM,receiverAt,run_underlying hu,Place.get]
 ·rename_i td EU hu
  cases pr<;>simp at h;subst h;unfold method;simp only[Sem.run_bind,OJ hi,Result.andThen_ok,mH,iL,follow,Sem.run_pure,iM,receiverAt,run_underlying hu,Place.get]
theorem yci {f:FuncId}{nm:String}{args:List Operand}{ts:Array TypeId}{vs:List Value}{u:Value}(hf:CF P f)(hm:methT P t nm=some f)(hx:look e x=some (.iface t u))(ha:looks e args=some vs):
  Yc P e ⟨d,.call ⟨.invoke x nm,args.toArray,ts⟩,ty,pos,aft,g⟩ f (u::vs) w:=fun ρ hρ=>by
 have yS:=fun w=>z2T (P:=P) (w:=w) (u:=u) hm (P.types.size+(Made.depth-1))
 rw[show P.types.size+(Made.depth-1)+1=P.types.size+Made.depth from rfl] at yS
 have rx:(program).run P w= .ok P w:=rfl
 have mH:=OG hρ _ _ ha
 have h0:=hρ _ _ hx
 simp[execOp,resolve,mH,h0,Deferred.ofValue,invoke,callMethod,rx,yS,Of hf]
theorem z8N (hx:look e x=some (I (m:Int)))(hy:look e y=some (I 7))(hm:m<2^62):Y P e ⟨d,.binOp .andNot t x y t',ty,pos,aft,g⟩ (I ((m / 8*8:Nat):Int)) w w:=fun ρ hρ=>by
 have h1:m<2^IntKind.i64.bits:=by simp only[IntKind.bits];omega
 have h3:m&&&18446744073709551608=m / 8*8:=by
  have h4:=Qs (s:=3) (a:=m / 8) (b:=m%8) (c:=2305843009213693951) (d:=0) (Nat.mod_lt _ (by decide)) (by decide);rw[Nat.and_zero,Nat.zero_add,Nat.zero_add] at h4;have h5:=Nat.and_two_pow_sub_one_eq_mod (m / 8) 61;rw[show(2:Nat)^61-1=2305843009213693951 from rfl,Nat.mod_eq_of_lt (by omega)] at h5;rw[h5,show(2:Nat)^3=8 from rfl,show 8*2305843009213693951=18446744073709551608 from rfl,show m%8+8*(m / 8)=m by omega] at h4;rw[h4];omega
 have h6:(BitVec.ofInt IntKind.i64.bits (m:Int)&&&~~~(BitVec.ofInt IntKind.i64.bits 7)).toNat=m / 8*8:=by
  rw[BitVec.toNat_and,Me h1,show(~~~(BitVec.ofInt IntKind.i64.bits 7)).toNat=18446744073709551608 by decide,h3]
 simp only[execOp,eqGuard_andNot,binOp_andNot,intBits_andNot,hρ _ _ hx,hρ _ _ hy,pure_bind,Sem.run_pure,bits,h6]
 rw[wrap_i64 ⟨by omega,by omega⟩]
theorem zd4 {r v q:Nat}(hr:r<=63)(hv:v<2^r)(hq:2^r=q)(hx:look e x=some (.int .u64 ((q+v:Nat):Int)))(hy:look e y=some (.int .u64 (q:Int))):Y P e ⟨d,.binOp .andNot t x y t',ty,pos,aft,g⟩ (.int .u64 (v:Int)) w w:=fun ρ hρ=>by
 subst hq
 have hp:2^r<=2^63:=Nat.pow_le_pow_right (by decide) hr
 have qI:2^64=2^r*2^(64-r):=by rw[<-Nat.pow_add,show r+(64-r)=64 by omega]
 have h2:2^(64-r)=2*2^(63-r):=by rw[<-Nat.pow_succ',show 64-r=(63-r)+1 by omega]
 have At:0<2^(63-r):=Nat.two_pow_pos _
 have h1:2^r+v<2^IntKind.u64.bits:=by simp only[IntKind.bits];omega
 have h3:2^r<2^IntKind.u64.bits:=by simp only[IntKind.bits];omega
 have h4:(2^r+v)&&&(2^64-1-2^r)=v:=by
  have h5:=Qs (s:=r) (a:=1) (b:=v) (c:=2^(64-r)-2) (d:=2^r-1) hv (by have:=Nat.two_pow_pos r;omega);rw[Nat.mul_one,Nat.and_two_pow_sub_one_eq_mod,Nat.mod_eq_of_lt hv,Nat.one_and_eq_mod_two,h2,show(2*2^(63-r)-2)%2=0 by omega,Nat.mul_zero,Nat.add_zero] at h5
  have h6:2^r-1+2^r*(2*2^(63-r)-2)=2^64-1-2^r:=by
   rw[Nat.mul_sub,<-h2,<-qI];have:=Nat.two_pow_pos r;omega
  rw[h6,Nat.add_comm v] at h5;exact h5
 have h6:(BitVec.ofInt IntKind.u64.bits ((2^r+v:Nat):Int)&&&~~~(BitVec.ofInt IntKind.u64.bits ((2^r:Nat):Int))).toNat=v:=by
  rw[BitVec.toNat_and,BitVec.toNat_not,Me h1,Me h3];exact h4
 simp only[execOp,eqGuard_andNot,binOp_andNot,intBits_andNot,hρ _ _ hx,hρ _ _ hy,pure_bind,Sem.run_pure,bits,h6]
 rw[W4 (k:= .u64) rfl (by simp only[IntKind.bits];omega)]
end
structure Src (t:TypeId)(u:Value)(T:Bytes) where
 inv:(Nat->Prop)->World->Prop
 fl:FuncId
 fr:FuncId
 cl:CF Tryz.prog fl
 cr:CF Tryz.prog fr
 ml:methT Tryz.prog t "Length"=some fl
 mr:methT Tryz.prog t "ReadAt"=some fr
 ext:∀{X Y:Nat->Prop} {w w':World},inv X w->Ext w w'->(∀k,Y k->X k\/w.heap.size<=k)->inv Y w'
 step:∀{X Y S:Nat->Prop} {w w':World},inv X w->Kp S w w'->(∀k,S k->X k)->(∀k,Y k->X k\/w.heap.size<=k)->inv Y w'
 len:∀{X:Nat->Prop} {w:World},inv X w->Lk Tryz.prog fl [u] w fun v w'=>v=I (T.length:Int)/\Ext w w'
 rd:∀{X:Nat->Prop} {w:World} (off n:Nat),inv X w->(∀k,X k->k<w.heap.size)->off+n<=T.length->Lk Tryz.prog fr [u,I (off:Int),I (n:Int)] w fun v w'=>v= .tuple #[S ((T.drop off).take n),I 0]/\inv X w'/\Kp (fun k=>¬X k) w w'
theorem Src.own {t:TypeId}{u:Value}{T:Bytes}(R:Src t u T){X S:Nat->Prop}{w w':World}(h:R.inv X w)(hk:Kp S w w')(hS:∀k,S k->X k):R.inv X w':=R.step h hk hS fun _ e=> .inl e
theorem VC {s:Bytes}{i:Nat}{c:UInt8}(h:s[i]? =some c):valB (Lc (s.take (i+1)))=valB (Lc (s.take i))*256+c.toNat:=by
 rw[LA h,SX,N4,show Lc [c]=bitsN 8 c.toNat by simp[Lc],LJ,bitsN_length]
 have:=c.toNat_lt
 omega
theorem RS (s:Bytes)(hs:s.length<=8)(w:World):Lk Tryz.prog 149 [S s] w fun v w'=>v=L5 (valB (Lc s))/\Ext w w':=by
 refine KJ (e:=[(0,_)]) Tryz.func149 rfl Tryz.ntmps149 rfl rfl (qN rfl (KO rfl (qM rfl (KO rfl (py (run_seq (qN rfl (An rfl (KU rfl rfl (z4H U9 M4 U5 rfl) ?_)))))))))
 rintro _ w1 ⟨b7,c7,rest,rfl,⟨kF,ad,ai⟩,Bn⟩
 refine qV (LM M4 rfl) (An rfl (py (KL (MV (α:=Nat) (0) (fun i=>[(3,L5 (valB (Lc (s.take i)))),(7,.slice (some ⟨b7,0,none⟩) s.length c7),(8,I (s.length:Int)),(9,I (i:Int))]) (fun i w'=>w'=w1/\i<=s.length) (fun i=>s.length-i) ?hI ?hround))))
 case hI=>exact⟨rfl,Nat.zero_le _⟩
 case hround=>
  rintro i w2 ⟨rfl,hi⟩ ih
  try dsimp only
  refine qN rfl (qV (LX rfl rfl) (py (run_seq (KZ rfl (fun h0=>?_) (fun h0=>?_)))))
  ·obtain⟨c,hc⟩:∃c,s[i]? =some c:=⟨_,List.getElem?_eq_getElem (by omega)⟩;have ew:=c.toNat_lt;have mR:=VC hc
   have aO:valB (Lc (s.take i))<72057594037927936:=by
    have h1:=Mv (Lc (s.take i));rw[bitsT_length,List.length_take] at h1;have h2:2^(8*min i s.length)<=2^56:=Nat.pow_le_pow_right (by decide) (by omega);omega
   have bc:w2.cell? ⟨b7,0+i*1,none⟩=some (Oq c):=by
    rw[ai.cell,Nat.zero_add,Nat.mul_one,List.getElem?_append_left (by rw[List.length_map];omega),List.getElem?_map,hc];rfl
   refine It (run_seq (KL (qN rfl (qV (LC M4 SJ rfl rfl (by omega)) (qV (Lm U5 rfl rfl bc) ?_)))))
   generalize valB (Lc (s.take i))=q at mR aO
   refine KO rfl (py (KQ rfl (An rfl (qV (MD 8 256 rfl rfl (by decide) rfl) (An rfl (qV ((by first|exact z39 rfl U5 Mq (by decide)|exact LF rfl U5 Mq (by omega))) ?_))))));refine qV (Vn rfl rfl (by omega) (by omega)) ?_
   have nM:(q*256%18446744073709551616 |||c.toNat)=valB (Lc (s.take (i+1))):=by
    rw[mR,Nat.mod_eq_of_lt (by omega),Nat.mul_comm q];exact(Nat.two_pow_add_eq_or_of_lt (i:=8) ew q).symm
   rw[nM];refine KO rfl (py (KM (KQ rfl (LH rfl rfl (An rfl (py ?_))))));exact(ih (i+1) _ ⟨rfl,by omega⟩ (by omega)).qb
  ·have cO:i=s.length:=by omega
   subst cO;rw[List.take_length];refine KX rfl (qN rfl (An rfl (KO rfl (py (KP Tryz.func149 rfl ?_)))));exact⟨_,rfl,rfl,ad⟩
section
variable {P:Program}{e:Env}{d:Option Nat}{ty t t':TypeId}{pos:String}{aft:Array Edge}{g:Option (Nat×Bool)}{x y:Operand}{w:World}
theorem z7x {ms:Array (String×TypeId)}{tx:TypeId}{v:Value}(ht:P.underlying t=some (.interface ms)):(binOp .eql t (.iface tx v) .nilIface).run P w= .ok (.bool false) w:=by
 have h:P.methodsAt t=ms:=by unfold Program.methodsAt;rw[ht]
 exact run_eql_held_nil w t tx v (by rw[h];exact ht)
theorem z8z {ms:Array (String×TypeId)}{tx:TypeId}{v:Value}(ht:P.underlying t=some (.interface ms))(hx:look e x=some (.iface tx v))(hy:look e y=some .nilIface):Y P e ⟨d,.binOp .eql t x y t',ty,pos,aft,g⟩ (.bool false) w w:=fun ρ hρ=>by
 have hg:∀a b,(eqGuard .eql t a b (.iface tx v) .nilIface).run P w= .ok () w:=fun a b=>rfl
 simp only[execOp,hρ _ _ hx,hρ _ _ hy,Sem.run_bind,hg,Result.andThen_ok,z7x ht,Sem.run_pure]
theorem zaN {tx:TypeId}{v:Value}(hx:look e x=some (.iface tx v)):Y P e ⟨d,.nilCheck x,ty,pos,aft,g⟩ (.iface tx v) w w:=fun ρ hρ=>by simp[execOp,hρ _ _ hx]
end
structure Qp (l:List Nat)(f:Fm)(z:Nat):Prop where
 n1:1<=l.length
 n2:l.length<=64
 nof:Nof l
 last:l[l.length-1]? =some z
 zb:z<=999999998
 fe:f=OW l.length (z+1)
theorem Qp.small {l:List Nat}{f:Fm}{z:Nat}(h:Qp l f z):f.small:=by
 rw[h.fe]
 exact XR h.n1 (by have:=h.n2;omega) (by omega) (by have:=h.zb;omega)
theorem Qp.len {l:List Nat}{f:Fm}{z:Nat}(h:Qp l f z):(T6 l f).length=f.size:=by
 rw[h.fe]
 exact YG h.n1 h.n2 h.nof h.last
theorem Qp.n {l:List Nat}{f:Fm}{z:Nat}(h:Qp l f z):f.n=l.length:=by rw[h.fe];rfl
theorem Qp.u {l:List Nat}{f:Fm}{z:Nat}(h:Qp l f z):f.u=z+1:=by rw[h.fe];rfl
theorem Qp.size_le {l:List Nat}{f:Fm}{z:Nat}(h:Qp l f z):f.size<=40000000/\12<=f.size:=by
 have h1:=h.small
 have h2:=Fm.Rx h1
 obtain⟨h3,h4,h5⟩:=h1
 unfold Fm.size Fm.PR
 have:12<=f.high:=by unfold Fm.high;omega
 omega
theorem piece {A B C:Bytes}{off n o:Nat}(h:off=A.length+o)(hn:o+n<=B.length):((A++B++C).drop off).take n=(B.drop o).take n:=by
 rw[h,List.append_assoc,List.drop_length_add_append,List.drop_append_of_le_length (by omega),List.take_append_of_le_length (by rw[List.length_drop];omega)]
def O8 (f:Fm):List Bool:=bitsN 32 f.n++bitsN 64 f.u
theorem WS (f:Fm):Lc (Lg (O8 f))=O8 f:=by
 obtain⟨z,h1,h2,h3⟩:=Np (O8 f)
 have hl:(O8 f).length=96:=by simp[O8]
 have hz:z=0:=by omega
 rw[h1,hz,List.replicate_zero,List.append_nil]
theorem Px (f:Fm):(Lg (O8 f)).length=12:=by
 rw[Lq];simp[O8]
theorem z99 (f:Fm)(hn:f.n<4294967296):valB (Lc ((Lg (O8 f)).take 4))=f.n:=by
 rw[PK,WS]
 unfold O8
 rw[List.take_left' (by simp),LJ]
 exact Nat.mod_eq_of_lt hn
theorem z9f (f:Fm)(hu:f.u<18446744073709551616):valB (Lc ((Lg (O8 f)).drop 4))=f.u:=by
 rw[Oy,WS]
 unfold O8
 rw[List.drop_left' (by simp),LJ]
 exact Nat.mod_eq_of_lt hu
theorem z5Z (l:List Nat)(f:Fm):((T6 l f).drop 0).take 12=Lg (O8 f):=by
 have h:=piece (A:=[]) (B:=Lg (O8 f)) (C:=Lg (NF f.width l)++(Lg (hiB f.width 0 0 l)++Lg (restB f.width l))) (off:=0) (n:=12) (o:=0) rfl (by rw[Px];omega)
 rw[List.nil_append] at h
 unfold T6
 rw[List.append_assoc,List.append_assoc]
 refine h.trans ?_
 rw[List.drop_zero,List.take_of_length_le (by rw[Px];omega)]
def elC (f:Fm)(t:TypeId)(u:Value):List Value:=[I (f.n:Int),L5 f.u,I (f.width:Int),I (f.bits:Int),.iface t u]
theorem z0s {t:TypeId}{u:Value}{l:List Nat}{f:Fm}{z:Nat}(he:Qp l f z)(R:Src t u (T6 l f)){X:Nat->Prop}{w:World}(hI:R.inv X w)(hX:∀k,X k->k<w.heap.size):
  Lk Tryz.prog 114 [.iface t u] w fun v w'=>∃x,v= .tuple #[ptr x 0,I 0]/\KY w' x (elC f t u) 271/\w.heap.size<=x/\R.inv (fun k=>X k\/k=x) w'/\Kp (fun k=>¬X k) w w':=by
 obtain⟨dC,cP⟩:=he.size_le
 have aD:=he.len
 have oH:=he.n
 have yP:=he.u
 have j5:=he.n2
 have cG:=he.n1
 have u5:=he.zb
 refine KJ (e:=[(0,_)]) Tryz.func114 rfl Tryz.ntmps114 rfl rfl (qN rfl (KO rfl (KO rfl (py (run_seq (KL (qN rfl (An rfl (qV (z8z Yw rfl rfl) (KO rfl (py (KH rfl (qN rfl ?_)))))))))))))
 refine An rfl (Mi rfl rfl (yci (args:=[]) R.cl R.ml rfl rfl) (R.len hI) ?_)
 rintro _ w1 ⟨rfl,ad⟩
 rw[aD]
 have lw:=R.ext hI ad (fun k hk=> .inl hk)
 have ky:∀k,X k->k<w1.heap.size:=fun k hk=>by have:=hX k hk;have:=ad.size;omega
 refine qV (LX rfl rfl) (Ly (KO rfl (py (KH rfl (It (KM (qN rfl (An rfl (Mi rfl rfl (yci (args:=[.const (Value.int .i64 0),.const (Value.int .i64 12)]) R.cr R.mr rfl rfl) (R.rd 0 12 lw ky (by rw[aD];omega)) ?_)))))))))
 rintro _ w2 ⟨rfl,cH,am⟩
 rw[z5Z]
 have dR:Kp (fun k=>¬X k) w w2:=ad.kp.trans am
 have fZ:∀k,X k->k<w2.heap.size:=fun k hk=>by have:=ky k hk;have:=am.size;omega
 have o7:=Px f
 have o5:((Lg (O8 f)).take 4).length<=8:=by rw[List.length_take];omega
 have ma:((Lg (O8 f)).drop 4).length<=8:=by rw[List.length_drop];omega
 have yT:=z99 f (by omega)
 have EV:=z9f f (by omega)
 generalize Lg (O8 f)=hb at o7 o5 ma yT EV
 have aa:=Ext.Lb w2
 refine An rfl (qV (Lu rfl rfl) (qV (Lu rfl rfl) (KO rfl (KO rfl (py (run_seq (qN rfl (An rfl (qV (M0 rfl rfl) (py (KH rfl (It (run_seq ?_)))))))))))))
 refine KV (fun w'=>Ext w2 w') (by kernel_rfl) rfl (KR 0 rfl (KW rfl) aa (KR 1 rfl (Zc U9 rfl rfl (by omega)) aa (KR 3 rfl (KW rfl) aa (KR 4 rfl (VJ U9 rfl rfl (by omega)) aa (O2 2 [.tmp 25] rfl z1Y rfl (RS (hb.take 4) o5 _) ?_)))))
 rintro _ w3 ⟨rfl,ah⟩
 refine⟨aa.trans ah,?_⟩
 refine O2 5 [.tmp 28] rfl z1Y rfl (RS (hb.drop 4) ma _) ?_
 rintro _ w4 ⟨rfl,aB⟩
 refine⟨(aa.trans ah).trans aB,?_⟩
 have dl:=(aa.trans ah).trans aB
 rw[yT,EV]
 have jK:=R.ext cH dl (fun k hk=> .inl hk)
 refine KR 6 rfl (MO rfl) ((aa.trans ah).trans aB) (KR 7 rfl (MO rfl) ((aa.trans ah).trans aB) (qE (Ll.qb (e:=[(0,_),(2,_),(3,_),(6,_),(7,_)]) ?_)))
 refine run_seq (qN rfl (An rfl (qV (LU rfl rfl) (Ly (An rfl (An rfl (qV (LU rfl rfl) (Ly (qV (Ls rfl rfl) (An rfl (An rfl (qV (Mr rfl rfl) (Ly ?_)))))))))))))
 refine An rfl (qV (Mr rfl rfl) (Ly (qV (z7T rfl rfl U4) (qV (Ls rfl rfl) (py (KH rfl (It (qN rfl (An rfl (qV (Lw rfl Mq U3 (by omega)) (An rfl ?_)))))))))))
 have HC:OW f.n f.u=f:=by rw[oH,yP];exact he.fe.symm
 have lP:=SE f.n f.u (by omega) (by omega) (by omega) (by omega) w4
 rw[HC] at lP
 refine La [.tmp 44,.tmp 45] z5z rfl (lP) ?_
 rintro _ w5 ⟨rfl,aR⟩
 refine KU rfl rfl (N3 (cs:=[_,_,_,_]) On rfl) ?_
 rintro _ w6 ⟨b8,rfl,j0,aG,bZ⟩
 refine L0 rfl (Lz (news:=fmC f) On rfl rfl rfl rfl bZ (by simp)) ?_
 rintro w7 ⟨pa,aA⟩
 replace pa:KY w7 b8 (fmC f) 210:=pa
 have oV:Ext w5 w7:=aG.KK aA (fun i e=>by omega)
 have vG:=aR.trans oV
 have j8:=R.ext jK vG (fun k hk=> .inl hk)
 refine py (run_seq (qN rfl (qV (Lj (news:=fmC f) Z3 rfl On rfl (pa.cells (n:=4) rfl) rfl) (La [.tmp 47] z8l rfl (WN f he.small _) ?_))))
 rintro _ w8 ⟨rfl,cI⟩
 have BH:=R.ext j8 cI (fun k hk=> .inl hk)
 refine An rfl (Mi rfl rfl (yci (args:=[]) R.cl R.ml rfl rfl) (R.len BH) ?_)
 rintro _ w9 ⟨rfl,eX⟩
 rw[aD]
 have j9:=R.ext BH eX (fun k hk=> .inl hk)
 have i5:=cI.trans eX
 have vH:=(dl.trans vG).trans i5
 refine qV (M0 rfl rfl) (Ly (py (Ll.qb (e:=[(0,_),(2,_),(3,_),(8,_),(51,_)]) ?_)))
 refine KH rfl (It (qN rfl (qV (Lj (news:=fmC f) Z3 rfl On rfl ((i5.KN pa).cells (n:=4) rfl) rfl) (An rfl (qV (NA (parts:=[(0,.tmp 52),(1,.tmp 53)]) (cs:=[_,_,_,_,_]) zai rfl zcR rfl rfl) (KU rfl rfl (MH rfl (cs:=elC f t u) rfl) ?_))))))
 rintro _ w10 ⟨x,rfl,hx,bz,dK⟩
 refine KO rfl (KO rfl (py (KP Tryz.func114 rfl ?_)))
 exact⟨_,rfl,x,rfl,dK,by have:=dR.size;have:=vH.size;omega,R.ext j9 bz (fun k hk=>hk.imp id fun e=>by omega),dR.trans (vH.trans bz).kp⟩
theorem z3v {t:TypeId}{u:Value}{f:Fm}{x:Nat}{w:World}(hB:KY w x (elC f t u) 271):Lk Tryz.prog 115 [ptr x 0] w fun v w'=>v=I (f.n:Int)/\w'=w:=by
 replace hB:KY w x [I (f.n:Int),L5 f.u,I (f.width:Int),I (f.bits:Int),.iface t u] 271:=hB
 refine KJ (e:=[(0,_)]) Tryz.func115 rfl Tryz.ntmps115 rfl rfl (qN rfl (KO rfl (py (run_seq (qN rfl (An rfl (qV (LQ SU rfl rfl) (py (KH rfl (It (qN rfl (An rfl (qV (L6 rfl) ?_)))))))))))))
 refine qV (KT NB rfl) (qV (KT SR rfl) (qV (KS U3 rfl rfl hB rfl) (KO rfl (py (KP Tryz.func115 rfl ?_)))))
 exact⟨_,rfl,rfl,rfl⟩
theorem z4U (k:Nat)(a b:List Nat):NF k (a++b)=NF k a++NF k b:=by simp[NF]
theorem z6A {k i v:Nat}{l:List Nat}(h:l[i]? =some v)(rest:List Bool):((NF k l++rest).drop (i*k)).take k=bitsN k (v%2^k):=by
 have hi:=(List.getElem?_eq_some_iff.1 h).1
 have e:l=l.take i++(v::l.drop (i+1)):=by
  conv=>lhs;rw[<-List.take_append_drop i l]
  congr 1
  rw[List.drop_eq_getElem_cons hi,(List.getElem?_eq_some_iff.1 h).2]
 have hl:(NF k (l.take i)).length=i*k:=by rw[Pr,List.length_take,Nat.min_eq_left (by omega)]
 rw[e,z4U,List.append_assoc,List.drop_left' hl]
 show((bitsN k (v%2^k)++NF k (l.drop (i+1)))++rest).take k=_
 rw[List.append_assoc,List.take_left' (by simp)]
theorem Wp {B:Bytes}{o n a m:Nat}(h:a+m<=8*n):((Lc ((B.drop o).take n)).drop a).take m=((Lc B).drop (8*o+a)).take m:=by
 rw[PK,Oy,List.drop_take,List.drop_drop,List.take_take,Nat.min_eq_left (by omega)]
theorem z6B (l:List Nat)(f:Fm){o n:Nat}(h:o+n<=(Lg (NF f.width l)).length):((T6 l f).drop (12+o)).take n=((Lg (NF f.width l)).drop o).take n:=by
 unfold T6
 rw[List.append_assoc (Lg (bitsN 32 f.n++bitsN 64 f.u)++Lg (NF f.width l))]
 exact piece (by rw[show Lg (bitsN 32 f.n++bitsN 64 f.u)=Lg (O8 f) from rfl,Px]) h
theorem z4a {t:TypeId}{u:Value}{l:List Nat}{f:Fm}{z:Nat}(he:Qp l f z)(R:Src t u (T6 l f)){X:Nat->Prop}{w:World}(hI:R.inv X w)(hX:∀k,X k->k<w.heap.size){x:Nat}(hx:X x)(hB:KY w x (elC f t u) 271){i v:Nat}(hv:l[i]? =some v):
  Lk Tryz.prog 206 [ptr x 0,I (i:Int)] w fun r w'=>r= .tuple #[L5 (v%2^f.width),I 0]/\R.inv X w'/\Kp (fun k=>¬X k) w w':=by
 have cO:=(List.getElem?_eq_some_iff.1 hv).1
 have aD:=he.len
 obtain⟨uw,vI⟩:=he.size_le
 have j5:=he.n2
 have tO:f.width<=30:=by rw[he.fe];exact TD (by have:=he.zb;omega)
 replace hB:KY w x [I (f.n:Int),L5 f.u,I (f.width:Int),I (f.bits:Int),.iface t u] 271:=hB
 refine KJ (e:=[(0,_),(1,_)]) Tryz.func206 rfl Tryz.ntmps206 rfl rfl (qN rfl (KO rfl (KO rfl (py (run_seq (qN rfl (An rfl (qV (L6 rfl) (qV (KT NB rfl) (qV (KT Oo rfl) (qV (KS U3 rfl rfl hB rfl) (qV (Mr rfl rfl) (py ?_)))))))))))))
 refine KZ rfl (fun h0=>?_) (fun h0=>?_)
 ·have mh:f.width=0:=by omega
  refine qN rfl (KO rfl (KO rfl (py (KP Tryz.func206 rfl (⟨_,rfl,?_,hI,Kp.refl _ _⟩)))));rw[mh,Nat.pow_zero,Nat.mod_one]
  rfl
 ·have Ex:1<=f.width:=by omega
  have HD:i*f.width<=64*30:=Nat.mul_le_mul (by omega) tO;have EW:(i+1)*f.width=i*f.width+f.width:=by rw[Nat.add_mul,Nat.one_mul]
  have eL:(i+1)*f.width<=l.length*f.width:=Nat.mul_le_mul_right _ cO;have e1:((i*f.width:Nat):Int)=(i:Int)*(f.width:Int):=Int.natCast_mul _ _;have e2:(((i+1)*f.width:Nat):Int)=((i:Int)+1)*(f.width:Int):=Int.natCast_mul _ _;have hg:=Ext.Lb w;refine It (run_seq (KV (fun w'=>Ext w w') (by kernel_rfl) rfl (KR 0 rfl (KW rfl) hg (KR 1 rfl (KW rfl) hg (KR 2 rfl (L6 rfl) hg (KR 3 rfl (KT NB rfl) hg (KR 4 rfl (KT Oo rfl) hg (qT 5 rfl (fun _ h=>KS U3 rfl rfl (h.KN hB) rfl) hg (KR 7 rfl (KW rfl) hg (KR 8 rfl (PM rfl rfl (by omega)) hg (KR 9 rfl (KW rfl) hg (KR 10 rfl (L6 rfl) hg (KR 11 rfl (KT NB rfl) hg ?_)))))))))))));refine KR 12 rfl (KT Oo rfl) hg (qT 13 rfl (fun _ h=>KS U3 rfl rfl (h.KN hB) rfl) hg (KR 6 rfl (Tu rfl rfl (by rw[<-e1];omega)) hg ?_));rw[<-e1];refine KR 15 rfl (MO rfl) hg (KR 14 rfl (Tu rfl rfl (by rw[<-e2];omega)) hg ?_);rw[<-e2,EW];refine KR 16 rfl (MO rfl) hg (qE (Ll.qb (e:=[(0,_),(4,_),(5,_),(6,_),(7,_)]) ?_));refine qN rfl (An rfl (qV (L6 rfl) (qV (KT XK rfl) (qV (KS Yw rfl rfl hB rfl) (An rfl (qV (RE rfl rfl (by omega)) (LH rfl rfl (An rfl (LH rfl rfl (qV (RE rfl rfl (by omega)) (An rfl (qV (RE rfl rfl (by omega)) (qV (Md rfl rfl (by omega)) ?_)))))))))))));have vJ:=hg.KN hB;have HE:=R.ext hI hg (fun k hk=> .inl hk);have HF:∀k,X k->k<w.drew.heap.size:=fun k hk=>by have:=hX k hk;have:=hg.size;omega
  have BI:(Lg (NF f.width l)).length=(l.length*f.width+7) / 8:=by rw[Lq,Pr]
  have BJ:=z6A (k:=f.width) hv;have oy:∀rest,((NF f.width l++rest).drop (i*f.width)).take f.width=bitsN f.width (v%2^f.width):=BJ;rw[EW] at eL
  generalize i*f.width=fr at HD eL oy e1
  rw[show(12:Int)+(fr:Int) / 8=((12+fr / 8:Nat):Int) by omega,show((fr+f.width:Nat):Int)+7=((fr+f.width+7:Nat):Int) by omega,show((fr+f.width+7:Nat):Int) / 8-(fr:Int) / 8=(((fr+f.width+7) / 8-fr / 8:Nat):Int) by omega];have sj:fr / 8+((fr+f.width+7) / 8-fr / 8)<=(Lg (NF f.width l)).length:=by rw[BI];omega
  have kE:=z6B l f sj
  have sk:12+fr / 8+((fr+f.width+7) / 8-fr / 8)<=(T6 l f).length:=by
   have e:(T6 l f).length=12+(Lg (NF f.width l)).length+(Lg (hiB f.width 0 0 l)).length+(Lg (restB f.width l)).length:=by
    unfold T6;rw[List.length_append,List.length_append,List.length_append,show Lg (bitsN 32 f.n++bitsN 64 f.u)=Lg (O8 f) from rfl,Px]
   omega
  refine Mi rfl rfl (yci (args:=[.tmp 41,.tmp 47]) R.cr R.mr rfl rfl) (R.rd (12+fr / 8) ((fr+f.width+7) / 8-fr / 8) HE HF sk) ?_;rintro _ w1 ⟨rfl,lw,aM⟩;rw[kE];have i6:Kp (fun k=>¬X k) w w1:=hg.kp.trans aM;have ai:=i6.KN hB (fun e=>e hx)
  have dT:(((Lg (NF f.width l)).drop (fr / 8)).take ((fr+f.width+7) / 8-fr / 8)).length=(fr+f.width+7) / 8-fr / 8:=by
   rw[List.length_take,List.length_drop];omega
  obtain⟨zz,m4,-,-⟩:=Np (NF f.width l);have bM:=Wp (B:=Lg (NF f.width l)) (o:=fr / 8) (n:=(fr+f.width+7) / 8-fr / 8) (a:=fr%8) (m:=f.width) (by omega);rw[show 8*(fr / 8)+fr%8=fr by omega,m4,oy] at bM
  generalize ((Lg (NF f.width l)).drop (fr / 8)).take ((fr+f.width+7) / 8-fr / 8)=pt at dT bM
  refine An rfl (qV (Lu rfl rfl) (qV (Lu rfl rfl) (KO rfl (KO rfl (py (run_seq (qN rfl (An rfl (qV (M0 rfl rfl) (py (Ll.qb (e:=[(0,_),(4,_),(5,_),(6,_),(8,_),(9,_),(52,_)]) ?_)))))))))));refine KH rfl (It (qN rfl (An rfl (La [.tmp 54] z2B rfl (RQ pt (by omega) w1) ?_))));rintro _ w2 ⟨r,rfl,dj,af,dz⟩;refine KO rfl (qM rfl (An rfl (An rfl (qV (S9 rfl rfl (by omega) (by omega)) ?_))));rw[show fr&&&7=fr%8 from Nat.and_two_pow_sub_one_eq_mod fr 3];refine La [.tmp 56,.tmp 58] z5w rfl (Ub dj (fr%8) (by omega)) ?_;rintro _ w3 ⟨rfl,o9,au⟩;have aX:Ext w1 w3:=af.KK au (fun i e=>by omega);have ao:=aX.KN ai;refine qM rfl (An rfl (An rfl (qV (L6 rfl) (qV (KT NB rfl) (qV (KT Oo rfl) (qV (KS U3 rfl rfl ao rfl) (La [.tmp 61,.tmp 66] YM rfl (Qh o9 f.width (by omega)) ?_)))))));rintro v4 w4 tF
  have iv:v4= .tuple #[L5 (v%2^f.width),I 0]/\Kp (fun k=>k=r) w3 w4:=by
   rcases tF with⟨-,e,-,hk⟩|⟨e,-,-⟩
   ·rw[bM,LJ,Nat.mod_mod] at e;exact⟨e,hk⟩
   ·omega
  obtain⟨rfl,aw⟩:=iv;have ek:Ext w1 w4:=aX.KK aw (fun i e=>by omega);refine An rfl (qV (Lu rfl rfl) (qV (Lu rfl rfl) (KO rfl (KO rfl (py (Ll.qb (e:=[(4,_),(5,_),(11,_)]) ?_))))));refine qN rfl (An rfl (KO rfl (KO rfl (py (KP Tryz.func206 rfl ?_)))));exact⟨_,rfl,rfl,R.ext lw ek (fun k hk=> .inl hk),i6.trans ek.kp⟩
theorem Wm (n:Nat):valB (List.replicate n false)=0:=by
 rw[<-QC,LJ];simp
theorem YQ (b:List Bool)(k:Nat):valB (b++List.replicate k false)=valB b*2^k:=by
 rw[N4,Wm,List.length_replicate,Nat.add_zero]
theorem WI (b:List Bool)(k:Nat):valB (List.replicate k false++b)=valB b:=by
 rw[N4,Wm];simp
theorem VQ {D:List Bool}{a b m:Nat}(ha:m<=D.length+a)(hb:m<=D.length+b):(D++List.replicate a false).take m=(D++List.replicate b false).take m:=by
 rw[List.take_append,List.take_append,List.take_replicate,List.take_replicate,Nat.min_eq_left (by omega),Nat.min_eq_left (by omega)]
def Yf (H:List Bool)(a:Nat):List Bool:=List.replicate (a%8) false++(H.drop a++List.replicate 64 false).take (64-a%8)
theorem z26 (H:List Bool)(a:Nat):(Yf H a).length=64:=by
 unfold Yf
 rw[List.length_append,List.length_replicate,List.length_take,List.length_append,List.length_replicate]
 omega
theorem z33 {H:List Bool}{fq n:Nat}(hf:8*fq<H.length)(hn:n=min 8 ((H.length+7) / 8-fq)):
  Lc (((Lg H).drop fq).take n)++List.replicate (64-8*n) false=(H.drop (8*fq)++List.replicate 64 false).take 64:=by
 obtain⟨z,h1,h2,h3⟩:=Np H
 rw[PK,Oy,h1,List.drop_append_of_le_length (by omega)]
 have hD:(H.drop (8*fq)).length=H.length-8*fq:=List.length_drop
 generalize H.drop (8*fq)=D at hD
 rcases Nat.lt_or_ge n 8 with h| h
 ·have e:8*n=D.length+z:=by omega
  rw[List.take_of_length_le (by rw[List.length_append,List.length_replicate];omega),List.append_assoc,List.replicate_append_replicate];rw[VQ (a:=64) (b:=z+(64-8*n)) (by omega) (by omega),List.take_of_length_le (by rw[List.length_append,List.length_replicate];omega)]
 ·have e:n=8:=by omega
  subst e;rw[show 64-8*8=0 from rfl,List.replicate_zero,List.append_nil];exact VQ (by omega) (by omega)
theorem z4h {W:List Bool}(hW:W.length=64){d:Nat}(hd:d<=64):valB W%2^(64-d)=valB (List.replicate d false++W.drop d):=by
 have h1:=N4 (W.take d) (W.drop d)
 rw[List.take_append_drop,List.length_drop,hW] at h1
 have h2:=Mv (W.drop d)
 rw[List.length_drop,hW] at h2
 rw[WI,h1,Nat.add_comm,Nat.add_mul_mod_self_right,Nat.mod_eq_of_lt h2]
theorem z3I {H:List Bool}{a:Nat}(ha:a<H.length):List.replicate (a%8) false++((H.drop (8*(a / 8))++List.replicate 64 false).take 64).drop (a%8)=Yf H a:=by
 unfold Yf
 congr 1
 have hd:a%8<=(H.drop (8*(a / 8))).length:=by rw[List.length_drop];omega
 rw[List.drop_take,List.drop_append_of_le_length hd,List.drop_drop,show 8*(a / 8)+a%8=a by omega]
theorem z5t {H:List Bool}{a r:Nat}(ha:a<H.length)(hr:a / 8*8+64=H.length+r):∃q,valB (Yf H a)=q*2^r:=by
 have hD:(H.drop a).length=H.length-a:=List.length_drop
 refine⟨valB (List.replicate (a%8) false++H.drop a),?_⟩
 rw[<-YQ]
 congr 1
 unfold Yf
 rw[List.append_assoc,VQ (a:=64) (b:=r) (by omega) (by omega),List.take_of_length_le (by rw[List.length_append,List.length_replicate];omega)]
theorem z3V {d:Nat}(hd:d<=64):18446744073709551615 / 2^d=2^(64-d)-1:=by
 have hp:0<2^d:=Nat.two_pow_pos d
 have h1:2^64=2^d*2^(64-d):=by rw[<-Nat.pow_add,show d+(64-d)=64 by omega]
 have h2:0<2^(64-d):=Nat.two_pow_pos _
 have h3:18446744073709551615=(2^d-1)+2^d*(2^(64-d)-1):=by
  rw[Nat.mul_sub,<-h1,Nat.mul_one];have h4:2^d<=2^64:=Nat.pow_le_pow_right (by decide) hd;omega
 rw[h3,Nat.add_mul_div_left _ _ hp,Nat.div_eq_of_lt (by omega),Nat.zero_add]
theorem z2t {b:List Bool}(h:b.length=64):valB b<18446744073709551616:=by
 have:=Mv b
 rw[h] at this
 exact this
theorem z9p (l:List Nat)(f:Fm)(hf:f.high=12+(Lg (NF f.width l)).length){o n:Nat}(h:o+n<=(Lg (hiB f.width 0 0 l)).length):((T6 l f).drop (f.high+o)).take n=((Lg (hiB f.width 0 0 l)).drop o).take n:=by
 unfold T6
 exact piece (by rw[List.length_append,show Lg (bitsN 32 f.n++bitsN 64 f.u)=Lg (O8 f) from rfl,Px,hf]) h
theorem Qp.high {l:List Nat}{f:Fm}{z:Nat}(he:Qp l f z):f.high=12+(Lg (NF f.width l)).length:=by
 unfold Fm.high
 rw[Lq,Pr,he.n]
theorem Qp.bits {l:List Nat}{f:Fm}{z:Nat}(he:Qp l f z):f.bits=(hiB f.width 0 0 l).length:=by
 rw[Wh f.width he.nof he.last]
 rw[he.fe]
 show(z+1-1) / _+_=_
 rw[Nat.add_sub_cancel]
 rfl
theorem z1h {t:TypeId}{u:Value}{l:List Nat}{f:Fm}{z:Nat}(he:Qp l f z)(R:Src t u (T6 l f)){X:Nat->Prop}{w:World}(hI:R.inv X w)(hX:∀k,X k->k<w.heap.size){x b3 b8 v0:Nat}(hx:X x)(h3:X b3)(h8:X b8)(qG:b8≠x/\b8≠b3)(hB:KY w x (elC f t u) 271)(ao:KY w b3 [ptr x 0] 131)(bZ:KY w b8 [L5 v0] 41){a:Nat}(ha:a<f.bits):
  Lk Tryz.prog 216 [I (a:Int),ptr b3 0,ptr b8 0] w fun r w'=>r=I 0/\R.inv X w'/\Kp (fun k=>¬X k\/k=b8) w w'/\KY w' b8 [L5 (valB (Yf (hiB f.width 0 0 l) a))] 41:=by
 have aD:=he.len
 obtain⟨uw,vI⟩:=he.size_le
 have sn:=he.small
 have o7:=Fm.Rx sn
 have eN:=sn.2.2
 have bM:=he.bits
 have vK:=he.high
 have dT:(Lg (hiB f.width 0 0 l)).length=(f.bits+7) / 8:=by rw[Lq,bM]
 replace hB:KY w x [I (f.n:Int),L5 f.u,I (f.width:Int),I (f.bits:Int),.iface t u] 271:=hB
 refine KJ (e:=[(0,_),(1,_),(2,_)]) Tryz.func216 rfl Tryz.ntmps216 rfl rfl (qN rfl (KO rfl (qM rfl (An rfl (qV (z8N rfl rfl (by omega)) (KO rfl (qM rfl (qV ((by first|exact KS SU rfl rfl hB rfl|exact KS SU rfl rfl ao rfl)) ?_))))))))
 refine qV (L6 rfl) (qV (KT NB rfl) (qV (KT SM rfl) (qV ((by first|exact KS U3 rfl rfl hB rfl|exact KS U3 rfl rfl ao rfl)) ?_)))
 refine LH rfl rfl (qV (RE rfl rfl (by omega)) (An rfl (qV (RE rfl rfl (by omega)) (qV (Md rfl rfl (by omega)) ?_))))
 rw[show((f.bits:Int)+7) / 8-((a / 8*8:Nat):Int) / 8=(((f.bits+7) / 8-a / 8:Nat):Int) by omega]
 refine qV (ymi rfl rfl) ?_
 rw[show min (8:Int) (((f.bits+7) / 8-a / 8:Nat):Int)=((min 8 ((f.bits+7) / 8-a / 8):Nat):Int) by omega]
 obtain⟨n,hn⟩:∃n,n=min 8 ((f.bits+7) / 8-a / 8):=⟨_,rfl⟩
 rw[<-hn]
 have hg:=Ext.Lb w
 refine KO rfl (py (run_seq (KV (fun w'=>Kp (fun k=>¬X k) w w') (by kernel_rfl) rfl (qT 0 rfl (fun _ hS=>(by first|exact KS SU rfl rfl (hS.KN hB (fun e=>e hx)) rfl|exact KS SU rfl rfl (hS.KN ao (fun e=>e h3)) rfl)) (hg.kp) ?_))))
 refine KR 1 rfl (L6 rfl) (hg.kp) (KR 2 rfl (KT XK rfl) (hg.kp) (qT 3 rfl (fun _ hS=>(by first|exact KS Yw rfl rfl (hS.KN hB (fun e=>e hx)) rfl|exact KS Yw rfl rfl (hS.KN ao (fun e=>e h3)) rfl)) (hg.kp) ?_))
 refine qT 4 rfl (fun _ hS=>(by first|exact KS SU rfl rfl (hS.KN hB (fun e=>e hx)) rfl|exact KS SU rfl rfl (hS.KN ao (fun e=>e h3)) rfl)) (hg.kp) ?_
 refine KR 5 rfl (L6 rfl) (hg.kp) (KR 6 rfl (KT NB rfl) (hg.kp) (KR 9 rfl (KW rfl) (hg.kp) (KR 10 rfl (RE rfl rfl (by omega)) (hg.kp) (KR 12 rfl (KW rfl) (hg.kp) (qT 7 rfl (fun _ hS=>Lj (news:=fmC f) Z3 rfl On rfl ((hS.KN hB (fun e=>e hx)).cells (n:=4) rfl) rfl) (hg.kp) (KR 13 rfl (zaN rfl) (hg.kp) (KR 14 rfl (KW rfl) (hg.kp) (O2 8 [.tmp 31] rfl z8C rfl (YH f sn _) ?_))))))))
 rintro _ w1 ⟨rfl,ad⟩
 refine⟨(hg.trans ad).kp,?_⟩
 have bQ:=hg.trans ad
 refine KR 11 rfl (PM rfl rfl (by omega)) ((hg.trans ad).kp) ?_
 rw[show(f.high:Int)+((a / 8*8:Nat):Int) / 8=((f.high+a / 8:Nat):Int) by omega]
 have lw:=R.ext hI bQ (fun k hk=> .inl hk)
 have ky:∀k,X k->k<w1.heap.size:=fun k hk=>by have:=hX k hk;have:=bQ.size;omega
 have sj:a / 8+n<=(Lg (hiB f.width 0 0 l)).length:=by rw[dT];omega
 have sk:f.high+a / 8+n<=(T6 l f).length:=by
  rw[aD];have e:f.size=f.PR+4*((f.n+63) / 64):=rfl;have e2:f.PR=f.high+(f.bits+7) / 8:=rfl;omega
 have kE:=z9p l f vK sj
 have mP:=z33 (H:=hiB f.width 0 0 l) (fq:=a / 8) (n:=n) (by omega) (by rw[<-bM];exact hn)
 refine qO 15 (Rj (i:=15) rfl rfl rfl (yci (args:=[.tmp 35,.tmp 36]) R.cr R.mr rfl rfl) (R.rd (f.high+a / 8) n lw ky sk) ?_)
 rintro _ w2 ⟨rfl,cH,am⟩
 refine⟨bQ.kp.trans am,?_⟩
 rw[kE]
 have dR:Kp (fun k=>¬X k) w w2:=bQ.kp.trans am
 have ak:=dR.KN hB (fun e=>e hx)
 have cV:=dR.KN ao (fun e=>e h3)
 have rR:=dR.KN bZ (fun e=>e h8)
 have BK:(((Lg (hiB f.width 0 0 l)).drop (a / 8)).take n).length=n:=by rw[List.length_take,List.length_drop];omega
 generalize ((Lg (hiB f.width 0 0 l)).drop (a / 8)).take n=pt at mP BK
 refine KR 16 rfl (KW rfl) (bQ.kp.trans am) (KR 17 rfl (Lu rfl rfl) (bQ.kp.trans am) (KR 18 rfl (Lu rfl rfl) (bQ.kp.trans am) (KR 19 rfl (MO rfl) (bQ.kp.trans am) (KR 20 rfl (MO rfl) (bQ.kp.trans am) (qE (Ll.qb (e:=[(0,_),(1,_),(2,_),(4,_),(5,_),(6,_),(7,_),(8,_)]) ?_))))))
 refine qN rfl (An rfl (La [.tmp 42] z1Y rfl (RS pt (by omega) w2) ?_))
 rintro _ w3 ⟨rfl,ah⟩
 refine An rfl (qV (Tu rfl rfl (by omega)) (qV (Md rfl rfl (by omega)) ?_))
 rw[show(64:Int)-8*(n:Int)=((64-8*n:Nat):Int) by omega]
 refine qV (MD (64-8*n) (2^(64-8*n)) rfl rfl (by omega) rfl) ?_
 have BL:=YQ (Lc pt) (64-8*n)
 rw[mP] at BL
 have HG:((hiB f.width 0 0 l).drop (8*(a / 8))++List.replicate 64 false).take 64=((hiB f.width 0 0 l).drop (8*(a / 8))++List.replicate 64 false).take 64:=rfl
 obtain⟨W0,vL⟩:∃W0,W0=((hiB f.width 0 0 l).drop (8*(a / 8))++List.replicate 64 false).take 64:=⟨_,rfl⟩
 have vM:W0.length=64:=by rw[vL,List.length_take,List.length_append,List.length_replicate];omega
 have EX:=z3I (H:=hiB f.width 0 0 l) (a:=a) (by omega)
 rw[<-vL] at BL EX
 have eL:=z4h vM (d:=a%8) (by omega)
 rw[EX] at eL
 have BM:=z2t vM
 rw[<-BL,Nat.mod_eq_of_lt BM]
 refine L0 rfl (Mt PQ rfl rfl rfl (ah.KN rR) (by simp)) ?_
 rintro w4 ⟨eh,aw⟩
 replace eh:KY w4 b8 [L5 (valB W0)] 41:=eh
 have aJ:=aw.KN (ah.KN ak) (fun e=>qG.1 e.symm)
 have cB:=aw.KN (ah.KN cV) (fun e=>qG.2 e.symm)
 have jK:=R.own (R.ext cH ah (fun k hk=> .inl hk)) aw (fun k e=>by rw[e];exact h8)
 have ae:=Ext.Lb w4
 refine py (run_seq (Le [6] (fun w'=>Ext w4 w') (by kernel_rfl) rfl (qL [5,6] 0 rfl (fun _ h=>KS Mq rfl rfl (h.KN eh) rfl) ae (qL [3,4,5,6] 1 rfl (fun _ h=>KW rfl) ae (qL [3,4,5,6] 2 rfl (fun _ h=>KW rfl) ae (qL [4,5,6] 3 rfl (fun _ h=>Md rfl rfl (by omega)) ae ?_))))))
 rw[show(a:Int)-((a / 8*8:Nat):Int)=((a%8:Nat):Int) by omega]
 refine qL [5,6] 4 rfl (fun _ h=>Ps (m:=18446744073709551615) (a%8) (2^(a%8)) rfl rfl (by show a%8<=64;omega) rfl) ae ?_
 rw[z3V (d:=a%8) (by omega)]
 have HH:2^(64-a%8)<=2^64:=Nat.pow_le_pow_right (by decide) (by omega)
 refine qL [6] 5 rfl (fun _ h=>PF rfl rfl (by omega) (by omega)) ae ?_
 rw[Nat.and_two_pow_sub_one_eq_mod,eL]
 refine LD [6] (by kernel_rfl) (by kernel_rfl) (qO 6 (Lv (i:=6) rfl rfl (Mt PQ rfl rfl rfl (ae.KN eh) (by simp)) ?_))
 rintro w5 ⟨bD,aj⟩
 refine⟨trivial,?_⟩
 replace bD:KY w5 b8 [L5 (valB (Yf (hiB f.width 0 0 l) a))] 41:=bD
 have aF:=aj.KN (ae.KN aJ) (fun e=>qG.1 e.symm)
 have bN:=aj.KN (ae.KN cB) (fun e=>qG.2 e.symm)
 have jw:=R.own (R.ext jK ae (fun k hk=> .inl hk)) aj (fun k e=>by rw[e];exact h8)
 have cu:Kp (fun k=>¬X k\/k=b8) w w5:=(((dR.L2 fun k e=> .inl e).trans ah.kp).trans (aw.L2 fun k e=> .inr e)).trans (ae.kp.trans (aj.L2 fun k e=> .inr e))
 have BN:=z2t (z26 (hiB f.width 0 0 l) a)
 refine qE (run_seq (qN rfl (An rfl (LH rfl rfl (qV ((by first|exact KS SU rfl rfl aF rfl|exact KS SU rfl rfl bN rfl)) ?_)))))
 refine qV (L6 rfl) (qV (KT NB rfl) (qV (KT SM rfl) (qV ((by first|exact KS U3 rfl rfl aF rfl|exact KS U3 rfl rfl bN rfl)) ?_)))
 refine qV (Md rfl rfl (by omega)) (KO rfl (py (Ll.qb (e:=[(2,_),(4,_),(8,_),(9,_)]) ?_)))
 refine qN rfl (An rfl (qV (LU rfl rfl) (py (KZ rfl (fun h0=>?_) (fun h0=>?_)))))
 ·obtain⟨r,hr⟩:∃r,a / 8*8+64=f.bits+r:=⟨a / 8*8+64-f.bits,by omega⟩;obtain⟨q,hq⟩:=z5t (H:=hiB f.width 0 0 l) (a:=a) (r:=r) (by omega) (by omega);rw[show((a / 8*8:Nat):Int)+64-(f.bits:Int)=(r:Int) by omega];have hp:=Nat.two_pow_pos r
  have vO:valB (Yf (hiB f.width 0 0 l) a) / 2^r*2^r%18446744073709551616=valB (Yf (hiB f.width 0 0 l) a):=by
   rw[Nat.mod_eq_of_lt (Nat.lt_of_le_of_lt (Nat.div_mul_le_self _ _) BN),hq,Nat.mul_div_cancel _ hp]
  refine KQ rfl (qV (KS Mq rfl rfl bD rfl) (An rfl (qV (Ps r (2^r) rfl rfl (by show r<=64;omega) rfl) ?_)));refine An rfl (qV (MD r (2^r) rfl rfl (by omega) rfl) ?_);rw[vO];refine L0 rfl (Mt PQ rfl rfl rfl bD (by simp)) ?_;rintro w6 ⟨jL,aT⟩;refine qM rfl (An rfl (KO rfl (py (KP Tryz.func216 rfl ?_))));exact⟨_,rfl,rfl,R.own jw aT (fun k e=>by rw[e];exact h8),cu.trans (aT.L2 fun k e=> .inr e),jL⟩
 ·refine It (qN rfl (An rfl (KO rfl (py (KP Tryz.func216 rfl ?_)))));exact⟨_,rfl,rfl,jw,cu,bD⟩
theorem ZU:∀{W:List Bool} {k p:Nat},nth1 W k=some p->∃z r,W=List.replicate z false++true::r
 |true::W,k,p,h=>⟨0,W,rfl⟩
 | false :: W, k, p, h => by
   simp only[nth1,Option.map_eq_some_iff] at h;obtain⟨q,hq,-⟩:=h;obtain⟨z,r,e⟩:=ZU hq
   exact⟨z+1,r,by rw[e,List.replicate_succ];rfl⟩
 |[],k,p,h=>by simp[nth1] at h
theorem z0C (z:Nat)(r:List Bool)(k:Nat):nth1 (List.replicate z false++true::r) (k+1)=nth1 (List.replicate (z+1) false++r) k:=by
 rw[PB,PB,nth1,Option.map_map]
 congr 1
 funext j;show j+1+z=j+(z+1);omega
theorem z3X (z:Nat)(r:List Bool):nth1 (List.replicate z false++true::r) 0=some z:=by
 rw[PB,nth1];simp
theorem z0f (z:Nat)(r:List Bool):LB (valB (List.replicate z false++true::r))=r.length+1:=by
 rw[Sx]
 have:=Mv r
 exact z22 (by omega) (by rw[Nat.pow_succ];omega)
theorem Xj (n:Nat):(List.replicate n false).count true=0:=by
 rw[List.count_replicate];rfl
theorem WT (H:List Bool)(a:Nat):(Yf H a).count true=((H.drop a).take (64-a%8)).count true:=by
 unfold Yf
 rw[List.count_append,Xj,Nat.zero_add,List.take_append,List.count_append,List.take_replicate,Xj];omega
theorem z74 {W:List Bool}(h:W.length=64):(bitsN 64 (valB W)).count true=W.count true:=by
 have:=VE W
 rw[h] at this
 rw[this]
theorem z7q {H:List Bool}{a k q:Nat}(h:nth1 (H.drop a) k=some q)(hk:k<(Yf H a).count true):nth1 (Yf H a) k=some (a%8+q):=by
 rw[WT] at hk
 have h1:=Ra ((H.drop a).take (64-a%8)) ((H.drop a).drop (64-a%8)) k
 rw[List.take_append_drop,if_pos hk,h] at h1
 unfold Yf
 rw[PB,List.take_append,Ra,if_pos hk,<-h1]
 show some (q+a%8)=_
 rw[Nat.add_comm]
theorem z3J {H:List Bool}{a k q:Nat}(h:nth1 (H.drop a) k=some q)(hk:(Yf H a).count true<=k):64-a%8<=q/\nth1 (H.drop (a / 8*8+64)) (k-(Yf H a).count true)=some (q-(64-a%8)):=by
 rw[WT] at hk⊢
 have h1:=Ra ((H.drop a).take (64-a%8)) ((H.drop a).drop (64-a%8)) k
 rw[List.take_append_drop,if_neg (by omega),h] at h1
 obtain⟨p,hp,HI⟩:=Option.map_eq_some_iff.1 h1.symm
 have h2:=(UR hp).1
 rw[List.length_drop] at h2
 rw[List.length_take,Nat.min_eq_left (by omega)] at HI
 rw[List.drop_drop,show a+(64-a%8)=a / 8*8+64 by omega] at hp
 exact⟨by omega,by rw[hp];congr 1;omega⟩
theorem z2X {t:TypeId}{u:Value}{l:List Nat}{f:Fm}{z:Nat}(he:Qp l f z)(R:Src t u (T6 l f)){X:Nat->Prop}{w:World}(hI:R.inv X w)(hX:∀k,X k->k<w.heap.size){x:Nat}(hx:X x)(hB:KY w x (elC f t u) 271){p k q:Nat}(aM:k<=1000000)(hq:nth1 ((hiB f.width 0 0 l).drop p) k=some q):
  Lk Tryz.prog 205 [ptr x 0,I (p:Int),I (k:Int)] w fun r w'=>r= .tuple #[I ((p+q:Nat):Int),I 0]/\R.inv X w'/\Kp (fun j=>¬X j) w w':=by
 have bM:=he.bits
 have eN:=he.small.2.2
 have eZ:=hX x hx
 refine KJ (e:=[(0,_),(1,_),(2,_)]) Tryz.func205 rfl Tryz.ntmps205 rfl rfl (qN rfl (KU rfl rfl (MH rfl (cs:=[ptr x 0]) rfl) ?_))
 rintro _ w1 ⟨b3,rfl,dZ,ad,ao⟩
 refine KO rfl (KO rfl (qM rfl (KU rfl rfl (N3 (cs:=[_]) PQ rfl) ?_)))
 rintro _ w2 ⟨b8,rfl,j0,af,bZ⟩
 have z1:=ad.size
 have z2:=af.size
 have l3:=ao.lt
 have l8:=bZ.lt
 have aC:=ad.trans af
 have cH:R.inv (fun j=>X j\/j=b3\/j=b8) w2:=R.ext hI aC (fun j hj=>by rcases hj with e|e|e;exact .inl e;exact .inr (by omega);exact .inr (by omega))
 replace bZ:KY w2 b8 [L5 0] 41:=bZ
 refine qM rfl (qV (Zj (first:=[]) (caps:=[.tmp 3,.tmp 8]) rfl rfl) (KO rfl (py (run_seq (qN rfl (An rfl (KO rfl (py (KL (MV (α:=Nat×Nat×Nat×Nat) ((p,k,q,0)) (fun y=>[(2,I (y.2.1:Int)),(3,ptr b3 0),(8,ptr b8 0),(9,.func (.func 216) #[] #[ptr b3 0,ptr b8 0]),(10,I (y.1:Int))]) (fun y w'=>R.inv (fun j=>X j\/j=b3\/j=b8) w'/\Kp (fun j=>¬X j) w w'/\w2.heap.size<=w'.heap.size/\KY w' x (elC f t u) 271/\KY w' b3 [ptr x 0] 131/\KY w' b8 [L5 y.2.2.2] 41/\nth1 ((hiB f.width 0 0 l).drop y.1) y.2.1=some y.2.2.1/\y.1+y.2.2.1=p+q/\y.2.1<=1000000) (fun y=>f.bits-y.1) ?hI ?hround))))))))))
 case hI=>exact⟨cH,aC.kp,Nat.le_refl _,aC.KN hB,af.KN ao,bZ,hq,rfl,aM⟩
 case hround =>
  rintro⟨a,k4,q4,v4⟩ w4 ⟨jK,aw,yU,aJ,cB,eh,ck,B5,vP⟩ ih;dsimp only at jK aw yU aJ cB eh ck B5 vP;have vQ:=(UR ck).1;rw[List.length_drop] at vQ;have yV:a<f.bits:=by omega
  have BO:∀j,(X j\/j=b3\/j=b8)->j<w4.heap.size:=fun j hj=>by
   rcases hj with e|e| e
   ·have:=hX j e;omega
   ·omega
   ·omega
  have en:KY w4 x [I (f.n:Int),L5 f.u,I (f.width:Int),I (f.bits:Int),.iface t u] 271:=aJ
  try dsimp only
  refine run_seq (qN rfl (An rfl (qV ((by first|exact KS SU rfl rfl cB rfl|exact KS SU rfl rfl en rfl)) ?_)));refine qV (L6 rfl) (qV (KT NB rfl) (qV (KT SM rfl) (qV ((by first|exact KS U3 rfl rfl cB rfl|exact KS U3 rfl rfl en rfl)) ?_)));refine qV (LX rfl rfl) (py (KZ rfl (fun h0=>?_) (fun h0=>?_)))
  ·refine It (run_seq (KL (run_seq (qN rfl (An rfl (An rfl (Mi rfl rfl (Nk (args:=[.tmp 26]) zbJ rfl rfl) (z1h he R jK BO (.inl hx) (.inr (.inl rfl)) (.inr (.inr rfl)) ⟨by omega,by omega⟩ aJ cB eh yV) ?_)))))));rintro _ w5 ⟨rfl,jw,aj,bD⟩;have z5:=aj.size;have cu:Kp (fun j=>¬X j) w w5:=aw.KK aj (fun j hj=>by rcases hj with e|e;exact .inr (fun h=>e (.inl h));exact .inl (by omega));have aF:=aj.KN aJ (fun e=>by rcases e with e|e;exact e (.inl hx);omega);have bN:=aj.KN cB (fun e=>by rcases e with e|e;exact e (.inr (.inl rfl));omega);have vR:=z26 (hiB f.width 0 0 l) a;have vS:=z2t vR;have yW:=z74 vR;have oa:=fun h=>z7q (H:=hiB f.width 0 0 l) ck h;have EY:=fun h=>z3J (H:=hiB f.width 0 0 l) ck h
   generalize Yf (hiB f.width 0 0 l) a=W at vR vS yW oa EY bD
   have ew:W.count true<=64:=by rw[<-vR];exact List.count_le_length
   refine KO rfl (qM rfl (An rfl (qV (M0 rfl rfl) (py (KH rfl (It (run_seq (qN rfl (qV (KS Mq rfl rfl bD rfl) (La [.tmp 31] z9Q rfl (z5o (valB W) vS w5) ?_))))))))));rintro _ w5 ⟨rfl,rfl⟩;rw[yW];refine KO rfl (qM rfl (An rfl (An rfl (qV (Qv rfl rfl) (py (KZ rfl (fun h1=>?_) (fun h1=>?_)))))))
   ·obtain⟨dC,cP⟩:=EY (by omega);refine qN rfl (An rfl (An rfl (qV (Md rfl rfl (by omega)) (KO rfl (py (KX rfl (KQ rfl (An rfl ?_))))))));rw[show(k4:Int)-((W.count true:Nat):Int)=((k4-W.count true:Nat):Int) by omega];refine qV (z8N rfl rfl (by omega)) (LH rfl rfl (KO rfl (py ?_)));rw[show((a / 8*8:Nat):Int)+64=((a / 8*8+64:Nat):Int) by omega];exact(ih (a / 8*8+64,k4-W.count true,q4-(64-a%8),valB W) _ ⟨jw,cu,by omega,aF,bN,bD,cP,by dsimp only;omega,by dsimp only;omega⟩ (by dsimp only;omega)).qb
   ·have yG:=oa (by omega);refine It (run_seq (KL (MV (α:=List Bool×Nat) ((W,k4)) (fun y=>[(2,I (y.2:Int)),(8,ptr b8 0),(10,I (a:Int))]) (fun y w'=>R.inv (fun j=>X j\/j=b3\/j=b8) w'/\Kp (fun j=>¬X j) w w'/\KY w' b8 [L5 (valB y.1)] 41/\y.1.length=64/\nth1 y.1 y.2=some (a%8+q4)/\y.2<=1000000) (fun y=>y.2) ?hI ?hround)))
    case hI=>exact⟨jw,cu,bD,vR,yG,vP⟩
    case hround=>
     rintro⟨W6,k6⟩ w6 ⟨oA,aT,jL,kG,tP,BP⟩ ih2;dsimp only at oA aT jL kG tP BP;obtain⟨zz,r,rfl⟩:=ZU tP;have EZ:=z0f zz r;have HJ:=Sx zz r;have sq:=Mv r;have vT:=z2t kG;rw[List.length_append,List.length_replicate,List.length_cons] at kG
     try dsimp only
     refine run_seq (qN rfl (An rfl (qV (LU rfl rfl) (py (KZ rfl (fun h2=>?_) (fun h2=>?_))))))
     ·obtain⟨k7,rfl⟩:∃k7,k6=k7+1:=⟨k6-1,by omega⟩;rw[z0C] at tP;have df:=Ext.Lb w6;refine It (run_seq (KL (Le [6] (fun w'=>Ext w6 w') (by kernel_rfl) rfl (qL [5,6] 0 rfl (fun _ h=>KS Mq rfl rfl (h.KN jL) rfl) df (qL [2,3,4,5,6] 1 rfl (fun _ h=>KS Mq rfl rfl (h.KN jL) rfl) df (MB (i:=2) (by kernel_rfl) (N6 (i:=2) rfl rfl rfl (yc (args:=[.tmp 44]) z8g rfl) (z4F _ vT _) ?_)))))));rintro _ w7 ⟨rfl,rfl⟩;refine⟨df,?_⟩;rw[EZ];refine qL [4,5,6] 3 rfl (fun _ h=>Md rfl rfl (by omega)) df ?_;rw[show(63:Int)-((64-(r.length+1):Nat):Int)=(r.length:Int) by omega];refine qL [5,6] 4 rfl (fun _ h=>MD r.length (2^r.length) rfl rfl (by omega) rfl) df ?_;have dT:2^r.length<=2^63:=Nat.pow_le_pow_right (by decide) (by omega);rw[show 1*2^r.length%18446744073709551616=2^r.length by rw[Nat.one_mul];exact Nat.mod_eq_of_lt (by omega)];rw[HJ];refine qL [6] 5 rfl (fun _ h=>zd4 (by omega) sq rfl rfl rfl) df (LD [6] (by kernel_rfl) (by kernel_rfl) (qO 6 (Lv (i:=6) rfl rfl (Mt PQ rfl rfl rfl (df.KN jL) (by simp)) ?_)));rintro w8 ⟨sr,bh⟩;refine⟨trivial,?_⟩;replace sr:KY w8 b8 [L5 (valB r)] 41:=sr;refine qE (KM (KQ rfl (An rfl (qV (Md rfl rfl (by omega)) (KO rfl (py ?_))))));rw[show((k7+1:Nat):Int)-1=(k7:Int) by omega];refine(ih2 (List.replicate (zz+1) false++r,k7) _ ⟨R.own (R.ext oA df (fun j hj=> .inl hj)) bh (fun j e=> .inr (.inr e)),(aT.trans df.kp).KK bh (fun j e=> .inl (by omega)),?_,?_,tP,by dsimp only;omega⟩ (by dsimp only;omega)).qb
      ·dsimp only;rw[WI];exact sr
      ·dsimp only;rw[List.length_append,List.length_replicate];omega
     ·have BQ:k6=0:=by omega
      subst BQ;rw[z3X] at tP;have Ka:zz=a%8+q4:=ML tP;refine KX rfl (qN rfl (An rfl (qV (z8N rfl rfl (by omega)) (qV (KS Mq rfl rfl jL rfl) (La [.tmp 51] z8g rfl (z4F _ vT _) ?_)))));rintro _ w7 ⟨rfl,rfl⟩;rw[EZ];refine LH rfl rfl ?_;rw[show((a / 8*8:Nat):Int)+((64-(r.length+1):Nat):Int)=((p+q:Nat):Int) by omega];refine KO rfl (KO rfl (py (KP Tryz.func205 rfl ?_)));exact⟨_,rfl,rfl,R.ext oA (Ext.refl _) (fun j hj=> .inl (.inl hj)),aT⟩
  ·omega
theorem z5m (l:List Nat)(f:Fm)(hf:f.PR=12+(Lg (NF f.width l)).length+(Lg (hiB f.width 0 0 l)).length)(h4:(Lg (restB f.width l)).length=4):((T6 l f).drop f.PR).take 4=Lg (restB f.width l):=by
 have h:=piece (A:=Lg (bitsN 32 f.n++bitsN 64 f.u)++Lg (NF f.width l)++Lg (hiB f.width 0 0 l)) (B:=Lg (restB f.width l)) (C:=[]) (off:=f.PR) (n:=4) (o:=0) (by rw[List.length_append,List.length_append,show Lg (bitsN 32 f.n++bitsN 64 f.u)=Lg (O8 f) from rfl,Px,hf];omega) (by omega)
 have h2:((Lg (restB f.width l)).drop 0).take 4=Lg (restB f.width l):=by rw[List.drop_zero];exact List.take_of_length_le (by omega)
 rw[List.append_nil] at h
 exact h.trans h2
theorem z5c {k:Nat}{l:List Nat}{y:Nat}(h:l[0]? =some y)(hy:y<4294967296):valB (Lc (Lg (restB k l)))=y / 2^k/\(Lg (restB k l)).length=4:=by
 obtain⟨r,rfl⟩:∃r,l=y::r:=by
  cases l with
  |nil=>simp at h
  |cons a r=>simp at h;subst h;exact⟨r,rfl⟩
 have hr:restB k (y::r)=bitsN 32 (y / 2^k):=rfl
 obtain⟨z,h1,h2,h3⟩:=Np (bitsN 32 (y / 2^k))
 rw[bitsN_length] at h2
 have hz:z=0:=by omega
 rw[hr,h1,hz,List.replicate_zero,List.append_nil,LJ,Lq,bitsN_length]
 have:=Nat.div_le_self y (2^k)
 exact⟨Nat.mod_eq_of_lt (by omega),rfl⟩
theorem Xd {t:TypeId}{u:Value}{l:List Nat}{f:Fm}{z:Nat}(he:Qp l f z)(R:Src t u (T6 l f)){X:Nat->Prop}{w:World}(hI:R.inv X w)(hX:∀k,X k->k<w.heap.size){x:Nat}(hx:X x)(hB:KY w x (elC f t u) 271){i v:Nat}(hv:l[i]? =some v):
  Lk Tryz.prog 189 [ptr x 0,I (i:Int)] w fun r w'=>r= .tuple #[L5 v,I 0]/\R.inv X w'/\Kp (fun j=>¬X j) w w':=by
 have cO:=(List.getElem?_eq_some_iff.1 hv).1
 have aD:=he.len
 have j5:=he.n2
 have oH:=he.n
 have u5:=he.zb
 have tO:f.width<=30:=by rw[he.fe];exact TD (by omega)
 have sn:=he.small
 have qj:∀j y k y2,l[j]? =some y->l[k]? =some y2->j<=k->y<=y2:=fun j y k y2 hj hk vU=>by
  obtain⟨a1,a2⟩:=List.getElem?_eq_some_iff.1 hj;obtain⟨b1,b2⟩:=List.getElem?_eq_some_iff.1 hk;rcases Nat.lt_or_ge j k with h| h
  ·have:=List.pairwise_iff_getElem.1 he.nof j k a1 b1 h
   rwa [a2,b2] at this
  ·have e:j=k:=Nat.le_antisymm vU h;subst e;rw[hj] at hk;cases hk;exact Nat.le_refl _
 have EM:v<=z:=qj i v _ z hv he.last (by omega)
 obtain⟨y0,BR⟩:∃y,l[0]? =some y:=⟨_,List.getElem?_eq_getElem (by omega)⟩
 have BS:y0<=v:=qj 0 y0 i v BR hv (Nat.zero_le _)
 obtain⟨HK,gC⟩:=z5c (k:=f.width) BR (by omega)
 have HM:=z5m l f (by
  have e:f.PR=f.high+(f.bits+7) / 8:=rfl
  rw[e,he.high,Lq (hiB f.width 0 0 l),he.bits]) gC
 have cG:=VP f.width l 0 0 0 y0 he.nof BR (fun y _=>Nat.zero_le _)
 have tQ:=VP f.width l 0 0 i v he.nof hv (fun y _=>Nat.zero_le _)
 simp only[Nat.add_zero,Nat.sub_zero] at cG tQ
 have fh:=TR (hiB f.width 0 0 l) 0 (y0 / 2^f.width) i cG
 rw[Nat.zero_add,tQ] at fh
 have F0:y0 / 2^f.width<=v / 2^f.width:=Nat.div_le_div_right BS
 have qk:f.PR+4<=(T6 l f).length:=by
  rw[aD];have e:f.size=f.PR+4*((f.n+63) / 64):=rfl;rw[e,oH];omega
 have gm:f.PR<=40000000:=by have:=he.size_le.1;rw[aD] at qk;omega
 replace hB:KY w x [I (f.n:Int),L5 f.u,I (f.width:Int),I (f.bits:Int),.iface t u] 271:=hB
 refine KJ (e:=[(0,_),(1,_)]) Tryz.func189 rfl Tryz.ntmps189 rfl rfl (qN rfl (KO rfl (KO rfl (py (run_seq (KL (qN rfl (An rfl (qV (LQ SU rfl rfl) (KO rfl (py (KH rfl (qN rfl ?_)))))))))))))
 refine An rfl (qV (LX rfl rfl) (Ly (An rfl (An rfl (An rfl (qV (L6 rfl) (qV (KT NB rfl) (qV (KT SR rfl) (qV (KS U3 rfl rfl hB rfl) (qV (Ou rfl rfl) (Ly (qV (Ls rfl rfl) (KO rfl ?_)))))))))))))
 refine py (KH rfl (It (KM (run_seq ?_))))
 have hg:=Ext.Lb w
 refine KV (fun w'=>Kp (fun k=>¬X k) w w') (by kernel_rfl) rfl (KR 0 rfl (KW rfl) (hg.kp) (KR 1 rfl (L6 rfl) (hg.kp) (KR 2 rfl (KT XK rfl) (hg.kp) (qT 3 rfl (fun _ h=>KS Yw rfl rfl (h.KN hB (fun e=>e hx)) rfl) (hg.kp) (KR 4 rfl (KW rfl) (hg.kp) (KR 5 rfl (L6 rfl) (hg.kp) (KR 6 rfl (KT NB rfl) (hg.kp) (KR 9 rfl (KW rfl) (hg.kp) (KR 10 rfl (RE rfl rfl (by omega)) (hg.kp) (KR 11 rfl (Tu rfl rfl (by omega)) (hg.kp) (qT 7 rfl (fun _ hS=>Lj (news:=fmC f) Z3 rfl On rfl ((hS.KN hB (fun e=>e hx)).cells (n:=4) rfl) rfl) (hg.kp) (KR 13 rfl (zaN rfl) (hg.kp) (KR 14 rfl (KW rfl) (hg.kp) ?_)))))))))))))
 refine O2 8 [.tmp 34] rfl z8r rfl (Z0 f sn _) ?_
 rintro _ w1 ⟨rfl,ad⟩
 refine⟨(hg.trans ad).kp,?_⟩
 have bQ:=hg.trans ad
 have lw:=R.ext hI bQ (fun k hk=> .inl hk)
 have ky:∀k,X k->k<w1.heap.size:=fun k hk=>by have:=hX k hk;have:=bQ.size;omega
 refine KR 12 rfl (PM rfl rfl (by omega)) ((hg.trans ad).kp) ?_
 rw[show(f.PR:Int)+4*((i:Int) / 64)=((f.PR:Nat):Int) by omega]
 refine qO 15 (Rj (i:=15) rfl rfl rfl (yci (args:=[.tmp 39,.const (Value.int .i64 4)]) R.cr R.mr rfl rfl) (R.rd f.PR 4 lw ky qk) ?_)
 rintro _ w2 ⟨rfl,cH,am⟩
 refine⟨bQ.kp.trans am,?_⟩
 rw[HM]
 have dR:Kp (fun k=>¬X k) w w2:=bQ.kp.trans am
 refine KR 16 rfl (KW rfl) (bQ.kp.trans am) (KR 17 rfl (Lu rfl rfl) (bQ.kp.trans am) (KR 18 rfl (Lu rfl rfl) (bQ.kp.trans am) (KR 19 rfl (MO rfl) (bQ.kp.trans am) (KR 20 rfl (MO rfl) (bQ.kp.trans am) (qE (Ll.qb (e:=[(0,_),(1,_),(4,_),(5,_),(6,_),(7,_)]) ?_))))))
 refine run_seq (qN rfl (An rfl (qV (M0 rfl rfl) (py (KH rfl (It (qN rfl (An rfl (An rfl (La [.tmp 50] z1Y rfl (RS (Lg (restB f.width l)) (by omega) w2) ?_))))))))))
 rintro _ w3 ⟨rfl,ah⟩
 rw[HK]
 have cm:Kp (fun k=>¬X k) w w3:=dR.trans ah.kp
 have BT:=R.ext cH ah (fun k hk=> .inl hk)
 have o4:∀k,X k->k<w3.heap.size:=fun k hk=>by have:=hX k hk;have:=cm.size;omega
 have ao:=cm.KN hB (fun e=>e hx)
 have HN:y0 / 2^f.width<=y0:=Nat.div_le_self _ _
 have HO:v / 2^f.width<=v:=Nat.div_le_self _ _
 have nM:v / 2^f.width*2^f.width%18446744073709551616 |||v%2^f.width=v:=by
  have h1:=Nat.div_mul_le_self v (2^f.width);rw[Nat.mod_eq_of_lt (by omega),Nat.mul_comm,<-Nat.two_pow_add_eq_or_of_lt (Nat.mod_lt _ (Nat.two_pow_pos _))];exact Nat.div_add_mod v (2^f.width)
 have gL:v%2^f.width<=v:=Nat.mod_le _ _
 generalize HP:v / 2^f.width=vq at fh F0 HO nM
 generalize y0 / 2^f.width=yq at fh F0 HN
 refine qV (Lw rfl Mq U3 (by omega)) (An rfl (qV (yre rfl rfl (by omega)) ?_))
 rw[show(i:Int)%64=(i:Int) by omega]
 refine La [.tmp 49,.tmp 52,.tmp 54] zan rfl (z2X he R BT o4 hx ao (k:=i) (by omega) fh) ?_
 rintro _ w4 ⟨rfl,jK,aw⟩
 rw[show yq+(vq+i-yq)=vq+i by omega]
 have jM:=cm.trans aw
 have BO:∀k,X k->k<w4.heap.size:=fun k hk=>by have:=hX k hk;have:=jM.size;omega
 have aJ:=jM.KN hB (fun e=>e hx)
 refine An rfl (qV (Lu rfl rfl) (qV (Lu rfl rfl) (KO rfl (KO rfl (py (run_seq (qN rfl (An rfl (qV (M0 rfl rfl) (py (KH rfl (It (qN rfl ?_)))))))))))))
 refine An rfl (An rfl (La [.tmp 62,.tmp 63] zbO rfl (z4a he R jK BO hx aJ hv) ?_))
 rintro _ w5 ⟨rfl,jw,aj⟩
 have cu:=jM.trans aj
 have aF:=cu.KN hB (fun e=>e hx)
 have yP:=he.u
 refine An rfl (qV (Lu rfl rfl) (qV (Lu rfl rfl) (KO rfl (KO rfl (py (Ll.qb (e:=[(0,_),(1,_),(4,_),(5,_),(7,_),(8,_),(9,_)]) ?_))))))
 refine run_seq (qN rfl (An rfl (qV (M0 rfl rfl) (py (KH rfl (It (qN rfl (An rfl (An rfl (qV (Md rfl rfl (by omega)) ?_))))))))))
 rw[show((vq+i:Nat):Int)-(i:Int)=(vq:Int) by omega]
 refine qV ((by first|exact LF rfl U3 Mq (by omega)|exact N0 rfl U3 Mq)) ?_
 refine An rfl (qV (L6 rfl) (qV (KT NB rfl) (qV (KT Oo rfl) (qV (KS U3 rfl rfl aF rfl) (qV (MD f.width (2^f.width) rfl rfl (by omega) rfl) (An rfl ?_))))))
 have yX:=Nat.mod_lt (vq*2^f.width) (show 0<18446744073709551616 by decide)
 refine qV (Vn rfl rfl (by omega) (by omega)) ?_
 rw[nM]
 refine KO rfl (py (run_seq (qN rfl (An rfl (An rfl (qV (LX rfl rfl) (Ly (An rfl (An rfl (An rfl (qV (L6 rfl) (qV (KT NB rfl) (qV (KT z6O rfl) ?_)))))))))))))
 refine qV (KS Mq rfl rfl aF rfl) (qV (Ou rfl rfl) (Ly (qV (Ls rfl rfl) (py (Ll.qb (e:=[(4,_),(5,_),(10,_),(93,_)]) ?_)))))
 refine KH rfl (It (qN rfl (An rfl (KO rfl (KO rfl (py (KP Tryz.func189 rfl ?_)))))))
 exact⟨_,rfl,rfl,jw,cu⟩
theorem z6g (a b:Bytes)(w:World)(hl:(a++b).length<=100000000000):Lk Tryz.prog 121 [S (a++b),S a] w fun u w'=>u= .bool true/\w'=w:=by
 rw[List.length_append] at hl
 have iZ:(a++b).length=a.length+b.length:=List.length_append
 have ht:(a++b).take a.length=a:=List.take_left
 refine KJ (e:=[(0,_),(1,_)]) Tryz.func121 rfl Tryz.ntmps121 rfl rfl (qN rfl (KO rfl (qM rfl (An rfl (qV (R1 U9 rfl) (An rfl (qV (R1 U9 rfl) (qV (Ou rfl rfl) (MR (An rfl (An rfl (An rfl (qV (R1 U9 rfl) ?_)))))))))))))
 refine qV (Zc U9 rfl rfl (by omega)) (An rfl ?_)
 rw[ht]
 refine qV (zdw rfl rfl) (MR (qV (LR rfl rfl) (KO rfl (py (KP Tryz.func121 rfl ?_)))))
 exact⟨_,rfl,rfl,rfl⟩
theorem z5U (a b:Bytes)(w:World)(hl:(a++b).length<=100000000000):Lk Tryz.prog 178 [S (a++b),S a] w fun u w'=>u= .tuple #[S b,.bool true]/\w'=w:=by
 have iZ:(a++b).length=a.length+b.length:=List.length_append
 have hd:(a++b).drop a.length=b:=List.drop_left
 refine KJ (e:=[(0,_),(1,_)]) Tryz.func178 rfl Tryz.ntmps178 rfl rfl (qN rfl (KO rfl (KO rfl (py (run_seq (qN rfl (An rfl (An rfl (La [.tmp 6,.tmp 7] zcS rfl (z6g a b w hl) ?_)))))))))
 rintro _ w ⟨rfl,rfl⟩
 refine qV ((by first|exact LN rfl|exact Na rfl)) ?_
 refine py (KH rfl (It (qN rfl (An rfl (An rfl (qV (R1 U9 rfl) (qV (VJ U9 rfl rfl (by omega)) ?_)))))))
 rw[hd]
 refine KO rfl (KO rfl (py (KP Tryz.func178 rfl ?_)))
 exact⟨_,rfl,rfl,rfl⟩
theorem z1n (a b:Bytes)(w:World)(hl:(a++b).length<=100000000000):Lk Tryz.prog 144 [S (a++b),S a] w fun u w'=>u= .tuple #[S b,.bool true]/\w'=w:=by
 refine KJ (e:=[(0,_),(1,_)]) Tryz.func144 rfl Tryz.ntmps144 rfl rfl (qN rfl (KO rfl (KO rfl (qM rfl (An rfl (An rfl (La [.tmp 6,.tmp 7] za5 rfl (z5U a b w hl) ?_)))))))
 rintro _ w ⟨rfl,rfl⟩
 refine qV (Lu rfl rfl) (qV (Lu rfl rfl) (KO rfl (KO rfl (py (KP Tryz.func144 rfl ?_)))))
 exact⟨_,rfl,rfl,rfl⟩
theorem O3 {w:World}{r a b6 b7:Nat}{s:Bytes}(h:OQ w r s a)(aN:KY w b6 [ptr r 0] 240)(bE:KY w b7 [.bool false] 4)(h6:b6≠r/\b7≠r/\b6≠b7)(n v:Nat)(hn:n<=64)(hv:v<2^n)(ke:v<=134217728)(rest:List Bool)(hb:(Lc s).drop a=bitsN n v++rest):
  Lk Tryz.prog 146 [I (n:Int),ptr b6 0,ptr b7 0] w fun u w'=>u=I (v:Int)/\OQ w' r s (a+n)/\KY w' b6 [ptr r 0] 240/\KY w' b7 [.bool false] 4/\Kp (fun k=>k=r\/k=b7) w w':=by
 have aD:a+n<=8*s.length:=by
  have e:=congrArg List.length hb;rw[List.length_drop,bitsT_length,List.length_append,bitsN_length] at e;have:=h.2.1;omega
 have BU:valB (((Lc s).drop a).take n)=v:=by
  rw[hb,List.take_left' (by simp),LJ];exact Nat.mod_eq_of_lt hv
 refine KJ (e:=[(0,_),(1,_),(2,_)]) Tryz.func146 rfl Tryz.ntmps146 rfl rfl (qN rfl (KO rfl (qM rfl (qV (KS Oz rfl rfl aN rfl) (An rfl (La [.tmp 8,.tmp 9] YM rfl (Qh h n hn) ?_))))))
 rintro v1 w1 eY
 have iv:v1= .tuple #[L5 v,I 0]/\OQ w1 r s (a+n)/\Kp (fun k=>k=r) w w1:=by
  rcases eY with⟨-,e,h1,hk⟩|⟨e,-,-⟩
  ·rw[BU] at e;exact⟨e,h1,hk⟩
  ·omega
 obtain⟨rfl,h1,aM⟩:=iv
 have vV:=aM.KN bE h6.2.1
 have BV:=aM.KN aN h6.1
 refine An rfl (qV (Lu rfl rfl) (qV (Lu rfl rfl) (KO rfl (KO rfl (qM rfl (qV (KS U4 rfl rfl vV rfl) (An rfl (An rfl (qV (M0 rfl rfl) (qV (Ls rfl rfl) (An rfl (An rfl (qV (LU rfl rfl) ?_)))))))))))))
 refine Ly (qV (Ls rfl rfl) (L0 rfl (Mt QX rfl rfl rfl vV (by simp)) ?_))
 rintro w2 ⟨dM,am⟩
 refine qM rfl (An rfl (qV (PF rfl rfl (by omega) (by omega)) ?_))
 rw[show v&&&268435455=v from(Nat.and_two_pow_sub_one_eq_mod v 28).trans (Nat.mod_eq_of_lt (by omega))]
 refine qV (Lw rfl Mq U3 (by omega)) (KO rfl (py (KP Tryz.func146 rfl ?_)))
 exact⟨_,rfl,rfl,⟨am.KN h1.1 (fun e=>h6.2.1 e.symm),h1.2⟩,am.KN BV h6.2.2,dM,(aM.L2 fun k e=> .inl e).trans (am.L2 fun k e=> .inr e)⟩
theorem O6 {s:List Bool}{n v a:Nat}{rest:List Bool}(h:s.drop a=bitsN n v++rest):s.drop (a+n)=rest:=by
 rw[<-List.drop_drop,h,List.drop_left' (by simp)]
theorem z7g (h:PHd):Lc (Lg (MG (Ty h)))=bitsN 32 h.n++(bitsN 32 h.m++(bitsN 8 h.p.Lf++(bitsN 8 h.p.chain++(bitsN 8 h.p.interval++(bitsN 8 h.p.zeta++(bitsN 32 h.p.most++(bitsN 64 h.bits++[]))))))):=by
 obtain⟨z,h1,h2,h3⟩:=Np (MG (Ty h))
 have hl:=Pq h
 have hz:z=0:=by omega
 rw[h1,hz,List.replicate_zero,List.append_nil]
 rfl
theorem z3W (h:PHd)(hh:h.M3)(w:World):Lk Tryz.prog 112 [S (hdT h)] w fun u w'=>u= .tuple #[hdV h,I 0]/\Ext w w':=by
 obtain⟨g1,g2,g3,g4,g5⟩:=id hh
 obtain⟨q1,q2,q3⟩:=id g5
 obtain⟨r1,r2,r3,r4⟩:=id q1
 have r1':h.p.Lf<=16:=r1
 have r2':h.p.interval<=64:=by
  have:h.p.interval=0\/2<=h.p.interval/\h.p.interval<=64:=r2;omega
 have r4':h.p.zeta<=16:=r4
 have HQ:=RJ h
 have pd:=z7g h
 rw[show Lc (Lg (MG (Ty h)))=(Lc (Lg (MG (Ty h)))).drop 0 from List.drop_zero.symm] at pd
 have dT:(Lg (MG (Ty h))).length=24:=by rw[Lq,Pq]
 refine KJ (e:=[(0,_)]) Tryz.func112 rfl Tryz.ntmps112 rfl rfl (qN rfl (KU rfl rfl (N3 (cs:=[_,_,_,_,_,_,_,_]) OT rfl) ?_))
 rintro _ w1 ⟨b2,rfl,bT,ad,ak⟩
 refine KO rfl (qM rfl (An rfl (Mi rfl rfl (yc (args:=[.tmp 11,.const (Value.string (⟨#[119,116,108,49]⟩))]) zbX rfl) (z1n z1V (Lg (MG (Ty h))) _ (by rw[show z1V++Lg (MG (Ty h))=hdT h from rfl];omega)) ?_)))
 rintro _ w1 ⟨rfl,rfl⟩
 refine An rfl (qV (Lu rfl rfl) (qV (Lu rfl rfl) (KO rfl (KO rfl (py (run_seq (qN rfl (An rfl (qV ((by first|exact LN rfl|exact Na rfl)) ?_)))))))))
 refine An rfl (An rfl (qV (R1 U9 rfl) (qV (LX rfl rfl) (Ly (qV (Ls rfl rfl) (py (KH rfl (It (qN rfl (An rfl ?_))))))))))
 generalize Lg (MG (Ty h))=pt at pd dT
 refine La [.tmp 23] z2B rfl (RQ pt (by omega) w1) ?_
 rintro _ w2 ⟨r,rfl,dj,af,dz⟩
 refine KU rfl rfl (N3 (cs:=[_]) X3 rfl) ?_
 rintro _ w3 ⟨b6,rfl,nN,ah,aN⟩
 refine L0 rfl (Mt X3 rfl rfl rfl aN (by simp)) ?_
 rintro w4 ⟨pe,aw⟩
 replace pe:KY w4 b6 [ptr r 0] 240:=pe
 refine qM rfl (KU rfl rfl (N3 (cs:=[_]) QX rfl) ?_)
 rintro _ w5 ⟨b7,rfl,kF,aR,bE⟩
 refine L0 rfl (Mt QX rfl rfl rfl bE (by simp)) ?_
 rintro w6 ⟨pf,aT⟩
 replace pf:KY w6 b7 [.bool false] 4:=pf
 have z1:=ad.size
 have z2:=af.size
 have z3:=ah.size
 have z4:=aw.size
 have z5:=aR.size
 have lr:=dj.1.lt
 have l6:=pe.lt
 have l2:=ak.lt
 have ss:=aT.KN (aR.KN pe) (by omega)
 have kr:OQ w6 r pt 0:=⟨aT.KN (aR.KN (aw.KN (ah.KN dj.1) (by omega))) (by omega),dj.2⟩
 have bF:Ext w1 w6:=(((af.trans ah).KK aw (fun i e=>by omega)).trans aR).KK aT (fun i e=>by omega)
 refine qM rfl (qV (Zj (first:=[]) (caps:=[.tmp 6,.tmp 7]) rfl rfl) (KO rfl (qM rfl (An rfl (Mi rfl rfl (Nk (args:=[.const (Value.int .i64 32)]) Ue rfl rfl) (O3 kr ss pf ⟨by omega,by omega,by omega⟩ 32 h.n (by decide) (by omega) (by omega) _ pd) ?_)))))
 rintro _ v0 ⟨rfl,BW,vW,vX,vY⟩
 have vZ:=O6 pd
 refine An rfl (Mi rfl rfl (Nk (args:=[.const (Value.int .i64 32)]) Ue rfl rfl) (O3 BW vW vX ⟨by omega,by omega,by omega⟩ 32 h.m (by decide) (by omega) (by omega) _ vZ) ?_)
 rintro _ v1 ⟨rfl,wa,wc,wg,wh⟩
 have wj:=O6 vZ
 refine qV (NA (parts:=[(0,.tmp 27),(1,.tmp 29)]) (cs:=[_,_,_,_,_,_,_,_]) OT rfl z8H rfl rfl) (KU rfl rfl (N3 (cs:=[_,_,_,_,_,_,_,_]) OT rfl) ?_)
 rintro _ w7 ⟨b9,rfl,nV,bL,cC⟩
 have zv1:=vY.size
 have zv2:=wh.size
 have z7:=bL.size
 have z6:=aT.size
 have l9:=cC.lt
 refine L0 rfl (Lz (news:=[I (h.n:Int),I (h.m:Int),I 0,I 0,I 0,I 0,I 0,I 0]) OT rfl rfl rfl rfl cC (by simp)) ?_
 rintro w8 ⟨su,bh⟩
 replace su:KY w8 b9 [I (h.n:Int),I (h.m:Int),I 0,I 0,I 0,I 0,I 0,I 0] 128:=su
 have l7:=pf.lt
 have cI:Ext v1 w8:=bL.KK bh (fun i e=>by omega)
 have tv:OQ w8 r pt (0+32+32):=⟨cI.KN wa.1,wa.2⟩
 have i7:=cI.KN wc
 have BX:=cI.KN wg
 have nX:Kp (fun k=>k=r\/k=b7) w6 w8:=(vY.trans wh).trans cI.kp
 refine py (Ll.qb (e:=[(2,_),(3,_),(7,_),(8,_),(9,_)]) ?_)
 refine qN rfl (An rfl (Mi rfl rfl (Nk (args:=[.const (Value.int .i64 8)]) Ue rfl rfl) (O3 tv i7 BX ⟨by omega,by omega,by omega⟩ 8 h.p.Lf (by decide) (by omega) (by omega) _ wj) ?_))
 rintro _ v2 ⟨rfl,BY,wk,wm,BZ⟩
 have wn:=O6 wj
 refine An rfl (Mi rfl rfl (Nk (args:=[.const (Value.int .i64 8)]) Ue rfl rfl) (O3 BY wk wm ⟨by omega,by omega,by omega⟩ 8 h.p.chain (by decide) (by omega) (by omega) _ wn) ?_)
 rintro _ v3 ⟨rfl,C1,wo,wq,C2⟩
 have wu:=O6 wn
 refine An rfl (Mi rfl rfl (Nk (args:=[.const (Value.int .i64 8)]) Ue rfl rfl) (O3 C1 wo wq ⟨by omega,by omega,by omega⟩ 8 h.p.interval (by decide) (by omega) (by omega) _ wu) ?_)
 rintro _ v4 ⟨rfl,C3,wv,ww,C4⟩
 have wx:=O6 wu
 refine An rfl (Mi rfl rfl (Nk (args:=[.const (Value.int .i64 8)]) Ue rfl rfl) (O3 C3 wv ww ⟨by omega,by omega,by omega⟩ 8 h.p.zeta (by decide) (by omega) (by omega) _ wx) ?_)
 rintro _ v5 ⟨rfl,C5,wG,wH,C6⟩
 have wI:=O6 wx
 refine An rfl (Mi rfl rfl (Nk (args:=[.const (Value.int .i64 32)]) Ue rfl rfl) (O3 C5 wG wH ⟨by omega,by omega,by omega⟩ 32 h.p.most (by decide) (by omega) (by omega) _ wI) ?_)
 rintro _ v6 ⟨rfl,wJ,wK,wL,C7⟩
 have wM:=O6 wI
 have iA:Kp (fun k=>k=r\/k=b7) w8 v6:=(((BZ.trans C2).trans C4).trans C6).trans C7
 have C8:=iA.KN su (by omega)
 refine qV (NA (parts:=[(0,.tmp 32),(1,.tmp 34),(2,.tmp 36),(3,.tmp 38),(4,.tmp 40)]) (cs:=[_,_,_,_,_]) MP rfl z7J rfl rfl) (qV (KT Th rfl) (L0 rfl (Lz (news:=Qf h.p) MP rfl rfl rfl rfl C8 (by simp)) ?_))
 rintro w9 ⟨sw,aL⟩
 replace sw:KY w9 b9 [I (h.n:Int),I (h.m:Int),I (h.p.Lf:Int),I (h.p.chain:Int),I (h.p.interval:Int),I (h.p.zeta:Int),I (h.p.most:Int),I 0] 128:=sw
 have tB:OQ w9 r pt (0+32+32+8+8+8+8+32):=⟨aL.KN wJ.1 (by omega),wJ.2⟩
 have i8:=aL.KN wK (by omega)
 have C9:=aL.KN wL (by omega)
 refine qM rfl (An rfl (Mi rfl rfl (Nk (args:=[.const (Value.int .i64 64)]) Ue rfl rfl) (O3 tB i8 C9 ⟨by omega,by omega,by omega⟩ 64 h.bits (by decide) (by omega) (by omega) _ wM) ?_))
 rintro _ v7 ⟨rfl,HR,F9,wO,wP⟩
 have HS:=O6 wM
 have Ca:=wP.KN sw (by omega)
 refine qV (KT PT rfl) (L0 rfl (Mt LG rfl rfl rfl Ca (by simp)) ?_)
 rintro w10 ⟨kz,ax⟩
 replace kz:KY w10 b9 (hdC h) 128:=kz
 have wQ:=ax.KN wO (by omega)
 have wR:Kp (fun k=>k=r\/k=b7\/k=b9) w6 w10:=((((nX.trans iA).L2 fun k e=>by omega).trans (aL.L2 fun k e=>by omega)).trans (wP.L2 fun k e=>by omega)).trans (ax.L2 fun k e=>by omega)
 have fL:Ext w1 w10:=bF.KK wR (fun k e=>by omega)
 refine py (run_seq (qN rfl (qV (KS U4 rfl rfl wQ rfl) (An rfl (qV (Lj (news:=hdC h) z05 rfl OT rfl (kz.cells (n:=8) rfl) rfl) (La [.tmp 48] z6c rfl (So h hh _) ?_))))))
 rintro _ w11 ⟨rfl,aQ⟩
 refine qV (M0 rfl rfl) (qV (Ls rfl rfl) (py (Ll.qb (e:=[(2,_),(3,_),(9,_),(51,_)]) ?_)))
 refine KH rfl (It (qN rfl (qV (Lj (news:=hdC h) z05 rfl OT rfl ((aQ.KN kz).cells (n:=8) rfl) rfl) ?_)))
 have mS:=(fL.trans aQ).KN ak
 refine L0 rfl (Lz (news:=hdC h) OT rfl rfl rfl rfl mS (by simp)) ?_
 rintro w12 ⟨iN,aU⟩
 replace iN:KY w12 b2 (hdC h) 128:=iN
 replace iN:KY w12 b2 [I (h.n:Int),I (h.m:Int),I (h.p.Lf:Int),I (h.p.chain:Int),I (h.p.interval:Int),I (h.p.zeta:Int),I (h.p.most:Int),I (h.bits:Int)] 128:=iN
 refine KO rfl (py (Lh Tryz.func112 (.cell z05 rfl OT rfl (KY.cells (n:=8) iN (news:=[_,_,_,_,_,_,_,_]) rfl) rfl (.tmp rfl .nil)) ?_))
 exact⟨_,rfl,rfl,((ad.trans fL).trans aQ).KK aU (fun k e=>by omega)⟩
theorem z3A (h:PHd)(hh:h.M3)(bT:h.n<=500)(w:World):Lk Tryz.prog 113 [hdV h] w fun u w'=>u= .tuple #[I ((28+(h.bits+7) / 8+(OW (h.n+1) (h.bits+1)).size:Nat):Int),I 0]/\Ext w w':=by
 obtain⟨g1,g2,g3,g4,g5⟩:=id hh
 have hs:=XR (n:=h.n+1) (u:=h.bits+1) (by omega) (by omega) (by omega) (by omega)
 have co:(OW (h.n+1) (h.bits+1)).size<=40000000:=by
  have h2:=Fm.Rx hs;obtain⟨h3,h4,h5⟩:=hs;unfold Fm.size Fm.PR;omega
 refine KJ (e:=[(0,_)]) Tryz.func113 rfl Tryz.ntmps113 rfl rfl (qN rfl (KU rfl rfl (MH rfl (cs:=hdC h) rfl) ?_))
 rintro _ w1 ⟨b1,rfl,bS,ad,ai⟩
 replace ai:KY w1 b1 [I (h.n:Int),I (h.m:Int),I (h.p.Lf:Int),I (h.p.chain:Int),I (h.p.interval:Int),I (h.p.zeta:Int),I (h.p.most:Int),I (h.bits:Int)] 128:=ai
 refine KO rfl (KO rfl (py (run_seq (qN rfl (qV (Lj (news:=hdC h) z05 rfl OT rfl (ai.cells (n:=8) rfl) rfl) (La [.tmp 7] z6c rfl (So h hh _) ?_))))))
 rintro _ w2 ⟨rfl,af⟩
 have aZ:=af.KN ai
 refine KO rfl (qM rfl (An rfl (qV (M0 rfl rfl) (py (KH rfl (It (qN rfl (qV (KT P7 rfl) (qV (KS U3 rfl rfl aZ rfl) (LH rfl rfl (qV (KT PT rfl) (qV (KS U3 rfl rfl aZ rfl) (qV ((by first|exact LF rfl U3 Mq (by omega)|exact N0 rfl U3 Mq)) ?_)))))))))))))
 rw[show(h.n:Int)+1=((h.n+1:Nat):Int) by omega]
 refine La [.tmp 15,.tmp 18] za1 rfl (z0e (h.n+1) h.bits (by omega) (by omega) (by omega) _) ?_
 rintro _ w3 ⟨rfl,ah⟩
 have dm:=ah.KN aZ
 refine An rfl (qV (Lu (v:=I ((OW (h.n+1) (h.bits+1)).size:Int)) rfl rfl) (qV (Lu (v:=I 0) rfl rfl) ?_))
 generalize (OW (h.n+1) (h.bits+1)).size=q at co
 refine KO rfl (KO rfl (qM rfl (qV (KT PT rfl) (qV (KS U3 rfl rfl dm rfl) (LH rfl rfl (qV (RE rfl rfl (by omega)) (LH rfl rfl (An rfl (LH rfl rfl (An rfl (KO rfl (KO rfl (py ?_)))))))))))))
 refine Ll.qb (e:=[(2,_),(3,_)]) ?_
 refine KP Tryz.func113 rfl (⟨_,rfl,?_,(ad.trans af).trans ah⟩)
 show Value.tuple #[I (28+((h.bits:Int)+7) / 8+(q:Int)),I 0]= .tuple #[I ((28+(h.bits+7) / 8+q:Nat):Int),I 0]
 rw[show(28:Int)+((h.bits:Int)+7) / 8+(q:Int)=((28+(h.bits+7) / 8+q:Nat):Int) by omega]
section
variable {P:Program}{e:Env}{d:Option Nat}{ty t t':TypeId}{pos:String}{aft:Array Edge}{g:Option (Nat×Bool)}{x y:Operand}{w:World}
theorem z1t {f:FuncId}{name:String}{u:Value}(h:methT P t name=some f):(nilAhead (P.types.size+Made.depth) t u name).run P w= .ok (some false) w:=by
 rw[show P.types.size+Made.depth=P.types.size+(Made.depth-1)+1 from rfl]
 unfold methT at h
 split at h<;>try cases h
 rename_i i hi
 split at h<;>try cases h
 rename_i m hm
 split at h<;>try cases h
 rename_i f' pr iL iM
 have mH:i.methods.find? (·.name==name)=some m:=by rw[<-hm,Array.find?_toList]
 unfold nilAhead
 split at h<;>try cases h
 ·rename_i el hu
  cases pr<;>simp at h;subst h;simp[OJ hi,mH,iL,followBlind,iM]
 ·rename_i td EU hu
  cases pr<;>simp at h;subst h;simp only[Sem.run_bind,OJ hi,Result.andThen_ok,mH,iL,followBlind,Sem.run_pure,iM,run_underlying hu];cases td<;>first|exact absurd rfl (EU _)|rfl
theorem zbr {td:TypeDesc}{v:Value}(ht:P.underlying t=some td)(hn:∀ms,td≠ .interface ms)(hx:look e x=some v):Y P e ⟨d,.makeInterface t x,ty,pos,aft,g⟩ (.iface t v) w w:=fun ρ hρ=>by
 simp only[execOp,hρ _ _ hx,Instr.makeInterface,Sem.run_bind,run_underlying ht,Result.andThen_ok]
 cases td<;>first|rfl|exact(hn _ rfl).elim
theorem ymm {nm:String}{v:Value}(hx:look e x=some v):Y P e ⟨d,.makeFunc (.method nm) #[x] #[],ty,pos,aft,g⟩ (.func (.method nm) #[v] #[]) w w:=fun ρ hρ=>by
 simp[execOp,hρ _ _ hx,Instr.makeFunc]
theorem zdm {f:FuncId}{nm:String}{tx:TypeId}{v:Value}(hm:methT P tx nm=some f)(hx:look e x=some (.func (.method nm) #[.iface tx v] #[])):Y P e ⟨d,.nilCheck x,ty,pos,aft,g⟩ (.func (.method nm) #[.iface tx v] #[]) w w:=fun ρ hρ=>by
 have hn:=z1t (w:=w) (u:=v) hm
 have rx:(program).run P w= .ok P w:=rfl
 simp[execOp,hρ _ _ hx,rx,hn]
end
def Uj (t:TypeId)(u:Value)(a n:Nat):Value:= .agg #[.iface t u,I (a:Int),I (n:Int)]
theorem ZS (t:TypeId)(u:Value)(a n:Nat)(w:World):Lk Tryz.prog 264 [Uj t u a n] w fun v w'=>v=I (n:Int)/\Ext w w':=by
 unfold Uj
 refine KJ (e:=[(0,_)]) Tryz.func264 rfl Tryz.ntmps264 rfl rfl (qN rfl (KU rfl rfl (MH rfl (cs:=[.iface t u,I (a:Int),I (n:Int)]) rfl) ?_))
 rintro _ w1 ⟨b1,rfl,bS,ad,ai⟩
 refine KO rfl (qM rfl (qV (KT Xp rfl) (qV (KS U3 rfl rfl ai rfl) (KO rfl (py (KP Tryz.func264 rfl ?_))))))
 exact⟨_,rfl,rfl,ad⟩
theorem z0r {t:TypeId}{u:Value}{T:Bytes}(R:Src t u T){X:Nat->Prop}{w:World}(a n:Nat)(ob:a+n<=T.length)(hT:T.length<=100000000000)(off m:Nat)(hI:R.inv X w)(hX:∀k,X k->k<w.heap.size)(h:off+m<=n):
  Lk Tryz.prog 265 [Uj t u a n,I (off:Int),I (m:Int)] w fun v w'=>v= .tuple #[S ((((T.drop a).take n).drop off).take m),I 0]/\R.inv X w'/\Kp (fun k=>¬X k) w w':=by
 have e:(((T.drop a).take n).drop off).take m=(T.drop (a+off)).take m:=by
  rw[List.drop_take,List.take_take,List.drop_drop,show min m (n-off)=m by omega]
 rw[e]
 unfold Uj
 refine KJ (e:=[(0,_),(1,_),(2,_)]) Tryz.func265 rfl Tryz.ntmps265 rfl rfl (qN rfl (KU rfl rfl (MH rfl (cs:=[.iface t u,I (a:Int),I (n:Int)]) rfl) ?_))
 rintro _ w1 ⟨b1,rfl,bS,ad,ai⟩
 refine KO rfl (KO rfl (py (run_seq (qN rfl (An rfl (qV (LX rfl rfl) (An rfl (An rfl (qV (LX rfl rfl) (Ly (qV (Ls rfl rfl) (An rfl (An rfl ?_)))))))))))))
 refine qV (KT Xp rfl) (qV (KS U3 rfl rfl ai rfl) (qV (LU rfl rfl) (Ly (qV (Ls rfl rfl) (An rfl (An rfl (qV (KT Xp rfl) (qV (KS U3 rfl rfl ai rfl) (An rfl (qV (Md rfl rfl (by omega)) (qV (LU rfl rfl) (Ly (qV (Ls rfl rfl) ?_)))))))))))))
 refine py (Ll.qb (e:=[(1,_),(2,_),(3,_),(6,_),(7,_),(27,_)]) ?_)
 refine KH rfl (It (qN rfl (qV (KT z6Y rfl) (qV (KS Yw rfl rfl ai rfl) (qV (KT z7h rfl) (qV (KS U3 rfl rfl ai rfl) (An rfl (LH rfl rfl (An rfl ?_)))))))))
 rw[show(a:Int)+(off:Int)=((a+off:Nat):Int) by omega]
 refine Mi rfl rfl (yci (args:=[.tmp 33,.tmp 34]) R.cr R.mr rfl rfl) (R.rd (a+off) m (R.ext hI ad (fun k hk=> .inl hk)) (fun k hk=>by have:=hX k hk;have:=ad.size;omega) (by omega)) ?_
 rintro _ w2 ⟨rfl,cH,am⟩
 refine qV (Lu rfl rfl) (qV (Lu rfl rfl) (KO rfl (KO rfl (py (KP Tryz.func265 rfl ?_)))))
 exact⟨_,rfl,rfl,cH,ad.kp.trans am⟩
def z8q {t:TypeId}{u:Value}{T:Bytes}(R:Src t u T)(a n:Nat)(B:Bytes)(ob:a+n<=T.length)(hT:T.length<=100000000000)(hB:(T.drop a).take n=B):Src 223 (Uj t u a n) B where
 inv:=R.inv
 fl:=264
 fr:=265
 cl:=zar
 cr:=zcE
 ml:=by kernel_rfl
 mr:=by kernel_rfl
 ext:=R.ext
 step:=R.step
 len:=fun {X w} h=>by
  have e:B.length=n:=by rw[<-hB,List.length_take,List.length_drop];omega
  rw[e];exact ZS t u a n w
 rd:=fun {X w} off m h hX ho=>by
  have e:B.length=n:=by rw[<-hB,List.length_take,List.length_drop];omega
  rw[<-hB];exact z0r R a n ob hT off m h hX (by omega)
end Go.Proofs.YtpldpcjdjcgicaaGreatDoor
