/- Merged by program. -/
import Derived.Test.YtffbidffdbpcoaaGreatDoorZk3
set_option linter.all false
set_option maxRecDepth 1000000
set_option maxHeartbeats 16000000
namespace Go.Proofs.YtffbidffdbpcoaaGreatDoor
open Go Go.RowKit Go.Proofs.Tryz
def z0i {w:World}(p:Th)(hp:p.RE)(x:Nat)(hx:x<65536){sa ra:Option Addr}{sc rc:Nat}(succ ref:List Nat)(hs:QP succ)(hr:QP ref)(r:Nat)(jB:r<=p.Qq)(mM:r=0->ref=[])
  (hG:Q7 w 1 (Ts .gamma) 294) (hU:Q7 w 2 (Ts .unary) 294) (eI:Rd w (.slice sa succ.length sc) 1 succ.length (succ.map QJ)) (ob:Rd w (.slice ra ref.length rc) 1 ref.length (ref.map QJ)) (gh:succ.length<=sc) (oc:ref.length<=rc):
  Qu prog 183 [lpV p,I (x:Int),.slice sa succ.length sc,.slice ra ref.length rc,I (r:Int)] w λu w'=>Sl w' u 296 3 (SG p x succ ref r).length ((SG p x succ ref r).flatMap z8m)/\(∀g,u.ownBlock=some g->w.heap.size<=g)/\Ext w w':=by
 obtain⟨g1,g2,g3,g4⟩:=id hp
 have fU:=hs.len
 have iy:=hr.len
 refine py (e:=[(0,_),(1,_),(2,_),(3,_),(4,_)]) func183 O ntmps183 O O$ qN O$ PY O O (Se O (cs:=lpC p) O) ?_
 rintro _ w1 ⟨b5,rfl,gm,ad,aJ⟩
 have z1:=ad.size
 have l5:=aJ.lt
 refine S7 O$ qV (QB (news:=[.int .u8 1,Qg 0]) Tz O RX O ((ad.PN hG).cells (n:=2) O) O)$ Q4 O$ SR QE O$ qV ((Rp O U3 SL ω))$ qV (Tq (cs:=[_,_,_]) WI O zfA O O)$ PY O O (Zh (cs:=[_,_,_]) (zs:=[Value.int .u8 0,Value.int .u64 0,Value.int .u64 0]) z33 WI O (by kernel_rfl) O O O ψ) ?_
 rintro _ w2 ⟨b2,rfl,⟨bO,ae,ak⟩,cS⟩
 have z2:=ae.size
 have l2:=ak.lt
 refine PY O O (SE (cs:=[_]) zci O) ?_
 rintro _ w3 ⟨n11,rfl,jw,ah,bj⟩
 have z3:=ah.size
 refine Qb O (RV zci O O O bj ξ) ?_
 rintro w4 ⟨mf,ar⟩
 have z4:=ar.size
 replace mf:Q7 w4 n11 [.slice (some ⟨b2,0,none⟩) 1 1] 291:=mf
 have eH:=(cS.ext ah).kp ar (λg hg e=>by have h1:b2=g:=SH hg;omega)
 have xi:NuI w w1 p b5 n11 [(.gamma,succ.length)] w4:=⟨⟨fpW n11 (.slice (some ⟨b2,0,none⟩) 1 1),⟨_,⟨mf,eH,λe=>by have h1:b2=n11:=SH e;omega⟩,λ_=>Iff.rfl⟩,λk hk=>by
   rcases hk with e| e
   ·omega
   ·have h1:b2=k:=SH e
    omega⟩,((ad.trans ae).trans ah).It ar (λk e=>by omega),ar.PN (ah.PN (ae.PN aJ)) ω,ω⟩
 refine PQ$ QS O$ SR QE O$ Ss O$ PQ$ Q8 O (λe0=>?_)$ λe0=>?_
 ·have fj:succ=[]:=List.eq_nil_of_length_eq_zero ω;subst fj;refine qN O$ qV (PX z33 O O mf O)$ Qc O$ PO func183 O ?_;have iL:SG p x [] ref r=[(.gamma,0)]:=by simp[SG]
  rw[iL];exact⟨_,rfl,eH,λg hg=>by have h1:b2=g:=SH hg;omega,xi.ext⟩
 ·have ib := xi.b5; replace ib : Q7 w4 b5 [I (p.Qq : Int), I (p.interval : Int), I (p.zeta : Int)] 260 := ib; refine PR (qN O (qV (ymf (first := []) (caps := [.tmp 11]) O O) (Qc O (An (qN O (Qd UJ O (qV (PX U3 O O ib O) (RK O (PQ (QH (λe' w' => e' = [(1, I (x : Int)), (2, .slice sa succ.length sc), (3, .slice ra ref.length rc), (4, I (r : Int)), (5, ptr b5 0), (11, ptr n11 0), (12, .func (.func 204) #[] #[ptr n11 0])] /\ NuI w w1 p b5 n11 ([(.gamma, succ.length)] ++ (if 0 < p.Qq then [(.unary, r)] else [])) w') ?bF (λbF => ?dg)))))))))))
  case bF =>
   rintro e' w5 ⟨rfl,uB⟩;have DB:=uB.siz;refine qN O$ PY O O (Zh (cs:=[_]) (zs:=[Value.int .i64 0]) SC Rl O (by kernel_rfl) O O O ψ) ?_;rintro _ w6 ⟨b43,rfl,⟨DD,aS,ew⟩,od⟩;have l6:=ew.lt;refine PY O O (SE (cs:=[_]) z7c O) ?_;rintro _ w7 ⟨rn,rfl,Lb,cu,yh⟩;have l7:=yh.lt;have z7:=cu.size;refine PY O O (SE (cs:=[_]) Vz O) ?_;rintro _ w8 ⟨lf,rfl,Lc,cV,yi⟩;have l8:=yi.lt;have z8:=cV.size;refine Qb O (RV z7c O O O (cV.PN yh) ξ) ?_;rintro w9 ⟨oe,ax⟩;have z9:=ax.size;replace oe:Q7 w9 rn [.slice (some ⟨b43,0,none⟩) 1 1] 37:=oe;refine Qb O (RV Vz O O O (ax.PN yi ω) ξ) ?_;rintro w10 ⟨kY,aB⟩;have z10:=aB.size;replace kY:Q7 w10 lf [.slice none 0 0] 62:=kY;have gC:Ext w5 w10:=(((aS.trans cu).trans cV).It ax (λk e=>by omega)).It aB (λk e=>by omega)
   have qC:NuI w w1 p b5 n11 ([(.gamma,succ.length)]++(if 0<p.Qq then [(.unary,r)] else [])) w10:=by
    obtain⟨⟨F,h1,h2⟩,h3,h4,h5⟩:=uB;exact⟨⟨F,h1.ext gC,h2⟩,h3.trans gC,gC.PN h4,by have:=gC.size;omega⟩
   have cw:=(((od.ext cu).ext cV).kp ax (λg hg e=>by have h1:b43=g:=SH hg;omega)).kp aB (λg hg e=>by have h1:b43=g:=SH hg;omega);have Ld:z4W w10 lf [] (fpW lf (.slice none 0 0)):=⟨_,⟨kY,Sl.nil _ _ _,λe=>by cases e⟩,λ_=>Iff.rfl⟩;have Le:z3i w10 rn [0] (fpW rn (.slice (some ⟨b43,0,none⟩) 1 1)):=⟨_,⟨aB.PN oe ω,cw,λe=>by have h1:b43=rn:=SH e;omega⟩,λ_=>Iff.rfl⟩
   have iN:∀k,fpW lf (.slice none 0 0) k->k=lf:=λk hk=>by
    rcases hk with e| e
    ·exact e
    ·cases e
   have m7:∀k,fpW rn (.slice (some ⟨b43,0,none⟩) 1 1) k->k=rn\/k=b43:=λk hk=>by
    rcases hk with e| e
    ·exact .inl e
    ·exact .inr (SH e).symm
   have cG:∀k,fpW lf (.slice none 0 0) k\/fpW rn (.slice (some ⟨b43,0,none⟩) 1 1) k->w5.heap.size<=k:=λk hk=>by
    rcases hk with e| e
    ·have:=iN k e;omega
    ·rcases m7 k e with e|e<;>omega
   have hE:Vs w10 succ ref lf rn (fpW lf (.slice none 0 0)) (fpW rn (.slice (some ⟨b43,0,none⟩) 1 1)) succ sa sc ref ra rc [] [0] w10:=by
    refine⟨⟨_,_,[],Ld,Le,UL.zero,by simpa using iy,by simp;omega,λk h=> .inl h,λk h=> .inl h,λk h1 h2=>?_⟩,λw2 k=>?_,λw2 k=>?_,gh,oc,Kp.refl _ _,hs,hr,rfl,rfl,by simpa using fU⟩
    ·have e1:=iN k h1;rcases m7 k h2 with e2|e2<;>omega
    ·exact(eI.ext qC.ext).kpz k (λh0 g hg hS=>by have e1:=eI.ltz ψ h0 hg;have e2:=cG g hS;omega)
    ·exact(ob.ext qC.ext).kpz k (λh0 g hg hS=>by have e1:=ob.ltz ψ h0 hg;have e2:=cG g hS;omega)
   refine qM O$ Qp O$ qV (ymf (first:=[]) (caps:=[.tmp 14,.tmp 13]) O O)$ Qk zjS O (zdg hE) ?_;rintro _ w11 ⟨rfl,FL,FR,yj,qD,DE,DF,nX,bz⟩
   have qF:NuI w w1 p b5 n11 ([(.gamma,succ.length)]++(if 0<p.Qq then [(.unary,r)] else [])) w11:=by
    have bc:Kp (λk=>fpW lf (.slice none 0 0) k\/fpW rn (.slice (some ⟨b43,0,none⟩) 1 1) k) w10 w11:=bz;have DG:=uB.ex;obtain⟨⟨F,h1,h2⟩,h3,h4,h5⟩:=qC;obtain⟨F5,h6,h7⟩:=DG;have gm:b5<w5.heap.size:=uB.b5.lt;refine⟨⟨F5,(h6.ext gC).kp bc (λk hk hS=>by have e1:=h6.lt hk;have e2:=cG k hS;omega),h7⟩,h3.It bc (λk hk=>by have e2:=cG k hk;have:=uB.ext.size;omega),bc.PN h4 (λhS=>by have e2:=cG b5 hS;omega),by have:=bc.size;omega⟩
   generalize hA:([(Cd.gamma,succ.length)]++(if 0<p.Qq then [(Cd.unary,r)] else []):List (Cd×Nat))=A at qF qC uB
   have Lf:A.length<=2:=by rw[<-hA];split<;>simp
   have yk:∀k,(FL k\/FR k)->k<w11.heap.size:=λk hk=>by
    rcases hk with e| e
    ·exact yj.lt e
    ·exact qD.lt e
   have qG:NuX w w1 w11 p b5 n11 (λk=>FL k\/FR k) A w11:=by
    obtain⟨F5,h6,h7⟩:=uB.ex;have OO:=gC.size;refine⟨⟨F5,(h6.ext gC).kp bz (λk hk hS=>by have e1:=h6.lt hk;have e2:=cG k hS;omega),h7,λk hk hX=>?_⟩,qF.ext,qF.b5,qF.siz,Kp.refl _ _⟩;have e1:=h6.lt hk;rcases hX with e| e
    ·rcases DE k e with e2|e2
     ·have:=cG k (.inl e2);omega
     ·omega
    ·rcases DF k e with e2|e2
     ·have:=cG k (.inr e2);omega
     ·omega
   refine PQ$ QS O$ RK O$ PQ$ QH (λe' w'=>e'=[(1,I (x:Int)),(5,ptr b5 0),(11,ptr n11 0),(12,.func (.func 204) #[] #[ptr n11 0]),(14,ptr lf 0)]/\NuX w w1 w11 p b5 n11 (λk=>FL k\/FR k) (A++(if 0<r then(.gamma,(Sk succ ref).length-1)::Rv 0 (Sk succ ref).dropLast else [])) w') ?aW$ λaW=>?gl
   case aW =>
    rintro e' w12 ⟨rfl,jC⟩;have jj:succ≠[]:=λe=>e0 (by rw[e];rfl)
    generalize hB:(if 0<r then(Cd.gamma,(Sk succ ref).length-1)::Rv 0 (Sk succ ref).dropLast else []:List (Cd×Nat))=B at jC
    have yl:=yj.kp jC.kx (λk hk e=>e (.inl hk));obtain⟨vl,BZ,OP⟩:=yl;obtain⟨la,lc,rfl,-⟩:=BZ.sl.rd.shape;obtain⟨F,⟨vn,sI,ym⟩,qH,DH⟩:=id jC.ex;have IY:=BZ.PN;have DI:=sI.PN;refine An$ qN O$ qV ((PX QE O O IY O))$ SR QE O$ Ss O$ PQ$ Q8 O (λe3=>?_)$ λe3=>?_
    ·have kK:Qw succ ref=[]:=List.eq_nil_of_length_eq_zero ω
     have jD:SG p x succ ref r=A++B:=by
      unfold SG;rw[if_neg jj,if_pos kK,List.append_nil,<-hA,<-hB];rfl
     refine qN O$ qV ((PX z33 O O DI O))$ Qc O$ PO func183 O ?_;rw[jD];exact⟨_,rfl,sI.sl,λg hg=>by have:=qH g ((ym g).2 (.inr hg));omega,jC.ext⟩
    ·have sJ := jC.b5; replace sJ : Q7 w12 b5 [I (p.Qq : Int), I (p.interval : Int), I (p.zeta : Int)] 260 := sJ; refine PR (qN O (qV ((PX QE O O IY O)) (Qd VC O (qV ((PX U3 O O sJ O)) ?_)))); have az : QP (Qw succ ref) := hs.sub List.filter_sublist; have Lg := az.len
     have pT:(Qw succ ref).length<=lc:=by
      rcases BZ.sl.shape with⟨-,h0⟩|⟨g,c1,hv,gS⟩
      ·omega
      ·cases hv;exact gS
     refine Qk zkp O (zcD la lc (Qw succ ref) p.interval az pT ω w12 BZ.sl.rd) ?_;rintro _ w13 ⟨v4,v5,rfl,mQ,og,aZ,qI,uC,IZ⟩;have dT:=VQ p.interval (Qw succ ref);have qK:QP (R4 p.interval (Qw succ ref)).2:=az.sub dT
     have fx:∀k,(v4.ownBlock=some k\/v5.ownBlock=some k)->w12.heap.size<=k/\k<w13.heap.size:=λk hk=>by
      rcases hk with e| e
      ·exact⟨qI k e,mQ.lt e⟩
      ·exact⟨uC k e,og.lt e⟩
     have qP:NuX w w1 w13 p b5 n11 (λk=>v4.ownBlock=some k\/v5.ownBlock=some k) (A++B) w13:=by
      have kH:∀k,F k->k<w12.heap.size:=λk hk=>by
       rcases (ym k).1 hk with e| e
       ·rw[e];exact sI.PN.lt
       ·exact sI.sl.lt e
      have yn:z5S w12 n11 (A++B) F:=⟨vn,sI,ym⟩;exact⟨⟨F,yn.ext aZ,qH,λk hk hX=>by have e1:=kH k hk;have e2:=(fx k hX).1;omega⟩,jC.ext.trans aZ,aZ.PN jC.b5,by have e1:=jC.siz;have e2:=aZ.size;omega,Kp.refl _ _⟩
     have yo:=aZ.PN sJ;have Lh:=mQ.oneV;have Li:=og.oneV;refine Q4 O$ TK O$ Rt O$ An$ qN O$ Qd VC O$ qV (PX U3 O O yo O)$ RK O$ PQ ?_
     have Lj:(A++B).length<=200000:=by
      rw[List.length_append,<-hB];split
      ·rw[List.length_cons,Un,List.length_dropLast];have h1:=(Ul succ ref).z2W;rw[List.length_map] at h1;omega
      ·simp;omega
     generalize hQ:R4 p.interval (Qw succ ref)=Q at mQ og qK dT
     have yp:Q.1.length<=65536:=by
      have h1:=UP p.interval (Qw succ ref);have h2:=h1.length_eq;rw[hQ,List.length_append] at h2
      have h3:∀R:List (Nat×Nat),Uc p.interval 0 R->R.length<=(S0 R).length:=by
       have h4:∀(R:List (Nat×Nat)) (lo:Nat),Uc p.interval lo R->R.length<=(S0 R).length:=by
        intro R
        induction R with
        |nil=>intro lo h;exact Nat.le_refl _
        | cons q R ih =>
          intro lo h;have h5:=ih _ h.2.2.2;have h6:1<=q.2:=h.2.1;rw[show S0 (q::R)=(List.range q.2).map (q.1+·)++S0 R from rfl,List.length_append,List.length_map,List.length_range,List.length_cons];omega
       exact λR h=>h4 R 0 h
      have h5:=h3 _ (Wk p.interval (Qw succ ref) 0 az.ris (λy _=>Nat.zero_le _));rw[hQ] at h5;omega
     have qQ:Uc p.interval 0 Q.1:=by have h:=Wk p.interval (Qw succ ref) 0 az.ris (λy _=>Nat.zero_le _);rwa [hQ] at h
     have uD:∀q∈Q.1,1<=q.2->q.1+q.2<=65536:=λq hq h1=>zct (least:=p.interval) az.lt (by rw[hQ];exact hq) h1
     have DJ:∃fa fc,v4= .slice fa Q.1.length fc:=by
      obtain⟨fa,fc,e,-⟩:=mQ.rd.shape;exact⟨fa,fc,e⟩
     obtain⟨fa,fc,rfl⟩:=DJ;refine QH (λe' w'=>e'=[(1,I (x:Int)),(5,ptr b5 0),(11,ptr n11 0),(12,.func (.func 204) #[] #[ptr n11 0]),(17,.slice fa Q.1.length fc),(18,v5)]/\NuX w w1 w13 p b5 n11 (λk=>(Value.slice fa Q.1.length fc).ownBlock=some k\/v5.ownBlock=some k) (A++B++if 0<p.interval then [(.gamma,Q.1.length)] else []) w') ?aq$ λaq=>?dU
     case aq =>
      rintro e' w14 ⟨rfl,yr⟩;refine RN O$ QS O$ SR zcx O$ Q4 O$ PQ$ PS ?_
      generalize DK:(if 0<p.interval then [(Cd.gamma,Q.1.length)] else []:List (Cd×Nat))=C0 at yr
      refine Tf (λe' w'=>e'=[(1,I (x:Int)),(5,ptr b5 0),(11,ptr n11 0),(12,.func (.func 204) #[] #[ptr n11 0]),(18,v5)]/\NuX w w1 w13 p b5 n11 (λk=>(Value.slice fa Q.1.length fc).ownBlock=some k\/v5.ownBlock=some k) (A++B++C0++QV x p.interval none Q.1) w') ?cz$ λcz=>?iM
      case cz =>
       rintro e' w15 ⟨rfl,gD⟩;obtain⟨F15,gE,mR,jE⟩:=gD.ex;have oh:=gD.b5;replace oh:Q7 w15 b5 [I (p.Qq:Int),I (p.interval:Int),I (p.zeta:Int)] 260:=oh;refine qN O$ Qd z1w O$ qV (PX U3 O O oh O)$ qV ((Rp O U3 SL ω))$ qV (Tq (cs:=[_,_]) RX O zfX O O)$ PY O O (SE (cs:=[_,_]) RX O) ?_;rintro _ w16 ⟨b22,rfl,Lk,bB,gF⟩;have z16:=bB.size;refine Qb O (QT (news:=[.int .u8 3,Qg p.zeta]) RX O O O O gF ξ) ?_;rintro w17 ⟨mg,cR⟩;replace mg:Q7 w17 b22 [.int .u8 3,Qg p.zeta] 294:=mg;have dr:Ext w15 w17:=bB.It cR (λk e=>by omega);have z17:=dr.size;have jk:¬F15 b22:=λe=>by have:=gE.lt e;omega
       have iO:=(og.kp gD.kx (λg hg e=>e (.inr hg))).ext dr
       obtain⟨ha,hc,e5⟩:∃a c,v5= .slice a Q.2.length c:=by
        obtain⟨fa,fc,e,-⟩:=og.rd.shape;exact⟨fa,fc,e⟩
       subst e5;have mT:=(gD.ex2 dr).again (X':=λk=>(Value.slice ha Q.2.length hc).ownBlock=some k\/k=b22) (gE.ext dr) mR (λk hk hX=>by rcases hX with hX|e;exact jE k hk (.inr hX);exact jk (e▸hk));have l22:=mg.lt
       have pU:∀k,((Value.slice ha Q.2.length hc).ownBlock=some k\/k=b22)->k<w17.heap.size:=λk hk=>by
        rcases hk with e| e
        ·have:=iO.lt e;omega
        ·omega
       have pV:=qK.len
       have Ll:(A++B++C0++QV x p.interval none Q.1).length<=400000:=by
        rw[List.length_append,List.length_append,TM,<-DK];split<;>simp only[List.length_cons,List.length_nil]<;>omega
       refine PQ$ QS O$ SR QE O$ Q4 O$ PQ$ PS$ SK (α:=Nat) (0) (λi=>[(1,I (x:Int)),(11,ptr n11 0),(12,.func (.func 204) #[] #[ptr n11 0]),(18,.slice ha Q.2.length hc),(22,ptr b22 0),(138,.slice ha Q.2.length hc),(139,I (Q.2.length:Int)),(140,I (i:Int))]) (λi w'=>NuX w w1 w17 p b5 n11 (λk=>(Value.slice ha Q.2.length hc).ownBlock=some k\/k=b22) (A++B++C0++QV x p.interval none Q.1++QX x p.zeta none (Q.2.take i)) w'/\i<=Q.2.length) (λi=>Q.2.length-i) ?hI ?hround
       case hI=>exact⟨by simpa[QX] using mT,Nat.zero_le _⟩
       case hround=>
        rintro i w18 ⟨fA,hi⟩ ih
        try dsimp only
        refine qN O$ RT O$ PQ$ An$ Q8 O (λe5=>?_)$ λe5=>?_
        ·have dW:i<Q.2.length:=by omega
         obtain⟨v,hv⟩:∃v,Q.2[i]? =some v:=⟨_,List.getElem?_eq_getElem dW⟩;have yt:v<65536:=qK.lt v (List.mem_of_getElem? hv);have yu:=iO.kp fA.kx (λg hg e=>e (.inl hg))
         obtain⟨g5,c5,e6⟩:∃g c,Value.slice ha Q.2.length hc= .slice (some ⟨g,0,none⟩) Q.2.length c:=by
          rcases iO.shape with⟨-,h0⟩|⟨g,c,e,hc⟩
          ·omega
          ·exact⟨g,c,e⟩
         cases e6;obtain⟨F18,mh,qR,iA⟩:=fA.ex;have yv:=fA.kx.PN mg (λe=>e (.inr O));have sK:¬F18 b22:=λe=>iA b22 e (.inr O);have hg:=Ext.Qh w18;have C1:=fA.ex2 hg
         have qU:(A++B++C0++QV x p.interval none Q.1++QX x p.zeta none (Q.2.take i)).length<=500000:=by
          rw[List.length_append,UB,List.length_take];omega
         refine PR$ RP$ Qx O$ qV (Rh QE Ql O O ω)$ qV (QF RQ O O (Rf yu.rd (show(Q.2.map QJ)[i]? =some (QJ v) by rw[List.getElem?_map,hv];rfl))) ?_;refine TN O$ RZ O$ Ss O$ PQ$ Q8 O (λe6=>?_)$ λe6=>?_
         ·have gT:i=0:=by omega
          refine S5 (λw'=>Kp F18 w18 w') O$ Qi 0 O O (hg.kp)$ Qi 2 O O (hg.kp)$ PT 3 O (QU O RQ U2 ω) (hg.kp)$ Qi 4 O O (hg.kp)$ PT 5 O (YM O O ω) (hg.kp)$ qT 1 O (λ_ h=>QB (news:=[.int .u8 3,Qg p.zeta]) Tz O RX O ((h.PN yv sK).cells (n:=2) O) O) (hg.kp)$ T9 6 O zeW O (z9g ((v:Int)-x) ω _) ?_;rintro _ w19 ⟨rfl,rfl⟩;refine⟨hg.kp,?_⟩;have yw:=z0u (z:=(v:Int)-x) (n:=65537) ω ω;refine PT 7 O (QU O SL U3 ω) (hg.kp)$ qO 8$ Xr (i:=8) O O O (T6 z04 O O) (Ux (mh.ext hg) ω (.zeta p.zeta) (zig ((v:Int)-x)) ω) ?_;rintro _ w20 ⟨rfl,F20,uE,ol,uF⟩;refine⟨hg.kp.trans ol,?_⟩;have qW:=C1.put pU qR iA l5 z1 ⟨F20,uE,ol,uF⟩;refine qE$ PM$ PW O$ R7 O$ Q4 O$ PQ ((ih (i+1) _ ⟨?_,ω⟩ ω).qb);rw[QR hv,YG,<-List.append_assoc,show Q.2.take i=[] by rw[gT];rfl];rw[show Q.2.take i=[] by rw[gT];rfl] at qW;exact qW
         ·have gT:0<i:=by omega
          obtain⟨u,hu⟩:∃u,Q.2[i-1]? =some u:=⟨_,List.getElem?_eq_getElem ω⟩
          have DL:u<v:=by
           obtain⟨a1,a2⟩:=List.getElem?_eq_some_iff.1 hu;obtain⟨b1,b2⟩:=List.getElem?_eq_some_iff.1 hv;have:=List.pairwise_iff_getElem.1 qK.ris (i-1) i a1 b1 ω
           rwa [a2,b2] at this
          refine S5 (λw'=>Kp F18 w18 w') O$ Qi 0 O O (hg.kp)$ Qi 2 O O (hg.kp)$ Qi 3 O O (hg.kp)$ Qi 4 O O (hg.kp)$ qT 1 O (λ_ h=>QB (news:=[.int .u8 3,Qg p.zeta]) Tz O RX O ((h.PN yv sK).cells (n:=2) O) O) (hg.kp)$ PT 5 O (YM O O ω) (hg.kp) ?_;rw[show(i:Int)-1=((i-1:Nat):Int) by omega];refine PT 6 O (Rh QE Ql O O ω) (hg.kp)$ qT 7 O (λ_ hS=>QF RQ O O (Rf (yu.kp hS (λg hg e=>iA g e (.inl hg))).rd (show(Q.2.map QJ)[i-1]? =some (QJ u) by rw[List.getElem?_map,hu];rfl))) (hg.kp) ?_;refine PT 8 O (XK (m:=v) (n:=u) O O O (by show v<2^32;omega) ω) (hg.kp) ?_;refine PT 9 O (XK (m:=v-u) (n:=1) O O O (by show v-u<2^32;omega) ω) (hg.kp) ?_;refine PT 10 O (QU O RQ U3 ω) (hg.kp)$ qO 11$ Xr (i:=11) O O O (T6 z04 O O) (Ux (mh.ext hg) ω (.zeta p.zeta) (v-u-1) ω) ?_;rintro _ w20 ⟨rfl,F20,uE,ol,uF⟩;refine⟨hg.kp.trans ol,?_⟩;have qW:=C1.put pU qR iA l5 z1 ⟨F20,uE,ol,uF⟩;refine qE$ PM$ PW O$ R7 O$ Q4 O$ PQ ((ih (i+1) _ ⟨?_,ω⟩ ω).qb);rw[QR hv,YG,<-List.append_assoc,List.getLast?_take,if_neg ω,hu];exact qW
        ·have dq:i=Q.2.length:=by omega
         rw[dq,List.take_length] at fA;obtain⟨F,⟨vn,sI,ym⟩,qH,DH⟩:=id fA.ex;have DI:=sI.PN
         have jD:SG p x succ ref r=A++B++C0++QV x p.interval none Q.1++QX x p.zeta none Q.2:=by
          have kK:¬Qw succ ref=[]:=λe=>e3 (by rw[e];rfl);unfold SG;rw[if_neg jj,if_neg kK,hQ,hB,<-hA,<-DK];by_cases gT:0<p.interval
          ·simp only[if_pos gT,List.append_assoc,List.cons_append,List.nil_append]
          ·have dl:Q.1=[]:=by rw[<-hQ,show p.interval=0 by omega];exact Z3 _
           rw[dl];simp only[if_neg gT,List.append_assoc,List.cons_append,List.nil_append,QV]
         refine Q5 O$ qN O$ qV (PX z33 O O DI O)$ Qc O$ PO func183 O ?_;rw[jD];exact⟨_,rfl,sI.sl,λg hg=>by have:=qH g ((ym g).2 (.inr hg));omega,fA.ext⟩
      case iM=>
       refine SK (α:=Nat) (0) (λi=>[(1,I (x:Int)),(5,ptr b5 0),(11,ptr n11 0),(12,.func (.func 204) #[] #[ptr n11 0]),(18,v5),(19,I (z77 (z05 (Q.1.take i)))),(94,.slice fa Q.1.length fc),(95,I (Q.1.length:Int)),(96,I (i:Int))]) (λi w'=>NuX w w1 w13 p b5 n11 (λk=>(Value.slice fa Q.1.length fc).ownBlock=some k\/v5.ownBlock=some k) (A++B++C0++QV x p.interval none (Q.1.take i)) w'/\i<=Q.1.length) (λi=>Q.1.length-i) ?hI ?hround
       case hI=>exact⟨by simpa[QV] using yr,Nat.zero_le _⟩
       case hround =>
        rintro i w15 ⟨gD,hi⟩ ih
        try dsimp only
        refine qN O$ RT O$ PQ$ An$ Q8 O (λe5=>?_)$ λe5=>?_
        ·have dW:i<Q.1.length:=by omega
         obtain⟨⟨q1,q2⟩,hq⟩:∃q,Q.1[i]? =some q:=⟨_,List.getElem?_eq_getElem dW⟩;obtain⟨ok1,ok2,ok3,-⟩:=z0F Q.1 0 i (q1,q2) qQ hq;dsimp only at ok1 ok2 ok3;have OQ:q1+q2<=65536:=uD (q1,q2) (List.mem_of_getElem? hq) ok1;have DM:=mQ.kp gD.kx (λg hg e=>e (.inl hg))
         obtain⟨g4,c4,e4⟩:∃g c,Value.slice fa Q.1.length fc= .slice (some ⟨g,0,none⟩) Q.1.length c:=by
          rcases mQ.shape with⟨-,h0⟩|⟨g,c,e,hc⟩
          ·omega
          ·exact⟨g,c,e⟩
         cases e4;obtain⟨F15,gE,mR,jE⟩:=gD.ex;refine PR$ RP$ qN O$ qV (Rh zcx z27 O O ω)$ qV (QB (news:=[I (q1:Int),I (q2:Int)]) zl1 O z27 O (zcR DM.rd hq) O)$ PY O O (SE (cs:=[_,_]) z27 O) ?_;rintro _ w16 ⟨b21,rfl,Lm,bB,DN⟩;have z16:=bB.size;refine Qb O (QT (news:=[I (q1:Int),I (q2:Int)]) z27 O O O O DN ξ) ?_;rintro w17 ⟨gG,cR⟩;replace gG:Q7 w17 b21 [I (q1:Int),I (q2:Int)] 326:=gG;have dr:Ext w15 w17:=bB.It cR (λk e=>by omega);have mT:=gD.ex2 dr;have jk:¬F15 b21:=λe=>by have:=gE.lt e;omega
         have pN:¬F15 1:=λe=>by have:=mR 1 e;have:=hG.lt;omega
         have Ll:(A++B++C0++QV x p.interval none (Q.1.take i)).length<=400000:=by
          rw[List.length_append,List.length_append,TM,List.length_take,<-DK];split<;>simp only[List.length_cons,List.length_nil]<;>omega
         refine PQ$ QS O$ RT O$ PQ ?_;have sL:=mT.again (X':=(λk=>((Value.slice (some ⟨g4,0,none⟩) Q.1.length fc).ownBlock=some k\/v5.ownBlock=some k)\/k=b21)) (gE.ext dr) mR (λk hk hX=>by rcases hX with hX|e;exact jE k hk hX;exact jk (e▸hk));have Ln:=dr.size;have l21:=gG.lt
         have pU:∀k,(((Value.slice (some ⟨g4,0,none⟩) Q.1.length fc).ownBlock=some k\/v5.ownBlock=some k)\/k=b21)->k<w17.heap.size:=λk hk=>by
          rcases hk with e| e
          ·have:=(fx k e).2;have:=gD.kx.size;omega
          ·omega
         refine QH (λe' w'=>e'=[(1,I (x:Int)),(5,ptr b5 0),(11,ptr n11 0),(12,.func (.func 204) #[] #[ptr n11 0]),(18,v5),(21,ptr b21 0),(94,.slice (some ⟨g4,0,none⟩) Q.1.length fc),(95,I (Q.1.length:Int)),(96,I (i:Int))]/\NuX w w1 w17 p b5 n11 (λk=>((Value.slice (some ⟨g4,0,none⟩) Q.1.length fc).ownBlock=some k\/v5.ownBlock=some k)\/k=b21) (A++B++C0++QV x p.interval none (Q.1.take i)++[(.gamma,VS x (z05 (Q.1.take i)) q1)]) w') ?bS$ λbS=>?uG
         case bS=>
          rintro e' w18 ⟨rfl,fA⟩;obtain⟨F18,mh,qR,iA⟩:=fA.ex;have yx:=fA.kx.PN gG (λe=>e (.inr O));have oo:=fA.b5;replace oo:Q7 w18 b5 [I (p.Qq:Int),I (p.interval:Int),I (p.zeta:Int)] 260:=oo;refine Qx O$ qV (QB (news:=[.int .u8 1,Qg 0]) Tz O RX O ((fA.ext.PN hG).cells (n:=2) O) O)$ Qd z8R O$ qV ((PX U3 O O yx O))$ Qd VC O$ qV ((PX U3 O O oo O))$ SA O ?_;rw[show(q2:Int)-(p.interval:Int)=((q2-p.interval:Nat):Int) by omega];refine RB O O (T6 z04 O O) (Ux mh (by rw[List.length_append,List.length_singleton];omega) .gamma (q2-p.interval) ω) ?_;rintro _ w19 ⟨rfl,DO⟩;have yz:=fA.put pU qR iA l5 z1 DO;have sM:=yz.kx.PN gG (λe=>e (.inr O));refine PQ$ PW O$ Qd z4v O$ qV (PX U3 O O sM O)$ Qd z8R O$ qV (PX U3 O O sM O)$ R7 O$ SA O$ Qc O$ PM$ PW O$ R7 O$ Q4 O$ PQ ?_;rw[show(q1:Int)+q2-1=z77 (z05 (Q.1.take (i+1))) by rw[QR hq,zav];show _=((q1+q2-1:Nat):Int);omega];refine(ih (i+1) _ ⟨?_,ω⟩ ω).qb;rw[QR hq,z3n,<-List.append_assoc,show [(Cd.gamma,VS x (z05 (Q.1.take i)) q1),(Cd.gamma,q2-p.interval)]=[(Cd.gamma,VS x (z05 (Q.1.take i)) q1)]++[(Cd.gamma,q2-p.interval)] from rfl,<-List.append_assoc];exact mT.back yz (λk hk=> .inl hk)
         case uG=>
          have hg:=Ext.Qh w17;have C1:=sL.ex2 hg
          cases hE:z05 (Q.1.take i) with
          | none =>
            refine Q8 O (λe6=>?_)$ λe6=>?_
            ·refine S5 (λw'=>Kp F15 w17 w') O$ Qi 0 O O (hg.kp)$ PT 2 O (Qz z4v O) (hg.kp)$ qT 3 O (λ_ h=>PX U3 O O (h.PN gG jk) O) (hg.kp)$ Qi 4 O O (hg.kp)$ PT 5 O (YM O O ω) (hg.kp)$ qT 1 O (λ_ hS=>QB (news:=[.int .u8 1,Qg 0]) Tz O RX O ((hS.PN (mT.ext.PN hG) pN).cells (n:=2) O) O) (hg.kp)$ T9 6 O zeW O (z9g ((q1:Int)-x) ω _) ?_;rintro _ w18 ⟨rfl,rfl⟩;refine⟨hg.kp,?_⟩;have yw:=z0u (z:=(q1:Int)-x) (n:=65537) ω ω;refine PT 7 O (QU O SL U3 ω) (hg.kp)$ qO 8$ Xr (i:=8) O O O (T6 z04 O O) (Ux ((gE.ext dr).ext hg) ω .gamma (zig ((q1:Int)-x)) ω) ?_;rintro _ w19 ⟨rfl,F19,DP,yA,DQ⟩;refine⟨hg.kp.trans yA,?_⟩;refine qE ?_;exact(bS _ _ ⟨rfl,by rw[hE];exact C1.put pU mR (λk hk hX=>by rcases hX with hX|e;exact jE k hk hX;exact jk (e▸hk)) l5 z1 ⟨F19,DP,yA,DQ⟩⟩).qb
            ·exact absurd ψ e6
          | some z =>
            refine Q8 O (λe6=>?_)$ λe6=>?_
            ·exact absurd e6 (by show ¬((z:Int)<0);omega)
            ·have hz:=ok3 z hE;refine St O$ qV (QB (news:=[.int .u8 1,Qg 0]) Tz O RX O ((mT.ext.PN hG).cells (n:=2) O) O) ?_;rw[show z77 (some z)=(z:Int) from rfl];refine Qd z4v O$ qV (PX U3 O O gG O)$ Q4 O$ SA O$ SA O ?_;rw[show(q1:Int)-z-2=((q1-z-2:Nat):Int) by omega];refine RB O O (T6 z04 O O) (Ux (gE.ext dr) ω .gamma (q1-z-2) ω) ?_;rintro _ w18 ⟨rfl,DR⟩;refine PQ ?_;exact(bS _ _ ⟨rfl,by rw[hE];exact sL.put pU mR (λk hk hX=>by rcases hX with hX|e;exact jE k hk hX;exact jk (e▸hk)) l5 z1 DR⟩).qb
        ·have dq:i=Q.1.length:=by omega
         rw[dq,List.take_length] at gD;refine Q5 O ?_;exact(cz _ _ ⟨rfl,gD⟩).qb
     case dU=>
      refine Q8 O (λe4=>?_)$ λe4=>?_
      ·have gT:0<p.interval:=by omega
       obtain⟨F13,oq,uH,ot⟩:=qP.ex;refine St O$ qV (QB (news:=[.int .u8 1,Qg 0]) Tz O RX O ((qP.ext.PN hG).cells (n:=2) O) O)$ Q4 O$ SR zcx O$ RB O O (T6 z04 O O) (Ux oq ω .gamma Q.1.length ω) ?_;rintro _ w14 ⟨rfl,uI⟩;refine PQ$ Qy.qb (e:=[(1,_),(5,_),(11,_),(12,_),(17,_),(18,_)]) ?_;exact(aq _ _ ⟨rfl,by rw[if_pos gT];exact qP.put (λk hk=>(fx k hk).2) uH ot l5 z1 uI⟩).qb
      ·have gT:¬0<p.interval:=by omega
       refine PR ?_;exact(aq _ _ ⟨rfl,by rw[if_neg gT,List.append_nil];exact qP⟩).qb
   case gl =>
    refine Q8 O (λe2=>?_)$ λe2=>?_
    ·have uJ : 0 < r := by omega
     have qX:=Ul succ ref;rw[if_pos uJ] at aW
     generalize Sk succ ref=rs at qX qD aW
     obtain⟨l,m,rfl⟩:∃l m,rs=l++[m]:=⟨rs.dropLast,rs.getLast qX.ne,(List.dropLast_concat_getLast qX.ne).symm⟩;have uK:(l++[m]).length=l.length+1:=by simp
     have fu:l.length<=65537:=by have h1:=qX.z2W;rw[List.length_map,uK] at h1;omega
     rw[List.dropLast_concat,uK,Nat.add_sub_cancel] at aW;obtain⟨vr,C2,J0⟩:=id qD;rw[uK] at C2;rcases C2.sl.shape with⟨-,h0⟩|⟨g,c1,rfl,gS⟩
     ·omega
     have J1:=C2.PN;obtain⟨F,yn,hf,Lo⟩:=qG.ex;refine Qx O$ qV (QB (news:=[.int .u8 1,Qg 0]) Tz O RX O ((qG.ext.PN hG).cells (n:=2) O) O)$ qV (PX SC O O J1 O)$ SR SC O$ SA O ?_;rw[show((l.length+1:Nat):Int)-1=(l.length:Int) by omega];refine RB O O (T6 z04 O O) (Ux yn ω .gamma l.length ω) ?_;rintro _ w12 ⟨rfl,DS⟩;have iP:=qG.put yk hf Lo l5 z1 DS;have J2:=qD.kp iP.kx (λk hk e=>e (.inr hk));have sN:=iP.kx.PN J1 (λe=>e (.inr ((J0 rn).2 (.inl O))));refine qM O$ qV (PX SC O O sN O) ?_;rw[show((l.length+1:Nat):Int)=((l.length+1:Nat):Int) from rfl];refine qV (PX SC O O sN O)$ SR SC O$ SA O ?_;rw[show((l.length+1:Nat):Int)-1=(l.length:Int) by omega];refine qV (zeK SC Rl O O ω)$ SR SC O$ Q4 O$ PQ$ Qy.qb (e:=[(1,_),(5,_),(11,_),(12,_),(14,_),(60,_),(61,_),(62,_)]) ?_;refine PS$ SK (α:=Nat) (0) (λi=>[(1,I (x:Int)),(5,ptr b5 0),(11,ptr n11 0),(12,.func (.func 204) #[] #[ptr n11 0]),(14,ptr lf 0),(60,.slice (some ⟨g,0,none⟩) l.length c1),(61,I (l.length:Int)),(62,I (i:Int))]) (λi w'=>NuX w w1 w11 p b5 n11 (λk=>FL k\/FR k) (A++(Cd.gamma,l.length)::Rv 0 (l.take i)) w'/\i<=l.length) (λi=>l.length-i) ?hI ?hround
     case hI=>exact⟨iP,Nat.zero_le _⟩
     case hround =>
      rintro i w13 ⟨mU,hi⟩ ih
      try dsimp only
      refine qN O$ RT O$ PQ$ An$ Q8 O (λe3=>?_)$ λe3=>?_
      ·have dW:i<l.length:=by omega
       obtain⟨F13,oq,uH,ot⟩:=mU.ex;have DT:=C2.sl.kp mU.kx (λg2 hg e=>e (.inr ((J0 g2).2 (.inr hg))));have i7:(l++[m])[i]? =some l[i]:=by rw[List.getElem?_append_left dW,List.getElem?_eq_getElem dW]
       have iH:min i 1<=l[i]:=by
        rcases Nat.eq_zero_or_pos i with e| e
        ·omega
        ·have h1:=qX.pos l[i] (by
          rw[List.mem_iff_getElem?];refine⟨i-1,?_⟩
          rw[List.getElem?_drop,show 1+(i-1)=i by omega];exact i7)
         omega
       have kK:l[i]<=65536:=by
        have h1:=qX.le l[i] (List.mem_append_left _ (List.getElem_mem dW));rw[List.length_map] at h1;omega
       refine PR$ RP$ Qx O$ qV (Rh SC Rl O O ω)$ qV (QF U3 O O (Rf DT.rd (show((l++[m]).map z6P)[i]? =some (z6P l[i]) by rw[List.getElem?_map,i7];rfl))) ?_;refine Rt O$ St O$ qV (QB (news:=[.int .u8 1,Qg 0]) Tz O RX O ((mU.ext.PN hG).cells (n:=2) O) O)$ Qp O$ qV (ymi O O)$ SA O ?_;rw[show(l[i]:Int)-min (i:Int) 1=((l[i]-min i 1:Nat):Int) by omega];refine RB O O (T6 z04 O O) (Ux oq (by have h1:(Rv 0 (l.take i)).length=i:=(by rw[Un,List.length_take];omega);rw[List.length_append,List.length_cons];omega) .gamma (l[i]-min i 1) ω) ?_;rintro _ w14 ⟨rfl,uI⟩;have DU:=mU.put yk uH ot l5 z1 uI;refine PQ$ PM$ PW O$ R7 O$ Q4 O$ PQ ((ih (i+1) _ ⟨?_,ω⟩ ω).qb);rw[List.take_succ,List.getElem?_eq_getElem dW,Option.toList_some,ZP,List.length_take,Nat.min_eq_left hi,Nat.zero_add,<-List.cons_append,<-List.append_assoc];exact DU
      ·have dq:i=l.length:=by omega
       subst dq;rw[List.take_length] at mU;refine Q5 O ?_;exact(aW _ _ ⟨rfl,mU⟩).qb
    ·have uJ:¬0<r:=by omega
     refine PR ?_;exact(aW _ _ ⟨rfl,by rw[if_neg uJ,List.append_nil];exact qG⟩).qb
  case dg=>
   refine Q8 O (λe1=>?_)$ λe1=>?_
   ·have o4:0<p.Qq:=by omega
    obtain⟨F,yn,hf⟩:=xi.ex;refine St O$ qV (QB (news:=[.int .u8 0,Qg 0]) Tz O RX O ((xi.ext.PN hU).cells (n:=2) O) O)$ Q4 O$ RB O O (T6 z04 O O) (Ux yn ξ .unary r ω) ?_;rintro _ w5 ⟨rfl,uL⟩;refine PQ$ Qy.qb (e:=[(1,_),(2,_),(3,_),(4,_),(5,_),(10,_),(11,_),(12,_)]) ?_;exact(bF _ _ ⟨rfl,by rw[if_pos o4];exact xi.put hf l5 z1 uL⟩).qb
   ·have o4:¬0<p.Qq:=by omega
    refine PR ?_;exact(bF _ _ ⟨rfl,by rw[if_neg o4];exact xi⟩).qb
/-! ### The numbers can be encoded -/
def YN (k:Nat)(q:Cd×Nat):Prop:=(q.1= .unary/\q.2<=16)\/(q.1= .gamma/\q.2<=200000)\/(q.1= .zeta k/\q.2<=200000)
def z2s (k:Nat):∀(l:List Nat) (i:Nat),(∀n∈l,n<=65536)->∀q∈Rv i l,YN k q
 |[],i,h,q,hq=>by cases hq
 | n :: l, i, h, q, hq => by
   rw[Rv] at hq;rcases List.mem_cons.1 hq with e|hq
   ·subst e;have:=h n List.mem_cons_self;exact .inr (.inl ⟨rfl,by dsimp only;omega⟩)
   ·exact z2s k l (i+1) (λn hn=>h n (List.mem_cons_of_mem _ hn)) q hq
def z18 (k x least:Nat)(hx:x<65536):∀(R:List (Nat×Nat)) (e:Option Nat),(∀q∈R,q.1+q.2<=65536)->∀q∈QV x least e R,YN k q
 |[],e,h,q,hq=>by cases e<;>cases hq
 | p :: R, e, h, q, hq => by
   have hp:=h p List.mem_cons_self;rw[SV] at hq;rcases List.mem_cons.1 hq with e1|hq
   ·subst e1;refine .inr (.inl ⟨rfl,?_⟩)
    cases e with
    |none=>have:=z0u (z:=(p.1:Int)-x) (n:=65537) ω ω;show zig _<=_;omega
    |some z=>show p.1-z-2<=_;omega
   ·rcases List.mem_cons.1 hq with e1|hq
    ·subst e1;exact .inr (.inl ⟨rfl,by dsimp only;omega⟩)
    ·exact z18 k x least hx R _ (λq hq=>h q (List.mem_cons_of_mem _ hq)) q hq
def z1e (k x:Nat)(hx:x<65536):∀(l:List Nat) (e:Option Nat),(∀n∈l,n<65536)->∀q∈QX x k e l,YN k q
 |[],e,h,q,hq=>by cases e<;>cases hq
 | v :: l, e, h, q, hq => by
   have hv:=h v List.mem_cons_self;rw[U1] at hq;rcases List.mem_cons.1 hq with e1|hq
   ·subst e1;refine .inr (.inr ⟨rfl,?_⟩)
    cases e with
    |none=>have:=z0u (z:=(v:Int)-x) (n:=65537) ω ω;show zig _<=_;omega
    |some u=>show v-u-1<=_;omega
   ·exact z1e k x hx l _ (λn hn=>h n (List.mem_cons_of_mem _ hn)) q hq
def z6H {least:Nat}{l:List Nat}(h:QP l):(R4 least l).1.length<=65536:=by
 have h1:=(UP least l).length_eq
 rw[List.length_append] at h1
 have h4:∀(R:List (Nat×Nat)) (lo:Nat),Uc least lo R->R.length<=(S0 R).length:=by
  intro R
  induction R with
  |nil=>intro lo h;exact Nat.le_refl _
  | cons q R ih =>
    intro lo h;have h5:=ih _ h.2.2.2;have h6:1<=q.2:=h.2.1;rw[show S0 (q::R)=(List.range q.2).map (q.1+·)++S0 R from rfl,List.length_append,List.length_map,List.length_range,List.length_cons];omega
 have h5:=h4 _ 0 (Wk least l 0 h.ris (λy _=>Nat.zero_le _))
 have:=h.len
 omega
def z9A {least:Nat}{l:List Nat}(h:QP l):∀q∈(R4 least l).1,1<=q.2/\q.1+q.2<=65536:=λq hq=>by
 obtain⟨i,hi⟩:=List.mem_iff_getElem?.1 hq
 have h1:=(z0F _ 0 i q (Wk least l 0 h.ris (λy _=>Nat.zero_le _)) hi).1
 exact⟨h1,zct h.lt hq h1⟩
def z1L {p:Th}(hp:p.RE){x:Nat}(hx:x<65536){succ ref:List Nat}(hs:QP succ)(hr:QP ref){r:Nat}(jB:r<=p.Qq):∀q∈SG p x succ ref r,YN p.zeta q:=by
 obtain⟨g1,g2,g3,g4⟩:=id hp
 have az:QP (Qw succ ref):=hs.sub List.filter_sublist
 intro q hq
 unfold SG at hq
 have fU:=hs.len
 rcases List.mem_cons.1 hq with e|hq
 ·subst e;exact .inr (.inl ⟨rfl,by dsimp only;omega⟩)
 split at hq
 ·cases hq
 rcases List.mem_append.1 hq with hq|hq
 ·split at hq
  ·rcases List.mem_singleton.1 hq with e;subst e;exact .inl ⟨rfl,by dsimp only;omega⟩
  ·cases hq
 rcases List.mem_append.1 hq with hq|hq
 ·have qX:=Ul succ ref;have hl:=qX.z2W;have iy:=hr.len;rw[List.length_map] at hl;split at hq
  ·rcases List.mem_cons.1 hq with e|hq
   ·subst e;exact .inr (.inl ⟨rfl,by dsimp only;omega⟩)
   ·refine z2s _ _ _ (λn hn=>?_) q hq;have:=qX.le n (List.dropLast_subset _ hn);rw[List.length_map] at this;omega
  ·cases hq
 split at hq
 ·cases hq
 rcases List.mem_append.1 hq with hq|hq
 ·split at hq
  ·rcases List.mem_cons.1 hq with e|hq
   ·subst e;have:=z6H (least:=p.interval) az;exact .inr (.inl ⟨rfl,by dsimp only;omega⟩)
   ·exact z18 _ _ _ hx _ _ (λq hq=>(z9A az q hq).2) q hq
  ·cases hq
 ·exact z1e _ _ hx _ _ (λn hn=>az.lt n ((VQ p.interval _).subset hn)) q hq
def z7x (succ ref:List Nat)(hr:QP ref):(Sk succ ref).length<=65537:=by
 have hl:=(Ul succ ref).z2W
 rw[List.length_map] at hl
 have:=hr.len
 omega
def z5s {p:Th}{x:Nat}{succ ref:List Nat}(hs:QP succ)(hr:QP ref){r:Nat}:(SG p x succ ref r).length<=500000:=by
 have az:QP (Qw succ ref):=hs.sub List.filter_sublist
 have h1:=z7x succ ref hr
 have h2:=z6H (least:=p.interval) az
 have h3:=(az.sub (VQ p.interval (Qw succ ref))).len
 unfold SG
 rw[List.length_cons]
 split
 ·simp
 rw[List.length_append,List.length_append]
 have e1:(if 0<p.Qq then [(Cd.unary,r)] else []).length<=1:=by split<;>simp
 have e2:(if 0<r then(Cd.gamma,(Sk succ ref).length-1)::Rv 0 (Sk succ ref).dropLast else []).length<=65537:=by
  split
  ·rw[List.length_cons,Un,List.length_dropLast];omega
  ·simp
 have e3:(if Qw succ ref=[] then [] else(if 0<p.interval then(Cd.gamma,(R4 p.interval (Qw succ ref)).1.length)::QV x p.interval none (R4 p.interval (Qw succ ref)).1 else [])++QX x p.zeta none (R4 p.interval (Qw succ ref)).2).length<=200000:=by
  split
  ·simp
  ·rw[List.length_append,UB];split
   ·rw[List.length_cons,TM];omega
   ·simp;omega
 omega
def YN.RE {k:Nat}{q:Cd×Nat}(h:YN k q)(hk:1<=k/\k<=16):q.1.RE/\q.2<=q.1.most:=by
 rcases h with⟨e,h⟩|⟨e,h⟩|⟨e,h⟩
 ·rw[e];exact⟨trivial,by simp only[Cd.most];omega⟩
 ·rw[e];exact⟨trivial,by simp only[Cd.most];omega⟩
 ·rw[e];exact⟨hk,by simp only[Cd.most];omega⟩
def z4i {c:Cd}{v:Nat}(hc:c.RE)(hv:v<=c.most):(c.enc v).length<=65600:=by
 obtain⟨q1,q2,-⟩:=Ya hc hv
 rw[YA];omega
def zbH {L:List (Cd×Nat)}(h:∀q∈L,q.1.RE/\q.2<=q.1.most):(Qo L).length<=65600*L.length:=by
 induction L with
 |nil=>simp[Qo]
 | cons q L ih =>
   have h1:=ih (λq hq=>h q (List.mem_cons_of_mem _ hq));obtain⟨h2,h3⟩:=h q List.mem_cons_self;have h4:=z4i h2 h3;obtain⟨c,v⟩:=q;rw[Rj,List.length_append,List.length_cons];dsimp only at h4⊢;omega
theorem TD (a b:List (Cd×Nat)):Qo (a++b)=Qo a++Qo b:=List.flatMap_append
theorem Z2 (l:List (Cd×Nat))(q:Cd×Nat):Qo (l++[q])=Qo l++q.1.enc q.2:=by
 rw[TD];simp[Qo]
/-! ### An element of a slice of structs -/
def z2z {α:Type}{f:α->List Value}{k:Nat}(hk:∀a,(f a).length=k){w:World}{b off n cap i:Nat}{R:List α}{q:α}(h:Rd w (.slice (some ⟨b,off,none⟩) n cap) k n (R.flatMap f))(hq:R[i]? =some q):∀j u,(f q)[j]? =some u->w.cell? ⟨b,off+i*k+j,none⟩=some u:=by
 intro j u hj
 have m8:j<k:=by have:=(List.getElem?_eq_some_iff.1 hj).1;rwa [hk] at this
 have key:∀(R:List α) (i:Nat),R[i]? =some q->(R.flatMap f)[i*k+j]? =some u:=by
  intro R
  induction R with
  |nil=>intro i h;simp at h
  | cons a R ih =>
    intro i h;rw[List.flatMap_cons]
    cases i with
    | zero =>
      rw[List.getElem?_cons_zero] at h;cases h;rw[List.getElem?_append_left (by rw[hk];omega),Nat.zero_mul,Nat.zero_add]
      exact hj
    | succ i =>
      rw[List.getElem?_append_right (by rw[hk,Nat.add_mul];omega),hk,show(i+1)*k+j-k=i*k+j by rw[Nat.add_mul];omega];exact ih i h
 have me:=key R i hq
 have aR:=(List.getElem?_eq_some_iff.1 me).1
 rcases h.2 with⟨c,hc,h0⟩|⟨b',off',cap',e,hc⟩
 ·rw[h.1,h0,Nat.zero_mul] at aR;omega
 ·cases e;have:=hc (i*k+j) u me;rw[show off+i*k+j=off+(i*k+j) by omega];exact this
def z5A (q:Cd×Nat):(z8m q).length=3:=by
 obtain⟨c,v⟩:=q
 cases c<;>rfl
def WM {w:World}(p:Th)(hp:p.RE)(x:Nat)(hx:x<65536){sa ra:Option Addr}{sc rc:Nat}(succ ref:List Nat)(hs:QP succ)(hr:QP ref)(r:Nat)(jB:r<=p.Qq)(mM:r=0->ref=[])
  (hG:Q7 w 1 (Ts .gamma) 294) (hU:Q7 w 2 (Ts .unary) 294) (eI:Rd w (.slice sa succ.length sc) 1 succ.length (succ.map QJ)) (ob:Rd w (.slice ra ref.length rc) 1 ref.length (ref.map QJ)) (gh:succ.length<=sc) (oc:ref.length<=rc):
  Qu prog 148 [I (x:Int),.slice sa succ.length sc,.slice ra ref.length rc,I (r:Int),lpV p] w λu w'=>u= .tuple #[I ((Qo (SG p x succ ref r)).length:Int),I 0]/\Ext w w':=by
 obtain⟨g1,g2,g3,g4⟩:=id hp
 have az:=λq hq=>(z1L hp hx hs hr jB q hq).RE ⟨g3,g4⟩
 have fu:=z5s (p:=p) (x:=x) (r:=r) hs hr
 refine py (e:=[(0,_),(1,_),(2,_),(3,_),(4,_)]) func148 O ntmps148 O O$ qN O$ PY O O (Se O (cs:=lpC p) O) ?_
 rintro _ w1 ⟨b9,rfl,jg,ad,cF⟩
 replace cF:Q7 w1 b9 [I (p.Qq:Int),I (p.interval:Int),I (p.zeta:Int)] 260:=cF
 refine Rt O$ An$ qN O$ qV (QB (news:=lpC p) z0J O Vu O (cF.cells (n:=3) O) O)$ Qp O$ Qp O$ Qk ziB O (zce p hp x hx _ _ succ ref r hs hr jB mM w1 (eI.ext ad) (ob.ext ad)) ?_
 rintro _ w2 ⟨rfl,ae⟩
 refine qV ((T7 O))$ Re O$ RN O$ An$ qN O$ qV (QB (news:=lpC p) z0J O Vu O ((ae.PN cF).cells (n:=3) O) O) ?_
 have aI:=ad.trans ae
 refine Qp O$ Qp O$ Qk zfi O (z0i p hp x hx succ ref hs hr r jB mM (aI.PN hG) (aI.PN hU) (eI.ext aI) (ob.ext aI) gh oc) ?_
 rintro v w3 ⟨dj,qY,ah⟩
 have aZ:=aI.trans ah
 generalize SG p x succ ref r=L at az fu dj
 obtain⟨va,vc,rfl,-⟩:=dj.rd.shape
 refine SR z33 O$ Q4 O$ PQ$ PS$ SK (α:=Nat) (0) (λi=>[(12,I ((Qo (L.take i)).length:Int)),(29,.slice va L.length vc),(30,I (L.length:Int)),(31,I (i:Int))]) (λi w'=>Ext w3 w'/\i<=L.length) (λi=>L.length-i) ?hI ?hround
 case hI=>exact⟨Ext.refl _,Nat.zero_le _⟩
 case hround=>
  rintro i w4 ⟨aC,hi⟩ ih
  try dsimp only
  refine qN O$ RT O$ PQ$ An$ Q8 O (λh0=>?_)$ λh0=>?_
  ·have dW:i<L.length:=by omega
   obtain⟨⟨c,v⟩,hq⟩:∃q,L[i]? =some q:=⟨_,List.getElem?_eq_getElem dW⟩;obtain⟨xj,nO⟩:=az _ (List.mem_of_getElem? hq);dsimp only at xj nO
   obtain⟨g,c5,e4⟩:∃g c,Value.slice va L.length vc= .slice (some ⟨g,0,none⟩) L.length c:=by
    rcases dj.shape with⟨-,h0⟩|⟨g,c,e,hc⟩
    ·omega
    ·exact⟨g,c,e⟩
   cases e4;have kZ:=z2z z5A (dj.ext aC).rd hq;obtain⟨y,z,ou⟩:∃y z,Ts c=[y,z]:=by cases c<;>exact⟨_,_,rfl⟩
   have sB:cdV c= .agg [y,z].toArray:=by rw[cdV,ou]
   have jZ:z8m (c,v)=[y,z,Qg v]:=by show Ts c++_=_;rw[ou];rfl
   rw[jZ] at kZ;have fk:=z5T c v xj nO;rw[sB] at fk;have yB:oneV y=true/\oneV z=true:=by cases c<;>(cases ou;exact⟨rfl,rfl⟩)
   have eP:=zbH (L:=L.take i) (λq hq=>az q (List.mem_of_mem_take hq));rw[List.length_take] at eP;have pG:=z4i xj nO;refine PR$ RP$ qN O$ qV (Rh z33 WI O O ω)$ qV (QB (news:=[y,z,Qg v]) zkw O WI O kZ O)$ PY O O (SE (cs:=[_,_,_]) WI O) ?_;rintro _ w5 ⟨b14,rfl,ov,aU,cZ⟩;refine Qb O (QT (news:=[y,z,Qg v]) WI O O (by simp[yB.1,yB.2];rfl) O cZ ξ) ?_;rintro w6 ⟨eU,aL⟩;replace eU:Q7 w6 b14 [y,z,Qg v] 296:=eU;have z5:=aU.size;have aS:Ext w4 w6:=aU.It aL (λk e=>by omega);refine qM O$ Qd z9b O$ qV (QB (news:=[y,z]) Tz O RX O (eU.cells (n:=2) O) O)$ Qd z9z O$ qV (PX SL O O eU O)$ Qk zeU O (fk w6) ?_;rintro _ w7 ⟨rfl,cu⟩;refine Q4 O$ TK O$ Rt O$ PW O$ Qp O$ R7 O$ Qc O$ PM$ PW O$ R7 O$ Q4 O$ PQ ?_;rw[show((Qo (L.take i)).length:Int)+((c.enc v).length:Int)=((Qo (L.take (i+1))).length:Int) by rw[QR hq,Z2,List.length_append];dsimp only;omega];exact(ih (i+1) _ ⟨(aC.trans aS).trans cu,ω⟩ ω).qb
  ·have dq:i=L.length:=by omega
   rw[dq,List.take_length];refine Q5 O$ Qx O$ Rt O$ PO func148 O ?_;exact⟨_,rfl,rfl,aZ.trans aC⟩
def z1b {w:World}{wp:Nat}{bs:List Bool}{F:Nat->Prop}(h:Zs w wp bs F)(p:Th)(hp:p.RE)(x:Nat)(hx:x<65536){sa ra:Option Addr}{sc rc:Nat}(succ ref:List Nat)(hs:QP succ)(hr:QP ref)(r:Nat)(jB:r<=p.Qq)(mM:r=0->ref=[])
  (hG:Q7 w 1 (Ts .gamma) 294) (hU:Q7 w 2 (Ts .unary) 294) (eI:Rd w (.slice sa succ.length sc) 1 succ.length (succ.map QJ)) (ob:Rd w (.slice ra ref.length rc) 1 ref.length (ref.map QJ)) (gh:succ.length<=sc) (oc:ref.length<=rc)
  (hl:bs.length+(Qo (SG p x succ ref r)).length<=134217728):
  Qu prog 152 [ptr wp 0,I (x:Int),.slice sa succ.length sc,.slice ra ref.length rc,I (r:Int),lpV p] w λu w'=>u=I 0/\WrR wp F w w' (bs++Qo (SG p x succ ref r)):=by
 obtain⟨g1,g2,g3,g4⟩:=id hp
 have az:=λq hq=>(z1L hp hx hs hr jB q hq).RE ⟨g3,g4⟩
 have fu:=z5s (p:=p) (x:=x) (r:=r) hs hr
 refine py (e:=[(0,_),(1,_),(2,_),(3,_),(4,_),(5,_)]) func152 O ntmps152 O O$ qN O$ PY O O (Se O (cs:=lpC p) O) ?_
 rintro _ w1 ⟨b9,rfl,jg,ad,cF⟩
 replace cF:Q7 w1 b9 [I (p.Qq:Int),I (p.interval:Int),I (p.zeta:Int)] 260:=cF
 refine Qc O$ QS O$ qV (R9 z4M O O)$ Re O$ RI O$ Qp O$ qV (QB (news:=lpC p) z0J O Vu O (cF.cells (n:=3) O) O)$ Qk z58 O (WM p hp x hx succ ref hs hr r jB mM (ad.PN hG) (ad.PN hU) (eI.ext ad) (ob.ext ad) gh oc) ?_
 rintro _ w2 ⟨rfl,ae⟩
 have aI:=ad.trans ae
 have h2:=h.ext aI
 refine Q4 O$ TK O$ Rt O$ RP$ Qx O$ RA O$ Qc O$ PZ O$ RI O$ Qk z3B O (WC h2) ?_
 rintro _ w2 ⟨rfl,rfl⟩
 refine SA O$ RK O$ Qc O$ Qy.qb (e:=[(0,_),(1,_),(2,_),(3,_),(4,_),(11,_),(12,_),(32,_)]) ?_
 refine Q8 O (λe0=>?_)$ λe0=>?_
 ·omega
 ·refine PR$ PM$ An$ qN O$ qV (QB (news:=lpC p) z0J O Vu O ((ae.PN cF).cells (n:=3) O) O)$ Qp O$ Qp O$ Qk zfi O (z0i p hp x hx succ ref hs hr r jB mM (aI.PN hG) (aI.PN hU) (eI.ext aI) (ob.ext aI) gh oc) ?_;rintro v w3 ⟨dj,qY,ah⟩;have aZ:=aI.trans ah;have h3:=h.ext aZ;have z12:=aI.size;have z3:=ah.size;have kH:∀k,F k->k<w.heap.size:=λk hk=>h.lt hk
  generalize SG p x succ ref r=L at az fu dj hl
  obtain⟨va,vc,rfl,-⟩:=dj.rd.shape;refine SR z33 O$ Q4 O$ PQ$ PS$ SK (α:=Nat) (0) (λi=>[(0,ptr wp 0),(43,.slice va L.length vc),(44,I (L.length:Int)),(45,I (i:Int))]) (λi w'=>WrR wp F w3 w' (bs++Qo (L.take i))/\i<=L.length) (λi=>L.length-i) ?hI ?hround
  case hI=>exact⟨⟨F,by simpa[Qo] using h3,Kp.refl _ _,λk hk=> .inl hk⟩,Nat.zero_le _⟩
  case hround=>
   rintro i w4 ⟨⟨F4,mV,ar,qI⟩,hi⟩ ih
   try dsimp only
   refine qN O$ RT O$ PQ$ An$ Q8 O (λh0=>?_)$ λh0=>?_
   ·have dW:i<L.length:=by omega
    obtain⟨⟨c,v⟩,hq⟩:∃q,L[i]? =some q:=⟨_,List.getElem?_eq_getElem dW⟩;obtain⟨xj,nO⟩:=az _ (List.mem_of_getElem? hq);dsimp only at xj nO
    obtain⟨g,c5,e4⟩:∃g c,Value.slice va L.length vc= .slice (some ⟨g,0,none⟩) L.length c:=by
     rcases dj.shape with⟨-,h0⟩|⟨g,c,e,hc⟩
     ·omega
     ·exact⟨g,c,e⟩
    cases e4;have eH:=dj.kp ar (λg hg e=>by have:=qY g hg;have:=kH g e;omega);have kZ:=z2z z5A eH.rd hq;obtain⟨y,z,ou⟩:∃y z,Ts c=[y,z]:=by cases c<;>exact⟨_,_,rfl⟩
    have sB:cdV c= .agg [y,z].toArray:=by rw[cdV,ou]
    have jZ:z8m (c,v)=[y,z,Qg v]:=by show Ts c++_=_;rw[ou];rfl
    rw[jZ] at kZ;have yB:oneV y=true/\oneV z=true:=by cases c<;>(cases ou;exact⟨rfl,rfl⟩)
    refine PR$ RP$ qN O$ qV (Rh z33 WI O O ω)$ qV (QB (news:=[y,z,Qg v]) zkw O WI O kZ O)$ PY O O (SE (cs:=[_,_,_]) WI O) ?_;rintro _ w5 ⟨b14,rfl,ov,aU,cZ⟩;refine Qb O (QT (news:=[y,z,Qg v]) WI O O (by simp[yB.1,yB.2];rfl) O cZ ξ) ?_;rintro w6 ⟨eU,aL⟩;replace eU:Q7 w6 b14 [y,z,Qg v] 296:=eU;have z5:=aU.size;have aS:Ext w4 w6:=aU.It aL (λk e=>by omega);have z6:=aS.size;have z4:=ar.size
    have kK:(bs++Qo (L.take i)).length+(c.enc v).length<=134217728:=by
     have e1:(Qo L).length=(Qo (L.take i)).length+(c.enc v).length+(Qo (L.drop (i+1))).length:=by
      conv=>lhs;rw[<-List.take_append_drop (i+1) L,TD,QR hq,Z2]
      rw[List.length_append,List.length_append]
     rw[List.length_append];omega
    have mj:=zde (mV.ext aS) c v xj nO kK;rw[sB] at mj;refine PQ$ St O$ Qd z9b O$ qV (QB (news:=[y,z]) Tz O RX O (eU.cells (n:=2) O) O)$ Qd z9z O$ qV (PX SL O O eU O)$ Qk zio O (mj) ?_;rintro _ w7 ⟨rfl,F7,pI,aA,pJ⟩;refine PQ$ PM$ PW O$ R7 O$ Q4 O$ PQ ((ih (i+1) _ ⟨⟨F7,?_,(ar.trans aS.kp).It aA (λk hk=>(qI k hk).symm),λk hk=>?_⟩,ω⟩ ω).qb)
    ·rw[QR hq,Z2,<-List.append_assoc];exact pI
    ·rcases pJ k hk with e| e
     ·exact qI k e
     ·exact .inr ω
   ·have dq:i=L.length:=by omega
    rw[dq,List.take_length] at mV;refine Q5 O$ RN O$ PO func152 O ?_;exact⟨_,rfl,rfl,F4,mV,aZ.kp.trans ar,λk hk=>by rcases qI k hk with e|e;exact .inl e;exact .inr ω⟩
def YX (succ ref:List Nat)(r:Nat):List (Cd×Nat):=if 0<r then(.gamma,(Sk succ ref).length-1)::Rv 0 (Sk succ ref).dropLast else []
def z8Y (p:Th)(x:Nat)(succ ref:List Nat):List (Cd×Nat):=
 if Qw succ ref=[] then [] else(if 0<p.interval then(.gamma,(R4 p.interval (Qw succ ref)).1.length)::QV x p.interval none (R4 p.interval (Qw succ ref)).1 else [])++QX x p.zeta none (R4 p.interval (Qw succ ref)).2
def VM (p:Th)(x:Nat)(succ ref:List Nat)(r:Nat):List (Cd×Nat):=YX succ ref r++z8Y p x succ ref
def z2E (p:Th)(x:Nat){succ ref:List Nat}(r:Nat)(hs:succ≠[]):SG p x succ ref r=RF p succ.length r++VM p x succ ref r:=by
 unfold SG RF VM YX z8Y
 rw[if_neg hs,if_neg (λe=>hs (List.eq_nil_of_length_eq_zero e)),List.cons_append]
def z9m (p:Th)(x:Nat)(l:List Nat):List (Cd×Nat):=if 0<p.interval/\l≠[] then(.gamma,(R4 p.interval l).1.length)::QV x p.interval none (R4 p.interval l).1 else []
theorem z6m (p:Th)(x:Nat)(succ ref:List Nat):z8Y p x succ ref=z9m p x (Qw succ ref)++QX x p.zeta none (R4 p.interval (Qw succ ref)).2:=by
 unfold z8Y z9m
 by_cases e:Qw succ ref=[]
 ·rw[if_pos e,if_neg (λh=>h.2 e),e,R4];rfl
 ·rw[if_neg e];by_cases e2:0<p.interval
  ·rw[if_pos e2,if_pos ⟨e2,e⟩]
  ·rw[if_neg e2,if_neg (λh=>e2 h.1)]
structure TlI (w:World)(t r:Nat)(s:PV)(b7 b9:Nat)(n q:Nat)(p:Th)(O_:List Nat)(v:Value)(a:Nat)(w':World):Prop where
 tk:TkM w' t r s a
 kp:Kp (λk=>k=t\/k=r) w w'
 sl:Sl w' v 59 1 O_.length (O_.map QJ)
 fr:∀g,v.ownBlock=some g->w.heap.size<=g
 c7:Q7 w' b7 [I (n:Int),I (q:Int)] 308
 c9:Q7 w' b9 [I (p.Qq:Int),I (p.interval:Int),I (p.zeta:Int)] 260
 n7:w.heap.size<=b7
 n9:w.heap.size<=b9
 v7:v.ownBlock≠some b7
 v9:v.ownBlock≠some b9
def z4n (l:List Nat):∀c∈l.map QJ,c.oneCell'=true:=λc hc=>by
 obtain⟨y,-,rfl⟩:=List.mem_map.1 hc
 rfl
def TlI.app {w w1 w2 w3:World}{t r:Nat}{s:PV}{b7 b9 n q:Nat}{p:Th}{O_ M:List Nat}{v v3:Value}{a a2:Nat}(h:TlI w t r s b7 b9 n q p O_ v a w1)(ht:t<w.heap.size)(hr:r<w.heap.size)
  (hk:Kp (λk=>k=t\/k=r) w1 w2) (nS:TkM w2 t r s a2) (dj:Sl w3 v3 59 1 (O_.length+M.length) (O_.map QJ++M.map QJ)) (av:Kp (λk=>v.ownBlock=some k) w2 w3) (lU:∀g,v3.ownBlock=some g->v.ownBlock=some g\/w2.heap.size<=g):
  TlI w t r s b7 b9 n q p (O_++M) v3 a2 w3:=by
 have z1:=h.kp.size
 have z2:=hk.size
 have l7:=h.c7.lt
 have l9:=h.c9.lt
 have n7:=h.n7
 have n9:=h.n9
 have nI:∀k,k<w.heap.size->¬v.ownBlock=some k:=λk hk e=>by have:=h.fr k e;omega
 have cG:∀k,k<w1.heap.size->v.ownBlock≠some k->v3.ownBlock≠some k:=λk hk hv e=>by
  rcases lU k e with e| e
  ·exact hv e
  ·omega
 refine⟨⟨av.PN nS.PN (nI t ht),⟨av.PN nS.rd.1 (nI r hr),nS.rd.2⟩,nS.ne⟩,(h.kp.trans hk).It av (λk hk=> .inl (h.fr k hk)),by rw[List.length_append,List.map_append];exact dj,λg hg=>?_,av.PN (hk.PN h.c7 (λe=>by omega)) h.v7,av.PN (hk.PN h.c9 (λe=>by omega)) h.v9,n7,n9,cG _ l7 h.v7,cG _ l9 h.v9⟩
 rcases lU g hg with e| e
 ·exact h.fr g e
 ·omega
def zat {w:World}{t r a:Nat}{s:PV}(h:TkM w t r s a)(hG:Q7 w 1 (Ts .gamma) 294)(dm:¬1=r)(o2:¬1=t)(p:Th)(hp:p.RE)(x:Nat)(hx:x<65536){sa:Option Addr}{sc:Nat}(succ ref:List Nat)(hs:QP succ)(bE:succ≠[])(jF:succ.length<50)(jl:QP ref)
  (q:Nat) (hq:q<=p.Qq) (o3:q=0->ref=[]) (dh:∀w2,Kp (λk=>k=r) w w2->Rd w2 (.slice sa ref.length sc) 1 ref.length (ref.map QJ)) (fk:ref.length<=sc) (rest:List Bool) (hb:(Qm s).drop a=Qo (VM p x succ ref q)++rest):
  Qu prog 214 [ptr t 0,I (x:Int),.agg #[I (succ.length:Int),I (q:Int)],.slice sa ref.length sc,lpV p] w λu w'=>Sl w' u 59 1 succ.length (succ.map QJ)/\(∀g,u.ownBlock=some g->w.heap.size<=g)/\
   TkM w' t r s (a+(Qo (VM p x succ ref q)).length)/\Kp (λk=>k=t\/k=r) w w':=by
 obtain⟨g1,g2,g3,g4⟩:=id hp
 have lt0:=h.PN.lt
 have lr0:=h.rd.1.lt
 have jA:=z7Q hs.ris jl.ris p.interval
 have sO:=jA.length_eq
 rw[List.length_append,List.length_append] at sO
 have az:QP (Qw succ ref):=hs.sub List.filter_sublist
 have Lp:=(UP p.interval (Qw succ ref)).length_eq
 rw[List.length_append] at Lp
 unfold VM at hb⊢
 rw[TD,List.append_assoc] at hb
 rw[TD,List.length_append]
 refine py (e:=[(0,_),(1,_),(2,_),(3,_),(4,_)]) func214 O ntmps214 O O$ qN O$ PY O O (Se O (cs:=[I (succ.length:Int),I (q:Int)]) O) ?_
 rintro _ w1 ⟨b7,rfl,mH,ad,bU⟩
 refine PY O O (Se O (cs:=lpC p) O) ?_
 rintro _ w2 ⟨b9,rfl,jg,ae,cF⟩
 replace cF:Q7 w2 b9 [I (p.Qq:Int),I (p.interval:Int),I (p.zeta:Int)] 260:=cF
 have z1:=ad.size
 have z2:=ae.size
 have aI:=ad.trans ae
 have eE:=ae.PN bU
 refine S7 O$ Qc O$ An$ qN O$ Qd TA O$ qV (PX U3 O O eE O)$ RK O$ PQ$ QH (λe' w'=>∃v11,e'=[(0,ptr t 0),(1,I (x:Int)),(7,ptr b7 0),(9,ptr b9 0),(11,v11)]/\TlI w t r s b7 b9 succ.length q p (ref.filter λy=>decide (y∈succ)) v11 (a+(Qo (YX succ ref q)).length) w') ?bF$ λbF=>?dg
 case bF =>
  rintro e' w3 ⟨v11,rfl,h3⟩;have dP:=Tx hb;obtain⟨va,vc,rfl,-⟩:=h3.sl.rd.shape;have uM:=h3.c7;have da:=h3.c9;have DV:=h3.tk.PN;refine An$ qN O$ Qd Uy O$ qV ((PX U3 O O uM O))$ Q4 O$ SR QE O$ SA O ?_;rw[show(succ.length:Int)-((ref.filter λy=>decide (y∈succ)).length:Int)=((Qw succ ref).length:Int) by omega]
  generalize OR:(a+(Qo (YX succ ref q)).length)=a3 at h3 dP
  rw[z6m,TD,List.append_assoc] at dP;rw[z6m,TD,List.length_append];have Lq:p.interval=0->(R4 p.interval (Qw succ ref)).1=[]:=λe=>by rw[e];exact Z3 _
  have Lr:Qw succ ref=[]->R4 p.interval (Qw succ ref)=([],[]):=λe=>by rw[e,R4]
  have qQ:=Wk p.interval (Qw succ ref) 0 az.ris (λy _=>Nat.zero_le _);have uD:=λy hy=>(z9A (least:=p.interval) az y hy).2
  have J3:(R4 p.interval (Qw succ ref)).1.length<=(S0 (R4 p.interval (Qw succ ref)).1).length:=by
   have key:∀(R:List (Nat×Nat)) (lo:Nat),Uc p.interval lo R->R.length<=(S0 R).length:=by
    intro R
    induction R with
    |nil=>intro lo h;exact Nat.le_refl _
    | cons z R ih =>
      intro lo h;have h5:=ih _ h.2.2.2;have h6:1<=z.2:=h.2.1;rw[show S0 (z::R)=(List.range z.2).map (z.1+·)++S0 R from rfl,List.length_append,List.length_map,List.length_range,List.length_cons];omega
   exact key _ 0 qQ
  have DW:QP (R4 p.interval (Qw succ ref)).2:=az.sub (VQ p.interval _)
  generalize (ref.filter λy=>decide (y∈succ))=O1 at h3 jA sO
  have xl:z9m p x (Qw succ ref)=if 0<p.interval/\Qw succ ref≠[] then(.gamma,(R4 p.interval (Qw succ ref)).1.length)::QV x p.interval none (R4 p.interval (Qw succ ref)).1 else []:=rfl
  generalize z9m p x (Qw succ ref)=LT at dP xl
  generalize R4 p.interval (Qw succ ref)=Q at*
  generalize Qw succ ref=L1 at*
  have ub:L1=[]↔L1.length=0:=⟨λe=>by rw[e];rfl,List.eq_nil_of_length_eq_zero⟩;have fU:=hs.len;refine Qc O$ An$ QH (λe' w'=>∃s1:Bool,e'=[(0,ptr t 0),(1,I (x:Int)),(7,ptr b7 0),(9,ptr b9 0),(11,.slice va O1.length vc),(12,I (L1.length:Int)),(38,.bool s1)]/\w'=w3/\(s1=true↔0<p.interval/\L1≠[])) ?aW$ λaW=>?gl
  case aW =>
   rintro e' w4 ⟨s1,rfl,rfl,eA⟩;refine QH (λe' w'=>∃v11,e'=[(0,ptr t 0),(1,I (x:Int)),(7,ptr b7 0),(9,ptr b9 0),(11,v11)]/\TlI w t r s b7 b9 succ.length q p (O1++S0 Q.1) v11 (a3+(Qo LT).length) w') ?aq$ λaq=>?dU
   case aq =>
    rintro e' w5 ⟨v5,rfl,h5⟩;have gm:=Tx dP;obtain⟨va5,vc5,rfl,-⟩:=h5.sl.rd.shape;have mW:=h5.c7;have mX:=h5.c9;have DX:=h5.tk.PN;have J4:(O1++S0 Q.1).length=O1.length+(S0 Q.1).length:=List.length_append;refine An$ qN O$ Qd Uy O$ qV ((PX U3 O O mW O))$ Q4 O$ SR QE O$ SA O ?_;rw[show(succ.length:Int)-((O1++S0 Q.1).length:Int)=(Q.2.length:Int) by omega];refine Qc O$ An$ QH (λe' w'=>∃s2:Bool,e'=[(0,ptr t 0),(1,I (x:Int)),(7,ptr b7 0),(9,ptr b9 0),(11,.slice va5 (O1++S0 Q.1).length vc5),(13,I (Q.2.length:Int)),(60,.bool s2)]/\w'=w5/\(s2=true↔0<Q.2.length)) ?cz$ λcz=>?iM
    case cz=>
     rintro e' w6 ⟨s2,rfl,rfl,dy⟩;refine QH (λe' w'=>∃v11,e'=[(0,ptr t 0),(11,v11)]/\TlI w t r s b7 b9 succ.length q p (O1++S0 Q.1++Q.2) v11 (a3+(Qo LT).length+(Qo (QX x p.zeta none Q.2)).length) w') ?md$ λmd=>?oa
     case md=>
      rintro e' w7 ⟨v7,rfl,h7⟩;have sP:(O1++S0 Q.1++Q.2).length=succ.length:=by rw[List.length_append,J4];omega
      have Ls:0<succ.length:=List.length_pos_iff.2 bE;refine Qx O$ Qk zjA O (zbi h7.sl (λe=>by rw[e] at sP;simp at sP;omega) ω) ?_;rintro _ w8 ⟨rfl,aK,l',Lt,yC,dQ⟩;have Lu:l'=succ:=z7j ((Lt.trans (by rw[List.append_assoc])).trans jA) yC hs.ris;rw[Lu] at dQ;refine qM O$ Q4 O$ Qc O$ PO func214 O ?_;have e9:a+((Qo (YX succ ref q)).length+((Qo LT).length+(Qo (QX x p.zeta none Q.2)).length))=a3+(Qo LT).length+(Qo (QX x p.zeta none Q.2)).length:=by omega
      rw[e9];have nI:∀k,k<w.heap.size->¬v7.ownBlock=some k:=λk hk e=>by have:=h7.fr k e;omega
      refine⟨_,rfl,dQ,h7.fr,⟨aK.PN h7.tk.PN (nI t lt0),⟨aK.PN h7.tk.rd.1 (nI r lr0),h7.tk.rd.2⟩,h7.tk.ne⟩,h7.kp.It aK (λk hk=> .inl (h7.fr k hk))⟩
     case oa=>
      refine Rr O (λh2=>?_)$ λh2=>?_
      ·refine PW O$ Qp O$ Qp O$ Qd z1w O$ qV ((PX U3 O O mX O))$ qV ((Rp O U3 SL ω))$ qV (Tq (cs:=[_,_]) RX O zfX O O)$ Qk zky O (z8h h5.tk x p.zeta hx ⟨g3,g4⟩ Q.2 DW _ gm) ?_;rintro u6 w6 ⟨g8,nW,yg,aL⟩;have DY:=h5.sl.kp aL (λg hg e=>by have:=h5.fr g hg;omega);refine PY O O (pap QE Ql O ψ O O DY g8.rd (z4n _) ω (by simp only[maxLen];omega)) ?_;rintro v7 w7 ⟨i6,aA,Lv,-⟩;have h7:=h5.app lt0 lr0 aL yg i6 aA Lv;refine Qc O ?_;exact(md _ _ ⟨v7,rfl,h7⟩).qb
      ·have i9:Q.2=[]:=List.eq_nil_of_length_eq_zero (by
        rcases Nat.eq_zero_or_pos Q.2.length with e| e
        ·exact e
        ·rw[dy.2 e] at h2;cases h2)
       refine PR ((md _ _ ⟨_,rfl,?_⟩).qb);rw[i9,List.append_nil,show(Qo (QX x p.zeta none [])).length=0 from rfl,Nat.add_zero];exact h5
    case iM=>
     rcases Nat.eq_zero_or_pos Q.2.length with hz|hz
     ·refine St O$ RK O$ QW$ Q4 O$ S6$ S6$ qS$ QY O$ PQ ?_;exact(cz _ _ ⟨false,rfl,rfl,by simp[hz]⟩).qb
     ·refine St O$ RK O$ SM$ Qp O$ QA O$ Qd Va O$ qV ((PX U4 O O DX O))$ qV ((T7 O))$ Sa O$ PQ ?_;exact(cz _ _ ⟨true,rfl,rfl,by simp[hz]⟩).qb
   case dU=>
    refine Rr O (λh1=>?_)$ λh1=>?_
    ·obtain⟨ud,dl⟩:=eA.1 h1;rw[if_pos ⟨ud,dl⟩] at xl;refine PW O$ Qp O$ Qp O$ Qd VC O$ qV ((PX U3 O O da O)) ?_;rw[xl] at dP;refine Qk zhI O (zaM h3.tk (h3.kp.PN hG (λe=>by rcases e with e|e;exact o2 e;exact dm e)) dm o2 x L1.length p.interval hx ω ω Q.1 qQ uD ω ω _ dP) ?_;rintro u4 w4 ⟨eH,qI,yD,ar⟩;have DZ:=h3.sl.kp ar (λg hg e=>by have:=h3.fr g hg;omega);have OS:=eH.rd;have Lw:O1.length<=65536:=by omega
     refine PY O O (pap QE Ql O ψ O O DZ eH.rd (z4n _) ω (by simp only[maxLen];omega)) ?_;rintro v5 w5 ⟨fG,aj,Lx,-⟩;have h5:=h3.app lt0 lr0 ar yD fG aj Lx;refine Qc O ((aq _ _ ⟨v5,rfl,?_⟩).qb);rw[xl];exact h5
    ·have dl:¬(0<p.interval/\L1≠[]):=λe=>by rw[eA.2 e] at h1;cases h1
     have jh:Q.1=[]:=by
      by_cases e:L1=[]
      ·rw[Lr e]
      ·exact Lq (by by_cases e2:0<p.interval;exact absurd ⟨e2,e⟩ dl;omega)
     rw[if_neg dl] at xl;refine PR ((aq _ _ ⟨_,rfl,?_⟩).qb);rw[jh,xl,show S0 []=[] from rfl,List.append_nil,show(Qo []).length=0 from rfl,Nat.add_zero];exact h3
  case gl=>
   rcases Nat.eq_zero_or_pos L1.length with hz|hz
   ·refine St O$ RK O$ QW$ Q4 O$ S6$ qS$ QY O$ Q4 O$ S6$ S6$ qS$ QY O$ PQ$ Qy.qb (e:=[(0,_),(1,_),(7,_),(9,_),(11,_),(12,_),(38,_)]) ?_;exact(aW _ _ ⟨false,rfl,rfl,⟨λe=>(by cases e),λe=>absurd (ub.2 hz) e.2⟩⟩).qb
   ·rcases Nat.eq_zero_or_pos p.interval with nE|nE
    ·refine St O$ RK O$ SM$ Q4 O$ Qd VC O$ qV ((PX U3 O O da O))$ RK O$ QW$ Sa O$ Q4 O$ S6$ S6$ qS$ QY O ?_;refine PQ$ Qy.qb (e:=[(0,_),(1,_),(7,_),(9,_),(11,_),(12,_),(38,_)]) ?_;exact(aW _ _ ⟨false,rfl,rfl,by simp[nE]⟩).qb
    ·refine St O$ RK O$ SM$ Q4 O$ Qd VC O$ qV ((PX U3 O O da O))$ RK O$ SM$ Sa O$ Qp O$ QA O$ Qd Va O$ qV ((PX U4 O O DV O))$ qV ((T7 O)) ?_;refine Sa O$ PQ$ Qy.qb (e:=[(0,_),(1,_),(7,_),(9,_),(11,_),(12,_),(38,_)]) ?_;exact(aW _ _ ⟨true,rfl,rfl,⟨λ_=>⟨nE,λe=>(by have:=ub.1 e;omega)⟩,λ_=>rfl⟩⟩).qb
 case dg=>
  refine Q8 O (λh0=>?_)$ λh0=>?_
  ·have jh:0<q:=by omega
   have C3:=Ul succ ref;have jv:=C3.z2W;rw[List.length_map] at jv;have yE:=jl.len
   have yF:(Sk succ ref).sum=ref.length:=by
    have:=congrArg List.length C3.exp;rw[U7,List.length_map] at this;exact this
   have yG:=zbd succ ref;rw[show YX succ ref q=(.gamma,(Sk succ ref).length-1)::Rv 0 (Sk succ ref).dropLast from if_pos jh] at hb;obtain⟨l,m,i7⟩:∃l m,Sk succ ref=l++[m]:=⟨_,_,(List.dropLast_concat_getLast C3.ne).symm⟩;have iH:=C3.pos;rw[i7] at hb yF jv iH;rw[i7,List.dropLast_concat] at yG;rw[List.dropLast_concat,show(l++[m]).length-1=l.length by simp] at hb;rw[List.sum_append] at yF;rw[List.length_append,List.length_singleton] at jv;have h2:=h.ext aI
   have yH:∀m'∈l.drop 1,1<=m':=λm' ox=>iH m' (by
    cases l with
    |nil=>simp at ox
    |cons a l=>rw[List.cons_append,List.drop_succ_cons,List.drop_zero];rw[List.drop_succ_cons,List.drop_zero] at ox;exact List.mem_append_left _ ox)
   refine PW O$ Qp O$ Qk zix O (z5h h2 (aI.PN hG) dm ref l (λw5 k=>dh w5 (aI.kp.trans k)) fk yE ω ω yH _ hb) ?_;rintro v11 w3 ⟨dj,qY,qZ,av⟩;refine Qc O ((bF _ _ ⟨v11,rfl,?_⟩).qb);rw[yG] at dj;rw[show YX succ ref q=(.gamma,l.length)::Rv 0 l by unfold YX;rw[if_pos jh,i7,List.dropLast_concat,show(l++[m]).length-1=l.length by simp]];have l72:=eE.lt;have l92:=cF.lt;exact⟨qZ,aI.kp.trans (av.PU λk e=> .inr e),dj,λg hg=>by have:=qY g hg;omega,av.PN eE ω,av.PN cF ω,ω,ω,λe=>by have:=qY _ e;omega,λe=>by have:=qY _ e;omega⟩
  ·have jh:q=0:=by omega
   have E0:=o3 jh;subst E0;refine PR ((bF _ _ ⟨.slice none 0 0,rfl,?_⟩).qb);rw[show YX succ [] q=[] by unfold YX;rw[if_neg ω]];exact⟨h.ext aI,aI.kp,Sl.nil _ _ _,(λg hg=>by cases hg),eE,cF,ω,ω,(λe=>by cases e),(λe=>by cases e)⟩
def z6d {l b rest:List Bool}{a k n:Nat}(hb:l.drop a=b++rest)(hk:k+n<=b.length):(l.drop (a+k)).take n=(b.drop k).take n:=by
 rw[<-List.drop_drop,hb,List.drop_append_of_le_length ω,List.take_append_of_le_length (by rw[List.length_drop];omega)]
def zbe {w:World}{r a:Nat}{s:PV}(p:Th)(hp:p.RE)(x:Nat)(hx:x<65536){la ra:Option Addr}{lc rc:Nat}(succ ref:List Nat)(hs:QP succ)(bE:succ≠[])(jl:QP ref)
  (q:Nat) (hq:q<=p.Qq) (o3:q=0->ref=[]) (hG:Q7 w 1 (Ts .gamma) 294) (hU:Q7 w 2 (Ts .unary) 294) (eI:Rd w (.slice la succ.length lc) 1 succ.length (succ.map QJ)) (ob:Rd w (.slice ra ref.length rc) 1 ref.length (ref.map QJ)) (gh:succ.length<=lc) (oc:ref.length<=rc)
  (hl:(Qo (SG p x succ ref q)).length<=134217728) (rest:List Bool) (hb:(Qm s).drop a=Qo (VM p x succ ref q)++rest) (h:V7 w r s (a+(Qo (VM p x succ ref q)).length)):
  Qu prog 215 [lpV p,ptr r 0,I (a:Int),I (x:Int),.agg #[I (succ.length:Int),I (q:Int)],.slice la succ.length lc,.slice ra ref.length rc] w λu w'=>u= .bool true/\V7 w' r s (a+(Qo (VM p x succ ref q)).length)/\Kp (λk=>k=r) w w':=by
 have lr0:=h.1.lt
 have l10:=hG.lt
 have l20:=hU.lt
 have fU:=hs.len
 have oy:=z2E p x (ref:=ref) q bE
 have C4:Qo (SG p x succ ref q)=Qo (RF p succ.length q)++Qo (VM p x succ ref q):=by rw[oy,TD]
 have eP:(Qo (SG p x succ ref q)).length=(Qo (RF p succ.length q)).length+(Qo (VM p x succ ref q)).length:=by rw[oy,TD,List.length_append]
 generalize Qo (VM p x succ ref q)=TB at*
 have sQ:succ.length≠0:=λe=>bE (List.eq_nil_of_length_eq_zero e)
 refine py (e:=[(0,_),(1,_),(2,_),(3,_),(4,_),(5,_),(6,_)]) func215 O ntmps215 O O$ qN O$ PY O O (Se O (cs:=lpC p) O) ?_
 rintro _ w1 ⟨b7,rfl,mH,ad,bU⟩
 refine PY O O (Se O (cs:=[I (succ.length:Int),I (q:Int)]) O) ?_
 rintro _ w2 ⟨b11,rfl,jw,ae,bj⟩
 have aI:=ad.trans ae
 have z1:=ad.size
 have z2:=ae.size
 have eE:=ae.PN bU
 have h2:V7 w2 r s (a+TB.length):=⟨aI.PN h.1,h.2⟩
 refine RZ O$ Qk ZW O (Vw h2) ?_
 rintro _ w2 ⟨rfl,rfl⟩
 refine S7 O$ Qk z1T O (VW w2) ?_
 rintro _ w3 ⟨wp,F,rfl,nJ,ah,rf⟩
 have z3:=ah.size
 have aZ:=aI.trans ah
 have mm:=ah.PN bj
 have uM:=ah.PN eE
 refine Qc O$ An$ RI O$ Qp O$ Qd TA O$ qV (PX U3 O O mm O)$ qV (QB (news:=lpC p) z0J O Vu O (uM.cells (n:=3) O) O)$ Qk zf5 O (z1b nJ p hp x hx succ ref hs jl q hq o3 (aZ.PN hG) (aZ.PN hU) (eI.ext aZ) (ob.ext aZ) gh oc (by simpa using hl)) ?_
 rintro _ w4 ⟨rfl,F4,mV,ar,qI⟩
 rw[List.nil_append] at mV
 have z4:=ar.size
 have dA:Ext w2 w4:=ah.It ar rf
 refine RA O$ Re O$ Qx O$ Qk z9D O (Yd mV) ?_
 rintro _ w4 ⟨rfl,rfl⟩
 refine Q4 O$ TK O$ Rt O$ Qy.qb (e:=[(1,_),(2,_),(7,_),(14,_),(15,_),(16,_),(17,_)]) ?_
 refine Qx O ?_
 have gj:(Qv (Qo (SG p x succ ref q))).length<=16777217:=by rw[QN];omega
 refine Qk z9F O (Yk (Qv (Qo (SG p x succ ref q))) ω w4) ?_
 rintro _ w5 ⟨ow,rfl,kG,aU,OT⟩
 have iQ:=dA.trans aU
 have bV:=aI.trans iQ
 obtain⟨z,nR,nE,OU⟩:=Tw (Qo (SG p x succ ref q))
 have C5:(Qm (Qv (Qo (SG p x succ ref q)))).drop 0=Qo (RF p succ.length q)++(TB++List.replicate z false):=by
  rw[nR,List.drop_zero,C4,List.append_assoc]
 refine Qc O$ QS O$ qV (QB (news:=lpC p) z0J O Vu O ((iQ.PN eE).cells (n:=3) O) O)$ Qk zfe O (z3y kG p hp (bV.PN hG) (bV.PN hU) ω ω succ.length q ω hq (λe=>absurd e sQ) _ C5) ?_
 rintro _ w6 ⟨rfl,gU,aL⟩
 rw[Nat.zero_add] at gU
 have iR:Ext w2 w6:=iQ.It aL (λk e=>by omega)
 have uN:=Tx C5
 rw[Nat.zero_add] at uN
 generalize (Qv (Qo (SG p x succ ref q)))=os at*
 have z6:=iR.size
 refine Q4 O$ TK O$ PY O O (SE (cs:=[_,_]) Tv O) ?_
 rintro _ w7 ⟨b20,rfl,Ly,cu,E1⟩
 refine Qb O (QT (news:=[I (succ.length:Int),I (q:Int)]) Tv O O O O E1 ξ) ?_
 rintro w8 ⟨J5,aK⟩
 have iS:Ext w6 w8:=cu.It aK (λk e=>by omega)
 have jG:=iR.trans iS
 have h8:V7 w8 r s (a+TB.length):=⟨jG.PN h2.1,h2.2⟩
 have lV:V7 w8 ow os (Qo (RF p succ.length q)).length:=⟨iS.PN gU.1,gU.2⟩
 have tY:Zs w8 wp (Qo (SG p x succ ref q)) F4:=((mV.ext aU).kp aL (λi hi e=>by have:=mV.lt hi;omega)).ext iS
 refine RZ O$ RA O$ Qp O$ Qk z3B O (WC tY) ?_
 rintro _ w8 ⟨rfl,rfl⟩
 refine Q4 O$ Qk ZW O (Vw lV) ?_
 rintro _ w8 ⟨rfl,rfl⟩
 refine SA O ?_
 rw[show((Qo (SG p x succ ref q)).length:Int)-((Qo (RF p succ.length q)).length:Int)=(TB.length:Int) by omega]
 refine Qp O$ SA O ?_
 rw[show((a+TB.length:Nat):Int)-(a:Int)=(TB.length:Int) by omega]
 refine RA O$ QW$ QY O$ PQ$ Qy.qb (e:=[(1,_),(2,_),(14,_),(15,_),(19,_),(64,_)]) ?_
 refine TT O$ RI O$ Qk zbK O (z0P h8 a (by have:=h8.2.1;omega)) ?_
 rintro _ w9 ⟨rfl,h9,ax⟩
 have pK:V7 w9 ow os (Qo (RF p succ.length q)).length:=⟨ax.PN lV.1 ω,lV.2⟩
 refine PQ$ RP$ SK (α:=Nat) (0) (λk=>[(1,ptr r 0),(15,I ((a+TB.length:Nat):Int)),(19,ptr ow 0)]) (λk w'=>V7 w' r s (a+k)/\V7 w' ow os ((Qo (RF p succ.length q)).length+k)/\Kp (λi=>i=r\/i=ow) w9 w'/\k<=TB.length) (λk=>TB.length-k) ?hI ?hround
 case hI=>exact⟨h9,pK,Kp.refl _ _,Nat.zero_le _⟩
 case hround=>
  rintro k w10 ⟨eL,mY,aB,OV⟩ ih
  try dsimp only
  refine QS O$ Qk ZW O (Vw eL) ?_;rintro _ w10 ⟨rfl,rfl⟩;refine Q4 O$ RT O$ PQ$ Q8 O (λh0=>?_)$ λh0=>?_
  ·refine PR$ PS$ RI O$ Qk ZW O (Vw eL) ?_;rintro _ w10 ⟨rfl,rfl⟩;refine SA O ?_;rw[show((a+TB.length:Nat):Int)-((a+k:Nat):Int)=((TB.length-k:Nat):Int) by omega];refine qV (ymi O O) ?_;rw[show min (64:Int) ((TB.length-k:Nat):Int)=((min 64 (TB.length-k):Nat):Int) by omega];obtain⟨n,hn,dl,kj,E2⟩:∃n,min 64 (TB.length-k)=n/\1<=n/\n<=64/\k+n<=TB.length:=⟨_,rfl,ω,ω,ω⟩;rw[hn];have xm:=eL.2.1;have fO:=z6d hb E2;have nH:=z6d uN E2;have IE:a+TB.length<=8*s.length:=h8.2.1
   have sy:(Qo (RF p succ.length q)).length+TB.length<=8*os.length:=by
    have e:=congrArg List.length uN;rw[List.length_drop,bitsT_length,List.length_append] at e;omega
   refine S7 O$ Qp O$ Qk z5Q O (WE eL n kj) ?_;rintro v11 w11 hv
   have ju:v11= .tuple #[Qg (QL (((Qm s).drop (a+k)).take n)),I 0]/\V7 w11 r s (a+k+n)/\Kp (λk=>k=r) w10 w11:=by
    rcases hv with hv|hv
    ·exact hv.2
    ·omega
   obtain⟨rfl,qm,bz⟩:=ju;rw[fO];have E3:V7 w11 ow os ((Qo (RF p succ.length q)).length+k):=⟨bz.PN mY.1 ω,mY.2⟩;refine Q4 O$ TK O$ TN O$ S7 O$ Qp O$ Qk z5Q O (WE E3 n kj) ?_;rintro v12 w12 hv
   have ju:v12= .tuple #[Qg (QL (((Qm os).drop ((Qo (RF p succ.length q)).length+k)).take n)),I 0]/\V7 w12 ow os ((Qo (RF p succ.length q)).length+k+n)/\Kp (λk=>k=ow) w11 w12:=by
    rcases hv with hv|hv
    ·exact hv.2
    ·omega
   obtain⟨rfl,E4,bA⟩:=ju;rw[nH];have E5:V7 w12 r s (a+k+n):=⟨bA.PN qm.1 ω,qm.2⟩;refine Q4 O$ TK O$ TN O$ S7 O$ Qp O$ RA O$ PQ$ Q8 O (λh1=>?_)$ λh1=>?_
   ·exact absurd O h1
   ·refine PR$ PM ((ih (k+n) _ ⟨by rw[<-Nat.add_assoc];exact E5,by rw[<-Nat.add_assoc];exact E4,(aB.trans (bz.PU λi e=> .inl e)).trans (bA.PU λi e=> .inr e),E2⟩ ω).qb)
  ·have ko:k=TB.length:=by omega
   subst ko;refine Q5 O$ RN O$ PO func215 O ?_;exact⟨_,rfl,rfl,eL,((aI.trans jG).kp.trans ax).It aB (λi hi=>by rcases hi with e|e;exact .inr e;exact .inl ω)⟩
def z1n {w:World}{r a:Nat}{s:PV}(h:V7 w r s a)(p:Th)(hp:p.RE)(x:Nat)(hx:x<65536)(N:Nat)(hN:N<=65536){ra:Option Addr}{rc:Nat}(succ ref:List Nat)(hs:QP succ)(bE:succ≠[])(jF:succ.length<50)(E6:∀y∈succ,y<N)(jl:QP ref)
  (q:Nat) (hq:q<=p.Qq) (o3:q=0->ref=[]) (hG:Q7 w 1 (Ts .gamma) 294) (hU:Q7 w 2 (Ts .unary) 294) (dm:¬1=r) (dv:¬2=r) (dh:∀w2,Kp (λk=>k=r) w w2->Rd w2 (.slice ra ref.length rc) 1 ref.length (ref.map QJ)) (oc:ref.length<=rc)
  (hl:(Qo (SG p x succ ref q)).length<=134217728) (rest:List Bool) (hb:(Qm s).drop a=Qo (VM p x succ ref q)++rest):
  Qu prog 196 [ptr r 0,I (x:Int),I (N:Int),.agg #[I (succ.length:Int),I (q:Int)],.slice ra ref.length rc,lpV p] w λu w'=>∃v,u= .tuple #[v,I 0]/\Sl w' v 59 1 succ.length (succ.map QJ)/\(∀g,v.ownBlock=some g->w.heap.size<=g)/\V7 w' r s (a+(Qo (VM p x succ ref q)).length)/\Kp (λk=>k=r) w w':=by
 obtain⟨g1,g2,g3,g4⟩:=id hp
 have lr0:=h.1.lt
 have l10:=hG.lt
 have l20:=hU.lt
 have fU:=hs.len
 have iy:=jl.len
 have sQ:0<succ.length:=List.length_pos_iff.2 bE
 refine py (e:=[(0,_),(1,_),(2,_),(3,_),(4,_),(5,_)]) func196 O ntmps196 O O$ qN O$ PY O O (Se O (cs:=[I (succ.length:Int),I (q:Int)]) O) ?_
 rintro _ w1 ⟨b9,rfl,jg,ad,cF⟩
 refine PY O O (Se O (cs:=lpC p) O) ?_
 rintro _ w2 ⟨b11,rfl,jw,ae,bj⟩
 replace bj:Q7 w2 b11 [I (p.Qq:Int),I (p.interval:Int),I (p.zeta:Int)] 260:=bj
 have aI:=ad.trans ae
 have z1:=ad.size
 have z2:=ae.size
 have dK:=ae.PN cF
 have l9:=dK.lt
 have l11:=bj.lt
 have l90:=cF.lt
 refine Rt O$ An$ QH (λe' w'=>e'=[(0,ptr r 0),(1,I (x:Int)),(2,I (N:Int)),(4,.slice ra ref.length rc),(9,ptr b9 0),(11,ptr b11 0)]/\Ext w2 w') ?kq$ λkq=>?E8
 case kq=>
  rintro e' w3 ⟨rfl,ah⟩;have ct:=aI.trans ah;have h3:V7 w3 r s a:=⟨ct.PN h.1,h.2⟩;have da:=ah.PN dK;have mm:=ah.PN bj;have z3:=ah.size;refine Qx O$ Qk ZW O (Vw h3) ?_;rintro _ w3 ⟨rfl,rfl⟩;refine RZ O$ qV (Tq (cs:=[_,_]) zi3 O zij O O)$ PY O O (Se O (cs:=[ptr r 0,.bool false]) O) ?_;rintro _ w4 ⟨tb,rfl,Lz,aC,LA⟩;have z4:=aC.size;have ce:=ct.trans aC;have h4:TkM w4 tb r s a:=⟨LA,⟨aC.PN h3.1,h3.2⟩,ω⟩;refine S7 O$ Qp O$ qV (QB (news:=[I (succ.length:Int),I (q:Int)]) z6k O Tv O ((aC.PN da).cells (n:=2) O) O)$ Q4 O$ qV (QB (news:=lpC p) z0J O Vu O ((aC.PN mm).cells (n:=3) O) O)$ Qk zhU O (zat h4 (ce.PN hG) dm ω p hp x hx succ ref hs bE jF jl q hq o3 (λw2 k=>dh w2 (ce.kp.trans k)) oc rest hb) ?_;rintro v w5 ⟨fG,uC,C6,aj⟩;have cO:Kp (λk=>k=r) w w5:=ce.kp.It aj (λi hi=>by rcases hi with e|e;exact .inl ω;exact .inr e);have mX:=aj.PN (aC.PN da) ω;have yI:=aj.PN (aC.PN mm) ω;have LB:=C6.PN;have LC:=cO.PN hG dm;have LD:=cO.PN hU dv;have bP:=dh w5 cO;have xV:∀g,v.ownBlock=some g->w.heap.size<=g:=λg hg=>by have:=uC g hg;have:=ce.size;omega
  obtain⟨va,vc,rfl,C7⟩:=fG.rd.shape
  have E7:succ.length<=vc:=by
   rcases fG.shape with⟨-,h0⟩|⟨g,c1,hv,gS⟩
   ·omega
   ·cases hv;exact gS
  refine Qc O$ QS O$ QA O$ Qd Va O$ qV ((PX U4 O O LB O))$ Qp O$ SR QE O$ Qd Uy O$ qV ((PX U3 O O mX O))$ RA O$ QW$ QY O$ Qp O$ Qk z5n O (XU _ succ hs w5 fG.rd) ?_;rintro _ w5 ⟨rfl,rfl⟩;refine qV ((T7 O))$ QY O$ Qp O$ SR QE O$ Ss O$ QW$ QY O$ Qp O$ Q4 O$ SR QE O$ SA O ?_;rw[show(succ.length:Int)-1=((succ.length-1:Nat):Int) by omega];obtain⟨y,hy⟩:∃y,succ[succ.length-1]? =some y:=⟨_,List.getElem?_eq_getElem ω⟩;have OW:=E6 y (List.mem_of_getElem? hy)
  obtain⟨g5,c5,e5⟩:∃g c,Value.slice va succ.length vc= .slice (some ⟨g,0,none⟩) succ.length c:=by
   rcases fG.shape with⟨-,h0⟩|⟨g,c,e,hc⟩
   ·omega
   ·exact⟨g,c,e⟩
  cases e5;refine qV (Rh QE Ql O O ω)$ qV (QF RQ O O (Rf fG.rd (show(succ.map QJ)[succ.length-1]? =some (QJ y) by rw[List.getElem?_map,hy];rfl))) ?_;refine qV (QU O RQ U3 ω)$ Q4 O$ UZ O$ QW$ QY O$ Q4 O$ qV (QB (news:=lpC p) z0J O Vu O (yI.cells (n:=3) O) O)$ Qp O$ Q4 O$ qV (QB (news:=[I (succ.length:Int),I (q:Int)]) z6k O Tv O (mX.cells (n:=2) O) O)$ Qp O$ Qk zkz O (zbe p hp x hx succ ref hs bE jl q hq o3 LC LD fG.rd bP E7 oc hl rest hb C6.rd) ?_;rintro _ w6 ⟨rfl,h6,aL⟩;refine qV ((T7 O))$ QY O$ PQ$ Qy.qb (e:=[(0,_),(14,_),(16,_),(134,_)]) ?_;refine TT O$ Qx O$ Rt O$ PO func196 O ?_;exact⟨_,rfl,_,rfl,fG.kp aL (λg hg e=>by have:=xV g hg;omega),xV,h6,cO.trans aL⟩
 case E8=>
  refine PS$ Qx O$ qV (R9 Wx O O)$ Qc O$ PZ O$ An$ qN O$ qV (QB (news:=lpC p) z0J O Vu O (bj.cells (n:=3) O) O)$ Qk z5W O (Vj p hp w2) ?_;rintro _ w3 ⟨rfl,ah⟩;refine RA O$ Qp O$ Qk z9l O (WW x hx w3) ?_;rintro _ w3 ⟨rfl,rfl⟩;refine qV ((T7 O))$ QY O$ Qp O$ RT O$ QW$ QY O$ Qp O$ RK O$ QW$ QY O$ Qp O$ Qk z5n O (XU _ ref jl w3 (dh w3 (aI.trans ah).kp)) ?_;rintro _ w3 ⟨rfl,rfl⟩;refine qV ((T7 O))$ QY O$ Qc O$ Qy.qb (e:=[(0,_),(1,_),(2,_),(4,_),(9,_),(11,_),(12,_),(13,_),(20,_)]) ?_;refine PZ O$ PW O$ Qd Uy O$ qV ((PX U3 O O (ah.PN dK) O))$ RT O$ QW$ Q4 O$ Qd Uy O$ qV ((PX U3 O O (ah.PN dK) O))$ RK O$ QW$ QY O$ Q4 O$ Qd TA O ?_;refine qV ((PX U3 O O (ah.PN dK) O))$ RT O$ QW$ QY O$ Q4 O$ Qd TA O$ qV ((PX U3 O O (ah.PN dK) O))$ Qd UJ O$ qV ((PX U3 O O (ah.PN bj) O))$ RK O$ QW$ QY O$ Q4 O ?_;rcases Nat.eq_zero_or_pos q with e0|e0
  ·have LE:ref.length=0:=by rw[o3 e0];rfl
   refine Qd TA O$ qV ((PX U3 O O (ah.PN dK) O))$ Ss O$ SM$ Qp O$ SR QE O$ RK O$ QW$ Sa O$ QY O$ Qc O$ Qy.qb (e:=[(0,_),(1,_),(2,_),(4,_),(9,_),(11,_),(12,_),(13,_),(20,_)]) ?_;refine PZ O$ qN O$ Qd Uy O$ qV ((PX U3 O O (ah.PN dK) O))$ Ss O$ QW$ Q4 O$ S6$ qS$ QY O$ Qc O$ TT O$ PM ?_;exact(kq _ _ ⟨rfl,ah⟩).qb
  ·refine Qd TA O$ qV ((PX U3 O O (ah.PN dK) O))$ Ss O$ QW$ Q4 O$ S6$ qS$ QY O$ QY O$ Qc O$ Qy.qb (e:=[(0,_),(1,_),(2,_),(4,_),(9,_),(11,_),(12,_),(13,_),(20,_)]) ?_;refine PZ O$ qN O$ Qd Uy O$ qV ((PX U3 O O (ah.PN dK) O))$ Ss O$ QW$ Q4 O$ S6$ qS$ QY O$ Qc O$ TT O$ PM ?_;exact(kq _ _ ⟨rfl,ah⟩).qb
def z4X {w:World}{r:Nat}(p:Th)(hp:p.RE)(x:Nat)(hx:x<65536)(N:Nat)(hN:N<=65536):
  Qu prog 196 [ptr r 0,I (x:Int),I (N:Int),.agg #[I ((0:Nat):Int),I ((0:Nat):Int)],.slice none 0 0,lpV p] w λu w'=>u= .tuple #[.slice none 0 0,I 0]/\Ext w w':=by
 obtain⟨g1,g2,g3,g4⟩:=id hp
 have iK:([]:List Nat).length=0:=rfl
 refine py (e:=[(0,_),(1,_),(2,_),(3,_),(4,_),(5,_)]) func196 O ntmps196 O O$ qN O$ PY O O (Se O (cs:=[I ((0:Nat):Int),I ((0:Nat):Int)]) O) ?_
 rintro _ w1 ⟨b9,rfl,jg,ad,cF⟩
 refine PY O O (Se O (cs:=lpC p) O) ?_
 rintro _ w2 ⟨b11,rfl,jw,ae,bj⟩
 replace bj:Q7 w2 b11 [I (p.Qq:Int),I (p.interval:Int),I (p.zeta:Int)] 260:=bj
 have aI:=ad.trans ae
 have dK:=ae.PN cF
 refine Rt O$ RP$ Qx O$ qV (R9 Wx O O)$ Qc O$ PZ O$ An$ qN O$ qV (QB (news:=lpC p) z0J O Vu O (bj.cells (n:=3) O) O)$ Qk z5W O (Vj p hp w2) ?_
 rintro _ w3 ⟨rfl,ah⟩
 refine RA O$ Qp O$ Qk z9l O (WW x hx w3) ?_
 rintro _ w3 ⟨rfl,rfl⟩
 refine qV ((T7 O))$ QY O$ Qp O$ RT O$ QW$ QY O$ Qp O$ RK O$ QW$ QY O$ Qp O$ Qk z5n O (XU (.slice none 0 0) [] ⟨List.Pairwise.nil,λy h=>(by cases h)⟩ w3 WO) ?_
 rintro _ w3 ⟨rfl,rfl⟩
 refine qV ((T7 O))$ QY O$ Qc O$ Qy.qb (e:=[(0,_),(1,_),(2,_),(4,_),(9,_),(11,_),(12,_),(13,_),(20,_)]) ?_
 refine PZ O$ PW O$ Qd Uy O$ qV ((PX U3 O O (ah.PN dK) O))$ RT O$ QW$ Q4 O$ Qd Uy O$ qV ((PX U3 O O (ah.PN dK) O))$ RK O$ QW$ QY O$ Q4 O$ Qd TA O ?_
 refine qV ((PX U3 O O (ah.PN dK) O))$ RT O$ QW$ QY O$ Q4 O$ Qd TA O$ qV ((PX U3 O O (ah.PN dK) O))$ Qd UJ O$ qV ((PX U3 O O (ah.PN bj) O))$ RK O$ QW$ QY O$ Q4 O$ Qd TA O ?_
 refine qV ((PX U3 O O (ah.PN dK) O))$ Ss O$ SM$ Qp O$ SR QE O$ RK O$ QW$ Sa O$ QY O$ Qc O$ Qy.qb (e:=[(0,_),(1,_),(2,_),(4,_),(9,_),(11,_),(12,_),(13,_),(20,_)]) ?_
 refine PZ O$ qN O$ Qd Uy O$ qV ((PX U3 O O (ah.PN dK) O))$ Ss O$ SM$ Q4 O$ Qd TA O$ qV ((PX U3 O O (ah.PN dK) O))$ Ss O$ SM$ Sa O$ Qc O$ Qa O ?_
 refine qN O$ Rt O$ PO func196 O ?_
 exact⟨_,rfl,rfl,aI.trans ah⟩
/-! ### A packer's cells -/
def Xj (q:Value×Nat):List Value:=[q.1,I (q.2:Int)]
def Z6 (p:Ry)(R:List (Value×Nat))(n wp ed:Nat):List Value:=Wz p++(R.flatMap Xj++[I (n:Int),ptr wp 0,I (ed:Int),I 0])
theorem T3:∀R:List (Value×Nat),(R.flatMap Xj).length=R.length*2
 |[]=>rfl
 |q::R=>by rw[List.flatMap_cons,List.length_append,T3 R,List.length_cons,show(Xj q).length=2 from rfl];omega
def z6q:∀(R:List (Value×Nat)) (i j:Nat) (q:Value×Nat) (u:Value),R[i]? =some q->(Xj q)[j]? =some u->(R.flatMap Xj)[i*2+j]? =some u
 |[],i,j,q,u,h,_=>by simp at h
 | a :: R, 0, j, q, u, h, hj => by
   rw[List.getElem?_cons_zero] at h;cases h;have:=(List.getElem?_eq_some_iff.1 hj).1;rw[List.flatMap_cons,List.getElem?_append_left ω,Nat.zero_mul,Nat.zero_add]
   exact hj
 | a :: R, i + 1, j, q, u, h, hj => by
   rw[List.getElem?_cons_succ] at h;rw[List.flatMap_cons,List.getElem?_append_right (by show 2<=_;omega),show(i+1)*2+j-(Xj a).length=i*2+j by show _-2=_;omega];exact z6q R i j q u h hj
theorem z5q:∀(R:List (Value×Nat)) (i:Nat) (x:Value×Nat),i<R.length->(R.set i x).flatMap Xj=(R.flatMap Xj).take (i*2)++Xj x++(R.flatMap Xj).drop (i*2+2)
 |[],i,x,h=>by simp at h
 | a :: R, 0, x, h => by
   rw[List.set_cons_zero,List.flatMap_cons,List.flatMap_cons,Nat.zero_mul,List.take_zero,List.nil_append,Nat.zero_add,List.drop_left' (show(Xj a).length=2 from rfl)]
 | a :: R, i + 1, x, h => by
   rw[List.length_cons] at h;rw[List.set_cons_succ,List.flatMap_cons,List.flatMap_cons,z5q R i x ω];rw[show(i+1)*2=(Xj a).length+i*2 by show _=2+_;omega,List.take_length_add_append,Nat.add_assoc,List.drop_length_add_append,List.append_assoc,List.append_assoc,List.append_assoc]
section
variable {p:Ry}{R:List (Value×Nat)}{n wp ed:Nat}
theorem z7b (hR:R.length=17):(Z6 p R n wp ed).length=43:=by
 unfold Z6
 rw[List.length_append,List.length_append,T3,hR];rfl
def z1C (hR:R.length=17)(j:Nat):(Z6 p R n wp ed)[39+j]? =[I (n:Int),ptr wp 0,I (ed:Int),I 0][j]? :=by
 unfold Z6
 rw[List.getElem?_append_right (by show 5<=_;omega),List.getElem?_append_right (by rw[T3,hR];show _<=_-5;omega),T3,hR]
 congr 1
 show 39+j-5-17*2=j
 omega
def z7Y (hR:R.length=17):(Z6 p R n wp ed)[39]? =some (I (n:Int)):=z1C hR 0
def zgz (hR:R.length=17):(Z6 p R n wp ed)[40]? =some (ptr wp 0):=z1C hR 1
def zhk (hR:R.length=17):(Z6 p R n wp ed)[41]? =some (I (ed:Int)):=z1C hR 2
def zlp (hR:R.length=17):(Z6 p R n wp ed)[42]? =some (I 0):=z1C hR 3
def zec (hR:R.length=17){i:Nat}{v:Value}{c:Nat}(h:R[i]? =some (v,c))(j:Nat)(u:Value)(hj:[v,I (c:Int)][j]? =some u):(Z6 p R n wp ed)[5+i*2+j]? =some u:=by
 have hi:=(List.getElem?_eq_some_iff.1 h).1
 have m8:j<2:=(List.getElem?_eq_some_iff.1 hj).1
 unfold Z6
 rw[List.getElem?_append_right (by show 5<=_;omega),show 5+i*2+j-(Wz p).length=i*2+j by show _-5=_;omega,List.getElem?_append_left (by rw[T3];omega)]
 exact z6q R i j _ u h hj
theorem zad (hR:R.length=17){i:Nat}(hi:i<17)(v:Value)(c:Nat):RW (Z6 p R n wp ed) (5+i*2) [v,I (c:Int)]=Z6 p (R.set i (v,c)) n wp ed:=by
 unfold Z6 RW
 rw[z5q R i (v,c) ω]
 rw[show 5+i*2=(Wz p).length+i*2 from rfl,List.take_length_add_append,show(Wz p).length+i*2+[v,I (c:Int)].length=(Wz p).length+(i*2+2) from rfl,List.drop_length_add_append]
 rw[List.take_append_of_le_length (by rw[T3];omega),List.drop_append_of_le_length (by rw[T3];omega)]
 simp only[List.append_assoc]
 rfl
theorem zdI (hR:R.length=17)(m:Nat):(Z6 p R n wp ed).set 39 (I (m:Int))=Z6 p R m wp ed:=by
 unfold Z6
 rw[List.set_append_right _ _ (by show 5<=_;omega),List.set_append_right _ _ (by rw[T3,hR];show _<=39-5;omega),T3,hR]
 rfl
theorem zeF (hR:R.length=17)(m:Nat):(Z6 p R n wp ed).set 41 (I (m:Int))=Z6 p R n wp m:=by
 unfold Z6
 rw[List.set_append_right _ _ (by show 5<=_;omega),List.set_append_right _ _ (by rw[T3,hR];show _<=41-5;omega),T3,hR]
 rfl
end
def zd2 {w:World}{k:Nat}{p:Ry}{R:List (Value×Nat)}{n wp ed:Nat}(hB:Q7 w k (Z6 p R n wp ed) 257)(hR:R.length=17)(hn:n<=65536)(a:Option Addr)(m cp c:Nat):
  Qu prog 153 [ptr k 5,.slice a m cp,I (c:Int)] w λu w'=>u= .tuple #[]/\Q7 w' k (Z6 p (R.set (n%17) (.slice a m cp,c)) (n+1) wp ed) 257/\Kp (λi=>i=k) w w':=by
 refine py (e:=[(0,_),(1,_),(2,_)]) func153 O ntmps153 O O ?_
 have hg:=Ext.Qh w
 have dc:(R.set (n%17) (.slice a m cp,c)).length=17:=by rw[List.length_set];exact hR
 refine An$ Qn [12] (λw'=>Ext w w') (by kernel_rfl) O$ R1 0 O O (hg)$ R1 1 O O (hg)$ Qs 2 O (R8 O) hg$ Qs 3 O (Qz Ws O) hg$ R1 6 O O (hg)$ R1 7 O O (hg)$ Qs 8 O (Tq (cs:=[_,_]) RY O zfb O O) hg$ Qs 9 O (R8 O) hg$ Qs 10 O (Qz z9u O) hg$ qL 4 O (λ_ h=>PX U3 O O (h.PN hB) (z7Y hR)) hg$ Qs 5 O (yre O O ω) hg$ Qs 11 O (yia zif RY O O ω) hg ?_
 refine Ut [12]$ qO 12$ QO (i:=12) O O (QT (news:=[.slice a m cp,I (c:Int)]) RY O O O O (hg.PN hB) (by rw[z7b hR];show 5+n%17*2+2<=43;omega)) ?_
 rintro w1 ⟨ai,ay⟩
 refine⟨trivial,?_⟩
 replace ai:Q7 w1 k (RW (Z6 p R n wp ed) (5+n%17*2) [.slice a m cp,I (c:Int)]) 257:=ai
 rw[zad hR (Nat.mod_lt _ ψ)] at ai
 refine qE$ St O$ QA O$ Qd Ws O$ qV (PX U3 O O ai (z7Y dc))$ R7 O$ QA O$ Qd Ws O$ Qb O (RV Rl O O O ai (by rw[z7b dc];decide)) ?_
 rintro w2 ⟨ak,am⟩
 replace ak:Q7 w2 k ((Z6 p (R.set (n%17) (.slice a m cp,c)) n wp ed).set 39 (I ((n+1:Nat):Int))) 257:=ak
 rw[zdI dc] at ak
 refine PQ$ Rq func153 O ?_
 exact⟨_,rfl,rfl,ak,(hg.kp.trans ay).trans am⟩
def Vq (p:Ry)(m size c:Nat):Bool:=decide (0<m/\m<=p.most/\0<size/\size<=p.most/\c<p.chain)
def Y3 {w:World}{k:Nat}{p:Ry}{R:List (Value×Nat)}{n wp ed:Nat}(hB:Q7 w k (Z6 p R n wp ed) 257)(hR:R.length=17)(hn:n<=65536)(hp:p.RE)(ref size:Nat)(h1:1<=ref)(h2:ref<=p.Qq)
  {a:Option Addr} {m cp c:Nat} (hq:ref<=n->R[(n-ref)%17]? =some (.slice a m cp,c)):
  Qu prog 151 [ptr k 5,I (ref:Int),I (size:Int),bpV p] w λu w'=>u=(if ref<=n then .tuple #[.agg #[.slice a m cp,I (c:Int)],.bool (Vq p m size c)] else .tuple #[.agg #[.slice none 0 0,I 0],.bool false])/\Ext w w':=by
 have yJ:p.Qq<=16:=hp.1.1
 refine py (e:=[(0,_),(1,_),(2,_),(3,_)]) func151 O ntmps151 O O$ qN O$ PY O O (Se O (cs:=Wz p) O) ?_
 rintro _ w1 ⟨b7,rfl,mH,ad,bU⟩
 refine PY O O (SE (cs:=[_,_]) RY O) ?_
 rintro _ w2 ⟨b8,rfl,jf,ae,co⟩
 have z1:=ad.size
 have z2:=ae.size
 have l7:=bU.lt
 have l8:=co.lt
 have aI:=ad.trans ae
 have eE:=ae.PN bU
 replace eE:Q7 w2 b7 [I (p.Qq:Int),I (p.chain:Int),I (p.interval:Int),I (p.zeta:Int),I (p.most:Int)] 75:=eE
 replace co:Q7 w2 b8 [.slice none 0 0,I 0] 252:=co
 have uO:=aI.PN hB
 have aa:=Ext.Qh w2
 refine Qc O$ An$ An ?_
 rcases Nat.lt_or_ge n ref with aR|mG
 ·refine S5 (λw'=>Ext w2 w') O$ Qi 0 O O (aa)$ PT 1 O (ylt O O) aa$ UQ$ Qi 2 O O (aa)$ Qi 3 O O (aa)$ Qi 4 O O (aa)$ PT 5 O (R8 O) aa$ PT 6 O (Qz Ws O) aa$ PT 8 O (Qz z2T O) aa$ qT 9 O (λ_ h=>PX U3 O O (h.PN eE) O) aa$ qT 7 O (λ_ h=>PX U3 O O (h.PN uO) (z7Y hR)) aa$ PT 10 O (ymi O O) aa$ PT 11 O (Zr O O) aa ?_;refine Vd$ PT 12 O (Vt O O) aa$ qE$ Qa O$ qN O$ qV (Tq (cs:=[_,_]) RY O zfb O O) ?_;have uP:=aa.PN co;refine Qb O (QT (news:=[.slice none 0 0,I 0]) RY O O O O uP ξ) ?_;rintro w3 ⟨uQ,av⟩;replace uQ:Q7 w3 b8 [.slice none 0 0,I 0] 252:=uQ;refine Qc O$ Qt func151 (.cell Z7 O RY O (Q7.cells (n:=2) uQ (news:=[_,_]) O) O (.tmp O .nil)) ?_;rw[if_neg ω];exact⟨_,rfl,rfl,(aI.trans aa).It av (λi e=>by omega)⟩
 ·have i9:=hq mG;rw[if_pos mG];refine S5 (λw'=>Ext w2 w') O$ Qi 0 O O (aa)$ PT 1 O (ylt O O) aa$ UQ$ Qi 2 O O (aa)$ Qi 3 O O (aa)$ Qi 4 O O (aa)$ PT 5 O (R8 O) aa$ PT 6 O (Qz Ws O) aa$ PT 8 O (Qz z2T O) aa$ qT 9 O (λ_ h=>PX U3 O O (h.PN eE) O) aa$ qT 7 O (λ_ h=>PX U3 O O (h.PN uO) (z7Y hR)) aa$ PT 10 O (ymi O O) aa$ PT 11 O (Zr O O) aa ?_;refine UQ$ PT 12 O (Vt O O) aa$ qE$ TT O$ An ?_;have ag:=aa.trans (Ext.Qh w2.drew);have fB:=Ext.Qh w2.drew;have oz:=aa.PN uO;refine Qn [13] (λw'=>Ext w2.drew w') (by kernel_rfl) O$ R1 0 O O (fB)$ R1 1 O O (fB)$ Qs 2 O (R8 O) fB$ Qs 3 O (Qz Ws O) fB$ R1 5 O O (fB)$ Qs 8 O (R8 O) fB$ Qs 9 O (Qz z9u O) fB$ qL 4 O (λ_ h=>PX U3 O O (h.PN oz) (z7Y hR)) fB$ Qs 6 O (YM O O ω) fB ?_;rw[show(n:Int)-(ref:Int)=((n-ref:Nat):Int) by omega];refine Qs 7 O (yre O O ω) fB$ Qs 10 O (yia zif RY O O ω) fB$ qL 11 O (λ_ h=>QB (news:=[.slice a m cp,I (c:Int)]) Z7 O RY O (λj u hj=>by rw[(h.PN oz).cell];exact zec hR i9 j u hj) O) fB ?_;refine Sc (i:=12) (by kernel_rfl)$ Ru (i:=12) O O O (SE (cs:=[_,_]) RY O) ?_;rintro _ w3 ⟨b10,rfl,CZ,ah,fM⟩;refine⟨fB.trans ah,?_⟩;refine Ut [13]$ qO 13$ QO (i:=13) O O (QT (news:=[.slice a m cp,I (c:Int)]) RY O O O O fM ξ) ?_;rintro w4 ⟨bN,ar⟩;refine⟨trivial,?_⟩;replace bN:Q7 w4 b10 [.slice a m cp,I (c:Int)] 252:=bN;have z23:=ag.size;have z3:=ah.size;have dA:Ext w2 w4:=(ag.trans ah).It ar (λi e=>by omega);have z4:=dA.size;have eV:=dA.PN co;have ic:=dA.PN eE;have af:=Ext.Qh w4;refine qE$ Qy.qb (e:=[(2,_),(7,_),(8,_),(9,_),(10,_)]) ?_;refine An ?_;rcases Nat.eq_zero_or_pos m with c0|c0
  ·refine S5 (λw'=>Kp (λi=>i=b8) w4 w') O$ qT 0 O (λ_ hS=>(QB Z7 O RY O (Q7.cells (n:=2) (hS.PN bN ω) (news:=[_,_]) O) O)) (af.kp)$ PT 1 O (Qz TC O) (af.kp)$ qT 2 O (λ_ hS=>(PX QE O O (hS.PN bN ω) O)) (af.kp)$ PT 3 O (TP QE O) (af.kp)$ PT 4 O (Zr O O) (af.kp)$ UQ$ Qi 5 O O (af.kp)$ qJ 6 O (af.kp)$ qJ 7 O (af.kp)$ qJ 8 O (af.kp)$ qJ 9 O (af.kp)$ qJ 10 O (af.kp)$ qJ 11 O (af.kp) ?_;refine PT 12 O (Vt O O) (af.kp)$ Qi 13 O O (af.kp)$ qJ 14 O (af.kp)$ qJ 15 O (af.kp)$ PT 16 O (Vt O O) (af.kp)$ Qi 17 O O (af.kp)$ qJ 18 O (af.kp)$ qJ 19 O (af.kp)$ qJ 20 O (af.kp)$ qJ 21 O (af.kp)$ PT 22 O (Vt O O) (af.kp)$ Qi 23 O O (af.kp)$ qJ 24 O (af.kp)$ qJ 25 O (af.kp) ?_;refine qJ 26 O (af.kp)$ qJ 27 O (af.kp)$ qJ 28 O (af.kp)$ PT 29 O (Vt O O) (af.kp)$ qO 30$ QO (i:=30) O O (QT (news:=[.slice a m cp,I (c:Int)]) RY O O O O (af.PN eV) ξ) ?_;rintro w5 ⟨bK,aj⟩;refine⟨af.kp.trans aj,?_⟩;replace bK:Q7 w5 b8 [.slice a m cp,I (c:Int)] 252:=bK;refine PT 31 O (Sv O) (af.kp.trans aj)$ qE$ Qy.qb (e:=[(8,_),(9,_)]) ?_;refine Qt func151 (.cell Z7 O RY O (Q7.cells (n:=2) bK (news:=[_,_]) O) O (.tmp O .nil)) ?_;have az:Vq p m size c=false:=decide_eq_false (λh=>by omega);rw[az];exact⟨_,rfl,rfl,((aI.trans dA).trans af).It aj (λi e=>by omega)⟩
  ·rcases Nat.lt_or_ge p.most m with c1|c1
   ·refine S5 (λw'=>Kp (λi=>i=b8) w4 w') O$ qT 0 O (λ_ hS=>(QB Z7 O RY O (Q7.cells (n:=2) (hS.PN bN ω) (news:=[_,_]) O) O)) (af.kp)$ PT 1 O (Qz TC O) (af.kp)$ qT 2 O (λ_ hS=>(PX QE O O (hS.PN bN ω) O)) (af.kp)$ PT 3 O (TP QE O) (af.kp)$ PT 4 O (Zr O O) (af.kp)$ Vd$ Qi 5 O O (af.kp)$ PT 6 O (Qz TC O) (af.kp)$ qT 7 O (λ_ hS=>(PX QE O O (hS.PN bN ω) O)) (af.kp)$ PT 8 O (TP QE O) (af.kp)$ PT 9 O (Qz UO O) (af.kp)$ qT 10 O (λ_ hS=>(PX U3 O O (hS.PN ic ω) O)) (af.kp)$ PT 11 O (yle O O) (af.kp) ?_;refine UQ$ PT 12 O (W2 O O) (af.kp)$ Qi 13 O O (af.kp)$ qJ 14 O (af.kp)$ qJ 15 O (af.kp)$ PT 16 O (Vt O O) (af.kp)$ Qi 17 O O (af.kp)$ qJ 18 O (af.kp)$ qJ 19 O (af.kp)$ qJ 20 O (af.kp)$ qJ 21 O (af.kp)$ PT 22 O (Vt O O) (af.kp)$ Qi 23 O O (af.kp)$ qJ 24 O (af.kp) ?_;refine qJ 25 O (af.kp)$ qJ 26 O (af.kp)$ qJ 27 O (af.kp)$ qJ 28 O (af.kp)$ PT 29 O (Vt O O) (af.kp)$ qO 30$ QO (i:=30) O O (QT (news:=[.slice a m cp,I (c:Int)]) RY O O O O (af.PN eV) ξ) ?_;rintro w5 ⟨bK,aj⟩;refine⟨af.kp.trans aj,?_⟩;replace bK:Q7 w5 b8 [.slice a m cp,I (c:Int)] 252:=bK;refine PT 31 O (Sv O) (af.kp.trans aj)$ qE$ Qy.qb (e:=[(8,_),(9,_)]) ?_;refine Qt func151 (.cell Z7 O RY O (Q7.cells (n:=2) bK (news:=[_,_]) O) O (.tmp O .nil)) ?_;have az:Vq p m size c=false:=decide_eq_false (λh=>by omega);rw[az];exact⟨_,rfl,rfl,((aI.trans dA).trans af).It aj (λi e=>by omega)⟩
   ·rcases Nat.eq_zero_or_pos size with c2|c2
    ·refine S5 (λw'=>Kp (λi=>i=b8) w4 w') O$ qT 0 O (λ_ hS=>(QB Z7 O RY O (Q7.cells (n:=2) (hS.PN bN ω) (news:=[_,_]) O) O)) (af.kp)$ PT 1 O (Qz TC O) (af.kp)$ qT 2 O (λ_ hS=>(PX QE O O (hS.PN bN ω) O)) (af.kp)$ PT 3 O (TP QE O) (af.kp)$ PT 4 O (Zr O O) (af.kp)$ Vd$ Qi 5 O O (af.kp)$ PT 6 O (Qz TC O) (af.kp)$ qT 7 O (λ_ hS=>(PX QE O O (hS.PN bN ω) O)) (af.kp)$ PT 8 O (TP QE O) (af.kp)$ PT 9 O (Qz UO O) (af.kp)$ qT 10 O (λ_ hS=>(PX U3 O O (hS.PN ic ω) O)) (af.kp)$ PT 11 O (yle O O) (af.kp) ?_;refine Vd$ PT 12 O (W2 O O) (af.kp)$ Qi 13 O O (af.kp)$ Qi 14 O O (af.kp)$ PT 15 O (Zr O O) (af.kp)$ UQ$ PT 16 O (W2 O O) (af.kp)$ Qi 17 O O (af.kp)$ qJ 18 O (af.kp)$ qJ 19 O (af.kp)$ qJ 20 O (af.kp)$ qJ 21 O (af.kp)$ PT 22 O (Vt O O) (af.kp)$ Qi 23 O O (af.kp) ?_;refine qJ 24 O (af.kp)$ qJ 25 O (af.kp)$ qJ 26 O (af.kp)$ qJ 27 O (af.kp)$ qJ 28 O (af.kp)$ PT 29 O (Vt O O) (af.kp)$ qO 30$ QO (i:=30) O O (QT (news:=[.slice a m cp,I (c:Int)]) RY O O O O (af.PN eV) ξ) ?_;rintro w5 ⟨bK,aj⟩;refine⟨af.kp.trans aj,?_⟩;replace bK:Q7 w5 b8 [.slice a m cp,I (c:Int)] 252:=bK;refine PT 31 O (Sv O) (af.kp.trans aj)$ qE$ Qy.qb (e:=[(8,_),(9,_)]) ?_;refine Qt func151 (.cell Z7 O RY O (Q7.cells (n:=2) bK (news:=[_,_]) O) O (.tmp O .nil)) ?_;have az:Vq p m size c=false:=decide_eq_false (λh=>by omega);rw[az];exact⟨_,rfl,rfl,((aI.trans dA).trans af).It aj (λi e=>by omega)⟩
    ·rcases Nat.lt_or_ge p.most size with c3|c3
     ·refine S5 (λw'=>Kp (λi=>i=b8) w4 w') O$ qT 0 O (λ_ hS=>(QB Z7 O RY O (Q7.cells (n:=2) (hS.PN bN ω) (news:=[_,_]) O) O)) (af.kp)$ PT 1 O (Qz TC O) (af.kp)$ qT 2 O (λ_ hS=>(PX QE O O (hS.PN bN ω) O)) (af.kp)$ PT 3 O (TP QE O) (af.kp)$ PT 4 O (Zr O O) (af.kp)$ Vd$ Qi 5 O O (af.kp)$ PT 6 O (Qz TC O) (af.kp)$ qT 7 O (λ_ hS=>(PX QE O O (hS.PN bN ω) O)) (af.kp)$ PT 8 O (TP QE O) (af.kp)$ PT 9 O (Qz UO O) (af.kp)$ qT 10 O (λ_ hS=>(PX U3 O O (hS.PN ic ω) O)) (af.kp)$ PT 11 O (yle O O) (af.kp) ?_;refine Vd$ PT 12 O (W2 O O) (af.kp)$ Qi 13 O O (af.kp)$ Qi 14 O O (af.kp)$ PT 15 O (Zr O O) (af.kp)$ Vd$ PT 16 O (W2 O O) (af.kp)$ Qi 17 O O (af.kp)$ Qi 18 O O (af.kp)$ PT 19 O (Qz UO O) (af.kp)$ qT 20 O (λ_ hS=>(PX U3 O O (hS.PN ic ω) O)) (af.kp)$ PT 21 O (yle O O) (af.kp)$ UQ$ PT 22 O (W2 O O) (af.kp) ?_;refine Qi 23 O O (af.kp)$ qJ 24 O (af.kp)$ qJ 25 O (af.kp)$ qJ 26 O (af.kp)$ qJ 27 O (af.kp)$ qJ 28 O (af.kp)$ PT 29 O (Vt O O) (af.kp)$ qO 30$ QO (i:=30) O O (QT (news:=[.slice a m cp,I (c:Int)]) RY O O O O (af.PN eV) ξ) ?_;rintro w5 ⟨bK,aj⟩;refine⟨af.kp.trans aj,?_⟩;replace bK:Q7 w5 b8 [.slice a m cp,I (c:Int)] 252:=bK;refine PT 31 O (Sv O) (af.kp.trans aj)$ qE$ Qy.qb (e:=[(8,_),(9,_)]) ?_;refine Qt func151 (.cell Z7 O RY O (Q7.cells (n:=2) bK (news:=[_,_]) O) O (.tmp O .nil)) ?_;have az:Vq p m size c=false:=decide_eq_false (λh=>by omega);rw[az];exact⟨_,rfl,rfl,((aI.trans dA).trans af).It aj (λi e=>by omega)⟩
     ·rcases Nat.lt_or_ge c p.chain with c4|c4
      ·refine S5 (λw'=>Kp (λi=>i=b8) w4 w') O$ qT 0 O (λ_ hS=>(QB Z7 O RY O (Q7.cells (n:=2) (hS.PN bN ω) (news:=[_,_]) O) O)) (af.kp)$ PT 1 O (Qz TC O) (af.kp)$ qT 2 O (λ_ hS=>(PX QE O O (hS.PN bN ω) O)) (af.kp)$ PT 3 O (TP QE O) (af.kp)$ PT 4 O (Zr O O) (af.kp)$ Vd$ Qi 5 O O (af.kp)$ PT 6 O (Qz TC O) (af.kp)$ qT 7 O (λ_ hS=>(PX QE O O (hS.PN bN ω) O)) (af.kp)$ PT 8 O (TP QE O) (af.kp)$ PT 9 O (Qz UO O) (af.kp)$ qT 10 O (λ_ hS=>(PX U3 O O (hS.PN ic ω) O)) (af.kp)$ PT 11 O (yle O O) (af.kp) ?_;refine Vd$ PT 12 O (W2 O O) (af.kp)$ Qi 13 O O (af.kp)$ Qi 14 O O (af.kp)$ PT 15 O (Zr O O) (af.kp)$ Vd$ PT 16 O (W2 O O) (af.kp)$ Qi 17 O O (af.kp)$ Qi 18 O O (af.kp)$ PT 19 O (Qz UO O) (af.kp)$ qT 20 O (λ_ hS=>(PX U3 O O (hS.PN ic ω) O)) (af.kp)$ PT 21 O (yle O O) (af.kp)$ Vd$ PT 22 O (W2 O O) (af.kp) ?_;refine Qi 23 O O (af.kp)$ PT 24 O (Qz z4s O) (af.kp)$ qT 25 O (λ_ hS=>(PX U3 O O (hS.PN bN ω) O)) (af.kp)$ PT 26 O (Qz z0L O) (af.kp)$ qT 27 O (λ_ hS=>(PX U3 O O (hS.PN ic ω) O)) (af.kp)$ PT 28 O (ylt O O) (af.kp)$ Vd$ PT 29 O (W2 O O) (af.kp)$ qO 30$ QO (i:=30) O O (QT (news:=[.slice a m cp,I (c:Int)]) RY O O O O (af.PN eV) ξ) ?_;rintro w5 ⟨bK,aj⟩;refine⟨af.kp.trans aj,?_⟩;replace bK:Q7 w5 b8 [.slice a m cp,I (c:Int)] 252:=bK;refine PT 31 O (Sv O) (af.kp.trans aj)$ qE$ Qy.qb (e:=[(8,_),(9,_)]) ?_;refine Qt func151 (.cell Z7 O RY O (Q7.cells (n:=2) bK (news:=[_,_]) O) O (.tmp O .nil)) ?_;have az:Vq p m size c=true:=decide_eq_true ⟨ω,ω,ω,ω,ω⟩;rw[az];exact⟨_,rfl,rfl,((aI.trans dA).trans af).It aj (λi e=>by omega)⟩
      ·refine S5 (λw'=>Kp (λi=>i=b8) w4 w') O$ qT 0 O (λ_ hS=>(QB Z7 O RY O (Q7.cells (n:=2) (hS.PN bN ω) (news:=[_,_]) O) O)) (af.kp)$ PT 1 O (Qz TC O) (af.kp)$ qT 2 O (λ_ hS=>(PX QE O O (hS.PN bN ω) O)) (af.kp)$ PT 3 O (TP QE O) (af.kp)$ PT 4 O (Zr O O) (af.kp)$ Vd$ Qi 5 O O (af.kp)$ PT 6 O (Qz TC O) (af.kp)$ qT 7 O (λ_ hS=>(PX QE O O (hS.PN bN ω) O)) (af.kp)$ PT 8 O (TP QE O) (af.kp)$ PT 9 O (Qz UO O) (af.kp)$ qT 10 O (λ_ hS=>(PX U3 O O (hS.PN ic ω) O)) (af.kp)$ PT 11 O (yle O O) (af.kp) ?_;refine Vd$ PT 12 O (W2 O O) (af.kp)$ Qi 13 O O (af.kp)$ Qi 14 O O (af.kp)$ PT 15 O (Zr O O) (af.kp)$ Vd$ PT 16 O (W2 O O) (af.kp)$ Qi 17 O O (af.kp)$ Qi 18 O O (af.kp)$ PT 19 O (Qz UO O) (af.kp)$ qT 20 O (λ_ hS=>(PX U3 O O (hS.PN ic ω) O)) (af.kp)$ PT 21 O (yle O O) (af.kp)$ Vd$ PT 22 O (W2 O O) (af.kp) ?_;refine Qi 23 O O (af.kp)$ PT 24 O (Qz z4s O) (af.kp)$ qT 25 O (λ_ hS=>(PX U3 O O (hS.PN bN ω) O)) (af.kp)$ PT 26 O (Qz z0L O) (af.kp)$ qT 27 O (λ_ hS=>(PX U3 O O (hS.PN ic ω) O)) (af.kp)$ PT 28 O (ylt O O) (af.kp)$ UQ$ PT 29 O (W2 O O) (af.kp)$ qO 30$ QO (i:=30) O O (QT (news:=[.slice a m cp,I (c:Int)]) RY O O O O (af.PN eV) ξ) ?_;rintro w5 ⟨bK,aj⟩;refine⟨af.kp.trans aj,?_⟩;replace bK:Q7 w5 b8 [.slice a m cp,I (c:Int)] 252:=bK;refine PT 31 O (Sv O) (af.kp.trans aj)$ qE$ Qy.qb (e:=[(8,_),(9,_)]) ?_;refine Qt func151 (.cell Z7 O RY O (Q7.cells (n:=2) bK (news:=[_,_]) O) O (.tmp O .nil)) ?_;have az:Vq p m size c=false:=decide_eq_false (λh=>by omega);rw[az];exact⟨_,rfl,rfl,((aI.trans dA).trans af).It aj (λi e=>by omega)⟩
abbrev z8U:List (Value×Nat):=List.replicate 17 (.slice none 0 0,0)
def zaY (p:Ry)(hp:p.RE)(w:World):Qu prog 111 [bpV p] w λu w'=>∃k wp F,u= .tuple #[ptr k 0,I 0]/\Q7 w' k (Z6 p z8U 0 wp 0) 257/\Zs w' wp [] F/\¬F k/\Ext w w'/\w.heap.size<=k/\∀i,F i->w.heap.size<=i:=by
 refine py (e:=[(0,_)]) func111 O ntmps111 O O$ qN O$ PY O O (Se O (cs:=Wz p) O) ?_
 rintro _ w1 ⟨b1,rfl,bL,ad,ai⟩
 have z1:=ad.size
 refine Rt O$ An$ qN O$ qV (QB (news:=Wz p) U75 O SO O (ai.cells (n:=5) O) O)$ Qk zeY O (z1h p hp w1) ?_
 rintro _ w2 ⟨rfl,ae⟩
 have z2:=ae.size
 have hg:=Ext.Qh w2
 refine RZ O$ RA O$ Re O$ An$ S5 (λw'=>Ext w2 w') O$ qT 0 O (λ_ hS=>QB (news:=Wz p) U75 O SO O ((hS.PN (ae.PN ai)).cells (n:=5) O) O) hg$ T9 1 O z1T O (VW _) ?_
 rintro _ w3 ⟨wp,F,rfl,nJ,ah,rf⟩
 refine⟨hg.trans ah,?_⟩
 have dX:=hg.trans ah
 have z3:=dX.size
 refine PT 2 O (Tq zkg O zjC O O) (hg.trans ah)$ qO 3$ YZ (i:=3) O O O (Se O (cs:=Z6 p z8U 0 wp 0) O) ?_
 rintro _ w4 ⟨k,rfl,hk,aC,aM⟩
 refine⟨dX.trans aC,?_⟩
 refine PT 4 O (Sv O) (dX.trans aC)$ PT 5 O (Sv O) (dX.trans aC)$ qE$ PO func111 O ?_
 exact⟨_,rfl,k,wp,F,rfl,aM,nJ.ext aC,λe=>by have:=nJ.lt e;omega,((ad.trans ae).trans dX).trans aC,ω,λi hi=>by have:=rf i hi;have:=hg.size;omega⟩
structure PkM (w:World)(k:Nat)(p:Ry)(L:List (List Nat))(E:List (Nat×Nat))(bs:List Bool)(F:Nat->Prop)(R:List (Value×Nat))(wp ed:Nat):Prop where
 PN:Q7 w k (Z6 p R L.length wp ed) 257
 len:R.length=17
 wr:Zs w wp bs F
 nk:¬F k
 el:E.length=L.length
 ok:∀l∈L,QP l
 ring:∀j l e,L[j]? =some l->E[j]? =some e->L.length<=j+17->∃a cp,R[j%17]? =some (.slice a l.length cp,e.2)/\l.length<=cp/\Sl w (.slice a l.length cp) 59 1 l.length (l.map QJ)/\(∀g,(Value.slice a l.length cp).ownBlock=some g->¬F g/\g≠k)
def PkM.ext {w w':World}{k:Nat}{p:Ry}{L:List (List Nat)}{E:List (Nat×Nat)}{bs:List Bool}{F:Nat->Prop}{R:List (Value×Nat)}{wp ed:Nat}(h:PkM w k p L E bs F R wp ed)(hx:Ext w w'):PkM w' k p L E bs F R wp ed:=
 ⟨hx.PN h.PN,h.len,h.wr.ext hx,h.nk,h.el,h.ok,λj l e h1 h2 h3=>by
  obtain⟨a,cp,g1,g2,g3,g4⟩:=h.ring j l e h1 h2 h3
  exact⟨a,cp,g1,g2,g3.ext hx,g4⟩⟩
def Found (p:Ry)(L:List (List Nat))(E:List (Nat×Nat))(R:List (Value×Nat))(size ref:Nat)(v:Value)(c:Nat):Prop:=
 (ref=0/\v= .slice none 0 0/\c=0)\/(1<=ref/\ref<=p.Qq/\ref<=L.length/\R[(L.length-ref)%17]? =some (v,c)/\∃l e,L[L.length-ref]? =some l/\E[L.length-ref]? =some e/\c=e.2/\Vq p l.length size e.2=true)
structure AdM (w:World)(k b2 b3 b7 b8 b4 b9:Nat)(a:Option Addr)(m cp n least ref:Nat)(v:Value)(c:Nat):Prop where
 c2:Q7 w b2 [ptr k 0] 207
 c3:Q7 w b3 [.slice a m cp] 62
 c7:Q7 w b7 [I (n:Int)] 3
 c8:Q7 w b8 [I (least:Int)] 3
 c4:Q7 w b4 [I (ref:Int)] 3
 c9:Q7 w b9 [v,I (c:Int)] 252
def AdM.kp {S:Nat->Prop}{w w':World}{k b2 b3 b7 b8 b4 b9:Nat}{a:Option Addr}{m cp n least ref:Nat}{v:Value}{c:Nat}(h:AdM w k b2 b3 b7 b8 b4 b9 a m cp n least ref v c)(hk:Kp S w w')(hn:∀i,S i->i≠b2/\i≠b3/\i≠b7/\i≠b8/\i≠b4/\i≠b9):AdM w' k b2 b3 b7 b8 b4 b9 a m cp n least ref v c:=
 ⟨hk.PN h.c2 (λe=>(hn _ e).1 O),hk.PN h.c3 (λe=>(hn _ e).2.1 O),hk.PN h.c7 (λe=>(hn _ e).2.2.1 O),hk.PN h.c8 (λe=>(hn _ e).2.2.2.1 O),hk.PN h.c4 (λe=>(hn _ e).2.2.2.2.1 O),hk.PN h.c9 (λe=>(hn _ e).2.2.2.2.2 O)⟩
def AdM.ext {w w':World}{k b2 b3 b7 b8 b4 b9:Nat}{a:Option Addr}{m cp n least ref:Nat}{v:Value}{c:Nat}(h:AdM w k b2 b3 b7 b8 b4 b9 a m cp n least ref v c)(hk:Ext w w'):AdM w' k b2 b3 b7 b8 b4 b9 a m cp n least ref v c:=h.kp (S:=λ_=>False) hk.kp (λi e=>e.elim)
def ze0 {w:World}{k:Nat}{p:Ry}(hp:p.RE){L:List (List Nat)}{E:List (Nat×Nat)}{bs:List Bool}{F:Nat->Prop}{R:List (Value×Nat)}{wp ed:Nat}(h:PkM w k p L E bs F R wp ed)(hG:Q7 w 1 (Ts .gamma) 294)(hU:Q7 w 2 (Ts .unary) 294)(hL:L.length<65536)
  {b2 b3 b7 b8 b4 b9:Nat} {a:Option Addr} {cp least ref:Nat} {v:Value} {c:Nat} {succ:List Nat} (hs:QP succ) (mj:succ.length<=cp) (eI:Rd w (.slice a succ.length cp) 1 succ.length (succ.map QJ)) (hA:AdM w k b2 b3 b7 b8 b4 b9 a succ.length cp L.length least ref v c) (hF:Found p L E R succ.length ref v c)
  (hd:b8≠b2/\b8≠b3/\b8≠b7/\b4≠b2/\b4≠b3/\b4≠b7/\b9≠b2/\b9≠b3/\b9≠b7/\b8≠b4/\b8≠b9/\b4≠b9) (r:Nat) (h1:1<=r) (h2:r<=p.Qq):
  Qu prog 150 [I (r:Int),ptr b2 0,ptr b3 0,ptr b7 0,ptr b8 0,ptr b4 0,ptr b9 0] w λu w'=>u= .tuple #[]/\Kp (λi=>i=b8\/i=b4\/i=b9) w w'/\∃least' ref' v' c',AdM w' k b2 b3 b7 b8 b4 b9 a succ.length cp L.length least' ref' v' c'/\Found p L E R succ.length ref' v' c':=by
 have yJ:p.Qq<=16:=hp.1.1
 obtain⟨a1,c1,m1,e1,yK,LF⟩:∃a1 c1 m1 e1,(r<=L.length->R[(L.length-r)%17]? =some (.slice a1 m1 c1,e1))/\(r<=L.length->∃l e,L[L.length-r]? =some l/\E[L.length-r]? =some e/\m1=l.length/\e1=e.2/\l.length<=c1/\Sl w (.slice a1 l.length c1) 59 1 l.length (l.map QJ)):=by
  by_cases hr:r<=L.length
  ·obtain⟨l,hl⟩:∃l,L[L.length-r]? =some l:=⟨_,List.getElem?_eq_getElem ω⟩;obtain⟨e,he⟩:∃e,E[L.length-r]? =some e:=⟨_,List.getElem?_eq_getElem (by have:=h.el;omega)⟩;obtain⟨a1,c1,g1,g2,g3,g4⟩:=h.ring _ l e hl he ω;exact⟨a1,c1,l.length,e.2,λ_=>g1,λ_=>⟨l,e,hl,he,rfl,rfl,g2,g3⟩⟩
  ·exact⟨none,0,0,0,λe=>absurd e hr,λe=>absurd e hr⟩
 have g7:=hA.c2
 have nK:=hA.c3
 have hg:=Ext.Qh w
 have mZ:∀{w2:World},Q7 w2 k (Z6 p R L.length wp ed) 257->∀j u,(Wz p)[j]? =some u->w2.cell? ⟨k,0+j,none⟩=some u:=λhB j u hj=>hB.cells (i:=0) (n:=5) (news:=Wz p) O j u hj
 refine py (e:=[(0,_),(1,_),(2,_),(3,_),(4,_),(5,_),(6,_)]) func150 O ntmps150 O O$ An$ QH (λe' w'=>∃tb v1 d1 ok,e'=[(0,I (r:Int)),(1,ptr b2 0),(2,ptr b3 0),(3,ptr b7 0),(4,ptr b8 0),(5,ptr b4 0),(6,ptr b9 0),(8,ptr tb 0),(9,.bool ok)]/\Ext w w'/\w.heap.size<=tb/\Q7 w' tb [v1,I ((d1:Nat):Int)] 252/\(ok=true->r<=L.length/\v1= .slice a1 m1 c1/\d1=e1/\Vq p m1 succ.length e1=true)) ?bF$ λbF=>?dg
 case bF=>
  rintro e' w1 ⟨tb,v1,d1,ok,rfl,ad,Lz,rg,az⟩;have mc:=hA.ext ad;have uR:=mc.c2;have nX:=mc.c3;have LG:=mc.c7;have J6:=mc.c8;refine QS O$ qV ((T7 O))$ PQ$ Rr O (λh3=>?_)$ λh3=>?_
  ·refine PO func150 O ?_;exact⟨_,rfl,rfl,ad.kp,_,_,_,_,mc,hF⟩
  ·have E9:ok=true:=by cases ok<;>simp_all
   obtain⟨Ea,rfl,rfl,fH⟩:=az E9;obtain⟨l,e,hl,he,rfl,rfl,pT,LH⟩:=LF Ea;have Eb:=yK Ea;have Ec:QP l:=h.ok l (List.mem_of_getElem? hl);have aT:=Ext.Qh w1;refine PR$ An$ S5 (λw'=>Ext w1 w') O$ qT 0 O (λ_ h=>(PX U3 O O (h.PN LG) O)) aT$ qT 1 O (λ_ h=>(PX QE O O (h.PN nX) O)) aT$ PT 2 O (Qz TC O) aT$ qT 3 O (λ_ h=>(PX QE O O (h.PN rg) O)) aT$ Qi 4 O O (aT)$ qT 5 O (λ_ h=>(PX Xv O O (h.PN uR) O)) aT$ PT 6 O (R8 O) aT$ PT 7 O (Qz Yb O) aT$ qT 8 O (λ_ hS=>QB (news:=Wz p) U75 O SO O (mZ (hS.PN (ad.PN h.PN))) O) aT$ T9 9 O z2j O (Ud p _) ?_;rintro _ w9 ⟨rfl,fN⟩;refine⟨aT.trans fN,?_⟩;have ie:=aT.trans fN;have gH:=ad.trans ie;refine T9 10 O z58 O (WM p.list hp.1 L.length hL succ l hs Ec r h2 (λe=>by omega) (gH.PN hG) (gH.PN hU) (eI.ext gH) (LH.rd.ext gH) mj pT) ?_;rintro _ w10 ⟨rfl,bQ⟩;refine⟨ie.trans bQ,?_⟩;have gI:=ie.trans bQ;have mP:=mc.ext gI;have Ed:=mP.c8;have Ee:=gI.PN rg
   generalize (Qo (SG p.list L.length succ l r)).length=nb
   refine Qi 11 O O (ie.trans bQ)$ PT 12 O (Sz O O) (ie.trans bQ)$ PT 13 O (Sz O O) (ie.trans bQ)$ PT 14 O (Sv O) (ie.trans bQ)$ PT 15 O (Sv O) (ie.trans bQ)$ qE$ Qy.qb (e:=[(0,_),(4,_),(5,_),(6,_),(8,_),(10,_)]) ?_;refine Qx O$ qV (PX U3 O O Ed O)$ RT O$ PQ$ Q8 O (λh4=>?_)$ λh4=>?_
   ·have ld:=Ext.Qh w10;have iB:=mP.ext ld;have lb8:=hA.c8.lt;have lb4:=hA.c4.lt;have lb9:=hA.c9.lt;have LI:¬(tb=b8\/tb=b4\/tb=b9):=by omega
    refine S5 (λw'=>Kp (λi=>i=b8\/i=b4\/i=b9) w10 w') O$ Qi 0 O O (ld.kp)$ Qi 1 O O (ld.kp)$ qT 2 O (λ_ h=>QB Z7 O RY O (Q7.cells (n:=2) (h.PN Ee LI) (news:=[_,_]) O) O) (ld.kp)$ qO 3$ QO (i:=3) O O (RV Rl O O O iB.c8 ξ) ?_;rintro w11 ⟨bj,bz⟩;refine⟨ld.kp.trans (bz.PU λi e=> .inl e),?_⟩;have sR:Kp (λi=>i=b8\/i=b4\/i=b9) w10 w11:=ld.kp.trans (bz.PU λi e=> .inl e);have LJ:=bz.PN iB.c4 (λe=>hd.2.2.2.2.2.2.2.2.2.1 e.symm);refine qO 4$ QO (i:=4) O O (RV Rl O O O LJ ξ) ?_;rintro w12 ⟨aX,bA⟩;refine⟨sR.trans (bA.PU λi e=> .inr (.inl e)),?_⟩;have yL:Kp (λi=>i=b8\/i=b4\/i=b9) w10 w12:=sR.trans (bA.PU λi e=> .inr (.inl e));have LK:=bA.PN (bz.PN iB.c9 (λe=>hd.2.2.2.2.2.2.2.2.2.2.1 e.symm)) (λe=>hd.2.2.2.2.2.2.2.2.2.2.2 e.symm);refine qO 5$ QO (i:=5) O O (QT (news:=[.slice a1 l.length c1,I (e.2:Int)]) RY O O O O LK ξ) ?_;rintro w13 ⟨bZ,dB⟩;refine⟨yL.trans (dB.PU λi e=> .inr (.inr e)),?_⟩;replace bZ:Q7 w13 b9 [.slice a1 l.length c1,I (e.2:Int)] 252:=bZ;replace aX:Q7 w12 b4 [I (r:Int)] 3:=aX;replace bj:Q7 w11 b8 [I (nb:Int)] 3:=bj;refine qE$ Rq func150 O ?_;obtain⟨d1,d2,d3,d4,d5,d6,d7,d8,d9,d10,d11,d12⟩:=hd;have kN:∀{b:Nat} {cs:List Value} {T:TypeId},Q7 w10.drew b cs T->b8≠b->b4≠b->b9≠b->Q7 w13 b cs T:=λhB n1 n2 n3=>dB.PN (bA.PN (bz.PN hB (λe=>n1 e.symm)) (λe=>n2 e.symm)) (λe=>n3 e.symm);refine⟨_,rfl,rfl,?_,nb,r,.slice a1 l.length c1,e.2,⟨kN iB.c2 d1 d4 d7,kN iB.c3 d2 d5 d8,kN iB.c7 d3 d6 d9,dB.PN (bA.PN bj d10) d11,dB.PN aX d12,bZ⟩,.inr ⟨h1,h2,Ea,Eb,l,e,hl,he,rfl,fH⟩⟩;exact((ad.trans gI).trans ld).kp.trans ((bz.PU λi e=> .inl e).trans ((bA.PU λi e=> .inr (.inl e)).trans (dB.PU λi e=> .inr (.inr e))))
   ·refine PR$ Rq func150 O ?_;exact⟨_,rfl,rfl,(ad.trans gI).kp,_,_,_,_,mP,hF⟩
 case dg=>
  rcases Nat.lt_or_ge L.length r with aR|mG
  ·have aq:=hg;refine Qn [15] (λw'=>Ext w w') (by kernel_rfl) O$ qL 0 O (λ_ h=>(PX Xv O O (h.PN g7) O)) aq$ Qs 1 O (R8 O) aq$ Qs 2 O (Qz ZN O) aq$ R1 3 O O (aq)$ qL 4 O (λ_ h=>(PX QE O O (h.PN nK) O)) aq$ Qs 5 O (TP QE O) aq$ qL 6 O (λ_ h=>(PX Xv O O (h.PN g7) O)) aq$ Qs 7 O (R8 O) aq$ Qs 8 O (Qz Yb O) aq$ qL 9 O (λ_ hS=>QB (news:=Wz p) U75 O SO O (mZ (hS.PN h.PN)) O) aq$ XN (i:=10) (j:=14) (by kernel_rfl) ?_ ?_
   ·refine SW (i:=10) O O O (yc z8C O) (Y3 (aq.PN h.PN) h.len ω hp r succ.length h1 h2 yK) ?_;rintro _ w10 ⟨kT,bQ⟩;refine⟨aq.trans bQ,?_⟩;rw[if_neg ω] at kT;subst kT
    try have cZ:=bQ.PN cZ
    have aq:=aq.trans bQ;refine R1 11 O O aq$ Qs 12 O (Sz O O) aq$ Rm (i:=13) O (by kernel_rfl) O O (λ_=>Sz O O) aq$ Sc (i:=14) (by kernel_rfl)$ Ru (i:=14) O O O (SE (cs:=[_,_]) RY O) ?_;rintro _ w14 ⟨tb,rfl,ov,dY,cZ⟩;refine⟨aq.trans dY,?_⟩;have lh:w.heap.size<=tb:=by have:=aq.size;omega
    have aq:=aq.trans dY;refine Ut [15]$ qO 15$ QO (i:=15) O O (QT (news:=[.slice none 0 0,I ((0:Nat):Int)]) RY O O O O cZ ξ) ?_;rintro w15 ⟨eW,ll⟩;refine⟨trivial,?_⟩;refine PT 16 O (Sv O) trivial$ qE ?_;exact(bF _ _ ⟨tb,.slice none 0 0,0,false,rfl,aq.It ll (λi e=>by omega),lh,eW,λe=>by cases e⟩).qb
   ·refine Ru (i:=14) O O O (SE (cs:=[_,_]) RY O) ?_;rintro _ w14 ⟨tb,rfl,ov,dY,cZ⟩;refine⟨aq.trans dY,?_⟩;have lh:w.heap.size<=tb:=by have:=aq.size;omega
    have aq:=aq.trans dY;refine Sc (i:=10) (by kernel_rfl)$ SW (i:=10) O O O (yc z8C O) (Y3 (aq.PN h.PN) h.len ω hp r succ.length h1 h2 yK) ?_;rintro _ w10 ⟨kT,bQ⟩;refine⟨aq.trans bQ,?_⟩;rw[if_neg ω] at kT;subst kT
    try have cZ:=bQ.PN cZ
    have aq:=aq.trans bQ;refine R1 11 O O aq$ Qs 12 O (Sz O O) aq$ Rm (i:=13) O (by kernel_rfl) O O (λ_=>Sz O O) aq$ Ut [15]$ qO 15$ QO (i:=15) O O (QT (news:=[.slice none 0 0,I ((0:Nat):Int)]) RY O O O O cZ ξ) ?_;rintro w15 ⟨eW,ll⟩;refine⟨trivial,?_⟩;refine PT 16 O (Sv O) trivial$ qE ?_;exact(bF _ _ ⟨tb,.slice none 0 0,0,false,rfl,aq.It ll (λi e=>by omega),lh,eW,λe=>by cases e⟩).qb
  ·have aq:=hg;refine Qn [15] (λw'=>Ext w w') (by kernel_rfl) O$ qL 0 O (λ_ h=>(PX Xv O O (h.PN g7) O)) aq$ Qs 1 O (R8 O) aq$ Qs 2 O (Qz ZN O) aq$ R1 3 O O (aq)$ qL 4 O (λ_ h=>(PX QE O O (h.PN nK) O)) aq$ Qs 5 O (TP QE O) aq$ qL 6 O (λ_ h=>(PX Xv O O (h.PN g7) O)) aq$ Qs 7 O (R8 O) aq$ Qs 8 O (Qz Yb O) aq$ qL 9 O (λ_ hS=>QB (news:=Wz p) U75 O SO O (mZ (hS.PN h.PN)) O) aq$ XN (i:=10) (j:=14) (by kernel_rfl) ?_ ?_
   ·refine SW (i:=10) O O O (yc z8C O) (Y3 (aq.PN h.PN) h.len ω hp r succ.length h1 h2 yK) ?_;rintro _ w10 ⟨kT,bQ⟩;refine⟨aq.trans bQ,?_⟩;rw[if_pos mG] at kT;subst kT
    try have cZ:=bQ.PN cZ
    have aq:=aq.trans bQ;refine R1 11 O O aq$ Qs 12 O (Sz O O) aq$ Rm (i:=13) O (by kernel_rfl) O O (λ_=>Sz O O) aq$ Sc (i:=14) (by kernel_rfl)$ Ru (i:=14) O O O (SE (cs:=[_,_]) RY O) ?_;rintro _ w14 ⟨tb,rfl,ov,dY,cZ⟩;refine⟨aq.trans dY,?_⟩;have lh:w.heap.size<=tb:=by have:=aq.size;omega
    have aq:=aq.trans dY;refine Ut [15]$ qO 15$ QO (i:=15) O O (QT (news:=[.slice a1 m1 c1,I ((e1:Nat):Int)]) RY O O O O cZ ξ) ?_;rintro w15 ⟨eW,ll⟩;refine⟨trivial,?_⟩;refine PT 16 O (Sv O) trivial$ qE ?_;exact(bF _ _ ⟨tb,.slice a1 m1 c1,e1,Vq p m1 succ.length e1,rfl,aq.It ll (λi e=>by omega),lh,eW,λe=>⟨mG,rfl,rfl,e⟩⟩).qb
   ·refine Ru (i:=14) O O O (SE (cs:=[_,_]) RY O) ?_;rintro _ w14 ⟨tb,rfl,ov,dY,cZ⟩;refine⟨aq.trans dY,?_⟩;have lh:w.heap.size<=tb:=by have:=aq.size;omega
    have aq:=aq.trans dY;refine Sc (i:=10) (by kernel_rfl)$ SW (i:=10) O O O (yc z8C O) (Y3 (aq.PN h.PN) h.len ω hp r succ.length h1 h2 yK) ?_;rintro _ w10 ⟨kT,bQ⟩;refine⟨aq.trans bQ,?_⟩;rw[if_pos mG] at kT;subst kT
    try have cZ:=bQ.PN cZ
    have aq:=aq.trans bQ;refine R1 11 O O aq$ Qs 12 O (Sz O O) aq$ Rm (i:=13) O (by kernel_rfl) O O (λ_=>Sz O O) aq$ Ut [15]$ qO 15$ QO (i:=15) O O (QT (news:=[.slice a1 m1 c1,I ((e1:Nat):Int)]) RY O O O O cZ ξ) ?_;rintro w15 ⟨eW,ll⟩;refine⟨trivial,?_⟩;refine PT 16 O (Sv O) trivial$ qE ?_;exact(bF _ _ ⟨tb,.slice a1 m1 c1,e1,Vq p m1 succ.length e1,rfl,aq.It ll (λi e=>by omega),lh,eW,λe=>⟨mG,rfl,rfl,e⟩⟩).qb
def RM (L:List (List Nat))(n r:Nat):List Nat:=if r=0 then [] else(L[n-r]?).getD []
def z1i (p:Ry)(L:List (List Nat))(E:List (Nat×Nat))(n size:Nat)(e:Nat×Nat):Prop:=
 e=(0,0)\/(1<=e.1/\e.1<=p.Qq/\e.1<=n/\∃l e',L[n-e.1]? =some l/\E[n-e.1]? =some e'/\e.2=e'.2+1/\Vq p l.length size e'.2=true)
theorem zgO {j n:Nat}(h1:j<n)(h2:n+1<=j+17):j%17≠n%17:=by omega
theorem PkM.add {w wA wB wC wD wE wF:World}{k:Nat}{p:Ry}{L:List (List Nat)}{E:List (Nat×Nat)}{bs bs':List Bool}{F F':Nat->Prop}{R:List (Value×Nat)}{wp ed b4:Nat}(h:PkM w k p L E bs F R wp ed)(mq:Ext w wA)(jy:Kp F wA wB)(C8:Zs wB wp bs' F')(rh:∀i,F' i->F i\/wA.heap.size<=i)
  {a':Option Addr} {cp' ch r:Nat} {succ:List Nat} (hs:QP succ) (Ef:Ext wB wC) (xn:Sl wC (.slice a' succ.length cp') 59 1 succ.length (succ.map QJ)) (uS:succ.length<=cp') (cG:∀g,(Value.slice a' succ.length cp').ownBlock=some g->wB.heap.size<=g)
  (fR:Kp (λi=>i=k) wC wD) (ma:Kp (λi=>i=k) wD wE) (uT:Kp (λi=>i=b4) wE wF) (eM:w.heap.size<=b4) (LL:b4<wA.heap.size) (Eg:Q7 wF k (Z6 p (R.set (L.length%17) (.slice a' succ.length cp',ch)) (L.length+1) wp (ed+succ.length)) 257):
  PkM wF k p (L++[succ]) (E++[(r,ch)]) bs' F' (R.set (L.length%17) (.slice a' succ.length cp',ch)) wp (ed+succ.length)/\Kp (λi=>F i\/i=k) w wF/\∀i,F' i->F i\/w.heap.size<=i:=by
 have lk:=h.PN.lt
 have zA:=mq.size
 have zB:=jy.size
 have kH:∀i,F i->i<w.heap.size:=λi hi=>h.wr.lt hi
 have oA:∀i,F' i->i<wB.heap.size:=λi hi=>C8.lt hi
 have uU:¬F' k:=λe=>by rcases rh k e with e|e;exact h.nk e;omega
 have Eh:¬F' b4:=λe=>by rcases rh b4 e with e|e;(have:=kH _ e;omega);omega
 have Ei:∀{v:Value} {n:Nat} {cs:List Value},Sl w v 59 1 n cs->(∀g,v.ownBlock=some g->¬F g/\g≠k)->Sl wF v 59 1 n cs:=λhS hg=>
  ((((((hS.ext mq).kp jy (λg e=>(hg g e).1)).ext Ef).kp fR (λg e=>(hg g e).2)).kp ma (λg e=>(hg g e).2)).kp uT (λg e e'=>by have:=hS.lt e;omega))
 have LM:=((xn.kp fR (λg e e'=>by have:=cG g e;omega)).kp ma (λg e e'=>by have:=cG g e;omega)).kp uT (λg e e'=>by have:=cG g e;omega)
 refine⟨⟨by rw[List.length_append,List.length_singleton];exact Eg,by rw[List.length_set];exact h.len,(((C8.ext Ef).kp fR (λi hi e=>uU (e▸hi))).kp ma (λi hi e=>uU (e▸hi))).kp uT (λi hi e=>Eh (e▸hi)),uU,by rw[List.length_append,List.length_append,h.el];rfl,λl hl=>?_,λj l e h1 h2 h3=>?_⟩,?_,λi hi=>?_⟩
 ·rcases List.mem_append.1 hl with hl|hl
  ·exact h.ok l hl
  ·rw[List.mem_singleton.1 hl];exact hs
 ·rw[List.length_append,List.length_singleton] at h3;rcases Nat.lt_or_ge j L.length with hj|hj
  ·rw[List.getElem?_append_left hj] at h1;rw[List.getElem?_append_left (by rw[h.el];exact hj)] at h2;obtain⟨a,cp,g1,g2,g3,g4⟩:=h.ring j l e h1 h2 ω;refine⟨a,cp,?_,g2,Ei g3 g4,λg hg=>⟨λe'=>?_,(g4 g hg).2⟩⟩
   ·rw[List.getElem?_set_ne (λe'=>zgO hj ω e'.symm)];exact g1
   ·rcases rh g e' with e'|e'
    ·exact(g4 g hg).1 e'
    ·have:=g3.lt hg;omega
  ·have Ej:=(List.getElem?_eq_some_iff.1 h1).1;rw[List.length_append,List.length_singleton] at Ej;have ej:j=L.length:=by omega
   subst ej;rw[List.getElem?_append_right (Nat.le_refl _),Nat.sub_self,List.getElem?_cons_zero] at h1;rw[List.getElem?_append_right (by rw[h.el];exact Nat.le_refl _),h.el,Nat.sub_self,List.getElem?_cons_zero] at h2;cases h1;cases h2;refine⟨a',cp',List.getElem?_set_self (by rw[h.len];exact Nat.mod_lt _ ψ),uS,LM,λg hg=>⟨λe'=>?_,λe'=>?_⟩⟩
   ·have:=cG g hg;have:=oA g e';omega
   ·have:=cG g hg;omega
 ·exact((((mq.kp.trans (jy.PU λi e=> .inl e)).trans Ef.kp).trans (fR.PU λi e=> .inr e)).trans (ma.PU λi e=> .inr e)).It uT (λi e=> .inl ω)
 ·rcases rh i hi with e| e
  ·exact .inl e
  ·exact .inr ω
def zbn {w:World}{k:Nat}{p:Ry}(hp:p.RE){L:List (List Nat)}{E:List (Nat×Nat)}{bs:List Bool}{F:Nat->Prop}{R:List (Value×Nat)}{wp ed:Nat}(h:PkM w k p L E bs F R wp ed)(hG:Q7 w 1 (Ts .gamma) 294)(hU:Q7 w 2 (Ts .unary) 294)(hL:L.length<65536)
  {a:Option Addr} {cp:Nat} {succ:List Nat} (hs:QP succ) (mj:succ.length<=cp) (eI:Rd w (.slice a succ.length cp) 1 succ.length (succ.map QJ)) (C9:ed+succ.length<=1048576) (LN:∀g,0<succ.length->(Value.slice a succ.length cp).ownBlock=some g->¬F g/\g≠k)
  (oB:∀r,r<=p.Qq->bs.length+(Qo (SG p.list L.length succ (RM L L.length r) r)).length<=134217728):
  Qu prog 113 [ptr k 0,.slice a succ.length cp] w λu w'=>∃(r least ch:Nat) (F':Nat->Prop) (R':List (Value×Nat)),u= .tuple #[I (r:Int),I (least:Int),I 0]/\z1i p L E L.length succ.length (r,ch)/\
   PkM w' k p (L++[succ]) (E++[(r,ch)]) (bs++Qo (SG p.list L.length succ (RM L L.length r) r)) F' R' wp (ed+succ.length)/\Kp (λi=>F i\/i=k) w w'/\∀i,F' i->F i\/w.heap.size<=i:=by
 have yJ:p.Qq<=16:=hp.1.1
 have lk:=h.PN.lt
 have mZ:∀{w2:World},Q7 w2 k (Z6 p R L.length wp ed) 257->∀j u,(Wz p)[j]? =some u->w2.cell? ⟨k,0+j,none⟩=some u:=λhB j u hj=>hB.cells (i:=0) (n:=5) (news:=Wz p) O j u hj
 refine py (e:=[(0,_),(1,_)]) func113 O ntmps113 O O$ qN O$ PY O O (Se O (cs:=[ptr k 0]) O) ?_
 rintro _ w1 ⟨b2,rfl,bO,ad,ak⟩
 refine PY O O (Se O (cs:=[.slice a succ.length cp]) O) ?_
 rintro _ w2 ⟨b3,rfl,dP,ae,aw⟩
 refine PY O O (SE (cs:=[_]) Rl O) ?_
 rintro _ w3 ⟨b4,rfl,eM,ah,aM⟩
 have z1:=ad.size
 have z2:=ae.size
 have z3:=ah.size
 have lb2:=ak.lt
 have lb3:=aw.lt
 have lb4:=aM.lt
 have ct:=(ad.trans ae).trans ah
 have bG:=ah.PN (ae.PN ak)
 have eR:=ah.PN aw
 have oz:=ct.PN h.PN
 replace aM:Q7 w3 b4 [I ((0:Nat):Int)] 3:=aM
 refine Rt O$ RP$ qN O$ qV ((PX Xv O O bG O))$ qV (R9 Xv O O)$ Qc O$ PZ O$ qN O$ qV ((PX Xv O O bG O))$ QA O$ Qd ZN O$ Qd Ws O$ qV (PX U3 O O oz (z7Y h.len))$ UZ O ?_
 refine QW$ Qc O$ TT O$ PM$ qN O$ qV ((PX Xv O O bG O))$ QA O$ Qd ZN O$ Qd Ws O$ qV (PX U3 O O oz (z7Y h.len))$ PY O O (SE (cs:=[_]) Rl O) ?_
 rintro _ w4 ⟨b7,rfl,mH,aC,bU⟩
 have z4:=aC.size
 have lb7:=bU.lt
 refine Qb O (RV Rl O O O bU ξ) ?_
 rintro w5 ⟨mW,aj⟩
 replace mW:Q7 w5 b7 [I (L.length:Int)] 3:=mW
 have cC:Ext w3 w5:=aC.It aj (λi e=>by omega)
 have bV:=ct.trans cC
 have z5:=cC.size
 have z45:=aj.size
 have yM:=bV.PN h.PN
 have dL:=cC.PN bG
 have cY:=cC.PN eR
 have aO:=cC.PN aM
 have eC:=Ext.Qh w5
 refine PQ$ An$ QH (λe' w'=>∃b8 least,e'=[(2,ptr b2 0),(3,ptr b3 0),(4,ptr b4 0),(7,ptr b7 0),(8,ptr b8 0),(6,I 0)]/\Ext w5 w'/\w5.heap.size<=b8/\Q7 w' b8 [I ((least:Nat):Int)] 3) ?bF$ λbF=>?dg
 case bF =>
  rintro e' w6 ⟨b8,least0,rfl,aS,jf,co⟩;have z6:=aS.size;have lb8:=co.lt;have iT:=bV.trans aS;have Ek:=aS.PN yM;have cL:=aS.PN dL;have jx:=aS.PN cY;have dR:=Ext.Qh w6;refine RP$ Qx O$ RA O$ Qc O$ PZ O$ An$ S5 (λw'=>Ext w6 w') O$ qT 0 O (λ_ h=>(PX Xv O O (h.PN cL) O)) dR$ PT 1 O (R8 O) dR$ PT 2 O (Qz z4B O) dR$ qT 4 O (λ_ h=>(PX QE O O (h.PN jx) O)) dR$ PT 5 O (TP QE O) dR$ qT 3 O (λ_ hS=>PX U3 O O (hS.PN Ek) (zhk h.len)) dR$ PT 6 O (Wa O O ω) dR ?_;refine PT 7 O (Zr O O) dR$ UQ$ PT 8 O (Sv O) dR$ qE$ TT O$ PM$ qN O ?_;have zg6:=dR.size;refine PY O O (SE (cs:=[_,_]) RY O) ?_;rintro _ w7 ⟨b9,rfl,jg,cu,cF⟩;have lb9:=cF.lt;have eX:=dR.trans cu;have kJ:=iT.trans eX;have ig:=aS.trans eX;have z7:=kJ.size;have z67:=eX.size;have El:=kJ.PN h.PN;have BY:AdM w7 k b2 b3 b7 b8 b4 b9 a succ.length cp L.length least0 0 (.slice none 0 0) 0:=⟨eX.PN cL,eX.PN jx,ig.PN mW,eX.PN co,ig.PN aO,cF⟩;have hd:b8≠b2/\b8≠b3/\b8≠b7/\b4≠b2/\b4≠b3/\b4≠b7/\b9≠b2/\b9≠b3/\b9≠b7/\b8≠b4/\b8≠b9/\b4≠b9:=by omega
  refine qM O$ qV (ymf (first:=[]) (caps:=[.tmp 2,.tmp 3,.tmp 7,.tmp 8,.tmp 4,.tmp 9]) O O)$ Qc O$ An$ qN O ?_;have Em:=BY.c2;refine qV (PX Xv O O Em O)$ QA O$ Qd Yb O$ Qd z2T O$ qV (PX U3 O O El O)$ Q4 O$ PQ$ Qy.qb (e:=[(2,_),(3,_),(4,_),(6,_),(7,_),(8,_),(9,_),(10,_),(58,_),(59,_)]) ?_;refine PS$ SK (α:=Nat) (0) (λi=>[(2,ptr b2 0),(3,ptr b3 0),(4,ptr b4 0),(7,ptr b7 0),(8,ptr b8 0),(9,ptr b9 0),(10,.func (.func 150) #[] #[ptr b2 0,ptr b3 0,ptr b7 0,ptr b8 0,ptr b4 0,ptr b9 0]),(58,I (p.Qq:Int)),(59,I (i:Int))]) (λi w'=>Ext w w'/\w7.heap.size<=w'.heap.size/\i<=p.Qq/\∃least ref v c,AdM w' k b2 b3 b7 b8 b4 b9 a succ.length cp L.length least ref v c/\Found p L E R succ.length ref v c) (λi=>p.Qq-i) ?hI ?hround
  case hI=>exact⟨kJ,Nat.le_refl _,Nat.zero_le _,_,_,_,_,BY,.inl ⟨rfl,rfl,rfl⟩⟩
  case hround=>
   rintro i wA ⟨mq,OX,hi,least,ref,v,c,hA,hF⟩ ih
   try dsimp only
   refine qN O$ RT O$ PQ$ An$ Q8 O (λh0=>?_)$ λh0=>?_
   ·refine PR$ RP$ Qx O$ Qc O$ PW O$ Qp O$ R7 O ?_;rw[show(i:Int)+1=((i+1:Nat):Int) by omega];refine RB O O (T6 zjk O O) (ze0 hp (h.ext mq) (mq.PN hG) (mq.PN hU) hL hs mj (eI.ext mq) hA hF hd (i+1) ω ω) ?_;rintro _ w9 ⟨rfl,ax,least',ref',v',c',sH,LO⟩;have z9:=ax.size;refine PQ$ PM$ PW O$ R7 O$ Q4 O$ PQ ?_;exact(ih (i+1) _ ⟨mq.It ax (λi hi=>by omega),ω,ω,_,_,_,_,sH,LO⟩ ω).qb
   ·have jk:∀b,w.heap.size<=b->¬F b:=λb hb e=>by have:=h.wr.lt e;omega
    have uV:=mq.PN h.PN
    have xZ:ref<=p.Qq/\(ref=0->RM L L.length ref=[])/\QP (RM L L.length ref)/\(∃va vc,v= .slice va (RM L L.length ref).length vc/\(RM L L.length ref).length<=vc/\Rd wA (.slice va (RM L L.length ref).length vc) 1 (RM L L.length ref).length ((RM L L.length ref).map QJ))/\z1i p L E L.length succ.length (ref,if 0<ref then c+1 else 0)/\c<=65536:=by
     rcases hF with⟨rfl,rfl,rfl⟩|⟨f1,f2,f3,f4,l,e,f5,f6,rfl,f8⟩
     ·refine⟨Nat.zero_le _,λ_=>rfl,⟨List.Pairwise.nil,λy h=>(by cases h)⟩,⟨none,0,rfl,Nat.zero_le _,WO⟩,.inl rfl,Nat.zero_le _⟩
     ·have jl:RM L L.length ref=l:=by unfold RM;rw[if_neg ω,f5];rfl
      obtain⟨va,vc,g1,g2,g3,g4⟩:=h.ring _ l e f5 f6 ω;rw[f4] at g1;have gv:v= .slice va l.length vc:=(Prod.mk.inj (SH g1)).1;have hb:=of_decide_eq_true f8;have LP:=hp.2.1;rw[jl];exact⟨f2,λe=>by omega,h.ok l (List.mem_of_getElem? f5),⟨va,vc,gv,g2,(g3.ext mq).rd⟩,.inr ⟨f1,f2,f3,l,e,f5,f6,by dsimp only;rw[if_pos ω],f8⟩,ω⟩
    obtain⟨dm,dv,cq,⟨va,vc,rfl,bH,bP⟩,ii,LQ⟩:=xZ;have Ca:=oB ref dm
    generalize En:RM L L.length ref=lr at dv cq bH bP Ca hA
    have qw:=hA.c2;have xh:=hA.c3;have Eo:=hA.c7;have yN:=hA.c9;have yO:=hA.c4;have Ep:=hA.c8;have lq:=Ext.Qh wA;refine Q5 O$ An$ An$ S5 (λw'=>Kp F wA w') O$ qT 0 O (λ_ hS=>(PX Xv O O (hS.PN qw (jk _ ω)) O)) (lq.kp)$ PT 1 O (R8 O) (lq.kp)$ PT 2 O (Qz z4d O) (lq.kp)$ qT 4 O (λ_ hS=>(PX U3 O O (hS.PN Eo (jk _ ω)) O)) (lq.kp)$ qT 5 O (λ_ hS=>(PX QE O O (hS.PN xh (jk _ ω)) O)) (lq.kp)$ PT 6 O (Qz TC O) (lq.kp)$ qT 7 O (λ_ hS=>(PX QE O O (hS.PN yN (jk _ ω)) O)) (lq.kp)$ qT 8 O (λ_ hS=>(PX U3 O O (hS.PN yO (jk _ ω)) O)) (lq.kp)$ qT 9 O (λ_ hS=>(PX Xv O O (hS.PN qw (jk _ ω)) O)) (lq.kp)$ PT 10 O (R8 O) (lq.kp) ?_;refine PT 11 O (Qz Yb O) (lq.kp)$ qT 3 O (λ_ hS=>PX z4M O O (hS.PN uV h.nk) (zgz h.len)) (lq.kp)$ qT 12 O (λ_ hS=>QB (news:=Wz p) U75 O SO O (mZ (hS.PN uV h.nk)) O) (lq.kp)$ T9 13 O z2j O (Ud p _) ?_;rintro _ w9 ⟨rfl,fN⟩;refine⟨(lq.trans fN).kp,?_⟩;have n8:=lq.trans fN;have gH:=mq.trans n8;refine T9 14 O zf5 O (z1b (h.wr.ext gH) p.list hp.1 L.length hL succ lr hs cq ref dm dv (gH.PN hG) (gH.PN hU) (eI.ext gH) (bP.ext n8) mj bH Ca) ?_;rintro _ wB ⟨rfl,F',C8,jy,rh⟩;refine⟨n8.kp.trans jy,?_⟩;have iU:Kp F wA wB:=n8.kp.trans jy;have Er:∀i,F' i->F i\/wA.heap.size<=i:=λi hi=>(rh i hi).imp id (λe=>by have:=n8.size;omega);have yP:=iU.PN yO (jk _ ω);have Es:=iU.PN yN (jk _ ω);have yQ:=iU.PN qw (jk _ ω);have yR:=iU.PN xh (jk _ ω);have Et:=iU.PN Ep (jk _ ω);have Eu:=iU.PN uV h.nk;have S7:=iU.size;have Ev:Rd wB (.slice a succ.length cp) 1 succ.length (succ.map QJ):=(eI.ext mq).kpz iU (λh0 g hg=>(LN g h0 hg).1);refine PT 15 O (Sv O) (n8.kp.trans jy)$ qE$ Qy.qb (e:=[(2,_),(3,_),(4,_),(8,_),(9,_),(12,_)]) ?_;refine Qx O$ RA O$ Re O$ RN O$ An$ qN O$ qV ((PX U3 O O yP O))$ RK O$ PQ$ QH (λe' w'=>e'=[(2,ptr b2 0),(3,ptr b3 0),(4,ptr b4 0),(8,ptr b8 0),(13,I ((if 0<ref then c+1 else 0:Nat):Int))]/\w'=wB) ?aq$ λaq=>?dU
    case aq=>
     rintro e' wB' ⟨rfl,rfl⟩
     generalize (if 0<ref then c+1 else 0)=ch at ii
     have ri:=Ext.Qh wB';have Ew:∀i,i<wB'.heap.size->¬(Value.slice none 0 0).ownBlock=some i:=λi _ e=>by cases e
     refine An$ S5 (λw'=>Kp (λi=>i=k) wB' w') O$ qT 0 O (λ_ hS=>(PX Xv O O (hS.PN yQ ω) O)) (ri.kp)$ PT 1 O (R8 O) (ri.kp)$ PT 2 O (Qz ZN O) (ri.kp)$ qT 3 O (λ_ hS=>(PX QE O O (hS.PN yR ω) O)) (ri.kp)$ Qi 5 O O (ri.kp)$ qO 4$ YZ (i:=4) O O O (pap QE Ql O ψ O O (Sl.nil _ _ _) (Ev.ext ri) (z4n _) ω (by simp only[maxLen];omega)) ?_;rintro v' wC ⟨xn,km,LR,-⟩;refine⟨ri.kp.trans (km.PU λi e=>by cases e),?_⟩;have lu:Ext wB' wC:=ri.trans ((Ext.refl _).It km (λi e=>by cases e));rw[Nat.zero_add,List.nil_append] at xn;obtain⟨a',cp',rfl,-⟩:=xn.rd.shape
     have uS:succ.length<=cp':=by
      rcases xn.shape with⟨e,h0⟩|⟨g,c1,hv,gS⟩
      ·omega
      ·cases hv;exact gS
     have yS:∀g,(Value.slice a' succ.length cp').ownBlock=some g->wB'.heap.size<=g:=λg hg=>by
      rcases LR g hg with e| e
      ·cases e
      ·have:=ri.size;omega
     have Ex:=lu.PN Eu;refine T9 6 O zhG O (zd2 Ex h.len ω a' succ.length cp' ch) ?_;rintro _ wD ⟨rfl,J7,fR⟩;refine⟨lu.kp.trans fR,?_⟩;have dc:(R.set (L.length%17) (.slice a' succ.length cp',ch)).length=17:=by rw[List.length_set];exact h.len
     have Ey:=fR.PN (lu.PN yQ) ω;have Ez:=fR.PN (lu.PN yR) ω;have EA:=fR.PN (lu.PN yP) ω;have EB:=fR.PN (lu.PN Et) ω;have oC:=Ext.Qh wD;refine qE$ An$ Qn [9] (λw'=>Ext wD w') (by kernel_rfl) O$ qL 0 O (λ_ h=>(PX Xv O O (h.PN Ey) O)) oC$ Qs 1 O (R8 O) oC$ Qs 2 O (Qz z4B O) oC$ qL 4 O (λ_ h=>(PX QE O O (h.PN Ez) O)) oC$ Qs 5 O (TP QE O) oC$ qL 3 O (λ_ h=>PX U3 O O (h.PN J7) (zhk dc)) oC$ Qs 6 O (Wa O O ω) oC$ Qs 7 O (R8 O) oC$ Qs 8 O (Qz z4B O) oC$ Ut [9]$ qO 9 ?_;refine QO (i:=9) O O (RV Rl O O O (oC.PN J7) (by rw[z7b dc];decide)) ?_;rintro wE ⟨Cb,EC⟩;refine⟨trivial,?_⟩;replace Cb:Q7 wE k ((Z6 p (R.set (L.length%17) (.slice a' succ.length cp',ch)) (L.length+1) wp ed).set 41 (I ((ed+succ.length:Nat):Int))) 257:=Cb;rw[zeF dc] at Cb;have ma:Kp (λi=>i=k) wD wE:=oC.kp.trans EC;have uW:=ma.PN EA ω;have ED:=ma.PN EB ω;have rj:=Ext.Qh wE;refine qE$ An$ S5 (λw'=>Kp (λi=>i=b4) wE w'/\Q7 w' b4 [I (ref:Int)] 3) O$ qT 0 O (λ_ h=>(PX U3 O O h.2 O)) (⟨rj.kp,rj.PN uW⟩)$ qT 1 O (λ_ hS=>(PX U3 O O (hS.1.PN ED ω) O)) (⟨rj.kp,rj.PN uW⟩)$ qO 2$ QO (i:=2) O O (RV Rl O O O (rj.PN uW) ξ) ?_;rintro wF ⟨na,rk⟩;refine⟨⟨rj.kp.trans rk,na⟩,?_⟩;replace na:Q7 wF b4 [I (ref:Int)] 3:=na;have uT:Kp (λi=>i=b4) wE wF:=rj.kp.trans rk;have Eg:=uT.PN Cb ω;refine PT 3 O (Sv O) (⟨rj.kp.trans rk,na⟩)$ PT 4 O (Sv O) (⟨rj.kp.trans rk,na⟩)$ qE$ Qy.qb (e:=[(4,_),(5,_),(6,_)]) ?_;refine Qt func113 (.cell1 U3 O O ((na).cell _) (.tmp O (.tmp O .nil))) ?_;obtain⟨q1,q2,q3⟩:=h.add (r:=ref) mq iU C8 Er hs lu xn uS yS fR ma uT ω ω Eg;exact⟨_,rfl,ref,least,ch,F',_,rfl,ii,by rw[En];exact q1,q2,q3⟩
    case dU=>
     refine Q8 O (λh5=>?_)$ λh5=>?_
     ·refine PW O$ Qd z4s O$ qV (PX U3 O O Es O)$ R7 O$ Qc O ?_;rw[show(c:Int)+1=((if 0<ref then c+1 else 0:Nat):Int) by rw[if_pos ω];omega];exact(aq _ _ ⟨rfl,rfl⟩).qb
     ·refine PR ?_;have jF:(if 0<ref then c+1 else 0)=0:=if_neg ω;exact(aq _ _ ⟨by rw[jF],rfl⟩).qb
 case dg=>
  have aq:=eC;refine Qn [12] (λw'=>Ext w5 w') (by kernel_rfl) O$ qL 0 O (λ_ h=>(PX U3 O O (h.PN mW) O)) aq$ qL 1 O (λ_ h=>(PX QE O O (h.PN cY) O)) aq$ qL 2 O (λ_ h=>(PX Xv O O (h.PN dL) O)) aq$ Qs 3 O (R8 O) aq$ Qs 4 O (Qz Yb O) aq$ qL 5 O (λ_ h=>QB (news:=Wz p) U75 O SO O (mZ (h.PN yM)) O) aq$ XN (i:=6) (j:=11) (by kernel_rfl) ?_ ?_
  ·refine SW (i:=6) O O O (yc z2j O) (Ud p _) ?_;rintro _ w6 ⟨rfl,aS⟩;refine⟨aq.trans aS,?_⟩
   try have bj:=aS.PN bj
   have aq:=aq.trans aS;refine XN (i:=7) (j:=11) (by kernel_rfl) ?_ ?_
   ·refine SW (i:=7) O O O (yc z58 O) (WM p.list hp.1 L.length hL succ [] hs ⟨List.Pairwise.nil,λy h=>(by cases h)⟩ 0 (Nat.zero_le _) (λ_=>rfl) ((bV.trans aq).PN hG) ((bV.trans aq).PN hU) (eI.ext (bV.trans aq)) WO mj (Nat.zero_le _)) ?_;rintro _ w7 ⟨rfl,cu⟩;refine⟨aq.trans cu,?_⟩
    try have bj:=cu.PN bj
    have aq:=aq.trans cu;refine R1 8 O O aq$ Qs 9 O (Sz O O) aq$ Rm (i:=10) O (by kernel_rfl) O O (λ_=>Sz O O) aq$ Sc (i:=11) (by kernel_rfl)$ Ru (i:=11) O O O (SE (cs:=[_]) Rl O) ?_;rintro _ w11 ⟨b8,rfl,jw,bc,bj⟩;refine⟨aq.trans bc,?_⟩;have oD:w5.heap.size<=b8:=by have:=aq.size;omega
    have aq:=aq.trans bc;refine Ut [12]$ qO 12$ QO (i:=12) O O (RV Rl O O O bj ξ) ?_;rintro w12 ⟨aX,bA⟩;refine⟨trivial,?_⟩;refine PT 13 O (Sv O) trivial$ qE$ Qy.qb (e:=[(2,_),(3,_),(4,_),(5,_),(6,_),(7,_),(8,_)]) ?_;exact(bF _ _ ⟨b8,_,rfl,aq.It bA (λi e=>by omega),oD,aX⟩).qb
   ·refine Ru (i:=11) O O O (SE (cs:=[_]) Rl O) ?_;rintro _ w11 ⟨b8,rfl,jw,bc,bj⟩;refine⟨aq.trans bc,?_⟩;have oD:w5.heap.size<=b8:=by have:=aq.size;omega
    have aq:=aq.trans bc;refine Sc (i:=7) (by kernel_rfl)$ SW (i:=7) O O O (yc z58 O) (WM p.list hp.1 L.length hL succ [] hs ⟨List.Pairwise.nil,λy h=>(by cases h)⟩ 0 (Nat.zero_le _) (λ_=>rfl) ((bV.trans aq).PN hG) ((bV.trans aq).PN hU) (eI.ext (bV.trans aq)) WO mj (Nat.zero_le _)) ?_;rintro _ w7 ⟨rfl,cu⟩;refine⟨aq.trans cu,?_⟩
    try have bj:=cu.PN bj
    have aq:=aq.trans cu;refine R1 8 O O aq$ Qs 9 O (Sz O O) aq$ Rm (i:=10) O (by kernel_rfl) O O (λ_=>Sz O O) aq$ Ut [12]$ qO 12$ QO (i:=12) O O (RV Rl O O O bj ξ) ?_;rintro w12 ⟨aX,bA⟩;refine⟨trivial,?_⟩;refine PT 13 O (Sv O) trivial$ qE$ Qy.qb (e:=[(2,_),(3,_),(4,_),(5,_),(6,_),(7,_),(8,_)]) ?_;exact(bF _ _ ⟨b8,_,rfl,aq.It bA (λi e=>by omega),oD,aX⟩).qb
  ·refine Ru (i:=11) O O O (SE (cs:=[_]) Rl O) ?_;rintro _ w11 ⟨b8,rfl,jw,bc,bj⟩;refine⟨aq.trans bc,?_⟩;have oD:w5.heap.size<=b8:=by have:=aq.size;omega
   have aq:=aq.trans bc;refine Sc (i:=6) (by kernel_rfl)$ SW (i:=6) O O O (yc z2j O) (Ud p _) ?_;rintro _ w6 ⟨rfl,aS⟩;refine⟨aq.trans aS,?_⟩
   try have bj:=aS.PN bj
   have aq:=aq.trans aS;refine Sc (i:=7) (by kernel_rfl)$ SW (i:=7) O O O (yc z58 O) (WM p.list hp.1 L.length hL succ [] hs ⟨List.Pairwise.nil,λy h=>(by cases h)⟩ 0 (Nat.zero_le _) (λ_=>rfl) ((bV.trans aq).PN hG) ((bV.trans aq).PN hU) (eI.ext (bV.trans aq)) WO mj (Nat.zero_le _)) ?_;rintro _ w7 ⟨rfl,cu⟩;refine⟨aq.trans cu,?_⟩
   try have bj:=cu.PN bj
   have aq:=aq.trans cu;refine R1 8 O O aq$ Qs 9 O (Sz O O) aq$ Rm (i:=10) O (by kernel_rfl) O O (λ_=>Sz O O) aq$ Ut [12]$ qO 12$ QO (i:=12) O O (RV Rl O O O bj ξ) ?_;rintro w12 ⟨aX,bA⟩;refine⟨trivial,?_⟩;refine PT 13 O (Sv O) trivial$ qE$ Qy.qb (e:=[(2,_),(3,_),(4,_),(5,_),(6,_),(7,_),(8,_)]) ?_;exact(bF _ _ ⟨b8,_,rfl,aq.It bA (λi e=>by omega),oD,aX⟩).qb
section
variable {w:World}{k:Nat}{p:Ry}{L:List (List Nat)}{E:List (Nat×Nat)}{bs:List Bool}{F:Nat->Prop}{R:List (Value×Nat)}{wp ed:Nat}
def z8f (h:PkM w k p L E bs F R wp ed)(hl:bs.length<=9223372036854775):Qu prog 114 [ptr k 0] w λu w'=>u=I (bs.length:Int)/\Ext w w':=by
 refine py (e:=[(0,_)]) func114 O ntmps114 O O ?_
 have hg:=Ext.Qh w
 refine RN O$ QS O$ qV (R9 Xv O O)$ Re O$ An$ S5 (λw'=>Ext w w') O$ Qi 0 O O (hg)$ PT 1 O (R8 O) hg$ PT 2 O (Qz zeO O) hg$ Qi 4 O O (hg)$ PT 5 O (R8 O) hg$ PT 6 O (Qz z4d O) hg$ qT 3 O (λ_ hS=>PX U3 O O (hS.PN h.PN) (zlp h.len)) hg$ qT 7 O (λ_ hS=>PX z4M O O (hS.PN h.PN) (zgz h.len)) hg ?_
 refine T9 8 O z3B O (WC (h.wr.ext hg)) ?_
 rintro _ w1 ⟨rfl,rfl⟩
 refine⟨hg,?_⟩
 refine PT 9 O (Wa O O ω) hg$ PT 10 O (Sv O) hg$ qE ?_
 rw[show(0:Int)+(bs.length:Int)=(bs.length:Int) by omega]
 refine PO func114 O ?_
 exact⟨_,rfl,rfl,hg⟩
def z7P (h:PkM w k p L E bs F R wp ed):Qu prog 115 [ptr k 0] w λu w'=>u= .tuple #[S (Qv bs),I 0]/\w'=w:=by
 refine py (e:=[(0,_)]) func115 O ntmps115 O O$ qN O$ Rt O$ QS O$ qV (R9 Xv O O)$ Re O$ Qx O$ QA O$ Qd z4d O$ qV (PX z4M O O h.PN (zgz h.len))$ Qk z9D O (Yd h.wr) ?_
 rintro _ w1 ⟨rfl,rfl⟩
 refine TK O$ Rt O$ PO func115 O ?_
 exact⟨_,rfl,rfl,rfl⟩
end
structure GrM (w:World)(v:Value)(g:List (List Nat)):Prop where
 ex:∃vs:List Value,Rd w v 1 g.length vs/\∀(i:Nat) (l:List Nat),g[i]? =some l->∃(a:Option Addr) (c:Nat),vs[i]? =some (Value.slice a l.length c)/\l.length<=c/\Rd w (.slice a l.length c) 1 l.length (l.map QJ)
def GrM.ext {w w':World}{v:Value}{g:List (List Nat)}(h:GrM w v g)(hx:Ext w w'):GrM w' v g:=by
 obtain⟨vs,h1,h2⟩:=h.ex
 refine⟨vs,h1.ext hx,λi l hl=>?_⟩
 obtain⟨a,c,g1,g2,g3⟩:=h2 i l hl
 exact⟨a,c,g1,g2,g3.ext hx⟩
structure Tl (g:List (List Nat)):Prop where
 ok:∀l∈g,QP l
 lt:∀l∈g,∀y∈l,y<g.length
 n:g.length<=60
theorem Tl.len {g:List (List Nat)}(h:Tl g){l:List Nat}(hl:l∈g):l.length<=g.length:=by
 have:=z4P l 0 g.length (h.ok l hl).ris (λy hy=>⟨Nat.zero_le _,h.lt l hl y hy⟩) (Nat.zero_le _)
 omega
def R6 (g:List (List Nat)):Nat:=(g.map List.length).sum
theorem Zo (g:List (List Nat))(l:List Nat):R6 (g++[l])=R6 g+l.length:=by simp[R6]
def zbB {g:List (List Nat)}{n:Nat}(h:∀l∈g,l.length<=n):R6 g<=g.length*n:=by
 induction g with
 |nil=>simp[R6]
 | cons l g ih =>
   have h1:=ih (λm hm=>h m (List.mem_cons_of_mem _ hm));have h2:=h l List.mem_cons_self;show(l.length::g.map List.length).sum<=_;rw[List.sum_cons,List.length_cons,Nat.add_mul];have e:R6 g=(g.map List.length).sum:=rfl;omega
def Vh {g:List (List Nat)}(h:Tl g)(i:Nat):R6 (g.take i)<=3600:=by
 have h1:R6 (g.take i)<=(g.take i).length*60:=zbB (λl hl=>by have:=h.len (List.mem_of_mem_take hl);have:=h.n;omega)
 have h2:(g.take i).length<=60:=by rw[List.length_take];have:=h.n;omega
 omega
def z5E {w:World}{ga:Option Addr}{gc:Nat}{g:List (List Nat)}(h:GrM w (.slice ga g.length gc) g)(hg:Tl g):Qu prog 112 [.slice ga g.length gc] w λu w'=>u= .bool true/\w'=w:=by
 have hn:=hg.n
 obtain⟨vs,fO,nH⟩:=h.ex
 refine py (e:=[(0,_)]) func112 O ntmps112 O O$ qN O$ S7 O$ Qc O$ QS O$ SR U23 O$ Q4 O$ PQ$ PS$ SK (α:=Nat) (0) (λi=>[(0,.slice ga g.length gc),(3,I (R6 (g.take i):Int)),(8,.slice ga g.length gc),(9,I (g.length:Int)),(10,I (i:Int))]) (λi w'=>w'=w/\i<=g.length) (λi=>g.length-i) ?hI ?hround
 case hI=>exact⟨rfl,Nat.zero_le _⟩
 case hround =>
  rintro i w4 ⟨rfl,hi⟩ ih;have uX:=Vh hg i
  try dsimp only
  refine qN O$ RT O$ PQ$ An$ Q8 O (λh0=>?_)$ λh0=>?_
  ·have dW:i<g.length:=by omega
   obtain⟨l,hl⟩:∃l,g[i]? =some l:=⟨_,List.getElem?_eq_getElem dW⟩;have i7:=List.mem_of_getElem? hl;have fu:=hg.len i7;obtain⟨a,c,e1,e2,e3⟩:=nH i l hl
   obtain⟨gb,go,gc',e4⟩:∃b o c',Value.slice ga g.length gc= .slice (some ⟨b,o,none⟩) g.length c':=by
    rcases fO.2 with⟨c,hc,h0⟩|⟨b,off,c',hc,-⟩
    ·omega
    ·exact⟨b,off,c',hc⟩
   cases e4;refine PR$ RP$ qN O$ qV (Rh U23 Vz O O ω)$ qV (QF QE O O (Rf fO e1))$ S7 O$ Qp O$ SR QE O$ R7 O$ RZ O$ SR QE O$ Q4 O$ PQ$ PS ?_;have C9:=Zo (g.take i) l;rw[<-QR hl] at C9;rw[show(R6 (g.take i):Int)+(l.length:Int)=(R6 (g.take (i+1)):Int) by omega];refine SK (α:=Nat) (0) (λj=>[(0,.slice (some ⟨gb,go,none⟩) g.length gc),(3,I (R6 (g.take (i+1)):Int)),(5,.slice a l.length c),(8,.slice (some ⟨gb,go,none⟩) g.length gc),(9,I (g.length:Int)),(10,I (i:Int)),(18,.slice a l.length c),(19,I (l.length:Int)),(20,I (j:Int))]) (λj w'=>w'=w4/\j<=l.length) (λj=>l.length-j) ?hI ?hround
   case hI=>exact⟨rfl,Nat.zero_le _⟩
   case hround=>
    rintro j w5 ⟨rfl,hj⟩ ih2
    try dsimp only
    refine qN O$ RT O$ PQ$ An$ Q8 O (λh1=>?_)$ λh1=>?_
    ·have m8:j<l.length:=by omega
     obtain⟨y,hy⟩:∃y,l[j]? =some y:=⟨_,List.getElem?_eq_getElem m8⟩;have IP:=hg.lt l i7 y (List.mem_of_getElem? hy)
     obtain⟨lb,lo,lc,e5⟩:∃b o c',Value.slice a l.length c= .slice (some ⟨b,o,none⟩) l.length c':=by
      rcases e3.2 with⟨c,hc,h0⟩|⟨b,off,c',hc,-⟩
      ·omega
      ·exact⟨b,off,c',hc⟩
     cases e5;refine PR$ RP$ Qx O$ qV (Rh QE Ql O O ω)$ qV (QF RQ O O (Rf e3 (show(l.map QJ)[j]? =some (QJ y) by rw[List.getElem?_map,hy];rfl))) ?_;refine TN O$ RZ O$ qV (QU O RQ U3 ω)$ Q4 O$ SR U23 O$ UZ O$ QW$ Q4 O ?_;rcases Nat.eq_zero_or_pos j with LS|LS
     ·refine Q4 O$ RK O$ QW$ Q4 O$ S6$ S6$ S6$ qS$ QY O$ QY O$ Re O$ PM$ PW O$ R7 O ?_;refine Q4 O$ PQ ?_;exact(ih2 (j+1) _ ⟨rfl,ω⟩ ω).qb
     ·obtain⟨z,hz⟩:∃z,l[j-1]? =some z:=⟨_,List.getElem?_eq_getElem ω⟩
      have OY:z<y:=by
       obtain⟨a1,a2⟩:=List.getElem?_eq_some_iff.1 hz;obtain⟨b1,b2⟩:=List.getElem?_eq_some_iff.1 hy;have:=List.pairwise_iff_getElem.1 (hg.ok l i7).ris (j-1) j a1 b1 ω
       rwa [a2,b2] at this
      refine Q4 O$ RK O$ SM$ Qp O$ Qp O$ SA O ?_;rw[show(j:Int)-1=((j-1:Nat):Int) by omega];refine qV (Rh QE Ql O O ω)$ qV (QF RQ O O (Rf e3 (show(l.map QJ)[j-1]? =some (QJ z) by rw[List.getElem?_map,hz];rfl))) ?_;refine zle O$ QW$ Sa O$ QY O$ Re O$ PM$ PW O$ R7 O$ Q4 O$ PQ ?_;exact(ih2 (j+1) _ ⟨rfl,ω⟩ ω).qb
    ·refine Q5 O$ PM$ PW O$ R7 O$ Q4 O$ PQ ?_;exact(ih (i+1) _ ⟨rfl,ω⟩ ω).qb
  ·refine Q5 O$ Qx O$ SR U23 O$ zle O$ SM$ Qp O$ zle O$ SM$ Sa O$ Qc O$ PO func112 O ?_;exact⟨_,rfl,rfl,rfl⟩
/-! ### How many bits -/
def YN.z4i {k:Nat}{q:Cd×Nat}(h:YN k q)(hk:1<=k/\k<=16):(q.1.enc q.2).length<=112:=by
 obtain⟨h1,h2⟩:=h.RE hk
 obtain⟨-,q2,-⟩:=Ya h1 h2
 rw[YA]
 rcases h with⟨e,h⟩|⟨e,h⟩|⟨e,h⟩
 ·rw[e] at q2⊢;show q.2+1+_<=_;omega
 ·have:=(WU (v:=q.2) ω).2.2;rw[e] at q2⊢;show Nat.log2 (q.2+1)+1+_<=_;omega
 ·have h3:=(WU (v:=q.2) ω).2.2;have h4:Nat.log2 (q.2+1) / k<=Nat.log2 (q.2+1):=Nat.div_le_self _ _;rw[e] at q2⊢;show Nat.log2 (q.2+1) / k+1+_<=_;omega
def z3M {n:Nat}{L:List (Cd×Nat)}(h:∀q∈L,(q.1.enc q.2).length<=n):(Qo L).length<=L.length*n:=by
 induction L with
 |nil=>simp[Qo]
 | cons q L ih =>
   have h1:=ih (λq hq=>h q (List.mem_cons_of_mem _ hq));have h2:=h q List.mem_cons_self;rw[Rj,List.length_append,List.length_cons,Nat.add_mul];omega
def z3z (least:Nat){l:List Nat}(h:QP l):(R4 least l).1.length<=l.length:=by
 have h1:=(UP least l).length_eq
 rw[List.length_append] at h1
 have h4:∀(R:List (Nat×Nat)) (lo:Nat),Uc least lo R->R.length<=(S0 R).length:=by
  intro R
  induction R with
  |nil=>intro lo h;exact Nat.le_refl _
  | cons q R ih =>
    intro lo h;have h5:=ih _ h.2.2.2;have h6:1<=q.2:=h.2.1;rw[show S0 (q::R)=(List.range q.2).map (q.1+·)++S0 R from rfl,List.length_append,List.length_map,List.length_range,List.length_cons];omega
 have h5:=h4 _ 0 (Wk least l 0 h.ris (λy _=>Nat.zero_le _))
 omega
def z0G {p:Th}(hp:p.RE){x:Nat}(hx:x<65536){succ ref:List Nat}(hs:QP succ)(hr:QP ref){r:Nat}(jB:r<=p.Qq)(LU:succ.length<=60)(BS:ref.length<=60):(Qo (SG p x succ ref r)).length<=44800:=by
 have az:QP (Qw succ ref):=hs.sub List.filter_sublist
 have fu:(Qw succ ref).length<=succ.length:=List.length_filter_le _ _
 have h1:=(Ul succ ref).z2W
 rw[List.length_map] at h1
 have h2:=z3z p.interval az
 have h3:=(VQ p.interval (Qw succ ref)).length_le
 have aH:(SG p x succ ref r).length<=400:=by
  unfold SG;rw[List.length_cons];split
  ·simp
  rw[List.length_append,List.length_append];have e1:(if 0<p.Qq then [(Cd.unary,r)] else []).length<=1:=by split<;>simp
  have e2:(if 0<r then(Cd.gamma,(Sk succ ref).length-1)::Rv 0 (Sk succ ref).dropLast else []).length<=62:=by
   split
   ·rw[List.length_cons,Un,List.length_dropLast];omega
   ·simp
  have e3:(if Qw succ ref=[] then [] else(if 0<p.interval then(Cd.gamma,(R4 p.interval (Qw succ ref)).1.length)::QV x p.interval none (R4 p.interval (Qw succ ref)).1 else [])++QX x p.zeta none (R4 p.interval (Qw succ ref)).2).length<=200:=by
   split
   ·simp
   ·rw[List.length_append,UB];split
    ·rw[List.length_cons,TM];omega
    ·simp;omega
  omega
 have:=z3M (n:=112) (L:=SG p x succ ref r) (λq hq=>(z1L hp hx hs hr jB q hq).z4i ⟨hp.2.2.1,hp.2.2.2⟩)
 omega
/-! ### All bits -/
def Z4 (p:Ry)(g:List (List Nat))(E:List (Nat×Nat))(i:Nat):List Bool:=
 Qo (SG p.list i ((g[i]?).getD []) (RM g i ((E[i]?).getD (0,0)).1) ((E[i]?).getD (0,0)).1)
def RG (p:Ry)(g:List (List Nat))(E:List (Nat×Nat))(n:Nat):List Bool:=(List.range n).flatMap (Z4 p g E)
theorem Uo (p:Ry)(g:List (List Nat))(E:List (Nat×Nat))(n:Nat):RG p g E (n+1)=RG p g E n++Z4 p g E n:=by
 unfold RG
 rw[List.range_succ,List.flatMap_append];simp
theorem z2X (p:Ry)(g:List (List Nat))(E:List (Nat×Nat))(e:Nat×Nat):∀n,n<=E.length->RG p g (E++[e]) n=RG p g E n
 |0,_=>rfl
 | n + 1, h => by
   rw[Uo,Uo,z2X p g E e n ω]
   congr 1
   unfold Z4;rw[List.getElem?_append_left ω]
structure zeV (p:Ry)(g:List (List Nat))(E:List (Nat×Nat)):Prop where
 ent:∀i e,E[i]? =some e->z1i p g E i ((g[i]?).getD []).length e
def z1i.mono {p:Ry}{L L':List (List Nat)}{E E':List (Nat×Nat)}{n size:Nat}{e:Nat×Nat}(h:z1i p L E n size e)(hL:∀(j:Nat) (l:List Nat),L[j]? =some l->L'[j]? =some l)(hE:∀(j:Nat) (l:Nat×Nat),E[j]? =some l->E'[j]? =some l):z1i p L' E' n size e:=by
 rcases h with h|⟨h1,h2,h3,l,e',h4,h5,h6,h7⟩
 ·exact .inl h
 ·exact .inr ⟨h1,h2,h3,l,e',hL _ _ h4,hE _ _ h5,h6,h7⟩
def Sl.typed {w:World}{v:Value}{T:TypeId}{k n g:Nat}{cs:List Value}(h:Sl w v T k n cs)(hg:v.ownBlock=some g):∃cur,w.heap[g]? =some (.cells cur T (0,0)):=by
 rcases h.2 with⟨hz,-⟩|⟨g1,cap1,cur,hv,-,aT,-⟩
 ·rw[hz] at hg;cases hg
 ·rw[hv] at hg;have e:g1=g:=SH hg;exact⟨cur,e▸aT⟩
def PkM.kpT {w w':World}{k:Nat}{p:Ry}{L:List (List Nat)}{E:List (Nat×Nat)}{bs:List Bool}{F:Nat->Prop}{R:List (Value×Nat)}{wp ed:Nat}(h:PkM w k p L E bs F R wp ed){v:Value}{T:TypeId}{sz n:Nat}{cs:List Value}(hT:T≠59)(hv:Sl w v T sz n cs)(hk:Kp (λi=>v.ownBlock=some i) w w')(n1:v.ownBlock≠some k)(n2:∀i,F i->v.ownBlock≠some i):PkM w' k p L E bs F R wp ed:=
 ⟨hk.PN h.PN n1,h.len,h.wr.kp hk n2,h.nk,h.el,h.ok,λj l e h1 h2 h3=>by
  obtain⟨a,cp,g1,g2,g3,g4⟩:=h.ring j l e h1 h2 h3;refine⟨a,cp,g1,g2,g3.kp hk (λg hg e=>?_),g4⟩;obtain⟨c1,f1⟩:=g3.typed hg;obtain⟨c2,f2⟩:=hv.typed e;rw[f1] at f2
  injection f2 with f3
  injection f3 with f4 f5
  exact hT f5.symm⟩
def XB (p:Ry)(g:List (List Nat))(E:List (Nat×Nat))(n:Nat):List Nat:=(List.range (n+1)).map λj=>(RG p g E j).length
theorem zeo (p:Ry)(g:List (List Nat))(E:List (Nat×Nat))(e:Nat×Nat)(n:Nat)(h:n<=E.length):XB p g (E++[e]) n=XB p g E n:=by
 unfold XB
 refine List.map_congr_left λj hj=>?_
 rw[z2X p g E e j (by have:=List.mem_range.1 hj;omega)]
theorem zcF (p:Ry)(g:List (List Nat))(E:List (Nat×Nat))(n:Nat):XB p g E (n+1)=XB p g E n++[(RG p g E (n+1)).length]:=by
 unfold XB
 rw[List.range_succ,List.map_append];rfl
def z4l (p:Ry)(g:List (List Nat))(E:List (Nat×Nat))(n:Nat):(XB p g E n).length=n+1:=by simp[XB]
theorem getD_take {α:Type}{l:List α}{i j:Nat}(h:j<i):(l.take i)[j]? =l[j]? :=by rw[List.getElem?_take,if_pos h]
def Ys (L:List (List Nat))(n r:Nat):RM L n r=[]\/RM L n r∈L:=by
 unfold RM
 split
 ·exact .inl O
 ·cases h:L[n-r]? with
  |none=>exact .inl O
  |some l=>exact .inr (List.mem_of_getElem? h)
theorem z7k {L:List (List Nat)}{n r:Nat}(h:r<=n):RM (L.take n) n r=RM L n r:=by
 unfold RM
 by_cases e:r=0
 ·rw[if_pos e,if_pos e]
 ·rw[if_neg e,if_neg e,getD_take ω]
structure EnI (w:World)(p:Ry)(g:List (List Nat))(k wp:Nat)(i:Nat)(E:List (Nat×Nat))(v:Value)(w':World):Prop where
 pk:∃F R,PkM w' k p (g.take i) E (RG p g E i) F R wp (R6 (g.take i))/\(∀j,F j->w.heap.size<=j)/\∀j,F j->v.ownBlock≠some j
 ext:Ext w w'
 nk:w.heap.size<=k
 sl:Sl w' v 39 1 (XB p g E i).length ((XB p g E i).map Qg)
 fr:∀b,v.ownBlock=some b->w.heap.size<=b
 vk:v.ownBlock≠some k
 ent:∀j e,E[j]? =some e->z1i p g E j ((g[j]?).getD []).length e
 bd:(RG p g E i).length<=i*44800
def z9W {w:World}{p:Ry}(hp:p.RE){g:List (List Nat)}(hg:Tl g){ga:Option Addr}{gc:Nat}(kr:GrM w (.slice ga g.length gc) g)(hG:Q7 w 1 (Ts .gamma) 294)(hU:Q7 w 2 (Ts .unary) 294):
  Qu prog 73 [.slice ga g.length gc,bpV p] w λu w'=>∃E v,u= .tuple #[S (Qv (RG p g E g.length)),v,I 0]/\E.length=g.length/\zeV p g E/\(RG p g E g.length).length<=2688000/\Sl w' v 39 1 (g.length+1) ((XB p g E g.length).map Qg)/\(∀b,v.ownBlock=some b->w.heap.size<=b)/\Ext w w':=by
 have hn:=hg.n
 refine py (e:=[(0,_),(1,_)]) func73 O ntmps73 O O$ qN O$ PY O O (Se O (cs:=Wz p) O) ?_
 rintro _ w1 ⟨b3,rfl,dP,ad,aw⟩
 have z1:=ad.size
 refine TN O$ TN O$ S7 O$ qV (QB (news:=Wz p) U75 O SO O (aw.cells (n:=5) O) O)$ Qk ziC O (zaY p hp w1) ?_
 rintro _ w2 ⟨k,wp,F,rfl,xo,hW,LV,ae,ay,pN⟩
 have z2:=ae.size
 have aG:=ad.trans ae
 refine Q4 O$ qV (Sz (v:=ptr k 0) O O)$ qV (Sz (v:=I 0) O O)$ Rt O$ QS O$ RA O$ Qp O$ Qk zhN O (z5E (kr.ext aG) hg) ?_
 rintro _ w2 ⟨rfl,rfl⟩
 refine qV ((T7 O))$ QY O$ Re O$ qN O$ PY O O (Zh (cs:=[_]) (zs:=[Value.int .u64 0]) U34 UK O (by kernel_rfl) O O O ψ) ?_
 rintro _ w3 ⟨b28,rfl,⟨LW,ah,yT⟩,EE⟩
 have z3:=ah.size
 have lk:=xo.lt
 have Cc:PkM w3 k p (g.take 0) [] (RG p g [] 0) F z8U wp (R6 (g.take 0)):=⟨ah.PN xo,List.length_replicate,hW.ext ah,LV,rfl,(λl hl=>by simp at hl),λj l e h1=>by simp at h1⟩
 refine Qc O$ QS O$ SR U23 O$ Q4 O$ PQ$ Qy.qb (e:=[(4,_),(5,_),(6,_),(7,_),(8,_),(9,_),(29,_),(30,_),(31,_)]) ?_
 refine PS$ SK (α:=Nat×List (Nat×Nat)×Value) ((0,[],.slice (some ⟨b28,0,none⟩) 1 1)) (λy=>[(7,ptr k 0),(9,y.2.2),(29,.slice ga g.length gc),(30,I (g.length:Int)),(31,I (y.1:Int))]) (λy w'=>EnI w p g k wp y.1 y.2.1 y.2.2 w'/\y.1<=g.length) (λy=>g.length-y.1) ?hI ?hround
 case hI=>exact⟨⟨⟨F,z8U,Cc,λj hj=>by have:=pN j hj;omega,λj hj e=>by have e1:b28=j:=SH e;have:=hW.lt hj;omega⟩,aG.trans ah,ω,EE,λb hb=>by have e1:b28=b:=SH hb;omega,λe=>by have e1:b28=k:=SH e;omega,λj e h=>by simp at h,Nat.zero_le _⟩,Nat.zero_le _⟩
 case hround =>
  rintro⟨i,E,v⟩ w4 ⟨hI,hi⟩ ih;dsimp only at hI hi;obtain⟨F,R,hP,hF,J8⟩:=hI.pk;have xm:=hI.bd;have aR:=z4l p g E i;have sS:=hP.el;rw[List.length_take,Nat.min_eq_left hi] at sS;obtain⟨va,vc,rfl,-⟩:=hI.sl.rd.shape
  try dsimp only
  refine qN O$ RT O$ PQ$ An$ Q8 O (λh0=>?_)$ λh0=>?_
  ·have dW:i<g.length:=by omega
   obtain⟨l,hl⟩:∃l,g[i]? =some l:=⟨_,List.getElem?_eq_getElem dW⟩;have i7:=List.mem_of_getElem? hl;have fu:=hg.len i7;have hs:=hg.ok l i7;obtain⟨vs,EF,nH⟩:=kr.ex;obtain⟨a,c,e1,e2,e3w⟩:=nH i l hl;have fO:=EF.ext hI.ext;have e3:=e3w.ext hI.ext
   obtain⟨gb,go,gc',e4⟩:∃b o c',Value.slice ga g.length gc= .slice (some ⟨b,o,none⟩) g.length c':=by
    rcases fO.2 with⟨c,hc,h0⟩|⟨b,off,c',hc,-⟩
    ·omega
    ·exact⟨b,off,c',hc⟩
   cases e4;have qU:(g.take i).length=i:=by rw[List.length_take];omega
   have uX:=Vh hg i;refine PR$ RP$ qN O$ qV (Rh U23 Vz O O ω)$ qV (QF QE O O (Rf fO e1)) ?_
   have oB:∀r,r<=p.Qq->(RG p g E i).length+(Qo (SG p.list (g.take i).length l (RM (g.take i) (g.take i).length r) r)).length<=134217728:=λr hr=>by
    have h2:QP (RM (g.take i) (g.take i).length r)/\(RM (g.take i) (g.take i).length r).length<=60:=by
     rcases Ys (g.take i) (g.take i).length r with e| e
     ·rw[e];exact⟨⟨List.Pairwise.nil,λy h=>(by cases h)⟩,Nat.zero_le _⟩
     ·exact⟨hg.ok _ (List.mem_of_mem_take e),by have:=hg.len (List.mem_of_mem_take e);omega⟩
    have h3:=z0G hp.1 (x:=(g.take i).length) ω hs h2.1 (show r<=p.list.Qq from hr) ω h2.2;omega
   have sx:=hI.sl;have yt:∀b,(Value.slice va (XB p g E i).length vc).ownBlock=some b->b<w4.heap.size:=λb hb=>sx.lt hb;refine Qc O$ An$ RI O$ Qk zhr O (zbn hp hP (hI.ext.PN hG) (hI.ext.PN hU) ω hs e2 e3 ω (λb h0 hb=>by have h1:=e3w.ltz ψ h0 hb;have:=hI.nk;exact⟨λe=>by have:=hF b e;omega,ω⟩) oB) ?_;rintro _ w5 ⟨r,least,ch,F',R',rfl,ii,fT,aj,xq⟩;have lk4:=hP.PN.lt;have z5:=aj.size;have aU:Ext w w5:=hI.ext.It aj (λj hj=>by rcases hj with e|e;exact hF j e;(have:=hI.nk;omega));have LX:(E++[(r,ch)]).length=i+1:=by rw[List.length_append,sS];rfl
   have lw:r<=i:=by
    rcases ii with e|⟨-,-,h3,-⟩
    ·have:r=0:=(Prod.mk.inj e).1;omega
    ·rw[qU] at h3;exact h3
   have uY:(E++[(r,ch)])[i]? =some (r,ch):=by rw[List.getElem?_append_right ω,sS,Nat.sub_self];rfl
   have rl:Z4 p g (E++[(r,ch)]) i=Qo (SG p.list (g.take i).length l (RM (g.take i) (g.take i).length r) r):=by
    unfold Z4;rw[uY,hl,qU,z7k lw];rfl
   have cH:RG p g (E++[(r,ch)]) (i+1)=RG p g E i++Qo (SG p.list (g.take i).length l (RM (g.take i) (g.take i).length r) r):=by
    rw[Uo,z2X p g E _ i ω,rl]
   have EG:(RG p g (E++[(r,ch)]) (i+1)).length<=(i+1)*44800:=by
    have h2:QP (RM (g.take i) (g.take i).length r)/\(RM (g.take i) (g.take i).length r).length<=60:=by
     rcases Ys (g.take i) (g.take i).length r with e| e
     ·rw[e];exact⟨⟨List.Pairwise.nil,λy h=>(by cases h)⟩,Nat.zero_le _⟩
     ·exact⟨hg.ok _ (List.mem_of_mem_take e),by have:=hg.len (List.mem_of_mem_take e);omega⟩
    have jB:r<=p.list.Qq:=by
     rcases ii with e|⟨-,h3,-⟩
     ·have:r=0:=(Prod.mk.inj e).1;omega
     ·exact h3
    have h3:=z0G hp.1 (x:=(g.take i).length) ω hs h2.1 jB ω h2.2;rw[cH,List.length_append];omega
   rw[<-cH,<-QR hl,<-Zo,<-QR hl] at fT;have gm:(RG p g (E++[(r,ch)]) (i+1)).length<=9223372036854775:=by omega
   refine Q4 O$ TK O$ qV (Sz (v:=I 0) O O)$ TN O$ TN O$ RZ O$ RA O$ Re O$ PW O$ Qp O$ Qk zhn O (z8f fT gm) ?_;rintro _ w6 ⟨rfl,aS⟩;refine qV ((Rp O U3 SL ω))$ PY O O (Zh (cs:=[_]) (zs:=[Value.int .u64 0]) U34 UK O (by kernel_rfl) O O O ψ) ?_;rintro _ w7 ⟨b49,rfl,⟨LY,cu,bX⟩,EH⟩;have eX:=aS.trans cu;have z67:=eX.size;have oA:∀j,F' j->j<w5.heap.size:=λj hj=>fT.wr.lt hj;have IS:=sx.kp aj (λb hb e=>by rcases e with e|e;exact J8 b e hb;exact hI.vk (e▸hb));have Ce:=IS.ext eX
   have yU:∀j,F' j->(Value.slice va (XB p g E i).length vc).ownBlock≠some j:=λj hj e=>by
    rcases xq j hj with e1|e1
    ·exact J8 j e1 e
    ·have:=yt j e;omega
   refine PY O O (pap U34 UK O ψ O O Ce EH.rd (by intro c hc;simp at hc;subst hc;rfl) ω (by simp only[maxLen];omega)) ?_;rintro v8 w8 ⟨dQ,aK,lY,-⟩;have pW:=(fT.ext eX).kpT (T:=39) ψ Ce aK hI.vk yU;have oE:∀b,v8.ownBlock=some b->(Value.slice va (XB p g E i).length vc).ownBlock=some b\/w5.heap.size<=b:=λb hb=>(lY b hb).imp id (λe=>by omega);refine Qc O$ PM$ PW O$ R7 O$ Q4 O$ PQ ((ih (i+1,E++[(r,ch)],v8) _ ⟨⟨⟨F',R',pW,λj hj=>?_,λj hj e=>?_⟩,(aU.trans eX).It aK (λj hj=>hI.fr j hj),hI.nk,?_,λb hb=>?_,λe=>?_,λj e hj=>?_,EG⟩,dW⟩ (by dsimp only;omega)).qb)
   ·rcases xq j hj with e| e
    ·exact hF j e
    ·have:=hI.ext.size;omega
   ·rcases oE j e with e1|e1
    ·exact yU j hj e1
    ·have:=oA j hj;omega
   ·rw[zcF,zeo p g E _ i ω,List.length_append,List.map_append];exact dQ
   ·rcases oE b hb with e1|e1
    ·exact hI.fr b e1
    ·have:=aU.size;omega
   ·rcases oE k e with e1|e1
    ·exact hI.vk e1
    ·omega
   ·rcases Nat.lt_or_ge j i with sT|sT
    ·rw[List.getElem?_append_left ω] at hj;exact(hI.ent j e hj).mono (λ_ _ h=>h) (λj' l' h=>by rw[List.getElem?_append_left (List.getElem?_eq_some_iff.1 h).1];exact h)
    ·have Ej:=(List.getElem?_eq_some_iff.1 hj).1;rw[LX] at Ej;have ej:j=i:=by omega
     subst ej;rw[uY] at hj;cases hj;rw[hl];rw[qU] at ii
     exact ii.mono (λj' l' h=>by
      have:=(List.getElem?_eq_some_iff.1 h).1;rw[qU] at this
      rwa [getD_take this] at h) (λj' l' h=>by rw[List.getElem?_append_left (List.getElem?_eq_some_iff.1 h).1];exact h)
  ·have dq:i=g.length:=by omega
   subst dq;refine Q5 O$ Qx O$ Qk zil O (z7P hP) ?_;rintro _ w5 ⟨rfl,rfl⟩;refine Q4 O$ TK O$ TN O$ S7 O$ Qp O$ Q4 O$ TN O$ Rt O$ PO func73 O ?_;have fU:=hI.sl;rw[aR] at fU;exact⟨_,rfl,E,_,rfl,sS,⟨hI.ent⟩,ω,by rw[aR];exact fU,hI.fr,hI.ext⟩
structure Fm where
 n:Nat
 u:Nat
 width:Nat
 bits:Nat
def fmC (f:Fm):List Value:=[I (f.n:Int),Qg f.u,I (f.width:Int),I (f.bits:Int)]
abbrev fmV (f:Fm):Value:= .agg (fmC f).toArray
def Zq (n u:Nat):Nat:=if u / n=0 then 0 else R3 (u / n)-1
def Vf (n u:Nat):Fm:=⟨n,u,Zq n u,(u-1) / 2^Zq n u+n⟩
def Fm.high (f:Fm):Nat:=12+(f.n*f.width+7) / 8
def Fm.Wb (f:Fm):Nat:=f.high+(f.bits+7) / 8
def Fm.size (f:Fm):Nat:=f.Wb+4*((f.n+63) / 64)
def z0r {n u:Nat}(hu:u<=1000000000):Zq n u<=30:=by
 unfold Zq
 split
 ·omega
 ·have h1:u / n<=u:=Nat.div_le_self _ _;have h2:R3 (u / n)<=30:=Si ω;omega
def z1S {n u:Nat}(hn:1<=n)(hu:1<=u):(u-1) / 2^Zq n u<2*n:=by
 have h2:0<2^Zq n u:=Nat.two_pow_pos _
 rw[Nat.div_lt_iff_lt_mul h2]
 unfold Zq
 split
 ·rename_i h
  have:u<n:=by
   rcases Nat.lt_or_ge u n with h1|h1
   ·exact h1
   ·have:=Nat.div_pos h1 ω;omega
  simp;omega
 ·rename_i h
  have h3:u / n<2^R3 (u / n):=Yq;have h4:R3 (u / n)≠0:=λe=>by rw[e,Nat.pow_zero] at h3;exact h (Nat.lt_one_iff.1 h3)
  obtain⟨k,hk⟩:∃k,R3 (u / n)=k+1:=⟨R3 (u / n)-1,ω⟩;rw[hk] at h3⊢;rw[Nat.add_sub_cancel]
  have h5:u<n*2^(k+1):=by
   have:=(Nat.div_lt_iff_lt_mul (show 0<n by omega)).1 h3
   rwa [Nat.mul_comm] at this
  rw[Nat.pow_succ] at h5;have e:n*(2^k*2)=2*n*2^k:=by rw[Nat.mul_comm (2^k) 2,<-Nat.mul_assoc,Nat.mul_comm n 2]
  omega
def zbb {n u:Nat}(hn:1<=n)(hu:1<=u):(Vf n u).bits<=3*n:=by
 have:=z1S hn hu
 show(u-1) / 2^Zq n u+n<=_
 omega
def Zk (n u:Nat)(hn:1<=n)(kj:n<=1000)(hu:1<=u)(lS:u<=1000000000)(w:World):Qu prog 121 [I (n:Int),Qg u] w λv w'=>v=fmV (Vf n u)/\Ext w w':=by
 have xt:=z0r (n:=n) lS
 have eP:=z1S hn hu
 have hq:u / n<=u:=Nat.div_le_self _ _
 obtain⟨q,ly⟩:∃q,u / n=q:=⟨_,rfl⟩
 have J9:Zq n u=if q=0 then 0 else R3 q-1:=by rw[Zq,ly]
 rw[ly] at hq
 have EI:R3 q<=30:=Si ω
 refine py (e:=[(0,_),(1,_)]) func121 O ntmps121 O O$ qN O$ PY O O (SE (cs:=[_,_,_,_]) Uz O) ?_
 rintro _ w1 ⟨b4,rfl,eM,ad,aM⟩
 refine qM O$ Qp O$ qV (Tq (cs:=[_,_,_,_]) Uz O ziR O O)$ PY O O (SE (cs:=[_,_,_,_]) Uz O) ?_
 rintro _ w2 ⟨b5,rfl,gm,ae,aJ⟩
 have z1:=ad.size
 have z2:=ae.size
 have l4:=aM.lt
 have l5:=aJ.lt
 refine Qb O (QT (news:=[I (n:Int),Qg u,I 0,I 0]) Uz O O O O aJ ξ) ?_
 rintro w3 ⟨iV,av⟩
 replace iV:Q7 w3 b5 [I (n:Int),Qg u,I 0,I 0] 220:=iV
 have dX:Ext w w3:=(ad.trans ae).It av (λi e=>by omega)
 have ew:=av.PN (ae.PN aM) ω
 have z3:=av.size
 refine PQ$ QS O$ Ss O$ QW$ Re O$ An$ RI O$ qV ((Rp O U3 SL ω))$ qV (zjl (m:=u) (n:=n) O O O (by show u<2^64;omega) ω) ?_
 rw[ly]
 refine RZ O$ RK O$ PQ$ QH (λe' w'=>e'=[(0,I (n:Int)),(1,Qg u),(4,ptr b4 0),(5,ptr b5 0)]/\Ext w w'/\Q7 w' b5 [I (n:Int),Qg u,I (Zq n u:Int),I 0] 220/\Q7 w' b4 [I 0,Qg 0,I 0,I 0] 220) ?bF$ λbF=>?dg
 case bF=>
  rintro e' w4 ⟨rfl,aC,ib,cI⟩;refine Qx O$ qV (XK (m:=u) (n:=1) O O O (by show u<2^64;omega) ω) ?_;refine Qd UH O$ qV (PX U3 O O ib O)$ qV (Vm (Zq n u) (2^Zq n u) O O (by show Zq n u<=64;omega) O) ?_
  generalize lz:(u-1) / 2^Zq n u=qb at eP
  refine qV (QU O SL U3 ω)$ Q4 O$ R7 O$ Qd z06 O$ Qb O (RV Rl O O O ib ξ) ?_;rintro w5 ⟨uZ,aj⟩;replace uZ:Q7 w5 b5 [I (n:Int),Qg u,I (Zq n u:Int),I ((qb+n:Nat):Int)] 220:=uZ;refine qM O$ qV (QB z5a O Uz O (Q7.cells (n:=4) uZ (news:=[_,_,_,_]) O) O)$ Qb O (QT (news:=[I (n:Int),Qg u,I (Zq n u:Int),I ((qb+n:Nat):Int)]) Uz O O O O (aj.PN cI ω) ξ) ?_;rintro w6 ⟨bY,aL⟩;replace bY:Q7 w6 b4 [I (n:Int),Qg u,I (Zq n u:Int),I ((qb+n:Nat):Int)] 220:=bY;refine PQ$ Qt func121 (.cell z5a O Uz O (Q7.cells (n:=4) bY (news:=[_,_,_,_]) O) O .nil) (⟨_,rfl,?_,(aC.It aj (λi e=>by omega)).It aL (λi e=>by omega)⟩);unfold fmV fmC Vf;rw[lz]
  rfl
 case dg=>
  refine Q8 O (λh0=>?_)$ λh0=>?_
  ·refine St O$ Qk z44 O (VG q ω _) ?_;rintro _ w3 ⟨rfl,rfl⟩;have iK:R3 q≠0:=λe=>by have:=Yq (v:=q);rw[e] at this;omega
   refine SA O ?_;rw[show(R3 q:Int)-1=(Zq n u:Int) by rw[J9,if_neg ω];omega];refine Qd UH O$ Qb O (RV Rl O O O iV ξ) ?_;rintro w4 ⟨ib,ar⟩;replace ib:Q7 w4 b5 [I (n:Int),Qg u,I (Zq n u:Int),I 0] 220:=ib;refine PQ ?_;exact(bF _ _ ⟨rfl,dX.It ar (λi e=>by omega),ib,ar.PN ew ω⟩).qb
  ·have o4:Zq n u=0:=by rw[J9,if_pos ω]
   refine PR ?_;exact(bF _ _ ⟨rfl,dX,by rw[o4];exact iV,ew⟩).qb
def Fm.small (f:Fm):Prop:=f.n<=100000/\f.width<=64/\f.bits<=1000000
def z5C (f:Fm)(hf:f.small)(w:World):Qu prog 211 [fmV f] w λv w'=>v=I (f.high:Int)/\Ext w w':=by
 obtain⟨h1,h2,h3⟩:=hf
 have hm:f.n*f.width<=100000*64:=Nat.mul_le_mul h1 h2
 refine py (e:=[(0,_)]) func211 O ntmps211 O O$ qN O$ PY O O (Se O (cs:=fmC f) O) ?_
 rintro _ w1 ⟨b1,rfl,bL,ad,ai⟩
 replace ai:Q7 w1 b1 [I (f.n:Int),Qg f.u,I (f.width:Int),I (f.bits:Int)] 220:=ai
 refine S7 O$ Qd ZQ O$ qV (PX U3 O O ai O)$ Qd UH O$ qV (PX U3 O O ai O) ?_
 have su:((f.n*f.width:Nat):Int)=(f.n:Int)*(f.width:Int):=Int.natCast_mul _ _
 refine qV (Xq O O (by rw[<-su];omega)) ?_
 rw[<-su]
 refine R7 O$ qV (Yh O O ω)$ R7 O$ Qc O$ PO func211 O (⟨_,rfl,?_,ad⟩)
 show I (12+(((f.n*f.width:Nat):Int)+7) / 8)=I ((12+(f.n*f.width+7) / 8:Nat):Int)
 congr 1
def Fm.Ym {f:Fm}(hf:f.small):f.high<=10000000:=by
 obtain⟨h1,h2,h3⟩:=hf
 have hm:f.n*f.width<=100000*64:=Nat.mul_le_mul h1 h2
 unfold Fm.high
 omega
def z5B (f:Fm)(hf:f.small)(w:World):Qu prog 189 [fmV f] w λv w'=>v=I (f.Wb:Int)/\Ext w w':=by
 have pX:=Fm.Ym hf
 obtain⟨h1,h2,h3⟩:=id hf
 refine py (e:=[(0,_)]) func189 O ntmps189 O O$ qN O$ PY O O (Se O (cs:=fmC f) O) ?_
 rintro _ w1 ⟨b1,rfl,bL,ad,ai⟩
 replace ai:Q7 w1 b1 [I (f.n:Int),Qg f.u,I (f.width:Int),I (f.bits:Int)] 220:=ai
 have hg:=Ext.Qh w1
 refine Qc O$ An$ S5 (λw'=>Ext w1 w') O$ qT 0 O (λ_ h=>QB z5a O Uz O (Q7.cells (n:=4) (h.PN ai) (news:=[_,_,_,_]) O) O) hg$ PT 2 O (Qz z06 O) hg$ qT 3 O (λ_ h=>PX U3 O O (h.PN ai) O) hg$ PT 4 O (Wa O O ω) hg$ PT 5 O (Yh O O ω) hg$ T9 1 O zfl O (z5C f hf _) ?_
 rintro _ w2 ⟨rfl,ae⟩
 refine⟨hg.trans ae,?_⟩
 refine PT 6 O (Wa O O ω) (hg.trans ae)$ PT 7 O (Sv O) (hg.trans ae)$ qE$ PO func189 O (⟨_,rfl,?_,(ad.trans hg).trans ae⟩)
 show I ((f.high:Int)+((f.bits:Int)+7) / 8)=I ((f.high+(f.bits+7) / 8:Nat):Int)
 congr 1
def z3s (f:Fm)(hf:f.small)(w:World):Qu prog 163 [fmV f] w λv w'=>v=I (f.size:Int)/\Ext w w':=by
 have pX:=Fm.Ym hf
 obtain⟨h1,h2,h3⟩:=id hf
 have fU:f.Wb<=20000000:=by unfold Fm.Wb;omega
 refine py (e:=[(0,_)]) func163 O ntmps163 O O$ qN O$ PY O O (Se O (cs:=fmC f) O) ?_
 rintro _ w1 ⟨b1,rfl,bL,ad,ai⟩
 replace ai:Q7 w1 b1 [I (f.n:Int),Qg f.u,I (f.width:Int),I (f.bits:Int)] 220:=ai
 have hg:=Ext.Qh w1
 refine Qc O$ An$ S5 (λw'=>Ext w1 w') O$ qT 0 O (λ_ h=>QB z5a O Uz O (Q7.cells (n:=4) (h.PN ai) (news:=[_,_,_,_]) O) O) hg$ PT 2 O (Qz ZQ O) hg$ qT 3 O (λ_ h=>PX U3 O O (h.PN ai) O) hg$ PT 4 O (Wa O O ω) hg$ PT 5 O (YM O O ω) hg ?_
 rw[show(f.n:Int)+64-1=((f.n+63:Nat):Int) by omega]
 refine PT 6 O (Yh O O ω) hg$ PT 7 O (Xq O O ω) hg$ T9 1 O zfY O (z5B f hf _) ?_
 rintro _ w2 ⟨rfl,ae⟩
 refine⟨hg.trans ae,?_⟩
 refine PT 8 O (Wa O O ω) (hg.trans ae)$ PT 9 O (Sv O) (hg.trans ae)$ qE$ PO func163 O (⟨_,rfl,?_,(ad.trans hg).trans ae⟩)
 show I ((f.Wb:Int)+4*(((f.n+63:Nat):Int) / 64))=I ((f.Wb+4*((f.n+63) / 64):Nat):Int)
 congr 1
def z4c {n u:Nat}(hn:1<=n)(kj:n<=1000)(hu:1<=u)(lS:u<=1000000000):(Vf n u).small:=by
 have h1:=zbb hn hu
 have h2:=z0r (n:=n) lS
 refine⟨?_,?_,ω⟩
 ·show n<=_;omega
 ·show Zq n u<=_;omega
def z6O (n last:Nat)(hn:1<=n)(kj:n<=1000)(lS:last+1<=1000000000)(w:World):Qu prog 161 [I (n:Int),Qg last] w λv w'=>v= .tuple #[I ((Vf n (last+1)).size:Int),I 0]/\Ext w w':=by
 refine py (e:=[(0,_),(1,_)]) func161 O ntmps161 O O$ qN O$ Rt O$ RP$ Qx O$ RT O$ Qp O$ RK O$ QW$ QY O$ Qp O$ RK O$ QW$ QY O ?_
 refine Qp O$ Ss O$ QW$ Q4 O$ S6$ QY O$ QY O$ Qc O$ PZ O$ Qx O$ Ss O$ QW$ Qc O$ Qy.qb (e:=[(0,_),(1,_),(4,_),(5,_),(25,_)]) ?_
 refine TT O$ PM$ RI O$ qV (Wt O O) ?_
 rw[Nat.mod_eq_of_lt (show last+1<18446744073709551616 by omega)]
 refine Qk zby O (Zk n (last+1) hn kj ω lS _) ?_
 rintro _ w1 ⟨rfl,ad⟩
 refine Qk zfj O (z3s _ (z4c hn kj ω lS) _) ?_
 rintro _ w2 ⟨rfl,ae⟩
 refine Rt O$ PO func161 O ?_
 exact⟨_,rfl,rfl,ad.trans ae⟩
def zaF {w:World}{a:Option Addr}{c:Nat}{l:List Nat}(hl:l.length<=1000)(hn:Nof l)(hm:∀v∈l,v<=1000000000)(hR:Rd w (.slice a l.length c) 1 l.length (l.map Qg)):Qu prog 120 [.slice a l.length c] w λv w'=>v= .bool true/\w'=w:=by
 refine py (e:=[(0,_)]) func120 O ntmps120 O O$ RN O$ QS O$ SR U34 O$ RK O$ QW$ Re O$ RN O$ QS O$ SR U34 O$ Q4 O$ PQ$ PS$ SK (α:=Nat×Nat) ((0,0)) (λy=>[(3,Qg y.2),(9,.slice a l.length c),(10,I (l.length:Int)),(11,I (y.1:Int))]) (λy w'=>w'=w/\y.1<=l.length/\y.2<=1000000000/\∀v,l[y.1]? =some v->y.2<=v) (λy=>l.length-y.1) ?hI ?hround
 case hI=>exact⟨rfl,Nat.zero_le _,Nat.zero_le _,λv _=>Nat.zero_le _⟩
 case hround=>
  rintro⟨i,z⟩ w4 ⟨rfl,hi,hz,Cf⟩ ih;dsimp only at hi hz Cf
  try dsimp only
  refine qN O$ RT O$ PQ$ An$ Q8 O (λh0=>?_)$ λh0=>?_
  ·have dW:i<l.length:=by omega
   obtain⟨v,hv⟩:∃v,l[i]? =some v:=⟨_,List.getElem?_eq_getElem dW⟩;have LZ:=Cf v hv;have yV:=hm v (List.mem_of_getElem? hv)
   obtain⟨gb,go,gc',e4⟩:∃b o c',Value.slice a l.length c= .slice (some ⟨b,o,none⟩) l.length c':=by
    rcases hR.2 with⟨c,hc,h0⟩|⟨b,off,c',hc,-⟩
    ·omega
    ·exact⟨b,off,c',hc⟩
   cases e4;refine PR$ RP$ qN O$ qV (Rh U34 UK O O ω)$ qV (QF SL O O (Rf hR (show(l.map Qg)[i]? =some (Qg v) by rw[List.getElem?_map,hv];rfl))) ?_;refine Qc O$ An$ RI O$ RT O$ QW$ Qp O$ RK O$ QW$ QY O$ Re O$ St O$ Qc O$ PM$ PW O ?_;refine R7 O$ Q4 O$ PQ ((ih (i+1,v) _ ⟨rfl,dW,yV,λu hu=>?_⟩ (by dsimp only;omega)).qb);obtain⟨a1,a2⟩:=List.getElem?_eq_some_iff.1 hv;obtain⟨b1,b2⟩:=List.getElem?_eq_some_iff.1 hu;have:=List.pairwise_iff_getElem.1 hn i (i+1) a1 b1 ω
   rwa [a2,b2] at this
  ·refine Q5 O$ RN O$ PO func120 O ?_;exact⟨_,rfl,rfl,rfl⟩
def TF (k:Nat)(l:List Nat):List Bool:=l.flatMap λv=>Qr k (v%2^k)
def To (k:Nat):List Nat->List Bool
 |[]=>[]
 |v::_=>Qr 32 (v / 2^k)
theorem zbh (k:Nat)(l:List Nat)(v:Nat):TF k (l++[v])=TF k l++Qr k (v%2^k):=by simp[TF]
theorem VZ (k:Nat):∀l:List Nat,(TF k l).length=l.length*k
 |[]=>by simp[TF]
 | v :: l => by
   show(Qr k (v%2^k)++TF k l).length=_;rw[List.length_append,VZ k l,bitsN_length,List.length_cons,Nat.add_mul];omega
def z6E (k:Nat):∀(l:List Nat) (len i v:Nat),Nof (l++[v])->(∀x,(l++[v]).head? =some x->len<=x / 2^k+i)->
  len+(hiB k len i l).length<=v / 2^k+(i+l.length)/\hiB k len i (l++[v])=hiB k len i l++(List.replicate (v / 2^k+(i+l.length)-(len+(hiB k len i l).length)) false++[true])
 | [], len, i, v, _, hl => by
   have:=hl v O;refine⟨by simp[hiB];omega,?_⟩
   simp[hiB]
 | x :: r, len, i, v, hn, hl => by
   have hx:=hl x O;rw[List.cons_append] at hn;obtain⟨n1,n2⟩:=List.pairwise_cons.1 hn
   obtain⟨h1,h2⟩:=z6E k r (x / 2^k+i+1) (i+1) v n2 (λy hy=>by
    have pY:y∈r++[v]:=List.mem_of_mem_head? hy;have:=Nat.div_le_div_right (c:=2^k) (n1 y pY)
    omega)
   rw[List.cons_append,hiB,hiB,h2,List.length_append,List.length_replicate,List.length_cons,List.length_cons];refine⟨ω,?_⟩;rw[List.append_assoc,List.cons_append,show v / 2^k+(i+1+r.length)-(x / 2^k+i+1+(hiB k (x / 2^k+i+1) (i+1) r).length)=v / 2^k+(i+(r.length+1))-(len+(x / 2^k+i-len+((hiB k (x / 2^k+i+1) (i+1) r).length+1))) by omega]
def z6Y (k:Nat)(l:List Nat)(v:Nat):To k (l++[v])=To k l++if l.length=0 then Qr 32 (v / 2^k) else []:=by
 cases l with
 |nil=>simp[To]
 |cons x l=>simp[To]
def ZS (l:List Nat)(f:Fm):PV:=Qv (Qr 32 f.n++Qr 64 f.u)++Qv (TF f.width l)++Qv (hiB f.width 0 0 l)++Qv (To f.width l)
def zcT {b:Nat}:∀{l:List Nat},(∀x∈l,x<=b)->l.sum<=l.length*b
 |[],_=>by simp
 | x :: l, h => by
   have h1:=h x List.mem_cons_self;have h2:=zcT (λy hy=>h y (List.mem_cons_of_mem x hy));rw[List.sum_cons,List.length_cons,Nat.add_mul];omega
def zaI (k:Nat)(l:List Nat):(To k l).length<=32:=by
 cases l with
 |nil=>simp[To]
 |cons v l=>simp[To]
theorem z2h (k:Nat){l:List Nat}(hn:Nof l){z:Nat}(hz:l[l.length-1]? =some z):(hiB k 0 0 l).length=z / 2^k+l.length:=by
 have:=z9H k l 0 0 hn (λx hx=>Nat.zero_le _) z (by rw[List.getLast?_eq_getElem?];exact hz)
 omega
/-! ### Three writers side by side -/
def zdt (A B:Nat->Prop):Prop:=∀k,A k->¬B k
structure EfW (w0 w:World)(b5:Nat)(f:Fm)(p1 p2 p3:Nat)(l1 l2 l3:List Bool):Prop where
 ex:∃F1 F2 F3:Nat->Prop,Zs w p1 l1 F1/\Zs w p2 l2 F2/\Zs w p3 l3 F3/\zdt F1 F2/\zdt F2 F3/\zdt F3 F1/\∀k,F1 k\/F2 k\/F3 k->w0.heap.size<=k/\k≠b5
 ext:Ext w0 w
 PN:Q7 w b5 (fmC f) 220
section
variable {w0 w:World}{b5:Nat}{f:Fm}{p1 p2 p3:Nat}{l1 l2 l3:List Bool}
def EfW.rot (h:EfW w0 w b5 f p1 p2 p3 l1 l2 l3):EfW w0 w b5 f p2 p3 p1 l2 l3 l1:=by
 obtain⟨⟨F1,F2,F3,h1,h2,h3,h4,h5,h6,h7⟩,hx,hb⟩:=h
 exact⟨⟨F2,F3,F1,h2,h3,h1,h5,h6,h4,λk hk=>h7 k (by rcases hk with e|e|e;exact .inr (.inl e);exact .inr (.inr e);exact .inl e)⟩,hx,hb⟩
def EfW.on (h:EfW w0 w b5 f p1 p2 p3 l1 l2 l3){w2:World}(hx:Ext w w2):EfW w0 w2 b5 f p1 p2 p3 l1 l2 l3:=by
 obtain⟨⟨F1,F2,F3,h1,h2,h3,h4,h5,h6,h7⟩,ku,hb⟩:=h
 exact⟨⟨F1,F2,F3,h1.ext hx,h2.ext hx,h3.ext hx,h4,h5,h6,h7⟩,ku.trans hx,hx.PN hb⟩
def EfW.zdS (h:EfW w0 w b5 f p1 p2 p3 l1 l2 l3):∃F1,Zs w p1 l1 F1/\¬F1 b5/\(∀w2 l,WrR p1 F1 w w2 l->EfW w0 w2 b5 f p1 p2 p3 l l2 l3):=by
 obtain⟨⟨F1,F2,F3,h1,h2,h3,h4,h5,h6,h7⟩,ku,hb⟩:=h
 refine⟨F1,h1,λe=>(h7 b5 (.inl e)).2 O,λw2 l hr=>?_⟩
 obtain⟨F1',g1,g2,g3⟩:=hr
 have z:=ku.size
 have lb:=hb.lt
 refine⟨⟨F1',F2,F3,g1,h2.kp g2 (λi hi e=>h4 i e hi),h3.kp g2 (λi hi e=>h6 i hi e),λk hk e=>?_,h5,λk hk e=>?_,λk hk=>?_⟩,ku.It g2 (λk hk=>(h7 k (.inl hk)).1),g2.PN hb (λe=>(h7 b5 (.inl e)).2 O)⟩
 ·rcases g3 k hk with e1|e1
  ·exact h4 k e1 e
  ·have:=h2.lt e;omega
 ·rcases g3 k e with e1|e1
  ·exact h6 k hk e1
  ·have:=h3.lt hk;omega
 ·rcases hk with hk|hk
  ·rcases g3 k hk with e1|e1
   ·exact h7 k (.inl e1)
   ·exact⟨ω,ω⟩
  ·exact h7 k (.inr hk)
def EfW.zdV (h:EfW w0 w b5 f p1 p2 p3 l1 l2 l3):∃F2,Zs w p2 l2 F2/\(∀w2 l,WrR p2 F2 w w2 l->EfW w0 w2 b5 f p1 p2 p3 l1 l l3):=by
 obtain⟨F2,h1,-,h2⟩:=h.rot.zdS
 exact⟨F2,h1,λw2 l hr=>(h2 w2 l hr).rot.rot⟩
def EfW.zkQ (h:EfW w0 w b5 f p1 p2 p3 l1 l2 l3):∃F3,Zs w p3 l3 F3/\(∀w2 l,WrR p3 F3 w w2 l->EfW w0 w2 b5 f p1 p2 p3 l1 l2 l):=by
 obtain⟨F3,h1,-,h2⟩:=h.rot.rot.zdS
 exact⟨F3,h1,λw2 l hr=>(h2 w2 l hr).rot⟩
end
def z5i {w:World}{a:Option Addr}{c:Nat}{l:List Nat}(dl:1<=l.length)(hn:l.length<=64)(nh:Nof l)(hm:∀v∈l,v<=999999999)(hR:Rd w (.slice a l.length c) 1 l.length (l.map Qg)){z:Nat}(hz:l[l.length-1]? =some z):
  Qu prog 76 [.slice a l.length c] w λv w'=>v= .tuple #[S (ZS l (Vf l.length (z+1))),I 0]/\Ext w w':=by
 have OZ:=hm z (List.mem_of_getElem? hz)
 have Ja:∀v∈l,v<=z:=λv hv=>by
  obtain⟨j,hj⟩:=List.mem_iff_getElem?.1 hv;obtain⟨a1,a2⟩:=List.getElem?_eq_some_iff.1 hj;obtain⟨b1,b2⟩:=List.getElem?_eq_some_iff.1 hz;rcases Nat.lt_or_ge j (l.length-1) with h| h
  ·have:=List.pairwise_iff_getElem.1 nh j (l.length-1) a1 b1 h
   rwa [a2,b2] at this
  ·have e:j=l.length-1:=by omega
   subst e;rw[hz] at hj;cases hj;exact Nat.le_refl _
 have xt:=z0r (n:=l.length) (u:=z+1) ω
 have oF:=z1S (n:=l.length) (u:=z+1) dl ω
 rw[Nat.add_sub_cancel] at oF
 obtain⟨gb,go,gc',e4⟩:∃b o c',Value.slice a l.length c= .slice (some ⟨b,o,none⟩) l.length c':=by
  rcases hR.2 with⟨c,hc,h0⟩|⟨b,off,c',hc,-⟩
  ·omega
  ·exact⟨b,off,c',hc⟩
 cases e4
 refine py (e:=[(0,_)]) func76 O ntmps76 O O$ qN O$ Rt O$ QS O$ Qk zj8 O (zaF ω nh (λv hv=>by have:=hm v hv;omega) hR) ?_
 rintro _ w ⟨rfl,rfl⟩
 refine qV ((T7 O))$ Re O$ RN O$ QS O$ SR U34 O$ RK O$ PQ$ Q8 O (λh0=>?_)$ λh0=>?_
 ·refine PW O$ Qp O$ SR U34 O$ SA O ?_;rw[show(l.length:Int)-1=((l.length-1:Nat):Int) by omega];refine qV (Rh U34 UK O O ω)$ qV (QF SL O O (Rf hR (show(l.map Qg)[l.length-1]? =some (Qg z) by rw[List.getElem?_map,hz];rfl))) ?_;refine qV (Wt O O) ?_;rw[Nat.mod_eq_of_lt (show z+1<18446744073709551616 by omega)];refine RZ O$ SR U34 O$ Q4 O$ Qk zby O (Zk l.length (z+1) dl ω ω ω _) ?_;rintro _ w1 ⟨rfl,ad⟩
  generalize hf:Vf l.length (z+1)=f
  have M0:f.width=Zq l.length (z+1):=by rw[<-hf];rfl
  have qH:f.n=l.length:=by rw[<-hf];rfl
  have Cg:f.u=z+1:=by rw[<-hf];rfl
  rw[<-M0] at xt oF;refine PY O O (SE (cs:=[_,_,_,_]) Uz O) ?_;rintro _ w2 ⟨b5,rfl,gm,ae,aJ⟩;refine Qb O (QT (news:=fmC f) Uz O O O O aJ ξ) ?_;rintro w3 ⟨iV,av⟩;replace iV:Q7 w3 b5 (fmC f) 220:=iV;have z1:=ad.size;have z2:=ae.size;have lb5:=iV.lt;have aZ:Ext w1 w3:=ae.It av (λi e=>by omega);have z3:=aZ.size;refine qM O$ Qk z1T O (VW w3) ?_;rintro _ w4 ⟨p1,F1,rfl,EJ,aC,pN⟩;refine Qk z1T O (VW w4) ?_;rintro _ w5 ⟨p2,F2,rfl,Jb,aU,Jc⟩;refine Qk z1T O (VW w5) ?_;rintro _ w6 ⟨p3,F3,rfl,nJ,aS,rf⟩;have z4:=aC.size;have z5:=aU.size
  have M1:EfW w w6 b5 f p1 p2 p3 [] [] []:=⟨⟨F1,F2,F3,(EJ.ext aU).ext aS,Jb.ext aS,nJ,λk h1 h2=>by have:=EJ.lt h1;have:=Jc k h2;omega,λk h1 h2=>by have:=Jb.lt h1;have:=rf k h2;omega,λk h1 h2=>by have:=EJ.lt h2;have:=rf k h1;omega,λk hk=>by
   rcases hk with h|h| h
   ·have:=pN k h;omega
   ·have:=Jc k h;omega
   ·have:=rf k h;omega⟩,(((ad.trans aZ).trans aC).trans aU).trans aS,aS.PN (aU.PN (aC.PN iV))⟩
  refine TN O$ Rt O$ Qy.qb (e:=[(0,_),(2,_),(3,_),(4,_),(5,_),(6,_),(7,_),(8,_)]) ?_;refine QS O$ SR U34 O$ Q4 O$ PQ$ PS$ SK (α:=Nat) (0) (λi=>[(4,Qg (z+1)),(5,ptr b5 0),(6,ptr p1 0),(7,ptr p2 0),(8,ptr p3 0),(39,.slice (some ⟨gb,go,none⟩) l.length c),(40,I (l.length:Int)),(41,I (i:Int))]) (λi w'=>EfW w w' b5 f p1 p2 p3 (TF f.width (l.take i)) (hiB f.width 0 0 (l.take i)) (To f.width (l.take i))/\i<=l.length) (λi=>l.length-i) ?hI ?hround
  case hI=>exact⟨M1,Nat.zero_le _⟩
  case hround =>
   rintro i w7 ⟨hE,hi⟩ ih
   try dsimp only
   refine qN O$ RT O$ PQ$ An$ Q8 O (λh1=>?_)$ λh1=>?_
   ·have dW:i<l.length:=by omega
    obtain⟨v,hv⟩:∃v,l[i]? =some v:=⟨_,List.getElem?_eq_getElem dW⟩;have yV:=Ja v (List.mem_of_getElem? hv);have Jd:v / 2^f.width<=z / 2^f.width:=Nat.div_le_div_right yV;have qU:(l.take i).length=i:=by rw[List.length_take];omega
    obtain⟨eA,dy⟩:=z6E f.width (l.take i) 0 0 v (by rw[<-QR hv];exact nh.sublist (List.take_sublist _ _)) (λx hx=>Nat.zero_le _);rw[<-QR hv,Nat.zero_add,Nat.zero_add,qU] at dy;rw[Nat.zero_add,Nat.zero_add,qU] at eA;have M2:(l.take i).length*f.width<=64*30:=Nat.mul_le_mul ω ω;have hg:=Ext.Qh w7;obtain⟨F1',EK,yW,gS⟩:=(hE.on hg).zdS;have yX:Q7 w7 b5 [I (f.n:Int),Qg f.u,I (f.width:Int),I (f.bits:Int)] 220:=hE.PN;have uw:=Nat.two_pow_pos f.width;have P3:2^f.width<=2^30:=Nat.pow_le_pow_right ψ xt;refine PR$ RP$ Qx O$ qV (Rh U34 UK O O ω)$ qV (QF SL O O (Rf (hR.ext hE.ext) (show(l.map Qg)[i]? =some (Qg v) by rw[List.getElem?_map,hv];rfl))) ?_;refine Rt O$ An$ S5 (λw'=>Kp F1' w7 w') O$ Qi 0 O O (hg.kp)$ Qi 1 O O (hg.kp)$ PT 2 O (Qz UH O) (hg.kp)$ qT 3 O (λ_ h=>PX U3 O O (h.PN yX yW) O) (hg.kp)$ PT 7 O (Qz UH O) (hg.kp)$ qT 8 O (λ_ h=>PX U3 O O (h.PN yX yW) O) (hg.kp)$ PT 4 O (Sr f.width (2^f.width) O O ω O) (hg.kp) ?_;rw[show 1*2^f.width%18446744073709551616=2^f.width by rw[Nat.one_mul];exact Nat.mod_eq_of_lt ω];refine PT 5 O (XK (m:=2^f.width) (n:=1) O O O (by show 2^f.width<2^64;omega) ω) (hg.kp) ?_;refine PT 6 O (VY O O ω ω) (hg.kp) ?_;rw[Nat.and_two_pow_sub_one_eq_mod];refine T9 9 O Y2 O (Tu EK (v%2^f.width) f.width ω (Nat.mod_lt _ uw) (by rw[VZ];omega)) ?_;rintro _ w8 ⟨rfl,g9⟩;refine⟨hg.kp.trans g9.choose_spec.2.1,?_⟩;have xu:=gS _ _ g9;rw[<-zbh,<-QR hv] at xu;have vd:Q7 w8 b5 [I (f.n:Int),Qg f.u,I (f.width:Int),I (f.bits:Int)] 220:=xu.PN;obtain⟨F2',rp,g7⟩:=xu.zdV;refine qE$ Qx O$ Qd UH O$ qV (PX U3 O O vd O)$ qV (Vm f.width (2^f.width) O O (by show f.width<=64;omega) O) ?_;have eI:=z6Y f.width (l.take i) v;rw[<-QR hv,qU] at eI
    generalize v / 2^f.width=vq at eA dy Jd eI
    generalize z / 2^f.width=zq at Jd oF
    refine qV (QU O SL U3 ω)$ Q4 O$ R7 O ?_;rw[show(vq:Int)+(i:Int)=((vq+i:Nat):Int) by omega];refine Qc O$ An$ RI O$ Qk z3B O (WC rp) ?_;rintro _ w8 ⟨rfl,rfl⟩;refine SA O ?_
    generalize EL:(hiB f.width 0 0 (l.take i)).length=HL at eA dy
    rw[show((vq+i:Nat):Int)-(HL:Int)=((vq+i-(HL+0):Nat):Int) by omega];refine Qc O$ PS$ SK (α:=Nat) (0) (λy=>[(4,Qg (z+1)),(5,ptr b5 0),(6,ptr p1 0),(7,ptr p2 0),(8,ptr p3 0),(9,I (i:Int)),(11,I ((vq+i:Nat):Int)),(12,I ((vq+i-(HL+y):Nat):Int)),(39,.slice (some ⟨gb,go,none⟩) l.length c),(40,I (l.length:Int)),(41,I (i:Int))]) (λy w'=>EfW w w' b5 f p1 p2 p3 (TF f.width (l.take (i+1))) (hiB f.width 0 0 (l.take i)++List.replicate y false) (To f.width (l.take i))/\HL+y<=vq+i) (λy=>vq+i-(HL+y)) ?hI ?hround
    case hI=>exact⟨by simpa using xu,eA⟩
    case hround=>
     rintro y w9 ⟨rq,hy⟩ ih2
     try dsimp only
     obtain⟨F2',rp,g7⟩:=rq.zdV;refine QS O$ RK O$ PQ$ Q8 O (λh2=>?_)$ λh2=>?_
     ·obtain⟨m,pZ,dZ,mt,Je⟩:∃m,min (vq+i-(HL+y)) 64=m/\1<=m/\m<=64/\HL+y+m<=vq+i:=⟨_,rfl,ω,ω,ω⟩;refine PR$ RP$ PW O$ Qp O$ qV (ymi O O) ?_;rw[show min ((vq+i-(HL+y):Nat):Int) 64=(m:Int) by omega];refine Qk Y2 O (Tu rp 0 m mt (Nat.two_pow_pos _) (by rw[List.length_append,List.length_replicate,EL];omega)) ?_;rintro _ w10 ⟨rfl,oG⟩;have lA:=g7 _ _ oG;rw[WS,List.append_assoc,List.replicate_append_replicate] at lA;obtain⟨F2'',yY,-⟩:=lA.zdV;refine PQ$ PM$ PW O$ Qp O$ Qk z3B O (WC yY) ?_;rintro _ w10 ⟨rfl,rfl⟩;rw[show(hiB f.width 0 0 (l.take i)++List.replicate (y+m) false).length=HL+(y+m) by rw[List.length_append,List.length_replicate,EL]];refine SA O ?_;rw[show((vq+i:Nat):Int)-((HL+(y+m):Nat):Int)=((vq+i-(HL+(y+m)):Nat):Int) by omega];refine Qc O ?_;exact(ih2 (y+m) _ ⟨lA,ω⟩ ω).qb
     ·have M3:y=vq+i-HL:=by omega
      subst M3;refine Q5 O$ Qx O$ Qk Y2 O (Tu rp 1 1 ψ ψ (by rw[List.length_append,List.length_replicate,EL];omega)) ?_;rintro _ w10 ⟨rfl,oG⟩;have lA:=g7 _ _ oG;rw[show Qr 1 1=[true] from rfl,List.append_assoc,<-dy] at lA;refine qM O$ Q4 O$ qV (yre O O ω)$ Ss O$ PQ$ Q8 O (λh3=>?_)$ λh3=>?_
      ·have gT:i=0:=by omega
       obtain⟨F3',EM,nK⟩:=lA.zkQ;refine PW O$ Qp O$ qV ((Rp O U3 SL ω))$ Qk Y2 O (Tu EM (vq+i) 32 ψ (by show _<2^32;omega) (by rw[gT];show 0+32<=_;omega)) ?_;rintro _ w11 ⟨rfl,EN⟩;have ni:=nK _ _ EN;refine PQ$ PM$ PW O$ R7 O$ Q4 O$ PQ ((ih (i+1) _ ⟨?_,dW⟩ ω).qb);rw[eI,if_pos gT];rw[show vq+i=vq by omega] at ni;exact ni
      ·refine PR$ PM$ PW O$ R7 O$ Q4 O$ PQ ((ih (i+1) _ ⟨?_,dW⟩ ω).qb);rw[eI,if_neg ω,List.append_nil];exact lA
   ·have dq:i=l.length:=by omega
    subst dq;rw[List.take_length] at hE;refine Q5 O$ qN O$ Qk z1T O (VW w7) ?_;rintro _ w8 ⟨p4,F4,rfl,mV,cV,Jf⟩;have vd:Q7 w8 b5 [I (f.n:Int),Qg f.u,I (f.width:Int),I (f.bits:Int)] 220:=(hE.on cV).PN;refine RZ O$ Qd ZQ O$ qV (PX U3 O O vd O)$ qV ((Rp O U3 SL ω))$ Qk Y2 O (Tu mV f.n 32 ψ (by show _<2^32;omega) ξ) ?_;rintro _ w9 ⟨rfl,F5,Ch,ax,xq⟩;have iW:Ext w7 w9:=cV.It ax Jf;have z79:=iW.size;refine qM O$ Qp O$ Qk Y2 O (Tu Ch (z+1) 64 ψ (by show _<2^64;omega) ξ) ?_;rintro _ w10 ⟨rfl,F6,mI,aB,P4⟩
    have sU:Ext w7 w10:=iW.It aB (λk hk=>by
     rcases xq k hk with e| e
     ·exact Jf k e
     ·have:=cV.size;omega)
    rw[List.nil_append,<-Cg] at mI;refine qM O$ Qc O$ An$ RI O$ Qp O$ PY O O (Zh (cs:=[_,_,_,_]) (zs:=[Value.pointer none,Value.pointer none,Value.pointer none,Value.pointer none]) zgi z9n O (by kernel_rfl) O O O ψ) ?_;rintro _ w11 ⟨b100,rfl,⟨Jg,bc,Jh⟩,yZ⟩;have ni:=hE.on (sU.trans bc);obtain⟨tx,jm⟩:∃tx:List PV,tx=[Qv (Qr 32 f.n++Qr 64 f.u),Qv (TF f.width l),Qv (hiB f.width 0 0 l),Qv (To f.width l)]:=⟨_,rfl⟩
    have kM:∀j,(List.take j (List.map List.length tx)).sum<=4000:=λj=>by
     have h1:∀x∈List.take j (List.map List.length tx),x<=1000:=λx hx=>by
      have ae:=List.mem_of_mem_take hx;rw[jm] at ae;have fu:(TF f.width l).length<=64*30:=by rw[VZ];exact Nat.mul_le_mul hn ω
      have pX:=z2h f.width nh hz;have iy:=zaI f.width l;simp only[List.map_cons,List.map_nil,QN,List.length_append,bitsN_length] at ae;simp only[List.mem_cons,List.not_mem_nil,or_false] at ae
      generalize z / 2^f.width=zq at oF pX
      omega
     have h2:=zcT h1;have h3:(List.take j (List.map List.length tx)).length<=4:=by rw[List.length_take,List.length_map,jm];simp;omega
     omega
    have gj:∀(j:Nat) (x:PV),tx[j]? =some x->x.length<=4000:=λj x hx=>by
     have h1:=kM (j+1);rw[QR (q:=x.length) (by rw[List.getElem?_map,hx];rfl),List.sum_append] at h1;simp at h1;omega
    have hq:∀j,j<4->∃q bs F,([ptr p4 0,ptr p1 0,ptr p2 0,ptr p3 0]:List Value)[j]? =some (ptr q 0)/\tx[j]? =some (Qv bs)/\Zs w11 q bs F:=λj hj=>by
     obtain⟨F1,h1,-,-⟩:=ni.zdS;obtain⟨F2,h2,-⟩:=ni.zdV;obtain⟨F3,h3,-⟩:=ni.zkQ;rw[jm];have EO:j=0\/j=1\/j=2\/j=3:=by omega
     rcases EO with e|e|e|e<;>subst e
     ·exact⟨p4,_,_,rfl,rfl,mI.ext bc⟩
     ·exact⟨p1,_,_,rfl,rfl,h1⟩
     ·exact⟨p2,_,_,rfl,rfl,h2⟩
     ·exact⟨p3,_,_,rfl,rfl,h3⟩
    refine SR zgi O$ Q4 O$ PQ$ Qy.qb (e:=[(14,_),(100,_),(101,_),(102,_)]) ?_;refine PS$ SK (α:=Nat) (0) (λj=>[(14,S ((tx.take j).flatten)),(100,.slice (some ⟨b100,0,none⟩) 4 4),(101,I 4),(102,I (j:Int))]) (λj w'=>w'=w11/\j<=4) (λj=>4-j) ?hI ?hround
    case hI=>exact⟨rfl,Nat.zero_le _⟩
    case hround=>
     rintro j w12 ⟨rfl,hj⟩ ih2
     try dsimp only
     refine qN O$ RT O$ PQ$ An$ Q8 O (λh2=>?_)$ λh2=>?_
     ·obtain⟨q,bs,F,g1,g2,g3⟩:=hq j ω;have P5:=kM j;have P6:=gj j _ g2;refine PR$ RP$ qN O$ qV (Rh zgi z9n O O ω)$ qV (QF z4M O O (Rf yZ.rd g1))$ RZ O$ Qk z9D O (Yd g3) ?_;rintro _ w12 ⟨rfl,rfl⟩;refine Q4 O$ zex O$ qV (Sz (v:=I 0) O O)$ Rt O$ QS O$ RA O$ Re O$ PW O$ Qp O$ qV (XW O O (by first|omega|(simp;done)|(simp;omega))) ?_;refine Qc O$ PM$ PW O$ R7 O$ Q4 O$ PQ ?_;rw[show(tx.take j).flatten++Qv bs=(tx.take (j+1)).flatten by rw[QR g2,List.flatten_append];simp];exact(ih2 (j+1) _ ⟨rfl,ω⟩ ω).qb
     ·have EO:j=4:=by omega
      subst EO;refine Q5 O$ Qx O$ Rt O$ PO func76 O (⟨_,rfl,?_,(hE.ext.trans sU).trans bc⟩);rw[jm];simp[Rb,ZS]
 ·omega
structure PHd where
 n:Nat
 m:Nat
 p:Ry
 bits:Nat
def hdC (h:PHd):List Value:=[I (h.n:Int),I (h.m:Int),I (h.p.Qq:Int),I (h.p.chain:Int),I (h.p.interval:Int),I (h.p.zeta:Int),I (h.p.most:Int),I (h.bits:Int)]
abbrev hdV (h:PHd):Value:= .agg (hdC h).toArray
structure PHd.RE (h:PHd):Prop where
 n1:1<=h.n
 n2:h.n<=65536
 m:h.m<=1048576
 bits:h.bits<=134217728
 p:h.p.RE
def hdL (h:PHd):List (Nat×Nat):=[(h.n,32),(h.m,32),(h.p.Qq,8),(h.p.chain,8),(h.p.interval,8),(h.p.zeta,8),(h.p.most,32),(h.bits,64)]
def Sx (l:List (Nat×Nat)):List Bool:=l.flatMap λq=>Qr q.2 q.1
def z94:PV:=[119,116,108,49]
def hdT (h:PHd):PV:=z94++Qv (Sx (hdL h))
theorem VO (h:PHd):(Sx (hdL h)).length=192:=by
 simp[Sx,hdL]
theorem Yz (h:PHd):(hdT h).length=28:=by
 unfold hdT
 rw[List.length_append,QN,VO];rfl
def Z5 (h:PHd)(hh:h.RE)(w:World):Qu prog 116 [hdV h] w λu w'=>u=I 0/\Ext w w':=by
 obtain⟨g1,g2,g3,g4,g5⟩:=hh
 refine py (e:=[(0,_)]) func116 O ntmps116 O O$ qN O$ PY O O (Se O (cs:=hdC h) O) ?_
 rintro _ w1 ⟨b1,rfl,bL,ad,ai⟩
 replace ai:Q7 w1 b1 [I (h.n:Int),I (h.m:Int),I (h.p.Qq:Int),I (h.p.chain:Int),I (h.p.interval:Int),I (h.p.zeta:Int),I (h.p.most:Int),I (h.bits:Int)] 134:=ai
 refine Qc O$ RP$ An$ qN O$ Qd Vv O$ qV (PX U3 O O ai O)$ RT O$ QW$ Q4 O$ Qd Vv O$ qV (PX U3 O O ai O)$ RK O$ QW$ QY O ?_
 refine Qc O$ PZ O$ qN O$ Qd z1D O$ qV (PX U3 O O ai O)$ RT O$ QW$ Q4 O$ Qd z1D O$ qV (PX U3 O O ai O)$ RK O$ QW$ QY O$ Qc O ?_
 refine PZ O$ qN O$ Qd Wh O$ qV (PX U3 O O ai O)$ RT O$ QW$ Q4 O$ Qd Wh O$ qV (PX U3 O O ai O)$ RK O$ QW$ QY O$ Qc O$ Qy.qb (e:=[(1,_),(2,_),(3,_)]) ?_
 refine PZ O$ PW O$ Qd Vv O$ qV (PX U3 O O ai O)$ Ss O$ QW$ Q4 O$ S6$ S6$ S6$ QY O$ Qc O$ TT O$ PM ?_
 refine qN O$ Qd ZK O$ qV (QB (news:=Wz h.p) U75 O SO O (ai.cells (i:=2) (n:=5) O) O)$ Qk zeY O (z1h h.p g5 _) ?_
 rintro _ w2 ⟨rfl,ae⟩
 refine Qc O$ PO func116 O ?_
 exact⟨_,rfl,rfl,ad.trans ae⟩
def zaU (h:PHd)(hh:h.RE)(w:World):Qu prog 75 [hdV h] w λu w'=>u= .tuple #[S (hdT h),I 0]/\Ext w w':=by
 obtain⟨g1,g2,g3,g4,g5⟩:=id hh
 obtain⟨q1,q2,q3⟩:=id g5
 obtain⟨r1,r2,r3,r4⟩:=id q1
 have r1':h.p.Qq<=16:=r1
 have r2':h.p.interval<=64:=by
  have:h.p.interval=0\/2<=h.p.interval/\h.p.interval<=64:=r2;omega
 have r4':h.p.zeta<=16:=r4
 refine py (e:=[(0,_)]) func75 O ntmps75 O O$ qN O$ PY O O (Se O (cs:=hdC h) O) ?_
 rintro _ w1 ⟨b1,rfl,bL,ad,ai⟩
 replace ai:Q7 w1 b1 [I (h.n:Int),I (h.m:Int),I (h.p.Qq:Int),I (h.p.chain:Int),I (h.p.interval:Int),I (h.p.zeta:Int),I (h.p.most:Int),I (h.bits:Int)] 134:=ai
 refine Rt O$ An$ qN O$ qV (QB (news:=hdC h) z80 O Vl O (ai.cells (n:=8) O) O)$ Qk zcN O (Z5 h hh _) ?_
 rintro _ w2 ⟨rfl,ae⟩
 refine RZ O$ RA O$ Re O$ qN O$ Qk z1T O (VW w2) ?_
 rintro _ w3 ⟨wp,F,rfl,nJ,ah,rf⟩
 have aZ:=ae.trans ah
 have bZ:=aZ.PN ai
 refine S7 O$ Qd ZK O$ qV (QB (news:=Wz h.p) U75 O SO O (bZ.cells (i:=2) (n:=5) O) O)$ PY O O (SE (cs:=[_,_,_,_,_]) SO O) ?_
 rintro _ w4 ⟨b6,rfl,nV,aC,aY⟩
 refine Qb O (QT (news:=Wz h.p) SO O O O O aY ξ) ?_
 rintro w5 ⟨fV,aj⟩
 replace fV:Q7 w5 b6 [I (h.p.Qq:Int),I (h.p.chain:Int),I (h.p.interval:Int),I (h.p.zeta:Int),I (h.p.most:Int)] 75:=fV
 have cC:Ext w3 w5:=aC.It aj (λi e=>by omega)
 have eW:=cC.PN bZ
 refine PQ$ An$ qN O$ Qd Vv O$ qV ((PX U3 O O eW O))$ qV (Tq (cs:=[_,_]) WG O z1q O O)$ Qd z1D O$ qV ((PX U3 O O eW O))$ qV (Tq (cs:=[_,_]) WG O z1q O O)$ Qd z2T O$ qV ((PX U3 O O fV O))$ qV (Tq (cs:=[_,_]) WG O z1q O O)$ Qd z0L O$ qV ((PX U3 O O fV O)) ?_
 refine qV (Tq (cs:=[_,_]) WG O z1q O O)$ Qd zdb O$ qV ((PX U3 O O fV O))$ qV (Tq (cs:=[_,_]) WG O z1q O O)$ Qd zbZ O$ qV ((PX U3 O O fV O))$ qV (Tq (cs:=[_,_]) WG O z1q O O)$ Qd UO O$ qV ((PX U3 O O fV O))$ qV (Tq (cs:=[_,_]) WG O z1q O O)$ Qd Wh O$ qV ((PX U3 O O eW O))$ qV (Tq (cs:=[_,_]) WG O z1q O O)$ PY O O (Zh (cs:=[_,_,_,_,_,_,_,_,_,_,_,_,_,_,_,_]) (zs:=[Value.int .i64 0,Value.int .i64 0,Value.int .i64 0,Value.int .i64 0,Value.int .i64 0,Value.int .i64 0,Value.int .i64 0,Value.int .i64 0,Value.int .i64 0,Value.int .i64 0,Value.int .i64 0,Value.int .i64 0,Value.int .i64 0,Value.int .i64 0,Value.int .i64 0,Value.int .i64 0]) zgm WG O (by kernel_rfl) O O O ψ) ?_
 rintro _ w6 ⟨b43,rfl,⟨DD,aS,ew⟩,od⟩
 have zd:=cC.trans aS
 have mI:=nJ.ext zd
 have z3:=ah.size
 have hL:(hdL h).length=8:=rfl
 replace od:Sl w6 (.slice (some ⟨b43,0,none⟩) 8 8) 215 2 8 ((hdL h).flatMap λq=>[I (q.1:Int),I (q.2:Int)]):=od
 refine SR zgm O$ Q4 O$ PQ$ Qy.qb (e:=[(2,_),(3,_),(5,_),(43,_),(44,_),(45,_)]) ?_
 refine PS$ SK (α:=Nat) (0) (λi=>[(5,ptr wp 0),(43,.slice (some ⟨b43,0,none⟩) 8 8),(44,I 8),(45,I (i:Int))]) (λi w'=>WrR wp F w6 w' (Sx ((hdL h).take i))/\i<=8) (λi=>8-i) ?hI ?hround
 case hI=>exact⟨⟨F,mI,Kp.refl _ _,λk hk=> .inl hk⟩,Nat.zero_le _⟩
 case hround=>
  rintro i w7 ⟨⟨F7,pI,aA,pJ⟩,hi⟩ ih
  try dsimp only
  refine qN O$ RT O$ PQ$ An$ Q8 O (λh0=>?_)$ λh0=>?_
  ·obtain⟨⟨v,c⟩,hq⟩:∃q,(hdL h)[i]? =some q:=⟨_,List.getElem?_eq_getElem (by rw[hL];omega)⟩
   have C7:v<2^c/\c<=64/\v<=134217728:=by
    have hm:=List.mem_of_getElem? hq;simp only[hdL,List.mem_cons,List.not_mem_nil,or_false,Prod.mk.injEq] at hm;rcases hm with⟨rfl,rfl⟩|⟨rfl,rfl⟩|⟨rfl,rfl⟩|⟨rfl,rfl⟩|⟨rfl,rfl⟩|⟨rfl,rfl⟩|⟨rfl,rfl⟩|⟨rfl,rfl⟩<;>refine⟨ω,ω,ω⟩
   have eP:(Sx ((hdL h).take i)).length+c<=192:=by
    have e:Sx ((hdL h).take (i+1))=Sx ((hdL h).take i)++Qr c v:=by rw[QR hq];simp[Sx]
    have e2:=congrArg List.length e;rw[List.length_append,bitsN_length] at e2
    have e3:(Sx (hdL h)).length=(Sx ((hdL h).take (i+1))).length+(Sx ((hdL h).drop (i+1))).length:=by
     conv=>lhs;rw[<-List.take_append_drop (i+1) (hdL h)]
     unfold Sx;rw[List.flatMap_append,List.length_append]
    have e4:=VO h;omega
   have i6:=od.kp aA (λg hg e=>by have e1:b43=g:=SH hg;have:=mI.lt e;have:=nJ.lt e;have:=cC.size;omega);have kZ:=z2z (f:=λq:Nat×Nat=>[I (q.1:Int),I (q.2:Int)]) (λ_=>rfl) i6.rd hq;refine PR$ RP$ qN O$ qV (Rh zgm WG O O ω)$ qV (QB (news:=[I (v:Int),I (c:Int)]) zm8 O WG O kZ O)$ PY O O (SE (cs:=[_,_]) WG O) ?_;rintro _ w8 ⟨b8,rfl,jf,cV,co⟩;refine Qb O (QT (news:=[I (v:Int),I (c:Int)]) WG O O O O co ξ) ?_;rintro w9 ⟨ru,ax⟩;replace ru:Q7 w9 b8 [I (v:Int),I (c:Int)] 215:=ru;have iW:Ext w7 w9:=cV.It ax (λi e=>by omega);refine PQ$ St O$ Qd ze5 O$ qV (PX U3 O O ru O)$ qV ((Rp O U3 SL ω))$ Qd zei O$ qV (PX U3 O O ru O)$ Qk Y2 O (Tu (pI.ext iW) v c C7.2.1 C7.1 ω) ?_;rintro _ w10 ⟨rfl,F10,EP,aB,cy⟩;refine PQ$ PM$ PW O$ R7 O$ Q4 O$ PQ ((ih (i+1) _ ⟨⟨F10,?_,(aA.trans iW.kp).It aB (λk hk=>(pJ k hk).symm),λk hk=>?_⟩,ω⟩ ω).qb)
   ·rw[QR hq,show Sx ((hdL h).take i++[(v,c)])=Sx ((hdL h).take i)++Qr c v by simp[Sx]];exact EP
   ·rcases cy k hk with e| e
    ·exact pJ k e
    ·have:=aA.size;have:=iW.size;exact .inr ω
  ·have dq:i=8:=by omega
   subst dq;rw[show(hdL h).take 8=hdL h from rfl] at pI;refine Q5 O$ Qx O$ Qk z9D O (Yd pI) ?_;rintro _ w8 ⟨rfl,rfl⟩;have gj:(Qv (Sx (hdL h))).length=24:=by rw[QN,VO]
   refine Q4 O$ TK O$ TN O$ RZ O$ qV (XW O O (by first|omega|(simp;done)|(simp;omega))) ?_;refine Q4 O$ Rt O$ PO func75 O (⟨_,rfl,?_,((ad.trans aZ).trans zd).It aA (λk hk=>by have:=rf k hk;have:=ae.size;have:=ad.size;omega)⟩);simp[Rb,hdT,z94]
def z8v {w:World}{ga:Option Addr}{gc:Nat}{g:List (List Nat)}(h:GrM w (.slice ga g.length gc) g)(hg:Tl g):Qu prog 74 [.slice ga g.length gc] w λu w'=>u=I (R6 g:Int)/\w'=w:=by
 have hn:=hg.n
 obtain⟨vs,fO,nH⟩:=h.ex
 refine py (e:=[(0,_)]) func74 O ntmps74 O O$ qN O$ S7 O$ Qc O$ QS O$ SR U23 O$ Q4 O$ PQ$ PS$ SK (α:=Nat) (0) (λi=>[(3,I (R6 (g.take i):Int)),(6,.slice ga g.length gc),(7,I (g.length:Int)),(8,I (i:Int))]) (λi w'=>w'=w/\i<=g.length) (λi=>g.length-i) ?hI ?hround
 case hI=>exact⟨rfl,Nat.zero_le _⟩
 case hround=>
  rintro i w4 ⟨rfl,hi⟩ ih;have uX:=Vh hg i
  try dsimp only
  refine qN O$ RT O$ PQ$ An$ Q8 O (λh0=>?_)$ λh0=>?_
  ·obtain⟨l,hl⟩:∃l,g[i]? =some l:=⟨_,List.getElem?_eq_getElem ω⟩;have fu:=hg.len (List.mem_of_getElem? hl);obtain⟨a,c,e1,e2,e3⟩:=nH i l hl
   obtain⟨gb,go,gc',e4⟩:∃b o c',Value.slice ga g.length gc= .slice (some ⟨b,o,none⟩) g.length c':=by
    rcases fO.2 with⟨c,hc,h0⟩|⟨b,off,c',hc,-⟩
    ·omega
    ·exact⟨b,off,c',hc⟩
   cases e4;have C9:=Zo (g.take i) l;rw[<-QR hl] at C9;refine PR$ RP$ qN O$ qV (Rh U23 Vz O O ω)$ qV (QF QE O O (Rf fO e1))$ Qc O$ PW O$ Qp O$ SR QE O$ R7 O$ Qc O$ PM$ PW O$ R7 O ?_;refine Q4 O$ PQ ?_;rw[show(R6 (g.take i):Int)+(l.length:Int)=(R6 (g.take (i+1)):Int) by omega];exact(ih (i+1) _ ⟨rfl,ω⟩ ω).qb
  ·have dq:i=g.length:=by omega
   subst dq;rw[List.take_length];refine Q5 O$ Qx O$ Qc O$ PO func74 O ?_;exact⟨_,rfl,rfl,rfl⟩
end Go.Proofs.YtffbidffdbpcoaaGreatDoor
