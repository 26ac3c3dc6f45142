/- Merged by program. -/
import Derived.Test.YtgdkbagngobdlaaGreatDoorZs3
set_option linter.all false
set_option maxRecDepth 1000000
set_option maxHeartbeats 16000000
namespace Go.Proofs.YtgdkbagngobdlaaGreatDoor
open Go Go.RowKit Go.Proofs.Tryz
theorem Y2 {w : World}(p : Rf)(hp : p.PI)(x : Nat)(hx : x < 65536){sa ra : Option Addr}{sc rc : Nat}(succ ref : List Nat)(hs : OQ succ)(hr : OQ ref)(r : Nat)(jd : r <= p.Ou)(lC : r = 0 -> ref = [])
  (hG:O9 w 2 (RB .gamma) 317) (hU:O9 w 3 (RB .unary) 317) (dL:Rd w (.slice sa succ.length sc) 1 succ.length (succ.map OB)) (mu:Rd w (.slice ra ref.length rc) 1 ref.length (ref.map OB)) (fP:succ.length<=sc) (jG:ref.length<=rc):
  Oy prog 210 [lpV p,I (x:Int),.slice sa succ.length sc,.slice ra ref.length rc,I (r:Int)] w λu w'=>Sl w' u 319 3 (QC p x succ ref r).length ((QC p x succ ref r).flatMap z5n)/\(∀g,u.ownBlock=some g->w.heap.size<=g)/\Ext w w':=by
 obtain⟨g1,g2,g3,g4⟩:=id hp
 have fL:=hs.len
 have ia:=hr.len
 refine NP (e:=[(0,_),(1,_),(2,_),(3,_),(4,_)]) func210 O ntmps210 O O$ qN O$ O5 O O (Qr O (cs:=Z9 p) O) ?_
 rintro _ w1 ⟨b5,rfl,gQ,ad,aG⟩
 have z1:=ad.size
 have l5:=aG.lt
 refine Oc O$ qM O$ qV (OE (news:=[.int .u8 1,u64v 0]) RG O PY O ((ad.NX hG).cells (n:=2) O) O)$ NT O$ Qx OA O$ qV ((Pf O U3 Qy (by omega)))$ qV (Rt (cs:=[_,_,_]) Ur O zdS O O)$ O5 O O (Vl (cs:=[_,_,_]) (zs:=[Value.int .u8 0,Value.int .u64 0,Value.int .u64 0]) z0g Ur O (by kernel_rfl) O O O (by decide)) ?_
 rintro _ w2 ⟨b2,rfl,⟨bU,ae,am⟩,cA⟩
 have z2:=ae.size
 have l2:=am.lt
 refine O5 O O (QU (cs:=[_]) zaj O) ?_
 rintro _ w3 ⟨n11,rfl,j9,ah,aX⟩
 have z3:=ah.size
 refine Oe O (PV zaj O O O aX (by simp)) ?_
 rintro w4 ⟨kQ,ao⟩
 have z4:=ao.size
 replace kQ:O9 w4 n11 [.slice (some ⟨b2,0,none⟩) 1 1] 314:=kQ
 have dl:=(cA.ext ah).kp ao (λg hg e=>by have h1:b2=g:=PJ hg;omega)
 have vt:NuI w w1 p b5 n11 [(.gamma,succ.length)] w4:=⟨⟨fpW n11 (.slice (some ⟨b2,0,none⟩) 1 1),⟨_,⟨kQ,dl,λe=>by have h1:b2=n11:=PJ e;omega⟩,λ_=>Iff.rfl⟩,λk hk=>by
   rcases hk with e| e
   ·omega
   ·have h1:b2=k:=PJ e
    omega⟩,((ad.trans ae).trans ah).NR ao (λk e=>by omega),ao.NX (ah.NX (ae.NX aG)) (by omega),by omega⟩
 refine NU$ py$ qN O$ NT O$ Qx OA O$ Qe O O$ NU$ O8 O (λe0=>?_)$ λe0=>?_
 ·have eW:succ=[]:=List.eq_nil_of_length_eq_zero (by omega);subst eW;refine qN O$ qV (O6 z0g O O kQ O)$ NZ O$ NV func210 O ?_;have lK:QC p x [] ref r=[(.gamma,0)]:=by simp[QC]
  rw[lK];exact⟨_,rfl,dl,λg hg=>by have h1:b2=g:=PJ hg;omega,vt.ext⟩
 ·have gU := vt.b5; replace gU : O9 w4 b5 [I (p.Ou : Int), I (p.interval : Int), I (p.zeta : Int)] 279 := gU; refine An (qN O (qV (ymf (first := []) (caps := [.tmp 11]) O O) (NZ O (py (qN O (Og So O (qV (O6 U3 O O gU O) (PD O O (NU (OX (λe' w' => e' = [(1, I (x : Int)), (2, .slice sa succ.length sc), (3, .slice ra ref.length rc), (4, I (r : Int)), (5, ptr b5 0), (11, ptr n11 0), (12, .func (.func 232) #[] #[ptr n11 0])] /\ NuI w w1 p b5 n11 ([(.gamma, succ.length)] ++ (if 0 < p.Ou then [(.unary, r)] else [])) w') ?cF (λcF => ?cR)))))))))))
  case cF =>
   rintro e' w5 ⟨rfl,sV⟩;have Cl:=sV.siz;refine qN O$ O5 O O (Vl (cs:=[_]) (zs:=[Value.int .i64 0]) Qt Pb O (by kernel_rfl) O O O (by decide)) ?_;rintro _ w6 ⟨b43,rfl,⟨Cm,aH,dN⟩,mY⟩;have l6:=dN.lt;refine O5 O O (QU (cs:=[_]) z5k O) ?_;rintro _ w7 ⟨rn,rfl,Jo,bV,wO⟩;have l7:=wO.lt;have z7:=bV.size;refine O5 O O (QU (cs:=[_]) Ro O) ?_;rintro _ w8 ⟨lf,rfl,Jp,dq,wP⟩;have l8:=wP.lt;have z8:=dq.size;refine Oe O (PV z5k O O O (dq.NX wO) (by simp)) ?_;rintro w9 ⟨mZ,aL⟩;have z9:=aL.size;replace mZ:O9 w9 rn [.slice (some ⟨b43,0,none⟩) 1 1] 43:=mZ;refine Oe O (PV Ro O O O (aL.NX wP (by omega)) (by simp)) ?_;rintro w10 ⟨kh,ar⟩;have z10:=ar.size;replace kh:O9 w10 lf [.slice none 0 0] 49:=kh;have gn:Ext w5 w10:=(((aH.trans bV).trans dq).NR aL (λk e=>by omega)).NR ar (λk e=>by omega)
   have lL:NuI w w1 p b5 n11 ([(.gamma,succ.length)]++(if 0<p.Ou then [(.unary,r)] else [])) w10:=by
    obtain⟨⟨F,h1,h2⟩,h3,h4,h5⟩:=sV;exact⟨⟨F,h1.ext gn,h2⟩,h3.trans gn,gn.NX h4,by have:=gn.size;omega⟩
   have bz:=(((mY.ext bV).ext dq).kp aL (λg hg e=>by have h1:b43=g:=PJ hg;omega)).kp ar (λg hg e=>by have h1:b43=g:=PJ hg;omega);have Jq:z1Z w10 lf [] (fpW lf (.slice none 0 0)):=⟨_,⟨kh,Sl.nil _ _ _,λe=>by cases e⟩,λ_=>Iff.rfl⟩;have Jr:z0X w10 rn [0] (fpW rn (.slice (some ⟨b43,0,none⟩) 1 1)):=⟨_,⟨ar.NX mZ (by omega),bz,λe=>by have h1:b43=rn:=PJ e;omega⟩,λ_=>Iff.rfl⟩
   have lM:∀k,fpW lf (.slice none 0 0) k->k=lf:=λk hk=>by
    rcases hk with e| e
    ·exact e
    ·cases e
   have kL:∀k,fpW rn (.slice (some ⟨b43,0,none⟩) 1 1) k->k=rn\/k=b43:=λk hk=>by
    rcases hk with e| e
    ·exact .inl e
    ·exact .inr (PJ e).symm
   have cx:∀k,fpW lf (.slice none 0 0) k\/fpW rn (.slice (some ⟨b43,0,none⟩) 1 1) k->w5.heap.size<=k:=λk hk=>by
    rcases hk with e| e
    ·have:=lM k e;omega
    ·rcases kL k e with e|e<;>omega
   have hE:Tb w10 succ ref lf rn (fpW lf (.slice none 0 0)) (fpW rn (.slice (some ⟨b43,0,none⟩) 1 1)) succ sa sc ref ra rc [] [0] w10:=by
    refine⟨⟨_,_,[],Jq,Jr,SD.zero,by simpa using ia,by simp;omega,λk h=> .inl h,λk h=> .inl h,λk h1 h2=>?_⟩,λw2 k=>?_,λw2 k=>?_,fP,jG,Kp.refl _ _,hs,hr,rfl,rfl,by simpa using fL⟩
    ·have e1:=lM k h1;rcases kL k h2 with e2|e2<;>omega
    ·exact(dL.ext lL.ext).kpz k (λh0 g hg hS=>by have e1:=dL.ltz (by decide) h0 hg;have e2:=cx g hS;omega)
    ·exact(mu.ext lL.ext).kpz k (λh0 g hg hS=>by have e1:=mu.ltz (by decide) h0 hg;have e2:=cx g hS;omega)
   refine qM O$ Od O O$ qV (ymf (first:=[]) (caps:=[.tmp 14,.tmp 13]) O O)$ Om zhG O (zal hE) ?_;rintro _ w11 ⟨rfl,FL,FR,wQ,pz,Cn,Co,qU,aY⟩
   have lN:NuI w w1 p b5 n11 ([(.gamma,succ.length)]++(if 0<p.Ou then [(.unary,r)] else [])) w11:=by
    have aQ:Kp (λk=>fpW lf (.slice none 0 0) k\/fpW rn (.slice (some ⟨b43,0,none⟩) 1 1) k) w10 w11:=aY;have Cp:=sV.ex;obtain⟨⟨F,h1,h2⟩,h3,h4,h5⟩:=lL;obtain⟨F5,h6,h7⟩:=Cp;have gQ:b5<w5.heap.size:=sV.b5.lt;refine⟨⟨F5,(h6.ext gn).kp aQ (λk hk hS=>by have e1:=h6.lt hk;have e2:=cx k hS;omega),h7⟩,h3.NR aQ (λk hk=>by have e2:=cx k hk;have:=sV.ext.size;omega),aQ.NX h4 (λhS=>by have e2:=cx b5 hS;omega),by have:=aQ.size;omega⟩
   generalize hA:([(Cd.gamma,succ.length)]++(if 0<p.Ou then [(Cd.unary,r)] else []):List (Cd×Nat))=A at lN lL sV
   have N2:A.length<=2:=by rw[<-hA];split<;>simp
   have wR:∀k,(FL k\/FR k)->k<w11.heap.size:=λk hk=>by
    rcases hk with e| e
    ·exact wQ.lt e
    ·exact pz.lt e
   have pA:NuX w w1 w11 p b5 n11 (λk=>FL k\/FR k) A w11:=by
    obtain⟨F5,h6,h7⟩:=sV.ex;have Js:=gn.size;refine⟨⟨F5,(h6.ext gn).kp aY (λk hk hS=>by have e1:=h6.lt hk;have e2:=cx k hS;omega),h7,λk hk hX=>?_⟩,lN.ext,lN.b5,lN.siz,Kp.refl _ _⟩;have e1:=h6.lt hk;rcases hX with e| e
    ·rcases Cn k e with e2|e2
     ·have:=cx k (.inl e2);omega
     ·omega
    ·rcases Co k e with e2|e2
     ·have:=cx k (.inr e2);omega
     ·omega
   refine NU$ py$ qN O$ NT O$ PD O O$ NU$ OX (λe' w'=>e'=[(1,I (x:Int)),(5,ptr b5 0),(11,ptr n11 0),(12,.func (.func 232) #[] #[ptr n11 0]),(14,ptr lf 0)]/\NuX w w1 w11 p b5 n11 (λk=>FL k\/FR k) (A++(if 0<r then(.gamma,(Qk succ ref).length-1)::Px 0 (Qk succ ref).dropLast else [])) w') ?dV$ λdV=>?fU
   case dV =>
    rintro e' w12 ⟨rfl,fF⟩;have eE:succ≠[]:=λe=>e0 (by rw[e];rfl)
    generalize hB:(if 0<r then(Cd.gamma,(Qk succ ref).length-1)::Px 0 (Qk succ ref).dropLast else []:List (Cd×Nat))=B at fF
    have wS:=wQ.kp fF.kx (λk hk e=>e (.inl hk));obtain⟨vl,AK,N3⟩:=wS;obtain⟨la,lc,rfl,-⟩:=AK.sl.rd.shape;obtain⟨F,⟨vn,rh,wT⟩,pB,Cq⟩:=id fF.ex;have Hx:=AK.NX;have vw:=rh.NX;refine py$ qN O$ qV ((O6 OA O O Hx O))$ Qx OA O$ Qe O O$ NU$ O8 O (λe3=>?_)$ λe3=>?_
    ·have iU:Ox succ ref=[]:=List.eq_nil_of_length_eq_zero (by omega)
     have je:QC p x succ ref r=A++B:=by
      unfold QC;rw[if_neg eE,if_pos iU,List.append_nil,<-hA,<-hB];rfl
     refine qN O$ qV ((O6 z0g O O vw O))$ NZ O$ NV func210 O ?_;rw[je];exact⟨_,rfl,rh.sl,λg hg=>by have:=pB g ((wT g).2 (.inr hg));omega,fF.ext⟩
    ·have ri := fF.b5; replace ri : O9 w12 b5 [I (p.Ou : Int), I (p.interval : Int), I (p.zeta : Int)] 279 := ri; refine An (qN O (qV ((O6 OA O O Hx O)) (Og Tf O (qV ((O6 U3 O O ri O)) ?_)))); have ay : OQ (Ox succ ref) := hs.sub List.filter_sublist; have Jt := ay.len
     have iw:(Ox succ ref).length<=lc:=by
      rcases AK.sl.shape with⟨-,h0⟩|⟨g,c1,hv,du⟩
      ·omega
      ·cases hv;exact du
     refine Om ziv O (zaJ la lc (Ox succ ref) p.interval ay iw (by omega) w12 AK.sl.rd) ?_;rintro _ w13 ⟨v4,v5,rfl,lO,n8,ba,pC,na,Hy⟩;have dp:=Ts p.interval (Ox succ ref);have pD:OQ (P8 p.interval (Ox succ ref)).2:=ay.sub dp
     have gN:∀k,(v4.ownBlock=some k\/v5.ownBlock=some k)->w12.heap.size<=k/\k<w13.heap.size:=λk hk=>by
      rcases hk with e| e
      ·exact⟨pC k e,lO.lt e⟩
      ·exact⟨na k e,n8.lt e⟩
     have lP:NuX w w1 w13 p b5 n11 (λk=>v4.ownBlock=some k\/v5.ownBlock=some k) (A++B) w13:=by
      have jR:∀k,F k->k<w12.heap.size:=λk hk=>by
       rcases (wT k).1 hk with e| e
       ·rw[e];exact rh.NX.lt
       ·exact rh.sl.lt e
      have wU:z3t w12 n11 (A++B) F:=⟨vn,rh,wT⟩;exact⟨⟨F,wU.ext ba,pB,λk hk hX=>by have e1:=jR k hk;have e2:=(gN k hX).1;omega⟩,fF.ext.trans ba,ba.NX fF.b5,by have e1:=fF.siz;have e2:=ba.size;omega,Kp.refl _ _⟩
     have wV:=ba.NX ri;have Ju:=lO.oneV;have Jv:=n8.oneV;refine NT O$ P9 O O$ P9 O O$ Oc O$ NZ O$ py$ qN O$ Og Tf O$ qV (O6 U3 O O wV O)$ PD O O$ NU ?_
     have Jw:(A++B).length<=200000:=by
      rw[List.length_append,<-hB];split
      ·rw[List.length_cons,Sd,List.length_dropLast];have h1:=(Se succ ref).z0S;rw[List.length_map] at h1;omega
      ·simp;omega
     generalize hQ:P8 p.interval (Ox succ ref)=Q at lO n8 pD dp
     have wW : Q.1.length <= 65536 := by
      have h1:=SR p.interval (Ox succ ref);have h2:=h1.length_eq;rw[hQ,List.length_append] at h2
      have h3:∀R:List (Nat×Nat),S4 p.interval 0 R->R.length<=(Qa R).length:=by
       have h4:∀(R:List (Nat×Nat)) (lo:Nat),S4 p.interval lo R->R.length<=(Qa R).length:=by
        intro R
        induction R with
        |nil=>intro lo h;exact Nat.le_refl _
        | cons q R ih =>
          intro lo h;have h5:=ih _ h.2.2.2;have h6:1<=q.2:=h.2.1;rw[show Qa (q::R)=(List.range q.2).map (q.1+·)++Qa R from rfl,List.length_append,List.length_map,List.length_range,List.length_cons];omega
       exact λR h=>h4 R 0 h
      have h5:=h3 _ (TU p.interval (Ox succ ref) 0 ay.YF (λy _=>Nat.zero_le _));rw[hQ] at h5;omega
     have pE:S4 p.interval 0 Q.1:=by have h:=TU p.interval (Ox succ ref) 0 ay.YF (λy _=>Nat.zero_le _);rwa [hQ] at h
     have sW:∀q∈Q.1,1<=q.2->q.1+q.2<=65536:=λq hq h1=>z9Y (least:=p.interval) ay.lt (by rw[hQ];exact hq) h1
     have wX:∃fa fc,v4= .slice fa Q.1.length fc:=by
      obtain⟨fa,fc,e,-⟩:=lO.rd.shape;exact⟨fa,fc,e⟩
     obtain⟨fa,fc,rfl⟩:=wX;refine OX (λe' w'=>e'=[(1,I (x:Int)),(5,ptr b5 0),(11,ptr n11 0),(12,.func (.func 232) #[] #[ptr n11 0]),(17,.slice fa Q.1.length fc),(18,v5)]/\NuX w w1 w13 p b5 n11 (λk=>(Value.slice fa Q.1.length fc).ownBlock=some k\/v5.ownBlock=some k) (A++B++if 0<p.interval then [(.gamma,Q.1.length)] else []) w') ?av$ λav=>?dW
     case av =>
      rintro e' w14 ⟨rfl,pF⟩;refine qN O$ NZ O$ py$ qN O$ NT O$ Qx zbk O$ NT O$ NU$ NQ ?_
      generalize Cr:(if 0<p.interval then [(Cd.gamma,Q.1.length)] else []:List (Cd×Nat))=C0 at pF
      refine Rg (λe' w'=>e'=[(1,I (x:Int)),(5,ptr b5 0),(11,ptr n11 0),(12,.func (.func 232) #[] #[ptr n11 0]),(18,v5)]/\NuX w w1 w13 p b5 n11 (λk=>(Value.slice fa Q.1.length fc).ownBlock=some k\/v5.ownBlock=some k) (A++B++C0++OV x p.interval none Q.1) w') ?mV$ λmV=>?mX
      case mV =>
       rintro e' w15 ⟨rfl,gp⟩;obtain⟨F15,gq,lQ,jf⟩:=gp.ex;have ng:=gp.b5;replace ng:O9 w15 b5 [I (p.Ou:Int),I (p.interval:Int),I (p.zeta:Int)] 279:=ng;refine qN O$ Og Zn O$ qV (O6 U3 O O ng O)$ qV ((Pf O U3 Qy (by omega)))$ qV (Rt (cs:=[_,_]) PY O zdg O O)$ O5 O O (QU (cs:=[_,_]) PY O) ?_;rintro _ w16 ⟨b22,rfl,Jy,aN,iy⟩;have z16:=aN.size;refine Oe O (P4 (news:=[.int .u8 3,u64v p.zeta]) PY O O O O iy (by simp)) ?_;rintro w17 ⟨kR,cq⟩;replace kR:O9 w17 b22 [.int .u8 3,u64v p.zeta] 317:=kR;have dY:Ext w15 w17:=aN.NR cq (λk e=>by omega);have z17:=dY.size;have iX:¬F15 b22:=λe=>by have:=gq.lt e;omega
       have dZ:=(n8.kp gp.kx (λg hg e=>e (.inr hg))).ext dY
       obtain⟨ha,hc,e5⟩:∃a c,v5= .slice a Q.2.length c:=by
        obtain⟨fa,fc,e,-⟩:=n8.rd.shape;exact⟨fa,fc,e⟩
       subst e5;have lR:=(gp.ex2 dY).again (X':=λk=>(Value.slice ha Q.2.length hc).ownBlock=some k\/k=b22) (gq.ext dY) lQ (λk hk hX=>by rcases hX with hX|e;exact jf k hk (.inr hX);exact iX (e▸hk));have l22:=kR.lt
       have oM:∀k,((Value.slice ha Q.2.length hc).ownBlock=some k\/k=b22)->k<w17.heap.size:=λk hk=>by
        rcases hk with e| e
        ·have:=dZ.lt e;omega
        ·omega
       have pG:=pD.len
       have Jz:(A++B++C0++OV x p.interval none Q.1).length<=400000:=by
        rw[List.length_append,List.length_append,Ry,<-Cr];split<;>simp only[List.length_cons,List.length_nil]<;>omega
       refine NU$ py$ qN O$ NT O$ Qx OA O$ NT O$ NU$ NQ$ Qm (α:=Nat) (0) (λi=>[(1,I (x:Int)),(11,ptr n11 0),(12,.func (.func 232) #[] #[ptr n11 0]),(18,.slice ha Q.2.length hc),(22,ptr b22 0),(138,.slice ha Q.2.length hc),(139,I (Q.2.length:Int)),(140,I (i:Int))]) (λi w'=>NuX w w1 w17 p b5 n11 (λk=>(Value.slice ha Q.2.length hc).ownBlock=some k\/k=b22) (A++B++C0++OV x p.interval none Q.1++OZ x p.zeta none (Q.2.take i)) w'/\i<=Q.2.length) (λi=>Q.2.length-i) ?hI ?hround
       case hI=>exact⟨by simpa[OZ] using lR,Nat.zero_le _⟩
       case hround=>
        rintro i w18 ⟨fg,hi⟩ ih
        try dsimp only
        refine qN O$ Py O O$ NU$ py$ O8 O (λe5=>?_)$ λe5=>?_
        ·have dt:i<Q.2.length:=by omega
         obtain⟨v,hv⟩:∃v,Q.2[i]? =some v:=⟨_,List.getElem?_eq_getElem dt⟩;have nh:v<65536:=pD.lt v (List.mem_of_getElem? hv);have wY:=dZ.kp fg.kx (λg hg e=>e (.inl hg))
         obtain⟨g5,c5,e6⟩:∃g c,Value.slice ha Q.2.length hc= .slice (some ⟨g,0,none⟩) Q.2.length c:=by
          rcases dZ.shape with⟨-,h0⟩|⟨g,c,e,hc⟩
          ·omega
          ·exact⟨g,c,e⟩
         cases e6;obtain⟨F18,kS,pH,ie⟩:=fg.ex;have wZ:=fg.kx.NX kR (λe=>e (.inr O));have rj:¬F18 b22:=λe=>ie b22 e (.inr O);have hg:=Ext.Ob w18;have AL:=fg.ex2 hg
         have pI:(A++B++C0++OV x p.interval none Q.1++OZ x p.zeta none (Q.2.take i)).length<=500000:=by
          rw[List.length_append,SA,List.length_take];omega
         refine An$ py$ NQ$ qN O$ NT O$ qV (P7 OA O7 O O (by omega))$ qV (OC OJ O O (Ps wY.rd (show(Q.2.map OB)[i]? =some (OB v) by rw[List.getElem?_map,hv];rfl))) ?_;refine Oc O$ Oc O$ qM O$ NT O$ Qe O O$ NU$ O8 O (λe6=>?_)$ λe6=>?_
         ·have ki:i=0:=by omega
          refine Qj (λw'=>Kp F18 w18 w') O$ Oj 0 O O (hg.kp)$ Oj 2 O O (hg.kp)$ O0 3 O (OT O OJ U2 (by omega)) (hg.kp)$ Oj 4 O O (hg.kp)$ O0 5 O (Ww O O (by omega)) (hg.kp)$ qT 1 O (λ_ h=>OE (news:=[.int .u8 3,u64v p.zeta]) RG O PY O ((h.NX wZ rj).cells (n:=2) O) O) (hg.kp)$ RW 6 O zdl O (z7j ((v:Int)-x) (by omega) _) ?_;rintro _ w19 ⟨rfl,rfl⟩;refine⟨hg.kp,?_⟩;have rk:=Yr (z:=(v:Int)-x) (n:=65537) (by omega) (by omega);refine O0 7 O (OT O Qy U3 (by omega)) (hg.kp)$ qO 8$ Vb (i:=8) O O O (R0 Y4 O O) (Sv (kS.ext hg) (by omega) (.zeta p.zeta) (zig ((v:Int)-x)) (by omega)) ?_;rintro _ w20 ⟨rfl,F20,sX,ni,sY⟩;refine⟨hg.kp.trans ni,?_⟩;have pJ:=AL.put oM pH ie l5 z1 ⟨F20,sX,ni,sY⟩;refine qE$ NS$ NW O$ P6 O O$ NT O$ NU ((ih (i+1) _ ⟨?_,by omega⟩ (by omega)).qb);rw[OY hv,Wv,<-List.append_assoc,show Q.2.take i=[] by rw[ki];rfl];rw[show Q.2.take i=[] by rw[ki];rfl] at pJ;exact pJ
         ·have ki:0<i:=by omega
          obtain⟨u,hu⟩:∃u,Q.2[i-1]? =some u:=⟨_,List.getElem?_eq_getElem (by omega)⟩
          have N4:u<v:=by
           obtain⟨a1,a2⟩:=List.getElem?_eq_some_iff.1 hu;obtain⟨b1,b2⟩:=List.getElem?_eq_some_iff.1 hv;have:=List.pairwise_iff_getElem.1 pD.YF (i-1) i a1 b1 (by omega)
           rwa [a2,b2] at this
          refine Qj (λw'=>Kp F18 w18 w') O$ Oj 0 O O (hg.kp)$ Oj 2 O O (hg.kp)$ Oj 3 O O (hg.kp)$ Oj 4 O O (hg.kp)$ qT 1 O (λ_ h=>OE (news:=[.int .u8 3,u64v p.zeta]) RG O PY O ((h.NX wZ rj).cells (n:=2) O) O) (hg.kp)$ O0 5 O (Ww O O (by omega)) (hg.kp) ?_;rw[show(i:Int)-1=((i-1:Nat):Int) by omega];refine O0 6 O (P7 OA O7 O O (by omega)) (hg.kp)$ qT 7 O (λ_ hS=>OC OJ O O (Ps (wY.kp hS (λg hg e=>ie g e (.inl hg))).rd (show(Q.2.map OB)[i-1]? =some (OB u) by rw[List.getElem?_map,hu];rfl))) (hg.kp) ?_;refine O0 8 O (UB (m:=v) (n:=u) O O O (by show v<2^32;omega) (by omega)) (hg.kp) ?_;refine O0 9 O (UB (m:=v-u) (n:=1) O O O (by show v-u<2^32;omega) (by omega)) (hg.kp) ?_;refine O0 10 O (OT O OJ U3 (by omega)) (hg.kp)$ qO 11$ Vb (i:=11) O O O (R0 Y4 O O) (Sv (kS.ext hg) (by omega) (.zeta p.zeta) (v-u-1) (by omega)) ?_;rintro _ w20 ⟨rfl,F20,sX,ni,sY⟩;refine⟨hg.kp.trans ni,?_⟩;have pJ:=AL.put oM pH ie l5 z1 ⟨F20,sX,ni,sY⟩;refine qE$ NS$ NW O$ P6 O O$ NT O$ NU ((ih (i+1) _ ⟨?_,by omega⟩ (by omega)).qb);rw[OY hv,Wv,<-List.append_assoc,List.getLast?_take,if_neg (by omega),hu];exact pJ
        ·have bX:i=Q.2.length:=by omega
         rw[bX,List.take_length] at fg;obtain⟨F,⟨vn,rh,wT⟩,pB,Cq⟩:=id fg.ex;have vw:=rh.NX
         have je:QC p x succ ref r=A++B++C0++OV x p.interval none Q.1++OZ x p.zeta none Q.2:=by
          have iU:¬Ox succ ref=[]:=λe=>e3 (by rw[e];rfl);unfold QC;rw[if_neg eE,if_neg iU,hQ,hB,<-hA,<-Cr];by_cases ki:0<p.interval
          ·simp only[if_pos ki,List.append_assoc,List.cons_append,List.nil_append]
          ·have cT:Q.1=[]:=by rw[<-hQ,show p.interval=0 by omega];exact X9 _
           rw[cT];simp only[if_neg ki,List.append_assoc,List.cons_append,List.nil_append,OV]
         refine O4 O$ qN O$ qV (O6 z0g O O vw O)$ NZ O$ NV func210 O ?_;rw[je];exact⟨_,rfl,rh.sl,λg hg=>by have:=pB g ((wT g).2 (.inr hg));omega,fg.ext⟩
      case mX=>
       refine Qm (α:=Nat) (0) (λi=>[(1,I (x:Int)),(5,ptr b5 0),(11,ptr n11 0),(12,.func (.func 232) #[] #[ptr n11 0]),(18,v5),(19,I (z4R (XK (Q.1.take i)))),(94,.slice fa Q.1.length fc),(95,I (Q.1.length:Int)),(96,I (i:Int))]) (λi w'=>NuX w w1 w13 p b5 n11 (λk=>(Value.slice fa Q.1.length fc).ownBlock=some k\/v5.ownBlock=some k) (A++B++C0++OV x p.interval none (Q.1.take i)) w'/\i<=Q.1.length) (λi=>Q.1.length-i) ?hI ?hround
       case hI=>exact⟨by simpa[OV] using pF,Nat.zero_le _⟩
       case hround =>
        rintro i w15 ⟨gp,hi⟩ ih
        try dsimp only
        refine qN O$ Py O O$ NU$ py$ O8 O (λe5=>?_)$ λe5=>?_
        ·have dt:i<Q.1.length:=by omega
         obtain⟨⟨q1,q2⟩,hq⟩:∃q,Q.1[i]? =some q:=⟨_,List.getElem?_eq_getElem dt⟩;obtain⟨ok1,ok2,ok3,-⟩:=YH Q.1 0 i (q1,q2) pE hq;dsimp only at ok1 ok2 ok3;have N5:q1+q2<=65536:=sW (q1,q2) (List.mem_of_getElem? hq) ok1;have Cs:=lO.kp gp.kx (λg hg e=>e (.inl hg))
         obtain⟨g4,c4,e4⟩:∃g c,Value.slice fa Q.1.length fc= .slice (some ⟨g,0,none⟩) Q.1.length c:=by
          rcases lO.shape with⟨-,h0⟩|⟨g,c,e,hc⟩
          ·omega
          ·exact⟨g,c,e⟩
         cases e4;obtain⟨F15,gq,lQ,jf⟩:=gp.ex;refine An$ py$ NQ$ qN O$ qV (P7 zbk z00 O O (by omega))$ qV (OE (news:=[I (q1:Int),I (q2:Int)]) zjG O z00 O (zbG Cs.rd hq) O)$ O5 O O (QU (cs:=[_,_]) z00 O) ?_;rintro _ w16 ⟨b21,rfl,JA,aN,Ct⟩;have z16:=aN.size;refine Oe O (P4 (news:=[I (q1:Int),I (q2:Int)]) z00 O O O O Ct (by simp)) ?_;rintro w17 ⟨gt,cq⟩;replace gt:O9 w17 b21 [I (q1:Int),I (q2:Int)] 350:=gt;have dY:Ext w15 w17:=aN.NR cq (λk e=>by omega);have lR:=gp.ex2 dY;have iX:¬F15 b21:=λe=>by have:=gq.lt e;omega
         have oD:¬F15 2:=λe=>by have:=lQ 2 e;have:=hG.lt;omega
         have Jz:(A++B++C0++OV x p.interval none (Q.1.take i)).length<=400000:=by
          rw[List.length_append,List.length_append,Ry,List.length_take,<-Cr];split<;>simp only[List.length_cons,List.length_nil]<;>omega
         refine NU$ py$ qN O$ NT O$ Py O O$ NU ?_;have rp:=lR.again (X':=(λk=>((Value.slice (some ⟨g4,0,none⟩) Q.1.length fc).ownBlock=some k\/v5.ownBlock=some k)\/k=b21)) (gq.ext dY) lQ (λk hk hX=>by rcases hX with hX|e;exact jf k hk hX;exact iX (e▸hk));have JB:=dY.size;have l21:=gt.lt
         have oM:∀k,(((Value.slice (some ⟨g4,0,none⟩) Q.1.length fc).ownBlock=some k\/v5.ownBlock=some k)\/k=b21)->k<w17.heap.size:=λk hk=>by
          rcases hk with e| e
          ·have:=(gN k e).2;have:=gp.kx.size;omega
          ·omega
         refine OX (λe' w'=>e'=[(1,I (x:Int)),(5,ptr b5 0),(11,ptr n11 0),(12,.func (.func 232) #[] #[ptr n11 0]),(18,v5),(21,ptr b21 0),(94,.slice (some ⟨g4,0,none⟩) Q.1.length fc),(95,I (Q.1.length:Int)),(96,I (i:Int))]/\NuX w w1 w17 p b5 n11 (λk=>((Value.slice (some ⟨g4,0,none⟩) Q.1.length fc).ownBlock=some k\/v5.ownBlock=some k)\/k=b21) (A++B++C0++OV x p.interval none (Q.1.take i)++[(.gamma,Tw x (XK (Q.1.take i)) q1)]) w') ?dg$ λdg=>?Cv
         case dg=>
          rintro e' w18 ⟨rfl,fg⟩;obtain⟨F18,kS,pH,ie⟩:=fg.ex;have x7:=fg.kx.NX gt (λe=>e (.inr O));have nj:=fg.b5;replace nj:O9 w18 b5 [I (p.Ou:Int),I (p.interval:Int),I (p.zeta:Int)] 279:=nj;refine qN O$ NT O$ qV (OE (news:=[.int .u8 1,u64v 0]) RG O PY O ((fg.ext.NX hG).cells (n:=2) O) O)$ Og z6Q O$ qV ((O6 U3 O O x7 O))$ Og Tf O$ qV ((O6 U3 O O nj O))$ Qp O O ?_;rw[show(q2:Int)-(p.interval:Int)=((q2-p.interval:Nat):Int) by omega];refine PG O O (R0 Y4 O O) (Sv kS (by rw[List.length_append,List.length_singleton];omega) .gamma (q2-p.interval) (by omega)) ?_;rintro _ w19 ⟨rfl,Cu⟩;have x8:=fg.put oM pH ie l5 z1 Cu;have rq:=x8.kx.NX gt (λe=>e (.inr O));refine NU$ NW O$ Og z2x O$ qV (O6 U3 O O rq O)$ Og z6Q O$ qV (O6 U3 O O rq O)$ P6 O O$ Qp O O$ NZ O$ NS$ NW O$ P6 O O$ NT O$ NU ?_;rw[show(q1:Int)+q2-1=z4R (XK (Q.1.take (i+1))) by rw[OY hq,z8v];show _=((q1+q2-1:Nat):Int);omega];refine(ih (i+1) _ ⟨?_,by omega⟩ (by omega)).qb;rw[OY hq,z1c,<-List.append_assoc,show [(Cd.gamma,Tw x (XK (Q.1.take i)) q1),(Cd.gamma,q2-p.interval)]=[(Cd.gamma,Tw x (XK (Q.1.take i)) q1)]++[(Cd.gamma,q2-p.interval)] from rfl,<-List.append_assoc];exact lR.back x8 (λk hk=> .inl hk)
         case Cv=>
          have hg:=Ext.Ob w17;have AL:=rp.ex2 hg
          cases hE:XK (Q.1.take i) with
          | none =>
            refine O8 O (λe6=>?_)$ λe6=>?_
            ·refine Qj (λw'=>Kp F15 w17 w') O$ Oj 0 O O (hg.kp)$ O0 2 O (OG z2x O) (hg.kp)$ qT 3 O (λ_ h=>O6 U3 O O (h.NX gt iX) O) (hg.kp)$ Oj 4 O O (hg.kp)$ O0 5 O (Ww O O (by omega)) (hg.kp)$ qT 1 O (λ_ hS=>OE (news:=[.int .u8 1,u64v 0]) RG O PY O ((hS.NX (lR.ext.NX hG) oD).cells (n:=2) O) O) (hg.kp)$ RW 6 O zdl O (z7j ((q1:Int)-x) (by omega) _) ?_;rintro _ w18 ⟨rfl,rfl⟩;refine⟨hg.kp,?_⟩;have rk:=Yr (z:=(q1:Int)-x) (n:=65537) (by omega) (by omega);refine O0 7 O (OT O Qy U3 (by omega)) (hg.kp)$ qO 8$ Vb (i:=8) O O O (R0 Y4 O O) (Sv ((gq.ext dY).ext hg) (by omega) .gamma (zig ((q1:Int)-x)) (by omega)) ?_;rintro _ w19 ⟨rfl,F19,Cw,x9,Cy⟩;refine⟨hg.kp.trans x9,?_⟩;refine qE ?_;exact(dg _ _ ⟨rfl,by rw[hE];exact AL.put oM lQ (λk hk hX=>by rcases hX with hX|e;exact jf k hk hX;exact iX (e▸hk)) l5 z1 ⟨F19,Cw,x9,Cy⟩⟩).qb
            ·exact absurd (by decide) e6
          | some z =>
            refine O8 O (λe6=>?_)$ λe6=>?_
            ·exact absurd e6 (by show ¬((z:Int)<0);omega)
            ·have hz:=ok3 z hE;refine NW O$ NT O$ qV (OE (news:=[.int .u8 1,u64v 0]) RG O PY O ((lR.ext.NX hG).cells (n:=2) O) O) ?_;rw[show z4R (some z)=(z:Int) from rfl];refine Og z2x O$ qV (O6 U3 O O gt O)$ NT O$ Qp O O$ Qp O O ?_;rw[show(q1:Int)-z-2=((q1-z-2:Nat):Int) by omega];refine PG O O (R0 Y4 O O) (Sv (gq.ext dY) (by omega) .gamma (q1-z-2) (by omega)) ?_;rintro _ w18 ⟨rfl,Cz⟩;refine NU ?_;exact(dg _ _ ⟨rfl,by rw[hE];exact rp.put oM lQ (λk hk hX=>by rcases hX with hX|e;exact jf k hk hX;exact iX (e▸hk)) l5 z1 Cz⟩).qb
        ·have bX:i=Q.1.length:=by omega
         rw[bX,List.take_length] at gp;refine O4 O ?_;exact(mV _ _ ⟨rfl,gp⟩).qb
     case dW=>
      refine O8 O (λe4=>?_)$ λe4=>?_
      ·have ki:0<p.interval:=by omega
       obtain⟨F13,nl,sZ,nn⟩:=lP.ex;refine NW O$ NT O$ qV (OE (news:=[.int .u8 1,u64v 0]) RG O PY O ((lP.ext.NX hG).cells (n:=2) O) O)$ NT O$ Qx zbk O$ PG O O (R0 Y4 O O) (Sv nl (by omega) .gamma Q.1.length (by omega)) ?_;rintro _ w14 ⟨rfl,t8⟩;refine NU$ OD.qb (e:=[(1,_),(5,_),(11,_),(12,_),(17,_),(18,_)]) ?_;exact(av _ _ ⟨rfl,by rw[if_pos ki];exact lP.put (λk hk=>(gN k hk).2) sZ nn l5 z1 t8⟩).qb
      ·have ki:¬0<p.interval:=by omega
       refine An ?_;exact(av _ _ ⟨rfl,by rw[if_neg ki,List.append_nil];exact lP⟩).qb
   case fU =>
    refine O8 O (λe2=>?_)$ λe2=>?_
    ·have ta : 0 < r := by omega
     have pK:=Se succ ref;rw[if_pos ta] at dV
     generalize Qk succ ref=rs at pK pz dV
     obtain⟨l,m,rfl⟩:∃l m,rs=l++[m]:=⟨rs.dropLast,rs.getLast pK.ne,(List.dropLast_concat_getLast pK.ne).symm⟩;have tc:(l++[m]).length=l.length+1:=by simp
     have fJ:l.length<=65537:=by have h1:=pK.z0S;rw[List.length_map,tc] at h1;omega
     rw[List.dropLast_concat,tc,Nat.add_sub_cancel] at dV;obtain⟨vr,AM,Hz⟩:=id pz;rw[tc] at AM;rcases AM.sl.shape with⟨-,h0⟩|⟨g,c1,rfl,du⟩
     ·omega
     have HA:=AM.NX;obtain⟨F,wU,hf,JC⟩:=pA.ex;refine qN O$ NT O$ qV (OE (news:=[.int .u8 1,u64v 0]) RG O PY O ((pA.ext.NX hG).cells (n:=2) O) O)$ qV (O6 Qt O O HA O)$ Qx Qt O$ Qp O O ?_;rw[show((l.length+1:Nat):Int)-1=(l.length:Int) by omega];refine PG O O (R0 Y4 O O) (Sv wU (by omega) .gamma l.length (by omega)) ?_;rintro _ w12 ⟨rfl,CA⟩;have iz:=pA.put wR hf JC l5 z1 CA;have HB:=pz.kp iz.kx (λk hk e=>e (.inr hk));have rt:=iz.kx.NX HA (λe=>e (.inr ((Hz rn).2 (.inl O))));refine qM O$ qV (O6 Qt O O rt O) ?_;rw[show((l.length+1:Nat):Int)=((l.length+1:Nat):Int) from rfl];refine qV (O6 Qt O O rt O)$ Qx Qt O$ Qp O O ?_;rw[show((l.length+1:Nat):Int)-1=(l.length:Int) by omega];refine qV (zaF Qt Pb O O (by omega))$ Qx Qt O$ NT O$ NU$ OD.qb (e:=[(1,_),(5,_),(11,_),(12,_),(14,_),(60,_),(61,_),(62,_)]) ?_;refine NQ$ Qm (α:=Nat) (0) (λi=>[(1,I (x:Int)),(5,ptr b5 0),(11,ptr n11 0),(12,.func (.func 232) #[] #[ptr n11 0]),(14,ptr lf 0),(60,.slice (some ⟨g,0,none⟩) l.length c1),(61,I (l.length:Int)),(62,I (i:Int))]) (λi w'=>NuX w w1 w11 p b5 n11 (λk=>FL k\/FR k) (A++(Cd.gamma,l.length)::Px 0 (l.take i)) w'/\i<=l.length) (λi=>l.length-i) ?hI ?hround
     case hI=>exact⟨iz,Nat.zero_le _⟩
     case hround =>
      rintro i w13 ⟨lS,hi⟩ ih
      try dsimp only
      refine qN O$ Py O O$ NU$ py$ O8 O (λe3=>?_)$ λe3=>?_
      ·have dt:i<l.length:=by omega
       obtain⟨F13,nl,sZ,nn⟩:=lS.ex;have te:=AM.sl.kp lS.kx (λg2 hg e=>e (.inr ((Hz g2).2 (.inr hg))));have iq:(l++[m])[i]? =some l[i]:=by rw[List.getElem?_append_left dt,List.getElem?_eq_getElem dt]
       have ir:min i 1<=l[i]:=by
        rcases Nat.eq_zero_or_pos i with e| e
        ·omega
        ·have h1:=pK.pos l[i] (by
          rw[List.mem_iff_getElem?];refine⟨i-1,?_⟩
          rw[List.getElem?_drop,show 1+(i-1)=i by omega];exact iq)
         omega
       have iU:l[i]<=65536:=by
        have h1:=pK.le l[i] (List.mem_append_left _ (List.getElem_mem dt));rw[List.length_map] at h1;omega
       refine An$ py$ NQ$ qN O$ NT O$ qV (P7 Qt Pb O O (by omega))$ qV (OC U3 O O (Ps te.rd (show((l++[m]).map z5s)[i]? =some (z5s l[i]) by rw[List.getElem?_map,iq];rfl))) ?_;refine Oc O$ NZ O$ NW O$ NT O$ qV (OE (news:=[.int .u8 1,u64v 0]) RG O PY O ((lS.ext.NX hG).cells (n:=2) O) O)$ Od O O$ qV (ymi O O)$ Qp O O ?_;rw[show(l[i]:Int)-min (i:Int) 1=((l[i]-min i 1:Nat):Int) by omega];refine PG O O (R0 Y4 O O) (Sv nl (by have h1:(Px 0 (l.take i)).length=i:=(by rw[Sd,List.length_take];omega);rw[List.length_append,List.length_cons];omega) .gamma (l[i]-min i 1) (by omega)) ?_;rintro _ w14 ⟨rfl,t8⟩;have CB:=lS.put wR sZ nn l5 z1 t8;refine NU$ NS$ NW O$ P6 O O$ NT O$ NU ((ih (i+1) _ ⟨?_,by omega⟩ (by omega)).qb);rw[List.take_succ,List.getElem?_eq_getElem dt,Option.toList_some,Xn,List.length_take,Nat.min_eq_left hi,Nat.zero_add,<-List.cons_append,<-List.append_assoc];exact CB
      ·have bX:i=l.length:=by omega
       subst bX;rw[List.take_length] at lS;refine O4 O ?_;exact(dV _ _ ⟨rfl,lS⟩).qb
    ·have ta:¬0<r:=by omega
     refine An ?_;exact(dV _ _ ⟨rfl,by rw[if_neg ta,List.append_nil];exact pA⟩).qb
  case cR=>
   refine O8 O (λe1=>?_)$ λe1=>?_
   ·have mP:0<p.Ou:=by omega
    obtain⟨F,wU,hf⟩:=vt.ex;refine NW O$ NT O$ qV (OE (news:=[.int .u8 0,u64v 0]) RG O PY O ((vt.ext.NX hU).cells (n:=2) O) O)$ NT O$ PG O O (R0 Y4 O O) (Sv wU (by simp) .unary r (by omega)) ?_;rintro _ w5 ⟨rfl,tf⟩;refine NU$ OD.qb (e:=[(1,_),(2,_),(3,_),(4,_),(5,_),(10,_),(11,_),(12,_)]) ?_;exact(cF _ _ ⟨rfl,by rw[if_pos mP];exact vt.put hf l5 z1 tf⟩).qb
   ·have mP:¬0<p.Ou:=by omega
    refine An ?_;exact(cF _ _ ⟨rfl,by rw[if_neg mP];exact vt⟩).qb
/-! ### The numbers can be encoded -/
def Wx (k:Nat)(q:Cd×Nat):Prop:=(q.1= .unary/\q.2<=16)\/(q.1= .gamma/\q.2<=200000)\/(q.1= .zeta k/\q.2<=200000)
theorem ZP (k:Nat):∀(l:List Nat) (i:Nat),(∀n∈l,n<=65536)->∀q∈Px i l,Wx k q
 |[],i,h,q,hq=>by cases hq
 | n :: l, i, h, q, hq => by
   rw[Px] at hq;rcases List.mem_cons.1 hq with e|hq
   ·subst e;have:=h n List.mem_cons_self;exact .inr (.inl ⟨rfl,by dsimp only;omega⟩)
   ·exact ZP k l (i+1) (λn hn=>h n (List.mem_cons_of_mem _ hn)) q hq
theorem Z3 (k x least:Nat)(hx:x<65536):∀(R:List (Nat×Nat)) (e:Option Nat),(∀q∈R,q.1+q.2<=65536)->∀q∈OV x least e R,Wx k q
 |[],e,h,q,hq=>by cases e<;>cases hq
 | p :: R, e, h, q, hq => by
   have hp:=h p List.mem_cons_self;rw[QS] at hq;rcases List.mem_cons.1 hq with e1|hq
   ·subst e1;refine .inr (.inl ⟨rfl,?_⟩)
    cases e with
    |none=>have:=Yr (z:=(p.1:Int)-x) (n:=65537) (by omega) (by omega);show zig _<=_;omega
    |some z=>show p.1-z-2<=_;omega
   ·rcases List.mem_cons.1 hq with e1|hq
    ·subst e1;exact .inr (.inl ⟨rfl,by dsimp only;omega⟩)
    ·exact Z3 k x least hx R _ (λq hq=>h q (List.mem_cons_of_mem _ hq)) q hq
theorem YU (k x:Nat)(hx:x<65536):∀(l:List Nat) (e:Option Nat),(∀n∈l,n<65536)->∀q∈OZ x k e l,Wx k q
 |[],e,h,q,hq=>by cases e<;>cases hq
 | v :: l, e, h, q, hq => by
   have hv:=h v List.mem_cons_self;rw[RU] at hq;rcases List.mem_cons.1 hq with e1|hq
   ·subst e1;refine .inr (.inr ⟨rfl,?_⟩)
    cases e with
    |none=>have:=Yr (z:=(v:Int)-x) (n:=65537) (by omega) (by omega);show zig _<=_;omega
    |some u=>show v-u-1<=_;omega
   ·exact YU k x hx l _ (λn hn=>h n (List.mem_cons_of_mem _ hn)) q hq
theorem z3D {least:Nat}{l:List Nat}(h:OQ l):(P8 least l).1.length<=65536:=by
 have h1:=(SR least l).length_eq
 rw[List.length_append] at h1
 have h4:∀(R:List (Nat×Nat)) (lo:Nat),S4 least lo R->R.length<=(Qa R).length:=by
  intro R
  induction R with
  |nil=>intro lo h;exact Nat.le_refl _
  | cons q R ih =>
    intro lo h;have h5:=ih _ h.2.2.2;have h6:1<=q.2:=h.2.1;rw[show Qa (q::R)=(List.range q.2).map (q.1+·)++Qa R from rfl,List.length_append,List.length_map,List.length_range,List.length_cons];omega
 have h5:=h4 _ 0 (TU least l 0 h.YF (λy _=>Nat.zero_le _))
 have:=h.len
 omega
theorem z7h {least:Nat}{l:List Nat}(h:OQ l):∀q∈(P8 least l).1,1<=q.2/\q.1+q.2<=65536:=λq hq=>by
 obtain⟨i,hi⟩:=List.mem_iff_getElem?.1 hq
 have h1:=(YH _ 0 i q (TU least l 0 h.YF (λy _=>Nat.zero_le _)) hi).1
 exact⟨h1,z9Y h.lt hq h1⟩
theorem Zh {p:Rf}(hp:p.PI){x:Nat}(hx:x<65536){succ ref:List Nat}(hs:OQ succ)(hr:OQ ref){r:Nat}(jd:r<=p.Ou):∀q∈QC p x succ ref r,Wx p.zeta q:=by
 obtain⟨g1,g2,g3,g4⟩:=id hp
 have ay:OQ (Ox succ ref):=hs.sub List.filter_sublist
 intro q hq
 unfold QC at hq
 have fL:=hs.len
 rcases List.mem_cons.1 hq with e|hq
 ·subst e;exact .inr (.inl ⟨rfl,by dsimp only;omega⟩)
 split at hq
 ·cases hq
 rcases List.mem_append.1 hq with hq|hq
 ·split at hq
  ·rcases List.mem_singleton.1 hq with e;subst e;exact .inl ⟨rfl,by dsimp only;omega⟩
  ·cases hq
 rcases List.mem_append.1 hq with hq|hq
 ·have pK:=Se succ ref;have hl:=pK.z0S;have ia:=hr.len;rw[List.length_map] at hl;split at hq
  ·rcases List.mem_cons.1 hq with e|hq
   ·subst e;exact .inr (.inl ⟨rfl,by dsimp only;omega⟩)
   ·refine ZP _ _ _ (λn hn=>?_) q hq;have:=pK.le n (List.dropLast_subset _ hn);rw[List.length_map] at this;omega
  ·cases hq
 split at hq
 ·cases hq
 rcases List.mem_append.1 hq with hq|hq
 ·split at hq
  ·rcases List.mem_cons.1 hq with e|hq
   ·subst e;have:=z3D (least:=p.interval) ay;exact .inr (.inl ⟨rfl,by dsimp only;omega⟩)
   ·exact Z3 _ _ _ hx _ _ (λq hq=>(z7h ay q hq).2) q hq
  ·cases hq
 ·exact YU _ _ hx _ _ (λn hn=>ay.lt n ((Ts p.interval _).subset hn)) q hq
theorem z5r (succ ref:List Nat)(hr:OQ ref):(Qk succ ref).length<=65537:=by
 have hl:=(Se succ ref).z0S
 rw[List.length_map] at hl
 have:=hr.len
 omega
theorem z2Z {p:Rf}{x:Nat}{succ ref:List Nat}(hs:OQ succ)(hr:OQ ref){r:Nat}:(QC p x succ ref r).length<=500000:=by
 have ay:OQ (Ox succ ref):=hs.sub List.filter_sublist
 have h1:=z5r succ ref hr
 have h2:=z3D (least:=p.interval) ay
 have h3:=(ay.sub (Ts p.interval (Ox succ ref))).len
 unfold QC
 rw[List.length_cons]
 split
 ·simp
 rw[List.length_append,List.length_append]
 have e1:(if 0<p.Ou then [(Cd.unary,r)] else []).length<=1:=by split<;>simp
 have e2:(if 0<r then(Cd.gamma,(Qk succ ref).length-1)::Px 0 (Qk succ ref).dropLast else []).length<=65537:=by
  split
  ·rw[List.length_cons,Sd,List.length_dropLast];omega
  ·simp
 have e3:(if Ox succ ref=[] then [] else(if 0<p.interval then(Cd.gamma,(P8 p.interval (Ox succ ref)).1.length)::OV x p.interval none (P8 p.interval (Ox succ ref)).1 else [])++OZ x p.zeta none (P8 p.interval (Ox succ ref)).2).length<=200000:=by
  split
  ·simp
  ·rw[List.length_append,SA];split
   ·rw[List.length_cons,Ry];omega
   ·simp;omega
 omega
theorem Wx.PI {k:Nat}{q:Cd×Nat}(h:Wx k q)(hk:1<=k/\k<=16):q.1.PI/\q.2<=q.1.most:=by
 rcases h with⟨e,h⟩|⟨e,h⟩|⟨e,h⟩
 ·rw[e];exact⟨trivial,by simp only[Cd.most];omega⟩
 ·rw[e];exact⟨trivial,by simp only[Cd.most];omega⟩
 ·rw[e];exact⟨hk,by simp only[Cd.most];omega⟩
theorem z2y {c:Cd}{v:Nat}(hc:c.PI)(hv:v<=c.most):(c.enc v).length<=65600:=by
 obtain⟨q1,q2,-⟩:=Wa hc hv
 rw[Wc];omega
theorem zao {L:List (Cd×Nat)}(h:∀q∈L,q.1.PI/\q.2<=q.1.most):(Oq L).length<=65600*L.length:=by
 induction L with
 |nil=>simp[Oq]
 | cons q L ih =>
   have h1:=ih (λq hq=>h q (List.mem_cons_of_mem _ hq));obtain⟨h2,h3⟩:=h q List.mem_cons_self;have h4:=z2y h2 h3;obtain⟨c,v⟩:=q;rw[Pm,List.length_append,List.length_cons];dsimp only at h4⊢;omega
theorem RD (a b:List (Cd×Nat)):Oq (a++b)=Oq a++Oq b:=List.flatMap_append
theorem WU (l:List (Cd×Nat))(q:Cd×Nat):Oq (l++[q])=Oq l++q.1.enc q.2:=by
 rw[RD];simp[Oq]
/-! ### An element of a slice of structs -/
theorem z0I {α:Type}{f:α->List Value}{k:Nat}(hk:∀a,(f a).length=k){w:World}{b off n cap i:Nat}{R:List α}{q:α}(h:Rd w (.slice (some ⟨b,off,none⟩) n cap) k n (R.flatMap f))(hq:R[i]? =some q):∀j u,(f q)[j]? =some u->w.cell? ⟨b,off+i*k+j,none⟩=some u:=by
 intro j u hj
 have kM:j<k:=by have:=(List.getElem?_eq_some_iff.1 hj).1;rwa [hk] at this
 have key : ∀ (R : List α) (i : Nat), R[i]? = some q -> (R.flatMap f)[i * k + j]? = some u := by
  intro R
  induction R with
  |nil=>intro i h;simp at h
  | cons a R ih =>
    intro i h;rw[List.flatMap_cons]
    cases i with
    | zero =>
      rw[List.getElem?_cons_zero] at h;cases h;rw[List.getElem?_append_left (by rw[hk];omega),Nat.zero_mul,Nat.zero_add]
      exact hj
    | succ i =>
      rw[List.getElem?_append_right (by rw[hk,Nat.add_mul];omega),hk,show(i+1)*k+j-k=i*k+j by rw[Nat.add_mul];omega];exact ih i h
 have kP:=key R i hq
 have aZ:=(List.getElem?_eq_some_iff.1 kP).1
 rcases h.2 with⟨c,hc,h0⟩|⟨b',off',cap',e,hc⟩
 ·rw[h.1,h0,Nat.zero_mul] at aZ;omega
 ·cases e;have:=hc (i*k+j) u kP;rw[show off+i*k+j=off+(i*k+j) by omega];exact this
theorem z3B (q:Cd×Nat):(z5n q).length=3:=by
 obtain⟨c,v⟩:=q
 cases c<;>rfl
theorem Uq {w:World}(p:Rf)(hp:p.PI)(x:Nat)(hx:x<65536){sa ra:Option Addr}{sc rc:Nat}(succ ref:List Nat)(hs:OQ succ)(hr:OQ ref)(r:Nat)(jd:r<=p.Ou)(lC:r=0->ref=[])
  (hG:O9 w 2 (RB .gamma) 317) (hU:O9 w 3 (RB .unary) 317) (dL:Rd w (.slice sa succ.length sc) 1 succ.length (succ.map OB)) (mu:Rd w (.slice ra ref.length rc) 1 ref.length (ref.map OB)) (fP:succ.length<=sc) (jG:ref.length<=rc):
  Oy prog 171 [I (x:Int),.slice sa succ.length sc,.slice ra ref.length rc,I (r:Int),lpV p] w λu w'=>u= .tuple #[I ((Oq (QC p x succ ref r)).length:Int),I 0]/\Ext w w':=by
 obtain⟨g1,g2,g3,g4⟩:=id hp
 have ay:=λq hq=>(Zh hp hx hs hr jd q hq).PI ⟨g3,g4⟩
 have fJ:=z2Z (p:=p) (x:=x) (r:=r) hs hr
 refine NP (e:=[(0,_),(1,_),(2,_),(3,_),(4,_)]) func171 O ntmps171 O O$ qN O$ O5 O O (Qr O (cs:=Z9 p) O) ?_
 rintro _ w1 ⟨b9,rfl,oF,ad,cL⟩
 replace cL:O9 w1 b9 [I (p.Ou:Int),I (p.interval:Int),I (p.zeta:Int)] 279:=cL
 refine Oc O$ NZ O$ py$ qN O$ qV (OE (news:=Z9 p) YG O Ta O (cL.cells (n:=3) O) O)$ Od O O$ Od O O$ Om zgM O (zay p hp x hx _ _ succ ref r hs hr jd lC w1 (dL.ext ad) (mu.ext ad)) ?_
 rintro _ w2 ⟨rfl,ae⟩
 refine qV ((Rn O))$ NU$ It O$ An$ qN O$ NZ O$ py$ qN O$ qV (OE (news:=Z9 p) YG O Ta O ((ae.NX cL).cells (n:=3) O) O) ?_
 have aB:=ad.trans ae
 refine Od O O$ Od O O$ Om zea O (Y2 p hp x hx succ ref hs hr r jd lC (aB.NX hG) (aB.NX hU) (dL.ext aB) (mu.ext aB) fP jG) ?_
 rintro v w3 ⟨cj,nq,ah⟩
 have ba:=aB.trans ah
 generalize QC p x succ ref r=L at ay fJ cj
 obtain⟨va,vc,rfl,-⟩:=cj.rd.shape
 refine Qx z0g O$ NT O$ NU$ NQ$ Qm (α:=Nat) (0) (λi=>[(12,I ((Oq (L.take i)).length:Int)),(29,.slice va L.length vc),(30,I (L.length:Int)),(31,I (i:Int))]) (λi w'=>Ext w3 w'/\i<=L.length) (λi=>L.length-i) ?hI ?hround
 case hI=>exact⟨Ext.refl _,Nat.zero_le _⟩
 case hround=>
  rintro i w4 ⟨az,hi⟩ ih
  try dsimp only
  refine qN O$ Py O O$ NU$ py$ O8 O (λh0=>?_)$ λh0=>?_
  ·have dt:i<L.length:=by omega
   obtain⟨⟨c,v⟩,hq⟩:∃q,L[i]? =some q:=⟨_,List.getElem?_eq_getElem dt⟩;obtain⟨vy,mD⟩:=ay _ (List.mem_of_getElem? hq);dsimp only at vy mD
   obtain⟨g,c5,e4⟩:∃g c,Value.slice va L.length vc= .slice (some ⟨g,0,none⟩) L.length c:=by
    rcases cj.shape with⟨-,h0⟩|⟨g,c,e,hc⟩
    ·omega
    ·exact⟨g,c,e⟩
   cases e4;have kj:=z0I z3B (cj.ext az).rd hq;obtain⟨y,z,th⟩:∃y z,RB c=[y,z]:=by cases c<;>exact⟨_,_,rfl⟩
   have mN:cdV c= .agg [y,z].toArray:=by rw[cdV,th]
   have jz:z5n (c,v)=[y,z,u64v v]:=by show RB c++_=_;rw[th];rfl
   rw[jz] at kj;have cQ:=z3Y c v vy mD;rw[mN] at cQ;have xa:oneV y=true/\oneV z=true:=by cases c<;>(cases th;exact⟨rfl,rfl⟩)
   have fu:=zao (L:=L.take i) (λq hq=>ay q (List.mem_of_mem_take hq));rw[List.length_take] at fu;have oy:=z2y vy mD;refine An$ py$ NQ$ qN O$ qV (P7 z0g Ur O O (by omega))$ qV (OE (news:=[y,z,u64v v]) zgq O Ur O kj O)$ O5 O O (QU (cs:=[_,_,_]) Ur O) ?_;rintro _ w5 ⟨b14,rfl,nr,aR,de⟩;refine Oe O (P4 (news:=[y,z,u64v v]) Ur O O (by simp[xa.1,xa.2];rfl) O de (by simp)) ?_;rintro w6 ⟨eF,aP⟩;replace eF:O9 w6 b14 [y,z,u64v v] 319:=eF;have z5:=aR.size;have aH:Ext w4 w6:=aR.NR aP (λk e=>by omega);refine qM O$ Og z6v O$ qV (OE (news:=[y,z]) RG O PY O (eF.cells (n:=2) O) O)$ Og z6F O$ qV (O6 Qy O O eF O)$ Om zdH O (cQ w6) ?_;rintro _ w7 ⟨rfl,bV⟩;refine NT O$ P9 O O$ P9 O O$ Oc O$ NZ O$ NW O$ Od O O$ P6 O O$ NZ O$ NS$ NW O$ P6 O O$ NT O$ NU ?_;rw[show((Oq (L.take i)).length:Int)+((c.enc v).length:Int)=((Oq (L.take (i+1))).length:Int) by rw[OY hq,WU,List.length_append];dsimp only;omega];exact(ih (i+1) _ ⟨(az.trans aH).trans bV,by omega⟩ (by omega)).qb
  ·have bX:i=L.length:=by omega
   rw[bX,List.take_length];refine O4 O$ qN O$ NT O$ Oc O$ NZ O$ NV func171 O ?_;exact⟨_,rfl,rfl,ba.trans az⟩
theorem YM {w:World}{wp:Nat}{bs:List Bool}{F:Nat->Prop}(h:XI w wp bs F)(p:Rf)(hp:p.PI)(x:Nat)(hx:x<65536){sa ra:Option Addr}{sc rc:Nat}(succ ref:List Nat)(hs:OQ succ)(hr:OQ ref)(r:Nat)(jd:r<=p.Ou)(lC:r=0->ref=[])
  (hG:O9 w 2 (RB .gamma) 317) (hU:O9 w 3 (RB .unary) 317) (dL:Rd w (.slice sa succ.length sc) 1 succ.length (succ.map OB)) (mu:Rd w (.slice ra ref.length rc) 1 ref.length (ref.map OB)) (fP:succ.length<=sc) (jG:ref.length<=rc)
  (hl:bs.length+(Oq (QC p x succ ref r)).length<=134217728):
  Oy prog 175 [ptr wp 0,I (x:Int),.slice sa succ.length sc,.slice ra ref.length rc,I (r:Int),lpV p] w λu w'=>u=I 0/\WrR wp F w w' (bs++Oq (QC p x succ ref r)):=by
 obtain⟨g1,g2,g3,g4⟩:=id hp
 have ay:=λq hq=>(Zh hp hx hs hr jd q hq).PI ⟨g3,g4⟩
 have fJ:=z2Z (p:=p) (x:=x) (r:=r) hs hr
 refine NP (e:=[(0,_),(1,_),(2,_),(3,_),(4,_),(5,_)]) func175 O ntmps175 O O$ qN O$ O5 O O (Qr O (cs:=Z9 p) O) ?_
 rintro _ w1 ⟨b9,rfl,oF,ad,cL⟩
 replace cL:O9 w1 b9 [I (p.Ou:Int),I (p.interval:Int),I (p.zeta:Int)] 279:=cL
 refine NZ O$ py$ qN O$ NT O$ qV (Pt z2M O O)$ NU$ It O$ An$ qN O$ Od O O$ Od O O$ qV (OE (news:=Z9 p) YG O Ta O (cL.cells (n:=3) O) O)$ Om z3Q O (Uq p hp x hx succ ref hs hr r jd lC (ad.NX hG) (ad.NX hU) (dL.ext ad) (mu.ext ad) fP jG) ?_
 rintro _ w2 ⟨rfl,ae⟩
 have aB:=ad.trans ae
 have h2:=h.ext aB
 refine NT O$ P9 O O$ P9 O O$ Oc O$ NZ O$ py$ NQ$ qN O$ NT O$ Pz O O$ NZ O$ It O$ qN O$ Od O O ?_
 refine Om z1K O (Uu h2) ?_
 rintro _ w2 ⟨rfl,rfl⟩
 refine Qp O O$ PD O O$ NZ O$ OD.qb (e:=[(0,_),(1,_),(2,_),(3,_),(4,_),(11,_),(12,_),(32,_)]) ?_
 refine O8 O (λe0=>?_)$ λe0=>?_
 ·omega
 ·refine An$ NS$ py$ qN O$ qV (OE (news:=Z9 p) YG O Ta O ((ae.NX cL).cells (n:=3) O) O)$ Od O O$ Od O O$ Om zea O (Y2 p hp x hx succ ref hs hr r jd lC (aB.NX hG) (aB.NX hU) (dL.ext aB) (mu.ext aB) fP jG) ?_;rintro v w3 ⟨cj,nq,ah⟩;have ba:=aB.trans ah;have h3:=h.ext ba;have z12:=aB.size;have z3:=ah.size;have jR:∀k,F k->k<w.heap.size:=λk hk=>h.lt hk
  generalize QC p x succ ref r=L at ay fJ cj hl
  obtain⟨va,vc,rfl,-⟩:=cj.rd.shape;refine Qx z0g O$ NT O$ NU$ NQ$ Qm (α:=Nat) (0) (λi=>[(0,ptr wp 0),(43,.slice va L.length vc),(44,I (L.length:Int)),(45,I (i:Int))]) (λi w'=>WrR wp F w3 w' (bs++Oq (L.take i))/\i<=L.length) (λi=>L.length-i) ?hI ?hround
  case hI=>exact⟨⟨F,by simpa[Oq] using h3,Kp.refl _ _,λk hk=> .inl hk⟩,Nat.zero_le _⟩
  case hround=>
   rintro i w4 ⟨⟨F4,lT,ao,pC⟩,hi⟩ ih
   try dsimp only
   refine qN O$ Py O O$ NU$ py$ O8 O (λh0=>?_)$ λh0=>?_
   ·have dt:i<L.length:=by omega
    obtain⟨⟨c,v⟩,hq⟩:∃q,L[i]? =some q:=⟨_,List.getElem?_eq_getElem dt⟩;obtain⟨vy,mD⟩:=ay _ (List.mem_of_getElem? hq);dsimp only at vy mD
    obtain⟨g,c5,e4⟩:∃g c,Value.slice va L.length vc= .slice (some ⟨g,0,none⟩) L.length c:=by
     rcases cj.shape with⟨-,h0⟩|⟨g,c,e,hc⟩
     ·omega
     ·exact⟨g,c,e⟩
    cases e4;have dl:=cj.kp ao (λg hg e=>by have:=nq g hg;have:=jR g e;omega);have kj:=z0I z3B dl.rd hq;obtain⟨y,z,th⟩:∃y z,RB c=[y,z]:=by cases c<;>exact⟨_,_,rfl⟩
    have mN:cdV c= .agg [y,z].toArray:=by rw[cdV,th]
    have jz:z5n (c,v)=[y,z,u64v v]:=by show RB c++_=_;rw[th];rfl
    rw[jz] at kj;have xa:oneV y=true/\oneV z=true:=by cases c<;>(cases th;exact⟨rfl,rfl⟩)
    refine An$ py$ NQ$ qN O$ qV (P7 z0g Ur O O (by omega))$ qV (OE (news:=[y,z,u64v v]) zgq O Ur O kj O)$ O5 O O (QU (cs:=[_,_,_]) Ur O) ?_;rintro _ w5 ⟨b14,rfl,nr,aR,de⟩;refine Oe O (P4 (news:=[y,z,u64v v]) Ur O O (by simp[xa.1,xa.2];rfl) O de (by simp)) ?_;rintro w6 ⟨eF,aP⟩;replace eF:O9 w6 b14 [y,z,u64v v] 319:=eF;have z5:=aR.size;have aH:Ext w4 w6:=aR.NR aP (λk e=>by omega);have z6:=aH.size;have z4:=ao.size
    have iU:(bs++Oq (L.take i)).length+(c.enc v).length<=134217728:=by
     have e1:(Oq L).length=(Oq (L.take i)).length+(c.enc v).length+(Oq (L.drop (i+1))).length:=by
      conv=>lhs;rw[<-List.take_append_drop (i+1) L,RD,OY hq,WU]
      rw[List.length_append,List.length_append]
     rw[List.length_append];omega
    have kT:=zaA (lT.ext aH) c v vy mD iU;rw[mN] at kT;refine NU$ NW O$ NT O$ Og z6v O$ qV (OE (news:=[y,z]) RG O PY O (eF.cells (n:=2) O) O)$ Og z6F O$ qV (O6 Qy O O eF O)$ Om zhO O (kT) ?_;rintro _ w7 ⟨rfl,F7,oA,aD,lA⟩;refine NU$ NS$ NW O$ P6 O O$ NT O$ NU ((ih (i+1) _ ⟨⟨F7,?_,(ao.trans aH.kp).NR aD (λk hk=>(pC k hk).symm),λk hk=>?_⟩,by omega⟩ (by omega)).qb)
    ·rw[OY hq,WU,<-List.append_assoc];exact oA
    ·rcases lA k hk with e| e
     ·exact pC k e
     ·exact .inr (by omega)
   ·have bX:i=L.length:=by omega
    rw[bX,List.take_length] at lT;refine O4 O$ qN O$ NZ O$ NV func175 O ?_;exact⟨_,rfl,rfl,F4,lT,ba.kp.trans ao,λk hk=>by rcases pC k hk with e|e;exact .inl e;exact .inr (by omega)⟩
def WB (succ ref:List Nat)(r:Nat):List (Cd×Nat):=if 0<r then(.gamma,(Qk succ ref).length-1)::Px 0 (Qk succ ref).dropLast else []
def z7n (p:Rf)(x:Nat)(succ ref:List Nat):List (Cd×Nat):=
 if Ox succ ref=[] then [] else(if 0<p.interval then(.gamma,(P8 p.interval (Ox succ ref)).1.length)::OV x p.interval none (P8 p.interval (Ox succ ref)).1 else [])++OZ x p.zeta none (P8 p.interval (Ox succ ref)).2
def TJ (p:Rf)(x:Nat)(succ ref:List Nat)(r:Nat):List (Cd×Nat):=WB succ ref r++z7n p x succ ref
theorem z0R (p:Rf)(x:Nat){succ ref:List Nat}(r:Nat)(hs:succ≠[]):QC p x succ ref r=PK p succ.length r++TJ p x succ ref r:=by
 unfold QC PK TJ WB z7n
 rw[if_neg hs,if_neg (λe=>hs (List.eq_nil_of_length_eq_zero e)),List.cons_append]
def z7d (p:Rf)(x:Nat)(l:List Nat):List (Cd×Nat):=if 0<p.interval/\l≠[] then(.gamma,(P8 p.interval l).1.length)::OV x p.interval none (P8 p.interval l).1 else []
theorem z4B (p:Rf)(x:Nat)(succ ref:List Nat):z7n p x succ ref=z7d p x (Ox succ ref)++OZ x p.zeta none (P8 p.interval (Ox succ ref)).2:=by
 unfold z7n z7d
 by_cases e:Ox succ ref=[]
 ·rw[if_pos e,if_neg (λh=>h.2 e),e,P8];rfl
 ·rw[if_neg e];by_cases e2:0<p.interval
  ·rw[if_pos e2,if_pos ⟨e2,e⟩]
  ·rw[if_neg e2,if_neg (λh=>e2 h.1)]
structure TlI (w:World)(t r:Nat)(s:NY)(b7 b9:Nat)(n q:Nat)(p:Rf)(O_:List Nat)(v:Value)(a:Nat)(w':World):Prop where
 tk:TkM w' t r s a
 kp:Kp (λk=>k=t\/k=r) w w'
 sl:Sl w' v 106 1 O_.length (O_.map OB)
 fr:∀g,v.ownBlock=some g->w.heap.size<=g
 c7:O9 w' b7 [I (n:Int),I (q:Int)] 332
 c9:O9 w' b9 [I (p.Ou:Int),I (p.interval:Int),I (p.zeta:Int)] 279
 n7:w.heap.size<=b7
 n9:w.heap.size<=b9
 v7:v.ownBlock≠some b7
 v9:v.ownBlock≠some b9
theorem z2K (l:List Nat):∀c∈l.map OB,c.oneCell'=true:=λc hc=>by
 obtain⟨y,-,rfl⟩:=List.mem_map.1 hc
 rfl
theorem TlI.app {w w1 w2 w3:World}{t r:Nat}{s:NY}{b7 b9 n q:Nat}{p:Rf}{O_ M:List Nat}{v v3:Value}{a a2:Nat}(h:TlI w t r s b7 b9 n q p O_ v a w1)(ht:t<w.heap.size)(hr:r<w.heap.size)
  (hk:Kp (λk=>k=t\/k=r) w1 w2) (jN:TkM w2 t r s a2) (cj:Sl w3 v3 106 1 (O_.length+M.length) (O_.map OB++M.map OB)) (aw:Kp (λk=>v.ownBlock=some k) w2 w3) (fS:∀g,v3.ownBlock=some g->v.ownBlock=some g\/w2.heap.size<=g):
  TlI w t r s b7 b9 n q p (O_++M) v3 a2 w3:=by
 have z1:=h.kp.size
 have z2:=hk.size
 have l7:=h.c7.lt
 have l9:=h.c9.lt
 have n7:=h.n7
 have n9:=h.n9
 have pL:∀k,k<w.heap.size->¬v.ownBlock=some k:=λk hk e=>by have:=h.fr k e;omega
 have cx:∀k,k<w1.heap.size->v.ownBlock≠some k->v3.ownBlock≠some k:=λk hk hv e=>by
  rcases fS k e with e| e
  ·exact hv e
  ·omega
 refine⟨⟨aw.NX jN.NX (pL t ht),⟨aw.NX jN.rd.1 (pL r hr),jN.rd.2⟩,jN.ne⟩,(h.kp.trans hk).NR aw (λk hk=> .inl (h.fr k hk)),by rw[List.length_append,List.map_append];exact cj,λg hg=>?_,aw.NX (hk.NX h.c7 (λe=>by omega)) h.v7,aw.NX (hk.NX h.c9 (λe=>by omega)) h.v9,n7,n9,cx _ l7 h.v7,cx _ l9 h.v9⟩
 rcases fS g hg with e| e
 ·exact h.fr g e
 ·omega
theorem z8W {w : World}{t r a : Nat}{s : NY}(h : TkM w t r s a)(hG : O9 w 2 (RB .gamma) 317)(cY : ¬ 2 = r)(iV : ¬ 2 = t)(p : Rf)(hp : p.PI)(x : Nat)(hx : x < 65536){sa : Option Addr}{sc : Nat}(succ ref : List Nat)(hs : OQ succ)(bP : succ ≠ [])(jg : succ.length < 50)(jH : OQ ref)
  (q:Nat) (hq:q<=p.Ou) (mO:q=0->ref=[]) (dQ:∀w2,Kp (λk=>k=r) w w2->Rd w2 (.slice sa ref.length sc) 1 ref.length (ref.map OB)) (cQ:ref.length<=sc) (rest:List Bool) (hb:(On s).drop a=Oq (TJ p x succ ref q)++rest):
  Oy prog 242 [ptr t 0,I (x:Int),.agg #[I (succ.length:Int),I (q:Int)],.slice sa ref.length sc,lpV p] w λu w'=>Sl w' u 106 1 succ.length (succ.map OB)/\(∀g,u.ownBlock=some g->w.heap.size<=g)/\
   TkM w' t r s (a+(Oq (TJ p x succ ref q)).length)/\Kp (λk=>k=t\/k=r) w w':=by
 obtain⟨g1,g2,g3,g4⟩:=id hp
 have lt0:=h.NX.lt
 have lr0:=h.rd.1.lt
 have jc:=z5Z hs.YF jH.YF p.interval
 have ru:=jc.length_eq
 rw[List.length_append,List.length_append] at ru
 have ay:OQ (Ox succ ref):=hs.sub List.filter_sublist
 have JD:=(SR p.interval (Ox succ ref)).length_eq
 rw[List.length_append] at JD
 unfold TJ at hb⊢
 rw[RD,List.append_assoc] at hb
 rw[RD,List.length_append]
 refine NP (e:=[(0,_),(1,_),(2,_),(3,_),(4,_)]) func242 O ntmps242 O O$ qN O$ O5 O O (Qr O (cs:=[I (succ.length:Int),I (q:Int)]) O) ?_
 rintro _ w1 ⟨b7,rfl,jQ,ad,bN⟩
 refine O5 O O (Qr O (cs:=Z9 p) O) ?_
 rintro _ w2 ⟨b9,rfl,oF,ae,cL⟩
 replace cL:O9 w2 b9 [I (p.Ou:Int),I (p.interval:Int),I (p.zeta:Int)] 279:=cL
 have z1:=ad.size
 have z2:=ae.size
 have aB:=ad.trans ae
 have e8:=ae.NX bN
 refine Oc O$ qM O$ NZ O$ py$ qN O$ Og Ru O$ qV (O6 U3 O O e8 O)$ PD O O$ NU$ OX (λe' w'=>∃v11,e'=[(0,ptr t 0),(1,I (x:Int)),(7,ptr b7 0),(9,ptr b9 0),(11,v11)]/\TlI w t r s b7 b9 succ.length q p (ref.filter λy=>decide (y∈succ)) v11 (a+(Oq (WB succ ref q)).length) w') ?cF$ λcF=>?cR
 case cF =>
  rintro e' w3 ⟨v11,rfl,h3⟩;have f7:=Rs hb;obtain⟨va,vc,rfl,-⟩:=h3.sl.rd.shape;have ti:=h3.c7;have cP:=h3.c9;have CC:=h3.tk.NX;refine py$ qN O$ Og Sx O$ qV ((O6 U3 O O ti O))$ NT O$ Qx OA O$ Qp O O ?_;rw[show(succ.length:Int)-((ref.filter λy=>decide (y∈succ)).length:Int)=((Ox succ ref).length:Int) by omega]
  generalize N6:(a+(Oq (WB succ ref q)).length)=a3 at h3 f7
  rw[z4B,RD,List.append_assoc] at f7;rw[z4B,RD,List.length_append];have JE:p.interval=0->(P8 p.interval (Ox succ ref)).1=[]:=λe=>by rw[e];exact X9 _
  have JF:Ox succ ref=[]->P8 p.interval (Ox succ ref)=([],[]):=λe=>by rw[e,P8]
  have pE:=TU p.interval (Ox succ ref) 0 ay.YF (λy _=>Nat.zero_le _);have sW:=λy hy=>(z7h (least:=p.interval) ay y hy).2
  have HC:(P8 p.interval (Ox succ ref)).1.length<=(Qa (P8 p.interval (Ox succ ref)).1).length:=by
   have key:∀(R:List (Nat×Nat)) (lo:Nat),S4 p.interval lo R->R.length<=(Qa R).length:=by
    intro R
    induction R with
    |nil=>intro lo h;exact Nat.le_refl _
    | cons z R ih =>
      intro lo h;have h5:=ih _ h.2.2.2;have h6:1<=z.2:=h.2.1;rw[show Qa (z::R)=(List.range z.2).map (z.1+·)++Qa R from rfl,List.length_append,List.length_map,List.length_range,List.length_cons];omega
   exact key _ 0 pE
  have CD:OQ (P8 p.interval (Ox succ ref)).2:=ay.sub (Ts p.interval _)
  generalize (ref.filter λy=>decide (y∈succ))=O1 at h3 jc ru
  have vz:z7d p x (Ox succ ref)=if 0<p.interval/\Ox succ ref≠[] then(.gamma,(P8 p.interval (Ox succ ref)).1.length)::OV x p.interval none (P8 p.interval (Ox succ ref)).1 else []:=rfl
  generalize z7d p x (Ox succ ref)=LT at f7 vz
  generalize P8 p.interval (Ox succ ref)=Q at*
  generalize Ox succ ref=L1 at*
  have AE:L1=[]↔L1.length=0:=⟨λe=>by rw[e];rfl,List.eq_nil_of_length_eq_zero⟩;have fL:=hs.len;refine NZ O$ py$ OX (λe' w'=>∃s1:Bool,e'=[(0,ptr t 0),(1,I (x:Int)),(7,ptr b7 0),(9,ptr b9 0),(11,.slice va O1.length vc),(12,I (L1.length:Int)),(38,.bool s1)]/\w'=w3/\(s1=true↔0<p.interval/\L1≠[])) ?dV$ λdV=>?fU
  case dV =>
   rintro e' w4 ⟨s1,rfl,rfl,dm⟩;refine OX (λe' w'=>∃v11,e'=[(0,ptr t 0),(1,I (x:Int)),(7,ptr b7 0),(9,ptr b9 0),(11,v11)]/\TlI w t r s b7 b9 succ.length q p (O1++Qa Q.1) v11 (a3+(Oq LT).length) w') ?av$ λav=>?dW
   case av =>
    rintro e' w5 ⟨v5,rfl,h5⟩;have gQ:=Rs f7;obtain⟨va5,vc5,rfl,-⟩:=h5.sl.rd.shape;have lU:=h5.c7;have lV:=h5.c9;have CE:=h5.tk.NX;have HD:(O1++Qa Q.1).length=O1.length+(Qa Q.1).length:=List.length_append;refine py$ qN O$ Og Sx O$ qV ((O6 U3 O O lU O))$ NT O$ Qx OA O$ Qp O O ?_;rw[show(succ.length:Int)-((O1++Qa Q.1).length:Int)=(Q.2.length:Int) by omega];refine NZ O$ py$ OX (λe' w'=>∃s2:Bool,e'=[(0,ptr t 0),(1,I (x:Int)),(7,ptr b7 0),(9,ptr b9 0),(11,.slice va5 (O1++Qa Q.1).length vc5),(13,I (Q.2.length:Int)),(60,.bool s2)]/\w'=w5/\(s2=true↔0<Q.2.length)) ?mV$ λmV=>?mX
    case mV=>
     rintro e' w6 ⟨s2,rfl,rfl,dc⟩;refine OX (λe' w'=>∃v11,e'=[(0,ptr t 0),(11,v11)]/\TlI w t r s b7 b9 succ.length q p (O1++Qa Q.1++Q.2) v11 (a3+(Oq LT).length+(Oq (OZ x p.zeta none Q.2)).length) w') ?oL$ λoL=>?sU
     case oL=>
      rintro e' w7 ⟨v7,rfl,h7⟩;have rv:(O1++Qa Q.1++Q.2).length=succ.length:=by rw[List.length_append,HD];omega
      have JG:0<succ.length:=List.length_pos_iff.2 bP;refine qN O$ NT O$ Om ziK O (z8R h7.sl (λe=>by rw[e] at rv;simp at rv;omega) (by omega)) ?_;rintro _ w8 ⟨rfl,aS,l',pM,xc,dX⟩;have JH:l'=succ:=z5h ((pM.trans (by rw[List.append_assoc])).trans jc) xc hs.YF;rw[JH] at dX;refine qM O$ NT O$ NZ O$ NV func242 O ?_;have e9:a+((Oq (WB succ ref q)).length+((Oq LT).length+(Oq (OZ x p.zeta none Q.2)).length))=a3+(Oq LT).length+(Oq (OZ x p.zeta none Q.2)).length:=by omega
      rw[e9];have pL:∀k,k<w.heap.size->¬v7.ownBlock=some k:=λk hk e=>by have:=h7.fr k e;omega
      refine⟨_,rfl,dX,h7.fr,⟨aS.NX h7.tk.NX (pL t lt0),⟨aS.NX h7.tk.rd.1 (pL r lr0),h7.tk.rd.2⟩,h7.tk.ne⟩,h7.kp.NR aS (λk hk=> .inl (h7.fr k hk))⟩
     case sU=>
      refine Po O (λh2=>?_)$ λh2=>?_
      ·refine NW O$ Od O O$ Od O O$ Og Zn O$ qV ((O6 U3 O O lV O))$ qV ((Pf O U3 Qy (by omega)))$ qV (Rt (cs:=[_,_]) PY O zdg O O)$ Om zij O (z5S h5.tk x p.zeta hx ⟨g3,g4⟩ Q.2 CD _ gQ) ?_;rintro u6 w6 ⟨ev,mK,wL,aP⟩;have nt:=h5.sl.kp aP (λg hg e=>by have:=h5.fr g hg;omega);refine O5 O O (pap OA O7 O (by decide) O O nt ev.rd (z2K _) (by omega) (by simp only[maxLen];omega)) ?_;rintro v7 w7 ⟨gL,aD,JI,-⟩;have h7:=h5.app lt0 lr0 aP wL gL aD JI;refine NZ O ?_;exact(oL _ _ ⟨v7,rfl,h7⟩).qb
      ·have dM:Q.2=[]:=List.eq_nil_of_length_eq_zero (by
        rcases Nat.eq_zero_or_pos Q.2.length with e| e
        ·exact e
        ·rw[dc.2 e] at h2;cases h2)
       refine An ((oL _ _ ⟨_,rfl,?_⟩).qb);rw[dM,List.append_nil,show(Oq (OZ x p.zeta none [])).length=0 from rfl,Nat.add_zero];exact h5
    case mX=>
     rcases Nat.eq_zero_or_pos Q.2.length with hz|hz
     ·refine NW O$ NT O$ PD O O$ OR$ NT O$ qS$ qS$ qS$ qS$ qS$ OU O O$ NU ?_;exact(mV _ _ ⟨false,rfl,rfl,by simp[hz]⟩).qb
     ·refine NW O$ NT O$ PD O O$ Qs$ Od O O$ OH O$ Og SU O$ qV ((O6 U4 O O CE O))$ qV ((Rn O))$ PT O O$ NU ?_;exact(mV _ _ ⟨true,rfl,rfl,by simp[hz]⟩).qb
   case dW=>
    refine Po O (λh1=>?_)$ λh1=>?_
    ·obtain⟨AF,cT⟩:=dm.1 h1;rw[if_pos ⟨AF,cT⟩] at vz;refine NW O$ Od O O$ Od O O$ Og Tf O$ qV ((O6 U3 O O cP O)) ?_;rw[vz] at f7;refine Om zgo O (z7R h3.tk (h3.kp.NX hG (λe=>by rcases e with e|e;exact iV e;exact cY e)) cY iV x L1.length p.interval hx (by omega) (by omega) Q.1 pE sW (by omega) (by omega) _ f7) ?_;rintro u4 w4 ⟨dl,pC,xd,ao⟩;have CG:=h3.sl.kp ao (λg hg e=>by have:=h3.fr g hg;omega);have N7:=dl.rd;have JJ:O1.length<=65536:=by omega
     refine O5 O O (pap OA O7 O (by decide) O O CG dl.rd (z2K _) (by omega) (by simp only[maxLen];omega)) ?_;rintro v5 w5 ⟨dH,ak,tp,-⟩;have h5:=h3.app lt0 lr0 ao xd dH ak tp;refine NZ O ((av _ _ ⟨v5,rfl,?_⟩).qb);rw[vz];exact h5
    ·have cT:¬(0<p.interval/\L1≠[]):=λe=>by rw[dm.2 e] at h1;cases h1
     have eS:Q.1=[]:=by
      by_cases e:L1=[]
      ·rw[JF e]
      ·exact JE (by by_cases e2:0<p.interval;exact absurd ⟨e2,e⟩ cT;omega)
     rw[if_neg cT] at vz;refine An ((av _ _ ⟨_,rfl,?_⟩).qb);rw[eS,vz,show Qa []=[] from rfl,List.append_nil,show(Oq []).length=0 from rfl,Nat.add_zero];exact h3
  case fU=>
   rcases Nat.eq_zero_or_pos L1.length with hz|hz
   ·refine NW O$ NT O$ PD O O$ OR$ NT O$ qS$ qS$ qS$ OU O O$ NT O$ qS$ qS$ qS$ qS ?_;refine qS$ OU O O$ NU$ OD.qb (e:=[(0,_),(1,_),(7,_),(9,_),(11,_),(12,_),(38,_)]) ?_;exact(dV _ _ ⟨false,rfl,rfl,⟨λe=>(by cases e),λe=>absurd (AE.2 hz) e.2⟩⟩).qb
   ·rcases Nat.eq_zero_or_pos p.interval with mI|mI
    ·refine NW O$ NT O$ PD O O$ Qs$ NT O$ Og Tf O$ qV ((O6 U3 O O cP O))$ PD O O$ OR$ PT O O$ NT O$ qS$ qS$ qS ?_;refine qS$ qS$ OU O O$ NU$ OD.qb (e:=[(0,_),(1,_),(7,_),(9,_),(11,_),(12,_),(38,_)]) ?_;exact(dV _ _ ⟨false,rfl,rfl,by simp[mI]⟩).qb
    ·refine NW O$ NT O$ PD O O$ Qs$ NT O$ Og Tf O$ qV ((O6 U3 O O cP O))$ PD O O$ Qs$ PT O O$ Od O O$ OH O$ Og SU O$ qV ((O6 U4 O O CC O)) ?_;refine qV ((Rn O))$ PT O O$ NU$ OD.qb (e:=[(0,_),(1,_),(7,_),(9,_),(11,_),(12,_),(38,_)]) ?_;exact(dV _ _ ⟨true,rfl,rfl,⟨λ_=>⟨mI,λe=>(by have:=AE.1 e;omega)⟩,λ_=>rfl⟩⟩).qb
 case cR=>
  refine O8 O (λh0=>?_)$ λh0=>?_
  ·have eS:0<q:=by omega
   have AN:=Se succ ref;have j8:=AN.z0S;rw[List.length_map] at j8;have xe:=jH.len
   have xh:(Qk succ ref).sum=ref.length:=by
    have:=congrArg List.length AN.exp;rw[RZ,List.length_map] at this;exact this
   have xi:=z8x succ ref;rw[show WB succ ref q=(.gamma,(Qk succ ref).length-1)::Px 0 (Qk succ ref).dropLast from if_pos eS] at hb;obtain⟨l,m,iq⟩:∃l m,Qk succ ref=l++[m]:=⟨_,_,(List.dropLast_concat_getLast AN.ne).symm⟩;have ir:=AN.pos;rw[iq] at hb xh j8 ir;rw[iq,List.dropLast_concat] at xi;rw[List.dropLast_concat,show(l++[m]).length-1=l.length by simp] at hb;rw[List.sum_append] at xh;rw[List.length_append,List.length_singleton] at j8;have h2:=h.ext aB
   have xj:∀m'∈l.drop 1,1<=m':=λm' nu=>ir m' (by
    cases l with
    |nil=>simp at nu
    |cons a l=>rw[List.cons_append,List.drop_succ_cons,List.drop_zero];rw[List.drop_succ_cons,List.drop_zero] at nu;exact List.mem_append_left _ nu)
   refine NW O$ Od O O$ Om zh3 O (z3G h2 (aB.NX hG) cY ref l (λw5 k=>dQ w5 (aB.kp.trans k)) cQ xe (by omega) (by omega) xj _ hb) ?_;rintro v11 w3 ⟨cj,nq,pN,aw⟩;refine NZ O ((cF _ _ ⟨v11,rfl,?_⟩).qb);rw[xi] at cj;rw[show WB succ ref q=(.gamma,l.length)::Px 0 l by unfold WB;rw[if_pos eS,iq,List.dropLast_concat,show(l++[m]).length-1=l.length by simp]];have l72:=e8.lt;have l92:=cL.lt;exact⟨pN,aB.kp.trans (aw.Of λk e=> .inr e),cj,λg hg=>by have:=nq g hg;omega,aw.NX e8 (by omega),aw.NX cL (by omega),by omega,by omega,λe=>by have:=nq _ e;omega,λe=>by have:=nq _ e;omega⟩
  ·have eS:q=0:=by omega
   have CH:=mO eS;subst CH;refine An ((cF _ _ ⟨.slice none 0 0,rfl,?_⟩).qb);rw[show WB succ [] q=[] by unfold WB;rw[if_neg (by omega)]];exact⟨h.ext aB,aB.kp,Sl.nil _ _ _,(λg hg=>by cases hg),e8,cL,by omega,by omega,(λe=>by cases e),(λe=>by cases e)⟩
theorem z4f {l b rest:List Bool}{a k n:Nat}(hb:l.drop a=b++rest)(hk:k+n<=b.length):(l.drop (a+k)).take n=(b.drop k).take n:=by
 rw[<-List.drop_drop,hb,List.drop_append_of_le_length (by omega),List.take_append_of_le_length (by rw[List.length_drop];omega)]
theorem z8G {w:World}{r a:Nat}{s:NY}(p:Rf)(hp:p.PI)(x:Nat)(hx:x<65536){la ra:Option Addr}{lc rc:Nat}(succ ref:List Nat)(hs:OQ succ)(bP:succ≠[])(jH:OQ ref)
  (q:Nat) (hq:q<=p.Ou) (mO:q=0->ref=[]) (hG:O9 w 2 (RB .gamma) 317) (hU:O9 w 3 (RB .unary) 317) (dL:Rd w (.slice la succ.length lc) 1 succ.length (succ.map OB)) (mu:Rd w (.slice ra ref.length rc) 1 ref.length (ref.map OB)) (fP:succ.length<=lc) (jG:ref.length<=rc)
  (hl:(Oq (QC p x succ ref q)).length<=134217728) (rest:List Bool) (hb:(On s).drop a=Oq (TJ p x succ ref q)++rest) (h:SX w r s (a+(Oq (TJ p x succ ref q)).length)):
  Oy prog 243 [lpV p,ptr r 0,I (a:Int),I (x:Int),.agg #[I (succ.length:Int),I (q:Int)],.slice la succ.length lc,.slice ra ref.length rc] w λu w'=>u= .bool true/\SX w' r s (a+(Oq (TJ p x succ ref q)).length)/\Kp (λk=>k=r) w w':=by
 have lr0:=h.1.lt
 have l10:=hG.lt
 have l20:=hU.lt
 have fL:=hs.len
 have nv:=z0R p x (ref:=ref) q bP
 have AO:Oq (QC p x succ ref q)=Oq (PK p succ.length q)++Oq (TJ p x succ ref q):=by rw[nv,RD]
 have fu:(Oq (QC p x succ ref q)).length=(Oq (PK p succ.length q)).length+(Oq (TJ p x succ ref q)).length:=by rw[nv,RD,List.length_append]
 generalize Oq (TJ p x succ ref q)=TB at*
 have AP:succ.length≠0:=λe=>bP (List.eq_nil_of_length_eq_zero e)
 refine NP (e:=[(0,_),(1,_),(2,_),(3,_),(4,_),(5,_),(6,_)]) func243 O ntmps243 O O$ qN O$ O5 O O (Qr O (cs:=Z9 p) O) ?_
 rintro _ w1 ⟨b7,rfl,jQ,ad,bN⟩
 refine O5 O O (Qr O (cs:=[I (succ.length:Int),I (q:Int)]) O) ?_
 rintro _ w2 ⟨b11,rfl,j9,ae,aX⟩
 have aB:=ad.trans ae
 have z1:=ad.size
 have z2:=ae.size
 have e8:=ae.NX bN
 have h2:SX w2 r s (a+TB.length):=⟨aB.NX h.1,h.2⟩
 refine Oc O$ qM O$ NT O$ Om Xv O (Th h2) ?_
 rintro _ w2 ⟨rfl,rfl⟩
 refine Oc O$ qM O$ Om z0O O (Ty w2) ?_
 rintro _ w3 ⟨wp,F,rfl,kk,ah,pO⟩
 have z3:=ah.size
 have ba:=aB.trans ah
 have kU:=ah.NX aX
 have ti:=ah.NX e8
 refine NZ O$ py$ qN O$ Od O O$ Od O O$ Og Ru O$ qV (O6 U3 O O kU O)$ qV (OE (news:=Z9 p) YG O Ta O (ti.cells (n:=3) O) O)$ Om zd5 O (YM kk p hp x hx succ ref hs jH q hq mO (ba.NX hG) (ba.NX hU) (dL.ext ba) (mu.ext ba) fP jG (by simpa using hl)) ?_
 rintro _ w4 ⟨rfl,F4,lT,ao,pC⟩
 rw[List.nil_append] at lT
 have z4:=ao.size
 have dw:Ext w2 w4:=ah.NR ao pO
 refine Pz O O$ NU$ It O$ An$ qN O$ NT O$ Om z7b O (VM lT) ?_
 rintro _ w4 ⟨rfl,rfl⟩
 refine NT O$ P9 O O$ P9 O O$ Oc O$ NZ O$ OD.qb (e:=[(1,_),(2,_),(7,_),(14,_),(15,_),(16,_),(17,_)]) ?_
 refine qN O$ NT O ?_
 have fD:(Ow (Oq (QC p x succ ref q))).length<=16777217:=by rw[OO];omega
 refine Om z6C O (VW (Ow (Oq (QC p x succ ref q))) (by omega) w4) ?_
 rintro _ w5 ⟨ow,rfl,sq,aR,N8⟩
 have iA:=dw.trans aR
 have bO:=aB.trans iA
 obtain⟨z,il,mI,JK⟩:=Rq (Oq (QC p x succ ref q))
 have AQ:(On (Ow (Oq (QC p x succ ref q)))).drop 0=Oq (PK p succ.length q)++(TB++List.replicate z false):=by
  rw[il,List.drop_zero,AO,List.append_assoc]
 refine NZ O$ py$ qN O$ NT O$ qV (OE (news:=Z9 p) YG O Ta O ((iA.NX e8).cells (n:=3) O) O)$ Om zdv O (z1W sq p hp (bO.NX hG) (bO.NX hU) (by omega) (by omega) succ.length q (by omega) hq (λe=>absurd e AP) _ AQ) ?_
 rintro _ w6 ⟨rfl,kV,aP⟩
 rw[Nat.zero_add] at kV
 have iB:Ext w2 w6:=iA.NR aP (λk e=>by omega)
 have tq:=Rs AQ
 rw[Nat.zero_add] at tq
 generalize (Ow (Oq (QC p x succ ref q)))=os at*
 have z6:=iB.size
 refine NT O$ P9 O O$ P9 O O$ O5 O O (QU (cs:=[_,_]) Rr O) ?_
 rintro _ w7 ⟨b20,rfl,JL,bV,CI⟩
 refine Oe O (P4 (news:=[I (succ.length:Int),I (q:Int)]) Rr O O O O CI (by simp)) ?_
 rintro w8 ⟨HE,aS⟩
 have iC:Ext w6 w8:=bV.NR aS (λk e=>by omega)
 have jh:=iB.trans iC
 have h8:SX w8 r s (a+TB.length):=⟨jh.NX h2.1,h2.2⟩
 have uV:SX w8 ow os (Oq (PK p succ.length q)).length:=⟨iC.NX kV.1,kV.2⟩
 have mn:XI w8 wp (Oq (QC p x succ ref q)) F4:=((lT.ext aR).kp aP (λi hi e=>by have:=lT.lt hi;omega)).ext iC
 refine Oc O$ qM O$ NT O$ Pz O O$ Od O O$ Om z1K O (Uu mn) ?_
 rintro _ w8 ⟨rfl,rfl⟩
 refine NT O$ Om Xv O (Th uV) ?_
 rintro _ w8 ⟨rfl,rfl⟩
 refine Qp O O ?_
 rw[show((Oq (QC p x succ ref q)).length:Int)-((Oq (PK p succ.length q)).length:Int)=(TB.length:Int) by omega]
 refine Od O O$ Qp O O ?_
 rw[show((a+TB.length:Nat):Int)-(a:Int)=(TB.length:Int) by omega]
 refine Pz O O$ OR$ OU O O$ NU$ OD.qb (e:=[(1,_),(2,_),(14,_),(15,_),(19,_),(64,_)]) ?_
 refine It O$ An$ qN O$ Od O O$ Om z9O O (Y8 h8 a (by have:=h8.2.1;omega)) ?_
 rintro _ w9 ⟨rfl,h9,aL⟩
 have uZ:SX w9 ow os (Oq (PK p succ.length q)).length:=⟨aL.NX uV.1 (by omega),uV.2⟩
 refine NU$ py$ NQ$ Qm (α:=Nat) (0) (λk=>[(1,ptr r 0),(15,I ((a+TB.length:Nat):Int)),(19,ptr ow 0)]) (λk w'=>SX w' r s (a+k)/\SX w' ow os ((Oq (PK p succ.length q)).length+k)/\Kp (λi=>i=r\/i=ow) w9 w'/\k<=TB.length) (λk=>TB.length-k) ?hI ?hround
 case hI=>exact⟨h9,uZ,Kp.refl _ _,Nat.zero_le _⟩
 case hround=>
  rintro k w10 ⟨eQ,xl,ar,N9⟩ ih
  try dsimp only
  refine py$ qN O$ NT O$ Om Xv O (Th eQ) ?_;rintro _ w10 ⟨rfl,rfl⟩;refine NT O$ Py O O$ NU$ O8 O (λh0=>?_)$ λh0=>?_
  ·refine An$ NQ$ qN O$ Od O O$ Om Xv O (Th eQ) ?_;rintro _ w10 ⟨rfl,rfl⟩;refine Qp O O ?_;rw[show((a+TB.length:Nat):Int)-((a+k:Nat):Int)=((TB.length-k:Nat):Int) by omega];refine qV (ymi O O) ?_;rw[show min (64:Int) ((TB.length-k:Nat):Int)=((min 64 (TB.length-k):Nat):Int) by omega];obtain⟨n,hn,cT,jB,CJ⟩:∃n,min 64 (TB.length-k)=n/\1<=n/\n<=64/\k+n<=TB.length:=⟨_,rfl,by omega,by omega,by omega⟩;rw[hn];have xm:=eQ.2.1;have eZ:=z4f hb CJ;have lE:=z4f tq CJ;have Hb:a+TB.length<=8*s.length:=h8.2.1
   have vd:(Oq (PK p succ.length q)).length+TB.length<=8*os.length:=by
    have e:=congrArg List.length tq;rw[List.length_drop,bitsT_length,List.length_append] at e;omega
   refine Oc O$ qM O$ Od O O$ Om z4v O (Ui eQ n jB) ?_;rintro v11 w11 hv
   have fY:v11= .tuple #[u64v (OK (((On s).drop (a+k)).take n)),I 0]/\SX w11 r s (a+k+n)/\Kp (λk=>k=r) w10 w11:=by
    rcases hv with hv|hv
    ·exact hv.2
    ·omega
   obtain⟨rfl,im,aY⟩:=fY;rw[eZ];have CK:SX w11 ow os ((Oq (PK p succ.length q)).length+k):=⟨aY.NX xl.1 (by omega),xl.2⟩;refine NT O$ P9 O O$ P9 O O$ Oc O$ Oc O$ qM O$ Od O O$ Om z4v O (Ui CK n jB) ?_;rintro v12 w12 hv
   have fY:v12= .tuple #[u64v (OK (((On os).drop ((Oq (PK p succ.length q)).length+k)).take n)),I 0]/\SX w12 ow os ((Oq (PK p succ.length q)).length+k+n)/\Kp (λk=>k=ow) w11 w12:=by
    rcases hv with hv|hv
    ·exact hv.2
    ·omega
   obtain⟨rfl,CL,bc⟩:=fY;rw[lE];have nw:SX w12 r s (a+k+n):=⟨bc.NX im.1 (by omega),im.2⟩;refine NT O$ P9 O O$ P9 O O$ Oc O$ Oc O$ qM O$ Od O O$ Pz O O$ NU$ O8 O (λh1=>?_)$ λh1=>?_
   ·exact absurd O h1
   ·refine An$ NS ((ih (k+n) _ ⟨by rw[<-Nat.add_assoc];exact nw,by rw[<-Nat.add_assoc];exact CL,(ar.trans (aY.Of λi e=> .inl e)).trans (bc.Of λi e=> .inr e),CJ⟩ (by omega)).qb)
  ·have ig:k=TB.length:=by omega
   subst ig;refine O4 O$ qN O$ NZ O$ NV func243 O ?_;exact⟨_,rfl,rfl,eQ,((aB.trans jh).kp.trans aL).NR ar (λi hi=>by rcases hi with e|e;exact .inr e;exact .inl (by omega))⟩
theorem Z4 {w:World}{r a:Nat}{s:NY}(h:SX w r s a)(p:Rf)(hp:p.PI)(x:Nat)(hx:x<65536)(N:Nat)(hN:N<=65536){ra:Option Addr}{rc:Nat}(succ ref:List Nat)(hs:OQ succ)(bP:succ≠[])(jg:succ.length<50)(CM:∀y∈succ,y<N)(jH:OQ ref)
  (q:Nat) (hq:q<=p.Ou) (mO:q=0->ref=[]) (hG:O9 w 2 (RB .gamma) 317) (hU:O9 w 3 (RB .unary) 317) (cY:¬2=r) (dv:¬3=r) (dQ:∀w2,Kp (λk=>k=r) w w2->Rd w2 (.slice ra ref.length rc) 1 ref.length (ref.map OB)) (jG:ref.length<=rc)
  (hl:(Oq (QC p x succ ref q)).length<=134217728) (rest:List Bool) (hb:(On s).drop a=Oq (TJ p x succ ref q)++rest):
  Oy prog 224 [ptr r 0,I (x:Int),I (N:Int),.agg #[I (succ.length:Int),I (q:Int)],.slice ra ref.length rc,lpV p] w λu w'=>∃v,u= .tuple #[v,I 0]/\Sl w' v 106 1 succ.length (succ.map OB)/\(∀g,v.ownBlock=some g->w.heap.size<=g)/\SX w' r s (a+(Oq (TJ p x succ ref q)).length)/\Kp (λk=>k=r) w w':=by
 obtain⟨g1,g2,g3,g4⟩:=id hp
 have lr0:=h.1.lt
 have l10:=hG.lt
 have l20:=hU.lt
 have fL:=hs.len
 have ia:=jH.len
 have AP:0<succ.length:=List.length_pos_iff.2 bP
 refine NP (e:=[(0,_),(1,_),(2,_),(3,_),(4,_),(5,_)]) func224 O ntmps224 O O$ qN O$ O5 O O (Qr O (cs:=[I (succ.length:Int),I (q:Int)]) O) ?_
 rintro _ w1 ⟨b9,rfl,oF,ad,cL⟩
 refine O5 O O (Qr O (cs:=Z9 p) O) ?_
 rintro _ w2 ⟨b11,rfl,j9,ae,aX⟩
 replace aX:O9 w2 b11 [I (p.Ou:Int),I (p.interval:Int),I (p.zeta:Int)] 279:=aX
 have aB:=ad.trans ae
 have z1:=ad.size
 have z2:=ae.size
 have dh:=ae.NX cL
 have l9:=dh.lt
 have l11:=aX.lt
 have l90:=cL.lt
 refine Oc O$ NZ O$ py$ OX (λe' w'=>e'=[(0,ptr r 0),(1,I (x:Int)),(2,I (N:Int)),(4,.slice ra ref.length rc),(9,ptr b9 0),(11,ptr b11 0)]/\Ext w2 w') ?lX$ λlX=>?CO
 case lX=>
  rintro e' w3 ⟨rfl,ah⟩;have da:=aB.trans ah;have h3:SX w3 r s a:=⟨da.NX h.1,h.2⟩;have cP:=ah.NX dh;have kU:=ah.NX aX;have z3:=ah.size;refine qN O$ NT O$ Om Xv O (Th h3) ?_;rintro _ w3 ⟨rfl,rfl⟩;refine Oc O$ qM O$ NT O$ qV (Rt (cs:=[_,_]) zhy O zhS O O)$ O5 O O (Qr O (cs:=[ptr r 0,.bool false]) O) ?_;rintro _ w4 ⟨tb,rfl,JM,az,JN⟩;have z4:=az.size;have bS:=da.trans az;have h4:TkM w4 tb r s a:=⟨JN,⟨az.NX h3.1,h3.2⟩,by omega⟩;refine Oc O$ qM O$ Od O O$ qV (OE (news:=[I (succ.length:Int),I (q:Int)]) z4e O Rr O ((az.NX cP).cells (n:=2) O) O)$ NT O$ qV (OE (news:=Z9 p) YG O Ta O ((az.NX kU).cells (n:=3) O) O)$ Om zhF O (z8W h4 (bS.NX hG) cY (by omega) p hp x hx succ ref hs bP jg jH q hq mO (λw2 k=>dQ w2 (bS.kp.trans k)) jG rest hb) ?_;rintro v w5 ⟨dH,na,HF,ak⟩;have cW:Kp (λk=>k=r) w w5:=bS.kp.NR ak (λi hi=>by rcases hi with e|e;exact .inl (by omega);exact .inr e);have lV:=ak.NX (az.NX cP) (by omega);have xn:=ak.NX (az.NX kU) (by omega);have JO:=HF.NX;have JP:=cW.NX hG cY;have JQ:=cW.NX hU dv;have ck:=dQ w5 cW;have wa:∀g,v.ownBlock=some g->w.heap.size<=g:=λg hg=>by have:=na g hg;have:=bS.size;omega
  obtain⟨va,vc,rfl,AR⟩:=dH.rd.shape
  have CN:succ.length<=vc:=by
   rcases dH.shape with⟨-,h0⟩|⟨g,c1,hv,du⟩
   ·omega
   ·cases hv;exact du
  refine NZ O$ py$ qN O$ NT O$ OH O$ Og SU O$ qV ((O6 U4 O O JO O))$ Od O O$ Qx OA O$ Og Sx O$ qV ((O6 U3 O O lV O))$ Pz O O$ OR$ OU O O ?_;refine Od O O$ Om z3Z O (Vt _ succ hs w5 dH.rd) ?_;rintro _ w5 ⟨rfl,rfl⟩;refine qV ((Rn O))$ OU O O$ Od O O$ Qx OA O$ Qe O O$ OR$ OU O O$ Od O O$ NT O$ Qx OA O$ Qp O O ?_;rw[show(succ.length:Int)-1=((succ.length-1:Nat):Int) by omega];obtain⟨y,hy⟩:∃y,succ[succ.length-1]? =some y:=⟨_,List.getElem?_eq_getElem (by omega)⟩;have Na:=CM y (List.mem_of_getElem? hy)
  obtain⟨g5,c5,e5⟩:∃g c,Value.slice va succ.length vc= .slice (some ⟨g,0,none⟩) succ.length c:=by
   rcases dH.shape with⟨-,h0⟩|⟨g,c,e,hc⟩
   ·omega
   ·exact⟨g,c,e⟩
  cases e5;refine qV (P7 OA O7 O O (by omega))$ qV (OC OJ O O (Ps dH.rd (show(succ.map OB)[succ.length-1]? =some (OB y) by rw[List.getElem?_map,hy];rfl))) ?_;refine qV (OT O OJ U3 (by omega))$ NT O$ SB O O$ OR$ OU O O$ NT O$ qV (OE (news:=Z9 p) YG O Ta O (xn.cells (n:=3) O) O)$ Od O O$ NT O$ qV (OE (news:=[I (succ.length:Int),I (q:Int)]) z4e O Rr O (lV.cells (n:=2) O) O)$ Od O O$ Om zis O (z8G p hp x hx succ ref hs bP jH q hq mO JP JQ dH.rd ck CN jG hl rest hb HF.rd) ?_;rintro _ w6 ⟨rfl,h6,aP⟩;refine qV ((Rn O))$ OU O O$ NU$ OD.qb (e:=[(0,_),(14,_),(16,_),(134,_)]) ?_;refine It O$ An$ qN O$ NT O$ Oc O$ NZ O$ NV func224 O ?_;exact⟨_,rfl,_,rfl,dH.kp aP (λg hg e=>by have:=wa g hg;omega),wa,h6,cW.trans aP⟩
 case CO=>
  refine NQ$ qN O$ NT O$ qV (Pt Ud O O)$ NZ O$ It O$ py$ qN O$ qV (OE (news:=Z9 p) YG O Ta O (aX.cells (n:=3) O) O)$ Om z4j O (T6 p hp w2) ?_;rintro _ w3 ⟨rfl,ah⟩;refine Pz O O$ Od O O$ Om z6x O (UF x hx w3) ?_;rintro _ w3 ⟨rfl,rfl⟩;refine qV ((Rn O))$ OU O O$ Od O O$ Py O O$ OR$ OU O O$ Od O O$ PD O O$ OR$ OU O O$ Od O O$ Om z3Z O (Vt _ ref jH w3 (dQ w3 (aB.trans ah).kp)) ?_;rintro _ w3 ⟨rfl,rfl⟩;refine qV ((Rn O))$ OU O O$ NZ O$ OD.qb (e:=[(0,_),(1,_),(2,_),(4,_),(9,_),(11,_),(12,_),(13,_),(20,_)]) ?_;refine It O$ NW O$ Og Sx O$ qV ((O6 U3 O O (ah.NX dh) O))$ Py O O$ OR$ NT O$ Og Sx O$ qV ((O6 U3 O O (ah.NX dh) O))$ PD O O$ OR$ OU O O$ NT O$ Og Ru O ?_;refine qV ((O6 U3 O O (ah.NX dh) O))$ Py O O$ OR$ OU O O$ NT O$ Og Ru O$ qV ((O6 U3 O O (ah.NX dh) O))$ Og So O$ qV ((O6 U3 O O (ah.NX aX) O))$ PD O O$ OR$ OU O O$ NT O ?_;rcases Nat.eq_zero_or_pos q with e0|e0
  ·have JR:ref.length=0:=by rw[mO e0];rfl
   refine Og Ru O$ qV ((O6 U3 O O (ah.NX dh) O))$ Qe O O$ Qs$ Od O O$ Qx OA O$ PD O O$ OR$ PT O O$ OU O O$ NZ O$ OD.qb (e:=[(0,_),(1,_),(2,_),(4,_),(9,_),(11,_),(12,_),(13,_),(20,_)]) ?_;refine It O$ qN O$ Og Sx O$ qV ((O6 U3 O O (ah.NX dh) O))$ Qe O O$ OR$ NT O$ qS$ qS$ qS$ OU O O$ NZ O$ It O$ An ?_;refine NS ?_;exact(lX _ _ ⟨rfl,ah⟩).qb
  ·refine Og Ru O$ qV ((O6 U3 O O (ah.NX dh) O))$ Qe O O$ OR$ NT O$ qS$ qS$ qS$ OU O O$ OU O O$ NZ O$ OD.qb (e:=[(0,_),(1,_),(2,_),(4,_),(9,_),(11,_),(12,_),(13,_),(20,_)]) ?_;refine It O$ qN O$ Og Sx O$ qV ((O6 U3 O O (ah.NX dh) O))$ Qe O O$ OR$ NT O$ qS$ qS$ qS$ OU O O$ NZ O$ It O$ An ?_;refine NS ?_;exact(lX _ _ ⟨rfl,ah⟩).qb
theorem z2I {w:World}{r:Nat}(p:Rf)(hp:p.PI)(x:Nat)(hx:x<65536)(N:Nat)(hN:N<=65536):
  Oy prog 224 [ptr r 0,I (x:Int),I (N:Int),.agg #[I ((0:Nat):Int),I ((0:Nat):Int)],.slice none 0 0,lpV p] w λu w'=>u= .tuple #[.slice none 0 0,I 0]/\Ext w w':=by
 obtain⟨g1,g2,g3,g4⟩:=id hp
 have po:([]:List Nat).length=0:=rfl
 refine NP (e:=[(0,_),(1,_),(2,_),(3,_),(4,_),(5,_)]) func224 O ntmps224 O O$ qN O$ O5 O O (Qr O (cs:=[I ((0:Nat):Int),I ((0:Nat):Int)]) O) ?_
 rintro _ w1 ⟨b9,rfl,oF,ad,cL⟩
 refine O5 O O (Qr O (cs:=Z9 p) O) ?_
 rintro _ w2 ⟨b11,rfl,j9,ae,aX⟩
 replace aX:O9 w2 b11 [I (p.Ou:Int),I (p.interval:Int),I (p.zeta:Int)] 279:=aX
 have aB:=ad.trans ae
 have dh:=ae.NX cL
 refine Oc O$ NZ O$ py$ NQ$ qN O$ NT O$ qV (Pt Ud O O)$ NZ O$ It O$ py$ qN O$ qV (OE (news:=Z9 p) YG O Ta O (aX.cells (n:=3) O) O)$ Om z4j O (T6 p hp w2) ?_
 rintro _ w3 ⟨rfl,ah⟩
 refine Pz O O$ Od O O$ Om z6x O (UF x hx w3) ?_
 rintro _ w3 ⟨rfl,rfl⟩
 refine qV ((Rn O))$ OU O O$ Od O O$ Py O O$ OR$ OU O O$ Od O O$ PD O O$ OR$ OU O O$ Od O O$ Om z3Z O (Vt (.slice none 0 0) [] ⟨List.Pairwise.nil,λy h=>(by cases h)⟩ w3 Uy) ?_
 rintro _ w3 ⟨rfl,rfl⟩
 refine qV ((Rn O))$ OU O O$ NZ O$ OD.qb (e:=[(0,_),(1,_),(2,_),(4,_),(9,_),(11,_),(12,_),(13,_),(20,_)]) ?_
 refine It O$ NW O$ Og Sx O$ qV ((O6 U3 O O (ah.NX dh) O))$ Py O O$ OR$ NT O$ Og Sx O$ qV ((O6 U3 O O (ah.NX dh) O))$ PD O O$ OR$ OU O O$ NT O$ Og Ru O ?_
 refine qV ((O6 U3 O O (ah.NX dh) O))$ Py O O$ OR$ OU O O$ NT O$ Og Ru O$ qV ((O6 U3 O O (ah.NX dh) O))$ Og So O$ qV ((O6 U3 O O (ah.NX aX) O))$ PD O O$ OR$ OU O O$ NT O$ Og Ru O ?_
 refine qV ((O6 U3 O O (ah.NX dh) O))$ Qe O O$ Qs$ Od O O$ Qx OA O$ PD O O$ OR$ PT O O$ OU O O$ NZ O$ OD.qb (e:=[(0,_),(1,_),(2,_),(4,_),(9,_),(11,_),(12,_),(13,_),(20,_)]) ?_
 refine It O$ qN O$ Og Sx O$ qV ((O6 U3 O O (ah.NX dh) O))$ Qe O O$ Qs$ NT O$ Og Ru O$ qV ((O6 U3 O O (ah.NX dh) O))$ Qe O O$ Qs$ PT O O$ NZ O$ Oa O ?_
 refine qN O$ Oc O$ NZ O$ NV func224 O ?_
 exact⟨_,rfl,rfl,aB.trans ah⟩
/-! ### A packer's cells -/
def UZ (q:Value×Nat):List Value:=[q.1,I (q.2:Int)]
def WZ (p:PA)(R:List (Value×Nat))(n wp ed:Nat):List Value:=Uf p++(R.flatMap UZ++[I (n:Int),ptr wp 0,I (ed:Int),I 0])
theorem QY:∀R:List (Value×Nat),(R.flatMap UZ).length=R.length*2
 |[]=>rfl
 |q::R=>by rw[List.flatMap_cons,List.length_append,QY R,List.length_cons,show(UZ q).length=2 from rfl];omega
theorem z3b:∀(R:List (Value×Nat)) (i j:Nat) (q:Value×Nat) (u:Value),R[i]? =some q->(UZ q)[j]? =some u->(R.flatMap UZ)[i*2+j]? =some u
 |[],i,j,q,u,h,_=>by simp at h
 | a :: R, 0, j, q, u, h, hj => by
   rw[List.getElem?_cons_zero] at h;cases h;have:=(List.getElem?_eq_some_iff.1 hj).1;rw[List.flatMap_cons,List.getElem?_append_left (by omega),Nat.zero_mul,Nat.zero_add]
   exact hj
 | a :: R, i + 1, j, q, u, h, hj => by
   rw[List.getElem?_cons_succ] at h;rw[List.flatMap_cons,List.getElem?_append_right (by show 2<=_;omega),show(i+1)*2+j-(UZ a).length=i*2+j by show _-2=_;omega];exact z3b R i j q u h hj
theorem z4t:∀(R:List (Value×Nat)) (i:Nat) (x:Value×Nat),i<R.length->(R.set i x).flatMap UZ=(R.flatMap UZ).take (i*2)++UZ x++(R.flatMap UZ).drop (i*2+2)
 |[],i,x,h=>by simp at h
 | a :: R, 0, x, h => by
   rw[List.set_cons_zero,List.flatMap_cons,List.flatMap_cons,Nat.zero_mul,List.take_zero,List.nil_append,Nat.zero_add,List.drop_left' (show(UZ a).length=2 from rfl)]
 | a :: R, i + 1, x, h => by
   rw[List.length_cons] at h;rw[List.set_cons_succ,List.flatMap_cons,List.flatMap_cons,z4t R i x (by omega)];rw[show(i+1)*2=(UZ a).length+i*2 by show _=2+_;omega,List.take_length_add_append,Nat.add_assoc,List.drop_length_add_append,List.append_assoc,List.append_assoc,List.append_assoc]
section
variable {p:PA}{R:List (Value×Nat)}{n wp ed:Nat}
theorem z6j (hR:R.length=17):(WZ p R n wp ed).length=43:=by
 unfold WZ
 rw[List.length_append,List.length_append,QY,hR];rfl
theorem Zz (hR:R.length=17)(j:Nat):(WZ p R n wp ed)[39+j]? =[I (n:Int),ptr wp 0,I (ed:Int),I 0][j]? :=by
 unfold WZ
 rw[List.getElem?_append_right (by show 5<=_;omega),List.getElem?_append_right (by rw[QY,hR];show _<=_-5;omega),QY,hR]
 congr 1
 show 39+j-5-17*2=j
 omega
theorem z4L (hR:R.length=17):(WZ p R n wp ed)[39]? =some (I (n:Int)):=Zz hR 0
theorem zer (hR:R.length=17):(WZ p R n wp ed)[40]? =some (ptr wp 0):=Zz hR 1
theorem zhc (hR:R.length=17):(WZ p R n wp ed)[41]? =some (I (ed:Int)):=Zz hR 2
theorem zjk (hR:R.length=17):(WZ p R n wp ed)[42]? =some (I 0):=Zz hR 3
theorem zcV (hR:R.length=17){i:Nat}{v:Value}{c:Nat}(h:R[i]? =some (v,c))(j:Nat)(u:Value)(hj:[v,I (c:Int)][j]? =some u):(WZ p R n wp ed)[5+i*2+j]? =some u:=by
 have hi:=(List.getElem?_eq_some_iff.1 h).1
 have kM:j<2:=(List.getElem?_eq_some_iff.1 hj).1
 unfold WZ
 rw[List.getElem?_append_right (by show 5<=_;omega),show 5+i*2+j-(Uf p).length=i*2+j by show _-5=_;omega,List.getElem?_append_left (by rw[QY];omega)]
 exact z3b R i j _ u h hj
theorem z9b (hR:R.length=17){i:Nat}(hi:i<17)(v:Value)(c:Nat):PU (WZ p R n wp ed) (5+i*2) [v,I (c:Int)]=WZ p (R.set i (v,c)) n wp ed:=by
 unfold WZ PU
 rw[z4t R i (v,c) (by omega)]
 rw[show 5+i*2=(Uf p).length+i*2 from rfl,List.take_length_add_append,show(Uf p).length+i*2+[v,I (c:Int)].length=(Uf p).length+(i*2+2) from rfl,List.drop_length_add_append]
 rw[List.take_append_of_le_length (by rw[QY];omega),List.drop_append_of_le_length (by rw[QY];omega)]
 simp only[List.append_assoc]
 rfl
theorem zbQ (hR:R.length=17)(m:Nat):(WZ p R n wp ed).set 39 (I (m:Int))=WZ p R m wp ed:=by
 unfold WZ
 rw[List.set_append_right _ _ (by show 5<=_;omega),List.set_append_right _ _ (by rw[QY,hR];show _<=39-5;omega),QY,hR]
 rfl
theorem zbJ (hR:R.length=17)(m:Nat):(WZ p R n wp ed).set 41 (I (m:Int))=WZ p R n wp m:=by
 unfold WZ
 rw[List.set_append_right _ _ (by show 5<=_;omega),List.set_append_right _ _ (by rw[QY,hR];show _<=41-5;omega),QY,hR]
 rfl
end
theorem zbt {w:World}{k:Nat}{p:PA}{R:List (Value×Nat)}{n wp ed:Nat}(hB:O9 w k (WZ p R n wp ed) 276)(hR:R.length=17)(hn:n<=65536)(a:Option Addr)(m cp c:Nat):
  Oy prog 176 [ptr k 5,.slice a m cp,I (c:Int)] w λu w'=>u= .tuple #[]/\O9 w' k (WZ p (R.set (n%17) (.slice a m cp,c)) (n+1) wp ed) 276/\Kp (λi=>i=k) w w':=by
 refine NP (e:=[(0,_),(1,_),(2,_)]) func176 O ntmps176 O O ?_
 have hg:=Ext.Ob w
 have cK:(R.set (n%17) (.slice a m cp,c)).length=17:=by rw[List.length_set];exact hR
 refine py$ Oo [12] (λw'=>Ext w w') (by kernel_rfl) O$ OW 0 O O (hg)$ OW 1 O O (hg)$ Ot 2 O (Pq O) hg$ Ot 3 O (OG TY O) hg$ OW 6 O O (hg)$ OW 7 O O (hg)$ Ot 8 O (Rt (cs:=[_,_]) PZ O zdK O O) hg$ Ot 9 O (Pq O) hg$ Ot 10 O (OG z6Z O) hg$ qL 4 O (λ_ h=>O6 U3 O O (h.NX hB) (z4L hR)) hg$ Ot 5 O (yre O O (by omega)) hg$ Ot 11 O (yia ziB PZ O O (by omega)) hg ?_
 refine S8 [12]$ qO 12$ OP (i:=12) O O (P4 (news:=[.slice a m cp,I (c:Int)]) PZ O O O O (hg.NX hB) (by rw[z6j hR];show 5+n%17*2+2<=43;omega)) ?_
 rintro w1 ⟨ai,aK⟩
 refine⟨trivial,?_⟩
 replace ai:O9 w1 k (PU (WZ p R n wp ed) (5+n%17*2) [.slice a m cp,I (c:Int)]) 276:=ai
 rw[z9b hR (Nat.mod_lt _ (by decide))] at ai
 refine qE$ NW O$ NT O$ OH O$ Og TY O$ qV (O6 U3 O O ai (z4L cK))$ P6 O O$ OH O$ Og TY O$ Oe O (PV Pb O O O ai (by rw[z6j cK];decide)) ?_
 rintro w2 ⟨am,aq⟩
 replace am:O9 w2 k ((WZ p (R.set (n%17) (.slice a m cp,c)) n wp ed).set 39 (I ((n+1:Nat):Int))) 276:=am
 rw[zbQ cK] at am
 refine NU$ PE func176 O ?_
 exact⟨_,rfl,rfl,am,(hg.kp.trans aK).trans aq⟩
def T9 (p:PA)(m size c:Nat):Bool:=decide (0<m/\m<=p.most/\0<size/\size<=p.most/\c<p.chain)
theorem Wf {w:World}{k:Nat}{p:PA}{R:List (Value×Nat)}{n wp ed:Nat}(hB:O9 w k (WZ p R n wp ed) 276)(hR:R.length=17)(hn:n<=65536)(hp:p.PI)(ref size:Nat)(h1:1<=ref)(h2:ref<=p.Ou)
  {a:Option Addr} {m cp c:Nat} (hq:ref<=n->R[(n-ref)%17]? =some (.slice a m cp,c)):
  Oy prog 174 [ptr k 5,I (ref:Int),I (size:Int),bpV p] w λu w'=>u=(if ref<=n then .tuple #[.agg #[.slice a m cp,I (c:Int)],.bool (T9 p m size c)] else .tuple #[.agg #[.slice none 0 0,I 0],.bool false])/\Ext w w':=by
 have xo:p.Ou<=16:=hp.1.1
 refine NP (e:=[(0,_),(1,_),(2,_),(3,_)]) func174 O ntmps174 O O$ qN O$ O5 O O (Qr O (cs:=Uf p) O) ?_
 rintro _ w1 ⟨b7,rfl,jQ,ad,bN⟩
 refine O5 O O (QU (cs:=[_,_]) PZ O) ?_
 rintro _ w2 ⟨b8,rfl,ib,ae,cn⟩
 have z1:=ad.size
 have z2:=ae.size
 have l7:=bN.lt
 have l8:=cn.lt
 have aB:=ad.trans ae
 have e8:=ae.NX bN
 replace e8:O9 w2 b7 [I (p.Ou:Int),I (p.chain:Int),I (p.interval:Int),I (p.zeta:Int),I (p.most:Int)] 94:=e8
 replace cn:O9 w2 b8 [.slice none 0 0,I 0] 271:=cn
 have tr:=aB.NX hB
 have aa:=Ext.Ob w2
 refine NZ O$ py$ py ?_
 rcases Nat.lt_or_ge n ref with aZ|io
 ·refine Qj (λw'=>Ext w2 w') O$ Oj 0 O O (aa)$ O0 1 O (ZR O O) aa$ TH$ Oj 2 O O (aa)$ Oj 3 O O (aa)$ Oj 4 O O (aa)$ O0 5 O (Pq O) aa$ O0 6 O (OG TY O) aa$ O0 8 O (OG z0x O) aa$ qT 9 O (λ_ h=>O6 U3 O O (h.NX e8) O) aa$ qT 7 O (λ_ h=>O6 U3 O O (h.NX tr) (z4L hR)) aa$ O0 10 O (ymi O O) aa$ O0 11 O (Xq O O) aa ?_;refine T4$ O0 12 O (TA O O) aa$ qE$ Oa O$ qN O$ qV (Rt (cs:=[_,_]) PZ O zdK O O) ?_;have tt:=aa.NX cn;refine Oe O (P4 (news:=[.slice none 0 0,I 0]) PZ O O O O tt (by simp)) ?_;rintro w3 ⟨tv,aw⟩;replace tv:O9 w3 b8 [.slice none 0 0,I 0] 271:=tv;refine NZ O$ Oz func174 (.cell WM O PZ O (O9.cells (n:=2) tv (news:=[_,_]) O) O (.tmp O .nil)) ?_;rw[if_neg (by omega)];exact⟨_,rfl,rfl,(aB.trans aa).NR aw (λi e=>by omega)⟩
 ·have dM:=hq io;rw[if_pos io];refine Qj (λw'=>Ext w2 w') O$ Oj 0 O O (aa)$ O0 1 O (ZR O O) aa$ TH$ Oj 2 O O (aa)$ Oj 3 O O (aa)$ Oj 4 O O (aa)$ O0 5 O (Pq O) aa$ O0 6 O (OG TY O) aa$ O0 8 O (OG z0x O) aa$ qT 9 O (λ_ h=>O6 U3 O O (h.NX e8) O) aa$ qT 7 O (λ_ h=>O6 U3 O O (h.NX tr) (z4L hR)) aa$ O0 10 O (ymi O O) aa$ O0 11 O (Xq O O) aa ?_;refine TH$ O0 12 O (TA O O) aa$ qE$ It O$ An$ py ?_;have ag:=aa.trans (Ext.Ob w2.drew);have fh:=Ext.Ob w2.drew;have nx:=aa.NX tr;refine Oo [13] (λw'=>Ext w2.drew w') (by kernel_rfl) O$ OW 0 O O (fh)$ OW 1 O O (fh)$ Ot 2 O (Pq O) fh$ Ot 3 O (OG TY O) fh$ OW 5 O O (fh)$ Ot 8 O (Pq O) fh$ Ot 9 O (OG z6Z O) fh$ qL 4 O (λ_ h=>O6 U3 O O (h.NX nx) (z4L hR)) fh$ Ot 6 O (Ww O O (by omega)) fh ?_;rw[show(n:Int)-(ref:Int)=((n-ref:Nat):Int) by omega];refine Ot 7 O (yre O O (by omega)) fh$ Ot 10 O (yia ziB PZ O O (by omega)) fh$ qL 11 O (λ_ h=>OE (news:=[.slice a m cp,I (c:Int)]) WM O PZ O (λj u hj=>by rw[(h.NX nx).cell];exact zcV hR dM j u hj) O) fh ?_;refine Qg (i:=12) (by kernel_rfl)$ PC (i:=12) O O O (QU (cs:=[_,_]) PZ O) ?_;rintro _ w3 ⟨b10,rfl,BH,ah,dr⟩;refine⟨fh.trans ah,?_⟩;refine S8 [13]$ qO 13$ OP (i:=13) O O (P4 (news:=[.slice a m cp,I (c:Int)]) PZ O O O O dr (by simp)) ?_;rintro w4 ⟨bQ,ao⟩;refine⟨trivial,?_⟩;replace bQ:O9 w4 b10 [.slice a m cp,I (c:Int)] 271:=bQ;have z23:=ag.size;have z3:=ah.size;have dw:Ext w2 w4:=(ag.trans ah).NR ao (λi e=>by omega);have z4:=dw.size;have eG:=dw.NX cn;have fi:=dw.NX e8;have af:=Ext.Ob w4;refine qE$ OD.qb (e:=[(2,_),(7,_),(8,_),(9,_),(10,_)]) ?_;refine py ?_;rcases Nat.eq_zero_or_pos m with c0|c0
  ·refine Qj (λw'=>Kp (λi=>i=b8) w4 w') O$ qT 0 O (λ_ hS=>(OE WM O PZ O (O9.cells (n:=2) (hS.NX bQ (by omega)) (news:=[_,_]) O) O)) (af.kp)$ O0 1 O (OG Rw O) (af.kp)$ qT 2 O (λ_ hS=>(O6 OA O O (hS.NX bQ (by omega)) O)) (af.kp)$ O0 3 O (RJ OA O) (af.kp)$ O0 4 O (Xq O O) (af.kp)$ TH$ Oj 5 O O (af.kp)$ qJ 6 O (af.kp)$ qJ 7 O (af.kp)$ qJ 8 O (af.kp)$ qJ 9 O (af.kp)$ qJ 10 O (af.kp)$ qJ 11 O (af.kp) ?_;refine O0 12 O (TA O O) (af.kp)$ Oj 13 O O (af.kp)$ qJ 14 O (af.kp)$ qJ 15 O (af.kp)$ O0 16 O (TA O O) (af.kp)$ Oj 17 O O (af.kp)$ qJ 18 O (af.kp)$ qJ 19 O (af.kp)$ qJ 20 O (af.kp)$ qJ 21 O (af.kp)$ O0 22 O (TA O O) (af.kp)$ Oj 23 O O (af.kp)$ qJ 24 O (af.kp)$ qJ 25 O (af.kp) ?_;refine qJ 26 O (af.kp)$ qJ 27 O (af.kp)$ qJ 28 O (af.kp)$ O0 29 O (TA O O) (af.kp)$ qO 30$ OP (i:=30) O O (P4 (news:=[.slice a m cp,I (c:Int)]) PZ O O O O (af.NX eG) (by simp)) ?_;rintro w5 ⟨bL,ak⟩;refine⟨af.kp.trans ak,?_⟩;replace bL:O9 w5 b8 [.slice a m cp,I (c:Int)] 271:=bL;refine O0 31 O (Qq O) (af.kp.trans ak)$ qE$ OD.qb (e:=[(8,_),(9,_)]) ?_;refine Oz func174 (.cell WM O PZ O (O9.cells (n:=2) bL (news:=[_,_]) O) O (.tmp O .nil)) ?_;have ay:T9 p m size c=false:=decide_eq_false (λh=>by omega);rw[ay];exact⟨_,rfl,rfl,((aB.trans dw).trans af).NR ak (λi e=>by omega)⟩
  ·rcases Nat.lt_or_ge p.most m with c1|c1
   ·refine Qj (λw'=>Kp (λi=>i=b8) w4 w') O$ qT 0 O (λ_ hS=>(OE WM O PZ O (O9.cells (n:=2) (hS.NX bQ (by omega)) (news:=[_,_]) O) O)) (af.kp)$ O0 1 O (OG Rw O) (af.kp)$ qT 2 O (λ_ hS=>(O6 OA O O (hS.NX bQ (by omega)) O)) (af.kp)$ O0 3 O (RJ OA O) (af.kp)$ O0 4 O (Xq O O) (af.kp)$ T4$ Oj 5 O O (af.kp)$ O0 6 O (OG Rw O) (af.kp)$ qT 7 O (λ_ hS=>(O6 OA O O (hS.NX bQ (by omega)) O)) (af.kp)$ O0 8 O (RJ OA O) (af.kp)$ O0 9 O (OG SL O) (af.kp)$ qT 10 O (λ_ hS=>(O6 U3 O O (hS.NX fi (by omega)) O)) (af.kp)$ O0 11 O (Y6 O O) (af.kp) ?_;refine TH$ O0 12 O (TL O O) (af.kp)$ Oj 13 O O (af.kp)$ qJ 14 O (af.kp)$ qJ 15 O (af.kp)$ O0 16 O (TA O O) (af.kp)$ Oj 17 O O (af.kp)$ qJ 18 O (af.kp)$ qJ 19 O (af.kp)$ qJ 20 O (af.kp)$ qJ 21 O (af.kp)$ O0 22 O (TA O O) (af.kp)$ Oj 23 O O (af.kp)$ qJ 24 O (af.kp) ?_;refine qJ 25 O (af.kp)$ qJ 26 O (af.kp)$ qJ 27 O (af.kp)$ qJ 28 O (af.kp)$ O0 29 O (TA O O) (af.kp)$ qO 30$ OP (i:=30) O O (P4 (news:=[.slice a m cp,I (c:Int)]) PZ O O O O (af.NX eG) (by simp)) ?_;rintro w5 ⟨bL,ak⟩;refine⟨af.kp.trans ak,?_⟩;replace bL:O9 w5 b8 [.slice a m cp,I (c:Int)] 271:=bL;refine O0 31 O (Qq O) (af.kp.trans ak)$ qE$ OD.qb (e:=[(8,_),(9,_)]) ?_;refine Oz func174 (.cell WM O PZ O (O9.cells (n:=2) bL (news:=[_,_]) O) O (.tmp O .nil)) ?_;have ay:T9 p m size c=false:=decide_eq_false (λh=>by omega);rw[ay];exact⟨_,rfl,rfl,((aB.trans dw).trans af).NR ak (λi e=>by omega)⟩
   ·rcases Nat.eq_zero_or_pos size with c2|c2
    ·refine Qj (λw'=>Kp (λi=>i=b8) w4 w') O$ qT 0 O (λ_ hS=>(OE WM O PZ O (O9.cells (n:=2) (hS.NX bQ (by omega)) (news:=[_,_]) O) O)) (af.kp)$ O0 1 O (OG Rw O) (af.kp)$ qT 2 O (λ_ hS=>(O6 OA O O (hS.NX bQ (by omega)) O)) (af.kp)$ O0 3 O (RJ OA O) (af.kp)$ O0 4 O (Xq O O) (af.kp)$ T4$ Oj 5 O O (af.kp)$ O0 6 O (OG Rw O) (af.kp)$ qT 7 O (λ_ hS=>(O6 OA O O (hS.NX bQ (by omega)) O)) (af.kp)$ O0 8 O (RJ OA O) (af.kp)$ O0 9 O (OG SL O) (af.kp)$ qT 10 O (λ_ hS=>(O6 U3 O O (hS.NX fi (by omega)) O)) (af.kp)$ O0 11 O (Y6 O O) (af.kp) ?_;refine T4$ O0 12 O (TL O O) (af.kp)$ Oj 13 O O (af.kp)$ Oj 14 O O (af.kp)$ O0 15 O (Xq O O) (af.kp)$ TH$ O0 16 O (TL O O) (af.kp)$ Oj 17 O O (af.kp)$ qJ 18 O (af.kp)$ qJ 19 O (af.kp)$ qJ 20 O (af.kp)$ qJ 21 O (af.kp)$ O0 22 O (TA O O) (af.kp)$ Oj 23 O O (af.kp) ?_;refine qJ 24 O (af.kp)$ qJ 25 O (af.kp)$ qJ 26 O (af.kp)$ qJ 27 O (af.kp)$ qJ 28 O (af.kp)$ O0 29 O (TA O O) (af.kp)$ qO 30$ OP (i:=30) O O (P4 (news:=[.slice a m cp,I (c:Int)]) PZ O O O O (af.NX eG) (by simp)) ?_;rintro w5 ⟨bL,ak⟩;refine⟨af.kp.trans ak,?_⟩;replace bL:O9 w5 b8 [.slice a m cp,I (c:Int)] 271:=bL;refine O0 31 O (Qq O) (af.kp.trans ak)$ qE$ OD.qb (e:=[(8,_),(9,_)]) ?_;refine Oz func174 (.cell WM O PZ O (O9.cells (n:=2) bL (news:=[_,_]) O) O (.tmp O .nil)) ?_;have ay:T9 p m size c=false:=decide_eq_false (λh=>by omega);rw[ay];exact⟨_,rfl,rfl,((aB.trans dw).trans af).NR ak (λi e=>by omega)⟩
    ·rcases Nat.lt_or_ge p.most size with c3|c3
     ·refine Qj (λw'=>Kp (λi=>i=b8) w4 w') O$ qT 0 O (λ_ hS=>(OE WM O PZ O (O9.cells (n:=2) (hS.NX bQ (by omega)) (news:=[_,_]) O) O)) (af.kp)$ O0 1 O (OG Rw O) (af.kp)$ qT 2 O (λ_ hS=>(O6 OA O O (hS.NX bQ (by omega)) O)) (af.kp)$ O0 3 O (RJ OA O) (af.kp)$ O0 4 O (Xq O O) (af.kp)$ T4$ Oj 5 O O (af.kp)$ O0 6 O (OG Rw O) (af.kp)$ qT 7 O (λ_ hS=>(O6 OA O O (hS.NX bQ (by omega)) O)) (af.kp)$ O0 8 O (RJ OA O) (af.kp)$ O0 9 O (OG SL O) (af.kp)$ qT 10 O (λ_ hS=>(O6 U3 O O (hS.NX fi (by omega)) O)) (af.kp)$ O0 11 O (Y6 O O) (af.kp) ?_;refine T4$ O0 12 O (TL O O) (af.kp)$ Oj 13 O O (af.kp)$ Oj 14 O O (af.kp)$ O0 15 O (Xq O O) (af.kp)$ T4$ O0 16 O (TL O O) (af.kp)$ Oj 17 O O (af.kp)$ Oj 18 O O (af.kp)$ O0 19 O (OG SL O) (af.kp)$ qT 20 O (λ_ hS=>(O6 U3 O O (hS.NX fi (by omega)) O)) (af.kp)$ O0 21 O (Y6 O O) (af.kp)$ TH$ O0 22 O (TL O O) (af.kp) ?_;refine Oj 23 O O (af.kp)$ qJ 24 O (af.kp)$ qJ 25 O (af.kp)$ qJ 26 O (af.kp)$ qJ 27 O (af.kp)$ qJ 28 O (af.kp)$ O0 29 O (TA O O) (af.kp)$ qO 30$ OP (i:=30) O O (P4 (news:=[.slice a m cp,I (c:Int)]) PZ O O O O (af.NX eG) (by simp)) ?_;rintro w5 ⟨bL,ak⟩;refine⟨af.kp.trans ak,?_⟩;replace bL:O9 w5 b8 [.slice a m cp,I (c:Int)] 271:=bL;refine O0 31 O (Qq O) (af.kp.trans ak)$ qE$ OD.qb (e:=[(8,_),(9,_)]) ?_;refine Oz func174 (.cell WM O PZ O (O9.cells (n:=2) bL (news:=[_,_]) O) O (.tmp O .nil)) ?_;have ay:T9 p m size c=false:=decide_eq_false (λh=>by omega);rw[ay];exact⟨_,rfl,rfl,((aB.trans dw).trans af).NR ak (λi e=>by omega)⟩
     ·rcases Nat.lt_or_ge c p.chain with c4|c4
      ·refine Qj (λw'=>Kp (λi=>i=b8) w4 w') O$ qT 0 O (λ_ hS=>(OE WM O PZ O (O9.cells (n:=2) (hS.NX bQ (by omega)) (news:=[_,_]) O) O)) (af.kp)$ O0 1 O (OG Rw O) (af.kp)$ qT 2 O (λ_ hS=>(O6 OA O O (hS.NX bQ (by omega)) O)) (af.kp)$ O0 3 O (RJ OA O) (af.kp)$ O0 4 O (Xq O O) (af.kp)$ T4$ Oj 5 O O (af.kp)$ O0 6 O (OG Rw O) (af.kp)$ qT 7 O (λ_ hS=>(O6 OA O O (hS.NX bQ (by omega)) O)) (af.kp)$ O0 8 O (RJ OA O) (af.kp)$ O0 9 O (OG SL O) (af.kp)$ qT 10 O (λ_ hS=>(O6 U3 O O (hS.NX fi (by omega)) O)) (af.kp)$ O0 11 O (Y6 O O) (af.kp) ?_;refine T4$ O0 12 O (TL O O) (af.kp)$ Oj 13 O O (af.kp)$ Oj 14 O O (af.kp)$ O0 15 O (Xq O O) (af.kp)$ T4$ O0 16 O (TL O O) (af.kp)$ Oj 17 O O (af.kp)$ Oj 18 O O (af.kp)$ O0 19 O (OG SL O) (af.kp)$ qT 20 O (λ_ hS=>(O6 U3 O O (hS.NX fi (by omega)) O)) (af.kp)$ O0 21 O (Y6 O O) (af.kp)$ T4$ O0 22 O (TL O O) (af.kp) ?_;refine Oj 23 O O (af.kp)$ O0 24 O (OG z2o O) (af.kp)$ qT 25 O (λ_ hS=>(O6 U3 O O (hS.NX bQ (by omega)) O)) (af.kp)$ O0 26 O (OG Ye O) (af.kp)$ qT 27 O (λ_ hS=>(O6 U3 O O (hS.NX fi (by omega)) O)) (af.kp)$ O0 28 O (ZR O O) (af.kp)$ T4$ O0 29 O (TL O O) (af.kp)$ qO 30$ OP (i:=30) O O (P4 (news:=[.slice a m cp,I (c:Int)]) PZ O O O O (af.NX eG) (by simp)) ?_;rintro w5 ⟨bL,ak⟩;refine⟨af.kp.trans ak,?_⟩;replace bL:O9 w5 b8 [.slice a m cp,I (c:Int)] 271:=bL;refine O0 31 O (Qq O) (af.kp.trans ak)$ qE$ OD.qb (e:=[(8,_),(9,_)]) ?_;refine Oz func174 (.cell WM O PZ O (O9.cells (n:=2) bL (news:=[_,_]) O) O (.tmp O .nil)) ?_;have ay:T9 p m size c=true:=decide_eq_true ⟨by omega,by omega,by omega,by omega,by omega⟩;rw[ay];exact⟨_,rfl,rfl,((aB.trans dw).trans af).NR ak (λi e=>by omega)⟩
      ·refine Qj (λw'=>Kp (λi=>i=b8) w4 w') O$ qT 0 O (λ_ hS=>(OE WM O PZ O (O9.cells (n:=2) (hS.NX bQ (by omega)) (news:=[_,_]) O) O)) (af.kp)$ O0 1 O (OG Rw O) (af.kp)$ qT 2 O (λ_ hS=>(O6 OA O O (hS.NX bQ (by omega)) O)) (af.kp)$ O0 3 O (RJ OA O) (af.kp)$ O0 4 O (Xq O O) (af.kp)$ T4$ Oj 5 O O (af.kp)$ O0 6 O (OG Rw O) (af.kp)$ qT 7 O (λ_ hS=>(O6 OA O O (hS.NX bQ (by omega)) O)) (af.kp)$ O0 8 O (RJ OA O) (af.kp)$ O0 9 O (OG SL O) (af.kp)$ qT 10 O (λ_ hS=>(O6 U3 O O (hS.NX fi (by omega)) O)) (af.kp)$ O0 11 O (Y6 O O) (af.kp) ?_;refine T4$ O0 12 O (TL O O) (af.kp)$ Oj 13 O O (af.kp)$ Oj 14 O O (af.kp)$ O0 15 O (Xq O O) (af.kp)$ T4$ O0 16 O (TL O O) (af.kp)$ Oj 17 O O (af.kp)$ Oj 18 O O (af.kp)$ O0 19 O (OG SL O) (af.kp)$ qT 20 O (λ_ hS=>(O6 U3 O O (hS.NX fi (by omega)) O)) (af.kp)$ O0 21 O (Y6 O O) (af.kp)$ T4$ O0 22 O (TL O O) (af.kp) ?_;refine Oj 23 O O (af.kp)$ O0 24 O (OG z2o O) (af.kp)$ qT 25 O (λ_ hS=>(O6 U3 O O (hS.NX bQ (by omega)) O)) (af.kp)$ O0 26 O (OG Ye O) (af.kp)$ qT 27 O (λ_ hS=>(O6 U3 O O (hS.NX fi (by omega)) O)) (af.kp)$ O0 28 O (ZR O O) (af.kp)$ TH$ O0 29 O (TL O O) (af.kp)$ qO 30$ OP (i:=30) O O (P4 (news:=[.slice a m cp,I (c:Int)]) PZ O O O O (af.NX eG) (by simp)) ?_;rintro w5 ⟨bL,ak⟩;refine⟨af.kp.trans ak,?_⟩;replace bL:O9 w5 b8 [.slice a m cp,I (c:Int)] 271:=bL;refine O0 31 O (Qq O) (af.kp.trans ak)$ qE$ OD.qb (e:=[(8,_),(9,_)]) ?_;refine Oz func174 (.cell WM O PZ O (O9.cells (n:=2) bL (news:=[_,_]) O) O (.tmp O .nil)) ?_;have ay:T9 p m size c=false:=decide_eq_false (λh=>by omega);rw[ay];exact⟨_,rfl,rfl,((aB.trans dw).trans af).NR ak (λi e=>by omega)⟩
abbrev z7v:List (Value×Nat):=List.replicate 17 (.slice none 0 0,0)
theorem z8l (p:PA)(hp:p.PI)(w:World):Oy prog 130 [bpV p] w λu w'=>∃k wp F,u= .tuple #[ptr k 0,I 0]/\O9 w' k (WZ p z7v 0 wp 0) 276/\XI w' wp [] F/\¬F k/\Ext w w'/\w.heap.size<=k/\∀i,F i->w.heap.size<=i:=by
 refine NP (e:=[(0,_)]) func130 O ntmps130 O O$ qN O$ O5 O O (Qr O (cs:=Uf p) O) ?_
 rintro _ w1 ⟨b1,rfl,bK,ad,ai⟩
 have z1:=ad.size
 refine Oc O$ NZ O$ py$ qN O$ qV (OE (news:=Uf p) ZX O QJ O (ai.cells (n:=5) O) O)$ Om zdY O (Z0 p hp w1) ?_
 rintro _ w2 ⟨rfl,ae⟩
 have z2:=ae.size
 have hg:=Ext.Ob w2
 refine Oc O$ qM O$ NT O$ Pz O O$ NU$ It O$ An$ py$ Qj (λw'=>Ext w2 w') O$ qT 0 O (λ_ hS=>OE (news:=Uf p) ZX O QJ O ((hS.NX (ae.NX ai)).cells (n:=5) O) O) hg$ RW 1 O z0O O (Ty _) ?_
 rintro _ w3 ⟨wp,F,rfl,kk,ah,pO⟩
 refine⟨hg.trans ah,?_⟩
 have ee:=hg.trans ah
 have z3:=ee.size
 refine O0 2 O (Rt zg5 O zgm O O) (hg.trans ah)$ qO 3$ R3 (i:=3) O O O (Qr O (cs:=WZ p z7v 0 wp 0) O) ?_
 rintro _ w4 ⟨k,rfl,hk,az,aI⟩
 refine⟨ee.trans az,?_⟩
 refine O0 4 O (Qq O) (ee.trans az)$ O0 5 O (Qq O) (ee.trans az)$ qE$ NV func130 O ?_
 exact⟨_,rfl,k,wp,F,rfl,aI,kk.ext az,λe=>by have:=kk.lt e;omega,((ad.trans ae).trans ee).trans az,by omega,λi hi=>by have:=pO i hi;have:=hg.size;omega⟩
structure PkM (w:World)(k:Nat)(p:PA)(L:List (List Nat))(E:List (Nat×Nat))(bs:List Bool)(F:Nat->Prop)(R:List (Value×Nat))(wp ed:Nat):Prop where
 NX:O9 w k (WZ p R L.length wp ed) 276
 len:R.length=17
 wr:XI w wp bs F
 nk:¬F k
 el:E.length=L.length
 ok:∀l∈L,OQ l
 ring:∀j l e,L[j]? =some l->E[j]? =some e->L.length<=j+17->∃a cp,R[j%17]? =some (.slice a l.length cp,e.2)/\l.length<=cp/\Sl w (.slice a l.length cp) 106 1 l.length (l.map OB)/\(∀g,(Value.slice a l.length cp).ownBlock=some g->¬F g/\g≠k)
theorem PkM.ext {w w':World}{k:Nat}{p:PA}{L:List (List Nat)}{E:List (Nat×Nat)}{bs:List Bool}{F:Nat->Prop}{R:List (Value×Nat)}{wp ed:Nat}(h:PkM w k p L E bs F R wp ed)(hx:Ext w w'):PkM w' k p L E bs F R wp ed:=
 ⟨hx.NX h.NX,h.len,h.wr.ext hx,h.nk,h.el,h.ok,λj l e h1 h2 h3=>by
  obtain⟨a,cp,g1,g2,g3,g4⟩:=h.ring j l e h1 h2 h3
  exact⟨a,cp,g1,g2,g3.ext hx,g4⟩⟩
def Found (p:PA)(L:List (List Nat))(E:List (Nat×Nat))(R:List (Value×Nat))(size ref:Nat)(v:Value)(c:Nat):Prop:=
 (ref=0/\v= .slice none 0 0/\c=0)\/(1<=ref/\ref<=p.Ou/\ref<=L.length/\R[(L.length-ref)%17]? =some (v,c)/\∃l e,L[L.length-ref]? =some l/\E[L.length-ref]? =some e/\c=e.2/\T9 p l.length size e.2=true)
structure AdM (w:World)(k b2 b3 b7 b8 b4 b9:Nat)(a:Option Addr)(m cp n least ref:Nat)(v:Value)(c:Nat):Prop where
 c2:O9 w b2 [ptr k 0] 221
 c3:O9 w b3 [.slice a m cp] 49
 c7:O9 w b7 [I (n:Int)] 3
 c8:O9 w b8 [I (least:Int)] 3
 c4:O9 w b4 [I (ref:Int)] 3
 c9:O9 w b9 [v,I (c:Int)] 271
theorem AdM.kp {S:Nat->Prop}{w w':World}{k b2 b3 b7 b8 b4 b9:Nat}{a:Option Addr}{m cp n least ref:Nat}{v:Value}{c:Nat}(h:AdM w k b2 b3 b7 b8 b4 b9 a m cp n least ref v c)(hk:Kp S w w')(hn:∀i,S i->i≠b2/\i≠b3/\i≠b7/\i≠b8/\i≠b4/\i≠b9):AdM w' k b2 b3 b7 b8 b4 b9 a m cp n least ref v c:=
 ⟨hk.NX h.c2 (λe=>(hn _ e).1 O),hk.NX h.c3 (λe=>(hn _ e).2.1 O),hk.NX h.c7 (λe=>(hn _ e).2.2.1 O),hk.NX h.c8 (λe=>(hn _ e).2.2.2.1 O),hk.NX h.c4 (λe=>(hn _ e).2.2.2.2.1 O),hk.NX h.c9 (λe=>(hn _ e).2.2.2.2.2 O)⟩
theorem AdM.ext {w w':World}{k b2 b3 b7 b8 b4 b9:Nat}{a:Option Addr}{m cp n least ref:Nat}{v:Value}{c:Nat}(h:AdM w k b2 b3 b7 b8 b4 b9 a m cp n least ref v c)(hk:Ext w w'):AdM w' k b2 b3 b7 b8 b4 b9 a m cp n least ref v c:=h.kp (S:=λ_=>False) hk.kp (λi e=>e.elim)
theorem zcq {w:World}{k:Nat}{p:PA}(hp:p.PI){L:List (List Nat)}{E:List (Nat×Nat)}{bs:List Bool}{F:Nat->Prop}{R:List (Value×Nat)}{wp ed:Nat}(h:PkM w k p L E bs F R wp ed)(hG:O9 w 2 (RB .gamma) 317)(hU:O9 w 3 (RB .unary) 317)(hL:L.length<65536)
  {b2 b3 b7 b8 b4 b9:Nat} {a:Option Addr} {cp least ref:Nat} {v:Value} {c:Nat} {succ:List Nat} (hs:OQ succ) (kT:succ.length<=cp) (dL:Rd w (.slice a succ.length cp) 1 succ.length (succ.map OB)) (hA:AdM w k b2 b3 b7 b8 b4 b9 a succ.length cp L.length least ref v c) (hF:Found p L E R succ.length ref v c)
  (hd:b8≠b2/\b8≠b3/\b8≠b7/\b4≠b2/\b4≠b3/\b4≠b7/\b9≠b2/\b9≠b3/\b9≠b7/\b8≠b4/\b8≠b9/\b4≠b9) (r:Nat) (h1:1<=r) (h2:r<=p.Ou):
  Oy prog 173 [I (r:Int),ptr b2 0,ptr b3 0,ptr b7 0,ptr b8 0,ptr b4 0,ptr b9 0] w λu w'=>u= .tuple #[]/\Kp (λi=>i=b8\/i=b4\/i=b9) w w'/\∃least' ref' v' c',AdM w' k b2 b3 b7 b8 b4 b9 a succ.length cp L.length least' ref' v' c'/\Found p L E R succ.length ref' v' c':=by
 have xo:p.Ou<=16:=hp.1.1
 obtain⟨a1,c1,m1,e1,pP,JS⟩:∃a1 c1 m1 e1,(r<=L.length->R[(L.length-r)%17]? =some (.slice a1 m1 c1,e1))/\(r<=L.length->∃l e,L[L.length-r]? =some l/\E[L.length-r]? =some e/\m1=l.length/\e1=e.2/\l.length<=c1/\Sl w (.slice a1 l.length c1) 106 1 l.length (l.map OB)):=by
  by_cases hr:r<=L.length
  ·obtain⟨l,hl⟩:∃l,L[L.length-r]? =some l:=⟨_,List.getElem?_eq_getElem (by omega)⟩;obtain⟨e,he⟩:∃e,E[L.length-r]? =some e:=⟨_,List.getElem?_eq_getElem (by have:=h.el;omega)⟩;obtain⟨a1,c1,g1,g2,g3,g4⟩:=h.ring _ l e hl he (by omega);exact⟨a1,c1,l.length,e.2,λ_=>g1,λ_=>⟨l,e,hl,he,rfl,rfl,g2,g3⟩⟩
  ·exact⟨none,0,0,0,λe=>absurd e hr,λe=>absurd e hr⟩
 have er:=hA.c2
 have pQ:=hA.c3
 have hg:=Ext.Ob w
 have lY:∀{w2:World},O9 w2 k (WZ p R L.length wp ed) 276->∀j u,(Uf p)[j]? =some u->w2.cell? ⟨k,0+j,none⟩=some u:=λhB j u hj=>hB.cells (i:=0) (n:=5) (news:=Uf p) O j u hj
 refine NP (e:=[(0,_),(1,_),(2,_),(3,_),(4,_),(5,_),(6,_)]) func173 O ntmps173 O O$ py$ OX (λe' w'=>∃tb v1 d1 ok,e'=[(0,I (r:Int)),(1,ptr b2 0),(2,ptr b3 0),(3,ptr b7 0),(4,ptr b8 0),(5,ptr b4 0),(6,ptr b9 0),(8,ptr tb 0),(9,.bool ok)]/\Ext w w'/\w.heap.size<=tb/\O9 w' tb [v1,I ((d1:Nat):Int)] 271/\(ok=true->r<=L.length/\v1= .slice a1 m1 c1/\d1=e1/\T9 p m1 succ.length e1=true)) ?cF$ λcF=>?cR
 case cF=>
  rintro e' w1 ⟨tb,v1,d1,ok,rfl,ad,JM,HG,ay⟩;have kO:=hA.ext ad;have tw:=kO.c2;have qU:=kO.c3;have JT:=kO.c7;have HH:=kO.c8;refine py$ qN O$ NT O$ qV ((Rn O))$ NU$ Po O (λh3=>?_)$ λh3=>?_
  ·refine NV func173 O ?_;exact⟨_,rfl,rfl,ad.kp,_,_,_,_,kO,hF⟩
  ·have CP:ok=true:=by cases ok<;>simp_all
   obtain⟨CQ,rfl,rfl,gR⟩:=ay CP;obtain⟨l,e,hl,he,rfl,rfl,iw,JU⟩:=JS CQ;have CR:=pP CQ;have CS:OQ l:=h.ok l (List.mem_of_getElem? hl);have aT:=Ext.Ob w1;refine An$ py$ Qj (λw'=>Ext w1 w') O$ qT 0 O (λ_ h=>(O6 U3 O O (h.NX JT) O)) aT$ qT 1 O (λ_ h=>(O6 OA O O (h.NX qU) O)) aT$ O0 2 O (OG Rw O) aT$ qT 3 O (λ_ h=>(O6 OA O O (h.NX HG) O)) aT$ Oj 4 O O (aT)$ qT 5 O (λ_ h=>(O6 Vk O O (h.NX tw) O)) aT$ O0 6 O (Pq O) aT$ O0 7 O (OG VY O) aT$ qT 8 O (λ_ hS=>OE (news:=Uf p) ZX O QJ O (lY (hS.NX (ad.NX h.NX))) O) aT$ RW 9 O z0G O (S2 p _) ?_;rintro _ w9 ⟨rfl,eY⟩;refine⟨aT.trans eY,?_⟩;have gV:=aT.trans eY;have gu:=ad.trans gV;refine RW 10 O z3Q O (Uq p.list hp.1 L.length hL succ l hs CS r h2 (λe=>by omega) (gu.NX hG) (gu.NX hU) (dL.ext gu) (JU.rd.ext gu) kT iw) ?_;rintro _ w10 ⟨rfl,bC⟩;refine⟨gV.trans bC,?_⟩;have gx:=gV.trans bC;have lJ:=kO.ext gx;have CT:=lJ.c8;have CU:=gx.NX HG
   generalize (Oq (QC p.list L.length succ l r)).length=nb
   refine Oj 11 O O (gV.trans bC)$ O0 12 O (QL O O) (gV.trans bC)$ O0 13 O (QL O O) (gV.trans bC)$ O0 14 O (Qq O) (gV.trans bC)$ O0 15 O (Qq O) (gV.trans bC)$ qE$ OD.qb (e:=[(0,_),(4,_),(5,_),(6,_),(8,_),(10,_)]) ?_;refine qN O$ NT O$ qV (O6 U3 O O CT O)$ Py O O$ NU$ O8 O (λh4=>?_)$ λh4=>?_
   ·have kl:=Ext.Ob w10;have ii:=lJ.ext kl;have lb8:=hA.c8.lt;have lb4:=hA.c4.lt;have lb9:=hA.c9.lt;have JV:¬(tb=b8\/tb=b4\/tb=b9):=by omega
    refine Qj (λw'=>Kp (λi=>i=b8\/i=b4\/i=b9) w10 w') O$ Oj 0 O O (kl.kp)$ Oj 1 O O (kl.kp)$ qT 2 O (λ_ h=>OE WM O PZ O (O9.cells (n:=2) (h.NX CU JV) (news:=[_,_]) O) O) (kl.kp)$ qO 3$ OP (i:=3) O O (PV Pb O O O ii.c8 (by simp)) ?_;rintro w11 ⟨aX,aY⟩;refine⟨kl.kp.trans (aY.Of λi e=> .inl e),?_⟩;have rx:Kp (λi=>i=b8\/i=b4\/i=b9) w10 w11:=kl.kp.trans (aY.Of λi e=> .inl e);have JW:=aY.NX ii.c4 (λe=>hd.2.2.2.2.2.2.2.2.2.1 e.symm);refine qO 4$ OP (i:=4) O O (PV Pb O O O JW (by simp)) ?_;rintro w12 ⟨bh,bc⟩;refine⟨rx.trans (bc.Of λi e=> .inr (.inl e)),?_⟩;have xq:Kp (λi=>i=b8\/i=b4\/i=b9) w10 w12:=rx.trans (bc.Of λi e=> .inr (.inl e));have JX:=bc.NX (aY.NX ii.c9 (λe=>hd.2.2.2.2.2.2.2.2.2.2.1 e.symm)) (λe=>hd.2.2.2.2.2.2.2.2.2.2.2 e.symm);refine qO 5$ OP (i:=5) O O (P4 (news:=[.slice a1 l.length c1,I (e.2:Int)]) PZ O O O O JX (by simp)) ?_;rintro w13 ⟨eH,cU⟩;refine⟨xq.trans (cU.Of λi e=> .inr (.inr e)),?_⟩;replace eH:O9 w13 b9 [.slice a1 l.length c1,I (e.2:Int)] 271:=eH;replace bh:O9 w12 b4 [I (r:Int)] 3:=bh;replace aX:O9 w11 b8 [I (nb:Int)] 3:=aX;refine qE$ PE func173 O ?_;obtain⟨d1,d2,d3,d4,d5,d6,d7,d8,d9,d10,d11,d12⟩:=hd;have jC:∀{b:Nat} {cs:List Value} {T:TypeId},O9 w10.drew b cs T->b8≠b->b4≠b->b9≠b->O9 w13 b cs T:=λhB n1 n2 n3=>cU.NX (bc.NX (aY.NX hB (λe=>n1 e.symm)) (λe=>n2 e.symm)) (λe=>n3 e.symm);refine⟨_,rfl,rfl,?_,nb,r,.slice a1 l.length c1,e.2,⟨jC ii.c2 d1 d4 d7,jC ii.c3 d2 d5 d8,jC ii.c7 d3 d6 d9,cU.NX (bc.NX aX d10) d11,cU.NX bh d12,eH⟩,.inr ⟨h1,h2,CQ,CR,l,e,hl,he,rfl,gR⟩⟩;exact((ad.trans gx).trans kl).kp.trans ((aY.Of λi e=> .inl e).trans ((bc.Of λi e=> .inr (.inl e)).trans (cU.Of λi e=> .inr (.inr e))))
   ·refine An$ PE func173 O ?_;exact⟨_,rfl,rfl,(ad.trans gx).kp,_,_,_,_,lJ,hF⟩
 case cR=>
  rcases Nat.lt_or_ge L.length r with aZ|io
  ·have av:=hg;refine Oo [15] (λw'=>Ext w w') (by kernel_rfl) O$ qL 0 O (λ_ h=>(O6 Vk O O (h.NX er) O)) av$ Ot 1 O (Pq O) av$ Ot 2 O (OG XC O) av$ OW 3 O O (av)$ qL 4 O (λ_ h=>(O6 OA O O (h.NX pQ) O)) av$ Ot 5 O (RJ OA O) av$ qL 6 O (λ_ h=>(O6 Vk O O (h.NX er) O)) av$ Ot 7 O (Pq O) av$ Ot 8 O (OG VY O) av$ qL 9 O (λ_ hS=>OE (news:=Uf p) ZX O QJ O (lY (hS.NX h.NX)) O) av$ WD (i:=10) (j:=14) (by kernel_rfl) ?_ ?_
   ·refine QQ (i:=10) O O O (yc z6E O) (Wf (av.NX h.NX) h.len (by omega) hp r succ.length h1 h2 pP) ?_;rintro _ w10 ⟨lH,bC⟩;refine⟨av.trans bC,?_⟩;rw[if_neg (by omega)] at lH;subst lH
    try have de:=bC.NX de
    have av:=av.trans bC;refine OW 11 O O av$ Ot 12 O (QL O O) av$ Pp (i:=13) O (by kernel_rfl) O O (λ_=>QL O O) av$ Qg (i:=14) (by kernel_rfl)$ PC (i:=14) O O O (QU (cs:=[_,_]) PZ O) ?_;rintro _ w14 ⟨tb,rfl,nr,cX,de⟩;refine⟨av.trans cX,?_⟩;have km:w.heap.size<=tb:=by have:=av.size;omega
    have av:=av.trans cX;refine S8 [15]$ qO 15$ OP (i:=15) O O (P4 (news:=[.slice none 0 0,I ((0:Nat):Int)]) PZ O O O O de (by simp)) ?_;rintro w15 ⟨gy,fG⟩;refine⟨trivial,?_⟩;refine O0 16 O (Qq O) trivial$ qE ?_;exact(cF _ _ ⟨tb,.slice none 0 0,0,false,rfl,av.NR fG (λi e=>by omega),km,gy,λe=>by cases e⟩).qb
   ·refine PC (i:=14) O O O (QU (cs:=[_,_]) PZ O) ?_;rintro _ w14 ⟨tb,rfl,nr,cX,de⟩;refine⟨av.trans cX,?_⟩;have km:w.heap.size<=tb:=by have:=av.size;omega
    have av:=av.trans cX;refine Qg (i:=10) (by kernel_rfl)$ QQ (i:=10) O O O (yc z6E O) (Wf (av.NX h.NX) h.len (by omega) hp r succ.length h1 h2 pP) ?_;rintro _ w10 ⟨lH,bC⟩;refine⟨av.trans bC,?_⟩;rw[if_neg (by omega)] at lH;subst lH
    try have de:=bC.NX de
    have av:=av.trans bC;refine OW 11 O O av$ Ot 12 O (QL O O) av$ Pp (i:=13) O (by kernel_rfl) O O (λ_=>QL O O) av$ S8 [15]$ qO 15$ OP (i:=15) O O (P4 (news:=[.slice none 0 0,I ((0:Nat):Int)]) PZ O O O O de (by simp)) ?_;rintro w15 ⟨gy,fG⟩;refine⟨trivial,?_⟩;refine O0 16 O (Qq O) trivial$ qE ?_;exact(cF _ _ ⟨tb,.slice none 0 0,0,false,rfl,av.NR fG (λi e=>by omega),km,gy,λe=>by cases e⟩).qb
  ·have av:=hg;refine Oo [15] (λw'=>Ext w w') (by kernel_rfl) O$ qL 0 O (λ_ h=>(O6 Vk O O (h.NX er) O)) av$ Ot 1 O (Pq O) av$ Ot 2 O (OG XC O) av$ OW 3 O O (av)$ qL 4 O (λ_ h=>(O6 OA O O (h.NX pQ) O)) av$ Ot 5 O (RJ OA O) av$ qL 6 O (λ_ h=>(O6 Vk O O (h.NX er) O)) av$ Ot 7 O (Pq O) av$ Ot 8 O (OG VY O) av$ qL 9 O (λ_ hS=>OE (news:=Uf p) ZX O QJ O (lY (hS.NX h.NX)) O) av$ WD (i:=10) (j:=14) (by kernel_rfl) ?_ ?_
   ·refine QQ (i:=10) O O O (yc z6E O) (Wf (av.NX h.NX) h.len (by omega) hp r succ.length h1 h2 pP) ?_;rintro _ w10 ⟨lH,bC⟩;refine⟨av.trans bC,?_⟩;rw[if_pos io] at lH;subst lH
    try have de:=bC.NX de
    have av:=av.trans bC;refine OW 11 O O av$ Ot 12 O (QL O O) av$ Pp (i:=13) O (by kernel_rfl) O O (λ_=>QL O O) av$ Qg (i:=14) (by kernel_rfl)$ PC (i:=14) O O O (QU (cs:=[_,_]) PZ O) ?_;rintro _ w14 ⟨tb,rfl,nr,cX,de⟩;refine⟨av.trans cX,?_⟩;have km:w.heap.size<=tb:=by have:=av.size;omega
    have av:=av.trans cX;refine S8 [15]$ qO 15$ OP (i:=15) O O (P4 (news:=[.slice a1 m1 c1,I ((e1:Nat):Int)]) PZ O O O O de (by simp)) ?_;rintro w15 ⟨gy,fG⟩;refine⟨trivial,?_⟩;refine O0 16 O (Qq O) trivial$ qE ?_;exact(cF _ _ ⟨tb,.slice a1 m1 c1,e1,T9 p m1 succ.length e1,rfl,av.NR fG (λi e=>by omega),km,gy,λe=>⟨io,rfl,rfl,e⟩⟩).qb
   ·refine PC (i:=14) O O O (QU (cs:=[_,_]) PZ O) ?_;rintro _ w14 ⟨tb,rfl,nr,cX,de⟩;refine⟨av.trans cX,?_⟩;have km:w.heap.size<=tb:=by have:=av.size;omega
    have av:=av.trans cX;refine Qg (i:=10) (by kernel_rfl)$ QQ (i:=10) O O O (yc z6E O) (Wf (av.NX h.NX) h.len (by omega) hp r succ.length h1 h2 pP) ?_;rintro _ w10 ⟨lH,bC⟩;refine⟨av.trans bC,?_⟩;rw[if_pos io] at lH;subst lH
    try have de:=bC.NX de
    have av:=av.trans bC;refine OW 11 O O av$ Ot 12 O (QL O O) av$ Pp (i:=13) O (by kernel_rfl) O O (λ_=>QL O O) av$ S8 [15]$ qO 15$ OP (i:=15) O O (P4 (news:=[.slice a1 m1 c1,I ((e1:Nat):Int)]) PZ O O O O de (by simp)) ?_;rintro w15 ⟨gy,fG⟩;refine⟨trivial,?_⟩;refine O0 16 O (Qq O) trivial$ qE ?_;exact(cF _ _ ⟨tb,.slice a1 m1 c1,e1,T9 p m1 succ.length e1,rfl,av.NR fG (λi e=>by omega),km,gy,λe=>⟨io,rfl,rfl,e⟩⟩).qb
def PN (L:List (List Nat))(n r:Nat):List Nat:=if r=0 then [] else(L[n-r]?).getD []
def YS (p:PA)(L:List (List Nat))(E:List (Nat×Nat))(n size:Nat)(e:Nat×Nat):Prop:=
 e=(0,0)\/(1<=e.1/\e.1<=p.Ou/\e.1<=n/\∃l e',L[n-e.1]? =some l/\E[n-e.1]? =some e'/\e.2=e'.2+1/\T9 p l.length size e'.2=true)
theorem zeH {j n:Nat}(h1:j<n)(h2:n+1<=j+17):j%17≠n%17:=by omega
theorem PkM.add {w wA wB wC wD wE wF:World}{k:Nat}{p:PA}{L:List (List Nat)}{E:List (Nat×Nat)}{bs bs':List Bool}{F F':Nat->Prop}{R:List (Value×Nat)}{wp ed b4:Nat}(h:PkM w k p L E bs F R wp ed)(kW:Ext w wA)(ja:Kp F wA wB)(AS:XI wB wp bs' F')(pR:∀i,F' i->F i\/wA.heap.size<=i)
  {a':Option Addr} {cp' ch r:Nat} {succ:List Nat} (hs:OQ succ) (CV:Ext wB wC) (vA:Sl wC (.slice a' succ.length cp') 106 1 succ.length (succ.map OB)) (tz:succ.length<=cp') (cx:∀g,(Value.slice a' succ.length cp').ownBlock=some g->wB.heap.size<=g)
  (fE:Kp (λi=>i=k) wC wD) (oJ:Kp (λi=>i=k) wD wE) (tA:Kp (λi=>i=b4) wE wF) (fV:w.heap.size<=b4) (JY:b4<wA.heap.size) (CW:O9 wF k (WZ p (R.set (L.length%17) (.slice a' succ.length cp',ch)) (L.length+1) wp (ed+succ.length)) 276):
  PkM wF k p (L++[succ]) (E++[(r,ch)]) bs' F' (R.set (L.length%17) (.slice a' succ.length cp',ch)) wp (ed+succ.length)/\Kp (λi=>F i\/i=k) w wF/\∀i,F' i->F i\/w.heap.size<=i:=by
 have lk:=h.NX.lt
 have zA:=kW.size
 have zB:=ja.size
 have jR:∀i,F i->i<w.heap.size:=λi hi=>h.wr.lt hi
 have ny:∀i,F' i->i<wB.heap.size:=λi hi=>AS.lt hi
 have tB:¬F' k:=λe=>by rcases pR k e with e|e;exact h.nk e;omega
 have CX:¬F' b4:=λe=>by rcases pR b4 e with e|e;(have:=jR _ e;omega);omega
 have CY:∀{v:Value} {n:Nat} {cs:List Value},Sl w v 106 1 n cs->(∀g,v.ownBlock=some g->¬F g/\g≠k)->Sl wF v 106 1 n cs:=λhS hg=>
  ((((((hS.ext kW).kp ja (λg e=>(hg g e).1)).ext CV).kp fE (λg e=>(hg g e).2)).kp oJ (λg e=>(hg g e).2)).kp tA (λg e e'=>by have:=hS.lt e;omega))
 have JZ:=((vA.kp fE (λg e e'=>by have:=cx g e;omega)).kp oJ (λg e e'=>by have:=cx g e;omega)).kp tA (λg e e'=>by have:=cx g e;omega)
 refine⟨⟨by rw[List.length_append,List.length_singleton];exact CW,by rw[List.length_set];exact h.len,(((AS.ext CV).kp fE (λi hi e=>tB (e▸hi))).kp oJ (λi hi e=>tB (e▸hi))).kp tA (λi hi e=>CX (e▸hi)),tB,by rw[List.length_append,List.length_append,h.el];rfl,λl hl=>?_,λj l e h1 h2 h3=>?_⟩,?_,λi hi=>?_⟩
 ·rcases List.mem_append.1 hl with hl|hl
  ·exact h.ok l hl
  ·rw[List.mem_singleton.1 hl];exact hs
 ·rw[List.length_append,List.length_singleton] at h3;rcases Nat.lt_or_ge j L.length with hj|hj
  ·rw[List.getElem?_append_left hj] at h1;rw[List.getElem?_append_left (by rw[h.el];exact hj)] at h2;obtain⟨a,cp,g1,g2,g3,g4⟩:=h.ring j l e h1 h2 (by omega);refine⟨a,cp,?_,g2,CY g3 g4,λg hg=>⟨λe'=>?_,(g4 g hg).2⟩⟩
   ·rw[List.getElem?_set_ne (λe'=>zeH hj (by omega) e'.symm)];exact g1
   ·rcases pR g e' with e'|e'
    ·exact(g4 g hg).1 e'
    ·have:=g3.lt hg;omega
  ·have CZ:=(List.getElem?_eq_some_iff.1 h1).1;rw[List.length_append,List.length_singleton] at CZ;have ej:j=L.length:=by omega
   subst ej;rw[List.getElem?_append_right (Nat.le_refl _),Nat.sub_self,List.getElem?_cons_zero] at h1;rw[List.getElem?_append_right (by rw[h.el];exact Nat.le_refl _),h.el,Nat.sub_self,List.getElem?_cons_zero] at h2;cases h1;cases h2;refine⟨a',cp',List.getElem?_set_self (by rw[h.len];exact Nat.mod_lt _ (by decide)),tz,JZ,λg hg=>⟨λe'=>?_,λe'=>?_⟩⟩
   ·have:=cx g hg;have:=ny g e';omega
   ·have:=cx g hg;omega
 ·exact((((kW.kp.trans (ja.Of λi e=> .inl e)).trans CV.kp).trans (fE.Of λi e=> .inr e)).trans (oJ.Of λi e=> .inr e)).NR tA (λi e=> .inl (by omega))
 ·rcases pR i hi with e| e
  ·exact .inl e
  ·exact .inr (by omega)
theorem z8y {w:World}{k:Nat}{p:PA}(hp:p.PI){L:List (List Nat)}{E:List (Nat×Nat)}{bs:List Bool}{F:Nat->Prop}{R:List (Value×Nat)}{wp ed:Nat}(h:PkM w k p L E bs F R wp ed)(hG:O9 w 2 (RB .gamma) 317)(hU:O9 w 3 (RB .unary) 317)(hL:L.length<65536)
  {a:Option Addr} {cp:Nat} {succ:List Nat} (hs:OQ succ) (kT:succ.length<=cp) (dL:Rd w (.slice a succ.length cp) 1 succ.length (succ.map OB)) (vB:ed+succ.length<=1048576) (K0:∀g,0<succ.length->(Value.slice a succ.length cp).ownBlock=some g->¬F g/\g≠k)
  (nz:∀r,r<=p.Ou->bs.length+(Oq (QC p.list L.length succ (PN L L.length r) r)).length<=134217728):
  Oy prog 132 [ptr k 0,.slice a succ.length cp] w λu w'=>∃(r least ch:Nat) (F':Nat->Prop) (R':List (Value×Nat)),u= .tuple #[I (r:Int),I (least:Int),I 0]/\YS p L E L.length succ.length (r,ch)/\
   PkM w' k p (L++[succ]) (E++[(r,ch)]) (bs++Oq (QC p.list L.length succ (PN L L.length r) r)) F' R' wp (ed+succ.length)/\Kp (λi=>F i\/i=k) w w'/\∀i,F' i->F i\/w.heap.size<=i:=by
 have xo:p.Ou<=16:=hp.1.1
 have lk:=h.NX.lt
 have lY:∀{w2:World},O9 w2 k (WZ p R L.length wp ed) 276->∀j u,(Uf p)[j]? =some u->w2.cell? ⟨k,0+j,none⟩=some u:=λhB j u hj=>hB.cells (i:=0) (n:=5) (news:=Uf p) O j u hj
 refine NP (e:=[(0,_),(1,_)]) func132 O ntmps132 O O$ qN O$ O5 O O (Qr O (cs:=[ptr k 0]) O) ?_
 rintro _ w1 ⟨b2,rfl,bU,ad,am⟩
 refine O5 O O (Qr O (cs:=[.slice a succ.length cp]) O) ?_
 rintro _ w2 ⟨b3,rfl,f7,ae,au⟩
 refine O5 O O (QU (cs:=[_]) Pb O) ?_
 rintro _ w3 ⟨b4,rfl,fV,ah,aI⟩
 have z1:=ad.size
 have z2:=ae.size
 have z3:=ah.size
 have lb2:=am.lt
 have lb3:=au.lt
 have lb4:=aI.lt
 have da:=(ad.trans ae).trans ah
 have cS:=ah.NX (ae.NX am)
 have eC:=ah.NX au
 have nx:=da.NX h.NX
 replace aI:O9 w3 b4 [I ((0:Nat):Int)] 3:=aI
 refine Oc O$ NZ O$ py$ NQ$ qN O$ qV ((O6 Vk O O cS O))$ qV (Pt Vk O O)$ NZ O$ It O$ qN O$ qV ((O6 Vk O O cS O))$ OH O$ Og XC O$ Og TY O ?_
 refine qV (O6 U3 O O nx (z4L h.len))$ SB O O$ OR$ NZ O$ It O$ An$ NS$ qN O$ qV ((O6 Vk O O cS O))$ OH O$ Og XC O$ Og TY O$ qV (O6 U3 O O nx (z4L h.len))$ O5 O O (QU (cs:=[_]) Pb O) ?_
 rintro _ w4 ⟨b7,rfl,jQ,az,bN⟩
 have z4:=az.size
 have lb7:=bN.lt
 refine Oe O (PV Pb O O O bN (by simp)) ?_
 rintro w5 ⟨lU,ak⟩
 replace lU:O9 w5 b7 [I (L.length:Int)] 3:=lU
 have bT:Ext w3 w5:=az.NR ak (λi e=>by omega)
 have bO:=da.trans bT
 have z5:=bT.size
 have z45:=ak.size
 have xt:=bO.NX h.NX
 have dO:=bT.NX cS
 have cV:=bT.NX eC
 have aM:=bT.NX aI
 have dT:=Ext.Ob w5
 refine NU$ py$ OX (λe' w'=>∃b8 least,e'=[(2,ptr b2 0),(3,ptr b3 0),(4,ptr b4 0),(7,ptr b7 0),(8,ptr b8 0),(6,I 0)]/\Ext w5 w'/\w5.heap.size<=b8/\O9 w' b8 [I ((least:Nat):Int)] 3) ?cF$ λcF=>?cR
 case cF =>
  rintro e' w6 ⟨b8,least0,rfl,aH,ib,cn⟩;have z6:=aH.size;have lb8:=cn.lt;have iD:=bO.trans aH;have D2:=aH.NX xt;have j7:=aH.NX dO;have lF:=aH.NX cV;have cm:=Ext.Ob w6;refine py$ NQ$ qN O$ NT O$ Pz O O$ NZ O$ It O$ py$ Qj (λw'=>Ext w6 w') O$ qT 0 O (λ_ h=>(O6 Vk O O (h.NX j7) O)) cm$ O0 1 O (Pq O) cm$ O0 2 O (OG z27 O) cm$ qT 4 O (λ_ h=>(O6 OA O O (h.NX lF) O)) cm$ O0 5 O (RJ OA O) cm ?_;refine qT 3 O (λ_ hS=>O6 U3 O O (hS.NX D2) (zhc h.len)) cm$ O0 6 O (TK O O (by omega)) cm$ O0 7 O (Xq O O) cm$ TH$ O0 8 O (Qq O) cm$ qE$ It O$ An$ NS$ qN O ?_;have zg6:=cm.size;refine O5 O O (QU (cs:=[_,_]) PZ O) ?_;rintro _ w7 ⟨b9,rfl,oF,bV,cL⟩;have lb9:=cL.lt;have gz:=cm.trans bV;have gS:=iD.trans gz;have pS:=aH.trans gz;have z7:=gS.size;have z67:=gz.size;have D3:=gS.NX h.NX;have AJ:AdM w7 k b2 b3 b7 b8 b4 b9 a succ.length cp L.length least0 0 (.slice none 0 0) 0:=⟨gz.NX j7,gz.NX lF,pS.NX lU,gz.NX cn,pS.NX aM,cL⟩;have hd:b8≠b2/\b8≠b3/\b8≠b7/\b4≠b2/\b4≠b3/\b4≠b7/\b9≠b2/\b9≠b3/\b9≠b7/\b8≠b4/\b8≠b9/\b4≠b9:=by omega
  refine qM O$ qV (ymf (first:=[]) (caps:=[.tmp 2,.tmp 3,.tmp 7,.tmp 8,.tmp 4,.tmp 9]) O O)$ NZ O$ py$ qN O ?_;have D4:=AJ.c2;refine qV (O6 Vk O O D4 O)$ OH O$ Og VY O$ Og z0x O$ qV (O6 U3 O O D3 O)$ NT O$ NU$ OD.qb (e:=[(2,_),(3,_),(4,_),(6,_),(7,_),(8,_),(9,_),(10,_),(58,_),(59,_)]) ?_;refine NQ$ Qm (α:=Nat) (0) (λi=>[(2,ptr b2 0),(3,ptr b3 0),(4,ptr b4 0),(7,ptr b7 0),(8,ptr b8 0),(9,ptr b9 0),(10,.func (.func 173) #[] #[ptr b2 0,ptr b3 0,ptr b7 0,ptr b8 0,ptr b4 0,ptr b9 0]),(58,I (p.Ou:Int)),(59,I (i:Int))]) (λi w'=>Ext w w'/\w7.heap.size<=w'.heap.size/\i<=p.Ou/\∃least ref v c,AdM w' k b2 b3 b7 b8 b4 b9 a succ.length cp L.length least ref v c/\Found p L E R succ.length ref v c) (λi=>p.Ou-i) ?hI ?hround
  case hI=>exact⟨gS,Nat.le_refl _,Nat.zero_le _,_,_,_,_,AJ,.inl ⟨rfl,rfl,rfl⟩⟩
  case hround=>
   rintro i wA ⟨kW,Nb,hi,least,ref,v,c,hA,hF⟩ ih
   try dsimp only
   refine qN O$ Py O O$ NU$ py$ O8 O (λh0=>?_)$ λh0=>?_
   ·refine An$ py$ NQ$ qN O$ NT O$ NZ O$ NW O$ Od O O$ P6 O O ?_;rw[show(i:Int)+1=((i+1:Nat):Int) by omega];refine PG O O (R0 zgg O O) (zcq hp (h.ext kW) (kW.NX hG) (kW.NX hU) hL hs kT (dL.ext kW) hA hF hd (i+1) (by omega) (by omega)) ?_;rintro _ w9 ⟨rfl,aL,least',ref',v',c',rg,K4⟩;have z9:=aL.size;refine NU$ NS$ NW O$ P6 O O$ NT O$ NU ?_;exact(ih (i+1) _ ⟨kW.NR aL (λi hi=>by omega),by omega,by omega,_,_,_,_,rg,K4⟩ (by omega)).qb
   ·have iX:∀b,w.heap.size<=b->¬F b:=λb hb e=>by have:=h.wr.lt e;omega
    have tC:=kW.NX h.NX
    have BT:ref<=p.Ou/\(ref=0->PN L L.length ref=[])/\OQ (PN L L.length ref)/\(∃va vc,v= .slice va (PN L L.length ref).length vc/\(PN L L.length ref).length<=vc/\Rd wA (.slice va (PN L L.length ref).length vc) 1 (PN L L.length ref).length ((PN L L.length ref).map OB))/\YS p L E L.length succ.length (ref,if 0<ref then c+1 else 0)/\c<=65536:=by
     rcases hF with⟨rfl,rfl,rfl⟩|⟨f1,f2,f3,f4,l,e,f5,f6,rfl,f8⟩
     ·refine⟨Nat.zero_le _,λ_=>rfl,⟨List.Pairwise.nil,λy h=>(by cases h)⟩,⟨none,0,rfl,Nat.zero_le _,Uy⟩,.inl rfl,Nat.zero_le _⟩
     ·have jH:PN L L.length ref=l:=by unfold PN;rw[if_neg (by omega),f5];rfl
      obtain⟨va,vc,g1,g2,g3,g4⟩:=h.ring _ l e f5 f6 (by omega);rw[f4] at g1;have gv:v= .slice va l.length vc:=(Prod.mk.inj (PJ g1)).1;have hb:=of_decide_eq_true f8;have K5:=hp.2.1;rw[jH];exact⟨f2,λe=>by omega,h.ok l (List.mem_of_getElem? f5),⟨va,vc,gv,g2,(g3.ext kW).rd⟩,.inr ⟨f1,f2,f3,l,e,f5,f6,by dsimp only;rw[if_pos (by omega)],f8⟩,by omega⟩
    obtain⟨cY,dv,co,⟨va,vc,rfl,bH,ck⟩,gW,K6⟩:=BT;have D5:=nz ref cY
    generalize D6:PN L L.length ref=lr at dv co bH ck D5 hA
    have pj:=hA.c2;have vp:=hA.c3;have D7:=hA.c7;have xv:=hA.c9;have xw:=hA.c4;have D8:=hA.c8;have ko:=Ext.Ob wA;refine O4 O$ py$ py$ Qj (λw'=>Kp F wA w') O$ qT 0 O (λ_ hS=>(O6 Vk O O (hS.NX pj (iX _ (by omega))) O)) (ko.kp)$ O0 1 O (Pq O) (ko.kp)$ O0 2 O (OG z2P O) (ko.kp)$ qT 4 O (λ_ hS=>(O6 U3 O O (hS.NX D7 (iX _ (by omega))) O)) (ko.kp)$ qT 5 O (λ_ hS=>(O6 OA O O (hS.NX vp (iX _ (by omega))) O)) (ko.kp)$ O0 6 O (OG Rw O) (ko.kp)$ qT 7 O (λ_ hS=>(O6 OA O O (hS.NX xv (iX _ (by omega))) O)) (ko.kp)$ qT 8 O (λ_ hS=>(O6 U3 O O (hS.NX xw (iX _ (by omega))) O)) (ko.kp)$ qT 9 O (λ_ hS=>(O6 Vk O O (hS.NX pj (iX _ (by omega))) O)) (ko.kp)$ O0 10 O (Pq O) (ko.kp) ?_;refine O0 11 O (OG VY O) (ko.kp)$ qT 3 O (λ_ hS=>O6 z2M O O (hS.NX tC h.nk) (zer h.len)) (ko.kp)$ qT 12 O (λ_ hS=>OE (news:=Uf p) ZX O QJ O (lY (hS.NX tC h.nk)) O) (ko.kp)$ RW 13 O z0G O (S2 p _) ?_;rintro _ w9 ⟨rfl,eY⟩;refine⟨(ko.trans eY).kp,?_⟩;have lZ:=ko.trans eY;have gu:=kW.trans lZ;refine RW 14 O zd5 O (YM (h.wr.ext gu) p.list hp.1 L.length hL succ lr hs co ref cY dv (gu.NX hG) (gu.NX hU) (dL.ext gu) (ck.ext lZ) kT bH D5) ?_;rintro _ wB ⟨rfl,F',AS,ja,pR⟩;refine⟨lZ.kp.trans ja,?_⟩;have iE:Kp F wA wB:=lZ.kp.trans ja;have D9:∀i,F' i->F i\/wA.heap.size<=i:=λi hi=>(pR i hi).imp id (λe=>by have:=lZ.size;omega);have xy:=iE.NX xw (iX _ (by omega));have Da:=iE.NX xv (iX _ (by omega));have xz:=iE.NX pj (iX _ (by omega));have xA:=iE.NX vp (iX _ (by omega));have Db:=iE.NX D8 (iX _ (by omega));have Dc:=iE.NX tC h.nk;have zAB:=iE.size;have Dd:Rd wB (.slice a succ.length cp) 1 succ.length (succ.map OB):=(dL.ext kW).kpz iE (λh0 g hg=>(K0 g h0 hg).1);refine O0 15 O (Qq O) (lZ.kp.trans ja)$ qE$ OD.qb (e:=[(2,_),(3,_),(4,_),(8,_),(9,_),(12,_)]) ?_;refine qN O$ NT O$ Pz O O$ NU$ It O$ An$ qN O$ NZ O$ py$ qN O$ qV ((O6 U3 O O xy O))$ PD O O$ NU$ OX (λe' w'=>e'=[(2,ptr b2 0),(3,ptr b3 0),(4,ptr b4 0),(8,ptr b8 0),(13,I ((if 0<ref then c+1 else 0:Nat):Int))]/\w'=wB) ?av$ λav=>?dW
    case av=>
     rintro e' wB' ⟨rfl,rfl⟩
     generalize (if 0<ref then c+1 else 0)=ch at gW
     have pT:=Ext.Ob wB';have AU:∀i,i<wB'.heap.size->¬(Value.slice none 0 0).ownBlock=some i:=λi _ e=>by cases e
     refine py$ Qj (λw'=>Kp (λi=>i=k) wB' w') O$ qT 0 O (λ_ hS=>(O6 Vk O O (hS.NX xz (by omega)) O)) (pT.kp)$ O0 1 O (Pq O) (pT.kp)$ O0 2 O (OG XC O) (pT.kp)$ qT 3 O (λ_ hS=>(O6 OA O O (hS.NX xA (by omega)) O)) (pT.kp)$ Oj 5 O O (pT.kp)$ qO 4$ R3 (i:=4) O O O (pap OA O7 O (by decide) O O (Sl.nil _ _ _) (Dd.ext pT) (z2K _) (by omega) (by simp only[maxLen];omega)) ?_;rintro v' wC ⟨vA,jE,K7,-⟩;refine⟨pT.kp.trans (jE.Of λi e=>by cases e),?_⟩;have kq:Ext wB' wC:=pT.trans ((Ext.refl _).NR jE (λi e=>by cases e));rw[Nat.zero_add,List.nil_append] at vA;obtain⟨a',cp',rfl,-⟩:=vA.rd.shape
     have tz:succ.length<=cp':=by
      rcases vA.shape with⟨e,h0⟩|⟨g,c1,hv,du⟩
      ·omega
      ·cases hv;exact du
     have xB:∀g,(Value.slice a' succ.length cp').ownBlock=some g->wB'.heap.size<=g:=λg hg=>by
      rcases K7 g hg with e| e
      ·cases e
      ·have:=pT.size;omega
     have De:=kq.NX Dc;refine RW 6 O zhq O (zbt De h.len (by omega) a' succ.length cp' ch) ?_;rintro _ wD ⟨rfl,HI,fE⟩;refine⟨kq.kp.trans fE,?_⟩;have cK:(R.set (L.length%17) (.slice a' succ.length cp',ch)).length=17:=by rw[List.length_set];exact h.len
     have Df:=fE.NX (kq.NX xz) (by omega);have Dg:=fE.NX (kq.NX xA) (by omega);have Dh:=fE.NX (kq.NX xy) (by omega);have Di:=fE.NX (kq.NX Db) (by omega);have nA:=Ext.Ob wD;refine qE$ py$ Oo [9] (λw'=>Ext wD w') (by kernel_rfl) O$ qL 0 O (λ_ h=>(O6 Vk O O (h.NX Df) O)) nA$ Ot 1 O (Pq O) nA$ Ot 2 O (OG z27 O) nA$ qL 4 O (λ_ h=>(O6 OA O O (h.NX Dg) O)) nA$ Ot 5 O (RJ OA O) nA$ qL 3 O (λ_ h=>O6 U3 O O (h.NX HI) (zhc cK)) nA$ Ot 6 O (TK O O (by omega)) nA$ Ot 7 O (Pq O) nA$ Ot 8 O (OG z27 O) nA$ S8 [9]$ qO 9 ?_;refine OP (i:=9) O O (PV Pb O O O (nA.NX HI) (by rw[z6j cK];decide)) ?_;rintro wE ⟨AV,Dj⟩;refine⟨trivial,?_⟩;replace AV:O9 wE k ((WZ p (R.set (L.length%17) (.slice a' succ.length cp',ch)) (L.length+1) wp ed).set 41 (I ((ed+succ.length:Nat):Int))) 276:=AV;rw[zbJ cK] at AV;have oJ:Kp (λi=>i=k) wD wE:=nA.kp.trans Dj;have tD:=oJ.NX Dh (by omega);have Dk:=oJ.NX Di (by omega);have pU:=Ext.Ob wE;refine qE$ py$ Qj (λw'=>Kp (λi=>i=b4) wE w'/\O9 w' b4 [I (ref:Int)] 3) O$ qT 0 O (λ_ h=>(O6 U3 O O h.2 O)) (⟨pU.kp,pU.NX tD⟩)$ qT 1 O (λ_ hS=>(O6 U3 O O (hS.1.NX Dk (by omega)) O)) (⟨pU.kp,pU.NX tD⟩)$ qO 2$ OP (i:=2) O O (PV Pb O O O (pU.NX tD) (by simp)) ?_;rintro wF ⟨m5,pV⟩;refine⟨⟨pU.kp.trans pV,m5⟩,?_⟩;replace m5:O9 wF b4 [I (ref:Int)] 3:=m5;have tA:Kp (λi=>i=b4) wE wF:=pU.kp.trans pV;have CW:=tA.NX AV (by omega);refine O0 3 O (Qq O) (⟨pU.kp.trans pV,m5⟩)$ O0 4 O (Qq O) (⟨pU.kp.trans pV,m5⟩)$ qE$ OD.qb (e:=[(4,_),(5,_),(6,_)]) ?_;refine Oz func132 (.cell1 U3 O O ((m5).cell _) (.tmp O (.tmp O .nil))) ?_;obtain⟨q1,q2,q3⟩:=h.add (r:=ref) kW iE AS D9 hs kq vA tz xB fE oJ tA (by omega) (by omega) CW;exact⟨_,rfl,ref,least,ch,F',_,rfl,gW,by rw[D6];exact q1,q2,q3⟩
    case dW=>
     refine O8 O (λh5=>?_)$ λh5=>?_
     ·refine NW O$ Og z2o O$ qV (O6 U3 O O Da O)$ P6 O O$ NZ O ?_;rw[show(c:Int)+1=((if 0<ref then c+1 else 0:Nat):Int) by rw[if_pos (by omega)];omega];exact(av _ _ ⟨rfl,rfl⟩).qb
     ·refine An ?_;have jg:(if 0<ref then c+1 else 0)=0:=if_neg (by omega);exact(av _ _ ⟨by rw[jg],rfl⟩).qb
 case cR=>
  have av:=dT;refine Oo [12] (λw'=>Ext w5 w') (by kernel_rfl) O$ qL 0 O (λ_ h=>(O6 U3 O O (h.NX lU) O)) av$ qL 1 O (λ_ h=>(O6 OA O O (h.NX cV) O)) av$ qL 2 O (λ_ h=>(O6 Vk O O (h.NX dO) O)) av$ Ot 3 O (Pq O) av$ Ot 4 O (OG VY O) av$ qL 5 O (λ_ h=>OE (news:=Uf p) ZX O QJ O (lY (h.NX xt)) O) av$ WD (i:=6) (j:=11) (by kernel_rfl) ?_ ?_
  ·refine QQ (i:=6) O O O (yc z0G O) (S2 p _) ?_;rintro _ w6 ⟨rfl,aH⟩;refine⟨av.trans aH,?_⟩
   try have aX:=aH.NX aX
   have av:=av.trans aH;refine WD (i:=7) (j:=11) (by kernel_rfl) ?_ ?_
   ·refine QQ (i:=7) O O O (yc z3Q O) (Uq p.list hp.1 L.length hL succ [] hs ⟨List.Pairwise.nil,λy h=>(by cases h)⟩ 0 (Nat.zero_le _) (λ_=>rfl) ((bO.trans av).NX hG) ((bO.trans av).NX hU) (dL.ext (bO.trans av)) Uy kT (Nat.zero_le _)) ?_;rintro _ w7 ⟨rfl,bV⟩;refine⟨av.trans bV,?_⟩
    try have aX:=bV.NX aX
    have av:=av.trans bV;refine OW 8 O O av$ Ot 9 O (QL O O) av$ Pp (i:=10) O (by kernel_rfl) O O (λ_=>QL O O) av$ Qg (i:=11) (by kernel_rfl)$ PC (i:=11) O O O (QU (cs:=[_]) Pb O) ?_;rintro _ w11 ⟨b8,rfl,j9,aQ,aX⟩;refine⟨av.trans aQ,?_⟩;have nB:w5.heap.size<=b8:=by have:=av.size;omega
    have av:=av.trans aQ;refine S8 [12]$ qO 12$ OP (i:=12) O O (PV Pb O O O aX (by simp)) ?_;rintro w12 ⟨bh,bc⟩;refine⟨trivial,?_⟩;refine O0 13 O (Qq O) trivial$ qE$ OD.qb (e:=[(2,_),(3,_),(4,_),(5,_),(6,_),(7,_),(8,_)]) ?_;exact(cF _ _ ⟨b8,_,rfl,av.NR bc (λi e=>by omega),nB,bh⟩).qb
   ·refine PC (i:=11) O O O (QU (cs:=[_]) Pb O) ?_;rintro _ w11 ⟨b8,rfl,j9,aQ,aX⟩;refine⟨av.trans aQ,?_⟩;have nB:w5.heap.size<=b8:=by have:=av.size;omega
    have av:=av.trans aQ;refine Qg (i:=7) (by kernel_rfl)$ QQ (i:=7) O O O (yc z3Q O) (Uq p.list hp.1 L.length hL succ [] hs ⟨List.Pairwise.nil,λy h=>(by cases h)⟩ 0 (Nat.zero_le _) (λ_=>rfl) ((bO.trans av).NX hG) ((bO.trans av).NX hU) (dL.ext (bO.trans av)) Uy kT (Nat.zero_le _)) ?_;rintro _ w7 ⟨rfl,bV⟩;refine⟨av.trans bV,?_⟩
    try have aX:=bV.NX aX
    have av:=av.trans bV;refine OW 8 O O av$ Ot 9 O (QL O O) av$ Pp (i:=10) O (by kernel_rfl) O O (λ_=>QL O O) av$ S8 [12]$ qO 12$ OP (i:=12) O O (PV Pb O O O aX (by simp)) ?_;rintro w12 ⟨bh,bc⟩;refine⟨trivial,?_⟩;refine O0 13 O (Qq O) trivial$ qE$ OD.qb (e:=[(2,_),(3,_),(4,_),(5,_),(6,_),(7,_),(8,_)]) ?_;exact(cF _ _ ⟨b8,_,rfl,av.NR bc (λi e=>by omega),nB,bh⟩).qb
  ·refine PC (i:=11) O O O (QU (cs:=[_]) Pb O) ?_;rintro _ w11 ⟨b8,rfl,j9,aQ,aX⟩;refine⟨av.trans aQ,?_⟩;have nB:w5.heap.size<=b8:=by have:=av.size;omega
   have av:=av.trans aQ;refine Qg (i:=6) (by kernel_rfl)$ QQ (i:=6) O O O (yc z0G O) (S2 p _) ?_;rintro _ w6 ⟨rfl,aH⟩;refine⟨av.trans aH,?_⟩
   try have aX:=aH.NX aX
   have av:=av.trans aH;refine Qg (i:=7) (by kernel_rfl)$ QQ (i:=7) O O O (yc z3Q O) (Uq p.list hp.1 L.length hL succ [] hs ⟨List.Pairwise.nil,λy h=>(by cases h)⟩ 0 (Nat.zero_le _) (λ_=>rfl) ((bO.trans av).NX hG) ((bO.trans av).NX hU) (dL.ext (bO.trans av)) Uy kT (Nat.zero_le _)) ?_;rintro _ w7 ⟨rfl,bV⟩;refine⟨av.trans bV,?_⟩
   try have aX:=bV.NX aX
   have av:=av.trans bV;refine OW 8 O O av$ Ot 9 O (QL O O) av$ Pp (i:=10) O (by kernel_rfl) O O (λ_=>QL O O) av$ S8 [12]$ qO 12$ OP (i:=12) O O (PV Pb O O O aX (by simp)) ?_;rintro w12 ⟨bh,bc⟩;refine⟨trivial,?_⟩;refine O0 13 O (Qq O) trivial$ qE$ OD.qb (e:=[(2,_),(3,_),(4,_),(5,_),(6,_),(7,_),(8,_)]) ?_;exact(cF _ _ ⟨b8,_,rfl,av.NR bc (λi e=>by omega),nB,bh⟩).qb
section
variable {w:World}{k:Nat}{p:PA}{L:List (List Nat)}{E:List (Nat×Nat)}{bs:List Bool}{F:Nat->Prop}{R:List (Value×Nat)}{wp ed:Nat}
theorem z6m (h:PkM w k p L E bs F R wp ed)(hl:bs.length<=9223372036854775):Oy prog 133 [ptr k 0] w λu w'=>u=I (bs.length:Int)/\Ext w w':=by
 refine NP (e:=[(0,_)]) func133 O ntmps133 O O ?_
 have hg:=Ext.Ob w
 refine qN O$ NZ O$ py$ qN O$ NT O$ qV (Pt Vk O O)$ NU$ It O$ An$ py$ Qj (λw'=>Ext w w') O$ Oj 0 O O (hg)$ O0 1 O (Pq O) hg$ O0 2 O (OG zcI O) hg ?_
 refine Oj 4 O O (hg)$ O0 5 O (Pq O) hg$ O0 6 O (OG z2P O) hg$ qT 3 O (λ_ hS=>O6 U3 O O (hS.NX h.NX) (zjk h.len)) hg$ qT 7 O (λ_ hS=>O6 z2M O O (hS.NX h.NX) (zer h.len)) hg$ RW 8 O z1K O (Uu (h.wr.ext hg)) ?_
 rintro _ w1 ⟨rfl,rfl⟩
 refine⟨hg,?_⟩
 refine O0 9 O (TK O O (by omega)) hg$ O0 10 O (Qq O) hg$ qE ?_
 rw[show(0:Int)+(bs.length:Int)=(bs.length:Int) by omega]
 refine NV func133 O ?_
 exact⟨_,rfl,rfl,hg⟩
theorem z4P (h:PkM w k p L E bs F R wp ed):Oy prog 134 [ptr k 0] w λu w'=>u= .tuple #[S (Ow bs),I 0]/\w'=w:=by
 refine NP (e:=[(0,_)]) func134 O ntmps134 O O$ qN O$ Oc O$ NZ O$ py$ qN O$ NT O$ qV (Pt Vk O O)$ NU$ It O$ An$ qN O$ NT O$ OH O ?_
 refine Og z2P O$ qV (O6 z2M O O h.NX (zer h.len))$ Om z7b O (VM h.wr) ?_
 rintro _ w1 ⟨rfl,rfl⟩
 refine P9 O O$ P9 O O$ Oc O$ NZ O$ NV func134 O ?_
 exact⟨_,rfl,rfl,rfl⟩
end
structure GrM (w:World)(v:Value)(g:List (List Nat)):Prop where
 ex:∃vs:List Value,Rd w v 1 g.length vs/\∀(i:Nat) (l:List Nat),g[i]? =some l->∃(a:Option Addr) (c:Nat),vs[i]? =some (Value.slice a l.length c)/\l.length<=c/\Rd w (.slice a l.length c) 1 l.length (l.map OB)
theorem GrM.ext {w w':World}{v:Value}{g:List (List Nat)}(h:GrM w v g)(hx:Ext w w'):GrM w' v g:=by
 obtain⟨vs,h1,h2⟩:=h.ex
 refine⟨vs,h1.ext hx,λi l hl=>?_⟩
 obtain⟨a,c,g1,g2,g3⟩:=h2 i l hl
 exact⟨a,c,g1,g2,g3.ext hx⟩
structure R7 (g:List (List Nat)):Prop where
 ok:∀l∈g,OQ l
 lt:∀l∈g,∀y∈l,y<g.length
 n:g.length<=60
theorem R7.len {g:List (List Nat)}(h:R7 g){l:List Nat}(hl:l∈g):l.length<=g.length:=by
 have:=z2j l 0 g.length (h.ok l hl).YF (λy hy=>⟨Nat.zero_le _,h.lt l hl y hy⟩) (Nat.zero_le _)
 omega
def PH (g:List (List Nat)):Nat:=(g.map List.length).sum
theorem WY (g:List (List Nat))(l:List Nat):PH (g++[l])=PH g+l.length:=by simp[PH]
theorem z9E {g:List (List Nat)}{n:Nat}(h:∀l∈g,l.length<=n):PH g<=g.length*n:=by
 induction g with
 |nil=>simp[PH]
 | cons l g ih =>
   have h1:=ih (λm hm=>h m (List.mem_cons_of_mem _ hm));have h2:=h l List.mem_cons_self;show(l.length::g.map List.length).sum<=_;rw[List.sum_cons,List.length_cons,Nat.add_mul];have e:PH g=(g.map List.length).sum:=rfl;omega
theorem T5 {g:List (List Nat)}(h:R7 g)(i:Nat):PH (g.take i)<=3600:=by
 have h1:PH (g.take i)<=(g.take i).length*60:=z9E (λl hl=>by have:=h.len (List.mem_of_mem_take hl);have:=h.n;omega)
 have h2:(g.take i).length<=60:=by rw[List.length_take];have:=h.n;omega
 omega
theorem z3S {w:World}{ga:Option Addr}{gc:Nat}{g:List (List Nat)}(h:GrM w (.slice ga g.length gc) g)(hg:R7 g):Oy prog 131 [.slice ga g.length gc] w λu w'=>u= .bool true/\w'=w:=by
 have hn:=hg.n
 obtain⟨vs,eZ,lE⟩:=h.ex
 refine NP (e:=[(0,_)]) func131 O ntmps131 O O$ qN O$ Oc O$ qM O$ NZ O$ py$ qN O$ NT O$ Qx Up O$ NT O$ NU$ NQ$ Qm (α:=Nat) (0) (λi=>[(0,.slice ga g.length gc),(3,I (PH (g.take i):Int)),(8,.slice ga g.length gc),(9,I (g.length:Int)),(10,I (i:Int))]) (λi w'=>w'=w/\i<=g.length) (λi=>g.length-i) ?hI ?hround
 case hI=>exact⟨rfl,Nat.zero_le _⟩
 case hround =>
  rintro i w4 ⟨rfl,hi⟩ ih;have oN:=T5 hg i
  try dsimp only
  refine qN O$ Py O O$ NU$ py$ O8 O (λh0=>?_)$ λh0=>?_
  ·have dt:i<g.length:=by omega
   obtain⟨l,hl⟩:∃l,g[i]? =some l:=⟨_,List.getElem?_eq_getElem dt⟩;have iq:=List.mem_of_getElem? hl;have fJ:=hg.len iq;obtain⟨a,c,e1,e2,e3⟩:=lE i l hl
   obtain⟨gb,go,gc',e4⟩:∃b o c',Value.slice ga g.length gc= .slice (some ⟨b,o,none⟩) g.length c':=by
    rcases eZ.2 with⟨c,hc,h0⟩|⟨b,off,c',hc,-⟩
    ·omega
    ·exact⟨b,off,c',hc⟩
   cases e4;refine An$ py$ NQ$ qN O$ qV (P7 Up Ro O O (by omega))$ qV (OC OA O O (Ps eZ e1))$ Oc O$ qM O$ Od O O$ Qx OA O$ P6 O O$ Oc O$ qM O$ NT O ?_;refine Qx OA O$ NT O$ NU$ NQ ?_;have vB:=WY (g.take i) l;rw[<-OY hl] at vB;rw[show(PH (g.take i):Int)+(l.length:Int)=(PH (g.take (i+1)):Int) by omega];refine Qm (α:=Nat) (0) (λj=>[(0,.slice (some ⟨gb,go,none⟩) g.length gc),(3,I (PH (g.take (i+1)):Int)),(5,.slice a l.length c),(8,.slice (some ⟨gb,go,none⟩) g.length gc),(9,I (g.length:Int)),(10,I (i:Int)),(18,.slice a l.length c),(19,I (l.length:Int)),(20,I (j:Int))]) (λj w'=>w'=w4/\j<=l.length) (λj=>l.length-j) ?hI ?hround
   case hI=>exact⟨rfl,Nat.zero_le _⟩
   case hround=>
    rintro j w5 ⟨rfl,hj⟩ ih2
    try dsimp only
    refine qN O$ Py O O$ NU$ py$ O8 O (λh1=>?_)$ λh1=>?_
    ·have kM:j<l.length:=by omega
     obtain⟨y,hy⟩:∃y,l[j]? =some y:=⟨_,List.getElem?_eq_getElem kM⟩;have sE:=hg.lt l iq y (List.mem_of_getElem? hy)
     obtain⟨lb,lo,lc,e5⟩:∃b o c',Value.slice a l.length c= .slice (some ⟨b,o,none⟩) l.length c':=by
      rcases e3.2 with⟨c,hc,h0⟩|⟨b,off,c',hc,-⟩
      ·omega
      ·exact⟨b,off,c',hc⟩
     cases e5;refine An$ py$ NQ$ qN O$ NT O$ qV (P7 OA O7 O O (by omega))$ qV (OC OJ O O (Ps e3 (show(l.map OB)[j]? =some (OB y) by rw[List.getElem?_map,hy];rfl))) ?_;refine Oc O$ Oc O$ qM O$ NT O$ qV (OT O OJ U3 (by omega))$ NT O$ Qx Up O$ SB O O$ OR$ NT O ?_;rcases Nat.eq_zero_or_pos j with K9|K9
     ·refine NT O$ PD O O$ OR$ NT O$ qS$ qS$ qS$ qS$ qS$ qS$ qS$ OU O O$ OU O O$ NU ?_;refine It O$ An$ NS$ NW O$ P6 O O$ NT O$ NU ?_;exact(ih2 (j+1) _ ⟨rfl,by omega⟩ (by omega)).qb
     ·obtain⟨z,hz⟩:∃z,l[j-1]? =some z:=⟨_,List.getElem?_eq_getElem (by omega)⟩
      have Nc:z<y:=by
       obtain⟨a1,a2⟩:=List.getElem?_eq_some_iff.1 hz;obtain⟨b1,b2⟩:=List.getElem?_eq_some_iff.1 hy;have:=List.pairwise_iff_getElem.1 (hg.ok l iq).YF (j-1) j a1 b1 (by omega)
       rwa [a2,b2] at this
      refine NT O$ PD O O$ Qs$ Od O O$ Od O O$ Qp O O ?_;rw[show(j:Int)-1=((j-1:Nat):Int) by omega];refine qV (P7 OA O7 O O (by omega))$ qV (OC OJ O O (Ps e3 (show(l.map OB)[j-1]? =some (OB z) by rw[List.getElem?_map,hz];rfl))) ?_;refine zle O O$ OR$ PT O O$ OU O O$ NU$ It O$ An$ NS$ NW O$ P6 O O$ NT O$ NU ?_;exact(ih2 (j+1) _ ⟨rfl,by omega⟩ (by omega)).qb
    ·refine O4 O$ NS$ NW O$ P6 O O$ NT O$ NU ?_;exact(ih (i+1) _ ⟨rfl,by omega⟩ (by omega)).qb
  ·refine O4 O$ qN O$ NT O$ Qx Up O$ zle O O$ Qs$ Od O O$ zle O O$ Qs$ PT O O$ NZ O$ NV func131 O ?_;exact⟨_,rfl,rfl,rfl⟩
/-! ### How many bits -/
theorem Wx.z2y {k:Nat}{q:Cd×Nat}(h:Wx k q)(hk:1<=k/\k<=16):(q.1.enc q.2).length<=112:=by
 obtain⟨h1,h2⟩:=h.PI hk
 obtain⟨-,q2,-⟩:=Wa h1 h2
 rw[Wc]
 rcases h with⟨e,h⟩|⟨e,h⟩|⟨e,h⟩
 ·rw[e] at q2⊢;show q.2+1+_<=_;omega
 ·have:=(UO (v:=q.2) (by omega)).2.2;rw[e] at q2⊢;show Nat.log2 (q.2+1)+1+_<=_;omega
 ·have h3:=(UO (v:=q.2) (by omega)).2.2;have h4:Nat.log2 (q.2+1) / k<=Nat.log2 (q.2+1):=Nat.div_le_self _ _;rw[e] at q2⊢;show Nat.log2 (q.2+1) / k+1+_<=_;omega
theorem z1T {n:Nat}{L:List (Cd×Nat)}(h:∀q∈L,(q.1.enc q.2).length<=n):(Oq L).length<=L.length*n:=by
 induction L with
 |nil=>simp[Oq]
 | cons q L ih =>
   have h1:=ih (λq hq=>h q (List.mem_cons_of_mem _ hq));have h2:=h q List.mem_cons_self;rw[Pm,List.length_append,List.length_cons,Nat.add_mul];omega
theorem z1J (least:Nat){l:List Nat}(h:OQ l):(P8 least l).1.length<=l.length:=by
 have h1:=(SR least l).length_eq
 rw[List.length_append] at h1
 have h4:∀(R:List (Nat×Nat)) (lo:Nat),S4 least lo R->R.length<=(Qa R).length:=by
  intro R
  induction R with
  |nil=>intro lo h;exact Nat.le_refl _
  | cons q R ih =>
    intro lo h;have h5:=ih _ h.2.2.2;have h6:1<=q.2:=h.2.1;rw[show Qa (q::R)=(List.range q.2).map (q.1+·)++Qa R from rfl,List.length_append,List.length_map,List.length_range,List.length_cons];omega
 have h5:=h4 _ 0 (TU least l 0 h.YF (λy _=>Nat.zero_le _))
 omega
theorem Yj {p:Rf}(hp:p.PI){x:Nat}(hx:x<65536){succ ref:List Nat}(hs:OQ succ)(hr:OQ ref){r:Nat}(jd:r<=p.Ou)(Ka:succ.length<=60)(AD:ref.length<=60):(Oq (QC p x succ ref r)).length<=44800:=by
 have ay:OQ (Ox succ ref):=hs.sub List.filter_sublist
 have fJ:(Ox succ ref).length<=succ.length:=List.length_filter_le _ _
 have h1:=(Se succ ref).z0S
 rw[List.length_map] at h1
 have h2:=z1J p.interval ay
 have h3:=(Ts p.interval (Ox succ ref)).length_le
 have aF:(QC p x succ ref r).length<=400:=by
  unfold QC;rw[List.length_cons];split
  ·simp
  rw[List.length_append,List.length_append];have e1:(if 0<p.Ou then [(Cd.unary,r)] else []).length<=1:=by split<;>simp
  have e2:(if 0<r then(Cd.gamma,(Qk succ ref).length-1)::Px 0 (Qk succ ref).dropLast else []).length<=62:=by
   split
   ·rw[List.length_cons,Sd,List.length_dropLast];omega
   ·simp
  have e3:(if Ox succ ref=[] then [] else(if 0<p.interval then(Cd.gamma,(P8 p.interval (Ox succ ref)).1.length)::OV x p.interval none (P8 p.interval (Ox succ ref)).1 else [])++OZ x p.zeta none (P8 p.interval (Ox succ ref)).2).length<=200:=by
   split
   ·simp
   ·rw[List.length_append,SA];split
    ·rw[List.length_cons,Ry];omega
    ·simp;omega
  omega
 have:=z1T (n:=112) (L:=QC p x succ ref r) (λq hq=>(Zh hp hx hs hr jd q hq).z2y ⟨hp.2.2.1,hp.2.2.2⟩)
 omega
/-! ### All bits -/
def WK (p:PA)(g:List (List Nat))(E:List (Nat×Nat))(i:Nat):List Bool:=
 Oq (QC p.list i ((g[i]?).getD []) (PN g i ((E[i]?).getD (0,0)).1) ((E[i]?).getD (0,0)).1)
def PL (p:PA)(g:List (List Nat))(E:List (Nat×Nat))(n:Nat):List Bool:=(List.range n).flatMap (WK p g E)
theorem Sc (p:PA)(g:List (List Nat))(E:List (Nat×Nat))(n:Nat):PL p g E (n+1)=PL p g E n++WK p g E n:=by
 unfold PL
 rw[List.range_succ,List.flatMap_append];simp
theorem z0q (p:PA)(g:List (List Nat))(E:List (Nat×Nat))(e:Nat×Nat):∀n,n<=E.length->PL p g (E++[e]) n=PL p g E n
 |0,_=>rfl
 | n + 1, h => by
   rw[Sc,Sc,z0q p g E e n (by omega)]
   congr 1
   unfold WK;rw[List.getElem?_append_left (by omega)]
structure zdy (p:PA)(g:List (List Nat))(E:List (Nat×Nat)):Prop where
 ent:∀i e,E[i]? =some e->YS p g E i ((g[i]?).getD []).length e
theorem YS.mono {p:PA}{L L':List (List Nat)}{E E':List (Nat×Nat)}{n size:Nat}{e:Nat×Nat}(h:YS p L E n size e)(hL:∀(j:Nat) (l:List Nat),L[j]? =some l->L'[j]? =some l)(hE:∀(j:Nat) (l:Nat×Nat),E[j]? =some l->E'[j]? =some l):YS p L' E' n size e:=by
 rcases h with h|⟨h1,h2,h3,l,e',h4,h5,h6,h7⟩
 ·exact .inl h
 ·exact .inr ⟨h1,h2,h3,l,e',hL _ _ h4,hE _ _ h5,h6,h7⟩
theorem Sl.typed {w:World}{v:Value}{T:TypeId}{k n g:Nat}{cs:List Value}(h:Sl w v T k n cs)(hg:v.ownBlock=some g):∃cur,w.heap[g]? =some (.cells cur T (0,0)):=by
 rcases h.2 with⟨hz,-⟩|⟨g1,cap1,cur,hv,-,aT,-⟩
 ·rw[hz] at hg;cases hg
 ·rw[hv] at hg;have e:g1=g:=PJ hg;exact⟨cur,e▸aT⟩
theorem PkM.kpT {w w':World}{k:Nat}{p:PA}{L:List (List Nat)}{E:List (Nat×Nat)}{bs:List Bool}{F:Nat->Prop}{R:List (Value×Nat)}{wp ed:Nat}(h:PkM w k p L E bs F R wp ed){v:Value}{T:TypeId}{sz n:Nat}{cs:List Value}(hT:T≠106)(hv:Sl w v T sz n cs)(hk:Kp (λi=>v.ownBlock=some i) w w')(n1:v.ownBlock≠some k)(n2:∀i,F i->v.ownBlock≠some i):PkM w' k p L E bs F R wp ed:=
 ⟨hk.NX h.NX n1,h.len,h.wr.kp hk n2,h.nk,h.el,h.ok,λj l e h1 h2 h3=>by
  obtain⟨a,cp,g1,g2,g3,g4⟩:=h.ring j l e h1 h2 h3;refine⟨a,cp,g1,g2,g3.kp hk (λg hg e=>?_),g4⟩;obtain⟨c1,f1⟩:=g3.typed hg;obtain⟨c2,f2⟩:=hv.typed e;rw[f1] at f2
  injection f2 with f3
  injection f3 with f4 f5
  exact hT f5.symm⟩
def Vn (p:PA)(g:List (List Nat))(E:List (Nat×Nat))(n:Nat):List Nat:=(List.range (n+1)).map λj=>(PL p g E j).length
theorem zcL (p:PA)(g:List (List Nat))(E:List (Nat×Nat))(e:Nat×Nat)(n:Nat)(h:n<=E.length):Vn p g (E++[e]) n=Vn p g E n:=by
 unfold Vn
 refine List.map_congr_left λj hj=>?_
 rw[z0q p g E e j (by have:=List.mem_range.1 hj;omega)]
theorem za9 (p:PA)(g:List (List Nat))(E:List (Nat×Nat))(n:Nat):Vn p g E (n+1)=Vn p g E n++[(PL p g E (n+1)).length]:=by
 unfold Vn
 rw[List.range_succ,List.map_append];rfl
theorem z2l (p:PA)(g:List (List Nat))(E:List (Nat×Nat))(n:Nat):(Vn p g E n).length=n+1:=by simp[Vn]
theorem getD_take {α:Type}{l:List α}{i j:Nat}(h:j<i):(l.take i)[j]? =l[j]? :=by rw[List.getElem?_take,if_pos h]
theorem W8 (L:List (List Nat))(n r:Nat):PN L n r=[]\/PN L n r∈L:=by
 unfold PN
 split
 ·exact .inl O
 ·cases h:L[n-r]? with
  |none=>exact .inl O
  |some l=>exact .inr (List.mem_of_getElem? h)
theorem z5b {L:List (List Nat)}{n r:Nat}(h:r<=n):PN (L.take n) n r=PN L n r:=by
 unfold PN
 by_cases e:r=0
 ·rw[if_pos e,if_pos e]
 ·rw[if_neg e,if_neg e,getD_take (by omega)]
structure EnI (w:World)(p:PA)(g:List (List Nat))(k wp:Nat)(i:Nat)(E:List (Nat×Nat))(v:Value)(w':World):Prop where
 pk:∃F R,PkM w' k p (g.take i) E (PL p g E i) F R wp (PH (g.take i))/\(∀j,F j->w.heap.size<=j)/\∀j,F j->v.ownBlock≠some j
 ext:Ext w w'
 nk:w.heap.size<=k
 sl:Sl w' v 23 1 (Vn p g E i).length ((Vn p g E i).map u64v)
 fr:∀b,v.ownBlock=some b->w.heap.size<=b
 vk:v.ownBlock≠some k
 ent:∀j e,E[j]? =some e->YS p g E j ((g[j]?).getD []).length e
 bd:(PL p g E i).length<=i*44800
theorem z7D {w:World}{p:PA}(hp:p.PI){g:List (List Nat)}(hg:R7 g){ga:Option Addr}{gc:Nat}(kX:GrM w (.slice ga g.length gc) g)(hG:O9 w 2 (RB .gamma) 317)(hU:O9 w 3 (RB .unary) 317):
  Oy prog 96 [.slice ga g.length gc,bpV p] w λu w'=>∃E v,u= .tuple #[S (Ow (PL p g E g.length)),v,I 0]/\E.length=g.length/\zdy p g E/\(PL p g E g.length).length<=2688000/\Sl w' v 23 1 (g.length+1) ((Vn p g E g.length).map u64v)/\(∀b,v.ownBlock=some b->w.heap.size<=b)/\Ext w w':=by
 have hn:=hg.n
 refine NP (e:=[(0,_),(1,_)]) func96 O ntmps96 O O$ qN O$ O5 O O (Qr O (cs:=Uf p) O) ?_
 rintro _ w1 ⟨b3,rfl,f7,ad,au⟩
 have z1:=ad.size
 refine Oc O$ Oc O$ Oc O$ qM O$ qV (OE (news:=Uf p) ZX O QJ O (au.cells (n:=5) O) O)$ Om zh6 O (z8l p hp w1) ?_
 rintro _ w2 ⟨k,wp,F,rfl,vC,hW,Kb,ae,aK,oD⟩
 have z2:=ae.size
 have aJ:=ad.trans ae
 refine NT O$ qV (QL (v:=ptr k 0) O O)$ qV (QL (v:=I 0) O O)$ Oc O$ NZ O$ py$ qN O$ NT O$ Pz O O$ Od O O$ Om zgc O (z3S (kX.ext aJ) hg) ?_
 rintro _ w2 ⟨rfl,rfl⟩
 refine qV ((Rn O))$ OU O O$ NU$ It O$ An$ qN O$ O5 O O (Vl (cs:=[_]) (zs:=[Value.int .u64 0]) U70 Si O (by kernel_rfl) O O O (by decide)) ?_
 rintro _ w3 ⟨b28,rfl,⟨Kc,ah,Kd⟩,Dl⟩
 have z3:=ah.size
 have lk:=vC.lt
 have AW:PkM w3 k p (g.take 0) [] (PL p g [] 0) F z7v wp (PH (g.take 0)):=⟨ah.NX vC,List.length_replicate,hW.ext ah,Kb,rfl,(λl hl=>by simp at hl),λj l e h1=>by simp at h1⟩
 refine NZ O$ py$ qN O$ NT O$ Qx Up O$ NT O$ NU$ OD.qb (e:=[(4,_),(5,_),(6,_),(7,_),(8,_),(9,_),(29,_),(30,_),(31,_)]) ?_
 refine NQ$ Qm (α:=Nat×List (Nat×Nat)×Value) ((0,[],.slice (some ⟨b28,0,none⟩) 1 1)) (λy=>[(7,ptr k 0),(9,y.2.2),(29,.slice ga g.length gc),(30,I (g.length:Int)),(31,I (y.1:Int))]) (λy w'=>EnI w p g k wp y.1 y.2.1 y.2.2 w'/\y.1<=g.length) (λy=>g.length-y.1) ?hI ?hround
 case hI=>exact⟨⟨⟨F,z7v,AW,λj hj=>by have:=oD j hj;omega,λj hj e=>by have e1:b28=j:=PJ e;have:=hW.lt hj;omega⟩,aJ.trans ah,by omega,Dl,λb hb=>by have e1:b28=b:=PJ hb;omega,λe=>by have e1:b28=k:=PJ e;omega,λj e h=>by simp at h,Nat.zero_le _⟩,Nat.zero_le _⟩
 case hround =>
  rintro⟨i,E,v⟩ w4 ⟨hI,hi⟩ ih;dsimp only at hI hi;obtain⟨F,R,hP,hF,HJ⟩:=hI.pk;have xm:=hI.bd;have aZ:=z2l p g E i;have ry:=hP.el;rw[List.length_take,Nat.min_eq_left hi] at ry;obtain⟨va,vc,rfl,-⟩:=hI.sl.rd.shape
  try dsimp only
  refine qN O$ Py O O$ NU$ py$ O8 O (λh0=>?_)$ λh0=>?_
  ·have dt:i<g.length:=by omega
   obtain⟨l,hl⟩:∃l,g[i]? =some l:=⟨_,List.getElem?_eq_getElem dt⟩;have iq:=List.mem_of_getElem? hl;have fJ:=hg.len iq;have hs:=hg.ok l iq;obtain⟨vs,Dm,lE⟩:=kX.ex;obtain⟨a,c,e1,e2,e3w⟩:=lE i l hl;have eZ:=Dm.ext hI.ext;have e3:=e3w.ext hI.ext
   obtain⟨gb,go,gc',e4⟩:∃b o c',Value.slice ga g.length gc= .slice (some ⟨b,o,none⟩) g.length c':=by
    rcases eZ.2 with⟨c,hc,h0⟩|⟨b,off,c',hc,-⟩
    ·omega
    ·exact⟨b,off,c',hc⟩
   cases e4;have pI:(g.take i).length=i:=by rw[List.length_take];omega
   have oN:=T5 hg i;refine An$ py$ NQ$ qN O$ qV (P7 Up Ro O O (by omega))$ qV (OC OA O O (Ps eZ e1)) ?_
   have nz:∀r,r<=p.Ou->(PL p g E i).length+(Oq (QC p.list (g.take i).length l (PN (g.take i) (g.take i).length r) r)).length<=134217728:=λr hr=>by
    have h2:OQ (PN (g.take i) (g.take i).length r)/\(PN (g.take i) (g.take i).length r).length<=60:=by
     rcases W8 (g.take i) (g.take i).length r with e| e
     ·rw[e];exact⟨⟨List.Pairwise.nil,λy h=>(by cases h)⟩,Nat.zero_le _⟩
     ·exact⟨hg.ok _ (List.mem_of_mem_take e),by have:=hg.len (List.mem_of_mem_take e);omega⟩
    have h3:=Yj hp.1 (x:=(g.take i).length) (by omega) hs h2.1 (show r<=p.list.Ou from hr) (by omega) h2.2;omega
   have uX:=hI.sl;have nh:∀b,(Value.slice va (Vn p g E i).length vc).ownBlock=some b->b<w4.heap.size:=λb hb=>uX.lt hb;refine NZ O$ py$ qN O$ Od O O$ Om zgW O (z8y hp hP (hI.ext.NX hG) (hI.ext.NX hU) (by omega) hs e2 e3 (by omega) (λb h0 hb=>by have h1:=e3w.ltz (by decide) h0 hb;have:=hI.nk;exact⟨λe=>by have:=hF b e;omega,by omega⟩) nz) ?_;rintro _ w5 ⟨r,least,ch,F',R',rfl,gW,gT,ak,vD⟩;have lk4:=hP.NX.lt;have z5:=ak.size;have aR:Ext w w5:=hI.ext.NR ak (λj hj=>by rcases hj with e|e;exact hF j e;(have:=hI.nk;omega));have Ke:(E++[(r,ch)]).length=i+1:=by rw[List.length_append,ry];rfl
   have m6:r<=i:=by
    rcases gW with e|⟨-,-,h3,-⟩
    ·have:r=0:=(Prod.mk.inj e).1;omega
    ·rw[pI] at h3;exact h3
   have tE:(E++[(r,ch)])[i]? =some (r,ch):=by rw[List.getElem?_append_right (by omega),ry,Nat.sub_self];rfl
   have pW:WK p g (E++[(r,ch)]) i=Oq (QC p.list (g.take i).length l (PN (g.take i) (g.take i).length r) r):=by
    unfold WK;rw[tE,hl,pI,z5b m6];rfl
   have gX:PL p g (E++[(r,ch)]) (i+1)=PL p g E i++Oq (QC p.list (g.take i).length l (PN (g.take i) (g.take i).length r) r):=by
    rw[Sc,z0q p g E _ i (by omega),pW]
   have Dn:(PL p g (E++[(r,ch)]) (i+1)).length<=(i+1)*44800:=by
    have h2:OQ (PN (g.take i) (g.take i).length r)/\(PN (g.take i) (g.take i).length r).length<=60:=by
     rcases W8 (g.take i) (g.take i).length r with e| e
     ·rw[e];exact⟨⟨List.Pairwise.nil,λy h=>(by cases h)⟩,Nat.zero_le _⟩
     ·exact⟨hg.ok _ (List.mem_of_mem_take e),by have:=hg.len (List.mem_of_mem_take e);omega⟩
    have jd:r<=p.list.Ou:=by
     rcases gW with e|⟨-,h3,-⟩
     ·have:r=0:=(Prod.mk.inj e).1;omega
     ·exact h3
    have h3:=Yj hp.1 (x:=(g.take i).length) (by omega) hs h2.1 jd (by omega) h2.2;rw[gX,List.length_append];omega
   rw[<-gX,<-OY hl,<-WY,<-OY hl] at gT;have gQ:(PL p g (E++[(r,ch)]) (i+1)).length<=9223372036854775:=by omega
   refine NT O$ P9 O O$ P9 O O$ qV (QL (v:=I 0) O O)$ Oc O$ Oc O$ Oc O$ qM O$ NT O$ Pz O O$ NU$ It O$ An$ NW O ?_;refine Od O O$ Om ziH O (z6m gT gQ) ?_;rintro _ w6 ⟨rfl,aH⟩;refine qV ((Pf O U3 Qy (by omega)))$ O5 O O (Vl (cs:=[_]) (zs:=[Value.int .u64 0]) U70 Si O (by kernel_rfl) O O O (by decide)) ?_;rintro _ w7 ⟨b49,rfl,⟨Kf,bV,cb⟩,Do⟩;have gz:=aH.trans bV;have z67:=gz.size;have ny:∀j,F' j->j<w5.heap.size:=λj hj=>gT.wr.lt hj;have Hr:=uX.kp ak (λb hb e=>by rcases e with e|e;exact HJ b e hb;exact hI.vk (e▸hb));have AX:=Hr.ext gz
   have xC:∀j,F' j->(Value.slice va (Vn p g E i).length vc).ownBlock≠some j:=λj hj e=>by
    rcases vD j hj with e1|e1
    ·exact HJ j e1 e
    ·have:=nh j e;omega
   refine O5 O O (pap U70 Si O (by decide) O O AX Do.rd (by intro c hc;simp at hc;subst hc;rfl) (by omega) (by simp only[maxLen];omega)) ?_;rintro v8 w8 ⟨dX,aS,kK,-⟩;have mv:=(gT.ext gz).kpT (T:=23) (by decide) AX aS hI.vk xC;have nC:∀b,v8.ownBlock=some b->(Value.slice va (Vn p g E i).length vc).ownBlock=some b\/w5.heap.size<=b:=λb hb=>(kK b hb).imp id (λe=>by omega);refine NZ O$ NS$ NW O$ P6 O O$ NT O$ NU ((ih (i+1,E++[(r,ch)],v8) _ ⟨⟨⟨F',R',mv,λj hj=>?_,λj hj e=>?_⟩,(aR.trans gz).NR aS (λj hj=>hI.fr j hj),hI.nk,?_,λb hb=>?_,λe=>?_,λj e hj=>?_,Dn⟩,dt⟩ (by dsimp only;omega)).qb)
   ·rcases vD j hj with e| e
    ·exact hF j e
    ·have:=hI.ext.size;omega
   ·rcases nC j e with e1|e1
    ·exact xC j hj e1
    ·have:=ny j hj;omega
   ·rw[za9,zcL p g E _ i (by omega),List.length_append,List.map_append];exact dX
   ·rcases nC b hb with e1|e1
    ·exact hI.fr b e1
    ·have:=aR.size;omega
   ·rcases nC k e with e1|e1
    ·exact hI.vk e1
    ·omega
   ·rcases Nat.lt_or_ge j i with rz|rz
    ·rw[List.getElem?_append_left (by omega)] at hj;exact(hI.ent j e hj).mono (λ_ _ h=>h) (λj' l' h=>by rw[List.getElem?_append_left (List.getElem?_eq_some_iff.1 h).1];exact h)
    ·have CZ:=(List.getElem?_eq_some_iff.1 hj).1;rw[Ke] at CZ;have ej:j=i:=by omega
     subst ej;rw[tE] at hj;cases hj;rw[hl];rw[pI] at gW
     exact gW.mono (λj' l' h=>by
      have:=(List.getElem?_eq_some_iff.1 h).1;rw[pI] at this
      rwa [getD_take this] at h) (λj' l' h=>by rw[List.getElem?_append_left (List.getElem?_eq_some_iff.1 h).1];exact h)
  ·have bX:i=g.length:=by omega
   subst bX;refine O4 O$ qN O$ NT O$ Om zhZ O (z4P hP) ?_;rintro _ w5 ⟨rfl,rfl⟩;refine NT O$ P9 O O$ P9 O O$ Oc O$ Oc O$ qM O$ Od O O$ NT O$ Oc O$ Oc O$ NZ O$ NV func96 O ?_;have fL:=hI.sl;rw[aZ] at fL;exact⟨_,rfl,E,_,rfl,ry,⟨hI.ent⟩,by omega,by rw[aZ];exact fL,hI.fr,hI.ext⟩
structure Fm where
 n:Nat
 u:Nat
 width:Nat
 bits:Nat
def fmC (f:Fm):List Value:=[I (f.n:Int),u64v f.u,I (f.width:Int),I (f.bits:Int)]
abbrev fmV (f:Fm):Value:= .agg (fmC f).toArray
def Xe (n u:Nat):Nat:=if u / n=0 then 0 else P3 (u / n)-1
def T0 (n u:Nat):Fm:=⟨n,u,Xe n u,(u-1) / 2^Xe n u+n⟩
def Fm.high (f:Fm):Nat:=12+(f.n*f.width+7) / 8
def Fm.TT (f:Fm):Nat:=f.high+(f.bits+7) / 8
def Fm.size (f:Fm):Nat:=f.TT+4*((f.n+63) / 64)
theorem Yu {n u:Nat}(hu:u<=1000000000):Xe n u<=30:=by
 unfold Xe
 split
 ·omega
 ·have h1:u / n<=u:=Nat.div_le_self _ _;have h2:P3 (u / n)<=30:=Qi (by omega);omega
theorem z0j {n u:Nat}(hn:1<=n)(hu:1<=u):(u-1) / 2^Xe n u<2*n:=by
 have h2:0<2^Xe n u:=Nat.two_pow_pos _
 rw[Nat.div_lt_iff_lt_mul h2]
 unfold Xe
 split
 ·rename_i h
  have:u<n:=by
   rcases Nat.lt_or_ge u n with h1|h1
   ·exact h1
   ·have:=Nat.div_pos h1 (by omega);omega
  simp;omega
 ·rename_i h
  have h3:u / n<2^P3 (u / n):=VP;have h4:P3 (u / n)≠0:=λe=>by rw[e,Nat.pow_zero] at h3;exact h (Nat.lt_one_iff.1 h3)
  obtain⟨k,hk⟩:∃k,P3 (u / n)=k+1:=⟨P3 (u / n)-1,by omega⟩;rw[hk] at h3⊢;rw[Nat.add_sub_cancel]
  have h5:u<n*2^(k+1):=by
   have:=(Nat.div_lt_iff_lt_mul (show 0<n by omega)).1 h3
   rwa [Nat.mul_comm] at this
  rw[Nat.pow_succ] at h5;have e:n*(2^k*2)=2*n*2^k:=by rw[Nat.mul_comm (2^k) 2,<-Nat.mul_assoc,Nat.mul_comm n 2]
  omega
theorem z8g {n u:Nat}(hn:1<=n)(hu:1<=u):(T0 n u).bits<=3*n:=by
 have:=z0j hn hu
 show(u-1) / 2^Xe n u+n<=_
 omega
theorem WG (n u:Nat)(hn:1<=n)(jB:n<=1000)(hu:1<=u)(mh:u<=1000000000)(w:World):Oy prog 140 [I (n:Int),u64v u] w λv w'=>v=fmV (T0 n u)/\Ext w w':=by
 have oO:=Yu (n:=n) mh
 have fu:=z0j hn hu
 have hq:u / n<=u:=Nat.div_le_self _ _
 obtain⟨q,tF⟩:∃q,u / n=q:=⟨_,rfl⟩
 have HK:Xe n u=if q=0 then 0 else P3 q-1:=by rw[Xe,tF]
 rw[tF] at hq
 have Dp:P3 q<=30:=Qi (by omega)
 refine NP (e:=[(0,_),(1,_)]) func140 O ntmps140 O O$ qN O$ O5 O O (QU (cs:=[_,_,_,_]) Sy O) ?_
 rintro _ w1 ⟨b4,rfl,fV,ad,aI⟩
 refine qM O$ Od O O$ qV (Rt (cs:=[_,_,_,_]) Sy O zga O O)$ O5 O O (QU (cs:=[_,_,_,_]) Sy O) ?_
 rintro _ w2 ⟨b5,rfl,gQ,ae,aG⟩
 have z1:=ad.size
 have z2:=ae.size
 have l4:=aI.lt
 have l5:=aG.lt
 refine Oe O (P4 (news:=[I (n:Int),u64v u,I 0,I 0]) Sy O O O O aG (by simp)) ?_
 rintro w3 ⟨iF,aw⟩
 replace iF:O9 w3 b5 [I (n:Int),u64v u,I 0,I 0] 234:=iF
 have ee:Ext w w3:=(ad.trans ae).NR aw (λi e=>by omega)
 have dN:=aw.NX (ae.NX aI) (by omega)
 have z3:=aw.size
 refine NU$ py$ qN O$ NT O$ Qe O O$ OR$ NU$ It O$ An$ py$ qN O$ Od O O$ qV ((Pf O U3 Qy (by omega)))$ qV (z7V (m:=u) (n:=n) O O O (by show u<2^64;omega) (by omega)) ?_
 rw[tF]
 refine Oc O$ qM O$ NT O$ PD O O$ NU$ OX (λe' w'=>e'=[(0,I (n:Int)),(1,u64v u),(4,ptr b4 0),(5,ptr b5 0)]/\Ext w w'/\O9 w' b5 [I (n:Int),u64v u,I (Xe n u:Int),I 0] 234/\O9 w' b4 [I 0,u64v 0,I 0,I 0] 234) ?cF$ λcF=>?cR
 case cF=>
  rintro e' w4 ⟨rfl,az,gU,cy⟩;refine qN O$ NT O$ qV (UB (m:=u) (n:=1) O O O (by show u<2^64;omega) (by omega)) ?_;refine Og Ss O$ qV (O6 U3 O O gU O)$ qV (R9 (Xe n u) (2^Xe n u) O O (by show Xe n u<=64;omega) O) ?_
  generalize Kg:(u-1) / 2^Xe n u=qb at fu
  refine qV (OT O Qy U3 (by omega))$ NT O$ P6 O O$ Og Xx O$ Oe O (PV Pb O O O gU (by simp)) ?_;rintro w5 ⟨tG,ak⟩;replace tG:O9 w5 b5 [I (n:Int),u64v u,I (Xe n u:Int),I ((qb+n:Nat):Int)] 234:=tG;refine qM O$ qV (OE z36 O Sy O (O9.cells (n:=4) tG (news:=[_,_,_,_]) O) O)$ Oe O (P4 (news:=[I (n:Int),u64v u,I (Xe n u:Int),I ((qb+n:Nat):Int)]) Sy O O O O (ak.NX cy (by omega)) (by simp)) ?_;rintro w6 ⟨cd,aP⟩;replace cd:O9 w6 b4 [I (n:Int),u64v u,I (Xe n u:Int),I ((qb+n:Nat):Int)] 234:=cd;refine NU$ Oz func140 (.cell z36 O Sy O (O9.cells (n:=4) cd (news:=[_,_,_,_]) O) O .nil) (⟨_,rfl,?_,(az.NR ak (λi e=>by omega)).NR aP (λi e=>by omega)⟩);unfold fmV fmC T0;rw[Kg]
  rfl
 case cR=>
  refine O8 O (λh0=>?_)$ λh0=>?_
  ·refine NW O$ NT O$ Om z1V O (Tm q (by omega) _) ?_;rintro _ w3 ⟨rfl,rfl⟩;have po:P3 q≠0:=λe=>by have:=VP (v:=q);rw[e] at this;omega
   refine Qp O O ?_;rw[show(P3 q:Int)-1=(Xe n u:Int) by rw[HK,if_neg (by omega)];omega];refine Og Ss O$ Oe O (PV Pb O O O iF (by simp)) ?_;rintro w4 ⟨gU,ao⟩;replace gU:O9 w4 b5 [I (n:Int),u64v u,I (Xe n u:Int),I 0] 234:=gU;refine NU ?_;exact(cF _ _ ⟨rfl,ee.NR ao (λi e=>by omega),gU,ao.NX dN (by omega)⟩).qb
  ·have mP:Xe n u=0:=by rw[HK,if_pos (by omega)]
   refine An ?_;exact(cF _ _ ⟨rfl,ee,by rw[mP];exact iF,dN⟩).qb
def Fm.small (f:Fm):Prop:=f.n<=100000/\f.width<=64/\f.bits<=1000000
theorem z2S (f:Fm)(hf:f.small)(w:World):Oy prog 239 [fmV f] w λv w'=>v=I (f.high:Int)/\Ext w w':=by
 obtain⟨h1,h2,h3⟩:=hf
 have hm:f.n*f.width<=100000*64:=Nat.mul_le_mul h1 h2
 refine NP (e:=[(0,_)]) func239 O ntmps239 O O$ qN O$ O5 O O (Qr O (cs:=fmC f) O) ?_
 rintro _ w1 ⟨b1,rfl,bK,ad,ai⟩
 replace ai:O9 w1 b1 [I (f.n:Int),u64v f.u,I (f.width:Int),I (f.bits:Int)] 234:=ai
 refine Oc O$ qM O$ Og XG O$ qV (O6 U3 O O ai O)$ Og Ss O$ qV (O6 U3 O O ai O) ?_
 have qR:((f.n*f.width:Nat):Int)=(f.n:Int)*(f.width:Int):=Int.natCast_mul _ _
 refine qV (Xa O O (by rw[<-qR];omega)) ?_
 rw[<-qR]
 refine P6 O O$ qV (UH O O (by omega))$ P6 O O$ NZ O$ NV func239 O (⟨_,rfl,?_,ad⟩)
 show I (12+(((f.n*f.width:Nat):Int)+7) / 8)=I ((12+(f.n*f.width+7) / 8:Nat):Int)
 congr 1
theorem Fm.VN {f:Fm}(hf:f.small):f.high<=10000000:=by
 obtain⟨h1,h2,h3⟩:=hf
 have hm:f.n*f.width<=100000*64:=Nat.mul_le_mul h1 h2
 unfold Fm.high
 omega
theorem z3R (f:Fm)(hf:f.small)(w:World):Oy prog 216 [fmV f] w λv w'=>v=I (f.TT:Int)/\Ext w w':=by
 have oP:=Fm.VN hf
 obtain⟨h1,h2,h3⟩:=id hf
 refine NP (e:=[(0,_)]) func216 O ntmps216 O O$ qN O$ O5 O O (Qr O (cs:=fmC f) O) ?_
 rintro _ w1 ⟨b1,rfl,bK,ad,ai⟩
 replace ai:O9 w1 b1 [I (f.n:Int),u64v f.u,I (f.width:Int),I (f.bits:Int)] 234:=ai
 have hg:=Ext.Ob w1
 refine NZ O$ py$ Qj (λw'=>Ext w1 w') O$ qT 0 O (λ_ h=>OE z36 O Sy O (O9.cells (n:=4) (h.NX ai) (news:=[_,_,_,_]) O) O) hg$ O0 2 O (OG Xx O) hg$ qT 3 O (λ_ h=>O6 U3 O O (h.NX ai) O) hg$ O0 4 O (TK O O (by omega)) hg$ O0 5 O (UH O O (by omega)) hg$ RW 1 O zdi O (z2S f hf _) ?_
 rintro _ w2 ⟨rfl,ae⟩
 refine⟨hg.trans ae,?_⟩
 refine O0 6 O (TK O O (by omega)) (hg.trans ae)$ O0 7 O (Qq O) (hg.trans ae)$ qE$ NV func216 O (⟨_,rfl,?_,(ad.trans hg).trans ae⟩)
 show I ((f.high:Int)+((f.bits:Int)+7) / 8)=I ((f.high+(f.bits+7) / 8:Nat):Int)
 congr 1
theorem z1i (f:Fm)(hf:f.small)(w:World):Oy prog 185 [fmV f] w λv w'=>v=I (f.size:Int)/\Ext w w':=by
 have oP:=Fm.VN hf
 obtain⟨h1,h2,h3⟩:=id hf
 have fL:f.TT<=20000000:=by unfold Fm.TT;omega
 refine NP (e:=[(0,_)]) func185 O ntmps185 O O$ qN O$ O5 O O (Qr O (cs:=fmC f) O) ?_
 rintro _ w1 ⟨b1,rfl,bK,ad,ai⟩
 replace ai:O9 w1 b1 [I (f.n:Int),u64v f.u,I (f.width:Int),I (f.bits:Int)] 234:=ai
 have hg:=Ext.Ob w1
 refine NZ O$ py$ Qj (λw'=>Ext w1 w') O$ qT 0 O (λ_ h=>OE z36 O Sy O (O9.cells (n:=4) (h.NX ai) (news:=[_,_,_,_]) O) O) hg$ O0 2 O (OG XG O) hg$ qT 3 O (λ_ h=>O6 U3 O O (h.NX ai) O) hg$ O0 4 O (TK O O (by omega)) hg$ O0 5 O (Ww O O (by omega)) hg ?_
 rw[show(f.n:Int)+64-1=((f.n+63:Nat):Int) by omega]
 refine O0 6 O (UH O O (by omega)) hg$ O0 7 O (Xa O O (by omega)) hg$ RW 1 O zek O (z3R f hf _) ?_
 rintro _ w2 ⟨rfl,ae⟩
 refine⟨hg.trans ae,?_⟩
 refine O0 8 O (TK O O (by omega)) (hg.trans ae)$ O0 9 O (Qq O) (hg.trans ae)$ qE$ NV func185 O (⟨_,rfl,?_,(ad.trans hg).trans ae⟩)
 show I ((f.TT:Int)+4*(((f.n+63:Nat):Int) / 64))=I ((f.TT+4*((f.n+63) / 64):Nat):Int)
 congr 1
theorem z1Y {n u:Nat}(hn:1<=n)(jB:n<=1000)(hu:1<=u)(mh:u<=1000000000):(T0 n u).small:=by
 have h1:=z8g hn hu
 have h2:=Yu (n:=n) mh
 refine⟨?_,?_,by omega⟩
 ·show n<=_;omega
 ·show Xe n u<=_;omega
theorem z6d (n last:Nat)(hn:1<=n)(jB:n<=1000)(mh:last+1<=1000000000)(w:World):Oy prog 183 [I (n:Int),u64v last] w λv w'=>v= .tuple #[I ((T0 n (last+1)).size:Int),I 0]/\Ext w w':=by
 refine NP (e:=[(0,_),(1,_)]) func183 O ntmps183 O O$ qN O$ Oc O$ NZ O$ py$ NQ$ qN O$ NT O$ Py O O$ Od O O$ PD O O$ OR$ OU O O$ Od O O ?_
 refine PD O O$ OR$ OU O O$ Od O O$ Qe O O$ OR$ NT O$ qS$ qS$ OU O O$ OU O O$ NZ O$ It O$ qN O ?_
 refine NT O$ Qe O O$ OR$ NZ O$ OD.qb (e:=[(0,_),(1,_),(4,_),(5,_),(25,_)]) ?_
 refine It O$ An$ NS$ qN O$ Od O O$ qV (QP O O) ?_
 rw[Nat.mod_eq_of_lt (show last+1<18446744073709551616 by omega)]
 refine Om za6 O (WG n (last+1) hn jB (by omega) mh _) ?_
 rintro _ w1 ⟨rfl,ad⟩
 refine Om zdJ O (z1i _ (z1Y hn jB (by omega) mh) _) ?_
 rintro _ w2 ⟨rfl,ae⟩
 refine Oc O$ NZ O$ NV func183 O ?_
 exact⟨_,rfl,rfl,ad.trans ae⟩
theorem z8A {w:World}{a:Option Addr}{c:Nat}{l:List Nat}(hl:l.length<=1000)(hn:Nof l)(hm:∀v∈l,v<=1000000000)(hR:Rd w (.slice a l.length c) 1 l.length (l.map u64v)):Oy prog 139 [.slice a l.length c] w λv w'=>v= .bool true/\w'=w:=by
 refine NP (e:=[(0,_)]) func139 O ntmps139 O O$ qN O$ NZ O$ py$ qN O$ NT O$ Qx U70 O$ PD O O$ OR$ NU$ It O$ An$ qN O$ NZ O ?_
 refine py$ qN O$ NT O$ Qx U70 O$ NT O$ NU$ NQ$ Qm (α:=Nat×Nat) ((0,0)) (λy=>[(3,u64v y.2),(9,.slice a l.length c),(10,I (l.length:Int)),(11,I (y.1:Int))]) (λy w'=>w'=w/\y.1<=l.length/\y.2<=1000000000/\∀v,l[y.1]? =some v->y.2<=v) (λy=>l.length-y.1) ?hI ?hround
 case hI=>exact⟨rfl,Nat.zero_le _,Nat.zero_le _,λv _=>Nat.zero_le _⟩
 case hround=>
  rintro⟨i,z⟩ w4 ⟨rfl,hi,hz,AY⟩ ih;dsimp only at hi hz AY
  try dsimp only
  refine qN O$ Py O O$ NU$ py$ O8 O (λh0=>?_)$ λh0=>?_
  ·have dt:i<l.length:=by omega
   obtain⟨v,hv⟩:∃v,l[i]? =some v:=⟨_,List.getElem?_eq_getElem dt⟩;have Kh:=AY v hv;have pX:=hm v (List.mem_of_getElem? hv)
   obtain⟨gb,go,gc',e4⟩:∃b o c',Value.slice a l.length c= .slice (some ⟨b,o,none⟩) l.length c':=by
    rcases hR.2 with⟨c,hc,h0⟩|⟨b,off,c',hc,-⟩
    ·omega
    ·exact⟨b,off,c',hc⟩
   cases e4;refine An$ py$ NQ$ qN O$ qV (P7 U70 Si O O (by omega))$ qV (OC Qy O O (Ps hR (show(l.map u64v)[i]? =some (u64v v) by rw[List.getElem?_map,hv];rfl))) ?_;refine NZ O$ py$ qN O$ Od O O$ Py O O$ OR$ Od O O$ PD O O$ OR$ OU O O$ NU$ It O$ An$ NW O ?_;refine NT O$ NZ O$ NS$ NW O$ P6 O O$ NT O$ NU ((ih (i+1,v) _ ⟨rfl,dt,pX,λu hu=>?_⟩ (by dsimp only;omega)).qb);obtain⟨a1,a2⟩:=List.getElem?_eq_some_iff.1 hv;obtain⟨b1,b2⟩:=List.getElem?_eq_some_iff.1 hu;have:=List.pairwise_iff_getElem.1 hn i (i+1) a1 b1 (by omega)
   rwa [a2,b2] at this
  ·refine O4 O$ qN O$ NZ O$ NV func139 O ?_;exact⟨_,rfl,rfl,rfl⟩
def RA (k:Nat)(l:List Nat):List Bool:=l.flatMap λv=>Ov k (v%2^k)
def Rk (k:Nat):List Nat->List Bool
 |[]=>[]
 |v::_=>Ov 32 (v / 2^k)
theorem z96 (k:Nat)(l:List Nat)(v:Nat):RA k (l++[v])=RA k l++Ov k (v%2^k):=by simp[RA]
theorem TC (k:Nat):∀l:List Nat,(RA k l).length=l.length*k
 |[]=>by simp[RA]
 | v :: l => by
   show(Ov k (v%2^k)++RA k l).length=_;rw[List.length_append,TC k l,bitsN_length,List.length_cons,Nat.add_mul];omega
theorem z39 (k:Nat):∀(l:List Nat) (len i v:Nat),Nof (l++[v])->(∀x,(l++[v]).head? =some x->len<=x / 2^k+i)->
  len+(hiB k len i l).length<=v / 2^k+(i+l.length)/\hiB k len i (l++[v])=hiB k len i l++(List.replicate (v / 2^k+(i+l.length)-(len+(hiB k len i l).length)) false++[true])
 | [], len, i, v, _, hl => by
   have:=hl v O;refine⟨by simp[hiB];omega,?_⟩
   simp[hiB]
 | x :: r, len, i, v, hn, hl => by
   have hx:=hl x O;rw[List.cons_append] at hn;obtain⟨n1,n2⟩:=List.pairwise_cons.1 hn
   obtain⟨h1,h2⟩:=z39 k r (x / 2^k+i+1) (i+1) v n2 (λy hy=>by
    have pY:y∈r++[v]:=List.mem_of_mem_head? hy;have:=Nat.div_le_div_right (c:=2^k) (n1 y pY)
    omega)
   rw[List.cons_append,hiB,hiB,h2,List.length_append,List.length_replicate,List.length_cons,List.length_cons];refine⟨by omega,?_⟩;rw[List.append_assoc,List.cons_append,show v / 2^k+(i+1+r.length)-(x / 2^k+i+1+(hiB k (x / 2^k+i+1) (i+1) r).length)=v / 2^k+(i+(r.length+1))-(len+(x / 2^k+i-len+((hiB k (x / 2^k+i+1) (i+1) r).length+1))) by omega]
theorem z54 (k:Nat)(l:List Nat)(v:Nat):Rk k (l++[v])=Rk k l++if l.length=0 then Ov 32 (v / 2^k) else []:=by
 cases l with
 |nil=>simp[Rk]
 |cons x l=>simp[Rk]
def XF (l:List Nat)(f:Fm):NY:=Ow (Ov 32 f.n++Ov 64 f.u)++Ow (RA f.width l)++Ow (hiB f.width 0 0 l)++Ow (Rk f.width l)
theorem zbo {b:Nat}:∀{l:List Nat},(∀x∈l,x<=b)->l.sum<=l.length*b
 |[],_=>by simp
 | x :: l, h => by
   have h1:=h x List.mem_cons_self;have h2:=zbo (λy hy=>h y (List.mem_cons_of_mem x hy));rw[List.sum_cons,List.length_cons,Nat.add_mul];omega
theorem z7Z (k:Nat)(l:List Nat):(Rk k l).length<=32:=by
 cases l with
 |nil=>simp[Rk]
 |cons v l=>simp[Rk]
theorem z0N (k:Nat){l:List Nat}(hn:Nof l){z:Nat}(hz:l[l.length-1]? =some z):(hiB k 0 0 l).length=z / 2^k+l.length:=by
 have:=z6p k l 0 0 hn (λx hx=>Nat.zero_le _) z (by rw[List.getLast?_eq_getElem?];exact hz)
 omega
/-! ### Three writers side by side -/
def zaZ (A B:Nat->Prop):Prop:=∀k,A k->¬B k
structure EfW (w0 w:World)(b5:Nat)(f:Fm)(p1 p2 p3:Nat)(l1 l2 l3:List Bool):Prop where
 ex:∃F1 F2 F3:Nat->Prop,XI w p1 l1 F1/\XI w p2 l2 F2/\XI w p3 l3 F3/\zaZ F1 F2/\zaZ F2 F3/\zaZ F3 F1/\∀k,F1 k\/F2 k\/F3 k->w0.heap.size<=k/\k≠b5
 ext:Ext w0 w
 NX:O9 w b5 (fmC f) 234
section
variable {w0 w:World}{b5:Nat}{f:Fm}{p1 p2 p3:Nat}{l1 l2 l3:List Bool}
theorem EfW.rot (h:EfW w0 w b5 f p1 p2 p3 l1 l2 l3):EfW w0 w b5 f p2 p3 p1 l2 l3 l1:=by
 obtain⟨⟨F1,F2,F3,h1,h2,h3,h4,h5,h6,h7⟩,hx,hb⟩:=h
 exact⟨⟨F2,F3,F1,h2,h3,h1,h5,h6,h4,λk hk=>h7 k (by rcases hk with e|e|e;exact .inr (.inl e);exact .inr (.inr e);exact .inl e)⟩,hx,hb⟩
theorem EfW.on (h:EfW w0 w b5 f p1 p2 p3 l1 l2 l3){w2:World}(hx:Ext w w2):EfW w0 w2 b5 f p1 p2 p3 l1 l2 l3:=by
 obtain⟨⟨F1,F2,F3,h1,h2,h3,h4,h5,h6,h7⟩,gY,hb⟩:=h
 exact⟨⟨F1,F2,F3,h1.ext hx,h2.ext hx,h3.ext hx,h4,h5,h6,h7⟩,gY.trans hx,hx.NX hb⟩
theorem EfW.zbI (h:EfW w0 w b5 f p1 p2 p3 l1 l2 l3):∃F1,XI w p1 l1 F1/\¬F1 b5/\(∀w2 l,WrR p1 F1 w w2 l->EfW w0 w2 b5 f p1 p2 p3 l l2 l3):=by
 obtain⟨⟨F1,F2,F3,h1,h2,h3,h4,h5,h6,h7⟩,gY,hb⟩:=h
 refine⟨F1,h1,λe=>(h7 b5 (.inl e)).2 O,λw2 l hr=>?_⟩
 obtain⟨F1',g1,g2,g3⟩:=hr
 have z:=gY.size
 have lb:=hb.lt
 refine⟨⟨F1',F2,F3,g1,h2.kp g2 (λi hi e=>h4 i e hi),h3.kp g2 (λi hi e=>h6 i hi e),λk hk e=>?_,h5,λk hk e=>?_,λk hk=>?_⟩,gY.NR g2 (λk hk=>(h7 k (.inl hk)).1),g2.NX hb (λe=>(h7 b5 (.inl e)).2 O)⟩
 ·rcases g3 k hk with e1|e1
  ·exact h4 k e1 e
  ·have:=h2.lt e;omega
 ·rcases g3 k e with e1|e1
  ·exact h6 k hk e1
  ·have:=h3.lt hk;omega
 ·rcases hk with hk|hk
  ·rcases g3 k hk with e1|e1
   ·exact h7 k (.inl e1)
   ·exact⟨by omega,by omega⟩
  ·exact h7 k (.inr hk)
theorem EfW.zcU (h:EfW w0 w b5 f p1 p2 p3 l1 l2 l3):∃F2,XI w p2 l2 F2/\(∀w2 l,WrR p2 F2 w w2 l->EfW w0 w2 b5 f p1 p2 p3 l1 l l3):=by
 obtain⟨F2,h1,-,h2⟩:=h.rot.zbI
 exact⟨F2,h1,λw2 l hr=>(h2 w2 l hr).rot.rot⟩
theorem EfW.ziq (h:EfW w0 w b5 f p1 p2 p3 l1 l2 l3):∃F3,XI w p3 l3 F3/\(∀w2 l,WrR p3 F3 w w2 l->EfW w0 w2 b5 f p1 p2 p3 l1 l2 l):=by
 obtain⟨F3,h1,-,h2⟩:=h.rot.rot.zbI
 exact⟨F3,h1,λw2 l hr=>(h2 w2 l hr).rot⟩
end
theorem z4D {w:World}{a:Option Addr}{c:Nat}{l:List Nat}(cT:1<=l.length)(hn:l.length<=64)(m7:Nof l)(hm:∀v∈l,v<=999999999)(hR:Rd w (.slice a l.length c) 1 l.length (l.map u64v)){z:Nat}(hz:l[l.length-1]? =some z):
  Oy prog 99 [.slice a l.length c] w λv w'=>v= .tuple #[S (XF l (T0 l.length (z+1))),I 0]/\Ext w w':=by
 have Nd:=hm z (List.mem_of_getElem? hz)
 have HM:∀v∈l,v<=z:=λv hv=>by
  obtain⟨j,hj⟩:=List.mem_iff_getElem?.1 hv;obtain⟨a1,a2⟩:=List.getElem?_eq_some_iff.1 hj;obtain⟨b1,b2⟩:=List.getElem?_eq_some_iff.1 hz;rcases Nat.lt_or_ge j (l.length-1) with h| h
  ·have:=List.pairwise_iff_getElem.1 m7 j (l.length-1) a1 b1 h
   rwa [a2,b2] at this
  ·have e:j=l.length-1:=by omega
   subst e;rw[hz] at hj;cases hj;exact Nat.le_refl _
 have oO:=Yu (n:=l.length) (u:=z+1) (by omega)
 have nD:=z0j (n:=l.length) (u:=z+1) cT (by omega)
 rw[Nat.add_sub_cancel] at nD
 obtain⟨gb,go,gc',e4⟩:∃b o c',Value.slice a l.length c= .slice (some ⟨b,o,none⟩) l.length c':=by
  rcases hR.2 with⟨c,hc,h0⟩|⟨b,off,c',hc,-⟩
  ·omega
  ·exact⟨b,off,c',hc⟩
 cases e4
 refine NP (e:=[(0,_)]) func99 O ntmps99 O O$ qN O$ Oc O$ NZ O$ py$ qN O$ NT O$ Om zhm O (z8A (by omega) m7 (λv hv=>by have:=hm v hv;omega) hR) ?_
 rintro _ w ⟨rfl,rfl⟩
 refine qV ((Rn O))$ NU$ It O$ An$ qN O$ NZ O$ py$ qN O$ NT O$ Qx U70 O$ PD O O$ NU$ O8 O (λh0=>?_)$ λh0=>?_
 ·refine NW O$ Od O O$ Qx U70 O$ Qp O O ?_;rw[show(l.length:Int)-1=((l.length-1:Nat):Int) by omega];refine qV (P7 U70 Si O O (by omega))$ qV (OC Qy O O (Ps hR (show(l.map u64v)[l.length-1]? =some (u64v z) by rw[List.getElem?_map,hz];rfl))) ?_;refine qV (QP O O) ?_;rw[Nat.mod_eq_of_lt (show z+1<18446744073709551616 by omega)];refine Oc O$ qM O$ NT O$ Qx U70 O$ NT O$ Om za6 O (WG l.length (z+1) cT (by omega) (by omega) (by omega) _) ?_;rintro _ w1 ⟨rfl,ad⟩
  generalize hf:T0 l.length (z+1)=f
  have Ki:f.width=Xe l.length (z+1):=by rw[<-hf];rfl
  have pB:f.n=l.length:=by rw[<-hf];rfl
  have AZ:f.u=z+1:=by rw[<-hf];rfl
  rw[<-Ki] at oO nD;refine O5 O O (QU (cs:=[_,_,_,_]) Sy O) ?_;rintro _ w2 ⟨b5,rfl,gQ,ae,aG⟩;refine Oe O (P4 (news:=fmC f) Sy O O O O aG (by simp)) ?_;rintro w3 ⟨iF,aw⟩;replace iF:O9 w3 b5 (fmC f) 234:=iF;have z1:=ad.size;have z2:=ae.size;have lb5:=iF.lt;have ba:Ext w1 w3:=ae.NR aw (λi e=>by omega);have z3:=ba.size;refine qM O$ Om z0O O (Ty w3) ?_;rintro _ w4 ⟨p1,F1,rfl,Dq,az,oD⟩;refine Om z0O O (Ty w4) ?_;rintro _ w5 ⟨p2,F2,rfl,HN,aR,HO⟩;refine Om z0O O (Ty w5) ?_;rintro _ w6 ⟨p3,F3,rfl,kk,aH,pO⟩;have z4:=az.size;have z5:=aR.size
  have Kj:EfW w w6 b5 f p1 p2 p3 [] [] []:=⟨⟨F1,F2,F3,(Dq.ext aR).ext aH,HN.ext aH,kk,λk h1 h2=>by have:=Dq.lt h1;have:=HO k h2;omega,λk h1 h2=>by have:=HN.lt h1;have:=pO k h2;omega,λk h1 h2=>by have:=Dq.lt h2;have:=pO k h1;omega,λk hk=>by
   rcases hk with h|h| h
   ·have:=oD k h;omega
   ·have:=HO k h;omega
   ·have:=pO k h;omega⟩,(((ad.trans ba).trans az).trans aR).trans aH,aH.NX (aR.NX (az.NX iF))⟩
  refine Oc O$ Oc O$ NZ O$ OD.qb (e:=[(0,_),(2,_),(3,_),(4,_),(5,_),(6,_),(7,_),(8,_)]) ?_;refine py$ qN O$ NT O$ Qx U70 O$ NT O$ NU$ NQ$ Qm (α:=Nat) (0) (λi=>[(4,u64v (z+1)),(5,ptr b5 0),(6,ptr p1 0),(7,ptr p2 0),(8,ptr p3 0),(39,.slice (some ⟨gb,go,none⟩) l.length c),(40,I (l.length:Int)),(41,I (i:Int))]) (λi w'=>EfW w w' b5 f p1 p2 p3 (RA f.width (l.take i)) (hiB f.width 0 0 (l.take i)) (Rk f.width (l.take i))/\i<=l.length) (λi=>l.length-i) ?hI ?hround
  case hI=>exact⟨Kj,Nat.zero_le _⟩
  case hround =>
   rintro i w7 ⟨hE,hi⟩ ih
   try dsimp only
   refine qN O$ Py O O$ NU$ py$ O8 O (λh1=>?_)$ λh1=>?_
   ·have dt:i<l.length:=by omega
    obtain⟨v,hv⟩:∃v,l[i]? =some v:=⟨_,List.getElem?_eq_getElem dt⟩;have pX:=HM v (List.mem_of_getElem? hv);have HP:v / 2^f.width<=z / 2^f.width:=Nat.div_le_div_right pX;have pI:(l.take i).length=i:=by rw[List.length_take];omega
    obtain⟨dm,dc⟩:=z39 f.width (l.take i) 0 0 v (by rw[<-OY hv];exact m7.sublist (List.take_sublist _ _)) (λx hx=>Nat.zero_le _);rw[<-OY hv,Nat.zero_add,Nat.zero_add,pI] at dc;rw[Nat.zero_add,Nat.zero_add,pI] at dm;have Nf:(l.take i).length*f.width<=64*30:=Nat.mul_le_mul (by omega) (by omega);have hg:=Ext.Ob w7;obtain⟨F1',Dr,xD,du⟩:=(hE.on hg).zbI;have xE:O9 w7 b5 [I (f.n:Int),u64v f.u,I (f.width:Int),I (f.bits:Int)] 234:=hE.NX;have pn:=Nat.two_pow_pos f.width;have Ng:2^f.width<=2^30:=Nat.pow_le_pow_right (by decide) oO;refine An$ py$ NQ$ qN O$ NT O$ qV (P7 U70 Si O O (by omega))$ qV (OC Qy O O (Ps (hR.ext hE.ext) (show(l.map u64v)[i]? =some (u64v v) by rw[List.getElem?_map,hv];rfl))) ?_;refine Oc O$ NZ O$ py$ Qj (λw'=>Kp F1' w7 w') O$ Oj 0 O O (hg.kp)$ Oj 1 O O (hg.kp)$ O0 2 O (OG Ss O) (hg.kp)$ qT 3 O (λ_ h=>O6 U3 O O (h.NX xE xD) O) (hg.kp)$ O0 7 O (OG Ss O) (hg.kp)$ qT 8 O (λ_ h=>O6 U3 O O (h.NX xE xD) O) (hg.kp)$ O0 4 O (PX f.width (2^f.width) O O (by omega) O) (hg.kp) ?_;rw[show 1*2^f.width%18446744073709551616=2^f.width by rw[Nat.one_mul];exact Nat.mod_eq_of_lt (by omega)];refine O0 5 O (UB (m:=2^f.width) (n:=1) O O O (by show 2^f.width<2^64;omega) (by omega)) (hg.kp) ?_;refine O0 6 O (Sq O O (by omega) (by omega)) (hg.kp) ?_;rw[Nat.and_two_pow_sub_one_eq_mod];refine RW 9 O Vz O (Rp Dr (v%2^f.width) f.width (by omega) (Nat.mod_lt _ pn) (by rw[TC];omega)) ?_;rintro _ w8 ⟨rfl,fM⟩;refine⟨hg.kp.trans fM.choose_spec.2.1,?_⟩;have B0:=du _ _ fM;rw[<-z96,<-OY hv] at B0;have tH:O9 w8 b5 [I (f.n:Int),u64v f.u,I (f.width:Int),I (f.bits:Int)] 234:=B0.NX;obtain⟨F2',pZ,er⟩:=B0.zcU;refine qE$ qN O$ NT O$ Og Ss O$ qV (O6 U3 O O tH O)$ qV (R9 f.width (2^f.width) O O (by show f.width<=64;omega) O) ?_;have dL:=z54 f.width (l.take i) v;rw[<-OY hv,pI] at dL
    generalize v / 2^f.width=vq at dm dc HP dL
    generalize z / 2^f.width=zq at HP nD
    refine qV (OT O Qy U3 (by omega))$ NT O$ P6 O O ?_;rw[show(vq:Int)+(i:Int)=((vq+i:Nat):Int) by omega];refine NZ O$ py$ qN O$ Od O O$ Om z1K O (Uu pZ) ?_;rintro _ w8 ⟨rfl,rfl⟩;refine Qp O O ?_
    generalize Dt:(hiB f.width 0 0 (l.take i)).length=HL at dm dc
    rw[show((vq+i:Nat):Int)-(HL:Int)=((vq+i-(HL+0):Nat):Int) by omega];refine NZ O$ NQ$ Qm (α:=Nat) (0) (λy=>[(4,u64v (z+1)),(5,ptr b5 0),(6,ptr p1 0),(7,ptr p2 0),(8,ptr p3 0),(9,I (i:Int)),(11,I ((vq+i:Nat):Int)),(12,I ((vq+i-(HL+y):Nat):Int)),(39,.slice (some ⟨gb,go,none⟩) l.length c),(40,I (l.length:Int)),(41,I (i:Int))]) (λy w'=>EfW w w' b5 f p1 p2 p3 (RA f.width (l.take (i+1))) (hiB f.width 0 0 (l.take i)++List.replicate y false) (Rk f.width (l.take i))/\HL+y<=vq+i) (λy=>vq+i-(HL+y)) ?hI ?hround
    case hI=>exact⟨by simpa using B0,dm⟩
    case hround=>
     rintro y w9 ⟨Kk,hy⟩ ih2
     try dsimp only
     obtain⟨F2',pZ,er⟩:=Kk.zcU;refine py$ qN O$ NT O$ PD O O$ NU$ O8 O (λh2=>?_)$ λh2=>?_
     ·obtain⟨m,jI,eg,kY,tI⟩:∃m,min (vq+i-(HL+y)) 64=m/\1<=m/\m<=64/\HL+y+m<=vq+i:=⟨_,rfl,by omega,by omega,by omega⟩;refine An$ py$ NQ$ NW O$ Od O O$ qV (ymi O O) ?_;rw[show min ((vq+i-(HL+y):Nat):Int) 64=(m:Int) by omega];refine Om Vz O (Rp pZ 0 m kY (Nat.two_pow_pos _) (by rw[List.length_append,List.length_replicate,Dt];omega)) ?_;rintro _ w10 ⟨rfl,nE⟩;have kr:=er _ _ nE;rw[UT,List.append_assoc,List.replicate_append_replicate] at kr;obtain⟨F2'',xF,-⟩:=kr.zcU;refine NU$ NS$ NW O$ Od O O$ Om z1K O (Uu xF) ?_;rintro _ w10 ⟨rfl,rfl⟩;rw[show(hiB f.width 0 0 (l.take i)++List.replicate (y+m) false).length=HL+(y+m) by rw[List.length_append,List.length_replicate,Dt]];refine Qp O O ?_;rw[show((vq+i:Nat):Int)-((HL+(y+m):Nat):Int)=((vq+i-(HL+(y+m)):Nat):Int) by omega];refine NZ O ?_;exact(ih2 (y+m) _ ⟨kr,by omega⟩ (by omega)).qb
     ·have Kl:y=vq+i-HL:=by omega
      subst Kl;refine O4 O$ qN O$ NT O$ Om Vz O (Rp pZ 1 1 (by decide) (by decide) (by rw[List.length_append,List.length_replicate,Dt];omega)) ?_;rintro _ w10 ⟨rfl,nE⟩;have kr:=er _ _ nE;rw[show Ov 1 1=[true] from rfl,List.append_assoc,<-dc] at kr;refine qM O$ NT O$ qV (yre O O (by omega))$ Qe O O$ NU$ O8 O (λh3=>?_)$ λh3=>?_
      ·have ki:i=0:=by omega
       obtain⟨F3',Du,pQ⟩:=kr.ziq;refine NW O$ Od O O$ qV ((Pf O U3 Qy (by omega)))$ Om Vz O (Rp Du (vq+i) 32 (by decide) (by show _<2^32;omega) (by rw[ki];show 0+32<=_;omega)) ?_;rintro _ w11 ⟨rfl,Dv⟩;have m8:=pQ _ _ Dv;refine NU$ NS$ NW O$ P6 O O$ NT O$ NU ((ih (i+1) _ ⟨?_,dt⟩ (by omega)).qb);rw[dL,if_pos ki];rw[show vq+i=vq by omega] at m8;exact m8
      ·refine An$ NS$ NW O$ P6 O O$ NT O$ NU ((ih (i+1) _ ⟨?_,dt⟩ (by omega)).qb);rw[dL,if_neg (by omega),List.append_nil];exact kr
   ·have bX:i=l.length:=by omega
    subst bX;rw[List.take_length] at hE;refine O4 O$ qN O$ Om z0O O (Ty w7) ?_;rintro _ w8 ⟨p4,F4,rfl,lT,dq,HQ⟩;have tH:O9 w8 b5 [I (f.n:Int),u64v f.u,I (f.width:Int),I (f.bits:Int)] 234:=(hE.on dq).NX;refine Oc O$ qM O$ NT O$ Og XG O$ qV (O6 U3 O O tH O)$ qV ((Pf O U3 Qy (by omega)))$ Om Vz O (Rp lT f.n 32 (by decide) (by show _<2^32;omega) (by simp)) ?_;rintro _ w9 ⟨rfl,F5,B1,aL,vD⟩;have iG:Ext w7 w9:=dq.NR aL HQ;have z79:=iG.size;refine qM O$ Od O O$ Om Vz O (Rp B1 (z+1) 64 (by decide) (by show _<2^64;omega) (by simp)) ?_;rintro _ w10 ⟨rfl,F6,jS,ar,Nh⟩
    have rA:Ext w7 w10:=iG.NR ar (λk hk=>by
     rcases vD k hk with e| e
     ·exact HQ k e
     ·have:=dq.size;omega)
    rw[List.nil_append,<-AZ] at jS;refine qM O$ NZ O$ py$ qN O$ Od O O$ Od O O$ O5 O O (Vl (cs:=[_,_,_,_]) (zs:=[Value.pointer none,Value.pointer none,Value.pointer none,Value.pointer none]) zeT z6M O (by kernel_rfl) O O O (by decide)) ?_;rintro _ w11 ⟨b100,rfl,⟨HR,aQ,HS⟩,xG⟩;have m8:=hE.on (rA.trans aQ);obtain⟨tx,iY⟩:∃tx:List NY,tx=[Ow (Ov 32 f.n++Ov 64 f.u),Ow (RA f.width l),Ow (hiB f.width 0 0 l),Ow (Rk f.width l)]:=⟨_,rfl⟩
    have lD:∀j,(List.take j (List.map List.length tx)).sum<=4000:=λj=>by
     have h1:∀x∈List.take j (List.map List.length tx),x<=1000:=λx hx=>by
      have ae:=List.mem_of_mem_take hx;rw[iY] at ae;have fJ:(RA f.width l).length<=64*30:=by rw[TC];exact Nat.mul_le_mul hn (by omega)
      have oP:=z0N f.width m7 hz;have ia:=z7Z f.width l;simp only[List.map_cons,List.map_nil,OO,List.length_append,bitsN_length] at ae;simp only[List.mem_cons,List.not_mem_nil,or_false] at ae
      generalize z / 2^f.width=zq at nD oP
      omega
     have h2:=zbo h1;have h3:(List.take j (List.map List.length tx)).length<=4:=by rw[List.length_take,List.length_map,iY];simp;omega
     omega
    have fD:∀(j:Nat) (x:NY),tx[j]? =some x->x.length<=4000:=λj x hx=>by
     have h1:=lD (j+1);rw[OY (q:=x.length) (by rw[List.getElem?_map,hx];rfl),List.sum_append] at h1;simp at h1;omega
    have hq:∀j,j<4->∃q bs F,([ptr p4 0,ptr p1 0,ptr p2 0,ptr p3 0]:List Value)[j]? =some (ptr q 0)/\tx[j]? =some (Ow bs)/\XI w11 q bs F:=λj hj=>by
     obtain⟨F1,h1,-,-⟩:=m8.zbI;obtain⟨F2,h2,-⟩:=m8.zcU;obtain⟨F3,h3,-⟩:=m8.ziq;rw[iY];have Dw:j=0\/j=1\/j=2\/j=3:=by omega
     rcases Dw with e|e|e|e<;>subst e
     ·exact⟨p4,_,_,rfl,rfl,jS.ext aQ⟩
     ·exact⟨p1,_,_,rfl,rfl,h1⟩
     ·exact⟨p2,_,_,rfl,rfl,h2⟩
     ·exact⟨p3,_,_,rfl,rfl,h3⟩
    refine Qx zeT O$ NT O$ NU$ OD.qb (e:=[(14,_),(100,_),(101,_),(102,_)]) ?_;refine NQ$ Qm (α:=Nat) (0) (λj=>[(14,S ((tx.take j).flatten)),(100,.slice (some ⟨b100,0,none⟩) 4 4),(101,I 4),(102,I (j:Int))]) (λj w'=>w'=w11/\j<=4) (λj=>4-j) ?hI ?hround
    case hI=>exact⟨rfl,Nat.zero_le _⟩
    case hround=>
     rintro j w12 ⟨rfl,hj⟩ ih2
     try dsimp only
     refine qN O$ Py O O$ NU$ py$ O8 O (λh2=>?_)$ λh2=>?_
     ·obtain⟨q,bs,F,g1,g2,g3⟩:=hq j (by omega);have Ni:=lD j;have Nj:=fD j _ g2;refine An$ py$ NQ$ qN O$ qV (P7 zeT z6M O O (by omega))$ qV (OC z2M O O (Ps xG.rd g1))$ Oc O$ qM O$ NT O$ Om z7b O (VM g3) ?_;rintro _ w12 ⟨rfl,rfl⟩;refine NT O$ P9 O O$ qV (QL (v:=I 0) O O)$ Oc O$ NZ O$ py$ qN O$ NT O$ Pz O O$ NU$ It O$ An$ NW O$ Od O O ?_;refine qV (VB O O (by first|omega|(simp;done)|(simp;omega))) ?_;refine NZ O$ NS$ NW O$ P6 O O$ NT O$ NU ?_;rw[show(tx.take j).flatten++Ow bs=(tx.take (j+1)).flatten by rw[OY g2,List.flatten_append];simp];exact(ih2 (j+1) _ ⟨rfl,by omega⟩ (by omega)).qb
     ·have Dw:j=4:=by omega
      subst Dw;refine O4 O$ qN O$ NT O$ Oc O$ NZ O$ NV func99 O (⟨_,rfl,?_,(hE.ext.trans rA).trans aQ⟩);rw[iY];simp[Pn,XF]
 ·omega
end Go.Proofs.YtgdkbagngobdlaaGreatDoor
