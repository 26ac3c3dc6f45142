/- Merged by program. -/
import Derived.Test.YtfgjaafcgghnoaaGreatDoorCPp3
set_option linter.all false
set_option maxRecDepth 1000000
set_option maxHeartbeats 16000000
namespace Go.Proofs.YtfgjaafcgghnoaaGreatDoor
open Go Go.RowKit Go.Proofs.Tryz
theorem Xb {w : World}(p : QB)(hp : p.Pk)(x : Nat)(hx : x < 65536){sa ra : Option Addr}{sc rc : Nat}(succ ref : List Nat)(hs : Ov succ)(hr : Ov ref)(r : Nat)(jk : r <= p.O6)(lO : r = 0 -> ref = [])
  (hG:NM w 0 (QX .gamma) 260) (hU:NM w 1 (QX .unary) 260) (dU:Rd w (.slice sa succ.length sc) 1 succ.length (succ.map Oe)) (lY:Rd w (.slice ra ref.length rc) 1 ref.length (ref.map Oe)) (eL:succ.length<=sc) (nJ:ref.length<=rc):
  Oa prog 201 [lpV p,I (x:Int),.slice sa succ.length sc,.slice ra ref.length rc,I (r:Int)] w λu w'=>Sl w' u 323 3 (Qg p x succ ref r).length ((Qg p x succ ref r).flatMap z5A)/\(∀g,u.ownBlock=some g->w.heap.size<=g)/\Ext w w':=by
 obtain⟨g1,g2,g3,g4⟩:=id hp
 have fP:=hs.len
 have ic:=hr.len
 refine Nu (e:=[(0,_),(1,_),(2,_),(3,_),(4,_)]) func201 O ntmps201 O O$ qN O$ NK O O (PW O (cs:=YT p) O) ?_
 rintro _ w1 ⟨b5,rfl,ff,ad,aC⟩
 have z1:=ad.size
 have l5:=aC.lt
 refine NQ O$ qM O$ qV (Oh (news:=[.int .u8 1,NW 0]) R8 O PB O ((ad.ND hG).cells (n:=2) O) O)$ Nz O$ Q0 Ob O$ qV ((OM O U3 Qe (by omega)))$ qV (QP (cs:=[_,_,_]) U7 O zcW O O)$ NK O O (Ur (cs:=[_,_,_]) (zs:=[Value.int .u8 0,Value.int .u64 0,Value.int .u64 0]) z08 U7 O (by kernel_rfl) O O O (by decide)) ?_
 rintro _ w2 ⟨b2,rfl,⟨bQ,ag,am⟩,cm⟩
 have z2:=ag.size
 have l2:=am.lt
 refine NK O O (Qk (cs:=[_]) z8G O) ?_
 rintro _ w3 ⟨n11,rfl,jf,ah,bA⟩
 have z3:=ah.size
 refine NP O (PA z8G O O O bA (by simp)) ?_
 rintro w4 ⟨kX,ao⟩
 have z4:=ao.size
 replace kX:NM w4 n11 [.slice (some ⟨b2,0,none⟩) 1 1] 320:=kX
 have ee:=(cm.ext ah).kp ao (λg hg e=>by have h1:b2=g:=Pz hg;omega)
 have vI:NuI w w1 p b5 n11 [(.gamma,succ.length)] w4:=⟨⟨fpW n11 (.slice (some ⟨b2,0,none⟩) 1 1),⟨_,⟨kX,ee,λe=>by have h1:b2=n11:=Pz e;omega⟩,λ_=>Iff.rfl⟩,λk hk=>by
   rcases hk with e| e
   ·omega
   ·have h1:b2=k:=Pz e
    omega⟩,((ad.trans ag).trans ah).Nv ao (λk e=>by omega),ao.ND (ah.ND (ag.ND aC)) (by omega),by omega⟩
 refine NB$ py$ qN O$ Nz O$ Q0 Ob O$ Px O O$ NB$ NN O (λe0=>?_)$ λe0=>?_
 ·have fm:succ=[]:=List.eq_nil_of_length_eq_zero (by omega);subst fm;refine qN O$ qV (NJ z08 O O kX O)$ NF O$ NA func201 O ?_;have lX:Qg p x [] ref r=[(.gamma,0)]:=by simp[Qg]
  rw[lX];exact⟨_,rfl,ee,λg hg=>by have h1:b2=g:=Pz hg;omega,vI.ext⟩
 ·have eS := vI.b5; replace eS : NM w4 b5 [I (p.O6 : Int), I (p.interval : Int), I (p.zeta : Int)] 212 := eS; refine An (qN O (qV (ymf (first := []) (caps := [.tmp 11]) O O) (NF O (py (qN O (NO RO O (qV (NJ U3 O O eS O) (P9 O O (NB (Oy (λe' w' => e' = [(1, I (x : Int)), (2, .slice sa succ.length sc), (3, .slice ra ref.length rc), (4, I (r : Int)), (5, ptr b5 0), (11, ptr n11 0), (12, .func (.func 227) #[] #[ptr n11 0])] /\ NuI w w1 p b5 n11 ([(.gamma, succ.length)] ++ (if 0 < p.O6 then [(.unary, r)] else [])) w') ?cJ (λcJ => ?di)))))))))))
  case cJ =>
   rintro e' w5 ⟨rfl,tA⟩;have C9:=tA.siz;refine qN O$ NK O O (Ur (cs:=[_]) (zs:=[Value.int .i64 0]) Qd OL O (by kernel_rfl) O O O (by decide)) ?_;rintro _ w6 ⟨b43,rfl,⟨Ca,aK,dW⟩,nK⟩;have l6:=dW.lt;refine NK O O (Qk (cs:=[_]) z4a O) ?_;rintro _ w7 ⟨rn,rfl,IY,bV,xe⟩;have l7:=xe.lt;have z7:=bV.size;refine NK O O (Qk (cs:=[_]) QC O) ?_;rintro _ w8 ⟨lf,rfl,IZ,dC,xh⟩;have l8:=xh.lt;have z8:=dC.size;refine NP O (PA z4a O O O (dC.ND xe) (by simp)) ?_;rintro w9 ⟨nL,aS⟩;have z9:=aS.size;replace nL:NM w9 rn [.slice (some ⟨b43,0,none⟩) 1 1] 40:=nL;refine NP O (PA QC O O O (aS.ND xh (by omega)) (by simp)) ?_;rintro w10 ⟨kk,au⟩;have z10:=au.size;replace kk:NM w10 lf [.slice none 0 0] 45:=kk;have gp:Ext w5 w10:=(((aK.trans bV).trans dC).Nv aS (λk e=>by omega)).Nv au (λk e=>by omega)
   have pZ:NuI w w1 p b5 n11 ([(.gamma,succ.length)]++(if 0<p.O6 then [(.unary,r)] else [])) w10:=by
    obtain⟨⟨F,h1,h2⟩,h3,h4,h5⟩:=tA;exact⟨⟨F,h1.ext gp,h2⟩,h3.trans gp,gp.ND h4,by have:=gp.size;omega⟩
   have bz:=(((nK.ext bV).ext dC).kp aS (λg hg e=>by have h1:b43=g:=Pz hg;omega)).kp au (λg hg e=>by have h1:b43=g:=Pz hg;omega);have J0:z2g w10 lf [] (fpW lf (.slice none 0 0)):=⟨_,⟨kk,Sl.nil _ _ _,λe=>by cases e⟩,λ_=>Iff.rfl⟩;have J1:z0B w10 rn [0] (fpW rn (.slice (some ⟨b43,0,none⟩) 1 1)):=⟨_,⟨au.ND nL (by omega),bz,λe=>by have h1:b43=rn:=Pz e;omega⟩,λ_=>Iff.rfl⟩
   have lZ:∀k,fpW lf (.slice none 0 0) k->k=lf:=λk hk=>by
    rcases hk with e| e
    ·exact e
    ·cases e
   have iZ:∀k,fpW rn (.slice (some ⟨b43,0,none⟩) 1 1) k->k=rn\/k=b43:=λk hk=>by
    rcases hk with e| e
    ·exact .inl e
    ·exact .inr (Pz e).symm
   have cM:∀k,fpW lf (.slice none 0 0) k\/fpW rn (.slice (some ⟨b43,0,none⟩) 1 1) k->w5.heap.size<=k:=λk hk=>by
    rcases hk with e| e
    ·have:=lZ k e;omega
    ·rcases iZ k e with e|e<;>omega
   have hE:SI w10 succ ref lf rn (fpW lf (.slice none 0 0)) (fpW rn (.slice (some ⟨b43,0,none⟩) 1 1)) succ sa sc ref ra rc [] [0] w10:=by
    refine⟨⟨_,_,[],J0,J1,S7.zero,by simpa using ic,by simp;omega,λk h=> .inl h,λk h=> .inl h,λk h1 h2=>?_⟩,λw2 k=>?_,λw2 k=>?_,eL,nJ,Kp.refl _ _,hs,hr,rfl,rfl,by simpa using fP⟩
    ·have e1:=lZ k h1;rcases iZ k h2 with e2|e2<;>omega
    ·exact(dU.ext pZ.ext).kpz k (λh0 g hg hS=>by have e1:=dU.ltz (by decide) h0 hg;have e2:=cM g hS;omega)
    ·exact(lY.ext pZ.ext).kpz k (λh0 g hg hS=>by have e1:=lY.ltz (by decide) h0 hg;have e2:=cM g hS;omega)
   refine qM O$ NT O O$ qV (ymf (first:=[]) (caps:=[.tmp 14,.tmp 13]) O O)$ NZ zeZ O (z9o hE) ?_;rintro _ w11 ⟨rfl,FL,FR,xi,q9,Cb,Cc,lM,bu⟩
   have qa:NuI w w1 p b5 n11 ([(.gamma,succ.length)]++(if 0<p.O6 then [(.unary,r)] else [])) w11:=by
    have aQ:Kp (λk=>fpW lf (.slice none 0 0) k\/fpW rn (.slice (some ⟨b43,0,none⟩) 1 1) k) w10 w11:=bu;have Ce:=tA.ex;obtain⟨⟨F,h1,h2⟩,h3,h4,h5⟩:=pZ;obtain⟨F5,h6,h7⟩:=Ce;have ff:b5<w5.heap.size:=tA.b5.lt;refine⟨⟨F5,(h6.ext gp).kp aQ (λk hk hS=>by have e1:=h6.lt hk;have e2:=cM k hS;omega),h7⟩,h3.Nv aQ (λk hk=>by have e2:=cM k hk;have:=tA.ext.size;omega),aQ.ND h4 (λhS=>by have e2:=cM b5 hS;omega),by have:=aQ.size;omega⟩
   generalize hA:([(Cd.gamma,succ.length)]++(if 0<p.O6 then [(Cd.unary,r)] else []):List (Cd×Nat))=A at qa pZ tA
   have MA:A.length<=2:=by rw[<-hA];split<;>simp
   have xj:∀k,(FL k\/FR k)->k<w11.heap.size:=λk hk=>by
    rcases hk with e| e
    ·exact xi.lt e
    ·exact q9.lt e
   have qc:NuX w w1 w11 p b5 n11 (λk=>FL k\/FR k) A w11:=by
    obtain⟨F5,h6,h7⟩:=tA.ex;have MB:=gp.size;refine⟨⟨F5,(h6.ext gp).kp bu (λk hk hS=>by have e1:=h6.lt hk;have e2:=cM k hS;omega),h7,λk hk hX=>?_⟩,qa.ext,qa.b5,qa.siz,Kp.refl _ _⟩;have e1:=h6.lt hk;rcases hX with e| e
    ·rcases Cb k e with e2|e2
     ·have:=cM k (.inl e2);omega
     ·omega
    ·rcases Cc k e with e2|e2
     ·have:=cM k (.inr e2);omega
     ·omega
   refine NB$ py$ qN O$ Nz O$ P9 O O$ NB$ Oy (λe' w'=>e'=[(1,I (x:Int)),(5,ptr b5 0),(11,ptr n11 0),(12,.func (.func 227) #[] #[ptr n11 0]),(14,ptr lf 0)]/\NuX w w1 w11 p b5 n11 (λk=>FL k\/FR k) (A++(if 0<r then(.gamma,(PT succ ref).length-1)::P7 0 (PT succ ref).dropLast else [])) w') ?fd$ λfd=>?fY
   case fd =>
    rintro e' w12 ⟨rfl,jl⟩;have j3:succ≠[]:=λe=>e0 (by rw[e];rfl)
    generalize hB:(if 0<r then(Cd.gamma,(PT succ ref).length-1)::P7 0 (PT succ ref).dropLast else []:List (Cd×Nat))=B at jl
    have xl:=xi.kp jl.kx (λk hk e=>e (.inl hk));obtain⟨vl,AH,MC⟩:=xl;obtain⟨la,lc,rfl,-⟩:=AH.sl.rd.shape;obtain⟨F,⟨vn,rJ,xm⟩,qd,Cf⟩:=id jl.ex;have H3:=AH.ND;have vJ:=rJ.ND;refine py$ qN O$ qV ((NJ Ob O O H3 O))$ Q0 Ob O$ Px O O$ NB$ NN O (λe3=>?_)$ λe3=>?_
    ·have gO:Od succ ref=[]:=List.eq_nil_of_length_eq_zero (by omega)
     have nM:Qg p x succ ref r=A++B:=by
      unfold Qg;rw[if_neg j3,if_pos gO,List.append_nil,<-hA,<-hB];rfl
     refine qN O$ qV ((NJ z08 O O vJ O))$ NF O$ NA func201 O ?_;rw[nM];exact⟨_,rfl,rJ.sl,λg hg=>by have:=qd g ((xm g).2 (.inr hg));omega,jl.ext⟩
    ·have rK := jl.b5; replace rK : NM w12 b5 [I (p.O6 : Int), I (p.interval : Int), I (p.zeta : Int)] 212 := rK; refine An (qN O (qV ((NJ Ob O O H3 O)) (NO SQ O (qV ((NJ U3 O O rK O)) ?_)))); have ay : Ov (Od succ ref) := hs.sub List.filter_sublist; have J2 := ay.len
     have iC:(Od succ ref).length<=lc:=by
      rcases AH.sl.shape with⟨-,h0⟩|⟨g,c1,hv,dH⟩
      ·omega
      ·cases hv;exact dH
     refine NZ zg3 O (z8M la lc (Od succ ref) p.interval ay iC (by omega) w12 AH.sl.rd) ?_;rintro _ w13 ⟨v4,v5,rfl,m6,nN,aO,qe,nO,H4⟩;have dB:=T5 p.interval (Od succ ref);have qf:Ov (OK p.interval (Od succ ref)).2:=ay.sub dB
     have gS:∀k,(v4.ownBlock=some k\/v5.ownBlock=some k)->w12.heap.size<=k/\k<w13.heap.size:=λk hk=>by
      rcases hk with e| e
      ·exact⟨qe k e,m6.lt e⟩
      ·exact⟨nO k e,nN.lt e⟩
     have qg:NuX w w1 w13 p b5 n11 (λk=>v4.ownBlock=some k\/v5.ownBlock=some k) (A++B) w13:=by
      have jW:∀k,F k->k<w12.heap.size:=λk hk=>by
       rcases (xm k).1 hk with e| e
       ·rw[e];exact rJ.ND.lt
       ·exact rJ.sl.lt e
      have xn:z3D w12 n11 (A++B) F:=⟨vn,rJ,xm⟩;exact⟨⟨F,xn.ext aO,qd,λk hk hX=>by have e1:=jW k hk;have e2:=(gS k hX).1;omega⟩,jl.ext.trans aO,aO.ND jl.b5,by have e1:=jl.siz;have e2:=aO.size;omega,Kp.refl _ _⟩
     have xo:=aO.ND rK;have J3:=m6.oneV;have J4:=nN.oneV;refine Nz O$ ON O O$ ON O O$ NQ O$ NF O$ py$ qN O$ NO SQ O$ qV (NJ U3 O O xo O)$ P9 O O$ NB ?_
     have J5:(A++B).length<=200000:=by
      rw[List.length_append,<-hB];split
      ·rw[List.length_cons,RF,List.length_dropLast];have h1:=(RI succ ref).ZD;rw[List.length_map] at h1;omega
      ·simp;omega
     generalize hQ:OK p.interval (Od succ ref)=Q at m6 nN qf dB
     have MD : Q.1.length <= 65536 := by
      have h1:=Sh p.interval (Od succ ref);have h2:=h1.length_eq;rw[hQ,List.length_append] at h2
      have h3:∀R:List (Nat×Nat),Rx p.interval 0 R->R.length<=(PJ R).length:=by
       have h4:∀(R:List (Nat×Nat)) (lo:Nat),Rx p.interval lo R->R.length<=(PJ R).length:=by
        intro R
        induction R with
        |nil=>intro lo h;exact Nat.le_refl _
        | cons q R ih =>
          intro lo h;have h5:=ih _ h.2.2.2;have h6:1<=q.2:=h.2.1;rw[show PJ (q::R)=(List.range q.2).map (q.1+·)++PJ R from rfl,List.length_append,List.length_map,List.length_range,List.length_cons];omega
       exact λR h=>h4 R 0 h
      have h5:=h3 _ (TG p.interval (Od succ ref) 0 ay.Yf (λy _=>Nat.zero_le _));rw[hQ] at h5;omega
     have qh:Rx p.interval 0 Q.1:=by have h:=TG p.interval (Od succ ref) 0 ay.Yf (λy _=>Nat.zero_le _);rwa [hQ] at h
     have tB:∀q∈Q.1,1<=q.2->q.1+q.2<=65536:=λq hq h1=>z8Y (least:=p.interval) ay.lt (by rw[hQ];exact hq) h1
     have Cg:∃fa fc,v4= .slice fa Q.1.length fc:=by
      obtain⟨fa,fc,e,-⟩:=m6.rd.shape;exact⟨fa,fc,e⟩
     obtain⟨fa,fc,rfl⟩:=Cg;refine Oy (λe' w'=>e'=[(1,I (x:Int)),(5,ptr b5 0),(11,ptr n11 0),(12,.func (.func 227) #[] #[ptr n11 0]),(17,.slice fa Q.1.length fc),(18,v5)]/\NuX w w1 w13 p b5 n11 (λk=>(Value.slice fa Q.1.length fc).ownBlock=some k\/v5.ownBlock=some k) (A++B++if 0<p.interval then [(.gamma,Q.1.length)] else []) w') ?az$ λaz=>?eu
     case az =>
      rintro e' w14 ⟨rfl,xq⟩;refine qN O$ NF O$ py$ qN O$ Nz O$ Q0 zaK O$ Nz O$ NB$ Nw ?_
      generalize Ch:(if 0<p.interval then [(Cd.gamma,Q.1.length)] else []:List (Cd×Nat))=C0 at xq
      refine QW (λe' w'=>e'=[(1,I (x:Int)),(5,ptr b5 0),(11,ptr n11 0),(12,.func (.func 227) #[] #[ptr n11 0]),(18,v5)]/\NuX w w1 w13 p b5 n11 (λk=>(Value.slice fa Q.1.length fc).ownBlock=some k\/v5.ownBlock=some k) (A++B++C0++OD x p.interval none Q.1) w') ?nH$ λnH=>?nI
      case nH =>
       rintro e' w15 ⟨rfl,gq⟩;obtain⟨F15,gt,ma,jm⟩:=gq.ex;have nP:=gq.b5;replace nP:NM w15 b5 [I (p.O6:Int),I (p.interval:Int),I (p.zeta:Int)] 212:=nP;refine qN O$ NO Z1 O$ qV (NJ U3 O O nP O)$ qV ((OM O U3 Qe (by omega)))$ qV (QP (cs:=[_,_]) PB O zcb O O)$ NK O O (Qk (cs:=[_,_]) PB O) ?_;rintro _ w16 ⟨b22,rfl,J6,aD,iD⟩;have z16:=aD.size;refine NP O (OA (news:=[.int .u8 3,NW p.zeta]) PB O O O O iD (by simp)) ?_;rintro w17 ⟨kY,bR⟩;replace kY:NM w17 b22 [.int .u8 3,NW p.zeta] 260:=kY;have cS:Ext w15 w17:=aD.Nv bR (λk e=>by omega);have z17:=cS.size;have j4:¬F15 b22:=λe=>by have:=gt.lt e;omega
       have ew:=(nN.kp gq.kx (λg hg e=>e (.inr hg))).ext cS
       obtain⟨ha,hc,e5⟩:∃a c,v5= .slice a Q.2.length c:=by
        obtain⟨fa,fc,e,-⟩:=nN.rd.shape;exact⟨fa,fc,e⟩
       subst e5;have mc:=(gq.ex2 cS).again (X':=λk=>(Value.slice ha Q.2.length hc).ownBlock=some k\/k=b22) (gt.ext cS) ma (λk hk hX=>by rcases hX with hX|e;exact jm k hk (.inr hX);exact j4 (e▸hk));have l22:=kY.lt
       have jL:∀k,((Value.slice ha Q.2.length hc).ownBlock=some k\/k=b22)->k<w17.heap.size:=λk hk=>by
        rcases hk with e| e
        ·have:=ew.lt e;omega
        ·omega
       have AI:=qf.len
       have Ci:(A++B++C0++OD x p.interval none Q.1).length<=400000:=by
        rw[List.length_append,List.length_append,R6,<-Ch];split<;>simp only[List.length_cons,List.length_nil]<;>omega
       refine NB$ py$ qN O$ Nz O$ Q0 Ob O$ Nz O$ NB$ Nw$ Qb (α:=Nat) (0) (λi=>[(1,I (x:Int)),(11,ptr n11 0),(12,.func (.func 227) #[] #[ptr n11 0]),(18,.slice ha Q.2.length hc),(22,ptr b22 0),(138,.slice ha Q.2.length hc),(139,I (Q.2.length:Int)),(140,I (i:Int))]) (λi w'=>NuX w w1 w17 p b5 n11 (λk=>(Value.slice ha Q.2.length hc).ownBlock=some k\/k=b22) (A++B++C0++OD x p.interval none Q.1++OE x p.zeta none (Q.2.take i)) w'/\i<=Q.2.length) (λi=>Q.2.length-i) ?hI ?hround
       case hI=>exact⟨by simpa[OE] using mc,Nat.zero_le _⟩
       case hround=>
        rintro i w18 ⟨fB,hi⟩ ih
        try dsimp only
        refine qN O$ Pb O O$ NB$ py$ NN O (λe5=>?_)$ λe5=>?_
        ·have dG:i<Q.2.length:=by omega
         obtain⟨v,hv⟩:∃v,Q.2[i]? =some v:=⟨_,List.getElem?_eq_getElem dG⟩;have xt:v<65536:=qf.lt v (List.mem_of_getElem? hv);have xu:=ew.kp fB.kx (λg hg e=>e (.inl hg))
         obtain⟨g5,c5,e6⟩:∃g c,Value.slice ha Q.2.length hc= .slice (some ⟨g,0,none⟩) Q.2.length c:=by
          rcases ew.shape with⟨-,h0⟩|⟨g,c,e,hc⟩
          ·omega
          ·exact⟨g,c,e⟩
         cases e6;obtain⟨F18,kZ,qi,ie⟩:=fB.ex;have nQ:=fB.kx.ND kY (λe=>e (.inr O));have rL:¬F18 b22:=λe=>ie b22 e (.inr O);have hg:=Ext.NY w18;have AJ:=fB.ex2 hg
         have qj:(A++B++C0++OD x p.interval none Q.1++OE x p.zeta none (Q.2.take i)).length<=500000:=by
          rw[List.length_append,RZ,List.length_take];omega
         refine An$ py$ Nw$ qN O$ Nz O$ qV (OH Ob NV O O (by omega))$ qV (Oi OX O O (P6 xu.rd (show(Q.2.map Oe)[i]? =some (Oe v) by rw[List.getElem?_map,hv];rfl))) ?_;refine NQ O$ NQ O$ qM O$ Nz O$ Px O O$ NB$ NN O (λe6=>?_)$ λe6=>?_
         ·have kl:i=0:=by omega
          refine PK (λw'=>Kp F18 w18 w') O$ NX 0 O O (hg.kp)$ NX 2 O O (hg.kp)$ NG 3 O (Ow O OX U2 (by omega)) (hg.kp)$ NX 4 O O (hg.kp)$ NG 5 O (W5 O O (by omega)) (hg.kp)$ qT 1 O (λ_ h=>Oh (news:=[.int .u8 3,NW p.zeta]) R8 O PB O ((h.ND nQ rL).cells (n:=2) O) O) (hg.kp)$ Qv 6 O zcU O (z5Z ((v:Int)-x) (by omega) _) ?_;rintro _ w19 ⟨rfl,rfl⟩;refine⟨hg.kp,?_⟩;have xv:=XY (z:=(v:Int)-x) (n:=65537) (by omega) (by omega);refine NG 7 O (Ow O Qe U3 (by omega)) (hg.kp)$ qO 8$ UO (i:=8) O O O (QH WR O O) (S3 (kZ.ext hg) (by omega) (.zeta p.zeta) (zig ((v:Int)-x)) (by omega)) ?_;rintro _ w20 ⟨rfl,F20,tC,nR,tD⟩;refine⟨hg.kp.trans nR,?_⟩;have qk:=AJ.put jL qi ie l5 z1 ⟨F20,tC,nR,tD⟩;refine qE$ Ny$ NC O$ OI O O$ Nz O$ NB ((ih (i+1) _ ⟨?_,by omega⟩ (by omega)).qb);rw[OB hv,W3,<-List.append_assoc,show Q.2.take i=[] by rw[kl];rfl];rw[show Q.2.take i=[] by rw[kl];rfl] at qk;exact qk
         ·have kl:0<i:=by omega
          obtain⟨u,hu⟩:∃u,Q.2[i-1]? =some u:=⟨_,List.getElem?_eq_getElem (by omega)⟩
          have ME:u<v:=by
           obtain⟨a1,a2⟩:=List.getElem?_eq_some_iff.1 hu;obtain⟨b1,b2⟩:=List.getElem?_eq_some_iff.1 hv;have:=List.pairwise_iff_getElem.1 qf.Yf (i-1) i a1 b1 (by omega)
           rwa [a2,b2] at this
          refine PK (λw'=>Kp F18 w18 w') O$ NX 0 O O (hg.kp)$ NX 2 O O (hg.kp)$ NX 3 O O (hg.kp)$ NX 4 O O (hg.kp)$ qT 1 O (λ_ h=>Oh (news:=[.int .u8 3,NW p.zeta]) R8 O PB O ((h.ND nQ rL).cells (n:=2) O) O) (hg.kp)$ NG 5 O (W5 O O (by omega)) (hg.kp) ?_;rw[show(i:Int)-1=((i-1:Nat):Int) by omega];refine NG 6 O (OH Ob NV O O (by omega)) (hg.kp)$ qT 7 O (λ_ hS=>Oi OX O O (P6 (xu.kp hS (λg hg e=>ie g e (.inl hg))).rd (show(Q.2.map Oe)[i-1]? =some (Oe u) by rw[List.getElem?_map,hu];rfl))) (hg.kp) ?_;refine NG 8 O (Uh (m:=v) (n:=u) O O O (by show v<2^32;omega) (by omega)) (hg.kp) ?_;refine NG 9 O (Uh (m:=v-u) (n:=1) O O O (by show v-u<2^32;omega) (by omega)) (hg.kp) ?_;refine NG 10 O (Ow O OX U3 (by omega)) (hg.kp)$ qO 11$ UO (i:=11) O O O (QH WR O O) (S3 (kZ.ext hg) (by omega) (.zeta p.zeta) (v-u-1) (by omega)) ?_;rintro _ w20 ⟨rfl,F20,tC,nR,tD⟩;refine⟨hg.kp.trans nR,?_⟩;have qk:=AJ.put jL qi ie l5 z1 ⟨F20,tC,nR,tD⟩;refine qE$ Ny$ NC O$ OI O O$ Nz O$ NB ((ih (i+1) _ ⟨?_,by omega⟩ (by omega)).qb);rw[OB hv,W3,<-List.append_assoc,List.getLast?_take,if_neg (by omega),hu];exact qk
        ·have cu:i=Q.2.length:=by omega
         rw[cu,List.take_length] at fB;obtain⟨F,⟨vn,rJ,xm⟩,qd,Cf⟩:=id fB.ex;have vJ:=rJ.ND
         have nM:Qg p x succ ref r=A++B++C0++OD x p.interval none Q.1++OE x p.zeta none Q.2:=by
          have gO:¬Od succ ref=[]:=λe=>e3 (by rw[e];rfl);unfold Qg;rw[if_neg j3,if_neg gO,hQ,hB,<-hA,<-Ch];by_cases kl:0<p.interval
          ·simp only[if_pos kl,List.append_assoc,List.cons_append,List.nil_append]
          ·have cY:Q.1=[]:=by rw[<-hQ,show p.interval=0 by omega];exact WC _
           rw[cY];simp only[if_neg kl,List.append_assoc,List.cons_append,List.nil_append,OD]
         refine NL O$ qN O$ qV (NJ z08 O O vJ O)$ NF O$ NA func201 O ?_;rw[nM];exact⟨_,rfl,rJ.sl,λg hg=>by have:=qd g ((xm g).2 (.inr hg));omega,fB.ext⟩
      case nI=>
       refine Qb (α:=Nat) (0) (λi=>[(1,I (x:Int)),(5,ptr b5 0),(11,ptr n11 0),(12,.func (.func 227) #[] #[ptr n11 0]),(18,v5),(19,I (z4Z (Xc (Q.1.take i)))),(94,.slice fa Q.1.length fc),(95,I (Q.1.length:Int)),(96,I (i:Int))]) (λi w'=>NuX w w1 w13 p b5 n11 (λk=>(Value.slice fa Q.1.length fc).ownBlock=some k\/v5.ownBlock=some k) (A++B++C0++OD x p.interval none (Q.1.take i)) w'/\i<=Q.1.length) (λi=>Q.1.length-i) ?hI ?hround
       case hI=>exact⟨by simpa[OD] using xq,Nat.zero_le _⟩
       case hround =>
        rintro i w15 ⟨gq,hi⟩ ih
        try dsimp only
        refine qN O$ Pb O O$ NB$ py$ NN O (λe5=>?_)$ λe5=>?_
        ·have dG:i<Q.1.length:=by omega
         obtain⟨⟨q1,q2⟩,hq⟩:∃q,Q.1[i]? =some q:=⟨_,List.getElem?_eq_getElem dG⟩;obtain⟨ok1,ok2,ok3,-⟩:=Xv Q.1 0 i (q1,q2) qh hq;dsimp only at ok1 ok2 ok3;have MF:q1+q2<=65536:=tB (q1,q2) (List.mem_of_getElem? hq) ok1;have Cj:=m6.kp gq.kx (λg hg e=>e (.inl hg))
         obtain⟨g4,c4,e4⟩:∃g c,Value.slice fa Q.1.length fc= .slice (some ⟨g,0,none⟩) Q.1.length c:=by
          rcases m6.shape with⟨-,h0⟩|⟨g,c,e,hc⟩
          ·omega
          ·exact⟨g,c,e⟩
         cases e4;obtain⟨F15,gt,ma,jm⟩:=gq.ex;refine An$ py$ Nw$ qN O$ qV (OH zaK Zz O O (by omega))$ qV (Oh (news:=[I (q1:Int),I (q2:Int)]) zje O Zz O (zah Cj.rd hq) O)$ NK O O (Qk (cs:=[_,_]) Zz O) ?_;rintro _ w16 ⟨b21,rfl,J7,aD,Ck⟩;have z16:=aD.size;refine NP O (OA (news:=[I (q1:Int),I (q2:Int)]) Zz O O O O Ck (by simp)) ?_;rintro w17 ⟨gu,bR⟩;replace gu:NM w17 b21 [I (q1:Int),I (q2:Int)] 350:=gu;have cS:Ext w15 w17:=aD.Nv bR (λk e=>by omega);have mc:=gq.ex2 cS;have j4:¬F15 b21:=λe=>by have:=gt.lt e;omega
         have ph:¬F15 0:=λe=>by have:=ma 0 e;have:=hG.lt;omega
         have Ci:(A++B++C0++OD x p.interval none (Q.1.take i)).length<=400000:=by
          rw[List.length_append,List.length_append,R6,List.length_take,<-Ch];split<;>simp only[List.length_cons,List.length_nil]<;>omega
         refine NB$ py$ qN O$ Nz O$ Pb O O$ NB ?_;have rM:=mc.again (X':=(λk=>((Value.slice (some ⟨g4,0,none⟩) Q.1.length fc).ownBlock=some k\/v5.ownBlock=some k)\/k=b21)) (gt.ext cS) ma (λk hk hX=>by rcases hX with hX|e;exact jm k hk hX;exact j4 (e▸hk));have J8:=cS.size;have l21:=gu.lt
         have jL:∀k,(((Value.slice (some ⟨g4,0,none⟩) Q.1.length fc).ownBlock=some k\/v5.ownBlock=some k)\/k=b21)->k<w17.heap.size:=λk hk=>by
          rcases hk with e| e
          ·have:=(gS k e).2;have:=gq.kx.size;omega
          ·omega
         refine Oy (λe' w'=>e'=[(1,I (x:Int)),(5,ptr b5 0),(11,ptr n11 0),(12,.func (.func 227) #[] #[ptr n11 0]),(18,v5),(21,ptr b21 0),(94,.slice (some ⟨g4,0,none⟩) Q.1.length fc),(95,I (Q.1.length:Int)),(96,I (i:Int))]/\NuX w w1 w17 p b5 n11 (λk=>((Value.slice (some ⟨g4,0,none⟩) Q.1.length fc).ownBlock=some k\/v5.ownBlock=some k)\/k=b21) (A++B++C0++OD x p.interval none (Q.1.take i)++[(.gamma,Tb x (Xc (Q.1.take i)) q1)]) w') ?dg$ λdg=>?Cm
         case dg=>
          rintro e' w18 ⟨rfl,fB⟩;obtain⟨F18,kZ,qi,ie⟩:=fB.ex;have xw:=fB.kx.ND gu (λe=>e (.inr O));have nS:=fB.b5;replace nS:NM w18 b5 [I (p.O6:Int),I (p.interval:Int),I (p.zeta:Int)] 212:=nS;refine qN O$ Nz O$ qV (Oh (news:=[.int .u8 1,NW 0]) R8 O PB O ((fB.ext.ND hG).cells (n:=2) O) O)$ NO z6r O$ qV ((NJ U3 O O xw O))$ NO SQ O$ qV ((NJ U3 O O nS O))$ Qc O O ?_;rw[show(q2:Int)-(p.interval:Int)=((q2-p.interval:Nat):Int) by omega];refine Pv O O (QH WR O O) (S3 kZ (by rw[List.length_append,List.length_singleton];omega) .gamma (q2-p.interval) (by omega)) ?_;rintro _ w19 ⟨rfl,Cl⟩;have xy:=fB.put jL qi ie l5 z1 Cl;have rN:=xy.kx.ND gu (λe=>e (.inr O));refine NB$ NC O$ NO z1C O$ qV (NJ U3 O O rN O)$ NO z6r O$ qV (NJ U3 O O rN O)$ OI O O$ Qc O O$ NF O$ Ny$ NC O$ OI O O$ Nz O$ NB ?_;rw[show(q1:Int)+q2-1=z4Z (Xc (Q.1.take (i+1))) by rw[OB hq,z6X];show _=((q1+q2-1:Nat):Int);omega];refine(ih (i+1) _ ⟨?_,by omega⟩ (by omega)).qb;rw[OB hq,z0v,<-List.append_assoc,show [(Cd.gamma,Tb x (Xc (Q.1.take i)) q1),(Cd.gamma,q2-p.interval)]=[(Cd.gamma,Tb x (Xc (Q.1.take i)) q1)]++[(Cd.gamma,q2-p.interval)] from rfl,<-List.append_assoc];exact mc.back xy (λk hk=> .inl hk)
         case Cm=>
          have hg:=Ext.NY w17;have AJ:=rM.ex2 hg
          cases hE:Xc (Q.1.take i) with
          | none =>
            refine NN O (λe6=>?_)$ λe6=>?_
            ·refine PK (λw'=>Kp F15 w17 w') O$ NX 0 O O (hg.kp)$ NG 2 O (Og z1C O) (hg.kp)$ qT 3 O (λ_ h=>NJ U3 O O (h.ND gu j4) O) (hg.kp)$ NX 4 O O (hg.kp)$ NG 5 O (W5 O O (by omega)) (hg.kp)$ qT 1 O (λ_ hS=>Oh (news:=[.int .u8 1,NW 0]) R8 O PB O ((hS.ND (mc.ext.ND hG) ph).cells (n:=2) O) O) (hg.kp)$ Qv 6 O zcU O (z5Z ((q1:Int)-x) (by omega) _) ?_;rintro _ w18 ⟨rfl,rfl⟩;refine⟨hg.kp,?_⟩;have xv:=XY (z:=(q1:Int)-x) (n:=65537) (by omega) (by omega);refine NG 7 O (Ow O Qe U3 (by omega)) (hg.kp)$ qO 8$ UO (i:=8) O O O (QH WR O O) (S3 ((gt.ext cS).ext hg) (by omega) .gamma (zig ((q1:Int)-x)) (by omega)) ?_;rintro _ w19 ⟨rfl,F19,Cn,xz,Co⟩;refine⟨hg.kp.trans xz,?_⟩;refine qE ?_;exact(dg _ _ ⟨rfl,by rw[hE];exact AJ.put jL ma (λk hk hX=>by rcases hX with hX|e;exact jm k hk hX;exact j4 (e▸hk)) l5 z1 ⟨F19,Cn,xz,Co⟩⟩).qb
            ·exact absurd (by decide) e6
          | some z =>
            refine NN O (λe6=>?_)$ λe6=>?_
            ·exact absurd e6 (by show ¬((z:Int)<0);omega)
            ·have hz:=ok3 z hE;refine NC O$ Nz O$ qV (Oh (news:=[.int .u8 1,NW 0]) R8 O PB O ((mc.ext.ND hG).cells (n:=2) O) O) ?_;rw[show z4Z (some z)=(z:Int) from rfl];refine NO z1C O$ qV (NJ U3 O O gu O)$ Nz O$ Qc O O$ Qc O O ?_;rw[show(q1:Int)-z-2=((q1-z-2:Nat):Int) by omega];refine Pv O O (QH WR O O) (S3 (gt.ext cS) (by omega) .gamma (q1-z-2) (by omega)) ?_;rintro _ w18 ⟨rfl,Cp⟩;refine NB ?_;exact(dg _ _ ⟨rfl,by rw[hE];exact rM.put jL ma (λk hk hX=>by rcases hX with hX|e;exact jm k hk hX;exact j4 (e▸hk)) l5 z1 Cp⟩).qb
        ·have cu:i=Q.1.length:=by omega
         rw[cu,List.take_length] at gq;refine NL O ?_;exact(nH _ _ ⟨rfl,gq⟩).qb
     case eu=>
      refine NN O (λe4=>?_)$ λe4=>?_
      ·have kl:0<p.interval:=by omega
       obtain⟨F13,nT,tE,nU⟩:=qg.ex;refine NC O$ Nz O$ qV (Oh (news:=[.int .u8 1,NW 0]) R8 O PB O ((qg.ext.ND hG).cells (n:=2) O) O)$ Nz O$ Q0 zaK O$ Pv O O (QH WR O O) (S3 nT (by omega) .gamma Q.1.length (by omega)) ?_;rintro _ w14 ⟨rfl,tF⟩;refine NB$ Of.qb (e:=[(1,_),(5,_),(11,_),(12,_),(17,_),(18,_)]) ?_;exact(az _ _ ⟨rfl,by rw[if_pos kl];exact qg.put (λk hk=>(gS k hk).2) tE nU l5 z1 tF⟩).qb
      ·have kl:¬0<p.interval:=by omega
       refine An ?_;exact(az _ _ ⟨rfl,by rw[if_neg kl,List.append_nil];exact qg⟩).qb
   case fY =>
    refine NN O (λe2=>?_)$ λe2=>?_
    ·have tG : 0 < r := by omega
     have qm:=RI succ ref;rw[if_pos tG] at fd
     generalize PT succ ref=rs at qm q9 fd
     obtain⟨l,m,rfl⟩:∃l m,rs=l++[m]:=⟨rs.dropLast,rs.getLast qm.ne,(List.dropLast_concat_getLast qm.ne).symm⟩;have tH:(l++[m]).length=l.length+1:=by simp
     have fG:l.length<=65537:=by have h1:=qm.ZD;rw[List.length_map,tH] at h1;omega
     rw[List.dropLast_concat,tH,Nat.add_sub_cancel] at fd;obtain⟨vr,AK,H5⟩:=id q9;rw[tH] at AK;rcases AK.sl.shape with⟨-,h0⟩|⟨g,c1,rfl,dH⟩
     ·omega
     have rO:=AK.ND;obtain⟨F,xn,hf,J9⟩:=qc.ex;refine qN O$ Nz O$ qV (Oh (news:=[.int .u8 1,NW 0]) R8 O PB O ((qc.ext.ND hG).cells (n:=2) O) O)$ qV (NJ Qd O O rO O)$ Q0 Qd O$ Qc O O ?_;rw[show((l.length+1:Nat):Int)-1=(l.length:Int) by omega];refine Pv O O (QH WR O O) (S3 xn (by omega) .gamma l.length (by omega)) ?_;rintro _ w12 ⟨rfl,Cq⟩;have iE:=qc.put xj hf J9 l5 z1 Cq;have H6:=q9.kp iE.kx (λk hk e=>e (.inr hk));have rP:=iE.kx.ND rO (λe=>e (.inr ((H5 rn).2 (.inl O))));refine qM O$ qV (NJ Qd O O rP O) ?_;rw[show((l.length+1:Nat):Int)=((l.length+1:Nat):Int) from rfl];refine qV (NJ Qd O O rP O)$ Q0 Qd O$ Qc O O ?_;rw[show((l.length+1:Nat):Int)-1=(l.length:Int) by omega];refine qV (z9D Qd OL O O (by omega))$ Q0 Qd O$ Nz O$ NB$ Of.qb (e:=[(1,_),(5,_),(11,_),(12,_),(14,_),(60,_),(61,_),(62,_)]) ?_;refine Nw$ Qb (α:=Nat) (0) (λi=>[(1,I (x:Int)),(5,ptr b5 0),(11,ptr n11 0),(12,.func (.func 227) #[] #[ptr n11 0]),(14,ptr lf 0),(60,.slice (some ⟨g,0,none⟩) l.length c1),(61,I (l.length:Int)),(62,I (i:Int))]) (λi w'=>NuX w w1 w11 p b5 n11 (λk=>FL k\/FR k) (A++(Cd.gamma,l.length)::P7 0 (l.take i)) w'/\i<=l.length) (λi=>l.length-i) ?hI ?hround
     case hI=>exact⟨iE,Nat.zero_le _⟩
     case hround =>
      rintro i w13 ⟨md,hi⟩ ih
      try dsimp only
      refine qN O$ Pb O O$ NB$ py$ NN O (λe3=>?_)$ λe3=>?_
      ·have dG:i<l.length:=by omega
       obtain⟨F13,nT,tE,nU⟩:=md.ex;have me:=AK.sl.kp md.kx (λg2 hg e=>e (.inr ((H5 g2).2 (.inr hg))));have gP:(l++[m])[i]? =some l[i]:=by rw[List.getElem?_append_left dG,List.getElem?_eq_getElem dG]
       have iw:min i 1<=l[i]:=by
        rcases Nat.eq_zero_or_pos i with e| e
        ·omega
        ·have h1:=qm.pos l[i] (by
          rw[List.mem_iff_getElem?];refine⟨i-1,?_⟩
          rw[List.getElem?_drop,show 1+(i-1)=i by omega];exact gP)
         omega
       have gO:l[i]<=65536:=by
        have h1:=qm.le l[i] (List.mem_append_left _ (List.getElem_mem dG));rw[List.length_map] at h1;omega
       refine An$ py$ Nw$ qN O$ Nz O$ qV (OH Qd OL O O (by omega))$ qV (Oi U3 O O (P6 me.rd (show((l++[m]).map z5x)[i]? =some (z5x l[i]) by rw[List.getElem?_map,gP];rfl))) ?_;refine NQ O$ NF O$ NC O$ Nz O$ qV (Oh (news:=[.int .u8 1,NW 0]) R8 O PB O ((md.ext.ND hG).cells (n:=2) O) O)$ NT O O$ qV (ymi O O)$ Qc O O ?_;rw[show(l[i]:Int)-min (i:Int) 1=((l[i]-min i 1:Nat):Int) by omega];refine Pv O O (QH WR O O) (S3 nT (by have h1:(P7 0 (l.take i)).length=i:=(by rw[RF,List.length_take];omega);rw[List.length_append,List.length_cons];omega) .gamma (l[i]-min i 1) (by omega)) ?_;rintro _ w14 ⟨rfl,tF⟩;have Cr:=md.put xj tE nU l5 z1 tF;refine NB$ Ny$ NC O$ OI O O$ Nz O$ NB ((ih (i+1) _ ⟨?_,by omega⟩ (by omega)).qb);rw[List.take_succ,List.getElem?_eq_getElem dG,Option.toList_some,WI,List.length_take,Nat.min_eq_left hi,Nat.zero_add,<-List.cons_append,<-List.append_assoc];exact Cr
      ·have cu:i=l.length:=by omega
       subst cu;rw[List.take_length] at md;refine NL O ?_;exact(fd _ _ ⟨rfl,md⟩).qb
    ·have tG:¬0<r:=by omega
     refine An ?_;exact(fd _ _ ⟨rfl,by rw[if_neg tG,List.append_nil];exact qc⟩).qb
  case di=>
   refine NN O (λe1=>?_)$ λe1=>?_
   ·have nA:0<p.O6:=by omega
    obtain⟨F,xn,hf⟩:=vI.ex;refine NC O$ Nz O$ qV (Oh (news:=[.int .u8 0,NW 0]) R8 O PB O ((vI.ext.ND hU).cells (n:=2) O) O)$ Nz O$ Pv O O (QH WR O O) (S3 xn (by simp) .unary r (by omega)) ?_;rintro _ w5 ⟨rfl,tI⟩;refine NB$ Of.qb (e:=[(1,_),(2,_),(3,_),(4,_),(5,_),(10,_),(11,_),(12,_)]) ?_;exact(cJ _ _ ⟨rfl,by rw[if_pos nA];exact vI.put hf l5 z1 tI⟩).qb
   ·have nA:¬0<p.O6:=by omega
    refine An ?_;exact(cJ _ _ ⟨rfl,by rw[if_neg nA];exact vI⟩).qb
/-! ### The numbers can be encoded -/
def VW (k:Nat)(q:Cd×Nat):Prop:=(q.1= .unary/\q.2<=16)\/(q.1= .gamma/\q.2<=200000)\/(q.1= .zeta k/\q.2<=200000)
theorem Zm (k:Nat):∀(l:List Nat) (i:Nat),(∀n∈l,n<=65536)->∀q∈P7 i l,VW k q
 |[],i,h,q,hq=>by cases hq
 | n :: l, i, h, q, hq => by
   rw[P7] at hq;rcases List.mem_cons.1 hq with e|hq
   ·subst e;have:=h n List.mem_cons_self;exact .inr (.inl ⟨rfl,by dsimp only;omega⟩)
   ·exact Zm k l (i+1) (λn hn=>h n (List.mem_cons_of_mem _ hn)) q hq
theorem YO (k x least:Nat)(hx:x<65536):∀(R:List (Nat×Nat)) (e:Option Nat),(∀q∈R,q.1+q.2<=65536)->∀q∈OD x least e R,VW k q
 |[],e,h,q,hq=>by cases e<;>cases hq
 | p :: R, e, h, q, hq => by
   have hp:=h p List.mem_cons_self;rw[Qo] at hq;rcases List.mem_cons.1 hq with e1|hq
   ·subst e1;refine .inr (.inl ⟨rfl,?_⟩)
    cases e with
    |none=>have:=XY (z:=(p.1:Int)-x) (n:=65537) (by omega) (by omega);show zig _<=_;omega
    |some z=>show p.1-z-2<=_;omega
   ·rcases List.mem_cons.1 hq with e1|hq
    ·subst e1;exact .inr (.inl ⟨rfl,by dsimp only;omega⟩)
    ·exact YO k x least hx R _ (λq hq=>h q (List.mem_cons_of_mem _ hq)) q hq
theorem YH (k x:Nat)(hx:x<65536):∀(l:List Nat) (e:Option Nat),(∀n∈l,n<65536)->∀q∈OE x k e l,VW k q
 |[],e,h,q,hq=>by cases e<;>cases hq
 | v :: l, e, h, q, hq => by
   have hv:=h v List.mem_cons_self;rw[Rn] at hq;rcases List.mem_cons.1 hq with e1|hq
   ·subst e1;refine .inr (.inr ⟨rfl,?_⟩)
    cases e with
    |none=>have:=XY (z:=(v:Int)-x) (n:=65537) (by omega) (by omega);show zig _<=_;omega
    |some u=>show v-u-1<=_;omega
   ·exact YH k x hx l _ (λn hn=>h n (List.mem_cons_of_mem _ hn)) q hq
theorem z3I {least:Nat}{l:List Nat}(h:Ov l):(OK least l).1.length<=65536:=by
 have h1:=(Sh least l).length_eq
 rw[List.length_append] at h1
 have h4:∀(R:List (Nat×Nat)) (lo:Nat),Rx least lo R->R.length<=(PJ R).length:=by
  intro R
  induction R with
  |nil=>intro lo h;exact Nat.le_refl _
  | cons q R ih =>
    intro lo h;have h5:=ih _ h.2.2.2;have h6:1<=q.2:=h.2.1;rw[show PJ (q::R)=(List.range q.2).map (q.1+·)++PJ R from rfl,List.length_append,List.length_map,List.length_range,List.length_cons];omega
 have h5:=h4 _ 0 (TG least l 0 h.Yf (λy _=>Nat.zero_le _))
 have:=h.len
 omega
theorem z6f {least:Nat}{l:List Nat}(h:Ov l):∀q∈(OK least l).1,1<=q.2/\q.1+q.2<=65536:=λq hq=>by
 obtain⟨i,hi⟩:=List.mem_iff_getElem?.1 hq
 have h1:=(Xv _ 0 i q (TG least l 0 h.Yf (λy _=>Nat.zero_le _)) hi).1
 exact⟨h1,z8Y h.lt hq h1⟩
theorem Ze {p:QB}(hp:p.Pk){x:Nat}(hx:x<65536){succ ref:List Nat}(hs:Ov succ)(hr:Ov ref){r:Nat}(jk:r<=p.O6):∀q∈Qg p x succ ref r,VW p.zeta q:=by
 obtain⟨g1,g2,g3,g4⟩:=id hp
 have ay:Ov (Od succ ref):=hs.sub List.filter_sublist
 intro q hq
 unfold Qg at hq
 have fP:=hs.len
 rcases List.mem_cons.1 hq with e|hq
 ·subst e;exact .inr (.inl ⟨rfl,by dsimp only;omega⟩)
 split at hq
 ·cases hq
 rcases List.mem_append.1 hq with hq|hq
 ·split at hq
  ·rcases List.mem_singleton.1 hq with e;subst e;exact .inl ⟨rfl,by dsimp only;omega⟩
  ·cases hq
 rcases List.mem_append.1 hq with hq|hq
 ·have qm:=RI succ ref;have hl:=qm.ZD;have ic:=hr.len;rw[List.length_map] at hl;split at hq
  ·rcases List.mem_cons.1 hq with e|hq
   ·subst e;exact .inr (.inl ⟨rfl,by dsimp only;omega⟩)
   ·refine Zm _ _ _ (λn hn=>?_) q hq;have:=qm.le n (List.dropLast_subset _ hn);rw[List.length_map] at this;omega
  ·cases hq
 split at hq
 ·cases hq
 rcases List.mem_append.1 hq with hq|hq
 ·split at hq
  ·rcases List.mem_cons.1 hq with e|hq
   ·subst e;have:=z3I (least:=p.interval) ay;exact .inr (.inl ⟨rfl,by dsimp only;omega⟩)
   ·exact YO _ _ _ hx _ _ (λq hq=>(z6f ay q hq).2) q hq
  ·cases hq
 ·exact YH _ _ hx _ _ (λn hn=>ay.lt n ((T5 p.interval _).subset hn)) q hq
theorem z5y (succ ref:List Nat)(hr:Ov ref):(PT succ ref).length<=65537:=by
 have hl:=(RI succ ref).ZD
 rw[List.length_map] at hl
 have:=hr.len
 omega
theorem z2T {p:QB}{x:Nat}{succ ref:List Nat}(hs:Ov succ)(hr:Ov ref){r:Nat}:(Qg p x succ ref r).length<=500000:=by
 have ay:Ov (Od succ ref):=hs.sub List.filter_sublist
 have h1:=z5y succ ref hr
 have h2:=z3I (least:=p.interval) ay
 have h3:=(ay.sub (T5 p.interval (Od succ ref))).len
 unfold Qg
 rw[List.length_cons]
 split
 ·simp
 rw[List.length_append,List.length_append]
 have e1:(if 0<p.O6 then [(Cd.unary,r)] else []).length<=1:=by split<;>simp
 have e2:(if 0<r then(Cd.gamma,(PT succ ref).length-1)::P7 0 (PT succ ref).dropLast else []).length<=65537:=by
  split
  ·rw[List.length_cons,RF,List.length_dropLast];omega
  ·simp
 have e3:(if Od succ ref=[] then [] else(if 0<p.interval then(Cd.gamma,(OK p.interval (Od succ ref)).1.length)::OD x p.interval none (OK p.interval (Od succ ref)).1 else [])++OE x p.zeta none (OK p.interval (Od succ ref)).2).length<=200000:=by
  split
  ·simp
  ·rw[List.length_append,RZ];split
   ·rw[List.length_cons,R6];omega
   ·simp;omega
 omega
theorem VW.Pk {k:Nat}{q:Cd×Nat}(h:VW k q)(hk:1<=k/\k<=16):q.1.Pk/\q.2<=q.1.most:=by
 rcases h with⟨e,h⟩|⟨e,h⟩|⟨e,h⟩
 ·rw[e];exact⟨trivial,by simp only[Cd.most];omega⟩
 ·rw[e];exact⟨trivial,by simp only[Cd.most];omega⟩
 ·rw[e];exact⟨hk,by simp only[Cd.most];omega⟩
theorem z1R {c:Cd}{v:Nat}(hc:c.Pk)(hv:v<=c.most):(c.enc v).length<=65600:=by
 obtain⟨q1,q2,-⟩:=Vj hc hv
 rw[VL];omega
theorem z9s {L:List (Cd×Nat)}(h:∀q∈L,q.1.Pk/\q.2<=q.1.most):(O5 L).length<=65600*L.length:=by
 induction L with
 |nil=>simp[O5]
 | cons q L ih =>
   have h1:=ih (λq hq=>h q (List.mem_cons_of_mem _ hq));obtain⟨h2,h3⟩:=h q List.mem_cons_self;have h4:=z1R h2 h3;obtain⟨c,v⟩:=q;rw[OU,List.length_append,List.length_cons];dsimp only at h4⊢;omega
theorem R3 (a b:List (Cd×Nat)):O5 (a++b)=O5 a++O5 b:=List.flatMap_append
theorem Wn (l:List (Cd×Nat))(q:Cd×Nat):O5 (l++[q])=O5 l++q.1.enc q.2:=by
 rw[R3];simp[O5]
/-! ### An element of a slice of structs -/
theorem Zv {α:Type}{f:α->List Value}{k:Nat}(hk:∀a,(f a).length=k){w:World}{b off n cap i:Nat}{R:List α}{q:α}(h:Rd w (.slice (some ⟨b,off,none⟩) n cap) k n (R.flatMap f))(hq:R[i]? =some q):∀j u,(f q)[j]? =some u->w.cell? ⟨b,off+i*k+j,none⟩=some u:=by
 intro j u hj
 have kT:j<k:=by have:=(List.getElem?_eq_some_iff.1 hj).1;rwa [hk] at this
 have key : ∀ (R : List α) (i : Nat), R[i]? = some q -> (R.flatMap f)[i * k + j]? = some u := by
  intro R
  induction R with
  |nil=>intro i h;simp at h
  | cons a R ih =>
    intro i h;rw[List.flatMap_cons]
    cases i with
    | zero =>
      rw[List.getElem?_cons_zero] at h;cases h;rw[List.getElem?_append_left (by rw[hk];omega),Nat.zero_mul,Nat.zero_add]
      exact hj
    | succ i =>
      rw[List.getElem?_append_right (by rw[hk,Nat.add_mul];omega),hk,show(i+1)*k+j-k=i*k+j by rw[Nat.add_mul];omega];exact ih i h
 have kW:=key R i hq
 have aU:=(List.getElem?_eq_some_iff.1 kW).1
 rcases h.2 with⟨c,hc,h0⟩|⟨b',off',cap',e,hc⟩
 ·rw[h.1,h0,Nat.zero_mul] at aU;omega
 ·cases e;have:=hc (i*k+j) u kW;rw[show off+i*k+j=off+(i*k+j) by omega];exact this
theorem z3V (q:Cd×Nat):(z5A q).length=3:=by
 obtain⟨c,v⟩:=q
 cases c<;>rfl
theorem TU {w:World}(p:QB)(hp:p.Pk)(x:Nat)(hx:x<65536){sa ra:Option Addr}{sc rc:Nat}(succ ref:List Nat)(hs:Ov succ)(hr:Ov ref)(r:Nat)(jk:r<=p.O6)(lO:r=0->ref=[])
  (hG:NM w 0 (QX .gamma) 260) (hU:NM w 1 (QX .unary) 260) (dU:Rd w (.slice sa succ.length sc) 1 succ.length (succ.map Oe)) (lY:Rd w (.slice ra ref.length rc) 1 ref.length (ref.map Oe)) (eL:succ.length<=sc) (nJ:ref.length<=rc):
  Oa prog 157 [I (x:Int),.slice sa succ.length sc,.slice ra ref.length rc,I (r:Int),lpV p] w λu w'=>u= .tuple #[I ((O5 (Qg p x succ ref r)).length:Int),I 0]/\Ext w w':=by
 obtain⟨g1,g2,g3,g4⟩:=id hp
 have ay:=λq hq=>(Ze hp hx hs hr jk q hq).Pk ⟨g3,g4⟩
 have fG:=z2T (p:=p) (x:=x) (r:=r) hs hr
 refine Nu (e:=[(0,_),(1,_),(2,_),(3,_),(4,_)]) func157 O ntmps157 O O$ qN O$ NK O O (PW O (cs:=YT p) O) ?_
 rintro _ w1 ⟨b9,rfl,mS,ad,cB⟩
 replace cB:NM w1 b9 [I (p.O6:Int),I (p.interval:Int),I (p.zeta:Int)] 212:=cB
 refine NQ O$ NF O$ py$ qN O$ qV (Oh (news:=YT p) Y4 O SK O (cB.cells (n:=3) O) O)$ NT O O$ NT O O$ NZ zfC O (z9x p hp x hx _ _ succ ref r hs hr jk lO w1 (dU.ext ad) (lY.ext ad)) ?_
 rintro _ w2 ⟨rfl,ag⟩
 refine qV ((Qr O))$ NB$ It O$ An$ qN O$ NF O$ py$ qN O$ qV (Oh (news:=YT p) Y4 O SK O ((ag.ND cB).cells (n:=3) O) O) ?_
 have aI:=ad.trans ag
 refine NT O O$ NT O O$ NZ zcl O (Xb p hp x hx succ ref hs hr r jk lO (aI.ND hG) (aI.ND hU) (dU.ext aI) (lY.ext aI) eL nJ) ?_
 rintro v w3 ⟨cz,qn,ah⟩
 have aO:=aI.trans ah
 generalize Qg p x succ ref r=L at ay fG cz
 obtain⟨va,vc,rfl,-⟩:=cz.rd.shape
 refine Q0 z08 O$ Nz O$ NB$ Nw$ Qb (α:=Nat) (0) (λi=>[(12,I ((O5 (L.take i)).length:Int)),(29,.slice va L.length vc),(30,I (L.length:Int)),(31,I (i:Int))]) (λi w'=>Ext w3 w'/\i<=L.length) (λi=>L.length-i) ?hI ?hround
 case hI=>exact⟨Ext.refl _,Nat.zero_le _⟩
 case hround=>
  rintro i w4 ⟨aB,hi⟩ ih
  try dsimp only
  refine qN O$ Pb O O$ NB$ py$ NN O (λh0=>?_)$ λh0=>?_
  ·have dG:i<L.length:=by omega
   obtain⟨⟨c,v⟩,hq⟩:∃q,L[i]? =some q:=⟨_,List.getElem?_eq_getElem dG⟩;obtain⟨vK,nh⟩:=ay _ (List.mem_of_getElem? hq);dsimp only at vK nh
   obtain⟨g,c5,e4⟩:∃g c,Value.slice va L.length vc= .slice (some ⟨g,0,none⟩) L.length c:=by
    rcases cz.shape with⟨-,h0⟩|⟨g,c,e,hc⟩
    ·omega
    ·exact⟨g,c,e⟩
   cases e4;have km:=Zv z3V (cz.ext aB).rd hq;obtain⟨y,z,tJ⟩:∃y z,QX c=[y,z]:=by cases c<;>exact⟨_,_,rfl⟩
   have rC:cdV c= .agg [y,z].toArray:=by rw[cdV,tJ]
   have jB:z5A (c,v)=[y,z,NW v]:=by show QX c++_=_;rw[tJ];rfl
   rw[jB] at km;have dx:=z2v c v vK nh;rw[rC] at dx;have xA:oneV y=true/\oneV z=true:=by cases c<;>(cases tJ;exact⟨rfl,rfl⟩)
   have fL:=z9s (L:=L.take i) (λq hq=>ay q (List.mem_of_mem_take hq));rw[List.length_take] at fL;have lJ:=z1R vK nh;refine An$ py$ Nw$ qN O$ qV (OH z08 U7 O O (by omega))$ qV (Oh (news:=[y,z,NW v]) zgp O U7 O km O)$ NK O O (Qk (cs:=[_,_,_]) U7 O) ?_;rintro _ w5 ⟨b14,rfl,nV,aT,cN⟩;refine NP O (OA (news:=[y,z,NW v]) U7 O O (by simp[xA.1,xA.2];rfl) O cN (by simp)) ?_;rintro w6 ⟨eT,aP⟩;replace eT:NM w6 b14 [y,z,NW v] 323:=eT;have z5:=aT.size;have aK:Ext w4 w6:=aT.Nv aP (λk e=>by omega);refine qM O$ NO z5U O$ qV (Oh (news:=[y,z]) R8 O PB O (eT.cells (n:=2) O) O)$ NO z5W O$ qV (NJ Qe O O eT O)$ NZ zcB O (dx w6) ?_;rintro _ w7 ⟨rfl,bV⟩;refine Nz O$ ON O O$ ON O O$ NQ O$ NF O$ NC O$ NT O O$ OI O O$ NF O$ Ny$ NC O$ OI O O$ Nz O$ NB ?_;rw[show((O5 (L.take i)).length:Int)+((c.enc v).length:Int)=((O5 (L.take (i+1))).length:Int) by rw[OB hq,Wn,List.length_append];dsimp only;omega];exact(ih (i+1) _ ⟨(aB.trans aK).trans bV,by omega⟩ (by omega)).qb
  ·have cu:i=L.length:=by omega
   rw[cu,List.take_length];refine NL O$ qN O$ Nz O$ NQ O$ NF O$ NA func157 O ?_;exact⟨_,rfl,rfl,aO.trans aB⟩
theorem Yn {w:World}{wp:Nat}{bs:List Bool}{F:Nat->Prop}(h:Xk w wp bs F)(p:QB)(hp:p.Pk)(x:Nat)(hx:x<65536){sa ra:Option Addr}{sc rc:Nat}(succ ref:List Nat)(hs:Ov succ)(hr:Ov ref)(r:Nat)(jk:r<=p.O6)(lO:r=0->ref=[])
  (hG:NM w 0 (QX .gamma) 260) (hU:NM w 1 (QX .unary) 260) (dU:Rd w (.slice sa succ.length sc) 1 succ.length (succ.map Oe)) (lY:Rd w (.slice ra ref.length rc) 1 ref.length (ref.map Oe)) (eL:succ.length<=sc) (nJ:ref.length<=rc)
  (hl:bs.length+(O5 (Qg p x succ ref r)).length<=134217728):
  Oa prog 160 [ptr wp 0,I (x:Int),.slice sa succ.length sc,.slice ra ref.length rc,I (r:Int),lpV p] w λu w'=>u=I 0/\WrR wp F w w' (bs++O5 (Qg p x succ ref r)):=by
 obtain⟨g1,g2,g3,g4⟩:=id hp
 have ay:=λq hq=>(Ze hp hx hs hr jk q hq).Pk ⟨g3,g4⟩
 have fG:=z2T (p:=p) (x:=x) (r:=r) hs hr
 refine Nu (e:=[(0,_),(1,_),(2,_),(3,_),(4,_),(5,_)]) func160 O ntmps160 O O$ qN O$ NK O O (PW O (cs:=YT p) O) ?_
 rintro _ w1 ⟨b9,rfl,mS,ad,cB⟩
 replace cB:NM w1 b9 [I (p.O6:Int),I (p.interval:Int),I (p.zeta:Int)] 212:=cB
 refine NF O$ py$ qN O$ Nz O$ qV (OP z1E O O)$ NB$ It O$ An$ qN O$ NT O O$ NT O O$ qV (Oh (news:=YT p) Y4 O SK O (cB.cells (n:=3) O) O)$ NZ z3f O (TU p hp x hx succ ref hs hr r jk lO (ad.ND hG) (ad.ND hU) (dU.ext ad) (lY.ext ad) eL nJ) ?_
 rintro _ w2 ⟨rfl,ag⟩
 have aI:=ad.trans ag
 have h2:=h.ext aI
 refine Nz O$ ON O O$ ON O O$ NQ O$ NF O$ py$ Nw$ qN O$ Nz O$ P3 O O$ NF O$ It O$ qN O$ NT O O ?_
 refine NZ z0F O (U6 h2) ?_
 rintro _ w2 ⟨rfl,rfl⟩
 refine Qc O O$ P9 O O$ NF O$ Of.qb (e:=[(0,_),(1,_),(2,_),(3,_),(4,_),(11,_),(12,_),(32,_)]) ?_
 refine NN O (λe0=>?_)$ λe0=>?_
 ·omega
 ·refine An$ Ny$ py$ qN O$ qV (Oh (news:=YT p) Y4 O SK O ((ag.ND cB).cells (n:=3) O) O)$ NT O O$ NT O O$ NZ zcl O (Xb p hp x hx succ ref hs hr r jk lO (aI.ND hG) (aI.ND hU) (dU.ext aI) (lY.ext aI) eL nJ) ?_;rintro v w3 ⟨cz,qn,ah⟩;have aO:=aI.trans ah;have h3:=h.ext aO;have z12:=aI.size;have z3:=ah.size;have jW:∀k,F k->k<w.heap.size:=λk hk=>h.lt hk
  generalize Qg p x succ ref r=L at ay fG cz hl
  obtain⟨va,vc,rfl,-⟩:=cz.rd.shape;refine Q0 z08 O$ Nz O$ NB$ Nw$ Qb (α:=Nat) (0) (λi=>[(0,ptr wp 0),(43,.slice va L.length vc),(44,I (L.length:Int)),(45,I (i:Int))]) (λi w'=>WrR wp F w3 w' (bs++O5 (L.take i))/\i<=L.length) (λi=>L.length-i) ?hI ?hround
  case hI=>exact⟨⟨F,by simpa[O5] using h3,Kp.refl _ _,λk hk=> .inl hk⟩,Nat.zero_le _⟩
  case hround=>
   rintro i w4 ⟨⟨F4,mf,ao,qe⟩,hi⟩ ih
   try dsimp only
   refine qN O$ Pb O O$ NB$ py$ NN O (λh0=>?_)$ λh0=>?_
   ·have dG:i<L.length:=by omega
    obtain⟨⟨c,v⟩,hq⟩:∃q,L[i]? =some q:=⟨_,List.getElem?_eq_getElem dG⟩;obtain⟨vK,nh⟩:=ay _ (List.mem_of_getElem? hq);dsimp only at vK nh
    obtain⟨g,c5,e4⟩:∃g c,Value.slice va L.length vc= .slice (some ⟨g,0,none⟩) L.length c:=by
     rcases cz.shape with⟨-,h0⟩|⟨g,c,e,hc⟩
     ·omega
     ·exact⟨g,c,e⟩
    cases e4;have ee:=cz.kp ao (λg hg e=>by have:=qn g hg;have:=jW g e;omega);have km:=Zv z3V ee.rd hq;obtain⟨y,z,tJ⟩:∃y z,QX c=[y,z]:=by cases c<;>exact⟨_,_,rfl⟩
    have rC:cdV c= .agg [y,z].toArray:=by rw[cdV,tJ]
    have jB:z5A (c,v)=[y,z,NW v]:=by show QX c++_=_;rw[tJ];rfl
    rw[jB] at km;have xA:oneV y=true/\oneV z=true:=by cases c<;>(cases tJ;exact⟨rfl,rfl⟩)
    refine An$ py$ Nw$ qN O$ qV (OH z08 U7 O O (by omega))$ qV (Oh (news:=[y,z,NW v]) zgp O U7 O km O)$ NK O O (Qk (cs:=[_,_,_]) U7 O) ?_;rintro _ w5 ⟨b14,rfl,nV,aT,cN⟩;refine NP O (OA (news:=[y,z,NW v]) U7 O O (by simp[xA.1,xA.2];rfl) O cN (by simp)) ?_;rintro w6 ⟨eT,aP⟩;replace eT:NM w6 b14 [y,z,NW v] 323:=eT;have z5:=aT.size;have aK:Ext w4 w6:=aT.Nv aP (λk e=>by omega);have z6:=aK.size;have z4:=ao.size
    have gO:(bs++O5 (L.take i)).length+(c.enc v).length<=134217728:=by
     have e1:(O5 L).length=(O5 (L.take i)).length+(c.enc v).length+(O5 (L.drop (i+1))).length:=by
      conv=>lhs;rw[<-List.take_append_drop (i+1) L,R3,OB hq,Wn]
      rw[List.length_append,List.length_append]
     rw[List.length_append];omega
    have ld:=z8W (mf.ext aK) c v vK nh gO;rw[rC] at ld;refine NB$ NC O$ Nz O$ NO z5U O$ qV (Oh (news:=[y,z]) R8 O PB O (eT.cells (n:=2) O) O)$ NO z5W O$ qV (NJ Qe O O eT O)$ NZ zfH O (ld) ?_;rintro _ w7 ⟨rfl,F7,pe,ax,pf⟩;refine NB$ Ny$ NC O$ OI O O$ Nz O$ NB ((ih (i+1) _ ⟨⟨F7,?_,(ao.trans aK.kp).Nv ax (λk hk=>(qe k hk).symm),λk hk=>?_⟩,by omega⟩ (by omega)).qb)
    ·rw[OB hq,Wn,<-List.append_assoc];exact pe
    ·rcases pf k hk with e| e
     ·exact qe k e
     ·exact .inr (by omega)
   ·have cu:i=L.length:=by omega
    rw[cu,List.take_length] at mf;refine NL O$ qN O$ NF O$ NA func160 O ?_;exact⟨_,rfl,rfl,F4,mf,aO.kp.trans ao,λk hk=>by rcases qe k hk with e|e;exact .inl e;exact .inr (by omega)⟩
def W4 (succ ref:List Nat)(r:Nat):List (Cd×Nat):=if 0<r then(.gamma,(PT succ ref).length-1)::P7 0 (PT succ ref).dropLast else []
def z6F (p:QB)(x:Nat)(succ ref:List Nat):List (Cd×Nat):=
 if Od succ ref=[] then [] else(if 0<p.interval then(.gamma,(OK p.interval (Od succ ref)).1.length)::OD x p.interval none (OK p.interval (Od succ ref)).1 else [])++OE x p.zeta none (OK p.interval (Od succ ref)).2
def T7 (p:QB)(x:Nat)(succ ref:List Nat)(r:Nat):List (Cd×Nat):=W4 succ ref r++z6F p x succ ref
theorem Zn (p:QB)(x:Nat){succ ref:List Nat}(r:Nat)(hs:succ≠[]):Qg p x succ ref r=Pn p succ.length r++T7 p x succ ref r:=by
 unfold Qg Pn T7 W4 z6F
 rw[if_neg hs,if_neg (λe=>hs (List.eq_nil_of_length_eq_zero e)),List.cons_append]
def z6J (p:QB)(x:Nat)(l:List Nat):List (Cd×Nat):=if 0<p.interval/\l≠[] then(.gamma,(OK p.interval l).1.length)::OD x p.interval none (OK p.interval l).1 else []
theorem z3U (p:QB)(x:Nat)(succ ref:List Nat):z6F p x succ ref=z6J p x (Od succ ref)++OE x p.zeta none (OK p.interval (Od succ ref)).2:=by
 unfold z6F z6J
 by_cases e:Od succ ref=[]
 ·rw[if_pos e,if_neg (λh=>h.2 e),e,OK];rfl
 ·rw[if_neg e];by_cases e2:0<p.interval
  ·rw[if_pos e2,if_pos ⟨e2,e⟩]
  ·rw[if_neg e2,if_neg (λh=>e2 h.1)]
structure TlI (w:World)(t r:Nat)(s:NH)(b7 b9:Nat)(n q:Nat)(p:QB)(O_:List Nat)(v:Value)(a:Nat)(w':World):Prop where
 tk:TkM w' t r s a
 kp:Kp (λk=>k=t\/k=r) w w'
 sl:Sl w' v 46 1 O_.length (O_.map Oe)
 fr:∀g,v.ownBlock=some g->w.heap.size<=g
 c7:NM w' b7 [I (n:Int),I (q:Int)] 157
 c9:NM w' b9 [I (p.O6:Int),I (p.interval:Int),I (p.zeta:Int)] 212
 n7:w.heap.size<=b7
 n9:w.heap.size<=b9
 v7:v.ownBlock≠some b7
 v9:v.ownBlock≠some b9
theorem z1v (l:List Nat):∀c∈l.map Oe,c.oneCell'=true:=λc hc=>by
 obtain⟨y,-,rfl⟩:=List.mem_map.1 hc
 rfl
theorem TlI.app {w w1 w2 w3:World}{t r:Nat}{s:NH}{b7 b9 n q:Nat}{p:QB}{O_ M:List Nat}{v v3:Value}{a a2:Nat}(h:TlI w t r s b7 b9 n q p O_ v a w1)(ht:t<w.heap.size)(hr:r<w.heap.size)
  (hk:Kp (λk=>k=t\/k=r) w1 w2) (jU:TkM w2 t r s a2) (cz:Sl w3 v3 46 1 (O_.length+M.length) (O_.map Oe++M.map Oe)) (aw:Kp (λk=>v.ownBlock=some k) w2 w3) (ib:∀g,v3.ownBlock=some g->v.ownBlock=some g\/w2.heap.size<=g):
  TlI w t r s b7 b9 n q p (O_++M) v3 a2 w3:=by
 have z1:=h.kp.size
 have z2:=hk.size
 have l7:=h.c7.lt
 have l9:=h.c9.lt
 have n7:=h.n7
 have n9:=h.n9
 have xB:∀k,k<w.heap.size->¬v.ownBlock=some k:=λk hk e=>by have:=h.fr k e;omega
 have cM:∀k,k<w1.heap.size->v.ownBlock≠some k->v3.ownBlock≠some k:=λk hk hv e=>by
  rcases ib k e with e| e
  ·exact hv e
  ·omega
 refine⟨⟨aw.ND jU.ND (xB t ht),⟨aw.ND jU.rd.1 (xB r hr),jU.rd.2⟩,jU.ne⟩,(h.kp.trans hk).Nv aw (λk hk=> .inl (h.fr k hk)),by rw[List.length_append,List.map_append];exact cz,λg hg=>?_,aw.ND (hk.ND h.c7 (λe=>by omega)) h.v7,aw.ND (hk.ND h.c9 (λe=>by omega)) h.v9,n7,n9,cM _ l7 h.v7,cM _ l9 h.v9⟩
 rcases ib g hg with e| e
 ·exact h.fr g e
 ·omega
theorem z8e {w : World}{t r a : Nat}{s : NH}(h : TkM w t r s a)(hG : NM w 0 (QX .gamma) 260)(df : ¬ 0 = r)(ny : ¬ 0 = t)(p : QB)(hp : p.Pk)(x : Nat)(hx : x < 65536){sa : Option Addr}{sc : Nat}(succ ref : List Nat)(hs : Ov succ)(bD : succ ≠ [])(jn : succ.length < 50)(jM : Ov ref)
  (q:Nat) (hq:q<=p.O6) (nz:q=0->ref=[]) (eh:∀w2,Kp (λk=>k=r) w w2->Rd w2 (.slice sa ref.length sc) 1 ref.length (ref.map Oe)) (dx:ref.length<=sc) (rest:List Bool) (hb:(O0 s).drop a=O5 (T7 p x succ ref q)++rest):
  Oa prog 198 [ptr t 0,I (x:Int),.agg #[I (succ.length:Int),I (q:Int)],.slice sa ref.length sc,lpV p] w λu w'=>Sl w' u 46 1 succ.length (succ.map Oe)/\(∀g,u.ownBlock=some g->w.heap.size<=g)/\
   TkM w' t r s (a+(O5 (T7 p x succ ref q)).length)/\Kp (λk=>k=t\/k=r) w w':=by
 obtain⟨g1,g2,g3,g4⟩:=id hp
 have lt0:=h.ND.lt
 have lr0:=h.rd.1.lt
 have jj:=z4p hs.Yf jM.Yf p.interval
 have rQ:=jj.length_eq
 rw[List.length_append,List.length_append] at rQ
 have ay:Ov (Od succ ref):=hs.sub List.filter_sublist
 have Ja:=(Sh p.interval (Od succ ref)).length_eq
 rw[List.length_append] at Ja
 unfold T7 at hb⊢
 rw[R3,List.append_assoc] at hb
 rw[R3,List.length_append]
 refine Nu (e:=[(0,_),(1,_),(2,_),(3,_),(4,_)]) func198 O ntmps198 O O$ qN O$ NK O O (PW O (cs:=[I (succ.length:Int),I (q:Int)]) O) ?_
 rintro _ w1 ⟨b7,rfl,kO,ad,bj⟩
 refine NK O O (PW O (cs:=YT p) O) ?_
 rintro _ w2 ⟨b9,rfl,mS,ag,cB⟩
 replace cB:NM w2 b9 [I (p.O6:Int),I (p.interval:Int),I (p.zeta:Int)] 212:=cB
 have z1:=ad.size
 have z2:=ag.size
 have aI:=ad.trans ag
 have ey:=ag.ND bj
 refine NQ O$ qM O$ NF O$ py$ qN O$ NO R9 O$ qV (NJ U3 O O ey O)$ P9 O O$ NB$ Oy (λe' w'=>∃v11,e'=[(0,ptr t 0),(1,I (x:Int)),(7,ptr b7 0),(9,ptr b9 0),(11,v11)]/\TlI w t r s b7 b9 succ.length q p (ref.filter λy=>decide (y∈succ)) v11 (a+(O5 (W4 succ ref q)).length) w') ?cJ$ λcJ=>?di
 case cJ =>
  rintro e' w3 ⟨v11,rfl,h3⟩;have dF:=QU hb;obtain⟨va,vc,rfl,-⟩:=h3.sl.rd.shape;have tK:=h3.c7;have cT:=h3.c9;have Cs:=h3.tk.ND;refine py$ qN O$ NO Ru O$ qV ((NJ U3 O O tK O))$ Nz O$ Q0 Ob O$ Qc O O ?_;rw[show(succ.length:Int)-((ref.filter λy=>decide (y∈succ)).length:Int)=((Od succ ref).length:Int) by omega]
  generalize MG:(a+(O5 (W4 succ ref q)).length)=a3 at h3 dF
  rw[z3U,R3,List.append_assoc] at dF;rw[z3U,R3,List.length_append];have Jb:p.interval=0->(OK p.interval (Od succ ref)).1=[]:=λe=>by rw[e];exact WC _
  have Jc:Od succ ref=[]->OK p.interval (Od succ ref)=([],[]):=λe=>by rw[e,OK]
  have qh:=TG p.interval (Od succ ref) 0 ay.Yf (λy _=>Nat.zero_le _);have tB:=λy hy=>(z6f (least:=p.interval) ay y hy).2
  have H7:(OK p.interval (Od succ ref)).1.length<=(PJ (OK p.interval (Od succ ref)).1).length:=by
   have key:∀(R:List (Nat×Nat)) (lo:Nat),Rx p.interval lo R->R.length<=(PJ R).length:=by
    intro R
    induction R with
    |nil=>intro lo h;exact Nat.le_refl _
    | cons z R ih =>
      intro lo h;have h5:=ih _ h.2.2.2;have h6:1<=z.2:=h.2.1;rw[show PJ (z::R)=(List.range z.2).map (z.1+·)++PJ R from rfl,List.length_append,List.length_map,List.length_range,List.length_cons];omega
   exact key _ 0 qh
  have Ct:Ov (OK p.interval (Od succ ref)).2:=ay.sub (T5 p.interval _)
  generalize (ref.filter λy=>decide (y∈succ))=O1 at h3 jj rQ
  have vL:z6J p x (Od succ ref)=if 0<p.interval/\Od succ ref≠[] then(.gamma,(OK p.interval (Od succ ref)).1.length)::OD x p.interval none (OK p.interval (Od succ ref)).1 else []:=rfl
  generalize z6J p x (Od succ ref)=LT at dF vL
  generalize OK p.interval (Od succ ref)=Q at*
  generalize Od succ ref=L1 at*
  have vD:L1=[]↔L1.length=0:=⟨λe=>by rw[e];rfl,List.eq_nil_of_length_eq_zero⟩;have fP:=hs.len;refine NF O$ py$ Oy (λe' w'=>∃s1:Bool,e'=[(0,ptr t 0),(1,I (x:Int)),(7,ptr b7 0),(9,ptr b9 0),(11,.slice va O1.length vc),(12,I (L1.length:Int)),(38,.bool s1)]/\w'=w3/\(s1=true↔0<p.interval/\L1≠[])) ?fd$ λfd=>?fY
  case fd =>
   rintro e' w4 ⟨s1,rfl,rfl,eg⟩;refine Oy (λe' w'=>∃v11,e'=[(0,ptr t 0),(1,I (x:Int)),(7,ptr b7 0),(9,ptr b9 0),(11,v11)]/\TlI w t r s b7 b9 succ.length q p (O1++PJ Q.1) v11 (a3+(O5 LT).length) w') ?az$ λaz=>?eu
   case az =>
    rintro e' w5 ⟨v5,rfl,h5⟩;have ff:=QU dF;obtain⟨va5,vc5,rfl,-⟩:=h5.sl.rd.shape;have mg:=h5.c7;have jo:=h5.c9;have Cu:=h5.tk.ND;have H8:(O1++PJ Q.1).length=O1.length+(PJ Q.1).length:=List.length_append;refine py$ qN O$ NO Ru O$ qV ((NJ U3 O O mg O))$ Nz O$ Q0 Ob O$ Qc O O ?_;rw[show(succ.length:Int)-((O1++PJ Q.1).length:Int)=(Q.2.length:Int) by omega];refine NF O$ py$ Oy (λe' w'=>∃s2:Bool,e'=[(0,ptr t 0),(1,I (x:Int)),(7,ptr b7 0),(9,ptr b9 0),(11,.slice va5 (O1++PJ Q.1).length vc5),(13,I (Q.2.length:Int)),(60,.bool s2)]/\w'=w5/\(s2=true↔0<Q.2.length)) ?nH$ λnH=>?nI
    case nH=>
     rintro e' w6 ⟨s2,rfl,rfl,dc⟩;refine Oy (λe' w'=>∃v11,e'=[(0,ptr t 0),(11,v11)]/\TlI w t r s b7 b9 succ.length q p (O1++PJ Q.1++Q.2) v11 (a3+(O5 LT).length+(O5 (OE x p.zeta none Q.2)).length) w') ?pq$ λpq=>?tz
     case pq=>
      rintro e' w7 ⟨v7,rfl,h7⟩;have rR:(O1++PJ Q.1++Q.2).length=succ.length:=by rw[List.length_append,H8];omega
      have Jd:0<succ.length:=List.length_pos_iff.2 bD;refine qN O$ Nz O$ NZ zfK O (z7s h7.sl (λe=>by rw[e] at rR;simp at rR;omega) (by omega)) ?_;rintro _ w8 ⟨rfl,aV,l',Je,xC,fg⟩;have H9:l'=succ:=z4k ((Je.trans (by rw[List.append_assoc])).trans jj) xC hs.Yf;rw[H9] at fg;refine qM O$ Nz O$ NF O$ NA func198 O ?_;have e9:a+((O5 (W4 succ ref q)).length+((O5 LT).length+(O5 (OE x p.zeta none Q.2)).length))=a3+(O5 LT).length+(O5 (OE x p.zeta none Q.2)).length:=by omega
      rw[e9];have xB:∀k,k<w.heap.size->¬v7.ownBlock=some k:=λk hk e=>by have:=h7.fr k e;omega
      refine⟨_,rfl,fg,h7.fr,⟨aV.ND h7.tk.ND (xB t lt0),⟨aV.ND h7.tk.rd.1 (xB r lr0),h7.tk.rd.2⟩,h7.tk.ne⟩,h7.kp.Nv aV (λk hk=> .inl (h7.fr k hk))⟩
     case tz=>
      refine OV O (λh2=>?_)$ λh2=>?_
      ·refine NC O$ NT O O$ NT O O$ NO Z1 O$ qV ((NJ U3 O O jo O))$ qV ((OM O U3 Qe (by omega)))$ qV (QP (cs:=[_,_]) PB O zcb O O)$ NZ zew O (z48 h5.tk x p.zeta hx ⟨g3,g4⟩ Q.2 Ct _ ff) ?_;rintro u6 w6 ⟨fh,nn,xd,aP⟩;have Cv:=h5.sl.kp aP (λg hg e=>by have:=h5.fr g hg;omega);refine NK O O (pap Ob NV O (by decide) O O Cv fh.rd (z1v _) (by omega) (by simp only[maxLen];omega)) ?_;rintro v7 w7 ⟨iu,ax,Jf,-⟩;have h7:=h5.app lt0 lr0 aP xd iu ax Jf;refine NF O ?_;exact(pq _ _ ⟨v7,rfl,h7⟩).qb
      ·have fO:Q.2=[]:=List.eq_nil_of_length_eq_zero (by
        rcases Nat.eq_zero_or_pos Q.2.length with e| e
        ·exact e
        ·rw[dc.2 e] at h2;cases h2)
       refine An ((pq _ _ ⟨_,rfl,?_⟩).qb);rw[fO,List.append_nil,show(O5 (OE x p.zeta none [])).length=0 from rfl,Nat.add_zero];exact h5
    case nI=>
     rcases Nat.eq_zero_or_pos Q.2.length with hz|hz
     ·refine NC O$ Nz O$ P9 O O$ Ox$ Nz O$ qS$ qS$ qS$ qS$ qS$ OC O O$ NB ?_;exact(nH _ _ ⟨false,rfl,rfl,by simp[hz]⟩).qb
     ·refine NC O$ Nz O$ P9 O O$ PE$ NT O O$ O8 O$ NO Sm O$ qV ((NJ U4 O O Cu O))$ qV ((Qr O))$ Pc O O$ NB ?_;exact(nH _ _ ⟨true,rfl,rfl,by simp[hz]⟩).qb
   case eu=>
    refine OV O (λh1=>?_)$ λh1=>?_
    ·obtain⟨AB,cY⟩:=eg.1 h1;rw[if_pos ⟨AB,cY⟩] at vL;refine NC O$ NT O O$ NT O O$ NO SQ O$ qV ((NJ U3 O O cT O)) ?_;rw[vL] at dF;refine NZ zh8 O (z7b h3.tk (h3.kp.ND hG (λe=>by rcases e with e|e;exact ny e;exact df e)) df ny x L1.length p.interval hx (by omega) (by omega) Q.1 qh tB (by omega) (by omega) _ dF) ?_;rintro u4 w4 ⟨ee,qe,xD,ao⟩;have Cw:=h3.sl.kp ao (λg hg e=>by have:=h3.fr g hg;omega);have MH:=ee.rd;have Jg:O1.length<=65536:=by omega
     refine NK O O (pap Ob NV O (by decide) O O Cw ee.rd (z1v _) (by omega) (by simp only[maxLen];omega)) ?_;rintro v5 w5 ⟨fE,ai,AL,-⟩;have h5:=h3.app lt0 lr0 ao xD fE ai AL;refine NF O ((az _ _ ⟨v5,rfl,?_⟩).qb);rw[vL];exact h5
    ·have cY:¬(0<p.interval/\L1≠[]):=λe=>by rw[eg.2 e] at h1;cases h1
     have j0:Q.1=[]:=by
      by_cases e:L1=[]
      ·rw[Jc e]
      ·exact Jb (by by_cases e2:0<p.interval;exact absurd ⟨e2,e⟩ cY;omega)
     rw[if_neg cY] at vL;refine An ((az _ _ ⟨_,rfl,?_⟩).qb);rw[j0,vL,show PJ []=[] from rfl,List.append_nil,show(O5 []).length=0 from rfl,Nat.add_zero];exact h3
  case fY=>
   rcases Nat.eq_zero_or_pos L1.length with hz|hz
   ·refine NC O$ Nz O$ P9 O O$ Ox$ Nz O$ qS$ qS$ qS$ OC O O$ Nz O$ qS$ qS$ qS$ qS ?_;refine qS$ OC O O$ NB$ Of.qb (e:=[(0,_),(1,_),(7,_),(9,_),(11,_),(12,_),(38,_)]) ?_;exact(fd _ _ ⟨false,rfl,rfl,⟨λe=>(by cases e),λe=>absurd (vD.2 hz) e.2⟩⟩).qb
   ·rcases Nat.eq_zero_or_pos p.interval with mO|mO
    ·refine NC O$ Nz O$ P9 O O$ PE$ Nz O$ NO SQ O$ qV ((NJ U3 O O cT O))$ P9 O O$ Ox$ Pc O O$ Nz O$ qS$ qS$ qS ?_;refine qS$ qS$ OC O O$ NB$ Of.qb (e:=[(0,_),(1,_),(7,_),(9,_),(11,_),(12,_),(38,_)]) ?_;exact(fd _ _ ⟨false,rfl,rfl,by simp[mO]⟩).qb
    ·refine NC O$ Nz O$ P9 O O$ PE$ Nz O$ NO SQ O$ qV ((NJ U3 O O cT O))$ P9 O O$ PE$ Pc O O$ NT O O$ O8 O$ NO Sm O$ qV ((NJ U4 O O Cs O)) ?_;refine qV ((Qr O))$ Pc O O$ NB$ Of.qb (e:=[(0,_),(1,_),(7,_),(9,_),(11,_),(12,_),(38,_)]) ?_;exact(fd _ _ ⟨true,rfl,rfl,⟨λ_=>⟨mO,λe=>(by have:=vD.1 e;omega)⟩,λ_=>rfl⟩⟩).qb
 case di=>
  refine NN O (λh0=>?_)$ λh0=>?_
  ·have j0:0<q:=by omega
   have AM:=RI succ ref;have je:=AM.ZD;rw[List.length_map] at je;have xE:=jM.len
   have xF:(PT succ ref).sum=ref.length:=by
    have:=congrArg List.length AM.exp;rw[Rp,List.length_map] at this;exact this
   have xG:=z7I succ ref;rw[show W4 succ ref q=(.gamma,(PT succ ref).length-1)::P7 0 (PT succ ref).dropLast from if_pos j0] at hb;obtain⟨l,m,gP⟩:∃l m,PT succ ref=l++[m]:=⟨_,_,(List.dropLast_concat_getLast AM.ne).symm⟩;have iw:=AM.pos;rw[gP] at hb xF je iw;rw[gP,List.dropLast_concat] at xG;rw[List.dropLast_concat,show(l++[m]).length-1=l.length by simp] at hb;rw[List.sum_append] at xF;rw[List.length_append,List.length_singleton] at je;have h2:=h.ext aI
   have xH:∀m'∈l.drop 1,1<=m':=λm' nW=>iw m' (by
    cases l with
    |nil=>simp at nW
    |cons a l=>rw[List.cons_append,List.drop_succ_cons,List.drop_zero];rw[List.drop_succ_cons,List.drop_zero] at nW;exact List.mem_append_left _ nW)
   refine NC O$ NT O O$ NZ zhQ O (z2A h2 (aI.ND hG) df ref l (λw5 k=>eh w5 (aI.kp.trans k)) dx xE (by omega) (by omega) xH _ hb) ?_;rintro v11 w3 ⟨cz,qn,qo,aw⟩;refine NF O ((cJ _ _ ⟨v11,rfl,?_⟩).qb);rw[xG] at cz;rw[show W4 succ ref q=(.gamma,l.length)::P7 0 l by unfold W4;rw[if_pos j0,gP,List.dropLast_concat,show(l++[m]).length-1=l.length by simp]];have l72:=ey.lt;have l92:=cB.lt;exact⟨qo,aI.kp.trans (aw.NR λk e=> .inr e),cz,λg hg=>by have:=qn g hg;omega,aw.ND ey (by omega),aw.ND cB (by omega),by omega,by omega,λe=>by have:=qn _ e;omega,λe=>by have:=qn _ e;omega⟩
  ·have j0:q=0:=by omega
   have Cy:=nz j0;subst Cy;refine An ((cJ _ _ ⟨.slice none 0 0,rfl,?_⟩).qb);rw[show W4 succ [] q=[] by unfold W4;rw[if_neg (by omega)]];exact⟨h.ext aI,aI.kp,Sl.nil _ _ _,(λg hg=>by cases hg),ey,cB,by omega,by omega,(λe=>by cases e),(λe=>by cases e)⟩
theorem z2C {l b rest:List Bool}{a k n:Nat}(hb:l.drop a=b++rest)(hk:k+n<=b.length):(l.drop (a+k)).take n=(b.drop k).take n:=by
 rw[<-List.drop_drop,hb,List.drop_append_of_le_length (by omega),List.take_append_of_le_length (by rw[List.length_drop];omega)]
theorem z8x {w:World}{r a:Nat}{s:NH}(p:QB)(hp:p.Pk)(x:Nat)(hx:x<65536){la ra:Option Addr}{lc rc:Nat}(succ ref:List Nat)(hs:Ov succ)(bD:succ≠[])(jM:Ov ref)
  (q:Nat) (hq:q<=p.O6) (nz:q=0->ref=[]) (hG:NM w 0 (QX .gamma) 260) (hU:NM w 1 (QX .unary) 260) (dU:Rd w (.slice la succ.length lc) 1 succ.length (succ.map Oe)) (lY:Rd w (.slice ra ref.length rc) 1 ref.length (ref.map Oe)) (eL:succ.length<=lc) (nJ:ref.length<=rc)
  (hl:(O5 (Qg p x succ ref q)).length<=134217728) (rest:List Bool) (hb:(O0 s).drop a=O5 (T7 p x succ ref q)++rest) (h:Sn w r s (a+(O5 (T7 p x succ ref q)).length)):
  Oa prog 199 [lpV p,ptr r 0,I (a:Int),I (x:Int),.agg #[I (succ.length:Int),I (q:Int)],.slice la succ.length lc,.slice ra ref.length rc] w λu w'=>u= .bool true/\Sn w' r s (a+(O5 (T7 p x succ ref q)).length)/\Kp (λk=>k=r) w w':=by
 have lr0:=h.1.lt
 have l10:=hG.lt
 have l20:=hU.lt
 have fP:=hs.len
 have nX:=Zn p x (ref:=ref) q bD
 have AN:O5 (Qg p x succ ref q)=O5 (Pn p succ.length q)++O5 (T7 p x succ ref q):=by rw[nX,R3]
 have fL:(O5 (Qg p x succ ref q)).length=(O5 (Pn p succ.length q)).length+(O5 (T7 p x succ ref q)).length:=by rw[nX,R3,List.length_append]
 generalize O5 (T7 p x succ ref q)=TB at*
 have AO:succ.length≠0:=λe=>bD (List.eq_nil_of_length_eq_zero e)
 refine Nu (e:=[(0,_),(1,_),(2,_),(3,_),(4,_),(5,_),(6,_)]) func199 O ntmps199 O O$ qN O$ NK O O (PW O (cs:=YT p) O) ?_
 rintro _ w1 ⟨b7,rfl,kO,ad,bj⟩
 refine NK O O (PW O (cs:=[I (succ.length:Int),I (q:Int)]) O) ?_
 rintro _ w2 ⟨b11,rfl,jf,ag,bA⟩
 have aI:=ad.trans ag
 have z1:=ad.size
 have z2:=ag.size
 have ey:=ag.ND bj
 have h2:Sn w2 r s (a+TB.length):=⟨aI.ND h.1,h.2⟩
 refine NQ O$ qM O$ Nz O$ NZ WO O (SL h2) ?_
 rintro _ w2 ⟨rfl,rfl⟩
 refine NQ O$ qM O$ NZ Zi O (T8 w2) ?_
 rintro _ w3 ⟨wp,F,rfl,mT,ah,qp⟩
 have z3:=ah.size
 have aO:=aI.trans ah
 have lh:=ah.ND bA
 have tK:=ah.ND ey
 refine NF O$ py$ qN O$ NT O O$ NT O O$ NO R9 O$ qV (NJ U3 O O lh O)$ qV (Oh (news:=YT p) Y4 O SK O (tK.cells (n:=3) O) O)$ NZ zcO O (Yn mT p hp x hx succ ref hs jM q hq nz (aO.ND hG) (aO.ND hU) (dU.ext aO) (lY.ext aO) eL nJ (by simpa using hl)) ?_
 rintro _ w4 ⟨rfl,F4,mf,ao,qe⟩
 rw[List.nil_append] at mf
 have z4:=ao.size
 have cU:Ext w2 w4:=ah.Nv ao qp
 refine P3 O O$ NB$ It O$ An$ qN O$ Nz O$ NZ z6v O (VA mf) ?_
 rintro _ w4 ⟨rfl,rfl⟩
 refine Nz O$ ON O O$ ON O O$ NQ O$ NF O$ Of.qb (e:=[(1,_),(2,_),(7,_),(14,_),(15,_),(16,_),(17,_)]) ?_
 refine qN O$ Nz O ?_
 have et:(Oc (O5 (Qg p x succ ref q))).length<=16777217:=by rw[Ot];omega
 refine NZ z63 O (VG (Oc (O5 (Qg p x succ ref q))) (by omega) w4) ?_
 rintro _ w5 ⟨ow,rfl,sN,aT,MI⟩
 have iF:=cU.trans aT
 have bM:=aI.trans iF
 obtain⟨z,mK,mO,MJ⟩:=QV (O5 (Qg p x succ ref q))
 have AP:(O0 (Oc (O5 (Qg p x succ ref q)))).drop 0=O5 (Pn p succ.length q)++(TB++List.replicate z false):=by
  rw[mK,List.drop_zero,AN,List.append_assoc]
 refine NF O$ py$ qN O$ Nz O$ qV (Oh (news:=YT p) Y4 O SK O ((iF.ND ey).cells (n:=3) O) O)$ NZ zcC O (z0L sN p hp (bM.ND hG) (bM.ND hU) (by omega) (by omega) succ.length q (by omega) hq (λe=>absurd e AO) _ AP) ?_
 rintro _ w6 ⟨rfl,jN,aP⟩
 rw[Nat.zero_add] at jN
 have iG:Ext w2 w6:=iF.Nv aP (λk e=>by omega)
 have tL:=QU AP
 rw[Nat.zero_add] at tL
 generalize (Oc (O5 (Qg p x succ ref q)))=os at*
 have z6:=iG.size
 refine Nz O$ ON O O$ ON O O$ NK O O (Qk (cs:=[_,_]) QD O) ?_
 rintro _ w7 ⟨b20,rfl,Jh,bV,Cz⟩
 refine NP O (OA (news:=[I (succ.length:Int),I (q:Int)]) QD O O O O Cz (by simp)) ?_
 rintro w8 ⟨Ha,aV⟩
 have iH:Ext w6 w8:=bV.Nv aV (λk e=>by omega)
 have jp:=iG.trans iH
 have h8:Sn w8 r s (a+TB.length):=⟨jp.ND h2.1,h2.2⟩
 have jV:Sn w8 ow os (O5 (Pn p succ.length q)).length:=⟨iH.ND jN.1,jN.2⟩
 have sQ:Xk w8 wp (O5 (Qg p x succ ref q)) F4:=((mf.ext aT).kp aP (λi hi e=>by have:=mf.lt hi;omega)).ext iH
 refine NQ O$ qM O$ Nz O$ P3 O O$ NT O O$ NZ z0F O (U6 sQ) ?_
 rintro _ w8 ⟨rfl,rfl⟩
 refine Nz O$ NZ WO O (SL jV) ?_
 rintro _ w8 ⟨rfl,rfl⟩
 refine Qc O O ?_
 rw[show((O5 (Qg p x succ ref q)).length:Int)-((O5 (Pn p succ.length q)).length:Int)=(TB.length:Int) by omega]
 refine NT O O$ Qc O O ?_
 rw[show((a+TB.length:Nat):Int)-(a:Int)=(TB.length:Int) by omega]
 refine P3 O O$ Ox$ OC O O$ NB$ Of.qb (e:=[(1,_),(2,_),(14,_),(15,_),(19,_),(64,_)]) ?_
 refine It O$ An$ qN O$ NT O O$ NZ zaG O (Ya h8 a (by have:=h8.2.1;omega)) ?_
 rintro _ w9 ⟨rfl,h9,aS⟩
 have vA:Sn w9 ow os (O5 (Pn p succ.length q)).length:=⟨aS.ND jV.1 (by omega),jV.2⟩
 refine NB$ py$ Nw$ Qb (α:=Nat) (0) (λk=>[(1,ptr r 0),(15,I ((a+TB.length:Nat):Int)),(19,ptr ow 0)]) (λk w'=>Sn w' r s (a+k)/\Sn w' ow os ((O5 (Pn p succ.length q)).length+k)/\Kp (λi=>i=r\/i=ow) w9 w'/\k<=TB.length) (λk=>TB.length-k) ?hI ?hround
 case hI=>exact⟨h9,vA,Kp.refl _ _,Nat.zero_le _⟩
 case hround=>
  rintro k w10 ⟨fX,qq,au,MK⟩ ih
  try dsimp only
  refine py$ qN O$ Nz O$ NZ WO O (SL fX) ?_;rintro _ w10 ⟨rfl,rfl⟩;refine Nz O$ Pb O O$ NB$ NN O (λh0=>?_)$ λh0=>?_
  ·refine An$ Nw$ qN O$ NT O O$ NZ WO O (SL fX) ?_;rintro _ w10 ⟨rfl,rfl⟩;refine Qc O O ?_;rw[show((a+TB.length:Nat):Int)-((a+k:Nat):Int)=((TB.length-k:Nat):Int) by omega];refine qV (ymi O O) ?_;rw[show min (64:Int) ((TB.length-k:Nat):Int)=((min 64 (TB.length-k):Nat):Int) by omega];obtain⟨n,hn,cY,jF,CA⟩:∃n,min 64 (TB.length-k)=n/\1<=n/\n<=64/\k+n<=TB.length:=⟨_,rfl,by omega,by omega,by omega⟩;rw[hn];have pu:=fX.2.1;have fM:=z2C hb CA;have iz:=z2C tL CA;have GF:a+TB.length<=8*s.length:=h8.2.1
   have g9:(O5 (Pn p succ.length q)).length+TB.length<=8*os.length:=by
    have e:=congrArg List.length tL;rw[List.length_drop,bitsT_length,List.length_append] at e;omega
   refine NQ O$ qM O$ NT O O$ NZ z2q O (TS fX n jF) ?_;rintro v11 w11 hv
   have fT:v11= .tuple #[NW (Ol (((O0 s).drop (a+k)).take n)),I 0]/\Sn w11 r s (a+k+n)/\Kp (λk=>k=r) w10 w11:=by
    rcases hv with hv|hv
    ·exact hv.2
    ·omega
   obtain⟨rfl,pJ,bu⟩:=fT;rw[fM];have CB:Sn w11 ow os ((O5 (Pn p succ.length q)).length+k):=⟨bu.ND qq.1 (by omega),qq.2⟩;refine Nz O$ ON O O$ ON O O$ NQ O$ NQ O$ qM O$ NT O O$ NZ z2q O (TS CB n jF) ?_;rintro v12 w12 hv
   have fT:v12= .tuple #[NW (Ol (((O0 os).drop ((O5 (Pn p succ.length q)).length+k)).take n)),I 0]/\Sn w12 ow os ((O5 (Pn p succ.length q)).length+k+n)/\Kp (λk=>k=ow) w11 w12:=by
    rcases hv with hv|hv
    ·exact hv.2
    ·omega
   obtain⟨rfl,CC,aL⟩:=fT;rw[iz];have CD:Sn w12 r s (a+k+n):=⟨aL.ND pJ.1 (by omega),pJ.2⟩;refine Nz O$ ON O O$ ON O O$ NQ O$ NQ O$ qM O$ NT O O$ P3 O O$ NB$ NN O (λh1=>?_)$ λh1=>?_
   ·exact absurd O h1
   ·refine An$ Ny ((ih (k+n) _ ⟨by rw[<-Nat.add_assoc];exact CD,by rw[<-Nat.add_assoc];exact CC,(au.trans (bu.NR λi e=> .inl e)).trans (aL.NR λi e=> .inr e),CA⟩ (by omega)).qb)
  ·have ig:k=TB.length:=by omega
   subst ig;refine NL O$ qN O$ NF O$ NA func199 O ?_;exact⟨_,rfl,rfl,fX,((aI.trans jp).kp.trans aS).Nv au (λi hi=>by rcases hi with e|e;exact .inr e;exact .inl (by omega))⟩
theorem Yw {w:World}{r a:Nat}{s:NH}(h:Sn w r s a)(p:QB)(hp:p.Pk)(x:Nat)(hx:x<65536)(N:Nat)(hN:N<=65536){ra:Option Addr}{rc:Nat}(succ ref:List Nat)(hs:Ov succ)(bD:succ≠[])(jn:succ.length<50)(CE:∀y∈succ,y<N)(jM:Ov ref)
  (q:Nat) (hq:q<=p.O6) (nz:q=0->ref=[]) (hG:NM w 0 (QX .gamma) 260) (hU:NM w 1 (QX .unary) 260) (df:¬0=r) (dV:¬1=r) (eh:∀w2,Kp (λk=>k=r) w w2->Rd w2 (.slice ra ref.length rc) 1 ref.length (ref.map Oe)) (nJ:ref.length<=rc)
  (hl:(O5 (Qg p x succ ref q)).length<=134217728) (rest:List Bool) (hb:(O0 s).drop a=O5 (T7 p x succ ref q)++rest):
  Oa prog 154 [ptr r 0,I (x:Int),I (N:Int),.agg #[I (succ.length:Int),I (q:Int)],.slice ra ref.length rc,lpV p] w λu w'=>∃v,u= .tuple #[v,I 0]/\Sl w' v 46 1 succ.length (succ.map Oe)/\(∀g,v.ownBlock=some g->w.heap.size<=g)/\Sn w' r s (a+(O5 (T7 p x succ ref q)).length)/\Kp (λk=>k=r) w w':=by
 obtain⟨g1,g2,g3,g4⟩:=id hp
 have lr0:=h.1.lt
 have l10:=hG.lt
 have l20:=hU.lt
 have fP:=hs.len
 have ic:=jM.len
 have AO:0<succ.length:=List.length_pos_iff.2 bD
 refine Nu (e:=[(0,_),(1,_),(2,_),(3,_),(4,_),(5,_)]) func154 O ntmps154 O O$ qN O$ NK O O (PW O (cs:=[I (succ.length:Int),I (q:Int)]) O) ?_
 rintro _ w1 ⟨b9,rfl,mS,ad,cB⟩
 refine NK O O (PW O (cs:=YT p) O) ?_
 rintro _ w2 ⟨b11,rfl,jf,ag,bA⟩
 replace bA:NM w2 b11 [I (p.O6:Int),I (p.interval:Int),I (p.zeta:Int)] 212:=bA
 have aI:=ad.trans ag
 have z1:=ad.size
 have z2:=ag.size
 have dt:=ag.ND cB
 have l9:=dt.lt
 have l11:=bA.lt
 have l90:=cB.lt
 refine NQ O$ NF O$ py$ Oy (λe' w'=>e'=[(0,ptr r 0),(1,I (x:Int)),(2,I (N:Int)),(4,.slice ra ref.length rc),(9,ptr b9 0),(11,ptr b11 0)]/\Ext w2 w') ?mh$ λmh=>?CH
 case mh=>
  rintro e' w3 ⟨rfl,ah⟩;have cI:=aI.trans ah;have h3:Sn w3 r s a:=⟨cI.ND h.1,h.2⟩;have cT:=ah.ND dt;have lh:=ah.ND bA;have z3:=ah.size;refine qN O$ Nz O$ NZ WO O (SL h3) ?_;rintro _ w3 ⟨rfl,rfl⟩;refine NQ O$ qM O$ Nz O$ qV (QP (cs:=[_,_]) zfR O zeC O O)$ NK O O (PW O (cs:=[ptr r 0,.bool false]) O) ?_;rintro _ w4 ⟨tb,rfl,Ji,aB,Jj⟩;have z4:=aB.size;have bU:=cI.trans aB;have h4:TkM w4 tb r s a:=⟨Jj,⟨aB.ND h3.1,h3.2⟩,by omega⟩;refine NQ O$ qM O$ NT O O$ qV (Oh (news:=[I (succ.length:Int),I (q:Int)]) z2o O QD O ((aB.ND cT).cells (n:=2) O) O)$ Nz O$ qV (Oh (news:=YT p) Y4 O SK O ((aB.ND lh).cells (n:=3) O) O)$ NZ zgR O (z8e h4 (bU.ND hG) df (by omega) p hp x hx succ ref hs bD jn jM q hq nz (λw2 k=>eh w2 (bU.kp.trans k)) nJ rest hb) ?_;rintro v w5 ⟨fE,nO,AQ,ai⟩;have bX:Kp (λk=>k=r) w w5:=bU.kp.Nv ai (λi hi=>by rcases hi with e|e;exact .inl (by omega);exact .inr e);have jo:=ai.ND (aB.ND cT) (by omega);have xI:=ai.ND (aB.ND lh) (by omega);have Jk:=AQ.ND;have Jl:=bX.ND hG df;have Jm:=bX.ND hU dV;have cf:=eh w5 bX;have wP:∀g,v.ownBlock=some g->w.heap.size<=g:=λg hg=>by have:=nO g hg;have:=bU.size;omega
  obtain⟨va,vc,rfl,AR⟩:=fE.rd.shape
  have CG:succ.length<=vc:=by
   rcases fE.shape with⟨-,h0⟩|⟨g,c1,hv,dH⟩
   ·omega
   ·cases hv;exact dH
  refine NF O$ py$ qN O$ Nz O$ O8 O$ NO Sm O$ qV ((NJ U4 O O Jk O))$ NT O O$ Q0 Ob O$ NO Ru O$ qV ((NJ U3 O O jo O))$ P3 O O$ Ox$ OC O O ?_;refine NT O O$ NZ z2L O (Vg _ succ hs w5 fE.rd) ?_;rintro _ w5 ⟨rfl,rfl⟩;refine qV ((Qr O))$ OC O O$ NT O O$ Q0 Ob O$ Px O O$ Ox$ OC O O$ NT O O$ Nz O$ Q0 Ob O$ Qc O O ?_;rw[show(succ.length:Int)-1=((succ.length-1:Nat):Int) by omega];obtain⟨y,hy⟩:∃y,succ[succ.length-1]? =some y:=⟨_,List.getElem?_eq_getElem (by omega)⟩;have ML:=CE y (List.mem_of_getElem? hy)
  obtain⟨g5,c5,e5⟩:∃g c,Value.slice va succ.length vc= .slice (some ⟨g,0,none⟩) succ.length c:=by
   rcases fE.shape with⟨-,h0⟩|⟨g,c,e,hc⟩
   ·omega
   ·exact⟨g,c,e⟩
  cases e5;refine qV (OH Ob NV O O (by omega))$ qV (Oi OX O O (P6 fE.rd (show(succ.map Oe)[succ.length-1]? =some (Oe y) by rw[List.getElem?_map,hy];rfl))) ?_;refine qV (Ow O OX U3 (by omega))$ Nz O$ RN O O$ Ox$ OC O O$ Nz O$ qV (Oh (news:=YT p) Y4 O SK O (xI.cells (n:=3) O) O)$ NT O O$ Nz O$ qV (Oh (news:=[I (succ.length:Int),I (q:Int)]) z2o O QD O (jo.cells (n:=2) O) O)$ NT O O$ NZ zgn O (z8x p hp x hx succ ref hs bD jM q hq nz Jl Jm fE.rd cf CG nJ hl rest hb AQ.rd) ?_;rintro _ w6 ⟨rfl,h6,aP⟩;refine qV ((Qr O))$ OC O O$ NB$ Of.qb (e:=[(0,_),(14,_),(16,_),(134,_)]) ?_;refine It O$ An$ qN O$ Nz O$ NQ O$ NF O$ NA func154 O ?_;exact⟨_,rfl,_,rfl,fE.kp aP (λg hg e=>by have:=wP g hg;omega),wP,h6,bX.trans aP⟩
 case CH=>
  refine Nw$ qN O$ Nz O$ qV (OP TN O O)$ NF O$ It O$ py$ qN O$ qV (Oh (news:=YT p) Y4 O SK O (bA.cells (n:=3) O) O)$ NZ z2y O (Sv p hp w2) ?_;rintro _ w3 ⟨rfl,ah⟩;refine P3 O O$ NT O O$ NZ z6e O (Uo x hx w3) ?_;rintro _ w3 ⟨rfl,rfl⟩;refine qV ((Qr O))$ OC O O$ NT O O$ Pb O O$ Ox$ OC O O$ NT O O$ P9 O O$ Ox$ OC O O$ NT O O$ NZ z2L O (Vg _ ref jM w3 (eh w3 (aI.trans ah).kp)) ?_;rintro _ w3 ⟨rfl,rfl⟩;refine qV ((Qr O))$ OC O O$ NF O$ Of.qb (e:=[(0,_),(1,_),(2,_),(4,_),(9,_),(11,_),(12,_),(13,_),(20,_)]) ?_;refine It O$ NC O$ NO Ru O$ qV ((NJ U3 O O (ah.ND dt) O))$ Pb O O$ Ox$ Nz O$ NO Ru O$ qV ((NJ U3 O O (ah.ND dt) O))$ P9 O O$ Ox$ OC O O$ Nz O$ NO R9 O ?_;refine qV ((NJ U3 O O (ah.ND dt) O))$ Pb O O$ Ox$ OC O O$ Nz O$ NO R9 O$ qV ((NJ U3 O O (ah.ND dt) O))$ NO RO O$ qV ((NJ U3 O O (ah.ND bA) O))$ P9 O O$ Ox$ OC O O$ Nz O ?_;rcases Nat.eq_zero_or_pos q with e0|e0
  ·have Jn:ref.length=0:=by rw[nz e0];rfl
   refine NO R9 O$ qV ((NJ U3 O O (ah.ND dt) O))$ Px O O$ PE$ NT O O$ Q0 Ob O$ P9 O O$ Ox$ Pc O O$ OC O O$ NF O$ Of.qb (e:=[(0,_),(1,_),(2,_),(4,_),(9,_),(11,_),(12,_),(13,_),(20,_)]) ?_;refine It O$ qN O$ NO Ru O$ qV ((NJ U3 O O (ah.ND dt) O))$ Px O O$ Ox$ Nz O$ qS$ qS$ qS$ OC O O$ NF O$ It O$ An ?_;refine Ny ?_;exact(mh _ _ ⟨rfl,ah⟩).qb
  ·refine NO R9 O$ qV ((NJ U3 O O (ah.ND dt) O))$ Px O O$ Ox$ Nz O$ qS$ qS$ qS$ OC O O$ OC O O$ NF O$ Of.qb (e:=[(0,_),(1,_),(2,_),(4,_),(9,_),(11,_),(12,_),(13,_),(20,_)]) ?_;refine It O$ qN O$ NO Ru O$ qV ((NJ U3 O O (ah.ND dt) O))$ Px O O$ Ox$ Nz O$ qS$ qS$ qS$ OC O O$ NF O$ It O$ An ?_;refine Ny ?_;exact(mh _ _ ⟨rfl,ah⟩).qb
theorem z1Q {w:World}{r:Nat}(p:QB)(hp:p.Pk)(x:Nat)(hx:x<65536)(N:Nat)(hN:N<=65536):
  Oa prog 154 [ptr r 0,I (x:Int),I (N:Int),.agg #[I ((0:Nat):Int),I ((0:Nat):Int)],.slice none 0 0,lpV p] w λu w'=>u= .tuple #[.slice none 0 0,I 0]/\Ext w w':=by
 obtain⟨g1,g2,g3,g4⟩:=id hp
 have tp:([]:List Nat).length=0:=rfl
 refine Nu (e:=[(0,_),(1,_),(2,_),(3,_),(4,_),(5,_)]) func154 O ntmps154 O O$ qN O$ NK O O (PW O (cs:=[I ((0:Nat):Int),I ((0:Nat):Int)]) O) ?_
 rintro _ w1 ⟨b9,rfl,mS,ad,cB⟩
 refine NK O O (PW O (cs:=YT p) O) ?_
 rintro _ w2 ⟨b11,rfl,jf,ag,bA⟩
 replace bA:NM w2 b11 [I (p.O6:Int),I (p.interval:Int),I (p.zeta:Int)] 212:=bA
 have aI:=ad.trans ag
 have dt:=ag.ND cB
 refine NQ O$ NF O$ py$ Nw$ qN O$ Nz O$ qV (OP TN O O)$ NF O$ It O$ py$ qN O$ qV (Oh (news:=YT p) Y4 O SK O (bA.cells (n:=3) O) O)$ NZ z2y O (Sv p hp w2) ?_
 rintro _ w3 ⟨rfl,ah⟩
 refine P3 O O$ NT O O$ NZ z6e O (Uo x hx w3) ?_
 rintro _ w3 ⟨rfl,rfl⟩
 refine qV ((Qr O))$ OC O O$ NT O O$ Pb O O$ Ox$ OC O O$ NT O O$ P9 O O$ Ox$ OC O O$ NT O O$ NZ z2L O (Vg (.slice none 0 0) [] ⟨List.Pairwise.nil,λy h=>(by cases h)⟩ w3 U1) ?_
 rintro _ w3 ⟨rfl,rfl⟩
 refine qV ((Qr O))$ OC O O$ NF O$ Of.qb (e:=[(0,_),(1,_),(2,_),(4,_),(9,_),(11,_),(12,_),(13,_),(20,_)]) ?_
 refine It O$ NC O$ NO Ru O$ qV ((NJ U3 O O (ah.ND dt) O))$ Pb O O$ Ox$ Nz O$ NO Ru O$ qV ((NJ U3 O O (ah.ND dt) O))$ P9 O O$ Ox$ OC O O$ Nz O$ NO R9 O ?_
 refine qV ((NJ U3 O O (ah.ND dt) O))$ Pb O O$ Ox$ OC O O$ Nz O$ NO R9 O$ qV ((NJ U3 O O (ah.ND dt) O))$ NO RO O$ qV ((NJ U3 O O (ah.ND bA) O))$ P9 O O$ Ox$ OC O O$ Nz O$ NO R9 O ?_
 refine qV ((NJ U3 O O (ah.ND dt) O))$ Px O O$ PE$ NT O O$ Q0 Ob O$ P9 O O$ Ox$ Pc O O$ OC O O$ NF O$ Of.qb (e:=[(0,_),(1,_),(2,_),(4,_),(9,_),(11,_),(12,_),(13,_),(20,_)]) ?_
 refine It O$ qN O$ NO Ru O$ qV ((NJ U3 O O (ah.ND dt) O))$ Px O O$ PE$ Nz O$ NO R9 O$ qV ((NJ U3 O O (ah.ND dt) O))$ Px O O$ PE$ Pc O O$ NF O$ NI O ?_
 refine qN O$ NQ O$ NF O$ NA func154 O ?_
 exact⟨_,rfl,rfl,aI.trans ah⟩
/-! ### A packer's cells -/
def UG (q:Value×Nat):List Value:=[q.1,I (q.2:Int)]
def WB (p:Pa)(R:List (Value×Nat))(n wp ed:Nat):List Value:=TR p++(R.flatMap UG++[I (n:Int),ptr wp 0,I (ed:Int),I 0])
theorem Qs:∀R:List (Value×Nat),(R.flatMap UG).length=R.length*2
 |[]=>rfl
 |q::R=>by rw[List.flatMap_cons,List.length_append,Qs R,List.length_cons,show(UG q).length=2 from rfl];omega
theorem z3e:∀(R:List (Value×Nat)) (i j:Nat) (q:Value×Nat) (u:Value),R[i]? =some q->(UG q)[j]? =some u->(R.flatMap UG)[i*2+j]? =some u
 |[],i,j,q,u,h,_=>by simp at h
 | a :: R, 0, j, q, u, h, hj => by
   rw[List.getElem?_cons_zero] at h;cases h;have:=(List.getElem?_eq_some_iff.1 hj).1;rw[List.flatMap_cons,List.getElem?_append_left (by omega),Nat.zero_mul,Nat.zero_add]
   exact hj
 | a :: R, i + 1, j, q, u, h, hj => by
   rw[List.getElem?_cons_succ] at h;rw[List.flatMap_cons,List.getElem?_append_right (by show 2<=_;omega),show(i+1)*2+j-(UG a).length=i*2+j by show _-2=_;omega];exact z3e R i j q u h hj
theorem z3W:∀(R:List (Value×Nat)) (i:Nat) (x:Value×Nat),i<R.length->(R.set i x).flatMap UG=(R.flatMap UG).take (i*2)++UG x++(R.flatMap UG).drop (i*2+2)
 |[],i,x,h=>by simp at h
 | a :: R, 0, x, h => by
   rw[List.set_cons_zero,List.flatMap_cons,List.flatMap_cons,Nat.zero_mul,List.take_zero,List.nil_append,Nat.zero_add,List.drop_left' (show(UG a).length=2 from rfl)]
 | a :: R, i + 1, x, h => by
   rw[List.length_cons] at h;rw[List.set_cons_succ,List.flatMap_cons,List.flatMap_cons,z3W R i x (by omega)];rw[show(i+1)*2=(UG a).length+i*2 by show _=2+_;omega,List.take_length_add_append,Nat.add_assoc,List.drop_length_add_append,List.append_assoc,List.append_assoc,List.append_assoc]
section
variable {p:Pa}{R:List (Value×Nat)}{n wp ed:Nat}
theorem z5j (hR:R.length=17):(WB p R n wp ed).length=43:=by
 unfold WB
 rw[List.length_append,List.length_append,Qs,hR];rfl
theorem Z9 (hR:R.length=17)(j:Nat):(WB p R n wp ed)[39+j]? =[I (n:Int),ptr wp 0,I (ed:Int),I 0][j]? :=by
 unfold WB
 rw[List.getElem?_append_right (by show 5<=_;omega),List.getElem?_append_right (by rw[Qs,hR];show _<=_-5;omega),Qs,hR]
 congr 1
 show 39+j-5-17*2=j
 omega
theorem z5a (hR:R.length=17):(WB p R n wp ed)[39]? =some (I (n:Int)):=Z9 hR 0
theorem zdJ (hR:R.length=17):(WB p R n wp ed)[40]? =some (ptr wp 0):=Z9 hR 1
theorem zhF (hR:R.length=17):(WB p R n wp ed)[41]? =some (I (ed:Int)):=Z9 hR 2
theorem zik (hR:R.length=17):(WB p R n wp ed)[42]? =some (I 0):=Z9 hR 3
theorem zbI (hR:R.length=17){i:Nat}{v:Value}{c:Nat}(h:R[i]? =some (v,c))(j:Nat)(u:Value)(hj:[v,I (c:Int)][j]? =some u):(WB p R n wp ed)[5+i*2+j]? =some u:=by
 have hi:=(List.getElem?_eq_some_iff.1 h).1
 have kT:j<2:=(List.getElem?_eq_some_iff.1 hj).1
 unfold WB
 rw[List.getElem?_append_right (by show 5<=_;omega),show 5+i*2+j-(TR p).length=i*2+j by show _-5=_;omega,List.getElem?_append_left (by rw[Qs];omega)]
 exact z3e R i j _ u h hj
theorem z7A (hR:R.length=17){i:Nat}(hi:i<17)(v:Value)(c:Nat):Py (WB p R n wp ed) (5+i*2) [v,I (c:Int)]=WB p (R.set i (v,c)) n wp ed:=by
 unfold WB Py
 rw[z3W R i (v,c) (by omega)]
 rw[show 5+i*2=(TR p).length+i*2 from rfl,List.take_length_add_append,show(TR p).length+i*2+[v,I (c:Int)].length=(TR p).length+(i*2+2) from rfl,List.drop_length_add_append]
 rw[List.take_append_of_le_length (by rw[Qs];omega),List.drop_append_of_le_length (by rw[Qs];omega)]
 simp only[List.append_assoc]
 rfl
theorem zbJ (hR:R.length=17)(m:Nat):(WB p R n wp ed).set 39 (I (m:Int))=WB p R m wp ed:=by
 unfold WB
 rw[List.set_append_right _ _ (by show 5<=_;omega),List.set_append_right _ _ (by rw[Qs,hR];show _<=39-5;omega),Qs,hR]
 rfl
theorem zc2 (hR:R.length=17)(m:Nat):(WB p R n wp ed).set 41 (I (m:Int))=WB p R n wp m:=by
 unfold WB
 rw[List.set_append_right _ _ (by show 5<=_;omega),List.set_append_right _ _ (by rw[Qs,hR];show _<=41-5;omega),Qs,hR]
 rfl
end
theorem zac {w:World}{k:Nat}{p:Pa}{R:List (Value×Nat)}{n wp ed:Nat}(hB:NM w k (WB p R n wp ed) 279)(hR:R.length=17)(hn:n<=65536)(a:Option Addr)(m cp c:Nat):
  Oa prog 161 [ptr k 5,.slice a m cp,I (c:Int)] w λu w'=>u= .tuple #[]/\NM w' k (WB p (R.set (n%17) (.slice a m cp,c)) (n+1) wp ed) 279/\Kp (λi=>i=k) w w':=by
 refine Nu (e:=[(0,_),(1,_),(2,_)]) func161 O ntmps161 O O ?_
 have hg:=Ext.NY w
 have cA:(R.set (n%17) (.slice a m cp,c)).length=17:=by rw[List.length_set];exact hR
 refine py$ O3 [12] (λw'=>Ext w w') (by kernel_rfl) O$ qL [9,10,11,12] 0 O (λ_ h=>Oq O) hg$ qL [2,3,4,5,11,12] 1 O (λ_ h=>Oq O) hg$ qL [3,4,5,11,12] 2 O (λ_ h=>OQ O) hg$ qL [4,5,11,12] 3 O (λ_ h=>Og TD O) hg$ qL [8,11,12] 6 O (λ_ h=>Oq O) hg$ qL [8,11,12] 7 O (λ_ h=>Oq O) hg$ qL [11,12] 8 O (λ_ h=>QP (cs:=[_,_]) PD O zck O O) hg$ qL [10,11,12] 9 O (λ_ h=>OQ O) hg$ qL [11,12] 10 O (λ_ h=>Og z6a O) hg$ qL [5,11,12] 4 O (λ_ h=>NJ U3 O O (h.ND hB) (z5a hR)) hg$ qL [11,12] 5 O (λ_ h=>yre O O (by omega)) hg$ qL [12] 11 O (λ_ h=>yia zgU PD O O (by omega)) hg ?_
 refine Rs [12]$ qO 12$ Ou (i:=12) O O (OA (news:=[.slice a m cp,I (c:Int)]) PD O O O O (hg.ND hB) (by rw[z5j hR];show 5+n%17*2+2<=43;omega)) ?_
 rintro w1 ⟨aj,aM⟩
 refine⟨trivial,?_⟩
 replace aj:NM w1 k (Py (WB p R n wp ed) (5+n%17*2) [.slice a m cp,I (c:Int)]) 279:=aj
 rw[z7A hR (Nat.mod_lt _ (by decide))] at aj
 refine qE$ NC O$ Nz O$ O8 O$ NO TD O$ qV (NJ U3 O O aj (z5a cA))$ OI O O$ O8 O$ NO TD O$ NP O (PA OL O O O aj (by rw[z5j cA];decide)) ?_
 rintro w2 ⟨am,aq⟩
 replace am:NM w2 k ((WB p (R.set (n%17) (.slice a m cp,c)) n wp ed).set 39 (I ((n+1:Nat):Int))) 279:=am
 rw[zbJ cA] at am
 refine NB$ Pq func161 O ?_
 exact⟨_,rfl,rfl,am,(hg.kp.trans aM).trans aq⟩
def SF (p:Pa)(m size c:Nat):Bool:=decide (0<m/\m<=p.most/\0<size/\size<=p.most/\c<p.chain)
theorem Vt {w:World}{k:Nat}{p:Pa}{R:List (Value×Nat)}{n wp ed:Nat}(hB:NM w k (WB p R n wp ed) 279)(hR:R.length=17)(hn:n<=65536)(hp:p.Pk)(ref size:Nat)(h1:1<=ref)(h2:ref<=p.O6)
  {a:Option Addr} {m cp c:Nat} (hq:ref<=n->R[(n-ref)%17]? =some (.slice a m cp,c)):
  Oa prog 159 [ptr k 5,I (ref:Int),I (size:Int),bpV p] w λu w'=>u=(if ref<=n then .tuple #[.agg #[.slice a m cp,I (c:Int)],.bool (SF p m size c)] else .tuple #[.agg #[.slice none 0 0,I 0],.bool false])/\Ext w w':=by
 have xJ:p.O6<=16:=hp.1.1
 refine Nu (e:=[(0,_),(1,_),(2,_),(3,_)]) func159 O ntmps159 O O$ qN O$ NK O O (PW O (cs:=TR p) O) ?_
 rintro _ w1 ⟨b7,rfl,kO,ad,bj⟩
 refine NK O O (Qk (cs:=[_,_]) PD O) ?_
 rintro _ w2 ⟨b8,rfl,jE,ag,ck⟩
 have z1:=ad.size
 have z2:=ag.size
 have l7:=bj.lt
 have l8:=ck.lt
 have aI:=ad.trans ag
 have ey:=ag.ND bj
 replace ey:NM w2 b7 [I (p.O6:Int),I (p.chain:Int),I (p.interval:Int),I (p.zeta:Int),I (p.most:Int)] 88:=ey
 replace ck:NM w2 b8 [.slice none 0 0,I 0] 274:=ck
 have tM:=aI.ND hB
 have aa:=Ext.NY w2
 refine NF O$ py$ py ?_
 rcases Nat.lt_or_ge n ref with aU|jb
 ·refine PK (λw'=>Ext w2 w') O$ NX 0 O O (aa)$ NG 1 O (ZQ O O) aa$ S4$ NX 2 O O (aa)$ NX 3 O O (aa)$ NX 4 O O (aa)$ NG 5 O (OQ O) aa$ NG 6 O (Og TD O) aa$ NG 8 O (Og z0d O) aa$ qT 9 O (λ_ h=>NJ U3 O O (h.ND ey) O) aa$ qT 7 O (λ_ h=>NJ U3 O O (h.ND tM) (z5a hR)) aa$ NG 10 O (ymi O O) aa$ NG 11 O (VP O O) aa ?_;refine SC$ NG 12 O (S6 O O) aa$ qE$ NI O$ qN O$ qV (QP (cs:=[_,_]) PD O zck O O) ?_;have tN:=aa.ND ck;refine NP O (OA (news:=[.slice none 0 0,I 0]) PD O O O O tN (by simp)) ?_;rintro w3 ⟨tO,aw⟩;replace tO:NM w3 b8 [.slice none 0 0,I 0] 274:=tO;refine NF O$ O9 func159 (.cell Wt O PD O (NM.cells (n:=2) tO (news:=[_,_]) O) O (.tmp O .nil)) ?_;rw[if_neg (by omega)];exact⟨_,rfl,rfl,(aI.trans aa).Nv aw (λi e=>by omega)⟩
 ·have fO:=hq jb;rw[if_pos jb];refine PK (λw'=>Ext w2 w') O$ NX 0 O O (aa)$ NG 1 O (ZQ O O) aa$ S4$ NX 2 O O (aa)$ NX 3 O O (aa)$ NX 4 O O (aa)$ NG 5 O (OQ O) aa$ NG 6 O (Og TD O) aa$ NG 8 O (Og z0d O) aa$ qT 9 O (λ_ h=>NJ U3 O O (h.ND ey) O) aa$ qT 7 O (λ_ h=>NJ U3 O O (h.ND tM) (z5a hR)) aa$ NG 10 O (ymi O O) aa$ NG 11 O (VP O O) aa ?_;refine S4$ NG 12 O (S6 O O) aa$ qE$ It O$ An$ py ?_;have ae:=aa.trans (Ext.NY w2.drew);have dj:=Ext.NY w2.drew;have nY:=aa.ND tM;refine O3 [13] (λw'=>Ext w2.drew w') (by kernel_rfl) O$ qL [8,9,10,11,13] 0 O (λ_ h=>Oq O) dj$ qL [2,3,4,6,7,10,11,13] 1 O (λ_ h=>Oq O) dj$ qL [3,4,6,7,10,11,13] 2 O (λ_ h=>OQ O) dj$ qL [4,6,7,10,11,13] 3 O (λ_ h=>Og TD O) dj$ qL [6,7,10,11,13] 5 O (λ_ h=>Oq O) dj$ qL [9,10,11,13] 8 O (λ_ h=>OQ O) dj$ qL [10,11,13] 9 O (λ_ h=>Og z6a O) dj$ qL [6,7,10,11,13] 4 O (λ_ h=>NJ U3 O O (h.ND nY) (z5a hR)) dj$ qL [7,10,11,13] 6 O (λ_ h=>W5 O O (by omega)) dj ?_;rw[show(n:Int)-(ref:Int)=((n-ref:Nat):Int) by omega];refine qL [10,11,13] 7 O (λ_ h=>yre O O (by omega)) dj$ qL [11,13] 10 O (λ_ h=>yia zgU PD O O (by omega)) dj$ qL [13] 11 O (λ_ h=>Oh (news:=[.slice a m cp,I (c:Int)]) Wt O PD O (λj u hj=>by rw[(h.ND nY).cell];exact zbI hR fO j u hj) O) dj ?_;refine PC (i:=12) (by kernel_rfl)$ P4 (i:=12) O O O (Qk (cs:=[_,_]) PD O) ?_;rintro _ w3 ⟨b10,rfl,wR,ah,dD⟩;refine⟨dj.trans ah,?_⟩;refine Rs [13]$ qO 13$ Ou (i:=13) O O (OA (news:=[.slice a m cp,I (c:Int)]) PD O O O O dD (by simp)) ?_;rintro w4 ⟨bO,ao⟩;refine⟨trivial,?_⟩;replace bO:NM w4 b10 [.slice a m cp,I (c:Int)] 274:=bO;have z23:=ae.size;have z3:=ah.size;have cU:Ext w2 w4:=(ae.trans ah).Nv ao (λi e=>by omega);have z4:=cU.size;have eU:=cU.ND ck;have gZ:=cU.ND ey;have af:=Ext.NY w4;refine qE$ Of.qb (e:=[(2,_),(7,_),(8,_),(9,_),(10,_)]) ?_;refine py ?_;rcases Nat.eq_zero_or_pos m with c0|c0
  ·refine PK (λw'=>Kp (λi=>i=b8) w4 w') O$ qT 0 O (λ_ hS=>(Oh Wt O PD O (NM.cells (n:=2) (hS.ND bO (by omega)) (news:=[_,_]) O) O)) (af.kp)$ NG 1 O (Og R5 O) (af.kp)$ qT 2 O (λ_ hS=>(NJ Ob O O (hS.ND bO (by omega)) O)) (af.kp)$ NG 3 O (R7 Ob O) (af.kp)$ NG 4 O (VP O O) (af.kp)$ S4$ NX 5 O O (af.kp)$ qJ 6 O (af.kp)$ qJ 7 O (af.kp)$ qJ 8 O (af.kp)$ qJ 9 O (af.kp)$ qJ 10 O (af.kp)$ qJ 11 O (af.kp) ?_;refine NG 12 O (S6 O O) (af.kp)$ NX 13 O O (af.kp)$ qJ 14 O (af.kp)$ qJ 15 O (af.kp)$ NG 16 O (S6 O O) (af.kp)$ NX 17 O O (af.kp)$ qJ 18 O (af.kp)$ qJ 19 O (af.kp)$ qJ 20 O (af.kp)$ qJ 21 O (af.kp)$ NG 22 O (S6 O O) (af.kp)$ NX 23 O O (af.kp)$ qJ 24 O (af.kp)$ qJ 25 O (af.kp) ?_;refine qJ 26 O (af.kp)$ qJ 27 O (af.kp)$ qJ 28 O (af.kp)$ NG 29 O (S6 O O) (af.kp)$ qO 30$ Ou (i:=30) O O (OA (news:=[.slice a m cp,I (c:Int)]) PD O O O O (af.ND eU) (by simp)) ?_;rintro w5 ⟨bL,ai⟩;refine⟨af.kp.trans ai,?_⟩;replace bL:NM w5 b8 [.slice a m cp,I (c:Int)] 274:=bL;refine NG 31 O (PO O) (af.kp.trans ai)$ qE$ Of.qb (e:=[(8,_),(9,_)]) ?_;refine O9 func159 (.cell Wt O PD O (NM.cells (n:=2) bL (news:=[_,_]) O) O (.tmp O .nil)) ?_;have ay:SF p m size c=false:=decide_eq_false (λh=>by omega);rw[ay];exact⟨_,rfl,rfl,((aI.trans cU).trans af).Nv ai (λi e=>by omega)⟩
  ·rcases Nat.lt_or_ge p.most m with c1|c1
   ·refine PK (λw'=>Kp (λi=>i=b8) w4 w') O$ qT 0 O (λ_ hS=>(Oh Wt O PD O (NM.cells (n:=2) (hS.ND bO (by omega)) (news:=[_,_]) O) O)) (af.kp)$ NG 1 O (Og R5 O) (af.kp)$ qT 2 O (λ_ hS=>(NJ Ob O O (hS.ND bO (by omega)) O)) (af.kp)$ NG 3 O (R7 Ob O) (af.kp)$ NG 4 O (VP O O) (af.kp)$ SC$ NX 5 O O (af.kp)$ NG 6 O (Og R5 O) (af.kp)$ qT 7 O (λ_ hS=>(NJ Ob O O (hS.ND bO (by omega)) O)) (af.kp)$ NG 8 O (R7 Ob O) (af.kp)$ NG 9 O (Og Sd O) (af.kp)$ qT 10 O (λ_ hS=>(NJ U3 O O (hS.ND gZ (by omega)) O)) (af.kp)$ NG 11 O (Xu O O) (af.kp) ?_;refine S4$ NG 12 O (Tu O O) (af.kp)$ NX 13 O O (af.kp)$ qJ 14 O (af.kp)$ qJ 15 O (af.kp)$ NG 16 O (S6 O O) (af.kp)$ NX 17 O O (af.kp)$ qJ 18 O (af.kp)$ qJ 19 O (af.kp)$ qJ 20 O (af.kp)$ qJ 21 O (af.kp)$ NG 22 O (S6 O O) (af.kp)$ NX 23 O O (af.kp)$ qJ 24 O (af.kp) ?_;refine qJ 25 O (af.kp)$ qJ 26 O (af.kp)$ qJ 27 O (af.kp)$ qJ 28 O (af.kp)$ NG 29 O (S6 O O) (af.kp)$ qO 30$ Ou (i:=30) O O (OA (news:=[.slice a m cp,I (c:Int)]) PD O O O O (af.ND eU) (by simp)) ?_;rintro w5 ⟨bL,ai⟩;refine⟨af.kp.trans ai,?_⟩;replace bL:NM w5 b8 [.slice a m cp,I (c:Int)] 274:=bL;refine NG 31 O (PO O) (af.kp.trans ai)$ qE$ Of.qb (e:=[(8,_),(9,_)]) ?_;refine O9 func159 (.cell Wt O PD O (NM.cells (n:=2) bL (news:=[_,_]) O) O (.tmp O .nil)) ?_;have ay:SF p m size c=false:=decide_eq_false (λh=>by omega);rw[ay];exact⟨_,rfl,rfl,((aI.trans cU).trans af).Nv ai (λi e=>by omega)⟩
   ·rcases Nat.eq_zero_or_pos size with c2|c2
    ·refine PK (λw'=>Kp (λi=>i=b8) w4 w') O$ qT 0 O (λ_ hS=>(Oh Wt O PD O (NM.cells (n:=2) (hS.ND bO (by omega)) (news:=[_,_]) O) O)) (af.kp)$ NG 1 O (Og R5 O) (af.kp)$ qT 2 O (λ_ hS=>(NJ Ob O O (hS.ND bO (by omega)) O)) (af.kp)$ NG 3 O (R7 Ob O) (af.kp)$ NG 4 O (VP O O) (af.kp)$ SC$ NX 5 O O (af.kp)$ NG 6 O (Og R5 O) (af.kp)$ qT 7 O (λ_ hS=>(NJ Ob O O (hS.ND bO (by omega)) O)) (af.kp)$ NG 8 O (R7 Ob O) (af.kp)$ NG 9 O (Og Sd O) (af.kp)$ qT 10 O (λ_ hS=>(NJ U3 O O (hS.ND gZ (by omega)) O)) (af.kp)$ NG 11 O (Xu O O) (af.kp) ?_;refine SC$ NG 12 O (Tu O O) (af.kp)$ NX 13 O O (af.kp)$ NX 14 O O (af.kp)$ NG 15 O (VP O O) (af.kp)$ S4$ NG 16 O (Tu O O) (af.kp)$ NX 17 O O (af.kp)$ qJ 18 O (af.kp)$ qJ 19 O (af.kp)$ qJ 20 O (af.kp)$ qJ 21 O (af.kp)$ NG 22 O (S6 O O) (af.kp)$ NX 23 O O (af.kp) ?_;refine qJ 24 O (af.kp)$ qJ 25 O (af.kp)$ qJ 26 O (af.kp)$ qJ 27 O (af.kp)$ qJ 28 O (af.kp)$ NG 29 O (S6 O O) (af.kp)$ qO 30$ Ou (i:=30) O O (OA (news:=[.slice a m cp,I (c:Int)]) PD O O O O (af.ND eU) (by simp)) ?_;rintro w5 ⟨bL,ai⟩;refine⟨af.kp.trans ai,?_⟩;replace bL:NM w5 b8 [.slice a m cp,I (c:Int)] 274:=bL;refine NG 31 O (PO O) (af.kp.trans ai)$ qE$ Of.qb (e:=[(8,_),(9,_)]) ?_;refine O9 func159 (.cell Wt O PD O (NM.cells (n:=2) bL (news:=[_,_]) O) O (.tmp O .nil)) ?_;have ay:SF p m size c=false:=decide_eq_false (λh=>by omega);rw[ay];exact⟨_,rfl,rfl,((aI.trans cU).trans af).Nv ai (λi e=>by omega)⟩
    ·rcases Nat.lt_or_ge p.most size with c3|c3
     ·refine PK (λw'=>Kp (λi=>i=b8) w4 w') O$ qT 0 O (λ_ hS=>(Oh Wt O PD O (NM.cells (n:=2) (hS.ND bO (by omega)) (news:=[_,_]) O) O)) (af.kp)$ NG 1 O (Og R5 O) (af.kp)$ qT 2 O (λ_ hS=>(NJ Ob O O (hS.ND bO (by omega)) O)) (af.kp)$ NG 3 O (R7 Ob O) (af.kp)$ NG 4 O (VP O O) (af.kp)$ SC$ NX 5 O O (af.kp)$ NG 6 O (Og R5 O) (af.kp)$ qT 7 O (λ_ hS=>(NJ Ob O O (hS.ND bO (by omega)) O)) (af.kp)$ NG 8 O (R7 Ob O) (af.kp)$ NG 9 O (Og Sd O) (af.kp)$ qT 10 O (λ_ hS=>(NJ U3 O O (hS.ND gZ (by omega)) O)) (af.kp)$ NG 11 O (Xu O O) (af.kp) ?_;refine SC$ NG 12 O (Tu O O) (af.kp)$ NX 13 O O (af.kp)$ NX 14 O O (af.kp)$ NG 15 O (VP O O) (af.kp)$ SC$ NG 16 O (Tu O O) (af.kp)$ NX 17 O O (af.kp)$ NX 18 O O (af.kp)$ NG 19 O (Og Sd O) (af.kp)$ qT 20 O (λ_ hS=>(NJ U3 O O (hS.ND gZ (by omega)) O)) (af.kp)$ NG 21 O (Xu O O) (af.kp)$ S4$ NG 22 O (Tu O O) (af.kp) ?_;refine NX 23 O O (af.kp)$ qJ 24 O (af.kp)$ qJ 25 O (af.kp)$ qJ 26 O (af.kp)$ qJ 27 O (af.kp)$ qJ 28 O (af.kp)$ NG 29 O (S6 O O) (af.kp)$ qO 30$ Ou (i:=30) O O (OA (news:=[.slice a m cp,I (c:Int)]) PD O O O O (af.ND eU) (by simp)) ?_;rintro w5 ⟨bL,ai⟩;refine⟨af.kp.trans ai,?_⟩;replace bL:NM w5 b8 [.slice a m cp,I (c:Int)] 274:=bL;refine NG 31 O (PO O) (af.kp.trans ai)$ qE$ Of.qb (e:=[(8,_),(9,_)]) ?_;refine O9 func159 (.cell Wt O PD O (NM.cells (n:=2) bL (news:=[_,_]) O) O (.tmp O .nil)) ?_;have ay:SF p m size c=false:=decide_eq_false (λh=>by omega);rw[ay];exact⟨_,rfl,rfl,((aI.trans cU).trans af).Nv ai (λi e=>by omega)⟩
     ·rcases Nat.lt_or_ge c p.chain with c4|c4
      ·refine PK (λw'=>Kp (λi=>i=b8) w4 w') O$ qT 0 O (λ_ hS=>(Oh Wt O PD O (NM.cells (n:=2) (hS.ND bO (by omega)) (news:=[_,_]) O) O)) (af.kp)$ NG 1 O (Og R5 O) (af.kp)$ qT 2 O (λ_ hS=>(NJ Ob O O (hS.ND bO (by omega)) O)) (af.kp)$ NG 3 O (R7 Ob O) (af.kp)$ NG 4 O (VP O O) (af.kp)$ SC$ NX 5 O O (af.kp)$ NG 6 O (Og R5 O) (af.kp)$ qT 7 O (λ_ hS=>(NJ Ob O O (hS.ND bO (by omega)) O)) (af.kp)$ NG 8 O (R7 Ob O) (af.kp)$ NG 9 O (Og Sd O) (af.kp)$ qT 10 O (λ_ hS=>(NJ U3 O O (hS.ND gZ (by omega)) O)) (af.kp)$ NG 11 O (Xu O O) (af.kp) ?_;refine SC$ NG 12 O (Tu O O) (af.kp)$ NX 13 O O (af.kp)$ NX 14 O O (af.kp)$ NG 15 O (VP O O) (af.kp)$ SC$ NG 16 O (Tu O O) (af.kp)$ NX 17 O O (af.kp)$ NX 18 O O (af.kp)$ NG 19 O (Og Sd O) (af.kp)$ qT 20 O (λ_ hS=>(NJ U3 O O (hS.ND gZ (by omega)) O)) (af.kp)$ NG 21 O (Xu O O) (af.kp)$ SC$ NG 22 O (Tu O O) (af.kp) ?_;refine NX 23 O O (af.kp)$ NG 24 O (Og z1y O) (af.kp)$ qT 25 O (λ_ hS=>(NJ U3 O O (hS.ND bO (by omega)) O)) (af.kp)$ NG 26 O (Og XF O) (af.kp)$ qT 27 O (λ_ hS=>(NJ U3 O O (hS.ND gZ (by omega)) O)) (af.kp)$ NG 28 O (ZQ O O) (af.kp)$ SC$ NG 29 O (Tu O O) (af.kp)$ qO 30$ Ou (i:=30) O O (OA (news:=[.slice a m cp,I (c:Int)]) PD O O O O (af.ND eU) (by simp)) ?_;rintro w5 ⟨bL,ai⟩;refine⟨af.kp.trans ai,?_⟩;replace bL:NM w5 b8 [.slice a m cp,I (c:Int)] 274:=bL;refine NG 31 O (PO O) (af.kp.trans ai)$ qE$ Of.qb (e:=[(8,_),(9,_)]) ?_;refine O9 func159 (.cell Wt O PD O (NM.cells (n:=2) bL (news:=[_,_]) O) O (.tmp O .nil)) ?_;have ay:SF p m size c=true:=decide_eq_true ⟨by omega,by omega,by omega,by omega,by omega⟩;rw[ay];exact⟨_,rfl,rfl,((aI.trans cU).trans af).Nv ai (λi e=>by omega)⟩
      ·refine PK (λw'=>Kp (λi=>i=b8) w4 w') O$ qT 0 O (λ_ hS=>(Oh Wt O PD O (NM.cells (n:=2) (hS.ND bO (by omega)) (news:=[_,_]) O) O)) (af.kp)$ NG 1 O (Og R5 O) (af.kp)$ qT 2 O (λ_ hS=>(NJ Ob O O (hS.ND bO (by omega)) O)) (af.kp)$ NG 3 O (R7 Ob O) (af.kp)$ NG 4 O (VP O O) (af.kp)$ SC$ NX 5 O O (af.kp)$ NG 6 O (Og R5 O) (af.kp)$ qT 7 O (λ_ hS=>(NJ Ob O O (hS.ND bO (by omega)) O)) (af.kp)$ NG 8 O (R7 Ob O) (af.kp)$ NG 9 O (Og Sd O) (af.kp)$ qT 10 O (λ_ hS=>(NJ U3 O O (hS.ND gZ (by omega)) O)) (af.kp)$ NG 11 O (Xu O O) (af.kp) ?_;refine SC$ NG 12 O (Tu O O) (af.kp)$ NX 13 O O (af.kp)$ NX 14 O O (af.kp)$ NG 15 O (VP O O) (af.kp)$ SC$ NG 16 O (Tu O O) (af.kp)$ NX 17 O O (af.kp)$ NX 18 O O (af.kp)$ NG 19 O (Og Sd O) (af.kp)$ qT 20 O (λ_ hS=>(NJ U3 O O (hS.ND gZ (by omega)) O)) (af.kp)$ NG 21 O (Xu O O) (af.kp)$ SC$ NG 22 O (Tu O O) (af.kp) ?_;refine NX 23 O O (af.kp)$ NG 24 O (Og z1y O) (af.kp)$ qT 25 O (λ_ hS=>(NJ U3 O O (hS.ND bO (by omega)) O)) (af.kp)$ NG 26 O (Og XF O) (af.kp)$ qT 27 O (λ_ hS=>(NJ U3 O O (hS.ND gZ (by omega)) O)) (af.kp)$ NG 28 O (ZQ O O) (af.kp)$ S4$ NG 29 O (Tu O O) (af.kp)$ qO 30$ Ou (i:=30) O O (OA (news:=[.slice a m cp,I (c:Int)]) PD O O O O (af.ND eU) (by simp)) ?_;rintro w5 ⟨bL,ai⟩;refine⟨af.kp.trans ai,?_⟩;replace bL:NM w5 b8 [.slice a m cp,I (c:Int)] 274:=bL;refine NG 31 O (PO O) (af.kp.trans ai)$ qE$ Of.qb (e:=[(8,_),(9,_)]) ?_;refine O9 func159 (.cell Wt O PD O (NM.cells (n:=2) bL (news:=[_,_]) O) O (.tmp O .nil)) ?_;have ay:SF p m size c=false:=decide_eq_false (λh=>by omega);rw[ay];exact⟨_,rfl,rfl,((aI.trans cU).trans af).Nv ai (λi e=>by omega)⟩
abbrev z6M:List (Value×Nat):=List.replicate 17 (.slice none 0 0,0)
theorem z7a (p:Pa)(hp:p.Pk)(w:World):Oa prog 116 [bpV p] w λu w'=>∃k wp F,u= .tuple #[ptr k 0,I 0]/\NM w' k (WB p z6M 0 wp 0) 279/\Xk w' wp [] F/\¬F k/\Ext w w'/\w.heap.size<=k/\∀i,F i->w.heap.size<=i:=by
 refine Nu (e:=[(0,_)]) func116 O ntmps116 O O$ qN O$ NK O O (PW O (cs:=TR p) O) ?_
 rintro _ w1 ⟨b1,rfl,bN,ad,aj⟩
 have z1:=ad.size
 refine NQ O$ NF O$ py$ qN O$ qV (Oh (news:=TR p) U88 O Qm O (aj.cells (n:=5) O) O)$ NZ zcf O (YN p hp w1) ?_
 rintro _ w2 ⟨rfl,ag⟩
 have z2:=ag.size
 have hg:=Ext.NY w2
 refine NQ O$ qM O$ Nz O$ P3 O O$ NB$ It O$ An$ py$ PK (λw'=>Ext w2 w') O$ qT 0 O (λ_ hS=>Oh (news:=TR p) U88 O Qm O ((hS.ND (ag.ND aj)).cells (n:=5) O) O) hg$ Qv 1 O Zi O (T8 _) ?_
 rintro _ w3 ⟨wp,F,rfl,mT,ah,qp⟩
 refine⟨hg.trans ah,?_⟩
 have cD:=hg.trans ah
 have z3:=cD.size
 refine NG 2 O (QP zfJ O zhb O O) (hg.trans ah)$ qO 3$ QO (i:=3) O O O (PW O (cs:=WB p z6M 0 wp 0) O) ?_
 rintro _ w4 ⟨k,rfl,hk,aB,aH⟩
 refine⟨cD.trans aB,?_⟩
 refine NG 4 O (PO O) (cD.trans aB)$ NG 5 O (PO O) (cD.trans aB)$ qE$ NA func116 O ?_
 exact⟨_,rfl,k,wp,F,rfl,aH,mT.ext aB,λe=>by have:=mT.lt e;omega,((ad.trans ag).trans cD).trans aB,by omega,λi hi=>by have:=qp i hi;have:=hg.size;omega⟩
structure PkM (w:World)(k:Nat)(p:Pa)(L:List (List Nat))(E:List (Nat×Nat))(bs:List Bool)(F:Nat->Prop)(R:List (Value×Nat))(wp ed:Nat):Prop where
 ND:NM w k (WB p R L.length wp ed) 279
 len:R.length=17
 wr:Xk w wp bs F
 nk:¬F k
 el:E.length=L.length
 ok:∀l∈L,Ov l
 ring:∀j l e,L[j]? =some l->E[j]? =some e->L.length<=j+17->∃a cp,R[j%17]? =some (.slice a l.length cp,e.2)/\l.length<=cp/\Sl w (.slice a l.length cp) 46 1 l.length (l.map Oe)/\(∀g,(Value.slice a l.length cp).ownBlock=some g->¬F g/\g≠k)
theorem PkM.ext {w w':World}{k:Nat}{p:Pa}{L:List (List Nat)}{E:List (Nat×Nat)}{bs:List Bool}{F:Nat->Prop}{R:List (Value×Nat)}{wp ed:Nat}(h:PkM w k p L E bs F R wp ed)(hx:Ext w w'):PkM w' k p L E bs F R wp ed:=
 ⟨hx.ND h.ND,h.len,h.wr.ext hx,h.nk,h.el,h.ok,λj l e h1 h2 h3=>by
  obtain⟨a,cp,g1,g2,g3,g4⟩:=h.ring j l e h1 h2 h3
  exact⟨a,cp,g1,g2,g3.ext hx,g4⟩⟩
def Found (p:Pa)(L:List (List Nat))(E:List (Nat×Nat))(R:List (Value×Nat))(size ref:Nat)(v:Value)(c:Nat):Prop:=
 (ref=0/\v= .slice none 0 0/\c=0)\/(1<=ref/\ref<=p.O6/\ref<=L.length/\R[(L.length-ref)%17]? =some (v,c)/\∃l e,L[L.length-ref]? =some l/\E[L.length-ref]? =some e/\c=e.2/\SF p l.length size e.2=true)
structure AdM (w:World)(k b2 b3 b7 b8 b4 b9:Nat)(a:Option Addr)(m cp n least ref:Nat)(v:Value)(c:Nat):Prop where
 c2:NM w b2 [ptr k 0] 225
 c3:NM w b3 [.slice a m cp] 45
 c7:NM w b7 [I (n:Int)] 3
 c8:NM w b8 [I (least:Int)] 3
 c4:NM w b4 [I (ref:Int)] 3
 c9:NM w b9 [v,I (c:Int)] 274
theorem AdM.kp {S:Nat->Prop}{w w':World}{k b2 b3 b7 b8 b4 b9:Nat}{a:Option Addr}{m cp n least ref:Nat}{v:Value}{c:Nat}(h:AdM w k b2 b3 b7 b8 b4 b9 a m cp n least ref v c)(hk:Kp S w w')(hn:∀i,S i->i≠b2/\i≠b3/\i≠b7/\i≠b8/\i≠b4/\i≠b9):AdM w' k b2 b3 b7 b8 b4 b9 a m cp n least ref v c:=
 ⟨hk.ND h.c2 (λe=>(hn _ e).1 O),hk.ND h.c3 (λe=>(hn _ e).2.1 O),hk.ND h.c7 (λe=>(hn _ e).2.2.1 O),hk.ND h.c8 (λe=>(hn _ e).2.2.2.1 O),hk.ND h.c4 (λe=>(hn _ e).2.2.2.2.1 O),hk.ND h.c9 (λe=>(hn _ e).2.2.2.2.2 O)⟩
theorem AdM.ext {w w':World}{k b2 b3 b7 b8 b4 b9:Nat}{a:Option Addr}{m cp n least ref:Nat}{v:Value}{c:Nat}(h:AdM w k b2 b3 b7 b8 b4 b9 a m cp n least ref v c)(hk:Ext w w'):AdM w' k b2 b3 b7 b8 b4 b9 a m cp n least ref v c:=h.kp (S:=λ_=>False) hk.kp (λi e=>e.elim)
theorem zaU {w:World}{k:Nat}{p:Pa}(hp:p.Pk){L:List (List Nat)}{E:List (Nat×Nat)}{bs:List Bool}{F:Nat->Prop}{R:List (Value×Nat)}{wp ed:Nat}(h:PkM w k p L E bs F R wp ed)(hG:NM w 0 (QX .gamma) 260)(hU:NM w 1 (QX .unary) 260)(hL:L.length<65536)
  {b2 b3 b7 b8 b4 b9:Nat} {a:Option Addr} {cp least ref:Nat} {v:Value} {c:Nat} {succ:List Nat} (hs:Ov succ) (ld:succ.length<=cp) (dU:Rd w (.slice a succ.length cp) 1 succ.length (succ.map Oe)) (hA:AdM w k b2 b3 b7 b8 b4 b9 a succ.length cp L.length least ref v c) (hF:Found p L E R succ.length ref v c)
  (hd:b8≠b2/\b8≠b3/\b8≠b7/\b4≠b2/\b4≠b3/\b4≠b7/\b9≠b2/\b9≠b3/\b9≠b7/\b8≠b4/\b8≠b9/\b4≠b9) (r:Nat) (h1:1<=r) (h2:r<=p.O6):
  Oa prog 158 [I (r:Int),ptr b2 0,ptr b3 0,ptr b7 0,ptr b8 0,ptr b4 0,ptr b9 0] w λu w'=>u= .tuple #[]/\Kp (λi=>i=b8\/i=b4\/i=b9) w w'/\∃least' ref' v' c',AdM w' k b2 b3 b7 b8 b4 b9 a succ.length cp L.length least' ref' v' c'/\Found p L E R succ.length ref' v' c':=by
 have xJ:p.O6<=16:=hp.1.1
 obtain⟨a1,c1,m1,e1,xK,Jo⟩:∃a1 c1 m1 e1,(r<=L.length->R[(L.length-r)%17]? =some (.slice a1 m1 c1,e1))/\(r<=L.length->∃l e,L[L.length-r]? =some l/\E[L.length-r]? =some e/\m1=l.length/\e1=e.2/\l.length<=c1/\Sl w (.slice a1 l.length c1) 46 1 l.length (l.map Oe)):=by
  by_cases hr:r<=L.length
  ·obtain⟨l,hl⟩:∃l,L[L.length-r]? =some l:=⟨_,List.getElem?_eq_getElem (by omega)⟩;obtain⟨e,he⟩:∃e,E[L.length-r]? =some e:=⟨_,List.getElem?_eq_getElem (by have:=h.el;omega)⟩;obtain⟨a1,c1,g1,g2,g3,g4⟩:=h.ring _ l e hl he (by omega);exact⟨a1,c1,l.length,e.2,λ_=>g1,λ_=>⟨l,e,hl,he,rfl,rfl,g2,g3⟩⟩
  ·exact⟨none,0,0,0,λe=>absurd e hr,λe=>absurd e hr⟩
 have eM:=hA.c2
 have qr:=hA.c3
 have hg:=Ext.NY w
 have mj:∀{w2:World},NM w2 k (WB p R L.length wp ed) 279->∀j u,(TR p)[j]? =some u->w2.cell? ⟨k,0+j,none⟩=some u:=λhB j u hj=>hB.cells (i:=0) (n:=5) (news:=TR p) O j u hj
 refine Nu (e:=[(0,_),(1,_),(2,_),(3,_),(4,_),(5,_),(6,_)]) func158 O ntmps158 O O$ py$ Oy (λe' w'=>∃tb v1 d1 ok,e'=[(0,I (r:Int)),(1,ptr b2 0),(2,ptr b3 0),(3,ptr b7 0),(4,ptr b8 0),(5,ptr b4 0),(6,ptr b9 0),(8,ptr tb 0),(9,.bool ok)]/\Ext w w'/\w.heap.size<=tb/\NM w' tb [v1,I ((d1:Nat):Int)] 274/\(ok=true->r<=L.length/\v1= .slice a1 m1 c1/\d1=e1/\SF p m1 succ.length e1=true)) ?cJ$ λcJ=>?di
 case cJ=>
  rintro e' w1 ⟨tb,v1,d1,ok,rfl,ad,Ji,Hb,ay⟩;have kV:=hA.ext ad;have tP:=kV.c2;have lM:=kV.c3;have Hc:=kV.c7;have CI:=kV.c8;refine py$ qN O$ Nz O$ qV ((Qr O))$ NB$ OV O (λh3=>?_)$ λh3=>?_
  ·refine NA func158 O ?_;exact⟨_,rfl,rfl,ad.kp,_,_,_,_,kV,hF⟩
  ·have CJ:ok=true:=by cases ok<;>simp_all
   obtain⟨CK,rfl,rfl,gW⟩:=ay CJ;obtain⟨l,e,hl,he,rfl,rfl,iC,Jp⟩:=Jo CK;have CL:=xK CK;have CM:Ov l:=h.ok l (List.mem_of_getElem? hl);have av:=Ext.NY w1;refine An$ py$ PK (λw'=>Ext w1 w') O$ qT 0 O (λ_ h=>(NJ U3 O O (h.ND Hc) O)) av$ qT 1 O (λ_ h=>(NJ Ob O O (h.ND lM) O)) av$ NG 2 O (Og R5 O) av$ qT 3 O (λ_ h=>(NJ Ob O O (h.ND Hb) O)) av$ NX 4 O O (av)$ qT 5 O (λ_ h=>(NJ UL O O (h.ND tP) O)) av$ NG 6 O (OQ O) av$ NG 7 O (Og VD O) av$ qT 8 O (λ_ hS=>Oh (news:=TR p) U88 O Qm O (mj (hS.ND (ad.ND h.ND))) O) av$ Qv 9 O Zg O (Rv p _) ?_;rintro _ w9 ⟨rfl,dE⟩;refine⟨av.trans dE,?_⟩;have gx:=av.trans dE;have gy:=ad.trans gx;refine Qv 10 O z3f O (TU p.list hp.1 L.length hL succ l hs CM r h2 (λe=>by omega) (gy.ND hG) (gy.ND hU) (dU.ext gy) (Jp.rd.ext gy) ld iC) ?_;rintro _ w10 ⟨rfl,bE⟩;refine⟨gx.trans bE,?_⟩;have eV:=gx.trans bE;have lV:=kV.ext eV;have CN:=lV.c8;have CO:=eV.ND Hb
   generalize (O5 (Qg p.list L.length succ l r)).length=nb
   refine NX 11 O O (gx.trans bE)$ NG 12 O (Q8 O O) (gx.trans bE)$ NG 13 O (Q8 O O) (gx.trans bE)$ NG 14 O (PO O) (gx.trans bE)$ NG 15 O (PO O) (gx.trans bE)$ qE$ Of.qb (e:=[(0,_),(4,_),(5,_),(6,_),(8,_),(10,_)]) ?_;refine qN O$ Nz O$ qV (NJ U3 O O CN O)$ Pb O O$ NB$ NN O (λh4=>?_)$ λh4=>?_
   ·have ko:=Ext.NY w10;have ii:=lV.ext ko;have lb8:=hA.c8.lt;have lb4:=hA.c4.lt;have lb9:=hA.c9.lt;have Jq:¬(tb=b8\/tb=b4\/tb=b9):=by omega
    refine PK (λw'=>Kp (λi=>i=b8\/i=b4\/i=b9) w10 w') O$ NX 0 O O (ko.kp)$ NX 1 O O (ko.kp)$ qT 2 O (λ_ h=>Oh Wt O PD O (NM.cells (n:=2) (h.ND CO Jq) (news:=[_,_]) O) O) (ko.kp)$ qO 3$ Ou (i:=3) O O (PA OL O O O ii.c8 (by simp)) ?_;rintro w11 ⟨bA,bu⟩;refine⟨ko.kp.trans (bu.NR λi e=> .inl e),?_⟩;have rS:Kp (λi=>i=b8\/i=b4\/i=b9) w10 w11:=ko.kp.trans (bu.NR λi e=> .inl e);have Jr:=bu.ND ii.c4 (λe=>hd.2.2.2.2.2.2.2.2.2.1 e.symm);refine qO 4$ Ou (i:=4) O O (PA OL O O O Jr (by simp)) ?_;rintro w12 ⟨bq,aL⟩;refine⟨rS.trans (aL.NR λi e=> .inr (.inl e)),?_⟩;have xL:Kp (λi=>i=b8\/i=b4\/i=b9) w10 w12:=rS.trans (aL.NR λi e=> .inr (.inl e));have Js:=aL.ND (bu.ND ii.c9 (λe=>hd.2.2.2.2.2.2.2.2.2.2.1 e.symm)) (λe=>hd.2.2.2.2.2.2.2.2.2.2.2 e.symm);refine qO 5$ Ou (i:=5) O O (OA (news:=[.slice a1 l.length c1,I (e.2:Int)]) PD O O O O Js (by simp)) ?_;rintro w13 ⟨du,cV⟩;refine⟨xL.trans (cV.NR λi e=> .inr (.inr e)),?_⟩;replace du:NM w13 b9 [.slice a1 l.length c1,I (e.2:Int)] 274:=du;replace bq:NM w12 b4 [I (r:Int)] 3:=bq;replace bA:NM w11 b8 [I (nb:Int)] 3:=bA;refine qE$ Pq func158 O ?_;obtain⟨d1,d2,d3,d4,d5,d6,d7,d8,d9,d10,d11,d12⟩:=hd;have jG:∀{b:Nat} {cs:List Value} {T:TypeId},NM w10.drew b cs T->b8≠b->b4≠b->b9≠b->NM w13 b cs T:=λhB n1 n2 n3=>cV.ND (aL.ND (bu.ND hB (λe=>n1 e.symm)) (λe=>n2 e.symm)) (λe=>n3 e.symm);refine⟨_,rfl,rfl,?_,nb,r,.slice a1 l.length c1,e.2,⟨jG ii.c2 d1 d4 d7,jG ii.c3 d2 d5 d8,jG ii.c7 d3 d6 d9,cV.ND (aL.ND bA d10) d11,cV.ND bq d12,du⟩,.inr ⟨h1,h2,CK,CL,l,e,hl,he,rfl,gW⟩⟩;exact((ad.trans eV).trans ko).kp.trans ((bu.NR λi e=> .inl e).trans ((aL.NR λi e=> .inr (.inl e)).trans (cV.NR λi e=> .inr (.inr e))))
   ·refine An$ Pq func158 O ?_;exact⟨_,rfl,rfl,(ad.trans eV).kp,_,_,_,_,lV,hF⟩
 case di=>
  rcases Nat.lt_or_ge L.length r with aU|jb
  ·have az:=hg;refine O3 [15] (λw'=>Ext w w') (by kernel_rfl) O$ qL [1,2,10,11,12,13,15,16] 0 O (λ_ h=>(NJ UL O O (h.ND eM) O)) az$ qL [2,10,11,12,13,15,16] 1 O (λ_ h=>OQ O) az$ qL [10,11,12,13,15,16] 2 O (λ_ h=>Og Xg O) az$ qL [10,11,12,13,15,16] 3 O (λ_ h=>Oq O) az$ qL [5,10,11,12,13,15,16] 4 O (λ_ h=>(NJ Ob O O (h.ND qr) O)) az$ qL [10,11,12,13,15,16] 5 O (λ_ h=>R7 Ob O) az$ qL [7,8,9,10,11,12,13,15,16] 6 O (λ_ h=>(NJ UL O O (h.ND eM) O)) az$ qL [8,9,10,11,12,13,15,16] 7 O (λ_ h=>OQ O) az$ qL [9,10,11,12,13,15,16] 8 O (λ_ h=>Og VD O) az$ qL [10,11,12,13,15,16] 9 O (λ_ hS=>Oh (news:=TR p) U88 O Qm O (mj (hS.ND h.ND)) O) az$ VT (i:=10) (j:=14) (by kernel_rfl) ?_ ?_
   ·refine Qh (i:=10) O O O (yc z6q O) (Vt (az.ND h.ND) h.len (by omega) hp r succ.length h1 h2 xK) ?_;rintro _ w10 ⟨lS,bE⟩;refine⟨az.trans bE,?_⟩;rw[if_neg (by omega)] at lS;subst lS
    try have cN:=bE.ND cN
    have az:=az.trans bE;refine qL [12,13,15,16] 11 O (λ_ h=>Oq O) az$ qL [15,16] 12 O (λ_ h=>Q8 O O) az$ OS (i:=13) O (by kernel_rfl) O O (λ_=>Q8 O O) az$ PC (i:=14) (by kernel_rfl)$ P4 (i:=14) O O O (Qk (cs:=[_,_]) PD O) ?_;rintro _ w14 ⟨tb,rfl,nV,cE,cN⟩;refine⟨az.trans cE,?_⟩;have kq:w.heap.size<=tb:=by have:=az.size;omega
    have az:=az.trans cE;refine Rs [15]$ qO 15$ Ou (i:=15) O O (OA (news:=[.slice none 0 0,I ((0:Nat):Int)]) PD O O O O cN (by simp)) ?_;rintro w15 ⟨dI,ez⟩;refine⟨trivial,?_⟩;refine NG 16 O (PO O) trivial$ qE ?_;exact(cJ _ _ ⟨tb,.slice none 0 0,0,false,rfl,az.Nv ez (λi e=>by omega),kq,dI,λe=>by cases e⟩).qb
   ·refine P4 (i:=14) O O O (Qk (cs:=[_,_]) PD O) ?_;rintro _ w14 ⟨tb,rfl,nV,cE,cN⟩;refine⟨az.trans cE,?_⟩;have kq:w.heap.size<=tb:=by have:=az.size;omega
    have az:=az.trans cE;refine PC (i:=10) (by kernel_rfl)$ Qh (i:=10) O O O (yc z6q O) (Vt (az.ND h.ND) h.len (by omega) hp r succ.length h1 h2 xK) ?_;rintro _ w10 ⟨lS,bE⟩;refine⟨az.trans bE,?_⟩;rw[if_neg (by omega)] at lS;subst lS
    try have cN:=bE.ND cN
    have az:=az.trans bE;refine qL [12,13,15,16] 11 O (λ_ h=>Oq O) az$ qL [15,16] 12 O (λ_ h=>Q8 O O) az$ OS (i:=13) O (by kernel_rfl) O O (λ_=>Q8 O O) az$ Rs [15]$ qO 15$ Ou (i:=15) O O (OA (news:=[.slice none 0 0,I ((0:Nat):Int)]) PD O O O O cN (by simp)) ?_;rintro w15 ⟨dI,ez⟩;refine⟨trivial,?_⟩;refine NG 16 O (PO O) trivial$ qE ?_;exact(cJ _ _ ⟨tb,.slice none 0 0,0,false,rfl,az.Nv ez (λi e=>by omega),kq,dI,λe=>by cases e⟩).qb
  ·have az:=hg;refine O3 [15] (λw'=>Ext w w') (by kernel_rfl) O$ qL [1,2,10,11,12,13,15,16] 0 O (λ_ h=>(NJ UL O O (h.ND eM) O)) az$ qL [2,10,11,12,13,15,16] 1 O (λ_ h=>OQ O) az$ qL [10,11,12,13,15,16] 2 O (λ_ h=>Og Xg O) az$ qL [10,11,12,13,15,16] 3 O (λ_ h=>Oq O) az$ qL [5,10,11,12,13,15,16] 4 O (λ_ h=>(NJ Ob O O (h.ND qr) O)) az$ qL [10,11,12,13,15,16] 5 O (λ_ h=>R7 Ob O) az$ qL [7,8,9,10,11,12,13,15,16] 6 O (λ_ h=>(NJ UL O O (h.ND eM) O)) az$ qL [8,9,10,11,12,13,15,16] 7 O (λ_ h=>OQ O) az$ qL [9,10,11,12,13,15,16] 8 O (λ_ h=>Og VD O) az$ qL [10,11,12,13,15,16] 9 O (λ_ hS=>Oh (news:=TR p) U88 O Qm O (mj (hS.ND h.ND)) O) az$ VT (i:=10) (j:=14) (by kernel_rfl) ?_ ?_
   ·refine Qh (i:=10) O O O (yc z6q O) (Vt (az.ND h.ND) h.len (by omega) hp r succ.length h1 h2 xK) ?_;rintro _ w10 ⟨lS,bE⟩;refine⟨az.trans bE,?_⟩;rw[if_pos jb] at lS;subst lS
    try have cN:=bE.ND cN
    have az:=az.trans bE;refine qL [12,13,15,16] 11 O (λ_ h=>Oq O) az$ qL [15,16] 12 O (λ_ h=>Q8 O O) az$ OS (i:=13) O (by kernel_rfl) O O (λ_=>Q8 O O) az$ PC (i:=14) (by kernel_rfl)$ P4 (i:=14) O O O (Qk (cs:=[_,_]) PD O) ?_;rintro _ w14 ⟨tb,rfl,nV,cE,cN⟩;refine⟨az.trans cE,?_⟩;have kq:w.heap.size<=tb:=by have:=az.size;omega
    have az:=az.trans cE;refine Rs [15]$ qO 15$ Ou (i:=15) O O (OA (news:=[.slice a1 m1 c1,I ((e1:Nat):Int)]) PD O O O O cN (by simp)) ?_;rintro w15 ⟨dI,ez⟩;refine⟨trivial,?_⟩;refine NG 16 O (PO O) trivial$ qE ?_;exact(cJ _ _ ⟨tb,.slice a1 m1 c1,e1,SF p m1 succ.length e1,rfl,az.Nv ez (λi e=>by omega),kq,dI,λe=>⟨jb,rfl,rfl,e⟩⟩).qb
   ·refine P4 (i:=14) O O O (Qk (cs:=[_,_]) PD O) ?_;rintro _ w14 ⟨tb,rfl,nV,cE,cN⟩;refine⟨az.trans cE,?_⟩;have kq:w.heap.size<=tb:=by have:=az.size;omega
    have az:=az.trans cE;refine PC (i:=10) (by kernel_rfl)$ Qh (i:=10) O O O (yc z6q O) (Vt (az.ND h.ND) h.len (by omega) hp r succ.length h1 h2 xK) ?_;rintro _ w10 ⟨lS,bE⟩;refine⟨az.trans bE,?_⟩;rw[if_pos jb] at lS;subst lS
    try have cN:=bE.ND cN
    have az:=az.trans bE;refine qL [12,13,15,16] 11 O (λ_ h=>Oq O) az$ qL [15,16] 12 O (λ_ h=>Q8 O O) az$ OS (i:=13) O (by kernel_rfl) O O (λ_=>Q8 O O) az$ Rs [15]$ qO 15$ Ou (i:=15) O O (OA (news:=[.slice a1 m1 c1,I ((e1:Nat):Int)]) PD O O O O cN (by simp)) ?_;rintro w15 ⟨dI,ez⟩;refine⟨trivial,?_⟩;refine NG 16 O (PO O) trivial$ qE ?_;exact(cJ _ _ ⟨tb,.slice a1 m1 c1,e1,SF p m1 succ.length e1,rfl,az.Nv ez (λi e=>by omega),kq,dI,λe=>⟨jb,rfl,rfl,e⟩⟩).qb
def Pr (L:List (List Nat))(n r:Nat):List Nat:=if r=0 then [] else(L[n-r]?).getD []
def YM (p:Pa)(L:List (List Nat))(E:List (Nat×Nat))(n size:Nat)(e:Nat×Nat):Prop:=
 e=(0,0)\/(1<=e.1/\e.1<=p.O6/\e.1<=n/\∃l e',L[n-e.1]? =some l/\E[n-e.1]? =some e'/\e.2=e'.2+1/\SF p l.length size e'.2=true)
theorem zdp {j n:Nat}(h1:j<n)(h2:n+1<=j+17):j%17≠n%17:=by omega
theorem PkM.add {w wA wB wC wD wE wF:World}{k:Nat}{p:Pa}{L:List (List Nat)}{E:List (Nat×Nat)}{bs bs':List Bool}{F F':Nat->Prop}{R:List (Value×Nat)}{wp ed b4:Nat}(h:PkM w k p L E bs F R wp ed)(ll:Ext w wA)(jg:Kp F wA wB)(AS:Xk wB wp bs' F')(qs:∀i,F' i->F i\/wA.heap.size<=i)
  {a':Option Addr} {cp' ch r:Nat} {succ:List Nat} (hs:Ov succ) (CP:Ext wB wC) (vM:Sl wC (.slice a' succ.length cp') 46 1 succ.length (succ.map Oe)) (tQ:succ.length<=cp') (cM:∀g,(Value.slice a' succ.length cp').ownBlock=some g->wB.heap.size<=g)
  (fN:Kp (λi=>i=k) wC wD) (po:Kp (λi=>i=k) wD wE) (tR:Kp (λi=>i=b4) wE wF) (ev:w.heap.size<=b4) (Jt:b4<wA.heap.size) (CQ:NM wF k (WB p (R.set (L.length%17) (.slice a' succ.length cp',ch)) (L.length+1) wp (ed+succ.length)) 279):
  PkM wF k p (L++[succ]) (E++[(r,ch)]) bs' F' (R.set (L.length%17) (.slice a' succ.length cp',ch)) wp (ed+succ.length)/\Kp (λi=>F i\/i=k) w wF/\∀i,F' i->F i\/w.heap.size<=i:=by
 have lk:=h.ND.lt
 have zA:=ll.size
 have zB:=jg.size
 have jW:∀i,F i->i<w.heap.size:=λi hi=>h.wr.lt hi
 have nZ:∀i,F' i->i<wB.heap.size:=λi hi=>AS.lt hi
 have tS:¬F' k:=λe=>by rcases qs k e with e|e;exact h.nk e;omega
 have CR:¬F' b4:=λe=>by rcases qs b4 e with e|e;(have:=jW _ e;omega);omega
 have CS:∀{v:Value} {n:Nat} {cs:List Value},Sl w v 46 1 n cs->(∀g,v.ownBlock=some g->¬F g/\g≠k)->Sl wF v 46 1 n cs:=λhS hg=>
  ((((((hS.ext ll).kp jg (λg e=>(hg g e).1)).ext CP).kp fN (λg e=>(hg g e).2)).kp po (λg e=>(hg g e).2)).kp tR (λg e e'=>by have:=hS.lt e;omega))
 have Ju:=((vM.kp fN (λg e e'=>by have:=cM g e;omega)).kp po (λg e e'=>by have:=cM g e;omega)).kp tR (λg e e'=>by have:=cM g e;omega)
 refine⟨⟨by rw[List.length_append,List.length_singleton];exact CQ,by rw[List.length_set];exact h.len,(((AS.ext CP).kp fN (λi hi e=>tS (e▸hi))).kp po (λi hi e=>tS (e▸hi))).kp tR (λi hi e=>CR (e▸hi)),tS,by rw[List.length_append,List.length_append,h.el];rfl,λl hl=>?_,λj l e h1 h2 h3=>?_⟩,?_,λi hi=>?_⟩
 ·rcases List.mem_append.1 hl with hl|hl
  ·exact h.ok l hl
  ·rw[List.mem_singleton.1 hl];exact hs
 ·rw[List.length_append,List.length_singleton] at h3;rcases Nat.lt_or_ge j L.length with hj|hj
  ·rw[List.getElem?_append_left hj] at h1;rw[List.getElem?_append_left (by rw[h.el];exact hj)] at h2;obtain⟨a,cp,g1,g2,g3,g4⟩:=h.ring j l e h1 h2 (by omega);refine⟨a,cp,?_,g2,CS g3 g4,λg hg=>⟨λe'=>?_,(g4 g hg).2⟩⟩
   ·rw[List.getElem?_set_ne (λe'=>zdp hj (by omega) e'.symm)];exact g1
   ·rcases qs g e' with e'|e'
    ·exact(g4 g hg).1 e'
    ·have:=g3.lt hg;omega
  ·have CT:=(List.getElem?_eq_some_iff.1 h1).1;rw[List.length_append,List.length_singleton] at CT;have ej:j=L.length:=by omega
   subst ej;rw[List.getElem?_append_right (Nat.le_refl _),Nat.sub_self,List.getElem?_cons_zero] at h1;rw[List.getElem?_append_right (by rw[h.el];exact Nat.le_refl _),h.el,Nat.sub_self,List.getElem?_cons_zero] at h2;cases h1;cases h2;refine⟨a',cp',List.getElem?_set_self (by rw[h.len];exact Nat.mod_lt _ (by decide)),tQ,Ju,λg hg=>⟨λe'=>?_,λe'=>?_⟩⟩
   ·have:=cM g hg;have:=nZ g e';omega
   ·have:=cM g hg;omega
 ·exact((((ll.kp.trans (jg.NR λi e=> .inl e)).trans CP.kp).trans (fN.NR λi e=> .inr e)).trans (po.NR λi e=> .inr e)).Nv tR (λi e=> .inl (by omega))
 ·rcases qs i hi with e| e
  ·exact .inl e
  ·exact .inr (by omega)
theorem z8u {w:World}{k:Nat}{p:Pa}(hp:p.Pk){L:List (List Nat)}{E:List (Nat×Nat)}{bs:List Bool}{F:Nat->Prop}{R:List (Value×Nat)}{wp ed:Nat}(h:PkM w k p L E bs F R wp ed)(hG:NM w 0 (QX .gamma) 260)(hU:NM w 1 (QX .unary) 260)(hL:L.length<65536)
  {a:Option Addr} {cp:Nat} {succ:List Nat} (hs:Ov succ) (ld:succ.length<=cp) (dU:Rd w (.slice a succ.length cp) 1 succ.length (succ.map Oe)) (AU:ed+succ.length<=1048576) (Jv:∀g,0<succ.length->(Value.slice a succ.length cp).ownBlock=some g->¬F g/\g≠k)
  (o3:∀r,r<=p.O6->bs.length+(O5 (Qg p.list L.length succ (Pr L L.length r) r)).length<=134217728):
  Oa prog 118 [ptr k 0,.slice a succ.length cp] w λu w'=>∃(r least ch:Nat) (F':Nat->Prop) (R':List (Value×Nat)),u= .tuple #[I (r:Int),I (least:Int),I 0]/\YM p L E L.length succ.length (r,ch)/\
   PkM w' k p (L++[succ]) (E++[(r,ch)]) (bs++O5 (Qg p.list L.length succ (Pr L L.length r) r)) F' R' wp (ed+succ.length)/\Kp (λi=>F i\/i=k) w w'/\∀i,F' i->F i\/w.heap.size<=i:=by
 have xJ:p.O6<=16:=hp.1.1
 have lk:=h.ND.lt
 have mj:∀{w2:World},NM w2 k (WB p R L.length wp ed) 279->∀j u,(TR p)[j]? =some u->w2.cell? ⟨k,0+j,none⟩=some u:=λhB j u hj=>hB.cells (i:=0) (n:=5) (news:=TR p) O j u hj
 refine Nu (e:=[(0,_),(1,_)]) func118 O ntmps118 O O$ qN O$ NK O O (PW O (cs:=[ptr k 0]) O) ?_
 rintro _ w1 ⟨b2,rfl,bQ,ad,am⟩
 refine NK O O (PW O (cs:=[.slice a succ.length cp]) O) ?_
 rintro _ w2 ⟨b3,rfl,dF,ag,ar⟩
 refine NK O O (Qk (cs:=[_]) OL O) ?_
 rintro _ w3 ⟨b4,rfl,ev,ah,aH⟩
 have z1:=ad.size
 have z2:=ag.size
 have z3:=ah.size
 have lb2:=am.lt
 have lb3:=ar.lt
 have lb4:=aH.lt
 have cI:=(ad.trans ag).trans ah
 have cX:=ah.ND (ag.ND am)
 have eP:=ah.ND ar
 have nY:=cI.ND h.ND
 replace aH:NM w3 b4 [I ((0:Nat):Int)] 3:=aH
 refine NQ O$ NF O$ py$ Nw$ qN O$ qV ((NJ UL O O cX O))$ qV (OP UL O O)$ NF O$ It O$ qN O$ qV ((NJ UL O O cX O))$ O8 O$ NO Xg O$ NO TD O ?_
 refine qV (NJ U3 O O nY (z5a h.len))$ RN O O$ Ox$ NF O$ It O$ An$ Ny$ qN O$ qV ((NJ UL O O cX O))$ O8 O$ NO Xg O$ NO TD O$ qV (NJ U3 O O nY (z5a h.len))$ NK O O (Qk (cs:=[_]) OL O) ?_
 rintro _ w4 ⟨b7,rfl,kO,aB,bj⟩
 have z4:=aB.size
 have lb7:=bj.lt
 refine NP O (PA OL O O O bj (by simp)) ?_
 rintro w5 ⟨mg,ai⟩
 replace mg:NM w5 b7 [I (L.length:Int)] 3:=mg
 have cn:Ext w3 w5:=aB.Nv ai (λi e=>by omega)
 have bM:=cI.trans cn
 have z5:=cn.size
 have z45:=ai.size
 have xM:=bM.ND h.ND
 have dX:=cn.ND cX
 have db:=cn.ND eP
 have aN:=cn.ND aH
 have cw:=Ext.NY w5
 refine NB$ py$ Oy (λe' w'=>∃b8 least,e'=[(2,ptr b2 0),(3,ptr b3 0),(4,ptr b4 0),(7,ptr b7 0),(8,ptr b8 0),(6,I 0)]/\Ext w5 w'/\w5.heap.size<=b8/\NM w' b8 [I ((least:Nat):Int)] 3) ?cJ$ λcJ=>?di
 case cJ =>
  rintro e' w6 ⟨b8,least0,rfl,aK,jE,ck⟩;have z6:=aK.size;have lb8:=ck.lt;have iI:=bM.trans aK;have CU:=aK.ND xM;have jd:=aK.ND dX;have lP:=aK.ND db;have dq:=Ext.NY w6;refine py$ Nw$ qN O$ Nz O$ P3 O O$ NF O$ It O$ py$ PK (λw'=>Ext w6 w') O$ qT 0 O (λ_ h=>(NJ UL O O (h.ND jd) O)) dq$ NG 1 O (OQ O) dq$ NG 2 O (Og z1K O) dq$ qT 4 O (λ_ h=>(NJ Ob O O (h.ND lP) O)) dq$ NG 5 O (R7 Ob O) dq ?_;refine qT 3 O (λ_ hS=>NJ U3 O O (hS.ND CU) (zhF h.len)) dq$ NG 6 O (SX O O (by omega)) dq$ NG 7 O (VP O O) dq$ S4$ NG 8 O (PO O) dq$ qE$ It O$ An$ Ny$ qN O ?_;have zg6:=dq.size;refine NK O O (Qk (cs:=[_,_]) PD O) ?_;rintro _ w7 ⟨b9,rfl,mS,bV,cB⟩;have lb9:=cB.lt;have dv:=dq.trans bV;have jY:=iI.trans dv;have qt:=aK.trans dv;have z7:=jY.size;have z67:=dv.size;have CV:=jY.ND h.ND;have AG:AdM w7 k b2 b3 b7 b8 b4 b9 a succ.length cp L.length least0 0 (.slice none 0 0) 0:=⟨dv.ND jd,dv.ND lP,qt.ND mg,dv.ND ck,qt.ND aN,cB⟩;have hd:b8≠b2/\b8≠b3/\b8≠b7/\b4≠b2/\b4≠b3/\b4≠b7/\b9≠b2/\b9≠b3/\b9≠b7/\b8≠b4/\b8≠b9/\b4≠b9:=by omega
  refine qM O$ qV (ymf (first:=[]) (caps:=[.tmp 2,.tmp 3,.tmp 7,.tmp 8,.tmp 4,.tmp 9]) O O)$ NF O$ py$ qN O ?_;have CW:=AG.c2;refine qV (NJ UL O O CW O)$ O8 O$ NO VD O$ NO z0d O$ qV (NJ U3 O O CV O)$ Nz O$ NB$ Of.qb (e:=[(2,_),(3,_),(4,_),(6,_),(7,_),(8,_),(9,_),(10,_),(58,_),(59,_)]) ?_;refine Nw$ Qb (α:=Nat) (0) (λi=>[(2,ptr b2 0),(3,ptr b3 0),(4,ptr b4 0),(7,ptr b7 0),(8,ptr b8 0),(9,ptr b9 0),(10,.func (.func 158) #[] #[ptr b2 0,ptr b3 0,ptr b7 0,ptr b8 0,ptr b4 0,ptr b9 0]),(58,I (p.O6:Int)),(59,I (i:Int))]) (λi w'=>Ext w w'/\w7.heap.size<=w'.heap.size/\i<=p.O6/\∃least ref v c,AdM w' k b2 b3 b7 b8 b4 b9 a succ.length cp L.length least ref v c/\Found p L E R succ.length ref v c) (λi=>p.O6-i) ?hI ?hround
  case hI=>exact⟨jY,Nat.le_refl _,Nat.zero_le _,_,_,_,_,AG,.inl ⟨rfl,rfl,rfl⟩⟩
  case hround=>
   rintro i wA ⟨ll,MM,hi,least,ref,v,c,hA,hF⟩ ih
   try dsimp only
   refine qN O$ Pb O O$ NB$ py$ NN O (λh0=>?_)$ λh0=>?_
   ·refine An$ py$ Nw$ qN O$ Nz O$ NF O$ NC O$ NT O O$ OI O O ?_;rw[show(i:Int)+1=((i+1:Nat):Int) by omega];refine Pv O O (QH zhj O O) (zaU hp (h.ext ll) (ll.ND hG) (ll.ND hU) hL hs ld (dU.ext ll) hA hF hd (i+1) (by omega) (by omega)) ?_;rintro _ w9 ⟨rfl,aS,least',ref',v',c',rI,Jw⟩;have z9:=aS.size;refine NB$ Ny$ NC O$ OI O O$ Nz O$ NB ?_;exact(ih (i+1) _ ⟨ll.Nv aS (λi hi=>by omega),by omega,by omega,_,_,_,_,rI,Jw⟩ (by omega)).qb
   ·have j4:∀b,w.heap.size<=b->¬F b:=λb hb e=>by have:=h.wr.lt e;omega
    have tT:=ll.ND h.ND
    have BL:ref<=p.O6/\(ref=0->Pr L L.length ref=[])/\Ov (Pr L L.length ref)/\(∃va vc,v= .slice va (Pr L L.length ref).length vc/\(Pr L L.length ref).length<=vc/\Rd wA (.slice va (Pr L L.length ref).length vc) 1 (Pr L L.length ref).length ((Pr L L.length ref).map Oe))/\YM p L E L.length succ.length (ref,if 0<ref then c+1 else 0)/\c<=65536:=by
     rcases hF with⟨rfl,rfl,rfl⟩|⟨f1,f2,f3,f4,l,e,f5,f6,rfl,f8⟩
     ·refine⟨Nat.zero_le _,λ_=>rfl,⟨List.Pairwise.nil,λy h=>(by cases h)⟩,⟨none,0,rfl,Nat.zero_le _,U1⟩,.inl rfl,Nat.zero_le _⟩
     ·have jM:Pr L L.length ref=l:=by unfold Pr;rw[if_neg (by omega),f5];rfl
      obtain⟨va,vc,g1,g2,g3,g4⟩:=h.ring _ l e f5 f6 (by omega);rw[f4] at g1;have gv:v= .slice va l.length vc:=(Prod.mk.inj (Pz g1)).1;have hb:=of_decide_eq_true f8;have Jy:=hp.2.1;rw[jM];exact⟨f2,λe=>by omega,h.ok l (List.mem_of_getElem? f5),⟨va,vc,gv,g2,(g3.ext ll).rd⟩,.inr ⟨f1,f2,f3,l,e,f5,f6,by dsimp only;rw[if_pos (by omega)],f8⟩,by omega⟩
    obtain⟨df,dV,cg,⟨va,vc,rfl,bK,cf⟩,hC,Jz⟩:=BL;have CX:=o3 ref df
    generalize CY:Pr L L.length ref=lr at dV cg bK cf CX hA
    have pS:=hA.c2;have vH:=hA.c3;have CZ:=hA.c7;have xN:=hA.c9;have xO:=hA.c4;have D2:=hA.c8;have kr:=Ext.NY wA;refine NL O$ py$ py$ PK (λw'=>Kp F wA w') O$ qT 0 O (λ_ hS=>(NJ UL O O (hS.ND pS (j4 _ (by omega))) O)) (kr.kp)$ NG 1 O (OQ O) (kr.kp)$ NG 2 O (Og z1V O) (kr.kp)$ qT 4 O (λ_ hS=>(NJ U3 O O (hS.ND CZ (j4 _ (by omega))) O)) (kr.kp)$ qT 5 O (λ_ hS=>(NJ Ob O O (hS.ND vH (j4 _ (by omega))) O)) (kr.kp)$ NG 6 O (Og R5 O) (kr.kp)$ qT 7 O (λ_ hS=>(NJ Ob O O (hS.ND xN (j4 _ (by omega))) O)) (kr.kp)$ qT 8 O (λ_ hS=>(NJ U3 O O (hS.ND xO (j4 _ (by omega))) O)) (kr.kp)$ qT 9 O (λ_ hS=>(NJ UL O O (hS.ND pS (j4 _ (by omega))) O)) (kr.kp)$ NG 10 O (OQ O) (kr.kp) ?_;refine NG 11 O (Og VD O) (kr.kp)$ qT 3 O (λ_ hS=>NJ z1E O O (hS.ND tT h.nk) (zdJ h.len)) (kr.kp)$ qT 12 O (λ_ hS=>Oh (news:=TR p) U88 O Qm O (mj (hS.ND tT h.nk)) O) (kr.kp)$ Qv 13 O Zg O (Rv p _) ?_;rintro _ w9 ⟨rfl,dE⟩;refine⟨(kr.trans dE).kp,?_⟩;have mm:=kr.trans dE;have gy:=ll.trans mm;refine Qv 14 O zcO O (Yn (h.wr.ext gy) p.list hp.1 L.length hL succ lr hs cg ref df dV (gy.ND hG) (gy.ND hU) (dU.ext gy) (cf.ext mm) ld bK CX) ?_;rintro _ wB ⟨rfl,F',AS,jg,qs⟩;refine⟨mm.kp.trans jg,?_⟩;have iJ:Kp F wA wB:=mm.kp.trans jg;have D3:∀i,F' i->F i\/wA.heap.size<=i:=λi hi=>(qs i hi).imp id (λe=>by have:=mm.size;omega);have xP:=iJ.ND xO (j4 _ (by omega));have D4:=iJ.ND xN (j4 _ (by omega));have xQ:=iJ.ND pS (j4 _ (by omega));have xR:=iJ.ND vH (j4 _ (by omega));have D5:=iJ.ND D2 (j4 _ (by omega));have D6:=iJ.ND tT h.nk;have zAB:=iJ.size;have D7:Rd wB (.slice a succ.length cp) 1 succ.length (succ.map Oe):=(dU.ext ll).kpz iJ (λh0 g hg=>(Jv g h0 hg).1);refine NG 15 O (PO O) (mm.kp.trans jg)$ qE$ Of.qb (e:=[(2,_),(3,_),(4,_),(8,_),(9,_),(12,_)]) ?_;refine qN O$ Nz O$ P3 O O$ NB$ It O$ An$ qN O$ NF O$ py$ qN O$ qV ((NJ U3 O O xP O))$ P9 O O$ NB$ Oy (λe' w'=>e'=[(2,ptr b2 0),(3,ptr b3 0),(4,ptr b4 0),(8,ptr b8 0),(13,I ((if 0<ref then c+1 else 0:Nat):Int))]/\w'=wB) ?az$ λaz=>?eu
    case az=>
     rintro e' wB' ⟨rfl,rfl⟩
     generalize (if 0<ref then c+1 else 0)=ch at hC
     have qu:=Ext.NY wB';have AV:∀i,i<wB'.heap.size->¬(Value.slice none 0 0).ownBlock=some i:=λi _ e=>by cases e
     refine py$ PK (λw'=>Kp (λi=>i=k) wB' w') O$ qT 0 O (λ_ hS=>(NJ UL O O (hS.ND xQ (by omega)) O)) (qu.kp)$ NG 1 O (OQ O) (qu.kp)$ NG 2 O (Og Xg O) (qu.kp)$ qT 3 O (λ_ hS=>(NJ Ob O O (hS.ND xR (by omega)) O)) (qu.kp)$ NX 5 O O (qu.kp)$ qO 4$ QO (i:=4) O O O (pap Ob NV O (by decide) O O (Sl.nil _ _ _) (D7.ext qu) (z1v _) (by omega) (by simp only[maxLen];omega)) ?_;rintro v' wC ⟨vM,jI,JA,-⟩;refine⟨qu.kp.trans (jI.NR λi e=>by cases e),?_⟩;have ku:Ext wB' wC:=qu.trans ((Ext.refl _).Nv jI (λi e=>by cases e));rw[Nat.zero_add,List.nil_append] at vM;obtain⟨a',cp',rfl,-⟩:=vM.rd.shape
     have tQ:succ.length<=cp':=by
      rcases vM.shape with⟨e,h0⟩|⟨g,c1,hv,dH⟩
      ·omega
      ·cases hv;exact dH
     have xS:∀g,(Value.slice a' succ.length cp').ownBlock=some g->wB'.heap.size<=g:=λg hg=>by
      rcases JA g hg with e| e
      ·cases e
      ·have:=qu.size;omega
     have D8:=ku.ND D6;refine Qv 6 O zgI O (zac D8 h.len (by omega) a' succ.length cp' ch) ?_;rintro _ wD ⟨rfl,Hd,fN⟩;refine⟨ku.kp.trans fN,?_⟩;have cA:(R.set (L.length%17) (.slice a' succ.length cp',ch)).length=17:=by rw[List.length_set];exact h.len
     have D9:=fN.ND (ku.ND xQ) (by omega);have Da:=fN.ND (ku.ND xR) (by omega);have Db:=fN.ND (ku.ND xP) (by omega);have Dc:=fN.ND (ku.ND D5) (by omega);have o4:=Ext.NY wD;refine qE$ py$ O3 [9] (λw'=>Ext wD w') (by kernel_rfl) O$ qL [1,2,3,6,7,8,9] 0 O (λ_ h=>(NJ UL O O (h.ND D9) O)) o4$ qL [2,3,6,7,8,9] 1 O (λ_ h=>OQ O) o4$ qL [3,6,7,8,9] 2 O (λ_ h=>Og z1K O) o4$ qL [5,6,7,8,9] 4 O (λ_ h=>(NJ Ob O O (h.ND Da) O)) o4$ qL [6,7,8,9] 5 O (λ_ h=>R7 Ob O) o4$ qL [6,7,8,9] 3 O (λ_ h=>NJ U3 O O (h.ND Hd) (zhF cA)) o4$ qL [7,8,9] 6 O (λ_ h=>SX O O (by omega)) o4$ qL [8,9] 7 O (λ_ h=>OQ O) o4$ qL [9] 8 O (λ_ h=>Og z1K O) o4$ Rs [9]$ qO 9 ?_;refine Ou (i:=9) O O (PA OL O O O (o4.ND Hd) (by rw[z5j cA];decide)) ?_;rintro wE ⟨AW,Dd⟩;refine⟨trivial,?_⟩;replace AW:NM wE k ((WB p (R.set (L.length%17) (.slice a' succ.length cp',ch)) (L.length+1) wp ed).set 41 (I ((ed+succ.length:Nat):Int))) 279:=AW;rw[zc2 cA] at AW;have po:Kp (λi=>i=k) wD wE:=o4.kp.trans Dd;have tU:=po.ND Db (by omega);have De:=po.ND Dc (by omega);have qv:=Ext.NY wE;refine qE$ py$ PK (λw'=>Kp (λi=>i=b4) wE w'/\NM w' b4 [I (ref:Int)] 3) O$ qT 0 O (λ_ h=>(NJ U3 O O h.2 O)) (⟨qv.kp,qv.ND tU⟩)$ qT 1 O (λ_ hS=>(NJ U3 O O (hS.1.ND De (by omega)) O)) (⟨qv.kp,qv.ND tU⟩)$ qO 2$ Ou (i:=2) O O (PA OL O O O (qv.ND tU) (by simp)) ?_;rintro wF ⟨mn,qw⟩;refine⟨⟨qv.kp.trans qw,mn⟩,?_⟩;replace mn:NM wF b4 [I (ref:Int)] 3:=mn;have tR:Kp (λi=>i=b4) wE wF:=qv.kp.trans qw;have CQ:=tR.ND AW (by omega);refine NG 3 O (PO O) (⟨qv.kp.trans qw,mn⟩)$ NG 4 O (PO O) (⟨qv.kp.trans qw,mn⟩)$ qE$ Of.qb (e:=[(4,_),(5,_),(6,_)]) ?_;refine O9 func118 (.cell1 U3 O O ((mn).cell _) (.tmp O (.tmp O .nil))) ?_;obtain⟨q1,q2,q3⟩:=h.add (r:=ref) ll iJ AS D3 hs ku vM tQ xS fN po tR (by omega) (by omega) CQ;exact⟨_,rfl,ref,least,ch,F',_,rfl,hC,by rw[CY];exact q1,q2,q3⟩
    case eu=>
     refine NN O (λh5=>?_)$ λh5=>?_
     ·refine NC O$ NO z1y O$ qV (NJ U3 O O D4 O)$ OI O O$ NF O ?_;rw[show(c:Int)+1=((if 0<ref then c+1 else 0:Nat):Int) by rw[if_pos (by omega)];omega];exact(az _ _ ⟨rfl,rfl⟩).qb
     ·refine An ?_;have jn:(if 0<ref then c+1 else 0)=0:=if_neg (by omega);exact(az _ _ ⟨by rw[jn],rfl⟩).qb
 case di=>
  have az:=cw;refine O3 [12] (λw'=>Ext w5 w') (by kernel_rfl) O$ qL [7,8,9,10,12,13] 0 O (λ_ h=>(NJ U3 O O (h.ND mg) O)) az$ qL [7,8,9,10,12,13] 1 O (λ_ h=>(NJ Ob O O (h.ND db) O)) az$ qL [3,4,5,6,7,8,9,10,12,13] 2 O (λ_ h=>(NJ UL O O (h.ND dX) O)) az$ qL [4,5,6,7,8,9,10,12,13] 3 O (λ_ h=>OQ O) az$ qL [5,6,7,8,9,10,12,13] 4 O (λ_ h=>Og VD O) az$ qL [6,7,8,9,10,12,13] 5 O (λ_ h=>Oh (news:=TR p) U88 O Qm O (mj (h.ND xM)) O) az$ VT (i:=6) (j:=11) (by kernel_rfl) ?_ ?_
  ·refine Qh (i:=6) O O O (yc Zg O) (Rv p _) ?_;rintro _ w6 ⟨rfl,aK⟩;refine⟨az.trans aK,?_⟩
   try have bA:=aK.ND bA
   have az:=az.trans aK;refine VT (i:=7) (j:=11) (by kernel_rfl) ?_ ?_
   ·refine Qh (i:=7) O O O (yc z3f O) (TU p.list hp.1 L.length hL succ [] hs ⟨List.Pairwise.nil,λy h=>(by cases h)⟩ 0 (Nat.zero_le _) (λ_=>rfl) ((bM.trans az).ND hG) ((bM.trans az).ND hU) (dU.ext (bM.trans az)) U1 ld (Nat.zero_le _)) ?_;rintro _ w7 ⟨rfl,bV⟩;refine⟨az.trans bV,?_⟩
    try have bA:=bV.ND bA
    have az:=az.trans bV;refine qL [9,10,12,13] 8 O (λ_ h=>Oq O) az$ qL [12,13] 9 O (λ_ h=>Q8 O O) az$ OS (i:=10) O (by kernel_rfl) O O (λ_=>Q8 O O) az$ PC (i:=11) (by kernel_rfl)$ P4 (i:=11) O O O (Qk (cs:=[_]) OL O) ?_;rintro _ w11 ⟨b8,rfl,jf,aQ,bA⟩;refine⟨az.trans aQ,?_⟩;have o5:w5.heap.size<=b8:=by have:=az.size;omega
    have az:=az.trans aQ;refine Rs [12]$ qO 12$ Ou (i:=12) O O (PA OL O O O bA (by simp)) ?_;rintro w12 ⟨bq,aL⟩;refine⟨trivial,?_⟩;refine NG 13 O (PO O) trivial$ qE$ Of.qb (e:=[(2,_),(3,_),(4,_),(5,_),(6,_),(7,_),(8,_)]) ?_;exact(cJ _ _ ⟨b8,_,rfl,az.Nv aL (λi e=>by omega),o5,bq⟩).qb
   ·refine P4 (i:=11) O O O (Qk (cs:=[_]) OL O) ?_;rintro _ w11 ⟨b8,rfl,jf,aQ,bA⟩;refine⟨az.trans aQ,?_⟩;have o5:w5.heap.size<=b8:=by have:=az.size;omega
    have az:=az.trans aQ;refine PC (i:=7) (by kernel_rfl)$ Qh (i:=7) O O O (yc z3f O) (TU p.list hp.1 L.length hL succ [] hs ⟨List.Pairwise.nil,λy h=>(by cases h)⟩ 0 (Nat.zero_le _) (λ_=>rfl) ((bM.trans az).ND hG) ((bM.trans az).ND hU) (dU.ext (bM.trans az)) U1 ld (Nat.zero_le _)) ?_;rintro _ w7 ⟨rfl,bV⟩;refine⟨az.trans bV,?_⟩
    try have bA:=bV.ND bA
    have az:=az.trans bV;refine qL [9,10,12,13] 8 O (λ_ h=>Oq O) az$ qL [12,13] 9 O (λ_ h=>Q8 O O) az$ OS (i:=10) O (by kernel_rfl) O O (λ_=>Q8 O O) az$ Rs [12]$ qO 12$ Ou (i:=12) O O (PA OL O O O bA (by simp)) ?_;rintro w12 ⟨bq,aL⟩;refine⟨trivial,?_⟩;refine NG 13 O (PO O) trivial$ qE$ Of.qb (e:=[(2,_),(3,_),(4,_),(5,_),(6,_),(7,_),(8,_)]) ?_;exact(cJ _ _ ⟨b8,_,rfl,az.Nv aL (λi e=>by omega),o5,bq⟩).qb
  ·refine P4 (i:=11) O O O (Qk (cs:=[_]) OL O) ?_;rintro _ w11 ⟨b8,rfl,jf,aQ,bA⟩;refine⟨az.trans aQ,?_⟩;have o5:w5.heap.size<=b8:=by have:=az.size;omega
   have az:=az.trans aQ;refine PC (i:=6) (by kernel_rfl)$ Qh (i:=6) O O O (yc Zg O) (Rv p _) ?_;rintro _ w6 ⟨rfl,aK⟩;refine⟨az.trans aK,?_⟩
   try have bA:=aK.ND bA
   have az:=az.trans aK;refine PC (i:=7) (by kernel_rfl)$ Qh (i:=7) O O O (yc z3f O) (TU p.list hp.1 L.length hL succ [] hs ⟨List.Pairwise.nil,λy h=>(by cases h)⟩ 0 (Nat.zero_le _) (λ_=>rfl) ((bM.trans az).ND hG) ((bM.trans az).ND hU) (dU.ext (bM.trans az)) U1 ld (Nat.zero_le _)) ?_;rintro _ w7 ⟨rfl,bV⟩;refine⟨az.trans bV,?_⟩
   try have bA:=bV.ND bA
   have az:=az.trans bV;refine qL [9,10,12,13] 8 O (λ_ h=>Oq O) az$ qL [12,13] 9 O (λ_ h=>Q8 O O) az$ OS (i:=10) O (by kernel_rfl) O O (λ_=>Q8 O O) az$ Rs [12]$ qO 12$ Ou (i:=12) O O (PA OL O O O bA (by simp)) ?_;rintro w12 ⟨bq,aL⟩;refine⟨trivial,?_⟩;refine NG 13 O (PO O) trivial$ qE$ Of.qb (e:=[(2,_),(3,_),(4,_),(5,_),(6,_),(7,_),(8,_)]) ?_;exact(cJ _ _ ⟨b8,_,rfl,az.Nv aL (λi e=>by omega),o5,bq⟩).qb
section
variable {w:World}{k:Nat}{p:Pa}{L:List (List Nat)}{E:List (Nat×Nat)}{bs:List Bool}{F:Nat->Prop}{R:List (Value×Nat)}{wp ed:Nat}
theorem z55 (h:PkM w k p L E bs F R wp ed)(hl:bs.length<=9223372036854775):Oa prog 119 [ptr k 0] w λu w'=>u=I (bs.length:Int)/\Ext w w':=by
 refine Nu (e:=[(0,_)]) func119 O ntmps119 O O ?_
 have hg:=Ext.NY w
 refine qN O$ NF O$ py$ qN O$ Nz O$ qV (OP UL O O)$ NB$ It O$ An$ py$ PK (λw'=>Ext w w') O$ NX 0 O O (hg)$ NG 1 O (OQ O) hg$ NG 2 O (Og zaR O) hg ?_
 refine NX 4 O O (hg)$ NG 5 O (OQ O) hg$ NG 6 O (Og z1V O) hg$ qT 3 O (λ_ hS=>NJ U3 O O (hS.ND h.ND) (zik h.len)) hg$ qT 7 O (λ_ hS=>NJ z1E O O (hS.ND h.ND) (zdJ h.len)) hg$ Qv 8 O z0F O (U6 (h.wr.ext hg)) ?_
 rintro _ w1 ⟨rfl,rfl⟩
 refine⟨hg,?_⟩
 refine NG 9 O (SX O O (by omega)) hg$ NG 10 O (PO O) hg$ qE ?_
 rw[show(0:Int)+(bs.length:Int)=(bs.length:Int) by omega]
 refine NA func119 O ?_
 exact⟨_,rfl,rfl,hg⟩
theorem z4D (h:PkM w k p L E bs F R wp ed):Oa prog 120 [ptr k 0] w λu w'=>u= .tuple #[S (Oc bs),I 0]/\w'=w:=by
 refine Nu (e:=[(0,_)]) func120 O ntmps120 O O$ qN O$ NQ O$ NF O$ py$ qN O$ Nz O$ qV (OP UL O O)$ NB$ It O$ An$ qN O$ Nz O$ O8 O ?_
 refine NO z1V O$ qV (NJ z1E O O h.ND (zdJ h.len))$ NZ z6v O (VA h.wr) ?_
 rintro _ w1 ⟨rfl,rfl⟩
 refine ON O O$ ON O O$ NQ O$ NF O$ NA func120 O ?_
 exact⟨_,rfl,rfl,rfl⟩
end
structure GrM (w:World)(v:Value)(g:List (List Nat)):Prop where
 ex:∃vs:List Value,Rd w v 1 g.length vs/\∀(i:Nat) (l:List Nat),g[i]? =some l->∃(a:Option Addr) (c:Nat),vs[i]? =some (Value.slice a l.length c)/\l.length<=c/\Rd w (.slice a l.length c) 1 l.length (l.map Oe)
theorem GrM.ext {w w':World}{v:Value}{g:List (List Nat)}(h:GrM w v g)(hx:Ext w w'):GrM w' v g:=by
 obtain⟨vs,h1,h2⟩:=h.ex
 refine⟨vs,h1.ext hx,λi l hl=>?_⟩
 obtain⟨a,c,g1,g2,g3⟩:=h2 i l hl
 exact⟨a,c,g1,g2,g3.ext hx⟩
structure QQ (g:List (List Nat)):Prop where
 ok:∀l∈g,Ov l
 lt:∀l∈g,∀y∈l,y<g.length
 n:g.length<=60
theorem QQ.len {g:List (List Nat)}(h:QQ g){l:List Nat}(hl:l∈g):l.length<=g.length:=by
 have:=z1t l 0 g.length (h.ok l hl).Yf (λy hy=>⟨Nat.zero_le _,h.lt l hl y hy⟩) (Nat.zero_le _)
 omega
def Ph (g:List (List Nat)):Nat:=(g.map List.length).sum
theorem Wj (g:List (List Nat))(l:List Nat):Ph (g++[l])=Ph g+l.length:=by simp[Ph]
theorem zaf {g:List (List Nat)}{n:Nat}(h:∀l∈g,l.length<=n):Ph g<=g.length*n:=by
 induction g with
 |nil=>simp[Ph]
 | cons l g ih =>
   have h1:=ih (λm hm=>h m (List.mem_cons_of_mem _ hm));have h2:=h l List.mem_cons_self;show(l.length::g.map List.length).sum<=_;rw[List.sum_cons,List.length_cons,Nat.add_mul];have e:Ph g=(g.map List.length).sum:=rfl;omega
theorem St {g:List (List Nat)}(h:QQ g)(i:Nat):Ph (g.take i)<=3600:=by
 have h1:Ph (g.take i)<=(g.take i).length*60:=zaf (λl hl=>by have:=h.len (List.mem_of_mem_take hl);have:=h.n;omega)
 have h2:(g.take i).length<=60:=by rw[List.length_take];have:=h.n;omega
 omega
theorem z2n {w:World}{ga:Option Addr}{gc:Nat}{g:List (List Nat)}(h:GrM w (.slice ga g.length gc) g)(hg:QQ g):Oa prog 117 [.slice ga g.length gc] w λu w'=>u= .bool true/\w'=w:=by
 have hn:=hg.n
 obtain⟨vs,fM,iz⟩:=h.ex
 refine Nu (e:=[(0,_)]) func117 O ntmps117 O O$ qN O$ NQ O$ qM O$ NF O$ py$ qN O$ Nz O$ Q0 SH O$ Nz O$ NB$ Nw$ Qb (α:=Nat) (0) (λi=>[(0,.slice ga g.length gc),(3,I (Ph (g.take i):Int)),(8,.slice ga g.length gc),(9,I (g.length:Int)),(10,I (i:Int))]) (λi w'=>w'=w/\i<=g.length) (λi=>g.length-i) ?hI ?hround
 case hI=>exact⟨rfl,Nat.zero_le _⟩
 case hround =>
  rintro i w4 ⟨rfl,hi⟩ ih;have pw:=St hg i
  try dsimp only
  refine qN O$ Pb O O$ NB$ py$ NN O (λh0=>?_)$ λh0=>?_
  ·have dG:i<g.length:=by omega
   obtain⟨l,hl⟩:∃l,g[i]? =some l:=⟨_,List.getElem?_eq_getElem dG⟩;have gP:=List.mem_of_getElem? hl;have fG:=hg.len gP;obtain⟨a,c,e1,e2,e3⟩:=iz i l hl
   obtain⟨gb,go,gc',e4⟩:∃b o c',Value.slice ga g.length gc= .slice (some ⟨b,o,none⟩) g.length c':=by
    rcases fM.2 with⟨c,hc,h0⟩|⟨b,off,c',hc,-⟩
    ·omega
    ·exact⟨b,off,c',hc⟩
   cases e4;refine An$ py$ Nw$ qN O$ qV (OH SH QC O O (by omega))$ qV (Oi Ob O O (P6 fM e1))$ NQ O$ qM O$ NT O O$ Q0 Ob O$ OI O O$ NQ O$ qM O$ Nz O ?_;refine Q0 Ob O$ Nz O$ NB$ Nw ?_;have AU:=Wj (g.take i) l;rw[<-OB hl] at AU;rw[show(Ph (g.take i):Int)+(l.length:Int)=(Ph (g.take (i+1)):Int) by omega];refine Qb (α:=Nat) (0) (λj=>[(0,.slice (some ⟨gb,go,none⟩) g.length gc),(3,I (Ph (g.take (i+1)):Int)),(5,.slice a l.length c),(8,.slice (some ⟨gb,go,none⟩) g.length gc),(9,I (g.length:Int)),(10,I (i:Int)),(18,.slice a l.length c),(19,I (l.length:Int)),(20,I (j:Int))]) (λj w'=>w'=w4/\j<=l.length) (λj=>l.length-j) ?hI ?hround
   case hI=>exact⟨rfl,Nat.zero_le _⟩
   case hround=>
    rintro j w5 ⟨rfl,hj⟩ ih2
    try dsimp only
    refine qN O$ Pb O O$ NB$ py$ NN O (λh1=>?_)$ λh1=>?_
    ·have kT:j<l.length:=by omega
     obtain⟨y,hy⟩:∃y,l[j]? =some y:=⟨_,List.getElem?_eq_getElem kT⟩;have nw:=hg.lt l gP y (List.mem_of_getElem? hy)
     obtain⟨lb,lo,lc,e5⟩:∃b o c',Value.slice a l.length c= .slice (some ⟨b,o,none⟩) l.length c':=by
      rcases e3.2 with⟨c,hc,h0⟩|⟨b,off,c',hc,-⟩
      ·omega
      ·exact⟨b,off,c',hc⟩
     cases e5;refine An$ py$ Nw$ qN O$ Nz O$ qV (OH Ob NV O O (by omega))$ qV (Oi OX O O (P6 e3 (show(l.map Oe)[j]? =some (Oe y) by rw[List.getElem?_map,hy];rfl))) ?_;refine NQ O$ NQ O$ qM O$ Nz O$ qV (Ow O OX U3 (by omega))$ Nz O$ Q0 SH O$ RN O O$ Ox$ Nz O ?_;rcases Nat.eq_zero_or_pos j with JB|JB
     ·refine Nz O$ P9 O O$ Ox$ Nz O$ qS$ qS$ qS$ qS$ qS$ qS$ qS$ OC O O$ OC O O$ NB ?_;refine It O$ An$ Ny$ NC O$ OI O O$ Nz O$ NB ?_;exact(ih2 (j+1) _ ⟨rfl,by omega⟩ (by omega)).qb
     ·obtain⟨z,hz⟩:∃z,l[j-1]? =some z:=⟨_,List.getElem?_eq_getElem (by omega)⟩
      have MN:z<y:=by
       obtain⟨a1,a2⟩:=List.getElem?_eq_some_iff.1 hz;obtain⟨b1,b2⟩:=List.getElem?_eq_some_iff.1 hy;have:=List.pairwise_iff_getElem.1 (hg.ok l gP).Yf (j-1) j a1 b1 (by omega)
       rwa [a2,b2] at this
      refine Nz O$ P9 O O$ PE$ NT O O$ NT O O$ Qc O O ?_;rw[show(j:Int)-1=((j-1:Nat):Int) by omega];refine qV (OH Ob NV O O (by omega))$ qV (Oi OX O O (P6 e3 (show(l.map Oe)[j-1]? =some (Oe z) by rw[List.getElem?_map,hz];rfl))) ?_;refine zle O O$ Ox$ Pc O O$ OC O O$ NB$ It O$ An$ Ny$ NC O$ OI O O$ Nz O$ NB ?_;exact(ih2 (j+1) _ ⟨rfl,by omega⟩ (by omega)).qb
    ·refine NL O$ Ny$ NC O$ OI O O$ Nz O$ NB ?_;exact(ih (i+1) _ ⟨rfl,by omega⟩ (by omega)).qb
  ·refine NL O$ qN O$ Nz O$ Q0 SH O$ zle O O$ PE$ NT O O$ zle O O$ PE$ Pc O O$ NF O$ NA func117 O ?_;exact⟨_,rfl,rfl,rfl⟩
/-! ### How many bits -/
theorem VW.z1R {k:Nat}{q:Cd×Nat}(h:VW k q)(hk:1<=k/\k<=16):(q.1.enc q.2).length<=112:=by
 obtain⟨h1,h2⟩:=h.Pk hk
 obtain⟨-,q2,-⟩:=Vj h1 h2
 rw[VL]
 rcases h with⟨e,h⟩|⟨e,h⟩|⟨e,h⟩
 ·rw[e] at q2⊢;show q.2+1+_<=_;omega
 ·have:=(Ui (v:=q.2) (by omega)).2.2;rw[e] at q2⊢;show Nat.log2 (q.2+1)+1+_<=_;omega
 ·have h3:=(Ui (v:=q.2) (by omega)).2.2;have h4:Nat.log2 (q.2+1) / k<=Nat.log2 (q.2+1):=Nat.div_le_self _ _;rw[e] at q2⊢;show Nat.log2 (q.2+1) / k+1+_<=_;omega
theorem z0K {n:Nat}{L:List (Cd×Nat)}(h:∀q∈L,(q.1.enc q.2).length<=n):(O5 L).length<=L.length*n:=by
 induction L with
 |nil=>simp[O5]
 | cons q L ih =>
   have h1:=ih (λq hq=>h q (List.mem_cons_of_mem _ hq));have h2:=h q List.mem_cons_self;rw[OU,List.length_append,List.length_cons,Nat.add_mul];omega
theorem z0Z (least:Nat){l:List Nat}(h:Ov l):(OK least l).1.length<=l.length:=by
 have h1:=(Sh least l).length_eq
 rw[List.length_append] at h1
 have h4:∀(R:List (Nat×Nat)) (lo:Nat),Rx least lo R->R.length<=(PJ R).length:=by
  intro R
  induction R with
  |nil=>intro lo h;exact Nat.le_refl _
  | cons q R ih =>
    intro lo h;have h5:=ih _ h.2.2.2;have h6:1<=q.2:=h.2.1;rw[show PJ (q::R)=(List.range q.2).map (q.1+·)++PJ R from rfl,List.length_append,List.length_map,List.length_range,List.length_cons];omega
 have h5:=h4 _ 0 (TG least l 0 h.Yf (λy _=>Nat.zero_le _))
 omega
theorem Yb {p:QB}(hp:p.Pk){x:Nat}(hx:x<65536){succ ref:List Nat}(hs:Ov succ)(hr:Ov ref){r:Nat}(jk:r<=p.O6)(JC:succ.length<=60)(Ay:ref.length<=60):(O5 (Qg p x succ ref r)).length<=44800:=by
 have ay:Ov (Od succ ref):=hs.sub List.filter_sublist
 have fG:(Od succ ref).length<=succ.length:=List.length_filter_le _ _
 have h1:=(RI succ ref).ZD
 rw[List.length_map] at h1
 have h2:=z0Z p.interval ay
 have h3:=(T5 p.interval (Od succ ref)).length_le
 have aA:(Qg p x succ ref r).length<=400:=by
  unfold Qg;rw[List.length_cons];split
  ·simp
  rw[List.length_append,List.length_append];have e1:(if 0<p.O6 then [(Cd.unary,r)] else []).length<=1:=by split<;>simp
  have e2:(if 0<r then(Cd.gamma,(PT succ ref).length-1)::P7 0 (PT succ ref).dropLast else []).length<=62:=by
   split
   ·rw[List.length_cons,RF,List.length_dropLast];omega
   ·simp
  have e3:(if Od succ ref=[] then [] else(if 0<p.interval then(Cd.gamma,(OK p.interval (Od succ ref)).1.length)::OD x p.interval none (OK p.interval (Od succ ref)).1 else [])++OE x p.zeta none (OK p.interval (Od succ ref)).2).length<=200:=by
   split
   ·simp
   ·rw[List.length_append,RZ];split
    ·rw[List.length_cons,R6];omega
    ·simp;omega
  omega
 have:=z0K (n:=112) (L:=Qg p x succ ref r) (λq hq=>(Ze hp hx hs hr jk q hq).z1R ⟨hp.2.2.1,hp.2.2.2⟩)
 omega
/-! ### All bits -/
def Wg (p:Pa)(g:List (List Nat))(E:List (Nat×Nat))(i:Nat):List Bool:=
 O5 (Qg p.list i ((g[i]?).getD []) (Pr g i ((E[i]?).getD (0,0)).1) ((E[i]?).getD (0,0)).1)
def Po (p:Pa)(g:List (List Nat))(E:List (Nat×Nat))(n:Nat):List Bool:=(List.range n).flatMap (Wg p g E)
theorem RB (p:Pa)(g:List (List Nat))(E:List (Nat×Nat))(n:Nat):Po p g E (n+1)=Po p g E n++Wg p g E n:=by
 unfold Po
 rw[List.range_succ,List.flatMap_append];simp
theorem ZN (p:Pa)(g:List (List Nat))(E:List (Nat×Nat))(e:Nat×Nat):∀n,n<=E.length->Po p g (E++[e]) n=Po p g E n
 |0,_=>rfl
 | n + 1, h => by
   rw[RB,RB,ZN p g E e n (by omega)]
   congr 1
   unfold Wg;rw[List.getElem?_append_left (by omega)]
structure zcz (p:Pa)(g:List (List Nat))(E:List (Nat×Nat)):Prop where
 ent:∀i e,E[i]? =some e->YM p g E i ((g[i]?).getD []).length e
theorem YM.mono {p:Pa}{L L':List (List Nat)}{E E':List (Nat×Nat)}{n size:Nat}{e:Nat×Nat}(h:YM p L E n size e)(hL:∀(j:Nat) (l:List Nat),L[j]? =some l->L'[j]? =some l)(hE:∀(j:Nat) (l:Nat×Nat),E[j]? =some l->E'[j]? =some l):YM p L' E' n size e:=by
 rcases h with h|⟨h1,h2,h3,l,e',h4,h5,h6,h7⟩
 ·exact .inl h
 ·exact .inr ⟨h1,h2,h3,l,e',hL _ _ h4,hE _ _ h5,h6,h7⟩
theorem Sl.typed {w:World}{v:Value}{T:TypeId}{k n g:Nat}{cs:List Value}(h:Sl w v T k n cs)(hg:v.ownBlock=some g):∃cur,w.heap[g]? =some (.cells cur T (0,0)):=by
 rcases h.2 with⟨hz,-⟩|⟨g1,cap1,cur,hv,-,av,-⟩
 ·rw[hz] at hg;cases hg
 ·rw[hv] at hg;have e:g1=g:=Pz hg;exact⟨cur,e▸av⟩
theorem PkM.kpT {w w':World}{k:Nat}{p:Pa}{L:List (List Nat)}{E:List (Nat×Nat)}{bs:List Bool}{F:Nat->Prop}{R:List (Value×Nat)}{wp ed:Nat}(h:PkM w k p L E bs F R wp ed){v:Value}{T:TypeId}{sz n:Nat}{cs:List Value}(hT:T≠46)(hv:Sl w v T sz n cs)(hk:Kp (λi=>v.ownBlock=some i) w w')(n1:v.ownBlock≠some k)(n2:∀i,F i->v.ownBlock≠some i):PkM w' k p L E bs F R wp ed:=
 ⟨hk.ND h.ND n1,h.len,h.wr.kp hk n2,h.nk,h.el,h.ok,λj l e h1 h2 h3=>by
  obtain⟨a,cp,g1,g2,g3,g4⟩:=h.ring j l e h1 h2 h3;refine⟨a,cp,g1,g2,g3.kp hk (λg hg e=>?_),g4⟩;obtain⟨c1,f1⟩:=g3.typed hg;obtain⟨c2,f2⟩:=hv.typed e;rw[f1] at f2
  injection f2 with f3
  injection f3 with f4 f5
  exact hT f5.symm⟩
def UN (p:Pa)(g:List (List Nat))(E:List (Nat×Nat))(n:Nat):List Nat:=(List.range (n+1)).map λj=>(Po p g E j).length
theorem zbl (p:Pa)(g:List (List Nat))(E:List (Nat×Nat))(e:Nat×Nat)(n:Nat)(h:n<=E.length):UN p g (E++[e]) n=UN p g E n:=by
 unfold UN
 refine List.map_congr_left λj hj=>?_
 rw[ZN p g E e j (by have:=List.mem_range.1 hj;omega)]
theorem z9t (p:Pa)(g:List (List Nat))(E:List (Nat×Nat))(n:Nat):UN p g E (n+1)=UN p g E n++[(Po p g E (n+1)).length]:=by
 unfold UN
 rw[List.range_succ,List.map_append];rfl
theorem z1q (p:Pa)(g:List (List Nat))(E:List (Nat×Nat))(n:Nat):(UN p g E n).length=n+1:=by simp[UN]
theorem getD_take {α:Type}{l:List α}{i j:Nat}(h:j<i):(l.take i)[j]? =l[j]? :=by rw[List.getElem?_take,if_pos h]
theorem Vm (L:List (List Nat))(n r:Nat):Pr L n r=[]\/Pr L n r∈L:=by
 unfold Pr
 split
 ·exact .inl O
 ·cases h:L[n-r]? with
  |none=>exact .inl O
  |some l=>exact .inr (List.mem_of_getElem? h)
theorem z5d {L:List (List Nat)}{n r:Nat}(h:r<=n):Pr (L.take n) n r=Pr L n r:=by
 unfold Pr
 by_cases e:r=0
 ·rw[if_pos e,if_pos e]
 ·rw[if_neg e,if_neg e,getD_take (by omega)]
structure EnI (w:World)(p:Pa)(g:List (List Nat))(k wp:Nat)(i:Nat)(E:List (Nat×Nat))(v:Value)(w':World):Prop where
 pk:∃F R,PkM w' k p (g.take i) E (Po p g E i) F R wp (Ph (g.take i))/\(∀j,F j->w.heap.size<=j)/\∀j,F j->v.ownBlock≠some j
 ext:Ext w w'
 nk:w.heap.size<=k
 sl:Sl w' v 41 1 (UN p g E i).length ((UN p g E i).map NW)
 fr:∀b,v.ownBlock=some b->w.heap.size<=b
 vk:v.ownBlock≠some k
 ent:∀j e,E[j]? =some e->YM p g E j ((g[j]?).getD []).length e
 bd:(Po p g E i).length<=i*44800
theorem z8B {w:World}{p:Pa}(hp:p.Pk){g:List (List Nat)}(hg:QQ g){ga:Option Addr}{gc:Nat}(ln:GrM w (.slice ga g.length gc) g)(hG:NM w 0 (QX .gamma) 260)(hU:NM w 1 (QX .unary) 260):
  Oa prog 85 [.slice ga g.length gc,bpV p] w λu w'=>∃E v,u= .tuple #[S (Oc (Po p g E g.length)),v,I 0]/\E.length=g.length/\zcz p g E/\(Po p g E g.length).length<=2688000/\Sl w' v 41 1 (g.length+1) ((UN p g E g.length).map NW)/\(∀b,v.ownBlock=some b->w.heap.size<=b)/\Ext w w':=by
 have hn:=hg.n
 refine Nu (e:=[(0,_),(1,_)]) func85 O ntmps85 O O$ qN O$ NK O O (PW O (cs:=TR p) O) ?_
 rintro _ w1 ⟨b3,rfl,dF,ad,ar⟩
 have z1:=ad.size
 refine NQ O$ NQ O$ NQ O$ qM O$ qV (Oh (news:=TR p) U88 O Qm O (ar.cells (n:=5) O) O)$ NZ zh3 O (z7a p hp w1) ?_
 rintro _ w2 ⟨k,wp,F,rfl,vN,hW,JD,ag,aM,ph⟩
 have z2:=ag.size
 have aJ:=ad.trans ag
 refine Nz O$ qV (Q8 (v:=ptr k 0) O O)$ qV (Q8 (v:=I 0) O O)$ NQ O$ NF O$ py$ qN O$ Nz O$ P3 O O$ NT O O$ NZ zeY O (z2n (ln.ext aJ) hg) ?_
 rintro _ w2 ⟨rfl,rfl⟩
 refine qV ((Qr O))$ OC O O$ NB$ It O$ An$ qN O$ NK O O (Ur (cs:=[_]) (zs:=[Value.int .u64 0]) Y3 Tr O (by kernel_rfl) O O O (by decide)) ?_
 rintro _ w3 ⟨b28,rfl,⟨JE,ah,JF⟩,Df⟩
 have z3:=ah.size
 have lk:=vN.lt
 have AX:PkM w3 k p (g.take 0) [] (Po p g [] 0) F z6M wp (Ph (g.take 0)):=⟨ah.ND vN,List.length_replicate,hW.ext ah,JD,rfl,(λl hl=>by simp at hl),λj l e h1=>by simp at h1⟩
 refine NF O$ py$ qN O$ Nz O$ Q0 SH O$ Nz O$ NB$ Of.qb (e:=[(4,_),(5,_),(6,_),(7,_),(8,_),(9,_),(29,_),(30,_),(31,_)]) ?_
 refine Nw$ Qb (α:=Nat×List (Nat×Nat)×Value) ((0,[],.slice (some ⟨b28,0,none⟩) 1 1)) (λy=>[(7,ptr k 0),(9,y.2.2),(29,.slice ga g.length gc),(30,I (g.length:Int)),(31,I (y.1:Int))]) (λy w'=>EnI w p g k wp y.1 y.2.1 y.2.2 w'/\y.1<=g.length) (λy=>g.length-y.1) ?hI ?hround
 case hI=>exact⟨⟨⟨F,z6M,AX,λj hj=>by have:=ph j hj;omega,λj hj e=>by have e1:b28=j:=Pz e;have:=hW.lt hj;omega⟩,aJ.trans ah,by omega,Df,λb hb=>by have e1:b28=b:=Pz hb;omega,λe=>by have e1:b28=k:=Pz e;omega,λj e h=>by simp at h,Nat.zero_le _⟩,Nat.zero_le _⟩
 case hround =>
  rintro⟨i,E,v⟩ w4 ⟨hI,hi⟩ ih;dsimp only at hI hi;obtain⟨F,R,hP,hF,He⟩:=hI.pk;have pu:=hI.bd;have aU:=z1q p g E i;have rT:=hP.el;rw[List.length_take,Nat.min_eq_left hi] at rT;obtain⟨va,vc,rfl,-⟩:=hI.sl.rd.shape
  try dsimp only
  refine qN O$ Pb O O$ NB$ py$ NN O (λh0=>?_)$ λh0=>?_
  ·have dG:i<g.length:=by omega
   obtain⟨l,hl⟩:∃l,g[i]? =some l:=⟨_,List.getElem?_eq_getElem dG⟩;have gP:=List.mem_of_getElem? hl;have fG:=hg.len gP;have hs:=hg.ok l gP;obtain⟨vs,Dg,iz⟩:=ln.ex;obtain⟨a,c,e1,e2,e3w⟩:=iz i l hl;have fM:=Dg.ext hI.ext;have e3:=e3w.ext hI.ext
   obtain⟨gb,go,gc',e4⟩:∃b o c',Value.slice ga g.length gc= .slice (some ⟨b,o,none⟩) g.length c':=by
    rcases fM.2 with⟨c,hc,h0⟩|⟨b,off,c',hc,-⟩
    ·omega
    ·exact⟨b,off,c',hc⟩
   cases e4;have qj:(g.take i).length=i:=by rw[List.length_take];omega
   have pw:=St hg i;refine An$ py$ Nw$ qN O$ qV (OH SH QC O O (by omega))$ qV (Oi Ob O O (P6 fM e1)) ?_
   have o3:∀r,r<=p.O6->(Po p g E i).length+(O5 (Qg p.list (g.take i).length l (Pr (g.take i) (g.take i).length r) r)).length<=134217728:=λr hr=>by
    have h2:Ov (Pr (g.take i) (g.take i).length r)/\(Pr (g.take i) (g.take i).length r).length<=60:=by
     rcases Vm (g.take i) (g.take i).length r with e| e
     ·rw[e];exact⟨⟨List.Pairwise.nil,λy h=>(by cases h)⟩,Nat.zero_le _⟩
     ·exact⟨hg.ok _ (List.mem_of_mem_take e),by have:=hg.len (List.mem_of_mem_take e);omega⟩
    have h3:=Yb hp.1 (x:=(g.take i).length) (by omega) hs h2.1 (show r<=p.list.O6 from hr) (by omega) h2.2;omega
   have nq:=hI.sl;have xt:∀b,(Value.slice va (UN p g E i).length vc).ownBlock=some b->b<w4.heap.size:=λb hb=>nq.lt hb;refine NF O$ py$ qN O$ NT O O$ NZ zes O (z8u hp hP (hI.ext.ND hG) (hI.ext.ND hU) (by omega) hs e2 e3 (by omega) (λb h0 hb=>by have h1:=e3w.ltz (by decide) h0 hb;have:=hI.nk;exact⟨λe=>by have:=hF b e;omega,by omega⟩) o3) ?_;rintro _ w5 ⟨r,least,ch,F',R',rfl,hC,gR,ai,vO⟩;have lk4:=hP.ND.lt;have z5:=ai.size;have aT:Ext w w5:=hI.ext.Nv ai (λj hj=>by rcases hj with e|e;exact hF j e;(have:=hI.nk;omega));have JG:(E++[(r,ch)]).length=i+1:=by rw[List.length_append,rT];rfl
   have mt:r<=i:=by
    rcases hC with e|⟨-,-,h3,-⟩
    ·have:r=0:=(Prod.mk.inj e).1;omega
    ·rw[qj] at h3;exact h3
   have tV:(E++[(r,ch)])[i]? =some (r,ch):=by rw[List.getElem?_append_right (by omega),rT,Nat.sub_self];rfl
   have qx:Wg p g (E++[(r,ch)]) i=O5 (Qg p.list (g.take i).length l (Pr (g.take i) (g.take i).length r) r):=by
    unfold Wg;rw[tV,hl,qj,z5d mt];rfl
   have i5:Po p g (E++[(r,ch)]) (i+1)=Po p g E i++O5 (Qg p.list (g.take i).length l (Pr (g.take i) (g.take i).length r) r):=by
    rw[RB,ZN p g E _ i (by omega),qx]
   have Dh:(Po p g (E++[(r,ch)]) (i+1)).length<=(i+1)*44800:=by
    have h2:Ov (Pr (g.take i) (g.take i).length r)/\(Pr (g.take i) (g.take i).length r).length<=60:=by
     rcases Vm (g.take i) (g.take i).length r with e| e
     ·rw[e];exact⟨⟨List.Pairwise.nil,λy h=>(by cases h)⟩,Nat.zero_le _⟩
     ·exact⟨hg.ok _ (List.mem_of_mem_take e),by have:=hg.len (List.mem_of_mem_take e);omega⟩
    have jk:r<=p.list.O6:=by
     rcases hC with e|⟨-,h3,-⟩
     ·have:r=0:=(Prod.mk.inj e).1;omega
     ·exact h3
    have h3:=Yb hp.1 (x:=(g.take i).length) (by omega) hs h2.1 jk (by omega) h2.2;rw[i5,List.length_append];omega
   rw[<-i5,<-OB hl,<-Wj,<-OB hl] at gR;have ff:(Po p g (E++[(r,ch)]) (i+1)).length<=9223372036854775:=by omega
   refine Nz O$ ON O O$ ON O O$ qV (Q8 (v:=I 0) O O)$ NQ O$ NQ O$ NQ O$ qM O$ Nz O$ P3 O O$ NB$ It O$ An$ NC O ?_;refine NT O O$ NZ zhg O (z55 gR ff) ?_;rintro _ w6 ⟨rfl,aK⟩;refine qV ((OM O U3 Qe (by omega)))$ NK O O (Ur (cs:=[_]) (zs:=[Value.int .u64 0]) Y3 Tr O (by kernel_rfl) O O O (by decide)) ?_;rintro _ w7 ⟨b49,rfl,⟨JH,bV,bY⟩,Di⟩;have dv:=aK.trans bV;have z67:=dv.size;have nZ:∀j,F' j->j<w5.heap.size:=λj hj=>gR.wr.lt hj;have GX:=nq.kp ai (λb hb e=>by rcases e with e|e;exact He b e hb;exact hI.vk (e▸hb));have AY:=GX.ext dv
   have xT:∀j,F' j->(Value.slice va (UN p g E i).length vc).ownBlock≠some j:=λj hj e=>by
    rcases vO j hj with e1|e1
    ·exact He j e1 e
    ·have:=xt j e;omega
   refine NK O O (pap Y3 Tr O (by decide) O O AY Di.rd (by intro c hc;simp at hc;subst hc;rfl) (by omega) (by simp only[maxLen];omega)) ?_;rintro v8 w8 ⟨fg,aV,kR,-⟩;have px:=(gR.ext dv).kpT (T:=41) (by decide) AY aV hI.vk xT;have o6:∀b,v8.ownBlock=some b->(Value.slice va (UN p g E i).length vc).ownBlock=some b\/w5.heap.size<=b:=λb hb=>(kR b hb).imp id (λe=>by omega);refine NF O$ Ny$ NC O$ OI O O$ Nz O$ NB ((ih (i+1,E++[(r,ch)],v8) _ ⟨⟨⟨F',R',px,λj hj=>?_,λj hj e=>?_⟩,(aT.trans dv).Nv aV (λj hj=>hI.fr j hj),hI.nk,?_,λb hb=>?_,λe=>?_,λj e hj=>?_,Dh⟩,dG⟩ (by dsimp only;omega)).qb)
   ·rcases vO j hj with e| e
    ·exact hF j e
    ·have:=hI.ext.size;omega
   ·rcases o6 j e with e1|e1
    ·exact xT j hj e1
    ·have:=nZ j hj;omega
   ·rw[z9t,zbl p g E _ i (by omega),List.length_append,List.map_append];exact fg
   ·rcases o6 b hb with e1|e1
    ·exact hI.fr b e1
    ·have:=aT.size;omega
   ·rcases o6 k e with e1|e1
    ·exact hI.vk e1
    ·omega
   ·rcases Nat.lt_or_ge j i with rU|rU
    ·rw[List.getElem?_append_left (by omega)] at hj;exact(hI.ent j e hj).mono (λ_ _ h=>h) (λj' l' h=>by rw[List.getElem?_append_left (List.getElem?_eq_some_iff.1 h).1];exact h)
    ·have CT:=(List.getElem?_eq_some_iff.1 hj).1;rw[JG] at CT;have ej:j=i:=by omega
     subst ej;rw[tV] at hj;cases hj;rw[hl];rw[qj] at hC
     exact hC.mono (λj' l' h=>by
      have:=(List.getElem?_eq_some_iff.1 h).1;rw[qj] at this
      rwa [getD_take this] at h) (λj' l' h=>by rw[List.getElem?_append_left (List.getElem?_eq_some_iff.1 h).1];exact h)
  ·have cu:i=g.length:=by omega
   subst cu;refine NL O$ qN O$ Nz O$ NZ zhO O (z4D hP) ?_;rintro _ w5 ⟨rfl,rfl⟩;refine Nz O$ ON O O$ ON O O$ NQ O$ NQ O$ qM O$ NT O O$ Nz O$ NQ O$ NQ O$ NF O$ NA func85 O ?_;have fP:=hI.sl;rw[aU] at fP;exact⟨_,rfl,E,_,rfl,rT,⟨hI.ent⟩,by omega,by rw[aU];exact fP,hI.fr,hI.ext⟩
structure Fm where
 n:Nat
 u:Nat
 width:Nat
 bits:Nat
def fmC (f:Fm):List Value:=[I (f.n:Int),NW f.u,I (f.width:Int),I (f.bits:Int)]
abbrev fmV (f:Fm):Value:= .agg (fmC f).toArray
def WD (n u:Nat):Nat:=if u / n=0 then 0 else OJ (u / n)-1
def Sw (n u:Nat):Fm:=⟨n,u,WD n u,(u-1) / 2^WD n u+n⟩
def Fm.high (f:Fm):Nat:=12+(f.n*f.width+7) / 8
def Fm.Tq (f:Fm):Nat:=f.high+(f.bits+7) / 8
def Fm.size (f:Fm):Nat:=f.Tq+4*((f.n+63) / 64)
theorem Yl {n u:Nat}(hu:u<=1000000000):WD n u<=30:=by
 unfold WD
 split
 ·omega
 ·have h1:u / n<=u:=Nat.div_le_self _ _;have h2:OJ (u / n)<=30:=PQ (by omega);omega
theorem ZM {n u:Nat}(hn:1<=n)(hu:1<=u):(u-1) / 2^WD n u<2*n:=by
 have h2:0<2^WD n u:=Nat.two_pow_pos _
 rw[Nat.div_lt_iff_lt_mul h2]
 unfold WD
 split
 ·rename_i h
  have:u<n:=by
   rcases Nat.lt_or_ge u n with h1|h1
   ·exact h1
   ·have:=Nat.div_pos h1 (by omega);omega
  simp;omega
 ·rename_i h
  have h3:u / n<2^OJ (u / n):=Vr;have h4:OJ (u / n)≠0:=λe=>by rw[e,Nat.pow_zero] at h3;exact h (Nat.lt_one_iff.1 h3)
  obtain⟨k,hk⟩:∃k,OJ (u / n)=k+1:=⟨OJ (u / n)-1,by omega⟩;rw[hk] at h3⊢;rw[Nat.add_sub_cancel]
  have h5:u<n*2^(k+1):=by
   have:=(Nat.div_lt_iff_lt_mul (show 0<n by omega)).1 h3
   rwa [Nat.mul_comm] at this
  rw[Nat.pow_succ] at h5;have e:n*(2^k*2)=2*n*2^k:=by rw[Nat.mul_comm (2^k) 2,<-Nat.mul_assoc,Nat.mul_comm n 2]
  omega
theorem z7f {n u:Nat}(hn:1<=n)(hu:1<=u):(Sw n u).bits<=3*n:=by
 have:=ZM hn hu
 show(u-1) / 2^WD n u+n<=_
 omega
theorem Wr (n u:Nat)(hn:1<=n)(jF:n<=1000)(hu:1<=u)(mJ:u<=1000000000)(w:World):Oa prog 126 [I (n:Int),NW u] w λv w'=>v=fmV (Sw n u)/\Ext w w':=by
 have vP:=Yl (n:=n) mJ
 have fL:=ZM hn hu
 have hq:u / n<=u:=Nat.div_le_self _ _
 obtain⟨q,tW⟩:∃q,u / n=q:=⟨_,rfl⟩
 have Hf:WD n u=if q=0 then 0 else OJ q-1:=by rw[WD,tW]
 rw[tW] at hq
 have Dj:OJ q<=30:=PQ (by omega)
 refine Nu (e:=[(0,_),(1,_)]) func126 O ntmps126 O O$ qN O$ NK O O (Qk (cs:=[_,_,_,_]) S2 O) ?_
 rintro _ w1 ⟨b4,rfl,ev,ad,aH⟩
 refine qM O$ NT O O$ qV (QP (cs:=[_,_,_,_]) S2 O zhm O O)$ NK O O (Qk (cs:=[_,_,_,_]) S2 O) ?_
 rintro _ w2 ⟨b5,rfl,ff,ag,aC⟩
 have z1:=ad.size
 have z2:=ag.size
 have l4:=aH.lt
 have l5:=aC.lt
 refine NP O (OA (news:=[I (n:Int),NW u,I 0,I 0]) S2 O O O O aC (by simp)) ?_
 rintro w3 ⟨iK,aw⟩
 replace iK:NM w3 b5 [I (n:Int),NW u,I 0,I 0] 238:=iK
 have cD:Ext w w3:=(ad.trans ag).Nv aw (λi e=>by omega)
 have dW:=aw.ND (ag.ND aH) (by omega)
 have z3:=aw.size
 refine NB$ py$ qN O$ Nz O$ Px O O$ Ox$ NB$ It O$ An$ py$ qN O$ NT O O$ qV ((OM O U3 Qe (by omega)))$ qV (zfv (m:=u) (n:=n) O O O (by show u<2^64;omega) (by omega)) ?_
 rw[tW]
 refine NQ O$ qM O$ Nz O$ P9 O O$ NB$ Oy (λe' w'=>e'=[(0,I (n:Int)),(1,NW u),(4,ptr b4 0),(5,ptr b5 0)]/\Ext w w'/\NM w' b5 [I (n:Int),NW u,I (WD n u:Int),I 0] 238/\NM w' b4 [I 0,NW 0,I 0,I 0] 238) ?cJ$ λcJ=>?di
 case cJ=>
  rintro e' w4 ⟨rfl,aB,eS,cx⟩;refine qN O$ Nz O$ qV (Uh (m:=u) (n:=1) O O O (by show u<2^64;omega) (by omega)) ?_;refine NO RR O$ qV (NJ U3 O O eS O)$ qV (RS (WD n u) (2^WD n u) O O (by show WD n u<=64;omega) O) ?_
  generalize JI:(u-1) / 2^WD n u=qb at fL
  refine qV (Ow O Qe U3 (by omega))$ Nz O$ OI O O$ NO X8 O$ NP O (PA OL O O O eS (by simp)) ?_;rintro w5 ⟨mu,ai⟩;replace mu:NM w5 b5 [I (n:Int),NW u,I (WD n u:Int),I ((qb+n:Nat):Int)] 238:=mu;refine qM O$ qV (Oh z3O O S2 O (NM.cells (n:=4) mu (news:=[_,_,_,_]) O) O)$ NP O (OA (news:=[I (n:Int),NW u,I (WD n u:Int),I ((qb+n:Nat):Int)]) S2 O O O O (ai.ND cx (by omega)) (by simp)) ?_;rintro w6 ⟨bZ,aP⟩;replace bZ:NM w6 b4 [I (n:Int),NW u,I (WD n u:Int),I ((qb+n:Nat):Int)] 238:=bZ;refine NB$ O9 func126 (.cell z3O O S2 O (NM.cells (n:=4) bZ (news:=[_,_,_,_]) O) O .nil) (⟨_,rfl,?_,(aB.Nv ai (λi e=>by omega)).Nv aP (λi e=>by omega)⟩);unfold fmV fmC Sw;rw[JI]
  rfl
 case di=>
  refine NN O (λh0=>?_)$ λh0=>?_
  ·refine NC O$ Nz O$ NZ z0H O (T0 q (by omega) _) ?_;rintro _ w3 ⟨rfl,rfl⟩;have tp:OJ q≠0:=λe=>by have:=Vr (v:=q);rw[e] at this;omega
   refine Qc O O ?_;rw[show(OJ q:Int)-1=(WD n u:Int) by rw[Hf,if_neg (by omega)];omega];refine NO RR O$ NP O (PA OL O O O iK (by simp)) ?_;rintro w4 ⟨eS,ao⟩;replace eS:NM w4 b5 [I (n:Int),NW u,I (WD n u:Int),I 0] 238:=eS;refine NB ?_;exact(cJ _ _ ⟨rfl,cD.Nv ao (λi e=>by omega),eS,ao.ND dW (by omega)⟩).qb
  ·have nA:WD n u=0:=by rw[Hf,if_pos (by omega)]
   refine An ?_;exact(cJ _ _ ⟨rfl,cD,by rw[nA];exact iK,dW⟩).qb
def Fm.small (f:Fm):Prop:=f.n<=100000/\f.width<=64/\f.bits<=1000000
theorem z2N (f:Fm)(hf:f.small)(w:World):Oa prog 211 [fmV f] w λv w'=>v=I (f.high:Int)/\Ext w w':=by
 obtain⟨h1,h2,h3⟩:=hf
 have hm:f.n*f.width<=100000*64:=Nat.mul_le_mul h1 h2
 refine Nu (e:=[(0,_)]) func211 O ntmps211 O O$ qN O$ NK O O (PW O (cs:=fmC f) O) ?_
 rintro _ w1 ⟨b1,rfl,bN,ad,aj⟩
 replace aj:NM w1 b1 [I (f.n:Int),NW f.u,I (f.width:Int),I (f.bits:Int)] 238:=aj
 refine NQ O$ qM O$ NO Xd O$ qV (NJ U3 O O aj O)$ NO RR O$ qV (NJ U3 O O aj O) ?_
 have rB:((f.n*f.width:Nat):Int)=(f.n:Int)*(f.width:Int):=Int.natCast_mul _ _
 refine qV (TT O O (by rw[<-rB];omega)) ?_
 rw[<-rB]
 refine OI O O$ qV (Vu O O (by omega))$ OI O O$ NF O$ NA func211 O (⟨_,rfl,?_,ad⟩)
 show I (12+(((f.n*f.width:Nat):Int)+7) / 8)=I ((12+(f.n*f.width+7) / 8:Nat):Int)
 congr 1
theorem Fm.Vl {f:Fm}(hf:f.small):f.high<=10000000:=by
 obtain⟨h1,h2,h3⟩:=hf
 have hm:f.n*f.width<=100000*64:=Nat.mul_le_mul h1 h2
 unfold Fm.high
 omega
theorem z2H (f:Fm)(hf:f.small)(w:World):Oa prog 180 [fmV f] w λv w'=>v=I (f.Tq:Int)/\Ext w w':=by
 have pz:=Fm.Vl hf
 obtain⟨h1,h2,h3⟩:=id hf
 refine Nu (e:=[(0,_)]) func180 O ntmps180 O O$ qN O$ NK O O (PW O (cs:=fmC f) O) ?_
 rintro _ w1 ⟨b1,rfl,bN,ad,aj⟩
 replace aj:NM w1 b1 [I (f.n:Int),NW f.u,I (f.width:Int),I (f.bits:Int)] 238:=aj
 have hg:=Ext.NY w1
 refine NF O$ py$ PK (λw'=>Ext w1 w') O$ qT 0 O (λ_ h=>Oh z3O O S2 O (NM.cells (n:=4) (h.ND aj) (news:=[_,_,_,_]) O) O) hg$ NG 2 O (Og X8 O) hg$ qT 3 O (λ_ h=>NJ U3 O O (h.ND aj) O) hg$ NG 4 O (SX O O (by omega)) hg$ NG 5 O (Vu O O (by omega)) hg$ Qv 1 O zcR O (z2N f hf _) ?_
 rintro _ w2 ⟨rfl,ag⟩
 refine⟨hg.trans ag,?_⟩
 refine NG 6 O (SX O O (by omega)) (hg.trans ag)$ NG 7 O (PO O) (hg.trans ag)$ qE$ NA func180 O (⟨_,rfl,?_,(ad.trans hg).trans ag⟩)
 show I ((f.high:Int)+((f.bits:Int)+7) / 8)=I ((f.high+(f.bits+7) / 8:Nat):Int)
 congr 1
theorem z0Y (f:Fm)(hf:f.small)(w:World):Oa prog 170 [fmV f] w λv w'=>v=I (f.size:Int)/\Ext w w':=by
 have pz:=Fm.Vl hf
 obtain⟨h1,h2,h3⟩:=id hf
 have fP:f.Tq<=20000000:=by unfold Fm.Tq;omega
 refine Nu (e:=[(0,_)]) func170 O ntmps170 O O$ qN O$ NK O O (PW O (cs:=fmC f) O) ?_
 rintro _ w1 ⟨b1,rfl,bN,ad,aj⟩
 replace aj:NM w1 b1 [I (f.n:Int),NW f.u,I (f.width:Int),I (f.bits:Int)] 238:=aj
 have hg:=Ext.NY w1
 refine NF O$ py$ PK (λw'=>Ext w1 w') O$ qT 0 O (λ_ h=>Oh z3O O S2 O (NM.cells (n:=4) (h.ND aj) (news:=[_,_,_,_]) O) O) hg$ NG 2 O (Og Xd O) hg$ qT 3 O (λ_ h=>NJ U3 O O (h.ND aj) O) hg$ NG 4 O (SX O O (by omega)) hg$ NG 5 O (W5 O O (by omega)) hg ?_
 rw[show(f.n:Int)+64-1=((f.n+63:Nat):Int) by omega]
 refine NG 6 O (Vu O O (by omega)) hg$ NG 7 O (TT O O (by omega)) hg$ Qv 1 O zcS O (z2H f hf _) ?_
 rintro _ w2 ⟨rfl,ag⟩
 refine⟨hg.trans ag,?_⟩
 refine NG 8 O (SX O O (by omega)) (hg.trans ag)$ NG 9 O (PO O) (hg.trans ag)$ qE$ NA func170 O (⟨_,rfl,?_,(ad.trans hg).trans ag⟩)
 show I ((f.Tq:Int)+4*(((f.n+63:Nat):Int) / 64))=I ((f.Tq+4*((f.n+63) / 64):Nat):Int)
 congr 1
theorem z2e {n u:Nat}(hn:1<=n)(jF:n<=1000)(hu:1<=u)(mJ:u<=1000000000):(Sw n u).small:=by
 have h1:=z7f hn hu
 have h2:=Yl (n:=n) mJ
 refine⟨?_,?_,by omega⟩
 ·show n<=_;omega
 ·show WD n u<=_;omega
theorem z42 (n last:Nat)(hn:1<=n)(jF:n<=1000)(mJ:last+1<=1000000000)(w:World):Oa prog 168 [I (n:Int),NW last] w λv w'=>v= .tuple #[I ((Sw n (last+1)).size:Int),I 0]/\Ext w w':=by
 refine Nu (e:=[(0,_),(1,_)]) func168 O ntmps168 O O$ qN O$ NQ O$ NF O$ py$ Nw$ qN O$ Nz O$ Pb O O$ NT O O$ P9 O O$ Ox$ OC O O$ NT O O ?_
 refine P9 O O$ Ox$ OC O O$ NT O O$ Px O O$ Ox$ Nz O$ qS$ qS$ OC O O$ OC O O$ NF O$ It O$ qN O ?_
 refine Nz O$ Px O O$ Ox$ NF O$ Of.qb (e:=[(0,_),(1,_),(4,_),(5,_),(25,_)]) ?_
 refine It O$ An$ Ny$ qN O$ NT O O$ qV (TF O O) ?_
 rw[Nat.mod_eq_of_lt (show last+1<18446744073709551616 by omega)]
 refine NZ zat O (Wr n (last+1) hn jF (by omega) mJ _) ?_
 rintro _ w1 ⟨rfl,ad⟩
 refine NZ zcd O (z0Y _ (z2e hn jF (by omega) mJ) _) ?_
 rintro _ w2 ⟨rfl,ag⟩
 refine NQ O$ NF O$ NA func168 O ?_
 exact⟨_,rfl,rfl,ad.trans ag⟩
theorem z7E {w:World}{a:Option Addr}{c:Nat}{l:List Nat}(hl:l.length<=1000)(hn:Nof l)(hm:∀v∈l,v<=1000000000)(hR:Rd w (.slice a l.length c) 1 l.length (l.map NW)):Oa prog 125 [.slice a l.length c] w λv w'=>v= .bool true/\w'=w:=by
 refine Nu (e:=[(0,_)]) func125 O ntmps125 O O$ qN O$ NF O$ py$ qN O$ Nz O$ Q0 Y3 O$ P9 O O$ Ox$ NB$ It O$ An$ qN O$ NF O ?_
 refine py$ qN O$ Nz O$ Q0 Y3 O$ Nz O$ NB$ Nw$ Qb (α:=Nat×Nat) ((0,0)) (λy=>[(3,NW y.2),(9,.slice a l.length c),(10,I (l.length:Int)),(11,I (y.1:Int))]) (λy w'=>w'=w/\y.1<=l.length/\y.2<=1000000000/\∀v,l[y.1]? =some v->y.2<=v) (λy=>l.length-y.1) ?hI ?hround
 case hI=>exact⟨rfl,Nat.zero_le _,Nat.zero_le _,λv _=>Nat.zero_le _⟩
 case hround=>
  rintro⟨i,z⟩ w4 ⟨rfl,hi,hz,AZ⟩ ih;dsimp only at hi hz AZ
  try dsimp only
  refine qN O$ Pb O O$ NB$ py$ NN O (λh0=>?_)$ λh0=>?_
  ·have dG:i<l.length:=by omega
   obtain⟨v,hv⟩:∃v,l[i]? =some v:=⟨_,List.getElem?_eq_getElem dG⟩;have JJ:=AZ v hv;have Dk:=hm v (List.mem_of_getElem? hv)
   obtain⟨gb,go,gc',e4⟩:∃b o c',Value.slice a l.length c= .slice (some ⟨b,o,none⟩) l.length c':=by
    rcases hR.2 with⟨c,hc,h0⟩|⟨b,off,c',hc,-⟩
    ·omega
    ·exact⟨b,off,c',hc⟩
   cases e4;refine An$ py$ Nw$ qN O$ qV (OH Y3 Tr O O (by omega))$ qV (Oi Qe O O (P6 hR (show(l.map NW)[i]? =some (NW v) by rw[List.getElem?_map,hv];rfl))) ?_;refine NF O$ py$ qN O$ NT O O$ Pb O O$ Ox$ NT O O$ P9 O O$ Ox$ OC O O$ NB$ It O$ An$ NC O ?_;refine Nz O$ NF O$ Ny$ NC O$ OI O O$ Nz O$ NB ((ih (i+1,v) _ ⟨rfl,dG,Dk,λu hu=>?_⟩ (by dsimp only;omega)).qb);obtain⟨a1,a2⟩:=List.getElem?_eq_some_iff.1 hv;obtain⟨b1,b2⟩:=List.getElem?_eq_some_iff.1 hu;have:=List.pairwise_iff_getElem.1 hn i (i+1) a1 b1 (by omega)
   rwa [a2,b2] at this
  ·refine NL O$ qN O$ NF O$ NA func125 O ?_;exact⟨_,rfl,rfl,rfl⟩
def R1 (k:Nat)(l:List Nat):List Bool:=l.flatMap λv=>O7 k (v%2^k)
def QJ (k:Nat):List Nat->List Bool
 |[]=>[]
 |v::_=>O7 32 (v / 2^k)
theorem z7M (k:Nat)(l:List Nat)(v:Nat):R1 k (l++[v])=R1 k l++O7 k (v%2^k):=by simp[R1]
theorem Tn (k:Nat):∀l:List Nat,(R1 k l).length=l.length*k
 |[]=>by simp[R1]
 | v :: l => by
   show(O7 k (v%2^k)++R1 k l).length=_;rw[List.length_append,Tn k l,bitsN_length,List.length_cons,Nat.add_mul];omega
theorem z2l (k:Nat):∀(l:List Nat) (len i v:Nat),Nof (l++[v])->(∀x,(l++[v]).head? =some x->len<=x / 2^k+i)->
  len+(hiB k len i l).length<=v / 2^k+(i+l.length)/\hiB k len i (l++[v])=hiB k len i l++(List.replicate (v / 2^k+(i+l.length)-(len+(hiB k len i l).length)) false++[true])
 | [], len, i, v, _, hl => by
   have:=hl v O;refine⟨by simp[hiB];omega,?_⟩
   simp[hiB]
 | x :: r, len, i, v, hn, hl => by
   have hx:=hl x O;rw[List.cons_append] at hn;obtain⟨n1,n2⟩:=List.pairwise_cons.1 hn
   obtain⟨h1,h2⟩:=z2l k r (x / 2^k+i+1) (i+1) v n2 (λy hy=>by
    have o7:y∈r++[v]:=List.mem_of_mem_head? hy;have:=Nat.div_le_div_right (c:=2^k) (n1 y o7)
    omega)
   rw[List.cons_append,hiB,hiB,h2,List.length_append,List.length_replicate,List.length_cons,List.length_cons];refine⟨by omega,?_⟩;rw[List.append_assoc,List.cons_append,show v / 2^k+(i+1+r.length)-(x / 2^k+i+1+(hiB k (x / 2^k+i+1) (i+1) r).length)=v / 2^k+(i+(r.length+1))-(len+(x / 2^k+i-len+((hiB k (x / 2^k+i+1) (i+1) r).length+1))) by omega]
theorem z4X (k:Nat)(l:List Nat)(v:Nat):QJ k (l++[v])=QJ k l++if l.length=0 then O7 32 (v / 2^k) else []:=by
 cases l with
 |nil=>simp[QJ]
 |cons x l=>simp[QJ]
def WE (l:List Nat)(f:Fm):NH:=Oc (O7 32 f.n++O7 64 f.u)++Oc (R1 f.width l)++Oc (hiB f.width 0 0 l)++Oc (QJ f.width l)
theorem za6 {b:Nat}:∀{l:List Nat},(∀x∈l,x<=b)->l.sum<=l.length*b
 |[],_=>by simp
 | x :: l, h => by
   have h1:=h x List.mem_cons_self;have h2:=za6 (λy hy=>h y (List.mem_cons_of_mem x hy));rw[List.sum_cons,List.length_cons,Nat.add_mul];omega
theorem z7p (k:Nat)(l:List Nat):(QJ k l).length<=32:=by
 cases l with
 |nil=>simp[QJ]
 |cons v l=>simp[QJ]
theorem z0a (k:Nat){l:List Nat}(hn:Nof l){z:Nat}(hz:l[l.length-1]? =some z):(hiB k 0 0 l).length=z / 2^k+l.length:=by
 have:=z6L k l 0 0 hn (λx hx=>Nat.zero_le _) z (by rw[List.getLast?_eq_getElem?];exact hz)
 omega
/-! ### Three writers side by side -/
def z94 (A B:Nat->Prop):Prop:=∀k,A k->¬B k
structure EfW (w0 w:World)(b5:Nat)(f:Fm)(p1 p2 p3:Nat)(l1 l2 l3:List Bool):Prop where
 ex:∃F1 F2 F3:Nat->Prop,Xk w p1 l1 F1/\Xk w p2 l2 F2/\Xk w p3 l3 F3/\z94 F1 F2/\z94 F2 F3/\z94 F3 F1/\∀k,F1 k\/F2 k\/F3 k->w0.heap.size<=k/\k≠b5
 ext:Ext w0 w
 ND:NM w b5 (fmC f) 238
section
variable {w0 w:World}{b5:Nat}{f:Fm}{p1 p2 p3:Nat}{l1 l2 l3:List Bool}
theorem EfW.rot (h:EfW w0 w b5 f p1 p2 p3 l1 l2 l3):EfW w0 w b5 f p2 p3 p1 l2 l3 l1:=by
 obtain⟨⟨F1,F2,F3,h1,h2,h3,h4,h5,h6,h7⟩,hx,hb⟩:=h
 exact⟨⟨F2,F3,F1,h2,h3,h1,h5,h6,h4,λk hk=>h7 k (by rcases hk with e|e|e;exact .inr (.inl e);exact .inr (.inr e);exact .inl e)⟩,hx,hb⟩
theorem EfW.on (h:EfW w0 w b5 f p1 p2 p3 l1 l2 l3){w2:World}(hx:Ext w w2):EfW w0 w2 b5 f p1 p2 p3 l1 l2 l3:=by
 obtain⟨⟨F1,F2,F3,h1,h2,h3,h4,h5,h6,h7⟩,j5,hb⟩:=h
 exact⟨⟨F1,F2,F3,h1.ext hx,h2.ext hx,h3.ext hx,h4,h5,h6,h7⟩,j5.trans hx,hx.ND hb⟩
theorem EfW.zbg (h:EfW w0 w b5 f p1 p2 p3 l1 l2 l3):∃F1,Xk w p1 l1 F1/\¬F1 b5/\(∀w2 l,WrR p1 F1 w w2 l->EfW w0 w2 b5 f p1 p2 p3 l l2 l3):=by
 obtain⟨⟨F1,F2,F3,h1,h2,h3,h4,h5,h6,h7⟩,j5,hb⟩:=h
 refine⟨F1,h1,λe=>(h7 b5 (.inl e)).2 O,λw2 l hr=>?_⟩
 obtain⟨F1',g1,g2,g3⟩:=hr
 have z:=j5.size
 have lb:=hb.lt
 refine⟨⟨F1',F2,F3,g1,h2.kp g2 (λi hi e=>h4 i e hi),h3.kp g2 (λi hi e=>h6 i hi e),λk hk e=>?_,h5,λk hk e=>?_,λk hk=>?_⟩,j5.Nv g2 (λk hk=>(h7 k (.inl hk)).1),g2.ND hb (λe=>(h7 b5 (.inl e)).2 O)⟩
 ·rcases g3 k hk with e1|e1
  ·exact h4 k e1 e
  ·have:=h2.lt e;omega
 ·rcases g3 k e with e1|e1
  ·exact h6 k hk e1
  ·have:=h3.lt hk;omega
 ·rcases hk with hk|hk
  ·rcases g3 k hk with e1|e1
   ·exact h7 k (.inl e1)
   ·exact⟨by omega,by omega⟩
  ·exact h7 k (.inr hk)
theorem EfW.zbw (h:EfW w0 w b5 f p1 p2 p3 l1 l2 l3):∃F2,Xk w p2 l2 F2/\(∀w2 l,WrR p2 F2 w w2 l->EfW w0 w2 b5 f p1 p2 p3 l1 l l3):=by
 obtain⟨F2,h1,-,h2⟩:=h.rot.zbg
 exact⟨F2,h1,λw2 l hr=>(h2 w2 l hr).rot.rot⟩
theorem EfW.zhr (h:EfW w0 w b5 f p1 p2 p3 l1 l2 l3):∃F3,Xk w p3 l3 F3/\(∀w2 l,WrR p3 F3 w w2 l->EfW w0 w2 b5 f p1 p2 p3 l1 l2 l):=by
 obtain⟨F3,h1,-,h2⟩:=h.rot.rot.zbg
 exact⟨F3,h1,λw2 l hr=>(h2 w2 l hr).rot⟩
end
theorem z3a {w:World}{a:Option Addr}{c:Nat}{l:List Nat}(cY:1<=l.length)(hn:l.length<=64)(mv:Nof l)(hm:∀v∈l,v<=999999999)(hR:Rd w (.slice a l.length c) 1 l.length (l.map NW)){z:Nat}(hz:l[l.length-1]? =some z):
  Oa prog 88 [.slice a l.length c] w λv w'=>v= .tuple #[S (WE l (Sw l.length (z+1))),I 0]/\Ext w w':=by
 have MO:=hm z (List.mem_of_getElem? hz)
 have Hg:∀v∈l,v<=z:=λv hv=>by
  obtain⟨j,hj⟩:=List.mem_iff_getElem?.1 hv;obtain⟨a1,a2⟩:=List.getElem?_eq_some_iff.1 hj;obtain⟨b1,b2⟩:=List.getElem?_eq_some_iff.1 hz;rcases Nat.lt_or_ge j (l.length-1) with h| h
  ·have:=List.pairwise_iff_getElem.1 mv j (l.length-1) a1 b1 h
   rwa [a2,b2] at this
  ·have e:j=l.length-1:=by omega
   subst e;rw[hz] at hj;cases hj;exact Nat.le_refl _
 have vP:=Yl (n:=l.length) (u:=z+1) (by omega)
 have o8:=ZM (n:=l.length) (u:=z+1) cY (by omega)
 rw[Nat.add_sub_cancel] at o8
 obtain⟨gb,go,gc',e4⟩:∃b o c',Value.slice a l.length c= .slice (some ⟨b,o,none⟩) l.length c':=by
  rcases hR.2 with⟨c,hc,h0⟩|⟨b,off,c',hc,-⟩
  ·omega
  ·exact⟨b,off,c',hc⟩
 cases e4
 refine Nu (e:=[(0,_)]) func88 O ntmps88 O O$ qN O$ NQ O$ NF O$ py$ qN O$ Nz O$ NZ zgx O (z7E (by omega) mv (λv hv=>by have:=hm v hv;omega) hR) ?_
 rintro _ w ⟨rfl,rfl⟩
 refine qV ((Qr O))$ NB$ It O$ An$ qN O$ NF O$ py$ qN O$ Nz O$ Q0 Y3 O$ P9 O O$ NB$ NN O (λh0=>?_)$ λh0=>?_
 ·refine NC O$ NT O O$ Q0 Y3 O$ Qc O O ?_;rw[show(l.length:Int)-1=((l.length-1:Nat):Int) by omega];refine qV (OH Y3 Tr O O (by omega))$ qV (Oi Qe O O (P6 hR (show(l.map NW)[l.length-1]? =some (NW z) by rw[List.getElem?_map,hz];rfl))) ?_;refine qV (TF O O) ?_;rw[Nat.mod_eq_of_lt (show z+1<18446744073709551616 by omega)];refine NQ O$ qM O$ Nz O$ Q0 Y3 O$ Nz O$ NZ zat O (Wr l.length (z+1) cY (by omega) (by omega) (by omega) _) ?_;rintro _ w1 ⟨rfl,ad⟩
  generalize hf:Sw l.length (z+1)=f
  have JK:f.width=WD l.length (z+1):=by rw[<-hf];rfl
  have qd:f.n=l.length:=by rw[<-hf];rfl
  have B0:f.u=z+1:=by rw[<-hf];rfl
  rw[<-JK] at vP o8;refine NK O O (Qk (cs:=[_,_,_,_]) S2 O) ?_;rintro _ w2 ⟨b5,rfl,ff,ag,aC⟩;refine NP O (OA (news:=fmC f) S2 O O O O aC (by simp)) ?_;rintro w3 ⟨iK,aw⟩;replace iK:NM w3 b5 (fmC f) 238:=iK;have z1:=ad.size;have z2:=ag.size;have lb5:=iK.lt;have aO:Ext w1 w3:=ag.Nv aw (λi e=>by omega);have z3:=aO.size;refine qM O$ NZ Zi O (T8 w3) ?_;rintro _ w4 ⟨p1,F1,rfl,Dl,aB,ph⟩;refine NZ Zi O (T8 w4) ?_;rintro _ w5 ⟨p2,F2,rfl,Hh,aT,Hi⟩;refine NZ Zi O (T8 w5) ?_;rintro _ w6 ⟨p3,F3,rfl,mT,aK,qp⟩;have z4:=aB.size;have z5:=aT.size
  have JL:EfW w w6 b5 f p1 p2 p3 [] [] []:=⟨⟨F1,F2,F3,(Dl.ext aT).ext aK,Hh.ext aK,mT,λk h1 h2=>by have:=Dl.lt h1;have:=Hi k h2;omega,λk h1 h2=>by have:=Hh.lt h1;have:=qp k h2;omega,λk h1 h2=>by have:=Dl.lt h2;have:=qp k h1;omega,λk hk=>by
   rcases hk with h|h| h
   ·have:=ph k h;omega
   ·have:=Hi k h;omega
   ·have:=qp k h;omega⟩,(((ad.trans aO).trans aB).trans aT).trans aK,aK.ND (aT.ND (aB.ND iK))⟩
  refine NQ O$ NQ O$ NF O$ Of.qb (e:=[(0,_),(2,_),(3,_),(4,_),(5,_),(6,_),(7,_),(8,_)]) ?_;refine py$ qN O$ Nz O$ Q0 Y3 O$ Nz O$ NB$ Nw$ Qb (α:=Nat) (0) (λi=>[(4,NW (z+1)),(5,ptr b5 0),(6,ptr p1 0),(7,ptr p2 0),(8,ptr p3 0),(39,.slice (some ⟨gb,go,none⟩) l.length c),(40,I (l.length:Int)),(41,I (i:Int))]) (λi w'=>EfW w w' b5 f p1 p2 p3 (R1 f.width (l.take i)) (hiB f.width 0 0 (l.take i)) (QJ f.width (l.take i))/\i<=l.length) (λi=>l.length-i) ?hI ?hround
  case hI=>exact⟨JL,Nat.zero_le _⟩
  case hround =>
   rintro i w7 ⟨hE,hi⟩ ih
   try dsimp only
   refine qN O$ Pb O O$ NB$ py$ NN O (λh1=>?_)$ λh1=>?_
   ·have dG:i<l.length:=by omega
    obtain⟨v,hv⟩:∃v,l[i]? =some v:=⟨_,List.getElem?_eq_getElem dG⟩;have Dk:=Hg v (List.mem_of_getElem? hv);have Hj:v / 2^f.width<=z / 2^f.width:=Nat.div_le_div_right Dk;have qj:(l.take i).length=i:=by rw[List.length_take];omega
    obtain⟨eg,dc⟩:=z2l f.width (l.take i) 0 0 v (by rw[<-OB hv];exact mv.sublist (List.take_sublist _ _)) (λx hx=>Nat.zero_le _);rw[<-OB hv,Nat.zero_add,Nat.zero_add,qj] at dc;rw[Nat.zero_add,Nat.zero_add,qj] at eg;have JM:(l.take i).length*f.width<=64*30:=Nat.mul_le_mul (by omega) (by omega);have hg:=Ext.NY w7;obtain⟨F1',Dm,xU,dH⟩:=(hE.on hg).zbg;have xV:NM w7 b5 [I (f.n:Int),NW f.u,I (f.width:Int),I (f.bits:Int)] 238:=hE.ND;have lT:=Nat.two_pow_pos f.width;have MP:2^f.width<=2^30:=Nat.pow_le_pow_right (by decide) vP;refine An$ py$ Nw$ qN O$ Nz O$ qV (OH Y3 Tr O O (by omega))$ qV (Oi Qe O O (P6 (hR.ext hE.ext) (show(l.map NW)[i]? =some (NW v) by rw[List.getElem?_map,hv];rfl))) ?_;refine NQ O$ NF O$ py$ PK (λw'=>Kp F1' w7 w') O$ NX 0 O O (hg.kp)$ NX 1 O O (hg.kp)$ NG 2 O (Og RR O) (hg.kp)$ qT 3 O (λ_ h=>NJ U3 O O (h.ND xV xU) O) (hg.kp)$ NG 7 O (Og RR O) (hg.kp)$ qT 8 O (λ_ h=>NJ U3 O O (h.ND xV xU) O) (hg.kp)$ NG 4 O (PV f.width (2^f.width) O O (by omega) O) (hg.kp) ?_;rw[show 1*2^f.width%18446744073709551616=2^f.width by rw[Nat.one_mul];exact Nat.mod_eq_of_lt (by omega)];refine NG 5 O (Uh (m:=2^f.width) (n:=1) O O O (by show 2^f.width<2^64;omega) (by omega)) (hg.kp) ?_;refine NG 6 O (Td O O (by omega) (by omega)) (hg.kp) ?_;rw[Nat.and_two_pow_sub_one_eq_mod];refine Qv 9 O UT O (QS Dm (v%2^f.width) f.width (by omega) (Nat.mod_lt _ lT) (by rw[Tn];omega)) ?_;rintro _ w8 ⟨rfl,fU⟩;refine⟨hg.kp.trans fU.choose_spec.2.1,?_⟩;have B1:=dH _ _ fU;rw[<-z7M,<-OB hv] at B1;have tX:NM w8 b5 [I (f.n:Int),NW f.u,I (f.width:Int),I (f.bits:Int)] 238:=B1.ND;obtain⟨F2',qy,eM⟩:=B1.zbw;refine qE$ qN O$ Nz O$ NO RR O$ qV (NJ U3 O O tX O)$ qV (RS f.width (2^f.width) O O (by show f.width<=64;omega) O) ?_;have dU:=z4X f.width (l.take i) v;rw[<-OB hv,qj] at dU
    generalize v / 2^f.width=vq at eg dc Hj dU
    generalize z / 2^f.width=zq at Hj o8
    refine qV (Ow O Qe U3 (by omega))$ Nz O$ OI O O ?_;rw[show(vq:Int)+(i:Int)=((vq+i:Nat):Int) by omega];refine NF O$ py$ qN O$ NT O O$ NZ z0F O (U6 qy) ?_;rintro _ w8 ⟨rfl,rfl⟩;refine Qc O O ?_
    generalize Dn:(hiB f.width 0 0 (l.take i)).length=HL at eg dc
    rw[show((vq+i:Nat):Int)-(HL:Int)=((vq+i-(HL+0):Nat):Int) by omega];refine NF O$ Nw$ Qb (α:=Nat) (0) (λy=>[(4,NW (z+1)),(5,ptr b5 0),(6,ptr p1 0),(7,ptr p2 0),(8,ptr p3 0),(9,I (i:Int)),(11,I ((vq+i:Nat):Int)),(12,I ((vq+i-(HL+y):Nat):Int)),(39,.slice (some ⟨gb,go,none⟩) l.length c),(40,I (l.length:Int)),(41,I (i:Int))]) (λy w'=>EfW w w' b5 f p1 p2 p3 (R1 f.width (l.take (i+1))) (hiB f.width 0 0 (l.take i)++List.replicate y false) (QJ f.width (l.take i))/\HL+y<=vq+i) (λy=>vq+i-(HL+y)) ?hI ?hround
    case hI=>exact⟨by simpa using B1,eg⟩
    case hround=>
     rintro y w9 ⟨JN,hy⟩ ih2
     try dsimp only
     obtain⟨F2',qy,eM⟩:=JN.zbw;refine py$ qN O$ Nz O$ P9 O O$ NB$ NN O (λh2=>?_)$ λh2=>?_
     ·obtain⟨m,pA,dJ,lq,Hk⟩:∃m,min (vq+i-(HL+y)) 64=m/\1<=m/\m<=64/\HL+y+m<=vq+i:=⟨_,rfl,by omega,by omega,by omega⟩;refine An$ py$ Nw$ NC O$ NT O O$ qV (ymi O O) ?_;rw[show min ((vq+i-(HL+y):Nat):Int) 64=(m:Int) by omega];refine NZ UT O (QS qy 0 m lq (Nat.two_pow_pos _) (by rw[List.length_append,List.length_replicate,Dn];omega)) ?_;rintro _ w10 ⟨rfl,o9⟩;have kw:=eM _ _ o9;rw[Ul,List.append_assoc,List.replicate_append_replicate] at kw;obtain⟨F2'',xW,-⟩:=kw.zbw;refine NB$ Ny$ NC O$ NT O O$ NZ z0F O (U6 xW) ?_;rintro _ w10 ⟨rfl,rfl⟩;rw[show(hiB f.width 0 0 (l.take i)++List.replicate (y+m) false).length=HL+(y+m) by rw[List.length_append,List.length_replicate,Dn]];refine Qc O O ?_;rw[show((vq+i:Nat):Int)-((HL+(y+m):Nat):Int)=((vq+i-(HL+(y+m)):Nat):Int) by omega];refine NF O ?_;exact(ih2 (y+m) _ ⟨kw,by omega⟩ (by omega)).qb
     ·have JO:y=vq+i-HL:=by omega
      subst JO;refine NL O$ qN O$ Nz O$ NZ UT O (QS qy 1 1 (by decide) (by decide) (by rw[List.length_append,List.length_replicate,Dn];omega)) ?_;rintro _ w10 ⟨rfl,o9⟩;have kw:=eM _ _ o9;rw[show O7 1 1=[true] from rfl,List.append_assoc,<-dc] at kw;refine qM O$ Nz O$ qV (yre O O (by omega))$ Px O O$ NB$ NN O (λh3=>?_)$ λh3=>?_
      ·have kl:i=0:=by omega
       obtain⟨F3',Do,qr⟩:=kw.zhr;refine NC O$ NT O O$ qV ((OM O U3 Qe (by omega)))$ NZ UT O (QS Do (vq+i) 32 (by decide) (by show _<2^32;omega) (by rw[kl];show 0+32<=_;omega)) ?_;rintro _ w11 ⟨rfl,Dp⟩;have mw:=qr _ _ Dp;refine NB$ Ny$ NC O$ OI O O$ Nz O$ NB ((ih (i+1) _ ⟨?_,dG⟩ (by omega)).qb);rw[dU,if_pos kl];rw[show vq+i=vq by omega] at mw;exact mw
      ·refine An$ Ny$ NC O$ OI O O$ Nz O$ NB ((ih (i+1) _ ⟨?_,dG⟩ (by omega)).qb);rw[dU,if_neg (by omega),List.append_nil];exact kw
   ·have cu:i=l.length:=by omega
    subst cu;rw[List.take_length] at hE;refine NL O$ qN O$ NZ Zi O (T8 w7) ?_;rintro _ w8 ⟨p4,F4,rfl,mf,dC,Hl⟩;have tX:NM w8 b5 [I (f.n:Int),NW f.u,I (f.width:Int),I (f.bits:Int)] 238:=(hE.on dC).ND;refine NQ O$ qM O$ Nz O$ NO Xd O$ qV (NJ U3 O O tX O)$ qV ((OM O U3 Qe (by omega)))$ NZ UT O (QS mf f.n 32 (by decide) (by show _<2^32;omega) (by simp)) ?_;rintro _ w9 ⟨rfl,F5,B2,aS,vO⟩;have gz:Ext w7 w9:=dC.Nv aS Hl;have z79:=gz.size;refine qM O$ NT O O$ NZ UT O (QS B2 (z+1) 64 (by decide) (by show _<2^64;omega) (by simp)) ?_;rintro _ w10 ⟨rfl,F6,lK,au,MQ⟩
    have rV:Ext w7 w10:=gz.Nv au (λk hk=>by
     rcases vO k hk with e| e
     ·exact Hl k e
     ·have:=dC.size;omega)
    rw[List.nil_append,<-B0] at lK;refine qM O$ NF O$ py$ qN O$ NT O O$ NT O O$ NK O O (Ur (cs:=[_,_,_,_]) (zs:=[Value.pointer none,Value.pointer none,Value.pointer none,Value.pointer none]) zdR z6l O (by kernel_rfl) O O O (by decide)) ?_;rintro _ w11 ⟨b100,rfl,⟨Hm,aQ,Hn⟩,xX⟩;have mw:=hE.on (rV.trans aQ);obtain⟨tx,iL⟩:∃tx:List NH,tx=[Oc (O7 32 f.n++O7 64 f.u),Oc (R1 f.width l),Oc (hiB f.width 0 0 l),Oc (QJ f.width l)]:=⟨_,rfl⟩
    have kS:∀j,(List.take j (List.map List.length tx)).sum<=4000:=λj=>by
     have h1:∀x∈List.take j (List.map List.length tx),x<=1000:=λx hx=>by
      have ag:=List.mem_of_mem_take hx;rw[iL] at ag;have fG:(R1 f.width l).length<=64*30:=by rw[Tn];exact Nat.mul_le_mul hn (by omega)
      have pz:=z0a f.width mv hz;have ic:=z7p f.width l;simp only[List.map_cons,List.map_nil,Ot,List.length_append,bitsN_length] at ag;simp only[List.mem_cons,List.not_mem_nil,or_false] at ag
      generalize z / 2^f.width=zq at o8 pz
      omega
     have h2:=za6 h1;have h3:(List.take j (List.map List.length tx)).length<=4:=by rw[List.length_take,List.length_map,iL];simp;omega
     omega
    have et:∀(j:Nat) (x:NH),tx[j]? =some x->x.length<=4000:=λj x hx=>by
     have h1:=kS (j+1);rw[OB (q:=x.length) (by rw[List.getElem?_map,hx];rfl),List.sum_append] at h1;simp at h1;omega
    have hq:∀j,j<4->∃q bs F,([ptr p4 0,ptr p1 0,ptr p2 0,ptr p3 0]:List Value)[j]? =some (ptr q 0)/\tx[j]? =some (Oc bs)/\Xk w11 q bs F:=λj hj=>by
     obtain⟨F1,h1,-,-⟩:=mw.zbg;obtain⟨F2,h2,-⟩:=mw.zbw;obtain⟨F3,h3,-⟩:=mw.zhr;rw[iL];have Dq:j=0\/j=1\/j=2\/j=3:=by omega
     rcases Dq with e|e|e|e<;>subst e
     ·exact⟨p4,_,_,rfl,rfl,lK.ext aQ⟩
     ·exact⟨p1,_,_,rfl,rfl,h1⟩
     ·exact⟨p2,_,_,rfl,rfl,h2⟩
     ·exact⟨p3,_,_,rfl,rfl,h3⟩
    refine Q0 zdR O$ Nz O$ NB$ Of.qb (e:=[(14,_),(100,_),(101,_),(102,_)]) ?_;refine Nw$ Qb (α:=Nat) (0) (λj=>[(14,S ((tx.take j).flatten)),(100,.slice (some ⟨b100,0,none⟩) 4 4),(101,I 4),(102,I (j:Int))]) (λj w'=>w'=w11/\j<=4) (λj=>4-j) ?hI ?hround
    case hI=>exact⟨rfl,Nat.zero_le _⟩
    case hround=>
     rintro j w12 ⟨rfl,hj⟩ ih2
     try dsimp only
     refine qN O$ Pb O O$ NB$ py$ NN O (λh2=>?_)$ λh2=>?_
     ·obtain⟨q,bs,F,g1,g2,g3⟩:=hq j (by omega);have MR:=kS j;have MS:=et j _ g2;refine An$ py$ Nw$ qN O$ qV (OH zdR z6l O O (by omega))$ qV (Oi z1E O O (P6 xX.rd g1))$ NQ O$ qM O$ Nz O$ NZ z6v O (VA g3) ?_;rintro _ w12 ⟨rfl,rfl⟩;refine Nz O$ ON O O$ qV (Q8 (v:=I 0) O O)$ NQ O$ NF O$ py$ qN O$ Nz O$ P3 O O$ NB$ It O$ An$ NC O$ NT O O ?_;refine qV (S9 O O (by first|omega|(simp;done)|(simp;omega))) ?_;refine NF O$ Ny$ NC O$ OI O O$ Nz O$ NB ?_;rw[show(tx.take j).flatten++Oc bs=(tx.take (j+1)).flatten by rw[OB g2,List.flatten_append];simp];exact(ih2 (j+1) _ ⟨rfl,by omega⟩ (by omega)).qb
     ·have Dq:j=4:=by omega
      subst Dq;refine NL O$ qN O$ Nz O$ NQ O$ NF O$ NA func88 O (⟨_,rfl,?_,(hE.ext.trans rV).trans aQ⟩);rw[iL];simp[OR,WE]
 ·omega
end Go.Proofs.YtfgjaafcgghnoaaGreatDoor
