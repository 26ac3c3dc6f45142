/- Merged by program. -/
import Derived.Test.YtbihggbffaigjaaGreatDoorZc3
set_option linter.all false
set_option maxRecDepth 1000000
set_option maxHeartbeats 16000000
namespace Go.Proofs.YtbihggbffaigjaaGreatDoor
open Go Go.RowKit Go.Proofs.Tryz
def Yj {w:World}(p:RN)(hp:p.Qj)(x:Nat)(hx:x<65536){sa ra:Option Addr}{sc rc:Nat}(succ ref:List Nat)(hs:Pq succ)(hr:Pq ref)(r:Nat)(j7:r<=p.OY)(lB:r=0->ref=[])
  (hG:OE w 1 (S6 .gamma) 314) (hU:OE w 2 (S6 .unary) 314) (et:Rd w (.slice sa succ.length sc) 1 succ.length (succ.map Pn)) (lI:Rd w (.slice ra ref.length rc) 1 ref.length (ref.map Pn)) (fN:succ.length<=sc) (nh:ref.length<=rc):
  P9 prog 199 [lpV p,I (x:Int),.slice sa succ.length sc,.slice ra ref.length rc,I (r:Int)] w λu w'=>Sl w' u 316 3 (Rm p x succ ref r).length ((Rm p x succ ref r).flatMap z61)/\(∀g,u.ownBlock=some g->w.heap.size<=g)/\Ext w w':=by
 obtain⟨g1,g2,g3,g4⟩:=id hp
 have gG:=hs.len
 have gV:=hr.len
 refine py (e:=[(0,_),(1,_),(2,_),(3,_),(4,_)]) func199 O ntmps199 O O$ qN O$ Oy O O (R9 O (cs:=ZK p) O) ?_
 rintro _ w1 ⟨b5,rfl,fR,ad,aD⟩
 have z1:=ad.size
 have l5:=aD.lt
 refine QL O$ qV (Pa (news:=[.int .u8 1,ON 0]) Sg O Qx O ((ad.On hG).cells (n:=2) O) O)$ OC O$ Ro Ph O$ qV ((PO O U3 R7 ω))$ qV (Sa (cs:=[_,_,_]) Vf O zd0 O O)$ Oy O O (XM (cs:=[_,_,_]) (zs:=[Value.int .u8 0,Value.int .u64 0,Value.int .u64 0]) z0s Vf O (by kernel_rfl) O O O ψ) ?_
 rintro _ w2 ⟨b2,rfl,⟨bP,ae,ak⟩,cU⟩
 have z2:=ae.size
 have l2:=ak.lt
 refine Oy O O (Rq (cs:=[_]) zaU O) ?_
 rintro _ w3 ⟨n11,rfl,j0,aj,aX⟩
 have z3:=aj.size
 refine OJ O (Qw zaU O O O aX ξ) ?_
 rintro w4 ⟨kP,aq⟩
 have z4:=aq.size
 replace kP:OE w4 n11 [.slice (some ⟨b2,0,none⟩) 1 1] 311:=kP
 have ep:=(cU.ext aj).kp aq (λg hg e=>by have h1:b2=g:=Rh hg;omega)
 have vC:NuI w w1 p b5 n11 [(.gamma,succ.length)] w4:=⟨⟨fpW n11 (.slice (some ⟨b2,0,none⟩) 1 1),⟨_,⟨kP,ep,λe=>by have h1:b2=n11:=Rh e;omega⟩,λ_=>Iff.rfl⟩,λk hk=>by
   rcases hk with e| e
   ·omega
   ·have h1:b2=k:=Rh e
    omega⟩,((ad.trans ae).trans aj).It aq (λk e=>by omega),aq.On (aj.On (ae.On aD)) ω,ω⟩
 refine Oq$ Pz O$ Ro Ph O$ QS O$ Oq$ OH O (λe0=>?_)$ λe0=>?_
 ·have eQ:succ=[]:=List.eq_nil_of_length_eq_zero ω;subst eQ;refine qN O$ qV (OB z0s O O kP O)$ OK O$ Oo func199 O ?_;have lH:Rm p x [] ref r=[(.gamma,0)]:=by simp[Rm]
  rw[lH];exact⟨_,rfl,ep,λg hg=>by have h1:b2=g:=Rh hg;omega,vC.ext⟩
 ·have gO := vC.b5; replace gO : OE w4 b5 [I (p.OY : Int), I (p.interval : Int), I (p.zeta : Int)] 276 := gO; refine Ot (qN O (qV (ymf (first := []) (caps := [.tmp 11]) O O) (OK O (An (qN O (OL Tf O (qV (OB U3 O O gO O) (Qr O (Oq (Pw (λe' w' => e' = [(1, I (x : Int)), (2, .slice sa succ.length sc), (3, .slice ra ref.length rc), (4, I (r : Int)), (5, ptr b5 0), (11, ptr n11 0), (12, .func (.func 220) #[] #[ptr n11 0])] /\ NuI w w1 p b5 n11 ([(.gamma, succ.length)] ++ (if 0 < p.OY then [(.unary, r)] else [])) w') ?bD (λbD => ?de)))))))))))
  case bD =>
   rintro e' w5 ⟨rfl,sU⟩;have Cr:=sU.siz;refine qN O (Oy O O (XM (cs:=[_]) (zs:=[Value.int .i64 0]) Rl PH O (by kernel_rfl) O O O ψ) ?_);rintro _ w6 ⟨b43,rfl,⟨Ct,aQ,dP⟩,ni⟩;have l6:=dP.lt;refine Oy O O (Rq (cs:=[_]) z6i O) ?_;rintro _ w7 ⟨rn,rfl,JK,ci,wS⟩;have l7:=wS.lt;have z7:=ci.size;refine Oy O O (Rq (cs:=[_]) TD O) ?_;rintro _ w8 ⟨lf,rfl,JL,cz,wT⟩;have l8:=wT.lt;have z8:=cz.size;refine OJ O (Qw z6i O O O (cz.On wS) ξ) ?_;rintro w9 ⟨nj,aK⟩;have z9:=aK.size;replace nj:OE w9 rn [.slice (some ⟨b43,0,none⟩) 1 1] 37:=nj;refine OJ O (Qw TD O O O (aK.On wT ω) ξ) ?_;rintro w10 ⟨jU,aA⟩;have z10:=aA.size;replace jU:OE w10 lf [.slice none 0 0] 40:=jU;have g9:Ext w5 w10:=(((aQ.trans ci).trans cz).It aK (λk e=>by omega)).It aA (λk e=>by omega)
   have pw:NuI w w1 p b5 n11 ([(.gamma,succ.length)]++(if 0<p.OY then [(.unary,r)] else [])) w10:=by
    obtain⟨⟨F,h1,h2⟩,h3,h4,h5⟩:=sU;exact⟨⟨F,h1.ext g9,h2⟩,h3.trans g9,g9.On h4,by have:=g9.size;omega⟩
   have cj:=(((ni.ext ci).ext cz).kp aK (λg hg e=>by have h1:b43=g:=Rh hg;omega)).kp aA (λg hg e=>by have h1:b43=g:=Rh hg;omega);have JM:z2x w10 lf [] (fpW lf (.slice none 0 0)):=⟨_,⟨jU,Sl.nil _ _ _,λe=>by cases e⟩,λ_=>Iff.rfl⟩;have JN:z1u w10 rn [0] (fpW rn (.slice (some ⟨b43,0,none⟩) 1 1)):=⟨_,⟨aA.On nj ω,cj,λe=>by have h1:b43=rn:=Rh e;omega⟩,λ_=>Iff.rfl⟩
   have lJ:∀k,fpW lf (.slice none 0 0) k->k=lf:=λk hk=>by
    rcases hk with e| e
    ·exact e
    ·cases e
   have jv:∀k,fpW rn (.slice (some ⟨b43,0,none⟩) 1 1) k->k=rn\/k=b43:=λk hk=>by
    rcases hk with e| e
    ·exact .inl e
    ·exact .inr (Rh e).symm
   have cN:∀k,fpW lf (.slice none 0 0) k\/fpW rn (.slice (some ⟨b43,0,none⟩) 1 1) k->w5.heap.size<=k:=λk hk=>by
    rcases hk with e| e
    ·have:=lJ k e;omega
    ·rcases jv k e with e|e<;>omega
   have hE:TN w10 succ ref lf rn (fpW lf (.slice none 0 0)) (fpW rn (.slice (some ⟨b43,0,none⟩) 1 1)) succ sa sc ref ra rc [] [0] w10:=by
    refine⟨⟨_,_,[],JM,JN,Tj.zero,by simpa using gV,by simp;omega,λk h=> .inl h,λk h=> .inl h,λk h1 h2=>?_⟩,λw2 k=>?_,λw2 k=>?_,fN,nh,Kp.refl _ _,hs,hr,rfl,rfl,by simpa using gG⟩
    ·have e1:=lJ k h1;rcases jv k h2 with e2|e2<;>omega
    ·exact(et.ext pw.ext).kpz k (λh0 g hg hS=>by have e1:=et.ltz ψ h0 hg;have e2:=cN g hS;omega)
    ·exact(lI.ext pw.ext).kpz k (λh0 g hg hS=>by have e1:=lI.ltz ψ h0 hg;have e2:=cN g hS;omega)
   refine qM O$ OX O$ qV (ymf (first:=[]) (caps:=[.tmp 14,.tmp 13]) O O)$ OQ zh6 O (zah hE) ?_;rintro _ w11 ⟨rfl,FL,FR,wU,px,Cu,Cv,mO,bz⟩
   have pz:NuI w w1 p b5 n11 ([(.gamma,succ.length)]++(if 0<p.OY then [(.unary,r)] else [])) w11:=by
    have aV:Kp (λk=>fpW lf (.slice none 0 0) k\/fpW rn (.slice (some ⟨b43,0,none⟩) 1 1) k) w10 w11:=bz;have Cw:=sU.ex;obtain⟨⟨F,h1,h2⟩,h3,h4,h5⟩:=pw;obtain⟨F5,h6,h7⟩:=Cw;have fR:b5<w5.heap.size:=sU.b5.lt;refine⟨⟨F5,(h6.ext g9).kp aV (λk hk hS=>by have e1:=h6.lt hk;have e2:=cN k hS;omega),h7⟩,h3.It aV (λk hk=>by have e2:=cN k hk;have:=sU.ext.size;omega),aV.On h4 (λhS=>by have e2:=cN b5 hS;omega),by have:=aV.size;omega⟩
   generalize hA:([(Cd.gamma,succ.length)]++(if 0<p.OY then [(Cd.unary,r)] else []):List (Cd×Nat))=A at pz pw sU
   have JO:A.length<=2:=by rw[<-hA];split<;>simp
   have wV:∀k,(FL k\/FR k)->k<w11.heap.size:=λk hk=>by
    rcases hk with e| e
    ·exact wU.lt e
    ·exact px.lt e
   have pA:NuX w w1 w11 p b5 n11 (λk=>FL k\/FR k) A w11:=by
    obtain⟨F5,h6,h7⟩:=sU.ex;have Nw:=g9.size;refine⟨⟨F5,(h6.ext g9).kp bz (λk hk hS=>by have e1:=h6.lt hk;have e2:=cN k hS;omega),h7,λk hk hX=>?_⟩,pz.ext,pz.b5,pz.siz,Kp.refl _ _⟩;have e1:=h6.lt hk;rcases hX with e| e
    ·rcases Cu k e with e2|e2
     ·have:=cN k (.inl e2);omega
     ·omega
    ·rcases Cv k e with e2|e2
     ·have:=cN k (.inr e2);omega
     ·omega
   refine Oq$ Pz O$ Qr O$ Oq$ Pw (λe' w'=>e'=[(1,I (x:Int)),(5,ptr b5 0),(11,ptr n11 0),(12,.func (.func 220) #[] #[ptr n11 0]),(14,ptr lf 0)]/\NuX w w1 w11 p b5 n11 (λk=>FL k\/FR k) (A++(if 0<r then(.gamma,(QZ succ ref).length-1)::Q7 0 (QZ succ ref).dropLast else [])) w') ?cS$ λcS=>?fQ
   case cS =>
    rintro e' w12 ⟨rfl,j8⟩;have j9:succ≠[]:=λe=>e0 (by rw[e];rfl)
    generalize hB:(if 0<r then(Cd.gamma,(QZ succ ref).length-1)::Q7 0 (QZ succ ref).dropLast else []:List (Cd×Nat))=B at j8
    have wW:=wU.kp j8.kx (λk hk e=>e (.inl hk));obtain⟨vl,vD,Ny⟩:=wW;obtain⟨la,lc,rfl,-⟩:=vD.sl.rd.shape;obtain⟨F,⟨vn,qY,wX⟩,pB,Cy⟩:=id j8.ex;have HD:=vD.On;have Cz:=qY.On;refine An$ qN O$ qV ((OB Ph O O HD O))$ Ro Ph O$ QS O$ Oq$ OH O (λe3=>?_)$ λe3=>?_
    ·have i8:P3 succ ref=[]:=List.eq_nil_of_length_eq_zero ω
     have nl:Rm p x succ ref r=A++B:=by
      unfold Rm;rw[if_neg j9,if_pos i8,List.append_nil,<-hA,<-hB];rfl
     refine qN O$ qV ((OB z0s O O Cz O))$ OK O$ Oo func199 O ?_;rw[nl];exact⟨_,rfl,qY.sl,λg hg=>by have:=pB g ((wX g).2 (.inr hg));omega,j8.ext⟩
    ·have qZ := j8.b5; replace qZ : OE w12 b5 [I (p.OY : Int), I (p.interval : Int), I (p.zeta : Int)] 276 := qZ; refine Ot (qN O (qV ((OB Ph O O HD O)) (OL TP O (qV ((OB U3 O O qZ O)) ?_)))); have aw : Pq (P3 succ ref) := hs.sub List.filter_sublist; have JP := aw.len
     have oO:(P3 succ ref).length<=lc:=by
      rcases vD.sl.shape with⟨-,h0⟩|⟨g,c1,hv,fU⟩
      ·omega
      ·cases hv;exact fU
     refine OQ zf6 O (zac la lc (P3 succ ref) p.interval aw oO ω w12 vD.sl.rd) ?_;rintro _ w13 ⟨v4,v5,rfl,lK,nq,aU,pC,sV,HE⟩;have dC:=Um p.interval (P3 succ ref);have pD:Pq (PE p.interval (P3 succ ref)).2:=aw.sub dC
     have fB:∀k,(v4.ownBlock=some k\/v5.ownBlock=some k)->w12.heap.size<=k/\k<w13.heap.size:=λk hk=>by
      rcases hk with e| e
      ·exact⟨pC k e,lK.lt e⟩
      ·exact⟨sV k e,nq.lt e⟩
     have pE:NuX w w1 w13 p b5 n11 (λk=>v4.ownBlock=some k\/v5.ownBlock=some k) (A++B) w13:=by
      have jI:∀k,F k->k<w12.heap.size:=λk hk=>by
       rcases (wX k).1 hk with e| e
       ·rw[e];exact qY.On.lt
       ·exact qY.sl.lt e
      have wY:z4Z w12 n11 (A++B) F:=⟨vn,qY,wX⟩;exact⟨⟨F,wY.ext aU,pB,λk hk hX=>by have e1:=jI k hk;have e2:=(fB k hX).1;omega⟩,j8.ext.trans aU,aU.On j8.b5,by have e1:=j8.siz;have e2:=aU.size;omega,Kp.refl _ _⟩
     have wZ:=aU.On qZ;have JQ:=lK.oneV;have JR:=nq.oneV;refine OC O$ Sw O$ Qd O$ An$ qN O$ OL TP O$ qV (OB U3 O O wZ O)$ Qr O$ Oq ?_
     have JS:(A++B).length<=200000:=by
      rw[List.length_append,<-hB];split
      ·rw[List.length_cons,SV,List.length_dropLast];have h1:=(SY succ ref).z14;rw[List.length_map] at h1;omega
      ·simp;omega
     generalize hQ:PE p.interval (P3 succ ref)=Q at lK nq pD dC
     have Nz:Q.1.length<=65536:=by
      have h1:=Tr p.interval (P3 succ ref);have h2:=h1.length_eq;rw[hQ,List.length_append] at h2
      have h3:∀R:List (Nat×Nat),SN p.interval 0 R->R.length<=(QC R).length:=by
       have h4:∀(R:List (Nat×Nat)) (lo:Nat),SN p.interval lo R->R.length<=(QC R).length:=by
        intro R
        induction R with
        |nil=>intro lo h;exact Nat.le_refl _
        | cons q R ih =>
          intro lo h;have h5:=ih _ h.2.2.2;have h6:1<=q.2:=h.2.1;rw[show QC (q::R)=(List.range q.2).map (q.1+·)++QC R from rfl,List.length_append,List.length_map,List.length_range,List.length_cons];omega
       exact λR h=>h4 R 0 h
      have h5:=h3 _ (UG p.interval (P3 succ ref) 0 aw.ris (λy _=>Nat.zero_le _));rw[hQ] at h5;omega
     have pF:SN p.interval 0 Q.1:=by have h:=UG p.interval (P3 succ ref) 0 aw.ris (λy _=>Nat.zero_le _);rwa [hQ] at h
     have sW:∀q∈Q.1,1<=q.2->q.1+q.2<=65536:=λq hq h1=>z9x (least:=p.interval) aw.lt (by rw[hQ];exact hq) h1
     have x7:∃fa fc,v4= .slice fa Q.1.length fc:=by
      obtain⟨fa,fc,e,-⟩:=lK.rd.shape;exact⟨fa,fc,e⟩
     obtain⟨fa,fc,rfl⟩:=x7;refine Pw (λe' w'=>e'=[(1,I (x:Int)),(5,ptr b5 0),(11,ptr n11 0),(12,.func (.func 220) #[] #[ptr n11 0]),(17,.slice fa Q.1.length fc),(18,v5)]/\NuX w w1 w13 p b5 n11 (λk=>(Value.slice fa Q.1.length fc).ownBlock=some k\/v5.ownBlock=some k) (A++B++if 0<p.interval then [(.gamma,Q.1.length)] else []) w') ?au$ λau=>?dX
     case au =>
      rintro e' w14 ⟨rfl,x8⟩;refine QB O$ Pz O$ Ro zaZ O$ OC O$ Oq$ Ou ?_
      generalize CA:(if 0<p.interval then [(Cd.gamma,Q.1.length)] else []:List (Cd×Nat))=C0 at x8
      refine RP (λe' w'=>e'=[(1,I (x:Int)),(5,ptr b5 0),(11,ptr n11 0),(12,.func (.func 220) #[] #[ptr n11 0]),(18,v5)]/\NuX w w1 w13 p b5 n11 (λk=>(Value.slice fa Q.1.length fc).ownBlock=some k\/v5.ownBlock=some k) (A++B++C0++Pv x p.interval none Q.1) w') ?bX$ λbX=>?na
      case bX =>
       rintro e' w15 ⟨rfl,gd⟩;obtain⟨F15,ge,lL,ja⟩:=gd.ex;have ns:=gd.b5;replace ns:OE w15 b5 [I (p.OY:Int),I (p.interval:Int),I (p.zeta:Int)] 276:=ns;refine qN O (OL z04 O (qV (OB U3 O O ns O) (qV ((PO O U3 R7 ω)) (qV (Sa (cs:=[_,_]) Qx O zdU O O) (Oy O O (Rq (cs:=[_,_]) Qx O) ?_)))));rintro _ w16 ⟨b22,rfl,JT,aZ,ii⟩;have z16:=aZ.size;refine OJ O (Py (news:=[.int .u8 3,ON p.zeta]) Qx O O O O ii ξ) ?_;rintro w17 ⟨kQ,dD⟩;replace kQ:OE w17 b22 [.int .u8 3,ON p.zeta] 314:=kQ;have cY:Ext w15 w17:=aZ.It dD (λk e=>by omega);have z17:=cY.size;have iP:¬F15 b22:=λe=>by have:=ge.lt e;omega
       have ij:=(nq.kp gd.kx (λg hg e=>e (.inr hg))).ext cY
       obtain⟨ha,hc,e5⟩:∃a c,v5= .slice a Q.2.length c:=by
        obtain⟨fa,fc,e,-⟩:=nq.rd.shape;exact⟨fa,fc,e⟩
       subst e5;have lM:=(gd.ex2 cY).again (X':=λk=>(Value.slice ha Q.2.length hc).ownBlock=some k\/k=b22) (ge.ext cY) lL (λk hk hX=>by rcases hX with hX|e;exact ja k hk (.inr hX);exact iP (e▸hk));have l22:=kQ.lt
       have oP:∀k,((Value.slice ha Q.2.length hc).ownBlock=some k\/k=b22)->k<w17.heap.size:=λk hk=>by
        rcases hk with e| e
        ·have:=ij.lt e;omega
        ·omega
       have x9:=pD.len
       have JU:(A++B++C0++Pv x p.interval none Q.1).length<=400000:=by
        rw[List.length_append,List.length_append,Sb,<-CA];split<;>simp only[List.length_cons,List.length_nil]<;>omega
       refine Oq$ Pz O$ Ro Ph O$ OC O$ Oq$ Ou$ Rw (α:=Nat) (0) (λi=>[(1,I (x:Int)),(11,ptr n11 0),(12,.func (.func 220) #[] #[ptr n11 0]),(18,.slice ha Q.2.length hc),(22,ptr b22 0),(138,.slice ha Q.2.length hc),(139,I (Q.2.length:Int)),(140,I (i:Int))]) (λi w'=>NuX w w1 w17 p b5 n11 (λk=>(Value.slice ha Q.2.length hc).ownBlock=some k\/k=b22) (A++B++C0++Pv x p.interval none Q.1++Px x p.zeta none (Q.2.take i)) w'/\i<=Q.2.length) (λi=>Q.2.length-i) ?hI ?hround
       case hI=>exact⟨by simpa[Px] using lM,Nat.zero_le _⟩
       case hround=>
        rintro i w18 ⟨eU,hi⟩ ih
        try dsimp only
        refine qN O$ Qv O$ Oq$ An$ OH O (λe5=>?_)$ λe5=>?_
        ·have dt:i<Q.2.length:=by omega
         obtain⟨v,hv⟩:∃v,Q.2[i]? =some v:=⟨_,List.getElem?_eq_getElem dt⟩;have xa:v<65536:=pD.lt v (List.mem_of_getElem? hv);have ik:=ij.kp eU.kx (λg hg e=>e (.inl hg))
         obtain⟨g5,c5,e6⟩:∃g c,Value.slice ha Q.2.length hc= .slice (some ⟨g,0,none⟩) Q.2.length c:=by
          rcases ij.shape with⟨-,h0⟩|⟨g,c,e,hc⟩
          ·omega
          ·exact⟨g,c,e⟩
         cases e6;obtain⟨F18,kR,pG,gZ⟩:=eU.ex;have xc:=eU.kx.On kQ (λe=>e (.inr O));have rf:¬F18 b22:=λe=>gZ b22 e (.inr O);have hg:=Ext.OT w18;have AU:=eU.ex2 hg
         have pH:(A++B++C0++Pv x p.interval none Q.1++Px x p.zeta none (Q.2.take i)).length<=500000:=by
          rw[List.length_append,T4,List.length_take];omega
         refine Ot (Qt (P7 O (qV (PK Ph OS O O ω) (qV (Pc QA O O (PM ik.rd (show(Q.2.map Pn)[i]? =some (Pn v) by rw[List.getElem?_map,hv];rfl))) ?_))));refine Si O$ QO O$ QS O$ Oq$ OH O (λe6=>?_)$ λe6=>?_
         ·have dh:i=0:=by omega
          refine R8 (λw'=>Kp F18 w18 w') O (OR 0 O O (hg.kp) (OR 2 O O (hg.kp) (Ow 3 O (Ps O QA U2 ω) (hg.kp) (OR 4 O O (hg.kp) (Ow 5 O (X8 O O ω) (hg.kp) (qT 1 O (λ_ h=>Pa (news:=[.int .u8 3,ON p.zeta]) Sg O Qx O ((h.On xc rf).cells (n:=2) O) O) (hg.kp) (SH 6 O zdl O (z7r ((v:Int)-x) ω _) ?_)))))));rintro _ w19 ⟨rfl,rfl⟩;refine⟨hg.kp,?_⟩;have xd:=Z1 (z:=(v:Int)-x) (n:=65537) ω ω;refine Ow 7 O (Ps O R7 U3 ω) (hg.kp) (qO 8 (W9 (i:=8) O O O (RY XW O O) (T9 (kR.ext hg) ω (.zeta p.zeta) (zig ((v:Int)-x)) ω) ?_));rintro _ w20 ⟨rfl,F20,sX,nt,sY⟩;refine⟨hg.kp.trans nt,?_⟩;have pI:=AU.put oP pG gZ l5 z1 ⟨F20,sX,nt,sY⟩;refine qE (Om (Oz O (PL O (OC O (Oq ((ih (i+1) _ ⟨?_,ω⟩ ω).qb))))));rw[PA hv,X4,<-List.append_assoc,show Q.2.take i=[] by rw[dh];rfl];rw[show Q.2.take i=[] by rw[dh];rfl] at pI;exact pI
         ·have dh:0<i:=by omega
          obtain⟨u,hu⟩:∃u,Q.2[i-1]? =some u:=⟨_,List.getElem?_eq_getElem ω⟩
          have NA:u<v:=by
           obtain⟨a1,a2⟩:=List.getElem?_eq_some_iff.1 hu;obtain⟨b1,b2⟩:=List.getElem?_eq_some_iff.1 hv;have:=List.pairwise_iff_getElem.1 pD.ris (i-1) i a1 b1 ω
           rwa [a2,b2] at this
          refine R8 (λw'=>Kp F18 w18 w') O (OR 0 O O (hg.kp) (OR 2 O O (hg.kp) (OR 3 O O (hg.kp) (OR 4 O O (hg.kp) (qT 1 O (λ_ h=>Pa (news:=[.int .u8 3,ON p.zeta]) Sg O Qx O ((h.On xc rf).cells (n:=2) O) O) (hg.kp) (Ow 5 O (X8 O O ω) (hg.kp) ?_))))));rw[show(i:Int)-1=((i-1:Nat):Int) by omega];refine Ow 6 O (PK Ph OS O O ω) (hg.kp) (qT 7 O (λ_ hS=>Pc QA O O (PM (ik.kp hS (λg hg e=>gZ g e (.inl hg))).rd (show(Q.2.map Pn)[i-1]? =some (Pn u) by rw[List.getElem?_map,hu];rfl))) (hg.kp) ?_);refine Ow 8 O (Wh (m:=v) (n:=u) O O O (by show v<2^32;omega) ω) (hg.kp) ?_;refine Ow 9 O (Wh (m:=v-u) (n:=1) O O O (by show v-u<2^32;omega) ω) (hg.kp) ?_;refine Ow 10 O (Ps O QA U3 ω) (hg.kp) (qO 11 (W9 (i:=11) O O O (RY XW O O) (T9 (kR.ext hg) ω (.zeta p.zeta) (v-u-1) ω) ?_));rintro _ w20 ⟨rfl,F20,sX,nt,sY⟩;refine⟨hg.kp.trans nt,?_⟩;have pI:=AU.put oP pG gZ l5 z1 ⟨F20,sX,nt,sY⟩;refine qE (Om (Oz O (PL O (OC O (Oq ((ih (i+1) _ ⟨?_,ω⟩ ω).qb))))));rw[PA hv,X4,<-List.append_assoc,List.getLast?_take,if_neg ω,hu];exact pI
        ·have dq:i=Q.2.length:=by omega
         rw[dq,List.take_length] at eU;obtain⟨F,⟨vn,qY,wX⟩,pB,Cy⟩:=id eU.ex;have Cz:=qY.On
         have nl:Rm p x succ ref r=A++B++C0++Pv x p.interval none Q.1++Px x p.zeta none Q.2:=by
          have i8:¬P3 succ ref=[]:=λe=>e3 (by rw[e];rfl);unfold Rm;rw[if_neg j9,if_neg i8,hQ,hB,<-hA,<-CA];by_cases dh:0<p.interval
          ·simp only[if_pos dh,List.append_assoc,List.cons_append,List.nil_append]
          ·have ce:Q.1=[]:=by rw[<-hQ,show p.interval=0 by omega];exact XG _
           rw[ce];simp only[if_neg dh,List.append_assoc,List.cons_append,List.nil_append,Pv]
         refine OD O$ qN O$ qV (OB z0s O O Cz O)$ OK O$ Oo func199 O ?_;rw[nl];exact⟨_,rfl,qY.sl,λg hg=>by have:=pB g ((wX g).2 (.inr hg));omega,eU.ext⟩
      case na=>
       refine Rw (α:=Nat) (0) (λi=>[(1,I (x:Int)),(5,ptr b5 0),(11,ptr n11 0),(12,.func (.func 220) #[] #[ptr n11 0]),(18,v5),(19,I (z58 (YA (Q.1.take i)))),(94,.slice fa Q.1.length fc),(95,I (Q.1.length:Int)),(96,I (i:Int))]) (λi w'=>NuX w w1 w13 p b5 n11 (λk=>(Value.slice fa Q.1.length fc).ownBlock=some k\/v5.ownBlock=some k) (A++B++C0++Pv x p.interval none (Q.1.take i)) w'/\i<=Q.1.length) (λi=>Q.1.length-i) ?hI ?hround
       case hI=>exact⟨by simpa[Pv] using x8,Nat.zero_le _⟩
       case hround =>
        rintro i w15 ⟨gd,hi⟩ ih
        try dsimp only
        refine qN O$ Qv O$ Oq$ An$ OH O (λe5=>?_)$ λe5=>?_
        ·have dt:i<Q.1.length:=by omega
         obtain⟨⟨q1,q2⟩,hq⟩:∃q,Q.1[i]? =some q:=⟨_,List.getElem?_eq_getElem dt⟩;obtain⟨ok1,ok2,ok3,-⟩:=Z0 Q.1 0 i (q1,q2) pF hq;dsimp only at ok1 ok2 ok3;have NB:q1+q2<=65536:=sW (q1,q2) (List.mem_of_getElem? hq) ok1;have CB:=lK.kp gd.kx (λg hg e=>e (.inl hg))
         obtain⟨g4,c4,e4⟩:∃g c,Value.slice fa Q.1.length fc= .slice (some ⟨g,0,none⟩) Q.1.length c:=by
          rcases lK.shape with⟨-,h0⟩|⟨g,c,e,hc⟩
          ·omega
          ·exact⟨g,c,e⟩
         cases e4;obtain⟨F15,ge,lL,ja⟩:=gd.ex;refine Ot (Qt (qN O (qV (PK zaZ z0r O O ω) (qV (Pa (news:=[I (q1:Int),I (q2:Int)]) ziL O z0r O (zao CB.rd hq) O) (Oy O O (Rq (cs:=[_,_]) z0r O) ?_)))));rintro _ w16 ⟨b21,rfl,JV,aZ,CC⟩;have z16:=aZ.size;refine OJ O (Py (news:=[I (q1:Int),I (q2:Int)]) z0r O O O O CC ξ) ?_;rintro w17 ⟨gj,dD⟩;replace gj:OE w17 b21 [I (q1:Int),I (q2:Int)] 348:=gj;have cY:Ext w15 w17:=aZ.It dD (λk e=>by omega);have lM:=gd.ex2 cY;have iP:¬F15 b21:=λe=>by have:=ge.lt e;omega
         have oI:¬F15 1:=λe=>by have:=lL 1 e;have:=hG.lt;omega
         have JU:(A++B++C0++Pv x p.interval none (Q.1.take i)).length<=400000:=by
          rw[List.length_append,List.length_append,Sb,List.length_take,<-CA];split<;>simp only[List.length_cons,List.length_nil]<;>omega
         refine Oq$ Pz O$ Qv O$ Oq ?_;have rg:=lM.again (X':=(λk=>((Value.slice (some ⟨g4,0,none⟩) Q.1.length fc).ownBlock=some k\/v5.ownBlock=some k)\/k=b21)) (ge.ext cY) lL (λk hk hX=>by rcases hX with hX|e;exact ja k hk hX;exact iP (e▸hk));have JW:=cY.size;have l21:=gj.lt
         have oP:∀k,(((Value.slice (some ⟨g4,0,none⟩) Q.1.length fc).ownBlock=some k\/v5.ownBlock=some k)\/k=b21)->k<w17.heap.size:=λk hk=>by
          rcases hk with e| e
          ·have:=(fB k e).2;have:=gd.kx.size;omega
          ·omega
         refine Pw (λe' w'=>e'=[(1,I (x:Int)),(5,ptr b5 0),(11,ptr n11 0),(12,.func (.func 220) #[] #[ptr n11 0]),(18,v5),(21,ptr b21 0),(94,.slice (some ⟨g4,0,none⟩) Q.1.length fc),(95,I (Q.1.length:Int)),(96,I (i:Int))]/\NuX w w1 w17 p b5 n11 (λk=>((Value.slice (some ⟨g4,0,none⟩) Q.1.length fc).ownBlock=some k\/v5.ownBlock=some k)\/k=b21) (A++B++C0++Pv x p.interval none (Q.1.take i)++[(.gamma,Ub x (YA (Q.1.take i)) q1)]) w') ?cC$ λcC=>?CE
         case cC=>
          rintro e' w18 ⟨rfl,eU⟩;obtain⟨F18,kR,pG,gZ⟩:=eU.ex;have xe:=eU.kx.On gj (λe=>e (.inr O));have nu:=eU.b5;replace nu:OE w18 b5 [I (p.OY:Int),I (p.interval:Int),I (p.zeta:Int)] 276:=nu;refine P7 O$ qV (Pa (news:=[.int .u8 1,ON 0]) Sg O Qx O ((eU.ext.On hG).cells (n:=2) O) O)$ OL z6I O$ qV ((OB U3 O O xe O))$ OL TP O$ qV ((OB U3 O O nu O))$ Ra O ?_;rw[show(q2:Int)-(p.interval:Int)=((q2-p.interval:Nat):Int) by omega];refine Qy O O (RY XW O O) (T9 kR (by rw[List.length_append,List.length_singleton];omega) .gamma (q2-p.interval) ω) ?_;rintro _ w19 ⟨rfl,CD⟩;have xh:=eU.put oP pG gZ l5 z1 CD;have rh:=xh.kx.On gj (λe=>e (.inr O));refine Oq$ Oz O$ OL z33 O$ qV (OB U3 O O rh O)$ OL z6I O$ qV (OB U3 O O rh O)$ PL O$ Ra O$ OK O$ Om$ Oz O$ PL O$ OC O$ Oq ?_;rw[show(q1:Int)+q2-1=z58 (YA (Q.1.take (i+1))) by rw[PA hq,z98];show _=((q1+q2-1:Nat):Int);omega];refine(ih (i+1) _ ⟨?_,ω⟩ ω).qb;rw[PA hq,z1t,<-List.append_assoc,show [(Cd.gamma,Ub x (YA (Q.1.take i)) q1),(Cd.gamma,q2-p.interval)]=[(Cd.gamma,Ub x (YA (Q.1.take i)) q1)]++[(Cd.gamma,q2-p.interval)] from rfl,<-List.append_assoc];exact lM.back xh (λk hk=> .inl hk)
         case CE=>
          have hg:=Ext.OT w17;have AU:=rg.ex2 hg
          cases hE:YA (Q.1.take i) with
          | none =>
            refine OH O (λe6=>?_)$ λe6=>?_
            ·refine R8 (λw'=>Kp F15 w17 w') O (OR 0 O O (hg.kp) (Ow 2 O (Pk z33 O) (hg.kp) (qT 3 O (λ_ h=>OB U3 O O (h.On gj iP) O) (hg.kp) (OR 4 O O (hg.kp) (Ow 5 O (X8 O O ω) (hg.kp) (qT 1 O (λ_ hS=>Pa (news:=[.int .u8 1,ON 0]) Sg O Qx O ((hS.On (lM.ext.On hG) oI).cells (n:=2) O) O) (hg.kp) (SH 6 O zdl O (z7r ((q1:Int)-x) ω _) ?_)))))));rintro _ w18 ⟨rfl,rfl⟩;refine⟨hg.kp,?_⟩;have xd:=Z1 (z:=(q1:Int)-x) (n:=65537) ω ω;refine Ow 7 O (Ps O R7 U3 ω) (hg.kp) (qO 8 (W9 (i:=8) O O O (RY XW O O) (T9 ((ge.ext cY).ext hg) ω .gamma (zig ((q1:Int)-x)) ω) ?_));rintro _ w19 ⟨rfl,F19,CG,xi,CH⟩;refine⟨hg.kp.trans xi,?_⟩;refine qE ?_;exact(cC _ _ ⟨rfl,by rw[hE];exact AU.put oP lL (λk hk hX=>by rcases hX with hX|e;exact ja k hk hX;exact iP (e▸hk)) l5 z1 ⟨F19,CG,xi,CH⟩⟩).qb
            ·exact absurd ψ e6
          | some z =>
            refine OH O (λe6=>?_)$ λe6=>?_
            ·exact absurd e6 (by show ¬((z:Int)<0);omega)
            ·have hz:=ok3 z hE;refine R0 O$ qV (Pa (news:=[.int .u8 1,ON 0]) Sg O Qx O ((lM.ext.On hG).cells (n:=2) O) O) ?_;rw[show z58 (some z)=(z:Int) from rfl];refine OL z33 O$ qV (OB U3 O O gj O)$ OC O$ Ra O$ Ra O ?_;rw[show(q1:Int)-z-2=((q1-z-2:Nat):Int) by omega];refine Qy O O (RY XW O O) (T9 (ge.ext cY) ω .gamma (q1-z-2) ω) ?_;rintro _ w18 ⟨rfl,CI⟩;refine Oq ?_;exact(cC _ _ ⟨rfl,by rw[hE];exact rg.put oP lL (λk hk hX=>by rcases hX with hX|e;exact ja k hk hX;exact iP (e▸hk)) l5 z1 CI⟩).qb
        ·have dq:i=Q.1.length:=by omega
         rw[dq,List.take_length] at gd;refine OD O ?_;exact(bX _ _ ⟨rfl,gd⟩).qb
     case dX=>
      refine OH O (λe4=>?_)$ λe4=>?_
      ·have dh:0<p.interval:=by omega
       obtain⟨F13,nv,sZ,nw⟩:=pE.ex;refine R0 O (qV (Pa (news:=[.int .u8 1,ON 0]) Sg O Qx O ((pE.ext.On hG).cells (n:=2) O) O) (OC O (Ro zaZ O (Qy O O (RY XW O O) (T9 nv ω .gamma Q.1.length ω) ?_))));rintro _ w14 ⟨rfl,t8⟩;refine Oq$ P8.qb (e:=[(1,_),(5,_),(11,_),(12,_),(17,_),(18,_)]) ?_;exact(au _ _ ⟨rfl,by rw[if_pos dh];exact pE.put (λk hk=>(fB k hk).2) sZ nw l5 z1 t8⟩).qb
      ·have dh:¬0<p.interval:=by omega
       refine Ot ?_;exact(au _ _ ⟨rfl,by rw[if_neg dh,List.append_nil];exact pE⟩).qb
   case fQ =>
    refine OH O (λe2=>?_)$ λe2=>?_
    ·have ta : 0 < r := by omega
     have pJ:=SY succ ref;rw[if_pos ta] at cS
     generalize QZ succ ref=rs at pJ px cS
     obtain⟨l,m,rfl⟩:∃l m,rs=l++[m]:=⟨rs.dropLast,rs.getLast pJ.ne,(List.dropLast_concat_getLast pJ.ne).symm⟩;have tc:(l++[m]).length=l.length+1:=by simp
     have fx:l.length<=65537:=by have h1:=pJ.z14;rw[List.length_map,tc] at h1;omega
     rw[List.dropLast_concat,tc,Nat.add_sub_cancel] at cS;obtain⟨vr,AV,HF⟩:=id px;rw[tc] at AV;rcases AV.sl.shape with⟨-,h0⟩|⟨g,c1,rfl,fU⟩
     ·omega
     have HG:=AV.On;obtain⟨F,wY,hf,JX⟩:=pA.ex;refine P7 O$ qV (Pa (news:=[.int .u8 1,ON 0]) Sg O Qx O ((pA.ext.On hG).cells (n:=2) O) O)$ qV (OB Rl O O HG O)$ Ro Rl O$ Ra O ?_;rw[show((l.length+1:Nat):Int)-1=(l.length:Int) by omega];refine Qy O O (RY XW O O) (T9 wY ω .gamma l.length ω) ?_;rintro _ w12 ⟨rfl,CJ⟩;have il:=pA.put wV hf JX l5 z1 CJ;have HH:=px.kp il.kx (λk hk e=>e (.inr hk));have ri:=il.kx.On HG (λe=>e (.inr ((HF rn).2 (.inl O))));refine qM O$ qV (OB Rl O O ri O) ?_;rw[show((l.length+1:Nat):Int)=((l.length+1:Nat):Int) from rfl];refine qV (OB Rl O O ri O)$ Ro Rl O$ Ra O ?_;rw[show((l.length+1:Nat):Int)-1=(l.length:Int) by omega];refine qV (zca Rl PH O O ω)$ Ro Rl O$ OC O$ Oq$ P8.qb (e:=[(1,_),(5,_),(11,_),(12,_),(14,_),(60,_),(61,_),(62,_)]) ?_;refine Ou$ Rw (α:=Nat) (0) (λi=>[(1,I (x:Int)),(5,ptr b5 0),(11,ptr n11 0),(12,.func (.func 220) #[] #[ptr n11 0]),(14,ptr lf 0),(60,.slice (some ⟨g,0,none⟩) l.length c1),(61,I (l.length:Int)),(62,I (i:Int))]) (λi w'=>NuX w w1 w11 p b5 n11 (λk=>FL k\/FR k) (A++(Cd.gamma,l.length)::Q7 0 (l.take i)) w'/\i<=l.length) (λi=>l.length-i) ?hI ?hround
     case hI=>exact⟨il,Nat.zero_le _⟩
     case hround =>
      rintro i w13 ⟨lN,hi⟩ ih
      try dsimp only
      refine qN O$ Qv O$ Oq$ An$ OH O (λe3=>?_)$ λe3=>?_
      ·have dt:i<l.length:=by omega
       obtain⟨F13,nv,sZ,nw⟩:=lN.ex;have CK:=AV.sl.kp lN.kx (λg2 hg e=>e (.inr ((HF g2).2 (.inr hg))));have i9:(l++[m])[i]? =some l[i]:=by rw[List.getElem?_append_left dt,List.getElem?_eq_getElem dt]
       have ia:min i 1<=l[i]:=by
        rcases Nat.eq_zero_or_pos i with e| e
        ·omega
        ·have h1:=pJ.pos l[i] (by
          rw[List.mem_iff_getElem?];refine⟨i-1,?_⟩
          rw[List.getElem?_drop,show 1+(i-1)=i by omega];exact i9)
         omega
       have i8:l[i]<=65536:=by
        have h1:=pJ.le l[i] (List.mem_append_left _ (List.getElem_mem dt));rw[List.length_map] at h1;omega
       refine Ot (Qt (P7 O (qV (PK Rl PH O O ω) (qV (Pc U3 O O (PM CK.rd (show((l++[m]).map z69)[i]? =some (z69 l[i]) by rw[List.getElem?_map,i9];rfl))) ?_))));refine Qd O$ R0 O$ qV (Pa (news:=[.int .u8 1,ON 0]) Sg O Qx O ((lN.ext.On hG).cells (n:=2) O) O)$ OX O$ qV (ymi O O)$ Ra O ?_;rw[show(l[i]:Int)-min (i:Int) 1=((l[i]-min i 1:Nat):Int) by omega];refine Qy O O (RY XW O O) (T9 nv (by have h1:(Q7 0 (l.take i)).length=i:=(by rw[SV,List.length_take];omega);rw[List.length_append,List.length_cons];omega) .gamma (l[i]-min i 1) ω) ?_;rintro _ w14 ⟨rfl,t8⟩;have CL:=lN.put wV sZ nw l5 z1 t8;refine Oq (Om (Oz O (PL O (OC O (Oq ((ih (i+1) _ ⟨?_,ω⟩ ω).qb))))));rw[List.take_succ,List.getElem?_eq_getElem dt,Option.toList_some,YD,List.length_take,Nat.min_eq_left hi,Nat.zero_add,<-List.cons_append,<-List.append_assoc];exact CL
      ·have dq:i=l.length:=by omega
       subst dq;rw[List.take_length] at lN;refine OD O ?_;exact(cS _ _ ⟨rfl,lN⟩).qb
    ·have ta:¬0<r:=by omega
     refine Ot ?_;exact(cS _ _ ⟨rfl,by rw[if_neg ta,List.append_nil];exact pA⟩).qb
  case de=>
   refine OH O (λe1=>?_)$ λe1=>?_
   ·have mW:0<p.OY:=by omega
    obtain⟨F,wY,hf⟩:=vC.ex;refine R0 O (qV (Pa (news:=[.int .u8 0,ON 0]) Sg O Qx O ((vC.ext.On hU).cells (n:=2) O) O) (OC O (Qy O O (RY XW O O) (T9 wY ξ .unary r ω) ?_)));rintro _ w5 ⟨rfl,te⟩;refine Oq$ P8.qb (e:=[(1,_),(2,_),(3,_),(4,_),(5,_),(10,_),(11,_),(12,_)]) ?_;exact(bD _ _ ⟨rfl,by rw[if_pos mW];exact vC.put hf l5 z1 te⟩).qb
   ·have mW:¬0<p.OY:=by omega
    refine Ot ?_;exact(bD _ _ ⟨rfl,by rw[if_neg mW];exact vC⟩).qb
/-! ### The numbers can be encoded -/
def Xa (k:Nat)(q:Cd×Nat):Prop:=(q.1= .unary/\q.2<=16)\/(q.1= .gamma/\q.2<=200000)\/(q.1= .zeta k/\q.2<=200000)
def z0z (k:Nat):∀(l:List Nat) (i:Nat),(∀n∈l,n<=65536)->∀q∈Q7 i l,Xa k q
 |[],i,h,q,hq=>by cases hq
 | n :: l, i, h, q, hq => by
   rw[Q7] at hq;rcases List.mem_cons.1 hq with e|hq
   ·subst e;have:=h n List.mem_cons_self;exact .inr (.inl ⟨rfl,by dsimp only;omega⟩)
   ·exact z0z k l (i+1) (λn hn=>h n (List.mem_cons_of_mem _ hn)) q hq
def ZD (k x least:Nat)(hx:x<65536):∀(R:List (Nat×Nat)) (e:Option Nat),(∀q∈R,q.1+q.2<=65536)->∀q∈Pv x least e R,Xa k q
 |[],e,h,q,hq=>by cases e<;>cases hq
 | p :: R, e, h, q, hq => by
   have hp:=h p List.mem_cons_self;rw[Rx] at hq;rcases List.mem_cons.1 hq with e1|hq
   ·subst e1;refine .inr (.inl ⟨rfl,?_⟩)
    cases e with
    |none=>have:=Z1 (z:=(p.1:Int)-x) (n:=65537) ω ω;show zig _<=_;omega
    |some z=>show p.1-z-2<=_;omega
   ·rcases List.mem_cons.1 hq with e1|hq
    ·subst e1;exact .inr (.inl ⟨rfl,by dsimp only;omega⟩)
    ·exact ZD k x least hx R _ (λq hq=>h q (List.mem_cons_of_mem _ hq)) q hq
def ZH (k x:Nat)(hx:x<65536):∀(l:List Nat) (e:Option Nat),(∀n∈l,n<65536)->∀q∈Px x k e l,Xa k q
 |[],e,h,q,hq=>by cases e<;>cases hq
 | v :: l, e, h, q, hq => by
   have hv:=h v List.mem_cons_self;rw[Sy] at hq;rcases List.mem_cons.1 hq with e1|hq
   ·subst e1;refine .inr (.inr ⟨rfl,?_⟩)
    cases e with
    |none=>have:=Z1 (z:=(v:Int)-x) (n:=65537) ω ω;show zig _<=_;omega
    |some u=>show v-u-1<=_;omega
   ·exact ZH k x hx l _ (λn hn=>h n (List.mem_cons_of_mem _ hn)) q hq
def z48 {least:Nat}{l:List Nat}(h:Pq l):(PE least l).1.length<=65536:=by
 have h1:=(Tr least l).length_eq
 rw[List.length_append] at h1
 have h4:∀(R:List (Nat×Nat)) (lo:Nat),SN least lo R->R.length<=(QC R).length:=by
  intro R
  induction R with
  |nil=>intro lo h;exact Nat.le_refl _
  | cons q R ih =>
    intro lo h;have h5:=ih _ h.2.2.2;have h6:1<=q.2:=h.2.1;rw[show QC (q::R)=(List.range q.2).map (q.1+·)++QC R from rfl,List.length_append,List.length_map,List.length_range,List.length_cons];omega
 have h5:=h4 _ 0 (UG least l 0 h.ris (λy _=>Nat.zero_le _))
 have:=h.len
 omega
def z6D {least:Nat}{l:List Nat}(h:Pq l):∀q∈(PE least l).1,1<=q.2/\q.1+q.2<=65536:=λq hq=>by
 obtain⟨i,hi⟩:=List.mem_iff_getElem?.1 hq
 have h1:=(Z0 _ 0 i q (UG least l 0 h.ris (λy _=>Nat.zero_le _)) hi).1
 exact⟨h1,z9x h.lt hq h1⟩
def ZX {p:RN}(hp:p.Qj){x:Nat}(hx:x<65536){succ ref:List Nat}(hs:Pq succ)(hr:Pq ref){r:Nat}(j7:r<=p.OY):∀q∈Rm p x succ ref r,Xa p.zeta q:=by
 obtain⟨g1,g2,g3,g4⟩:=id hp
 have aw:Pq (P3 succ ref):=hs.sub List.filter_sublist
 intro q hq
 unfold Rm at hq
 have gG:=hs.len
 rcases List.mem_cons.1 hq with e|hq
 ·subst e;exact .inr (.inl ⟨rfl,by dsimp only;omega⟩)
 split at hq
 ·cases hq
 rcases List.mem_append.1 hq with hq|hq
 ·split at hq
  ·rcases List.mem_singleton.1 hq with e;subst e;exact .inl ⟨rfl,by dsimp only;omega⟩
  ·cases hq
 rcases List.mem_append.1 hq with hq|hq
 ·have pJ:=SY succ ref;have hl:=pJ.z14;have gV:=hr.len;rw[List.length_map] at hl;split at hq
  ·rcases List.mem_cons.1 hq with e|hq
   ·subst e;exact .inr (.inl ⟨rfl,by dsimp only;omega⟩)
   ·refine z0z _ _ _ (λn hn=>?_) q hq;have:=pJ.le n (List.dropLast_subset _ hn);rw[List.length_map] at this;omega
  ·cases hq
 split at hq
 ·cases hq
 rcases List.mem_append.1 hq with hq|hq
 ·split at hq
  ·rcases List.mem_cons.1 hq with e|hq
   ·subst e;have:=z48 (least:=p.interval) aw;exact .inr (.inl ⟨rfl,by dsimp only;omega⟩)
   ·exact ZD _ _ _ hx _ _ (λq hq=>(z6D aw q hq).2) q hq
  ·cases hq
 ·exact ZH _ _ hx _ _ (λn hn=>aw.lt n ((Um p.interval _).subset hn)) q hq
def z5r (succ ref:List Nat)(hr:Pq ref):(QZ succ ref).length<=65537:=by
 have hl:=(SY succ ref).z14
 rw[List.length_map] at hl
 have:=hr.len
 omega
def z43 {p:RN}{x:Nat}{succ ref:List Nat}(hs:Pq succ)(hr:Pq ref){r:Nat}:(Rm p x succ ref r).length<=500000:=by
 have aw:Pq (P3 succ ref):=hs.sub List.filter_sublist
 have h1:=z5r succ ref hr
 have h2:=z48 (least:=p.interval) aw
 have h3:=(aw.sub (Um p.interval (P3 succ ref))).len
 unfold Rm
 rw[List.length_cons]
 split
 ·simp
 rw[List.length_append,List.length_append]
 have e1:(if 0<p.OY then [(Cd.unary,r)] else []).length<=1:=by split<;>simp
 have e2:(if 0<r then(Cd.gamma,(QZ succ ref).length-1)::Q7 0 (QZ succ ref).dropLast else []).length<=65537:=by
  split
  ·rw[List.length_cons,SV,List.length_dropLast];omega
  ·simp
 have e3:(if P3 succ ref=[] then [] else(if 0<p.interval then(Cd.gamma,(PE p.interval (P3 succ ref)).1.length)::Pv x p.interval none (PE p.interval (P3 succ ref)).1 else [])++Px x p.zeta none (PE p.interval (P3 succ ref)).2).length<=200000:=by
  split
  ·simp
  ·rw[List.length_append,T4];split
   ·rw[List.length_cons,Sb];omega
   ·simp;omega
 omega
def Xa.Qj {k:Nat}{q:Cd×Nat}(h:Xa k q)(hk:1<=k/\k<=16):q.1.Qj/\q.2<=q.1.most:=by
 rcases h with⟨e,h⟩|⟨e,h⟩|⟨e,h⟩
 ·rw[e];exact⟨trivial,by simp only[Cd.most];omega⟩
 ·rw[e];exact⟨trivial,by simp only[Cd.most];omega⟩
 ·rw[e];exact⟨hk,by simp only[Cd.most];omega⟩
def z3b {c:Cd}{v:Nat}(hc:c.Qj)(hv:v<=c.most):(c.enc v).length<=65600:=by
 obtain⟨q1,q2,-⟩:=WR hc hv
 rw[Wn];omega
def zbj {L:List (Cd×Nat)}(h:∀q∈L,q.1.Qj/\q.2<=q.1.most):(OV L).length<=65600*L.length:=by
 induction L with
 |nil=>simp[OV]
 | cons q L ih =>
   have h1:=ih (λq hq=>h q (List.mem_cons_of_mem _ hq));obtain⟨h2,h3⟩:=h q List.mem_cons_self;have h4:=z3b h2 h3;obtain⟨c,v⟩:=q;rw[PT,List.length_append,List.length_cons];dsimp only at h4⊢;omega
theorem Sk (a b:List (Cd×Nat)):OV (a++b)=OV a++OV b:=List.flatMap_append
theorem XK (l:List (Cd×Nat))(q:Cd×Nat):OV (l++[q])=OV l++q.1.enc q.2:=by
 rw[Sk];simp[OV]
/-! ### An element of a slice of structs -/
def z0U {α:Type}{f:α->List Value}{k:Nat}(hk:∀a,(f a).length=k){w:World}{b off n cap i:Nat}{R:List α}{q:α}(h:Rd w (.slice (some ⟨b,off,none⟩) n cap) k n (R.flatMap f))(hq:R[i]? =some q):∀j u,(f q)[j]? =some u->w.cell? ⟨b,off+i*k+j,none⟩=some u:=by
 intro j u hj
 have kL:j<k:=by have:=(List.getElem?_eq_some_iff.1 hj).1;rwa [hk] at this
 have key:∀(R:List α) (i:Nat),R[i]? =some q->(R.flatMap f)[i*k+j]? =some u:=by
  intro R
  induction R with
  |nil=>intro i h;simp at h
  | cons a R ih =>
    intro i h;rw[List.flatMap_cons]
    cases i with
    | zero =>
      rw[List.getElem?_cons_zero] at h;cases h;rw[List.getElem?_append_left (by rw[hk];omega),Nat.zero_mul,Nat.zero_add]
      exact hj
    | succ i =>
      rw[List.getElem?_append_right (by rw[hk,Nat.add_mul];omega),hk,show(i+1)*k+j-k=i*k+j by rw[Nat.add_mul];omega];exact ih i h
 have kO:=key R i hq
 have aN:=(List.getElem?_eq_some_iff.1 kO).1
 rcases h.2 with⟨c,hc,h0⟩|⟨b',off',cap',e,hc⟩
 ·rw[h.1,h0,Nat.zero_mul] at aN;omega
 ·cases e;have:=hc (i*k+j) u kO;rw[show off+i*k+j=off+(i*k+j) by omega];exact this
def z3r (q:Cd×Nat):(z61 q).length=3:=by
 obtain⟨c,v⟩:=q
 cases c<;>rfl
def Vh {w:World}(p:RN)(hp:p.Qj)(x:Nat)(hx:x<65536){sa ra:Option Addr}{sc rc:Nat}(succ ref:List Nat)(hs:Pq succ)(hr:Pq ref)(r:Nat)(j7:r<=p.OY)(lB:r=0->ref=[])
  (hG:OE w 1 (S6 .gamma) 314) (hU:OE w 2 (S6 .unary) 314) (et:Rd w (.slice sa succ.length sc) 1 succ.length (succ.map Pn)) (lI:Rd w (.slice ra ref.length rc) 1 ref.length (ref.map Pn)) (fN:succ.length<=sc) (nh:ref.length<=rc):
  P9 prog 161 [I (x:Int),.slice sa succ.length sc,.slice ra ref.length rc,I (r:Int),lpV p] w λu w'=>u= .tuple #[I ((OV (Rm p x succ ref r)).length:Int),I 0]/\Ext w w':=by
 obtain⟨g1,g2,g3,g4⟩:=id hp
 have aw:=λq hq=>(ZX hp hx hs hr j7 q hq).Qj ⟨g3,g4⟩
 have fx:=z43 (p:=p) (x:=x) (r:=r) hs hr
 refine py (e:=[(0,_),(1,_),(2,_),(3,_),(4,_)]) func161 O ntmps161 O O$ qN O$ Oy O O (R9 O (cs:=ZK p) O) ?_
 rintro _ w1 ⟨b9,rfl,mS,ad,cR⟩
 replace cR:OE w1 b9 [I (p.OY:Int),I (p.interval:Int),I (p.zeta:Int)] 276:=cR
 refine Qd O$ An$ qN O$ qV (Pa (news:=ZK p) YM O TM O (cR.cells (n:=3) O) O)$ OX O$ OX O$ OQ zhQ O (zbx p hp x hx _ _ succ ref r hs hr j7 lB w1 (et.ext ad) (lI.ext ad)) ?_
 rintro _ w2 ⟨rfl,ae⟩
 refine qV ((S1 O))$ PX O$ QB O$ An$ qN O$ qV (Pa (news:=ZK p) YM O TM O ((ae.On cR).cells (n:=3) O) O) ?_
 have aF:=ad.trans ae
 refine OX O$ OX O$ OQ zdp O (Yj p hp x hx succ ref hs hr r j7 lB (aF.On hG) (aF.On hU) (et.ext aF) (lI.ext aF) fN nh) ?_
 rintro v w3 ⟨cV,pK,aj⟩
 have aU:=aF.trans aj
 generalize Rm p x succ ref r=L at aw fx cV
 obtain⟨va,vc,rfl,-⟩:=cV.rd.shape
 refine Ro z0s O$ OC O$ Oq$ Ou$ Rw (α:=Nat) (0) (λi=>[(12,I ((OV (L.take i)).length:Int)),(29,.slice va L.length vc),(30,I (L.length:Int)),(31,I (i:Int))]) (λi w'=>Ext w3 w'/\i<=L.length) (λi=>L.length-i) ?hI ?hround
 case hI=>exact⟨Ext.refl _,Nat.zero_le _⟩
 case hround=>
  rintro i w4 ⟨aC,hi⟩ ih
  try dsimp only
  refine qN O$ Qv O$ Oq$ An$ OH O (λh0=>?_)$ λh0=>?_
  ·have dt:i<L.length:=by omega
   obtain⟨⟨c,v⟩,hq⟩:∃q,L[i]? =some q:=⟨_,List.getElem?_eq_getElem dt⟩;obtain⟨vE,mE⟩:=aw _ (List.mem_of_getElem? hq);dsimp only at vE mE
   obtain⟨g,c5,e4⟩:∃g c,Value.slice va L.length vc= .slice (some ⟨g,0,none⟩) L.length c:=by
    rcases cV.shape with⟨-,h0⟩|⟨g,c,e,hc⟩
    ·omega
    ·exact⟨g,c,e⟩
   cases e4;have jV:=z0U z3r (cV.ext aC).rd hq;obtain⟨y,z,pL⟩:∃y z,S6 c=[y,z]:=by cases c<;>exact⟨_,_,rfl⟩
   have qK:cdV c= .agg [y,z].toArray:=by rw[cdV,pL]
   have jq:z61 (c,v)=[y,z,ON v]:=by show S6 c++_=_;rw[pL];rfl
   rw[jq] at jV;have eR:=z4W c v vE mE;rw[qK] at eR;have xj:oneV y=true/\oneV z=true:=by cases c<;>(cases pL;exact⟨rfl,rfl⟩)
   have ft:=zbj (L:=L.take i) (λq hq=>aw q (List.mem_of_mem_take hq));rw[List.length_take] at ft;have oA:=z3b vE mE;refine Ot (Qt (qN O (qV (PK z0s Vf O O ω) (qV (Pa (news:=[y,z,ON v]) zg3 O Vf O jV O) (Oy O O (Rq (cs:=[_,_,_]) Vf O) ?_)))));rintro _ w5 ⟨b14,rfl,nx,aR,cm⟩;refine OJ O (Py (news:=[y,z,ON v]) Vf O O (by simp[xj.1,xj.2];rfl) O cm ξ) ?_;rintro w6 ⟨eD,aJ⟩;replace eD:OE w6 b14 [y,z,ON v] 316:=eD;have z5:=aR.size;have aQ:Ext w4 w6:=aR.It aJ (λk e=>by omega);refine qM O$ OL z7K O$ qV (Pa (news:=[y,z]) Sg O Qx O (eD.cells (n:=2) O) O)$ OL z7L O$ qV (OB R7 O O eD O)$ OQ zdy O (eR w6) ?_;rintro _ w7 ⟨rfl,ci⟩;refine OC O$ Sw O$ Qd O$ Oz O$ OX O$ PL O$ OK O$ Om$ Oz O$ PL O$ OC O$ Oq ?_;rw[show((OV (L.take i)).length:Int)+((c.enc v).length:Int)=((OV (L.take (i+1))).length:Int) by rw[PA hq,XK,List.length_append];dsimp only;omega];exact(ih (i+1) _ ⟨(aC.trans aQ).trans ci,ω⟩ ω).qb
  ·have dq:i=L.length:=by omega
   rw[dq,List.take_length];refine OD O$ P7 O$ Qd O$ Oo func161 O ?_;exact⟨_,rfl,rfl,aU.trans aC⟩
def Zg {w:World}{wp:Nat}{bs:List Bool}{F:Nat->Prop}(h:Yi w wp bs F)(p:RN)(hp:p.Qj)(x:Nat)(hx:x<65536){sa ra:Option Addr}{sc rc:Nat}(succ ref:List Nat)(hs:Pq succ)(hr:Pq ref)(r:Nat)(j7:r<=p.OY)(lB:r=0->ref=[])
  (hG:OE w 1 (S6 .gamma) 314) (hU:OE w 2 (S6 .unary) 314) (et:Rd w (.slice sa succ.length sc) 1 succ.length (succ.map Pn)) (lI:Rd w (.slice ra ref.length rc) 1 ref.length (ref.map Pn)) (fN:succ.length<=sc) (nh:ref.length<=rc)
  (hl:bs.length+(OV (Rm p x succ ref r)).length<=134217728):
  P9 prog 165 [ptr wp 0,I (x:Int),.slice sa succ.length sc,.slice ra ref.length rc,I (r:Int),lpV p] w λu w'=>u=I 0/\WrR wp F w w' (bs++OV (Rm p x succ ref r)):=by
 obtain⟨g1,g2,g3,g4⟩:=id hp
 have aw:=λq hq=>(ZX hp hx hs hr j7 q hq).Qj ⟨g3,g4⟩
 have fx:=z43 (p:=p) (x:=x) (r:=r) hs hr
 refine py (e:=[(0,_),(1,_),(2,_),(3,_),(4,_),(5,_)]) func165 O ntmps165 O O$ qN O$ Oy O O (R9 O (cs:=ZK p) O) ?_
 rintro _ w1 ⟨b9,rfl,mS,ad,cR⟩
 replace cR:OE w1 b9 [I (p.OY:Int),I (p.interval:Int),I (p.zeta:Int)] 276:=cR
 refine OK O$ Pz O$ qV (PU z2r O O)$ PX O$ Qh O$ OX O$ qV (Pa (news:=ZK p) YM O TM O (cR.cells (n:=3) O) O)$ OQ z3J O (Vh p hp x hx succ ref hs hr r j7 lB (ad.On hG) (ad.On hU) (et.ext ad) (lI.ext ad) fN nh) ?_
 rintro _ w2 ⟨rfl,ae⟩
 have aF:=ad.trans ae
 have h2:=h.ext aF
 refine OC O$ Sw O$ Qd O$ Qt$ P7 O$ Ql O$ OK O$ Ox O$ Qh O$ OQ z2f O (UY h2) ?_
 rintro _ w2 ⟨rfl,rfl⟩
 refine Ra O$ Qr O$ OK O$ P8.qb (e:=[(0,_),(1,_),(2,_),(3,_),(4,_),(11,_),(12,_),(32,_)]) ?_
 refine OH O (λe0=>?_)$ λe0=>?_
 ·omega
 ·refine Ot$ Om$ An$ qN O$ qV (Pa (news:=ZK p) YM O TM O ((ae.On cR).cells (n:=3) O) O)$ OX O$ OX O$ OQ zdp O (Yj p hp x hx succ ref hs hr r j7 lB (aF.On hG) (aF.On hU) (et.ext aF) (lI.ext aF) fN nh) ?_;rintro v w3 ⟨cV,pK,aj⟩;have aU:=aF.trans aj;have h3:=h.ext aU;have z12:=aF.size;have z3:=aj.size;have jI:∀k,F k->k<w.heap.size:=λk hk=>h.lt hk
  generalize Rm p x succ ref r=L at aw fx cV hl
  obtain⟨va,vc,rfl,-⟩:=cV.rd.shape;refine Ro z0s O$ OC O$ Oq$ Ou$ Rw (α:=Nat) (0) (λi=>[(0,ptr wp 0),(43,.slice va L.length vc),(44,I (L.length:Int)),(45,I (i:Int))]) (λi w'=>WrR wp F w3 w' (bs++OV (L.take i))/\i<=L.length) (λi=>L.length-i) ?hI ?hround
  case hI=>exact⟨⟨F,by simpa[OV] using h3,Kp.refl _ _,λk hk=> .inl hk⟩,Nat.zero_le _⟩
  case hround=>
   rintro i w4 ⟨⟨F4,lO,aq,pC⟩,hi⟩ ih
   try dsimp only
   refine qN O$ Qv O$ Oq$ An$ OH O (λh0=>?_)$ λh0=>?_
   ·have dt:i<L.length:=by omega
    obtain⟨⟨c,v⟩,hq⟩:∃q,L[i]? =some q:=⟨_,List.getElem?_eq_getElem dt⟩;obtain⟨vE,mE⟩:=aw _ (List.mem_of_getElem? hq);dsimp only at vE mE
    obtain⟨g,c5,e4⟩:∃g c,Value.slice va L.length vc= .slice (some ⟨g,0,none⟩) L.length c:=by
     rcases cV.shape with⟨-,h0⟩|⟨g,c,e,hc⟩
     ·omega
     ·exact⟨g,c,e⟩
    cases e4;have ep:=cV.kp aq (λg hg e=>by have:=pK g hg;have:=jI g e;omega);have jV:=z0U z3r ep.rd hq;obtain⟨y,z,pL⟩:∃y z,S6 c=[y,z]:=by cases c<;>exact⟨_,_,rfl⟩
    have qK:cdV c= .agg [y,z].toArray:=by rw[cdV,pL]
    have jq:z61 (c,v)=[y,z,ON v]:=by show S6 c++_=_;rw[pL];rfl
    rw[jq] at jV;have xj:oneV y=true/\oneV z=true:=by cases c<;>(cases pL;exact⟨rfl,rfl⟩)
    refine Ot (Qt (qN O (qV (PK z0s Vf O O ω) (qV (Pa (news:=[y,z,ON v]) zg3 O Vf O jV O) (Oy O O (Rq (cs:=[_,_,_]) Vf O) ?_)))));rintro _ w5 ⟨b14,rfl,nx,aR,cm⟩;refine OJ O (Py (news:=[y,z,ON v]) Vf O O (by simp[xj.1,xj.2];rfl) O cm ξ) ?_;rintro w6 ⟨eD,aJ⟩;replace eD:OE w6 b14 [y,z,ON v] 316:=eD;have z5:=aR.size;have aQ:Ext w4 w6:=aR.It aJ (λk e=>by omega);have z6:=aQ.size;have z4:=aq.size
    have i8:(bs++OV (L.take i)).length+(c.enc v).length<=134217728:=by
     have e1:(OV L).length=(OV (L.take i)).length+(c.enc v).length+(OV (L.drop (i+1))).length:=by
      conv=>lhs;rw[<-List.take_append_drop (i+1) L,Sk,PA hq,XK]
      rw[List.length_append,List.length_append]
     rw[List.length_append];omega
    have kS:=zak (lO.ext aQ) c v vE mE i8;rw[qK] at kS;refine Oq$ R0 O$ OL z7K O$ qV (Pa (news:=[y,z]) Sg O Qx O (eD.cells (n:=2) O) O)$ OL z7L O$ qV (OB R7 O O eD O)$ OQ zgZ O (kS) ?_;rintro _ w7 ⟨rfl,F7,oF,ax,oG⟩;refine Oq$ Om$ Oz O$ PL O$ OC O$ Oq ((ih (i+1) _ ⟨⟨F7,?_,(aq.trans aQ.kp).It ax (λk hk=>(pC k hk).symm),λk hk=>?_⟩,ω⟩ ω).qb)
    ·rw[PA hq,XK,<-List.append_assoc];exact oF
    ·rcases oG k hk with e| e
     ·exact pC k e
     ·exact .inr ω
   ·have dq:i=L.length:=by omega
    rw[dq,List.take_length] at lO;refine OD O$ QB O$ Oo func165 O ?_;exact⟨_,rfl,rfl,F4,lO,aU.kp.trans aq,λk hk=>by rcases pC k hk with e|e;exact .inl e;exact .inr ω⟩
def Xb (succ ref:List Nat)(r:Nat):List (Cd×Nat):=if 0<r then(.gamma,(QZ succ ref).length-1)::Q7 0 (QZ succ ref).dropLast else []
def z6G (p:RN)(x:Nat)(succ ref:List Nat):List (Cd×Nat):=
 if P3 succ ref=[] then [] else(if 0<p.interval then(.gamma,(PE p.interval (P3 succ ref)).1.length)::Pv x p.interval none (PE p.interval (P3 succ ref)).1 else [])++Px x p.zeta none (PE p.interval (P3 succ ref)).2
def Ui (p:RN)(x:Nat)(succ ref:List Nat)(r:Nat):List (Cd×Nat):=Xb succ ref r++z6G p x succ ref
def z0O (p:RN)(x:Nat){succ ref:List Nat}(r:Nat)(hs:succ≠[]):Rm p x succ ref r=Qn p succ.length r++Ui p x succ ref r:=by
 unfold Rm Qn Ui Xb z6G
 rw[if_neg hs,if_neg (λe=>hs (List.eq_nil_of_length_eq_zero e)),List.cons_append]
def z6N (p:RN)(x:Nat)(l:List Nat):List (Cd×Nat):=if 0<p.interval/\l≠[] then(.gamma,(PE p.interval l).1.length)::Pv x p.interval none (PE p.interval l).1 else []
theorem z3j (p:RN)(x:Nat)(succ ref:List Nat):z6G p x succ ref=z6N p x (P3 succ ref)++Px x p.zeta none (PE p.interval (P3 succ ref)).2:=by
 unfold z6G z6N
 by_cases e:P3 succ ref=[]
 ·rw[if_pos e,if_neg (λh=>h.2 e),e,PE];rfl
 ·rw[if_neg e];by_cases e2:0<p.interval
  ·rw[if_pos e2,if_pos ⟨e2,e⟩]
  ·rw[if_neg e2,if_neg (λh=>e2 h.1)]
structure TlI (w:World)(t r:Nat)(s:Ov)(b7 b9:Nat)(n q:Nat)(p:RN)(O_:List Nat)(v:Value)(a:Nat)(w':World):Prop where
 tk:TkM w' t r s a
 kp:Kp (λk=>k=t\/k=r) w w'
 sl:Sl w' v 42 1 O_.length (O_.map Pn)
 fr:∀g,v.ownBlock=some g->w.heap.size<=g
 c7:OE w' b7 [I (n:Int),I (q:Int)] 303
 c9:OE w' b9 [I (p.OY:Int),I (p.interval:Int),I (p.zeta:Int)] 276
 n7:w.heap.size<=b7
 n9:w.heap.size<=b9
 v7:v.ownBlock≠some b7
 v9:v.ownBlock≠some b9
def z2W (l:List Nat):∀c∈l.map Pn,c.oneCell'=true:=λc hc=>by
 obtain⟨y,-,rfl⟩:=List.mem_map.1 hc
 rfl
def TlI.app {w w1 w2 w3:World}{t r:Nat}{s:Ov}{b7 b9 n q:Nat}{p:RN}{O_ M:List Nat}{v v3:Value}{a a2:Nat}(h:TlI w t r s b7 b9 n q p O_ v a w1)(ht:t<w.heap.size)(hr:r<w.heap.size)
  (hk:Kp (λk=>k=t\/k=r) w1 w2) (mH:TkM w2 t r s a2) (cV:Sl w3 v3 42 1 (O_.length+M.length) (O_.map Pn++M.map Pn)) (ar:Kp (λk=>v.ownBlock=some k) w2 w3) (kE:∀g,v3.ownBlock=some g->v.ownBlock=some g\/w2.heap.size<=g):
  TlI w t r s b7 b9 n q p (O_++M) v3 a2 w3:=by
 have z1:=h.kp.size
 have z2:=hk.size
 have l7:=h.c7.lt
 have l9:=h.c9.lt
 have n7:=h.n7
 have n9:=h.n9
 have xl:∀k,k<w.heap.size->¬v.ownBlock=some k:=λk hk e=>by have:=h.fr k e;omega
 have cN:∀k,k<w1.heap.size->v.ownBlock≠some k->v3.ownBlock≠some k:=λk hk hv e=>by
  rcases kE k e with e| e
  ·exact hv e
  ·omega
 refine⟨⟨ar.On mH.On (xl t ht),⟨ar.On mH.rd.1 (xl r hr),mH.rd.2⟩,mH.ne⟩,(h.kp.trans hk).It ar (λk hk=> .inl (h.fr k hk)),by rw[List.length_append,List.map_append];exact cV,λg hg=>?_,ar.On (hk.On h.c7 (λe=>by omega)) h.v7,ar.On (hk.On h.c9 (λe=>by omega)) h.v9,n7,n9,cN _ l7 h.v7,cN _ l9 h.v9⟩
 rcases kE g hg with e| e
 ·exact h.fr g e
 ·omega
def z8N {w:World}{t r a:Nat}{s:Ov}(h:TkM w t r s a)(hG:OE w 1 (S6 .gamma) 314)(cW:¬1=r)(mU:¬1=t)(p:RN)(hp:p.Qj)(x:Nat)(hx:x<65536){sa:Option Addr}{sc:Nat}(succ ref:List Nat)(hs:Pq succ)(br:succ≠[])(jb:succ.length<50)(im:Pq ref)
  (q:Nat) (hq:q<=p.OY) (mV:q=0->ref=[]) (eB:∀w2,Kp (λk=>k=r) w w2->Rd w2 (.slice sa ref.length sc) 1 ref.length (ref.map Pn)) (eR:ref.length<=sc) (rest:List Bool) (hb:(OU s).drop a=OV (Ui p x succ ref q)++rest):
  P9 prog 213 [ptr t 0,I (x:Int),.agg #[I (succ.length:Int),I (q:Int)],.slice sa ref.length sc,lpV p] w λu w'=>Sl w' u 42 1 succ.length (succ.map Pn)/\(∀g,u.ownBlock=some g->w.heap.size<=g)/\
   TkM w' t r s (a+(OV (Ui p x succ ref q)).length)/\Kp (λk=>k=t\/k=r) w w':=by
 obtain⟨g1,g2,g3,g4⟩:=id hp
 have lt0:=h.On.lt
 have lr0:=h.rd.1.lt
 have j6:=z5q hs.ris im.ris p.interval
 have rj:=j6.length_eq
 rw[List.length_append,List.length_append] at rj
 have aw:Pq (P3 succ ref):=hs.sub List.filter_sublist
 have JY:=(Tr p.interval (P3 succ ref)).length_eq
 rw[List.length_append] at JY
 unfold Ui at hb⊢
 rw[Sk,List.append_assoc] at hb
 rw[Sk,List.length_append]
 refine py (e:=[(0,_),(1,_),(2,_),(3,_),(4,_)]) func213 O ntmps213 O O$ qN O$ Oy O O (R9 O (cs:=[I (succ.length:Int),I (q:Int)]) O) ?_
 rintro _ w1 ⟨b7,rfl,kF,ad,bZ⟩
 refine Oy O O (R9 O (cs:=ZK p) O) ?_
 rintro _ w2 ⟨b9,rfl,mS,ae,cR⟩
 replace cR:OE w2 b9 [I (p.OY:Int),I (p.interval:Int),I (p.zeta:Int)] 276:=cR
 have z1:=ad.size
 have z2:=ae.size
 have aF:=ad.trans ae
 have ee:=ae.On bZ
 refine QL O$ OK O$ An$ qN O$ OL Sj O$ qV (OB U3 O O ee O)$ Qr O$ Oq$ Pw (λe' w'=>∃v11,e'=[(0,ptr t 0),(1,I (x:Int)),(7,ptr b7 0),(9,ptr b9 0),(11,v11)]/\TlI w t r s b7 b9 succ.length q p (ref.filter λy=>decide (y∈succ)) v11 (a+(OV (Xb succ ref q)).length) w') ?bD$ λbD=>?de
 case bD =>
  rintro e' w3 ⟨v11,rfl,h3⟩;have dY:=S2 hb;obtain⟨va,vc,rfl,-⟩:=h3.sl.rd.shape;have tf:=h3.c7;have cQ:=h3.c9;have CM:=h3.tk.On;refine An$ qN O$ OL Ta O$ qV ((OB U3 O O tf O))$ OC O$ Ro Ph O$ Ra O ?_;rw[show(succ.length:Int)-((ref.filter λy=>decide (y∈succ)).length:Int)=((P3 succ ref).length:Int) by omega]
  generalize NC:(a+(OV (Xb succ ref q)).length)=a3 at h3 dY
  rw[z3j,Sk,List.append_assoc] at dY;rw[z3j,Sk,List.length_append];have JZ:p.interval=0->(PE p.interval (P3 succ ref)).1=[]:=λe=>by rw[e];exact XG _
  have K0:P3 succ ref=[]->PE p.interval (P3 succ ref)=([],[]):=λe=>by rw[e,PE]
  have pF:=UG p.interval (P3 succ ref) 0 aw.ris (λy _=>Nat.zero_le _);have sW:=λy hy=>(z6D (least:=p.interval) aw y hy).2
  have HI:(PE p.interval (P3 succ ref)).1.length<=(QC (PE p.interval (P3 succ ref)).1).length:=by
   have key:∀(R:List (Nat×Nat)) (lo:Nat),SN p.interval lo R->R.length<=(QC R).length:=by
    intro R
    induction R with
    |nil=>intro lo h;exact Nat.le_refl _
    | cons z R ih =>
      intro lo h;have h5:=ih _ h.2.2.2;have h6:1<=z.2:=h.2.1;rw[show QC (z::R)=(List.range z.2).map (z.1+·)++QC R from rfl,List.length_append,List.length_map,List.length_range,List.length_cons];omega
   exact key _ 0 pF
  have CN:Pq (PE p.interval (P3 succ ref)).2:=aw.sub (Um p.interval _)
  generalize (ref.filter λy=>decide (y∈succ))=O1 at h3 j6 rj
  have vF:z6N p x (P3 succ ref)=if 0<p.interval/\P3 succ ref≠[] then(.gamma,(PE p.interval (P3 succ ref)).1.length)::Pv x p.interval none (PE p.interval (P3 succ ref)).1 else []:=rfl
  generalize z6N p x (P3 succ ref)=LT at dY vF
  generalize PE p.interval (P3 succ ref)=Q at*
  generalize P3 succ ref=L1 at*
  have AN:L1=[]↔L1.length=0:=⟨λe=>by rw[e];rfl,List.eq_nil_of_length_eq_zero⟩;have gG:=hs.len;refine OK O$ An$ Pw (λe' w'=>∃s1:Bool,e'=[(0,ptr t 0),(1,I (x:Int)),(7,ptr b7 0),(9,ptr b9 0),(11,.slice va O1.length vc),(12,I (L1.length:Int)),(38,.bool s1)]/\w'=w3/\(s1=true↔0<p.interval/\L1≠[])) ?cS$ λcS=>?fQ
  case cS =>
   rintro e' w4 ⟨s1,rfl,rfl,dN⟩;refine Pw (λe' w'=>∃v11,e'=[(0,ptr t 0),(1,I (x:Int)),(7,ptr b7 0),(9,ptr b9 0),(11,v11)]/\TlI w t r s b7 b9 succ.length q p (O1++QC Q.1) v11 (a3+(OV LT).length) w') ?au$ λau=>?dX
   case au =>
    rintro e' w5 ⟨v5,rfl,h5⟩;have fR:=S2 dY;obtain⟨va5,vc5,rfl,-⟩:=h5.sl.rd.shape;have lP:=h5.c7;have lQ:=h5.c9;have CO:=h5.tk.On;have HJ:(O1++QC Q.1).length=O1.length+(QC Q.1).length:=List.length_append;refine An$ qN O$ OL Ta O$ qV ((OB U3 O O lP O))$ OC O$ Ro Ph O$ Ra O ?_;rw[show(succ.length:Int)-((O1++QC Q.1).length:Int)=(Q.2.length:Int) by omega];refine OK O$ An$ Pw (λe' w'=>∃s2:Bool,e'=[(0,ptr t 0),(1,I (x:Int)),(7,ptr b7 0),(9,ptr b9 0),(11,.slice va5 (O1++QC Q.1).length vc5),(13,I (Q.2.length:Int)),(60,.bool s2)]/\w'=w5/\(s2=true↔0<Q.2.length)) ?bX$ λbX=>?na
    case bX=>
     rintro e' w6 ⟨s2,rfl,rfl,dg⟩;refine Pw (λe' w'=>∃v11,e'=[(0,ptr t 0),(11,v11)]/\TlI w t r s b7 b9 succ.length q p (O1++QC Q.1++Q.2) v11 (a3+(OV LT).length+(OV (Px x p.zeta none Q.2)).length) w') ?jy$ λjy=>?sT
     case jy=>
      rintro e' w7 ⟨v7,rfl,h7⟩;have rk:(O1++QC Q.1++Q.2).length=succ.length:=by rw[List.length_append,HJ];omega
      have K6:0<succ.length:=List.length_pos_iff.2 br;refine P7 O (OQ zh2 O (z8B h7.sl (λe=>by rw[e] at rk;simp at rk;omega) ω) ?_);rintro _ w8 ⟨rfl,aP,l',Ka,xm,er⟩;have Kb:l'=succ:=z68 ((Ka.trans (by rw[List.append_assoc])).trans j6) xm hs.ris;rw[Kb] at er;refine qM O$ OC O$ OK O$ Oo func213 O ?_;have e9:a+((OV (Xb succ ref q)).length+((OV LT).length+(OV (Px x p.zeta none Q.2)).length))=a3+(OV LT).length+(OV (Px x p.zeta none Q.2)).length:=by omega
      rw[e9];have xl:∀k,k<w.heap.size->¬v7.ownBlock=some k:=λk hk e=>by have:=h7.fr k e;omega
      refine⟨_,rfl,er,h7.fr,⟨aP.On h7.tk.On (xl t lt0),⟨aP.On h7.tk.rd.1 (xl r lr0),h7.tk.rd.2⟩,h7.tk.ne⟩,h7.kp.It aP (λk hk=> .inl (h7.fr k hk))⟩
     case sT=>
      refine Q0 O (λh2=>?_)$ λh2=>?_
      ·refine Oz O (OX O (OX O (OL z04 O (qV ((OB U3 O O lQ O)) (qV ((PO O U3 R7 ω)) (qV (Sa (cs:=[_,_]) Qx O zdU O O) (OQ zhP O (z6c h5.tk x p.zeta hx ⟨g3,g4⟩ Q.2 CN _ fR) ?_)))))));rintro u6 w6 ⟨fL,mL,wR,aJ⟩;have CP:=h5.sl.kp aJ (λg hg e=>by have:=h5.fr g hg;omega);refine Oy O O (pap Ph OS O ψ O O CP fL.rd (z2W _) ω (by simp only[maxLen];omega)) ?_;rintro v7 w7 ⟨gL,ax,Kc,-⟩;have h7:=h5.app lt0 lr0 aJ wR gL ax Kc;refine OK O ?_;exact(jy _ _ ⟨v7,rfl,h7⟩).qb
      ·have gN:Q.2=[]:=List.eq_nil_of_length_eq_zero (by
        rcases Nat.eq_zero_or_pos Q.2.length with e| e
        ·exact e
        ·rw[dg.2 e] at h2;cases h2)
       refine Ot ((jy _ _ ⟨_,rfl,?_⟩).qb);rw[gN,List.append_nil,show(OV (Px x p.zeta none [])).length=0 from rfl,Nat.add_zero];exact h5
    case na=>
     rcases Nat.eq_zero_or_pos Q.2.length with hz|hz
     ·refine R0 O$ Qr O$ Pu$ OC O$ QI$ QI$ qS$ PC O$ Oq ?_;exact(bX _ _ ⟨false,rfl,rfl,by simp[hz]⟩).qb
     ·refine R0 O$ Qr O$ Rf$ OX O$ Pb O$ OL Ty O$ qV ((OB U4 O O CO O))$ qV ((S1 O))$ QQ O$ Oq ?_;exact(bX _ _ ⟨true,rfl,rfl,by simp[hz]⟩).qb
   case dX=>
    refine Q0 O (λh1=>?_)$ λh1=>?_
    ·obtain⟨sy,ce⟩:=dN.1 h1;rw[if_pos ⟨sy,ce⟩] at vF;refine Oz O$ OX O$ OX O$ OL TP O$ qV ((OB U3 O O cQ O)) ?_;rw[vF] at dY;refine OQ zfi O (z8V h3.tk (h3.kp.On hG (λe=>by rcases e with e|e;exact mU e;exact cW e)) cW mU x L1.length p.interval hx ω ω Q.1 pF sW ω ω _ dY) ?_;rintro u4 w4 ⟨ep,pC,xn,aq⟩;have CQ:=h3.sl.kp aq (λg hg e=>by have:=h3.fr g hg;omega);have HK:=ep.rd;have Kd:O1.length<=65536:=by omega
     refine Oy O O (pap Ph OS O ψ O O CQ ep.rd (z2W _) ω (by simp only[maxLen];omega)) ?_;rintro v5 w5 ⟨fP,ai,Ke,-⟩;have h5:=h3.app lt0 lr0 aq xn fP ai Ke;refine OK O ((au _ _ ⟨v5,rfl,?_⟩).qb);rw[vF];exact h5
    ·have ce:¬(0<p.interval/\L1≠[]):=λe=>by rw[dN.2 e] at h1;cases h1
     have iN:Q.1=[]:=by
      by_cases e:L1=[]
      ·rw[K0 e]
      ·exact JZ (by by_cases e2:0<p.interval;exact absurd ⟨e2,e⟩ ce;omega)
     rw[if_neg ce] at vF;refine Ot ((au _ _ ⟨_,rfl,?_⟩).qb);rw[iN,vF,show QC []=[] from rfl,List.append_nil,show(OV []).length=0 from rfl,Nat.add_zero];exact h3
  case fQ=>
   rcases Nat.eq_zero_or_pos L1.length with hz|hz
   ·refine R0 O$ Qr O$ Pu$ OC O$ QI$ qS$ PC O$ OC O$ QI$ QI$ qS$ PC O$ Oq$ P8.qb (e:=[(0,_),(1,_),(7,_),(9,_),(11,_),(12,_),(38,_)]) ?_;exact(cS _ _ ⟨false,rfl,rfl,⟨λe=>(by cases e),λe=>absurd (AN.2 hz) e.2⟩⟩).qb
   ·rcases Nat.eq_zero_or_pos p.interval with mK|mK
    ·refine R0 O$ Qr O$ Rf$ OC O$ OL TP O$ qV ((OB U3 O O cQ O))$ Qr O$ Pu$ QQ O$ OC O$ QI$ QI$ qS$ PC O ?_;refine Oq$ P8.qb (e:=[(0,_),(1,_),(7,_),(9,_),(11,_),(12,_),(38,_)]) ?_;exact(cS _ _ ⟨false,rfl,rfl,by simp[mK]⟩).qb
    ·refine R0 O$ Qr O$ Rf$ OC O$ OL TP O$ qV ((OB U3 O O cQ O))$ Qr O$ Rf$ QQ O$ OX O$ Pb O$ OL Ty O$ qV ((OB U4 O O CM O))$ qV ((S1 O)) ?_;refine QQ O$ Oq$ P8.qb (e:=[(0,_),(1,_),(7,_),(9,_),(11,_),(12,_),(38,_)]) ?_;exact(cS _ _ ⟨true,rfl,rfl,⟨λ_=>⟨mK,λe=>(by have:=AN.1 e;omega)⟩,λ_=>rfl⟩⟩).qb
 case de=>
  refine OH O (λh0=>?_)$ λh0=>?_
  ·have iN:0<q:=by omega
   have AW:=SY succ ref;have iZ:=AW.z14;rw[List.length_map] at iZ;have xo:=im.len
   have xq:(QZ succ ref).sum=ref.length:=by
    have:=congrArg List.length AW.exp;rw[SC,List.length_map] at this;exact this
   have xt:=z8d succ ref;rw[show Xb succ ref q=(.gamma,(QZ succ ref).length-1)::Q7 0 (QZ succ ref).dropLast from if_pos iN] at hb;obtain⟨l,m,i9⟩:∃l m,QZ succ ref=l++[m]:=⟨_,_,(List.dropLast_concat_getLast AW.ne).symm⟩;have ia:=AW.pos;rw[i9] at hb xq iZ ia;rw[i9,List.dropLast_concat] at xt;rw[List.dropLast_concat,show(l++[m]).length-1=l.length by simp] at hb;rw[List.sum_append] at xq;rw[List.length_append,List.length_singleton] at iZ;have h2:=h.ext aF
   have xu:∀m'∈l.drop 1,1<=m':=λm' ny=>ia m' (by
    cases l with
    |nil=>simp at ny
    |cons a l=>rw[List.cons_append,List.drop_succ_cons,List.drop_zero];rw[List.drop_succ_cons,List.drop_zero] at ny;exact List.mem_append_left _ ny)
   refine Oz O (OX O (OQ zhl O (z3F h2 (aF.On hG) cW ref l (λw5 k=>eB w5 (aF.kp.trans k)) eR xo ω ω xu _ hb) ?_));rintro v11 w3 ⟨cV,pK,pM,ar⟩;refine OK O ((bD _ _ ⟨v11,rfl,?_⟩).qb);rw[xt] at cV;rw[show Xb succ ref q=(.gamma,l.length)::Q7 0 l by unfold Xb;rw[if_pos iN,i9,List.dropLast_concat,show(l++[m]).length-1=l.length by simp]];have l72:=ee.lt;have l92:=cR.lt;exact⟨pM,aF.kp.trans (ar.OA λk e=> .inr e),cV,λg hg=>by have:=pK g hg;omega,ar.On ee ω,ar.On cR ω,ω,ω,λe=>by have:=pK _ e;omega,λe=>by have:=pK _ e;omega⟩
  ·have iN:q=0:=by omega
   have CR:=mV iN;subst CR;refine Ot ((bD _ _ ⟨.slice none 0 0,rfl,?_⟩).qb);rw[show Xb succ [] q=[] by unfold Xb;rw[if_neg ω]];exact⟨h.ext aF,aF.kp,Sl.nil _ _ _,(λg hg=>by cases hg),ee,cR,ω,ω,(λe=>by cases e),(λe=>by cases e)⟩
def z3t {l b rest:List Bool}{a k n:Nat}(hb:l.drop a=b++rest)(hk:k+n<=b.length):(l.drop (a+k)).take n=(b.drop k).take n:=by
 rw[<-List.drop_drop,hb,List.drop_append_of_le_length ω,List.take_append_of_le_length (by rw[List.length_drop];omega)]
def z7O {w:World}{r a:Nat}{s:Ov}(p:RN)(hp:p.Qj)(x:Nat)(hx:x<65536){la ra:Option Addr}{lc rc:Nat}(succ ref:List Nat)(hs:Pq succ)(br:succ≠[])(im:Pq ref)
  (q:Nat) (hq:q<=p.OY) (mV:q=0->ref=[]) (hG:OE w 1 (S6 .gamma) 314) (hU:OE w 2 (S6 .unary) 314) (et:Rd w (.slice la succ.length lc) 1 succ.length (succ.map Pn)) (lI:Rd w (.slice ra ref.length rc) 1 ref.length (ref.map Pn)) (fN:succ.length<=lc) (nh:ref.length<=rc)
  (hl:(OV (Rm p x succ ref q)).length<=134217728) (rest:List Bool) (hb:(OU s).drop a=OV (Ui p x succ ref q)++rest) (h:Tx w r s (a+(OV (Ui p x succ ref q)).length)):
  P9 prog 214 [lpV p,ptr r 0,I (a:Int),I (x:Int),.agg #[I (succ.length:Int),I (q:Int)],.slice la succ.length lc,.slice ra ref.length rc] w λu w'=>u= .bool true/\Tx w' r s (a+(OV (Ui p x succ ref q)).length)/\Kp (λk=>k=r) w w':=by
 have lr0:=h.1.lt
 have l10:=hG.lt
 have l20:=hU.lt
 have gG:=hs.len
 have nz:=z0O p x (ref:=ref) q br
 have AX:OV (Rm p x succ ref q)=OV (Qn p succ.length q)++OV (Ui p x succ ref q):=by rw[nz,Sk]
 have ft:(OV (Rm p x succ ref q)).length=(OV (Qn p succ.length q)).length+(OV (Ui p x succ ref q)).length:=by rw[nz,Sk,List.length_append]
 generalize OV (Ui p x succ ref q)=TB at*
 have oQ:succ.length≠0:=λe=>br (List.eq_nil_of_length_eq_zero e)
 refine py (e:=[(0,_),(1,_),(2,_),(3,_),(4,_),(5,_),(6,_)]) func214 O ntmps214 O O$ qN O$ Oy O O (R9 O (cs:=ZK p) O) ?_
 rintro _ w1 ⟨b7,rfl,kF,ad,bZ⟩
 refine Oy O O (R9 O (cs:=[I (succ.length:Int),I (q:Int)]) O) ?_
 rintro _ w2 ⟨b11,rfl,j0,ae,aX⟩
 have aF:=ad.trans ae
 have z1:=ad.size
 have z2:=ae.size
 have ee:=ae.On bZ
 have h2:Tx w2 r s (a+TB.length):=⟨aF.On h.1,h.2⟩
 refine QO O$ OQ Yv O (TR h2) ?_
 rintro _ w2 ⟨rfl,rfl⟩
 refine QL O$ OQ z0J O (Uh w2) ?_
 rintro _ w3 ⟨wp,F,rfl,my,aj,pN⟩
 have z3:=aj.size
 have aU:=aF.trans aj
 have kT:=aj.On aX
 have tf:=aj.On ee
 refine OK O$ An$ Qh O$ OX O$ OL Sj O$ qV (OB U3 O O kT O)$ qV (Pa (news:=ZK p) YM O TM O (tf.cells (n:=3) O) O)$ OQ zdj O (Zg my p hp x hx succ ref hs im q hq mV (aU.On hG) (aU.On hU) (et.ext aU) (lI.ext aU) fN nh (by simpa using hl)) ?_
 rintro _ w4 ⟨rfl,F4,lO,aq,pC⟩
 rw[List.nil_append] at lO
 have z4:=aq.size
 have cD:Ext w2 w4:=aj.It aq pN
 refine Ql O$ PX O$ P7 O$ OQ z7d O (WE lO) ?_
 rintro _ w4 ⟨rfl,rfl⟩
 refine OC O$ Sw O$ Qd O$ P8.qb (e:=[(1,_),(2,_),(7,_),(14,_),(15,_),(16,_),(17,_)]) ?_
 refine P7 O ?_
 have gE:(P4 (OV (Rm p x succ ref q))).length<=16777217:=by rw[Po];omega
 refine OQ z7n O (Ww (P4 (OV (Rm p x succ ref q))) ω w4) ?_
 rintro _ w5 ⟨ow,rfl,gW,aR,ND⟩
 have io:=cD.trans aR
 have bL:=aF.trans io
 obtain⟨z,mG,mK,NE⟩:=S4 (OV (Rm p x succ ref q))
 have AY:(OU (P4 (OV (Rm p x succ ref q)))).drop 0=OV (Qn p succ.length q)++(TB++List.replicate z false):=by
  rw[mG,List.drop_zero,AX,List.append_assoc]
 refine OK O$ Pz O$ qV (Pa (news:=ZK p) YM O TM O ((io.On ee).cells (n:=3) O) O)$ OQ zdC O (z2d gW p hp (bL.On hG) (bL.On hU) ω ω succ.length q ω hq (λe=>absurd e oQ) _ AY) ?_
 rintro _ w6 ⟨rfl,fC,aJ⟩
 rw[Nat.zero_add] at fC
 have ip:Ext w2 w6:=io.It aJ (λk e=>by omega)
 have th:=S2 AY
 rw[Nat.zero_add] at th
 generalize (P4 (OV (Rm p x succ ref q)))=os at*
 have z6:=ip.size
 refine OC O$ Sw O$ Oy O O (Rq (cs:=[_,_]) S8 O) ?_
 rintro _ w7 ⟨b20,rfl,Kf,ci,CS⟩
 refine OJ O (Py (news:=[I (succ.length:Int),I (q:Int)]) S8 O O O O CS ξ) ?_
 rintro w8 ⟨HM,aP⟩
 have iq:Ext w6 w8:=ci.It aP (λk e=>by omega)
 have jc:=ip.trans iq
 have h8:Tx w8 r s (a+TB.length):=⟨jc.On h2.1,h2.2⟩
 have vm:Tx w8 ow os (OV (Qn p succ.length q)).length:=⟨iq.On fC.1,fC.2⟩
 have p5:Yi w8 wp (OV (Rm p x succ ref q)) F4:=((lO.ext aR).kp aJ (λi hi e=>by have:=lO.lt hi;omega)).ext iq
 refine QO O$ Ql O$ OX O$ OQ z2f O (UY p5) ?_
 rintro _ w8 ⟨rfl,rfl⟩
 refine OC O$ OQ Yv O (TR vm) ?_
 rintro _ w8 ⟨rfl,rfl⟩
 refine Ra O ?_
 rw[show((OV (Rm p x succ ref q)).length:Int)-((OV (Qn p succ.length q)).length:Int)=(TB.length:Int) by omega]
 refine OX O$ Ra O ?_
 rw[show((a+TB.length:Nat):Int)-(a:Int)=(TB.length:Int) by omega]
 refine Ql O$ Pu$ PC O$ Oq$ P8.qb (e:=[(1,_),(2,_),(14,_),(15,_),(19,_),(64,_)]) ?_
 refine T2 O$ Qh O$ OQ zbo O (YZ h8 a (by have:=h8.2.1;omega)) ?_
 rintro _ w9 ⟨rfl,h9,aK⟩
 have qI:Tx w9 ow os (OV (Qn p succ.length q)).length:=⟨aK.On vm.1 ω,vm.2⟩
 refine Oq$ Qt$ Rw (α:=Nat) (0) (λk=>[(1,ptr r 0),(15,I ((a+TB.length:Nat):Int)),(19,ptr ow 0)]) (λk w'=>Tx w' r s (a+k)/\Tx w' ow os ((OV (Qn p succ.length q)).length+k)/\Kp (λi=>i=r\/i=ow) w9 w'/\k<=TB.length) (λk=>TB.length-k) ?hI ?hround
 case hI=>exact⟨h9,qI,Kp.refl _ _,Nat.zero_le _⟩
 case hround=>
  rintro k w10 ⟨i6,xv,aA,NF⟩ ih
  try dsimp only
  refine Pz O$ OQ Yv O (TR i6) ?_;rintro _ w10 ⟨rfl,rfl⟩;refine OC O$ Qv O$ Oq$ OH O (λh0=>?_)$ λh0=>?_
  ·refine Ot$ Ou$ Qh O$ OQ Yv O (TR i6) ?_;rintro _ w10 ⟨rfl,rfl⟩;refine Ra O ?_;rw[show((a+TB.length:Nat):Int)-((a+k:Nat):Int)=((TB.length-k:Nat):Int) by omega];refine qV (ymi O O) ?_;rw[show min (64:Int) ((TB.length-k:Nat):Int)=((min 64 (TB.length-k):Nat):Int) by omega];obtain⟨n,hn,ce,jt,CT⟩:∃n,min 64 (TB.length-k)=n/\1<=n/\n<=64/\k+n<=TB.length:=⟨_,rfl,ω,ω,ω⟩;rw[hn];have ti:=i6.2.1;have fw:=z3t hb CT;have kK:=z3t th CT;have Hg:a+TB.length<=8*s.length:=h8.2.1
   have vx:(OV (Qn p succ.length q)).length+TB.length<=8*os.length:=by
    have e:=congrArg List.length th;rw[List.length_drop,bitsT_length,List.length_append] at e;omega
   refine QL O$ OX O$ OQ z47 O (Vk i6 n jt) ?_;rintro v11 w11 hv
   have gX:v11= .tuple #[ON (Pp (((OU s).drop (a+k)).take n)),I 0]/\Tx w11 r s (a+k+n)/\Kp (λk=>k=r) w10 w11:=by
    rcases hv with hv|hv
    ·exact hv.2
    ·omega
   obtain⟨rfl,oE,bz⟩:=gX;rw[fw];have CU:Tx w11 ow os ((OV (Qn p succ.length q)).length+k):=⟨bz.On xv.1 ω,xv.2⟩;refine OC O$ Sw O$ Si O$ QL O$ OX O$ OQ z47 O (Vk CU n jt) ?_;rintro v12 w12 hv
   have gX:v12= .tuple #[ON (Pp (((OU os).drop ((OV (Qn p succ.length q)).length+k)).take n)),I 0]/\Tx w12 ow os ((OV (Qn p succ.length q)).length+k+n)/\Kp (λk=>k=ow) w11 w12:=by
    rcases hv with hv|hv
    ·exact hv.2
    ·omega
   obtain⟨rfl,CV,bj⟩:=gX;rw[kK];have Kg:Tx w12 r s (a+k+n):=⟨bj.On oE.1 ω,oE.2⟩;refine OC O$ Sw O$ Si O$ QL O$ OX O$ Ql O$ Oq$ OH O (λh1=>?_)$ λh1=>?_
   ·exact absurd O h1
   ·refine Ot$ Om ((ih (k+n) _ ⟨by rw[<-Nat.add_assoc];exact Kg,by rw[<-Nat.add_assoc];exact CV,(aA.trans (bz.OA λi e=> .inl e)).trans (bj.OA λi e=> .inr e),CT⟩ ω).qb)
  ·have kU:k=TB.length:=by omega
   subst kU;refine OD O$ QB O$ Oo func214 O ?_;exact⟨_,rfl,rfl,i6,((aF.trans jc).kp.trans aK).It aA (λi hi=>by rcases hi with e|e;exact .inr e;exact .inl ω)⟩
def Zo {w:World}{r a:Nat}{s:Ov}(h:Tx w r s a)(p:RN)(hp:p.Qj)(x:Nat)(hx:x<65536)(N:Nat)(hN:N<=65536){ra:Option Addr}{rc:Nat}(succ ref:List Nat)(hs:Pq succ)(br:succ≠[])(jb:succ.length<50)(CW:∀y∈succ,y<N)(im:Pq ref)
  (q:Nat) (hq:q<=p.OY) (mV:q=0->ref=[]) (hG:OE w 1 (S6 .gamma) 314) (hU:OE w 2 (S6 .unary) 314) (cW:¬1=r) (da:¬2=r) (eB:∀w2,Kp (λk=>k=r) w w2->Rd w2 (.slice ra ref.length rc) 1 ref.length (ref.map Pn)) (nh:ref.length<=rc)
  (hl:(OV (Rm p x succ ref q)).length<=134217728) (rest:List Bool) (hb:(OU s).drop a=OV (Ui p x succ ref q)++rest):
  P9 prog 186 [ptr r 0,I (x:Int),I (N:Int),.agg #[I (succ.length:Int),I (q:Int)],.slice ra ref.length rc,lpV p] w λu w'=>∃v,u= .tuple #[v,I 0]/\Sl w' v 42 1 succ.length (succ.map Pn)/\(∀g,v.ownBlock=some g->w.heap.size<=g)/\Tx w' r s (a+(OV (Ui p x succ ref q)).length)/\Kp (λk=>k=r) w w':=by
 obtain⟨g1,g2,g3,g4⟩:=id hp
 have lr0:=h.1.lt
 have l10:=hG.lt
 have l20:=hU.lt
 have gG:=hs.len
 have gV:=im.len
 have oQ:0<succ.length:=List.length_pos_iff.2 br
 refine py (e:=[(0,_),(1,_),(2,_),(3,_),(4,_),(5,_)]) func186 O ntmps186 O O$ qN O$ Oy O O (R9 O (cs:=[I (succ.length:Int),I (q:Int)]) O) ?_
 rintro _ w1 ⟨b9,rfl,mS,ad,cR⟩
 refine Oy O O (R9 O (cs:=ZK p) O) ?_
 rintro _ w2 ⟨b11,rfl,j0,ae,aX⟩
 replace aX:OE w2 b11 [I (p.OY:Int),I (p.interval:Int),I (p.zeta:Int)] 276:=aX
 have aF:=ad.trans ae
 have z1:=ad.size
 have z2:=ae.size
 have dw:=ae.On cR
 have l9:=dw.lt
 have l11:=aX.lt
 have l90:=cR.lt
 refine Qd O$ An$ Pw (λe' w'=>e'=[(0,ptr r 0),(1,I (x:Int)),(2,I (N:Int)),(4,.slice ra ref.length rc),(9,ptr b9 0),(11,ptr b11 0)]/\Ext w2 w') ?lR$ λlR=>?CY
 case lR=>
  rintro e' w3 ⟨rfl,aj⟩;have cg:=aF.trans aj;have h3:Tx w3 r s a:=⟨cg.On h.1,h.2⟩;have cQ:=aj.On dw;have kT:=aj.On aX;have z3:=aj.size;refine P7 O$ OQ Yv O (TR h3) ?_;rintro _ w3 ⟨rfl,rfl⟩;refine QO O$ qV (Sa (cs:=[_,_]) zfp O zht O O)$ Oy O O (R9 O (cs:=[ptr r 0,.bool false]) O) ?_;rintro _ w4 ⟨tb,rfl,Kh,aC,Ki⟩;have z4:=aC.size;have bQ:=cg.trans aC;have h4:TkM w4 tb r s a:=⟨Ki,⟨aC.On h3.1,h3.2⟩,ω⟩;refine QL O (OX O (qV (Pa (news:=[I (succ.length:Int),I (q:Int)]) z3s O S8 O ((aC.On cQ).cells (n:=2) O) O) (OC O (qV (Pa (news:=ZK p) YM O TM O ((aC.On kT).cells (n:=3) O) O) (OQ zf0 O (z8N h4 (bQ.On hG) cW ω p hp x hx succ ref hs br jb im q hq mV (λw2 k=>eB w2 (bQ.kp.trans k)) nh rest hb) ?_)))));rintro v w5 ⟨fP,sV,HN,ai⟩;have cX:Kp (λk=>k=r) w w5:=bQ.kp.It ai (λi hi=>by rcases hi with e|e;exact .inl ω;exact .inr e);have lQ:=ai.On (aC.On cQ) ω;have xw:=ai.On (aC.On kT) ω;have Kj:=HN.On;have Kk:=cX.On hG cW;have Kl:=cX.On hU da;have bG:=eB w5 cX;have wn:∀g,v.ownBlock=some g->w.heap.size<=g:=λg hg=>by have:=sV g hg;have:=bQ.size;omega
  obtain⟨va,vc,rfl,AZ⟩:=fP.rd.shape
  have CX:succ.length<=vc:=by
   rcases fP.shape with⟨-,h0⟩|⟨g,c1,hv,fU⟩
   ·omega
   ·cases hv;exact fU
  refine OK O$ Pz O$ Pb O$ OL Ty O$ qV ((OB U4 O O Kj O))$ OX O$ Ro Ph O$ OL Ta O$ qV ((OB U3 O O lQ O))$ Ql O$ Pu$ PC O$ OX O$ OQ z3g O (W1 _ succ hs w5 fP.rd) ?_;rintro _ w5 ⟨rfl,rfl⟩;refine qV ((S1 O))$ PC O$ OX O$ Ro Ph O$ QS O$ Pu$ PC O$ OX O$ OC O$ Ro Ph O$ Ra O ?_;rw[show(succ.length:Int)-1=((succ.length-1:Nat):Int) by omega];obtain⟨y,hy⟩:∃y,succ[succ.length-1]? =some y:=⟨_,List.getElem?_eq_getElem ω⟩;have NG:=CW y (List.mem_of_getElem? hy)
  obtain⟨g5,c5,e5⟩:∃g c,Value.slice va succ.length vc= .slice (some ⟨g,0,none⟩) succ.length c:=by
   rcases fP.shape with⟨-,h0⟩|⟨g,c,e,hc⟩
   ·omega
   ·exact⟨g,c,e⟩
  cases e5;refine qV (PK Ph OS O O ω) (qV (Pc QA O O (PM fP.rd (show(succ.map Pn)[succ.length-1]? =some (Pn y) by rw[List.getElem?_map,hy];rfl))) ?_);refine qV (Ps O QA U3 ω)$ OC O$ TE O$ Pu$ PC O$ OC O$ qV (Pa (news:=ZK p) YM O TM O (xw.cells (n:=3) O) O)$ OX O$ OC O$ qV (Pa (news:=[I (succ.length:Int),I (q:Int)]) z3s O S8 O (lQ.cells (n:=2) O) O)$ OX O$ OQ zfD O (z7O p hp x hx succ ref hs br im q hq mV Kk Kl fP.rd bG CX nh hl rest hb HN.rd) ?_;rintro _ w6 ⟨rfl,h6,aJ⟩;refine qV ((S1 O))$ PC O$ Oq$ P8.qb (e:=[(0,_),(14,_),(16,_),(134,_)]) ?_;refine T2 O$ P7 O$ Qd O$ Oo func186 O ?_;exact⟨_,rfl,_,rfl,fP.kp aJ (λg hg e=>by have:=wn g hg;omega),wn,h6,cX.trans aJ⟩
 case CY=>
  refine Ou$ P7 O$ qV (PU UU O O)$ OK O$ Ox O$ An$ qN O$ qV (Pa (news:=ZK p) YM O TM O (aX.cells (n:=3) O) O)$ OQ z3O O (TF p hp w2) ?_;rintro _ w3 ⟨rfl,aj⟩;refine Ql O$ OX O$ OQ z71 O (VE x hx w3) ?_;rintro _ w3 ⟨rfl,rfl⟩;refine qV ((S1 O))$ PC O$ OX O$ Qv O$ Pu$ PC O$ OX O$ Qr O$ Pu$ PC O$ OX O$ OQ z3g O (W1 _ ref im w3 (eB w3 (aF.trans aj).kp)) ?_;rintro _ w3 ⟨rfl,rfl⟩;refine qV ((S1 O))$ PC O$ OK O$ P8.qb (e:=[(0,_),(1,_),(2,_),(4,_),(9,_),(11,_),(12,_),(13,_),(20,_)]) ?_;refine Ox O$ Oz O$ OL Ta O$ qV ((OB U3 O O (aj.On dw) O))$ Qv O$ Pu$ OC O$ OL Ta O$ qV ((OB U3 O O (aj.On dw) O))$ Qr O$ Pu$ PC O$ OC O$ OL Sj O ?_;refine qV ((OB U3 O O (aj.On dw) O))$ Qv O$ Pu$ PC O$ OC O$ OL Sj O$ qV ((OB U3 O O (aj.On dw) O))$ OL Tf O$ qV ((OB U3 O O (aj.On aX) O))$ Qr O$ Pu$ PC O$ OC O ?_;rcases Nat.eq_zero_or_pos q with e0|e0
  ·have Km:ref.length=0:=by rw[mV e0];rfl
   refine OL Sj O$ qV ((OB U3 O O (aj.On dw) O))$ QS O$ Rf$ OX O$ Ro Ph O$ Qr O$ Pu$ QQ O$ PC O$ OK O$ P8.qb (e:=[(0,_),(1,_),(2,_),(4,_),(9,_),(11,_),(12,_),(13,_),(20,_)]) ?_;refine Ox O$ qN O$ OL Ta O$ qV ((OB U3 O O (aj.On dw) O))$ QS O$ Pu$ OC O$ QI$ qS$ PC O$ OK O$ T2 O$ Om ?_;exact(lR _ _ ⟨rfl,aj⟩).qb
  ·refine OL Sj O$ qV ((OB U3 O O (aj.On dw) O))$ QS O$ Pu$ OC O$ QI$ qS$ PC O$ PC O$ OK O$ P8.qb (e:=[(0,_),(1,_),(2,_),(4,_),(9,_),(11,_),(12,_),(13,_),(20,_)]) ?_;refine Ox O$ qN O$ OL Ta O$ qV ((OB U3 O O (aj.On dw) O))$ QS O$ Pu$ OC O$ QI$ qS$ PC O$ OK O$ T2 O$ Om ?_;exact(lR _ _ ⟨rfl,aj⟩).qb
def z2q {w:World}{r:Nat}(p:RN)(hp:p.Qj)(x:Nat)(hx:x<65536)(N:Nat)(hN:N<=65536):
  P9 prog 186 [ptr r 0,I (x:Int),I (N:Int),.agg #[I ((0:Nat):Int),I ((0:Nat):Int)],.slice none 0 0,lpV p] w λu w'=>u= .tuple #[.slice none 0 0,I 0]/\Ext w w':=by
 obtain⟨g1,g2,g3,g4⟩:=id hp
 have sP:([]:List Nat).length=0:=rfl
 refine py (e:=[(0,_),(1,_),(2,_),(3,_),(4,_),(5,_)]) func186 O ntmps186 O O$ qN O$ Oy O O (R9 O (cs:=[I ((0:Nat):Int),I ((0:Nat):Int)]) O) ?_
 rintro _ w1 ⟨b9,rfl,mS,ad,cR⟩
 refine Oy O O (R9 O (cs:=ZK p) O) ?_
 rintro _ w2 ⟨b11,rfl,j0,ae,aX⟩
 replace aX:OE w2 b11 [I (p.OY:Int),I (p.interval:Int),I (p.zeta:Int)] 276:=aX
 have aF:=ad.trans ae
 have dw:=ae.On cR
 refine Qd O$ Qt$ P7 O$ qV (PU UU O O)$ OK O$ Ox O$ An$ qN O$ qV (Pa (news:=ZK p) YM O TM O (aX.cells (n:=3) O) O)$ OQ z3O O (TF p hp w2) ?_
 rintro _ w3 ⟨rfl,aj⟩
 refine Ql O$ OX O$ OQ z71 O (VE x hx w3) ?_
 rintro _ w3 ⟨rfl,rfl⟩
 refine qV ((S1 O))$ PC O$ OX O$ Qv O$ Pu$ PC O$ OX O$ Qr O$ Pu$ PC O$ OX O$ OQ z3g O (W1 (.slice none 0 0) [] ⟨List.Pairwise.nil,λy h=>(by cases h)⟩ w3 Vg) ?_
 rintro _ w3 ⟨rfl,rfl⟩
 refine qV ((S1 O))$ PC O$ OK O$ P8.qb (e:=[(0,_),(1,_),(2,_),(4,_),(9,_),(11,_),(12,_),(13,_),(20,_)]) ?_
 refine Ox O$ Oz O$ OL Ta O$ qV ((OB U3 O O (aj.On dw) O))$ Qv O$ Pu$ OC O$ OL Ta O$ qV ((OB U3 O O (aj.On dw) O))$ Qr O$ Pu$ PC O$ OC O$ OL Sj O ?_
 refine qV ((OB U3 O O (aj.On dw) O))$ Qv O$ Pu$ PC O$ OC O$ OL Sj O$ qV ((OB U3 O O (aj.On dw) O))$ OL Tf O$ qV ((OB U3 O O (aj.On aX) O))$ Qr O$ Pu$ PC O$ OC O$ OL Sj O ?_
 refine qV ((OB U3 O O (aj.On dw) O))$ QS O$ Rf$ OX O$ Ro Ph O$ Qr O$ Pu$ QQ O$ PC O$ OK O$ P8.qb (e:=[(0,_),(1,_),(2,_),(4,_),(9,_),(11,_),(12,_),(13,_),(20,_)]) ?_
 refine Ox O$ qN O$ OL Ta O$ qV ((OB U3 O O (aj.On dw) O))$ QS O$ Rf$ OC O$ OL Sj O$ qV ((OB U3 O O (aj.On dw) O))$ QS O$ Rf$ QQ O$ OK O$ OI O ?_
 refine qN O$ Qd O$ Oo func186 O ?_
 exact⟨_,rfl,rfl,aF.trans aj⟩
/-! ### A packer's cells -/
def VI (q:Value×Nat):List Value:=[q.1,I (q.2:Int)]
def Xu (p:Qc)(R:List (Value×Nat))(n wp ed:Nat):List Value:=UX p++(R.flatMap VI++[I (n:Int),ptr wp 0,I (ed:Int),I 0])
theorem RD:∀R:List (Value×Nat),(R.flatMap VI).length=R.length*2
 |[]=>rfl
 |q::R=>by rw[List.flatMap_cons,List.length_append,RD R,List.length_cons,show(VI q).length=2 from rfl];omega
def z3q:∀(R:List (Value×Nat)) (i j:Nat) (q:Value×Nat) (u:Value),R[i]? =some q->(VI q)[j]? =some u->(R.flatMap VI)[i*2+j]? =some u
 |[],i,j,q,u,h,_=>by simp at h
 | a :: R, 0, j, q, u, h, hj => by
   rw[List.getElem?_cons_zero] at h;cases h;have:=(List.getElem?_eq_some_iff.1 hj).1;rw[List.flatMap_cons,List.getElem?_append_left ω,Nat.zero_mul,Nat.zero_add]
   exact hj
 | a :: R, i + 1, j, q, u, h, hj => by
   rw[List.getElem?_cons_succ] at h;rw[List.flatMap_cons,List.getElem?_append_right (by show 2<=_;omega),show(i+1)*2+j-(VI a).length=i*2+j by show _-2=_;omega];exact z3q R i j q u h hj
theorem z4e:∀(R:List (Value×Nat)) (i:Nat) (x:Value×Nat),i<R.length->(R.set i x).flatMap VI=(R.flatMap VI).take (i*2)++VI x++(R.flatMap VI).drop (i*2+2)
 |[],i,x,h=>by simp at h
 | a :: R, 0, x, h => by
   rw[List.set_cons_zero,List.flatMap_cons,List.flatMap_cons,Nat.zero_mul,List.take_zero,List.nil_append,Nat.zero_add,List.drop_left' (show(VI a).length=2 from rfl)]
 | a :: R, i + 1, x, h => by
   rw[List.length_cons] at h;rw[List.set_cons_succ,List.flatMap_cons,List.flatMap_cons,z4e R i x ω];rw[show(i+1)*2=(VI a).length+i*2 by show _=2+_;omega,List.take_length_add_append,Nat.add_assoc,List.drop_length_add_append,List.append_assoc,List.append_assoc,List.append_assoc]
section
variable {p:Qc}{R:List (Value×Nat)}{n wp ed:Nat}
theorem z5P (hR:R.length=17):(Xu p R n wp ed).length=43:=by
 unfold Xu
 rw[List.length_append,List.length_append,RD,hR];rfl
def ZT (hR:R.length=17)(j:Nat):(Xu p R n wp ed)[39+j]? =[I (n:Int),ptr wp 0,I (ed:Int),I 0][j]? :=by
 unfold Xu
 rw[List.getElem?_append_right (by show 5<=_;omega),List.getElem?_append_right (by rw[RD,hR];show _<=_-5;omega),RD,hR]
 congr 1
 show 39+j-5-17*2=j
 omega
def z5o (hR:R.length=17):(Xu p R n wp ed)[39]? =some (I (n:Int)):=ZT hR 0
def ze7 (hR:R.length=17):(Xu p R n wp ed)[40]? =some (ptr wp 0):=ZT hR 1
def zha (hR:R.length=17):(Xu p R n wp ed)[41]? =some (I (ed:Int)):=ZT hR 2
def zjt (hR:R.length=17):(Xu p R n wp ed)[42]? =some (I 0):=ZT hR 3
def zce (hR:R.length=17){i:Nat}{v:Value}{c:Nat}(h:R[i]? =some (v,c))(j:Nat)(u:Value)(hj:[v,I (c:Int)][j]? =some u):(Xu p R n wp ed)[5+i*2+j]? =some u:=by
 have hi:=(List.getElem?_eq_some_iff.1 h).1
 have kL:j<2:=(List.getElem?_eq_some_iff.1 hj).1
 unfold Xu
 rw[List.getElem?_append_right (by show 5<=_;omega),show 5+i*2+j-(UX p).length=i*2+j by show _-5=_;omega,List.getElem?_append_left (by rw[RD];omega)]
 exact z3q R i j _ u h hj
theorem z8b (hR:R.length=17){i:Nat}(hi:i<17)(v:Value)(c:Nat):Qu (Xu p R n wp ed) (5+i*2) [v,I (c:Int)]=Xu p (R.set i (v,c)) n wp ed:=by
 unfold Xu Qu
 rw[z4e R i (v,c) ω]
 rw[show 5+i*2=(UX p).length+i*2 from rfl,List.take_length_add_append,show(UX p).length+i*2+[v,I (c:Int)].length=(UX p).length+(i*2+2) from rfl,List.drop_length_add_append]
 rw[List.take_append_of_le_length (by rw[RD];omega),List.drop_append_of_le_length (by rw[RD];omega)]
 simp only[List.append_assoc]
 rfl
theorem zcD (hR:R.length=17)(m:Nat):(Xu p R n wp ed).set 39 (I (m:Int))=Xu p R m wp ed:=by
 unfold Xu
 rw[List.set_append_right _ _ (by show 5<=_;omega),List.set_append_right _ _ (by rw[RD,hR];show _<=39-5;omega),RD,hR]
 rfl
theorem zbF (hR:R.length=17)(m:Nat):(Xu p R n wp ed).set 41 (I (m:Int))=Xu p R n wp m:=by
 unfold Xu
 rw[List.set_append_right _ _ (by show 5<=_;omega),List.set_append_right _ _ (by rw[RD,hR];show _<=41-5;omega),RD,hR]
 rfl
end
def zb9 {w:World}{k:Nat}{p:Qc}{R:List (Value×Nat)}{n wp ed:Nat}(hB:OE w k (Xu p R n wp ed) 273)(hR:R.length=17)(hn:n<=65536)(a:Option Addr)(m cp c:Nat):
  P9 prog 166 [ptr k 5,.slice a m cp,I (c:Int)] w λu w'=>u= .tuple #[]/\OE w' k (Xu p (R.set (n%17) (.slice a m cp,c)) (n+1) wp ed) 273/\Kp (λi=>i=k) w w':=by
 refine py (e:=[(0,_),(1,_),(2,_)]) func166 O ntmps166 O O ?_
 have hg:=Ext.OT w
 have cJ:(R.set (n%17) (.slice a m cp,c)).length=17:=by rw[List.length_set];exact hR
 refine An$ OW [12] (λw'=>Ext w w') (by kernel_rfl) O$ PF 0 O O (hg)$ PF 1 O O (hg)$ P5 2 O (Q8 O) hg$ P5 3 O (Pk UO O) hg$ PF 6 O O (hg)$ PF 7 O O (hg)$ P5 8 O (Sa (cs:=[_,_]) Qz O zcU O O) hg$ P5 9 O (Q8 O) hg$ P5 10 O (Pk z7j O) hg$ qL 4 O (λ_ h=>OB U3 O O (h.On hB) (z5o hR)) hg$ P5 5 O (yre O O ω) hg$ P5 11 O (yia zgw Qz O O ω) hg ?_
 refine Th [12]$ qO 12$ Pt (i:=12) O O (Py (news:=[.slice a m cp,I (c:Int)]) Qz O O O O (hg.On hB) (by rw[z5P hR];show 5+n%17*2+2<=43;omega)) ?_
 rintro w1 ⟨ah,aG⟩
 refine⟨trivial,?_⟩
 replace ah:OE w1 k (Qu (Xu p R n wp ed) (5+n%17*2) [.slice a m cp,I (c:Int)]) 273:=ah
 rw[z8b hR (Nat.mod_lt _ ψ)] at ah
 refine qE$ R0 O$ Pb O$ OL UO O$ qV (OB U3 O O ah (z5o cJ))$ PL O$ Pb O$ OL UO O$ OJ O (Qw PH O O O ah (by rw[z5P cJ];decide)) ?_
 rintro w2 ⟨ak,am⟩
 replace ak:OE w2 k ((Xu p (R.set (n%17) (.slice a m cp,c)) n wp ed).set 39 (I ((n+1:Nat):Int))) 273:=ak
 rw[zcD cJ] at ak
 refine Oq$ PQ func166 O ?_
 exact⟨_,rfl,rfl,ak,(hg.kp.trans aG).trans am⟩
def TL (p:Qc)(m size c:Nat):Bool:=decide (0<m/\m<=p.most/\0<size/\size<=p.most/\c<p.chain)
def Wl {w:World}{k:Nat}{p:Qc}{R:List (Value×Nat)}{n wp ed:Nat}(hB:OE w k (Xu p R n wp ed) 273)(hR:R.length=17)(hn:n<=65536)(hp:p.Qj)(ref size:Nat)(h1:1<=ref)(h2:ref<=p.OY)
  {a:Option Addr} {m cp c:Nat} (hq:ref<=n->R[(n-ref)%17]? =some (.slice a m cp,c)):
  P9 prog 164 [ptr k 5,I (ref:Int),I (size:Int),bpV p] w λu w'=>u=(if ref<=n then .tuple #[.agg #[.slice a m cp,I (c:Int)],.bool (TL p m size c)] else .tuple #[.agg #[.slice none 0 0,I 0],.bool false])/\Ext w w':=by
 have xz:p.OY<=16:=hp.1.1
 refine py (e:=[(0,_),(1,_),(2,_),(3,_)]) func164 O ntmps164 O O$ qN O$ Oy O O (R9 O (cs:=UX p) O) ?_
 rintro _ w1 ⟨b7,rfl,kF,ad,bZ⟩
 refine Oy O O (Rq (cs:=[_,_]) Qz O) ?_
 rintro _ w2 ⟨b8,rfl,iW,ae,bY⟩
 have z1:=ad.size
 have z2:=ae.size
 have l7:=bZ.lt
 have l8:=bY.lt
 have aF:=ad.trans ae
 have ee:=ae.On bZ
 replace ee:OE w2 b7 [I (p.OY:Int),I (p.chain:Int),I (p.interval:Int),I (p.zeta:Int),I (p.most:Int)] 93:=ee
 replace bY:OE w2 b8 [.slice none 0 0,I 0] 268:=bY
 have tr:=aF.On hB
 have aa:=Ext.OT w2
 refine OK O$ An$ An ?_
 rcases Nat.lt_or_ge n ref with aN|lw
 ·refine R8 (λw'=>Ext w2 w') O$ OR 0 O O (aa)$ Ow 1 O (ylt O O) aa$ TK$ OR 2 O O (aa)$ OR 3 O O (aa)$ OR 4 O O (aa)$ Ow 5 O (Q8 O) aa$ Ow 6 O (Pk UO O) aa$ Ow 8 O (Pk z0H O) aa$ qT 9 O (λ_ h=>OB U3 O O (h.On ee) O) aa$ qT 7 O (λ_ h=>OB U3 O O (h.On tr) (z5o hR)) aa$ Ow 10 O (ymi O O) aa$ Ow 11 O (XQ O O) aa ?_;refine TH$ Ow 12 O (U0 O O) aa$ qE$ OI O$ qN O$ qV (Sa (cs:=[_,_]) Qz O zcU O O) ?_;have tt:=aa.On bY;refine OJ O (Py (news:=[.slice none 0 0,I 0]) Qz O O O O tt ξ) ?_;rintro w3 ⟨tv,ar⟩;replace tv:OE w3 b8 [.slice none 0 0,I 0] 268:=tv;refine OK O$ P6 func164 (.cell Xr O Qz O (OE.cells (n:=2) tv (news:=[_,_]) O) O (.tmp O .nil)) ?_;rw[if_neg ω];exact⟨_,rfl,rfl,(aF.trans aa).It ar (λi e=>by omega)⟩
 ·have gN:=hq lw;rw[if_pos lw];refine R8 (λw'=>Ext w2 w') O$ OR 0 O O (aa)$ Ow 1 O (ylt O O) aa$ TK$ OR 2 O O (aa)$ OR 3 O O (aa)$ OR 4 O O (aa)$ Ow 5 O (Q8 O) aa$ Ow 6 O (Pk UO O) aa$ Ow 8 O (Pk z0H O) aa$ qT 9 O (λ_ h=>OB U3 O O (h.On ee) O) aa$ qT 7 O (λ_ h=>OB U3 O O (h.On tr) (z5o hR)) aa$ Ow 10 O (ymi O O) aa$ Ow 11 O (XQ O O) aa ?_;refine TK$ Ow 12 O (U0 O O) aa$ qE$ T2 O$ An ?_;have ag:=aa.trans (Ext.OT w2.drew);have eV:=Ext.OT w2.drew;have nA:=aa.On tr;refine OW [13] (λw'=>Ext w2.drew w') (by kernel_rfl) O (PF 0 O O (eV) (PF 1 O O (eV) (P5 2 O (Q8 O) eV (P5 3 O (Pk UO O) eV (PF 5 O O (eV) (P5 8 O (Q8 O) eV (P5 9 O (Pk z7j O) eV (qL 4 O (λ_ h=>OB U3 O O (h.On nA) (z5o hR)) eV (P5 6 O (X8 O O ω) eV ?_)))))))));rw[show(n:Int)-(ref:Int)=((n-ref:Nat):Int) by omega];refine P5 7 O (yre O O ω) eV (P5 10 O (yia zgw Qz O O ω) eV (qL 11 O (λ_ h=>Pa (news:=[.slice a m cp,I (c:Int)]) Xr O Qz O (λj u hj=>by rw[(h.On nA).cell];exact zce hR gN j u hj) O) eV ?_));refine R4 (i:=12) (by kernel_rfl)$ Qg (i:=12) O O O (Rq (cs:=[_,_]) Qz O) ?_;rintro _ w3 ⟨b10,rfl,BO,aj,fm⟩;refine⟨eV.trans aj,?_⟩;refine Th [13] (qO 13 (Pt (i:=13) O O (Py (news:=[.slice a m cp,I (c:Int)]) Qz O O O O fm ξ) ?_));rintro w4 ⟨bE,aq⟩;refine⟨trivial,?_⟩;replace bE:OE w4 b10 [.slice a m cp,I (c:Int)] 268:=bE;have z23:=ag.size;have z3:=aj.size;have cD:Ext w2 w4:=(ag.trans aj).It aq (λi e=>by omega);have z4:=cD.size;have eE:=cD.On bY;have gP:=cD.On ee;have af:=Ext.OT w4;refine qE$ P8.qb (e:=[(2,_),(7,_),(8,_),(9,_),(10,_)]) ?_;refine An ?_;rcases Nat.eq_zero_or_pos m with c0|c0
  ·refine R8 (λw'=>Kp (λi=>i=b8) w4 w') O (qT 0 O (λ_ hS=>(Pa Xr O Qz O (OE.cells (n:=2) (hS.On bE ω) (news:=[_,_]) O) O)) (af.kp) (Ow 1 O (Pk Sd O) (af.kp) (qT 2 O (λ_ hS=>(OB Ph O O (hS.On bE ω) O)) (af.kp) (Ow 3 O (St Ph O) (af.kp) (Ow 4 O (XQ O O) (af.kp) (TK (OR 5 O O (af.kp) (qJ 6 O (af.kp) (qJ 7 O (af.kp) (qJ 8 O (af.kp) (qJ 9 O (af.kp) (qJ 10 O (af.kp) (qJ 11 O (af.kp) ?_)))))))))))));refine Ow 12 O (U0 O O) (af.kp)$ OR 13 O O (af.kp)$ qJ 14 O (af.kp)$ qJ 15 O (af.kp)$ Ow 16 O (U0 O O) (af.kp)$ OR 17 O O (af.kp)$ qJ 18 O (af.kp)$ qJ 19 O (af.kp)$ qJ 20 O (af.kp)$ qJ 21 O (af.kp)$ Ow 22 O (U0 O O) (af.kp)$ OR 23 O O (af.kp)$ qJ 24 O (af.kp)$ qJ 25 O (af.kp) ?_;refine qJ 26 O (af.kp) (qJ 27 O (af.kp) (qJ 28 O (af.kp) (Ow 29 O (U0 O O) (af.kp) (qO 30 (Pt (i:=30) O O (Py (news:=[.slice a m cp,I (c:Int)]) Qz O O O O (af.On eE) ξ) ?_)))));rintro w5 ⟨bC,ai⟩;refine⟨af.kp.trans ai,?_⟩;replace bC:OE w5 b8 [.slice a m cp,I (c:Int)] 268:=bC;refine Ow 31 O (Rr O) (af.kp.trans ai)$ qE$ P8.qb (e:=[(8,_),(9,_)]) ?_;refine P6 func164 (.cell Xr O Qz O (OE.cells (n:=2) bC (news:=[_,_]) O) O (.tmp O .nil)) ?_;have aw:TL p m size c=false:=decide_eq_false (λh=>by omega);rw[aw];exact⟨_,rfl,rfl,((aF.trans cD).trans af).It ai (λi e=>by omega)⟩
  ·rcases Nat.lt_or_ge p.most m with c1|c1
   ·refine R8 (λw'=>Kp (λi=>i=b8) w4 w') O (qT 0 O (λ_ hS=>(Pa Xr O Qz O (OE.cells (n:=2) (hS.On bE ω) (news:=[_,_]) O) O)) (af.kp) (Ow 1 O (Pk Sd O) (af.kp) (qT 2 O (λ_ hS=>(OB Ph O O (hS.On bE ω) O)) (af.kp) (Ow 3 O (St Ph O) (af.kp) (Ow 4 O (XQ O O) (af.kp) (TH (OR 5 O O (af.kp) (Ow 6 O (Pk Sd O) (af.kp) (qT 7 O (λ_ hS=>(OB Ph O O (hS.On bE ω) O)) (af.kp) (Ow 8 O (St Ph O) (af.kp) (Ow 9 O (Pk Ts O) (af.kp) (qT 10 O (λ_ hS=>(OB U3 O O (hS.On gP ω) O)) (af.kp) (Ow 11 O (YF O O) (af.kp) ?_)))))))))))));refine TK$ Ow 12 O (UT O O) (af.kp)$ OR 13 O O (af.kp)$ qJ 14 O (af.kp)$ qJ 15 O (af.kp)$ Ow 16 O (U0 O O) (af.kp)$ OR 17 O O (af.kp)$ qJ 18 O (af.kp)$ qJ 19 O (af.kp)$ qJ 20 O (af.kp)$ qJ 21 O (af.kp)$ Ow 22 O (U0 O O) (af.kp)$ OR 23 O O (af.kp)$ qJ 24 O (af.kp) ?_;refine qJ 25 O (af.kp) (qJ 26 O (af.kp) (qJ 27 O (af.kp) (qJ 28 O (af.kp) (Ow 29 O (U0 O O) (af.kp) (qO 30 (Pt (i:=30) O O (Py (news:=[.slice a m cp,I (c:Int)]) Qz O O O O (af.On eE) ξ) ?_))))));rintro w5 ⟨bC,ai⟩;refine⟨af.kp.trans ai,?_⟩;replace bC:OE w5 b8 [.slice a m cp,I (c:Int)] 268:=bC;refine Ow 31 O (Rr O) (af.kp.trans ai)$ qE$ P8.qb (e:=[(8,_),(9,_)]) ?_;refine P6 func164 (.cell Xr O Qz O (OE.cells (n:=2) bC (news:=[_,_]) O) O (.tmp O .nil)) ?_;have aw:TL p m size c=false:=decide_eq_false (λh=>by omega);rw[aw];exact⟨_,rfl,rfl,((aF.trans cD).trans af).It ai (λi e=>by omega)⟩
   ·rcases Nat.eq_zero_or_pos size with c2|c2
    ·refine R8 (λw'=>Kp (λi=>i=b8) w4 w') O (qT 0 O (λ_ hS=>(Pa Xr O Qz O (OE.cells (n:=2) (hS.On bE ω) (news:=[_,_]) O) O)) (af.kp) (Ow 1 O (Pk Sd O) (af.kp) (qT 2 O (λ_ hS=>(OB Ph O O (hS.On bE ω) O)) (af.kp) (Ow 3 O (St Ph O) (af.kp) (Ow 4 O (XQ O O) (af.kp) (TH (OR 5 O O (af.kp) (Ow 6 O (Pk Sd O) (af.kp) (qT 7 O (λ_ hS=>(OB Ph O O (hS.On bE ω) O)) (af.kp) (Ow 8 O (St Ph O) (af.kp) (Ow 9 O (Pk Ts O) (af.kp) (qT 10 O (λ_ hS=>(OB U3 O O (hS.On gP ω) O)) (af.kp) (Ow 11 O (YF O O) (af.kp) ?_)))))))))))));refine TH$ Ow 12 O (UT O O) (af.kp)$ OR 13 O O (af.kp)$ OR 14 O O (af.kp)$ Ow 15 O (XQ O O) (af.kp)$ TK$ Ow 16 O (UT O O) (af.kp)$ OR 17 O O (af.kp)$ qJ 18 O (af.kp)$ qJ 19 O (af.kp)$ qJ 20 O (af.kp)$ qJ 21 O (af.kp)$ Ow 22 O (U0 O O) (af.kp)$ OR 23 O O (af.kp) ?_;refine qJ 24 O (af.kp) (qJ 25 O (af.kp) (qJ 26 O (af.kp) (qJ 27 O (af.kp) (qJ 28 O (af.kp) (Ow 29 O (U0 O O) (af.kp) (qO 30 (Pt (i:=30) O O (Py (news:=[.slice a m cp,I (c:Int)]) Qz O O O O (af.On eE) ξ) ?_)))))));rintro w5 ⟨bC,ai⟩;refine⟨af.kp.trans ai,?_⟩;replace bC:OE w5 b8 [.slice a m cp,I (c:Int)] 268:=bC;refine Ow 31 O (Rr O) (af.kp.trans ai)$ qE$ P8.qb (e:=[(8,_),(9,_)]) ?_;refine P6 func164 (.cell Xr O Qz O (OE.cells (n:=2) bC (news:=[_,_]) O) O (.tmp O .nil)) ?_;have aw:TL p m size c=false:=decide_eq_false (λh=>by omega);rw[aw];exact⟨_,rfl,rfl,((aF.trans cD).trans af).It ai (λi e=>by omega)⟩
    ·rcases Nat.lt_or_ge p.most size with c3|c3
     ·refine R8 (λw'=>Kp (λi=>i=b8) w4 w') O (qT 0 O (λ_ hS=>(Pa Xr O Qz O (OE.cells (n:=2) (hS.On bE ω) (news:=[_,_]) O) O)) (af.kp) (Ow 1 O (Pk Sd O) (af.kp) (qT 2 O (λ_ hS=>(OB Ph O O (hS.On bE ω) O)) (af.kp) (Ow 3 O (St Ph O) (af.kp) (Ow 4 O (XQ O O) (af.kp) (TH (OR 5 O O (af.kp) (Ow 6 O (Pk Sd O) (af.kp) (qT 7 O (λ_ hS=>(OB Ph O O (hS.On bE ω) O)) (af.kp) (Ow 8 O (St Ph O) (af.kp) (Ow 9 O (Pk Ts O) (af.kp) (qT 10 O (λ_ hS=>(OB U3 O O (hS.On gP ω) O)) (af.kp) (Ow 11 O (YF O O) (af.kp) ?_)))))))))))));refine TH (Ow 12 O (UT O O) (af.kp) (OR 13 O O (af.kp) (OR 14 O O (af.kp) (Ow 15 O (XQ O O) (af.kp) (TH (Ow 16 O (UT O O) (af.kp) (OR 17 O O (af.kp) (OR 18 O O (af.kp) (Ow 19 O (Pk Ts O) (af.kp) (qT 20 O (λ_ hS=>(OB U3 O O (hS.On gP ω) O)) (af.kp) (Ow 21 O (YF O O) (af.kp) (TK (Ow 22 O (UT O O) (af.kp) ?_)))))))))))));refine OR 23 O O (af.kp) (qJ 24 O (af.kp) (qJ 25 O (af.kp) (qJ 26 O (af.kp) (qJ 27 O (af.kp) (qJ 28 O (af.kp) (Ow 29 O (U0 O O) (af.kp) (qO 30 (Pt (i:=30) O O (Py (news:=[.slice a m cp,I (c:Int)]) Qz O O O O (af.On eE) ξ) ?_))))))));rintro w5 ⟨bC,ai⟩;refine⟨af.kp.trans ai,?_⟩;replace bC:OE w5 b8 [.slice a m cp,I (c:Int)] 268:=bC;refine Ow 31 O (Rr O) (af.kp.trans ai)$ qE$ P8.qb (e:=[(8,_),(9,_)]) ?_;refine P6 func164 (.cell Xr O Qz O (OE.cells (n:=2) bC (news:=[_,_]) O) O (.tmp O .nil)) ?_;have aw:TL p m size c=false:=decide_eq_false (λh=>by omega);rw[aw];exact⟨_,rfl,rfl,((aF.trans cD).trans af).It ai (λi e=>by omega)⟩
     ·rcases Nat.lt_or_ge c p.chain with c4|c4
      ·refine R8 (λw'=>Kp (λi=>i=b8) w4 w') O (qT 0 O (λ_ hS=>(Pa Xr O Qz O (OE.cells (n:=2) (hS.On bE ω) (news:=[_,_]) O) O)) (af.kp) (Ow 1 O (Pk Sd O) (af.kp) (qT 2 O (λ_ hS=>(OB Ph O O (hS.On bE ω) O)) (af.kp) (Ow 3 O (St Ph O) (af.kp) (Ow 4 O (XQ O O) (af.kp) (TH (OR 5 O O (af.kp) (Ow 6 O (Pk Sd O) (af.kp) (qT 7 O (λ_ hS=>(OB Ph O O (hS.On bE ω) O)) (af.kp) (Ow 8 O (St Ph O) (af.kp) (Ow 9 O (Pk Ts O) (af.kp) (qT 10 O (λ_ hS=>(OB U3 O O (hS.On gP ω) O)) (af.kp) (Ow 11 O (YF O O) (af.kp) ?_)))))))))))));refine TH (Ow 12 O (UT O O) (af.kp) (OR 13 O O (af.kp) (OR 14 O O (af.kp) (Ow 15 O (XQ O O) (af.kp) (TH (Ow 16 O (UT O O) (af.kp) (OR 17 O O (af.kp) (OR 18 O O (af.kp) (Ow 19 O (Pk Ts O) (af.kp) (qT 20 O (λ_ hS=>(OB U3 O O (hS.On gP ω) O)) (af.kp) (Ow 21 O (YF O O) (af.kp) (TH (Ow 22 O (UT O O) (af.kp) ?_)))))))))))));refine OR 23 O O (af.kp) (Ow 24 O (Pk z2C O) (af.kp) (qT 25 O (λ_ hS=>(OB U3 O O (hS.On bE ω) O)) (af.kp) (Ow 26 O (Pk YX O) (af.kp) (qT 27 O (λ_ hS=>(OB U3 O O (hS.On gP ω) O)) (af.kp) (Ow 28 O (ylt O O) (af.kp) (TH (Ow 29 O (UT O O) (af.kp) (qO 30 (Pt (i:=30) O O (Py (news:=[.slice a m cp,I (c:Int)]) Qz O O O O (af.On eE) ξ) ?_)))))))));rintro w5 ⟨bC,ai⟩;refine⟨af.kp.trans ai,?_⟩;replace bC:OE w5 b8 [.slice a m cp,I (c:Int)] 268:=bC;refine Ow 31 O (Rr O) (af.kp.trans ai)$ qE$ P8.qb (e:=[(8,_),(9,_)]) ?_;refine P6 func164 (.cell Xr O Qz O (OE.cells (n:=2) bC (news:=[_,_]) O) O (.tmp O .nil)) ?_;have aw:TL p m size c=true:=decide_eq_true ⟨ω,ω,ω,ω,ω⟩;rw[aw];exact⟨_,rfl,rfl,((aF.trans cD).trans af).It ai (λi e=>by omega)⟩
      ·refine R8 (λw'=>Kp (λi=>i=b8) w4 w') O (qT 0 O (λ_ hS=>(Pa Xr O Qz O (OE.cells (n:=2) (hS.On bE ω) (news:=[_,_]) O) O)) (af.kp) (Ow 1 O (Pk Sd O) (af.kp) (qT 2 O (λ_ hS=>(OB Ph O O (hS.On bE ω) O)) (af.kp) (Ow 3 O (St Ph O) (af.kp) (Ow 4 O (XQ O O) (af.kp) (TH (OR 5 O O (af.kp) (Ow 6 O (Pk Sd O) (af.kp) (qT 7 O (λ_ hS=>(OB Ph O O (hS.On bE ω) O)) (af.kp) (Ow 8 O (St Ph O) (af.kp) (Ow 9 O (Pk Ts O) (af.kp) (qT 10 O (λ_ hS=>(OB U3 O O (hS.On gP ω) O)) (af.kp) (Ow 11 O (YF O O) (af.kp) ?_)))))))))))));refine TH (Ow 12 O (UT O O) (af.kp) (OR 13 O O (af.kp) (OR 14 O O (af.kp) (Ow 15 O (XQ O O) (af.kp) (TH (Ow 16 O (UT O O) (af.kp) (OR 17 O O (af.kp) (OR 18 O O (af.kp) (Ow 19 O (Pk Ts O) (af.kp) (qT 20 O (λ_ hS=>(OB U3 O O (hS.On gP ω) O)) (af.kp) (Ow 21 O (YF O O) (af.kp) (TH (Ow 22 O (UT O O) (af.kp) ?_)))))))))))));refine OR 23 O O (af.kp) (Ow 24 O (Pk z2C O) (af.kp) (qT 25 O (λ_ hS=>(OB U3 O O (hS.On bE ω) O)) (af.kp) (Ow 26 O (Pk YX O) (af.kp) (qT 27 O (λ_ hS=>(OB U3 O O (hS.On gP ω) O)) (af.kp) (Ow 28 O (ylt O O) (af.kp) (TK (Ow 29 O (UT O O) (af.kp) (qO 30 (Pt (i:=30) O O (Py (news:=[.slice a m cp,I (c:Int)]) Qz O O O O (af.On eE) ξ) ?_)))))))));rintro w5 ⟨bC,ai⟩;refine⟨af.kp.trans ai,?_⟩;replace bC:OE w5 b8 [.slice a m cp,I (c:Int)] 268:=bC;refine Ow 31 O (Rr O) (af.kp.trans ai)$ qE$ P8.qb (e:=[(8,_),(9,_)]) ?_;refine P6 func164 (.cell Xr O Qz O (OE.cells (n:=2) bC (news:=[_,_]) O) O (.tmp O .nil)) ?_;have aw:TL p m size c=false:=decide_eq_false (λh=>by omega);rw[aw];exact⟨_,rfl,rfl,((aF.trans cD).trans af).It ai (λi e=>by omega)⟩
abbrev z6U:List (Value×Nat):=List.replicate 17 (.slice none 0 0,0)
def z8h (p:Qc)(hp:p.Qj)(w:World):P9 prog 124 [bpV p] w λu w'=>∃k wp F,u= .tuple #[ptr k 0,I 0]/\OE w' k (Xu p z6U 0 wp 0) 273/\Yi w' wp [] F/\¬F k/\Ext w w'/\w.heap.size<=k/\∀i,F i->w.heap.size<=i:=by
 refine py (e:=[(0,_)]) func124 O ntmps124 O O$ qN O$ Oy O O (R9 O (cs:=UX p) O) ?_
 rintro _ w1 ⟨b1,rfl,bK,ad,ah⟩
 have z1:=ad.size
 refine Qd O$ An$ qN O$ qV (Pa (news:=UX p) U93 O Ru O (ah.cells (n:=5) O) O)$ OQ zd5 O (Zl p hp w1) ?_
 rintro _ w2 ⟨rfl,ae⟩
 have z2:=ae.size
 have hg:=Ext.OT w2
 refine QO O$ Ql O$ PX O$ An$ R8 (λw'=>Ext w2 w') O$ qT 0 O (λ_ hS=>Pa (news:=UX p) U93 O Ru O ((hS.On (ae.On ah)).cells (n:=5) O) O) hg$ SH 1 O z0J O (Uh _) ?_
 rintro _ w3 ⟨wp,F,rfl,my,aj,pN⟩
 refine⟨hg.trans aj,?_⟩
 have eg:=hg.trans aj
 have z3:=eg.size
 refine Ow 2 O (Sa zi2 O zhI O O) (hg.trans aj)$ qO 3$ ZC (i:=3) O O O (R9 O (cs:=Xu p z6U 0 wp 0) O) ?_
 rintro _ w4 ⟨k,rfl,hk,aC,aH⟩
 refine⟨eg.trans aC,?_⟩
 refine Ow 4 O (Rr O) (eg.trans aC)$ Ow 5 O (Rr O) (eg.trans aC)$ qE$ Oo func124 O ?_
 exact⟨_,rfl,k,wp,F,rfl,aH,my.ext aC,λe=>by have:=my.lt e;omega,((ad.trans ae).trans eg).trans aC,ω,λi hi=>by have:=pN i hi;have:=hg.size;omega⟩
structure PkM (w:World)(k:Nat)(p:Qc)(L:List (List Nat))(E:List (Nat×Nat))(bs:List Bool)(F:Nat->Prop)(R:List (Value×Nat))(wp ed:Nat):Prop where
 On:OE w k (Xu p R L.length wp ed) 273
 len:R.length=17
 wr:Yi w wp bs F
 nk:¬F k
 el:E.length=L.length
 ok:∀l∈L,Pq l
 ring:∀j l e,L[j]? =some l->E[j]? =some e->L.length<=j+17->∃a cp,R[j%17]? =some (.slice a l.length cp,e.2)/\l.length<=cp/\Sl w (.slice a l.length cp) 42 1 l.length (l.map Pn)/\(∀g,(Value.slice a l.length cp).ownBlock=some g->¬F g/\g≠k)
def PkM.ext {w w':World}{k:Nat}{p:Qc}{L:List (List Nat)}{E:List (Nat×Nat)}{bs:List Bool}{F:Nat->Prop}{R:List (Value×Nat)}{wp ed:Nat}(h:PkM w k p L E bs F R wp ed)(hx:Ext w w'):PkM w' k p L E bs F R wp ed:=
 ⟨hx.On h.On,h.len,h.wr.ext hx,h.nk,h.el,h.ok,λj l e h1 h2 h3=>by
  obtain⟨a,cp,g1,g2,g3,g4⟩:=h.ring j l e h1 h2 h3
  exact⟨a,cp,g1,g2,g3.ext hx,g4⟩⟩
def Found (p:Qc)(L:List (List Nat))(E:List (Nat×Nat))(R:List (Value×Nat))(size ref:Nat)(v:Value)(c:Nat):Prop:=
 (ref=0/\v= .slice none 0 0/\c=0)\/(1<=ref/\ref<=p.OY/\ref<=L.length/\R[(L.length-ref)%17]? =some (v,c)/\∃l e,L[L.length-ref]? =some l/\E[L.length-ref]? =some e/\c=e.2/\TL p l.length size e.2=true)
structure AdM (w:World)(k b2 b3 b7 b8 b4 b9:Nat)(a:Option Addr)(m cp n least ref:Nat)(v:Value)(c:Nat):Prop where
 c2:OE w b2 [ptr k 0] 223
 c3:OE w b3 [.slice a m cp] 40
 c7:OE w b7 [I (n:Int)] 3
 c8:OE w b8 [I (least:Int)] 3
 c4:OE w b4 [I (ref:Int)] 3
 c9:OE w b9 [v,I (c:Int)] 268
def AdM.kp {S:Nat->Prop}{w w':World}{k b2 b3 b7 b8 b4 b9:Nat}{a:Option Addr}{m cp n least ref:Nat}{v:Value}{c:Nat}(h:AdM w k b2 b3 b7 b8 b4 b9 a m cp n least ref v c)(hk:Kp S w w')(hn:∀i,S i->i≠b2/\i≠b3/\i≠b7/\i≠b8/\i≠b4/\i≠b9):AdM w' k b2 b3 b7 b8 b4 b9 a m cp n least ref v c:=
 ⟨hk.On h.c2 (λe=>(hn _ e).1 O),hk.On h.c3 (λe=>(hn _ e).2.1 O),hk.On h.c7 (λe=>(hn _ e).2.2.1 O),hk.On h.c8 (λe=>(hn _ e).2.2.2.1 O),hk.On h.c4 (λe=>(hn _ e).2.2.2.2.1 O),hk.On h.c9 (λe=>(hn _ e).2.2.2.2.2 O)⟩
def AdM.ext {w w':World}{k b2 b3 b7 b8 b4 b9:Nat}{a:Option Addr}{m cp n least ref:Nat}{v:Value}{c:Nat}(h:AdM w k b2 b3 b7 b8 b4 b9 a m cp n least ref v c)(hk:Ext w w'):AdM w' k b2 b3 b7 b8 b4 b9 a m cp n least ref v c:=h.kp (S:=λ_=>False) hk.kp (λi e=>e.elim)
def zcF {w:World}{k:Nat}{p:Qc}(hp:p.Qj){L:List (List Nat)}{E:List (Nat×Nat)}{bs:List Bool}{F:Nat->Prop}{R:List (Value×Nat)}{wp ed:Nat}(h:PkM w k p L E bs F R wp ed)(hG:OE w 1 (S6 .gamma) 314)(hU:OE w 2 (S6 .unary) 314)(hL:L.length<65536)
  {b2 b3 b7 b8 b4 b9:Nat} {a:Option Addr} {cp least ref:Nat} {v:Value} {c:Nat} {succ:List Nat} (hs:Pq succ) (kS:succ.length<=cp) (et:Rd w (.slice a succ.length cp) 1 succ.length (succ.map Pn)) (hA:AdM w k b2 b3 b7 b8 b4 b9 a succ.length cp L.length least ref v c) (hF:Found p L E R succ.length ref v c)
  (hd:b8≠b2/\b8≠b3/\b8≠b7/\b4≠b2/\b4≠b3/\b4≠b7/\b9≠b2/\b9≠b3/\b9≠b7/\b8≠b4/\b8≠b9/\b4≠b9) (r:Nat) (h1:1<=r) (h2:r<=p.OY):
  P9 prog 163 [I (r:Int),ptr b2 0,ptr b3 0,ptr b7 0,ptr b8 0,ptr b4 0,ptr b9 0] w λu w'=>u= .tuple #[]/\Kp (λi=>i=b8\/i=b4\/i=b9) w w'/\∃least' ref' v' c',AdM w' k b2 b3 b7 b8 b4 b9 a succ.length cp L.length least' ref' v' c'/\Found p L E R succ.length ref' v' c':=by
 have xz:p.OY<=16:=hp.1.1
 obtain⟨a1,c1,m1,e1,tz,Kn⟩:∃a1 c1 m1 e1,(r<=L.length->R[(L.length-r)%17]? =some (.slice a1 m1 c1,e1))/\(r<=L.length->∃l e,L[L.length-r]? =some l/\E[L.length-r]? =some e/\m1=l.length/\e1=e.2/\l.length<=c1/\Sl w (.slice a1 l.length c1) 42 1 l.length (l.map Pn)):=by
  by_cases hr:r<=L.length
  ·obtain⟨l,hl⟩:∃l,L[L.length-r]? =some l:=⟨_,List.getElem?_eq_getElem ω⟩;obtain⟨e,he⟩:∃e,E[L.length-r]? =some e:=⟨_,List.getElem?_eq_getElem (by have:=h.el;omega)⟩;obtain⟨a1,c1,g1,g2,g3,g4⟩:=h.ring _ l e hl he ω;exact⟨a1,c1,l.length,e.2,λ_=>g1,λ_=>⟨l,e,hl,he,rfl,rfl,g2,g3⟩⟩
  ·exact⟨none,0,0,0,λe=>absurd e hr,λe=>absurd e hr⟩
 have fJ:=hA.c2
 have pO:=hA.c3
 have hg:=Ext.OT w
 have lS:∀{w2:World},OE w2 k (Xu p R L.length wp ed) 273->∀j u,(UX p)[j]? =some u->w2.cell? ⟨k,0+j,none⟩=some u:=λhB j u hj=>hB.cells (i:=0) (n:=5) (news:=UX p) O j u hj
 refine py (e:=[(0,_),(1,_),(2,_),(3,_),(4,_),(5,_),(6,_)]) func163 O ntmps163 O O$ An$ Pw (λe' w'=>∃tb v1 d1 ok,e'=[(0,I (r:Int)),(1,ptr b2 0),(2,ptr b3 0),(3,ptr b7 0),(4,ptr b8 0),(5,ptr b4 0),(6,ptr b9 0),(8,ptr tb 0),(9,.bool ok)]/\Ext w w'/\w.heap.size<=tb/\OE w' tb [v1,I ((d1:Nat):Int)] 268/\(ok=true->r<=L.length/\v1= .slice a1 m1 c1/\d1=e1/\TL p m1 succ.length e1=true)) ?bD$ λbD=>?de
 case bD=>
  rintro e' w1 ⟨tb,v1,d1,ok,rfl,ad,Kh,tA,aw⟩;have kN:=hA.ext ad;have tB:=kN.c2;have mO:=kN.c3;have Ko:=kN.c7;have HO:=kN.c8;refine Pz O$ qV ((S1 O))$ Oq$ Q0 O (λh3=>?_)$ λh3=>?_
  ·refine Oo func163 O ?_;exact⟨_,rfl,rfl,ad.kp,_,_,_,_,kN,hF⟩
  ·have CZ:ok=true:=by cases ok<;>simp_all
   obtain⟨D2,rfl,rfl,fK⟩:=aw CZ;obtain⟨l,e,hl,he,rfl,rfl,oO,Kq⟩:=Kn D2;have D3:=tz D2;have D4:Pq l:=h.ok l (List.mem_of_getElem? hl);have bc:=Ext.OT w1;refine Ot$ An$ R8 (λw'=>Ext w1 w') O$ qT 0 O (λ_ h=>(OB U3 O O (h.On Ko) O)) bc$ qT 1 O (λ_ h=>(OB Ph O O (h.On mO) O)) bc$ Ow 2 O (Pk Sd O) bc$ qT 3 O (λ_ h=>(OB Ph O O (h.On tA) O)) bc$ OR 4 O O (bc)$ qT 5 O (λ_ h=>(OB VU O O (h.On tB) O)) bc$ Ow 6 O (Q8 O) bc$ Ow 7 O (Pk WL O) bc$ qT 8 O (λ_ hS=>Pa (news:=UX p) U93 O Ru O (lS (hS.On (ad.On h.On))) O) bc$ SH 9 O z0v O (SK p _) ?_;rintro _ w9 ⟨rfl,fu⟩;refine⟨bc.trans fu,?_⟩;have gm:=bc.trans fu;have gp:=ad.trans gm;refine SH 10 O z3J O (Vh p.list hp.1 L.length hL succ l hs D4 r h2 (λe=>by omega) (gp.On hG) (gp.On hU) (et.ext gp) (Kq.rd.ext gp) kS oO) ?_;rintro _ w10 ⟨rfl,bI⟩;refine⟨gm.trans bI,?_⟩;have gq:=gm.trans bI;have lG:=kN.ext gq;have D5:=lG.c8;have D6:=gq.On tA
   generalize (OV (Rm p.list L.length succ l r)).length=nb
   refine OR 11 O O (gm.trans bI)$ Ow 12 O (Rv O O) (gm.trans bI)$ Ow 13 O (Rv O O) (gm.trans bI)$ Ow 14 O (Rr O) (gm.trans bI)$ Ow 15 O (Rr O) (gm.trans bI)$ qE$ P8.qb (e:=[(0,_),(4,_),(5,_),(6,_),(8,_),(10,_)]) ?_;refine P7 O$ qV (OB U3 O O D5 O)$ Qv O$ Oq$ OH O (λh4=>?_)$ λh4=>?_
   ·have jW:=Ext.OT w10;have hH:=lG.ext jW;have lb8:=hA.c8.lt;have lb4:=hA.c4.lt;have lb9:=hA.c9.lt;have Kr:¬(tb=b8\/tb=b4\/tb=b9):=by omega
    refine R8 (λw'=>Kp (λi=>i=b8\/i=b4\/i=b9) w10 w') O (OR 0 O O (jW.kp) (OR 1 O O (jW.kp) (qT 2 O (λ_ h=>Pa Xr O Qz O (OE.cells (n:=2) (h.On D6 Kr) (news:=[_,_]) O) O) (jW.kp) (qO 3 (Pt (i:=3) O O (Qw PH O O O hH.c8 ξ) ?_)))));rintro w11 ⟨aX,bz⟩;refine⟨jW.kp.trans (bz.OA λi e=> .inl e),?_⟩;have rl:Kp (λi=>i=b8\/i=b4\/i=b9) w10 w11:=jW.kp.trans (bz.OA λi e=> .inl e);have Ks:=bz.On hH.c4 (λe=>hd.2.2.2.2.2.2.2.2.2.1 e.symm);refine qO 4 (Pt (i:=4) O O (Qw PH O O O Ks ξ) ?_);rintro w12 ⟨bh,bj⟩;refine⟨rl.trans (bj.OA λi e=> .inr (.inl e)),?_⟩;have xA:Kp (λi=>i=b8\/i=b4\/i=b9) w10 w12:=rl.trans (bj.OA λi e=> .inr (.inl e));have Kt:=bj.On (bz.On hH.c9 (λe=>hd.2.2.2.2.2.2.2.2.2.2.1 e.symm)) (λe=>hd.2.2.2.2.2.2.2.2.2.2.2 e.symm);refine qO 5 (Pt (i:=5) O O (Py (news:=[.slice a1 l.length c1,I (e.2:Int)]) Qz O O O O Kt ξ) ?_);rintro w13 ⟨cT,di⟩;refine⟨xA.trans (di.OA λi e=> .inr (.inr e)),?_⟩;replace cT:OE w13 b9 [.slice a1 l.length c1,I (e.2:Int)] 268:=cT;replace bh:OE w12 b4 [I (r:Int)] 3:=bh;replace aX:OE w11 b8 [I (nb:Int)] 3:=aX;refine qE$ PQ func163 O ?_;obtain⟨d1,d2,d3,d4,d5,d6,d7,d8,d9,d10,d11,d12⟩:=hd;have eC:∀{b:Nat} {cs:List Value} {T:TypeId},OE w10.drew b cs T->b8≠b->b4≠b->b9≠b->OE w13 b cs T:=λhB n1 n2 n3=>di.On (bj.On (bz.On hB (λe=>n1 e.symm)) (λe=>n2 e.symm)) (λe=>n3 e.symm);refine⟨_,rfl,rfl,?_,nb,r,.slice a1 l.length c1,e.2,⟨eC hH.c2 d1 d4 d7,eC hH.c3 d2 d5 d8,eC hH.c7 d3 d6 d9,di.On (bj.On aX d10) d11,di.On bh d12,cT⟩,.inr ⟨h1,h2,D2,D3,l,e,hl,he,rfl,fK⟩⟩;exact((ad.trans gq).trans jW).kp.trans ((bz.OA λi e=> .inl e).trans ((bj.OA λi e=> .inr (.inl e)).trans (di.OA λi e=> .inr (.inr e))))
   ·refine Ot$ PQ func163 O ?_;exact⟨_,rfl,rfl,(ad.trans gq).kp,_,_,_,_,lG,hF⟩
 case de=>
  rcases Nat.lt_or_ge L.length r with aN|lw
  ·have au:=hg;refine OW [15] (λw'=>Ext w w') (by kernel_rfl) O$ qL 0 O (λ_ h=>(OB VU O O (h.On fJ) O)) au$ P5 1 O (Q8 O) au$ P5 2 O (Pk Yf O) au$ PF 3 O O (au)$ qL 4 O (λ_ h=>(OB Ph O O (h.On pO) O)) au$ P5 5 O (St Ph O) au$ qL 6 O (λ_ h=>(OB VU O O (h.On fJ) O)) au$ P5 7 O (Q8 O) au$ P5 8 O (Pk WL O) au$ qL 9 O (λ_ hS=>Pa (news:=UX p) U93 O Ru O (lS (hS.On h.On)) O) au$ Xd (i:=10) (j:=14) (by kernel_rfl) ?_ ?_
   ·refine RM (i:=10) O O O (yc z7E O) (Wl (au.On h.On) h.len ω hp r succ.length h1 h2 tz) ?_;rintro _ w10 ⟨lD,bI⟩;refine⟨au.trans bI,?_⟩;rw[if_neg ω] at lD;subst lD
    try have cm:=bI.On cm
    have au:=au.trans bI;refine PF 11 O O au (P5 12 O (Rv O O) au (PZ (i:=13) O (by kernel_rfl) O O (λ_=>Rv O O) au (R4 (i:=14) (by kernel_rfl) (Qg (i:=14) O O O (Rq (cs:=[_,_]) Qz O) ?_))));rintro _ w14 ⟨tb,rfl,nx,dE,cm⟩;refine⟨au.trans dE,?_⟩;have jX:w.heap.size<=tb:=by have:=au.size;omega
    have au:=au.trans dE;refine Th [15] (qO 15 (Pt (i:=15) O O (Py (news:=[.slice none 0 0,I ((0:Nat):Int)]) Qz O O O O cm ξ) ?_));rintro w15 ⟨dF,jY⟩;refine⟨trivial,?_⟩;refine Ow 16 O (Rr O) trivial$ qE ?_;exact(bD _ _ ⟨tb,.slice none 0 0,0,false,rfl,au.It jY (λi e=>by omega),jX,dF,λe=>by cases e⟩).qb
   ·refine Qg (i:=14) O O O (Rq (cs:=[_,_]) Qz O) ?_;rintro _ w14 ⟨tb,rfl,nx,dE,cm⟩;refine⟨au.trans dE,?_⟩;have jX:w.heap.size<=tb:=by have:=au.size;omega
    have au:=au.trans dE;refine R4 (i:=10) (by kernel_rfl) (RM (i:=10) O O O (yc z7E O) (Wl (au.On h.On) h.len ω hp r succ.length h1 h2 tz) ?_);rintro _ w10 ⟨lD,bI⟩;refine⟨au.trans bI,?_⟩;rw[if_neg ω] at lD;subst lD
    try have cm:=bI.On cm
    have au:=au.trans bI;refine PF 11 O O au (P5 12 O (Rv O O) au (PZ (i:=13) O (by kernel_rfl) O O (λ_=>Rv O O) au (Th [15] (qO 15 (Pt (i:=15) O O (Py (news:=[.slice none 0 0,I ((0:Nat):Int)]) Qz O O O O cm ξ) ?_)))));rintro w15 ⟨dF,jY⟩;refine⟨trivial,?_⟩;refine Ow 16 O (Rr O) trivial$ qE ?_;exact(bD _ _ ⟨tb,.slice none 0 0,0,false,rfl,au.It jY (λi e=>by omega),jX,dF,λe=>by cases e⟩).qb
  ·have au:=hg;refine OW [15] (λw'=>Ext w w') (by kernel_rfl) O$ qL 0 O (λ_ h=>(OB VU O O (h.On fJ) O)) au$ P5 1 O (Q8 O) au$ P5 2 O (Pk Yf O) au$ PF 3 O O (au)$ qL 4 O (λ_ h=>(OB Ph O O (h.On pO) O)) au$ P5 5 O (St Ph O) au$ qL 6 O (λ_ h=>(OB VU O O (h.On fJ) O)) au$ P5 7 O (Q8 O) au$ P5 8 O (Pk WL O) au$ qL 9 O (λ_ hS=>Pa (news:=UX p) U93 O Ru O (lS (hS.On h.On)) O) au$ Xd (i:=10) (j:=14) (by kernel_rfl) ?_ ?_
   ·refine RM (i:=10) O O O (yc z7E O) (Wl (au.On h.On) h.len ω hp r succ.length h1 h2 tz) ?_;rintro _ w10 ⟨lD,bI⟩;refine⟨au.trans bI,?_⟩;rw[if_pos lw] at lD;subst lD
    try have cm:=bI.On cm
    have au:=au.trans bI;refine PF 11 O O au (P5 12 O (Rv O O) au (PZ (i:=13) O (by kernel_rfl) O O (λ_=>Rv O O) au (R4 (i:=14) (by kernel_rfl) (Qg (i:=14) O O O (Rq (cs:=[_,_]) Qz O) ?_))));rintro _ w14 ⟨tb,rfl,nx,dE,cm⟩;refine⟨au.trans dE,?_⟩;have jX:w.heap.size<=tb:=by have:=au.size;omega
    have au:=au.trans dE;refine Th [15] (qO 15 (Pt (i:=15) O O (Py (news:=[.slice a1 m1 c1,I ((e1:Nat):Int)]) Qz O O O O cm ξ) ?_));rintro w15 ⟨dF,jY⟩;refine⟨trivial,?_⟩;refine Ow 16 O (Rr O) trivial$ qE ?_;exact(bD _ _ ⟨tb,.slice a1 m1 c1,e1,TL p m1 succ.length e1,rfl,au.It jY (λi e=>by omega),jX,dF,λe=>⟨lw,rfl,rfl,e⟩⟩).qb
   ·refine Qg (i:=14) O O O (Rq (cs:=[_,_]) Qz O) ?_;rintro _ w14 ⟨tb,rfl,nx,dE,cm⟩;refine⟨au.trans dE,?_⟩;have jX:w.heap.size<=tb:=by have:=au.size;omega
    have au:=au.trans dE;refine R4 (i:=10) (by kernel_rfl) (RM (i:=10) O O O (yc z7E O) (Wl (au.On h.On) h.len ω hp r succ.length h1 h2 tz) ?_);rintro _ w10 ⟨lD,bI⟩;refine⟨au.trans bI,?_⟩;rw[if_pos lw] at lD;subst lD
    try have cm:=bI.On cm
    have au:=au.trans bI;refine PF 11 O O au (P5 12 O (Rv O O) au (PZ (i:=13) O (by kernel_rfl) O O (λ_=>Rv O O) au (Th [15] (qO 15 (Pt (i:=15) O O (Py (news:=[.slice a1 m1 c1,I ((e1:Nat):Int)]) Qz O O O O cm ξ) ?_)))));rintro w15 ⟨dF,jY⟩;refine⟨trivial,?_⟩;refine Ow 16 O (Rr O) trivial$ qE ?_;exact(bD _ _ ⟨tb,.slice a1 m1 c1,e1,TL p m1 succ.length e1,rfl,au.It jY (λi e=>by omega),jX,dF,λe=>⟨lw,rfl,rfl,e⟩⟩).qb
def Qp (L:List (List Nat))(n r:Nat):List Nat:=if r=0 then [] else(L[n-r]?).getD []
def ZE (p:Qc)(L:List (List Nat))(E:List (Nat×Nat))(n size:Nat)(e:Nat×Nat):Prop:=
 e=(0,0)\/(1<=e.1/\e.1<=p.OY/\e.1<=n/\∃l e',L[n-e.1]? =some l/\E[n-e.1]? =some e'/\e.2=e'.2+1/\TL p l.length size e'.2=true)
theorem zeL {j n:Nat}(h1:j<n)(h2:n+1<=j+17):j%17≠n%17:=by omega
theorem PkM.add {w wA wB wC wD wE wF:World}{k:Nat}{p:Qc}{L:List (List Nat)}{E:List (Nat×Nat)}{bs bs':List Bool}{F F':Nat->Prop}{R:List (Value×Nat)}{wp ed b4:Nat}(h:PkM w k p L E bs F R wp ed)(kV:Ext w wA)(j4:Kp F wA wB)(B0:Yi wB wp bs' F')(pP:∀i,F' i->F i\/wA.heap.size<=i)
  {a':Option Addr} {cp' ch r:Nat} {succ:List Nat} (hs:Pq succ) (D7:Ext wB wC) (vG:Sl wC (.slice a' succ.length cp') 42 1 succ.length (succ.map Pn)) (tC:succ.length<=cp') (cN:∀g,(Value.slice a' succ.length cp').ownBlock=some g->wB.heap.size<=g)
  (fA:Kp (λi=>i=k) wC wD) (oM:Kp (λi=>i=k) wD wE) (tD:Kp (λi=>i=b4) wE wF) (gF:w.heap.size<=b4) (Ku:b4<wA.heap.size) (D8:OE wF k (Xu p (R.set (L.length%17) (.slice a' succ.length cp',ch)) (L.length+1) wp (ed+succ.length)) 273):
  PkM wF k p (L++[succ]) (E++[(r,ch)]) bs' F' (R.set (L.length%17) (.slice a' succ.length cp',ch)) wp (ed+succ.length)/\Kp (λi=>F i\/i=k) w wF/\∀i,F' i->F i\/w.heap.size<=i:=by
 have lk:=h.On.lt
 have zA:=kV.size
 have zB:=j4.size
 have jI:∀i,F i->i<w.heap.size:=λi hi=>h.wr.lt hi
 have nB:∀i,F' i->i<wB.heap.size:=λi hi=>B0.lt hi
 have tE:¬F' k:=λe=>by rcases pP k e with e|e;exact h.nk e;omega
 have D9:¬F' b4:=λe=>by rcases pP b4 e with e|e;(have:=jI _ e;omega);omega
 have Da:∀{v:Value} {n:Nat} {cs:List Value},Sl w v 42 1 n cs->(∀g,v.ownBlock=some g->¬F g/\g≠k)->Sl wF v 42 1 n cs:=λhS hg=>
  ((((((hS.ext kV).kp j4 (λg e=>(hg g e).1)).ext D7).kp fA (λg e=>(hg g e).2)).kp oM (λg e=>(hg g e).2)).kp tD (λg e e'=>by have:=hS.lt e;omega))
 have Kv:=((vG.kp fA (λg e e'=>by have:=cN g e;omega)).kp oM (λg e e'=>by have:=cN g e;omega)).kp tD (λg e e'=>by have:=cN g e;omega)
 refine⟨⟨by rw[List.length_append,List.length_singleton];exact D8,by rw[List.length_set];exact h.len,(((B0.ext D7).kp fA (λi hi e=>tE (e▸hi))).kp oM (λi hi e=>tE (e▸hi))).kp tD (λi hi e=>D9 (e▸hi)),tE,by rw[List.length_append,List.length_append,h.el];rfl,λl hl=>?_,λj l e h1 h2 h3=>?_⟩,?_,λi hi=>?_⟩
 ·rcases List.mem_append.1 hl with hl|hl
  ·exact h.ok l hl
  ·rw[List.mem_singleton.1 hl];exact hs
 ·rw[List.length_append,List.length_singleton] at h3;rcases Nat.lt_or_ge j L.length with hj|hj
  ·rw[List.getElem?_append_left hj] at h1;rw[List.getElem?_append_left (by rw[h.el];exact hj)] at h2;obtain⟨a,cp,g1,g2,g3,g4⟩:=h.ring j l e h1 h2 ω;refine⟨a,cp,?_,g2,Da g3 g4,λg hg=>⟨λe'=>?_,(g4 g hg).2⟩⟩
   ·rw[List.getElem?_set_ne (λe'=>zeL hj ω e'.symm)];exact g1
   ·rcases pP g e' with e'|e'
    ·exact(g4 g hg).1 e'
    ·have:=g3.lt hg;omega
  ·have Db:=(List.getElem?_eq_some_iff.1 h1).1;rw[List.length_append,List.length_singleton] at Db;have ej:j=L.length:=by omega
   subst ej;rw[List.getElem?_append_right (Nat.le_refl _),Nat.sub_self,List.getElem?_cons_zero] at h1;rw[List.getElem?_append_right (by rw[h.el];exact Nat.le_refl _),h.el,Nat.sub_self,List.getElem?_cons_zero] at h2;cases h1;cases h2;refine⟨a',cp',List.getElem?_set_self (by rw[h.len];exact Nat.mod_lt _ ψ),tC,Kv,λg hg=>⟨λe'=>?_,λe'=>?_⟩⟩
   ·have:=cN g hg;have:=nB g e';omega
   ·have:=cN g hg;omega
 ·exact((((kV.kp.trans (j4.OA λi e=> .inl e)).trans D7.kp).trans (fA.OA λi e=> .inr e)).trans (oM.OA λi e=> .inr e)).It tD (λi e=> .inl ω)
 ·rcases pP i hi with e| e
  ·exact .inl e
  ·exact .inr ω
def z9f {w:World}{k:Nat}{p:Qc}(hp:p.Qj){L:List (List Nat)}{E:List (Nat×Nat)}{bs:List Bool}{F:Nat->Prop}{R:List (Value×Nat)}{wp ed:Nat}(h:PkM w k p L E bs F R wp ed)(hG:OE w 1 (S6 .gamma) 314)(hU:OE w 2 (S6 .unary) 314)(hL:L.length<65536)
  {a:Option Addr} {cp:Nat} {succ:List Nat} (hs:Pq succ) (kS:succ.length<=cp) (et:Rd w (.slice a succ.length cp) 1 succ.length (succ.map Pn)) (B1:ed+succ.length<=1048576) (Kw:∀g,0<succ.length->(Value.slice a succ.length cp).ownBlock=some g->¬F g/\g≠k)
  (nC:∀r,r<=p.OY->bs.length+(OV (Rm p.list L.length succ (Qp L L.length r) r)).length<=134217728):
  P9 prog 126 [ptr k 0,.slice a succ.length cp] w λu w'=>∃(r least ch:Nat) (F':Nat->Prop) (R':List (Value×Nat)),u= .tuple #[I (r:Int),I (least:Int),I 0]/\ZE p L E L.length succ.length (r,ch)/\
   PkM w' k p (L++[succ]) (E++[(r,ch)]) (bs++OV (Rm p.list L.length succ (Qp L L.length r) r)) F' R' wp (ed+succ.length)/\Kp (λi=>F i\/i=k) w w'/\∀i,F' i->F i\/w.heap.size<=i:=by
 have xz:p.OY<=16:=hp.1.1
 have lk:=h.On.lt
 have lS:∀{w2:World},OE w2 k (Xu p R L.length wp ed) 273->∀j u,(UX p)[j]? =some u->w2.cell? ⟨k,0+j,none⟩=some u:=λhB j u hj=>hB.cells (i:=0) (n:=5) (news:=UX p) O j u hj
 refine py (e:=[(0,_),(1,_)]) func126 O ntmps126 O O$ qN O$ Oy O O (R9 O (cs:=[ptr k 0]) O) ?_
 rintro _ w1 ⟨b2,rfl,bP,ad,ak⟩
 refine Oy O O (R9 O (cs:=[.slice a succ.length cp]) O) ?_
 rintro _ w2 ⟨b3,rfl,dY,ae,ao⟩
 refine Oy O O (Rq (cs:=[_]) PH O) ?_
 rintro _ w3 ⟨b4,rfl,gF,aj,aH⟩
 have z1:=ad.size
 have z2:=ae.size
 have z3:=aj.size
 have lb2:=ak.lt
 have lb3:=ao.lt
 have lb4:=aH.lt
 have cg:=(ad.trans ae).trans aj
 have cI:=aj.On (ae.On ak)
 have ez:=aj.On ao
 have nA:=cg.On h.On
 replace aH:OE w3 b4 [I ((0:Nat):Int)] 3:=aH
 refine Qd O$ Qt$ qN O$ qV ((OB VU O O cI O))$ qV (PU VU O O)$ OK O$ Ox O$ qN O$ qV ((OB VU O O cI O))$ Pb O$ OL Yf O$ OL UO O$ qV (OB U3 O O nA (z5o h.len))$ TE O ?_
 refine Pu$ OK O$ T2 O$ Om$ qN O$ qV ((OB VU O O cI O))$ Pb O$ OL Yf O$ OL UO O$ qV (OB U3 O O nA (z5o h.len))$ Oy O O (Rq (cs:=[_]) PH O) ?_
 rintro _ w4 ⟨b7,rfl,kF,aC,bZ⟩
 have z4:=aC.size
 have lb7:=bZ.lt
 refine OJ O (Qw PH O O O bZ ξ) ?_
 rintro w5 ⟨lP,ai⟩
 replace lP:OE w5 b7 [I (L.length:Int)] 3:=lP
 have bF:Ext w3 w5:=aC.It ai (λi e=>by omega)
 have bL:=cg.trans bF
 have z5:=bF.size
 have z45:=ai.size
 have xB:=bL.On h.On
 have dj:=bF.On cI
 have cK:=bF.On ez
 have aI:=bF.On aH
 have dv:=Ext.OT w5
 refine Oq$ An$ Pw (λe' w'=>∃b8 least,e'=[(2,ptr b2 0),(3,ptr b3 0),(4,ptr b4 0),(7,ptr b7 0),(8,ptr b8 0),(6,I 0)]/\Ext w5 w'/\w5.heap.size<=b8/\OE w' b8 [I ((least:Nat):Int)] 3) ?bD$ λbD=>?de
 case bD =>
  rintro e' w6 ⟨b8,least0,rfl,aQ,iW,bY⟩;have z6:=aQ.size;have lb8:=bY.lt;have ir:=bL.trans aQ;have Dc:=aQ.On xB;have gK:=aQ.On dj;have j3:=aQ.On cK;have dA:=Ext.OT w6;refine Qt (P7 O (Ql O (OK O (Ox O (An (R8 (λw'=>Ext w6 w') O (qT 0 O (λ_ h=>(OB VU O O (h.On gK) O)) dA (Ow 1 O (Q8 O) dA (Ow 2 O (Pk z2z O) dA (qT 4 O (λ_ h=>(OB Ph O O (h.On j3) O)) dA (Ow 5 O (St Ph O) dA (qT 3 O (λ_ hS=>OB U3 O O (hS.On Dc) (zha h.len)) dA (Ow 6 O (Uw O O ω) dA ?_)))))))))))));refine Ow 7 O (XQ O O) dA$ TK$ Ow 8 O (Rr O) dA$ qE$ T2 O$ Om$ qN O ?_;have zg6:=dA.size;refine Oy O O (Rq (cs:=[_,_]) Qz O) ?_;rintro _ w7 ⟨b9,rfl,mS,ci,cR⟩;have lb9:=cR.lt;have eF:=dA.trans ci;have jL:=ir.trans eF;have jZ:=aQ.trans eF;have z7:=jL.size;have z67:=eF.size;have Dd:=jL.On h.On;have AS:AdM w7 k b2 b3 b7 b8 b4 b9 a succ.length cp L.length least0 0 (.slice none 0 0) 0:=⟨eF.On gK,eF.On j3,jZ.On lP,eF.On bY,jZ.On aI,cR⟩;have hd:b8≠b2/\b8≠b3/\b8≠b7/\b4≠b2/\b4≠b3/\b4≠b7/\b9≠b2/\b9≠b3/\b9≠b7/\b8≠b4/\b8≠b9/\b4≠b9:=by omega
  refine qM O$ qV (ymf (first:=[]) (caps:=[.tmp 2,.tmp 3,.tmp 7,.tmp 8,.tmp 4,.tmp 9]) O O)$ OK O$ An$ qN O ?_;have De:=AS.c2;refine qV (OB VU O O De O)$ Pb O$ OL WL O$ OL z0H O$ qV (OB U3 O O Dd O)$ OC O$ Oq$ P8.qb (e:=[(2,_),(3,_),(4,_),(6,_),(7,_),(8,_),(9,_),(10,_),(58,_),(59,_)]) ?_;refine Ou$ Rw (α:=Nat) (0) (λi=>[(2,ptr b2 0),(3,ptr b3 0),(4,ptr b4 0),(7,ptr b7 0),(8,ptr b8 0),(9,ptr b9 0),(10,.func (.func 163) #[] #[ptr b2 0,ptr b3 0,ptr b7 0,ptr b8 0,ptr b4 0,ptr b9 0]),(58,I (p.OY:Int)),(59,I (i:Int))]) (λi w'=>Ext w w'/\w7.heap.size<=w'.heap.size/\i<=p.OY/\∃least ref v c,AdM w' k b2 b3 b7 b8 b4 b9 a succ.length cp L.length least ref v c/\Found p L E R succ.length ref v c) (λi=>p.OY-i) ?hI ?hround
  case hI=>exact⟨jL,Nat.le_refl _,Nat.zero_le _,_,_,_,_,AS,.inl ⟨rfl,rfl,rfl⟩⟩
  case hround=>
   rintro i wA ⟨kV,NH,hi,least,ref,v,c,hA,hF⟩ ih
   try dsimp only
   refine qN O$ Qv O$ Oq$ An$ OH O (λh0=>?_)$ λh0=>?_
   ·refine Ot$ Qt$ P7 O$ OK O$ Oz O$ OX O$ PL O ?_;rw[show(i:Int)+1=((i+1:Nat):Int) by omega];refine Qy O O (RY zfC O O) (zcF hp (h.ext kV) (kV.On hG) (kV.On hU) hL hs kS (et.ext kV) hA hF hd (i+1) ω ω) ?_;rintro _ w9 ⟨rfl,aK,least',ref',v',c',qX,Kx⟩;have z9:=aK.size;refine Oq$ Om$ Oz O$ PL O$ OC O$ Oq ?_;exact(ih (i+1) _ ⟨kV.It aK (λi hi=>by omega),ω,ω,_,_,_,_,qX,Kx⟩ ω).qb
   ·have iP:∀b,w.heap.size<=b->¬F b:=λb hb e=>by have:=h.wr.lt e;omega
    have tF:=kV.On h.On
    have AP:ref<=p.OY/\(ref=0->Qp L L.length ref=[])/\Pq (Qp L L.length ref)/\(∃va vc,v= .slice va (Qp L L.length ref).length vc/\(Qp L L.length ref).length<=vc/\Rd wA (.slice va (Qp L L.length ref).length vc) 1 (Qp L L.length ref).length ((Qp L L.length ref).map Pn))/\ZE p L E L.length succ.length (ref,if 0<ref then c+1 else 0)/\c<=65536:=by
     rcases hF with⟨rfl,rfl,rfl⟩|⟨f1,f2,f3,f4,l,e,f5,f6,rfl,f8⟩
     ·refine⟨Nat.zero_le _,λ_=>rfl,⟨List.Pairwise.nil,λy h=>(by cases h)⟩,⟨none,0,rfl,Nat.zero_le _,Vg⟩,.inl rfl,Nat.zero_le _⟩
     ·have im:Qp L L.length ref=l:=by unfold Qp;rw[if_neg ω,f5];rfl
      obtain⟨va,vc,g1,g2,g3,g4⟩:=h.ring _ l e f5 f6 ω;rw[f4] at g1;have gv:v= .slice va l.length vc:=(Prod.mk.inj (Rh g1)).1;have hb:=of_decide_eq_true f8;have KA:=hp.2.1;rw[im];exact⟨f2,λe=>by omega,h.ok l (List.mem_of_getElem? f5),⟨va,vc,gv,g2,(g3.ext kV).rd⟩,.inr ⟨f1,f2,f3,l,e,f5,f6,by dsimp only;rw[if_pos ω],f8⟩,ω⟩
    obtain⟨cW,da,cb,⟨va,vc,rfl,bA,bG⟩,gQ,KB⟩:=AP;have HP:=nC ref cW
    generalize Df:Qp L L.length ref=lr at da cb bA bG HP hA
    have pi:=hA.c2;have vB:=hA.c3;have Dg:=hA.c7;have xC:=hA.c9;have xD:=hA.c4;have Dh:=hA.c8;have kd:=Ext.OT wA;refine OD O (An (An (R8 (λw'=>Kp F wA w') O (qT 0 O (λ_ hS=>(OB VU O O (hS.On pi (iP _ ω)) O)) (kd.kp) (Ow 1 O (Q8 O) (kd.kp) (Ow 2 O (Pk z2B O) (kd.kp) (qT 4 O (λ_ hS=>(OB U3 O O (hS.On Dg (iP _ ω)) O)) (kd.kp) (qT 5 O (λ_ hS=>(OB Ph O O (hS.On vB (iP _ ω)) O)) (kd.kp) (Ow 6 O (Pk Sd O) (kd.kp) (qT 7 O (λ_ hS=>(OB Ph O O (hS.On xC (iP _ ω)) O)) (kd.kp) (qT 8 O (λ_ hS=>(OB U3 O O (hS.On xD (iP _ ω)) O)) (kd.kp) (qT 9 O (λ_ hS=>(OB VU O O (hS.On pi (iP _ ω)) O)) (kd.kp) (Ow 10 O (Q8 O) (kd.kp) ?_)))))))))))));refine Ow 11 O (Pk WL O) (kd.kp)$ qT 3 O (λ_ hS=>OB z2r O O (hS.On tF h.nk) (ze7 h.len)) (kd.kp)$ qT 12 O (λ_ hS=>Pa (news:=UX p) U93 O Ru O (lS (hS.On tF h.nk)) O) (kd.kp)$ SH 13 O z0v O (SK p _) ?_;rintro _ w9 ⟨rfl,fu⟩;refine⟨(kd.trans fu).kp,?_⟩;have lT:=kd.trans fu;have gp:=kV.trans lT;refine SH 14 O zdj O (Zg (h.wr.ext gp) p.list hp.1 L.length hL succ lr hs cb ref cW da (gp.On hG) (gp.On hU) (et.ext gp) (bG.ext lT) kS bA HP) ?_;rintro _ wB ⟨rfl,F',B0,j4,pP⟩;refine⟨lT.kp.trans j4,?_⟩;have iu:Kp F wA wB:=lT.kp.trans j4;have Di:∀i,F' i->F i\/wA.heap.size<=i:=λi hi=>(pP i hi).imp id (λe=>by have:=lT.size;omega);have xE:=iu.On xD (iP _ ω);have Dj:=iu.On xC (iP _ ω);have xF:=iu.On pi (iP _ ω);have xG:=iu.On vB (iP _ ω);have Dk:=iu.On Dh (iP _ ω);have Dl:=iu.On tF h.nk;have QL:=iu.size;have Dn:Rd wB (.slice a succ.length cp) 1 succ.length (succ.map Pn):=(et.ext kV).kpz iu (λh0 g hg=>(Kw g h0 hg).1);refine Ow 15 O (Rr O) (lT.kp.trans j4)$ qE$ P8.qb (e:=[(2,_),(3,_),(4,_),(8,_),(9,_),(12,_)]) ?_;refine P7 O$ Ql O$ PX O$ QB O$ An$ qN O$ qV ((OB U3 O O xE O))$ Qr O$ Oq$ Pw (λe' w'=>e'=[(2,ptr b2 0),(3,ptr b3 0),(4,ptr b4 0),(8,ptr b8 0),(13,I ((if 0<ref then c+1 else 0:Nat):Int))]/\w'=wB) ?au$ λau=>?dX
    case au=>
     rintro e' wB' ⟨rfl,rfl⟩
     generalize (if 0<ref then c+1 else 0)=ch at gQ
     have pQ:=Ext.OT wB';have Do:∀i,i<wB'.heap.size->¬(Value.slice none 0 0).ownBlock=some i:=λi _ e=>by cases e
     refine An (R8 (λw'=>Kp (λi=>i=k) wB' w') O (qT 0 O (λ_ hS=>(OB VU O O (hS.On xF ω) O)) (pQ.kp) (Ow 1 O (Q8 O) (pQ.kp) (Ow 2 O (Pk Yf O) (pQ.kp) (qT 3 O (λ_ hS=>(OB Ph O O (hS.On xG ω) O)) (pQ.kp) (OR 5 O O (pQ.kp) (qO 4 (ZC (i:=4) O O O (pap Ph OS O ψ O O (Sl.nil _ _ _) (Dn.ext pQ) (z2W _) ω (by simp only[maxLen];omega)) ?_))))))));rintro v' wC ⟨vG,jw,KC,-⟩;refine⟨pQ.kp.trans (jw.OA λi e=>by cases e),?_⟩;have ke:Ext wB' wC:=pQ.trans ((Ext.refl _).It jw (λi e=>by cases e));rw[Nat.zero_add,List.nil_append] at vG;obtain⟨a',cp',rfl,-⟩:=vG.rd.shape
     have tC:succ.length<=cp':=by
      rcases vG.shape with⟨e,h0⟩|⟨g,c1,hv,fU⟩
      ·omega
      ·cases hv;exact fU
     have xH:∀g,(Value.slice a' succ.length cp').ownBlock=some g->wB'.heap.size<=g:=λg hg=>by
      rcases KC g hg with e| e
      ·cases e
      ·have:=pQ.size;omega
     have Dp:=ke.On Dl;refine SH 6 O zfF O (zb9 Dp h.len ω a' succ.length cp' ch) ?_;rintro _ wD ⟨rfl,HQ,fA⟩;refine⟨ke.kp.trans fA,?_⟩;have cJ:(R.set (L.length%17) (.slice a' succ.length cp',ch)).length=17:=by rw[List.length_set];exact h.len
     have Dq:=fA.On (ke.On xF) ω;have Dr:=fA.On (ke.On xG) ω;have Dt:=fA.On (ke.On xE) ω;have Du:=fA.On (ke.On Dk) ω;have nD:=Ext.OT wD;refine qE (An (OW [9] (λw'=>Ext wD w') (by kernel_rfl) O (qL 0 O (λ_ h=>(OB VU O O (h.On Dq) O)) nD (P5 1 O (Q8 O) nD (P5 2 O (Pk z2z O) nD (qL 4 O (λ_ h=>(OB Ph O O (h.On Dr) O)) nD (P5 5 O (St Ph O) nD (qL 3 O (λ_ h=>OB U3 O O (h.On HQ) (zha cJ)) nD (P5 6 O (Uw O O ω) nD (P5 7 O (Q8 O) nD (P5 8 O (Pk z2z O) nD (Th [9] (qO 9 ?_)))))))))))));refine Pt (i:=9) O O (Qw PH O O O (nD.On HQ) (by rw[z5P cJ];decide)) ?_;rintro wE ⟨B2,Dv⟩;refine⟨trivial,?_⟩;replace B2:OE wE k ((Xu p (R.set (L.length%17) (.slice a' succ.length cp',ch)) (L.length+1) wp ed).set 41 (I ((ed+succ.length:Nat):Int))) 273:=B2;rw[zbF cJ] at B2;have oM:Kp (λi=>i=k) wD wE:=nD.kp.trans Dv;have tG:=oM.On Dt ω;have Dw:=oM.On Du ω;have pR:=Ext.OT wE;refine qE (An (R8 (λw'=>Kp (λi=>i=b4) wE w'/\OE w' b4 [I (ref:Int)] 3) O (qT 0 O (λ_ h=>(OB U3 O O h.2 O)) (⟨pR.kp,pR.On tG⟩) (qT 1 O (λ_ hS=>(OB U3 O O (hS.1.On Dw ω) O)) (⟨pR.kp,pR.On tG⟩) (qO 2 (Pt (i:=2) O O (Qw PH O O O (pR.On tG) ξ) ?_))))));rintro wF ⟨lU,pS⟩;refine⟨⟨pR.kp.trans pS,lU⟩,?_⟩;replace lU:OE wF b4 [I (ref:Int)] 3:=lU;have tD:Kp (λi=>i=b4) wE wF:=pR.kp.trans pS;have D8:=tD.On B2 ω;refine Ow 3 O (Rr O) (⟨pR.kp.trans pS,lU⟩)$ Ow 4 O (Rr O) (⟨pR.kp.trans pS,lU⟩)$ qE$ P8.qb (e:=[(4,_),(5,_),(6,_)]) ?_;refine P6 func126 (.cell1 U3 O O ((lU).cell _) (.tmp O (.tmp O .nil))) ?_;obtain⟨q1,q2,q3⟩:=h.add (r:=ref) kV iu B0 Di hs ke vG tC xH fA oM tD ω ω D8;exact⟨_,rfl,ref,least,ch,F',_,rfl,gQ,by rw[Df];exact q1,q2,q3⟩
    case dX=>
     refine OH O (λh5=>?_)$ λh5=>?_
     ·refine Oz O$ OL z2C O$ qV (OB U3 O O Dj O)$ PL O$ OK O ?_;rw[show(c:Int)+1=((if 0<ref then c+1 else 0:Nat):Int) by rw[if_pos ω];omega];exact(au _ _ ⟨rfl,rfl⟩).qb
     ·refine Ot ?_;have jb:(if 0<ref then c+1 else 0)=0:=if_neg ω;exact(au _ _ ⟨by rw[jb],rfl⟩).qb
 case de=>
  have au:=dv;refine OW [12] (λw'=>Ext w5 w') (by kernel_rfl) O$ qL 0 O (λ_ h=>(OB U3 O O (h.On lP) O)) au$ qL 1 O (λ_ h=>(OB Ph O O (h.On cK) O)) au$ qL 2 O (λ_ h=>(OB VU O O (h.On dj) O)) au$ P5 3 O (Q8 O) au$ P5 4 O (Pk WL O) au$ qL 5 O (λ_ h=>Pa (news:=UX p) U93 O Ru O (lS (h.On xB)) O) au$ Xd (i:=6) (j:=11) (by kernel_rfl) ?_ ?_
  ·refine RM (i:=6) O O O (yc z0v O) (SK p _) ?_;rintro _ w6 ⟨rfl,aQ⟩;refine⟨au.trans aQ,?_⟩
   try have aX:=aQ.On aX
   have au:=au.trans aQ;refine Xd (i:=7) (j:=11) (by kernel_rfl) ?_ ?_
   ·refine RM (i:=7) O O O (yc z3J O) (Vh p.list hp.1 L.length hL succ [] hs ⟨List.Pairwise.nil,λy h=>(by cases h)⟩ 0 (Nat.zero_le _) (λ_=>rfl) ((bL.trans au).On hG) ((bL.trans au).On hU) (et.ext (bL.trans au)) Vg kS (Nat.zero_le _)) ?_;rintro _ w7 ⟨rfl,ci⟩;refine⟨au.trans ci,?_⟩
    try have aX:=ci.On aX
    have au:=au.trans ci;refine PF 8 O O au (P5 9 O (Rv O O) au (PZ (i:=10) O (by kernel_rfl) O O (λ_=>Rv O O) au (R4 (i:=11) (by kernel_rfl) (Qg (i:=11) O O O (Rq (cs:=[_]) PH O) ?_))));rintro _ w11 ⟨b8,rfl,j0,aV,aX⟩;refine⟨au.trans aV,?_⟩;have nE:w5.heap.size<=b8:=by have:=au.size;omega
    have au:=au.trans aV;refine Th [12] (qO 12 (Pt (i:=12) O O (Qw PH O O O aX ξ) ?_));rintro w12 ⟨bh,bj⟩;refine⟨trivial,?_⟩;refine Ow 13 O (Rr O) trivial$ qE$ P8.qb (e:=[(2,_),(3,_),(4,_),(5,_),(6,_),(7,_),(8,_)]) ?_;exact(bD _ _ ⟨b8,_,rfl,au.It bj (λi e=>by omega),nE,bh⟩).qb
   ·refine Qg (i:=11) O O O (Rq (cs:=[_]) PH O) ?_;rintro _ w11 ⟨b8,rfl,j0,aV,aX⟩;refine⟨au.trans aV,?_⟩;have nE:w5.heap.size<=b8:=by have:=au.size;omega
    have au:=au.trans aV;refine R4 (i:=7) (by kernel_rfl) (RM (i:=7) O O O (yc z3J O) (Vh p.list hp.1 L.length hL succ [] hs ⟨List.Pairwise.nil,λy h=>(by cases h)⟩ 0 (Nat.zero_le _) (λ_=>rfl) ((bL.trans au).On hG) ((bL.trans au).On hU) (et.ext (bL.trans au)) Vg kS (Nat.zero_le _)) ?_);rintro _ w7 ⟨rfl,ci⟩;refine⟨au.trans ci,?_⟩
    try have aX:=ci.On aX
    have au:=au.trans ci;refine PF 8 O O au (P5 9 O (Rv O O) au (PZ (i:=10) O (by kernel_rfl) O O (λ_=>Rv O O) au (Th [12] (qO 12 (Pt (i:=12) O O (Qw PH O O O aX ξ) ?_)))));rintro w12 ⟨bh,bj⟩;refine⟨trivial,?_⟩;refine Ow 13 O (Rr O) trivial$ qE$ P8.qb (e:=[(2,_),(3,_),(4,_),(5,_),(6,_),(7,_),(8,_)]) ?_;exact(bD _ _ ⟨b8,_,rfl,au.It bj (λi e=>by omega),nE,bh⟩).qb
  ·refine Qg (i:=11) O O O (Rq (cs:=[_]) PH O) ?_;rintro _ w11 ⟨b8,rfl,j0,aV,aX⟩;refine⟨au.trans aV,?_⟩;have nE:w5.heap.size<=b8:=by have:=au.size;omega
   have au:=au.trans aV;refine R4 (i:=6) (by kernel_rfl)$ RM (i:=6) O O O (yc z0v O) (SK p _) ?_;rintro _ w6 ⟨rfl,aQ⟩;refine⟨au.trans aQ,?_⟩
   try have aX:=aQ.On aX
   have au:=au.trans aQ;refine R4 (i:=7) (by kernel_rfl) (RM (i:=7) O O O (yc z3J O) (Vh p.list hp.1 L.length hL succ [] hs ⟨List.Pairwise.nil,λy h=>(by cases h)⟩ 0 (Nat.zero_le _) (λ_=>rfl) ((bL.trans au).On hG) ((bL.trans au).On hU) (et.ext (bL.trans au)) Vg kS (Nat.zero_le _)) ?_);rintro _ w7 ⟨rfl,ci⟩;refine⟨au.trans ci,?_⟩
   try have aX:=ci.On aX
   have au:=au.trans ci;refine PF 8 O O au (P5 9 O (Rv O O) au (PZ (i:=10) O (by kernel_rfl) O O (λ_=>Rv O O) au (Th [12] (qO 12 (Pt (i:=12) O O (Qw PH O O O aX ξ) ?_)))));rintro w12 ⟨bh,bj⟩;refine⟨trivial,?_⟩;refine Ow 13 O (Rr O) trivial$ qE$ P8.qb (e:=[(2,_),(3,_),(4,_),(5,_),(6,_),(7,_),(8,_)]) ?_;exact(bD _ _ ⟨b8,_,rfl,au.It bj (λi e=>by omega),nE,bh⟩).qb
section
variable {w:World}{k:Nat}{p:Qc}{L:List (List Nat)}{E:List (Nat×Nat)}{bs:List Bool}{F:Nat->Prop}{R:List (Value×Nat)}{wp ed:Nat}
def z5g (h:PkM w k p L E bs F R wp ed)(hl:bs.length<=9223372036854775):P9 prog 127 [ptr k 0] w λu w'=>u=I (bs.length:Int)/\Ext w w':=by
 refine py (e:=[(0,_)]) func127 O ntmps127 O O ?_
 have hg:=Ext.OT w
 refine QB O$ Pz O$ qV (PU VU O O)$ PX O$ An$ R8 (λw'=>Ext w w') O$ OR 0 O O (hg)$ Ow 1 O (Q8 O) hg$ Ow 2 O (Pk zcq O) hg$ OR 4 O O (hg)$ Ow 5 O (Q8 O) hg$ Ow 6 O (Pk z2B O) hg$ qT 3 O (λ_ hS=>OB U3 O O (hS.On h.On) (zjt h.len)) hg$ qT 7 O (λ_ hS=>OB z2r O O (hS.On h.On) (ze7 h.len)) hg ?_
 refine SH 8 O z2f O (UY (h.wr.ext hg)) ?_
 rintro _ w1 ⟨rfl,rfl⟩
 refine⟨hg,?_⟩
 refine Ow 9 O (Uw O O ω) hg$ Ow 10 O (Rr O) hg$ qE ?_
 rw[show(0:Int)+(bs.length:Int)=(bs.length:Int) by omega]
 refine Oo func127 O ?_
 exact⟨_,rfl,rfl,hg⟩
def z5K (h:PkM w k p L E bs F R wp ed):P9 prog 128 [ptr k 0] w λu w'=>u= .tuple #[S (P4 bs),I 0]/\w'=w:=by
 refine py (e:=[(0,_)]) func128 O ntmps128 O O$ qN O$ Qd O$ Pz O$ qV (PU VU O O)$ PX O$ P7 O$ Pb O$ OL z2B O$ qV (OB z2r O O h.On (ze7 h.len))$ OQ z7d O (WE h.wr) ?_
 rintro _ w1 ⟨rfl,rfl⟩
 refine Sw O$ Qd O$ Oo func128 O ?_
 exact⟨_,rfl,rfl,rfl⟩
end
structure GrM (w:World)(v:Value)(g:List (List Nat)):Prop where
 ex:∃vs:List Value,Rd w v 1 g.length vs/\∀(i:Nat) (l:List Nat),g[i]? =some l->∃(a:Option Addr) (c:Nat),vs[i]? =some (Value.slice a l.length c)/\l.length<=c/\Rd w (.slice a l.length c) 1 l.length (l.map Pn)
def GrM.ext {w w':World}{v:Value}{g:List (List Nat)}(h:GrM w v g)(hx:Ext w w'):GrM w' v g:=by
 obtain⟨vs,h1,h2⟩:=h.ex
 refine⟨vs,h1.ext hx,λi l hl=>?_⟩
 obtain⟨a,c,g1,g2,g3⟩:=h2 i l hl
 exact⟨a,c,g1,g2,g3.ext hx⟩
structure QH (g:List (List Nat)):Prop where
 ok:∀l∈g,Pq l
 lt:∀l∈g,∀y∈l,y<g.length
 n:g.length<=60
theorem QH.len {g:List (List Nat)}(h:QH g){l:List Nat}(hl:l∈g):l.length<=g.length:=by
 have:=z2Z l 0 g.length (h.ok l hl).ris (λy hy=>⟨Nat.zero_le _,h.lt l hl y hy⟩) (Nat.zero_le _)
 omega
def PG (g:List (List Nat)):Nat:=(g.map List.length).sum
theorem Xt (g:List (List Nat))(l:List Nat):PG (g++[l])=PG g+l.length:=by simp[PG]
def z9M {g:List (List Nat)}{n:Nat}(h:∀l∈g,l.length<=n):PG g<=g.length*n:=by
 induction g with
 |nil=>simp[PG]
 | cons l g ih =>
   have h1:=ih (λm hm=>h m (List.mem_cons_of_mem _ hm));have h2:=h l List.mem_cons_self;show(l.length::g.map List.length).sum<=_;rw[List.sum_cons,List.length_cons,Nat.add_mul];have e:PG g=(g.map List.length).sum:=rfl;omega
def TG {g:List (List Nat)}(h:QH g)(i:Nat):PG (g.take i)<=3600:=by
 have h1:PG (g.take i)<=(g.take i).length*60:=z9M (λl hl=>by have:=h.len (List.mem_of_mem_take hl);have:=h.n;omega)
 have h2:(g.take i).length<=60:=by rw[List.length_take];have:=h.n;omega
 omega
def z3K {w:World}{ga:Option Addr}{gc:Nat}{g:List (List Nat)}(h:GrM w (.slice ga g.length gc) g)(hg:QH g):P9 prog 125 [.slice ga g.length gc] w λu w'=>u= .bool true/\w'=w:=by
 have hn:=hg.n
 obtain⟨vs,fw,kK⟩:=h.ex
 refine py (e:=[(0,_)]) func125 O ntmps125 O O$ qN O$ QL O$ OK O$ Pz O$ Ro WS O$ OC O$ Oq$ Ou$ Rw (α:=Nat) (0) (λi=>[(0,.slice ga g.length gc),(3,I (PG (g.take i):Int)),(8,.slice ga g.length gc),(9,I (g.length:Int)),(10,I (i:Int))]) (λi w'=>w'=w/\i<=g.length) (λi=>g.length-i) ?hI ?hround
 case hI=>exact⟨rfl,Nat.zero_le _⟩
 case hround =>
  rintro i w4 ⟨rfl,hi⟩ ih;have tH:=TG hg i
  try dsimp only
  refine qN O$ Qv O$ Oq$ An$ OH O (λh0=>?_)$ λh0=>?_
  ·have dt:i<g.length:=by omega
   obtain⟨l,hl⟩:∃l,g[i]? =some l:=⟨_,List.getElem?_eq_getElem dt⟩;have i9:=List.mem_of_getElem? hl;have fx:=hg.len i9;obtain⟨a,c,e1,e2,e3⟩:=kK i l hl
   obtain⟨gb,go,gc',e4⟩:∃b o c',Value.slice ga g.length gc= .slice (some ⟨b,o,none⟩) g.length c':=by
    rcases fw.2 with⟨c,hc,h0⟩|⟨b,off,c',hc,-⟩
    ·omega
    ·exact⟨b,off,c',hc⟩
   cases e4;refine Ot (Qt (qN O (qV (PK WS TD O O ω) (qV (Pc Ph O O (PM fw e1)) (QL O (OX O (Ro Ph O (PL O (QO O (Ro Ph O (OC O (Oq (Ou ?_)))))))))))));have B1:=Xt (g.take i) l;rw[<-PA hl] at B1;rw[show(PG (g.take i):Int)+(l.length:Int)=(PG (g.take (i+1)):Int) by omega];refine Rw (α:=Nat) (0) (λj=>[(0,.slice (some ⟨gb,go,none⟩) g.length gc),(3,I (PG (g.take (i+1)):Int)),(5,.slice a l.length c),(8,.slice (some ⟨gb,go,none⟩) g.length gc),(9,I (g.length:Int)),(10,I (i:Int)),(18,.slice a l.length c),(19,I (l.length:Int)),(20,I (j:Int))]) (λj w'=>w'=w4/\j<=l.length) (λj=>l.length-j) ?hI ?hround
   case hI=>exact⟨rfl,Nat.zero_le _⟩
   case hround=>
    rintro j w5 ⟨rfl,hj⟩ ih2
    try dsimp only
    refine qN O$ Qv O$ Oq$ An$ OH O (λh1=>?_)$ λh1=>?_
    ·have kL:j<l.length:=by omega
     obtain⟨y,hy⟩:∃y,l[j]? =some y:=⟨_,List.getElem?_eq_getElem kL⟩;have Hu:=hg.lt l i9 y (List.mem_of_getElem? hy)
     obtain⟨lb,lo,lc,e5⟩:∃b o c',Value.slice a l.length c= .slice (some ⟨b,o,none⟩) l.length c':=by
      rcases e3.2 with⟨c,hc,h0⟩|⟨b,off,c',hc,-⟩
      ·omega
      ·exact⟨b,off,c',hc⟩
     cases e5;refine Ot (Qt (P7 O (qV (PK Ph OS O O ω) (qV (Pc QA O O (PM e3 (show(l.map Pn)[j]? =some (Pn y) by rw[List.getElem?_map,hy];rfl))) ?_))));refine Si O (QO O (qV (Ps O QA U3 ω) (OC O (Ro WS O (TE O (Pu (OC O ?_)))))));rcases Nat.eq_zero_or_pos j with KD|KD
     ·refine OC O$ Qr O$ Pu$ OC O$ QI$ QI$ QI$ qS$ PC O$ PC O$ PX O$ Om$ Oz O$ PL O ?_;refine OC O$ Oq ?_;exact(ih2 (j+1) _ ⟨rfl,ω⟩ ω).qb
     ·obtain⟨z,hz⟩:∃z,l[j-1]? =some z:=⟨_,List.getElem?_eq_getElem ω⟩
      have NI:z<y:=by
       obtain⟨a1,a2⟩:=List.getElem?_eq_some_iff.1 hz;obtain⟨b1,b2⟩:=List.getElem?_eq_some_iff.1 hy;have:=List.pairwise_iff_getElem.1 (hg.ok l i9).ris (j-1) j a1 b1 ω
       rwa [a2,b2] at this
      refine OC O$ Qr O$ Rf$ OX O$ OX O$ Ra O ?_;rw[show(j:Int)-1=((j-1:Nat):Int) by omega];refine qV (PK Ph OS O O ω) (qV (Pc QA O O (PM e3 (show(l.map Pn)[j-1]? =some (Pn z) by rw[List.getElem?_map,hz];rfl))) ?_);refine zle O$ Pu$ QQ O$ PC O$ PX O$ Om$ Oz O$ PL O$ OC O$ Oq ?_;exact(ih2 (j+1) _ ⟨rfl,ω⟩ ω).qb
    ·refine OD O$ Om$ Oz O$ PL O$ OC O$ Oq ?_;exact(ih (i+1) _ ⟨rfl,ω⟩ ω).qb
  ·refine OD O$ P7 O$ Ro WS O$ zle O$ Rf$ OX O$ zle O$ Rf$ QQ O$ OK O$ Oo func125 O ?_;exact⟨_,rfl,rfl,rfl⟩
/-! ### How many bits -/
def Xa.z3b {k:Nat}{q:Cd×Nat}(h:Xa k q)(hk:1<=k/\k<=16):(q.1.enc q.2).length<=112:=by
 obtain⟨h1,h2⟩:=h.Qj hk
 obtain⟨-,q2,-⟩:=WR h1 h2
 rw[Wn]
 rcases h with⟨e,h⟩|⟨e,h⟩|⟨e,h⟩
 ·rw[e] at q2⊢;show q.2+1+_<=_;omega
 ·have:=(Vt (v:=q.2) ω).2.2;rw[e] at q2⊢;show Nat.log2 (q.2+1)+1+_<=_;omega
 ·have h3:=(Vt (v:=q.2) ω).2.2;have h4:Nat.log2 (q.2+1) / k<=Nat.log2 (q.2+1):=Nat.div_le_self _ _;rw[e] at q2⊢;show Nat.log2 (q.2+1) / k+1+_<=_;omega
def z2g {n:Nat}{L:List (Cd×Nat)}(h:∀q∈L,(q.1.enc q.2).length<=n):(OV L).length<=L.length*n:=by
 induction L with
 |nil=>simp[OV]
 | cons q L ih =>
   have h1:=ih (λq hq=>h q (List.mem_cons_of_mem _ hq));have h2:=h q List.mem_cons_self;rw[PT,List.length_append,List.length_cons,Nat.add_mul];omega
def z1N (least:Nat){l:List Nat}(h:Pq l):(PE least l).1.length<=l.length:=by
 have h1:=(Tr least l).length_eq
 rw[List.length_append] at h1
 have h4:∀(R:List (Nat×Nat)) (lo:Nat),SN least lo R->R.length<=(QC R).length:=by
  intro R
  induction R with
  |nil=>intro lo h;exact Nat.le_refl _
  | cons q R ih =>
    intro lo h;have h5:=ih _ h.2.2.2;have h6:1<=q.2:=h.2.1;rw[show QC (q::R)=(List.range q.2).map (q.1+·)++QC R from rfl,List.length_append,List.length_map,List.length_range,List.length_cons];omega
 have h5:=h4 _ 0 (UG least l 0 h.ris (λy _=>Nat.zero_le _))
 omega
def Z5 {p:RN}(hp:p.Qj){x:Nat}(hx:x<65536){succ ref:List Nat}(hs:Pq succ)(hr:Pq ref){r:Nat}(j7:r<=p.OY)(KE:succ.length<=60)(AL:ref.length<=60):(OV (Rm p x succ ref r)).length<=44800:=by
 have aw:Pq (P3 succ ref):=hs.sub List.filter_sublist
 have fx:(P3 succ ref).length<=succ.length:=List.length_filter_le _ _
 have h1:=(SY succ ref).z14
 rw[List.length_map] at h1
 have h2:=z1N p.interval aw
 have h3:=(Um p.interval (P3 succ ref)).length_le
 have aB:(Rm p x succ ref r).length<=400:=by
  unfold Rm;rw[List.length_cons];split
  ·simp
  rw[List.length_append,List.length_append];have e1:(if 0<p.OY then [(Cd.unary,r)] else []).length<=1:=by split<;>simp
  have e2:(if 0<r then(Cd.gamma,(QZ succ ref).length-1)::Q7 0 (QZ succ ref).dropLast else []).length<=62:=by
   split
   ·rw[List.length_cons,SV,List.length_dropLast];omega
   ·simp
  have e3:(if P3 succ ref=[] then [] else(if 0<p.interval then(Cd.gamma,(PE p.interval (P3 succ ref)).1.length)::Pv x p.interval none (PE p.interval (P3 succ ref)).1 else [])++Px x p.zeta none (PE p.interval (P3 succ ref)).2).length<=200:=by
   split
   ·simp
   ·rw[List.length_append,T4];split
    ·rw[List.length_cons,Sb];omega
    ·simp;omega
  omega
 have:=z2g (n:=112) (L:=Rm p x succ ref r) (λq hq=>(ZX hp hx hs hr j7 q hq).z3b ⟨hp.2.2.1,hp.2.2.2⟩)
 omega
/-! ### All bits -/
def Xq (p:Qc)(g:List (List Nat))(E:List (Nat×Nat))(i:Nat):List Bool:=
 OV (Rm p.list i ((g[i]?).getD []) (Qp g i ((E[i]?).getD (0,0)).1) ((E[i]?).getD (0,0)).1)
def Qm (p:Qc)(g:List (List Nat))(E:List (Nat×Nat))(n:Nat):List Bool:=(List.range n).flatMap (Xq p g E)
theorem T0 (p:Qc)(g:List (List Nat))(E:List (Nat×Nat))(n:Nat):Qm p g E (n+1)=Qm p g E n++Xq p g E n:=by
 unfold Qm
 rw[List.range_succ,List.flatMap_append];simp
theorem z19 (p:Qc)(g:List (List Nat))(E:List (Nat×Nat))(e:Nat×Nat):∀n,n<=E.length->Qm p g (E++[e]) n=Qm p g E n
 |0,_=>rfl
 | n + 1, h => by
   rw[T0,T0,z19 p g E e n ω]
   congr 1
   unfold Xq;rw[List.getElem?_append_left ω]
structure zd7 (p:Qc)(g:List (List Nat))(E:List (Nat×Nat)):Prop where
 ent:∀i e,E[i]? =some e->ZE p g E i ((g[i]?).getD []).length e
def ZE.mono {p:Qc}{L L':List (List Nat)}{E E':List (Nat×Nat)}{n size:Nat}{e:Nat×Nat}(h:ZE p L E n size e)(hL:∀(j:Nat) (l:List Nat),L[j]? =some l->L'[j]? =some l)(hE:∀(j:Nat) (l:Nat×Nat),E[j]? =some l->E'[j]? =some l):ZE p L' E' n size e:=by
 rcases h with h|⟨h1,h2,h3,l,e',h4,h5,h6,h7⟩
 ·exact .inl h
 ·exact .inr ⟨h1,h2,h3,l,e',hL _ _ h4,hE _ _ h5,h6,h7⟩
def Sl.typed {w:World}{v:Value}{T:TypeId}{k n g:Nat}{cs:List Value}(h:Sl w v T k n cs)(hg:v.ownBlock=some g):∃cur,w.heap[g]? =some (.cells cur T (0,0)):=by
 rcases h.2 with⟨hz,-⟩|⟨g1,cap1,cur,hv,-,bc,-⟩
 ·rw[hz] at hg;cases hg
 ·rw[hv] at hg;have e:g1=g:=Rh hg;exact⟨cur,e▸bc⟩
def PkM.kpT {w w':World}{k:Nat}{p:Qc}{L:List (List Nat)}{E:List (Nat×Nat)}{bs:List Bool}{F:Nat->Prop}{R:List (Value×Nat)}{wp ed:Nat}(h:PkM w k p L E bs F R wp ed){v:Value}{T:TypeId}{sz n:Nat}{cs:List Value}(hT:T≠42)(hv:Sl w v T sz n cs)(hk:Kp (λi=>v.ownBlock=some i) w w')(n1:v.ownBlock≠some k)(n2:∀i,F i->v.ownBlock≠some i):PkM w' k p L E bs F R wp ed:=
 ⟨hk.On h.On n1,h.len,h.wr.kp hk n2,h.nk,h.el,h.ok,λj l e h1 h2 h3=>by
  obtain⟨a,cp,g1,g2,g3,g4⟩:=h.ring j l e h1 h2 h3;refine⟨a,cp,g1,g2,g3.kp hk (λg hg e=>?_),g4⟩;obtain⟨c1,f1⟩:=g3.typed hg;obtain⟨c2,f2⟩:=hv.typed e;rw[f1] at f2
  injection f2 with f3
  injection f3 with f4 f5
  exact hT f5.symm⟩
def VZ (p:Qc)(g:List (List Nat))(E:List (Nat×Nat))(n:Nat):List Nat:=(List.range (n+1)).map λj=>(Qm p g E j).length
theorem zc0 (p:Qc)(g:List (List Nat))(E:List (Nat×Nat))(e:Nat×Nat)(n:Nat)(h:n<=E.length):VZ p g (E++[e]) n=VZ p g E n:=by
 unfold VZ
 refine List.map_congr_left λj hj=>?_
 rw[z19 p g E e j (by have:=List.mem_range.1 hj;omega)]
theorem z9B (p:Qc)(g:List (List Nat))(E:List (Nat×Nat))(n:Nat):VZ p g E (n+1)=VZ p g E n++[(Qm p g E (n+1)).length]:=by
 unfold VZ
 rw[List.range_succ,List.map_append];rfl
def z2G (p:Qc)(g:List (List Nat))(E:List (Nat×Nat))(n:Nat):(VZ p g E n).length=n+1:=by simp[VZ]
theorem getD_take {α:Type}{l:List α}{i j:Nat}(h:j<i):(l.take i)[j]? =l[j]? :=by rw[List.getElem?_take,if_pos h]
def Wr (L:List (List Nat))(n r:Nat):Qp L n r=[]\/Qp L n r∈L:=by
 unfold Qp
 split
 ·exact .inl O
 ·cases h:L[n-r]? with
  |none=>exact .inl O
  |some l=>exact .inr (List.mem_of_getElem? h)
theorem z5p {L:List (List Nat)}{n r:Nat}(h:r<=n):Qp (L.take n) n r=Qp L n r:=by
 unfold Qp
 by_cases e:r=0
 ·rw[if_pos e,if_pos e]
 ·rw[if_neg e,if_neg e,getD_take ω]
structure EnI (w:World)(p:Qc)(g:List (List Nat))(k wp:Nat)(i:Nat)(E:List (Nat×Nat))(v:Value)(w':World):Prop where
 pk:∃F R,PkM w' k p (g.take i) E (Qm p g E i) F R wp (PG (g.take i))/\(∀j,F j->w.heap.size<=j)/\∀j,F j->v.ownBlock≠some j
 ext:Ext w w'
 nk:w.heap.size<=k
 sl:Sl w' v 39 1 (VZ p g E i).length ((VZ p g E i).map ON)
 fr:∀b,v.ownBlock=some b->w.heap.size<=b
 vk:v.ownBlock≠some k
 ent:∀j e,E[j]? =some e->ZE p g E j ((g[j]?).getD []).length e
 bd:(Qm p g E i).length<=i*44800
def z83 {w:World}{p:Qc}(hp:p.Qj){g:List (List Nat)}(hg:QH g){ga:Option Addr}{gc:Nat}(jA:GrM w (.slice ga g.length gc) g)(hG:OE w 1 (S6 .gamma) 314)(hU:OE w 2 (S6 .unary) 314):
  P9 prog 91 [.slice ga g.length gc,bpV p] w λu w'=>∃E v,u= .tuple #[S (P4 (Qm p g E g.length)),v,I 0]/\E.length=g.length/\zd7 p g E/\(Qm p g E g.length).length<=2688000/\Sl w' v 39 1 (g.length+1) ((VZ p g E g.length).map ON)/\(∀b,v.ownBlock=some b->w.heap.size<=b)/\Ext w w':=by
 have hn:=hg.n
 refine py (e:=[(0,_),(1,_)]) func91 O ntmps91 O O$ qN O$ Oy O O (R9 O (cs:=UX p) O) ?_
 rintro _ w1 ⟨b3,rfl,dY,ad,ao⟩
 have z1:=ad.size
 refine Si O$ Si O$ QL O$ qV (Pa (news:=UX p) U93 O Ru O (ao.cells (n:=5) O) O)$ OQ zhJ O (z8h p hp w1) ?_
 rintro _ w2 ⟨k,wp,F,rfl,pT,hW,KF,ae,aG,oI⟩
 have z2:=ae.size
 have aL:=ad.trans ae
 refine OC O$ qV (Rv (v:=ptr k 0) O O)$ qV (Rv (v:=I 0) O O)$ Qd O$ Pz O$ Ql O$ OX O$ OQ zgf O (z3K (jA.ext aL) hg) ?_
 rintro _ w2 ⟨rfl,rfl⟩
 refine qV ((S1 O))$ PC O$ PX O$ qN O$ Oy O O (XM (cs:=[_]) (zs:=[Value.int .u64 0]) Z4 S7 O (by kernel_rfl) O O O ψ) ?_
 rintro _ w3 ⟨b28,rfl,⟨KG,aj,xI⟩,Dx⟩
 have z3:=aj.size
 have lk:=pT.lt
 have B3:PkM w3 k p (g.take 0) [] (Qm p g [] 0) F z6U wp (PG (g.take 0)):=⟨aj.On pT,List.length_replicate,hW.ext aj,KF,rfl,(λl hl=>by simp at hl),λj l e h1=>by simp at h1⟩
 refine OK O$ Pz O$ Ro WS O$ OC O$ Oq$ P8.qb (e:=[(4,_),(5,_),(6,_),(7,_),(8,_),(9,_),(29,_),(30,_),(31,_)]) ?_
 refine Ou$ Rw (α:=Nat×List (Nat×Nat)×Value) ((0,[],.slice (some ⟨b28,0,none⟩) 1 1)) (λy=>[(7,ptr k 0),(9,y.2.2),(29,.slice ga g.length gc),(30,I (g.length:Int)),(31,I (y.1:Int))]) (λy w'=>EnI w p g k wp y.1 y.2.1 y.2.2 w'/\y.1<=g.length) (λy=>g.length-y.1) ?hI ?hround
 case hI=>exact⟨⟨⟨F,z6U,B3,λj hj=>by have:=oI j hj;omega,λj hj e=>by have e1:b28=j:=Rh e;have:=hW.lt hj;omega⟩,aL.trans aj,ω,Dx,λb hb=>by have e1:b28=b:=Rh hb;omega,λe=>by have e1:b28=k:=Rh e;omega,λj e h=>by simp at h,Nat.zero_le _⟩,Nat.zero_le _⟩
 case hround =>
  rintro⟨i,E,v⟩ w4 ⟨hI,hi⟩ ih;dsimp only at hI hi;obtain⟨F,R,hP,hF,HR⟩:=hI.pk;have ti:=hI.bd;have aN:=z2G p g E i;have ru:=hP.el;rw[List.length_take,Nat.min_eq_left hi] at ru;obtain⟨va,vc,rfl,-⟩:=hI.sl.rd.shape
  try dsimp only
  refine qN O$ Qv O$ Oq$ An$ OH O (λh0=>?_)$ λh0=>?_
  ·have dt:i<g.length:=by omega
   obtain⟨l,hl⟩:∃l,g[i]? =some l:=⟨_,List.getElem?_eq_getElem dt⟩;have i9:=List.mem_of_getElem? hl;have fx:=hg.len i9;have hs:=hg.ok l i9;obtain⟨vs,Dy,kK⟩:=jA.ex;obtain⟨a,c,e1,e2,e3w⟩:=kK i l hl;have fw:=Dy.ext hI.ext;have e3:=e3w.ext hI.ext
   obtain⟨gb,go,gc',e4⟩:∃b o c',Value.slice ga g.length gc= .slice (some ⟨b,o,none⟩) g.length c':=by
    rcases fw.2 with⟨c,hc,h0⟩|⟨b,off,c',hc,-⟩
    ·omega
    ·exact⟨b,off,c',hc⟩
   cases e4;have pH:(g.take i).length=i:=by rw[List.length_take];omega
   have tH:=TG hg i;refine Ot$ Qt$ qN O$ qV (PK WS TD O O ω)$ qV (Pc Ph O O (PM fw e1)) ?_
   have nC:∀r,r<=p.OY->(Qm p g E i).length+(OV (Rm p.list (g.take i).length l (Qp (g.take i) (g.take i).length r) r)).length<=134217728:=λr hr=>by
    have h2:Pq (Qp (g.take i) (g.take i).length r)/\(Qp (g.take i) (g.take i).length r).length<=60:=by
     rcases Wr (g.take i) (g.take i).length r with e| e
     ·rw[e];exact⟨⟨List.Pairwise.nil,λy h=>(by cases h)⟩,Nat.zero_le _⟩
     ·exact⟨hg.ok _ (List.mem_of_mem_take e),by have:=hg.len (List.mem_of_mem_take e);omega⟩
    have h3:=Z5 hp.1 (x:=(g.take i).length) ω hs h2.1 (show r<=p.list.OY from hr) ω h2.2;omega
   have vt:=hI.sl;have xa:∀b,(Value.slice va (VZ p g E i).length vc).ownBlock=some b->b<w4.heap.size:=λb hb=>vt.lt hb;refine OK O (An (Qh O (OQ zi9 O (z9f hp hP (hI.ext.On hG) (hI.ext.On hU) ω hs e2 e3 ω (λb h0 hb=>by have h1:=e3w.ltz ψ h0 hb;have:=hI.nk;exact⟨λe=>by have:=hF b e;omega,ω⟩) nC) ?_)));rintro _ w5 ⟨r,least,ch,F',R',rfl,gQ,iO,ai,vH⟩;have lk4:=hP.On.lt;have z5:=ai.size;have aR:Ext w w5:=hI.ext.It ai (λj hj=>by rcases hj with e|e;exact hF j e;(have:=hI.nk;omega));have KH:(E++[(r,ch)]).length=i+1:=by rw[List.length_append,ru];rfl
   have lV:r<=i:=by
    rcases gQ with e|⟨-,-,h3,-⟩
    ·have:r=0:=(Prod.mk.inj e).1;omega
    ·rw[pH] at h3;exact h3
   have tI:(E++[(r,ch)])[i]? =some (r,ch):=by rw[List.getElem?_append_right ω,ru,Nat.sub_self];rfl
   have pU:Xq p g (E++[(r,ch)]) i=OV (Rm p.list (g.take i).length l (Qp (g.take i) (g.take i).length r) r):=by
    unfold Xq;rw[tI,hl,pH,z5p lV];rfl
   have gR:Qm p g (E++[(r,ch)]) (i+1)=Qm p g E i++OV (Rm p.list (g.take i).length l (Qp (g.take i) (g.take i).length r) r):=by
    rw[T0,z19 p g E _ i ω,pU]
   have Dz:(Qm p g (E++[(r,ch)]) (i+1)).length<=(i+1)*44800:=by
    have h2:Pq (Qp (g.take i) (g.take i).length r)/\(Qp (g.take i) (g.take i).length r).length<=60:=by
     rcases Wr (g.take i) (g.take i).length r with e| e
     ·rw[e];exact⟨⟨List.Pairwise.nil,λy h=>(by cases h)⟩,Nat.zero_le _⟩
     ·exact⟨hg.ok _ (List.mem_of_mem_take e),by have:=hg.len (List.mem_of_mem_take e);omega⟩
    have j7:r<=p.list.OY:=by
     rcases gQ with e|⟨-,h3,-⟩
     ·have:r=0:=(Prod.mk.inj e).1;omega
     ·exact h3
    have h3:=Z5 hp.1 (x:=(g.take i).length) ω hs h2.1 j7 ω h2.2;rw[gR,List.length_append];omega
   rw[<-gR,<-PA hl,<-Xt,<-PA hl] at iO;have fR:(Qm p g (E++[(r,ch)]) (i+1)).length<=9223372036854775:=by omega
   refine OC O$ Sw O$ qV (Rv (v:=I 0) O O)$ Si O$ Si O$ QO O$ Ql O$ PX O$ Oz O$ OX O$ OQ zgN O (z5g iO fR) ?_;rintro _ w6 ⟨rfl,aQ⟩;refine qV ((PO O U3 R7 ω)) (Oy O O (XM (cs:=[_]) (zs:=[Value.int .u64 0]) Z4 S7 O (by kernel_rfl) O O O ψ) ?_);rintro _ w7 ⟨b49,rfl,⟨KJ,ci,bH⟩,DA⟩;have eF:=aQ.trans ci;have z67:=eF.size;have nB:∀j,F' j->j<w5.heap.size:=λj hj=>iO.wr.lt hj;have Hx:=vt.kp ai (λb hb e=>by rcases e with e|e;exact HR b e hb;exact hI.vk (e▸hb));have B4:=Hx.ext eF
   have xJ:∀j,F' j->(Value.slice va (VZ p g E i).length vc).ownBlock≠some j:=λj hj e=>by
    rcases vH j hj with e1|e1
    ·exact HR j e1 e
    ·have:=xa j e;omega
   refine Oy O O (pap Z4 S7 O ψ O O B4 DA.rd (by intro c hc;simp at hc;subst hc;rfl) ω (by simp only[maxLen];omega)) ?_;rintro v8 w8 ⟨er,aP,kH,-⟩;have oR:=(iO.ext eF).kpT (T:=39) ψ B4 aP hI.vk xJ;have nG:∀b,v8.ownBlock=some b->(Value.slice va (VZ p g E i).length vc).ownBlock=some b\/w5.heap.size<=b:=λb hb=>(kH b hb).imp id (λe=>by omega);refine OK O$ Om$ Oz O$ PL O$ OC O$ Oq ((ih (i+1,E++[(r,ch)],v8) _ ⟨⟨⟨F',R',oR,λj hj=>?_,λj hj e=>?_⟩,(aR.trans eF).It aP (λj hj=>hI.fr j hj),hI.nk,?_,λb hb=>?_,λe=>?_,λj e hj=>?_,Dz⟩,dt⟩ (by dsimp only;omega)).qb)
   ·rcases vH j hj with e| e
    ·exact hF j e
    ·have:=hI.ext.size;omega
   ·rcases nG j e with e1|e1
    ·exact xJ j hj e1
    ·have:=nB j hj;omega
   ·rw[z9B,zc0 p g E _ i ω,List.length_append,List.map_append];exact er
   ·rcases nG b hb with e1|e1
    ·exact hI.fr b e1
    ·have:=aR.size;omega
   ·rcases nG k e with e1|e1
    ·exact hI.vk e1
    ·omega
   ·rcases Nat.lt_or_ge j i with rv|rv
    ·rw[List.getElem?_append_left ω] at hj;exact(hI.ent j e hj).mono (λ_ _ h=>h) (λj' l' h=>by rw[List.getElem?_append_left (List.getElem?_eq_some_iff.1 h).1];exact h)
    ·have Db:=(List.getElem?_eq_some_iff.1 hj).1;rw[KH] at Db;have ej:j=i:=by omega
     subst ej;rw[tI] at hj;cases hj;rw[hl];rw[pH] at gQ
     exact gQ.mono (λj' l' h=>by
      have:=(List.getElem?_eq_some_iff.1 h).1;rw[pH] at this
      rwa [getD_take this] at h) (λj' l' h=>by rw[List.getElem?_append_left (List.getElem?_eq_some_iff.1 h).1];exact h)
  ·have dq:i=g.length:=by omega
   subst dq;refine OD O$ P7 O$ OQ zhL O (z5K hP) ?_;rintro _ w5 ⟨rfl,rfl⟩;refine OC O$ Sw O$ Si O$ QL O$ OX O$ OC O$ Si O$ Qd O$ Oo func91 O ?_;have gG:=hI.sl;rw[aN] at gG;exact⟨_,rfl,E,_,rfl,ru,⟨hI.ent⟩,ω,by rw[aN];exact gG,hI.fr,hI.ext⟩
structure Fm where
 n:Nat
 u:Nat
 width:Nat
 bits:Nat
def fmC (f:Fm):List Value:=[I (f.n:Int),ON f.u,I (f.width:Int),I (f.bits:Int)]
abbrev fmV (f:Fm):Value:= .agg (fmC f).toArray
def XO (n u:Nat):Nat:=if u / n=0 then 0 else PD (u / n)-1
def Tz (n u:Nat):Fm:=⟨n,u,XO n u,(u-1) / 2^XO n u+n⟩
def Fm.high (f:Fm):Nat:=12+(f.n*f.width+7) / 8
def Fm.Uv (f:Fm):Nat:=f.high+(f.bits+7) / 8
def Fm.size (f:Fm):Nat:=f.Uv+4*((f.n+63) / 64)
def YP {n u:Nat}(hu:u<=1000000000):XO n u<=30:=by
 unfold XO
 split
 ·omega
 ·have h1:u / n<=u:=Nat.div_le_self _ _;have h2:PD (u / n)<=30:=QW ω;omega
def z0q {n u:Nat}(hn:1<=n)(hu:1<=u):(u-1) / 2^XO n u<2*n:=by
 have h2:0<2^XO n u:=Nat.two_pow_pos _
 rw[Nat.div_lt_iff_lt_mul h2]
 unfold XO
 split
 ·rename_i h
  have:u<n:=by
   rcases Nat.lt_or_ge u n with h1|h1
   ·exact h1
   ·have:=Nat.div_pos h1 ω;omega
  simp;omega
 ·rename_i h
  have h3:u / n<2^PD (u / n):=WA;have h4:PD (u / n)≠0:=λe=>by rw[e,Nat.pow_zero] at h3;exact h (Nat.lt_one_iff.1 h3)
  obtain⟨k,hk⟩:∃k,PD (u / n)=k+1:=⟨PD (u / n)-1,ω⟩;rw[hk] at h3⊢;rw[Nat.add_sub_cancel]
  have h5:u<n*2^(k+1):=by
   have:=(Nat.div_lt_iff_lt_mul (show 0<n by omega)).1 h3
   rwa [Nat.mul_comm] at this
  rw[Nat.pow_succ] at h5;have e:n*(2^k*2)=2*n*2^k:=by rw[Nat.mul_comm (2^k) 2,<-Nat.mul_assoc,Nat.mul_comm n 2]
  omega
def z7W {n u:Nat}(hn:1<=n)(hu:1<=u):(Tz n u).bits<=3*n:=by
 have:=z0q hn hu
 show(u-1) / 2^XO n u+n<=_
 omega
def XI (n u:Nat)(hn:1<=n)(jt:n<=1000)(hu:1<=u)(mt:u<=1000000000)(w:World):P9 prog 134 [I (n:Int),ON u] w λv w'=>v=fmV (Tz n u)/\Ext w w':=by
 have vI:=YP (n:=n) mt
 have ft:=z0q hn hu
 have hq:u / n<=u:=Nat.div_le_self _ _
 obtain⟨q,jd⟩:∃q,u / n=q:=⟨_,rfl⟩
 have HS:XO n u=if q=0 then 0 else PD q-1:=by rw[XO,jd]
 rw[jd] at hq
 have DB:PD q<=30:=QW ω
 refine py (e:=[(0,_),(1,_)]) func134 O ntmps134 O O$ qN O$ Oy O O (Rq (cs:=[_,_,_,_]) Tb O) ?_
 rintro _ w1 ⟨b4,rfl,gF,ad,aH⟩
 refine qM O$ OX O$ qV (Sa (cs:=[_,_,_,_]) Tb O zfS O O)$ Oy O O (Rq (cs:=[_,_,_,_]) Tb O) ?_
 rintro _ w2 ⟨b5,rfl,fR,ae,aD⟩
 have z1:=ad.size
 have z2:=ae.size
 have l4:=aH.lt
 have l5:=aD.lt
 refine OJ O (Py (news:=[I (n:Int),ON u,I 0,I 0]) Tb O O O O aD ξ) ?_
 rintro w3 ⟨iv,ar⟩
 replace iv:OE w3 b5 [I (n:Int),ON u,I 0,I 0] 236:=iv
 have eg:Ext w w3:=(ad.trans ae).It ar (λi e=>by omega)
 have dP:=ar.On (ae.On aH) ω
 have z3:=ar.size
 refine Oq$ Pz O$ QS O$ Pu$ PX O$ An$ Qh O$ qV ((PO O U3 R7 ω))$ qV (zim (m:=u) (n:=n) O O O (by show u<2^64;omega) ω) ?_
 rw[jd]
 refine QO O$ Qr O$ Oq$ Pw (λe' w'=>e'=[(0,I (n:Int)),(1,ON u),(4,ptr b4 0),(5,ptr b5 0)]/\Ext w w'/\OE w' b5 [I (n:Int),ON u,I (XO n u:Int),I 0] 236/\OE w' b4 [I 0,ON 0,I 0,I 0] 236) ?bD$ λbD=>?de
 case bD=>
  rintro e' w4 ⟨rfl,aC,gO,cy⟩;refine P7 O (qV (Wh (m:=u) (n:=1) O O O (by show u<2^64;omega) ω) ?_);refine OL T7 O$ qV (OB U3 O O gO O)$ qV (Uk (XO n u) (2^XO n u) O O (by show XO n u<=64;omega) O) ?_
  generalize xK:(u-1) / 2^XO n u=qb at ft
  refine qV (Ps O R7 U3 ω) (OC O (PL O (OL Yq O (OJ O (Qw PH O O O gO ξ) ?_))));rintro w5 ⟨tJ,ai⟩;replace tJ:OE w5 b5 [I (n:Int),ON u,I (XO n u:Int),I ((qb+n:Nat):Int)] 236:=tJ;refine qM O (qV (Pa z3o O Tb O (OE.cells (n:=4) tJ (news:=[_,_,_,_]) O) O) (OJ O (Py (news:=[I (n:Int),ON u,I (XO n u:Int),I ((qb+n:Nat):Int)]) Tb O O O O (ai.On cy ω) ξ) ?_));rintro w6 ⟨bM,aJ⟩;replace bM:OE w6 b4 [I (n:Int),ON u,I (XO n u:Int),I ((qb+n:Nat):Int)] 236:=bM;refine Oq (P6 func134 (.cell z3o O Tb O (OE.cells (n:=4) bM (news:=[_,_,_,_]) O) O .nil) (⟨_,rfl,?_,(aC.It ai (λi e=>by omega)).It aJ (λi e=>by omega)⟩));unfold fmV fmC Tz;rw[xK]
  rfl
 case de=>
  refine OH O (λh0=>?_)$ λh0=>?_
  ·refine R0 O (OQ z1J O (TZ q ω _) ?_);rintro _ w3 ⟨rfl,rfl⟩;have sP:PD q≠0:=λe=>by have:=WA (v:=q);rw[e] at this;omega
   refine Ra O ?_;rw[show(PD q:Int)-1=(XO n u:Int) by rw[HS,if_neg ω];omega];refine OL T7 O (OJ O (Qw PH O O O iv ξ) ?_);rintro w4 ⟨gO,aq⟩;replace gO:OE w4 b5 [I (n:Int),ON u,I (XO n u:Int),I 0] 236:=gO;refine Oq ?_;exact(bD _ _ ⟨rfl,eg.It aq (λi e=>by omega),gO,aq.On dP ω⟩).qb
  ·have mW:XO n u=0:=by rw[HS,if_pos ω]
   refine Ot ?_;exact(bD _ _ ⟨rfl,eg,by rw[mW];exact iv,dP⟩).qb
def Fm.small (f:Fm):Prop:=f.n<=100000/\f.width<=64/\f.bits<=1000000
def z4y (f:Fm)(hf:f.small)(w:World):P9 prog 227 [fmV f] w λv w'=>v=I (f.high:Int)/\Ext w w':=by
 obtain⟨h1,h2,h3⟩:=hf
 have hm:f.n*f.width<=100000*64:=Nat.mul_le_mul h1 h2
 refine py (e:=[(0,_)]) func227 O ntmps227 O O$ qN O$ Oy O O (R9 O (cs:=fmC f) O) ?_
 rintro _ w1 ⟨b1,rfl,bK,ad,ah⟩
 replace ah:OE w1 b1 [I (f.n:Int),ON f.u,I (f.width:Int),I (f.bits:Int)] 236:=ah
 refine QL O$ OL Yz O$ qV (OB U3 O O ah O)$ OL T7 O$ qV (OB U3 O O ah O) ?_
 have qH:((f.n*f.width:Nat):Int)=(f.n:Int)*(f.width:Int):=Int.natCast_mul _ _
 refine qV (X5 O O (by rw[<-qH];omega)) ?_
 rw[<-qH]
 refine PL O$ qV (Wq O O ω)$ PL O$ OK O$ Oo func227 O (⟨_,rfl,?_,ad⟩)
 show I (12+(((f.n*f.width:Nat):Int)+7) / 8)=I ((12+(f.n*f.width+7) / 8:Nat):Int)
 congr 1
def Fm.Wt {f:Fm}(hf:f.small):f.high<=10000000:=by
 obtain⟨h1,h2,h3⟩:=hf
 have hm:f.n*f.width<=100000*64:=Nat.mul_le_mul h1 h2
 unfold Fm.high
 omega
def z3i (f:Fm)(hf:f.small)(w:World):P9 prog 205 [fmV f] w λv w'=>v=I (f.Uv:Int)/\Ext w w':=by
 have nH:=Fm.Wt hf
 obtain⟨h1,h2,h3⟩:=id hf
 refine py (e:=[(0,_)]) func205 O ntmps205 O O$ qN O$ Oy O O (R9 O (cs:=fmC f) O) ?_
 rintro _ w1 ⟨b1,rfl,bK,ad,ah⟩
 replace ah:OE w1 b1 [I (f.n:Int),ON f.u,I (f.width:Int),I (f.bits:Int)] 236:=ah
 have hg:=Ext.OT w1
 refine OK O$ An$ R8 (λw'=>Ext w1 w') O$ qT 0 O (λ_ h=>Pa z3o O Tb O (OE.cells (n:=4) (h.On ah) (news:=[_,_,_,_]) O) O) hg$ Ow 2 O (Pk Yq O) hg$ qT 3 O (λ_ h=>OB U3 O O (h.On ah) O) hg$ Ow 4 O (Uw O O ω) hg$ Ow 5 O (Wq O O ω) hg$ SH 1 O zdM O (z4y f hf _) ?_
 rintro _ w2 ⟨rfl,ae⟩
 refine⟨hg.trans ae,?_⟩
 refine Ow 6 O (Uw O O ω) (hg.trans ae)$ Ow 7 O (Rr O) (hg.trans ae)$ qE$ Oo func205 O (⟨_,rfl,?_,(ad.trans hg).trans ae⟩)
 show I ((f.high:Int)+((f.bits:Int)+7) / 8)=I ((f.high+(f.bits+7) / 8:Nat):Int)
 congr 1
def z1V (f:Fm)(hf:f.small)(w:World):P9 prog 176 [fmV f] w λv w'=>v=I (f.size:Int)/\Ext w w':=by
 have nH:=Fm.Wt hf
 obtain⟨h1,h2,h3⟩:=id hf
 have gG:f.Uv<=20000000:=by unfold Fm.Uv;omega
 refine py (e:=[(0,_)]) func176 O ntmps176 O O$ qN O$ Oy O O (R9 O (cs:=fmC f) O) ?_
 rintro _ w1 ⟨b1,rfl,bK,ad,ah⟩
 replace ah:OE w1 b1 [I (f.n:Int),ON f.u,I (f.width:Int),I (f.bits:Int)] 236:=ah
 have hg:=Ext.OT w1
 refine OK O$ An$ R8 (λw'=>Ext w1 w') O$ qT 0 O (λ_ h=>Pa z3o O Tb O (OE.cells (n:=4) (h.On ah) (news:=[_,_,_,_]) O) O) hg$ Ow 2 O (Pk Yz O) hg$ qT 3 O (λ_ h=>OB U3 O O (h.On ah) O) hg$ Ow 4 O (Uw O O ω) hg$ Ow 5 O (X8 O O ω) hg ?_
 rw[show(f.n:Int)+64-1=((f.n+63:Nat):Int) by omega]
 refine Ow 6 O (Wq O O ω) hg$ Ow 7 O (X5 O O ω) hg$ SH 1 O zcS O (z3i f hf _) ?_
 rintro _ w2 ⟨rfl,ae⟩
 refine⟨hg.trans ae,?_⟩
 refine Ow 8 O (Uw O O ω) (hg.trans ae)$ Ow 9 O (Rr O) (hg.trans ae)$ qE$ Oo func176 O (⟨_,rfl,?_,(ad.trans hg).trans ae⟩)
 show I ((f.Uv:Int)+4*(((f.n+63:Nat):Int) / 64))=I ((f.Uv+4*((f.n+63) / 64):Nat):Int)
 congr 1
def z2T {n u:Nat}(hn:1<=n)(jt:n<=1000)(hu:1<=u)(mt:u<=1000000000):(Tz n u).small:=by
 have h1:=z7W hn hu
 have h2:=YP (n:=n) mt
 refine⟨?_,?_,ω⟩
 ·show n<=_;omega
 ·show XO n u<=_;omega
def z5f (n last:Nat)(hn:1<=n)(jt:n<=1000)(mt:last+1<=1000000000)(w:World):P9 prog 174 [I (n:Int),ON last] w λv w'=>v= .tuple #[I ((Tz n (last+1)).size:Int),I 0]/\Ext w w':=by
 refine py (e:=[(0,_),(1,_)]) func174 O ntmps174 O O$ qN O$ Qd O$ Qt$ P7 O$ Qv O$ OX O$ Qr O$ Pu$ PC O$ OX O$ Qr O$ Pu$ PC O ?_
 refine OX O$ QS O$ Pu$ OC O$ QI$ PC O$ PC O$ OK O$ Ox O$ P7 O$ QS O$ Pu$ OK O$ P8.qb (e:=[(0,_),(1,_),(4,_),(5,_),(25,_)]) ?_
 refine T2 O$ Om$ Qh O$ qV (UL O O) ?_
 rw[Nat.mod_eq_of_lt (show last+1<18446744073709551616 by omega)]
 refine OQ zaq O (XI n (last+1) hn jt ω mt _) ?_
 rintro _ w1 ⟨rfl,ad⟩
 refine OQ zcQ O (z1V _ (z2T hn jt ω mt) _) ?_
 rintro _ w2 ⟨rfl,ae⟩
 refine Qd O$ Oo func174 O ?_
 exact⟨_,rfl,rfl,ad.trans ae⟩
def z8z {w:World}{a:Option Addr}{c:Nat}{l:List Nat}(hl:l.length<=1000)(hn:Nof l)(hm:∀v∈l,v<=1000000000)(hR:Rd w (.slice a l.length c) 1 l.length (l.map ON)):P9 prog 133 [.slice a l.length c] w λv w'=>v= .bool true/\w'=w:=by
 refine py (e:=[(0,_)]) func133 O ntmps133 O O$ QB O$ Pz O$ Ro Z4 O$ Qr O$ Pu$ PX O$ QB O$ Pz O$ Ro Z4 O$ OC O$ Oq$ Ou$ Rw (α:=Nat×Nat) ((0,0)) (λy=>[(3,ON y.2),(9,.slice a l.length c),(10,I (l.length:Int)),(11,I (y.1:Int))]) (λy w'=>w'=w/\y.1<=l.length/\y.2<=1000000000/\∀v,l[y.1]? =some v->y.2<=v) (λy=>l.length-y.1) ?hI ?hround
 case hI=>exact⟨rfl,Nat.zero_le _,Nat.zero_le _,λv _=>Nat.zero_le _⟩
 case hround=>
  rintro⟨i,z⟩ w4 ⟨rfl,hi,hz,B5⟩ ih;dsimp only at hi hz B5
  try dsimp only
  refine qN O$ Qv O$ Oq$ An$ OH O (λh0=>?_)$ λh0=>?_
  ·have dt:i<l.length:=by omega
   obtain⟨v,hv⟩:∃v,l[i]? =some v:=⟨_,List.getElem?_eq_getElem dt⟩;have KK:=B5 v hv;have DC:=hm v (List.mem_of_getElem? hv)
   obtain⟨gb,go,gc',e4⟩:∃b o c',Value.slice a l.length c= .slice (some ⟨b,o,none⟩) l.length c':=by
    rcases hR.2 with⟨c,hc,h0⟩|⟨b,off,c',hc,-⟩
    ·omega
    ·exact⟨b,off,c',hc⟩
   cases e4;refine Ot (Qt (qN O (qV (PK Z4 S7 O O ω) (qV (Pc R7 O O (PM hR (show(l.map ON)[i]? =some (ON v) by rw[List.getElem?_map,hv];rfl))) ?_))));refine OK O$ An$ Qh O$ Qv O$ Pu$ OX O$ Qr O$ Pu$ PC O$ PX O$ R0 O$ OK O$ Om$ Oz O ?_;refine PL O (OC O (Oq ((ih (i+1,v) _ ⟨rfl,dt,DC,λu hu=>?_⟩ (by dsimp only;omega)).qb)));obtain⟨a1,a2⟩:=List.getElem?_eq_some_iff.1 hv;obtain⟨b1,b2⟩:=List.getElem?_eq_some_iff.1 hu;have:=List.pairwise_iff_getElem.1 hn i (i+1) a1 b1 ω
   rwa [a2,b2] at this
  ·refine OD O$ QB O$ Oo func133 O ?_;exact⟨_,rfl,rfl,rfl⟩
def Sh (k:Nat)(l:List Nat):List Bool:=l.flatMap λv=>OZ k (v%2^k)
def RV (k:Nat):List Nat->List Bool
 |[]=>[]
 |v::_=>OZ 32 (v / 2^k)
theorem z82 (k:Nat)(l:List Nat)(v:Nat):Sh k (l++[v])=Sh k l++OZ k (v%2^k):=by simp[Sh]
theorem U8 (k:Nat):∀l:List Nat,(Sh k l).length=l.length*k
 |[]=>by simp[Sh]
 | v :: l => by
   show(OZ k (v%2^k)++Sh k l).length=_;rw[List.length_append,U8 k l,bitsN_length,List.length_cons,Nat.add_mul];omega
def z4k (k:Nat):∀(l:List Nat) (len i v:Nat),Nof (l++[v])->(∀x,(l++[v]).head? =some x->len<=x / 2^k+i)->
  len+(hiB k len i l).length<=v / 2^k+(i+l.length)/\hiB k len i (l++[v])=hiB k len i l++(List.replicate (v / 2^k+(i+l.length)-(len+(hiB k len i l).length)) false++[true])
 | [], len, i, v, _, hl => by
   have:=hl v O;refine⟨by simp[hiB];omega,?_⟩
   simp[hiB]
 | x :: r, len, i, v, hn, hl => by
   have hx:=hl x O;rw[List.cons_append] at hn;obtain⟨n1,n2⟩:=List.pairwise_cons.1 hn
   obtain⟨h1,h2⟩:=z4k k r (x / 2^k+i+1) (i+1) v n2 (λy hy=>by
    have gt:y∈r++[v]:=List.mem_of_mem_head? hy;have:=Nat.div_le_div_right (c:=2^k) (n1 y gt)
    omega)
   rw[List.cons_append,hiB,hiB,h2,List.length_append,List.length_replicate,List.length_cons,List.length_cons];refine⟨ω,?_⟩;rw[List.append_assoc,List.cons_append,show v / 2^k+(i+1+r.length)-(x / 2^k+i+1+(hiB k (x / 2^k+i+1) (i+1) r).length)=v / 2^k+(i+(r.length+1))-(len+(x / 2^k+i-len+((hiB k (x / 2^k+i+1) (i+1) r).length+1))) by omega]
def z52 (k:Nat)(l:List Nat)(v:Nat):RV k (l++[v])=RV k l++if l.length=0 then OZ 32 (v / 2^k) else []:=by
 cases l with
 |nil=>simp[RV]
 |cons x l=>simp[RV]
def Y0 (l:List Nat)(f:Fm):Ov:=P4 (OZ 32 f.n++OZ 64 f.u)++P4 (Sh f.width l)++P4 (hiB f.width 0 0 l)++P4 (RV f.width l)
def zaz {b:Nat}:∀{l:List Nat},(∀x∈l,x<=b)->l.sum<=l.length*b
 |[],_=>by simp
 | x :: l, h => by
   have h1:=h x List.mem_cons_self;have h2:=zaz (λy hy=>h y (List.mem_cons_of_mem x hy));rw[List.sum_cons,List.length_cons,Nat.add_mul];omega
def z8e (k:Nat)(l:List Nat):(RV k l).length<=32:=by
 cases l with
 |nil=>simp[RV]
 |cons v l=>simp[RV]
theorem z0Y (k:Nat){l:List Nat}(hn:Nof l){z:Nat}(hz:l[l.length-1]? =some z):(hiB k 0 0 l).length=z / 2^k+l.length:=by
 have:=z6L k l 0 0 hn (λx hx=>Nat.zero_le _) z (by rw[List.getLast?_eq_getElem?];exact hz)
 omega
/-! ### Three writers side by side -/
def z9R (A B:Nat->Prop):Prop:=∀k,A k->¬B k
structure EfW (w0 w:World)(b5:Nat)(f:Fm)(p1 p2 p3:Nat)(l1 l2 l3:List Bool):Prop where
 ex:∃F1 F2 F3:Nat->Prop,Yi w p1 l1 F1/\Yi w p2 l2 F2/\Yi w p3 l3 F3/\z9R F1 F2/\z9R F2 F3/\z9R F3 F1/\∀k,F1 k\/F2 k\/F3 k->w0.heap.size<=k/\k≠b5
 ext:Ext w0 w
 On:OE w b5 (fmC f) 236
section
variable {w0 w:World}{b5:Nat}{f:Fm}{p1 p2 p3:Nat}{l1 l2 l3:List Bool}
def EfW.rot (h:EfW w0 w b5 f p1 p2 p3 l1 l2 l3):EfW w0 w b5 f p2 p3 p1 l2 l3 l1:=by
 obtain⟨⟨F1,F2,F3,h1,h2,h3,h4,h5,h6,h7⟩,hx,hb⟩:=h
 exact⟨⟨F2,F3,F1,h2,h3,h1,h5,h6,h4,λk hk=>h7 k (by rcases hk with e|e|e;exact .inr (.inl e);exact .inr (.inr e);exact .inl e)⟩,hx,hb⟩
theorem EfW.on (h:EfW w0 w b5 f p1 p2 p3 l1 l2 l3){w2:World}(hx:Ext w w2):EfW w0 w2 b5 f p1 p2 p3 l1 l2 l3:=by
 obtain⟨⟨F1,F2,F3,h1,h2,h3,h4,h5,h6,h7⟩,jB,hb⟩:=h
 exact⟨⟨F1,F2,F3,h1.ext hx,h2.ext hx,h3.ext hx,h4,h5,h6,h7⟩,jB.trans hx,hx.On hb⟩
def EfW.zc3 (h:EfW w0 w b5 f p1 p2 p3 l1 l2 l3):∃F1,Yi w p1 l1 F1/\¬F1 b5/\(∀w2 l,WrR p1 F1 w w2 l->EfW w0 w2 b5 f p1 p2 p3 l l2 l3):=by
 obtain⟨⟨F1,F2,F3,h1,h2,h3,h4,h5,h6,h7⟩,jB,hb⟩:=h
 refine⟨F1,h1,λe=>(h7 b5 (.inl e)).2 O,λw2 l hr=>?_⟩
 obtain⟨F1',g1,g2,g3⟩:=hr
 have z:=jB.size
 have lb:=hb.lt
 refine⟨⟨F1',F2,F3,g1,h2.kp g2 (λi hi e=>h4 i e hi),h3.kp g2 (λi hi e=>h6 i hi e),λk hk e=>?_,h5,λk hk e=>?_,λk hk=>?_⟩,jB.It g2 (λk hk=>(h7 k (.inl hk)).1),g2.On hb (λe=>(h7 b5 (.inl e)).2 O)⟩
 ·rcases g3 k hk with e1|e1
  ·exact h4 k e1 e
  ·have:=h2.lt e;omega
 ·rcases g3 k e with e1|e1
  ·exact h6 k hk e1
  ·have:=h3.lt hk;omega
 ·rcases hk with hk|hk
  ·rcases g3 k hk with e1|e1
   ·exact h7 k (.inl e1)
   ·exact⟨ω,ω⟩
  ·exact h7 k (.inr hk)
def EfW.zcs (h:EfW w0 w b5 f p1 p2 p3 l1 l2 l3):∃F2,Yi w p2 l2 F2/\(∀w2 l,WrR p2 F2 w w2 l->EfW w0 w2 b5 f p1 p2 p3 l1 l l3):=by
 obtain⟨F2,h1,-,h2⟩:=h.rot.zc3
 exact⟨F2,h1,λw2 l hr=>(h2 w2 l hr).rot.rot⟩
def EfW.zgT (h:EfW w0 w b5 f p1 p2 p3 l1 l2 l3):∃F3,Yi w p3 l3 F3/\(∀w2 l,WrR p3 F3 w w2 l->EfW w0 w2 b5 f p1 p2 p3 l1 l2 l):=by
 obtain⟨F3,h1,-,h2⟩:=h.rot.rot.zc3
 exact⟨F3,h1,λw2 l hr=>(h2 w2 l hr).rot⟩
end
def z4z {w:World}{a:Option Addr}{c:Nat}{l:List Nat}(ce:1<=l.length)(hn:l.length<=64)(lX:Nof l)(hm:∀v∈l,v<=999999999)(hR:Rd w (.slice a l.length c) 1 l.length (l.map ON)){z:Nat}(hz:l[l.length-1]? =some z):
  P9 prog 94 [.slice a l.length c] w λv w'=>v= .tuple #[S (Y0 l (Tz l.length (z+1))),I 0]/\Ext w w':=by
 have NJ:=hm z (List.mem_of_getElem? hz)
 have HT:∀v∈l,v<=z:=λv hv=>by
  obtain⟨j,hj⟩:=List.mem_iff_getElem?.1 hv;obtain⟨a1,a2⟩:=List.getElem?_eq_some_iff.1 hj;obtain⟨b1,b2⟩:=List.getElem?_eq_some_iff.1 hz;rcases Nat.lt_or_ge j (l.length-1) with h| h
  ·have:=List.pairwise_iff_getElem.1 lX j (l.length-1) a1 b1 h
   rwa [a2,b2] at this
  ·have e:j=l.length-1:=by omega
   subst e;rw[hz] at hj;cases hj;exact Nat.le_refl _
 have vI:=YP (n:=l.length) (u:=z+1) ω
 have nI:=z0q (n:=l.length) (u:=z+1) ce ω
 rw[Nat.add_sub_cancel] at nI
 obtain⟨gb,go,gc',e4⟩:∃b o c',Value.slice a l.length c= .slice (some ⟨b,o,none⟩) l.length c':=by
  rcases hR.2 with⟨c,hc,h0⟩|⟨b,off,c',hc,-⟩
  ·omega
  ·exact⟨b,off,c',hc⟩
 cases e4
 refine py (e:=[(0,_)]) func94 O ntmps94 O O$ qN O$ Qd O$ Pz O$ OQ zfn O (z8z ω lX (λv hv=>by have:=hm v hv;omega) hR) ?_
 rintro _ w ⟨rfl,rfl⟩
 refine qV ((S1 O))$ PX O$ QB O$ Pz O$ Ro Z4 O$ Qr O$ Oq$ OH O (λh0=>?_)$ λh0=>?_
 ·refine Oz O$ OX O$ Ro Z4 O$ Ra O ?_;rw[show(l.length:Int)-1=((l.length-1:Nat):Int) by omega];refine qV (PK Z4 S7 O O ω) (qV (Pc R7 O O (PM hR (show(l.map ON)[l.length-1]? =some (ON z) by rw[List.getElem?_map,hz];rfl))) ?_);refine qV (UL O O) ?_;rw[Nat.mod_eq_of_lt (show z+1<18446744073709551616 by omega)];refine QO O (Ro Z4 O (OC O (OQ zaq O (XI l.length (z+1) ce ω ω ω _) ?_)));rintro _ w1 ⟨rfl,ad⟩
  generalize hf:Tz l.length (z+1)=f
  have KL:f.width=XO l.length (z+1):=by rw[<-hf];rfl
  have pB:f.n=l.length:=by rw[<-hf];rfl
  have B6:f.u=z+1:=by rw[<-hf];rfl
  rw[<-KL] at vI nI;refine Oy O O (Rq (cs:=[_,_,_,_]) Tb O) ?_;rintro _ w2 ⟨b5,rfl,fR,ae,aD⟩;refine OJ O (Py (news:=fmC f) Tb O O O O aD ξ) ?_;rintro w3 ⟨iv,ar⟩;replace iv:OE w3 b5 (fmC f) 236:=iv;have z1:=ad.size;have z2:=ae.size;have lb5:=iv.lt;have aU:Ext w1 w3:=ae.It ar (λi e=>by omega);have z3:=aU.size;refine qM O$ OQ z0J O (Uh w3) ?_;rintro _ w4 ⟨p1,F1,rfl,DD,aC,oI⟩;refine OQ z0J O (Uh w4) ?_;rintro _ w5 ⟨p2,F2,rfl,HU,aR,HV⟩;refine OQ z0J O (Uh w5) ?_;rintro _ w6 ⟨p3,F3,rfl,my,aQ,pN⟩;have z4:=aC.size;have z5:=aR.size
  have KM:EfW w w6 b5 f p1 p2 p3 [] [] []:=⟨⟨F1,F2,F3,(DD.ext aR).ext aQ,HU.ext aQ,my,λk h1 h2=>by have:=DD.lt h1;have:=HV k h2;omega,λk h1 h2=>by have:=HU.lt h1;have:=pN k h2;omega,λk h1 h2=>by have:=DD.lt h2;have:=pN k h1;omega,λk hk=>by
   rcases hk with h|h| h
   ·have:=oI k h;omega
   ·have:=HV k h;omega
   ·have:=pN k h;omega⟩,(((ad.trans aU).trans aC).trans aR).trans aQ,aQ.On (aR.On (aC.On iv))⟩
  refine Si O$ Qd O$ P8.qb (e:=[(0,_),(2,_),(3,_),(4,_),(5,_),(6,_),(7,_),(8,_)]) ?_;refine Pz O$ Ro Z4 O$ OC O$ Oq$ Ou$ Rw (α:=Nat) (0) (λi=>[(4,ON (z+1)),(5,ptr b5 0),(6,ptr p1 0),(7,ptr p2 0),(8,ptr p3 0),(39,.slice (some ⟨gb,go,none⟩) l.length c),(40,I (l.length:Int)),(41,I (i:Int))]) (λi w'=>EfW w w' b5 f p1 p2 p3 (Sh f.width (l.take i)) (hiB f.width 0 0 (l.take i)) (RV f.width (l.take i))/\i<=l.length) (λi=>l.length-i) ?hI ?hround
  case hI=>exact⟨KM,Nat.zero_le _⟩
  case hround =>
   rintro i w7 ⟨hE,hi⟩ ih
   try dsimp only
   refine qN O$ Qv O$ Oq$ An$ OH O (λh1=>?_)$ λh1=>?_
   ·have dt:i<l.length:=by omega
    obtain⟨v,hv⟩:∃v,l[i]? =some v:=⟨_,List.getElem?_eq_getElem dt⟩;have DC:=HT v (List.mem_of_getElem? hv);have kW:v / 2^f.width<=z / 2^f.width:=Nat.div_le_div_right DC;have pH:(l.take i).length=i:=by rw[List.length_take];omega
    obtain⟨dN,dg⟩:=z4k f.width (l.take i) 0 0 v (by rw[<-PA hv];exact lX.sublist (List.take_sublist _ _)) (λx hx=>Nat.zero_le _);rw[<-PA hv,Nat.zero_add,Nat.zero_add,pH] at dg;rw[Nat.zero_add,Nat.zero_add,pH] at dN;have NK:(l.take i).length*f.width<=64*30:=Nat.mul_le_mul ω ω;have hg:=Ext.OT w7;obtain⟨F1',DE,xL,fU⟩:=(hE.on hg).zc3;have xM:OE w7 b5 [I (f.n:Int),ON f.u,I (f.width:Int),I (f.bits:Int)] 236:=hE.On;have sO:=Nat.two_pow_pos f.width;have NL:2^f.width<=2^30:=Nat.pow_le_pow_right ψ vI;refine Ot (Qt (P7 O (qV (PK Z4 S7 O O ω) (qV (Pc R7 O O (PM (hR.ext hE.ext) (show(l.map ON)[i]? =some (ON v) by rw[List.getElem?_map,hv];rfl))) ?_))));refine Qd O (An (R8 (λw'=>Kp F1' w7 w') O (OR 0 O O (hg.kp) (OR 1 O O (hg.kp) (Ow 2 O (Pk T7 O) (hg.kp) (qT 3 O (λ_ h=>OB U3 O O (h.On xM xL) O) (hg.kp) (Ow 7 O (Pk T7 O) (hg.kp) (qT 8 O (λ_ h=>OB U3 O O (h.On xM xL) O) (hg.kp) (Ow 4 O (R6 f.width (2^f.width) O O ω O) (hg.kp) ?_)))))))));rw[show 1*2^f.width%18446744073709551616=2^f.width by rw[Nat.one_mul];exact Nat.mod_eq_of_lt ω];refine Ow 5 O (Wh (m:=2^f.width) (n:=1) O O O (by show 2^f.width<2^64;omega) ω) (hg.kp) ?_;refine Ow 6 O (Ul O O ω ω) (hg.kp) ?_;rw[Nat.and_two_pow_sub_one_eq_mod];refine SH 9 O Wb O (S5 DE (v%2^f.width) f.width ω (Nat.mod_lt _ sO) (by rw[U8];omega)) ?_;rintro _ w8 ⟨rfl,fM⟩;refine⟨hg.kp.trans fM.choose_spec.2.1,?_⟩;have rx:=fU _ _ fM;rw[<-z82,<-PA hv] at rx;have tK:OE w8 b5 [I (f.n:Int),ON f.u,I (f.width:Int),I (f.bits:Int)] 236:=rx.On;obtain⟨F2',pV,fJ⟩:=rx.zcs;refine qE (P7 O (OL T7 O (qV (OB U3 O O tK O) (qV (Uk f.width (2^f.width) O O (by show f.width<=64;omega) O) ?_))));have et:=z52 f.width (l.take i) v;rw[<-PA hv,pH] at et
    generalize v / 2^f.width=vq at dN dg kW et
    generalize z / 2^f.width=zq at kW nI
    refine qV (Ps O R7 U3 ω)$ OC O$ PL O ?_;rw[show(vq:Int)+(i:Int)=((vq+i:Nat):Int) by omega];refine OK O$ An$ Qh O$ OQ z2f O (UY pV) ?_;rintro _ w8 ⟨rfl,rfl⟩;refine Ra O ?_
    generalize DF:(hiB f.width 0 0 (l.take i)).length=HL at dN dg
    rw[show((vq+i:Nat):Int)-(HL:Int)=((vq+i-(HL+0):Nat):Int) by omega];refine OK O$ Ou$ Rw (α:=Nat) (0) (λy=>[(4,ON (z+1)),(5,ptr b5 0),(6,ptr p1 0),(7,ptr p2 0),(8,ptr p3 0),(9,I (i:Int)),(11,I ((vq+i:Nat):Int)),(12,I ((vq+i-(HL+y):Nat):Int)),(39,.slice (some ⟨gb,go,none⟩) l.length c),(40,I (l.length:Int)),(41,I (i:Int))]) (λy w'=>EfW w w' b5 f p1 p2 p3 (Sh f.width (l.take (i+1))) (hiB f.width 0 0 (l.take i)++List.replicate y false) (RV f.width (l.take i))/\HL+y<=vq+i) (λy=>vq+i-(HL+y)) ?hI ?hround
    case hI=>exact⟨by simpa using rx,dN⟩
    case hround=>
     rintro y w9 ⟨DG,hy⟩ ih2
     try dsimp only
     obtain⟨F2',pV,fJ⟩:=DG.zcs;refine Pz O$ Qr O$ Oq$ OH O (λh2=>?_)$ λh2=>?_
     ·obtain⟨m,mz,dQ,kX,HW⟩:∃m,min (vq+i-(HL+y)) 64=m/\1<=m/\m<=64/\HL+y+m<=vq+i:=⟨_,rfl,ω,ω,ω⟩;refine Ot$ Qt$ Oz O$ OX O$ qV (ymi O O) ?_;rw[show min ((vq+i-(HL+y):Nat):Int) 64=(m:Int) by omega];refine OQ Wb O (S5 pV 0 m kX (Nat.two_pow_pos _) (by rw[List.length_append,List.length_replicate,DF];omega)) ?_;rintro _ w10 ⟨rfl,nJ⟩;have kf:=fJ _ _ nJ;rw[VF,List.append_assoc,List.replicate_append_replicate] at kf;obtain⟨F2'',xN,-⟩:=kf.zcs;refine Oq$ Om$ Oz O$ OX O$ OQ z2f O (UY xN) ?_;rintro _ w10 ⟨rfl,rfl⟩;rw[show(hiB f.width 0 0 (l.take i)++List.replicate (y+m) false).length=HL+(y+m) by rw[List.length_append,List.length_replicate,DF]];refine Ra O ?_;rw[show((vq+i:Nat):Int)-((HL+(y+m):Nat):Int)=((vq+i-(HL+(y+m)):Nat):Int) by omega];refine OK O ?_;exact(ih2 (y+m) _ ⟨kf,ω⟩ ω).qb
     ·have KN:y=vq+i-HL:=by omega
      subst KN;refine OD O (P7 O (OQ Wb O (S5 pV 1 1 ψ ψ (by rw[List.length_append,List.length_replicate,DF];omega)) ?_));rintro _ w10 ⟨rfl,nJ⟩;have kf:=fJ _ _ nJ;rw[show OZ 1 1=[true] from rfl,List.append_assoc,<-dg] at kf;refine qM O$ OC O$ qV (yre O O ω)$ QS O$ Oq$ OH O (λh3=>?_)$ λh3=>?_
      ·have dh:i=0:=by omega
       obtain⟨F3',DH,pO⟩:=kf.zgT;refine Oz O (OX O (qV ((PO O U3 R7 ω)) (OQ Wb O (S5 DH (vq+i) 32 ψ (by show _<2^32;omega) (by rw[dh];show 0+32<=_;omega)) ?_)));rintro _ w11 ⟨rfl,DI⟩;have lY:=pO _ _ DI;refine Oq (Om (Oz O (PL O (OC O (Oq ((ih (i+1) _ ⟨?_,dt⟩ ω).qb))))));rw[et,if_pos dh];rw[show vq+i=vq by omega] at lY;exact lY
      ·refine Ot (Om (Oz O (PL O (OC O (Oq ((ih (i+1) _ ⟨?_,dt⟩ ω).qb))))));rw[et,if_neg ω,List.append_nil];exact kf
   ·have dq:i=l.length:=by omega
    subst dq;rw[List.take_length] at hE;refine OD O$ qN O$ OQ z0J O (Uh w7) ?_;rintro _ w8 ⟨p4,F4,rfl,lO,cz,HX⟩;have tK:OE w8 b5 [I (f.n:Int),ON f.u,I (f.width:Int),I (f.bits:Int)] 236:=(hE.on cz).On;refine QO O (OL Yz O (qV (OB U3 O O tK O) (qV ((PO O U3 R7 ω)) (OQ Wb O (S5 lO f.n 32 ψ (by show _<2^32;omega) ξ) ?_))));rintro _ w9 ⟨rfl,F5,B7,aK,vH⟩;have iw:Ext w7 w9:=cz.It aK HX;have z79:=iw.size;refine qM O (OX O (OQ Wb O (S5 B7 (z+1) 64 ψ (by show _<2^64;omega) ξ) ?_));rintro _ w10 ⟨rfl,F6,lz,aA,NM⟩
    have ry:Ext w7 w10:=iw.It aA (λk hk=>by
     rcases vH k hk with e| e
     ·exact HX k e
     ·have:=cz.size;omega)
    rw[List.nil_append,<-B6] at lz;refine qM O (OK O (An (Qh O (OX O (Oy O O (XM (cs:=[_,_,_,_]) (zs:=[Value.pointer none,Value.pointer none,Value.pointer none,Value.pointer none]) zeM z6K O (by kernel_rfl) O O O ψ) ?_)))));rintro _ w11 ⟨b100,rfl,⟨HY,aV,HZ⟩,xO⟩;have lY:=hE.on (ry.trans aV);obtain⟨tx,iQ⟩:∃tx:List Ov,tx=[P4 (OZ 32 f.n++OZ 64 f.u),P4 (Sh f.width l),P4 (hiB f.width 0 0 l),P4 (RV f.width l)]:=⟨_,rfl⟩
    have kI:∀j,(List.take j (List.map List.length tx)).sum<=4000:=λj=>by
     have h1:∀x∈List.take j (List.map List.length tx),x<=1000:=λx hx=>by
      have ae:=List.mem_of_mem_take hx;rw[iQ] at ae;have fx:(Sh f.width l).length<=64*30:=by rw[U8];exact Nat.mul_le_mul hn ω
      have nH:=z0Y f.width lX hz;have gV:=z8e f.width l;simp only[List.map_cons,List.map_nil,Po,List.length_append,bitsN_length] at ae;simp only[List.mem_cons,List.not_mem_nil,or_false] at ae
      generalize z / 2^f.width=zq at nI nH
      omega
     have h2:=zaz h1;have h3:(List.take j (List.map List.length tx)).length<=4:=by rw[List.length_take,List.length_map,iQ];simp;omega
     omega
    have gE:∀(j:Nat) (x:Ov),tx[j]? =some x->x.length<=4000:=λj x hx=>by
     have h1:=kI (j+1);rw[PA (q:=x.length) (by rw[List.getElem?_map,hx];rfl),List.sum_append] at h1;simp at h1;omega
    have hq:∀j,j<4->∃q bs F,([ptr p4 0,ptr p1 0,ptr p2 0,ptr p3 0]:List Value)[j]? =some (ptr q 0)/\tx[j]? =some (P4 bs)/\Yi w11 q bs F:=λj hj=>by
     obtain⟨F1,h1,-,-⟩:=lY.zc3;obtain⟨F2,h2,-⟩:=lY.zcs;obtain⟨F3,h3,-⟩:=lY.zgT;rw[iQ];have DJ:j=0\/j=1\/j=2\/j=3:=by omega
     rcases DJ with e|e|e|e<;>subst e
     ·exact⟨p4,_,_,rfl,rfl,lz.ext aV⟩
     ·exact⟨p1,_,_,rfl,rfl,h1⟩
     ·exact⟨p2,_,_,rfl,rfl,h2⟩
     ·exact⟨p3,_,_,rfl,rfl,h3⟩
    refine Ro zeM O$ OC O$ Oq$ P8.qb (e:=[(14,_),(100,_),(101,_),(102,_)]) ?_;refine Ou$ Rw (α:=Nat) (0) (λj=>[(14,S ((tx.take j).flatten)),(100,.slice (some ⟨b100,0,none⟩) 4 4),(101,I 4),(102,I (j:Int))]) (λj w'=>w'=w11/\j<=4) (λj=>4-j) ?hI ?hround
    case hI=>exact⟨rfl,Nat.zero_le _⟩
    case hround=>
     rintro j w12 ⟨rfl,hj⟩ ih2
     try dsimp only
     refine qN O$ Qv O$ Oq$ An$ OH O (λh2=>?_)$ λh2=>?_
     ·obtain⟨q,bs,F,g1,g2,g3⟩:=hq j ω;have NN:=kI j;have NO:=gE j _ g2;refine Ot (Qt (qN O (qV (PK zeM z6K O O ω) (qV (Pc z2r O O (PM xO.rd g1)) (QO O (OQ z7d O (WE g3) ?_))))));rintro _ w12 ⟨rfl,rfl⟩;refine OC O (zex O (qV (Rv (v:=I 0) O O) (Qd O (Pz O (Ql O (PX O (Oz O (OX O (qV (Yl O O (by first|omega|(simp;done)|(simp;omega))) ?_)))))))));refine OK O$ Om$ Oz O$ PL O$ OC O$ Oq ?_;rw[show(tx.take j).flatten++P4 bs=(tx.take (j+1)).flatten by rw[PA g2,List.flatten_append];simp];exact(ih2 (j+1) _ ⟨rfl,ω⟩ ω).qb
     ·have DJ:j=4:=by omega
      subst DJ;refine OD O$ P7 O$ Qd O$ Oo func94 O (⟨_,rfl,?_,(hE.ext.trans ry).trans aV⟩);rw[iQ];simp[PS,Y0]
 ·omega
structure PHd where
 n:Nat
 m:Nat
 p:Qc
 bits:Nat
def hdC (h:PHd):List Value:=[I (h.n:Int),I (h.m:Int),I (h.p.OY:Int),I (h.p.chain:Int),I (h.p.interval:Int),I (h.p.zeta:Int),I (h.p.most:Int),I (h.bits:Int)]
abbrev hdV (h:PHd):Value:= .agg (hdC h).toArray
structure PHd.Qj (h:PHd):Prop where
 n1:1<=h.n
 n2:h.n<=65536
 m:h.m<=1048576
 bits:h.bits<=134217728
 p:h.p.Qj
def YG (h:PHd):List (Nat×Nat):=[(h.n,32),(h.m,32),(h.p.OY,8),(h.p.chain,8),(h.p.interval,8),(h.p.zeta,8),(h.p.most,32),(h.bits,64)]
def Rg (l:List (Nat×Nat)):List Bool:=l.flatMap λq=>OZ q.2 q.1
def z6W:Ov:=[119,116,108,49]
def hdT (h:PHd):Ov:=z6W++P4 (Rg (YG h))
theorem Uq (h:PHd):(Rg (YG h)).length=192:=by
 simp[Rg,YG]
theorem Wz (h:PHd):(hdT h).length=28:=by
 unfold hdT
 rw[List.length_append,Po,Uq];rfl
def XB (h:PHd)(hh:h.Qj)(w:World):P9 prog 129 [hdV h] w λu w'=>u=I 0/\Ext w w':=by
 obtain⟨g1,g2,g3,g4,g5⟩:=hh
 refine py (e:=[(0,_)]) func129 O ntmps129 O O$ qN O$ Oy O O (R9 O (cs:=hdC h) O) ?_
 rintro _ w1 ⟨b1,rfl,bK,ad,ah⟩
 replace ah:OE w1 b1 [I (h.n:Int),I (h.m:Int),I (h.p.OY:Int),I (h.p.chain:Int),I (h.p.interval:Int),I (h.p.zeta:Int),I (h.p.most:Int),I (h.bits:Int)] 153:=ah
 refine OK O$ Qt$ An$ qN O$ OL TT O$ qV (OB U3 O O ah O)$ Qv O$ Pu$ OC O$ OL TT O$ qV (OB U3 O O ah O)$ Qr O$ Pu$ PC O ?_
 refine OK O$ Ox O$ qN O$ OL ZY O$ qV (OB U3 O O ah O)$ Qv O$ Pu$ OC O$ OL ZY O$ qV (OB U3 O O ah O)$ Qr O$ Pu$ PC O$ OK O ?_
 refine Ox O$ qN O$ OL UD O$ qV (OB U3 O O ah O)$ Qv O$ Pu$ OC O$ OL UD O$ qV (OB U3 O O ah O)$ Qr O$ Pu$ PC O$ OK O$ P8.qb (e:=[(1,_),(2,_),(3,_)]) ?_
 refine Ox O$ Oz O$ OL TT O$ qV (OB U3 O O ah O)$ QS O$ Pu$ OC O$ QI$ QI$ QI$ PC O$ OK O$ T2 O$ Om ?_
 refine qN O$ OL Yh O$ qV (Pa (news:=UX h.p) U93 O Ru O (ah.cells (i:=2) (n:=5) O) O)$ OQ zd5 O (Zl h.p g5 _) ?_
 rintro _ w2 ⟨rfl,ae⟩
 refine OK O$ Oo func129 O ?_
 exact⟨_,rfl,rfl,ad.trans ae⟩
def z8q (h:PHd)(hh:h.Qj)(w:World):P9 prog 93 [hdV h] w λu w'=>u= .tuple #[S (hdT h),I 0]/\Ext w w':=by
 obtain⟨g1,g2,g3,g4,g5⟩:=id hh
 obtain⟨q1,q2,q3⟩:=id g5
 obtain⟨r1,r2,r3,r4⟩:=id q1
 have r1':h.p.OY<=16:=r1
 have r2':h.p.interval<=64:=by
  have:h.p.interval=0\/2<=h.p.interval/\h.p.interval<=64:=r2;omega
 have r4':h.p.zeta<=16:=r4
 refine py (e:=[(0,_)]) func93 O ntmps93 O O$ qN O$ Oy O O (R9 O (cs:=hdC h) O) ?_
 rintro _ w1 ⟨b1,rfl,bK,ad,ah⟩
 replace ah:OE w1 b1 [I (h.n:Int),I (h.m:Int),I (h.p.OY:Int),I (h.p.chain:Int),I (h.p.interval:Int),I (h.p.zeta:Int),I (h.p.most:Int),I (h.bits:Int)] 153:=ah
 refine Qd O$ An$ qN O$ qV (Pa (news:=hdC h) z6v O TC O (ah.cells (n:=8) O) O)$ OQ zbp O (XB h hh _) ?_
 rintro _ w2 ⟨rfl,ae⟩
 refine QO O$ Ql O$ PX O$ qN O$ OQ z0J O (Uh w2) ?_
 rintro _ w3 ⟨wp,F,rfl,my,aj,pN⟩
 have aU:=ae.trans aj
 have cT:=aU.On ah
 refine QL O$ OL Yh O$ qV (Pa (news:=UX h.p) U93 O Ru O (cT.cells (i:=2) (n:=5) O) O)$ Oy O O (Rq (cs:=[_,_,_,_,_]) Ru O) ?_
 rintro _ w4 ⟨b6,rfl,oD,aC,aT⟩
 refine OJ O (Py (news:=UX h.p) Ru O O O O aT ξ) ?_
 rintro w5 ⟨fD,ai⟩
 replace fD:OE w5 b6 [I (h.p.OY:Int),I (h.p.chain:Int),I (h.p.interval:Int),I (h.p.zeta:Int),I (h.p.most:Int)] 93:=fD
 have bF:Ext w3 w5:=aC.It ai (λi e=>by omega)
 have dF:=bF.On cT
 refine Oq$ An$ qN O$ OL TT O$ qV ((OB U3 O O dF O))$ qV (Sa (cs:=[_,_]) V7 O Zt O O)$ OL ZY O$ qV ((OB U3 O O dF O))$ qV (Sa (cs:=[_,_]) V7 O Zt O O)$ OL z0H O$ qV ((OB U3 O O fD O))$ qV (Sa (cs:=[_,_]) V7 O Zt O O)$ OL YX O$ qV ((OB U3 O O fD O)) ?_
 refine qV (Sa (cs:=[_,_]) V7 O Zt O O)$ OL zaJ O$ qV ((OB U3 O O fD O))$ qV (Sa (cs:=[_,_]) V7 O Zt O O)$ OL za1 O$ qV ((OB U3 O O fD O))$ qV (Sa (cs:=[_,_]) V7 O Zt O O)$ OL Ts O$ qV ((OB U3 O O fD O))$ qV (Sa (cs:=[_,_]) V7 O Zt O O)$ OL UD O$ qV ((OB U3 O O dF O))$ qV (Sa (cs:=[_,_]) V7 O Zt O O)$ Oy O O (XM (cs:=[_,_,_,_,_,_,_,_,_,_,_,_,_,_,_,_]) (zs:=[Value.int .i64 0,Value.int .i64 0,Value.int .i64 0,Value.int .i64 0,Value.int .i64 0,Value.int .i64 0,Value.int .i64 0,Value.int .i64 0,Value.int .i64 0,Value.int .i64 0,Value.int .i64 0,Value.int .i64 0,Value.int .i64 0,Value.int .i64 0,Value.int .i64 0,Value.int .i64 0]) zet V7 O (by kernel_rfl) O O O ψ) ?_
 rintro _ w6 ⟨b43,rfl,⟨Ct,aQ,dP⟩,ni⟩
 have xP:=bF.trans aQ
 have lz:=my.ext xP
 have z3:=aj.size
 have hL:(YG h).length=8:=rfl
 replace ni:Sl w6 (.slice (some ⟨b43,0,none⟩) 8 8) 231 2 8 ((YG h).flatMap λq=>[I (q.1:Int),I (q.2:Int)]):=ni
 refine Ro zet O$ OC O$ Oq$ P8.qb (e:=[(2,_),(3,_),(5,_),(43,_),(44,_),(45,_)]) ?_
 refine Ou$ Rw (α:=Nat) (0) (λi=>[(5,ptr wp 0),(43,.slice (some ⟨b43,0,none⟩) 8 8),(44,I 8),(45,I (i:Int))]) (λi w'=>WrR wp F w6 w' (Rg ((YG h).take i))/\i<=8) (λi=>8-i) ?hI ?hround
 case hI=>exact⟨⟨F,lz,Kp.refl _ _,λk hk=> .inl hk⟩,Nat.zero_le _⟩
 case hround=>
  rintro i w7 ⟨⟨F7,oF,ax,oG⟩,hi⟩ ih
  try dsimp only
  refine qN O$ Qv O$ Oq$ An$ OH O (λh0=>?_)$ λh0=>?_
  ·obtain⟨⟨v,c⟩,hq⟩:∃q,(YG h)[i]? =some q:=⟨_,List.getElem?_eq_getElem (by rw[hL];omega)⟩
   have AZ:v<2^c/\c<=64/\v<=134217728:=by
    have hm:=List.mem_of_getElem? hq;simp only[YG,List.mem_cons,List.not_mem_nil,or_false,Prod.mk.injEq] at hm;rcases hm with⟨rfl,rfl⟩|⟨rfl,rfl⟩|⟨rfl,rfl⟩|⟨rfl,rfl⟩|⟨rfl,rfl⟩|⟨rfl,rfl⟩|⟨rfl,rfl⟩|⟨rfl,rfl⟩<;>refine⟨ω,ω,ω⟩
   have ft:(Rg ((YG h).take i)).length+c<=192:=by
    have e:Rg ((YG h).take (i+1))=Rg ((YG h).take i)++OZ c v:=by rw[PA hq];simp[Rg]
    have e2:=congrArg List.length e;rw[List.length_append,bitsN_length] at e2
    have e3:(Rg (YG h)).length=(Rg ((YG h).take (i+1))).length+(Rg ((YG h).drop (i+1))).length:=by
     conv=>lhs;rw[<-List.take_append_drop (i+1) (YG h)]
     unfold Rg;rw[List.flatMap_append,List.length_append]
    have e4:=Uq h;omega
   have gL:=ni.kp ax (λg hg e=>by have e1:b43=g:=Rh hg;have:=lz.lt e;have:=my.lt e;have:=bF.size;omega);have jV:=z0U (f:=λq:Nat×Nat=>[I (q.1:Int),I (q.2:Int)]) (λ_=>rfl) gL.rd hq;refine Ot (Qt (qN O (qV (PK zet V7 O O ω) (qV (Pa (news:=[I (v:Int),I (c:Int)]) zjB O V7 O jV O) (Oy O O (Rq (cs:=[_,_]) V7 O) ?_)))));rintro _ w8 ⟨b8,rfl,iW,cz,bY⟩;refine OJ O (Py (news:=[I (v:Int),I (c:Int)]) V7 O O O O bY ξ) ?_;rintro w9 ⟨je,aK⟩;replace je:OE w9 b8 [I (v:Int),I (c:Int)] 231:=je;have iw:Ext w7 w9:=cz.It aK (λi e=>by omega);refine Oq (R0 O (OL zbE O (qV (OB U3 O O je O) (qV ((PO O U3 R7 ω)) (OL zc4 O (qV (OB U3 O O je O) (OQ Wb O (S5 (oF.ext iw) v c AZ.2.1 AZ.1 ω) ?_)))))));rintro _ w10 ⟨rfl,F10,DK,aA,ck⟩;refine Oq$ Om$ Oz O$ PL O$ OC O$ Oq ((ih (i+1) _ ⟨⟨F10,?_,(ax.trans iw.kp).It aA (λk hk=>(oG k hk).symm),λk hk=>?_⟩,ω⟩ ω).qb)
   ·rw[PA hq,show Rg ((YG h).take i++[(v,c)])=Rg ((YG h).take i)++OZ c v by simp[Rg]];exact DK
   ·rcases ck k hk with e| e
    ·exact oG k e
    ·have:=ax.size;have:=iw.size;exact .inr ω
  ·have dq:i=8:=by omega
   subst dq;rw[show(YG h).take 8=YG h from rfl] at oF;refine OD O$ P7 O$ OQ z7d O (WE oF) ?_;rintro _ w8 ⟨rfl,rfl⟩;have gE:(P4 (Rg (YG h))).length=24:=by rw[Po,Uq]
   refine OC O (Sw O (Si O (QO O (qV (Yl O O (by first|omega|(simp;done)|(simp;omega))) ?_))));refine OC O (Qd O (Oo func93 O (⟨_,rfl,?_,((ad.trans aU).trans xP).It ax (λk hk=>by have:=pN k hk;have:=ae.size;have:=ad.size;omega)⟩)));simp[PS,hdT,z6W]
def z6q {w:World}{ga:Option Addr}{gc:Nat}{g:List (List Nat)}(h:GrM w (.slice ga g.length gc) g)(hg:QH g):P9 prog 92 [.slice ga g.length gc] w λu w'=>u=I (PG g:Int)/\w'=w:=by
 have hn:=hg.n
 obtain⟨vs,fw,kK⟩:=h.ex
 refine py (e:=[(0,_)]) func92 O ntmps92 O O$ qN O$ QL O$ OK O$ Pz O$ Ro WS O$ OC O$ Oq$ Ou$ Rw (α:=Nat) (0) (λi=>[(3,I (PG (g.take i):Int)),(6,.slice ga g.length gc),(7,I (g.length:Int)),(8,I (i:Int))]) (λi w'=>w'=w/\i<=g.length) (λi=>g.length-i) ?hI ?hround
 case hI=>exact⟨rfl,Nat.zero_le _⟩
 case hround=>
  rintro i w4 ⟨rfl,hi⟩ ih;have tH:=TG hg i
  try dsimp only
  refine qN O$ Qv O$ Oq$ An$ OH O (λh0=>?_)$ λh0=>?_
  ·obtain⟨l,hl⟩:∃l,g[i]? =some l:=⟨_,List.getElem?_eq_getElem ω⟩;have fx:=hg.len (List.mem_of_getElem? hl);obtain⟨a,c,e1,e2,e3⟩:=kK i l hl
   obtain⟨gb,go,gc',e4⟩:∃b o c',Value.slice ga g.length gc= .slice (some ⟨b,o,none⟩) g.length c':=by
    rcases fw.2 with⟨c,hc,h0⟩|⟨b,off,c',hc,-⟩
    ·omega
    ·exact⟨b,off,c',hc⟩
   cases e4;have B1:=Xt (g.take i) l;rw[<-PA hl] at B1;refine Ot (Qt (qN O (qV (PK WS TD O O ω) (qV (Pc Ph O O (PM fw e1)) (OK O (Oz O (OX O (Ro Ph O (PL O (OK O (Om (Oz O (PL O ?_)))))))))))));refine OC O$ Oq ?_;rw[show(PG (g.take i):Int)+(l.length:Int)=(PG (g.take (i+1)):Int) by omega];exact(ih (i+1) _ ⟨rfl,ω⟩ ω).qb
  ·have dq:i=g.length:=by omega
   subst dq;rw[List.take_length];refine OD O$ P7 O$ OK O$ Oo func92 O ?_;exact⟨_,rfl,rfl,rfl⟩
end Go.Proofs.YtbihggbffaigjaaGreatDoor
