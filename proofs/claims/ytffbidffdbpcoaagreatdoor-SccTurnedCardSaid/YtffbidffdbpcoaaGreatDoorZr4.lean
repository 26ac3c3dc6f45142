/- Merged by program. -/
import Derived.Test.YtffbidffdbpcoaaGreatDoorZr3
set_option linter.all false
set_option maxRecDepth 1000000
set_option maxHeartbeats 16000000
namespace Go.Proofs.YtffbidffdbpcoaaGreatDoor
open Go Go.RowKit Go.Proofs.Tryz
def YR {w:World}(p:S6)(hp:p.Qx)(x:Nat)(hx:x<65536){sa ra:Option Addr}{sc rc:Nat}(succ ref:List Nat)(hs:PG succ)(hr:PG ref)(r:Nat)(jn:r<=p.Pm)(mc:r=0->ref=[])
  (hG:OU w 1 (Sq .gamma) 294) (hU:OU w 2 (Sq .unary) 294) (eB:Rd w (.slice sa succ.length sc) 1 succ.length (succ.map PD)) (nS:Rd w (.slice ra ref.length rc) 1 ref.length (ref.map PD)) (fV:succ.length<=sc) (nT:ref.length<=rc):
  Ps prog 183 [lpV p,I (x:Int),.slice sa succ.length sc,.slice ra ref.length rc,I (r:Int)] w λu w'=>Sl w' u 296 3 (Ru p x succ ref r).length ((Ru p x succ ref r).flatMap z66)/\(∀g,u.ownBlock=some g->w.heap.size<=g)/\Ext w w':=by
 obtain⟨g1,g2,g3,g4⟩:=id hp
 have fL:=hs.len
 have ia:=hr.len
 refine py (e:=[(0,_),(1,_),(2,_),(3,_),(4,_)]) func183 O ntmps183 O O$ qN O$ OP O O (R6 O (cs:=lpC p) O) ?_
 rintro _ w1 ⟨b5,rfl,gG,ad,aK⟩
 have z1:=ad.size
 have l5:=aK.lt
 refine QW O$ qV (Pv (news:=[.int .u8 1,P7 0]) Sr O QJ O ((ad.OH hG).cells (n:=2) O) O)$ OT O$ RO Pz O$ qV ((Qg O U3 Rw ω))$ qV (Sh (cs:=[_,_,_]) VA O zdy O O)$ OP O O (Yx (cs:=[_,_,_]) (zs:=[Value.int .u8 0,Value.int .u64 0,Value.int .u64 0]) z0I VA O (by kernel_rfl) O O O ψ) ?_
 rintro _ w2 ⟨b2,rfl,⟨bN,ae,ak⟩,dc⟩
 have z2:=ae.size
 have l2:=ak.lt
 refine OP O O (Rz (cs:=[_]) zbs O) ?_
 rintro _ w3 ⟨n11,rfl,ji,ah,bc⟩
 have z3:=ah.size
 refine OY O (QP zbs O O O bc ξ) ?_
 rintro w4 ⟨lF,ar⟩
 have z4:=ar.size
 replace lF:OU w4 n11 [.slice (some ⟨b2,0,none⟩) 1 1] 291:=lF
 have eA:=(dc.ext ah).kp ar (λg hg e=>by have h1:b2=g:=RB hg;omega)
 have vZ:NuI w w1 p b5 n11 [(.gamma,succ.length)] w4:=⟨⟨fpW n11 (.slice (some ⟨b2,0,none⟩) 1 1),⟨_,⟨lF,eA,λe=>by have h1:b2=n11:=RB e;omega⟩,λ_=>Iff.rfl⟩,λk hk=>by
   rcases hk with e| e
   ·omega
   ·have h1:b2=k:=RB e
    omega⟩,((ad.trans ae).trans ah).It ar (λk e=>by omega),ar.OH (ah.OH (ae.OH aK)) ω,ω⟩
 refine OJ$ PR O$ RO Pz O$ Rk O$ OJ$ OX O (λe0=>?_)$ λe0=>?_
 ·have fg:succ=[]:=List.eq_nil_of_length_eq_zero ω;subst fg;refine qN O$ qV (OS z0I O O lF O)$ P3 O$ OI func183 O ?_;have iy:Ru p x [] ref r=[(.gamma,0)]:=by simp[Ru]
  rw[iy];exact⟨_,rfl,eA,λg hg=>by have h1:b2=g:=RB hg;omega,vZ.ext⟩
 ·have gV := vZ.b5; replace gV : OU w4 b5 [I (p.Pm : Int), I (p.interval : Int), I (p.zeta : Int)] 260 := gV; refine OK (qN O (qV (ZR (first := []) (caps := [.tmp 11]) O O) (P3 O (An (qN O (P4 Tj O (qV (OS U3 O O gV O) (QD O (OJ (PI (λe' w' => e' = [(1, I (x : Int)), (2, .slice sa succ.length sc), (3, .slice ra ref.length rc), (4, I (r : Int)), (5, ptr b5 0), (11, ptr n11 0), (12, .func (.func 204) #[] #[ptr n11 0])] /\ NuI w w1 p b5 n11 ([(.gamma, succ.length)] ++ (if 0 < p.Pm then [(.unary, r)] else [])) w') ?bH (λbH => ?da)))))))))))
  case bH =>
   rintro e' w5 ⟨rfl,tS⟩;have CU:=tS.siz;refine qN O$ OP O O (Yx (cs:=[_]) (zs:=[Value.int .i64 0]) Rr Qe O (by kernel_rfl) O O O ψ) ?_;rintro _ w6 ⟨b43,rfl,⟨CW,aR,dY⟩,nU⟩;have l6:=dY.lt;refine OP O O (Rz (cs:=[_]) z6M O) ?_;rintro _ w7 ⟨rn,rfl,Kl,cm,xC⟩;have l7:=xC.lt;have z7:=cm.size;refine OP O O (Rz (cs:=[_]) U7 O) ?_;rintro _ w8 ⟨lf,rfl,Km,cR,xD⟩;have l8:=xD.lt;have z8:=cR.size;refine OY O (QP z6M O O O (cR.OH xC) ξ) ?_;rintro w9 ⟨nV,aw⟩;have z9:=aw.size;replace nV:OU w9 rn [.slice (some ⟨b43,0,none⟩) 1 1] 37:=nV;refine OY O (QP U7 O O O (aw.OH xD ω) ξ) ?_;rintro w10 ⟨kC,aA⟩;have z10:=aA.size;replace kC:OU w10 lf [.slice none 0 0] 62:=kC;have gl:Ext w5 w10:=(((aR.trans cm).trans cR).It aw (λk e=>by omega)).It aA (λk e=>by omega)
   have qi:NuI w w1 p b5 n11 ([(.gamma,succ.length)]++(if 0<p.Pm then [(.unary,r)] else [])) w10:=by
    obtain⟨⟨F,h1,h2⟩,h3,h4,h5⟩:=tS;exact⟨⟨F,h1.ext gl,h2⟩,h3.trans gl,gl.OH h4,by have:=gl.size;omega⟩
   have bT:=(((nU.ext cm).ext cR).kp aw (λg hg e=>by have h1:b43=g:=RB hg;omega)).kp aA (λg hg e=>by have h1:b43=g:=RB hg;omega);have Kn:z2M w10 lf [] (fpW lf (.slice none 0 0)):=⟨_,⟨kC,Sl.nil _ _ _,λe=>by cases e⟩,λ_=>Iff.rfl⟩;have Ko:z1R w10 rn [0] (fpW rn (.slice (some ⟨b43,0,none⟩) 1 1)):=⟨_,⟨aA.OH nV ω,bT,λe=>by have h1:b43=rn:=RB e;omega⟩,λ_=>Iff.rfl⟩
   have iz:∀k,fpW lf (.slice none 0 0) k->k=lf:=λk hk=>by
    rcases hk with e| e
    ·exact e
    ·cases e
   have jO:∀k,fpW rn (.slice (some ⟨b43,0,none⟩) 1 1) k->k=rn\/k=b43:=λk hk=>by
    rcases hk with e| e
    ·exact .inl e
    ·exact .inr (RB e).symm
   have cB:∀k,fpW lf (.slice none 0 0) k\/fpW rn (.slice (some ⟨b43,0,none⟩) 1 1) k->w5.heap.size<=k:=λk hk=>by
    rcases hk with e| e
    ·have:=iz k e;omega
    ·rcases jO k e with e|e<;>omega
   have hE:U0 w10 succ ref lf rn (fpW lf (.slice none 0 0)) (fpW rn (.slice (some ⟨b43,0,none⟩) 1 1)) succ sa sc ref ra rc [] [0] w10:=by
    refine⟨⟨_,_,[],Kn,Ko,TA.zero,by simpa using ia,by simp;omega,λk h=> .inl h,λk h=> .inl h,λk h1 h2=>?_⟩,λw2 k=>?_,λw2 k=>?_,fV,nT,Kp.refl _ _,hs,hr,rfl,rfl,by simpa using fL⟩
    ·have e1:=iz k h1;rcases jO k h2 with e2|e2<;>omega
    ·exact(eB.ext qi.ext).kpz k (λh0 g hg hS=>by have e1:=eB.ltz ψ h0 hg;have e2:=cB g hS;omega)
    ·exact(nS.ext qi.ext).kpz k (λh0 g hg hS=>by have e1:=nS.ltz ψ h0 hg;have e2:=cB g hS;omega)
   refine qM O$ Pl O$ qV (ZR (first:=[]) (caps:=[.tmp 14,.tmp 13]) O O)$ Pb zgi O (zaO hE) ?_;rintro _ w11 ⟨rfl,FL,FR,xE,qj,CX,CY,nF,bu⟩
   have qk:NuI w w1 p b5 n11 ([(.gamma,succ.length)]++(if 0<p.Pm then [(.unary,r)] else [])) w11:=by
    have aT:Kp (λk=>fpW lf (.slice none 0 0) k\/fpW rn (.slice (some ⟨b43,0,none⟩) 1 1) k) w10 w11:=bu;have CZ:=tS.ex;obtain⟨⟨F,h1,h2⟩,h3,h4,h5⟩:=qi;obtain⟨F5,h6,h7⟩:=CZ;have gG:b5<w5.heap.size:=tS.b5.lt;refine⟨⟨F5,(h6.ext gl).kp aT (λk hk hS=>by have e1:=h6.lt hk;have e2:=cB k hS;omega),h7⟩,h3.It aT (λk hk=>by have e2:=cB k hk;have:=tS.ext.size;omega),aT.OH h4 (λhS=>by have e2:=cB b5 hS;omega),by have:=aT.size;omega⟩
   generalize hA:([(Cd.gamma,succ.length)]++(if 0<p.Pm then [(Cd.unary,r)] else []):List (Cd×Nat))=A at qk qi tS
   have Kq:A.length<=2:=by rw[<-hA];split<;>simp
   have xF:∀k,(FL k\/FR k)->k<w11.heap.size:=λk hk=>by
    rcases hk with e| e
    ·exact xE.lt e
    ·exact qj.lt e
   have ql:NuX w w1 w11 p b5 n11 (λk=>FL k\/FR k) A w11:=by
    obtain⟨F5,h6,h7⟩:=tS.ex;have NJ:=gl.size;refine⟨⟨F5,(h6.ext gl).kp bu (λk hk hS=>by have e1:=h6.lt hk;have e2:=cB k hS;omega),h7,λk hk hX=>?_⟩,qk.ext,qk.b5,qk.siz,Kp.refl _ _⟩;have e1:=h6.lt hk;rcases hX with e| e
    ·rcases CX k e with e2|e2
     ·have:=cB k (.inl e2);omega
     ·omega
    ·rcases CY k e with e2|e2
     ·have:=cB k (.inr e2);omega
     ·omega
   refine OJ$ PR O$ QD O$ OJ$ PI (λe' w'=>e'=[(1,I (x:Int)),(5,ptr b5 0),(11,ptr n11 0),(12,.func (.func 204) #[] #[ptr n11 0]),(14,ptr lf 0)]/\NuX w w1 w11 p b5 n11 (λk=>FL k\/FR k) (A++(if 0<r then(.gamma,(Rb succ ref).length-1)::Qo 0 (Rb succ ref).dropLast else [])) w') ?aY$ λaY=>?fW
   case aY =>
    rintro e' w12 ⟨rfl,jo⟩;have j7:succ≠[]:=λe=>e0 (by rw[e];rfl)
    generalize hB:(if 0<r then(Cd.gamma,(Rb succ ref).length-1)::Qo 0 (Rb succ ref).dropLast else []:List (Cd×Nat))=B at jo
    have xG:=xE.kp jo.kx (λk hk e=>e (.inl hk));obtain⟨vl,Bi,NK⟩:=xG;obtain⟨la,lc,rfl,-⟩:=Bi.sl.rd.shape;obtain⟨F,⟨vn,rV,xH⟩,qm,D2⟩:=id jo.ex;have Ii:=Bi.OH;have D3:=rV.OH;refine An$ qN O$ qV ((OS Pz O O Ii O))$ RO Pz O$ Rk O$ OJ$ OX O (λe3=>?_)$ λe3=>?_
    ·have j4:Pq succ ref=[]:=List.eq_nil_of_length_eq_zero ω
     have nW:Ru p x succ ref r=A++B:=by
      unfold Ru;rw[if_neg j7,if_pos j4,List.append_nil,<-hA,<-hB];rfl
     refine qN O$ qV ((OS z0I O O D3 O))$ P3 O$ OI func183 O ?_;rw[nW];exact⟨_,rfl,rV.sl,λg hg=>by have:=qm g ((xH g).2 (.inr hg));omega,jo.ext⟩
    ·have rW := jo.b5; replace rW : OU w12 b5 [I (p.Pm : Int), I (p.interval : Int), I (p.zeta : Int)] 260 := rW; refine OK (qN O (qV ((OS Pz O O Ii O)) (P4 Uf O (qV ((OS U3 O O rW O)) ?_)))); have ay : PG (Pq succ ref) := hs.sub List.filter_sublist; have Kr := ay.len
     have pE:(Pq succ ref).length<=lc:=by
      rcases Bi.sl.shape with⟨-,h0⟩|⟨g,c1,hv,ib⟩
      ·omega
      ·cases hv;exact ib
     refine Pb zic O (zaw la lc (Pq succ ref) p.interval ay pE ω w12 Bi.sl.rd) ?_;rintro _ w13 ⟨v4,v5,rfl,mg,nX,aZ,qn,tT,Ij⟩;have dM:=UE p.interval (Pq succ ref);have qo:PG (PV p.interval (Pq succ ref)).2:=ay.sub dM
     have eO:∀k,(v4.ownBlock=some k\/v5.ownBlock=some k)->w12.heap.size<=k/\k<w13.heap.size:=λk hk=>by
      rcases hk with e| e
      ·exact⟨qn k e,mg.lt e⟩
      ·exact⟨tT k e,nX.lt e⟩
     have qp:NuX w w1 w13 p b5 n11 (λk=>v4.ownBlock=some k\/v5.ownBlock=some k) (A++B) w13:=by
      have ki:∀k,F k->k<w12.heap.size:=λk hk=>by
       rcases (xH k).1 hk with e| e
       ·rw[e];exact rV.OH.lt
       ·exact rV.sl.lt e
      have xI:z5r w12 n11 (A++B) F:=⟨vn,rV,xH⟩;exact⟨⟨F,xI.ext aZ,qm,λk hk hX=>by have e1:=ki k hk;have e2:=(eO k hX).1;omega⟩,jo.ext.trans aZ,aZ.OH jo.b5,by have e1:=jo.siz;have e2:=aZ.size;omega,Kp.refl _ _⟩
     have xJ:=aZ.OH rW;have Ks:=mg.oneV;have Kt:=nX.oneV;refine OT O$ SM O$ Qr O$ An$ qN O$ P4 Uf O$ qV (OS U3 O O xJ O)$ QD O$ OJ ?_
     have Ku:(A++B).length<=200000:=by
      rw[List.length_append,<-hB];split
      ·rw[List.length_cons,Tb,List.length_dropLast];have h1:=(T9 succ ref).z18;rw[List.length_map] at h1;omega
      ·simp;omega
     generalize hQ:PV p.interval (Pq succ ref)=Q at mg nX qo dM
     have xK:Q.1.length<=65536:=by
      have h1:=TJ p.interval (Pq succ ref);have h2:=h1.length_eq;rw[hQ,List.length_append] at h2
      have h3:∀R:List (Nat×Nat),T3 p.interval 0 R->R.length<=(QT R).length:=by
       have h4:∀(R:List (Nat×Nat)) (lo:Nat),T3 p.interval lo R->R.length<=(QT R).length:=by
        intro R
        induction R with
        |nil=>intro lo h;exact Nat.le_refl _
        | cons q R ih =>
          intro lo h;have h5:=ih _ h.2.2.2;have h6:1<=q.2:=h.2.1;rw[show QT (q::R)=(List.range q.2).map (q.1+·)++QT R from rfl,List.length_append,List.length_map,List.length_range,List.length_cons];omega
       exact λR h=>h4 R 0 h
      have h5:=h3 _ (UT p.interval (Pq succ ref) 0 ay.ris (λy _=>Nat.zero_le _));rw[hQ] at h5;omega
     have qq:T3 p.interval 0 Q.1:=by have h:=UT p.interval (Pq succ ref) 0 ay.ris (λy _=>Nat.zero_le _);rwa [hQ] at h
     have tU:∀q∈Q.1,1<=q.2->q.1+q.2<=65536:=λq hq h1=>zb1 (least:=p.interval) ay.lt (by rw[hQ];exact hq) h1
     have D4:∃fa fc,v4= .slice fa Q.1.length fc:=by
      obtain⟨fa,fc,e,-⟩:=mg.rd.shape;exact⟨fa,fc,e⟩
     obtain⟨fa,fc,rfl⟩:=D4;refine PI (λe' w'=>e'=[(1,I (x:Int)),(5,ptr b5 0),(11,ptr n11 0),(12,.func (.func 204) #[] #[ptr n11 0]),(17,.slice fa Q.1.length fc),(18,v5)]/\NuX w w1 w13 p b5 n11 (λk=>(Value.slice fa Q.1.length fc).ownBlock=some k\/v5.ownBlock=some k) (A++B++if 0<p.interval then [(.gamma,Q.1.length)] else []) w') ?ao$ λao=>?en
     case ao =>
      rintro e' w14 ⟨rfl,xL⟩;refine QN O$ PR O$ RO zap O$ OT O$ OJ$ OL ?_
      generalize D5:(if 0<p.interval then [(Cd.gamma,Q.1.length)] else []:List (Cd×Nat))=C0 at xL
      refine SN (λe' w'=>e'=[(1,I (x:Int)),(5,ptr b5 0),(11,ptr n11 0),(12,.func (.func 204) #[] #[ptr n11 0]),(18,v5)]/\NuX w w1 w13 p b5 n11 (λk=>(Value.slice fa Q.1.length fc).ownBlock=some k\/v5.ownBlock=some k) (A++B++C0++PM x p.interval none Q.1) w') ?dj$ λdj=>?nR
      case dj =>
       rintro e' w15 ⟨rfl,gm⟩;obtain⟨F15,gn,mh,jp⟩:=gm.ex;have nY:=gm.b5;replace nY:OU w15 b5 [I (p.Pm:Int),I (p.interval:Int),I (p.zeta:Int)] 260:=nY;refine qN O$ P4 z0C O$ qV (OS U3 O O nY O)$ qV ((Qg O U3 Rw ω))$ qV (Sh (cs:=[_,_]) QJ O zdO O O)$ OP O O (Rz (cs:=[_,_]) QJ O) ?_;rintro _ w16 ⟨b22,rfl,Kv,bA,iA⟩;have z16:=bA.size;refine OY O (PL (news:=[.int .u8 3,P7 p.zeta]) QJ O O O O iA ξ) ?_;rintro w17 ⟨lG,cN⟩;replace lG:OU w17 b22 [.int .u8 3,P7 p.zeta] 294:=lG;have dv:Ext w15 w17:=bA.It cN (λk e=>by omega);have z17:=dv.size;have j8:¬F15 b22:=λe=>by have:=gn.lt e;omega
       have iB:=(nX.kp gm.kx (λg hg e=>e (.inr hg))).ext dv
       obtain⟨ha,hc,e5⟩:∃a c,v5= .slice a Q.2.length c:=by
        obtain⟨fa,fc,e,-⟩:=nX.rd.shape;exact⟨fa,fc,e⟩
       subst e5;have mj:=(gm.ex2 dv).again (X':=λk=>(Value.slice ha Q.2.length hc).ownBlock=some k\/k=b22) (gn.ext dv) mh (λk hk hX=>by rcases hX with hX|e;exact jp k hk (.inr hX);exact j8 (e▸hk));have l22:=lG.lt
       have pF:∀k,((Value.slice ha Q.2.length hc).ownBlock=some k\/k=b22)->k<w17.heap.size:=λk hk=>by
        rcases hk with e| e
        ·have:=iB.lt e;omega
        ·omega
       have pG:=qo.len
       have Kw:(A++B++C0++PM x p.interval none Q.1).length<=400000:=by
        rw[List.length_append,List.length_append,SA,<-D5];split<;>simp only[List.length_cons,List.length_nil]<;>omega
       refine OJ$ PR O$ RO Pz O$ OT O$ OJ$ OL$ RN (α:=Nat) (0) (λi=>[(1,I (x:Int)),(11,ptr n11 0),(12,.func (.func 204) #[] #[ptr n11 0]),(18,.slice ha Q.2.length hc),(22,ptr b22 0),(138,.slice ha Q.2.length hc),(139,I (Q.2.length:Int)),(140,I (i:Int))]) (λi w'=>NuX w w1 w17 p b5 n11 (λk=>(Value.slice ha Q.2.length hc).ownBlock=some k\/k=b22) (A++B++C0++PM x p.interval none Q.1++PN x p.zeta none (Q.2.take i)) w'/\i<=Q.2.length) (λi=>Q.2.length-i) ?hI ?hround
       case hI=>exact⟨by simpa[PN] using mj,Nat.zero_le _⟩
       case hround=>
        rintro i w18 ⟨fm,hi⟩ ih
        try dsimp only
        refine qN O$ QV O$ OJ$ An$ OX O (λe5=>?_)$ λe5=>?_
        ·have dO:i<Q.2.length:=by omega
         obtain⟨v,hv⟩:∃v,Q.2[i]? =some v:=⟨_,List.getElem?_eq_getElem dO⟩;have xM:v<65536:=qo.lt v (List.mem_of_getElem? hv);have xN:=iB.kp fm.kx (λg hg e=>e (.inl hg))
         obtain⟨g5,c5,e6⟩:∃g c,Value.slice ha Q.2.length hc= .slice (some ⟨g,0,none⟩) Q.2.length c:=by
          rcases iB.shape with⟨-,h0⟩|⟨g,c,e,hc⟩
          ·omega
          ·exact⟨g,c,e⟩
         cases e6;obtain⟨F18,lH,qr,ic⟩:=fm.ex;have xO:=fm.kx.OH lG (λe=>e (.inr O));have rX:¬F18 b22:=λe=>ic b22 e (.inr O);have hg:=Ext.Pa w18;have Bj:=fm.ex2 hg
         have qs:(A++B++C0++PM x p.interval none Q.1++PN x p.zeta none (Q.2.take i)).length<=500000:=by
          rw[List.length_append,Ti,List.length_take];omega
         refine OK$ QO$ Pt O$ qV (Qc Pz Pc O O ω)$ qV (PC QU O O (PY xN.rd (show(Q.2.map PD)[i]? =some (PD v) by rw[List.getElem?_map,hv];rfl))) ?_;refine SH O$ R3 O$ Rk O$ OJ$ OX O (λe6=>?_)$ λe6=>?_
         ·have gH:i=0:=by omega
          refine R0 (λw'=>Kp F18 w18 w') O$ P8 0 O O (hg.kp)$ P8 2 O O (hg.kp)$ OM 3 O (PQ O QU U2 ω) (hg.kp)$ P8 4 O O (hg.kp)$ OM 5 O (XG O O ω) (hg.kp)$ qT 1 O (λ_ h=>Pv (news:=[.int .u8 3,P7 p.zeta]) Sr O QJ O ((h.OH xO rX).cells (n:=2) O) O) (hg.kp)$ S1 6 O zek O (z7J ((v:Int)-x) ω _) ?_;rintro _ w19 ⟨rfl,rfl⟩;refine⟨hg.kp,?_⟩;have xP:=Zh (z:=(v:Int)-x) (n:=65537) ω ω;refine OM 7 O (PQ O Rw U3 ω) (hg.kp)$ qO 8$ W7 (i:=8) O O O (RW Yl O O) (Tn (lH.ext hg) ω (.zeta p.zeta) (zig ((v:Int)-x)) ω) ?_;rintro _ w20 ⟨rfl,F20,tV,nZ,tW⟩;refine⟨hg.kp.trans nZ,?_⟩;have qt:=Bj.put pF qr ic l5 z1 ⟨F20,tV,nZ,tW⟩;refine qE$ OG$ OQ O$ Q4 O$ OT O$ OJ ((ih (i+1) _ ⟨?_,ω⟩ ω).qb);rw[PK hv,Xq,<-List.append_assoc,show Q.2.take i=[] by rw[gH];rfl];rw[show Q.2.take i=[] by rw[gH];rfl] at qt;exact qt
         ·have gH:0<i:=by omega
          obtain⟨u,hu⟩:∃u,Q.2[i-1]? =some u:=⟨_,List.getElem?_eq_getElem ω⟩
          have D6:u<v:=by
           obtain⟨a1,a2⟩:=List.getElem?_eq_some_iff.1 hu;obtain⟨b1,b2⟩:=List.getElem?_eq_some_iff.1 hv;have:=List.pairwise_iff_getElem.1 qo.ris (i-1) i a1 b1 ω
           rwa [a2,b2] at this
          refine R0 (λw'=>Kp F18 w18 w') O$ P8 0 O O (hg.kp)$ P8 2 O O (hg.kp)$ P8 3 O O (hg.kp)$ P8 4 O O (hg.kp)$ qT 1 O (λ_ h=>Pv (news:=[.int .u8 3,P7 p.zeta]) Sr O QJ O ((h.OH xO rX).cells (n:=2) O) O) (hg.kp)$ OM 5 O (XG O O ω) (hg.kp) ?_;rw[show(i:Int)-1=((i-1:Nat):Int) by omega];refine OM 6 O (Qc Pz Pc O O ω) (hg.kp)$ qT 7 O (λ_ hS=>PC QU O O (PY (xN.kp hS (λg hg e=>ic g e (.inl hg))).rd (show(Q.2.map PD)[i-1]? =some (PD u) by rw[List.getElem?_map,hu];rfl))) (hg.kp) ?_;refine OM 8 O (Wx (m:=v) (n:=u) O O O (by show v<2^32;omega) ω) (hg.kp) ?_;refine OM 9 O (Wx (m:=v-u) (n:=1) O O O (by show v-u<2^32;omega) ω) (hg.kp) ?_;refine OM 10 O (PQ O QU U3 ω) (hg.kp)$ qO 11$ W7 (i:=11) O O O (RW Yl O O) (Tn (lH.ext hg) ω (.zeta p.zeta) (v-u-1) ω) ?_;rintro _ w20 ⟨rfl,F20,tV,nZ,tW⟩;refine⟨hg.kp.trans nZ,?_⟩;have qt:=Bj.put pF qr ic l5 z1 ⟨F20,tV,nZ,tW⟩;refine qE$ OG$ OQ O$ Q4 O$ OT O$ OJ ((ih (i+1) _ ⟨?_,ω⟩ ω).qb);rw[PK hv,Xq,<-List.append_assoc,List.getLast?_take,if_neg ω,hu];exact qt
        ·have dq:i=Q.2.length:=by omega
         rw[dq,List.take_length] at fm;obtain⟨F,⟨vn,rV,xH⟩,qm,D2⟩:=id fm.ex;have D3:=rV.OH
         have nW:Ru p x succ ref r=A++B++C0++PM x p.interval none Q.1++PN x p.zeta none Q.2:=by
          have j4:¬Pq succ ref=[]:=λe=>e3 (by rw[e];rfl);unfold Ru;rw[if_neg j7,if_neg j4,hQ,hB,<-hA,<-D5];by_cases gH:0<p.interval
          ·simp only[if_pos gH,List.append_assoc,List.cons_append,List.nil_append]
          ·have df:Q.1=[]:=by rw[<-hQ,show p.interval=0 by omega];exact XN _
           rw[df];simp only[if_neg gH,List.append_assoc,List.cons_append,List.nil_append,PM]
         refine OV O$ qN O$ qV (OS z0I O O D3 O)$ P3 O$ OI func183 O ?_;rw[nW];exact⟨_,rfl,rV.sl,λg hg=>by have:=qm g ((xH g).2 (.inr hg));omega,fm.ext⟩
      case nR=>
       refine RN (α:=Nat) (0) (λi=>[(1,I (x:Int)),(5,ptr b5 0),(11,ptr n11 0),(12,.func (.func 204) #[] #[ptr n11 0]),(18,v5),(19,I (z6I (YP (Q.1.take i)))),(94,.slice fa Q.1.length fc),(95,I (Q.1.length:Int)),(96,I (i:Int))]) (λi w'=>NuX w w1 w13 p b5 n11 (λk=>(Value.slice fa Q.1.length fc).ownBlock=some k\/v5.ownBlock=some k) (A++B++C0++PM x p.interval none (Q.1.take i)) w'/\i<=Q.1.length) (λi=>Q.1.length-i) ?hI ?hround
       case hI=>exact⟨by simpa[PM] using xL,Nat.zero_le _⟩
       case hround =>
        rintro i w15 ⟨gm,hi⟩ ih
        try dsimp only
        refine qN O$ QV O$ OJ$ An$ OX O (λe5=>?_)$ λe5=>?_
        ·have dO:i<Q.1.length:=by omega
         obtain⟨⟨q1,q2⟩,hq⟩:∃q,Q.1[i]? =some q:=⟨_,List.getElem?_eq_getElem dO⟩;obtain⟨ok1,ok2,ok3,-⟩:=Zz Q.1 0 i (q1,q2) qq hq;dsimp only at ok1 ok2 ok3;have NL:q1+q2<=65536:=tU (q1,q2) (List.mem_of_getElem? hq) ok1;have D7:=mg.kp gm.kx (λg hg e=>e (.inl hg))
         obtain⟨g4,c4,e4⟩:∃g c,Value.slice fa Q.1.length fc= .slice (some ⟨g,0,none⟩) Q.1.length c:=by
          rcases mg.shape with⟨-,h0⟩|⟨g,c,e,hc⟩
          ·omega
          ·exact⟨g,c,e⟩
         cases e4;obtain⟨F15,gn,mh,jp⟩:=gm.ex;refine OK$ QO$ qN O$ qV (Qc zap z1h O O ω)$ qV (Pv (news:=[I (q1:Int),I (q2:Int)]) zjo O z1h O (zax D7.rd hq) O)$ OP O O (Rz (cs:=[_,_]) z1h O) ?_;rintro _ w16 ⟨b21,rfl,Kx,bA,D8⟩;have z16:=bA.size;refine OY O (PL (news:=[I (q1:Int),I (q2:Int)]) z1h O O O O D8 ξ) ?_;rintro w17 ⟨gp,cN⟩;replace gp:OU w17 b21 [I (q1:Int),I (q2:Int)] 326:=gp;have dv:Ext w15 w17:=bA.It cN (λk e=>by omega);have mj:=gm.ex2 dv;have j8:¬F15 b21:=λe=>by have:=gn.lt e;omega
         have pw:¬F15 1:=λe=>by have:=mh 1 e;have:=hG.lt;omega
         have Kw:(A++B++C0++PM x p.interval none (Q.1.take i)).length<=400000:=by
          rw[List.length_append,List.length_append,SA,List.length_take,<-D5];split<;>simp only[List.length_cons,List.length_nil]<;>omega
         refine OJ$ PR O$ QV O$ OJ ?_;have rY:=mj.again (X':=(λk=>((Value.slice (some ⟨g4,0,none⟩) Q.1.length fc).ownBlock=some k\/v5.ownBlock=some k)\/k=b21)) (gn.ext dv) mh (λk hk hX=>by rcases hX with hX|e;exact jp k hk hX;exact j8 (e▸hk));have KA:=dv.size;have l21:=gp.lt
         have pF:∀k,(((Value.slice (some ⟨g4,0,none⟩) Q.1.length fc).ownBlock=some k\/v5.ownBlock=some k)\/k=b21)->k<w17.heap.size:=λk hk=>by
          rcases hk with e| e
          ·have:=(eO k e).2;have:=gm.kx.size;omega
          ·omega
         refine PI (λe' w'=>e'=[(1,I (x:Int)),(5,ptr b5 0),(11,ptr n11 0),(12,.func (.func 204) #[] #[ptr n11 0]),(18,v5),(21,ptr b21 0),(94,.slice (some ⟨g4,0,none⟩) Q.1.length fc),(95,I (Q.1.length:Int)),(96,I (i:Int))]/\NuX w w1 w17 p b5 n11 (λk=>((Value.slice (some ⟨g4,0,none⟩) Q.1.length fc).ownBlock=some k\/v5.ownBlock=some k)\/k=b21) (A++B++C0++PM x p.interval none (Q.1.take i)++[(.gamma,UD x (YP (Q.1.take i)) q1)]) w') ?bL$ λbL=>?tX
         case bL=>
          rintro e' w18 ⟨rfl,fm⟩;obtain⟨F18,lH,qr,ic⟩:=fm.ex;have xQ:=fm.kx.OH gp (λe=>e (.inr O));have o2:=fm.b5;replace o2:OU w18 b5 [I (p.Pm:Int),I (p.interval:Int),I (p.zeta:Int)] 260:=o2;refine Pt O$ qV (Pv (news:=[.int .u8 1,P7 0]) Sr O QJ O ((fm.ext.OH hG).cells (n:=2) O) O)$ P4 z7q O$ qV ((OS U3 O O xQ O))$ P4 Uf O$ qV ((OS U3 O O o2 O))$ Rt O ?_;rw[show(q2:Int)-(p.interval:Int)=((q2-p.interval:Nat):Int) by omega];refine Qw O O (RW Yl O O) (Tn lH (by rw[List.length_append,List.length_singleton];omega) .gamma (q2-p.interval) ω) ?_;rintro _ w19 ⟨rfl,D9⟩;have xR:=fm.put pF qr ic l5 z1 D9;have rZ:=xR.kx.OH gp (λe=>e (.inr O));refine OJ$ OQ O$ P4 z35 O$ qV (OS U3 O O rZ O)$ P4 z7q O$ qV (OS U3 O O rZ O)$ Q4 O$ Rt O$ P3 O$ OG$ OQ O$ Q4 O$ OT O$ OJ ?_;rw[show(q1:Int)+q2-1=z6I (YP (Q.1.take (i+1))) by rw[PK hq,z9l];show _=((q1+q2-1:Nat):Int);omega];refine(ih (i+1) _ ⟨?_,ω⟩ ω).qb;rw[PK hq,z1T,<-List.append_assoc,show [(Cd.gamma,UD x (YP (Q.1.take i)) q1),(Cd.gamma,q2-p.interval)]=[(Cd.gamma,UD x (YP (Q.1.take i)) q1)]++[(Cd.gamma,q2-p.interval)] from rfl,<-List.append_assoc];exact mj.back xR (λk hk=> .inl hk)
         case tX=>
          have hg:=Ext.Pa w17;have Bj:=rY.ex2 hg
          cases hE:YP (Q.1.take i) with
          | none =>
            refine OX O (λe6=>?_)$ λe6=>?_
            ·refine R0 (λw'=>Kp F15 w17 w') O$ P8 0 O O (hg.kp)$ OM 2 O (Px z35 O) (hg.kp)$ qT 3 O (λ_ h=>OS U3 O O (h.OH gp j8) O) (hg.kp)$ P8 4 O O (hg.kp)$ OM 5 O (XG O O ω) (hg.kp)$ qT 1 O (λ_ hS=>Pv (news:=[.int .u8 1,P7 0]) Sr O QJ O ((hS.OH (mj.ext.OH hG) pw).cells (n:=2) O) O) (hg.kp)$ S1 6 O zek O (z7J ((q1:Int)-x) ω _) ?_;rintro _ w18 ⟨rfl,rfl⟩;refine⟨hg.kp,?_⟩;have xP:=Zh (z:=(q1:Int)-x) (n:=65537) ω ω;refine OM 7 O (PQ O Rw U3 ω) (hg.kp)$ qO 8$ W7 (i:=8) O O O (RW Yl O O) (Tn ((gn.ext dv).ext hg) ω .gamma (zig ((q1:Int)-x)) ω) ?_;rintro _ w19 ⟨rfl,F19,Da,xS,Db⟩;refine⟨hg.kp.trans xS,?_⟩;refine qE ?_;exact(bL _ _ ⟨rfl,by rw[hE];exact Bj.put pF mh (λk hk hX=>by rcases hX with hX|e;exact jp k hk hX;exact j8 (e▸hk)) l5 z1 ⟨F19,Da,xS,Db⟩⟩).qb
            ·exact absurd ψ e6
          | some z =>
            refine OX O (λe6=>?_)$ λe6=>?_
            ·exact absurd e6 (by show ¬((z:Int)<0);omega)
            ·have hz:=ok3 z hE;refine Rp O$ qV (Pv (news:=[.int .u8 1,P7 0]) Sr O QJ O ((mj.ext.OH hG).cells (n:=2) O) O) ?_;rw[show z6I (some z)=(z:Int) from rfl];refine P4 z35 O$ qV (OS U3 O O gp O)$ OT O$ Rt O$ Rt O ?_;rw[show(q1:Int)-z-2=((q1-z-2:Nat):Int) by omega];refine Qw O O (RW Yl O O) (Tn (gn.ext dv) ω .gamma (q1-z-2) ω) ?_;rintro _ w18 ⟨rfl,Dc⟩;refine OJ ?_;exact(bL _ _ ⟨rfl,by rw[hE];exact rY.put pF mh (λk hk hX=>by rcases hX with hX|e;exact jp k hk hX;exact j8 (e▸hk)) l5 z1 Dc⟩).qb
        ·have dq:i=Q.1.length:=by omega
         rw[dq,List.take_length] at gm;refine OV O ?_;exact(dj _ _ ⟨rfl,gm⟩).qb
     case en=>
      refine OX O (λe4=>?_)$ λe4=>?_
      ·have gH:0<p.interval:=by omega
       obtain⟨F13,o3,tY,o4⟩:=qp.ex;refine Rp O$ qV (Pv (news:=[.int .u8 1,P7 0]) Sr O QJ O ((qp.ext.OH hG).cells (n:=2) O) O)$ OT O$ RO zap O$ Qw O O (RW Yl O O) (Tn o3 ω .gamma Q.1.length ω) ?_;rintro _ w14 ⟨rfl,tZ⟩;refine OJ$ Pu.qb (e:=[(1,_),(5,_),(11,_),(12,_),(17,_),(18,_)]) ?_;exact(ao _ _ ⟨rfl,by rw[if_pos gH];exact qp.put (λk hk=>(eO k hk).2) tY o4 l5 z1 tZ⟩).qb
      ·have gH:¬0<p.interval:=by omega
       refine OK ?_;exact(ao _ _ ⟨rfl,by rw[if_neg gH,List.append_nil];exact qp⟩).qb
   case fW =>
    refine OX O (λe2=>?_)$ λe2=>?_
    ·have u3 : 0 < r := by omega
     have qu:=T9 succ ref;rw[if_pos u3] at aY
     generalize Rb succ ref=rs at qu qj aY
     obtain⟨l,m,rfl⟩:∃l m,rs=l++[m]:=⟨rs.dropLast,rs.getLast qu.ne,(List.dropLast_concat_getLast qu.ne).symm⟩;have u5:(l++[m]).length=l.length+1:=by simp
     have eK:l.length<=65537:=by have h1:=qu.z18;rw[List.length_map,u5] at h1;omega
     rw[List.dropLast_concat,u5,Nat.add_sub_cancel] at aY;obtain⟨vr,Bk,Ik⟩:=id qj;rw[u5] at Bk;rcases Bk.sl.shape with⟨-,h0⟩|⟨g,c1,rfl,ib⟩
     ·omega
     have Il:=Bk.OH;obtain⟨F,xI,hf,KB⟩:=ql.ex;refine Pt O$ qV (Pv (news:=[.int .u8 1,P7 0]) Sr O QJ O ((ql.ext.OH hG).cells (n:=2) O) O)$ qV (OS Rr O O Il O)$ RO Rr O$ Rt O ?_;rw[show((l.length+1:Nat):Int)-1=(l.length:Int) by omega];refine Qw O O (RW Yl O O) (Tn xI ω .gamma l.length ω) ?_;rintro _ w12 ⟨rfl,Dd⟩;have iC:=ql.put xF hf KB l5 z1 Dd;have Im:=qj.kp iC.kx (λk hk e=>e (.inr hk));have s6:=iC.kx.OH Il (λe=>e (.inr ((Ik rn).2 (.inl O))));refine qM O$ qV (OS Rr O O s6 O) ?_;rw[show((l.length+1:Nat):Int)=((l.length+1:Nat):Int) from rfl];refine qV (OS Rr O O s6 O)$ RO Rr O$ Rt O ?_;rw[show((l.length+1:Nat):Int)-1=(l.length:Int) by omega];refine qV (zca Rr Qe O O ω)$ RO Rr O$ OT O$ OJ$ Pu.qb (e:=[(1,_),(5,_),(11,_),(12,_),(14,_),(60,_),(61,_),(62,_)]) ?_;refine OL$ RN (α:=Nat) (0) (λi=>[(1,I (x:Int)),(5,ptr b5 0),(11,ptr n11 0),(12,.func (.func 204) #[] #[ptr n11 0]),(14,ptr lf 0),(60,.slice (some ⟨g,0,none⟩) l.length c1),(61,I (l.length:Int)),(62,I (i:Int))]) (λi w'=>NuX w w1 w11 p b5 n11 (λk=>FL k\/FR k) (A++(Cd.gamma,l.length)::Qo 0 (l.take i)) w'/\i<=l.length) (λi=>l.length-i) ?hI ?hround
     case hI=>exact⟨iC,Nat.zero_le _⟩
     case hround =>
      rintro i w13 ⟨mm,hi⟩ ih
      try dsimp only
      refine qN O$ QV O$ OJ$ An$ OX O (λe3=>?_)$ λe3=>?_
      ·have dO:i<l.length:=by omega
       obtain⟨F13,o3,tY,o4⟩:=mm.ex;have De:=Bk.sl.kp mm.kx (λg2 hg e=>e (.inr ((Ik g2).2 (.inr hg))));have ip:(l++[m])[i]? =some l[i]:=by rw[List.getElem?_append_left dO,List.getElem?_eq_getElem dO]
       have iq:min i 1<=l[i]:=by
        rcases Nat.eq_zero_or_pos i with e| e
        ·omega
        ·have h1:=qu.pos l[i] (by
          rw[List.mem_iff_getElem?];refine⟨i-1,?_⟩
          rw[List.getElem?_drop,show 1+(i-1)=i by omega];exact ip)
         omega
       have j4:l[i]<=65536:=by
        have h1:=qu.le l[i] (List.mem_append_left _ (List.getElem_mem dO));rw[List.length_map] at h1;omega
       refine OK$ QO$ Pt O$ qV (Qc Rr Qe O O ω)$ qV (PC U3 O O (PY De.rd (show((l++[m]).map z6Z)[i]? =some (z6Z l[i]) by rw[List.getElem?_map,ip];rfl))) ?_;refine Qr O$ Rp O$ qV (Pv (news:=[.int .u8 1,P7 0]) Sr O QJ O ((mm.ext.OH hG).cells (n:=2) O) O)$ Pl O$ qV (ymi O O)$ Rt O ?_;rw[show(l[i]:Int)-min (i:Int) 1=((l[i]-min i 1:Nat):Int) by omega];refine Qw O O (RW Yl O O) (Tn o3 (by have h1:(Qo 0 (l.take i)).length=i:=(by rw[Tb,List.length_take];omega);rw[List.length_append,List.length_cons];omega) .gamma (l[i]-min i 1) ω) ?_;rintro _ w14 ⟨rfl,tZ⟩;have Df:=mm.put xF tY o4 l5 z1 tZ;refine OJ$ OG$ OQ O$ Q4 O$ OT O$ OJ ((ih (i+1) _ ⟨?_,ω⟩ ω).qb);rw[List.take_succ,List.getElem?_eq_getElem dO,Option.toList_some,Yw,List.length_take,Nat.min_eq_left hi,Nat.zero_add,<-List.cons_append,<-List.append_assoc];exact Df
      ·have dq:i=l.length:=by omega
       subst dq;rw[List.take_length] at mm;refine OV O ?_;exact(aY _ _ ⟨rfl,mm⟩).qb
    ·have u3:¬0<r:=by omega
     refine OK ?_;exact(aY _ _ ⟨rfl,by rw[if_neg u3,List.append_nil];exact ql⟩).qb
  case da=>
   refine OX O (λe1=>?_)$ λe1=>?_
   ·have nL:0<p.Pm:=by omega
    obtain⟨F,xI,hf⟩:=vZ.ex;refine Rp O$ qV (Pv (news:=[.int .u8 0,P7 0]) Sr O QJ O ((vZ.ext.OH hU).cells (n:=2) O) O)$ OT O$ Qw O O (RW Yl O O) (Tn xI ξ .unary r ω) ?_;rintro _ w5 ⟨rfl,u7⟩;refine OJ$ Pu.qb (e:=[(1,_),(2,_),(3,_),(4,_),(5,_),(10,_),(11,_),(12,_)]) ?_;exact(bH _ _ ⟨rfl,by rw[if_pos nL];exact vZ.put hf l5 z1 u7⟩).qb
   ·have nL:¬0<p.Pm:=by omega
    refine OK ?_;exact(bH _ _ ⟨rfl,by rw[if_neg nL];exact vZ⟩).qb
/-! ### The numbers can be encoded -/
def Xz (k:Nat)(q:Cd×Nat):Prop:=(q.1= .unary/\q.2<=16)\/(q.1= .gamma/\q.2<=200000)\/(q.1= .zeta k/\q.2<=200000)
def z1p (k:Nat):∀(l:List Nat) (i:Nat),(∀n∈l,n<=65536)->∀q∈Qo i l,Xz k q
 |[],i,h,q,hq=>by cases hq
 | n :: l, i, h, q, hq => by
   rw[Qo] at hq;rcases List.mem_cons.1 hq with e|hq
   ·subst e;have:=h n List.mem_cons_self;exact .inr (.inl ⟨rfl,by dsimp only;omega⟩)
   ·exact z1p k l (i+1) (λn hn=>h n (List.mem_cons_of_mem _ hn)) q hq
def ZX (k x least:Nat)(hx:x<65536):∀(R:List (Nat×Nat)) (e:Option Nat),(∀q∈R,q.1+q.2<=65536)->∀q∈PM x least e R,Xz k q
 |[],e,h,q,hq=>by cases e<;>cases hq
 | p :: R, e, h, q, hq => by
   have hp:=h p List.mem_cons_self;rw[RJ] at hq;rcases List.mem_cons.1 hq with e1|hq
   ·subst e1;refine .inr (.inl ⟨rfl,?_⟩)
    cases e with
    |none=>have:=Zh (z:=(p.1:Int)-x) (n:=65537) ω ω;show zig _<=_;omega
    |some z=>show p.1-z-2<=_;omega
   ·rcases List.mem_cons.1 hq with e1|hq
    ·subst e1;exact .inr (.inl ⟨rfl,by dsimp only;omega⟩)
    ·exact ZX k x least hx R _ (λq hq=>h q (List.mem_cons_of_mem _ hq)) q hq
def ZZ (k x:Nat)(hx:x<65536):∀(l:List Nat) (e:Option Nat),(∀n∈l,n<65536)->∀q∈PN x k e l,Xz k q
 |[],e,h,q,hq=>by cases e<;>cases hq
 | v :: l, e, h, q, hq => by
   have hv:=h v List.mem_cons_self;rw[SY] at hq;rcases List.mem_cons.1 hq with e1|hq
   ·subst e1;refine .inr (.inr ⟨rfl,?_⟩)
    cases e with
    |none=>have:=Zh (z:=(v:Int)-x) (n:=65537) ω ω;show zig _<=_;omega
    |some u=>show v-u-1<=_;omega
   ·exact ZZ k x hx l _ (λn hn=>h n (List.mem_cons_of_mem _ hn)) q hq
def z4p {least:Nat}{l:List Nat}(h:PG l):(PV least l).1.length<=65536:=by
 have h1:=(TJ least l).length_eq
 rw[List.length_append] at h1
 have h4:∀(R:List (Nat×Nat)) (lo:Nat),T3 least lo R->R.length<=(QT R).length:=by
  intro R
  induction R with
  |nil=>intro lo h;exact Nat.le_refl _
  | cons q R ih =>
    intro lo h;have h5:=ih _ h.2.2.2;have h6:1<=q.2:=h.2.1;rw[show QT (q::R)=(List.range q.2).map (q.1+·)++QT R from rfl,List.length_append,List.length_map,List.length_range,List.length_cons];omega
 have h5:=h4 _ 0 (UT least l 0 h.ris (λy _=>Nat.zero_le _))
 have:=h.len
 omega
def z8g {least:Nat}{l:List Nat}(h:PG l):∀q∈(PV least l).1,1<=q.2/\q.1+q.2<=65536:=λq hq=>by
 obtain⟨i,hi⟩:=List.mem_iff_getElem?.1 hq
 have h1:=(Zz _ 0 i q (UT least l 0 h.ris (λy _=>Nat.zero_le _)) hi).1
 exact⟨h1,zb1 h.lt hq h1⟩
def z0m {p:S6}(hp:p.Qx){x:Nat}(hx:x<65536){succ ref:List Nat}(hs:PG succ)(hr:PG ref){r:Nat}(jn:r<=p.Pm):∀q∈Ru p x succ ref r,Xz p.zeta q:=by
 obtain⟨g1,g2,g3,g4⟩:=id hp
 have ay:PG (Pq succ ref):=hs.sub List.filter_sublist
 intro q hq
 unfold Ru at hq
 have fL:=hs.len
 rcases List.mem_cons.1 hq with e|hq
 ·subst e;exact .inr (.inl ⟨rfl,by dsimp only;omega⟩)
 split at hq
 ·cases hq
 rcases List.mem_append.1 hq with hq|hq
 ·split at hq
  ·rcases List.mem_singleton.1 hq with e;subst e;exact .inl ⟨rfl,by dsimp only;omega⟩
  ·cases hq
 rcases List.mem_append.1 hq with hq|hq
 ·have qu:=T9 succ ref;have hl:=qu.z18;have ia:=hr.len;rw[List.length_map] at hl;split at hq
  ·rcases List.mem_cons.1 hq with e|hq
   ·subst e;exact .inr (.inl ⟨rfl,by dsimp only;omega⟩)
   ·refine z1p _ _ _ (λn hn=>?_) q hq;have:=qu.le n (List.dropLast_subset _ hn);rw[List.length_map] at this;omega
  ·cases hq
 split at hq
 ·cases hq
 rcases List.mem_append.1 hq with hq|hq
 ·split at hq
  ·rcases List.mem_cons.1 hq with e|hq
   ·subst e;have:=z4p (least:=p.interval) ay;exact .inr (.inl ⟨rfl,by dsimp only;omega⟩)
   ·exact ZX _ _ _ hx _ _ (λq hq=>(z8g ay q hq).2) q hq
  ·cases hq
 ·exact ZZ _ _ hx _ _ (λn hn=>ay.lt n ((UE p.interval _).subset hn)) q hq
def z5v (succ ref:List Nat)(hr:PG ref):(Rb succ ref).length<=65537:=by
 have hl:=(T9 succ ref).z18
 rw[List.length_map] at hl
 have:=hr.len
 omega
def z4J {p:S6}{x:Nat}{succ ref:List Nat}(hs:PG succ)(hr:PG ref){r:Nat}:(Ru p x succ ref r).length<=500000:=by
 have ay:PG (Pq succ ref):=hs.sub List.filter_sublist
 have h1:=z5v succ ref hr
 have h2:=z4p (least:=p.interval) ay
 have h3:=(ay.sub (UE p.interval (Pq succ ref))).len
 unfold Ru
 rw[List.length_cons]
 split
 ·simp
 rw[List.length_append,List.length_append]
 have e1:(if 0<p.Pm then [(Cd.unary,r)] else []).length<=1:=by split<;>simp
 have e2:(if 0<r then(Cd.gamma,(Rb succ ref).length-1)::Qo 0 (Rb succ ref).dropLast else []).length<=65537:=by
  split
  ·rw[List.length_cons,Tb,List.length_dropLast];omega
  ·simp
 have e3:(if Pq succ ref=[] then [] else(if 0<p.interval then(Cd.gamma,(PV p.interval (Pq succ ref)).1.length)::PM x p.interval none (PV p.interval (Pq succ ref)).1 else [])++PN x p.zeta none (PV p.interval (Pq succ ref)).2).length<=200000:=by
  split
  ·simp
  ·rw[List.length_append,Ti];split
   ·rw[List.length_cons,SA];omega
   ·simp;omega
 omega
def Xz.Qx {k:Nat}{q:Cd×Nat}(h:Xz k q)(hk:1<=k/\k<=16):q.1.Qx/\q.2<=q.1.most:=by
 rcases h with⟨e,h⟩|⟨e,h⟩|⟨e,h⟩
 ·rw[e];exact⟨trivial,by simp only[Cd.most];omega⟩
 ·rw[e];exact⟨trivial,by simp only[Cd.most];omega⟩
 ·rw[e];exact⟨hk,by simp only[Cd.most];omega⟩
def z3A {c:Cd}{v:Nat}(hc:c.Qx)(hv:v<=c.most):(c.enc v).length<=65600:=by
 obtain⟨q1,q2,-⟩:=WH hc hv
 rw[WN];omega
def zbt {L:List (Cd×Nat)}(h:∀q∈L,q.1.Qx/\q.2<=q.1.most):(Ph L).length<=65600*L.length:=by
 induction L with
 |nil=>simp[Ph]
 | cons q L ih =>
   have h1:=ih (λq hq=>h q (List.mem_cons_of_mem _ hq));obtain⟨h2,h3⟩:=h q List.mem_cons_self;have h4:=z3A h2 h3;obtain⟨c,v⟩:=q;rw[Q7,List.length_append,List.length_cons];dsimp only at h4⊢;omega
theorem SD (a b:List (Cd×Nat)):Ph (a++b)=Ph a++Ph b:=List.flatMap_append
theorem XQ (l:List (Cd×Nat))(q:Cd×Nat):Ph (l++[q])=Ph l++q.1.enc q.2:=by
 rw[SD];simp[Ph]
/-! ### An element of a slice of structs -/
def z0G {α:Type}{f:α->List Value}{k:Nat}(hk:∀a,(f a).length=k){w:World}{b off n cap i:Nat}{R:List α}{q:α}(h:Rd w (.slice (some ⟨b,off,none⟩) n cap) k n (R.flatMap f))(hq:R[i]? =some q):∀j u,(f q)[j]? =some u->w.cell? ⟨b,off+i*k+j,none⟩=some u:=by
 intro j u hj
 have lA:j<k:=by have:=(List.getElem?_eq_some_iff.1 hj).1;rwa [hk] at this
 have key:∀(R:List α) (i:Nat),R[i]? =some q->(R.flatMap f)[i*k+j]? =some u:=by
  intro R
  induction R with
  |nil=>intro i h;simp at h
  | cons a R ih =>
    intro i h;rw[List.flatMap_cons]
    cases i with
    | zero =>
      rw[List.getElem?_cons_zero] at h;cases h;rw[List.getElem?_append_left (by rw[hk];omega),Nat.zero_mul,Nat.zero_add]
      exact hj
    | succ i =>
      rw[List.getElem?_append_right (by rw[hk,Nat.add_mul];omega),hk,show(i+1)*k+j-k=i*k+j by rw[Nat.add_mul];omega];exact ih i h
 have lE:=key R i hq
 have aS:=(List.getElem?_eq_some_iff.1 lE).1
 rcases h.2 with⟨c,hc,h0⟩|⟨b',off',cap',e,hc⟩
 ·rw[h.1,h0,Nat.zero_mul] at aS;omega
 ·cases e;have:=hc (i*k+j) u lE;rw[show off+i*k+j=off+(i*k+j) by omega];exact this
def z5a (q:Cd×Nat):(z66 q).length=3:=by
 obtain⟨c,v⟩:=q
 cases c<;>rfl
def Vv {w:World}(p:S6)(hp:p.Qx)(x:Nat)(hx:x<65536){sa ra:Option Addr}{sc rc:Nat}(succ ref:List Nat)(hs:PG succ)(hr:PG ref)(r:Nat)(jn:r<=p.Pm)(mc:r=0->ref=[])
  (hG:OU w 1 (Sq .gamma) 294) (hU:OU w 2 (Sq .unary) 294) (eB:Rd w (.slice sa succ.length sc) 1 succ.length (succ.map PD)) (nS:Rd w (.slice ra ref.length rc) 1 ref.length (ref.map PD)) (fV:succ.length<=sc) (nT:ref.length<=rc):
  Ps prog 148 [I (x:Int),.slice sa succ.length sc,.slice ra ref.length rc,I (r:Int),lpV p] w λu w'=>u= .tuple #[I ((Ph (Ru p x succ ref r)).length:Int),I 0]/\Ext w w':=by
 obtain⟨g1,g2,g3,g4⟩:=id hp
 have ay:=λq hq=>(z0m hp hx hs hr jn q hq).Qx ⟨g3,g4⟩
 have eK:=z4J (p:=p) (x:=x) (r:=r) hs hr
 refine py (e:=[(0,_),(1,_),(2,_),(3,_),(4,_)]) func148 O ntmps148 O O$ qN O$ OP O O (R6 O (cs:=lpC p) O) ?_
 rintro _ w1 ⟨b9,rfl,ir,ad,cK⟩
 replace cK:OU w1 b9 [I (p.Pm:Int),I (p.interval:Int),I (p.zeta:Int)] 260:=cK
 refine Qr O$ An$ qN O$ qV (Pv (news:=lpC p) Zy O U1 O (cK.cells (n:=3) O) O)$ Pl O$ Pl O$ Pb zfZ O (zaB p hp x hx _ _ succ ref r hs hr jn mc w1 (eB.ext ad) (nS.ext ad)) ?_
 rintro _ w2 ⟨rfl,ae⟩
 refine qV ((S5 O))$ Qm O$ QN O$ An$ qN O$ qV (Pv (news:=lpC p) Zy O U1 O ((ae.OH cK).cells (n:=3) O) O) ?_
 have aI:=ad.trans ae
 refine Pl O$ Pl O$ Pb ze3 O (YR p hp x hx succ ref hs hr r jn mc (aI.OH hG) (aI.OH hU) (eB.ext aI) (nS.ext aI) fV nT) ?_
 rintro v w3 ⟨de,qv,ah⟩
 have aZ:=aI.trans ah
 generalize Ru p x succ ref r=L at ay eK de
 obtain⟨va,vc,rfl,-⟩:=de.rd.shape
 refine RO z0I O$ OT O$ OJ$ OL$ RN (α:=Nat) (0) (λi=>[(12,I ((Ph (L.take i)).length:Int)),(29,.slice va L.length vc),(30,I (L.length:Int)),(31,I (i:Int))]) (λi w'=>Ext w3 w'/\i<=L.length) (λi=>L.length-i) ?hI ?hround
 case hI=>exact⟨Ext.refl _,Nat.zero_le _⟩
 case hround=>
  rintro i w4 ⟨aG,hi⟩ ih
  try dsimp only
  refine qN O$ QV O$ OJ$ An$ OX O (λh0=>?_)$ λh0=>?_
  ·have dO:i<L.length:=by omega
   obtain⟨⟨c,v⟩,hq⟩:∃q,L[i]? =some q:=⟨_,List.getElem?_eq_getElem dO⟩;obtain⟨wg,nx⟩:=ay _ (List.mem_of_getElem? hq);dsimp only at wg nx
   obtain⟨g,c5,e4⟩:∃g c,Value.slice va L.length vc= .slice (some ⟨g,0,none⟩) L.length c:=by
    rcases de.shape with⟨-,h0⟩|⟨g,c,e,hc⟩
    ·omega
    ·exact⟨g,c,e⟩
   cases e4;have kD:=z0G z5a (de.ext aG).rd hq;obtain⟨y,z,o5⟩:∃y z,Sq c=[y,z]:=by cases c<;>exact⟨_,_,rfl⟩
   have rN:cdV c= .agg [y,z].toArray:=by rw[cdV,o5]
   have jJ:z66 (c,v)=[y,z,P7 v]:=by show Sq c++_=_;rw[o5];rfl
   rw[jJ] at kD;have fF:=z4D c v wg nx;rw[rN] at fF;have xT:oneV y=true/\oneV z=true:=by cases c<;>(cases o5;exact⟨rfl,rfl⟩)
   have fi:=zbt (L:=L.take i) (λq hq=>ay q (List.mem_of_mem_take hq));rw[List.length_take] at fi;have pi:=z3A wg nx;refine OK$ QO$ qN O$ qV (Qc z0I VA O O ω)$ qV (Pv (news:=[y,z,P7 v]) zg1 O VA O kD O)$ OP O O (Rz (cs:=[_,_,_]) VA O) ?_;rintro _ w5 ⟨b14,rfl,o6,aV,cV⟩;refine OY O (PL (news:=[y,z,P7 v]) VA O O (by simp[xT.1,xT.2];rfl) O cV ξ) ?_;rintro w6 ⟨eP,aN⟩;replace eP:OU w6 b14 [y,z,P7 v] 296:=eP;have z5:=aV.size;have aR:Ext w4 w6:=aV.It aN (λk e=>by omega);refine qM O$ P4 z7D O$ qV (Pv (news:=[y,z]) Sr O QJ O (eP.cells (n:=2) O) O)$ P4 z7m O$ qV (OS Rw O O eP O)$ Pb zdU O (fF w6) ?_;rintro _ w7 ⟨rfl,cm⟩;refine OT O$ SM O$ Qr O$ OQ O$ Pl O$ Q4 O$ P3 O$ OG$ OQ O$ Q4 O$ OT O$ OJ ?_;rw[show((Ph (L.take i)).length:Int)+((c.enc v).length:Int)=((Ph (L.take (i+1))).length:Int) by rw[PK hq,XQ,List.length_append];dsimp only;omega];exact(ih (i+1) _ ⟨(aG.trans aR).trans cm,ω⟩ ω).qb
  ·have dq:i=L.length:=by omega
   rw[dq,List.take_length];refine OV O$ Pt O$ Qr O$ OI func148 O ?_;exact⟨_,rfl,rfl,aZ.trans aG⟩
def z0a {w:World}{wp:Nat}{bs:List Bool}{F:Nat->Prop}(h:YC w wp bs F)(p:S6)(hp:p.Qx)(x:Nat)(hx:x<65536){sa ra:Option Addr}{sc rc:Nat}(succ ref:List Nat)(hs:PG succ)(hr:PG ref)(r:Nat)(jn:r<=p.Pm)(mc:r=0->ref=[])
  (hG:OU w 1 (Sq .gamma) 294) (hU:OU w 2 (Sq .unary) 294) (eB:Rd w (.slice sa succ.length sc) 1 succ.length (succ.map PD)) (nS:Rd w (.slice ra ref.length rc) 1 ref.length (ref.map PD)) (fV:succ.length<=sc) (nT:ref.length<=rc)
  (hl:bs.length+(Ph (Ru p x succ ref r)).length<=134217728):
  Ps prog 152 [ptr wp 0,I (x:Int),.slice sa succ.length sc,.slice ra ref.length rc,I (r:Int),lpV p] w λu w'=>u=I 0/\WrR wp F w w' (bs++Ph (Ru p x succ ref r)):=by
 obtain⟨g1,g2,g3,g4⟩:=id hp
 have ay:=λq hq=>(z0m hp hx hs hr jn q hq).Qx ⟨g3,g4⟩
 have eK:=z4J (p:=p) (x:=x) (r:=r) hs hr
 refine py (e:=[(0,_),(1,_),(2,_),(3,_),(4,_),(5,_)]) func152 O ntmps152 O O$ qN O$ OP O O (R6 O (cs:=lpC p) O) ?_
 rintro _ w1 ⟨b9,rfl,ir,ad,cK⟩
 replace cK:OU w1 b9 [I (p.Pm:Int),I (p.interval:Int),I (p.zeta:Int)] 260:=cK
 refine P3 O$ PR O$ qV (Qb z3s O O)$ Qm O$ QI O$ Pl O$ qV (Pv (news:=lpC p) Zy O U1 O (cK.cells (n:=3) O) O)$ Pb z4L O (Vv p hp x hx succ ref hs hr r jn mc (ad.OH hG) (ad.OH hU) (eB.ext ad) (nS.ext ad) fV nT) ?_
 rintro _ w2 ⟨rfl,ae⟩
 have aI:=ad.trans ae
 have h2:=h.ext aI
 refine OT O$ SM O$ Qr O$ QO$ Pt O$ QF O$ P3 O$ OR O$ QI O$ Pb z2n O (Vx h2) ?_
 rintro _ w2 ⟨rfl,rfl⟩
 refine Rt O$ QD O$ P3 O$ Pu.qb (e:=[(0,_),(1,_),(2,_),(3,_),(4,_),(11,_),(12,_),(32,_)]) ?_
 refine OX O (λe0=>?_)$ λe0=>?_
 ·omega
 ·refine OK$ OG$ An$ qN O$ qV (Pv (news:=lpC p) Zy O U1 O ((ae.OH cK).cells (n:=3) O) O)$ Pl O$ Pl O$ Pb ze3 O (YR p hp x hx succ ref hs hr r jn mc (aI.OH hG) (aI.OH hU) (eB.ext aI) (nS.ext aI) fV nT) ?_;rintro v w3 ⟨de,qv,ah⟩;have aZ:=aI.trans ah;have h3:=h.ext aZ;have z12:=aI.size;have z3:=ah.size;have ki:∀k,F k->k<w.heap.size:=λk hk=>h.lt hk
  generalize Ru p x succ ref r=L at ay eK de hl
  obtain⟨va,vc,rfl,-⟩:=de.rd.shape;refine RO z0I O$ OT O$ OJ$ OL$ RN (α:=Nat) (0) (λi=>[(0,ptr wp 0),(43,.slice va L.length vc),(44,I (L.length:Int)),(45,I (i:Int))]) (λi w'=>WrR wp F w3 w' (bs++Ph (L.take i))/\i<=L.length) (λi=>L.length-i) ?hI ?hround
  case hI=>exact⟨⟨F,by simpa[Ph] using h3,Kp.refl _ _,λk hk=> .inl hk⟩,Nat.zero_le _⟩
  case hround=>
   rintro i w4 ⟨⟨F4,mq,ar,qn⟩,hi⟩ ih
   try dsimp only
   refine qN O$ QV O$ OJ$ An$ OX O (λh0=>?_)$ λh0=>?_
   ·have dO:i<L.length:=by omega
    obtain⟨⟨c,v⟩,hq⟩:∃q,L[i]? =some q:=⟨_,List.getElem?_eq_getElem dO⟩;obtain⟨wg,nx⟩:=ay _ (List.mem_of_getElem? hq);dsimp only at wg nx
    obtain⟨g,c5,e4⟩:∃g c,Value.slice va L.length vc= .slice (some ⟨g,0,none⟩) L.length c:=by
     rcases de.shape with⟨-,h0⟩|⟨g,c,e,hc⟩
     ·omega
     ·exact⟨g,c,e⟩
    cases e4;have eA:=de.kp ar (λg hg e=>by have:=qv g hg;have:=ki g e;omega);have kD:=z0G z5a eA.rd hq;obtain⟨y,z,o5⟩:∃y z,Sq c=[y,z]:=by cases c<;>exact⟨_,_,rfl⟩
    have rN:cdV c= .agg [y,z].toArray:=by rw[cdV,o5]
    have jJ:z66 (c,v)=[y,z,P7 v]:=by show Sq c++_=_;rw[o5];rfl
    rw[jJ] at kD;have xT:oneV y=true/\oneV z=true:=by cases c<;>(cases o5;exact⟨rfl,rfl⟩)
    refine OK$ QO$ qN O$ qV (Qc z0I VA O O ω)$ qV (Pv (news:=[y,z,P7 v]) zg1 O VA O kD O)$ OP O O (Rz (cs:=[_,_,_]) VA O) ?_;rintro _ w5 ⟨b14,rfl,o6,aV,cV⟩;refine OY O (PL (news:=[y,z,P7 v]) VA O O (by simp[xT.1,xT.2];rfl) O cV ξ) ?_;rintro w6 ⟨eP,aN⟩;replace eP:OU w6 b14 [y,z,P7 v] 296:=eP;have z5:=aV.size;have aR:Ext w4 w6:=aV.It aN (λk e=>by omega);have z6:=aR.size;have z4:=ar.size
    have j4:(bs++Ph (L.take i)).length+(c.enc v).length<=134217728:=by
     have e1:(Ph L).length=(Ph (L.take i)).length+(c.enc v).length+(Ph (L.drop (i+1))).length:=by
      conv=>lhs;rw[<-List.take_append_drop (i+1) L,SD,PK hq,XQ]
      rw[List.length_append,List.length_append]
     rw[List.length_append];omega
    have lI:=zbH (mq.ext aR) c v wg nx j4;rw[rN] at lI;refine OJ$ Rp O$ P4 z7D O$ qV (Pv (news:=[y,z]) Sr O QJ O (eP.cells (n:=2) O) O)$ P4 z7m O$ qV (OS Rw O O eP O)$ Pb zgB O (lI) ?_;rintro _ w7 ⟨rfl,F7,pn,aB,po⟩;refine OJ$ OG$ OQ O$ Q4 O$ OT O$ OJ ((ih (i+1) _ ⟨⟨F7,?_,(ar.trans aR.kp).It aB (λk hk=>(qn k hk).symm),λk hk=>?_⟩,ω⟩ ω).qb)
    ·rw[PK hq,XQ,<-List.append_assoc];exact pn
    ·rcases po k hk with e| e
     ·exact qn k e
     ·exact .inr ω
   ·have dq:i=L.length:=by omega
    rw[dq,List.take_length] at mq;refine OV O$ QN O$ OI func152 O ?_;exact⟨_,rfl,rfl,F4,mq,aZ.kp.trans ar,λk hk=>by rcases qn k hk with e|e;exact .inl e;exact .inr ω⟩
def Xs (succ ref:List Nat)(r:Nat):List (Cd×Nat):=if 0<r then(.gamma,(Rb succ ref).length-1)::Qo 0 (Rb succ ref).dropLast else []
def z80 (p:S6)(x:Nat)(succ ref:List Nat):List (Cd×Nat):=
 if Pq succ ref=[] then [] else(if 0<p.interval then(.gamma,(PV p.interval (Pq succ ref)).1.length)::PM x p.interval none (PV p.interval (Pq succ ref)).1 else [])++PN x p.zeta none (PV p.interval (Pq succ ref)).2
def Uw (p:S6)(x:Nat)(succ ref:List Nat)(r:Nat):List (Cd×Nat):=Xs succ ref r++z80 p x succ ref
def z1O (p:S6)(x:Nat){succ ref:List Nat}(r:Nat)(hs:succ≠[]):Ru p x succ ref r=QA p succ.length r++Uw p x succ ref r:=by
 unfold Ru QA Uw Xs z80
 rw[if_neg hs,if_neg (λe=>hs (List.eq_nil_of_length_eq_zero e)),List.cons_append]
def z7B (p:S6)(x:Nat)(l:List Nat):List (Cd×Nat):=if 0<p.interval/\l≠[] then(.gamma,(PV p.interval l).1.length)::PM x p.interval none (PV p.interval l).1 else []
theorem z4s (p:S6)(x:Nat)(succ ref:List Nat):z80 p x succ ref=z7B p x (Pq succ ref)++PN x p.zeta none (PV p.interval (Pq succ ref)).2:=by
 unfold z80 z7B
 by_cases e:Pq succ ref=[]
 ·rw[if_pos e,if_neg (λh=>h.2 e),e,PV];rfl
 ·rw[if_neg e];by_cases e2:0<p.interval
  ·rw[if_pos e2,if_pos ⟨e2,e⟩]
  ·rw[if_neg e2,if_neg (λh=>e2 h.1)]
structure TlI (w:World)(t r:Nat)(s:OO)(b7 b9:Nat)(n q:Nat)(p:S6)(O_:List Nat)(v:Value)(a:Nat)(w':World):Prop where
 tk:TkM w' t r s a
 kp:Kp (λk=>k=t\/k=r) w w'
 sl:Sl w' v 59 1 O_.length (O_.map PD)
 fr:∀g,v.ownBlock=some g->w.heap.size<=g
 c7:OU w' b7 [I (n:Int),I (q:Int)] 308
 c9:OU w' b9 [I (p.Pm:Int),I (p.interval:Int),I (p.zeta:Int)] 260
 n7:w.heap.size<=b7
 n9:w.heap.size<=b9
 v7:v.ownBlock≠some b7
 v9:v.ownBlock≠some b9
def z3j (l:List Nat):∀c∈l.map PD,c.oneCell'=true:=λc hc=>by
 obtain⟨y,-,rfl⟩:=List.mem_map.1 hc
 rfl
def TlI.app {w w1 w2 w3:World}{t r:Nat}{s:OO}{b7 b9 n q:Nat}{p:S6}{O_ M:List Nat}{v v3:Value}{a a2:Nat}(h:TlI w t r s b7 b9 n q p O_ v a w1)(ht:t<w.heap.size)(hr:r<w.heap.size)
  (hk:Kp (λk=>k=t\/k=r) w1 w2) (nA:TkM w2 t r s a2) (de:Sl w3 v3 59 1 (O_.length+M.length) (O_.map PD++M.map PD)) (av:Kp (λk=>v.ownBlock=some k) w2 w3) (lu:∀g,v3.ownBlock=some g->v.ownBlock=some g\/w2.heap.size<=g):
  TlI w t r s b7 b9 n q p (O_++M) v3 a2 w3:=by
 have z1:=h.kp.size
 have z2:=hk.size
 have l7:=h.c7.lt
 have l9:=h.c9.lt
 have n7:=h.n7
 have n9:=h.n9
 have ni:∀k,k<w.heap.size->¬v.ownBlock=some k:=λk hk e=>by have:=h.fr k e;omega
 have cB:∀k,k<w1.heap.size->v.ownBlock≠some k->v3.ownBlock≠some k:=λk hk hv e=>by
  rcases lu k e with e| e
  ·exact hv e
  ·omega
 refine⟨⟨av.OH nA.OH (ni t ht),⟨av.OH nA.rd.1 (ni r hr),nA.rd.2⟩,nA.ne⟩,(h.kp.trans hk).It av (λk hk=> .inl (h.fr k hk)),by rw[List.length_append,List.map_append];exact de,λg hg=>?_,av.OH (hk.OH h.c7 (λe=>by omega)) h.v7,av.OH (hk.OH h.c9 (λe=>by omega)) h.v9,n7,n9,cB _ l7 h.v7,cB _ l9 h.v9⟩
 rcases lu g hg with e| e
 ·exact h.fr g e
 ·omega
def za2 {w:World}{t r a:Nat}{s:OO}(h:TkM w t r s a)(hG:OU w 1 (Sq .gamma) 294)(dh:¬1=r)(nI:¬1=t)(p:S6)(hp:p.Qx)(x:Nat)(hx:x<65536){sa:Option Addr}{sc:Nat}(succ ref:List Nat)(hs:PG succ)(bD:succ≠[])(jq:succ.length<50)(j9:PG ref)
  (q:Nat) (hq:q<=p.Pm) (nK:q=0->ref=[]) (eJ:∀w2,Kp (λk=>k=r) w w2->Rd w2 (.slice sa ref.length sc) 1 ref.length (ref.map PD)) (fF:ref.length<=sc) (rest:List Bool) (hb:(Pf s).drop a=Ph (Uw p x succ ref q)++rest):
  Ps prog 214 [ptr t 0,I (x:Int),.agg #[I (succ.length:Int),I (q:Int)],.slice sa ref.length sc,lpV p] w λu w'=>Sl w' u 59 1 succ.length (succ.map PD)/\(∀g,u.ownBlock=some g->w.heap.size<=g)/\
   TkM w' t r s (a+(Ph (Uw p x succ ref q)).length)/\Kp (λk=>k=t\/k=r) w w':=by
 obtain⟨g1,g2,g3,g4⟩:=id hp
 have lt0:=h.OH.lt
 have lr0:=h.rd.1.lt
 have jm:=z5N hs.ris j9.ris p.interval
 have s8:=jm.length_eq
 rw[List.length_append,List.length_append] at s8
 have ay:PG (Pq succ ref):=hs.sub List.filter_sublist
 have KC:=(TJ p.interval (Pq succ ref)).length_eq
 rw[List.length_append] at KC
 unfold Uw at hb⊢
 rw[SD,List.append_assoc] at hb
 rw[SD,List.length_append]
 refine py (e:=[(0,_),(1,_),(2,_),(3,_),(4,_)]) func214 O ntmps214 O O$ qN O$ OP O O (R6 O (cs:=[I (succ.length:Int),I (q:Int)]) O) ?_
 rintro _ w1 ⟨b7,rfl,m7,ad,bR⟩
 refine OP O O (R6 O (cs:=lpC p) O) ?_
 rintro _ w2 ⟨b9,rfl,ir,ae,cK⟩
 replace cK:OU w2 b9 [I (p.Pm:Int),I (p.interval:Int),I (p.zeta:Int)] 260:=cK
 have z1:=ad.size
 have z2:=ae.size
 have aI:=ad.trans ae
 have er:=ae.OH bR
 refine QW O$ P3 O$ An$ qN O$ P4 St O$ qV (OS U3 O O er O)$ QD O$ OJ$ PI (λe' w'=>∃v11,e'=[(0,ptr t 0),(1,I (x:Int)),(7,ptr b7 0),(9,ptr b9 0),(11,v11)]/\TlI w t r s b7 b9 succ.length q p (ref.filter λy=>decide (y∈succ)) v11 (a+(Ph (Xs succ ref q)).length) w') ?bH$ λbH=>?da
 case bH =>
  rintro e' w3 ⟨v11,rfl,h3⟩;have dI:=Sj hb;obtain⟨va,vc,rfl,-⟩:=h3.sl.rd.shape;have ub:=h3.c7;have cW:=h3.c9;have Dg:=h3.tk.OH;refine An$ qN O$ P4 Tw O$ qV ((OS U3 O O ub O))$ OT O$ RO Pz O$ Rt O ?_;rw[show(succ.length:Int)-((ref.filter λy=>decide (y∈succ)).length:Int)=((Pq succ ref).length:Int) by omega]
  generalize NM:(a+(Ph (Xs succ ref q)).length)=a3 at h3 dI
  rw[z4s,SD,List.append_assoc] at dI;rw[z4s,SD,List.length_append];have KD:p.interval=0->(PV p.interval (Pq succ ref)).1=[]:=λe=>by rw[e];exact XN _
  have KE:Pq succ ref=[]->PV p.interval (Pq succ ref)=([],[]):=λe=>by rw[e,PV]
  have qq:=UT p.interval (Pq succ ref) 0 ay.ris (λy _=>Nat.zero_le _);have tU:=λy hy=>(z8g (least:=p.interval) ay y hy).2
  have In:(PV p.interval (Pq succ ref)).1.length<=(QT (PV p.interval (Pq succ ref)).1).length:=by
   have key:∀(R:List (Nat×Nat)) (lo:Nat),T3 p.interval lo R->R.length<=(QT R).length:=by
    intro R
    induction R with
    |nil=>intro lo h;exact Nat.le_refl _
    | cons z R ih =>
      intro lo h;have h5:=ih _ h.2.2.2;have h6:1<=z.2:=h.2.1;rw[show QT (z::R)=(List.range z.2).map (z.1+·)++QT R from rfl,List.length_append,List.length_map,List.length_range,List.length_cons];omega
   exact key _ 0 qq
  have Dh:PG (PV p.interval (Pq succ ref)).2:=ay.sub (UE p.interval _)
  generalize (ref.filter λy=>decide (y∈succ))=O1 at h3 jm s8
  have wh:z7B p x (Pq succ ref)=if 0<p.interval/\Pq succ ref≠[] then(.gamma,(PV p.interval (Pq succ ref)).1.length)::PM x p.interval none (PV p.interval (Pq succ ref)).1 else []:=rfl
  generalize z7B p x (Pq succ ref)=LT at dI wh
  generalize PV p.interval (Pq succ ref)=Q at*
  generalize Pq succ ref=L1 at*
  have Bc:L1=[]↔L1.length=0:=⟨λe=>by rw[e];rfl,List.eq_nil_of_length_eq_zero⟩;have fL:=hs.len;refine P3 O$ An$ PI (λe' w'=>∃s1:Bool,e'=[(0,ptr t 0),(1,I (x:Int)),(7,ptr b7 0),(9,ptr b9 0),(11,.slice va O1.length vc),(12,I (L1.length:Int)),(38,.bool s1)]/\w'=w3/\(s1=true↔0<p.interval/\L1≠[])) ?aY$ λaY=>?fW
  case aY =>
   rintro e' w4 ⟨s1,rfl,rfl,ee⟩;refine PI (λe' w'=>∃v11,e'=[(0,ptr t 0),(1,I (x:Int)),(7,ptr b7 0),(9,ptr b9 0),(11,v11)]/\TlI w t r s b7 b9 succ.length q p (O1++QT Q.1) v11 (a3+(Ph LT).length) w') ?ao$ λao=>?en
   case ao =>
    rintro e' w5 ⟨v5,rfl,h5⟩;have gG:=Sj dI;obtain⟨va5,vc5,rfl,-⟩:=h5.sl.rd.shape;have mt:=h5.c7;have mv:=h5.c9;have Di:=h5.tk.OH;have Io:(O1++QT Q.1).length=O1.length+(QT Q.1).length:=List.length_append;refine An$ qN O$ P4 Tw O$ qV ((OS U3 O O mt O))$ OT O$ RO Pz O$ Rt O ?_;rw[show(succ.length:Int)-((O1++QT Q.1).length:Int)=(Q.2.length:Int) by omega];refine P3 O$ An$ PI (λe' w'=>∃s2:Bool,e'=[(0,ptr t 0),(1,I (x:Int)),(7,ptr b7 0),(9,ptr b9 0),(11,.slice va5 (O1++QT Q.1).length vc5),(13,I (Q.2.length:Int)),(60,.bool s2)]/\w'=w5/\(s2=true↔0<Q.2.length)) ?dj$ λdj=>?nR
    case dj=>
     rintro e' w6 ⟨s2,rfl,rfl,dt⟩;refine PI (λe' w'=>∃v11,e'=[(0,ptr t 0),(11,v11)]/\TlI w t r s b7 b9 succ.length q p (O1++QT Q.1++Q.2) v11 (a3+(Ph LT).length+(Ph (PN x p.zeta none Q.2)).length) w') ?lD$ λlD=>?tR
     case lD=>
      rintro e' w7 ⟨v7,rfl,h7⟩;have s9:(O1++QT Q.1++Q.2).length=succ.length:=by rw[List.length_append,Io];omega
      have KF:0<succ.length:=List.length_pos_iff.2 bD;refine Pt O$ Pb ziF O (z9U h7.sl (λe=>by rw[e] at s9;simp at s9;omega) ω) ?_;rintro _ w8 ⟨rfl,aL,l',KG,xU,dJ⟩;have KH:l'=succ:=z6o ((KG.trans (by rw[List.append_assoc])).trans jm) xU hs.ris;rw[KH] at dJ;refine qM O$ OT O$ P3 O$ OI func214 O ?_;have e9:a+((Ph (Xs succ ref q)).length+((Ph LT).length+(Ph (PN x p.zeta none Q.2)).length))=a3+(Ph LT).length+(Ph (PN x p.zeta none Q.2)).length:=by omega
      rw[e9];have ni:∀k,k<w.heap.size->¬v7.ownBlock=some k:=λk hk e=>by have:=h7.fr k e;omega
      refine⟨_,rfl,dJ,h7.fr,⟨aL.OH h7.tk.OH (ni t lt0),⟨aL.OH h7.tk.rd.1 (ni r lr0),h7.tk.rd.2⟩,h7.tk.ne⟩,h7.kp.It aL (λk hk=> .inl (h7.fr k hk))⟩
     case tR=>
      refine Qk O (λh2=>?_)$ λh2=>?_
      ·refine OQ O$ Pl O$ Pl O$ P4 z0C O$ qV ((OS U3 O O mv O))$ qV ((Qg O U3 Rw ω))$ qV (Sh (cs:=[_,_]) QJ O zdO O O)$ Pb zhc O (z6B h5.tk x p.zeta hx ⟨g3,g4⟩ Q.2 Dh _ gG) ?_;rintro u6 w6 ⟨fQ,nE,xB,aN⟩;have Dj:=h5.sl.kp aN (λg hg e=>by have:=h5.fr g hg;omega);refine OP O O (pap Pz Pc O ψ O O Dj fQ.rd (z3j _) ω (by simp only[maxLen];omega)) ?_;rintro v7 w7 ⟨gQ,aB,KJ,-⟩;have h7:=h5.app lt0 lr0 aN xB gQ aB KJ;refine P3 O ?_;exact(lD _ _ ⟨v7,rfl,h7⟩).qb
      ·have gS:Q.2=[]:=List.eq_nil_of_length_eq_zero (by
        rcases Nat.eq_zero_or_pos Q.2.length with e| e
        ·exact e
        ·rw[dt.2 e] at h2;cases h2)
       refine OK ((lD _ _ ⟨_,rfl,?_⟩).qb);rw[gS,List.append_nil,show(Ph (PN x p.zeta none [])).length=0 from rfl,Nat.add_zero];exact h5
    case nR=>
     rcases Nat.eq_zero_or_pos Q.2.length with hz|hz
     ·refine Rp O$ QD O$ PO$ OT O$ QY$ QY$ qS$ PT O$ OJ ?_;exact(dj _ _ ⟨false,rfl,rfl,by simp[hz]⟩).qb
     ·refine Rp O$ QD O$ RP$ Pl O$ Pw O$ P4 TP O$ qV ((OS U4 O O Di O))$ qV ((S5 O))$ Ra O$ OJ ?_;exact(dj _ _ ⟨true,rfl,rfl,by simp[hz]⟩).qb
   case en=>
    refine Qk O (λh1=>?_)$ λh1=>?_
    ·obtain⟨tt,df⟩:=ee.1 h1;rw[if_pos ⟨tt,df⟩] at wh;refine OQ O$ Pl O$ Pl O$ P4 Uf O$ qV ((OS U3 O O cW O)) ?_;rw[wh] at dI;refine Pb zgg O (z9y h3.tk (h3.kp.OH hG (λe=>by rcases e with e|e;exact nI e;exact dh e)) dh nI x L1.length p.interval hx ω ω Q.1 qq tU ω ω _ dI) ?_;rintro u4 w4 ⟨eA,qn,xV,ar⟩;have Dk:=h3.sl.kp ar (λg hg e=>by have:=h3.fr g hg;omega);have NN:=eA.rd;have KK:O1.length<=65536:=by omega
     refine OP O O (pap Pz Pc O ψ O O Dk eA.rd (z3j _) ω (by simp only[maxLen];omega)) ?_;rintro v5 w5 ⟨gM,aj,KL,-⟩;have h5:=h3.app lt0 lr0 ar xV gM aj KL;refine P3 O ((ao _ _ ⟨v5,rfl,?_⟩).qb);rw[wh];exact h5
    ·have df:¬(0<p.interval/\L1≠[]):=λe=>by rw[ee.2 e] at h1;cases h1
     have j6:Q.1=[]:=by
      by_cases e:L1=[]
      ·rw[KE e]
      ·exact KD (by by_cases e2:0<p.interval;exact absurd ⟨e2,e⟩ df;omega)
     rw[if_neg df] at wh;refine OK ((ao _ _ ⟨_,rfl,?_⟩).qb);rw[j6,wh,show QT []=[] from rfl,List.append_nil,show(Ph []).length=0 from rfl,Nat.add_zero];exact h3
  case fW=>
   rcases Nat.eq_zero_or_pos L1.length with hz|hz
   ·refine Rp O$ QD O$ PO$ OT O$ QY$ qS$ PT O$ OT O$ QY$ QY$ qS$ PT O$ OJ$ Pu.qb (e:=[(0,_),(1,_),(7,_),(9,_),(11,_),(12,_),(38,_)]) ?_;exact(aY _ _ ⟨false,rfl,rfl,⟨λe=>(by cases e),λe=>absurd (Bc.2 hz) e.2⟩⟩).qb
   ·rcases Nat.eq_zero_or_pos p.interval with mY|mY
    ·refine Rp O$ QD O$ RP$ OT O$ P4 Uf O$ qV ((OS U3 O O cW O))$ QD O$ PO$ Ra O$ OT O$ QY$ QY$ qS$ PT O ?_;refine OJ$ Pu.qb (e:=[(0,_),(1,_),(7,_),(9,_),(11,_),(12,_),(38,_)]) ?_;exact(aY _ _ ⟨false,rfl,rfl,by simp[mY]⟩).qb
    ·refine Rp O$ QD O$ RP$ OT O$ P4 Uf O$ qV ((OS U3 O O cW O))$ QD O$ RP$ Ra O$ Pl O$ Pw O$ P4 TP O$ qV ((OS U4 O O Dg O))$ qV ((S5 O)) ?_;refine Ra O$ OJ$ Pu.qb (e:=[(0,_),(1,_),(7,_),(9,_),(11,_),(12,_),(38,_)]) ?_;exact(aY _ _ ⟨true,rfl,rfl,⟨λ_=>⟨mY,λe=>(by have:=Bc.1 e;omega)⟩,λ_=>rfl⟩⟩).qb
 case da=>
  refine OX O (λh0=>?_)$ λh0=>?_
  ·have j6:0<q:=by omega
   have Bl:=T9 succ ref;have jh:=Bl.z18;rw[List.length_map] at jh;have xW:=j9.len
   have xX:(Rb succ ref).sum=ref.length:=by
    have:=congrArg List.length Bl.exp;rw[SS,List.length_map] at this;exact this
   have xY:=z9L succ ref;rw[show Xs succ ref q=(.gamma,(Rb succ ref).length-1)::Qo 0 (Rb succ ref).dropLast from if_pos j6] at hb;obtain⟨l,m,ip⟩:∃l m,Rb succ ref=l++[m]:=⟨_,_,(List.dropLast_concat_getLast Bl.ne).symm⟩;have iq:=Bl.pos;rw[ip] at hb xX jh iq;rw[ip,List.dropLast_concat] at xY;rw[List.dropLast_concat,show(l++[m]).length-1=l.length by simp] at hb;rw[List.sum_append] at xX;rw[List.length_append,List.length_singleton] at jh;have h2:=h.ext aI
   have xZ:∀m'∈l.drop 1,1<=m':=λm' o7=>iq m' (by
    cases l with
    |nil=>simp at o7
    |cons a l=>rw[List.cons_append,List.drop_succ_cons,List.drop_zero];rw[List.drop_succ_cons,List.drop_zero] at o7;exact List.mem_append_left _ o7)
   refine OQ O$ Pl O$ Pb zj5 O (z4l h2 (aI.OH hG) dh ref l (λw5 k=>eJ w5 (aI.kp.trans k)) fF xW ω ω xZ _ hb) ?_;rintro v11 w3 ⟨de,qv,qw,av⟩;refine P3 O ((bH _ _ ⟨v11,rfl,?_⟩).qb);rw[xY] at de;rw[show Xs succ ref q=(.gamma,l.length)::Qo 0 l by unfold Xs;rw[if_pos j6,ip,List.dropLast_concat,show(l++[m]).length-1=l.length by simp]];have l72:=er.lt;have l92:=cK.lt;exact⟨qw,aI.kp.trans (av.ON λk e=> .inr e),de,λg hg=>by have:=qv g hg;omega,av.OH er ω,av.OH cK ω,ω,ω,λe=>by have:=qv _ e;omega,λe=>by have:=qv _ e;omega⟩
  ·have j6:q=0:=by omega
   have Dl:=nK j6;subst Dl;refine OK ((bH _ _ ⟨.slice none 0 0,rfl,?_⟩).qb);rw[show Xs succ [] q=[] by unfold Xs;rw[if_neg ω]];exact⟨h.ext aI,aI.kp,Sl.nil _ _ _,(λg hg=>by cases hg),er,cK,ω,ω,(λe=>by cases e),(λe=>by cases e)⟩
def z4c {l b rest:List Bool}{a k n:Nat}(hb:l.drop a=b++rest)(hk:k+n<=b.length):(l.drop (a+k)).take n=(b.drop k).take n:=by
 rw[<-List.drop_drop,hb,List.drop_append_of_le_length ω,List.take_append_of_le_length (by rw[List.length_drop];omega)]
def z8W {w:World}{r a:Nat}{s:OO}(p:S6)(hp:p.Qx)(x:Nat)(hx:x<65536){la ra:Option Addr}{lc rc:Nat}(succ ref:List Nat)(hs:PG succ)(bD:succ≠[])(j9:PG ref)
  (q:Nat) (hq:q<=p.Pm) (nK:q=0->ref=[]) (hG:OU w 1 (Sq .gamma) 294) (hU:OU w 2 (Sq .unary) 294) (eB:Rd w (.slice la succ.length lc) 1 succ.length (succ.map PD)) (nS:Rd w (.slice ra ref.length rc) 1 ref.length (ref.map PD)) (fV:succ.length<=lc) (nT:ref.length<=rc)
  (hl:(Ph (Ru p x succ ref q)).length<=134217728) (rest:List Bool) (hb:(Pf s).drop a=Ph (Uw p x succ ref q)++rest) (h:TS w r s (a+(Ph (Uw p x succ ref q)).length)):
  Ps prog 215 [lpV p,ptr r 0,I (a:Int),I (x:Int),.agg #[I (succ.length:Int),I (q:Int)],.slice la succ.length lc,.slice ra ref.length rc] w λu w'=>u= .bool true/\TS w' r s (a+(Ph (Uw p x succ ref q)).length)/\Kp (λk=>k=r) w w':=by
 have lr0:=h.1.lt
 have l10:=hG.lt
 have l20:=hU.lt
 have fL:=hs.len
 have o8:=z1O p x (ref:=ref) q bD
 have Bm:Ph (Ru p x succ ref q)=Ph (QA p succ.length q)++Ph (Uw p x succ ref q):=by rw[o8,SD]
 have fi:(Ph (Ru p x succ ref q)).length=(Ph (QA p succ.length q)).length+(Ph (Uw p x succ ref q)).length:=by rw[o8,SD,List.length_append]
 generalize Ph (Uw p x succ ref q)=TB at*
 have sd:succ.length≠0:=λe=>bD (List.eq_nil_of_length_eq_zero e)
 refine py (e:=[(0,_),(1,_),(2,_),(3,_),(4,_),(5,_),(6,_)]) func215 O ntmps215 O O$ qN O$ OP O O (R6 O (cs:=lpC p) O) ?_
 rintro _ w1 ⟨b7,rfl,m7,ad,bR⟩
 refine OP O O (R6 O (cs:=[I (succ.length:Int),I (q:Int)]) O) ?_
 rintro _ w2 ⟨b11,rfl,ji,ae,bc⟩
 have aI:=ad.trans ae
 have z1:=ad.size
 have z2:=ae.size
 have er:=ae.OH bR
 have h2:TS w2 r s (a+TB.length):=⟨aI.OH h.1,h.2⟩
 refine R3 O$ Pb Z1 O (Ua h2) ?_
 rintro _ w2 ⟨rfl,rfl⟩
 refine QW O$ Pb z1o O (Ur w2) ?_
 rintro _ w3 ⟨wp,F,rfl,nj,ah,qx⟩
 have z3:=ah.size
 have aZ:=aI.trans ah
 have lJ:=ah.OH bc
 have ub:=ah.OH er
 refine P3 O$ An$ QI O$ Pl O$ P4 St O$ qV (OS U3 O O lJ O)$ qV (Pv (news:=lpC p) Zy O U1 O (ub.cells (n:=3) O) O)$ Pb zds O (z0a nj p hp x hx succ ref hs j9 q hq nK (aZ.OH hG) (aZ.OH hU) (eB.ext aZ) (nS.ext aZ) fV nT (by simpa using hl)) ?_
 rintro _ w4 ⟨rfl,F4,mq,ar,qn⟩
 rw[List.nil_append] at mq
 have z4:=ar.size
 have dP:Ext w2 w4:=ah.It ar qx
 refine QF O$ Qm O$ Pt O$ Pb z7E O (X9 mq) ?_
 rintro _ w4 ⟨rfl,rfl⟩
 refine OT O$ SM O$ Qr O$ Pu.qb (e:=[(1,_),(2,_),(7,_),(14,_),(15,_),(16,_),(17,_)]) ?_
 refine Pt O ?_
 have gE:(Pp (Ph (Ru p x succ ref q))).length<=16777217:=by rw[PE];omega
 refine Pb z8j O (Xf (Pp (Ph (Ru p x succ ref q))) ω w4) ?_
 rintro _ w5 ⟨ow,rfl,lZ,aV,NO⟩
 have iD:=dP.trans aV
 have bS:=aI.trans iD
 obtain⟨z,nz,mY,NP⟩:=Sn (Ph (Ru p x succ ref q))
 have Bn:(Pf (Pp (Ph (Ru p x succ ref q)))).drop 0=Ph (QA p succ.length q)++(TB++List.replicate z false):=by
  rw[nz,List.drop_zero,Bm,List.append_assoc]
 refine P3 O$ PR O$ qV (Pv (news:=lpC p) Zy O U1 O ((iD.OH er).cells (n:=3) O) O)$ Pb zdM O (z2h lZ p hp (bS.OH hG) (bS.OH hU) ω ω succ.length q ω hq (λe=>absurd e sd) _ Bn) ?_
 rintro _ w6 ⟨rfl,ie,aN⟩
 rw[Nat.zero_add] at ie
 have iE:Ext w2 w6:=iD.It aN (λk e=>by omega)
 have ud:=Sj Bn
 rw[Nat.zero_add] at ud
 generalize (Pp (Ph (Ru p x succ ref q)))=os at*
 have z6:=iE.size
 refine OT O$ SM O$ OP O O (Rz (cs:=[_,_]) So O) ?_
 rintro _ w7 ⟨b20,rfl,KM,cm,Dm⟩
 refine OY O (PL (news:=[I (succ.length:Int),I (q:Int)]) So O O O O Dm ξ) ?_
 rintro w8 ⟨Ip,aL⟩
 have iF:Ext w6 w8:=cm.It aL (λk e=>by omega)
 have jr:=iE.trans iF
 have h8:TS w8 r s (a+TB.length):=⟨jr.OH h2.1,h2.2⟩
 have mW:TS w8 ow os (Ph (QA p succ.length q)).length:=⟨iF.OH ie.1,ie.2⟩
 have tf:YC w8 wp (Ph (Ru p x succ ref q)) F4:=((mq.ext aV).kp aN (λi hi e=>by have:=mq.lt hi;omega)).ext iF
 refine R3 O$ QF O$ Pl O$ Pb z2n O (Vx tf) ?_
 rintro _ w8 ⟨rfl,rfl⟩
 refine OT O$ Pb Z1 O (Ua mW) ?_
 rintro _ w8 ⟨rfl,rfl⟩
 refine Rt O ?_
 rw[show((Ph (Ru p x succ ref q)).length:Int)-((Ph (QA p succ.length q)).length:Int)=(TB.length:Int) by omega]
 refine Pl O$ Rt O ?_
 rw[show((a+TB.length:Nat):Int)-(a:Int)=(TB.length:Int) by omega]
 refine QF O$ PO$ PT O$ OJ$ Pu.qb (e:=[(1,_),(2,_),(14,_),(15,_),(19,_),(64,_)]) ?_
 refine SO O$ QI O$ Pb zaN O (Zs h8 a (by have:=h8.2.1;omega)) ?_
 rintro _ w9 ⟨rfl,h9,aw⟩
 have pp:TS w9 ow os (Ph (QA p succ.length q)).length:=⟨aw.OH mW.1 ω,mW.2⟩
 refine OJ$ QO$ RN (α:=Nat) (0) (λk=>[(1,ptr r 0),(15,I ((a+TB.length:Nat):Int)),(19,ptr ow 0)]) (λk w'=>TS w' r s (a+k)/\TS w' ow os ((Ph (QA p succ.length q)).length+k)/\Kp (λi=>i=r\/i=ow) w9 w'/\k<=TB.length) (λk=>TB.length-k) ?hI ?hround
 case hI=>exact⟨h9,pp,Kp.refl _ _,Nat.zero_le _⟩
 case hround=>
  rintro k w10 ⟨eE,mw,aA,NQ⟩ ih
  try dsimp only
  refine PR O$ Pb Z1 O (Ua eE) ?_;rintro _ w10 ⟨rfl,rfl⟩;refine OT O$ QV O$ OJ$ OX O (λh0=>?_)$ λh0=>?_
  ·refine OK$ OL$ QI O$ Pb Z1 O (Ua eE) ?_;rintro _ w10 ⟨rfl,rfl⟩;refine Rt O ?_;rw[show((a+TB.length:Nat):Int)-((a+k:Nat):Int)=((TB.length-k:Nat):Int) by omega];refine qV (ymi O O) ?_;rw[show min (64:Int) ((TB.length-k:Nat):Int)=((min 64 (TB.length-k):Nat):Int) by omega];obtain⟨n,hn,df,jM,Dn⟩:∃n,min 64 (TB.length-k)=n/\1<=n/\n<=64/\k+n<=TB.length:=⟨_,rfl,ω,ω,ω⟩;rw[hn];have wj:=eE.2.1;have fI:=z4c hb Dn;have nh:=z4c ud Dn;have HW:a+TB.length<=8*s.length:=h8.2.1
   have vS:(Ph (QA p succ.length q)).length+TB.length<=8*os.length:=by
    have e:=congrArg List.length ud;rw[List.length_drop,bitsT_length,List.length_append] at e;omega
   refine QW O$ Pl O$ Pb z4q O (Vt eE n jM) ?_;rintro v11 w11 hv
   have jg:v11= .tuple #[P7 (PF (((Pf s).drop (a+k)).take n)),I 0]/\TS w11 r s (a+k+n)/\Kp (λk=>k=r) w10 w11:=by
    rcases hv with hv|hv
    ·exact hv.2
    ·omega
   obtain⟨rfl,pU,bu⟩:=jg;rw[fI];have Do:TS w11 ow os ((Ph (QA p succ.length q)).length+k):=⟨bu.OH mw.1 ω,mw.2⟩;refine OT O$ SM O$ SH O$ QW O$ Pl O$ Pb z4q O (Vt Do n jM) ?_;rintro v12 w12 hv
   have jg:v12= .tuple #[P7 (PF (((Pf os).drop ((Ph (QA p succ.length q)).length+k)).take n)),I 0]/\TS w12 ow os ((Ph (QA p succ.length q)).length+k+n)/\Kp (λk=>k=ow) w11 w12:=by
    rcases hv with hv|hv
    ·exact hv.2
    ·omega
   obtain⟨rfl,Dp,bz⟩:=jg;rw[nh];have Dq:TS w12 r s (a+k+n):=⟨bz.OH pU.1 ω,pU.2⟩;refine OT O$ SM O$ SH O$ QW O$ Pl O$ QF O$ OJ$ OX O (λh1=>?_)$ λh1=>?_
   ·exact absurd O h1
   ·refine OK$ OG ((ih (k+n) _ ⟨by rw[<-Nat.add_assoc];exact Dq,by rw[<-Nat.add_assoc];exact Dp,(aA.trans (bu.ON λi e=> .inl e)).trans (bz.ON λi e=> .inr e),Dn⟩ ω).qb)
  ·have nl:k=TB.length:=by omega
   subst nl;refine OV O$ QN O$ OI func215 O ?_;exact⟨_,rfl,rfl,eE,((aI.trans jr).kp.trans aw).It aA (λi hi=>by rcases hi with e|e;exact .inr e;exact .inl ω)⟩
def z00 {w:World}{r a:Nat}{s:OO}(h:TS w r s a)(p:S6)(hp:p.Qx)(x:Nat)(hx:x<65536)(N:Nat)(hN:N<=65536){ra:Option Addr}{rc:Nat}(succ ref:List Nat)(hs:PG succ)(bD:succ≠[])(jq:succ.length<50)(Dr:∀y∈succ,y<N)(j9:PG ref)
  (q:Nat) (hq:q<=p.Pm) (nK:q=0->ref=[]) (hG:OU w 1 (Sq .gamma) 294) (hU:OU w 2 (Sq .unary) 294) (dh:¬1=r) (dm:¬2=r) (eJ:∀w2,Kp (λk=>k=r) w w2->Rd w2 (.slice ra ref.length rc) 1 ref.length (ref.map PD)) (nT:ref.length<=rc)
  (hl:(Ph (Ru p x succ ref q)).length<=134217728) (rest:List Bool) (hb:(Pf s).drop a=Ph (Uw p x succ ref q)++rest):
  Ps prog 196 [ptr r 0,I (x:Int),I (N:Int),.agg #[I (succ.length:Int),I (q:Int)],.slice ra ref.length rc,lpV p] w λu w'=>∃v,u= .tuple #[v,I 0]/\Sl w' v 59 1 succ.length (succ.map PD)/\(∀g,v.ownBlock=some g->w.heap.size<=g)/\TS w' r s (a+(Ph (Uw p x succ ref q)).length)/\Kp (λk=>k=r) w w':=by
 obtain⟨g1,g2,g3,g4⟩:=id hp
 have lr0:=h.1.lt
 have l10:=hG.lt
 have l20:=hU.lt
 have fL:=hs.len
 have ia:=j9.len
 have sd:0<succ.length:=List.length_pos_iff.2 bD
 refine py (e:=[(0,_),(1,_),(2,_),(3,_),(4,_),(5,_)]) func196 O ntmps196 O O$ qN O$ OP O O (R6 O (cs:=[I (succ.length:Int),I (q:Int)]) O) ?_
 rintro _ w1 ⟨b9,rfl,ir,ad,cK⟩
 refine OP O O (R6 O (cs:=lpC p) O) ?_
 rintro _ w2 ⟨b11,rfl,ji,ae,bc⟩
 replace bc:OU w2 b11 [I (p.Pm:Int),I (p.interval:Int),I (p.zeta:Int)] 260:=bc
 have aI:=ad.trans ae
 have z1:=ad.size
 have z2:=ae.size
 have dD:=ae.OH cK
 have l9:=dD.lt
 have l11:=bc.lt
 have l90:=cK.lt
 refine Qr O$ An$ PI (λe' w'=>e'=[(0,ptr r 0),(1,I (x:Int)),(2,I (N:Int)),(4,.slice ra ref.length rc),(9,ptr b9 0),(11,ptr b11 0)]/\Ext w2 w') ?mx$ λmx=>?Du
 case mx=>
  rintro e' w3 ⟨rfl,ah⟩;have cj:=aI.trans ah;have h3:TS w3 r s a:=⟨cj.OH h.1,h.2⟩;have cW:=ah.OH dD;have lJ:=ah.OH bc;have z3:=ah.size;refine Pt O$ Pb Z1 O (Ua h3) ?_;rintro _ w3 ⟨rfl,rfl⟩;refine R3 O$ qV (Sh (cs:=[_,_]) zfL O zhN O O)$ OP O O (R6 O (cs:=[ptr r 0,.bool false]) O) ?_;rintro _ w4 ⟨tb,rfl,KN,aG,KO⟩;have z4:=aG.size;have cF:=cj.trans aG;have h4:TkM w4 tb r s a:=⟨KO,⟨aG.OH h3.1,h3.2⟩,ω⟩;refine QW O$ Pl O$ qV (Pv (news:=[I (succ.length:Int),I (q:Int)]) z4G O So O ((aG.OH cW).cells (n:=2) O) O)$ OT O$ qV (Pv (news:=lpC p) Zy O U1 O ((aG.OH lJ).cells (n:=3) O) O)$ Pb zgh O (za2 h4 (cF.OH hG) dh ω p hp x hx succ ref hs bD jq j9 q hq nK (λw2 k=>eJ w2 (cF.kp.trans k)) nT rest hb) ?_;rintro v w5 ⟨gM,tT,Iq,aj⟩;have di:Kp (λk=>k=r) w w5:=cF.kp.It aj (λi hi=>by rcases hi with e|e;exact .inl ω;exact .inr e);have mv:=aj.OH (aG.OH cW) ω;have y4:=aj.OH (aG.OH lJ) ω;have KP:=Iq.OH;have KQ:=di.OH hG dh;have KR:=di.OH hU dm;have bO:=eJ w5 di;have xa:∀g,v.ownBlock=some g->w.heap.size<=g:=λg hg=>by have:=tT g hg;have:=cF.size;omega
  obtain⟨va,vc,rfl,Bo⟩:=gM.rd.shape
  have Dt:succ.length<=vc:=by
   rcases gM.shape with⟨-,h0⟩|⟨g,c1,hv,ib⟩
   ·omega
   ·cases hv;exact ib
  refine P3 O$ PR O$ Pw O$ P4 TP O$ qV ((OS U4 O O KP O))$ Pl O$ RO Pz O$ P4 Tw O$ qV ((OS U3 O O mv O))$ QF O$ PO$ PT O$ Pl O$ Pb z3P O (Wj _ succ hs w5 gM.rd) ?_;rintro _ w5 ⟨rfl,rfl⟩;refine qV ((S5 O))$ PT O$ Pl O$ RO Pz O$ Rk O$ PO$ PT O$ Pl O$ OT O$ RO Pz O$ Rt O ?_;rw[show(succ.length:Int)-1=((succ.length-1:Nat):Int) by omega];obtain⟨y,hy⟩:∃y,succ[succ.length-1]? =some y:=⟨_,List.getElem?_eq_getElem ω⟩;have NR:=Dr y (List.mem_of_getElem? hy)
  obtain⟨g5,c5,e5⟩:∃g c,Value.slice va succ.length vc= .slice (some ⟨g,0,none⟩) succ.length c:=by
   rcases gM.shape with⟨-,h0⟩|⟨g,c,e,hc⟩
   ·omega
   ·exact⟨g,c,e⟩
  cases e5;refine qV (Qc Pz Pc O O ω)$ qV (PC QU O O (PY gM.rd (show(succ.map PD)[succ.length-1]? =some (PD y) by rw[List.getElem?_map,hy];rfl))) ?_;refine qV (PQ O QU U3 ω)$ OT O$ Uh O$ PO$ PT O$ OT O$ qV (Pv (news:=lpC p) Zy O U1 O (y4.cells (n:=3) O) O)$ Pl O$ OT O$ qV (Pv (news:=[I (succ.length:Int),I (q:Int)]) z4G O So O (mv.cells (n:=2) O) O)$ Pl O$ Pb zir O (z8W p hp x hx succ ref hs bD j9 q hq nK KQ KR gM.rd bO Dt nT hl rest hb Iq.rd) ?_;rintro _ w6 ⟨rfl,h6,aN⟩;refine qV ((S5 O))$ PT O$ OJ$ Pu.qb (e:=[(0,_),(14,_),(16,_),(134,_)]) ?_;refine SO O$ Pt O$ Qr O$ OI func196 O ?_;exact⟨_,rfl,_,rfl,gM.kp aN (λg hg e=>by have:=xa g hg;omega),xa,h6,di.trans aN⟩
 case Du=>
  refine OL$ Pt O$ qV (Qb Vf O O)$ P3 O$ OR O$ An$ qN O$ qV (Pv (news:=lpC p) Zy O U1 O (bc.cells (n:=3) O) O)$ Pb z44 O (TV p hp w2) ?_;rintro _ w3 ⟨rfl,ah⟩;refine QF O$ Pl O$ Pb z7M O (VX x hx w3) ?_;rintro _ w3 ⟨rfl,rfl⟩;refine qV ((S5 O))$ PT O$ Pl O$ QV O$ PO$ PT O$ Pl O$ QD O$ PO$ PT O$ Pl O$ Pb z3P O (Wj _ ref j9 w3 (eJ w3 (aI.trans ah).kp)) ?_;rintro _ w3 ⟨rfl,rfl⟩;refine qV ((S5 O))$ PT O$ P3 O$ Pu.qb (e:=[(0,_),(1,_),(2,_),(4,_),(9,_),(11,_),(12,_),(13,_),(20,_)]) ?_;refine OR O$ OQ O$ P4 Tw O$ qV ((OS U3 O O (ah.OH dD) O))$ QV O$ PO$ OT O$ P4 Tw O$ qV ((OS U3 O O (ah.OH dD) O))$ QD O$ PO$ PT O$ OT O$ P4 St O ?_;refine qV ((OS U3 O O (ah.OH dD) O))$ QV O$ PO$ PT O$ OT O$ P4 St O$ qV ((OS U3 O O (ah.OH dD) O))$ P4 Tj O$ qV ((OS U3 O O (ah.OH bc) O))$ QD O$ PO$ PT O$ OT O ?_;rcases Nat.eq_zero_or_pos q with e0|e0
  ·have KS:ref.length=0:=by rw[nK e0];rfl
   refine P4 St O$ qV ((OS U3 O O (ah.OH dD) O))$ Rk O$ RP$ Pl O$ RO Pz O$ QD O$ PO$ Ra O$ PT O$ P3 O$ Pu.qb (e:=[(0,_),(1,_),(2,_),(4,_),(9,_),(11,_),(12,_),(13,_),(20,_)]) ?_;refine OR O$ qN O$ P4 Tw O$ qV ((OS U3 O O (ah.OH dD) O))$ Rk O$ PO$ OT O$ QY$ qS$ PT O$ P3 O$ SO O$ OG ?_;exact(mx _ _ ⟨rfl,ah⟩).qb
  ·refine P4 St O$ qV ((OS U3 O O (ah.OH dD) O))$ Rk O$ PO$ OT O$ QY$ qS$ PT O$ PT O$ P3 O$ Pu.qb (e:=[(0,_),(1,_),(2,_),(4,_),(9,_),(11,_),(12,_),(13,_),(20,_)]) ?_;refine OR O$ qN O$ P4 Tw O$ qV ((OS U3 O O (ah.OH dD) O))$ Rk O$ PO$ OT O$ QY$ qS$ PT O$ P3 O$ SO O$ OG ?_;exact(mx _ _ ⟨rfl,ah⟩).qb
def z3a {w:World}{r:Nat}(p:S6)(hp:p.Qx)(x:Nat)(hx:x<65536)(N:Nat)(hN:N<=65536):
  Ps prog 196 [ptr r 0,I (x:Int),I (N:Int),.agg #[I ((0:Nat):Int),I ((0:Nat):Int)],.slice none 0 0,lpV p] w λu w'=>u= .tuple #[.slice none 0 0,I 0]/\Ext w w':=by
 obtain⟨g1,g2,g3,g4⟩:=id hp
 have tM:([]:List Nat).length=0:=rfl
 refine py (e:=[(0,_),(1,_),(2,_),(3,_),(4,_),(5,_)]) func196 O ntmps196 O O$ qN O$ OP O O (R6 O (cs:=[I ((0:Nat):Int),I ((0:Nat):Int)]) O) ?_
 rintro _ w1 ⟨b9,rfl,ir,ad,cK⟩
 refine OP O O (R6 O (cs:=lpC p) O) ?_
 rintro _ w2 ⟨b11,rfl,ji,ae,bc⟩
 replace bc:OU w2 b11 [I (p.Pm:Int),I (p.interval:Int),I (p.zeta:Int)] 260:=bc
 have aI:=ad.trans ae
 have dD:=ae.OH cK
 refine Qr O$ QO$ Pt O$ qV (Qb Vf O O)$ P3 O$ OR O$ An$ qN O$ qV (Pv (news:=lpC p) Zy O U1 O (bc.cells (n:=3) O) O)$ Pb z44 O (TV p hp w2) ?_
 rintro _ w3 ⟨rfl,ah⟩
 refine QF O$ Pl O$ Pb z7M O (VX x hx w3) ?_
 rintro _ w3 ⟨rfl,rfl⟩
 refine qV ((S5 O))$ PT O$ Pl O$ QV O$ PO$ PT O$ Pl O$ QD O$ PO$ PT O$ Pl O$ Pb z3P O (Wj (.slice none 0 0) [] ⟨List.Pairwise.nil,λy h=>(by cases h)⟩ w3 Vs) ?_
 rintro _ w3 ⟨rfl,rfl⟩
 refine qV ((S5 O))$ PT O$ P3 O$ Pu.qb (e:=[(0,_),(1,_),(2,_),(4,_),(9,_),(11,_),(12,_),(13,_),(20,_)]) ?_
 refine OR O$ OQ O$ P4 Tw O$ qV ((OS U3 O O (ah.OH dD) O))$ QV O$ PO$ OT O$ P4 Tw O$ qV ((OS U3 O O (ah.OH dD) O))$ QD O$ PO$ PT O$ OT O$ P4 St O ?_
 refine qV ((OS U3 O O (ah.OH dD) O))$ QV O$ PO$ PT O$ OT O$ P4 St O$ qV ((OS U3 O O (ah.OH dD) O))$ P4 Tj O$ qV ((OS U3 O O (ah.OH bc) O))$ QD O$ PO$ PT O$ OT O$ P4 St O ?_
 refine qV ((OS U3 O O (ah.OH dD) O))$ Rk O$ RP$ Pl O$ RO Pz O$ QD O$ PO$ Ra O$ PT O$ P3 O$ Pu.qb (e:=[(0,_),(1,_),(2,_),(4,_),(9,_),(11,_),(12,_),(13,_),(20,_)]) ?_
 refine OR O$ qN O$ P4 Tw O$ qV ((OS U3 O O (ah.OH dD) O))$ Rk O$ RP$ OT O$ P4 St O$ qV ((OS U3 O O (ah.OH dD) O))$ Rk O$ RP$ Ra O$ P3 O$ OZ O ?_
 refine qN O$ Qr O$ OI func196 O ?_
 exact⟨_,rfl,rfl,aI.trans ah⟩
/-! ### A packer's cells -/
def W3 (q:Value×Nat):List Value:=[q.1,I (q.2:Int)]
def XS (p:Qq)(R:List (Value×Nat))(n wp ed:Nat):List Value:=Vj p++(R.flatMap W3++[I (n:Int),ptr wp 0,I (ed:Int),I 0])
theorem RS:∀R:List (Value×Nat),(R.flatMap W3).length=R.length*2
 |[]=>rfl
 |q::R=>by rw[List.flatMap_cons,List.length_append,RS R,List.length_cons,show(W3 q).length=2 from rfl];omega
def z42:∀(R:List (Value×Nat)) (i j:Nat) (q:Value×Nat) (u:Value),R[i]? =some q->(W3 q)[j]? =some u->(R.flatMap W3)[i*2+j]? =some u
 |[],i,j,q,u,h,_=>by simp at h
 | a :: R, 0, j, q, u, h, hj => by
   rw[List.getElem?_cons_zero] at h;cases h;have:=(List.getElem?_eq_some_iff.1 hj).1;rw[List.flatMap_cons,List.getElem?_append_left ω,Nat.zero_mul,Nat.zero_add]
   exact hj
 | a :: R, i + 1, j, q, u, h, hj => by
   rw[List.getElem?_cons_succ] at h;rw[List.flatMap_cons,List.getElem?_append_right (by show 2<=_;omega),show(i+1)*2+j-(W3 a).length=i*2+j by show _-2=_;omega];exact z42 R i j q u h hj
theorem z3U:∀(R:List (Value×Nat)) (i:Nat) (x:Value×Nat),i<R.length->(R.set i x).flatMap W3=(R.flatMap W3).take (i*2)++W3 x++(R.flatMap W3).drop (i*2+2)
 |[],i,x,h=>by simp at h
 | a :: R, 0, x, h => by
   rw[List.set_cons_zero,List.flatMap_cons,List.flatMap_cons,Nat.zero_mul,List.take_zero,List.nil_append,Nat.zero_add,List.drop_left' (show(W3 a).length=2 from rfl)]
 | a :: R, i + 1, x, h => by
   rw[List.length_cons] at h;rw[List.set_cons_succ,List.flatMap_cons,List.flatMap_cons,z3U R i x ω];rw[show(i+1)*2=(W3 a).length+i*2 by show _=2+_;omega,List.take_length_add_append,Nat.add_assoc,List.drop_length_add_append,List.append_assoc,List.append_assoc,List.append_assoc]
section
variable {p:Qq}{R:List (Value×Nat)}{n wp ed:Nat}
theorem z5C (hR:R.length=17):(XS p R n wp ed).length=43:=by
 unfold XS
 rw[List.length_append,List.length_append,RS,hR];rfl
def z0w (hR:R.length=17)(j:Nat):(XS p R n wp ed)[39+j]? =[I (n:Int),ptr wp 0,I (ed:Int),I 0][j]? :=by
 unfold XS
 rw[List.getElem?_append_right (by show 5<=_;omega),List.getElem?_append_right (by rw[RS,hR];show _<=_-5;omega),RS,hR]
 congr 1
 show 39+j-5-17*2=j
 omega
def z5I (hR:R.length=17):(XS p R n wp ed)[39]? =some (I (n:Int)):=z0w hR 0
def zeP (hR:R.length=17):(XS p R n wp ed)[40]? =some (ptr wp 0):=z0w hR 1
def zhu (hR:R.length=17):(XS p R n wp ed)[41]? =some (I (ed:Int)):=z0w hR 2
def zjV (hR:R.length=17):(XS p R n wp ed)[42]? =some (I 0):=z0w hR 3
def zd2 (hR:R.length=17){i:Nat}{v:Value}{c:Nat}(h:R[i]? =some (v,c))(j:Nat)(u:Value)(hj:[v,I (c:Int)][j]? =some u):(XS p R n wp ed)[5+i*2+j]? =some u:=by
 have hi:=(List.getElem?_eq_some_iff.1 h).1
 have lA:j<2:=(List.getElem?_eq_some_iff.1 hj).1
 unfold XS
 rw[List.getElem?_append_right (by show 5<=_;omega),show 5+i*2+j-(Vj p).length=i*2+j by show _-5=_;omega,List.getElem?_append_left (by rw[RS];omega)]
 exact z42 R i j _ u h hj
theorem z8E (hR:R.length=17){i:Nat}(hi:i<17)(v:Value)(c:Nat):QH (XS p R n wp ed) (5+i*2) [v,I (c:Int)]=XS p (R.set i (v,c)) n wp ed:=by
 unfold XS QH
 rw[z3U R i (v,c) ω]
 rw[show 5+i*2=(Vj p).length+i*2 from rfl,List.take_length_add_append,show(Vj p).length+i*2+[v,I (c:Int)].length=(Vj p).length+(i*2+2) from rfl,List.drop_length_add_append]
 rw[List.take_append_of_le_length (by rw[RS];omega),List.drop_append_of_le_length (by rw[RS];omega)]
 simp only[List.append_assoc]
 rfl
theorem zck (hR:R.length=17)(m:Nat):(XS p R n wp ed).set 39 (I (m:Int))=XS p R m wp ed:=by
 unfold XS
 rw[List.set_append_right _ _ (by show 5<=_;omega),List.set_append_right _ _ (by rw[RS,hR];show _<=39-5;omega),RS,hR]
 rfl
theorem zcg (hR:R.length=17)(m:Nat):(XS p R n wp ed).set 41 (I (m:Int))=XS p R n wp m:=by
 unfold XS
 rw[List.set_append_right _ _ (by show 5<=_;omega),List.set_append_right _ _ (by rw[RS,hR];show _<=41-5;omega),RS,hR]
 rfl
end
def za7 {w:World}{k:Nat}{p:Qq}{R:List (Value×Nat)}{n wp ed:Nat}(hB:OU w k (XS p R n wp ed) 257)(hR:R.length=17)(hn:n<=65536)(a:Option Addr)(m cp c:Nat):
  Ps prog 153 [ptr k 5,.slice a m cp,I (c:Int)] w λu w'=>u= .tuple #[]/\OU w' k (XS p (R.set (n%17) (.slice a m cp,c)) (n+1) wp ed) 257/\Kp (λi=>i=k) w w':=by
 refine py (e:=[(0,_),(1,_),(2,_)]) func153 O ntmps153 O O ?_
 have hg:=Ext.Pa w
 have dg:(R.set (n%17) (.slice a m cp,c)).length=17:=by rw[List.length_set];exact hR
 refine An$ Pk [12] (λw'=>Ext w w') (by kernel_rfl) O$ PW 0 O O (hg)$ PW 1 O O (hg)$ Pr 2 O (Qd O) hg$ Pr 3 O (Px UW O) hg$ PW 6 O O (hg)$ PW 7 O O (hg)$ Pr 8 O (Sh (cs:=[_,_]) QL O zeh O O) hg$ Pr 9 O (Qd O) hg$ Pr 10 O (Px z7r O) hg$ qL 4 O (λ_ h=>OS U3 O O (h.OH hB) (z5I hR)) hg$ Pr 5 O (yre O O ω) hg$ Pr 11 O (yia zjc QL O O ω) hg ?_
 refine Ty [12]$ qO 12$ PJ (i:=12) O O (PL (news:=[.slice a m cp,I (c:Int)]) QL O O O O (hg.OH hB) (by rw[z5C hR];show 5+n%17*2+2<=43;omega)) ?_
 rintro w1 ⟨ai,az⟩
 refine⟨trivial,?_⟩
 replace ai:OU w1 k (QH (XS p R n wp ed) (5+n%17*2) [.slice a m cp,I (c:Int)]) 257:=ai
 rw[z8E hR (Nat.mod_lt _ ψ)] at ai
 refine qE$ Rp O$ Pw O$ P4 UW O$ qV (OS U3 O O ai (z5I dg))$ Q4 O$ Pw O$ P4 UW O$ OY O (QP Qe O O O ai (by rw[z5C dg];decide)) ?_
 rintro w2 ⟨ak,am⟩
 replace ak:OU w2 k ((XS p (R.set (n%17) (.slice a m cp,c)) n wp ed).set 39 (I ((n+1:Nat):Int))) 257:=ak
 rw[zck dg] at ak
 refine OJ$ Qh func153 O ?_
 exact⟨_,rfl,rfl,ak,(hg.kp.trans az).trans am⟩
def TX (p:Qq)(m size c:Nat):Bool:=decide (0<m/\m<=p.most/\0<size/\size<=p.most/\c<p.chain)
def WI {w:World}{k:Nat}{p:Qq}{R:List (Value×Nat)}{n wp ed:Nat}(hB:OU w k (XS p R n wp ed) 257)(hR:R.length=17)(hn:n<=65536)(hp:p.Qx)(ref size:Nat)(h1:1<=ref)(h2:ref<=p.Pm)
  {a:Option Addr} {m cp c:Nat} (hq:ref<=n->R[(n-ref)%17]? =some (.slice a m cp,c)):
  Ps prog 151 [ptr k 5,I (ref:Int),I (size:Int),bpV p] w λu w'=>u=(if ref<=n then .tuple #[.agg #[.slice a m cp,I (c:Int)],.bool (TX p m size c)] else .tuple #[.agg #[.slice none 0 0,I 0],.bool false])/\Ext w w':=by
 have y5:p.Pm<=16:=hp.1.1
 refine py (e:=[(0,_),(1,_),(2,_),(3,_)]) func151 O ntmps151 O O$ qN O$ OP O O (R6 O (cs:=Vj p) O) ?_
 rintro _ w1 ⟨b7,rfl,m7,ad,bR⟩
 refine OP O O (Rz (cs:=[_,_]) QL O) ?_
 rintro _ w2 ⟨b8,rfl,j3,ae,cu⟩
 have z1:=ad.size
 have z2:=ae.size
 have l7:=bR.lt
 have l8:=cu.lt
 have aI:=ad.trans ae
 have er:=ae.OH bR
 replace er:OU w2 b7 [I (p.Pm:Int),I (p.chain:Int),I (p.interval:Int),I (p.zeta:Int),I (p.most:Int)] 75:=er
 replace cu:OU w2 b8 [.slice none 0 0,I 0] 252:=cu
 have ue:=aI.OH hB
 have aa:=Ext.Pa w2
 refine P3 O$ An$ An ?_
 rcases Nat.lt_or_ge n ref with aS|kh
 ·refine R0 (λw'=>Ext w2 w') O$ P8 0 O O (aa)$ OM 1 O (ylt O O) aa$ TC$ P8 2 O O (aa)$ P8 3 O O (aa)$ P8 4 O O (aa)$ OM 5 O (Qd O) aa$ OM 6 O (Px UW O) aa$ OM 8 O (Px z1r O) aa$ qT 9 O (λ_ h=>OS U3 O O (h.OH er) O) aa$ qT 7 O (λ_ h=>OS U3 O O (h.OH ue) (z5I hR)) aa$ OM 10 O (ymi O O) aa$ OM 11 O (Y7 O O) aa ?_;refine TN$ OM 12 O (U6 O O) aa$ qE$ OZ O$ qN O$ qV (Sh (cs:=[_,_]) QL O zeh O O) ?_;have uf:=aa.OH cu;refine OY O (PL (news:=[.slice none 0 0,I 0]) QL O O O O uf ξ) ?_;rintro w3 ⟨ug,av⟩;replace ug:OU w3 b8 [.slice none 0 0,I 0] 252:=ug;refine P3 O$ Po func151 (.cell Y1 O QL O (OU.cells (n:=2) ug (news:=[_,_]) O) O (.tmp O .nil)) ?_;rw[if_neg ω];exact⟨_,rfl,rfl,(aI.trans aa).It av (λi e=>by omega)⟩
 ·have gS:=hq kh;rw[if_pos kh];refine R0 (λw'=>Ext w2 w') O$ P8 0 O O (aa)$ OM 1 O (ylt O O) aa$ TC$ P8 2 O O (aa)$ P8 3 O O (aa)$ P8 4 O O (aa)$ OM 5 O (Qd O) aa$ OM 6 O (Px UW O) aa$ OM 8 O (Px z1r O) aa$ qT 9 O (λ_ h=>OS U3 O O (h.OH er) O) aa$ qT 7 O (λ_ h=>OS U3 O O (h.OH ue) (z5I hR)) aa$ OM 10 O (ymi O O) aa$ OM 11 O (Y7 O O) aa ?_;refine TC$ OM 12 O (U6 O O) aa$ qE$ SO O$ An ?_;have ag:=aa.trans (Ext.Pa w2.drew);have ft:=Ext.Pa w2.drew;have o9:=aa.OH ue;refine Pk [13] (λw'=>Ext w2.drew w') (by kernel_rfl) O$ PW 0 O O (ft)$ PW 1 O O (ft)$ Pr 2 O (Qd O) ft$ Pr 3 O (Px UW O) ft$ PW 5 O O (ft)$ Pr 8 O (Qd O) ft$ Pr 9 O (Px z7r O) ft$ qL 4 O (λ_ h=>OS U3 O O (h.OH o9) (z5I hR)) ft$ Pr 6 O (XG O O ω) ft ?_;rw[show(n:Int)-(ref:Int)=((n-ref:Nat):Int) by omega];refine Pr 7 O (yre O O ω) ft$ Pr 10 O (yia zjc QL O O ω) ft$ qL 11 O (λ_ h=>Pv (news:=[.slice a m cp,I (c:Int)]) Y1 O QL O (λj u hj=>by rw[(h.OH o9).cell];exact zd2 hR gS j u hj) O) ft ?_;refine Rf (i:=12) (by kernel_rfl)$ Qv (i:=12) O O O (Rz (cs:=[_,_]) QL O) ?_;rintro _ w3 ⟨b10,rfl,xe,ah,fG⟩;refine⟨ft.trans ah,?_⟩;refine Ty [13]$ qO 13$ PJ (i:=13) O O (PL (news:=[.slice a m cp,I (c:Int)]) QL O O O O fG ξ) ?_;rintro w4 ⟨bM,ar⟩;refine⟨trivial,?_⟩;replace bM:OU w4 b10 [.slice a m cp,I (c:Int)] 252:=bM;have z23:=ag.size;have z3:=ah.size;have dP:Ext w2 w4:=(ag.trans ah).It ar (λi e=>by omega);have z4:=dP.size;have eQ:=dP.OH cu;have gW:=dP.OH er;have af:=Ext.Pa w4;refine qE$ Pu.qb (e:=[(2,_),(7,_),(8,_),(9,_),(10,_)]) ?_;refine An ?_;rcases Nat.eq_zero_or_pos m with c0|c0
  ·refine R0 (λw'=>Kp (λi=>i=b8) w4 w') O$ qT 0 O (λ_ hS=>(Pv Y1 O QL O (OU.cells (n:=2) (hS.OH bM ω) (news:=[_,_]) O) O)) (af.kp)$ OM 1 O (Px Sz O) (af.kp)$ qT 2 O (λ_ hS=>(OS Pz O O (hS.OH bM ω) O)) (af.kp)$ OM 3 O (SI Pz O) (af.kp)$ OM 4 O (Y7 O O) (af.kp)$ TC$ P8 5 O O (af.kp)$ qJ 6 O (af.kp)$ qJ 7 O (af.kp)$ qJ 8 O (af.kp)$ qJ 9 O (af.kp)$ qJ 10 O (af.kp)$ qJ 11 O (af.kp) ?_;refine OM 12 O (U6 O O) (af.kp)$ P8 13 O O (af.kp)$ qJ 14 O (af.kp)$ qJ 15 O (af.kp)$ OM 16 O (U6 O O) (af.kp)$ P8 17 O O (af.kp)$ qJ 18 O (af.kp)$ qJ 19 O (af.kp)$ qJ 20 O (af.kp)$ qJ 21 O (af.kp)$ OM 22 O (U6 O O) (af.kp)$ P8 23 O O (af.kp)$ qJ 24 O (af.kp)$ qJ 25 O (af.kp) ?_;refine qJ 26 O (af.kp)$ qJ 27 O (af.kp)$ qJ 28 O (af.kp)$ OM 29 O (U6 O O) (af.kp)$ qO 30$ PJ (i:=30) O O (PL (news:=[.slice a m cp,I (c:Int)]) QL O O O O (af.OH eQ) ξ) ?_;rintro w5 ⟨bI,aj⟩;refine⟨af.kp.trans aj,?_⟩;replace bI:OU w5 b8 [.slice a m cp,I (c:Int)] 252:=bI;refine OM 31 O (Rv O) (af.kp.trans aj)$ qE$ Pu.qb (e:=[(8,_),(9,_)]) ?_;refine Po func151 (.cell Y1 O QL O (OU.cells (n:=2) bI (news:=[_,_]) O) O (.tmp O .nil)) ?_;have ay:TX p m size c=false:=decide_eq_false (λh=>by omega);rw[ay];exact⟨_,rfl,rfl,((aI.trans dP).trans af).It aj (λi e=>by omega)⟩
  ·rcases Nat.lt_or_ge p.most m with c1|c1
   ·refine R0 (λw'=>Kp (λi=>i=b8) w4 w') O$ qT 0 O (λ_ hS=>(Pv Y1 O QL O (OU.cells (n:=2) (hS.OH bM ω) (news:=[_,_]) O) O)) (af.kp)$ OM 1 O (Px Sz O) (af.kp)$ qT 2 O (λ_ hS=>(OS Pz O O (hS.OH bM ω) O)) (af.kp)$ OM 3 O (SI Pz O) (af.kp)$ OM 4 O (Y7 O O) (af.kp)$ TN$ P8 5 O O (af.kp)$ OM 6 O (Px Sz O) (af.kp)$ qT 7 O (λ_ hS=>(OS Pz O O (hS.OH bM ω) O)) (af.kp)$ OM 8 O (SI Pz O) (af.kp)$ OM 9 O (Px TF O) (af.kp)$ qT 10 O (λ_ hS=>(OS U3 O O (hS.OH gW ω) O)) (af.kp)$ OM 11 O (Z3 O O) (af.kp) ?_;refine TC$ OM 12 O (UG O O) (af.kp)$ P8 13 O O (af.kp)$ qJ 14 O (af.kp)$ qJ 15 O (af.kp)$ OM 16 O (U6 O O) (af.kp)$ P8 17 O O (af.kp)$ qJ 18 O (af.kp)$ qJ 19 O (af.kp)$ qJ 20 O (af.kp)$ qJ 21 O (af.kp)$ OM 22 O (U6 O O) (af.kp)$ P8 23 O O (af.kp)$ qJ 24 O (af.kp) ?_;refine qJ 25 O (af.kp)$ qJ 26 O (af.kp)$ qJ 27 O (af.kp)$ qJ 28 O (af.kp)$ OM 29 O (U6 O O) (af.kp)$ qO 30$ PJ (i:=30) O O (PL (news:=[.slice a m cp,I (c:Int)]) QL O O O O (af.OH eQ) ξ) ?_;rintro w5 ⟨bI,aj⟩;refine⟨af.kp.trans aj,?_⟩;replace bI:OU w5 b8 [.slice a m cp,I (c:Int)] 252:=bI;refine OM 31 O (Rv O) (af.kp.trans aj)$ qE$ Pu.qb (e:=[(8,_),(9,_)]) ?_;refine Po func151 (.cell Y1 O QL O (OU.cells (n:=2) bI (news:=[_,_]) O) O (.tmp O .nil)) ?_;have ay:TX p m size c=false:=decide_eq_false (λh=>by omega);rw[ay];exact⟨_,rfl,rfl,((aI.trans dP).trans af).It aj (λi e=>by omega)⟩
   ·rcases Nat.eq_zero_or_pos size with c2|c2
    ·refine R0 (λw'=>Kp (λi=>i=b8) w4 w') O$ qT 0 O (λ_ hS=>(Pv Y1 O QL O (OU.cells (n:=2) (hS.OH bM ω) (news:=[_,_]) O) O)) (af.kp)$ OM 1 O (Px Sz O) (af.kp)$ qT 2 O (λ_ hS=>(OS Pz O O (hS.OH bM ω) O)) (af.kp)$ OM 3 O (SI Pz O) (af.kp)$ OM 4 O (Y7 O O) (af.kp)$ TN$ P8 5 O O (af.kp)$ OM 6 O (Px Sz O) (af.kp)$ qT 7 O (λ_ hS=>(OS Pz O O (hS.OH bM ω) O)) (af.kp)$ OM 8 O (SI Pz O) (af.kp)$ OM 9 O (Px TF O) (af.kp)$ qT 10 O (λ_ hS=>(OS U3 O O (hS.OH gW ω) O)) (af.kp)$ OM 11 O (Z3 O O) (af.kp) ?_;refine TN$ OM 12 O (UG O O) (af.kp)$ P8 13 O O (af.kp)$ P8 14 O O (af.kp)$ OM 15 O (Y7 O O) (af.kp)$ TC$ OM 16 O (UG O O) (af.kp)$ P8 17 O O (af.kp)$ qJ 18 O (af.kp)$ qJ 19 O (af.kp)$ qJ 20 O (af.kp)$ qJ 21 O (af.kp)$ OM 22 O (U6 O O) (af.kp)$ P8 23 O O (af.kp) ?_;refine qJ 24 O (af.kp)$ qJ 25 O (af.kp)$ qJ 26 O (af.kp)$ qJ 27 O (af.kp)$ qJ 28 O (af.kp)$ OM 29 O (U6 O O) (af.kp)$ qO 30$ PJ (i:=30) O O (PL (news:=[.slice a m cp,I (c:Int)]) QL O O O O (af.OH eQ) ξ) ?_;rintro w5 ⟨bI,aj⟩;refine⟨af.kp.trans aj,?_⟩;replace bI:OU w5 b8 [.slice a m cp,I (c:Int)] 252:=bI;refine OM 31 O (Rv O) (af.kp.trans aj)$ qE$ Pu.qb (e:=[(8,_),(9,_)]) ?_;refine Po func151 (.cell Y1 O QL O (OU.cells (n:=2) bI (news:=[_,_]) O) O (.tmp O .nil)) ?_;have ay:TX p m size c=false:=decide_eq_false (λh=>by omega);rw[ay];exact⟨_,rfl,rfl,((aI.trans dP).trans af).It aj (λi e=>by omega)⟩
    ·rcases Nat.lt_or_ge p.most size with c3|c3
     ·refine R0 (λw'=>Kp (λi=>i=b8) w4 w') O$ qT 0 O (λ_ hS=>(Pv Y1 O QL O (OU.cells (n:=2) (hS.OH bM ω) (news:=[_,_]) O) O)) (af.kp)$ OM 1 O (Px Sz O) (af.kp)$ qT 2 O (λ_ hS=>(OS Pz O O (hS.OH bM ω) O)) (af.kp)$ OM 3 O (SI Pz O) (af.kp)$ OM 4 O (Y7 O O) (af.kp)$ TN$ P8 5 O O (af.kp)$ OM 6 O (Px Sz O) (af.kp)$ qT 7 O (λ_ hS=>(OS Pz O O (hS.OH bM ω) O)) (af.kp)$ OM 8 O (SI Pz O) (af.kp)$ OM 9 O (Px TF O) (af.kp)$ qT 10 O (λ_ hS=>(OS U3 O O (hS.OH gW ω) O)) (af.kp)$ OM 11 O (Z3 O O) (af.kp) ?_;refine TN$ OM 12 O (UG O O) (af.kp)$ P8 13 O O (af.kp)$ P8 14 O O (af.kp)$ OM 15 O (Y7 O O) (af.kp)$ TN$ OM 16 O (UG O O) (af.kp)$ P8 17 O O (af.kp)$ P8 18 O O (af.kp)$ OM 19 O (Px TF O) (af.kp)$ qT 20 O (λ_ hS=>(OS U3 O O (hS.OH gW ω) O)) (af.kp)$ OM 21 O (Z3 O O) (af.kp)$ TC$ OM 22 O (UG O O) (af.kp) ?_;refine P8 23 O O (af.kp)$ qJ 24 O (af.kp)$ qJ 25 O (af.kp)$ qJ 26 O (af.kp)$ qJ 27 O (af.kp)$ qJ 28 O (af.kp)$ OM 29 O (U6 O O) (af.kp)$ qO 30$ PJ (i:=30) O O (PL (news:=[.slice a m cp,I (c:Int)]) QL O O O O (af.OH eQ) ξ) ?_;rintro w5 ⟨bI,aj⟩;refine⟨af.kp.trans aj,?_⟩;replace bI:OU w5 b8 [.slice a m cp,I (c:Int)] 252:=bI;refine OM 31 O (Rv O) (af.kp.trans aj)$ qE$ Pu.qb (e:=[(8,_),(9,_)]) ?_;refine Po func151 (.cell Y1 O QL O (OU.cells (n:=2) bI (news:=[_,_]) O) O (.tmp O .nil)) ?_;have ay:TX p m size c=false:=decide_eq_false (λh=>by omega);rw[ay];exact⟨_,rfl,rfl,((aI.trans dP).trans af).It aj (λi e=>by omega)⟩
     ·rcases Nat.lt_or_ge c p.chain with c4|c4
      ·refine R0 (λw'=>Kp (λi=>i=b8) w4 w') O$ qT 0 O (λ_ hS=>(Pv Y1 O QL O (OU.cells (n:=2) (hS.OH bM ω) (news:=[_,_]) O) O)) (af.kp)$ OM 1 O (Px Sz O) (af.kp)$ qT 2 O (λ_ hS=>(OS Pz O O (hS.OH bM ω) O)) (af.kp)$ OM 3 O (SI Pz O) (af.kp)$ OM 4 O (Y7 O O) (af.kp)$ TN$ P8 5 O O (af.kp)$ OM 6 O (Px Sz O) (af.kp)$ qT 7 O (λ_ hS=>(OS Pz O O (hS.OH bM ω) O)) (af.kp)$ OM 8 O (SI Pz O) (af.kp)$ OM 9 O (Px TF O) (af.kp)$ qT 10 O (λ_ hS=>(OS U3 O O (hS.OH gW ω) O)) (af.kp)$ OM 11 O (Z3 O O) (af.kp) ?_;refine TN$ OM 12 O (UG O O) (af.kp)$ P8 13 O O (af.kp)$ P8 14 O O (af.kp)$ OM 15 O (Y7 O O) (af.kp)$ TN$ OM 16 O (UG O O) (af.kp)$ P8 17 O O (af.kp)$ P8 18 O O (af.kp)$ OM 19 O (Px TF O) (af.kp)$ qT 20 O (λ_ hS=>(OS U3 O O (hS.OH gW ω) O)) (af.kp)$ OM 21 O (Z3 O O) (af.kp)$ TN$ OM 22 O (UG O O) (af.kp) ?_;refine P8 23 O O (af.kp)$ OM 24 O (Px z3r O) (af.kp)$ qT 25 O (λ_ hS=>(OS U3 O O (hS.OH bM ω) O)) (af.kp)$ OM 26 O (Px Z6 O) (af.kp)$ qT 27 O (λ_ hS=>(OS U3 O O (hS.OH gW ω) O)) (af.kp)$ OM 28 O (ylt O O) (af.kp)$ TN$ OM 29 O (UG O O) (af.kp)$ qO 30$ PJ (i:=30) O O (PL (news:=[.slice a m cp,I (c:Int)]) QL O O O O (af.OH eQ) ξ) ?_;rintro w5 ⟨bI,aj⟩;refine⟨af.kp.trans aj,?_⟩;replace bI:OU w5 b8 [.slice a m cp,I (c:Int)] 252:=bI;refine OM 31 O (Rv O) (af.kp.trans aj)$ qE$ Pu.qb (e:=[(8,_),(9,_)]) ?_;refine Po func151 (.cell Y1 O QL O (OU.cells (n:=2) bI (news:=[_,_]) O) O (.tmp O .nil)) ?_;have ay:TX p m size c=true:=decide_eq_true ⟨ω,ω,ω,ω,ω⟩;rw[ay];exact⟨_,rfl,rfl,((aI.trans dP).trans af).It aj (λi e=>by omega)⟩
      ·refine R0 (λw'=>Kp (λi=>i=b8) w4 w') O$ qT 0 O (λ_ hS=>(Pv Y1 O QL O (OU.cells (n:=2) (hS.OH bM ω) (news:=[_,_]) O) O)) (af.kp)$ OM 1 O (Px Sz O) (af.kp)$ qT 2 O (λ_ hS=>(OS Pz O O (hS.OH bM ω) O)) (af.kp)$ OM 3 O (SI Pz O) (af.kp)$ OM 4 O (Y7 O O) (af.kp)$ TN$ P8 5 O O (af.kp)$ OM 6 O (Px Sz O) (af.kp)$ qT 7 O (λ_ hS=>(OS Pz O O (hS.OH bM ω) O)) (af.kp)$ OM 8 O (SI Pz O) (af.kp)$ OM 9 O (Px TF O) (af.kp)$ qT 10 O (λ_ hS=>(OS U3 O O (hS.OH gW ω) O)) (af.kp)$ OM 11 O (Z3 O O) (af.kp) ?_;refine TN$ OM 12 O (UG O O) (af.kp)$ P8 13 O O (af.kp)$ P8 14 O O (af.kp)$ OM 15 O (Y7 O O) (af.kp)$ TN$ OM 16 O (UG O O) (af.kp)$ P8 17 O O (af.kp)$ P8 18 O O (af.kp)$ OM 19 O (Px TF O) (af.kp)$ qT 20 O (λ_ hS=>(OS U3 O O (hS.OH gW ω) O)) (af.kp)$ OM 21 O (Z3 O O) (af.kp)$ TN$ OM 22 O (UG O O) (af.kp) ?_;refine P8 23 O O (af.kp)$ OM 24 O (Px z3r O) (af.kp)$ qT 25 O (λ_ hS=>(OS U3 O O (hS.OH bM ω) O)) (af.kp)$ OM 26 O (Px Z6 O) (af.kp)$ qT 27 O (λ_ hS=>(OS U3 O O (hS.OH gW ω) O)) (af.kp)$ OM 28 O (ylt O O) (af.kp)$ TC$ OM 29 O (UG O O) (af.kp)$ qO 30$ PJ (i:=30) O O (PL (news:=[.slice a m cp,I (c:Int)]) QL O O O O (af.OH eQ) ξ) ?_;rintro w5 ⟨bI,aj⟩;refine⟨af.kp.trans aj,?_⟩;replace bI:OU w5 b8 [.slice a m cp,I (c:Int)] 252:=bI;refine OM 31 O (Rv O) (af.kp.trans aj)$ qE$ Pu.qb (e:=[(8,_),(9,_)]) ?_;refine Po func151 (.cell Y1 O QL O (OU.cells (n:=2) bI (news:=[_,_]) O) O (.tmp O .nil)) ?_;have ay:TX p m size c=false:=decide_eq_false (λh=>by omega);rw[ay];exact⟨_,rfl,rfl,((aI.trans dP).trans af).It aj (λi e=>by omega)⟩
abbrev z7I:List (Value×Nat):=List.replicate 17 (.slice none 0 0,0)
def z9f (p:Qq)(hp:p.Qx)(w:World):Ps prog 111 [bpV p] w λu w'=>∃k wp F,u= .tuple #[ptr k 0,I 0]/\OU w' k (XS p z7I 0 wp 0) 257/\YC w' wp [] F/\¬F k/\Ext w w'/\w.heap.size<=k/\∀i,F i->w.heap.size<=i:=by
 refine py (e:=[(0,_)]) func111 O ntmps111 O O$ qN O$ OP O O (R6 O (cs:=Vj p) O) ?_
 rintro _ w1 ⟨b1,rfl,bK,ad,ai⟩
 have z1:=ad.size
 refine Qr O$ An$ qN O$ qV (Pv (news:=Vj p) U75 O RE O (ai.cells (n:=5) O) O)$ Pb zei O (z07 p hp w1) ?_
 rintro _ w2 ⟨rfl,ae⟩
 have z2:=ae.size
 have hg:=Ext.Pa w2
 refine R3 O$ QF O$ Qm O$ An$ R0 (λw'=>Ext w2 w') O$ qT 0 O (λ_ hS=>Pv (news:=Vj p) U75 O RE O ((hS.OH (ae.OH ai)).cells (n:=5) O) O) hg$ S1 1 O z1o O (Ur _) ?_
 rintro _ w3 ⟨wp,F,rfl,nj,ah,qx⟩
 refine⟨hg.trans ah,?_⟩
 have et:=hg.trans ah
 have z3:=et.size
 refine OM 2 O (Sh ziN O zjh O O) (hg.trans ah)$ qO 3$ Xp (i:=3) O O O (R6 O (cs:=XS p z7I 0 wp 0) O) ?_
 rintro _ w4 ⟨k,rfl,hk,aG,aM⟩
 refine⟨et.trans aG,?_⟩
 refine OM 4 O (Rv O) (et.trans aG)$ OM 5 O (Rv O) (et.trans aG)$ qE$ OI func111 O ?_
 exact⟨_,rfl,k,wp,F,rfl,aM,nj.ext aG,λe=>by have:=nj.lt e;omega,((ad.trans ae).trans et).trans aG,ω,λi hi=>by have:=qx i hi;have:=hg.size;omega⟩
structure PkM (w:World)(k:Nat)(p:Qq)(L:List (List Nat))(E:List (Nat×Nat))(bs:List Bool)(F:Nat->Prop)(R:List (Value×Nat))(wp ed:Nat):Prop where
 OH:OU w k (XS p R L.length wp ed) 257
 len:R.length=17
 wr:YC w wp bs F
 nk:¬F k
 el:E.length=L.length
 ok:∀l∈L,PG l
 ring:∀j l e,L[j]? =some l->E[j]? =some e->L.length<=j+17->∃a cp,R[j%17]? =some (.slice a l.length cp,e.2)/\l.length<=cp/\Sl w (.slice a l.length cp) 59 1 l.length (l.map PD)/\(∀g,(Value.slice a l.length cp).ownBlock=some g->¬F g/\g≠k)
def PkM.ext {w w':World}{k:Nat}{p:Qq}{L:List (List Nat)}{E:List (Nat×Nat)}{bs:List Bool}{F:Nat->Prop}{R:List (Value×Nat)}{wp ed:Nat}(h:PkM w k p L E bs F R wp ed)(hx:Ext w w'):PkM w' k p L E bs F R wp ed:=
 ⟨hx.OH h.OH,h.len,h.wr.ext hx,h.nk,h.el,h.ok,λj l e h1 h2 h3=>by
  obtain⟨a,cp,g1,g2,g3,g4⟩:=h.ring j l e h1 h2 h3
  exact⟨a,cp,g1,g2,g3.ext hx,g4⟩⟩
def Found (p:Qq)(L:List (List Nat))(E:List (Nat×Nat))(R:List (Value×Nat))(size ref:Nat)(v:Value)(c:Nat):Prop:=
 (ref=0/\v= .slice none 0 0/\c=0)\/(1<=ref/\ref<=p.Pm/\ref<=L.length/\R[(L.length-ref)%17]? =some (v,c)/\∃l e,L[L.length-ref]? =some l/\E[L.length-ref]? =some e/\c=e.2/\TX p l.length size e.2=true)
structure AdM (w:World)(k b2 b3 b7 b8 b4 b9:Nat)(a:Option Addr)(m cp n least ref:Nat)(v:Value)(c:Nat):Prop where
 c2:OU w b2 [ptr k 0] 207
 c3:OU w b3 [.slice a m cp] 62
 c7:OU w b7 [I (n:Int)] 3
 c8:OU w b8 [I (least:Int)] 3
 c4:OU w b4 [I (ref:Int)] 3
 c9:OU w b9 [v,I (c:Int)] 252
def AdM.kp {S:Nat->Prop}{w w':World}{k b2 b3 b7 b8 b4 b9:Nat}{a:Option Addr}{m cp n least ref:Nat}{v:Value}{c:Nat}(h:AdM w k b2 b3 b7 b8 b4 b9 a m cp n least ref v c)(hk:Kp S w w')(hn:∀i,S i->i≠b2/\i≠b3/\i≠b7/\i≠b8/\i≠b4/\i≠b9):AdM w' k b2 b3 b7 b8 b4 b9 a m cp n least ref v c:=
 ⟨hk.OH h.c2 (λe=>(hn _ e).1 O),hk.OH h.c3 (λe=>(hn _ e).2.1 O),hk.OH h.c7 (λe=>(hn _ e).2.2.1 O),hk.OH h.c8 (λe=>(hn _ e).2.2.2.1 O),hk.OH h.c4 (λe=>(hn _ e).2.2.2.2.1 O),hk.OH h.c9 (λe=>(hn _ e).2.2.2.2.2 O)⟩
def AdM.ext {w w':World}{k b2 b3 b7 b8 b4 b9:Nat}{a:Option Addr}{m cp n least ref:Nat}{v:Value}{c:Nat}(h:AdM w k b2 b3 b7 b8 b4 b9 a m cp n least ref v c)(hk:Ext w w'):AdM w' k b2 b3 b7 b8 b4 b9 a m cp n least ref v c:=h.kp (S:=λ_=>False) hk.kp (λi e=>e.elim)
def zcT {w:World}{k:Nat}{p:Qq}(hp:p.Qx){L:List (List Nat)}{E:List (Nat×Nat)}{bs:List Bool}{F:Nat->Prop}{R:List (Value×Nat)}{wp ed:Nat}(h:PkM w k p L E bs F R wp ed)(hG:OU w 1 (Sq .gamma) 294)(hU:OU w 2 (Sq .unary) 294)(hL:L.length<65536)
  {b2 b3 b7 b8 b4 b9:Nat} {a:Option Addr} {cp least ref:Nat} {v:Value} {c:Nat} {succ:List Nat} (hs:PG succ) (lI:succ.length<=cp) (eB:Rd w (.slice a succ.length cp) 1 succ.length (succ.map PD)) (hA:AdM w k b2 b3 b7 b8 b4 b9 a succ.length cp L.length least ref v c) (hF:Found p L E R succ.length ref v c)
  (hd:b8≠b2/\b8≠b3/\b8≠b7/\b4≠b2/\b4≠b3/\b4≠b7/\b9≠b2/\b9≠b3/\b9≠b7/\b8≠b4/\b8≠b9/\b4≠b9) (r:Nat) (h1:1<=r) (h2:r<=p.Pm):
  Ps prog 150 [I (r:Int),ptr b2 0,ptr b3 0,ptr b7 0,ptr b8 0,ptr b4 0,ptr b9 0] w λu w'=>u= .tuple #[]/\Kp (λi=>i=b8\/i=b4\/i=b9) w w'/\∃least' ref' v' c',AdM w' k b2 b3 b7 b8 b4 b9 a succ.length cp L.length least' ref' v' c'/\Found p L E R succ.length ref' v' c':=by
 have y5:p.Pm<=16:=hp.1.1
 obtain⟨a1,c1,m1,e1,y6,KT⟩:∃a1 c1 m1 e1,(r<=L.length->R[(L.length-r)%17]? =some (.slice a1 m1 c1,e1))/\(r<=L.length->∃l e,L[L.length-r]? =some l/\E[L.length-r]? =some e/\m1=l.length/\e1=e.2/\l.length<=c1/\Sl w (.slice a1 l.length c1) 59 1 l.length (l.map PD)):=by
  by_cases hr:r<=L.length
  ·obtain⟨l,hl⟩:∃l,L[L.length-r]? =some l:=⟨_,List.getElem?_eq_getElem ω⟩;obtain⟨e,he⟩:∃e,E[L.length-r]? =some e:=⟨_,List.getElem?_eq_getElem (by have:=h.el;omega)⟩;obtain⟨a1,c1,g1,g2,g3,g4⟩:=h.ring _ l e hl he ω;exact⟨a1,c1,l.length,e.2,λ_=>g1,λ_=>⟨l,e,hl,he,rfl,rfl,g2,g3⟩⟩
  ·exact⟨none,0,0,0,λe=>absurd e hr,λe=>absurd e hr⟩
 have gF:=hA.c2
 have nn:=hA.c3
 have hg:=Ext.Pa w
 have my:∀{w2:World},OU w2 k (XS p R L.length wp ed) 257->∀j u,(Vj p)[j]? =some u->w2.cell? ⟨k,0+j,none⟩=some u:=λhB j u hj=>hB.cells (i:=0) (n:=5) (news:=Vj p) O j u hj
 refine py (e:=[(0,_),(1,_),(2,_),(3,_),(4,_),(5,_),(6,_)]) func150 O ntmps150 O O$ An$ PI (λe' w'=>∃tb v1 d1 ok,e'=[(0,I (r:Int)),(1,ptr b2 0),(2,ptr b3 0),(3,ptr b7 0),(4,ptr b8 0),(5,ptr b4 0),(6,ptr b9 0),(8,ptr tb 0),(9,.bool ok)]/\Ext w w'/\w.heap.size<=tb/\OU w' tb [v1,I ((d1:Nat):Int)] 252/\(ok=true->r<=L.length/\v1= .slice a1 m1 c1/\d1=e1/\TX p m1 succ.length e1=true)) ?bH$ λbH=>?da
 case bH=>
  rintro e' w1 ⟨tb,v1,d1,ok,rfl,ad,KN,qy,ay⟩;have lC:=hA.ext ad;have uh:=lC.c2;have nF:=lC.c3;have KU:=lC.c7;have Ir:=lC.c8;refine PR O$ qV ((S5 O))$ OJ$ Qk O (λh3=>?_)$ λh3=>?_
  ·refine OI func150 O ?_;exact⟨_,rfl,rfl,ad.kp,_,_,_,_,lC,hF⟩
  ·have Dv:ok=true:=by cases ok<;>simp_all
   obtain⟨Dw,rfl,rfl,fB⟩:=ay Dv;obtain⟨l,e,hl,he,rfl,rfl,pE,KV⟩:=KT Dw;have Dx:=y6 Dw;have Dy:PG l:=h.ok l (List.mem_of_getElem? hl);have bh:=Ext.Pa w1;refine OK$ An$ R0 (λw'=>Ext w1 w') O$ qT 0 O (λ_ h=>(OS U3 O O (h.OH KU) O)) bh$ qT 1 O (λ_ h=>(OS Pz O O (h.OH nF) O)) bh$ OM 2 O (Px Sz O) bh$ qT 3 O (λ_ h=>(OS Pz O O (h.OH qy) O)) bh$ P8 4 O O (bh)$ qT 5 O (λ_ h=>(OS Wf O O (h.OH uh) O)) bh$ OM 6 O (Qd O) bh$ OM 7 O (Px Xd O) bh$ qT 8 O (λ_ hS=>Pv (news:=Vj p) U75 O RE O (my (hS.OH (ad.OH h.OH))) O) bh$ S1 9 O z14 O (T5 p _) ?_;rintro _ w9 ⟨rfl,fH⟩;refine⟨bh.trans fH,?_⟩;have js:=bh.trans fH;have gq:=ad.trans js;refine S1 10 O z4L O (Vv p.list hp.1 L.length hL succ l hs Dy r h2 (λe=>by omega) (gq.OH hG) (gq.OH hU) (eB.ext gq) (KV.rd.ext gq) lI pE) ?_;rintro _ w10 ⟨rfl,bP⟩;refine⟨js.trans bP,?_⟩;have gt:=js.trans bP;have mf:=lC.ext gt;have Dz:=mf.c8;have DA:=gt.OH qy
   generalize (Ph (Ru p.list L.length succ l r)).length=nb
   refine P8 11 O O (js.trans bP)$ OM 12 O (Ry O O) (js.trans bP)$ OM 13 O (Ry O O) (js.trans bP)$ OM 14 O (Rv O) (js.trans bP)$ OM 15 O (Rv O) (js.trans bP)$ qE$ Pu.qb (e:=[(0,_),(4,_),(5,_),(6,_),(8,_),(10,_)]) ?_;refine Pt O$ qV (OS U3 O O Dz O)$ QV O$ OJ$ OX O (λh4=>?_)$ λh4=>?_
   ·have kE:=Ext.Pa w10;have ig:=mf.ext kE;have lb8:=hA.c8.lt;have lb4:=hA.c4.lt;have lb9:=hA.c9.lt;have KW:¬(tb=b8\/tb=b4\/tb=b9):=by omega
    refine R0 (λw'=>Kp (λi=>i=b8\/i=b4\/i=b9) w10 w') O$ P8 0 O O (kE.kp)$ P8 1 O O (kE.kp)$ qT 2 O (λ_ h=>Pv Y1 O QL O (OU.cells (n:=2) (h.OH DA KW) (news:=[_,_]) O) O) (kE.kp)$ qO 3$ PJ (i:=3) O O (QP Qe O O O ig.c8 ξ) ?_;rintro w11 ⟨bc,bu⟩;refine⟨kE.kp.trans (bu.ON λi e=> .inl e),?_⟩;have se:Kp (λi=>i=b8\/i=b4\/i=b9) w10 w11:=kE.kp.trans (bu.ON λi e=> .inl e);have KX:=bu.OH ig.c4 (λe=>hd.2.2.2.2.2.2.2.2.2.1 e.symm);refine qO 4$ PJ (i:=4) O O (QP Qe O O O KX ξ) ?_;rintro w12 ⟨aW,bz⟩;refine⟨se.trans (bz.ON λi e=> .inr (.inl e)),?_⟩;have y7:Kp (λi=>i=b8\/i=b4\/i=b9) w10 w12:=se.trans (bz.ON λi e=> .inr (.inl e));have KY:=bz.OH (bu.OH ig.c9 (λe=>hd.2.2.2.2.2.2.2.2.2.2.1 e.symm)) (λe=>hd.2.2.2.2.2.2.2.2.2.2.2 e.symm);refine qO 5$ PJ (i:=5) O O (PL (news:=[.slice a1 l.length c1,I (e.2:Int)]) QL O O O O KY ξ) ?_;rintro w13 ⟨bX,dw⟩;refine⟨y7.trans (dw.ON λi e=> .inr (.inr e)),?_⟩;replace bX:OU w13 b9 [.slice a1 l.length c1,I (e.2:Int)] 252:=bX;replace aW:OU w12 b4 [I (r:Int)] 3:=aW;replace bc:OU w11 b8 [I (nb:Int)] 3:=bc;refine qE$ Qh func150 O ?_;obtain⟨d1,d2,d3,d4,d5,d6,d7,d8,d9,d10,d11,d12⟩:=hd;have na:∀{b:Nat} {cs:List Value} {T:TypeId},OU w10.drew b cs T->b8≠b->b4≠b->b9≠b->OU w13 b cs T:=λhB n1 n2 n3=>dw.OH (bz.OH (bu.OH hB (λe=>n1 e.symm)) (λe=>n2 e.symm)) (λe=>n3 e.symm);refine⟨_,rfl,rfl,?_,nb,r,.slice a1 l.length c1,e.2,⟨na ig.c2 d1 d4 d7,na ig.c3 d2 d5 d8,na ig.c7 d3 d6 d9,dw.OH (bz.OH bc d10) d11,dw.OH aW d12,bX⟩,.inr ⟨h1,h2,Dw,Dx,l,e,hl,he,rfl,fB⟩⟩;exact((ad.trans gt).trans kE).kp.trans ((bu.ON λi e=> .inl e).trans ((bz.ON λi e=> .inr (.inl e)).trans (dw.ON λi e=> .inr (.inr e))))
   ·refine OK$ Qh func150 O ?_;exact⟨_,rfl,rfl,(ad.trans gt).kp,_,_,_,_,mf,hF⟩
 case da=>
  rcases Nat.lt_or_ge L.length r with aS|kh
  ·have ao:=hg;refine Pk [15] (λw'=>Ext w w') (by kernel_rfl) O$ qL 0 O (λ_ h=>(OS Wf O O (h.OH gF) O)) ao$ Pr 1 O (Qd O) ao$ Pr 2 O (Px Ye O) ao$ PW 3 O O (ao)$ qL 4 O (λ_ h=>(OS Pz O O (h.OH nn) O)) ao$ Pr 5 O (SI Pz O) ao$ qL 6 O (λ_ h=>(OS Wf O O (h.OH gF) O)) ao$ Pr 7 O (Qd O) ao$ Pr 8 O (Px Xd O) ao$ qL 9 O (λ_ hS=>Pv (news:=Vj p) U75 O RE O (my (hS.OH h.OH)) O) ao$ Xn (i:=10) (j:=14) (by kernel_rfl) ?_ ?_
   ·refine S0 (i:=10) O O O (yc z8i O) (WI (ao.OH h.OH) h.len ω hp r succ.length h1 h2 y6) ?_;rintro _ w10 ⟨kw,bP⟩;refine⟨ao.trans bP,?_⟩;rw[if_neg ω] at kw;subst kw
    try have cV:=bP.OH cV
    have ao:=ao.trans bP;refine PW 11 O O ao$ Pr 12 O (Ry O O) ao$ Ql (i:=13) O (by kernel_rfl) O O (λ_=>Ry O O) ao$ Rf (i:=14) (by kernel_rfl)$ Qv (i:=14) O O O (Rz (cs:=[_,_]) QL O) ?_;rintro _ w14 ⟨tb,rfl,o6,eR,cV⟩;refine⟨ao.trans eR,?_⟩;have kF:w.heap.size<=tb:=by have:=ao.size;omega
    have ao:=ao.trans eR;refine Ty [15]$ qO 15$ PJ (i:=15) O O (PL (news:=[.slice none 0 0,I ((0:Nat):Int)]) QL O O O O cV ξ) ?_;rintro w15 ⟨eS,kG⟩;refine⟨trivial,?_⟩;refine OM 16 O (Rv O) trivial$ qE ?_;exact(bH _ _ ⟨tb,.slice none 0 0,0,false,rfl,ao.It kG (λi e=>by omega),kF,eS,λe=>by cases e⟩).qb
   ·refine Qv (i:=14) O O O (Rz (cs:=[_,_]) QL O) ?_;rintro _ w14 ⟨tb,rfl,o6,eR,cV⟩;refine⟨ao.trans eR,?_⟩;have kF:w.heap.size<=tb:=by have:=ao.size;omega
    have ao:=ao.trans eR;refine Rf (i:=10) (by kernel_rfl)$ S0 (i:=10) O O O (yc z8i O) (WI (ao.OH h.OH) h.len ω hp r succ.length h1 h2 y6) ?_;rintro _ w10 ⟨kw,bP⟩;refine⟨ao.trans bP,?_⟩;rw[if_neg ω] at kw;subst kw
    try have cV:=bP.OH cV
    have ao:=ao.trans bP;refine PW 11 O O ao$ Pr 12 O (Ry O O) ao$ Ql (i:=13) O (by kernel_rfl) O O (λ_=>Ry O O) ao$ Ty [15]$ qO 15$ PJ (i:=15) O O (PL (news:=[.slice none 0 0,I ((0:Nat):Int)]) QL O O O O cV ξ) ?_;rintro w15 ⟨eS,kG⟩;refine⟨trivial,?_⟩;refine OM 16 O (Rv O) trivial$ qE ?_;exact(bH _ _ ⟨tb,.slice none 0 0,0,false,rfl,ao.It kG (λi e=>by omega),kF,eS,λe=>by cases e⟩).qb
  ·have ao:=hg;refine Pk [15] (λw'=>Ext w w') (by kernel_rfl) O$ qL 0 O (λ_ h=>(OS Wf O O (h.OH gF) O)) ao$ Pr 1 O (Qd O) ao$ Pr 2 O (Px Ye O) ao$ PW 3 O O (ao)$ qL 4 O (λ_ h=>(OS Pz O O (h.OH nn) O)) ao$ Pr 5 O (SI Pz O) ao$ qL 6 O (λ_ h=>(OS Wf O O (h.OH gF) O)) ao$ Pr 7 O (Qd O) ao$ Pr 8 O (Px Xd O) ao$ qL 9 O (λ_ hS=>Pv (news:=Vj p) U75 O RE O (my (hS.OH h.OH)) O) ao$ Xn (i:=10) (j:=14) (by kernel_rfl) ?_ ?_
   ·refine S0 (i:=10) O O O (yc z8i O) (WI (ao.OH h.OH) h.len ω hp r succ.length h1 h2 y6) ?_;rintro _ w10 ⟨kw,bP⟩;refine⟨ao.trans bP,?_⟩;rw[if_pos kh] at kw;subst kw
    try have cV:=bP.OH cV
    have ao:=ao.trans bP;refine PW 11 O O ao$ Pr 12 O (Ry O O) ao$ Ql (i:=13) O (by kernel_rfl) O O (λ_=>Ry O O) ao$ Rf (i:=14) (by kernel_rfl)$ Qv (i:=14) O O O (Rz (cs:=[_,_]) QL O) ?_;rintro _ w14 ⟨tb,rfl,o6,eR,cV⟩;refine⟨ao.trans eR,?_⟩;have kF:w.heap.size<=tb:=by have:=ao.size;omega
    have ao:=ao.trans eR;refine Ty [15]$ qO 15$ PJ (i:=15) O O (PL (news:=[.slice a1 m1 c1,I ((e1:Nat):Int)]) QL O O O O cV ξ) ?_;rintro w15 ⟨eS,kG⟩;refine⟨trivial,?_⟩;refine OM 16 O (Rv O) trivial$ qE ?_;exact(bH _ _ ⟨tb,.slice a1 m1 c1,e1,TX p m1 succ.length e1,rfl,ao.It kG (λi e=>by omega),kF,eS,λe=>⟨kh,rfl,rfl,e⟩⟩).qb
   ·refine Qv (i:=14) O O O (Rz (cs:=[_,_]) QL O) ?_;rintro _ w14 ⟨tb,rfl,o6,eR,cV⟩;refine⟨ao.trans eR,?_⟩;have kF:w.heap.size<=tb:=by have:=ao.size;omega
    have ao:=ao.trans eR;refine Rf (i:=10) (by kernel_rfl)$ S0 (i:=10) O O O (yc z8i O) (WI (ao.OH h.OH) h.len ω hp r succ.length h1 h2 y6) ?_;rintro _ w10 ⟨kw,bP⟩;refine⟨ao.trans bP,?_⟩;rw[if_pos kh] at kw;subst kw
    try have cV:=bP.OH cV
    have ao:=ao.trans bP;refine PW 11 O O ao$ Pr 12 O (Ry O O) ao$ Ql (i:=13) O (by kernel_rfl) O O (λ_=>Ry O O) ao$ Ty [15]$ qO 15$ PJ (i:=15) O O (PL (news:=[.slice a1 m1 c1,I ((e1:Nat):Int)]) QL O O O O cV ξ) ?_;rintro w15 ⟨eS,kG⟩;refine⟨trivial,?_⟩;refine OM 16 O (Rv O) trivial$ qE ?_;exact(bH _ _ ⟨tb,.slice a1 m1 c1,e1,TX p m1 succ.length e1,rfl,ao.It kG (λi e=>by omega),kF,eS,λe=>⟨kh,rfl,rfl,e⟩⟩).qb
def QC (L:List (List Nat))(n r:Nat):List Nat:=if r=0 then [] else(L[n-r]?).getD []
def ZP (p:Qq)(L:List (List Nat))(E:List (Nat×Nat))(n size:Nat)(e:Nat×Nat):Prop:=
 e=(0,0)\/(1<=e.1/\e.1<=p.Pm/\e.1<=n/\∃l e',L[n-e.1]? =some l/\E[n-e.1]? =some e'/\e.2=e'.2+1/\TX p l.length size e'.2=true)
theorem zeO {j n:Nat}(h1:j<n)(h2:n+1<=j+17):j%17≠n%17:=by omega
theorem PkM.add {w wA wB wC wD wE wF:World}{k:Nat}{p:Qq}{L:List (List Nat)}{E:List (Nat×Nat)}{bs bs':List Bool}{F F':Nat->Prop}{R:List (Value×Nat)}{wp ed b4:Nat}(h:PkM w k p L E bs F R wp ed)(lK:Ext w wA)(jk:Kp F wA wB)(Bp:YC wB wp bs' F')(qz:∀i,F' i->F i\/wA.heap.size<=i)
  {a':Option Addr} {cp' ch r:Nat} {succ:List Nat} (hs:PG succ) (DB:Ext wB wC) (wk:Sl wC (.slice a' succ.length cp') 59 1 succ.length (succ.map PD)) (ui:succ.length<=cp') (cB:∀g,(Value.slice a' succ.length cp').ownBlock=some g->wB.heap.size<=g)
  (fK:Kp (λi=>i=k) wC wD) (pC:Kp (λi=>i=k) wD wE) (uj:Kp (λi=>i=b4) wE wF) (fX:w.heap.size<=b4) (KZ:b4<wA.heap.size) (DC:OU wF k (XS p (R.set (L.length%17) (.slice a' succ.length cp',ch)) (L.length+1) wp (ed+succ.length)) 257):
  PkM wF k p (L++[succ]) (E++[(r,ch)]) bs' F' (R.set (L.length%17) (.slice a' succ.length cp',ch)) wp (ed+succ.length)/\Kp (λi=>F i\/i=k) w wF/\∀i,F' i->F i\/w.heap.size<=i:=by
 have lk:=h.OH.lt
 have zA:=lK.size
 have zB:=jk.size
 have ki:∀i,F i->i<w.heap.size:=λi hi=>h.wr.lt hi
 have oa:∀i,F' i->i<wB.heap.size:=λi hi=>Bp.lt hi
 have uk:¬F' k:=λe=>by rcases qz k e with e|e;exact h.nk e;omega
 have DD:¬F' b4:=λe=>by rcases qz b4 e with e|e;(have:=ki _ e;omega);omega
 have DE:∀{v:Value} {n:Nat} {cs:List Value},Sl w v 59 1 n cs->(∀g,v.ownBlock=some g->¬F g/\g≠k)->Sl wF v 59 1 n cs:=λhS hg=>
  ((((((hS.ext lK).kp jk (λg e=>(hg g e).1)).ext DB).kp fK (λg e=>(hg g e).2)).kp pC (λg e=>(hg g e).2)).kp uj (λg e e'=>by have:=hS.lt e;omega))
 have L0:=((wk.kp fK (λg e e'=>by have:=cB g e;omega)).kp pC (λg e e'=>by have:=cB g e;omega)).kp uj (λg e e'=>by have:=cB g e;omega)
 refine⟨⟨by rw[List.length_append,List.length_singleton];exact DC,by rw[List.length_set];exact h.len,(((Bp.ext DB).kp fK (λi hi e=>uk (e▸hi))).kp pC (λi hi e=>uk (e▸hi))).kp uj (λi hi e=>DD (e▸hi)),uk,by rw[List.length_append,List.length_append,h.el];rfl,λl hl=>?_,λj l e h1 h2 h3=>?_⟩,?_,λi hi=>?_⟩
 ·rcases List.mem_append.1 hl with hl|hl
  ·exact h.ok l hl
  ·rw[List.mem_singleton.1 hl];exact hs
 ·rw[List.length_append,List.length_singleton] at h3;rcases Nat.lt_or_ge j L.length with hj|hj
  ·rw[List.getElem?_append_left hj] at h1;rw[List.getElem?_append_left (by rw[h.el];exact hj)] at h2;obtain⟨a,cp,g1,g2,g3,g4⟩:=h.ring j l e h1 h2 ω;refine⟨a,cp,?_,g2,DE g3 g4,λg hg=>⟨λe'=>?_,(g4 g hg).2⟩⟩
   ·rw[List.getElem?_set_ne (λe'=>zeO hj ω e'.symm)];exact g1
   ·rcases qz g e' with e'|e'
    ·exact(g4 g hg).1 e'
    ·have:=g3.lt hg;omega
  ·have DF:=(List.getElem?_eq_some_iff.1 h1).1;rw[List.length_append,List.length_singleton] at DF;have ej:j=L.length:=by omega
   subst ej;rw[List.getElem?_append_right (Nat.le_refl _),Nat.sub_self,List.getElem?_cons_zero] at h1;rw[List.getElem?_append_right (by rw[h.el];exact Nat.le_refl _),h.el,Nat.sub_self,List.getElem?_cons_zero] at h2;cases h1;cases h2;refine⟨a',cp',List.getElem?_set_self (by rw[h.len];exact Nat.mod_lt _ ψ),ui,L0,λg hg=>⟨λe'=>?_,λe'=>?_⟩⟩
   ·have:=cB g hg;have:=oa g e';omega
   ·have:=cB g hg;omega
 ·exact((((lK.kp.trans (jk.ON λi e=> .inl e)).trans DB.kp).trans (fK.ON λi e=> .inr e)).trans (pC.ON λi e=> .inr e)).It uj (λi e=> .inl ω)
 ·rcases qz i hi with e| e
  ·exact .inl e
  ·exact .inr ω
def z95 {w:World}{k:Nat}{p:Qq}(hp:p.Qx){L:List (List Nat)}{E:List (Nat×Nat)}{bs:List Bool}{F:Nat->Prop}{R:List (Value×Nat)}{wp ed:Nat}(h:PkM w k p L E bs F R wp ed)(hG:OU w 1 (Sq .gamma) 294)(hU:OU w 2 (Sq .unary) 294)(hL:L.length<65536)
  {a:Option Addr} {cp:Nat} {succ:List Nat} (hs:PG succ) (lI:succ.length<=cp) (eB:Rd w (.slice a succ.length cp) 1 succ.length (succ.map PD)) (Bq:ed+succ.length<=1048576) (L3:∀g,0<succ.length->(Value.slice a succ.length cp).ownBlock=some g->¬F g/\g≠k)
  (ob:∀r,r<=p.Pm->bs.length+(Ph (Ru p.list L.length succ (QC L L.length r) r)).length<=134217728):
  Ps prog 113 [ptr k 0,.slice a succ.length cp] w λu w'=>∃(r least ch:Nat) (F':Nat->Prop) (R':List (Value×Nat)),u= .tuple #[I (r:Int),I (least:Int),I 0]/\ZP p L E L.length succ.length (r,ch)/\
   PkM w' k p (L++[succ]) (E++[(r,ch)]) (bs++Ph (Ru p.list L.length succ (QC L L.length r) r)) F' R' wp (ed+succ.length)/\Kp (λi=>F i\/i=k) w w'/\∀i,F' i->F i\/w.heap.size<=i:=by
 have y5:p.Pm<=16:=hp.1.1
 have lk:=h.OH.lt
 have my:∀{w2:World},OU w2 k (XS p R L.length wp ed) 257->∀j u,(Vj p)[j]? =some u->w2.cell? ⟨k,0+j,none⟩=some u:=λhB j u hj=>hB.cells (i:=0) (n:=5) (news:=Vj p) O j u hj
 refine py (e:=[(0,_),(1,_)]) func113 O ntmps113 O O$ qN O$ OP O O (R6 O (cs:=[ptr k 0]) O) ?_
 rintro _ w1 ⟨b2,rfl,bN,ad,ak⟩
 refine OP O O (R6 O (cs:=[.slice a succ.length cp]) O) ?_
 rintro _ w2 ⟨b3,rfl,dI,ae,au⟩
 refine OP O O (Rz (cs:=[_]) Qe O) ?_
 rintro _ w3 ⟨b4,rfl,fX,ah,aM⟩
 have z1:=ad.size
 have z2:=ae.size
 have z3:=ah.size
 have lb2:=ak.lt
 have lb3:=au.lt
 have lb4:=aM.lt
 have cj:=(ad.trans ae).trans ah
 have bE:=ah.OH (ae.OH ak)
 have eI:=ah.OH au
 have o9:=cj.OH h.OH
 replace aM:OU w3 b4 [I ((0:Nat):Int)] 3:=aM
 refine Qr O$ QO$ qN O$ qV ((OS Wf O O bE O))$ qV (Qb Wf O O)$ P3 O$ OR O$ qN O$ qV ((OS Wf O O bE O))$ Pw O$ P4 Ye O$ P4 UW O$ qV (OS U3 O O o9 (z5I h.len))$ Uh O ?_
 refine PO$ P3 O$ SO O$ OG$ qN O$ qV ((OS Wf O O bE O))$ Pw O$ P4 Ye O$ P4 UW O$ qV (OS U3 O O o9 (z5I h.len))$ OP O O (Rz (cs:=[_]) Qe O) ?_
 rintro _ w4 ⟨b7,rfl,m7,aG,bR⟩
 have z4:=aG.size
 have lb7:=bR.lt
 refine OY O (QP Qe O O O bR ξ) ?_
 rintro w5 ⟨mt,aj⟩
 replace mt:OU w5 b7 [I (L.length:Int)] 3:=mt
 have cw:Ext w3 w5:=aG.It aj (λi e=>by omega)
 have bS:=cj.trans cw
 have z5:=cw.size
 have z45:=aj.size
 have y8:=bS.OH h.OH
 have dE:=cw.OH bE
 have cU:=cw.OH eI
 have aO:=cw.OH aM
 have eh:=Ext.Pa w5
 refine OJ$ An$ PI (λe' w'=>∃b8 least,e'=[(2,ptr b2 0),(3,ptr b3 0),(4,ptr b4 0),(7,ptr b7 0),(8,ptr b8 0),(6,I 0)]/\Ext w5 w'/\w5.heap.size<=b8/\OU w' b8 [I ((least:Nat):Int)] 3) ?bH$ λbH=>?da
 case bH =>
  rintro e' w6 ⟨b8,least0,rfl,aR,j3,cu⟩;have z6:=aR.size;have lb8:=cu.lt;have iG:=bS.trans aR;have DG:=aR.OH y8;have gO:=aR.OH dE;have jj:=aR.OH cU;have dL:=Ext.Pa w6;refine QO$ Pt O$ QF O$ P3 O$ OR O$ An$ R0 (λw'=>Ext w6 w') O$ qT 0 O (λ_ h=>(OS Wf O O (h.OH gO) O)) dL$ OM 1 O (Qd O) dL$ OM 2 O (Px z3o O) dL$ qT 4 O (λ_ h=>(OS Pz O O (h.OH jj) O)) dL$ OM 5 O (SI Pz O) dL$ qT 3 O (λ_ hS=>OS U3 O O (hS.OH DG) (zhu h.len)) dL$ OM 6 O (UN O O ω) dL ?_;refine OM 7 O (Y7 O O) dL$ TC$ OM 8 O (Rv O) dL$ qE$ SO O$ OG$ qN O ?_;have zg6:=dL.size;refine OP O O (Rz (cs:=[_,_]) QL O) ?_;rintro _ w7 ⟨b9,rfl,ir,cm,cK⟩;have lb9:=cK.lt;have eT:=dL.trans cm;have kk:=iG.trans eT;have gX:=aR.trans eT;have z7:=kk.size;have z67:=eT.size;have DH:=kk.OH h.OH;have Bh:AdM w7 k b2 b3 b7 b8 b4 b9 a succ.length cp L.length least0 0 (.slice none 0 0) 0:=⟨eT.OH gO,eT.OH jj,gX.OH mt,eT.OH cu,gX.OH aO,cK⟩;have hd:b8≠b2/\b8≠b3/\b8≠b7/\b4≠b2/\b4≠b3/\b4≠b7/\b9≠b2/\b9≠b3/\b9≠b7/\b8≠b4/\b8≠b9/\b4≠b9:=by omega
  refine qM O$ qV (ZR (first:=[]) (caps:=[.tmp 2,.tmp 3,.tmp 7,.tmp 8,.tmp 4,.tmp 9]) O O)$ P3 O$ An$ qN O ?_;have DI:=Bh.c2;refine qV (OS Wf O O DI O)$ Pw O$ P4 Xd O$ P4 z1r O$ qV (OS U3 O O DH O)$ OT O$ OJ$ Pu.qb (e:=[(2,_),(3,_),(4,_),(6,_),(7,_),(8,_),(9,_),(10,_),(58,_),(59,_)]) ?_;refine OL$ RN (α:=Nat) (0) (λi=>[(2,ptr b2 0),(3,ptr b3 0),(4,ptr b4 0),(7,ptr b7 0),(8,ptr b8 0),(9,ptr b9 0),(10,.func (.func 150) #[] #[ptr b2 0,ptr b3 0,ptr b7 0,ptr b8 0,ptr b4 0,ptr b9 0]),(58,I (p.Pm:Int)),(59,I (i:Int))]) (λi w'=>Ext w w'/\w7.heap.size<=w'.heap.size/\i<=p.Pm/\∃least ref v c,AdM w' k b2 b3 b7 b8 b4 b9 a succ.length cp L.length least ref v c/\Found p L E R succ.length ref v c) (λi=>p.Pm-i) ?hI ?hround
  case hI=>exact⟨kk,Nat.le_refl _,Nat.zero_le _,_,_,_,_,Bh,.inl ⟨rfl,rfl,rfl⟩⟩
  case hround=>
   rintro i wA ⟨lK,NS,hi,least,ref,v,c,hA,hF⟩ ih
   try dsimp only
   refine qN O$ QV O$ OJ$ An$ OX O (λh0=>?_)$ λh0=>?_
   ·refine OK$ QO$ Pt O$ P3 O$ OQ O$ Pl O$ Q4 O ?_;rw[show(i:Int)+1=((i+1:Nat):Int) by omega];refine Qw O O (RW ziE O O) (zcT hp (h.ext lK) (lK.OH hG) (lK.OH hU) hL hs lI (eB.ext lK) hA hF hd (i+1) ω ω) ?_;rintro _ w9 ⟨rfl,aw,least',ref',v',c',rU,L4⟩;have z9:=aw.size;refine OJ$ OG$ OQ O$ Q4 O$ OT O$ OJ ?_;exact(ih (i+1) _ ⟨lK.It aw (λi hi=>by omega),ω,ω,_,_,_,_,rU,L4⟩ ω).qb
   ·have j8:∀b,w.heap.size<=b->¬F b:=λb hb e=>by have:=h.wr.lt e;omega
    have ul:=lK.OH h.OH
    have xj:ref<=p.Pm/\(ref=0->QC L L.length ref=[])/\PG (QC L L.length ref)/\(∃va vc,v= .slice va (QC L L.length ref).length vc/\(QC L L.length ref).length<=vc/\Rd wA (.slice va (QC L L.length ref).length vc) 1 (QC L L.length ref).length ((QC L L.length ref).map PD))/\ZP p L E L.length succ.length (ref,if 0<ref then c+1 else 0)/\c<=65536:=by
     rcases hF with⟨rfl,rfl,rfl⟩|⟨f1,f2,f3,f4,l,e,f5,f6,rfl,f8⟩
     ·refine⟨Nat.zero_le _,λ_=>rfl,⟨List.Pairwise.nil,λy h=>(by cases h)⟩,⟨none,0,rfl,Nat.zero_le _,Vs⟩,.inl rfl,Nat.zero_le _⟩
     ·have j9:QC L L.length ref=l:=by unfold QC;rw[if_neg ω,f5];rfl
      obtain⟨va,vc,g1,g2,g3,g4⟩:=h.ring _ l e f5 f6 ω;rw[f4] at g1;have gv:v= .slice va l.length vc:=(Prod.mk.inj (RB g1)).1;have hb:=of_decide_eq_true f8;have L5:=hp.2.1;rw[j9];exact⟨f2,λe=>by omega,h.ok l (List.mem_of_getElem? f5),⟨va,vc,gv,g2,(g3.ext lK).rd⟩,.inr ⟨f1,f2,f3,l,e,f5,f6,by dsimp only;rw[if_pos ω],f8⟩,ω⟩
    obtain⟨dh,dm,ci,⟨va,vc,rfl,bF,bO⟩,gY,L6⟩:=xj;have Br:=ob ref dh
    generalize DJ:QC L L.length ref=lr at dm ci bF bO Br hA
    have qc:=hA.c2;have vY:=hA.c3;have DK:=hA.c7;have y9:=hA.c9;have ya:=hA.c4;have DL:=hA.c8;have kH:=Ext.Pa wA;refine OV O$ An$ An$ R0 (λw'=>Kp F wA w') O$ qT 0 O (λ_ hS=>(OS Wf O O (hS.OH qc (j8 _ ω)) O)) (kH.kp)$ OM 1 O (Qd O) (kH.kp)$ OM 2 O (Px z3B O) (kH.kp)$ qT 4 O (λ_ hS=>(OS U3 O O (hS.OH DK (j8 _ ω)) O)) (kH.kp)$ qT 5 O (λ_ hS=>(OS Pz O O (hS.OH vY (j8 _ ω)) O)) (kH.kp)$ OM 6 O (Px Sz O) (kH.kp)$ qT 7 O (λ_ hS=>(OS Pz O O (hS.OH y9 (j8 _ ω)) O)) (kH.kp)$ qT 8 O (λ_ hS=>(OS U3 O O (hS.OH ya (j8 _ ω)) O)) (kH.kp)$ qT 9 O (λ_ hS=>(OS Wf O O (hS.OH qc (j8 _ ω)) O)) (kH.kp)$ OM 10 O (Qd O) (kH.kp) ?_;refine OM 11 O (Px Xd O) (kH.kp)$ qT 3 O (λ_ hS=>OS z3s O O (hS.OH ul h.nk) (zeP h.len)) (kH.kp)$ qT 12 O (λ_ hS=>Pv (news:=Vj p) U75 O RE O (my (hS.OH ul h.nk)) O) (kH.kp)$ S1 13 O z14 O (T5 p _) ?_;rintro _ w9 ⟨rfl,fH⟩;refine⟨(kH.trans fH).kp,?_⟩;have mz:=kH.trans fH;have gq:=lK.trans mz;refine S1 14 O zds O (z0a (h.wr.ext gq) p.list hp.1 L.length hL succ lr hs ci ref dh dm (gq.OH hG) (gq.OH hU) (eB.ext gq) (bO.ext mz) lI bF Br) ?_;rintro _ wB ⟨rfl,F',Bp,jk,qz⟩;refine⟨mz.kp.trans jk,?_⟩;have iH:Kp F wA wB:=mz.kp.trans jk;have DM:∀i,F' i->F i\/wA.heap.size<=i:=λi hi=>(qz i hi).imp id (λe=>by have:=mz.size;omega);have yb:=iH.OH ya (j8 _ ω);have DN:=iH.OH y9 (j8 _ ω);have yd:=iH.OH qc (j8 _ ω);have ye:=iH.OH vY (j8 _ ω);have DO:=iH.OH DL (j8 _ ω);have DP:=iH.OH ul h.nk;have QW:=iH.size;have DQ:Rd wB (.slice a succ.length cp) 1 succ.length (succ.map PD):=(eB.ext lK).kpz iH (λh0 g hg=>(L3 g h0 hg).1);refine OM 15 O (Rv O) (mz.kp.trans jk)$ qE$ Pu.qb (e:=[(2,_),(3,_),(4,_),(8,_),(9,_),(12,_)]) ?_;refine Pt O$ QF O$ Qm O$ QN O$ An$ qN O$ qV ((OS U3 O O yb O))$ QD O$ OJ$ PI (λe' w'=>e'=[(2,ptr b2 0),(3,ptr b3 0),(4,ptr b4 0),(8,ptr b8 0),(13,I ((if 0<ref then c+1 else 0:Nat):Int))]/\w'=wB) ?ao$ λao=>?en
    case ao=>
     rintro e' wB' ⟨rfl,rfl⟩
     generalize (if 0<ref then c+1 else 0)=ch at gY
     have qA:=Ext.Pa wB';have DR:∀i,i<wB'.heap.size->¬(Value.slice none 0 0).ownBlock=some i:=λi _ e=>by cases e
     refine An$ R0 (λw'=>Kp (λi=>i=k) wB' w') O$ qT 0 O (λ_ hS=>(OS Wf O O (hS.OH yd ω) O)) (qA.kp)$ OM 1 O (Qd O) (qA.kp)$ OM 2 O (Px Ye O) (qA.kp)$ qT 3 O (λ_ hS=>(OS Pz O O (hS.OH ye ω) O)) (qA.kp)$ P8 5 O O (qA.kp)$ qO 4$ Xp (i:=4) O O O (pap Pz Pc O ψ O O (Sl.nil _ _ _) (DQ.ext qA) (z3j _) ω (by simp only[maxLen];omega)) ?_;rintro v' wC ⟨wk,jP,L7,-⟩;refine⟨qA.kp.trans (jP.ON λi e=>by cases e),?_⟩;have kI:Ext wB' wC:=qA.trans ((Ext.refl _).It jP (λi e=>by cases e));rw[Nat.zero_add,List.nil_append] at wk;obtain⟨a',cp',rfl,-⟩:=wk.rd.shape
     have ui:succ.length<=cp':=by
      rcases wk.shape with⟨e,h0⟩|⟨g,c1,hv,ib⟩
      ·omega
      ·cases hv;exact ib
     have yf:∀g,(Value.slice a' succ.length cp').ownBlock=some g->wB'.heap.size<=g:=λg hg=>by
      rcases L7 g hg with e| e
      ·cases e
      ·have:=qA.size;omega
     have DS:=kI.OH DP;refine S1 6 O zid O (za7 DS h.len ω a' succ.length cp' ch) ?_;rintro _ wD ⟨rfl,Is,fK⟩;refine⟨kI.kp.trans fK,?_⟩;have dg:(R.set (L.length%17) (.slice a' succ.length cp',ch)).length=17:=by rw[List.length_set];exact h.len
     have DT:=fK.OH (kI.OH yd) ω;have DU:=fK.OH (kI.OH ye) ω;have DV:=fK.OH (kI.OH yb) ω;have DW:=fK.OH (kI.OH DO) ω;have oc:=Ext.Pa wD;refine qE$ An$ Pk [9] (λw'=>Ext wD w') (by kernel_rfl) O$ qL 0 O (λ_ h=>(OS Wf O O (h.OH DT) O)) oc$ Pr 1 O (Qd O) oc$ Pr 2 O (Px z3o O) oc$ qL 4 O (λ_ h=>(OS Pz O O (h.OH DU) O)) oc$ Pr 5 O (SI Pz O) oc$ qL 3 O (λ_ h=>OS U3 O O (h.OH Is) (zhu dg)) oc$ Pr 6 O (UN O O ω) oc$ Pr 7 O (Qd O) oc$ Pr 8 O (Px z3o O) oc$ Ty [9]$ qO 9 ?_;refine PJ (i:=9) O O (QP Qe O O O (oc.OH Is) (by rw[z5C dg];decide)) ?_;rintro wE ⟨Bs,DX⟩;refine⟨trivial,?_⟩;replace Bs:OU wE k ((XS p (R.set (L.length%17) (.slice a' succ.length cp',ch)) (L.length+1) wp ed).set 41 (I ((ed+succ.length:Nat):Int))) 257:=Bs;rw[zcg dg] at Bs;have pC:Kp (λi=>i=k) wD wE:=oc.kp.trans DX;have um:=pC.OH DV ω;have DY:=pC.OH DW ω;have qB:=Ext.Pa wE;refine qE$ An$ R0 (λw'=>Kp (λi=>i=b4) wE w'/\OU w' b4 [I (ref:Int)] 3) O$ qT 0 O (λ_ h=>(OS U3 O O h.2 O)) (⟨qB.kp,qB.OH um⟩)$ qT 1 O (λ_ hS=>(OS U3 O O (hS.1.OH DY ω) O)) (⟨qB.kp,qB.OH um⟩)$ qO 2$ PJ (i:=2) O O (QP Qe O O O (qB.OH um) ξ) ?_;rintro wF ⟨mA,qC⟩;refine⟨⟨qB.kp.trans qC,mA⟩,?_⟩;replace mA:OU wF b4 [I (ref:Int)] 3:=mA;have uj:Kp (λi=>i=b4) wE wF:=qB.kp.trans qC;have DC:=uj.OH Bs ω;refine OM 3 O (Rv O) (⟨qB.kp.trans qC,mA⟩)$ OM 4 O (Rv O) (⟨qB.kp.trans qC,mA⟩)$ qE$ Pu.qb (e:=[(4,_),(5,_),(6,_)]) ?_;refine Po func113 (.cell1 U3 O O ((mA).cell _) (.tmp O (.tmp O .nil))) ?_;obtain⟨q1,q2,q3⟩:=h.add (r:=ref) lK iH Bp DM hs kI wk ui yf fK pC uj ω ω DC;exact⟨_,rfl,ref,least,ch,F',_,rfl,gY,by rw[DJ];exact q1,q2,q3⟩
    case en=>
     refine OX O (λh5=>?_)$ λh5=>?_
     ·refine OQ O$ P4 z3r O$ qV (OS U3 O O DN O)$ Q4 O$ P3 O ?_;rw[show(c:Int)+1=((if 0<ref then c+1 else 0:Nat):Int) by rw[if_pos ω];omega];exact(ao _ _ ⟨rfl,rfl⟩).qb
     ·refine OK ?_;have jq:(if 0<ref then c+1 else 0)=0:=if_neg ω;exact(ao _ _ ⟨by rw[jq],rfl⟩).qb
 case da=>
  have ao:=eh;refine Pk [12] (λw'=>Ext w5 w') (by kernel_rfl) O$ qL 0 O (λ_ h=>(OS U3 O O (h.OH mt) O)) ao$ qL 1 O (λ_ h=>(OS Pz O O (h.OH cU) O)) ao$ qL 2 O (λ_ h=>(OS Wf O O (h.OH dE) O)) ao$ Pr 3 O (Qd O) ao$ Pr 4 O (Px Xd O) ao$ qL 5 O (λ_ h=>Pv (news:=Vj p) U75 O RE O (my (h.OH y8)) O) ao$ Xn (i:=6) (j:=11) (by kernel_rfl) ?_ ?_
  ·refine S0 (i:=6) O O O (yc z14 O) (T5 p _) ?_;rintro _ w6 ⟨rfl,aR⟩;refine⟨ao.trans aR,?_⟩
   try have bc:=aR.OH bc
   have ao:=ao.trans aR;refine Xn (i:=7) (j:=11) (by kernel_rfl) ?_ ?_
   ·refine S0 (i:=7) O O O (yc z4L O) (Vv p.list hp.1 L.length hL succ [] hs ⟨List.Pairwise.nil,λy h=>(by cases h)⟩ 0 (Nat.zero_le _) (λ_=>rfl) ((bS.trans ao).OH hG) ((bS.trans ao).OH hU) (eB.ext (bS.trans ao)) Vs lI (Nat.zero_le _)) ?_;rintro _ w7 ⟨rfl,cm⟩;refine⟨ao.trans cm,?_⟩
    try have bc:=cm.OH bc
    have ao:=ao.trans cm;refine PW 8 O O ao$ Pr 9 O (Ry O O) ao$ Ql (i:=10) O (by kernel_rfl) O O (λ_=>Ry O O) ao$ Rf (i:=11) (by kernel_rfl)$ Qv (i:=11) O O O (Rz (cs:=[_]) Qe O) ?_;rintro _ w11 ⟨b8,rfl,ji,aT,bc⟩;refine⟨ao.trans aT,?_⟩;have od:w5.heap.size<=b8:=by have:=ao.size;omega
    have ao:=ao.trans aT;refine Ty [12]$ qO 12$ PJ (i:=12) O O (QP Qe O O O bc ξ) ?_;rintro w12 ⟨aW,bz⟩;refine⟨trivial,?_⟩;refine OM 13 O (Rv O) trivial$ qE$ Pu.qb (e:=[(2,_),(3,_),(4,_),(5,_),(6,_),(7,_),(8,_)]) ?_;exact(bH _ _ ⟨b8,_,rfl,ao.It bz (λi e=>by omega),od,aW⟩).qb
   ·refine Qv (i:=11) O O O (Rz (cs:=[_]) Qe O) ?_;rintro _ w11 ⟨b8,rfl,ji,aT,bc⟩;refine⟨ao.trans aT,?_⟩;have od:w5.heap.size<=b8:=by have:=ao.size;omega
    have ao:=ao.trans aT;refine Rf (i:=7) (by kernel_rfl)$ S0 (i:=7) O O O (yc z4L O) (Vv p.list hp.1 L.length hL succ [] hs ⟨List.Pairwise.nil,λy h=>(by cases h)⟩ 0 (Nat.zero_le _) (λ_=>rfl) ((bS.trans ao).OH hG) ((bS.trans ao).OH hU) (eB.ext (bS.trans ao)) Vs lI (Nat.zero_le _)) ?_;rintro _ w7 ⟨rfl,cm⟩;refine⟨ao.trans cm,?_⟩
    try have bc:=cm.OH bc
    have ao:=ao.trans cm;refine PW 8 O O ao$ Pr 9 O (Ry O O) ao$ Ql (i:=10) O (by kernel_rfl) O O (λ_=>Ry O O) ao$ Ty [12]$ qO 12$ PJ (i:=12) O O (QP Qe O O O bc ξ) ?_;rintro w12 ⟨aW,bz⟩;refine⟨trivial,?_⟩;refine OM 13 O (Rv O) trivial$ qE$ Pu.qb (e:=[(2,_),(3,_),(4,_),(5,_),(6,_),(7,_),(8,_)]) ?_;exact(bH _ _ ⟨b8,_,rfl,ao.It bz (λi e=>by omega),od,aW⟩).qb
  ·refine Qv (i:=11) O O O (Rz (cs:=[_]) Qe O) ?_;rintro _ w11 ⟨b8,rfl,ji,aT,bc⟩;refine⟨ao.trans aT,?_⟩;have od:w5.heap.size<=b8:=by have:=ao.size;omega
   have ao:=ao.trans aT;refine Rf (i:=6) (by kernel_rfl)$ S0 (i:=6) O O O (yc z14 O) (T5 p _) ?_;rintro _ w6 ⟨rfl,aR⟩;refine⟨ao.trans aR,?_⟩
   try have bc:=aR.OH bc
   have ao:=ao.trans aR;refine Rf (i:=7) (by kernel_rfl)$ S0 (i:=7) O O O (yc z4L O) (Vv p.list hp.1 L.length hL succ [] hs ⟨List.Pairwise.nil,λy h=>(by cases h)⟩ 0 (Nat.zero_le _) (λ_=>rfl) ((bS.trans ao).OH hG) ((bS.trans ao).OH hU) (eB.ext (bS.trans ao)) Vs lI (Nat.zero_le _)) ?_;rintro _ w7 ⟨rfl,cm⟩;refine⟨ao.trans cm,?_⟩
   try have bc:=cm.OH bc
   have ao:=ao.trans cm;refine PW 8 O O ao$ Pr 9 O (Ry O O) ao$ Ql (i:=10) O (by kernel_rfl) O O (λ_=>Ry O O) ao$ Ty [12]$ qO 12$ PJ (i:=12) O O (QP Qe O O O bc ξ) ?_;rintro w12 ⟨aW,bz⟩;refine⟨trivial,?_⟩;refine OM 13 O (Rv O) trivial$ qE$ Pu.qb (e:=[(2,_),(3,_),(4,_),(5,_),(6,_),(7,_),(8,_)]) ?_;exact(bH _ _ ⟨b8,_,rfl,ao.It bz (λi e=>by omega),od,aW⟩).qb
section
variable {w:World}{k:Nat}{p:Qq}{L:List (List Nat)}{E:List (Nat×Nat)}{bs:List Bool}{F:Nat->Prop}{R:List (Value×Nat)}{wp ed:Nat}
def z5W (h:PkM w k p L E bs F R wp ed)(hl:bs.length<=9223372036854775):Ps prog 114 [ptr k 0] w λu w'=>u=I (bs.length:Int)/\Ext w w':=by
 refine py (e:=[(0,_)]) func114 O ntmps114 O O ?_
 have hg:=Ext.Pa w
 refine QN O$ PR O$ qV (Qb Wf O O)$ Qm O$ An$ R0 (λw'=>Ext w w') O$ P8 0 O O (hg)$ OM 1 O (Qd O) hg$ OM 2 O (Px zcI O) hg$ P8 4 O O (hg)$ OM 5 O (Qd O) hg$ OM 6 O (Px z3B O) hg$ qT 3 O (λ_ hS=>OS U3 O O (hS.OH h.OH) (zjV h.len)) hg$ qT 7 O (λ_ hS=>OS z3s O O (hS.OH h.OH) (zeP h.len)) hg ?_
 refine S1 8 O z2n O (Vx (h.wr.ext hg)) ?_
 rintro _ w1 ⟨rfl,rfl⟩
 refine⟨hg,?_⟩
 refine OM 9 O (UN O O ω) hg$ OM 10 O (Rv O) hg$ qE ?_
 rw[show(0:Int)+(bs.length:Int)=(bs.length:Int) by omega]
 refine OI func114 O ?_
 exact⟨_,rfl,rfl,hg⟩
def z5P (h:PkM w k p L E bs F R wp ed):Ps prog 115 [ptr k 0] w λu w'=>u= .tuple #[S (Pp bs),I 0]/\w'=w:=by
 refine py (e:=[(0,_)]) func115 O ntmps115 O O$ qN O$ Qr O$ PR O$ qV (Qb Wf O O)$ Qm O$ Pt O$ Pw O$ P4 z3B O$ qV (OS z3s O O h.OH (zeP h.len))$ Pb z7E O (X9 h.wr) ?_
 rintro _ w1 ⟨rfl,rfl⟩
 refine SM O$ Qr O$ OI func115 O ?_
 exact⟨_,rfl,rfl,rfl⟩
end
structure GrM (w:World)(v:Value)(g:List (List Nat)):Prop where
 ex:∃vs:List Value,Rd w v 1 g.length vs/\∀(i:Nat) (l:List Nat),g[i]? =some l->∃(a:Option Addr) (c:Nat),vs[i]? =some (Value.slice a l.length c)/\l.length<=c/\Rd w (.slice a l.length c) 1 l.length (l.map PD)
def GrM.ext {w w':World}{v:Value}{g:List (List Nat)}(h:GrM w v g)(hx:Ext w w'):GrM w' v g:=by
 obtain⟨vs,h1,h2⟩:=h.ex
 refine⟨vs,h1.ext hx,λi l hl=>?_⟩
 obtain⟨a,c,g1,g2,g3⟩:=h2 i l hl
 exact⟨a,c,g1,g2,g3.ext hx⟩
structure S7 (g:List (List Nat)):Prop where
 ok:∀l∈g,PG l
 lt:∀l∈g,∀y∈l,y<g.length
 n:g.length<=60
theorem S7.len {g:List (List Nat)}(h:S7 g){l:List Nat}(hl:l∈g):l.length<=g.length:=by
 have:=z38 l 0 g.length (h.ok l hl).ris (λy hy=>⟨Nat.zero_le _,h.lt l hl y hy⟩) (Nat.zero_le _)
 omega
def PX (g:List (List Nat)):Nat:=(g.map List.length).sum
theorem XO (g:List (List Nat))(l:List Nat):PX (g++[l])=PX g+l.length:=by simp[PX]
def zbB {g:List (List Nat)}{n:Nat}(h:∀l∈g,l.length<=n):PX g<=g.length*n:=by
 induction g with
 |nil=>simp[PX]
 | cons l g ih =>
   have h1:=ih (λm hm=>h m (List.mem_cons_of_mem _ hm));have h2:=h l List.mem_cons_self;show(l.length::g.map List.length).sum<=_;rw[List.sum_cons,List.length_cons,Nat.add_mul];have e:PX g=(g.map List.length).sum:=rfl;omega
def TU {g:List (List Nat)}(h:S7 g)(i:Nat):PX (g.take i)<=3600:=by
 have h1:PX (g.take i)<=(g.take i).length*60:=zbB (λl hl=>by have:=h.len (List.mem_of_mem_take hl);have:=h.n;omega)
 have h2:(g.take i).length<=60:=by rw[List.length_take];have:=h.n;omega
 omega
def z4A {w:World}{ga:Option Addr}{gc:Nat}{g:List (List Nat)}(h:GrM w (.slice ga g.length gc) g)(hg:S7 g):Ps prog 112 [.slice ga g.length gc] w λu w'=>u= .bool true/\w'=w:=by
 have hn:=hg.n
 obtain⟨vs,fI,nh⟩:=h.ex
 refine py (e:=[(0,_)]) func112 O ntmps112 O O$ qN O$ QW O$ P3 O$ PR O$ RO U23 O$ OT O$ OJ$ OL$ RN (α:=Nat) (0) (λi=>[(0,.slice ga g.length gc),(3,I (PX (g.take i):Int)),(8,.slice ga g.length gc),(9,I (g.length:Int)),(10,I (i:Int))]) (λi w'=>w'=w/\i<=g.length) (λi=>g.length-i) ?hI ?hround
 case hI=>exact⟨rfl,Nat.zero_le _⟩
 case hround =>
  rintro i w4 ⟨rfl,hi⟩ ih;have un:=TU hg i
  try dsimp only
  refine qN O$ QV O$ OJ$ An$ OX O (λh0=>?_)$ λh0=>?_
  ·have dO:i<g.length:=by omega
   obtain⟨l,hl⟩:∃l,g[i]? =some l:=⟨_,List.getElem?_eq_getElem dO⟩;have ip:=List.mem_of_getElem? hl;have eK:=hg.len ip;obtain⟨a,c,e1,e2,e3⟩:=nh i l hl
   obtain⟨gb,go,gc',e4⟩:∃b o c',Value.slice ga g.length gc= .slice (some ⟨b,o,none⟩) g.length c':=by
    rcases fI.2 with⟨c,hc,h0⟩|⟨b,off,c',hc,-⟩
    ·omega
    ·exact⟨b,off,c',hc⟩
   cases e4;refine OK$ QO$ qN O$ qV (Qc U23 U7 O O ω)$ qV (PC Pz O O (PY fI e1))$ QW O$ Pl O$ RO Pz O$ Q4 O$ R3 O$ RO Pz O$ OT O$ OJ$ OL ?_;have Bq:=XO (g.take i) l;rw[<-PK hl] at Bq;rw[show(PX (g.take i):Int)+(l.length:Int)=(PX (g.take (i+1)):Int) by omega];refine RN (α:=Nat) (0) (λj=>[(0,.slice (some ⟨gb,go,none⟩) g.length gc),(3,I (PX (g.take (i+1)):Int)),(5,.slice a l.length c),(8,.slice (some ⟨gb,go,none⟩) g.length gc),(9,I (g.length:Int)),(10,I (i:Int)),(18,.slice a l.length c),(19,I (l.length:Int)),(20,I (j:Int))]) (λj w'=>w'=w4/\j<=l.length) (λj=>l.length-j) ?hI ?hround
   case hI=>exact⟨rfl,Nat.zero_le _⟩
   case hround=>
    rintro j w5 ⟨rfl,hj⟩ ih2
    try dsimp only
    refine qN O$ QV O$ OJ$ An$ OX O (λh1=>?_)$ λh1=>?_
    ·have lA:j<l.length:=by omega
     obtain⟨y,hy⟩:∃y,l[j]? =some y:=⟨_,List.getElem?_eq_getElem lA⟩;have I7:=hg.lt l ip y (List.mem_of_getElem? hy)
     obtain⟨lb,lo,lc,e5⟩:∃b o c',Value.slice a l.length c= .slice (some ⟨b,o,none⟩) l.length c':=by
      rcases e3.2 with⟨c,hc,h0⟩|⟨b,off,c',hc,-⟩
      ·omega
      ·exact⟨b,off,c',hc⟩
     cases e5;refine OK$ QO$ Pt O$ qV (Qc Pz Pc O O ω)$ qV (PC QU O O (PY e3 (show(l.map PD)[j]? =some (PD y) by rw[List.getElem?_map,hy];rfl))) ?_;refine SH O$ R3 O$ qV (PQ O QU U3 ω)$ OT O$ RO U23 O$ Uh O$ PO$ OT O ?_;rcases Nat.eq_zero_or_pos j with L8|L8
     ·refine OT O$ QD O$ PO$ OT O$ QY$ QY$ QY$ qS$ PT O$ PT O$ Qm O$ OG$ OQ O$ Q4 O ?_;refine OT O$ OJ ?_;exact(ih2 (j+1) _ ⟨rfl,ω⟩ ω).qb
     ·obtain⟨z,hz⟩:∃z,l[j-1]? =some z:=⟨_,List.getElem?_eq_getElem ω⟩
      have NT:z<y:=by
       obtain⟨a1,a2⟩:=List.getElem?_eq_some_iff.1 hz;obtain⟨b1,b2⟩:=List.getElem?_eq_some_iff.1 hy;have:=List.pairwise_iff_getElem.1 (hg.ok l ip).ris (j-1) j a1 b1 ω
       rwa [a2,b2] at this
      refine OT O$ QD O$ RP$ Pl O$ Pl O$ Rt O ?_;rw[show(j:Int)-1=((j-1:Nat):Int) by omega];refine qV (Qc Pz Pc O O ω)$ qV (PC QU O O (PY e3 (show(l.map PD)[j-1]? =some (PD z) by rw[List.getElem?_map,hz];rfl))) ?_;refine zle O$ PO$ Ra O$ PT O$ Qm O$ OG$ OQ O$ Q4 O$ OT O$ OJ ?_;exact(ih2 (j+1) _ ⟨rfl,ω⟩ ω).qb
    ·refine OV O$ OG$ OQ O$ Q4 O$ OT O$ OJ ?_;exact(ih (i+1) _ ⟨rfl,ω⟩ ω).qb
  ·refine OV O$ Pt O$ RO U23 O$ zle O$ RP$ Pl O$ zle O$ RP$ Ra O$ P3 O$ OI func112 O ?_;exact⟨_,rfl,rfl,rfl⟩
/-! ### How many bits -/
def Xz.z3A {k:Nat}{q:Cd×Nat}(h:Xz k q)(hk:1<=k/\k<=16):(q.1.enc q.2).length<=112:=by
 obtain⟨h1,h2⟩:=h.Qx hk
 obtain⟨-,q2,-⟩:=WH h1 h2
 rw[WN]
 rcases h with⟨e,h⟩|⟨e,h⟩|⟨e,h⟩
 ·rw[e] at q2⊢;show q.2+1+_<=_;omega
 ·have:=(VF (v:=q.2) ω).2.2;rw[e] at q2⊢;show Nat.log2 (q.2+1)+1+_<=_;omega
 ·have h3:=(VF (v:=q.2) ω).2.2;have h4:Nat.log2 (q.2+1) / k<=Nat.log2 (q.2+1):=Nat.div_le_self _ _;rw[e] at q2⊢;show Nat.log2 (q.2+1) / k+1+_<=_;omega
def z2z {n:Nat}{L:List (Cd×Nat)}(h:∀q∈L,(q.1.enc q.2).length<=n):(Ph L).length<=L.length*n:=by
 induction L with
 |nil=>simp[Ph]
 | cons q L ih =>
   have h1:=ih (λq hq=>h q (List.mem_cons_of_mem _ hq));have h2:=h q List.mem_cons_self;rw[Q7,List.length_append,List.length_cons,Nat.add_mul];omega
def z2C (least:Nat){l:List Nat}(h:PG l):(PV least l).1.length<=l.length:=by
 have h1:=(TJ least l).length_eq
 rw[List.length_append] at h1
 have h4:∀(R:List (Nat×Nat)) (lo:Nat),T3 least lo R->R.length<=(QT R).length:=by
  intro R
  induction R with
  |nil=>intro lo h;exact Nat.le_refl _
  | cons q R ih =>
    intro lo h;have h5:=ih _ h.2.2.2;have h6:1<=q.2:=h.2.1;rw[show QT (q::R)=(List.range q.2).map (q.1+·)++QT R from rfl,List.length_append,List.length_map,List.length_range,List.length_cons];omega
 have h5:=h4 _ 0 (UT least l 0 h.ris (λy _=>Nat.zero_le _))
 omega
def ZE {p:S6}(hp:p.Qx){x:Nat}(hx:x<65536){succ ref:List Nat}(hs:PG succ)(hr:PG ref){r:Nat}(jn:r<=p.Pm)(L9:succ.length<=60)(Ba:ref.length<=60):(Ph (Ru p x succ ref r)).length<=44800:=by
 have ay:PG (Pq succ ref):=hs.sub List.filter_sublist
 have eK:(Pq succ ref).length<=succ.length:=List.length_filter_le _ _
 have h1:=(T9 succ ref).z18
 rw[List.length_map] at h1
 have h2:=z2C p.interval ay
 have h3:=(UE p.interval (Pq succ ref)).length_le
 have aJ:(Ru p x succ ref r).length<=400:=by
  unfold Ru;rw[List.length_cons];split
  ·simp
  rw[List.length_append,List.length_append];have e1:(if 0<p.Pm then [(Cd.unary,r)] else []).length<=1:=by split<;>simp
  have e2:(if 0<r then(Cd.gamma,(Rb succ ref).length-1)::Qo 0 (Rb succ ref).dropLast else []).length<=62:=by
   split
   ·rw[List.length_cons,Tb,List.length_dropLast];omega
   ·simp
  have e3:(if Pq succ ref=[] then [] else(if 0<p.interval then(Cd.gamma,(PV p.interval (Pq succ ref)).1.length)::PM x p.interval none (PV p.interval (Pq succ ref)).1 else [])++PN x p.zeta none (PV p.interval (Pq succ ref)).2).length<=200:=by
   split
   ·simp
   ·rw[List.length_append,Ti];split
    ·rw[List.length_cons,SA];omega
    ·simp;omega
  omega
 have:=z2z (n:=112) (L:=Ru p x succ ref r) (λq hq=>(z0m hp hx hs hr jn q hq).z3A ⟨hp.2.2.1,hp.2.2.2⟩)
 omega
/-! ### All bits -/
def XI (p:Qq)(g:List (List Nat))(E:List (Nat×Nat))(i:Nat):List Bool:=
 Ph (Ru p.list i ((g[i]?).getD []) (QC g i ((E[i]?).getD (0,0)).1) ((E[i]?).getD (0,0)).1)
def Qz (p:Qq)(g:List (List Nat))(E:List (Nat×Nat))(n:Nat):List Bool:=(List.range n).flatMap (XI p g E)
theorem Ta (p:Qq)(g:List (List Nat))(E:List (Nat×Nat))(n:Nat):Qz p g E (n+1)=Qz p g E n++XI p g E n:=by
 unfold Qz
 rw[List.range_succ,List.flatMap_append];simp
theorem z1u (p:Qq)(g:List (List Nat))(E:List (Nat×Nat))(e:Nat×Nat):∀n,n<=E.length->Qz p g (E++[e]) n=Qz p g E n
 |0,_=>rfl
 | n + 1, h => by
   rw[Ta,Ta,z1u p g E e n ω]
   congr 1
   unfold XI;rw[List.getElem?_append_left ω]
structure zdC (p:Qq)(g:List (List Nat))(E:List (Nat×Nat)):Prop where
 ent:∀i e,E[i]? =some e->ZP p g E i ((g[i]?).getD []).length e
def ZP.mono {p:Qq}{L L':List (List Nat)}{E E':List (Nat×Nat)}{n size:Nat}{e:Nat×Nat}(h:ZP p L E n size e)(hL:∀(j:Nat) (l:List Nat),L[j]? =some l->L'[j]? =some l)(hE:∀(j:Nat) (l:Nat×Nat),E[j]? =some l->E'[j]? =some l):ZP p L' E' n size e:=by
 rcases h with h|⟨h1,h2,h3,l,e',h4,h5,h6,h7⟩
 ·exact .inl h
 ·exact .inr ⟨h1,h2,h3,l,e',hL _ _ h4,hE _ _ h5,h6,h7⟩
def Sl.typed {w:World}{v:Value}{T:TypeId}{k n g:Nat}{cs:List Value}(h:Sl w v T k n cs)(hg:v.ownBlock=some g):∃cur,w.heap[g]? =some (.cells cur T (0,0)):=by
 rcases h.2 with⟨hz,-⟩|⟨g1,cap1,cur,hv,-,bh,-⟩
 ·rw[hz] at hg;cases hg
 ·rw[hv] at hg;have e:g1=g:=RB hg;exact⟨cur,e▸bh⟩
def PkM.kpT {w w':World}{k:Nat}{p:Qq}{L:List (List Nat)}{E:List (Nat×Nat)}{bs:List Bool}{F:Nat->Prop}{R:List (Value×Nat)}{wp ed:Nat}(h:PkM w k p L E bs F R wp ed){v:Value}{T:TypeId}{sz n:Nat}{cs:List Value}(hT:T≠59)(hv:Sl w v T sz n cs)(hk:Kp (λi=>v.ownBlock=some i) w w')(n1:v.ownBlock≠some k)(n2:∀i,F i->v.ownBlock≠some i):PkM w' k p L E bs F R wp ed:=
 ⟨hk.OH h.OH n1,h.len,h.wr.kp hk n2,h.nk,h.el,h.ok,λj l e h1 h2 h3=>by
  obtain⟨a,cp,g1,g2,g3,g4⟩:=h.ring j l e h1 h2 h3;refine⟨a,cp,g1,g2,g3.kp hk (λg hg e=>?_),g4⟩;obtain⟨c1,f1⟩:=g3.typed hg;obtain⟨c2,f2⟩:=hv.typed e;rw[f1] at f2
  injection f2 with f3
  injection f3 with f4 f5
  exact hT f5.symm⟩
def Wi (p:Qq)(g:List (List Nat))(E:List (Nat×Nat))(n:Nat):List Nat:=(List.range (n+1)).map λj=>(Qz p g E j).length
theorem zce (p:Qq)(g:List (List Nat))(E:List (Nat×Nat))(e:Nat×Nat)(n:Nat)(h:n<=E.length):Wi p g (E++[e]) n=Wi p g E n:=by
 unfold Wi
 refine List.map_congr_left λj hj=>?_
 rw[z1u p g E e j (by have:=List.mem_range.1 hj;omega)]
theorem zal (p:Qq)(g:List (List Nat))(E:List (Nat×Nat))(n:Nat):Wi p g E (n+1)=Wi p g E n++[(Qz p g E (n+1)).length]:=by
 unfold Wi
 rw[List.range_succ,List.map_append];rfl
def z2V (p:Qq)(g:List (List Nat))(E:List (Nat×Nat))(n:Nat):(Wi p g E n).length=n+1:=by simp[Wi]
theorem getD_take {α:Type}{l:List α}{i j:Nat}(h:j<i):(l.take i)[j]? =l[j]? :=by rw[List.getElem?_take,if_pos h]
def Xb (L:List (List Nat))(n r:Nat):QC L n r=[]\/QC L n r∈L:=by
 unfold QC
 split
 ·exact .inl O
 ·cases h:L[n-r]? with
  |none=>exact .inl O
  |some l=>exact .inr (List.mem_of_getElem? h)
theorem z61 {L:List (List Nat)}{n r:Nat}(h:r<=n):QC (L.take n) n r=QC L n r:=by
 unfold QC
 by_cases e:r=0
 ·rw[if_pos e,if_pos e]
 ·rw[if_neg e,if_neg e,getD_take ω]
structure EnI (w:World)(p:Qq)(g:List (List Nat))(k wp:Nat)(i:Nat)(E:List (Nat×Nat))(v:Value)(w':World):Prop where
 pk:∃F R,PkM w' k p (g.take i) E (Qz p g E i) F R wp (PX (g.take i))/\(∀j,F j->w.heap.size<=j)/\∀j,F j->v.ownBlock≠some j
 ext:Ext w w'
 nk:w.heap.size<=k
 sl:Sl w' v 39 1 (Wi p g E i).length ((Wi p g E i).map P7)
 fr:∀b,v.ownBlock=some b->w.heap.size<=b
 vk:v.ownBlock≠some k
 ent:∀j e,E[j]? =some e->ZP p g E j ((g[j]?).getD []).length e
 bd:(Qz p g E i).length<=i*44800
def z90 {w:World}{p:Qq}(hp:p.Qx){g:List (List Nat)}(hg:S7 g){ga:Option Addr}{gc:Nat}(jR:GrM w (.slice ga g.length gc) g)(hG:OU w 1 (Sq .gamma) 294)(hU:OU w 2 (Sq .unary) 294):
  Ps prog 73 [.slice ga g.length gc,bpV p] w λu w'=>∃E v,u= .tuple #[S (Pp (Qz p g E g.length)),v,I 0]/\E.length=g.length/\zdC p g E/\(Qz p g E g.length).length<=2688000/\Sl w' v 39 1 (g.length+1) ((Wi p g E g.length).map P7)/\(∀b,v.ownBlock=some b->w.heap.size<=b)/\Ext w w':=by
 have hn:=hg.n
 refine py (e:=[(0,_),(1,_)]) func73 O ntmps73 O O$ qN O$ OP O O (R6 O (cs:=Vj p) O) ?_
 rintro _ w1 ⟨b3,rfl,dI,ad,au⟩
 have z1:=ad.size
 refine SH O$ SH O$ QW O$ qV (Pv (news:=Vj p) U75 O RE O (au.cells (n:=5) O) O)$ Pb zh5 O (z9f p hp w1) ?_
 rintro _ w2 ⟨k,wp,F,rfl,wm,hW,La,ae,az,pw⟩
 have z2:=ae.size
 have aF:=ad.trans ae
 refine OT O$ qV (Ry (v:=ptr k 0) O O)$ qV (Ry (v:=I 0) O O)$ Qr O$ PR O$ QF O$ Pl O$ Pb zgZ O (z4A (jR.ext aF) hg) ?_
 rintro _ w2 ⟨rfl,rfl⟩
 refine qV ((S5 O))$ PT O$ Qm O$ qN O$ OP O O (Yx (cs:=[_]) (zs:=[Value.int .u64 0]) U34 Tm O (by kernel_rfl) O O O ψ) ?_
 rintro _ w3 ⟨b28,rfl,⟨Lb,ah,yg⟩,DZ⟩
 have z3:=ah.size
 have lk:=wm.lt
 have Bt:PkM w3 k p (g.take 0) [] (Qz p g [] 0) F z7I wp (PX (g.take 0)):=⟨ah.OH wm,List.length_replicate,hW.ext ah,La,rfl,(λl hl=>by simp at hl),λj l e h1=>by simp at h1⟩
 refine P3 O$ PR O$ RO U23 O$ OT O$ OJ$ Pu.qb (e:=[(4,_),(5,_),(6,_),(7,_),(8,_),(9,_),(29,_),(30,_),(31,_)]) ?_
 refine OL$ RN (α:=Nat×List (Nat×Nat)×Value) ((0,[],.slice (some ⟨b28,0,none⟩) 1 1)) (λy=>[(7,ptr k 0),(9,y.2.2),(29,.slice ga g.length gc),(30,I (g.length:Int)),(31,I (y.1:Int))]) (λy w'=>EnI w p g k wp y.1 y.2.1 y.2.2 w'/\y.1<=g.length) (λy=>g.length-y.1) ?hI ?hround
 case hI=>exact⟨⟨⟨F,z7I,Bt,λj hj=>by have:=pw j hj;omega,λj hj e=>by have e1:b28=j:=RB e;have:=hW.lt hj;omega⟩,aF.trans ah,ω,DZ,λb hb=>by have e1:b28=b:=RB hb;omega,λe=>by have e1:b28=k:=RB e;omega,λj e h=>by simp at h,Nat.zero_le _⟩,Nat.zero_le _⟩
 case hround =>
  rintro⟨i,E,v⟩ w4 ⟨hI,hi⟩ ih;dsimp only at hI hi;obtain⟨F,R,hP,hF,Iu⟩:=hI.pk;have wj:=hI.bd;have aS:=z2V p g E i;have sg:=hP.el;rw[List.length_take,Nat.min_eq_left hi] at sg;obtain⟨va,vc,rfl,-⟩:=hI.sl.rd.shape
  try dsimp only
  refine qN O$ QV O$ OJ$ An$ OX O (λh0=>?_)$ λh0=>?_
  ·have dO:i<g.length:=by omega
   obtain⟨l,hl⟩:∃l,g[i]? =some l:=⟨_,List.getElem?_eq_getElem dO⟩;have ip:=List.mem_of_getElem? hl;have eK:=hg.len ip;have hs:=hg.ok l ip;obtain⟨vs,E0,nh⟩:=jR.ex;obtain⟨a,c,e1,e2,e3w⟩:=nh i l hl;have fI:=E0.ext hI.ext;have e3:=e3w.ext hI.ext
   obtain⟨gb,go,gc',e4⟩:∃b o c',Value.slice ga g.length gc= .slice (some ⟨b,o,none⟩) g.length c':=by
    rcases fI.2 with⟨c,hc,h0⟩|⟨b,off,c',hc,-⟩
    ·omega
    ·exact⟨b,off,c',hc⟩
   cases e4;have qs:(g.take i).length=i:=by rw[List.length_take];omega
   have un:=TU hg i;refine OK$ QO$ qN O$ qV (Qc U23 U7 O O ω)$ qV (PC Pz O O (PY fI e1)) ?_
   have ob:∀r,r<=p.Pm->(Qz p g E i).length+(Ph (Ru p.list (g.take i).length l (QC (g.take i) (g.take i).length r) r)).length<=134217728:=λr hr=>by
    have h2:PG (QC (g.take i) (g.take i).length r)/\(QC (g.take i) (g.take i).length r).length<=60:=by
     rcases Xb (g.take i) (g.take i).length r with e| e
     ·rw[e];exact⟨⟨List.Pairwise.nil,λy h=>(by cases h)⟩,Nat.zero_le _⟩
     ·exact⟨hg.ok _ (List.mem_of_mem_take e),by have:=hg.len (List.mem_of_mem_take e);omega⟩
    have h3:=ZE hp.1 (x:=(g.take i).length) ω hs h2.1 (show r<=p.list.Pm from hr) ω h2.2;omega
   have vR:=hI.sl;have xM:∀b,(Value.slice va (Wi p g E i).length vc).ownBlock=some b->b<w4.heap.size:=λb hb=>vR.lt hb;refine P3 O$ An$ QI O$ Pb zfS O (z95 hp hP (hI.ext.OH hG) (hI.ext.OH hU) ω hs e2 e3 ω (λb h0 hb=>by have h1:=e3w.ltz ψ h0 hb;have:=hI.nk;exact⟨λe=>by have:=hF b e;omega,ω⟩) ob) ?_;rintro _ w5 ⟨r,least,ch,F',R',rfl,gY,gU,aj,wn⟩;have lk4:=hP.OH.lt;have z5:=aj.size;have aV:Ext w w5:=hI.ext.It aj (λj hj=>by rcases hj with e|e;exact hF j e;(have:=hI.nk;omega));have Lc:(E++[(r,ch)]).length=i+1:=by rw[List.length_append,sg];rfl
   have mB:r<=i:=by
    rcases gY with e|⟨-,-,h3,-⟩
    ·have:r=0:=(Prod.mk.inj e).1;omega
    ·rw[qs] at h3;exact h3
   have uo:(E++[(r,ch)])[i]? =some (r,ch):=by rw[List.getElem?_append_right ω,sg,Nat.sub_self];rfl
   have qD:XI p g (E++[(r,ch)]) i=Ph (Ru p.list (g.take i).length l (QC (g.take i) (g.take i).length r) r):=by
    unfold XI;rw[uo,hl,qs,z61 mB];rfl
   have cO:Qz p g (E++[(r,ch)]) (i+1)=Qz p g E i++Ph (Ru p.list (g.take i).length l (QC (g.take i) (g.take i).length r) r):=by
    rw[Ta,z1u p g E _ i ω,qD]
   have E1:(Qz p g (E++[(r,ch)]) (i+1)).length<=(i+1)*44800:=by
    have h2:PG (QC (g.take i) (g.take i).length r)/\(QC (g.take i) (g.take i).length r).length<=60:=by
     rcases Xb (g.take i) (g.take i).length r with e| e
     ·rw[e];exact⟨⟨List.Pairwise.nil,λy h=>(by cases h)⟩,Nat.zero_le _⟩
     ·exact⟨hg.ok _ (List.mem_of_mem_take e),by have:=hg.len (List.mem_of_mem_take e);omega⟩
    have jn:r<=p.list.Pm:=by
     rcases gY with e|⟨-,h3,-⟩
     ·have:r=0:=(Prod.mk.inj e).1;omega
     ·exact h3
    have h3:=ZE hp.1 (x:=(g.take i).length) ω hs h2.1 jn ω h2.2;rw[cO,List.length_append];omega
   rw[<-cO,<-PK hl,<-XO,<-PK hl] at gU;have gG:(Qz p g (E++[(r,ch)]) (i+1)).length<=9223372036854775:=by omega
   refine OT O$ SM O$ qV (Ry (v:=I 0) O O)$ SH O$ SH O$ R3 O$ QF O$ Qm O$ OQ O$ Pl O$ Pb zgT O (z5W gU gG) ?_;rintro _ w6 ⟨rfl,aR⟩;refine qV ((Qg O U3 Rw ω))$ OP O O (Yx (cs:=[_]) (zs:=[Value.int .u64 0]) U34 Tm O (by kernel_rfl) O O O ψ) ?_;rintro _ w7 ⟨b49,rfl,⟨Ld,cm,bU⟩,E2⟩;have eT:=aR.trans cm;have z67:=eT.size;have oa:∀j,F' j->j<w5.heap.size:=λj hj=>gU.wr.lt hj;have Ia:=vR.kp aj (λb hb e=>by rcases e with e|e;exact Iu b e hb;exact hI.vk (e▸hb));have Bu:=Ia.ext eT
   have yh:∀j,F' j->(Value.slice va (Wi p g E i).length vc).ownBlock≠some j:=λj hj e=>by
    rcases wn j hj with e1|e1
    ·exact Iu j e1 e
    ·have:=xM j e;omega
   refine OP O O (pap U34 Tm O ψ O O Bu E2.rd (by intro c hc;simp at hc;subst hc;rfl) ω (by simp only[maxLen];omega)) ?_;rintro v8 w8 ⟨dJ,aL,ly,-⟩;have pH:=(gU.ext eT).kpT (T:=39) ψ Bu aL hI.vk yh;have oe:∀b,v8.ownBlock=some b->(Value.slice va (Wi p g E i).length vc).ownBlock=some b\/w5.heap.size<=b:=λb hb=>(ly b hb).imp id (λe=>by omega);refine P3 O$ OG$ OQ O$ Q4 O$ OT O$ OJ ((ih (i+1,E++[(r,ch)],v8) _ ⟨⟨⟨F',R',pH,λj hj=>?_,λj hj e=>?_⟩,(aV.trans eT).It aL (λj hj=>hI.fr j hj),hI.nk,?_,λb hb=>?_,λe=>?_,λj e hj=>?_,E1⟩,dO⟩ (by dsimp only;omega)).qb)
   ·rcases wn j hj with e| e
    ·exact hF j e
    ·have:=hI.ext.size;omega
   ·rcases oe j e with e1|e1
    ·exact yh j hj e1
    ·have:=oa j hj;omega
   ·rw[zal,zce p g E _ i ω,List.length_append,List.map_append];exact dJ
   ·rcases oe b hb with e1|e1
    ·exact hI.fr b e1
    ·have:=aV.size;omega
   ·rcases oe k e with e1|e1
    ·exact hI.vk e1
    ·omega
   ·rcases Nat.lt_or_ge j i with sh|sh
    ·rw[List.getElem?_append_left ω] at hj;exact(hI.ent j e hj).mono (λ_ _ h=>h) (λj' l' h=>by rw[List.getElem?_append_left (List.getElem?_eq_some_iff.1 h).1];exact h)
    ·have DF:=(List.getElem?_eq_some_iff.1 hj).1;rw[Lc] at DF;have ej:j=i:=by omega
     subst ej;rw[uo] at hj;cases hj;rw[hl];rw[qs] at gY
     exact gY.mono (λj' l' h=>by
      have:=(List.getElem?_eq_some_iff.1 h).1;rw[qs] at this
      rwa [getD_take this] at h) (λj' l' h=>by rw[List.getElem?_append_left (List.getElem?_eq_some_iff.1 h).1];exact h)
  ·have dq:i=g.length:=by omega
   subst dq;refine OV O$ Pt O$ Pb ziZ O (z5P hP) ?_;rintro _ w5 ⟨rfl,rfl⟩;refine OT O$ SM O$ SH O$ QW O$ Pl O$ OT O$ SH O$ Qr O$ OI func73 O ?_;have fL:=hI.sl;rw[aS] at fL;exact⟨_,rfl,E,_,rfl,sg,⟨hI.ent⟩,ω,by rw[aS];exact fL,hI.fr,hI.ext⟩
structure Fm where
 n:Nat
 u:Nat
 width:Nat
 bits:Nat
def fmC (f:Fm):List Value:=[I (f.n:Int),P7 f.u,I (f.width:Int),I (f.bits:Int)]
abbrev fmV (f:Fm):Value:= .agg (fmC f).toArray
def Ya (n u:Nat):Nat:=if u / n=0 then 0 else PU (u / n)-1
def TT (n u:Nat):Fm:=⟨n,u,Ya n u,(u-1) / 2^Ya n u+n⟩
def Fm.high (f:Fm):Nat:=12+(f.n*f.width+7) / 8
def Fm.UL (f:Fm):Nat:=f.high+(f.bits+7) / 8
def Fm.size (f:Fm):Nat:=f.UL+4*((f.n+63) / 64)
def Zo {n u:Nat}(hu:u<=1000000000):Ya n u<=30:=by
 unfold Ya
 split
 ·omega
 ·have h1:u / n<=u:=Nat.div_le_self _ _;have h2:PU (u / n)<=30:=R8 ω;omega
def z1C {n u:Nat}(hn:1<=n)(hu:1<=u):(u-1) / 2^Ya n u<2*n:=by
 have h2:0<2^Ya n u:=Nat.two_pow_pos _
 rw[Nat.div_lt_iff_lt_mul h2]
 unfold Ya
 split
 ·rename_i h
  have:u<n:=by
   rcases Nat.lt_or_ge u n with h1|h1
   ·exact h1
   ·have:=Nat.div_pos h1 ω;omega
  simp;omega
 ·rename_i h
  have h3:u / n<2^PU (u / n):=WU;have h4:PU (u / n)≠0:=λe=>by rw[e,Nat.pow_zero] at h3;exact h (Nat.lt_one_iff.1 h3)
  obtain⟨k,hk⟩:∃k,PU (u / n)=k+1:=⟨PU (u / n)-1,ω⟩;rw[hk] at h3⊢;rw[Nat.add_sub_cancel]
  have h5:u<n*2^(k+1):=by
   have:=(Nat.div_lt_iff_lt_mul (show 0<n by omega)).1 h3
   rwa [Nat.mul_comm] at this
  rw[Nat.pow_succ] at h5;have e:n*(2^k*2)=2*n*2^k:=by rw[Nat.mul_comm (2^k) 2,<-Nat.mul_assoc,Nat.mul_comm n 2]
  omega
def z8Q {n u:Nat}(hn:1<=n)(hu:1<=u):(TT n u).bits<=3*n:=by
 have:=z1C hn hu
 show(u-1) / 2^Ya n u+n<=_
 omega
def XJ (n u:Nat)(hn:1<=n)(jM:n<=1000)(hu:1<=u)(lq:u<=1000000000)(w:World):Ps prog 121 [I (n:Int),P7 u] w λv w'=>v=fmV (TT n u)/\Ext w w':=by
 have wo:=Zo (n:=n) lq
 have fi:=z1C hn hu
 have hq:u / n<=u:=Nat.div_le_self _ _
 obtain⟨q,kJ⟩:∃q,u / n=q:=⟨_,rfl⟩
 have Iv:Ya n u=if q=0 then 0 else PU q-1:=by rw[Ya,kJ]
 rw[kJ] at hq
 have E3:PU q<=30:=R8 ω
 refine py (e:=[(0,_),(1,_)]) func121 O ntmps121 O O$ qN O$ OP O O (Rz (cs:=[_,_,_,_]) Tr O) ?_
 rintro _ w1 ⟨b4,rfl,fX,ad,aM⟩
 refine qM O$ Pl O$ qV (Sh (cs:=[_,_,_,_]) Tr O zhW O O)$ OP O O (Rz (cs:=[_,_,_,_]) Tr O) ?_
 rintro _ w2 ⟨b5,rfl,gG,ae,aK⟩
 have z1:=ad.size
 have z2:=ae.size
 have l4:=aM.lt
 have l5:=aK.lt
 refine OY O (PL (news:=[I (n:Int),P7 u,I 0,I 0]) Tr O O O O aK ξ) ?_
 rintro w3 ⟨iI,av⟩
 replace iI:OU w3 b5 [I (n:Int),P7 u,I 0,I 0] 220:=iI
 have et:Ext w w3:=(ad.trans ae).It av (λi e=>by omega)
 have dY:=av.OH (ae.OH aM) ω
 have z3:=av.size
 refine OJ$ PR O$ Rk O$ PO$ Qm O$ An$ QI O$ qV ((Qg O U3 Rw ω))$ qV (zgM (m:=u) (n:=n) O O O (by show u<2^64;omega) ω) ?_
 rw[kJ]
 refine R3 O$ QD O$ OJ$ PI (λe' w'=>e'=[(0,I (n:Int)),(1,P7 u),(4,ptr b4 0),(5,ptr b5 0)]/\Ext w w'/\OU w' b5 [I (n:Int),P7 u,I (Ya n u:Int),I 0] 220/\OU w' b4 [I 0,P7 0,I 0,I 0] 220) ?bH$ λbH=>?da
 case bH=>
  rintro e' w4 ⟨rfl,aG,gV,cC⟩;refine Pt O$ qV (Wx (m:=u) (n:=1) O O O (by show u<2^64;omega) ω) ?_;refine P4 Tp O$ qV (OS U3 O O gV O)$ qV (Us (Ya n u) (2^Ya n u) O O (by show Ya n u<=64;omega) O) ?_
  generalize kK:(u-1) / 2^Ya n u=qb at fi
  refine qV (PQ O Rw U3 ω)$ OT O$ Q4 O$ P4 Yn O$ OY O (QP Qe O O O gV ξ) ?_;rintro w5 ⟨up,aj⟩;replace up:OU w5 b5 [I (n:Int),P7 u,I (Ya n u:Int),I ((qb+n:Nat):Int)] 220:=up;refine qM O$ qV (Pv z4X O Tr O (OU.cells (n:=4) up (news:=[_,_,_,_]) O) O)$ OY O (PL (news:=[I (n:Int),P7 u,I (Ya n u:Int),I ((qb+n:Nat):Int)]) Tr O O O O (aj.OH cC ω) ξ) ?_;rintro w6 ⟨bV,aN⟩;replace bV:OU w6 b4 [I (n:Int),P7 u,I (Ya n u:Int),I ((qb+n:Nat):Int)] 220:=bV;refine OJ$ Po func121 (.cell z4X O Tr O (OU.cells (n:=4) bV (news:=[_,_,_,_]) O) O .nil) (⟨_,rfl,?_,(aG.It aj (λi e=>by omega)).It aN (λi e=>by omega)⟩);unfold fmV fmC TT;rw[kK]
  rfl
 case da=>
  refine OX O (λh0=>?_)$ λh0=>?_
  ·refine Rp O$ Pb z2B O (Uk q ω _) ?_;rintro _ w3 ⟨rfl,rfl⟩;have tM:PU q≠0:=λe=>by have:=WU (v:=q);rw[e] at this;omega
   refine Rt O ?_;rw[show(PU q:Int)-1=(Ya n u:Int) by rw[Iv,if_neg ω];omega];refine P4 Tp O$ OY O (QP Qe O O O iI ξ) ?_;rintro w4 ⟨gV,ar⟩;replace gV:OU w4 b5 [I (n:Int),P7 u,I (Ya n u:Int),I 0] 220:=gV;refine OJ ?_;exact(bH _ _ ⟨rfl,et.It ar (λi e=>by omega),gV,ar.OH dY ω⟩).qb
  ·have nL:Ya n u=0:=by rw[Iv,if_pos ω]
   refine OK ?_;exact(bH _ _ ⟨rfl,et,by rw[nL];exact iI,dY⟩).qb
def Fm.small (f:Fm):Prop:=f.n<=100000/\f.width<=64/\f.bits<=1000000
def z4C (f:Fm)(hf:f.small)(w:World):Ps prog 211 [fmV f] w λv w'=>v=I (f.high:Int)/\Ext w w':=by
 obtain⟨h1,h2,h3⟩:=hf
 have hm:f.n*f.width<=100000*64:=Nat.mul_le_mul h1 h2
 refine py (e:=[(0,_)]) func211 O ntmps211 O O$ qN O$ OP O O (R6 O (cs:=fmC f) O) ?_
 rintro _ w1 ⟨b1,rfl,bK,ad,ai⟩
 replace ai:OU w1 b1 [I (f.n:Int),P7 f.u,I (f.width:Int),I (f.bits:Int)] 220:=ai
 refine QW O$ P4 YT O$ qV (OS U3 O O ai O)$ P4 Tp O$ qV (OS U3 O O ai O) ?_
 have rM:((f.n*f.width:Nat):Int)=(f.n:Int)*(f.width:Int):=Int.natCast_mul _ _
 refine qV (Y8 O O (by rw[<-rM];omega)) ?_
 rw[<-rM]
 refine Q4 O$ qV (WX O O ω)$ Q4 O$ P3 O$ OI func211 O (⟨_,rfl,?_,ad⟩)
 show I (12+(((f.n*f.width:Nat):Int)+7) / 8)=I ((12+(f.n*f.width+7) / 8:Nat):Int)
 congr 1
def Fm.WK {f:Fm}(hf:f.small):f.high<=10000000:=by
 obtain⟨h1,h2,h3⟩:=hf
 have hm:f.n*f.width<=100000*64:=Nat.mul_le_mul h1 h2
 unfold Fm.high
 omega
def z43 (f:Fm)(hf:f.small)(w:World):Ps prog 189 [fmV f] w λv w'=>v=I (f.UL:Int)/\Ext w w':=by
 have pI:=Fm.WK hf
 obtain⟨h1,h2,h3⟩:=id hf
 refine py (e:=[(0,_)]) func189 O ntmps189 O O$ qN O$ OP O O (R6 O (cs:=fmC f) O) ?_
 rintro _ w1 ⟨b1,rfl,bK,ad,ai⟩
 replace ai:OU w1 b1 [I (f.n:Int),P7 f.u,I (f.width:Int),I (f.bits:Int)] 220:=ai
 have hg:=Ext.Pa w1
 refine P3 O$ An$ R0 (λw'=>Ext w1 w') O$ qT 0 O (λ_ h=>Pv z4X O Tr O (OU.cells (n:=4) (h.OH ai) (news:=[_,_,_,_]) O) O) hg$ OM 2 O (Px Yn O) hg$ qT 3 O (λ_ h=>OS U3 O O (h.OH ai) O) hg$ OM 4 O (UN O O ω) hg$ OM 5 O (WX O O ω) hg$ S1 1 O zdB O (z4C f hf _) ?_
 rintro _ w2 ⟨rfl,ae⟩
 refine⟨hg.trans ae,?_⟩
 refine OM 6 O (UN O O ω) (hg.trans ae)$ OM 7 O (Rv O) (hg.trans ae)$ qE$ OI func189 O (⟨_,rfl,?_,(ad.trans hg).trans ae⟩)
 show I ((f.high:Int)+((f.bits:Int)+7) / 8)=I ((f.high+(f.bits+7) / 8:Nat):Int)
 congr 1
def z2A (f:Fm)(hf:f.small)(w:World):Ps prog 163 [fmV f] w λv w'=>v=I (f.size:Int)/\Ext w w':=by
 have pI:=Fm.WK hf
 obtain⟨h1,h2,h3⟩:=id hf
 have fL:f.UL<=20000000:=by unfold Fm.UL;omega
 refine py (e:=[(0,_)]) func163 O ntmps163 O O$ qN O$ OP O O (R6 O (cs:=fmC f) O) ?_
 rintro _ w1 ⟨b1,rfl,bK,ad,ai⟩
 replace ai:OU w1 b1 [I (f.n:Int),P7 f.u,I (f.width:Int),I (f.bits:Int)] 220:=ai
 have hg:=Ext.Pa w1
 refine P3 O$ An$ R0 (λw'=>Ext w1 w') O$ qT 0 O (λ_ h=>Pv z4X O Tr O (OU.cells (n:=4) (h.OH ai) (news:=[_,_,_,_]) O) O) hg$ OM 2 O (Px YT O) hg$ qT 3 O (λ_ h=>OS U3 O O (h.OH ai) O) hg$ OM 4 O (UN O O ω) hg$ OM 5 O (XG O O ω) hg ?_
 rw[show(f.n:Int)+64-1=((f.n+63:Nat):Int) by omega]
 refine OM 6 O (WX O O ω) hg$ OM 7 O (Y8 O O ω) hg$ S1 1 O zdZ O (z43 f hf _) ?_
 rintro _ w2 ⟨rfl,ae⟩
 refine⟨hg.trans ae,?_⟩
 refine OM 8 O (UN O O ω) (hg.trans ae)$ OM 9 O (Rv O) (hg.trans ae)$ qE$ OI func163 O (⟨_,rfl,?_,(ad.trans hg).trans ae⟩)
 show I ((f.UL:Int)+4*(((f.n+63:Nat):Int) / 64))=I ((f.UL+4*((f.n+63) / 64):Nat):Int)
 congr 1
def z3e {n u:Nat}(hn:1<=n)(jM:n<=1000)(hu:1<=u)(lq:u<=1000000000):(TT n u).small:=by
 have h1:=z8Q hn hu
 have h2:=Zo (n:=n) lq
 refine⟨?_,?_,ω⟩
 ·show n<=_;omega
 ·show Ya n u<=_;omega
def z60 (n last:Nat)(hn:1<=n)(jM:n<=1000)(lq:last+1<=1000000000)(w:World):Ps prog 161 [I (n:Int),P7 last] w λv w'=>v= .tuple #[I ((TT n (last+1)).size:Int),I 0]/\Ext w w':=by
 refine py (e:=[(0,_),(1,_)]) func161 O ntmps161 O O$ qN O$ Qr O$ QO$ Pt O$ QV O$ Pl O$ QD O$ PO$ PT O$ Pl O$ QD O$ PO$ PT O ?_
 refine Pl O$ Rk O$ PO$ OT O$ QY$ PT O$ PT O$ P3 O$ OR O$ Pt O$ Rk O$ PO$ P3 O$ Pu.qb (e:=[(0,_),(1,_),(4,_),(5,_),(25,_)]) ?_
 refine SO O$ OG$ QI O$ qV (V7 O O) ?_
 rw[Nat.mod_eq_of_lt (show last+1<18446744073709551616 by omega)]
 refine Pb zac O (XJ n (last+1) hn jM ω lq _) ?_
 rintro _ w1 ⟨rfl,ad⟩
 refine Pb zee O (z2A _ (z3e hn jM ω lq) _) ?_
 rintro _ w2 ⟨rfl,ae⟩
 refine Qr O$ OI func161 O ?_
 exact⟨_,rfl,rfl,ad.trans ae⟩
def z9V {w:World}{a:Option Addr}{c:Nat}{l:List Nat}(hl:l.length<=1000)(hn:Nof l)(hm:∀v∈l,v<=1000000000)(hR:Rd w (.slice a l.length c) 1 l.length (l.map P7)):Ps prog 120 [.slice a l.length c] w λv w'=>v= .bool true/\w'=w:=by
 refine py (e:=[(0,_)]) func120 O ntmps120 O O$ QN O$ PR O$ RO U34 O$ QD O$ PO$ Qm O$ QN O$ PR O$ RO U34 O$ OT O$ OJ$ OL$ RN (α:=Nat×Nat) ((0,0)) (λy=>[(3,P7 y.2),(9,.slice a l.length c),(10,I (l.length:Int)),(11,I (y.1:Int))]) (λy w'=>w'=w/\y.1<=l.length/\y.2<=1000000000/\∀v,l[y.1]? =some v->y.2<=v) (λy=>l.length-y.1) ?hI ?hround
 case hI=>exact⟨rfl,Nat.zero_le _,Nat.zero_le _,λv _=>Nat.zero_le _⟩
 case hround=>
  rintro⟨i,z⟩ w4 ⟨rfl,hi,hz,Bv⟩ ih;dsimp only at hi hz Bv
  try dsimp only
  refine qN O$ QV O$ OJ$ An$ OX O (λh0=>?_)$ λh0=>?_
  ·have dO:i<l.length:=by omega
   obtain⟨v,hv⟩:∃v,l[i]? =some v:=⟨_,List.getElem?_eq_getElem dO⟩;have Le:=Bv v hv;have E4:=hm v (List.mem_of_getElem? hv)
   obtain⟨gb,go,gc',e4⟩:∃b o c',Value.slice a l.length c= .slice (some ⟨b,o,none⟩) l.length c':=by
    rcases hR.2 with⟨c,hc,h0⟩|⟨b,off,c',hc,-⟩
    ·omega
    ·exact⟨b,off,c',hc⟩
   cases e4;refine OK$ QO$ qN O$ qV (Qc U34 Tm O O ω)$ qV (PC Rw O O (PY hR (show(l.map P7)[i]? =some (P7 v) by rw[List.getElem?_map,hv];rfl))) ?_;refine P3 O$ An$ QI O$ QV O$ PO$ Pl O$ QD O$ PO$ PT O$ Qm O$ Rp O$ P3 O$ OG$ OQ O ?_;refine Q4 O$ OT O$ OJ ((ih (i+1,v) _ ⟨rfl,dO,E4,λu hu=>?_⟩ (by dsimp only;omega)).qb);obtain⟨a1,a2⟩:=List.getElem?_eq_some_iff.1 hv;obtain⟨b1,b2⟩:=List.getElem?_eq_some_iff.1 hu;have:=List.pairwise_iff_getElem.1 hn i (i+1) a1 b1 ω
   rwa [a2,b2] at this
  ·refine OV O$ QN O$ OI func120 O ?_;exact⟨_,rfl,rfl,rfl⟩
def Sv (k:Nat)(l:List Nat):List Bool:=l.flatMap λv=>Pn k (v%2^k)
def Sf (k:Nat):List Nat->List Bool
 |[]=>[]
 |v::_=>Pn 32 (v / 2^k)
theorem z8D (k:Nat)(l:List Nat)(v:Nat):Sv k (l++[v])=Sv k l++Pn k (v%2^k):=by simp[Sv]
theorem Uy (k:Nat):∀l:List Nat,(Sv k l).length=l.length*k
 |[]=>by simp[Sv]
 | v :: l => by
   show(Pn k (v%2^k)++Sv k l).length=_;rw[List.length_append,Uy k l,bitsN_length,List.length_cons,Nat.add_mul];omega
def z4o (k:Nat):∀(l:List Nat) (len i v:Nat),Nof (l++[v])->(∀x,(l++[v]).head? =some x->len<=x / 2^k+i)->
  len+(hiB k len i l).length<=v / 2^k+(i+l.length)/\hiB k len i (l++[v])=hiB k len i l++(List.replicate (v / 2^k+(i+l.length)-(len+(hiB k len i l).length)) false++[true])
 | [], len, i, v, _, hl => by
   have:=hl v O;refine⟨by simp[hiB];omega,?_⟩
   simp[hiB]
 | x :: r, len, i, v, hn, hl => by
   have hx:=hl x O;rw[List.cons_append] at hn;obtain⟨n1,n2⟩:=List.pairwise_cons.1 hn
   obtain⟨h1,h2⟩:=z4o k r (x / 2^k+i+1) (i+1) v n2 (λy hy=>by
    have pJ:y∈r++[v]:=List.mem_of_mem_head? hy;have:=Nat.div_le_div_right (c:=2^k) (n1 y pJ)
    omega)
   rw[List.cons_append,hiB,hiB,h2,List.length_append,List.length_replicate,List.length_cons,List.length_cons];refine⟨ω,?_⟩;rw[List.append_assoc,List.cons_append,show v / 2^k+(i+1+r.length)-(x / 2^k+i+1+(hiB k (x / 2^k+i+1) (i+1) r).length)=v / 2^k+(i+(r.length+1))-(len+(x / 2^k+i-len+((hiB k (x / 2^k+i+1) (i+1) r).length+1))) by omega]
def z6s (k:Nat)(l:List Nat)(v:Nat):Sf k (l++[v])=Sf k l++if l.length=0 then Pn 32 (v / 2^k) else []:=by
 cases l with
 |nil=>simp[Sf]
 |cons x l=>simp[Sf]
def YK (l:List Nat)(f:Fm):OO:=Pp (Pn 32 f.n++Pn 64 f.u)++Pp (Sv f.width l)++Pp (hiB f.width 0 0 l)++Pp (Sf f.width l)
def zbN {b:Nat}:∀{l:List Nat},(∀x∈l,x<=b)->l.sum<=l.length*b
 |[],_=>by simp
 | x :: l, h => by
   have h1:=h x List.mem_cons_self;have h2:=zbN (λy hy=>h y (List.mem_cons_of_mem x hy));rw[List.sum_cons,List.length_cons,Nat.add_mul];omega
def z9E (k:Nat)(l:List Nat):(Sf k l).length<=32:=by
 cases l with
 |nil=>simp[Sf]
 |cons v l=>simp[Sf]
theorem z1G (k:Nat){l:List Nat}(hn:Nof l){z:Nat}(hz:l[l.length-1]? =some z):(hiB k 0 0 l).length=z / 2^k+l.length:=by
 have:=z7V k l 0 0 hn (λx hx=>Nat.zero_le _) z (by rw[List.getLast?_eq_getElem?];exact hz)
 omega
/-! ### Three writers side by side -/
def zbG (A B:Nat->Prop):Prop:=∀k,A k->¬B k
structure EfW (w0 w:World)(b5:Nat)(f:Fm)(p1 p2 p3:Nat)(l1 l2 l3:List Bool):Prop where
 ex:∃F1 F2 F3:Nat->Prop,YC w p1 l1 F1/\YC w p2 l2 F2/\YC w p3 l3 F3/\zbG F1 F2/\zbG F2 F3/\zbG F3 F1/\∀k,F1 k\/F2 k\/F3 k->w0.heap.size<=k/\k≠b5
 ext:Ext w0 w
 OH:OU w b5 (fmC f) 220
section
variable {w0 w:World}{b5:Nat}{f:Fm}{p1 p2 p3:Nat}{l1 l2 l3:List Bool}
def EfW.rot (h:EfW w0 w b5 f p1 p2 p3 l1 l2 l3):EfW w0 w b5 f p2 p3 p1 l2 l3 l1:=by
 obtain⟨⟨F1,F2,F3,h1,h2,h3,h4,h5,h6,h7⟩,hx,hb⟩:=h
 exact⟨⟨F2,F3,F1,h2,h3,h1,h5,h6,h4,λk hk=>h7 k (by rcases hk with e|e|e;exact .inr (.inl e);exact .inr (.inr e);exact .inl e)⟩,hx,hb⟩
def EfW.on (h:EfW w0 w b5 f p1 p2 p3 l1 l2 l3){w2:World}(hx:Ext w w2):EfW w0 w2 b5 f p1 p2 p3 l1 l2 l3:=by
 obtain⟨⟨F1,F2,F3,h1,h2,h3,h4,h5,h6,h7⟩,jS,hb⟩:=h
 exact⟨⟨F1,F2,F3,h1.ext hx,h2.ext hx,h3.ext hx,h4,h5,h6,h7⟩,jS.trans hx,hx.OH hb⟩
def EfW.zcr (h:EfW w0 w b5 f p1 p2 p3 l1 l2 l3):∃F1,YC w p1 l1 F1/\¬F1 b5/\(∀w2 l,WrR p1 F1 w w2 l->EfW w0 w2 b5 f p1 p2 p3 l l2 l3):=by
 obtain⟨⟨F1,F2,F3,h1,h2,h3,h4,h5,h6,h7⟩,jS,hb⟩:=h
 refine⟨F1,h1,λe=>(h7 b5 (.inl e)).2 O,λw2 l hr=>?_⟩
 obtain⟨F1',g1,g2,g3⟩:=hr
 have z:=jS.size
 have lb:=hb.lt
 refine⟨⟨F1',F2,F3,g1,h2.kp g2 (λi hi e=>h4 i e hi),h3.kp g2 (λi hi e=>h6 i hi e),λk hk e=>?_,h5,λk hk e=>?_,λk hk=>?_⟩,jS.It g2 (λk hk=>(h7 k (.inl hk)).1),g2.OH hb (λe=>(h7 b5 (.inl e)).2 O)⟩
 ·rcases g3 k hk with e1|e1
  ·exact h4 k e1 e
  ·have:=h2.lt e;omega
 ·rcases g3 k e with e1|e1
  ·exact h6 k hk e1
  ·have:=h3.lt hk;omega
 ·rcases hk with hk|hk
  ·rcases g3 k hk with e1|e1
   ·exact h7 k (.inl e1)
   ·exact⟨ω,ω⟩
  ·exact h7 k (.inr hk)
def EfW.zcV (h:EfW w0 w b5 f p1 p2 p3 l1 l2 l3):∃F2,YC w p2 l2 F2/\(∀w2 l,WrR p2 F2 w w2 l->EfW w0 w2 b5 f p1 p2 p3 l1 l l3):=by
 obtain⟨F2,h1,-,h2⟩:=h.rot.zcr
 exact⟨F2,h1,λw2 l hr=>(h2 w2 l hr).rot.rot⟩
def EfW.zil (h:EfW w0 w b5 f p1 p2 p3 l1 l2 l3):∃F3,YC w p3 l3 F3/\(∀w2 l,WrR p3 F3 w w2 l->EfW w0 w2 b5 f p1 p2 p3 l1 l2 l):=by
 obtain⟨F3,h1,-,h2⟩:=h.rot.rot.zcr
 exact⟨F3,h1,λw2 l hr=>(h2 w2 l hr).rot⟩
end
def z3L {w:World}{a:Option Addr}{c:Nat}{l:List Nat}(df:1<=l.length)(hn:l.length<=64)(mC:Nof l)(hm:∀v∈l,v<=999999999)(hR:Rd w (.slice a l.length c) 1 l.length (l.map P7)){z:Nat}(hz:l[l.length-1]? =some z):
  Ps prog 76 [.slice a l.length c] w λv w'=>v= .tuple #[S (YK l (TT l.length (z+1))),I 0]/\Ext w w':=by
 have NU:=hm z (List.mem_of_getElem? hz)
 have Iw:∀v∈l,v<=z:=λv hv=>by
  obtain⟨j,hj⟩:=List.mem_iff_getElem?.1 hv;obtain⟨a1,a2⟩:=List.getElem?_eq_some_iff.1 hj;obtain⟨b1,b2⟩:=List.getElem?_eq_some_iff.1 hz;rcases Nat.lt_or_ge j (l.length-1) with h| h
  ·have:=List.pairwise_iff_getElem.1 mC j (l.length-1) a1 b1 h
   rwa [a2,b2] at this
  ·have e:j=l.length-1:=by omega
   subst e;rw[hz] at hj;cases hj;exact Nat.le_refl _
 have wo:=Zo (n:=l.length) (u:=z+1) ω
 have og:=z1C (n:=l.length) (u:=z+1) df ω
 rw[Nat.add_sub_cancel] at og
 obtain⟨gb,go,gc',e4⟩:∃b o c',Value.slice a l.length c= .slice (some ⟨b,o,none⟩) l.length c':=by
  rcases hR.2 with⟨c,hc,h0⟩|⟨b,off,c',hc,-⟩
  ·omega
  ·exact⟨b,off,c',hc⟩
 cases e4
 refine py (e:=[(0,_)]) func76 O ntmps76 O O$ qN O$ Qr O$ PR O$ Pb zhJ O (z9V ω mC (λv hv=>by have:=hm v hv;omega) hR) ?_
 rintro _ w ⟨rfl,rfl⟩
 refine qV ((S5 O))$ Qm O$ QN O$ PR O$ RO U34 O$ QD O$ OJ$ OX O (λh0=>?_)$ λh0=>?_
 ·refine OQ O$ Pl O$ RO U34 O$ Rt O ?_;rw[show(l.length:Int)-1=((l.length-1:Nat):Int) by omega];refine qV (Qc U34 Tm O O ω)$ qV (PC Rw O O (PY hR (show(l.map P7)[l.length-1]? =some (P7 z) by rw[List.getElem?_map,hz];rfl))) ?_;refine qV (V7 O O) ?_;rw[Nat.mod_eq_of_lt (show z+1<18446744073709551616 by omega)];refine R3 O$ RO U34 O$ OT O$ Pb zac O (XJ l.length (z+1) df ω ω ω _) ?_;rintro _ w1 ⟨rfl,ad⟩
  generalize hf:TT l.length (z+1)=f
  have Lf:f.width=Ya l.length (z+1):=by rw[<-hf];rfl
  have qm:f.n=l.length:=by rw[<-hf];rfl
  have Bw:f.u=z+1:=by rw[<-hf];rfl
  rw[<-Lf] at wo og;refine OP O O (Rz (cs:=[_,_,_,_]) Tr O) ?_;rintro _ w2 ⟨b5,rfl,gG,ae,aK⟩;refine OY O (PL (news:=fmC f) Tr O O O O aK ξ) ?_;rintro w3 ⟨iI,av⟩;replace iI:OU w3 b5 (fmC f) 220:=iI;have z1:=ad.size;have z2:=ae.size;have lb5:=iI.lt;have aZ:Ext w1 w3:=ae.It av (λi e=>by omega);have z3:=aZ.size;refine qM O$ Pb z1o O (Ur w3) ?_;rintro _ w4 ⟨p1,F1,rfl,E5,aG,pw⟩;refine Pb z1o O (Ur w4) ?_;rintro _ w5 ⟨p2,F2,rfl,Ix,aV,Iy⟩;refine Pb z1o O (Ur w5) ?_;rintro _ w6 ⟨p3,F3,rfl,nj,aR,qx⟩;have z4:=aG.size;have z5:=aV.size
  have Lg:EfW w w6 b5 f p1 p2 p3 [] [] []:=⟨⟨F1,F2,F3,(E5.ext aV).ext aR,Ix.ext aR,nj,λk h1 h2=>by have:=E5.lt h1;have:=Iy k h2;omega,λk h1 h2=>by have:=Ix.lt h1;have:=qx k h2;omega,λk h1 h2=>by have:=E5.lt h2;have:=qx k h1;omega,λk hk=>by
   rcases hk with h|h| h
   ·have:=pw k h;omega
   ·have:=Iy k h;omega
   ·have:=qx k h;omega⟩,(((ad.trans aZ).trans aG).trans aV).trans aR,aR.OH (aV.OH (aG.OH iI))⟩
  refine SH O$ Qr O$ Pu.qb (e:=[(0,_),(2,_),(3,_),(4,_),(5,_),(6,_),(7,_),(8,_)]) ?_;refine PR O$ RO U34 O$ OT O$ OJ$ OL$ RN (α:=Nat) (0) (λi=>[(4,P7 (z+1)),(5,ptr b5 0),(6,ptr p1 0),(7,ptr p2 0),(8,ptr p3 0),(39,.slice (some ⟨gb,go,none⟩) l.length c),(40,I (l.length:Int)),(41,I (i:Int))]) (λi w'=>EfW w w' b5 f p1 p2 p3 (Sv f.width (l.take i)) (hiB f.width 0 0 (l.take i)) (Sf f.width (l.take i))/\i<=l.length) (λi=>l.length-i) ?hI ?hround
  case hI=>exact⟨Lg,Nat.zero_le _⟩
  case hround =>
   rintro i w7 ⟨hE,hi⟩ ih
   try dsimp only
   refine qN O$ QV O$ OJ$ An$ OX O (λh1=>?_)$ λh1=>?_
   ·have dO:i<l.length:=by omega
    obtain⟨v,hv⟩:∃v,l[i]? =some v:=⟨_,List.getElem?_eq_getElem dO⟩;have E4:=Iw v (List.mem_of_getElem? hv);have Iz:v / 2^f.width<=z / 2^f.width:=Nat.div_le_div_right E4;have qs:(l.take i).length=i:=by rw[List.length_take];omega
    obtain⟨ee,dt⟩:=z4o f.width (l.take i) 0 0 v (by rw[<-PK hv];exact mC.sublist (List.take_sublist _ _)) (λx hx=>Nat.zero_le _);rw[<-PK hv,Nat.zero_add,Nat.zero_add,qs] at dt;rw[Nat.zero_add,Nat.zero_add,qs] at ee;have NV:(l.take i).length*f.width<=64*30:=Nat.mul_le_mul ω ω;have hg:=Ext.Pa w7;obtain⟨F1',E6,yi,ib⟩:=(hE.on hg).zcr;have yj:OU w7 b5 [I (f.n:Int),P7 f.u,I (f.width:Int),I (f.bits:Int)] 220:=hE.OH;have tL:=Nat.two_pow_pos f.width;have NW:2^f.width<=2^30:=Nat.pow_le_pow_right ψ wo;refine OK$ QO$ Pt O$ qV (Qc U34 Tm O O ω)$ qV (PC Rw O O (PY (hR.ext hE.ext) (show(l.map P7)[i]? =some (P7 v) by rw[List.getElem?_map,hv];rfl))) ?_;refine Qr O$ An$ R0 (λw'=>Kp F1' w7 w') O$ P8 0 O O (hg.kp)$ P8 1 O O (hg.kp)$ OM 2 O (Px Tp O) (hg.kp)$ qT 3 O (λ_ h=>OS U3 O O (h.OH yj yi) O) (hg.kp)$ OM 7 O (Px Tp O) (hg.kp)$ qT 8 O (λ_ h=>OS U3 O O (h.OH yj yi) O) (hg.kp)$ OM 4 O (Rj f.width (2^f.width) O O ω O) (hg.kp) ?_;rw[show 1*2^f.width%18446744073709551616=2^f.width by rw[Nat.one_mul];exact Nat.mod_eq_of_lt ω];refine OM 5 O (Wx (m:=2^f.width) (n:=1) O O O (by show 2^f.width<2^64;omega) ω) (hg.kp) ?_;refine OM 6 O (Uq O O ω ω) (hg.kp) ?_;rw[Nat.and_two_pow_sub_one_eq_mod];refine S1 9 O WE O (Sm E6 (v%2^f.width) f.width ω (Nat.mod_lt _ tL) (by rw[Uy];omega)) ?_;rintro _ w8 ⟨rfl,fR⟩;refine⟨hg.kp.trans fR.choose_spec.2.1,?_⟩;have wq:=ib _ _ fR;rw[<-z8D,<-PK hv] at wq;have uq:OU w8 b5 [I (f.n:Int),P7 f.u,I (f.width:Int),I (f.bits:Int)] 220:=wq.OH;obtain⟨F2',qF,gF⟩:=wq.zcV;refine qE$ Pt O$ P4 Tp O$ qV (OS U3 O O uq O)$ qV (Us f.width (2^f.width) O O (by show f.width<=64;omega) O) ?_;have eB:=z6s f.width (l.take i) v;rw[<-PK hv,qs] at eB
    generalize v / 2^f.width=vq at ee dt Iz eB
    generalize z / 2^f.width=zq at Iz og
    refine qV (PQ O Rw U3 ω)$ OT O$ Q4 O ?_;rw[show(vq:Int)+(i:Int)=((vq+i:Nat):Int) by omega];refine P3 O$ An$ QI O$ Pb z2n O (Vx qF) ?_;rintro _ w8 ⟨rfl,rfl⟩;refine Rt O ?_
    generalize E7:(hiB f.width 0 0 (l.take i)).length=HL at ee dt
    rw[show((vq+i:Nat):Int)-(HL:Int)=((vq+i-(HL+0):Nat):Int) by omega];refine P3 O$ OL$ RN (α:=Nat) (0) (λy=>[(4,P7 (z+1)),(5,ptr b5 0),(6,ptr p1 0),(7,ptr p2 0),(8,ptr p3 0),(9,I (i:Int)),(11,I ((vq+i:Nat):Int)),(12,I ((vq+i-(HL+y):Nat):Int)),(39,.slice (some ⟨gb,go,none⟩) l.length c),(40,I (l.length:Int)),(41,I (i:Int))]) (λy w'=>EfW w w' b5 f p1 p2 p3 (Sv f.width (l.take (i+1))) (hiB f.width 0 0 (l.take i)++List.replicate y false) (Sf f.width (l.take i))/\HL+y<=vq+i) (λy=>vq+i-(HL+y)) ?hI ?hround
    case hI=>exact⟨by simpa using wq,ee⟩
    case hround=>
     rintro y w9 ⟨wu,hy⟩ ih2
     try dsimp only
     obtain⟨F2',qF,gF⟩:=wu.zcV;refine PR O$ QD O$ OJ$ OX O (λh2=>?_)$ λh2=>?_
     ·obtain⟨m,pK,eu,lL,IA⟩:∃m,min (vq+i-(HL+y)) 64=m/\1<=m/\m<=64/\HL+y+m<=vq+i:=⟨_,rfl,ω,ω,ω⟩;refine OK$ QO$ OQ O$ Pl O$ qV (ymi O O) ?_;rw[show min ((vq+i-(HL+y):Nat):Int) 64=(m:Int) by omega];refine Pb WE O (Sm qF 0 m lL (Nat.two_pow_pos _) (by rw[List.length_append,List.length_replicate,E7];omega)) ?_;rintro _ w10 ⟨rfl,oh⟩;have iJ:=gF _ _ oh;rw[VV,List.append_assoc,List.replicate_append_replicate] at iJ;obtain⟨F2'',yk,-⟩:=iJ.zcV;refine OJ$ OG$ OQ O$ Pl O$ Pb z2n O (Vx yk) ?_;rintro _ w10 ⟨rfl,rfl⟩;rw[show(hiB f.width 0 0 (l.take i)++List.replicate (y+m) false).length=HL+(y+m) by rw[List.length_append,List.length_replicate,E7]];refine Rt O ?_;rw[show((vq+i:Nat):Int)-((HL+(y+m):Nat):Int)=((vq+i-(HL+(y+m)):Nat):Int) by omega];refine P3 O ?_;exact(ih2 (y+m) _ ⟨iJ,ω⟩ ω).qb
     ·have Lh:y=vq+i-HL:=by omega
      subst Lh;refine OV O$ Pt O$ Pb WE O (Sm qF 1 1 ψ ψ (by rw[List.length_append,List.length_replicate,E7];omega)) ?_;rintro _ w10 ⟨rfl,oh⟩;have iJ:=gF _ _ oh;rw[show Pn 1 1=[true] from rfl,List.append_assoc,<-dt] at iJ;refine qM O$ OT O$ qV (yre O O ω)$ Rk O$ OJ$ OX O (λh3=>?_)$ λh3=>?_
      ·have gH:i=0:=by omega
       obtain⟨F3',E8,nn⟩:=iJ.zil;refine OQ O$ Pl O$ qV ((Qg O U3 Rw ω))$ Pb WE O (Sm E8 (vq+i) 32 ψ (by show _<2^32;omega) (by rw[gH];show 0+32<=_;omega)) ?_;rintro _ w11 ⟨rfl,E9⟩;have mD:=nn _ _ E9;refine OJ$ OG$ OQ O$ Q4 O$ OT O$ OJ ((ih (i+1) _ ⟨?_,dO⟩ ω).qb);rw[eB,if_pos gH];rw[show vq+i=vq by omega] at mD;exact mD
      ·refine OK$ OG$ OQ O$ Q4 O$ OT O$ OJ ((ih (i+1) _ ⟨?_,dO⟩ ω).qb);rw[eB,if_neg ω,List.append_nil];exact iJ
   ·have dq:i=l.length:=by omega
    subst dq;rw[List.take_length] at hE;refine OV O$ qN O$ Pb z1o O (Ur w7) ?_;rintro _ w8 ⟨p4,F4,rfl,mq,cR,IB⟩;have uq:OU w8 b5 [I (f.n:Int),P7 f.u,I (f.width:Int),I (f.bits:Int)] 220:=(hE.on cR).OH;refine R3 O$ P4 YT O$ qV (OS U3 O O uq O)$ qV ((Qg O U3 Rw ω))$ Pb WE O (Sm mq f.n 32 ψ (by show _<2^32;omega) ξ) ?_;rintro _ w9 ⟨rfl,F5,Bx,aw,wn⟩;have iK:Ext w7 w9:=cR.It aw IB;have z79:=iK.size;refine qM O$ Pl O$ Pb WE O (Sm Bx (z+1) 64 ψ (by show _<2^64;omega) ξ) ?_;rintro _ w10 ⟨rfl,F6,m8,aA,NX⟩
    have si:Ext w7 w10:=iK.It aA (λk hk=>by
     rcases wn k hk with e| e
     ·exact IB k e
     ·have:=cR.size;omega)
    rw[List.nil_append,<-Bw] at m8;refine qM O$ P3 O$ An$ QI O$ Pl O$ OP O O (Yx (cs:=[_,_,_,_]) (zs:=[Value.pointer none,Value.pointer none,Value.pointer none,Value.pointer none]) zfc z84 O (by kernel_rfl) O O O ψ) ?_;rintro _ w11 ⟨b100,rfl,⟨IC,aT,ID⟩,yl⟩;have mD:=hE.on (si.trans aT);obtain⟨tx,ja⟩:∃tx:List OO,tx=[Pp (Pn 32 f.n++Pn 64 f.u),Pp (Sv f.width l),Pp (hiB f.width 0 0 l),Pp (Sf f.width l)]:=⟨_,rfl⟩
    have j5:∀j,(List.take j (List.map List.length tx)).sum<=4000:=λj=>by
     have h1:∀x∈List.take j (List.map List.length tx),x<=1000:=λx hx=>by
      have ae:=List.mem_of_mem_take hx;rw[ja] at ae;have eK:(Sv f.width l).length<=64*30:=by rw[Uy];exact Nat.mul_le_mul hn ω
      have pI:=z1G f.width mC hz;have ia:=z9E f.width l;simp only[List.map_cons,List.map_nil,PE,List.length_append,bitsN_length] at ae;simp only[List.mem_cons,List.not_mem_nil,or_false] at ae
      generalize z / 2^f.width=zq at og pI
      omega
     have h2:=zbN h1;have h3:(List.take j (List.map List.length tx)).length<=4:=by rw[List.length_take,List.length_map,ja];simp;omega
     omega
    have gE:∀(j:Nat) (x:OO),tx[j]? =some x->x.length<=4000:=λj x hx=>by
     have h1:=j5 (j+1);rw[PK (q:=x.length) (by rw[List.getElem?_map,hx];rfl),List.sum_append] at h1;simp at h1;omega
    have hq:∀j,j<4->∃q bs F,([ptr p4 0,ptr p1 0,ptr p2 0,ptr p3 0]:List Value)[j]? =some (ptr q 0)/\tx[j]? =some (Pp bs)/\YC w11 q bs F:=λj hj=>by
     obtain⟨F1,h1,-,-⟩:=mD.zcr;obtain⟨F2,h2,-⟩:=mD.zcV;obtain⟨F3,h3,-⟩:=mD.zil;rw[ja];have Ea:j=0\/j=1\/j=2\/j=3:=by omega
     rcases Ea with e|e|e|e<;>subst e
     ·exact⟨p4,_,_,rfl,rfl,m8.ext aT⟩
     ·exact⟨p1,_,_,rfl,rfl,h1⟩
     ·exact⟨p2,_,_,rfl,rfl,h2⟩
     ·exact⟨p3,_,_,rfl,rfl,h3⟩
    refine RO zfc O$ OT O$ OJ$ Pu.qb (e:=[(14,_),(100,_),(101,_),(102,_)]) ?_;refine OL$ RN (α:=Nat) (0) (λj=>[(14,S ((tx.take j).flatten)),(100,.slice (some ⟨b100,0,none⟩) 4 4),(101,I 4),(102,I (j:Int))]) (λj w'=>w'=w11/\j<=4) (λj=>4-j) ?hI ?hround
    case hI=>exact⟨rfl,Nat.zero_le _⟩
    case hround=>
     rintro j w12 ⟨rfl,hj⟩ ih2
     try dsimp only
     refine qN O$ QV O$ OJ$ An$ OX O (λh2=>?_)$ λh2=>?_
     ·obtain⟨q,bs,F,g1,g2,g3⟩:=hq j ω;have NY:=j5 j;have NZ:=gE j _ g2;refine OK$ QO$ qN O$ qV (Qc zfc z84 O O ω)$ qV (PC z3s O O (PY yl.rd g1))$ R3 O$ Pb z7E O (X9 g3) ?_;rintro _ w12 ⟨rfl,rfl⟩;refine OT O$ zex O$ qV (Ry (v:=I 0) O O)$ Qr O$ PR O$ QF O$ Qm O$ OQ O$ Pl O$ qV (Yb O O (by first|omega|(simp;done)|(simp;omega))) ?_;refine P3 O$ OG$ OQ O$ Q4 O$ OT O$ OJ ?_;rw[show(tx.take j).flatten++Pp bs=(tx.take (j+1)).flatten by rw[PK g2,List.flatten_append];simp];exact(ih2 (j+1) _ ⟨rfl,ω⟩ ω).qb
     ·have Ea:j=4:=by omega
      subst Ea;refine OV O$ Pt O$ Qr O$ OI func76 O (⟨_,rfl,?_,(hE.ext.trans si).trans aT⟩);rw[ja];simp[Q0,YK]
 ·omega
structure PHd where
 n:Nat
 m:Nat
 p:Qq
 bits:Nat
def hdC (h:PHd):List Value:=[I (h.n:Int),I (h.m:Int),I (h.p.Pm:Int),I (h.p.chain:Int),I (h.p.interval:Int),I (h.p.zeta:Int),I (h.p.most:Int),I (h.bits:Int)]
abbrev hdV (h:PHd):Value:= .agg (hdC h).toArray
structure PHd.Qx (h:PHd):Prop where
 n1:1<=h.n
 n2:h.n<=65536
 m:h.m<=1048576
 bits:h.bits<=134217728
 p:h.p.Qx
def Z2 (h:PHd):List (Nat×Nat):=[(h.n,32),(h.m,32),(h.p.Pm,8),(h.p.chain,8),(h.p.interval,8),(h.p.zeta,8),(h.p.most,32),(h.bits,64)]
def Rn (l:List (Nat×Nat)):List Bool:=l.flatMap λq=>Pn q.2 q.1
def z8p:OO:=[119,116,108,49]
def hdT (h:PHd):OO:=z8p++Pp (Rn (Z2 h))
theorem UB (h:PHd):(Rn (Z2 h)).length=192:=by
 simp[Rn,Z2]
theorem Xh (h:PHd):(hdT h).length=28:=by
 unfold hdT
 rw[List.length_append,PE,UB];rfl
def XP (h:PHd)(hh:h.Qx)(w:World):Ps prog 116 [hdV h] w λu w'=>u=I 0/\Ext w w':=by
 obtain⟨g1,g2,g3,g4,g5⟩:=hh
 refine py (e:=[(0,_)]) func116 O ntmps116 O O$ qN O$ OP O O (R6 O (cs:=hdC h) O) ?_
 rintro _ w1 ⟨b1,rfl,bK,ad,ai⟩
 replace ai:OU w1 b1 [I (h.n:Int),I (h.m:Int),I (h.p.Pm:Int),I (h.p.chain:Int),I (h.p.interval:Int),I (h.p.zeta:Int),I (h.p.most:Int),I (h.bits:Int)] 134:=ai
 refine P3 O$ QO$ An$ qN O$ P4 Ub O$ qV (OS U3 O O ai O)$ QV O$ PO$ OT O$ P4 Ub O$ qV (OS U3 O O ai O)$ QD O$ PO$ PT O ?_
 refine P3 O$ OR O$ qN O$ P4 z0v O$ qV (OS U3 O O ai O)$ QV O$ PO$ OT O$ P4 z0v O$ qV (OS U3 O O ai O)$ QD O$ PO$ PT O$ P3 O ?_
 refine OR O$ qN O$ P4 UR O$ qV (OS U3 O O ai O)$ QV O$ PO$ OT O$ P4 UR O$ qV (OS U3 O O ai O)$ QD O$ PO$ PT O$ P3 O$ Pu.qb (e:=[(1,_),(2,_),(3,_)]) ?_
 refine OR O$ OQ O$ P4 Ub O$ qV (OS U3 O O ai O)$ Rk O$ PO$ OT O$ QY$ QY$ QY$ PT O$ P3 O$ SO O$ OG ?_
 refine qN O$ P4 YE O$ qV (Pv (news:=Vj h.p) U75 O RE O (ai.cells (i:=2) (n:=5) O) O)$ Pb zei O (z07 h.p g5 _) ?_
 rintro _ w2 ⟨rfl,ae⟩
 refine P3 O$ OI func116 O ?_
 exact⟨_,rfl,rfl,ad.trans ae⟩
def z8C (h:PHd)(hh:h.Qx)(w:World):Ps prog 75 [hdV h] w λu w'=>u= .tuple #[S (hdT h),I 0]/\Ext w w':=by
 obtain⟨g1,g2,g3,g4,g5⟩:=id hh
 obtain⟨q1,q2,q3⟩:=id g5
 obtain⟨r1,r2,r3,r4⟩:=id q1
 have r1':h.p.Pm<=16:=r1
 have r2':h.p.interval<=64:=by
  have:h.p.interval=0\/2<=h.p.interval/\h.p.interval<=64:=r2;omega
 have r4':h.p.zeta<=16:=r4
 refine py (e:=[(0,_)]) func75 O ntmps75 O O$ qN O$ OP O O (R6 O (cs:=hdC h) O) ?_
 rintro _ w1 ⟨b1,rfl,bK,ad,ai⟩
 replace ai:OU w1 b1 [I (h.n:Int),I (h.m:Int),I (h.p.Pm:Int),I (h.p.chain:Int),I (h.p.interval:Int),I (h.p.zeta:Int),I (h.p.most:Int),I (h.bits:Int)] 134:=ai
 refine Qr O$ An$ qN O$ qV (Pv (news:=hdC h) z5X O TW O (ai.cells (n:=8) O) O)$ Pb zbl O (XP h hh _) ?_
 rintro _ w2 ⟨rfl,ae⟩
 refine R3 O$ QF O$ Qm O$ qN O$ Pb z1o O (Ur w2) ?_
 rintro _ w3 ⟨wp,F,rfl,nj,ah,qx⟩
 have aZ:=ae.trans ah
 have bX:=aZ.OH ai
 refine QW O$ P4 YE O$ qV (Pv (news:=Vj h.p) U75 O RE O (bX.cells (i:=2) (n:=5) O) O)$ OP O O (Rz (cs:=[_,_,_,_,_]) RE O) ?_
 rintro _ w4 ⟨b6,rfl,nD,aG,aX⟩
 refine OY O (PL (news:=Vj h.p) RE O O O O aX ξ) ?_
 rintro w5 ⟨fM,aj⟩
 replace fM:OU w5 b6 [I (h.p.Pm:Int),I (h.p.chain:Int),I (h.p.interval:Int),I (h.p.zeta:Int),I (h.p.most:Int)] 75:=fM
 have cw:Ext w3 w5:=aG.It aj (λi e=>by omega)
 have eS:=cw.OH bX
 refine OJ$ An$ qN O$ P4 Ub O$ qV ((OS U3 O O eS O))$ qV (Sh (cs:=[_,_]) Vw O z0b O O)$ P4 z0v O$ qV ((OS U3 O O eS O))$ qV (Sh (cs:=[_,_]) Vw O z0b O O)$ P4 z1r O$ qV ((OS U3 O O fM O))$ qV (Sh (cs:=[_,_]) Vw O z0b O O)$ P4 Z6 O$ qV ((OS U3 O O fM O)) ?_
 refine qV (Sh (cs:=[_,_]) Vw O z0b O O)$ P4 zb2 O$ qV ((OS U3 O O fM O))$ qV (Sh (cs:=[_,_]) Vw O z0b O O)$ P4 zbq O$ qV ((OS U3 O O fM O))$ qV (Sh (cs:=[_,_]) Vw O z0b O O)$ P4 TF O$ qV ((OS U3 O O fM O))$ qV (Sh (cs:=[_,_]) Vw O z0b O O)$ P4 UR O$ qV ((OS U3 O O eS O))$ qV (Sh (cs:=[_,_]) Vw O z0b O O)$ OP O O (Yx (cs:=[_,_,_,_,_,_,_,_,_,_,_,_,_,_,_,_]) (zs:=[Value.int .i64 0,Value.int .i64 0,Value.int .i64 0,Value.int .i64 0,Value.int .i64 0,Value.int .i64 0,Value.int .i64 0,Value.int .i64 0,Value.int .i64 0,Value.int .i64 0,Value.int .i64 0,Value.int .i64 0,Value.int .i64 0,Value.int .i64 0,Value.int .i64 0,Value.int .i64 0]) zf8 Vw O (by kernel_rfl) O O O ψ) ?_
 rintro _ w6 ⟨b43,rfl,⟨CW,aR,dY⟩,nU⟩
 have ym:=cw.trans aR
 have m8:=nj.ext ym
 have z3:=ah.size
 have hL:(Z2 h).length=8:=rfl
 replace nU:Sl w6 (.slice (some ⟨b43,0,none⟩) 8 8) 215 2 8 ((Z2 h).flatMap λq=>[I (q.1:Int),I (q.2:Int)]):=nU
 refine RO zf8 O$ OT O$ OJ$ Pu.qb (e:=[(2,_),(3,_),(5,_),(43,_),(44,_),(45,_)]) ?_
 refine OL$ RN (α:=Nat) (0) (λi=>[(5,ptr wp 0),(43,.slice (some ⟨b43,0,none⟩) 8 8),(44,I 8),(45,I (i:Int))]) (λi w'=>WrR wp F w6 w' (Rn ((Z2 h).take i))/\i<=8) (λi=>8-i) ?hI ?hround
 case hI=>exact⟨⟨F,m8,Kp.refl _ _,λk hk=> .inl hk⟩,Nat.zero_le _⟩
 case hround=>
  rintro i w7 ⟨⟨F7,pn,aB,po⟩,hi⟩ ih
  try dsimp only
  refine qN O$ QV O$ OJ$ An$ OX O (λh0=>?_)$ λh0=>?_
  ·obtain⟨⟨v,c⟩,hq⟩:∃q,(Z2 h)[i]? =some q:=⟨_,List.getElem?_eq_getElem (by rw[hL];omega)⟩
   have Bo:v<2^c/\c<=64/\v<=134217728:=by
    have hm:=List.mem_of_getElem? hq;simp only[Z2,List.mem_cons,List.not_mem_nil,or_false,Prod.mk.injEq] at hm;rcases hm with⟨rfl,rfl⟩|⟨rfl,rfl⟩|⟨rfl,rfl⟩|⟨rfl,rfl⟩|⟨rfl,rfl⟩|⟨rfl,rfl⟩|⟨rfl,rfl⟩|⟨rfl,rfl⟩<;>refine⟨ω,ω,ω⟩
   have fi:(Rn ((Z2 h).take i)).length+c<=192:=by
    have e:Rn ((Z2 h).take (i+1))=Rn ((Z2 h).take i)++Pn c v:=by rw[PK hq];simp[Rn]
    have e2:=congrArg List.length e;rw[List.length_append,bitsN_length] at e2
    have e3:(Rn (Z2 h)).length=(Rn ((Z2 h).take (i+1))).length+(Rn ((Z2 h).drop (i+1))).length:=by
     conv=>lhs;rw[<-List.take_append_drop (i+1) (Z2 h)]
     unfold Rn;rw[List.flatMap_append,List.length_append]
    have e4:=UB h;omega
   have gQ:=nU.kp aB (λg hg e=>by have e1:b43=g:=RB hg;have:=m8.lt e;have:=nj.lt e;have:=cw.size;omega);have kD:=z0G (f:=λq:Nat×Nat=>[I (q.1:Int),I (q.2:Int)]) (λ_=>rfl) gQ.rd hq;refine OK$ QO$ qN O$ qV (Qc zf8 Vw O O ω)$ qV (Pv (news:=[I (v:Int),I (c:Int)]) zjM O Vw O kD O)$ OP O O (Rz (cs:=[_,_]) Vw O) ?_;rintro _ w8 ⟨b8,rfl,j3,cR,cu⟩;refine OY O (PL (news:=[I (v:Int),I (c:Int)]) Vw O O O O cu ξ) ?_;rintro w9 ⟨qG,aw⟩;replace qG:OU w9 b8 [I (v:Int),I (c:Int)] 215:=qG;have iK:Ext w7 w9:=cR.It aw (λi e=>by omega);refine OJ$ Rp O$ P4 zcX O$ qV (OS U3 O O qG O)$ qV ((Qg O U3 Rw ω))$ P4 zcy O$ qV (OS U3 O O qG O)$ Pb WE O (Sm (pn.ext iK) v c Bo.2.1 Bo.1 ω) ?_;rintro _ w10 ⟨rfl,F10,Eb,aA,co⟩;refine OJ$ OG$ OQ O$ Q4 O$ OT O$ OJ ((ih (i+1) _ ⟨⟨F10,?_,(aB.trans iK.kp).It aA (λk hk=>(po k hk).symm),λk hk=>?_⟩,ω⟩ ω).qb)
   ·rw[PK hq,show Rn ((Z2 h).take i++[(v,c)])=Rn ((Z2 h).take i)++Pn c v by simp[Rn]];exact Eb
   ·rcases co k hk with e| e
    ·exact po k e
    ·have:=aB.size;have:=iK.size;exact .inr ω
  ·have dq:i=8:=by omega
   subst dq;rw[show(Z2 h).take 8=Z2 h from rfl] at pn;refine OV O$ Pt O$ Pb z7E O (X9 pn) ?_;rintro _ w8 ⟨rfl,rfl⟩;have gE:(Pp (Rn (Z2 h))).length=24:=by rw[PE,UB]
   refine OT O$ SM O$ SH O$ R3 O$ qV (Yb O O (by first|omega|(simp;done)|(simp;omega))) ?_;refine OT O$ Qr O$ OI func75 O (⟨_,rfl,?_,((ad.trans aZ).trans ym).It aB (λk hk=>by have:=qx k hk;have:=ae.size;have:=ad.size;omega)⟩);simp[Q0,hdT,z8p]
def z5V {w:World}{ga:Option Addr}{gc:Nat}{g:List (List Nat)}(h:GrM w (.slice ga g.length gc) g)(hg:S7 g):Ps prog 74 [.slice ga g.length gc] w λu w'=>u=I (PX g:Int)/\w'=w:=by
 have hn:=hg.n
 obtain⟨vs,fI,nh⟩:=h.ex
 refine py (e:=[(0,_)]) func74 O ntmps74 O O$ qN O$ QW O$ P3 O$ PR O$ RO U23 O$ OT O$ OJ$ OL$ RN (α:=Nat) (0) (λi=>[(3,I (PX (g.take i):Int)),(6,.slice ga g.length gc),(7,I (g.length:Int)),(8,I (i:Int))]) (λi w'=>w'=w/\i<=g.length) (λi=>g.length-i) ?hI ?hround
 case hI=>exact⟨rfl,Nat.zero_le _⟩
 case hround=>
  rintro i w4 ⟨rfl,hi⟩ ih;have un:=TU hg i
  try dsimp only
  refine qN O$ QV O$ OJ$ An$ OX O (λh0=>?_)$ λh0=>?_
  ·obtain⟨l,hl⟩:∃l,g[i]? =some l:=⟨_,List.getElem?_eq_getElem ω⟩;have eK:=hg.len (List.mem_of_getElem? hl);obtain⟨a,c,e1,e2,e3⟩:=nh i l hl
   obtain⟨gb,go,gc',e4⟩:∃b o c',Value.slice ga g.length gc= .slice (some ⟨b,o,none⟩) g.length c':=by
    rcases fI.2 with⟨c,hc,h0⟩|⟨b,off,c',hc,-⟩
    ·omega
    ·exact⟨b,off,c',hc⟩
   cases e4;have Bq:=XO (g.take i) l;rw[<-PK hl] at Bq;refine OK$ QO$ qN O$ qV (Qc U23 U7 O O ω)$ qV (PC Pz O O (PY fI e1))$ P3 O$ OQ O$ Pl O$ RO Pz O$ Q4 O$ P3 O$ OG$ OQ O$ Q4 O ?_;refine OT O$ OJ ?_;rw[show(PX (g.take i):Int)+(l.length:Int)=(PX (g.take (i+1)):Int) by omega];exact(ih (i+1) _ ⟨rfl,ω⟩ ω).qb
  ·have dq:i=g.length:=by omega
   subst dq;rw[List.take_length];refine OV O$ Pt O$ P3 O$ OI func74 O ?_;exact⟨_,rfl,rfl,rfl⟩
end Go.Proofs.YtffbidffdbpcoaaGreatDoor
