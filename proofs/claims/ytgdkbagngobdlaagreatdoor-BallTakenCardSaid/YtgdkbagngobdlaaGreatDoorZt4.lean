/- Merged by program. -/
import Derived.Test.YtgdkbagngobdlaaGreatDoorZt3
set_option linter.all false
set_option maxRecDepth 1000000
set_option maxHeartbeats 16000000
namespace Go.Proofs.YtgdkbagngobdlaaGreatDoor
open Go Go.RowKit Go.Proofs.Tryz
def YO {w:World}(p:S6)(hp:p.QA)(x:Nat)(hx:x<65536){sa ra:Option Addr}{sc rc:Nat}(succ ref:List Nat)(hs:PE succ)(hr:PE ref)(r:Nat)(ij:r<=p.Pb)(lS:r=0->ref=[])
  (hG:OR w 2 (Sy .gamma) 317) (hU:OR w 3 (Sy .unary) 317) (dS:Rd w (.slice sa succ.length sc) 1 succ.length (succ.map Pq)) (mH:Rd w (.slice ra ref.length rc) 1 ref.length (ref.map Pq)) (fW:succ.length<=sc) (jF:ref.length<=rc):
  Pm prog 210 [lpV p,I (x:Int),.slice sa succ.length sc,.slice ra ref.length rc,I (r:Int)] w λu w'=>Sl w' u 319 3 (RE p x succ ref r).length ((RE p x succ ref r).flatMap z5V)/\(∀g,u.ownBlock=some g->w.heap.size<=g)/\Ext w w':=by
 obtain⟨g1,g2,g3,g4⟩:=id hp
 have fG:=hs.len
 have fR:=hr.len
 refine py (e:=[(0,_),(1,_),(2,_),(3,_),(4,_)]) func210 O ntmps210 O O$ qN O$ OM O O (Rm O (cs:=lpC p) O) ?_
 rintro _ w1 ⟨b5,rfl,ig,ad,aH⟩
 have z1:=ad.size
 have l5:=aH.lt
 refine Qw O$ qV (Pt (news:=[.int .u8 1,u64v 0]) St O QS O ((ad.OC hG).cells (n:=2) O) O)$ OK O$ Rv Ps O$ qV ((PZ O U3 Rr (by omega)))$ qV (Sk (cs:=[_,_,_]) Vy O zev O O)$ OM O O (Wj (cs:=[_,_,_]) (zs:=[Value.int .u8 0,Value.int .u64 0,Value.int .u64 0]) z1z Vy O (by kernel_rfl) O O O (by decide)) ?_
 rintro _ w2 ⟨b2,rfl,⟨cn,ae,am⟩,cH⟩
 have z2:=ae.size
 have l2:=am.lt
 refine OM O O (RN (cs:=[_]) zbu O) ?_
 rintro _ w3 ⟨n11,rfl,j9,ai,bA⟩
 have z3:=ai.size
 refine OW O (QQ zbu O O O bA (by simp)) ?_
 rintro w4 ⟨kX,ao⟩
 have z4:=ao.size
 replace kX:OR w4 n11 [.slice (some ⟨b2,0,none⟩) 1 1] 314:=kX
 have dO:=(cH.ext ai).kp ao (λg hg e=>by have h1:b2=g:=QU hg;omega)
 have vF:NuI w w1 p b5 n11 [(.gamma,succ.length)] w4:=⟨⟨fpW n11 (.slice (some ⟨b2,0,none⟩) 1 1),⟨_,⟨kX,dO,λe=>by have h1:b2=n11:=QU e;omega⟩,λ_=>Iff.rfl⟩,λk hk=>by
   rcases hk with e| e
   ·omega
   ·have h1:b2=k:=QU e
    omega⟩,((ad.trans ae).trans ai).An ao (λk e=>by omega),ao.OC (ai.OC (ae.OC aH)) (by omega),by omega⟩
 refine OD$ PG O$ Rv Ps O$ Ri O$ OD$ OQ O (λe0=>?_)$ λe0=>?_
 ·have eZ:succ=[]:=List.eq_nil_of_length_eq_zero (by omega);subst eZ;refine qN O$ qV (OO z1z O O kX O)$ OU O$ OB func210 O ?_;have lZ:RE p x [] ref r=[(.gamma,0)]:=by simp[RE]
  rw[lZ];exact⟨_,rfl,dO,λg hg=>by have h1:b2=g:=QU hg;omega,vF.ext⟩
 ·have gY := vF.b5; replace gY : OR w4 b5 [I (p.Pb : Int), I (p.interval : Int), I (p.zeta : Int)] 279 := gY; refine OE (qN O (qV (ymf (first := []) (caps := [.tmp 11]) O O) (OU O (It (qN O (OX Tg O (qV (OO U3 O O gY O) (Qu O (OD (PI (λe' w' => e' = [(1, I (x : Int)), (2, .slice sa succ.length sc), (3, .slice ra ref.length rc), (4, I (r : Int)), (5, ptr b5 0), (11, ptr n11 0), (12, .func (.func 232) #[] #[ptr n11 0])] /\ NuI w w1 p b5 n11 ([(.gamma, succ.length)] ++ (if 0 < p.Pb then [(.unary, r)] else [])) w') ?cE (λcE => ?cV)))))))))))
  case cE =>
   rintro e' w5 ⟨rfl,t8⟩;have CH:=t8.siz;refine qN O$ OM O O (Wj (cs:=[_]) (zs:=[Value.int .i64 0]) RB Q7 O (by kernel_rfl) O O O (by decide)) ?_;rintro _ w6 ⟨b43,rfl,⟨CI,aI,dT⟩,ni⟩;have l6:=dT.lt;refine OM O O (RN (cs:=[_]) z64 O) ?_;rintro _ w7 ⟨rn,rfl,JX,bY,wX⟩;have l7:=wX.lt;have z7:=bY.size;refine OM O O (RN (cs:=[_]) SO O) ?_;rintro _ w8 ⟨lf,rfl,JY,dy,wY⟩;have l8:=wY.lt;have z8:=dy.size;refine OW O (QQ z64 O O O (dy.OC wX) (by simp)) ?_;rintro w9 ⟨nj,aM⟩;have z9:=aM.size;replace nj:OR w9 rn [.slice (some ⟨b43,0,none⟩) 1 1] 43:=nj;refine OW O (QQ SO O O O (aM.OC wY (by omega)) (by simp)) ?_;rintro w10 ⟨km,ar⟩;have z10:=ar.size;replace km:OR w10 lf [.slice none 0 0] 49:=km;have gx:Ext w5 w10:=(((aI.trans bY).trans dy).An aM (λk e=>by omega)).An ar (λk e=>by omega)
   have nl:NuI w w1 p b5 n11 ([(.gamma,succ.length)]++(if 0<p.Pb then [(.unary,r)] else [])) w10:=by
    obtain⟨⟨F,h1,h2⟩,h3,h4,h5⟩:=t8;exact⟨⟨F,h1.ext gx,h2⟩,h3.trans gx,gx.OC h4,by have:=gx.size;omega⟩
   have bz:=(((ni.ext bY).ext dy).kp aM (λg hg e=>by have h1:b43=g:=QU hg;omega)).kp ar (λg hg e=>by have h1:b43=g:=QU hg;omega);have JZ:z3H w10 lf [] (fpW lf (.slice none 0 0)):=⟨_,⟨km,Sl.nil _ _ _,λe=>by cases e⟩,λ_=>Iff.rfl⟩;have K0:z2k w10 rn [0] (fpW rn (.slice (some ⟨b43,0,none⟩) 1 1)):=⟨_,⟨ar.OC nj (by omega),bz,λe=>by have h1:b43=rn:=QU e;omega⟩,λ_=>Iff.rfl⟩
   have jG:∀k,fpW lf (.slice none 0 0) k->k=lf:=λk hk=>by
    rcases hk with e| e
    ·exact e
    ·cases e
   have kR:∀k,fpW rn (.slice (some ⟨b43,0,none⟩) 1 1) k->k=rn\/k=b43:=λk hk=>by
    rcases hk with e| e
    ·exact .inl e
    ·exact .inr (QU e).symm
   have cA:∀k,fpW lf (.slice none 0 0) k\/fpW rn (.slice (some ⟨b43,0,none⟩) 1 1) k->w5.heap.size<=k:=λk hk=>by
    rcases hk with e| e
    ·have:=jG k e;omega
    ·rcases kR k e with e|e<;>omega
   have hE:Ue w10 succ ref lf rn (fpW lf (.slice none 0 0)) (fpW rn (.slice (some ⟨b43,0,none⟩) 1 1)) succ sa sc ref ra rc [] [0] w10:=by
    refine⟨⟨_,_,[],JZ,K0,Ty.zero,by simpa using fR,by simp;omega,λk h=> .inl h,λk h=> .inl h,λk h1 h2=>?_⟩,λw2 k=>?_,λw2 k=>?_,fW,jF,Kp.refl _ _,hs,hr,rfl,rfl,by simpa using fG⟩
    ·have e1:=jG k h1;rcases kR k h2 with e2|e2<;>omega
    ·exact(dS.ext nl.ext).kpz k (λh0 g hg hS=>by have e1:=dS.ltz (by decide) h0 hg;have e2:=cA g hS;omega)
    ·exact(mH.ext nl.ext).kpz k (λh0 g hg hS=>by have e1:=mH.ltz (by decide) h0 hg;have e2:=cA g hS;omega)
   refine qM O$ P8 O$ qV (ymf (first:=[]) (caps:=[.tmp 14,.tmp 13]) O O)$ P4 ziC O (zbL hE) ?_;rintro _ w11 ⟨rfl,FL,FR,wZ,pz,CJ,CK,lQ,bu⟩
   have pA:NuI w w1 p b5 n11 ([(.gamma,succ.length)]++(if 0<p.Pb then [(.unary,r)] else [])) w11:=by
    have aS:Kp (λk=>fpW lf (.slice none 0 0) k\/fpW rn (.slice (some ⟨b43,0,none⟩) 1 1) k) w10 w11:=bu;have CL:=t8.ex;obtain⟨⟨F,h1,h2⟩,h3,h4,h5⟩:=nl;obtain⟨F5,h6,h7⟩:=CL;have ig:b5<w5.heap.size:=t8.b5.lt;refine⟨⟨F5,(h6.ext gx).kp aS (λk hk hS=>by have e1:=h6.lt hk;have e2:=cA k hS;omega),h7⟩,h3.An aS (λk hk=>by have e2:=cA k hk;have:=t8.ext.size;omega),aS.OC h4 (λhS=>by have e2:=cA b5 hS;omega),by have:=aS.size;omega⟩
   generalize hA:([(Cd.gamma,succ.length)]++(if 0<p.Pb then [(Cd.unary,r)] else []):List (Cd×Nat))=A at pA nl t8
   have NE:A.length<=2:=by rw[<-hA];split<;>simp
   have x7:∀k,(FL k\/FR k)->k<w11.heap.size:=λk hk=>by
    rcases hk with e| e
    ·exact wZ.lt e
    ·exact pz.lt e
   have pB:NuX w w1 w11 p b5 n11 (λk=>FL k\/FR k) A w11:=by
    obtain⟨F5,h6,h7⟩:=t8.ex;have NF:=gx.size;refine⟨⟨F5,(h6.ext gx).kp bu (λk hk hS=>by have e1:=h6.lt hk;have e2:=cA k hS;omega),h7,λk hk hX=>?_⟩,pA.ext,pA.b5,pA.siz,Kp.refl _ _⟩;have e1:=h6.lt hk;rcases hX with e| e
    ·rcases CJ k e with e2|e2
     ·have:=cA k (.inl e2);omega
     ·omega
    ·rcases CK k e with e2|e2
     ·have:=cA k (.inr e2);omega
     ·omega
   refine OD$ PG O$ Qu O$ OD$ PI (λe' w'=>e'=[(1,I (x:Int)),(5,ptr b5 0),(11,ptr n11 0),(12,.func (.func 232) #[] #[ptr n11 0]),(14,ptr lf 0)]/\NuX w w1 w11 p b5 n11 (λk=>FL k\/FR k) (A++(if 0<r then(.gamma,(Rf succ ref).length-1)::Qp 0 (Rf succ ref).dropLast else [])) w') ?dv$ λdv=>?ff
   case dv =>
    rintro e' w12 ⟨rfl,jd⟩;have dD:succ≠[]:=λe=>e0 (by rw[e];rfl)
    generalize hB:(if 0<r then(Cd.gamma,(Rf succ ref).length-1)::Qp 0 (Rf succ ref).dropLast else []:List (Cd×Nat))=B at jd
    have x8:=wZ.kp jd.kx (λk hk e=>e (.inl hk));obtain⟨vl,B3,NG⟩:=x8;obtain⟨la,lc,rfl,-⟩:=B3.sl.rd.shape;obtain⟨F,⟨vn,rk,x9⟩,oP,CM⟩:=id jd.ex;have HZ:=B3.OC;have vG:=rk.OC;refine It$ qN O$ qV ((OO Ps O O HZ O))$ Rv Ps O$ Ri O$ OD$ OQ O (λe3=>?_)$ λe3=>?_
    ·have j7:Pk succ ref=[]:=List.eq_nil_of_length_eq_zero (by omega)
     have fk:RE p x succ ref r=A++B:=by
      unfold RE;rw[if_neg dD,if_pos j7,List.append_nil,<-hA,<-hB];rfl
     refine qN O$ qV ((OO z1z O O vG O))$ OU O$ OB func210 O ?_;rw[fk];exact⟨_,rfl,rk.sl,λg hg=>by have:=oP g ((x9 g).2 (.inr hg));omega,jd.ext⟩
    ·have rp := jd.b5; replace rp : OR w12 b5 [I (p.Pb : Int), I (p.interval : Int), I (p.zeta : Int)] 279 := rp; refine OE (qN O (qV ((OO Ps O O HZ O)) (OX Ul O (qV ((OO U3 O O rp O)) ?_)))); have ay : PE (Pk succ ref) := hs.sub List.filter_sublist; have K4 := ay.len
     have iz:(Pk succ ref).length<=lc:=by
      rcases B3.sl.shape with⟨-,h0⟩|⟨g,c1,hv,dX⟩
      ·omega
      ·cases hv;exact dX
     refine P4 zji O (zaE la lc (Pk succ ref) p.interval ay iz (by omega) w12 B3.sl.rd) ?_;rintro _ w13 ⟨v4,v5,rfl,m5,nn,aO,pC,pD,I0⟩;have dx:=UB p.interval (Pk succ ref);have pE:PE (PT p.interval (Pk succ ref)).2:=ay.sub dx
     have gR:∀k,(v4.ownBlock=some k\/v5.ownBlock=some k)->w12.heap.size<=k/\k<w13.heap.size:=λk hk=>by
      rcases hk with e| e
      ·exact⟨pC k e,m5.lt e⟩
      ·exact⟨pD k e,nn.lt e⟩
     have pF:NuX w w1 w13 p b5 n11 (λk=>v4.ownBlock=some k\/v5.ownBlock=some k) (A++B) w13:=by
      have jT:∀k,F k->k<w12.heap.size:=λk hk=>by
       rcases (x9 k).1 hk with e| e
       ·rw[e];exact rk.OC.lt
       ·exact rk.sl.lt e
      have xa:z5r w12 n11 (A++B) F:=⟨vn,rk,x9⟩;exact⟨⟨F,xa.ext aO,oP,λk hk hX=>by have e1:=jT k hk;have e2:=(gR k hX).1;omega⟩,jd.ext.trans aO,aO.OC jd.b5,by have e1:=jd.siz;have e2:=aO.size;omega,Kp.refl _ _⟩
     have xc:=aO.OC rp;have K5:=m5.oneV;have K7:=nn.oneV;refine OK O$ RA O$ PU O$ It$ qN O$ OX Ul O$ qV (OO U3 O O xc O)$ Qu O$ OD ?_
     have K9:(A++B).length<=200000:=by
      rw[List.length_append,<-hB];split
      ·rw[List.length_cons,Tc,List.length_dropLast];have h1:=(Td succ ref).z1f;rw[List.length_map] at h1;omega
      ·simp;omega
     generalize hQ:PT p.interval (Pk succ ref)=Q at m5 nn pE dx
     have xd:Q.1.length<=65536:=by
      have h1:=TD p.interval (Pk succ ref);have h2:=h1.length_eq;rw[hQ,List.length_append] at h2
      have h3:∀R:List (Nat×Nat),T3 p.interval 0 R->R.length<=(QW R).length:=by
       have h4:∀(R:List (Nat×Nat)) (lo:Nat),T3 p.interval lo R->R.length<=(QW R).length:=by
        intro R
        induction R with
        |nil=>intro lo h;exact Nat.le_refl _
        | cons q R ih =>
          intro lo h;have h5:=ih _ h.2.2.2;have h6:1<=q.2:=h.2.1;rw[show QW (q::R)=(List.range q.2).map (q.1+·)++QW R from rfl,List.length_append,List.length_map,List.length_range,List.length_cons];omega
       exact λR h=>h4 R 0 h
      have h5:=h3 _ (UZ p.interval (Pk succ ref) 0 ay.ZN (λy _=>Nat.zero_le _));rw[hQ] at h5;omega
     have pG:T3 p.interval 0 Q.1:=by have h:=UZ p.interval (Pk succ ref) 0 ay.ZN (λy _=>Nat.zero_le _);rwa [hQ] at h
     have ta:∀q∈Q.1,1<=q.2->q.1+q.2<=65536:=λq hq h1=>zaG (least:=p.interval) ay.lt (by rw[hQ];exact hq) h1
     have xe:∃fa fc,v4= .slice fa Q.1.length fc:=by
      obtain⟨fa,fc,e,-⟩:=m5.rd.shape;exact⟨fa,fc,e⟩
     obtain⟨fa,fc,rfl⟩:=xe;refine PI (λe' w'=>e'=[(1,I (x:Int)),(5,ptr b5 0),(11,ptr n11 0),(12,.func (.func 232) #[] #[ptr n11 0]),(17,.slice fa Q.1.length fc),(18,v5)]/\NuX w w1 w13 p b5 n11 (λk=>(Value.slice fa Q.1.length fc).ownBlock=some k\/v5.ownBlock=some k) (A++B++if 0<p.interval then [(.gamma,Q.1.length)] else []) w') ?aw$ λaw=>?dz
     case aw =>
      rintro e' w14 ⟨rfl,xh⟩;refine QB O$ PG O$ Rv zbW O$ OK O$ OD$ OH ?_
      generalize CN:(if 0<p.interval then [(Cd.gamma,Q.1.length)] else []:List (Cd×Nat))=C0 at xh
      refine RX (λe' w'=>e'=[(1,I (x:Int)),(5,ptr b5 0),(11,ptr n11 0),(12,.func (.func 232) #[] #[ptr n11 0]),(18,v5)]/\NuX w w1 w13 p b5 n11 (λk=>(Value.slice fa Q.1.length fc).ownBlock=some k\/v5.ownBlock=some k) (A++B++C0++PM x p.interval none Q.1) w') ?kj$ λkj=>?kl
      case kj =>
       rintro e' w15 ⟨rfl,gy⟩;obtain⟨F15,gz,m6,je⟩:=gy.ex;have nq:=gy.b5;replace nq:OR w15 b5 [I (p.Pb:Int),I (p.interval:Int),I (p.zeta:Int)] 279:=nq;refine qN O$ OX z0J O$ qV (OO U3 O O nq O)$ qV ((PZ O U3 Rr (by omega)))$ qV (Sk (cs:=[_,_]) QS O zeh O O)$ OM O O (RN (cs:=[_,_]) QS O) ?_;rintro _ w16 ⟨b22,rfl,Ka,aX,iA⟩;have z16:=aX.size;refine OW O (PO (news:=[.int .u8 3,u64v p.zeta]) QS O O O O iA (by simp)) ?_;rintro w17 ⟨kY,ci⟩;replace kY:OR w17 b22 [.int .u8 3,u64v p.zeta] 317:=kY;have fP:Ext w15 w17:=aX.An ci (λk e=>by omega);have z17:=fP.size;have iX:¬F15 b22:=λe=>by have:=gz.lt e;omega
       have eh:=(nn.kp gy.kx (λg hg e=>e (.inr hg))).ext fP
       obtain⟨ha,hc,e5⟩:∃a c,v5= .slice a Q.2.length c:=by
        obtain⟨fa,fc,e,-⟩:=nn.rd.shape;exact⟨fa,fc,e⟩
       subst e5;have m7:=(gy.ex2 fP).again (X':=λk=>(Value.slice ha Q.2.length hc).ownBlock=some k\/k=b22) (gz.ext fP) m6 (λk hk hX=>by rcases hX with hX|e;exact je k hk (.inr hX);exact iX (e▸hk));have l22:=kY.lt
       have oQ:∀k,((Value.slice ha Q.2.length hc).ownBlock=some k\/k=b22)->k<w17.heap.size:=λk hk=>by
        rcases hk with e| e
        ·have:=eh.lt e;omega
        ·omega
       have xi:=pE.len
       have CO:(A++B++C0++PM x p.interval none Q.1).length<=400000:=by
        rw[List.length_append,List.length_append,Su,<-CN];split<;>simp only[List.length_cons,List.length_nil]<;>omega
       refine OD$ PG O$ Rv Ps O$ OK O$ OD$ OH$ Rq (α:=Nat) (0) (λi=>[(1,I (x:Int)),(11,ptr n11 0),(12,.func (.func 232) #[] #[ptr n11 0]),(18,.slice ha Q.2.length hc),(22,ptr b22 0),(138,.slice ha Q.2.length hc),(139,I (Q.2.length:Int)),(140,I (i:Int))]) (λi w'=>NuX w w1 w17 p b5 n11 (λk=>(Value.slice ha Q.2.length hc).ownBlock=some k\/k=b22) (A++B++C0++PM x p.interval none Q.1++PN x p.zeta none (Q.2.take i)) w'/\i<=Q.2.length) (λi=>Q.2.length-i) ?hI ?hround
       case hI=>exact⟨by simpa[PN] using m7,Nat.zero_le _⟩
       case hround=>
        rintro i w18 ⟨fm,hi⟩ ih
        try dsimp only
        refine qN O$ Qq O$ OD$ It$ OQ O (λe5=>?_)$ λe5=>?_
        ·have dC:i<Q.2.length:=by omega
         obtain⟨v,hv⟩:∃v,Q.2[i]? =some v:=⟨_,List.getElem?_eq_getElem dC⟩;have nr:v<65536:=pE.lt v (List.mem_of_getElem? hv);have xj:=eh.kp fm.kx (λg hg e=>e (.inl hg))
         obtain⟨g5,c5,e6⟩:∃g c,Value.slice ha Q.2.length hc= .slice (some ⟨g,0,none⟩) Q.2.length c:=by
          rcases eh.shape with⟨-,h0⟩|⟨g,c,e,hc⟩
          ·omega
          ·exact⟨g,c,e⟩
         cases e6;obtain⟨F18,kZ,pH,ik⟩:=fm.ex;have xl:=fm.kx.OC kY (λe=>e (.inr O));have rq:¬F18 b22:=λe=>ik b22 e (.inr O);have hg:=Ext.OT w18;have B4:=fm.ex2 hg
         have pI:(A++B++C0++PM x p.interval none Q.1++PN x p.zeta none (Q.2.take i)).length<=500000:=by
          rw[List.length_append,Tl,List.length_take];omega
         refine OE$ Qx$ Pf O$ qV (PX Ps OP O O (by omega))$ qV (Pr Py O O (Qo xj.rd (show(Q.2.map Pq)[i]? =some (Pq v) by rw[List.getElem?_map,hv];rfl))) ?_;refine RT O$ Qt O$ Ri O$ OD$ OQ O (λe6=>?_)$ λe6=>?_
         ·have ko:i=0:=by omega
          refine R5 (λw'=>Kp F18 w18 w') O$ OZ 0 O O (hg.kp)$ OZ 2 O O (hg.kp)$ OI 3 O (PJ O Py U2 (by omega)) (hg.kp)$ OZ 4 O O (hg.kp)$ OI 5 O (XH O O (by omega)) (hg.kp)$ qT 1 O (λ_ h=>Pt (news:=[.int .u8 3,u64v p.zeta]) St O QS O ((h.OC xl rq).cells (n:=2) O) O) (hg.kp)$ SK 6 O zfm O (z8p ((v:Int)-x) (by omega) _) ?_;rintro _ w19 ⟨rfl,rfl⟩;refine⟨hg.kp,?_⟩;have rt:=Ze (z:=(v:Int)-x) (n:=65537) (by omega) (by omega);refine OI 7 O (PJ O Rr U3 (by omega)) (hg.kp)$ qO 8$ Wa (i:=8) O O O (RY Yr O O) (Tw (kZ.ext hg) (by omega) (.zeta p.zeta) (zig ((v:Int)-x)) (by omega)) ?_;rintro _ w20 ⟨rfl,F20,tc,ns,te⟩;refine⟨hg.kp.trans ns,?_⟩;have pJ:=B4.put oQ pH ik l5 z1 ⟨F20,tc,ns,te⟩;refine qE$ OA$ OL O$ PV O$ OK O$ OD ((ih (i+1) _ ⟨?_,by omega⟩ (by omega)).qb);rw[PQ hv,XG,<-List.append_assoc,show Q.2.take i=[] by rw[ko];rfl];rw[show Q.2.take i=[] by rw[ko];rfl] at pJ;exact pJ
         ·have ko:0<i:=by omega
          obtain⟨u,hu⟩:∃u,Q.2[i-1]? =some u:=⟨_,List.getElem?_eq_getElem (by omega)⟩
          have NH:u<v:=by
           obtain⟨a1,a2⟩:=List.getElem?_eq_some_iff.1 hu;obtain⟨b1,b2⟩:=List.getElem?_eq_some_iff.1 hv;have:=List.pairwise_iff_getElem.1 pE.ZN (i-1) i a1 b1 (by omega)
           rwa [a2,b2] at this
          refine R5 (λw'=>Kp F18 w18 w') O$ OZ 0 O O (hg.kp)$ OZ 2 O O (hg.kp)$ OZ 3 O O (hg.kp)$ OZ 4 O O (hg.kp)$ qT 1 O (λ_ h=>Pt (news:=[.int .u8 3,u64v p.zeta]) St O QS O ((h.OC xl rq).cells (n:=2) O) O) (hg.kp)$ OI 5 O (XH O O (by omega)) (hg.kp) ?_;rw[show(i:Int)-1=((i-1:Nat):Int) by omega];refine OI 6 O (PX Ps OP O O (by omega)) (hg.kp)$ qT 7 O (λ_ hS=>Pr Py O O (Qo (xj.kp hS (λg hg e=>ik g e (.inl hg))).rd (show(Q.2.map Pq)[i-1]? =some (Pq u) by rw[List.getElem?_map,hu];rfl))) (hg.kp) ?_;refine OI 8 O (VZ (m:=v) (n:=u) O O O (by show v<2^32;omega) (by omega)) (hg.kp) ?_;refine OI 9 O (VZ (m:=v-u) (n:=1) O O O (by show v-u<2^32;omega) (by omega)) (hg.kp) ?_;refine OI 10 O (PJ O Py U3 (by omega)) (hg.kp)$ qO 11$ Wa (i:=11) O O O (RY Yr O O) (Tw (kZ.ext hg) (by omega) (.zeta p.zeta) (v-u-1) (by omega)) ?_;rintro _ w20 ⟨rfl,F20,tc,ns,te⟩;refine⟨hg.kp.trans ns,?_⟩;have pJ:=B4.put oQ pH ik l5 z1 ⟨F20,tc,ns,te⟩;refine qE$ OA$ OL O$ PV O$ OK O$ OD ((ih (i+1) _ ⟨?_,by omega⟩ (by omega)).qb);rw[PQ hv,XG,<-List.append_assoc,List.getLast?_take,if_neg (by omega),hu];exact pJ
        ·have bQ:i=Q.2.length:=by omega
         rw[bQ,List.take_length] at fm;obtain⟨F,⟨vn,rk,x9⟩,oP,CM⟩:=id fm.ex;have vG:=rk.OC
         have fk:RE p x succ ref r=A++B++C0++PM x p.interval none Q.1++PN x p.zeta none Q.2:=by
          have j7:¬Pk succ ref=[]:=λe=>e3 (by rw[e];rfl);unfold RE;rw[if_neg dD,if_neg j7,hQ,hB,<-hA,<-CN];by_cases ko:0<p.interval
          ·simp only[if_pos ko,List.append_assoc,List.cons_append,List.nil_append]
          ·have cX:Q.1=[]:=by rw[<-hQ,show p.interval=0 by omega];exact Y3 _
           rw[cX];simp only[if_neg ko,List.append_assoc,List.cons_append,List.nil_append,PM]
         refine ON O$ qN O$ qV (OO z1z O O vG O)$ OU O$ OB func210 O ?_;rw[fk];exact⟨_,rfl,rk.sl,λg hg=>by have:=oP g ((x9 g).2 (.inr hg));omega,fm.ext⟩
      case kl=>
       refine Rq (α:=Nat) (0) (λi=>[(1,I (x:Int)),(5,ptr b5 0),(11,ptr n11 0),(12,.func (.func 232) #[] #[ptr n11 0]),(18,v5),(19,I (z7a (YA (Q.1.take i)))),(94,.slice fa Q.1.length fc),(95,I (Q.1.length:Int)),(96,I (i:Int))]) (λi w'=>NuX w w1 w13 p b5 n11 (λk=>(Value.slice fa Q.1.length fc).ownBlock=some k\/v5.ownBlock=some k) (A++B++C0++PM x p.interval none (Q.1.take i)) w'/\i<=Q.1.length) (λi=>Q.1.length-i) ?hI ?hround
       case hI=>exact⟨by simpa[PM] using xh,Nat.zero_le _⟩
       case hround =>
        rintro i w15 ⟨gy,hi⟩ ih
        try dsimp only
        refine qN O$ Qq O$ OD$ It$ OQ O (λe5=>?_)$ λe5=>?_
        ·have dC:i<Q.1.length:=by omega
         obtain⟨⟨q1,q2⟩,hq⟩:∃q,Q.1[i]? =some q:=⟨_,List.getElem?_eq_getElem dC⟩;obtain⟨ok1,ok2,ok3,-⟩:=Zy Q.1 0 i (q1,q2) pG hq;dsimp only at ok1 ok2 ok3;have NI:q1+q2<=65536:=ta (q1,q2) (List.mem_of_getElem? hq) ok1;have CP:=m5.kp gy.kx (λg hg e=>e (.inl hg))
         obtain⟨g4,c4,e4⟩:∃g c,Value.slice fa Q.1.length fc= .slice (some ⟨g,0,none⟩) Q.1.length c:=by
          rcases m5.shape with⟨-,h0⟩|⟨g,c,e,hc⟩
          ·omega
          ·exact⟨g,c,e⟩
         cases e4;obtain⟨F15,gz,m6,je⟩:=gy.ex;refine OE$ Qx$ qN O$ qV (PX zbW z1V O O (by omega))$ qV (Pt (news:=[I (q1:Int),I (q2:Int)]) zkQ O z1V O (zcJ CP.rd hq) O)$ OM O O (RN (cs:=[_,_]) z1V O) ?_;rintro _ w16 ⟨b21,rfl,Kb,aX,CQ⟩;have z16:=aX.size;refine OW O (PO (news:=[I (q1:Int),I (q2:Int)]) z1V O O O O CQ (by simp)) ?_;rintro w17 ⟨gA,ci⟩;replace gA:OR w17 b21 [I (q1:Int),I (q2:Int)] 350:=gA;have fP:Ext w15 w17:=aX.An ci (λk e=>by omega);have m7:=gy.ex2 fP;have iX:¬F15 b21:=λe=>by have:=gz.lt e;omega
         have oG:¬F15 2:=λe=>by have:=m6 2 e;have:=hG.lt;omega
         have CO:(A++B++C0++PM x p.interval none (Q.1.take i)).length<=400000:=by
          rw[List.length_append,List.length_append,Su,List.length_take,<-CN];split<;>simp only[List.length_cons,List.length_nil]<;>omega
         refine OD$ PG O$ Qq O$ OD ?_;have ru:=m7.again (X':=(λk=>((Value.slice (some ⟨g4,0,none⟩) Q.1.length fc).ownBlock=some k\/v5.ownBlock=some k)\/k=b21)) (gz.ext fP) m6 (λk hk hX=>by rcases hX with hX|e;exact je k hk hX;exact iX (e▸hk));have Kc:=fP.size;have l21:=gA.lt
         have oQ:∀k,(((Value.slice (some ⟨g4,0,none⟩) Q.1.length fc).ownBlock=some k\/v5.ownBlock=some k)\/k=b21)->k<w17.heap.size:=λk hk=>by
          rcases hk with e| e
          ·have:=(gR k e).2;have:=gy.kx.size;omega
          ·omega
         refine PI (λe' w'=>e'=[(1,I (x:Int)),(5,ptr b5 0),(11,ptr n11 0),(12,.func (.func 232) #[] #[ptr n11 0]),(18,v5),(21,ptr b21 0),(94,.slice (some ⟨g4,0,none⟩) Q.1.length fc),(95,I (Q.1.length:Int)),(96,I (i:Int))]/\NuX w w1 w17 p b5 n11 (λk=>((Value.slice (some ⟨g4,0,none⟩) Q.1.length fc).ownBlock=some k\/v5.ownBlock=some k)\/k=b21) (A++B++C0++PM x p.interval none (Q.1.take i)++[(.gamma,Uv x (YA (Q.1.take i)) q1)]) w') ?dp$ λdp=>?CS
         case dp=>
          rintro e' w18 ⟨rfl,fm⟩;obtain⟨F18,kZ,pH,ik⟩:=fm.ex;have xm:=fm.kx.OC gA (λe=>e (.inr O));have nt:=fm.b5;replace nt:OR w18 b5 [I (p.Pb:Int),I (p.interval:Int),I (p.zeta:Int)] 279:=nt;refine Pf O$ qV (Pt (news:=[.int .u8 1,u64v 0]) St O QS O ((fm.ext.OC hG).cells (n:=2) O) O)$ OX z8t O$ qV ((OO U3 O O xm O))$ OX Ul O$ qV ((OO U3 O O nt O))$ Ro O ?_;rw[show(q2:Int)-(p.interval:Int)=((q2-p.interval:Nat):Int) by omega];refine Qz O O (RY Yr O O) (Tw kZ (by rw[List.length_append,List.length_singleton];omega) .gamma (q2-p.interval) (by omega)) ?_;rintro _ w19 ⟨rfl,CR⟩;have xn:=fm.put oQ pH ik l5 z1 CR;have rv:=xn.kx.OC gA (λe=>e (.inr O));refine OD$ OL O$ OX z3q O$ qV (OO U3 O O rv O)$ OX z8t O$ qV (OO U3 O O rv O)$ PV O$ Ro O$ OU O$ OA$ OL O$ PV O$ OK O$ OD ?_;rw[show(q1:Int)+q2-1=z7a (YA (Q.1.take (i+1))) by rw[PQ hq,z9D];show _=((q1+q2-1:Nat):Int);omega];refine(ih (i+1) _ ⟨?_,by omega⟩ (by omega)).qb;rw[PQ hq,z27,<-List.append_assoc,show [(Cd.gamma,Uv x (YA (Q.1.take i)) q1),(Cd.gamma,q2-p.interval)]=[(Cd.gamma,Uv x (YA (Q.1.take i)) q1)]++[(Cd.gamma,q2-p.interval)] from rfl,<-List.append_assoc];exact m7.back xn (λk hk=> .inl hk)
         case CS=>
          have hg:=Ext.OT w17;have B4:=ru.ex2 hg
          cases hE:YA (Q.1.take i) with
          | none =>
            refine OQ O (λe6=>?_)$ λe6=>?_
            ·refine R5 (λw'=>Kp F15 w17 w') O$ OZ 0 O O (hg.kp)$ OI 2 O (Pp z3q O) (hg.kp)$ qT 3 O (λ_ h=>OO U3 O O (h.OC gA iX) O) (hg.kp)$ OZ 4 O O (hg.kp)$ OI 5 O (XH O O (by omega)) (hg.kp)$ qT 1 O (λ_ hS=>Pt (news:=[.int .u8 1,u64v 0]) St O QS O ((hS.OC (m7.ext.OC hG) oG).cells (n:=2) O) O) (hg.kp)$ SK 6 O zfm O (z8p ((q1:Int)-x) (by omega) _) ?_;rintro _ w18 ⟨rfl,rfl⟩;refine⟨hg.kp,?_⟩;have rt:=Ze (z:=(q1:Int)-x) (n:=65537) (by omega) (by omega);refine OI 7 O (PJ O Rr U3 (by omega)) (hg.kp)$ qO 8$ Wa (i:=8) O O O (RY Yr O O) (Tw ((gz.ext fP).ext hg) (by omega) .gamma (zig ((q1:Int)-x)) (by omega)) ?_;rintro _ w19 ⟨rfl,F19,CT,xo,CU⟩;refine⟨hg.kp.trans xo,?_⟩;refine qE ?_;exact(dp _ _ ⟨rfl,by rw[hE];exact B4.put oQ m6 (λk hk hX=>by rcases hX with hX|e;exact je k hk hX;exact iX (e▸hk)) l5 z1 ⟨F19,CT,xo,CU⟩⟩).qb
            ·exact absurd (by decide) e6
          | some z =>
            refine OQ O (λe6=>?_)$ λe6=>?_
            ·exact absurd e6 (by show ¬((z:Int)<0);omega)
            ·have hz:=ok3 z hE;refine Rh O$ qV (Pt (news:=[.int .u8 1,u64v 0]) St O QS O ((m7.ext.OC hG).cells (n:=2) O) O) ?_;rw[show z7a (some z)=(z:Int) from rfl];refine OX z3q O$ qV (OO U3 O O gA O)$ OK O$ Ro O$ Ro O ?_;rw[show(q1:Int)-z-2=((q1-z-2:Nat):Int) by omega];refine Qz O O (RY Yr O O) (Tw (gz.ext fP) (by omega) .gamma (q1-z-2) (by omega)) ?_;rintro _ w18 ⟨rfl,CV⟩;refine OD ?_;exact(dp _ _ ⟨rfl,by rw[hE];exact ru.put oQ m6 (λk hk hX=>by rcases hX with hX|e;exact je k hk hX;exact iX (e▸hk)) l5 z1 CV⟩).qb
        ·have bQ:i=Q.1.length:=by omega
         rw[bQ,List.take_length] at gy;refine ON O ?_;exact(kj _ _ ⟨rfl,gy⟩).qb
     case dz=>
      refine OQ O (λe4=>?_)$ λe4=>?_
      ·have ko:0<p.interval:=by omega
       obtain⟨F13,nu,tf,nv⟩:=pF.ex;refine Rh O$ qV (Pt (news:=[.int .u8 1,u64v 0]) St O QS O ((pF.ext.OC hG).cells (n:=2) O) O)$ OK O$ Rv zbW O$ Qz O O (RY Yr O O) (Tw nu (by omega) .gamma Q.1.length (by omega)) ?_;rintro _ w14 ⟨rfl,th⟩;refine OD$ Pn.qb (e:=[(1,_),(5,_),(11,_),(12,_),(17,_),(18,_)]) ?_;exact(aw _ _ ⟨rfl,by rw[if_pos ko];exact pF.put (λk hk=>(gR k hk).2) tf nv l5 z1 th⟩).qb
      ·have ko:¬0<p.interval:=by omega
       refine OE ?_;exact(aw _ _ ⟨rfl,by rw[if_neg ko,List.append_nil];exact pF⟩).qb
   case ff =>
    refine OQ O (λe2=>?_)$ λe2=>?_
    ·have ti : 0 < r := by omega
     have pK:=Td succ ref;rw[if_pos ti] at dv
     generalize Rf succ ref=rs at pK pz dv
     obtain⟨l,m,rfl⟩:∃l m,rs=l++[m]:=⟨rs.dropLast,rs.getLast pK.ne,(List.dropLast_concat_getLast pK.ne).symm⟩;have tp:(l++[m]).length=l.length+1:=by simp
     have fS:l.length<=65537:=by have h1:=pK.z1f;rw[List.length_map,tp] at h1;omega
     rw[List.dropLast_concat,tp,Nat.add_sub_cancel] at dv;obtain⟨vr,B5,I1⟩:=id pz;rw[tp] at B5;rcases B5.sl.shape with⟨-,h0⟩|⟨g,c1,rfl,dX⟩
     ·omega
     have I2:=B5.OC;obtain⟨F,xa,hf,Kd⟩:=pB.ex;refine Pf O$ qV (Pt (news:=[.int .u8 1,u64v 0]) St O QS O ((pB.ext.OC hG).cells (n:=2) O) O)$ qV (OO RB O O I2 O)$ Rv RB O$ Ro O ?_;rw[show((l.length+1:Nat):Int)-1=(l.length:Int) by omega];refine Qz O O (RY Yr O O) (Tw xa (by omega) .gamma l.length (by omega)) ?_;rintro _ w12 ⟨rfl,CW⟩;have iB:=pB.put x7 hf Kd l5 z1 CW;have I3:=pz.kp iB.kx (λk hk e=>e (.inr hk));have rx:=iB.kx.OC I2 (λe=>e (.inr ((I1 rn).2 (.inl O))));refine qM O$ qV (OO RB O O rx O) ?_;rw[show((l.length+1:Nat):Int)=((l.length+1:Nat):Int) from rfl];refine qV (OO RB O O rx O)$ Rv RB O$ Ro O ?_;rw[show((l.length+1:Nat):Int)-1=(l.length:Int) by omega];refine qV (zaN RB Q7 O O (by omega))$ Rv RB O$ OK O$ OD$ Pn.qb (e:=[(1,_),(5,_),(11,_),(12,_),(14,_),(60,_),(61,_),(62,_)]) ?_;refine OH$ Rq (α:=Nat) (0) (λi=>[(1,I (x:Int)),(5,ptr b5 0),(11,ptr n11 0),(12,.func (.func 232) #[] #[ptr n11 0]),(14,ptr lf 0),(60,.slice (some ⟨g,0,none⟩) l.length c1),(61,I (l.length:Int)),(62,I (i:Int))]) (λi w'=>NuX w w1 w11 p b5 n11 (λk=>FL k\/FR k) (A++(Cd.gamma,l.length)::Qp 0 (l.take i)) w'/\i<=l.length) (λi=>l.length-i) ?hI ?hround
     case hI=>exact⟨iB,Nat.zero_le _⟩
     case hround =>
      rintro i w13 ⟨m8,hi⟩ ih
      try dsimp only
      refine qN O$ Qq O$ OD$ It$ OQ O (λe3=>?_)$ λe3=>?_
      ·have dC:i<l.length:=by omega
       obtain⟨F13,nu,tf,nv⟩:=m8.ex;have CX:=B5.sl.kp m8.kx (λg2 hg e=>e (.inr ((I1 g2).2 (.inr hg))));have gX:(l++[m])[i]? =some l[i]:=by rw[List.getElem?_append_left dC,List.getElem?_eq_getElem dC]
       have iv:min i 1<=l[i]:=by
        rcases Nat.eq_zero_or_pos i with e| e
        ·omega
        ·have h1:=pK.pos l[i] (by
          rw[List.mem_iff_getElem?];refine⟨i-1,?_⟩
          rw[List.getElem?_drop,show 1+(i-1)=i by omega];exact gX)
         omega
       have j7:l[i]<=65536:=by
        have h1:=pK.le l[i] (List.mem_append_left _ (List.getElem_mem dC));rw[List.length_map] at h1;omega
       refine OE$ Qx$ Pf O$ qV (PX RB Q7 O O (by omega))$ qV (Pr U3 O O (Qo CX.rd (show((l++[m]).map z6k)[i]? =some (z6k l[i]) by rw[List.getElem?_map,gX];rfl))) ?_;refine PU O$ Rh O$ qV (Pt (news:=[.int .u8 1,u64v 0]) St O QS O ((m8.ext.OC hG).cells (n:=2) O) O)$ P8 O$ qV (ymi O O)$ Ro O ?_;rw[show(l[i]:Int)-min (i:Int) 1=((l[i]-min i 1:Nat):Int) by omega];refine Qz O O (RY Yr O O) (Tw nu (by have h1:(Qp 0 (l.take i)).length=i:=(by rw[Tc,List.length_take];omega);rw[List.length_append,List.length_cons];omega) .gamma (l[i]-min i 1) (by omega)) ?_;rintro _ w14 ⟨rfl,th⟩;have CY:=m8.put x7 tf nv l5 z1 th;refine OD$ OA$ OL O$ PV O$ OK O$ OD ((ih (i+1) _ ⟨?_,by omega⟩ (by omega)).qb);rw[List.take_succ,List.getElem?_eq_getElem dC,Option.toList_some,YB,List.length_take,Nat.min_eq_left hi,Nat.zero_add,<-List.cons_append,<-List.append_assoc];exact CY
      ·have bQ:i=l.length:=by omega
       subst bQ;rw[List.take_length] at m8;refine ON O ?_;exact(dv _ _ ⟨rfl,m8⟩).qb
    ·have ti:¬0<r:=by omega
     refine OE ?_;exact(dv _ _ ⟨rfl,by rw[if_neg ti,List.append_nil];exact pB⟩).qb
  case cV=>
   refine OQ O (λe1=>?_)$ λe1=>?_
   ·have mY:0<p.Pb:=by omega
    obtain⟨F,xa,hf⟩:=vF.ex;refine Rh O$ qV (Pt (news:=[.int .u8 0,u64v 0]) St O QS O ((vF.ext.OC hU).cells (n:=2) O) O)$ OK O$ Qz O O (RY Yr O O) (Tw xa (by simp) .unary r (by omega)) ?_;rintro _ w5 ⟨rfl,tq⟩;refine OD$ Pn.qb (e:=[(1,_),(2,_),(3,_),(4,_),(5,_),(10,_),(11,_),(12,_)]) ?_;exact(cE _ _ ⟨rfl,by rw[if_pos mY];exact vF.put hf l5 z1 tq⟩).qb
   ·have mY:¬0<p.Pb:=by omega
    refine OE ?_;exact(cE _ _ ⟨rfl,by rw[if_neg mY];exact vF⟩).qb
/-! ### The numbers can be encoded -/
def XN (k:Nat)(q:Cd×Nat):Prop:=(q.1= .unary/\q.2<=16)\/(q.1= .gamma/\q.2<=200000)\/(q.1= .zeta k/\q.2<=200000)
def z1w (k:Nat):∀(l:List Nat) (i:Nat),(∀n∈l,n<=65536)->∀q∈Qp i l,XN k q
 |[],i,h,q,hq=>by cases hq
 | n :: l, i, h, q, hq => by
   rw[Qp] at hq;rcases List.mem_cons.1 hq with e|hq
   ·subst e;have:=h n List.mem_cons_self;exact .inr (.inl ⟨rfl,by dsimp only;omega⟩)
   ·exact z1w k l (i+1) (λn hn=>h n (List.mem_cons_of_mem _ hn)) q hq
def z0a (k x least:Nat)(hx:x<65536):∀(R:List (Nat×Nat)) (e:Option Nat),(∀q∈R,q.1+q.2<=65536)->∀q∈PM x least e R,XN k q
 |[],e,h,q,hq=>by cases e<;>cases hq
 | p :: R, e, h, q, hq => by
   have hp:=h p List.mem_cons_self;rw[RO] at hq;rcases List.mem_cons.1 hq with e1|hq
   ·subst e1;refine .inr (.inl ⟨rfl,?_⟩)
    cases e with
    |none=>have:=Ze (z:=(p.1:Int)-x) (n:=65537) (by omega) (by omega);show zig _<=_;omega
    |some z=>show p.1-z-2<=_;omega
   ·rcases List.mem_cons.1 hq with e1|hq
    ·subst e1;exact .inr (.inl ⟨rfl,by dsimp only;omega⟩)
    ·exact z0a k x least hx R _ (λq hq=>h q (List.mem_cons_of_mem _ hq)) q hq
def z08 (k x:Nat)(hx:x<65536):∀(l:List Nat) (e:Option Nat),(∀n∈l,n<65536)->∀q∈PN x k e l,XN k q
 |[],e,h,q,hq=>by cases e<;>cases hq
 | v :: l, e, h, q, hq => by
   have hv:=h v List.mem_cons_self;rw[SN] at hq;rcases List.mem_cons.1 hq with e1|hq
   ·subst e1;refine .inr (.inr ⟨rfl,?_⟩)
    cases e with
    |none=>have:=Ze (z:=(v:Int)-x) (n:=65537) (by omega) (by omega);show zig _<=_;omega
    |some u=>show v-u-1<=_;omega
   ·exact z08 k x hx l _ (λn hn=>h n (List.mem_cons_of_mem _ hn)) q hq
def z4A {least:Nat}{l:List Nat}(h:PE l):(PT least l).1.length<=65536:=by
 have h1:=(TD least l).length_eq
 rw[List.length_append] at h1
 have h4:∀(R:List (Nat×Nat)) (lo:Nat),T3 least lo R->R.length<=(QW R).length:=by
  intro R
  induction R with
  |nil=>intro lo h;exact Nat.le_refl _
  | cons q R ih =>
    intro lo h;have h5:=ih _ h.2.2.2;have h6:1<=q.2:=h.2.1;rw[show QW (q::R)=(List.range q.2).map (q.1+·)++QW R from rfl,List.length_append,List.length_map,List.length_range,List.length_cons];omega
 have h5:=h4 _ 0 (UZ least l 0 h.ZN (λy _=>Nat.zero_le _))
 have:=h.len
 omega
def z7N {least:Nat}{l:List Nat}(h:PE l):∀q∈(PT least l).1,1<=q.2/\q.1+q.2<=65536:=λq hq=>by
 obtain⟨i,hi⟩:=List.mem_iff_getElem?.1 hq
 have h1:=(Zy _ 0 i q (UZ least l 0 h.ZN (λy _=>Nat.zero_le _)) hi).1
 exact⟨h1,zaG h.lt hq h1⟩
def z0x {p:S6}(hp:p.QA){x:Nat}(hx:x<65536){succ ref:List Nat}(hs:PE succ)(hr:PE ref){r:Nat}(ij:r<=p.Pb):∀q∈RE p x succ ref r,XN p.zeta q:=by
 obtain⟨g1,g2,g3,g4⟩:=id hp
 have ay:PE (Pk succ ref):=hs.sub List.filter_sublist
 intro q hq
 unfold RE at hq
 have fG:=hs.len
 rcases List.mem_cons.1 hq with e|hq
 ·subst e;exact .inr (.inl ⟨rfl,by dsimp only;omega⟩)
 split at hq
 ·cases hq
 rcases List.mem_append.1 hq with hq|hq
 ·split at hq
  ·rcases List.mem_singleton.1 hq with e;subst e;exact .inl ⟨rfl,by dsimp only;omega⟩
  ·cases hq
 rcases List.mem_append.1 hq with hq|hq
 ·have pK:=Td succ ref;have hl:=pK.z1f;have fR:=hr.len;rw[List.length_map] at hl;split at hq
  ·rcases List.mem_cons.1 hq with e|hq
   ·subst e;exact .inr (.inl ⟨rfl,by dsimp only;omega⟩)
   ·refine z1w _ _ _ (λn hn=>?_) q hq;have:=pK.le n (List.dropLast_subset _ hn);rw[List.length_map] at this;omega
  ·cases hq
 split at hq
 ·cases hq
 rcases List.mem_append.1 hq with hq|hq
 ·split at hq
  ·rcases List.mem_cons.1 hq with e|hq
   ·subst e;have:=z4A (least:=p.interval) ay;exact .inr (.inl ⟨rfl,by dsimp only;omega⟩)
   ·exact z0a _ _ _ hx _ _ (λq hq=>(z7N ay q hq).2) q hq
  ·cases hq
 ·exact z08 _ _ hx _ _ (λn hn=>ay.lt n ((UB p.interval _).subset hn)) q hq
def z7r (succ ref:List Nat)(hr:PE ref):(Rf succ ref).length<=65537:=by
 have hl:=(Td succ ref).z1f
 rw[List.length_map] at hl
 have:=hr.len
 omega
def z5B {p:S6}{x:Nat}{succ ref:List Nat}(hs:PE succ)(hr:PE ref){r:Nat}:(RE p x succ ref r).length<=500000:=by
 have ay:PE (Pk succ ref):=hs.sub List.filter_sublist
 have h1:=z7r succ ref hr
 have h2:=z4A (least:=p.interval) ay
 have h3:=(ay.sub (UB p.interval (Pk succ ref))).len
 unfold RE
 rw[List.length_cons]
 split
 ·simp
 rw[List.length_append,List.length_append]
 have e1:(if 0<p.Pb then [(Cd.unary,r)] else []).length<=1:=by split<;>simp
 have e2:(if 0<r then(Cd.gamma,(Rf succ ref).length-1)::Qp 0 (Rf succ ref).dropLast else []).length<=65537:=by
  split
  ·rw[List.length_cons,Tc,List.length_dropLast];omega
  ·simp
 have e3:(if Pk succ ref=[] then [] else(if 0<p.interval then(Cd.gamma,(PT p.interval (Pk succ ref)).1.length)::PM x p.interval none (PT p.interval (Pk succ ref)).1 else [])++PN x p.zeta none (PT p.interval (Pk succ ref)).2).length<=200000:=by
  split
  ·simp
  ·rw[List.length_append,Tl];split
   ·rw[List.length_cons,Su];omega
   ·simp;omega
 omega
def XN.QA {k:Nat}{q:Cd×Nat}(h:XN k q)(hk:1<=k/\k<=16):q.1.QA/\q.2<=q.1.most:=by
 rcases h with⟨e,h⟩|⟨e,h⟩|⟨e,h⟩
 ·rw[e];exact⟨trivial,by simp only[Cd.most];omega⟩
 ·rw[e];exact⟨trivial,by simp only[Cd.most];omega⟩
 ·rw[e];exact⟨hk,by simp only[Cd.most];omega⟩
def z3D {c:Cd}{v:Nat}(hc:c.QA)(hv:v<=c.most):(c.enc v).length<=65600:=by
 obtain⟨q1,q2,-⟩:=WL hc hv
 rw[WJ];omega
def zbt {L:List (Cd×Nat)}(h:∀q∈L,q.1.QA/\q.2<=q.1.most):(Pa L).length<=65600*L.length:=by
 induction L with
 |nil=>simp[Pa]
 | cons q L ih =>
   have h1:=ih (λq hq=>h q (List.mem_cons_of_mem _ hq));obtain⟨h2,h3⟩:=h q List.mem_cons_self;have h4:=z3D h2 h3;obtain⟨c,v⟩:=q;rw[Qa,List.length_append,List.length_cons];dsimp only at h4⊢;omega
theorem Ss (a b:List (Cd×Nat)):Pa (a++b)=Pa a++Pa b:=List.flatMap_append
theorem Y2 (l:List (Cd×Nat))(q:Cd×Nat):Pa (l++[q])=Pa l++q.1.enc q.2:=by
 rw[Ss];simp[Pa]
/-! ### An element of a slice of structs -/
def z1y {α:Type}{f:α->List Value}{k:Nat}(hk:∀a,(f a).length=k){w:World}{b off n cap i:Nat}{R:List α}{q:α}(h:Rd w (.slice (some ⟨b,off,none⟩) n cap) k n (R.flatMap f))(hq:R[i]? =some q):∀j u,(f q)[j]? =some u->w.cell? ⟨b,off+i*k+j,none⟩=some u:=by
 intro j u hj
 have kT:j<k:=by have:=(List.getElem?_eq_some_iff.1 hj).1;rwa [hk] at this
 have key:∀(R:List α) (i:Nat),R[i]? =some q->(R.flatMap f)[i*k+j]? =some u:=by
  intro R
  induction R with
  |nil=>intro i h;simp at h
  | cons a R ih =>
    intro i h;rw[List.flatMap_cons]
    cases i with
    | zero =>
      rw[List.getElem?_cons_zero] at h;cases h;rw[List.getElem?_append_left (by rw[hk];omega),Nat.zero_mul,Nat.zero_add]
      exact hj
    | succ i =>
      rw[List.getElem?_append_right (by rw[hk,Nat.add_mul];omega),hk,show(i+1)*k+j-k=i*k+j by rw[Nat.add_mul];omega];exact ih i h
 have kW:=key R i hq
 have aZ:=(List.getElem?_eq_some_iff.1 kW).1
 rcases h.2 with⟨c,hc,h0⟩|⟨b',off',cap',e,hc⟩
 ·rw[h.1,h0,Nat.zero_mul] at aZ;omega
 ·cases e;have:=hc (i*k+j) u kW;rw[show off+i*k+j=off+(i*k+j) by omega];exact this
def z5p (q:Cd×Nat):(z5V q).length=3:=by
 obtain⟨c,v⟩:=q
 cases c<;>rfl
def VC {w:World}(p:S6)(hp:p.QA)(x:Nat)(hx:x<65536){sa ra:Option Addr}{sc rc:Nat}(succ ref:List Nat)(hs:PE succ)(hr:PE ref)(r:Nat)(ij:r<=p.Pb)(lS:r=0->ref=[])
  (hG:OR w 2 (Sy .gamma) 317) (hU:OR w 3 (Sy .unary) 317) (dS:Rd w (.slice sa succ.length sc) 1 succ.length (succ.map Pq)) (mH:Rd w (.slice ra ref.length rc) 1 ref.length (ref.map Pq)) (fW:succ.length<=sc) (jF:ref.length<=rc):
  Pm prog 171 [I (x:Int),.slice sa succ.length sc,.slice ra ref.length rc,I (r:Int),lpV p] w λu w'=>u= .tuple #[I ((Pa (RE p x succ ref r)).length:Int),I 0]/\Ext w w':=by
 obtain⟨g1,g2,g3,g4⟩:=id hp
 have ay:=λq hq=>(z0x hp hx hs hr ij q hq).QA ⟨g3,g4⟩
 have fS:=z5B (p:=p) (x:=x) (r:=r) hs hr
 refine py (e:=[(0,_),(1,_),(2,_),(3,_),(4,_)]) func171 O ntmps171 O O$ qN O$ OM O O (Rm O (cs:=lpC p) O) ?_
 rintro _ w1 ⟨b9,rfl,oI,ad,cI⟩
 replace cI:OR w1 b9 [I (p.Pb:Int),I (p.interval:Int),I (p.zeta:Int)] 279:=cI
 refine PU O$ It$ qN O$ qV (Pt (news:=lpC p) Zd O Uf O (cI.cells (n:=3) O) O)$ P8 O$ P8 O$ P4 zho O (zc4 p hp x hx _ _ succ ref r hs hr ij lS w1 (dS.ext ad) (mH.ext ad)) ?_
 rintro _ w2 ⟨rfl,ae⟩
 refine qV ((Sb O))$ PW O$ QB O$ It$ qN O$ qV (Pt (news:=lpC p) Zd O Uf O ((ae.OC cI).cells (n:=3) O) O) ?_
 have aF:=ad.trans ae
 refine P8 O$ P8 O$ P4 zfc O (YO p hp x hx succ ref hs hr r ij lS (aF.OC hG) (aF.OC hU) (dS.ext aF) (mH.ext aF) fW jF) ?_
 rintro v w3 ⟨cy,nw,ai⟩
 have aO:=aF.trans ai
 generalize RE p x succ ref r=L at ay fS cy
 obtain⟨va,vc,rfl,-⟩:=cy.rd.shape
 refine Rv z1z O$ OK O$ OD$ OH$ Rq (α:=Nat) (0) (λi=>[(12,I ((Pa (L.take i)).length:Int)),(29,.slice va L.length vc),(30,I (L.length:Int)),(31,I (i:Int))]) (λi w'=>Ext w3 w'/\i<=L.length) (λi=>L.length-i) ?hI ?hround
 case hI=>exact⟨Ext.refl _,Nat.zero_le _⟩
 case hround=>
  rintro i w4 ⟨aD,hi⟩ ih
  try dsimp only
  refine qN O$ Qq O$ OD$ It$ OQ O (λh0=>?_)$ λh0=>?_
  ·have dC:i<L.length:=by omega
   obtain⟨⟨c,v⟩,hq⟩:∃q,L[i]? =some q:=⟨_,List.getElem?_eq_getElem dC⟩;obtain⟨vH,lJ⟩:=ay _ (List.mem_of_getElem? hq);dsimp only at vH lJ
   obtain⟨g,c5,e4⟩:∃g c,Value.slice va L.length vc= .slice (some ⟨g,0,none⟩) L.length c:=by
    rcases cy.shape with⟨-,h0⟩|⟨g,c,e,hc⟩
    ·omega
    ·exact⟨g,c,e⟩
   cases e4;have kq:=z1y z5p (cy.ext aD).rd hq;obtain⟨y,z,tr⟩:∃y z,Sy c=[y,z]:=by cases c<;>exact⟨_,_,rfl⟩
   have qY:cdV c= .agg [y,z].toArray:=by rw[cdV,tr]
   have jy:z5V (c,v)=[y,z,u64v v]:=by show Sy c++_=_;rw[tr];rfl
   rw[jy] at kq;have cN:=z5l c v vH lJ;rw[qY] at cN;have xq:oneV y=true/\oneV z=true:=by cases c<;>(cases tr;exact⟨rfl,rfl⟩)
   have fD:=zbt (L:=L.take i) (λq hq=>ay q (List.mem_of_mem_take hq));rw[List.length_take] at fD;have oC:=z3D vH lJ;refine OE$ Qx$ qN O$ qV (PX z1z Vy O O (by omega))$ qV (Pt (news:=[y,z,u64v v]) zi8 O Vy O kq O)$ OM O O (RN (cs:=[_,_,_]) Vy O) ?_;rintro _ w5 ⟨b14,rfl,nx,aT,dg⟩;refine OW O (PO (news:=[y,z,u64v v]) Vy O O (by simp[xq.1,xq.2];rfl) O dg (by simp)) ?_;rintro w6 ⟨eK,aP⟩;replace eK:OR w6 b14 [y,z,u64v v] 319:=eK;have z5:=aT.size;have aI:Ext w4 w6:=aT.An aP (λk e=>by omega);refine qM O$ OX z8f O$ qV (Pt (news:=[y,z]) St O QS O (eK.cells (n:=2) O) O)$ OX z8n O$ qV (OO Rr O O eK O)$ P4 zfn O (cN w6) ?_;rintro _ w7 ⟨rfl,bY⟩;refine OK O$ RA O$ PU O$ OL O$ P8 O$ PV O$ OU O$ OA$ OL O$ PV O$ OK O$ OD ?_;rw[show((Pa (L.take i)).length:Int)+((c.enc v).length:Int)=((Pa (L.take (i+1))).length:Int) by rw[PQ hq,Y2,List.length_append];dsimp only;omega];exact(ih (i+1) _ ⟨(aD.trans aI).trans bY,by omega⟩ (by omega)).qb
  ·have bQ:i=L.length:=by omega
   rw[bQ,List.take_length];refine ON O$ Pf O$ PU O$ OB func171 O ?_;exact⟨_,rfl,rfl,aO.trans aD⟩
def z0e {w:World}{wp:Nat}{bs:List Bool}{F:Nat->Prop}(h:Z2 w wp bs F)(p:S6)(hp:p.QA)(x:Nat)(hx:x<65536){sa ra:Option Addr}{sc rc:Nat}(succ ref:List Nat)(hs:PE succ)(hr:PE ref)(r:Nat)(ij:r<=p.Pb)(lS:r=0->ref=[])
  (hG:OR w 2 (Sy .gamma) 317) (hU:OR w 3 (Sy .unary) 317) (dS:Rd w (.slice sa succ.length sc) 1 succ.length (succ.map Pq)) (mH:Rd w (.slice ra ref.length rc) 1 ref.length (ref.map Pq)) (fW:succ.length<=sc) (jF:ref.length<=rc)
  (hl:bs.length+(Pa (RE p x succ ref r)).length<=134217728):
  Pm prog 175 [ptr wp 0,I (x:Int),.slice sa succ.length sc,.slice ra ref.length rc,I (r:Int),lpV p] w λu w'=>u=I 0/\WrR wp F w w' (bs++Pa (RE p x succ ref r)):=by
 obtain⟨g1,g2,g3,g4⟩:=id hp
 have ay:=λq hq=>(z0x hp hx hs hr ij q hq).QA ⟨g3,g4⟩
 have fS:=z5B (p:=p) (x:=x) (r:=r) hs hr
 refine py (e:=[(0,_),(1,_),(2,_),(3,_),(4,_),(5,_)]) func175 O ntmps175 O O$ qN O$ OM O O (Rm O (cs:=lpC p) O) ?_
 rintro _ w1 ⟨b9,rfl,oI,ad,cI⟩
 replace cI:OR w1 b9 [I (p.Pb:Int),I (p.interval:Int),I (p.zeta:Int)] 279:=cI
 refine OU O$ PG O$ qV (Qi z3Y O O)$ PW O$ Qm O$ P8 O$ qV (Pt (news:=lpC p) Zd O Uf O (cI.cells (n:=3) O) O)$ P4 z5a O (VC p hp x hx succ ref hs hr r ij lS (ad.OC hG) (ad.OC hU) (dS.ext ad) (mH.ext ad) fW jF) ?_
 rintro _ w2 ⟨rfl,ae⟩
 have aF:=ad.trans ae
 have h2:=h.ext aF
 refine OK O$ RA O$ PU O$ Qx$ Pf O$ Qf O$ OU O$ OJ O$ Qm O$ P4 z2U O (Vs h2) ?_
 rintro _ w2 ⟨rfl,rfl⟩
 refine Ro O$ Qu O$ OU O$ Pn.qb (e:=[(0,_),(1,_),(2,_),(3,_),(4,_),(11,_),(12,_),(32,_)]) ?_
 refine OQ O (λe0=>?_)$ λe0=>?_
 ·omega
 ·refine OE$ OA$ It$ qN O$ qV (Pt (news:=lpC p) Zd O Uf O ((ae.OC cI).cells (n:=3) O) O)$ P8 O$ P8 O$ P4 zfc O (YO p hp x hx succ ref hs hr r ij lS (aF.OC hG) (aF.OC hU) (dS.ext aF) (mH.ext aF) fW jF) ?_;rintro v w3 ⟨cy,nw,ai⟩;have aO:=aF.trans ai;have h3:=h.ext aO;have z12:=aF.size;have z3:=ai.size;have jT:∀k,F k->k<w.heap.size:=λk hk=>h.lt hk
  generalize RE p x succ ref r=L at ay fS cy hl
  obtain⟨va,vc,rfl,-⟩:=cy.rd.shape;refine Rv z1z O$ OK O$ OD$ OH$ Rq (α:=Nat) (0) (λi=>[(0,ptr wp 0),(43,.slice va L.length vc),(44,I (L.length:Int)),(45,I (i:Int))]) (λi w'=>WrR wp F w3 w' (bs++Pa (L.take i))/\i<=L.length) (λi=>L.length-i) ?hI ?hround
  case hI=>exact⟨⟨F,by simpa[Pa] using h3,Kp.refl _ _,λk hk=> .inl hk⟩,Nat.zero_le _⟩
  case hround=>
   rintro i w4 ⟨⟨F4,m9,ao,pC⟩,hi⟩ ih
   try dsimp only
   refine qN O$ Qq O$ OD$ It$ OQ O (λh0=>?_)$ λh0=>?_
   ·have dC:i<L.length:=by omega
    obtain⟨⟨c,v⟩,hq⟩:∃q,L[i]? =some q:=⟨_,List.getElem?_eq_getElem dC⟩;obtain⟨vH,lJ⟩:=ay _ (List.mem_of_getElem? hq);dsimp only at vH lJ
    obtain⟨g,c5,e4⟩:∃g c,Value.slice va L.length vc= .slice (some ⟨g,0,none⟩) L.length c:=by
     rcases cy.shape with⟨-,h0⟩|⟨g,c,e,hc⟩
     ·omega
     ·exact⟨g,c,e⟩
    cases e4;have dO:=cy.kp ao (λg hg e=>by have:=nw g hg;have:=jT g e;omega);have kq:=z1y z5p dO.rd hq;obtain⟨y,z,tr⟩:∃y z,Sy c=[y,z]:=by cases c<;>exact⟨_,_,rfl⟩
    have qY:cdV c= .agg [y,z].toArray:=by rw[cdV,tr]
    have jy:z5V (c,v)=[y,z,u64v v]:=by show Sy c++_=_;rw[tr];rfl
    rw[jy] at kq;have xq:oneV y=true/\oneV z=true:=by cases c<;>(cases tr;exact⟨rfl,rfl⟩)
    refine OE$ Qx$ qN O$ qV (PX z1z Vy O O (by omega))$ qV (Pt (news:=[y,z,u64v v]) zi8 O Vy O kq O)$ OM O O (RN (cs:=[_,_,_]) Vy O) ?_;rintro _ w5 ⟨b14,rfl,nx,aT,dg⟩;refine OW O (PO (news:=[y,z,u64v v]) Vy O O (by simp[xq.1,xq.2];rfl) O dg (by simp)) ?_;rintro w6 ⟨eK,aP⟩;replace eK:OR w6 b14 [y,z,u64v v] 319:=eK;have z5:=aT.size;have aI:Ext w4 w6:=aT.An aP (λk e=>by omega);have z6:=aI.size;have z4:=ao.size
    have j7:(bs++Pa (L.take i)).length+(c.enc v).length<=134217728:=by
     have e1:(Pa L).length=(Pa (L.take i)).length+(c.enc v).length+(Pa (L.drop (i+1))).length:=by
      conv=>lhs;rw[<-List.take_append_drop (i+1) L,Ss,PQ hq,Y2]
      rw[List.length_append,List.length_append]
     rw[List.length_append];omega
    have ld:=zbb (m9.ext aI) c v vH lJ j7;rw[qY] at ld;refine OD$ Rh O$ OX z8f O$ qV (Pt (news:=[y,z]) St O QS O (eK.cells (n:=2) O) O)$ OX z8n O$ qV (OO Rr O O eK O)$ P4 zhm O (ld) ?_;rintro _ w7 ⟨rfl,F7,oE,aC,lO⟩;refine OD$ OA$ OL O$ PV O$ OK O$ OD ((ih (i+1) _ ⟨⟨F7,?_,(ao.trans aI.kp).An aC (λk hk=>(pC k hk).symm),λk hk=>?_⟩,by omega⟩ (by omega)).qb)
    ·rw[PQ hq,Y2,<-List.append_assoc];exact oE
    ·rcases lO k hk with e| e
     ·exact pC k e
     ·exact .inr (by omega)
   ·have bQ:i=L.length:=by omega
    rw[bQ,List.take_length] at m9;refine ON O$ QB O$ OB func175 O ?_;exact⟨_,rfl,rfl,F4,m9,aO.kp.trans ao,λk hk=>by rcases pC k hk with e|e;exact .inl e;exact .inr (by omega)⟩
def XO (succ ref:List Nat)(r:Nat):List (Cd×Nat):=if 0<r then(.gamma,(Rf succ ref).length-1)::Qp 0 (Rf succ ref).dropLast else []
def z86 (p:S6)(x:Nat)(succ ref:List Nat):List (Cd×Nat):=
 if Pk succ ref=[] then [] else(if 0<p.interval then(.gamma,(PT p.interval (Pk succ ref)).1.length)::PM x p.interval none (PT p.interval (Pk succ ref)).1 else [])++PN x p.zeta none (PT p.interval (Pk succ ref)).2
def UC (p:S6)(x:Nat)(succ ref:List Nat)(r:Nat):List (Cd×Nat):=XO succ ref r++z86 p x succ ref
def z1s (p:S6)(x:Nat){succ ref:List Nat}(r:Nat)(hs:succ≠[]):RE p x succ ref r=QC p succ.length r++UC p x succ ref r:=by
 unfold RE QC UC XO z86
 rw[if_neg hs,if_neg (λe=>hs (List.eq_nil_of_length_eq_zero e)),List.cons_append]
def z8C (p:S6)(x:Nat)(l:List Nat):List (Cd×Nat):=if 0<p.interval/\l≠[] then(.gamma,(PT p.interval l).1.length)::PM x p.interval none (PT p.interval l).1 else []
theorem z4G (p:S6)(x:Nat)(succ ref:List Nat):z86 p x succ ref=z8C p x (Pk succ ref)++PN x p.zeta none (PT p.interval (Pk succ ref)).2:=by
 unfold z86 z8C
 by_cases e:Pk succ ref=[]
 ·rw[if_pos e,if_neg (λh=>h.2 e),e,PT];rfl
 ·rw[if_neg e];by_cases e2:0<p.interval
  ·rw[if_pos e2,if_pos ⟨e2,e⟩]
  ·rw[if_neg e2,if_neg (λh=>e2 h.1)]
structure TlI (w:World)(t r:Nat)(s:OG)(b7 b9:Nat)(n q:Nat)(p:S6)(O_:List Nat)(v:Value)(a:Nat)(w':World):Prop where
 tk:TkM w' t r s a
 kp:Kp (λk=>k=t\/k=r) w w'
 sl:Sl w' v 106 1 O_.length (O_.map Pq)
 fr:∀g,v.ownBlock=some g->w.heap.size<=g
 c7:OR w' b7 [I (n:Int),I (q:Int)] 332
 c9:OR w' b9 [I (p.Pb:Int),I (p.interval:Int),I (p.zeta:Int)] 279
 n7:w.heap.size<=b7
 n9:w.heap.size<=b9
 v7:v.ownBlock≠some b7
 v9:v.ownBlock≠some b9
def z3f (l:List Nat):∀c∈l.map Pq,c.oneCell'=true:=λc hc=>by
 obtain⟨y,-,rfl⟩:=List.mem_map.1 hc
 rfl
def TlI.app {w w1 w2 w3:World}{t r:Nat}{s:OG}{b7 b9 n q:Nat}{p:S6}{O_ M:List Nat}{v v3:Value}{a a2:Nat}(h:TlI w t r s b7 b9 n q p O_ v a w1)(ht:t<w.heap.size)(hr:r<w.heap.size)
  (hk:Kp (λk=>k=t\/k=r) w1 w2) (jO:TkM w2 t r s a2) (cy:Sl w3 v3 106 1 (O_.length+M.length) (O_.map Pq++M.map Pq)) (av:Kp (λk=>v.ownBlock=some k) w2 w3) (fZ:∀g,v3.ownBlock=some g->v.ownBlock=some g\/w2.heap.size<=g):
  TlI w t r s b7 b9 n q p (O_++M) v3 a2 w3:=by
 have z1:=h.kp.size
 have z2:=hk.size
 have l7:=h.c7.lt
 have l9:=h.c9.lt
 have n7:=h.n7
 have n9:=h.n9
 have pL:∀k,k<w.heap.size->¬v.ownBlock=some k:=λk hk e=>by have:=h.fr k e;omega
 have cA:∀k,k<w1.heap.size->v.ownBlock≠some k->v3.ownBlock≠some k:=λk hk hv e=>by
  rcases fZ k e with e| e
  ·exact hv e
  ·omega
 refine⟨⟨av.OC jO.OC (pL t ht),⟨av.OC jO.rd.1 (pL r hr),jO.rd.2⟩,jO.ne⟩,(h.kp.trans hk).An av (λk hk=> .inl (h.fr k hk)),by rw[List.length_append,List.map_append];exact cy,λg hg=>?_,av.OC (hk.OC h.c7 (λe=>by omega)) h.v7,av.OC (hk.OC h.c9 (λe=>by omega)) h.v9,n7,n9,cA _ l7 h.v7,cA _ l9 h.v9⟩
 rcases fZ g hg with e| e
 ·exact h.fr g e
 ·omega
def z8M {w:World}{t r a:Nat}{s:OG}(h:TkM w t r s a)(hG:OR w 2 (Sy .gamma) 317)(da:¬2=r)(kS:¬2=t)(p:S6)(hp:p.QA)(x:Nat)(hx:x<65536){sa:Option Addr}{sc:Nat}(succ ref:List Nat)(hs:PE succ)(bT:succ≠[])(jf:succ.length<50)(jH:PE ref)
  (q:Nat) (hq:q<=p.Pb) (mX:q=0->ref=[]) (dB:∀w2,Kp (λk=>k=r) w w2->Rd w2 (.slice sa ref.length sc) 1 ref.length (ref.map Pq)) (cN:ref.length<=sc) (rest:List Bool) (hb:(P3 s).drop a=Pa (UC p x succ ref q)++rest):
  Pm prog 242 [ptr t 0,I (x:Int),.agg #[I (succ.length:Int),I (q:Int)],.slice sa ref.length sc,lpV p] w λu w'=>Sl w' u 106 1 succ.length (succ.map Pq)/\(∀g,u.ownBlock=some g->w.heap.size<=g)/\
   TkM w' t r s (a+(Pa (UC p x succ ref q)).length)/\Kp (λk=>k=t\/k=r) w w':=by
 obtain⟨g1,g2,g3,g4⟩:=id hp
 have lt0:=h.OC.lt
 have lr0:=h.rd.1.lt
 have jc:=z6F hs.ZN jH.ZN p.interval
 have ry:=jc.length_eq
 rw[List.length_append,List.length_append] at ry
 have ay:PE (Pk succ ref):=hs.sub List.filter_sublist
 have Ke:=(TD p.interval (Pk succ ref)).length_eq
 rw[List.length_append] at Ke
 unfold UC at hb⊢
 rw[Ss,List.append_assoc] at hb
 rw[Ss,List.length_append]
 refine py (e:=[(0,_),(1,_),(2,_),(3,_),(4,_)]) func242 O ntmps242 O O$ qN O$ OM O O (Rm O (cs:=[I (succ.length:Int),I (q:Int)]) O) ?_
 rintro _ w1 ⟨b7,rfl,jS,ad,bP⟩
 refine OM O O (Rm O (cs:=lpC p) O) ?_
 rintro _ w2 ⟨b9,rfl,oI,ae,cI⟩
 replace cI:OR w2 b9 [I (p.Pb:Int),I (p.interval:Int),I (p.zeta:Int)] 279:=cI
 have z1:=ad.size
 have z2:=ae.size
 have aF:=ad.trans ae
 have ek:=ae.OC bP
 refine Qw O$ OU O$ It$ qN O$ OX SA O$ qV (OO U3 O O ek O)$ Qu O$ OD$ PI (λe' w'=>∃v11,e'=[(0,ptr t 0),(1,I (x:Int)),(7,ptr b7 0),(9,ptr b9 0),(11,v11)]/\TlI w t r s b7 b9 succ.length q p (ref.filter λy=>decide (y∈succ)) v11 (a+(Pa (XO succ ref q)).length) w') ?cE$ λcE=>?cV
 case cE =>
  rintro e' w3 ⟨v11,rfl,h3⟩;have eG:=Sr hb;obtain⟨va,vc,rfl,-⟩:=h3.sl.rd.shape;have tt:=h3.c7;have cT:=h3.c9;have CZ:=h3.tk.OC;refine It$ qN O$ OX Tq O$ qV ((OO U3 O O tt O))$ OK O$ Rv Ps O$ Ro O ?_;rw[show(succ.length:Int)-((ref.filter λy=>decide (y∈succ)).length:Int)=((Pk succ ref).length:Int) by omega]
  generalize NJ:(a+(Pa (XO succ ref q)).length)=a3 at h3 eG
  rw[z4G,Ss,List.append_assoc] at eG;rw[z4G,Ss,List.length_append];have Kf:p.interval=0->(PT p.interval (Pk succ ref)).1=[]:=λe=>by rw[e];exact Y3 _
  have Kg:Pk succ ref=[]->PT p.interval (Pk succ ref)=([],[]):=λe=>by rw[e,PT]
  have pG:=UZ p.interval (Pk succ ref) 0 ay.ZN (λy _=>Nat.zero_le _);have ta:=λy hy=>(z7N (least:=p.interval) ay y hy).2
  have I4:(PT p.interval (Pk succ ref)).1.length<=(QW (PT p.interval (Pk succ ref)).1).length:=by
   have key:∀(R:List (Nat×Nat)) (lo:Nat),T3 p.interval lo R->R.length<=(QW R).length:=by
    intro R
    induction R with
    |nil=>intro lo h;exact Nat.le_refl _
    | cons z R ih =>
      intro lo h;have h5:=ih _ h.2.2.2;have h6:1<=z.2:=h.2.1;rw[show QW (z::R)=(List.range z.2).map (z.1+·)++QW R from rfl,List.length_append,List.length_map,List.length_range,List.length_cons];omega
   exact key _ 0 pG
  have D2:PE (PT p.interval (Pk succ ref)).2:=ay.sub (UB p.interval _)
  generalize (ref.filter λy=>decide (y∈succ))=O1 at h3 jc ry
  have vI:z8C p x (Pk succ ref)=if 0<p.interval/\Pk succ ref≠[] then(.gamma,(PT p.interval (Pk succ ref)).1.length)::PM x p.interval none (PT p.interval (Pk succ ref)).1 else []:=rfl
  generalize z8C p x (Pk succ ref)=LT at eG vI
  generalize PT p.interval (Pk succ ref)=Q at*
  generalize Pk succ ref=L1 at*
  have sG:L1=[]↔L1.length=0:=⟨λe=>by rw[e];rfl,List.eq_nil_of_length_eq_zero⟩;have fG:=hs.len;refine OU O$ It$ PI (λe' w'=>∃s1:Bool,e'=[(0,ptr t 0),(1,I (x:Int)),(7,ptr b7 0),(9,ptr b9 0),(11,.slice va O1.length vc),(12,I (L1.length:Int)),(38,.bool s1)]/\w'=w3/\(s1=true↔0<p.interval/\L1≠[])) ?dv$ λdv=>?ff
  case dv =>
   rintro e' w4 ⟨s1,rfl,rfl,dA⟩;refine PI (λe' w'=>∃v11,e'=[(0,ptr t 0),(1,I (x:Int)),(7,ptr b7 0),(9,ptr b9 0),(11,v11)]/\TlI w t r s b7 b9 succ.length q p (O1++QW Q.1) v11 (a3+(Pa LT).length) w') ?aw$ λaw=>?dz
   case aw =>
    rintro e' w5 ⟨v5,rfl,h5⟩;have ig:=Sr eG;obtain⟨va5,vc5,rfl,-⟩:=h5.sl.rd.shape;have ma:=h5.c7;have mb:=h5.c9;have D3:=h5.tk.OC;have I5:(O1++QW Q.1).length=O1.length+(QW Q.1).length:=List.length_append;refine It$ qN O$ OX Tq O$ qV ((OO U3 O O ma O))$ OK O$ Rv Ps O$ Ro O ?_;rw[show(succ.length:Int)-((O1++QW Q.1).length:Int)=(Q.2.length:Int) by omega];refine OU O$ It$ PI (λe' w'=>∃s2:Bool,e'=[(0,ptr t 0),(1,I (x:Int)),(7,ptr b7 0),(9,ptr b9 0),(11,.slice va5 (O1++QW Q.1).length vc5),(13,I (Q.2.length:Int)),(60,.bool s2)]/\w'=w5/\(s2=true↔0<Q.2.length)) ?kj$ λkj=>?kl
    case kj=>
     rintro e' w6 ⟨s2,rfl,rfl,df⟩;refine PI (λe' w'=>∃v11,e'=[(0,ptr t 0),(11,v11)]/\TlI w t r s b7 b9 succ.length q p (O1++QW Q.1++Q.2) v11 (a3+(Pa LT).length+(Pa (PN x p.zeta none Q.2)).length) w') ?oO$ λoO=>?sZ
     case oO=>
      rintro e' w7 ⟨v7,rfl,h7⟩;have rz:(O1++QW Q.1++Q.2).length=succ.length:=by rw[List.length_append,I5];omega
      have Kh:0<succ.length:=List.length_pos_iff.2 bT;refine Pf O$ P4 zhc O (z9z h7.sl (λe=>by rw[e] at rz;simp at rz;omega) (by omega)) ?_;rintro _ w8 ⟨rfl,aR,l',pM,xt,eV⟩;have Ki:l'=succ:=z5Y ((pM.trans (by rw[List.append_assoc])).trans jc) xt hs.ZN;rw[Ki] at eV;refine qM O$ OK O$ OU O$ OB func242 O ?_;have e9:a+((Pa (XO succ ref q)).length+((Pa LT).length+(Pa (PN x p.zeta none Q.2)).length))=a3+(Pa LT).length+(Pa (PN x p.zeta none Q.2)).length:=by omega
      rw[e9];have pL:∀k,k<w.heap.size->¬v7.ownBlock=some k:=λk hk e=>by have:=h7.fr k e;omega
      refine⟨_,rfl,eV,h7.fr,⟨aR.OC h7.tk.OC (pL t lt0),⟨aR.OC h7.tk.rd.1 (pL r lr0),h7.tk.rd.2⟩,h7.tk.ne⟩,h7.kp.An aR (λk hk=> .inl (h7.fr k hk))⟩
     case sZ=>
      refine Qe O (λh2=>?_)$ λh2=>?_
      ·refine OL O$ P8 O$ P8 O$ OX z0J O$ qV ((OO U3 O O mb O))$ qV ((PZ O U3 Rr (by omega)))$ qV (Sk (cs:=[_,_]) QS O zeh O O)$ P4 zhU O (z66 h5.tk x p.zeta hx ⟨g3,g4⟩ Q.2 D2 _ ig) ?_;rintro u6 w6 ⟨ez,mT,wV,aP⟩;have D4:=h5.sl.kp aP (λg hg e=>by have:=h5.fr g hg;omega);refine OM O O (pap Ps OP O (by decide) O O D4 ez.rd (z3f _) (by omega) (by simp only[maxLen];omega)) ?_;rintro v7 w7 ⟨gP,aC,Kj,-⟩;have h7:=h5.app lt0 lr0 aP wV gP aC Kj;refine OU O ?_;exact(oO _ _ ⟨v7,rfl,h7⟩).qb
      ·have fF:Q.2=[]:=List.eq_nil_of_length_eq_zero (by
        rcases Nat.eq_zero_or_pos Q.2.length with e| e
        ·exact e
        ·rw[df.2 e] at h2;cases h2)
       refine OE ((oO _ _ ⟨_,rfl,?_⟩).qb);rw[fF,List.append_nil,show(Pa (PN x p.zeta none [])).length=0 from rfl,Nat.add_zero];exact h5
    case kl=>
     rcases Nat.eq_zero_or_pos Q.2.length with hz|hz
     ·refine Rh O$ Qu O$ PF$ OK O$ QG$ QG$ qS$ PK O$ OD ?_;exact(kj _ _ ⟨false,rfl,rfl,by simp[hz]⟩).qb
     ·refine Rh O$ Qu O$ Rp$ P8 O$ Pu O$ OX TS O$ qV ((OO U4 O O D3 O))$ qV ((Sb O))$ QJ O$ OD ?_;exact(kj _ _ ⟨true,rfl,rfl,by simp[hz]⟩).qb
   case dz=>
    refine Qe O (λh1=>?_)$ λh1=>?_
    ·obtain⟨AW,cX⟩:=dA.1 h1;rw[if_pos ⟨AW,cX⟩] at vI;refine OL O$ P8 O$ P8 O$ OX Ul O$ qV ((OO U3 O O cT O)) ?_;rw[vI] at eG;refine P4 zjE O (zak h3.tk (h3.kp.OC hG (λe=>by rcases e with e|e;exact kS e;exact da e)) da kS x L1.length p.interval hx (by omega) (by omega) Q.1 pG ta (by omega) (by omega) _ eG) ?_;rintro u4 w4 ⟨dO,pC,xv,ao⟩;have D5:=h3.sl.kp ao (λg hg e=>by have:=h3.fr g hg;omega);have NK:=dO.rd;have Kk:O1.length<=65536:=by omega
     refine OM O O (pap Ps OP O (by decide) O O D5 dO.rd (z3f _) (by omega) (by simp only[maxLen];omega)) ?_;rintro v5 w5 ⟨ew,ak,tv,-⟩;have h5:=h3.app lt0 lr0 ao xv ew ak tv;refine OU O ((aw _ _ ⟨v5,rfl,?_⟩).qb);rw[vI];exact h5
    ·have cX:¬(0<p.interval/\L1≠[]):=λe=>by rw[dA.2 e] at h1;cases h1
     have fT:Q.1=[]:=by
      by_cases e:L1=[]
      ·rw[Kg e]
      ·exact Kf (by by_cases e2:0<p.interval;exact absurd ⟨e2,e⟩ cX;omega)
     rw[if_neg cX] at vI;refine OE ((aw _ _ ⟨_,rfl,?_⟩).qb);rw[fT,vI,show QW []=[] from rfl,List.append_nil,show(Pa []).length=0 from rfl,Nat.add_zero];exact h3
  case ff=>
   rcases Nat.eq_zero_or_pos L1.length with hz|hz
   ·refine Rh O$ Qu O$ PF$ OK O$ QG$ qS$ PK O$ OK O$ QG$ QG$ qS$ PK O$ OD$ Pn.qb (e:=[(0,_),(1,_),(7,_),(9,_),(11,_),(12,_),(38,_)]) ?_;exact(dv _ _ ⟨false,rfl,rfl,⟨λe=>(by cases e),λe=>absurd (sG.2 hz) e.2⟩⟩).qb
   ·rcases Nat.eq_zero_or_pos p.interval with mS|mS
    ·refine Rh O$ Qu O$ Rp$ OK O$ OX Ul O$ qV ((OO U3 O O cT O))$ Qu O$ PF$ QJ O$ OK O$ QG$ QG$ qS$ PK O ?_;refine OD$ Pn.qb (e:=[(0,_),(1,_),(7,_),(9,_),(11,_),(12,_),(38,_)]) ?_;exact(dv _ _ ⟨false,rfl,rfl,by simp[mS]⟩).qb
    ·refine Rh O$ Qu O$ Rp$ OK O$ OX Ul O$ qV ((OO U3 O O cT O))$ Qu O$ Rp$ QJ O$ P8 O$ Pu O$ OX TS O$ qV ((OO U4 O O CZ O))$ qV ((Sb O)) ?_;refine QJ O$ OD$ Pn.qb (e:=[(0,_),(1,_),(7,_),(9,_),(11,_),(12,_),(38,_)]) ?_;exact(dv _ _ ⟨true,rfl,rfl,⟨λ_=>⟨mS,λe=>(by have:=sG.1 e;omega)⟩,λ_=>rfl⟩⟩).qb
 case cV=>
  refine OQ O (λh0=>?_)$ λh0=>?_
  ·have fT:0<q:=by omega
   have B6:=Td succ ref;have j8:=B6.z1f;rw[List.length_map] at j8;have xw:=jH.len
   have xy:(Rf succ ref).sum=ref.length:=by
    have:=congrArg List.length B6.exp;rw[SW,List.length_map] at this;exact this
   have xz:=za6 succ ref;rw[show XO succ ref q=(.gamma,(Rf succ ref).length-1)::Qp 0 (Rf succ ref).dropLast from if_pos fT] at hb;obtain⟨l,m,gX⟩:∃l m,Rf succ ref=l++[m]:=⟨_,_,(List.dropLast_concat_getLast B6.ne).symm⟩;have iv:=B6.pos;rw[gX] at hb xy j8 iv;rw[gX,List.dropLast_concat] at xz;rw[List.dropLast_concat,show(l++[m]).length-1=l.length by simp] at hb;rw[List.sum_append] at xy;rw[List.length_append,List.length_singleton] at j8;have h2:=h.ext aF
   have xA:∀m'∈l.drop 1,1<=m':=λm' ny=>iv m' (by
    cases l with
    |nil=>simp at ny
    |cons a l=>rw[List.cons_append,List.drop_succ_cons,List.drop_zero];rw[List.drop_succ_cons,List.drop_zero] at ny;exact List.mem_append_left _ ny)
   refine OL O$ P8 O$ P4 zhE O (z5O h2 (aF.OC hG) da ref l (λw5 k=>dB w5 (aF.kp.trans k)) cN xw (by omega) (by omega) xA _ hb) ?_;rintro v11 w3 ⟨cy,nw,pN,av⟩;refine OU O ((cE _ _ ⟨v11,rfl,?_⟩).qb);rw[xz] at cy;rw[show XO succ ref q=(.gamma,l.length)::Qp 0 l by unfold XO;rw[if_pos fT,gX,List.dropLast_concat,show(l++[m]).length-1=l.length by simp]];have l72:=ek.lt;have l92:=cI.lt;exact⟨pN,aF.kp.trans (av.OV λk e=> .inr e),cy,λg hg=>by have:=nw g hg;omega,av.OC ek (by omega),av.OC cI (by omega),by omega,by omega,λe=>by have:=nw _ e;omega,λe=>by have:=nw _ e;omega⟩
  ·have fT:q=0:=by omega
   have D6:=mX fT;subst D6;refine OE ((cE _ _ ⟨.slice none 0 0,rfl,?_⟩).qb);rw[show XO succ [] q=[] by unfold XO;rw[if_neg (by omega)]];exact⟨h.ext aF,aF.kp,Sl.nil _ _ _,(λg hg=>by cases hg),ek,cI,by omega,by omega,(λe=>by cases e),(λe=>by cases e)⟩
def z54 {l b rest:List Bool}{a k n:Nat}(hb:l.drop a=b++rest)(hk:k+n<=b.length):(l.drop (a+k)).take n=(b.drop k).take n:=by
 rw[<-List.drop_drop,hb,List.drop_append_of_le_length (by omega),List.take_append_of_le_length (by rw[List.length_drop];omega)]
def z9q {w:World}{r a:Nat}{s:OG}(p:S6)(hp:p.QA)(x:Nat)(hx:x<65536){la ra:Option Addr}{lc rc:Nat}(succ ref:List Nat)(hs:PE succ)(bT:succ≠[])(jH:PE ref)
  (q:Nat) (hq:q<=p.Pb) (mX:q=0->ref=[]) (hG:OR w 2 (Sy .gamma) 317) (hU:OR w 3 (Sy .unary) 317) (dS:Rd w (.slice la succ.length lc) 1 succ.length (succ.map Pq)) (mH:Rd w (.slice ra ref.length rc) 1 ref.length (ref.map Pq)) (fW:succ.length<=lc) (jF:ref.length<=rc)
  (hl:(Pa (RE p x succ ref q)).length<=134217728) (rest:List Bool) (hb:(P3 s).drop a=Pa (UC p x succ ref q)++rest) (h:TX w r s (a+(Pa (UC p x succ ref q)).length)):
  Pm prog 243 [lpV p,ptr r 0,I (a:Int),I (x:Int),.agg #[I (succ.length:Int),I (q:Int)],.slice la succ.length lc,.slice ra ref.length rc] w λu w'=>u= .bool true/\TX w' r s (a+(Pa (UC p x succ ref q)).length)/\Kp (λk=>k=r) w w':=by
 have lr0:=h.1.lt
 have l10:=hG.lt
 have l20:=hU.lt
 have fG:=hs.len
 have nz:=z1s p x (ref:=ref) q bT
 have B7:Pa (RE p x succ ref q)=Pa (QC p succ.length q)++Pa (UC p x succ ref q):=by rw[nz,Ss]
 have fD:(Pa (RE p x succ ref q)).length=(Pa (QC p succ.length q)).length+(Pa (UC p x succ ref q)).length:=by rw[nz,Ss,List.length_append]
 generalize Pa (UC p x succ ref q)=TB at*
 have B8:succ.length≠0:=λe=>bT (List.eq_nil_of_length_eq_zero e)
 refine py (e:=[(0,_),(1,_),(2,_),(3,_),(4,_),(5,_),(6,_)]) func243 O ntmps243 O O$ qN O$ OM O O (Rm O (cs:=lpC p) O) ?_
 rintro _ w1 ⟨b7,rfl,jS,ad,bP⟩
 refine OM O O (Rm O (cs:=[I (succ.length:Int),I (q:Int)]) O) ?_
 rintro _ w2 ⟨b11,rfl,j9,ae,bA⟩
 have aF:=ad.trans ae
 have z1:=ad.size
 have z2:=ae.size
 have ek:=ae.OC bP
 have h2:TX w2 r s (a+TB.length):=⟨aF.OC h.1,h.2⟩
 refine Qt O$ P4 Ys O (Uk h2) ?_
 rintro _ w2 ⟨rfl,rfl⟩
 refine Qw O$ P4 z1e O (UF w2) ?_
 rintro _ w3 ⟨wp,F,rfl,kr,ai,pO⟩
 have z3:=ai.size
 have aO:=aF.trans ai
 have lh:=ai.OC bA
 have tt:=ai.OC ek
 refine OU O$ It$ Qm O$ P8 O$ OX SA O$ qV (OO U3 O O lh O)$ qV (Pt (news:=lpC p) Zd O Uf O (tt.cells (n:=3) O) O)$ P4 zf0 O (z0e kr p hp x hx succ ref hs jH q hq mX (aO.OC hG) (aO.OC hU) (dS.ext aO) (mH.ext aO) fW jF (by simpa using hl)) ?_
 rintro _ w4 ⟨rfl,F4,m9,ao,pC⟩
 rw[List.nil_append] at m9
 have z4:=ao.size
 have dh:Ext w2 w4:=ai.An ao pO
 refine Qf O$ PW O$ Pf O$ P4 z81 O (Xf m9) ?_
 rintro _ w4 ⟨rfl,rfl⟩
 refine OK O$ RA O$ PU O$ Pn.qb (e:=[(1,_),(2,_),(7,_),(14,_),(15,_),(16,_),(17,_)]) ?_
 refine Pf O ?_
 have fL:(Ph (Pa (RE p x succ ref q))).length<=16777217:=by rw[PD];omega
 refine P4 z84 O (X8 (Ph (Pa (RE p x succ ref q))) (by omega) w4) ?_
 rintro _ w5 ⟨ow,rfl,sy,aT,NL⟩
 have iC:=dh.trans aT
 have bL:=aF.trans iC
 obtain⟨z,mz,mS,NM⟩:=Sn (Pa (RE p x succ ref q))
 have B9:(P3 (Ph (Pa (RE p x succ ref q)))).drop 0=Pa (QC p succ.length q)++(TB++List.replicate z false):=by
  rw[mz,List.drop_zero,B7,List.append_assoc]
 refine OU O$ PG O$ qV (Pt (news:=lpC p) Zd O Uf O ((iC.OC ek).cells (n:=3) O) O)$ P4 zey O (z2w sy p hp (bL.OC hG) (bL.OC hU) (by omega) (by omega) succ.length q (by omega) hq (λe=>absurd e B8) _ B9) ?_
 rintro _ w6 ⟨rfl,ll,aP⟩
 rw[Nat.zero_add] at ll
 have iD:Ext w2 w6:=iC.An aP (λk e=>by omega)
 have tw:=Sr B9
 rw[Nat.zero_add] at tw
 generalize (Ph (Pa (RE p x succ ref q)))=os at*
 have z6:=iD.size
 refine OK O$ RA O$ OM O O (RN (cs:=[_,_]) So O) ?_
 rintro _ w7 ⟨b20,rfl,Kl,bY,D7⟩
 refine OW O (PO (news:=[I (succ.length:Int),I (q:Int)]) So O O O O D7 (by simp)) ?_
 rintro w8 ⟨I6,aR⟩
 have iE:Ext w6 w8:=bY.An aR (λk e=>by omega)
 have jg:=iD.trans iE
 have h8:TX w8 r s (a+TB.length):=⟨jg.OC h2.1,h2.2⟩
 have vt:TX w8 ow os (Pa (QC p succ.length q)).length:=⟨iE.OC ll.1,ll.2⟩
 have mC:Z2 w8 wp (Pa (RE p x succ ref q)) F4:=((m9.ext aT).kp aP (λi hi e=>by have:=m9.lt hi;omega)).ext iE
 refine Qt O$ Qf O$ P8 O$ P4 z2U O (Vs mC) ?_
 rintro _ w8 ⟨rfl,rfl⟩
 refine OK O$ P4 Ys O (Uk vt) ?_
 rintro _ w8 ⟨rfl,rfl⟩
 refine Ro O ?_
 rw[show((Pa (RE p x succ ref q)).length:Int)-((Pa (QC p succ.length q)).length:Int)=(TB.length:Int) by omega]
 refine P8 O$ Ro O ?_
 rw[show((a+TB.length:Nat):Int)-(a:Int)=(TB.length:Int) by omega]
 refine Qf O$ PF$ PK O$ OD$ Pn.qb (e:=[(1,_),(2,_),(14,_),(15,_),(19,_),(64,_)]) ?_
 refine Tu O$ Qm O$ P4 zaS O (ZI h8 a (by have:=h8.2.1;omega)) ?_
 rintro _ w9 ⟨rfl,h9,aM⟩
 have vA:TX w9 ow os (Pa (QC p succ.length q)).length:=⟨aM.OC vt.1 (by omega),vt.2⟩
 refine OD$ Qx$ Rq (α:=Nat) (0) (λk=>[(1,ptr r 0),(15,I ((a+TB.length:Nat):Int)),(19,ptr ow 0)]) (λk w'=>TX w' r s (a+k)/\TX w' ow os ((Pa (QC p succ.length q)).length+k)/\Kp (λi=>i=r\/i=ow) w9 w'/\k<=TB.length) (λk=>TB.length-k) ?hI ?hround
 case hI=>exact⟨h9,vA,Kp.refl _ _,Nat.zero_le _⟩
 case hround=>
  rintro k w10 ⟨fd,xB,ar,NN⟩ ih
  try dsimp only
  refine PG O$ P4 Ys O (Uk fd) ?_;rintro _ w10 ⟨rfl,rfl⟩;refine OK O$ Qq O$ OD$ OQ O (λh0=>?_)$ λh0=>?_
  ·refine OE$ OH$ Qm O$ P4 Ys O (Uk fd) ?_;rintro _ w10 ⟨rfl,rfl⟩;refine Ro O ?_;rw[show((a+TB.length:Nat):Int)-((a+k:Nat):Int)=((TB.length-k:Nat):Int) by omega];refine qV (ymi O O) ?_;rw[show min (64:Int) ((TB.length-k:Nat):Int)=((min 64 (TB.length-k):Nat):Int) by omega];obtain⟨n,hn,cX,iu,D8⟩:∃n,min 64 (TB.length-k)=n/\1<=n/\n<=64/\k+n<=TB.length:=⟨_,rfl,by omega,by omega,by omega⟩;rw[hn];have xC:=fd.2.1;have eU:=z54 hb D8;have jX:=z54 tw D8;have HD:a+TB.length<=8*s.length:=h8.2.1
   have qW:(Pa (QC p succ.length q)).length+TB.length<=8*os.length:=by
    have e:=congrArg List.length tw;rw[List.length_drop,bitsT_length,List.length_append] at e;omega
   refine Qw O$ P8 O$ P4 z43 O (VD fd n iu) ?_;rintro v11 w11 hv
   have gd:v11= .tuple #[u64v (Pv (((P3 s).drop (a+k)).take n)),I 0]/\TX w11 r s (a+k+n)/\Kp (λk=>k=r) w10 w11:=by
    rcases hv with hv|hv
    ·exact hv.2
    ·omega
   obtain⟨rfl,lM,bu⟩:=gd;rw[eU];have D9:TX w11 ow os ((Pa (QC p succ.length q)).length+k):=⟨bu.OC xB.1 (by omega),xB.2⟩;refine OK O$ RA O$ RT O$ Qw O$ P8 O$ P4 z43 O (VD D9 n iu) ?_;rintro v12 w12 hv
   have gd:v12= .tuple #[u64v (Pv (((P3 os).drop ((Pa (QC p succ.length q)).length+k)).take n)),I 0]/\TX w12 ow os ((Pa (QC p succ.length q)).length+k+n)/\Kp (λk=>k=ow) w11 w12:=by
    rcases hv with hv|hv
    ·exact hv.2
    ·omega
   obtain⟨rfl,Da,bh⟩:=gd;rw[jX];have xD:TX w12 r s (a+k+n):=⟨bh.OC lM.1 (by omega),lM.2⟩;refine OK O$ RA O$ RT O$ Qw O$ P8 O$ Qf O$ OD$ OQ O (λh1=>?_)$ λh1=>?_
   ·exact absurd O h1
   ·refine OE$ OA ((ih (k+n) _ ⟨by rw[<-Nat.add_assoc];exact xD,by rw[<-Nat.add_assoc];exact Da,(ar.trans (bu.OV λi e=> .inl e)).trans (bh.OV λi e=> .inr e),D8⟩ (by omega)).qb)
  ·have ku:k=TB.length:=by omega
   subst ku;refine ON O$ QB O$ OB func243 O ?_;exact⟨_,rfl,rfl,fd,((aF.trans jg).kp.trans aM).An ar (λi hi=>by rcases hi with e|e;exact .inr e;exact .inl (by omega))⟩
def z0h {w:World}{r a:Nat}{s:OG}(h:TX w r s a)(p:S6)(hp:p.QA)(x:Nat)(hx:x<65536)(N:Nat)(hN:N<=65536){ra:Option Addr}{rc:Nat}(succ ref:List Nat)(hs:PE succ)(bT:succ≠[])(jf:succ.length<50)(Db:∀y∈succ,y<N)(jH:PE ref)
  (q:Nat) (hq:q<=p.Pb) (mX:q=0->ref=[]) (hG:OR w 2 (Sy .gamma) 317) (hU:OR w 3 (Sy .unary) 317) (da:¬2=r) (dw:¬3=r) (dB:∀w2,Kp (λk=>k=r) w w2->Rd w2 (.slice ra ref.length rc) 1 ref.length (ref.map Pq)) (jF:ref.length<=rc)
  (hl:(Pa (RE p x succ ref q)).length<=134217728) (rest:List Bool) (hb:(P3 s).drop a=Pa (UC p x succ ref q)++rest):
  Pm prog 224 [ptr r 0,I (x:Int),I (N:Int),.agg #[I (succ.length:Int),I (q:Int)],.slice ra ref.length rc,lpV p] w λu w'=>∃v,u= .tuple #[v,I 0]/\Sl w' v 106 1 succ.length (succ.map Pq)/\(∀g,v.ownBlock=some g->w.heap.size<=g)/\TX w' r s (a+(Pa (UC p x succ ref q)).length)/\Kp (λk=>k=r) w w':=by
 obtain⟨g1,g2,g3,g4⟩:=id hp
 have lr0:=h.1.lt
 have l10:=hG.lt
 have l20:=hU.lt
 have fG:=hs.len
 have fR:=jH.len
 have B8:0<succ.length:=List.length_pos_iff.2 bT
 refine py (e:=[(0,_),(1,_),(2,_),(3,_),(4,_),(5,_)]) func224 O ntmps224 O O$ qN O$ OM O O (Rm O (cs:=[I (succ.length:Int),I (q:Int)]) O) ?_
 rintro _ w1 ⟨b9,rfl,oI,ad,cI⟩
 refine OM O O (Rm O (cs:=lpC p) O) ?_
 rintro _ w2 ⟨b11,rfl,j9,ae,bA⟩
 replace bA:OR w2 b11 [I (p.Pb:Int),I (p.interval:Int),I (p.zeta:Int)] 279:=bA
 have aF:=ad.trans ae
 have z1:=ad.size
 have z2:=ae.size
 have dr:=ae.OC cI
 have l9:=dr.lt
 have l11:=bA.lt
 have l90:=cI.lt
 refine PU O$ It$ PI (λe' w'=>e'=[(0,ptr r 0),(1,I (x:Int)),(2,I (N:Int)),(4,.slice ra ref.length rc),(9,ptr b9 0),(11,ptr b11 0)]/\Ext w2 w') ?mc$ λmc=>?Dd
 case mc=>
  rintro e' w3 ⟨rfl,ai⟩;have dc:=aF.trans ai;have h3:TX w3 r s a:=⟨dc.OC h.1,h.2⟩;have cT:=ai.OC dr;have lh:=ai.OC bA;have z3:=ai.size;refine Pf O$ P4 Ys O (Uk h3) ?_;rintro _ w3 ⟨rfl,rfl⟩;refine Qt O$ qV (Sk (cs:=[_,_]) zjd O zhY O O)$ OM O O (Rm O (cs:=[ptr r 0,.bool false]) O) ?_;rintro _ w4 ⟨tb,rfl,Km,aD,Kn⟩;have z4:=aD.size;have bF:=dc.trans aD;have h4:TkM w4 tb r s a:=⟨Kn,⟨aD.OC h3.1,h3.2⟩,by omega⟩;refine Qw O$ P8 O$ qV (Pt (news:=[I (succ.length:Int),I (q:Int)]) z5K O So O ((aD.OC cT).cells (n:=2) O) O)$ OK O$ qV (Pt (news:=lpC p) Zd O Uf O ((aD.OC lh).cells (n:=3) O) O)$ P4 zjB O (z8M h4 (bF.OC hG) da (by omega) p hp x hx succ ref hs bT jf jH q hq mX (λw2 k=>dB w2 (bF.kp.trans k)) jF rest hb) ?_;rintro v w5 ⟨ew,pD,Ba,ak⟩;have cz:Kp (λk=>k=r) w w5:=bF.kp.An ak (λi hi=>by rcases hi with e|e;exact .inl (by omega);exact .inr e);have mb:=ak.OC (aD.OC cT) (by omega);have xE:=ak.OC (aD.OC lh) (by omega);have Ko:=Ba.OC;have Kq:=cz.OC hG da;have Kr:=cz.OC hU dw;have co:=dB w5 cz;have wq:∀g,v.ownBlock=some g->w.heap.size<=g:=λg hg=>by have:=pD g hg;have:=bF.size;omega
  obtain⟨va,vc,rfl,Bb⟩:=ew.rd.shape
  have Dc:succ.length<=vc:=by
   rcases ew.shape with⟨-,h0⟩|⟨g,c1,hv,dX⟩
   ·omega
   ·cases hv;exact dX
  refine OU O$ PG O$ Pu O$ OX TS O$ qV ((OO U4 O O Ko O))$ P8 O$ Rv Ps O$ OX Tq O$ qV ((OO U3 O O mb O))$ Qf O$ PF$ PK O$ P8 O$ P4 z5C O (WA _ succ hs w5 ew.rd) ?_;rintro _ w5 ⟨rfl,rfl⟩;refine qV ((Sb O))$ PK O$ P8 O$ Rv Ps O$ Ri O$ PF$ PK O$ P8 O$ OK O$ Rv Ps O$ Ro O ?_;rw[show(succ.length:Int)-1=((succ.length-1:Nat):Int) by omega];obtain⟨y,hy⟩:∃y,succ[succ.length-1]? =some y:=⟨_,List.getElem?_eq_getElem (by omega)⟩;have NO:=Db y (List.mem_of_getElem? hy)
  obtain⟨g5,c5,e5⟩:∃g c,Value.slice va succ.length vc= .slice (some ⟨g,0,none⟩) succ.length c:=by
   rcases ew.shape with⟨-,h0⟩|⟨g,c,e,hc⟩
   ·omega
   ·exact⟨g,c,e⟩
  cases e5;refine qV (PX Ps OP O O (by omega))$ qV (Pr Py O O (Qo ew.rd (show(succ.map Pq)[succ.length-1]? =some (Pq y) by rw[List.getElem?_map,hy];rfl))) ?_;refine qV (PJ O Py U3 (by omega))$ OK O$ Te O$ PF$ PK O$ OK O$ qV (Pt (news:=lpC p) Zd O Uf O (xE.cells (n:=3) O) O)$ P8 O$ OK O$ qV (Pt (news:=[I (succ.length:Int),I (q:Int)]) z5K O So O (mb.cells (n:=2) O) O)$ P8 O$ P4 zj2 O (z9q p hp x hx succ ref hs bT jH q hq mX Kq Kr ew.rd co Dc jF hl rest hb Ba.rd) ?_;rintro _ w6 ⟨rfl,h6,aP⟩;refine qV ((Sb O))$ PK O$ OD$ Pn.qb (e:=[(0,_),(14,_),(16,_),(134,_)]) ?_;refine Tu O$ Pf O$ PU O$ OB func224 O ?_;exact⟨_,rfl,_,rfl,ew.kp aP (λg hg e=>by have:=wq g hg;omega),wq,h6,cz.trans aP⟩
 case Dd=>
  refine OH$ Pf O$ qV (Qi Vj O O)$ OU O$ OJ O$ It$ qN O$ qV (Pt (news:=lpC p) Zd O Uf O (bA.cells (n:=3) O) O)$ P4 z5n O (U0 p hp w2) ?_;rintro _ w3 ⟨rfl,ai⟩;refine Qf O$ P8 O$ P4 z7K O (VT x hx w3) ?_;rintro _ w3 ⟨rfl,rfl⟩;refine qV ((Sb O))$ PK O$ P8 O$ Qq O$ PF$ PK O$ P8 O$ Qu O$ PF$ PK O$ P8 O$ P4 z5C O (WA _ ref jH w3 (dB w3 (aF.trans ai).kp)) ?_;rintro _ w3 ⟨rfl,rfl⟩;refine qV ((Sb O))$ PK O$ OU O$ Pn.qb (e:=[(0,_),(1,_),(2,_),(4,_),(9,_),(11,_),(12,_),(13,_),(20,_)]) ?_;refine OJ O$ OL O$ OX Tq O$ qV ((OO U3 O O (ai.OC dr) O))$ Qq O$ PF$ OK O$ OX Tq O$ qV ((OO U3 O O (ai.OC dr) O))$ Qu O$ PF$ PK O$ OK O$ OX SA O ?_;refine qV ((OO U3 O O (ai.OC dr) O))$ Qq O$ PF$ PK O$ OK O$ OX SA O$ qV ((OO U3 O O (ai.OC dr) O))$ OX Tg O$ qV ((OO U3 O O (ai.OC bA) O))$ Qu O$ PF$ PK O$ OK O ?_;rcases Nat.eq_zero_or_pos q with e0|e0
  ·have Ks:ref.length=0:=by rw[mX e0];rfl
   refine OX SA O$ qV ((OO U3 O O (ai.OC dr) O))$ Ri O$ Rp$ P8 O$ Rv Ps O$ Qu O$ PF$ QJ O$ PK O$ OU O$ Pn.qb (e:=[(0,_),(1,_),(2,_),(4,_),(9,_),(11,_),(12,_),(13,_),(20,_)]) ?_;refine OJ O$ qN O$ OX Tq O$ qV ((OO U3 O O (ai.OC dr) O))$ Ri O$ PF$ OK O$ QG$ qS$ PK O$ OU O$ Tu O$ OA ?_;exact(mc _ _ ⟨rfl,ai⟩).qb
  ·refine OX SA O$ qV ((OO U3 O O (ai.OC dr) O))$ Ri O$ PF$ OK O$ QG$ qS$ PK O$ PK O$ OU O$ Pn.qb (e:=[(0,_),(1,_),(2,_),(4,_),(9,_),(11,_),(12,_),(13,_),(20,_)]) ?_;refine OJ O$ qN O$ OX Tq O$ qV ((OO U3 O O (ai.OC dr) O))$ Ri O$ PF$ OK O$ QG$ qS$ PK O$ OU O$ Tu O$ OA ?_;exact(mc _ _ ⟨rfl,ai⟩).qb
def z39 {w:World}{r:Nat}(p:S6)(hp:p.QA)(x:Nat)(hx:x<65536)(N:Nat)(hN:N<=65536):
  Pm prog 224 [ptr r 0,I (x:Int),I (N:Int),.agg #[I ((0:Nat):Int),I ((0:Nat):Int)],.slice none 0 0,lpV p] w λu w'=>u= .tuple #[.slice none 0 0,I 0]/\Ext w w':=by
 obtain⟨g1,g2,g3,g4⟩:=id hp
 have sV:([]:List Nat).length=0:=rfl
 refine py (e:=[(0,_),(1,_),(2,_),(3,_),(4,_),(5,_)]) func224 O ntmps224 O O$ qN O$ OM O O (Rm O (cs:=[I ((0:Nat):Int),I ((0:Nat):Int)]) O) ?_
 rintro _ w1 ⟨b9,rfl,oI,ad,cI⟩
 refine OM O O (Rm O (cs:=lpC p) O) ?_
 rintro _ w2 ⟨b11,rfl,j9,ae,bA⟩
 replace bA:OR w2 b11 [I (p.Pb:Int),I (p.interval:Int),I (p.zeta:Int)] 279:=bA
 have aF:=ad.trans ae
 have dr:=ae.OC cI
 refine PU O$ Qx$ Pf O$ qV (Qi Vj O O)$ OU O$ OJ O$ It$ qN O$ qV (Pt (news:=lpC p) Zd O Uf O (bA.cells (n:=3) O) O)$ P4 z5n O (U0 p hp w2) ?_
 rintro _ w3 ⟨rfl,ai⟩
 refine Qf O$ P8 O$ P4 z7K O (VT x hx w3) ?_
 rintro _ w3 ⟨rfl,rfl⟩
 refine qV ((Sb O))$ PK O$ P8 O$ Qq O$ PF$ PK O$ P8 O$ Qu O$ PF$ PK O$ P8 O$ P4 z5C O (WA (.slice none 0 0) [] ⟨List.Pairwise.nil,λy h=>(by cases h)⟩ w3 Vp) ?_
 rintro _ w3 ⟨rfl,rfl⟩
 refine qV ((Sb O))$ PK O$ OU O$ Pn.qb (e:=[(0,_),(1,_),(2,_),(4,_),(9,_),(11,_),(12,_),(13,_),(20,_)]) ?_
 refine OJ O$ OL O$ OX Tq O$ qV ((OO U3 O O (ai.OC dr) O))$ Qq O$ PF$ OK O$ OX Tq O$ qV ((OO U3 O O (ai.OC dr) O))$ Qu O$ PF$ PK O$ OK O$ OX SA O ?_
 refine qV ((OO U3 O O (ai.OC dr) O))$ Qq O$ PF$ PK O$ OK O$ OX SA O$ qV ((OO U3 O O (ai.OC dr) O))$ OX Tg O$ qV ((OO U3 O O (ai.OC bA) O))$ Qu O$ PF$ PK O$ OK O$ OX SA O ?_
 refine qV ((OO U3 O O (ai.OC dr) O))$ Ri O$ Rp$ P8 O$ Rv Ps O$ Qu O$ PF$ QJ O$ PK O$ OU O$ Pn.qb (e:=[(0,_),(1,_),(2,_),(4,_),(9,_),(11,_),(12,_),(13,_),(20,_)]) ?_
 refine OJ O$ qN O$ OX Tq O$ qV ((OO U3 O O (ai.OC dr) O))$ Ri O$ Rp$ OK O$ OX SA O$ qV ((OO U3 O O (ai.OC dr) O))$ Ri O$ Rp$ QJ O$ OU O$ OS O ?_
 refine qN O$ PU O$ OB func224 O ?_
 exact⟨_,rfl,rfl,aF.trans ai⟩
/-! ### A packer's cells -/
def W5 (q:Value×Nat):List Value:=[q.1,I (q.2:Int)]
def Ya (p:Qr)(R:List (Value×Nat))(n wp ed:Nat):List Value:=Vn p++(R.flatMap W5++[I (n:Int),ptr wp 0,I (ed:Int),I 0])
theorem RW:∀R:List (Value×Nat),(R.flatMap W5).length=R.length*2
 |[]=>rfl
 |q::R=>by rw[List.flatMap_cons,List.length_append,RW R,List.length_cons,show(W5 q).length=2 from rfl];omega
def z4I:∀(R:List (Value×Nat)) (i j:Nat) (q:Value×Nat) (u:Value),R[i]? =some q->(W5 q)[j]? =some u->(R.flatMap W5)[i*2+j]? =some u
 |[],i,j,q,u,h,_=>by simp at h
 | a :: R, 0, j, q, u, h, hj => by
   rw[List.getElem?_cons_zero] at h;cases h;have:=(List.getElem?_eq_some_iff.1 hj).1;rw[List.flatMap_cons,List.getElem?_append_left (by omega),Nat.zero_mul,Nat.zero_add]
   exact hj
 | a :: R, i + 1, j, q, u, h, hj => by
   rw[List.getElem?_cons_succ] at h;rw[List.flatMap_cons,List.getElem?_append_right (by show 2<=_;omega),show(i+1)*2+j-(W5 a).length=i*2+j by show _-2=_;omega];exact z4I R i j q u h hj
theorem z5L:∀(R:List (Value×Nat)) (i:Nat) (x:Value×Nat),i<R.length->(R.set i x).flatMap W5=(R.flatMap W5).take (i*2)++W5 x++(R.flatMap W5).drop (i*2+2)
 |[],i,x,h=>by simp at h
 | a :: R, 0, x, h => by
   rw[List.set_cons_zero,List.flatMap_cons,List.flatMap_cons,Nat.zero_mul,List.take_zero,List.nil_append,Nat.zero_add,List.drop_left' (show(W5 a).length=2 from rfl)]
 | a :: R, i + 1, x, h => by
   rw[List.length_cons] at h;rw[List.set_cons_succ,List.flatMap_cons,List.flatMap_cons,z5L R i x (by omega)];rw[show(i+1)*2=(W5 a).length+i*2 by show _=2+_;omega,List.take_length_add_append,Nat.add_assoc,List.drop_length_add_append,List.append_assoc,List.append_assoc,List.append_assoc]
section
variable {p:Qr}{R:List (Value×Nat)}{n wp ed:Nat}
theorem z6R (hR:R.length=17):(Ya p R n wp ed).length=43:=by
 unfold Ya
 rw[List.length_append,List.length_append,RW,hR];rfl
def z0F (hR:R.length=17)(j:Nat):(Ya p R n wp ed)[39+j]? =[I (n:Int),ptr wp 0,I (ed:Int),I 0][j]? :=by
 unfold Ya
 rw[List.getElem?_append_right (by show 5<=_;omega),List.getElem?_append_right (by rw[RW,hR];show _<=_-5;omega),RW,hR]
 congr 1
 show 39+j-5-17*2=j
 omega
def z6X (hR:R.length=17):(Ya p R n wp ed)[39]? =some (I (n:Int)):=z0F hR 0
def zgy (hR:R.length=17):(Ya p R n wp ed)[40]? =some (ptr wp 0):=z0F hR 1
def zjx (hR:R.length=17):(Ya p R n wp ed)[41]? =some (I (ed:Int)):=z0F hR 2
def zl4 (hR:R.length=17):(Ya p R n wp ed)[42]? =some (I 0):=z0F hR 3
def zdC (hR:R.length=17){i:Nat}{v:Value}{c:Nat}(h:R[i]? =some (v,c))(j:Nat)(u:Value)(hj:[v,I (c:Int)][j]? =some u):(Ya p R n wp ed)[5+i*2+j]? =some u:=by
 have hi:=(List.getElem?_eq_some_iff.1 h).1
 have kT:j<2:=(List.getElem?_eq_some_iff.1 hj).1
 unfold Ya
 rw[List.getElem?_append_right (by show 5<=_;omega),show 5+i*2+j-(Vn p).length=i*2+j by show _-5=_;omega,List.getElem?_append_left (by rw[RW];omega)]
 exact z4I R i j _ u h hj
theorem z9r (hR:R.length=17){i:Nat}(hi:i<17)(v:Value)(c:Nat):QR (Ya p R n wp ed) (5+i*2) [v,I (c:Int)]=Ya p (R.set i (v,c)) n wp ed:=by
 unfold Ya QR
 rw[z5L R i (v,c) (by omega)]
 rw[show 5+i*2=(Vn p).length+i*2 from rfl,List.take_length_add_append,show(Vn p).length+i*2+[v,I (c:Int)].length=(Vn p).length+(i*2+2) from rfl,List.drop_length_add_append]
 rw[List.take_append_of_le_length (by rw[RW];omega),List.drop_append_of_le_length (by rw[RW];omega)]
 simp only[List.append_assoc]
 rfl
theorem zcZ (hR:R.length=17)(m:Nat):(Ya p R n wp ed).set 39 (I (m:Int))=Ya p R m wp ed:=by
 unfold Ya
 rw[List.set_append_right _ _ (by show 5<=_;omega),List.set_append_right _ _ (by rw[RW,hR];show _<=39-5;omega),RW,hR]
 rfl
theorem zdF (hR:R.length=17)(m:Nat):(Ya p R n wp ed).set 41 (I (m:Int))=Ya p R n wp m:=by
 unfold Ya
 rw[List.set_append_right _ _ (by show 5<=_;omega),List.set_append_right _ _ (by rw[RW,hR];show _<=41-5;omega),RW,hR]
 rfl
end
def zaT {w:World}{k:Nat}{p:Qr}{R:List (Value×Nat)}{n wp ed:Nat}(hB:OR w k (Ya p R n wp ed) 276)(hR:R.length=17)(hn:n<=65536)(a:Option Addr)(m cp c:Nat):
  Pm prog 176 [ptr k 5,.slice a m cp,I (c:Int)] w λu w'=>u= .tuple #[]/\OR w' k (Ya p (R.set (n%17) (.slice a m cp,c)) (n+1) wp ed) 276/\Kp (λi=>i=k) w w':=by
 refine py (e:=[(0,_),(1,_),(2,_)]) func176 O ntmps176 O O ?_
 have hg:=Ext.OT w
 have cO:(R.set (n%17) (.slice a m cp,c)).length=17:=by rw[List.length_set];exact hR
 refine It$ P7 [12] (λw'=>Ext w w') (by kernel_rfl) O$ PL 0 O O (hg)$ PL 1 O O (hg)$ P9 2 O (Q4 O) hg$ P9 3 O (Pp Vc O) hg$ PL 6 O O (hg)$ PL 7 O O (hg)$ P9 8 O (Sk (cs:=[_,_]) QT O zfv O O) hg$ P9 9 O (Q4 O) hg$ P9 10 O (Pp z8a O) hg$ qL 4 O (λ_ h=>OO U3 O O (h.OC hB) (z6X hR)) hg$ P9 5 O (yre O O (by omega)) hg$ P9 11 O (yia zjM QT O O (by omega)) hg ?_
 refine SM [12]$ qO 12$ PC (i:=12) O O (PO (news:=[.slice a m cp,I (c:Int)]) QT O O O O (hg.OC hB) (by rw[z6R hR];show 5+n%17*2+2<=43;omega)) ?_
 rintro w1 ⟨aj,aL⟩
 refine⟨trivial,?_⟩
 replace aj:OR w1 k (QR (Ya p R n wp ed) (5+n%17*2) [.slice a m cp,I (c:Int)]) 276:=aj
 rw[z9r hR (Nat.mod_lt _ (by decide))] at aj
 refine qE$ Rh O$ Pu O$ OX Vc O$ qV (OO U3 O O aj (z6X cO))$ PV O$ Pu O$ OX Vc O$ OW O (QQ Q7 O O O aj (by rw[z6R cO];decide)) ?_
 rintro w2 ⟨am,aq⟩
 replace am:OR w2 k ((Ya p (R.set (n%17) (.slice a m cp,c)) n wp ed).set 39 (I ((n+1:Nat):Int))) 276:=am
 rw[zcZ cO] at am
 refine OD$ Qv func176 O ?_
 exact⟨_,rfl,rfl,am,(hg.kp.trans aL).trans aq⟩
def Ua (p:Qr)(m size c:Nat):Bool:=decide (0<m/\m<=p.most/\0<size/\size<=p.most/\c<p.chain)
def X9 {w:World}{k:Nat}{p:Qr}{R:List (Value×Nat)}{n wp ed:Nat}(hB:OR w k (Ya p R n wp ed) 276)(hR:R.length=17)(hn:n<=65536)(hp:p.QA)(ref size:Nat)(h1:1<=ref)(h2:ref<=p.Pb)
  {a:Option Addr} {m cp c:Nat} (hq:ref<=n->R[(n-ref)%17]? =some (.slice a m cp,c)):
  Pm prog 174 [ptr k 5,I (ref:Int),I (size:Int),bpV p] w λu w'=>u=(if ref<=n then .tuple #[.agg #[.slice a m cp,I (c:Int)],.bool (Ua p m size c)] else .tuple #[.agg #[.slice none 0 0,I 0],.bool false])/\Ext w w':=by
 have xF:p.Pb<=16:=hp.1.1
 refine py (e:=[(0,_),(1,_),(2,_),(3,_)]) func174 O ntmps174 O O$ qN O$ OM O O (Rm O (cs:=Vn p) O) ?_
 rintro _ w1 ⟨b7,rfl,jS,ad,bP⟩
 refine OM O O (RN (cs:=[_,_]) QT O) ?_
 rintro _ w2 ⟨b8,rfl,gV,ae,ce⟩
 have z1:=ad.size
 have z2:=ae.size
 have l7:=bP.lt
 have l8:=ce.lt
 have aF:=ad.trans ae
 have ek:=ae.OC bP
 replace ek:OR w2 b7 [I (p.Pb:Int),I (p.chain:Int),I (p.interval:Int),I (p.zeta:Int),I (p.most:Int)] 94:=ek
 replace ce:OR w2 b8 [.slice none 0 0,I 0] 271:=ce
 have tz:=aF.OC hB
 have aa:=Ext.OT w2
 refine OU O$ It$ It ?_
 rcases Nat.lt_or_ge n ref with aZ|jR
 ·refine R5 (λw'=>Ext w2 w') O$ OZ 0 O O (aa)$ OI 1 O (ylt O O) aa$ Uc$ OZ 2 O O (aa)$ OZ 3 O O (aa)$ OZ 4 O O (aa)$ OI 5 O (Q4 O) aa$ OI 6 O (Pp Vc O) aa$ OI 8 O (Pp z0T O) aa$ qT 9 O (λ_ h=>OO U3 O O (h.OC ek) O) aa$ qT 7 O (λ_ h=>OO U3 O O (h.OC tz) (z6X hR)) aa$ OI 10 O (ymi O O) aa$ OI 11 O (Xw O O) aa ?_;refine TT$ OI 12 O (Ub O O) aa$ qE$ OS O$ qN O$ qV (Sk (cs:=[_,_]) QT O zfv O O) ?_;have tA:=aa.OC ce;refine OW O (PO (news:=[.slice none 0 0,I 0]) QT O O O O tA (by simp)) ?_;rintro w3 ⟨tB,av⟩;replace tB:OR w3 b8 [.slice none 0 0,I 0] 271:=tB;refine OU O$ Po func174 (.cell Y6 O QT O (OR.cells (n:=2) tB (news:=[_,_]) O) O (.tmp O .nil)) ?_;rw[if_neg (by omega)];exact⟨_,rfl,rfl,(aF.trans aa).An av (λi e=>by omega)⟩
 ·have fF:=hq jR;rw[if_pos jR];refine R5 (λw'=>Ext w2 w') O$ OZ 0 O O (aa)$ OI 1 O (ylt O O) aa$ Uc$ OZ 2 O O (aa)$ OZ 3 O O (aa)$ OZ 4 O O (aa)$ OI 5 O (Q4 O) aa$ OI 6 O (Pp Vc O) aa$ OI 8 O (Pp z0T O) aa$ qT 9 O (λ_ h=>OO U3 O O (h.OC ek) O) aa$ qT 7 O (λ_ h=>OO U3 O O (h.OC tz) (z6X hR)) aa$ OI 10 O (ymi O O) aa$ OI 11 O (Xw O O) aa ?_;refine Uc$ OI 12 O (Ub O O) aa$ qE$ Tu O$ It ?_;have af:=aa.trans (Ext.OT w2.drew);have ft:=Ext.OT w2.drew;have nA:=aa.OC tz;refine P7 [13] (λw'=>Ext w2.drew w') (by kernel_rfl) O$ PL 0 O O (ft)$ PL 1 O O (ft)$ P9 2 O (Q4 O) ft$ P9 3 O (Pp Vc O) ft$ PL 5 O O (ft)$ P9 8 O (Q4 O) ft$ P9 9 O (Pp z8a O) ft$ qL 4 O (λ_ h=>OO U3 O O (h.OC nA) (z6X hR)) ft$ P9 6 O (XH O O (by omega)) ft ?_;rw[show(n:Int)-(ref:Int)=((n-ref:Nat):Int) by omega];refine P9 7 O (yre O O (by omega)) ft$ P9 10 O (yia zjM QT O O (by omega)) ft$ qL 11 O (λ_ h=>Pt (news:=[.slice a m cp,I (c:Int)]) Y6 O QT O (λj u hj=>by rw[(h.OC nA).cell];exact zdC hR fF j u hj) O) ft ?_;refine QY (i:=12) (by kernel_rfl)$ Ql (i:=12) O O O (RN (cs:=[_,_]) QT O) ?_;rintro _ w3 ⟨b10,rfl,C3,ai,fM⟩;refine⟨ft.trans ai,?_⟩;refine SM [13]$ qO 13$ PC (i:=13) O O (PO (news:=[.slice a m cp,I (c:Int)]) QT O O O O fM (by simp)) ?_;rintro w4 ⟨bR,ao⟩;refine⟨trivial,?_⟩;replace bR:OR w4 b10 [.slice a m cp,I (c:Int)] 271:=bR;have z23:=af.size;have z3:=ai.size;have dh:Ext w2 w4:=(af.trans ai).An ao (λi e=>by omega);have z4:=dh.size;have eL:=dh.OC ce;have fu:=dh.OC ek;have ag:=Ext.OT w4;refine qE$ Pn.qb (e:=[(2,_),(7,_),(8,_),(9,_),(10,_)]) ?_;refine It ?_;rcases Nat.eq_zero_or_pos m with c0|c0
  ·refine R5 (λw'=>Kp (λi=>i=b8) w4 w') O$ qT 0 O (λ_ hS=>(Pt Y6 O QT O (OR.cells (n:=2) (hS.OC bR (by omega)) (news:=[_,_]) O) O)) (ag.kp)$ OI 1 O (Pp Sz O) (ag.kp)$ qT 2 O (λ_ hS=>(OO Ps O O (hS.OC bR (by omega)) O)) (ag.kp)$ OI 3 O (SF Ps O) (ag.kp)$ OI 4 O (Xw O O) (ag.kp)$ Uc$ OZ 5 O O (ag.kp)$ qJ 6 O (ag.kp)$ qJ 7 O (ag.kp)$ qJ 8 O (ag.kp)$ qJ 9 O (ag.kp)$ qJ 10 O (ag.kp)$ qJ 11 O (ag.kp) ?_;refine OI 12 O (Ub O O) (ag.kp)$ OZ 13 O O (ag.kp)$ qJ 14 O (ag.kp)$ qJ 15 O (ag.kp)$ OI 16 O (Ub O O) (ag.kp)$ OZ 17 O O (ag.kp)$ qJ 18 O (ag.kp)$ qJ 19 O (ag.kp)$ qJ 20 O (ag.kp)$ qJ 21 O (ag.kp)$ OI 22 O (Ub O O) (ag.kp)$ OZ 23 O O (ag.kp)$ qJ 24 O (ag.kp)$ qJ 25 O (ag.kp) ?_;refine qJ 26 O (ag.kp)$ qJ 27 O (ag.kp)$ qJ 28 O (ag.kp)$ OI 29 O (Ub O O) (ag.kp)$ qO 30$ PC (i:=30) O O (PO (news:=[.slice a m cp,I (c:Int)]) QT O O O O (ag.OC eL) (by simp)) ?_;rintro w5 ⟨bN,ak⟩;refine⟨ag.kp.trans ak,?_⟩;replace bN:OR w5 b8 [.slice a m cp,I (c:Int)] 271:=bN;refine OI 31 O (R7 O) (ag.kp.trans ak)$ qE$ Pn.qb (e:=[(8,_),(9,_)]) ?_;refine Po func174 (.cell Y6 O QT O (OR.cells (n:=2) bN (news:=[_,_]) O) O (.tmp O .nil)) ?_;have ay:Ua p m size c=false:=decide_eq_false (λh=>by omega);rw[ay];exact⟨_,rfl,rfl,((aF.trans dh).trans ag).An ak (λi e=>by omega)⟩
  ·rcases Nat.lt_or_ge p.most m with c1|c1
   ·refine R5 (λw'=>Kp (λi=>i=b8) w4 w') O$ qT 0 O (λ_ hS=>(Pt Y6 O QT O (OR.cells (n:=2) (hS.OC bR (by omega)) (news:=[_,_]) O) O)) (ag.kp)$ OI 1 O (Pp Sz O) (ag.kp)$ qT 2 O (λ_ hS=>(OO Ps O O (hS.OC bR (by omega)) O)) (ag.kp)$ OI 3 O (SF Ps O) (ag.kp)$ OI 4 O (Xw O O) (ag.kp)$ TT$ OZ 5 O O (ag.kp)$ OI 6 O (Pp Sz O) (ag.kp)$ qT 7 O (λ_ hS=>(OO Ps O O (hS.OC bR (by omega)) O)) (ag.kp)$ OI 8 O (SF Ps O) (ag.kp)$ OI 9 O (Pp TM O) (ag.kp)$ qT 10 O (λ_ hS=>(OO U3 O O (hS.OC fu (by omega)) O)) (ag.kp)$ OI 11 O (Zb O O) (ag.kp) ?_;refine Uc$ OI 12 O (UJ O O) (ag.kp)$ OZ 13 O O (ag.kp)$ qJ 14 O (ag.kp)$ qJ 15 O (ag.kp)$ OI 16 O (Ub O O) (ag.kp)$ OZ 17 O O (ag.kp)$ qJ 18 O (ag.kp)$ qJ 19 O (ag.kp)$ qJ 20 O (ag.kp)$ qJ 21 O (ag.kp)$ OI 22 O (Ub O O) (ag.kp)$ OZ 23 O O (ag.kp)$ qJ 24 O (ag.kp) ?_;refine qJ 25 O (ag.kp)$ qJ 26 O (ag.kp)$ qJ 27 O (ag.kp)$ qJ 28 O (ag.kp)$ OI 29 O (Ub O O) (ag.kp)$ qO 30$ PC (i:=30) O O (PO (news:=[.slice a m cp,I (c:Int)]) QT O O O O (ag.OC eL) (by simp)) ?_;rintro w5 ⟨bN,ak⟩;refine⟨ag.kp.trans ak,?_⟩;replace bN:OR w5 b8 [.slice a m cp,I (c:Int)] 271:=bN;refine OI 31 O (R7 O) (ag.kp.trans ak)$ qE$ Pn.qb (e:=[(8,_),(9,_)]) ?_;refine Po func174 (.cell Y6 O QT O (OR.cells (n:=2) bN (news:=[_,_]) O) O (.tmp O .nil)) ?_;have ay:Ua p m size c=false:=decide_eq_false (λh=>by omega);rw[ay];exact⟨_,rfl,rfl,((aF.trans dh).trans ag).An ak (λi e=>by omega)⟩
   ·rcases Nat.eq_zero_or_pos size with c2|c2
    ·refine R5 (λw'=>Kp (λi=>i=b8) w4 w') O$ qT 0 O (λ_ hS=>(Pt Y6 O QT O (OR.cells (n:=2) (hS.OC bR (by omega)) (news:=[_,_]) O) O)) (ag.kp)$ OI 1 O (Pp Sz O) (ag.kp)$ qT 2 O (λ_ hS=>(OO Ps O O (hS.OC bR (by omega)) O)) (ag.kp)$ OI 3 O (SF Ps O) (ag.kp)$ OI 4 O (Xw O O) (ag.kp)$ TT$ OZ 5 O O (ag.kp)$ OI 6 O (Pp Sz O) (ag.kp)$ qT 7 O (λ_ hS=>(OO Ps O O (hS.OC bR (by omega)) O)) (ag.kp)$ OI 8 O (SF Ps O) (ag.kp)$ OI 9 O (Pp TM O) (ag.kp)$ qT 10 O (λ_ hS=>(OO U3 O O (hS.OC fu (by omega)) O)) (ag.kp)$ OI 11 O (Zb O O) (ag.kp) ?_;refine TT$ OI 12 O (UJ O O) (ag.kp)$ OZ 13 O O (ag.kp)$ OZ 14 O O (ag.kp)$ OI 15 O (Xw O O) (ag.kp)$ Uc$ OI 16 O (UJ O O) (ag.kp)$ OZ 17 O O (ag.kp)$ qJ 18 O (ag.kp)$ qJ 19 O (ag.kp)$ qJ 20 O (ag.kp)$ qJ 21 O (ag.kp)$ OI 22 O (Ub O O) (ag.kp)$ OZ 23 O O (ag.kp) ?_;refine qJ 24 O (ag.kp)$ qJ 25 O (ag.kp)$ qJ 26 O (ag.kp)$ qJ 27 O (ag.kp)$ qJ 28 O (ag.kp)$ OI 29 O (Ub O O) (ag.kp)$ qO 30$ PC (i:=30) O O (PO (news:=[.slice a m cp,I (c:Int)]) QT O O O O (ag.OC eL) (by simp)) ?_;rintro w5 ⟨bN,ak⟩;refine⟨ag.kp.trans ak,?_⟩;replace bN:OR w5 b8 [.slice a m cp,I (c:Int)] 271:=bN;refine OI 31 O (R7 O) (ag.kp.trans ak)$ qE$ Pn.qb (e:=[(8,_),(9,_)]) ?_;refine Po func174 (.cell Y6 O QT O (OR.cells (n:=2) bN (news:=[_,_]) O) O (.tmp O .nil)) ?_;have ay:Ua p m size c=false:=decide_eq_false (λh=>by omega);rw[ay];exact⟨_,rfl,rfl,((aF.trans dh).trans ag).An ak (λi e=>by omega)⟩
    ·rcases Nat.lt_or_ge p.most size with c3|c3
     ·refine R5 (λw'=>Kp (λi=>i=b8) w4 w') O$ qT 0 O (λ_ hS=>(Pt Y6 O QT O (OR.cells (n:=2) (hS.OC bR (by omega)) (news:=[_,_]) O) O)) (ag.kp)$ OI 1 O (Pp Sz O) (ag.kp)$ qT 2 O (λ_ hS=>(OO Ps O O (hS.OC bR (by omega)) O)) (ag.kp)$ OI 3 O (SF Ps O) (ag.kp)$ OI 4 O (Xw O O) (ag.kp)$ TT$ OZ 5 O O (ag.kp)$ OI 6 O (Pp Sz O) (ag.kp)$ qT 7 O (λ_ hS=>(OO Ps O O (hS.OC bR (by omega)) O)) (ag.kp)$ OI 8 O (SF Ps O) (ag.kp)$ OI 9 O (Pp TM O) (ag.kp)$ qT 10 O (λ_ hS=>(OO U3 O O (hS.OC fu (by omega)) O)) (ag.kp)$ OI 11 O (Zb O O) (ag.kp) ?_;refine TT$ OI 12 O (UJ O O) (ag.kp)$ OZ 13 O O (ag.kp)$ OZ 14 O O (ag.kp)$ OI 15 O (Xw O O) (ag.kp)$ TT$ OI 16 O (UJ O O) (ag.kp)$ OZ 17 O O (ag.kp)$ OZ 18 O O (ag.kp)$ OI 19 O (Pp TM O) (ag.kp)$ qT 20 O (λ_ hS=>(OO U3 O O (hS.OC fu (by omega)) O)) (ag.kp)$ OI 21 O (Zb O O) (ag.kp)$ Uc$ OI 22 O (UJ O O) (ag.kp) ?_;refine OZ 23 O O (ag.kp)$ qJ 24 O (ag.kp)$ qJ 25 O (ag.kp)$ qJ 26 O (ag.kp)$ qJ 27 O (ag.kp)$ qJ 28 O (ag.kp)$ OI 29 O (Ub O O) (ag.kp)$ qO 30$ PC (i:=30) O O (PO (news:=[.slice a m cp,I (c:Int)]) QT O O O O (ag.OC eL) (by simp)) ?_;rintro w5 ⟨bN,ak⟩;refine⟨ag.kp.trans ak,?_⟩;replace bN:OR w5 b8 [.slice a m cp,I (c:Int)] 271:=bN;refine OI 31 O (R7 O) (ag.kp.trans ak)$ qE$ Pn.qb (e:=[(8,_),(9,_)]) ?_;refine Po func174 (.cell Y6 O QT O (OR.cells (n:=2) bN (news:=[_,_]) O) O (.tmp O .nil)) ?_;have ay:Ua p m size c=false:=decide_eq_false (λh=>by omega);rw[ay];exact⟨_,rfl,rfl,((aF.trans dh).trans ag).An ak (λi e=>by omega)⟩
     ·rcases Nat.lt_or_ge c p.chain with c4|c4
      ·refine R5 (λw'=>Kp (λi=>i=b8) w4 w') O$ qT 0 O (λ_ hS=>(Pt Y6 O QT O (OR.cells (n:=2) (hS.OC bR (by omega)) (news:=[_,_]) O) O)) (ag.kp)$ OI 1 O (Pp Sz O) (ag.kp)$ qT 2 O (λ_ hS=>(OO Ps O O (hS.OC bR (by omega)) O)) (ag.kp)$ OI 3 O (SF Ps O) (ag.kp)$ OI 4 O (Xw O O) (ag.kp)$ TT$ OZ 5 O O (ag.kp)$ OI 6 O (Pp Sz O) (ag.kp)$ qT 7 O (λ_ hS=>(OO Ps O O (hS.OC bR (by omega)) O)) (ag.kp)$ OI 8 O (SF Ps O) (ag.kp)$ OI 9 O (Pp TM O) (ag.kp)$ qT 10 O (λ_ hS=>(OO U3 O O (hS.OC fu (by omega)) O)) (ag.kp)$ OI 11 O (Zb O O) (ag.kp) ?_;refine TT$ OI 12 O (UJ O O) (ag.kp)$ OZ 13 O O (ag.kp)$ OZ 14 O O (ag.kp)$ OI 15 O (Xw O O) (ag.kp)$ TT$ OI 16 O (UJ O O) (ag.kp)$ OZ 17 O O (ag.kp)$ OZ 18 O O (ag.kp)$ OI 19 O (Pp TM O) (ag.kp)$ qT 20 O (λ_ hS=>(OO U3 O O (hS.OC fu (by omega)) O)) (ag.kp)$ OI 21 O (Zb O O) (ag.kp)$ TT$ OI 22 O (UJ O O) (ag.kp) ?_;refine OZ 23 O O (ag.kp)$ OI 24 O (Pp z3h O) (ag.kp)$ qT 25 O (λ_ hS=>(OO U3 O O (hS.OC bR (by omega)) O)) (ag.kp)$ OI 26 O (Pp Zm O) (ag.kp)$ qT 27 O (λ_ hS=>(OO U3 O O (hS.OC fu (by omega)) O)) (ag.kp)$ OI 28 O (ylt O O) (ag.kp)$ TT$ OI 29 O (UJ O O) (ag.kp)$ qO 30$ PC (i:=30) O O (PO (news:=[.slice a m cp,I (c:Int)]) QT O O O O (ag.OC eL) (by simp)) ?_;rintro w5 ⟨bN,ak⟩;refine⟨ag.kp.trans ak,?_⟩;replace bN:OR w5 b8 [.slice a m cp,I (c:Int)] 271:=bN;refine OI 31 O (R7 O) (ag.kp.trans ak)$ qE$ Pn.qb (e:=[(8,_),(9,_)]) ?_;refine Po func174 (.cell Y6 O QT O (OR.cells (n:=2) bN (news:=[_,_]) O) O (.tmp O .nil)) ?_;have ay:Ua p m size c=true:=decide_eq_true ⟨by omega,by omega,by omega,by omega,by omega⟩;rw[ay];exact⟨_,rfl,rfl,((aF.trans dh).trans ag).An ak (λi e=>by omega)⟩
      ·refine R5 (λw'=>Kp (λi=>i=b8) w4 w') O$ qT 0 O (λ_ hS=>(Pt Y6 O QT O (OR.cells (n:=2) (hS.OC bR (by omega)) (news:=[_,_]) O) O)) (ag.kp)$ OI 1 O (Pp Sz O) (ag.kp)$ qT 2 O (λ_ hS=>(OO Ps O O (hS.OC bR (by omega)) O)) (ag.kp)$ OI 3 O (SF Ps O) (ag.kp)$ OI 4 O (Xw O O) (ag.kp)$ TT$ OZ 5 O O (ag.kp)$ OI 6 O (Pp Sz O) (ag.kp)$ qT 7 O (λ_ hS=>(OO Ps O O (hS.OC bR (by omega)) O)) (ag.kp)$ OI 8 O (SF Ps O) (ag.kp)$ OI 9 O (Pp TM O) (ag.kp)$ qT 10 O (λ_ hS=>(OO U3 O O (hS.OC fu (by omega)) O)) (ag.kp)$ OI 11 O (Zb O O) (ag.kp) ?_;refine TT$ OI 12 O (UJ O O) (ag.kp)$ OZ 13 O O (ag.kp)$ OZ 14 O O (ag.kp)$ OI 15 O (Xw O O) (ag.kp)$ TT$ OI 16 O (UJ O O) (ag.kp)$ OZ 17 O O (ag.kp)$ OZ 18 O O (ag.kp)$ OI 19 O (Pp TM O) (ag.kp)$ qT 20 O (λ_ hS=>(OO U3 O O (hS.OC fu (by omega)) O)) (ag.kp)$ OI 21 O (Zb O O) (ag.kp)$ TT$ OI 22 O (UJ O O) (ag.kp) ?_;refine OZ 23 O O (ag.kp)$ OI 24 O (Pp z3h O) (ag.kp)$ qT 25 O (λ_ hS=>(OO U3 O O (hS.OC bR (by omega)) O)) (ag.kp)$ OI 26 O (Pp Zm O) (ag.kp)$ qT 27 O (λ_ hS=>(OO U3 O O (hS.OC fu (by omega)) O)) (ag.kp)$ OI 28 O (ylt O O) (ag.kp)$ Uc$ OI 29 O (UJ O O) (ag.kp)$ qO 30$ PC (i:=30) O O (PO (news:=[.slice a m cp,I (c:Int)]) QT O O O O (ag.OC eL) (by simp)) ?_;rintro w5 ⟨bN,ak⟩;refine⟨ag.kp.trans ak,?_⟩;replace bN:OR w5 b8 [.slice a m cp,I (c:Int)] 271:=bN;refine OI 31 O (R7 O) (ag.kp.trans ak)$ qE$ Pn.qb (e:=[(8,_),(9,_)]) ?_;refine Po func174 (.cell Y6 O QT O (OR.cells (n:=2) bN (news:=[_,_]) O) O (.tmp O .nil)) ?_;have ay:Ua p m size c=false:=decide_eq_false (λh=>by omega);rw[ay];exact⟨_,rfl,rfl,((aF.trans dh).trans ag).An ak (λi e=>by omega)⟩
abbrev z8G:List (Value×Nat):=List.replicate 17 (.slice none 0 0,0)
def z9d (p:Qr)(hp:p.QA)(w:World):Pm prog 130 [bpV p] w λu w'=>∃k wp F,u= .tuple #[ptr k 0,I 0]/\OR w' k (Ya p z8G 0 wp 0) 276/\Z2 w' wp [] F/\¬F k/\Ext w w'/\w.heap.size<=k/\∀i,F i->w.heap.size<=i:=by
 refine py (e:=[(0,_)]) func130 O ntmps130 O O$ qN O$ OM O O (Rm O (cs:=Vn p) O) ?_
 rintro _ w1 ⟨b1,rfl,bU,ad,aj⟩
 have z1:=ad.size
 refine PU O$ It$ qN O$ qV (Pt (news:=Vn p) U94 O RK O (aj.cells (n:=5) O) O)$ P4 zed O (z05 p hp w1) ?_
 rintro _ w2 ⟨rfl,ae⟩
 have z2:=ae.size
 have hg:=Ext.OT w2
 refine Qt O$ Qf O$ PW O$ It$ R5 (λw'=>Ext w2 w') O$ qT 0 O (λ_ hS=>Pt (news:=Vn p) U94 O RK O ((hS.OC (ae.OC aj)).cells (n:=5) O) O) hg$ SK 1 O z1e O (UF _) ?_
 rintro _ w3 ⟨wp,F,rfl,kr,ai,pO⟩
 refine⟨hg.trans ai,?_⟩
 have dE:=hg.trans ai
 have z3:=dE.size
 refine OI 2 O (Sk zgZ O ziI O O) (hg.trans ai)$ qO 3$ RZ (i:=3) O O O (Rm O (cs:=Ya p z8G 0 wp 0) O) ?_
 rintro _ w4 ⟨k,rfl,hk,aD,aK⟩
 refine⟨dE.trans aD,?_⟩
 refine OI 4 O (R7 O) (dE.trans aD)$ OI 5 O (R7 O) (dE.trans aD)$ qE$ OB func130 O ?_
 exact⟨_,rfl,k,wp,F,rfl,aK,kr.ext aD,λe=>by have:=kr.lt e;omega,((ad.trans ae).trans dE).trans aD,by omega,λi hi=>by have:=pO i hi;have:=hg.size;omega⟩
structure PkM (w:World)(k:Nat)(p:Qr)(L:List (List Nat))(E:List (Nat×Nat))(bs:List Bool)(F:Nat->Prop)(R:List (Value×Nat))(wp ed:Nat):Prop where
 OC:OR w k (Ya p R L.length wp ed) 276
 len:R.length=17
 wr:Z2 w wp bs F
 nk:¬F k
 el:E.length=L.length
 ok:∀l∈L,PE l
 ring:∀j l e,L[j]? =some l->E[j]? =some e->L.length<=j+17->∃a cp,R[j%17]? =some (.slice a l.length cp,e.2)/\l.length<=cp/\Sl w (.slice a l.length cp) 106 1 l.length (l.map Pq)/\(∀g,(Value.slice a l.length cp).ownBlock=some g->¬F g/\g≠k)
def PkM.ext {w w':World}{k:Nat}{p:Qr}{L:List (List Nat)}{E:List (Nat×Nat)}{bs:List Bool}{F:Nat->Prop}{R:List (Value×Nat)}{wp ed:Nat}(h:PkM w k p L E bs F R wp ed)(hx:Ext w w'):PkM w' k p L E bs F R wp ed:=
 ⟨hx.OC h.OC,h.len,h.wr.ext hx,h.nk,h.el,h.ok,λj l e h1 h2 h3=>by
  obtain⟨a,cp,g1,g2,g3,g4⟩:=h.ring j l e h1 h2 h3
  exact⟨a,cp,g1,g2,g3.ext hx,g4⟩⟩
def Found (p:Qr)(L:List (List Nat))(E:List (Nat×Nat))(R:List (Value×Nat))(size ref:Nat)(v:Value)(c:Nat):Prop:=
 (ref=0/\v= .slice none 0 0/\c=0)\/(1<=ref/\ref<=p.Pb/\ref<=L.length/\R[(L.length-ref)%17]? =some (v,c)/\∃l e,L[L.length-ref]? =some l/\E[L.length-ref]? =some e/\c=e.2/\Ua p l.length size e.2=true)
structure AdM (w:World)(k b2 b3 b7 b8 b4 b9:Nat)(a:Option Addr)(m cp n least ref:Nat)(v:Value)(c:Nat):Prop where
 c2:OR w b2 [ptr k 0] 221
 c3:OR w b3 [.slice a m cp] 49
 c7:OR w b7 [I (n:Int)] 3
 c8:OR w b8 [I (least:Int)] 3
 c4:OR w b4 [I (ref:Int)] 3
 c9:OR w b9 [v,I (c:Int)] 271
def AdM.kp {S:Nat->Prop}{w w':World}{k b2 b3 b7 b8 b4 b9:Nat}{a:Option Addr}{m cp n least ref:Nat}{v:Value}{c:Nat}(h:AdM w k b2 b3 b7 b8 b4 b9 a m cp n least ref v c)(hk:Kp S w w')(hn:∀i,S i->i≠b2/\i≠b3/\i≠b7/\i≠b8/\i≠b4/\i≠b9):AdM w' k b2 b3 b7 b8 b4 b9 a m cp n least ref v c:=
 ⟨hk.OC h.c2 (λe=>(hn _ e).1 O),hk.OC h.c3 (λe=>(hn _ e).2.1 O),hk.OC h.c7 (λe=>(hn _ e).2.2.1 O),hk.OC h.c8 (λe=>(hn _ e).2.2.2.1 O),hk.OC h.c4 (λe=>(hn _ e).2.2.2.2.1 O),hk.OC h.c9 (λe=>(hn _ e).2.2.2.2.2 O)⟩
def AdM.ext {w w':World}{k b2 b3 b7 b8 b4 b9:Nat}{a:Option Addr}{m cp n least ref:Nat}{v:Value}{c:Nat}(h:AdM w k b2 b3 b7 b8 b4 b9 a m cp n least ref v c)(hk:Ext w w'):AdM w' k b2 b3 b7 b8 b4 b9 a m cp n least ref v c:=h.kp (S:=λ_=>False) hk.kp (λi e=>e.elim)
def zdJ {w:World}{k:Nat}{p:Qr}(hp:p.QA){L:List (List Nat)}{E:List (Nat×Nat)}{bs:List Bool}{F:Nat->Prop}{R:List (Value×Nat)}{wp ed:Nat}(h:PkM w k p L E bs F R wp ed)(hG:OR w 2 (Sy .gamma) 317)(hU:OR w 3 (Sy .unary) 317)(hL:L.length<65536)
  {b2 b3 b7 b8 b4 b9:Nat} {a:Option Addr} {cp least ref:Nat} {v:Value} {c:Nat} {succ:List Nat} (hs:PE succ) (ld:succ.length<=cp) (dS:Rd w (.slice a succ.length cp) 1 succ.length (succ.map Pq)) (hA:AdM w k b2 b3 b7 b8 b4 b9 a succ.length cp L.length least ref v c) (hF:Found p L E R succ.length ref v c)
  (hd:b8≠b2/\b8≠b3/\b8≠b7/\b4≠b2/\b4≠b3/\b4≠b7/\b9≠b2/\b9≠b3/\b9≠b7/\b8≠b4/\b8≠b9/\b4≠b9) (r:Nat) (h1:1<=r) (h2:r<=p.Pb):
  Pm prog 173 [I (r:Int),ptr b2 0,ptr b3 0,ptr b7 0,ptr b8 0,ptr b4 0,ptr b9 0] w λu w'=>u= .tuple #[]/\Kp (λi=>i=b8\/i=b4\/i=b9) w w'/\∃least' ref' v' c',AdM w' k b2 b3 b7 b8 b4 b9 a succ.length cp L.length least' ref' v' c'/\Found p L E R succ.length ref' v' c':=by
 have xF:p.Pb<=16:=hp.1.1
 obtain⟨a1,c1,m1,e1,pP,Kt⟩:∃a1 c1 m1 e1,(r<=L.length->R[(L.length-r)%17]? =some (.slice a1 m1 c1,e1))/\(r<=L.length->∃l e,L[L.length-r]? =some l/\E[L.length-r]? =some e/\m1=l.length/\e1=e.2/\l.length<=c1/\Sl w (.slice a1 l.length c1) 106 1 l.length (l.map Pq)):=by
  by_cases hr:r<=L.length
  ·obtain⟨l,hl⟩:∃l,L[L.length-r]? =some l:=⟨_,List.getElem?_eq_getElem (by omega)⟩;obtain⟨e,he⟩:∃e,E[L.length-r]? =some e:=⟨_,List.getElem?_eq_getElem (by have:=h.el;omega)⟩;obtain⟨a1,c1,g1,g2,g3,g4⟩:=h.ring _ l e hl he (by omega);exact⟨a1,c1,l.length,e.2,λ_=>g1,λ_=>⟨l,e,hl,he,rfl,rfl,g2,g3⟩⟩
  ·exact⟨none,0,0,0,λe=>absurd e hr,λe=>absurd e hr⟩
 have ev:=hA.c2
 have pQ:=hA.c3
 have hg:=Ext.OT w
 have md:∀{w2:World},OR w2 k (Ya p R L.length wp ed) 276->∀j u,(Vn p)[j]? =some u->w2.cell? ⟨k,0+j,none⟩=some u:=λhB j u hj=>hB.cells (i:=0) (n:=5) (news:=Vn p) O j u hj
 refine py (e:=[(0,_),(1,_),(2,_),(3,_),(4,_),(5,_),(6,_)]) func173 O ntmps173 O O$ It$ PI (λe' w'=>∃tb v1 d1 ok,e'=[(0,I (r:Int)),(1,ptr b2 0),(2,ptr b3 0),(3,ptr b7 0),(4,ptr b8 0),(5,ptr b4 0),(6,ptr b9 0),(8,ptr tb 0),(9,.bool ok)]/\Ext w w'/\w.heap.size<=tb/\OR w' tb [v1,I ((d1:Nat):Int)] 271/\(ok=true->r<=L.length/\v1= .slice a1 m1 c1/\d1=e1/\Ua p m1 succ.length e1=true)) ?cE$ λcE=>?cV
 case cE=>
  rintro e' w1 ⟨tb,v1,d1,ok,rfl,ad,Km,I7,ay⟩;have kV:=hA.ext ad;have tC:=kV.c2;have lQ:=kV.c3;have Ku:=kV.c7;have I8:=kV.c8;refine PG O$ qV ((Sb O))$ OD$ Qe O (λh3=>?_)$ λh3=>?_
  ·refine OB func173 O ?_;exact⟨_,rfl,rfl,ad.kp,_,_,_,_,kV,hF⟩
  ·have De:ok=true:=by cases ok<;>simp_all
   obtain⟨Df,rfl,rfl,gW⟩:=ay De;obtain⟨l,e,hl,he,rfl,rfl,iz,Kv⟩:=Kt Df;have Dg:=pP Df;have Dh:PE l:=h.ok l (List.mem_of_getElem? hl);have aG:=Ext.OT w1;refine OE$ It$ R5 (λw'=>Ext w1 w') O$ qT 0 O (λ_ h=>(OO U3 O O (h.OC Ku) O)) aG$ qT 1 O (λ_ h=>(OO Ps O O (h.OC lQ) O)) aG$ OI 2 O (Pp Sz O) aG$ qT 3 O (λ_ h=>(OO Ps O O (h.OC I7) O)) aG$ OZ 4 O O (aG)$ qT 5 O (λ_ h=>(OO Wk O O (h.OC tC) O)) aG$ OI 6 O (Q4 O) aG$ OI 7 O (Pp Xo O) aG$ qT 8 O (λ_ hS=>Pt (news:=Vn p) U94 O RK O (md (hS.OC (ad.OC h.OC))) O) aG$ SK 9 O z0M O (T0 p _) ?_;rintro _ w9 ⟨rfl,fg⟩;refine⟨aG.trans fg,?_⟩;have gZ:=aG.trans fg;have gB:=ad.trans gZ;refine SK 10 O z5a O (VC p.list hp.1 L.length hL succ l hs Dh r h2 (λe=>by omega) (gB.OC hG) (gB.OC hU) (dS.ext gB) (Kv.rd.ext gB) ld iz) ?_;rintro _ w10 ⟨rfl,bG⟩;refine⟨gZ.trans bG,?_⟩;have e8:=gZ.trans bG;have lY:=kV.ext e8;have Di:=lY.c8;have Dj:=e8.OC I7
   generalize (Pa (RE p.list L.length succ l r)).length=nb
   refine OZ 11 O O (gZ.trans bG)$ OI 12 O (Rw O O) (gZ.trans bG)$ OI 13 O (Rw O O) (gZ.trans bG)$ OI 14 O (R7 O) (gZ.trans bG)$ OI 15 O (R7 O) (gZ.trans bG)$ qE$ Pn.qb (e:=[(0,_),(4,_),(5,_),(6,_),(8,_),(10,_)]) ?_;refine Pf O$ qV (OO U3 O O Di O)$ Qq O$ OD$ OQ O (λh4=>?_)$ λh4=>?_
   ·have kw:=Ext.OT w10;have il:=lY.ext kw;have lb8:=hA.c8.lt;have lb4:=hA.c4.lt;have lb9:=hA.c9.lt;have Kw:¬(tb=b8\/tb=b4\/tb=b9):=by omega
    refine R5 (λw'=>Kp (λi=>i=b8\/i=b4\/i=b9) w10 w') O$ OZ 0 O O (kw.kp)$ OZ 1 O O (kw.kp)$ qT 2 O (λ_ h=>Pt Y6 O QT O (OR.cells (n:=2) (h.OC Dj Kw) (news:=[_,_]) O) O) (kw.kp)$ qO 3$ PC (i:=3) O O (QQ Q7 O O O il.c8 (by simp)) ?_;rintro w11 ⟨bA,bu⟩;refine⟨kw.kp.trans (bu.OV λi e=> .inl e),?_⟩;have rA:Kp (λi=>i=b8\/i=b4\/i=b9) w10 w11:=kw.kp.trans (bu.OV λi e=> .inl e);have Kx:=bu.OC il.c4 (λe=>hd.2.2.2.2.2.2.2.2.2.1 e.symm);refine qO 4$ PC (i:=4) O O (QQ Q7 O O O Kx (by simp)) ?_;rintro w12 ⟨bC,bh⟩;refine⟨rA.trans (bh.OV λi e=> .inr (.inl e)),?_⟩;have xG:Kp (λi=>i=b8\/i=b4\/i=b9) w10 w12:=rA.trans (bh.OV λi e=> .inr (.inl e));have Kz:=bh.OC (bu.OC il.c9 (λe=>hd.2.2.2.2.2.2.2.2.2.2.1 e.symm)) (λe=>hd.2.2.2.2.2.2.2.2.2.2.2 e.symm);refine qO 5$ PC (i:=5) O O (PO (news:=[.slice a1 l.length c1,I (e.2:Int)]) QT O O O O Kz (by simp)) ?_;rintro w13 ⟨eM,cY⟩;refine⟨xG.trans (cY.OV λi e=> .inr (.inr e)),?_⟩;replace eM:OR w13 b9 [.slice a1 l.length c1,I (e.2:Int)] 271:=eM;replace bC:OR w12 b4 [I (r:Int)] 3:=bC;replace bA:OR w11 b8 [I (nb:Int)] 3:=bA;refine qE$ Qv func173 O ?_;obtain⟨d1,d2,d3,d4,d5,d6,d7,d8,d9,d10,d11,d12⟩:=hd;have jB:∀{b:Nat} {cs:List Value} {T:TypeId},OR w10.drew b cs T->b8≠b->b4≠b->b9≠b->OR w13 b cs T:=λhB n1 n2 n3=>cY.OC (bh.OC (bu.OC hB (λe=>n1 e.symm)) (λe=>n2 e.symm)) (λe=>n3 e.symm);refine⟨_,rfl,rfl,?_,nb,r,.slice a1 l.length c1,e.2,⟨jB il.c2 d1 d4 d7,jB il.c3 d2 d5 d8,jB il.c7 d3 d6 d9,cY.OC (bh.OC bA d10) d11,cY.OC bC d12,eM⟩,.inr ⟨h1,h2,Df,Dg,l,e,hl,he,rfl,gW⟩⟩;exact((ad.trans e8).trans kw).kp.trans ((bu.OV λi e=> .inl e).trans ((bh.OV λi e=> .inr (.inl e)).trans (cY.OV λi e=> .inr (.inr e))))
   ·refine OE$ Qv func173 O ?_;exact⟨_,rfl,rfl,(ad.trans e8).kp,_,_,_,_,lY,hF⟩
 case cV=>
  rcases Nat.lt_or_ge L.length r with aZ|jR
  ·have aw:=hg;refine P7 [15] (λw'=>Ext w w') (by kernel_rfl) O$ qL 0 O (λ_ h=>(OO Wk O O (h.OC ev) O)) aw$ P9 1 O (Q4 O) aw$ P9 2 O (Pp Ym O) aw$ PL 3 O O (aw)$ qL 4 O (λ_ h=>(OO Ps O O (h.OC pQ) O)) aw$ P9 5 O (SF Ps O) aw$ qL 6 O (λ_ h=>(OO Wk O O (h.OC ev) O)) aw$ P9 7 O (Q4 O) aw$ P9 8 O (Pp Xo O) aw$ qL 9 O (λ_ hS=>Pt (news:=Vn p) U94 O RK O (md (hS.OC h.OC)) O) aw$ WH (i:=10) (j:=14) (by kernel_rfl) ?_ ?_
   ·refine Rx (i:=10) O O O (yc z8J O) (X9 (aw.OC h.OC) h.len (by omega) hp r succ.length h1 h2 pP) ?_;rintro _ w10 ⟨lV,bG⟩;refine⟨aw.trans bG,?_⟩;rw[if_neg (by omega)] at lV;subst lV
    try have dg:=bG.OC dg
    have aw:=aw.trans bG;refine PL 11 O O aw$ P9 12 O (Rw O O) aw$ Q8 (i:=13) O (by kernel_rfl) O O (λ_=>Rw O O) aw$ QY (i:=14) (by kernel_rfl)$ Ql (i:=14) O O O (RN (cs:=[_,_]) QT O) ?_;rintro _ w14 ⟨tb,rfl,nx,bO,dg⟩;refine⟨aw.trans bO,?_⟩;have ky:w.heap.size<=tb:=by have:=aw.size;omega
    have aw:=aw.trans bO;refine SM [15]$ qO 15$ PC (i:=15) O O (PO (news:=[.slice none 0 0,I ((0:Nat):Int)]) QT O O O O dg (by simp)) ?_;rintro w15 ⟨gC,hH⟩;refine⟨trivial,?_⟩;refine OI 16 O (R7 O) trivial$ qE ?_;exact(cE _ _ ⟨tb,.slice none 0 0,0,false,rfl,aw.An hH (λi e=>by omega),ky,gC,λe=>by cases e⟩).qb
   ·refine Ql (i:=14) O O O (RN (cs:=[_,_]) QT O) ?_;rintro _ w14 ⟨tb,rfl,nx,bO,dg⟩;refine⟨aw.trans bO,?_⟩;have ky:w.heap.size<=tb:=by have:=aw.size;omega
    have aw:=aw.trans bO;refine QY (i:=10) (by kernel_rfl)$ Rx (i:=10) O O O (yc z8J O) (X9 (aw.OC h.OC) h.len (by omega) hp r succ.length h1 h2 pP) ?_;rintro _ w10 ⟨lV,bG⟩;refine⟨aw.trans bG,?_⟩;rw[if_neg (by omega)] at lV;subst lV
    try have dg:=bG.OC dg
    have aw:=aw.trans bG;refine PL 11 O O aw$ P9 12 O (Rw O O) aw$ Q8 (i:=13) O (by kernel_rfl) O O (λ_=>Rw O O) aw$ SM [15]$ qO 15$ PC (i:=15) O O (PO (news:=[.slice none 0 0,I ((0:Nat):Int)]) QT O O O O dg (by simp)) ?_;rintro w15 ⟨gC,hH⟩;refine⟨trivial,?_⟩;refine OI 16 O (R7 O) trivial$ qE ?_;exact(cE _ _ ⟨tb,.slice none 0 0,0,false,rfl,aw.An hH (λi e=>by omega),ky,gC,λe=>by cases e⟩).qb
  ·have aw:=hg;refine P7 [15] (λw'=>Ext w w') (by kernel_rfl) O$ qL 0 O (λ_ h=>(OO Wk O O (h.OC ev) O)) aw$ P9 1 O (Q4 O) aw$ P9 2 O (Pp Ym O) aw$ PL 3 O O (aw)$ qL 4 O (λ_ h=>(OO Ps O O (h.OC pQ) O)) aw$ P9 5 O (SF Ps O) aw$ qL 6 O (λ_ h=>(OO Wk O O (h.OC ev) O)) aw$ P9 7 O (Q4 O) aw$ P9 8 O (Pp Xo O) aw$ qL 9 O (λ_ hS=>Pt (news:=Vn p) U94 O RK O (md (hS.OC h.OC)) O) aw$ WH (i:=10) (j:=14) (by kernel_rfl) ?_ ?_
   ·refine Rx (i:=10) O O O (yc z8J O) (X9 (aw.OC h.OC) h.len (by omega) hp r succ.length h1 h2 pP) ?_;rintro _ w10 ⟨lV,bG⟩;refine⟨aw.trans bG,?_⟩;rw[if_pos jR] at lV;subst lV
    try have dg:=bG.OC dg
    have aw:=aw.trans bG;refine PL 11 O O aw$ P9 12 O (Rw O O) aw$ Q8 (i:=13) O (by kernel_rfl) O O (λ_=>Rw O O) aw$ QY (i:=14) (by kernel_rfl)$ Ql (i:=14) O O O (RN (cs:=[_,_]) QT O) ?_;rintro _ w14 ⟨tb,rfl,nx,bO,dg⟩;refine⟨aw.trans bO,?_⟩;have ky:w.heap.size<=tb:=by have:=aw.size;omega
    have aw:=aw.trans bO;refine SM [15]$ qO 15$ PC (i:=15) O O (PO (news:=[.slice a1 m1 c1,I ((e1:Nat):Int)]) QT O O O O dg (by simp)) ?_;rintro w15 ⟨gC,hH⟩;refine⟨trivial,?_⟩;refine OI 16 O (R7 O) trivial$ qE ?_;exact(cE _ _ ⟨tb,.slice a1 m1 c1,e1,Ua p m1 succ.length e1,rfl,aw.An hH (λi e=>by omega),ky,gC,λe=>⟨jR,rfl,rfl,e⟩⟩).qb
   ·refine Ql (i:=14) O O O (RN (cs:=[_,_]) QT O) ?_;rintro _ w14 ⟨tb,rfl,nx,bO,dg⟩;refine⟨aw.trans bO,?_⟩;have ky:w.heap.size<=tb:=by have:=aw.size;omega
    have aw:=aw.trans bO;refine QY (i:=10) (by kernel_rfl)$ Rx (i:=10) O O O (yc z8J O) (X9 (aw.OC h.OC) h.len (by omega) hp r succ.length h1 h2 pP) ?_;rintro _ w10 ⟨lV,bG⟩;refine⟨aw.trans bG,?_⟩;rw[if_pos jR] at lV;subst lV
    try have dg:=bG.OC dg
    have aw:=aw.trans bG;refine PL 11 O O aw$ P9 12 O (Rw O O) aw$ Q8 (i:=13) O (by kernel_rfl) O O (λ_=>Rw O O) aw$ SM [15]$ qO 15$ PC (i:=15) O O (PO (news:=[.slice a1 m1 c1,I ((e1:Nat):Int)]) QT O O O O dg (by simp)) ?_;rintro w15 ⟨gC,hH⟩;refine⟨trivial,?_⟩;refine OI 16 O (R7 O) trivial$ qE ?_;exact(cE _ _ ⟨tb,.slice a1 m1 c1,e1,Ua p m1 succ.length e1,rfl,aw.An hH (λi e=>by omega),ky,gC,λe=>⟨jR,rfl,rfl,e⟩⟩).qb
def QH (L:List (List Nat))(n r:Nat):List Nat:=if r=0 then [] else(L[n-r]?).getD []
def z06 (p:Qr)(L:List (List Nat))(E:List (Nat×Nat))(n size:Nat)(e:Nat×Nat):Prop:=
 e=(0,0)\/(1<=e.1/\e.1<=p.Pb/\e.1<=n/\∃l e',L[n-e.1]? =some l/\E[n-e.1]? =some e'/\e.2=e'.2+1/\Ua p l.length size e'.2=true)
theorem zg8 {j n:Nat}(h1:j<n)(h2:n+1<=j+17):j%17≠n%17:=by omega
theorem PkM.add {w wA wB wC wD wE wF:World}{k:Nat}{p:Qr}{L:List (List Nat)}{E:List (Nat×Nat)}{bs bs':List Bool}{F F':Nat->Prop}{R:List (Value×Nat)}{wp ed b4:Nat}(h:PkM w k p L E bs F R wp ed)(ln:Ext w wA)(ja:Kp F wA wB)(Bc:Z2 wB wp bs' F')(pR:∀i,F' i->F i\/wA.heap.size<=i)
  {a':Option Addr} {cp' ch r:Nat} {succ:List Nat} (hs:PE succ) (Dk:Ext wB wC) (vJ:Sl wC (.slice a' succ.length cp') 106 1 succ.length (succ.map Pq)) (tD:succ.length<=cp') (cA:∀g,(Value.slice a' succ.length cp').ownBlock=some g->wB.heap.size<=g)
  (fN:Kp (λi=>i=k) wC wD) (oM:Kp (λi=>i=k) wD wE) (tE:Kp (λi=>i=b4) wE wF) (fC:w.heap.size<=b4) (KA:b4<wA.heap.size) (Dl:OR wF k (Ya p (R.set (L.length%17) (.slice a' succ.length cp',ch)) (L.length+1) wp (ed+succ.length)) 276):
  PkM wF k p (L++[succ]) (E++[(r,ch)]) bs' F' (R.set (L.length%17) (.slice a' succ.length cp',ch)) wp (ed+succ.length)/\Kp (λi=>F i\/i=k) w wF/\∀i,F' i->F i\/w.heap.size<=i:=by
 have lk:=h.OC.lt
 have zA:=ln.size
 have zB:=ja.size
 have jT:∀i,F i->i<w.heap.size:=λi hi=>h.wr.lt hi
 have nC:∀i,F' i->i<wB.heap.size:=λi hi=>Bc.lt hi
 have tF:¬F' k:=λe=>by rcases pR k e with e|e;exact h.nk e;omega
 have Dm:¬F' b4:=λe=>by rcases pR b4 e with e|e;(have:=jT _ e;omega);omega
 have Dn:∀{v:Value} {n:Nat} {cs:List Value},Sl w v 106 1 n cs->(∀g,v.ownBlock=some g->¬F g/\g≠k)->Sl wF v 106 1 n cs:=λhS hg=>
  ((((((hS.ext ln).kp ja (λg e=>(hg g e).1)).ext Dk).kp fN (λg e=>(hg g e).2)).kp oM (λg e=>(hg g e).2)).kp tE (λg e e'=>by have:=hS.lt e;omega))
 have KB:=((vJ.kp fN (λg e e'=>by have:=cA g e;omega)).kp oM (λg e e'=>by have:=cA g e;omega)).kp tE (λg e e'=>by have:=cA g e;omega)
 refine⟨⟨by rw[List.length_append,List.length_singleton];exact Dl,by rw[List.length_set];exact h.len,(((Bc.ext Dk).kp fN (λi hi e=>tF (e▸hi))).kp oM (λi hi e=>tF (e▸hi))).kp tE (λi hi e=>Dm (e▸hi)),tF,by rw[List.length_append,List.length_append,h.el];rfl,λl hl=>?_,λj l e h1 h2 h3=>?_⟩,?_,λi hi=>?_⟩
 ·rcases List.mem_append.1 hl with hl|hl
  ·exact h.ok l hl
  ·rw[List.mem_singleton.1 hl];exact hs
 ·rw[List.length_append,List.length_singleton] at h3;rcases Nat.lt_or_ge j L.length with hj|hj
  ·rw[List.getElem?_append_left hj] at h1;rw[List.getElem?_append_left (by rw[h.el];exact hj)] at h2;obtain⟨a,cp,g1,g2,g3,g4⟩:=h.ring j l e h1 h2 (by omega);refine⟨a,cp,?_,g2,Dn g3 g4,λg hg=>⟨λe'=>?_,(g4 g hg).2⟩⟩
   ·rw[List.getElem?_set_ne (λe'=>zg8 hj (by omega) e'.symm)];exact g1
   ·rcases pR g e' with e'|e'
    ·exact(g4 g hg).1 e'
    ·have:=g3.lt hg;omega
  ·have Do:=(List.getElem?_eq_some_iff.1 h1).1;rw[List.length_append,List.length_singleton] at Do;have ej:j=L.length:=by omega
   subst ej;rw[List.getElem?_append_right (Nat.le_refl _),Nat.sub_self,List.getElem?_cons_zero] at h1;rw[List.getElem?_append_right (by rw[h.el];exact Nat.le_refl _),h.el,Nat.sub_self,List.getElem?_cons_zero] at h2;cases h1;cases h2;refine⟨a',cp',List.getElem?_set_self (by rw[h.len];exact Nat.mod_lt _ (by decide)),tD,KB,λg hg=>⟨λe'=>?_,λe'=>?_⟩⟩
   ·have:=cA g hg;have:=nC g e';omega
   ·have:=cA g hg;omega
 ·exact((((ln.kp.trans (ja.OV λi e=> .inl e)).trans Dk.kp).trans (fN.OV λi e=> .inr e)).trans (oM.OV λi e=> .inr e)).An tE (λi e=> .inl (by omega))
 ·rcases pR i hi with e| e
  ·exact .inl e
  ·exact .inr (by omega)
def z9c {w:World}{k:Nat}{p:Qr}(hp:p.QA){L:List (List Nat)}{E:List (Nat×Nat)}{bs:List Bool}{F:Nat->Prop}{R:List (Value×Nat)}{wp ed:Nat}(h:PkM w k p L E bs F R wp ed)(hG:OR w 2 (Sy .gamma) 317)(hU:OR w 3 (Sy .unary) 317)(hL:L.length<65536)
  {a:Option Addr} {cp:Nat} {succ:List Nat} (hs:PE succ) (ld:succ.length<=cp) (dS:Rd w (.slice a succ.length cp) 1 succ.length (succ.map Pq)) (vK:ed+succ.length<=1048576) (KC:∀g,0<succ.length->(Value.slice a succ.length cp).ownBlock=some g->¬F g/\g≠k)
  (nD:∀r,r<=p.Pb->bs.length+(Pa (RE p.list L.length succ (QH L L.length r) r)).length<=134217728):
  Pm prog 132 [ptr k 0,.slice a succ.length cp] w λu w'=>∃(r least ch:Nat) (F':Nat->Prop) (R':List (Value×Nat)),u= .tuple #[I (r:Int),I (least:Int),I 0]/\z06 p L E L.length succ.length (r,ch)/\
   PkM w' k p (L++[succ]) (E++[(r,ch)]) (bs++Pa (RE p.list L.length succ (QH L L.length r) r)) F' R' wp (ed+succ.length)/\Kp (λi=>F i\/i=k) w w'/\∀i,F' i->F i\/w.heap.size<=i:=by
 have xF:p.Pb<=16:=hp.1.1
 have lk:=h.OC.lt
 have md:∀{w2:World},OR w2 k (Ya p R L.length wp ed) 276->∀j u,(Vn p)[j]? =some u->w2.cell? ⟨k,0+j,none⟩=some u:=λhB j u hj=>hB.cells (i:=0) (n:=5) (news:=Vn p) O j u hj
 refine py (e:=[(0,_),(1,_)]) func132 O ntmps132 O O$ qN O$ OM O O (Rm O (cs:=[ptr k 0]) O) ?_
 rintro _ w1 ⟨b2,rfl,cn,ad,am⟩
 refine OM O O (Rm O (cs:=[.slice a succ.length cp]) O) ?_
 rintro _ w2 ⟨b3,rfl,eG,ae,au⟩
 refine OM O O (RN (cs:=[_]) Q7 O) ?_
 rintro _ w3 ⟨b4,rfl,fC,ai,aK⟩
 have z1:=ad.size
 have z2:=ae.size
 have z3:=ai.size
 have lb2:=am.lt
 have lb3:=au.lt
 have lb4:=aK.lt
 have dc:=(ad.trans ae).trans ai
 have cW:=ai.OC (ae.OC am)
 have eH:=ai.OC au
 have nA:=dc.OC h.OC
 replace aK:OR w3 b4 [I ((0:Nat):Int)] 3:=aK
 refine PU O$ Qx$ qN O$ qV ((OO Wk O O cW O))$ qV (Qi Wk O O)$ OU O$ OJ O$ qN O$ qV ((OO Wk O O cW O))$ Pu O$ OX Ym O$ OX Vc O$ qV (OO U3 O O nA (z6X h.len))$ Te O ?_
 refine PF$ OU O$ Tu O$ OA$ qN O$ qV ((OO Wk O O cW O))$ Pu O$ OX Ym O$ OX Vc O$ qV (OO U3 O O nA (z6X h.len))$ OM O O (RN (cs:=[_]) Q7 O) ?_
 rintro _ w4 ⟨b7,rfl,jS,aD,bP⟩
 have z4:=aD.size
 have lb7:=bP.lt
 refine OW O (QQ Q7 O O O bP (by simp)) ?_
 rintro w5 ⟨ma,ak⟩
 replace ma:OR w5 b7 [I (L.length:Int)] 3:=ma
 have bV:Ext w3 w5:=aD.An ak (λi e=>by omega)
 have bL:=dc.trans bV
 have z5:=bV.size
 have z45:=ak.size
 have xH:=bL.OC h.OC
 have dU:=bV.OC cW
 have cZ:=bV.OC eH
 have aN:=bV.OC aK
 have cS:=Ext.OT w5
 refine OD$ It$ PI (λe' w'=>∃b8 least,e'=[(2,ptr b2 0),(3,ptr b3 0),(4,ptr b4 0),(7,ptr b7 0),(8,ptr b8 0),(6,I 0)]/\Ext w5 w'/\w5.heap.size<=b8/\OR w' b8 [I ((least:Nat):Int)] 3) ?cE$ λcE=>?cV
 case cE =>
  rintro e' w6 ⟨b8,least0,rfl,aI,gV,ce⟩;have z6:=aI.size;have lb8:=ce.lt;have iF:=bL.trans aI;have Dp:=aI.OC xH;have cq:=aI.OC dU;have lT:=aI.OC cZ;have bI:=Ext.OT w6;refine Qx$ Pf O$ Qf O$ OU O$ OJ O$ It$ R5 (λw'=>Ext w6 w') O$ qT 0 O (λ_ h=>(OO Wk O O (h.OC cq) O)) bI$ OI 1 O (Q4 O) bI$ OI 2 O (Pp z3a O) bI$ qT 4 O (λ_ h=>(OO Ps O O (h.OC lT) O)) bI$ OI 5 O (SF Ps O) bI$ qT 3 O (λ_ hS=>OO U3 O O (hS.OC Dp) (zjx h.len)) bI$ OI 6 O (Ud O O (by omega)) bI ?_;refine OI 7 O (Xw O O) bI$ Uc$ OI 8 O (R7 O) bI$ qE$ Tu O$ OA$ qN O ?_;have zg6:=bI.size;refine OM O O (RN (cs:=[_,_]) QT O) ?_;rintro _ w7 ⟨b9,rfl,oI,bY,cI⟩;have lb9:=cI.lt;have gD:=bI.trans bY;have ge:=iF.trans gD;have pS:=aI.trans gD;have z7:=ge.size;have z67:=gD.size;have Dq:=ge.OC h.OC;have B2:AdM w7 k b2 b3 b7 b8 b4 b9 a succ.length cp L.length least0 0 (.slice none 0 0) 0:=⟨gD.OC cq,gD.OC lT,pS.OC ma,gD.OC ce,pS.OC aN,cI⟩;have hd:b8≠b2/\b8≠b3/\b8≠b7/\b4≠b2/\b4≠b3/\b4≠b7/\b9≠b2/\b9≠b3/\b9≠b7/\b8≠b4/\b8≠b9/\b4≠b9:=by omega
  refine qM O$ qV (ymf (first:=[]) (caps:=[.tmp 2,.tmp 3,.tmp 7,.tmp 8,.tmp 4,.tmp 9]) O O)$ OU O$ It$ qN O ?_;have Dr:=B2.c2;refine qV (OO Wk O O Dr O)$ Pu O$ OX Xo O$ OX z0T O$ qV (OO U3 O O Dq O)$ OK O$ OD$ Pn.qb (e:=[(2,_),(3,_),(4,_),(6,_),(7,_),(8,_),(9,_),(10,_),(58,_),(59,_)]) ?_;refine OH$ Rq (α:=Nat) (0) (λi=>[(2,ptr b2 0),(3,ptr b3 0),(4,ptr b4 0),(7,ptr b7 0),(8,ptr b8 0),(9,ptr b9 0),(10,.func (.func 173) #[] #[ptr b2 0,ptr b3 0,ptr b7 0,ptr b8 0,ptr b4 0,ptr b9 0]),(58,I (p.Pb:Int)),(59,I (i:Int))]) (λi w'=>Ext w w'/\w7.heap.size<=w'.heap.size/\i<=p.Pb/\∃least ref v c,AdM w' k b2 b3 b7 b8 b4 b9 a succ.length cp L.length least ref v c/\Found p L E R succ.length ref v c) (λi=>p.Pb-i) ?hI ?hround
  case hI=>exact⟨ge,Nat.le_refl _,Nat.zero_le _,_,_,_,_,B2,.inl ⟨rfl,rfl,rfl⟩⟩
  case hround=>
   rintro i wA ⟨ln,NP,hi,least,ref,v,c,hA,hF⟩ ih
   try dsimp only
   refine qN O$ Qq O$ OD$ It$ OQ O (λh0=>?_)$ λh0=>?_
   ·refine OE$ Qx$ Pf O$ OU O$ OL O$ P8 O$ PV O ?_;rw[show(i:Int)+1=((i+1:Nat):Int) by omega];refine Qz O O (RY zhi O O) (zdJ hp (h.ext ln) (ln.OC hG) (ln.OC hU) hL hs ld (dS.ext ln) hA hF hd (i+1) (by omega) (by omega)) ?_;rintro _ w9 ⟨rfl,aM,least',ref',v',c',rj,KD⟩;have z9:=aM.size;refine OD$ OA$ OL O$ PV O$ OK O$ OD ?_;exact(ih (i+1) _ ⟨ln.An aM (λi hi=>by omega),by omega,by omega,_,_,_,_,rj,KD⟩ (by omega)).qb
   ·have iX:∀b,w.heap.size<=b->¬F b:=λb hb e=>by have:=h.wr.lt e;omega
    have tG:=ln.OC h.OC
    have Cg:ref<=p.Pb/\(ref=0->QH L L.length ref=[])/\PE (QH L L.length ref)/\(∃va vc,v= .slice va (QH L L.length ref).length vc/\(QH L L.length ref).length<=vc/\Rd wA (.slice va (QH L L.length ref).length vc) 1 (QH L L.length ref).length ((QH L L.length ref).map Pq))/\z06 p L E L.length succ.length (ref,if 0<ref then c+1 else 0)/\c<=65536:=by
     rcases hF with⟨rfl,rfl,rfl⟩|⟨f1,f2,f3,f4,l,e,f5,f6,rfl,f8⟩
     ·refine⟨Nat.zero_le _,λ_=>rfl,⟨List.Pairwise.nil,λy h=>(by cases h)⟩,⟨none,0,rfl,Nat.zero_le _,Vp⟩,.inl rfl,Nat.zero_le _⟩
     ·have jH:QH L L.length ref=l:=by unfold QH;rw[if_neg (by omega),f5];rfl
      obtain⟨va,vc,g1,g2,g3,g4⟩:=h.ring _ l e f5 f6 (by omega);rw[f4] at g1;have gv:v= .slice va l.length vc:=(Prod.mk.inj (QU g1)).1;have hb:=of_decide_eq_true f8;have KE:=hp.2.1;rw[jH];exact⟨f2,λe=>by omega,h.ok l (List.mem_of_getElem? f5),⟨va,vc,gv,g2,(g3.ext ln).rd⟩,.inr ⟨f1,f2,f3,l,e,f5,f6,by dsimp only;rw[if_pos (by omega)],f8⟩,by omega⟩
    obtain⟨da,dw,ct,⟨va,vc,rfl,bM,co⟩,i5,KF⟩:=Cg;have Dt:=nD ref da
    generalize Du:QH L L.length ref=lr at dw ct bM co Dt hA
    have pn:=hA.c2;have vE:=hA.c3;have Dv:=hA.c7;have xI:=hA.c9;have xJ:=hA.c4;have Dw:=hA.c8;have kz:=Ext.OT wA;refine ON O$ It$ It$ R5 (λw'=>Kp F wA w') O$ qT 0 O (λ_ hS=>(OO Wk O O (hS.OC pn (iX _ (by omega))) O)) (kz.kp)$ OI 1 O (Q4 O) (kz.kp)$ OI 2 O (Pp z3g O) (kz.kp)$ qT 4 O (λ_ hS=>(OO U3 O O (hS.OC Dv (iX _ (by omega))) O)) (kz.kp)$ qT 5 O (λ_ hS=>(OO Ps O O (hS.OC vE (iX _ (by omega))) O)) (kz.kp)$ OI 6 O (Pp Sz O) (kz.kp)$ qT 7 O (λ_ hS=>(OO Ps O O (hS.OC xI (iX _ (by omega))) O)) (kz.kp)$ qT 8 O (λ_ hS=>(OO U3 O O (hS.OC xJ (iX _ (by omega))) O)) (kz.kp)$ qT 9 O (λ_ hS=>(OO Wk O O (hS.OC pn (iX _ (by omega))) O)) (kz.kp)$ OI 10 O (Q4 O) (kz.kp) ?_;refine OI 11 O (Pp Xo O) (kz.kp)$ qT 3 O (λ_ hS=>OO z3Y O O (hS.OC tG h.nk) (zgy h.len)) (kz.kp)$ qT 12 O (λ_ hS=>Pt (news:=Vn p) U94 O RK O (md (hS.OC tG h.nk)) O) (kz.kp)$ SK 13 O z0M O (T0 p _) ?_;rintro _ w9 ⟨rfl,fg⟩;refine⟨(kz.trans fg).kp,?_⟩;have me:=kz.trans fg;have gB:=ln.trans me;refine SK 14 O zf0 O (z0e (h.wr.ext gB) p.list hp.1 L.length hL succ lr hs ct ref da dw (gB.OC hG) (gB.OC hU) (dS.ext gB) (co.ext me) ld bM Dt) ?_;rintro _ wB ⟨rfl,F',Bc,ja,pR⟩;refine⟨me.kp.trans ja,?_⟩;have iG:Kp F wA wB:=me.kp.trans ja;have Dx:∀i,F' i->F i\/wA.heap.size<=i:=λi hi=>(pR i hi).imp id (λe=>by have:=me.size;omega);have xK:=iG.OC xJ (iX _ (by omega));have Dy:=iG.OC xI (iX _ (by omega));have xL:=iG.OC pn (iX _ (by omega));have xM:=iG.OC vE (iX _ (by omega));have Dz:=iG.OC Dw (iX _ (by omega));have DA:=iG.OC tG h.nk;have Qw:=iG.size;have DB:Rd wB (.slice a succ.length cp) 1 succ.length (succ.map Pq):=(dS.ext ln).kpz iG (λh0 g hg=>(KC g h0 hg).1);refine OI 15 O (R7 O) (me.kp.trans ja)$ qE$ Pn.qb (e:=[(2,_),(3,_),(4,_),(8,_),(9,_),(12,_)]) ?_;refine Pf O$ Qf O$ PW O$ QB O$ It$ qN O$ qV ((OO U3 O O xK O))$ Qu O$ OD$ PI (λe' w'=>e'=[(2,ptr b2 0),(3,ptr b3 0),(4,ptr b4 0),(8,ptr b8 0),(13,I ((if 0<ref then c+1 else 0:Nat):Int))]/\w'=wB) ?aw$ λaw=>?dz
    case aw=>
     rintro e' wB' ⟨rfl,rfl⟩
     generalize (if 0<ref then c+1 else 0)=ch at i5
     have pT:=Ext.OT wB';have Be:∀i,i<wB'.heap.size->¬(Value.slice none 0 0).ownBlock=some i:=λi _ e=>by cases e
     refine It$ R5 (λw'=>Kp (λi=>i=k) wB' w') O$ qT 0 O (λ_ hS=>(OO Wk O O (hS.OC xL (by omega)) O)) (pT.kp)$ OI 1 O (Q4 O) (pT.kp)$ OI 2 O (Pp Ym O) (pT.kp)$ qT 3 O (λ_ hS=>(OO Ps O O (hS.OC xM (by omega)) O)) (pT.kp)$ OZ 5 O O (pT.kp)$ qO 4$ RZ (i:=4) O O O (pap Ps OP O (by decide) O O (Sl.nil _ _ _) (DB.ext pT) (z3f _) (by omega) (by simp only[maxLen];omega)) ?_;rintro v' wC ⟨vJ,jD,KG,-⟩;refine⟨pT.kp.trans (jD.OV λi e=>by cases e),?_⟩;have kA:Ext wB' wC:=pT.trans ((Ext.refl _).An jD (λi e=>by cases e));rw[Nat.zero_add,List.nil_append] at vJ;obtain⟨a',cp',rfl,-⟩:=vJ.rd.shape
     have tD:succ.length<=cp':=by
      rcases vJ.shape with⟨e,h0⟩|⟨g,c1,hv,dX⟩
      ·omega
      ·cases hv;exact dX
     have xN:∀g,(Value.slice a' succ.length cp').ownBlock=some g->wB'.heap.size<=g:=λg hg=>by
      rcases KG g hg with e| e
      ·cases e
      ·have:=pT.size;omega
     have DC:=kA.OC DA;refine SK 6 O zk2 O (zaT DC h.len (by omega) a' succ.length cp' ch) ?_;rintro _ wD ⟨rfl,I9,fN⟩;refine⟨kA.kp.trans fN,?_⟩;have cO:(R.set (L.length%17) (.slice a' succ.length cp',ch)).length=17:=by rw[List.length_set];exact h.len
     have DD:=fN.OC (kA.OC xL) (by omega);have DE:=fN.OC (kA.OC xM) (by omega);have DF:=fN.OC (kA.OC xK) (by omega);have DG:=fN.OC (kA.OC Dz) (by omega);have nE:=Ext.OT wD;refine qE$ It$ P7 [9] (λw'=>Ext wD w') (by kernel_rfl) O$ qL 0 O (λ_ h=>(OO Wk O O (h.OC DD) O)) nE$ P9 1 O (Q4 O) nE$ P9 2 O (Pp z3a O) nE$ qL 4 O (λ_ h=>(OO Ps O O (h.OC DE) O)) nE$ P9 5 O (SF Ps O) nE$ qL 3 O (λ_ h=>OO U3 O O (h.OC I9) (zjx cO)) nE$ P9 6 O (Ud O O (by omega)) nE$ P9 7 O (Q4 O) nE$ P9 8 O (Pp z3a O) nE$ SM [9]$ qO 9 ?_;refine PC (i:=9) O O (QQ Q7 O O O (nE.OC I9) (by rw[z6R cO];decide)) ?_;rintro wE ⟨Bf,DH⟩;refine⟨trivial,?_⟩;replace Bf:OR wE k ((Ya p (R.set (L.length%17) (.slice a' succ.length cp',ch)) (L.length+1) wp ed).set 41 (I ((ed+succ.length:Nat):Int))) 276:=Bf;rw[zdF cO] at Bf;have oM:Kp (λi=>i=k) wD wE:=nE.kp.trans DH;have tH:=oM.OC DF (by omega);have DI:=oM.OC DG (by omega);have pU:=Ext.OT wE;refine qE$ It$ R5 (λw'=>Kp (λi=>i=b4) wE w'/\OR w' b4 [I (ref:Int)] 3) O$ qT 0 O (λ_ h=>(OO U3 O O h.2 O)) (⟨pU.kp,pU.OC tH⟩)$ qT 1 O (λ_ hS=>(OO U3 O O (hS.1.OC DI (by omega)) O)) (⟨pU.kp,pU.OC tH⟩)$ qO 2$ PC (i:=2) O O (QQ Q7 O O O (pU.OC tH) (by simp)) ?_;rintro wF ⟨mf,pV⟩;refine⟨⟨pU.kp.trans pV,mf⟩,?_⟩;replace mf:OR wF b4 [I (ref:Int)] 3:=mf;have tE:Kp (λi=>i=b4) wE wF:=pU.kp.trans pV;have Dl:=tE.OC Bf (by omega);refine OI 3 O (R7 O) (⟨pU.kp.trans pV,mf⟩)$ OI 4 O (R7 O) (⟨pU.kp.trans pV,mf⟩)$ qE$ Pn.qb (e:=[(4,_),(5,_),(6,_)]) ?_;refine Po func132 (.cell1 U3 O O ((mf).cell _) (.tmp O (.tmp O .nil))) ?_;obtain⟨q1,q2,q3⟩:=h.add (r:=ref) ln iG Bc Dx hs kA vJ tD xN fN oM tE (by omega) (by omega) Dl;exact⟨_,rfl,ref,least,ch,F',_,rfl,i5,by rw[Du];exact q1,q2,q3⟩
    case dz=>
     refine OQ O (λh5=>?_)$ λh5=>?_
     ·refine OL O$ OX z3h O$ qV (OO U3 O O Dy O)$ PV O$ OU O ?_;rw[show(c:Int)+1=((if 0<ref then c+1 else 0:Nat):Int) by rw[if_pos (by omega)];omega];exact(aw _ _ ⟨rfl,rfl⟩).qb
     ·refine OE ?_;have jf:(if 0<ref then c+1 else 0)=0:=if_neg (by omega);exact(aw _ _ ⟨by rw[jf],rfl⟩).qb
 case cV=>
  have aw:=cS;refine P7 [12] (λw'=>Ext w5 w') (by kernel_rfl) O$ qL 0 O (λ_ h=>(OO U3 O O (h.OC ma) O)) aw$ qL 1 O (λ_ h=>(OO Ps O O (h.OC cZ) O)) aw$ qL 2 O (λ_ h=>(OO Wk O O (h.OC dU) O)) aw$ P9 3 O (Q4 O) aw$ P9 4 O (Pp Xo O) aw$ qL 5 O (λ_ h=>Pt (news:=Vn p) U94 O RK O (md (h.OC xH)) O) aw$ WH (i:=6) (j:=11) (by kernel_rfl) ?_ ?_
  ·refine Rx (i:=6) O O O (yc z0M O) (T0 p _) ?_;rintro _ w6 ⟨rfl,aI⟩;refine⟨aw.trans aI,?_⟩
   try have bA:=aI.OC bA
   have aw:=aw.trans aI;refine WH (i:=7) (j:=11) (by kernel_rfl) ?_ ?_
   ·refine Rx (i:=7) O O O (yc z5a O) (VC p.list hp.1 L.length hL succ [] hs ⟨List.Pairwise.nil,λy h=>(by cases h)⟩ 0 (Nat.zero_le _) (λ_=>rfl) ((bL.trans aw).OC hG) ((bL.trans aw).OC hU) (dS.ext (bL.trans aw)) Vp ld (Nat.zero_le _)) ?_;rintro _ w7 ⟨rfl,bY⟩;refine⟨aw.trans bY,?_⟩
    try have bA:=bY.OC bA
    have aw:=aw.trans bY;refine PL 8 O O aw$ P9 9 O (Rw O O) aw$ Q8 (i:=10) O (by kernel_rfl) O O (λ_=>Rw O O) aw$ QY (i:=11) (by kernel_rfl)$ Ql (i:=11) O O O (RN (cs:=[_]) Q7 O) ?_;rintro _ w11 ⟨b8,rfl,j9,aS,bA⟩;refine⟨aw.trans aS,?_⟩;have nF:w5.heap.size<=b8:=by have:=aw.size;omega
    have aw:=aw.trans aS;refine SM [12]$ qO 12$ PC (i:=12) O O (QQ Q7 O O O bA (by simp)) ?_;rintro w12 ⟨bC,bh⟩;refine⟨trivial,?_⟩;refine OI 13 O (R7 O) trivial$ qE$ Pn.qb (e:=[(2,_),(3,_),(4,_),(5,_),(6,_),(7,_),(8,_)]) ?_;exact(cE _ _ ⟨b8,_,rfl,aw.An bh (λi e=>by omega),nF,bC⟩).qb
   ·refine Ql (i:=11) O O O (RN (cs:=[_]) Q7 O) ?_;rintro _ w11 ⟨b8,rfl,j9,aS,bA⟩;refine⟨aw.trans aS,?_⟩;have nF:w5.heap.size<=b8:=by have:=aw.size;omega
    have aw:=aw.trans aS;refine QY (i:=7) (by kernel_rfl)$ Rx (i:=7) O O O (yc z5a O) (VC p.list hp.1 L.length hL succ [] hs ⟨List.Pairwise.nil,λy h=>(by cases h)⟩ 0 (Nat.zero_le _) (λ_=>rfl) ((bL.trans aw).OC hG) ((bL.trans aw).OC hU) (dS.ext (bL.trans aw)) Vp ld (Nat.zero_le _)) ?_;rintro _ w7 ⟨rfl,bY⟩;refine⟨aw.trans bY,?_⟩
    try have bA:=bY.OC bA
    have aw:=aw.trans bY;refine PL 8 O O aw$ P9 9 O (Rw O O) aw$ Q8 (i:=10) O (by kernel_rfl) O O (λ_=>Rw O O) aw$ SM [12]$ qO 12$ PC (i:=12) O O (QQ Q7 O O O bA (by simp)) ?_;rintro w12 ⟨bC,bh⟩;refine⟨trivial,?_⟩;refine OI 13 O (R7 O) trivial$ qE$ Pn.qb (e:=[(2,_),(3,_),(4,_),(5,_),(6,_),(7,_),(8,_)]) ?_;exact(cE _ _ ⟨b8,_,rfl,aw.An bh (λi e=>by omega),nF,bC⟩).qb
  ·refine Ql (i:=11) O O O (RN (cs:=[_]) Q7 O) ?_;rintro _ w11 ⟨b8,rfl,j9,aS,bA⟩;refine⟨aw.trans aS,?_⟩;have nF:w5.heap.size<=b8:=by have:=aw.size;omega
   have aw:=aw.trans aS;refine QY (i:=6) (by kernel_rfl)$ Rx (i:=6) O O O (yc z0M O) (T0 p _) ?_;rintro _ w6 ⟨rfl,aI⟩;refine⟨aw.trans aI,?_⟩
   try have bA:=aI.OC bA
   have aw:=aw.trans aI;refine QY (i:=7) (by kernel_rfl)$ Rx (i:=7) O O O (yc z5a O) (VC p.list hp.1 L.length hL succ [] hs ⟨List.Pairwise.nil,λy h=>(by cases h)⟩ 0 (Nat.zero_le _) (λ_=>rfl) ((bL.trans aw).OC hG) ((bL.trans aw).OC hU) (dS.ext (bL.trans aw)) Vp ld (Nat.zero_le _)) ?_;rintro _ w7 ⟨rfl,bY⟩;refine⟨aw.trans bY,?_⟩
   try have bA:=bY.OC bA
   have aw:=aw.trans bY;refine PL 8 O O aw$ P9 9 O (Rw O O) aw$ Q8 (i:=10) O (by kernel_rfl) O O (λ_=>Rw O O) aw$ SM [12]$ qO 12$ PC (i:=12) O O (QQ Q7 O O O bA (by simp)) ?_;rintro w12 ⟨bC,bh⟩;refine⟨trivial,?_⟩;refine OI 13 O (R7 O) trivial$ qE$ Pn.qb (e:=[(2,_),(3,_),(4,_),(5,_),(6,_),(7,_),(8,_)]) ?_;exact(cE _ _ ⟨b8,_,rfl,aw.An bh (λi e=>by omega),nF,bC⟩).qb
section
variable {w:World}{k:Nat}{p:Qr}{L:List (List Nat)}{E:List (Nat×Nat)}{bs:List Bool}{F:Nat->Prop}{R:List (Value×Nat)}{wp ed:Nat}
def z62 (h:PkM w k p L E bs F R wp ed)(hl:bs.length<=9223372036854775):Pm prog 133 [ptr k 0] w λu w'=>u=I (bs.length:Int)/\Ext w w':=by
 refine py (e:=[(0,_)]) func133 O ntmps133 O O ?_
 have hg:=Ext.OT w
 refine QB O$ PG O$ qV (Qi Wk O O)$ PW O$ It$ R5 (λw'=>Ext w w') O$ OZ 0 O O (hg)$ OI 1 O (Q4 O) hg$ OI 2 O (Pp zdm O) hg$ OZ 4 O O (hg)$ OI 5 O (Q4 O) hg$ OI 6 O (Pp z3g O) hg$ qT 3 O (λ_ hS=>OO U3 O O (hS.OC h.OC) (zl4 h.len)) hg$ qT 7 O (λ_ hS=>OO z3Y O O (hS.OC h.OC) (zgy h.len)) hg ?_
 refine SK 8 O z2U O (Vs (h.wr.ext hg)) ?_
 rintro _ w1 ⟨rfl,rfl⟩
 refine⟨hg,?_⟩
 refine OI 9 O (Ud O O (by omega)) hg$ OI 10 O (R7 O) hg$ qE ?_
 rw[show(0:Int)+(bs.length:Int)=(bs.length:Int) by omega]
 refine OB func133 O ?_
 exact⟨_,rfl,rfl,hg⟩
def z6y (h:PkM w k p L E bs F R wp ed):Pm prog 134 [ptr k 0] w λu w'=>u= .tuple #[S (Ph bs),I 0]/\w'=w:=by
 refine py (e:=[(0,_)]) func134 O ntmps134 O O$ qN O$ PU O$ PG O$ qV (Qi Wk O O)$ PW O$ Pf O$ Pu O$ OX z3g O$ qV (OO z3Y O O h.OC (zgy h.len))$ P4 z81 O (Xf h.wr) ?_
 rintro _ w1 ⟨rfl,rfl⟩
 refine RA O$ PU O$ OB func134 O ?_
 exact⟨_,rfl,rfl,rfl⟩
end
structure GrM (w:World)(v:Value)(g:List (List Nat)):Prop where
 ex:∃vs:List Value,Rd w v 1 g.length vs/\∀(i:Nat) (l:List Nat),g[i]? =some l->∃(a:Option Addr) (c:Nat),vs[i]? =some (Value.slice a l.length c)/\l.length<=c/\Rd w (.slice a l.length c) 1 l.length (l.map Pq)
def GrM.ext {w w':World}{v:Value}{g:List (List Nat)}(h:GrM w v g)(hx:Ext w w'):GrM w' v g:=by
 obtain⟨vs,h1,h2⟩:=h.ex
 refine⟨vs,h1.ext hx,λi l hl=>?_⟩
 obtain⟨a,c,g1,g2,g3⟩:=h2 i l hl
 exact⟨a,c,g1,g2,g3.ext hx⟩
structure Se (g:List (List Nat)):Prop where
 ok:∀l∈g,PE l
 lt:∀l∈g,∀y∈l,y<g.length
 n:g.length<=60
theorem Se.len {g:List (List Nat)}(h:Se g){l:List Nat}(hl:l∈g):l.length<=g.length:=by
 have:=z3W l 0 g.length (h.ok l hl).ZN (λy hy=>⟨Nat.zero_le _,h.lt l hl y hy⟩) (Nat.zero_le _)
 omega
def Qy (g:List (List Nat)):Nat:=(g.map List.length).sum
theorem Y7 (g:List (List Nat))(l:List Nat):Qy (g++[l])=Qy g+l.length:=by simp[Qy]
def zbs {g:List (List Nat)}{n:Nat}(h:∀l∈g,l.length<=n):Qy g<=g.length*n:=by
 induction g with
 |nil=>simp[Qy]
 | cons l g ih =>
   have h1:=ih (λm hm=>h m (List.mem_cons_of_mem _ hm));have h2:=h l List.mem_cons_self;show(l.length::g.map List.length).sum<=_;rw[List.sum_cons,List.length_cons,Nat.add_mul];have e:Qy g=(g.map List.length).sum:=rfl;omega
def U8 {g:List (List Nat)}(h:Se g)(i:Nat):Qy (g.take i)<=3600:=by
 have h1:Qy (g.take i)<=(g.take i).length*60:=zbs (λl hl=>by have:=h.len (List.mem_of_mem_take hl);have:=h.n;omega)
 have h2:(g.take i).length<=60:=by rw[List.length_take];have:=h.n;omega
 omega
def z4P {w:World}{ga:Option Addr}{gc:Nat}{g:List (List Nat)}(h:GrM w (.slice ga g.length gc) g)(hg:Se g):Pm prog 131 [.slice ga g.length gc] w λu w'=>u= .bool true/\w'=w:=by
 have hn:=hg.n
 obtain⟨vs,eU,jX⟩:=h.ex
 refine py (e:=[(0,_)]) func131 O ntmps131 O O$ qN O$ Qw O$ OU O$ PG O$ Rv WR O$ OK O$ OD$ OH$ Rq (α:=Nat) (0) (λi=>[(0,.slice ga g.length gc),(3,I (Qy (g.take i):Int)),(8,.slice ga g.length gc),(9,I (g.length:Int)),(10,I (i:Int))]) (λi w'=>w'=w/\i<=g.length) (λi=>g.length-i) ?hI ?hround
 case hI=>exact⟨rfl,Nat.zero_le _⟩
 case hround =>
  rintro i w4 ⟨rfl,hi⟩ ih;have oR:=U8 hg i
  try dsimp only
  refine qN O$ Qq O$ OD$ It$ OQ O (λh0=>?_)$ λh0=>?_
  ·have dC:i<g.length:=by omega
   obtain⟨l,hl⟩:∃l,g[i]? =some l:=⟨_,List.getElem?_eq_getElem dC⟩;have gX:=List.mem_of_getElem? hl;have fS:=hg.len gX;obtain⟨a,c,e1,e2,e3⟩:=jX i l hl
   obtain⟨gb,go,gc',e4⟩:∃b o c',Value.slice ga g.length gc= .slice (some ⟨b,o,none⟩) g.length c':=by
    rcases eU.2 with⟨c,hc,h0⟩|⟨b,off,c',hc,-⟩
    ·omega
    ·exact⟨b,off,c',hc⟩
   cases e4;refine OE$ Qx$ qN O$ qV (PX WR SO O O (by omega))$ qV (Pr Ps O O (Qo eU e1))$ Qw O$ P8 O$ Rv Ps O$ PV O$ Qt O$ Rv Ps O$ OK O$ OD$ OH ?_;have vK:=Y7 (g.take i) l;rw[<-PQ hl] at vK;rw[show(Qy (g.take i):Int)+(l.length:Int)=(Qy (g.take (i+1)):Int) by omega];refine Rq (α:=Nat) (0) (λj=>[(0,.slice (some ⟨gb,go,none⟩) g.length gc),(3,I (Qy (g.take (i+1)):Int)),(5,.slice a l.length c),(8,.slice (some ⟨gb,go,none⟩) g.length gc),(9,I (g.length:Int)),(10,I (i:Int)),(18,.slice a l.length c),(19,I (l.length:Int)),(20,I (j:Int))]) (λj w'=>w'=w4/\j<=l.length) (λj=>l.length-j) ?hI ?hround
   case hI=>exact⟨rfl,Nat.zero_le _⟩
   case hround=>
    rintro j w5 ⟨rfl,hj⟩ ih2
    try dsimp only
    refine qN O$ Qq O$ OD$ It$ OQ O (λh1=>?_)$ λh1=>?_
    ·have kT:j<l.length:=by omega
     obtain⟨y,hy⟩:∃y,l[j]? =some y:=⟨_,List.getElem?_eq_getElem kT⟩;have sK:=hg.lt l gX y (List.mem_of_getElem? hy)
     obtain⟨lb,lo,lc,e5⟩:∃b o c',Value.slice a l.length c= .slice (some ⟨b,o,none⟩) l.length c':=by
      rcases e3.2 with⟨c,hc,h0⟩|⟨b,off,c',hc,-⟩
      ·omega
      ·exact⟨b,off,c',hc⟩
     cases e5;refine OE$ Qx$ Pf O$ qV (PX Ps OP O O (by omega))$ qV (Pr Py O O (Qo e3 (show(l.map Pq)[j]? =some (Pq y) by rw[List.getElem?_map,hy];rfl))) ?_;refine RT O$ Qt O$ qV (PJ O Py U3 (by omega))$ OK O$ Rv WR O$ Te O$ PF$ OK O ?_;rcases Nat.eq_zero_or_pos j with KH|KH
     ·refine OK O$ Qu O$ PF$ OK O$ QG$ QG$ QG$ qS$ PK O$ PK O$ PW O$ OA$ OL O$ PV O ?_;refine OK O$ OD ?_;exact(ih2 (j+1) _ ⟨rfl,by omega⟩ (by omega)).qb
     ·obtain⟨z,hz⟩:∃z,l[j-1]? =some z:=⟨_,List.getElem?_eq_getElem (by omega)⟩
      have NQ:z<y:=by
       obtain⟨a1,a2⟩:=List.getElem?_eq_some_iff.1 hz;obtain⟨b1,b2⟩:=List.getElem?_eq_some_iff.1 hy;have:=List.pairwise_iff_getElem.1 (hg.ok l gX).ZN (j-1) j a1 b1 (by omega)
       rwa [a2,b2] at this
      refine OK O$ Qu O$ Rp$ P8 O$ P8 O$ Ro O ?_;rw[show(j:Int)-1=((j-1:Nat):Int) by omega];refine qV (PX Ps OP O O (by omega))$ qV (Pr Py O O (Qo e3 (show(l.map Pq)[j-1]? =some (Pq z) by rw[List.getElem?_map,hz];rfl))) ?_;refine zle O$ PF$ QJ O$ PK O$ PW O$ OA$ OL O$ PV O$ OK O$ OD ?_;exact(ih2 (j+1) _ ⟨rfl,by omega⟩ (by omega)).qb
    ·refine ON O$ OA$ OL O$ PV O$ OK O$ OD ?_;exact(ih (i+1) _ ⟨rfl,by omega⟩ (by omega)).qb
  ·refine ON O$ Pf O$ Rv WR O$ zle O$ Rp$ P8 O$ zle O$ Rp$ QJ O$ OU O$ OB func131 O ?_;exact⟨_,rfl,rfl,rfl⟩
/-! ### How many bits -/
def XN.z3D {k:Nat}{q:Cd×Nat}(h:XN k q)(hk:1<=k/\k<=16):(q.1.enc q.2).length<=112:=by
 obtain⟨h1,h2⟩:=h.QA hk
 obtain⟨-,q2,-⟩:=WL h1 h2
 rw[WJ]
 rcases h with⟨e,h⟩|⟨e,h⟩|⟨e,h⟩
 ·rw[e] at q2⊢;show q.2+1+_<=_;omega
 ·have:=(W2 (v:=q.2) (by omega)).2.2;rw[e] at q2⊢;show Nat.log2 (q.2+1)+1+_<=_;omega
 ·have h3:=(W2 (v:=q.2) (by omega)).2.2;have h4:Nat.log2 (q.2+1) / k<=Nat.log2 (q.2+1):=Nat.div_le_self _ _;rw[e] at q2⊢;show Nat.log2 (q.2+1) / k+1+_<=_;omega
def z2C {n:Nat}{L:List (Cd×Nat)}(h:∀q∈L,(q.1.enc q.2).length<=n):(Pa L).length<=L.length*n:=by
 induction L with
 |nil=>simp[Pa]
 | cons q L ih =>
   have h1:=ih (λq hq=>h q (List.mem_cons_of_mem _ hq));have h2:=h q List.mem_cons_self;rw[Qa,List.length_append,List.length_cons,Nat.add_mul];omega
def z2s (least:Nat){l:List Nat}(h:PE l):(PT least l).1.length<=l.length:=by
 have h1:=(TD least l).length_eq
 rw[List.length_append] at h1
 have h4:∀(R:List (Nat×Nat)) (lo:Nat),T3 least lo R->R.length<=(QW R).length:=by
  intro R
  induction R with
  |nil=>intro lo h;exact Nat.le_refl _
  | cons q R ih =>
    intro lo h;have h5:=ih _ h.2.2.2;have h6:1<=q.2:=h.2.1;rw[show QW (q::R)=(List.range q.2).map (q.1+·)++QW R from rfl,List.length_append,List.length_map,List.length_range,List.length_cons];omega
 have h5:=h4 _ 0 (UZ least l 0 h.ZN (λy _=>Nat.zero_le _))
 omega
def ZR {p:S6}(hp:p.QA){x:Nat}(hx:x<65536){succ ref:List Nat}(hs:PE succ)(hr:PE ref){r:Nat}(ij:r<=p.Pb)(KJ:succ.length<=60)(AV:ref.length<=60):(Pa (RE p x succ ref r)).length<=44800:=by
 have ay:PE (Pk succ ref):=hs.sub List.filter_sublist
 have fS:(Pk succ ref).length<=succ.length:=List.length_filter_le _ _
 have h1:=(Td succ ref).z1f
 rw[List.length_map] at h1
 have h2:=z2s p.interval ay
 have h3:=(UB p.interval (Pk succ ref)).length_le
 have az:(RE p x succ ref r).length<=400:=by
  unfold RE;rw[List.length_cons];split
  ·simp
  rw[List.length_append,List.length_append];have e1:(if 0<p.Pb then [(Cd.unary,r)] else []).length<=1:=by split<;>simp
  have e2:(if 0<r then(Cd.gamma,(Rf succ ref).length-1)::Qp 0 (Rf succ ref).dropLast else []).length<=62:=by
   split
   ·rw[List.length_cons,Tc,List.length_dropLast];omega
   ·simp
  have e3:(if Pk succ ref=[] then [] else(if 0<p.interval then(Cd.gamma,(PT p.interval (Pk succ ref)).1.length)::PM x p.interval none (PT p.interval (Pk succ ref)).1 else [])++PN x p.zeta none (PT p.interval (Pk succ ref)).2).length<=200:=by
   split
   ·simp
   ·rw[List.length_append,Tl];split
    ·rw[List.length_cons,Su];omega
    ·simp;omega
  omega
 have:=z2C (n:=112) (L:=RE p x succ ref r) (λq hq=>(z0x hp hx hs hr ij q hq).z3D ⟨hp.2.2.1,hp.2.2.2⟩)
 omega
/-! ### All bits -/
def Yf (p:Qr)(g:List (List Nat))(E:List (Nat×Nat))(i:Nat):List Bool:=
 Pa (RE p.list i ((g[i]?).getD []) (QH g i ((E[i]?).getD (0,0)).1) ((E[i]?).getD (0,0)).1)
def QD (p:Qr)(g:List (List Nat))(E:List (Nat×Nat))(n:Nat):List Bool:=(List.range n).flatMap (Yf p g E)
theorem Tb (p:Qr)(g:List (List Nat))(E:List (Nat×Nat))(n:Nat):QD p g E (n+1)=QD p g E n++Yf p g E n:=by
 unfold QD
 rw[List.range_succ,List.flatMap_append];simp
theorem z1j (p:Qr)(g:List (List Nat))(E:List (Nat×Nat))(e:Nat×Nat):∀n,n<=E.length->QD p g (E++[e]) n=QD p g E n
 |0,_=>rfl
 | n + 1, h => by
   rw[Tb,Tb,z1j p g E e n (by omega)]
   congr 1
   unfold Yf;rw[List.getElem?_append_left (by omega)]
structure zfh (p:Qr)(g:List (List Nat))(E:List (Nat×Nat)):Prop where
 ent:∀i e,E[i]? =some e->z06 p g E i ((g[i]?).getD []).length e
def z06.mono {p:Qr}{L L':List (List Nat)}{E E':List (Nat×Nat)}{n size:Nat}{e:Nat×Nat}(h:z06 p L E n size e)(hL:∀(j:Nat) (l:List Nat),L[j]? =some l->L'[j]? =some l)(hE:∀(j:Nat) (l:Nat×Nat),E[j]? =some l->E'[j]? =some l):z06 p L' E' n size e:=by
 rcases h with h|⟨h1,h2,h3,l,e',h4,h5,h6,h7⟩
 ·exact .inl h
 ·exact .inr ⟨h1,h2,h3,l,e',hL _ _ h4,hE _ _ h5,h6,h7⟩
def Sl.typed {w:World}{v:Value}{T:TypeId}{k n g:Nat}{cs:List Value}(h:Sl w v T k n cs)(hg:v.ownBlock=some g):∃cur,w.heap[g]? =some (.cells cur T (0,0)):=by
 rcases h.2 with⟨hz,-⟩|⟨g1,cap1,cur,hv,-,aG,-⟩
 ·rw[hz] at hg;cases hg
 ·rw[hv] at hg;have e:g1=g:=QU hg;exact⟨cur,e▸aG⟩
def PkM.kpT {w w':World}{k:Nat}{p:Qr}{L:List (List Nat)}{E:List (Nat×Nat)}{bs:List Bool}{F:Nat->Prop}{R:List (Value×Nat)}{wp ed:Nat}(h:PkM w k p L E bs F R wp ed){v:Value}{T:TypeId}{sz n:Nat}{cs:List Value}(hT:T≠106)(hv:Sl w v T sz n cs)(hk:Kp (λi=>v.ownBlock=some i) w w')(n1:v.ownBlock≠some k)(n2:∀i,F i->v.ownBlock≠some i):PkM w' k p L E bs F R wp ed:=
 ⟨hk.OC h.OC n1,h.len,h.wr.kp hk n2,h.nk,h.el,h.ok,λj l e h1 h2 h3=>by
  obtain⟨a,cp,g1,g2,g3,g4⟩:=h.ring j l e h1 h2 h3;refine⟨a,cp,g1,g2,g3.kp hk (λg hg e=>?_),g4⟩;obtain⟨c1,f1⟩:=g3.typed hg;obtain⟨c2,f2⟩:=hv.typed e;rw[f1] at f2
  injection f2 with f3
  injection f3 with f4 f5
  exact hT f5.symm⟩
def Wn (p:Qr)(g:List (List Nat))(E:List (Nat×Nat))(n:Nat):List Nat:=(List.range (n+1)).map λj=>(QD p g E j).length
theorem zdE (p:Qr)(g:List (List Nat))(E:List (Nat×Nat))(e:Nat×Nat)(n:Nat)(h:n<=E.length):Wn p g (E++[e]) n=Wn p g E n:=by
 unfold Wn
 refine List.map_congr_left λj hj=>?_
 rw[z1j p g E e j (by have:=List.mem_range.1 hj;omega)]
theorem zcx (p:Qr)(g:List (List Nat))(E:List (Nat×Nat))(n:Nat):Wn p g E (n+1)=Wn p g E n++[(QD p g E (n+1)).length]:=by
 unfold Wn
 rw[List.range_succ,List.map_append];rfl
def z3p (p:Qr)(g:List (List Nat))(E:List (Nat×Nat))(n:Nat):(Wn p g E n).length=n+1:=by simp[Wn]
theorem getD_take {α:Type}{l:List α}{i j:Nat}(h:j<i):(l.take i)[j]? =l[j]? :=by rw[List.getElem?_take,if_pos h]
def Xl (L:List (List Nat))(n r:Nat):QH L n r=[]\/QH L n r∈L:=by
 unfold QH
 split
 ·exact .inl O
 ·cases h:L[n-r]? with
  |none=>exact .inl O
  |some l=>exact .inr (List.mem_of_getElem? h)
theorem z6h {L:List (List Nat)}{n r:Nat}(h:r<=n):QH (L.take n) n r=QH L n r:=by
 unfold QH
 by_cases e:r=0
 ·rw[if_pos e,if_pos e]
 ·rw[if_neg e,if_neg e,getD_take (by omega)]
structure EnI (w:World)(p:Qr)(g:List (List Nat))(k wp:Nat)(i:Nat)(E:List (Nat×Nat))(v:Value)(w':World):Prop where
 pk:∃F R,PkM w' k p (g.take i) E (QD p g E i) F R wp (Qy (g.take i))/\(∀j,F j->w.heap.size<=j)/\∀j,F j->v.ownBlock≠some j
 ext:Ext w w'
 nk:w.heap.size<=k
 sl:Sl w' v 23 1 (Wn p g E i).length ((Wn p g E i).map u64v)
 fr:∀b,v.ownBlock=some b->w.heap.size<=b
 vk:v.ownBlock≠some k
 ent:∀j e,E[j]? =some e->z06 p g E j ((g[j]?).getD []).length e
 bd:(QD p g E i).length<=i*44800
def zab {w:World}{p:Qr}(hp:p.QA){g:List (List Nat)}(hg:Se g){ga:Option Addr}{gc:Nat}(lu:GrM w (.slice ga g.length gc) g)(hG:OR w 2 (Sy .gamma) 317)(hU:OR w 3 (Sy .unary) 317):
  Pm prog 96 [.slice ga g.length gc,bpV p] w λu w'=>∃E v,u= .tuple #[S (Ph (QD p g E g.length)),v,I 0]/\E.length=g.length/\zfh p g E/\(QD p g E g.length).length<=2688000/\Sl w' v 23 1 (g.length+1) ((Wn p g E g.length).map u64v)/\(∀b,v.ownBlock=some b->w.heap.size<=b)/\Ext w w':=by
 have hn:=hg.n
 refine py (e:=[(0,_),(1,_)]) func96 O ntmps96 O O$ qN O$ OM O O (Rm O (cs:=Vn p) O) ?_
 rintro _ w1 ⟨b3,rfl,eG,ad,au⟩
 have z1:=ad.size
 refine RT O$ RT O$ Qw O$ qV (Pt (news:=Vn p) U94 O RK O (au.cells (n:=5) O) O)$ P4 zjc O (z9d p hp w1) ?_
 rintro _ w2 ⟨k,wp,F,rfl,vL,hW,KK,ae,aL,oG⟩
 have z2:=ae.size
 have aJ:=ad.trans ae
 refine OK O$ qV (Rw (v:=ptr k 0) O O)$ qV (Rw (v:=I 0) O O)$ PU O$ PG O$ Qf O$ P8 O$ P4 zih O (z4P (lu.ext aJ) hg) ?_
 rintro _ w2 ⟨rfl,rfl⟩
 refine qV ((Sb O))$ PK O$ PW O$ qN O$ OM O O (Wj (cs:=[_]) (zs:=[Value.int .u64 0]) U70 Tf O (by kernel_rfl) O O O (by decide)) ?_
 rintro _ w3 ⟨b28,rfl,⟨KL,ai,KM⟩,DJ⟩
 have z3:=ai.size
 have lk:=vL.lt
 have Bg:PkM w3 k p (g.take 0) [] (QD p g [] 0) F z8G wp (Qy (g.take 0)):=⟨ai.OC vL,List.length_replicate,hW.ext ai,KK,rfl,(λl hl=>by simp at hl),λj l e h1=>by simp at h1⟩
 refine OU O$ PG O$ Rv WR O$ OK O$ OD$ Pn.qb (e:=[(4,_),(5,_),(6,_),(7,_),(8,_),(9,_),(29,_),(30,_),(31,_)]) ?_
 refine OH$ Rq (α:=Nat×List (Nat×Nat)×Value) ((0,[],.slice (some ⟨b28,0,none⟩) 1 1)) (λy=>[(7,ptr k 0),(9,y.2.2),(29,.slice ga g.length gc),(30,I (g.length:Int)),(31,I (y.1:Int))]) (λy w'=>EnI w p g k wp y.1 y.2.1 y.2.2 w'/\y.1<=g.length) (λy=>g.length-y.1) ?hI ?hround
 case hI=>exact⟨⟨⟨F,z8G,Bg,λj hj=>by have:=oG j hj;omega,λj hj e=>by have e1:b28=j:=QU e;have:=hW.lt hj;omega⟩,aJ.trans ai,by omega,DJ,λb hb=>by have e1:b28=b:=QU hb;omega,λe=>by have e1:b28=k:=QU e;omega,λj e h=>by simp at h,Nat.zero_le _⟩,Nat.zero_le _⟩
 case hround =>
  rintro⟨i,E,v⟩ w4 ⟨hI,hi⟩ ih;dsimp only at hI hi;obtain⟨F,R,hP,hF,Ia⟩:=hI.pk;have xC:=hI.bd;have aZ:=z3p p g E i;have rB:=hP.el;rw[List.length_take,Nat.min_eq_left hi] at rB;obtain⟨va,vc,rfl,-⟩:=hI.sl.rd.shape
  try dsimp only
  refine qN O$ Qq O$ OD$ It$ OQ O (λh0=>?_)$ λh0=>?_
  ·have dC:i<g.length:=by omega
   obtain⟨l,hl⟩:∃l,g[i]? =some l:=⟨_,List.getElem?_eq_getElem dC⟩;have gX:=List.mem_of_getElem? hl;have fS:=hg.len gX;have hs:=hg.ok l gX;obtain⟨vs,DK,jX⟩:=lu.ex;obtain⟨a,c,e1,e2,e3w⟩:=jX i l hl;have eU:=DK.ext hI.ext;have e3:=e3w.ext hI.ext
   obtain⟨gb,go,gc',e4⟩:∃b o c',Value.slice ga g.length gc= .slice (some ⟨b,o,none⟩) g.length c':=by
    rcases eU.2 with⟨c,hc,h0⟩|⟨b,off,c',hc,-⟩
    ·omega
    ·exact⟨b,off,c',hc⟩
   cases e4;have pI:(g.take i).length=i:=by rw[List.length_take];omega
   have oR:=U8 hg i;refine OE$ Qx$ qN O$ qV (PX WR SO O O (by omega))$ qV (Pr Ps O O (Qo eU e1)) ?_
   have nD:∀r,r<=p.Pb->(QD p g E i).length+(Pa (RE p.list (g.take i).length l (QH (g.take i) (g.take i).length r) r)).length<=134217728:=λr hr=>by
    have h2:PE (QH (g.take i) (g.take i).length r)/\(QH (g.take i) (g.take i).length r).length<=60:=by
     rcases Xl (g.take i) (g.take i).length r with e| e
     ·rw[e];exact⟨⟨List.Pairwise.nil,λy h=>(by cases h)⟩,Nat.zero_le _⟩
     ·exact⟨hg.ok _ (List.mem_of_mem_take e),by have:=hg.len (List.mem_of_mem_take e);omega⟩
    have h3:=ZR hp.1 (x:=(g.take i).length) (by omega) hs h2.1 (show r<=p.list.Pb from hr) (by omega) h2.2;omega
   have qU:=hI.sl;have nr:∀b,(Value.slice va (Wn p g E i).length vc).ownBlock=some b->b<w4.heap.size:=λb hb=>qU.lt hb;refine OU O$ It$ Qm O$ P4 zio O (z9c hp hP (hI.ext.OC hG) (hI.ext.OC hU) (by omega) hs e2 e3 (by omega) (λb h0 hb=>by have h1:=e3w.ltz (by decide) h0 hb;have:=hI.nk;exact⟨λe=>by have:=hF b e;omega,by omega⟩) nD) ?_;rintro _ w5 ⟨r,least,ch,F',R',rfl,i5,fO,ak,vM⟩;have lk4:=hP.OC.lt;have z5:=ak.size;have aT:Ext w w5:=hI.ext.An ak (λj hj=>by rcases hj with e|e;exact hF j e;(have:=hI.nk;omega));have KN:(E++[(r,ch)]).length=i+1:=by rw[List.length_append,rB];rfl
   have mg:r<=i:=by
    rcases i5 with e|⟨-,-,h3,-⟩
    ·have:r=0:=(Prod.mk.inj e).1;omega
    ·rw[pI] at h3;exact h3
   have tI:(E++[(r,ch)])[i]? =some (r,ch):=by rw[List.getElem?_append_right (by omega),rB,Nat.sub_self];rfl
   have iH:Yf p g (E++[(r,ch)]) i=Pa (RE p.list (g.take i).length l (QH (g.take i) (g.take i).length r) r):=by
    unfold Yf;rw[tI,hl,pI,z6h mg];rfl
   have dV:QD p g (E++[(r,ch)]) (i+1)=QD p g E i++Pa (RE p.list (g.take i).length l (QH (g.take i) (g.take i).length r) r):=by
    rw[Tb,z1j p g E _ i (by omega),iH]
   have DL:(QD p g (E++[(r,ch)]) (i+1)).length<=(i+1)*44800:=by
    have h2:PE (QH (g.take i) (g.take i).length r)/\(QH (g.take i) (g.take i).length r).length<=60:=by
     rcases Xl (g.take i) (g.take i).length r with e| e
     ·rw[e];exact⟨⟨List.Pairwise.nil,λy h=>(by cases h)⟩,Nat.zero_le _⟩
     ·exact⟨hg.ok _ (List.mem_of_mem_take e),by have:=hg.len (List.mem_of_mem_take e);omega⟩
    have ij:r<=p.list.Pb:=by
     rcases i5 with e|⟨-,h3,-⟩
     ·have:r=0:=(Prod.mk.inj e).1;omega
     ·exact h3
    have h3:=ZR hp.1 (x:=(g.take i).length) (by omega) hs h2.1 ij (by omega) h2.2;rw[dV,List.length_append];omega
   rw[<-dV,<-PQ hl,<-Y7,<-PQ hl] at fO;have ig:(QD p g (E++[(r,ch)]) (i+1)).length<=9223372036854775:=by omega
   refine OK O$ RA O$ qV (Rw (v:=I 0) O O)$ RT O$ RT O$ Qt O$ Qf O$ PW O$ OL O$ P8 O$ P4 zix O (z62 fO ig) ?_;rintro _ w6 ⟨rfl,aI⟩;refine qV ((PZ O U3 Rr (by omega)))$ OM O O (Wj (cs:=[_]) (zs:=[Value.int .u64 0]) U70 Tf O (by kernel_rfl) O O O (by decide)) ?_;rintro _ w7 ⟨b49,rfl,⟨KO,bY,cf⟩,DM⟩;have gD:=aI.trans bY;have z67:=gD.size;have nC:∀j,F' j->j<w5.heap.size:=λj hj=>fO.wr.lt hj;have AZ:=qU.kp ak (λb hb e=>by rcases e with e|e;exact Ia b e hb;exact hI.vk (e▸hb));have Bh:=AZ.ext gD
   have xO:∀j,F' j->(Value.slice va (Wn p g E i).length vc).ownBlock≠some j:=λj hj e=>by
    rcases vM j hj with e1|e1
    ·exact Ia j e1 e
    ·have:=nr j e;omega
   refine OM O O (pap U70 Tf O (by decide) O O Bh DM.rd (by intro c hc;simp at hc;subst hc;rfl) (by omega) (by simp only[maxLen];omega)) ?_;rintro v8 w8 ⟨eV,aR,kP,-⟩;have mI:=(fO.ext gD).kpT (T:=23) (by decide) Bh aR hI.vk xO;have nG:∀b,v8.ownBlock=some b->(Value.slice va (Wn p g E i).length vc).ownBlock=some b\/w5.heap.size<=b:=λb hb=>(kP b hb).imp id (λe=>by omega);refine OU O$ OA$ OL O$ PV O$ OK O$ OD ((ih (i+1,E++[(r,ch)],v8) _ ⟨⟨⟨F',R',mI,λj hj=>?_,λj hj e=>?_⟩,(aT.trans gD).An aR (λj hj=>hI.fr j hj),hI.nk,?_,λb hb=>?_,λe=>?_,λj e hj=>?_,DL⟩,dC⟩ (by dsimp only;omega)).qb)
   ·rcases vM j hj with e| e
    ·exact hF j e
    ·have:=hI.ext.size;omega
   ·rcases nG j e with e1|e1
    ·exact xO j hj e1
    ·have:=nC j hj;omega
   ·rw[zcx,zdE p g E _ i (by omega),List.length_append,List.map_append];exact eV
   ·rcases nG b hb with e1|e1
    ·exact hI.fr b e1
    ·have:=aT.size;omega
   ·rcases nG k e with e1|e1
    ·exact hI.vk e1
    ·omega
   ·rcases Nat.lt_or_ge j i with rC|rC
    ·rw[List.getElem?_append_left (by omega)] at hj;exact(hI.ent j e hj).mono (λ_ _ h=>h) (λj' l' h=>by rw[List.getElem?_append_left (List.getElem?_eq_some_iff.1 h).1];exact h)
    ·have Do:=(List.getElem?_eq_some_iff.1 hj).1;rw[KN] at Do;have ej:j=i:=by omega
     subst ej;rw[tI] at hj;cases hj;rw[hl];rw[pI] at i5
     exact i5.mono (λj' l' h=>by
      have:=(List.getElem?_eq_some_iff.1 h).1;rw[pI] at this
      rwa [getD_take this] at h) (λj' l' h=>by rw[List.getElem?_append_left (List.getElem?_eq_some_iff.1 h).1];exact h)
  ·have bQ:i=g.length:=by omega
   subst bQ;refine ON O$ Pf O$ P4 ziM O (z6y hP) ?_;rintro _ w5 ⟨rfl,rfl⟩;refine OK O$ RA O$ RT O$ Qw O$ P8 O$ OK O$ RT O$ PU O$ OB func96 O ?_;have fG:=hI.sl;rw[aZ] at fG;exact⟨_,rfl,E,_,rfl,rB,⟨hI.ent⟩,by omega,by rw[aZ];exact fG,hI.fr,hI.ext⟩
structure Fm where
 n:Nat
 u:Nat
 width:Nat
 bits:Nat
def fmC (f:Fm):List Value:=[I (f.n:Int),u64v f.u,I (f.width:Int),I (f.bits:Int)]
abbrev fmV (f:Fm):Value:= .agg (fmC f).toArray
def Yg (n u:Nat):Nat:=if u / n=0 then 0 else PR (u / n)-1
def U1 (n u:Nat):Fm:=⟨n,u,Yg n u,(u-1) / 2^Yg n u+n⟩
def Fm.high (f:Fm):Nat:=12+(f.n*f.width+7) / 8
def Fm.UO (f:Fm):Nat:=f.high+(f.bits+7) / 8
def Fm.size (f:Fm):Nat:=f.UO+4*((f.n+63) / 64)
def Zs {n u:Nat}(hu:u<=1000000000):Yg n u<=30:=by
 unfold Yg
 split
 ·omega
 ·have h1:u / n<=u:=Nat.div_le_self _ _;have h2:PR (u / n)<=30:=R9 (by omega);omega
def z1i {n u:Nat}(hn:1<=n)(hu:1<=u):(u-1) / 2^Yg n u<2*n:=by
 have h2:0<2^Yg n u:=Nat.two_pow_pos _
 rw[Nat.div_lt_iff_lt_mul h2]
 unfold Yg
 split
 ·rename_i h
  have:u<n:=by
   rcases Nat.lt_or_ge u n with h1|h1
   ·exact h1
   ·have:=Nat.div_pos h1 (by omega);omega
  simp;omega
 ·rename_i h
  have h3:u / n<2^PR (u / n):=WY;have h4:PR (u / n)≠0:=λe=>by rw[e,Nat.pow_zero] at h3;exact h (Nat.lt_one_iff.1 h3)
  obtain⟨k,hk⟩:∃k,PR (u / n)=k+1:=⟨PR (u / n)-1,by omega⟩;rw[hk] at h3⊢;rw[Nat.add_sub_cancel]
  have h5:u<n*2^(k+1):=by
   have:=(Nat.div_lt_iff_lt_mul (show 0<n by omega)).1 h3
   rwa [Nat.mul_comm] at this
  rw[Nat.pow_succ] at h5;have e:n*(2^k*2)=2*n*2^k:=by rw[Nat.mul_comm (2^k) 2,<-Nat.mul_assoc,Nat.mul_comm n 2]
  omega
def z9H {n u:Nat}(hn:1<=n)(hu:1<=u):(U1 n u).bits<=3*n:=by
 have:=z1i hn hu
 show(u-1) / 2^Yg n u+n<=_
 omega
def Y4 (n u:Nat)(hn:1<=n)(iu:n<=1000)(hu:1<=u)(my:u<=1000000000)(w:World):Pm prog 140 [I (n:Int),u64v u] w λv w'=>v=fmV (U1 n u)/\Ext w w':=by
 have oS:=Zs (n:=n) my
 have fD:=z1i hn hu
 have hq:u / n<=u:=Nat.div_le_self _ _
 obtain⟨q,tJ⟩:∃q,u / n=q:=⟨_,rfl⟩
 have Ib:Yg n u=if q=0 then 0 else PR q-1:=by rw[Yg,tJ]
 rw[tJ] at hq
 have DN:PR q<=30:=R9 (by omega)
 refine py (e:=[(0,_),(1,_)]) func140 O ntmps140 O O$ qN O$ OM O O (RN (cs:=[_,_,_,_]) Ti O) ?_
 rintro _ w1 ⟨b4,rfl,fC,ad,aK⟩
 refine qM O$ P8 O$ qV (Sk (cs:=[_,_,_,_]) Ti O ziG O O)$ OM O O (RN (cs:=[_,_,_,_]) Ti O) ?_
 rintro _ w2 ⟨b5,rfl,ig,ae,aH⟩
 have z1:=ad.size
 have z2:=ae.size
 have l4:=aK.lt
 have l5:=aH.lt
 refine OW O (PO (news:=[I (n:Int),u64v u,I 0,I 0]) Ti O O O O aH (by simp)) ?_
 rintro w3 ⟨iI,av⟩
 replace iI:OR w3 b5 [I (n:Int),u64v u,I 0,I 0] 234:=iI
 have dE:Ext w w3:=(ad.trans ae).An av (λi e=>by omega)
 have dT:=av.OC (ae.OC aK) (by omega)
 have z3:=av.size
 refine OD$ PG O$ Ri O$ PF$ PW O$ It$ Qm O$ qV ((PZ O U3 Rr (by omega)))$ qV (z9F (m:=u) (n:=n) O O O (by show u<2^64;omega) (by omega)) ?_
 rw[tJ]
 refine Qt O$ Qu O$ OD$ PI (λe' w'=>e'=[(0,I (n:Int)),(1,u64v u),(4,ptr b4 0),(5,ptr b5 0)]/\Ext w w'/\OR w' b5 [I (n:Int),u64v u,I (Yg n u:Int),I 0] 234/\OR w' b4 [I 0,u64v 0,I 0,I 0] 234) ?cE$ λcE=>?cV
 case cE=>
  rintro e' w4 ⟨rfl,aD,gY,cB⟩;refine Pf O$ qV (VZ (m:=u) (n:=1) O O O (by show u<2^64;omega) (by omega)) ?_;refine OX Tp O$ qV (OO U3 O O gY O)$ qV (Sc (Yg n u) (2^Yg n u) O O (by show Yg n u<=64;omega) O) ?_
  generalize KP:(u-1) / 2^Yg n u=qb at fD
  refine qV (PJ O Rr U3 (by omega))$ OK O$ PV O$ OX Z3 O$ OW O (QQ Q7 O O O gY (by simp)) ?_;rintro w5 ⟨tK,ak⟩;replace tK:OR w5 b5 [I (n:Int),u64v u,I (Yg n u:Int),I ((qb+n:Nat):Int)] 234:=tK;refine qM O$ qV (Pt z5x O Ti O (OR.cells (n:=4) tK (news:=[_,_,_,_]) O) O)$ OW O (PO (news:=[I (n:Int),u64v u,I (Yg n u:Int),I ((qb+n:Nat):Int)]) Ti O O O O (ak.OC cB (by omega)) (by simp)) ?_;rintro w6 ⟨cg,aP⟩;replace cg:OR w6 b4 [I (n:Int),u64v u,I (Yg n u:Int),I ((qb+n:Nat):Int)] 234:=cg;refine OD$ Po func140 (.cell z5x O Ti O (OR.cells (n:=4) cg (news:=[_,_,_,_]) O) O .nil) (⟨_,rfl,?_,(aD.An ak (λi e=>by omega)).An aP (λi e=>by omega)⟩);unfold fmV fmC U1;rw[KP]
  rfl
 case cV=>
  refine OQ O (λh0=>?_)$ λh0=>?_
  ·refine Rh O$ P4 z35 O (Us q (by omega) _) ?_;rintro _ w3 ⟨rfl,rfl⟩;have sV:PR q≠0:=λe=>by have:=WY (v:=q);rw[e] at this;omega
   refine Ro O ?_;rw[show(PR q:Int)-1=(Yg n u:Int) by rw[Ib,if_neg (by omega)];omega];refine OX Tp O$ OW O (QQ Q7 O O O iI (by simp)) ?_;rintro w4 ⟨gY,ao⟩;replace gY:OR w4 b5 [I (n:Int),u64v u,I (Yg n u:Int),I 0] 234:=gY;refine OD ?_;exact(cE _ _ ⟨rfl,dE.An ao (λi e=>by omega),gY,ao.OC dT (by omega)⟩).qb
  ·have mY:Yg n u=0:=by rw[Ib,if_pos (by omega)]
   refine OE ?_;exact(cE _ _ ⟨rfl,dE,by rw[mY];exact iI,dT⟩).qb
def Fm.small (f:Fm):Prop:=f.n<=100000/\f.width<=64/\f.bits<=1000000
def z5f (f:Fm)(hf:f.small)(w:World):Pm prog 239 [fmV f] w λv w'=>v=I (f.high:Int)/\Ext w w':=by
 obtain⟨h1,h2,h3⟩:=hf
 have hm:f.n*f.width<=100000*64:=Nat.mul_le_mul h1 h2
 refine py (e:=[(0,_)]) func239 O ntmps239 O O$ qN O$ OM O O (Rm O (cs:=fmC f) O) ?_
 rintro _ w1 ⟨b1,rfl,bU,ad,aj⟩
 replace aj:OR w1 b1 [I (f.n:Int),u64v f.u,I (f.width:Int),I (f.bits:Int)] 234:=aj
 refine Qw O$ OX Yx O$ qV (OO U3 O O aj O)$ OX Tp O$ qV (OO U3 O O aj O) ?_
 have qR:((f.n*f.width:Nat):Int)=(f.n:Int)*(f.width:Int):=Int.natCast_mul _ _
 refine qV (Wm O O (by rw[<-qR];omega)) ?_
 rw[<-qR]
 refine PV O$ qV (VI O O (by omega))$ PV O$ OU O$ OB func239 O (⟨_,rfl,?_,ad⟩)
 show I (12+(((f.n*f.width:Nat):Int)+7) / 8)=I ((12+(f.n*f.width+7) / 8:Nat):Int)
 congr 1
def Fm.Xg {f:Fm}(hf:f.small):f.high<=10000000:=by
 obtain⟨h1,h2,h3⟩:=hf
 have hm:f.n*f.width<=100000*64:=Nat.mul_le_mul h1 h2
 unfold Fm.high
 omega
def z5t (f:Fm)(hf:f.small)(w:World):Pm prog 216 [fmV f] w λv w'=>v=I (f.UO:Int)/\Ext w w':=by
 have oT:=Fm.Xg hf
 obtain⟨h1,h2,h3⟩:=id hf
 refine py (e:=[(0,_)]) func216 O ntmps216 O O$ qN O$ OM O O (Rm O (cs:=fmC f) O) ?_
 rintro _ w1 ⟨b1,rfl,bU,ad,aj⟩
 replace aj:OR w1 b1 [I (f.n:Int),u64v f.u,I (f.width:Int),I (f.bits:Int)] 234:=aj
 have hg:=Ext.OT w1
 refine OU O$ It$ R5 (λw'=>Ext w1 w') O$ qT 0 O (λ_ h=>Pt z5x O Ti O (OR.cells (n:=4) (h.OC aj) (news:=[_,_,_,_]) O) O) hg$ OI 2 O (Pp Z3 O) hg$ qT 3 O (λ_ h=>OO U3 O O (h.OC aj) O) hg$ OI 4 O (Ud O O (by omega)) hg$ OI 5 O (VI O O (by omega)) hg$ SK 1 O zeJ O (z5f f hf _) ?_
 rintro _ w2 ⟨rfl,ae⟩
 refine⟨hg.trans ae,?_⟩
 refine OI 6 O (Ud O O (by omega)) (hg.trans ae)$ OI 7 O (R7 O) (hg.trans ae)$ qE$ OB func216 O (⟨_,rfl,?_,(ad.trans hg).trans ae⟩)
 show I ((f.high:Int)+((f.bits:Int)+7) / 8)=I ((f.high+(f.bits+7) / 8:Nat):Int)
 congr 1
def z2X (f:Fm)(hf:f.small)(w:World):Pm prog 185 [fmV f] w λv w'=>v=I (f.size:Int)/\Ext w w':=by
 have oT:=Fm.Xg hf
 obtain⟨h1,h2,h3⟩:=id hf
 have fG:f.UO<=20000000:=by unfold Fm.UO;omega
 refine py (e:=[(0,_)]) func185 O ntmps185 O O$ qN O$ OM O O (Rm O (cs:=fmC f) O) ?_
 rintro _ w1 ⟨b1,rfl,bU,ad,aj⟩
 replace aj:OR w1 b1 [I (f.n:Int),u64v f.u,I (f.width:Int),I (f.bits:Int)] 234:=aj
 have hg:=Ext.OT w1
 refine OU O$ It$ R5 (λw'=>Ext w1 w') O$ qT 0 O (λ_ h=>Pt z5x O Ti O (OR.cells (n:=4) (h.OC aj) (news:=[_,_,_,_]) O) O) hg$ OI 2 O (Pp Yx O) hg$ qT 3 O (λ_ h=>OO U3 O O (h.OC aj) O) hg$ OI 4 O (Ud O O (by omega)) hg$ OI 5 O (XH O O (by omega)) hg ?_
 rw[show(f.n:Int)+64-1=((f.n+63:Nat):Int) by omega]
 refine OI 6 O (VI O O (by omega)) hg$ OI 7 O (Wm O O (by omega)) hg$ SK 1 O zeS O (z5t f hf _) ?_
 rintro _ w2 ⟨rfl,ae⟩
 refine⟨hg.trans ae,?_⟩
 refine OI 8 O (Ud O O (by omega)) (hg.trans ae)$ OI 9 O (R7 O) (hg.trans ae)$ qE$ OB func185 O (⟨_,rfl,?_,(ad.trans hg).trans ae⟩)
 show I ((f.UO:Int)+4*(((f.n+63:Nat):Int) / 64))=I ((f.UO+4*((f.n+63) / 64):Nat):Int)
 congr 1
def z3U {n u:Nat}(hn:1<=n)(iu:n<=1000)(hu:1<=u)(my:u<=1000000000):(U1 n u).small:=by
 have h1:=z9H hn hu
 have h2:=Zs (n:=n) my
 refine⟨?_,?_,by omega⟩
 ·show n<=_;omega
 ·show Yg n u<=_;omega
def z6Y (n last:Nat)(hn:1<=n)(iu:n<=1000)(my:last+1<=1000000000)(w:World):Pm prog 183 [I (n:Int),u64v last] w λv w'=>v= .tuple #[I ((U1 n (last+1)).size:Int),I 0]/\Ext w w':=by
 refine py (e:=[(0,_),(1,_)]) func183 O ntmps183 O O$ qN O$ PU O$ Qx$ Pf O$ Qq O$ P8 O$ Qu O$ PF$ PK O$ P8 O$ Qu O$ PF$ PK O ?_
 refine P8 O$ Ri O$ PF$ OK O$ QG$ PK O$ PK O$ OU O$ OJ O$ Pf O$ Ri O$ PF$ OU O$ Pn.qb (e:=[(0,_),(1,_),(4,_),(5,_),(25,_)]) ?_
 refine Tu O$ OA$ Qm O$ qV (RQ O O) ?_
 rw[Nat.mod_eq_of_lt (show last+1<18446744073709551616 by omega)]
 refine P4 zaD O (Y4 n (last+1) hn iu (by omega) my _) ?_
 rintro _ w1 ⟨rfl,ad⟩
 refine P4 zeL O (z2X _ (z3U hn iu (by omega) my) _) ?_
 rintro _ w2 ⟨rfl,ae⟩
 refine PU O$ OB func183 O ?_
 exact⟨_,rfl,rfl,ad.trans ae⟩
def zaz {w:World}{a:Option Addr}{c:Nat}{l:List Nat}(hl:l.length<=1000)(hn:Nof l)(hm:∀v∈l,v<=1000000000)(hR:Rd w (.slice a l.length c) 1 l.length (l.map u64v)):Pm prog 139 [.slice a l.length c] w λv w'=>v= .bool true/\w'=w:=by
 refine py (e:=[(0,_)]) func139 O ntmps139 O O$ QB O$ PG O$ Rv U70 O$ Qu O$ PF$ PW O$ QB O$ PG O$ Rv U70 O$ OK O$ OD$ OH$ Rq (α:=Nat×Nat) ((0,0)) (λy=>[(3,u64v y.2),(9,.slice a l.length c),(10,I (l.length:Int)),(11,I (y.1:Int))]) (λy w'=>w'=w/\y.1<=l.length/\y.2<=1000000000/\∀v,l[y.1]? =some v->y.2<=v) (λy=>l.length-y.1) ?hI ?hround
 case hI=>exact⟨rfl,Nat.zero_le _,Nat.zero_le _,λv _=>Nat.zero_le _⟩
 case hround=>
  rintro⟨i,z⟩ w4 ⟨rfl,hi,hz,Bi⟩ ih;dsimp only at hi hz Bi
  try dsimp only
  refine qN O$ Qq O$ OD$ It$ OQ O (λh0=>?_)$ λh0=>?_
  ·have dC:i<l.length:=by omega
   obtain⟨v,hv⟩:∃v,l[i]? =some v:=⟨_,List.getElem?_eq_getElem dC⟩;have KQ:=Bi v hv;have pW:=hm v (List.mem_of_getElem? hv)
   obtain⟨gb,go,gc',e4⟩:∃b o c',Value.slice a l.length c= .slice (some ⟨b,o,none⟩) l.length c':=by
    rcases hR.2 with⟨c,hc,h0⟩|⟨b,off,c',hc,-⟩
    ·omega
    ·exact⟨b,off,c',hc⟩
   cases e4;refine OE$ Qx$ qN O$ qV (PX U70 Tf O O (by omega))$ qV (Pr Rr O O (Qo hR (show(l.map u64v)[i]? =some (u64v v) by rw[List.getElem?_map,hv];rfl))) ?_;refine OU O$ It$ Qm O$ Qq O$ PF$ P8 O$ Qu O$ PF$ PK O$ PW O$ Rh O$ OU O$ OA$ OL O ?_;refine PV O$ OK O$ OD ((ih (i+1,v) _ ⟨rfl,dC,pW,λu hu=>?_⟩ (by dsimp only;omega)).qb);obtain⟨a1,a2⟩:=List.getElem?_eq_some_iff.1 hv;obtain⟨b1,b2⟩:=List.getElem?_eq_some_iff.1 hu;have:=List.pairwise_iff_getElem.1 hn i (i+1) a1 b1 (by omega)
   rwa [a2,b2] at this
  ·refine ON O$ QB O$ OB func139 O ?_;exact⟨_,rfl,rfl,rfl⟩
def SD (k:Nat)(l:List Nat):List Bool:=l.flatMap λv=>Pc k (v%2^k)
def Sg (k:Nat):List Nat->List Bool
 |[]=>[]
 |v::_=>Pc 32 (v / 2^k)
theorem z9T (k:Nat)(l:List Nat)(v:Nat):SD k (l++[v])=SD k l++Pc k (v%2^k):=by simp[SD]
theorem UL (k:Nat):∀l:List Nat,(SD k l).length=l.length*k
 |[]=>by simp[SD]
 | v :: l => by
   show(Pc k (v%2^k)++SD k l).length=_;rw[List.length_append,UL k l,bitsN_length,List.length_cons,Nat.add_mul];omega
def z4K (k:Nat):∀(l:List Nat) (len i v:Nat),Nof (l++[v])->(∀x,(l++[v]).head? =some x->len<=x / 2^k+i)->
  len+(hiB k len i l).length<=v / 2^k+(i+l.length)/\hiB k len i (l++[v])=hiB k len i l++(List.replicate (v / 2^k+(i+l.length)-(len+(hiB k len i l).length)) false++[true])
 | [], len, i, v, _, hl => by
   have:=hl v O;refine⟨by simp[hiB];omega,?_⟩
   simp[hiB]
 | x :: r, len, i, v, hn, hl => by
   have hx:=hl x O;rw[List.cons_append] at hn;obtain⟨n1,n2⟩:=List.pairwise_cons.1 hn
   obtain⟨h1,h2⟩:=z4K k r (x / 2^k+i+1) (i+1) v n2 (λy hy=>by
    have pX:y∈r++[v]:=List.mem_of_mem_head? hy;have:=Nat.div_le_div_right (c:=2^k) (n1 y pX)
    omega)
   rw[List.cons_append,hiB,hiB,h2,List.length_append,List.length_replicate,List.length_cons,List.length_cons];refine⟨by omega,?_⟩;rw[List.append_assoc,List.cons_append,show v / 2^k+(i+1+r.length)-(x / 2^k+i+1+(hiB k (x / 2^k+i+1) (i+1) r).length)=v / 2^k+(i+(r.length+1))-(len+(x / 2^k+i-len+((hiB k (x / 2^k+i+1) (i+1) r).length+1))) by omega]
def z7v (k:Nat)(l:List Nat)(v:Nat):Sg k (l++[v])=Sg k l++if l.length=0 then Pc 32 (v / 2^k) else []:=by
 cases l with
 |nil=>simp[Sg]
 |cons x l=>simp[Sg]
def YQ (l:List Nat)(f:Fm):OG:=Ph (Pc 32 f.n++Pc 64 f.u)++Ph (SD f.width l)++Ph (hiB f.width 0 0 l)++Ph (Sg f.width l)
def zcj {b:Nat}:∀{l:List Nat},(∀x∈l,x<=b)->l.sum<=l.length*b
 |[],_=>by simp
 | x :: l, h => by
   have h1:=h x List.mem_cons_self;have h2:=zcj (λy hy=>h y (List.mem_cons_of_mem x hy));rw[List.sum_cons,List.length_cons,Nat.add_mul];omega
def z9e (k:Nat)(l:List Nat):(Sg k l).length<=32:=by
 cases l with
 |nil=>simp[Sg]
 |cons v l=>simp[Sg]
theorem z1E (k:Nat){l:List Nat}(hn:Nof l){z:Nat}(hz:l[l.length-1]? =some z):(hiB k 0 0 l).length=z / 2^k+l.length:=by
 have:=z7O k l 0 0 hn (λx hx=>Nat.zero_le _) z (by rw[List.getLast?_eq_getElem?];exact hz)
 omega
/-! ### Three writers side by side -/
def zaO (A B:Nat->Prop):Prop:=∀k,A k->¬B k
structure EfW (w0 w:World)(b5:Nat)(f:Fm)(p1 p2 p3:Nat)(l1 l2 l3:List Bool):Prop where
 ex:∃F1 F2 F3:Nat->Prop,Z2 w p1 l1 F1/\Z2 w p2 l2 F2/\Z2 w p3 l3 F3/\zaO F1 F2/\zaO F2 F3/\zaO F3 F1/\∀k,F1 k\/F2 k\/F3 k->w0.heap.size<=k/\k≠b5
 ext:Ext w0 w
 OC:OR w b5 (fmC f) 234
section
variable {w0 w:World}{b5:Nat}{f:Fm}{p1 p2 p3:Nat}{l1 l2 l3:List Bool}
def EfW.rot (h:EfW w0 w b5 f p1 p2 p3 l1 l2 l3):EfW w0 w b5 f p2 p3 p1 l2 l3 l1:=by
 obtain⟨⟨F1,F2,F3,h1,h2,h3,h4,h5,h6,h7⟩,hx,hb⟩:=h
 exact⟨⟨F2,F3,F1,h2,h3,h1,h5,h6,h4,λk hk=>h7 k (by rcases hk with e|e|e;exact .inr (.inl e);exact .inr (.inr e);exact .inl e)⟩,hx,hb⟩
def EfW.on (h:EfW w0 w b5 f p1 p2 p3 l1 l2 l3){w2:World}(hx:Ext w w2):EfW w0 w2 b5 f p1 p2 p3 l1 l2 l3:=by
 obtain⟨⟨F1,F2,F3,h1,h2,h3,h4,h5,h6,h7⟩,i6,hb⟩:=h
 exact⟨⟨F1,F2,F3,h1.ext hx,h2.ext hx,h3.ext hx,h4,h5,h6,h7⟩,i6.trans hx,hx.OC hb⟩
def EfW.zd9 (h:EfW w0 w b5 f p1 p2 p3 l1 l2 l3):∃F1,Z2 w p1 l1 F1/\¬F1 b5/\(∀w2 l,WrR p1 F1 w w2 l->EfW w0 w2 b5 f p1 p2 p3 l l2 l3):=by
 obtain⟨⟨F1,F2,F3,h1,h2,h3,h4,h5,h6,h7⟩,i6,hb⟩:=h
 refine⟨F1,h1,λe=>(h7 b5 (.inl e)).2 O,λw2 l hr=>?_⟩
 obtain⟨F1',g1,g2,g3⟩:=hr
 have z:=i6.size
 have lb:=hb.lt
 refine⟨⟨F1',F2,F3,g1,h2.kp g2 (λi hi e=>h4 i e hi),h3.kp g2 (λi hi e=>h6 i hi e),λk hk e=>?_,h5,λk hk e=>?_,λk hk=>?_⟩,i6.An g2 (λk hk=>(h7 k (.inl hk)).1),g2.OC hb (λe=>(h7 b5 (.inl e)).2 O)⟩
 ·rcases g3 k hk with e1|e1
  ·exact h4 k e1 e
  ·have:=h2.lt e;omega
 ·rcases g3 k e with e1|e1
  ·exact h6 k hk e1
  ·have:=h3.lt hk;omega
 ·rcases hk with hk|hk
  ·rcases g3 k hk with e1|e1
   ·exact h7 k (.inl e1)
   ·exact⟨by omega,by omega⟩
  ·exact h7 k (.inr hk)
def EfW.zdO (h:EfW w0 w b5 f p1 p2 p3 l1 l2 l3):∃F2,Z2 w p2 l2 F2/\(∀w2 l,WrR p2 F2 w w2 l->EfW w0 w2 b5 f p1 p2 p3 l1 l l3):=by
 obtain⟨F2,h1,-,h2⟩:=h.rot.zd9
 exact⟨F2,h1,λw2 l hr=>(h2 w2 l hr).rot.rot⟩
def EfW.zia (h:EfW w0 w b5 f p1 p2 p3 l1 l2 l3):∃F3,Z2 w p3 l3 F3/\(∀w2 l,WrR p3 F3 w w2 l->EfW w0 w2 b5 f p1 p2 p3 l1 l2 l):=by
 obtain⟨F3,h1,-,h2⟩:=h.rot.rot.zd9
 exact⟨F3,h1,λw2 l hr=>(h2 w2 l hr).rot⟩
end
def z47 {w:World}{a:Option Addr}{c:Nat}{l:List Nat}(cX:1<=l.length)(hn:l.length<=64)(mh:Nof l)(hm:∀v∈l,v<=999999999)(hR:Rd w (.slice a l.length c) 1 l.length (l.map u64v)){z:Nat}(hz:l[l.length-1]? =some z):
  Pm prog 99 [.slice a l.length c] w λv w'=>v= .tuple #[S (YQ l (U1 l.length (z+1))),I 0]/\Ext w w':=by
 have NR:=hm z (List.mem_of_getElem? hz)
 have Ic:∀v∈l,v<=z:=λv hv=>by
  obtain⟨j,hj⟩:=List.mem_iff_getElem?.1 hv;obtain⟨a1,a2⟩:=List.getElem?_eq_some_iff.1 hj;obtain⟨b1,b2⟩:=List.getElem?_eq_some_iff.1 hz;rcases Nat.lt_or_ge j (l.length-1) with h| h
  ·have:=List.pairwise_iff_getElem.1 mh j (l.length-1) a1 b1 h
   rwa [a2,b2] at this
  ·have e:j=l.length-1:=by omega
   subst e;rw[hz] at hj;cases hj;exact Nat.le_refl _
 have oS:=Zs (n:=l.length) (u:=z+1) (by omega)
 have nH:=z1i (n:=l.length) (u:=z+1) cX (by omega)
 rw[Nat.add_sub_cancel] at nH
 obtain⟨gb,go,gc',e4⟩:∃b o c',Value.slice a l.length c= .slice (some ⟨b,o,none⟩) l.length c':=by
  rcases hR.2 with⟨c,hc,h0⟩|⟨b,off,c',hc,-⟩
  ·omega
  ·exact⟨b,off,c',hc⟩
 cases e4
 refine py (e:=[(0,_)]) func99 O ntmps99 O O$ qN O$ PU O$ PG O$ P4 ziF O (zaz (by omega) mh (λv hv=>by have:=hm v hv;omega) hR) ?_
 rintro _ w ⟨rfl,rfl⟩
 refine qV ((Sb O))$ PW O$ QB O$ PG O$ Rv U70 O$ Qu O$ OD$ OQ O (λh0=>?_)$ λh0=>?_
 ·refine OL O$ P8 O$ Rv U70 O$ Ro O ?_;rw[show(l.length:Int)-1=((l.length-1:Nat):Int) by omega];refine qV (PX U70 Tf O O (by omega))$ qV (Pr Rr O O (Qo hR (show(l.map u64v)[l.length-1]? =some (u64v z) by rw[List.getElem?_map,hz];rfl))) ?_;refine qV (RQ O O) ?_;rw[Nat.mod_eq_of_lt (show z+1<18446744073709551616 by omega)];refine Qt O$ Rv U70 O$ OK O$ P4 zaD O (Y4 l.length (z+1) cX (by omega) (by omega) (by omega) _) ?_;rintro _ w1 ⟨rfl,ad⟩
  generalize hf:U1 l.length (z+1)=f
  have KR:f.width=Yg l.length (z+1):=by rw[<-hf];rfl
  have oP:f.n=l.length:=by rw[<-hf];rfl
  have Bj:f.u=z+1:=by rw[<-hf];rfl
  rw[<-KR] at oS nH;refine OM O O (RN (cs:=[_,_,_,_]) Ti O) ?_;rintro _ w2 ⟨b5,rfl,ig,ae,aH⟩;refine OW O (PO (news:=fmC f) Ti O O O O aH (by simp)) ?_;rintro w3 ⟨iI,av⟩;replace iI:OR w3 b5 (fmC f) 234:=iI;have z1:=ad.size;have z2:=ae.size;have lb5:=iI.lt;have aO:Ext w1 w3:=ae.An av (λi e=>by omega);have z3:=aO.size;refine qM O$ P4 z1e O (UF w3) ?_;rintro _ w4 ⟨p1,F1,rfl,DO,aD,oG⟩;refine P4 z1e O (UF w4) ?_;rintro _ w5 ⟨p2,F2,rfl,Id,aT,Ie⟩;refine P4 z1e O (UF w5) ?_;rintro _ w6 ⟨p3,F3,rfl,kr,aI,pO⟩;have z4:=aD.size;have z5:=aT.size
  have KS:EfW w w6 b5 f p1 p2 p3 [] [] []:=⟨⟨F1,F2,F3,(DO.ext aT).ext aI,Id.ext aI,kr,λk h1 h2=>by have:=DO.lt h1;have:=Ie k h2;omega,λk h1 h2=>by have:=Id.lt h1;have:=pO k h2;omega,λk h1 h2=>by have:=DO.lt h2;have:=pO k h1;omega,λk hk=>by
   rcases hk with h|h| h
   ·have:=oG k h;omega
   ·have:=Ie k h;omega
   ·have:=pO k h;omega⟩,(((ad.trans aO).trans aD).trans aT).trans aI,aI.OC (aT.OC (aD.OC iI))⟩
  refine RT O$ PU O$ Pn.qb (e:=[(0,_),(2,_),(3,_),(4,_),(5,_),(6,_),(7,_),(8,_)]) ?_;refine PG O$ Rv U70 O$ OK O$ OD$ OH$ Rq (α:=Nat) (0) (λi=>[(4,u64v (z+1)),(5,ptr b5 0),(6,ptr p1 0),(7,ptr p2 0),(8,ptr p3 0),(39,.slice (some ⟨gb,go,none⟩) l.length c),(40,I (l.length:Int)),(41,I (i:Int))]) (λi w'=>EfW w w' b5 f p1 p2 p3 (SD f.width (l.take i)) (hiB f.width 0 0 (l.take i)) (Sg f.width (l.take i))/\i<=l.length) (λi=>l.length-i) ?hI ?hround
  case hI=>exact⟨KS,Nat.zero_le _⟩
  case hround =>
   rintro i w7 ⟨hE,hi⟩ ih
   try dsimp only
   refine qN O$ Qq O$ OD$ It$ OQ O (λh1=>?_)$ λh1=>?_
   ·have dC:i<l.length:=by omega
    obtain⟨v,hv⟩:∃v,l[i]? =some v:=⟨_,List.getElem?_eq_getElem dC⟩;have pW:=Ic v (List.mem_of_getElem? hv);have If:v / 2^f.width<=z / 2^f.width:=Nat.div_le_div_right pW;have pI:(l.take i).length=i:=by rw[List.length_take];omega
    obtain⟨dA,df⟩:=z4K f.width (l.take i) 0 0 v (by rw[<-PQ hv];exact mh.sublist (List.take_sublist _ _)) (λx hx=>Nat.zero_le _);rw[<-PQ hv,Nat.zero_add,Nat.zero_add,pI] at df;rw[Nat.zero_add,Nat.zero_add,pI] at dA;have KT:(l.take i).length*f.width<=64*30:=Nat.mul_le_mul (by omega) (by omega);have hg:=Ext.OT w7;obtain⟨F1',DP,xP,dX⟩:=(hE.on hg).zd9;have xQ:OR w7 b5 [I (f.n:Int),u64v f.u,I (f.width:Int),I (f.bits:Int)] 234:=hE.OC;have po:=Nat.two_pow_pos f.width;have NS:2^f.width<=2^30:=Nat.pow_le_pow_right (by decide) oS;refine OE$ Qx$ Pf O$ qV (PX U70 Tf O O (by omega))$ qV (Pr Rr O O (Qo (hR.ext hE.ext) (show(l.map u64v)[i]? =some (u64v v) by rw[List.getElem?_map,hv];rfl))) ?_;refine PU O$ It$ R5 (λw'=>Kp F1' w7 w') O$ OZ 0 O O (hg.kp)$ OZ 1 O O (hg.kp)$ OI 2 O (Pp Tp O) (hg.kp)$ qT 3 O (λ_ h=>OO U3 O O (h.OC xQ xP) O) (hg.kp)$ OI 7 O (Pp Tp O) (hg.kp)$ qT 8 O (λ_ h=>OO U3 O O (h.OC xQ xP) O) (hg.kp)$ OI 4 O (QP f.width (2^f.width) O O (by omega) O) (hg.kp) ?_;rw[show 1*2^f.width%18446744073709551616=2^f.width by rw[Nat.one_mul];exact Nat.mod_eq_of_lt (by omega)];refine OI 5 O (VZ (m:=2^f.width) (n:=1) O O O (by show 2^f.width<2^64;omega) (by omega)) (hg.kp) ?_;refine OI 6 O (Tk O O (by omega) (by omega)) (hg.kp) ?_;rw[Nat.and_two_pow_sub_one_eq_mod];refine SK 9 O WI O (Sm DP (v%2^f.width) f.width (by omega) (Nat.mod_lt _ po) (by rw[UL];omega)) ?_;rintro _ w8 ⟨rfl,fU⟩;refine⟨hg.kp.trans fU.choose_spec.2.1,?_⟩;have Bk:=dX _ _ fU;rw[<-z9T,<-PQ hv] at Bk;have tL:OR w8 b5 [I (f.n:Int),u64v f.u,I (f.width:Int),I (f.bits:Int)] 234:=Bk.OC;obtain⟨F2',pY,ev⟩:=Bk.zdO;refine qE$ Pf O$ OX Tp O$ qV (OO U3 O O tL O)$ qV (Sc f.width (2^f.width) O O (by show f.width<=64;omega) O) ?_;have dS:=z7v f.width (l.take i) v;rw[<-PQ hv,pI] at dS
    generalize v / 2^f.width=vq at dA df If dS
    generalize z / 2^f.width=zq at If nH
    refine qV (PJ O Rr U3 (by omega))$ OK O$ PV O ?_;rw[show(vq:Int)+(i:Int)=((vq+i:Nat):Int) by omega];refine OU O$ It$ Qm O$ P4 z2U O (Vs pY) ?_;rintro _ w8 ⟨rfl,rfl⟩;refine Ro O ?_
    generalize DQ:(hiB f.width 0 0 (l.take i)).length=HL at dA df
    rw[show((vq+i:Nat):Int)-(HL:Int)=((vq+i-(HL+0):Nat):Int) by omega];refine OU O$ OH$ Rq (α:=Nat) (0) (λy=>[(4,u64v (z+1)),(5,ptr b5 0),(6,ptr p1 0),(7,ptr p2 0),(8,ptr p3 0),(9,I (i:Int)),(11,I ((vq+i:Nat):Int)),(12,I ((vq+i-(HL+y):Nat):Int)),(39,.slice (some ⟨gb,go,none⟩) l.length c),(40,I (l.length:Int)),(41,I (i:Int))]) (λy w'=>EfW w w' b5 f p1 p2 p3 (SD f.width (l.take (i+1))) (hiB f.width 0 0 (l.take i)++List.replicate y false) (Sg f.width (l.take i))/\HL+y<=vq+i) (λy=>vq+i-(HL+y)) ?hI ?hround
    case hI=>exact⟨by simpa using Bk,dA⟩
    case hround=>
     rintro y w9 ⟨KU,hy⟩ ih2
     try dsimp only
     obtain⟨F2',pY,ev⟩:=KU.zdO;refine PG O$ Qu O$ OD$ OQ O (λh2=>?_)$ λh2=>?_
     ·obtain⟨m,mj,dF,lw,tM⟩:∃m,min (vq+i-(HL+y)) 64=m/\1<=m/\m<=64/\HL+y+m<=vq+i:=⟨_,rfl,by omega,by omega,by omega⟩;refine OE$ Qx$ OL O$ P8 O$ qV (ymi O O) ?_;rw[show min ((vq+i-(HL+y):Nat):Int) 64=(m:Int) by omega];refine P4 WI O (Sm pY 0 m lw (Nat.two_pow_pos _) (by rw[List.length_append,List.length_replicate,DQ];omega)) ?_;rintro _ w10 ⟨rfl,nI⟩;have kB:=ev _ _ nI;rw[VQ,List.append_assoc,List.replicate_append_replicate] at kB;obtain⟨F2'',xR,-⟩:=kB.zdO;refine OD$ OA$ OL O$ P8 O$ P4 z2U O (Vs xR) ?_;rintro _ w10 ⟨rfl,rfl⟩;rw[show(hiB f.width 0 0 (l.take i)++List.replicate (y+m) false).length=HL+(y+m) by rw[List.length_append,List.length_replicate,DQ]];refine Ro O ?_;rw[show((vq+i:Nat):Int)-((HL+(y+m):Nat):Int)=((vq+i-(HL+(y+m)):Nat):Int) by omega];refine OU O ?_;exact(ih2 (y+m) _ ⟨kB,by omega⟩ (by omega)).qb
     ·have KV:y=vq+i-HL:=by omega
      subst KV;refine ON O$ Pf O$ P4 WI O (Sm pY 1 1 (by decide) (by decide) (by rw[List.length_append,List.length_replicate,DQ];omega)) ?_;rintro _ w10 ⟨rfl,nI⟩;have kB:=ev _ _ nI;rw[show Pc 1 1=[true] from rfl,List.append_assoc,<-df] at kB;refine qM O$ OK O$ qV (yre O O (by omega))$ Ri O$ OD$ OQ O (λh3=>?_)$ λh3=>?_
      ·have ko:i=0:=by omega
       obtain⟨F3',DR,pQ⟩:=kB.zia;refine OL O$ P8 O$ qV ((PZ O U3 Rr (by omega)))$ P4 WI O (Sm DR (vq+i) 32 (by decide) (by show _<2^32;omega) (by rw[ko];show 0+32<=_;omega)) ?_;rintro _ w11 ⟨rfl,DS⟩;have mm:=pQ _ _ DS;refine OD$ OA$ OL O$ PV O$ OK O$ OD ((ih (i+1) _ ⟨?_,dC⟩ (by omega)).qb);rw[dS,if_pos ko];rw[show vq+i=vq by omega] at mm;exact mm
      ·refine OE$ OA$ OL O$ PV O$ OK O$ OD ((ih (i+1) _ ⟨?_,dC⟩ (by omega)).qb);rw[dS,if_neg (by omega),List.append_nil];exact kB
   ·have bQ:i=l.length:=by omega
    subst bQ;rw[List.take_length] at hE;refine ON O$ qN O$ P4 z1e O (UF w7) ?_;rintro _ w8 ⟨p4,F4,rfl,m9,dy,Ig⟩;have tL:OR w8 b5 [I (f.n:Int),u64v f.u,I (f.width:Int),I (f.bits:Int)] 234:=(hE.on dy).OC;refine Qt O$ OX Yx O$ qV (OO U3 O O tL O)$ qV ((PZ O U3 Rr (by omega)))$ P4 WI O (Sm m9 f.n 32 (by decide) (by show _<2^32;omega) (by simp)) ?_;rintro _ w9 ⟨rfl,F5,rD,aM,vM⟩;have iJ:Ext w7 w9:=dy.An aM Ig;have z79:=iJ.size;refine qM O$ P8 O$ P4 WI O (Sm rD (z+1) 64 (by decide) (by show _<2^64;omega) (by simp)) ?_;rintro _ w10 ⟨rfl,F6,iq,ar,NT⟩
    have rE:Ext w7 w10:=iJ.An ar (λk hk=>by
     rcases vM k hk with e| e
     ·exact Ig k e
     ·have:=dy.size;omega)
    rw[List.nil_append,<-Bj] at iq;refine qM O$ OU O$ It$ Qm O$ P8 O$ OM O O (Wj (cs:=[_,_,_,_]) (zs:=[Value.pointer none,Value.pointer none,Value.pointer none,Value.pointer none]) zfX z7T O (by kernel_rfl) O O O (by decide)) ?_;rintro _ w11 ⟨b100,rfl,⟨Ih,aS,Ii⟩,xS⟩;have mm:=hE.on (rE.trans aS);obtain⟨tx,iY⟩:∃tx:List OG,tx=[Ph (Pc 32 f.n++Pc 64 f.u),Ph (SD f.width l),Ph (hiB f.width 0 0 l),Ph (Sg f.width l)]:=⟨_,rfl⟩
    have kQ:∀j,(List.take j (List.map List.length tx)).sum<=4000:=λj=>by
     have h1:∀x∈List.take j (List.map List.length tx),x<=1000:=λx hx=>by
      have ae:=List.mem_of_mem_take hx;rw[iY] at ae;have fS:(SD f.width l).length<=64*30:=by rw[UL];exact Nat.mul_le_mul hn (by omega)
      have oT:=z1E f.width mh hz;have fR:=z9e f.width l;simp only[List.map_cons,List.map_nil,PD,List.length_append,bitsN_length] at ae;simp only[List.mem_cons,List.not_mem_nil,or_false] at ae
      generalize z / 2^f.width=zq at nH oT
      omega
     have h2:=zcj h1;have h3:(List.take j (List.map List.length tx)).length<=4:=by rw[List.length_take,List.length_map,iY];simp;omega
     omega
    have fL:∀(j:Nat) (x:OG),tx[j]? =some x->x.length<=4000:=λj x hx=>by
     have h1:=kQ (j+1);rw[PQ (q:=x.length) (by rw[List.getElem?_map,hx];rfl),List.sum_append] at h1;simp at h1;omega
    have hq:∀j,j<4->∃q bs F,([ptr p4 0,ptr p1 0,ptr p2 0,ptr p3 0]:List Value)[j]? =some (ptr q 0)/\tx[j]? =some (Ph bs)/\Z2 w11 q bs F:=λj hj=>by
     obtain⟨F1,h1,-,-⟩:=mm.zd9;obtain⟨F2,h2,-⟩:=mm.zdO;obtain⟨F3,h3,-⟩:=mm.zia;rw[iY];have DT:j=0\/j=1\/j=2\/j=3:=by omega
     rcases DT with e|e|e|e<;>subst e
     ·exact⟨p4,_,_,rfl,rfl,iq.ext aS⟩
     ·exact⟨p1,_,_,rfl,rfl,h1⟩
     ·exact⟨p2,_,_,rfl,rfl,h2⟩
     ·exact⟨p3,_,_,rfl,rfl,h3⟩
    refine Rv zfX O$ OK O$ OD$ Pn.qb (e:=[(14,_),(100,_),(101,_),(102,_)]) ?_;refine OH$ Rq (α:=Nat) (0) (λj=>[(14,S ((tx.take j).flatten)),(100,.slice (some ⟨b100,0,none⟩) 4 4),(101,I 4),(102,I (j:Int))]) (λj w'=>w'=w11/\j<=4) (λj=>4-j) ?hI ?hround
    case hI=>exact⟨rfl,Nat.zero_le _⟩
    case hround=>
     rintro j w12 ⟨rfl,hj⟩ ih2
     try dsimp only
     refine qN O$ Qq O$ OD$ It$ OQ O (λh2=>?_)$ λh2=>?_
     ·obtain⟨q,bs,F,g1,g2,g3⟩:=hq j (by omega);have NU:=kQ j;have NV:=fL j _ g2;refine OE$ Qx$ qN O$ qV (PX zfX z7T O O (by omega))$ qV (Pr z3Y O O (Qo xS.rd g1))$ Qt O$ P4 z81 O (Xf g3) ?_;rintro _ w12 ⟨rfl,rfl⟩;refine OK O$ zex O$ qV (Rw (v:=I 0) O O)$ PU O$ PG O$ Qf O$ PW O$ OL O$ P8 O$ qV (V7 O O (by first|omega|(simp;done)|(simp;omega))) ?_;refine OU O$ OA$ OL O$ PV O$ OK O$ OD ?_;rw[show(tx.take j).flatten++Ph bs=(tx.take (j+1)).flatten by rw[PQ g2,List.flatten_append];simp];exact(ih2 (j+1) _ ⟨rfl,by omega⟩ (by omega)).qb
     ·have DT:j=4:=by omega
      subst DT;refine ON O$ Pf O$ PU O$ OB func99 O (⟨_,rfl,?_,(hE.ext.trans rE).trans aS⟩);rw[iY];simp[Qc,YQ]
 ·omega
end Go.Proofs.YtgdkbagngobdlaaGreatDoor
