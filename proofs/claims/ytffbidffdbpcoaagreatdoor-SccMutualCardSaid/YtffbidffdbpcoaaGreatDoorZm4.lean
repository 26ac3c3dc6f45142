/- Merged by program. -/
import Derived.Test.YtffbidffdbpcoaaGreatDoorZm3
set_option linter.all false
set_option maxRecDepth 1000000
set_option maxHeartbeats 16000000
namespace Go.Proofs.YtffbidffdbpcoaaGreatDoor
open Go Go.RowKit Go.Proofs.Tryz
def Yq {w:World}(p:S1)(hp:p.Qq)(x:Nat)(hx:x<65536){sa ra:Option Addr}{sc rc:Nat}(succ ref:List Nat)(hs:PB succ)(hr:PB ref)(r:Nat)(jt:r<=p.Pb)(mq:r=0->ref=[])
  (hG:OP w 1 (Sg .gamma) 294) (hU:OP w 2 (Sg .unary) 294) (eF:Rd w (.slice sa succ.length sc) 1 succ.length (succ.map Px)) (o4:Rd w (.slice ra ref.length rc) 1 ref.length (ref.map Px)) (ge:succ.length<=sc) (o5:ref.length<=rc):
  Pm prog 183 [lpV p,I (x:Int),.slice sa succ.length sc,.slice ra ref.length rc,I (r:Int)] w λu w'=>Sl w' u 296 3 (Rq p x succ ref r).length ((Rq p x succ ref r).flatMap z69)/\(∀g,u.ownBlock=some g->w.heap.size<=g)/\Ext w w':=by
 obtain⟨g1,g2,g3,g4⟩:=id hp
 have fU:=hs.len
 have im:=hr.len
 refine py (e:=[(0,_),(1,_),(2,_),(3,_),(4,_)]) func183 O ntmps183 O O$ qN O$ OJ O O (R4 O (cs:=lpC p) O) ?_
 rintro _ w1 ⟨b5,rfl,gR,ad,aH⟩
 have z1:=ad.size
 have l5:=aH.lt
 refine QS O$ qV (Pp (news:=[.int .u8 1,OY 0]) Ss O QI O ((ad.OA hG).cells (n:=2) O) O)$ ON O$ Rs Pu O$ qV ((Q7 O U3 Rt (by omega)))$ qV (Sa (cs:=[_,_,_]) Vv O zdR O O)$ OJ O O (XZ (cs:=[_,_,_]) (zs:=[Value.int .u8 0,Value.int .u64 0,Value.int .u64 0]) z1L Vv O (by kernel_rfl) O O O (by decide)) ?_
 rintro _ w2 ⟨b2,rfl,⟨bN,ae,ak⟩,cL⟩
 have z2:=ae.size
 have l2:=ak.lt
 refine OJ O O (Ry (cs:=[_]) zbL O) ?_
 rintro _ w3 ⟨n11,rfl,jo,ah,bc⟩
 have z3:=ah.size
 refine OT O (QG zbL O O O bc (by simp)) ?_
 rintro w4 ⟨lN,au⟩
 have z4:=au.size
 replace lN:OP w4 n11 [.slice (some ⟨b2,0,none⟩) 1 1] 291:=lN
 have eg:=(cL.ext ah).kp au (λg hg e=>by have h1:b2=g:=Rx hg;omega)
 have wv:NuI w w1 p b5 n11 [(.gamma,succ.length)] w4:=⟨⟨fpW n11 (.slice (some ⟨b2,0,none⟩) 1 1),⟨_,⟨lN,eg,λe=>by have h1:b2=n11:=Rx e;omega⟩,λ_=>Iff.rfl⟩,λk hk=>by
   rcases hk with e| e
   ·omega
   ·have h1:b2=k:=Rx e
    omega⟩,((ad.trans ae).trans ah).It au (λk e=>by omega),au.OA (ah.OA (ae.OA aH)) (by omega),by omega⟩
 refine OC$ PK O$ Rs Pu O$ Rg O$ OC$ OQ O (λe0=>?_)$ λe0=>?_
 ·have fm:succ=[]:=List.eq_nil_of_length_eq_zero (by omega);subst fm;refine qN O$ qV (OM z1L O O lN O)$ OV O$ OB func183 O ?_;have iG:Rq p x [] ref r=[(.gamma,0)]:=by simp[Rq]
  rw[iG];exact⟨_,rfl,eg,λg hg=>by have h1:b2=g:=Rx hg;omega,wv.ext⟩
 ·have i6 := wv.b5; replace i6 : OP w4 b5 [I (p.Pb : Int), I (p.interval : Int), I (p.zeta : Int)] 260 := i6; refine OD (qN O (qV (ymf (first := []) (caps := [.tmp 11]) O O) (OV O (An (qN O (OW To O (qV (OM U3 O O i6 O) (QB O (OC (PD (λe' w' => e' = [(1, I (x : Int)), (2, .slice sa succ.length sc), (3, .slice ra ref.length rc), (4, I (r : Int)), (5, ptr b5 0), (11, ptr n11 0), (12, .func (.func 204) #[] #[ptr n11 0])] /\ NuI w w1 p b5 n11 ([(.gamma, succ.length)] ++ (if 0 < p.Pb then [(.unary, r)] else [])) w') ?bE (λbE => ?cM)))))))))))
  case bE =>
   rintro e' w5 ⟨rfl,ub⟩;have CX:=ub.siz;refine qN O$ OJ O O (XZ (cs:=[_]) (zs:=[Value.int .i64 0]) R0 PV O (by kernel_rfl) O O O (by decide)) ?_;rintro _ w6 ⟨b43,rfl,⟨CZ,aR,en⟩,o6⟩;have l6:=en.lt;refine OJ O O (Ry (cs:=[_]) z14 O) ?_;rintro _ w7 ⟨rn,rfl,Kb,co,xF⟩;have l7:=xF.lt;have z7:=co.size;refine OJ O O (Ry (cs:=[_]) Tz O) ?_;rintro _ w8 ⟨lf,rfl,Kd,cT,xG⟩;have l8:=xG.lt;have z8:=cT.size;refine OT O (QG z14 O O O (cT.OA xF) (by simp)) ?_;rintro w9 ⟨o7,aw⟩;have z9:=aw.size;replace o7:OP w9 rn [.slice (some ⟨b43,0,none⟩) 1 1] 37:=o7;refine OT O (QG Tz O O O (aw.OA xG (by omega)) (by simp)) ?_;rintro w10 ⟨kI,aC⟩;have z10:=aC.size;replace kI:OP w10 lf [.slice none 0 0] 62:=kI;have gB:Ext w5 w10:=(((aR.trans co).trans cT).It aw (λk e=>by omega)).It aC (λk e=>by omega)
   have qu:NuI w w1 p b5 n11 ([(.gamma,succ.length)]++(if 0<p.Pb then [(.unary,r)] else [])) w10:=by
    obtain⟨⟨F,h1,h2⟩,h3,h4,h5⟩:=ub;exact⟨⟨F,h1.ext gB,h2⟩,h3.trans gB,gB.OA h4,by have:=gB.size;omega⟩
   have bZ:=(((o6.ext co).ext cT).kp aw (λg hg e=>by have h1:b43=g:=Rx hg;omega)).kp aC (λg hg e=>by have h1:b43=g:=Rx hg;omega);have Ke:z3t w10 lf [] (fpW lf (.slice none 0 0)):=⟨_,⟨kI,Sl.nil _ _ _,λe=>by cases e⟩,λ_=>Iff.rfl⟩;have Kf:z1Y w10 rn [0] (fpW rn (.slice (some ⟨b43,0,none⟩) 1 1)):=⟨_,⟨aC.OA o7 (by omega),bZ,λe=>by have h1:b43=rn:=Rx e;omega⟩,λ_=>Iff.rfl⟩
   have iH:∀k,fpW lf (.slice none 0 0) k->k=lf:=λk hk=>by
    rcases hk with e| e
    ·exact e
    ·cases e
   have jU:∀k,fpW rn (.slice (some ⟨b43,0,none⟩) 1 1) k->k=rn\/k=b43:=λk hk=>by
    rcases hk with e| e
    ·exact .inl e
    ·exact .inr (Rx e).symm
   have cB:∀k,fpW lf (.slice none 0 0) k\/fpW rn (.slice (some ⟨b43,0,none⟩) 1 1) k->w5.heap.size<=k:=λk hk=>by
    rcases hk with e| e
    ·have:=iH k e;omega
    ·rcases jU k e with e|e<;>omega
   have hE:TZ w10 succ ref lf rn (fpW lf (.slice none 0 0)) (fpW rn (.slice (some ⟨b43,0,none⟩) 1 1)) succ sa sc ref ra rc [] [0] w10:=by
    refine⟨⟨_,_,[],Ke,Kf,Tw.zero,by simpa using im,by simp;omega,λk h=> .inl h,λk h=> .inl h,λk h1 h2=>?_⟩,λw2 k=>?_,λw2 k=>?_,ge,o5,Kp.refl _ _,hs,hr,rfl,rfl,by simpa using fU⟩
    ·have e1:=iH k h1;rcases jU k h2 with e2|e2<;>omega
    ·exact(eF.ext qu.ext).kpz k (λh0 g hg hS=>by have e1:=eF.ltz (by decide) h0 hg;have e2:=cB g hS;omega)
    ·exact(o4.ext qu.ext).kpz k (λh0 g hg hS=>by have e1:=o4.ltz (by decide) h0 hg;have e2:=cB g hS;omega)
   refine qM O$ Pa O$ qV (ymf (first:=[]) (caps:=[.tmp 14,.tmp 13]) O O)$ P5 zhO O (zbA hE) ?_;rintro _ w11 ⟨rfl,FL,FR,xH,qv,D2,D3,nP,bz⟩
   have qw:NuI w w1 p b5 n11 ([(.gamma,succ.length)]++(if 0<p.Pb then [(.unary,r)] else [])) w11:=by
    have aV:Kp (λk=>fpW lf (.slice none 0 0) k\/fpW rn (.slice (some ⟨b43,0,none⟩) 1 1) k) w10 w11:=bz;have D4:=ub.ex;obtain⟨⟨F,h1,h2⟩,h3,h4,h5⟩:=qu;obtain⟨F5,h6,h7⟩:=D4;have gR:b5<w5.heap.size:=ub.b5.lt;refine⟨⟨F5,(h6.ext gB).kp aV (λk hk hS=>by have e1:=h6.lt hk;have e2:=cB k hS;omega),h7⟩,h3.It aV (λk hk=>by have e2:=cB k hk;have:=ub.ext.size;omega),aV.OA h4 (λhS=>by have e2:=cB b5 hS;omega),by have:=aV.size;omega⟩
   generalize hA:([(Cd.gamma,succ.length)]++(if 0<p.Pb then [(Cd.unary,r)] else []):List (Cd×Nat))=A at qw qu ub
   have Kg:A.length<=2:=by rw[<-hA];split<;>simp
   have xI:∀k,(FL k\/FR k)->k<w11.heap.size:=λk hk=>by
    rcases hk with e| e
    ·exact xH.lt e
    ·exact qv.lt e
   have qx:NuX w w1 w11 p b5 n11 (λk=>FL k\/FR k) A w11:=by
    obtain⟨F5,h6,h7⟩:=ub.ex;have NE:=gB.size;refine⟨⟨F5,(h6.ext gB).kp bz (λk hk hS=>by have e1:=h6.lt hk;have e2:=cB k hS;omega),h7,λk hk hX=>?_⟩,qw.ext,qw.b5,qw.siz,Kp.refl _ _⟩;have e1:=h6.lt hk;rcases hX with e| e
    ·rcases D2 k e with e2|e2
     ·have:=cB k (.inl e2);omega
     ·omega
    ·rcases D3 k e with e2|e2
     ·have:=cB k (.inr e2);omega
     ·omega
   refine OC$ PK O$ QB O$ OC$ PD (λe' w'=>e'=[(1,I (x:Int)),(5,ptr b5 0),(11,ptr n11 0),(12,.func (.func 204) #[] #[ptr n11 0]),(14,ptr lf 0)]/\NuX w w1 w11 p b5 n11 (λk=>FL k\/FR k) (A++(if 0<r then(.gamma,(R7 succ ref).length-1)::Qj 0 (R7 succ ref).dropLast else [])) w') ?aY$ λaY=>?gl
   case aY =>
    rintro e' w12 ⟨rfl,ju⟩;have jd:succ≠[]:=λe=>e0 (by rw[e];rfl)
    generalize hB:(if 0<r then(Cd.gamma,(R7 succ ref).length-1)::Qj 0 (R7 succ ref).dropLast else []:List (Cd×Nat))=B at ju
    have xJ:=xH.kp ju.kx (λk hk e=>e (.inl hk));obtain⟨vl,Bl,NF⟩:=xJ;obtain⟨la,lc,rfl,-⟩:=Bl.sl.rd.shape;obtain⟨F,⟨vn,sj,xK⟩,qy,D5⟩:=id ju.ex;have I7:=Bl.OA;have D6:=sj.OA;refine An$ qN O$ qV ((OM Pu O O I7 O))$ Rs Pu O$ Rg O$ OC$ OQ O (λe3=>?_)$ λe3=>?_
    ·have io:Pk succ ref=[]:=List.eq_nil_of_length_eq_zero (by omega)
     have jv:Rq p x succ ref r=A++B:=by
      unfold Rq;rw[if_neg jd,if_pos io,List.append_nil,<-hA,<-hB];rfl
     refine qN O$ qV ((OM z1L O O D6 O))$ OV O$ OB func183 O ?_;rw[jv];exact⟨_,rfl,sj.sl,λg hg=>by have:=qy g ((xK g).2 (.inr hg));omega,ju.ext⟩
    ·have sk := ju.b5; replace sk : OP w12 b5 [I (p.Pb : Int), I (p.interval : Int), I (p.zeta : Int)] 260 := sk; refine OD (qN O (qV ((OM Pu O O I7 O)) (OW Ue O (qV ((OM U3 O O sk O)) ?_)))); have ax : PB (Pk succ ref) := hs.sub List.filter_sublist; have Kh := ax.len
     have pM:(Pk succ ref).length<=lc:=by
      rcases Bl.sl.shape with⟨-,h0⟩|⟨g,c1,hv,fx⟩
      ·omega
      ·cases hv;exact fx
     refine P5 zj3 O (zbM la lc (Pk succ ref) p.interval ax pM (by omega) w12 Bl.sl.rd) ?_;rintro _ w13 ⟨v4,v5,rfl,mx,o8,aZ,o9,qz,I8⟩;have dR:=UB p.interval (Pk succ ref);have qA:PB (PO p.interval (Pk succ ref)).2:=ax.sub dR
     have fT:∀k,(v4.ownBlock=some k\/v5.ownBlock=some k)->w12.heap.size<=k/\k<w13.heap.size:=λk hk=>by
      rcases hk with e| e
      ·exact⟨o9 k e,mx.lt e⟩
      ·exact⟨qz k e,o8.lt e⟩
     have qB:NuX w w1 w13 p b5 n11 (λk=>v4.ownBlock=some k\/v5.ownBlock=some k) (A++B) w13:=by
      have ko:∀k,F k->k<w12.heap.size:=λk hk=>by
       rcases (xK k).1 hk with e| e
       ·rw[e];exact sj.OA.lt
       ·exact sj.sl.lt e
      have xL:z4p w12 n11 (A++B) F:=⟨vn,sj,xK⟩;exact⟨⟨F,xL.ext aZ,qy,λk hk hX=>by have e1:=ko k hk;have e2:=(fT k hX).1;omega⟩,ju.ext.trans aZ,aZ.OA ju.b5,by have e1:=ju.siz;have e2:=aZ.size;omega,Kp.refl _ _⟩
     have xM:=aZ.OA sk;have Ki:=mx.oneV;have Kj:=o8.oneV;refine ON O$ SU O$ Qm O$ An$ qN O$ OW Ue O$ qV (OM U3 O O xM O)$ QB O$ OC ?_
     have Kk:(A++B).length<=200000:=by
      rw[List.length_append,<-hB];split
      ·rw[List.length_cons,T7,List.length_dropLast];have h1:=(T8 succ ref).z18;rw[List.length_map] at h1;omega
      ·simp;omega
     generalize hQ:PO p.interval (Pk succ ref)=Q at mx o8 qA dR
     have xN:Q.1.length<=65536:=by
      have h1:=TJ p.interval (Pk succ ref);have h2:=h1.length_eq;rw[hQ,List.length_append] at h2
      have h3:∀R:List (Nat×Nat),SY p.interval 0 R->R.length<=(QQ R).length:=by
       have h4:∀(R:List (Nat×Nat)) (lo:Nat),SY p.interval lo R->R.length<=(QQ R).length:=by
        intro R
        induction R with
        |nil=>intro lo h;exact Nat.le_refl _
        | cons q R ih =>
          intro lo h;have h5:=ih _ h.2.2.2;have h6:1<=q.2:=h.2.1;rw[show QQ (q::R)=(List.range q.2).map (q.1+·)++QQ R from rfl,List.length_append,List.length_map,List.length_range,List.length_cons];omega
       exact λR h=>h4 R 0 h
      have h5:=h3 _ (UX p.interval (Pk succ ref) 0 ax.ris (λy _=>Nat.zero_le _));rw[hQ] at h5;omega
     have qC:SY p.interval 0 Q.1:=by have h:=UX p.interval (Pk succ ref) 0 ax.ris (λy _=>Nat.zero_le _);rwa [hQ] at h
     have ud:∀q∈Q.1,1<=q.2->q.1+q.2<=65536:=λq hq h1=>zb1 (least:=p.interval) ax.lt (by rw[hQ];exact hq) h1
     have D7:∃fa fc,v4= .slice fa Q.1.length fc:=by
      obtain⟨fa,fc,e,-⟩:=mx.rd.shape;exact⟨fa,fc,e⟩
     obtain⟨fa,fc,rfl⟩:=D7;refine PD (λe' w'=>e'=[(1,I (x:Int)),(5,ptr b5 0),(11,ptr n11 0),(12,.func (.func 204) #[] #[ptr n11 0]),(17,.slice fa Q.1.length fc),(18,v5)]/\NuX w w1 w13 p b5 n11 (λk=>(Value.slice fa Q.1.length fc).ownBlock=some k\/v5.ownBlock=some k) (A++B++if 0<p.interval then [(.gamma,Q.1.length)] else []) w') ?aq$ λaq=>?ey
     case aq =>
      rintro e' w14 ⟨rfl,xO⟩;refine Qx O$ PK O$ Rs zaK O$ ON O$ OC$ OE ?_
      generalize D8:(if 0<p.interval then [(Cd.gamma,Q.1.length)] else []:List (Cd×Nat))=C0 at xO
      refine Sf (λe' w'=>e'=[(1,I (x:Int)),(5,ptr b5 0),(11,ptr n11 0),(12,.func (.func 204) #[] #[ptr n11 0]),(18,v5)]/\NuX w w1 w13 p b5 n11 (λk=>(Value.slice fa Q.1.length fc).ownBlock=some k\/v5.ownBlock=some k) (A++B++C0++PF x p.interval none Q.1) w') ?dp$ λdp=>?o3
      case dp =>
       rintro e' w15 ⟨rfl,gC⟩;obtain⟨F15,gD,my,jw⟩:=gC.ex;have oa:=gC.b5;replace oa:OP w15 b5 [I (p.Pb:Int),I (p.interval:Int),I (p.zeta:Int)] 260:=oa;refine qN O$ OW z0F O$ qV (OM U3 O O oa O)$ qV ((Q7 O U3 Rt (by omega)))$ qV (Sa (cs:=[_,_]) QI O zeJ O O)$ OJ O O (Ry (cs:=[_,_]) QI O) ?_;rintro _ w16 ⟨b22,rfl,Kl,bB,iI⟩;have z16:=bB.size;refine OT O (PG (news:=[.int .u8 3,OY p.zeta]) QI O O O O iI (by simp)) ?_;rintro w17 ⟨lO,cP⟩;replace lO:OP w17 b22 [.int .u8 3,OY p.zeta] 294:=lO;have dq:Ext w15 w17:=bB.It cP (λk e=>by omega);have z17:=dq.size;have je:¬F15 b22:=λe=>by have:=gD.lt e;omega
       have iJ:=(o8.kp gC.kx (λg hg e=>e (.inr hg))).ext dq
       obtain⟨ha,hc,e5⟩:∃a c,v5= .slice a Q.2.length c:=by
        obtain⟨fa,fc,e,-⟩:=o8.rd.shape;exact⟨fa,fc,e⟩
       subst e5;have mz:=(gC.ex2 dq).again (X':=λk=>(Value.slice ha Q.2.length hc).ownBlock=some k\/k=b22) (gD.ext dq) my (λk hk hX=>by rcases hX with hX|e;exact jw k hk (.inr hX);exact je (e▸hk));have l22:=lO.lt
       have pN:∀k,((Value.slice ha Q.2.length hc).ownBlock=some k\/k=b22)->k<w17.heap.size:=λk hk=>by
        rcases hk with e| e
        ·have:=iJ.lt e;omega
        ·omega
       have pO:=qA.len
       have Km:(A++B++C0++PF x p.interval none Q.1).length<=400000:=by
        rw[List.length_append,List.length_append,Sm,<-D8];split<;>simp only[List.length_cons,List.length_nil]<;>omega
       refine OC$ PK O$ Rs Pu O$ ON O$ OC$ OE$ Rr (α:=Nat) (0) (λi=>[(1,I (x:Int)),(11,ptr n11 0),(12,.func (.func 204) #[] #[ptr n11 0]),(18,.slice ha Q.2.length hc),(22,ptr b22 0),(138,.slice ha Q.2.length hc),(139,I (Q.2.length:Int)),(140,I (i:Int))]) (λi w'=>NuX w w1 w17 p b5 n11 (λk=>(Value.slice ha Q.2.length hc).ownBlock=some k\/k=b22) (A++B++C0++PF x p.interval none Q.1++PI x p.zeta none (Q.2.take i)) w'/\i<=Q.2.length) (λi=>Q.2.length-i) ?hI ?hround
       case hI=>exact⟨by simpa[PI] using mz,Nat.zero_le _⟩
       case hround=>
        rintro i w18 ⟨fB,hi⟩ ih
        try dsimp only
        refine qN O$ Qw O$ OC$ An$ OQ O (λe5=>?_)$ λe5=>?_
        ·have dT:i<Q.2.length:=by omega
         obtain⟨v,hv⟩:∃v,Q.2[i]? =some v:=⟨_,List.getElem?_eq_getElem dT⟩;have xP:v<65536:=qA.lt v (List.mem_of_getElem? hv);have xQ:=iJ.kp fB.kx (λg hg e=>e (.inl hg))
         obtain⟨g5,c5,e6⟩:∃g c,Value.slice ha Q.2.length hc= .slice (some ⟨g,0,none⟩) Q.2.length c:=by
          rcases iJ.shape with⟨-,h0⟩|⟨g,c,e,hc⟩
          ·omega
          ·exact⟨g,c,e⟩
         cases e6;obtain⟨F18,lP,qD,iq⟩:=fB.ex;have xR:=fB.kx.OA lO (λe=>e (.inr O));have sn:¬F18 b22:=λe=>iq b22 e (.inr O);have hg:=Ext.P4 w18;have Bm:=fB.ex2 hg
         have qF:(A++B++C0++PF x p.interval none Q.1++PI x p.zeta none (Q.2.take i)).length<=500000:=by
          rw[List.length_append,Ti,List.length_take];omega
         refine OD$ QA$ Pn O$ qV (PR Pu P6 O O (by omega))$ qV (Ps QR O O (PU xQ.rd (show(Q.2.map Px)[i]? =some (Px v) by rw[List.getElem?_map,hv];rfl))) ?_;refine SA O$ QW O$ Rg O$ OC$ OQ O (λe6=>?_)$ λe6=>?_
         ·have g7:i=0:=by omega
          refine QV (λw'=>Kp F18 w18 w') O$ OZ 0 O O (hg.kp)$ OZ 2 O O (hg.kp)$ OG 3 O (PJ O QR U2 (by omega)) (hg.kp)$ OZ 4 O O (hg.kp)$ OG 5 O (Xw O O (by omega)) (hg.kp)$ qT 1 O (λ_ h=>Pp (news:=[.int .u8 3,OY p.zeta]) Ss O QI O ((h.OA xR sn).cells (n:=2) O) O) (hg.kp)$ RT 6 O zdZ O (z7X ((v:Int)-x) (by omega) _) ?_;rintro _ w19 ⟨rfl,rfl⟩;refine⟨hg.kp,?_⟩;have xS:=Za (z:=(v:Int)-x) (n:=65537) (by omega) (by omega);refine OG 7 O (PJ O Rt U3 (by omega)) (hg.kp)$ qO 8$ W3 (i:=8) O O O (RN Ym O O) (Te (lP.ext hg) (by omega) (.zeta p.zeta) (zig ((v:Int)-x)) (by omega)) ?_;rintro _ w20 ⟨rfl,F20,ue,ob,uf⟩;refine⟨hg.kp.trans ob,?_⟩;have qG:=Bm.put pN qD iq l5 z1 ⟨F20,ue,ob,uf⟩;refine qE$ Oz$ OK O$ PS O$ ON O$ OC ((ih (i+1) _ ⟨?_,by omega⟩ (by omega)).qb);rw[PC hv,XK,<-List.append_assoc,show Q.2.take i=[] by rw[g7];rfl];rw[show Q.2.take i=[] by rw[g7];rfl] at qG;exact qG
         ·have g7:0<i:=by omega
          obtain⟨u,hu⟩:∃u,Q.2[i-1]? =some u:=⟨_,List.getElem?_eq_getElem (by omega)⟩
          have D9:u<v:=by
           obtain⟨a1,a2⟩:=List.getElem?_eq_some_iff.1 hu;obtain⟨b1,b2⟩:=List.getElem?_eq_some_iff.1 hv;have:=List.pairwise_iff_getElem.1 qA.ris (i-1) i a1 b1 (by omega)
           rwa [a2,b2] at this
          refine QV (λw'=>Kp F18 w18 w') O$ OZ 0 O O (hg.kp)$ OZ 2 O O (hg.kp)$ OZ 3 O O (hg.kp)$ OZ 4 O O (hg.kp)$ qT 1 O (λ_ h=>Pp (news:=[.int .u8 3,OY p.zeta]) Ss O QI O ((h.OA xR sn).cells (n:=2) O) O) (hg.kp)$ OG 5 O (Xw O O (by omega)) (hg.kp) ?_;rw[show(i:Int)-1=((i-1:Nat):Int) by omega];refine OG 6 O (PR Pu P6 O O (by omega)) (hg.kp)$ qT 7 O (λ_ hS=>Ps QR O O (PU (xQ.kp hS (λg hg e=>iq g e (.inl hg))).rd (show(Q.2.map Px)[i-1]? =some (Px u) by rw[List.getElem?_map,hu];rfl))) (hg.kp) ?_;refine OG 8 O (Ww (m:=v) (n:=u) O O O (by show v<2^32;omega) (by omega)) (hg.kp) ?_;refine OG 9 O (Ww (m:=v-u) (n:=1) O O O (by show v-u<2^32;omega) (by omega)) (hg.kp) ?_;refine OG 10 O (PJ O QR U3 (by omega)) (hg.kp)$ qO 11$ W3 (i:=11) O O O (RN Ym O O) (Te (lP.ext hg) (by omega) (.zeta p.zeta) (v-u-1) (by omega)) ?_;rintro _ w20 ⟨rfl,F20,ue,ob,uf⟩;refine⟨hg.kp.trans ob,?_⟩;have qG:=Bm.put pN qD iq l5 z1 ⟨F20,ue,ob,uf⟩;refine qE$ Oz$ OK O$ PS O$ ON O$ OC ((ih (i+1) _ ⟨?_,by omega⟩ (by omega)).qb);rw[PC hv,XK,<-List.append_assoc,List.getLast?_take,if_neg (by omega),hu];exact qG
        ·have dl:i=Q.2.length:=by omega
         rw[dl,List.take_length] at fB;obtain⟨F,⟨vn,sj,xK⟩,qy,D5⟩:=id fB.ex;have D6:=sj.OA
         have jv:Rq p x succ ref r=A++B++C0++PF x p.interval none Q.1++PI x p.zeta none Q.2:=by
          have io:¬Pk succ ref=[]:=λe=>e3 (by rw[e];rfl);unfold Rq;rw[if_neg jd,if_neg io,hQ,hB,<-hA,<-D8];by_cases g7:0<p.interval
          ·simp only[if_pos g7,List.append_assoc,List.cons_append,List.nil_append]
          ·have dh:Q.1=[]:=by rw[<-hQ,show p.interval=0 by omega];exact XS _
           rw[dh];simp only[if_neg g7,List.append_assoc,List.cons_append,List.nil_append,PF]
         refine OO O$ qN O$ qV (OM z1L O O D6 O)$ OV O$ OB func183 O ?_;rw[jv];exact⟨_,rfl,sj.sl,λg hg=>by have:=qy g ((xK g).2 (.inr hg));omega,fB.ext⟩
      case o3=>
       refine Rr (α:=Nat) (0) (λi=>[(1,I (x:Int)),(5,ptr b5 0),(11,ptr n11 0),(12,.func (.func 204) #[] #[ptr n11 0]),(18,v5),(19,I (z6F (YP (Q.1.take i)))),(94,.slice fa Q.1.length fc),(95,I (Q.1.length:Int)),(96,I (i:Int))]) (λi w'=>NuX w w1 w13 p b5 n11 (λk=>(Value.slice fa Q.1.length fc).ownBlock=some k\/v5.ownBlock=some k) (A++B++C0++PF x p.interval none (Q.1.take i)) w'/\i<=Q.1.length) (λi=>Q.1.length-i) ?hI ?hround
       case hI=>exact⟨by simpa[PF] using xO,Nat.zero_le _⟩
       case hround =>
        rintro i w15 ⟨gC,hi⟩ ih
        try dsimp only
        refine qN O$ Qw O$ OC$ An$ OQ O (λe5=>?_)$ λe5=>?_
        ·have dT:i<Q.1.length:=by omega
         obtain⟨⟨q1,q2⟩,hq⟩:∃q,Q.1[i]? =some q:=⟨_,List.getElem?_eq_getElem dT⟩;obtain⟨ok1,ok2,ok3,-⟩:=Zv Q.1 0 i (q1,q2) qC hq;dsimp only at ok1 ok2 ok3;have NG:q1+q2<=65536:=ud (q1,q2) (List.mem_of_getElem? hq) ok1;have Da:=mx.kp gC.kx (λg hg e=>e (.inl hg))
         obtain⟨g4,c4,e4⟩:∃g c,Value.slice fa Q.1.length fc= .slice (some ⟨g,0,none⟩) Q.1.length c:=by
          rcases mx.shape with⟨-,h0⟩|⟨g,c,e,hc⟩
          ·omega
          ·exact⟨g,c,e⟩
         cases e4;obtain⟨F15,gD,my,jw⟩:=gC.ex;refine OD$ QA$ qN O$ qV (PR zaK z19 O O (by omega))$ qV (Pp (news:=[I (q1:Int),I (q2:Int)]) zl7 O z19 O (zau Da.rd hq) O)$ OJ O O (Ry (cs:=[_,_]) z19 O) ?_;rintro _ w16 ⟨b21,rfl,Kn,bB,Db⟩;have z16:=bB.size;refine OT O (PG (news:=[I (q1:Int),I (q2:Int)]) z19 O O O O Db (by simp)) ?_;rintro w17 ⟨gE,cP⟩;replace gE:OP w17 b21 [I (q1:Int),I (q2:Int)] 326:=gE;have dq:Ext w15 w17:=bB.It cP (λk e=>by omega);have mz:=gC.ex2 dq;have je:¬F15 b21:=λe=>by have:=gD.lt e;omega
         have pF:¬F15 1:=λe=>by have:=my 1 e;have:=hG.lt;omega
         have Km:(A++B++C0++PF x p.interval none (Q.1.take i)).length<=400000:=by
          rw[List.length_append,List.length_append,Sm,List.length_take,<-D8];split<;>simp only[List.length_cons,List.length_nil]<;>omega
         refine OC$ PK O$ Qw O$ OC ?_;have sq:=mz.again (X':=(λk=>((Value.slice (some ⟨g4,0,none⟩) Q.1.length fc).ownBlock=some k\/v5.ownBlock=some k)\/k=b21)) (gD.ext dq) my (λk hk hX=>by rcases hX with hX|e;exact jw k hk hX;exact je (e▸hk));have Ko:=dq.size;have l21:=gE.lt
         have pN:∀k,(((Value.slice (some ⟨g4,0,none⟩) Q.1.length fc).ownBlock=some k\/v5.ownBlock=some k)\/k=b21)->k<w17.heap.size:=λk hk=>by
          rcases hk with e| e
          ·have:=(fT k e).2;have:=gC.kx.size;omega
          ·omega
         refine PD (λe' w'=>e'=[(1,I (x:Int)),(5,ptr b5 0),(11,ptr n11 0),(12,.func (.func 204) #[] #[ptr n11 0]),(18,v5),(21,ptr b21 0),(94,.slice (some ⟨g4,0,none⟩) Q.1.length fc),(95,I (Q.1.length:Int)),(96,I (i:Int))]/\NuX w w1 w17 p b5 n11 (λk=>((Value.slice (some ⟨g4,0,none⟩) Q.1.length fc).ownBlock=some k\/v5.ownBlock=some k)\/k=b21) (A++B++C0++PF x p.interval none (Q.1.take i)++[(.gamma,UG x (YP (Q.1.take i)) q1)]) w') ?bQ$ λbQ=>?ug
         case bQ=>
          rintro e' w18 ⟨rfl,fB⟩;obtain⟨F18,lP,qD,iq⟩:=fB.ex;have xT:=fB.kx.OA gE (λe=>e (.inr O));have oc:=fB.b5;replace oc:OP w18 b5 [I (p.Pb:Int),I (p.interval:Int),I (p.zeta:Int)] 260:=oc;refine Pn O$ qV (Pp (news:=[.int .u8 1,OY 0]) Ss O QI O ((fB.ext.OA hG).cells (n:=2) O) O)$ OW z8c O$ qV ((OM U3 O O xT O))$ OW Ue O$ qV ((OM U3 O O oc O))$ Ro O ?_;rw[show(q2:Int)-(p.interval:Int)=((q2-p.interval:Nat):Int) by omega];refine Qp O O (RN Ym O O) (Te lP (by rw[List.length_append,List.length_singleton];omega) .gamma (q2-p.interval) (by omega)) ?_;rintro _ w19 ⟨rfl,Dc⟩;have xU:=fB.put pN qD iq l5 z1 Dc;have sr:=xU.kx.OA gE (λe=>e (.inr O));refine OC$ OK O$ OW z3G O$ qV (OM U3 O O sr O)$ OW z8c O$ qV (OM U3 O O sr O)$ PS O$ Ro O$ OV O$ Oz$ OK O$ PS O$ ON O$ OC ?_;rw[show(q1:Int)+q2-1=z6F (YP (Q.1.take (i+1))) by rw[PC hq,z9i];show _=((q1+q2-1:Nat):Int);omega];refine(ih (i+1) _ ⟨?_,by omega⟩ (by omega)).qb;rw[PC hq,z1W,<-List.append_assoc,show [(Cd.gamma,UG x (YP (Q.1.take i)) q1),(Cd.gamma,q2-p.interval)]=[(Cd.gamma,UG x (YP (Q.1.take i)) q1)]++[(Cd.gamma,q2-p.interval)] from rfl,<-List.append_assoc];exact mz.back xU (λk hk=> .inl hk)
         case ug=>
          have hg:=Ext.P4 w17;have Bm:=sq.ex2 hg
          cases hE:YP (Q.1.take i) with
          | none =>
            refine OQ O (λe6=>?_)$ λe6=>?_
            ·refine QV (λw'=>Kp F15 w17 w') O$ OZ 0 O O (hg.kp)$ OG 2 O (Pr z3G O) (hg.kp)$ qT 3 O (λ_ h=>OM U3 O O (h.OA gE je) O) (hg.kp)$ OZ 4 O O (hg.kp)$ OG 5 O (Xw O O (by omega)) (hg.kp)$ qT 1 O (λ_ hS=>Pp (news:=[.int .u8 1,OY 0]) Ss O QI O ((hS.OA (mz.ext.OA hG) pF).cells (n:=2) O) O) (hg.kp)$ RT 6 O zdZ O (z7X ((q1:Int)-x) (by omega) _) ?_;rintro _ w18 ⟨rfl,rfl⟩;refine⟨hg.kp,?_⟩;have xS:=Za (z:=(q1:Int)-x) (n:=65537) (by omega) (by omega);refine OG 7 O (PJ O Rt U3 (by omega)) (hg.kp)$ qO 8$ W3 (i:=8) O O O (RN Ym O O) (Te ((gD.ext dq).ext hg) (by omega) .gamma (zig ((q1:Int)-x)) (by omega)) ?_;rintro _ w19 ⟨rfl,F19,Dd,xV,De⟩;refine⟨hg.kp.trans xV,?_⟩;refine qE ?_;exact(bQ _ _ ⟨rfl,by rw[hE];exact Bm.put pN my (λk hk hX=>by rcases hX with hX|e;exact jw k hk hX;exact je (e▸hk)) l5 z1 ⟨F19,Dd,xV,De⟩⟩).qb
            ·exact absurd (by decide) e6
          | some z =>
            refine OQ O (λe6=>?_)$ λe6=>?_
            ·exact absurd e6 (by show ¬((z:Int)<0);omega)
            ·have hz:=ok3 z hE;refine R6 O$ qV (Pp (news:=[.int .u8 1,OY 0]) Ss O QI O ((mz.ext.OA hG).cells (n:=2) O) O) ?_;rw[show z6F (some z)=(z:Int) from rfl];refine OW z3G O$ qV (OM U3 O O gE O)$ ON O$ Ro O$ Ro O ?_;rw[show(q1:Int)-z-2=((q1-z-2:Nat):Int) by omega];refine Qp O O (RN Ym O O) (Te (gD.ext dq) (by omega) .gamma (q1-z-2) (by omega)) ?_;rintro _ w18 ⟨rfl,Df⟩;refine OC ?_;exact(bQ _ _ ⟨rfl,by rw[hE];exact sq.put pN my (λk hk hX=>by rcases hX with hX|e;exact jw k hk hX;exact je (e▸hk)) l5 z1 Df⟩).qb
        ·have dl:i=Q.1.length:=by omega
         rw[dl,List.take_length] at gC;refine OO O ?_;exact(dp _ _ ⟨rfl,gC⟩).qb
     case ey=>
      refine OQ O (λe4=>?_)$ λe4=>?_
      ·have g7:0<p.interval:=by omega
       obtain⟨F13,od,uh,oe⟩:=qB.ex;refine R6 O$ qV (Pp (news:=[.int .u8 1,OY 0]) Ss O QI O ((qB.ext.OA hG).cells (n:=2) O) O)$ ON O$ Rs zaK O$ Qp O O (RN Ym O O) (Te od (by omega) .gamma Q.1.length (by omega)) ?_;rintro _ w14 ⟨rfl,ui⟩;refine OC$ Po.qb (e:=[(1,_),(5,_),(11,_),(12,_),(17,_),(18,_)]) ?_;exact(aq _ _ ⟨rfl,by rw[if_pos g7];exact qB.put (λk hk=>(fT k hk).2) uh oe l5 z1 ui⟩).qb
      ·have g7:¬0<p.interval:=by omega
       refine OD ?_;exact(aq _ _ ⟨rfl,by rw[if_neg g7,List.append_nil];exact qB⟩).qb
   case gl =>
    refine OQ O (λe2=>?_)$ λe2=>?_
    ·have uj : 0 < r := by omega
     have qH:=T8 succ ref;rw[if_pos uj] at aY
     generalize R7 succ ref=rs at qH qv aY
     obtain⟨l,m,rfl⟩:∃l m,rs=l++[m]:=⟨rs.dropLast,rs.getLast qH.ne,(List.dropLast_concat_getLast qH.ne).symm⟩;have uk:(l++[m]).length=l.length+1:=by simp
     have eP:l.length<=65537:=by have h1:=qH.z18;rw[List.length_map,uk] at h1;omega
     rw[List.dropLast_concat,uk,Nat.add_sub_cancel] at aY;obtain⟨vr,Bn,I9⟩:=id qv;rw[uk] at Bn;rcases Bn.sl.shape with⟨-,h0⟩|⟨g,c1,rfl,fx⟩
     ·omega
     have Ia:=Bn.OA;obtain⟨F,xL,hf,Kq⟩:=qx.ex;refine Pn O$ qV (Pp (news:=[.int .u8 1,OY 0]) Ss O QI O ((qx.ext.OA hG).cells (n:=2) O) O)$ qV (OM R0 O O Ia O)$ Rs R0 O$ Ro O ?_;rw[show((l.length+1:Nat):Int)-1=(l.length:Int) by omega];refine Qp O O (RN Ym O O) (Te xL (by omega) .gamma l.length (by omega)) ?_;rintro _ w12 ⟨rfl,Dg⟩;have iK:=qx.put xI hf Kq l5 z1 Dg;have Ib:=qv.kp iK.kx (λk hk e=>e (.inr hk));have ss:=iK.kx.OA Ia (λe=>e (.inr ((I9 rn).2 (.inl O))));refine qM O$ qV (OM R0 O O ss O) ?_;rw[show((l.length+1:Nat):Int)=((l.length+1:Nat):Int) from rfl];refine qV (OM R0 O O ss O)$ Rs R0 O$ Ro O ?_;rw[show((l.length+1:Nat):Int)-1=(l.length:Int) by omega];refine qV (zcX R0 PV O O (by omega))$ Rs R0 O$ ON O$ OC$ Po.qb (e:=[(1,_),(5,_),(11,_),(12,_),(14,_),(60,_),(61,_),(62,_)]) ?_;refine OE$ Rr (α:=Nat) (0) (λi=>[(1,I (x:Int)),(5,ptr b5 0),(11,ptr n11 0),(12,.func (.func 204) #[] #[ptr n11 0]),(14,ptr lf 0),(60,.slice (some ⟨g,0,none⟩) l.length c1),(61,I (l.length:Int)),(62,I (i:Int))]) (λi w'=>NuX w w1 w11 p b5 n11 (λk=>FL k\/FR k) (A++(Cd.gamma,l.length)::Qj 0 (l.take i)) w'/\i<=l.length) (λi=>l.length-i) ?hI ?hround
     case hI=>exact⟨iK,Nat.zero_le _⟩
     case hround =>
      rintro i w13 ⟨mA,hi⟩ ih
      try dsimp only
      refine qN O$ Qw O$ OC$ An$ OQ O (λe3=>?_)$ λe3=>?_
      ·have dT:i<l.length:=by omega
       obtain⟨F13,od,uh,oe⟩:=mA.ex;have Dh:=Bn.sl.kp mA.kx (λg2 hg e=>e (.inr ((I9 g2).2 (.inr hg))));have iB:(l++[m])[i]? =some l[i]:=by rw[List.getElem?_append_left dT,List.getElem?_eq_getElem dT]
       have iC:min i 1<=l[i]:=by
        rcases Nat.eq_zero_or_pos i with e| e
        ·omega
        ·have h1:=qH.pos l[i] (by
          rw[List.mem_iff_getElem?];refine⟨i-1,?_⟩
          rw[List.getElem?_drop,show 1+(i-1)=i by omega];exact iB)
         omega
       have io:l[i]<=65536:=by
        have h1:=qH.le l[i] (List.mem_append_left _ (List.getElem_mem dT));rw[List.length_map] at h1;omega
       refine OD$ QA$ Pn O$ qV (PR R0 PV O O (by omega))$ qV (Ps U3 O O (PU Dh.rd (show((l++[m]).map z7c)[i]? =some (z7c l[i]) by rw[List.getElem?_map,iB];rfl))) ?_;refine Qm O$ R6 O$ qV (Pp (news:=[.int .u8 1,OY 0]) Ss O QI O ((mA.ext.OA hG).cells (n:=2) O) O)$ Pa O$ qV (ymi O O)$ Ro O ?_;rw[show(l[i]:Int)-min (i:Int) 1=((l[i]-min i 1:Nat):Int) by omega];refine Qp O O (RN Ym O O) (Te od (by have h1:(Qj 0 (l.take i)).length=i:=(by rw[T7,List.length_take];omega);rw[List.length_append,List.length_cons];omega) .gamma (l[i]-min i 1) (by omega)) ?_;rintro _ w14 ⟨rfl,ui⟩;have Di:=mA.put xI uh oe l5 z1 ui;refine OC$ Oz$ OK O$ PS O$ ON O$ OC ((ih (i+1) _ ⟨?_,by omega⟩ (by omega)).qb);rw[List.take_succ,List.getElem?_eq_getElem dT,Option.toList_some,YO,List.length_take,Nat.min_eq_left hi,Nat.zero_add,<-List.cons_append,<-List.append_assoc];exact Di
      ·have dl:i=l.length:=by omega
       subst dl;rw[List.take_length] at mA;refine OO O ?_;exact(aY _ _ ⟨rfl,mA⟩).qb
    ·have uj:¬0<r:=by omega
     refine OD ?_;exact(aY _ _ ⟨rfl,by rw[if_neg uj,List.append_nil];exact qx⟩).qb
  case cM=>
   refine OQ O (λe1=>?_)$ λe1=>?_
   ·have nV:0<p.Pb:=by omega
    obtain⟨F,xL,hf⟩:=wv.ex;refine R6 O$ qV (Pp (news:=[.int .u8 0,OY 0]) Ss O QI O ((wv.ext.OA hU).cells (n:=2) O) O)$ ON O$ Qp O O (RN Ym O O) (Te xL (by simp) .unary r (by omega)) ?_;rintro _ w5 ⟨rfl,ul⟩;refine OC$ Po.qb (e:=[(1,_),(2,_),(3,_),(4,_),(5,_),(10,_),(11,_),(12,_)]) ?_;exact(bE _ _ ⟨rfl,by rw[if_pos nV];exact wv.put hf l5 z1 ul⟩).qb
   ·have nV:¬0<p.Pb:=by omega
    refine OD ?_;exact(bE _ _ ⟨rfl,by rw[if_neg nV];exact wv⟩).qb
/-! ### The numbers can be encoded -/
def XB (k:Nat)(q:Cd×Nat):Prop:=(q.1= .unary/\q.2<=16)\/(q.1= .gamma/\q.2<=200000)\/(q.1= .zeta k/\q.2<=200000)
def z1e (k:Nat):∀(l:List Nat) (i:Nat),(∀n∈l,n<=65536)->∀q∈Qj i l,XB k q
 |[],i,h,q,hq=>by cases hq
 | n :: l, i, h, q, hq => by
   rw[Qj] at hq;rcases List.mem_cons.1 hq with e|hq
   ·subst e;have:=h n List.mem_cons_self;exact .inr (.inl ⟨rfl,by dsimp only;omega⟩)
   ·exact z1e k l (i+1) (λn hn=>h n (List.mem_cons_of_mem _ hn)) q hq
def ZK (k x least:Nat)(hx:x<65536):∀(R:List (Nat×Nat)) (e:Option Nat),(∀q∈R,q.1+q.2<=65536)->∀q∈PF x least e R,XB k q
 |[],e,h,q,hq=>by cases e<;>cases hq
 | p :: R, e, h, q, hq => by
   have hp:=h p List.mem_cons_self;rw[RI] at hq;rcases List.mem_cons.1 hq with e1|hq
   ·subst e1;refine .inr (.inl ⟨rfl,?_⟩)
    cases e with
    |none=>have:=Za (z:=(p.1:Int)-x) (n:=65537) (by omega) (by omega);show zig _<=_;omega
    |some z=>show p.1-z-2<=_;omega
   ·rcases List.mem_cons.1 hq with e1|hq
    ·subst e1;exact .inr (.inl ⟨rfl,by dsimp only;omega⟩)
    ·exact ZK k x least hx R _ (λq hq=>h q (List.mem_cons_of_mem _ hq)) q hq
def ZO (k x:Nat)(hx:x<65536):∀(l:List Nat) (e:Option Nat),(∀n∈l,n<65536)->∀q∈PI x k e l,XB k q
 |[],e,h,q,hq=>by cases e<;>cases hq
 | v :: l, e, h, q, hq => by
   have hv:=h v List.mem_cons_self;rw[SO] at hq;rcases List.mem_cons.1 hq with e1|hq
   ·subst e1;refine .inr (.inr ⟨rfl,?_⟩)
    cases e with
    |none=>have:=Za (z:=(v:Int)-x) (n:=65537) (by omega) (by omega);show zig _<=_;omega
    |some u=>show v-u-1<=_;omega
   ·exact ZO k x hx l _ (λn hn=>h n (List.mem_cons_of_mem _ hn)) q hq
def z4C {least:Nat}{l:List Nat}(h:PB l):(PO least l).1.length<=65536:=by
 have h1:=(TJ least l).length_eq
 rw[List.length_append] at h1
 have h4:∀(R:List (Nat×Nat)) (lo:Nat),SY least lo R->R.length<=(QQ R).length:=by
  intro R
  induction R with
  |nil=>intro lo h;exact Nat.le_refl _
  | cons q R ih =>
    intro lo h;have h5:=ih _ h.2.2.2;have h6:1<=q.2:=h.2.1;rw[show QQ (q::R)=(List.range q.2).map (q.1+·)++QQ R from rfl,List.length_append,List.length_map,List.length_range,List.length_cons];omega
 have h5:=h4 _ 0 (UX least l 0 h.ris (λy _=>Nat.zero_le _))
 have:=h.len
 omega
def z7U {least:Nat}{l:List Nat}(h:PB l):∀q∈(PO least l).1,1<=q.2/\q.1+q.2<=65536:=λq hq=>by
 obtain⟨i,hi⟩:=List.mem_iff_getElem?.1 hq
 have h1:=(Zv _ 0 i q (UX least l 0 h.ris (λy _=>Nat.zero_le _)) hi).1
 exact⟨h1,zb1 h.lt hq h1⟩
def z0w {p:S1}(hp:p.Qq){x:Nat}(hx:x<65536){succ ref:List Nat}(hs:PB succ)(hr:PB ref){r:Nat}(jt:r<=p.Pb):∀q∈Rq p x succ ref r,XB p.zeta q:=by
 obtain⟨g1,g2,g3,g4⟩:=id hp
 have ax:PB (Pk succ ref):=hs.sub List.filter_sublist
 intro q hq
 unfold Rq at hq
 have fU:=hs.len
 rcases List.mem_cons.1 hq with e|hq
 ·subst e;exact .inr (.inl ⟨rfl,by dsimp only;omega⟩)
 split at hq
 ·cases hq
 rcases List.mem_append.1 hq with hq|hq
 ·split at hq
  ·rcases List.mem_singleton.1 hq with e;subst e;exact .inl ⟨rfl,by dsimp only;omega⟩
  ·cases hq
 rcases List.mem_append.1 hq with hq|hq
 ·have qH:=T8 succ ref;have hl:=qH.z18;have im:=hr.len;rw[List.length_map] at hl;split at hq
  ·rcases List.mem_cons.1 hq with e|hq
   ·subst e;exact .inr (.inl ⟨rfl,by dsimp only;omega⟩)
   ·refine z1e _ _ _ (λn hn=>?_) q hq;have:=qH.le n (List.dropLast_subset _ hn);rw[List.length_map] at this;omega
  ·cases hq
 split at hq
 ·cases hq
 rcases List.mem_append.1 hq with hq|hq
 ·split at hq
  ·rcases List.mem_cons.1 hq with e|hq
   ·subst e;have:=z4C (least:=p.interval) ax;exact .inr (.inl ⟨rfl,by dsimp only;omega⟩)
   ·exact ZK _ _ _ hx _ _ (λq hq=>(z7U ax q hq).2) q hq
  ·cases hq
 ·exact ZO _ _ hx _ _ (λn hn=>ax.lt n ((UB p.interval _).subset hn)) q hq
def z6B (succ ref:List Nat)(hr:PB ref):(R7 succ ref).length<=65537:=by
 have hl:=(T8 succ ref).z18
 rw[List.length_map] at hl
 have:=hr.len
 omega
def z5D {p:S1}{x:Nat}{succ ref:List Nat}(hs:PB succ)(hr:PB ref){r:Nat}:(Rq p x succ ref r).length<=500000:=by
 have ax:PB (Pk succ ref):=hs.sub List.filter_sublist
 have h1:=z6B succ ref hr
 have h2:=z4C (least:=p.interval) ax
 have h3:=(ax.sub (UB p.interval (Pk succ ref))).len
 unfold Rq
 rw[List.length_cons]
 split
 ·simp
 rw[List.length_append,List.length_append]
 have e1:(if 0<p.Pb then [(Cd.unary,r)] else []).length<=1:=by split<;>simp
 have e2:(if 0<r then(Cd.gamma,(R7 succ ref).length-1)::Qj 0 (R7 succ ref).dropLast else []).length<=65537:=by
  split
  ·rw[List.length_cons,T7,List.length_dropLast];omega
  ·simp
 have e3:(if Pk succ ref=[] then [] else(if 0<p.interval then(Cd.gamma,(PO p.interval (Pk succ ref)).1.length)::PF x p.interval none (PO p.interval (Pk succ ref)).1 else [])++PI x p.zeta none (PO p.interval (Pk succ ref)).2).length<=200000:=by
  split
  ·simp
  ·rw[List.length_append,Ti];split
   ·rw[List.length_cons,Sm];omega
   ·simp;omega
 omega
def XB.Qq {k:Nat}{q:Cd×Nat}(h:XB k q)(hk:1<=k/\k<=16):q.1.Qq/\q.2<=q.1.most:=by
 rcases h with⟨e,h⟩|⟨e,h⟩|⟨e,h⟩
 ·rw[e];exact⟨trivial,by simp only[Cd.most];omega⟩
 ·rw[e];exact⟨trivial,by simp only[Cd.most];omega⟩
 ·rw[e];exact⟨hk,by simp only[Cd.most];omega⟩
def z3M {c:Cd}{v:Nat}(hc:c.Qq)(hv:v<=c.most):(c.enc v).length<=65600:=by
 obtain⟨q1,q2,-⟩:=X9 hc hv
 rw[Xc];omega
def zcq {L:List (Cd×Nat)}(h:∀q∈L,q.1.Qq/\q.2<=q.1.most):(P8 L).length<=65600*L.length:=by
 induction L with
 |nil=>simp[P8]
 | cons q L ih =>
   have h1:=ih (λq hq=>h q (List.mem_cons_of_mem _ hq));obtain⟨h2,h3⟩:=h q List.mem_cons_self;have h4:=z3M h2 h3;obtain⟨c,v⟩:=q;rw[Q5,List.length_append,List.length_cons];dsimp only at h4⊢;omega
theorem Sy (a b:List (Cd×Nat)):P8 (a++b)=P8 a++P8 b:=List.flatMap_append
theorem Y6 (l:List (Cd×Nat))(q:Cd×Nat):P8 (l++[q])=P8 l++q.1.enc q.2:=by
 rw[Sy];simp[P8]
/-! ### An element of a slice of structs -/
def z1i {α:Type}{f:α->List Value}{k:Nat}(hk:∀a,(f a).length=k){w:World}{b off n cap i:Nat}{R:List α}{q:α}(h:Rd w (.slice (some ⟨b,off,none⟩) n cap) k n (R.flatMap f))(hq:R[i]? =some q):∀j u,(f q)[j]? =some u->w.cell? ⟨b,off+i*k+j,none⟩=some u:=by
 intro j u hj
 have lJ:j<k:=by have:=(List.getElem?_eq_some_iff.1 hj).1;rwa [hk] at this
 have key:∀(R:List α) (i:Nat),R[i]? =some q->(R.flatMap f)[i*k+j]? =some u:=by
  intro R
  induction R with
  |nil=>intro i h;simp at h
  | cons a R ih =>
    intro i h;rw[List.flatMap_cons]
    cases i with
    | zero =>
      rw[List.getElem?_cons_zero] at h;cases h;rw[List.getElem?_append_left (by rw[hk];omega),Nat.zero_mul,Nat.zero_add]
      exact hj
    | succ i =>
      rw[List.getElem?_append_right (by rw[hk,Nat.add_mul];omega),hk,show(i+1)*k+j-k=i*k+j by rw[Nat.add_mul];omega];exact ih i h
 have lM:=key R i hq
 have aS:=(List.getElem?_eq_some_iff.1 lM).1
 rcases h.2 with⟨c,hc,h0⟩|⟨b',off',cap',e,hc⟩
 ·rw[h.1,h0,Nat.zero_mul] at aS;omega
 ·cases e;have:=hc (i*k+j) u lM;rw[show off+i*k+j=off+(i*k+j) by omega];exact this
def z52 (q:Cd×Nat):(z69 q).length=3:=by
 obtain⟨c,v⟩:=q
 cases c<;>rfl
def VA {w:World}(p:S1)(hp:p.Qq)(x:Nat)(hx:x<65536){sa ra:Option Addr}{sc rc:Nat}(succ ref:List Nat)(hs:PB succ)(hr:PB ref)(r:Nat)(jt:r<=p.Pb)(mq:r=0->ref=[])
  (hG:OP w 1 (Sg .gamma) 294) (hU:OP w 2 (Sg .unary) 294) (eF:Rd w (.slice sa succ.length sc) 1 succ.length (succ.map Px)) (o4:Rd w (.slice ra ref.length rc) 1 ref.length (ref.map Px)) (ge:succ.length<=sc) (o5:ref.length<=rc):
  Pm prog 148 [I (x:Int),.slice sa succ.length sc,.slice ra ref.length rc,I (r:Int),lpV p] w λu w'=>u= .tuple #[I ((P8 (Rq p x succ ref r)).length:Int),I 0]/\Ext w w':=by
 obtain⟨g1,g2,g3,g4⟩:=id hp
 have ax:=λq hq=>(z0w hp hx hs hr jt q hq).Qq ⟨g3,g4⟩
 have eP:=z5D (p:=p) (x:=x) (r:=r) hs hr
 refine py (e:=[(0,_),(1,_),(2,_),(3,_),(4,_)]) func148 O ntmps148 O O$ qN O$ OJ O O (R4 O (cs:=lpC p) O) ?_
 rintro _ w1 ⟨b9,rfl,jb,ad,cK⟩
 replace cK:OP w1 b9 [I (p.Pb:Int),I (p.interval:Int),I (p.zeta:Int)] 260:=cK
 refine Qm O$ An$ qN O$ qV (Pp (news:=lpC p) Zw O TY O (cK.cells (n:=3) O) O)$ Pa O$ Pa O$ P5 zh2 O (zap p hp x hx _ _ succ ref r hs hr jt mq w1 (eF.ext ad) (o4.ext ad)) ?_
 rintro _ w2 ⟨rfl,ae⟩
 refine qV ((RZ O))$ Qg O$ Qx O$ An$ qN O$ qV (Pp (news:=lpC p) Zw O TY O ((ae.OA cK).cells (n:=3) O) O) ?_
 have aJ:=ad.trans ae
 refine Pa O$ Pa O$ P5 zek O (Yq p hp x hx succ ref hs hr r jt mq (aJ.OA hG) (aJ.OA hU) (eF.ext aJ) (o4.ext aJ) ge o5) ?_
 rintro v w3 ⟨da,qI,ah⟩
 have aZ:=aJ.trans ah
 generalize Rq p x succ ref r=L at ax eP da
 obtain⟨va,vc,rfl,-⟩:=da.rd.shape
 refine Rs z1L O$ ON O$ OC$ OE$ Rr (α:=Nat) (0) (λi=>[(12,I ((P8 (L.take i)).length:Int)),(29,.slice va L.length vc),(30,I (L.length:Int)),(31,I (i:Int))]) (λi w'=>Ext w3 w'/\i<=L.length) (λi=>L.length-i) ?hI ?hround
 case hI=>exact⟨Ext.refl _,Nat.zero_le _⟩
 case hround=>
  rintro i w4 ⟨aA,hi⟩ ih
  try dsimp only
  refine qN O$ Qw O$ OC$ An$ OQ O (λh0=>?_)$ λh0=>?_
  ·have dT:i<L.length:=by omega
   obtain⟨⟨c,v⟩,hq⟩:∃q,L[i]? =some q:=⟨_,List.getElem?_eq_getElem dT⟩;obtain⟨ww,nH⟩:=ax _ (List.mem_of_getElem? hq);dsimp only at ww nH
   obtain⟨g,c5,e4⟩:∃g c,Value.slice va L.length vc= .slice (some ⟨g,0,none⟩) L.length c:=by
    rcases da.shape with⟨-,h0⟩|⟨g,c,e,hc⟩
    ·omega
    ·exact⟨g,c,e⟩
   cases e4;have kJ:=z1i z52 (da.ext aA).rd hq;obtain⟨y,z,og⟩:∃y z,Sg c=[y,z]:=by cases c<;>exact⟨_,_,rfl⟩
   have ns:cdV c= .agg [y,z].toArray:=by rw[cdV,og]
   have jP:z69 (c,v)=[y,z,OY v]:=by show Sg c++_=_;rw[og];rfl
   rw[jP] at kJ;have fL:=z4W c v ww nH;rw[ns] at fL;have xW:oneV y=true/\oneV z=true:=by cases c<;>(cases og;exact⟨rfl,rfl⟩)
   have eL:=zcq (L:=L.take i) (λq hq=>ax q (List.mem_of_mem_take hq));rw[List.length_take] at eL;have px:=z3M ww nH;refine OD$ QA$ qN O$ qV (PR z1L Vv O O (by omega))$ qV (Pp (news:=[y,z,OY v]) zhz O Vv O kJ O)$ OJ O O (Ry (cs:=[_,_,_]) Vv O) ?_;rintro _ w5 ⟨b14,rfl,oh,aU,cX⟩;refine OT O (PG (news:=[y,z,OY v]) Vv O O (by simp[xW.1,xW.2];rfl) O cX (by simp)) ?_;rintro w6 ⟨eR,aM⟩;replace eR:OP w6 b14 [y,z,OY v] 296:=eR;have z5:=aU.size;have aR:Ext w4 w6:=aU.It aM (λk e=>by omega);refine qM O$ OW z80 O$ qV (Pp (news:=[y,z]) Ss O QI O (eR.cells (n:=2) O) O)$ OW z8k O$ qV (OM Rt O O eR O)$ P5 zdY O (fL w6) ?_;rintro _ w7 ⟨rfl,co⟩;refine ON O$ SU O$ Qm O$ OK O$ Pa O$ PS O$ OV O$ Oz$ OK O$ PS O$ ON O$ OC ?_;rw[show((P8 (L.take i)).length:Int)+((c.enc v).length:Int)=((P8 (L.take (i+1))).length:Int) by rw[PC hq,Y6,List.length_append];dsimp only;omega];exact(ih (i+1) _ ⟨(aA.trans aR).trans co,by omega⟩ (by omega)).qb
  ·have dl:i=L.length:=by omega
   rw[dl,List.take_length];refine OO O$ Pn O$ Qm O$ OB func148 O ?_;exact⟨_,rfl,rfl,aZ.trans aA⟩
def ZQ {w:World}{wp:Nat}{bs:List Bool}{F:Nat->Prop}(h:YT w wp bs F)(p:S1)(hp:p.Qq)(x:Nat)(hx:x<65536){sa ra:Option Addr}{sc rc:Nat}(succ ref:List Nat)(hs:PB succ)(hr:PB ref)(r:Nat)(jt:r<=p.Pb)(mq:r=0->ref=[])
  (hG:OP w 1 (Sg .gamma) 294) (hU:OP w 2 (Sg .unary) 294) (eF:Rd w (.slice sa succ.length sc) 1 succ.length (succ.map Px)) (o4:Rd w (.slice ra ref.length rc) 1 ref.length (ref.map Px)) (ge:succ.length<=sc) (o5:ref.length<=rc)
  (hl:bs.length+(P8 (Rq p x succ ref r)).length<=134217728):
  Pm prog 152 [ptr wp 0,I (x:Int),.slice sa succ.length sc,.slice ra ref.length rc,I (r:Int),lpV p] w λu w'=>u=I 0/\WrR wp F w w' (bs++P8 (Rq p x succ ref r)):=by
 obtain⟨g1,g2,g3,g4⟩:=id hp
 have ax:=λq hq=>(z0w hp hx hs hr jt q hq).Qq ⟨g3,g4⟩
 have eP:=z5D (p:=p) (x:=x) (r:=r) hs hr
 refine py (e:=[(0,_),(1,_),(2,_),(3,_),(4,_),(5,_)]) func152 O ntmps152 O O$ qN O$ OJ O O (R4 O (cs:=lpC p) O) ?_
 rintro _ w1 ⟨b9,rfl,jb,ad,cK⟩
 replace cK:OP w1 b9 [I (p.Pb:Int),I (p.interval:Int),I (p.zeta:Int)] 260:=cK
 refine OV O$ PK O$ qV (PY z3K O O)$ Qg O$ Qt O$ Pa O$ qV (Pp (news:=lpC p) Zw O TY O (cK.cells (n:=3) O) O)$ P5 z5m O (VA p hp x hx succ ref hs hr r jt mq (ad.OA hG) (ad.OA hU) (eF.ext ad) (o4.ext ad) ge o5) ?_
 rintro _ w2 ⟨rfl,ae⟩
 have aJ:=ad.trans ae
 have h2:=h.ext aJ
 refine ON O$ SU O$ Qm O$ QA$ Pn O$ QE O$ OV O$ OL O$ Qt O$ P5 z2g O (Vy h2) ?_
 rintro _ w2 ⟨rfl,rfl⟩
 refine Ro O$ QB O$ OV O$ Po.qb (e:=[(0,_),(1,_),(2,_),(3,_),(4,_),(11,_),(12,_),(32,_)]) ?_
 refine OQ O (λe0=>?_)$ λe0=>?_
 ·omega
 ·refine OD$ Oz$ An$ qN O$ qV (Pp (news:=lpC p) Zw O TY O ((ae.OA cK).cells (n:=3) O) O)$ Pa O$ Pa O$ P5 zek O (Yq p hp x hx succ ref hs hr r jt mq (aJ.OA hG) (aJ.OA hU) (eF.ext aJ) (o4.ext aJ) ge o5) ?_;rintro v w3 ⟨da,qI,ah⟩;have aZ:=aJ.trans ah;have h3:=h.ext aZ;have z12:=aJ.size;have z3:=ah.size;have ko:∀k,F k->k<w.heap.size:=λk hk=>h.lt hk
  generalize Rq p x succ ref r=L at ax eP da hl
  obtain⟨va,vc,rfl,-⟩:=da.rd.shape;refine Rs z1L O$ ON O$ OC$ OE$ Rr (α:=Nat) (0) (λi=>[(0,ptr wp 0),(43,.slice va L.length vc),(44,I (L.length:Int)),(45,I (i:Int))]) (λi w'=>WrR wp F w3 w' (bs++P8 (L.take i))/\i<=L.length) (λi=>L.length-i) ?hI ?hround
  case hI=>exact⟨⟨F,by simpa[P8] using h3,Kp.refl _ _,λk hk=> .inl hk⟩,Nat.zero_le _⟩
  case hround=>
   rintro i w4 ⟨⟨F4,mB,au,o9⟩,hi⟩ ih
   try dsimp only
   refine qN O$ Qw O$ OC$ An$ OQ O (λh0=>?_)$ λh0=>?_
   ·have dT:i<L.length:=by omega
    obtain⟨⟨c,v⟩,hq⟩:∃q,L[i]? =some q:=⟨_,List.getElem?_eq_getElem dT⟩;obtain⟨ww,nH⟩:=ax _ (List.mem_of_getElem? hq);dsimp only at ww nH
    obtain⟨g,c5,e4⟩:∃g c,Value.slice va L.length vc= .slice (some ⟨g,0,none⟩) L.length c:=by
     rcases da.shape with⟨-,h0⟩|⟨g,c,e,hc⟩
     ·omega
     ·exact⟨g,c,e⟩
    cases e4;have eg:=da.kp au (λg hg e=>by have:=qI g hg;have:=ko g e;omega);have kJ:=z1i z52 eg.rd hq;obtain⟨y,z,og⟩:∃y z,Sg c=[y,z]:=by cases c<;>exact⟨_,_,rfl⟩
    have ns:cdV c= .agg [y,z].toArray:=by rw[cdV,og]
    have jP:z69 (c,v)=[y,z,OY v]:=by show Sg c++_=_;rw[og];rfl
    rw[jP] at kJ;have xW:oneV y=true/\oneV z=true:=by cases c<;>(cases og;exact⟨rfl,rfl⟩)
    refine OD$ QA$ qN O$ qV (PR z1L Vv O O (by omega))$ qV (Pp (news:=[y,z,OY v]) zhz O Vv O kJ O)$ OJ O O (Ry (cs:=[_,_,_]) Vv O) ?_;rintro _ w5 ⟨b14,rfl,oh,aU,cX⟩;refine OT O (PG (news:=[y,z,OY v]) Vv O O (by simp[xW.1,xW.2];rfl) O cX (by simp)) ?_;rintro w6 ⟨eR,aM⟩;replace eR:OP w6 b14 [y,z,OY v] 296:=eR;have z5:=aU.size;have aR:Ext w4 w6:=aU.It aM (λk e=>by omega);have z6:=aR.size;have z4:=au.size
    have io:(bs++P8 (L.take i)).length+(c.enc v).length<=134217728:=by
     have e1:(P8 L).length=(P8 (L.take i)).length+(c.enc v).length+(P8 (L.drop (i+1))).length:=by
      conv=>lhs;rw[<-List.take_append_drop (i+1) L,Sy,PC hq,Y6]
      rw[List.length_append,List.length_append]
     rw[List.length_append];omega
    have lQ:=zaG (mB.ext aR) c v ww nH io;rw[ns] at lQ;refine OC$ R6 O$ OW z80 O$ qV (Pp (news:=[y,z]) Ss O QI O (eR.cells (n:=2) O) O)$ OW z8k O$ qV (OM Rt O O eR O)$ P5 ziV O (lQ) ?_;rintro _ w7 ⟨rfl,F7,pA,aB,pB⟩;refine OC$ Oz$ OK O$ PS O$ ON O$ OC ((ih (i+1) _ ⟨⟨F7,?_,(au.trans aR.kp).It aB (λk hk=>(o9 k hk).symm),λk hk=>?_⟩,by omega⟩ (by omega)).qb)
    ·rw[PC hq,Y6,<-List.append_assoc];exact pA
    ·rcases pB k hk with e| e
     ·exact o9 k e
     ·exact .inr (by omega)
   ·have dl:i=L.length:=by omega
    rw[dl,List.take_length] at mB;refine OO O$ Qx O$ OB func152 O ?_;exact⟨_,rfl,rfl,F4,mB,aZ.kp.trans au,λk hk=>by rcases o9 k hk with e|e;exact .inl e;exact .inr (by omega)⟩
def Xs (succ ref:List Nat)(r:Nat):List (Cd×Nat):=if 0<r then(.gamma,(R7 succ ref).length-1)::Qj 0 (R7 succ ref).dropLast else []
def z7K (p:S1)(x:Nat)(succ ref:List Nat):List (Cd×Nat):=
 if Pk succ ref=[] then [] else(if 0<p.interval then(.gamma,(PO p.interval (Pk succ ref)).1.length)::PF x p.interval none (PO p.interval (Pk succ ref)).1 else [])++PI x p.zeta none (PO p.interval (Pk succ ref)).2
def Uo (p:S1)(x:Nat)(succ ref:List Nat)(r:Nat):List (Cd×Nat):=Xs succ ref r++z7K p x succ ref
def z1F (p:S1)(x:Nat){succ ref:List Nat}(r:Nat)(hs:succ≠[]):Rq p x succ ref r=Qs p succ.length r++Uo p x succ ref r:=by
 unfold Rq Qs Uo Xs z7K
 rw[if_neg hs,if_neg (λe=>hs (List.eq_nil_of_length_eq_zero e)),List.cons_append]
def z8p (p:S1)(x:Nat)(l:List Nat):List (Cd×Nat):=if 0<p.interval/\l≠[] then(.gamma,(PO p.interval l).1.length)::PF x p.interval none (PO p.interval l).1 else []
theorem z4v (p:S1)(x:Nat)(succ ref:List Nat):z7K p x succ ref=z8p p x (Pk succ ref)++PI x p.zeta none (PO p.interval (Pk succ ref)).2:=by
 unfold z7K z8p
 by_cases e:Pk succ ref=[]
 ·rw[if_pos e,if_neg (λh=>h.2 e),e,PO];rfl
 ·rw[if_neg e];by_cases e2:0<p.interval
  ·rw[if_pos e2,if_pos ⟨e2,e⟩]
  ·rw[if_neg e2,if_neg (λh=>e2 h.1)]
structure TlI (w:World)(t r:Nat)(s:OI)(b7 b9:Nat)(n q:Nat)(p:S1)(O_:List Nat)(v:Value)(a:Nat)(w':World):Prop where
 tk:TkM w' t r s a
 kp:Kp (λk=>k=t\/k=r) w w'
 sl:Sl w' v 59 1 O_.length (O_.map Px)
 fr:∀g,v.ownBlock=some g->w.heap.size<=g
 c7:OP w' b7 [I (n:Int),I (q:Int)] 308
 c9:OP w' b9 [I (p.Pb:Int),I (p.interval:Int),I (p.zeta:Int)] 260
 n7:w.heap.size<=b7
 n9:w.heap.size<=b9
 v7:v.ownBlock≠some b7
 v9:v.ownBlock≠some b9
def z3s (l:List Nat):∀c∈l.map Px,c.oneCell'=true:=λc hc=>by
 obtain⟨y,-,rfl⟩:=List.mem_map.1 hc
 rfl
def TlI.app {w w1 w2 w3:World}{t r:Nat}{s:OI}{b7 b9 n q:Nat}{p:S1}{O_ M:List Nat}{v v3:Value}{a a2:Nat}(h:TlI w t r s b7 b9 n q p O_ v a w1)(ht:t<w.heap.size)(hr:r<w.heap.size)
  (hk:Kp (λk=>k=t\/k=r) w1 w2) (nK:TkM w2 t r s a2) (da:Sl w3 v3 59 1 (O_.length+M.length) (O_.map Px++M.map Px)) (av:Kp (λk=>v.ownBlock=some k) w2 w3) (lF:∀g,v3.ownBlock=some g->v.ownBlock=some g\/w2.heap.size<=g):
  TlI w t r s b7 b9 n q p (O_++M) v3 a2 w3:=by
 have z1:=h.kp.size
 have z2:=hk.size
 have l7:=h.c7.lt
 have l9:=h.c9.lt
 have n7:=h.n7
 have n9:=h.n9
 have nw:∀k,k<w.heap.size->¬v.ownBlock=some k:=λk hk e=>by have:=h.fr k e;omega
 have cB:∀k,k<w1.heap.size->v.ownBlock≠some k->v3.ownBlock≠some k:=λk hk hv e=>by
  rcases lF k e with e| e
  ·exact hv e
  ·omega
 refine⟨⟨av.OA nK.OA (nw t ht),⟨av.OA nK.rd.1 (nw r hr),nK.rd.2⟩,nK.ne⟩,(h.kp.trans hk).It av (λk hk=> .inl (h.fr k hk)),by rw[List.length_append,List.map_append];exact da,λg hg=>?_,av.OA (hk.OA h.c7 (λe=>by omega)) h.v7,av.OA (hk.OA h.c9 (λe=>by omega)) h.v9,n7,n9,cB _ l7 h.v7,cB _ l9 h.v9⟩
 rcases lF g hg with e| e
 ·exact h.fr g e
 ·omega
def zaf {w:World}{t r a:Nat}{s:OI}(h:TkM w t r s a)(hG:OP w 1 (Sg .gamma) 294)(dj:¬1=r)(nS:¬1=t)(p:S1)(hp:p.Qq)(x:Nat)(hx:x<65536){sa:Option Addr}{sc:Nat}(succ ref:List Nat)(hs:PB succ)(bu:succ≠[])(jx:succ.length<50)(jf:PB ref)
  (q:Nat) (hq:q<=p.Pb) (nU:q=0->ref=[]) (eO:∀w2,Kp (λk=>k=r) w w2->Rd w2 (.slice sa ref.length sc) 1 ref.length (ref.map Px)) (fL:ref.length<=sc) (rest:List Bool) (hb:(P7 s).drop a=P8 (Uo p x succ ref q)++rest):
  Pm prog 214 [ptr t 0,I (x:Int),.agg #[I (succ.length:Int),I (q:Int)],.slice sa ref.length sc,lpV p] w λu w'=>Sl w' u 59 1 succ.length (succ.map Px)/\(∀g,u.ownBlock=some g->w.heap.size<=g)/\
   TkM w' t r s (a+(P8 (Uo p x succ ref q)).length)/\Kp (λk=>k=t\/k=r) w w':=by
 obtain⟨g1,g2,g3,g4⟩:=id hp
 have lt0:=h.OA.lt
 have lr0:=h.rd.1.lt
 have js:=z6R hs.ris jf.ris p.interval
 have su:=js.length_eq
 rw[List.length_append,List.length_append] at su
 have ax:PB (Pk succ ref):=hs.sub List.filter_sublist
 have Kr:=(TJ p.interval (Pk succ ref)).length_eq
 rw[List.length_append] at Kr
 unfold Uo at hb⊢
 rw[Sy,List.append_assoc] at hb
 rw[Sy,List.length_append]
 refine py (e:=[(0,_),(1,_),(2,_),(3,_),(4,_)]) func214 O ntmps214 O O$ qN O$ OJ O O (R4 O (cs:=[I (succ.length:Int),I (q:Int)]) O) ?_
 rintro _ w1 ⟨b7,rfl,mg,ad,bO⟩
 refine OJ O O (R4 O (cs:=lpC p) O) ?_
 rintro _ w2 ⟨b9,rfl,jb,ae,cK⟩
 replace cK:OP w2 b9 [I (p.Pb:Int),I (p.interval:Int),I (p.zeta:Int)] 260:=cK
 have z1:=ad.size
 have z2:=ae.size
 have aJ:=ad.trans ae
 have ez:=ae.OA bO
 refine QS O$ OV O$ An$ qN O$ OW St O$ qV (OM U3 O O ez O)$ QB O$ OC$ PD (λe' w'=>∃v11,e'=[(0,ptr t 0),(1,I (x:Int)),(7,ptr b7 0),(9,ptr b9 0),(11,v11)]/\TlI w t r s b7 b9 succ.length q p (ref.filter λy=>decide (y∈succ)) v11 (a+(P8 (Xs succ ref q)).length) w') ?bE$ λbE=>?cM
 case bE =>
  rintro e' w3 ⟨v11,rfl,h3⟩;have dG:=Sh hb;obtain⟨va,vc,rfl,-⟩:=h3.sl.rd.shape;have um:=h3.c7;have cY:=h3.c9;have Dj:=h3.tk.OA;refine An$ qN O$ OW Th O$ qV ((OM U3 O O um O))$ ON O$ Rs Pu O$ Ro O ?_;rw[show(succ.length:Int)-((ref.filter λy=>decide (y∈succ)).length:Int)=((Pk succ ref).length:Int) by omega]
  generalize NH:(a+(P8 (Xs succ ref q)).length)=a3 at h3 dG
  rw[z4v,Sy,List.append_assoc] at dG;rw[z4v,Sy,List.length_append];have Ks:p.interval=0->(PO p.interval (Pk succ ref)).1=[]:=λe=>by rw[e];exact XS _
  have Kt:Pk succ ref=[]->PO p.interval (Pk succ ref)=([],[]):=λe=>by rw[e,PO]
  have qC:=UX p.interval (Pk succ ref) 0 ax.ris (λy _=>Nat.zero_le _);have ud:=λy hy=>(z7U (least:=p.interval) ax y hy).2
  have Ic:(PO p.interval (Pk succ ref)).1.length<=(QQ (PO p.interval (Pk succ ref)).1).length:=by
   have key:∀(R:List (Nat×Nat)) (lo:Nat),SY p.interval lo R->R.length<=(QQ R).length:=by
    intro R
    induction R with
    |nil=>intro lo h;exact Nat.le_refl _
    | cons z R ih =>
      intro lo h;have h5:=ih _ h.2.2.2;have h6:1<=z.2:=h.2.1;rw[show QQ (z::R)=(List.range z.2).map (z.1+·)++QQ R from rfl,List.length_append,List.length_map,List.length_range,List.length_cons];omega
   exact key _ 0 qC
  have Dk:PB (PO p.interval (Pk succ ref)).2:=ax.sub (UB p.interval _)
  generalize (ref.filter λy=>decide (y∈succ))=O1 at h3 js su
  have wG:z8p p x (Pk succ ref)=if 0<p.interval/\Pk succ ref≠[] then(.gamma,(PO p.interval (Pk succ ref)).1.length)::PF x p.interval none (PO p.interval (Pk succ ref)).1 else []:=rfl
  generalize z8p p x (Pk succ ref)=LT at dG wG
  generalize PO p.interval (Pk succ ref)=Q at*
  generalize Pk succ ref=L1 at*
  have Bg:L1=[]↔L1.length=0:=⟨λe=>by rw[e];rfl,List.eq_nil_of_length_eq_zero⟩;have fU:=hs.len;refine OV O$ An$ PD (λe' w'=>∃s1:Bool,e'=[(0,ptr t 0),(1,I (x:Int)),(7,ptr b7 0),(9,ptr b9 0),(11,.slice va O1.length vc),(12,I (L1.length:Int)),(38,.bool s1)]/\w'=w3/\(s1=true↔0<p.interval/\L1≠[])) ?aY$ λaY=>?gl
  case aY =>
   rintro e' w4 ⟨s1,rfl,rfl,et⟩;refine PD (λe' w'=>∃v11,e'=[(0,ptr t 0),(1,I (x:Int)),(7,ptr b7 0),(9,ptr b9 0),(11,v11)]/\TlI w t r s b7 b9 succ.length q p (O1++QQ Q.1) v11 (a3+(P8 LT).length) w') ?aq$ λaq=>?ey
   case aq =>
    rintro e' w5 ⟨v5,rfl,h5⟩;have gR:=Sh dG;obtain⟨va5,vc5,rfl,-⟩:=h5.sl.rd.shape;have mC:=h5.c7;have mD:=h5.c9;have Dl:=h5.tk.OA;have Id:(O1++QQ Q.1).length=O1.length+(QQ Q.1).length:=List.length_append;refine An$ qN O$ OW Th O$ qV ((OM U3 O O mC O))$ ON O$ Rs Pu O$ Ro O ?_;rw[show(succ.length:Int)-((O1++QQ Q.1).length:Int)=(Q.2.length:Int) by omega];refine OV O$ An$ PD (λe' w'=>∃s2:Bool,e'=[(0,ptr t 0),(1,I (x:Int)),(7,ptr b7 0),(9,ptr b9 0),(11,.slice va5 (O1++QQ Q.1).length vc5),(13,I (Q.2.length:Int)),(60,.bool s2)]/\w'=w5/\(s2=true↔0<Q.2.length)) ?dp$ λdp=>?o3
    case dp=>
     rintro e' w6 ⟨s2,rfl,rfl,dw⟩;refine PD (λe' w'=>∃v11,e'=[(0,ptr t 0),(11,v11)]/\TlI w t r s b7 b9 succ.length q p (O1++QQ Q.1++Q.2) v11 (a3+(P8 LT).length+(P8 (PI x p.zeta none Q.2)).length) w') ?qs$ λqs=>?u7
     case qs=>
      rintro e' w7 ⟨v7,rfl,h7⟩;have sx:(O1++QQ Q.1++Q.2).length=succ.length:=by rw[List.length_append,Id];omega
      have Ku:0<succ.length:=List.length_pos_iff.2 bu;refine Pn O$ P5 zgr O (z9O h7.sl (λe=>by rw[e] at sx;simp at sx;omega) (by omega)) ?_;rintro _ w8 ⟨rfl,aL,l',Kv,xX,dO⟩;have Kw:l'=succ:=z6s ((Kv.trans (by rw[List.append_assoc])).trans js) xX hs.ris;rw[Kw] at dO;refine qM O$ ON O$ OV O$ OB func214 O ?_;have e9:a+((P8 (Xs succ ref q)).length+((P8 LT).length+(P8 (PI x p.zeta none Q.2)).length))=a3+(P8 LT).length+(P8 (PI x p.zeta none Q.2)).length:=by omega
      rw[e9];have nw:∀k,k<w.heap.size->¬v7.ownBlock=some k:=λk hk e=>by have:=h7.fr k e;omega
      refine⟨_,rfl,dO,h7.fr,⟨aL.OA h7.tk.OA (nw t lt0),⟨aL.OA h7.tk.rd.1 (nw r lr0),h7.tk.rd.2⟩,h7.tk.ne⟩,h7.kp.It aL (λk hk=> .inl (h7.fr k hk))⟩
     case u7=>
      refine Qf O (λh2=>?_)$ λh2=>?_
      ·refine OK O$ Pa O$ Pa O$ OW z0F O$ qV ((OM U3 O O mD O))$ qV ((Q7 O U3 Rt (by omega)))$ qV (Sa (cs:=[_,_]) QI O zeJ O O)$ P5 zhe O (z6H h5.tk x p.zeta hx ⟨g3,g4⟩ Q.2 Dk _ gR) ?_;rintro u6 w6 ⟨g8,nO,xE,aM⟩;have Dm:=h5.sl.kp aM (λg hg e=>by have:=h5.fr g hg;omega);refine OJ O O (pap Pu P6 O (by decide) O O Dm g8.rd (z3s _) (by omega) (by simp only[maxLen];omega)) ?_;rintro v7 w7 ⟨hH,aB,Kx,-⟩;have h7:=h5.app lt0 lr0 aM xE hH aB Kx;refine OV O ?_;exact(qs _ _ ⟨v7,rfl,h7⟩).qb
      ·have gz:Q.2=[]:=List.eq_nil_of_length_eq_zero (by
        rcases Nat.eq_zero_or_pos Q.2.length with e| e
        ·exact e
        ·rw[dw.2 e] at h2;cases h2)
       refine OD ((qs _ _ ⟨_,rfl,?_⟩).qb);rw[gz,List.append_nil,show(P8 (PI x p.zeta none [])).length=0 from rfl,Nat.add_zero];exact h5
    case o3=>
     rcases Nat.eq_zero_or_pos Q.2.length with hz|hz
     ·refine R6 O$ QB O$ PH$ ON O$ QL$ QL$ qS$ PM O$ OC ?_;exact(dp _ _ ⟨false,rfl,rfl,by simp[hz]⟩).qb
     ·refine R6 O$ QB O$ Rz$ Pa O$ Pq O$ OW TK O$ qV ((OM U4 O O Dl O))$ qV ((RZ O))$ QX O$ OC ?_;exact(dp _ _ ⟨true,rfl,rfl,by simp[hz]⟩).qb
   case ey=>
    refine Qf O (λh1=>?_)$ λh1=>?_
    ·obtain⟨tG,dh⟩:=et.1 h1;rw[if_pos ⟨tG,dh⟩] at wG;refine OK O$ Pa O$ Pa O$ OW Ue O$ qV ((OM U3 O O cY O)) ?_;rw[wG] at dG;refine P5 ziG O (z9q h3.tk (h3.kp.OA hG (λe=>by rcases e with e|e;exact nS e;exact dj e)) dj nS x L1.length p.interval hx (by omega) (by omega) Q.1 qC ud (by omega) (by omega) _ dG) ?_;rintro u4 w4 ⟨eg,o9,xY,au⟩;have Dn:=h3.sl.kp au (λg hg e=>by have:=h3.fr g hg;omega);have NI:=eg.rd;have KA:O1.length<=65536:=by omega
     refine OJ O O (pap Pu P6 O (by decide) O O Dn eg.rd (z3s _) (by omega) (by simp only[maxLen];omega)) ?_;rintro v5 w5 ⟨gh,aj,KB,-⟩;have h5:=h3.app lt0 lr0 au xY gh aj KB;refine OV O ((aq _ _ ⟨v5,rfl,?_⟩).qb);rw[wG];exact h5
    ·have dh:¬(0<p.interval/\L1≠[]):=λe=>by rw[et.2 e] at h1;cases h1
     have jc:Q.1=[]:=by
      by_cases e:L1=[]
      ·rw[Kt e]
      ·exact Ks (by by_cases e2:0<p.interval;exact absurd ⟨e2,e⟩ dh;omega)
     rw[if_neg dh] at wG;refine OD ((aq _ _ ⟨_,rfl,?_⟩).qb);rw[jc,wG,show QQ []=[] from rfl,List.append_nil,show(P8 []).length=0 from rfl,Nat.add_zero];exact h3
  case gl=>
   rcases Nat.eq_zero_or_pos L1.length with hz|hz
   ·refine R6 O$ QB O$ PH$ ON O$ QL$ qS$ PM O$ ON O$ QL$ QL$ qS$ PM O$ OC$ Po.qb (e:=[(0,_),(1,_),(7,_),(9,_),(11,_),(12,_),(38,_)]) ?_;exact(aY _ _ ⟨false,rfl,rfl,⟨λe=>(by cases e),λe=>absurd (Bg.2 hz) e.2⟩⟩).qb
   ·rcases Nat.eq_zero_or_pos p.interval with nn|nn
    ·refine R6 O$ QB O$ Rz$ ON O$ OW Ue O$ qV ((OM U3 O O cY O))$ QB O$ PH$ QX O$ ON O$ QL$ QL$ qS$ PM O ?_;refine OC$ Po.qb (e:=[(0,_),(1,_),(7,_),(9,_),(11,_),(12,_),(38,_)]) ?_;exact(aY _ _ ⟨false,rfl,rfl,by simp[nn]⟩).qb
    ·refine R6 O$ QB O$ Rz$ ON O$ OW Ue O$ qV ((OM U3 O O cY O))$ QB O$ Rz$ QX O$ Pa O$ Pq O$ OW TK O$ qV ((OM U4 O O Dj O))$ qV ((RZ O)) ?_;refine QX O$ OC$ Po.qb (e:=[(0,_),(1,_),(7,_),(9,_),(11,_),(12,_),(38,_)]) ?_;exact(aY _ _ ⟨true,rfl,rfl,⟨λ_=>⟨nn,λe=>(by have:=Bg.1 e;omega)⟩,λ_=>rfl⟩⟩).qb
 case cM=>
  refine OQ O (λh0=>?_)$ λh0=>?_
  ·have jc:0<q:=by omega
   have Bo:=T8 succ ref;have jn:=Bo.z18;rw[List.length_map] at jn;have xZ:=jf.len
   have y4:(R7 succ ref).sum=ref.length:=by
    have:=congrArg List.length Bo.exp;rw[SR,List.length_map] at this;exact this
   have y5:=za3 succ ref;rw[show Xs succ ref q=(.gamma,(R7 succ ref).length-1)::Qj 0 (R7 succ ref).dropLast from if_pos jc] at hb;obtain⟨l,m,iB⟩:∃l m,R7 succ ref=l++[m]:=⟨_,_,(List.dropLast_concat_getLast Bo.ne).symm⟩;have iC:=Bo.pos;rw[iB] at hb y4 jn iC;rw[iB,List.dropLast_concat] at y5;rw[List.dropLast_concat,show(l++[m]).length-1=l.length by simp] at hb;rw[List.sum_append] at y4;rw[List.length_append,List.length_singleton] at jn;have h2:=h.ext aJ
   have y6:∀m'∈l.drop 1,1<=m':=λm' ol=>iC m' (by
    cases l with
    |nil=>simp at ol
    |cons a l=>rw[List.cons_append,List.drop_succ_cons,List.drop_zero];rw[List.drop_succ_cons,List.drop_zero] at ol;exact List.mem_append_left _ ol)
   refine OK O$ Pa O$ P5 zgQ O (z5p h2 (aJ.OA hG) dj ref l (λw5 k=>eO w5 (aJ.kp.trans k)) fL xZ (by omega) (by omega) y6 _ hb) ?_;rintro v11 w3 ⟨da,qI,qK,av⟩;refine OV O ((bE _ _ ⟨v11,rfl,?_⟩).qb);rw[y5] at da;rw[show Xs succ ref q=(.gamma,l.length)::Qj 0 l by unfold Xs;rw[if_pos jc,iB,List.dropLast_concat,show(l++[m]).length-1=l.length by simp]];have l72:=ez.lt;have l92:=cK.lt;exact⟨qK,aJ.kp.trans (av.OH λk e=> .inr e),da,λg hg=>by have:=qI g hg;omega,av.OA ez (by omega),av.OA cK (by omega),by omega,by omega,λe=>by have:=qI _ e;omega,λe=>by have:=qI _ e;omega⟩
  ·have jc:q=0:=by omega
   have Do:=nU jc;subst Do;refine OD ((bE _ _ ⟨.slice none 0 0,rfl,?_⟩).qb);rw[show Xs succ [] q=[] by unfold Xs;rw[if_neg (by omega)]];exact⟨h.ext aJ,aJ.kp,Sl.nil _ _ _,(λg hg=>by cases hg),ez,cK,by omega,by omega,(λe=>by cases e),(λe=>by cases e)⟩
def z3X {l b rest:List Bool}{a k n:Nat}(hb:l.drop a=b++rest)(hk:k+n<=b.length):(l.drop (a+k)).take n=(b.drop k).take n:=by
 rw[<-List.drop_drop,hb,List.drop_append_of_le_length (by omega),List.take_append_of_le_length (by rw[List.length_drop];omega)]
def z9c {w:World}{r a:Nat}{s:OI}(p:S1)(hp:p.Qq)(x:Nat)(hx:x<65536){la ra:Option Addr}{lc rc:Nat}(succ ref:List Nat)(hs:PB succ)(bu:succ≠[])(jf:PB ref)
  (q:Nat) (hq:q<=p.Pb) (nU:q=0->ref=[]) (hG:OP w 1 (Sg .gamma) 294) (hU:OP w 2 (Sg .unary) 294) (eF:Rd w (.slice la succ.length lc) 1 succ.length (succ.map Px)) (o4:Rd w (.slice ra ref.length rc) 1 ref.length (ref.map Px)) (ge:succ.length<=lc) (o5:ref.length<=rc)
  (hl:(P8 (Rq p x succ ref q)).length<=134217728) (rest:List Bool) (hb:(P7 s).drop a=P8 (Uo p x succ ref q)++rest) (h:TO w r s (a+(P8 (Uo p x succ ref q)).length)):
  Pm prog 215 [lpV p,ptr r 0,I (a:Int),I (x:Int),.agg #[I (succ.length:Int),I (q:Int)],.slice la succ.length lc,.slice ra ref.length rc] w λu w'=>u= .bool true/\TO w' r s (a+(P8 (Uo p x succ ref q)).length)/\Kp (λk=>k=r) w w':=by
 have lr0:=h.1.lt
 have l10:=hG.lt
 have l20:=hU.lt
 have fU:=hs.len
 have oo:=z1F p x (ref:=ref) q bu
 have Bp:P8 (Rq p x succ ref q)=P8 (Qs p succ.length q)++P8 (Uo p x succ ref q):=by rw[oo,Sy]
 have eL:(P8 (Rq p x succ ref q)).length=(P8 (Qs p succ.length q)).length+(P8 (Uo p x succ ref q)).length:=by rw[oo,Sy,List.length_append]
 generalize P8 (Uo p x succ ref q)=TB at*
 have sy:succ.length≠0:=λe=>bu (List.eq_nil_of_length_eq_zero e)
 refine py (e:=[(0,_),(1,_),(2,_),(3,_),(4,_),(5,_),(6,_)]) func215 O ntmps215 O O$ qN O$ OJ O O (R4 O (cs:=lpC p) O) ?_
 rintro _ w1 ⟨b7,rfl,mg,ad,bO⟩
 refine OJ O O (R4 O (cs:=[I (succ.length:Int),I (q:Int)]) O) ?_
 rintro _ w2 ⟨b11,rfl,jo,ae,bc⟩
 have aJ:=ad.trans ae
 have z1:=ad.size
 have z2:=ae.size
 have ez:=ae.OA bO
 have h2:TO w2 r s (a+TB.length):=⟨aJ.OA h.1,h.2⟩
 refine QW O$ P5 YE O (Uc h2) ?_
 rintro _ w2 ⟨rfl,rfl⟩
 refine QS O$ P5 z0L O (Uy w2) ?_
 rintro _ w3 ⟨wp,F,rfl,nx,ah,qP⟩
 have z3:=ah.size
 have aZ:=aJ.trans ah
 have lR:=ah.OA bc
 have um:=ah.OA ez
 refine OV O$ An$ Qt O$ Pa O$ OW St O$ qV (OM U3 O O lR O)$ qV (Pp (news:=lpC p) Zw O TY O (um.cells (n:=3) O) O)$ P5 zeH O (ZQ nx p hp x hx succ ref hs jf q hq nU (aZ.OA hG) (aZ.OA hU) (eF.ext aZ) (o4.ext aZ) ge o5 (by simpa using hl)) ?_
 rintro _ w4 ⟨rfl,F4,mB,au,o9⟩
 rw[List.nil_append] at mB
 have z4:=au.size
 have dU:Ext w2 w4:=ah.It au qP
 refine QE O$ Qg O$ Pn O$ P5 z7s O (Xk mB) ?_
 rintro _ w4 ⟨rfl,rfl⟩
 refine ON O$ SU O$ Qm O$ Po.qb (e:=[(1,_),(2,_),(7,_),(14,_),(15,_),(16,_),(17,_)]) ?_
 refine Pn O ?_
 have gQ:(Ph (P8 (Rq p x succ ref q))).length<=16777217:=by rw[Py];omega
 refine P5 z89 O (WX (Ph (P8 (Rq p x succ ref q))) (by omega) w4) ?_
 rintro _ w5 ⟨ow,rfl,mf,aU,NJ⟩
 have iL:=dU.trans aU
 have bS:=aJ.trans iL
 obtain⟨z,nJ,nn,NK⟩:=Si (P8 (Rq p x succ ref q))
 have Bq:(P7 (Ph (P8 (Rq p x succ ref q)))).drop 0=P8 (Qs p succ.length q)++(TB++List.replicate z false):=by
  rw[nJ,List.drop_zero,Bp,List.append_assoc]
 refine OV O$ PK O$ qV (Pp (news:=lpC p) Zw O TY O ((iL.OA ez).cells (n:=3) O) O)$ P5 zeN O (z2k mf p hp (bS.OA hG) (bS.OA hU) (by omega) (by omega) succ.length q (by omega) hq (λe=>absurd e sy) _ Bq) ?_
 rintro _ w6 ⟨rfl,ir,aM⟩
 rw[Nat.zero_add] at ir
 have iM:Ext w2 w6:=iL.It aM (λk e=>by omega)
 have un:=Sh Bq
 rw[Nat.zero_add] at un
 generalize (Ph (P8 (Rq p x succ ref q)))=os at*
 have z6:=iM.size
 refine ON O$ SU O$ OJ O O (Ry (cs:=[_,_]) Sb O) ?_
 rintro _ w7 ⟨b20,rfl,KC,co,Dp⟩
 refine OT O (PG (news:=[I (succ.length:Int),I (q:Int)]) Sb O O O O Dp (by simp)) ?_
 rintro w8 ⟨Ie,aL⟩
 have iN:Ext w6 w8:=co.It aL (λk e=>by omega)
 have jy:=iM.trans iN
 have h8:TO w8 r s (a+TB.length):=⟨jy.OA h2.1,h2.2⟩
 have nj:TO w8 ow os (P8 (Qs p succ.length q)).length:=⟨iN.OA ir.1,ir.2⟩
 have tC:YT w8 wp (P8 (Rq p x succ ref q)) F4:=((mB.ext aU).kp aM (λi hi e=>by have:=mB.lt hi;omega)).ext iN
 refine QW O$ QE O$ Pa O$ P5 z2g O (Vy tC) ?_
 rintro _ w8 ⟨rfl,rfl⟩
 refine ON O$ P5 YE O (Uc nj) ?_
 rintro _ w8 ⟨rfl,rfl⟩
 refine Ro O ?_
 rw[show((P8 (Rq p x succ ref q)).length:Int)-((P8 (Qs p succ.length q)).length:Int)=(TB.length:Int) by omega]
 refine Pa O$ Ro O ?_
 rw[show((a+TB.length:Nat):Int)-(a:Int)=(TB.length:Int) by omega]
 refine QE O$ PH$ PM O$ OC$ Po.qb (e:=[(1,_),(2,_),(14,_),(15,_),(19,_),(64,_)]) ?_
 refine SH O$ Qt O$ P5 zar O (ZF h8 a (by have:=h8.2.1;omega)) ?_
 rintro _ w9 ⟨rfl,h9,aw⟩
 have pC:TO w9 ow os (P8 (Qs p succ.length q)).length:=⟨aw.OA nj.1 (by omega),nj.2⟩
 refine OC$ QA$ Rr (α:=Nat) (0) (λk=>[(1,ptr r 0),(15,I ((a+TB.length:Nat):Int)),(19,ptr ow 0)]) (λk w'=>TO w' r s (a+k)/\TO w' ow os ((P8 (Qs p succ.length q)).length+k)/\Kp (λi=>i=r\/i=ow) w9 w'/\k<=TB.length) (λk=>TB.length-k) ?hI ?hround
 case hI=>exact⟨h9,pC,Kp.refl _ _,Nat.zero_le _⟩
 case hround=>
  rintro k w10 ⟨eI,mE,aC,NL⟩ ih
  try dsimp only
  refine PK O$ P5 YE O (Uc eI) ?_;rintro _ w10 ⟨rfl,rfl⟩;refine ON O$ Qw O$ OC$ OQ O (λh0=>?_)$ λh0=>?_
  ·refine OD$ OE$ Qt O$ P5 YE O (Uc eI) ?_;rintro _ w10 ⟨rfl,rfl⟩;refine Ro O ?_;rw[show((a+TB.length:Nat):Int)-((a+k:Nat):Int)=((TB.length-k:Nat):Int) by omega];refine qV (ymi O O) ?_;rw[show min (64:Int) ((TB.length-k:Nat):Int)=((min 64 (TB.length-k):Nat):Int) by omega];obtain⟨n,hn,dh,jS,Dq⟩:∃n,min 64 (TB.length-k)=n/\1<=n/\n<=64/\k+n<=TB.length:=⟨_,rfl,by omega,by omega,by omega⟩;rw[hn];have sA:=eI.2.1;have fO:=z3X hb Dq;have nv:=z3X un Dq;have HM:a+TB.length<=8*s.length:=h8.2.1
   have wj:(P8 (Qs p succ.length q)).length+TB.length<=8*os.length:=by
    have e:=congrArg List.length un;rw[List.length_drop,bitsT_length,List.length_append] at e;omega
   refine QS O$ Pa O$ P5 z4i O (Vx eI n jS) ?_;rintro v11 w11 hv
   have jm:v11= .tuple #[OY (Pz (((P7 s).drop (a+k)).take n)),I 0]/\TO w11 r s (a+k+n)/\Kp (λk=>k=r) w10 w11:=by
    rcases hv with hv|hv
    ·exact hv.2
    ·omega
   obtain⟨rfl,qf,bz⟩:=jm;rw[fO];have Dr:TO w11 ow os ((P8 (Qs p succ.length q)).length+k):=⟨bz.OA mE.1 (by omega),mE.2⟩;refine ON O$ SU O$ SA O$ QS O$ Pa O$ P5 z4i O (Vx Dr n jS) ?_;rintro v12 w12 hv
   have jm:v12= .tuple #[OY (Pz (((P7 os).drop ((P8 (Qs p succ.length q)).length+k)).take n)),I 0]/\TO w12 ow os ((P8 (Qs p succ.length q)).length+k+n)/\Kp (λk=>k=ow) w11 w12:=by
    rcases hv with hv|hv
    ·exact hv.2
    ·omega
   obtain⟨rfl,Dt,bA⟩:=jm;rw[nv];have Du:TO w12 r s (a+k+n):=⟨bA.OA qf.1 (by omega),qf.2⟩;refine ON O$ SU O$ SA O$ QS O$ Pa O$ QE O$ OC$ OQ O (λh1=>?_)$ λh1=>?_
   ·exact absurd O h1
   ·refine OD$ Oz ((ih (k+n) _ ⟨by rw[<-Nat.add_assoc];exact Du,by rw[<-Nat.add_assoc];exact Dt,(aC.trans (bz.OH λi e=> .inl e)).trans (bA.OH λi e=> .inr e),Dq⟩ (by omega)).qb)
  ·have ny:k=TB.length:=by omega
   subst ny;refine OO O$ Qx O$ OB func215 O ?_;exact⟨_,rfl,rfl,eI,((aJ.trans jy).kp.trans aw).It aC (λi hi=>by rcases hi with e|e;exact .inr e;exact .inl (by omega))⟩
def z09 {w:World}{r a:Nat}{s:OI}(h:TO w r s a)(p:S1)(hp:p.Qq)(x:Nat)(hx:x<65536)(N:Nat)(hN:N<=65536){ra:Option Addr}{rc:Nat}(succ ref:List Nat)(hs:PB succ)(bu:succ≠[])(jx:succ.length<50)(Dv:∀y∈succ,y<N)(jf:PB ref)
  (q:Nat) (hq:q<=p.Pb) (nU:q=0->ref=[]) (hG:OP w 1 (Sg .gamma) 294) (hU:OP w 2 (Sg .unary) 294) (dj:¬1=r) (dt:¬2=r) (eO:∀w2,Kp (λk=>k=r) w w2->Rd w2 (.slice ra ref.length rc) 1 ref.length (ref.map Px)) (o5:ref.length<=rc)
  (hl:(P8 (Rq p x succ ref q)).length<=134217728) (rest:List Bool) (hb:(P7 s).drop a=P8 (Uo p x succ ref q)++rest):
  Pm prog 196 [ptr r 0,I (x:Int),I (N:Int),.agg #[I (succ.length:Int),I (q:Int)],.slice ra ref.length rc,lpV p] w λu w'=>∃v,u= .tuple #[v,I 0]/\Sl w' v 59 1 succ.length (succ.map Px)/\(∀g,v.ownBlock=some g->w.heap.size<=g)/\TO w' r s (a+(P8 (Uo p x succ ref q)).length)/\Kp (λk=>k=r) w w':=by
 obtain⟨g1,g2,g3,g4⟩:=id hp
 have lr0:=h.1.lt
 have l10:=hG.lt
 have l20:=hU.lt
 have fU:=hs.len
 have im:=jf.len
 have sy:0<succ.length:=List.length_pos_iff.2 bu
 refine py (e:=[(0,_),(1,_),(2,_),(3,_),(4,_),(5,_)]) func196 O ntmps196 O O$ qN O$ OJ O O (R4 O (cs:=[I (succ.length:Int),I (q:Int)]) O) ?_
 rintro _ w1 ⟨b9,rfl,jb,ad,cK⟩
 refine OJ O O (R4 O (cs:=lpC p) O) ?_
 rintro _ w2 ⟨b11,rfl,jo,ae,bc⟩
 replace bc:OP w2 b11 [I (p.Pb:Int),I (p.interval:Int),I (p.zeta:Int)] 260:=bc
 have aJ:=ad.trans ae
 have z1:=ad.size
 have z2:=ae.size
 have dJ:=ae.OA cK
 have l9:=dJ.lt
 have l11:=bc.lt
 have l90:=cK.lt
 refine Qm O$ An$ PD (λe' w'=>e'=[(0,ptr r 0),(1,I (x:Int)),(2,I (N:Int)),(4,.slice ra ref.length rc),(9,ptr b9 0),(11,ptr b11 0)]/\Ext w2 w') ?mF$ λmF=>?Dx
 case mF=>
  rintro e' w3 ⟨rfl,ah⟩;have ck:=aJ.trans ah;have h3:TO w3 r s a:=⟨ck.OA h.1,h.2⟩;have cY:=ah.OA dJ;have lR:=ah.OA bc;have z3:=ah.size;refine Pn O$ P5 YE O (Uc h3) ?_;rintro _ w3 ⟨rfl,rfl⟩;refine QW O$ qV (Sa (cs:=[_,_]) zhU O zjH O O)$ OJ O O (R4 O (cs:=[ptr r 0,.bool false]) O) ?_;rintro _ w4 ⟨tb,rfl,KD,aA,KE⟩;have z4:=aA.size;have cF:=ck.trans aA;have h4:TkM w4 tb r s a:=⟨KE,⟨aA.OA h3.1,h3.2⟩,by omega⟩;refine QS O$ Pa O$ qV (Pp (news:=[I (succ.length:Int),I (q:Int)]) z4h O Sb O ((aA.OA cY).cells (n:=2) O) O)$ ON O$ qV (Pp (news:=lpC p) Zw O TY O ((aA.OA lR).cells (n:=3) O) O)$ P5 ziz O (zaf h4 (cF.OA hG) dj (by omega) p hp x hx succ ref hs bu jx jf q hq nU (λw2 k=>eO w2 (cF.kp.trans k)) o5 rest hb) ?_;rintro v w5 ⟨gh,qz,If,aj⟩;have dm:Kp (λk=>k=r) w w5:=cF.kp.It aj (λi hi=>by rcases hi with e|e;exact .inl (by omega);exact .inr e);have mD:=aj.OA (aA.OA cY) (by omega);have y7:=aj.OA (aA.OA lR) (by omega);have KF:=If.OA;have KG:=dm.OA hG dj;have KH:=dm.OA hU dt;have bP:=eO w5 dm;have xi:∀g,v.ownBlock=some g->w.heap.size<=g:=λg hg=>by have:=qz g hg;have:=cF.size;omega
  obtain⟨va,vc,rfl,Br⟩:=gh.rd.shape
  have Dw:succ.length<=vc:=by
   rcases gh.shape with⟨-,h0⟩|⟨g,c1,hv,fx⟩
   ·omega
   ·cases hv;exact fx
  refine OV O$ PK O$ Pq O$ OW TK O$ qV ((OM U4 O O KF O))$ Pa O$ Rs Pu O$ OW Th O$ qV ((OM U3 O O mD O))$ QE O$ PH$ PM O$ Pa O$ P5 z4V O (WC _ succ hs w5 gh.rd) ?_;rintro _ w5 ⟨rfl,rfl⟩;refine qV ((RZ O))$ PM O$ Pa O$ Rs Pu O$ Rg O$ PH$ PM O$ Pa O$ ON O$ Rs Pu O$ Ro O ?_;rw[show(succ.length:Int)-1=((succ.length-1:Nat):Int) by omega];obtain⟨y,hy⟩:∃y,succ[succ.length-1]? =some y:=⟨_,List.getElem?_eq_getElem (by omega)⟩;have NM:=Dv y (List.mem_of_getElem? hy)
  obtain⟨g5,c5,e5⟩:∃g c,Value.slice va succ.length vc= .slice (some ⟨g,0,none⟩) succ.length c:=by
   rcases gh.shape with⟨-,h0⟩|⟨g,c,e,hc⟩
   ·omega
   ·exact⟨g,c,e⟩
  cases e5;refine qV (PR Pu P6 O O (by omega))$ qV (Ps QR O O (PU gh.rd (show(succ.map Px)[succ.length-1]? =some (Px y) by rw[List.getElem?_map,hy];rfl))) ?_;refine qV (PJ O QR U3 (by omega))$ ON O$ U8 O$ PH$ PM O$ ON O$ qV (Pp (news:=lpC p) Zw O TY O (y7.cells (n:=3) O) O)$ Pa O$ ON O$ qV (Pp (news:=[I (succ.length:Int),I (q:Int)]) z4h O Sb O (mD.cells (n:=2) O) O)$ Pa O$ P5 zgX O (z9c p hp x hx succ ref hs bu jf q hq nU KG KH gh.rd bP Dw o5 hl rest hb If.rd) ?_;rintro _ w6 ⟨rfl,h6,aM⟩;refine qV ((RZ O))$ PM O$ OC$ Po.qb (e:=[(0,_),(14,_),(16,_),(134,_)]) ?_;refine SH O$ Pn O$ Qm O$ OB func196 O ?_;exact⟨_,rfl,_,rfl,gh.kp aM (λg hg e=>by have:=xi g hg;omega),xi,h6,dm.trans aM⟩
 case Dx=>
  refine OE$ Pn O$ qV (PY Ve O O)$ OV O$ OL O$ An$ qN O$ qV (Pp (news:=lpC p) Zw O TY O (bc.cells (n:=3) O) O)$ P5 z5y O (TS p hp w2) ?_;rintro _ w3 ⟨rfl,ah⟩;refine QE O$ Pa O$ P5 z8B O (VI x hx w3) ?_;rintro _ w3 ⟨rfl,rfl⟩;refine qV ((RZ O))$ PM O$ Pa O$ Qw O$ PH$ PM O$ Pa O$ QB O$ PH$ PM O$ Pa O$ P5 z4V O (WC _ ref jf w3 (eO w3 (aJ.trans ah).kp)) ?_;rintro _ w3 ⟨rfl,rfl⟩;refine qV ((RZ O))$ PM O$ OV O$ Po.qb (e:=[(0,_),(1,_),(2,_),(4,_),(9,_),(11,_),(12,_),(13,_),(20,_)]) ?_;refine OL O$ OK O$ OW Th O$ qV ((OM U3 O O (ah.OA dJ) O))$ Qw O$ PH$ ON O$ OW Th O$ qV ((OM U3 O O (ah.OA dJ) O))$ QB O$ PH$ PM O$ ON O$ OW St O ?_;refine qV ((OM U3 O O (ah.OA dJ) O))$ Qw O$ PH$ PM O$ ON O$ OW St O$ qV ((OM U3 O O (ah.OA dJ) O))$ OW To O$ qV ((OM U3 O O (ah.OA bc) O))$ QB O$ PH$ PM O$ ON O ?_;rcases Nat.eq_zero_or_pos q with e0|e0
  ·have KJ:ref.length=0:=by rw[nU e0];rfl
   refine OW St O$ qV ((OM U3 O O (ah.OA dJ) O))$ Rg O$ Rz$ Pa O$ Rs Pu O$ QB O$ PH$ QX O$ PM O$ OV O$ Po.qb (e:=[(0,_),(1,_),(2,_),(4,_),(9,_),(11,_),(12,_),(13,_),(20,_)]) ?_;refine OL O$ qN O$ OW Th O$ qV ((OM U3 O O (ah.OA dJ) O))$ Rg O$ PH$ ON O$ QL$ qS$ PM O$ OV O$ SH O$ Oz ?_;exact(mF _ _ ⟨rfl,ah⟩).qb
  ·refine OW St O$ qV ((OM U3 O O (ah.OA dJ) O))$ Rg O$ PH$ ON O$ QL$ qS$ PM O$ PM O$ OV O$ Po.qb (e:=[(0,_),(1,_),(2,_),(4,_),(9,_),(11,_),(12,_),(13,_),(20,_)]) ?_;refine OL O$ qN O$ OW Th O$ qV ((OM U3 O O (ah.OA dJ) O))$ Rg O$ PH$ ON O$ QL$ qS$ PM O$ OV O$ SH O$ Oz ?_;exact(mF _ _ ⟨rfl,ah⟩).qb
def z38 {w:World}{r:Nat}(p:S1)(hp:p.Qq)(x:Nat)(hx:x<65536)(N:Nat)(hN:N<=65536):
  Pm prog 196 [ptr r 0,I (x:Int),I (N:Int),.agg #[I ((0:Nat):Int),I ((0:Nat):Int)],.slice none 0 0,lpV p] w λu w'=>u= .tuple #[.slice none 0 0,I 0]/\Ext w w':=by
 obtain⟨g1,g2,g3,g4⟩:=id hp
 have tW:([]:List Nat).length=0:=rfl
 refine py (e:=[(0,_),(1,_),(2,_),(3,_),(4,_),(5,_)]) func196 O ntmps196 O O$ qN O$ OJ O O (R4 O (cs:=[I ((0:Nat):Int),I ((0:Nat):Int)]) O) ?_
 rintro _ w1 ⟨b9,rfl,jb,ad,cK⟩
 refine OJ O O (R4 O (cs:=lpC p) O) ?_
 rintro _ w2 ⟨b11,rfl,jo,ae,bc⟩
 replace bc:OP w2 b11 [I (p.Pb:Int),I (p.interval:Int),I (p.zeta:Int)] 260:=bc
 have aJ:=ad.trans ae
 have dJ:=ae.OA cK
 refine Qm O$ QA$ Pn O$ qV (PY Ve O O)$ OV O$ OL O$ An$ qN O$ qV (Pp (news:=lpC p) Zw O TY O (bc.cells (n:=3) O) O)$ P5 z5y O (TS p hp w2) ?_
 rintro _ w3 ⟨rfl,ah⟩
 refine QE O$ Pa O$ P5 z8B O (VI x hx w3) ?_
 rintro _ w3 ⟨rfl,rfl⟩
 refine qV ((RZ O))$ PM O$ Pa O$ Qw O$ PH$ PM O$ Pa O$ QB O$ PH$ PM O$ Pa O$ P5 z4V O (WC (.slice none 0 0) [] ⟨List.Pairwise.nil,λy h=>(by cases h)⟩ w3 VB) ?_
 rintro _ w3 ⟨rfl,rfl⟩
 refine qV ((RZ O))$ PM O$ OV O$ Po.qb (e:=[(0,_),(1,_),(2,_),(4,_),(9,_),(11,_),(12,_),(13,_),(20,_)]) ?_
 refine OL O$ OK O$ OW Th O$ qV ((OM U3 O O (ah.OA dJ) O))$ Qw O$ PH$ ON O$ OW Th O$ qV ((OM U3 O O (ah.OA dJ) O))$ QB O$ PH$ PM O$ ON O$ OW St O ?_
 refine qV ((OM U3 O O (ah.OA dJ) O))$ Qw O$ PH$ PM O$ ON O$ OW St O$ qV ((OM U3 O O (ah.OA dJ) O))$ OW To O$ qV ((OM U3 O O (ah.OA bc) O))$ QB O$ PH$ PM O$ ON O$ OW St O ?_
 refine qV ((OM U3 O O (ah.OA dJ) O))$ Rg O$ Rz$ Pa O$ Rs Pu O$ QB O$ PH$ QX O$ PM O$ OV O$ Po.qb (e:=[(0,_),(1,_),(2,_),(4,_),(9,_),(11,_),(12,_),(13,_),(20,_)]) ?_
 refine OL O$ qN O$ OW Th O$ qV ((OM U3 O O (ah.OA dJ) O))$ Rg O$ Rz$ ON O$ OW St O$ qV ((OM U3 O O (ah.OA dJ) O))$ Rg O$ Rz$ QX O$ OV O$ OS O ?_
 refine qN O$ Qm O$ OB func196 O ?_
 exact⟨_,rfl,rfl,aJ.trans ah⟩
/-! ### A packer's cells -/
def Wb (q:Value×Nat):List Value:=[q.1,I (q.2:Int)]
def XY (p:Qk)(R:List (Value×Nat))(n wp ed:Nat):List Value:=Vl p++(R.flatMap Wb++[I (n:Int),ptr wp 0,I (ed:Int),I 0])
theorem RO:∀R:List (Value×Nat),(R.flatMap Wb).length=R.length*2
 |[]=>rfl
 |q::R=>by rw[List.flatMap_cons,List.length_append,RO R,List.length_cons,show(Wb q).length=2 from rfl];omega
def z5l:∀(R:List (Value×Nat)) (i j:Nat) (q:Value×Nat) (u:Value),R[i]? =some q->(Wb q)[j]? =some u->(R.flatMap Wb)[i*2+j]? =some u
 |[],i,j,q,u,h,_=>by simp at h
 | a :: R, 0, j, q, u, h, hj => by
   rw[List.getElem?_cons_zero] at h;cases h;have:=(List.getElem?_eq_some_iff.1 hj).1;rw[List.flatMap_cons,List.getElem?_append_left (by omega),Nat.zero_mul,Nat.zero_add]
   exact hj
 | a :: R, i + 1, j, q, u, h, hj => by
   rw[List.getElem?_cons_succ] at h;rw[List.flatMap_cons,List.getElem?_append_right (by show 2<=_;omega),show(i+1)*2+j-(Wb a).length=i*2+j by show _-2=_;omega];exact z5l R i j q u h hj
theorem z4l:∀(R:List (Value×Nat)) (i:Nat) (x:Value×Nat),i<R.length->(R.set i x).flatMap Wb=(R.flatMap Wb).take (i*2)++Wb x++(R.flatMap Wb).drop (i*2+2)
 |[],i,x,h=>by simp at h
 | a :: R, 0, x, h => by
   rw[List.set_cons_zero,List.flatMap_cons,List.flatMap_cons,Nat.zero_mul,List.take_zero,List.nil_append,Nat.zero_add,List.drop_left' (show(Wb a).length=2 from rfl)]
 | a :: R, i + 1, x, h => by
   rw[List.length_cons] at h;rw[List.set_cons_succ,List.flatMap_cons,List.flatMap_cons,z4l R i x (by omega)];rw[show(i+1)*2=(Wb a).length+i*2 by show _=2+_;omega,List.take_length_add_append,Nat.add_assoc,List.drop_length_add_append,List.append_assoc,List.append_assoc,List.append_assoc]
section
variable {p:Qk}{R:List (Value×Nat)}{n wp ed:Nat}
theorem z5T (hR:R.length=17):(XY p R n wp ed).length=43:=by
 unfold XY
 rw[List.length_append,List.length_append,RO,hR];rfl
def z0t (hR:R.length=17)(j:Nat):(XY p R n wp ed)[39+j]? =[I (n:Int),ptr wp 0,I (ed:Int),I 0][j]? :=by
 unfold XY
 rw[List.getElem?_append_right (by show 5<=_;omega),List.getElem?_append_right (by rw[RO,hR];show _<=_-5;omega),RO,hR]
 congr 1
 show 39+j-5-17*2=j
 omega
def z7d (hR:R.length=17):(XY p R n wp ed)[39]? =some (I (n:Int)):=z0t hR 0
def zfk (hR:R.length=17):(XY p R n wp ed)[40]? =some (ptr wp 0):=z0t hR 1
def zhI (hR:R.length=17):(XY p R n wp ed)[41]? =some (I (ed:Int)):=z0t hR 2
def zkd (hR:R.length=17):(XY p R n wp ed)[42]? =some (I 0):=z0t hR 3
def zcO (hR:R.length=17){i:Nat}{v:Value}{c:Nat}(h:R[i]? =some (v,c))(j:Nat)(u:Value)(hj:[v,I (c:Int)][j]? =some u):(XY p R n wp ed)[5+i*2+j]? =some u:=by
 have hi:=(List.getElem?_eq_some_iff.1 h).1
 have lJ:j<2:=(List.getElem?_eq_some_iff.1 hj).1
 unfold XY
 rw[List.getElem?_append_right (by show 5<=_;omega),show 5+i*2+j-(Vl p).length=i*2+j by show _-5=_;omega,List.getElem?_append_left (by rw[RO];omega)]
 exact z5l R i j _ u h hj
theorem z9a (hR:R.length=17){i:Nat}(hi:i<17)(v:Value)(c:Nat):QH (XY p R n wp ed) (5+i*2) [v,I (c:Int)]=XY p (R.set i (v,c)) n wp ed:=by
 unfold XY QH
 rw[z4l R i (v,c) (by omega)]
 rw[show 5+i*2=(Vl p).length+i*2 from rfl,List.take_length_add_append,show(Vl p).length+i*2+[v,I (c:Int)].length=(Vl p).length+(i*2+2) from rfl,List.drop_length_add_append]
 rw[List.take_append_of_le_length (by rw[RO];omega),List.drop_append_of_le_length (by rw[RO];omega)]
 simp only[List.append_assoc]
 rfl
theorem zds (hR:R.length=17)(m:Nat):(XY p R n wp ed).set 39 (I (m:Int))=XY p R m wp ed:=by
 unfold XY
 rw[List.set_append_right _ _ (by show 5<=_;omega),List.set_append_right _ _ (by rw[RO,hR];show _<=39-5;omega),RO,hR]
 rfl
theorem zdL (hR:R.length=17)(m:Nat):(XY p R n wp ed).set 41 (I (m:Int))=XY p R n wp m:=by
 unfold XY
 rw[List.set_append_right _ _ (by show 5<=_;omega),List.set_append_right _ _ (by rw[RO,hR];show _<=41-5;omega),RO,hR]
 rfl
end
def zbC {w:World}{k:Nat}{p:Qk}{R:List (Value×Nat)}{n wp ed:Nat}(hB:OP w k (XY p R n wp ed) 257)(hR:R.length=17)(hn:n<=65536)(a:Option Addr)(m cp c:Nat):
  Pm prog 153 [ptr k 5,.slice a m cp,I (c:Int)] w λu w'=>u= .tuple #[]/\OP w' k (XY p (R.set (n%17) (.slice a m cp,c)) (n+1) wp ed) 257/\Kp (λi=>i=k) w w':=by
 refine py (e:=[(0,_),(1,_),(2,_)]) func153 O ntmps153 O O ?_
 have hg:=Ext.P4 w
 have di:(R.set (n%17) (.slice a m cp,c)).length=17:=by rw[List.length_set];exact hR
 refine An$ P9 [12] (λw'=>Ext w w') (by kernel_rfl) O$ PQ 0 O O (hg)$ PQ 1 O O (hg)$ Pl 2 O (Q8 O) hg$ Pl 3 O (Pr UZ O) hg$ PQ 6 O O (hg)$ PQ 7 O O (hg)$ Pl 8 O (Sa (cs:=[_,_]) QJ O zeD O O) hg$ Pl 9 O (Q8 O) hg$ Pl 10 O (Pr z7A O) hg$ qL 4 O (λ_ h=>OM U3 O O (h.OA hB) (z7d hR)) hg$ Pl 5 O (yre O O (by omega)) hg$ Pl 11 O (yia zie QJ O O (by omega)) hg ?_
 refine Tt [12]$ qO 12$ PE (i:=12) O O (PG (news:=[.slice a m cp,I (c:Int)]) QJ O O O O (hg.OA hB) (by rw[z5T hR];show 5+n%17*2+2<=43;omega)) ?_
 rintro w1 ⟨ai,az⟩
 refine⟨trivial,?_⟩
 replace ai:OP w1 k (QH (XY p R n wp ed) (5+n%17*2) [.slice a m cp,I (c:Int)]) 257:=ai
 rw[z9a hR (Nat.mod_lt _ (by decide))] at ai
 refine qE$ R6 O$ Pq O$ OW UZ O$ qV (OM U3 O O ai (z7d di))$ PS O$ Pq O$ OW UZ O$ OT O (QG PV O O O ai (by rw[z5T di];decide)) ?_
 rintro w2 ⟨ak,am⟩
 replace ak:OP w2 k ((XY p (R.set (n%17) (.slice a m cp,c)) n wp ed).set 39 (I ((n+1:Nat):Int))) 257:=ak
 rw[zds di] at ak
 refine OC$ Qa func153 O ?_
 exact⟨_,rfl,rfl,ak,(hg.kp.trans az).trans am⟩
def TW (p:Qk)(m size c:Nat):Bool:=decide (0<m/\m<=p.most/\0<size/\size<=p.most/\c<p.chain)
def Xg {w:World}{k:Nat}{p:Qk}{R:List (Value×Nat)}{n wp ed:Nat}(hB:OP w k (XY p R n wp ed) 257)(hR:R.length=17)(hn:n<=65536)(hp:p.Qq)(ref size:Nat)(h1:1<=ref)(h2:ref<=p.Pb)
  {a:Option Addr} {m cp c:Nat} (hq:ref<=n->R[(n-ref)%17]? =some (.slice a m cp,c)):
  Pm prog 151 [ptr k 5,I (ref:Int),I (size:Int),bpV p] w λu w'=>u=(if ref<=n then .tuple #[.agg #[.slice a m cp,I (c:Int)],.bool (TW p m size c)] else .tuple #[.agg #[.slice none 0 0,I 0],.bool false])/\Ext w w':=by
 have y8:p.Pb<=16:=hp.1.1
 refine py (e:=[(0,_),(1,_),(2,_),(3,_)]) func151 O ntmps151 O O$ qN O$ OJ O O (R4 O (cs:=Vl p) O) ?_
 rintro _ w1 ⟨b7,rfl,mg,ad,bO⟩
 refine OJ O O (Ry (cs:=[_,_]) QJ O) ?_
 rintro _ w2 ⟨b8,rfl,ja,ae,cj⟩
 have z1:=ad.size
 have z2:=ae.size
 have l7:=bO.lt
 have l8:=cj.lt
 have aJ:=ad.trans ae
 have ez:=ae.OA bO
 replace ez:OP w2 b7 [I (p.Pb:Int),I (p.chain:Int),I (p.interval:Int),I (p.zeta:Int),I (p.most:Int)] 75:=ez
 replace cj:OP w2 b8 [.slice none 0 0,I 0] 252:=cj
 have uo:=aJ.OA hB
 have aa:=Ext.P4 w2
 refine OV O$ An$ An ?_
 rcases Nat.lt_or_ge n ref with aS|km
 ·refine QV (λw'=>Ext w2 w') O$ OZ 0 O O (aa)$ OG 1 O (ylt O O) aa$ TD$ OZ 2 O O (aa)$ OZ 3 O O (aa)$ OZ 4 O O (aa)$ OG 5 O (Q8 O) aa$ OG 6 O (Pr UZ O) aa$ OG 8 O (Pr z1K O) aa$ qT 9 O (λ_ h=>OM U3 O O (h.OA ez) O) aa$ qT 7 O (λ_ h=>OM U3 O O (h.OA uo) (z7d hR)) aa$ OG 10 O (ymi O O) aa$ OG 11 O (Yf O O) aa ?_;refine TL$ OG 12 O (U0 O O) aa$ qE$ OS O$ qN O$ qV (Sa (cs:=[_,_]) QJ O zeD O O) ?_;have up:=aa.OA cj;refine OT O (PG (news:=[.slice none 0 0,I 0]) QJ O O O O up (by simp)) ?_;rintro w3 ⟨uq,av⟩;replace uq:OP w3 b8 [.slice none 0 0,I 0] 252:=uq;refine OV O$ Pf func151 (.cell Ya O QJ O (OP.cells (n:=2) uq (news:=[_,_]) O) O (.tmp O .nil)) ?_;rw[if_neg (by omega)];exact⟨_,rfl,rfl,(aJ.trans aa).It av (λi e=>by omega)⟩
 ·have gz:=hq km;rw[if_pos km];refine QV (λw'=>Ext w2 w') O$ OZ 0 O O (aa)$ OG 1 O (ylt O O) aa$ TD$ OZ 2 O O (aa)$ OZ 3 O O (aa)$ OZ 4 O O (aa)$ OG 5 O (Q8 O) aa$ OG 6 O (Pr UZ O) aa$ OG 8 O (Pr z1K O) aa$ qT 9 O (λ_ h=>OM U3 O O (h.OA ez) O) aa$ qT 7 O (λ_ h=>OM U3 O O (h.OA uo) (z7d hR)) aa$ OG 10 O (ymi O O) aa$ OG 11 O (Yf O O) aa ?_;refine TD$ OG 12 O (U0 O O) aa$ qE$ SH O$ An ?_;have ag:=aa.trans (Ext.P4 w2.drew);have fC:=Ext.P4 w2.drew;have oq:=aa.OA uo;refine P9 [13] (λw'=>Ext w2.drew w') (by kernel_rfl) O$ PQ 0 O O (fC)$ PQ 1 O O (fC)$ Pl 2 O (Q8 O) fC$ Pl 3 O (Pr UZ O) fC$ PQ 5 O O (fC)$ Pl 8 O (Q8 O) fC$ Pl 9 O (Pr z7A O) fC$ qL 4 O (λ_ h=>OM U3 O O (h.OA oq) (z7d hR)) fC$ Pl 6 O (Xw O O (by omega)) fC ?_;rw[show(n:Int)-(ref:Int)=((n-ref:Nat):Int) by omega];refine Pl 7 O (yre O O (by omega)) fC$ Pl 10 O (yia zie QJ O O (by omega)) fC$ qL 11 O (λ_ h=>Pp (news:=[.slice a m cp,I (c:Int)]) Ya O QJ O (λj u hj=>by rw[(h.OA oq).cell];exact zcO hR gz j u hj) O) fC ?_;refine R9 (i:=12) (by kernel_rfl)$ Qo (i:=12) O O O (Ry (cs:=[_,_]) QJ O) ?_;rintro _ w3 ⟨b10,rfl,Cn,ah,fM⟩;refine⟨fC.trans ah,?_⟩;refine Tt [13]$ qO 13$ PE (i:=13) O O (PG (news:=[.slice a m cp,I (c:Int)]) QJ O O O O fM (by simp)) ?_;rintro w4 ⟨bM,au⟩;refine⟨trivial,?_⟩;replace bM:OP w4 b10 [.slice a m cp,I (c:Int)] 252:=bM;have z23:=ag.size;have z3:=ah.size;have dU:Ext w2 w4:=(ag.trans ah).It au (λi e=>by omega);have z4:=dU.size;have eS:=dU.OA cj;have i7:=dU.OA ez;have af:=Ext.P4 w4;refine qE$ Po.qb (e:=[(2,_),(7,_),(8,_),(9,_),(10,_)]) ?_;refine An ?_;rcases Nat.eq_zero_or_pos m with c0|c0
  ·refine QV (λw'=>Kp (λi=>i=b8) w4 w') O$ qT 0 O (λ_ hS=>(Pp Ya O QJ O (OP.cells (n:=2) (hS.OA bM (by omega)) (news:=[_,_]) O) O)) (af.kp)$ OG 1 O (Pr Sv O) (af.kp)$ qT 2 O (λ_ hS=>(OM Pu O O (hS.OA bM (by omega)) O)) (af.kp)$ OG 3 O (SE Pu O) (af.kp)$ OG 4 O (Yf O O) (af.kp)$ TD$ OZ 5 O O (af.kp)$ qJ 6 O (af.kp)$ qJ 7 O (af.kp)$ qJ 8 O (af.kp)$ qJ 9 O (af.kp)$ qJ 10 O (af.kp)$ qJ 11 O (af.kp) ?_;refine OG 12 O (U0 O O) (af.kp)$ OZ 13 O O (af.kp)$ qJ 14 O (af.kp)$ qJ 15 O (af.kp)$ OG 16 O (U0 O O) (af.kp)$ OZ 17 O O (af.kp)$ qJ 18 O (af.kp)$ qJ 19 O (af.kp)$ qJ 20 O (af.kp)$ qJ 21 O (af.kp)$ OG 22 O (U0 O O) (af.kp)$ OZ 23 O O (af.kp)$ qJ 24 O (af.kp)$ qJ 25 O (af.kp) ?_;refine qJ 26 O (af.kp)$ qJ 27 O (af.kp)$ qJ 28 O (af.kp)$ OG 29 O (U0 O O) (af.kp)$ qO 30$ PE (i:=30) O O (PG (news:=[.slice a m cp,I (c:Int)]) QJ O O O O (af.OA eS) (by simp)) ?_;rintro w5 ⟨bI,aj⟩;refine⟨af.kp.trans aj,?_⟩;replace bI:OP w5 b8 [.slice a m cp,I (c:Int)] 252:=bI;refine OG 31 O (Rp O) (af.kp.trans aj)$ qE$ Po.qb (e:=[(8,_),(9,_)]) ?_;refine Pf func151 (.cell Ya O QJ O (OP.cells (n:=2) bI (news:=[_,_]) O) O (.tmp O .nil)) ?_;have ax:TW p m size c=false:=decide_eq_false (λh=>by omega);rw[ax];exact⟨_,rfl,rfl,((aJ.trans dU).trans af).It aj (λi e=>by omega)⟩
  ·rcases Nat.lt_or_ge p.most m with c1|c1
   ·refine QV (λw'=>Kp (λi=>i=b8) w4 w') O$ qT 0 O (λ_ hS=>(Pp Ya O QJ O (OP.cells (n:=2) (hS.OA bM (by omega)) (news:=[_,_]) O) O)) (af.kp)$ OG 1 O (Pr Sv O) (af.kp)$ qT 2 O (λ_ hS=>(OM Pu O O (hS.OA bM (by omega)) O)) (af.kp)$ OG 3 O (SE Pu O) (af.kp)$ OG 4 O (Yf O O) (af.kp)$ TL$ OZ 5 O O (af.kp)$ OG 6 O (Pr Sv O) (af.kp)$ qT 7 O (λ_ hS=>(OM Pu O O (hS.OA bM (by omega)) O)) (af.kp)$ OG 8 O (SE Pu O) (af.kp)$ OG 9 O (Pr TC O) (af.kp)$ qT 10 O (λ_ hS=>(OM U3 O O (hS.OA i7 (by omega)) O)) (af.kp)$ OG 11 O (Z4 O O) (af.kp) ?_;refine TD$ OG 12 O (Uu O O) (af.kp)$ OZ 13 O O (af.kp)$ qJ 14 O (af.kp)$ qJ 15 O (af.kp)$ OG 16 O (U0 O O) (af.kp)$ OZ 17 O O (af.kp)$ qJ 18 O (af.kp)$ qJ 19 O (af.kp)$ qJ 20 O (af.kp)$ qJ 21 O (af.kp)$ OG 22 O (U0 O O) (af.kp)$ OZ 23 O O (af.kp)$ qJ 24 O (af.kp) ?_;refine qJ 25 O (af.kp)$ qJ 26 O (af.kp)$ qJ 27 O (af.kp)$ qJ 28 O (af.kp)$ OG 29 O (U0 O O) (af.kp)$ qO 30$ PE (i:=30) O O (PG (news:=[.slice a m cp,I (c:Int)]) QJ O O O O (af.OA eS) (by simp)) ?_;rintro w5 ⟨bI,aj⟩;refine⟨af.kp.trans aj,?_⟩;replace bI:OP w5 b8 [.slice a m cp,I (c:Int)] 252:=bI;refine OG 31 O (Rp O) (af.kp.trans aj)$ qE$ Po.qb (e:=[(8,_),(9,_)]) ?_;refine Pf func151 (.cell Ya O QJ O (OP.cells (n:=2) bI (news:=[_,_]) O) O (.tmp O .nil)) ?_;have ax:TW p m size c=false:=decide_eq_false (λh=>by omega);rw[ax];exact⟨_,rfl,rfl,((aJ.trans dU).trans af).It aj (λi e=>by omega)⟩
   ·rcases Nat.eq_zero_or_pos size with c2|c2
    ·refine QV (λw'=>Kp (λi=>i=b8) w4 w') O$ qT 0 O (λ_ hS=>(Pp Ya O QJ O (OP.cells (n:=2) (hS.OA bM (by omega)) (news:=[_,_]) O) O)) (af.kp)$ OG 1 O (Pr Sv O) (af.kp)$ qT 2 O (λ_ hS=>(OM Pu O O (hS.OA bM (by omega)) O)) (af.kp)$ OG 3 O (SE Pu O) (af.kp)$ OG 4 O (Yf O O) (af.kp)$ TL$ OZ 5 O O (af.kp)$ OG 6 O (Pr Sv O) (af.kp)$ qT 7 O (λ_ hS=>(OM Pu O O (hS.OA bM (by omega)) O)) (af.kp)$ OG 8 O (SE Pu O) (af.kp)$ OG 9 O (Pr TC O) (af.kp)$ qT 10 O (λ_ hS=>(OM U3 O O (hS.OA i7 (by omega)) O)) (af.kp)$ OG 11 O (Z4 O O) (af.kp) ?_;refine TL$ OG 12 O (Uu O O) (af.kp)$ OZ 13 O O (af.kp)$ OZ 14 O O (af.kp)$ OG 15 O (Yf O O) (af.kp)$ TD$ OG 16 O (Uu O O) (af.kp)$ OZ 17 O O (af.kp)$ qJ 18 O (af.kp)$ qJ 19 O (af.kp)$ qJ 20 O (af.kp)$ qJ 21 O (af.kp)$ OG 22 O (U0 O O) (af.kp)$ OZ 23 O O (af.kp) ?_;refine qJ 24 O (af.kp)$ qJ 25 O (af.kp)$ qJ 26 O (af.kp)$ qJ 27 O (af.kp)$ qJ 28 O (af.kp)$ OG 29 O (U0 O O) (af.kp)$ qO 30$ PE (i:=30) O O (PG (news:=[.slice a m cp,I (c:Int)]) QJ O O O O (af.OA eS) (by simp)) ?_;rintro w5 ⟨bI,aj⟩;refine⟨af.kp.trans aj,?_⟩;replace bI:OP w5 b8 [.slice a m cp,I (c:Int)] 252:=bI;refine OG 31 O (Rp O) (af.kp.trans aj)$ qE$ Po.qb (e:=[(8,_),(9,_)]) ?_;refine Pf func151 (.cell Ya O QJ O (OP.cells (n:=2) bI (news:=[_,_]) O) O (.tmp O .nil)) ?_;have ax:TW p m size c=false:=decide_eq_false (λh=>by omega);rw[ax];exact⟨_,rfl,rfl,((aJ.trans dU).trans af).It aj (λi e=>by omega)⟩
    ·rcases Nat.lt_or_ge p.most size with c3|c3
     ·refine QV (λw'=>Kp (λi=>i=b8) w4 w') O$ qT 0 O (λ_ hS=>(Pp Ya O QJ O (OP.cells (n:=2) (hS.OA bM (by omega)) (news:=[_,_]) O) O)) (af.kp)$ OG 1 O (Pr Sv O) (af.kp)$ qT 2 O (λ_ hS=>(OM Pu O O (hS.OA bM (by omega)) O)) (af.kp)$ OG 3 O (SE Pu O) (af.kp)$ OG 4 O (Yf O O) (af.kp)$ TL$ OZ 5 O O (af.kp)$ OG 6 O (Pr Sv O) (af.kp)$ qT 7 O (λ_ hS=>(OM Pu O O (hS.OA bM (by omega)) O)) (af.kp)$ OG 8 O (SE Pu O) (af.kp)$ OG 9 O (Pr TC O) (af.kp)$ qT 10 O (λ_ hS=>(OM U3 O O (hS.OA i7 (by omega)) O)) (af.kp)$ OG 11 O (Z4 O O) (af.kp) ?_;refine TL$ OG 12 O (Uu O O) (af.kp)$ OZ 13 O O (af.kp)$ OZ 14 O O (af.kp)$ OG 15 O (Yf O O) (af.kp)$ TL$ OG 16 O (Uu O O) (af.kp)$ OZ 17 O O (af.kp)$ OZ 18 O O (af.kp)$ OG 19 O (Pr TC O) (af.kp)$ qT 20 O (λ_ hS=>(OM U3 O O (hS.OA i7 (by omega)) O)) (af.kp)$ OG 21 O (Z4 O O) (af.kp)$ TD$ OG 22 O (Uu O O) (af.kp) ?_;refine OZ 23 O O (af.kp)$ qJ 24 O (af.kp)$ qJ 25 O (af.kp)$ qJ 26 O (af.kp)$ qJ 27 O (af.kp)$ qJ 28 O (af.kp)$ OG 29 O (U0 O O) (af.kp)$ qO 30$ PE (i:=30) O O (PG (news:=[.slice a m cp,I (c:Int)]) QJ O O O O (af.OA eS) (by simp)) ?_;rintro w5 ⟨bI,aj⟩;refine⟨af.kp.trans aj,?_⟩;replace bI:OP w5 b8 [.slice a m cp,I (c:Int)] 252:=bI;refine OG 31 O (Rp O) (af.kp.trans aj)$ qE$ Po.qb (e:=[(8,_),(9,_)]) ?_;refine Pf func151 (.cell Ya O QJ O (OP.cells (n:=2) bI (news:=[_,_]) O) O (.tmp O .nil)) ?_;have ax:TW p m size c=false:=decide_eq_false (λh=>by omega);rw[ax];exact⟨_,rfl,rfl,((aJ.trans dU).trans af).It aj (λi e=>by omega)⟩
     ·rcases Nat.lt_or_ge c p.chain with c4|c4
      ·refine QV (λw'=>Kp (λi=>i=b8) w4 w') O$ qT 0 O (λ_ hS=>(Pp Ya O QJ O (OP.cells (n:=2) (hS.OA bM (by omega)) (news:=[_,_]) O) O)) (af.kp)$ OG 1 O (Pr Sv O) (af.kp)$ qT 2 O (λ_ hS=>(OM Pu O O (hS.OA bM (by omega)) O)) (af.kp)$ OG 3 O (SE Pu O) (af.kp)$ OG 4 O (Yf O O) (af.kp)$ TL$ OZ 5 O O (af.kp)$ OG 6 O (Pr Sv O) (af.kp)$ qT 7 O (λ_ hS=>(OM Pu O O (hS.OA bM (by omega)) O)) (af.kp)$ OG 8 O (SE Pu O) (af.kp)$ OG 9 O (Pr TC O) (af.kp)$ qT 10 O (λ_ hS=>(OM U3 O O (hS.OA i7 (by omega)) O)) (af.kp)$ OG 11 O (Z4 O O) (af.kp) ?_;refine TL$ OG 12 O (Uu O O) (af.kp)$ OZ 13 O O (af.kp)$ OZ 14 O O (af.kp)$ OG 15 O (Yf O O) (af.kp)$ TL$ OG 16 O (Uu O O) (af.kp)$ OZ 17 O O (af.kp)$ OZ 18 O O (af.kp)$ OG 19 O (Pr TC O) (af.kp)$ qT 20 O (λ_ hS=>(OM U3 O O (hS.OA i7 (by omega)) O)) (af.kp)$ OG 21 O (Z4 O O) (af.kp)$ TL$ OG 22 O (Uu O O) (af.kp) ?_;refine OZ 23 O O (af.kp)$ OG 24 O (Pr z33 O) (af.kp)$ qT 25 O (λ_ hS=>(OM U3 O O (hS.OA bM (by omega)) O)) (af.kp)$ OG 26 O (Pr Zu O) (af.kp)$ qT 27 O (λ_ hS=>(OM U3 O O (hS.OA i7 (by omega)) O)) (af.kp)$ OG 28 O (ylt O O) (af.kp)$ TL$ OG 29 O (Uu O O) (af.kp)$ qO 30$ PE (i:=30) O O (PG (news:=[.slice a m cp,I (c:Int)]) QJ O O O O (af.OA eS) (by simp)) ?_;rintro w5 ⟨bI,aj⟩;refine⟨af.kp.trans aj,?_⟩;replace bI:OP w5 b8 [.slice a m cp,I (c:Int)] 252:=bI;refine OG 31 O (Rp O) (af.kp.trans aj)$ qE$ Po.qb (e:=[(8,_),(9,_)]) ?_;refine Pf func151 (.cell Ya O QJ O (OP.cells (n:=2) bI (news:=[_,_]) O) O (.tmp O .nil)) ?_;have ax:TW p m size c=true:=decide_eq_true ⟨by omega,by omega,by omega,by omega,by omega⟩;rw[ax];exact⟨_,rfl,rfl,((aJ.trans dU).trans af).It aj (λi e=>by omega)⟩
      ·refine QV (λw'=>Kp (λi=>i=b8) w4 w') O$ qT 0 O (λ_ hS=>(Pp Ya O QJ O (OP.cells (n:=2) (hS.OA bM (by omega)) (news:=[_,_]) O) O)) (af.kp)$ OG 1 O (Pr Sv O) (af.kp)$ qT 2 O (λ_ hS=>(OM Pu O O (hS.OA bM (by omega)) O)) (af.kp)$ OG 3 O (SE Pu O) (af.kp)$ OG 4 O (Yf O O) (af.kp)$ TL$ OZ 5 O O (af.kp)$ OG 6 O (Pr Sv O) (af.kp)$ qT 7 O (λ_ hS=>(OM Pu O O (hS.OA bM (by omega)) O)) (af.kp)$ OG 8 O (SE Pu O) (af.kp)$ OG 9 O (Pr TC O) (af.kp)$ qT 10 O (λ_ hS=>(OM U3 O O (hS.OA i7 (by omega)) O)) (af.kp)$ OG 11 O (Z4 O O) (af.kp) ?_;refine TL$ OG 12 O (Uu O O) (af.kp)$ OZ 13 O O (af.kp)$ OZ 14 O O (af.kp)$ OG 15 O (Yf O O) (af.kp)$ TL$ OG 16 O (Uu O O) (af.kp)$ OZ 17 O O (af.kp)$ OZ 18 O O (af.kp)$ OG 19 O (Pr TC O) (af.kp)$ qT 20 O (λ_ hS=>(OM U3 O O (hS.OA i7 (by omega)) O)) (af.kp)$ OG 21 O (Z4 O O) (af.kp)$ TL$ OG 22 O (Uu O O) (af.kp) ?_;refine OZ 23 O O (af.kp)$ OG 24 O (Pr z33 O) (af.kp)$ qT 25 O (λ_ hS=>(OM U3 O O (hS.OA bM (by omega)) O)) (af.kp)$ OG 26 O (Pr Zu O) (af.kp)$ qT 27 O (λ_ hS=>(OM U3 O O (hS.OA i7 (by omega)) O)) (af.kp)$ OG 28 O (ylt O O) (af.kp)$ TD$ OG 29 O (Uu O O) (af.kp)$ qO 30$ PE (i:=30) O O (PG (news:=[.slice a m cp,I (c:Int)]) QJ O O O O (af.OA eS) (by simp)) ?_;rintro w5 ⟨bI,aj⟩;refine⟨af.kp.trans aj,?_⟩;replace bI:OP w5 b8 [.slice a m cp,I (c:Int)] 252:=bI;refine OG 31 O (Rp O) (af.kp.trans aj)$ qE$ Po.qb (e:=[(8,_),(9,_)]) ?_;refine Pf func151 (.cell Ya O QJ O (OP.cells (n:=2) bI (news:=[_,_]) O) O (.tmp O .nil)) ?_;have ax:TW p m size c=false:=decide_eq_false (λh=>by omega);rw[ax];exact⟨_,rfl,rfl,((aJ.trans dU).trans af).It aj (λi e=>by omega)⟩
abbrev z7G:List (Value×Nat):=List.replicate 17 (.slice none 0 0,0)
def z9y (p:Qk)(hp:p.Qq)(w:World):Pm prog 111 [bpV p] w λu w'=>∃k wp F,u= .tuple #[ptr k 0,I 0]/\OP w' k (XY p z7G 0 wp 0) 257/\YT w' wp [] F/\¬F k/\Ext w w'/\w.heap.size<=k/\∀i,F i->w.heap.size<=i:=by
 refine py (e:=[(0,_)]) func111 O ntmps111 O O$ qN O$ OJ O O (R4 O (cs:=Vl p) O) ?_
 rintro _ w1 ⟨b1,rfl,bL,ad,ai⟩
 have z1:=ad.size
 refine Qm O$ An$ qN O$ qV (Pp (news:=Vl p) U75 O RD O (ai.cells (n:=5) O) O)$ P5 zeE O (ZV p hp w1) ?_
 rintro _ w2 ⟨rfl,ae⟩
 have z2:=ae.size
 have hg:=Ext.P4 w2
 refine QW O$ QE O$ Qg O$ An$ QV (λw'=>Ext w2 w') O$ qT 0 O (λ_ hS=>Pp (news:=Vl p) U75 O RD O ((hS.OA (ae.OA ai)).cells (n:=5) O) O) hg$ RT 1 O z0L O (Uy _) ?_
 rintro _ w3 ⟨wp,F,rfl,nx,ah,qP⟩
 refine⟨hg.trans ah,?_⟩
 have eA:=hg.trans ah
 have z3:=eA.size
 refine OG 2 O (Sa zjg O zgv O O) (hg.trans ah)$ qO 3$ XJ (i:=3) O O O (R4 O (cs:=XY p z7G 0 wp 0) O) ?_
 rintro _ w4 ⟨k,rfl,hk,aA,aK⟩
 refine⟨eA.trans aA,?_⟩
 refine OG 4 O (Rp O) (eA.trans aA)$ OG 5 O (Rp O) (eA.trans aA)$ qE$ OB func111 O ?_
 exact⟨_,rfl,k,wp,F,rfl,aK,nx.ext aA,λe=>by have:=nx.lt e;omega,((ad.trans ae).trans eA).trans aA,by omega,λi hi=>by have:=qP i hi;have:=hg.size;omega⟩
structure PkM (w:World)(k:Nat)(p:Qk)(L:List (List Nat))(E:List (Nat×Nat))(bs:List Bool)(F:Nat->Prop)(R:List (Value×Nat))(wp ed:Nat):Prop where
 OA:OP w k (XY p R L.length wp ed) 257
 len:R.length=17
 wr:YT w wp bs F
 nk:¬F k
 el:E.length=L.length
 ok:∀l∈L,PB l
 ring:∀j l e,L[j]? =some l->E[j]? =some e->L.length<=j+17->∃a cp,R[j%17]? =some (.slice a l.length cp,e.2)/\l.length<=cp/\Sl w (.slice a l.length cp) 59 1 l.length (l.map Px)/\(∀g,(Value.slice a l.length cp).ownBlock=some g->¬F g/\g≠k)
def PkM.ext {w w':World}{k:Nat}{p:Qk}{L:List (List Nat)}{E:List (Nat×Nat)}{bs:List Bool}{F:Nat->Prop}{R:List (Value×Nat)}{wp ed:Nat}(h:PkM w k p L E bs F R wp ed)(hx:Ext w w'):PkM w' k p L E bs F R wp ed:=
 ⟨hx.OA h.OA,h.len,h.wr.ext hx,h.nk,h.el,h.ok,λj l e h1 h2 h3=>by
  obtain⟨a,cp,g1,g2,g3,g4⟩:=h.ring j l e h1 h2 h3
  exact⟨a,cp,g1,g2,g3.ext hx,g4⟩⟩
def Found (p:Qk)(L:List (List Nat))(E:List (Nat×Nat))(R:List (Value×Nat))(size ref:Nat)(v:Value)(c:Nat):Prop:=
 (ref=0/\v= .slice none 0 0/\c=0)\/(1<=ref/\ref<=p.Pb/\ref<=L.length/\R[(L.length-ref)%17]? =some (v,c)/\∃l e,L[L.length-ref]? =some l/\E[L.length-ref]? =some e/\c=e.2/\TW p l.length size e.2=true)
structure AdM (w:World)(k b2 b3 b7 b8 b4 b9:Nat)(a:Option Addr)(m cp n least ref:Nat)(v:Value)(c:Nat):Prop where
 c2:OP w b2 [ptr k 0] 207
 c3:OP w b3 [.slice a m cp] 62
 c7:OP w b7 [I (n:Int)] 3
 c8:OP w b8 [I (least:Int)] 3
 c4:OP w b4 [I (ref:Int)] 3
 c9:OP w b9 [v,I (c:Int)] 252
def AdM.kp {S:Nat->Prop}{w w':World}{k b2 b3 b7 b8 b4 b9:Nat}{a:Option Addr}{m cp n least ref:Nat}{v:Value}{c:Nat}(h:AdM w k b2 b3 b7 b8 b4 b9 a m cp n least ref v c)(hk:Kp S w w')(hn:∀i,S i->i≠b2/\i≠b3/\i≠b7/\i≠b8/\i≠b4/\i≠b9):AdM w' k b2 b3 b7 b8 b4 b9 a m cp n least ref v c:=
 ⟨hk.OA h.c2 (λe=>(hn _ e).1 O),hk.OA h.c3 (λe=>(hn _ e).2.1 O),hk.OA h.c7 (λe=>(hn _ e).2.2.1 O),hk.OA h.c8 (λe=>(hn _ e).2.2.2.1 O),hk.OA h.c4 (λe=>(hn _ e).2.2.2.2.1 O),hk.OA h.c9 (λe=>(hn _ e).2.2.2.2.2 O)⟩
def AdM.ext {w w':World}{k b2 b3 b7 b8 b4 b9:Nat}{a:Option Addr}{m cp n least ref:Nat}{v:Value}{c:Nat}(h:AdM w k b2 b3 b7 b8 b4 b9 a m cp n least ref v c)(hk:Ext w w'):AdM w' k b2 b3 b7 b8 b4 b9 a m cp n least ref v c:=h.kp (S:=λ_=>False) hk.kp (λi e=>e.elim)
def zcN {w:World}{k:Nat}{p:Qk}(hp:p.Qq){L:List (List Nat)}{E:List (Nat×Nat)}{bs:List Bool}{F:Nat->Prop}{R:List (Value×Nat)}{wp ed:Nat}(h:PkM w k p L E bs F R wp ed)(hG:OP w 1 (Sg .gamma) 294)(hU:OP w 2 (Sg .unary) 294)(hL:L.length<65536)
  {b2 b3 b7 b8 b4 b9:Nat} {a:Option Addr} {cp least ref:Nat} {v:Value} {c:Nat} {succ:List Nat} (hs:PB succ) (lQ:succ.length<=cp) (eF:Rd w (.slice a succ.length cp) 1 succ.length (succ.map Px)) (hA:AdM w k b2 b3 b7 b8 b4 b9 a succ.length cp L.length least ref v c) (hF:Found p L E R succ.length ref v c)
  (hd:b8≠b2/\b8≠b3/\b8≠b7/\b4≠b2/\b4≠b3/\b4≠b7/\b9≠b2/\b9≠b3/\b9≠b7/\b8≠b4/\b8≠b9/\b4≠b9) (r:Nat) (h1:1<=r) (h2:r<=p.Pb):
  Pm prog 150 [I (r:Int),ptr b2 0,ptr b3 0,ptr b7 0,ptr b8 0,ptr b4 0,ptr b9 0] w λu w'=>u= .tuple #[]/\Kp (λi=>i=b8\/i=b4\/i=b9) w w'/\∃least' ref' v' c',AdM w' k b2 b3 b7 b8 b4 b9 a succ.length cp L.length least' ref' v' c'/\Found p L E R succ.length ref' v' c':=by
 have y8:p.Pb<=16:=hp.1.1
 obtain⟨a1,c1,m1,e1,y9,KK⟩:∃a1 c1 m1 e1,(r<=L.length->R[(L.length-r)%17]? =some (.slice a1 m1 c1,e1))/\(r<=L.length->∃l e,L[L.length-r]? =some l/\E[L.length-r]? =some e/\m1=l.length/\e1=e.2/\l.length<=c1/\Sl w (.slice a1 l.length c1) 59 1 l.length (l.map Px)):=by
  by_cases hr:r<=L.length
  ·obtain⟨l,hl⟩:∃l,L[L.length-r]? =some l:=⟨_,List.getElem?_eq_getElem (by omega)⟩;obtain⟨e,he⟩:∃e,E[L.length-r]? =some e:=⟨_,List.getElem?_eq_getElem (by have:=h.el;omega)⟩;obtain⟨a1,c1,g1,g2,g3,g4⟩:=h.ring _ l e hl he (by omega);exact⟨a1,c1,l.length,e.2,λ_=>g1,λ_=>⟨l,e,hl,he,rfl,rfl,g2,g3⟩⟩
  ·exact⟨none,0,0,0,λe=>absurd e hr,λe=>absurd e hr⟩
 have ft:=hA.c2
 have nz:=hA.c3
 have hg:=Ext.P4 w
 have mG:∀{w2:World},OP w2 k (XY p R L.length wp ed) 257->∀j u,(Vl p)[j]? =some u->w2.cell? ⟨k,0+j,none⟩=some u:=λhB j u hj=>hB.cells (i:=0) (n:=5) (news:=Vl p) O j u hj
 refine py (e:=[(0,_),(1,_),(2,_),(3,_),(4,_),(5,_),(6,_)]) func150 O ntmps150 O O$ An$ PD (λe' w'=>∃tb v1 d1 ok,e'=[(0,I (r:Int)),(1,ptr b2 0),(2,ptr b3 0),(3,ptr b7 0),(4,ptr b8 0),(5,ptr b4 0),(6,ptr b9 0),(8,ptr tb 0),(9,.bool ok)]/\Ext w w'/\w.heap.size<=tb/\OP w' tb [v1,I ((d1:Nat):Int)] 252/\(ok=true->r<=L.length/\v1= .slice a1 m1 c1/\d1=e1/\TW p m1 succ.length e1=true)) ?bE$ λbE=>?cM
 case bE=>
  rintro e' w1 ⟨tb,v1,d1,ok,rfl,ad,KD,qQ,ax⟩;have lL:=hA.ext ad;have ur:=lL.c2;have nP:=lL.c3;have KL:=lL.c7;have Ig:=lL.c8;refine PK O$ qV ((RZ O))$ OC$ Qf O (λh3=>?_)$ λh3=>?_
  ·refine OB func150 O ?_;exact⟨_,rfl,rfl,ad.kp,_,_,_,_,lL,hF⟩
  ·have Dy:ok=true:=by cases ok<;>simp_all
   obtain⟨Dz,rfl,rfl,fH⟩:=ax Dy;obtain⟨l,e,hl,he,rfl,rfl,pM,KM⟩:=KK Dz;have DA:=y9 Dz;have DB:PB l:=h.ok l (List.mem_of_getElem? hl);have bh:=Ext.P4 w1;refine OD$ An$ QV (λw'=>Ext w1 w') O$ qT 0 O (λ_ h=>(OM U3 O O (h.OA KL) O)) bh$ qT 1 O (λ_ h=>(OM Pu O O (h.OA nP) O)) bh$ OG 2 O (Pr Sv O) bh$ qT 3 O (λ_ h=>(OM Pu O O (h.OA qQ) O)) bh$ OZ 4 O O (bh)$ qT 5 O (λ_ h=>(OM We O O (h.OA ur) O)) bh$ OG 6 O (Q8 O) bh$ OG 7 O (Pr WU O) bh$ qT 8 O (λ_ hS=>Pp (news:=Vl p) U75 O RD O (mG (hS.OA (ad.OA h.OA))) O) bh$ RT 9 O z0H O (SX p _) ?_;rintro _ w9 ⟨rfl,fN⟩;refine⟨bh.trans fN,?_⟩;have gF:=bh.trans fN;have gG:=ad.trans gF;refine RT 10 O z5m O (VA p.list hp.1 L.length hL succ l hs DB r h2 (λe=>by omega) (gG.OA hG) (gG.OA hU) (eF.ext gG) (KM.rd.ext gG) lQ pM) ?_;rintro _ w10 ⟨rfl,bJ⟩;refine⟨gF.trans bJ,?_⟩;have gH:=gF.trans bJ;have mw:=lL.ext gH;have DC:=mw.c8;have DD:=gH.OA qQ
   generalize (P8 (Rq p.list L.length succ l r)).length=nb
   refine OZ 11 O O (gF.trans bJ)$ OG 12 O (Ru O O) (gF.trans bJ)$ OG 13 O (Ru O O) (gF.trans bJ)$ OG 14 O (Rp O) (gF.trans bJ)$ OG 15 O (Rp O) (gF.trans bJ)$ qE$ Po.qb (e:=[(0,_),(4,_),(5,_),(6,_),(8,_),(10,_)]) ?_;refine Pn O$ qV (OM U3 O O DC O)$ Qw O$ OC$ OQ O (λh4=>?_)$ λh4=>?_
   ·have kK:=Ext.P4 w10;have iu:=mw.ext kK;have lb8:=hA.c8.lt;have lb4:=hA.c4.lt;have lb9:=hA.c9.lt;have KN:¬(tb=b8\/tb=b4\/tb=b9):=by omega
    refine QV (λw'=>Kp (λi=>i=b8\/i=b4\/i=b9) w10 w') O$ OZ 0 O O (kK.kp)$ OZ 1 O O (kK.kp)$ qT 2 O (λ_ h=>Pp Ya O QJ O (OP.cells (n:=2) (h.OA DD KN) (news:=[_,_]) O) O) (kK.kp)$ qO 3$ PE (i:=3) O O (QG PV O O O iu.c8 (by simp)) ?_;rintro w11 ⟨bc,bz⟩;refine⟨kK.kp.trans (bz.OH λi e=> .inl e),?_⟩;have sB:Kp (λi=>i=b8\/i=b4\/i=b9) w10 w11:=kK.kp.trans (bz.OH λi e=> .inl e);have KO:=bz.OA iu.c4 (λe=>hd.2.2.2.2.2.2.2.2.2.1 e.symm);refine qO 4$ PE (i:=4) O O (QG PV O O O KO (by simp)) ?_;rintro w12 ⟨aX,bA⟩;refine⟨sB.trans (bA.OH λi e=> .inr (.inl e)),?_⟩;have ya:Kp (λi=>i=b8\/i=b4\/i=b9) w10 w12:=sB.trans (bA.OH λi e=> .inr (.inl e));have KP:=bA.OA (bz.OA iu.c9 (λe=>hd.2.2.2.2.2.2.2.2.2.2.1 e.symm)) (λe=>hd.2.2.2.2.2.2.2.2.2.2.2 e.symm);refine qO 5$ PE (i:=5) O O (PG (news:=[.slice a1 l.length c1,I (e.2:Int)]) QJ O O O O KP (by simp)) ?_;rintro w13 ⟨bV,dy⟩;refine⟨ya.trans (dy.OH λi e=> .inr (.inr e)),?_⟩;replace bV:OP w13 b9 [.slice a1 l.length c1,I (e.2:Int)] 252:=bV;replace aX:OP w12 b4 [I (r:Int)] 3:=aX;replace bc:OP w11 b8 [I (nb:Int)] 3:=bc;refine qE$ Qa func150 O ?_;obtain⟨d1,d2,d3,d4,d5,d6,d7,d8,d9,d10,d11,d12⟩:=hd;have nu:∀{b:Nat} {cs:List Value} {T:TypeId},OP w10.drew b cs T->b8≠b->b4≠b->b9≠b->OP w13 b cs T:=λhB n1 n2 n3=>dy.OA (bA.OA (bz.OA hB (λe=>n1 e.symm)) (λe=>n2 e.symm)) (λe=>n3 e.symm);refine⟨_,rfl,rfl,?_,nb,r,.slice a1 l.length c1,e.2,⟨nu iu.c2 d1 d4 d7,nu iu.c3 d2 d5 d8,nu iu.c7 d3 d6 d9,dy.OA (bA.OA bc d10) d11,dy.OA aX d12,bV⟩,.inr ⟨h1,h2,Dz,DA,l,e,hl,he,rfl,fH⟩⟩;exact((ad.trans gH).trans kK).kp.trans ((bz.OH λi e=> .inl e).trans ((bA.OH λi e=> .inr (.inl e)).trans (dy.OH λi e=> .inr (.inr e))))
   ·refine OD$ Qa func150 O ?_;exact⟨_,rfl,rfl,(ad.trans gH).kp,_,_,_,_,mw,hF⟩
 case cM=>
  rcases Nat.lt_or_ge L.length r with aS|km
  ·have aq:=hg;refine P9 [15] (λw'=>Ext w w') (by kernel_rfl) O$ qL 0 O (λ_ h=>(OM We O O (h.OA ft) O)) aq$ Pl 1 O (Q8 O) aq$ Pl 2 O (Pr Yk O) aq$ PQ 3 O O (aq)$ qL 4 O (λ_ h=>(OM Pu O O (h.OA nz) O)) aq$ Pl 5 O (SE Pu O) aq$ qL 6 O (λ_ h=>(OM We O O (h.OA ft) O)) aq$ Pl 7 O (Q8 O) aq$ Pl 8 O (Pr WU O) aq$ qL 9 O (λ_ hS=>Pp (news:=Vl p) U75 O RD O (mG (hS.OA h.OA)) O) aq$ XL (i:=10) (j:=14) (by kernel_rfl) ?_ ?_
   ·refine RV (i:=10) O O O (yc z8C O) (Xg (aq.OA h.OA) h.len (by omega) hp r succ.length h1 h2 y9) ?_;rintro _ w10 ⟨kD,bJ⟩;refine⟨aq.trans bJ,?_⟩;rw[if_neg (by omega)] at kD;subst kD
    try have cX:=bJ.OA cX
    have aq:=aq.trans bJ;refine PQ 11 O O aq$ Pl 12 O (Ru O O) aq$ Qe (i:=13) O (by kernel_rfl) O O (λ_=>Ru O O) aq$ R9 (i:=14) (by kernel_rfl)$ Qo (i:=14) O O O (Ry (cs:=[_,_]) QJ O) ?_;rintro _ w14 ⟨tb,rfl,oh,eT,cX⟩;refine⟨aq.trans eT,?_⟩;have kL:w.heap.size<=tb:=by have:=aq.size;omega
    have aq:=aq.trans eT;refine Tt [15]$ qO 15$ PE (i:=15) O O (PG (news:=[.slice none 0 0,I ((0:Nat):Int)]) QJ O O O O cX (by simp)) ?_;rintro w15 ⟨eU,kM⟩;refine⟨trivial,?_⟩;refine OG 16 O (Rp O) trivial$ qE ?_;exact(bE _ _ ⟨tb,.slice none 0 0,0,false,rfl,aq.It kM (λi e=>by omega),kL,eU,λe=>by cases e⟩).qb
   ·refine Qo (i:=14) O O O (Ry (cs:=[_,_]) QJ O) ?_;rintro _ w14 ⟨tb,rfl,oh,eT,cX⟩;refine⟨aq.trans eT,?_⟩;have kL:w.heap.size<=tb:=by have:=aq.size;omega
    have aq:=aq.trans eT;refine R9 (i:=10) (by kernel_rfl)$ RV (i:=10) O O O (yc z8C O) (Xg (aq.OA h.OA) h.len (by omega) hp r succ.length h1 h2 y9) ?_;rintro _ w10 ⟨kD,bJ⟩;refine⟨aq.trans bJ,?_⟩;rw[if_neg (by omega)] at kD;subst kD
    try have cX:=bJ.OA cX
    have aq:=aq.trans bJ;refine PQ 11 O O aq$ Pl 12 O (Ru O O) aq$ Qe (i:=13) O (by kernel_rfl) O O (λ_=>Ru O O) aq$ Tt [15]$ qO 15$ PE (i:=15) O O (PG (news:=[.slice none 0 0,I ((0:Nat):Int)]) QJ O O O O cX (by simp)) ?_;rintro w15 ⟨eU,kM⟩;refine⟨trivial,?_⟩;refine OG 16 O (Rp O) trivial$ qE ?_;exact(bE _ _ ⟨tb,.slice none 0 0,0,false,rfl,aq.It kM (λi e=>by omega),kL,eU,λe=>by cases e⟩).qb
  ·have aq:=hg;refine P9 [15] (λw'=>Ext w w') (by kernel_rfl) O$ qL 0 O (λ_ h=>(OM We O O (h.OA ft) O)) aq$ Pl 1 O (Q8 O) aq$ Pl 2 O (Pr Yk O) aq$ PQ 3 O O (aq)$ qL 4 O (λ_ h=>(OM Pu O O (h.OA nz) O)) aq$ Pl 5 O (SE Pu O) aq$ qL 6 O (λ_ h=>(OM We O O (h.OA ft) O)) aq$ Pl 7 O (Q8 O) aq$ Pl 8 O (Pr WU O) aq$ qL 9 O (λ_ hS=>Pp (news:=Vl p) U75 O RD O (mG (hS.OA h.OA)) O) aq$ XL (i:=10) (j:=14) (by kernel_rfl) ?_ ?_
   ·refine RV (i:=10) O O O (yc z8C O) (Xg (aq.OA h.OA) h.len (by omega) hp r succ.length h1 h2 y9) ?_;rintro _ w10 ⟨kD,bJ⟩;refine⟨aq.trans bJ,?_⟩;rw[if_pos km] at kD;subst kD
    try have cX:=bJ.OA cX
    have aq:=aq.trans bJ;refine PQ 11 O O aq$ Pl 12 O (Ru O O) aq$ Qe (i:=13) O (by kernel_rfl) O O (λ_=>Ru O O) aq$ R9 (i:=14) (by kernel_rfl)$ Qo (i:=14) O O O (Ry (cs:=[_,_]) QJ O) ?_;rintro _ w14 ⟨tb,rfl,oh,eT,cX⟩;refine⟨aq.trans eT,?_⟩;have kL:w.heap.size<=tb:=by have:=aq.size;omega
    have aq:=aq.trans eT;refine Tt [15]$ qO 15$ PE (i:=15) O O (PG (news:=[.slice a1 m1 c1,I ((e1:Nat):Int)]) QJ O O O O cX (by simp)) ?_;rintro w15 ⟨eU,kM⟩;refine⟨trivial,?_⟩;refine OG 16 O (Rp O) trivial$ qE ?_;exact(bE _ _ ⟨tb,.slice a1 m1 c1,e1,TW p m1 succ.length e1,rfl,aq.It kM (λi e=>by omega),kL,eU,λe=>⟨km,rfl,rfl,e⟩⟩).qb
   ·refine Qo (i:=14) O O O (Ry (cs:=[_,_]) QJ O) ?_;rintro _ w14 ⟨tb,rfl,oh,eT,cX⟩;refine⟨aq.trans eT,?_⟩;have kL:w.heap.size<=tb:=by have:=aq.size;omega
    have aq:=aq.trans eT;refine R9 (i:=10) (by kernel_rfl)$ RV (i:=10) O O O (yc z8C O) (Xg (aq.OA h.OA) h.len (by omega) hp r succ.length h1 h2 y9) ?_;rintro _ w10 ⟨kD,bJ⟩;refine⟨aq.trans bJ,?_⟩;rw[if_pos km] at kD;subst kD
    try have cX:=bJ.OA cX
    have aq:=aq.trans bJ;refine PQ 11 O O aq$ Pl 12 O (Ru O O) aq$ Qe (i:=13) O (by kernel_rfl) O O (λ_=>Ru O O) aq$ Tt [15]$ qO 15$ PE (i:=15) O O (PG (news:=[.slice a1 m1 c1,I ((e1:Nat):Int)]) QJ O O O O cX (by simp)) ?_;rintro w15 ⟨eU,kM⟩;refine⟨trivial,?_⟩;refine OG 16 O (Rp O) trivial$ qE ?_;exact(bE _ _ ⟨tb,.slice a1 m1 c1,e1,TW p m1 succ.length e1,rfl,aq.It kM (λi e=>by omega),kL,eU,λe=>⟨km,rfl,rfl,e⟩⟩).qb
def Qz (L:List (List Nat))(n r:Nat):List Nat:=if r=0 then [] else(L[n-r]?).getD []
def ZL (p:Qk)(L:List (List Nat))(E:List (Nat×Nat))(n size:Nat)(e:Nat×Nat):Prop:=
 e=(0,0)\/(1<=e.1/\e.1<=p.Pb/\e.1<=n/\∃l e',L[n-e.1]? =some l/\E[n-e.1]? =some e'/\e.2=e'.2+1/\TW p l.length size e'.2=true)
theorem zfB {j n:Nat}(h1:j<n)(h2:n+1<=j+17):j%17≠n%17:=by omega
theorem PkM.add {w wA wB wC wD wE wF:World}{k:Nat}{p:Qk}{L:List (List Nat)}{E:List (Nat×Nat)}{bs bs':List Bool}{F F':Nat->Prop}{R:List (Value×Nat)}{wp ed b4:Nat}(h:PkM w k p L E bs F R wp ed)(lS:Ext w wA)(jq:Kp F wA wB)(Bs:YT wB wp bs' F')(qR:∀i,F' i->F i\/wA.heap.size<=i)
  {a':Option Addr} {cp' ch r:Nat} {succ:List Nat} (hs:PB succ) (DE:Ext wB wC) (wH:Sl wC (.slice a' succ.length cp') 59 1 succ.length (succ.map Px)) (ut:succ.length<=cp') (cB:∀g,(Value.slice a' succ.length cp').ownBlock=some g->wB.heap.size<=g)
  (fR:Kp (λi=>i=k) wC wD) (pK:Kp (λi=>i=k) wD wE) (uu:Kp (λi=>i=b4) wE wF) (fZ:w.heap.size<=b4) (KQ:b4<wA.heap.size) (DF:OP wF k (XY p (R.set (L.length%17) (.slice a' succ.length cp',ch)) (L.length+1) wp (ed+succ.length)) 257):
  PkM wF k p (L++[succ]) (E++[(r,ch)]) bs' F' (R.set (L.length%17) (.slice a' succ.length cp',ch)) wp (ed+succ.length)/\Kp (λi=>F i\/i=k) w wF/\∀i,F' i->F i\/w.heap.size<=i:=by
 have lk:=h.OA.lt
 have zA:=lS.size
 have zB:=jq.size
 have ko:∀i,F i->i<w.heap.size:=λi hi=>h.wr.lt hi
 have ot:∀i,F' i->i<wB.heap.size:=λi hi=>Bs.lt hi
 have uv:¬F' k:=λe=>by rcases qR k e with e|e;exact h.nk e;omega
 have DG:¬F' b4:=λe=>by rcases qR b4 e with e|e;(have:=ko _ e;omega);omega
 have DH:∀{v:Value} {n:Nat} {cs:List Value},Sl w v 59 1 n cs->(∀g,v.ownBlock=some g->¬F g/\g≠k)->Sl wF v 59 1 n cs:=λhS hg=>
  ((((((hS.ext lS).kp jq (λg e=>(hg g e).1)).ext DE).kp fR (λg e=>(hg g e).2)).kp pK (λg e=>(hg g e).2)).kp uu (λg e e'=>by have:=hS.lt e;omega))
 have KR:=((wH.kp fR (λg e e'=>by have:=cB g e;omega)).kp pK (λg e e'=>by have:=cB g e;omega)).kp uu (λg e e'=>by have:=cB g e;omega)
 refine⟨⟨by rw[List.length_append,List.length_singleton];exact DF,by rw[List.length_set];exact h.len,(((Bs.ext DE).kp fR (λi hi e=>uv (e▸hi))).kp pK (λi hi e=>uv (e▸hi))).kp uu (λi hi e=>DG (e▸hi)),uv,by rw[List.length_append,List.length_append,h.el];rfl,λl hl=>?_,λj l e h1 h2 h3=>?_⟩,?_,λi hi=>?_⟩
 ·rcases List.mem_append.1 hl with hl|hl
  ·exact h.ok l hl
  ·rw[List.mem_singleton.1 hl];exact hs
 ·rw[List.length_append,List.length_singleton] at h3;rcases Nat.lt_or_ge j L.length with hj|hj
  ·rw[List.getElem?_append_left hj] at h1;rw[List.getElem?_append_left (by rw[h.el];exact hj)] at h2;obtain⟨a,cp,g1,g2,g3,g4⟩:=h.ring j l e h1 h2 (by omega);refine⟨a,cp,?_,g2,DH g3 g4,λg hg=>⟨λe'=>?_,(g4 g hg).2⟩⟩
   ·rw[List.getElem?_set_ne (λe'=>zfB hj (by omega) e'.symm)];exact g1
   ·rcases qR g e' with e'|e'
    ·exact(g4 g hg).1 e'
    ·have:=g3.lt hg;omega
  ·have yb:=(List.getElem?_eq_some_iff.1 h1).1;rw[List.length_append,List.length_singleton] at yb;have ej:j=L.length:=by omega
   subst ej;rw[List.getElem?_append_right (Nat.le_refl _),Nat.sub_self,List.getElem?_cons_zero] at h1;rw[List.getElem?_append_right (by rw[h.el];exact Nat.le_refl _),h.el,Nat.sub_self,List.getElem?_cons_zero] at h2;cases h1;cases h2;refine⟨a',cp',List.getElem?_set_self (by rw[h.len];exact Nat.mod_lt _ (by decide)),ut,KR,λg hg=>⟨λe'=>?_,λe'=>?_⟩⟩
   ·have:=cB g hg;have:=ot g e';omega
   ·have:=cB g hg;omega
 ·exact((((lS.kp.trans (jq.OH λi e=> .inl e)).trans DE.kp).trans (fR.OH λi e=> .inr e)).trans (pK.OH λi e=> .inr e)).It uu (λi e=> .inl (by omega))
 ·rcases qR i hi with e| e
  ·exact .inl e
  ·exact .inr (by omega)
def z9u {w:World}{k:Nat}{p:Qk}(hp:p.Qq){L:List (List Nat)}{E:List (Nat×Nat)}{bs:List Bool}{F:Nat->Prop}{R:List (Value×Nat)}{wp ed:Nat}(h:PkM w k p L E bs F R wp ed)(hG:OP w 1 (Sg .gamma) 294)(hU:OP w 2 (Sg .unary) 294)(hL:L.length<65536)
  {a:Option Addr} {cp:Nat} {succ:List Nat} (hs:PB succ) (lQ:succ.length<=cp) (eF:Rd w (.slice a succ.length cp) 1 succ.length (succ.map Px)) (Bt:ed+succ.length<=1048576) (KS:∀g,0<succ.length->(Value.slice a succ.length cp).ownBlock=some g->¬F g/\g≠k)
  (ou:∀r,r<=p.Pb->bs.length+(P8 (Rq p.list L.length succ (Qz L L.length r) r)).length<=134217728):
  Pm prog 113 [ptr k 0,.slice a succ.length cp] w λu w'=>∃(r least ch:Nat) (F':Nat->Prop) (R':List (Value×Nat)),u= .tuple #[I (r:Int),I (least:Int),I 0]/\ZL p L E L.length succ.length (r,ch)/\
   PkM w' k p (L++[succ]) (E++[(r,ch)]) (bs++P8 (Rq p.list L.length succ (Qz L L.length r) r)) F' R' wp (ed+succ.length)/\Kp (λi=>F i\/i=k) w w'/\∀i,F' i->F i\/w.heap.size<=i:=by
 have y8:p.Pb<=16:=hp.1.1
 have lk:=h.OA.lt
 have mG:∀{w2:World},OP w2 k (XY p R L.length wp ed) 257->∀j u,(Vl p)[j]? =some u->w2.cell? ⟨k,0+j,none⟩=some u:=λhB j u hj=>hB.cells (i:=0) (n:=5) (news:=Vl p) O j u hj
 refine py (e:=[(0,_),(1,_)]) func113 O ntmps113 O O$ qN O$ OJ O O (R4 O (cs:=[ptr k 0]) O) ?_
 rintro _ w1 ⟨b2,rfl,bN,ad,ak⟩
 refine OJ O O (R4 O (cs:=[.slice a succ.length cp]) O) ?_
 rintro _ w2 ⟨b3,rfl,dG,ae,ar⟩
 refine OJ O O (Ry (cs:=[_]) PV O) ?_
 rintro _ w3 ⟨b4,rfl,fZ,ah,aK⟩
 have z1:=ad.size
 have z2:=ae.size
 have z3:=ah.size
 have lb2:=ak.lt
 have lb3:=ar.lt
 have lb4:=aK.lt
 have ck:=(ad.trans ae).trans ah
 have bF:=ah.OA (ae.OA ak)
 have eN:=ah.OA ar
 have oq:=ck.OA h.OA
 replace aK:OP w3 b4 [I ((0:Nat):Int)] 3:=aK
 refine Qm O$ QA$ qN O$ qV ((OM We O O bF O))$ qV (PY We O O)$ OV O$ OL O$ qN O$ qV ((OM We O O bF O))$ Pq O$ OW Yk O$ OW UZ O$ qV (OM U3 O O oq (z7d h.len))$ U8 O ?_
 refine PH$ OV O$ SH O$ Oz$ qN O$ qV ((OM We O O bF O))$ Pq O$ OW Yk O$ OW UZ O$ qV (OM U3 O O oq (z7d h.len))$ OJ O O (Ry (cs:=[_]) PV O) ?_
 rintro _ w4 ⟨b7,rfl,mg,aA,bO⟩
 have z4:=aA.size
 have lb7:=bO.lt
 refine OT O (QG PV O O O bO (by simp)) ?_
 rintro w5 ⟨mC,aj⟩
 replace mC:OP w5 b7 [I (L.length:Int)] 3:=mC
 have cw:Ext w3 w5:=aA.It aj (λi e=>by omega)
 have bS:=ck.trans cw
 have z5:=cw.size
 have z45:=aj.size
 have yd:=bS.OA h.OA
 have dK:=cw.OA bF
 have cW:=cw.OA eN
 have aO:=cw.OA aK
 have ev:=Ext.P4 w5
 refine OC$ An$ PD (λe' w'=>∃b8 least,e'=[(2,ptr b2 0),(3,ptr b3 0),(4,ptr b4 0),(7,ptr b7 0),(8,ptr b8 0),(6,I 0)]/\Ext w5 w'/\w5.heap.size<=b8/\OP w' b8 [I ((least:Nat):Int)] 3) ?bE$ λbE=>?cM
 case bE =>
  rintro e' w6 ⟨b8,least0,rfl,aR,ja,cj⟩;have z6:=aR.size;have lb8:=cj.lt;have iO:=bS.trans aR;have DI:=aR.OA yd;have gY:=aR.OA dK;have jp:=aR.OA cW;have dQ:=Ext.P4 w6;refine QA$ Pn O$ QE O$ OV O$ OL O$ An$ QV (λw'=>Ext w6 w') O$ qT 0 O (λ_ h=>(OM We O O (h.OA gY) O)) dQ$ OG 1 O (Q8 O) dQ$ OG 2 O (Pr z30 O) dQ$ qT 4 O (λ_ h=>(OM Pu O O (h.OA jp) O)) dQ$ OG 5 O (SE Pu O) dQ$ qT 3 O (λ_ hS=>OM U3 O O (hS.OA DI) (zhI h.len)) dQ$ OG 6 O (UO O O (by omega)) dQ ?_;refine OG 7 O (Yf O O) dQ$ TD$ OG 8 O (Rp O) dQ$ qE$ SH O$ Oz$ qN O ?_;have zg6:=dQ.size;refine OJ O O (Ry (cs:=[_,_]) QJ O) ?_;rintro _ w7 ⟨b9,rfl,jb,co,cK⟩;have lb9:=cK.lt;have eV:=dQ.trans co;have kr:=iO.trans eV;have i8:=aR.trans eV;have z7:=kr.size;have z67:=eV.size;have DJ:=kr.OA h.OA;have Bk:AdM w7 k b2 b3 b7 b8 b4 b9 a succ.length cp L.length least0 0 (.slice none 0 0) 0:=⟨eV.OA gY,eV.OA jp,i8.OA mC,eV.OA cj,i8.OA aO,cK⟩;have hd:b8≠b2/\b8≠b3/\b8≠b7/\b4≠b2/\b4≠b3/\b4≠b7/\b9≠b2/\b9≠b3/\b9≠b7/\b8≠b4/\b8≠b9/\b4≠b9:=by omega
  refine qM O$ qV (ymf (first:=[]) (caps:=[.tmp 2,.tmp 3,.tmp 7,.tmp 8,.tmp 4,.tmp 9]) O O)$ OV O$ An$ qN O ?_;have DK:=Bk.c2;refine qV (OM We O O DK O)$ Pq O$ OW WU O$ OW z1K O$ qV (OM U3 O O DJ O)$ ON O$ OC$ Po.qb (e:=[(2,_),(3,_),(4,_),(6,_),(7,_),(8,_),(9,_),(10,_),(58,_),(59,_)]) ?_;refine OE$ Rr (α:=Nat) (0) (λi=>[(2,ptr b2 0),(3,ptr b3 0),(4,ptr b4 0),(7,ptr b7 0),(8,ptr b8 0),(9,ptr b9 0),(10,.func (.func 150) #[] #[ptr b2 0,ptr b3 0,ptr b7 0,ptr b8 0,ptr b4 0,ptr b9 0]),(58,I (p.Pb:Int)),(59,I (i:Int))]) (λi w'=>Ext w w'/\w7.heap.size<=w'.heap.size/\i<=p.Pb/\∃least ref v c,AdM w' k b2 b3 b7 b8 b4 b9 a succ.length cp L.length least ref v c/\Found p L E R succ.length ref v c) (λi=>p.Pb-i) ?hI ?hround
  case hI=>exact⟨kr,Nat.le_refl _,Nat.zero_le _,_,_,_,_,Bk,.inl ⟨rfl,rfl,rfl⟩⟩
  case hround=>
   rintro i wA ⟨lS,NN,hi,least,ref,v,c,hA,hF⟩ ih
   try dsimp only
   refine qN O$ Qw O$ OC$ An$ OQ O (λh0=>?_)$ λh0=>?_
   ·refine OD$ QA$ Pn O$ OV O$ OK O$ Pa O$ PS O ?_;rw[show(i:Int)+1=((i+1:Nat):Int) by omega];refine Qp O O (RN ziB O O) (zcN hp (h.ext lS) (lS.OA hG) (lS.OA hU) hL hs lQ (eF.ext lS) hA hF hd (i+1) (by omega) (by omega)) ?_;rintro _ w9 ⟨rfl,aw,least',ref',v',c',si,KT⟩;have z9:=aw.size;refine OC$ Oz$ OK O$ PS O$ ON O$ OC ?_;exact(ih (i+1) _ ⟨lS.It aw (λi hi=>by omega),by omega,by omega,_,_,_,_,si,KT⟩ (by omega)).qb
   ·have je:∀b,w.heap.size<=b->¬F b:=λb hb e=>by have:=h.wr.lt e;omega
    have uw:=lS.OA h.OA
    have xq:ref<=p.Pb/\(ref=0->Qz L L.length ref=[])/\PB (Qz L L.length ref)/\(∃va vc,v= .slice va (Qz L L.length ref).length vc/\(Qz L L.length ref).length<=vc/\Rd wA (.slice va (Qz L L.length ref).length vc) 1 (Qz L L.length ref).length ((Qz L L.length ref).map Px))/\ZL p L E L.length succ.length (ref,if 0<ref then c+1 else 0)/\c<=65536:=by
     rcases hF with⟨rfl,rfl,rfl⟩|⟨f1,f2,f3,f4,l,e,f5,f6,rfl,f8⟩
     ·refine⟨Nat.zero_le _,λ_=>rfl,⟨List.Pairwise.nil,λy h=>(by cases h)⟩,⟨none,0,rfl,Nat.zero_le _,VB⟩,.inl rfl,Nat.zero_le _⟩
     ·have jf:Qz L L.length ref=l:=by unfold Qz;rw[if_neg (by omega),f5];rfl
      obtain⟨va,vc,g1,g2,g3,g4⟩:=h.ring _ l e f5 f6 (by omega);rw[f4] at g1;have gv:v= .slice va l.length vc:=(Prod.mk.inj (Rx g1)).1;have hb:=of_decide_eq_true f8;have KU:=hp.2.1;rw[jf];exact⟨f2,λe=>by omega,h.ok l (List.mem_of_getElem? f5),⟨va,vc,gv,g2,(g3.ext lS).rd⟩,.inr ⟨f1,f2,f3,l,e,f5,f6,by dsimp only;rw[if_pos (by omega)],f8⟩,by omega⟩
    obtain⟨dj,dt,ci,⟨va,vc,rfl,bG,bP⟩,i9,KV⟩:=xq;have Bu:=ou ref dj
    generalize DL:Qz L L.length ref=lr at dt ci bG bP Bu hA
    have qn:=hA.c2;have wu:=hA.c3;have DM:=hA.c7;have ye:=hA.c9;have yf:=hA.c4;have DN:=hA.c8;have kN:=Ext.P4 wA;refine OO O$ An$ An$ QV (λw'=>Kp F wA w') O$ qT 0 O (λ_ hS=>(OM We O O (hS.OA qn (je _ (by omega))) O)) (kN.kp)$ OG 1 O (Q8 O) (kN.kp)$ OG 2 O (Pr z3n O) (kN.kp)$ qT 4 O (λ_ hS=>(OM U3 O O (hS.OA DM (je _ (by omega))) O)) (kN.kp)$ qT 5 O (λ_ hS=>(OM Pu O O (hS.OA wu (je _ (by omega))) O)) (kN.kp)$ OG 6 O (Pr Sv O) (kN.kp)$ qT 7 O (λ_ hS=>(OM Pu O O (hS.OA ye (je _ (by omega))) O)) (kN.kp)$ qT 8 O (λ_ hS=>(OM U3 O O (hS.OA yf (je _ (by omega))) O)) (kN.kp)$ qT 9 O (λ_ hS=>(OM We O O (hS.OA qn (je _ (by omega))) O)) (kN.kp)$ OG 10 O (Q8 O) (kN.kp) ?_;refine OG 11 O (Pr WU O) (kN.kp)$ qT 3 O (λ_ hS=>OM z3K O O (hS.OA uw h.nk) (zfk h.len)) (kN.kp)$ qT 12 O (λ_ hS=>Pp (news:=Vl p) U75 O RD O (mG (hS.OA uw h.nk)) O) (kN.kp)$ RT 13 O z0H O (SX p _) ?_;rintro _ w9 ⟨rfl,fN⟩;refine⟨(kN.trans fN).kp,?_⟩;have mH:=kN.trans fN;have gG:=lS.trans mH;refine RT 14 O zeH O (ZQ (h.wr.ext gG) p.list hp.1 L.length hL succ lr hs ci ref dj dt (gG.OA hG) (gG.OA hU) (eF.ext gG) (bP.ext mH) lQ bG Bu) ?_;rintro _ wB ⟨rfl,F',Bs,jq,qR⟩;refine⟨mH.kp.trans jq,?_⟩;have iP:Kp F wA wB:=mH.kp.trans jq;have DO:∀i,F' i->F i\/wA.heap.size<=i:=λi hi=>(qR i hi).imp id (λe=>by have:=mH.size;omega);have yg:=iP.OA yf (je _ (by omega));have DP:=iP.OA ye (je _ (by omega));have yh:=iP.OA qn (je _ (by omega));have yi:=iP.OA wu (je _ (by omega));have DQ:=iP.OA DN (je _ (by omega));have DR:=iP.OA uw h.nk;have QS:=iP.size;have DS:Rd wB (.slice a succ.length cp) 1 succ.length (succ.map Px):=(eF.ext lS).kpz iP (λh0 g hg=>(KS g h0 hg).1);refine OG 15 O (Rp O) (mH.kp.trans jq)$ qE$ Po.qb (e:=[(2,_),(3,_),(4,_),(8,_),(9,_),(12,_)]) ?_;refine Pn O$ QE O$ Qg O$ Qx O$ An$ qN O$ qV ((OM U3 O O yg O))$ QB O$ OC$ PD (λe' w'=>e'=[(2,ptr b2 0),(3,ptr b3 0),(4,ptr b4 0),(8,ptr b8 0),(13,I ((if 0<ref then c+1 else 0:Nat):Int))]/\w'=wB) ?aq$ λaq=>?ey
    case aq=>
     rintro e' wB' ⟨rfl,rfl⟩
     generalize (if 0<ref then c+1 else 0)=ch at i9
     have qU:=Ext.P4 wB';have DT:∀i,i<wB'.heap.size->¬(Value.slice none 0 0).ownBlock=some i:=λi _ e=>by cases e
     refine An$ QV (λw'=>Kp (λi=>i=k) wB' w') O$ qT 0 O (λ_ hS=>(OM We O O (hS.OA yh (by omega)) O)) (qU.kp)$ OG 1 O (Q8 O) (qU.kp)$ OG 2 O (Pr Yk O) (qU.kp)$ qT 3 O (λ_ hS=>(OM Pu O O (hS.OA yi (by omega)) O)) (qU.kp)$ OZ 5 O O (qU.kp)$ qO 4$ XJ (i:=4) O O O (pap Pu P6 O (by decide) O O (Sl.nil _ _ _) (DS.ext qU) (z3s _) (by omega) (by simp only[maxLen];omega)) ?_;rintro v' wC ⟨wH,jV,KW,-⟩;refine⟨qU.kp.trans (jV.OH λi e=>by cases e),?_⟩;have kO:Ext wB' wC:=qU.trans ((Ext.refl _).It jV (λi e=>by cases e));rw[Nat.zero_add,List.nil_append] at wH;obtain⟨a',cp',rfl,-⟩:=wH.rd.shape
     have ut:succ.length<=cp':=by
      rcases wH.shape with⟨e,h0⟩|⟨g,c1,hv,fx⟩
      ·omega
      ·cases hv;exact fx
     have yj:∀g,(Value.slice a' succ.length cp').ownBlock=some g->wB'.heap.size<=g:=λg hg=>by
      rcases KW g hg with e| e
      ·cases e
      ·have:=qU.size;omega
     have DU:=kO.OA DR;refine RT 6 O zjo O (zbC DU h.len (by omega) a' succ.length cp' ch) ?_;rintro _ wD ⟨rfl,Ih,fR⟩;refine⟨kO.kp.trans fR,?_⟩;have di:(R.set (L.length%17) (.slice a' succ.length cp',ch)).length=17:=by rw[List.length_set];exact h.len
     have DV:=fR.OA (kO.OA yh) (by omega);have DW:=fR.OA (kO.OA yi) (by omega);have DX:=fR.OA (kO.OA yg) (by omega);have DY:=fR.OA (kO.OA DQ) (by omega);have ov:=Ext.P4 wD;refine qE$ An$ P9 [9] (λw'=>Ext wD w') (by kernel_rfl) O$ qL 0 O (λ_ h=>(OM We O O (h.OA DV) O)) ov$ Pl 1 O (Q8 O) ov$ Pl 2 O (Pr z30 O) ov$ qL 4 O (λ_ h=>(OM Pu O O (h.OA DW) O)) ov$ Pl 5 O (SE Pu O) ov$ qL 3 O (λ_ h=>OM U3 O O (h.OA Ih) (zhI di)) ov$ Pl 6 O (UO O O (by omega)) ov$ Pl 7 O (Q8 O) ov$ Pl 8 O (Pr z30 O) ov$ Tt [9]$ qO 9 ?_;refine PE (i:=9) O O (QG PV O O O (ov.OA Ih) (by rw[z5T di];decide)) ?_;rintro wE ⟨Bv,DZ⟩;refine⟨trivial,?_⟩;replace Bv:OP wE k ((XY p (R.set (L.length%17) (.slice a' succ.length cp',ch)) (L.length+1) wp ed).set 41 (I ((ed+succ.length:Nat):Int))) 257:=Bv;rw[zdL di] at Bv;have pK:Kp (λi=>i=k) wD wE:=ov.kp.trans DZ;have ux:=pK.OA DX (by omega);have E0:=pK.OA DY (by omega);have qW:=Ext.P4 wE;refine qE$ An$ QV (λw'=>Kp (λi=>i=b4) wE w'/\OP w' b4 [I (ref:Int)] 3) O$ qT 0 O (λ_ h=>(OM U3 O O h.2 O)) (⟨qW.kp,qW.OA ux⟩)$ qT 1 O (λ_ hS=>(OM U3 O O (hS.1.OA E0 (by omega)) O)) (⟨qW.kp,qW.OA ux⟩)$ qO 2$ PE (i:=2) O O (QG PV O O O (qW.OA ux) (by simp)) ?_;rintro wF ⟨mI,qX⟩;refine⟨⟨qW.kp.trans qX,mI⟩,?_⟩;replace mI:OP wF b4 [I (ref:Int)] 3:=mI;have uu:Kp (λi=>i=b4) wE wF:=qW.kp.trans qX;have DF:=uu.OA Bv (by omega);refine OG 3 O (Rp O) (⟨qW.kp.trans qX,mI⟩)$ OG 4 O (Rp O) (⟨qW.kp.trans qX,mI⟩)$ qE$ Po.qb (e:=[(4,_),(5,_),(6,_)]) ?_;refine Pf func113 (.cell1 U3 O O ((mI).cell _) (.tmp O (.tmp O .nil))) ?_;obtain⟨q1,q2,q3⟩:=h.add (r:=ref) lS iP Bs DO hs kO wH ut yj fR pK uu (by omega) (by omega) DF;exact⟨_,rfl,ref,least,ch,F',_,rfl,i9,by rw[DL];exact q1,q2,q3⟩
    case ey=>
     refine OQ O (λh5=>?_)$ λh5=>?_
     ·refine OK O$ OW z33 O$ qV (OM U3 O O DP O)$ PS O$ OV O ?_;rw[show(c:Int)+1=((if 0<ref then c+1 else 0:Nat):Int) by rw[if_pos (by omega)];omega];exact(aq _ _ ⟨rfl,rfl⟩).qb
     ·refine OD ?_;have jx:(if 0<ref then c+1 else 0)=0:=if_neg (by omega);exact(aq _ _ ⟨by rw[jx],rfl⟩).qb
 case cM=>
  have aq:=ev;refine P9 [12] (λw'=>Ext w5 w') (by kernel_rfl) O$ qL 0 O (λ_ h=>(OM U3 O O (h.OA mC) O)) aq$ qL 1 O (λ_ h=>(OM Pu O O (h.OA cW) O)) aq$ qL 2 O (λ_ h=>(OM We O O (h.OA dK) O)) aq$ Pl 3 O (Q8 O) aq$ Pl 4 O (Pr WU O) aq$ qL 5 O (λ_ h=>Pp (news:=Vl p) U75 O RD O (mG (h.OA yd)) O) aq$ XL (i:=6) (j:=11) (by kernel_rfl) ?_ ?_
  ·refine RV (i:=6) O O O (yc z0H O) (SX p _) ?_;rintro _ w6 ⟨rfl,aR⟩;refine⟨aq.trans aR,?_⟩
   try have bc:=aR.OA bc
   have aq:=aq.trans aR;refine XL (i:=7) (j:=11) (by kernel_rfl) ?_ ?_
   ·refine RV (i:=7) O O O (yc z5m O) (VA p.list hp.1 L.length hL succ [] hs ⟨List.Pairwise.nil,λy h=>(by cases h)⟩ 0 (Nat.zero_le _) (λ_=>rfl) ((bS.trans aq).OA hG) ((bS.trans aq).OA hU) (eF.ext (bS.trans aq)) VB lQ (Nat.zero_le _)) ?_;rintro _ w7 ⟨rfl,co⟩;refine⟨aq.trans co,?_⟩
    try have bc:=co.OA bc
    have aq:=aq.trans co;refine PQ 8 O O aq$ Pl 9 O (Ru O O) aq$ Qe (i:=10) O (by kernel_rfl) O O (λ_=>Ru O O) aq$ R9 (i:=11) (by kernel_rfl)$ Qo (i:=11) O O O (Ry (cs:=[_]) PV O) ?_;rintro _ w11 ⟨b8,rfl,jo,aV,bc⟩;refine⟨aq.trans aV,?_⟩;have ox:w5.heap.size<=b8:=by have:=aq.size;omega
    have aq:=aq.trans aV;refine Tt [12]$ qO 12$ PE (i:=12) O O (QG PV O O O bc (by simp)) ?_;rintro w12 ⟨aX,bA⟩;refine⟨trivial,?_⟩;refine OG 13 O (Rp O) trivial$ qE$ Po.qb (e:=[(2,_),(3,_),(4,_),(5,_),(6,_),(7,_),(8,_)]) ?_;exact(bE _ _ ⟨b8,_,rfl,aq.It bA (λi e=>by omega),ox,aX⟩).qb
   ·refine Qo (i:=11) O O O (Ry (cs:=[_]) PV O) ?_;rintro _ w11 ⟨b8,rfl,jo,aV,bc⟩;refine⟨aq.trans aV,?_⟩;have ox:w5.heap.size<=b8:=by have:=aq.size;omega
    have aq:=aq.trans aV;refine R9 (i:=7) (by kernel_rfl)$ RV (i:=7) O O O (yc z5m O) (VA p.list hp.1 L.length hL succ [] hs ⟨List.Pairwise.nil,λy h=>(by cases h)⟩ 0 (Nat.zero_le _) (λ_=>rfl) ((bS.trans aq).OA hG) ((bS.trans aq).OA hU) (eF.ext (bS.trans aq)) VB lQ (Nat.zero_le _)) ?_;rintro _ w7 ⟨rfl,co⟩;refine⟨aq.trans co,?_⟩
    try have bc:=co.OA bc
    have aq:=aq.trans co;refine PQ 8 O O aq$ Pl 9 O (Ru O O) aq$ Qe (i:=10) O (by kernel_rfl) O O (λ_=>Ru O O) aq$ Tt [12]$ qO 12$ PE (i:=12) O O (QG PV O O O bc (by simp)) ?_;rintro w12 ⟨aX,bA⟩;refine⟨trivial,?_⟩;refine OG 13 O (Rp O) trivial$ qE$ Po.qb (e:=[(2,_),(3,_),(4,_),(5,_),(6,_),(7,_),(8,_)]) ?_;exact(bE _ _ ⟨b8,_,rfl,aq.It bA (λi e=>by omega),ox,aX⟩).qb
  ·refine Qo (i:=11) O O O (Ry (cs:=[_]) PV O) ?_;rintro _ w11 ⟨b8,rfl,jo,aV,bc⟩;refine⟨aq.trans aV,?_⟩;have ox:w5.heap.size<=b8:=by have:=aq.size;omega
   have aq:=aq.trans aV;refine R9 (i:=6) (by kernel_rfl)$ RV (i:=6) O O O (yc z0H O) (SX p _) ?_;rintro _ w6 ⟨rfl,aR⟩;refine⟨aq.trans aR,?_⟩
   try have bc:=aR.OA bc
   have aq:=aq.trans aR;refine R9 (i:=7) (by kernel_rfl)$ RV (i:=7) O O O (yc z5m O) (VA p.list hp.1 L.length hL succ [] hs ⟨List.Pairwise.nil,λy h=>(by cases h)⟩ 0 (Nat.zero_le _) (λ_=>rfl) ((bS.trans aq).OA hG) ((bS.trans aq).OA hU) (eF.ext (bS.trans aq)) VB lQ (Nat.zero_le _)) ?_;rintro _ w7 ⟨rfl,co⟩;refine⟨aq.trans co,?_⟩
   try have bc:=co.OA bc
   have aq:=aq.trans co;refine PQ 8 O O aq$ Pl 9 O (Ru O O) aq$ Qe (i:=10) O (by kernel_rfl) O O (λ_=>Ru O O) aq$ Tt [12]$ qO 12$ PE (i:=12) O O (QG PV O O O bc (by simp)) ?_;rintro w12 ⟨aX,bA⟩;refine⟨trivial,?_⟩;refine OG 13 O (Rp O) trivial$ qE$ Po.qb (e:=[(2,_),(3,_),(4,_),(5,_),(6,_),(7,_),(8,_)]) ?_;exact(bE _ _ ⟨b8,_,rfl,aq.It bA (λi e=>by omega),ox,aX⟩).qb
section
variable {w:World}{k:Nat}{p:Qk}{L:List (List Nat)}{E:List (Nat×Nat)}{bs:List Bool}{F:Nat->Prop}{R:List (Value×Nat)}{wp ed:Nat}
def z6n (h:PkM w k p L E bs F R wp ed)(hl:bs.length<=9223372036854775):Pm prog 114 [ptr k 0] w λu w'=>u=I (bs.length:Int)/\Ext w w':=by
 refine py (e:=[(0,_)]) func114 O ntmps114 O O ?_
 have hg:=Ext.P4 w
 refine Qx O$ PK O$ qV (PY We O O)$ Qg O$ An$ QV (λw'=>Ext w w') O$ OZ 0 O O (hg)$ OG 1 O (Q8 O) hg$ OG 2 O (Pr zcv O) hg$ OZ 4 O O (hg)$ OG 5 O (Q8 O) hg$ OG 6 O (Pr z3n O) hg$ qT 3 O (λ_ hS=>OM U3 O O (hS.OA h.OA) (zkd h.len)) hg$ qT 7 O (λ_ hS=>OM z3K O O (hS.OA h.OA) (zfk h.len)) hg ?_
 refine RT 8 O z2g O (Vy (h.wr.ext hg)) ?_
 rintro _ w1 ⟨rfl,rfl⟩
 refine⟨hg,?_⟩
 refine OG 9 O (UO O O (by omega)) hg$ OG 10 O (Rp O) hg$ qE ?_
 rw[show(0:Int)+(bs.length:Int)=(bs.length:Int) by omega]
 refine OB func114 O ?_
 exact⟨_,rfl,rfl,hg⟩
def z6m (h:PkM w k p L E bs F R wp ed):Pm prog 115 [ptr k 0] w λu w'=>u= .tuple #[S (Ph bs),I 0]/\w'=w:=by
 refine py (e:=[(0,_)]) func115 O ntmps115 O O$ qN O$ Qm O$ PK O$ qV (PY We O O)$ Qg O$ Pn O$ Pq O$ OW z3n O$ qV (OM z3K O O h.OA (zfk h.len))$ P5 z7s O (Xk h.wr) ?_
 rintro _ w1 ⟨rfl,rfl⟩
 refine SU O$ Qm O$ OB func115 O ?_
 exact⟨_,rfl,rfl,rfl⟩
end
structure GrM (w:World)(v:Value)(g:List (List Nat)):Prop where
 ex:∃vs:List Value,Rd w v 1 g.length vs/\∀(i:Nat) (l:List Nat),g[i]? =some l->∃(a:Option Addr) (c:Nat),vs[i]? =some (Value.slice a l.length c)/\l.length<=c/\Rd w (.slice a l.length c) 1 l.length (l.map Px)
def GrM.ext {w w':World}{v:Value}{g:List (List Nat)}(h:GrM w v g)(hx:Ext w w'):GrM w' v g:=by
 obtain⟨vs,h1,h2⟩:=h.ex
 refine⟨vs,h1.ext hx,λi l hl=>?_⟩
 obtain⟨a,c,g1,g2,g3⟩:=h2 i l hl
 exact⟨a,c,g1,g2,g3.ext hx⟩
structure Rh (g:List (List Nat)):Prop where
 ok:∀l∈g,PB l
 lt:∀l∈g,∀y∈l,y<g.length
 n:g.length<=60
theorem Rh.len {g:List (List Nat)}(h:Rh g){l:List Nat}(hl:l∈g):l.length<=g.length:=by
 have:=z3F l 0 g.length (h.ok l hl).ris (λy hy=>⟨Nat.zero_le _,h.lt l hl y hy⟩) (Nat.zero_le _)
 omega
def PT (g:List (List Nat)):Nat:=(g.map List.length).sum
theorem XO (g:List (List Nat))(l:List Nat):PT (g++[l])=PT g+l.length:=by simp[PT]
def zaT {g:List (List Nat)}{n:Nat}(h:∀l∈g,l.length<=n):PT g<=g.length*n:=by
 induction g with
 |nil=>simp[PT]
 | cons l g ih =>
   have h1:=ih (λm hm=>h m (List.mem_cons_of_mem _ hm));have h2:=h l List.mem_cons_self;show(l.length::g.map List.length).sum<=_;rw[List.sum_cons,List.length_cons,Nat.add_mul];have e:PT g=(g.map List.length).sum:=rfl;omega
def TR {g:List (List Nat)}(h:Rh g)(i:Nat):PT (g.take i)<=3600:=by
 have h1:PT (g.take i)<=(g.take i).length*60:=zaT (λl hl=>by have:=h.len (List.mem_of_mem_take hl);have:=h.n;omega)
 have h2:(g.take i).length<=60:=by rw[List.length_take];have:=h.n;omega
 omega
def z5i {w:World}{ga:Option Addr}{gc:Nat}{g:List (List Nat)}(h:GrM w (.slice ga g.length gc) g)(hg:Rh g):Pm prog 112 [.slice ga g.length gc] w λu w'=>u= .bool true/\w'=w:=by
 have hn:=hg.n
 obtain⟨vs,fO,nv⟩:=h.ex
 refine py (e:=[(0,_)]) func112 O ntmps112 O O$ qN O$ QS O$ OV O$ PK O$ Rs WQ O$ ON O$ OC$ OE$ Rr (α:=Nat) (0) (λi=>[(0,.slice ga g.length gc),(3,I (PT (g.take i):Int)),(8,.slice ga g.length gc),(9,I (g.length:Int)),(10,I (i:Int))]) (λi w'=>w'=w/\i<=g.length) (λi=>g.length-i) ?hI ?hround
 case hI=>exact⟨rfl,Nat.zero_le _⟩
 case hround =>
  rintro i w4 ⟨rfl,hi⟩ ih;have uy:=TR hg i
  try dsimp only
  refine qN O$ Qw O$ OC$ An$ OQ O (λh0=>?_)$ λh0=>?_
  ·have dT:i<g.length:=by omega
   obtain⟨l,hl⟩:∃l,g[i]? =some l:=⟨_,List.getElem?_eq_getElem dT⟩;have iB:=List.mem_of_getElem? hl;have eP:=hg.len iB;obtain⟨a,c,e1,e2,e3⟩:=nv i l hl
   obtain⟨gb,go,gc',e4⟩:∃b o c',Value.slice ga g.length gc= .slice (some ⟨b,o,none⟩) g.length c':=by
    rcases fO.2 with⟨c,hc,h0⟩|⟨b,off,c',hc,-⟩
    ·omega
    ·exact⟨b,off,c',hc⟩
   cases e4;refine OD$ QA$ qN O$ qV (PR WQ Tz O O (by omega))$ qV (Ps Pu O O (PU fO e1))$ QS O$ Pa O$ Rs Pu O$ PS O$ QW O$ Rs Pu O$ ON O$ OC$ OE ?_;have Bt:=XO (g.take i) l;rw[<-PC hl] at Bt;rw[show(PT (g.take i):Int)+(l.length:Int)=(PT (g.take (i+1)):Int) by omega];refine Rr (α:=Nat) (0) (λj=>[(0,.slice (some ⟨gb,go,none⟩) g.length gc),(3,I (PT (g.take (i+1)):Int)),(5,.slice a l.length c),(8,.slice (some ⟨gb,go,none⟩) g.length gc),(9,I (g.length:Int)),(10,I (i:Int)),(18,.slice a l.length c),(19,I (l.length:Int)),(20,I (j:Int))]) (λj w'=>w'=w4/\j<=l.length) (λj=>l.length-j) ?hI ?hround
   case hI=>exact⟨rfl,Nat.zero_le _⟩
   case hround=>
    rintro j w5 ⟨rfl,hj⟩ ih2
    try dsimp only
    refine qN O$ Qw O$ OC$ An$ OQ O (λh1=>?_)$ λh1=>?_
    ·have lJ:j<l.length:=by omega
     obtain⟨y,hy⟩:∃y,l[j]? =some y:=⟨_,List.getElem?_eq_getElem lJ⟩;have HX:=hg.lt l iB y (List.mem_of_getElem? hy)
     obtain⟨lb,lo,lc,e5⟩:∃b o c',Value.slice a l.length c= .slice (some ⟨b,o,none⟩) l.length c':=by
      rcases e3.2 with⟨c,hc,h0⟩|⟨b,off,c',hc,-⟩
      ·omega
      ·exact⟨b,off,c',hc⟩
     cases e5;refine OD$ QA$ Pn O$ qV (PR Pu P6 O O (by omega))$ qV (Ps QR O O (PU e3 (show(l.map Px)[j]? =some (Px y) by rw[List.getElem?_map,hy];rfl))) ?_;refine SA O$ QW O$ qV (PJ O QR U3 (by omega))$ ON O$ Rs WQ O$ U8 O$ PH$ ON O ?_;rcases Nat.eq_zero_or_pos j with KX|KX
     ·refine ON O$ QB O$ PH$ ON O$ QL$ QL$ QL$ qS$ PM O$ PM O$ Qg O$ Oz$ OK O$ PS O ?_;refine ON O$ OC ?_;exact(ih2 (j+1) _ ⟨rfl,by omega⟩ (by omega)).qb
     ·obtain⟨z,hz⟩:∃z,l[j-1]? =some z:=⟨_,List.getElem?_eq_getElem (by omega)⟩
      have NO:z<y:=by
       obtain⟨a1,a2⟩:=List.getElem?_eq_some_iff.1 hz;obtain⟨b1,b2⟩:=List.getElem?_eq_some_iff.1 hy;have:=List.pairwise_iff_getElem.1 (hg.ok l iB).ris (j-1) j a1 b1 (by omega)
       rwa [a2,b2] at this
      refine ON O$ QB O$ Rz$ Pa O$ Pa O$ Ro O ?_;rw[show(j:Int)-1=((j-1:Nat):Int) by omega];refine qV (PR Pu P6 O O (by omega))$ qV (Ps QR O O (PU e3 (show(l.map Px)[j-1]? =some (Px z) by rw[List.getElem?_map,hz];rfl))) ?_;refine zle O$ PH$ QX O$ PM O$ Qg O$ Oz$ OK O$ PS O$ ON O$ OC ?_;exact(ih2 (j+1) _ ⟨rfl,by omega⟩ (by omega)).qb
    ·refine OO O$ Oz$ OK O$ PS O$ ON O$ OC ?_;exact(ih (i+1) _ ⟨rfl,by omega⟩ (by omega)).qb
  ·refine OO O$ Pn O$ Rs WQ O$ zle O$ Rz$ Pa O$ zle O$ Rz$ QX O$ OV O$ OB func112 O ?_;exact⟨_,rfl,rfl,rfl⟩
/-! ### How many bits -/
def XB.z3M {k:Nat}{q:Cd×Nat}(h:XB k q)(hk:1<=k/\k<=16):(q.1.enc q.2).length<=112:=by
 obtain⟨h1,h2⟩:=h.Qq hk
 obtain⟨-,q2,-⟩:=X9 h1 h2
 rw[Xc]
 rcases h with⟨e,h⟩|⟨e,h⟩|⟨e,h⟩
 ·rw[e] at q2⊢;show q.2+1+_<=_;omega
 ·have:=(VR (v:=q.2) (by omega)).2.2;rw[e] at q2⊢;show Nat.log2 (q.2+1)+1+_<=_;omega
 ·have h3:=(VR (v:=q.2) (by omega)).2.2;have h4:Nat.log2 (q.2+1) / k<=Nat.log2 (q.2+1):=Nat.div_le_self _ _;rw[e] at q2⊢;show Nat.log2 (q.2+1) / k+1+_<=_;omega
def z2x {n:Nat}{L:List (Cd×Nat)}(h:∀q∈L,(q.1.enc q.2).length<=n):(P8 L).length<=L.length*n:=by
 induction L with
 |nil=>simp[P8]
 | cons q L ih =>
   have h1:=ih (λq hq=>h q (List.mem_cons_of_mem _ hq));have h2:=h q List.mem_cons_self;rw[Q5,List.length_append,List.length_cons,Nat.add_mul];omega
def z2w (least:Nat){l:List Nat}(h:PB l):(PO least l).1.length<=l.length:=by
 have h1:=(TJ least l).length_eq
 rw[List.length_append] at h1
 have h4:∀(R:List (Nat×Nat)) (lo:Nat),SY least lo R->R.length<=(QQ R).length:=by
  intro R
  induction R with
  |nil=>intro lo h;exact Nat.le_refl _
  | cons q R ih =>
    intro lo h;have h5:=ih _ h.2.2.2;have h6:1<=q.2:=h.2.1;rw[show QQ (q::R)=(List.range q.2).map (q.1+·)++QQ R from rfl,List.length_append,List.length_map,List.length_range,List.length_cons];omega
 have h5:=h4 _ 0 (UX least l 0 h.ris (λy _=>Nat.zero_le _))
 omega
def ZG {p:S1}(hp:p.Qq){x:Nat}(hx:x<65536){succ ref:List Nat}(hs:PB succ)(hr:PB ref){r:Nat}(jt:r<=p.Pb)(KY:succ.length<=60)(Be:ref.length<=60):(P8 (Rq p x succ ref r)).length<=44800:=by
 have ax:PB (Pk succ ref):=hs.sub List.filter_sublist
 have eP:(Pk succ ref).length<=succ.length:=List.length_filter_le _ _
 have h1:=(T8 succ ref).z18
 rw[List.length_map] at h1
 have h2:=z2w p.interval ax
 have h3:=(UB p.interval (Pk succ ref)).length_le
 have aI:(Rq p x succ ref r).length<=400:=by
  unfold Rq;rw[List.length_cons];split
  ·simp
  rw[List.length_append,List.length_append];have e1:(if 0<p.Pb then [(Cd.unary,r)] else []).length<=1:=by split<;>simp
  have e2:(if 0<r then(Cd.gamma,(R7 succ ref).length-1)::Qj 0 (R7 succ ref).dropLast else []).length<=62:=by
   split
   ·rw[List.length_cons,T7,List.length_dropLast];omega
   ·simp
  have e3:(if Pk succ ref=[] then [] else(if 0<p.interval then(Cd.gamma,(PO p.interval (Pk succ ref)).1.length)::PF x p.interval none (PO p.interval (Pk succ ref)).1 else [])++PI x p.zeta none (PO p.interval (Pk succ ref)).2).length<=200:=by
   split
   ·simp
   ·rw[List.length_append,Ti];split
    ·rw[List.length_cons,Sm];omega
    ·simp;omega
  omega
 have:=z2x (n:=112) (L:=Rq p x succ ref r) (λq hq=>(z0w hp hx hs hr jt q hq).z3M ⟨hp.2.2.1,hp.2.2.2⟩)
 omega
/-! ### All bits -/
def XR (p:Qk)(g:List (List Nat))(E:List (Nat×Nat))(i:Nat):List Bool:=
 P8 (Rq p.list i ((g[i]?).getD []) (Qz g i ((E[i]?).getD (0,0)).1) ((E[i]?).getD (0,0)).1)
def Qv (p:Qk)(g:List (List Nat))(E:List (Nat×Nat))(n:Nat):List Bool:=(List.range n).flatMap (XR p g E)
theorem T5 (p:Qk)(g:List (List Nat))(E:List (Nat×Nat))(n:Nat):Qv p g E (n+1)=Qv p g E n++XR p g E n:=by
 unfold Qv
 rw[List.range_succ,List.flatMap_append];simp
theorem z1z (p:Qk)(g:List (List Nat))(E:List (Nat×Nat))(e:Nat×Nat):∀n,n<=E.length->Qv p g (E++[e]) n=Qv p g E n
 |0,_=>rfl
 | n + 1, h => by
   rw[T5,T5,z1z p g E e n (by omega)]
   congr 1
   unfold XR;rw[List.getElem?_append_left (by omega)]
structure zed (p:Qk)(g:List (List Nat))(E:List (Nat×Nat)):Prop where
 ent:∀i e,E[i]? =some e->ZL p g E i ((g[i]?).getD []).length e
def ZL.mono {p:Qk}{L L':List (List Nat)}{E E':List (Nat×Nat)}{n size:Nat}{e:Nat×Nat}(h:ZL p L E n size e)(hL:∀(j:Nat) (l:List Nat),L[j]? =some l->L'[j]? =some l)(hE:∀(j:Nat) (l:Nat×Nat),E[j]? =some l->E'[j]? =some l):ZL p L' E' n size e:=by
 rcases h with h|⟨h1,h2,h3,l,e',h4,h5,h6,h7⟩
 ·exact .inl h
 ·exact .inr ⟨h1,h2,h3,l,e',hL _ _ h4,hE _ _ h5,h6,h7⟩
def Sl.typed {w:World}{v:Value}{T:TypeId}{k n g:Nat}{cs:List Value}(h:Sl w v T k n cs)(hg:v.ownBlock=some g):∃cur,w.heap[g]? =some (.cells cur T (0,0)):=by
 rcases h.2 with⟨hz,-⟩|⟨g1,cap1,cur,hv,-,bh,-⟩
 ·rw[hz] at hg;cases hg
 ·rw[hv] at hg;have e:g1=g:=Rx hg;exact⟨cur,e▸bh⟩
def PkM.kpT {w w':World}{k:Nat}{p:Qk}{L:List (List Nat)}{E:List (Nat×Nat)}{bs:List Bool}{F:Nat->Prop}{R:List (Value×Nat)}{wp ed:Nat}(h:PkM w k p L E bs F R wp ed){v:Value}{T:TypeId}{sz n:Nat}{cs:List Value}(hT:T≠59)(hv:Sl w v T sz n cs)(hk:Kp (λi=>v.ownBlock=some i) w w')(n1:v.ownBlock≠some k)(n2:∀i,F i->v.ownBlock≠some i):PkM w' k p L E bs F R wp ed:=
 ⟨hk.OA h.OA n1,h.len,h.wr.kp hk n2,h.nk,h.el,h.ok,λj l e h1 h2 h3=>by
  obtain⟨a,cp,g1,g2,g3,g4⟩:=h.ring j l e h1 h2 h3;refine⟨a,cp,g1,g2,g3.kp hk (λg hg e=>?_),g4⟩;obtain⟨c1,f1⟩:=g3.typed hg;obtain⟨c2,f2⟩:=hv.typed e;rw[f1] at f2
  injection f2 with f3
  injection f3 with f4 f5
  exact hT f5.symm⟩
def Wk (p:Qk)(g:List (List Nat))(E:List (Nat×Nat))(n:Nat):List Nat:=(List.range (n+1)).map λj=>(Qv p g E j).length
theorem zdE (p:Qk)(g:List (List Nat))(E:List (Nat×Nat))(e:Nat×Nat)(n:Nat)(h:n<=E.length):Wk p g (E++[e]) n=Wk p g E n:=by
 unfold Wk
 refine List.map_congr_left λj hj=>?_
 rw[z1z p g E e j (by have:=List.mem_range.1 hj;omega)]
theorem zaV (p:Qk)(g:List (List Nat))(E:List (Nat×Nat))(n:Nat):Wk p g E (n+1)=Wk p g E n++[(Qv p g E (n+1)).length]:=by
 unfold Wk
 rw[List.range_succ,List.map_append];rfl
def z2V (p:Qk)(g:List (List Nat))(E:List (Nat×Nat))(n:Nat):(Wk p g E n).length=n+1:=by simp[Wk]
theorem getD_take {α:Type}{l:List α}{i j:Nat}(h:j<i):(l.take i)[j]? =l[j]? :=by rw[List.getElem?_take,if_pos h]
def X4 (L:List (List Nat))(n r:Nat):Qz L n r=[]\/Qz L n r∈L:=by
 unfold Qz
 split
 ·exact .inl O
 ·cases h:L[n-r]? with
  |none=>exact .inl O
  |some l=>exact .inr (List.mem_of_getElem? h)
theorem z71 {L:List (List Nat)}{n r:Nat}(h:r<=n):Qz (L.take n) n r=Qz L n r:=by
 unfold Qz
 by_cases e:r=0
 ·rw[if_pos e,if_pos e]
 ·rw[if_neg e,if_neg e,getD_take (by omega)]
structure EnI (w:World)(p:Qk)(g:List (List Nat))(k wp:Nat)(i:Nat)(E:List (Nat×Nat))(v:Value)(w':World):Prop where
 pk:∃F R,PkM w' k p (g.take i) E (Qv p g E i) F R wp (PT (g.take i))/\(∀j,F j->w.heap.size<=j)/\∀j,F j->v.ownBlock≠some j
 ext:Ext w w'
 nk:w.heap.size<=k
 sl:Sl w' v 39 1 (Wk p g E i).length ((Wk p g E i).map OY)
 fr:∀b,v.ownBlock=some b->w.heap.size<=b
 vk:v.ownBlock≠some k
 ent:∀j e,E[j]? =some e->ZL p g E j ((g[j]?).getD []).length e
 bd:(Qv p g E i).length<=i*44800
def zah {w:World}{p:Qk}(hp:p.Qq){g:List (List Nat)}(hg:Rh g){ga:Option Addr}{gc:Nat}(jX:GrM w (.slice ga g.length gc) g)(hG:OP w 1 (Sg .gamma) 294)(hU:OP w 2 (Sg .unary) 294):
  Pm prog 73 [.slice ga g.length gc,bpV p] w λu w'=>∃E v,u= .tuple #[S (Ph (Qv p g E g.length)),v,I 0]/\E.length=g.length/\zed p g E/\(Qv p g E g.length).length<=2688000/\Sl w' v 39 1 (g.length+1) ((Wk p g E g.length).map OY)/\(∀b,v.ownBlock=some b->w.heap.size<=b)/\Ext w w':=by
 have hn:=hg.n
 refine py (e:=[(0,_),(1,_)]) func73 O ntmps73 O O$ qN O$ OJ O O (R4 O (cs:=Vl p) O) ?_
 rintro _ w1 ⟨b3,rfl,dG,ad,ar⟩
 have z1:=ad.size
 refine SA O$ SA O$ QS O$ qV (Pp (news:=Vl p) U75 O RD O (ar.cells (n:=5) O) O)$ P5 zh4 O (z9y p hp w1) ?_
 rintro _ w2 ⟨k,wp,F,rfl,wI,hW,KZ,ae,az,pF⟩
 have z2:=ae.size
 have aG:=ad.trans ae
 refine ON O$ qV (Ru (v:=ptr k 0) O O)$ qV (Ru (v:=I 0) O O)$ Qm O$ PK O$ QE O$ Pa O$ P5 zi3 O (z5i (jX.ext aG) hg) ?_
 rintro _ w2 ⟨rfl,rfl⟩
 refine qV ((RZ O))$ PM O$ Qg O$ qN O$ OJ O O (XZ (cs:=[_]) (zs:=[Value.int .u64 0]) U34 Tv O (by kernel_rfl) O O O (by decide)) ?_
 rintro _ w3 ⟨b28,rfl,⟨L0,ah,yk⟩,E1⟩
 have z3:=ah.size
 have lk:=wI.lt
 have Bw:PkM w3 k p (g.take 0) [] (Qv p g [] 0) F z7G wp (PT (g.take 0)):=⟨ah.OA wI,List.length_replicate,hW.ext ah,KZ,rfl,(λl hl=>by simp at hl),λj l e h1=>by simp at h1⟩
 refine OV O$ PK O$ Rs WQ O$ ON O$ OC$ Po.qb (e:=[(4,_),(5,_),(6,_),(7,_),(8,_),(9,_),(29,_),(30,_),(31,_)]) ?_
 refine OE$ Rr (α:=Nat×List (Nat×Nat)×Value) ((0,[],.slice (some ⟨b28,0,none⟩) 1 1)) (λy=>[(7,ptr k 0),(9,y.2.2),(29,.slice ga g.length gc),(30,I (g.length:Int)),(31,I (y.1:Int))]) (λy w'=>EnI w p g k wp y.1 y.2.1 y.2.2 w'/\y.1<=g.length) (λy=>g.length-y.1) ?hI ?hround
 case hI=>exact⟨⟨⟨F,z7G,Bw,λj hj=>by have:=pF j hj;omega,λj hj e=>by have e1:b28=j:=Rx e;have:=hW.lt hj;omega⟩,aG.trans ah,by omega,E1,λb hb=>by have e1:b28=b:=Rx hb;omega,λe=>by have e1:b28=k:=Rx e;omega,λj e h=>by simp at h,Nat.zero_le _⟩,Nat.zero_le _⟩
 case hround =>
  rintro⟨i,E,v⟩ w4 ⟨hI,hi⟩ ih;dsimp only at hI hi;obtain⟨F,R,hP,hF,Ii⟩:=hI.pk;have sA:=hI.bd;have aS:=z2V p g E i;have qY:=hP.el;rw[List.length_take,Nat.min_eq_left hi] at qY;obtain⟨va,vc,rfl,-⟩:=hI.sl.rd.shape
  try dsimp only
  refine qN O$ Qw O$ OC$ An$ OQ O (λh0=>?_)$ λh0=>?_
  ·have dT:i<g.length:=by omega
   obtain⟨l,hl⟩:∃l,g[i]? =some l:=⟨_,List.getElem?_eq_getElem dT⟩;have iB:=List.mem_of_getElem? hl;have eP:=hg.len iB;have hs:=hg.ok l iB;obtain⟨vs,E2,nv⟩:=jX.ex;obtain⟨a,c,e1,e2,e3w⟩:=nv i l hl;have fO:=E2.ext hI.ext;have e3:=e3w.ext hI.ext
   obtain⟨gb,go,gc',e4⟩:∃b o c',Value.slice ga g.length gc= .slice (some ⟨b,o,none⟩) g.length c':=by
    rcases fO.2 with⟨c,hc,h0⟩|⟨b,off,c',hc,-⟩
    ·omega
    ·exact⟨b,off,c',hc⟩
   cases e4;have qF:(g.take i).length=i:=by rw[List.length_take];omega
   have uy:=TR hg i;refine OD$ QA$ qN O$ qV (PR WQ Tz O O (by omega))$ qV (Ps Pu O O (PU fO e1)) ?_
   have ou:∀r,r<=p.Pb->(Qv p g E i).length+(P8 (Rq p.list (g.take i).length l (Qz (g.take i) (g.take i).length r) r)).length<=134217728:=λr hr=>by
    have h2:PB (Qz (g.take i) (g.take i).length r)/\(Qz (g.take i) (g.take i).length r).length<=60:=by
     rcases X4 (g.take i) (g.take i).length r with e| e
     ·rw[e];exact⟨⟨List.Pairwise.nil,λy h=>(by cases h)⟩,Nat.zero_le _⟩
     ·exact⟨hg.ok _ (List.mem_of_mem_take e),by have:=hg.len (List.mem_of_mem_take e);omega⟩
    have h3:=ZG hp.1 (x:=(g.take i).length) (by omega) hs h2.1 (show r<=p.list.Pb from hr) (by omega) h2.2;omega
   have wg:=hI.sl;have xP:∀b,(Value.slice va (Wk p g E i).length vc).ownBlock=some b->b<w4.heap.size:=λb hb=>wg.lt hb;refine OV O$ An$ Qt O$ P5 zgT O (z9u hp hP (hI.ext.OA hG) (hI.ext.OA hU) (by omega) hs e2 e3 (by omega) (λb h0 hb=>by have h1:=e3w.ltz (by decide) h0 hb;have:=hI.nk;exact⟨λe=>by have:=hF b e;omega,by omega⟩) ou) ?_;rintro _ w5 ⟨r,least,ch,F',R',rfl,i9,i5,aj,wJ⟩;have lk4:=hP.OA.lt;have z5:=aj.size;have aU:Ext w w5:=hI.ext.It aj (λj hj=>by rcases hj with e|e;exact hF j e;(have:=hI.nk;omega));have L3:(E++[(r,ch)]).length=i+1:=by rw[List.length_append,qY];rfl
   have mJ:r<=i:=by
    rcases i9 with e|⟨-,-,h3,-⟩
    ·have:r=0:=(Prod.mk.inj e).1;omega
    ·rw[qF] at h3;exact h3
   have uz:(E++[(r,ch)])[i]? =some (r,ch):=by rw[List.getElem?_append_right (by omega),qY,Nat.sub_self];rfl
   have qZ:XR p g (E++[(r,ch)]) i=P8 (Rq p.list (g.take i).length l (Qz (g.take i) (g.take i).length r) r):=by
    unfold XR;rw[uz,hl,qF,z71 mJ];rfl
   have cQ:Qv p g (E++[(r,ch)]) (i+1)=Qv p g E i++P8 (Rq p.list (g.take i).length l (Qz (g.take i) (g.take i).length r) r):=by
    rw[T5,z1z p g E _ i (by omega),qZ]
   have E3:(Qv p g (E++[(r,ch)]) (i+1)).length<=(i+1)*44800:=by
    have h2:PB (Qz (g.take i) (g.take i).length r)/\(Qz (g.take i) (g.take i).length r).length<=60:=by
     rcases X4 (g.take i) (g.take i).length r with e| e
     ·rw[e];exact⟨⟨List.Pairwise.nil,λy h=>(by cases h)⟩,Nat.zero_le _⟩
     ·exact⟨hg.ok _ (List.mem_of_mem_take e),by have:=hg.len (List.mem_of_mem_take e);omega⟩
    have jt:r<=p.list.Pb:=by
     rcases i9 with e|⟨-,h3,-⟩
     ·have:r=0:=(Prod.mk.inj e).1;omega
     ·exact h3
    have h3:=ZG hp.1 (x:=(g.take i).length) (by omega) hs h2.1 jt (by omega) h2.2;rw[cQ,List.length_append];omega
   rw[<-cQ,<-PC hl,<-XO,<-PC hl] at i5;have gR:(Qv p g (E++[(r,ch)]) (i+1)).length<=9223372036854775:=by omega
   refine ON O$ SU O$ qV (Ru (v:=I 0) O O)$ SA O$ SA O$ QW O$ QE O$ Qg O$ OK O$ Pa O$ P5 zjk O (z6n i5 gR) ?_;rintro _ w6 ⟨rfl,aR⟩;refine qV ((Q7 O U3 Rt (by omega)))$ OJ O O (XZ (cs:=[_]) (zs:=[Value.int .u64 0]) U34 Tv O (by kernel_rfl) O O O (by decide)) ?_;rintro _ w7 ⟨b49,rfl,⟨L4,co,bT⟩,E4⟩;have eV:=aR.trans co;have z67:=eV.size;have ot:∀j,F' j->j<w5.heap.size:=λj hj=>i5.wr.lt hj;have I0:=wg.kp aj (λb hb e=>by rcases e with e|e;exact Ii b e hb;exact hI.vk (e▸hb));have Bx:=I0.ext eV
   have yl:∀j,F' j->(Value.slice va (Wk p g E i).length vc).ownBlock≠some j:=λj hj e=>by
    rcases wJ j hj with e1|e1
    ·exact Ii j e1 e
    ·have:=xP j e;omega
   refine OJ O O (pap U34 Tv O (by decide) O O Bx E4.rd (by intro c hc;simp at hc;subst hc;rfl) (by omega) (by simp only[maxLen];omega)) ?_;rintro v8 w8 ⟨dO,aL,lH,-⟩;have pP:=(i5.ext eV).kpT (T:=39) (by decide) Bx aL hI.vk yl;have oy:∀b,v8.ownBlock=some b->(Value.slice va (Wk p g E i).length vc).ownBlock=some b\/w5.heap.size<=b:=λb hb=>(lH b hb).imp id (λe=>by omega);refine OV O$ Oz$ OK O$ PS O$ ON O$ OC ((ih (i+1,E++[(r,ch)],v8) _ ⟨⟨⟨F',R',pP,λj hj=>?_,λj hj e=>?_⟩,(aU.trans eV).It aL (λj hj=>hI.fr j hj),hI.nk,?_,λb hb=>?_,λe=>?_,λj e hj=>?_,E3⟩,dT⟩ (by dsimp only;omega)).qb)
   ·rcases wJ j hj with e| e
    ·exact hF j e
    ·have:=hI.ext.size;omega
   ·rcases oy j e with e1|e1
    ·exact yl j hj e1
    ·have:=ot j hj;omega
   ·rw[zaV,zdE p g E _ i (by omega),List.length_append,List.map_append];exact dO
   ·rcases oy b hb with e1|e1
    ·exact hI.fr b e1
    ·have:=aU.size;omega
   ·rcases oy k e with e1|e1
    ·exact hI.vk e1
    ·omega
   ·rcases Nat.lt_or_ge j i with sC|sC
    ·rw[List.getElem?_append_left (by omega)] at hj;exact(hI.ent j e hj).mono (λ_ _ h=>h) (λj' l' h=>by rw[List.getElem?_append_left (List.getElem?_eq_some_iff.1 h).1];exact h)
    ·have yb:=(List.getElem?_eq_some_iff.1 hj).1;rw[L3] at yb;have ej:j=i:=by omega
     subst ej;rw[uz] at hj;cases hj;rw[hl];rw[qF] at i9
     exact i9.mono (λj' l' h=>by
      have:=(List.getElem?_eq_some_iff.1 h).1;rw[qF] at this
      rwa [getD_take this] at h) (λj' l' h=>by rw[List.getElem?_append_left (List.getElem?_eq_some_iff.1 h).1];exact h)
  ·have dl:i=g.length:=by omega
   subst dl;refine OO O$ Pn O$ P5 zhm O (z6m hP) ?_;rintro _ w5 ⟨rfl,rfl⟩;refine ON O$ SU O$ SA O$ QS O$ Pa O$ ON O$ SA O$ Qm O$ OB func73 O ?_;have fU:=hI.sl;rw[aS] at fU;exact⟨_,rfl,E,_,rfl,qY,⟨hI.ent⟩,by omega,by rw[aS];exact fU,hI.fr,hI.ext⟩
structure Fm where
 n:Nat
 u:Nat
 width:Nat
 bits:Nat
def fmC (f:Fm):List Value:=[I (f.n:Int),OY f.u,I (f.width:Int),I (f.bits:Int)]
abbrev fmV (f:Fm):Value:= .agg (fmC f).toArray
def Yd (n u:Nat):Nat:=if u / n=0 then 0 else PN (u / n)-1
def TQ (n u:Nat):Fm:=⟨n,u,Yd n u,(u-1) / 2^Yd n u+n⟩
def Fm.high (f:Fm):Nat:=12+(f.n*f.width+7) / 8
def Fm.UL (f:Fm):Nat:=f.high+(f.bits+7) / 8
def Fm.size (f:Fm):Nat:=f.UL+4*((f.n+63) / 64)
def Zg {n u:Nat}(hu:u<=1000000000):Yd n u<=30:=by
 unfold Yd
 split
 ·omega
 ·have h1:u / n<=u:=Nat.div_le_self _ _;have h2:PN (u / n)<=30:=R3 (by omega);omega
def z1q {n u:Nat}(hn:1<=n)(hu:1<=u):(u-1) / 2^Yd n u<2*n:=by
 have h2:0<2^Yd n u:=Nat.two_pow_pos _
 rw[Nat.div_lt_iff_lt_mul h2]
 unfold Yd
 split
 ·rename_i h
  have:u<n:=by
   rcases Nat.lt_or_ge u n with h1|h1
   ·exact h1
   ·have:=Nat.div_pos h1 (by omega);omega
  simp;omega
 ·rename_i h
  have h3:u / n<2^PN (u / n):=X8;have h4:PN (u / n)≠0:=λe=>by rw[e,Nat.pow_zero] at h3;exact h (Nat.lt_one_iff.1 h3)
  obtain⟨k,hk⟩:∃k,PN (u / n)=k+1:=⟨PN (u / n)-1,by omega⟩;rw[hk] at h3⊢;rw[Nat.add_sub_cancel]
  have h5:u<n*2^(k+1):=by
   have:=(Nat.div_lt_iff_lt_mul (show 0<n by omega)).1 h3
   rwa [Nat.mul_comm] at this
  rw[Nat.pow_succ] at h5;have e:n*(2^k*2)=2*n*2^k:=by rw[Nat.mul_comm (2^k) 2,<-Nat.mul_assoc,Nat.mul_comm n 2]
  omega
def z9s {n u:Nat}(hn:1<=n)(hu:1<=u):(TQ n u).bits<=3*n:=by
 have:=z1q hn hu
 show(u-1) / 2^Yd n u+n<=_
 omega
def Y7 (n u:Nat)(hn:1<=n)(jS:n<=1000)(hu:1<=u)(lD:u<=1000000000)(w:World):Pm prog 121 [I (n:Int),OY u] w λv w'=>v=fmV (TQ n u)/\Ext w w':=by
 have wK:=Zg (n:=n) lD
 have eL:=z1q hn hu
 have hq:u / n<=u:=Nat.div_le_self _ _
 obtain⟨q,kP⟩:∃q,u / n=q:=⟨_,rfl⟩
 have Ij:Yd n u=if q=0 then 0 else PN q-1:=by rw[Yd,kP]
 rw[kP] at hq
 have E5:PN q<=30:=R3 (by omega)
 refine py (e:=[(0,_),(1,_)]) func121 O ntmps121 O O$ qN O$ OJ O O (Ry (cs:=[_,_,_,_]) Tj O) ?_
 rintro _ w1 ⟨b4,rfl,fZ,ad,aK⟩
 refine qM O$ Pa O$ qV (Sa (cs:=[_,_,_,_]) Tj O zg7 O O)$ OJ O O (Ry (cs:=[_,_,_,_]) Tj O) ?_
 rintro _ w2 ⟨b5,rfl,gR,ae,aH⟩
 have z1:=ad.size
 have z2:=ae.size
 have l4:=aK.lt
 have l5:=aH.lt
 refine OT O (PG (news:=[I (n:Int),OY u,I 0,I 0]) Tj O O O O aH (by simp)) ?_
 rintro w3 ⟨iQ,av⟩
 replace iQ:OP w3 b5 [I (n:Int),OY u,I 0,I 0] 220:=iQ
 have eA:Ext w w3:=(ad.trans ae).It av (λi e=>by omega)
 have en:=av.OA (ae.OA aK) (by omega)
 have z3:=av.size
 refine OC$ PK O$ Rg O$ PH$ Qg O$ An$ Qt O$ qV ((Q7 O U3 Rt (by omega)))$ qV (ziY (m:=u) (n:=n) O O O (by show u<2^64;omega) (by omega)) ?_
 rw[kP]
 refine QW O$ QB O$ OC$ PD (λe' w'=>e'=[(0,I (n:Int)),(1,OY u),(4,ptr b4 0),(5,ptr b5 0)]/\Ext w w'/\OP w' b5 [I (n:Int),OY u,I (Yd n u:Int),I 0] 220/\OP w' b4 [I 0,OY 0,I 0,I 0] 220) ?bE$ λbE=>?cM
 case bE=>
  rintro e' w4 ⟨rfl,aA,i6,cC⟩;refine Pn O$ qV (Ww (m:=u) (n:=1) O O O (by show u<2^64;omega) (by omega)) ?_;refine OW Td O$ qV (OM U3 O O i6 O)$ qV (Uw (Yd n u) (2^Yd n u) O O (by show Yd n u<=64;omega) O) ?_
  generalize kQ:(u-1) / 2^Yd n u=qb at eL
  refine qV (PJ O Rt U3 (by omega))$ ON O$ PS O$ OW YF O$ OT O (QG PV O O O i6 (by simp)) ?_;rintro w5 ⟨uA,aj⟩;replace uA:OP w5 b5 [I (n:Int),OY u,I (Yd n u:Int),I ((qb+n:Nat):Int)] 220:=uA;refine qM O$ qV (Pp z4g O Tj O (OP.cells (n:=4) uA (news:=[_,_,_,_]) O) O)$ OT O (PG (news:=[I (n:Int),OY u,I (Yd n u:Int),I ((qb+n:Nat):Int)]) Tj O O O O (aj.OA cC (by omega)) (by simp)) ?_;rintro w6 ⟨bU,aM⟩;replace bU:OP w6 b4 [I (n:Int),OY u,I (Yd n u:Int),I ((qb+n:Nat):Int)] 220:=bU;refine OC$ Pf func121 (.cell z4g O Tj O (OP.cells (n:=4) bU (news:=[_,_,_,_]) O) O .nil) (⟨_,rfl,?_,(aA.It aj (λi e=>by omega)).It aM (λi e=>by omega)⟩);unfold fmV fmC TQ;rw[kQ]
  rfl
 case cM=>
  refine OQ O (λh0=>?_)$ λh0=>?_
  ·refine R6 O$ P5 z2o O (Ui q (by omega) _) ?_;rintro _ w3 ⟨rfl,rfl⟩;have tW:PN q≠0:=λe=>by have:=X8 (v:=q);rw[e] at this;omega
   refine Ro O ?_;rw[show(PN q:Int)-1=(Yd n u:Int) by rw[Ij,if_neg (by omega)];omega];refine OW Td O$ OT O (QG PV O O O iQ (by simp)) ?_;rintro w4 ⟨i6,au⟩;replace i6:OP w4 b5 [I (n:Int),OY u,I (Yd n u:Int),I 0] 220:=i6;refine OC ?_;exact(bE _ _ ⟨rfl,eA.It au (λi e=>by omega),i6,au.OA en (by omega)⟩).qb
  ·have nV:Yd n u=0:=by rw[Ij,if_pos (by omega)]
   refine OD ?_;exact(bE _ _ ⟨rfl,eA,by rw[nV];exact iQ,en⟩).qb
def Fm.small (f:Fm):Prop:=f.n<=100000/\f.width<=64/\f.bits<=1000000
def z3V (f:Fm)(hf:f.small)(w:World):Pm prog 211 [fmV f] w λv w'=>v=I (f.high:Int)/\Ext w w':=by
 obtain⟨h1,h2,h3⟩:=hf
 have hm:f.n*f.width<=100000*64:=Nat.mul_le_mul h1 h2
 refine py (e:=[(0,_)]) func211 O ntmps211 O O$ qN O$ OJ O O (R4 O (cs:=fmC f) O) ?_
 rintro _ w1 ⟨b1,rfl,bL,ad,ai⟩
 replace ai:OP w1 b1 [I (f.n:Int),OY f.u,I (f.width:Int),I (f.bits:Int)] 220:=ai
 refine QS O$ OW YD O$ qV (OM U3 O O ai O)$ OW Td O$ qV (OM U3 O O ai O) ?_
 have s8:((f.n*f.width:Nat):Int)=(f.n:Int)*(f.width:Int):=Int.natCast_mul _ _
 refine qV (Yb O O (by rw[<-s8];omega)) ?_
 rw[<-s8]
 refine PS O$ qV (WY O O (by omega))$ PS O$ OV O$ OB func211 O (⟨_,rfl,?_,ad⟩)
 show I (12+(((f.n*f.width:Nat):Int)+7) / 8)=I ((12+(f.n*f.width+7) / 8:Nat):Int)
 congr 1
def Fm.Xi {f:Fm}(hf:f.small):f.high<=10000000:=by
 obtain⟨h1,h2,h3⟩:=hf
 have hm:f.n*f.width<=100000*64:=Nat.mul_le_mul h1 h2
 unfold Fm.high
 omega
def z4H (f:Fm)(hf:f.small)(w:World):Pm prog 189 [fmV f] w λv w'=>v=I (f.UL:Int)/\Ext w w':=by
 have pQ:=Fm.Xi hf
 obtain⟨h1,h2,h3⟩:=id hf
 refine py (e:=[(0,_)]) func189 O ntmps189 O O$ qN O$ OJ O O (R4 O (cs:=fmC f) O) ?_
 rintro _ w1 ⟨b1,rfl,bL,ad,ai⟩
 replace ai:OP w1 b1 [I (f.n:Int),OY f.u,I (f.width:Int),I (f.bits:Int)] 220:=ai
 have hg:=Ext.P4 w1
 refine OV O$ An$ QV (λw'=>Ext w1 w') O$ qT 0 O (λ_ h=>Pp z4g O Tj O (OP.cells (n:=4) (h.OA ai) (news:=[_,_,_,_]) O) O) hg$ OG 2 O (Pr YF O) hg$ qT 3 O (λ_ h=>OM U3 O O (h.OA ai) O) hg$ OG 4 O (UO O O (by omega)) hg$ OG 5 O (WY O O (by omega)) hg$ RT 1 O zeP O (z3V f hf _) ?_
 rintro _ w2 ⟨rfl,ae⟩
 refine⟨hg.trans ae,?_⟩
 refine OG 6 O (UO O O (by omega)) (hg.trans ae)$ OG 7 O (Rp O) (hg.trans ae)$ qE$ OB func189 O (⟨_,rfl,?_,(ad.trans hg).trans ae⟩)
 show I ((f.high:Int)+((f.bits:Int)+7) / 8)=I ((f.high+(f.bits+7) / 8:Nat):Int)
 congr 1
def z2O (f:Fm)(hf:f.small)(w:World):Pm prog 163 [fmV f] w λv w'=>v=I (f.size:Int)/\Ext w w':=by
 have pQ:=Fm.Xi hf
 obtain⟨h1,h2,h3⟩:=id hf
 have fU:f.UL<=20000000:=by unfold Fm.UL;omega
 refine py (e:=[(0,_)]) func163 O ntmps163 O O$ qN O$ OJ O O (R4 O (cs:=fmC f) O) ?_
 rintro _ w1 ⟨b1,rfl,bL,ad,ai⟩
 replace ai:OP w1 b1 [I (f.n:Int),OY f.u,I (f.width:Int),I (f.bits:Int)] 220:=ai
 have hg:=Ext.P4 w1
 refine OV O$ An$ QV (λw'=>Ext w1 w') O$ qT 0 O (λ_ h=>Pp z4g O Tj O (OP.cells (n:=4) (h.OA ai) (news:=[_,_,_,_]) O) O) hg$ OG 2 O (Pr YD O) hg$ qT 3 O (λ_ h=>OM U3 O O (h.OA ai) O) hg$ OG 4 O (UO O O (by omega)) hg$ OG 5 O (Xw O O (by omega)) hg ?_
 rw[show(f.n:Int)+64-1=((f.n+63:Nat):Int) by omega]
 refine OG 6 O (WY O O (by omega)) hg$ OG 7 O (Yb O O (by omega)) hg$ RT 1 O zdU O (z4H f hf _) ?_
 rintro _ w2 ⟨rfl,ae⟩
 refine⟨hg.trans ae,?_⟩
 refine OG 8 O (UO O O (by omega)) (hg.trans ae)$ OG 9 O (Rp O) (hg.trans ae)$ qE$ OB func163 O (⟨_,rfl,?_,(ad.trans hg).trans ae⟩)
 show I ((f.UL:Int)+4*(((f.n+63:Nat):Int) / 64))=I ((f.UL+4*((f.n+63) / 64):Nat):Int)
 congr 1
def z3j {n u:Nat}(hn:1<=n)(jS:n<=1000)(hu:1<=u)(lD:u<=1000000000):(TQ n u).small:=by
 have h1:=z9s hn hu
 have h2:=Zg (n:=n) lD
 refine⟨?_,?_,by omega⟩
 ·show n<=_;omega
 ·show Yd n u<=_;omega
def z6S (n last:Nat)(hn:1<=n)(jS:n<=1000)(lD:last+1<=1000000000)(w:World):Pm prog 161 [I (n:Int),OY last] w λv w'=>v= .tuple #[I ((TQ n (last+1)).size:Int),I 0]/\Ext w w':=by
 refine py (e:=[(0,_),(1,_)]) func161 O ntmps161 O O$ qN O$ Qm O$ QA$ Pn O$ Qw O$ Pa O$ QB O$ PH$ PM O$ Pa O$ QB O$ PH$ PM O ?_
 refine Pa O$ Rg O$ PH$ ON O$ QL$ PM O$ PM O$ OV O$ OL O$ Pn O$ Rg O$ PH$ OV O$ Po.qb (e:=[(0,_),(1,_),(4,_),(5,_),(25,_)]) ?_
 refine SH O$ Oz$ Qt O$ qV (UU O O) ?_
 rw[Nat.mod_eq_of_lt (show last+1<18446744073709551616 by omega)]
 refine P5 zc2 O (Y7 n (last+1) hn jS (by omega) lD _) ?_
 rintro _ w1 ⟨rfl,ad⟩
 refine P5 zep O (z2O _ (z3j hn jS (by omega) lD) _) ?_
 rintro _ w2 ⟨rfl,ae⟩
 refine Qm O$ OB func161 O ?_
 exact⟨_,rfl,rfl,ad.trans ae⟩
def z9x {w:World}{a:Option Addr}{c:Nat}{l:List Nat}(hl:l.length<=1000)(hn:Nof l)(hm:∀v∈l,v<=1000000000)(hR:Rd w (.slice a l.length c) 1 l.length (l.map OY)):Pm prog 120 [.slice a l.length c] w λv w'=>v= .bool true/\w'=w:=by
 refine py (e:=[(0,_)]) func120 O ntmps120 O O$ Qx O$ PK O$ Rs U34 O$ QB O$ PH$ Qg O$ Qx O$ PK O$ Rs U34 O$ ON O$ OC$ OE$ Rr (α:=Nat×Nat) ((0,0)) (λy=>[(3,OY y.2),(9,.slice a l.length c),(10,I (l.length:Int)),(11,I (y.1:Int))]) (λy w'=>w'=w/\y.1<=l.length/\y.2<=1000000000/\∀v,l[y.1]? =some v->y.2<=v) (λy=>l.length-y.1) ?hI ?hround
 case hI=>exact⟨rfl,Nat.zero_le _,Nat.zero_le _,λv _=>Nat.zero_le _⟩
 case hround=>
  rintro⟨i,z⟩ w4 ⟨rfl,hi,hz,Bz⟩ ih;dsimp only at hi hz Bz
  try dsimp only
  refine qN O$ Qw O$ OC$ An$ OQ O (λh0=>?_)$ λh0=>?_
  ·have dT:i<l.length:=by omega
   obtain⟨v,hv⟩:∃v,l[i]? =some v:=⟨_,List.getElem?_eq_getElem dT⟩;have L5:=Bz v hv;have E6:=hm v (List.mem_of_getElem? hv)
   obtain⟨gb,go,gc',e4⟩:∃b o c',Value.slice a l.length c= .slice (some ⟨b,o,none⟩) l.length c':=by
    rcases hR.2 with⟨c,hc,h0⟩|⟨b,off,c',hc,-⟩
    ·omega
    ·exact⟨b,off,c',hc⟩
   cases e4;refine OD$ QA$ qN O$ qV (PR U34 Tv O O (by omega))$ qV (Ps Rt O O (PU hR (show(l.map OY)[i]? =some (OY v) by rw[List.getElem?_map,hv];rfl))) ?_;refine OV O$ An$ Qt O$ Qw O$ PH$ Pa O$ QB O$ PH$ PM O$ Qg O$ R6 O$ OV O$ Oz$ OK O ?_;refine PS O$ ON O$ OC ((ih (i+1,v) _ ⟨rfl,dT,E6,λu hu=>?_⟩ (by dsimp only;omega)).qb);obtain⟨a1,a2⟩:=List.getElem?_eq_some_iff.1 hv;obtain⟨b1,b2⟩:=List.getElem?_eq_some_iff.1 hu;have:=List.pairwise_iff_getElem.1 hn i (i+1) a1 b1 (by omega)
   rwa [a2,b2] at this
  ·refine OO O$ Qx O$ OB func120 O ?_;exact⟨_,rfl,rfl,rfl⟩
def Su (k:Nat)(l:List Nat):List Bool:=l.flatMap λv=>Pc k (v%2^k)
def S8 (k:Nat):List Nat->List Bool
 |[]=>[]
 |v::_=>Pc 32 (v / 2^k)
theorem z90 (k:Nat)(l:List Nat)(v:Nat):Su k (l++[v])=Su k l++Pc k (v%2^k):=by simp[Su]
theorem UD (k:Nat):∀l:List Nat,(Su k l).length=l.length*k
 |[]=>by simp[Su]
 | v :: l => by
   show(Pc k (v%2^k)++Su k l).length=_;rw[List.length_append,UD k l,bitsN_length,List.length_cons,Nat.add_mul];omega
def z3Y (k:Nat):∀(l:List Nat) (len i v:Nat),Nof (l++[v])->(∀x,(l++[v]).head? =some x->len<=x / 2^k+i)->
  len+(hiB k len i l).length<=v / 2^k+(i+l.length)/\hiB k len i (l++[v])=hiB k len i l++(List.replicate (v / 2^k+(i+l.length)-(len+(hiB k len i l).length)) false++[true])
 | [], len, i, v, _, hl => by
   have:=hl v O;refine⟨by simp[hiB];omega,?_⟩
   simp[hiB]
 | x :: r, len, i, v, hn, hl => by
   have hx:=hl x O;rw[List.cons_append] at hn;obtain⟨n1,n2⟩:=List.pairwise_cons.1 hn
   obtain⟨h1,h2⟩:=z3Y k r (x / 2^k+i+1) (i+1) v n2 (λy hy=>by
    have pR:y∈r++[v]:=List.mem_of_mem_head? hy;have:=Nat.div_le_div_right (c:=2^k) (n1 y pR)
    omega)
   rw[List.cons_append,hiB,hiB,h2,List.length_append,List.length_replicate,List.length_cons,List.length_cons];refine⟨by omega,?_⟩;rw[List.append_assoc,List.cons_append,show v / 2^k+(i+1+r.length)-(x / 2^k+i+1+(hiB k (x / 2^k+i+1) (i+1) r).length)=v / 2^k+(i+(r.length+1))-(len+(x / 2^k+i-len+((hiB k (x / 2^k+i+1) (i+1) r).length+1))) by omega]
def z6f (k:Nat)(l:List Nat)(v:Nat):S8 k (l++[v])=S8 k l++if l.length=0 then Pc 32 (v / 2^k) else []:=by
 cases l with
 |nil=>simp[S8]
 |cons x l=>simp[S8]
def Yl (l:List Nat)(f:Fm):OI:=Ph (Pc 32 f.n++Pc 64 f.u)++Ph (Su f.width l)++Ph (hiB f.width 0 0 l)++Ph (S8 f.width l)
def zbr {b:Nat}:∀{l:List Nat},(∀x∈l,x<=b)->l.sum<=l.length*b
 |[],_=>by simp
 | x :: l, h => by
   have h1:=h x List.mem_cons_self;have h2:=zbr (λy hy=>h y (List.mem_cons_of_mem x hy));rw[List.sum_cons,List.length_cons,Nat.add_mul];omega
def z8P (k:Nat)(l:List Nat):(S8 k l).length<=32:=by
 cases l with
 |nil=>simp[S8]
 |cons v l=>simp[S8]
theorem z1y (k:Nat){l:List Nat}(hn:Nof l){z:Nat}(hz:l[l.length-1]? =some z):(hiB k 0 0 l).length=z / 2^k+l.length:=by
 have:=z7F k l 0 0 hn (λx hx=>Nat.zero_le _) z (by rw[List.getLast?_eq_getElem?];exact hz)
 omega
/-! ### Three writers side by side -/
def zbT (A B:Nat->Prop):Prop:=∀k,A k->¬B k
structure EfW (w0 w:World)(b5:Nat)(f:Fm)(p1 p2 p3:Nat)(l1 l2 l3:List Bool):Prop where
 ex:∃F1 F2 F3:Nat->Prop,YT w p1 l1 F1/\YT w p2 l2 F2/\YT w p3 l3 F3/\zbT F1 F2/\zbT F2 F3/\zbT F3 F1/\∀k,F1 k\/F2 k\/F3 k->w0.heap.size<=k/\k≠b5
 ext:Ext w0 w
 OA:OP w b5 (fmC f) 220
section
variable {w0 w:World}{b5:Nat}{f:Fm}{p1 p2 p3:Nat}{l1 l2 l3:List Bool}
def EfW.rot (h:EfW w0 w b5 f p1 p2 p3 l1 l2 l3):EfW w0 w b5 f p2 p3 p1 l2 l3 l1:=by
 obtain⟨⟨F1,F2,F3,h1,h2,h3,h4,h5,h6,h7⟩,hx,hb⟩:=h
 exact⟨⟨F2,F3,F1,h2,h3,h1,h5,h6,h4,λk hk=>h7 k (by rcases hk with e|e|e;exact .inr (.inl e);exact .inr (.inr e);exact .inl e)⟩,hx,hb⟩
def EfW.on (h:EfW w0 w b5 f p1 p2 p3 l1 l2 l3){w2:World}(hx:Ext w w2):EfW w0 w2 b5 f p1 p2 p3 l1 l2 l3:=by
 obtain⟨⟨F1,F2,F3,h1,h2,h3,h4,h5,h6,h7⟩,jY,hb⟩:=h
 exact⟨⟨F1,F2,F3,h1.ext hx,h2.ext hx,h3.ext hx,h4,h5,h6,h7⟩,jY.trans hx,hx.OA hb⟩
def EfW.zdJ (h:EfW w0 w b5 f p1 p2 p3 l1 l2 l3):∃F1,YT w p1 l1 F1/\¬F1 b5/\(∀w2 l,WrR p1 F1 w w2 l->EfW w0 w2 b5 f p1 p2 p3 l l2 l3):=by
 obtain⟨⟨F1,F2,F3,h1,h2,h3,h4,h5,h6,h7⟩,jY,hb⟩:=h
 refine⟨F1,h1,λe=>(h7 b5 (.inl e)).2 O,λw2 l hr=>?_⟩
 obtain⟨F1',g1,g2,g3⟩:=hr
 have z:=jY.size
 have lb:=hb.lt
 refine⟨⟨F1',F2,F3,g1,h2.kp g2 (λi hi e=>h4 i e hi),h3.kp g2 (λi hi e=>h6 i hi e),λk hk e=>?_,h5,λk hk e=>?_,λk hk=>?_⟩,jY.It g2 (λk hk=>(h7 k (.inl hk)).1),g2.OA hb (λe=>(h7 b5 (.inl e)).2 O)⟩
 ·rcases g3 k hk with e1|e1
  ·exact h4 k e1 e
  ·have:=h2.lt e;omega
 ·rcases g3 k e with e1|e1
  ·exact h6 k hk e1
  ·have:=h3.lt hk;omega
 ·rcases hk with hk|hk
  ·rcases g3 k hk with e1|e1
   ·exact h7 k (.inl e1)
   ·exact⟨by omega,by omega⟩
  ·exact h7 k (.inr hk)
def EfW.zd9 (h:EfW w0 w b5 f p1 p2 p3 l1 l2 l3):∃F2,YT w p2 l2 F2/\(∀w2 l,WrR p2 F2 w w2 l->EfW w0 w2 b5 f p1 p2 p3 l1 l l3):=by
 obtain⟨F2,h1,-,h2⟩:=h.rot.zdJ
 exact⟨F2,h1,λw2 l hr=>(h2 w2 l hr).rot.rot⟩
def EfW.zhu (h:EfW w0 w b5 f p1 p2 p3 l1 l2 l3):∃F3,YT w p3 l3 F3/\(∀w2 l,WrR p3 F3 w w2 l->EfW w0 w2 b5 f p1 p2 p3 l1 l2 l):=by
 obtain⟨F3,h1,-,h2⟩:=h.rot.rot.zdJ
 exact⟨F3,h1,λw2 l hr=>(h2 w2 l hr).rot⟩
end
def z41 {w:World}{a:Option Addr}{c:Nat}{l:List Nat}(dh:1<=l.length)(hn:l.length<=64)(mK:Nof l)(hm:∀v∈l,v<=999999999)(hR:Rd w (.slice a l.length c) 1 l.length (l.map OY)){z:Nat}(hz:l[l.length-1]? =some z):
  Pm prog 76 [.slice a l.length c] w λv w'=>v= .tuple #[S (Yl l (TQ l.length (z+1))),I 0]/\Ext w w':=by
 have NP:=hm z (List.mem_of_getElem? hz)
 have Ik:∀v∈l,v<=z:=λv hv=>by
  obtain⟨j,hj⟩:=List.mem_iff_getElem?.1 hv;obtain⟨a1,a2⟩:=List.getElem?_eq_some_iff.1 hj;obtain⟨b1,b2⟩:=List.getElem?_eq_some_iff.1 hz;rcases Nat.lt_or_ge j (l.length-1) with h| h
  ·have:=List.pairwise_iff_getElem.1 mK j (l.length-1) a1 b1 h
   rwa [a2,b2] at this
  ·have e:j=l.length-1:=by omega
   subst e;rw[hz] at hj;cases hj;exact Nat.le_refl _
 have wK:=Zg (n:=l.length) (u:=z+1) (by omega)
 have oz:=z1q (n:=l.length) (u:=z+1) dh (by omega)
 rw[Nat.add_sub_cancel] at oz
 obtain⟨gb,go,gc',e4⟩:∃b o c',Value.slice a l.length c= .slice (some ⟨b,o,none⟩) l.length c':=by
  rcases hR.2 with⟨c,hc,h0⟩|⟨b,off,c',hc,-⟩
  ·omega
  ·exact⟨b,off,c',hc⟩
 cases e4
 refine py (e:=[(0,_)]) func76 O ntmps76 O O$ qN O$ Qm O$ PK O$ P5 zh5 O (z9x (by omega) mK (λv hv=>by have:=hm v hv;omega) hR) ?_
 rintro _ w ⟨rfl,rfl⟩
 refine qV ((RZ O))$ Qg O$ Qx O$ PK O$ Rs U34 O$ QB O$ OC$ OQ O (λh0=>?_)$ λh0=>?_
 ·refine OK O$ Pa O$ Rs U34 O$ Ro O ?_;rw[show(l.length:Int)-1=((l.length-1:Nat):Int) by omega];refine qV (PR U34 Tv O O (by omega))$ qV (Ps Rt O O (PU hR (show(l.map OY)[l.length-1]? =some (OY z) by rw[List.getElem?_map,hz];rfl))) ?_;refine qV (UU O O) ?_;rw[Nat.mod_eq_of_lt (show z+1<18446744073709551616 by omega)];refine QW O$ Rs U34 O$ ON O$ P5 zc2 O (Y7 l.length (z+1) dh (by omega) (by omega) (by omega) _) ?_;rintro _ w1 ⟨rfl,ad⟩
  generalize hf:TQ l.length (z+1)=f
  have L6:f.width=Yd l.length (z+1):=by rw[<-hf];rfl
  have qy:f.n=l.length:=by rw[<-hf];rfl
  have BA:f.u=z+1:=by rw[<-hf];rfl
  rw[<-L6] at wK oz;refine OJ O O (Ry (cs:=[_,_,_,_]) Tj O) ?_;rintro _ w2 ⟨b5,rfl,gR,ae,aH⟩;refine OT O (PG (news:=fmC f) Tj O O O O aH (by simp)) ?_;rintro w3 ⟨iQ,av⟩;replace iQ:OP w3 b5 (fmC f) 220:=iQ;have z1:=ad.size;have z2:=ae.size;have lb5:=iQ.lt;have aZ:Ext w1 w3:=ae.It av (λi e=>by omega);have z3:=aZ.size;refine qM O$ P5 z0L O (Uy w3) ?_;rintro _ w4 ⟨p1,F1,rfl,E7,aA,pF⟩;refine P5 z0L O (Uy w4) ?_;rintro _ w5 ⟨p2,F2,rfl,Il,aU,Im⟩;refine P5 z0L O (Uy w5) ?_;rintro _ w6 ⟨p3,F3,rfl,nx,aR,qP⟩;have z4:=aA.size;have z5:=aU.size
  have L7:EfW w w6 b5 f p1 p2 p3 [] [] []:=⟨⟨F1,F2,F3,(E7.ext aU).ext aR,Il.ext aR,nx,λk h1 h2=>by have:=E7.lt h1;have:=Im k h2;omega,λk h1 h2=>by have:=Il.lt h1;have:=qP k h2;omega,λk h1 h2=>by have:=E7.lt h2;have:=qP k h1;omega,λk hk=>by
   rcases hk with h|h| h
   ·have:=pF k h;omega
   ·have:=Im k h;omega
   ·have:=qP k h;omega⟩,(((ad.trans aZ).trans aA).trans aU).trans aR,aR.OA (aU.OA (aA.OA iQ))⟩
  refine SA O$ Qm O$ Po.qb (e:=[(0,_),(2,_),(3,_),(4,_),(5,_),(6,_),(7,_),(8,_)]) ?_;refine PK O$ Rs U34 O$ ON O$ OC$ OE$ Rr (α:=Nat) (0) (λi=>[(4,OY (z+1)),(5,ptr b5 0),(6,ptr p1 0),(7,ptr p2 0),(8,ptr p3 0),(39,.slice (some ⟨gb,go,none⟩) l.length c),(40,I (l.length:Int)),(41,I (i:Int))]) (λi w'=>EfW w w' b5 f p1 p2 p3 (Su f.width (l.take i)) (hiB f.width 0 0 (l.take i)) (S8 f.width (l.take i))/\i<=l.length) (λi=>l.length-i) ?hI ?hround
  case hI=>exact⟨L7,Nat.zero_le _⟩
  case hround =>
   rintro i w7 ⟨hE,hi⟩ ih
   try dsimp only
   refine qN O$ Qw O$ OC$ An$ OQ O (λh1=>?_)$ λh1=>?_
   ·have dT:i<l.length:=by omega
    obtain⟨v,hv⟩:∃v,l[i]? =some v:=⟨_,List.getElem?_eq_getElem dT⟩;have E6:=Ik v (List.mem_of_getElem? hv);have In:v / 2^f.width<=z / 2^f.width:=Nat.div_le_div_right E6;have qF:(l.take i).length=i:=by rw[List.length_take];omega
    obtain⟨et,dw⟩:=z3Y f.width (l.take i) 0 0 v (by rw[<-PC hv];exact mK.sublist (List.take_sublist _ _)) (λx hx=>Nat.zero_le _);rw[<-PC hv,Nat.zero_add,Nat.zero_add,qF] at dw;rw[Nat.zero_add,Nat.zero_add,qF] at et;have NQ:(l.take i).length*f.width<=64*30:=Nat.mul_le_mul (by omega) (by omega);have hg:=Ext.P4 w7;obtain⟨F1',E8,ym,fx⟩:=(hE.on hg).zdJ;have yn:OP w7 b5 [I (f.n:Int),OY f.u,I (f.width:Int),I (f.bits:Int)] 220:=hE.OA;have tV:=Nat.two_pow_pos f.width;have NR:2^f.width<=2^30:=Nat.pow_le_pow_right (by decide) wK;refine OD$ QA$ Pn O$ qV (PR U34 Tv O O (by omega))$ qV (Ps Rt O O (PU (hR.ext hE.ext) (show(l.map OY)[i]? =some (OY v) by rw[List.getElem?_map,hv];rfl))) ?_;refine Qm O$ An$ QV (λw'=>Kp F1' w7 w') O$ OZ 0 O O (hg.kp)$ OZ 1 O O (hg.kp)$ OG 2 O (Pr Td O) (hg.kp)$ qT 3 O (λ_ h=>OM U3 O O (h.OA yn ym) O) (hg.kp)$ OG 7 O (Pr Td O) (hg.kp)$ qT 8 O (λ_ h=>OM U3 O O (h.OA yn ym) O) (hg.kp)$ OG 4 O (Rf f.width (2^f.width) O O (by omega) O) (hg.kp) ?_;rw[show 1*2^f.width%18446744073709551616=2^f.width by rw[Nat.one_mul];exact Nat.mod_eq_of_lt (by omega)];refine OG 5 O (Ww (m:=2^f.width) (n:=1) O O O (by show 2^f.width<2^64;omega) (by omega)) (hg.kp) ?_;refine OG 6 O (Ux O O (by omega) (by omega)) (hg.kp) ?_;rw[Nat.and_two_pow_sub_one_eq_mod];refine RT 9 O Wl O (Se E8 (v%2^f.width) f.width (by omega) (Nat.mod_lt _ tV) (by rw[UD];omega)) ?_;rintro _ w8 ⟨rfl,g9⟩;refine⟨hg.kp.trans g9.choose_spec.2.1,?_⟩;have wL:=fx _ _ g9;rw[<-z90,<-PC hv] at wL;have uB:OP w8 b5 [I (f.n:Int),OY f.u,I (f.width:Int),I (f.bits:Int)] 220:=wL.OA;obtain⟨F2',rf,ft⟩:=wL.zd9;refine qE$ Pn O$ OW Td O$ qV (OM U3 O O uB O)$ qV (Uw f.width (2^f.width) O O (by show f.width<=64;omega) O) ?_;have eF:=z6f f.width (l.take i) v;rw[<-PC hv,qF] at eF
    generalize v / 2^f.width=vq at et dw In eF
    generalize z / 2^f.width=zq at In oz
    refine qV (PJ O Rt U3 (by omega))$ ON O$ PS O ?_;rw[show(vq:Int)+(i:Int)=((vq+i:Nat):Int) by omega];refine OV O$ An$ Qt O$ P5 z2g O (Vy rf) ?_;rintro _ w8 ⟨rfl,rfl⟩;refine Ro O ?_
    generalize E9:(hiB f.width 0 0 (l.take i)).length=HL at et dw
    rw[show((vq+i:Nat):Int)-(HL:Int)=((vq+i-(HL+0):Nat):Int) by omega];refine OV O$ OE$ Rr (α:=Nat) (0) (λy=>[(4,OY (z+1)),(5,ptr b5 0),(6,ptr p1 0),(7,ptr p2 0),(8,ptr p3 0),(9,I (i:Int)),(11,I ((vq+i:Nat):Int)),(12,I ((vq+i-(HL+y):Nat):Int)),(39,.slice (some ⟨gb,go,none⟩) l.length c),(40,I (l.length:Int)),(41,I (i:Int))]) (λy w'=>EfW w w' b5 f p1 p2 p3 (Su f.width (l.take (i+1))) (hiB f.width 0 0 (l.take i)++List.replicate y false) (S8 f.width (l.take i))/\HL+y<=vq+i) (λy=>vq+i-(HL+y)) ?hI ?hround
    case hI=>exact⟨by simpa using wL,et⟩
    case hround=>
     rintro y w9 ⟨wM,hy⟩ ih2
     try dsimp only
     obtain⟨F2',rf,ft⟩:=wM.zd9;refine PK O$ QB O$ OC$ OQ O (λh2=>?_)$ λh2=>?_
     ·obtain⟨m,pS,eB,lT,Io⟩:∃m,min (vq+i-(HL+y)) 64=m/\1<=m/\m<=64/\HL+y+m<=vq+i:=⟨_,rfl,by omega,by omega,by omega⟩;refine OD$ QA$ OK O$ Pa O$ qV (ymi O O) ?_;rw[show min ((vq+i-(HL+y):Nat):Int) 64=(m:Int) by omega];refine P5 Wl O (Se rf 0 m lT (Nat.two_pow_pos _) (by rw[List.length_append,List.length_replicate,E9];omega)) ?_;rintro _ w10 ⟨rfl,oA⟩;have kR:=ft _ _ oA;rw[VJ,List.append_assoc,List.replicate_append_replicate] at kR;obtain⟨F2'',yo,-⟩:=kR.zd9;refine OC$ Oz$ OK O$ Pa O$ P5 z2g O (Vy yo) ?_;rintro _ w10 ⟨rfl,rfl⟩;rw[show(hiB f.width 0 0 (l.take i)++List.replicate (y+m) false).length=HL+(y+m) by rw[List.length_append,List.length_replicate,E9]];refine Ro O ?_;rw[show((vq+i:Nat):Int)-((HL+(y+m):Nat):Int)=((vq+i-(HL+(y+m)):Nat):Int) by omega];refine OV O ?_;exact(ih2 (y+m) _ ⟨kR,by omega⟩ (by omega)).qb
     ·have L8:y=vq+i-HL:=by omega
      subst L8;refine OO O$ Pn O$ P5 Wl O (Se rf 1 1 (by decide) (by decide) (by rw[List.length_append,List.length_replicate,E9];omega)) ?_;rintro _ w10 ⟨rfl,oA⟩;have kR:=ft _ _ oA;rw[show Pc 1 1=[true] from rfl,List.append_assoc,<-dw] at kR;refine qM O$ ON O$ qV (yre O O (by omega))$ Rg O$ OC$ OQ O (λh3=>?_)$ λh3=>?_
      ·have g7:i=0:=by omega
       obtain⟨F3',Ea,nz⟩:=kR.zhu;refine OK O$ Pa O$ qV ((Q7 O U3 Rt (by omega)))$ P5 Wl O (Se Ea (vq+i) 32 (by decide) (by show _<2^32;omega) (by rw[g7];show 0+32<=_;omega)) ?_;rintro _ w11 ⟨rfl,Eb⟩;have mL:=nz _ _ Eb;refine OC$ Oz$ OK O$ PS O$ ON O$ OC ((ih (i+1) _ ⟨?_,dT⟩ (by omega)).qb);rw[eF,if_pos g7];rw[show vq+i=vq by omega] at mL;exact mL
      ·refine OD$ Oz$ OK O$ PS O$ ON O$ OC ((ih (i+1) _ ⟨?_,dT⟩ (by omega)).qb);rw[eF,if_neg (by omega),List.append_nil];exact kR
   ·have dl:i=l.length:=by omega
    subst dl;rw[List.take_length] at hE;refine OO O$ qN O$ P5 z0L O (Uy w7) ?_;rintro _ w8 ⟨p4,F4,rfl,mB,cT,Ip⟩;have uB:OP w8 b5 [I (f.n:Int),OY f.u,I (f.width:Int),I (f.bits:Int)] 220:=(hE.on cT).OA;refine QW O$ OW YD O$ qV (OM U3 O O uB O)$ qV ((Q7 O U3 Rt (by omega)))$ P5 Wl O (Se mB f.n 32 (by decide) (by show _<2^32;omega) (by simp)) ?_;rintro _ w9 ⟨rfl,F5,BB,aw,wJ⟩;have iR:Ext w7 w9:=cT.It aw Ip;have z79:=iR.size;refine qM O$ Pa O$ P5 Wl O (Se BB (z+1) 64 (by decide) (by show _<2^64;omega) (by simp)) ?_;rintro _ w10 ⟨rfl,F6,mh,aC,NS⟩
    have sD:Ext w7 w10:=iR.It aC (λk hk=>by
     rcases wJ k hk with e| e
     ·exact Ip k e
     ·have:=cT.size;omega)
    rw[List.nil_append,<-BA] at mh;refine qM O$ OV O$ An$ Qt O$ Pa O$ OJ O O (XZ (cs:=[_,_,_,_]) (zs:=[Value.pointer none,Value.pointer none,Value.pointer none,Value.pointer none]) zf6 z8H O (by kernel_rfl) O O O (by decide)) ?_;rintro _ w11 ⟨b100,rfl,⟨Iq,aV,Ir⟩,yp⟩;have mL:=hE.on (sD.trans aV);obtain⟨tx,jg⟩:∃tx:List OI,tx=[Ph (Pc 32 f.n++Pc 64 f.u),Ph (Su f.width l),Ph (hiB f.width 0 0 l),Ph (S8 f.width l)]:=⟨_,rfl⟩
    have kw:∀j,(List.take j (List.map List.length tx)).sum<=4000:=λj=>by
     have h1:∀x∈List.take j (List.map List.length tx),x<=1000:=λx hx=>by
      have ae:=List.mem_of_mem_take hx;rw[jg] at ae;have eP:(Su f.width l).length<=64*30:=by rw[UD];exact Nat.mul_le_mul hn (by omega)
      have pQ:=z1y f.width mK hz;have im:=z8P f.width l;simp only[List.map_cons,List.map_nil,Py,List.length_append,bitsN_length] at ae;simp only[List.mem_cons,List.not_mem_nil,or_false] at ae
      generalize z / 2^f.width=zq at oz pQ
      omega
     have h2:=zbr h1;have h3:(List.take j (List.map List.length tx)).length<=4:=by rw[List.length_take,List.length_map,jg];simp;omega
     omega
    have gQ:∀(j:Nat) (x:OI),tx[j]? =some x->x.length<=4000:=λj x hx=>by
     have h1:=kw (j+1);rw[PC (q:=x.length) (by rw[List.getElem?_map,hx];rfl),List.sum_append] at h1;simp at h1;omega
    have hq:∀j,j<4->∃q bs F,([ptr p4 0,ptr p1 0,ptr p2 0,ptr p3 0]:List Value)[j]? =some (ptr q 0)/\tx[j]? =some (Ph bs)/\YT w11 q bs F:=λj hj=>by
     obtain⟨F1,h1,-,-⟩:=mL.zdJ;obtain⟨F2,h2,-⟩:=mL.zd9;obtain⟨F3,h3,-⟩:=mL.zhu;rw[jg];have Ec:j=0\/j=1\/j=2\/j=3:=by omega
     rcases Ec with e|e|e|e<;>subst e
     ·exact⟨p4,_,_,rfl,rfl,mh.ext aV⟩
     ·exact⟨p1,_,_,rfl,rfl,h1⟩
     ·exact⟨p2,_,_,rfl,rfl,h2⟩
     ·exact⟨p3,_,_,rfl,rfl,h3⟩
    refine Rs zf6 O$ ON O$ OC$ Po.qb (e:=[(14,_),(100,_),(101,_),(102,_)]) ?_;refine OE$ Rr (α:=Nat) (0) (λj=>[(14,S ((tx.take j).flatten)),(100,.slice (some ⟨b100,0,none⟩) 4 4),(101,I 4),(102,I (j:Int))]) (λj w'=>w'=w11/\j<=4) (λj=>4-j) ?hI ?hround
    case hI=>exact⟨rfl,Nat.zero_le _⟩
    case hround=>
     rintro j w12 ⟨rfl,hj⟩ ih2
     try dsimp only
     refine qN O$ Qw O$ OC$ An$ OQ O (λh2=>?_)$ λh2=>?_
     ·obtain⟨q,bs,F,g1,g2,g3⟩:=hq j (by omega);have NT:=kw j;have NU:=gQ j _ g2;refine OD$ QA$ qN O$ qV (PR zf6 z8H O O (by omega))$ qV (Ps z3K O O (PU yp.rd g1))$ QW O$ P5 z7s O (Xk g3) ?_;rintro _ w12 ⟨rfl,rfl⟩;refine ON O$ zex O$ qV (Ru (v:=I 0) O O)$ Qm O$ PK O$ QE O$ Qg O$ OK O$ Pa O$ qV (YH O O (by first|omega|(simp;done)|(simp;omega))) ?_;refine OV O$ Oz$ OK O$ PS O$ ON O$ OC ?_;rw[show(tx.take j).flatten++Ph bs=(tx.take (j+1)).flatten by rw[PC g2,List.flatten_append];simp];exact(ih2 (j+1) _ ⟨rfl,by omega⟩ (by omega)).qb
     ·have Ec:j=4:=by omega
      subst Ec;refine OO O$ Pn O$ Qm O$ OB func76 O (⟨_,rfl,?_,(hE.ext.trans sD).trans aV⟩);rw[jg];simp[PX,Yl]
 ·omega
end Go.Proofs.YtffbidffdbpcoaaGreatDoor
