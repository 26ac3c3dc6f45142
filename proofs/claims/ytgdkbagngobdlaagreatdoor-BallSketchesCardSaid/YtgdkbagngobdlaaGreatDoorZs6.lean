/- Merged by program. -/
import Derived.Test.YtgdkbagngobdlaaGreatDoorZs5
set_option linter.all false
set_option maxRecDepth 1000000
set_option maxHeartbeats 16000000
namespace Go.Proofs.YtgdkbagngobdlaaGreatDoor
open Go Go.RowKit Go.Proofs.Tryz
theorem z7C (v:Value)(l:List Int)(x:Int)(w:World)(hl:l.length<=17592186044416)(hr:Rd w v 1 l.length (l.map I)):
  Oy prog 218 [v,I x] w λu w'=>(∃k,u=I k/\(0<=k↔x∈l))/\w'=w:=by
 obtain⟨a,cap,rfl,ha⟩:=hr.shape
 refine NP (e:=[(0,_),(1,_)]) func218 O ntmps218 O O$ qN O$ NZ O$ py$ qN O$ NT O$ Qx Qt O$ NT O$ NU$ NQ$ Qm (α:=Nat) (0) (λi=>[(0,.slice a l.length cap),(1,I x),(7,I (l.length:Int)),(8,I (i:Int))]) (λi w'=>w'=w/\i<=l.length/\∀j,j<i->l[j]?≠some x) (λi=>l.length-i) ?hI ?hround
 case hI=>exact⟨rfl,by omega,by omega⟩
 case hround =>
  rintro i _ ⟨rfl,hi,fx⟩ ih
  try dsimp only
  refine qN O$ Py O O$ NU$ py$ O8 O (λaZ=>?_)$ λaZ=>?_
  ·have fZ:i<l.length:=by omega
   rcases hr.2 with⟨c,-,h⟩|⟨b,off,cap',lB,aW⟩
   ·omega
   cases lB;refine An$ py$ NQ$ qN O$ NT O$ Oc O$ qM O$ Od O O$ NT O$ qV (P7 Qt Pb O O (by omega))$ qV (OC U3 O O (aW (i*1) (I l[i]) (by simp[fZ]))) ?_;refine Qe O O$ NU$ O8 O (λdI=>?_)$ λdI=>?_
   ·refine qN O$ NT O$ NZ O$ NV func218 O (⟨_,rfl,⟨(i:Int),rfl,?_⟩,rfl⟩);constructor
    ·intro _;rw[dI];exact List.getElem_mem fZ
    ·intro _;omega
   ·refine An$ NS$ NW O$ P6 O O$ NT O$ NU ?_
    exact(ih (i+1) _ ⟨rfl,by omega,λj hj=>by
     rcases Nat.lt_or_ge j i with h| h
     ·exact fx j h
     ·have:j=i:=by omega
      subst this;rw[List.getElem?_eq_getElem fZ]
      exact λh=>dI (PJ h).symm⟩ (by omega)).qb
  ·refine O4 O$ qN O$ NZ O$ NV func218 O (⟨_,rfl,⟨-1,rfl,?_⟩,rfl⟩);constructor
   ·intro h;omega
   ·intro h;obtain⟨j,hj,e⟩:=List.getElem_of_mem h;exact absurd (by rw[List.getElem?_eq_getElem hj,e]) (fx j (by omega))
theorem z26 (v:Value)(l:List Int)(x:Int)(w:World)(hl:l.length<=17592186044416)(hr:Rd w v 1 l.length (l.map I)):
  Oy prog 245 [v,I x] w λu w'=>u= .bool (decide (x∈l))/\w'=w:=by
 refine NP (e:=[(0,_),(1,_)]) func245 O ntmps245 O O$ qN O$ Oc O$ qM O$ Od O O$ Om zdw O (z7C v l x w hl hr) ?_
 rintro _ w1 ⟨⟨k,rfl,hk⟩,rfl⟩
 refine SB O O$ NZ O$ NV func245 O (⟨_,rfl,?_,rfl⟩)
 simp only[Pn,hk]
theorem z5G (c x:NY)(rest:List Value)(i:Nat)(h:i+x.length<=c.length):PU (c.map Rb++rest) i (x.map Rb)=(z7K c i x).map Rb++rest:=by
 unfold PU z7K
 rw[List.take_append_of_le_length (by simp;omega),List.drop_append_of_le_length (by simp;omega)]
 simp
theorem YE {D:Dev}{l:List Int}{tn:Int}{mk:UInt8}{i:Nat}{x:Int×NY}(hx:D.cache[i]? =some x):D.fallTo l tn mk (i+1)=
  if(i:Int)=tn then Z8 (D.fallTo l tn mk i) x.1 (mixN mk (((D.fallTo l tn mk i) x.1).getD (zeros (512*D.N))) x.2 D.N)
   else if(i:Int)∈l then Z8 (D.fallTo l tn mk i) x.1 x.2 else D.fallTo l tn mk i:=by
 simp only[Dev.fallTo,hx]
theorem zaz {w : World}{p m : Nat}{kp ca cv : Value}{D : Dev}(h : Ra w p m kp ca D)(l : List Int)(tn : Int)(mk : UInt8)(hl : l.length <= 17592186044416)(hr : Rd w cv 1 l.length (l.map I))(er : D.cache.length < 2000000000000) :
  Oy prog 227 [ptr p 0,.agg #[cv,I tn,Rb mk]] w λv w'=>v= .tuple #[]/\Ra w' p m (.slice none 0 0) (.slice none 0 0) (D.za5 l tn mk)/\Kp (λk=>k=p\/k=m) w w':=by
 have aF:=h.ok.len
 have hN:=h.ok.hN
 have L3:=mk.toNat_lt
 have L4:=h.pm
 have Ey:=h.lt m (.inr (.inl O))
 have I1:∀{w':World},Ext w w'->w.heap.size<=w'.heap.size:=λh=>h.size
 obtain⟨a,cap,rfl,ha⟩:=h.cache.rd.shape
 obtain⟨ac,capc,rfl,Ns⟩:=hr.shape
 refine NP (e:=[(0,_),(1,_)]) func227 O ntmps227 O O$ qN O$ O5 O O (Qr O O) ?_
 rintro _ w1 ⟨b3,rfl,f7,ad,au⟩
 have h0:=h.ext ad
 have dm:=ad.size
 replace hr:=hr.ext ad
 have Ev:=au.lt
 have hM:=h0.NX
 refine NU$ py$ qN O$ NT O$ OH O$ Og XM O$ qV (O6 z0v O O hM O)$ Qx z0v O$ NT O$ NU$ NQ$ Qm (α:=Nat) (0) (λi=>[(0,ptr p 0),(3,ptr b3 0),(11,.slice a D.cache.length cap),(12,I (D.cache.length:Int)),(13,I (i:Int))]) (λi wi=>i<=D.cache.length/\Ra wi p m kp (.slice a D.cache.length cap) {D with sf:=D.fallTo l tn mk i}/\Rd wi (.slice ac l.length capc) 1 l.length (l.map I)/\O9 wi b3 [.slice ac l.length capc,I tn,Rb mk] 130/\Kp (λk=>k=m) w1 wi) (λi=>D.cache.length-i) ?hI ?hround
 case hI=>exact⟨by omega,h0,hr,au,Kp.refl _ _⟩
 case hround =>
  rintro i wi ⟨hi,hd,m6,gB,sy⟩ ih
  try dsimp only
  have L5:=sy.size;refine qN O$ Py O O$ NU$ py$ O8 O (λaZ=>?_)$ λaZ=>?_
  ·have fZ : i < D.cache.length := by omega
   have nM:=hd.cache;rcases nM.shape with⟨-,h⟩|⟨gb,cap',lB,jO⟩
   ·exact absurd h (by show ¬D.cache.length=0;omega)
   cases lB;obtain⟨x,hx⟩:∃x,D.cache[i]? =some x:=⟨_,List.getElem?_eq_getElem fZ⟩;have oY:D.cache[i]=x:=by rw[List.getElem?_eq_getElem fZ] at hx;exact PJ hx
   have fP:((wrs D.cache).drop (i*2)).take 2=wr x:=by rw[z6L _ _ fZ,oY]
   have iN:=hd.ok.cache x (List.mem_of_getElem? hx);simp only at iN;have kT:=nM.part fP;refine An$ py$ NQ$ qN O$ NT O$ qV (P7 z0v VA O O (by omega))$ qV (OE zhK O VA O kT O)$ O5 O O (QU (cs:=[_,_]) VA O) ?_;rintro _ w2 ⟨b5,rfl,gQ,ae,aG⟩;refine Oc O$ Oe O (P4 VA O O O O aG (by simp)) ?_;rintro w3 ⟨eA,aw⟩;replace eA:O9 w3 b5 [I x.1,S x.2] 337:=eA;have ah:Ext wi w3:=ae.NR aw (λj hj=>by omega);have hH:=eA.lt;replace hd:=hd.ext ah;have lM:=hd.lt;replace m6:=m6.ext ah;have qj:=m6;replace gB:=ah.NX gB;have j4:=gB.lt;have ct:Kp (λk=>k=m) w1 w3:=sy.trans ah.kp;have L6:=ah.size;have I2:¬b3=b5:=by have:=ae.size;have:=gB;omega
   refine NU$ NQ$ qN O$ NT O$ Og zc3 O$ qV ((O6 U3 O O gB O))$ Qe O O$ NZ O$ O8 O (λB9=>?_)$ λB9=>?_
   ·refine qN O$ NT O$ Og Zm O$ qV ((O6 U3 O O eA O))$ Om zdn O (z42 x.1 hd) ?_;rintro _ w4 ⟨rfl,az⟩;obtain⟨k0,i9⟩:∃k0,Dev.kept {D with sf:=D.fallTo l tn mk i} x.1=k0:=⟨_,rfl⟩;have yV:k0.length=512*D.N:=by rw[<-i9];exact hd.ok.kept x.1
    rw[i9];refine O5 O O (z5t U9 Pc U5 O) ?_;rintro _ w5 ⟨bb,capb,rest,rfl,⟨p5,aR,Ba⟩,I3⟩;have di:=az.trans aR;replace hd:=hd.ext di;replace m6:=m6.ext di;replace gB:=di.NX gB;replace eA:=di.NX eA;have L7:=Ba.lt;have vH:=hd.NX;have I4:=di.size;have L8:=az.size;have L9:=hd.NX.lt;refine NZ O$ py$ qN O$ NT O$ OH O$ Og Zl O$ Og YD O$ qV (O6 U3 O O vH O)$ NT O$ NU$ NQ$ Qm (α:=Nat) (0) (λs=>[(0,ptr p 0),(3,ptr b3 0),(5,ptr b5 0),(6,.slice (some ⟨bb,0,none⟩) k0.length capb),(11,.slice (some ⟨gb,0,none⟩) D.cache.length cap),(12,I (D.cache.length:Int)),(13,I (i:Int)),(32,I (D.N:Int)),(33,I (s:Int))]) (λs ws=>s<=D.N/\O9 ws bb ((mixN mk k0 x.2 s).map Rb++rest) 5/\Kp (λk=>k=bb) w5 ws) (λs=>D.N-s) ?hI ?hround
    case hI=>exact⟨by omega,Ba,Kp.refl _ _⟩
    case hround=>
     rintro s ws ⟨hs,kz,fK⟩ ihs
     try dsimp only
     have yW:=fK.NX gB (by omega);have yX:=fK.NX eA (by omega);have dF:=Vx mk k0 x.2 D.N yV iN.2.2 s hs;refine qN O$ Py O O$ NU$ py$ O8 O (λg7=>?_)$ λg7=>?_
     ·have La:s<D.N:=by omega
      obtain⟨q,hq⟩:∃q,mk.toNat / 2^s=q:=⟨_,rfl⟩;have Nt:q<256:=by rw[<-hq];exact Nat.lt_of_le_of_lt (Nat.div_le_self _ _) L3
      refine An$ py$ NQ$ qN O$ NT O$ Oc O$ qM O$ Og zbK O$ qV (O6 U5 O O yW O)$ NT O$ qV (R9 s (2^s) O O (by simp only[IntKind.bits];omega) O) ?_;rw[hq];refine qV (zje O O (by omega) (by omega)) ?_;rw[Nat.and_one_is_mod];refine Qe O O$ NU$ O8 O (λnz=>?_)$ λnz=>?_
      ·have nN:q%2=1:=by omega
       refine Qj (λw'=>Kp (λk=>k=bb) ws w') O$ Oj 0 O O ((Kp.refl _ ws).drew)$ Oj 1 O O ((Kp.refl _ ws).drew)$ O0 2 O (Xa O O (by omega)) ((Kp.refl _ ws).drew)$ Oj 3 O O ((Kp.refl _ ws).drew)$ O0 4 O (TK O O (by omega)) ((Kp.refl _ ws).drew)$ O0 5 O (Xa O O (by omega)) ((Kp.refl _ ws).drew)$ O0 7 O (OG z2p O) ((Kp.refl _ ws).drew)$ qT 8 O (λ_ h=>O6 U9 O O (h.NX yX (by omega)) O) ((Kp.refl _ ws).drew)$ Oj 9 O O ((Kp.refl _ ws).drew)$ O0 10 O (Xa O O (by omega)) ((Kp.refl _ ws).drew)$ O0 11 O (YW U9 O O (by omega)) ((Kp.refl _ ws).drew)$ O0 6 O (zfp (i:=s*512) (j:=(s+1)*512) Pc Us O O O (by omega) (by omega)) ((Kp.refl _ ws).drew)$ qO 12 ?_;refine R3 (i:=12) O O O (zja Pc Us O O ((Ext.Ob ws).NX kz) (by simp[dF];omega)) ?_;rintro _ w6 ⟨rfl,aO,aP⟩;refine⟨(Kp.refl _ ws).drew.trans aP,?_⟩
       have e6:((x.2.drop (s*512)).take ((s+1)*512-s*512)).map Rb=((x.2.drop (512*s)).take 512).map Rb:=by
        rw[show(s+1)*512-s*512=512 by omega,Nat.mul_comm]
       rw[e6,show 0+s*512*1=512*s by omega,z5G _ _ _ _ (by simp[dF,iN.2.2];omega)] at aO
       have em:mixN mk k0 x.2 (s+1)=z7K (mixN mk k0 x.2 s) (512*s) ((x.2.drop (512*s)).take 512):=by
        simp only[mixN,hq,nN,if_true]
       rw[<-em] at aO;refine qE$ NS$ NW O$ P6 O O$ NT O$ NU ?_;exact(ihs (s+1) w6 ⟨by omega,aO,fK.trans ((Kp.refl _ ws).drew.trans aP)⟩ (by omega)).qb
      ·have nN:¬q%2=1:=by omega
       have em:mixN mk k0 x.2 (s+1)=mixN mk k0 x.2 s:=by simp only[mixN,hq,nN,if_false]
       rw[<-em] at kz;refine An$ NS$ NW O$ P6 O O$ NT O$ NU ?_;exact(ihs (s+1) ws ⟨by omega,kz,fK⟩ (by omega)).qb
     ·have CM:s=D.N:=by omega
      subst CM;have yY:=hd.kp fK λk hk dV=>by have:=lM k hk;omega
      obtain⟨kv,nK,mQ⟩:=yY.map;have Lb:=yY.NX;have qk:Ext w3 ws:=di.NR fK (λj hj=>by omega);have u5:=qj.ext qk;refine O4 O$ Qj (λw'=>Kp (λk=>k=m) ws w') O$ Oj 0 O O ((Kp.refl _ ws).drew)$ O0 1 O (Pq O) ((Kp.refl _ ws).drew)$ O0 2 O (OG z2n O) ((Kp.refl _ ws).drew)$ qT 3 O (λ_ h=>(O6 z8U O O (h.NX Lb yY.pm) O)) ((Kp.refl _ ws).drew)$ O0 4 O (OG Zm O) ((Kp.refl _ ws).drew)$ qT 5 O (λ_ hS=>(O6 U3 O O (hS.NX yX (by omega)) O)) ((Kp.refl _ ws).drew)$ Oj 6 O O ((Kp.refl _ ws).drew)$ qT 7 O (λ_ h=>z18 (l:=mixN mk k0 x.2 D.N) Pc U5 U9 O (h.NX kz (by omega)) (z35 _ _ _ (by omega)) (by omega)) ((Kp.refl _ ws).drew)$ qO 8$ OP (i:=8) O O (zmu (k:=x.1) (K:=KI) z8U (Rj U3) O O O (Ext.map (Ext.Ob ws) nK)) ?_;rintro w7 ⟨fO,aD⟩;refine⟨(Kp.refl _ ws).drew.trans aD,?_⟩;have eJ:=(Kp.refl (λi=>i=m) ws).drew.trans aD;have rI:=yY.put mQ fO eJ (yY.ok.put ⟨iN.1,iN.2.1⟩ (Vx mk k0 x.2 D.N yV iN.2.2 D.N (Nat.le_refl _)))
      have ef:Z8 (D.fallTo l tn mk i) x.1 (mixN mk k0 x.2 D.N)=D.fallTo l tn mk (i+1):=by
       rw[YE hx,if_pos B9,<-i9];rfl
      simp only[ef] at rI;refine qE$ NS$ NS$ NW O$ P6 O O$ NT O$ NU ?_;exact(ih (i+1) w7 ⟨by omega,rI,u5.kpm nK eJ,eJ.NX yW (by omega),ct.trans (qk.kp.trans eJ)⟩ (by omega)).qb
   ·have Ez:=hd.NX;refine qN O$ Og zbU O$ qV ((O6 Qt O O gB O))$ NT O$ Om zfM O (z26 (.slice ac l.length capc) l (i:Int) w3 hl qj) ?_;rintro _ w4 ⟨rfl,rfl⟩;refine NZ O$ O8 O (λaV=>?_)$ λaV=>?_
    ·obtain⟨kv,nK,mQ⟩:=hd.map;refine Qj (λw'=>Kp (λk=>k=m) w4 w') O$ Oj 0 O O ((Kp.refl _ w4).drew)$ O0 1 O (Pq O) ((Kp.refl _ w4).drew)$ O0 2 O (OG z2n O) ((Kp.refl _ w4).drew)$ qT 3 O (λ_ h=>(O6 z8U O O (h.NX Ez hd.pm) O)) ((Kp.refl _ w4).drew)$ O0 4 O (OG Zm O) ((Kp.refl _ w4).drew)$ qT 5 O (λ_ hS=>(O6 U3 O O (hS.NX eA (by omega)) O)) ((Kp.refl _ w4).drew)$ O0 6 O (OG z2p O) ((Kp.refl _ w4).drew)$ qT 7 O (λ_ hS=>(O6 U9 O O (hS.NX eA (by omega)) O)) ((Kp.refl _ w4).drew)$ qO 8$ OP (i:=8) O O (zmu (k:=x.1) (K:=KI) z8U (Rj U3) O O O (Ext.map (Ext.Ob w4) nK)) ?_;rintro w7 ⟨fO,aD⟩;refine⟨(Kp.refl _ w4).drew.trans aD,?_⟩;have eJ:=(Kp.refl (λi=>i=m) w4).drew.trans aD;have rI:=hd.put mQ fO eJ (hd.ok.put ⟨iN.1,iN.2.1⟩ iN.2.2)
     have ef:Z8 (D.fallTo l tn mk i) x.1 x.2=D.fallTo l tn mk (i+1):=by
      rw[YE hx,if_neg B9,if_pos aV]
     simp only[ef] at rI;refine qE$ NS$ NS$ NW O$ P6 O O$ NT O$ NU ?_;exact(ih (i+1) w7 ⟨by omega,rI,qj.kpm nK eJ,eJ.NX gB (by omega),ct.trans eJ⟩ (by omega)).qb
    ·have ef:D.fallTo l tn mk i=D.fallTo l tn mk (i+1):=by
      rw[YE hx,if_neg B9,if_neg aV]
     rw[ef] at hd;refine An$ NS$ NS$ NW O$ P6 O O$ NT O$ NU ?_;exact(ih (i+1) w4 ⟨by omega,hd,qj,gB,ct⟩ (by omega)).qb
  ·have aV:i=D.cache.length:=by omega
   subst aV;have Ez:=hd.NX;refine O4 O$ qN O$ NT O$ OH O$ Og XM O$ Oe O (PV z7w O O O Ez (by simp)) ?_;rintro w5 ⟨aG,ak⟩;refine qM O$ NT O$ qV (Rt (cs:=[_,_,_,_]) z7m O zfz O O)$ OH O$ Og W1 O$ Oe O (P4 z7m O O O O aG (by simp)) ?_;rintro w6 ⟨aO,aP⟩;replace aO:O9 w6 p [I 0,.slice none 0 0,I 0,Rb 0,I (D.B:Int),I (D.N:Int),.map (some m),.slice none 0 0,.bool D.down,I D.calls,I D.reads] 135:=aO;refine NU$ NW O$ NT O$ OH O$ Og z2L O$ Oe O (PV Vg O O O aO (by simp)) ?_;rintro w7 ⟨bN,aD⟩;refine NU$ PE func227 O ?_;have yZ:=(ak.trans aP).trans aD;obtain⟨kv,nK,mQ⟩:=hd.map;refine⟨_,rfl,rfl,⟨bN,⟨kv,yZ.map nK λe=>hd.pm e.symm,mQ⟩,Sl.nil w7 _ _,Sl.nil w7 _ _,?_⟩,?_⟩
   ·exact⟨hd.ok.hB,hd.ok.hN,by simp[Dev.za5],hd.ok.sf,λx hx=>by simp[Dev.za5] at hx,by have:=aF;simp[Dev.za5];omega,hd.ok.reads⟩
   ·exact((Ext.kp ad).trans (sy.Of λ_ h=> .inr h)).trans (yZ.Of λ_ h=> .inl h)
def Dev.push (D:Dev)(n:Int)(s:NY):Dev:={D with cache:=D.cache++[(n,s)]}
theorem za0 {P:Program}{e:Env}{d:Option Nat}{ty t t':TypeId}{pos:String}{aft:Array Edge}{g:Option (Nat×Bool)}{x y:Operand}{w:World}{a b:Int}(hx:look e x=some (I a))(hy:look e y=some (I b)):Y P e ⟨d,.binOp .add t x y t',ty,pos,aft,g⟩ (I (IntKind.i64.wrap (a+b))) w w:=fun ρ hρ=>by simp[execOp,go_sem,hρ _ _ hx,hρ _ _ hy]
def Dev.zdx (D:Dev):Dev:=D.za5 D.RE D.zcm D.mask
def Dev.write (D:Dev)(n:Int)(s:NY):Dev×Int:=
 if D.down then(D,8)
 else if D.has n=false\/s.length≠512*D.N then(D,1)
 else if D.due=1 then(((D.push n s).count).zdx,8) else((D.push n s).count,0)
def Dev.read (D:Dev)(n:Int):Dev×NY×Int:=
 if D.down then(D,[],8) else if D.has n=false then(D,[],1) else({D with reads:=IntKind.i64.wrap (D.reads+1)},D.now n,0)
def z0c (w:World)(p m:Nat)(kp ca:Value)(D':Dev)(w':World):Prop:=∃kp' ca',Ra w' p m kp' ca' D'/\Upd (fpD p m kp ca) (fpD p m kp' ca') w w'
theorem z0c.same {w w':World}{p m:Nat}{kp ca:Value}{D:Dev}(h:Ra w' p m kp ca D)(k:Ext w w'):z0c w p m kp ca D w':=⟨kp,ca,h,k.Z8⟩
theorem zb7 {w w':World}{p m:Nat}{kp ca:Value}(k:Kp (λi=>i=p\/i=m) w w'):Upd (fpD p m kp ca) (fpD p m (.slice none 0 0) (.slice none 0 0)) w w':=
 ⟨k.Of λi hi=>hi.elim .inl λh=> .inr (.inl h),λi hi=>by
  rcases hi with h|h|h| h
  ·exact .inl (.inl h)
  ·exact .inl (.inr (.inl h))
  ·cases h
  ·cases h⟩
section
variable {w:World}{p m:Nat}{kp ca:Value}{D:Dev}
theorem zb5 (n:Int)(h:Ra w p m kp ca D)(hc:D.Bd):
  Oy prog 168 [ptr p 0,I n] w λv w'=>v= .tuple #[S (D.read n).2.1,I (D.read n).2.2]/\z0c w p m kp ca (D.read n).1 w':=by
 refine NP (e:=[(0,_),(1,_)]) func168 O ntmps168 O O$ qN O$ Oc O$ NZ O$ py$ qN O$ NT O$ Om zdP O (z1F h) ?_
 rintro _ w1 ⟨rfl,rfl⟩
 cases hd:D.down with
 | true =>
   refine Oc O$ qM O$ NT O$ Pz O O$ NU$ O8 O (λhz=>?_)$ λhz=>?_
   ·refine qN O$ NT O$ Oc O$ NZ O$ NV func168 O ?_;have e:D.read n=(D,[],8):=by simp[Dev.read,hd]
    rw[e];exact⟨_,rfl,rfl,z0c.same h (Ext.refl _)⟩
   ·exact absurd (by decide) hz
 | false =>
   refine Oc O$ qM O$ NT O$ Pz O O$ NU$ O8 O (λhz=>?_)$ λhz=>?_
   ·exact absurd hz (by decide)
   ·refine An$ py$ qN O$ Od O O$ Om zdo O (z6r n h) ?_;rintro _ w2 ⟨rfl,rfl⟩
    cases hh:D.has n with
    | false =>
      refine qV ((Rn O))$ NU$ Oa O$ qN O$ Oc O$ NZ O$ NV func168 O ?_;have e:D.read n=(D,[],1):=by simp[Dev.read,hd,hh]
      rw[e]
      exact⟨_,rfl,rfl,z0c.same h (Ext.refl _)⟩
    | true =>
      refine qV ((Rn O))$ NU$ It O ?_;have hM:=h.NX;refine An$ qN O$ NT O$ OH O$ Og z6A O$ qV (O6 U3 O O hM O)$ qV (za0 O O)$ OH O$ Og z6A O$ Oe O (PV Pb O O O hM (by simp)) ?_;rintro w3 ⟨EA,aw⟩;have h3:=h.turn (D':={D with reads:=IntKind.i64.wrap (D.reads+1)}) EA aw O O O O ⟨h.ok.hB,h.ok.hN,h.ok.due,h.ok.sf,h.ok.cache,h.ok.len,trivial⟩;refine qM O$ Od O O$ Om zfS O (zcp n h3 hc.2.1) ?_;rintro _ w4 ⟨rfl,az⟩;refine Oc O$ NZ O$ NV func168 O ?_;have e:D.read n=({D with reads:=IntKind.i64.wrap (D.reads+1)},D.now n,0):=by simp[Dev.read,hd,hh]
      rw[e];exact⟨_,rfl,rfl,kp,ca,h3.ext az,(aw.Of λ_ h=> .inl h).trans az.kp,λ_ h=> .inl h⟩
theorem z7U (n : Int)(s : NY)(h : Ra w p m kp ca D)(hc : D.Bd)(hk : D.RE.length <= 17592186044416) :
  Oy prog 204 [ptr p 0,I n,S s] w λv w'=>v=I (D.write n s).2/\z0c w p m kp ca (D.write n s).1 w':=by
 have dF:maxLen=9223372036854775807:=rfl
 obtain⟨du,er,pQ⟩:=hc
 have Lc:=h.ok.len
 refine NP (e:=[(0,_),(1,_),(2,_)]) func204 O ntmps204 O O$ qN O$ NZ O$ py$ qN O$ NT O$ Om zdP O (z1F h) ?_
 rintro _ w1 ⟨rfl,rfl⟩
 cases hd:D.down with
 | true =>
   refine Oc O$ qM O$ NT O$ Pz O O$ NU$ O8 O (λhz=>?_)$ λhz=>?_
   ·refine qN O$ NT O$ NZ O$ NV func204 O ?_;have e:D.write n s=(D,8):=by simp[Dev.write,hd]
    rw[e];exact⟨_,rfl,rfl,z0c.same h (Ext.refl _)⟩
   ·exact absurd (by decide) hz
 | false =>
   refine Oc O$ qM O$ NT O$ Pz O O$ NU$ O8 O (λhz=>?_)$ λhz=>?_
   ·exact absurd hz (by decide)
   ·refine An$ py$ qN O$ Od O O$ Om zdo O (z6r n h) ?_;rintro _ w2 ⟨rfl,rfl⟩
    cases hh:D.has n with
    | false =>
      refine qV ((Rn O))$ NT O$ qS$ qS$ qS$ qS$ qS$ PT O O$ NU$ Oa O$ qN O$ NZ O$ NV func204 O ?_;have e:D.write n s=(D,1):=by simp[Dev.write,hd,hh]
      rw[e]
      exact⟨_,rfl,rfl,z0c.same h (Ext.refl _)⟩
    | true =>
      have hn:0<=n/\n<(D.B:Int):=by simpa[Dev.has] using hh
      refine qV ((Rn O))$ Od O O$ qV (Sr U9 O)$ NT O$ Om zaW O (z0P h) ?_;rintro _ w3 ⟨rfl,rfl⟩;refine Pz O O$ OU O O$ NU$ O8 O (λcE=>?_)$ λcE=>?_
      ·refine qN O$ NZ O$ NV func204 O ?_
       have e:D.write n s=(D,1):=by
        have:s.length≠512*D.N:=by omega
        simp[Dev.write,hd,hh,this]
       rw[e];exact⟨_,rfl,rfl,z0c.same h (Ext.refl _)⟩
      ·have fL:s.length=512*D.N:=by omega
       obtain⟨a,cap,rfl,ha⟩:=h.cache.rd.shape;have hM:=h.NX;refine An$ qN O$ Od O O$ OH O$ Og XM O$ qV (O6 z0v O O hM O)$ Od O O$ qV (Rt (cs:=[_,_]) VA O zi1 O O)$ O5 O O (Vl (cs:=[_,_]) (zs:=[Value.int .i64 0,Value.string ⟨#[]⟩]) z0v VA O (by kernel_rfl) O O O (by decide)) ?_;rintro _ w4 ⟨b4,rfl,⟨fV,az,aI⟩,dl⟩;have nO:=h.cache.ext az;refine O5 O O (pap z0v VA O (by decide) O O nO dl.rd (by intro c hc;simp at hc;rcases hc with rfl|rfl<;>rfl) (by omega) (by omega)) ?_;rintro v' w5 ⟨dH,ak,rJ,-⟩;have E8:oneV v'=true:=by rcases dH.shape with⟨rfl,-⟩|⟨g,cap,rfl,-⟩<;>rfl
       have h4:=h.ext az
       have lz:∀g,(Value.slice a D.cache.length cap).ownBlock=some g->¬g=p:=λg hg qh=>by
        obtain⟨xs,fz',hx⟩:=Sw h4.cache hg;obtain⟨fz,hb,-⟩:=h4.NX;rw[qh,hb] at hx;cases hx
       have vH:=ak.NX h4.NX (λhg=>lz p hg O);refine OH O$ Og XM O$ Oe O (PV z7w O O E8 vH (by simp)) ?_;rintro w6 ⟨aO,aP⟩;have fD:=h.NX.lt
       have h6:Ra w6 p m kp v' (D.push n s):=by
        refine⟨aO,?_,?_,?_,?_⟩
        ·obtain⟨kv,nK,mQ⟩:=h4.map;exact⟨kv,aP.map (ak.map nK λhg=>(h4.ziL hg).2.1 O) λe=>h4.pm e.symm,mQ⟩
        ·have e:wrs (D.push n s).cache=wrs D.cache++[I n,S s]:=by simp[Dev.push,wrs,wr]
         have e2:(D.push n s).cache.length=D.cache.length+1:=by simp[Dev.push]
         rw[e,e2];refine dH.kp aP λg hg=>?_;rcases rJ g hg with h'|h'
         ·exact(h4.ziL h').1
         ·have:=az.size;omega
        ·refine(h4.RE.kp ak λg hg hc=>(h4.zgE hg).2.2 hc).kp aP λg hg=>(h4.zgE hg).1
        ·refine⟨h.ok.hB,h.ok.hN,h.ok.due,h.ok.sf,λx hx=>?_,h.ok.len,h.ok.reads⟩;simp only[Dev.push,List.mem_append,List.mem_singleton] at hx;rcases hx with hx|rfl
         ·exact h.ok.cache x hx
         ·exact⟨hn.1,hn.2,fL⟩
       refine NU$ OD.qb (e:=[(0,_),(6,_)]) ?_;refine py$ qN O$ NT O$ Om zhb O (z4w h6 du) ?_;rintro _ w7 ⟨rfl,h7,aD⟩
       have hu:Upd (fpD p m kp (.slice a D.cache.length cap)) (fpD p m kp v') w3 w7:=by
        refine⟨(az.kp.trans (ak.Of λi hi=> .inr (.inr (.inl hi)))).trans ((aP.Of λi hi=> .inl hi).trans (aD.Of λi hi=> .inl hi)),λi hi=>?_⟩;rcases hi with h'|h'|h'|h'
        ·exact .inl (.inl h')
        ·exact .inl (.inr (.inl h'))
        ·rcases rJ i h' with I5|I5
         ·exact .inl (.inr (.inr (.inl I5)))
         ·have:=az.size;exact .inr (by omega)
        ·exact .inl (.inr (.inr (.inr h')))
       refine NU$ O8 O (λqi=>?_)$ λqi=>?_
       ·have Ld:=h7.NX;refine qN O$ Od O O$ OH O$ Og W1 O$ Og zce O$ qV (OE zj8 O za4 O (O9.cells (n:=3) Ld (news:=[_,_,_]) O) O)$ Om zfR O (zaz h7 D.RE D.zcm D.mask hk (h7.RE.rd) (by show(D.cache++[(n,s)]).length<2000000000000;simp;omega)) ?_;rintro _ w8 ⟨rfl,h8,aS⟩;refine qM O$ NZ O$ NV func204 O ?_
        have e:D.write n s=(((D.push n s).count).zdx,8):=by
         have nP:D.due=1:=qi;simp[Dev.write,hd,hh,fL,nP]
        rw[e];exact⟨_,rfl,rfl,_,_,h8,hu.trans (zb7 aS)⟩
       ·refine An$ qN O$ NZ O$ NV func204 O ?_
        have e:D.write n s=((D.push n s).count,0):=by
         have nP:¬D.due=1:=qi;simp[Dev.write,hd,hh,fL,nP]
        rw[e];exact⟨_,rfl,rfl,_,_,h7,hu⟩
end
section
variable {w:World}{p m:Nat}{kp ca:Value}{D:Dev}
def Dev.z7l (D:Dev)(n:Nat):List NY:=(List.range n).map λj:Nat=>D.now (j:Int)
@[simp] theorem imageTo_length (D:Dev) (n:Nat):(D.z7l n).length=n:=by simp[Dev.z7l]
theorem z9F {w:World}{v:Value}{e size n:Nat}{cs:List Value}(h:Sl w v e size n cs):oneV v=true:=by
 rcases h.shape with⟨rfl,-⟩|⟨g,cap,rfl,-⟩<;>rfl
end
def YT (b n:Int):Prop:=16<=b/\b<=4096/\1<=n/\n<=8
instance (b n:Int):Decidable (YT b n):=by unfold YT;infer_instance
def Dev.fresh (B N:Nat):Dev:=⟨0,[],0,0,B,N,λ_=>none,[],false,0,0⟩
theorem z8X (b n:Int)(w:World):Oy prog 62 [.agg #[I b,I n]] w λv w'=>v=I (if YT b n then 0 else 1)/\Ext w w':=by
 refine NP (e:=[(0,_)]) func62 O ntmps62 O O$ qN O$ O5 O O (Qr O O) ?_
 rintro _ w1 ⟨b1,rfl,bK,ad,ai⟩
 by_cases hg:YT b n
 ·obtain⟨g1,g2,g3,g4⟩:=hg;refine NZ O$ py$ qN O$ Og YA O$ qV (O6 U3 O O ai O)$ Py O O$ OR$ NT O$ Og YA O$ qV (O6 U3 O O ai O)$ PD O O$ OR$ OU O O$ NT O ?_;refine Og YD O$ qV (O6 U3 O O ai O)$ Py O O$ OR$ OU O O$ NT O$ Og YD O$ qV (O6 U3 O O ai O)$ PD O O$ OR$ OU O O$ NU$ It O$ An ?_;refine qN O$ NZ O$ NV func62 O ?_;exact⟨_,rfl,by rw[if_pos ⟨g1,g2,g3,g4⟩];rfl,ad⟩
 ·refine NZ O$ py$ qN O$ Og YA O$ qV (O6 U3 O O ai O)$ Py O O$ Rv (λh1=>?_)$ λh1=>?_
  ·refine NT O$ qS$ qS$ qS$ PT O O$ NT O$ qS$ qS$ qS$ PT O O$ NT O$ qS$ qS$ qS ?_;refine PT O O$ NU$ Oa O$ qN O$ NZ O$ NV func62 O ?_;exact⟨_,rfl,by rw[if_neg hg];rfl,ad⟩
  ·refine NT O$ Og YA O$ qV (O6 U3 O O ai O)$ PD O O$ OU O O$ Rv (λh2=>?_)$ λh2=>?_
   ·refine NT O$ qS$ qS$ qS$ PT O O$ NT O$ qS$ qS$ qS$ PT O O$ NU$ Oa O$ qN O$ NZ O ?_;refine NV func62 O ?_;exact⟨_,rfl,by rw[if_neg hg];rfl,ad⟩
   ·refine NT O$ Og YD O$ qV (O6 U3 O O ai O)$ Py O O$ OU O O$ Rv (λh3=>?_)$ λh3=>?_
    ·refine NT O$ qS$ qS$ qS$ PT O O$ NU$ Oa O$ qN O$ NZ O$ NV func62 O ?_;exact⟨_,rfl,by rw[if_neg hg];rfl,ad⟩
    ·have:8<n:=by unfold YT at hg;omega
     refine NT O$ Og YD O$ qV (O6 U3 O O ai O)$ PD O O$ Qs$ OU O O$ NU$ Oa O$ qN O$ NZ O$ NV func62 O ?_;exact⟨_,rfl,by rw[if_neg hg];rfl,ad⟩
theorem zf1 (B N:Nat)(w:World)(hg:YT B N):Oy prog 32 [.agg #[I (B:Int),I (N:Int)]] w λv w'=>∃p m,v= .tuple #[ptr p 0,I 0]/\Ra w' p m (.slice none 0 0) (.slice none 0 0) (Dev.fresh B N)/\Ext w w'/\w.heap.size<=p/\w.heap.size<=m:=by
 obtain⟨g1,g2,g3,g4⟩:=hg
 refine NP (e:=[(0,_)]) func32 O ntmps32 O O$ qN O$ O5 O O (Qr O O) ?_
 rintro _ w1 ⟨b1,rfl,bK,ad,ai⟩
 refine Oc O$ NZ O$ py$ qN O$ qV (OE U86 O za2 O (O9.cells (n:=2) ai (news:=[_,_]) O) O)$ Om zk0 O (z8X B N _) ?_
 rintro _ w2 ⟨rfl,ae⟩
 rw[if_pos ⟨g1,g2,g3,g4⟩]
 replace ai:=ae.NX ai
 refine Oc O$ qM O$ NT O$ Pz O O$ NU$ O8 O (λhz=>?_)$ λhz=>?_
 ·exact absurd hz (by decide)
 ·refine An$ qN O$ qV (OE U86 O za2 O (O9.cells (n:=2) ai (news:=[_,_]) O) O)$ O5 O O (pmm) ?_;rintro _ w3 ⟨m,rfl,hm,ah,EA⟩;refine qV (Rt (cs:=[_,_,_,_,_,_,_,_,_,_,_]) zgJ O zfD O O)$ O5 O O (Qr O O) ?_;rintro _ w4 ⟨p,rfl,hp,az,aI⟩;refine Oc O$ NZ O$ NV func32 O ?_;have dm:=ad.size;have dc:=ae.size;have oK:=ah.size;have Le:Wn KI w4 m []:=⟨⟨#[],0,az.heap EA id,rfl⟩,by simp⟩;refine⟨_,rfl,p,m,rfl,⟨aI,⟨[],Le,λn=>rfl⟩,Sl.nil w4 _ _,Sl.nil w4 _ _,?_⟩,((ad.trans ae).trans ah).trans az,by omega,by omega⟩;exact⟨⟨by show 16<=B;omega,by show B<=4096;omega⟩,⟨by show 1<=N;omega,by show N<=8;omega⟩,(by simp[Dev.fresh]),(λn s h=>by cases h),(λx hx=>by cases hx),(by simp[Dev.fresh]),(by simp[Dev.fresh])⟩
def over (s:NY)(at':Nat)(d:NY):NY:=s.take at'++d++s.drop (at'+d.length)
def Dev.zeg (D:Dev)(n at':Int)(d:NY):Prop:=D.has n=true/\0<=at'/\at'+(d.length:Int)<=((512*D.N:Nat):Int)
instance (D:Dev) (n at':Int) (d:NY):Decidable (D.zeg n at' d):=by unfold Dev.zeg;infer_instance
def zj1 (n:Int)(a:Nat)(d:NY)(x:Int×NY):Int×NY:=if x.1=n then(x.1,over x.2 a d) else x
def zdB (n:Int)(a:Nat)(d:NY)(l:List (Int×NY))(i:Nat):List (Int×NY):=(l.take i).map (zj1 n a d)++l.drop i
@[simp] theorem corTo_length (n:Int) (a:Nat) (d:NY) (l:List (Int×NY)) (i:Nat):(zdB n a d l i).length=l.length:=by simp[zdB];omega
theorem z6e (l:List (Int×NY))(x:Int×NY)(n:Int):VF (l++[x]) n=if x.1=n then some x.2 else VF l n:=by
 unfold VF
 rw[List.reverse_append,List.reverse_singleton,List.singleton_append,List.find?_cons]
 by_cases h:x.1=n
 ·simp[h]
 ·have hb:(x.1==n)=false:=by simpa using h
  simp[hb,h]
/-! ### Bounds -/
def Dev.Small (D:Dev)(k:Nat):Prop:=D.calls<=k/\D.cache.length<=k/\True/\D.RE.length<=17592186044416
theorem Dev.Small.bd {D:Dev}{k:Nat}(h:D.Small k)(hk:k<1000000000000):D.Bd:=⟨by have:=h.1;omega,by have:=h.2.1;omega,trivial⟩
/-! ### By footprints -/
def z9e (w:World)(p:Nat)(F:Nat->Prop)(D':Dev)(w':World):Prop:=∃F',Vh w' p D' F'/\Upd F F' w w'
theorem z0c.toA {w w':World}{p m:Nat}{kp ca:Value}{D':Dev}{F:Nat->Prop}(hF:∀k,F k↔fpD p m kp ca k)(h:z0c w p m kp ca D' w'):z9e w p F D' w':=by
 have e:F=fpD p m kp ca:=funext λk=>propext (hF k)
 subst e
 obtain⟨kp',ca',h1,h2⟩:=h
 exact⟨_,⟨m,kp',ca',h1,λk=>Iff.rfl⟩,h2⟩
section
variable {w:World}{p:Nat}{D:Dev}{F:Nat->Prop}
theorem z8n (h:Vh w p D F):Oy prog 164 [ptr p 0] w λv w'=>v= .bool D.down/\w'=w:=by
 obtain⟨m,kp,ca,h1,hF⟩:=h;exact z9z h1
theorem z8b (h:Vh w p D F):Oy prog 100 [ptr p 0] w λv w'=>v=I ((512*D.N:Nat):Int)/\w'=w:=by
 obtain⟨m,kp,ca,h1,hF⟩:=h;exact z0P h1
theorem VG (h:Vh w p D F):Oy prog 144 [ptr p 0] w λv w'=>v=I (D.B:Int)/\w'=w:=by
 obtain⟨m,kp,ca,h1,hF⟩:=h;exact z66 h1
theorem z4S (n:Int)(s:NY)(h:Vh w p D F){k:Nat}(hs:D.Small k)(hk:k<1000000000000):
  Oy prog 204 [ptr p 0,I n,S s] w λv w'=>v=I (D.write n s).2/\z9e w p F (D.write n s).1 w':=by
 obtain⟨m,kp,ca,h1,hF⟩:=h
 exact(z7U n s h1 (hs.bd hk) hs.2.2.2).mono λv w' ⟨e,h2⟩=>⟨e,h2.toA hF⟩
theorem z7P (n:Int)(h:Vh w p D F){k:Nat}(hs:D.Small k)(hk:k<1000000000000):
  Oy prog 168 [ptr p 0,I n] w λv w'=>v= .tuple #[S (D.read n).2.1,I (D.read n).2.2]/\z9e w p F (D.read n).1 w':=by
 obtain⟨m,kp,ca,h1,hF⟩:=h
 exact(zb5 n h1 (hs.bd hk)).mono λv w' ⟨e,h2⟩=>⟨e,h2.toA hF⟩
theorem zcv (B N:Nat)(w:World)(hg:YT B N):Oy prog 32 [.agg #[I (B:Int),I (N:Int)]] w λv w'=>∃p F,v= .tuple #[ptr p 0,I 0]/\Vh w' p (Dev.fresh B N) F/\Ext w w'/\∀i,F i->w.heap.size<=i:=
 (zf1 B N w hg).mono λv w' ⟨p,m,e,h,hx,h1,h2⟩=>⟨p,_,e,⟨m,_,_,h,λk=>Iff.rfl⟩,hx,λi hi=>by
  rcases hi with h|h|h| h
  ·omega
  ·omega
  ·cases h
  ·cases h⟩
end
theorem z9e.kpF {w w':World}{p:Nat}{F:Nat->Prop}{D':Dev}(h:z9e w p F D' w'):Kp F w w':=by
 obtain⟨F',-,hu⟩:=h
 exact hu.1
def nrm (z b:Int):Int:=(z.tmod b+b).tmod b
theorem SI (z b:Int)(hb:0<b): -b<z.tmod b/\z.tmod b<b:=by
 have h2:=Int.tmod_lt_of_pos z hb
 refine⟨?_,h2⟩
 have h3:=Int.tmod_lt_of_pos (-z) hb
 rw[Int.neg_tmod] at h3
 omega
theorem Uh (z b:Int)(hb:0<b):0<=nrm z b/\nrm z b<b:=by
 obtain⟨h1,h2⟩:=SI z b hb
 unfold nrm
 exact⟨Int.tmod_nonneg _ (by omega),Int.tmod_lt_of_pos _ hb⟩
theorem z9B {D:Dev}{n:Int}{s:NY}(hd:D.down=false)(h0:D.due=0)(hn:0<=n/\n<(D.B:Int))(hs:s.length=512*D.N):D.write n s=((D.push n s).count,0):=by
 have hh:D.has n=true:=by simp[Dev.has];omega
 unfold Dev.write
 rw[if_neg (by simp[hd]),if_neg (by simp[hh,hs]),if_neg (by omega)]
def grow:Nat->NY->Nat->NY
 |0,s,_=>s
 |f+1,s,n=>if s.length<n then grow f (s++s) n else s
def fill (s:NY)(n:Nat):NY:=(grow (n+1) (if s=[] then [0] else s) n).take n
section
variable {κ:Type}[DecidableEq κ]{K:κ->Value}{P:Program}{e:Env}{d:Option Nat}{ty t kt el:TypeId}{pos:String}{aft:Array Edge}{g:Option (Nat×Bool)}{x y u:Operand}{w:World}{m:Nat}{z:Value}{size bytes:Nat}{k:κ}
theorem zj3 (ht:P.underlying t=some (.map kt el))(hK:Ky P kt K)(hz:TI P el z size bytes)(hx:look e x=some (.map none))(hy:look e y=some (K k)):
  Y P e ⟨d,.lookup t x y false,ty,pos,aft,g⟩ z w w:=fun ρ hρ=>by
 have AY:=hz.zero (w:=w)
 have se:=λb=>hK.same.choose_spec.2.2 w b 9999 k
 have hu:=hK.same.choose_spec.1
 simp[execOp,hρ _ _ hx,hρ _ _ hy,Instr.lookup,run_underlying ht,se,AY,Instr.findKey,run_underlying hu,Instr.findNow]
end
structure QM (w:World)(ks mp:Value)(l:List Int):Prop where
 sl:Sl w ks 3 1 l.length (l.map I)
 mp:(mp= .map none/\l=[])\/∃b,mp= .map (some b)/\RN KI w b (l.map λk=>(k,I 1))
 n:l.length<=8192
def Fq (ks mp:Value)(b:Nat):Prop:=ks.ownBlock=some b\/mp= .map (some b)
section
variable {w w':World}{ks mp:Value}{l:List Int}{S:Nat->Prop}{c o:Nat}{cs:List Value}{k:Int}
theorem QM.kp (h:QM w ks mp l)(hk:Kp S w w')(hn:∀b,Fq ks mp b->¬S b):QM w' ks mp l:=
 ⟨h.sl.kp hk λg e=>hn g (.inl e),by
  rcases h.mp with e|⟨b,e,hm⟩
  ·exact .inl e
  ·exact .inr ⟨b,e,hm.kp hk (hn b (.inr e))⟩,h.n⟩
theorem QM.lt (h:QM w ks mp l){b:Nat}(hb:Fq ks mp b):b<w.heap.size:=by
 rcases hb with e| e
 ·exact h.sl.lt e
 ·rcases h.mp with⟨e',-⟩|⟨b',e',hm⟩
  ·rw[e'] at e;cases e
  ·rw[e'] at e;cases e;exact hm.lt
theorem QM.ne (h:QM w ks mp l){b:Nat}(hb:ks.ownBlock=some b):mp≠ .map (some b):=λe=>by
 obtain⟨cur,h1⟩:=h.sl.typed hb
 rcases h.mp with⟨e',-⟩|⟨b',e',hm⟩
 ·rw[e'] at e;cases e
 ·rw[e'] at e;cases e;obtain⟨⟨es,cl,h2,-⟩,-⟩:=hm;rw[h1] at h2;cases h2
theorem QM.nd (h:QM w ks mp l):l.Nodup:=by
 rcases h.mp with⟨-,e⟩|⟨b',e',hm⟩
 ·rw[e];exact List.nodup_nil
 ·have:=hm.nd;rw[List.map_map] at this;have e:((λp:Int×Value=>p.1) ∘ λk:Int=>(k,I 1))=id:=rfl;rw[e,List.map_id] at this;exact this
theorem z3i (l:List Int)(k:Int):Ql (l.map λk=>(k,I 1)) k=if k∈l then some (I 1) else none:=by
 induction l with
 |nil=>rfl
 | cons a l ih =>
   show(if k=a then some (I 1) else Ql (l.map λk=>(k,I 1)) k)=_;rw[ih];by_cases h:k=a
   ·simp[h]
   ·simp[h]
theorem zbi (l:List Int)(k:Int):delL (l.map λk=>(k,I 1)) k=(l.erase k).map λk=>(k,I 1):=by
 induction l with
 |nil=>rfl
 | cons a l ih =>
   show(if k=a then l.map (λk=>(k,I 1)) else(a,I 1)::delL (l.map λk=>(k,I 1)) k)=_;rw[ih,List.erase_cons];by_cases h:k=a
   ·subst h;simp
   ·rw[if_neg h,if_neg (by simpa using λe=>h e.symm)];rfl
theorem yqk {P:Program}{e:Env}{d:Option Nat}{ty t kt el:TypeId}{pos:String}{aft:Array Edge}{g:Option (Nat×Bool)}{x y:Operand}{bytes:Nat}(ht:P.underlying t=some (.map kt el))(hK:P.underlying kt=some (.int .i64))(hz:TI P el (I 0) 1 bytes)(hx:look e x=some mp)(hy:look e y=some (I k))(hq:QM w ks mp l):
  Y P e ⟨d,.lookup t x y false,ty,pos,aft,g⟩ (I (if k∈l then 1 else 0)) w w:=by
 rcases hq.mp with⟨rfl,rfl⟩|⟨b,rfl,hm⟩
 ·rw[if_neg (by simp)];exact zj3 (k:=k) (K:=KI) ht (Rj hK) hz hx hy
 ·have h:=ylk (k:=k) (K:=KI) (d:=d) (ty:=ty) (pos:=pos) (aft:=aft) (g:=g) ht (Rj hK) hz hx hy hm.l;rw[z3i] at h;by_cases hk:k∈l
  ·rw[if_pos hk] at h⊢;exact h
  ·rw[if_neg hk] at h⊢;exact h
theorem za3 (hB:O9 w c cs 192)(h1:cs[o+1]? =some mp)(hq:QM w ks mp l):Oy prog 190 [ptr c o,I k] w λv w'=>v= .bool (decide (k∈l))/\w'=w:=by
 refine NP (e:=[(0,_),(1,_)]) func190 O ntmps190 O O$ qN O$ Oc O$ qM O$ NT O$ OH O$ Og XH O$ qV (O6 Wl O O hB h1)$ NT O$ qV (yqk (k:=k) Wl U3 Pb O O hq)$ PD O O$ NZ O$ NV func190 O (⟨_,rfl,?_,rfl⟩)
 by_cases hk:k∈l
 ·simp[hk,Pn]
 ·simp[hk,Pn]
theorem z5j {lv:Value}(x:Int)(hR:Rd w lv 1 l.length (l.map I))(hl:l.length<=4294967296):
  Oy prog 218 [lv,I x] w λv w'=>w'=w/\((x∉l/\v=I (-1))\/∃i:Nat,v=I (i:Int)/\l[i]? =some x/\x∉l.take i):=by
 obtain⟨a,cap,rfl,-⟩:=hR.shape
 refine NP (e:=[(0,_),(1,_)]) func218 O ntmps218 O O$ qN O$ NZ O$ py$ qN O$ NT O$ Qx Qt O$ NT O$ NU$ NQ$ Qm (α:=Nat) (0) (λi=>[(0,.slice a l.length cap),(1,I x),(7,I (l.length:Int)),(8,I (i:Int))]) (λi w'=>w'=w/\i<=l.length/\x∉l.take i) (λi=>l.length-i) ?hI ?hround
 case hI=>exact⟨rfl,Nat.zero_le _,by simp⟩
 case hround=>
  rintro i wi ⟨rfl,hi,fx⟩ ih
  try dsimp only
  refine qN O$ Py O O$ NU$ py$ O8 O (λaZ=>?_)$ λaZ=>?_
  ·have u9:i<l.length:=by omega
   obtain⟨s,nQ⟩:∃s,l[i]? =some s:=⟨_,List.getElem?_eq_getElem u9⟩
   obtain⟨lb,lo,lc,e5⟩:∃b o c',Value.slice a l.length cap= .slice (some ⟨b,o,none⟩) l.length c':=by
    rcases hR.2 with⟨c,hc,h0⟩|⟨b,off,c',hc,-⟩
    ·omega
    ·exact⟨b,off,c',hc⟩
   cases e5;refine An$ py$ NQ$ qN O$ NT O$ Oc O$ qM O$ Od O O$ NT O$ qV (P7 Qt Pb O O (by omega))$ qV (OC U3 O O (Ps hR (show(l.map I)[i]? =some (I s) by rw[List.getElem?_map,nQ];rfl))) ?_;refine Qe O O$ NU$ O8 O (λhe=>?_)$ λhe=>?_
   ·refine qN O$ NT O$ NZ O$ NV func218 O ?_;exact⟨_,rfl,rfl,.inr ⟨i,rfl,by rw[he];exact nQ,fx⟩⟩
   ·refine An$ NS$ NW O$ P6 O O$ NT O$ NU ((ih (i+1) _ ⟨rfl,u9,λhh=>?_⟩ (by omega)).qb);rw[OY nQ,List.mem_append,List.mem_singleton] at hh;rcases hh with h| h
    ·exact fx h
    ·exact he h
  ·have:i=l.length:=by omega
   subst this;rw[List.take_length] at fx;refine O4 O$ qN O$ NZ O$ NV func218 O ?_;exact⟨_,rfl,rfl,.inl ⟨fx,rfl⟩⟩
theorem zbe {i:Nat}{x:Int}(h:l[i]? =some x)(hn:x∉l.take i):l.take i++l.drop (i+1)=l.erase x:=by
 obtain⟨hi,e⟩:=List.getElem?_eq_some_iff.1 h
 conv=>rhs;rw[<-List.take_append_drop i l]
 rw[List.erase_append_right _ hn,List.drop_eq_getElem_cons hi,e,List.erase_cons_head]
theorem z4q {α:Type}{l:List α}{i:Nat}{a:α}(h:l[i]? =some a):l.set i a=l:=by
 obtain⟨hi,e⟩:=List.getElem?_eq_some_iff.1 h
 rw[<-e,List.set_getElem_self]
theorem z8q (hB:O9 w c cs 192)(h0:cs[o]? =some ks)(h1:cs[o+1]? =some mp)(hq:QM w ks mp l)(nc:¬Fq ks mp c):Oy prog 191 [ptr c o,I k] w λv w'=>∃ks',v= .tuple #[]/\O9 w' c (cs.set o ks') 192/\QM w' ks' mp (l.erase k)/\(∀b,Fq ks' mp b->Fq ks mp b)/\Kp (λb=>b=c\/Fq ks mp b) w w':=by
 have hn:=hq.n
 have fN:=hq.nd
 refine NP (e:=[(0,_),(1,_)]) func191 O ntmps191 O O$ qN O$ NT O$ OH O$ Og Pr O$ qV (O6 Qt O O hB h0)$ NT O$ Om zdw O (z5j k hq.sl.rd (by omega)) ?_
 rintro _ w ⟨rfl,hv⟩
 rcases hv with⟨hk,rfl⟩|⟨i,rfl,hi,vF⟩
 ·refine Oc O$ qM O$ NT O$ SB O O$ OR$ NU$ It O$ An$ PE func191 O (⟨_,rfl,ks,rfl,?_,?_,λb hb=>hb,Kp.refl _ _⟩)
  ·rw[z4q h0];exact hB
  ·rw[List.erase_of_not_mem hk];exact hq
 ·have Bb:k∈l:=List.mem_of_getElem? hi;have bX:=(List.getElem?_eq_some_iff.1 hi).1;refine Oc O$ qM O$ NT O$ SB O O$ Qs$ NU$ Oa O$ qN O$ Od O O$ OH O$ Og Pr O$ qV (O6 Qt O O hB h0)$ Od O O$ P6 O O ?_;refine Om zgw O (z9R hq.sl (λc hc=>by obtain⟨z,-,rfl⟩:=List.mem_map.1 hc;rfl) bX (by omega)) ?_;rintro ks2 w2 ⟨cA,aq,ql⟩
  have e2:(l.map I).take i++(l.map I).drop (i+1)=(l.erase k).map I:=by
   rw[<-List.map_take,<-List.map_drop,<-List.map_append,zbe hi vF]
  rw[e2] at cA;have iU:(l.erase k).length=l.length-1:=List.length_erase_of_mem Bb;rw[<-iU] at cA;have jz:¬ks.ownBlock=some c:=λe=>nc (.inl e);have am:=aq.NX hB jz;refine OH O$ Og Pr O$ Oe O (PV z5k O O (z9F cA) am (by have:=(List.getElem?_eq_some_iff.1 h0).1;omega)) ?_;rintro w3 ⟨au,aw⟩
  obtain⟨b,rfl,hm⟩:∃b,mp= .map (some b)/\RN KI w b (l.map λk=>(k,I 1)):=by
   rcases hq.mp with⟨-,e⟩| h
   ·rw[e] at Bb;cases Bb
   ·exact h
  have vI:c≠b:=λe=>nc (.inr (by rw[e]));have AO:ks.ownBlock≠some b:=λe=>hq.ne e O;have zf:o+1<cs.length:=(List.getElem?_eq_some_iff.1 h1).1;have kY:=(hm.kp aq AO).kp aw (λe=>vI e.symm);have tY:(cs.set (o+0) ks2)[o+1]? =some (Value.map (some b)):=by rw[List.getElem?_set_ne (by omega)];exact h1
  refine NU$ NW O$ NT O$ OH O$ Og XH O$ qV (O6 Wl O O au tY)$ NT O$ zan O (zeE (k:=k) (K:=KI) Wl (Rj U3) O O kY O) ?_;rintro _ w4 ⟨Bc,ao⟩;rw[zbi] at Bc;refine NU$ OD.qb (e:=[]) ?_;refine PE func191 O ?_;have fk:Kp (λj=>j=c\/Fq ks (.map (some b)) j) w w4:=((aq.Of λj e=> .inr (.inl e)).trans (aw.Of λj e=> .inl e)).trans (ao.Of λj e=> .inr (.inr (by rw[e])));exact⟨_,rfl,ks2,rfl,ao.NX au vI,⟨(cA.kp aw λg e e'=>nc (.inl (e'▸ql g e))).kp ao λg e e'=>AO (e'▸ql g e),.inr ⟨b,rfl,Bc⟩,by omega⟩,λj hj=>hj.imp (ql j) id,fk⟩
theorem z9M (hB:O9 w c cs 192)(h0:cs[o]? =some ks)(h1:cs[o+1]? =some mp)(hq:QM w ks mp l)(nc:¬Fq ks mp c)(hk:k∉l)(hl:l.length<=8191):Oy prog 199 [ptr c o,I k] w λv w'=>∃ks' mp',v= .tuple #[]/\O9 w' c ((cs.set (o+1) mp').set o ks') 192/\QM w' ks' mp' (l++[k])/\(∀b,Fq ks' mp' b->Fq ks mp b\/w.heap.size<=b)/\Kp (λb=>b=c\/Fq ks mp b) w w':=by
 have hn:=hq.n
 have fN:=hq.nd
 have lc:=hB.lt
 have zf:o+1<cs.length:=(List.getElem?_eq_some_iff.1 h1).1
 obtain⟨mo,rfl,Lf⟩:∃mo,mp= .map mo/\((mo=none/\l=[])\/∃b,mo=some b/\RN KI w b (l.map λk=>(k,I 1))):=by
  rcases hq.mp with⟨e,e2⟩|⟨b,e,e2⟩
  ·exact⟨_,e,.inl ⟨rfl,e2⟩⟩
  ·exact⟨_,e,.inr ⟨b,rfl,e2⟩⟩
 refine NP (e:=[(0,_),(1,_)]) func199 O ntmps199 O O$ py$ qN O$ NT O$ OH O$ Og XH O$ qV (O6 Wl O O hB h1)$ qV (zg0 Wl O O)$ NU$ OX (λe' w'=>∃b,e'=[(0,ptr c o),(1,I k)]/\O9 w' c (cs.set (o+1) (.map (some b))) 192/\RN KI w' b (l.map λk=>(k,I 1))/\Sl w' ks 3 1 l.length (l.map I)/\(mo=some b\/w.heap.size<=b)/\Kp (λj=>j=c) w w'/\b≠c/\ks.ownBlock≠some b) ?cF$ λcF=>?cR
 case cF=>
  rintro e' w1 ⟨b,rfl,ai,dG,j3,hb,aK,I6,gR⟩;have im:(cs.set (o+1) (Value.map (some b)))[o+1]? =some (.map (some b)):=List.getElem?_set_self zf;have eQ:(cs.set (o+1) (Value.map (some b)))[o]? =some ks:=by rw[List.getElem?_set_ne (by omega)];exact h0
  have z1:=aK.size;refine qN O$ NT O$ OH O$ Og XH O$ qV (O6 Wl O O ai im)$ NT O$ Oe O (zeX (k:=k) (K:=KI) Wl (Rj U3) O O O dG) ?_;rintro w2 ⟨my,aq⟩;rw[Tv _ _ _ (by rw[z3i,if_neg hk])] at my;have am:=aq.NX ai (λe=>I6 e.symm);have cA:=j3.kp aq (λg e e'=>gR (e'▸e));refine NU$ NW O$ Od O O$ OH O$ Og Pr O$ qV (O6 Qt O O am eQ)$ NT O$ O5 O O (Vl (cs:=[_]) (zs:=[Value.int .i64 0]) Qt Pb O (by kernel_rfl) O O O (by decide)) ?_;rintro _ w3 ⟨b24,rfl,⟨Lg,ah,ip⟩,EB⟩;have lb:=my.lt;have z2:=aq.size;refine O5 O O (pap Qt Pb O (by decide) O O (cA.ext ah) EB.rd (by intro c hc;simp at hc;subst hc;rfl) (by omega) (by simp only[maxLen];omega)) ?_;rintro ks4 w4 ⟨dl,ao,I7,-⟩;have z3:=ah.size;have z4:=ao.size;have jz:ks.ownBlock≠some c:=λe=>nc (.inl e);have aI:=ao.NX (ah.NX am) jz;have Bc:=(my.ext ah).kp ao gR;refine OH O$ Og Pr O$ Oe O (PV z5k O O (z9F dl) aI (by rw[List.length_set];omega)) ?_;rintro w5 ⟨aG,ak⟩;refine NU$ PE func199 O ?_
  have lk4:∀g,ks4.ownBlock=some g->g≠c:=λg e e'=>by
   rcases I7 g e with h| h
   ·exact jz (e'▸h)
   ·omega
  have aF:(l++[k]).length=l.length+1:=by simp
  refine⟨_,rfl,ks4,.map (some b),rfl,aG,⟨?_,.inr ⟨b,rfl,?_⟩,by omega⟩,λj hj=>?_,?_⟩
  ·rw[List.map_append,aF];exact dl.kp ak λg e e'=>lk4 g e e'
  ·rw[List.map_append];exact Bc.kp ak I6
  ·rcases hj with hj|hj
   ·rcases I7 j hj with h| h
    ·exact .inl (.inl h)
    ·exact .inr (by omega)
   ·cases hj;rcases hb with h| h
    ·exact .inl (.inr (by rw[h]))
    ·exact .inr h
  ·have EC:Kp (λj=>j=c\/Fq ks (.map mo) j) w w2:=by
    rcases hb with h| h
    ·exact(aK.Of λj e=> .inl e).trans (aq.Of λj e=> .inr (.inr (by rw[h,e])))
    ·exact(aK.Of λj e=> .inl e).NR aq (λj e=>by omega)
   exact((EC.trans ah.kp).trans (ao.Of λj e=> .inr (.inl e))).trans (ak.Of λj e=> .inl e)
 case cR=>
  rcases Lf with⟨rfl,rfl⟩|⟨b,rfl,hm⟩
  ·refine Oa O$ NW O$ NT O$ O5 O O (pmm) ?_;rintro _ w1 ⟨b,rfl,hb,ad,cx⟩;have dG:RN KI w1 b []:=RN.new cx;have ai:=ad.NX hB;refine OH O$ Og XH O$ Oe O (PV z6U O O O ai zf) ?_;rintro w2 ⟨am,aq⟩;refine NU ?_;have lb:=dG.lt;exact(cF _ _ ⟨b,rfl,am,dG.kp aq (by omega),(hq.sl.ext ad).kp aq (λg e e'=>nc (.inl (e'▸e))),.inr (by omega),ad.kp.trans aq,by omega,λe=>by have:=hq.sl.lt e;omega⟩).qb
  ·refine It O$ An ?_;exact(cF _ _ ⟨b,rfl,by rw[z4q h1];exact hB,hm,hq.sl,.inl O,Kp.refl _ _,λe=>nc (.inr (by rw[e])),λe=>hq.ne e O⟩).qb
end
def Arc.li (A:Arc):Nat->List Int
 |0=>A.once
 |1=>A.often
 |2=>A.Ol
 |_=>A.Oi
def Arc.Pw (A:Arc):Nat->List Int->Arc
 |0,l=>{A with once:=l}
 |1,l=>{A with often:=l}
 |2,l=>{A with Ol:=l}
 |_,l=>{A with Oi:=l}
theorem Arc.zfg (A:Arc){j:Nat}(hj:j<4)(l:List Int)(i:Nat)(hi:i<4):(A.Pw j l).li i=if i=j then l else A.li i:=by
 match j,hj,i,hi with
 |0,_,0,_|0,_,1,_|0,_,2,_|0,_,3,_|1,_,0,_|1,_,1,_|1,_,2,_|1,_,3,_|2,_,0,_|2,_,1,_|2,_,2,_|2,_,3,_|3,_,0,_|3,_,1,_|3,_,2,_|3,_,3,_=>rfl
def z9o (V:Nat->Value×Value)(j:Nat)(q:Value×Value)(i:Nat):Value×Value:=if i=j then q else V i
def acC (S:Nat)(T:Int)(V:Nat->Value×Value)(p:Nat):List Value:=[I (S:Int),(V 0).1,(V 0).2,(V 1).1,(V 1).2,(V 2).1,(V 2).2,(V 3).1,(V 3).2,I T,.map (some p)]
abbrev FV (V:Nat->Value×Value)(j b:Nat):Prop:=Fq (V j).1 (V j).2 b
structure RT (w:World)(c:Nat)(A:Arc)(V:Nat->Value×Value)(p:Nat):Prop where
 NX:O9 w c (acC A.size A.target V p) 192
 q:∀j,j<4->QM w (V j).1 (V j).2 (A.li j)
 pins:Wn KI w p []
 Vo:∀i j,i<4->j<4->i≠j->∀b,FV V i b->¬FV V j b
 nc:∀j,j<4->¬FV V j c
 np:∀j,j<4->¬FV V j p
 cp:c≠p
def RP (c:Nat)(V:Nat->Value×Value)(p b:Nat):Prop:=b=c\/b=p\/∃j,j<4/\FV V j b
section
variable {w w' w2:World}{c p:Nat}{A A' A2:Arc}{V V' V2:Nat->Value×Value}{S:Nat->Prop}{k:Int}
theorem RT.kp (h:RT w c A V p)(hk:Kp S w w')(hn:∀b,RP c V p b->¬S b):RT w' c A V p:=
 ⟨hk.NX h.NX (hn _ (.inl O)),λj hj=>(h.q j hj).kp hk λb hb=>hn b (.inr (.inr ⟨j,hj,hb⟩)),hk.map h.pins (hn _ (.inr (.inl O))),h.Vo,h.nc,h.np,h.cp⟩
theorem RT.ext (h:RT w c A V p)(hx:Ext w w'):RT w' c A V p:=h.kp (S:=λ_=>False) hx λ_ _=>id
theorem RT.lt (h:RT w c A V p){b:Nat}(hb:RP c V p b):b<w.heap.size:=by
 rcases hb with e|e|⟨j,hj,hb⟩
 ·rw[e];exact h.NX.lt
 ·rw[e];exact h.pins.lt
 ·exact(h.q j hj).lt hb
structure Vm (w:World)(c:Nat)(V:Nat->Value×Value)(p:Nat)(w':World)(A':Arc)(V':Nat->Value×Value):Prop where
 m:RT w' c A' V' p
 fp:∀b,RP c V' p b->RP c V p b\/w.heap.size<=b
 k:Kp (RP c V p) w w'
theorem Vm.trans (h:Vm w c V p w' A' V')(h2:Vm w' c V' p w2 A2 V2):Vm w c V p w2 A2 V2:=
 ⟨h2.m,λb hb=>by
  rcases h2.fp b hb with e| e
  ·exact h.fp b e
  ·exact .inr (by have:=h.k.size;omega),h.k.NR h2.k λb hb=>(h.fp b hb).symm⟩
theorem RT.r (h:RT w c A V p)(hx:Ext w w'):Vm w c V p w' A V:=⟨h.ext hx,λb hb=> .inl hb,hx.kp⟩
theorem RT.Z8 {j:Nat}(hj:j<4)(h:RT w c A V p){ks mp:Value}{l:List Int}(hB:O9 w' c (acC A.size A.target (z9o V j (ks,mp)) p) 192)(hs:(A.Pw j l).size=A.size/\(A.Pw j l).target=A.target)(hq:QM w' ks mp l)(hf:∀b,Fq ks mp b->FV V j b\/w.heap.size<=b)(hk:Kp (λb=>b=c\/FV V j b) w w'):Vm w c V p w' (A.Pw j l) (z9o V j (ks,mp)):=by
 have aZ:∀{b:Nat},RP c V p b->b<w.heap.size:=h.lt
 have aV:∀i,i<4->i≠j->∀b,FV V i b->¬(b=c\/FV V j b):=λi hi gP b hb e=>by
  rcases e with e| e
  ·exact h.nc i hi (e▸hb)
  ·exact h.Vo i j hi hj gP b hb e
 have dm:∀i,i≠j->z9o V j (ks,mp) i=V i:=λi e=>if_neg e
 have dc:z9o V j (ks,mp) j=(ks,mp):=if_pos O
 refine⟨⟨by rw[hs.1,hs.2];exact hB,λi hi=>?_,hk.map h.pins (λe=>?_),λi i2 hi dt bP b hb bU=>?_,λi hi hb=>?_,λi hi hb=>?_,h.cp⟩,λb hb=>?_,hk.Of λb hb=>?_⟩
 ·rw[Arc.zfg A hj l i hi];by_cases e:i=j
  ·rw[if_pos e,e,dc];exact hq
  ·rw[if_neg e,dm i e];exact(h.q i hi).kp hk λb hb=>aV i hi e b hb
 ·rcases e with e| e
  ·exact h.cp e.symm
  ·exact h.np j hj e
 ·by_cases e:i=j
  ·have e2:i2≠j:=λe2=>bP (e.trans e2.symm);unfold FV at hb bU;rw[e,dc] at hb;rw[dm i2 e2] at bU;rcases hf b hb with h1|h1
   ·exact h.Vo j i2 hj dt (λe3=>e2 e3.symm) b h1 bU
   ·have:=aZ (.inr (.inr ⟨i2,dt,bU⟩));omega
  ·unfold FV at hb bU;rw[dm i e] at hb;by_cases e2:i2=j
   ·rw[e2,dc] at bU;rcases hf b bU with h1|h1
    ·exact h.Vo i j hi hj e b hb h1
    ·have:=aZ (.inr (.inr ⟨i,hi,hb⟩));omega
   ·rw[dm i2 e2] at bU;exact h.Vo i i2 hi dt bP b hb bU
 ·by_cases e:i=j
  ·unfold FV at hb;rw[e,dc] at hb;rcases hf c hb with h1|h1
   ·exact h.nc j hj h1
   ·have:=h.NX.lt;omega
  ·unfold FV at hb;rw[dm i e] at hb;exact h.nc i hi hb
 ·by_cases e:i=j
  ·unfold FV at hb;rw[e,dc] at hb;rcases hf p hb with h1|h1
   ·exact h.np j hj h1
   ·have:=h.pins.lt;omega
  ·unfold FV at hb;rw[dm i e] at hb;exact h.np i hi hb
 ·rcases hb with e|e|⟨i,hi,hb⟩
  ·exact .inl (.inl e)
  ·exact .inl (.inr (.inl e))
  ·by_cases e:i=j
   ·unfold FV at hb;rw[e,dc] at hb;rcases hf b hb with h1|h1
    ·exact .inl (.inr (.inr ⟨j,hj,h1⟩))
    ·exact .inr h1
   ·unfold FV at hb;rw[dm i e] at hb;exact .inl (.inr (.inr ⟨i,hi,hb⟩))
 ·rcases hb with e| e
  ·exact .inl e
  ·exact .inr (.inr ⟨j,hj,e⟩)
theorem Wb (S:Nat)(T:Int)(V:Nat->Value×Value)(p:Nat){j:Nat}(hj:j<4):(acC S T V p)[1+2*j]? =some (V j).1/\(acC S T V p)[1+2*j+1]? =some (V j).2:=by
 match j,hj with
 |0,_|1,_|2,_|3,_=>exact⟨rfl,rfl⟩
theorem zcg (S:Nat)(T:Int)(V:Nat->Value×Value)(p:Nat){j:Nat}(hj:j<4)(ks mp:Value):((acC S T V p).set (1+2*j+1) mp).set (1+2*j) ks=acC S T (z9o V j (ks,mp)) p:=by
 match j,hj with
 |0,_|1,_|2,_|3,_=>rfl
theorem zar (S:Nat)(T:Int)(V:Nat->Value×Value)(p:Nat){j:Nat}(hj:j<4)(ks:Value):(acC S T V p).set (1+2*j) ks=acC S T (z9o V j (ks,(V j).2)) p:=by
 match j,hj with
 |0,_|1,_|2,_|3,_=>rfl
theorem ZD (A:Arc){j:Nat}(hj:j<4)(l:List Int):(A.Pw j l).size=A.size/\(A.Pw j l).target=A.target:=by
 match j,hj with
 |0,_|1,_|2,_|3,_=>exact⟨rfl,rfl⟩
theorem Uk (h:RT w c A V p){j:Nat}(hj:j<4):Oy prog 190 [ptr c (1+2*j),I k] w λv w'=>v= .bool (decide (k∈A.li j))/\w'=w:=
 za3 h.NX (Wb _ _ _ _ hj).2 (h.q j hj)
theorem Pu (h:RT w c A V p){j:Nat}(hj:j<4):Oy prog 191 [ptr c (1+2*j),I k] w λv w'=>v= .tuple #[]/\∃V',Vm w c V p w' (A.Pw j ((A.li j).erase k)) V':=by
 refine(z8q h.NX (Wb _ _ _ _ hj).1 (Wb _ _ _ _ hj).2 (h.q j hj) (h.nc j hj) (k:=k)).mono λv w' hv=>?_
 obtain⟨ks',rfl,hB,hq,hf,hk⟩:=hv
 rw[zar _ _ _ _ hj] at hB
 exact⟨rfl,_,h.Z8 hj hB (ZD A hj _) hq (λb hb=> .inl (hf b hb)) hk⟩
theorem Q4 (h:RT w c A V p){j:Nat}(hj:j<4)(hk:k∉A.li j)(hl:(A.li j).length<=8191):Oy prog 199 [ptr c (1+2*j),I k] w λv w'=>v= .tuple #[]/\∃V',Vm w c V p w' (A.Pw j (A.li j++[k])) V':=by
 refine(z9M h.NX (Wb _ _ _ _ hj).1 (Wb _ _ _ _ hj).2 (h.q j hj) (h.nc j hj) hk hl).mono λv w' hv=>?_
 obtain⟨ks',mp',rfl,hB,hq,hf,hk⟩:=hv
 rw[zcg _ _ _ _ hj] at hB
 exact⟨rfl,_,h.Z8 hj hB (ZD A hj _) hq hf hk⟩
def z4Q (n:Nat):Arc:=⟨n,[],[],[],[],0⟩
theorem zcB {n:Nat}(h:1<=n):(z4Q n).Ok:=⟨h,List.nodup_nil,Nat.zero_le _,Nat.zero_le _,Nat.zero_le _,⟨Int.le_refl _,by show(0:Int)<=(n:Int);omega⟩⟩
theorem zbb (n:Nat)(h1:1<=n)(h2:n<=4096)(w:World):Oy prog 63 [I (n:Int)] w λv w'=>∃c V p,v= .tuple #[ptr c 0,I 0]/\RT w' c (z4Q n) V p/\(∀b,RP c V p b->w.heap.size<=b)/\Ext w w':=by
 refine NP (e:=[(0,_)]) func63 O ntmps63 O O$ qN O$ Oc O$ NZ O$ py$ qN O$ NT O$ Py O O$ OR$ Od O O$ PD O O$ OR$ OU O O$ NU ?_
 refine It O$ An$ qN O$ NT O$ O5 O O (pmm) ?_
 rintro _ w1 ⟨p,rfl,hp,ad,cx⟩
 refine qV (Rt (cs:=[_,_,_,_,_,_,_,_,_,_,_]) zh4 O zhn O O)$ O5 O O (Qr O (cs:=acC n 0 (λ_=>(.slice none 0 0,.map none)) p) O) ?_
 rintro _ w2 ⟨c,rfl,hc,ae,am⟩
 refine Oc O$ NZ O$ NV func63 O ?_
 have dG:RN KI w1 p []:=RN.new cx
 have lp:=dG.lt
 have fx:∀b,¬Fq (.slice none 0 0) (.map none) b:=λb e=>by rcases e with e|e<;>cases e
 refine⟨_,rfl,c,_,p,rfl,⟨am,λj hj=>⟨?_,?_,?_⟩,ae.map dG.l,λi j hi hj bP b hb=>absurd hb (fx b),λj hj=>fx c,λj hj=>fx p,by omega⟩,λb hb=>?_,ad.trans ae⟩
 ·have e:(z4Q n).li j=[]:=by match j,hj with|0,_|1,_|2,_|3,_=>rfl
  rw[e];exact Sl.nil _ _ _
 ·left
  refine⟨rfl,?_⟩
  match j,hj with|0,_|1,_|2,_|3,_=>rfl
 ·have e:(z4Q n).li j=[]:=by match j,hj with|0,_|1,_|2,_|3,_=>rfl
  rw[e];exact Nat.zero_le _
 ·rcases hb with e|e|⟨j,hj,hb⟩
  ·have:=ad.size;omega
  ·omega
  ·exact absurd hb (fx b)
end
section
variable {w w' w2:World}{c p:Nat}{A A' A2:Arc}{V V' V2:Nat->Value×Value}{S:Nat->Prop}{k:Int}
theorem RT.cells (h:RT w c A V p):O9 w c [I (A.size:Int),(V 0).1,(V 0).2,(V 1).1,(V 1).2,(V 2).1,(V 2).2,(V 3).1,(V 3).2,I A.target,.map (some p)] 192:=h.NX
theorem z1m (h:RT w c A V p):Oy prog 189 [ptr c 0,I k] w λv w'=>v= .bool (decide (k∈A.once\/k∈A.often))/\w'=w:=by
 have h0:=Uk h (j:=0) (k:=k) (by decide)
 have h1:=Uk h (j:=1) (k:=k) (by decide)
 rw[show A.li 0=A.once from rfl] at h0
 rw[show A.li 1=A.often from rfl] at h1
 refine NP (e:=[(0,_),(1,_)]) func189 O ntmps189 O O$ qN O$ Oc O$ qM O$ NT O$ qV (z2V zb8 O O)$ Od O O$ OH O$ Og PM O$ NT O$ Om Wu O (h0) ?_
 rintro _ w ⟨rfl,rfl⟩
 by_cases i9:k∈A.once
 ·rw[decide_eq_true i9];refine NT O$ qS$ qS$ qS$ qS$ qS$ PT O O$ PT O O$ NZ O$ NV func189 O ?_;exact⟨_,rfl,by rw[decide_eq_true (Or.inl i9)];rfl,rfl⟩
 ·rw[decide_eq_false i9];refine Od O O$ OH O$ Og Qu O$ NT O$ Om Wu O (h1) ?_;rintro _ w ⟨rfl,rfl⟩;refine OU O O$ PT O O$ NZ O$ NV func189 O (⟨_,rfl,?_,rfl⟩);by_cases aK:k∈A.often
  ·simp[i9,aK,Pn]
  ·simp[i9,aK,Pn]
def Wr:List Int->Value
 |[]=> .tuple #[I 0,.bool false]
 |a::_=> .tuple #[I a,.bool true]
theorem Ul (h:RT w c A V p){j:Nat}(hj:j<4):Oy prog 200 [ptr c 0,ptr c (1+2*j)] w λv w'=>v=Wr (A.li j)/\w'=w:=by
 have hB:=h.cells
 have hg:=(Wb A.size A.target V p hj).1
 have hq:=h.q j hj
 obtain⟨ka,kc,fK,oT⟩:∃a c,(V j).1= .slice a (A.li j).length c/\(a=none->(A.li j).length=0):=hq.sl.rd.shape
 rw[fK] at hg
 have hR:=hq.sl.rd
 have hn:=hq.n
 rw[fK] at hR
 refine NP (e:=[(0,_),(1,_)]) func200 O ntmps200 O O$ qN O$ Oc O$ NZ O$ py$ qN O$ NT O$ OH O$ Og Pr O$ qV (O6 Qt O O h.NX hg)$ Qx Qt O$ NT O$ NU$ NQ ?_
 cases hl:A.li j with
 | nil =>
   rw[hl] at hR;refine Qm (α:=Unit) (()) (λ_=>[(0,ptr c 0),(12,.slice ka 0 kc),(13,I 0),(14,I 0)]) (λ_ w'=>w'=w) (λ_=>0) ?hI ?hround
   case hI=>rfl
   case hround=>
    rintro i w2 rfl ih
    try dsimp only
    refine qN O$ Py O O$ OR$ NU$ py$ It O$ O4 O$ qN O$ Oc O$ qM O$ NT O$ Oc O$ NZ O$ NV func200 O ?_
    exact⟨_,rfl,rfl,rfl⟩
 | cons x r =>
   rw[hl] at hR oT hn
   obtain⟨kb,rfl⟩:∃b,ka=some b:=by
    cases ka with
    |none=>have:=oT O;simp at this
    |some b=>exact⟨b,rfl⟩
   obtain⟨lb,lo,lc,e5⟩:∃b o c',Value.slice (some kb) (x::r).length kc= .slice (some ⟨b,o,none⟩) (x::r).length c':=by
    rcases hR.2 with⟨c,hc,h0⟩|⟨b,off,c',hc,-⟩
    ·simp at h0
    ·exact⟨b,off,c',hc⟩
   cases e5;have ir:0<(x::r).length:=by simp
   refine Qm (α:=Unit) (()) (λ_=>[(0,ptr c 0),(12,.slice (some ⟨lb,lo,none⟩) (x::r).length kc),(13,I ((x::r).length:Int)),(14,I ((0:Nat):Int))]) (λ_ w'=>w'=w) (λ_=>0) ?hI ?hround
   case hI=>rfl
   case hround=>
    rintro i w2 rfl ih
    try dsimp only
    refine qN O$ Py O O$ Qs$ NU$ py$ Oa O$ An$ py$ NQ$ qN O$ qV (P7 Qt Pb O O (by omega))$ qV (OC U3 O O (Ps hR (i:=0) (show((x::r).map I)[0]? =some (I x) from rfl)))$ Oc O$ qM O ?_;refine NT O$ OH O$ Og Zu O$ qV (O6 Wl O O hB O)$ NT O$ qV (ylk (k:=x) (K:=KI) Wl (Rj U3) Pb O O h.pins)$ Qe O O$ Qs$ NU$ Oa O$ qN O$ NT O$ Oc O$ NZ O ?_;refine NV func200 O ?_;exact⟨_,rfl,rfl,rfl⟩
theorem z1E (h:RT w c A V p)(hA:A.Ok)(cE:A.size<=1000):Oy prog 201 [ptr c 0] w λv w'=>v= .bool (decide (A.once.length+A.often.length=A.size))/\Ext w w':=by
 have hB:=h.cells
 have hh:=hA.held
 obtain⟨a0,c0,e0,-⟩:∃a c,(V 0).1= .slice a A.once.length c/\_:=(h.q 0 (by decide)).sl.rd.shape
 obtain⟨a1,c1,e1,-⟩:∃a c,(V 1).1= .slice a A.often.length c/\_:=(h.q 1 (by decide)).sl.rd.shape
 rw[e0,e1] at hB
 have hg:=Ext.Ob w
 refine NP (e:=[(0,_)]) func201 O ntmps201 O O$ qN O$ NZ O$ py$ Qj (λw'=>Ext w w') O$ Oj 0 O O (hg)$ O0 1 O (Pq O) hg$ O0 2 O (OG PM O) hg$ O0 3 O (OG Pr O) hg$ qT 4 O (λ_ h=>O6 Qt O O (h.NX hB) O) hg$ O0 5 O (RJ Qt O) hg$ Oj 6 O O (hg)$ O0 7 O (Pq O) hg$ O0 8 O (OG Qu O) hg ?_
 refine O0 9 O (OG Pr O) hg$ qT 10 O (λ_ h=>O6 Qt O O (h.NX hB) O) hg$ O0 11 O (RJ Qt O) hg$ O0 12 O (TK O O (by omega)) hg$ Oj 13 O O (hg)$ O0 14 O (Pq O) hg$ O0 15 O (OG Rz O) hg$ qT 16 O (λ_ h=>O6 U3 O O (h.NX hB) O) hg$ O0 17 O (yeq O O) hg$ O0 18 O (Qq O) hg$ qE$ NV func201 O (⟨_,rfl,?_,hg⟩)
 show Value.bool _=Value.bool _
 congr 1
 exact decide_eq_decide.2 (by omega)
end
def QI (WV:Bool)(g:Option Int):List Value:=[.bool WV,.bool g.isSome,I (g.getD 0)]
abbrev zc0 (WV:Bool)(g:Option Int):Value:= .agg (QI WV g).toArray
section
variable {w w' w2:World}{c p:Nat}{A A' A2:Arc}{V V' V2:Nat->Value×Value}{S:Nat->Prop}{k:Int}
theorem Arc.Ok.lens (h:A.Ok)(cE:A.size<=1000)(j:Nat):(A.li j).length<=2000:=by
 have h1:=h.held
 have h2:=h.first
 have h3:=h.total
 have h4:=A.Q5
 unfold Arc.li
 split<;>omega
theorem SJ (h : RT w c A V p)(hA : A.Ok)(cE : A.size <= 1000)(bo : Bool) : Oy prog 202 [ptr c 0, .bool bo] w λv w' => v = zc0 false (A.room bo).2 /\ ∃ V', Vm w c V p w' (A.room bo).1 V' := by
 have gK:=hA.lens cE 2
 have j4:=hA.lens cE 3
 have Lh:=hA.tg
 have ir:=hA.pos
 have fN:=hA.nd
 unfold Arc.all at fN
 rw[List.nodup_append] at fN
 obtain⟨nd1,nd2,nd3⟩:=fN
 rw[List.nodup_append] at nd2
 obtain⟨nd4,nd5,nd6⟩:=nd2
 rw[List.nodup_append] at nd5
 obtain⟨nd7,nd8,nd9⟩:=nd5
 have aZ:∀{b:Nat},RP c V p b->b<w.heap.size:=h.lt
 refine NP (e:=[(0,_),(1,_)]) func202 O ntmps202 O O$ qN O$ O5 O O (QU (cs:=[_,_,_]) OL O) ?_
 rintro _ w1 ⟨b4,rfl,fV,ad,aI⟩
 have jI:=h.ext ad
 have n4:∀b,RP c V p b->b≠b4:=λb hb e=>by have:=aZ hb;omega
 refine NU$ py$ qN O$ NT O$ Om zeb O (z1E jI hA cE) ?_
 rintro _ w2 ⟨rfl,ae⟩
 have bE:=ae.NX aI
 have aJ:=ad.trans ae
 have eg:=h.ext aJ
 by_cases cg:¬A.once.length+A.often.length=A.size
 ·rw[decide_eq_false cg];have jn:A.room bo=(A,none):=by unfold Arc.room;rw[if_neg cg]
  refine qV ((Rn O))$ NU$ Oa O$ qN O$ qV (OE (news:=QI false none) RO O OL O (O9.cells (n:=3) bE O) O)$ Oe O (P4 (news:=QI false none) OL O O O O bE (by simp)) ?_;rintro w3 ⟨dN,aw⟩;replace dN:O9 w3 b4 [.bool false,.bool false,I 0] 264:=dN;refine NU$ Oz func202 (.cell RO O OL O (O9.cells (n:=3) dN (news:=[_,_,_]) O) O .nil) ?_;rw[jn];exact⟨_,rfl,rfl,V,eg.kp aw (λb hb=>n4 b hb),λb hb=> .inl hb,(aJ.NR aw (λj e=>by omega)).kp⟩
 ·have cg := Classical.not_not.1 cg; rw [decide_eq_true cg]; refine qV ((Rn O)) (NU (It O ?_)); have am := eg.cells; obtain ⟨a0, c0, e0, -⟩ : ∃ a c, (V 0).1 = .slice a A.once.length c /\ _ := (h.q 0 (by decide)).sl.rd.shape; rw [e0] at am; have f0 := Ul eg (j := 0) (by decide); have f1 := Ul eg (j := 1) (by decide); rw [show A.li 0 = A.once from rfl] at f0; rw [show A.li 1 = A.often from rfl] at f1
  cases ho:A.once with
  | nil =>
    cases hf:A.often with
    | nil =>
      exfalso;rw[ho,hf] at cg;simp at cg
      omega
    | cons x1 r1 =>
      have jn:A.room bo=({A with often:=r1,Oi:=A.Oi++[x1]},some x1):=by unfold Arc.room;rw[if_pos cg,ho,hf]
      have Li:A.once.length=0:=by rw[ho];rfl
      have g0:Wr A.once= .tuple #[I 0,.bool false]:=by rw[ho];rfl
      have g1:Wr A.often= .tuple #[I x1,.bool true]:=by rw[hf];rfl
      rw[g0] at f0;rw[g1] at f1;refine An$ qN O$ Od O O$ OH O$ Og PM O$ Om XP O (f0) ?_;rintro _ w2 ⟨rfl,rfl⟩;refine NT O$ qV (QL (v:=I 0) O O)$ qV (QL (v:= .bool false) O O)$ Oc O$ Oc O$ qM O$ Od O O$ OH O$ Og Qu O$ Om XP O (f1) ?_;rintro _ w2 ⟨rfl,rfl⟩;refine NT O$ qV (QL (v:=I x1) O O)$ qV (QL (v:= .bool true) O O)$ Oc O$ NZ O$ OD.qb (e:=[(0,_),(1,_),(4,_),(5,_),(6,_),(7,_),(8,_)]) ?_;refine qN O$ NT O$ OH O$ Og PM O$ Og Pr O$ qV (O6 Qt O O am O)$ Qx Qt O$ Oc O$ qM O$ NT O$ SB O O$ OR$ NT O$ qS ?_;refine qS$ qS$ qS$ qS$ qS$ qS$ qS$ qS$ qS$ qS$ qS$ qS$ qS$ qS ?_;refine qS$ qS$ OU O O$ NZ O$ OD.qb (e:=[(0,_),(4,_),(5,_),(6,_),(7,_),(8,_),(10,_)]) ?_;refine py$ qN O$ Od O O$ qS$ OU O O$ Od O O$ qV ((Rn O))$ Od O O$ qV ((Rn O))$ PT O O$ OU O O$ NU$ It O$ An ?_;refine qN O$ NT O$ OH O$ Og Qu O$ NT O$ Om RY O (Pu eg (j:=1) (k:=x1) (by decide)) ?_;rintro _ w3 ⟨rfl,V3,co⟩;have iO:(A.li 1).erase x1=r1:=by show A.often.erase x1=r1;rw[hf];simp
      rw[iO] at co
      have dA:x1∉(A.Pw 1 r1).li 3:=by
       show x1∉A.Oi;intro e;exact nd6 x1 (by rw[hf];simp) x1 (by simp[e]) O
      refine qM O$ NT O$ OH O$ Og Qo O$ NT O$ Om Sz O (Q4 co.m (j:=3) (k:=x1) (by decide) dA (by show A.Oi.length<=_;exact Nat.le_trans j4 (by decide))) ?_;rintro _ w4 ⟨rfl,V4,bH⟩;have hr:=(eg.r (Ext.refl w2)).trans (co.trans bH);have cy:=hr.k.NX bE (λe=>n4 _ e O);refine NU$ OD.qb (e:=[(4,_),(7,_)]) ?_;refine qN O$ NT O$ qV (Rt (cs:=[_,_,_]) OL O UX O O)$ Oe O (P4 (news:=QI false (some x1)) OL O O O O cy (by simp)) ?_;rintro w5 ⟨aM,ak⟩;replace aM:O9 w5 b4 [.bool false,.bool true,I x1] 264:=aM;refine NU$ Oz func202 (.cell RO O OL O (O9.cells (n:=3) aM (news:=[_,_,_]) O) O .nil) ?_
      have en:∀b,RP c V4 p b->b≠b4:=λb hb e=>by
       rcases hr.fp b hb with h5|h5
       ·exact n4 b h5 e
       ·have:=bE.lt;omega
      rw[jn]
      exact⟨_,rfl,rfl,V4,hr.m.kp ak en,λb hb=>(hr.fp b hb).imp id (λe=>by have:=aJ.size;omega),(aJ.kp.trans hr.k).NR ak (λj e=> .inl (by omega))⟩
  | cons x0 r0 =>
    have Li:1<=A.once.length:=by rw[ho];simp
    cases hf:A.often with
    | nil =>
      have jn:A.room bo=({A with once:=r0,Ol:=A.Ol++[x0]},some x0):=by unfold Arc.room;rw[if_pos cg,ho,hf]
      have g0:Wr A.once= .tuple #[I x0,.bool true]:=by rw[ho];rfl
      have g1:Wr A.often= .tuple #[I 0,.bool false]:=by rw[hf];rfl
      rw[g0] at f0;rw[g1] at f1;refine An$ qN O$ Od O O$ OH O$ Og PM O$ Om XP O (f0) ?_;rintro _ w2 ⟨rfl,rfl⟩;refine NT O$ qV (QL (v:=I x0) O O)$ qV (QL (v:= .bool true) O O)$ Oc O$ Oc O$ qM O$ Od O O$ OH O$ Og Qu O$ Om XP O (f1) ?_;rintro _ w2 ⟨rfl,rfl⟩;refine NT O$ qV (QL (v:=I 0) O O)$ qV (QL (v:= .bool false) O O)$ Oc O$ NZ O$ OD.qb (e:=[(0,_),(1,_),(4,_),(5,_),(6,_),(7,_),(8,_)]) ?_;refine qN O$ NT O$ OH O$ Og PM O$ Og Pr O$ qV (O6 Qt O O am O)$ Qx Qt O$ Oc O$ qM O$ NT O$ SB O O$ Qs$ NT O ?_
      by_cases h1:(A.once.length:Int)>A.target
      ·skip
       refine Od O O$ OH O$ Og Qn O$ qV (O6 U3 O O am O)$ PD O O$ Qs$ NT O$ qS$ qS$ qS$ qS$ qS$ qS$ qS ?_;refine qS$ qS$ PT O O$ PT O O$ NZ O$ OD.qb (e:=[(0,_),(4,_),(5,_),(6,_),(7,_),(8,_),(10,_)]) ?_;refine py$ qN O$ Od O O$ NT O$ PT O O$ NT O$ qS$ qS$ qS$ qS$ qS$ qS$ PT O O$ NU ?_;refine Oa O$ qN O$ NT O$ OH O$ Og PM O$ NT O$ Om RY O (Pu eg (j:=0) (k:=x0) (by decide)) ?_;rintro _ w3 ⟨rfl,V3,co⟩;have iO:(A.li 0).erase x0=r0:=by show A.once.erase x0=r0;rw[ho];simp
       rw[iO] at co
       have dA:x0∉(A.Pw 0 r0).li 2:=by
        show x0∉A.Ol;intro e;exact nd3 x0 (by rw[ho];simp) x0 (by simp[e]) O
       refine qM O$ NT O$ OH O$ Og Q0 O$ NT O$ Om Sz O (Q4 co.m (j:=2) (k:=x0) (by decide) dA (by show A.Ol.length<=_;exact Nat.le_trans gK (by decide))) ?_;rintro _ w4 ⟨rfl,V4,bH⟩;have hr:=(eg.r (Ext.refl w2)).trans (co.trans bH);have cy:=hr.k.NX bE (λe=>n4 _ e O);refine NU$ OD.qb (e:=[(0,_),(4,_),(5,_),(7,_)]) ?_;refine qN O$ NT O$ qV (Rt (cs:=[_,_,_]) OL O UX O O)$ Oe O (P4 (news:=QI false (some x0)) OL O O O O cy (by simp)) ?_;rintro w5 ⟨aM,ak⟩;replace aM:O9 w5 b4 [.bool false,.bool true,I x0] 264:=aM;refine NU$ Oz func202 (.cell RO O OL O (O9.cells (n:=3) aM (news:=[_,_,_]) O) O .nil) ?_
       have en:∀b,RP c V4 p b->b≠b4:=λb hb e=>by
        rcases hr.fp b hb with h5|h5
        ·exact n4 b h5 e
        ·have:=bE.lt;omega
       rw[jn];exact⟨_,rfl,rfl,V4,hr.m.kp ak en,λb hb=>(hr.fp b hb).imp id (λe=>by have:=aJ.size;omega),(aJ.kp.trans hr.k).NR ak (λj e=> .inl (by omega))⟩
      ·refine Od O O$ OH O$ Og Qn O$ qV (O6 U3 O O am O)$ PD O O$ OR$ NT O ?_;by_cases h2:(A.once.length:Int)=A.target
       ·refine Od O O$ OH O$ Og Qn O$ qV (O6 U3 O O am O)$ Qe O O$ Qs$ NT O ?_
        cases bo with
        | true =>
          refine NT O ?_
          skip
          refine PT O O$ OU O O$ PT O O$ NZ O$ OD.qb (e:=[(0,_),(4,_),(5,_),(6,_),(7,_),(8,_),(10,_)]) ?_;refine py$ qN O$ Od O O$ NT O$ PT O O$ NT O$ qS$ qS$ qS$ qS$ qS$ qS$ PT O O$ NU ?_;refine Oa O$ qN O$ NT O$ OH O$ Og PM O$ NT O$ Om RY O (Pu eg (j:=0) (k:=x0) (by decide)) ?_;rintro _ w3 ⟨rfl,V3,co⟩;have iO:(A.li 0).erase x0=r0:=by show A.once.erase x0=r0;rw[ho];simp
          rw[iO] at co
          have dA:x0∉(A.Pw 0 r0).li 2:=by
           show x0∉A.Ol;intro e;exact nd3 x0 (by rw[ho];simp) x0 (by simp[e]) O
          refine qM O$ NT O$ OH O$ Og Q0 O$ NT O$ Om Sz O (Q4 co.m (j:=2) (k:=x0) (by decide) dA (by show A.Ol.length<=_;exact Nat.le_trans gK (by decide))) ?_;rintro _ w4 ⟨rfl,V4,bH⟩;have hr:=(eg.r (Ext.refl w2)).trans (co.trans bH);have cy:=hr.k.NX bE (λe=>n4 _ e O);refine NU$ OD.qb (e:=[(0,_),(4,_),(5,_),(7,_)]) ?_;refine qN O$ NT O$ qV (Rt (cs:=[_,_,_]) OL O UX O O)$ Oe O (P4 (news:=QI false (some x0)) OL O O O O cy (by simp)) ?_;rintro w5 ⟨aM,ak⟩;replace aM:O9 w5 b4 [.bool false,.bool true,I x0] 264:=aM;refine NU$ Oz func202 (.cell RO O OL O (O9.cells (n:=3) aM (news:=[_,_,_]) O) O .nil) ?_
          have en:∀b,RP c V4 p b->b≠b4:=λb hb e=>by
           rcases hr.fp b hb with h5|h5
           ·exact n4 b h5 e
           ·have:=bE.lt;omega
          rw[jn]
          exact⟨_,rfl,rfl,V4,hr.m.kp ak en,λb hb=>(hr.fp b hb).imp id (λe=>by have:=aJ.size;omega),(aJ.kp.trans hr.k).NR ak (λj e=> .inl (by omega))⟩
        | false =>
          refine NT O ?_
          skip
          refine PT O O$ OU O O$ PT O O$ NZ O$ OD.qb (e:=[(0,_),(4,_),(5,_),(6,_),(7,_),(8,_),(10,_)]) ?_;refine py$ qN O$ Od O O$ qS$ OU O O$ Od O O$ qV ((Rn O))$ Od O O$ qV ((Rn O))$ PT O O$ OU O O$ NU$ Oa O$ qN O ?_;refine NT O$ OH O$ Og PM O$ NT O$ Om RY O (Pu eg (j:=0) (k:=x0) (by decide)) ?_;rintro _ w3 ⟨rfl,V3,co⟩;have iO:(A.li 0).erase x0=r0:=by show A.once.erase x0=r0;rw[ho];simp
          rw[iO] at co
          have dA:x0∉(A.Pw 0 r0).li 2:=by
           show x0∉A.Ol;intro e;exact nd3 x0 (by rw[ho];simp) x0 (by simp[e]) O
          refine qM O$ NT O$ OH O$ Og Q0 O$ NT O$ Om Sz O (Q4 co.m (j:=2) (k:=x0) (by decide) dA (by show A.Ol.length<=_;exact Nat.le_trans gK (by decide))) ?_;rintro _ w4 ⟨rfl,V4,bH⟩;have hr:=(eg.r (Ext.refl w2)).trans (co.trans bH);have cy:=hr.k.NX bE (λe=>n4 _ e O);refine NU$ OD.qb (e:=[(0,_),(4,_),(5,_),(7,_)]) ?_;refine qN O$ NT O$ qV (Rt (cs:=[_,_,_]) OL O UX O O)$ Oe O (P4 (news:=QI false (some x0)) OL O O O O cy (by simp)) ?_;rintro w5 ⟨aM,ak⟩;replace aM:O9 w5 b4 [.bool false,.bool true,I x0] 264:=aM;refine NU$ Oz func202 (.cell RO O OL O (O9.cells (n:=3) aM (news:=[_,_,_]) O) O .nil) ?_
          have en:∀b,RP c V4 p b->b≠b4:=λb hb e=>by
           rcases hr.fp b hb with h5|h5
           ·exact n4 b h5 e
           ·have:=bE.lt;omega
          rw[jn];exact⟨_,rfl,rfl,V4,hr.m.kp ak en,λb hb=>(hr.fp b hb).imp id (λe=>by have:=aJ.size;omega),(aJ.kp.trans hr.k).NR ak (λj e=> .inl (by omega))⟩
       ·refine Od O O$ OH O$ Og Qn O$ qV (O6 U3 O O am O)$ Qe O O$ OR$ NT O ?_
        skip
        refine qS$ OU O O$ OU O O$ PT O O$ NZ O$ OD.qb (e:=[(0,_),(4,_),(5,_),(6,_),(7,_),(8,_),(10,_)]) ?_;refine py$ qN O$ Od O O$ qS$ OU O O$ Od O O$ qV ((Rn O))$ Od O O$ qV ((Rn O))$ PT O O$ OU O O$ NU$ Oa O$ qN O ?_;refine NT O$ OH O$ Og PM O$ NT O$ Om RY O (Pu eg (j:=0) (k:=x0) (by decide)) ?_;rintro _ w3 ⟨rfl,V3,co⟩;have iO:(A.li 0).erase x0=r0:=by show A.once.erase x0=r0;rw[ho];simp
        rw[iO] at co
        have dA:x0∉(A.Pw 0 r0).li 2:=by
         show x0∉A.Ol;intro e;exact nd3 x0 (by rw[ho];simp) x0 (by simp[e]) O
        refine qM O$ NT O$ OH O$ Og Q0 O$ NT O$ Om Sz O (Q4 co.m (j:=2) (k:=x0) (by decide) dA (by show A.Ol.length<=_;exact Nat.le_trans gK (by decide))) ?_;rintro _ w4 ⟨rfl,V4,bH⟩;have hr:=(eg.r (Ext.refl w2)).trans (co.trans bH);have cy:=hr.k.NX bE (λe=>n4 _ e O);refine NU$ OD.qb (e:=[(0,_),(4,_),(5,_),(7,_)]) ?_;refine qN O$ NT O$ qV (Rt (cs:=[_,_,_]) OL O UX O O)$ Oe O (P4 (news:=QI false (some x0)) OL O O O O cy (by simp)) ?_;rintro w5 ⟨aM,ak⟩;replace aM:O9 w5 b4 [.bool false,.bool true,I x0] 264:=aM;refine NU$ Oz func202 (.cell RO O OL O (O9.cells (n:=3) aM (news:=[_,_,_]) O) O .nil) ?_
        have en:∀b,RP c V4 p b->b≠b4:=λb hb e=>by
         rcases hr.fp b hb with h5|h5
         ·exact n4 b h5 e
         ·have:=bE.lt;omega
        rw[jn]
        exact⟨_,rfl,rfl,V4,hr.m.kp ak en,λb hb=>(hr.fp b hb).imp id (λe=>by have:=aJ.size;omega),(aJ.kp.trans hr.k).NR ak (λj e=> .inl (by omega))⟩
    | cons x1 r1 =>
      have g0:Wr A.once= .tuple #[I x0,.bool true]:=by rw[ho];rfl
      have g1:Wr A.often= .tuple #[I x1,.bool true]:=by rw[hf];rfl
      rw[g0] at f0;rw[g1] at f1;refine An$ qN O$ Od O O$ OH O$ Og PM O$ Om XP O (f0) ?_;rintro _ w2 ⟨rfl,rfl⟩;refine NT O$ qV (QL (v:=I x0) O O)$ qV (QL (v:= .bool true) O O)$ Oc O$ Oc O$ qM O$ Od O O$ OH O$ Og Qu O$ Om XP O (f1) ?_;rintro _ w2 ⟨rfl,rfl⟩;refine NT O$ qV (QL (v:=I x1) O O)$ qV (QL (v:= .bool true) O O)$ Oc O$ NZ O$ OD.qb (e:=[(0,_),(1,_),(4,_),(5,_),(6,_),(7,_),(8,_)]) ?_;refine qN O$ NT O$ OH O$ Og PM O$ Og Pr O$ qV (O6 Qt O O am O)$ Qx Qt O$ Oc O$ qM O$ NT O$ SB O O$ Qs$ NT O ?_
      by_cases h1:(A.once.length:Int)>A.target
      ·have jn:A.room bo=({A with once:=r0,Ol:=A.Ol++[x0]},some x0):=by unfold Arc.room;rw[if_pos cg,ho,hf];exact if_pos (by rw[<-ho];exact .inl h1)
       refine Od O O$ OH O$ Og Qn O$ qV (O6 U3 O O am O)$ PD O O$ Qs$ NT O$ qS$ qS$ qS$ qS$ qS$ qS$ qS ?_;refine qS$ qS$ PT O O$ PT O O$ NZ O$ OD.qb (e:=[(0,_),(4,_),(5,_),(6,_),(7,_),(8,_),(10,_)]) ?_;refine py$ qN O$ Od O O$ NT O$ PT O O$ NT O$ qS$ qS$ qS$ qS$ qS$ qS$ PT O O$ NU ?_;refine Oa O$ qN O$ NT O$ OH O$ Og PM O$ NT O$ Om RY O (Pu eg (j:=0) (k:=x0) (by decide)) ?_;rintro _ w3 ⟨rfl,V3,co⟩;have iO:(A.li 0).erase x0=r0:=by show A.once.erase x0=r0;rw[ho];simp
       rw[iO] at co
       have dA:x0∉(A.Pw 0 r0).li 2:=by
        show x0∉A.Ol;intro e;exact nd3 x0 (by rw[ho];simp) x0 (by simp[e]) O
       refine qM O$ NT O$ OH O$ Og Q0 O$ NT O$ Om Sz O (Q4 co.m (j:=2) (k:=x0) (by decide) dA (by show A.Ol.length<=_;exact Nat.le_trans gK (by decide))) ?_;rintro _ w4 ⟨rfl,V4,bH⟩;have hr:=(eg.r (Ext.refl w2)).trans (co.trans bH);have cy:=hr.k.NX bE (λe=>n4 _ e O);refine NU$ OD.qb (e:=[(0,_),(4,_),(5,_),(7,_)]) ?_;refine qN O$ NT O$ qV (Rt (cs:=[_,_,_]) OL O UX O O)$ Oe O (P4 (news:=QI false (some x0)) OL O O O O cy (by simp)) ?_;rintro w5 ⟨aM,ak⟩;replace aM:O9 w5 b4 [.bool false,.bool true,I x0] 264:=aM;refine NU$ Oz func202 (.cell RO O OL O (O9.cells (n:=3) aM (news:=[_,_,_]) O) O .nil) ?_
       have en:∀b,RP c V4 p b->b≠b4:=λb hb e=>by
        rcases hr.fp b hb with h5|h5
        ·exact n4 b h5 e
        ·have:=bE.lt;omega
       rw[jn];exact⟨_,rfl,rfl,V4,hr.m.kp ak en,λb hb=>(hr.fp b hb).imp id (λe=>by have:=aJ.size;omega),(aJ.kp.trans hr.k).NR ak (λj e=> .inl (by omega))⟩
      ·refine Od O O$ OH O$ Og Qn O$ qV (O6 U3 O O am O)$ PD O O$ OR$ NT O ?_;by_cases h2:(A.once.length:Int)=A.target
       ·refine Od O O$ OH O$ Og Qn O$ qV (O6 U3 O O am O)$ Qe O O$ Qs$ NT O ?_
        cases bo with
        | true =>
          refine NT O ?_;have jn:A.room true=({A with once:=r0,Ol:=A.Ol++[x0]},some x0):=by unfold Arc.room;rw[if_pos cg,ho,hf];exact if_pos (by rw[<-ho];exact .inr ⟨h2,rfl⟩)
          refine PT O O$ OU O O$ PT O O$ NZ O$ OD.qb (e:=[(0,_),(4,_),(5,_),(6,_),(7,_),(8,_),(10,_)]) ?_;refine py$ qN O$ Od O O$ NT O$ PT O O$ NT O$ qS$ qS$ qS$ qS$ qS$ qS$ PT O O$ NU ?_;refine Oa O$ qN O$ NT O$ OH O$ Og PM O$ NT O$ Om RY O (Pu eg (j:=0) (k:=x0) (by decide)) ?_;rintro _ w3 ⟨rfl,V3,co⟩;have iO:(A.li 0).erase x0=r0:=by show A.once.erase x0=r0;rw[ho];simp
          rw[iO] at co
          have dA:x0∉(A.Pw 0 r0).li 2:=by
           show x0∉A.Ol;intro e;exact nd3 x0 (by rw[ho];simp) x0 (by simp[e]) O
          refine qM O$ NT O$ OH O$ Og Q0 O$ NT O$ Om Sz O (Q4 co.m (j:=2) (k:=x0) (by decide) dA (by show A.Ol.length<=_;exact Nat.le_trans gK (by decide))) ?_;rintro _ w4 ⟨rfl,V4,bH⟩;have hr:=(eg.r (Ext.refl w2)).trans (co.trans bH);have cy:=hr.k.NX bE (λe=>n4 _ e O);refine NU$ OD.qb (e:=[(0,_),(4,_),(5,_),(7,_)]) ?_;refine qN O$ NT O$ qV (Rt (cs:=[_,_,_]) OL O UX O O)$ Oe O (P4 (news:=QI false (some x0)) OL O O O O cy (by simp)) ?_;rintro w5 ⟨aM,ak⟩;replace aM:O9 w5 b4 [.bool false,.bool true,I x0] 264:=aM;refine NU$ Oz func202 (.cell RO O OL O (O9.cells (n:=3) aM (news:=[_,_,_]) O) O .nil) ?_
          have en:∀b,RP c V4 p b->b≠b4:=λb hb e=>by
           rcases hr.fp b hb with h5|h5
           ·exact n4 b h5 e
           ·have:=bE.lt;omega
          rw[jn]
          exact⟨_,rfl,rfl,V4,hr.m.kp ak en,λb hb=>(hr.fp b hb).imp id (λe=>by have:=aJ.size;omega),(aJ.kp.trans hr.k).NR ak (λj e=> .inl (by omega))⟩
        | false =>
          refine NT O ?_;have jn:A.room false=({A with often:=r1,Oi:=A.Oi++[x1]},some x1):=by unfold Arc.room;rw[if_pos cg,ho,hf];exact if_neg (by rw[<-ho];rintro(e|⟨e,e2⟩);exact h1 e;cases e2)
          refine PT O O$ OU O O$ PT O O$ NZ O$ OD.qb (e:=[(0,_),(4,_),(5,_),(6,_),(7,_),(8,_),(10,_)]) ?_;refine py$ qN O$ Od O O$ qS$ OU O O$ Od O O$ qV ((Rn O))$ Od O O$ qV ((Rn O))$ PT O O$ OU O O$ NU$ It O$ An ?_;refine qN O$ NT O$ OH O$ Og Qu O$ NT O$ Om RY O (Pu eg (j:=1) (k:=x1) (by decide)) ?_;rintro _ w3 ⟨rfl,V3,co⟩;have iO:(A.li 1).erase x1=r1:=by show A.often.erase x1=r1;rw[hf];simp
          rw[iO] at co
          have dA:x1∉(A.Pw 1 r1).li 3:=by
           show x1∉A.Oi;intro e;exact nd6 x1 (by rw[hf];simp) x1 (by simp[e]) O
          refine qM O$ NT O$ OH O$ Og Qo O$ NT O$ Om Sz O (Q4 co.m (j:=3) (k:=x1) (by decide) dA (by show A.Oi.length<=_;exact Nat.le_trans j4 (by decide))) ?_;rintro _ w4 ⟨rfl,V4,bH⟩;have hr:=(eg.r (Ext.refl w2)).trans (co.trans bH);have cy:=hr.k.NX bE (λe=>n4 _ e O);refine NU$ OD.qb (e:=[(4,_),(7,_)]) ?_;refine qN O$ NT O$ qV (Rt (cs:=[_,_,_]) OL O UX O O)$ Oe O (P4 (news:=QI false (some x1)) OL O O O O cy (by simp)) ?_;rintro w5 ⟨aM,ak⟩;replace aM:O9 w5 b4 [.bool false,.bool true,I x1] 264:=aM;refine NU$ Oz func202 (.cell RO O OL O (O9.cells (n:=3) aM (news:=[_,_,_]) O) O .nil) ?_
          have en:∀b,RP c V4 p b->b≠b4:=λb hb e=>by
           rcases hr.fp b hb with h5|h5
           ·exact n4 b h5 e
           ·have:=bE.lt;omega
          rw[jn];exact⟨_,rfl,rfl,V4,hr.m.kp ak en,λb hb=>(hr.fp b hb).imp id (λe=>by have:=aJ.size;omega),(aJ.kp.trans hr.k).NR ak (λj e=> .inl (by omega))⟩
       ·refine Od O O$ OH O$ Og Qn O$ qV (O6 U3 O O am O)$ Qe O O$ OR$ NT O ?_;have jn:A.room bo=({A with often:=r1,Oi:=A.Oi++[x1]},some x1):=by unfold Arc.room;rw[if_pos cg,ho,hf];exact if_neg (by rw[<-ho];rintro(e|⟨e,e2⟩);exact h1 e;exact h2 e)
        refine qS$ OU O O$ OU O O$ PT O O$ NZ O$ OD.qb (e:=[(0,_),(4,_),(5,_),(6,_),(7,_),(8,_),(10,_)]) ?_;refine py$ qN O$ Od O O$ qS$ OU O O$ Od O O$ qV ((Rn O))$ Od O O$ qV ((Rn O))$ PT O O$ OU O O$ NU$ It O$ An ?_;refine qN O$ NT O$ OH O$ Og Qu O$ NT O$ Om RY O (Pu eg (j:=1) (k:=x1) (by decide)) ?_;rintro _ w3 ⟨rfl,V3,co⟩;have iO:(A.li 1).erase x1=r1:=by show A.often.erase x1=r1;rw[hf];simp
        rw[iO] at co
        have dA:x1∉(A.Pw 1 r1).li 3:=by
         show x1∉A.Oi;intro e;exact nd6 x1 (by rw[hf];simp) x1 (by simp[e]) O
        refine qM O$ NT O$ OH O$ Og Qo O$ NT O$ Om Sz O (Q4 co.m (j:=3) (k:=x1) (by decide) dA (by show A.Oi.length<=_;exact Nat.le_trans j4 (by decide))) ?_;rintro _ w4 ⟨rfl,V4,bH⟩;have hr:=(eg.r (Ext.refl w2)).trans (co.trans bH);have cy:=hr.k.NX bE (λe=>n4 _ e O);refine NU$ OD.qb (e:=[(4,_),(7,_)]) ?_;refine qN O$ NT O$ qV (Rt (cs:=[_,_,_]) OL O UX O O)$ Oe O (P4 (news:=QI false (some x1)) OL O O O O cy (by simp)) ?_;rintro w5 ⟨aM,ak⟩;replace aM:O9 w5 b4 [.bool false,.bool true,I x1] 264:=aM;refine NU$ Oz func202 (.cell RO O OL O (O9.cells (n:=3) aM (news:=[_,_,_]) O) O .nil) ?_
        have en:∀b,RP c V4 p b->b≠b4:=λb hb e=>by
         rcases hr.fp b hb with h5|h5
         ·exact n4 b h5 e
         ·have:=bE.lt;omega
        rw[jn];exact⟨_,rfl,rfl,V4,hr.m.kp ak en,λb hb=>(hr.fp b hb).imp id (λe=>by have:=aJ.size;omega),(aJ.kp.trans hr.k).NR ak (λj e=> .inl (by omega))⟩
end
theorem Arc.Ok.zgd {A:Arc}(h:A.Ok):(A.Pw 2 (A.Ol.drop 1)).Ok:=by
 have hs:(A.Pw 2 (A.Ol.drop 1)).all.Sublist A.all:=(((List.drop_sublist 1 A.Ol).append_right A.Oi).append_left A.often).append_left A.once
 have:=h.first
 have h2:=hs.length_le
 have h3:=h.total
 exact⟨h.pos,h.nd.sublist hs,h.held,by show A.once.length+(A.Ol.drop 1).length<=A.size;rw[List.length_drop];omega,Nat.le_trans h2 h3,h.tg⟩
theorem Arc.Ok.ziE {A:Arc}(h:A.Ok):(A.Pw 3 (A.Oi.drop 1)).Ok:=by
 have hs:(A.Pw 3 (A.Oi.drop 1)).all.Sublist A.all:=(((List.drop_sublist 1 A.Oi).append_left A.Ol).append_left A.often).append_left A.once
 exact⟨h.pos,h.nd.sublist hs,h.held,h.first,Nat.le_trans hs.length_le h.total,h.tg⟩
section
variable {w w' w2:World}{c p:Nat}{A A' A2:Arc}{V V' V2:Nat->Value×Value}{S:Nat->Prop}{k:Int}
theorem RT.head (h:RT w c A V p){j:Nat}(hj:j<4){x:Int}{r:List Int}(hl:A.li j=x::r):∃b o cp,(V j).1= .slice (some ⟨b,o,none⟩) (A.li j).length cp/\w.cell? ⟨b,o+0*1,none⟩=some (I x):=by
 have hR:=(h.q j hj).sl.rd
 rcases hR.2 with⟨c,hc,h0⟩|⟨b,off,c',hc,-⟩
 ·rw[hl] at h0;simp at h0
 ·rw[hc] at hR;exact⟨b,off,c',hc,Ps hR (i:=0) (by rw[hl];rfl)⟩
theorem z0n (h:RT w c A V p)(hA:A.Ok)(cE:A.size<=1000):Oy prog 203 [ptr c 0] w λv w'=>v=zc0 false A.add.2/\∃V',Vm w c V p w' A.add.1 V':=by
 have po:=hA.lens cE 0
 have ku:=hA.lens cE 1
 have gK:=hA.lens cE 2
 have j4:=hA.lens cE 3
 have ir:=hA.pos
 have gX:=A.Q5
 have vJ:=hA.held
 have Nu:=hA.first
 have eU:=hA.total
 have aZ:∀{b:Nat},RP c V p b->b<w.heap.size:=h.lt
 rw[show A.li 0=A.once from rfl] at po
 rw[show A.li 1=A.often from rfl] at ku
 rw[show A.li 2=A.Ol from rfl] at gK
 rw[show A.li 3=A.Oi from rfl] at j4
 have hB:=h.cells
 obtain⟨a0,c0,e0,-⟩:∃a c,(V 0).1= .slice a A.once.length c/\_:=(h.q 0 (by decide)).sl.rd.shape
 obtain⟨a1,c1,e1,-⟩:∃a c,(V 1).1= .slice a A.often.length c/\_:=(h.q 1 (by decide)).sl.rd.shape
 obtain⟨a2,c2,e2,-⟩:∃a c,(V 2).1= .slice a A.Ol.length c/\_:=(h.q 2 (by decide)).sl.rd.shape
 obtain⟨a3,c3,e3,-⟩:∃a c,(V 3).1= .slice a A.Oi.length c/\_:=(h.q 3 (by decide)).sl.rd.shape
 rw[e0,e1,e2,e3] at hB
 refine NP (e:=[(0,_)]) func203 O ntmps203 O O$ qN O$ O5 O O (QU (cs:=[_,_,_]) OL O) ?_
 rintro _ w1 ⟨b2,rfl,bU,ad,am⟩
 replace am:O9 w1 b2 [.bool false,.bool false,I 0] 264:=am
 have n2:∀b,RP c V p b->b≠b2:=λb hb e=>by have:=aZ hb;omega
 have ai:=ad.NX hB
 have aT:=Ext.Ob w1
 refine NU$ py$ Qj (λw'=>Ext w1 w') O$ Oj 0 O O (aT)$ O0 1 O (Pq O) aT$ O0 2 O (OG PM O) aT$ O0 3 O (OG Pr O) aT$ qT 4 O (λ_ h=>O6 Qt O O (h.NX ai) O) aT$ O0 5 O (RJ Qt O) aT$ Oj 6 O O (aT)$ O0 7 O (Pq O) aT$ O0 8 O (OG Q0 O) aT$ O0 9 O (OG Pr O) aT$ qT 10 O (λ_ h=>O6 Qt O O (h.NX ai) O) aT ?_
 refine O0 11 O (RJ Qt O) aT$ O0 12 O (TK O O (by omega)) aT$ O0 13 O (Qq O) aT$ qE$ py ?_
 rw[show(A.once.length:Int)+(A.Ol.length:Int)=((A.once.length+A.Ol.length:Nat):Int) by omega]
 have aa:=Ext.Ob w1.drew
 have rK:=aT.NX ai
 refine Qj (λw'=>Ext w1.drew w') O$ Oj 0 O O (aa)$ Oj 1 O O (aa)$ O0 2 O (Pq O) aa$ O0 3 O (OG Qu O) aa$ O0 4 O (OG Pr O) aa$ qT 5 O (λ_ h=>O6 Qt O O (h.NX rK) O) aa$ O0 6 O (RJ Qt O) aa$ O0 7 O (TK O O (by omega)) aa$ Oj 8 O O (aa)$ O0 9 O (Pq O) aa$ O0 10 O (OG Qo O) aa$ O0 11 O (OG Pr O) aa$ qT 12 O (λ_ h=>O6 Qt O O (h.NX rK) O) aa ?_
 refine O0 13 O (RJ Qt O) aa$ O0 14 O (TK O O (by omega)) aa$ O0 15 O (Qq O) aa ?_
 rw[show((A.once.length+A.Ol.length:Nat):Int)+(A.often.length:Int)+(A.Oi.length:Int)=(A.all.length:Int) by omega]
 have ae:=(ad.trans aT).trans aa
 obtain⟨w2,mz⟩:∃w2,w1.drew.drew=w2:=⟨_,rfl⟩
 rw[mz] at ae
 have aB:=aT.trans aa
 rw[mz] at aB⊢
 have h2:=h.ext ae
 have mc:=h2.cells
 rw[e0,e1,e2,e3] at mc
 have iy:=aB.NX am
 have ag:=Ext.Ob w2
 refine qE$ OD.qb (e:=[(0,_),(2,_),(3,_),(4,_)]) ?_
 refine py$ OX (λe' w'=>e'=[(0,ptr c 0),(2,ptr b2 0)]/\∃A' V',A'.Ok/\A'.size=A.size/\Vm w2 c V p w' A' V'/\O9 w' b2 [.bool false,.bool false,I 0] 264/\A.add=A'.room false/\w2.heap.size<=w'.heap.size) ?ek$ λek=>?iP
 case ek=>
  rintro e' w3 ⟨rfl,A',V',Lj,zh,co,au,dB,z3⟩;refine qN O$ NT O$ Om z0i O (SJ co.m Lj (by omega) false) ?_;rintro _ w4 ⟨rfl,V4,bH⟩;have hr:=co.trans bH
  have n3:∀b,RP c V' p b->b≠b2:=λb hb e=>by
   rcases co.fp b hb with h5|h5
   ·exact n2 b h5 e
   ·have:=iy.lt;omega
  have n4:∀b,RP c V4 p b->b≠b2:=λb hb e=>by
   rcases hr.fp b hb with h5|h5
   ·exact n2 b h5 e
   ·have:=iy.lt;omega
  have ip:=bH.k.NX au (λe=>n3 _ e O);obtain⟨g,hg⟩:∃g,(A'.room false).2=g:=⟨_,rfl⟩;rw[hg];refine Oe O (P4 (news:=QI false g) OL O O O O ip (by simp)) ?_;rintro w5 ⟨dO,ak⟩;replace dO:O9 w5 b2 [.bool false,.bool g.isSome,I (g.getD 0)] 264:=dO;refine NU$ Oz func203 (.cell RO O OL O (O9.cells (n:=3) dO (news:=[_,_,_]) O) O .nil) ?_;rw[dB,hg];have z1:=ad.size;have z2:=ae.size;exact⟨_,rfl,rfl,V4,hr.m.kp ak n4,λb hb=>(hr.fp b hb).imp id (λe=>by omega),(ae.kp.trans hr.k).NR ak (λj e=> .inl (by omega))⟩
 case iP =>
  have e13:(A.all.length:Int)=(A.all.length:Int):=rfl;have h3:=h2.ext ag;have qm:=ag.NX mc;have cS:=ag.NX iy;have z1:=ad.size;have z2:=ae.size;by_cases hf:A.once.length+A.Ol.length=A.size
  ·by_cases ho:A.once.length<A.size
   ·refine NQ$ py$ Qj (λw'=>Ext w2 w') O$ Oj 0 O O (ag)$ Oj 1 O O (ag)$ O0 2 O (Pq O) ag$ O0 3 O (OG Rz O) ag$ qT 4 O (λ_ h=>O6 U3 O O (h.NX mc) O) ag$ O0 5 O (yeq O O) ag$ T4$ Oj 6 O O (ag)$ Oj 7 O O (ag)$ O0 8 O (Pq O) ag$ O0 9 O (OG PM O) ag ?_;refine O0 10 O (OG Pr O) ag$ qT 11 O (λ_ h=>O6 Qt O O (h.NX mc) O) ag$ O0 12 O (RJ Qt O) ag$ Oj 13 O O (ag)$ O0 14 O (Pq O) ag$ O0 15 O (OG Rz O) ag$ qT 16 O (λ_ h=>O6 U3 O O (h.NX mc) O) ag$ O0 17 O (ZR O O) ag$ T4$ O0 18 O (TL O O) ag$ O0 19 O (Qq O) ag$ qE$ Oa O ?_
    obtain⟨x,r,hw⟩:∃x r,A.Ol=x::r:=by
     cases hx:A.Ol with
     |nil=>rw[hx] at hf;simp at hf;omega
     |cons x r=>exact⟨x,r,rfl⟩
    obtain⟨lb,lo,lc,zi,-⟩:=h2.head (j:=2) (by decide) hw;rw[e2] at zi;cases zi;have cK:=(h3.q 2 (by decide)).sl.rd;rw[e2] at cK;have rL:0<A.Ol.length:=by rw[hw];simp
    have gY:((A.li 2).map I)[0]? =some (I x):=by show(A.Ol.map I)[0]? =_;rw[hw];rfl
    have af:=Ext.Ob w2.drew;refine Oo [10] (λw'=>Ext w2.drew w') (by kernel_rfl) O$ OW 0 O O (af)$ Ot 1 O (Pq O) af$ Ot 2 O (OG Q0 O) af$ OW 3 O O (af)$ Ot 4 O (Pq O) af$ Ot 5 O (OG Q0 O) af$ Ot 6 O (OG Pr O) af$ qL 7 O (λ_ h=>O6 Qt O O (h.NX (ag.NX mc)) O) af$ Ot 8 O (P7 Qt Pb O O (by omega)) af$ qL 9 O (λ_ h=>OC U3 O O (Ps (cK.ext h) (i:=0) gY)) af$ S8 [10]$ RW 10 O RY O (Pu (h3.ext af) (j:=2) (k:=x) (by decide)) ?_;rintro _ w5 ⟨rfl,V5,ck⟩;refine⟨trivial,?_⟩;have zj:(A.li 2).erase x=A.Ol.drop 1:=by show A.Ol.erase x=A.Ol.drop 1;rw[hw];simp
    rw[zj] at ck;have fm:=(h2.r (ag.trans af)).trans ck;have dO:=fm.k.NX iy (λe=>n2 _ e O);refine qE$ OD.qb (e:=[(0,_),(2,_)]) ?_;refine NS ?_;exact(ek _ _ ⟨rfl,_,V5,hA.zgd,(ZD A (j:=2) (by decide) _).1,fm,dO,by unfold Arc.add;rw[if_pos hf,if_pos ho];rfl,fm.k.size⟩).qb
   ·refine NQ$ py$ Qj (λw'=>Ext w2 w') O$ Oj 0 O O (ag)$ Oj 1 O O (ag)$ O0 2 O (Pq O) ag$ O0 3 O (OG Rz O) ag$ qT 4 O (λ_ h=>O6 U3 O O (h.NX mc) O) ag$ O0 5 O (yeq O O) ag$ T4$ Oj 6 O O (ag)$ Oj 7 O O (ag)$ O0 8 O (Pq O) ag$ O0 9 O (OG PM O) ag ?_;refine O0 10 O (OG Pr O) ag$ qT 11 O (λ_ h=>O6 Qt O O (h.NX mc) O) ag$ O0 12 O (RJ Qt O) ag$ Oj 13 O O (ag)$ O0 14 O (Pq O) ag$ O0 15 O (OG Rz O) ag$ qT 16 O (λ_ h=>O6 U3 O O (h.NX mc) O) ag$ O0 17 O (ZR O O) ag$ TH$ O0 18 O (TL O O) ag$ O0 19 O (Qq O) ag$ qE$ It O$ qN O ?_;refine Od O O$ OH O$ Og Rz O$ qV (O6 U3 O O qm O)$ Qe O O$ Qs$ NZ O$ OD.qb (e:=[(0,_),(2,_),(4,_),(66,_)]) ?_;refine Oa O$ qN O$ Od O O$ OH O$ Og PM O ?_
    obtain⟨x,r,hw⟩:∃x r,A.once=x::r:=by
     cases hx:A.once with
     |nil=>rw[hx] at ho;simp at ho;omega
     |cons x r=>exact⟨x,r,rfl⟩
    have f0:=Ul h3 (j:=0) (by decide);rw[show A.li 0=A.once from rfl,show Wr A.once= .tuple #[I x,.bool true] by rw[hw];rfl] at f0;obtain⟨w3,qn⟩:∃w3,w2.drew=w3:=⟨_,rfl⟩;rw[qn] at f0 h3 cS ag⊢;refine Om XP O (f0) ?_;rintro _ w3 ⟨rfl,rfl⟩;refine NT O$ qV (QL (v:=I x) O O)$ qV (QL (v:= .bool true) O O)$ Oc O$ Oc O$ qM O$ NT O$ OH O$ Og PM O$ NT O$ Om RY O (Pu h3 (j:=0) (k:=x) (by decide)) ?_;rintro _ w5 ⟨rfl,V5,ck⟩;have zj:(A.li 0).erase x=A.once.drop 1:=by show A.once.erase x=A.once.drop 1;rw[hw];simp
    rw[zj] at ck;have fm:=(h2.r ag).trans ck;have dO:=fm.k.NX iy (λe=>n2 _ e O);refine qM O$ NT O$ qV (Rt (cs:=[_,_,_]) OL O UX O O)$ Oe O (P4 (news:=QI false (some x)) OL O O O O dO (by simp)) ?_;rintro w6 ⟨j7,aP⟩;replace j7:O9 w6 b2 [.bool false,.bool true,I x] 264:=j7;refine NU$ Oz func203 (.cell RO O OL O (O9.cells (n:=3) j7 (news:=[_,_,_]) O) O .nil) ?_
    have n5:∀b,RP c V5 p b->b≠b2:=λb hb e=>by
     rcases fm.fp b hb with h5|h5
     ·exact n2 b h5 e
     ·have:=iy.lt;omega
    have dB:A.add=(A.Pw 0 (A.once.drop 1),some x):=by unfold Arc.add;rw[if_pos hf,if_neg ho,hw];rfl
    rw[dB];exact⟨_,rfl,rfl,V5,fm.m.kp aP n5,λb hb=>(fm.fp b hb).imp id (λe=>by omega),(ae.kp.trans fm.k).NR aP (λj e=> .inl (by omega))⟩
  ·refine NQ$ py$ Qj (λw'=>Ext w2 w') O$ Oj 0 O O (ag)$ Oj 1 O O (ag)$ O0 2 O (Pq O) ag$ O0 3 O (OG Rz O) ag$ qT 4 O (λ_ h=>O6 U3 O O (h.NX mc) O) ag$ O0 5 O (yeq O O) ag$ TH$ Oj 6 O O (ag)$ qJ 7 O (ag)$ qJ 8 O (ag)$ qJ 9 O (ag) ?_;refine qJ 10 O (ag)$ qJ 11 O (ag)$ qJ 12 O (ag)$ qJ 13 O (ag)$ qJ 14 O (ag)$ qJ 15 O (ag)$ qJ 16 O (ag)$ qJ 17 O (ag)$ O0 18 O (TA O O) ag$ O0 19 O (Qq O) ag$ qE$ It O$ qN O$ Od O O ?_;refine OH O$ Og Rz O$ qV (O6 U3 O O qm O)$ Qe O O$ OR$ NZ O$ OD.qb (e:=[(0,_),(2,_),(4,_),(66,_)]) ?_;refine It O$ qN O$ Od O O$ OH O$ Og Rz O$ qV (O6 U3 O O qm O) ?_;by_cases h4:A.all.length<A.size
   ·refine Py O O$ Qs$ NZ O$ Oa O$ qN O$ qV (Rt (cs:=[_,_,_]) OL O UX O O)$ Oe O (P4 (news:=QI false none) OL O O O O cS (by simp)) ?_;rintro w5 ⟨dO,ak⟩;replace dO:O9 w5 b2 [.bool false,.bool false,I 0] 264:=dO;refine NU$ Oz func203 (.cell RO O OL O (O9.cells (n:=3) dO (news:=[_,_,_]) O) O .nil) ?_;have dB:A.add=(A,none):=by unfold Arc.add;rw[if_neg hf,if_pos h4]
    rw[dB];exact⟨_,rfl,rfl,V,h3.kp ak n2,λb hb=> .inl hb,((ae.trans ag).NR ak (λj e=>by omega)).kp⟩
   ·refine Py O O$ OR$ NZ O$ It O$ qN O$ Od O O$ OH O$ Og Rz O$ qV (O6 U3 O O qm O)$ qV (Xa O O (by omega)) ?_;by_cases h5:A.all.length=2*A.size
    ·refine Qe O O$ Qs$ NZ O$ Oa O ?_
     obtain⟨x,r,hw⟩:∃x r,A.Oi=x::r:=by
      cases hx:A.Oi with
      |nil=>rw[hx] at gX;simp at gX;omega
      |cons x r=>exact⟨x,r,rfl⟩
     obtain⟨lb,lo,lc,zi,-⟩:=h2.head (j:=3) (by decide) hw;rw[e3] at zi;cases zi;have cK:=(h3.q 3 (by decide)).sl.rd;rw[e3] at cK;have rL:0<A.Oi.length:=by rw[hw];simp
     have gY:((A.li 3).map I)[0]? =some (I x):=by show(A.Oi.map I)[0]? =_;rw[hw];rfl
     have af:=Ext.Ob w2.drew;refine Oo [10] (λw'=>Ext w2.drew w') (by kernel_rfl) O$ OW 0 O O (af)$ Ot 1 O (Pq O) af$ Ot 2 O (OG Qo O) af$ OW 3 O O (af)$ Ot 4 O (Pq O) af$ Ot 5 O (OG Qo O) af$ Ot 6 O (OG Pr O) af$ qL 7 O (λ_ h=>O6 Qt O O (h.NX (ag.NX mc)) O) af$ Ot 8 O (P7 Qt Pb O O (by omega)) af$ qL 9 O (λ_ h=>OC U3 O O (Ps (cK.ext h) (i:=0) gY)) af$ S8 [10]$ RW 10 O RY O (Pu (h3.ext af) (j:=3) (k:=x) (by decide)) ?_;rintro _ w5 ⟨rfl,V5,ck⟩;refine⟨trivial,?_⟩;have zj:(A.li 3).erase x=A.Oi.drop 1:=by show A.Oi.erase x=A.Oi.drop 1;rw[hw];simp
     rw[zj] at ck;have fm:=(h2.r (ag.trans af)).trans ck;have dO:=fm.k.NX iy (λe=>n2 _ e O);refine qE$ OD.qb (e:=[(0,_),(2,_)]) ?_;refine NS ?_;exact(ek _ _ ⟨rfl,_,V5,hA.ziE,(ZD A (j:=3) (by decide) _).1,fm,dO,by unfold Arc.add;rw[if_neg hf,if_neg h4,if_pos h5];rfl,fm.k.size⟩).qb
    ·refine Qe O O$ OR$ NZ O$ It O$ An$ NS ?_;exact(ek _ _ ⟨rfl,A,V,hA,rfl,h2.r ag,cS,by unfold Arc.add;rw[if_neg hf,if_neg h4,if_neg h5],ag.size⟩).qb
end
section
variable {w w' w2:World}{c p:Nat}{A A' A2:Arc}{V V' V2:Nat->Value×Value}{S:Nat->Prop}{k:Int}
theorem RT.Yz (h:RT w c A V p){T:Int}(hB:O9 w' c (acC A.size T V p) 192)(hk:Kp (λb=>b=c) w w'):Vm w c V p w' {A with target:=T} V:=
 ⟨⟨hB,λj hj=>by
  have e:({A with target:=T}:Arc).li j=A.li j:=by match j,hj with|0,_|1,_|2,_|3,_=>rfl
  rw[e]
  exact(h.q j hj).kp hk λb hb e=>h.nc j hj (e▸hb),hk.map h.pins (λe=>h.cp e.symm),h.Vo,h.nc,h.np,h.cp⟩,λb hb=> .inl hb,hk.Of λb e=> .inl e⟩
theorem Arc.Ok.Yz (h:A.Ok){T:Int}(hT:0<=T/\T<=A.size):({A with target:=T}:Arc).Ok:=⟨h.pos,h.nd,h.held,h.first,h.total,hT⟩
theorem Vm.mono (h:Vm w c V p w' A' V'){b:Nat}(hb:∀j,RP c V p j->j≠b)(hw:b<w.heap.size):∀j,RP c V' p j->j≠b:=λj hj e=>by
 rcases h.fp j hj with h5|h5
 ·exact hb j h5 e
 ·omega
theorem z57 (h : RT w c A V p)(hA : A.Ok)(cE : A.size <= 1000) : Oy prog 166 [ptr c 0, I k] w λv w' => v = .tuple #[zc0 (A.QA k).2.1 (A.QA k).2.2, I 0] /\ ∃ V', Vm w c V p w' (A.QA k).1 V' := by
 have ku:=hA.lens cE 1
 have gK:=hA.lens cE 2
 have j4:=hA.lens cE 3
 have Lh:=hA.tg
 have ir:=hA.pos
 have gX:=A.Q5
 have eU:=hA.total
 have fN:=hA.nd
 unfold Arc.all at fN
 rw[List.nodup_append] at fN
 obtain⟨nd1,nd2,nd3⟩:=fN
 rw[List.nodup_append] at nd2
 obtain⟨nd4,nd5,nd6⟩:=nd2
 have aZ:∀{b:Nat},RP c V p b->b<w.heap.size:=h.lt
 rw[show A.li 1=A.often from rfl] at ku
 rw[show A.li 2=A.Ol from rfl] at gK
 rw[show A.li 3=A.Oi from rfl] at j4
 refine NP (e:=[(0,_),(1,_)]) func166 O ntmps166 O O$ qN O$ O5 O O (QU (cs:=[_,_,_]) OL O) ?_
 rintro _ w1 ⟨b4,rfl,fV,ad,aI⟩
 replace aI:O9 w1 b4 [.bool false,.bool false,I 0] 264:=aI
 have n4:∀b,RP c V p b->b≠b4:=λb hb e=>by have:=aZ hb;omega
 have l4:=aI.lt
 have h1:=h.ext ad
 have z1:=ad.size
 refine NZ O$ py$ qN O$ NT O$ qV (Pt zb8 O O)$ NU$ It O$ An$ py$ qN O$ Od O O$ Om zdQ O (z1m h1 (k:=k)) ?_
 rintro _ w1 ⟨rfl,rfl⟩
 by_cases bF:k∈A.once\/k∈A.often
 ·rw[decide_eq_true bF];refine NU$ Oa O$ qN O$ NT O$ OH O$ Og PM O$ NT O$ Om RY O (Pu h1 (j:=0) (k:=k) (by decide)) ?_;rintro _ w2 ⟨rfl,V2,dv⟩;refine qM O$ NT O$ OH O$ Og Qu O$ NT O$ Om RY O (Pu dv.m (j:=1) (k:=k) (by decide)) ?_;rintro _ w3 ⟨rfl,V3,co⟩;refine qM O$ NT O$ OH O$ Og Qu O$ NT O ?_
  have vF:k∉((A.Pw 0 ((A.li 0).erase k)).Pw 1 (((A.Pw 0 ((A.li 0).erase k)).li 1).erase k)).li 1:=by
   show k∉A.often.erase k;exact nd4.not_mem_erase
  have iU:(((A.Pw 0 ((A.li 0).erase k)).Pw 1 (((A.Pw 0 ((A.li 0).erase k)).li 1).erase k)).li 1).length<=8191:=by
   show(A.often.erase k).length<=_;have:=(List.length_erase_le:(A.often.erase k).length<=A.often.length);omega
  refine Om Sz O (Q4 co.m (j:=1) (k:=k) (by decide) vF iU) ?_;rintro _ w4 ⟨rfl,V4,bH⟩;have hr:=(dv.trans co).trans bH;have cy:=hr.k.NX aI (λe=>n4 _ e O);refine qM O$ qV (Rt (cs:=[_,_,_]) OL O UX O O)$ Oe O (P4 (news:=QI true none) OL O O O O cy (by simp)) ?_;rintro w5 ⟨aM,ak⟩;replace aM:O9 w5 b4 [.bool true,.bool false,I 0] 264:=aM;refine NZ O$ OD.qb (e:=[(0,_),(1,_),(4,_),(5,_)]) ?_;refine Oz func166 (.cell RO O OL O (O9.cells (n:=3) aM (news:=[_,_,_]) O) O (.tmp O .nil)) ?_;have eU:A.QA k=({A with once:=A.once.erase k,often:=A.often.erase k++[k]},true,none):=by unfold Arc.QA;rw[if_pos bF]
  rw[eU];exact⟨_,rfl,rfl,V4,hr.m.kp ak (hr.mono n4 l4),λb hb=>(hr.fp b hb).imp id (λe=>by omega),(ad.kp.trans hr.k).NR ak (λj e=> .inl (by omega))⟩
 ·rw [decide_eq_false bF]; have i9 : k ∉ A.once := λe => bF (.inl e); have aK : k ∉ A.often := λe => bF (.inr e); have lX : ¬ A.held k := bF; refine NU (It O ?_); have f0 := Ul h1 (j := 0) (by decide); have f1 := Ul h1 (j := 1) (by decide); rw [show A.li 0 = A.once from rfl] at f0; rw [show A.li 1 = A.often from rfl] at f1
  obtain⟨v0,o0,e0,q0⟩:∃x o,Wr A.once= .tuple #[I x,.bool o]/\(o=true↔A.once≠[]):=by
   cases A.once with
   |nil=>exact⟨_,_,rfl,by simp⟩
   |cons x r=>exact⟨_,_,rfl,by simp⟩
  obtain⟨v1,o1,e1,q1⟩:∃x o,Wr A.often= .tuple #[I x,.bool o]/\(o=true↔A.often≠[]):=by
   cases A.often with
   |nil=>exact⟨_,_,rfl,by simp⟩
   |cons x r=>exact⟨_,_,rfl,by simp⟩
  rw[e0] at f0;rw[e1] at f1;refine An$ qN O$ Od O O$ OH O$ Og PM O$ Om XP O (f0) ?_;rintro _ w1 ⟨rfl,rfl⟩;refine NT O$ qV (QL (v:=I v0) O O)$ qV (QL (v:= .bool o0) O O)$ Oc O$ Oc O$ qM O$ Od O O$ OH O$ Og Qu O$ Om XP O (f1) ?_;rintro _ w1 ⟨rfl,rfl⟩;refine NT O$ qV (QL (v:=I v1) O O)$ qV (QL (v:= .bool o1) O O)$ Oc O$ NZ O$ OD.qb (e:=[(0,_),(1,_),(4,_),(5,_),(7,_),(9,_)]) ?_;refine py$ qN O$ NT O$ Om zeb O (z1E h1 hA cE) ?_;rintro _ w2 ⟨rfl,ae⟩;have h2:=h1.ext ae;have bE:=ae.NX aI;have aJ:=ad.trans ae;have z2:=ae.size;have eV:=h2.cells;have aa:=Ext.Ob w2;obtain⟨a2,c2,e2,-⟩:∃a c,(V 2).1= .slice a A.Ol.length c/\_:=(h.q 2 (by decide)).sl.rd.shape;obtain⟨a3,c3,e3,-⟩:∃a c,(V 3).1= .slice a A.Oi.length c/\_:=(h.q 3 (by decide)).sl.rd.shape;rw[e2,e3] at eV;have mz:=Uk h2 (j:=2) (k:=k) (by decide);have qn:=Uk h2 (j:=3) (k:=k) (by decide);rw[show A.li 2=A.Ol from rfl] at mz;rw[show A.li 3=A.Oi from rfl] at qn;have n4':∀b,RP c V p b->b≠b4:=n4;have l42:b4<w2.heap.size:=by omega
  by_cases cg:A.once.length+A.often.length=A.size
  ·rw [decide_eq_true cg]
   cases I8:o0 with
   | true =>
     subst I8;refine Od O O$ qV ((Rn O))$ PT O O$ NT O$ qS$ qS$ OU O O$ NU$ It O$ An$ py$ NQ$ qN O$ NT O ?_;refine OH O$ Og Q0 O$ NT O$ Om Wu O (mz) ?_;rintro _ w2 ⟨rfl,rfl⟩;by_cases hg:k∈A.Ol
     ·rw[decide_eq_true hg];refine NZ O$ Oa O$ py ?_;have rL:0<A.Ol.length:=List.length_pos_of_mem hg;obtain⟨q,hq⟩:∃q,A.Oi.length / A.Ol.length=q:=⟨_,rfl⟩;have dM:q<=2000:=by rw[<-hq];exact Nat.le_trans (Nat.div_le_self _ _) j4
      have mA:(A.Oi.length:Int) / (A.Ol.length:Int)=(q:Int):=by rw[<-hq];exact(Int.natCast_ediv _ _).symm
      refine Oo [27] (λw'=>Ext w2 w') (by kernel_rfl) O$ OW 0 O O (aa)$ OW 1 O O (aa)$ Ot 2 O (Pq O) aa$ Ot 3 O (OG Rz O) aa$ qL 4 O (λ_ h=>O6 U3 O O (h.NX eV) O) aa$ OW 5 O O (aa)$ Ot 6 O (Pq O) aa$ Ot 7 O (OG Qn O) aa$ qL 8 O (λ_ h=>O6 U3 O O (h.NX eV) O) aa$ OW 9 O O (aa)$ Ot 10 O (Pq O) aa$ Ot 11 O (OG Qo O) aa$ Ot 12 O (OG Pr O) aa ?_;refine qL 13 O (λ_ h=>O6 Qt O O (h.NX eV) O) aa$ Ot 14 O (RJ Qt O) aa$ OW 15 O O (aa)$ Ot 16 O (Pq O) aa$ Ot 17 O (OG Q0 O) aa$ Ot 18 O (OG Pr O) aa$ qL 19 O (λ_ h=>O6 Qt O O (h.NX eV) O) aa$ Ot 20 O (RJ Qt O) aa$ Ot 21 O (UH O O ⟨by omega,by omega,by omega⟩) aa ?_;rw[mA];refine Ot 22 O (yma O O) aa$ Ot 23 O (TK O O (by omega)) aa$ Ot 24 O (ymi O O) aa$ Ot 25 O (Pq O) aa$ Ot 26 O (OG Qn O) aa$ S8 [27]$ qO 27$ OP (i:=27) O O (PV Pb O O O (aa.NX eV) (by simp)) ?_;rintro w5 ⟨aG,ak⟩;refine⟨trivial,?_⟩;obtain⟨T,hT⟩:∃T:Int,min (A.size:Int) (A.target+max 1 (q:Int))=T:=⟨_,rfl⟩;have nR:0<=T/\T<=A.size:=by omega
      rw[hT] at aG
      replace aG:O9 w5 c (acC A.size T V p) 192:=by
       show O9 w5 c [I (A.size:Int),(V 0).1,(V 0).2,(V 1).1,(V 1).2,(V 2).1,(V 2).2,(V 3).1,(V 3).2,I T,.map (some p)] _;rw[e2,e3];exact aG
      have ck:=(h2.ext aa).Yz aG ak;have aU:=hA.Yz nR;obtain⟨A5,bI⟩:∃A5:Arc,{A with target:=T}=A5:=⟨_,rfl⟩;have oC:A5.size=A.size:=by rw[<-bI]
      have nS:¬A5.held k:=by rw[<-bI];exact lX
      have rH:k∈A5.Ol:=by rw[<-bI];exact hg
      rw[bI] at ck aU;refine qE$ OD.qb (e:=[(0,_),(1,_),(4,_),(5,_)]) ?_;refine qN O$ NT O$ Om z0i O (SJ ck.m aU (by omega) false) ?_;rintro _ w6 ⟨rfl,V6,cD⟩;have ay:=Arc.Sj aU false;obtain⟨r6,cu⟩:∃r,A5.room false=r:=⟨_,rfl⟩;rw[cu] at cD ay⊢;obtain⟨A6,g6⟩:=r6;dsimp only at cD ay⊢;have fD:=ay.perm.length_eq;have jo:=A6.Q5;have nT:=A5.Q5;have nU:=aU.total;have aC:=((h2.r aa).trans ck).trans cD;have cd:=aC.k.NX bE (λe=>n4' _ e O);refine Oe O (P4 (news:=QI false g6) OL O O O O cd (by simp)) ?_;rintro w7 ⟨bD,aD⟩;replace bD:O9 w7 b4 [.bool false,.bool g6.isSome,I (g6.getD 0)] 264:=bD;have n46:=aC.mono n4' l42;have fO:=aC.m.kp aD n46;refine qM O$ NT O$ OH O$ Og Q0 O$ NT O$ Om RY O (Pu fO (j:=2) (k:=k) (by decide)) ?_;rintro _ w8 ⟨rfl,V8,fM⟩
      have dC:k∉(A6.Pw 2 ((A6.li 2).erase k)).li 1:=by
       show k∉A6.often;exact λe=>nS ((ay.gone k).1 (.inr e)).1
      refine NU$ NW O$ NT O$ OH O$ Og Qu O$ NT O$ Om Sz O (Q4 fM.m (j:=1) (k:=k) (by decide) dC (by show A6.often.length<=_;omega)) ?_;rintro _ w9 ⟨rfl,V9,i5⟩;have bu:=fM.trans i5;have cb:=bu.k.NX bD (λe=>n46 _ e O);have ep:=cb
      have cw:∀b,RP c V9 p b->RP c V p b\/w2.heap.size<=b:=λb hb=>by
       rcases bu.fp b hb with h5|h5
       ·exact aC.fp b h5
       ·have:=aC.k.size;have:=aD.size;exact .inr (by omega)
      have aL:Kp (λj=>RP c V p j\/j=b4) w2 w9:=((aC.k.Of λj e=> .inl e).trans (aD.Of λj e=> .inr e)).NR bu.k (λj e=>by
       rcases aC.fp j e with h5|h5
       ·exact .inr (.inl h5)
       ·exact .inl h5)
      refine NU$ NS$ qN O$ qV (OE (news:=QI false g6) RO O OL O (O9.cells (n:=3) ep O) O)$ Oe O (P4 (news:=QI false g6) OL O O O O ep (by simp)) ?_;rintro we ⟨cZ,dg⟩;replace cZ:O9 we b4 [.bool false,.bool g6.isSome,I (g6.getD 0)] 264:=cZ;refine NZ O$ Oz func166 (.cell RO O OL O (O9.cells (n:=3) cZ (news:=[_,_,_]) O) O (.tmp O .nil)) ?_
      have n49:∀b,RP c V9 p b->b≠b4:=λb hb e=>by
       rcases cw b hb with h5|h5
       ·exact n4' b h5 e
       ·omega
      have eU:A.QA k=({A6 with Ol:=A6.Ol.erase k,often:=A6.often++[k]},false,g6):=by
       unfold Arc.QA;rw[if_neg bF,if_pos hg];dsimp only;rw[hq,hT,bI,cu]
      rw[eU]
      exact⟨_,rfl,rfl,V9,bu.m.kp dg n49,λb hb=>(cw b hb).imp id (λe=>by omega),(aJ.kp.NR aL (λj e=>by
       rcases e with e| e
       ·exact .inr e
       ·exact .inl (by omega))).NR dg (λj e=> .inl (by omega))⟩
     ·have rM:=hg;rw[decide_eq_false hg];refine NZ O$ It O$ qN O$ NT O$ OH O$ Og Qo O$ NT O$ Om Wu O (qn) ?_;rintro _ w2 ⟨rfl,rfl⟩;by_cases hg:k∈A.Oi
      ·rw[decide_eq_true hg];refine NZ O$ OD.qb (e:=[(0,_),(1,_),(4,_),(5,_),(111,_)]) ?_;refine Oa O$ py ?_;have rL:0<A.Oi.length:=List.length_pos_of_mem hg;obtain⟨q,hq⟩:∃q,A.Ol.length / A.Oi.length=q:=⟨_,rfl⟩;have dM:q<=2000:=by rw[<-hq];exact Nat.le_trans (Nat.div_le_self _ _) gK
       have mA:(A.Ol.length:Int) / (A.Oi.length:Int)=(q:Int):=by rw[<-hq];exact(Int.natCast_ediv _ _).symm
       refine Oo [23] (λw'=>Ext w2 w') (by kernel_rfl) O$ OW 0 O O (aa)$ OW 1 O O (aa)$ Ot 2 O (Pq O) aa$ Ot 3 O (OG Qn O) aa$ qL 4 O (λ_ h=>O6 U3 O O (h.NX eV) O) aa$ OW 5 O O (aa)$ Ot 6 O (Pq O) aa$ Ot 7 O (OG Q0 O) aa$ Ot 8 O (OG Pr O) aa$ qL 9 O (λ_ h=>O6 Qt O O (h.NX eV) O) aa$ Ot 10 O (RJ Qt O) aa$ OW 11 O O (aa)$ Ot 12 O (Pq O) aa ?_;refine Ot 13 O (OG Qo O) aa$ Ot 14 O (OG Pr O) aa$ qL 15 O (λ_ h=>O6 Qt O O (h.NX eV) O) aa$ Ot 16 O (RJ Qt O) aa$ Ot 17 O (UH O O ⟨by omega,by omega,by omega⟩) aa ?_;rw[mA];refine Ot 18 O (yma O O) aa$ Ot 19 O (Ww O O (by omega)) aa$ Ot 20 O (yma O O) aa$ Ot 21 O (Pq O) aa$ Ot 22 O (OG Qn O) aa$ S8 [23]$ qO 23$ OP (i:=23) O O (PV Pb O O O (aa.NX eV) (by simp)) ?_;rintro w5 ⟨aG,ak⟩;refine⟨trivial,?_⟩;obtain⟨T,hT⟩:∃T:Int,max 0 (A.target-max 1 (q:Int))=T:=⟨_,rfl⟩;have nR:0<=T/\T<=A.size:=by omega
       rw[hT] at aG
       replace aG:O9 w5 c (acC A.size T V p) 192:=by
        show O9 w5 c [I (A.size:Int),(V 0).1,(V 0).2,(V 1).1,(V 1).2,(V 2).1,(V 2).2,(V 3).1,(V 3).2,I T,.map (some p)] _;rw[e2,e3];exact aG
       have ck:=(h2.ext aa).Yz aG ak;have aU:=hA.Yz nR;obtain⟨A5,bI⟩:∃A5:Arc,{A with target:=T}=A5:=⟨_,rfl⟩;have oC:A5.size=A.size:=by rw[<-bI]
       have nS:¬A5.held k:=by rw[<-bI];exact lX
       have rH:k∈A5.Oi:=by rw[<-bI];exact hg
       rw[bI] at ck aU;refine qE$ OD.qb (e:=[(0,_),(1,_),(4,_),(5,_)]) ?_;refine qN O$ NT O$ Om z0i O (SJ ck.m aU (by omega) true) ?_;rintro _ w6 ⟨rfl,V6,cD⟩;have ay:=Arc.Sj aU true;obtain⟨r6,cu⟩:∃r,A5.room true=r:=⟨_,rfl⟩;rw[cu] at cD ay⊢;obtain⟨A6,g6⟩:=r6;dsimp only at cD ay⊢;have fD:=ay.perm.length_eq;have jo:=A6.Q5;have nT:=A5.Q5;have nU:=aU.total;have aC:=((h2.r aa).trans ck).trans cD;have cd:=aC.k.NX bE (λe=>n4' _ e O);refine Oe O (P4 (news:=QI false g6) OL O O O O cd (by simp)) ?_;rintro w7 ⟨bD,aD⟩;replace bD:O9 w7 b4 [.bool false,.bool g6.isSome,I (g6.getD 0)] 264:=bD;have n46:=aC.mono n4' l42;have fO:=aC.m.kp aD n46;refine qM O$ NT O$ OH O$ Og Qo O$ NT O$ Om RY O (Pu fO (j:=3) (k:=k) (by decide)) ?_;rintro _ w8 ⟨rfl,V8,fM⟩
       have dC:k∉(A6.Pw 3 ((A6.li 3).erase k)).li 1:=by
        show k∉A6.often;exact λe=>nS ((ay.gone k).1 (.inr e)).1
       refine NU$ NW O$ NT O$ OH O$ Og Qu O$ NT O$ Om Sz O (Q4 fM.m (j:=1) (k:=k) (by decide) dC (by show A6.often.length<=_;omega)) ?_;rintro _ w9 ⟨rfl,V9,i5⟩;have bu:=fM.trans i5;have cb:=bu.k.NX bD (λe=>n46 _ e O);have ep:=cb
       have cw:∀b,RP c V9 p b->RP c V p b\/w2.heap.size<=b:=λb hb=>by
        rcases bu.fp b hb with h5|h5
        ·exact aC.fp b h5
        ·have:=aC.k.size;have:=aD.size;exact .inr (by omega)
       have aL:Kp (λj=>RP c V p j\/j=b4) w2 w9:=((aC.k.Of λj e=> .inl e).trans (aD.Of λj e=> .inr e)).NR bu.k (λj e=>by
        rcases aC.fp j e with h5|h5
        ·exact .inr (.inl h5)
        ·exact .inl h5)
       refine NU$ NS$ qN O$ qV (OE (news:=QI false g6) RO O OL O (O9.cells (n:=3) ep O) O)$ Oe O (P4 (news:=QI false g6) OL O O O O ep (by simp)) ?_;rintro we ⟨cZ,dg⟩;replace cZ:O9 we b4 [.bool false,.bool g6.isSome,I (g6.getD 0)] 264:=cZ;refine NZ O$ Oz func166 (.cell RO O OL O (O9.cells (n:=3) cZ (news:=[_,_,_]) O) O (.tmp O .nil)) ?_
       have n49:∀b,RP c V9 p b->b≠b4:=λb hb e=>by
        rcases cw b hb with h5|h5
        ·exact n4' b h5 e
        ·omega
       have eU:A.QA k=({A6 with Oi:=A6.Oi.erase k,often:=A6.often++[k]},false,g6):=by
        unfold Arc.QA;rw[if_neg bF,if_neg rM,if_pos hg];dsimp only;rw[hq,hT,bI,cu]
       rw[eU]
       exact⟨_,rfl,rfl,V9,bu.m.kp dg n49,λb hb=>(cw b hb).imp id (λe=>by omega),(aJ.kp.NR aL (λj e=>by
        rcases e with e| e
        ·exact .inr e
        ·exact .inl (by omega))).NR dg (λj e=> .inl (by omega))⟩
      ·rw[decide_eq_false hg];refine NZ O$ OD.qb (e:=[(0,_),(1,_),(4,_),(5,_),(111,_)]) ?_;refine It O$ qN O$ NT O$ Om z9W O (z0n h2 hA cE) ?_;rintro _ w6 ⟨rfl,V6,cD⟩;have dB:=Arc.z22 hA;obtain⟨r6,cu⟩:∃r,A.add=r:=⟨_,rfl⟩;rw[cu] at cD dB⊢;obtain⟨A6,g6⟩:=r6;dsimp only at cD dB⊢;obtain⟨fA,-,-⟩:=dB;have jo:=A6.Q5;have aC:=cD;have cd:=aC.k.NX bE (λe=>n4' _ e O);refine Oe O (P4 (news:=QI false g6) OL O O O O cd (by simp)) ?_;rintro w7 ⟨bD,aD⟩;replace bD:O9 w7 b4 [.bool false,.bool g6.isSome,I (g6.getD 0)] 264:=bD;have n46:=aC.mono n4' l42;have fO:=aC.m.kp aD n46
       have dC:k∉A6.li 0:=by
        show k∉A6.once;exact λe=>lX ((fA.gone k).1 (.inl e)).1
       have oP:=fA.Xm;refine NU$ NW O$ NT O$ OH O$ Og PM O$ NT O$ Om Sz O (Q4 fO (j:=0) (k:=k) (by decide) dC (by show A6.once.length<=_;omega)) ?_;rintro _ w9 ⟨rfl,V9,i5⟩;have bu:=i5;have cb:=bu.k.NX bD (λe=>n46 _ e O);have ep:=cb
       have cw:∀b,RP c V9 p b->RP c V p b\/w2.heap.size<=b:=λb hb=>by
        rcases bu.fp b hb with h5|h5
        ·exact aC.fp b h5
        ·have:=aC.k.size;have:=aD.size;exact .inr (by omega)
       have aL:Kp (λj=>RP c V p j\/j=b4) w2 w9:=((aC.k.Of λj e=> .inl e).trans (aD.Of λj e=> .inr e)).NR bu.k (λj e=>by
        rcases aC.fp j e with h5|h5
        ·exact .inr (.inl h5)
        ·exact .inl h5)
       refine NU$ NS$ qN O$ qV (OE (news:=QI false g6) RO O OL O (O9.cells (n:=3) ep O) O)$ Oe O (P4 (news:=QI false g6) OL O O O O ep (by simp)) ?_;rintro we ⟨cZ,dg⟩;replace cZ:O9 we b4 [.bool false,.bool g6.isSome,I (g6.getD 0)] 264:=cZ;refine NZ O$ Oz func166 (.cell RO O OL O (O9.cells (n:=3) cZ (news:=[_,_,_]) O) O (.tmp O .nil)) ?_
       have n49:∀b,RP c V9 p b->b≠b4:=λb hb e=>by
        rcases cw b hb with h5|h5
        ·exact n4' b h5 e
        ·omega
       have eU:A.QA k=({A6 with once:=A6.once++[k]},false,g6):=by
        unfold Arc.QA;rw[if_neg bF,if_neg rM,if_neg hg];dsimp only;rw[cu]
       rw[eU]
       exact⟨_,rfl,rfl,V9,bu.m.kp dg n49,λb hb=>(cw b hb).imp id (λe=>by omega),(aJ.kp.NR aL (λj e=>by
        rcases e with e| e
        ·exact .inr e
        ·exact .inl (by omega))).NR dg (λj e=> .inl (by omega))⟩
   | false =>
     subst I8
     have zf:o1=true:=by
      have e:A.once=[]:=Classical.not_not.1 λe=>by have:=q0.2 e;cases this
      rw[e] at cg;exact q1.2 λe=>by rw[e] at cg;simp at cg;omega
     subst zf;refine Od O O$ qV ((Rn O))$ PT O O$ Od O O$ qV ((Rn O))$ PT O O$ NU$ It O$ An$ py$ NQ$ qN O$ NT O$ OH O ?_;refine Og Q0 O$ NT O$ Om Wu O (mz) ?_;rintro _ w2 ⟨rfl,rfl⟩;by_cases hg:k∈A.Ol
     ·rw[decide_eq_true hg];refine NZ O$ Oa O$ py ?_;have rL:0<A.Ol.length:=List.length_pos_of_mem hg;obtain⟨q,hq⟩:∃q,A.Oi.length / A.Ol.length=q:=⟨_,rfl⟩;have dM:q<=2000:=by rw[<-hq];exact Nat.le_trans (Nat.div_le_self _ _) j4
      have mA:(A.Oi.length:Int) / (A.Ol.length:Int)=(q:Int):=by rw[<-hq];exact(Int.natCast_ediv _ _).symm
      refine Oo [27] (λw'=>Ext w2 w') (by kernel_rfl) O$ OW 0 O O (aa)$ OW 1 O O (aa)$ Ot 2 O (Pq O) aa$ Ot 3 O (OG Rz O) aa$ qL 4 O (λ_ h=>O6 U3 O O (h.NX eV) O) aa$ OW 5 O O (aa)$ Ot 6 O (Pq O) aa$ Ot 7 O (OG Qn O) aa$ qL 8 O (λ_ h=>O6 U3 O O (h.NX eV) O) aa$ OW 9 O O (aa)$ Ot 10 O (Pq O) aa$ Ot 11 O (OG Qo O) aa$ Ot 12 O (OG Pr O) aa ?_;refine qL 13 O (λ_ h=>O6 Qt O O (h.NX eV) O) aa$ Ot 14 O (RJ Qt O) aa$ OW 15 O O (aa)$ Ot 16 O (Pq O) aa$ Ot 17 O (OG Q0 O) aa$ Ot 18 O (OG Pr O) aa$ qL 19 O (λ_ h=>O6 Qt O O (h.NX eV) O) aa$ Ot 20 O (RJ Qt O) aa$ Ot 21 O (UH O O ⟨by omega,by omega,by omega⟩) aa ?_;rw[mA];refine Ot 22 O (yma O O) aa$ Ot 23 O (TK O O (by omega)) aa$ Ot 24 O (ymi O O) aa$ Ot 25 O (Pq O) aa$ Ot 26 O (OG Qn O) aa$ S8 [27]$ qO 27$ OP (i:=27) O O (PV Pb O O O (aa.NX eV) (by simp)) ?_;rintro w5 ⟨aG,ak⟩;refine⟨trivial,?_⟩;obtain⟨T,hT⟩:∃T:Int,min (A.size:Int) (A.target+max 1 (q:Int))=T:=⟨_,rfl⟩;have nR:0<=T/\T<=A.size:=by omega
      rw[hT] at aG
      replace aG:O9 w5 c (acC A.size T V p) 192:=by
       show O9 w5 c [I (A.size:Int),(V 0).1,(V 0).2,(V 1).1,(V 1).2,(V 2).1,(V 2).2,(V 3).1,(V 3).2,I T,.map (some p)] _;rw[e2,e3];exact aG
      have ck:=(h2.ext aa).Yz aG ak;have aU:=hA.Yz nR;obtain⟨A5,bI⟩:∃A5:Arc,{A with target:=T}=A5:=⟨_,rfl⟩;have oC:A5.size=A.size:=by rw[<-bI]
      have nS:¬A5.held k:=by rw[<-bI];exact lX
      have rH:k∈A5.Ol:=by rw[<-bI];exact hg
      rw[bI] at ck aU;refine qE$ OD.qb (e:=[(0,_),(1,_),(4,_),(5,_)]) ?_;refine qN O$ NT O$ Om z0i O (SJ ck.m aU (by omega) false) ?_;rintro _ w6 ⟨rfl,V6,cD⟩;have ay:=Arc.Sj aU false;obtain⟨r6,cu⟩:∃r,A5.room false=r:=⟨_,rfl⟩;rw[cu] at cD ay⊢;obtain⟨A6,g6⟩:=r6;dsimp only at cD ay⊢;have fD:=ay.perm.length_eq;have jo:=A6.Q5;have nT:=A5.Q5;have nU:=aU.total;have aC:=((h2.r aa).trans ck).trans cD;have cd:=aC.k.NX bE (λe=>n4' _ e O);refine Oe O (P4 (news:=QI false g6) OL O O O O cd (by simp)) ?_;rintro w7 ⟨bD,aD⟩;replace bD:O9 w7 b4 [.bool false,.bool g6.isSome,I (g6.getD 0)] 264:=bD;have n46:=aC.mono n4' l42;have fO:=aC.m.kp aD n46;refine qM O$ NT O$ OH O$ Og Q0 O$ NT O$ Om RY O (Pu fO (j:=2) (k:=k) (by decide)) ?_;rintro _ w8 ⟨rfl,V8,fM⟩
      have dC:k∉(A6.Pw 2 ((A6.li 2).erase k)).li 1:=by
       show k∉A6.often;exact λe=>nS ((ay.gone k).1 (.inr e)).1
      refine NU$ NW O$ NT O$ OH O$ Og Qu O$ NT O$ Om Sz O (Q4 fM.m (j:=1) (k:=k) (by decide) dC (by show A6.often.length<=_;omega)) ?_;rintro _ w9 ⟨rfl,V9,i5⟩;have bu:=fM.trans i5;have cb:=bu.k.NX bD (λe=>n46 _ e O);have ep:=cb
      have cw:∀b,RP c V9 p b->RP c V p b\/w2.heap.size<=b:=λb hb=>by
       rcases bu.fp b hb with h5|h5
       ·exact aC.fp b h5
       ·have:=aC.k.size;have:=aD.size;exact .inr (by omega)
      have aL:Kp (λj=>RP c V p j\/j=b4) w2 w9:=((aC.k.Of λj e=> .inl e).trans (aD.Of λj e=> .inr e)).NR bu.k (λj e=>by
       rcases aC.fp j e with h5|h5
       ·exact .inr (.inl h5)
       ·exact .inl h5)
      refine NU$ NS$ qN O$ qV (OE (news:=QI false g6) RO O OL O (O9.cells (n:=3) ep O) O)$ Oe O (P4 (news:=QI false g6) OL O O O O ep (by simp)) ?_;rintro we ⟨cZ,dg⟩;replace cZ:O9 we b4 [.bool false,.bool g6.isSome,I (g6.getD 0)] 264:=cZ;refine NZ O$ Oz func166 (.cell RO O OL O (O9.cells (n:=3) cZ (news:=[_,_,_]) O) O (.tmp O .nil)) ?_
      have n49:∀b,RP c V9 p b->b≠b4:=λb hb e=>by
       rcases cw b hb with h5|h5
       ·exact n4' b h5 e
       ·omega
      have eU:A.QA k=({A6 with Ol:=A6.Ol.erase k,often:=A6.often++[k]},false,g6):=by
       unfold Arc.QA;rw[if_neg bF,if_pos hg];dsimp only;rw[hq,hT,bI,cu]
      rw[eU]
      exact⟨_,rfl,rfl,V9,bu.m.kp dg n49,λb hb=>(cw b hb).imp id (λe=>by omega),(aJ.kp.NR aL (λj e=>by
       rcases e with e| e
       ·exact .inr e
       ·exact .inl (by omega))).NR dg (λj e=> .inl (by omega))⟩
     ·have rM:=hg;rw[decide_eq_false hg];refine NZ O$ It O$ qN O$ NT O$ OH O$ Og Qo O$ NT O$ Om Wu O (qn) ?_;rintro _ w2 ⟨rfl,rfl⟩;by_cases hg:k∈A.Oi
      ·rw[decide_eq_true hg];refine NZ O$ OD.qb (e:=[(0,_),(1,_),(4,_),(5,_),(111,_)]) ?_;refine Oa O$ py ?_;have rL:0<A.Oi.length:=List.length_pos_of_mem hg;obtain⟨q,hq⟩:∃q,A.Ol.length / A.Oi.length=q:=⟨_,rfl⟩;have dM:q<=2000:=by rw[<-hq];exact Nat.le_trans (Nat.div_le_self _ _) gK
       have mA:(A.Ol.length:Int) / (A.Oi.length:Int)=(q:Int):=by rw[<-hq];exact(Int.natCast_ediv _ _).symm
       refine Oo [23] (λw'=>Ext w2 w') (by kernel_rfl) O$ OW 0 O O (aa)$ OW 1 O O (aa)$ Ot 2 O (Pq O) aa$ Ot 3 O (OG Qn O) aa$ qL 4 O (λ_ h=>O6 U3 O O (h.NX eV) O) aa$ OW 5 O O (aa)$ Ot 6 O (Pq O) aa$ Ot 7 O (OG Q0 O) aa$ Ot 8 O (OG Pr O) aa$ qL 9 O (λ_ h=>O6 Qt O O (h.NX eV) O) aa$ Ot 10 O (RJ Qt O) aa$ OW 11 O O (aa)$ Ot 12 O (Pq O) aa ?_;refine Ot 13 O (OG Qo O) aa$ Ot 14 O (OG Pr O) aa$ qL 15 O (λ_ h=>O6 Qt O O (h.NX eV) O) aa$ Ot 16 O (RJ Qt O) aa$ Ot 17 O (UH O O ⟨by omega,by omega,by omega⟩) aa ?_;rw[mA];refine Ot 18 O (yma O O) aa$ Ot 19 O (Ww O O (by omega)) aa$ Ot 20 O (yma O O) aa$ Ot 21 O (Pq O) aa$ Ot 22 O (OG Qn O) aa$ S8 [23]$ qO 23$ OP (i:=23) O O (PV Pb O O O (aa.NX eV) (by simp)) ?_;rintro w5 ⟨aG,ak⟩;refine⟨trivial,?_⟩;obtain⟨T,hT⟩:∃T:Int,max 0 (A.target-max 1 (q:Int))=T:=⟨_,rfl⟩;have nR:0<=T/\T<=A.size:=by omega
       rw[hT] at aG
       replace aG:O9 w5 c (acC A.size T V p) 192:=by
        show O9 w5 c [I (A.size:Int),(V 0).1,(V 0).2,(V 1).1,(V 1).2,(V 2).1,(V 2).2,(V 3).1,(V 3).2,I T,.map (some p)] _;rw[e2,e3];exact aG
       have ck:=(h2.ext aa).Yz aG ak;have aU:=hA.Yz nR;obtain⟨A5,bI⟩:∃A5:Arc,{A with target:=T}=A5:=⟨_,rfl⟩;have oC:A5.size=A.size:=by rw[<-bI]
       have nS:¬A5.held k:=by rw[<-bI];exact lX
       have rH:k∈A5.Oi:=by rw[<-bI];exact hg
       rw[bI] at ck aU;refine qE$ OD.qb (e:=[(0,_),(1,_),(4,_),(5,_)]) ?_;refine qN O$ NT O$ Om z0i O (SJ ck.m aU (by omega) true) ?_;rintro _ w6 ⟨rfl,V6,cD⟩;have ay:=Arc.Sj aU true;obtain⟨r6,cu⟩:∃r,A5.room true=r:=⟨_,rfl⟩;rw[cu] at cD ay⊢;obtain⟨A6,g6⟩:=r6;dsimp only at cD ay⊢;have fD:=ay.perm.length_eq;have jo:=A6.Q5;have nT:=A5.Q5;have nU:=aU.total;have aC:=((h2.r aa).trans ck).trans cD;have cd:=aC.k.NX bE (λe=>n4' _ e O);refine Oe O (P4 (news:=QI false g6) OL O O O O cd (by simp)) ?_;rintro w7 ⟨bD,aD⟩;replace bD:O9 w7 b4 [.bool false,.bool g6.isSome,I (g6.getD 0)] 264:=bD;have n46:=aC.mono n4' l42;have fO:=aC.m.kp aD n46;refine qM O$ NT O$ OH O$ Og Qo O$ NT O$ Om RY O (Pu fO (j:=3) (k:=k) (by decide)) ?_;rintro _ w8 ⟨rfl,V8,fM⟩
       have dC:k∉(A6.Pw 3 ((A6.li 3).erase k)).li 1:=by
        show k∉A6.often;exact λe=>nS ((ay.gone k).1 (.inr e)).1
       refine NU$ NW O$ NT O$ OH O$ Og Qu O$ NT O$ Om Sz O (Q4 fM.m (j:=1) (k:=k) (by decide) dC (by show A6.often.length<=_;omega)) ?_;rintro _ w9 ⟨rfl,V9,i5⟩;have bu:=fM.trans i5;have cb:=bu.k.NX bD (λe=>n46 _ e O);have ep:=cb
       have cw:∀b,RP c V9 p b->RP c V p b\/w2.heap.size<=b:=λb hb=>by
        rcases bu.fp b hb with h5|h5
        ·exact aC.fp b h5
        ·have:=aC.k.size;have:=aD.size;exact .inr (by omega)
       have aL:Kp (λj=>RP c V p j\/j=b4) w2 w9:=((aC.k.Of λj e=> .inl e).trans (aD.Of λj e=> .inr e)).NR bu.k (λj e=>by
        rcases aC.fp j e with h5|h5
        ·exact .inr (.inl h5)
        ·exact .inl h5)
       refine NU$ NS$ qN O$ qV (OE (news:=QI false g6) RO O OL O (O9.cells (n:=3) ep O) O)$ Oe O (P4 (news:=QI false g6) OL O O O O ep (by simp)) ?_;rintro we ⟨cZ,dg⟩;replace cZ:O9 we b4 [.bool false,.bool g6.isSome,I (g6.getD 0)] 264:=cZ;refine NZ O$ Oz func166 (.cell RO O OL O (O9.cells (n:=3) cZ (news:=[_,_,_]) O) O (.tmp O .nil)) ?_
       have n49:∀b,RP c V9 p b->b≠b4:=λb hb e=>by
        rcases cw b hb with h5|h5
        ·exact n4' b h5 e
        ·omega
       have eU:A.QA k=({A6 with Oi:=A6.Oi.erase k,often:=A6.often++[k]},false,g6):=by
        unfold Arc.QA;rw[if_neg bF,if_neg rM,if_pos hg];dsimp only;rw[hq,hT,bI,cu]
       rw[eU]
       exact⟨_,rfl,rfl,V9,bu.m.kp dg n49,λb hb=>(cw b hb).imp id (λe=>by omega),(aJ.kp.NR aL (λj e=>by
        rcases e with e| e
        ·exact .inr e
        ·exact .inl (by omega))).NR dg (λj e=> .inl (by omega))⟩
      ·rw[decide_eq_false hg];refine NZ O$ OD.qb (e:=[(0,_),(1,_),(4,_),(5,_),(111,_)]) ?_;refine It O$ qN O$ NT O$ Om z9W O (z0n h2 hA cE) ?_;rintro _ w6 ⟨rfl,V6,cD⟩;have dB:=Arc.z22 hA;obtain⟨r6,cu⟩:∃r,A.add=r:=⟨_,rfl⟩;rw[cu] at cD dB⊢;obtain⟨A6,g6⟩:=r6;dsimp only at cD dB⊢;obtain⟨fA,-,-⟩:=dB;have jo:=A6.Q5;have aC:=cD;have cd:=aC.k.NX bE (λe=>n4' _ e O);refine Oe O (P4 (news:=QI false g6) OL O O O O cd (by simp)) ?_;rintro w7 ⟨bD,aD⟩;replace bD:O9 w7 b4 [.bool false,.bool g6.isSome,I (g6.getD 0)] 264:=bD;have n46:=aC.mono n4' l42;have fO:=aC.m.kp aD n46
       have dC:k∉A6.li 0:=by
        show k∉A6.once;exact λe=>lX ((fA.gone k).1 (.inl e)).1
       have oP:=fA.Xm;refine NU$ NW O$ NT O$ OH O$ Og PM O$ NT O$ Om Sz O (Q4 fO (j:=0) (k:=k) (by decide) dC (by show A6.once.length<=_;omega)) ?_;rintro _ w9 ⟨rfl,V9,i5⟩;have bu:=i5;have cb:=bu.k.NX bD (λe=>n46 _ e O);have ep:=cb
       have cw:∀b,RP c V9 p b->RP c V p b\/w2.heap.size<=b:=λb hb=>by
        rcases bu.fp b hb with h5|h5
        ·exact aC.fp b h5
        ·have:=aC.k.size;have:=aD.size;exact .inr (by omega)
       have aL:Kp (λj=>RP c V p j\/j=b4) w2 w9:=((aC.k.Of λj e=> .inl e).trans (aD.Of λj e=> .inr e)).NR bu.k (λj e=>by
        rcases aC.fp j e with h5|h5
        ·exact .inr (.inl h5)
        ·exact .inl h5)
       refine NU$ NS$ qN O$ qV (OE (news:=QI false g6) RO O OL O (O9.cells (n:=3) ep O) O)$ Oe O (P4 (news:=QI false g6) OL O O O O ep (by simp)) ?_;rintro we ⟨cZ,dg⟩;replace cZ:O9 we b4 [.bool false,.bool g6.isSome,I (g6.getD 0)] 264:=cZ;refine NZ O$ Oz func166 (.cell RO O OL O (O9.cells (n:=3) cZ (news:=[_,_,_]) O) O (.tmp O .nil)) ?_
       have n49:∀b,RP c V9 p b->b≠b4:=λb hb e=>by
        rcases cw b hb with h5|h5
        ·exact n4' b h5 e
        ·omega
       have eU:A.QA k=({A6 with once:=A6.once++[k]},false,g6):=by
        unfold Arc.QA;rw[if_neg bF,if_neg rM,if_neg hg];dsimp only;rw[cu]
       rw[eU]
       exact⟨_,rfl,rfl,V9,bu.m.kp dg n49,λb hb=>(cw b hb).imp id (λe=>by omega),(aJ.kp.NR aL (λj e=>by
        rcases e with e| e
        ·exact .inr e
        ·exact .inl (by omega))).NR dg (λj e=> .inl (by omega))⟩
  ·rw [decide_eq_false cg]; refine NT O (qS (qS (OU O O (NT O (qS (qS (OU O O (NU (It O (An (py (NQ (qN O ?_))))))))))))); refine NT O (OH O (Og Q0 O (NT O (Om Wu O (mz) ?_)))); rintro _ w2 ⟨rfl, rfl⟩; by_cases hg : k ∈ A.Ol
   ·rw[decide_eq_true hg];refine NZ O$ Oa O$ py ?_;have rL:0<A.Ol.length:=List.length_pos_of_mem hg;obtain⟨q,hq⟩:∃q,A.Oi.length / A.Ol.length=q:=⟨_,rfl⟩;have dM:q<=2000:=by rw[<-hq];exact Nat.le_trans (Nat.div_le_self _ _) j4
    have mA:(A.Oi.length:Int) / (A.Ol.length:Int)=(q:Int):=by rw[<-hq];exact(Int.natCast_ediv _ _).symm
    refine Oo [27] (λw'=>Ext w2 w') (by kernel_rfl) O$ OW 0 O O (aa)$ OW 1 O O (aa)$ Ot 2 O (Pq O) aa$ Ot 3 O (OG Rz O) aa$ qL 4 O (λ_ h=>O6 U3 O O (h.NX eV) O) aa$ OW 5 O O (aa)$ Ot 6 O (Pq O) aa$ Ot 7 O (OG Qn O) aa$ qL 8 O (λ_ h=>O6 U3 O O (h.NX eV) O) aa$ OW 9 O O (aa)$ Ot 10 O (Pq O) aa$ Ot 11 O (OG Qo O) aa$ Ot 12 O (OG Pr O) aa ?_;refine qL 13 O (λ_ h=>O6 Qt O O (h.NX eV) O) aa$ Ot 14 O (RJ Qt O) aa$ OW 15 O O (aa)$ Ot 16 O (Pq O) aa$ Ot 17 O (OG Q0 O) aa$ Ot 18 O (OG Pr O) aa$ qL 19 O (λ_ h=>O6 Qt O O (h.NX eV) O) aa$ Ot 20 O (RJ Qt O) aa$ Ot 21 O (UH O O ⟨by omega,by omega,by omega⟩) aa ?_;rw[mA];refine Ot 22 O (yma O O) aa$ Ot 23 O (TK O O (by omega)) aa$ Ot 24 O (ymi O O) aa$ Ot 25 O (Pq O) aa$ Ot 26 O (OG Qn O) aa$ S8 [27]$ qO 27$ OP (i:=27) O O (PV Pb O O O (aa.NX eV) (by simp)) ?_;rintro w5 ⟨aG,ak⟩;refine⟨trivial,?_⟩;obtain⟨T,hT⟩:∃T:Int,min (A.size:Int) (A.target+max 1 (q:Int))=T:=⟨_,rfl⟩;have nR:0<=T/\T<=A.size:=by omega
    rw[hT] at aG
    replace aG:O9 w5 c (acC A.size T V p) 192:=by
     show O9 w5 c [I (A.size:Int),(V 0).1,(V 0).2,(V 1).1,(V 1).2,(V 2).1,(V 2).2,(V 3).1,(V 3).2,I T,.map (some p)] _;rw[e2,e3];exact aG
    have ck:=(h2.ext aa).Yz aG ak;have aU:=hA.Yz nR;obtain⟨A5,bI⟩:∃A5:Arc,{A with target:=T}=A5:=⟨_,rfl⟩;have oC:A5.size=A.size:=by rw[<-bI]
    have nS:¬A5.held k:=by rw[<-bI];exact lX
    have rH:k∈A5.Ol:=by rw[<-bI];exact hg
    rw[bI] at ck aU;refine qE$ OD.qb (e:=[(0,_),(1,_),(4,_),(5,_)]) ?_;refine qN O$ NT O$ Om z0i O (SJ ck.m aU (by omega) false) ?_;rintro _ w6 ⟨rfl,V6,cD⟩;have ay:=Arc.Sj aU false;obtain⟨r6,cu⟩:∃r,A5.room false=r:=⟨_,rfl⟩;rw[cu] at cD ay⊢;obtain⟨A6,g6⟩:=r6;dsimp only at cD ay⊢;have fD:=ay.perm.length_eq;have jo:=A6.Q5;have nT:=A5.Q5;have nU:=aU.total;have aC:=((h2.r aa).trans ck).trans cD;have cd:=aC.k.NX bE (λe=>n4' _ e O);refine Oe O (P4 (news:=QI false g6) OL O O O O cd (by simp)) ?_;rintro w7 ⟨bD,aD⟩;replace bD:O9 w7 b4 [.bool false,.bool g6.isSome,I (g6.getD 0)] 264:=bD;have n46:=aC.mono n4' l42;have fO:=aC.m.kp aD n46;refine qM O$ NT O$ OH O$ Og Q0 O$ NT O$ Om RY O (Pu fO (j:=2) (k:=k) (by decide)) ?_;rintro _ w8 ⟨rfl,V8,fM⟩
    have dC:k∉(A6.Pw 2 ((A6.li 2).erase k)).li 1:=by
     show k∉A6.often;exact λe=>nS ((ay.gone k).1 (.inr e)).1
    refine NU$ NW O$ NT O$ OH O$ Og Qu O$ NT O$ Om Sz O (Q4 fM.m (j:=1) (k:=k) (by decide) dC (by show A6.often.length<=_;omega)) ?_;rintro _ w9 ⟨rfl,V9,i5⟩;have bu:=fM.trans i5;have cb:=bu.k.NX bD (λe=>n46 _ e O);have ep:=cb
    have cw:∀b,RP c V9 p b->RP c V p b\/w2.heap.size<=b:=λb hb=>by
     rcases bu.fp b hb with h5|h5
     ·exact aC.fp b h5
     ·have:=aC.k.size;have:=aD.size;exact .inr (by omega)
    have aL:Kp (λj=>RP c V p j\/j=b4) w2 w9:=((aC.k.Of λj e=> .inl e).trans (aD.Of λj e=> .inr e)).NR bu.k (λj e=>by
     rcases aC.fp j e with h5|h5
     ·exact .inr (.inl h5)
     ·exact .inl h5)
    refine NU$ NS$ qN O$ qV (OE (news:=QI false g6) RO O OL O (O9.cells (n:=3) ep O) O)$ Oe O (P4 (news:=QI false g6) OL O O O O ep (by simp)) ?_;rintro we ⟨cZ,dg⟩;replace cZ:O9 we b4 [.bool false,.bool g6.isSome,I (g6.getD 0)] 264:=cZ;refine NZ O$ Oz func166 (.cell RO O OL O (O9.cells (n:=3) cZ (news:=[_,_,_]) O) O (.tmp O .nil)) ?_
    have n49:∀b,RP c V9 p b->b≠b4:=λb hb e=>by
     rcases cw b hb with h5|h5
     ·exact n4' b h5 e
     ·omega
    have eU:A.QA k=({A6 with Ol:=A6.Ol.erase k,often:=A6.often++[k]},false,g6):=by
     unfold Arc.QA;rw[if_neg bF,if_pos hg];dsimp only;rw[hq,hT,bI,cu]
    rw[eU]
    exact⟨_,rfl,rfl,V9,bu.m.kp dg n49,λb hb=>(cw b hb).imp id (λe=>by omega),(aJ.kp.NR aL (λj e=>by
     rcases e with e| e
     ·exact .inr e
     ·exact .inl (by omega))).NR dg (λj e=> .inl (by omega))⟩
   ·have rM:=hg;rw[decide_eq_false hg];refine NZ O$ It O$ qN O$ NT O$ OH O$ Og Qo O$ NT O$ Om Wu O (qn) ?_;rintro _ w2 ⟨rfl,rfl⟩;by_cases hg:k∈A.Oi
    ·rw[decide_eq_true hg];refine NZ O$ OD.qb (e:=[(0,_),(1,_),(4,_),(5,_),(111,_)]) ?_;refine Oa O$ py ?_;have rL:0<A.Oi.length:=List.length_pos_of_mem hg;obtain⟨q,hq⟩:∃q,A.Ol.length / A.Oi.length=q:=⟨_,rfl⟩;have dM:q<=2000:=by rw[<-hq];exact Nat.le_trans (Nat.div_le_self _ _) gK
     have mA:(A.Ol.length:Int) / (A.Oi.length:Int)=(q:Int):=by rw[<-hq];exact(Int.natCast_ediv _ _).symm
     refine Oo [23] (λw'=>Ext w2 w') (by kernel_rfl) O$ OW 0 O O (aa)$ OW 1 O O (aa)$ Ot 2 O (Pq O) aa$ Ot 3 O (OG Qn O) aa$ qL 4 O (λ_ h=>O6 U3 O O (h.NX eV) O) aa$ OW 5 O O (aa)$ Ot 6 O (Pq O) aa$ Ot 7 O (OG Q0 O) aa$ Ot 8 O (OG Pr O) aa$ qL 9 O (λ_ h=>O6 Qt O O (h.NX eV) O) aa$ Ot 10 O (RJ Qt O) aa$ OW 11 O O (aa)$ Ot 12 O (Pq O) aa ?_;refine Ot 13 O (OG Qo O) aa$ Ot 14 O (OG Pr O) aa$ qL 15 O (λ_ h=>O6 Qt O O (h.NX eV) O) aa$ Ot 16 O (RJ Qt O) aa$ Ot 17 O (UH O O ⟨by omega,by omega,by omega⟩) aa ?_;rw[mA];refine Ot 18 O (yma O O) aa$ Ot 19 O (Ww O O (by omega)) aa$ Ot 20 O (yma O O) aa$ Ot 21 O (Pq O) aa$ Ot 22 O (OG Qn O) aa$ S8 [23]$ qO 23$ OP (i:=23) O O (PV Pb O O O (aa.NX eV) (by simp)) ?_;rintro w5 ⟨aG,ak⟩;refine⟨trivial,?_⟩;obtain⟨T,hT⟩:∃T:Int,max 0 (A.target-max 1 (q:Int))=T:=⟨_,rfl⟩;have nR:0<=T/\T<=A.size:=by omega
     rw[hT] at aG
     replace aG:O9 w5 c (acC A.size T V p) 192:=by
      show O9 w5 c [I (A.size:Int),(V 0).1,(V 0).2,(V 1).1,(V 1).2,(V 2).1,(V 2).2,(V 3).1,(V 3).2,I T,.map (some p)] _;rw[e2,e3];exact aG
     have ck:=(h2.ext aa).Yz aG ak;have aU:=hA.Yz nR;obtain⟨A5,bI⟩:∃A5:Arc,{A with target:=T}=A5:=⟨_,rfl⟩;have oC:A5.size=A.size:=by rw[<-bI]
     have nS:¬A5.held k:=by rw[<-bI];exact lX
     have rH:k∈A5.Oi:=by rw[<-bI];exact hg
     rw[bI] at ck aU;refine qE$ OD.qb (e:=[(0,_),(1,_),(4,_),(5,_)]) ?_;refine qN O$ NT O$ Om z0i O (SJ ck.m aU (by omega) true) ?_;rintro _ w6 ⟨rfl,V6,cD⟩;have ay:=Arc.Sj aU true;obtain⟨r6,cu⟩:∃r,A5.room true=r:=⟨_,rfl⟩;rw[cu] at cD ay⊢;obtain⟨A6,g6⟩:=r6;dsimp only at cD ay⊢;have fD:=ay.perm.length_eq;have jo:=A6.Q5;have nT:=A5.Q5;have nU:=aU.total;have aC:=((h2.r aa).trans ck).trans cD;have cd:=aC.k.NX bE (λe=>n4' _ e O);refine Oe O (P4 (news:=QI false g6) OL O O O O cd (by simp)) ?_;rintro w7 ⟨bD,aD⟩;replace bD:O9 w7 b4 [.bool false,.bool g6.isSome,I (g6.getD 0)] 264:=bD;have n46:=aC.mono n4' l42;have fO:=aC.m.kp aD n46;refine qM O$ NT O$ OH O$ Og Qo O$ NT O$ Om RY O (Pu fO (j:=3) (k:=k) (by decide)) ?_;rintro _ w8 ⟨rfl,V8,fM⟩
     have dC:k∉(A6.Pw 3 ((A6.li 3).erase k)).li 1:=by
      show k∉A6.often;exact λe=>nS ((ay.gone k).1 (.inr e)).1
     refine NU$ NW O$ NT O$ OH O$ Og Qu O$ NT O$ Om Sz O (Q4 fM.m (j:=1) (k:=k) (by decide) dC (by show A6.often.length<=_;omega)) ?_;rintro _ w9 ⟨rfl,V9,i5⟩;have bu:=fM.trans i5;have cb:=bu.k.NX bD (λe=>n46 _ e O);have ep:=cb
     have cw:∀b,RP c V9 p b->RP c V p b\/w2.heap.size<=b:=λb hb=>by
      rcases bu.fp b hb with h5|h5
      ·exact aC.fp b h5
      ·have:=aC.k.size;have:=aD.size;exact .inr (by omega)
     have aL:Kp (λj=>RP c V p j\/j=b4) w2 w9:=((aC.k.Of λj e=> .inl e).trans (aD.Of λj e=> .inr e)).NR bu.k (λj e=>by
      rcases aC.fp j e with h5|h5
      ·exact .inr (.inl h5)
      ·exact .inl h5)
     refine NU$ NS$ qN O$ qV (OE (news:=QI false g6) RO O OL O (O9.cells (n:=3) ep O) O)$ Oe O (P4 (news:=QI false g6) OL O O O O ep (by simp)) ?_;rintro we ⟨cZ,dg⟩;replace cZ:O9 we b4 [.bool false,.bool g6.isSome,I (g6.getD 0)] 264:=cZ;refine NZ O$ Oz func166 (.cell RO O OL O (O9.cells (n:=3) cZ (news:=[_,_,_]) O) O (.tmp O .nil)) ?_
     have n49:∀b,RP c V9 p b->b≠b4:=λb hb e=>by
      rcases cw b hb with h5|h5
      ·exact n4' b h5 e
      ·omega
     have eU:A.QA k=({A6 with Oi:=A6.Oi.erase k,often:=A6.often++[k]},false,g6):=by
      unfold Arc.QA;rw[if_neg bF,if_neg rM,if_pos hg];dsimp only;rw[hq,hT,bI,cu]
     rw[eU]
     exact⟨_,rfl,rfl,V9,bu.m.kp dg n49,λb hb=>(cw b hb).imp id (λe=>by omega),(aJ.kp.NR aL (λj e=>by
      rcases e with e| e
      ·exact .inr e
      ·exact .inl (by omega))).NR dg (λj e=> .inl (by omega))⟩
    ·rw[decide_eq_false hg];refine NZ O$ OD.qb (e:=[(0,_),(1,_),(4,_),(5,_),(111,_)]) ?_;refine It O$ qN O$ NT O$ Om z9W O (z0n h2 hA cE) ?_;rintro _ w6 ⟨rfl,V6,cD⟩;have dB:=Arc.z22 hA;obtain⟨r6,cu⟩:∃r,A.add=r:=⟨_,rfl⟩;rw[cu] at cD dB⊢;obtain⟨A6,g6⟩:=r6;dsimp only at cD dB⊢;obtain⟨fA,-,-⟩:=dB;have jo:=A6.Q5;have aC:=cD;have cd:=aC.k.NX bE (λe=>n4' _ e O);refine Oe O (P4 (news:=QI false g6) OL O O O O cd (by simp)) ?_;rintro w7 ⟨bD,aD⟩;replace bD:O9 w7 b4 [.bool false,.bool g6.isSome,I (g6.getD 0)] 264:=bD;have n46:=aC.mono n4' l42;have fO:=aC.m.kp aD n46
     have dC:k∉A6.li 0:=by
      show k∉A6.once;exact λe=>lX ((fA.gone k).1 (.inl e)).1
     have oP:=fA.Xm;refine NU$ NW O$ NT O$ OH O$ Og PM O$ NT O$ Om Sz O (Q4 fO (j:=0) (k:=k) (by decide) dC (by show A6.once.length<=_;omega)) ?_;rintro _ w9 ⟨rfl,V9,i5⟩;have bu:=i5;have cb:=bu.k.NX bD (λe=>n46 _ e O);have ep:=cb
     have cw:∀b,RP c V9 p b->RP c V p b\/w2.heap.size<=b:=λb hb=>by
      rcases bu.fp b hb with h5|h5
      ·exact aC.fp b h5
      ·have:=aC.k.size;have:=aD.size;exact .inr (by omega)
     have aL:Kp (λj=>RP c V p j\/j=b4) w2 w9:=((aC.k.Of λj e=> .inl e).trans (aD.Of λj e=> .inr e)).NR bu.k (λj e=>by
      rcases aC.fp j e with h5|h5
      ·exact .inr (.inl h5)
      ·exact .inl h5)
     refine NU$ NS$ qN O$ qV (OE (news:=QI false g6) RO O OL O (O9.cells (n:=3) ep O) O)$ Oe O (P4 (news:=QI false g6) OL O O O O ep (by simp)) ?_;rintro we ⟨cZ,dg⟩;replace cZ:O9 we b4 [.bool false,.bool g6.isSome,I (g6.getD 0)] 264:=cZ;refine NZ O$ Oz func166 (.cell RO O OL O (O9.cells (n:=3) cZ (news:=[_,_,_]) O) O (.tmp O .nil)) ?_
     have n49:∀b,RP c V9 p b->b≠b4:=λb hb e=>by
      rcases cw b hb with h5|h5
      ·exact n4' b h5 e
      ·omega
     have eU:A.QA k=({A6 with once:=A6.once++[k]},false,g6):=by
      unfold Arc.QA;rw[if_neg bF,if_neg rM,if_neg hg];dsimp only;rw[cu]
     rw[eU]
     exact⟨_,rfl,rfl,V9,bu.m.kp dg n49,λb hb=>(cw b hb).imp id (λe=>by omega),(aJ.kp.NR aL (λj e=>by
      rcases e with e| e
      ·exact .inr e
      ·exact .inl (by omega))).NR dg (λj e=> .inl (by omega))⟩
end
def Arc.z77 (A:Arc)(k:Int):Nat->Arc
 |0=>A
 |i+1=>(A.z77 k i).Pw i (((A.z77 k i).li i).erase k)
def Arc.drop (A:Arc)(k:Int):Arc:=A.z77 k 4
theorem Arc.drop_eq (A:Arc)(k:Int):A.drop k={A with once:=A.once.erase k,often:=A.often.erase k,Ol:=A.Ol.erase k,Oi:=A.Oi.erase k}:=rfl
theorem Arc.Ok.drop {A:Arc}(h:A.Ok)(k:Int):(A.drop k).Ok:=by
 rw[Arc.drop_eq]
 have hs:(A.once.erase k++(A.often.erase k++(A.Ol.erase k++A.Oi.erase k))).Sublist A.all:=List.erase_sublist.append (List.erase_sublist.append (List.erase_sublist.append List.erase_sublist))
 have a1:(A.once.erase k).length<=A.once.length:=List.length_erase_le
 have a2:(A.often.erase k).length<=A.often.length:=List.length_erase_le
 have a3:(A.Ol.erase k).length<=A.Ol.length:=List.length_erase_le
 have h1:=h.held
 have h2:=h.first
 exact⟨h.pos,h.nd.sublist hs,by dsimp only;omega,by dsimp only;omega,Nat.le_trans hs.length_le h.total,h.tg⟩
theorem Arc.z8o {A:Arc}(h:A.Ok)(k x:Int):(A.drop k).held x↔A.held x/\x≠k:=by
 have fN:=h.nd
 unfold Arc.all at fN
 rw[List.nodup_append] at fN
 obtain⟨nd1,nd2,-⟩:=fN
 rw[List.nodup_append] at nd2
 obtain⟨nd4,-,-⟩:=nd2
 rw[Arc.drop_eq]
 unfold Arc.held
 dsimp only
 rw[nd1.mem_erase_iff,nd4.mem_erase_iff]
 constructor
 ·rintro(⟨a,b⟩|⟨a,b⟩)
  ·exact⟨.inl b,a⟩
  ·exact⟨.inr b,a⟩
 ·rintro⟨b|b,a⟩
  ·exact .inl ⟨a,b⟩
  ·exact .inr ⟨a,b⟩
section
variable {w w' w2:World}{c p:Nat}{A A' A2:Arc}{V V' V2:Nat->Value×Value}{S:Nat->Prop}{k:Int}
theorem z7F (h:RT w c A V p):Oy prog 155 [ptr c 0,I k] w λv w'=>(∃z,v=I z)/\∃V',Vm w c V p w' (A.drop k) V':=by
 have hB:=h.cells
 have mz:=Uk h (j:=2) (k:=k) (by decide)
 have qn:=Uk h (j:=3) (k:=k) (by decide)
 rw[show A.li 2=A.Ol from rfl] at mz
 rw[show A.li 3=A.Oi from rfl] at qn
 refine NP (e:=[(0,_),(1,_)]) func155 O ntmps155 O O$ qN O$ NZ O$ py$ OX (λe' w'=>e'=[(0,ptr c 0),(1,I k)]/\w'=w) ?ek$ λek=>?iP
 case ek=>
  rintro e' w1 ⟨rfl,rfl⟩;have hg:=Ext.Ob w1;refine py$ py$ Qj (λw'=>Ext w1 w') O$ Oj 0 O O (hg)$ O0 1 O (Pq O) hg$ O0 2 O (OG PM O) hg$ Oj 3 O O (hg)$ O0 4 O (Pq O) hg$ O0 5 O (OG Qu O) hg$ Oj 6 O O (hg)$ O0 7 O (Pq O) hg$ O0 8 O (OG Q0 O) hg$ Oj 9 O O (hg)$ O0 10 O (Pq O) hg ?_;refine O0 11 O (OG Qo O) hg$ Oj 14 O O (hg)$ qO 12$ R3 (i:=12) O O O (Vl (cs:=[_,_,_,_]) (zs:=[Value.pointer none,Value.pointer none,Value.pointer none,Value.pointer none]) zeY zdG O (by kernel_rfl) O O O (by decide)) ?_;rintro _ w2 ⟨b51,rfl,⟨ED,ae,Lk⟩,zk⟩;refine⟨hg.trans ae,?_⟩;have aB:=hg.trans ae;refine O0 13 O (RJ zeY O) (hg.trans ae)$ qE$ NQ ?_;have aZ:∀{b:Nat},RP c V p b->b<w1.heap.size:=h.lt;have lb:=zk.lt (g:=b51) O;have z12:=hg.size;have EE:=zk.rd;refine Qm (α:=Nat×(Nat->Value×Value)) ((0,V)) (λx=>[(1,I k),(51,.slice (some ⟨b51,0,none⟩) 4 4),(52,I 4),(53,I (x.1:Int))]) (λx w'=>x.1<=4/\Vm w2 c V p w' (A.z77 k x.1) x.2/\Rd w' (.slice (some ⟨b51,0,none⟩) 4 4) 1 4 [ptr c 1,ptr c 3,ptr c 5,ptr c 7]) (λx=>4-x.1) ?hI ?hround
  case hI=>exact⟨Nat.zero_le _,(h.ext aB).r (Ext.refl w2),EE⟩
  case hround=>
   rintro⟨i,Vi⟩ w3 ⟨hi,m6,EF⟩ ih;dsimp only at hi m6 EF ih⊢
   try dsimp only
   refine qN O$ Py O O$ NU$ py$ O8 O (λh0=>?_)$ λh0=>?_
   ·have oG:i<4:=by omega
    have hx:([ptr c 1,ptr c 3,ptr c 5,ptr c 7]:List Value)[i]? =some (ptr c (1+2*i)):=by
     match i,oG with
     |0,_|1,_|2,_|3,_=>rfl
    refine An$ py$ NQ$ qN O$ qV (P7 zeY zdG O O (by omega))$ qV (OC zkf O O (Ps EF hx))$ NZ O$ NW O$ Od O O$ Om RY O (Pu m6.m (j:=i) (k:=k) oG) ?_;rintro _ w4 ⟨rfl,V4,bH⟩;refine NU$ NS$ NW O$ P6 O O$ NT O$ NU ((ih (i+1,V4) _ ⟨oG,m6.trans bH,EF.kp bH.k λg e hf=>?_⟩ (by dsimp only;omega)).qb);have e':b51=g:=PJ e;rcases m6.fp _ hf with e| e
    ·have:=aZ e;have hb:b51=w1.drew.heap.size:=ED;omega
    ·omega
   ·have oG:i=4:=by omega
    subst oG;refine O4 O$ qN O$ NZ O$ NV func155 O ?_;exact⟨_,rfl,⟨0,rfl⟩,Vi,(h.r aB).trans m6⟩
 case iP =>
  refine NQ$ qN O$ NT O$ qV (Pt zb8 O O)$ NZ O$ It O$ qN O$ Od O O$ Om zdQ O (z1m h (k:=k)) ?_;rintro _ w ⟨rfl,rfl⟩;by_cases i9:k∈A.once\/k∈A.often
  ·rw[decide_eq_true i9];refine qV ((Rn O))$ NT O$ qS$ qS$ qS$ qS$ qS$ qS$ OU O O$ NT O$ qS$ qS$ qS$ qS ?_;refine qS$ qS$ OU O O$ NZ O$ OD.qb (e:=[(0,_),(1,_),(4,_),(10,_)]) ?_;refine It O$ qN O$ NT O$ OH O$ Og Zu O$ qV (O6 Wl O O hB O)$ NT O$ qV (ylk (k:=k) (K:=KI) Wl (Rj U3) Pb O O h.pins)$ PD O O$ OR$ NZ O$ It O$ An$ NS ?_;exact(ek _ _ ⟨rfl,rfl⟩).qb
  ·rw [decide_eq_false i9]; refine qV ((Rn O)) (Od O O (OH O (Og Q0 O (NT O (Om Wu O (mz) ?_))))); rintro _ w ⟨rfl, rfl⟩; by_cases aq : k ∈ A.Ol
   ·rw[decide_eq_true aq];refine qV ((Rn O))$ PT O O$ NT O$ qS$ qS$ qS$ qS$ qS$ qS$ OU O O$ NZ O$ OD.qb (e:=[(0,_),(1,_),(4,_),(10,_)]) ?_;refine It O$ qN O$ NT O$ OH O$ Og Zu O$ qV (O6 Wl O O hB O)$ NT O$ qV (ylk (k:=k) (K:=KI) Wl (Rj U3) Pb O O h.pins)$ PD O O$ OR$ NZ O$ It O$ An$ NS ?_;exact(ek _ _ ⟨rfl,rfl⟩).qb
   ·rw[decide_eq_false aq];refine qV ((Rn O))$ PT O O$ Od O O$ OH O$ Og Qo O$ NT O$ Om Wu O (qn) ?_;rintro _ w ⟨rfl,rfl⟩;by_cases aw:k∈A.Oi
    ·rw[decide_eq_true aw];refine qV ((Rn O))$ PT O O$ NZ O$ OD.qb (e:=[(0,_),(1,_),(4,_),(10,_)]) ?_;refine It O$ qN O$ NT O$ OH O$ Og Zu O$ qV (O6 Wl O O hB O)$ NT O$ qV (ylk (k:=k) (K:=KI) Wl (Rj U3) Pb O O h.pins)$ PD O O$ OR$ NZ O$ It O$ An$ NS ?_;exact(ek _ _ ⟨rfl,rfl⟩).qb
    ·rw[decide_eq_false aw];refine qV ((Rn O))$ PT O O$ NZ O$ OD.qb (e:=[(0,_),(1,_),(4,_),(10,_)]) ?_;refine Oa O$ qN O$ NZ O$ NV func155 O ?_
     have hd:A.drop k=A:=by
      rw[Arc.drop_eq,List.erase_of_not_mem (λe=>i9 (.inl e)),List.erase_of_not_mem (λe=>i9 (.inr e)),List.erase_of_not_mem aq,List.erase_of_not_mem aw]
     rw[hd];exact⟨_,rfl,⟨6,rfl⟩,V,h.r (Ext.refl w)⟩
end
structure Pg where
 k:Int
 b:Nat
 t:NY
 d:Bool
def TS (l:List Pg):List (Int×Value):=l.map λg=>(g.k,ptr g.b 0)
def pgC (t:NY)(d:Bool):List Value:=[S t,.bool d,I 0]
structure Qz where
 s:Nat
 d:Nat
 m:Nat
 gi:Nat
 c:Nat
 pm:Nat
 p:Nat
 fr:Nat
 V:Nat->Value×Value
 D:Dev
 A:Arc
 l:List Pg
 L:List Bool
 Fd:Nat->Prop
 h:Int
 mi:Int
 wr:Int
def Qz.cp (P:Qz):Nat->Nat->Prop
 |0,b=>b=P.s
 |1,b=>P.Fd b
 |2,b=>b=P.m\/b=P.gi
 |3,b=>RP P.c P.V P.p b
 |4,b=>b=P.pm
 |5,b=>∃g∈P.l,g.b=b
 |_,_=>False
def Qz.fp (P:Qz)(b:Nat):Prop:=∃i,P.cp i b
def plC (P:Qz):List Value:=[ptr P.d 0,ptr P.m 0,ptr P.c 0,.map (some P.pm),I (P.fr:Int),I P.h,I P.mi,I P.wr,I 0,I 0,I 0,.bool false]
def Dis (f:Nat->Nat->Prop):Prop:=∀i j,i≠j->∀b,f i b->¬f j b
structure Tl (w:World)(P:Qz):Prop where
 NX:O9 w P.s (plC P) 114
 dev:Vh w P.d P.D P.Fd
 ext:Wz w P.m P.gi P.L
 arc:RT w P.c P.A P.V P.p
 mp:RN KI w P.pm (TS P.l)
 pg:∀g∈P.l,O9 w g.b (pgC g.t g.d) 218
 pnd:(P.l.map (·.b)).Nodup
 Vo:Dis P.cp
section
variable {w w' w0:World}{P P0 P':Qz}{S:Nat->Prop}{i0:Nat}
theorem Tl.lt (h:Tl w P){b:Nat}(hb:P.fp b):b<w.heap.size:=by
 obtain⟨i,hi⟩:=hb
 match i,hi with
 |0,e=>rw[show b=P.s from e];exact h.NX.lt
 |1,e=>exact h.dev.lt b e
 | 2, e =>
   rcases e with e| e
   ·rw[e];exact h.ext.ltm
   ·rw[e];exact h.ext.ltg
 |3,e=>exact h.arc.lt e
 |4,e=>rw[show b=P.pm from e];exact h.mp.lt
 |5,⟨g,hg,e⟩=>rw[<-e];exact(h.pg g hg).lt
theorem Tl.kp (h:Tl w P)(hk:Kp S w w')(hn:∀b,P.fp b->¬S b):Tl w' P:=
 ⟨hk.NX h.NX (hn _ ⟨0,rfl⟩),h.dev.kp hk λb hb=>hn b ⟨1,hb⟩,h.ext.kp hk (hn _ ⟨2,.inl O⟩) (hn _ ⟨2,.inr O⟩),h.arc.kp hk λb hb=>hn b ⟨3,hb⟩,h.mp.kp hk (hn _ ⟨4,rfl⟩),λg hg=>hk.NX (h.pg g hg) (hn _ ⟨5,g,hg,rfl⟩),h.pnd,h.Vo⟩
theorem Tl.ext' (h:Tl w P)(hx:Ext w w'):Tl w' P:=h.kp (S:=λ_=>False) hx λ_ _=>id
theorem Tl.z8p (h:Tl w P)(hk:Kp (P.cp i0) w w')(ne:0≠i0):O9 w' P.s (plC P) 114:=hk.NX h.NX (h.Vo 0 i0 ne _ O)
theorem Tl.z9n (h:Tl w P)(hk:Kp (P.cp i0) w w')(ne:1≠i0):Vh w' P.d P.D P.Fd:=h.dev.kp hk λb hb=>h.Vo 1 i0 ne b hb
theorem Tl.text (h:Tl w P)(hk:Kp (P.cp i0) w w')(ne:2≠i0):Wz w' P.m P.gi P.L:=h.ext.kp hk (h.Vo 2 i0 ne _ (.inl O)) (h.Vo 2 i0 ne _ (.inr O))
theorem Tl.z8s (h:Tl w P)(hk:Kp (P.cp i0) w w')(ne:3≠i0):RT w' P.c P.A P.V P.p:=h.arc.kp hk λb hb=>h.Vo 3 i0 ne b hb
theorem Tl.tmp (h:Tl w P)(hk:Kp (P.cp i0) w w')(ne:4≠i0):RN KI w' P.pm (TS P.l):=h.mp.kp hk (h.Vo 4 i0 ne _ O)
theorem Tl.tpg (h:Tl w P)(hk:Kp (P.cp i0) w w')(ne:5≠i0):∀g∈P.l,O9 w' g.b (pgC g.t g.d) 218:=λg hg=>hk.NX (h.pg g hg) (h.Vo 5 i0 ne _ ⟨g,hg,rfl⟩)
theorem Tl.zb0 (h:Tl w P)(hs:∀i,i≠i0->P'.cp i=P.cp i)(hi:∀b,P'.cp i0 b->P.cp i0 b\/∀i,¬P.cp i b):Dis P'.cp:=λi j ne b hb bU=>by
 by_cases e:i=i0
 ·have e2:j≠i0:=λe2=>ne (e.trans e2.symm);rw[e] at hb;rw[hs j e2] at bU;rcases hi b hb with h1|h1
  ·exact h.Vo i0 j (λe3=>e2 e3.symm) b h1 bU
  ·exact h1 j bU
 ·rw[hs i e] at hb;by_cases e2:j=i0
  ·rw[e2] at bU;rcases hi b bU with h1|h1
   ·exact h.Vo i i0 e b hb h1
   ·exact h1 i hb
  ·rw[hs j e2] at bU;exact h.Vo i j ne b hb bU
theorem Tl.new (h:Tl w P){b:Nat}(hb:w.heap.size<=b):∀i,¬P.cp i b:=λi e=>by have:=h.lt ⟨i,e⟩;omega
structure Tp (w0:World)(P0:Qz)(w:World)(P:Qz):Prop where
 m:Tl w P
 fp:∀b,P.fp b->P0.fp b\/w0.heap.size<=b
 k:Kp P0.fp w0 w
theorem Tl.r (h:Tl w P)(hx:Ext w w'):Tp w P w' P:=⟨h.ext' hx,λb hb=> .inl hb,hx.kp⟩
theorem Tp.ext (h:Tp w0 P0 w P)(hx:Ext w w'):Tp w0 P0 w' P:=⟨h.m.ext' hx,h.fp,h.k.trans hx.kp⟩
theorem Tp.loc (h:Tp w0 P0 w P)(hk:Kp S w w')(hS:∀b,S b->(P0.fp b\/w0.heap.size<=b)/\∀i,¬P.cp i b):Tp w0 P0 w' P:=
 ⟨h.m.kp hk λb ⟨i,hb⟩ e=>(hS b e).2 i hb,h.fp,h.k.NR hk λb e=>(hS b e).1.symm⟩
theorem Tp.part (h:Tp w0 P0 w P)(i0:Nat)(hm:Tl w' P')(hs:∀i,i≠i0->P'.cp i=P.cp i)(hi:∀b,P'.cp i0 b->P.cp i0 b\/w0.heap.size<=b)(hk:Kp (P.cp i0) w w'):Tp w0 P0 w' P':=
 ⟨hm,λb ⟨i,hb⟩=>by
  by_cases e:i=i0
  ·rw[e] at hb;rcases hi b hb with h1|h1
   ·exact h.fp b ⟨i0,h1⟩
   ·exact .inr h1
  ·rw[hs i e] at hb
   exact h.fp b ⟨i,hb⟩,h.k.NR hk λb hb=>(h.fp b ⟨i0,hb⟩).symm⟩
theorem Tp.trans {w2:World}{P2:Qz}(h:Tp w0 P0 w P)(h2:Tp w P w2 P2):Tp w0 P0 w2 P2:=
 ⟨h2.m,λb hb=>by
  rcases h2.fp b hb with e| e
  ·exact h.fp b e
  ·exact .inr (by have:=h.k.size;omega),h.k.NR h2.k λb hb=>(h.fp b hb).symm⟩
theorem Tp.dev (h:Tp w0 P0 w P){D':Dev}(ht:z9e w P.d P.Fd D' w'):∃Fd',Tp w0 P0 w' {P with D:=D',Fd:=Fd'}/\∀b,Fd' b->P.Fd b\/w.heap.size<=b:=by
 obtain⟨F',hd,hu⟩:=ht
 have hs:∀i,i≠1->Qz.cp {P with D:=D',Fd:=F'} i=P.cp i:=λi e=>by
  match i,e with
  |0,_|2,_|3,_|4,_|5,_=>rfl
  |i+6,_=>rfl
 have hk:Kp (P.cp 1) w w':=hu.1
 refine⟨F',h.part 1 ⟨h.m.z8p hk (by decide),hd,h.m.text hk (by decide),h.m.z8s hk (by decide),h.m.tmp hk (by decide),h.m.tpg hk (by decide),h.m.pnd,h.m.zb0 hs λb hb=>?_⟩ hs (λb hb=>?_) hk,hu.2⟩
 ·exact(hu.2 b hb).imp id λe=>h.m.new e
 ·exact(hu.2 b hb).imp id λe=>by have:=h.k.size;omega
theorem Tp.arc (h:Tp w0 P0 w P){A':Arc}{V':Nat->Value×Value}(hr:Vm w P.c P.V P.p w' A' V'):Tp w0 P0 w' {P with A:=A',V:=V'}:=by
 have hs:∀i,i≠3->Qz.cp {P with A:=A',V:=V'} i=P.cp i:=λi e=>by
  match i,e with
  |0,_|1,_|2,_|4,_|5,_=>rfl
  |i+6,_=>rfl
 have hk:Kp (P.cp 3) w w':=hr.k
 refine h.part 3 ⟨h.m.z8p hk (by decide),h.m.z9n hk (by decide),h.m.text hk (by decide),hr.m,h.m.tmp hk (by decide),h.m.tpg hk (by decide),h.m.pnd,h.m.zb0 hs λb hb=>?_⟩ hs (λb hb=>?_) hk
 ·exact(hr.fp b hb).imp id λe=>h.m.new e
 ·exact(hr.fp b hb).imp id λe=>by have:=h.k.size;omega
theorem Tp.exM (h:Tp w0 P0 w P){L':List Bool}(he:Wz w' P.m P.gi L')(hk:Kp (λb=>b=P.gi) w w'):Tp w0 P0 w' {P with L:=L'}:=by
 have hs:∀i,i≠2->Qz.cp {P with L:=L'} i=P.cp i:=λi e=>by
  match i,e with
  |0,_|1,_|3,_|4,_|5,_=>rfl
  |i+6,_=>rfl
 have hk:Kp (P.cp 2) w w':=hk.Of λb e=> .inr e
 exact h.part 2 ⟨h.m.z8p hk (by decide),h.m.z9n hk (by decide),he,h.m.z8s hk (by decide),h.m.tmp hk (by decide),h.m.tpg hk (by decide),h.m.pnd,h.m.zb0 hs λb hb=> .inl hb⟩ hs (λb hb=> .inl hb) hk
theorem Tp.cnt (h:Tp w0 P0 w P){a b c:Int}(hB:O9 w' P.s (plC {P with h:=a,mi:=b,wr:=c}) 114)(hk:Kp (λb=>b=P.s) w w'):Tp w0 P0 w' {P with h:=a,mi:=b,wr:=c}:=by
 have hs:∀i,i≠0->Qz.cp {P with h:=a,mi:=b,wr:=c} i=P.cp i:=λi e=>by
  match i,e with
  |1,_|2,_|3,_|4,_|5,_=>rfl
  |i+6,_=>rfl
 have hk:Kp (P.cp 0) w w':=hk
 exact h.part 0 ⟨hB,h.m.z9n hk (by decide),h.m.text hk (by decide),h.m.z8s hk (by decide),h.m.tmp hk (by decide),h.m.tpg hk (by decide),h.m.pnd,h.m.zb0 hs λb hb=> .inl hb⟩ hs (λb hb=> .inl hb) hk
theorem Tp.del (h:Tp w0 P0 w P){l':List Pg}(hl:l'.Sublist P.l)(hm:RN KI w' P.pm (TS l'))(hk:Kp (λb=>b=P.pm) w w'):Tp w0 P0 w' {P with l:=l'}:=by
 have hk:Kp (P.cp 4) w w':=hk
 have dp:∀i b,Qz.cp {P with l:=l'} i b->P.cp i b:=λi b hb=>by
  match i,hb with
  |0,e|1,e|2,e|3,e|4,e=>exact e
  |5,⟨g,hg,e⟩=>exact⟨g,hl.subset hg,e⟩
 have hp:=h.m.tpg hk (by decide)
 exact⟨⟨h.m.z8p hk (by decide),h.m.z9n hk (by decide),h.m.text hk (by decide),h.m.z8s hk (by decide),hm,λg hg=>hp g (hl.subset hg),(hl.map _).nodup h.m.pnd,λi j ne b hb bU=>h.m.Vo i j ne b (dp i b hb) (dp j b bU)⟩,λb ⟨i,hb⟩=>h.fp b ⟨i,dp i b hb⟩,h.k.NR hk λb hb=>(h.fp b ⟨4,hb⟩).symm⟩
theorem Tp.ins (h:Tp w0 P0 w P){g:Pg}(hg:w0.heap.size<=g.b/\∀i,¬P.cp i g.b)(hb:O9 w g.b (pgC g.t g.d) 218)(hm:RN KI w' P.pm (TS (P.l++[g])))(hk:Kp (λb=>b=P.pm) w w'):Tp w0 P0 w' {P with l:=P.l++[g]}:=by
 have hk:Kp (P.cp 4) w w':=hk
 have hp:=h.m.tpg hk (by decide)
 have gA:∀i b,Qz.cp {P with l:=P.l++[g]} i b->P.cp i b\/(i=5/\b=g.b):=λi b hb=>by
  match i,hb with
  |0,e|1,e|2,e|3,e|4,e=>exact .inl e
  | 5, ⟨g', cM, e⟩ =>
    rcases List.mem_append.1 cM with e2|e2
    ·exact .inl ⟨g',e2,e⟩
    ·rw[List.mem_singleton.1 e2] at e;exact .inr ⟨rfl,e.symm⟩
 refine⟨⟨h.m.z8p hk (by decide),h.m.z9n hk (by decide),h.m.text hk (by decide),h.m.z8s hk (by decide),hm,λg' cM=>?_,?_,λi j ne b hb bU=>?_⟩,λb ⟨i,hb⟩=>?_,h.k.NR hk λb hb=>(h.fp b ⟨4,hb⟩).symm⟩
 ·rcases List.mem_append.1 cM with e| e
  ·exact hp g' e
  ·rw[List.mem_singleton.1 e];exact hk.NX hb (hg.2 4)
 ·show((P.l++[g]).map (·.b)).Nodup;rw[List.map_append,List.nodup_append];refine⟨h.m.pnd,by simp,λa ha b hb e=>?_⟩;obtain⟨g',cM,rfl⟩:=List.mem_map.1 ha;rw[List.map_singleton,List.mem_singleton] at hb;exact hg.2 5 ⟨g',cM,e.trans hb⟩
 ·rcases gA i b hb with e|⟨e,e2⟩
  ·rcases gA j b bU with f|⟨f,f2⟩
   ·exact h.m.Vo i j ne b e f
   ·rw[f2] at e;exact hg.2 i e
  ·rcases gA j b bU with f|⟨f,f2⟩
   ·rw[e2] at f;exact hg.2 j f
   ·exact ne (e.trans f.symm)
 ·rcases gA i b hb with e|⟨e,e2⟩
  ·exact h.fp b ⟨i,e⟩
  ·rw[e2];exact .inr hg.1
theorem RS {α β:Type}{f:α->β}:∀{l:List α},(l.map f).Nodup->∀{a b:α},a∈l->b∈l->f a=f b->a=b
 |[],_,a,b,ha,_,_=>by cases ha
 | x :: l, hn, a, b, ha, hb, e => by
   rw[List.map_cons,List.nodup_cons] at hn;rcases List.mem_cons.1 ha with h1|h1
   ·rcases List.mem_cons.1 hb with h2|h2
    ·rw[h1,h2]
    ·exact absurd (List.mem_map.2 ⟨b,h2,by rw[<-e,h1]⟩) hn.1
   ·rcases List.mem_cons.1 hb with h2|h2
    ·exact absurd (List.mem_map.2 ⟨a,h1,by rw[e,h2]⟩) hn.1
    ·exact RS hn.2 h1 h2 e
def QT (l:List Pg)(k:Int)(t:NY)(d:Bool):List Pg:=l.map λg=>if g.k=k then {g with t:=t,d:=d} else g
theorem z9U (l:List Pg)(k:Int)(t:NY)(d:Bool):TS (QT l k t d)=TS l:=by
 unfold TS QT
 rw[List.map_map]
 refine List.map_congr_left λg _=>?_
 by_cases h:g.k=k
 ·simp only[Function.comp_apply,if_pos h]
 ·simp only[Function.comp_apply,if_neg h]
theorem z2E (l:List Pg)(k:Int)(t:NY)(d:Bool):(QT l k t d).map (·.b)=l.map (·.b):=by
 unfold QT
 rw[List.map_map]
 refine List.map_congr_left λg _=>?_
 show Pg.b (if _ then _ else _)=_
 split<;>rfl
theorem Tp.zgl (h:Tp w0 P0 w P){g:Pg}(hg:g∈P.l){t:NY}{d:Bool}(hb:O9 w' g.b (pgC t d) 218)(hk:Kp (λb=>b=g.b) w w'):Tp w0 P0 w' {P with l:=QT P.l g.k t d}:=by
 have fN:=h.m.mp.nd
 have kT:∀b,(∃g'∈QT P.l g.k t d,g'.b=b)↔∃g'∈P.l,g'.b=b:=λb=>by
  have e:=z2E P.l g.k t d;constructor
  ·rintro⟨g',cM,rfl⟩;have:g'.b∈P.l.map (·.b):=by rw[<-e];exact List.mem_map.2 ⟨g',cM,rfl⟩
   obtain⟨g2,a,b⟩:=List.mem_map.1 this;exact⟨g2,a,b⟩
  ·rintro⟨g',cM,rfl⟩;have:g'.b∈(QT P.l g.k t d).map (·.b):=by rw[e];exact List.mem_map.2 ⟨g',cM,rfl⟩
   obtain⟨g2,a,b⟩:=List.mem_map.1 this;exact⟨g2,a,b⟩
 have hs:∀i,i≠5->Qz.cp {P with l:=QT P.l g.k t d} i=P.cp i:=λi e=>by
  match i,e with
  |0,_|1,_|2,_|3,_|4,_=>rfl
  |i+6,_=>rfl
 have ak:Kp (P.cp 5) w w':=hk.Of λb e=>⟨g,hg,e.symm⟩
 have hi:∀b,Qz.cp {P with l:=QT P.l g.k t d} 5 b->P.cp 5 b:=λb hb=>(kT b).1 hb
 refine h.part 5 ⟨h.m.z8p ak (by decide),h.m.z9n ak (by decide),h.m.text ak (by decide),h.m.z8s ak (by decide),?_,λg' cM=>?_,?_,h.m.zb0 hs λb hb=> .inl (hi b hb)⟩ hs (λb hb=> .inl (hi b hb)) ak
 ·show RN KI w' P.pm (TS (QT P.l g.k t d));rw[z9U];exact h.m.tmp ak (by decide)
 ·obtain⟨g2,aa,rfl⟩:=List.mem_map.1 cM;by_cases e:g2.k=g.k
  ·rw[if_pos e]
   have e2:g2=g:=by
    unfold TS at fN;rw[List.map_map] at fN;have EG:(P.l.map (·.k)).Nodup:=fN;exact RS EG aa hg e
   rw[e2];exact hb
  ·rw[if_neg e];have bP:g2.b≠g.b:=λe2=>e (by rw[RS h.m.pnd aa hg e2]);exact hk.NX (h.m.pg g2 aa) bP
 ·show((QT P.l g.k t d).map (·.b)).Nodup;rw[z2E];exact h.m.pnd
end
def R5 (l:List Pg):Nat:=l.countP (·.d)
structure V7 (P:Qz)(txt:Int->NY)(K:Nat):Prop where
 aok:P.A.Ok
 asz:P.A.size<=1000
 keys:∀x,x∈P.l.map (·.k)↔P.A.held x
 nd:(P.l.map (·.k)).Nodup
 rng:∀g∈P.l,0<=g.k/\g.k<(P.L.length:Int)
 tx:∀g∈P.l,g.t=txt g.k
 cl:∀g∈P.l,g.d=false->P.D.now g.k=txt g.k
 out:∀x,0<=x->x<(P.L.length:Int)->¬P.A.held x->P.D.now x=txt x
 len:∀x,0<=x->x<(P.L.length:Int)->(txt x).length=512
 down:P.D.down=false
 due:P.D.due=0
 B:P.D.B=P.L.length
 N:P.D.N=1
 ca:P.D.calls+(R5 P.l:Int)<=(K:Int)
 cc:P.D.cache.length+R5 P.l<=K
 RE:P.D.RE.length<=17592186044416
def YB (txt:Int->NY)(no:Int)(wt:Option NY):Int->NY:=λx=>if x=no then wt.getD (txt x) else txt x
theorem Yk (txt:Int->NY)(no:Int):YB txt no none=txt:=by
 funext x
 unfold YB
 split<;>rfl
theorem Ri (txt:Int->NY)(no:Int)(wt:Option NY):YB txt no wt no=wt.getD (txt no):=if_pos O
theorem QB (txt:Int->NY){no x:Int}(wt:Option NY)(h:x≠no):YB txt no wt x=txt x:=if_neg h
def wN (wt:Option NY):Nat:=if wt.isSome then 1 else 0
theorem z4d (D:Dev)(n x:Int)(s:NY):((D.push n s).count).now x=if n=x then s else D.now x:=by
 unfold Dev.now Dev.count Dev.push
 dsimp only
 rw[z6e]
 split<;>rfl
theorem z1Q (D:Dev)(z:Int)(x:Int):({D with reads:=z}:Dev).now x=D.now x:=rfl
section
variable {P:Qz}{txt:Int->NY}{K:Nat}{no:Int}{wt:Option NY}
theorem YI (no:Int)(t:NY):∀{l:List Pg},(l.map (·.k)).Nodup->R5 (QT l no t true)<=R5 l+1
 |[],_=>Nat.zero_le _
 | g :: l, hn => by
   rw[List.map_cons,List.nodup_cons] at hn;by_cases h:g.k=no
   ·have e:QT l no t true=l:=by
     unfold QT
     conv=>rhs;rw[<-List.map_id l]
     refine List.map_congr_left λg' cM=>?_;rw[if_neg λe=>hn.1 (List.mem_map.2 ⟨g',cM,by rw[e,h]⟩)];rfl
    have e2:QT (g::l) no t true={g with t:=t,d:=true}::l:=by
     show(if g.k=no then _ else g)::QT l no t true=_;rw[if_pos h,e]
    rw[e2];unfold R5;rw[List.countP_cons,List.countP_cons];split<;>split<;>omega
   ·have ih:=YI no t hn.2
    have e2:QT (g::l) no t true=g::QT l no t true:=by
     show(if g.k=no then _ else g)::QT l no t true=_;rw[if_neg h]
    rw[e2];unfold R5 at*;rw[List.countP_cons,List.countP_cons];omega
theorem z0t {l:List Pg}(hn:(l.map (·.k)).Nodup){g:Pg}(hg:g∈l):QT l g.k g.t g.d=l:=by
 unfold QT
 conv=>rhs;rw[<-List.map_id l]
 refine List.map_congr_left λg' cM=>?_
 by_cases h:g'.k=g.k
 ·rw[if_pos h,RS hn cM hg h];rfl
 ·rw[if_neg h];rfl
theorem z6z (l:List Pg)(k:Int)(t:NY)(d:Bool):(QT l k t d).map (·.k)=l.map (·.k):=by
 unfold QT
 rw[List.map_map]
 refine List.map_congr_left λg _=>?_
 by_cases h:g.k=k
 ·simp only[Function.comp_apply,if_pos h]
 ·simp only[Function.comp_apply,if_neg h]
theorem Yo {l:List Pg}{k:Int}{t:NY}{d:Bool}{g:Pg}(h:g∈QT l k t d):(g∈l/\g.k≠k)\/(g.k=k/\g.t=t/\g.d=d/\∃g'∈l,g'.k=k):=by
 obtain⟨g',cM,rfl⟩:=List.mem_map.1 h
 by_cases e:g'.k=k
 ·rw[if_pos e];exact .inr ⟨e,rfl,rfl,g',cM,e⟩
 ·rw[if_neg e];exact .inl ⟨cM,e⟩
theorem V7.WV (h:V7 P txt K){g:Pg}(hg:g∈P.l)(oU:∀t,wt=some t->t.length=512){P':Qz}(hA:P'.A=(P.A.QA g.k).1)(hl:P'.l=QT P.l g.k (wt.getD g.t) (wt.isSome ||g.d))(hL:P'.L=P.L)(hD:P'.D=P.D):V7 P' (YB txt g.k wt) (K+wN wt):=by
 have ht:=Arc.z06 h.aok g.k
 have bF:P.A.held g.k:=(h.keys _).1 (List.mem_map.2 ⟨g,hg,rfl⟩)
 have fx:=ht.no (ht.WV.2 bF)
 have vJ:∀x,P'.A.held x↔P.A.held x:=λx=>by
  rw[hA,ht.held,fx];constructor
  ·rintro(e|e)
   ·rw[e];exact bF
   ·exact e.1
  ·intro e;exact .inr ⟨e,by simp⟩
 have hr:=h.rng g hg
 have vK:R5 P'.l<=R5 P.l+wN wt:=by
  rw[hl]
  cases wt with
  |none=>rw[show(none:Option NY).getD g.t=g.t from rfl,show((none:Option NY).isSome ||g.d)=g.d from rfl,z0t h.nd hg];exact Nat.le_add_right _ _
  |some t=>exact YI _ _ h.nd
 have Be:=h.ca
 have EH:=h.cc
 refine⟨by rw[hA];exact ht.ok,by rw[hA,ht.size];exact h.asz,λx=>by rw[hl,z6z,h.keys,vJ],by rw[hl,z6z];exact h.nd,λg' cM=>?_,λg' cM=>?_,λg' cM hd=>?_,λx h0 h1 hx=>?_,λx h0 h1=>?_,by rw[hD];exact h.down,by rw[hD];exact h.due,by rw[hD,hL];exact h.B,by rw[hD];exact h.N,by rw[hD];omega,by rw[hD];omega,by rw[hD];exact h.RE⟩
 ·rw[hL];rw[hl] at cM;rcases Yo cM with e| e
  ·exact h.rng g' e.1
  ·rw[e.1];exact hr
 ·rw[hl] at cM;rcases Yo cM with e| e
  ·rw[QB _ _ e.2];exact h.tx g' e.1
  ·rw[e.1,Ri,e.2.1,h.tx g hg]
 ·rw[hD];rw[hl] at cM;rcases Yo cM with e| e
  ·rw[QB _ _ e.2];exact h.cl g' e.1 hd
  ·rw[e.2.2.1] at hd
   have hw:wt=none:=by
    cases wt with
    |none=>rfl
    |some t=>cases hd
   rw[e.1,hw,Yk];rw[hw] at hd;exact h.cl g hg hd
 ·rw[hL] at h1;rw[vJ] at hx;have bP:x≠g.k:=λe=>hx (e▸bF);rw[hD,QB _ _ bP];exact h.out x h0 h1 hx
 ·rw[hL] at h1;by_cases e:x=g.k
  ·rw[e,Ri]
   cases hw:wt with
   |none=>exact h.len _ (e▸h0) (e▸h1)
   |some t=>exact oU t hw
  ·rw[QB _ _ e];exact h.len x h0 h1
def RM:List Pg->Int->List Pg
 |[],_=>[]
 |g::l,k=>if g.k=k then l else g::RM l k
theorem U8 (g:Pg)(l:List Pg)(k:Int):RM (g::l) k=if g.k=k then l else g::RM l k:=rfl
theorem z1P (l:List Pg)(k:Int):delL (TS l) k=TS (RM l k):=by
 induction l with
 |nil=>rfl
 | cons g l ih =>
   show(if k=g.k then TS l else(g.k,ptr g.b 0)::delL (TS l) k)=_;rw[U8];by_cases h:k=g.k
   ·rw[if_pos h,if_pos h.symm]
   ·rw[if_neg h,if_neg (λe=>h e.symm),ih];rfl
theorem S3:∀(l:List Pg) (k:Int),(RM l k).Sublist l
 |[],_=>List.Sublist.refl _
 | g :: l, k => by
   rw[U8];split
   ·exact List.sublist_cons_self _ _
   ·exact(S3 l k).cons_cons _
theorem z04 {l:List Pg}(hn:(l.map (·.k)).Nodup)(k x:Int):x∈(RM l k).map (·.k)↔x∈l.map (·.k)/\x≠k:=by
 induction l with
 |nil=>simp[RM]
 | cons g l ih =>
   rw[List.map_cons,List.nodup_cons] at hn;rw[U8];by_cases h:g.k=k
   ·rw[if_pos h,List.map_cons,List.mem_cons];constructor
    ·intro e;exact⟨.inr e,λe2=>hn.1 (by rw[h,<-e2];exact e)⟩
    ·rintro⟨e|e,e2⟩
     ·exact absurd (e.trans h) e2
     ·exact e
   ·rw[if_neg h,List.map_cons,List.map_cons,List.mem_cons,List.mem_cons];have:=ih hn.2;rw[this];constructor
    ·rintro(e|e)
     ·exact⟨.inl e,λe2=>h (by rw[<-e,e2])⟩
     ·exact⟨.inr e.1,e.2⟩
    ·rintro⟨e|e,e2⟩
     ·exact .inl e
     ·exact .inr ⟨e,e2⟩
theorem z2u {l:List Pg}{g:Pg}(hn:(l.map (·.k)).Nodup)(hg:g∈l):R5 (RM l g.k)+(if g.d then 1 else 0)=R5 l:=by
 induction l with
 |nil=>cases hg
 | cons a l ih =>
   rw[List.map_cons,List.nodup_cons] at hn;rw[U8];by_cases h:a.k=g.k
   ·rw[if_pos h]
    have e:a=g:=by
     rcases List.mem_cons.1 hg with e| e
     ·exact e.symm
     ·exact absurd (List.mem_map.2 ⟨g,e,h.symm⟩) hn.1
    rw[e];unfold R5;rw[List.countP_cons]
   ·rw[if_neg h]
    have aa:g∈l:=by
     rcases List.mem_cons.1 hg with e| e
     ·exact absurd (by rw[e]) h
     ·exact e
    have:=ih hn.2 aa;unfold R5 at*;rw[List.countP_cons,List.countP_cons];omega
structure zcQ (P:Qz)(txt:Int->NY)(K:Nat)(g:Option Int)(D':Dev)(l':List Pg):Prop where
 now:∀x,0<=x->x<(P.L.length:Int)->x∉l'.map (·.k)->D'.now x=txt x
 cl:∀q∈l',q.d=false->D'.now q.k=txt q.k
 sub:l'.Sublist P.l
 keys:∀x,x∈l'.map (·.k)↔x∈P.l.map (·.k)/\g≠some x
 down:D'.down=false
 due:D'.due=0
 B:D'.B=P.D.B
 N:D'.N=P.D.N
 ca:D'.calls+(R5 l':Int)<=(K:Int)
 cc:D'.cache.length+R5 l'<=K
 RE:D'.RE.length<=17592186044416
theorem V7.zgG (h:V7 P txt K):zcQ P txt K none P.D P.l:=
 ⟨λx h0 h1 hx=>h.out x h0 h1 λe=>hx ((h.keys x).2 e),h.cl,List.Sublist.refl _,λx=>by simp,h.down,h.due,rfl,rfl,h.ca,h.cc,h.RE⟩
theorem V7.zhB (h:V7 P txt K){g:Pg}(hg:g∈P.l):zcQ P txt K (some g.k) (if g.d then(P.D.push g.k g.t).count else P.D) (RM P.l g.k):=by
 have zm:=z2u h.nd hg
 have hk:=z04 h.nd g.k
 have Be:=h.ca
 have EH:=h.cc
 have dp:=S3 P.l g.k
 have gY:∀x,0<=x->x<(P.L.length:Int)->x∉(RM P.l g.k).map (·.k)->x=g.k\/¬P.A.held x:=λx h0 h1 hx=>by
  rw[hk,not_and] at hx;by_cases e:x=g.k
  ·exact .inl e
  ·exact .inr λe2=>hx ((h.keys x).2 e2) e
 have gC:∀q∈RM P.l g.k,q∈P.l/\q.k≠g.k:=λq hq=>⟨dp.subset hq,((hk q.k).1 (List.mem_map.2 ⟨q,hq,rfl⟩)).2⟩
 have rN:∀x,x∈(RM P.l g.k).map (·.k)↔x∈P.l.map (·.k)/\some g.k≠some x:=λx=>by
  rw[hk];simp only[ne_eq,Option.some.injEq];constructor
  ·rintro⟨a,b⟩;exact⟨a,λe=>b e.symm⟩
  ·rintro⟨a,b⟩;exact⟨a,λe=>b e.symm⟩
 cases hd:g.d with
 | true =>
   rw[hd] at zm;rw[if_pos O] at zm⊢;refine⟨λx h0 h1 hx=>?_,λq hq tF=>?_,dp,rN,h.down,?_,rfl,rfl,?_,?_,h.RE⟩
   ·rw[z4d];rcases gY x h0 h1 hx with e| e
    ·rw[if_pos e.symm,e,h.tx g hg]
    ·by_cases e2:g.k=x
     ·rw[if_pos e2,<-e2,h.tx g hg]
     ·rw[if_neg e2];exact h.out x h0 h1 e
   ·obtain⟨a,b⟩:=gC q hq;rw[z4d,if_neg λe=>b e.symm];exact h.cl q a tF
   ·have:=h.due;show(if P.D.due=0 then(0:Int) else _)=0;rw[if_pos this]
   ·show P.D.calls+1+_<=_;omega
   ·show(P.D.cache++[_]).length+_<=_
    rw[List.length_append,List.length_singleton];omega
 | false =>
   rw[hd] at zm;rw[if_neg (by simp)] at zm⊢;refine⟨λx h0 h1 hx=>?_,λq hq tF=>?_,dp,rN,h.down,h.due,rfl,rfl,by omega,by omega,h.RE⟩
   ·rcases gY x h0 h1 hx with e| e
    ·rw[e];exact h.cl g hg hd
    ·exact h.out x h0 h1 e
   ·exact h.cl q (gC q hq).1 tF
theorem V7.zgQ (h:V7 P txt K)(h0:0<=no)(h1:no<(P.L.length:Int))(hh:¬P.A.held no)(oU:∀t,wt=some t->t.length=512){D':Dev}{l':List Pg}(hg:zcQ P txt K (P.A.QA no).2.2 D' l'){P':Qz}{b:Nat}{z:Int}
  (hA:P'.A=(P.A.QA no).1) (hl:P'.l=l'++[⟨no,b,wt.getD (txt no),wt.isSome⟩]) (hL:P'.L=P.L) (hD:P'.D={D' with reads:=z}):V7 P' (YB txt no wt) (K+wN wt):=by
 have ht:=Arc.z06 h.aok no
 have Ll:=hg.ca
 have Lm:=hg.cc
 have ig:∀x,x∈P'.l.map (·.k)↔x=no\/x∈l'.map (·.k):=λx=>by
  rw[hl,List.map_append,List.mem_append,List.map_singleton,List.mem_singleton,or_comm]
 have vJ:∀x,P'.A.held x↔x=no\/x∈l'.map (·.k):=λx=>by
  rw[hA,ht.held,hg.keys,h.keys]
 have lK:no∉l'.map (·.k):=λe=>hh ((h.keys no).1 ((hg.keys no).1 e).1)
 have vK:R5 P'.l=R5 l'+wN wt:=by
  rw[hl];unfold R5 wN;rw[List.countP_append,List.countP_singleton]
 refine⟨by rw[hA];exact ht.ok,by rw[hA,ht.size];exact h.asz,λx=>by rw[ig,vJ],?_,λg jD=>?_,λg jD=>?_,λg jD hd=>?_,λx x0 x1 hx=>?_,λx x0 x1=>?_,by rw[hD];exact hg.down,by rw[hD];exact hg.due,by rw[hD,hL];exact hg.B.trans h.B,by rw[hD];exact hg.N.trans h.N,by rw[hD];show D'.calls+_<=_;omega,by rw[hD];show D'.cache.length+_<=_;omega,by rw[hD];exact hg.RE⟩
 ·rw[hl,List.map_append,List.nodup_append];refine⟨(hg.sub.map _).nodup h.nd,by simp,λa ha c hc e=>?_⟩;rw[List.map_singleton,List.mem_singleton] at hc;exact lK (by rw[<-show a=no from e.trans hc];exact ha)
 ·rw[hL];rw[hl] at jD;rcases List.mem_append.1 jD with e| e
  ·exact h.rng g (hg.sub.subset e)
  ·rw[List.mem_singleton.1 e];exact⟨h0,h1⟩
 ·rw[hl] at jD;rcases List.mem_append.1 jD with e| e
  ·rw[QB _ _ (λe2=>lK (by rw[<-e2];exact List.mem_map.2 ⟨g,e,rfl⟩))];exact h.tx g (hg.sub.subset e)
  ·rw[List.mem_singleton.1 e,Ri]
 ·rw[hD,z1Q];rw[hl] at jD;rcases List.mem_append.1 jD with e| e
  ·rw[QB _ _ (λe2=>lK (by rw[<-e2];exact List.mem_map.2 ⟨g,e,rfl⟩))];exact hg.cl g e hd
  ·rw[List.mem_singleton.1 e] at hd⊢
   have hw:wt=none:=by
    cases wt with
    |none=>rfl
    |some t=>cases hd
   rw[hw,Yk];exact hg.now no h0 h1 lK
 ·rw[hL] at x1;rw[vJ,not_or] at hx;rw[hD,z1Q,QB _ _ hx.1];exact hg.now x x0 x1 hx.2
 ·rw[hL] at x1;by_cases e:x=no
  ·rw[e,Ri]
   cases hw:wt with
   |none=>exact h.len _ h0 h1
   |some t=>exact oU t hw
  ·rw[QB _ _ e];exact h.len x x0 x1
end
section
variable {w w' w0:World}{P P0 P':Qz}{S:Nat->Prop}{txt:Int->NY}{K:Nat}
theorem Tl.cells (h:Tl w P):O9 w P.s [ptr P.d 0,ptr P.m 0,ptr P.c 0,.map (some P.pm),I (P.fr:Int),I P.h,I P.mi,I P.wr,I 0,I 0,I 0,.bool false] 114:=h.NX
theorem V7.zf9 (h:V7 P txt K):P.D.Small K:=⟨by have:=h.ca;omega,by have:=h.cc;omega,trivial,h.RE⟩
theorem z0d (h:Tl w P)(hN:P.D.N=1):Oy prog 66 [ptr P.s 0] w λv w'=>v=I 512/\w'=w:=by
 have hB:=h.cells
 have cE:=z8b h.dev
 rw[hN] at cE
 refine NP (e:=[(0,_)]) func66 O ntmps66 O O$ qN O$ NZ O$ py$ qN O$ NT O$ qV (Pt X7 O O)$ NU$ It O$ An$ qN O$ NT O$ OH O$ Og Ua O ?_
 refine qV (O6 U28 O O hB O)$ Om zaW O (cE) ?_
 rintro _ w ⟨rfl,rfl⟩
 refine NZ O$ NV func66 O ?_
 exact⟨_,rfl,rfl,rfl⟩
theorem z88 (h:Tl w P):Oy prog 143 [ptr P.s 0] w λv w'=>v=ptr P.d 0/\w'=w:=by
 have hB:=h.cells
 refine NP (e:=[(0,_)]) func143 O ntmps143 O O$ qN O$ NZ O$ py$ qN O$ NT O$ qV (Pt X7 O O)$ NU$ It O$ An$ qN O$ NT O$ OH O$ Og Ua O ?_
 refine qV (O6 U28 O O hB O)$ NZ O$ NV func143 O ?_
 exact⟨_,rfl,rfl,rfl⟩
theorem z83 (h:Tl w P):Oy prog 17 [ptr P.s 0] w λv w'=>v=ptr P.m 0/\w'=w:=by
 have hB:=h.cells
 refine NP (e:=[(0,_)]) func17 O ntmps17 O O$ qN O$ NZ O$ py$ qN O$ NT O$ qV (Pt X7 O O)$ NU$ It O$ An$ qN O$ NT O$ OH O$ Og z2t O ?_
 refine qV (O6 U51 O O hB O)$ NZ O$ NV func17 O ?_
 exact⟨_,rfl,rfl,rfl⟩
theorem YP (h:Tl w P)(hd:P.D.down=false):Oy prog 125 [ptr P.s 0] w λv w'=>v=I 0/\w'=w:=by
 have hB:=h.cells
 have vK:=z8n h.dev
 rw[hd] at vK
 refine NP (e:=[(0,_)]) func125 O ntmps125 O O$ qN O$ NZ O$ py$ NQ$ qN O$ NT O$ qV (Pt X7 O O)$ NZ O$ It O$ qN O$ NT O$ OH O$ Og z7r O ?_
 refine qV (O6 U4 O O hB O)$ Od O O$ OH O$ Og Ua O$ qV (O6 U28 O O hB O)$ Om zgu O (vK) ?_
 rintro _ w ⟨rfl,rfl⟩
 refine OU O O$ NZ O$ It O$ An$ NS$ qN O$ NZ O$ NV func125 O ?_
 exact⟨_,rfl,rfl,rfl⟩
theorem z43 (h:Tl w P)(nH:P.D.Small K)(vK:P.D.down=false)(Ln:P.D.due=0)(Lo:P.D.B=P.L.length)(jp:P.D.N=1)(hK:K<1000000000000){b:Nat}{t:NY}{d:Bool}{no:Int}(h0:0<=no)(h1:no<(P.L.length:Int))(ht:t.length=512)(hb:O9 w b (pgC t d) 218)(mx:∀i,¬P.cp i b):
  Oy prog 167 [ptr P.s 0,I no,ptr b 0] w λv w'=>v=I 0/\∃Fd' wr',Tl w' {P with D:=if d then(P.D.push no t).count else P.D,Fd:=Fd',wr:=wr'}/\Kp (λj=>j=b\/P.cp 0 j\/P.cp 1 j) w w'/\(∀j,Fd' j->P.Fd j\/w.heap.size<=j):=by
 replace hb:O9 w b [S t,.bool d,I 0] 218:=hb
 have hB:=h.cells
 have hg:=Ext.Ob w
 have qZ:P.s≠b:=λe=>mx 0 e.symm
 have Lp:¬P.Fd P.s:=λe=>h.Vo 0 1 (by decide) P.s O e
 have I9:¬P.Fd b:=mx 1
 refine NP (e:=[(0,_),(1,_),(2,_)]) func167 O ntmps167 O O ?_
 cases d with
 | false =>
   refine qN O$ NZ O$ py$ qN O$ NT O$ OH O$ Og UG O$ Og z2f O$ qV (O6 U4 O O hb O)$ qV ((Rn O))$ NU$ Oa O$ qN O$ NZ O ?_;refine NV func167 O (⟨_,rfl,rfl,P.Fd,P.wr,?_,Kp.refl _ _,λj e=> .inl e⟩);rw[if_neg (by simp)]
   exact h
 | true =>
   refine qN O$ NZ O$ py$ qN O$ NT O$ OH O$ Og UG O$ Og z2f O$ qV (O6 U4 O O hb O)$ qV ((Rn O)) ?_;have EI:=z4S no t (h.dev.ext hg) nH hK;rw[z9B vK Ln ⟨h0,by rw[Lo];exact h1⟩ (by rw[jp];exact ht)] at EI;dsimp only at EI;refine NU$ It O$ An$ py$ py$ Qj (λw'=>Kp P.Fd w w') O$ Oj 0 O O (hg.kp)$ O0 1 O (Pq O) (hg.kp)$ O0 2 O (OG Ua O) (hg.kp)$ qT 3 O (λ_ h=>(O6 U28 O O (h.NX hB Lp) O)) (hg.kp)$ Oj 4 O O (hg.kp)$ Oj 5 O O (hg.kp)$ O0 6 O (Pq O) (hg.kp)$ O0 7 O (OG UG O) (hg.kp) ?_;refine O0 8 O (OG z2w O) (hg.kp)$ qT 9 O (λ_ h=>(O6 U9 O O (h.NX hb I9) O)) (hg.kp)$ RW 10 O zgK O (EI) ?_;rintro _ w1 ⟨rfl,iV⟩;refine⟨hg.kp.trans iV.kpF,?_⟩;obtain⟨Fd',cY,oD⟩:=((h.r (Ext.refl w)).ext hg).dev iV;have aK:Kp P.Fd w w1:=hg.kp.trans iV.kpF;have pR:∀j,Fd' j->P.Fd j\/w.heap.size<=j:=λj e=>(oD j e).imp id λe=>by have:=hg.size;omega
   refine O0 11 O (Qq O) (hg.kp.trans iV.kpF)$ qE$ qN O$ NT O$ Pz O O ?_;have ai:=cY.m.cells;refine NU$ It O$ An$ qN O$ NT O$ OH O$ Og VO O$ Og zb2 O$ qV (O6 U3 O O ai O)$ qV (za0 O O)$ OH O$ Og VO O$ Og zb2 O$ Oe O (PV Pb O O O ai (by simp)) ?_;rintro w2 ⟨am,aq⟩;obtain⟨z,hz⟩:∃z,IntKind.i64.wrap (P.wr+1)=z:=⟨_,rfl⟩;rw[hz] at am;have dv:=cY.cnt (a:=P.h) (b:=P.mi) (c:=z) am aq;have bU:=aq.NX (aK.NX hb I9) (λe=>qZ e.symm);refine NU$ OD.qb (e:=[(2,_),(6,_)]) ?_;refine qN O$ NT O$ OH O$ Og UG O$ Og z2f O$ Oe O (PV Vg O O O bU (by simp)) ?_;rintro w3 ⟨f7,aw⟩
   have EJ:∀i,¬Qz.cp {P with D:=(P.D.push no t).count,Fd:=Fd',h:=P.h,mi:=P.mi,wr:=z} i b:=λi e=>by
    match i,e with
    |0,e=>exact mx 0 e
    | 1, e =>
      rcases pR b e with e| e
      ·exact mx 1 e
      ·have:=hb.lt;omega
    |2,e=>exact mx 2 e
    |3,e=>exact mx 3 e
    |4,e=>exact mx 4 e
    |5,e=>exact mx 5 e
   refine qM O$ NZ O$ NV func167 O (⟨_,rfl,rfl,Fd',z,?_,?_,pR⟩)
   ·rw[if_pos O];exact dv.m.kp aw λj ⟨i,hj⟩ e=>EJ i (e▸hj)
   ·exact((aK.Of λj e=> .inr (.inr e)).trans (aq.Of λj e=> .inr (.inl e))).trans (aw.Of λj e=> .inl e)
end
structure Qz.Same (P P':Qz):Prop where
 s:P'.s=P.s
 d:P'.d=P.d
 m:P'.m=P.m
 gi:P'.gi=P.gi
 c:P'.c=P.c
 pm:P'.pm=P.pm
 p:P'.p=P.p
 fr:P'.fr=P.fr
 L:P'.L=P.L
theorem Qz.Same.trans {P P' P2:Qz}(h:P.Same P')(h2:P'.Same P2):P.Same P2:=
 ⟨h2.s.trans h.s,h2.d.trans h.d,h2.m.trans h.m,h2.gi.trans h.gi,h2.c.trans h.c,h2.pm.trans h.pm,h2.p.trans h.p,h2.fr.trans h.fr,h2.L.trans h.L⟩
theorem z0m {l:List Pg}{k:Int}{b:Nat}{t0 t:NY}{d0 d:Bool}(h:k∉l.map (·.k)):QT (l++[⟨k,b,t0,d0⟩]) k t d=l++[⟨k,b,t,d⟩]:=by
 unfold QT
 rw[List.map_append]
 congr 1
 ·conv=>rhs;rw[<-List.map_id l]
  refine List.map_congr_left λg hg=>?_;rw[if_neg λe=>h (List.mem_map.2 ⟨g,hg,e⟩)];rfl
 ·show [if k=k then _ else _]=_;rw[if_pos O]
section
variable {w w' w0:World}{P P0 P':Qz}{S':Nat->Prop}{txt:Int->NY}{K:Nat}
theorem Tl.get (h:Tl w P){q:Pg}(hq:q∈P.l):Ql (TS P.l) q.k=some (ptr q.b 0):=
 z3y h.mp.nd (List.mem_map.2 ⟨q,hq,rfl⟩)
theorem Tp.write (h:Tp w0 P0 w P){D':Dev}{Fd':Nat->Prop}{wr':Int}{b:Nat}(hm:Tl w' {P with D:=D',Fd:=Fd',wr:=wr'})(hk:Kp (λj=>j=b\/P.cp 0 j\/P.cp 1 j) w w')(hF:∀j,Fd' j->P.Fd j\/w.heap.size<=j)(hb:P0.fp b\/w0.heap.size<=b):Tp w0 P0 w' {P with D:=D',Fd:=Fd',wr:=wr'}:=
 ⟨hm,λj ⟨i,hj⟩=>by
  match i,hj with
  |0,e=>exact h.fp j ⟨0,e⟩
  | 1, e =>
    rcases hF j e with e| e
    ·exact h.fp j ⟨1,e⟩
    ·exact .inr (by have:=h.k.size;omega)
  |2,e=>exact h.fp j ⟨2,e⟩
  |3,e=>exact h.fp j ⟨3,e⟩
  |4,e=>exact h.fp j ⟨4,e⟩
  |5,e=>exact h.fp j ⟨5,e⟩,h.k.NR hk λj e=>by
  rcases e with e|e| e
  ·rw[e];exact hb.symm
  ·exact(h.fp j ⟨0,e⟩).symm
  ·exact(h.fp j ⟨1,e⟩).symm⟩
theorem YK (hr : Tp w0 P0 w P)(hI : V7 P txt K)(hK : K < 1000000000000){no : Int}(h0 : 0 <= no)(h1 : no < (P.L.length : Int))(wt : Option NY)(oU : ∀ t, wt = some t -> t.length = 512){x : Nat}{x0 : Value}(gY : w0.heap.size <= x)(ew : ∀ i, ¬ P.cp i x)(fI : O9 w x [x0] 9){f : Nat}(p8 : CF prog f)
  (EK:∀(w1:World) (b:Nat) (t:NY) (d:Bool),b≠x->O9 w1 b (pgC t d) 218->O9 w1 x [x0] 9->Oy prog f [ptr b 0,ptr x 0] w1 λv w2=>v= .tuple #[]/\O9 w2 b (pgC (wt.getD t) (wt.isSome ||d)) 218/\O9 w2 x [S (wt.getD t)] 9/\Kp (λj=>j=if wt.isSome then b else x) w1 w2):
  Oy prog 126 [ptr P.s 0,I no,.bool wt.isSome,.func (.func f) #[] #[ptr x 0]] w λv w'=>v=I 0/\O9 w' x [S (wt.getD (txt no))] 9/\∃P',Tp w0 P0 w' P'/\V7 P' (YB txt no wt) (K+wN wt)/\P.Same P'/\∀i,¬P'.cp i x:=by
 have hB:=hr.m.cells
 have fu:=VG hr.m.dev
 rw[hI.B] at fu
 have lx:=fI.lt
 have gD:=Arc.z06 hI.aok no
 obtain⟨T,hT⟩:∃T,P.A.QA no=T:=⟨_,rfl⟩
 have eU:=z57 hr.m.arc hI.aok hI.asz (k:=no)
 rw[hT] at gD eU
 obtain⟨A2,WV,g⟩:=T
 dsimp only at gD eU
 have n4096:=hr.m.ext.n
 refine NP (e:=[(0,_),(1,_),(2,_),(3,_)]) func126 O ntmps126 O O$ qN O$ NZ O$ py$ qN O$ NT O$ Py O O$ OR$ Od O O$ NT O$ OH O$ Og Ua O$ qV (O6 U28 O O hB O)$ Om z4x O (fu) ?_
 rintro _ w ⟨rfl,rfl⟩
 refine SB O O$ OR$ OU O O$ NU$ It O$ An$ qN O$ NT O$ OH O$ Og z73 O$ qV (O6 zb8 O O hB O)$ NT O$ Om zgr O (eU) ?_
 rintro _ w1 ⟨rfl,V2,rO⟩
 have cY:=hr.arc rO
 have EL:=rO.k.NX fI (ew 3)
 have z1:=rO.k.size
 refine NT O$ qV (QL (v:=zc0 WV g) O O)$ qV (QL (v:=I 0) O O)$ O5 O O (QU (cs:=[_,_,_]) OL O) ?_
 rintro _ w2 ⟨b9,rfl,oF,ae,cL⟩
 have z2:=ae.size
 refine Oe O (P4 (news:=QI WV g) OL O O O O cL (by simp)) ?_
 rintro w3 ⟨cP,aw⟩
 replace cP:O9 w3 b9 [.bool WV,.bool g.isSome,I (g.getD 0)] 264:=cP
 have ba:Ext w1 w3:=ae.NR aw (λj e=>by omega)
 have co:=cY.ext ba
 have zn:=ba.NX EL
 have z01:=cY.k.size
 have z13:=ba.size
 have eK:∀i,¬Qz.cp {P with A:=A2,V:=V2} i x:=λi e=>by
  match i,e with
  |0,e=>exact ew 0 e
  |1,e=>exact ew 1 e
  |2,e=>exact ew 2 e
  | 3, e =>
    rcases rO.fp x e with e| e
    ·exact ew 3 e
    ·omega
  |4,e=>exact ew 4 e
  |5,e=>exact ew 5 e
 have zo:∀i,¬Qz.cp {P with A:=A2,V:=V2} i b9:=cY.m.new (by omega)
 have Nv:b9≠x:=by omega
 have l93:=cP.lt
 have kA:=co.m.cells
 dsimp only at kA
 refine NZ O$ OD.qb (e:=[(0,_),(1,_),(2,_),(3,_),(8,_),(9,_),(10,_)]) ?_
 refine py$ qN O$ NT O$ Pz O O$ NU$ It O$ An$ py$ qN O$ Og zcW O ?_
 cases WV with
 | true =>
   have bF:=gD.WV.1 O
   obtain⟨q,hq,EM⟩:∃q∈P.l,q.k=no:=by
    obtain⟨q,a,b⟩:=List.mem_map.1 ((hI.keys no).2 bF);exact⟨q,a,b⟩
   subst EM;refine qV (O6 U4 O O cP O)$ NU$ Oa O$ qN O$ NT O$ OH O$ Og VO O$ Og zbF O$ qV (O6 U3 O O kA O)$ qV (za0 O O)$ OH O$ Og VO O$ Og zbF O$ Oe O (PV Pb O O O kA (by simp)) ?_;rintro w4 ⟨aI,ao⟩;obtain⟨z,hz⟩:∃z,IntKind.i64.wrap (P.h+1)=z:=⟨_,rfl⟩;rw[hz] at aI;have bH:=co.cnt (a:=z) (b:=P.mi) (c:=P.wr) aI ao;have eL:=bH.m.cells;dsimp only at eL;have qo:=ao.NX zn (ew 0);have dz:=bH.m.get hq;dsimp only at dz;have qY:O9 w4 q.b (pgC q.t q.d) 218:=bH.m.pg q hq;have oV:q.b≠x:=λe=>ew 5 ⟨q,hq,e⟩;refine qM O$ Od O O$ OH O$ Og UP O$ qV (O6 Y0 O O eL O)$ NT O$ qV (ylk (k:=q.k) (K:=KI) Y0 (Rj U3) z9K O O bH.m.mp.l) ?_;dsimp only;rw[dz];refine PG O O (R0 p8 O O) (EK w4 q.b q.t q.d oV qY qo) ?_;rintro _ w5 ⟨rfl,EN,qp,ak⟩;refine NU$ OD.qb (e:=[(0,_),(1,_),(2,_),(3,_),(8,_),(9,_),(10,_)]) ?_;refine qN O$ NZ O$ NV func126 O ?_;have EO:=hI.tx q hq;refine⟨_,rfl,rfl,by rw[<-EO];exact qp,?_⟩
   cases wt with
   | none =>
     have zp:∀i,¬Qz.cp {P with A:=A2,V:=V2,h:=z,mi:=P.mi,wr:=P.wr} i x:=λi e2=>by
      match i,e2 with
      |0,e2=>exact eK 0 e2
      |1,e2=>exact eK 1 e2
      |2,e2=>exact eK 2 e2
      |3,e2=>exact eK 3 e2
      |4,e2=>exact eK 4 e2
      |5,e2=>exact eK 5 e2
     refine⟨_,bH.loc ak (λj e=>⟨.inr (by rw[show j=x from e];exact gY),by rw[show j=x from e];exact zp⟩),hI.WV hq oU (by rw[hT]) ?_ O O,⟨rfl,rfl,rfl,rfl,rfl,rfl,rfl,rfl,rfl⟩,zp⟩;show P.l=QT P.l q.k q.t q.d
     exact(z0t hI.nd hq).symm
   | some t =>
     refine⟨_,bH.zgl hq EN ak,hI.WV hq oU (by rw[hT]) O O O,⟨rfl,rfl,rfl,rfl,rfl,rfl,rfl,rfl,rfl⟩,λi e2=>?_⟩
     match i,e2 with
     |0,e2=>exact eK 0 e2
     |1,e2=>exact eK 1 e2
     |2,e2=>exact eK 2 e2
     |3,e2=>exact eK 3 e2
     |4,e2=>exact eK 4 e2
     | 5, ⟨g', cM, e2⟩ =>
       have h3:g'.b∈P.l.map (·.b):=by rw[<-z2E P.l q.k];exact List.mem_map.2 ⟨g',cM,rfl⟩
       obtain⟨g2,a,b⟩:=List.mem_map.1 h3
       exact eK 5 ⟨g2,a,b.trans e2⟩
 | false =>
   have EP:¬P.A.held no:=λe=>by have:=gD.WV.2 e;cases this
   refine qV (O6 U4 O O cP O)$ NU$ It O$ An$ qN O$ NT O$ OH O$ Og VO O$ Og zb3 O$ qV (O6 U3 O O kA O)$ qV (za0 O O)$ OH O$ Og VO O$ Og zb3 O ?_;refine Oe O (PV Pb O O O kA (by simp)) ?_;rintro w4 ⟨aI,ao⟩;obtain⟨z,hz⟩:∃z,IntKind.i64.wrap (P.mi+1)=z:=⟨_,rfl⟩;rw[hz] at aI;have bH:=co.cnt (a:=P.h) (b:=z) (c:=P.wr) aI ao;have eL:=bH.m.cells;dsimp only at eL;have qo:=ao.NX zn (ew 0);have Bf:b9≠P.s:=λe=>zo 0 e;have mb:=ao.NX cP Bf;have z4:=ao.size;refine NU$ py$ qN O$ Og zck O$ qV (O6 U4 O O mb O)$ NU ?_
   have Lq:∀(D':Dev) (Fd':Nat->Prop) (l':List Pg) (wr':Int),(∀j,Fd' j->P.Fd j\/w.heap.size<=j)->l'.Sublist P.l->∀b,(∀i,¬Qz.cp {P with A:=A2,V:=V2} i b)->b<w.heap.size\/(∀j,Fd' j->j≠b)->∀i,¬Qz.cp {P with A:=A2,V:=V2,D:=D',Fd:=Fd',l:=l',mi:=z,wr:=wr'} i b:=λD' Fd' l' wr' hF hl b hb bU i e=>by
    match i,e with
    |0,e=>exact hb 0 e
    | 1, e =>
      rcases bU with h| h
      ·rcases hF b e with e| e
       ·exact hb 1 e
       ·omega
      ·exact h b e O
    |2,e=>exact hb 2 e
    |3,e=>exact hb 3 e
    |4,e=>exact hb 4 e
    |5,⟨q,hq,e⟩=>exact hb 5 ⟨q,hl.subset hq,e⟩
   refine OX (λe' w'=>e'=[(0,ptr P.s 0),(1,I no),(2,.bool wt.isSome),(3,.func (.func f) #[] #[ptr x 0])]/\∃D' Fd' l' wr',Tp w0 P0 w' {P with A:=A2,V:=V2,D:=D',Fd:=Fd',l:=l',mi:=z,wr:=wr'}/\zcQ P txt K g D' l'/\O9 w' x [x0] 9/\(∀j,Fd' j->P.Fd j\/w.heap.size<=j/\j≠x)) ?ek$ λek=>?iP
   case ek =>
    rintro e' w5 ⟨rfl,D',Fd',l',wr',ck,dU,qp,vD⟩;have lK:no∉l'.map (·.k):=λe=>EP ((hI.keys no).1 ((dU.keys no).1 e).1);have z5:=ck.k.size;have lx5:=qp.lt
    have eM:∀i,¬Qz.cp {P with A:=A2,V:=V2,D:=D',Fd:=Fd',l:=l',mi:=z,wr:=wr'} i x:=λi e=>by
     match i,e with
     |0,e=>exact ew 0 e
     | 1, e =>
       rcases vD x e with e| e
       ·exact ew 1 e
       ·exact e.2 O
     |2,e=>exact ew 2 e
     |3,e=>exact eK 3 e
     |4,e=>exact ew 4 e
     |5,⟨q,hq,e⟩=>exact ew 5 ⟨q,dU.sub.subset hq,e⟩
    refine qN O$ qV (Rt (cs:=[_,_,_]) zh5 O zgb O O)$ O5 O O (Qr O (cs:=pgC [] false) O) ?_;rintro _ w6 ⟨b,rfl,hb,aH,aO⟩;replace aO:O9 w6 b [S [],.bool false,I 0] 218:=aO;have cD:=ck.ext aH;have nV:=aH.NX qp;have nW:b≠x:=by omega
    have gE:∀i,¬Qz.cp {P with A:=A2,V:=V2,D:=D',Fd:=Fd',l:=l',mi:=z,wr:=wr'} i b:=ck.m.new (by omega);have lb6:=aO.lt
    have zr:Ql (TS l') no=none:=z1n λe=>lK (by
     unfold TS at e;rw[List.map_map] at e
     exact e)
    refine NZ O$ py$ qN O$ NT O$ qV ((Rn O)) ?_
    cases wt with
    | none =>
      refine NU$ Oa O ?_;have jq:=cD.m.cells;dsimp only at jq;have dQ:=z7P no cD.m.dev (k:=K) ⟨by have:=dU.ca;show D'.calls<=_;omega,by have:=dU.cc;show D'.cache.length<=_;omega,trivial,dU.RE⟩ hK
      have zt:D'.read no=({D' with reads:=IntKind.i64.wrap (D'.reads+1)},txt no,0):=by
       have hh:D'.has no=true:=by
        have:=dU.B;have:=hI.B;simp[Dev.has];omega
       unfold Dev.read;rw[if_neg (by rw[dU.down];simp),if_neg (by rw[hh];simp),dU.now no h0 h1 lK]
      dsimp only at dQ;rw[zt] at dQ;dsimp only at dQ;refine qN O$ Od O O$ OH O$ Og Ua O$ qV (O6 U28 O O jq O)$ NT O$ Om zgx O (dQ) ?_;rintro _ w7 ⟨rfl,rI⟩;obtain⟨Fd7,zu,zv⟩:=cD.dev rI;have eD:Kp Fd' w6 w7:=rI.kpF;have bN:=eD.NX aO (gE 1);have ub:=eD.NX nV (eM 1);refine NT O$ qV (QL (v:=S (txt no)) O O)$ qV (QL (v:=I 0) O O)$ OH O$ Og UG O$ Og z2w O$ Oe O (PV ZF O O O bN (by simp)) ?_;rintro w8 ⟨cn,aS⟩;replace cn:O9 w8 b (pgC (txt no) false) 218:=cn
      have ud:∀i,¬Qz.cp {P with A:=A2,V:=V2,D:={D' with reads:=IntKind.i64.wrap (D'.reads+1)},Fd:=Fd7,l:=l',mi:=z,wr:=wr'} i b:=λi e=>by
       match i,e with
       |0,e=>exact gE 0 e
       | 1, e =>
         rcases zv b e with e| e
         ·exact gE 1 e
         ·omega
       |2,e=>exact gE 2 e
       |3,e=>exact gE 3 e
       |4,e=>exact gE 4 e
       |5,e=>exact gE 5 e
      have kB:∀i,¬Qz.cp {P with A:=A2,V:=V2,D:={D' with reads:=IntKind.i64.wrap (D'.reads+1)},Fd:=Fd7,l:=l',mi:=z,wr:=wr'} i x:=λi e=>by
       match i,e with
       |0,e=>exact eM 0 e
       | 1, e =>
         rcases zv x e with e| e
         ·exact eM 1 e
         ·have:=nV.lt;omega
       |2,e=>exact eM 2 e
       |3,e=>exact eM 3 e
       |4,e=>exact eM 4 e
       |5,e=>exact eM 5 e
      have fM:=zu.loc aS (λj e=>by rw[show j=b from e];exact⟨.inr (by omega),ud⟩);have EQ:=aS.NX ub (λe=>nW e.symm);have zw:=fM.m.cells;dsimp only at zw;refine Oc O$ qM O$ NT O$ Pz O O$ NU$ OD.qb (e:=[(0,_),(1,_),(3,_),(10,_),(13,_),(106,_)]) ?_;refine It O$ An$ qN O$ NT O$ OH O$ Og UP O$ qV (O6 Y0 O O zw O)$ Od O O$ Oe O (zeX (k:=no) (K:=KI) Y0 (Rj U3) O O O fM.m.mp) ?_;rintro w9 ⟨qq,aL⟩;dsimp only at qq;rw[Tv _ _ _ zr] at qq;have i5:=fM.ins (g:=⟨no,b,txt no,false⟩) ⟨by dsimp only;omega,ud⟩ cn (by unfold TS at qq⊢;rw[List.map_append];exact qq) aL;have cL:=aL.NX cn (ud 4);have ue:=aL.NX EQ (kB 4);refine qM O$ Od O O$ PG O O (R0 p8 O O) (EK w9 b (txt no) false nW cL ue) ?_;rintro _ w10 ⟨rfl,rP,nX,ar⟩;refine qM O$ NZ O$ NV func126 O ?_
      have zp:∀i,¬Qz.cp {P with A:=A2,V:=V2,D:={D' with reads:=IntKind.i64.wrap (D'.reads+1)},Fd:=Fd7,l:=l'++[⟨no,b,txt no,false⟩],mi:=z,wr:=wr'} i x:=λi e2=>by
       match i,e2 with
       |0,e2=>exact kB 0 e2
       |1,e2=>exact kB 1 e2
       |2,e2=>exact kB 2 e2
       |3,e2=>exact kB 3 e2
       |4,e2=>exact kB 4 e2
       | 5, ⟨q, hq, e2⟩ =>
         rcases List.mem_append.1 hq with e3|e3
         ·exact kB 5 ⟨q,e3,e2⟩
         ·rw[List.mem_singleton.1 e3] at e2;exact nW e2
      exact⟨_,rfl,rfl,nX,_,i5.loc ar (λj e=>⟨.inr (by rw[show j=x from e];exact gY),by rw[show j=x from e];exact zp⟩),hI.zgQ h0 h1 EP oU (by rw[hT];exact dU) (by rw[hT]) O O O,⟨rfl,rfl,rfl,rfl,rfl,rfl,rfl,rfl,rfl⟩,zp⟩
    | some t =>
      refine NU$ It O ?_;have jq:=cD.m.cells;dsimp only at jq;refine An$ qN O$ NT O$ OH O$ Og UP O$ qV (O6 Y0 O O jq O)$ Od O O$ Oe O (zeX (k:=no) (K:=KI) Y0 (Rj U3) O O O cD.m.mp) ?_;rintro w9 ⟨qq,aL⟩;dsimp only at qq;rw[Tv _ _ _ zr] at qq;have i5:=cD.ins (g:=⟨no,b,[],false⟩) ⟨by dsimp only;omega,gE⟩ aO (by unfold TS at qq⊢;rw[List.map_append];exact qq) aL;have cL:=aL.NX aO (gE 4);have ue:=aL.NX nV (eM 4);refine qM O$ Od O O$ PG O O (R0 p8 O O) (EK w9 b [] false nW cL ue) ?_;rintro _ w10 ⟨rfl,rP,nX,ar⟩;refine qM O$ NZ O$ NV func126 O ?_;have nE:=i5.zgl (g:=⟨no,b,[],false⟩) (List.mem_append_right _ (List.mem_singleton.2 O)) rP ar;refine⟨_,rfl,rfl,nX,_,nE,hI.zgQ h0 h1 EP oU (by rw[hT];exact dU) (by rw[hT]) (z0m lK) O O,⟨rfl,rfl,rfl,rfl,rfl,rfl,rfl,rfl,rfl⟩,λi e2=>?_⟩
      match i,e2 with
      |0,e2=>exact eM 0 e2
      |1,e2=>exact eM 1 e2
      |2,e2=>exact eM 2 e2
      |3,e2=>exact eM 3 e2
      |4,e2=>exact eM 4 e2
      | 5, ⟨q, hq, e2⟩ =>
        have e4:=z0m (b:=b) (t0:=[]) (t:=(some t).getD []) (d0:=false) (d:=(some t).isSome ||false) lK;have Lr:q∈l'++[⟨no,b,(some t).getD [],(some t).isSome ||false⟩]:=by rw[<-e4];exact hq
        rcases List.mem_append.1 Lr with e3|e3
        ·exact eM 5 ⟨q,e3,e2⟩
        ·rw[List.mem_singleton.1 e3] at e2;exact nW e2
   case iP=>
    cases g with
    | none =>
      refine It O$ An ?_
      exact(ek _ _ ⟨rfl,_,_,_,P.wr,bH,hI.zgG,qo,λj e=> .inl e⟩).qb
    | some gk =>
      obtain⟨Ls,Lt⟩:=gD.gone gk O
      obtain⟨q,hq,EM⟩:∃q∈P.l,q.k=gk:=by
       obtain⟨q,a,b⟩:=List.mem_map.1 ((hI.keys gk).2 Ls);exact⟨q,a,b⟩
      subst EM;have dz:=bH.m.get hq;dsimp only at dz;have af:=Ext.Ob w4;refine Oa O$ py$ Qj (λw'=>Ext w4 w') O$ Oj 0 O O (af)$ O0 1 O (Pq O) af$ O0 2 O (OG UP O) af$ qT 3 O (λ_ h=>(O6 Y0 O O (h.NX eL) O)) af$ O0 4 O (OG z2A O) af$ qT 5 O (λ_ h=>(O6 U3 O O (h.NX mb) O)) af$ qT 6 O (λ_ h=>ylk (k:=q.k) (K:=KI) Y0 (Rj U3) z9K O O (bH.m.ext' h).mp.l) af ?_;dsimp only;rw[dz];refine O0 7 O (Qq O) af$ qE$ OD.qb (e:=[(0,_),(1,_),(2,_),(3,_),(8,_),(9,_),(10,_),(11,_)]) ?_;refine py ?_;have dT:=Ext.Ob w4.drew;have jr:=af.NX eL;have lV:=af.NX mb;have ck:=bH.ext (af.trans dT);refine Oo [6] (λw'=>Ext w4.drew w') (by kernel_rfl) O$ OW 0 O O (dT)$ Ot 1 O (Pq O) dT$ Ot 2 O (OG UP O) dT$ qL 3 O (λ_ h=>(O6 Y0 O O (h.NX jr) O)) dT$ Ot 4 O (OG z2A O) dT$ qL 5 O (λ_ h=>(O6 U3 O O (h.NX lV) O)) dT$ S8 [6]$ qO 6$ z9I (i:=6) O O (zeE (k:=q.k) (K:=KI) Y0 (Rj U3) O O ck.m.mp O) ?_;rintro _ w6 ⟨ER,aP⟩;refine⟨trivial,?_⟩;dsimp only at ER;rw[z1P] at ER;have cD:=ck.del (S3 P.l q.k) ER aP;have ES:O9 w4 q.b (pgC q.t q.d) 218:=bH.m.pg q hq;have zx:q.b≠P.pm:=λe=>bH.m.Vo 5 4 (by decide) q.b ⟨q,hq,rfl⟩ e;have sQ:=aP.NX ((af.trans dT).NX ES) zx
      have gE:∀i,¬Qz.cp {P with A:=A2,V:=V2,h:=P.h,mi:=z,wr:=P.wr,l:=RM P.l q.k} i q.b:=λi e=>by
       match i,e with
       |0,e=>exact bH.m.Vo 5 0 (by decide) q.b ⟨q,hq,rfl⟩ e
       |1,e=>exact bH.m.Vo 5 1 (by decide) q.b ⟨q,hq,rfl⟩ e
       |2,e=>exact bH.m.Vo 5 2 (by decide) q.b ⟨q,hq,rfl⟩ e
       |3,e=>exact bH.m.Vo 5 3 (by decide) q.b ⟨q,hq,rfl⟩ e
       |4,e=>exact zx e
       | 5, ⟨q2, dM, e⟩ =>
         have e2:q2=q:=RS bH.m.pnd ((S3 P.l q.k).subset dM) hq e;have:=((z04 hI.nd q.k q2.k).1 (List.mem_map.2 ⟨q2,dM,rfl⟩)).2;exact this (by rw[e2])
      have qr:=hI.rng q hq;have EO:=hI.tx q hq;have xU:q.t.length=512:=by rw[EO];exact hI.len q.k qr.1 qr.2
      have nV:=aP.NX ((af.trans dT).NX qo) (eK 4);have jq:=cD.m.cells;have ET:=aP.NX ((af.trans dT).NX mb) (zo 4);have z46:=(af.trans dT).size;have z56:=aP.size;refine qE$ qN O$ NT O$ Og z2A O$ qV (O6 U3 O O ET O)$ NT O$ Om zif O (z43 cD.m hI.zf9 hI.down hI.due hI.B hI.N hK qr.1 qr.2 xU sQ gE) ?_;rintro _ w7 ⟨rfl,Fd7,wr7,fO,aD,zv⟩;have zu:=cD.write fO aD zv (bH.fp q.b ⟨5,q,hq,rfl⟩);have oV:q.b≠x:=λe=>ew 5 ⟨q,hq,e⟩
      have ub:=aD.NX nV (λe=>by
       rcases e with e|e| e
       ·exact oV e.symm
       ·exact ew 0 e
       ·exact ew 1 e)
      refine Oc O$ qM O$ NT O$ Pz O O$ NU$ It O$ An ?_;exact(ek _ _ ⟨rfl,_,Fd7,_,wr7,zu,hI.zhB hq,ub,λj e=>(zv j e).imp id λe=>⟨by omega,by omega⟩⟩).qb
end
end Go.Proofs.YtgdkbagngobdlaaGreatDoor
