/- Merged by program. -/
import Derived.Test.YtfgjaafcgghnoaaGreatDoorCPp5
set_option linter.all false
set_option maxRecDepth 1000000
set_option maxHeartbeats 16000000
namespace Go.Proofs.YtfgjaafcgghnoaaGreatDoor
open Go Go.RowKit Go.Proofs.Tryz
theorem z8o (v:Value)(l:List Int)(x:Int)(w:World)(hl:l.length<=17592186044416)(hr:Rd w v 1 l.length (l.map I)):
  Oa prog 208 [v,I x] w λu w'=>(∃k,u=I k/\(0<=k↔x∈l))/\w'=w:=by
 obtain⟨a,cap,rfl,ha⟩:=hr.shape
 refine Nu (e:=[(0,_),(1,_)]) func208 O ntmps208 O O$ qN O$ NF O$ py$ qN O$ Nz O$ Q0 Qd O$ Nz O$ NB$ Nw$ Qb (α:=Nat) (0) (λi=>[(0,.slice a l.length cap),(1,I x),(7,I (l.length:Int)),(8,I (i:Int))]) (λi w'=>w'=w/\i<=l.length/\∀j,j<i->l[j]?≠some x) (λi=>l.length-i) ?hI ?hround
 case hI=>exact⟨rfl,by omega,by omega⟩
 case hround =>
  rintro i _ ⟨rfl,hi,gD⟩ ih
  try dsimp only
  refine qN O$ Pb O O$ NB$ py$ NN O (λaU=>?_)$ λaU=>?_
  ·have g8:i<l.length:=by omega
   rcases hr.2 with⟨c,-,h⟩|⟨b,off,cap',lN,aX⟩
   ·omega
   cases lN;refine An$ py$ Nw$ qN O$ Nz O$ NQ O$ qM O$ NT O O$ Nz O$ qV (OH Qd OL O O (by omega))$ qV (Oi U3 O O (aX (i*1) (I l[i]) (by simp[g8]))) ?_;refine Px O O$ NB$ NN O (λdR=>?_)$ λdR=>?_
   ·refine qN O$ Nz O$ NF O$ NA func208 O (⟨_,rfl,⟨(i:Int),rfl,?_⟩,rfl⟩);constructor
    ·intro _;rw[dR];exact List.getElem_mem g8
    ·intro _;omega
   ·refine An$ Ny$ NC O$ OI O O$ Nz O$ NB ?_
    exact(ih (i+1) _ ⟨rfl,by omega,λj hj=>by
     rcases Nat.lt_or_ge j i with h| h
     ·exact gD j h
     ·have:j=i:=by omega
      subst this;rw[List.getElem?_eq_getElem g8]
      exact λh=>dR (Pz h).symm⟩ (by omega)).qb
  ·refine NL O$ qN O$ NF O$ NA func208 O (⟨_,rfl,⟨-1,rfl,?_⟩,rfl⟩);constructor
   ·intro h;omega
   ·intro h;obtain⟨j,hj,e⟩:=List.getElem_of_mem h;exact absurd (by rw[List.getElem?_eq_getElem hj,e]) (gD j (by omega))
theorem z2c (v:Value)(l:List Int)(x:Int)(w:World)(hl:l.length<=17592186044416)(hr:Rd w v 1 l.length (l.map I)):
  Oa prog 234 [v,I x] w λu w'=>u= .bool (decide (x∈l))/\w'=w:=by
 refine Nu (e:=[(0,_),(1,_)]) func234 O ntmps234 O O$ qN O$ NQ O$ qM O$ NT O O$ NZ zd4 O (z8o v l x w hl hr) ?_
 rintro _ w1 ⟨⟨k,rfl,hk⟩,rfl⟩
 refine RN O O$ NF O$ NA func234 O (⟨_,rfl,?_,rfl⟩)
 simp only[OR,hk]
theorem z4m (c x:NH)(rest:List Value)(i:Nat)(h:i+x.length<=c.length):Py (c.map Rq++rest) i (x.map Rq)=(z7l c i x).map Rq++rest:=by
 unfold Py z7l
 rw[List.take_append_of_le_length (by simp;omega),List.drop_append_of_le_length (by simp;omega)]
 simp
theorem Xy {D:Dev}{l:List Int}{tn:Int}{mk:UInt8}{i:Nat}{x:Int×NH}(hx:D.cache[i]? =some x):D.fallTo l tn mk (i+1)=
  if(i:Int)=tn then UX (D.fallTo l tn mk i) x.1 (mixN mk (((D.fallTo l tn mk i) x.1).getD (zeros (512*D.N))) x.2 D.N)
   else if(i:Int)∈l then UX (D.fallTo l tn mk i) x.1 x.2 else D.fallTo l tn mk i:=by
 simp only[Dev.fallTo,hx]
theorem za8 {w : World}{p m : Nat}{kp ca cv : Value}{D : Dev}(h : Qz w p m kp ca D)(l : List Int)(tn : Int)(mk : UInt8)(hl : l.length <= 17592186044416)(hr : Rd w cv 1 l.length (l.map I))(eM : D.cache.length < 2000000000000) :
  Oa prog 220 [ptr p 0,.agg #[cv,I tn,Rq mk]] w λv w'=>v= .tuple #[]/\Qz w' p m (.slice none 0 0) (.slice none 0 0) (D.z9H l tn mk)/\Kp (λk=>k=p\/k=m) w w':=by
 have aA:=h.ok.len
 have hN:=h.ok.hN
 have KB:=mk.toNat_lt
 have KC:=h.pm
 have B9:=h.lt m (.inr (.inl O))
 have Hx:∀{w':World},Ext w w'->w.heap.size<=w'.heap.size:=λh=>h.size
 obtain⟨a,cap,rfl,ha⟩:=h.cache.rd.shape
 obtain⟨ac,capc,rfl,N5⟩:=hr.shape
 refine Nu (e:=[(0,_),(1,_)]) func220 O ntmps220 O O$ qN O$ NK O O (PW O O) ?_
 rintro _ w1 ⟨b3,rfl,dF,ad,ar⟩
 have h0:=h.ext ad
 have eg:=ad.size
 replace hr:=hr.ext ad
 have En:=ar.lt
 have hM:=h0.ND
 refine NB$ py$ qN O$ Nz O$ O8 O$ NO WZ O$ qV (NJ ZK O O hM O)$ Q0 ZK O$ Nz O$ NB$ Nw$ Qb (α:=Nat) (0) (λi=>[(0,ptr p 0),(3,ptr b3 0),(11,.slice a D.cache.length cap),(12,I (D.cache.length:Int)),(13,I (i:Int))]) (λi wi=>i<=D.cache.length/\Qz wi p m kp (.slice a D.cache.length cap) {D with sf:=D.fallTo l tn mk i}/\Rd wi (.slice ac l.length capc) 1 l.length (l.map I)/\NM wi b3 [.slice ac l.length capc,I tn,Rq mk] 118/\Kp (λk=>k=m) w1 wi) (λi=>D.cache.length-i) ?hI ?hround
 case hI=>exact⟨by omega,h0,hr,ar,Kp.refl _ _⟩
 case hround =>
  rintro i wi ⟨hi,hd,mt,gE,pM⟩ ih
  try dsimp only
  have KD:=pM.size;refine qN O$ Pb O O$ NB$ py$ NN O (λaU=>?_)$ λaU=>?_
  ·have g8 : i < D.cache.length := by omega
   have od:=hd.cache;rcases od.shape with⟨-,h⟩|⟨gb,cap',lN,ja⟩
   ·exact absurd h (by show ¬D.cache.length=0;omega)
   cases lN;obtain⟨x,hx⟩:∃x,D.cache[i]? =some x:=⟨_,List.getElem?_eq_getElem g8⟩;have wO:D.cache[i]=x:=by rw[List.getElem?_eq_getElem g8] at hx;exact Pz hx
   have eL:((wrs D.cache).drop (i*2)).take 2=wr x:=by rw[z6s _ _ g8,wO]
   have iP:=hd.ok.cache x (List.mem_of_getElem? hx);simp only at iP;have ld:=od.part eL;refine An$ py$ Nw$ qN O$ Nz O$ qV (OH ZK Vb O O (by omega))$ qV (Oh zeJ O Vb O ld O)$ NK O O (Qk (cs:=[_,_]) Vb O) ?_;rintro _ w2 ⟨b5,rfl,ff,ag,aC⟩;refine NQ O$ NP O (OA Vb O O O O aC (by simp)) ?_;rintro w3 ⟨dT,aw⟩;replace dT:NM w3 b5 [I x.1,S x.2] 334:=dT;have ah:Ext wi w3:=ag.Nv aw (λj hj=>by omega);have gF:=dT.lt;replace hd:=hd.ext ah;have lZ:=hd.lt;replace mt:=mt.ext ah;have qK:=mt;replace gE:=ah.ND gE;have kC:=gE.lt;have cF:Kp (λk=>k=m) w1 w3:=pM.trans ah.kp;have KE:=ah.size;have Hy:¬b3=b5:=by have:=ag.size;have:=gE;omega
   refine NB$ Nw$ qN O$ Nz O$ NO zb8 O$ qV ((NJ U3 O O gE O))$ Px O O$ NF O$ NN O (λBa=>?_)$ λBa=>?_
   ·refine qN O$ Nz O$ NO Z4 O$ qV ((NJ U3 O O dT O))$ NZ zc7 O (z3N x.1 hd) ?_;rintro _ w4 ⟨rfl,aB⟩;obtain⟨k0,ia⟩:∃k0,Dev.kept {D with sf:=D.fallTo l tn mk i} x.1=k0:=⟨_,rfl⟩;have zo:k0.length=512*D.N:=by rw[<-ia];exact hd.ok.kept x.1
    rw[ia];refine NK O O (z8w U9 P8 U5 O) ?_;rintro _ w5 ⟨bb,capb,rest,rfl,⟨vz,aT,vV⟩,Hz⟩;have dw:=aB.trans aT;replace hd:=hd.ext dw;replace mt:=mt.ext dw;replace gE:=dw.ND gE;replace dT:=dw.ND dT;have KF:=vV.lt;have vW:=hd.ND;have HA:=dw.size;have KG:=aB.size;have KH:=hd.ND.lt;refine NF O$ py$ qN O$ Nz O$ O8 O$ NO Z3 O$ NO XJ O$ qV (NJ U3 O O vW O)$ Nz O$ NB$ Nw$ Qb (α:=Nat) (0) (λs=>[(0,ptr p 0),(3,ptr b3 0),(5,ptr b5 0),(6,.slice (some ⟨bb,0,none⟩) k0.length capb),(11,.slice (some ⟨gb,0,none⟩) D.cache.length cap),(12,I (D.cache.length:Int)),(13,I (i:Int)),(32,I (D.N:Int)),(33,I (s:Int))]) (λs ws=>s<=D.N/\NM ws bb ((mixN mk k0 x.2 s).map Rq++rest) 5/\Kp (λk=>k=bb) w5 ws) (λs=>D.N-s) ?hI ?hround
    case hI=>exact⟨by omega,vV,Kp.refl _ _⟩
    case hround=>
     rintro s ws ⟨hs,mA,gY⟩ ihs
     try dsimp only
     have qP:=gY.ND gE (by omega);have zp:=gY.ND dT (by omega);have eJ:=Vh mk k0 x.2 D.N zo iP.2.2 s hs;refine qN O$ Pb O O$ NB$ py$ NN O (λgQ=>?_)$ λgQ=>?_
     ·have KJ:s<D.N:=by omega
      obtain⟨q,hq⟩:∃q,mk.toNat / 2^s=q:=⟨_,rfl⟩;have N6:q<256:=by rw[<-hq];exact Nat.lt_of_le_of_lt (Nat.div_le_self _ _) KB
      refine An$ py$ Nw$ qN O$ Nz O$ NQ O$ qM O$ NO zc0 O$ qV (NJ U5 O O qP O)$ Nz O$ qV (RS s (2^s) O O (by simp only[IntKind.bits];omega) O) ?_;rw[hq];refine qV (zjd O O (by omega) (by omega)) ?_;rw[Nat.and_one_is_mod];refine Px O O$ NB$ NN O (λo3=>?_)$ λo3=>?_
      ·have oe:q%2=1:=by omega
       refine PK (λw'=>Kp (λk=>k=bb) ws w') O$ NX 0 O O ((Kp.refl _ ws).drew)$ NX 1 O O ((Kp.refl _ ws).drew)$ NG 2 O (TT O O (by omega)) ((Kp.refl _ ws).drew)$ NX 3 O O ((Kp.refl _ ws).drew)$ NG 4 O (SX O O (by omega)) ((Kp.refl _ ws).drew)$ NG 5 O (TT O O (by omega)) ((Kp.refl _ ws).drew)$ NG 7 O (Og z1z O) ((Kp.refl _ ws).drew)$ qT 8 O (λ_ h=>NJ U9 O O (h.ND zp (by omega)) O) ((Kp.refl _ ws).drew)$ NX 9 O O ((Kp.refl _ ws).drew)$ NG 10 O (TT O O (by omega)) ((Kp.refl _ ws).drew)$ NG 11 O (UQ U9 O O (by omega)) ((Kp.refl _ ws).drew)$ NG 6 O (zdT (i:=s*512) (j:=(s+1)*512) P8 VO O O O (by omega) (by omega)) ((Kp.refl _ ws).drew)$ qO 12 ?_;refine QO (i:=12) O O O (ziK P8 VO O O ((Ext.NY ws).ND mA) (by simp[eJ];omega)) ?_;rintro _ w6 ⟨rfl,aR,aP⟩;refine⟨(Kp.refl _ ws).drew.trans aP,?_⟩
       have e6:((x.2.drop (s*512)).take ((s+1)*512-s*512)).map Rq=((x.2.drop (512*s)).take 512).map Rq:=by
        rw[show(s+1)*512-s*512=512 by omega,Nat.mul_comm]
       rw[e6,show 0+s*512*1=512*s by omega,z4m _ _ _ _ (by simp[eJ,iP.2.2];omega)] at aR
       have em:mixN mk k0 x.2 (s+1)=z7l (mixN mk k0 x.2 s) (512*s) ((x.2.drop (512*s)).take 512):=by
        simp only[mixN,hq,oe,if_true]
       rw[<-em] at aR;refine qE$ Ny$ NC O$ OI O O$ Nz O$ NB ?_;exact(ihs (s+1) w6 ⟨by omega,aR,gY.trans ((Kp.refl _ ws).drew.trans aP)⟩ (by omega)).qb
      ·have oe:¬q%2=1:=by omega
       have em:mixN mk k0 x.2 (s+1)=mixN mk k0 x.2 s:=by simp only[mixN,hq,oe,if_false]
       rw[<-em] at mA;refine An$ Ny$ NC O$ OI O O$ Nz O$ NB ?_;exact(ihs (s+1) ws ⟨by omega,mA,gY⟩ (by omega)).qb
     ·have CE:s=D.N:=by omega
      subst CE;have ul:=hd.kp gY λk hk fd=>by have:=lZ k hk;omega
      obtain⟨kv,oc,nC⟩:=ul.map;have KK:=ul.ND;have og:Ext w3 ws:=dw.Nv gY (λj hj=>by omega);have um:=qK.ext og;refine NL O$ PK (λw'=>Kp (λk=>k=m) ws w') O$ NX 0 O O ((Kp.refl _ ws).drew)$ NG 1 O (OQ O) ((Kp.refl _ ws).drew)$ NG 2 O (Og z1B O) ((Kp.refl _ ws).drew)$ qT 3 O (λ_ h=>(NJ z8a O O (h.ND KK ul.pm) O)) ((Kp.refl _ ws).drew)$ NG 4 O (Og Z4 O) ((Kp.refl _ ws).drew)$ qT 5 O (λ_ hS=>(NJ U3 O O (hS.ND zp (by omega)) O)) ((Kp.refl _ ws).drew)$ NX 6 O O ((Kp.refl _ ws).drew)$ qT 7 O (λ_ h=>z2Z (l:=mixN mk k0 x.2 D.N) P8 U5 U9 O (h.ND mA (by omega)) (z2r _ _ _ (by omega)) (by omega)) ((Kp.refl _ ws).drew)$ qO 8$ Ou (i:=8) O O (zmu (k:=x.1) (K:=KI) z8a (QG U3) O O O (Ext.map (Ext.NY ws) oc)) ?_;rintro w7 ⟨gG,ax⟩;refine⟨(Kp.refl _ ws).drew.trans ax,?_⟩;have iQ:=(Kp.refl (λi=>i=m) ws).drew.trans ax;have sd:=ul.put nC gG iQ (ul.ok.put ⟨iP.1,iP.2.1⟩ (Vh mk k0 x.2 D.N zo iP.2.2 D.N (Nat.le_refl _)))
      have ef:UX (D.fallTo l tn mk i) x.1 (mixN mk k0 x.2 D.N)=D.fallTo l tn mk (i+1):=by
       rw[Xy hx,if_pos Ba,<-ia];rfl
      simp only[ef] at sd;refine qE$ Ny$ Ny$ NC O$ OI O O$ Nz O$ NB ?_;exact(ih (i+1) w7 ⟨by omega,sd,um.kpm oc iQ,iQ.ND qP (by omega),cF.trans (og.kp.trans iQ)⟩ (by omega)).qb
   ·have Eq:=hd.ND;refine qN O$ NO zaW O$ qV ((NJ Qd O O gE O))$ Nz O$ NZ zhp O (z2c (.slice ac l.length capc) l (i:Int) w3 hl qK) ?_;rintro _ w4 ⟨rfl,rfl⟩;refine NF O$ NN O (λaY=>?_)$ λaY=>?_
    ·obtain⟨kv,oc,nC⟩:=hd.map;refine PK (λw'=>Kp (λk=>k=m) w4 w') O$ NX 0 O O ((Kp.refl _ w4).drew)$ NG 1 O (OQ O) ((Kp.refl _ w4).drew)$ NG 2 O (Og z1B O) ((Kp.refl _ w4).drew)$ qT 3 O (λ_ h=>(NJ z8a O O (h.ND Eq hd.pm) O)) ((Kp.refl _ w4).drew)$ NG 4 O (Og Z4 O) ((Kp.refl _ w4).drew)$ qT 5 O (λ_ hS=>(NJ U3 O O (hS.ND dT (by omega)) O)) ((Kp.refl _ w4).drew)$ NG 6 O (Og z1z O) ((Kp.refl _ w4).drew)$ qT 7 O (λ_ hS=>(NJ U9 O O (hS.ND dT (by omega)) O)) ((Kp.refl _ w4).drew)$ qO 8$ Ou (i:=8) O O (zmu (k:=x.1) (K:=KI) z8a (QG U3) O O O (Ext.map (Ext.NY w4) oc)) ?_;rintro w7 ⟨gG,ax⟩;refine⟨(Kp.refl _ w4).drew.trans ax,?_⟩;have iQ:=(Kp.refl (λi=>i=m) w4).drew.trans ax;have sd:=hd.put nC gG iQ (hd.ok.put ⟨iP.1,iP.2.1⟩ iP.2.2)
     have ef:UX (D.fallTo l tn mk i) x.1 x.2=D.fallTo l tn mk (i+1):=by
      rw[Xy hx,if_neg Ba,if_pos aY]
     simp only[ef] at sd;refine qE$ Ny$ Ny$ NC O$ OI O O$ Nz O$ NB ?_;exact(ih (i+1) w7 ⟨by omega,sd,qK.kpm oc iQ,iQ.ND gE (by omega),cF.trans iQ⟩ (by omega)).qb
    ·have ef:D.fallTo l tn mk i=D.fallTo l tn mk (i+1):=by
      rw[Xy hx,if_neg Ba,if_neg aY]
     rw[ef] at hd;refine An$ Ny$ Ny$ NC O$ OI O O$ Nz O$ NB ?_;exact(ih (i+1) w4 ⟨by omega,hd,qK,gE,cF⟩ (by omega)).qb
  ·have aY:i=D.cache.length:=by omega
   subst aY;have Eq:=hd.ND;refine NL O$ qN O$ Nz O$ O8 O$ NO WZ O$ NP O (PA z5N O O O Eq (by simp)) ?_;rintro w5 ⟨aC,ai⟩;refine qM O$ Nz O$ qV (QP (cs:=[_,_,_,_]) z6A O zeA O O)$ O8 O$ NO Vs O$ NP O (OA z6A O O O O aC (by simp)) ?_;rintro w6 ⟨aR,aP⟩;replace aR:NM w6 p [I 0,.slice none 0 0,I 0,Rq 0,I (D.B:Int),I (D.N:Int),.map (some m),.slice none 0 0,.bool D.down,I D.calls,I D.reads] 123:=aR;refine NB$ NC O$ Nz O$ O8 O$ NO z25 O$ NP O (PA Tf O O O aR (by simp)) ?_;rintro w7 ⟨bj,ax⟩;refine NB$ Pq func220 O ?_;have kE:=(ai.trans aP).trans ax;obtain⟨kv,oc,nC⟩:=hd.map;refine⟨_,rfl,rfl,⟨bj,⟨kv,kE.map oc λe=>hd.pm e.symm,nC⟩,Sl.nil w7 _ _,Sl.nil w7 _ _,?_⟩,?_⟩
   ·exact⟨hd.ok.hB,hd.ok.hN,by simp[Dev.z9H],hd.ok.sf,λx hx=>by simp[Dev.z9H] at hx,by have:=aA;simp[Dev.z9H];omega,hd.ok.reads⟩
   ·exact((Ext.kp ad).trans (pM.NR λ_ h=> .inr h)).trans (kE.NR λ_ h=> .inl h)
def Dev.push (D:Dev)(n:Int)(s:NH):Dev:={D with cache:=D.cache++[(n,s)]}
theorem za9 {P:Program}{e:Env}{d:Option Nat}{ty t t':TypeId}{pos:String}{aft:Array Edge}{g:Option (Nat×Bool)}{x y:Operand}{w:World}{a b:Int}(hx:look e x=some (I a))(hy:look e y=some (I b)):Y P e ⟨d,.binOp .add t x y t',ty,pos,aft,g⟩ (I (IntKind.i64.wrap (a+b))) w w:=fun ρ hρ=>by simp[execOp,go_sem,hρ _ _ hx,hρ _ _ hy]
def Dev.zcL (D:Dev):Dev:=D.z9H D.Rb D.zb0 D.mask
def Dev.write (D:Dev)(n:Int)(s:NH):Dev×Int:=
 if D.down then(D,8)
 else if D.has n=false\/s.length≠512*D.N then(D,1)
 else if D.due=1 then(((D.push n s).count).zcL,8) else((D.push n s).count,0)
def Dev.read (D:Dev)(n:Int):Dev×NH×Int:=
 if D.down then(D,[],8) else if D.has n=false then(D,[],1) else({D with reads:=IntKind.i64.wrap (D.reads+1)},D.now n,0)
def z0f (w:World)(p m:Nat)(kp ca:Value)(D':Dev)(w':World):Prop:=∃kp' ca',Qz w' p m kp' ca' D'/\Upd (fpD p m kp ca) (fpD p m kp' ca') w w'
theorem z0f.same {w w':World}{p m:Nat}{kp ca:Value}{D:Dev}(h:Qz w' p m kp ca D)(k:Ext w w'):z0f w p m kp ca D w':=⟨kp,ca,h,k.UX⟩
theorem zaj {w w':World}{p m:Nat}{kp ca:Value}(k:Kp (λi=>i=p\/i=m) w w'):Upd (fpD p m kp ca) (fpD p m (.slice none 0 0) (.slice none 0 0)) w w':=
 ⟨k.NR λi hi=>hi.elim .inl λh=> .inr (.inl h),λi hi=>by
  rcases hi with h|h|h| h
  ·exact .inl (.inl h)
  ·exact .inl (.inr (.inl h))
  ·cases h
  ·cases h⟩
section
variable {w:World}{p m:Nat}{kp ca:Value}{D:Dev}
theorem za5 (n:Int)(h:Qz w p m kp ca D)(hc:D.Bd):
  Oa prog 152 [ptr p 0,I n] w λv w'=>v= .tuple #[S (D.read n).2.1,I (D.read n).2.2]/\z0f w p m kp ca (D.read n).1 w':=by
 refine Nu (e:=[(0,_),(1,_)]) func152 O ntmps152 O O$ qN O$ NQ O$ NF O$ py$ qN O$ Nz O$ NZ zcG O (z0N h) ?_
 rintro _ w1 ⟨rfl,rfl⟩
 cases hd:D.down with
 | true =>
   refine NQ O$ qM O$ Nz O$ P3 O O$ NB$ NN O (λhz=>?_)$ λhz=>?_
   ·refine qN O$ Nz O$ NQ O$ NF O$ NA func152 O ?_;have e:D.read n=(D,[],8):=by simp[Dev.read,hd]
    rw[e];exact⟨_,rfl,rfl,z0f.same h (Ext.refl _)⟩
   ·exact absurd (by decide) hz
 | false =>
   refine NQ O$ qM O$ Nz O$ P3 O O$ NB$ NN O (λhz=>?_)$ λhz=>?_
   ·exact absurd hz (by decide)
   ·refine An$ py$ qN O$ NT O O$ NZ zcE O (z6h n h) ?_;rintro _ w2 ⟨rfl,rfl⟩
    cases hh:D.has n with
    | false =>
      refine qV ((Qr O))$ NB$ NI O$ qN O$ NQ O$ NF O$ NA func152 O ?_;have e:D.read n=(D,[],1):=by simp[Dev.read,hd,hh]
      rw[e]
      exact⟨_,rfl,rfl,z0f.same h (Ext.refl _)⟩
    | true =>
      refine qV ((Qr O))$ NB$ It O ?_;have hM:=h.ND;refine An$ qN O$ Nz O$ O8 O$ NO z6c O$ qV (NJ U3 O O hM O)$ qV (za9 O O)$ O8 O$ NO z6c O$ NP O (PA OL O O O hM (by simp)) ?_;rintro w3 ⟨zr,aw⟩;have h3:=h.turn (D':={D with reads:=IntKind.i64.wrap (D.reads+1)}) zr aw O O O O ⟨h.ok.hB,h.ok.hN,h.ok.due,h.ok.sf,h.ok.cache,h.ok.len,trivial⟩;refine qM O$ NT O O$ NZ zhM O (zbP n h3 hc.2.1) ?_;rintro _ w4 ⟨rfl,aB⟩;refine NQ O$ NF O$ NA func152 O ?_;have e:D.read n=({D with reads:=IntKind.i64.wrap (D.reads+1)},D.now n,0):=by simp[Dev.read,hd,hh]
      rw[e];exact⟨_,rfl,rfl,kp,ca,h3.ext aB,(aw.NR λ_ h=> .inl h).trans aB.kp,λ_ h=> .inl h⟩
theorem z6P (n : Int)(s : NH)(h : Qz w p m kp ca D)(hc : D.Bd)(hk : D.Rb.length <= 17592186044416) :
  Oa prog 192 [ptr p 0,I n,S s] w λv w'=>v=I (D.write n s).2/\z0f w p m kp ca (D.write n s).1 w':=by
 have eJ:maxLen=9223372036854775807:=rfl
 obtain⟨dH,eM,qr⟩:=hc
 have KL:=h.ok.len
 refine Nu (e:=[(0,_),(1,_),(2,_)]) func192 O ntmps192 O O$ qN O$ NF O$ py$ qN O$ Nz O$ NZ zcG O (z0N h) ?_
 rintro _ w1 ⟨rfl,rfl⟩
 cases hd:D.down with
 | true =>
   refine NQ O$ qM O$ Nz O$ P3 O O$ NB$ NN O (λhz=>?_)$ λhz=>?_
   ·refine qN O$ Nz O$ NF O$ NA func192 O ?_;have e:D.write n s=(D,8):=by simp[Dev.write,hd]
    rw[e];exact⟨_,rfl,rfl,z0f.same h (Ext.refl _)⟩
   ·exact absurd (by decide) hz
 | false =>
   refine NQ O$ qM O$ Nz O$ P3 O O$ NB$ NN O (λhz=>?_)$ λhz=>?_
   ·exact absurd hz (by decide)
   ·refine An$ py$ qN O$ NT O O$ NZ zcE O (z6h n h) ?_;rintro _ w2 ⟨rfl,rfl⟩
    cases hh:D.has n with
    | false =>
      refine qV ((Qr O))$ Nz O$ qS$ qS$ qS$ qS$ qS$ Pc O O$ NB$ NI O$ qN O$ NF O$ NA func192 O ?_;have e:D.write n s=(D,1):=by simp[Dev.write,hd,hh]
      rw[e]
      exact⟨_,rfl,rfl,z0f.same h (Ext.refl _)⟩
    | true =>
      have hn:0<=n/\n<(D.B:Int):=by simpa[Dev.has] using hh
      refine qV ((Qr O))$ NT O O$ qV (SG U9 O)$ Nz O$ NZ zdW O (z00 h) ?_;rintro _ w3 ⟨rfl,rfl⟩;refine P3 O O$ OC O O$ NB$ NN O (λcH=>?_)$ λcH=>?_
      ·refine qN O$ NF O$ NA func192 O ?_
       have e:D.write n s=(D,1):=by
        have:s.length≠512*D.N:=by omega
        simp[Dev.write,hd,hh,this]
       rw[e];exact⟨_,rfl,rfl,z0f.same h (Ext.refl _)⟩
      ·have fP:s.length=512*D.N:=by omega
       obtain⟨a,cap,rfl,ha⟩:=h.cache.rd.shape;have hM:=h.ND;refine An$ qN O$ NT O O$ O8 O$ NO WZ O$ qV (NJ ZK O O hM O)$ NT O O$ qV (QP (cs:=[_,_]) Vb O zfn O O)$ NK O O (Ur (cs:=[_,_]) (zs:=[Value.int .i64 0,Value.string ⟨#[]⟩]) ZK Vb O (by kernel_rfl) O O O (by decide)) ?_;rintro _ w4 ⟨b4,rfl,⟨ev,aB,aH⟩,ee⟩;have oh:=h.cache.ext aB;refine NK O O (pap ZK Vb O (by decide) O O oh ee.rd (by intro c hc;simp at hc;rcases hc with rfl|rfl<;>rfl) (by omega) (by omega)) ?_;rintro v' w5 ⟨fE,ai,se,-⟩;have E2:oneV v'=true:=by rcases fE.shape with⟨rfl,-⟩|⟨g,cap,rfl,-⟩<;>rfl
       have h4:=h.ext aB
       have jD:∀g,(Value.slice a D.cache.length cap).ownBlock=some g->¬g=p:=λg hg qH=>by
        obtain⟨xs,fz',hx⟩:=RW h4.cache hg;obtain⟨fz,hb,-⟩:=h4.ND;rw[qH,hb] at hx;cases hx
       have vW:=ai.ND h4.ND (λhg=>jD p hg O);refine O8 O$ NO WZ O$ NP O (PA z5N O O E2 vW (by simp)) ?_;rintro w6 ⟨aR,aP⟩;have et:=h.ND.lt
       have h6:Qz w6 p m kp v' (D.push n s):=by
        refine⟨aR,?_,?_,?_,?_⟩
        ·obtain⟨kv,oc,nC⟩:=h4.map;exact⟨kv,aP.map (ai.map oc λhg=>(h4.zel hg).2.1 O) λe=>h4.pm e.symm,nC⟩
        ·have e:wrs (D.push n s).cache=wrs D.cache++[I n,S s]:=by simp[Dev.push,wrs,wr]
         have e2:(D.push n s).cache.length=D.cache.length+1:=by simp[Dev.push]
         rw[e,e2];refine fE.kp aP λg hg=>?_;rcases se g hg with h'|h'
         ·exact(h4.zel h').1
         ·have:=aB.size;omega
        ·refine(h4.Rb.kp ai λg hg hc=>(h4.zgN hg).2.2 hc).kp aP λg hg=>(h4.zgN hg).1
        ·refine⟨h.ok.hB,h.ok.hN,h.ok.due,h.ok.sf,λx hx=>?_,h.ok.len,h.ok.reads⟩;simp only[Dev.push,List.mem_append,List.mem_singleton] at hx;rcases hx with hx|rfl
         ·exact h.ok.cache x hx
         ·exact⟨hn.1,hn.2,fP⟩
       refine NB$ Of.qb (e:=[(0,_),(6,_)]) ?_;refine py$ qN O$ Nz O$ NZ zhe O (z3R h6 dH) ?_;rintro _ w7 ⟨rfl,h7,ax⟩
       have hu:Upd (fpD p m kp (.slice a D.cache.length cap)) (fpD p m kp v') w3 w7:=by
        refine⟨(aB.kp.trans (ai.NR λi hi=> .inr (.inr (.inl hi)))).trans ((aP.NR λi hi=> .inl hi).trans (ax.NR λi hi=> .inl hi)),λi hi=>?_⟩;rcases hi with h'|h'|h'|h'
        ·exact .inl (.inl h')
        ·exact .inl (.inr (.inl h'))
        ·rcases se i h' with HB|HB
         ·exact .inl (.inr (.inr (.inl HB)))
         ·have:=aB.size;exact .inr (by omega)
        ·exact .inl (.inr (.inr (.inr h')))
       refine NB$ NN O (λqI=>?_)$ λqI=>?_
       ·have KM:=h7.ND;refine qN O$ NT O O$ O8 O$ NO Vs O$ NO zb6 O$ qV (Oh ziJ O z9L O (NM.cells (n:=3) KM (news:=[_,_,_]) O) O)$ NZ zgi O (za8 h7 D.Rb D.zb0 D.mask hk (h7.Rb.rd) (by show(D.cache++[(n,s)]).length<2000000000000;simp;omega)) ?_;rintro _ w8 ⟨rfl,h8,aV⟩;refine qM O$ NF O$ NA func192 O ?_
        have e:D.write n s=(((D.push n s).count).zcL,8):=by
         have ol:D.due=1:=qI;simp[Dev.write,hd,hh,fP,ol]
        rw[e];exact⟨_,rfl,rfl,_,_,h8,hu.trans (zaj aV)⟩
       ·refine An$ qN O$ NF O$ NA func192 O ?_
        have e:D.write n s=((D.push n s).count,0):=by
         have ol:¬D.due=1:=qI;simp[Dev.write,hd,hh,fP,ol]
        rw[e];exact⟨_,rfl,rfl,_,_,h7,hu⟩
end
end Go.Proofs.YtfgjaafcgghnoaaGreatDoor
namespace Go.Proofs.YtfgjaafcgghnoaaGreatDoor
open Go Go.RowKit
section
variable {w:World}{p m:Nat}{kp ca:Value}{D:Dev}
def Dev.z6D (D:Dev)(n:Nat):List NH:=(List.range n).map λj:Nat=>D.now (j:Int)
@[simp] theorem imageTo_length (D:Dev) (n:Nat):(D.z6D n).length=n:=by simp[Dev.z6D]
theorem zay {w:World}{v:Value}{e size n:Nat}{cs:List Value}(h:Sl w v e size n cs):oneV v=true:=by
 rcases h.shape with⟨rfl,-⟩|⟨g,cap,rfl,-⟩<;>rfl
end
end Go.Proofs.YtfgjaafcgghnoaaGreatDoor
namespace Go.Proofs.YtfgjaafcgghnoaaGreatDoor
open Go Go.RowKit Go.Proofs.Tryz
def YQ (b n:Int):Prop:=16<=b/\b<=4096/\1<=n/\n<=8
instance (b n:Int):Decidable (YQ b n):=by unfold YQ;infer_instance
def Dev.fresh (B N:Nat):Dev:=⟨0,[],0,0,B,N,λ_=>none,[],false,0,0⟩
theorem z8h (b n:Int)(w:World):Oa prog 52 [.agg #[I b,I n]] w λv w'=>v=I (if YQ b n then 0 else 1)/\Ext w w':=by
 refine Nu (e:=[(0,_)]) func52 O ntmps52 O O$ qN O$ NK O O (PW O O) ?_
 rintro _ w1 ⟨b1,rfl,bN,ad,aj⟩
 by_cases hg:YQ b n
 ·obtain⟨g1,g2,g3,g4⟩:=hg;refine NF O$ py$ qN O$ NO XB O$ qV (NJ U3 O O aj O)$ Pb O O$ Ox$ Nz O$ NO XB O$ qV (NJ U3 O O aj O)$ P9 O O$ Ox$ OC O O$ Nz O ?_;refine NO XJ O$ qV (NJ U3 O O aj O)$ Pb O O$ Ox$ OC O O$ Nz O$ NO XJ O$ qV (NJ U3 O O aj O)$ P9 O O$ Ox$ OC O O$ NB$ It O$ An ?_;refine qN O$ NF O$ NA func52 O ?_;exact⟨_,rfl,by rw[if_pos ⟨g1,g2,g3,g4⟩];rfl,ad⟩
 ·refine NF O$ py$ qN O$ NO XB O$ qV (NJ U3 O O aj O)$ Pb O O$ QZ (λh1=>?_)$ λh1=>?_
  ·refine Nz O$ qS$ qS$ qS$ Pc O O$ Nz O$ qS$ qS$ qS$ Pc O O$ Nz O$ qS$ qS$ qS ?_;refine Pc O O$ NB$ NI O$ qN O$ NF O$ NA func52 O ?_;exact⟨_,rfl,by rw[if_neg hg];rfl,ad⟩
  ·refine Nz O$ NO XB O$ qV (NJ U3 O O aj O)$ P9 O O$ OC O O$ QZ (λh2=>?_)$ λh2=>?_
   ·refine Nz O$ qS$ qS$ qS$ Pc O O$ Nz O$ qS$ qS$ qS$ Pc O O$ NB$ NI O$ qN O$ NF O ?_;refine NA func52 O ?_;exact⟨_,rfl,by rw[if_neg hg];rfl,ad⟩
   ·refine Nz O$ NO XJ O$ qV (NJ U3 O O aj O)$ Pb O O$ OC O O$ QZ (λh3=>?_)$ λh3=>?_
    ·refine Nz O$ qS$ qS$ qS$ Pc O O$ NB$ NI O$ qN O$ NF O$ NA func52 O ?_;exact⟨_,rfl,by rw[if_neg hg];rfl,ad⟩
    ·have:8<n:=by unfold YQ at hg;omega
     refine Nz O$ NO XJ O$ qV (NJ U3 O O aj O)$ P9 O O$ PE$ OC O O$ NB$ NI O$ qN O$ NF O$ NA func52 O ?_;exact⟨_,rfl,by rw[if_neg hg];rfl,ad⟩
theorem zdC (B N:Nat)(w:World)(hg:YQ B N):Oa prog 27 [.agg #[I (B:Int),I (N:Int)]] w λv w'=>∃p m,v= .tuple #[ptr p 0,I 0]/\Qz w' p m (.slice none 0 0) (.slice none 0 0) (Dev.fresh B N)/\Ext w w'/\w.heap.size<=p/\w.heap.size<=m:=by
 obtain⟨g1,g2,g3,g4⟩:=hg
 refine Nu (e:=[(0,_)]) func27 O ntmps27 O O$ qN O$ NK O O (PW O O) ?_
 rintro _ w1 ⟨b1,rfl,bN,ad,aj⟩
 refine NQ O$ NF O$ py$ qN O$ qV (Oh U80 O z9P O (NM.cells (n:=2) aj (news:=[_,_]) O) O)$ NZ ziV O (z8h B N _) ?_
 rintro _ w2 ⟨rfl,ag⟩
 rw[if_pos ⟨g1,g2,g3,g4⟩]
 replace aj:=ag.ND aj
 refine NQ O$ qM O$ Nz O$ P3 O O$ NB$ NN O (λhz=>?_)$ λhz=>?_
 ·exact absurd hz (by decide)
 ·refine An$ qN O$ qV (Oh U80 O z9P O (NM.cells (n:=2) aj (news:=[_,_]) O) O)$ NK O O (pmm) ?_;rintro _ w3 ⟨m,rfl,hm,ah,zr⟩;refine qV (QP (cs:=[_,_,_,_,_,_,_,_,_,_,_]) zhD O zeQ O O)$ NK O O (PW O O) ?_;rintro _ w4 ⟨p,rfl,hp,aB,aH⟩;refine NQ O$ NF O$ NA func27 O ?_;have eg:=ad.size;have dc:=ag.size;have pp:=ah.size;have KN:Vf KI w4 m []:=⟨⟨#[],0,aB.heap zr id,rfl⟩,by simp⟩;refine⟨_,rfl,p,m,rfl,⟨aH,⟨[],KN,λn=>rfl⟩,Sl.nil w4 _ _,Sl.nil w4 _ _,?_⟩,((ad.trans ag).trans ah).trans aB,by omega,by omega⟩;exact⟨⟨by show 16<=B;omega,by show B<=4096;omega⟩,⟨by show 1<=N;omega,by show N<=8;omega⟩,(by simp[Dev.fresh]),(λn s h=>by cases h),(λx hx=>by cases hx),(by simp[Dev.fresh]),(by simp[Dev.fresh])⟩
def over (s:NH)(at':Nat)(d:NH):NH:=s.take at'++d++s.drop (at'+d.length)
def Dev.zci (D:Dev)(n at':Int)(d:NH):Prop:=D.has n=true/\0<=at'/\at'+(d.length:Int)<=((512*D.N:Nat):Int)
instance (D:Dev) (n at':Int) (d:NH):Decidable (D.zci n at' d):=by unfold Dev.zci;infer_instance
def zio (n:Int)(a:Nat)(d:NH)(x:Int×NH):Int×NH:=if x.1=n then(x.1,over x.2 a d) else x
def zcv (n:Int)(a:Nat)(d:NH)(l:List (Int×NH))(i:Nat):List (Int×NH):=(l.take i).map (zio n a d)++l.drop i
@[simp] theorem corTo_length (n:Int) (a:Nat) (d:NH) (l:List (Int×NH)) (i:Nat):(zcv n a d l i).length=l.length:=by simp[zcv];omega
theorem z4b (l:List (Int×NH))(x:Int×NH)(n:Int):Ve (l++[x]) n=if x.1=n then some x.2 else Ve l n:=by
 unfold Ve
 rw[List.reverse_append,List.reverse_singleton,List.singleton_append,List.find?_cons]
 by_cases h:x.1=n
 ·simp[h]
 ·have hb:(x.1==n)=false:=by simpa using h
  simp[hb,h]
/-! ### Bounds -/
def Dev.Small (D:Dev)(k:Nat):Prop:=D.calls<=k/\D.cache.length<=k/\True/\D.Rb.length<=17592186044416
theorem Dev.Small.bd {D:Dev}{k:Nat}(h:D.Small k)(hk:k<1000000000000):D.Bd:=⟨by have:=h.1;omega,by have:=h.2.1;omega,trivial⟩
/-! ### By footprints -/
def z7i (w:World)(p:Nat)(F:Nat->Prop)(D':Dev)(w':World):Prop:=∃F',UJ w' p D' F'/\Upd F F' w w'
theorem z0f.toA {w w':World}{p m:Nat}{kp ca:Value}{D':Dev}{F:Nat->Prop}(hF:∀k,F k↔fpD p m kp ca k)(h:z0f w p m kp ca D' w'):z7i w p F D' w':=by
 have e:F=fpD p m kp ca:=funext λk=>propext (hF k)
 subst e
 obtain⟨kp',ca',h1,h2⟩:=h
 exact⟨_,⟨m,kp',ca',h1,λk=>Iff.rfl⟩,h2⟩
section
variable {w:World}{p:Nat}{D:Dev}{F:Nat->Prop}
theorem z7m (h:UJ w p D F):Oa prog 148 [ptr p 0] w λv w'=>v= .bool D.down/\w'=w:=by
 obtain⟨m,kp,ca,h1,hF⟩:=h;exact z9B h1
theorem z7r (h:UJ w p D F):Oa prog 89 [ptr p 0] w λv w'=>v=I ((512*D.N:Nat):Int)/\w'=w:=by
 obtain⟨m,kp,ca,h1,hF⟩:=h;exact z00 h1
theorem US (h:UJ w p D F):Oa prog 130 [ptr p 0] w λv w'=>v=I (D.B:Int)/\w'=w:=by
 obtain⟨m,kp,ca,h1,hF⟩:=h;exact z4u h1
theorem z5p (n:Int)(s:NH)(h:UJ w p D F){k:Nat}(hs:D.Small k)(hk:k<1000000000000):
  Oa prog 192 [ptr p 0,I n,S s] w λv w'=>v=I (D.write n s).2/\z7i w p F (D.write n s).1 w':=by
 obtain⟨m,kp,ca,h1,hF⟩:=h
 exact(z6P n s h1 (hs.bd hk) hs.2.2.2).mono λv w' ⟨e,h2⟩=>⟨e,h2.toA hF⟩
theorem z7q (n:Int)(h:UJ w p D F){k:Nat}(hs:D.Small k)(hk:k<1000000000000):
  Oa prog 152 [ptr p 0,I n] w λv w'=>v= .tuple #[S (D.read n).2.1,I (D.read n).2.2]/\z7i w p F (D.read n).1 w':=by
 obtain⟨m,kp,ca,h1,hF⟩:=h
 exact(za5 n h1 (hs.bd hk)).mono λv w' ⟨e,h2⟩=>⟨e,h2.toA hF⟩
theorem zby (B N:Nat)(w:World)(hg:YQ B N):Oa prog 27 [.agg #[I (B:Int),I (N:Int)]] w λv w'=>∃p F,v= .tuple #[ptr p 0,I 0]/\UJ w' p (Dev.fresh B N) F/\Ext w w'/\∀i,F i->w.heap.size<=i:=
 (zdC B N w hg).mono λv w' ⟨p,m,e,h,hx,h1,h2⟩=>⟨p,_,e,⟨m,_,_,h,λk=>Iff.rfl⟩,hx,λi hi=>by
  rcases hi with h|h|h| h
  ·omega
  ·omega
  ·cases h
  ·cases h⟩
end
theorem z7i.kpF {w w':World}{p:Nat}{F:Nat->Prop}{D':Dev}(h:z7i w p F D' w'):Kp F w w':=by
 obtain⟨F',-,hu⟩:=h
 exact hu.1
def nrm (z b:Int):Int:=(z.tmod b+b).tmod b
theorem Un (z b:Int)(hb:0<b): -b<z.tmod b/\z.tmod b<b:=by
 have h2:=Int.tmod_lt_of_pos z hb
 refine⟨?_,h2⟩
 have h3:=Int.tmod_lt_of_pos (-z) hb
 rw[Int.neg_tmod] at h3
 omega
theorem Y0 (z b:Int)(hb:0<b):0<=nrm z b/\nrm z b<b:=by
 obtain⟨h1,h2⟩:=Un z b hb
 unfold nrm
 exact⟨Int.tmod_nonneg _ (by omega),Int.tmod_lt_of_pos _ hb⟩
theorem z9V {D:Dev}{n:Int}{s:NH}(hd:D.down=false)(h0:D.due=0)(hn:0<=n/\n<(D.B:Int))(hs:s.length=512*D.N):D.write n s=((D.push n s).count,0):=by
 have hh:D.has n=true:=by simp[Dev.has];omega
 unfold Dev.write
 rw[if_neg (by simp[hd]),if_neg (by simp[hh,hs]),if_neg (by omega)]
def grow:Nat->NH->Nat->NH
 |0,s,_=>s
 |f+1,s,n=>if s.length<n then grow f (s++s) n else s
def fill (s:NH)(n:Nat):NH:=(grow (n+1) (if s=[] then [0] else s) n).take n
section
variable {κ:Type}[DecidableEq κ]{K:κ->Value}{P:Program}{e:Env}{d:Option Nat}{ty t kt el:TypeId}{pos:String}{aft:Array Edge}{g:Option (Nat×Bool)}{x y u:Operand}{w:World}{m:Nat}{z:Value}{size bytes:Nat}{k:κ}
theorem zit (ht:P.underlying t=some (.map kt el))(hK:Ky P kt K)(hz:TI P el z size bytes)(hx:look e x=some (.map none))(hy:look e y=some (K k)):
  Y P e ⟨d,.lookup t x y false,ty,pos,aft,g⟩ z w w:=fun ρ hρ=>by
 have AZ:=hz.zero (w:=w)
 have sG:=λb=>hK.same.choose_spec.2.2 w b 9999 k
 have hu:=hK.same.choose_spec.1
 simp[execOp,hρ _ _ hx,hρ _ _ hy,Instr.lookup,run_underlying ht,sG,AZ,Instr.findKey,run_underlying hu,Instr.findNow]
end
structure QM (w:World)(ks mp:Value)(l:List Int):Prop where
 sl:Sl w ks 3 1 l.length (l.map I)
 mp:(mp= .map none/\l=[])\/∃b,mp= .map (some b)/\Rg KI w b (l.map λk=>(k,I 1))
 n:l.length<=8192
def Fq (ks mp:Value)(b:Nat):Prop:=ks.ownBlock=some b\/mp= .map (some b)
section
variable {w w':World}{ks mp:Value}{l:List Int}{S:Nat->Prop}{c o:Nat}{cs:List Value}{k:Int}
theorem QM.kp (h:QM w ks mp l)(hk:Kp S w w')(hn:∀b,Fq ks mp b->¬S b):QM w' ks mp l:=
 ⟨h.sl.kp hk λg e=>hn g (.inl e),by
  rcases h.mp with e|⟨b,e,hm⟩
  ·exact .inl e
  ·exact .inr ⟨b,e,hm.kp hk (hn b (.inr e))⟩,h.n⟩
theorem QM.lt (h:QM w ks mp l){b:Nat}(hb:Fq ks mp b):b<w.heap.size:=by
 rcases hb with e| e
 ·exact h.sl.lt e
 ·rcases h.mp with⟨e',-⟩|⟨b',e',hm⟩
  ·rw[e'] at e;cases e
  ·rw[e'] at e;cases e;exact hm.lt
theorem QM.ne (h:QM w ks mp l){b:Nat}(hb:ks.ownBlock=some b):mp≠ .map (some b):=λe=>by
 obtain⟨cur,h1⟩:=h.sl.typed hb
 rcases h.mp with⟨e',-⟩|⟨b',e',hm⟩
 ·rw[e'] at e;cases e
 ·rw[e'] at e;cases e;obtain⟨⟨es,cl,h2,-⟩,-⟩:=hm;rw[h1] at h2;cases h2
theorem QM.nd (h:QM w ks mp l):l.Nodup:=by
 rcases h.mp with⟨-,e⟩|⟨b',e',hm⟩
 ·rw[e];exact List.nodup_nil
 ·have:=hm.nd;rw[List.map_map] at this;have e:((λp:Int×Value=>p.1) ∘ λk:Int=>(k,I 1))=id:=rfl;rw[e,List.map_id] at this;exact this
theorem z2J (l:List Int)(k:Int):PX (l.map λk=>(k,I 1)) k=if k∈l then some (I 1) else none:=by
 induction l with
 |nil=>rfl
 | cons a l ih =>
   show(if k=a then some (I 1) else PX (l.map λk=>(k,I 1)) k)=_;rw[ih];by_cases h:k=a
   ·simp[h]
   ·simp[h]
theorem z9K (l:List Int)(k:Int):delL (l.map λk=>(k,I 1)) k=(l.erase k).map λk=>(k,I 1):=by
 induction l with
 |nil=>rfl
 | cons a l ih =>
   show(if k=a then l.map (λk=>(k,I 1)) else(a,I 1)::delL (l.map λk=>(k,I 1)) k)=_;rw[ih,List.erase_cons];by_cases h:k=a
   ·subst h;simp
   ·rw[if_neg h,if_neg (by simpa using λe=>h e.symm)];rfl
theorem yqk {P:Program}{e:Env}{d:Option Nat}{ty t kt el:TypeId}{pos:String}{aft:Array Edge}{g:Option (Nat×Bool)}{x y:Operand}{bytes:Nat}(ht:P.underlying t=some (.map kt el))(hK:P.underlying kt=some (.int .i64))(hz:TI P el (I 0) 1 bytes)(hx:look e x=some mp)(hy:look e y=some (I k))(hq:QM w ks mp l):
  Y P e ⟨d,.lookup t x y false,ty,pos,aft,g⟩ (I (if k∈l then 1 else 0)) w w:=by
 rcases hq.mp with⟨rfl,rfl⟩|⟨b,rfl,hm⟩
 ·rw[if_neg (by simp)];exact zit (k:=k) (K:=KI) ht (QG hK) hz hx hy
 ·have h:=ylk (k:=k) (K:=KI) (d:=d) (ty:=ty) (pos:=pos) (aft:=aft) (g:=g) ht (QG hK) hz hx hy hm.l;rw[z2J] at h;by_cases hk:k∈l
  ·rw[if_pos hk] at h⊢;exact h
  ·rw[if_neg hk] at h⊢;exact h
theorem z8H (hB:NM w c cs 191)(h1:cs[o+1]? =some mp)(hq:QM w ks mp l):Oa prog 176 [ptr c o,I k] w λv w'=>v= .bool (decide (k∈l))/\w'=w:=by
 refine Nu (e:=[(0,_),(1,_)]) func176 O ntmps176 O O$ qN O$ NQ O$ qM O$ Nz O$ O8 O$ NO WL O$ qV (NJ VS O O hB h1)$ Nz O$ qV (yqk (k:=k) VS U3 OL O O hq)$ P9 O O$ NF O$ NA func176 O (⟨_,rfl,?_,rfl⟩)
 by_cases hk:k∈l
 ·simp[hk,OR]
 ·simp[hk,OR]
theorem z5v {lv:Value}(x:Int)(hR:Rd w lv 1 l.length (l.map I))(hl:l.length<=4294967296):
  Oa prog 208 [lv,I x] w λv w'=>w'=w/\((x∉l/\v=I (-1))\/∃i:Nat,v=I (i:Int)/\l[i]? =some x/\x∉l.take i):=by
 obtain⟨a,cap,rfl,-⟩:=hR.shape
 refine Nu (e:=[(0,_),(1,_)]) func208 O ntmps208 O O$ qN O$ NF O$ py$ qN O$ Nz O$ Q0 Qd O$ Nz O$ NB$ Nw$ Qb (α:=Nat) (0) (λi=>[(0,.slice a l.length cap),(1,I x),(7,I (l.length:Int)),(8,I (i:Int))]) (λi w'=>w'=w/\i<=l.length/\x∉l.take i) (λi=>l.length-i) ?hI ?hround
 case hI=>exact⟨rfl,Nat.zero_le _,by simp⟩
 case hround=>
  rintro i wi ⟨rfl,hi,gD⟩ ih
  try dsimp only
  refine qN O$ Pb O O$ NB$ py$ NN O (λaU=>?_)$ λaU=>?_
  ·have qQ:i<l.length:=by omega
   obtain⟨s,oo⟩:∃s,l[i]? =some s:=⟨_,List.getElem?_eq_getElem qQ⟩
   obtain⟨lb,lo,lc,e5⟩:∃b o c',Value.slice a l.length cap= .slice (some ⟨b,o,none⟩) l.length c':=by
    rcases hR.2 with⟨c,hc,h0⟩|⟨b,off,c',hc,-⟩
    ·omega
    ·exact⟨b,off,c',hc⟩
   cases e5;refine An$ py$ Nw$ qN O$ Nz O$ NQ O$ qM O$ NT O O$ Nz O$ qV (OH Qd OL O O (by omega))$ qV (Oi U3 O O (P6 hR (show(l.map I)[i]? =some (I s) by rw[List.getElem?_map,oo];rfl))) ?_;refine Px O O$ NB$ NN O (λhe=>?_)$ λhe=>?_
   ·refine qN O$ Nz O$ NF O$ NA func208 O ?_;exact⟨_,rfl,rfl,.inr ⟨i,rfl,by rw[he];exact oo,gD⟩⟩
   ·refine An$ Ny$ NC O$ OI O O$ Nz O$ NB ((ih (i+1) _ ⟨rfl,qQ,λhh=>?_⟩ (by omega)).qb);rw[OB oo,List.mem_append,List.mem_singleton] at hh;rcases hh with h| h
    ·exact gD h
    ·exact he h
  ·have:i=l.length:=by omega
   subst this;rw[List.take_length] at gD;refine NL O$ qN O$ NF O$ NA func208 O ?_;exact⟨_,rfl,rfl,.inl ⟨gD,rfl⟩⟩
theorem z9E {i:Nat}{x:Int}(h:l[i]? =some x)(hn:x∉l.take i):l.take i++l.drop (i+1)=l.erase x:=by
 obtain⟨hi,e⟩:=List.getElem?_eq_some_iff.1 h
 conv=>rhs;rw[<-List.take_append_drop i l]
 rw[List.erase_append_right _ hn,List.drop_eq_getElem_cons hi,e,List.erase_cons_head]
theorem z3J {α:Type}{l:List α}{i:Nat}{a:α}(h:l[i]? =some a):l.set i a=l:=by
 obtain⟨hi,e⟩:=List.getElem?_eq_some_iff.1 h
 rw[<-e,List.set_getElem_self]
theorem z7y (hB:NM w c cs 191)(h0:cs[o]? =some ks)(h1:cs[o+1]? =some mp)(hq:QM w ks mp l)(nc:¬Fq ks mp c):Oa prog 177 [ptr c o,I k] w λv w'=>∃ks',v= .tuple #[]/\NM w' c (cs.set o ks') 191/\QM w' ks' mp (l.erase k)/\(∀b,Fq ks' mp b->Fq ks mp b)/\Kp (λb=>b=c\/Fq ks mp b) w w':=by
 have hn:=hq.n
 have fV:=hq.nd
 refine Nu (e:=[(0,_),(1,_)]) func177 O ntmps177 O O$ qN O$ Nz O$ O8 O$ NO OW O$ qV (NJ Qd O O hB h0)$ Nz O$ NZ zd4 O (z5v k hq.sl.rd (by omega)) ?_
 rintro _ w ⟨rfl,hv⟩
 rcases hv with⟨hk,rfl⟩|⟨i,rfl,hi,vU⟩
 ·refine NQ O$ qM O$ Nz O$ RN O O$ Ox$ NB$ It O$ An$ Pq func177 O (⟨_,rfl,ks,rfl,?_,?_,λb hb=>hb,Kp.refl _ _⟩)
  ·rw[z3J h0];exact hB
  ·rw[List.erase_of_not_mem hk];exact hq
 ·have sg:k∈l:=List.mem_of_getElem? hi;have cu:=(List.getElem?_eq_some_iff.1 hi).1;refine NQ O$ qM O$ Nz O$ RN O O$ PE$ NB$ NI O$ qN O$ NT O O$ O8 O$ NO OW O$ qV (NJ Qd O O hB h0)$ NT O O$ OI O O ?_;refine NZ zgr O (z9e hq.sl (λc hc=>by obtain⟨z,-,rfl⟩:=List.mem_map.1 hc;rfl) cu (by omega)) ?_;rintro ks2 w2 ⟨cm,aq,jP⟩
  have e2:(l.map I).take i++(l.map I).drop (i+1)=(l.erase k).map I:=by
   rw[<-List.map_take,<-List.map_drop,<-List.map_append,z9E hi vU]
  rw[e2] at cm;have gO:(l.erase k).length=l.length-1:=List.length_erase_of_mem sg;rw[<-gO] at cm;have jB:¬ks.ownBlock=some c:=λe=>nc (.inl e);have am:=aq.ND hB jB;refine O8 O$ NO OW O$ NP O (PA z4a O O (zay cm) am (by have:=(List.getElem?_eq_some_iff.1 h0).1;omega)) ?_;rintro w3 ⟨ar,aw⟩
  obtain⟨b,rfl,hm⟩:∃b,mp= .map (some b)/\Rg KI w b (l.map λk=>(k,I 1)):=by
   rcases hq.mp with⟨-,e⟩| h
   ·rw[e] at sg;cases sg
   ·exact h
  have HC:c≠b:=λe=>nc (.inr (by rw[e]));have AN:ks.ownBlock≠some b:=λe=>hq.ne e O;have zu:o+1<cs.length:=(List.getElem?_eq_some_iff.1 h1).1;have lq:=(hm.kp aq AN).kp aw (λe=>HC e.symm);have Eh:(cs.set (o+0) ks2)[o+1]? =some (Value.map (some b)):=by rw[List.getElem?_set_ne (by omega)];exact h1
  refine NB$ NC O$ Nz O$ O8 O$ NO WL O$ qV (NJ VS O O ar Eh)$ Nz O$ zaE O (zdU (k:=k) (K:=KI) VS (QG U3) O O lq O) ?_;rintro _ w4 ⟨Bb,ao⟩;rw[z9K] at Bb;refine NB$ Of.qb (e:=[]) ?_;refine Pq func177 O ?_;have kA:Kp (λj=>j=c\/Fq ks (.map (some b)) j) w w4:=((aq.NR λj e=> .inr (.inl e)).trans (aw.NR λj e=> .inl e)).trans (ao.NR λj e=> .inr (.inr (by rw[e])));exact⟨_,rfl,ks2,rfl,ao.ND ar HC,⟨(cm.kp aw λg e e'=>nc (.inl (e'▸jP g e))).kp ao λg e e'=>AN (e'▸jP g e),.inr ⟨b,rfl,Bb⟩,by omega⟩,λj hj=>hj.imp (jP j) id,kA⟩
theorem zan (hB:NM w c cs 191)(h0:cs[o]? =some ks)(h1:cs[o+1]? =some mp)(hq:QM w ks mp l)(nc:¬Fq ks mp c)(hk:k∉l)(hl:l.length<=8191):Oa prog 187 [ptr c o,I k] w λv w'=>∃ks' mp',v= .tuple #[]/\NM w' c ((cs.set (o+1) mp').set o ks') 191/\QM w' ks' mp' (l++[k])/\(∀b,Fq ks' mp' b->Fq ks mp b\/w.heap.size<=b)/\Kp (λb=>b=c\/Fq ks mp b) w w':=by
 have hn:=hq.n
 have fV:=hq.nd
 have lc:=hB.lt
 have zu:o+1<cs.length:=(List.getElem?_eq_some_iff.1 h1).1
 obtain⟨mo,rfl,Bc⟩:∃mo,mp= .map mo/\((mo=none/\l=[])\/∃b,mo=some b/\Rg KI w b (l.map λk=>(k,I 1))):=by
  rcases hq.mp with⟨e,e2⟩|⟨b,e,e2⟩
  ·exact⟨_,e,.inl ⟨rfl,e2⟩⟩
  ·exact⟨_,e,.inr ⟨b,rfl,e2⟩⟩
 refine Nu (e:=[(0,_),(1,_)]) func187 O ntmps187 O O$ py$ qN O$ Nz O$ O8 O$ NO WL O$ qV (NJ VS O O hB h1)$ qV (zfm VS O O)$ NB$ Oy (λe' w'=>∃b,e'=[(0,ptr c o),(1,I k)]/\NM w' c (cs.set (o+1) (.map (some b))) 191/\Rg KI w' b (l.map λk=>(k,I 1))/\Sl w' ks 3 1 l.length (l.map I)/\(mo=some b\/w.heap.size<=b)/\Kp (λj=>j=c) w w'/\b≠c/\ks.ownBlock≠some b) ?cJ$ λcJ=>?di
 case cJ=>
  rintro e' w1 ⟨b,rfl,aj,dQ,j7,hb,aM,HD,gW⟩;have pJ:(cs.set (o+1) (Value.map (some b)))[o+1]? =some (.map (some b)):=List.getElem?_set_self zu;have fX:(cs.set (o+1) (Value.map (some b)))[o]? =some ks:=by rw[List.getElem?_set_ne (by omega)];exact h0
  have z1:=aM.size;refine qN O$ Nz O$ O8 O$ NO WL O$ qV (NJ VS O O aj pJ)$ Nz O$ NP O (ze3 (k:=k) (K:=KI) VS (QG U3) O O O dQ) ?_;rintro w2 ⟨mU,aq⟩;rw[Tj _ _ _ (by rw[z2J,if_neg hk])] at mU;have am:=aq.ND aj (λe=>HD e.symm);have cm:=j7.kp aq (λg e e'=>gW (e'▸e));refine NB$ NC O$ NT O O$ O8 O$ NO OW O$ qV (NJ Qd O O am fX)$ Nz O$ NK O O (Ur (cs:=[_]) (zs:=[Value.int .i64 0]) Qd OL O (by kernel_rfl) O O O (by decide)) ?_;rintro _ w3 ⟨b24,rfl,⟨KO,ah,ir⟩,Er⟩;have lb:=mU.lt;have z2:=aq.size;refine NK O O (pap Qd OL O (by decide) O O (cm.ext ah) Er.rd (by intro c hc;simp at hc;subst hc;rfl) (by omega) (by simp only[maxLen];omega)) ?_;rintro ks4 w4 ⟨ee,ao,HE,-⟩;have z3:=ah.size;have z4:=ao.size;have jB:ks.ownBlock≠some c:=λe=>nc (.inl e);have aH:=ao.ND (ah.ND am) jB;have Bb:=(mU.ext ah).kp ao gW;refine O8 O$ NO OW O$ NP O (PA z4a O O (zay ee) aH (by rw[List.length_set];omega)) ?_;rintro w5 ⟨aC,ai⟩;refine NB$ Pq func187 O ?_
  have lk4:∀g,ks4.ownBlock=some g->g≠c:=λg e e'=>by
   rcases HE g e with h| h
   ·exact jB (e'▸h)
   ·omega
  have aA:(l++[k]).length=l.length+1:=by simp
  refine⟨_,rfl,ks4,.map (some b),rfl,aC,⟨?_,.inr ⟨b,rfl,?_⟩,by omega⟩,λj hj=>?_,?_⟩
  ·rw[List.map_append,aA];exact ee.kp ai λg e e'=>lk4 g e e'
  ·rw[List.map_append];exact Bb.kp ai HD
  ·rcases hj with hj|hj
   ·rcases HE j hj with h| h
    ·exact .inl (.inl h)
    ·exact .inr (by omega)
   ·cases hj;rcases hb with h| h
    ·exact .inl (.inr (by rw[h]))
    ·exact .inr h
  ·have Es:Kp (λj=>j=c\/Fq ks (.map mo) j) w w2:=by
    rcases hb with h| h
    ·exact(aM.NR λj e=> .inl e).trans (aq.NR λj e=> .inr (.inr (by rw[h,e])))
    ·exact(aM.NR λj e=> .inl e).Nv aq (λj e=>by omega)
   exact((Es.trans ah.kp).trans (ao.NR λj e=> .inr (.inl e))).trans (ai.NR λj e=> .inl e)
 case di=>
  rcases Bc with⟨rfl,rfl⟩|⟨b,rfl,hm⟩
  ·refine NI O$ NC O$ Nz O$ NK O O (pmm) ?_;rintro _ w1 ⟨b,rfl,hb,ad,cM⟩;have dQ:Rg KI w1 b []:=Rg.new cM;have aj:=ad.ND hB;refine O8 O$ NO WL O$ NP O (PA z62 O O O aj zu) ?_;rintro w2 ⟨am,aq⟩;refine NB ?_;have lb:=dQ.lt;exact(cJ _ _ ⟨b,rfl,am,dQ.kp aq (by omega),(hq.sl.ext ad).kp aq (λg e e'=>nc (.inl (e'▸e))),.inr (by omega),ad.kp.trans aq,by omega,λe=>by have:=hq.sl.lt e;omega⟩).qb
  ·refine It O$ An ?_;exact(cJ _ _ ⟨b,rfl,by rw[z3J h1];exact hB,hm,hq.sl,.inl O,Kp.refl _ _,λe=>nc (.inr (by rw[e])),λe=>hq.ne e O⟩).qb
end
def Arc.li (A:Arc):Nat->List Int
 |0=>A.once
 |1=>A.often
 |2=>A.O2
 |_=>A.NU
def Arc.P5 (A:Arc):Nat->List Int->Arc
 |0,l=>{A with once:=l}
 |1,l=>{A with often:=l}
 |2,l=>{A with O2:=l}
 |_,l=>{A with NU:=l}
theorem Arc.zdD (A:Arc){j:Nat}(hj:j<4)(l:List Int)(i:Nat)(hi:i<4):(A.P5 j l).li i=if i=j then l else A.li i:=by
 match j,hj,i,hi with
 |0,_,0,_|0,_,1,_|0,_,2,_|0,_,3,_|1,_,0,_|1,_,1,_|1,_,2,_|1,_,3,_|2,_,0,_|2,_,1,_|2,_,2,_|2,_,3,_|3,_,0,_|3,_,1,_|3,_,2,_|3,_,3,_=>rfl
def z6V (V:Nat->Value×Value)(j:Nat)(q:Value×Value)(i:Nat):Value×Value:=if i=j then q else V i
def acC (S:Nat)(T:Int)(V:Nat->Value×Value)(p:Nat):List Value:=[I (S:Int),(V 0).1,(V 0).2,(V 1).1,(V 1).2,(V 2).1,(V 2).2,(V 3).1,(V 3).2,I T,.map (some p)]
abbrev FV (V:Nat->Value×Value)(j b:Nat):Prop:=Fq (V j).1 (V j).2 b
structure Rk (w:World)(c:Nat)(A:Arc)(V:Nat->Value×Value)(p:Nat):Prop where
 ND:NM w c (acC A.size A.target V p) 191
 q:∀j,j<4->QM w (V j).1 (V j).2 (A.li j)
 pins:Vf KI w p []
 UA:∀i j,i<4->j<4->i≠j->∀b,FV V i b->¬FV V j b
 nc:∀j,j<4->¬FV V j c
 np:∀j,j<4->¬FV V j p
 cp:c≠p
def Rf (c:Nat)(V:Nat->Value×Value)(p b:Nat):Prop:=b=c\/b=p\/∃j,j<4/\FV V j b
section
variable {w w' w2:World}{c p:Nat}{A A' A2:Arc}{V V' V2:Nat->Value×Value}{S:Nat->Prop}{k:Int}
theorem Rk.kp (h:Rk w c A V p)(hk:Kp S w w')(hn:∀b,Rf c V p b->¬S b):Rk w' c A V p:=
 ⟨hk.ND h.ND (hn _ (.inl O)),λj hj=>(h.q j hj).kp hk λb hb=>hn b (.inr (.inr ⟨j,hj,hb⟩)),hk.map h.pins (hn _ (.inr (.inl O))),h.UA,h.nc,h.np,h.cp⟩
theorem Rk.ext (h:Rk w c A V p)(hx:Ext w w'):Rk w' c A V p:=h.kp (S:=λ_=>False) hx λ_ _=>id
theorem Rk.lt (h:Rk w c A V p){b:Nat}(hb:Rf c V p b):b<w.heap.size:=by
 rcases hb with e|e|⟨j,hj,hb⟩
 ·rw[e];exact h.ND.lt
 ·rw[e];exact h.pins.lt
 ·exact(h.q j hj).lt hb
structure UK (w:World)(c:Nat)(V:Nat->Value×Value)(p:Nat)(w':World)(A':Arc)(V':Nat->Value×Value):Prop where
 m:Rk w' c A' V' p
 fp:∀b,Rf c V' p b->Rf c V p b\/w.heap.size<=b
 k:Kp (Rf c V p) w w'
theorem UK.trans (h:UK w c V p w' A' V')(h2:UK w' c V' p w2 A2 V2):UK w c V p w2 A2 V2:=
 ⟨h2.m,λb hb=>by
  rcases h2.fp b hb with e| e
  ·exact h.fp b e
  ·exact .inr (by have:=h.k.size;omega),h.k.Nv h2.k λb hb=>(h.fp b hb).symm⟩
theorem Rk.r (h:Rk w c A V p)(hx:Ext w w'):UK w c V p w' A V:=⟨h.ext hx,λb hb=> .inl hb,hx.kp⟩
theorem Rk.UX {j:Nat}(hj:j<4)(h:Rk w c A V p){ks mp:Value}{l:List Int}(hB:NM w' c (acC A.size A.target (z6V V j (ks,mp)) p) 191)(hs:(A.P5 j l).size=A.size/\(A.P5 j l).target=A.target)(hq:QM w' ks mp l)(hf:∀b,Fq ks mp b->FV V j b\/w.heap.size<=b)(hk:Kp (λb=>b=c\/FV V j b) w w'):UK w c V p w' (A.P5 j l) (z6V V j (ks,mp)):=by
 have aU:∀{b:Nat},Rf c V p b->b<w.heap.size:=h.lt
 have aY:∀i,i<4->i≠j->∀b,FV V i b->¬(b=c\/FV V j b):=λi hi iq b hb e=>by
  rcases e with e| e
  ·exact h.nc i hi (e▸hb)
  ·exact h.UA i j hi hj iq b hb e
 have eg:∀i,i≠j->z6V V j (ks,mp) i=V i:=λi e=>if_neg e
 have dc:z6V V j (ks,mp) j=(ks,mp):=if_pos O
 refine⟨⟨by rw[hs.1,hs.2];exact hB,λi hi=>?_,hk.map h.pins (λe=>?_),λi i2 hi dG bD b hb bQ=>?_,λi hi hb=>?_,λi hi hb=>?_,h.cp⟩,λb hb=>?_,hk.NR λb hb=>?_⟩
 ·rw[Arc.zdD A hj l i hi];by_cases e:i=j
  ·rw[if_pos e,e,dc];exact hq
  ·rw[if_neg e,eg i e];exact(h.q i hi).kp hk λb hb=>aY i hi e b hb
 ·rcases e with e| e
  ·exact h.cp e.symm
  ·exact h.np j hj e
 ·by_cases e:i=j
  ·have e2:i2≠j:=λe2=>bD (e.trans e2.symm);unfold FV at hb bQ;rw[e,dc] at hb;rw[eg i2 e2] at bQ;rcases hf b hb with h1|h1
   ·exact h.UA j i2 hj dG (λe3=>e2 e3.symm) b h1 bQ
   ·have:=aU (.inr (.inr ⟨i2,dG,bQ⟩));omega
  ·unfold FV at hb bQ;rw[eg i e] at hb;by_cases e2:i2=j
   ·rw[e2,dc] at bQ;rcases hf b bQ with h1|h1
    ·exact h.UA i j hi hj e b hb h1
    ·have:=aU (.inr (.inr ⟨i,hi,hb⟩));omega
   ·rw[eg i2 e2] at bQ;exact h.UA i i2 hi dG bD b hb bQ
 ·by_cases e:i=j
  ·unfold FV at hb;rw[e,dc] at hb;rcases hf c hb with h1|h1
   ·exact h.nc j hj h1
   ·have:=h.ND.lt;omega
  ·unfold FV at hb;rw[eg i e] at hb;exact h.nc i hi hb
 ·by_cases e:i=j
  ·unfold FV at hb;rw[e,dc] at hb;rcases hf p hb with h1|h1
   ·exact h.np j hj h1
   ·have:=h.pins.lt;omega
  ·unfold FV at hb;rw[eg i e] at hb;exact h.np i hi hb
 ·rcases hb with e|e|⟨i,hi,hb⟩
  ·exact .inl (.inl e)
  ·exact .inl (.inr (.inl e))
  ·by_cases e:i=j
   ·unfold FV at hb;rw[e,dc] at hb;rcases hf b hb with h1|h1
    ·exact .inl (.inr (.inr ⟨j,hj,h1⟩))
    ·exact .inr h1
   ·unfold FV at hb;rw[eg i e] at hb;exact .inl (.inr (.inr ⟨i,hi,hb⟩))
 ·rcases hb with e| e
  ·exact .inl e
  ·exact .inr (.inr ⟨j,hj,e⟩)
theorem VI (S:Nat)(T:Int)(V:Nat->Value×Value)(p:Nat){j:Nat}(hj:j<4):(acC S T V p)[1+2*j]? =some (V j).1/\(acC S T V p)[1+2*j+1]? =some (V j).2:=by
 match j,hj with
 |0,_|1,_|2,_|3,_=>exact⟨rfl,rfl⟩
theorem zb2 (S:Nat)(T:Int)(V:Nat->Value×Value)(p:Nat){j:Nat}(hj:j<4)(ks mp:Value):((acC S T V p).set (1+2*j+1) mp).set (1+2*j) ks=acC S T (z6V V j (ks,mp)) p:=by
 match j,hj with
 |0,_|1,_|2,_|3,_=>rfl
theorem zad (S:Nat)(T:Int)(V:Nat->Value×Value)(p:Nat){j:Nat}(hj:j<4)(ks:Value):(acC S T V p).set (1+2*j) ks=acC S T (z6V V j (ks,(V j).2)) p:=by
 match j,hj with
 |0,_|1,_|2,_|3,_=>rfl
theorem Za (A:Arc){j:Nat}(hj:j<4)(l:List Int):(A.P5 j l).size=A.size/\(A.P5 j l).target=A.target:=by
 match j,hj with
 |0,_|1,_|2,_|3,_=>exact⟨rfl,rfl⟩
theorem U8 (h:Rk w c A V p){j:Nat}(hj:j<4):Oa prog 176 [ptr c (1+2*j),I k] w λv w'=>v= .bool (decide (k∈A.li j))/\w'=w:=
 z8H h.ND (VI _ _ _ _ hj).2 (h.q j hj)
theorem OZ (h:Rk w c A V p){j:Nat}(hj:j<4):Oa prog 177 [ptr c (1+2*j),I k] w λv w'=>v= .tuple #[]/\∃V',UK w c V p w' (A.P5 j ((A.li j).erase k)) V':=by
 refine(z7y h.ND (VI _ _ _ _ hj).1 (VI _ _ _ _ hj).2 (h.q j hj) (h.nc j hj) (k:=k)).mono λv w' hv=>?_
 obtain⟨ks',rfl,hB,hq,hf,hk⟩:=hv
 rw[zad _ _ _ _ hj] at hB
 exact⟨rfl,_,h.UX hj hB (Za A hj _) hq (λb hb=> .inl (hf b hb)) hk⟩
theorem PG (h:Rk w c A V p){j:Nat}(hj:j<4)(hk:k∉A.li j)(hl:(A.li j).length<=8191):Oa prog 187 [ptr c (1+2*j),I k] w λv w'=>v= .tuple #[]/\∃V',UK w c V p w' (A.P5 j (A.li j++[k])) V':=by
 refine(zan h.ND (VI _ _ _ _ hj).1 (VI _ _ _ _ hj).2 (h.q j hj) (h.nc j hj) hk hl).mono λv w' hv=>?_
 obtain⟨ks',mp',rfl,hB,hq,hf,hk⟩:=hv
 rw[zb2 _ _ _ _ hj] at hB
 exact⟨rfl,_,h.UX hj hB (Za A hj _) hq hf hk⟩
def z4h (n:Nat):Arc:=⟨n,[],[],[],[],0⟩
theorem zbq {n:Nat}(h:1<=n):(z4h n).Ok:=⟨h,List.nodup_nil,Nat.zero_le _,Nat.zero_le _,Nat.zero_le _,⟨Int.le_refl _,by show(0:Int)<=(n:Int);omega⟩⟩
theorem z9l (n:Nat)(h1:1<=n)(h2:n<=4096)(w:World):Oa prog 53 [I (n:Int)] w λv w'=>∃c V p,v= .tuple #[ptr c 0,I 0]/\Rk w' c (z4h n) V p/\(∀b,Rf c V p b->w.heap.size<=b)/\Ext w w':=by
 refine Nu (e:=[(0,_)]) func53 O ntmps53 O O$ qN O$ NQ O$ NF O$ py$ qN O$ Nz O$ Pb O O$ Ox$ NT O O$ P9 O O$ Ox$ OC O O$ NB ?_
 refine It O$ An$ qN O$ Nz O$ NK O O (pmm) ?_
 rintro _ w1 ⟨p,rfl,hp,ad,cM⟩
 refine qV (QP (cs:=[_,_,_,_,_,_,_,_,_,_,_]) zhf O zfU O O)$ NK O O (PW O (cs:=acC n 0 (λ_=>(.slice none 0 0,.map none)) p) O) ?_
 rintro _ w2 ⟨c,rfl,hc,ag,am⟩
 refine NQ O$ NF O$ NA func53 O ?_
 have dQ:Rg KI w1 p []:=Rg.new cM
 have lp:=dQ.lt
 have gD:∀b,¬Fq (.slice none 0 0) (.map none) b:=λb e=>by rcases e with e|e<;>cases e
 refine⟨_,rfl,c,_,p,rfl,⟨am,λj hj=>⟨?_,?_,?_⟩,ag.map dQ.l,λi j hi hj bD b hb=>absurd hb (gD b),λj hj=>gD c,λj hj=>gD p,by omega⟩,λb hb=>?_,ad.trans ag⟩
 ·have e:(z4h n).li j=[]:=by match j,hj with|0,_|1,_|2,_|3,_=>rfl
  rw[e];exact Sl.nil _ _ _
 ·left
  refine⟨rfl,?_⟩
  match j,hj with|0,_|1,_|2,_|3,_=>rfl
 ·have e:(z4h n).li j=[]:=by match j,hj with|0,_|1,_|2,_|3,_=>rfl
  rw[e];exact Nat.zero_le _
 ·rcases hb with e|e|⟨j,hj,hb⟩
  ·have:=ad.size;omega
  ·omega
  ·exact absurd hb (gD b)
end
section
variable {w w' w2:World}{c p:Nat}{A A' A2:Arc}{V V' V2:Nat->Value×Value}{S:Nat->Prop}{k:Int}
theorem Rk.cells (h:Rk w c A V p):NM w c [I (A.size:Int),(V 0).1,(V 0).2,(V 1).1,(V 1).2,(V 2).1,(V 2).2,(V 3).1,(V 3).2,I A.target,.map (some p)] 191:=h.ND
theorem z0O (h:Rk w c A V p):Oa prog 175 [ptr c 0,I k] w λv w'=>v= .bool (decide (k∈A.once\/k∈A.often))/\w'=w:=by
 have h0:=U8 h (j:=0) (k:=k) (by decide)
 have h1:=U8 h (j:=1) (k:=k) (by decide)
 rw[show A.li 0=A.once from rfl] at h0
 rw[show A.li 1=A.often from rfl] at h1
 refine Nu (e:=[(0,_),(1,_)]) func175 O ntmps175 O O$ qN O$ NQ O$ qM O$ Nz O$ qV (z2M z9p O O)$ NT O O$ O8 O$ NO Pp O$ Nz O$ NZ W9 O (h0) ?_
 rintro _ w ⟨rfl,rfl⟩
 by_cases ia:k∈A.once
 ·rw[decide_eq_true ia];refine Nz O$ qS$ qS$ qS$ qS$ qS$ Pc O O$ Pc O O$ NF O$ NA func175 O ?_;exact⟨_,rfl,by rw[decide_eq_true (Or.inl ia)];rfl,rfl⟩
 ·rw[decide_eq_false ia];refine NT O O$ O8 O$ NO Q4 O$ Nz O$ NZ W9 O (h1) ?_;rintro _ w ⟨rfl,rfl⟩;refine OC O O$ Pc O O$ NF O$ NA func175 O (⟨_,rfl,?_,rfl⟩);by_cases aM:k∈A.often
  ·simp[ia,aM,OR]
  ·simp[ia,aM,OR]
def VU:List Int->Value
 |[]=> .tuple #[I 0,.bool false]
 |a::_=> .tuple #[I a,.bool true]
theorem Ua (h:Rk w c A V p){j:Nat}(hj:j<4):Oa prog 188 [ptr c 0,ptr c (1+2*j)] w λv w'=>v=VU (A.li j)/\w'=w:=by
 have hB:=h.cells
 have hg:=(VI A.size A.target V p hj).1
 have hq:=h.q j hj
 obtain⟨ka,kc,gY,Et⟩:∃a c,(V j).1= .slice a (A.li j).length c/\(a=none->(A.li j).length=0):=hq.sl.rd.shape
 rw[gY] at hg
 have hR:=hq.sl.rd
 have hn:=hq.n
 rw[gY] at hR
 refine Nu (e:=[(0,_),(1,_)]) func188 O ntmps188 O O$ qN O$ NQ O$ NF O$ py$ qN O$ Nz O$ O8 O$ NO OW O$ qV (NJ Qd O O h.ND hg)$ Q0 Qd O$ Nz O$ NB$ Nw ?_
 cases hl:A.li j with
 | nil =>
   rw[hl] at hR;refine Qb (α:=Unit) (()) (λ_=>[(0,ptr c 0),(12,.slice ka 0 kc),(13,I 0),(14,I 0)]) (λ_ w'=>w'=w) (λ_=>0) ?hI ?hround
   case hI=>rfl
   case hround=>
    rintro i w2 rfl ih
    try dsimp only
    refine qN O$ Pb O O$ Ox$ NB$ py$ It O$ NL O$ qN O$ NQ O$ qM O$ Nz O$ NQ O$ NF O$ NA func188 O ?_
    exact⟨_,rfl,rfl,rfl⟩
 | cons x r =>
   rw[hl] at hR Et hn
   obtain⟨kb,rfl⟩:∃b,ka=some b:=by
    cases ka with
    |none=>have:=Et O;simp at this
    |some b=>exact⟨b,rfl⟩
   obtain⟨lb,lo,lc,e5⟩:∃b o c',Value.slice (some kb) (x::r).length kc= .slice (some ⟨b,o,none⟩) (x::r).length c':=by
    rcases hR.2 with⟨c,hc,h0⟩|⟨b,off,c',hc,-⟩
    ·simp at h0
    ·exact⟨b,off,c',hc⟩
   cases e5;have iw:0<(x::r).length:=by simp
   refine Qb (α:=Unit) (()) (λ_=>[(0,ptr c 0),(12,.slice (some ⟨lb,lo,none⟩) (x::r).length kc),(13,I ((x::r).length:Int)),(14,I ((0:Nat):Int))]) (λ_ w'=>w'=w) (λ_=>0) ?hI ?hround
   case hI=>rfl
   case hround=>
    rintro i w2 rfl ih
    try dsimp only
    refine qN O$ Pb O O$ PE$ NB$ py$ NI O$ An$ py$ Nw$ qN O$ qV (OH Qd OL O O (by omega))$ qV (Oi U3 O O (P6 hR (i:=0) (show((x::r).map I)[0]? =some (I x) from rfl)))$ NQ O$ qM O ?_;refine Nz O$ O8 O$ NO YU O$ qV (NJ VS O O hB O)$ Nz O$ qV (ylk (k:=x) (K:=KI) VS (QG U3) OL O O h.pins)$ Px O O$ PE$ NB$ NI O$ qN O$ Nz O$ NQ O$ NF O ?_;refine NA func188 O ?_;exact⟨_,rfl,rfl,rfl⟩
theorem z0X (h:Rk w c A V p)(hA:A.Ok)(cH:A.size<=1000):Oa prog 189 [ptr c 0] w λv w'=>v= .bool (decide (A.once.length+A.often.length=A.size))/\Ext w w':=by
 have hB:=h.cells
 have hh:=hA.held
 obtain⟨a0,c0,e0,-⟩:∃a c,(V 0).1= .slice a A.once.length c/\_:=(h.q 0 (by decide)).sl.rd.shape
 obtain⟨a1,c1,e1,-⟩:∃a c,(V 1).1= .slice a A.often.length c/\_:=(h.q 1 (by decide)).sl.rd.shape
 rw[e0,e1] at hB
 have hg:=Ext.NY w
 refine Nu (e:=[(0,_)]) func189 O ntmps189 O O$ qN O$ NF O$ py$ PK (λw'=>Ext w w') O$ NX 0 O O (hg)$ NG 1 O (OQ O) hg$ NG 2 O (Og Pp O) hg$ NG 3 O (Og OW O) hg$ qT 4 O (λ_ h=>NJ Qd O O (h.ND hB) O) hg$ NG 5 O (R7 Qd O) hg$ NX 6 O O (hg)$ NG 7 O (OQ O) hg$ NG 8 O (Og Q4 O) hg ?_
 refine NG 9 O (Og OW O) hg$ qT 10 O (λ_ h=>NJ Qd O O (h.ND hB) O) hg$ NG 11 O (R7 Qd O) hg$ NG 12 O (SX O O (by omega)) hg$ NX 13 O O (hg)$ NG 14 O (OQ O) hg$ NG 15 O (Og Ra O) hg$ qT 16 O (λ_ h=>NJ U3 O O (h.ND hB) O) hg$ NG 17 O (yeq O O) hg$ NG 18 O (PO O) hg$ qE$ NA func189 O (⟨_,rfl,?_,hg⟩)
 show Value.bool _=Value.bool _
 congr 1
 exact decide_eq_decide.2 (by omega)
end
def Ql (XL:Bool)(g:Option Int):List Value:=[.bool XL,.bool g.isSome,I (g.getD 0)]
abbrev zbR (XL:Bool)(g:Option Int):Value:= .agg (Ql XL g).toArray
section
variable {w w' w2:World}{c p:Nat}{A A' A2:Arc}{V V' V2:Nat->Value×Value}{S:Nat->Prop}{k:Int}
theorem Arc.Ok.lens (h:A.Ok)(cH:A.size<=1000)(j:Nat):(A.li j).length<=2000:=by
 have h1:=h.held
 have h2:=h.first
 have h3:=h.total
 have h4:=A.PH
 unfold Arc.li
 split<;>omega
theorem Sb (h : Rk w c A V p)(hA : A.Ok)(cH : A.size <= 1000)(bo : Bool) : Oa prog 190 [ptr c 0, .bool bo] w λv w' => v = zbR false (A.room bo).2 /\ ∃ V', UK w c V p w' (A.room bo).1 V' := by
 have gV:=hA.lens cH 2
 have kC:=hA.lens cH 3
 have KP:=hA.tg
 have iw:=hA.pos
 have fV:=hA.nd
 unfold Arc.all at fV
 rw[List.nodup_append] at fV
 obtain⟨nd1,nd2,nd3⟩:=fV
 rw[List.nodup_append] at nd2
 obtain⟨nd4,nd5,nd6⟩:=nd2
 rw[List.nodup_append] at nd5
 obtain⟨nd7,nd8,nd9⟩:=nd5
 have aU:∀{b:Nat},Rf c V p b->b<w.heap.size:=h.lt
 refine Nu (e:=[(0,_),(1,_)]) func190 O ntmps190 O O$ qN O$ NK O O (Qk (cs:=[_,_,_]) On O) ?_
 rintro _ w1 ⟨b4,rfl,ev,ad,aH⟩
 have pA:=h.ext ad
 have n4:∀b,Rf c V p b->b≠b4:=λb hb e=>by have:=aU hb;omega
 refine NB$ py$ qN O$ Nz O$ NZ zcF O (z0X pA hA cH) ?_
 rintro _ w2 ⟨rfl,ag⟩
 have bF:=ag.ND aH
 have aJ:=ad.trans ag
 have dJ:=h.ext aJ
 by_cases ce:¬A.once.length+A.often.length=A.size
 ·rw[decide_eq_false ce];have jQ:A.room bo=(A,none):=by unfold Arc.room;rw[if_neg ce]
  refine qV ((Qr O))$ NB$ NI O$ qN O$ qV (Oh (news:=Ql false none) Rh O On O (NM.cells (n:=3) bF O) O)$ NP O (OA (news:=Ql false none) On O O O O bF (by simp)) ?_;rintro w3 ⟨dW,aw⟩;replace dW:NM w3 b4 [.bool false,.bool false,I 0] 265:=dW;refine NB$ O9 func190 (.cell Rh O On O (NM.cells (n:=3) dW (news:=[_,_,_]) O) O .nil) ?_;rw[jQ];exact⟨_,rfl,rfl,V,dJ.kp aw (λb hb=>n4 b hb),λb hb=> .inl hb,(aJ.Nv aw (λj e=>by omega)).kp⟩
 ·have ce := Classical.not_not.1 ce; rw [decide_eq_true ce]; refine qV ((Qr O)) (NB (It O ?_)); have am := dJ.cells; obtain ⟨a0, c0, e0, -⟩ : ∃ a c, (V 0).1 = .slice a A.once.length c /\ _ := (h.q 0 (by decide)).sl.rd.shape; rw [e0] at am; have f0 := Ua dJ (j := 0) (by decide); have f1 := Ua dJ (j := 1) (by decide); rw [show A.li 0 = A.once from rfl] at f0; rw [show A.li 1 = A.often from rfl] at f1
  cases ho:A.once with
  | nil =>
    cases hf:A.often with
    | nil =>
      exfalso;rw[ho,hf] at ce;simp at ce
      omega
    | cons x1 r1 =>
      have jQ:A.room bo=({A with often:=r1,NU:=A.NU++[x1]},some x1):=by unfold Arc.room;rw[if_pos ce,ho,hf]
      have KQ:A.once.length=0:=by rw[ho];rfl
      have g0:VU A.once= .tuple #[I 0,.bool false]:=by rw[ho];rfl
      have g1:VU A.often= .tuple #[I x1,.bool true]:=by rw[hf];rfl
      rw[g0] at f0;rw[g1] at f1;refine An$ qN O$ NT O O$ O8 O$ NO Pp O$ NZ WG O (f0) ?_;rintro _ w2 ⟨rfl,rfl⟩;refine Nz O$ qV (Q8 (v:=I 0) O O)$ qV (Q8 (v:= .bool false) O O)$ NQ O$ NQ O$ qM O$ NT O O$ O8 O$ NO Q4 O$ NZ WG O (f1) ?_;rintro _ w2 ⟨rfl,rfl⟩;refine Nz O$ qV (Q8 (v:=I x1) O O)$ qV (Q8 (v:= .bool true) O O)$ NQ O$ NF O$ Of.qb (e:=[(0,_),(1,_),(4,_),(5,_),(6,_),(7,_),(8,_)]) ?_;refine qN O$ Nz O$ O8 O$ NO Pp O$ NO OW O$ qV (NJ Qd O O am O)$ Q0 Qd O$ NQ O$ qM O$ Nz O$ RN O O$ Ox$ Nz O$ qS ?_;refine qS$ qS$ qS$ qS$ qS$ qS$ qS$ qS$ qS$ qS$ qS$ qS$ qS$ qS ?_;refine qS$ qS$ OC O O$ NF O$ Of.qb (e:=[(0,_),(4,_),(5,_),(6,_),(7,_),(8,_),(10,_)]) ?_;refine py$ qN O$ NT O O$ qS$ OC O O$ NT O O$ qV ((Qr O))$ NT O O$ qV ((Qr O))$ Pc O O$ OC O O$ NB$ It O$ An ?_;refine qN O$ Nz O$ O8 O$ NO Q4 O$ Nz O$ NZ Rm O (OZ dJ (j:=1) (k:=x1) (by decide)) ?_;rintro _ w3 ⟨rfl,V3,cg⟩;have gT:(A.li 1).erase x1=r1:=by show A.often.erase x1=r1;rw[hf];simp
      rw[gT] at cg
      have dM:x1∉(A.P5 1 r1).li 3:=by
       show x1∉A.NU;intro e;exact nd6 x1 (by rw[hf];simp) x1 (by simp[e]) O
      refine qM O$ Nz O$ O8 O$ NO PZ O$ Nz O$ NZ S0 O (PG cg.m (j:=3) (k:=x1) (by decide) dM (by show A.NU.length<=_;exact Nat.le_trans kC (by decide))) ?_;rintro _ w4 ⟨rfl,V4,bK⟩;have hr:=(dJ.r (Ext.refl w2)).trans (cg.trans bK);have cx:=hr.k.ND bF (λe=>n4 _ e O);refine NB$ Of.qb (e:=[(4,_),(7,_)]) ?_;refine qN O$ Nz O$ qV (QP (cs:=[_,_,_]) On O Uz O O)$ NP O (OA (news:=Ql false (some x1)) On O O O O cx (by simp)) ?_;rintro w5 ⟨aN,ai⟩;replace aN:NM w5 b4 [.bool false,.bool true,I x1] 265:=aN;refine NB$ O9 func190 (.cell Rh O On O (NM.cells (n:=3) aN (news:=[_,_,_]) O) O .nil) ?_
      have dY:∀b,Rf c V4 p b->b≠b4:=λb hb e=>by
       rcases hr.fp b hb with h5|h5
       ·exact n4 b h5 e
       ·have:=bF.lt;omega
      rw[jQ]
      exact⟨_,rfl,rfl,V4,hr.m.kp ai dY,λb hb=>(hr.fp b hb).imp id (λe=>by have:=aJ.size;omega),(aJ.kp.trans hr.k).Nv ai (λj e=> .inl (by omega))⟩
  | cons x0 r0 =>
    have KQ:1<=A.once.length:=by rw[ho];simp
    cases hf:A.often with
    | nil =>
      have jQ:A.room bo=({A with once:=r0,O2:=A.O2++[x0]},some x0):=by unfold Arc.room;rw[if_pos ce,ho,hf]
      have g0:VU A.once= .tuple #[I x0,.bool true]:=by rw[ho];rfl
      have g1:VU A.often= .tuple #[I 0,.bool false]:=by rw[hf];rfl
      rw[g0] at f0;rw[g1] at f1;refine An$ qN O$ NT O O$ O8 O$ NO Pp O$ NZ WG O (f0) ?_;rintro _ w2 ⟨rfl,rfl⟩;refine Nz O$ qV (Q8 (v:=I x0) O O)$ qV (Q8 (v:= .bool true) O O)$ NQ O$ NQ O$ qM O$ NT O O$ O8 O$ NO Q4 O$ NZ WG O (f1) ?_;rintro _ w2 ⟨rfl,rfl⟩;refine Nz O$ qV (Q8 (v:=I 0) O O)$ qV (Q8 (v:= .bool false) O O)$ NQ O$ NF O$ Of.qb (e:=[(0,_),(1,_),(4,_),(5,_),(6,_),(7,_),(8,_)]) ?_;refine qN O$ Nz O$ O8 O$ NO Pp O$ NO OW O$ qV (NJ Qd O O am O)$ Q0 Qd O$ NQ O$ qM O$ Nz O$ RN O O$ PE$ Nz O ?_
      by_cases h1:(A.once.length:Int)>A.target
      ·skip
       refine NT O O$ O8 O$ NO PY O$ qV (NJ U3 O O am O)$ P9 O O$ PE$ Nz O$ qS$ qS$ qS$ qS$ qS$ qS$ qS ?_;refine qS$ qS$ Pc O O$ Pc O O$ NF O$ Of.qb (e:=[(0,_),(4,_),(5,_),(6,_),(7,_),(8,_),(10,_)]) ?_;refine py$ qN O$ NT O O$ Nz O$ Pc O O$ Nz O$ qS$ qS$ qS$ qS$ qS$ qS$ Pc O O$ NB ?_;refine NI O$ qN O$ Nz O$ O8 O$ NO Pp O$ Nz O$ NZ Rm O (OZ dJ (j:=0) (k:=x0) (by decide)) ?_;rintro _ w3 ⟨rfl,V3,cg⟩;have gT:(A.li 0).erase x0=r0:=by show A.once.erase x0=r0;rw[ho];simp
       rw[gT] at cg
       have dM:x0∉(A.P5 0 r0).li 2:=by
        show x0∉A.O2;intro e;exact nd3 x0 (by rw[ho];simp) x0 (by simp[e]) O
       refine qM O$ Nz O$ O8 O$ NO PI O$ Nz O$ NZ S0 O (PG cg.m (j:=2) (k:=x0) (by decide) dM (by show A.O2.length<=_;exact Nat.le_trans gV (by decide))) ?_;rintro _ w4 ⟨rfl,V4,bK⟩;have hr:=(dJ.r (Ext.refl w2)).trans (cg.trans bK);have cx:=hr.k.ND bF (λe=>n4 _ e O);refine NB$ Of.qb (e:=[(0,_),(4,_),(5,_),(7,_)]) ?_;refine qN O$ Nz O$ qV (QP (cs:=[_,_,_]) On O Uz O O)$ NP O (OA (news:=Ql false (some x0)) On O O O O cx (by simp)) ?_;rintro w5 ⟨aN,ai⟩;replace aN:NM w5 b4 [.bool false,.bool true,I x0] 265:=aN;refine NB$ O9 func190 (.cell Rh O On O (NM.cells (n:=3) aN (news:=[_,_,_]) O) O .nil) ?_
       have dY:∀b,Rf c V4 p b->b≠b4:=λb hb e=>by
        rcases hr.fp b hb with h5|h5
        ·exact n4 b h5 e
        ·have:=bF.lt;omega
       rw[jQ];exact⟨_,rfl,rfl,V4,hr.m.kp ai dY,λb hb=>(hr.fp b hb).imp id (λe=>by have:=aJ.size;omega),(aJ.kp.trans hr.k).Nv ai (λj e=> .inl (by omega))⟩
      ·refine NT O O$ O8 O$ NO PY O$ qV (NJ U3 O O am O)$ P9 O O$ Ox$ Nz O ?_;by_cases h2:(A.once.length:Int)=A.target
       ·refine NT O O$ O8 O$ NO PY O$ qV (NJ U3 O O am O)$ Px O O$ PE$ Nz O ?_
        cases bo with
        | true =>
          refine Nz O ?_
          skip
          refine Pc O O$ OC O O$ Pc O O$ NF O$ Of.qb (e:=[(0,_),(4,_),(5,_),(6,_),(7,_),(8,_),(10,_)]) ?_;refine py$ qN O$ NT O O$ Nz O$ Pc O O$ Nz O$ qS$ qS$ qS$ qS$ qS$ qS$ Pc O O$ NB ?_;refine NI O$ qN O$ Nz O$ O8 O$ NO Pp O$ Nz O$ NZ Rm O (OZ dJ (j:=0) (k:=x0) (by decide)) ?_;rintro _ w3 ⟨rfl,V3,cg⟩;have gT:(A.li 0).erase x0=r0:=by show A.once.erase x0=r0;rw[ho];simp
          rw[gT] at cg
          have dM:x0∉(A.P5 0 r0).li 2:=by
           show x0∉A.O2;intro e;exact nd3 x0 (by rw[ho];simp) x0 (by simp[e]) O
          refine qM O$ Nz O$ O8 O$ NO PI O$ Nz O$ NZ S0 O (PG cg.m (j:=2) (k:=x0) (by decide) dM (by show A.O2.length<=_;exact Nat.le_trans gV (by decide))) ?_;rintro _ w4 ⟨rfl,V4,bK⟩;have hr:=(dJ.r (Ext.refl w2)).trans (cg.trans bK);have cx:=hr.k.ND bF (λe=>n4 _ e O);refine NB$ Of.qb (e:=[(0,_),(4,_),(5,_),(7,_)]) ?_;refine qN O$ Nz O$ qV (QP (cs:=[_,_,_]) On O Uz O O)$ NP O (OA (news:=Ql false (some x0)) On O O O O cx (by simp)) ?_;rintro w5 ⟨aN,ai⟩;replace aN:NM w5 b4 [.bool false,.bool true,I x0] 265:=aN;refine NB$ O9 func190 (.cell Rh O On O (NM.cells (n:=3) aN (news:=[_,_,_]) O) O .nil) ?_
          have dY:∀b,Rf c V4 p b->b≠b4:=λb hb e=>by
           rcases hr.fp b hb with h5|h5
           ·exact n4 b h5 e
           ·have:=bF.lt;omega
          rw[jQ]
          exact⟨_,rfl,rfl,V4,hr.m.kp ai dY,λb hb=>(hr.fp b hb).imp id (λe=>by have:=aJ.size;omega),(aJ.kp.trans hr.k).Nv ai (λj e=> .inl (by omega))⟩
        | false =>
          refine Nz O ?_
          skip
          refine Pc O O$ OC O O$ Pc O O$ NF O$ Of.qb (e:=[(0,_),(4,_),(5,_),(6,_),(7,_),(8,_),(10,_)]) ?_;refine py$ qN O$ NT O O$ qS$ OC O O$ NT O O$ qV ((Qr O))$ NT O O$ qV ((Qr O))$ Pc O O$ OC O O$ NB$ NI O$ qN O ?_;refine Nz O$ O8 O$ NO Pp O$ Nz O$ NZ Rm O (OZ dJ (j:=0) (k:=x0) (by decide)) ?_;rintro _ w3 ⟨rfl,V3,cg⟩;have gT:(A.li 0).erase x0=r0:=by show A.once.erase x0=r0;rw[ho];simp
          rw[gT] at cg
          have dM:x0∉(A.P5 0 r0).li 2:=by
           show x0∉A.O2;intro e;exact nd3 x0 (by rw[ho];simp) x0 (by simp[e]) O
          refine qM O$ Nz O$ O8 O$ NO PI O$ Nz O$ NZ S0 O (PG cg.m (j:=2) (k:=x0) (by decide) dM (by show A.O2.length<=_;exact Nat.le_trans gV (by decide))) ?_;rintro _ w4 ⟨rfl,V4,bK⟩;have hr:=(dJ.r (Ext.refl w2)).trans (cg.trans bK);have cx:=hr.k.ND bF (λe=>n4 _ e O);refine NB$ Of.qb (e:=[(0,_),(4,_),(5,_),(7,_)]) ?_;refine qN O$ Nz O$ qV (QP (cs:=[_,_,_]) On O Uz O O)$ NP O (OA (news:=Ql false (some x0)) On O O O O cx (by simp)) ?_;rintro w5 ⟨aN,ai⟩;replace aN:NM w5 b4 [.bool false,.bool true,I x0] 265:=aN;refine NB$ O9 func190 (.cell Rh O On O (NM.cells (n:=3) aN (news:=[_,_,_]) O) O .nil) ?_
          have dY:∀b,Rf c V4 p b->b≠b4:=λb hb e=>by
           rcases hr.fp b hb with h5|h5
           ·exact n4 b h5 e
           ·have:=bF.lt;omega
          rw[jQ];exact⟨_,rfl,rfl,V4,hr.m.kp ai dY,λb hb=>(hr.fp b hb).imp id (λe=>by have:=aJ.size;omega),(aJ.kp.trans hr.k).Nv ai (λj e=> .inl (by omega))⟩
       ·refine NT O O$ O8 O$ NO PY O$ qV (NJ U3 O O am O)$ Px O O$ Ox$ Nz O ?_
        skip
        refine qS$ OC O O$ OC O O$ Pc O O$ NF O$ Of.qb (e:=[(0,_),(4,_),(5,_),(6,_),(7,_),(8,_),(10,_)]) ?_;refine py$ qN O$ NT O O$ qS$ OC O O$ NT O O$ qV ((Qr O))$ NT O O$ qV ((Qr O))$ Pc O O$ OC O O$ NB$ NI O$ qN O ?_;refine Nz O$ O8 O$ NO Pp O$ Nz O$ NZ Rm O (OZ dJ (j:=0) (k:=x0) (by decide)) ?_;rintro _ w3 ⟨rfl,V3,cg⟩;have gT:(A.li 0).erase x0=r0:=by show A.once.erase x0=r0;rw[ho];simp
        rw[gT] at cg
        have dM:x0∉(A.P5 0 r0).li 2:=by
         show x0∉A.O2;intro e;exact nd3 x0 (by rw[ho];simp) x0 (by simp[e]) O
        refine qM O$ Nz O$ O8 O$ NO PI O$ Nz O$ NZ S0 O (PG cg.m (j:=2) (k:=x0) (by decide) dM (by show A.O2.length<=_;exact Nat.le_trans gV (by decide))) ?_;rintro _ w4 ⟨rfl,V4,bK⟩;have hr:=(dJ.r (Ext.refl w2)).trans (cg.trans bK);have cx:=hr.k.ND bF (λe=>n4 _ e O);refine NB$ Of.qb (e:=[(0,_),(4,_),(5,_),(7,_)]) ?_;refine qN O$ Nz O$ qV (QP (cs:=[_,_,_]) On O Uz O O)$ NP O (OA (news:=Ql false (some x0)) On O O O O cx (by simp)) ?_;rintro w5 ⟨aN,ai⟩;replace aN:NM w5 b4 [.bool false,.bool true,I x0] 265:=aN;refine NB$ O9 func190 (.cell Rh O On O (NM.cells (n:=3) aN (news:=[_,_,_]) O) O .nil) ?_
        have dY:∀b,Rf c V4 p b->b≠b4:=λb hb e=>by
         rcases hr.fp b hb with h5|h5
         ·exact n4 b h5 e
         ·have:=bF.lt;omega
        rw[jQ]
        exact⟨_,rfl,rfl,V4,hr.m.kp ai dY,λb hb=>(hr.fp b hb).imp id (λe=>by have:=aJ.size;omega),(aJ.kp.trans hr.k).Nv ai (λj e=> .inl (by omega))⟩
    | cons x1 r1 =>
      have g0:VU A.once= .tuple #[I x0,.bool true]:=by rw[ho];rfl
      have g1:VU A.often= .tuple #[I x1,.bool true]:=by rw[hf];rfl
      rw[g0] at f0;rw[g1] at f1;refine An$ qN O$ NT O O$ O8 O$ NO Pp O$ NZ WG O (f0) ?_;rintro _ w2 ⟨rfl,rfl⟩;refine Nz O$ qV (Q8 (v:=I x0) O O)$ qV (Q8 (v:= .bool true) O O)$ NQ O$ NQ O$ qM O$ NT O O$ O8 O$ NO Q4 O$ NZ WG O (f1) ?_;rintro _ w2 ⟨rfl,rfl⟩;refine Nz O$ qV (Q8 (v:=I x1) O O)$ qV (Q8 (v:= .bool true) O O)$ NQ O$ NF O$ Of.qb (e:=[(0,_),(1,_),(4,_),(5,_),(6,_),(7,_),(8,_)]) ?_;refine qN O$ Nz O$ O8 O$ NO Pp O$ NO OW O$ qV (NJ Qd O O am O)$ Q0 Qd O$ NQ O$ qM O$ Nz O$ RN O O$ PE$ Nz O ?_
      by_cases h1:(A.once.length:Int)>A.target
      ·have jQ:A.room bo=({A with once:=r0,O2:=A.O2++[x0]},some x0):=by unfold Arc.room;rw[if_pos ce,ho,hf];exact if_pos (by rw[<-ho];exact .inl h1)
       refine NT O O$ O8 O$ NO PY O$ qV (NJ U3 O O am O)$ P9 O O$ PE$ Nz O$ qS$ qS$ qS$ qS$ qS$ qS$ qS ?_;refine qS$ qS$ Pc O O$ Pc O O$ NF O$ Of.qb (e:=[(0,_),(4,_),(5,_),(6,_),(7,_),(8,_),(10,_)]) ?_;refine py$ qN O$ NT O O$ Nz O$ Pc O O$ Nz O$ qS$ qS$ qS$ qS$ qS$ qS$ Pc O O$ NB ?_;refine NI O$ qN O$ Nz O$ O8 O$ NO Pp O$ Nz O$ NZ Rm O (OZ dJ (j:=0) (k:=x0) (by decide)) ?_;rintro _ w3 ⟨rfl,V3,cg⟩;have gT:(A.li 0).erase x0=r0:=by show A.once.erase x0=r0;rw[ho];simp
       rw[gT] at cg
       have dM:x0∉(A.P5 0 r0).li 2:=by
        show x0∉A.O2;intro e;exact nd3 x0 (by rw[ho];simp) x0 (by simp[e]) O
       refine qM O$ Nz O$ O8 O$ NO PI O$ Nz O$ NZ S0 O (PG cg.m (j:=2) (k:=x0) (by decide) dM (by show A.O2.length<=_;exact Nat.le_trans gV (by decide))) ?_;rintro _ w4 ⟨rfl,V4,bK⟩;have hr:=(dJ.r (Ext.refl w2)).trans (cg.trans bK);have cx:=hr.k.ND bF (λe=>n4 _ e O);refine NB$ Of.qb (e:=[(0,_),(4,_),(5,_),(7,_)]) ?_;refine qN O$ Nz O$ qV (QP (cs:=[_,_,_]) On O Uz O O)$ NP O (OA (news:=Ql false (some x0)) On O O O O cx (by simp)) ?_;rintro w5 ⟨aN,ai⟩;replace aN:NM w5 b4 [.bool false,.bool true,I x0] 265:=aN;refine NB$ O9 func190 (.cell Rh O On O (NM.cells (n:=3) aN (news:=[_,_,_]) O) O .nil) ?_
       have dY:∀b,Rf c V4 p b->b≠b4:=λb hb e=>by
        rcases hr.fp b hb with h5|h5
        ·exact n4 b h5 e
        ·have:=bF.lt;omega
       rw[jQ];exact⟨_,rfl,rfl,V4,hr.m.kp ai dY,λb hb=>(hr.fp b hb).imp id (λe=>by have:=aJ.size;omega),(aJ.kp.trans hr.k).Nv ai (λj e=> .inl (by omega))⟩
      ·refine NT O O$ O8 O$ NO PY O$ qV (NJ U3 O O am O)$ P9 O O$ Ox$ Nz O ?_;by_cases h2:(A.once.length:Int)=A.target
       ·refine NT O O$ O8 O$ NO PY O$ qV (NJ U3 O O am O)$ Px O O$ PE$ Nz O ?_
        cases bo with
        | true =>
          refine Nz O ?_;have jQ:A.room true=({A with once:=r0,O2:=A.O2++[x0]},some x0):=by unfold Arc.room;rw[if_pos ce,ho,hf];exact if_pos (by rw[<-ho];exact .inr ⟨h2,rfl⟩)
          refine Pc O O$ OC O O$ Pc O O$ NF O$ Of.qb (e:=[(0,_),(4,_),(5,_),(6,_),(7,_),(8,_),(10,_)]) ?_;refine py$ qN O$ NT O O$ Nz O$ Pc O O$ Nz O$ qS$ qS$ qS$ qS$ qS$ qS$ Pc O O$ NB ?_;refine NI O$ qN O$ Nz O$ O8 O$ NO Pp O$ Nz O$ NZ Rm O (OZ dJ (j:=0) (k:=x0) (by decide)) ?_;rintro _ w3 ⟨rfl,V3,cg⟩;have gT:(A.li 0).erase x0=r0:=by show A.once.erase x0=r0;rw[ho];simp
          rw[gT] at cg
          have dM:x0∉(A.P5 0 r0).li 2:=by
           show x0∉A.O2;intro e;exact nd3 x0 (by rw[ho];simp) x0 (by simp[e]) O
          refine qM O$ Nz O$ O8 O$ NO PI O$ Nz O$ NZ S0 O (PG cg.m (j:=2) (k:=x0) (by decide) dM (by show A.O2.length<=_;exact Nat.le_trans gV (by decide))) ?_;rintro _ w4 ⟨rfl,V4,bK⟩;have hr:=(dJ.r (Ext.refl w2)).trans (cg.trans bK);have cx:=hr.k.ND bF (λe=>n4 _ e O);refine NB$ Of.qb (e:=[(0,_),(4,_),(5,_),(7,_)]) ?_;refine qN O$ Nz O$ qV (QP (cs:=[_,_,_]) On O Uz O O)$ NP O (OA (news:=Ql false (some x0)) On O O O O cx (by simp)) ?_;rintro w5 ⟨aN,ai⟩;replace aN:NM w5 b4 [.bool false,.bool true,I x0] 265:=aN;refine NB$ O9 func190 (.cell Rh O On O (NM.cells (n:=3) aN (news:=[_,_,_]) O) O .nil) ?_
          have dY:∀b,Rf c V4 p b->b≠b4:=λb hb e=>by
           rcases hr.fp b hb with h5|h5
           ·exact n4 b h5 e
           ·have:=bF.lt;omega
          rw[jQ]
          exact⟨_,rfl,rfl,V4,hr.m.kp ai dY,λb hb=>(hr.fp b hb).imp id (λe=>by have:=aJ.size;omega),(aJ.kp.trans hr.k).Nv ai (λj e=> .inl (by omega))⟩
        | false =>
          refine Nz O ?_;have jQ:A.room false=({A with often:=r1,NU:=A.NU++[x1]},some x1):=by unfold Arc.room;rw[if_pos ce,ho,hf];exact if_neg (by rw[<-ho];rintro(e|⟨e,e2⟩);exact h1 e;cases e2)
          refine Pc O O$ OC O O$ Pc O O$ NF O$ Of.qb (e:=[(0,_),(4,_),(5,_),(6,_),(7,_),(8,_),(10,_)]) ?_;refine py$ qN O$ NT O O$ qS$ OC O O$ NT O O$ qV ((Qr O))$ NT O O$ qV ((Qr O))$ Pc O O$ OC O O$ NB$ It O$ An ?_;refine qN O$ Nz O$ O8 O$ NO Q4 O$ Nz O$ NZ Rm O (OZ dJ (j:=1) (k:=x1) (by decide)) ?_;rintro _ w3 ⟨rfl,V3,cg⟩;have gT:(A.li 1).erase x1=r1:=by show A.often.erase x1=r1;rw[hf];simp
          rw[gT] at cg
          have dM:x1∉(A.P5 1 r1).li 3:=by
           show x1∉A.NU;intro e;exact nd6 x1 (by rw[hf];simp) x1 (by simp[e]) O
          refine qM O$ Nz O$ O8 O$ NO PZ O$ Nz O$ NZ S0 O (PG cg.m (j:=3) (k:=x1) (by decide) dM (by show A.NU.length<=_;exact Nat.le_trans kC (by decide))) ?_;rintro _ w4 ⟨rfl,V4,bK⟩;have hr:=(dJ.r (Ext.refl w2)).trans (cg.trans bK);have cx:=hr.k.ND bF (λe=>n4 _ e O);refine NB$ Of.qb (e:=[(4,_),(7,_)]) ?_;refine qN O$ Nz O$ qV (QP (cs:=[_,_,_]) On O Uz O O)$ NP O (OA (news:=Ql false (some x1)) On O O O O cx (by simp)) ?_;rintro w5 ⟨aN,ai⟩;replace aN:NM w5 b4 [.bool false,.bool true,I x1] 265:=aN;refine NB$ O9 func190 (.cell Rh O On O (NM.cells (n:=3) aN (news:=[_,_,_]) O) O .nil) ?_
          have dY:∀b,Rf c V4 p b->b≠b4:=λb hb e=>by
           rcases hr.fp b hb with h5|h5
           ·exact n4 b h5 e
           ·have:=bF.lt;omega
          rw[jQ];exact⟨_,rfl,rfl,V4,hr.m.kp ai dY,λb hb=>(hr.fp b hb).imp id (λe=>by have:=aJ.size;omega),(aJ.kp.trans hr.k).Nv ai (λj e=> .inl (by omega))⟩
       ·refine NT O O$ O8 O$ NO PY O$ qV (NJ U3 O O am O)$ Px O O$ Ox$ Nz O ?_;have jQ:A.room bo=({A with often:=r1,NU:=A.NU++[x1]},some x1):=by unfold Arc.room;rw[if_pos ce,ho,hf];exact if_neg (by rw[<-ho];rintro(e|⟨e,e2⟩);exact h1 e;exact h2 e)
        refine qS$ OC O O$ OC O O$ Pc O O$ NF O$ Of.qb (e:=[(0,_),(4,_),(5,_),(6,_),(7,_),(8,_),(10,_)]) ?_;refine py$ qN O$ NT O O$ qS$ OC O O$ NT O O$ qV ((Qr O))$ NT O O$ qV ((Qr O))$ Pc O O$ OC O O$ NB$ It O$ An ?_;refine qN O$ Nz O$ O8 O$ NO Q4 O$ Nz O$ NZ Rm O (OZ dJ (j:=1) (k:=x1) (by decide)) ?_;rintro _ w3 ⟨rfl,V3,cg⟩;have gT:(A.li 1).erase x1=r1:=by show A.often.erase x1=r1;rw[hf];simp
        rw[gT] at cg
        have dM:x1∉(A.P5 1 r1).li 3:=by
         show x1∉A.NU;intro e;exact nd6 x1 (by rw[hf];simp) x1 (by simp[e]) O
        refine qM O$ Nz O$ O8 O$ NO PZ O$ Nz O$ NZ S0 O (PG cg.m (j:=3) (k:=x1) (by decide) dM (by show A.NU.length<=_;exact Nat.le_trans kC (by decide))) ?_;rintro _ w4 ⟨rfl,V4,bK⟩;have hr:=(dJ.r (Ext.refl w2)).trans (cg.trans bK);have cx:=hr.k.ND bF (λe=>n4 _ e O);refine NB$ Of.qb (e:=[(4,_),(7,_)]) ?_;refine qN O$ Nz O$ qV (QP (cs:=[_,_,_]) On O Uz O O)$ NP O (OA (news:=Ql false (some x1)) On O O O O cx (by simp)) ?_;rintro w5 ⟨aN,ai⟩;replace aN:NM w5 b4 [.bool false,.bool true,I x1] 265:=aN;refine NB$ O9 func190 (.cell Rh O On O (NM.cells (n:=3) aN (news:=[_,_,_]) O) O .nil) ?_
        have dY:∀b,Rf c V4 p b->b≠b4:=λb hb e=>by
         rcases hr.fp b hb with h5|h5
         ·exact n4 b h5 e
         ·have:=bF.lt;omega
        rw[jQ];exact⟨_,rfl,rfl,V4,hr.m.kp ai dY,λb hb=>(hr.fp b hb).imp id (λe=>by have:=aJ.size;omega),(aJ.kp.trans hr.k).Nv ai (λj e=> .inl (by omega))⟩
end
theorem Arc.Ok.zfk {A:Arc}(h:A.Ok):(A.P5 2 (A.O2.drop 1)).Ok:=by
 have hs:(A.P5 2 (A.O2.drop 1)).all.Sublist A.all:=(((List.drop_sublist 1 A.O2).append_right A.NU).append_left A.often).append_left A.once
 have:=h.first
 have h2:=hs.length_le
 have h3:=h.total
 exact⟨h.pos,h.nd.sublist hs,h.held,by show A.once.length+(A.O2.drop 1).length<=A.size;rw[List.length_drop];omega,Nat.le_trans h2 h3,h.tg⟩
theorem Arc.Ok.zg5 {A:Arc}(h:A.Ok):(A.P5 3 (A.NU.drop 1)).Ok:=by
 have hs:(A.P5 3 (A.NU.drop 1)).all.Sublist A.all:=(((List.drop_sublist 1 A.NU).append_left A.O2).append_left A.often).append_left A.once
 exact⟨h.pos,h.nd.sublist hs,h.held,h.first,Nat.le_trans hs.length_le h.total,h.tg⟩
section
variable {w w' w2:World}{c p:Nat}{A A' A2:Arc}{V V' V2:Nat->Value×Value}{S:Nat->Prop}{k:Int}
theorem Rk.head (h:Rk w c A V p){j:Nat}(hj:j<4){x:Int}{r:List Int}(hl:A.li j=x::r):∃b o cp,(V j).1= .slice (some ⟨b,o,none⟩) (A.li j).length cp/\w.cell? ⟨b,o+0*1,none⟩=some (I x):=by
 have hR:=(h.q j hj).sl.rd
 rcases hR.2 with⟨c,hc,h0⟩|⟨b,off,c',hc,-⟩
 ·rw[hl] at h0;simp at h0
 ·rw[hc] at hR;exact⟨b,off,c',hc,P6 hR (i:=0) (by rw[hl];rfl)⟩
theorem ZT (h:Rk w c A V p)(hA:A.Ok)(cH:A.size<=1000):Oa prog 191 [ptr c 0] w λv w'=>v=zbR false A.add.2/\∃V',UK w c V p w' A.add.1 V':=by
 have tp:=hA.lens cH 0
 have lu:=hA.lens cH 1
 have gV:=hA.lens cH 2
 have kC:=hA.lens cH 3
 have iw:=hA.pos
 have i5:=A.PH
 have vX:=hA.held
 have N7:=hA.first
 have fi:=hA.total
 have aU:∀{b:Nat},Rf c V p b->b<w.heap.size:=h.lt
 rw[show A.li 0=A.once from rfl] at tp
 rw[show A.li 1=A.often from rfl] at lu
 rw[show A.li 2=A.O2 from rfl] at gV
 rw[show A.li 3=A.NU from rfl] at kC
 have hB:=h.cells
 obtain⟨a0,c0,e0,-⟩:∃a c,(V 0).1= .slice a A.once.length c/\_:=(h.q 0 (by decide)).sl.rd.shape
 obtain⟨a1,c1,e1,-⟩:∃a c,(V 1).1= .slice a A.often.length c/\_:=(h.q 1 (by decide)).sl.rd.shape
 obtain⟨a2,c2,e2,-⟩:∃a c,(V 2).1= .slice a A.O2.length c/\_:=(h.q 2 (by decide)).sl.rd.shape
 obtain⟨a3,c3,e3,-⟩:∃a c,(V 3).1= .slice a A.NU.length c/\_:=(h.q 3 (by decide)).sl.rd.shape
 rw[e0,e1,e2,e3] at hB
 refine Nu (e:=[(0,_)]) func191 O ntmps191 O O$ qN O$ NK O O (Qk (cs:=[_,_,_]) On O) ?_
 rintro _ w1 ⟨b2,rfl,bQ,ad,am⟩
 replace am:NM w1 b2 [.bool false,.bool false,I 0] 265:=am
 have n2:∀b,Rf c V p b->b≠b2:=λb hb e=>by have:=aU hb;omega
 have aj:=ad.ND hB
 have av:=Ext.NY w1
 refine NB$ py$ PK (λw'=>Ext w1 w') O$ NX 0 O O (av)$ NG 1 O (OQ O) av$ NG 2 O (Og Pp O) av$ NG 3 O (Og OW O) av$ qT 4 O (λ_ h=>NJ Qd O O (h.ND aj) O) av$ NG 5 O (R7 Qd O) av$ NX 6 O O (av)$ NG 7 O (OQ O) av$ NG 8 O (Og PI O) av$ NG 9 O (Og OW O) av$ qT 10 O (λ_ h=>NJ Qd O O (h.ND aj) O) av ?_
 refine NG 11 O (R7 Qd O) av$ NG 12 O (SX O O (by omega)) av$ NG 13 O (PO O) av$ qE$ py ?_
 rw[show(A.once.length:Int)+(A.O2.length:Int)=((A.once.length+A.O2.length:Nat):Int) by omega]
 have aa:=Ext.NY w1.drew
 have kF:=av.ND aj
 refine PK (λw'=>Ext w1.drew w') O$ NX 0 O O (aa)$ NX 1 O O (aa)$ NG 2 O (OQ O) aa$ NG 3 O (Og Q4 O) aa$ NG 4 O (Og OW O) aa$ qT 5 O (λ_ h=>NJ Qd O O (h.ND kF) O) aa$ NG 6 O (R7 Qd O) aa$ NG 7 O (SX O O (by omega)) aa$ NX 8 O O (aa)$ NG 9 O (OQ O) aa$ NG 10 O (Og PZ O) aa$ NG 11 O (Og OW O) aa$ qT 12 O (λ_ h=>NJ Qd O O (h.ND kF) O) aa ?_
 refine NG 13 O (R7 Qd O) aa$ NG 14 O (SX O O (by omega)) aa$ NG 15 O (PO O) aa ?_
 rw[show((A.once.length+A.O2.length:Nat):Int)+(A.often.length:Int)+(A.NU.length:Int)=(A.all.length:Int) by omega]
 have ag:=(ad.trans av).trans aa
 obtain⟨w2,lC⟩:∃w2,w1.drew.drew=w2:=⟨_,rfl⟩
 rw[lC] at ag
 have aI:=av.trans aa
 rw[lC] at aI⊢
 have h2:=h.ext ag
 have mB:=h2.cells
 rw[e0,e1,e2,e3] at mB
 have iD:=aI.ND am
 have ae:=Ext.NY w2
 refine qE$ Of.qb (e:=[(0,_),(2,_),(3,_),(4,_)]) ?_
 refine py$ Oy (λe' w'=>e'=[(0,ptr c 0),(2,ptr b2 0)]/\∃A' V',A'.Ok/\A'.size=A.size/\UK w2 c V p w' A' V'/\NM w' b2 [.bool false,.bool false,I 0] 265/\A.add=A'.room false/\w2.heap.size<=w'.heap.size) ?eC$ λeC=>?iR
 case eC=>
  rintro e' w3 ⟨rfl,A',V',KR,zv,cg,ar,dN,z3⟩;refine qN O$ Nz O$ NZ z0h O (Sb cg.m KR (by omega) false) ?_;rintro _ w4 ⟨rfl,V4,bK⟩;have hr:=cg.trans bK
  have n3:∀b,Rf c V' p b->b≠b2:=λb hb e=>by
   rcases cg.fp b hb with h5|h5
   ·exact n2 b h5 e
   ·have:=iD.lt;omega
  have n4:∀b,Rf c V4 p b->b≠b2:=λb hb e=>by
   rcases hr.fp b hb with h5|h5
   ·exact n2 b h5 e
   ·have:=iD.lt;omega
  have ir:=bK.k.ND ar (λe=>n3 _ e O);obtain⟨g,hg⟩:∃g,(A'.room false).2=g:=⟨_,rfl⟩;rw[hg];refine NP O (OA (news:=Ql false g) On O O O O ir (by simp)) ?_;rintro w5 ⟨dX,ai⟩;replace dX:NM w5 b2 [.bool false,.bool g.isSome,I (g.getD 0)] 265:=dX;refine NB$ O9 func191 (.cell Rh O On O (NM.cells (n:=3) dX (news:=[_,_,_]) O) O .nil) ?_;rw[dN,hg];have z1:=ad.size;have z2:=ag.size;exact⟨_,rfl,rfl,V4,hr.m.kp ai n4,λb hb=>(hr.fp b hb).imp id (λe=>by omega),(ag.kp.trans hr.k).Nv ai (λj e=> .inl (by omega))⟩
 case iR =>
  have e13:(A.all.length:Int)=(A.all.length:Int):=rfl;have h3:=h2.ext ae;have qR:=ae.ND mB;have cX:=ae.ND iD;have z1:=ad.size;have z2:=ag.size;by_cases hf:A.once.length+A.O2.length=A.size
  ·by_cases ho:A.once.length<A.size
   ·refine Nw$ py$ PK (λw'=>Ext w2 w') O$ NX 0 O O (ae)$ NX 1 O O (ae)$ NG 2 O (OQ O) ae$ NG 3 O (Og Ra O) ae$ qT 4 O (λ_ h=>NJ U3 O O (h.ND mB) O) ae$ NG 5 O (yeq O O) ae$ SC$ NX 6 O O (ae)$ NX 7 O O (ae)$ NG 8 O (OQ O) ae$ NG 9 O (Og Pp O) ae ?_;refine NG 10 O (Og OW O) ae$ qT 11 O (λ_ h=>NJ Qd O O (h.ND mB) O) ae$ NG 12 O (R7 Qd O) ae$ NX 13 O O (ae)$ NG 14 O (OQ O) ae$ NG 15 O (Og Ra O) ae$ qT 16 O (λ_ h=>NJ U3 O O (h.ND mB) O) ae$ NG 17 O (ZQ O O) ae$ SC$ NG 18 O (Tu O O) ae$ NG 19 O (PO O) ae$ qE$ NI O ?_
    obtain⟨x,r,hw⟩:∃x r,A.O2=x::r:=by
     cases hx:A.O2 with
     |nil=>rw[hx] at hf;simp at hf;omega
     |cons x r=>exact⟨x,r,rfl⟩
    obtain⟨lb,lo,lc,zw,-⟩:=h2.head (j:=2) (by decide) hw;rw[e2] at zw;cases zw;have cA:=(h3.q 2 (by decide)).sl.rd;rw[e2] at cA;have sh:0<A.O2.length:=by rw[hw];simp
    have j5:((A.li 2).map I)[0]? =some (I x):=by show(A.O2.map I)[0]? =_;rw[hw];rfl
    have af:=Ext.NY w2.drew;refine O3 [10] (λw'=>Ext w2.drew w') (by kernel_rfl) O$ qL [1,2,10] 0 O (λ_ h=>Oq O) af$ qL [2,10] 1 O (λ_ h=>OQ O) af$ qL [10] 2 O (λ_ h=>Og PI O) af$ qL [4,5,6,7,8,9,10] 3 O (λ_ h=>Oq O) af$ qL [5,6,7,8,9,10] 4 O (λ_ h=>OQ O) af$ qL [6,7,8,9,10] 5 O (λ_ h=>Og PI O) af$ qL [7,8,9,10] 6 O (λ_ h=>Og OW O) af$ qL [8,9,10] 7 O (λ_ h=>NJ Qd O O (h.ND (ae.ND mB)) O) af$ qL [9,10] 8 O (λ_ h=>OH Qd OL O O (by omega)) af$ qL [10] 9 O (λ_ h=>Oi U3 O O (P6 (cA.ext h) (i:=0) j5)) af$ Rs [10]$ Qv 10 O Rm O (OZ (h3.ext af) (j:=2) (k:=x) (by decide)) ?_;rintro _ w5 ⟨rfl,V5,cf⟩;refine⟨trivial,?_⟩;have zx:(A.li 2).erase x=A.O2.drop 1:=by show A.O2.erase x=A.O2.drop 1;rw[hw];simp
    rw[zx] at cf;have fD:=(h2.r (ae.trans af)).trans cf;have dX:=fD.k.ND iD (λe=>n2 _ e O);refine qE$ Of.qb (e:=[(0,_),(2,_)]) ?_;refine Ny ?_;exact(eC _ _ ⟨rfl,_,V5,hA.zfk,(Za A (j:=2) (by decide) _).1,fD,dX,by unfold Arc.add;rw[if_pos hf,if_pos ho];rfl,fD.k.size⟩).qb
   ·refine Nw$ py$ PK (λw'=>Ext w2 w') O$ NX 0 O O (ae)$ NX 1 O O (ae)$ NG 2 O (OQ O) ae$ NG 3 O (Og Ra O) ae$ qT 4 O (λ_ h=>NJ U3 O O (h.ND mB) O) ae$ NG 5 O (yeq O O) ae$ SC$ NX 6 O O (ae)$ NX 7 O O (ae)$ NG 8 O (OQ O) ae$ NG 9 O (Og Pp O) ae ?_;refine NG 10 O (Og OW O) ae$ qT 11 O (λ_ h=>NJ Qd O O (h.ND mB) O) ae$ NG 12 O (R7 Qd O) ae$ NX 13 O O (ae)$ NG 14 O (OQ O) ae$ NG 15 O (Og Ra O) ae$ qT 16 O (λ_ h=>NJ U3 O O (h.ND mB) O) ae$ NG 17 O (ZQ O O) ae$ S4$ NG 18 O (Tu O O) ae$ NG 19 O (PO O) ae$ qE$ It O$ qN O ?_;refine NT O O$ O8 O$ NO Ra O$ qV (NJ U3 O O qR O)$ Px O O$ PE$ NF O$ Of.qb (e:=[(0,_),(2,_),(4,_),(66,_)]) ?_;refine NI O$ qN O$ NT O O$ O8 O$ NO Pp O ?_
    obtain⟨x,r,hw⟩:∃x r,A.once=x::r:=by
     cases hx:A.once with
     |nil=>rw[hx] at ho;simp at ho;omega
     |cons x r=>exact⟨x,r,rfl⟩
    have f0:=Ua h3 (j:=0) (by decide);rw[show A.li 0=A.once from rfl,show VU A.once= .tuple #[I x,.bool true] by rw[hw];rfl] at f0;obtain⟨w3,qU⟩:∃w3,w2.drew=w3:=⟨_,rfl⟩;rw[qU] at f0 h3 cX ae⊢;refine NZ WG O (f0) ?_;rintro _ w3 ⟨rfl,rfl⟩;refine Nz O$ qV (Q8 (v:=I x) O O)$ qV (Q8 (v:= .bool true) O O)$ NQ O$ NQ O$ qM O$ Nz O$ O8 O$ NO Pp O$ Nz O$ NZ Rm O (OZ h3 (j:=0) (k:=x) (by decide)) ?_;rintro _ w5 ⟨rfl,V5,cf⟩;have zx:(A.li 0).erase x=A.once.drop 1:=by show A.once.erase x=A.once.drop 1;rw[hw];simp
    rw[zx] at cf;have fD:=(h2.r ae).trans cf;have dX:=fD.k.ND iD (λe=>n2 _ e O);refine qM O$ Nz O$ qV (QP (cs:=[_,_,_]) On O Uz O O)$ NP O (OA (news:=Ql false (some x)) On O O O O dX (by simp)) ?_;rintro w6 ⟨jd,aP⟩;replace jd:NM w6 b2 [.bool false,.bool true,I x] 265:=jd;refine NB$ O9 func191 (.cell Rh O On O (NM.cells (n:=3) jd (news:=[_,_,_]) O) O .nil) ?_
    have n5:∀b,Rf c V5 p b->b≠b2:=λb hb e=>by
     rcases fD.fp b hb with h5|h5
     ·exact n2 b h5 e
     ·have:=iD.lt;omega
    have dN:A.add=(A.P5 0 (A.once.drop 1),some x):=by unfold Arc.add;rw[if_pos hf,if_neg ho,hw];rfl
    rw[dN];exact⟨_,rfl,rfl,V5,fD.m.kp aP n5,λb hb=>(fD.fp b hb).imp id (λe=>by omega),(ag.kp.trans fD.k).Nv aP (λj e=> .inl (by omega))⟩
  ·refine Nw$ py$ PK (λw'=>Ext w2 w') O$ NX 0 O O (ae)$ NX 1 O O (ae)$ NG 2 O (OQ O) ae$ NG 3 O (Og Ra O) ae$ qT 4 O (λ_ h=>NJ U3 O O (h.ND mB) O) ae$ NG 5 O (yeq O O) ae$ S4$ NX 6 O O (ae)$ qJ 7 O (ae)$ qJ 8 O (ae)$ qJ 9 O (ae) ?_;refine qJ 10 O (ae)$ qJ 11 O (ae)$ qJ 12 O (ae)$ qJ 13 O (ae)$ qJ 14 O (ae)$ qJ 15 O (ae)$ qJ 16 O (ae)$ qJ 17 O (ae)$ NG 18 O (S6 O O) ae$ NG 19 O (PO O) ae$ qE$ It O$ qN O$ NT O O ?_;refine O8 O$ NO Ra O$ qV (NJ U3 O O qR O)$ Px O O$ Ox$ NF O$ Of.qb (e:=[(0,_),(2,_),(4,_),(66,_)]) ?_;refine It O$ qN O$ NT O O$ O8 O$ NO Ra O$ qV (NJ U3 O O qR O) ?_;by_cases h4:A.all.length<A.size
   ·refine Pb O O$ PE$ NF O$ NI O$ qN O$ qV (QP (cs:=[_,_,_]) On O Uz O O)$ NP O (OA (news:=Ql false none) On O O O O cX (by simp)) ?_;rintro w5 ⟨dX,ai⟩;replace dX:NM w5 b2 [.bool false,.bool false,I 0] 265:=dX;refine NB$ O9 func191 (.cell Rh O On O (NM.cells (n:=3) dX (news:=[_,_,_]) O) O .nil) ?_;have dN:A.add=(A,none):=by unfold Arc.add;rw[if_neg hf,if_pos h4]
    rw[dN];exact⟨_,rfl,rfl,V,h3.kp ai n2,λb hb=> .inl hb,((ag.trans ae).Nv ai (λj e=>by omega)).kp⟩
   ·refine Pb O O$ Ox$ NF O$ It O$ qN O$ NT O O$ O8 O$ NO Ra O$ qV (NJ U3 O O qR O)$ qV (TT O O (by omega)) ?_;by_cases h5:A.all.length=2*A.size
    ·refine Px O O$ PE$ NF O$ NI O ?_
     obtain⟨x,r,hw⟩:∃x r,A.NU=x::r:=by
      cases hx:A.NU with
      |nil=>rw[hx] at i5;simp at i5;omega
      |cons x r=>exact⟨x,r,rfl⟩
     obtain⟨lb,lo,lc,zw,-⟩:=h2.head (j:=3) (by decide) hw;rw[e3] at zw;cases zw;have cA:=(h3.q 3 (by decide)).sl.rd;rw[e3] at cA;have sh:0<A.NU.length:=by rw[hw];simp
     have j5:((A.li 3).map I)[0]? =some (I x):=by show(A.NU.map I)[0]? =_;rw[hw];rfl
     have af:=Ext.NY w2.drew;refine O3 [10] (λw'=>Ext w2.drew w') (by kernel_rfl) O$ qL [1,2,10] 0 O (λ_ h=>Oq O) af$ qL [2,10] 1 O (λ_ h=>OQ O) af$ qL [10] 2 O (λ_ h=>Og PZ O) af$ qL [4,5,6,7,8,9,10] 3 O (λ_ h=>Oq O) af$ qL [5,6,7,8,9,10] 4 O (λ_ h=>OQ O) af$ qL [6,7,8,9,10] 5 O (λ_ h=>Og PZ O) af$ qL [7,8,9,10] 6 O (λ_ h=>Og OW O) af$ qL [8,9,10] 7 O (λ_ h=>NJ Qd O O (h.ND (ae.ND mB)) O) af$ qL [9,10] 8 O (λ_ h=>OH Qd OL O O (by omega)) af$ qL [10] 9 O (λ_ h=>Oi U3 O O (P6 (cA.ext h) (i:=0) j5)) af$ Rs [10]$ Qv 10 O Rm O (OZ (h3.ext af) (j:=3) (k:=x) (by decide)) ?_;rintro _ w5 ⟨rfl,V5,cf⟩;refine⟨trivial,?_⟩;have zx:(A.li 3).erase x=A.NU.drop 1:=by show A.NU.erase x=A.NU.drop 1;rw[hw];simp
     rw[zx] at cf;have fD:=(h2.r (ae.trans af)).trans cf;have dX:=fD.k.ND iD (λe=>n2 _ e O);refine qE$ Of.qb (e:=[(0,_),(2,_)]) ?_;refine Ny ?_;exact(eC _ _ ⟨rfl,_,V5,hA.zg5,(Za A (j:=3) (by decide) _).1,fD,dX,by unfold Arc.add;rw[if_neg hf,if_neg h4,if_pos h5];rfl,fD.k.size⟩).qb
    ·refine Px O O$ Ox$ NF O$ It O$ An$ Ny ?_;exact(eC _ _ ⟨rfl,A,V,hA,rfl,h2.r ae,cX,by unfold Arc.add;rw[if_neg hf,if_neg h4,if_neg h5],ae.size⟩).qb
end
section
variable {w w' w2:World}{c p:Nat}{A A' A2:Arc}{V V' V2:Nat->Value×Value}{S:Nat->Prop}{k:Int}
theorem Rk.XS (h:Rk w c A V p){T:Int}(hB:NM w' c (acC A.size T V p) 191)(hk:Kp (λb=>b=c) w w'):UK w c V p w' {A with target:=T} V:=
 ⟨⟨hB,λj hj=>by
  have e:({A with target:=T}:Arc).li j=A.li j:=by match j,hj with|0,_|1,_|2,_|3,_=>rfl
  rw[e]
  exact(h.q j hj).kp hk λb hb e=>h.nc j hj (e▸hb),hk.map h.pins (λe=>h.cp e.symm),h.UA,h.nc,h.np,h.cp⟩,λb hb=> .inl hb,hk.NR λb e=> .inl e⟩
theorem Arc.Ok.XS (h:A.Ok){T:Int}(hT:0<=T/\T<=A.size):({A with target:=T}:Arc).Ok:=⟨h.pos,h.nd,h.held,h.first,h.total,hT⟩
theorem UK.mono (h:UK w c V p w' A' V'){b:Nat}(hb:∀j,Rf c V p j->j≠b)(hw:b<w.heap.size):∀j,Rf c V' p j->j≠b:=λj hj e=>by
 rcases h.fp j hj with h5|h5
 ·exact hb j h5 e
 ·omega
theorem z5n (h : Rk w c A V p)(hA : A.Ok)(cH : A.size <= 1000) : Oa prog 150 [ptr c 0, I k] w λv w' => v = .tuple #[zbR (A.Qa k).2.1 (A.Qa k).2.2, I 0] /\ ∃ V', UK w c V p w' (A.Qa k).1 V' := by
 have lu:=hA.lens cH 1
 have gV:=hA.lens cH 2
 have kC:=hA.lens cH 3
 have KP:=hA.tg
 have iw:=hA.pos
 have i5:=A.PH
 have fi:=hA.total
 have fV:=hA.nd
 unfold Arc.all at fV
 rw[List.nodup_append] at fV
 obtain⟨nd1,nd2,nd3⟩:=fV
 rw[List.nodup_append] at nd2
 obtain⟨nd4,nd5,nd6⟩:=nd2
 have aU:∀{b:Nat},Rf c V p b->b<w.heap.size:=h.lt
 rw[show A.li 1=A.often from rfl] at lu
 rw[show A.li 2=A.O2 from rfl] at gV
 rw[show A.li 3=A.NU from rfl] at kC
 refine Nu (e:=[(0,_),(1,_)]) func150 O ntmps150 O O$ qN O$ NK O O (Qk (cs:=[_,_,_]) On O) ?_
 rintro _ w1 ⟨b4,rfl,ev,ad,aH⟩
 replace aH:NM w1 b4 [.bool false,.bool false,I 0] 265:=aH
 have n4:∀b,Rf c V p b->b≠b4:=λb hb e=>by have:=aU hb;omega
 have l4:=aH.lt
 have h1:=h.ext ad
 have z1:=ad.size
 refine NF O$ py$ qN O$ Nz O$ qV (OP z9p O O)$ NB$ It O$ An$ py$ qN O$ NT O O$ NZ zcj O (z0O h1 (k:=k)) ?_
 rintro _ w1 ⟨rfl,rfl⟩
 by_cases bH:k∈A.once\/k∈A.often
 ·rw[decide_eq_true bH];refine NB$ NI O$ qN O$ Nz O$ O8 O$ NO Pp O$ Nz O$ NZ Rm O (OZ h1 (j:=0) (k:=k) (by decide)) ?_;rintro _ w2 ⟨rfl,V2,dV⟩;refine qM O$ Nz O$ O8 O$ NO Q4 O$ Nz O$ NZ Rm O (OZ dV.m (j:=1) (k:=k) (by decide)) ?_;rintro _ w3 ⟨rfl,V3,cg⟩;refine qM O$ Nz O$ O8 O$ NO Q4 O$ Nz O ?_
  have vU:k∉((A.P5 0 ((A.li 0).erase k)).P5 1 (((A.P5 0 ((A.li 0).erase k)).li 1).erase k)).li 1:=by
   show k∉A.often.erase k;exact nd4.not_mem_erase
  have gO:(((A.P5 0 ((A.li 0).erase k)).P5 1 (((A.P5 0 ((A.li 0).erase k)).li 1).erase k)).li 1).length<=8191:=by
   show(A.often.erase k).length<=_;have:=(List.length_erase_le:(A.often.erase k).length<=A.often.length);omega
  refine NZ S0 O (PG cg.m (j:=1) (k:=k) (by decide) vU gO) ?_;rintro _ w4 ⟨rfl,V4,bK⟩;have hr:=(dV.trans cg).trans bK;have cx:=hr.k.ND aH (λe=>n4 _ e O);refine qM O$ qV (QP (cs:=[_,_,_]) On O Uz O O)$ NP O (OA (news:=Ql true none) On O O O O cx (by simp)) ?_;rintro w5 ⟨aN,ai⟩;replace aN:NM w5 b4 [.bool true,.bool false,I 0] 265:=aN;refine NF O$ Of.qb (e:=[(0,_),(1,_),(4,_),(5,_)]) ?_;refine O9 func150 (.cell Rh O On O (NM.cells (n:=3) aN (news:=[_,_,_]) O) O (.tmp O .nil)) ?_;have fi:A.Qa k=({A with once:=A.once.erase k,often:=A.often.erase k++[k]},true,none):=by unfold Arc.Qa;rw[if_pos bH]
  rw[fi];exact⟨_,rfl,rfl,V4,hr.m.kp ai (hr.mono n4 l4),λb hb=>(hr.fp b hb).imp id (λe=>by omega),(ad.kp.trans hr.k).Nv ai (λj e=> .inl (by omega))⟩
 ·rw [decide_eq_false bH]; have ia : k ∉ A.once := λe => bH (.inl e); have aM : k ∉ A.often := λe => bH (.inr e); have mh : ¬ A.held k := bH; refine NB (It O ?_); have f0 := Ua h1 (j := 0) (by decide); have f1 := Ua h1 (j := 1) (by decide); rw [show A.li 0 = A.once from rfl] at f0; rw [show A.li 1 = A.often from rfl] at f1
  obtain⟨v0,o0,e0,q0⟩:∃x o,VU A.once= .tuple #[I x,.bool o]/\(o=true↔A.once≠[]):=by
   cases A.once with
   |nil=>exact⟨_,_,rfl,by simp⟩
   |cons x r=>exact⟨_,_,rfl,by simp⟩
  obtain⟨v1,o1,e1,q1⟩:∃x o,VU A.often= .tuple #[I x,.bool o]/\(o=true↔A.often≠[]):=by
   cases A.often with
   |nil=>exact⟨_,_,rfl,by simp⟩
   |cons x r=>exact⟨_,_,rfl,by simp⟩
  rw[e0] at f0;rw[e1] at f1;refine An$ qN O$ NT O O$ O8 O$ NO Pp O$ NZ WG O (f0) ?_;rintro _ w1 ⟨rfl,rfl⟩;refine Nz O$ qV (Q8 (v:=I v0) O O)$ qV (Q8 (v:= .bool o0) O O)$ NQ O$ NQ O$ qM O$ NT O O$ O8 O$ NO Q4 O$ NZ WG O (f1) ?_;rintro _ w1 ⟨rfl,rfl⟩;refine Nz O$ qV (Q8 (v:=I v1) O O)$ qV (Q8 (v:= .bool o1) O O)$ NQ O$ NF O$ Of.qb (e:=[(0,_),(1,_),(4,_),(5,_),(7,_),(9,_)]) ?_;refine py$ qN O$ Nz O$ NZ zcF O (z0X h1 hA cH) ?_;rintro _ w2 ⟨rfl,ag⟩;have h2:=h1.ext ag;have bF:=ag.ND aH;have aJ:=ad.trans ag;have z2:=ag.size;have fj:=h2.cells;have aa:=Ext.NY w2;obtain⟨a2,c2,e2,-⟩:∃a c,(V 2).1= .slice a A.O2.length c/\_:=(h.q 2 (by decide)).sl.rd.shape;obtain⟨a3,c3,e3,-⟩:∃a c,(V 3).1= .slice a A.NU.length c/\_:=(h.q 3 (by decide)).sl.rd.shape;rw[e2,e3] at fj;have lC:=U8 h2 (j:=2) (k:=k) (by decide);have qU:=U8 h2 (j:=3) (k:=k) (by decide);rw[show A.li 2=A.O2 from rfl] at lC;rw[show A.li 3=A.NU from rfl] at qU;have n4':∀b,Rf c V p b->b≠b4:=n4;have l42:b4<w2.heap.size:=by omega
  by_cases ce:A.once.length+A.often.length=A.size
  ·rw [decide_eq_true ce]
   cases HF:o0 with
   | true =>
     subst HF;refine NT O O$ qV ((Qr O))$ Pc O O$ Nz O$ qS$ qS$ OC O O$ NB$ It O$ An$ py$ Nw$ qN O$ Nz O ?_;refine O8 O$ NO PI O$ Nz O$ NZ W9 O (lC) ?_;rintro _ w2 ⟨rfl,rfl⟩;by_cases hg:k∈A.O2
     ·rw[decide_eq_true hg];refine NF O$ NI O$ py ?_;have sh:0<A.O2.length:=List.length_pos_of_mem hg;obtain⟨q,hq⟩:∃q,A.NU.length / A.O2.length=q:=⟨_,rfl⟩;have fO:q<=2000:=by rw[<-hq];exact Nat.le_trans (Nat.div_le_self _ _) kC
      have mV:(A.NU.length:Int) / (A.O2.length:Int)=(q:Int):=by rw[<-hq];exact(Int.natCast_ediv _ _).symm
      refine O3 [27] (λw'=>Ext w2 w') (by kernel_rfl) O$ qL [25,26,27] 0 O (λ_ h=>Oq O) aa$ qL [2,3,4,24,25,26,27] 1 O (λ_ h=>Oq O) aa$ qL [3,4,24,25,26,27] 2 O (λ_ h=>OQ O) aa$ qL [4,24,25,26,27] 3 O (λ_ h=>Og Ra O) aa$ qL [24,25,26,27] 4 O (λ_ h=>NJ U3 O O (h.ND fj) O) aa$ qL [6,7,8,23,24,25,26,27] 5 O (λ_ h=>Oq O) aa$ qL [7,8,23,24,25,26,27] 6 O (λ_ h=>OQ O) aa$ qL [8,23,24,25,26,27] 7 O (λ_ h=>Og PY O) aa$ qL [23,24,25,26,27] 8 O (λ_ h=>NJ U3 O O (h.ND fj) O) aa$ qL [10,11,12,13,14,21,22,23,24,25,26,27] 9 O (λ_ h=>Oq O) aa$ qL [11,12,13,14,21,22,23,24,25,26,27] 10 O (λ_ h=>OQ O) aa$ qL [12,13,14,21,22,23,24,25,26,27] 11 O (λ_ h=>Og PZ O) aa$ qL [13,14,21,22,23,24,25,26,27] 12 O (λ_ h=>Og OW O) aa ?_;refine qL [14,21,22,23,24,25,26,27] 13 O (λ_ h=>NJ Qd O O (h.ND fj) O) aa$ qL [21,22,23,24,25,26,27] 14 O (λ_ h=>R7 Qd O) aa$ qL [16,17,18,19,20,21,22,23,24,25,26,27] 15 O (λ_ h=>Oq O) aa$ qL [17,18,19,20,21,22,23,24,25,26,27] 16 O (λ_ h=>OQ O) aa$ qL [18,19,20,21,22,23,24,25,26,27] 17 O (λ_ h=>Og PI O) aa$ qL [19,20,21,22,23,24,25,26,27] 18 O (λ_ h=>Og OW O) aa$ qL [20,21,22,23,24,25,26,27] 19 O (λ_ h=>NJ Qd O O (h.ND fj) O) aa$ qL [21,22,23,24,25,26,27] 20 O (λ_ h=>R7 Qd O) aa$ qL [22,23,24,25,26,27] 21 O (λ_ h=>Vu O O ⟨by omega,by omega,by omega⟩) aa ?_;rw[mV];refine qL [23,24,25,26,27] 22 O (λ_ h=>yma O O) aa$ qL [24,25,26,27] 23 O (λ_ h=>SX O O (by omega)) aa$ qL [25,26,27] 24 O (λ_ h=>ymi O O) aa$ qL [26,27] 25 O (λ_ h=>OQ O) aa$ qL [27] 26 O (λ_ h=>Og PY O) aa$ Rs [27]$ qO 27$ Ou (i:=27) O O (PA OL O O O (aa.ND fj) (by simp)) ?_;rintro w5 ⟨aC,ai⟩;refine⟨trivial,?_⟩;obtain⟨T,hT⟩:∃T:Int,min (A.size:Int) (A.target+max 1 (q:Int))=T:=⟨_,rfl⟩;have oq:0<=T/\T<=A.size:=by omega
      rw[hT] at aC
      replace aC:NM w5 c (acC A.size T V p) 191:=by
       show NM w5 c [I (A.size:Int),(V 0).1,(V 0).2,(V 1).1,(V 1).2,(V 2).1,(V 2).2,(V 3).1,(V 3).2,I T,.map (some p)] _;rw[e2,e3];exact aC
      have cf:=(h2.ext aa).XS aC ai;have aW:=hA.XS oq;obtain⟨A5,bI⟩:∃A5:Arc,{A with target:=T}=A5:=⟨_,rfl⟩;have mQ:A5.size=A.size:=by rw[<-bI]
      have ot:¬A5.held k:=by rw[<-bI];exact mh
      have s8:k∈A5.O2:=by rw[<-bI];exact hg
      rw[bI] at cf aW;refine qE$ Of.qb (e:=[(0,_),(1,_),(4,_),(5,_)]) ?_;refine qN O$ Nz O$ NZ z0h O (Sb cf.m aW (by omega) false) ?_;rintro _ w6 ⟨rfl,V6,cG⟩;have ay:=Arc.RP aW false;obtain⟨r6,co⟩:∃r,A5.room false=r:=⟨_,rfl⟩;rw[co] at cG ay⊢;obtain⟨A6,g6⟩:=r6;dsimp only at cG ay⊢;have et:=ay.perm.length_eq;have jw:=A6.PH;have ou:=A5.PH;have ov:=aW.total;have aG:=((h2.r aa).trans cf).trans cG;have bZ:=aG.k.ND bF (λe=>n4' _ e O);refine NP O (OA (news:=Ql false g6) On O O O O bZ (by simp)) ?_;rintro w7 ⟨bC,ax⟩;replace bC:NM w7 b4 [.bool false,.bool g6.isSome,I (g6.getD 0)] 265:=bC;have n46:=aG.mono n4' l42;have gG:=aG.m.kp ax n46;refine qM O$ Nz O$ O8 O$ NO PI O$ Nz O$ NZ Rm O (OZ gG (j:=2) (k:=k) (by decide)) ?_;rintro _ w8 ⟨rfl,V8,fU⟩
      have dO:k∉(A6.P5 2 ((A6.li 2).erase k)).li 1:=by
       show k∉A6.often;exact λe=>ot ((ay.gone k).1 (.inr e)).1
      refine NB$ NC O$ Nz O$ O8 O$ NO Q4 O$ Nz O$ NZ S0 O (PG fU.m (j:=1) (k:=k) (by decide) dO (by show A6.often.length<=_;omega)) ?_;rintro _ w9 ⟨rfl,V9,i7⟩;have bh:=fU.trans i7;have bY:=bh.k.ND bC (λe=>n46 _ e O);have fk:=bY
      have ct:∀b,Rf c V9 p b->Rf c V p b\/w2.heap.size<=b:=λb hb=>by
       rcases bh.fp b hb with h5|h5
       ·exact aG.fp b h5
       ·have:=aG.k.size;have:=ax.size;exact .inr (by omega)
      have aS:Kp (λj=>Rf c V p j\/j=b4) w2 w9:=((aG.k.NR λj e=> .inl e).trans (ax.NR λj e=> .inr e)).Nv bh.k (λj e=>by
       rcases aG.fp j e with h5|h5
       ·exact .inr (.inl h5)
       ·exact .inl h5)
      refine NB$ Ny$ qN O$ qV (Oh (news:=Ql false g6) Rh O On O (NM.cells (n:=3) fk O) O)$ NP O (OA (news:=Ql false g6) On O O O O fk (by simp)) ?_;rintro we ⟨dh,dg⟩;replace dh:NM we b4 [.bool false,.bool g6.isSome,I (g6.getD 0)] 265:=dh;refine NF O$ O9 func150 (.cell Rh O On O (NM.cells (n:=3) dh (news:=[_,_,_]) O) O (.tmp O .nil)) ?_
      have n49:∀b,Rf c V9 p b->b≠b4:=λb hb e=>by
       rcases ct b hb with h5|h5
       ·exact n4' b h5 e
       ·omega
      have fi:A.Qa k=({A6 with O2:=A6.O2.erase k,often:=A6.often++[k]},false,g6):=by
       unfold Arc.Qa;rw[if_neg bH,if_pos hg];dsimp only;rw[hq,hT,bI,co]
      rw[fi]
      exact⟨_,rfl,rfl,V9,bh.m.kp dg n49,λb hb=>(ct b hb).imp id (λe=>by omega),(aJ.kp.Nv aS (λj e=>by
       rcases e with e| e
       ·exact .inr e
       ·exact .inl (by omega))).Nv dg (λj e=> .inl (by omega))⟩
     ·have sj:=hg;rw[decide_eq_false hg];refine NF O$ It O$ qN O$ Nz O$ O8 O$ NO PZ O$ Nz O$ NZ W9 O (qU) ?_;rintro _ w2 ⟨rfl,rfl⟩;by_cases hg:k∈A.NU
      ·rw[decide_eq_true hg];refine NF O$ Of.qb (e:=[(0,_),(1,_),(4,_),(5,_),(111,_)]) ?_;refine NI O$ py ?_;have sh:0<A.NU.length:=List.length_pos_of_mem hg;obtain⟨q,hq⟩:∃q,A.O2.length / A.NU.length=q:=⟨_,rfl⟩;have fO:q<=2000:=by rw[<-hq];exact Nat.le_trans (Nat.div_le_self _ _) gV
       have mV:(A.O2.length:Int) / (A.NU.length:Int)=(q:Int):=by rw[<-hq];exact(Int.natCast_ediv _ _).symm
       refine O3 [23] (λw'=>Ext w2 w') (by kernel_rfl) O$ qL [21,22,23] 0 O (λ_ h=>Oq O) aa$ qL [2,3,4,19,20,21,22,23] 1 O (λ_ h=>Oq O) aa$ qL [3,4,19,20,21,22,23] 2 O (λ_ h=>OQ O) aa$ qL [4,19,20,21,22,23] 3 O (λ_ h=>Og PY O) aa$ qL [19,20,21,22,23] 4 O (λ_ h=>NJ U3 O O (h.ND fj) O) aa$ qL [6,7,8,9,10,17,18,19,20,21,22,23] 5 O (λ_ h=>Oq O) aa$ qL [7,8,9,10,17,18,19,20,21,22,23] 6 O (λ_ h=>OQ O) aa$ qL [8,9,10,17,18,19,20,21,22,23] 7 O (λ_ h=>Og PI O) aa$ qL [9,10,17,18,19,20,21,22,23] 8 O (λ_ h=>Og OW O) aa$ qL [10,17,18,19,20,21,22,23] 9 O (λ_ h=>NJ Qd O O (h.ND fj) O) aa$ qL [17,18,19,20,21,22,23] 10 O (λ_ h=>R7 Qd O) aa$ qL [12,13,14,15,16,17,18,19,20,21,22,23] 11 O (λ_ h=>Oq O) aa$ qL [13,14,15,16,17,18,19,20,21,22,23] 12 O (λ_ h=>OQ O) aa ?_;refine qL [14,15,16,17,18,19,20,21,22,23] 13 O (λ_ h=>Og PZ O) aa$ qL [15,16,17,18,19,20,21,22,23] 14 O (λ_ h=>Og OW O) aa$ qL [16,17,18,19,20,21,22,23] 15 O (λ_ h=>NJ Qd O O (h.ND fj) O) aa$ qL [17,18,19,20,21,22,23] 16 O (λ_ h=>R7 Qd O) aa$ qL [18,19,20,21,22,23] 17 O (λ_ h=>Vu O O ⟨by omega,by omega,by omega⟩) aa ?_;rw[mV];refine qL [19,20,21,22,23] 18 O (λ_ h=>yma O O) aa$ qL [20,21,22,23] 19 O (λ_ h=>W5 O O (by omega)) aa$ qL [21,22,23] 20 O (λ_ h=>yma O O) aa$ qL [22,23] 21 O (λ_ h=>OQ O) aa$ qL [23] 22 O (λ_ h=>Og PY O) aa$ Rs [23]$ qO 23$ Ou (i:=23) O O (PA OL O O O (aa.ND fj) (by simp)) ?_;rintro w5 ⟨aC,ai⟩;refine⟨trivial,?_⟩;obtain⟨T,hT⟩:∃T:Int,max 0 (A.target-max 1 (q:Int))=T:=⟨_,rfl⟩;have oq:0<=T/\T<=A.size:=by omega
       rw[hT] at aC
       replace aC:NM w5 c (acC A.size T V p) 191:=by
        show NM w5 c [I (A.size:Int),(V 0).1,(V 0).2,(V 1).1,(V 1).2,(V 2).1,(V 2).2,(V 3).1,(V 3).2,I T,.map (some p)] _;rw[e2,e3];exact aC
       have cf:=(h2.ext aa).XS aC ai;have aW:=hA.XS oq;obtain⟨A5,bI⟩:∃A5:Arc,{A with target:=T}=A5:=⟨_,rfl⟩;have mQ:A5.size=A.size:=by rw[<-bI]
       have ot:¬A5.held k:=by rw[<-bI];exact mh
       have s8:k∈A5.NU:=by rw[<-bI];exact hg
       rw[bI] at cf aW;refine qE$ Of.qb (e:=[(0,_),(1,_),(4,_),(5,_)]) ?_;refine qN O$ Nz O$ NZ z0h O (Sb cf.m aW (by omega) true) ?_;rintro _ w6 ⟨rfl,V6,cG⟩;have ay:=Arc.RP aW true;obtain⟨r6,co⟩:∃r,A5.room true=r:=⟨_,rfl⟩;rw[co] at cG ay⊢;obtain⟨A6,g6⟩:=r6;dsimp only at cG ay⊢;have et:=ay.perm.length_eq;have jw:=A6.PH;have ou:=A5.PH;have ov:=aW.total;have aG:=((h2.r aa).trans cf).trans cG;have bZ:=aG.k.ND bF (λe=>n4' _ e O);refine NP O (OA (news:=Ql false g6) On O O O O bZ (by simp)) ?_;rintro w7 ⟨bC,ax⟩;replace bC:NM w7 b4 [.bool false,.bool g6.isSome,I (g6.getD 0)] 265:=bC;have n46:=aG.mono n4' l42;have gG:=aG.m.kp ax n46;refine qM O$ Nz O$ O8 O$ NO PZ O$ Nz O$ NZ Rm O (OZ gG (j:=3) (k:=k) (by decide)) ?_;rintro _ w8 ⟨rfl,V8,fU⟩
       have dO:k∉(A6.P5 3 ((A6.li 3).erase k)).li 1:=by
        show k∉A6.often;exact λe=>ot ((ay.gone k).1 (.inr e)).1
       refine NB$ NC O$ Nz O$ O8 O$ NO Q4 O$ Nz O$ NZ S0 O (PG fU.m (j:=1) (k:=k) (by decide) dO (by show A6.often.length<=_;omega)) ?_;rintro _ w9 ⟨rfl,V9,i7⟩;have bh:=fU.trans i7;have bY:=bh.k.ND bC (λe=>n46 _ e O);have fk:=bY
       have ct:∀b,Rf c V9 p b->Rf c V p b\/w2.heap.size<=b:=λb hb=>by
        rcases bh.fp b hb with h5|h5
        ·exact aG.fp b h5
        ·have:=aG.k.size;have:=ax.size;exact .inr (by omega)
       have aS:Kp (λj=>Rf c V p j\/j=b4) w2 w9:=((aG.k.NR λj e=> .inl e).trans (ax.NR λj e=> .inr e)).Nv bh.k (λj e=>by
        rcases aG.fp j e with h5|h5
        ·exact .inr (.inl h5)
        ·exact .inl h5)
       refine NB$ Ny$ qN O$ qV (Oh (news:=Ql false g6) Rh O On O (NM.cells (n:=3) fk O) O)$ NP O (OA (news:=Ql false g6) On O O O O fk (by simp)) ?_;rintro we ⟨dh,dg⟩;replace dh:NM we b4 [.bool false,.bool g6.isSome,I (g6.getD 0)] 265:=dh;refine NF O$ O9 func150 (.cell Rh O On O (NM.cells (n:=3) dh (news:=[_,_,_]) O) O (.tmp O .nil)) ?_
       have n49:∀b,Rf c V9 p b->b≠b4:=λb hb e=>by
        rcases ct b hb with h5|h5
        ·exact n4' b h5 e
        ·omega
       have fi:A.Qa k=({A6 with NU:=A6.NU.erase k,often:=A6.often++[k]},false,g6):=by
        unfold Arc.Qa;rw[if_neg bH,if_neg sj,if_pos hg];dsimp only;rw[hq,hT,bI,co]
       rw[fi]
       exact⟨_,rfl,rfl,V9,bh.m.kp dg n49,λb hb=>(ct b hb).imp id (λe=>by omega),(aJ.kp.Nv aS (λj e=>by
        rcases e with e| e
        ·exact .inr e
        ·exact .inl (by omega))).Nv dg (λj e=> .inl (by omega))⟩
      ·rw[decide_eq_false hg];refine NF O$ Of.qb (e:=[(0,_),(1,_),(4,_),(5,_),(111,_)]) ?_;refine It O$ qN O$ Nz O$ NZ zaH O (ZT h2 hA cH) ?_;rintro _ w6 ⟨rfl,V6,cG⟩;have dN:=Arc.z1A hA;obtain⟨r6,co⟩:∃r,A.add=r:=⟨_,rfl⟩;rw[co] at cG dN⊢;obtain⟨A6,g6⟩:=r6;dsimp only at cG dN⊢;obtain⟨fI,-,-⟩:=dN;have jw:=A6.PH;have aG:=cG;have bZ:=aG.k.ND bF (λe=>n4' _ e O);refine NP O (OA (news:=Ql false g6) On O O O O bZ (by simp)) ?_;rintro w7 ⟨bC,ax⟩;replace bC:NM w7 b4 [.bool false,.bool g6.isSome,I (g6.getD 0)] 265:=bC;have n46:=aG.mono n4' l42;have gG:=aG.m.kp ax n46
       have dO:k∉A6.li 0:=by
        show k∉A6.once;exact λe=>mh ((fI.gone k).1 (.inl e)).1
       have pz:=fI.Xj;refine NB$ NC O$ Nz O$ O8 O$ NO Pp O$ Nz O$ NZ S0 O (PG gG (j:=0) (k:=k) (by decide) dO (by show A6.once.length<=_;omega)) ?_;rintro _ w9 ⟨rfl,V9,i7⟩;have bh:=i7;have bY:=bh.k.ND bC (λe=>n46 _ e O);have fk:=bY
       have ct:∀b,Rf c V9 p b->Rf c V p b\/w2.heap.size<=b:=λb hb=>by
        rcases bh.fp b hb with h5|h5
        ·exact aG.fp b h5
        ·have:=aG.k.size;have:=ax.size;exact .inr (by omega)
       have aS:Kp (λj=>Rf c V p j\/j=b4) w2 w9:=((aG.k.NR λj e=> .inl e).trans (ax.NR λj e=> .inr e)).Nv bh.k (λj e=>by
        rcases aG.fp j e with h5|h5
        ·exact .inr (.inl h5)
        ·exact .inl h5)
       refine NB$ Ny$ qN O$ qV (Oh (news:=Ql false g6) Rh O On O (NM.cells (n:=3) fk O) O)$ NP O (OA (news:=Ql false g6) On O O O O fk (by simp)) ?_;rintro we ⟨dh,dg⟩;replace dh:NM we b4 [.bool false,.bool g6.isSome,I (g6.getD 0)] 265:=dh;refine NF O$ O9 func150 (.cell Rh O On O (NM.cells (n:=3) dh (news:=[_,_,_]) O) O (.tmp O .nil)) ?_
       have n49:∀b,Rf c V9 p b->b≠b4:=λb hb e=>by
        rcases ct b hb with h5|h5
        ·exact n4' b h5 e
        ·omega
       have fi:A.Qa k=({A6 with once:=A6.once++[k]},false,g6):=by
        unfold Arc.Qa;rw[if_neg bH,if_neg sj,if_neg hg];dsimp only;rw[co]
       rw[fi]
       exact⟨_,rfl,rfl,V9,bh.m.kp dg n49,λb hb=>(ct b hb).imp id (λe=>by omega),(aJ.kp.Nv aS (λj e=>by
        rcases e with e| e
        ·exact .inr e
        ·exact .inl (by omega))).Nv dg (λj e=> .inl (by omega))⟩
   | false =>
     subst HF
     have zu:o1=true:=by
      have e:A.once=[]:=Classical.not_not.1 λe=>by have:=q0.2 e;cases this
      rw[e] at ce;exact q1.2 λe=>by rw[e] at ce;simp at ce;omega
     subst zu;refine NT O O$ qV ((Qr O))$ Pc O O$ NT O O$ qV ((Qr O))$ Pc O O$ NB$ It O$ An$ py$ Nw$ qN O$ Nz O$ O8 O ?_;refine NO PI O$ Nz O$ NZ W9 O (lC) ?_;rintro _ w2 ⟨rfl,rfl⟩;by_cases hg:k∈A.O2
     ·rw[decide_eq_true hg];refine NF O$ NI O$ py ?_;have sh:0<A.O2.length:=List.length_pos_of_mem hg;obtain⟨q,hq⟩:∃q,A.NU.length / A.O2.length=q:=⟨_,rfl⟩;have fO:q<=2000:=by rw[<-hq];exact Nat.le_trans (Nat.div_le_self _ _) kC
      have mV:(A.NU.length:Int) / (A.O2.length:Int)=(q:Int):=by rw[<-hq];exact(Int.natCast_ediv _ _).symm
      refine O3 [27] (λw'=>Ext w2 w') (by kernel_rfl) O$ qL [25,26,27] 0 O (λ_ h=>Oq O) aa$ qL [2,3,4,24,25,26,27] 1 O (λ_ h=>Oq O) aa$ qL [3,4,24,25,26,27] 2 O (λ_ h=>OQ O) aa$ qL [4,24,25,26,27] 3 O (λ_ h=>Og Ra O) aa$ qL [24,25,26,27] 4 O (λ_ h=>NJ U3 O O (h.ND fj) O) aa$ qL [6,7,8,23,24,25,26,27] 5 O (λ_ h=>Oq O) aa$ qL [7,8,23,24,25,26,27] 6 O (λ_ h=>OQ O) aa$ qL [8,23,24,25,26,27] 7 O (λ_ h=>Og PY O) aa$ qL [23,24,25,26,27] 8 O (λ_ h=>NJ U3 O O (h.ND fj) O) aa$ qL [10,11,12,13,14,21,22,23,24,25,26,27] 9 O (λ_ h=>Oq O) aa$ qL [11,12,13,14,21,22,23,24,25,26,27] 10 O (λ_ h=>OQ O) aa$ qL [12,13,14,21,22,23,24,25,26,27] 11 O (λ_ h=>Og PZ O) aa$ qL [13,14,21,22,23,24,25,26,27] 12 O (λ_ h=>Og OW O) aa ?_;refine qL [14,21,22,23,24,25,26,27] 13 O (λ_ h=>NJ Qd O O (h.ND fj) O) aa$ qL [21,22,23,24,25,26,27] 14 O (λ_ h=>R7 Qd O) aa$ qL [16,17,18,19,20,21,22,23,24,25,26,27] 15 O (λ_ h=>Oq O) aa$ qL [17,18,19,20,21,22,23,24,25,26,27] 16 O (λ_ h=>OQ O) aa$ qL [18,19,20,21,22,23,24,25,26,27] 17 O (λ_ h=>Og PI O) aa$ qL [19,20,21,22,23,24,25,26,27] 18 O (λ_ h=>Og OW O) aa$ qL [20,21,22,23,24,25,26,27] 19 O (λ_ h=>NJ Qd O O (h.ND fj) O) aa$ qL [21,22,23,24,25,26,27] 20 O (λ_ h=>R7 Qd O) aa$ qL [22,23,24,25,26,27] 21 O (λ_ h=>Vu O O ⟨by omega,by omega,by omega⟩) aa ?_;rw[mV];refine qL [23,24,25,26,27] 22 O (λ_ h=>yma O O) aa$ qL [24,25,26,27] 23 O (λ_ h=>SX O O (by omega)) aa$ qL [25,26,27] 24 O (λ_ h=>ymi O O) aa$ qL [26,27] 25 O (λ_ h=>OQ O) aa$ qL [27] 26 O (λ_ h=>Og PY O) aa$ Rs [27]$ qO 27$ Ou (i:=27) O O (PA OL O O O (aa.ND fj) (by simp)) ?_;rintro w5 ⟨aC,ai⟩;refine⟨trivial,?_⟩;obtain⟨T,hT⟩:∃T:Int,min (A.size:Int) (A.target+max 1 (q:Int))=T:=⟨_,rfl⟩;have oq:0<=T/\T<=A.size:=by omega
      rw[hT] at aC
      replace aC:NM w5 c (acC A.size T V p) 191:=by
       show NM w5 c [I (A.size:Int),(V 0).1,(V 0).2,(V 1).1,(V 1).2,(V 2).1,(V 2).2,(V 3).1,(V 3).2,I T,.map (some p)] _;rw[e2,e3];exact aC
      have cf:=(h2.ext aa).XS aC ai;have aW:=hA.XS oq;obtain⟨A5,bI⟩:∃A5:Arc,{A with target:=T}=A5:=⟨_,rfl⟩;have mQ:A5.size=A.size:=by rw[<-bI]
      have ot:¬A5.held k:=by rw[<-bI];exact mh
      have s8:k∈A5.O2:=by rw[<-bI];exact hg
      rw[bI] at cf aW;refine qE$ Of.qb (e:=[(0,_),(1,_),(4,_),(5,_)]) ?_;refine qN O$ Nz O$ NZ z0h O (Sb cf.m aW (by omega) false) ?_;rintro _ w6 ⟨rfl,V6,cG⟩;have ay:=Arc.RP aW false;obtain⟨r6,co⟩:∃r,A5.room false=r:=⟨_,rfl⟩;rw[co] at cG ay⊢;obtain⟨A6,g6⟩:=r6;dsimp only at cG ay⊢;have et:=ay.perm.length_eq;have jw:=A6.PH;have ou:=A5.PH;have ov:=aW.total;have aG:=((h2.r aa).trans cf).trans cG;have bZ:=aG.k.ND bF (λe=>n4' _ e O);refine NP O (OA (news:=Ql false g6) On O O O O bZ (by simp)) ?_;rintro w7 ⟨bC,ax⟩;replace bC:NM w7 b4 [.bool false,.bool g6.isSome,I (g6.getD 0)] 265:=bC;have n46:=aG.mono n4' l42;have gG:=aG.m.kp ax n46;refine qM O$ Nz O$ O8 O$ NO PI O$ Nz O$ NZ Rm O (OZ gG (j:=2) (k:=k) (by decide)) ?_;rintro _ w8 ⟨rfl,V8,fU⟩
      have dO:k∉(A6.P5 2 ((A6.li 2).erase k)).li 1:=by
       show k∉A6.often;exact λe=>ot ((ay.gone k).1 (.inr e)).1
      refine NB$ NC O$ Nz O$ O8 O$ NO Q4 O$ Nz O$ NZ S0 O (PG fU.m (j:=1) (k:=k) (by decide) dO (by show A6.often.length<=_;omega)) ?_;rintro _ w9 ⟨rfl,V9,i7⟩;have bh:=fU.trans i7;have bY:=bh.k.ND bC (λe=>n46 _ e O);have fk:=bY
      have ct:∀b,Rf c V9 p b->Rf c V p b\/w2.heap.size<=b:=λb hb=>by
       rcases bh.fp b hb with h5|h5
       ·exact aG.fp b h5
       ·have:=aG.k.size;have:=ax.size;exact .inr (by omega)
      have aS:Kp (λj=>Rf c V p j\/j=b4) w2 w9:=((aG.k.NR λj e=> .inl e).trans (ax.NR λj e=> .inr e)).Nv bh.k (λj e=>by
       rcases aG.fp j e with h5|h5
       ·exact .inr (.inl h5)
       ·exact .inl h5)
      refine NB$ Ny$ qN O$ qV (Oh (news:=Ql false g6) Rh O On O (NM.cells (n:=3) fk O) O)$ NP O (OA (news:=Ql false g6) On O O O O fk (by simp)) ?_;rintro we ⟨dh,dg⟩;replace dh:NM we b4 [.bool false,.bool g6.isSome,I (g6.getD 0)] 265:=dh;refine NF O$ O9 func150 (.cell Rh O On O (NM.cells (n:=3) dh (news:=[_,_,_]) O) O (.tmp O .nil)) ?_
      have n49:∀b,Rf c V9 p b->b≠b4:=λb hb e=>by
       rcases ct b hb with h5|h5
       ·exact n4' b h5 e
       ·omega
      have fi:A.Qa k=({A6 with O2:=A6.O2.erase k,often:=A6.often++[k]},false,g6):=by
       unfold Arc.Qa;rw[if_neg bH,if_pos hg];dsimp only;rw[hq,hT,bI,co]
      rw[fi]
      exact⟨_,rfl,rfl,V9,bh.m.kp dg n49,λb hb=>(ct b hb).imp id (λe=>by omega),(aJ.kp.Nv aS (λj e=>by
       rcases e with e| e
       ·exact .inr e
       ·exact .inl (by omega))).Nv dg (λj e=> .inl (by omega))⟩
     ·have sj:=hg;rw[decide_eq_false hg];refine NF O$ It O$ qN O$ Nz O$ O8 O$ NO PZ O$ Nz O$ NZ W9 O (qU) ?_;rintro _ w2 ⟨rfl,rfl⟩;by_cases hg:k∈A.NU
      ·rw[decide_eq_true hg];refine NF O$ Of.qb (e:=[(0,_),(1,_),(4,_),(5,_),(111,_)]) ?_;refine NI O$ py ?_;have sh:0<A.NU.length:=List.length_pos_of_mem hg;obtain⟨q,hq⟩:∃q,A.O2.length / A.NU.length=q:=⟨_,rfl⟩;have fO:q<=2000:=by rw[<-hq];exact Nat.le_trans (Nat.div_le_self _ _) gV
       have mV:(A.O2.length:Int) / (A.NU.length:Int)=(q:Int):=by rw[<-hq];exact(Int.natCast_ediv _ _).symm
       refine O3 [23] (λw'=>Ext w2 w') (by kernel_rfl) O$ qL [21,22,23] 0 O (λ_ h=>Oq O) aa$ qL [2,3,4,19,20,21,22,23] 1 O (λ_ h=>Oq O) aa$ qL [3,4,19,20,21,22,23] 2 O (λ_ h=>OQ O) aa$ qL [4,19,20,21,22,23] 3 O (λ_ h=>Og PY O) aa$ qL [19,20,21,22,23] 4 O (λ_ h=>NJ U3 O O (h.ND fj) O) aa$ qL [6,7,8,9,10,17,18,19,20,21,22,23] 5 O (λ_ h=>Oq O) aa$ qL [7,8,9,10,17,18,19,20,21,22,23] 6 O (λ_ h=>OQ O) aa$ qL [8,9,10,17,18,19,20,21,22,23] 7 O (λ_ h=>Og PI O) aa$ qL [9,10,17,18,19,20,21,22,23] 8 O (λ_ h=>Og OW O) aa$ qL [10,17,18,19,20,21,22,23] 9 O (λ_ h=>NJ Qd O O (h.ND fj) O) aa$ qL [17,18,19,20,21,22,23] 10 O (λ_ h=>R7 Qd O) aa$ qL [12,13,14,15,16,17,18,19,20,21,22,23] 11 O (λ_ h=>Oq O) aa$ qL [13,14,15,16,17,18,19,20,21,22,23] 12 O (λ_ h=>OQ O) aa ?_;refine qL [14,15,16,17,18,19,20,21,22,23] 13 O (λ_ h=>Og PZ O) aa$ qL [15,16,17,18,19,20,21,22,23] 14 O (λ_ h=>Og OW O) aa$ qL [16,17,18,19,20,21,22,23] 15 O (λ_ h=>NJ Qd O O (h.ND fj) O) aa$ qL [17,18,19,20,21,22,23] 16 O (λ_ h=>R7 Qd O) aa$ qL [18,19,20,21,22,23] 17 O (λ_ h=>Vu O O ⟨by omega,by omega,by omega⟩) aa ?_;rw[mV];refine qL [19,20,21,22,23] 18 O (λ_ h=>yma O O) aa$ qL [20,21,22,23] 19 O (λ_ h=>W5 O O (by omega)) aa$ qL [21,22,23] 20 O (λ_ h=>yma O O) aa$ qL [22,23] 21 O (λ_ h=>OQ O) aa$ qL [23] 22 O (λ_ h=>Og PY O) aa$ Rs [23]$ qO 23$ Ou (i:=23) O O (PA OL O O O (aa.ND fj) (by simp)) ?_;rintro w5 ⟨aC,ai⟩;refine⟨trivial,?_⟩;obtain⟨T,hT⟩:∃T:Int,max 0 (A.target-max 1 (q:Int))=T:=⟨_,rfl⟩;have oq:0<=T/\T<=A.size:=by omega
       rw[hT] at aC
       replace aC:NM w5 c (acC A.size T V p) 191:=by
        show NM w5 c [I (A.size:Int),(V 0).1,(V 0).2,(V 1).1,(V 1).2,(V 2).1,(V 2).2,(V 3).1,(V 3).2,I T,.map (some p)] _;rw[e2,e3];exact aC
       have cf:=(h2.ext aa).XS aC ai;have aW:=hA.XS oq;obtain⟨A5,bI⟩:∃A5:Arc,{A with target:=T}=A5:=⟨_,rfl⟩;have mQ:A5.size=A.size:=by rw[<-bI]
       have ot:¬A5.held k:=by rw[<-bI];exact mh
       have s8:k∈A5.NU:=by rw[<-bI];exact hg
       rw[bI] at cf aW;refine qE$ Of.qb (e:=[(0,_),(1,_),(4,_),(5,_)]) ?_;refine qN O$ Nz O$ NZ z0h O (Sb cf.m aW (by omega) true) ?_;rintro _ w6 ⟨rfl,V6,cG⟩;have ay:=Arc.RP aW true;obtain⟨r6,co⟩:∃r,A5.room true=r:=⟨_,rfl⟩;rw[co] at cG ay⊢;obtain⟨A6,g6⟩:=r6;dsimp only at cG ay⊢;have et:=ay.perm.length_eq;have jw:=A6.PH;have ou:=A5.PH;have ov:=aW.total;have aG:=((h2.r aa).trans cf).trans cG;have bZ:=aG.k.ND bF (λe=>n4' _ e O);refine NP O (OA (news:=Ql false g6) On O O O O bZ (by simp)) ?_;rintro w7 ⟨bC,ax⟩;replace bC:NM w7 b4 [.bool false,.bool g6.isSome,I (g6.getD 0)] 265:=bC;have n46:=aG.mono n4' l42;have gG:=aG.m.kp ax n46;refine qM O$ Nz O$ O8 O$ NO PZ O$ Nz O$ NZ Rm O (OZ gG (j:=3) (k:=k) (by decide)) ?_;rintro _ w8 ⟨rfl,V8,fU⟩
       have dO:k∉(A6.P5 3 ((A6.li 3).erase k)).li 1:=by
        show k∉A6.often;exact λe=>ot ((ay.gone k).1 (.inr e)).1
       refine NB$ NC O$ Nz O$ O8 O$ NO Q4 O$ Nz O$ NZ S0 O (PG fU.m (j:=1) (k:=k) (by decide) dO (by show A6.often.length<=_;omega)) ?_;rintro _ w9 ⟨rfl,V9,i7⟩;have bh:=fU.trans i7;have bY:=bh.k.ND bC (λe=>n46 _ e O);have fk:=bY
       have ct:∀b,Rf c V9 p b->Rf c V p b\/w2.heap.size<=b:=λb hb=>by
        rcases bh.fp b hb with h5|h5
        ·exact aG.fp b h5
        ·have:=aG.k.size;have:=ax.size;exact .inr (by omega)
       have aS:Kp (λj=>Rf c V p j\/j=b4) w2 w9:=((aG.k.NR λj e=> .inl e).trans (ax.NR λj e=> .inr e)).Nv bh.k (λj e=>by
        rcases aG.fp j e with h5|h5
        ·exact .inr (.inl h5)
        ·exact .inl h5)
       refine NB$ Ny$ qN O$ qV (Oh (news:=Ql false g6) Rh O On O (NM.cells (n:=3) fk O) O)$ NP O (OA (news:=Ql false g6) On O O O O fk (by simp)) ?_;rintro we ⟨dh,dg⟩;replace dh:NM we b4 [.bool false,.bool g6.isSome,I (g6.getD 0)] 265:=dh;refine NF O$ O9 func150 (.cell Rh O On O (NM.cells (n:=3) dh (news:=[_,_,_]) O) O (.tmp O .nil)) ?_
       have n49:∀b,Rf c V9 p b->b≠b4:=λb hb e=>by
        rcases ct b hb with h5|h5
        ·exact n4' b h5 e
        ·omega
       have fi:A.Qa k=({A6 with NU:=A6.NU.erase k,often:=A6.often++[k]},false,g6):=by
        unfold Arc.Qa;rw[if_neg bH,if_neg sj,if_pos hg];dsimp only;rw[hq,hT,bI,co]
       rw[fi]
       exact⟨_,rfl,rfl,V9,bh.m.kp dg n49,λb hb=>(ct b hb).imp id (λe=>by omega),(aJ.kp.Nv aS (λj e=>by
        rcases e with e| e
        ·exact .inr e
        ·exact .inl (by omega))).Nv dg (λj e=> .inl (by omega))⟩
      ·rw[decide_eq_false hg];refine NF O$ Of.qb (e:=[(0,_),(1,_),(4,_),(5,_),(111,_)]) ?_;refine It O$ qN O$ Nz O$ NZ zaH O (ZT h2 hA cH) ?_;rintro _ w6 ⟨rfl,V6,cG⟩;have dN:=Arc.z1A hA;obtain⟨r6,co⟩:∃r,A.add=r:=⟨_,rfl⟩;rw[co] at cG dN⊢;obtain⟨A6,g6⟩:=r6;dsimp only at cG dN⊢;obtain⟨fI,-,-⟩:=dN;have jw:=A6.PH;have aG:=cG;have bZ:=aG.k.ND bF (λe=>n4' _ e O);refine NP O (OA (news:=Ql false g6) On O O O O bZ (by simp)) ?_;rintro w7 ⟨bC,ax⟩;replace bC:NM w7 b4 [.bool false,.bool g6.isSome,I (g6.getD 0)] 265:=bC;have n46:=aG.mono n4' l42;have gG:=aG.m.kp ax n46
       have dO:k∉A6.li 0:=by
        show k∉A6.once;exact λe=>mh ((fI.gone k).1 (.inl e)).1
       have pz:=fI.Xj;refine NB$ NC O$ Nz O$ O8 O$ NO Pp O$ Nz O$ NZ S0 O (PG gG (j:=0) (k:=k) (by decide) dO (by show A6.once.length<=_;omega)) ?_;rintro _ w9 ⟨rfl,V9,i7⟩;have bh:=i7;have bY:=bh.k.ND bC (λe=>n46 _ e O);have fk:=bY
       have ct:∀b,Rf c V9 p b->Rf c V p b\/w2.heap.size<=b:=λb hb=>by
        rcases bh.fp b hb with h5|h5
        ·exact aG.fp b h5
        ·have:=aG.k.size;have:=ax.size;exact .inr (by omega)
       have aS:Kp (λj=>Rf c V p j\/j=b4) w2 w9:=((aG.k.NR λj e=> .inl e).trans (ax.NR λj e=> .inr e)).Nv bh.k (λj e=>by
        rcases aG.fp j e with h5|h5
        ·exact .inr (.inl h5)
        ·exact .inl h5)
       refine NB$ Ny$ qN O$ qV (Oh (news:=Ql false g6) Rh O On O (NM.cells (n:=3) fk O) O)$ NP O (OA (news:=Ql false g6) On O O O O fk (by simp)) ?_;rintro we ⟨dh,dg⟩;replace dh:NM we b4 [.bool false,.bool g6.isSome,I (g6.getD 0)] 265:=dh;refine NF O$ O9 func150 (.cell Rh O On O (NM.cells (n:=3) dh (news:=[_,_,_]) O) O (.tmp O .nil)) ?_
       have n49:∀b,Rf c V9 p b->b≠b4:=λb hb e=>by
        rcases ct b hb with h5|h5
        ·exact n4' b h5 e
        ·omega
       have fi:A.Qa k=({A6 with once:=A6.once++[k]},false,g6):=by
        unfold Arc.Qa;rw[if_neg bH,if_neg sj,if_neg hg];dsimp only;rw[co]
       rw[fi]
       exact⟨_,rfl,rfl,V9,bh.m.kp dg n49,λb hb=>(ct b hb).imp id (λe=>by omega),(aJ.kp.Nv aS (λj e=>by
        rcases e with e| e
        ·exact .inr e
        ·exact .inl (by omega))).Nv dg (λj e=> .inl (by omega))⟩
  ·rw [decide_eq_false ce]; refine Nz O (qS (qS (OC O O (Nz O (qS (qS (OC O O (NB (It O (An (py (Nw (qN O ?_))))))))))))); refine Nz O (O8 O (NO PI O (Nz O (NZ W9 O (lC) ?_)))); rintro _ w2 ⟨rfl, rfl⟩; by_cases hg : k ∈ A.O2
   ·rw[decide_eq_true hg];refine NF O$ NI O$ py ?_;have sh:0<A.O2.length:=List.length_pos_of_mem hg;obtain⟨q,hq⟩:∃q,A.NU.length / A.O2.length=q:=⟨_,rfl⟩;have fO:q<=2000:=by rw[<-hq];exact Nat.le_trans (Nat.div_le_self _ _) kC
    have mV:(A.NU.length:Int) / (A.O2.length:Int)=(q:Int):=by rw[<-hq];exact(Int.natCast_ediv _ _).symm
    refine O3 [27] (λw'=>Ext w2 w') (by kernel_rfl) O$ qL [25,26,27] 0 O (λ_ h=>Oq O) aa$ qL [2,3,4,24,25,26,27] 1 O (λ_ h=>Oq O) aa$ qL [3,4,24,25,26,27] 2 O (λ_ h=>OQ O) aa$ qL [4,24,25,26,27] 3 O (λ_ h=>Og Ra O) aa$ qL [24,25,26,27] 4 O (λ_ h=>NJ U3 O O (h.ND fj) O) aa$ qL [6,7,8,23,24,25,26,27] 5 O (λ_ h=>Oq O) aa$ qL [7,8,23,24,25,26,27] 6 O (λ_ h=>OQ O) aa$ qL [8,23,24,25,26,27] 7 O (λ_ h=>Og PY O) aa$ qL [23,24,25,26,27] 8 O (λ_ h=>NJ U3 O O (h.ND fj) O) aa$ qL [10,11,12,13,14,21,22,23,24,25,26,27] 9 O (λ_ h=>Oq O) aa$ qL [11,12,13,14,21,22,23,24,25,26,27] 10 O (λ_ h=>OQ O) aa$ qL [12,13,14,21,22,23,24,25,26,27] 11 O (λ_ h=>Og PZ O) aa$ qL [13,14,21,22,23,24,25,26,27] 12 O (λ_ h=>Og OW O) aa ?_;refine qL [14,21,22,23,24,25,26,27] 13 O (λ_ h=>NJ Qd O O (h.ND fj) O) aa$ qL [21,22,23,24,25,26,27] 14 O (λ_ h=>R7 Qd O) aa$ qL [16,17,18,19,20,21,22,23,24,25,26,27] 15 O (λ_ h=>Oq O) aa$ qL [17,18,19,20,21,22,23,24,25,26,27] 16 O (λ_ h=>OQ O) aa$ qL [18,19,20,21,22,23,24,25,26,27] 17 O (λ_ h=>Og PI O) aa$ qL [19,20,21,22,23,24,25,26,27] 18 O (λ_ h=>Og OW O) aa$ qL [20,21,22,23,24,25,26,27] 19 O (λ_ h=>NJ Qd O O (h.ND fj) O) aa$ qL [21,22,23,24,25,26,27] 20 O (λ_ h=>R7 Qd O) aa$ qL [22,23,24,25,26,27] 21 O (λ_ h=>Vu O O ⟨by omega,by omega,by omega⟩) aa ?_;rw[mV];refine qL [23,24,25,26,27] 22 O (λ_ h=>yma O O) aa$ qL [24,25,26,27] 23 O (λ_ h=>SX O O (by omega)) aa$ qL [25,26,27] 24 O (λ_ h=>ymi O O) aa$ qL [26,27] 25 O (λ_ h=>OQ O) aa$ qL [27] 26 O (λ_ h=>Og PY O) aa$ Rs [27]$ qO 27$ Ou (i:=27) O O (PA OL O O O (aa.ND fj) (by simp)) ?_;rintro w5 ⟨aC,ai⟩;refine⟨trivial,?_⟩;obtain⟨T,hT⟩:∃T:Int,min (A.size:Int) (A.target+max 1 (q:Int))=T:=⟨_,rfl⟩;have oq:0<=T/\T<=A.size:=by omega
    rw[hT] at aC
    replace aC:NM w5 c (acC A.size T V p) 191:=by
     show NM w5 c [I (A.size:Int),(V 0).1,(V 0).2,(V 1).1,(V 1).2,(V 2).1,(V 2).2,(V 3).1,(V 3).2,I T,.map (some p)] _;rw[e2,e3];exact aC
    have cf:=(h2.ext aa).XS aC ai;have aW:=hA.XS oq;obtain⟨A5,bI⟩:∃A5:Arc,{A with target:=T}=A5:=⟨_,rfl⟩;have mQ:A5.size=A.size:=by rw[<-bI]
    have ot:¬A5.held k:=by rw[<-bI];exact mh
    have s8:k∈A5.O2:=by rw[<-bI];exact hg
    rw[bI] at cf aW;refine qE$ Of.qb (e:=[(0,_),(1,_),(4,_),(5,_)]) ?_;refine qN O$ Nz O$ NZ z0h O (Sb cf.m aW (by omega) false) ?_;rintro _ w6 ⟨rfl,V6,cG⟩;have ay:=Arc.RP aW false;obtain⟨r6,co⟩:∃r,A5.room false=r:=⟨_,rfl⟩;rw[co] at cG ay⊢;obtain⟨A6,g6⟩:=r6;dsimp only at cG ay⊢;have et:=ay.perm.length_eq;have jw:=A6.PH;have ou:=A5.PH;have ov:=aW.total;have aG:=((h2.r aa).trans cf).trans cG;have bZ:=aG.k.ND bF (λe=>n4' _ e O);refine NP O (OA (news:=Ql false g6) On O O O O bZ (by simp)) ?_;rintro w7 ⟨bC,ax⟩;replace bC:NM w7 b4 [.bool false,.bool g6.isSome,I (g6.getD 0)] 265:=bC;have n46:=aG.mono n4' l42;have gG:=aG.m.kp ax n46;refine qM O$ Nz O$ O8 O$ NO PI O$ Nz O$ NZ Rm O (OZ gG (j:=2) (k:=k) (by decide)) ?_;rintro _ w8 ⟨rfl,V8,fU⟩
    have dO:k∉(A6.P5 2 ((A6.li 2).erase k)).li 1:=by
     show k∉A6.often;exact λe=>ot ((ay.gone k).1 (.inr e)).1
    refine NB$ NC O$ Nz O$ O8 O$ NO Q4 O$ Nz O$ NZ S0 O (PG fU.m (j:=1) (k:=k) (by decide) dO (by show A6.often.length<=_;omega)) ?_;rintro _ w9 ⟨rfl,V9,i7⟩;have bh:=fU.trans i7;have bY:=bh.k.ND bC (λe=>n46 _ e O);have fk:=bY
    have ct:∀b,Rf c V9 p b->Rf c V p b\/w2.heap.size<=b:=λb hb=>by
     rcases bh.fp b hb with h5|h5
     ·exact aG.fp b h5
     ·have:=aG.k.size;have:=ax.size;exact .inr (by omega)
    have aS:Kp (λj=>Rf c V p j\/j=b4) w2 w9:=((aG.k.NR λj e=> .inl e).trans (ax.NR λj e=> .inr e)).Nv bh.k (λj e=>by
     rcases aG.fp j e with h5|h5
     ·exact .inr (.inl h5)
     ·exact .inl h5)
    refine NB$ Ny$ qN O$ qV (Oh (news:=Ql false g6) Rh O On O (NM.cells (n:=3) fk O) O)$ NP O (OA (news:=Ql false g6) On O O O O fk (by simp)) ?_;rintro we ⟨dh,dg⟩;replace dh:NM we b4 [.bool false,.bool g6.isSome,I (g6.getD 0)] 265:=dh;refine NF O$ O9 func150 (.cell Rh O On O (NM.cells (n:=3) dh (news:=[_,_,_]) O) O (.tmp O .nil)) ?_
    have n49:∀b,Rf c V9 p b->b≠b4:=λb hb e=>by
     rcases ct b hb with h5|h5
     ·exact n4' b h5 e
     ·omega
    have fi:A.Qa k=({A6 with O2:=A6.O2.erase k,often:=A6.often++[k]},false,g6):=by
     unfold Arc.Qa;rw[if_neg bH,if_pos hg];dsimp only;rw[hq,hT,bI,co]
    rw[fi]
    exact⟨_,rfl,rfl,V9,bh.m.kp dg n49,λb hb=>(ct b hb).imp id (λe=>by omega),(aJ.kp.Nv aS (λj e=>by
     rcases e with e| e
     ·exact .inr e
     ·exact .inl (by omega))).Nv dg (λj e=> .inl (by omega))⟩
   ·have sj:=hg;rw[decide_eq_false hg];refine NF O$ It O$ qN O$ Nz O$ O8 O$ NO PZ O$ Nz O$ NZ W9 O (qU) ?_;rintro _ w2 ⟨rfl,rfl⟩;by_cases hg:k∈A.NU
    ·rw[decide_eq_true hg];refine NF O$ Of.qb (e:=[(0,_),(1,_),(4,_),(5,_),(111,_)]) ?_;refine NI O$ py ?_;have sh:0<A.NU.length:=List.length_pos_of_mem hg;obtain⟨q,hq⟩:∃q,A.O2.length / A.NU.length=q:=⟨_,rfl⟩;have fO:q<=2000:=by rw[<-hq];exact Nat.le_trans (Nat.div_le_self _ _) gV
     have mV:(A.O2.length:Int) / (A.NU.length:Int)=(q:Int):=by rw[<-hq];exact(Int.natCast_ediv _ _).symm
     refine O3 [23] (λw'=>Ext w2 w') (by kernel_rfl) O$ qL [21,22,23] 0 O (λ_ h=>Oq O) aa$ qL [2,3,4,19,20,21,22,23] 1 O (λ_ h=>Oq O) aa$ qL [3,4,19,20,21,22,23] 2 O (λ_ h=>OQ O) aa$ qL [4,19,20,21,22,23] 3 O (λ_ h=>Og PY O) aa$ qL [19,20,21,22,23] 4 O (λ_ h=>NJ U3 O O (h.ND fj) O) aa$ qL [6,7,8,9,10,17,18,19,20,21,22,23] 5 O (λ_ h=>Oq O) aa$ qL [7,8,9,10,17,18,19,20,21,22,23] 6 O (λ_ h=>OQ O) aa$ qL [8,9,10,17,18,19,20,21,22,23] 7 O (λ_ h=>Og PI O) aa$ qL [9,10,17,18,19,20,21,22,23] 8 O (λ_ h=>Og OW O) aa$ qL [10,17,18,19,20,21,22,23] 9 O (λ_ h=>NJ Qd O O (h.ND fj) O) aa$ qL [17,18,19,20,21,22,23] 10 O (λ_ h=>R7 Qd O) aa$ qL [12,13,14,15,16,17,18,19,20,21,22,23] 11 O (λ_ h=>Oq O) aa$ qL [13,14,15,16,17,18,19,20,21,22,23] 12 O (λ_ h=>OQ O) aa ?_;refine qL [14,15,16,17,18,19,20,21,22,23] 13 O (λ_ h=>Og PZ O) aa$ qL [15,16,17,18,19,20,21,22,23] 14 O (λ_ h=>Og OW O) aa$ qL [16,17,18,19,20,21,22,23] 15 O (λ_ h=>NJ Qd O O (h.ND fj) O) aa$ qL [17,18,19,20,21,22,23] 16 O (λ_ h=>R7 Qd O) aa$ qL [18,19,20,21,22,23] 17 O (λ_ h=>Vu O O ⟨by omega,by omega,by omega⟩) aa ?_;rw[mV];refine qL [19,20,21,22,23] 18 O (λ_ h=>yma O O) aa$ qL [20,21,22,23] 19 O (λ_ h=>W5 O O (by omega)) aa$ qL [21,22,23] 20 O (λ_ h=>yma O O) aa$ qL [22,23] 21 O (λ_ h=>OQ O) aa$ qL [23] 22 O (λ_ h=>Og PY O) aa$ Rs [23]$ qO 23$ Ou (i:=23) O O (PA OL O O O (aa.ND fj) (by simp)) ?_;rintro w5 ⟨aC,ai⟩;refine⟨trivial,?_⟩;obtain⟨T,hT⟩:∃T:Int,max 0 (A.target-max 1 (q:Int))=T:=⟨_,rfl⟩;have oq:0<=T/\T<=A.size:=by omega
     rw[hT] at aC
     replace aC:NM w5 c (acC A.size T V p) 191:=by
      show NM w5 c [I (A.size:Int),(V 0).1,(V 0).2,(V 1).1,(V 1).2,(V 2).1,(V 2).2,(V 3).1,(V 3).2,I T,.map (some p)] _;rw[e2,e3];exact aC
     have cf:=(h2.ext aa).XS aC ai;have aW:=hA.XS oq;obtain⟨A5,bI⟩:∃A5:Arc,{A with target:=T}=A5:=⟨_,rfl⟩;have mQ:A5.size=A.size:=by rw[<-bI]
     have ot:¬A5.held k:=by rw[<-bI];exact mh
     have s8:k∈A5.NU:=by rw[<-bI];exact hg
     rw[bI] at cf aW;refine qE$ Of.qb (e:=[(0,_),(1,_),(4,_),(5,_)]) ?_;refine qN O$ Nz O$ NZ z0h O (Sb cf.m aW (by omega) true) ?_;rintro _ w6 ⟨rfl,V6,cG⟩;have ay:=Arc.RP aW true;obtain⟨r6,co⟩:∃r,A5.room true=r:=⟨_,rfl⟩;rw[co] at cG ay⊢;obtain⟨A6,g6⟩:=r6;dsimp only at cG ay⊢;have et:=ay.perm.length_eq;have jw:=A6.PH;have ou:=A5.PH;have ov:=aW.total;have aG:=((h2.r aa).trans cf).trans cG;have bZ:=aG.k.ND bF (λe=>n4' _ e O);refine NP O (OA (news:=Ql false g6) On O O O O bZ (by simp)) ?_;rintro w7 ⟨bC,ax⟩;replace bC:NM w7 b4 [.bool false,.bool g6.isSome,I (g6.getD 0)] 265:=bC;have n46:=aG.mono n4' l42;have gG:=aG.m.kp ax n46;refine qM O$ Nz O$ O8 O$ NO PZ O$ Nz O$ NZ Rm O (OZ gG (j:=3) (k:=k) (by decide)) ?_;rintro _ w8 ⟨rfl,V8,fU⟩
     have dO:k∉(A6.P5 3 ((A6.li 3).erase k)).li 1:=by
      show k∉A6.often;exact λe=>ot ((ay.gone k).1 (.inr e)).1
     refine NB$ NC O$ Nz O$ O8 O$ NO Q4 O$ Nz O$ NZ S0 O (PG fU.m (j:=1) (k:=k) (by decide) dO (by show A6.often.length<=_;omega)) ?_;rintro _ w9 ⟨rfl,V9,i7⟩;have bh:=fU.trans i7;have bY:=bh.k.ND bC (λe=>n46 _ e O);have fk:=bY
     have ct:∀b,Rf c V9 p b->Rf c V p b\/w2.heap.size<=b:=λb hb=>by
      rcases bh.fp b hb with h5|h5
      ·exact aG.fp b h5
      ·have:=aG.k.size;have:=ax.size;exact .inr (by omega)
     have aS:Kp (λj=>Rf c V p j\/j=b4) w2 w9:=((aG.k.NR λj e=> .inl e).trans (ax.NR λj e=> .inr e)).Nv bh.k (λj e=>by
      rcases aG.fp j e with h5|h5
      ·exact .inr (.inl h5)
      ·exact .inl h5)
     refine NB$ Ny$ qN O$ qV (Oh (news:=Ql false g6) Rh O On O (NM.cells (n:=3) fk O) O)$ NP O (OA (news:=Ql false g6) On O O O O fk (by simp)) ?_;rintro we ⟨dh,dg⟩;replace dh:NM we b4 [.bool false,.bool g6.isSome,I (g6.getD 0)] 265:=dh;refine NF O$ O9 func150 (.cell Rh O On O (NM.cells (n:=3) dh (news:=[_,_,_]) O) O (.tmp O .nil)) ?_
     have n49:∀b,Rf c V9 p b->b≠b4:=λb hb e=>by
      rcases ct b hb with h5|h5
      ·exact n4' b h5 e
      ·omega
     have fi:A.Qa k=({A6 with NU:=A6.NU.erase k,often:=A6.often++[k]},false,g6):=by
      unfold Arc.Qa;rw[if_neg bH,if_neg sj,if_pos hg];dsimp only;rw[hq,hT,bI,co]
     rw[fi]
     exact⟨_,rfl,rfl,V9,bh.m.kp dg n49,λb hb=>(ct b hb).imp id (λe=>by omega),(aJ.kp.Nv aS (λj e=>by
      rcases e with e| e
      ·exact .inr e
      ·exact .inl (by omega))).Nv dg (λj e=> .inl (by omega))⟩
    ·rw[decide_eq_false hg];refine NF O$ Of.qb (e:=[(0,_),(1,_),(4,_),(5,_),(111,_)]) ?_;refine It O$ qN O$ Nz O$ NZ zaH O (ZT h2 hA cH) ?_;rintro _ w6 ⟨rfl,V6,cG⟩;have dN:=Arc.z1A hA;obtain⟨r6,co⟩:∃r,A.add=r:=⟨_,rfl⟩;rw[co] at cG dN⊢;obtain⟨A6,g6⟩:=r6;dsimp only at cG dN⊢;obtain⟨fI,-,-⟩:=dN;have jw:=A6.PH;have aG:=cG;have bZ:=aG.k.ND bF (λe=>n4' _ e O);refine NP O (OA (news:=Ql false g6) On O O O O bZ (by simp)) ?_;rintro w7 ⟨bC,ax⟩;replace bC:NM w7 b4 [.bool false,.bool g6.isSome,I (g6.getD 0)] 265:=bC;have n46:=aG.mono n4' l42;have gG:=aG.m.kp ax n46
     have dO:k∉A6.li 0:=by
      show k∉A6.once;exact λe=>mh ((fI.gone k).1 (.inl e)).1
     have pz:=fI.Xj;refine NB$ NC O$ Nz O$ O8 O$ NO Pp O$ Nz O$ NZ S0 O (PG gG (j:=0) (k:=k) (by decide) dO (by show A6.once.length<=_;omega)) ?_;rintro _ w9 ⟨rfl,V9,i7⟩;have bh:=i7;have bY:=bh.k.ND bC (λe=>n46 _ e O);have fk:=bY
     have ct:∀b,Rf c V9 p b->Rf c V p b\/w2.heap.size<=b:=λb hb=>by
      rcases bh.fp b hb with h5|h5
      ·exact aG.fp b h5
      ·have:=aG.k.size;have:=ax.size;exact .inr (by omega)
     have aS:Kp (λj=>Rf c V p j\/j=b4) w2 w9:=((aG.k.NR λj e=> .inl e).trans (ax.NR λj e=> .inr e)).Nv bh.k (λj e=>by
      rcases aG.fp j e with h5|h5
      ·exact .inr (.inl h5)
      ·exact .inl h5)
     refine NB$ Ny$ qN O$ qV (Oh (news:=Ql false g6) Rh O On O (NM.cells (n:=3) fk O) O)$ NP O (OA (news:=Ql false g6) On O O O O fk (by simp)) ?_;rintro we ⟨dh,dg⟩;replace dh:NM we b4 [.bool false,.bool g6.isSome,I (g6.getD 0)] 265:=dh;refine NF O$ O9 func150 (.cell Rh O On O (NM.cells (n:=3) dh (news:=[_,_,_]) O) O (.tmp O .nil)) ?_
     have n49:∀b,Rf c V9 p b->b≠b4:=λb hb e=>by
      rcases ct b hb with h5|h5
      ·exact n4' b h5 e
      ·omega
     have fi:A.Qa k=({A6 with once:=A6.once++[k]},false,g6):=by
      unfold Arc.Qa;rw[if_neg bH,if_neg sj,if_neg hg];dsimp only;rw[co]
     rw[fi]
     exact⟨_,rfl,rfl,V9,bh.m.kp dg n49,λb hb=>(ct b hb).imp id (λe=>by omega),(aJ.kp.Nv aS (λj e=>by
      rcases e with e| e
      ·exact .inr e
      ·exact .inl (by omega))).Nv dg (λj e=> .inl (by omega))⟩
end
def Arc.z6y (A:Arc)(k:Int):Nat->Arc
 |0=>A
 |i+1=>(A.z6y k i).P5 i (((A.z6y k i).li i).erase k)
def Arc.drop (A:Arc)(k:Int):Arc:=A.z6y k 4
theorem Arc.drop_eq (A:Arc)(k:Int):A.drop k={A with once:=A.once.erase k,often:=A.often.erase k,O2:=A.O2.erase k,NU:=A.NU.erase k}:=rfl
theorem Arc.Ok.drop {A:Arc}(h:A.Ok)(k:Int):(A.drop k).Ok:=by
 rw[Arc.drop_eq]
 have hs:(A.once.erase k++(A.often.erase k++(A.O2.erase k++A.NU.erase k))).Sublist A.all:=List.erase_sublist.append (List.erase_sublist.append (List.erase_sublist.append List.erase_sublist))
 have a1:(A.once.erase k).length<=A.once.length:=List.length_erase_le
 have a2:(A.often.erase k).length<=A.often.length:=List.length_erase_le
 have a3:(A.O2.erase k).length<=A.O2.length:=List.length_erase_le
 have h1:=h.held
 have h2:=h.first
 exact⟨h.pos,h.nd.sublist hs,by dsimp only;omega,by dsimp only;omega,Nat.le_trans hs.length_le h.total,h.tg⟩
theorem Arc.z6Q {A:Arc}(h:A.Ok)(k x:Int):(A.drop k).held x↔A.held x/\x≠k:=by
 have fV:=h.nd
 unfold Arc.all at fV
 rw[List.nodup_append] at fV
 obtain⟨nd1,nd2,-⟩:=fV
 rw[List.nodup_append] at nd2
 obtain⟨nd4,-,-⟩:=nd2
 rw[Arc.drop_eq]
 unfold Arc.held
 dsimp only
 rw[nd1.mem_erase_iff,nd4.mem_erase_iff]
 constructor
 ·rintro(⟨a,b⟩|⟨a,b⟩)
  ·exact⟨.inl b,a⟩
  ·exact⟨.inr b,a⟩
 ·rintro⟨b|b,a⟩
  ·exact .inl ⟨a,b⟩
  ·exact .inr ⟨a,b⟩
section
variable {w w' w2:World}{c p:Nat}{A A' A2:Arc}{V V' V2:Nat->Value×Value}{S:Nat->Prop}{k:Int}
theorem z86 (h:Rk w c A V p):Oa prog 140 [ptr c 0,I k] w λv w'=>(∃z,v=I z)/\∃V',UK w c V p w' (A.drop k) V':=by
 have hB:=h.cells
 have lC:=U8 h (j:=2) (k:=k) (by decide)
 have qU:=U8 h (j:=3) (k:=k) (by decide)
 rw[show A.li 2=A.O2 from rfl] at lC
 rw[show A.li 3=A.NU from rfl] at qU
 refine Nu (e:=[(0,_),(1,_)]) func140 O ntmps140 O O$ qN O$ NF O$ py$ Oy (λe' w'=>e'=[(0,ptr c 0),(1,I k)]/\w'=w) ?eC$ λeC=>?iR
 case eC=>
  rintro e' w1 ⟨rfl,rfl⟩;have hg:=Ext.NY w1;refine py$ py$ PK (λw'=>Ext w1 w') O$ NX 0 O O (hg)$ NG 1 O (OQ O) hg$ NG 2 O (Og Pp O) hg$ NX 3 O O (hg)$ NG 4 O (OQ O) hg$ NG 5 O (Og Q4 O) hg$ NX 6 O O (hg)$ NG 7 O (OQ O) hg$ NG 8 O (Og PI O) hg$ NX 9 O O (hg)$ NG 10 O (OQ O) hg ?_;refine NG 11 O (Og PZ O) hg$ NX 14 O O (hg)$ qO 12$ QO (i:=12) O O O (Ur (cs:=[_,_,_,_]) (zs:=[Value.pointer none,Value.pointer none,Value.pointer none,Value.pointer none]) zdi zcP O (by kernel_rfl) O O O (by decide)) ?_;rintro _ w2 ⟨b51,rfl,⟨Eu,ag,KS⟩,zC⟩;refine⟨hg.trans ag,?_⟩;have aI:=hg.trans ag;refine NG 13 O (R7 zdi O) (hg.trans ag)$ qE$ Nw ?_;have aU:∀{b:Nat},Rf c V p b->b<w1.heap.size:=h.lt;have lb:=zC.lt (g:=b51) O;have z12:=hg.size;have Ev:=zC.rd;refine Qb (α:=Nat×(Nat->Value×Value)) ((0,V)) (λx=>[(1,I k),(51,.slice (some ⟨b51,0,none⟩) 4 4),(52,I 4),(53,I (x.1:Int))]) (λx w'=>x.1<=4/\UK w2 c V p w' (A.z6y k x.1) x.2/\Rd w' (.slice (some ⟨b51,0,none⟩) 4 4) 1 4 [ptr c 1,ptr c 3,ptr c 5,ptr c 7]) (λx=>4-x.1) ?hI ?hround
  case hI=>exact⟨Nat.zero_le _,(h.ext aI).r (Ext.refl w2),Ev⟩
  case hround=>
   rintro⟨i,Vi⟩ w3 ⟨hi,mt,pE⟩ ih;dsimp only at hi mt pE ih⊢
   try dsimp only
   refine qN O$ Pb O O$ NB$ py$ NN O (λh0=>?_)$ λh0=>?_
   ·have lQ:i<4:=by omega
    have hx:([ptr c 1,ptr c 3,ptr c 5,ptr c 7]:List Value)[i]? =some (ptr c (1+2*i)):=by
     match i,lQ with
     |0,_|1,_|2,_|3,_=>rfl
    refine An$ py$ Nw$ qN O$ qV (OH zdi zcP O O (by omega))$ qV (Oi zjk O O (P6 pE hx))$ NF O$ NC O$ NT O O$ NZ Rm O (OZ mt.m (j:=i) (k:=k) lQ) ?_;rintro _ w4 ⟨rfl,V4,bK⟩;refine NB$ Ny$ NC O$ OI O O$ Nz O$ NB ((ih (i+1,V4) _ ⟨lQ,mt.trans bK,pE.kp bK.k λg e hf=>?_⟩ (by dsimp only;omega)).qb);have e':b51=g:=Pz e;rcases mt.fp _ hf with e| e
    ·have:=aU e;have hb:b51=w1.drew.heap.size:=Eu;omega
    ·omega
   ·have lQ:i=4:=by omega
    subst lQ;refine NL O$ qN O$ NF O$ NA func140 O ?_;exact⟨_,rfl,⟨0,rfl⟩,Vi,(h.r aI).trans mt⟩
 case iR =>
  refine Nw$ qN O$ Nz O$ qV (OP z9p O O)$ NF O$ It O$ qN O$ NT O O$ NZ zcj O (z0O h (k:=k)) ?_;rintro _ w ⟨rfl,rfl⟩;by_cases ia:k∈A.once\/k∈A.often
  ·rw[decide_eq_true ia];refine qV ((Qr O))$ Nz O$ qS$ qS$ qS$ qS$ qS$ qS$ OC O O$ Nz O$ qS$ qS$ qS$ qS ?_;refine qS$ qS$ OC O O$ NF O$ Of.qb (e:=[(0,_),(1,_),(4,_),(10,_)]) ?_;refine It O$ qN O$ Nz O$ O8 O$ NO YU O$ qV (NJ VS O O hB O)$ Nz O$ qV (ylk (k:=k) (K:=KI) VS (QG U3) OL O O h.pins)$ P9 O O$ Ox$ NF O$ It O$ An$ Ny ?_;exact(eC _ _ ⟨rfl,rfl⟩).qb
  ·rw [decide_eq_false ia]; refine qV ((Qr O)) (NT O O (O8 O (NO PI O (Nz O (NZ W9 O (lC) ?_))))); rintro _ w ⟨rfl, rfl⟩; by_cases aq : k ∈ A.O2
   ·rw[decide_eq_true aq];refine qV ((Qr O))$ Pc O O$ Nz O$ qS$ qS$ qS$ qS$ qS$ qS$ OC O O$ NF O$ Of.qb (e:=[(0,_),(1,_),(4,_),(10,_)]) ?_;refine It O$ qN O$ Nz O$ O8 O$ NO YU O$ qV (NJ VS O O hB O)$ Nz O$ qV (ylk (k:=k) (K:=KI) VS (QG U3) OL O O h.pins)$ P9 O O$ Ox$ NF O$ It O$ An$ Ny ?_;exact(eC _ _ ⟨rfl,rfl⟩).qb
   ·rw[decide_eq_false aq];refine qV ((Qr O))$ Pc O O$ NT O O$ O8 O$ NO PZ O$ Nz O$ NZ W9 O (qU) ?_;rintro _ w ⟨rfl,rfl⟩;by_cases aw:k∈A.NU
    ·rw[decide_eq_true aw];refine qV ((Qr O))$ Pc O O$ NF O$ Of.qb (e:=[(0,_),(1,_),(4,_),(10,_)]) ?_;refine It O$ qN O$ Nz O$ O8 O$ NO YU O$ qV (NJ VS O O hB O)$ Nz O$ qV (ylk (k:=k) (K:=KI) VS (QG U3) OL O O h.pins)$ P9 O O$ Ox$ NF O$ It O$ An$ Ny ?_;exact(eC _ _ ⟨rfl,rfl⟩).qb
    ·rw[decide_eq_false aw];refine qV ((Qr O))$ Pc O O$ NF O$ Of.qb (e:=[(0,_),(1,_),(4,_),(10,_)]) ?_;refine NI O$ qN O$ NF O$ NA func140 O ?_
     have hd:A.drop k=A:=by
      rw[Arc.drop_eq,List.erase_of_not_mem (λe=>ia (.inl e)),List.erase_of_not_mem (λe=>ia (.inr e)),List.erase_of_not_mem aq,List.erase_of_not_mem aw]
     rw[hd];exact⟨_,rfl,⟨6,rfl⟩,V,h.r (Ext.refl w)⟩
end
end Go.Proofs.YtfgjaafcgghnoaaGreatDoor
namespace Go.Proofs.YtfgjaafcgghnoaaGreatDoor
open Go Go.RowKit
structure Pg where
 k:Int
 b:Nat
 t:NH
 d:Bool
def SD (l:List Pg):List (Int×Value):=l.map λg=>(g.k,ptr g.b 0)
def pgC (t:NH)(d:Bool):List Value:=[S t,.bool d,I 0]
structure Qn where
 s:Nat
 d:Nat
 m:Nat
 gi:Nat
 c:Nat
 pm:Nat
 p:Nat
 fr:Nat
 V:Nat->Value×Value
 D:Dev
 A:Arc
 l:List Pg
 L:List Bool
 Fd:Nat->Prop
 h:Int
 mi:Int
 wr:Int
def Qn.cp (P:Qn):Nat->Nat->Prop
 |0,b=>b=P.s
 |1,b=>P.Fd b
 |2,b=>b=P.m\/b=P.gi
 |3,b=>Rf P.c P.V P.p b
 |4,b=>b=P.pm
 |5,b=>∃g∈P.l,g.b=b
 |_,_=>False
def Qn.fp (P:Qn)(b:Nat):Prop:=∃i,P.cp i b
def plC (P:Qn):List Value:=[ptr P.d 0,ptr P.m 0,ptr P.c 0,.map (some P.pm),I (P.fr:Int),I P.h,I P.mi,I P.wr,I 0,I 0,I 0,.bool false]
def Dis (f:Nat->Nat->Prop):Prop:=∀i j,i≠j->∀b,f i b->¬f j b
structure T2 (w:World)(P:Qn):Prop where
 ND:NM w P.s (plC P) 103
 dev:UJ w P.d P.D P.Fd
 ext:Wb w P.m P.gi P.L
 arc:Rk w P.c P.A P.V P.p
 mp:Rg KI w P.pm (SD P.l)
 pg:∀g∈P.l,NM w g.b (pgC g.t g.d) 219
 pnd:(P.l.map (·.b)).Nodup
 UA:Dis P.cp
section
variable {w w' w0:World}{P P0 P':Qn}{S:Nat->Prop}{i0:Nat}
theorem T2.lt (h:T2 w P){b:Nat}(hb:P.fp b):b<w.heap.size:=by
 obtain⟨i,hi⟩:=hb
 match i,hi with
 |0,e=>rw[show b=P.s from e];exact h.ND.lt
 |1,e=>exact h.dev.lt b e
 | 2, e =>
   rcases e with e| e
   ·rw[e];exact h.ext.ltm
   ·rw[e];exact h.ext.ltg
 |3,e=>exact h.arc.lt e
 |4,e=>rw[show b=P.pm from e];exact h.mp.lt
 |5,⟨g,hg,e⟩=>rw[<-e];exact(h.pg g hg).lt
theorem T2.kp (h:T2 w P)(hk:Kp S w w')(hn:∀b,P.fp b->¬S b):T2 w' P:=
 ⟨hk.ND h.ND (hn _ ⟨0,rfl⟩),h.dev.kp hk λb hb=>hn b ⟨1,hb⟩,h.ext.kp hk (hn _ ⟨2,.inl O⟩) (hn _ ⟨2,.inr O⟩),h.arc.kp hk λb hb=>hn b ⟨3,hb⟩,h.mp.kp hk (hn _ ⟨4,rfl⟩),λg hg=>hk.ND (h.pg g hg) (hn _ ⟨5,g,hg,rfl⟩),h.pnd,h.UA⟩
theorem T2.ext' (h:T2 w P)(hx:Ext w w'):T2 w' P:=h.kp (S:=λ_=>False) hx λ_ _=>id
theorem T2.z6Y (h:T2 w P)(hk:Kp (P.cp i0) w w')(ne:0≠i0):NM w' P.s (plC P) 103:=hk.ND h.ND (h.UA 0 i0 ne _ O)
theorem T2.z8s (h:T2 w P)(hk:Kp (P.cp i0) w w')(ne:1≠i0):UJ w' P.d P.D P.Fd:=h.dev.kp hk λb hb=>h.UA 1 i0 ne b hb
theorem T2.text (h:T2 w P)(hk:Kp (P.cp i0) w w')(ne:2≠i0):Wb w' P.m P.gi P.L:=h.ext.kp hk (h.UA 2 i0 ne _ (.inl O)) (h.UA 2 i0 ne _ (.inr O))
theorem T2.z7k (h:T2 w P)(hk:Kp (P.cp i0) w w')(ne:3≠i0):Rk w' P.c P.A P.V P.p:=h.arc.kp hk λb hb=>h.UA 3 i0 ne b hb
theorem T2.tmp (h:T2 w P)(hk:Kp (P.cp i0) w w')(ne:4≠i0):Rg KI w' P.pm (SD P.l):=h.mp.kp hk (h.UA 4 i0 ne _ O)
theorem T2.tpg (h:T2 w P)(hk:Kp (P.cp i0) w w')(ne:5≠i0):∀g∈P.l,NM w' g.b (pgC g.t g.d) 219:=λg hg=>hk.ND (h.pg g hg) (h.UA 5 i0 ne _ ⟨g,hg,rfl⟩)
theorem T2.z9J (h:T2 w P)(hs:∀i,i≠i0->P'.cp i=P.cp i)(hi:∀b,P'.cp i0 b->P.cp i0 b\/∀i,¬P.cp i b):Dis P'.cp:=λi j ne b hb bQ=>by
 by_cases e:i=i0
 ·have e2:j≠i0:=λe2=>ne (e.trans e2.symm);rw[e] at hb;rw[hs j e2] at bQ;rcases hi b hb with h1|h1
  ·exact h.UA i0 j (λe3=>e2 e3.symm) b h1 bQ
  ·exact h1 j bQ
 ·rw[hs i e] at hb;by_cases e2:j=i0
  ·rw[e2] at bQ;rcases hi b bQ with h1|h1
   ·exact h.UA i i0 e b hb h1
   ·exact h1 i hb
  ·rw[hs j e2] at bQ;exact h.UA i j ne b hb bQ
theorem T2.new (h:T2 w P){b:Nat}(hb:w.heap.size<=b):∀i,¬P.cp i b:=λi e=>by have:=h.lt ⟨i,e⟩;omega
structure SY (w0:World)(P0:Qn)(w:World)(P:Qn):Prop where
 m:T2 w P
 fp:∀b,P.fp b->P0.fp b\/w0.heap.size<=b
 k:Kp P0.fp w0 w
theorem T2.r (h:T2 w P)(hx:Ext w w'):SY w P w' P:=⟨h.ext' hx,λb hb=> .inl hb,hx.kp⟩
theorem SY.ext (h:SY w0 P0 w P)(hx:Ext w w'):SY w0 P0 w' P:=⟨h.m.ext' hx,h.fp,h.k.trans hx.kp⟩
theorem SY.loc (h:SY w0 P0 w P)(hk:Kp S w w')(hS:∀b,S b->(P0.fp b\/w0.heap.size<=b)/\∀i,¬P.cp i b):SY w0 P0 w' P:=
 ⟨h.m.kp hk λb ⟨i,hb⟩ e=>(hS b e).2 i hb,h.fp,h.k.Nv hk λb e=>(hS b e).1.symm⟩
theorem SY.part (h:SY w0 P0 w P)(i0:Nat)(hm:T2 w' P')(hs:∀i,i≠i0->P'.cp i=P.cp i)(hi:∀b,P'.cp i0 b->P.cp i0 b\/w0.heap.size<=b)(hk:Kp (P.cp i0) w w'):SY w0 P0 w' P':=
 ⟨hm,λb ⟨i,hb⟩=>by
  by_cases e:i=i0
  ·rw[e] at hb;rcases hi b hb with h1|h1
   ·exact h.fp b ⟨i0,h1⟩
   ·exact .inr h1
  ·rw[hs i e] at hb
   exact h.fp b ⟨i,hb⟩,h.k.Nv hk λb hb=>(h.fp b ⟨i0,hb⟩).symm⟩
theorem SY.trans {w2:World}{P2:Qn}(h:SY w0 P0 w P)(h2:SY w P w2 P2):SY w0 P0 w2 P2:=
 ⟨h2.m,λb hb=>by
  rcases h2.fp b hb with e| e
  ·exact h.fp b e
  ·exact .inr (by have:=h.k.size;omega),h.k.Nv h2.k λb hb=>(h.fp b hb).symm⟩
theorem SY.dev (h:SY w0 P0 w P){D':Dev}(ht:z7i w P.d P.Fd D' w'):∃Fd',SY w0 P0 w' {P with D:=D',Fd:=Fd'}/\∀b,Fd' b->P.Fd b\/w.heap.size<=b:=by
 obtain⟨F',hd,hu⟩:=ht
 have hs:∀i,i≠1->Qn.cp {P with D:=D',Fd:=F'} i=P.cp i:=λi e=>by
  match i,e with
  |0,_|2,_|3,_|4,_|5,_=>rfl
  |i+6,_=>rfl
 have hk:Kp (P.cp 1) w w':=hu.1
 refine⟨F',h.part 1 ⟨h.m.z6Y hk (by decide),hd,h.m.text hk (by decide),h.m.z7k hk (by decide),h.m.tmp hk (by decide),h.m.tpg hk (by decide),h.m.pnd,h.m.z9J hs λb hb=>?_⟩ hs (λb hb=>?_) hk,hu.2⟩
 ·exact(hu.2 b hb).imp id λe=>h.m.new e
 ·exact(hu.2 b hb).imp id λe=>by have:=h.k.size;omega
theorem SY.arc (h:SY w0 P0 w P){A':Arc}{V':Nat->Value×Value}(hr:UK w P.c P.V P.p w' A' V'):SY w0 P0 w' {P with A:=A',V:=V'}:=by
 have hs:∀i,i≠3->Qn.cp {P with A:=A',V:=V'} i=P.cp i:=λi e=>by
  match i,e with
  |0,_|1,_|2,_|4,_|5,_=>rfl
  |i+6,_=>rfl
 have hk:Kp (P.cp 3) w w':=hr.k
 refine h.part 3 ⟨h.m.z6Y hk (by decide),h.m.z8s hk (by decide),h.m.text hk (by decide),hr.m,h.m.tmp hk (by decide),h.m.tpg hk (by decide),h.m.pnd,h.m.z9J hs λb hb=>?_⟩ hs (λb hb=>?_) hk
 ·exact(hr.fp b hb).imp id λe=>h.m.new e
 ·exact(hr.fp b hb).imp id λe=>by have:=h.k.size;omega
theorem SY.exM (h:SY w0 P0 w P){L':List Bool}(he:Wb w' P.m P.gi L')(hk:Kp (λb=>b=P.gi) w w'):SY w0 P0 w' {P with L:=L'}:=by
 have hs:∀i,i≠2->Qn.cp {P with L:=L'} i=P.cp i:=λi e=>by
  match i,e with
  |0,_|1,_|3,_|4,_|5,_=>rfl
  |i+6,_=>rfl
 have hk:Kp (P.cp 2) w w':=hk.NR λb e=> .inr e
 exact h.part 2 ⟨h.m.z6Y hk (by decide),h.m.z8s hk (by decide),he,h.m.z7k hk (by decide),h.m.tmp hk (by decide),h.m.tpg hk (by decide),h.m.pnd,h.m.z9J hs λb hb=> .inl hb⟩ hs (λb hb=> .inl hb) hk
theorem SY.cnt (h:SY w0 P0 w P){a b c:Int}(hB:NM w' P.s (plC {P with h:=a,mi:=b,wr:=c}) 103)(hk:Kp (λb=>b=P.s) w w'):SY w0 P0 w' {P with h:=a,mi:=b,wr:=c}:=by
 have hs:∀i,i≠0->Qn.cp {P with h:=a,mi:=b,wr:=c} i=P.cp i:=λi e=>by
  match i,e with
  |1,_|2,_|3,_|4,_|5,_=>rfl
  |i+6,_=>rfl
 have hk:Kp (P.cp 0) w w':=hk
 exact h.part 0 ⟨hB,h.m.z8s hk (by decide),h.m.text hk (by decide),h.m.z7k hk (by decide),h.m.tmp hk (by decide),h.m.tpg hk (by decide),h.m.pnd,h.m.z9J hs λb hb=> .inl hb⟩ hs (λb hb=> .inl hb) hk
theorem SY.del (h:SY w0 P0 w P){l':List Pg}(hl:l'.Sublist P.l)(hm:Rg KI w' P.pm (SD l'))(hk:Kp (λb=>b=P.pm) w w'):SY w0 P0 w' {P with l:=l'}:=by
 have hk:Kp (P.cp 4) w w':=hk
 have dB:∀i b,Qn.cp {P with l:=l'} i b->P.cp i b:=λi b hb=>by
  match i,hb with
  |0,e|1,e|2,e|3,e|4,e=>exact e
  |5,⟨g,hg,e⟩=>exact⟨g,hl.subset hg,e⟩
 have hp:=h.m.tpg hk (by decide)
 exact⟨⟨h.m.z6Y hk (by decide),h.m.z8s hk (by decide),h.m.text hk (by decide),h.m.z7k hk (by decide),hm,λg hg=>hp g (hl.subset hg),(hl.map _).nodup h.m.pnd,λi j ne b hb bQ=>h.m.UA i j ne b (dB i b hb) (dB j b bQ)⟩,λb ⟨i,hb⟩=>h.fp b ⟨i,dB i b hb⟩,h.k.Nv hk λb hb=>(h.fp b ⟨4,hb⟩).symm⟩
theorem SY.ins (h:SY w0 P0 w P){g:Pg}(hg:w0.heap.size<=g.b/\∀i,¬P.cp i g.b)(hb:NM w g.b (pgC g.t g.d) 219)(hm:Rg KI w' P.pm (SD (P.l++[g])))(hk:Kp (λb=>b=P.pm) w w'):SY w0 P0 w' {P with l:=P.l++[g]}:=by
 have hk:Kp (P.cp 4) w w':=hk
 have hp:=h.m.tpg hk (by decide)
 have gC:∀i b,Qn.cp {P with l:=P.l++[g]} i b->P.cp i b\/(i=5/\b=g.b):=λi b hb=>by
  match i,hb with
  |0,e|1,e|2,e|3,e|4,e=>exact .inl e
  | 5, ⟨g', cP, e⟩ =>
    rcases List.mem_append.1 cP with e2|e2
    ·exact .inl ⟨g',e2,e⟩
    ·rw[List.mem_singleton.1 e2] at e;exact .inr ⟨rfl,e.symm⟩
 refine⟨⟨h.m.z6Y hk (by decide),h.m.z8s hk (by decide),h.m.text hk (by decide),h.m.z7k hk (by decide),hm,λg' cP=>?_,?_,λi j ne b hb bQ=>?_⟩,λb ⟨i,hb⟩=>?_,h.k.Nv hk λb hb=>(h.fp b ⟨4,hb⟩).symm⟩
 ·rcases List.mem_append.1 cP with e| e
  ·exact hp g' e
  ·rw[List.mem_singleton.1 e];exact hk.ND hb (hg.2 4)
 ·show((P.l++[g]).map (·.b)).Nodup;rw[List.map_append,List.nodup_append];refine⟨h.m.pnd,by simp,λa ha b hb e=>?_⟩;obtain⟨g',cP,rfl⟩:=List.mem_map.1 ha;rw[List.map_singleton,List.mem_singleton] at hb;exact hg.2 5 ⟨g',cP,e.trans hb⟩
 ·rcases gC i b hb with e|⟨e,e2⟩
  ·rcases gC j b bQ with f|⟨f,f2⟩
   ·exact h.m.UA i j ne b e f
   ·rw[f2] at e;exact hg.2 i e
  ·rcases gC j b bQ with f|⟨f,f2⟩
   ·rw[e2] at f;exact hg.2 j f
   ·exact ne (e.trans f.symm)
 ·rcases gC i b hb with e|⟨e,e2⟩
  ·exact h.fp b ⟨i,e⟩
  ·rw[e2];exact .inr hg.1
theorem Rl {α β:Type}{f:α->β}:∀{l:List α},(l.map f).Nodup->∀{a b:α},a∈l->b∈l->f a=f b->a=b
 |[],_,a,b,ha,_,_=>by cases ha
 | x :: l, hn, a, b, ha, hb, e => by
   rw[List.map_cons,List.nodup_cons] at hn;rcases List.mem_cons.1 ha with h1|h1
   ·rcases List.mem_cons.1 hb with h2|h2
    ·rw[h1,h2]
    ·exact absurd (List.mem_map.2 ⟨b,h2,by rw[<-e,h1]⟩) hn.1
   ·rcases List.mem_cons.1 hb with h2|h2
    ·exact absurd (List.mem_map.2 ⟨a,h1,by rw[e,h2]⟩) hn.1
    ·exact Rl hn.2 h1 h2 e
def Qp (l:List Pg)(k:Int)(t:NH)(d:Bool):List Pg:=l.map λg=>if g.k=k then {g with t:=t,d:=d} else g
theorem z8O (l:List Pg)(k:Int)(t:NH)(d:Bool):SD (Qp l k t d)=SD l:=by
 unfold SD Qp
 rw[List.map_map]
 refine List.map_congr_left λg _=>?_
 by_cases h:g.k=k
 ·simp only[Function.comp_apply,if_pos h]
 ·simp only[Function.comp_apply,if_neg h]
theorem z29 (l:List Pg)(k:Int)(t:NH)(d:Bool):(Qp l k t d).map (·.b)=l.map (·.b):=by
 unfold Qp
 rw[List.map_map]
 refine List.map_congr_left λg _=>?_
 show Pg.b (if _ then _ else _)=_
 split<;>rfl
theorem SY.zgZ (h:SY w0 P0 w P){g:Pg}(hg:g∈P.l){t:NH}{d:Bool}(hb:NM w' g.b (pgC t d) 219)(hk:Kp (λb=>b=g.b) w w'):SY w0 P0 w' {P with l:=Qp P.l g.k t d}:=by
 have fV:=h.m.mp.nd
 have ld:∀b,(∃g'∈Qp P.l g.k t d,g'.b=b)↔∃g'∈P.l,g'.b=b:=λb=>by
  have e:=z29 P.l g.k t d;constructor
  ·rintro⟨g',cP,rfl⟩;have:g'.b∈P.l.map (·.b):=by rw[<-e];exact List.mem_map.2 ⟨g',cP,rfl⟩
   obtain⟨g2,a,b⟩:=List.mem_map.1 this;exact⟨g2,a,b⟩
  ·rintro⟨g',cP,rfl⟩;have:g'.b∈(Qp P.l g.k t d).map (·.b):=by rw[e];exact List.mem_map.2 ⟨g',cP,rfl⟩
   obtain⟨g2,a,b⟩:=List.mem_map.1 this;exact⟨g2,a,b⟩
 have hs:∀i,i≠5->Qn.cp {P with l:=Qp P.l g.k t d} i=P.cp i:=λi e=>by
  match i,e with
  |0,_|1,_|2,_|3,_|4,_=>rfl
  |i+6,_=>rfl
 have ai:Kp (P.cp 5) w w':=hk.NR λb e=>⟨g,hg,e.symm⟩
 have hi:∀b,Qn.cp {P with l:=Qp P.l g.k t d} 5 b->P.cp 5 b:=λb hb=>(ld b).1 hb
 refine h.part 5 ⟨h.m.z6Y ai (by decide),h.m.z8s ai (by decide),h.m.text ai (by decide),h.m.z7k ai (by decide),?_,λg' cP=>?_,?_,h.m.z9J hs λb hb=> .inl (hi b hb)⟩ hs (λb hb=> .inl (hi b hb)) ai
 ·show Rg KI w' P.pm (SD (Qp P.l g.k t d));rw[z8O];exact h.m.tmp ai (by decide)
 ·obtain⟨g2,aa,rfl⟩:=List.mem_map.1 cP;by_cases e:g2.k=g.k
  ·rw[if_pos e]
   have e2:g2=g:=by
    unfold SD at fV;rw[List.map_map] at fV;have Ew:(P.l.map (·.k)).Nodup:=fV;exact Rl Ew aa hg e
   rw[e2];exact hb
  ·rw[if_neg e];have bD:g2.b≠g.b:=λe2=>e (by rw[Rl h.m.pnd aa hg e2]);exact hk.ND (h.m.pg g2 aa) bD
 ·show((Qp P.l g.k t d).map (·.b)).Nodup;rw[z29];exact h.m.pnd
end
def Qy (l:List Pg):Nat:=l.countP (·.d)
structure UB (P:Qn)(txt:Int->NH)(K:Nat):Prop where
 aok:P.A.Ok
 asz:P.A.size<=1000
 keys:∀x,x∈P.l.map (·.k)↔P.A.held x
 nd:(P.l.map (·.k)).Nodup
 rng:∀g∈P.l,0<=g.k/\g.k<(P.L.length:Int)
 tx:∀g∈P.l,g.t=txt g.k
 cl:∀g∈P.l,g.d=false->P.D.now g.k=txt g.k
 out:∀x,0<=x->x<(P.L.length:Int)->¬P.A.held x->P.D.now x=txt x
 len:∀x,0<=x->x<(P.L.length:Int)->(txt x).length=512
 down:P.D.down=false
 due:P.D.due=0
 B:P.D.B=P.L.length
 N:P.D.N=1
 ca:P.D.calls+(Qy P.l:Int)<=(K:Int)
 cc:P.D.cache.length+Qy P.l<=K
 Rb:P.D.Rb.length<=17592186044416
def Xx (txt:Int->NH)(no:Int)(wt:Option NH):Int->NH:=λx=>if x=no then wt.getD (txt x) else txt x
theorem XK (txt:Int->NH)(no:Int):Xx txt no none=txt:=by
 funext x
 unfold Xx
 split<;>rfl
theorem QF (txt:Int->NH)(no:Int)(wt:Option NH):Xx txt no wt no=wt.getD (txt no):=if_pos O
theorem Qf (txt:Int->NH){no x:Int}(wt:Option NH)(h:x≠no):Xx txt no wt x=txt x:=if_neg h
def wN (wt:Option NH):Nat:=if wt.isSome then 1 else 0
theorem z3F (D:Dev)(n x:Int)(s:NH):((D.push n s).count).now x=if n=x then s else D.now x:=by
 unfold Dev.now Dev.count Dev.push
 dsimp only
 rw[z4b]
 split<;>rfl
theorem z0V (D:Dev)(z:Int)(x:Int):({D with reads:=z}:Dev).now x=D.now x:=rfl
section
variable {P:Qn}{txt:Int->NH}{K:Nat}{no:Int}{wt:Option NH}
theorem Yx (no:Int)(t:NH):∀{l:List Pg},(l.map (·.k)).Nodup->Qy (Qp l no t true)<=Qy l+1
 |[],_=>Nat.zero_le _
 | g :: l, hn => by
   rw[List.map_cons,List.nodup_cons] at hn;by_cases h:g.k=no
   ·have e:Qp l no t true=l:=by
     unfold Qp
     conv=>rhs;rw[<-List.map_id l]
     refine List.map_congr_left λg' cP=>?_;rw[if_neg λe=>hn.1 (List.mem_map.2 ⟨g',cP,by rw[e,h]⟩)];rfl
    have e2:Qp (g::l) no t true={g with t:=t,d:=true}::l:=by
     show(if g.k=no then _ else g)::Qp l no t true=_;rw[if_pos h,e]
    rw[e2];unfold Qy;rw[List.countP_cons,List.countP_cons];split<;>split<;>omega
   ·have ih:=Yx no t hn.2
    have e2:Qp (g::l) no t true=g::Qp l no t true:=by
     show(if g.k=no then _ else g)::Qp l no t true=_;rw[if_neg h]
    rw[e2];unfold Qy at*;rw[List.countP_cons,List.countP_cons];omega
theorem ZA {l:List Pg}(hn:(l.map (·.k)).Nodup){g:Pg}(hg:g∈l):Qp l g.k g.t g.d=l:=by
 unfold Qp
 conv=>rhs;rw[<-List.map_id l]
 refine List.map_congr_left λg' cP=>?_
 by_cases h:g'.k=g.k
 ·rw[if_pos h,Rl hn cP hg h];rfl
 ·rw[if_neg h];rfl
theorem z60 (l:List Pg)(k:Int)(t:NH)(d:Bool):(Qp l k t d).map (·.k)=l.map (·.k):=by
 unfold Qp
 rw[List.map_map]
 refine List.map_congr_left λg _=>?_
 by_cases h:g.k=k
 ·simp only[Function.comp_apply,if_pos h]
 ·simp only[Function.comp_apply,if_neg h]
theorem Yd {l:List Pg}{k:Int}{t:NH}{d:Bool}{g:Pg}(h:g∈Qp l k t d):(g∈l/\g.k≠k)\/(g.k=k/\g.t=t/\g.d=d/\∃g'∈l,g'.k=k):=by
 obtain⟨g',cP,rfl⟩:=List.mem_map.1 h
 by_cases e:g'.k=k
 ·rw[if_pos e];exact .inr ⟨e,rfl,rfl,g',cP,e⟩
 ·rw[if_neg e];exact .inl ⟨cP,e⟩
theorem UB.XL (h:UB P txt K){g:Pg}(hg:g∈P.l)(mW:∀t,wt=some t->t.length=512){P':Qn}(hA:P'.A=(P.A.Qa g.k).1)(hl:P'.l=Qp P.l g.k (wt.getD g.t) (wt.isSome ||g.d))(hL:P'.L=P.L)(hD:P'.D=P.D):UB P' (Xx txt g.k wt) (K+wN wt):=by
 have ht:=Arc.z0c h.aok g.k
 have bH:P.A.held g.k:=(h.keys _).1 (List.mem_map.2 ⟨g,hg,rfl⟩)
 have gD:=ht.no (ht.XL.2 bH)
 have vX:∀x,P'.A.held x↔P.A.held x:=λx=>by
  rw[hA,ht.held,gD];constructor
  ·rintro(e|e)
   ·rw[e];exact bH
   ·exact e.1
  ·intro e;exact .inr ⟨e,by simp⟩
 have hr:=h.rng g hg
 have vY:Qy P'.l<=Qy P.l+wN wt:=by
  rw[hl]
  cases wt with
  |none=>rw[show(none:Option NH).getD g.t=g.t from rfl,show((none:Option NH).isSome ||g.d)=g.d from rfl,ZA h.nd hg];exact Nat.le_add_right _ _
  |some t=>exact Yx _ _ h.nd
 have HG:=h.ca
 have Ex:=h.cc
 refine⟨by rw[hA];exact ht.ok,by rw[hA,ht.size];exact h.asz,λx=>by rw[hl,z60,h.keys,vX],by rw[hl,z60];exact h.nd,λg' cP=>?_,λg' cP=>?_,λg' cP hd=>?_,λx h0 h1 hx=>?_,λx h0 h1=>?_,by rw[hD];exact h.down,by rw[hD];exact h.due,by rw[hD,hL];exact h.B,by rw[hD];exact h.N,by rw[hD];omega,by rw[hD];omega,by rw[hD];exact h.Rb⟩
 ·rw[hL];rw[hl] at cP;rcases Yd cP with e| e
  ·exact h.rng g' e.1
  ·rw[e.1];exact hr
 ·rw[hl] at cP;rcases Yd cP with e| e
  ·rw[Qf _ _ e.2];exact h.tx g' e.1
  ·rw[e.1,QF,e.2.1,h.tx g hg]
 ·rw[hD];rw[hl] at cP;rcases Yd cP with e| e
  ·rw[Qf _ _ e.2];exact h.cl g' e.1 hd
  ·rw[e.2.2.1] at hd
   have hw:wt=none:=by
    cases wt with
    |none=>rfl
    |some t=>cases hd
   rw[e.1,hw,XK];rw[hw] at hd;exact h.cl g hg hd
 ·rw[hL] at h1;rw[vX] at hx;have bD:x≠g.k:=λe=>hx (e▸bH);rw[hD,Qf _ _ bD];exact h.out x h0 h1 hx
 ·rw[hL] at h1;by_cases e:x=g.k
  ·rw[e,QF]
   cases hw:wt with
   |none=>exact h.len _ (e▸h0) (e▸h1)
   |some t=>exact mW t hw
  ·rw[Qf _ _ e];exact h.len x h0 h1
def Rj:List Pg->Int->List Pg
 |[],_=>[]
 |g::l,k=>if g.k=k then l else g::Rj l k
theorem TA (g:Pg)(l:List Pg)(k:Int):Rj (g::l) k=if g.k=k then l else g::Rj l k:=rfl
theorem z1h (l:List Pg)(k:Int):delL (SD l) k=SD (Rj l k):=by
 induction l with
 |nil=>rfl
 | cons g l ih =>
   show(if k=g.k then SD l else(g.k,ptr g.b 0)::delL (SD l) k)=_;rw[TA];by_cases h:k=g.k
   ·rw[if_pos h,if_pos h.symm]
   ·rw[if_neg h,if_neg (λe=>h e.symm),ih];rfl
theorem Ry:∀(l:List Pg) (k:Int),(Rj l k).Sublist l
 |[],_=>List.Sublist.refl _
 | g :: l, k => by
   rw[TA];split
   ·exact List.sublist_cons_self _ _
   ·exact(Ry l k).cons_cons _
theorem z0k {l:List Pg}(hn:(l.map (·.k)).Nodup)(k x:Int):x∈(Rj l k).map (·.k)↔x∈l.map (·.k)/\x≠k:=by
 induction l with
 |nil=>simp[Rj]
 | cons g l ih =>
   rw[List.map_cons,List.nodup_cons] at hn;rw[TA];by_cases h:g.k=k
   ·rw[if_pos h,List.map_cons,List.mem_cons];constructor
    ·intro e;exact⟨.inr e,λe2=>hn.1 (by rw[h,<-e2];exact e)⟩
    ·rintro⟨e|e,e2⟩
     ·exact absurd (e.trans h) e2
     ·exact e
   ·rw[if_neg h,List.map_cons,List.map_cons,List.mem_cons,List.mem_cons];have:=ih hn.2;rw[this];constructor
    ·rintro(e|e)
     ·exact⟨.inl e,λe2=>h (by rw[<-e,e2])⟩
     ·exact⟨.inr e.1,e.2⟩
    ·rintro⟨e|e,e2⟩
     ·exact .inl e
     ·exact .inr ⟨e,e2⟩
theorem z1x {l:List Pg}{g:Pg}(hn:(l.map (·.k)).Nodup)(hg:g∈l):Qy (Rj l g.k)+(if g.d then 1 else 0)=Qy l:=by
 induction l with
 |nil=>cases hg
 | cons a l ih =>
   rw[List.map_cons,List.nodup_cons] at hn;rw[TA];by_cases h:a.k=g.k
   ·rw[if_pos h]
    have e:a=g:=by
     rcases List.mem_cons.1 hg with e| e
     ·exact e.symm
     ·exact absurd (List.mem_map.2 ⟨g,e,h.symm⟩) hn.1
    rw[e];unfold Qy;rw[List.countP_cons]
   ·rw[if_neg h]
    have aa:g∈l:=by
     rcases List.mem_cons.1 hg with e| e
     ·exact absurd (by rw[e]) h
     ·exact e
    have:=ih hn.2 aa;unfold Qy at*;rw[List.countP_cons,List.countP_cons];omega
structure zbD (P:Qn)(txt:Int->NH)(K:Nat)(g:Option Int)(D':Dev)(l':List Pg):Prop where
 now:∀x,0<=x->x<(P.L.length:Int)->x∉l'.map (·.k)->D'.now x=txt x
 cl:∀q∈l',q.d=false->D'.now q.k=txt q.k
 sub:l'.Sublist P.l
 keys:∀x,x∈l'.map (·.k)↔x∈P.l.map (·.k)/\g≠some x
 down:D'.down=false
 due:D'.due=0
 B:D'.B=P.D.B
 N:D'.N=P.D.N
 ca:D'.calls+(Qy l':Int)<=(K:Int)
 cc:D'.cache.length+Qy l'<=K
 Rb:D'.Rb.length<=17592186044416
theorem UB.zhE (h:UB P txt K):zbD P txt K none P.D P.l:=
 ⟨λx h0 h1 hx=>h.out x h0 h1 λe=>hx ((h.keys x).2 e),h.cl,List.Sublist.refl _,λx=>by simp,h.down,h.due,rfl,rfl,h.ca,h.cc,h.Rb⟩
theorem UB.zeG (h:UB P txt K){g:Pg}(hg:g∈P.l):zbD P txt K (some g.k) (if g.d then(P.D.push g.k g.t).count else P.D) (Rj P.l g.k):=by
 have zD:=z1x h.nd hg
 have hk:=z0k h.nd g.k
 have HG:=h.ca
 have Ex:=h.cc
 have dB:=Ry P.l g.k
 have j5:∀x,0<=x->x<(P.L.length:Int)->x∉(Rj P.l g.k).map (·.k)->x=g.k\/¬P.A.held x:=λx h0 h1 hx=>by
  rw[hk,not_and] at hx;by_cases e:x=g.k
  ·exact .inl e
  ·exact .inr λe2=>hx ((h.keys x).2 e2) e
 have dZ:∀q∈Rj P.l g.k,q∈P.l/\q.k≠g.k:=λq hq=>⟨dB.subset hq,((hk q.k).1 (List.mem_map.2 ⟨q,hq,rfl⟩)).2⟩
 have sk:∀x,x∈(Rj P.l g.k).map (·.k)↔x∈P.l.map (·.k)/\some g.k≠some x:=λx=>by
  rw[hk];simp only[ne_eq,Option.some.injEq];constructor
  ·rintro⟨a,b⟩;exact⟨a,λe=>b e.symm⟩
  ·rintro⟨a,b⟩;exact⟨a,λe=>b e.symm⟩
 cases hd:g.d with
 | true =>
   rw[hd] at zD;rw[if_pos O] at zD⊢;refine⟨λx h0 h1 hx=>?_,λq hq tW=>?_,dB,sk,h.down,?_,rfl,rfl,?_,?_,h.Rb⟩
   ·rw[z3F];rcases j5 x h0 h1 hx with e| e
    ·rw[if_pos e.symm,e,h.tx g hg]
    ·by_cases e2:g.k=x
     ·rw[if_pos e2,<-e2,h.tx g hg]
     ·rw[if_neg e2];exact h.out x h0 h1 e
   ·obtain⟨a,b⟩:=dZ q hq;rw[z3F,if_neg λe=>b e.symm];exact h.cl q a tW
   ·have:=h.due;show(if P.D.due=0 then(0:Int) else _)=0;rw[if_pos this]
   ·show P.D.calls+1+_<=_;omega
   ·show(P.D.cache++[_]).length+_<=_
    rw[List.length_append,List.length_singleton];omega
 | false =>
   rw[hd] at zD;rw[if_neg (by simp)] at zD⊢;refine⟨λx h0 h1 hx=>?_,λq hq tW=>?_,dB,sk,h.down,h.due,rfl,rfl,by omega,by omega,h.Rb⟩
   ·rcases j5 x h0 h1 hx with e| e
    ·rw[e];exact h.cl g hg hd
    ·exact h.out x h0 h1 e
   ·exact h.cl q (dZ q hq).1 tW
theorem UB.zeV (h:UB P txt K)(h0:0<=no)(h1:no<(P.L.length:Int))(hh:¬P.A.held no)(mW:∀t,wt=some t->t.length=512){D':Dev}{l':List Pg}(hg:zbD P txt K (P.A.Qa no).2.2 D' l'){P':Qn}{b:Nat}{z:Int}
  (hA:P'.A=(P.A.Qa no).1) (hl:P'.l=l'++[⟨no,b,wt.getD (txt no),wt.isSome⟩]) (hL:P'.L=P.L) (hD:P'.D={D' with reads:=z}):UB P' (Xx txt no wt) (K+wN wt):=by
 have ht:=Arc.z0c h.aok no
 have KT:=hg.ca
 have KU:=hg.cc
 have ig:∀x,x∈P'.l.map (·.k)↔x=no\/x∈l'.map (·.k):=λx=>by
  rw[hl,List.map_append,List.mem_append,List.map_singleton,List.mem_singleton,or_comm]
 have vX:∀x,P'.A.held x↔x=no\/x∈l'.map (·.k):=λx=>by
  rw[hA,ht.held,hg.keys,h.keys]
 have lX:no∉l'.map (·.k):=λe=>hh ((h.keys no).1 ((hg.keys no).1 e).1)
 have vY:Qy P'.l=Qy l'+wN wt:=by
  rw[hl];unfold Qy wN;rw[List.countP_append,List.countP_singleton]
 refine⟨by rw[hA];exact ht.ok,by rw[hA,ht.size];exact h.asz,λx=>by rw[ig,vX],?_,λg jH=>?_,λg jH=>?_,λg jH hd=>?_,λx x0 x1 hx=>?_,λx x0 x1=>?_,by rw[hD];exact hg.down,by rw[hD];exact hg.due,by rw[hD,hL];exact hg.B.trans h.B,by rw[hD];exact hg.N.trans h.N,by rw[hD];show D'.calls+_<=_;omega,by rw[hD];show D'.cache.length+_<=_;omega,by rw[hD];exact hg.Rb⟩
 ·rw[hl,List.map_append,List.nodup_append];refine⟨(hg.sub.map _).nodup h.nd,by simp,λa ha c hc e=>?_⟩;rw[List.map_singleton,List.mem_singleton] at hc;exact lX (by rw[<-show a=no from e.trans hc];exact ha)
 ·rw[hL];rw[hl] at jH;rcases List.mem_append.1 jH with e| e
  ·exact h.rng g (hg.sub.subset e)
  ·rw[List.mem_singleton.1 e];exact⟨h0,h1⟩
 ·rw[hl] at jH;rcases List.mem_append.1 jH with e| e
  ·rw[Qf _ _ (λe2=>lX (by rw[<-e2];exact List.mem_map.2 ⟨g,e,rfl⟩))];exact h.tx g (hg.sub.subset e)
  ·rw[List.mem_singleton.1 e,QF]
 ·rw[hD,z0V];rw[hl] at jH;rcases List.mem_append.1 jH with e| e
  ·rw[Qf _ _ (λe2=>lX (by rw[<-e2];exact List.mem_map.2 ⟨g,e,rfl⟩))];exact hg.cl g e hd
  ·rw[List.mem_singleton.1 e] at hd⊢
   have hw:wt=none:=by
    cases wt with
    |none=>rfl
    |some t=>cases hd
   rw[hw,XK];exact hg.now no h0 h1 lX
 ·rw[hL] at x1;rw[vX,not_or] at hx;rw[hD,z0V,Qf _ _ hx.1];exact hg.now x x0 x1 hx.2
 ·rw[hL] at x1;by_cases e:x=no
  ·rw[e,QF]
   cases hw:wt with
   |none=>exact h.len _ h0 h1
   |some t=>exact mW t hw
  ·rw[Qf _ _ e];exact h.len x x0 x1
end
end Go.Proofs.YtfgjaafcgghnoaaGreatDoor
namespace Go.Proofs.YtfgjaafcgghnoaaGreatDoor
open Go Go.RowKit Go.Proofs.Tryz
section
variable {w w' w0:World}{P P0 P':Qn}{S:Nat->Prop}{txt:Int->NH}{K:Nat}
theorem T2.cells (h:T2 w P):NM w P.s [ptr P.d 0,ptr P.m 0,ptr P.c 0,.map (some P.pm),I (P.fr:Int),I P.h,I P.mi,I P.wr,I 0,I 0,I 0,.bool false] 103:=h.ND
theorem UB.zd9 (h:UB P txt K):P.D.Small K:=⟨by have:=h.ca;omega,by have:=h.cc;omega,trivial,h.Rb⟩
theorem ZX (h:T2 w P)(hN:P.D.N=1):Oa prog 56 [ptr P.s 0] w λv w'=>v=I 512/\w'=w:=by
 have hB:=h.cells
 have cH:=z7r h.dev
 rw[hN] at cH
 refine Nu (e:=[(0,_)]) func56 O ntmps56 O O$ qN O$ NF O$ py$ qN O$ Nz O$ qV (OP UM O O)$ NB$ It O$ An$ qN O$ Nz O$ O8 O$ NO Tw O ?_
 refine qV (NJ U27 O O hB O)$ NZ zdW O (cH) ?_
 rintro _ w ⟨rfl,rfl⟩
 refine NF O$ NA func56 O ?_
 exact⟨_,rfl,rfl,rfl⟩
theorem z8p (h:T2 w P):Oa prog 129 [ptr P.s 0] w λv w'=>v=ptr P.d 0/\w'=w:=by
 have hB:=h.cells
 refine Nu (e:=[(0,_)]) func129 O ntmps129 O O$ qN O$ NF O$ py$ qN O$ Nz O$ qV (OP UM O O)$ NB$ It O$ An$ qN O$ Nz O$ O8 O$ NO Tw O ?_
 refine qV (NJ U27 O O hB O)$ NF O$ NA func129 O ?_
 exact⟨_,rfl,rfl,rfl⟩
theorem z6Z (h:T2 w P):Oa prog 13 [ptr P.s 0] w λv w'=>v=ptr P.m 0/\w'=w:=by
 have hB:=h.cells
 refine Nu (e:=[(0,_)]) func13 O ntmps13 O O$ qN O$ NF O$ py$ qN O$ Nz O$ qV (OP UM O O)$ NB$ It O$ An$ qN O$ Nz O$ O8 O$ NO z2a O ?_
 refine qV (NJ U48 O O hB O)$ NF O$ NA func13 O ?_
 exact⟨_,rfl,rfl,rfl⟩
theorem Yt (h:T2 w P)(hd:P.D.down=false):Oa prog 109 [ptr P.s 0] w λv w'=>v=I 0/\w'=w:=by
 have hB:=h.cells
 have vY:=z7m h.dev
 rw[hd] at vY
 refine Nu (e:=[(0,_)]) func109 O ntmps109 O O$ qN O$ NF O$ py$ Nw$ qN O$ Nz O$ qV (OP UM O O)$ NF O$ It O$ qN O$ Nz O$ O8 O$ NO z6t O ?_
 refine qV (NJ U4 O O hB O)$ NT O O$ O8 O$ NO Tw O$ qV (NJ U27 O O hB O)$ NZ zfh O (vY) ?_
 rintro _ w ⟨rfl,rfl⟩
 refine OC O O$ NF O$ It O$ An$ Ny$ qN O$ NF O$ NA func109 O ?_
 exact⟨_,rfl,rfl,rfl⟩
theorem z41 (h:T2 w P)(u7:P.D.Small K)(vY:P.D.down=false)(KV:P.D.due=0)(KW:P.D.B=P.L.length)(iS:P.D.N=1)(hK:K<1000000000000){b:Nat}{t:NH}{d:Bool}{no:Int}(h0:0<=no)(h1:no<(P.L.length:Int))(ht:t.length=512)(hb:NM w b (pgC t d) 219)(lz:∀i,¬P.cp i b):
  Oa prog 151 [ptr P.s 0,I no,ptr b 0] w λv w'=>v=I 0/\∃Fd' wr',T2 w' {P with D:=if d then(P.D.push no t).count else P.D,Fd:=Fd',wr:=wr'}/\Kp (λj=>j=b\/P.cp 0 j\/P.cp 1 j) w w'/\(∀j,Fd' j->P.Fd j\/w.heap.size<=j):=by
 replace hb:NM w b [S t,.bool d,I 0] 219:=hb
 have hB:=h.cells
 have hg:=Ext.NY w
 have rG:P.s≠b:=λe=>lz 0 e.symm
 have KX:¬P.Fd P.s:=λe=>h.UA 0 1 (by decide) P.s O e
 have HH:¬P.Fd b:=lz 1
 refine Nu (e:=[(0,_),(1,_),(2,_)]) func151 O ntmps151 O O ?_
 cases d with
 | false =>
   refine qN O$ NF O$ py$ qN O$ Nz O$ O8 O$ NO Ut O$ NO z1D O$ qV (NJ U4 O O hb O)$ qV ((Qr O))$ NB$ NI O$ qN O$ NF O ?_;refine NA func151 O (⟨_,rfl,rfl,P.Fd,P.wr,?_,Kp.refl _ _,λj e=> .inl e⟩);rw[if_neg (by simp)]
   exact h
 | true =>
   refine qN O$ NF O$ py$ qN O$ Nz O$ O8 O$ NO Ut O$ NO z1D O$ qV (NJ U4 O O hb O)$ qV ((Qr O)) ?_;have Ey:=z5p no t (h.dev.ext hg) u7 hK;rw[z9V vY KV ⟨h0,by rw[KW];exact h1⟩ (by rw[iS];exact ht)] at Ey;dsimp only at Ey;refine NB$ It O$ An$ py$ py$ PK (λw'=>Kp P.Fd w w') O$ NX 0 O O (hg.kp)$ NG 1 O (OQ O) (hg.kp)$ NG 2 O (Og Tw O) (hg.kp)$ qT 3 O (λ_ h=>(NJ U27 O O (h.ND hB KX) O)) (hg.kp)$ NX 4 O O (hg.kp)$ NX 5 O O (hg.kp)$ NG 6 O (OQ O) (hg.kp)$ NG 7 O (Og Ut O) (hg.kp) ?_;refine NG 8 O (Og z1S O) (hg.kp)$ qT 9 O (λ_ h=>(NJ U9 O O (h.ND hb HH) O)) (hg.kp)$ Qv 10 O zfP O (Ey) ?_;rintro _ w1 ⟨rfl,ny⟩;refine⟨hg.kp.trans ny.kpF,?_⟩;obtain⟨Fd',df,ph⟩:=((h.r (Ext.refl w)).ext hg).dev ny;have aM:Kp P.Fd w w1:=hg.kp.trans ny.kpF;have qs:∀j,Fd' j->P.Fd j\/w.heap.size<=j:=λj e=>(ph j e).imp id λe=>by have:=hg.size;omega
   refine NG 11 O (PO O) (hg.kp.trans ny.kpF)$ qE$ qN O$ Nz O$ P3 O O ?_;have aj:=df.m.cells;refine NB$ It O$ An$ qN O$ Nz O$ O8 O$ NO Uj O$ NO za4 O$ qV (NJ U3 O O aj O)$ qV (za9 O O)$ O8 O$ NO Uj O$ NO za4 O$ NP O (PA OL O O O aj (by simp)) ?_;rintro w2 ⟨am,aq⟩;obtain⟨z,hz⟩:∃z,IntKind.i64.wrap (P.wr+1)=z:=⟨_,rfl⟩;rw[hz] at am;have dV:=df.cnt (a:=P.h) (b:=P.mi) (c:=z) am aq;have bQ:=aq.ND (aM.ND hb HH) (λe=>rG e.symm);refine NB$ Of.qb (e:=[(2,_),(6,_)]) ?_;refine qN O$ Nz O$ O8 O$ NO Ut O$ NO z1D O$ NP O (PA Tf O O O bQ (by simp)) ?_;rintro w3 ⟨dF,aw⟩
   have Ez:∀i,¬Qn.cp {P with D:=(P.D.push no t).count,Fd:=Fd',h:=P.h,mi:=P.mi,wr:=z} i b:=λi e=>by
    match i,e with
    |0,e=>exact lz 0 e
    | 1, e =>
      rcases qs b e with e| e
      ·exact lz 1 e
      ·have:=hb.lt;omega
    |2,e=>exact lz 2 e
    |3,e=>exact lz 3 e
    |4,e=>exact lz 4 e
    |5,e=>exact lz 5 e
   refine qM O$ NF O$ NA func151 O (⟨_,rfl,rfl,Fd',z,?_,?_,qs⟩)
   ·rw[if_pos O];exact dV.m.kp aw λj ⟨i,hj⟩ e=>Ez i (e▸hj)
   ·exact((aM.NR λj e=> .inr (.inr e)).trans (aq.NR λj e=> .inr (.inl e))).trans (aw.NR λj e=> .inl e)
end
structure Qn.Same (P P':Qn):Prop where
 s:P'.s=P.s
 d:P'.d=P.d
 m:P'.m=P.m
 gi:P'.gi=P.gi
 c:P'.c=P.c
 pm:P'.pm=P.pm
 p:P'.p=P.p
 fr:P'.fr=P.fr
 L:P'.L=P.L
theorem Qn.Same.trans {P P' P2:Qn}(h:P.Same P')(h2:P'.Same P2):P.Same P2:=
 ⟨h2.s.trans h.s,h2.d.trans h.d,h2.m.trans h.m,h2.gi.trans h.gi,h2.c.trans h.c,h2.pm.trans h.pm,h2.p.trans h.p,h2.fr.trans h.fr,h2.L.trans h.L⟩
theorem ZO {l:List Pg}{k:Int}{b:Nat}{t0 t:NH}{d0 d:Bool}(h:k∉l.map (·.k)):Qp (l++[⟨k,b,t0,d0⟩]) k t d=l++[⟨k,b,t,d⟩]:=by
 unfold Qp
 rw[List.map_append]
 congr 1
 ·conv=>rhs;rw[<-List.map_id l]
  refine List.map_congr_left λg hg=>?_;rw[if_neg λe=>h (List.mem_map.2 ⟨g,hg,e⟩)];rfl
 ·show [if k=k then _ else _]=_;rw[if_pos O]
section
variable {w w' w0:World}{P P0 P':Qn}{S':Nat->Prop}{txt:Int->NH}{K:Nat}
theorem T2.get (h:T2 w P){q:Pg}(hq:q∈P.l):PX (SD P.l) q.k=some (ptr q.b 0):=
 z3d h.mp.nd (List.mem_map.2 ⟨q,hq,rfl⟩)
theorem SY.write (h:SY w0 P0 w P){D':Dev}{Fd':Nat->Prop}{wr':Int}{b:Nat}(hm:T2 w' {P with D:=D',Fd:=Fd',wr:=wr'})(hk:Kp (λj=>j=b\/P.cp 0 j\/P.cp 1 j) w w')(hF:∀j,Fd' j->P.Fd j\/w.heap.size<=j)(hb:P0.fp b\/w0.heap.size<=b):SY w0 P0 w' {P with D:=D',Fd:=Fd',wr:=wr'}:=
 ⟨hm,λj ⟨i,hj⟩=>by
  match i,hj with
  |0,e=>exact h.fp j ⟨0,e⟩
  | 1, e =>
    rcases hF j e with e| e
    ·exact h.fp j ⟨1,e⟩
    ·exact .inr (by have:=h.k.size;omega)
  |2,e=>exact h.fp j ⟨2,e⟩
  |3,e=>exact h.fp j ⟨3,e⟩
  |4,e=>exact h.fp j ⟨4,e⟩
  |5,e=>exact h.fp j ⟨5,e⟩,h.k.Nv hk λj e=>by
  rcases e with e|e| e
  ·rw[e];exact hb.symm
  ·exact(h.fp j ⟨0,e⟩).symm
  ·exact(h.fp j ⟨1,e⟩).symm⟩
theorem Ym (hr : SY w0 P0 w P)(hI : UB P txt K)(hK : K < 1000000000000){no : Int}(h0 : 0 <= no)(h1 : no < (P.L.length : Int))(wt : Option NH)(mW : ∀ t, wt = some t -> t.length = 512){x : Nat}{x0 : Value}(j5 : w0.heap.size <= x)(eK : ∀ i, ¬ P.cp i x)(eX : NM w x [x0] 9){f : Nat}(pK : CF prog f)
  (EA:∀(w1:World) (b:Nat) (t:NH) (d:Bool),b≠x->NM w1 b (pgC t d) 219->NM w1 x [x0] 9->Oa prog f [ptr b 0,ptr x 0] w1 λv w2=>v= .tuple #[]/\NM w2 b (pgC (wt.getD t) (wt.isSome ||d)) 219/\NM w2 x [S (wt.getD t)] 9/\Kp (λj=>j=if wt.isSome then b else x) w1 w2):
  Oa prog 110 [ptr P.s 0,I no,.bool wt.isSome,.func (.func f) #[] #[ptr x 0]] w λv w'=>v=I 0/\NM w' x [S (wt.getD (txt no))] 9/\∃P',SY w0 P0 w' P'/\UB P' (Xx txt no wt) (K+wN wt)/\P.Same P'/\∀i,¬P'.cp i x:=by
 have hB:=hr.m.cells
 have fL:=US hr.m.dev
 rw[hI.B] at fL
 have lx:=eX.lt
 have gH:=Arc.z0c hI.aok no
 obtain⟨T,hT⟩:∃T,P.A.Qa no=T:=⟨_,rfl⟩
 have fi:=z5n hr.m.arc hI.aok hI.asz (k:=no)
 rw[hT] at gH fi
 obtain⟨A2,XL,g⟩:=T
 dsimp only at gH fi
 have n4096:=hr.m.ext.n
 refine Nu (e:=[(0,_),(1,_),(2,_),(3,_)]) func110 O ntmps110 O O$ qN O$ NF O$ py$ qN O$ Nz O$ Pb O O$ Ox$ NT O O$ Nz O$ O8 O$ NO Tw O$ qV (NJ U27 O O hB O)$ NZ z3Q O (fL) ?_
 rintro _ w ⟨rfl,rfl⟩
 refine RN O O$ Ox$ OC O O$ NB$ It O$ An$ qN O$ Nz O$ O8 O$ NO z68 O$ qV (NJ z9p O O hB O)$ Nz O$ NZ zfE O (fi) ?_
 rintro _ w1 ⟨rfl,V2,sn⟩
 have df:=hr.arc sn
 have EB:=sn.k.ND eX (eK 3)
 have z1:=sn.k.size
 refine Nz O$ qV (Q8 (v:=zbR XL g) O O)$ qV (Q8 (v:=I 0) O O)$ NK O O (Qk (cs:=[_,_,_]) On O) ?_
 rintro _ w2 ⟨b9,rfl,mS,ag,cB⟩
 have z2:=ag.size
 refine NP O (OA (news:=Ql XL g) On O O O O cB (by simp)) ?_
 rintro w3 ⟨cT,aw⟩
 replace cT:NM w3 b9 [.bool XL,.bool g.isSome,I (g.getD 0)] 265:=cT
 have aO:Ext w1 w3:=ag.Nv aw (λj e=>by omega)
 have cg:=df.ext aO
 have zE:=aO.ND EB
 have z01:=df.k.size
 have z13:=aO.size
 have eY:∀i,¬Qn.cp {P with A:=A2,V:=V2} i x:=λi e=>by
  match i,e with
  |0,e=>exact eK 0 e
  |1,e=>exact eK 1 e
  |2,e=>exact eK 2 e
  | 3, e =>
    rcases sn.fp x e with e| e
    ·exact eK 3 e
    ·omega
  |4,e=>exact eK 4 e
  |5,e=>exact eK 5 e
 have zF:∀i,¬Qn.cp {P with A:=A2,V:=V2} i b9:=df.m.new (by omega)
 have N8:b9≠x:=by omega
 have l93:=cT.lt
 have kG:=cg.m.cells
 dsimp only at kG
 refine NF O$ Of.qb (e:=[(0,_),(1,_),(2,_),(3,_),(8,_),(9,_),(10,_)]) ?_
 refine py$ qN O$ Nz O$ P3 O O$ NB$ It O$ An$ py$ qN O$ NO zbM O ?_
 cases XL with
 | true =>
   have bH:=gH.XL.1 O
   obtain⟨q,hq,EC⟩:∃q∈P.l,q.k=no:=by
    obtain⟨q,a,b⟩:=List.mem_map.1 ((hI.keys no).2 bH);exact⟨q,a,b⟩
   subst EC;refine qV (NJ U4 O O cT O)$ NB$ NI O$ qN O$ Nz O$ O8 O$ NO Uj O$ NO zar O$ qV (NJ U3 O O kG O)$ qV (za9 O O)$ O8 O$ NO Uj O$ NO zar O$ NP O (PA OL O O O kG (by simp)) ?_;rintro w4 ⟨aH,ao⟩;obtain⟨z,hz⟩:∃z,IntKind.i64.wrap (P.h+1)=z:=⟨_,rfl⟩;rw[hz] at aH;have bK:=cg.cnt (a:=z) (b:=P.mi) (c:=P.wr) aH ao;have iT:=bK.m.cells;dsimp only at iT;have qW:=ao.ND zE (eK 0);have dL:=bK.m.get hq;dsimp only at dL;have rF:NM w4 q.b (pgC q.t q.d) 219:=bK.m.pg q hq;have pF:q.b≠x:=λe=>eK 5 ⟨q,hq,e⟩;refine qM O$ NT O O$ O8 O$ NO TE O$ qV (NJ VN O O iT O)$ Nz O$ qV (ylk (k:=q.k) (K:=KI) VN (QG U3) z9k O O bK.m.mp.l) ?_;dsimp only;rw[dL];refine Pv O O (QH pK O O) (EA w4 q.b q.t q.d pF rF qW) ?_;rintro _ w5 ⟨rfl,ED,qX,ai⟩;refine NB$ Of.qb (e:=[(0,_),(1,_),(2,_),(3,_),(8,_),(9,_),(10,_)]) ?_;refine qN O$ NF O$ NA func110 O ?_;have EE:=hI.tx q hq;refine⟨_,rfl,rfl,by rw[<-EE];exact qX,?_⟩
   cases wt with
   | none =>
     have zH:∀i,¬Qn.cp {P with A:=A2,V:=V2,h:=z,mi:=P.mi,wr:=P.wr} i x:=λi e2=>by
      match i,e2 with
      |0,e2=>exact eY 0 e2
      |1,e2=>exact eY 1 e2
      |2,e2=>exact eY 2 e2
      |3,e2=>exact eY 3 e2
      |4,e2=>exact eY 4 e2
      |5,e2=>exact eY 5 e2
     refine⟨_,bK.loc ai (λj e=>⟨.inr (by rw[show j=x from e];exact j5),by rw[show j=x from e];exact zH⟩),hI.XL hq mW (by rw[hT]) ?_ O O,⟨rfl,rfl,rfl,rfl,rfl,rfl,rfl,rfl,rfl⟩,zH⟩;show P.l=Qp P.l q.k q.t q.d
     exact(ZA hI.nd hq).symm
   | some t =>
     refine⟨_,bK.zgZ hq ED ai,hI.XL hq mW (by rw[hT]) O O O,⟨rfl,rfl,rfl,rfl,rfl,rfl,rfl,rfl,rfl⟩,λi e2=>?_⟩
     match i,e2 with
     |0,e2=>exact eY 0 e2
     |1,e2=>exact eY 1 e2
     |2,e2=>exact eY 2 e2
     |3,e2=>exact eY 3 e2
     |4,e2=>exact eY 4 e2
     | 5, ⟨g', cP, e2⟩ =>
       have h3:g'.b∈P.l.map (·.b):=by rw[<-z29 P.l q.k];exact List.mem_map.2 ⟨g',cP,rfl⟩
       obtain⟨g2,a,b⟩:=List.mem_map.1 h3
       exact eY 5 ⟨g2,a,b.trans e2⟩
 | false =>
   have EF:¬P.A.held no:=λe=>by have:=gH.XL.2 e;cases this
   refine qV (NJ U4 O O cT O)$ NB$ It O$ An$ qN O$ Nz O$ O8 O$ NO Uj O$ NO z9X O$ qV (NJ U3 O O kG O)$ qV (za9 O O)$ O8 O$ NO Uj O$ NO z9X O ?_;refine NP O (PA OL O O O kG (by simp)) ?_;rintro w4 ⟨aH,ao⟩;obtain⟨z,hz⟩:∃z,IntKind.i64.wrap (P.mi+1)=z:=⟨_,rfl⟩;rw[hz] at aH;have bK:=cg.cnt (a:=P.h) (b:=z) (c:=P.wr) aH ao;have iT:=bK.m.cells;dsimp only at iT;have qW:=ao.ND zE (eK 0);have Be:b9≠P.s:=λe=>zF 0 e;have ju:=ao.ND cT Be;have z4:=ao.size;refine NB$ py$ qN O$ NO zbO O$ qV (NJ U4 O O ju O)$ NB ?_
   have KY:∀(D':Dev) (Fd':Nat->Prop) (l':List Pg) (wr':Int),(∀j,Fd' j->P.Fd j\/w.heap.size<=j)->l'.Sublist P.l->∀b,(∀i,¬Qn.cp {P with A:=A2,V:=V2} i b)->b<w.heap.size\/(∀j,Fd' j->j≠b)->∀i,¬Qn.cp {P with A:=A2,V:=V2,D:=D',Fd:=Fd',l:=l',mi:=z,wr:=wr'} i b:=λD' Fd' l' wr' hF hl b hb bQ i e=>by
    match i,e with
    |0,e=>exact hb 0 e
    | 1, e =>
      rcases bQ with h| h
      ·rcases hF b e with e| e
       ·exact hb 1 e
       ·omega
      ·exact h b e O
    |2,e=>exact hb 2 e
    |3,e=>exact hb 3 e
    |4,e=>exact hb 4 e
    |5,⟨q,hq,e⟩=>exact hb 5 ⟨q,hl.subset hq,e⟩
   refine Oy (λe' w'=>e'=[(0,ptr P.s 0),(1,I no),(2,.bool wt.isSome),(3,.func (.func f) #[] #[ptr x 0])]/\∃D' Fd' l' wr',SY w0 P0 w' {P with A:=A2,V:=V2,D:=D',Fd:=Fd',l:=l',mi:=z,wr:=wr'}/\zbD P txt K g D' l'/\NM w' x [x0] 9/\(∀j,Fd' j->P.Fd j\/w.heap.size<=j/\j≠x)) ?eC$ λeC=>?iR
   case eC =>
    rintro e' w5 ⟨rfl,D',Fd',l',wr',cf,ep,qX,vO⟩;have lX:no∉l'.map (·.k):=λe=>EF ((hI.keys no).1 ((ep.keys no).1 e).1);have z5:=cf.k.size;have lx5:=qX.lt
    have eZ:∀i,¬Qn.cp {P with A:=A2,V:=V2,D:=D',Fd:=Fd',l:=l',mi:=z,wr:=wr'} i x:=λi e=>by
     match i,e with
     |0,e=>exact eK 0 e
     | 1, e =>
       rcases vO x e with e| e
       ·exact eK 1 e
       ·exact e.2 O
     |2,e=>exact eK 2 e
     |3,e=>exact eY 3 e
     |4,e=>exact eK 4 e
     |5,⟨q,hq,e⟩=>exact eK 5 ⟨q,ep.sub.subset hq,e⟩
    refine qN O$ qV (QP (cs:=[_,_,_]) zgv O zhn O O)$ NK O O (PW O (cs:=pgC [] false) O) ?_;rintro _ w6 ⟨b,rfl,hb,aK,aR⟩;replace aR:NM w6 b [S [],.bool false,I 0] 219:=aR;have cG:=cf.ext aK;have ox:=aK.ND qX;have oy:b≠x:=by omega
    have gI:∀i,¬Qn.cp {P with A:=A2,V:=V2,D:=D',Fd:=Fd',l:=l',mi:=z,wr:=wr'} i b:=cf.m.new (by omega);have lb6:=aR.lt
    have zI:PX (SD l') no=none:=z1o λe=>lX (by
     unfold SD at e;rw[List.map_map] at e
     exact e)
    refine NF O$ py$ qN O$ Nz O$ qV ((Qr O)) ?_
    cases wt with
    | none =>
      refine NB$ NI O ?_;have mC:=cG.m.cells;dsimp only at mC;have eh:=z7q no cG.m.dev (k:=K) ⟨by have:=ep.ca;show D'.calls<=_;omega,by have:=ep.cc;show D'.cache.length<=_;omega,trivial,ep.Rb⟩ hK
      have KZ:D'.read no=({D' with reads:=IntKind.i64.wrap (D'.reads+1)},txt no,0):=by
       have hh:D'.has no=true:=by
        have:=ep.B;have:=hI.B;simp[Dev.has];omega
       unfold Dev.read;rw[if_neg (by rw[ep.down];simp),if_neg (by rw[hh];simp),ep.now no h0 h1 lX]
      dsimp only at eh;rw[KZ] at eh;dsimp only at eh;refine qN O$ NT O O$ O8 O$ NO Tw O$ qV (NJ U27 O O mC O)$ Nz O$ NZ zhh O (eh) ?_;rintro _ w7 ⟨rfl,sd⟩;obtain⟨Fd7,zJ,zK⟩:=cG.dev sd;have iy:Kp Fd' w6 w7:=sd.kpF;have bj:=iy.ND aR (gI 1);have un:=iy.ND ox (eZ 1);refine Nz O$ qV (Q8 (v:=S (txt no)) O O)$ qV (Q8 (v:=I 0) O O)$ O8 O$ NO Ut O$ NO z1S O$ NP O (PA ti9 O O O bj (by simp)) ?_;rintro w8 ⟨ck,aV⟩;replace ck:NM w8 b (pgC (txt no) false) 219:=ck
      have uo:∀i,¬Qn.cp {P with A:=A2,V:=V2,D:={D' with reads:=IntKind.i64.wrap (D'.reads+1)},Fd:=Fd7,l:=l',mi:=z,wr:=wr'} i b:=λi e=>by
       match i,e with
       |0,e=>exact gI 0 e
       | 1, e =>
         rcases zK b e with e| e
         ·exact gI 1 e
         ·omega
       |2,e=>exact gI 2 e
       |3,e=>exact gI 3 e
       |4,e=>exact gI 4 e
       |5,e=>exact gI 5 e
      have kH:∀i,¬Qn.cp {P with A:=A2,V:=V2,D:={D' with reads:=IntKind.i64.wrap (D'.reads+1)},Fd:=Fd7,l:=l',mi:=z,wr:=wr'} i x:=λi e=>by
       match i,e with
       |0,e=>exact eZ 0 e
       | 1, e =>
         rcases zK x e with e| e
         ·exact eZ 1 e
         ·have:=ox.lt;omega
       |2,e=>exact eZ 2 e
       |3,e=>exact eZ 3 e
       |4,e=>exact eZ 4 e
       |5,e=>exact eZ 5 e
      have fU:=zJ.loc aV (λj e=>by rw[show j=b from e];exact⟨.inr (by omega),uo⟩);have EG:=aV.ND un (λe=>oy e.symm);have zL:=fU.m.cells;dsimp only at zL;refine NQ O$ qM O$ Nz O$ P3 O O$ NB$ Of.qb (e:=[(0,_),(1,_),(3,_),(10,_),(13,_),(106,_)]) ?_;refine It O$ An$ qN O$ Nz O$ O8 O$ NO TE O$ qV (NJ VN O O zL O)$ NT O O$ NP O (ze3 (k:=no) (K:=KI) VN (QG U3) O O O fU.m.mp) ?_;rintro w9 ⟨qY,aS⟩;dsimp only at qY;rw[Tj _ _ _ zI] at qY;have i7:=fU.ins (g:=⟨no,b,txt no,false⟩) ⟨by dsimp only;omega,uo⟩ ck (by unfold SD at qY⊢;rw[List.map_append];exact qY) aS;have cB:=aS.ND ck (uo 4);have uq:=aS.ND EG (kH 4);refine qM O$ NT O O$ Pv O O (QH pK O O) (EA w9 b (txt no) false oy cB uq) ?_;rintro _ w10 ⟨rfl,sq,oz,au⟩;refine qM O$ NF O$ NA func110 O ?_
      have zH:∀i,¬Qn.cp {P with A:=A2,V:=V2,D:={D' with reads:=IntKind.i64.wrap (D'.reads+1)},Fd:=Fd7,l:=l'++[⟨no,b,txt no,false⟩],mi:=z,wr:=wr'} i x:=λi e2=>by
       match i,e2 with
       |0,e2=>exact kH 0 e2
       |1,e2=>exact kH 1 e2
       |2,e2=>exact kH 2 e2
       |3,e2=>exact kH 3 e2
       |4,e2=>exact kH 4 e2
       | 5, ⟨q, hq, e2⟩ =>
         rcases List.mem_append.1 hq with e3|e3
         ·exact kH 5 ⟨q,e3,e2⟩
         ·rw[List.mem_singleton.1 e3] at e2;exact oy e2
      exact⟨_,rfl,rfl,oz,_,i7.loc au (λj e=>⟨.inr (by rw[show j=x from e];exact j5),by rw[show j=x from e];exact zH⟩),hI.zeV h0 h1 EF mW (by rw[hT];exact ep) (by rw[hT]) O O O,⟨rfl,rfl,rfl,rfl,rfl,rfl,rfl,rfl,rfl⟩,zH⟩
    | some t =>
      refine NB$ It O ?_;have mC:=cG.m.cells;dsimp only at mC;refine An$ qN O$ Nz O$ O8 O$ NO TE O$ qV (NJ VN O O mC O)$ NT O O$ NP O (ze3 (k:=no) (K:=KI) VN (QG U3) O O O cG.m.mp) ?_;rintro w9 ⟨qY,aS⟩;dsimp only at qY;rw[Tj _ _ _ zI] at qY;have i7:=cG.ins (g:=⟨no,b,[],false⟩) ⟨by dsimp only;omega,gI⟩ aR (by unfold SD at qY⊢;rw[List.map_append];exact qY) aS;have cB:=aS.ND aR (gI 4);have uq:=aS.ND ox (eZ 4);refine qM O$ NT O O$ Pv O O (QH pK O O) (EA w9 b [] false oy cB uq) ?_;rintro _ w10 ⟨rfl,sq,oz,au⟩;refine qM O$ NF O$ NA func110 O ?_;have o9:=i7.zgZ (g:=⟨no,b,[],false⟩) (List.mem_append_right _ (List.mem_singleton.2 O)) sq au;refine⟨_,rfl,rfl,oz,_,o9,hI.zeV h0 h1 EF mW (by rw[hT];exact ep) (by rw[hT]) (ZO lX) O O,⟨rfl,rfl,rfl,rfl,rfl,rfl,rfl,rfl,rfl⟩,λi e2=>?_⟩
      match i,e2 with
      |0,e2=>exact eZ 0 e2
      |1,e2=>exact eZ 1 e2
      |2,e2=>exact eZ 2 e2
      |3,e2=>exact eZ 3 e2
      |4,e2=>exact eZ 4 e2
      | 5, ⟨q, hq, e2⟩ =>
        have e4:=ZO (b:=b) (t0:=[]) (t:=(some t).getD []) (d0:=false) (d:=(some t).isSome ||false) lX;have L0:q∈l'++[⟨no,b,(some t).getD [],(some t).isSome ||false⟩]:=by rw[<-e4];exact hq
        rcases List.mem_append.1 L0 with e3|e3
        ·exact eZ 5 ⟨q,e3,e2⟩
        ·rw[List.mem_singleton.1 e3] at e2;exact oy e2
   case iR=>
    cases g with
    | none =>
      refine It O$ An ?_
      exact(eC _ _ ⟨rfl,_,_,_,P.wr,bK,hI.zhE,qW,λj e=> .inl e⟩).qb
    | some gk =>
      obtain⟨L2,L3⟩:=gH.gone gk O
      obtain⟨q,hq,EC⟩:∃q∈P.l,q.k=gk:=by
       obtain⟨q,a,b⟩:=List.mem_map.1 ((hI.keys gk).2 L2);exact⟨q,a,b⟩
      subst EC;have dL:=bK.m.get hq;dsimp only at dL;have af:=Ext.NY w4;refine NI O$ py$ PK (λw'=>Ext w4 w') O$ NX 0 O O (af)$ NG 1 O (OQ O) af$ NG 2 O (Og TE O) af$ qT 3 O (λ_ h=>(NJ VN O O (h.ND iT) O)) af$ NG 4 O (Og z1J O) af$ qT 5 O (λ_ h=>(NJ U3 O O (h.ND ju) O)) af$ qT 6 O (λ_ h=>ylk (k:=q.k) (K:=KI) VN (QG U3) z9k O O (bK.m.ext' h).mp.l) af ?_;dsimp only;rw[dL];refine NG 7 O (PO O) af$ qE$ Of.qb (e:=[(0,_),(1,_),(2,_),(3,_),(8,_),(9,_),(10,_),(11,_)]) ?_;refine py ?_;have cw:=Ext.NY w4.drew;have oA:=af.ND iT;have jo:=af.ND ju;have cf:=bK.ext (af.trans cw);refine O3 [6] (λw'=>Ext w4.drew w') (by kernel_rfl) O$ qL [1,2,3,6] 0 O (λ_ h=>Oq O) cw$ qL [2,3,6] 1 O (λ_ h=>OQ O) cw$ qL [3,6] 2 O (λ_ h=>Og TE O) cw$ qL [6] 3 O (λ_ h=>(NJ VN O O (h.ND oA) O)) cw$ qL [5,6] 4 O (λ_ h=>Og z1J O) cw$ qL [6] 5 O (λ_ h=>(NJ U3 O O (h.ND jo) O)) cw$ Rs [6]$ qO 6$ z9f (i:=6) O O (zdU (k:=q.k) (K:=KI) VN (QG U3) O O cf.m.mp O) ?_;rintro _ w6 ⟨EH,aP⟩;refine⟨trivial,?_⟩;dsimp only at EH;rw[z1h] at EH;have cG:=cf.del (Ry P.l q.k) EH aP;have EI:NM w4 q.b (pgC q.t q.d) 219:=bK.m.pg q hq;have zM:q.b≠P.pm:=λe=>bK.m.UA 5 4 (by decide) q.b ⟨q,hq,rfl⟩ e;have tq:=aP.ND ((af.trans cw).ND EI) zM
      have gI:∀i,¬Qn.cp {P with A:=A2,V:=V2,h:=P.h,mi:=z,wr:=P.wr,l:=Rj P.l q.k} i q.b:=λi e=>by
       match i,e with
       |0,e=>exact bK.m.UA 5 0 (by decide) q.b ⟨q,hq,rfl⟩ e
       |1,e=>exact bK.m.UA 5 1 (by decide) q.b ⟨q,hq,rfl⟩ e
       |2,e=>exact bK.m.UA 5 2 (by decide) q.b ⟨q,hq,rfl⟩ e
       |3,e=>exact bK.m.UA 5 3 (by decide) q.b ⟨q,hq,rfl⟩ e
       |4,e=>exact zM e
       | 5, ⟨q2, fO, e⟩ =>
         have e2:q2=q:=Rl bK.m.pnd ((Ry P.l q.k).subset fO) hq e;have:=((z0k hI.nd q.k q2.k).1 (List.mem_map.2 ⟨q2,fO,rfl⟩)).2;exact this (by rw[e2])
      have qZ:=hI.rng q hq;have EE:=hI.tx q hq;have yi:q.t.length=512:=by rw[EE];exact hI.len q.k qZ.1 qZ.2
      have ox:=aP.ND ((af.trans cw).ND qW) (eY 4);have mC:=cG.m.cells;have EJ:=aP.ND ((af.trans cw).ND ju) (zF 4);have z46:=(af.trans cw).size;have z56:=aP.size;refine qE$ qN O$ Nz O$ NO z1J O$ qV (NJ U3 O O EJ O)$ Nz O$ NZ zet O (z41 cG.m hI.zd9 hI.down hI.due hI.B hI.N hK qZ.1 qZ.2 yi tq gI) ?_;rintro _ w7 ⟨rfl,Fd7,wr7,gG,ax,zK⟩;have zJ:=cG.write gG ax zK (bK.fp q.b ⟨5,q,hq,rfl⟩);have pF:q.b≠x:=λe=>eK 5 ⟨q,hq,e⟩
      have un:=ax.ND ox (λe=>by
       rcases e with e|e| e
       ·exact pF e.symm
       ·exact eK 0 e
       ·exact eK 1 e)
      refine NQ O$ qM O$ Nz O$ P3 O O$ NB$ It O$ An ?_;exact(eC _ _ ⟨rfl,_,Fd7,_,wr7,zJ,hI.zeG hq,un,λj e=>(zK j e).imp id λe=>⟨by omega,by omega⟩⟩).qb
end
end Go.Proofs.YtfgjaafcgghnoaaGreatDoor
