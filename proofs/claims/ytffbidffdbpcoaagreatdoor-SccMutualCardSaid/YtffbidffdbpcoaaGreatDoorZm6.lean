/- Merged by program. -/
import Derived.Test.YtffbidffdbpcoaaGreatDoorZm5
set_option linter.all false
set_option maxRecDepth 1000000
set_option maxHeartbeats 16000000
namespace Go.Proofs.YtffbidffdbpcoaaGreatDoor
open Go Go.RowKit Go.Proofs.Tryz
def z8O (v:Value)(l:List Int)(x:Int)(w:World)(hl:l.length<=17592186044416)(hr:Rd w v 1 l.length (l.map I)):
  Pm prog 190 [v,I x] w λu w'=>(∃k,u=I k/\(0<=k↔x∈l))/\w'=w:=by
 obtain⟨a,cap,rfl,ha⟩:=hr.shape
 refine py (e:=[(0,_),(1,_)]) func190 O ntmps190 O O$ Qx O$ PK O$ Rs R0 O$ ON O$ OC$ OE$ Rr (α:=Nat) (0) (λi=>[(0,.slice a l.length cap),(1,I x),(7,I (l.length:Int)),(8,I (i:Int))]) (λi w'=>w'=w/\i<=l.length/\∀j,j<i->l[j]?≠some x) (λi=>l.length-i) ?hI ?hround
 case hI=>exact⟨rfl,by omega,by omega⟩
 case hround =>
  rintro i _ ⟨rfl,hi,dg⟩ ih
  try dsimp only
  refine qN O$ Qw O$ OC$ An$ OQ O (λaS=>?_)$ λaS=>?_
  ·have gn:i<l.length:=by omega
   rcases hr.2 with⟨c,-,h⟩|⟨b,off,cap',mm,bj⟩
   ·omega
   cases mm;refine OD$ QA$ Pn O$ QS O$ Pa O$ ON O$ qV (PR R0 PV O O (by omega))$ qV (Ps U3 O O (bj (i*1) (I l[i]) (by simp[gn]))) ?_;refine Rg O$ OC$ OQ O (λeh=>?_)$ λeh=>?_
   ·refine Pn O$ OV O$ OB func190 O (⟨_,rfl,⟨(i:Int),rfl,?_⟩,rfl⟩);constructor
    ·intro _;rw[eh];exact List.getElem_mem gn
    ·intro _;omega
   ·refine OD$ Oz$ OK O$ PS O$ ON O$ OC ?_
    exact(ih (i+1) _ ⟨rfl,by omega,λj hj=>by
     rcases Nat.lt_or_ge j i with h| h
     ·exact dg j h
     ·have:j=i:=by omega
      subst this;rw[List.getElem?_eq_getElem gn]
      exact λh=>eh (Rx h).symm⟩ (by omega)).qb
  ·refine OO O$ Qx O$ OB func190 O (⟨_,rfl,⟨-1,rfl,?_⟩,rfl⟩);constructor
   ·intro h;omega
   ·intro h;obtain⟨j,hj,e⟩:=List.getElem_of_mem h;exact absurd (by rw[List.getElem?_eq_getElem hj,e]) (dg j (by omega))
def z3c (v:Value)(l:List Int)(x:Int)(w:World)(hl:l.length<=17592186044416)(hr:Rd w v 1 l.length (l.map I)):
  Pm prog 217 [v,I x] w λu w'=>u= .bool (decide (x∈l))/\w'=w:=by
 refine py (e:=[(0,_),(1,_)]) func217 O ntmps217 O O$ qN O$ QS O$ Pa O$ P5 zeR O (z8O v l x w hl hr) ?_
 rintro _ w1 ⟨⟨k,rfl,hk⟩,rfl⟩
 refine U8 O$ OV O$ OB func217 O (⟨_,rfl,?_,rfl⟩)
 simp only[PX,hk]
theorem z6L (c x:OI)(rest:List Value)(i:Nat)(h:i+x.length<=c.length):QH (c.map Tu++rest) i (x.map Tu)=(z9n c i x).map Tu++rest:=by
 unfold QH z9n
 rw[List.take_append_of_le_length (by simp;omega),List.drop_append_of_le_length (by simp;omega)]
 simp
theorem Zn {D:Dev}{l:List Int}{tn:Int}{mk:UInt8}{i:Nat}{x:Int×OI}(hx:D.cache[i]? =some x):D.fallTo l tn mk (i+1)=
  if(i:Int)=tn then Z5 (D.fallTo l tn mk i) x.1 (mixN mk (((D.fallTo l tn mk i) x.1).getD (zeros (512*D.N))) x.2 D.N)
   else if(i:Int)∈l then Z5 (D.fallTo l tn mk i) x.1 x.2 else D.fallTo l tn mk i:=by
 simp only[Dev.fallTo,hx]
def zbK {w:World}{p m:Nat}{kp ca cv:Value}{D:Dev}(h:RX w p m kp ca D)(l:List Int)(tn:Int)(mk:UInt8)(hl:l.length<=17592186044416)(hr:Rd w cv 1 l.length (l.map I))(ft:D.cache.length<2000000000000):
  Pm prog 199 [ptr p 0,.agg #[cv,I tn,Tu mk]] w λv w'=>v= .tuple #[]/\RX w' p m (.slice none 0 0) (.slice none 0 0) (D.zbI l tn mk)/\Kp (λk=>k=p\/k=m) w w':=by
 have aI:=h.ok.len
 have hN:=h.ok.hN
 have LO:=mk.toNat_lt
 have LP:=h.pm
 have Fi:=h.lt m (.inr (.inl O))
 have IC:∀{w':World},Ext w w'->w.heap.size<=w'.heap.size:=λh=>h.size
 obtain⟨a,cap,rfl,ha⟩:=h.cache.rd.shape
 obtain⟨ac,capc,rfl,O6⟩:=hr.shape
 refine py (e:=[(0,_),(1,_)]) func199 O ntmps199 O O$ qN O$ OJ O O (R4 O O) ?_
 rintro _ w1 ⟨b3,rfl,dG,ad,ar⟩
 have h0:=h.ext ad
 have et:=ad.size
 replace hr:=hr.ext ad
 have Ff:=ar.lt
 have hM:=h0.OA
 refine OC$ PK O$ Pq O$ OW Yn O$ qV (OM z1w O O hM O)$ Rs z1w O$ ON O$ OC$ OE$ Rr (α:=Nat) (0) (λi=>[(0,ptr p 0),(3,ptr b3 0),(11,.slice a D.cache.length cap),(12,I (D.cache.length:Int)),(13,I (i:Int))]) (λi wi=>i<=D.cache.length/\RX wi p m kp (.slice a D.cache.length cap) {D with sf:=D.fallTo l tn mk i}/\Rd wi (.slice ac l.length capc) 1 l.length (l.map I)/\OP wi b3 [.slice ac l.length capc,I tn,Tu mk] 99/\Kp (λk=>k=m) w1 wi) (λi=>D.cache.length-i) ?hI ?hround
 case hI=>exact⟨by omega,h0,hr,ar,Kp.refl _ _⟩
 case hround =>
  rintro i wi ⟨hi,hd,mJ,gJ,tF⟩ ih
  try dsimp only
  have LQ:=tF.size;refine qN O$ Qw O$ OC$ An$ OQ O (λaS=>?_)$ λaS=>?_
  ·have gn : i < D.cache.length := by omega
   have oF:=hd.cache;rcases oF.shape with⟨-,h⟩|⟨gb,cap',mm,kl⟩
   ·exact absurd h (by show ¬D.cache.length=0;omega)
   cases mm;obtain⟨x,hx⟩:∃x,D.cache[i]? =some x:=⟨_,List.getElem?_eq_getElem gn⟩;have HH:D.cache[i]=x:=by rw[List.getElem?_eq_getElem gn] at hx;exact Rx hx
   have ge:((wrs D.cache).drop (i*2)).take 2=wr x:=by rw[z7J _ _ gn,HH]
   have iU:=hd.ok.cache x (List.mem_of_getElem? hx);simp only at iU;have lQ:=oF.part ge;refine OD$ QA$ Pn O$ qV (PR z1w WB O O (by omega))$ qV (Pp ziI O WB O lQ O)$ OJ O O (Ry (cs:=[_,_]) WB O) ?_;rintro _ w2 ⟨b5,rfl,gR,ae,aH⟩;refine SA O$ OT O (PG WB O O O O aH (by simp)) ?_;rintro w3 ⟨eK,av⟩;replace eK:OP w3 b5 [I x.1,S x.2] 313:=eK;have ah:Ext wi w3:=ae.It av (λj hj=>by omega);have LR:=eK.lt;replace hd:=hd.ext ah;have iH:=hd.lt;replace mJ:=mJ.ext ah;have rx:=mJ;replace gJ:=ah.OA gJ;have lZ:=gJ.lt;have ct:Kp (λk=>k=m) w1 w3:=tF.trans ah.kp;have LS:=ah.size;have ID:¬b3=b5:=by have:=ae.size;have:=gJ;omega
   refine OC$ OE$ Pn O$ OW zfF O$ qV ((OM U3 O O gJ O))$ Rg O$ OV O$ OQ O (λry=>?_)$ λry=>?_
   ·refine Pn O$ OW z0C O$ qV ((OM U3 O O eK O))$ P5 zen O (z4r x.1 hd) ?_;rintro _ w4 ⟨rfl,aA⟩;obtain⟨k0,fY⟩:∃k0,Dev.kept {D with sf:=D.fallTo l tn mk i} x.1=k0:=⟨_,rfl⟩;have zQ:k0.length=512*D.N:=by rw[<-fY];exact hd.ok.kept x.1
    rw[fY];refine OJ O O (zco U9 SG U5 O) ?_;rintro _ w5 ⟨bb,capb,rest,rfl,⟨wh,aU,wR⟩,IE⟩;have dM:=aA.trans aU;replace hd:=hd.ext dM;replace mJ:=mJ.ext dM;replace gJ:=dM.OA gJ;replace eK:=dM.OA eK;have LU:=wR.lt;have wS:=hd.OA;have IF:=dM.size;have LV:=aA.size;have LW:=hd.OA.lt;refine OV O$ PK O$ Pq O$ OW z0r O$ OW Zi O$ qV (OM U3 O O wS O)$ ON O$ OC$ OE$ Rr (α:=Nat) (0) (λs=>[(0,ptr p 0),(3,ptr b3 0),(5,ptr b5 0),(6,.slice (some ⟨bb,0,none⟩) k0.length capb),(11,.slice (some ⟨gb,0,none⟩) D.cache.length cap),(12,I (D.cache.length:Int)),(13,I (i:Int)),(32,I (D.N:Int)),(33,I (s:Int))]) (λs ws=>s<=D.N/\OP ws bb ((mixN mk k0 x.2 s).map Tu++rest) 5/\Kp (λk=>k=bb) w5 ws) (λs=>D.N-s) ?hI ?hround
    case hI=>exact⟨by omega,wR,Kp.refl _ _⟩
    case hround=>
     rintro s ws ⟨hs,kV,dP⟩ ihs
     try dsimp only
     have zR:=dP.OA gJ (by omega);have zS:=dP.OA eK (by omega);have fh:=Wr mk k0 x.2 D.N zQ iU.2.2 s hs;refine qN O$ Qw O$ OC$ An$ OQ O (λip=>?_)$ λip=>?_
     ·have LX:s<D.N:=by omega
      obtain⟨q,hq⟩:∃q,mk.toNat / 2^s=q:=⟨_,rfl⟩;have O7:q<256:=by rw[<-hq];exact Nat.lt_of_le_of_lt (Nat.div_le_self _ _) LO
      refine OD$ QA$ Pn O$ QS O$ OW zfh O$ qV (OM U5 O O zR O)$ ON O$ qV (Uw s (2^s) O O (by simp only[IntKind.bits];omega) O) ?_;rw[hq];refine qV (zkx O O (by omega) (by omega)) ?_;rw[Nat.and_one_is_mod];refine Rg O$ OC$ OQ O (λou=>?_)$ λou=>?_
      ·have oG:q%2=1:=by omega
       refine QV (λw'=>Kp (λk=>k=bb) ws w') O$ OZ 0 O O ((Kp.refl _ ws).drew)$ OZ 1 O O ((Kp.refl _ ws).drew)$ OG 2 O (Yb O O (by omega)) ((Kp.refl _ ws).drew)$ OZ 3 O O ((Kp.refl _ ws).drew)$ OG 4 O (UO O O (by omega)) ((Kp.refl _ ws).drew)$ OG 5 O (Yb O O (by omega)) ((Kp.refl _ ws).drew)$ OG 7 O (Pr z2W O) ((Kp.refl _ ws).drew)$ qT 8 O (λ_ h=>OM U9 O O (h.OA zS (by omega)) O) ((Kp.refl _ ws).drew)$ OZ 9 O O ((Kp.refl _ ws).drew)$ OG 10 O (Yb O O (by omega)) ((Kp.refl _ ws).drew)$ OG 11 O (z0T U9 O O (by omega)) ((Kp.refl _ ws).drew)$ OG 6 O (zfq (i:=s*512) (j:=(s+1)*512) SG Ye O O O (by omega) (by omega)) ((Kp.refl _ ws).drew)$ qO 12 ?_;refine XJ (i:=12) O O O (zjO SG Ye O O ((Ext.P4 ws).OA kV) (by simp[fh];omega)) ?_;rintro _ w6 ⟨rfl,aT,aM⟩;refine⟨(Kp.refl _ ws).drew.trans aM,?_⟩
       have e6:((x.2.drop (s*512)).take ((s+1)*512-s*512)).map Tu=((x.2.drop (512*s)).take 512).map Tu:=by
        rw[show(s+1)*512-s*512=512 by omega,Nat.mul_comm]
       rw[e6,show 0+s*512*1=512*s by omega,z6L _ _ _ _ (by simp[fh,iU.2.2];omega)] at aT
       have em:mixN mk k0 x.2 (s+1)=z9n (mixN mk k0 x.2 s) (512*s) ((x.2.drop (512*s)).take 512):=by
        simp only[mixN,hq,oG,if_true]
       rw[<-em] at aT;refine qE$ Oz$ OK O$ PS O$ ON O$ OC ?_;exact(ihs (s+1) w6 ⟨by omega,aT,dP.trans ((Kp.refl _ ws).drew.trans aM)⟩ (by omega)).qb
      ·have oG:¬q%2=1:=by omega
       have em:mixN mk k0 x.2 (s+1)=mixN mk k0 x.2 s:=by simp only[mixN,hq,oG,if_false]
       rw[<-em] at kV;refine OD$ Oz$ OK O$ PS O$ ON O$ OC ?_;exact(ihs (s+1) ws ⟨by omega,kV,dP⟩ (by omega)).qb
     ·have Dv:s=D.N:=by omega
      subst Dv;have zT:=hd.kp dP λk hk aY=>by have:=iH k hk;omega
      obtain⟨kv,oE,nW⟩:=zT.map;have LY:=zT.OA;have IG:Ext w3 ws:=dM.It dP (λj hj=>by omega);have uU:=rx.ext IG;refine OO O$ QV (λw'=>Kp (λk=>k=m) ws w') O$ OZ 0 O O ((Kp.refl _ ws).drew)$ OG 1 O (Q8 O) ((Kp.refl _ ws).drew)$ OG 2 O (Pr z3E O) ((Kp.refl _ ws).drew)$ qT 3 O (λ_ h=>(OM U97 O O (h.OA LY zT.pm) O)) ((Kp.refl _ ws).drew)$ OG 4 O (Pr z0C O) ((Kp.refl _ ws).drew)$ qT 5 O (λ_ hS=>(OM U3 O O (hS.OA zS (by omega)) O)) ((Kp.refl _ ws).drew)$ OZ 6 O O ((Kp.refl _ ws).drew)$ qT 7 O (λ_ h=>z9m (l:=mixN mk k0 x.2 D.N) SG U5 U9 O (h.OA kV (by omega)) (z5a _ _ _ (by omega)) (by omega)) ((Kp.refl _ ws).drew)$ qO 8$ PE (i:=8) O O (zmu (k:=x.1) (K:=KI) U97 (S5 U3) O O O (Ext.map (Ext.P4 ws) oE)) ?_;rintro w7 ⟨gK,aB⟩;refine⟨(Kp.refl _ ws).drew.trans aB,?_⟩;have eY:=(Kp.refl (λi=>i=m) ws).drew.trans aB;have sK:=zT.put nW gK eY (zT.ok.put ⟨iU.1,iU.2.1⟩ (Wr mk k0 x.2 D.N zQ iU.2.2 D.N (Nat.le_refl _)))
      have ef:Z5 (D.fallTo l tn mk i) x.1 (mixN mk k0 x.2 D.N)=D.fallTo l tn mk (i+1):=by
       rw[Zn hx,if_pos ry,<-fY];rfl
      simp only[ef] at sK;refine qE$ Oz$ Oz$ OK O$ PS O$ ON O$ OC ?_;exact(ih (i+1) w7 ⟨by omega,sK,uU.kpm oE eY,eY.OA zR (by omega),ct.trans (IG.kp.trans eY)⟩ (by omega)).qb
   ·have Fj:=hd.OA;refine qN O$ OW zfG O$ qV ((OM R0 O O gJ O))$ ON O$ P5 zj0 O (z3c (.slice ac l.length capc) l (i:Int) w3 hl rx) ?_;rintro _ w4 ⟨rfl,rfl⟩;refine OV O$ OQ O (λao=>?_)$ λao=>?_
    ·obtain⟨kv,oE,nW⟩:=hd.map;refine QV (λw'=>Kp (λk=>k=m) w4 w') O$ OZ 0 O O ((Kp.refl _ w4).drew)$ OG 1 O (Q8 O) ((Kp.refl _ w4).drew)$ OG 2 O (Pr z3E O) ((Kp.refl _ w4).drew)$ qT 3 O (λ_ h=>(OM U97 O O (h.OA Fj hd.pm) O)) ((Kp.refl _ w4).drew)$ OG 4 O (Pr z0C O) ((Kp.refl _ w4).drew)$ qT 5 O (λ_ hS=>(OM U3 O O (hS.OA eK (by omega)) O)) ((Kp.refl _ w4).drew)$ OG 6 O (Pr z2W O) ((Kp.refl _ w4).drew)$ qT 7 O (λ_ hS=>(OM U9 O O (hS.OA eK (by omega)) O)) ((Kp.refl _ w4).drew)$ qO 8$ PE (i:=8) O O (zmu (k:=x.1) (K:=KI) U97 (S5 U3) O O O (Ext.map (Ext.P4 w4) oE)) ?_;rintro w7 ⟨gK,aB⟩;refine⟨(Kp.refl _ w4).drew.trans aB,?_⟩;have eY:=(Kp.refl (λi=>i=m) w4).drew.trans aB;have sK:=hd.put nW gK eY (hd.ok.put ⟨iU.1,iU.2.1⟩ iU.2.2)
     have ef:Z5 (D.fallTo l tn mk i) x.1 x.2=D.fallTo l tn mk (i+1):=by
      rw[Zn hx,if_neg ry,if_pos ao]
     simp only[ef] at sK;refine qE$ Oz$ Oz$ OK O$ PS O$ ON O$ OC ?_;exact(ih (i+1) w7 ⟨by omega,sK,rx.kpm oE eY,eY.OA gJ (by omega),ct.trans eY⟩ (by omega)).qb
    ·have ef:D.fallTo l tn mk i=D.fallTo l tn mk (i+1):=by
      rw[Zn hx,if_neg ry,if_neg ao]
     rw[ef] at hd;refine OD$ Oz$ Oz$ OK O$ PS O$ ON O$ OC ?_;exact(ih (i+1) w4 ⟨by omega,hd,rx,gJ,ct⟩ (by omega)).qb
  ·have ao:i=D.cache.length:=by omega
   subst ao;have Fj:=hd.OA;refine OO O$ Pn O$ Pq O$ OW Yn O$ OT O (QG z83 O O O Fj (by simp)) ?_;rintro w5 ⟨aH,aj⟩;refine qM O$ ON O$ qV (Sa (cs:=[_,_,_,_]) z7P O zjd O O)$ Pq O$ OW Xd O$ OT O (PG z7P O O O O aH (by simp)) ?_;rintro w6 ⟨aT,aM⟩;replace aT:OP w6 p [I 0,.slice none 0 0,I 0,Tu 0,I (D.B:Int),I (D.N:Int),.map (some m),.slice none 0 0,.bool D.down,I D.calls,I D.reads] 104:=aT;refine OC$ R6 O$ Pq O$ OW z3w O$ OT O (QG UH O O O aT (by simp)) ?_;rintro w7 ⟨bO,aB⟩;refine OC$ Qa func199 O ?_;have zU:=(aj.trans aM).trans aB;obtain⟨kv,oE,nW⟩:=hd.map;refine⟨_,rfl,rfl,⟨bO,⟨kv,zU.map oE λe=>hd.pm e.symm,nW⟩,Sl.nil w7 _ _,Sl.nil w7 _ _,?_⟩,?_⟩
   ·exact⟨hd.ok.hB,hd.ok.hN,by simp[Dev.zbI],hd.ok.sf,λx hx=>by simp[Dev.zbI] at hx,by have:=aI;simp[Dev.zbI];omega,hd.ok.reads⟩
   ·exact((Ext.kp ad).trans (tF.OH λ_ h=> .inr h)).trans (zU.OH λ_ h=> .inl h)
def Dev.push (D:Dev)(n:Int)(s:OI):Dev:={D with cache:=D.cache++[(n,s)]}
def zb7 {P:Program}{e:Env}{d:Option Nat}{ty t t':TypeId}{pos:String}{aft:Array Edge}{g:Option (Nat×Bool)}{x y:Operand}{w:World}{a b:Int}(hx:look e x=some (I a))(hy:look e y=some (I b)):Y P e ⟨d,.binOp .add t x y t',ty,pos,aft,g⟩ (I (IntKind.i64.wrap (a+b))) w w:=fun ρ hρ=>by simp[execOp,go_sem,hρ _ _ hx,hρ _ _ hy]
def Dev.zew (D:Dev):Dev:=D.zbI D.Sj D.zdk D.mask
def Dev.write (D:Dev)(n:Int)(s:OI):Dev×Int:=
 if D.down then(D,8)
 else if D.has n=false\/s.length≠512*D.N then(D,1)
 else if D.due=1 then(((D.push n s).count).zew,8) else((D.push n s).count,0)
def Dev.read (D:Dev)(n:Int):Dev×OI×Int:=
 if D.down then(D,[],8) else if D.has n=false then(D,[],1) else({D with reads:=IntKind.i64.wrap (D.reads+1)},D.now n,0)
def z0N (w:World)(p m:Nat)(kp ca:Value)(D':Dev)(w':World):Prop:=∃kp' ca',RX w' p m kp' ca' D'/\Upd (fpD p m kp ca) (fpD p m kp' ca') w w'
theorem z0N.same {w w':World}{p m:Nat}{kp ca:Value}{D:Dev}(h:RX w' p m kp ca D)(k:Ext w w'):z0N w p m kp ca D w':=⟨kp,ca,h,k.Z5⟩
def zbG {w w':World}{p m:Nat}{kp ca:Value}(k:Kp (λi=>i=p\/i=m) w w'):Upd (fpD p m kp ca) (fpD p m (.slice none 0 0) (.slice none 0 0)) w w':=
 ⟨k.OH λi hi=>hi.elim .inl λh=> .inr (.inl h),λi hi=>by
  rcases hi with h|h|h| h
  ·exact .inl (.inl h)
  ·exact .inl (.inr (.inl h))
  ·cases h
  ·cases h⟩
section
variable {w:World}{p m:Nat}{kp ca:Value}{D:Dev}
def zaJ (n:Int)(h:RX w p m kp ca D)(hc:D.Bd):
  Pm prog 145 [ptr p 0,I n] w λv w'=>v= .tuple #[S (D.read n).2.1,I (D.read n).2.2]/\z0N w p m kp ca (D.read n).1 w':=by
 refine py (e:=[(0,_),(1,_)]) func145 O ntmps145 O O$ qN O$ Qm O$ PK O$ P5 ze3 O (z2n h) ?_
 rintro _ w1 ⟨rfl,rfl⟩
 cases hd:D.down with
 | true =>
   refine QW O$ QE O$ OC$ OQ O (λhz=>?_)$ λhz=>?_
   ·refine Pn O$ Qm O$ OB func145 O ?_;have e:D.read n=(D,[],8):=by simp[Dev.read,hd]
    rw[e];exact⟨_,rfl,rfl,z0N.same h (Ext.refl _)⟩
   ·exact absurd (by decide) hz
 | false =>
   refine QW O$ QE O$ OC$ OQ O (λhz=>?_)$ λhz=>?_
   ·exact absurd hz (by decide)
   ·refine OD$ An$ Qt O$ P5 zet O (z8i n h) ?_;rintro _ w2 ⟨rfl,rfl⟩
    cases hh:D.has n with
    | false =>
      refine qV ((RZ O))$ OC$ OS O$ qN O$ Qm O$ OB func145 O ?_;have e:D.read n=(D,[],1):=by simp[Dev.read,hd,hh]
      rw[e]
      exact⟨_,rfl,rfl,z0N.same h (Ext.refl _)⟩
    | true =>
      refine qV ((RZ O))$ OC$ OL O ?_;have hM:=h.OA;refine OD$ Pn O$ Pq O$ OW z8g O$ qV (OM U3 O O hM O)$ qV (zb7 O O)$ Pq O$ OW z8g O$ OT O (QG PV O O O hM (by simp)) ?_;rintro w3 ⟨wT,av⟩;have h3:=h.turn (D':={D with reads:=IntKind.i64.wrap (D.reads+1)}) wT av O O O O ⟨h.ok.hB,h.ok.hN,h.ok.due,h.ok.sf,h.ok.cache,h.ok.len,trivial⟩;refine qM O$ Pa O$ P5 zgI O (zdi n h3 hc.2.1) ?_;rintro _ w4 ⟨rfl,aA⟩;refine Qm O$ OB func145 O ?_;have e:D.read n=({D with reads:=IntKind.i64.wrap (D.reads+1)},D.now n,0):=by simp[Dev.read,hd,hh]
      rw[e];exact⟨_,rfl,rfl,kp,ca,h3.ext aA,(av.OH λ_ h=> .inl h).trans aA.kp,λ_ h=> .inl h⟩
def z9S (n:Int)(s:OI)(h:RX w p m kp ca D)(hc:D.Bd)(hk:D.Sj.length<=17592186044416):
  Pm prog 177 [ptr p 0,I n,S s] w λv w'=>v=I (D.write n s).2/\z0N w p m kp ca (D.write n s).1 w':=by
 have fh:maxLen=9223372036854775807:=rfl
 obtain⟨fx,ft,nz⟩:=hc
 have LZ:=h.ok.len
 refine py (e:=[(0,_),(1,_),(2,_)]) func177 O ntmps177 O O$ Qx O$ PK O$ P5 ze3 O (z2n h) ?_
 rintro _ w1 ⟨rfl,rfl⟩
 cases hd:D.down with
 | true =>
   refine QW O$ QE O$ OC$ OQ O (λhz=>?_)$ λhz=>?_
   ·refine Pn O$ OV O$ OB func177 O ?_;have e:D.write n s=(D,8):=by simp[Dev.write,hd]
    rw[e];exact⟨_,rfl,rfl,z0N.same h (Ext.refl _)⟩
   ·exact absurd (by decide) hz
 | false =>
   refine QW O$ QE O$ OC$ OQ O (λhz=>?_)$ λhz=>?_
   ·exact absurd hz (by decide)
   ·refine OD$ An$ Qt O$ P5 zet O (z8i n h) ?_;rintro _ w2 ⟨rfl,rfl⟩
    cases hh:D.has n with
    | false =>
      refine qV ((RZ O))$ ON O$ QL$ QL$ qS$ QX O$ OC$ OS O$ Qx O$ OB func177 O ?_;have e:D.write n s=(D,1):=by simp[Dev.write,hd,hh]
      rw[e]
      exact⟨_,rfl,rfl,z0N.same h (Ext.refl _)⟩
    | true =>
      have hn:0<=n/\n<(D.B:Int):=by simpa[Dev.has] using hh
      refine qV ((RZ O))$ Pa O$ qV (Wg U9 O)$ ON O$ P5 zfQ O (z0Y h) ?_;rintro _ w3 ⟨rfl,rfl⟩;refine QE O$ PM O$ OC$ OQ O (λcD=>?_)$ λcD=>?_
      ·refine Qx O$ OB func177 O ?_
       have e:D.write n s=(D,1):=by
        have:s.length≠512*D.N:=by omega
        simp[Dev.write,hd,hh,this]
       rw[e];exact⟨_,rfl,rfl,z0N.same h (Ext.refl _)⟩
      ·have fU:s.length=512*D.N:=by omega
       obtain⟨a,cap,rfl,ha⟩:=h.cache.rd.shape;have hM:=h.OA;refine OD$ Qt O$ Pq O$ OW Yn O$ qV (OM z1w O O hM O)$ Pa O$ qV (Sa (cs:=[_,_]) WB O zi7 O O)$ OJ O O (XZ (cs:=[_,_]) (zs:=[Value.int .i64 0,Value.string ⟨#[]⟩]) z1w WB O (by kernel_rfl) O O O (by decide)) ?_;rintro _ w4 ⟨b4,rfl,⟨fZ,aA,aK⟩,eg⟩;have m7:=h.cache.ext aA;refine OJ O O (pap z1w WB O (by decide) O O m7 eg.rd (by intro c hc;simp at hc;rcases hc with rfl|rfl<;>rfl) (by omega) (by omega)) ?_;rintro v' w5 ⟨gh,aj,sL,-⟩;have EP:oneV v'=true:=by rcases gh.shape with⟨rfl,-⟩|⟨g,cap,rfl,-⟩<;>rfl
       have h4:=h.ext aA
       have md:∀g,(Value.slice a D.cache.length cap).ownBlock=some g->¬g=p:=λg hg ru=>by
        obtain⟨xs,fz',hx⟩:=Tp h4.cache hg;obtain⟨fz,hb,-⟩:=h4.OA;rw[ru,hb] at hx;cases hx
       have wS:=aj.OA h4.OA (λhg=>md p hg O);refine Pq O$ OW Yn O$ OT O (QG z83 O O EP wS (by simp)) ?_;rintro w6 ⟨aT,aM⟩;have gQ:=h.OA.lt
       have h6:RX w6 p m kp v' (D.push n s):=by
        refine⟨aT,?_,?_,?_,?_⟩
        ·obtain⟨kv,oE,nW⟩:=h4.map;exact⟨kv,aM.map (aj.map oE λhg=>(h4.zh6 hg).2.1 O) λe=>h4.pm e.symm,nW⟩
        ·have e:wrs (D.push n s).cache=wrs D.cache++[I n,S s]:=by simp[Dev.push,wrs,wr]
         have e2:(D.push n s).cache.length=D.cache.length+1:=by simp[Dev.push]
         rw[e,e2];refine gh.kp aM λg hg=>?_;rcases sL g hg with h'|h'
         ·exact(h4.zh6 h').1
         ·have:=aA.size;omega
        ·refine(h4.Sj.kp aj λg hg hc=>(h4.zhJ hg).2.2 hc).kp aM λg hg=>(h4.zhJ hg).1
        ·refine⟨h.ok.hB,h.ok.hN,h.ok.due,h.ok.sf,λx hx=>?_,h.ok.len,h.ok.reads⟩;simp only[Dev.push,List.mem_append,List.mem_singleton] at hx;rcases hx with hx|rfl
         ·exact h.ok.cache x hx
         ·exact⟨hn.1,hn.2,fU⟩
       refine OC$ Po.qb (e:=[(0,_),(6,_)]) ?_;refine PK O$ P5 zja O (z3N h6 fx) ?_;rintro _ w7 ⟨rfl,h7,aB⟩
       have hu:Upd (fpD p m kp (.slice a D.cache.length cap)) (fpD p m kp v') w3 w7:=by
        refine⟨(aA.kp.trans (aj.OH λi hi=> .inr (.inr (.inl hi)))).trans ((aM.OH λi hi=> .inl hi).trans (aB.OH λi hi=> .inl hi)),λi hi=>?_⟩;rcases hi with h'|h'|h'|h'
        ·exact .inl (.inl h')
        ·exact .inl (.inr (.inl h'))
        ·rcases sL i h' with IH|IH
         ·exact .inl (.inr (.inr (.inl IH)))
         ·have:=aA.size;exact .inr (by omega)
        ·exact .inl (.inr (.inr (.inr h')))
       refine OC$ OQ O (λrv=>?_)$ λrv=>?_
       ·have M0:=h7.OA;refine Qt O$ Pq O$ OW Xd O$ OW zcV O$ qV (Pp U99 O zfz O (OP.cells (n:=3) M0 (news:=[_,_,_]) O) O)$ P5 zjE O (zbK h7 D.Sj D.zdk D.mask hk (h7.Sj.rd) (by show(D.cache++[(n,s)]).length<2000000000000;simp;omega)) ?_;rintro _ w8 ⟨rfl,h8,aL⟩;refine qM O$ OV O$ OB func177 O ?_
        have e:D.write n s=(((D.push n s).count).zew,8):=by
         have oH:D.due=1:=rv;simp[Dev.write,hd,hh,fU,oH]
        rw[e];exact⟨_,rfl,rfl,_,_,h8,hu.trans (zbG aL)⟩
       ·refine OD$ Qx O$ OB func177 O ?_
        have e:D.write n s=((D.push n s).count,0):=by
         have oH:¬D.due=1:=rv;simp[Dev.write,hd,hh,fU,oH]
        rw[e];exact⟨_,rfl,rfl,_,_,h7,hu⟩
end
section
variable {w:World}{D:Dev}
def Dev.z7H (D:Dev)(n:Nat):List OI:=(List.range n).map λj:Nat=>D.now (j:Int)
@[simp] theorem imageTo_length (D:Dev) (n:Nat):(D.z7H n).length=n:=by simp[Dev.z7H]
def zbO {w:World}{v:Value}{e size n:Nat}{cs:List Value}(h:Sl w v e size n cs):oneV v=true:=by
 rcases h.shape with⟨rfl,-⟩|⟨g,cap,rfl,-⟩<;>rfl
end
def z07 (b n:Int):Prop:=16<=b/\b<=4096/\1<=n/\n<=8
instance (b n:Int):Decidable (z07 b n):=by unfold z07;infer_instance
def Dev.fresh (B N:Nat):Dev:=⟨0,[],0,0,B,N,λ_=>none,[],false,0,0⟩
def z9h (b n:Int)(w:World):Pm prog 45 [.agg #[I b,I n]] w λv w'=>v=I (if z07 b n then 0 else 1)/\Ext w w':=by
 refine py (e:=[(0,_)]) func45 O ntmps45 O O$ qN O$ OJ O O (R4 O O) ?_
 rintro _ w1 ⟨b1,rfl,bL,ad,ai⟩
 by_cases hg:z07 b n
 ·obtain⟨g1,g2,g3,g4⟩:=hg;refine OV O$ An$ qN O$ OW Zs O$ qV (OM U3 O O ai O)$ Qw O$ PH$ ON O$ OW Zs O$ qV (OM U3 O O ai O)$ QB O$ PH$ PM O$ ON O ?_;refine OW Zi O$ qV (OM U3 O O ai O)$ Qw O$ PH$ PM O$ ON O$ OW Zi O$ qV (OM U3 O O ai O)$ QB O$ PH$ PM O$ Qg O$ Qx O$ OB func45 O ?_;exact⟨_,rfl,by rw[if_pos ⟨g1,g2,g3,g4⟩];rfl,ad⟩
 ·refine OV O$ An$ qN O$ OW Zs O$ qV (OM U3 O O ai O)$ Qw O$ Sr (λh1=>?_)$ λh1=>?_
  ·refine ON O$ QL$ qS$ QX O$ ON O$ QL$ qS$ QX O$ ON O$ QL$ qS$ QX O$ OC$ OS O ?_;refine Qx O$ OB func45 O ?_;exact⟨_,rfl,by rw[if_neg hg];rfl,ad⟩
  ·refine ON O$ OW Zs O$ qV (OM U3 O O ai O)$ QB O$ PM O$ Sr (λh2=>?_)$ λh2=>?_
   ·refine ON O$ QL$ qS$ QX O$ ON O$ QL$ qS$ QX O$ OC$ OS O$ Qx O$ OB func45 O ?_;exact⟨_,rfl,by rw[if_neg hg];rfl,ad⟩
   ·refine ON O$ OW Zi O$ qV (OM U3 O O ai O)$ Qw O$ PM O$ Sr (λh3=>?_)$ λh3=>?_
    ·refine ON O$ QL$ qS$ QX O$ OC$ OS O$ Qx O$ OB func45 O ?_;exact⟨_,rfl,by rw[if_neg hg];rfl,ad⟩
    ·have:8<n:=by unfold z07 at hg;omega
     refine ON O$ OW Zi O$ qV (OM U3 O O ai O)$ QB O$ Rz$ PM O$ OC$ OS O$ Qx O$ OB func45 O ?_;exact⟨_,rfl,by rw[if_neg hg];rfl,ad⟩
def zfP (B N:Nat)(w:World)(hg:z07 B N):Pm prog 20 [.agg #[I (B:Int),I (N:Int)]] w λv w'=>∃p m,v= .tuple #[ptr p 0,I 0]/\RX w' p m (.slice none 0 0) (.slice none 0 0) (Dev.fresh B N)/\Ext w w'/\w.heap.size<=p/\w.heap.size<=m:=by
 obtain⟨g1,g2,g3,g4⟩:=hg
 refine py (e:=[(0,_)]) func20 O ntmps20 O O$ qN O$ OJ O O (R4 O O) ?_
 rintro _ w1 ⟨b1,rfl,bL,ad,ai⟩
 refine Qm O$ An$ qN O$ qV (Pp U66 O zaU O (OP.cells (n:=2) ai (news:=[_,_]) O) O)$ P5 zk0 O (z9h B N _) ?_
 rintro _ w2 ⟨rfl,ae⟩
 rw[if_pos ⟨g1,g2,g3,g4⟩]
 replace ai:=ae.OA ai
 refine QW O$ QE O$ OC$ OQ O (λhz=>?_)$ λhz=>?_
 ·exact absurd hz (by decide)
 ·refine OD$ qN O$ qV (Pp U66 O zaU O (OP.cells (n:=2) ai (news:=[_,_]) O) O)$ OJ O O (pmm) ?_;rintro _ w3 ⟨m,rfl,hm,ah,wT⟩;refine qV (Sa (cs:=[_,_,_,_,_,_,_,_,_,_,_]) zgY O ziH O O)$ OJ O O (R4 O O) ?_;rintro _ w4 ⟨p,rfl,hp,aA,aK⟩;refine Qm O$ OB func20 O ?_;have et:=ad.size;have dw:=ae.size;have pL:=ah.size;have M1:Ws KI w4 m []:=⟨⟨#[],0,aA.heap wT id,rfl⟩,by simp⟩;refine⟨_,rfl,p,m,rfl,⟨aK,⟨[],M1,λn=>rfl⟩,Sl.nil w4 _ _,Sl.nil w4 _ _,?_⟩,((ad.trans ae).trans ah).trans aA,by omega,by omega⟩;exact⟨⟨by show 16<=B;omega,by show B<=4096;omega⟩,⟨by show 1<=N;omega,by show N<=8;omega⟩,(by simp[Dev.fresh]),(λn s h=>by cases h),(λx hx=>by cases hx),(by simp[Dev.fresh]),(by simp[Dev.fresh])⟩
def over (s:OI)(at':Nat)(d:OI):OI:=s.take at'++d++s.drop (at'+d.length)
def Dev.zev (D:Dev)(n at':Int)(d:OI):Prop:=D.has n=true/\0<=at'/\at'+(d.length:Int)<=((512*D.N:Nat):Int)
instance (D:Dev) (n at':Int) (d:OI):Decidable (D.zev n at' d):=by unfold Dev.zev;infer_instance
def zkn (n:Int)(a:Nat)(d:OI)(x:Int×OI):Int×OI:=if x.1=n then(x.1,over x.2 a d) else x
def zeU (n:Int)(a:Nat)(d:OI)(l:List (Int×OI))(i:Nat):List (Int×OI):=(l.take i).map (zkn n a d)++l.drop i
@[simp] theorem corTo_length (n:Int) (a:Nat) (d:OI) (l:List (Int×OI)) (i:Nat):(zeU n a d l i).length=l.length:=by simp[zeU];omega
theorem z6r (l:List (Int×OI))(x:Int×OI)(n:Int):WI (l++[x]) n=if x.1=n then some x.2 else WI l n:=by
 unfold WI
 rw[List.reverse_append,List.reverse_singleton,List.singleton_append,List.find?_cons]
 by_cases h:x.1=n
 ·simp[h]
 ·have hb:(x.1==n)=false:=by simpa using h
  simp[hb,h]
/-! ### Bounds -/
def Dev.Small (D:Dev)(k:Nat):Prop:=D.calls<=k/\D.cache.length<=k/\True/\D.Sj.length<=17592186044416
def Dev.Small.bd {D:Dev}{k:Nat}(h:D.Small k)(hk:k<1000000000000):D.Bd:=⟨by have:=h.1;omega,by have:=h.2.1;omega,trivial⟩
/-! ### By footprints -/
def z9b (w:World)(p:Nat)(F:Nat->Prop)(D':Dev)(w':World):Prop:=∃F',Wj w' p D' F'/\Upd F F' w w'
def z0N.toA {w w':World}{p m:Nat}{kp ca:Value}{D':Dev}{F:Nat->Prop}(hF:∀k,F k↔fpD p m kp ca k)(h:z0N w p m kp ca D' w'):z9b w p F D' w':=by
 have e:F=fpD p m kp ca:=funext λk=>propext (hF k)
 subst e
 obtain⟨kp',ca',h1,h2⟩:=h
 exact⟨_,⟨m,kp',ca',h1,λk=>Iff.rfl⟩,h2⟩
section
variable {w:World}{p:Nat}{D:Dev}{F:Nat->Prop}
def za8 (h:Wj w p D F):Pm prog 141 [ptr p 0] w λv w'=>v= .bool D.down/\w'=w:=by
 obtain⟨m,kp,ca,h1,hF⟩:=h;exact zax h1
def z8S (h:Wj w p D F):Pm prog 77 [ptr p 0] w λv w'=>v=I ((512*D.N:Nat):Int)/\w'=w:=by
 obtain⟨m,kp,ca,h1,hF⟩:=h;exact z0Y h1
def WJ (h:Wj w p D F):Pm prog 125 [ptr p 0] w λv w'=>v=I (D.B:Int)/\w'=w:=by
 obtain⟨m,kp,ca,h1,hF⟩:=h;exact z5J h1
def z61 (n:Int)(s:OI)(h:Wj w p D F){k:Nat}(hs:D.Small k)(hk:k<1000000000000):
  Pm prog 177 [ptr p 0,I n,S s] w λv w'=>v=I (D.write n s).2/\z9b w p F (D.write n s).1 w':=by
 obtain⟨m,kp,ca,h1,hF⟩:=h
 exact(z9S n s h1 (hs.bd hk) hs.2.2.2).mono λv w' ⟨e,h2⟩=>⟨e,h2.toA hF⟩
def z9v (n:Int)(h:Wj w p D F){k:Nat}(hs:D.Small k)(hk:k<1000000000000):
  Pm prog 145 [ptr p 0,I n] w λv w'=>v= .tuple #[S (D.read n).2.1,I (D.read n).2.2]/\z9b w p F (D.read n).1 w':=by
 obtain⟨m,kp,ca,h1,hF⟩:=h
 exact(zaJ n h1 (hs.bd hk)).mono λv w' ⟨e,h2⟩=>⟨e,h2.toA hF⟩
def zdf (B N:Nat)(w:World)(hg:z07 B N):Pm prog 20 [.agg #[I (B:Int),I (N:Int)]] w λv w'=>∃p F,v= .tuple #[ptr p 0,I 0]/\Wj w' p (Dev.fresh B N) F/\Ext w w'/\∀i,F i->w.heap.size<=i:=
 (zfP B N w hg).mono λv w' ⟨p,m,e,h,hx,h1,h2⟩=>⟨p,_,e,⟨m,_,_,h,λk=>Iff.rfl⟩,hx,λi hi=>by
  rcases hi with h|h|h| h
  ·omega
  ·omega
  ·cases h
  ·cases h⟩
end
def z9b.kpF {w w':World}{p:Nat}{F:Nat->Prop}{D':Dev}(h:z9b w p F D' w'):Kp F w w':=by
 obtain⟨F',-,hu⟩:=h
 exact hu.1
def nrm (z b:Int):Int:=(z.tmod b+b).tmod b
def VV (z b:Int)(hb:0<b): -b<z.tmod b/\z.tmod b<b:=by
 have h2:=Int.tmod_lt_of_pos z hb
 refine⟨?_,h2⟩
 have h3:=Int.tmod_lt_of_pos (-z) hb
 rw[Int.neg_tmod] at h3
 omega
def ZC (z b:Int)(hb:0<b):0<=nrm z b/\nrm z b<b:=by
 obtain⟨h1,h2⟩:=VV z b hb
 unfold nrm
 exact⟨Int.tmod_nonneg _ (by omega),Int.tmod_lt_of_pos _ hb⟩
theorem zbv {D:Dev}{n:Int}{s:OI}(hd:D.down=false)(h0:D.due=0)(hn:0<=n/\n<(D.B:Int))(hs:s.length=512*D.N):D.write n s=((D.push n s).count,0):=by
 have hh:D.has n=true:=by simp[Dev.has];omega
 unfold Dev.write
 rw[if_neg (by simp[hd]),if_neg (by simp[hh,hs]),if_neg (by omega)]
def grow:Nat->OI->Nat->OI
 |0,s,_=>s
 |f+1,s,n=>if s.length<n then grow f (s++s) n else s
def fill (s:OI)(n:Nat):OI:=(grow (n+1) (if s=[] then [0] else s) n).take n
section
variable {κ:Type}[DecidableEq κ]{K:κ->Value}{P:Program}{e:Env}{d:Option Nat}{ty t kt el:TypeId}{pos:String}{aft:Array Edge}{g:Option (Nat×Bool)}{x y:Operand}{w:World}{z:Value}{size bytes:Nat}{k:κ}
def zl5 (ht:P.underlying t=some (.map kt el))(hK:Ky P kt K)(hz:TI P el z size bytes)(hx:look e x=some (.map none))(hy:look e y=some (K k)):
  Y P e ⟨d,.lookup t x y false,ty,pos,aft,g⟩ z w w:=fun ρ hρ=>by
 have Bz:=hz.zero (w:=w)
 have tr:=λb=>hK.same.choose_spec.2.2 w b 9999 k
 have hu:=hK.same.choose_spec.1
 simp[execOp,hρ _ _ hx,hρ _ _ hy,Instr.lookup,run_underlying ht,tr,Bz,Instr.findKey,run_underlying hu,Instr.findNow]
end
structure QM (w:World)(ks mp:Value)(l:List Int):Prop where
 sl:Sl w ks 3 1 l.length (l.map I)
 mp:(mp= .map none/\l=[])\/∃b,mp= .map (some b)/\SF KI w b (l.map λk=>(k,I 1))
 n:l.length<=8192
def Fq (ks mp:Value)(b:Nat):Prop:=ks.ownBlock=some b\/mp= .map (some b)
section
variable {w w':World}{ks mp:Value}{l:List Int}{S:Nat->Prop}{c o:Nat}{cs:List Value}{k:Int}
def QM.kp (h:QM w ks mp l)(hk:Kp S w w')(hn:∀b,Fq ks mp b->¬S b):QM w' ks mp l:=
 ⟨h.sl.kp hk λg e=>hn g (.inl e),by
  rcases h.mp with e|⟨b,e,hm⟩
  ·exact .inl e
  ·exact .inr ⟨b,e,hm.kp hk (hn b (.inr e))⟩,h.n⟩
def QM.lt (h:QM w ks mp l){b:Nat}(hb:Fq ks mp b):b<w.heap.size:=by
 rcases hb with e| e
 ·exact h.sl.lt e
 ·rcases h.mp with⟨e',-⟩|⟨b',e',hm⟩
  ·rw[e'] at e;cases e
  ·rw[e'] at e;cases e;exact hm.lt
def QM.ne (h:QM w ks mp l){b:Nat}(hb:ks.ownBlock=some b):mp≠ .map (some b):=λe=>by
 obtain⟨cur,h1⟩:=h.sl.typed hb
 rcases h.mp with⟨e',-⟩|⟨b',e',hm⟩
 ·rw[e'] at e;cases e
 ·rw[e'] at e;cases e;obtain⟨⟨es,cl,h2,-⟩,-⟩:=hm;rw[h1] at h2;cases h2
theorem QM.nd (h:QM w ks mp l):l.Nodup:=by
 rcases h.mp with⟨-,e⟩|⟨b',e',hm⟩
 ·rw[e];exact List.nodup_nil
 ·have:=hm.nd;rw[List.map_map] at this;have e:((λp:Int×Value=>p.1) ∘ λk:Int=>(k,I 1))=id:=rfl;rw[e,List.map_id] at this;exact this
theorem z4j (l:List Int)(k:Int):R8 (l.map λk=>(k,I 1)) k=if k∈l then some (I 1) else none:=by
 induction l with
 |nil=>rfl
 | cons a l ih =>
   show(if k=a then some (I 1) else R8 (l.map λk=>(k,I 1)) k)=_;rw[ih];by_cases h:k=a
   ·simp[h]
   ·simp[h]
theorem zbm (l:List Int)(k:Int):delL (l.map λk=>(k,I 1)) k=(l.erase k).map λk=>(k,I 1):=by
 induction l with
 |nil=>rfl
 | cons a l ih =>
   show(if k=a then l.map (λk=>(k,I 1)) else(a,I 1)::delL (l.map λk=>(k,I 1)) k)=_;rw[ih,List.erase_cons];by_cases h:k=a
   ·subst h;simp
   ·rw[if_neg h,if_neg (by simpa using λe=>h e.symm)];rfl
def yqk {P:Program}{e:Env}{d:Option Nat}{ty t kt el:TypeId}{pos:String}{aft:Array Edge}{g:Option (Nat×Bool)}{x y:Operand}{bytes:Nat}(ht:P.underlying t=some (.map kt el))(hK:P.underlying kt=some (.int .i64))(hz:TI P el (I 0) 1 bytes)(hx:look e x=some mp)(hy:look e y=some (I k))(hq:QM w ks mp l):
  Y P e ⟨d,.lookup t x y false,ty,pos,aft,g⟩ (I (if k∈l then 1 else 0)) w w:=by
 rcases hq.mp with⟨rfl,rfl⟩|⟨b,rfl,hm⟩
 ·rw[if_neg (by simp)];exact zl5 (k:=k) (K:=KI) ht (S5 hK) hz hx hy
 ·have h:=ylk (k:=k) (K:=KI) (d:=d) (ty:=ty) (pos:=pos) (aft:=aft) (g:=g) ht (S5 hK) hz hx hy hm.l;rw[z4j] at h;by_cases hk:k∈l
  ·rw[if_pos hk] at h⊢;exact h
  ·rw[if_neg hk] at h⊢;exact h
def zbU (hB:OP w c cs 173)(h1:cs[o+1]? =some mp)(hq:QM w ks mp l):Pm prog 165 [ptr c o,I k] w λv w'=>v= .bool (decide (k∈l))/\w'=w:=by
 refine py (e:=[(0,_),(1,_)]) func165 O ntmps165 O O$ qN O$ QW O$ Pq O$ OW YQ O$ qV (OM Xn O O hB h1)$ ON O$ qV (yqk (k:=k) Xn U3 PV O O hq)$ QB O$ OV O$ OB func165 O (⟨_,rfl,?_,rfl⟩)
 by_cases hk:k∈l
 ·simp[hk,PX]
 ·simp[hk,PX]
theorem z7f {lv:Value}(x:Int)(hR:Rd w lv 1 l.length (l.map I))(hl:l.length<=4294967296):
  Pm prog 190 [lv,I x] w λv w'=>w'=w/\((x∉l/\v=I (-1))\/∃i:Nat,v=I (i:Int)/\l[i]? =some x/\x∉l.take i):=by
 obtain⟨a,cap,rfl,-⟩:=hR.shape
 refine py (e:=[(0,_),(1,_)]) func190 O ntmps190 O O$ Qx O$ PK O$ Rs R0 O$ ON O$ OC$ OE$ Rr (α:=Nat) (0) (λi=>[(0,.slice a l.length cap),(1,I x),(7,I (l.length:Int)),(8,I (i:Int))]) (λi w'=>w'=w/\i<=l.length/\x∉l.take i) (λi=>l.length-i) ?hI ?hround
 case hI=>exact⟨rfl,Nat.zero_le _,by simp⟩
 case hround=>
  rintro i wi ⟨rfl,hi,dg⟩ ih
  try dsimp only
  refine qN O$ Qw O$ OC$ An$ OQ O (λaS=>?_)$ λaS=>?_
  ·have uV:i<l.length:=by omega
   obtain⟨s,rz⟩:∃s,l[i]? =some s:=⟨_,List.getElem?_eq_getElem uV⟩
   obtain⟨lb,lo,lc,e5⟩:∃b o c',Value.slice a l.length cap= .slice (some ⟨b,o,none⟩) l.length c':=by
    rcases hR.2 with⟨c,hc,h0⟩|⟨b,off,c',hc,-⟩
    ·omega
    ·exact⟨b,off,c',hc⟩
   cases e5;refine OD$ QA$ Pn O$ QS O$ Pa O$ ON O$ qV (PR R0 PV O O (by omega))$ qV (Ps U3 O O (PU hR (show(l.map I)[i]? =some (I s) by rw[List.getElem?_map,rz];rfl))) ?_;refine Rg O$ OC$ OQ O (λhe=>?_)$ λhe=>?_
   ·refine Pn O$ OV O$ OB func190 O ?_;exact⟨_,rfl,rfl,.inr ⟨i,rfl,by rw[he];exact rz,dg⟩⟩
   ·refine OD$ Oz$ OK O$ PS O$ ON O$ OC ((ih (i+1) _ ⟨rfl,uV,λhh=>?_⟩ (by omega)).qb);rw[PC rz,List.mem_append,List.mem_singleton] at hh;rcases hh with h| h
    ·exact dg h
    ·exact he h
  ·have:i=l.length:=by omega
   subst this;rw[List.take_length] at dg;refine OO O$ Qx O$ OB func190 O ?_;exact⟨_,rfl,rfl,.inl ⟨dg,rfl⟩⟩
theorem zbz {i:Nat}{x:Int}(h:l[i]? =some x)(hn:x∉l.take i):l.take i++l.drop (i+1)=l.erase x:=by
 obtain⟨hi,e⟩:=List.getElem?_eq_some_iff.1 h
 conv=>rhs;rw[<-List.take_append_drop i l]
 rw[List.erase_append_right _ hn,List.drop_eq_getElem_cons hi,e,List.erase_cons_head]
theorem z47 {α:Type}{l:List α}{i:Nat}{a:α}(h:l[i]? =some a):l.set i a=l:=by
 obtain⟨hi,e⟩:=List.getElem?_eq_some_iff.1 h
 rw[<-e,List.set_getElem_self]
def za1 (hB:OP w c cs 173)(h0:cs[o]? =some ks)(h1:cs[o+1]? =some mp)(hq:QM w ks mp l)(nc:¬Fq ks mp c):Pm prog 166 [ptr c o,I k] w λv w'=>∃ks',v= .tuple #[]/\OP w' c (cs.set o ks') 173/\QM w' ks' mp (l.erase k)/\(∀b,Fq ks' mp b->Fq ks mp b)/\Kp (λb=>b=c\/Fq ks mp b) w w':=by
 have hn:=hq.n
 have eW:=hq.nd
 refine py (e:=[(0,_),(1,_)]) func166 O ntmps166 O O$ Pn O$ Pq O$ OW Qb O$ qV (OM R0 O O hB h0)$ ON O$ P5 zeR O (z7f k hq.sl.rd (by omega)) ?_
 rintro _ w ⟨rfl,hv⟩
 rcases hv with⟨hk,rfl⟩|⟨i,rfl,hi,pV⟩
 ·refine QW O$ U8 O$ PH$ Qg O$ Qa func166 O (⟨_,rfl,ks,rfl,?_,?_,λb hb=>hb,Kp.refl _ _⟩)
  ·rw[z47 h0];exact hB
  ·rw[List.erase_of_not_mem hk];exact hq
 ·have Fk:k∈l:=List.mem_of_getElem? hi;have dl:=(List.getElem?_eq_some_iff.1 hi).1;refine QW O$ U8 O$ Rz$ OC$ OS O$ Qt O$ Pq O$ OW Qb O$ qV (OM R0 O O hB h0)$ Pa O$ PS O$ P5 ziP O (zcj hq.sl (λc hc=>by obtain⟨z,-,rfl⟩:=List.mem_map.1 hc;rfl) dl (by omega)) ?_;rintro ks2 w2 ⟨cL,am,pY⟩
  have e2:(l.map I).take i++(l.map I).drop (i+1)=(l.erase k).map I:=by
   rw[<-List.map_take,<-List.map_drop,<-List.map_append,zbz hi pV]
  rw[e2] at cL;have io:(l.erase k).length=l.length-1:=List.length_erase_of_mem Fk;rw[<-io] at cL;have jP:¬ks.ownBlock=some c:=λe=>nc (.inl e);have ak:=am.OA hB jP;refine Pq O$ OW Qb O$ OT O (QG z14 O O (zbO cL) ak (by have:=(List.getElem?_eq_some_iff.1 h0).1;omega)) ?_;rintro w3 ⟨ar,av⟩
  obtain⟨b,rfl,hm⟩:∃b,mp= .map (some b)/\SF KI w b (l.map λk=>(k,I 1)):=by
   rcases hq.mp with⟨-,e⟩| h
   ·rw[e] at Fk;cases Fk
   ·exact h
  have II:c≠b:=λe=>nc (.inr (by rw[e]));have Bp:ks.ownBlock≠some b:=λe=>hq.ne e O;have zV:o+1<cs.length:=(List.getElem?_eq_some_iff.1 h1).1;have lT:=(hm.kp am Bp).kp av (λe=>II e.symm);have wQ:(cs.set (o+0) ks2)[o+1]? =some (Value.map (some b)):=by rw[List.getElem?_set_ne (by omega)];exact h1
  refine OC$ R6 O$ Pq O$ OW YQ O$ qV (OM Xn O O ar wQ)$ ON O$ zaz O (zeY (k:=k) (K:=KI) Xn (S5 U3) O O lT O) ?_;rintro _ w4 ⟨BI,au⟩;rw[zbm] at BI;refine OC$ Po.qb (e:=[]) ?_;refine Qa func166 O ?_;have fW:Kp (λj=>j=c\/Fq ks (.map (some b)) j) w w4:=((am.OH λj e=> .inr (.inl e)).trans (av.OH λj e=> .inl e)).trans (au.OH λj e=> .inr (.inr (by rw[e])));exact⟨_,rfl,ks2,rfl,au.OA ar II,⟨(cL.kp av λg e e'=>nc (.inl (e'▸pY g e))).kp au λg e e'=>Bp (e'▸pY g e),.inr ⟨b,rfl,BI⟩,by omega⟩,λj hj=>hj.imp (pY j) id,fW⟩
def zbZ (hB:OP w c cs 173)(h0:cs[o]? =some ks)(h1:cs[o+1]? =some mp)(hq:QM w ks mp l)(nc:¬Fq ks mp c)(hk:k∉l)(hl:l.length<=8191):Pm prog 172 [ptr c o,I k] w λv w'=>∃ks' mp',v= .tuple #[]/\OP w' c ((cs.set (o+1) mp').set o ks') 173/\QM w' ks' mp' (l++[k])/\(∀b,Fq ks' mp' b->Fq ks mp b\/w.heap.size<=b)/\Kp (λb=>b=c\/Fq ks mp b) w w':=by
 have hn:=hq.n
 have eW:=hq.nd
 have lc:=hB.lt
 have zV:o+1<cs.length:=(List.getElem?_eq_some_iff.1 h1).1
 obtain⟨mo,rfl,M2⟩:∃mo,mp= .map mo/\((mo=none/\l=[])\/∃b,mo=some b/\SF KI w b (l.map λk=>(k,I 1))):=by
  rcases hq.mp with⟨e,e2⟩|⟨b,e,e2⟩
  ·exact⟨_,e,.inl ⟨rfl,e2⟩⟩
  ·exact⟨_,e,.inr ⟨b,rfl,e2⟩⟩
 refine py (e:=[(0,_),(1,_)]) func172 O ntmps172 O O$ PK O$ Pq O$ OW YQ O$ qV (OM Xn O O hB h1)$ qV (zgn Xn O O)$ OC$ PD (λe' w'=>∃b,e'=[(0,ptr c o),(1,I k)]/\OP w' c (cs.set (o+1) (.map (some b))) 173/\SF KI w' b (l.map λk=>(k,I 1))/\Sl w' ks 3 1 l.length (l.map I)/\(mo=some b\/w.heap.size<=b)/\Kp (λj=>j=c) w w'/\b≠c/\ks.ownBlock≠some b) ?bE$ λbE=>?cM
 case bE=>
  rintro e' w1 ⟨b,rfl,ai,dD,jZ,hb,az,IJ,fH⟩;have qf:(cs.set (o+1) (Value.map (some b)))[o+1]? =some (.map (some b)):=List.getElem?_set_self zV;have eI:(cs.set (o+1) (Value.map (some b)))[o]? =some ks:=by rw[List.getElem?_set_ne (by omega)];exact h0
  have z1:=az.size;refine Pn O$ Pq O$ OW YQ O$ qV (OM Xn O O ai qf)$ ON O$ OT O (zf0 (k:=k) (K:=KI) Xn (S5 U3) O O O dD) ?_;rintro w2 ⟨kg,am⟩;rw[UA _ _ _ (by rw[z4j,if_neg hk])] at kg;have ak:=am.OA ai (λe=>IJ e.symm);have cL:=jZ.kp am (λg e e'=>fH (e'▸e));refine OC$ OK O$ Pa O$ Pq O$ OW Qb O$ qV (OM R0 O O ak eI)$ ON O$ OJ O O (XZ (cs:=[_]) (zs:=[Value.int .i64 0]) R0 PV O (by kernel_rfl) O O O (by decide)) ?_;rintro _ w3 ⟨b24,rfl,⟨M3,ah,fP⟩,Fl⟩;have lb:=kg.lt;have z2:=am.size;refine OJ O O (pap R0 PV O (by decide) O O (cL.ext ah) Fl.rd (by intro c hc;simp at hc;subst hc;rfl) (by omega) (by simp only[maxLen];omega)) ?_;rintro ks4 w4 ⟨eg,au,IK,-⟩;have z3:=ah.size;have z4:=au.size;have jP:ks.ownBlock≠some c:=λe=>nc (.inl e);have aK:=au.OA (ah.OA ak) jP;have BI:=(kg.ext ah).kp au fH;refine Pq O$ OW Qb O$ OT O (QG z14 O O (zbO eg) aK (by rw[List.length_set];omega)) ?_;rintro w5 ⟨aH,aj⟩;refine OC$ Qa func172 O ?_
  have lk4:∀g,ks4.ownBlock=some g->g≠c:=λg e e'=>by
   rcases IK g e with h| h
   ·exact jP (e'▸h)
   ·omega
  have aI:(l++[k]).length=l.length+1:=by simp
  refine⟨_,rfl,ks4,.map (some b),rfl,aH,⟨?_,.inr ⟨b,rfl,?_⟩,by omega⟩,λj hj=>?_,?_⟩
  ·rw[List.map_append,aI];exact eg.kp aj λg e e'=>lk4 g e e'
  ·rw[List.map_append];exact BI.kp aj IJ
  ·rcases hj with hj|hj
   ·rcases IK j hj with h| h
    ·exact .inl (.inl h)
    ·exact .inr (by omega)
   ·cases hj;rcases hb with h| h
    ·exact .inl (.inr (by rw[h]))
    ·exact .inr h
  ·have Fn:Kp (λj=>j=c\/Fq ks (.map mo) j) w w2:=by
    rcases hb with h| h
    ·exact(az.OH λj e=> .inl e).trans (am.OH λj e=> .inr (.inr (by rw[h,e])))
    ·exact(az.OH λj e=> .inl e).It am (λj e=>by omega)
   exact((Fn.trans ah.kp).trans (au.OH λj e=> .inr (.inl e))).trans (aj.OH λj e=> .inl e)
 case cM=>
  rcases M2 with⟨rfl,rfl⟩|⟨b,rfl,hm⟩
  ·refine OS O$ R6 O$ OJ O O (pmm) ?_;rintro _ w1 ⟨b,rfl,hb,ad,cB⟩;have dD:SF KI w1 b []:=SF.new cB;have ai:=ad.OA hB;refine Pq O$ OW YQ O$ OT O (QG z7x O O O ai zV) ?_;rintro w2 ⟨ak,am⟩;refine OC ?_;have lb:=dD.lt;exact(bE _ _ ⟨b,rfl,ak,dD.kp am (by omega),(hq.sl.ext ad).kp am (λg e e'=>nc (.inl (e'▸e))),.inr (by omega),ad.kp.trans am,by omega,λe=>by have:=hq.sl.lt e;omega⟩).qb
  ·refine SH O ?_;exact(bE _ _ ⟨b,rfl,by rw[z47 h1];exact hB,hm,hq.sl,.inl O,Kp.refl _ _,λe=>nc (.inr (by rw[e])),λe=>hq.ne e O⟩).qb
end
def Arc.li (A:Arc):Nat->List Int
 |0=>A.once
 |1=>A.often
 |2=>A.P3
 |_=>A.OX
def Arc.Qi (A:Arc):Nat->List Int->Arc
 |0,l=>{A with once:=l}
 |1,l=>{A with often:=l}
 |2,l=>{A with P3:=l}
 |_,l=>{A with OX:=l}
theorem Arc.zeZ (A:Arc){j:Nat}(hj:j<4)(l:List Int)(i:Nat)(hi:i<4):(A.Qi j l).li i=if i=j then l else A.li i:=by
 match j,hj,i,hi with
 |0,_,0,_|0,_,1,_|0,_,2,_|0,_,3,_|1,_,0,_|1,_,1,_|1,_,2,_|1,_,3,_|2,_,0,_|2,_,1,_|2,_,2,_|2,_,3,_|3,_,0,_|3,_,1,_|3,_,2,_|3,_,3,_=>rfl
def z9G (V:Nat->Value×Value)(j:Nat)(q:Value×Value)(i:Nat):Value×Value:=if i=j then q else V i
def acC (S:Nat)(T:Int)(V:Nat->Value×Value)(p:Nat):List Value:=[I (S:Int),(V 0).1,(V 0).2,(V 1).1,(V 1).2,(V 2).1,(V 2).2,(V 3).1,(V 3).2,I T,.map (some p)]
abbrev FV (V:Nat->Value×Value)(j b:Nat):Prop:=Fq (V j).1 (V j).2 b
structure SQ (w:World)(c:Nat)(A:Arc)(V:Nat->Value×Value)(p:Nat):Prop where
 OA:OP w c (acC A.size A.target V p) 173
 q:∀j,j<4->QM w (V j).1 (V j).2 (A.li j)
 pins:Ws KI w p []
 Vm:∀i j,i<4->j<4->i≠j->∀b,FV V i b->¬FV V j b
 nc:∀j,j<4->¬FV V j c
 np:∀j,j<4->¬FV V j p
 cp:c≠p
def Sz (c:Nat)(V:Nat->Value×Value)(p b:Nat):Prop:=b=c\/b=p\/∃j,j<4/\FV V j b
section
variable {w w' w2:World}{c p:Nat}{A A' A2:Arc}{V V' V2:Nat->Value×Value}{S:Nat->Prop}{k:Int}
def SQ.kp (h:SQ w c A V p)(hk:Kp S w w')(hn:∀b,Sz c V p b->¬S b):SQ w' c A V p:=
 ⟨hk.OA h.OA (hn _ (.inl O)),λj hj=>(h.q j hj).kp hk λb hb=>hn b (.inr (.inr ⟨j,hj,hb⟩)),hk.map h.pins (hn _ (.inr (.inl O))),h.Vm,h.nc,h.np,h.cp⟩
theorem SQ.ext (h:SQ w c A V p)(hx:Ext w w'):SQ w' c A V p:=h.kp (S:=λ_=>False) hx λ_ _=>id
def SQ.lt (h:SQ w c A V p){b:Nat}(hb:Sz c V p b):b<w.heap.size:=by
 rcases hb with e|e|⟨j,hj,hb⟩
 ·rw[e];exact h.OA.lt
 ·rw[e];exact h.pins.lt
 ·exact(h.q j hj).lt hb
structure Wf (w:World)(c:Nat)(V:Nat->Value×Value)(p:Nat)(w':World)(A':Arc)(V':Nat->Value×Value):Prop where
 m:SQ w' c A' V' p
 fp:∀b,Sz c V' p b->Sz c V p b\/w.heap.size<=b
 k:Kp (Sz c V p) w w'
theorem Wf.trans (h:Wf w c V p w' A' V')(h2:Wf w' c V' p w2 A2 V2):Wf w c V p w2 A2 V2:=
 ⟨h2.m,λb hb=>by
  rcases h2.fp b hb with e| e
  ·exact h.fp b e
  ·exact .inr (by have:=h.k.size;omega),h.k.It h2.k λb hb=>(h.fp b hb).symm⟩
theorem SQ.r (h:SQ w c A V p)(hx:Ext w w'):Wf w c V p w' A V:=⟨h.ext hx,λb hb=> .inl hb,hx.kp⟩
theorem SQ.Z5 {j:Nat}(hj:j<4)(h:SQ w c A V p){ks mp:Value}{l:List Int}(hB:OP w' c (acC A.size A.target (z9G V j (ks,mp)) p) 173)(hs:(A.Qi j l).size=A.size/\(A.Qi j l).target=A.target)(hq:QM w' ks mp l)(hf:∀b,Fq ks mp b->FV V j b\/w.heap.size<=b)(hk:Kp (λb=>b=c\/FV V j b) w w'):Wf w c V p w' (A.Qi j l) (z9G V j (ks,mp)):=by
 have aS:∀{b:Nat},Sz c V p b->b<w.heap.size:=h.lt
 have ao:∀i,i<4->i≠j->∀b,FV V i b->¬(b=c\/FV V j b):=λi hi gW b hb e=>by
  rcases e with e| e
  ·exact h.nc i hi (e▸hb)
  ·exact h.Vm i j hi hj gW b hb e
 have et:∀i,i≠j->z9G V j (ks,mp) i=V i:=λi e=>if_neg e
 have dw:z9G V j (ks,mp) j=(ks,mp):=if_pos O
 refine⟨⟨by rw[hs.1,hs.2];exact hB,λi hi=>?_,hk.map h.pins (λe=>?_),λi i2 hi dT bu b hb bN=>?_,λi hi hb=>?_,λi hi hb=>?_,h.cp⟩,λb hb=>?_,hk.OH λb hb=>?_⟩
 ·rw[Arc.zeZ A hj l i hi];by_cases e:i=j
  ·rw[if_pos e,e,dw];exact hq
  ·rw[if_neg e,et i e];exact(h.q i hi).kp hk λb hb=>ao i hi e b hb
 ·rcases e with e| e
  ·exact h.cp e.symm
  ·exact h.np j hj e
 ·by_cases e:i=j
  ·have e2:i2≠j:=λe2=>bu (e.trans e2.symm);unfold FV at hb bN;rw[e,dw] at hb;rw[et i2 e2] at bN;rcases hf b hb with h1|h1
   ·exact h.Vm j i2 hj dT (λe3=>e2 e3.symm) b h1 bN
   ·have:=aS (.inr (.inr ⟨i2,dT,bN⟩));omega
  ·unfold FV at hb bN;rw[et i e] at hb;by_cases e2:i2=j
   ·rw[e2,dw] at bN;rcases hf b bN with h1|h1
    ·exact h.Vm i j hi hj e b hb h1
    ·have:=aS (.inr (.inr ⟨i,hi,hb⟩));omega
   ·rw[et i2 e2] at bN;exact h.Vm i i2 hi dT bu b hb bN
 ·by_cases e:i=j
  ·unfold FV at hb;rw[e,dw] at hb;rcases hf c hb with h1|h1
   ·exact h.nc j hj h1
   ·have:=h.OA.lt;omega
  ·unfold FV at hb;rw[et i e] at hb;exact h.nc i hi hb
 ·by_cases e:i=j
  ·unfold FV at hb;rw[e,dw] at hb;rcases hf p hb with h1|h1
   ·exact h.np j hj h1
   ·have:=h.pins.lt;omega
  ·unfold FV at hb;rw[et i e] at hb;exact h.np i hi hb
 ·rcases hb with e|e|⟨i,hi,hb⟩
  ·exact .inl (.inl e)
  ·exact .inl (.inr (.inl e))
  ·by_cases e:i=j
   ·unfold FV at hb;rw[e,dw] at hb;rcases hf b hb with h1|h1
    ·exact .inl (.inr (.inr ⟨j,hj,h1⟩))
    ·exact .inr h1
   ·unfold FV at hb;rw[et i e] at hb;exact .inl (.inr (.inr ⟨i,hi,hb⟩))
 ·rcases hb with e| e
  ·exact .inl e
  ·exact .inr (.inr ⟨j,hj,e⟩)
def WT (S:Nat)(T:Int)(V:Nat->Value×Value)(p:Nat){j:Nat}(hj:j<4):(acC S T V p)[1+2*j]? =some (V j).1/\(acC S T V p)[1+2*j+1]? =some (V j).2:=by
 match j,hj with
 |0,_|1,_|2,_|3,_=>exact⟨rfl,rfl⟩
theorem zcA (S:Nat)(T:Int)(V:Nat->Value×Value)(p:Nat){j:Nat}(hj:j<4)(ks mp:Value):((acC S T V p).set (1+2*j+1) mp).set (1+2*j) ks=acC S T (z9G V j (ks,mp)) p:=by
 match j,hj with
 |0,_|1,_|2,_|3,_=>rfl
theorem zbF (S:Nat)(T:Int)(V:Nat->Value×Value)(p:Nat){j:Nat}(hj:j<4)(ks:Value):(acC S T V p).set (1+2*j) ks=acC S T (z9G V j (ks,(V j).2)) p:=by
 match j,hj with
 |0,_|1,_|2,_|3,_=>rfl
def z0n (A:Arc){j:Nat}(hj:j<4)(l:List Int):(A.Qi j l).size=A.size/\(A.Qi j l).target=A.target:=by
 match j,hj with
 |0,_|1,_|2,_|3,_=>exact⟨rfl,rfl⟩
def Vw (h:SQ w c A V p){j:Nat}(hj:j<4):Pm prog 165 [ptr c (1+2*j),I k] w λv w'=>v= .bool (decide (k∈A.li j))/\w'=w:=
 zbU h.OA (WT _ _ _ _ hj).2 (h.q j hj)
def Qh (h:SQ w c A V p){j:Nat}(hj:j<4):Pm prog 166 [ptr c (1+2*j),I k] w λv w'=>v= .tuple #[]/\∃V',Wf w c V p w' (A.Qi j ((A.li j).erase k)) V':=by
 refine(za1 h.OA (WT _ _ _ _ hj).1 (WT _ _ _ _ hj).2 (h.q j hj) (h.nc j hj) (k:=k)).mono λv w' hv=>?_
 obtain⟨ks',rfl,hB,hq,hf,hk⟩:=hv
 rw[zbF _ _ _ _ hj] at hB
 exact⟨rfl,_,h.Z5 hj hB (z0n A hj _) hq (λb hb=> .inl (hf b hb)) hk⟩
def QP (h:SQ w c A V p){j:Nat}(hj:j<4)(hk:k∉A.li j)(hl:(A.li j).length<=8191):Pm prog 172 [ptr c (1+2*j),I k] w λv w'=>v= .tuple #[]/\∃V',Wf w c V p w' (A.Qi j (A.li j++[k])) V':=by
 refine(zbZ h.OA (WT _ _ _ _ hj).1 (WT _ _ _ _ hj).2 (h.q j hj) (h.nc j hj) hk hl).mono λv w' hv=>?_
 obtain⟨ks',mp',rfl,hB,hq,hf,hk⟩:=hv
 rw[zcA _ _ _ _ hj] at hB
 exact⟨rfl,_,h.Z5 hj hB (z0n A hj _) hq hf hk⟩
def z5K (n:Nat):Arc:=⟨n,[],[],[],[],0⟩
def zcS {n:Nat}(h:1<=n):(z5K n).Ok:=⟨h,List.nodup_nil,Nat.zero_le _,Nat.zero_le _,Nat.zero_le _,⟨Int.le_refl _,by show(0:Int)<=(n:Int);omega⟩⟩
theorem zbg (n:Nat)(h1:1<=n)(h2:n<=4096)(w:World):Pm prog 46 [I (n:Int)] w λv w'=>∃c V p,v= .tuple #[ptr c 0,I 0]/\SQ w' c (z5K n) V p/\(∀b,Sz c V p b->w.heap.size<=b)/\Ext w w':=by
 refine py (e:=[(0,_)]) func46 O ntmps46 O O$ qN O$ Qm O$ PK O$ Qw O$ PH$ Pa O$ QB O$ PH$ PM O$ Qg O$ Pn O$ OJ O O (pmm) ?_
 rintro _ w1 ⟨p,rfl,hp,ad,cB⟩
 refine qV (Sa (cs:=[_,_,_,_,_,_,_,_,_,_,_]) zin O zgU O O)$ OJ O O (R4 O (cs:=acC n 0 (λ_=>(.slice none 0 0,.map none)) p) O) ?_
 rintro _ w2 ⟨c,rfl,hc,ae,ak⟩
 refine Qm O$ OB func46 O ?_
 have dD:SF KI w1 p []:=SF.new cB
 have lp:=dD.lt
 have dg:∀b,¬Fq (.slice none 0 0) (.map none) b:=λb e=>by rcases e with e|e<;>cases e
 refine⟨_,rfl,c,_,p,rfl,⟨ak,λj hj=>⟨?_,?_,?_⟩,ae.map dD.l,λi j hi hj bu b hb=>absurd hb (dg b),λj hj=>dg c,λj hj=>dg p,by omega⟩,λb hb=>?_,ad.trans ae⟩
 ·have e:(z5K n).li j=[]:=by match j,hj with|0,_|1,_|2,_|3,_=>rfl
  rw[e];exact Sl.nil _ _ _
 ·left
  refine⟨rfl,?_⟩
  match j,hj with|0,_|1,_|2,_|3,_=>rfl
 ·have e:(z5K n).li j=[]:=by match j,hj with|0,_|1,_|2,_|3,_=>rfl
  rw[e];exact Nat.zero_le _
 ·rcases hb with e|e|⟨j,hj,hb⟩
  ·have:=ad.size;omega
  ·omega
  ·exact absurd hb (dg b)
end
section
variable {w w' w2:World}{c p:Nat}{A:Arc}{V:Nat->Value×Value}{k:Int}
theorem SQ.cells (h:SQ w c A V p):OP w c [I (A.size:Int),(V 0).1,(V 0).2,(V 1).1,(V 1).2,(V 2).1,(V 2).2,(V 3).1,(V 3).2,I A.target,.map (some p)] 173:=h.OA
def z2P (h:SQ w c A V p):Pm prog 164 [ptr c 0,I k] w λv w'=>v= .bool (decide (k∈A.once\/k∈A.often))/\w'=w:=by
 have h0:=Vw h (j:=0) (k:=k) (by decide)
 have h1:=Vw h (j:=1) (k:=k) (by decide)
 rw[show A.li 0=A.once from rfl] at h0
 rw[show A.li 1=A.often from rfl] at h1
 refine py (e:=[(0,_),(1,_)]) func164 O ntmps164 O O$ qN O$ QW O$ qV (z4I zaC O O)$ Pa O$ Pq O$ OW Qy O$ ON O$ P5 XD O (h0) ?_
 rintro _ w ⟨rfl,rfl⟩
 by_cases fY:k∈A.once
 ·rw[decide_eq_true fY];refine ON O$ QL$ QL$ qS$ QX O$ QX O$ OV O$ OB func164 O ?_;exact⟨_,rfl,by rw[decide_eq_true (Or.inl fY)];rfl,rfl⟩
 ·rw[decide_eq_false fY];refine Pa O$ Pq O$ OW Rj O$ ON O$ P5 XD O (h1) ?_;rintro _ w ⟨rfl,rfl⟩;refine PM O$ QX O$ OV O$ OB func164 O (⟨_,rfl,?_,rfl⟩);by_cases az:k∈A.often
  ·simp[fY,az,PX]
  ·simp[fY,az,PX]
def XF:List Int->Value
 |[]=> .tuple #[I 0,.bool false]
 |a::_=> .tuple #[I a,.bool true]
theorem Vs (h:SQ w c A V p){j:Nat}(hj:j<4):Pm prog 173 [ptr c 0,ptr c (1+2*j)] w λv w'=>v=XF (A.li j)/\w'=w:=by
 have hB:=h.cells
 have hg:=(WT A.size A.target V p hj).1
 have hq:=h.q j hj
 obtain⟨ka,kc,dP,kh⟩:∃a c,(V j).1= .slice a (A.li j).length c/\(a=none->(A.li j).length=0):=hq.sl.rd.shape
 rw[dP] at hg
 have hR:=hq.sl.rd
 have hn:=hq.n
 rw[dP] at hR
 refine py (e:=[(0,_),(1,_)]) func173 O ntmps173 O O$ qN O$ Qm O$ PK O$ Pq O$ OW Qb O$ qV (OM R0 O O h.OA hg)$ Rs R0 O$ ON O$ OC$ OE ?_
 cases hl:A.li j with
 | nil =>
   rw[hl] at hR;refine Rr (α:=Unit) (()) (λ_=>[(0,ptr c 0),(12,.slice ka 0 kc),(13,I 0),(14,I 0)]) (λ_ w'=>w'=w) (λ_=>0) ?hI ?hround
   case hI=>rfl
   case hround=>
    rintro i w2 rfl ih
    try dsimp only
    refine qN O$ Qw O$ PH$ OC$ An$ OL O$ OO O$ qN O$ QW O$ Qm O$ OB func173 O ?_
    exact⟨_,rfl,rfl,rfl⟩
 | cons x r =>
   rw[hl] at hR kh hn
   obtain⟨kb,rfl⟩:∃b,ka=some b:=by
    cases ka with
    |none=>have:=kh O;simp at this
    |some b=>exact⟨b,rfl⟩
   obtain⟨lb,lo,lc,e5⟩:∃b o c',Value.slice (some kb) (x::r).length kc= .slice (some ⟨b,o,none⟩) (x::r).length c':=by
    rcases hR.2 with⟨c,hc,h0⟩|⟨b,off,c',hc,-⟩
    ·simp at h0
    ·exact⟨b,off,c',hc⟩
   cases e5;have iC:0<(x::r).length:=by simp
   refine Rr (α:=Unit) (()) (λ_=>[(0,ptr c 0),(12,.slice (some ⟨lb,lo,none⟩) (x::r).length kc),(13,I ((x::r).length:Int)),(14,I ((0:Nat):Int))]) (λ_ w'=>w'=w) (λ_=>0) ?hI ?hround
   case hI=>rfl
   case hround=>
    rintro i w2 rfl ih
    try dsimp only
    refine qN O$ Qw O$ Rz$ OC$ An$ OS O$ OD$ QA$ qN O$ qV (PR R0 PV O O (by omega))$ qV (Ps U3 O O (PU hR (i:=0) (show((x::r).map I)[0]? =some (I x) from rfl)))$ QW O$ Pq O$ OW z0E O ?_;refine qV (OM Xn O O hB O)$ ON O$ qV (ylk (k:=x) (K:=KI) Xn (S5 U3) PV O O h.pins)$ Rg O$ Rz$ OC$ OS O$ Pn O$ Qm O$ OB func173 O ?_;exact⟨_,rfl,rfl,rfl⟩
def z2h (h:SQ w c A V p)(hA:A.Ok)(cD:A.size<=1000):Pm prog 174 [ptr c 0] w λv w'=>v= .bool (decide (A.once.length+A.often.length=A.size))/\Ext w w':=by
 have hB:=h.cells
 have hh:=hA.held
 obtain⟨a0,c0,e0,-⟩:∃a c,(V 0).1= .slice a A.once.length c/\_:=(h.q 0 (by decide)).sl.rd.shape
 obtain⟨a1,c1,e1,-⟩:∃a c,(V 1).1= .slice a A.often.length c/\_:=(h.q 1 (by decide)).sl.rd.shape
 rw[e0,e1] at hB
 have hg:=Ext.P4 w
 refine py (e:=[(0,_)]) func174 O ntmps174 O O$ Qx O$ An$ QV (λw'=>Ext w w') O$ OZ 0 O O (hg)$ OG 1 O (Q8 O) hg$ OG 2 O (Pr Qy O) hg$ OG 3 O (Pr Qb O) hg$ qT 4 O (λ_ h=>OM R0 O O (h.OA hB) O) hg$ OG 5 O (SE R0 O) hg$ OZ 6 O O (hg)$ OG 7 O (Q8 O) hg$ OG 8 O (Pr Rj O) hg$ OG 9 O (Pr Qb O) hg ?_
 refine qT 10 O (λ_ h=>OM R0 O O (h.OA hB) O) hg$ OG 11 O (SE R0 O) hg$ OG 12 O (UO O O (by omega)) hg$ OZ 13 O O (hg)$ OG 14 O (Q8 O) hg$ OG 15 O (Pr Sw O) hg$ qT 16 O (λ_ h=>OM U3 O O (h.OA hB) O) hg$ OG 17 O (yeq O O) hg$ OG 18 O (Rp O) hg$ qE$ OB func174 O (⟨_,rfl,?_,hg⟩)
 show Value.bool _=Value.bool _
 congr 1
 exact decide_eq_decide.2 (by omega)
end
def RB (hit:Bool)(g:Option Int):List Value:=[.bool hit,.bool g.isSome,I (g.getD 0)]
abbrev zd7 (hit:Bool)(g:Option Int):Value:= .agg (RB hit g).toArray
section
variable {w w' w2:World}{c p:Nat}{A:Arc}{V V':Nat->Value×Value}{k:Int}
def Arc.Ok.lens (h:A.Ok)(cD:A.size<=1000)(j:Nat):(A.li j).length<=2000:=by
 have h1:=h.held
 have h2:=h.first
 have h3:=h.total
 have h4:=A.QO
 unfold Arc.li
 split<;>omega
theorem TG (h:SQ w c A V p)(hA:A.Ok)(cD:A.size<=1000)(bo:Bool):Pm prog 175 [ptr c 0,.bool bo] w λv w'=>v=zd7 false (A.room bo).2/\∃V',Wf w c V p w' (A.room bo).1 V':=by
 have gj:=hA.lens cD 2
 have lZ:=hA.lens cD 3
 have Fo:=hA.tg
 have iC:=hA.pos
 have eW:=hA.nd
 unfold Arc.all at eW
 rw[List.nodup_append] at eW
 obtain⟨nd1,nd2,nd3⟩:=eW
 rw[List.nodup_append] at nd2
 obtain⟨nd4,nd5,nd6⟩:=nd2
 rw[List.nodup_append] at nd5
 obtain⟨nd7,nd8,nd9⟩:=nd5
 have aS:∀{b:Nat},Sz c V p b->b<w.heap.size:=h.lt
 refine py (e:=[(0,_),(1,_)]) func175 O ntmps175 O O$ qN O$ OJ O O (Ry (cs:=[_,_,_]) Pw O) ?_
 rintro _ w1 ⟨b4,rfl,fZ,ad,aK⟩
 have pS:=h.ext ad
 have n4:∀b,Sz c V p b->b≠b4:=λb hb e=>by have:=aS hb;omega
 refine OC$ PK O$ P5 zee O (z2h pS hA cD) ?_
 rintro _ w2 ⟨rfl,ae⟩
 have bC:=ae.OA aK
 have aG:=ad.trans ae
 have eB:=h.ext aG
 by_cases cf:¬A.once.length+A.often.length=A.size
 ·rw[decide_eq_false cf];have ki:A.room bo=(A,none):=by unfold Arc.room;rw[if_neg cf]
  refine qV ((RZ O))$ OC$ OS O$ qN O$ qV (Pp (news:=RB false none) SB O Pw O (OP.cells (n:=3) bC O) O)$ OT O (PG (news:=RB false none) Pw O O O O bC (by simp)) ?_;rintro w3 ⟨en,av⟩;replace en:OP w3 b4 [.bool false,.bool false,I 0] 245:=en;refine OC$ Pf func175 (.cell SB O Pw O (OP.cells (n:=3) en (news:=[_,_,_]) O) O .nil) ?_;rw[ki];exact⟨_,rfl,rfl,V,eB.kp av (λb hb=>n4 b hb),λb hb=> .inl hb,(aG.It av (λj e=>by omega)).kp⟩
 ·have cf := Classical.not_not.1 cf; rw [decide_eq_true cf]; refine qV ((RZ O)) (OC (OL O ?_)); have ak := eB.cells; obtain ⟨a0, c0, e0, -⟩ : ∃ a c, (V 0).1 = .slice a A.once.length c /\ _ := (h.q 0 (by decide)).sl.rd.shape; rw [e0] at ak; have f0 := Vs eB (j := 0) (by decide); have f1 := Vs eB (j := 1) (by decide); rw [show A.li 0 = A.once from rfl] at f0; rw [show A.li 1 = A.often from rfl] at f1
  cases ho:A.once with
  | nil =>
    cases hf:A.often with
    | nil =>
      exfalso;rw[ho,hf] at cf;simp at cf
      omega
    | cons x1 r1 =>
      have ki:A.room bo=({A with often:=r1,OX:=A.OX++[x1]},some x1):=by unfold Arc.room;rw[if_pos cf,ho,hf]
      have M4:A.once.length=0:=by rw[ho];rfl
      have g0:XF A.once= .tuple #[I 0,.bool false]:=by rw[ho];rfl
      have g1:XF A.often= .tuple #[I x1,.bool true]:=by rw[hf];rfl
      rw[g0] at f0;rw[g1] at f1;refine OD$ Qt O$ Pq O$ OW Qy O$ P5 YX O (f0) ?_;rintro _ w2 ⟨rfl,rfl⟩;refine ON O$ qV (Ru (v:=I 0) O O)$ qV (Ru (v:= .bool false) O O)$ SA O$ QS O$ Pa O$ Pq O$ OW Rj O$ P5 YX O (f1) ?_;rintro _ w2 ⟨rfl,rfl⟩;refine ON O$ qV (Ru (v:=I x1) O O)$ qV (Ru (v:= .bool true) O O)$ Qm O$ Po.qb (e:=[(0,_),(1,_),(4,_),(5,_),(6,_),(7,_),(8,_)]) ?_;refine Pn O$ Pq O$ OW Qy O$ OW Qb O$ qV (OM R0 O O ak O)$ Rs R0 O$ QW O$ U8 O$ PH$ ON O$ QL$ QL$ QL$ QL ?_;refine QL$ QL$ QL$ QL$ qS$ PM O$ OV O$ Po.qb (e:=[(0,_),(4,_),(5,_),(6,_),(7,_),(8,_),(10,_)]) ?_;refine An$ Qt O$ qS$ PM O$ Pa O$ qV ((RZ O))$ Pa O$ qV ((RZ O))$ QX O$ PM O$ Qg O$ Pn O$ Pq O$ OW Rj O ?_;refine ON O$ P5 SL O (Qh eB (j:=1) (k:=x1) (by decide)) ?_;rintro _ w3 ⟨rfl,V3,ci⟩;have iV:(A.li 1).erase x1=r1:=by show A.often.erase x1=r1;rw[hf];simp
      rw[iV] at ci
      have dV:x1∉(A.Qi 1 r1).li 3:=by
       show x1∉A.OX;intro e;exact nd6 x1 (by rw[hf];simp) x1 (by simp[e]) O
      refine qM O$ ON O$ Pq O$ OW Re O$ ON O$ P5 Tr O (QP ci.m (j:=3) (k:=x1) (by decide) dV (by show A.OX.length<=_;exact Nat.le_trans lZ (by decide))) ?_;rintro _ w4 ⟨rfl,V4,bG⟩;have hr:=(eB.r (Ext.refl w2)).trans (ci.trans bG);have cC:=hr.k.OA bC (λe=>n4 _ e O);refine OC$ Po.qb (e:=[(4,_),(7,_)]) ?_;refine Pn O$ qV (Sa (cs:=[_,_,_]) Pw O Wa O O)$ OT O (PG (news:=RB false (some x1)) Pw O O O O cC (by simp)) ?_;rintro w5 ⟨aO,aj⟩;replace aO:OP w5 b4 [.bool false,.bool true,I x1] 245:=aO;refine OC$ Pf func175 (.cell SB O Pw O (OP.cells (n:=3) aO (news:=[_,_,_]) O) O .nil) ?_
      have ek:∀b,Sz c V4 p b->b≠b4:=λb hb e=>by
       rcases hr.fp b hb with h5|h5
       ·exact n4 b h5 e
       ·have:=bC.lt;omega
      rw[ki]
      exact⟨_,rfl,rfl,V4,hr.m.kp aj ek,λb hb=>(hr.fp b hb).imp id (λe=>by have:=aG.size;omega),(aG.kp.trans hr.k).It aj (λj e=> .inl (by omega))⟩
  | cons x0 r0 =>
    have M4:1<=A.once.length:=by rw[ho];simp
    cases hf:A.often with
    | nil =>
      have ki:A.room bo=({A with once:=r0,P3:=A.P3++[x0]},some x0):=by unfold Arc.room;rw[if_pos cf,ho,hf]
      have g0:XF A.once= .tuple #[I x0,.bool true]:=by rw[ho];rfl
      have g1:XF A.often= .tuple #[I 0,.bool false]:=by rw[hf];rfl
      rw[g0] at f0;rw[g1] at f1;refine OD$ Qt O$ Pq O$ OW Qy O$ P5 YX O (f0) ?_;rintro _ w2 ⟨rfl,rfl⟩;refine ON O$ qV (Ru (v:=I x0) O O)$ qV (Ru (v:= .bool true) O O)$ SA O$ QS O$ Pa O$ Pq O$ OW Rj O$ P5 YX O (f1) ?_;rintro _ w2 ⟨rfl,rfl⟩;refine ON O$ qV (Ru (v:=I 0) O O)$ qV (Ru (v:= .bool false) O O)$ Qm O$ Po.qb (e:=[(0,_),(1,_),(4,_),(5,_),(6,_),(7,_),(8,_)]) ?_;refine Pn O$ Pq O$ OW Qy O$ OW Qb O$ qV (OM R0 O O ak O)$ Rs R0 O$ QW O$ U8 O$ Rz$ ON O ?_
      by_cases h1:(A.once.length:Int)>A.target
      ·skip
       refine Pa O$ Pq O$ OW Rb O$ qV (OM U3 O O ak O)$ QB O$ Rz$ ON O$ QL$ QL$ QL$ QL$ qS$ QX O$ QX O ?_;refine OV O$ Po.qb (e:=[(0,_),(4,_),(5,_),(6,_),(7,_),(8,_),(10,_)]) ?_;refine An$ Qt O$ ON O$ QX O$ ON O$ QL$ QL$ QL$ QX O$ OC$ OS O$ Pn O$ Pq O$ OW Qy O ?_;refine ON O$ P5 SL O (Qh eB (j:=0) (k:=x0) (by decide)) ?_;rintro _ w3 ⟨rfl,V3,ci⟩;have iV:(A.li 0).erase x0=r0:=by show A.once.erase x0=r0;rw[ho];simp
       rw[iV] at ci
       have dV:x0∉(A.Qi 0 r0).li 2:=by
        show x0∉A.P3;intro e;exact nd3 x0 (by rw[ho];simp) x0 (by simp[e]) O
       refine qM O$ ON O$ Pq O$ OW QN O$ ON O$ P5 Tr O (QP ci.m (j:=2) (k:=x0) (by decide) dV (by show A.P3.length<=_;exact Nat.le_trans gj (by decide))) ?_;rintro _ w4 ⟨rfl,V4,bG⟩;have hr:=(eB.r (Ext.refl w2)).trans (ci.trans bG);have cC:=hr.k.OA bC (λe=>n4 _ e O);refine OC$ Po.qb (e:=[(0,_),(4,_),(5,_),(7,_)]) ?_;refine Pn O$ qV (Sa (cs:=[_,_,_]) Pw O Wa O O)$ OT O (PG (news:=RB false (some x0)) Pw O O O O cC (by simp)) ?_;rintro w5 ⟨aO,aj⟩;replace aO:OP w5 b4 [.bool false,.bool true,I x0] 245:=aO;refine OC$ Pf func175 (.cell SB O Pw O (OP.cells (n:=3) aO (news:=[_,_,_]) O) O .nil) ?_
       have ek:∀b,Sz c V4 p b->b≠b4:=λb hb e=>by
        rcases hr.fp b hb with h5|h5
        ·exact n4 b h5 e
        ·have:=bC.lt;omega
       rw[ki];exact⟨_,rfl,rfl,V4,hr.m.kp aj ek,λb hb=>(hr.fp b hb).imp id (λe=>by have:=aG.size;omega),(aG.kp.trans hr.k).It aj (λj e=> .inl (by omega))⟩
      ·refine Pa O$ Pq O$ OW Rb O$ qV (OM U3 O O ak O)$ QB O$ PH$ ON O ?_;by_cases h2:(A.once.length:Int)=A.target
       ·refine Pa O$ Pq O$ OW Rb O$ qV (OM U3 O O ak O)$ Rg O$ Rz$ ON O ?_
        cases bo with
        | true =>
          refine ON O ?_
          skip
          refine QX O$ PM O$ QX O$ OV O$ Po.qb (e:=[(0,_),(4,_),(5,_),(6,_),(7,_),(8,_),(10,_)]) ?_;refine An$ Qt O$ ON O$ QX O$ ON O$ QL$ QL$ QL$ QX O$ OC$ OS O$ Pn O$ Pq O$ OW Qy O ?_;refine ON O$ P5 SL O (Qh eB (j:=0) (k:=x0) (by decide)) ?_;rintro _ w3 ⟨rfl,V3,ci⟩;have iV:(A.li 0).erase x0=r0:=by show A.once.erase x0=r0;rw[ho];simp
          rw[iV] at ci
          have dV:x0∉(A.Qi 0 r0).li 2:=by
           show x0∉A.P3;intro e;exact nd3 x0 (by rw[ho];simp) x0 (by simp[e]) O
          refine qM O$ ON O$ Pq O$ OW QN O$ ON O$ P5 Tr O (QP ci.m (j:=2) (k:=x0) (by decide) dV (by show A.P3.length<=_;exact Nat.le_trans gj (by decide))) ?_;rintro _ w4 ⟨rfl,V4,bG⟩;have hr:=(eB.r (Ext.refl w2)).trans (ci.trans bG);have cC:=hr.k.OA bC (λe=>n4 _ e O);refine OC$ Po.qb (e:=[(0,_),(4,_),(5,_),(7,_)]) ?_;refine Pn O$ qV (Sa (cs:=[_,_,_]) Pw O Wa O O)$ OT O (PG (news:=RB false (some x0)) Pw O O O O cC (by simp)) ?_;rintro w5 ⟨aO,aj⟩;replace aO:OP w5 b4 [.bool false,.bool true,I x0] 245:=aO;refine OC$ Pf func175 (.cell SB O Pw O (OP.cells (n:=3) aO (news:=[_,_,_]) O) O .nil) ?_
          have ek:∀b,Sz c V4 p b->b≠b4:=λb hb e=>by
           rcases hr.fp b hb with h5|h5
           ·exact n4 b h5 e
           ·have:=bC.lt;omega
          rw[ki]
          exact⟨_,rfl,rfl,V4,hr.m.kp aj ek,λb hb=>(hr.fp b hb).imp id (λe=>by have:=aG.size;omega),(aG.kp.trans hr.k).It aj (λj e=> .inl (by omega))⟩
        | false =>
          refine ON O ?_
          skip
          refine QX O$ PM O$ QX O$ OV O$ Po.qb (e:=[(0,_),(4,_),(5,_),(6,_),(7,_),(8,_),(10,_)]) ?_;refine An$ Qt O$ qS$ PM O$ Pa O$ qV ((RZ O))$ Pa O$ qV ((RZ O))$ QX O$ PM O$ OC$ OS O$ Pn O$ Pq O ?_;refine OW Qy O$ ON O$ P5 SL O (Qh eB (j:=0) (k:=x0) (by decide)) ?_;rintro _ w3 ⟨rfl,V3,ci⟩;have iV:(A.li 0).erase x0=r0:=by show A.once.erase x0=r0;rw[ho];simp
          rw[iV] at ci
          have dV:x0∉(A.Qi 0 r0).li 2:=by
           show x0∉A.P3;intro e;exact nd3 x0 (by rw[ho];simp) x0 (by simp[e]) O
          refine qM O$ ON O$ Pq O$ OW QN O$ ON O$ P5 Tr O (QP ci.m (j:=2) (k:=x0) (by decide) dV (by show A.P3.length<=_;exact Nat.le_trans gj (by decide))) ?_;rintro _ w4 ⟨rfl,V4,bG⟩;have hr:=(eB.r (Ext.refl w2)).trans (ci.trans bG);have cC:=hr.k.OA bC (λe=>n4 _ e O);refine OC$ Po.qb (e:=[(0,_),(4,_),(5,_),(7,_)]) ?_;refine Pn O$ qV (Sa (cs:=[_,_,_]) Pw O Wa O O)$ OT O (PG (news:=RB false (some x0)) Pw O O O O cC (by simp)) ?_;rintro w5 ⟨aO,aj⟩;replace aO:OP w5 b4 [.bool false,.bool true,I x0] 245:=aO;refine OC$ Pf func175 (.cell SB O Pw O (OP.cells (n:=3) aO (news:=[_,_,_]) O) O .nil) ?_
          have ek:∀b,Sz c V4 p b->b≠b4:=λb hb e=>by
           rcases hr.fp b hb with h5|h5
           ·exact n4 b h5 e
           ·have:=bC.lt;omega
          rw[ki];exact⟨_,rfl,rfl,V4,hr.m.kp aj ek,λb hb=>(hr.fp b hb).imp id (λe=>by have:=aG.size;omega),(aG.kp.trans hr.k).It aj (λj e=> .inl (by omega))⟩
       ·refine Pa O$ Pq O$ OW Rb O$ qV (OM U3 O O ak O)$ Rg O$ PH$ ON O ?_
        skip
        refine qS$ PM O$ PM O$ QX O$ OV O$ Po.qb (e:=[(0,_),(4,_),(5,_),(6,_),(7,_),(8,_),(10,_)]) ?_;refine An$ Qt O$ qS$ PM O$ Pa O$ qV ((RZ O))$ Pa O$ qV ((RZ O))$ QX O$ PM O$ OC$ OS O$ Pn O$ Pq O ?_;refine OW Qy O$ ON O$ P5 SL O (Qh eB (j:=0) (k:=x0) (by decide)) ?_;rintro _ w3 ⟨rfl,V3,ci⟩;have iV:(A.li 0).erase x0=r0:=by show A.once.erase x0=r0;rw[ho];simp
        rw[iV] at ci
        have dV:x0∉(A.Qi 0 r0).li 2:=by
         show x0∉A.P3;intro e;exact nd3 x0 (by rw[ho];simp) x0 (by simp[e]) O
        refine qM O$ ON O$ Pq O$ OW QN O$ ON O$ P5 Tr O (QP ci.m (j:=2) (k:=x0) (by decide) dV (by show A.P3.length<=_;exact Nat.le_trans gj (by decide))) ?_;rintro _ w4 ⟨rfl,V4,bG⟩;have hr:=(eB.r (Ext.refl w2)).trans (ci.trans bG);have cC:=hr.k.OA bC (λe=>n4 _ e O);refine OC$ Po.qb (e:=[(0,_),(4,_),(5,_),(7,_)]) ?_;refine Pn O$ qV (Sa (cs:=[_,_,_]) Pw O Wa O O)$ OT O (PG (news:=RB false (some x0)) Pw O O O O cC (by simp)) ?_;rintro w5 ⟨aO,aj⟩;replace aO:OP w5 b4 [.bool false,.bool true,I x0] 245:=aO;refine OC$ Pf func175 (.cell SB O Pw O (OP.cells (n:=3) aO (news:=[_,_,_]) O) O .nil) ?_
        have ek:∀b,Sz c V4 p b->b≠b4:=λb hb e=>by
         rcases hr.fp b hb with h5|h5
         ·exact n4 b h5 e
         ·have:=bC.lt;omega
        rw[ki]
        exact⟨_,rfl,rfl,V4,hr.m.kp aj ek,λb hb=>(hr.fp b hb).imp id (λe=>by have:=aG.size;omega),(aG.kp.trans hr.k).It aj (λj e=> .inl (by omega))⟩
    | cons x1 r1 =>
      have g0:XF A.once= .tuple #[I x0,.bool true]:=by rw[ho];rfl
      have g1:XF A.often= .tuple #[I x1,.bool true]:=by rw[hf];rfl
      rw[g0] at f0;rw[g1] at f1;refine OD$ Qt O$ Pq O$ OW Qy O$ P5 YX O (f0) ?_;rintro _ w2 ⟨rfl,rfl⟩;refine ON O$ qV (Ru (v:=I x0) O O)$ qV (Ru (v:= .bool true) O O)$ SA O$ QS O$ Pa O$ Pq O$ OW Rj O$ P5 YX O (f1) ?_;rintro _ w2 ⟨rfl,rfl⟩;refine ON O$ qV (Ru (v:=I x1) O O)$ qV (Ru (v:= .bool true) O O)$ Qm O$ Po.qb (e:=[(0,_),(1,_),(4,_),(5,_),(6,_),(7,_),(8,_)]) ?_;refine Pn O$ Pq O$ OW Qy O$ OW Qb O$ qV (OM R0 O O ak O)$ Rs R0 O$ QW O$ U8 O$ Rz$ ON O ?_
      by_cases h1:(A.once.length:Int)>A.target
      ·have ki:A.room bo=({A with once:=r0,P3:=A.P3++[x0]},some x0):=by unfold Arc.room;rw[if_pos cf,ho,hf];exact if_pos (by rw[<-ho];exact .inl h1)
       refine Pa O$ Pq O$ OW Rb O$ qV (OM U3 O O ak O)$ QB O$ Rz$ ON O$ QL$ QL$ QL$ QL$ qS$ QX O$ QX O ?_;refine OV O$ Po.qb (e:=[(0,_),(4,_),(5,_),(6,_),(7,_),(8,_),(10,_)]) ?_;refine An$ Qt O$ ON O$ QX O$ ON O$ QL$ QL$ QL$ QX O$ OC$ OS O$ Pn O$ Pq O$ OW Qy O ?_;refine ON O$ P5 SL O (Qh eB (j:=0) (k:=x0) (by decide)) ?_;rintro _ w3 ⟨rfl,V3,ci⟩;have iV:(A.li 0).erase x0=r0:=by show A.once.erase x0=r0;rw[ho];simp
       rw[iV] at ci
       have dV:x0∉(A.Qi 0 r0).li 2:=by
        show x0∉A.P3;intro e;exact nd3 x0 (by rw[ho];simp) x0 (by simp[e]) O
       refine qM O$ ON O$ Pq O$ OW QN O$ ON O$ P5 Tr O (QP ci.m (j:=2) (k:=x0) (by decide) dV (by show A.P3.length<=_;exact Nat.le_trans gj (by decide))) ?_;rintro _ w4 ⟨rfl,V4,bG⟩;have hr:=(eB.r (Ext.refl w2)).trans (ci.trans bG);have cC:=hr.k.OA bC (λe=>n4 _ e O);refine OC$ Po.qb (e:=[(0,_),(4,_),(5,_),(7,_)]) ?_;refine Pn O$ qV (Sa (cs:=[_,_,_]) Pw O Wa O O)$ OT O (PG (news:=RB false (some x0)) Pw O O O O cC (by simp)) ?_;rintro w5 ⟨aO,aj⟩;replace aO:OP w5 b4 [.bool false,.bool true,I x0] 245:=aO;refine OC$ Pf func175 (.cell SB O Pw O (OP.cells (n:=3) aO (news:=[_,_,_]) O) O .nil) ?_
       have ek:∀b,Sz c V4 p b->b≠b4:=λb hb e=>by
        rcases hr.fp b hb with h5|h5
        ·exact n4 b h5 e
        ·have:=bC.lt;omega
       rw[ki];exact⟨_,rfl,rfl,V4,hr.m.kp aj ek,λb hb=>(hr.fp b hb).imp id (λe=>by have:=aG.size;omega),(aG.kp.trans hr.k).It aj (λj e=> .inl (by omega))⟩
      ·refine Pa O$ Pq O$ OW Rb O$ qV (OM U3 O O ak O)$ QB O$ PH$ ON O ?_;by_cases h2:(A.once.length:Int)=A.target
       ·refine Pa O$ Pq O$ OW Rb O$ qV (OM U3 O O ak O)$ Rg O$ Rz$ ON O ?_
        cases bo with
        | true =>
          refine ON O ?_;have ki:A.room true=({A with once:=r0,P3:=A.P3++[x0]},some x0):=by unfold Arc.room;rw[if_pos cf,ho,hf];exact if_pos (by rw[<-ho];exact .inr ⟨h2,rfl⟩)
          refine QX O$ PM O$ QX O$ OV O$ Po.qb (e:=[(0,_),(4,_),(5,_),(6,_),(7,_),(8,_),(10,_)]) ?_;refine An$ Qt O$ ON O$ QX O$ ON O$ QL$ QL$ QL$ QX O$ OC$ OS O$ Pn O$ Pq O$ OW Qy O ?_;refine ON O$ P5 SL O (Qh eB (j:=0) (k:=x0) (by decide)) ?_;rintro _ w3 ⟨rfl,V3,ci⟩;have iV:(A.li 0).erase x0=r0:=by show A.once.erase x0=r0;rw[ho];simp
          rw[iV] at ci
          have dV:x0∉(A.Qi 0 r0).li 2:=by
           show x0∉A.P3;intro e;exact nd3 x0 (by rw[ho];simp) x0 (by simp[e]) O
          refine qM O$ ON O$ Pq O$ OW QN O$ ON O$ P5 Tr O (QP ci.m (j:=2) (k:=x0) (by decide) dV (by show A.P3.length<=_;exact Nat.le_trans gj (by decide))) ?_;rintro _ w4 ⟨rfl,V4,bG⟩;have hr:=(eB.r (Ext.refl w2)).trans (ci.trans bG);have cC:=hr.k.OA bC (λe=>n4 _ e O);refine OC$ Po.qb (e:=[(0,_),(4,_),(5,_),(7,_)]) ?_;refine Pn O$ qV (Sa (cs:=[_,_,_]) Pw O Wa O O)$ OT O (PG (news:=RB false (some x0)) Pw O O O O cC (by simp)) ?_;rintro w5 ⟨aO,aj⟩;replace aO:OP w5 b4 [.bool false,.bool true,I x0] 245:=aO;refine OC$ Pf func175 (.cell SB O Pw O (OP.cells (n:=3) aO (news:=[_,_,_]) O) O .nil) ?_
          have ek:∀b,Sz c V4 p b->b≠b4:=λb hb e=>by
           rcases hr.fp b hb with h5|h5
           ·exact n4 b h5 e
           ·have:=bC.lt;omega
          rw[ki]
          exact⟨_,rfl,rfl,V4,hr.m.kp aj ek,λb hb=>(hr.fp b hb).imp id (λe=>by have:=aG.size;omega),(aG.kp.trans hr.k).It aj (λj e=> .inl (by omega))⟩
        | false =>
          refine ON O ?_;have ki:A.room false=({A with often:=r1,OX:=A.OX++[x1]},some x1):=by unfold Arc.room;rw[if_pos cf,ho,hf];exact if_neg (by rw[<-ho];rintro(e|⟨e,e2⟩);exact h1 e;cases e2)
          refine QX O$ PM O$ QX O$ OV O$ Po.qb (e:=[(0,_),(4,_),(5,_),(6,_),(7,_),(8,_),(10,_)]) ?_;refine An$ Qt O$ qS$ PM O$ Pa O$ qV ((RZ O))$ Pa O$ qV ((RZ O))$ QX O$ PM O$ Qg O$ Pn O$ Pq O$ OW Rj O ?_;refine ON O$ P5 SL O (Qh eB (j:=1) (k:=x1) (by decide)) ?_;rintro _ w3 ⟨rfl,V3,ci⟩;have iV:(A.li 1).erase x1=r1:=by show A.often.erase x1=r1;rw[hf];simp
          rw[iV] at ci
          have dV:x1∉(A.Qi 1 r1).li 3:=by
           show x1∉A.OX;intro e;exact nd6 x1 (by rw[hf];simp) x1 (by simp[e]) O
          refine qM O$ ON O$ Pq O$ OW Re O$ ON O$ P5 Tr O (QP ci.m (j:=3) (k:=x1) (by decide) dV (by show A.OX.length<=_;exact Nat.le_trans lZ (by decide))) ?_;rintro _ w4 ⟨rfl,V4,bG⟩;have hr:=(eB.r (Ext.refl w2)).trans (ci.trans bG);have cC:=hr.k.OA bC (λe=>n4 _ e O);refine OC$ Po.qb (e:=[(4,_),(7,_)]) ?_;refine Pn O$ qV (Sa (cs:=[_,_,_]) Pw O Wa O O)$ OT O (PG (news:=RB false (some x1)) Pw O O O O cC (by simp)) ?_;rintro w5 ⟨aO,aj⟩;replace aO:OP w5 b4 [.bool false,.bool true,I x1] 245:=aO;refine OC$ Pf func175 (.cell SB O Pw O (OP.cells (n:=3) aO (news:=[_,_,_]) O) O .nil) ?_
          have ek:∀b,Sz c V4 p b->b≠b4:=λb hb e=>by
           rcases hr.fp b hb with h5|h5
           ·exact n4 b h5 e
           ·have:=bC.lt;omega
          rw[ki];exact⟨_,rfl,rfl,V4,hr.m.kp aj ek,λb hb=>(hr.fp b hb).imp id (λe=>by have:=aG.size;omega),(aG.kp.trans hr.k).It aj (λj e=> .inl (by omega))⟩
       ·refine Pa O$ Pq O$ OW Rb O$ qV (OM U3 O O ak O)$ Rg O$ PH$ ON O ?_;have ki:A.room bo=({A with often:=r1,OX:=A.OX++[x1]},some x1):=by unfold Arc.room;rw[if_pos cf,ho,hf];exact if_neg (by rw[<-ho];rintro(e|⟨e,e2⟩);exact h1 e;exact h2 e)
        refine qS$ PM O$ PM O$ QX O$ OV O$ Po.qb (e:=[(0,_),(4,_),(5,_),(6,_),(7,_),(8,_),(10,_)]) ?_;refine An$ Qt O$ qS$ PM O$ Pa O$ qV ((RZ O))$ Pa O$ qV ((RZ O))$ QX O$ PM O$ Qg O$ Pn O$ Pq O$ OW Rj O ?_;refine ON O$ P5 SL O (Qh eB (j:=1) (k:=x1) (by decide)) ?_;rintro _ w3 ⟨rfl,V3,ci⟩;have iV:(A.li 1).erase x1=r1:=by show A.often.erase x1=r1;rw[hf];simp
        rw[iV] at ci
        have dV:x1∉(A.Qi 1 r1).li 3:=by
         show x1∉A.OX;intro e;exact nd6 x1 (by rw[hf];simp) x1 (by simp[e]) O
        refine qM O$ ON O$ Pq O$ OW Re O$ ON O$ P5 Tr O (QP ci.m (j:=3) (k:=x1) (by decide) dV (by show A.OX.length<=_;exact Nat.le_trans lZ (by decide))) ?_;rintro _ w4 ⟨rfl,V4,bG⟩;have hr:=(eB.r (Ext.refl w2)).trans (ci.trans bG);have cC:=hr.k.OA bC (λe=>n4 _ e O);refine OC$ Po.qb (e:=[(4,_),(7,_)]) ?_;refine Pn O$ qV (Sa (cs:=[_,_,_]) Pw O Wa O O)$ OT O (PG (news:=RB false (some x1)) Pw O O O O cC (by simp)) ?_;rintro w5 ⟨aO,aj⟩;replace aO:OP w5 b4 [.bool false,.bool true,I x1] 245:=aO;refine OC$ Pf func175 (.cell SB O Pw O (OP.cells (n:=3) aO (news:=[_,_,_]) O) O .nil) ?_
        have ek:∀b,Sz c V4 p b->b≠b4:=λb hb e=>by
         rcases hr.fp b hb with h5|h5
         ·exact n4 b h5 e
         ·have:=bC.lt;omega
        rw[ki];exact⟨_,rfl,rfl,V4,hr.m.kp aj ek,λb hb=>(hr.fp b hb).imp id (λe=>by have:=aG.size;omega),(aG.kp.trans hr.k).It aj (λj e=> .inl (by omega))⟩
end
def Arc.Ok.zjl {A:Arc}(h:A.Ok):(A.Qi 2 (A.P3.drop 1)).Ok:=by
 have hs:(A.Qi 2 (A.P3.drop 1)).all.Sublist A.all:=(((List.drop_sublist 1 A.P3).append_right A.OX).append_left A.often).append_left A.once
 have:=h.first
 have h2:=hs.length_le
 have h3:=h.total
 exact⟨h.pos,h.nd.sublist hs,h.held,by show A.once.length+(A.P3.drop 1).length<=A.size;rw[List.length_drop];omega,Nat.le_trans h2 h3,h.tg⟩
def Arc.Ok.ziW {A:Arc}(h:A.Ok):(A.Qi 3 (A.OX.drop 1)).Ok:=by
 have hs:(A.Qi 3 (A.OX.drop 1)).all.Sublist A.all:=(((List.drop_sublist 1 A.OX).append_left A.P3).append_left A.often).append_left A.once
 exact⟨h.pos,h.nd.sublist hs,h.held,h.first,Nat.le_trans hs.length_le h.total,h.tg⟩
section
variable {w w' w2:World}{c p:Nat}{A A':Arc}{V V':Nat->Value×Value}{k:Int}
def SQ.head (h:SQ w c A V p){j:Nat}(hj:j<4){x:Int}{r:List Int}(hl:A.li j=x::r):∃b o cp,(V j).1= .slice (some ⟨b,o,none⟩) (A.li j).length cp/\w.cell? ⟨b,o+0*1,none⟩=some (I x):=by
 have hR:=(h.q j hj).sl.rd
 rcases hR.2 with⟨c,hc,h0⟩|⟨b,off,c',hc,-⟩
 ·rw[hl] at h0;simp at h0
 ·rw[hc] at hR;exact⟨b,off,c',hc,PU hR (i:=0) (by rw[hl];rfl)⟩
theorem z0U (h:SQ w c A V p)(hA:A.Ok)(cD:A.size<=1000):Pm prog 176 [ptr c 0] w λv w'=>v=zd7 false A.add.2/\∃V',Wf w c V p w' A.add.1 V':=by
 have tW:=hA.lens cD 0
 have jh:=hA.lens cD 1
 have gj:=hA.lens cD 2
 have lZ:=hA.lens cD 3
 have iC:=hA.pos
 have cQ:=A.QO
 have wU:=hA.held
 have O8:=hA.first
 have fj:=hA.total
 have aS:∀{b:Nat},Sz c V p b->b<w.heap.size:=h.lt
 rw[show A.li 0=A.once from rfl] at tW
 rw[show A.li 1=A.often from rfl] at jh
 rw[show A.li 2=A.P3 from rfl] at gj
 rw[show A.li 3=A.OX from rfl] at lZ
 have hB:=h.cells
 obtain⟨a0,c0,e0,-⟩:∃a c,(V 0).1= .slice a A.once.length c/\_:=(h.q 0 (by decide)).sl.rd.shape
 obtain⟨a1,c1,e1,-⟩:∃a c,(V 1).1= .slice a A.often.length c/\_:=(h.q 1 (by decide)).sl.rd.shape
 obtain⟨a2,c2,e2,-⟩:∃a c,(V 2).1= .slice a A.P3.length c/\_:=(h.q 2 (by decide)).sl.rd.shape
 obtain⟨a3,c3,e3,-⟩:∃a c,(V 3).1= .slice a A.OX.length c/\_:=(h.q 3 (by decide)).sl.rd.shape
 rw[e0,e1,e2,e3] at hB
 refine py (e:=[(0,_)]) func176 O ntmps176 O O$ qN O$ OJ O O (Ry (cs:=[_,_,_]) Pw O) ?_
 rintro _ w1 ⟨b2,rfl,bN,ad,ak⟩
 replace ak:OP w1 b2 [.bool false,.bool false,I 0] 245:=ak
 have n2:∀b,Sz c V p b->b≠b2:=λb hb e=>by have:=aS hb;omega
 have ai:=ad.OA hB
 have bh:=Ext.P4 w1
 refine OC$ An$ QV (λw'=>Ext w1 w') O$ OZ 0 O O (bh)$ OG 1 O (Q8 O) bh$ OG 2 O (Pr Qy O) bh$ OG 3 O (Pr Qb O) bh$ qT 4 O (λ_ h=>OM R0 O O (h.OA ai) O) bh$ OG 5 O (SE R0 O) bh$ OZ 6 O O (bh)$ OG 7 O (Q8 O) bh$ OG 8 O (Pr QN O) bh$ OG 9 O (Pr Qb O) bh$ qT 10 O (λ_ h=>OM R0 O O (h.OA ai) O) bh ?_
 refine OG 11 O (SE R0 O) bh$ OG 12 O (UO O O (by omega)) bh$ OG 13 O (Rp O) bh$ qE$ An ?_
 rw[show(A.once.length:Int)+(A.P3.length:Int)=((A.once.length+A.P3.length:Nat):Int) by omega]
 have aa:=Ext.P4 w1.drew
 have mO:=bh.OA ai
 refine QV (λw'=>Ext w1.drew w') O$ OZ 0 O O (aa)$ OZ 1 O O (aa)$ OG 2 O (Q8 O) aa$ OG 3 O (Pr Rj O) aa$ OG 4 O (Pr Qb O) aa$ qT 5 O (λ_ h=>OM R0 O O (h.OA mO) O) aa$ OG 6 O (SE R0 O) aa$ OG 7 O (UO O O (by omega)) aa$ OZ 8 O O (aa)$ OG 9 O (Q8 O) aa$ OG 10 O (Pr Re O) aa$ OG 11 O (Pr Qb O) aa$ qT 12 O (λ_ h=>OM R0 O O (h.OA mO) O) aa ?_
 refine OG 13 O (SE R0 O) aa$ OG 14 O (UO O O (by omega)) aa$ OG 15 O (Rp O) aa ?_
 rw[show((A.once.length+A.P3.length:Nat):Int)+(A.often.length:Int)+(A.OX.length:Int)=(A.all.length:Int) by omega]
 have ae:=(ad.trans bh).trans aa
 obtain⟨w2,nB⟩:∃w2,w1.drew.drew=w2:=⟨_,rfl⟩
 rw[nB] at ae
 have aJ:=bh.trans aa
 rw[nB] at aJ⊢
 have h2:=h.ext ae
 have mP:=h2.cells
 rw[e0,e1,e2,e3] at mP
 have iI:=aJ.OA ak
 have ag:=Ext.P4 w2
 refine qE$ Po.qb (e:=[(0,_),(2,_),(3,_),(4,_)]) ?_
 refine An$ PD (λe' w'=>e'=[(0,ptr c 0),(2,ptr b2 0)]/\∃A' V',A'.Ok/\A'.size=A.size/\Wf w2 c V p w' A' V'/\OP w' b2 [.bool false,.bool false,I 0] 245/\A.add=A'.room false/\w2.heap.size<=w'.heap.size) ?cZ$ λcZ=>?iW
 case cZ=>
  rintro e' w3 ⟨rfl,A',V',M5,zW,ci,ar,dW,z3⟩;refine Pn O$ P5 z1g O (TG ci.m M5 (by omega) false) ?_;rintro _ w4 ⟨rfl,V4,bG⟩;have hr:=ci.trans bG
  have n3:∀b,Sz c V' p b->b≠b2:=λb hb e=>by
   rcases ci.fp b hb with h5|h5
   ·exact n2 b h5 e
   ·have:=iI.lt;omega
  have n4:∀b,Sz c V4 p b->b≠b2:=λb hb e=>by
   rcases hr.fp b hb with h5|h5
   ·exact n2 b h5 e
   ·have:=iI.lt;omega
  have fP:=bG.k.OA ar (λe=>n3 _ e O);obtain⟨g,hg⟩:∃g,(A'.room false).2=g:=⟨_,rfl⟩;rw[hg];refine OT O (PG (news:=RB false g) Pw O O O O fP (by simp)) ?_;rintro w5 ⟨dK,aj⟩;replace dK:OP w5 b2 [.bool false,.bool g.isSome,I (g.getD 0)] 245:=dK;refine OC$ Pf func176 (.cell SB O Pw O (OP.cells (n:=3) dK (news:=[_,_,_]) O) O .nil) ?_;rw[dW,hg];have z1:=ad.size;have z2:=ae.size;exact⟨_,rfl,rfl,V4,hr.m.kp aj n4,λb hb=>(hr.fp b hb).imp id (λe=>by omega),(ae.kp.trans hr.k).It aj (λj e=> .inl (by omega))⟩
 case iW =>
  have e13:(A.all.length:Int)=(A.all.length:Int):=rfl;have h3:=h2.ext ag;have rA:=ag.OA mP;have bF:=ag.OA iI;have z1:=ad.size;have z2:=ae.size;by_cases hf:A.once.length+A.P3.length=A.size
  ·by_cases ho:A.once.length<A.size
   ·refine OE$ An$ QV (λw'=>Ext w2 w') O$ OZ 0 O O (ag)$ OZ 1 O O (ag)$ OG 2 O (Q8 O) ag$ OG 3 O (Pr Sw O) ag$ qT 4 O (λ_ h=>OM U3 O O (h.OA mP) O) ag$ OG 5 O (yeq O O) ag$ TL$ OZ 6 O O (ag)$ OZ 7 O O (ag)$ OG 8 O (Q8 O) ag$ OG 9 O (Pr Qy O) ag ?_;refine OG 10 O (Pr Qb O) ag$ qT 11 O (λ_ h=>OM R0 O O (h.OA mP) O) ag$ OG 12 O (SE R0 O) ag$ OZ 13 O O (ag)$ OG 14 O (Q8 O) ag$ OG 15 O (Pr Sw O) ag$ qT 16 O (λ_ h=>OM U3 O O (h.OA mP) O) ag$ OG 17 O (ylt O O) ag$ TL$ OG 18 O (Uu O O) ag$ OG 19 O (Rp O) ag$ qE$ OS O ?_
    obtain⟨x,r,hw⟩:∃x r,A.P3=x::r:=by
     cases hx:A.P3 with
     |nil=>rw[hx] at hf;simp at hf;omega
     |cons x r=>exact⟨x,r,rfl⟩
    obtain⟨lb,lo,lc,zX,-⟩:=h2.head (j:=2) (by decide) hw;rw[e2] at zX;cases zX;have di:=(h3.q 2 (by decide)).sl.rd;rw[e2] at di;have sM:0<A.P3.length:=by rw[hw];simp
    have jY:((A.li 2).map I)[0]? =some (I x):=by show(A.P3.map I)[0]? =_;rw[hw];rfl
    have af:=Ext.P4 w2.drew;refine P9 [10] (λw'=>Ext w2.drew w') (by kernel_rfl) O$ PQ 0 O O (af)$ Pl 1 O (Q8 O) af$ Pl 2 O (Pr QN O) af$ PQ 3 O O (af)$ Pl 4 O (Q8 O) af$ Pl 5 O (Pr QN O) af$ Pl 6 O (Pr Qb O) af$ qL 7 O (λ_ h=>OM R0 O O (h.OA (ag.OA mP)) O) af$ Pl 8 O (PR R0 PV O O (by omega)) af$ qL 9 O (λ_ h=>Ps U3 O O (PU (di.ext h) (i:=0) jY)) af$ Tt [10]$ RT 10 O SL O (Qh (h3.ext af) (j:=2) (k:=x) (by decide)) ?_;rintro _ w5 ⟨rfl,V5,bP⟩;refine⟨trivial,?_⟩;have zY:(A.li 2).erase x=A.P3.drop 1:=by show A.P3.erase x=A.P3.drop 1;rw[hw];simp
    rw[zY] at bP;have fF:=(h2.r (ag.trans af)).trans bP;have dK:=fF.k.OA iI (λe=>n2 _ e O);refine qE$ Po.qb (e:=[(0,_),(2,_)]) ?_;refine Oz ?_;exact(cZ _ _ ⟨rfl,_,V5,hA.zjl,(z0n A (j:=2) (by decide) _).1,fF,dK,by unfold Arc.add;rw[if_pos hf,if_pos ho];rfl,fF.k.size⟩).qb
   ·refine OE$ An$ QV (λw'=>Ext w2 w') O$ OZ 0 O O (ag)$ OZ 1 O O (ag)$ OG 2 O (Q8 O) ag$ OG 3 O (Pr Sw O) ag$ qT 4 O (λ_ h=>OM U3 O O (h.OA mP) O) ag$ OG 5 O (yeq O O) ag$ TL$ OZ 6 O O (ag)$ OZ 7 O O (ag)$ OG 8 O (Q8 O) ag$ OG 9 O (Pr Qy O) ag ?_;refine OG 10 O (Pr Qb O) ag$ qT 11 O (λ_ h=>OM R0 O O (h.OA mP) O) ag$ OG 12 O (SE R0 O) ag$ OZ 13 O O (ag)$ OG 14 O (Q8 O) ag$ OG 15 O (Pr Sw O) ag$ qT 16 O (λ_ h=>OM U3 O O (h.OA mP) O) ag$ OG 17 O (ylt O O) ag$ TD$ OG 18 O (Uu O O) ag$ OG 19 O (Rp O) ag$ qE$ OL O$ Qt O ?_;refine Pq O$ OW Sw O$ qV (OM U3 O O rA O)$ Rg O$ Rz$ OV O$ Po.qb (e:=[(0,_),(2,_),(4,_),(66,_)]) ?_;refine OS O$ Qt O$ Pq O$ OW Qy O ?_
    obtain⟨x,r,hw⟩:∃x r,A.once=x::r:=by
     cases hx:A.once with
     |nil=>rw[hx] at ho;simp at ho;omega
     |cons x r=>exact⟨x,r,rfl⟩
    have f0:=Vs h3 (j:=0) (by decide);rw[show A.li 0=A.once from rfl,show XF A.once= .tuple #[I x,.bool true] by rw[hw];rfl] at f0;obtain⟨w3,rB⟩:∃w3,w2.drew=w3:=⟨_,rfl⟩;rw[rB] at f0 h3 bF ag⊢;refine P5 YX O (f0) ?_;rintro _ w3 ⟨rfl,rfl⟩;refine ON O$ qV (Ru (v:=I x) O O)$ qV (Ru (v:= .bool true) O O)$ SA O$ QW O$ Pq O$ OW Qy O$ ON O$ P5 SL O (Qh h3 (j:=0) (k:=x) (by decide)) ?_;rintro _ w5 ⟨rfl,V5,bP⟩;have zY:(A.li 0).erase x=A.once.drop 1:=by show A.once.erase x=A.once.drop 1;rw[hw];simp
    rw[zY] at bP;have fF:=(h2.r ag).trans bP;have dK:=fF.k.OA iI (λe=>n2 _ e O);refine qM O$ ON O$ qV (Sa (cs:=[_,_,_]) Pw O Wa O O)$ OT O (PG (news:=RB false (some x)) Pw O O O O dK (by simp)) ?_;rintro w6 ⟨gY,aM⟩;replace gY:OP w6 b2 [.bool false,.bool true,I x] 245:=gY;refine OC$ Pf func176 (.cell SB O Pw O (OP.cells (n:=3) gY (news:=[_,_,_]) O) O .nil) ?_
    have n5:∀b,Sz c V5 p b->b≠b2:=λb hb e=>by
     rcases fF.fp b hb with h5|h5
     ·exact n2 b h5 e
     ·have:=iI.lt;omega
    have dW:A.add=(A.Qi 0 (A.once.drop 1),some x):=by unfold Arc.add;rw[if_pos hf,if_neg ho,hw];rfl
    rw[dW];exact⟨_,rfl,rfl,V5,fF.m.kp aM n5,λb hb=>(fF.fp b hb).imp id (λe=>by omega),(ae.kp.trans fF.k).It aM (λj e=> .inl (by omega))⟩
  ·refine OE$ An$ QV (λw'=>Ext w2 w') O$ OZ 0 O O (ag)$ OZ 1 O O (ag)$ OG 2 O (Q8 O) ag$ OG 3 O (Pr Sw O) ag$ qT 4 O (λ_ h=>OM U3 O O (h.OA mP) O) ag$ OG 5 O (yeq O O) ag$ TD$ OZ 6 O O (ag)$ qJ 7 O (ag)$ qJ 8 O (ag)$ qJ 9 O (ag) ?_;refine qJ 10 O (ag)$ qJ 11 O (ag)$ qJ 12 O (ag)$ qJ 13 O (ag)$ qJ 14 O (ag)$ qJ 15 O (ag)$ qJ 16 O (ag)$ qJ 17 O (ag)$ OG 18 O (U0 O O) ag$ OG 19 O (Rp O) ag$ qE$ OL O$ Qt O$ Pq O ?_;refine OW Sw O$ qV (OM U3 O O rA O)$ Rg O$ PH$ OV O$ Po.qb (e:=[(0,_),(2,_),(4,_),(66,_)]) ?_;refine OL O$ Qt O$ Pq O$ OW Sw O$ qV (OM U3 O O rA O) ?_;by_cases h4:A.all.length<A.size
   ·refine Qw O$ Rz$ OV O$ OS O$ qN O$ qV (Sa (cs:=[_,_,_]) Pw O Wa O O)$ OT O (PG (news:=RB false none) Pw O O O O bF (by simp)) ?_;rintro w5 ⟨dK,aj⟩;replace dK:OP w5 b2 [.bool false,.bool false,I 0] 245:=dK;refine OC$ Pf func176 (.cell SB O Pw O (OP.cells (n:=3) dK (news:=[_,_,_]) O) O .nil) ?_;have dW:A.add=(A,none):=by unfold Arc.add;rw[if_neg hf,if_pos h4]
    rw[dW];exact⟨_,rfl,rfl,V,h3.kp aj n2,λb hb=> .inl hb,((ae.trans ag).It aj (λj e=>by omega)).kp⟩
   ·refine Qw O$ PH$ OV O$ OL O$ Qt O$ Pq O$ OW Sw O$ qV (OM U3 O O rA O)$ qV (Yb O O (by omega)) ?_;by_cases h5:A.all.length=2*A.size
    ·refine Rg O$ Rz$ OV O$ OS O ?_
     obtain⟨x,r,hw⟩:∃x r,A.OX=x::r:=by
      cases hx:A.OX with
      |nil=>rw[hx] at cQ;simp at cQ;omega
      |cons x r=>exact⟨x,r,rfl⟩
     obtain⟨lb,lo,lc,zX,-⟩:=h2.head (j:=3) (by decide) hw;rw[e3] at zX;cases zX;have di:=(h3.q 3 (by decide)).sl.rd;rw[e3] at di;have sM:0<A.OX.length:=by rw[hw];simp
     have jY:((A.li 3).map I)[0]? =some (I x):=by show(A.OX.map I)[0]? =_;rw[hw];rfl
     have af:=Ext.P4 w2.drew;refine P9 [10] (λw'=>Ext w2.drew w') (by kernel_rfl) O$ PQ 0 O O (af)$ Pl 1 O (Q8 O) af$ Pl 2 O (Pr Re O) af$ PQ 3 O O (af)$ Pl 4 O (Q8 O) af$ Pl 5 O (Pr Re O) af$ Pl 6 O (Pr Qb O) af$ qL 7 O (λ_ h=>OM R0 O O (h.OA (ag.OA mP)) O) af$ Pl 8 O (PR R0 PV O O (by omega)) af$ qL 9 O (λ_ h=>Ps U3 O O (PU (di.ext h) (i:=0) jY)) af$ Tt [10]$ RT 10 O SL O (Qh (h3.ext af) (j:=3) (k:=x) (by decide)) ?_;rintro _ w5 ⟨rfl,V5,bP⟩;refine⟨trivial,?_⟩;have zY:(A.li 3).erase x=A.OX.drop 1:=by show A.OX.erase x=A.OX.drop 1;rw[hw];simp
     rw[zY] at bP;have fF:=(h2.r (ag.trans af)).trans bP;have dK:=fF.k.OA iI (λe=>n2 _ e O);refine qE$ Po.qb (e:=[(0,_),(2,_)]) ?_;refine Oz ?_;exact(cZ _ _ ⟨rfl,_,V5,hA.ziW,(z0n A (j:=3) (by decide) _).1,fF,dK,by unfold Arc.add;rw[if_neg hf,if_neg h4,if_pos h5];rfl,fF.k.size⟩).qb
    ·refine Rg O$ PH$ OV O$ SH O$ Oz ?_;exact(cZ _ _ ⟨rfl,A,V,hA,rfl,h2.r ag,bF,by unfold Arc.add;rw[if_neg hf,if_neg h4,if_neg h5],ag.size⟩).qb
end
section
variable {w w' w2:World}{c p:Nat}{A A':Arc}{V V' V2:Nat->Value×Value}{k:Int}
def SQ.Z6 (h:SQ w c A V p){T:Int}(hB:OP w' c (acC A.size T V p) 173)(hk:Kp (λb=>b=c) w w'):Wf w c V p w' {A with target:=T} V:=
 ⟨⟨hB,λj hj=>by
  have e:({A with target:=T}:Arc).li j=A.li j:=by match j,hj with|0,_|1,_|2,_|3,_=>rfl
  rw[e]
  exact(h.q j hj).kp hk λb hb e=>h.nc j hj (e▸hb),hk.map h.pins (λe=>h.cp e.symm),h.Vm,h.nc,h.np,h.cp⟩,λb hb=> .inl hb,hk.OH λb e=> .inl e⟩
def Arc.Ok.Z6 (h:A.Ok){T:Int}(hT:0<=T/\T<=A.size):({A with target:=T}:Arc).Ok:=⟨h.pos,h.nd,h.held,h.first,h.total,hT⟩
def Wf.mono (h:Wf w c V p w' A' V'){b:Nat}(hb:∀j,Sz c V p j->j≠b)(hw:b<w.heap.size):∀j,Sz c V' p j->j≠b:=λj hj e=>by
 rcases h.fp j hj with h5|h5
 ·exact hb j h5 e
 ·omega
theorem z6E (h:SQ w c A V p)(hA:A.Ok)(cD:A.size<=1000):Pm prog 143 [ptr c 0,I k] w λv w'=>v= .tuple #[zd7 (A.Rm k).2.1 (A.Rm k).2.2,I 0]/\∃V',Wf w c V p w' (A.Rm k).1 V':=by
 have jh:=hA.lens cD 1
 have gj:=hA.lens cD 2
 have lZ:=hA.lens cD 3
 have Fo:=hA.tg
 have iC:=hA.pos
 have cQ:=A.QO
 have fj:=hA.total
 have eW:=hA.nd
 unfold Arc.all at eW
 rw[List.nodup_append] at eW
 obtain⟨nd1,nd2,nd3⟩:=eW
 rw[List.nodup_append] at nd2
 obtain⟨nd4,nd5,nd6⟩:=nd2
 have aS:∀{b:Nat},Sz c V p b->b<w.heap.size:=h.lt
 rw[show A.li 1=A.often from rfl] at jh
 rw[show A.li 2=A.P3 from rfl] at gj
 rw[show A.li 3=A.OX from rfl] at lZ
 refine py (e:=[(0,_),(1,_)]) func143 O ntmps143 O O$ qN O$ OJ O O (Ry (cs:=[_,_,_]) Pw O) ?_
 rintro _ w1 ⟨b4,rfl,fZ,ad,aK⟩
 replace aK:OP w1 b4 [.bool false,.bool false,I 0] 245:=aK
 have n4:∀b,Sz c V p b->b≠b4:=λb hb e=>by have:=aS hb;omega
 have l4:=aK.lt
 have h1:=h.ext ad
 have z1:=ad.size
 refine OV O$ PK O$ qV (PY zaC O O)$ Qg O$ An$ Qt O$ P5 zeo O (z2P h1 (k:=k)) ?_
 rintro _ w1 ⟨rfl,rfl⟩
 by_cases bD:k∈A.once\/k∈A.often
 ·rw[decide_eq_true bD];refine OC$ OS O$ Pn O$ Pq O$ OW Qy O$ ON O$ P5 SL O (Qh h1 (j:=0) (k:=k) (by decide)) ?_;rintro _ w2 ⟨rfl,V2,dt⟩;refine qM O$ ON O$ Pq O$ OW Rj O$ ON O$ P5 SL O (Qh dt.m (j:=1) (k:=k) (by decide)) ?_;rintro _ w3 ⟨rfl,V3,ci⟩;refine qM O$ ON O$ Pq O$ OW Rj O$ ON O ?_
  have pV:k∉((A.Qi 0 ((A.li 0).erase k)).Qi 1 (((A.Qi 0 ((A.li 0).erase k)).li 1).erase k)).li 1:=by
   show k∉A.often.erase k;exact nd4.not_mem_erase
  have io:(((A.Qi 0 ((A.li 0).erase k)).Qi 1 (((A.Qi 0 ((A.li 0).erase k)).li 1).erase k)).li 1).length<=8191:=by
   show(A.often.erase k).length<=_;have:=(List.length_erase_le:(A.often.erase k).length<=A.often.length);omega
  refine P5 Tr O (QP ci.m (j:=1) (k:=k) (by decide) pV io) ?_;rintro _ w4 ⟨rfl,V4,bG⟩;have hr:=(dt.trans ci).trans bG;have cC:=hr.k.OA aK (λe=>n4 _ e O);refine qM O$ qV (Sa (cs:=[_,_,_]) Pw O Wa O O)$ OT O (PG (news:=RB true none) Pw O O O O cC (by simp)) ?_;rintro w5 ⟨aO,aj⟩;replace aO:OP w5 b4 [.bool true,.bool false,I 0] 245:=aO;refine OV O$ Po.qb (e:=[(0,_),(1,_),(4,_),(5,_)]) ?_;refine Pf func143 (.cell SB O Pw O (OP.cells (n:=3) aO (news:=[_,_,_]) O) O (.tmp O .nil)) ?_;have fj:A.Rm k=({A with once:=A.once.erase k,often:=A.often.erase k++[k]},true,none):=by unfold Arc.Rm;rw[if_pos bD]
  rw[fj];exact⟨_,rfl,rfl,V4,hr.m.kp aj (hr.mono n4 l4),λb hb=>(hr.fp b hb).imp id (λe=>by omega),(ad.kp.trans hr.k).It aj (λj e=> .inl (by omega))⟩
 ·rw [decide_eq_false bD]; have fY : k ∉ A.once := λe => bD (.inl e); have az : k ∉ A.often := λe => bD (.inr e); have mF : ¬ A.held k := bD; refine OC (OL O ?_); have f0 := Vs h1 (j := 0) (by decide); have f1 := Vs h1 (j := 1) (by decide); rw [show A.li 0 = A.once from rfl] at f0; rw [show A.li 1 = A.often from rfl] at f1
  obtain⟨v0,o0,e0,q0⟩:∃x o,XF A.once= .tuple #[I x,.bool o]/\(o=true↔A.once≠[]):=by
   cases A.once with
   |nil=>exact⟨_,_,rfl,by simp⟩
   |cons x r=>exact⟨_,_,rfl,by simp⟩
  obtain⟨v1,o1,e1,q1⟩:∃x o,XF A.often= .tuple #[I x,.bool o]/\(o=true↔A.often≠[]):=by
   cases A.often with
   |nil=>exact⟨_,_,rfl,by simp⟩
   |cons x r=>exact⟨_,_,rfl,by simp⟩
  rw[e0] at f0;rw[e1] at f1;refine OD$ Qt O$ Pq O$ OW Qy O$ P5 YX O (f0) ?_;rintro _ w1 ⟨rfl,rfl⟩;refine ON O$ qV (Ru (v:=I v0) O O)$ qV (Ru (v:= .bool o0) O O)$ SA O$ QS O$ Pa O$ Pq O$ OW Rj O$ P5 YX O (f1) ?_;rintro _ w1 ⟨rfl,rfl⟩;refine ON O$ qV (Ru (v:=I v1) O O)$ qV (Ru (v:= .bool o1) O O)$ Qm O$ Po.qb (e:=[(0,_),(1,_),(4,_),(5,_),(7,_),(9,_)]) ?_;refine PK O$ P5 zee O (z2h h1 hA cD) ?_;rintro _ w2 ⟨rfl,ae⟩;have h2:=h1.ext ae;have bC:=ae.OA aK;have aG:=ad.trans ae;have z2:=ae.size;have fk:=h2.cells;have aa:=Ext.P4 w2;obtain⟨a2,c2,e2,-⟩:∃a c,(V 2).1= .slice a A.P3.length c/\_:=(h.q 2 (by decide)).sl.rd.shape;obtain⟨a3,c3,e3,-⟩:∃a c,(V 3).1= .slice a A.OX.length c/\_:=(h.q 3 (by decide)).sl.rd.shape;rw[e2,e3] at fk;have nB:=Vw h2 (j:=2) (k:=k) (by decide);have rB:=Vw h2 (j:=3) (k:=k) (by decide);rw[show A.li 2=A.P3 from rfl] at nB;rw[show A.li 3=A.OX from rfl] at rB;have n4':∀b,Sz c V p b->b≠b4:=n4;have l42:b4<w2.heap.size:=by omega
  by_cases cf:A.once.length+A.often.length=A.size
  ·rw [decide_eq_true cf]
   cases IL:o0 with
   | true =>
     subst IL;refine Pa O$ qV ((RZ O))$ QX O$ ON O$ QL$ PM O$ Qg O$ QA$ Pn O$ Pq O$ OW QN O$ ON O$ P5 XD O (nB) ?_;rintro _ w2 ⟨rfl,rfl⟩;by_cases hg:k∈A.P3
     ·rw[decide_eq_true hg];refine OV O$ OS O$ An ?_;have sM:0<A.P3.length:=List.length_pos_of_mem hg;obtain⟨q,hq⟩:∃q,A.OX.length / A.P3.length=q:=⟨_,rfl⟩;have gz:q<=2000:=by rw[<-hq];exact Nat.le_trans (Nat.div_le_self _ _) lZ
      have nC:(A.OX.length:Int) / (A.P3.length:Int)=(q:Int):=by rw[<-hq];exact(Int.natCast_ediv _ _).symm
      refine P9 [27] (λw'=>Ext w2 w') (by kernel_rfl) O$ PQ 0 O O (aa)$ PQ 1 O O (aa)$ Pl 2 O (Q8 O) aa$ Pl 3 O (Pr Sw O) aa$ qL 4 O (λ_ h=>OM U3 O O (h.OA fk) O) aa$ PQ 5 O O (aa)$ Pl 6 O (Q8 O) aa$ Pl 7 O (Pr Rb O) aa$ qL 8 O (λ_ h=>OM U3 O O (h.OA fk) O) aa$ PQ 9 O O (aa)$ Pl 10 O (Q8 O) aa$ Pl 11 O (Pr Re O) aa$ Pl 12 O (Pr Qb O) aa ?_;refine qL 13 O (λ_ h=>OM R0 O O (h.OA fk) O) aa$ Pl 14 O (SE R0 O) aa$ PQ 15 O O (aa)$ Pl 16 O (Q8 O) aa$ Pl 17 O (Pr QN O) aa$ Pl 18 O (Pr Qb O) aa$ qL 19 O (λ_ h=>OM R0 O O (h.OA fk) O) aa$ Pl 20 O (SE R0 O) aa$ Pl 21 O (WY O O ⟨by omega,by omega,by omega⟩) aa ?_;rw[nC];refine Pl 22 O (yma O O) aa$ Pl 23 O (UO O O (by omega)) aa$ Pl 24 O (ymi O O) aa$ Pl 25 O (Q8 O) aa$ Pl 26 O (Pr Rb O) aa$ Tt [27]$ qO 27$ PE (i:=27) O O (QG PV O O O (aa.OA fk) (by simp)) ?_;rintro w5 ⟨aH,aj⟩;refine⟨trivial,?_⟩;obtain⟨T,hT⟩:∃T:Int,min (A.size:Int) (A.target+max 1 (q:Int))=T:=⟨_,rfl⟩;have oI:0<=T/\T<=A.size:=by omega
      rw[hT] at aH
      replace aH:OP w5 c (acC A.size T V p) 173:=by
       show OP w5 c [I (A.size:Int),(V 0).1,(V 0).2,(V 1).1,(V 1).2,(V 2).1,(V 2).2,(V 3).1,(V 3).2,I T,.map (some p)] _;rw[e2,e3];exact aH
      have bP:=(h2.ext aa).Z6 aH aj;have aW:=hA.Z6 oI;obtain⟨A5,bH⟩:∃A5:Arc,{A with target:=T}=A5:=⟨_,rfl⟩;have pE:A5.size=A.size:=by rw[<-bH]
      have oJ:¬A5.held k:=by rw[<-bH];exact mF
      have sJ:k∈A5.P3:=by rw[<-bH];exact hg
      rw[bH] at bP aW;refine qE$ Po.qb (e:=[(0,_),(1,_),(4,_),(5,_)]) ?_;refine Pn O$ P5 z1g O (TG bP.m aW (by omega) false) ?_;rintro _ w6 ⟨rfl,V6,cI⟩;have ax:=Arc.Tm aW false;obtain⟨r6,cz⟩:∃r,A5.room false=r:=⟨_,rfl⟩;rw[cz] at cI ax⊢;obtain⟨A6,g6⟩:=r6;dsimp only at cI ax⊢;have gQ:=ax.perm.length_eq;have jF:=A6.QO;have oK:=A5.QO;have oL:=aW.total;have aF:=((h2.r aa).trans bP).trans cI;have bU:=aF.k.OA bC (λe=>n4' _ e O);refine OT O (PG (news:=RB false g6) Pw O O O O bU (by simp)) ?_;rintro w7 ⟨bq,aB⟩;replace bq:OP w7 b4 [.bool false,.bool g6.isSome,I (g6.getD 0)] 245:=bq;have n46:=aF.mono n4' l42;have gK:=aF.m.kp aB n46;refine qM O$ ON O$ Pq O$ OW QN O$ ON O$ P5 SL O (Qh gK (j:=2) (k:=k) (by decide)) ?_;rintro _ w8 ⟨rfl,V8,g9⟩
      have dX:k∉(A6.Qi 2 ((A6.li 2).erase k)).li 1:=by
       show k∉A6.often;exact λe=>oJ ((ax.gone k).1 (.inr e)).1
      refine OC$ R6 O$ Pq O$ OW Rj O$ ON O$ P5 Tr O (QP g9.m (j:=1) (k:=k) (by decide) dX (by show A6.often.length<=_;omega)) ?_;rintro _ w9 ⟨rfl,V9,ic⟩;have ba:=g9.trans ic;have bT:=ba.k.OA bq (λe=>n46 _ e O);have eD:=bT
      have cA:∀b,Sz c V9 p b->Sz c V p b\/w2.heap.size<=b:=λb hb=>by
       rcases ba.fp b hb with h5|h5
       ·exact aF.fp b h5
       ·have:=aF.k.size;have:=aB.size;exact .inr (by omega)
      have aw:Kp (λj=>Sz c V p j\/j=b4) w2 w9:=((aF.k.OH λj e=> .inl e).trans (aB.OH λj e=> .inr e)).It ba.k (λj e=>by
       rcases aF.fp j e with h5|h5
       ·exact .inr (.inl h5)
       ·exact .inl h5)
      refine OC$ Oz$ qN O$ qV (Pp (news:=RB false g6) SB O Pw O (OP.cells (n:=3) eD O) O)$ OT O (PG (news:=RB false g6) Pw O O O O eD (by simp)) ?_;rintro we ⟨du,bQ⟩;replace du:OP we b4 [.bool false,.bool g6.isSome,I (g6.getD 0)] 245:=du;refine OV O$ Pf func143 (.cell SB O Pw O (OP.cells (n:=3) du (news:=[_,_,_]) O) O (.tmp O .nil)) ?_
      have n49:∀b,Sz c V9 p b->b≠b4:=λb hb e=>by
       rcases cA b hb with h5|h5
       ·exact n4' b h5 e
       ·omega
      have fj:A.Rm k=({A6 with P3:=A6.P3.erase k,often:=A6.often++[k]},false,g6):=by
       unfold Arc.Rm;rw[if_neg bD,if_pos hg];dsimp only;rw[hq,hT,bH,cz]
      rw[fj]
      exact⟨_,rfl,rfl,V9,ba.m.kp bQ n49,λb hb=>(cA b hb).imp id (λe=>by omega),(aG.kp.It aw (λj e=>by
       rcases e with e| e
       ·exact .inr e
       ·exact .inl (by omega))).It bQ (λj e=> .inl (by omega))⟩
     ·have sN:=hg;rw[decide_eq_false hg];refine OV O$ OL O$ Pn O$ Pq O$ OW Re O$ ON O$ P5 XD O (rB) ?_;rintro _ w2 ⟨rfl,rfl⟩;by_cases hg:k∈A.OX
      ·rw[decide_eq_true hg];refine OV O$ Po.qb (e:=[(0,_),(1,_),(4,_),(5,_),(111,_)]) ?_;refine OS O$ An ?_;have sM:0<A.OX.length:=List.length_pos_of_mem hg;obtain⟨q,hq⟩:∃q,A.P3.length / A.OX.length=q:=⟨_,rfl⟩;have gz:q<=2000:=by rw[<-hq];exact Nat.le_trans (Nat.div_le_self _ _) gj
       have nC:(A.P3.length:Int) / (A.OX.length:Int)=(q:Int):=by rw[<-hq];exact(Int.natCast_ediv _ _).symm
       refine P9 [23] (λw'=>Ext w2 w') (by kernel_rfl) O$ PQ 0 O O (aa)$ PQ 1 O O (aa)$ Pl 2 O (Q8 O) aa$ Pl 3 O (Pr Rb O) aa$ qL 4 O (λ_ h=>OM U3 O O (h.OA fk) O) aa$ PQ 5 O O (aa)$ Pl 6 O (Q8 O) aa$ Pl 7 O (Pr QN O) aa$ Pl 8 O (Pr Qb O) aa$ qL 9 O (λ_ h=>OM R0 O O (h.OA fk) O) aa$ Pl 10 O (SE R0 O) aa$ PQ 11 O O (aa)$ Pl 12 O (Q8 O) aa ?_;refine Pl 13 O (Pr Re O) aa$ Pl 14 O (Pr Qb O) aa$ qL 15 O (λ_ h=>OM R0 O O (h.OA fk) O) aa$ Pl 16 O (SE R0 O) aa$ Pl 17 O (WY O O ⟨by omega,by omega,by omega⟩) aa ?_;rw[nC];refine Pl 18 O (yma O O) aa$ Pl 19 O (Xw O O (by omega)) aa$ Pl 20 O (yma O O) aa$ Pl 21 O (Q8 O) aa$ Pl 22 O (Pr Rb O) aa$ Tt [23]$ qO 23$ PE (i:=23) O O (QG PV O O O (aa.OA fk) (by simp)) ?_;rintro w5 ⟨aH,aj⟩;refine⟨trivial,?_⟩;obtain⟨T,hT⟩:∃T:Int,max 0 (A.target-max 1 (q:Int))=T:=⟨_,rfl⟩;have oI:0<=T/\T<=A.size:=by omega
       rw[hT] at aH
       replace aH:OP w5 c (acC A.size T V p) 173:=by
        show OP w5 c [I (A.size:Int),(V 0).1,(V 0).2,(V 1).1,(V 1).2,(V 2).1,(V 2).2,(V 3).1,(V 3).2,I T,.map (some p)] _;rw[e2,e3];exact aH
       have bP:=(h2.ext aa).Z6 aH aj;have aW:=hA.Z6 oI;obtain⟨A5,bH⟩:∃A5:Arc,{A with target:=T}=A5:=⟨_,rfl⟩;have pE:A5.size=A.size:=by rw[<-bH]
       have oJ:¬A5.held k:=by rw[<-bH];exact mF
       have sJ:k∈A5.OX:=by rw[<-bH];exact hg
       rw[bH] at bP aW;refine qE$ Po.qb (e:=[(0,_),(1,_),(4,_),(5,_)]) ?_;refine Pn O$ P5 z1g O (TG bP.m aW (by omega) true) ?_;rintro _ w6 ⟨rfl,V6,cI⟩;have ax:=Arc.Tm aW true;obtain⟨r6,cz⟩:∃r,A5.room true=r:=⟨_,rfl⟩;rw[cz] at cI ax⊢;obtain⟨A6,g6⟩:=r6;dsimp only at cI ax⊢;have gQ:=ax.perm.length_eq;have jF:=A6.QO;have oK:=A5.QO;have oL:=aW.total;have aF:=((h2.r aa).trans bP).trans cI;have bU:=aF.k.OA bC (λe=>n4' _ e O);refine OT O (PG (news:=RB false g6) Pw O O O O bU (by simp)) ?_;rintro w7 ⟨bq,aB⟩;replace bq:OP w7 b4 [.bool false,.bool g6.isSome,I (g6.getD 0)] 245:=bq;have n46:=aF.mono n4' l42;have gK:=aF.m.kp aB n46;refine qM O$ ON O$ Pq O$ OW Re O$ ON O$ P5 SL O (Qh gK (j:=3) (k:=k) (by decide)) ?_;rintro _ w8 ⟨rfl,V8,g9⟩
       have dX:k∉(A6.Qi 3 ((A6.li 3).erase k)).li 1:=by
        show k∉A6.often;exact λe=>oJ ((ax.gone k).1 (.inr e)).1
       refine OC$ R6 O$ Pq O$ OW Rj O$ ON O$ P5 Tr O (QP g9.m (j:=1) (k:=k) (by decide) dX (by show A6.often.length<=_;omega)) ?_;rintro _ w9 ⟨rfl,V9,ic⟩;have ba:=g9.trans ic;have bT:=ba.k.OA bq (λe=>n46 _ e O);have eD:=bT
       have cA:∀b,Sz c V9 p b->Sz c V p b\/w2.heap.size<=b:=λb hb=>by
        rcases ba.fp b hb with h5|h5
        ·exact aF.fp b h5
        ·have:=aF.k.size;have:=aB.size;exact .inr (by omega)
       have aw:Kp (λj=>Sz c V p j\/j=b4) w2 w9:=((aF.k.OH λj e=> .inl e).trans (aB.OH λj e=> .inr e)).It ba.k (λj e=>by
        rcases aF.fp j e with h5|h5
        ·exact .inr (.inl h5)
        ·exact .inl h5)
       refine OC$ Oz$ qN O$ qV (Pp (news:=RB false g6) SB O Pw O (OP.cells (n:=3) eD O) O)$ OT O (PG (news:=RB false g6) Pw O O O O eD (by simp)) ?_;rintro we ⟨du,bQ⟩;replace du:OP we b4 [.bool false,.bool g6.isSome,I (g6.getD 0)] 245:=du;refine OV O$ Pf func143 (.cell SB O Pw O (OP.cells (n:=3) du (news:=[_,_,_]) O) O (.tmp O .nil)) ?_
       have n49:∀b,Sz c V9 p b->b≠b4:=λb hb e=>by
        rcases cA b hb with h5|h5
        ·exact n4' b h5 e
        ·omega
       have fj:A.Rm k=({A6 with OX:=A6.OX.erase k,often:=A6.often++[k]},false,g6):=by
        unfold Arc.Rm;rw[if_neg bD,if_neg sN,if_pos hg];dsimp only;rw[hq,hT,bH,cz]
       rw[fj]
       exact⟨_,rfl,rfl,V9,ba.m.kp bQ n49,λb hb=>(cA b hb).imp id (λe=>by omega),(aG.kp.It aw (λj e=>by
        rcases e with e| e
        ·exact .inr e
        ·exact .inl (by omega))).It bQ (λj e=> .inl (by omega))⟩
      ·rw[decide_eq_false hg];refine OV O$ Po.qb (e:=[(0,_),(1,_),(4,_),(5,_),(111,_)]) ?_;refine OL O$ Pn O$ P5 zbE O (z0U h2 hA cD) ?_;rintro _ w6 ⟨rfl,V6,cI⟩;have dW:=Arc.z32 hA;obtain⟨r6,cz⟩:∃r,A.add=r:=⟨_,rfl⟩;rw[cz] at cI dW⊢;obtain⟨A6,g6⟩:=r6;dsimp only at cI dW⊢;obtain⟨fK,-,-⟩:=dW;have jF:=A6.QO;have aF:=cI;have bU:=aF.k.OA bC (λe=>n4' _ e O);refine OT O (PG (news:=RB false g6) Pw O O O O bU (by simp)) ?_;rintro w7 ⟨bq,aB⟩;replace bq:OP w7 b4 [.bool false,.bool g6.isSome,I (g6.getD 0)] 245:=bq;have n46:=aF.mono n4' l42;have gK:=aF.m.kp aB n46
       have dX:k∉A6.li 0:=by
        show k∉A6.once;exact λe=>mF ((fK.gone k).1 (.inl e)).1
       have pQ:=fK.YV;refine OC$ R6 O$ Pq O$ OW Qy O$ ON O$ P5 Tr O (QP gK (j:=0) (k:=k) (by decide) dX (by show A6.once.length<=_;omega)) ?_;rintro _ w9 ⟨rfl,V9,ic⟩;have ba:=ic;have bT:=ba.k.OA bq (λe=>n46 _ e O);have eD:=bT
       have cA:∀b,Sz c V9 p b->Sz c V p b\/w2.heap.size<=b:=λb hb=>by
        rcases ba.fp b hb with h5|h5
        ·exact aF.fp b h5
        ·have:=aF.k.size;have:=aB.size;exact .inr (by omega)
       have aw:Kp (λj=>Sz c V p j\/j=b4) w2 w9:=((aF.k.OH λj e=> .inl e).trans (aB.OH λj e=> .inr e)).It ba.k (λj e=>by
        rcases aF.fp j e with h5|h5
        ·exact .inr (.inl h5)
        ·exact .inl h5)
       refine OC$ Oz$ qN O$ qV (Pp (news:=RB false g6) SB O Pw O (OP.cells (n:=3) eD O) O)$ OT O (PG (news:=RB false g6) Pw O O O O eD (by simp)) ?_;rintro we ⟨du,bQ⟩;replace du:OP we b4 [.bool false,.bool g6.isSome,I (g6.getD 0)] 245:=du;refine OV O$ Pf func143 (.cell SB O Pw O (OP.cells (n:=3) du (news:=[_,_,_]) O) O (.tmp O .nil)) ?_
       have n49:∀b,Sz c V9 p b->b≠b4:=λb hb e=>by
        rcases cA b hb with h5|h5
        ·exact n4' b h5 e
        ·omega
       have fj:A.Rm k=({A6 with once:=A6.once++[k]},false,g6):=by
        unfold Arc.Rm;rw[if_neg bD,if_neg sN,if_neg hg];dsimp only;rw[cz]
       rw[fj]
       exact⟨_,rfl,rfl,V9,ba.m.kp bQ n49,λb hb=>(cA b hb).imp id (λe=>by omega),(aG.kp.It aw (λj e=>by
        rcases e with e| e
        ·exact .inr e
        ·exact .inl (by omega))).It bQ (λj e=> .inl (by omega))⟩
   | false =>
     subst IL
     have zV:o1=true:=by
      have e:A.once=[]:=Classical.not_not.1 λe=>by have:=q0.2 e;cases this
      rw[e] at cf;exact q1.2 λe=>by rw[e] at cf;simp at cf;omega
     subst zV;refine Pa O$ qV ((RZ O))$ QX O$ Pa O$ qV ((RZ O))$ QX O$ Qg O$ QA$ Pn O$ Pq O$ OW QN O$ ON O$ P5 XD O (nB) ?_;rintro _ w2 ⟨rfl,rfl⟩;by_cases hg:k∈A.P3
     ·rw[decide_eq_true hg];refine OV O$ OS O$ An ?_;have sM:0<A.P3.length:=List.length_pos_of_mem hg;obtain⟨q,hq⟩:∃q,A.OX.length / A.P3.length=q:=⟨_,rfl⟩;have gz:q<=2000:=by rw[<-hq];exact Nat.le_trans (Nat.div_le_self _ _) lZ
      have nC:(A.OX.length:Int) / (A.P3.length:Int)=(q:Int):=by rw[<-hq];exact(Int.natCast_ediv _ _).symm
      refine P9 [27] (λw'=>Ext w2 w') (by kernel_rfl) O$ PQ 0 O O (aa)$ PQ 1 O O (aa)$ Pl 2 O (Q8 O) aa$ Pl 3 O (Pr Sw O) aa$ qL 4 O (λ_ h=>OM U3 O O (h.OA fk) O) aa$ PQ 5 O O (aa)$ Pl 6 O (Q8 O) aa$ Pl 7 O (Pr Rb O) aa$ qL 8 O (λ_ h=>OM U3 O O (h.OA fk) O) aa$ PQ 9 O O (aa)$ Pl 10 O (Q8 O) aa$ Pl 11 O (Pr Re O) aa$ Pl 12 O (Pr Qb O) aa ?_;refine qL 13 O (λ_ h=>OM R0 O O (h.OA fk) O) aa$ Pl 14 O (SE R0 O) aa$ PQ 15 O O (aa)$ Pl 16 O (Q8 O) aa$ Pl 17 O (Pr QN O) aa$ Pl 18 O (Pr Qb O) aa$ qL 19 O (λ_ h=>OM R0 O O (h.OA fk) O) aa$ Pl 20 O (SE R0 O) aa$ Pl 21 O (WY O O ⟨by omega,by omega,by omega⟩) aa ?_;rw[nC];refine Pl 22 O (yma O O) aa$ Pl 23 O (UO O O (by omega)) aa$ Pl 24 O (ymi O O) aa$ Pl 25 O (Q8 O) aa$ Pl 26 O (Pr Rb O) aa$ Tt [27]$ qO 27$ PE (i:=27) O O (QG PV O O O (aa.OA fk) (by simp)) ?_;rintro w5 ⟨aH,aj⟩;refine⟨trivial,?_⟩;obtain⟨T,hT⟩:∃T:Int,min (A.size:Int) (A.target+max 1 (q:Int))=T:=⟨_,rfl⟩;have oI:0<=T/\T<=A.size:=by omega
      rw[hT] at aH
      replace aH:OP w5 c (acC A.size T V p) 173:=by
       show OP w5 c [I (A.size:Int),(V 0).1,(V 0).2,(V 1).1,(V 1).2,(V 2).1,(V 2).2,(V 3).1,(V 3).2,I T,.map (some p)] _;rw[e2,e3];exact aH
      have bP:=(h2.ext aa).Z6 aH aj;have aW:=hA.Z6 oI;obtain⟨A5,bH⟩:∃A5:Arc,{A with target:=T}=A5:=⟨_,rfl⟩;have pE:A5.size=A.size:=by rw[<-bH]
      have oJ:¬A5.held k:=by rw[<-bH];exact mF
      have sJ:k∈A5.P3:=by rw[<-bH];exact hg
      rw[bH] at bP aW;refine qE$ Po.qb (e:=[(0,_),(1,_),(4,_),(5,_)]) ?_;refine Pn O$ P5 z1g O (TG bP.m aW (by omega) false) ?_;rintro _ w6 ⟨rfl,V6,cI⟩;have ax:=Arc.Tm aW false;obtain⟨r6,cz⟩:∃r,A5.room false=r:=⟨_,rfl⟩;rw[cz] at cI ax⊢;obtain⟨A6,g6⟩:=r6;dsimp only at cI ax⊢;have gQ:=ax.perm.length_eq;have jF:=A6.QO;have oK:=A5.QO;have oL:=aW.total;have aF:=((h2.r aa).trans bP).trans cI;have bU:=aF.k.OA bC (λe=>n4' _ e O);refine OT O (PG (news:=RB false g6) Pw O O O O bU (by simp)) ?_;rintro w7 ⟨bq,aB⟩;replace bq:OP w7 b4 [.bool false,.bool g6.isSome,I (g6.getD 0)] 245:=bq;have n46:=aF.mono n4' l42;have gK:=aF.m.kp aB n46;refine qM O$ ON O$ Pq O$ OW QN O$ ON O$ P5 SL O (Qh gK (j:=2) (k:=k) (by decide)) ?_;rintro _ w8 ⟨rfl,V8,g9⟩
      have dX:k∉(A6.Qi 2 ((A6.li 2).erase k)).li 1:=by
       show k∉A6.often;exact λe=>oJ ((ax.gone k).1 (.inr e)).1
      refine OC$ R6 O$ Pq O$ OW Rj O$ ON O$ P5 Tr O (QP g9.m (j:=1) (k:=k) (by decide) dX (by show A6.often.length<=_;omega)) ?_;rintro _ w9 ⟨rfl,V9,ic⟩;have ba:=g9.trans ic;have bT:=ba.k.OA bq (λe=>n46 _ e O);have eD:=bT
      have cA:∀b,Sz c V9 p b->Sz c V p b\/w2.heap.size<=b:=λb hb=>by
       rcases ba.fp b hb with h5|h5
       ·exact aF.fp b h5
       ·have:=aF.k.size;have:=aB.size;exact .inr (by omega)
      have aw:Kp (λj=>Sz c V p j\/j=b4) w2 w9:=((aF.k.OH λj e=> .inl e).trans (aB.OH λj e=> .inr e)).It ba.k (λj e=>by
       rcases aF.fp j e with h5|h5
       ·exact .inr (.inl h5)
       ·exact .inl h5)
      refine OC$ Oz$ qN O$ qV (Pp (news:=RB false g6) SB O Pw O (OP.cells (n:=3) eD O) O)$ OT O (PG (news:=RB false g6) Pw O O O O eD (by simp)) ?_;rintro we ⟨du,bQ⟩;replace du:OP we b4 [.bool false,.bool g6.isSome,I (g6.getD 0)] 245:=du;refine OV O$ Pf func143 (.cell SB O Pw O (OP.cells (n:=3) du (news:=[_,_,_]) O) O (.tmp O .nil)) ?_
      have n49:∀b,Sz c V9 p b->b≠b4:=λb hb e=>by
       rcases cA b hb with h5|h5
       ·exact n4' b h5 e
       ·omega
      have fj:A.Rm k=({A6 with P3:=A6.P3.erase k,often:=A6.often++[k]},false,g6):=by
       unfold Arc.Rm;rw[if_neg bD,if_pos hg];dsimp only;rw[hq,hT,bH,cz]
      rw[fj]
      exact⟨_,rfl,rfl,V9,ba.m.kp bQ n49,λb hb=>(cA b hb).imp id (λe=>by omega),(aG.kp.It aw (λj e=>by
       rcases e with e| e
       ·exact .inr e
       ·exact .inl (by omega))).It bQ (λj e=> .inl (by omega))⟩
     ·have sN:=hg;rw[decide_eq_false hg];refine OV O$ OL O$ Pn O$ Pq O$ OW Re O$ ON O$ P5 XD O (rB) ?_;rintro _ w2 ⟨rfl,rfl⟩;by_cases hg:k∈A.OX
      ·rw[decide_eq_true hg];refine OV O$ Po.qb (e:=[(0,_),(1,_),(4,_),(5,_),(111,_)]) ?_;refine OS O$ An ?_;have sM:0<A.OX.length:=List.length_pos_of_mem hg;obtain⟨q,hq⟩:∃q,A.P3.length / A.OX.length=q:=⟨_,rfl⟩;have gz:q<=2000:=by rw[<-hq];exact Nat.le_trans (Nat.div_le_self _ _) gj
       have nC:(A.P3.length:Int) / (A.OX.length:Int)=(q:Int):=by rw[<-hq];exact(Int.natCast_ediv _ _).symm
       refine P9 [23] (λw'=>Ext w2 w') (by kernel_rfl) O$ PQ 0 O O (aa)$ PQ 1 O O (aa)$ Pl 2 O (Q8 O) aa$ Pl 3 O (Pr Rb O) aa$ qL 4 O (λ_ h=>OM U3 O O (h.OA fk) O) aa$ PQ 5 O O (aa)$ Pl 6 O (Q8 O) aa$ Pl 7 O (Pr QN O) aa$ Pl 8 O (Pr Qb O) aa$ qL 9 O (λ_ h=>OM R0 O O (h.OA fk) O) aa$ Pl 10 O (SE R0 O) aa$ PQ 11 O O (aa)$ Pl 12 O (Q8 O) aa ?_;refine Pl 13 O (Pr Re O) aa$ Pl 14 O (Pr Qb O) aa$ qL 15 O (λ_ h=>OM R0 O O (h.OA fk) O) aa$ Pl 16 O (SE R0 O) aa$ Pl 17 O (WY O O ⟨by omega,by omega,by omega⟩) aa ?_;rw[nC];refine Pl 18 O (yma O O) aa$ Pl 19 O (Xw O O (by omega)) aa$ Pl 20 O (yma O O) aa$ Pl 21 O (Q8 O) aa$ Pl 22 O (Pr Rb O) aa$ Tt [23]$ qO 23$ PE (i:=23) O O (QG PV O O O (aa.OA fk) (by simp)) ?_;rintro w5 ⟨aH,aj⟩;refine⟨trivial,?_⟩;obtain⟨T,hT⟩:∃T:Int,max 0 (A.target-max 1 (q:Int))=T:=⟨_,rfl⟩;have oI:0<=T/\T<=A.size:=by omega
       rw[hT] at aH
       replace aH:OP w5 c (acC A.size T V p) 173:=by
        show OP w5 c [I (A.size:Int),(V 0).1,(V 0).2,(V 1).1,(V 1).2,(V 2).1,(V 2).2,(V 3).1,(V 3).2,I T,.map (some p)] _;rw[e2,e3];exact aH
       have bP:=(h2.ext aa).Z6 aH aj;have aW:=hA.Z6 oI;obtain⟨A5,bH⟩:∃A5:Arc,{A with target:=T}=A5:=⟨_,rfl⟩;have pE:A5.size=A.size:=by rw[<-bH]
       have oJ:¬A5.held k:=by rw[<-bH];exact mF
       have sJ:k∈A5.OX:=by rw[<-bH];exact hg
       rw[bH] at bP aW;refine qE$ Po.qb (e:=[(0,_),(1,_),(4,_),(5,_)]) ?_;refine Pn O$ P5 z1g O (TG bP.m aW (by omega) true) ?_;rintro _ w6 ⟨rfl,V6,cI⟩;have ax:=Arc.Tm aW true;obtain⟨r6,cz⟩:∃r,A5.room true=r:=⟨_,rfl⟩;rw[cz] at cI ax⊢;obtain⟨A6,g6⟩:=r6;dsimp only at cI ax⊢;have gQ:=ax.perm.length_eq;have jF:=A6.QO;have oK:=A5.QO;have oL:=aW.total;have aF:=((h2.r aa).trans bP).trans cI;have bU:=aF.k.OA bC (λe=>n4' _ e O);refine OT O (PG (news:=RB false g6) Pw O O O O bU (by simp)) ?_;rintro w7 ⟨bq,aB⟩;replace bq:OP w7 b4 [.bool false,.bool g6.isSome,I (g6.getD 0)] 245:=bq;have n46:=aF.mono n4' l42;have gK:=aF.m.kp aB n46;refine qM O$ ON O$ Pq O$ OW Re O$ ON O$ P5 SL O (Qh gK (j:=3) (k:=k) (by decide)) ?_;rintro _ w8 ⟨rfl,V8,g9⟩
       have dX:k∉(A6.Qi 3 ((A6.li 3).erase k)).li 1:=by
        show k∉A6.often;exact λe=>oJ ((ax.gone k).1 (.inr e)).1
       refine OC$ R6 O$ Pq O$ OW Rj O$ ON O$ P5 Tr O (QP g9.m (j:=1) (k:=k) (by decide) dX (by show A6.often.length<=_;omega)) ?_;rintro _ w9 ⟨rfl,V9,ic⟩;have ba:=g9.trans ic;have bT:=ba.k.OA bq (λe=>n46 _ e O);have eD:=bT
       have cA:∀b,Sz c V9 p b->Sz c V p b\/w2.heap.size<=b:=λb hb=>by
        rcases ba.fp b hb with h5|h5
        ·exact aF.fp b h5
        ·have:=aF.k.size;have:=aB.size;exact .inr (by omega)
       have aw:Kp (λj=>Sz c V p j\/j=b4) w2 w9:=((aF.k.OH λj e=> .inl e).trans (aB.OH λj e=> .inr e)).It ba.k (λj e=>by
        rcases aF.fp j e with h5|h5
        ·exact .inr (.inl h5)
        ·exact .inl h5)
       refine OC$ Oz$ qN O$ qV (Pp (news:=RB false g6) SB O Pw O (OP.cells (n:=3) eD O) O)$ OT O (PG (news:=RB false g6) Pw O O O O eD (by simp)) ?_;rintro we ⟨du,bQ⟩;replace du:OP we b4 [.bool false,.bool g6.isSome,I (g6.getD 0)] 245:=du;refine OV O$ Pf func143 (.cell SB O Pw O (OP.cells (n:=3) du (news:=[_,_,_]) O) O (.tmp O .nil)) ?_
       have n49:∀b,Sz c V9 p b->b≠b4:=λb hb e=>by
        rcases cA b hb with h5|h5
        ·exact n4' b h5 e
        ·omega
       have fj:A.Rm k=({A6 with OX:=A6.OX.erase k,often:=A6.often++[k]},false,g6):=by
        unfold Arc.Rm;rw[if_neg bD,if_neg sN,if_pos hg];dsimp only;rw[hq,hT,bH,cz]
       rw[fj]
       exact⟨_,rfl,rfl,V9,ba.m.kp bQ n49,λb hb=>(cA b hb).imp id (λe=>by omega),(aG.kp.It aw (λj e=>by
        rcases e with e| e
        ·exact .inr e
        ·exact .inl (by omega))).It bQ (λj e=> .inl (by omega))⟩
      ·rw[decide_eq_false hg];refine OV O$ Po.qb (e:=[(0,_),(1,_),(4,_),(5,_),(111,_)]) ?_;refine OL O$ Pn O$ P5 zbE O (z0U h2 hA cD) ?_;rintro _ w6 ⟨rfl,V6,cI⟩;have dW:=Arc.z32 hA;obtain⟨r6,cz⟩:∃r,A.add=r:=⟨_,rfl⟩;rw[cz] at cI dW⊢;obtain⟨A6,g6⟩:=r6;dsimp only at cI dW⊢;obtain⟨fK,-,-⟩:=dW;have jF:=A6.QO;have aF:=cI;have bU:=aF.k.OA bC (λe=>n4' _ e O);refine OT O (PG (news:=RB false g6) Pw O O O O bU (by simp)) ?_;rintro w7 ⟨bq,aB⟩;replace bq:OP w7 b4 [.bool false,.bool g6.isSome,I (g6.getD 0)] 245:=bq;have n46:=aF.mono n4' l42;have gK:=aF.m.kp aB n46
       have dX:k∉A6.li 0:=by
        show k∉A6.once;exact λe=>mF ((fK.gone k).1 (.inl e)).1
       have pQ:=fK.YV;refine OC$ R6 O$ Pq O$ OW Qy O$ ON O$ P5 Tr O (QP gK (j:=0) (k:=k) (by decide) dX (by show A6.once.length<=_;omega)) ?_;rintro _ w9 ⟨rfl,V9,ic⟩;have ba:=ic;have bT:=ba.k.OA bq (λe=>n46 _ e O);have eD:=bT
       have cA:∀b,Sz c V9 p b->Sz c V p b\/w2.heap.size<=b:=λb hb=>by
        rcases ba.fp b hb with h5|h5
        ·exact aF.fp b h5
        ·have:=aF.k.size;have:=aB.size;exact .inr (by omega)
       have aw:Kp (λj=>Sz c V p j\/j=b4) w2 w9:=((aF.k.OH λj e=> .inl e).trans (aB.OH λj e=> .inr e)).It ba.k (λj e=>by
        rcases aF.fp j e with h5|h5
        ·exact .inr (.inl h5)
        ·exact .inl h5)
       refine OC$ Oz$ qN O$ qV (Pp (news:=RB false g6) SB O Pw O (OP.cells (n:=3) eD O) O)$ OT O (PG (news:=RB false g6) Pw O O O O eD (by simp)) ?_;rintro we ⟨du,bQ⟩;replace du:OP we b4 [.bool false,.bool g6.isSome,I (g6.getD 0)] 245:=du;refine OV O$ Pf func143 (.cell SB O Pw O (OP.cells (n:=3) du (news:=[_,_,_]) O) O (.tmp O .nil)) ?_
       have n49:∀b,Sz c V9 p b->b≠b4:=λb hb e=>by
        rcases cA b hb with h5|h5
        ·exact n4' b h5 e
        ·omega
       have fj:A.Rm k=({A6 with once:=A6.once++[k]},false,g6):=by
        unfold Arc.Rm;rw[if_neg bD,if_neg sN,if_neg hg];dsimp only;rw[cz]
       rw[fj]
       exact⟨_,rfl,rfl,V9,ba.m.kp bQ n49,λb hb=>(cA b hb).imp id (λe=>by omega),(aG.kp.It aw (λj e=>by
        rcases e with e| e
        ·exact .inr e
        ·exact .inl (by omega))).It bQ (λj e=> .inl (by omega))⟩
  ·rw [decide_eq_false cf]; refine ON O (QL (PM O (ON O (QL (PM O (Qg O (QA (Pn O (Pq O (OW QN O (ON O (P5 XD O (nB) ?_)))))))))))); rintro _ w2 ⟨rfl, rfl⟩; by_cases hg : k ∈ A.P3
   ·rw[decide_eq_true hg];refine OV O$ OS O$ An ?_;have sM:0<A.P3.length:=List.length_pos_of_mem hg;obtain⟨q,hq⟩:∃q,A.OX.length / A.P3.length=q:=⟨_,rfl⟩;have gz:q<=2000:=by rw[<-hq];exact Nat.le_trans (Nat.div_le_self _ _) lZ
    have nC:(A.OX.length:Int) / (A.P3.length:Int)=(q:Int):=by rw[<-hq];exact(Int.natCast_ediv _ _).symm
    refine P9 [27] (λw'=>Ext w2 w') (by kernel_rfl) O$ PQ 0 O O (aa)$ PQ 1 O O (aa)$ Pl 2 O (Q8 O) aa$ Pl 3 O (Pr Sw O) aa$ qL 4 O (λ_ h=>OM U3 O O (h.OA fk) O) aa$ PQ 5 O O (aa)$ Pl 6 O (Q8 O) aa$ Pl 7 O (Pr Rb O) aa$ qL 8 O (λ_ h=>OM U3 O O (h.OA fk) O) aa$ PQ 9 O O (aa)$ Pl 10 O (Q8 O) aa$ Pl 11 O (Pr Re O) aa$ Pl 12 O (Pr Qb O) aa ?_;refine qL 13 O (λ_ h=>OM R0 O O (h.OA fk) O) aa$ Pl 14 O (SE R0 O) aa$ PQ 15 O O (aa)$ Pl 16 O (Q8 O) aa$ Pl 17 O (Pr QN O) aa$ Pl 18 O (Pr Qb O) aa$ qL 19 O (λ_ h=>OM R0 O O (h.OA fk) O) aa$ Pl 20 O (SE R0 O) aa$ Pl 21 O (WY O O ⟨by omega,by omega,by omega⟩) aa ?_;rw[nC];refine Pl 22 O (yma O O) aa$ Pl 23 O (UO O O (by omega)) aa$ Pl 24 O (ymi O O) aa$ Pl 25 O (Q8 O) aa$ Pl 26 O (Pr Rb O) aa$ Tt [27]$ qO 27$ PE (i:=27) O O (QG PV O O O (aa.OA fk) (by simp)) ?_;rintro w5 ⟨aH,aj⟩;refine⟨trivial,?_⟩;obtain⟨T,hT⟩:∃T:Int,min (A.size:Int) (A.target+max 1 (q:Int))=T:=⟨_,rfl⟩;have oI:0<=T/\T<=A.size:=by omega
    rw[hT] at aH
    replace aH:OP w5 c (acC A.size T V p) 173:=by
     show OP w5 c [I (A.size:Int),(V 0).1,(V 0).2,(V 1).1,(V 1).2,(V 2).1,(V 2).2,(V 3).1,(V 3).2,I T,.map (some p)] _;rw[e2,e3];exact aH
    have bP:=(h2.ext aa).Z6 aH aj;have aW:=hA.Z6 oI;obtain⟨A5,bH⟩:∃A5:Arc,{A with target:=T}=A5:=⟨_,rfl⟩;have pE:A5.size=A.size:=by rw[<-bH]
    have oJ:¬A5.held k:=by rw[<-bH];exact mF
    have sJ:k∈A5.P3:=by rw[<-bH];exact hg
    rw[bH] at bP aW;refine qE$ Po.qb (e:=[(0,_),(1,_),(4,_),(5,_)]) ?_;refine Pn O$ P5 z1g O (TG bP.m aW (by omega) false) ?_;rintro _ w6 ⟨rfl,V6,cI⟩;have ax:=Arc.Tm aW false;obtain⟨r6,cz⟩:∃r,A5.room false=r:=⟨_,rfl⟩;rw[cz] at cI ax⊢;obtain⟨A6,g6⟩:=r6;dsimp only at cI ax⊢;have gQ:=ax.perm.length_eq;have jF:=A6.QO;have oK:=A5.QO;have oL:=aW.total;have aF:=((h2.r aa).trans bP).trans cI;have bU:=aF.k.OA bC (λe=>n4' _ e O);refine OT O (PG (news:=RB false g6) Pw O O O O bU (by simp)) ?_;rintro w7 ⟨bq,aB⟩;replace bq:OP w7 b4 [.bool false,.bool g6.isSome,I (g6.getD 0)] 245:=bq;have n46:=aF.mono n4' l42;have gK:=aF.m.kp aB n46;refine qM O$ ON O$ Pq O$ OW QN O$ ON O$ P5 SL O (Qh gK (j:=2) (k:=k) (by decide)) ?_;rintro _ w8 ⟨rfl,V8,g9⟩
    have dX:k∉(A6.Qi 2 ((A6.li 2).erase k)).li 1:=by
     show k∉A6.often;exact λe=>oJ ((ax.gone k).1 (.inr e)).1
    refine OC$ R6 O$ Pq O$ OW Rj O$ ON O$ P5 Tr O (QP g9.m (j:=1) (k:=k) (by decide) dX (by show A6.often.length<=_;omega)) ?_;rintro _ w9 ⟨rfl,V9,ic⟩;have ba:=g9.trans ic;have bT:=ba.k.OA bq (λe=>n46 _ e O);have eD:=bT
    have cA:∀b,Sz c V9 p b->Sz c V p b\/w2.heap.size<=b:=λb hb=>by
     rcases ba.fp b hb with h5|h5
     ·exact aF.fp b h5
     ·have:=aF.k.size;have:=aB.size;exact .inr (by omega)
    have aw:Kp (λj=>Sz c V p j\/j=b4) w2 w9:=((aF.k.OH λj e=> .inl e).trans (aB.OH λj e=> .inr e)).It ba.k (λj e=>by
     rcases aF.fp j e with h5|h5
     ·exact .inr (.inl h5)
     ·exact .inl h5)
    refine OC$ Oz$ qN O$ qV (Pp (news:=RB false g6) SB O Pw O (OP.cells (n:=3) eD O) O)$ OT O (PG (news:=RB false g6) Pw O O O O eD (by simp)) ?_;rintro we ⟨du,bQ⟩;replace du:OP we b4 [.bool false,.bool g6.isSome,I (g6.getD 0)] 245:=du;refine OV O$ Pf func143 (.cell SB O Pw O (OP.cells (n:=3) du (news:=[_,_,_]) O) O (.tmp O .nil)) ?_
    have n49:∀b,Sz c V9 p b->b≠b4:=λb hb e=>by
     rcases cA b hb with h5|h5
     ·exact n4' b h5 e
     ·omega
    have fj:A.Rm k=({A6 with P3:=A6.P3.erase k,often:=A6.often++[k]},false,g6):=by
     unfold Arc.Rm;rw[if_neg bD,if_pos hg];dsimp only;rw[hq,hT,bH,cz]
    rw[fj]
    exact⟨_,rfl,rfl,V9,ba.m.kp bQ n49,λb hb=>(cA b hb).imp id (λe=>by omega),(aG.kp.It aw (λj e=>by
     rcases e with e| e
     ·exact .inr e
     ·exact .inl (by omega))).It bQ (λj e=> .inl (by omega))⟩
   ·have sN:=hg;rw[decide_eq_false hg];refine OV O$ OL O$ Pn O$ Pq O$ OW Re O$ ON O$ P5 XD O (rB) ?_;rintro _ w2 ⟨rfl,rfl⟩;by_cases hg:k∈A.OX
    ·rw[decide_eq_true hg];refine OV O$ Po.qb (e:=[(0,_),(1,_),(4,_),(5,_),(111,_)]) ?_;refine OS O$ An ?_;have sM:0<A.OX.length:=List.length_pos_of_mem hg;obtain⟨q,hq⟩:∃q,A.P3.length / A.OX.length=q:=⟨_,rfl⟩;have gz:q<=2000:=by rw[<-hq];exact Nat.le_trans (Nat.div_le_self _ _) gj
     have nC:(A.P3.length:Int) / (A.OX.length:Int)=(q:Int):=by rw[<-hq];exact(Int.natCast_ediv _ _).symm
     refine P9 [23] (λw'=>Ext w2 w') (by kernel_rfl) O$ PQ 0 O O (aa)$ PQ 1 O O (aa)$ Pl 2 O (Q8 O) aa$ Pl 3 O (Pr Rb O) aa$ qL 4 O (λ_ h=>OM U3 O O (h.OA fk) O) aa$ PQ 5 O O (aa)$ Pl 6 O (Q8 O) aa$ Pl 7 O (Pr QN O) aa$ Pl 8 O (Pr Qb O) aa$ qL 9 O (λ_ h=>OM R0 O O (h.OA fk) O) aa$ Pl 10 O (SE R0 O) aa$ PQ 11 O O (aa)$ Pl 12 O (Q8 O) aa ?_;refine Pl 13 O (Pr Re O) aa$ Pl 14 O (Pr Qb O) aa$ qL 15 O (λ_ h=>OM R0 O O (h.OA fk) O) aa$ Pl 16 O (SE R0 O) aa$ Pl 17 O (WY O O ⟨by omega,by omega,by omega⟩) aa ?_;rw[nC];refine Pl 18 O (yma O O) aa$ Pl 19 O (Xw O O (by omega)) aa$ Pl 20 O (yma O O) aa$ Pl 21 O (Q8 O) aa$ Pl 22 O (Pr Rb O) aa$ Tt [23]$ qO 23$ PE (i:=23) O O (QG PV O O O (aa.OA fk) (by simp)) ?_;rintro w5 ⟨aH,aj⟩;refine⟨trivial,?_⟩;obtain⟨T,hT⟩:∃T:Int,max 0 (A.target-max 1 (q:Int))=T:=⟨_,rfl⟩;have oI:0<=T/\T<=A.size:=by omega
     rw[hT] at aH
     replace aH:OP w5 c (acC A.size T V p) 173:=by
      show OP w5 c [I (A.size:Int),(V 0).1,(V 0).2,(V 1).1,(V 1).2,(V 2).1,(V 2).2,(V 3).1,(V 3).2,I T,.map (some p)] _;rw[e2,e3];exact aH
     have bP:=(h2.ext aa).Z6 aH aj;have aW:=hA.Z6 oI;obtain⟨A5,bH⟩:∃A5:Arc,{A with target:=T}=A5:=⟨_,rfl⟩;have pE:A5.size=A.size:=by rw[<-bH]
     have oJ:¬A5.held k:=by rw[<-bH];exact mF
     have sJ:k∈A5.OX:=by rw[<-bH];exact hg
     rw[bH] at bP aW;refine qE$ Po.qb (e:=[(0,_),(1,_),(4,_),(5,_)]) ?_;refine Pn O$ P5 z1g O (TG bP.m aW (by omega) true) ?_;rintro _ w6 ⟨rfl,V6,cI⟩;have ax:=Arc.Tm aW true;obtain⟨r6,cz⟩:∃r,A5.room true=r:=⟨_,rfl⟩;rw[cz] at cI ax⊢;obtain⟨A6,g6⟩:=r6;dsimp only at cI ax⊢;have gQ:=ax.perm.length_eq;have jF:=A6.QO;have oK:=A5.QO;have oL:=aW.total;have aF:=((h2.r aa).trans bP).trans cI;have bU:=aF.k.OA bC (λe=>n4' _ e O);refine OT O (PG (news:=RB false g6) Pw O O O O bU (by simp)) ?_;rintro w7 ⟨bq,aB⟩;replace bq:OP w7 b4 [.bool false,.bool g6.isSome,I (g6.getD 0)] 245:=bq;have n46:=aF.mono n4' l42;have gK:=aF.m.kp aB n46;refine qM O$ ON O$ Pq O$ OW Re O$ ON O$ P5 SL O (Qh gK (j:=3) (k:=k) (by decide)) ?_;rintro _ w8 ⟨rfl,V8,g9⟩
     have dX:k∉(A6.Qi 3 ((A6.li 3).erase k)).li 1:=by
      show k∉A6.often;exact λe=>oJ ((ax.gone k).1 (.inr e)).1
     refine OC$ R6 O$ Pq O$ OW Rj O$ ON O$ P5 Tr O (QP g9.m (j:=1) (k:=k) (by decide) dX (by show A6.often.length<=_;omega)) ?_;rintro _ w9 ⟨rfl,V9,ic⟩;have ba:=g9.trans ic;have bT:=ba.k.OA bq (λe=>n46 _ e O);have eD:=bT
     have cA:∀b,Sz c V9 p b->Sz c V p b\/w2.heap.size<=b:=λb hb=>by
      rcases ba.fp b hb with h5|h5
      ·exact aF.fp b h5
      ·have:=aF.k.size;have:=aB.size;exact .inr (by omega)
     have aw:Kp (λj=>Sz c V p j\/j=b4) w2 w9:=((aF.k.OH λj e=> .inl e).trans (aB.OH λj e=> .inr e)).It ba.k (λj e=>by
      rcases aF.fp j e with h5|h5
      ·exact .inr (.inl h5)
      ·exact .inl h5)
     refine OC$ Oz$ qN O$ qV (Pp (news:=RB false g6) SB O Pw O (OP.cells (n:=3) eD O) O)$ OT O (PG (news:=RB false g6) Pw O O O O eD (by simp)) ?_;rintro we ⟨du,bQ⟩;replace du:OP we b4 [.bool false,.bool g6.isSome,I (g6.getD 0)] 245:=du;refine OV O$ Pf func143 (.cell SB O Pw O (OP.cells (n:=3) du (news:=[_,_,_]) O) O (.tmp O .nil)) ?_
     have n49:∀b,Sz c V9 p b->b≠b4:=λb hb e=>by
      rcases cA b hb with h5|h5
      ·exact n4' b h5 e
      ·omega
     have fj:A.Rm k=({A6 with OX:=A6.OX.erase k,often:=A6.often++[k]},false,g6):=by
      unfold Arc.Rm;rw[if_neg bD,if_neg sN,if_pos hg];dsimp only;rw[hq,hT,bH,cz]
     rw[fj]
     exact⟨_,rfl,rfl,V9,ba.m.kp bQ n49,λb hb=>(cA b hb).imp id (λe=>by omega),(aG.kp.It aw (λj e=>by
      rcases e with e| e
      ·exact .inr e
      ·exact .inl (by omega))).It bQ (λj e=> .inl (by omega))⟩
    ·rw[decide_eq_false hg];refine OV O$ Po.qb (e:=[(0,_),(1,_),(4,_),(5,_),(111,_)]) ?_;refine OL O$ Pn O$ P5 zbE O (z0U h2 hA cD) ?_;rintro _ w6 ⟨rfl,V6,cI⟩;have dW:=Arc.z32 hA;obtain⟨r6,cz⟩:∃r,A.add=r:=⟨_,rfl⟩;rw[cz] at cI dW⊢;obtain⟨A6,g6⟩:=r6;dsimp only at cI dW⊢;obtain⟨fK,-,-⟩:=dW;have jF:=A6.QO;have aF:=cI;have bU:=aF.k.OA bC (λe=>n4' _ e O);refine OT O (PG (news:=RB false g6) Pw O O O O bU (by simp)) ?_;rintro w7 ⟨bq,aB⟩;replace bq:OP w7 b4 [.bool false,.bool g6.isSome,I (g6.getD 0)] 245:=bq;have n46:=aF.mono n4' l42;have gK:=aF.m.kp aB n46
     have dX:k∉A6.li 0:=by
      show k∉A6.once;exact λe=>mF ((fK.gone k).1 (.inl e)).1
     have pQ:=fK.YV;refine OC$ R6 O$ Pq O$ OW Qy O$ ON O$ P5 Tr O (QP gK (j:=0) (k:=k) (by decide) dX (by show A6.once.length<=_;omega)) ?_;rintro _ w9 ⟨rfl,V9,ic⟩;have ba:=ic;have bT:=ba.k.OA bq (λe=>n46 _ e O);have eD:=bT
     have cA:∀b,Sz c V9 p b->Sz c V p b\/w2.heap.size<=b:=λb hb=>by
      rcases ba.fp b hb with h5|h5
      ·exact aF.fp b h5
      ·have:=aF.k.size;have:=aB.size;exact .inr (by omega)
     have aw:Kp (λj=>Sz c V p j\/j=b4) w2 w9:=((aF.k.OH λj e=> .inl e).trans (aB.OH λj e=> .inr e)).It ba.k (λj e=>by
      rcases aF.fp j e with h5|h5
      ·exact .inr (.inl h5)
      ·exact .inl h5)
     refine OC$ Oz$ qN O$ qV (Pp (news:=RB false g6) SB O Pw O (OP.cells (n:=3) eD O) O)$ OT O (PG (news:=RB false g6) Pw O O O O eD (by simp)) ?_;rintro we ⟨du,bQ⟩;replace du:OP we b4 [.bool false,.bool g6.isSome,I (g6.getD 0)] 245:=du;refine OV O$ Pf func143 (.cell SB O Pw O (OP.cells (n:=3) du (news:=[_,_,_]) O) O (.tmp O .nil)) ?_
     have n49:∀b,Sz c V9 p b->b≠b4:=λb hb e=>by
      rcases cA b hb with h5|h5
      ·exact n4' b h5 e
      ·omega
     have fj:A.Rm k=({A6 with once:=A6.once++[k]},false,g6):=by
      unfold Arc.Rm;rw[if_neg bD,if_neg sN,if_neg hg];dsimp only;rw[cz]
     rw[fj]
     exact⟨_,rfl,rfl,V9,ba.m.kp bQ n49,λb hb=>(cA b hb).imp id (λe=>by omega),(aG.kp.It aw (λj e=>by
      rcases e with e| e
      ·exact .inr e
      ·exact .inl (by omega))).It bQ (λj e=> .inl (by omega))⟩
end
def Arc.z8a (A:Arc)(k:Int):Nat->Arc
 |0=>A
 |i+1=>(A.z8a k i).Qi i (((A.z8a k i).li i).erase k)
def Arc.drop (A:Arc)(k:Int):Arc:=A.z8a k 4
theorem Arc.drop_eq (A:Arc)(k:Int):A.drop k={A with once:=A.once.erase k,often:=A.often.erase k,P3:=A.P3.erase k,OX:=A.OX.erase k}:=rfl
theorem Arc.Ok.drop {A:Arc}(h:A.Ok)(k:Int):(A.drop k).Ok:=by
 rw[Arc.drop_eq]
 have hs:(A.once.erase k++(A.often.erase k++(A.P3.erase k++A.OX.erase k))).Sublist A.all:=List.erase_sublist.append (List.erase_sublist.append (List.erase_sublist.append List.erase_sublist))
 have a1:(A.once.erase k).length<=A.once.length:=List.length_erase_le
 have a2:(A.often.erase k).length<=A.often.length:=List.length_erase_le
 have a3:(A.P3.erase k).length<=A.P3.length:=List.length_erase_le
 have h1:=h.held
 have h2:=h.first
 exact⟨h.pos,h.nd.sublist hs,by dsimp only;omega,by dsimp only;omega,Nat.le_trans hs.length_le h.total,h.tg⟩
def Arc.z8Y {A:Arc}(h:A.Ok)(k x:Int):(A.drop k).held x↔A.held x/\x≠k:=by
 have eW:=h.nd
 unfold Arc.all at eW
 rw[List.nodup_append] at eW
 obtain⟨nd1,nd2,-⟩:=eW
 rw[List.nodup_append] at nd2
 obtain⟨nd4,-,-⟩:=nd2
 rw[Arc.drop_eq]
 unfold Arc.held
 dsimp only
 rw[nd1.mem_erase_iff,nd4.mem_erase_iff]
 constructor
 ·rintro(⟨a,b⟩|⟨a,b⟩)
  ·exact⟨.inl b,a⟩
  ·exact⟨.inr b,a⟩
 ·rintro⟨b|b,a⟩
  ·exact .inl ⟨a,b⟩
  ·exact .inr ⟨a,b⟩
section
variable {w w' w2:World}{c p:Nat}{A:Arc}{V V':Nat->Value×Value}{k:Int}
theorem za7 (h:SQ w c A V p):Pm prog 132 [ptr c 0,I k] w λv w'=>(∃z,v=I z)/\∃V',Wf w c V p w' (A.drop k) V':=by
 have hB:=h.cells
 have nB:=Vw h (j:=2) (k:=k) (by decide)
 have rB:=Vw h (j:=3) (k:=k) (by decide)
 rw[show A.li 2=A.P3 from rfl] at nB
 rw[show A.li 3=A.OX from rfl] at rB
 refine py (e:=[(0,_),(1,_)]) func132 O ntmps132 O O$ Qx O$ An$ PD (λe' w'=>e'=[(0,ptr c 0),(1,I k)]/\w'=w) ?cZ$ λcZ=>?iW
 case cZ=>
  rintro e' w1 ⟨rfl,rfl⟩;have hg:=Ext.P4 w1;refine An$ An$ QV (λw'=>Ext w1 w') O$ OZ 0 O O (hg)$ OG 1 O (Q8 O) hg$ OG 2 O (Pr Qy O) hg$ OZ 3 O O (hg)$ OG 4 O (Q8 O) hg$ OG 5 O (Pr Rj O) hg$ OZ 6 O O (hg)$ OG 7 O (Q8 O) hg$ OG 8 O (Pr QN O) hg$ OZ 9 O O (hg)$ OG 10 O (Q8 O) hg ?_;refine OG 11 O (Pr Re O) hg$ OZ 14 O O (hg)$ qO 12$ XJ (i:=12) O O O (XZ (cs:=[_,_,_,_]) (zs:=[Value.pointer none,Value.pointer none,Value.pointer none,Value.pointer none]) zfu zdQ O (by kernel_rfl) O O O (by decide)) ?_;rintro _ w2 ⟨b51,rfl,⟨Fp,ae,M6⟩,zZ⟩;refine⟨hg.trans ae,?_⟩;have aJ:=hg.trans ae;refine OG 13 O (SE zfu O) (hg.trans ae)$ qE$ OE ?_;have aS:∀{b:Nat},Sz c V p b->b<w1.heap.size:=h.lt;have lb:=zZ.lt (g:=b51) O;have z12:=hg.size;have Fr:=zZ.rd;refine Rr (α:=Nat×(Nat->Value×Value)) ((0,V)) (λx=>[(1,I k),(51,.slice (some ⟨b51,0,none⟩) 4 4),(52,I 4),(53,I (x.1:Int))]) (λx w'=>x.1<=4/\Wf w2 c V p w' (A.z8a k x.1) x.2/\Rd w' (.slice (some ⟨b51,0,none⟩) 4 4) 1 4 [ptr c 1,ptr c 3,ptr c 5,ptr c 7]) (λx=>4-x.1) ?hI ?hround
  case hI=>exact⟨Nat.zero_le _,(h.ext aJ).r (Ext.refl w2),Fr⟩
  case hround=>
   rintro⟨i,Vi⟩ w3 ⟨hi,mJ,Fs⟩ ih;dsimp only at hi mJ Fs ih⊢
   try dsimp only
   refine qN O$ Qw O$ OC$ An$ OQ O (λh0=>?_)$ λh0=>?_
   ·have pH:i<4:=by omega
    have hx:([ptr c 1,ptr c 3,ptr c 5,ptr c 7]:List Value)[i]? =some (ptr c (1+2*i)):=by
     match i,pH with
     |0,_|1,_|2,_|3,_=>rfl
    refine OD$ QA$ qN O$ qV (PR zfu zdQ O O (by omega))$ qV (Ps zjS O O (PU Fs hx))$ OV O$ OK O$ Pa O$ P5 SL O (Qh mJ.m (j:=i) (k:=k) pH) ?_;rintro _ w4 ⟨rfl,V4,bG⟩;refine OC$ Oz$ OK O$ PS O$ ON O$ OC ((ih (i+1,V4) _ ⟨pH,mJ.trans bG,Fs.kp bG.k λg e hf=>?_⟩ (by dsimp only;omega)).qb);have e':b51=g:=Rx e;rcases mJ.fp _ hf with e| e
    ·have:=aS e;have hb:b51=w1.drew.heap.size:=Fp;omega
    ·omega
   ·have pH:i=4:=by omega
    subst pH;refine OO O$ Qx O$ OB func132 O ?_;exact⟨_,rfl,⟨0,rfl⟩,Vi,(h.r aJ).trans mJ⟩
 case iW =>
  refine OE$ Pn O$ qV (PY zaC O O)$ OV O$ OL O$ Qt O$ P5 zeo O (z2P h (k:=k)) ?_;rintro _ w ⟨rfl,rfl⟩;by_cases fY:k∈A.once\/k∈A.often
  ·rw[decide_eq_true fY];refine qV ((RZ O))$ ON O$ QL$ QL$ QL$ PM O$ ON O$ QL$ QL$ QL$ PM O$ OV O$ Po.qb (e:=[(0,_),(1,_),(4,_),(10,_)]) ?_;refine OL O$ Pn O$ Pq O$ OW z0E O$ qV (OM Xn O O hB O)$ ON O$ qV (ylk (k:=k) (K:=KI) Xn (S5 U3) PV O O h.pins)$ QB O$ PH$ OV O$ SH O$ Oz ?_;exact(cZ _ _ ⟨rfl,rfl⟩).qb
  ·rw [decide_eq_false fY]; refine qV ((RZ O)) (Pa O (Pq O (OW QN O (ON O (P5 XD O (nB) ?_))))); rintro _ w ⟨rfl, rfl⟩; by_cases am : k ∈ A.P3
   ·rw[decide_eq_true am];refine qV ((RZ O))$ QX O$ ON O$ QL$ QL$ QL$ PM O$ OV O$ Po.qb (e:=[(0,_),(1,_),(4,_),(10,_)]) ?_;refine OL O$ Pn O$ Pq O$ OW z0E O$ qV (OM Xn O O hB O)$ ON O$ qV (ylk (k:=k) (K:=KI) Xn (S5 U3) PV O O h.pins)$ QB O$ PH$ OV O$ SH O$ Oz ?_;exact(cZ _ _ ⟨rfl,rfl⟩).qb
   ·rw[decide_eq_false am];refine qV ((RZ O))$ QX O$ Pa O$ Pq O$ OW Re O$ ON O$ P5 XD O (rB) ?_;rintro _ w ⟨rfl,rfl⟩;by_cases av:k∈A.OX
    ·rw[decide_eq_true av];refine qV ((RZ O))$ QX O$ OV O$ Po.qb (e:=[(0,_),(1,_),(4,_),(10,_)]) ?_;refine OL O$ Pn O$ Pq O$ OW z0E O$ qV (OM Xn O O hB O)$ ON O$ qV (ylk (k:=k) (K:=KI) Xn (S5 U3) PV O O h.pins)$ QB O$ PH$ OV O$ SH O$ Oz ?_;exact(cZ _ _ ⟨rfl,rfl⟩).qb
    ·rw[decide_eq_false av];refine qV ((RZ O))$ QX O$ OV O$ Po.qb (e:=[(0,_),(1,_),(4,_),(10,_)]) ?_;refine OS O$ Qx O$ OB func132 O ?_
     have hd:A.drop k=A:=by
      rw[Arc.drop_eq,List.erase_of_not_mem (λe=>fY (.inl e)),List.erase_of_not_mem (λe=>fY (.inr e)),List.erase_of_not_mem am,List.erase_of_not_mem av]
     rw[hd];exact⟨_,rfl,⟨6,rfl⟩,V,h.r (Ext.refl w)⟩
end
structure Pg where
 k:Int
 b:Nat
 t:OI
 d:Bool
def TX (l:List Pg):List (Int×Value):=l.map λg=>(g.k,ptr g.b 0)
def pgC (t:OI)(d:Bool):List Value:=[S t,.bool d,I 0]
structure Ra where
 s:Nat
 d:Nat
 m:Nat
 gi:Nat
 c:Nat
 pm:Nat
 p:Nat
 fr:Nat
 V:Nat->Value×Value
 D:Dev
 A:Arc
 l:List Pg
 L:List Bool
 Fd:Nat->Prop
 h:Int
 mi:Int
 wr:Int
def Ra.cp (P:Ra):Nat->Nat->Prop
 |0,b=>b=P.s
 |1,b=>P.Fd b
 |2,b=>b=P.m\/b=P.gi
 |3,b=>Sz P.c P.V P.p b
 |4,b=>b=P.pm
 |5,b=>∃g∈P.l,g.b=b
 |_,_=>False
def Ra.fp (P:Ra)(b:Nat):Prop:=∃i,P.cp i b
def plC (P:Ra):List Value:=[ptr P.d 0,ptr P.m 0,ptr P.c 0,.map (some P.pm),I (P.fr:Int),I P.h,I P.mi,I P.wr,I 0,I 0,I 0,.bool false]
def Dis (f:Nat->Nat->Prop):Prop:=∀i j,i≠j->∀b,f i b->¬f j b
structure Uj (w:World)(P:Ra):Prop where
 OA:OP w P.s (plC P) 113
 dev:Wj w P.d P.D P.Fd
 ext:XI w P.m P.gi P.L
 arc:SQ w P.c P.A P.V P.p
 mp:SF KI w P.pm (TX P.l)
 pg:∀g∈P.l,OP w g.b (pgC g.t g.d) 204
 pnd:(P.l.map (·.b)).Nodup
 Vm:Dis P.cp
section
variable {w w' w0:World}{P P0 P':Ra}{S:Nat->Prop}{i0:Nat}
def Uj.lt (h:Uj w P){b:Nat}(hb:P.fp b):b<w.heap.size:=by
 obtain⟨i,hi⟩:=hb
 match i,hi with
 |0,e=>rw[show b=P.s from e];exact h.OA.lt
 |1,e=>exact h.dev.lt b e
 | 2, e =>
   rcases e with e| e
   ·rw[e];exact h.ext.ltm
   ·rw[e];exact h.ext.ltg
 |3,e=>exact h.arc.lt e
 |4,e=>rw[show b=P.pm from e];exact h.mp.lt
 |5,⟨g,hg,e⟩=>rw[<-e];exact(h.pg g hg).lt
def Uj.kp (h:Uj w P)(hk:Kp S w w')(hn:∀b,P.fp b->¬S b):Uj w' P:=
 ⟨hk.OA h.OA (hn _ ⟨0,rfl⟩),h.dev.kp hk λb hb=>hn b ⟨1,hb⟩,h.ext.kp hk (hn _ ⟨2,.inl O⟩) (hn _ ⟨2,.inr O⟩),h.arc.kp hk λb hb=>hn b ⟨3,hb⟩,h.mp.kp hk (hn _ ⟨4,rfl⟩),λg hg=>hk.OA (h.pg g hg) (hn _ ⟨5,g,hg,rfl⟩),h.pnd,h.Vm⟩
theorem Uj.ext' (h:Uj w P)(hx:Ext w w'):Uj w' P:=h.kp (S:=λ_=>False) hx λ_ _=>id
def Uj.za4 (h:Uj w P)(hk:Kp (P.cp i0) w w')(ne:0≠i0):OP w' P.s (plC P) 113:=hk.OA h.OA (h.Vm 0 i0 ne _ O)
def Uj.z9A (h:Uj w P)(hk:Kp (P.cp i0) w w')(ne:1≠i0):Wj w' P.d P.D P.Fd:=h.dev.kp hk λb hb=>h.Vm 1 i0 ne b hb
def Uj.text (h:Uj w P)(hk:Kp (P.cp i0) w w')(ne:2≠i0):XI w' P.m P.gi P.L:=h.ext.kp hk (h.Vm 2 i0 ne _ (.inl O)) (h.Vm 2 i0 ne _ (.inr O))
def Uj.z99 (h:Uj w P)(hk:Kp (P.cp i0) w w')(ne:3≠i0):SQ w' P.c P.A P.V P.p:=h.arc.kp hk λb hb=>h.Vm 3 i0 ne b hb
def Uj.tmp (h:Uj w P)(hk:Kp (P.cp i0) w w')(ne:4≠i0):SF KI w' P.pm (TX P.l):=h.mp.kp hk (h.Vm 4 i0 ne _ O)
def Uj.tpg (h:Uj w P)(hk:Kp (P.cp i0) w w')(ne:5≠i0):∀g∈P.l,OP w' g.b (pgC g.t g.d) 204:=λg hg=>hk.OA (h.pg g hg) (h.Vm 5 i0 ne _ ⟨g,hg,rfl⟩)
def Uj.zaN (h:Uj w P)(hs:∀i,i≠i0->P'.cp i=P.cp i)(hi:∀b,P'.cp i0 b->P.cp i0 b\/∀i,¬P.cp i b):Dis P'.cp:=λi j ne b hb bN=>by
 by_cases e:i=i0
 ·have e2:j≠i0:=λe2=>ne (e.trans e2.symm);rw[e] at hb;rw[hs j e2] at bN;rcases hi b hb with h1|h1
  ·exact h.Vm i0 j (λe3=>e2 e3.symm) b h1 bN
  ·exact h1 j bN
 ·rw[hs i e] at hb;by_cases e2:j=i0
  ·rw[e2] at bN;rcases hi b bN with h1|h1
   ·exact h.Vm i i0 e b hb h1
   ·exact h1 i hb
  ·rw[hs j e2] at bN;exact h.Vm i j ne b hb bN
theorem Uj.new (h:Uj w P){b:Nat}(hb:w.heap.size<=b):∀i,¬P.cp i b:=λi e=>by have:=h.lt ⟨i,e⟩;omega
structure Un (w0:World)(P0:Ra)(w:World)(P:Ra):Prop where
 m:Uj w P
 fp:∀b,P.fp b->P0.fp b\/w0.heap.size<=b
 k:Kp P0.fp w0 w
theorem Uj.r (h:Uj w P)(hx:Ext w w'):Un w P w' P:=⟨h.ext' hx,λb hb=> .inl hb,hx.kp⟩
def Un.ext (h:Un w0 P0 w P)(hx:Ext w w'):Un w0 P0 w' P:=⟨h.m.ext' hx,h.fp,h.k.trans hx.kp⟩
def Un.loc (h:Un w0 P0 w P)(hk:Kp S w w')(hS:∀b,S b->(P0.fp b\/w0.heap.size<=b)/\∀i,¬P.cp i b):Un w0 P0 w' P:=
 ⟨h.m.kp hk λb ⟨i,hb⟩ e=>(hS b e).2 i hb,h.fp,h.k.It hk λb e=>(hS b e).1.symm⟩
theorem Un.part (h:Un w0 P0 w P)(i0:Nat)(hm:Uj w' P')(hs:∀i,i≠i0->P'.cp i=P.cp i)(hi:∀b,P'.cp i0 b->P.cp i0 b\/w0.heap.size<=b)(hk:Kp (P.cp i0) w w'):Un w0 P0 w' P':=
 ⟨hm,λb ⟨i,hb⟩=>by
  by_cases e:i=i0
  ·rw[e] at hb;rcases hi b hb with h1|h1
   ·exact h.fp b ⟨i0,h1⟩
   ·exact .inr h1
  ·rw[hs i e] at hb
   exact h.fp b ⟨i,hb⟩,h.k.It hk λb hb=>(h.fp b ⟨i0,hb⟩).symm⟩
theorem Un.trans {w2:World}{P2:Ra}(h:Un w0 P0 w P)(h2:Un w P w2 P2):Un w0 P0 w2 P2:=
 ⟨h2.m,λb hb=>by
  rcases h2.fp b hb with e| e
  ·exact h.fp b e
  ·exact .inr (by have:=h.k.size;omega),h.k.It h2.k λb hb=>(h.fp b hb).symm⟩
def Un.dev (h:Un w0 P0 w P){D':Dev}(ht:z9b w P.d P.Fd D' w'):∃Fd',Un w0 P0 w' {P with D:=D',Fd:=Fd'}/\∀b,Fd' b->P.Fd b\/w.heap.size<=b:=by
 obtain⟨F',hd,hu⟩:=ht
 have hs:∀i,i≠1->Ra.cp {P with D:=D',Fd:=F'} i=P.cp i:=λi e=>by
  match i,e with
  |0,_|2,_|3,_|4,_|5,_=>rfl
  |i+6,_=>rfl
 have hk:Kp (P.cp 1) w w':=hu.1
 refine⟨F',h.part 1 ⟨h.m.za4 hk (by decide),hd,h.m.text hk (by decide),h.m.z99 hk (by decide),h.m.tmp hk (by decide),h.m.tpg hk (by decide),h.m.pnd,h.m.zaN hs λb hb=>?_⟩ hs (λb hb=>?_) hk,hu.2⟩
 ·exact(hu.2 b hb).imp id λe=>h.m.new e
 ·exact(hu.2 b hb).imp id λe=>by have:=h.k.size;omega
def Un.arc (h:Un w0 P0 w P){A':Arc}{V':Nat->Value×Value}(hr:Wf w P.c P.V P.p w' A' V'):Un w0 P0 w' {P with A:=A',V:=V'}:=by
 have hs:∀i,i≠3->Ra.cp {P with A:=A',V:=V'} i=P.cp i:=λi e=>by
  match i,e with
  |0,_|1,_|2,_|4,_|5,_=>rfl
  |i+6,_=>rfl
 have hk:Kp (P.cp 3) w w':=hr.k
 refine h.part 3 ⟨h.m.za4 hk (by decide),h.m.z9A hk (by decide),h.m.text hk (by decide),hr.m,h.m.tmp hk (by decide),h.m.tpg hk (by decide),h.m.pnd,h.m.zaN hs λb hb=>?_⟩ hs (λb hb=>?_) hk
 ·exact(hr.fp b hb).imp id λe=>h.m.new e
 ·exact(hr.fp b hb).imp id λe=>by have:=h.k.size;omega
def Un.exM (h:Un w0 P0 w P){L':List Bool}(he:XI w' P.m P.gi L')(hk:Kp (λb=>b=P.gi) w w'):Un w0 P0 w' {P with L:=L'}:=by
 have hs:∀i,i≠2->Ra.cp {P with L:=L'} i=P.cp i:=λi e=>by
  match i,e with
  |0,_|1,_|3,_|4,_|5,_=>rfl
  |i+6,_=>rfl
 have hk:Kp (P.cp 2) w w':=hk.OH λb e=> .inr e
 exact h.part 2 ⟨h.m.za4 hk (by decide),h.m.z9A hk (by decide),he,h.m.z99 hk (by decide),h.m.tmp hk (by decide),h.m.tpg hk (by decide),h.m.pnd,h.m.zaN hs λb hb=> .inl hb⟩ hs (λb hb=> .inl hb) hk
def Un.cnt (h:Un w0 P0 w P){a b c:Int}(hB:OP w' P.s (plC {P with h:=a,mi:=b,wr:=c}) 113)(hk:Kp (λb=>b=P.s) w w'):Un w0 P0 w' {P with h:=a,mi:=b,wr:=c}:=by
 have hs:∀i,i≠0->Ra.cp {P with h:=a,mi:=b,wr:=c} i=P.cp i:=λi e=>by
  match i,e with
  |1,_|2,_|3,_|4,_|5,_=>rfl
  |i+6,_=>rfl
 have hk:Kp (P.cp 0) w w':=hk
 exact h.part 0 ⟨hB,h.m.z9A hk (by decide),h.m.text hk (by decide),h.m.z99 hk (by decide),h.m.tmp hk (by decide),h.m.tpg hk (by decide),h.m.pnd,h.m.zaN hs λb hb=> .inl hb⟩ hs (λb hb=> .inl hb) hk
def Un.del (h:Un w0 P0 w P){l':List Pg}(hl:l'.Sublist P.l)(hm:SF KI w' P.pm (TX l'))(hk:Kp (λb=>b=P.pm) w w'):Un w0 P0 w' {P with l:=l'}:=by
 have hk:Kp (P.cp 4) w w':=hk
 have dR:∀i b,Ra.cp {P with l:=l'} i b->P.cp i b:=λi b hb=>by
  match i,hb with
  |0,e|1,e|2,e|3,e|4,e=>exact e
  |5,⟨g,hg,e⟩=>exact⟨g,hl.subset hg,e⟩
 have hp:=h.m.tpg hk (by decide)
 exact⟨⟨h.m.za4 hk (by decide),h.m.z9A hk (by decide),h.m.text hk (by decide),h.m.z99 hk (by decide),hm,λg hg=>hp g (hl.subset hg),(hl.map _).nodup h.m.pnd,λi j ne b hb bN=>h.m.Vm i j ne b (dR i b hb) (dR j b bN)⟩,λb ⟨i,hb⟩=>h.fp b ⟨i,dR i b hb⟩,h.k.It hk λb hb=>(h.fp b ⟨4,hb⟩).symm⟩
def Un.ins (h:Un w0 P0 w P){g:Pg}(hg:w0.heap.size<=g.b/\∀i,¬P.cp i g.b)(hb:OP w g.b (pgC g.t g.d) 204)(hm:SF KI w' P.pm (TX (P.l++[g])))(hk:Kp (λb=>b=P.pm) w w'):Un w0 P0 w' {P with l:=P.l++[g]}:=by
 have hk:Kp (P.cp 4) w w':=hk
 have hp:=h.m.tpg hk (by decide)
 have gI:∀i b,Ra.cp {P with l:=P.l++[g]} i b->P.cp i b\/(i=5/\b=g.b):=λi b hb=>by
  match i,hb with
  |0,e|1,e|2,e|3,e|4,e=>exact .inl e
  | 5, ⟨g', cS, e⟩ =>
    rcases List.mem_append.1 cS with e2|e2
    ·exact .inl ⟨g',e2,e⟩
    ·rw[List.mem_singleton.1 e2] at e;exact .inr ⟨rfl,e.symm⟩
 refine⟨⟨h.m.za4 hk (by decide),h.m.z9A hk (by decide),h.m.text hk (by decide),h.m.z99 hk (by decide),hm,λg' cS=>?_,?_,λi j ne b hb bN=>?_⟩,λb ⟨i,hb⟩=>?_,h.k.It hk λb hb=>(h.fp b ⟨4,hb⟩).symm⟩
 ·rcases List.mem_append.1 cS with e| e
  ·exact hp g' e
  ·rw[List.mem_singleton.1 e];exact hk.OA hb (hg.2 4)
 ·show((P.l++[g]).map (·.b)).Nodup;rw[List.map_append,List.nodup_append];refine⟨h.m.pnd,by simp,λa ha b hb e=>?_⟩;obtain⟨g',cS,rfl⟩:=List.mem_map.1 ha;rw[List.map_singleton,List.mem_singleton] at hb;exact hg.2 5 ⟨g',cS,e.trans hb⟩
 ·rcases gI i b hb with e|⟨e,e2⟩
  ·rcases gI j b bN with f|⟨f,f2⟩
   ·exact h.m.Vm i j ne b e f
   ·rw[f2] at e;exact hg.2 i e
  ·rcases gI j b bN with f|⟨f,f2⟩
   ·rw[e2] at f;exact hg.2 j f
   ·exact ne (e.trans f.symm)
 ·rcases gI i b hb with e|⟨e,e2⟩
  ·exact h.fp b ⟨i,e⟩
  ·rw[e2];exact .inr hg.1
theorem SJ {α β:Type}{f:α->β}:∀{l:List α},(l.map f).Nodup->∀{a b:α},a∈l->b∈l->f a=f b->a=b
 |[],_,a,b,ha,_,_=>by cases ha
 | x :: l, hn, a, b, ha, hb, e => by
   rw[List.map_cons,List.nodup_cons] at hn;rcases List.mem_cons.1 ha with h1|h1
   ·rcases List.mem_cons.1 hb with h2|h2
    ·rw[h1,h2]
    ·exact absurd (List.mem_map.2 ⟨b,h2,by rw[<-e,h1]⟩) hn.1
   ·rcases List.mem_cons.1 hb with h2|h2
    ·exact absurd (List.mem_map.2 ⟨a,h1,by rw[e,h2]⟩) hn.1
    ·exact SJ hn.2 h1 h2 e
def RJ (l:List Pg)(k:Int)(t:OI)(d:Bool):List Pg:=l.map λg=>if g.k=k then {g with t:=t,d:=d} else g
theorem zbj (l:List Pg)(k:Int)(t:OI)(d:Bool):TX (RJ l k t d)=TX l:=by
 unfold TX RJ
 rw[List.map_map]
 refine List.map_congr_left λg _=>?_
 by_cases h:g.k=k
 ·simp only[Function.comp_apply,if_pos h]
 ·simp only[Function.comp_apply,if_neg h]
theorem z3g (l:List Pg)(k:Int)(t:OI)(d:Bool):(RJ l k t d).map (·.b)=l.map (·.b):=by
 unfold RJ
 rw[List.map_map]
 refine List.map_congr_left λg _=>?_
 show Pg.b (if _ then _ else _)=_
 split<;>rfl
def Un.zgJ (h:Un w0 P0 w P){g:Pg}(hg:g∈P.l){t:OI}{d:Bool}(hb:OP w' g.b (pgC t d) 204)(hk:Kp (λb=>b=g.b) w w'):Un w0 P0 w' {P with l:=RJ P.l g.k t d}:=by
 have eW:=h.m.mp.nd
 have lQ:∀b,(∃g'∈RJ P.l g.k t d,g'.b=b)↔∃g'∈P.l,g'.b=b:=λb=>by
  have e:=z3g P.l g.k t d;constructor
  ·rintro⟨g',cS,rfl⟩;have:g'.b∈P.l.map (·.b):=by rw[<-e];exact List.mem_map.2 ⟨g',cS,rfl⟩
   obtain⟨g2,a,b⟩:=List.mem_map.1 this;exact⟨g2,a,b⟩
  ·rintro⟨g',cS,rfl⟩;have:g'.b∈(RJ P.l g.k t d).map (·.b):=by rw[e];exact List.mem_map.2 ⟨g',cS,rfl⟩
   obtain⟨g2,a,b⟩:=List.mem_map.1 this;exact⟨g2,a,b⟩
 have hs:∀i,i≠5->Ra.cp {P with l:=RJ P.l g.k t d} i=P.cp i:=λi e=>by
  match i,e with
  |0,_|1,_|2,_|3,_|4,_=>rfl
  |i+6,_=>rfl
 have aj:Kp (P.cp 5) w w':=hk.OH λb e=>⟨g,hg,e.symm⟩
 have hi:∀b,Ra.cp {P with l:=RJ P.l g.k t d} 5 b->P.cp 5 b:=λb hb=>(lQ b).1 hb
 refine h.part 5 ⟨h.m.za4 aj (by decide),h.m.z9A aj (by decide),h.m.text aj (by decide),h.m.z99 aj (by decide),?_,λg' cS=>?_,?_,h.m.zaN hs λb hb=> .inl (hi b hb)⟩ hs (λb hb=> .inl (hi b hb)) aj
 ·show SF KI w' P.pm (TX (RJ P.l g.k t d));rw[zbj];exact h.m.tmp aj (by decide)
 ·obtain⟨g2,aa,rfl⟩:=List.mem_map.1 cS;by_cases e:g2.k=g.k
  ·rw[if_pos e]
   have e2:g2=g:=by
    unfold TX at eW;rw[List.map_map] at eW;have Ft:(P.l.map (·.k)).Nodup:=eW;exact SJ Ft aa hg e
   rw[e2];exact hb
  ·rw[if_neg e];have bu:g2.b≠g.b:=λe2=>e (by rw[SJ h.m.pnd aa hg e2]);exact hk.OA (h.m.pg g2 aa) bu
 ·show((RJ P.l g.k t d).map (·.b)).Nodup;rw[z3g];exact h.m.pnd
end
def RW (l:List Pg):Nat:=l.countP (·.d)
structure W8 (P:Ra)(txt:Int->OI)(K:Nat):Prop where
 aok:P.A.Ok
 asz:P.A.size<=1000
 keys:∀x,x∈P.l.map (·.k)↔P.A.held x
 nd:(P.l.map (·.k)).Nodup
 rng:∀g∈P.l,0<=g.k/\g.k<(P.L.length:Int)
 tx:∀g∈P.l,g.t=txt g.k
 cl:∀g∈P.l,g.d=false->P.D.now g.k=txt g.k
 out:∀x,0<=x->x<(P.L.length:Int)->¬P.A.held x->P.D.now x=txt x
 len:∀x,0<=x->x<(P.L.length:Int)->(txt x).length=512
 down:P.D.down=false
 due:P.D.due=0
 B:P.D.B=P.L.length
 N:P.D.N=1
 ca:P.D.calls+(RW P.l:Int)<=(K:Int)
 cc:P.D.cache.length+RW P.l<=K
 Sj:P.D.Sj.length<=17592186044416
def ZB (txt:Int->OI)(no:Int)(wt:Option OI):Int->OI:=λx=>if x=no then wt.getD (txt x) else txt x
theorem Zk (txt:Int->OI)(no:Int):ZB txt no none=txt:=by
 funext x
 unfold ZB
 split<;>rfl
theorem S3 (txt:Int->OI)(no:Int)(wt:Option OI):ZB txt no wt no=wt.getD (txt no):=if_pos O
theorem Rn (txt:Int->OI){no x:Int}(wt:Option OI)(h:x≠no):ZB txt no wt x=txt x:=if_neg h
def wN (wt:Option OI):Nat:=if wt.isSome then 1 else 0
theorem z4d (D:Dev)(n x:Int)(s:OI):((D.push n s).count).now x=if n=x then s else D.now x:=by
 unfold Dev.now Dev.count Dev.push
 dsimp only
 rw[z6r]
 split<;>rfl
theorem z2H (D:Dev)(z:Int)(x:Int):({D with reads:=z}:Dev).now x=D.now x:=rfl
section
variable {P:Ra}{txt:Int->OI}{K:Nat}{no:Int}{wt:Option OI}
def ZR (no:Int)(t:OI):∀{l:List Pg},(l.map (·.k)).Nodup->RW (RJ l no t true)<=RW l+1
 |[],_=>Nat.zero_le _
 | g :: l, hn => by
   rw[List.map_cons,List.nodup_cons] at hn;by_cases h:g.k=no
   ·have e:RJ l no t true=l:=by
     unfold RJ
     conv=>rhs;rw[<-List.map_id l]
     refine List.map_congr_left λg' cS=>?_;rw[if_neg λe=>hn.1 (List.mem_map.2 ⟨g',cS,by rw[e,h]⟩)];rfl
    have e2:RJ (g::l) no t true={g with t:=t,d:=true}::l:=by
     show(if g.k=no then _ else g)::RJ l no t true=_;rw[if_pos h,e]
    rw[e2];unfold RW;rw[List.countP_cons,List.countP_cons];split<;>split<;>omega
   ·have ih:=ZR no t hn.2
    have e2:RJ (g::l) no t true=g::RJ l no t true:=by
     show(if g.k=no then _ else g)::RJ l no t true=_;rw[if_neg h]
    rw[e2];unfold RW at*;rw[List.countP_cons,List.countP_cons];omega
theorem z1r {l:List Pg}(hn:(l.map (·.k)).Nodup){g:Pg}(hg:g∈l):RJ l g.k g.t g.d=l:=by
 unfold RJ
 conv=>rhs;rw[<-List.map_id l]
 refine List.map_congr_left λg' cS=>?_
 by_cases h:g'.k=g.k
 ·rw[if_pos h,SJ hn cS hg h];rfl
 ·rw[if_neg h];rfl
theorem z7D (l:List Pg)(k:Int)(t:OI)(d:Bool):(RJ l k t d).map (·.k)=l.map (·.k):=by
 unfold RJ
 rw[List.map_map]
 refine List.map_congr_left λg _=>?_
 by_cases h:g.k=k
 ·simp only[Function.comp_apply,if_pos h]
 ·simp only[Function.comp_apply,if_neg h]
def Zy {l:List Pg}{k:Int}{t:OI}{d:Bool}{g:Pg}(h:g∈RJ l k t d):(g∈l/\g.k≠k)\/(g.k=k/\g.t=t/\g.d=d/\∃g'∈l,g'.k=k):=by
 obtain⟨g',cS,rfl⟩:=List.mem_map.1 h
 by_cases e:g'.k=k
 ·rw[if_pos e];exact .inr ⟨e,rfl,rfl,g',cS,e⟩
 ·rw[if_neg e];exact .inl ⟨cS,e⟩
theorem W8.hit (h:W8 P txt K){g:Pg}(hg:g∈P.l)(pZ:∀t,wt=some t->t.length=512){P':Ra}(hA:P'.A=(P.A.Rm g.k).1)(hl:P'.l=RJ P.l g.k (wt.getD g.t) (wt.isSome ||g.d))(hL:P'.L=P.L)(hD:P'.D=P.D):W8 P' (ZB txt g.k wt) (K+wN wt):=by
 have ht:=Arc.z0X h.aok g.k
 have bD:P.A.held g.k:=(h.keys _).1 (List.mem_map.2 ⟨g,hg,rfl⟩)
 have dg:=ht.no (ht.hit.2 bD)
 have wU:∀x,P'.A.held x↔P.A.held x:=λx=>by
  rw[hA,ht.held,dg];constructor
  ·rintro(e|e)
   ·rw[e];exact bD
   ·exact e.1
  ·intro e;exact .inr ⟨e,by simp⟩
 have hr:=h.rng g hg
 have wV:RW P'.l<=RW P.l+wN wt:=by
  rw[hl]
  cases wt with
  |none=>rw[show(none:Option OI).getD g.t=g.t from rfl,show((none:Option OI).isSome ||g.d)=g.d from rfl,z1r h.nd hg];exact Nat.le_add_right _ _
  |some t=>exact ZR _ _ h.nd
 have BJ:=h.ca
 have Fu:=h.cc
 refine⟨by rw[hA];exact ht.ok,by rw[hA,ht.size];exact h.asz,λx=>by rw[hl,z7D,h.keys,wU],by rw[hl,z7D];exact h.nd,λg' cS=>?_,λg' cS=>?_,λg' cS hd=>?_,λx h0 h1 hx=>?_,λx h0 h1=>?_,by rw[hD];exact h.down,by rw[hD];exact h.due,by rw[hD,hL];exact h.B,by rw[hD];exact h.N,by rw[hD];omega,by rw[hD];omega,by rw[hD];exact h.Sj⟩
 ·rw[hL];rw[hl] at cS;rcases Zy cS with e| e
  ·exact h.rng g' e.1
  ·rw[e.1];exact hr
 ·rw[hl] at cS;rcases Zy cS with e| e
  ·rw[Rn _ _ e.2];exact h.tx g' e.1
  ·rw[e.1,S3,e.2.1,h.tx g hg]
 ·rw[hD];rw[hl] at cS;rcases Zy cS with e| e
  ·rw[Rn _ _ e.2];exact h.cl g' e.1 hd
  ·rw[e.2.2.1] at hd
   have hw:wt=none:=by
    cases wt with
    |none=>rfl
    |some t=>cases hd
   rw[e.1,hw,Zk];rw[hw] at hd;exact h.cl g hg hd
 ·rw[hL] at h1;rw[wU] at hx;have bu:x≠g.k:=λe=>hx (e▸bD);rw[hD,Rn _ _ bu];exact h.out x h0 h1 hx
 ·rw[hL] at h1;by_cases e:x=g.k
  ·rw[e,S3]
   cases hw:wt with
   |none=>exact h.len _ (e▸h0) (e▸h1)
   |some t=>exact pZ t hw
  ·rw[Rn _ _ e];exact h.len x h0 h1
def SC:List Pg->Int->List Pg
 |[],_=>[]
 |g::l,k=>if g.k=k then l else g::SC l k
theorem V7 (g:Pg)(l:List Pg)(k:Int):SC (g::l) k=if g.k=k then l else g::SC l k:=rfl
theorem z2C (l:List Pg)(k:Int):delL (TX l) k=TX (SC l k):=by
 induction l with
 |nil=>rfl
 | cons g l ih =>
   show(if k=g.k then TX l else(g.k,ptr g.b 0)::delL (TX l) k)=_;rw[V7];by_cases h:k=g.k
   ·rw[if_pos h,if_pos h.symm]
   ·rw[if_neg h,if_neg (λe=>h e.symm),ih];rfl
def T0:∀(l:List Pg) (k:Int),(SC l k).Sublist l
 |[],_=>List.Sublist.refl _
 | g :: l, k => by
   rw[V7];split
   ·exact List.sublist_cons_self _ _
   ·exact(T0 l k).cons_cons _
def z1J {l:List Pg}(hn:(l.map (·.k)).Nodup)(k x:Int):x∈(SC l k).map (·.k)↔x∈l.map (·.k)/\x≠k:=by
 induction l with
 |nil=>simp[SC]
 | cons g l ih =>
   rw[List.map_cons,List.nodup_cons] at hn;rw[V7];by_cases h:g.k=k
   ·rw[if_pos h,List.map_cons,List.mem_cons];constructor
    ·intro e;exact⟨.inr e,λe2=>hn.1 (by rw[h,<-e2];exact e)⟩
    ·rintro⟨e|e,e2⟩
     ·exact absurd (e.trans h) e2
     ·exact e
   ·rw[if_neg h,List.map_cons,List.map_cons,List.mem_cons,List.mem_cons];have:=ih hn.2;rw[this];constructor
    ·rintro(e|e)
     ·exact⟨.inl e,λe2=>h (by rw[<-e,e2])⟩
     ·exact⟨.inr e.1,e.2⟩
    ·rintro⟨e|e,e2⟩
     ·exact .inl e
     ·exact .inr ⟨e,e2⟩
def z2T {l:List Pg}{g:Pg}(hn:(l.map (·.k)).Nodup)(hg:g∈l):RW (SC l g.k)+(if g.d then 1 else 0)=RW l:=by
 induction l with
 |nil=>cases hg
 | cons a l ih =>
   rw[List.map_cons,List.nodup_cons] at hn;rw[V7];by_cases h:a.k=g.k
   ·rw[if_pos h]
    have e:a=g:=by
     rcases List.mem_cons.1 hg with e| e
     ·exact e.symm
     ·exact absurd (List.mem_map.2 ⟨g,e,h.symm⟩) hn.1
    rw[e];unfold RW;rw[List.countP_cons]
   ·rw[if_neg h]
    have aa:g∈l:=by
     rcases List.mem_cons.1 hg with e| e
     ·exact absurd (by rw[e]) h
     ·exact e
    have:=ih hn.2 aa;unfold RW at*;rw[List.countP_cons,List.countP_cons];omega
structure zcE (P:Ra)(txt:Int->OI)(K:Nat)(g:Option Int)(D':Dev)(l':List Pg):Prop where
 now:∀x,0<=x->x<(P.L.length:Int)->x∉l'.map (·.k)->D'.now x=txt x
 cl:∀q∈l',q.d=false->D'.now q.k=txt q.k
 sub:l'.Sublist P.l
 keys:∀x,x∈l'.map (·.k)↔x∈P.l.map (·.k)/\g≠some x
 down:D'.down=false
 due:D'.due=0
 B:D'.B=P.D.B
 N:D'.N=P.D.N
 ca:D'.calls+(RW l':Int)<=(K:Int)
 cc:D'.cache.length+RW l'<=K
 Sj:D'.Sj.length<=17592186044416
def W8.zj5 (h:W8 P txt K):zcE P txt K none P.D P.l:=
 ⟨λx h0 h1 hx=>h.out x h0 h1 λe=>hx ((h.keys x).2 e),h.cl,List.Sublist.refl _,λx=>by simp,h.down,h.due,rfl,rfl,h.ca,h.cc,h.Sj⟩
def W8.zje (h:W8 P txt K){g:Pg}(hg:g∈P.l):zcE P txt K (some g.k) (if g.d then(P.D.push g.k g.t).count else P.D) (SC P.l g.k):=by
 have A0:=z2T h.nd hg
 have hk:=z1J h.nd g.k
 have BJ:=h.ca
 have Fu:=h.cc
 have dR:=T0 P.l g.k
 have jY:∀x,0<=x->x<(P.L.length:Int)->x∉(SC P.l g.k).map (·.k)->x=g.k\/¬P.A.held x:=λx h0 h1 hx=>by
  rw[hk,not_and] at hx;by_cases e:x=g.k
  ·exact .inl e
  ·exact .inr λe2=>hx ((h.keys x).2 e2) e
 have gL:∀q∈SC P.l g.k,q∈P.l/\q.k≠g.k:=λq hq=>⟨dR.subset hq,((hk q.k).1 (List.mem_map.2 ⟨q,hq,rfl⟩)).2⟩
 have sO:∀x,x∈(SC P.l g.k).map (·.k)↔x∈P.l.map (·.k)/\some g.k≠some x:=λx=>by
  rw[hk];simp only[ne_eq,Option.some.injEq];constructor
  ·rintro⟨a,b⟩;exact⟨a,λe=>b e.symm⟩
  ·rintro⟨a,b⟩;exact⟨a,λe=>b e.symm⟩
 cases hd:g.d with
 | true =>
   rw[hd] at A0;rw[if_pos O] at A0⊢;refine⟨λx h0 h1 hx=>?_,λq hq kP=>?_,dR,sO,h.down,?_,rfl,rfl,?_,?_,h.Sj⟩
   ·rw[z4d];rcases jY x h0 h1 hx with e| e
    ·rw[if_pos e.symm,e,h.tx g hg]
    ·by_cases e2:g.k=x
     ·rw[if_pos e2,<-e2,h.tx g hg]
     ·rw[if_neg e2];exact h.out x h0 h1 e
   ·obtain⟨a,b⟩:=gL q hq;rw[z4d,if_neg λe=>b e.symm];exact h.cl q a kP
   ·have:=h.due;show(if P.D.due=0 then(0:Int) else _)=0;rw[if_pos this]
   ·show P.D.calls+1+_<=_;omega
   ·show(P.D.cache++[_]).length+_<=_
    rw[List.length_append,List.length_singleton];omega
 | false =>
   rw[hd] at A0;rw[if_neg (by simp)] at A0⊢;refine⟨λx h0 h1 hx=>?_,λq hq kP=>?_,dR,sO,h.down,h.due,rfl,rfl,by omega,by omega,h.Sj⟩
   ·rcases jY x h0 h1 hx with e| e
    ·rw[e];exact h.cl g hg hd
    ·exact h.out x h0 h1 e
   ·exact h.cl q (gL q hq).1 kP
def W8.zgV (h:W8 P txt K)(h0:0<=no)(h1:no<(P.L.length:Int))(hh:¬P.A.held no)(pZ:∀t,wt=some t->t.length=512){D':Dev}{l':List Pg}(hg:zcE P txt K (P.A.Rm no).2.2 D' l'){P':Ra}{b:Nat}{z:Int}
  (hA:P'.A=(P.A.Rm no).1) (hl:P'.l=l'++[⟨no,b,wt.getD (txt no),wt.isSome⟩]) (hL:P'.L=P.L) (hD:P'.D={D' with reads:=z}):W8 P' (ZB txt no wt) (K+wN wt):=by
 have ht:=Arc.z0X h.aok no
 have M7:=hg.ca
 have M8:=hg.cc
 have ny:∀x,x∈P'.l.map (·.k)↔x=no\/x∈l'.map (·.k):=λx=>by
  rw[hl,List.map_append,List.mem_append,List.map_singleton,List.mem_singleton,or_comm]
 have wU:∀x,P'.A.held x↔x=no\/x∈l'.map (·.k):=λx=>by
  rw[hA,ht.held,hg.keys,h.keys]
 have iG:no∉l'.map (·.k):=λe=>hh ((h.keys no).1 ((hg.keys no).1 e).1)
 have wV:RW P'.l=RW l'+wN wt:=by
  rw[hl];unfold RW wN;rw[List.countP_append,List.countP_singleton]
 refine⟨by rw[hA];exact ht.ok,by rw[hA,ht.size];exact h.asz,λx=>by rw[ny,wU],?_,λg jT=>?_,λg jT=>?_,λg jT hd=>?_,λx x0 x1 hx=>?_,λx x0 x1=>?_,by rw[hD];exact hg.down,by rw[hD];exact hg.due,by rw[hD,hL];exact hg.B.trans h.B,by rw[hD];exact hg.N.trans h.N,by rw[hD];show D'.calls+_<=_;omega,by rw[hD];show D'.cache.length+_<=_;omega,by rw[hD];exact hg.Sj⟩
 ·rw[hl,List.map_append,List.nodup_append];refine⟨(hg.sub.map _).nodup h.nd,by simp,λa ha c hc e=>?_⟩;rw[List.map_singleton,List.mem_singleton] at hc;exact iG (by rw[<-show a=no from e.trans hc];exact ha)
 ·rw[hL];rw[hl] at jT;rcases List.mem_append.1 jT with e| e
  ·exact h.rng g (hg.sub.subset e)
  ·rw[List.mem_singleton.1 e];exact⟨h0,h1⟩
 ·rw[hl] at jT;rcases List.mem_append.1 jT with e| e
  ·rw[Rn _ _ (λe2=>iG (by rw[<-e2];exact List.mem_map.2 ⟨g,e,rfl⟩))];exact h.tx g (hg.sub.subset e)
  ·rw[List.mem_singleton.1 e,S3]
 ·rw[hD,z2H];rw[hl] at jT;rcases List.mem_append.1 jT with e| e
  ·rw[Rn _ _ (λe2=>iG (by rw[<-e2];exact List.mem_map.2 ⟨g,e,rfl⟩))];exact hg.cl g e hd
  ·rw[List.mem_singleton.1 e] at hd⊢
   have hw:wt=none:=by
    cases wt with
    |none=>rfl
    |some t=>cases hd
   rw[hw,Zk];exact hg.now no h0 h1 iG
 ·rw[hL] at x1;rw[wU,not_or] at hx;rw[hD,z2H,Rn _ _ hx.1];exact hg.now x x0 x1 hx.2
 ·rw[hL] at x1;by_cases e:x=no
  ·rw[e,S3]
   cases hw:wt with
   |none=>exact h.len _ h0 h1
   |some t=>exact pZ t hw
  ·rw[Rn _ _ e];exact h.len x x0 x1
end
section
variable {w w':World}{P:Ra}{S:Nat->Prop}{txt:Int->OI}{K:Nat}
theorem Uj.cells (h:Uj w P):OP w P.s [ptr P.d 0,ptr P.m 0,ptr P.c 0,.map (some P.pm),I (P.fr:Int),I P.h,I P.mi,I P.wr,I 0,I 0,I 0,.bool false] 113:=h.OA
def W8.zfv (h:W8 P txt K):P.D.Small K:=⟨by have:=h.ca;omega,by have:=h.cc;omega,trivial,h.Sj⟩
def z1G (h:Uj w P)(hN:P.D.N=1):Pm prog 49 [ptr P.s 0] w λv w'=>v=I 512/\w'=w:=by
 have hB:=h.cells
 have cD:=z8S h.dev
 rw[hN] at cD
 refine py (e:=[(0,_)]) func49 O ntmps49 O O$ Qx O$ PK O$ qV (PY XH O O)$ Qg O$ Pn O$ Pq O$ OW UW O$ qV (OM U26 O O hB O)$ P5 zfQ O (cD) ?_
 rintro _ w ⟨rfl,rfl⟩
 refine OV O$ OB func49 O ?_
 exact⟨_,rfl,rfl,rfl⟩
def z9B (h:Uj w P):Pm prog 124 [ptr P.s 0] w λv w'=>v=ptr P.d 0/\w'=w:=by
 have hB:=h.cells
 refine py (e:=[(0,_)]) func124 O ntmps124 O O$ Qx O$ PK O$ qV (PY XH O O)$ Qg O$ Pn O$ Pq O$ OW UW O$ qV (OM U26 O O hB O)$ OV O$ OB func124 O ?_
 exact⟨_,rfl,rfl,rfl⟩
def za9 (h:Uj w P):Pm prog 27 [ptr P.s 0] w λv w'=>v=ptr P.m 0/\w'=w:=by
 have hB:=h.cells
 refine py (e:=[(0,_)]) func27 O ntmps27 O O$ Qx O$ PK O$ qV (PY XH O O)$ Qg O$ Pn O$ Pq O$ OW z3D O$ qV (OM U67 O O hB O)$ OV O$ OB func27 O ?_
 exact⟨_,rfl,rfl,rfl⟩
def ZT (h:Uj w P)(hd:P.D.down=false):Pm prog 107 [ptr P.s 0] w λv w'=>v=I 0/\w'=w:=by
 have hB:=h.cells
 have wV:=za8 h.dev
 rw[hd] at wV
 refine py (e:=[(0,_)]) func107 O ntmps107 O O$ Qx O$ QA$ Pn O$ qV (PY XH O O)$ OV O$ OL O$ Pn O$ Pq O$ OW z8f O$ qV (OM U4 O O hB O)$ Pa O$ Pq O$ OW UW O ?_
 refine qV (OM U26 O O hB O)$ P5 zhq O (wV) ?_
 rintro _ w ⟨rfl,rfl⟩
 refine PM O$ OV O$ SH O$ Oz$ Qx O$ OB func107 O ?_
 exact⟨_,rfl,rfl,rfl⟩
theorem z5d (h:Uj w P)(uI:P.D.Small K)(wV:P.D.down=false)(sP:P.D.due=0)(M9:P.D.B=P.L.length)(kW:P.D.N=1)(hK:K<1000000000000){b:Nat}{t:OI}{d:Bool}{no:Int}(h0:0<=no)(h1:no<(P.L.length:Int))(ht:t.length=512)(hb:OP w b (pgC t d) 204)(oC:∀i,¬P.cp i b):
  Pm prog 144 [ptr P.s 0,I no,ptr b 0] w λv w'=>v=I 0/\∃Fd' wr',Uj w' {P with D:=if d then(P.D.push no t).count else P.D,Fd:=Fd',wr:=wr'}/\Kp (λj=>j=b\/P.cp 0 j\/P.cp 1 j) w w'/\(∀j,Fd' j->P.Fd j\/w.heap.size<=j):=by
 replace hb:OP w b [S t,.bool d,I 0] 204:=hb
 have hB:=h.cells
 have hg:=Ext.P4 w
 have sg:P.s≠b:=λe=>oC 0 e.symm
 have Ma:¬P.Fd P.s:=λe=>h.Vm 0 1 (by decide) P.s O e
 have IM:¬P.Fd b:=oC 1
 refine py (e:=[(0,_),(1,_),(2,_)]) func144 O ntmps144 O O ?_
 cases d with
 | false =>
   refine Qx O$ PK O$ Pq O$ OW VZ O$ OW z3a O$ qV (OM U4 O O hb O)$ qV ((RZ O))$ OC$ OS O$ Qx O$ OB func144 O (⟨_,rfl,rfl,P.Fd,P.wr,?_,Kp.refl _ _,λj e=> .inl e⟩);rw[if_neg (by simp)]
   exact h
 | true =>
   refine Qx O$ PK O$ Pq O$ OW VZ O$ OW z3a O$ qV (OM U4 O O hb O)$ qV ((RZ O)) ?_;have Fv:=z61 no t (h.dev.ext hg) uI hK;rw[zbv wV sP ⟨h0,by rw[M9];exact h1⟩ (by rw[kW];exact ht)] at Fv;dsimp only at Fv;refine Qg O$ An$ An$ QV (λw'=>Kp P.Fd w w') O$ OZ 0 O O (hg.kp)$ OG 1 O (Q8 O) (hg.kp)$ OG 2 O (Pr UW O) (hg.kp)$ qT 3 O (λ_ h=>(OM U26 O O (h.OA hB Ma) O)) (hg.kp)$ OZ 4 O O (hg.kp)$ OZ 5 O O (hg.kp)$ OG 6 O (Q8 O) (hg.kp)$ OG 7 O (Pr VZ O) (hg.kp)$ OG 8 O (Pr z2X O) (hg.kp)$ qT 9 O (λ_ h=>(OM U9 O O (h.OA hb IM) O)) (hg.kp) ?_;refine RT 10 O zi9 O (Fv) ?_;rintro _ w1 ⟨rfl,nS⟩;refine⟨hg.kp.trans nS.kpF,?_⟩;obtain⟨Fd',dj,pF⟩:=((h.r (Ext.refl w)).ext hg).dev nS;have az:Kp P.Fd w w1:=hg.kp.trans nS.kpF;have qR:∀j,Fd' j->P.Fd j\/w.heap.size<=j:=λj e=>(pF j e).imp id λe=>by have:=hg.size;omega
   refine OG 11 O (Rp O) (hg.kp.trans nS.kpF)$ qE$ Pn O$ QE O ?_;have ai:=dj.m.cells;refine Qg O$ Pn O$ Pq O$ OW VP O$ OW zb9 O$ qV (OM U3 O O ai O)$ qV (zb7 O O)$ Pq O$ OW VP O$ OW zb9 O$ OT O (QG PV O O O ai (by simp)) ?_;rintro w2 ⟨ak,am⟩;obtain⟨z,hz⟩:∃z,IntKind.i64.wrap (P.wr+1)=z:=⟨_,rfl⟩;rw[hz] at ak;have dt:=dj.cnt (a:=P.h) (b:=P.mi) (c:=z) ak am;have bN:=am.OA (az.OA hb IM) (λe=>sg e.symm);refine OC$ Po.qb (e:=[(2,_),(6,_)]) ?_;refine Pn O$ Pq O$ OW VZ O$ OW z3a O$ OT O (QG UH O O O bN (by simp)) ?_;rintro w3 ⟨dG,av⟩
   have Fw:∀i,¬Ra.cp {P with D:=(P.D.push no t).count,Fd:=Fd',h:=P.h,mi:=P.mi,wr:=z} i b:=λi e=>by
    match i,e with
    |0,e=>exact oC 0 e
    | 1, e =>
      rcases qR b e with e| e
      ·exact oC 1 e
      ·have:=hb.lt;omega
    |2,e=>exact oC 2 e
    |3,e=>exact oC 3 e
    |4,e=>exact oC 4 e
    |5,e=>exact oC 5 e
   refine qM O$ OV O$ OB func144 O (⟨_,rfl,rfl,Fd',z,?_,?_,qR⟩)
   ·rw[if_pos O];exact dt.m.kp av λj ⟨i,hj⟩ e=>Fw i (e▸hj)
   ·exact((az.OH λj e=> .inr (.inr e)).trans (am.OH λj e=> .inr (.inl e))).trans (av.OH λj e=> .inl e)
end
structure Ra.Same (P P':Ra):Prop where
 s:P'.s=P.s
 d:P'.d=P.d
 m:P'.m=P.m
 gi:P'.gi=P.gi
 c:P'.c=P.c
 pm:P'.pm=P.pm
 p:P'.p=P.p
 fr:P'.fr=P.fr
 L:P'.L=P.L
theorem Ra.Same.trans {P P' P2:Ra}(h:P.Same P')(h2:P'.Same P2):P.Same P2:=
 ⟨h2.s.trans h.s,h2.d.trans h.d,h2.m.trans h.m,h2.gi.trans h.gi,h2.c.trans h.c,h2.pm.trans h.pm,h2.p.trans h.p,h2.fr.trans h.fr,h2.L.trans h.L⟩
def z1p {l:List Pg}{k:Int}{b:Nat}{t0 t:OI}{d0 d:Bool}(h:k∉l.map (·.k)):RJ (l++[⟨k,b,t0,d0⟩]) k t d=l++[⟨k,b,t,d⟩]:=by
 unfold RJ
 rw[List.map_append]
 congr 1
 ·conv=>rhs;rw[<-List.map_id l]
  refine List.map_congr_left λg hg=>?_;rw[if_neg λe=>h (List.mem_map.2 ⟨g,hg,e⟩)];rfl
 ·show [if k=k then _ else _]=_;rw[if_pos O]
section
variable {w w' w0:World}{P P0 P':Ra}{txt:Int->OI}{K:Nat}
theorem Uj.get (h:Uj w P){q:Pg}(hq:q∈P.l):R8 (TX P.l) q.k=some (ptr q.b 0):=
 z4R h.mp.nd (List.mem_map.2 ⟨q,hq,rfl⟩)
theorem Un.write (h:Un w0 P0 w P){D':Dev}{Fd':Nat->Prop}{wr':Int}{b:Nat}(hm:Uj w' {P with D:=D',Fd:=Fd',wr:=wr'})(hk:Kp (λj=>j=b\/P.cp 0 j\/P.cp 1 j) w w')(hF:∀j,Fd' j->P.Fd j\/w.heap.size<=j)(hb:P0.fp b\/w0.heap.size<=b):Un w0 P0 w' {P with D:=D',Fd:=Fd',wr:=wr'}:=
 ⟨hm,λj ⟨i,hj⟩=>by
  match i,hj with
  |0,e=>exact h.fp j ⟨0,e⟩
  | 1, e =>
    rcases hF j e with e| e
    ·exact h.fp j ⟨1,e⟩
    ·exact .inr (by have:=h.k.size;omega)
  |2,e=>exact h.fp j ⟨2,e⟩
  |3,e=>exact h.fp j ⟨3,e⟩
  |4,e=>exact h.fp j ⟨4,e⟩
  |5,e=>exact h.fp j ⟨5,e⟩,h.k.It hk λj e=>by
  rcases e with e|e| e
  ·rw[e];exact hb.symm
  ·exact(h.fp j ⟨0,e⟩).symm
  ·exact(h.fp j ⟨1,e⟩).symm⟩
def ZX (hr:Un w0 P0 w P)(hI:W8 P txt K)(hK:K<1000000000000){no:Int}(h0:0<=no)(h1:no<(P.L.length:Int))(wt:Option OI)(pZ:∀t,wt=some t->t.length=512){x:Nat}{x0:Value}(jY:w0.heap.size<=x)(eG:∀i,¬P.cp i x)(fJ:OP w x [x0] 9){f:Nat}(qh:CF prog f)
  (Fx:∀(w1:World) (b:Nat) (t:OI) (d:Bool),b≠x->OP w1 b (pgC t d) 204->OP w1 x [x0] 9->Pm prog f [ptr b 0,ptr x 0] w1 λv w2=>v= .tuple #[]/\OP w2 b (pgC (wt.getD t) (wt.isSome ||d)) 204/\OP w2 x [S (wt.getD t)] 9/\Kp (λj=>j=if wt.isSome then b else x) w1 w2):
  Pm prog 108 [ptr P.s 0,I no,.bool wt.isSome,.func (.func f) #[] #[ptr x 0]] w λv w'=>v=I 0/\OP w' x [S (wt.getD (txt no))] 9/\∃P',Un w0 P0 w' P'/\W8 P' (ZB txt no wt) (K+wN wt)/\P.Same P'/\∀i,¬P'.cp i x:=by
 have hB:=hr.m.cells
 have eL:=WJ hr.m.dev
 rw[hI.B] at eL
 have lx:=fJ.lt
 have gM:=Arc.z0X hI.aok no
 obtain⟨T,hT⟩:∃T,P.A.Rm no=T:=⟨_,rfl⟩
 have fj:=z6E hr.m.arc hI.aok hI.asz (k:=no)
 rw[hT] at gM fj
 obtain⟨A2,hit,g⟩:=T
 dsimp only at gM fj
 have n4096:=hr.m.ext.n
 refine py (e:=[(0,_),(1,_),(2,_),(3,_)]) func108 O ntmps108 O O$ Qx O$ PK O$ Qw O$ PH$ Pa O$ ON O$ Pq O$ OW UW O$ qV (OM U26 O O hB O)$ P5 z5n O (eL) ?_
 rintro _ w ⟨rfl,rfl⟩
 refine U8 O$ PH$ PM O$ Qg O$ Pn O$ Pq O$ OW z7Z O$ qV (OM zaC O O hB O)$ ON O$ P5 zjb O (fj) ?_
 rintro _ w1 ⟨rfl,V2,sQ⟩
 have dj:=hr.arc sQ
 have oM:=sQ.k.OA fJ (eG 3)
 have z1:=sQ.k.size
 refine ON O$ qV (Ru (v:=zd7 hit g) O O)$ qV (Ru (v:=I 0) O O)$ OJ O O (Ry (cs:=[_,_,_]) Pw O) ?_
 rintro _ w2 ⟨b9,rfl,jb,ae,cK⟩
 have z2:=ae.size
 refine OT O (PG (news:=RB hit g) Pw O O O O cK (by simp)) ?_
 rintro w3 ⟨cY,av⟩
 replace cY:OP w3 b9 [.bool hit,.bool g.isSome,I (g.getD 0)] 245:=cY
 have aZ:Ext w1 w3:=ae.It av (λj e=>by omega)
 have ci:=dj.ext aZ
 have iX:=aZ.OA oM
 have z01:=dj.k.size
 have z13:=aZ.size
 have eZ:∀i,¬Ra.cp {P with A:=A2,V:=V2} i x:=λi e=>by
  match i,e with
  |0,e=>exact eG 0 e
  |1,e=>exact eG 1 e
  |2,e=>exact eG 2 e
  | 3, e =>
    rcases sQ.fp x e with e| e
    ·exact eG 3 e
    ·omega
  |4,e=>exact eG 4 e
  |5,e=>exact eG 5 e
 have A1:∀i,¬Ra.cp {P with A:=A2,V:=V2} i b9:=dj.m.new (by omega)
 have O9:b9≠x:=by omega
 have l93:=cY.lt
 have kX:=ci.m.cells
 dsimp only at kX
 refine OV O$ Po.qb (e:=[(0,_),(1,_),(2,_),(3,_),(8,_),(9,_),(10,_)]) ?_
 refine PK O$ QE O$ Qg O$ An$ qN O$ OW zct O ?_
 cases hit with
 | true =>
   have bD:=gM.hit.1 O
   obtain⟨q,hq,Fy⟩:∃q∈P.l,q.k=no:=by
    obtain⟨q,a,b⟩:=List.mem_map.1 ((hI.keys no).2 bD);exact⟨q,a,b⟩
   subst Fy;refine qV (OM U4 O O cY O)$ OC$ OS O$ Pn O$ Pq O$ OW VP O$ OW zb2 O$ qV (OM U3 O O kX O)$ qV (zb7 O O)$ Pq O$ OW VP O$ OW zb2 O$ OT O (QG PV O O O kX (by simp)) ?_;rintro w4 ⟨aK,au⟩;obtain⟨z,hz⟩:∃z,IntKind.i64.wrap (P.h+1)=z:=⟨_,rfl⟩;rw[hz] at aK;have bG:=ci.cnt (a:=z) (b:=P.mi) (c:=P.wr) aK au;have fX:=bG.m.cells;dsimp only at fX;have kY:=au.OA iX (eG 0);have fE:=bG.m.get hq;dsimp only at fE;have se:OP w4 q.b (pgC q.t q.d) 204:=bG.m.pg q hq;have uW:q.b≠x:=λe=>eG 5 ⟨q,hq,e⟩;refine qM O$ Pa O$ Pq O$ OW UR O$ qV (OM Xq O O fX O)$ ON O$ qV (ylk (k:=q.k) (K:=KI) Xq (S5 U3) zaL O O bG.m.mp.l) ?_;dsimp only;rw[fE];refine Qp O O (RN qh O O) (Fx w4 q.b q.t q.d uW se kY) ?_;rintro _ w5 ⟨rfl,Fz,mQ,aj⟩;refine OC$ Po.qb (e:=[(0,_),(1,_),(2,_),(3,_),(8,_),(9,_),(10,_)]) ?_;refine Qx O$ OB func108 O ?_;have FA:=hI.tx q hq;refine⟨_,rfl,rfl,by rw[<-FA];exact mQ,?_⟩
   cases wt with
   | none =>
     have A3:∀i,¬Ra.cp {P with A:=A2,V:=V2,h:=z,mi:=P.mi,wr:=P.wr} i x:=λi e2=>by
      match i,e2 with
      |0,e2=>exact eZ 0 e2
      |1,e2=>exact eZ 1 e2
      |2,e2=>exact eZ 2 e2
      |3,e2=>exact eZ 3 e2
      |4,e2=>exact eZ 4 e2
      |5,e2=>exact eZ 5 e2
     refine⟨_,bG.loc aj (λj e=>⟨.inr (by rw[show j=x from e];exact jY),by rw[show j=x from e];exact A3⟩),hI.hit hq pZ (by rw[hT]) ?_ O O,⟨rfl,rfl,rfl,rfl,rfl,rfl,rfl,rfl,rfl⟩,A3⟩;show P.l=RJ P.l q.k q.t q.d
     exact(z1r hI.nd hq).symm
   | some t =>
     refine⟨_,bG.zgJ hq Fz aj,hI.hit hq pZ (by rw[hT]) O O O,⟨rfl,rfl,rfl,rfl,rfl,rfl,rfl,rfl,rfl⟩,λi e2=>?_⟩
     match i,e2 with
     |0,e2=>exact eZ 0 e2
     |1,e2=>exact eZ 1 e2
     |2,e2=>exact eZ 2 e2
     |3,e2=>exact eZ 3 e2
     |4,e2=>exact eZ 4 e2
     | 5, ⟨g', cS, e2⟩ =>
       have h3:g'.b∈P.l.map (·.b):=by rw[<-z3g P.l q.k];exact List.mem_map.2 ⟨g',cS,rfl⟩
       obtain⟨g2,a,b⟩:=List.mem_map.1 h3
       exact eZ 5 ⟨g2,a,b.trans e2⟩
 | false =>
   have FB:¬P.A.held no:=λe=>by have:=gM.hit.2 e;cases this
   refine qV (OM U4 O O cY O)$ Qg O$ Pn O$ Pq O$ OW VP O$ OW zc6 O$ qV (OM U3 O O kX O)$ qV (zb7 O O)$ Pq O$ OW VP O$ OW zc6 O$ OT O (QG PV O O O kX (by simp)) ?_;rintro w4 ⟨aK,au⟩;obtain⟨z,hz⟩:∃z,IntKind.i64.wrap (P.mi+1)=z:=⟨_,rfl⟩;rw[hz] at aK;have bG:=ci.cnt (a:=P.h) (b:=z) (c:=P.wr) aK au;have fX:=bG.m.cells;dsimp only at fX;have kY:=au.OA iX (eG 0);have BK:b9≠P.s:=λe=>A1 0 e;have mN:=au.OA cY BK;have z4:=au.size;refine OC$ An$ qN O$ OW zcB O$ qV (OM U4 O O mN O)$ OC ?_
   have Mb:∀(D':Dev) (Fd':Nat->Prop) (l':List Pg) (wr':Int),(∀j,Fd' j->P.Fd j\/w.heap.size<=j)->l'.Sublist P.l->∀b,(∀i,¬Ra.cp {P with A:=A2,V:=V2} i b)->b<w.heap.size\/(∀j,Fd' j->j≠b)->∀i,¬Ra.cp {P with A:=A2,V:=V2,D:=D',Fd:=Fd',l:=l',mi:=z,wr:=wr'} i b:=λD' Fd' l' wr' hF hl b hb bN i e=>by
    match i,e with
    |0,e=>exact hb 0 e
    | 1, e =>
      rcases bN with h| h
      ·rcases hF b e with e| e
       ·exact hb 1 e
       ·omega
      ·exact h b e O
    |2,e=>exact hb 2 e
    |3,e=>exact hb 3 e
    |4,e=>exact hb 4 e
    |5,⟨q,hq,e⟩=>exact hb 5 ⟨q,hl.subset hq,e⟩
   refine PD (λe' w'=>e'=[(0,ptr P.s 0),(1,I no),(2,.bool wt.isSome),(3,.func (.func f) #[] #[ptr x 0])]/\∃D' Fd' l' wr',Un w0 P0 w' {P with A:=A2,V:=V2,D:=D',Fd:=Fd',l:=l',mi:=z,wr:=wr'}/\zcE P txt K g D' l'/\OP w' x [x0] 9/\(∀j,Fd' j->P.Fd j\/w.heap.size<=j/\j≠x)) ?cZ$ λcZ=>?iW
   case cZ =>
    rintro e' w5 ⟨rfl,D',Fd',l',wr',bP,ew,mQ,wJ⟩;have iG:no∉l'.map (·.k):=λe=>FB ((hI.keys no).1 ((ew.keys no).1 e).1);have z5:=bP.k.size;have lx5:=mQ.lt
    have f7:∀i,¬Ra.cp {P with A:=A2,V:=V2,D:=D',Fd:=Fd',l:=l',mi:=z,wr:=wr'} i x:=λi e=>by
     match i,e with
     |0,e=>exact eG 0 e
     | 1, e =>
       rcases wJ x e with e| e
       ·exact eG 1 e
       ·exact e.2 O
     |2,e=>exact eG 2 e
     |3,e=>exact eZ 3 e
     |4,e=>exact eG 4 e
     |5,⟨q,hq,e⟩=>exact eG 5 ⟨q,ew.sub.subset hq,e⟩
    refine qN O$ qV (Sa (cs:=[_,_,_]) zgd O zg8 O O)$ OJ O O (R4 O (cs:=pgC [] false) O) ?_;rintro _ w6 ⟨b,rfl,hb,aR,aT⟩;replace aT:OP w6 b [S [],.bool false,I 0] 204:=aT;have cI:=bP.ext aR;have oN:=aR.OA mQ;have oO:b≠x:=by omega
    have gN:∀i,¬Ra.cp {P with A:=A2,V:=V2,D:=D',Fd:=Fd',l:=l',mi:=z,wr:=wr'} i b:=bP.m.new (by omega);have lb6:=aT.lt
    have A4:R8 (TX l') no=none:=z2R λe=>iG (by
     unfold TX at e;rw[List.map_map] at e
     exact e)
    refine OV O$ PK O$ qV ((RZ O)) ?_
    cases wt with
    | none =>
      refine OC$ OS O ?_;have jG:=cI.m.cells;dsimp only at jG;have eO:=z9v no cI.m.dev (k:=K) ⟨by have:=ew.ca;show D'.calls<=_;omega,by have:=ew.cc;show D'.cache.length<=_;omega,trivial,ew.Sj⟩ hK
      have Mc:D'.read no=({D' with reads:=IntKind.i64.wrap (D'.reads+1)},txt no,0):=by
       have hh:D'.has no=true:=by
        have:=ew.B;have:=hI.B;simp[Dev.has];omega
       unfold Dev.read;rw[if_neg (by rw[ew.down];simp),if_neg (by rw[hh];simp),ew.now no h0 h1 iG]
      dsimp only at eO;rw[Mc] at eO;dsimp only at eO;refine Qt O$ Pq O$ OW UW O$ qV (OM U26 O O jG O)$ ON O$ P5 zgz O (eO) ?_;rintro _ w7 ⟨rfl,sK⟩;obtain⟨Fd7,A7,A8⟩:=cI.dev sK;have eQ:Kp Fd' w6 w7:=sK.kpF;have bO:=eQ.OA aT (gN 1);have kZ:=eQ.OA oN (f7 1);refine ON O$ qV (Ru (v:=S (txt no)) O O)$ qV (Ru (v:=I 0) O O)$ Pq O$ OW VZ O$ OW z2X O$ OT O (QG ti9 O O O bO (by simp)) ?_;rintro w8 ⟨cj,aL⟩;replace cj:OP w8 b (pgC (txt no) false) 204:=cj
      have uX:∀i,¬Ra.cp {P with A:=A2,V:=V2,D:={D' with reads:=IntKind.i64.wrap (D'.reads+1)},Fd:=Fd7,l:=l',mi:=z,wr:=wr'} i b:=λi e=>by
       match i,e with
       |0,e=>exact gN 0 e
       | 1, e =>
         rcases A8 b e with e| e
         ·exact gN 1 e
         ·omega
       |2,e=>exact gN 2 e
       |3,e=>exact gN 3 e
       |4,e=>exact gN 4 e
       |5,e=>exact gN 5 e
      have lh:∀i,¬Ra.cp {P with A:=A2,V:=V2,D:={D' with reads:=IntKind.i64.wrap (D'.reads+1)},Fd:=Fd7,l:=l',mi:=z,wr:=wr'} i x:=λi e=>by
       match i,e with
       |0,e=>exact f7 0 e
       | 1, e =>
         rcases A8 x e with e| e
         ·exact f7 1 e
         ·have:=oN.lt;omega
       |2,e=>exact f7 2 e
       |3,e=>exact f7 3 e
       |4,e=>exact f7 4 e
       |5,e=>exact f7 5 e
      have g9:=A7.loc aL (λj e=>by rw[show j=b from e];exact⟨.inr (by omega),uX⟩);have ie:=aL.OA kZ (λe=>oO e.symm);have A9:=g9.m.cells;dsimp only at A9;refine QW O$ QE O$ OC$ Po.qb (e:=[(0,_),(1,_),(3,_),(10,_),(13,_),(106,_)]) ?_;refine SH O$ Pn O$ Pq O$ OW UR O$ qV (OM Xq O O A9 O)$ Pa O$ OT O (zf0 (k:=no) (K:=KI) Xq (S5 U3) O O O g9.m.mp) ?_;rintro w9 ⟨rC,aw⟩;dsimp only at rC;rw[UA _ _ _ A4] at rC;have ic:=g9.ins (g:=⟨no,b,txt no,false⟩) ⟨by dsimp only;omega,uX⟩ cj (by unfold TX at rC⊢;rw[List.map_append];exact rC) aw;have cK:=aw.OA cj (uX 4);have oP:=aw.OA ie (lh 4);refine qM O$ Pa O$ Qp O O (RN qh O O) (Fx w9 b (txt no) false oO cK oP) ?_;rintro _ w10 ⟨rfl,sR,oQ,aC⟩;refine qM O$ OV O$ OB func108 O ?_
      have A3:∀i,¬Ra.cp {P with A:=A2,V:=V2,D:={D' with reads:=IntKind.i64.wrap (D'.reads+1)},Fd:=Fd7,l:=l'++[⟨no,b,txt no,false⟩],mi:=z,wr:=wr'} i x:=λi e2=>by
       match i,e2 with
       |0,e2=>exact lh 0 e2
       |1,e2=>exact lh 1 e2
       |2,e2=>exact lh 2 e2
       |3,e2=>exact lh 3 e2
       |4,e2=>exact lh 4 e2
       | 5, ⟨q, hq, e2⟩ =>
         rcases List.mem_append.1 hq with e3|e3
         ·exact lh 5 ⟨q,e3,e2⟩
         ·rw[List.mem_singleton.1 e3] at e2;exact oO e2
      exact⟨_,rfl,rfl,oQ,_,ic.loc aC (λj e=>⟨.inr (by rw[show j=x from e];exact jY),by rw[show j=x from e];exact A3⟩),hI.zgV h0 h1 FB pZ (by rw[hT];exact ew) (by rw[hT]) O O O,⟨rfl,rfl,rfl,rfl,rfl,rfl,rfl,rfl,rfl⟩,A3⟩
    | some t =>
      refine OC$ OL O ?_;have jG:=cI.m.cells;dsimp only at jG;refine OD$ Pn O$ Pq O$ OW UR O$ qV (OM Xq O O jG O)$ Pa O$ OT O (zf0 (k:=no) (K:=KI) Xq (S5 U3) O O O cI.m.mp) ?_;rintro w9 ⟨rC,aw⟩;dsimp only at rC;rw[UA _ _ _ A4] at rC;have ic:=cI.ins (g:=⟨no,b,[],false⟩) ⟨by dsimp only;omega,gN⟩ aT (by unfold TX at rC⊢;rw[List.map_append];exact rC) aw;have cK:=aw.OA aT (gN 4);have oP:=aw.OA oN (f7 4);refine qM O$ Pa O$ Qp O O (RN qh O O) (Fx w9 b [] false oO cK oP) ?_;rintro _ w10 ⟨rfl,sR,oQ,aC⟩;refine qM O$ OV O$ OB func108 O ?_;have oA:=ic.zgJ (g:=⟨no,b,[],false⟩) (List.mem_append_right _ (List.mem_singleton.2 O)) sR aC;refine⟨_,rfl,rfl,oQ,_,oA,hI.zgV h0 h1 FB pZ (by rw[hT];exact ew) (by rw[hT]) (z1p iG) O O,⟨rfl,rfl,rfl,rfl,rfl,rfl,rfl,rfl,rfl⟩,λi e2=>?_⟩
      match i,e2 with
      |0,e2=>exact f7 0 e2
      |1,e2=>exact f7 1 e2
      |2,e2=>exact f7 2 e2
      |3,e2=>exact f7 3 e2
      |4,e2=>exact f7 4 e2
      | 5, ⟨q, hq, e2⟩ =>
        have e4:=z1p (b:=b) (t0:=[]) (t:=(some t).getD []) (d0:=false) (d:=(some t).isSome ||false) iG;have Md:q∈l'++[⟨no,b,(some t).getD [],(some t).isSome ||false⟩]:=by rw[<-e4];exact hq
        rcases List.mem_append.1 Md with e3|e3
        ·exact f7 5 ⟨q,e3,e2⟩
        ·rw[List.mem_singleton.1 e3] at e2;exact oO e2
   case iW=>
    cases g with
    | none =>
      refine SH O ?_
      exact(cZ _ _ ⟨rfl,_,_,_,P.wr,bG,hI.zj5,kY,λj e=> .inl e⟩).qb
    | some gk =>
      obtain⟨Me,Mf⟩:=gM.gone gk O
      obtain⟨q,hq,Fy⟩:∃q∈P.l,q.k=gk:=by
       obtain⟨q,a,b⟩:=List.mem_map.1 ((hI.keys gk).2 Me);exact⟨q,a,b⟩
      subst Fy;have fE:=bG.m.get hq;dsimp only at fE;have af:=Ext.P4 w4;refine OS O$ An$ QV (λw'=>Ext w4 w') O$ OZ 0 O O (af)$ OG 1 O (Q8 O) af$ OG 2 O (Pr UR O) af$ qT 3 O (λ_ h=>(OM Xq O O (h.OA fX) O)) af$ OG 4 O (Pr z3u O) af$ qT 5 O (λ_ h=>(OM U3 O O (h.OA mN) O)) af$ qT 6 O (λ_ h=>ylk (k:=q.k) (K:=KI) Xq (S5 U3) zaL O O (bG.m.ext' h).mp.l) af ?_;dsimp only;rw[fE];refine OG 7 O (Rp O) af$ qE$ Po.qb (e:=[(0,_),(1,_),(2,_),(3,_),(8,_),(9,_),(10,_),(11,_)]) ?_;refine An ?_;have ev:=Ext.P4 w4.drew;have jH:=af.OA fX;have mD:=af.OA mN;have bP:=bG.ext (af.trans ev);refine P9 [6] (λw'=>Ext w4.drew w') (by kernel_rfl) O$ PQ 0 O O (ev)$ Pl 1 O (Q8 O) ev$ Pl 2 O (Pr UR O) ev$ qL 3 O (λ_ h=>(OM Xq O O (h.OA jH) O)) ev$ Pl 4 O (Pr z3u O) ev$ qL 5 O (λ_ h=>(OM U3 O O (h.OA mD) O)) ev$ Tt [6]$ qO 6$ zbh (i:=6) O O (zeY (k:=q.k) (K:=KI) Xq (S5 U3) O O bP.m.mp O) ?_;rintro _ w6 ⟨FC,aM⟩;refine⟨trivial,?_⟩;dsimp only at FC;rw[z2C] at FC;have cI:=bP.del (T0 P.l q.k) FC aM;have FD:OP w4 q.b (pgC q.t q.d) 204:=bG.m.pg q hq;have Aa:q.b≠P.pm:=λe=>bG.m.Vm 5 4 (by decide) q.b ⟨q,hq,rfl⟩ e;have tX:=aM.OA ((af.trans ev).OA FD) Aa
      have gN:∀i,¬Ra.cp {P with A:=A2,V:=V2,h:=P.h,mi:=z,wr:=P.wr,l:=SC P.l q.k} i q.b:=λi e=>by
       match i,e with
       |0,e=>exact bG.m.Vm 5 0 (by decide) q.b ⟨q,hq,rfl⟩ e
       |1,e=>exact bG.m.Vm 5 1 (by decide) q.b ⟨q,hq,rfl⟩ e
       |2,e=>exact bG.m.Vm 5 2 (by decide) q.b ⟨q,hq,rfl⟩ e
       |3,e=>exact bG.m.Vm 5 3 (by decide) q.b ⟨q,hq,rfl⟩ e
       |4,e=>exact Aa e
       | 5, ⟨q2, gz, e⟩ =>
         have e2:q2=q:=SJ bG.m.pnd ((T0 P.l q.k).subset gz) hq e;have:=((z1J hI.nd q.k q2.k).1 (List.mem_map.2 ⟨q2,gz,rfl⟩)).2;exact this (by rw[e2])
      have rD:=hI.rng q hq;have FA:=hI.tx q hq;have yF:q.t.length=512:=by rw[FA];exact hI.len q.k rD.1 rD.2
      have oN:=aM.OA ((af.trans ev).OA kY) (eZ 4);have jG:=cI.m.cells;have FE:=aM.OA ((af.trans ev).OA mN) (A1 4);have z46:=(af.trans ev).size;have z56:=aM.size;refine qE$ Pn O$ OW z3u O$ qV (OM U3 O O FE O)$ ON O$ P5 zj1 O (z5d cI.m hI.zfv hI.down hI.due hI.B hI.N hK rD.1 rD.2 yF tX gN) ?_;rintro _ w7 ⟨rfl,Fd7,wr7,gK,aB,A8⟩;have A7:=cI.write gK aB A8 (bG.fp q.b ⟨5,q,hq,rfl⟩);have uW:q.b≠x:=λe=>eG 5 ⟨q,hq,e⟩
      have kZ:=aB.OA oN (λe=>by
       rcases e with e|e| e
       ·exact uW e.symm
       ·exact eG 0 e
       ·exact eG 1 e)
      refine QW O$ QE O$ Qg O ?_;exact(cZ _ _ ⟨rfl,_,Fd7,_,wr7,A7,hI.zje hq,kZ,λj e=>(A8 j e).imp id λe=>⟨by omega,by omega⟩⟩).qb
end
end Go.Proofs.YtffbidffdbpcoaaGreatDoor
