/- Merged by program. -/
import Derived.Test.YtgdkbagngobdlaaGreatDoorZt5
set_option linter.all false
set_option maxRecDepth 1000000
set_option maxHeartbeats 16000000
namespace Go.Proofs.YtgdkbagngobdlaaGreatDoor
open Go Go.RowKit Go.Proofs.Tryz
def z9w (v:Value)(l:List Int)(x:Int)(w:World)(hl:l.length<=17592186044416)(hr:Rd w v 1 l.length (l.map I)):
  Pm prog 218 [v,I x] w λu w'=>(∃k,u=I k/\(0<=k↔x∈l))/\w'=w:=by
 obtain⟨a,cap,rfl,ha⟩:=hr.shape
 refine py (e:=[(0,_),(1,_)]) func218 O ntmps218 O O$ QB O$ PG O$ Rv RB O$ OK O$ OD$ OH$ Rq (α:=Nat) (0) (λi=>[(0,.slice a l.length cap),(1,I x),(7,I (l.length:Int)),(8,I (i:Int))]) (λi w'=>w'=w/\i<=l.length/\∀j,j<i->l[j]?≠some x) (λi=>l.length-i) ?hI ?hround
 case hI=>exact⟨rfl,by omega,by omega⟩
 case hround =>
  rintro i _ ⟨rfl,hi,fH⟩ ih
  try dsimp only
  refine qN O$ Qq O$ OD$ It$ OQ O (λaZ=>?_)$ λaZ=>?_
  ·have gh:i<l.length:=by omega
   rcases hr.2 with⟨c,-,h⟩|⟨b,off,cap',lR,aW⟩
   ·omega
   cases lR;refine OE$ Qx$ Pf O$ Qw O$ P8 O$ OK O$ qV (PX RB Q7 O O (by omega))$ qV (Pr U3 O O (aW (i*1) (I l[i]) (by simp[gh]))) ?_;refine Ri O$ OD$ OQ O (λdP=>?_)$ λdP=>?_
   ·refine Pf O$ OU O$ OB func218 O (⟨_,rfl,⟨(i:Int),rfl,?_⟩,rfl⟩);constructor
    ·intro _;rw[dP];exact List.getElem_mem gh
    ·intro _;omega
   ·refine OE$ OA$ OL O$ PV O$ OK O$ OD ?_
    exact(ih (i+1) _ ⟨rfl,by omega,λj hj=>by
     rcases Nat.lt_or_ge j i with h| h
     ·exact fH j h
     ·have:j=i:=by omega
      subst this;rw[List.getElem?_eq_getElem gh]
      exact λh=>dP (QU h).symm⟩ (by omega)).qb
  ·refine ON O$ QB O$ OB func218 O (⟨_,rfl,⟨-1,rfl,?_⟩,rfl⟩);constructor
   ·intro h;omega
   ·intro h;obtain⟨j,hj,e⟩:=List.getElem_of_mem h;exact absurd (by rw[List.getElem?_eq_getElem hj,e]) (fH j (by omega))
def z3e (v:Value)(l:List Int)(x:Int)(w:World)(hl:l.length<=17592186044416)(hr:Rd w v 1 l.length (l.map I)):
  Pm prog 245 [v,I x] w λu w'=>u= .bool (decide (x∈l))/\w'=w:=by
 refine py (e:=[(0,_),(1,_)]) func245 O ntmps245 O O$ qN O$ Qw O$ P8 O$ P4 zf6 O (z9w v l x w hl hr) ?_
 rintro _ w1 ⟨⟨k,rfl,hk⟩,rfl⟩
 refine Te O$ OU O$ OB func245 O (⟨_,rfl,?_,rfl⟩)
 simp only[Qc,hk]
theorem z7i (c x:OG)(rest:List Value)(i:Nat)(h:i+x.length<=c.length):QR (c.map S8++rest) i (x.map S8)=(z9B c i x).map S8++rest:=by
 unfold QR z9B
 rw[List.take_append_of_le_length (by simp;omega),List.drop_append_of_le_length (by simp;omega)]
 simp
theorem Zw {D:Dev}{l:List Int}{tn:Int}{mk:UInt8}{i:Nat}{x:Int×OG}(hx:D.cache[i]? =some x):D.fallTo l tn mk (i+1)=
  if(i:Int)=tn then Zu (D.fallTo l tn mk i) x.1 (mixN mk (((D.fallTo l tn mk i) x.1).getD (zeros (512*D.N))) x.2 D.N)
   else if(i:Int)∈l then Zu (D.fallTo l tn mk i) x.1 x.2 else D.fallTo l tn mk i:=by
 simp only[Dev.fallTo,hx]
def zcn {w:World}{p m:Nat}{kp ca cv:Value}{D:Dev}(h:S1 w p m kp ca D)(l:List Int)(tn:Int)(mk:UInt8)(hl:l.length<=17592186044416)(hr:Rd w cv 1 l.length (l.map I))(ev:D.cache.length<2000000000000):
  Pm prog 227 [ptr p 0,.agg #[cv,I tn,S8 mk]] w λv w'=>v= .tuple #[]/\S1 w' p m (.slice none 0 0) (.slice none 0 0) (D.zcE l tn mk)/\Kp (λk=>k=p\/k=m) w w':=by
 have az:=h.ok.len
 have hN:=h.ok.hN
 have LB:=mk.toNat_lt
 have LC:=h.pm
 have Bs:=h.lt m (.inr (.inl O))
 have Is:∀{w':World},Ext w w'->w.heap.size<=w'.heap.size:=λh=>h.size
 obtain⟨a,cap,rfl,ha⟩:=h.cache.rd.shape
 obtain⟨ac,capc,rfl,O7⟩:=hr.shape
 refine py (e:=[(0,_),(1,_)]) func227 O ntmps227 O O$ qN O$ OM O O (Rm O O) ?_
 rintro _ w1 ⟨b3,rfl,eG,ad,au⟩
 have h0:=h.ext ad
 have dA:=ad.size
 replace hr:=hr.ext ad
 have EQ:=au.lt
 have hM:=h0.OC
 refine OD$ PG O$ Pu O$ OX YE O$ qV (OO z0Y O O hM O)$ Rv z0Y O$ OK O$ OD$ OH$ Rq (α:=Nat) (0) (λi=>[(0,ptr p 0),(3,ptr b3 0),(11,.slice a D.cache.length cap),(12,I (D.cache.length:Int)),(13,I (i:Int))]) (λi wi=>i<=D.cache.length/\S1 wi p m kp (.slice a D.cache.length cap) {D with sf:=D.fallTo l tn mk i}/\Rd wi (.slice ac l.length capc) 1 l.length (l.map I)/\OR wi b3 [.slice ac l.length capc,I tn,S8 mk] 130/\Kp (λk=>k=m) w1 wi) (λi=>D.cache.length-i) ?hI ?hround
 case hI=>exact⟨by omega,h0,hr,au,Kp.refl _ _⟩
 case hround =>
  rintro i wi ⟨hi,hd,mg,gF,sF⟩ ih
  try dsimp only
  have LD:=sF.size;refine qN O$ Qq O$ OD$ It$ OQ O (λaZ=>?_)$ λaZ=>?_
  ·have gh : i < D.cache.length := by omega
   have nQ:=hd.cache;rcases nQ.shape with⟨-,h⟩|⟨gb,cap',lR,jP⟩
   ·exact absurd h (by show ¬D.cache.length=0;omega)
   cases lR;obtain⟨x,hx⟩:∃x,D.cache[i]? =some x:=⟨_,List.getElem?_eq_getElem gh⟩;have sr:D.cache[i]=x:=by rw[List.getElem?_eq_getElem gh] at hx;exact QU hx
   have fW:((wrs D.cache).drop (i*2)).take 2=wr x:=by rw[z8j _ _ gh,sr]
   have iR:=hd.ok.cache x (List.mem_of_getElem? hx);simp only at iR;have ld:=nQ.part fW;refine OE$ Qx$ Pf O$ qV (PX z0Y WB O O (by omega))$ qV (Pt zh3 O WB O ld O)$ OM O O (RN (cs:=[_,_]) WB O) ?_;rintro _ w2 ⟨b5,rfl,ig,ae,aH⟩;refine RT O$ OW O (PO WB O O O O aH (by simp)) ?_;rintro w3 ⟨eE,av⟩;replace eE:OR w3 b5 [I x.1,S x.2] 337:=eE;have ai:Ext wi w3:=ae.An av (λj hj=>by omega);have i8:=eE.lt;replace hd:=hd.ext ai;have jG:=hd.lt;replace mg:=mg.ext ai;have qi:=mg;replace gF:=ai.OC gF;have jm:=gF.lt;have cu:Kp (λk=>k=m) w1 w3:=sF.trans ai.kp;have LE:=ai.size;have Iu:¬b3=b5:=by have:=ae.size;have:=gF;omega
   refine OD$ OH$ Pf O$ OX zda O$ qV ((OO U3 O O gF O))$ Ri O$ OU O$ OQ O (λBt=>?_)$ λBt=>?_
   ·refine Pf O$ OX z0H O$ qV ((OO U3 O O eE O))$ P4 zem O (z4Q x.1 hd) ?_;rintro _ w4 ⟨rfl,aD⟩;obtain⟨k0,ie⟩:∃k0,Dev.kept {D with sf:=D.fallTo l tn mk i} x.1=k0:=⟨_,rfl⟩;have zn:k0.length=512*D.N:=by rw[<-ie];exact hd.ok.kept x.1
    rw[ie];refine OM O O (z6G U9 Q5 U5 O) ?_;rintro _ w5 ⟨bb,capb,rest,rfl,⟨vz,aT,vQ⟩,Iv⟩;have dt:=aD.trans aT;replace hd:=hd.ext dt;replace mg:=mg.ext dt;replace gF:=dt.OC gF;replace eE:=dt.OC eE;have LF:=vQ.lt;have vR:=hd.OC;have Iw:=dt.size;have LG:=aD.size;have LH:=hd.OC.lt;refine OU O$ PG O$ Pu O$ OX z0t O$ OX ZM O$ qV (OO U3 O O vR O)$ OK O$ OD$ OH$ Rq (α:=Nat) (0) (λs=>[(0,ptr p 0),(3,ptr b3 0),(5,ptr b5 0),(6,.slice (some ⟨bb,0,none⟩) k0.length capb),(11,.slice (some ⟨gb,0,none⟩) D.cache.length cap),(12,I (D.cache.length:Int)),(13,I (i:Int)),(32,I (D.N:Int)),(33,I (s:Int))]) (λs ws=>s<=D.N/\OR ws bb ((mixN mk k0 x.2 s).map S8++rest) 5/\Kp (λk=>k=bb) w5 ws) (λs=>D.N-s) ?hI ?hround
    case hI=>exact⟨by omega,vQ,Kp.refl _ _⟩
    case hround=>
     rintro s ws ⟨hs,iS,ey⟩ ihs
     try dsimp only
     have zo:=ey.OC gF (by omega);have zp:=ey.OC eE (by omega);have eu:=Wu mk k0 x.2 D.N zn iR.2.2 s hs;refine qN O$ Qq O$ OD$ It$ OQ O (λeI=>?_)$ λeI=>?_
     ·have LI:s<D.N:=by omega
      obtain⟨q,hq⟩:∃q,mk.toNat / 2^s=q:=⟨_,rfl⟩;have O8:q<256:=by rw[<-hq];exact Nat.lt_of_le_of_lt (Nat.div_le_self _ _) LB
      refine OE$ Qx$ Pf O$ Qw O$ OX zcR O$ qV (OO U5 O O zo O)$ OK O$ qV (Sc s (2^s) O O (by simp only[IntKind.bits];omega) O) ?_;rw[hq];refine qV (zkZ O O (by omega) (by omega)) ?_;rw[Nat.and_one_is_mod];refine Ri O$ OD$ OQ O (λnD=>?_)$ λnD=>?_
      ·have nR:q%2=1:=by omega
       refine R5 (λw'=>Kp (λk=>k=bb) ws w') O$ OZ 0 O O ((Kp.refl _ ws).drew)$ OZ 1 O O ((Kp.refl _ ws).drew)$ OI 2 O (Wm O O (by omega)) ((Kp.refl _ ws).drew)$ OZ 3 O O ((Kp.refl _ ws).drew)$ OI 4 O (Ud O O (by omega)) ((Kp.refl _ ws).drew)$ OI 5 O (Wm O O (by omega)) ((Kp.refl _ ws).drew)$ OI 7 O (Pp z3Q O) ((Kp.refl _ ws).drew)$ qT 8 O (λ_ h=>OO U9 O O (h.OC zp (by omega)) O) ((Kp.refl _ ws).drew)$ OZ 9 O O ((Kp.refl _ ws).drew)$ OI 10 O (Wm O O (by omega)) ((Kp.refl _ ws).drew)$ OI 11 O (Yv U9 O O (by omega)) ((Kp.refl _ ws).drew)$ OI 6 O (zgB (i:=s*512) (j:=(s+1)*512) Q5 VK O O O (by omega) (by omega)) ((Kp.refl _ ws).drew)$ qO 12 ?_;refine RZ (i:=12) O O O (zkh Q5 VK O O ((Ext.OT ws).OC iS) (by simp[eu];omega)) ?_;rintro _ w6 ⟨rfl,aQ,aP⟩;refine⟨(Kp.refl _ ws).drew.trans aP,?_⟩
       have e6:((x.2.drop (s*512)).take ((s+1)*512-s*512)).map S8=((x.2.drop (512*s)).take 512).map S8:=by
        rw[show(s+1)*512-s*512=512 by omega,Nat.mul_comm]
       rw[e6,show 0+s*512*1=512*s by omega,z7i _ _ _ _ (by simp[eu,iR.2.2];omega)] at aQ
       have em:mixN mk k0 x.2 (s+1)=z9B (mixN mk k0 x.2 s) (512*s) ((x.2.drop (512*s)).take 512):=by
        simp only[mixN,hq,nR,if_true]
       rw[<-em] at aQ;refine qE$ OA$ OL O$ PV O$ OK O$ OD ?_;exact(ihs (s+1) w6 ⟨by omega,aQ,ey.trans ((Kp.refl _ ws).drew.trans aP)⟩ (by omega)).qb
      ·have nR:¬q%2=1:=by omega
       have em:mixN mk k0 x.2 (s+1)=mixN mk k0 x.2 s:=by simp only[mixN,hq,nR,if_false]
       rw[<-em] at iS;refine OE$ OA$ OL O$ PV O$ OK O$ OD ?_;exact(ihs (s+1) ws ⟨by omega,iS,ey⟩ (by omega)).qb
     ·have Db:s=D.N:=by omega
      subst Db;have zr:=hd.kp ey λk hk dv=>by have:=jG k hk;omega
      obtain⟨kv,nO,mZ⟩:=zr.map;have LJ:=zr.OC;have Bu:Ext w3 ws:=dt.An ey (λj hj=>by omega);have ue:=qi.ext Bu;refine ON O$ R5 (λw'=>Kp (λk=>k=m) ws w') O$ OZ 0 O O ((Kp.refl _ ws).drew)$ OI 1 O (Q4 O) ((Kp.refl _ ws).drew)$ OI 2 O (Pp z3t O) ((Kp.refl _ ws).drew)$ qT 3 O (λ_ h=>(OO z97 O O (h.OC LJ zr.pm) O)) ((Kp.refl _ ws).drew)$ OI 4 O (Pp z0H O) ((Kp.refl _ ws).drew)$ qT 5 O (λ_ hS=>(OO U3 O O (hS.OC zp (by omega)) O)) ((Kp.refl _ ws).drew)$ OZ 6 O O ((Kp.refl _ ws).drew)$ qT 7 O (λ_ h=>z3z (l:=mixN mk k0 x.2 D.N) Q5 U5 U9 O (h.OC iS (by omega)) (z4m _ _ _ (by omega)) (by omega)) ((Kp.refl _ ws).drew)$ qO 8$ PC (i:=8) O O (zmu (k:=x.1) (K:=KI) z97 (Sd U3) O O O (Ext.map (Ext.OT ws) nO)) ?_;rintro w7 ⟨gG,aC⟩;refine⟨(Kp.refl _ ws).drew.trans aC,?_⟩;have eN:=(Kp.refl (λi=>i=m) ws).drew.trans aC;have rO:=zr.put mZ gG eN (zr.ok.put ⟨iR.1,iR.2.1⟩ (Wu mk k0 x.2 D.N zn iR.2.2 D.N (Nat.le_refl _)))
      have ef:Zu (D.fallTo l tn mk i) x.1 (mixN mk k0 x.2 D.N)=D.fallTo l tn mk (i+1):=by
       rw[Zw hx,if_pos Bt,<-ie];rfl
      simp only[ef] at rO;refine qE$ OA$ OA$ OL O$ PV O$ OK O$ OD ?_;exact(ih (i+1) w7 ⟨by omega,rO,ue.kpm nO eN,eN.OC zo (by omega),cu.trans (Bu.kp.trans eN)⟩ (by omega)).qb
   ·have ET:=hd.OC;refine qN O$ OX ze8 O$ qV ((OO RB O O gF O))$ OK O$ P4 zh4 O (z3e (.slice ac l.length capc) l (i:Int) w3 hl qi) ?_;rintro _ w4 ⟨rfl,rfl⟩;refine OU O$ OQ O (λaU=>?_)$ λaU=>?_
    ·obtain⟨kv,nO,mZ⟩:=hd.map;refine R5 (λw'=>Kp (λk=>k=m) w4 w') O$ OZ 0 O O ((Kp.refl _ w4).drew)$ OI 1 O (Q4 O) ((Kp.refl _ w4).drew)$ OI 2 O (Pp z3t O) ((Kp.refl _ w4).drew)$ qT 3 O (λ_ h=>(OO z97 O O (h.OC ET hd.pm) O)) ((Kp.refl _ w4).drew)$ OI 4 O (Pp z0H O) ((Kp.refl _ w4).drew)$ qT 5 O (λ_ hS=>(OO U3 O O (hS.OC eE (by omega)) O)) ((Kp.refl _ w4).drew)$ OI 6 O (Pp z3Q O) ((Kp.refl _ w4).drew)$ qT 7 O (λ_ hS=>(OO U9 O O (hS.OC eE (by omega)) O)) ((Kp.refl _ w4).drew)$ qO 8$ PC (i:=8) O O (zmu (k:=x.1) (K:=KI) z97 (Sd U3) O O O (Ext.map (Ext.OT w4) nO)) ?_;rintro w7 ⟨gG,aC⟩;refine⟨(Kp.refl _ w4).drew.trans aC,?_⟩;have eN:=(Kp.refl (λi=>i=m) w4).drew.trans aC;have rO:=hd.put mZ gG eN (hd.ok.put ⟨iR.1,iR.2.1⟩ iR.2.2)
     have ef:Zu (D.fallTo l tn mk i) x.1 x.2=D.fallTo l tn mk (i+1):=by
      rw[Zw hx,if_neg Bt,if_pos aU]
     simp only[ef] at rO;refine qE$ OA$ OA$ OL O$ PV O$ OK O$ OD ?_;exact(ih (i+1) w7 ⟨by omega,rO,qi.kpm nO eN,eN.OC gF (by omega),cu.trans eN⟩ (by omega)).qb
    ·have ef:D.fallTo l tn mk i=D.fallTo l tn mk (i+1):=by
      rw[Zw hx,if_neg Bt,if_neg aU]
     rw[ef] at hd;refine OE$ OA$ OA$ OL O$ PV O$ OK O$ OD ?_;exact(ih (i+1) w4 ⟨by omega,hd,qi,gF,cu⟩ (by omega)).qb
  ·have aU:i=D.cache.length:=by omega
   subst aU;have ET:=hd.OC;refine ON O$ Pf O$ Pu O$ OX YE O$ OW O (QQ z7G O O O ET (by simp)) ?_;rintro w5 ⟨aH,ak⟩;refine qM O$ OK O$ qV (Sk (cs:=[_,_,_,_]) z7W O zh2 O O)$ Pu O$ OX WX O$ OW O (PO z7W O O O O aH (by simp)) ?_;rintro w6 ⟨aQ,aP⟩;replace aQ:OR w6 p [I 0,.slice none 0 0,I 0,S8 0,I (D.B:Int),I (D.N:Int),.map (some m),.slice none 0 0,.bool D.down,I D.calls,I D.reads] 135:=aQ;refine OD$ Rh O$ Pu O$ OX z3S O$ OW O (QQ W3 O O O aQ (by simp)) ?_;rintro w7 ⟨bP,aC⟩;refine OD$ Qv func227 O ?_;have zt:=(ak.trans aP).trans aC;obtain⟨kv,nO,mZ⟩:=hd.map;refine⟨_,rfl,rfl,⟨bP,⟨kv,zt.map nO λe=>hd.pm e.symm,mZ⟩,Sl.nil w7 _ _,Sl.nil w7 _ _,?_⟩,?_⟩
   ·exact⟨hd.ok.hB,hd.ok.hN,by simp[Dev.zcE],hd.ok.sf,λx hx=>by simp[Dev.zcE] at hx,by have:=az;simp[Dev.zcE];omega,hd.ok.reads⟩
   ·exact((Ext.kp ad).trans (sF.OV λ_ h=> .inr h)).trans (zt.OV λ_ h=> .inl h)
def Dev.push (D:Dev)(n:Int)(s:OG):Dev:={D with cache:=D.cache++[(n,s)]}
def zaU {P:Program}{e:Env}{d:Option Nat}{ty t t':TypeId}{pos:String}{aft:Array Edge}{g:Option (Nat×Bool)}{x y:Operand}{w:World}{a b:Int}(hx:look e x=some (I a))(hy:look e y=some (I b)):Y P e ⟨d,.binOp .add t x y t',ty,pos,aft,g⟩ (I (IntKind.i64.wrap (a+b))) w w:=fun ρ hρ=>by simp[execOp,go_sem,hρ _ _ hx,hρ _ _ hy]
def Dev.zfk (D:Dev):Dev:=D.zcE D.SB D.zdy D.mask
def Dev.write (D:Dev)(n:Int)(s:OG):Dev×Int:=
 if D.down then(D,8)
 else if D.has n=false\/s.length≠512*D.N then(D,1)
 else if D.due=1 then(((D.push n s).count).zfk,8) else((D.push n s).count,0)
def Dev.read (D:Dev)(n:Int):Dev×OG×Int:=
 if D.down then(D,[],8) else if D.has n=false then(D,[],1) else({D with reads:=IntKind.i64.wrap (D.reads+1)},D.now n,0)
def z1m (w:World)(p m:Nat)(kp ca:Value)(D':Dev)(w':World):Prop:=∃kp' ca',S1 w' p m kp' ca' D'/\Upd (fpD p m kp ca) (fpD p m kp' ca') w w'
def z1m.same {w w':World}{p m:Nat}{kp ca:Value}{D:Dev}(h:S1 w' p m kp ca D)(k:Ext w w'):z1m w p m kp ca D w':=⟨kp,ca,h,k.Zu⟩
def zbe {w w':World}{p m:Nat}{kp ca:Value}(k:Kp (λi=>i=p\/i=m) w w'):Upd (fpD p m kp ca) (fpD p m (.slice none 0 0) (.slice none 0 0)) w w':=
 ⟨k.OV λi hi=>hi.elim .inl λh=> .inr (.inl h),λi hi=>by
  rcases hi with h|h|h| h
  ·exact .inl (.inl h)
  ·exact .inl (.inr (.inl h))
  ·cases h
  ·cases h⟩
section
variable {w:World}{p m:Nat}{kp ca:Value}{D:Dev}
def zbx (n:Int)(h:S1 w p m kp ca D)(hc:D.Bd):
  Pm prog 168 [ptr p 0,I n] w λv w'=>v= .tuple #[S (D.read n).2.1,I (D.read n).2.2]/\z1m w p m kp ca (D.read n).1 w':=by
 refine py (e:=[(0,_),(1,_)]) func168 O ntmps168 O O$ qN O$ PU O$ PG O$ P4 zeo O (z2H h) ?_
 rintro _ w1 ⟨rfl,rfl⟩
 cases hd:D.down with
 | true =>
   refine Qt O$ Qf O$ OD$ OQ O (λhz=>?_)$ λhz=>?_
   ·refine Pf O$ PU O$ OB func168 O ?_;have e:D.read n=(D,[],8):=by simp[Dev.read,hd]
    rw[e];exact⟨_,rfl,rfl,z1m.same h (Ext.refl _)⟩
   ·exact absurd (by decide) hz
 | false =>
   refine Qt O$ Qf O$ OD$ OQ O (λhz=>?_)$ λhz=>?_
   ·exact absurd hz (by decide)
   ·refine OE$ It$ Qm O$ P4 zeH O (z8m n h) ?_;rintro _ w2 ⟨rfl,rfl⟩
    cases hh:D.has n with
    | false =>
      refine qV ((Sb O))$ OD$ OS O$ qN O$ PU O$ OB func168 O ?_;have e:D.read n=(D,[],1):=by simp[Dev.read,hd,hh]
      rw[e]
      exact⟨_,rfl,rfl,z1m.same h (Ext.refl _)⟩
    | true =>
      refine qV ((Sb O))$ OD$ OJ O ?_;have hM:=h.OC;refine OE$ Pf O$ Pu O$ OX z8h O$ qV (OO U3 O O hM O)$ qV (zaU O O)$ Pu O$ OX z8h O$ OW O (QQ Q7 O O O hM (by simp)) ?_;rintro w3 ⟨EU,av⟩;have h3:=h.turn (D':={D with reads:=IntKind.i64.wrap (D.reads+1)}) EU av O O O O ⟨h.ok.hB,h.ok.hN,h.ok.due,h.ok.sf,h.ok.cache,h.ok.len,trivial⟩;refine qM O$ P8 O$ P4 zj6 O (zdL n h3 hc.2.1) ?_;rintro _ w4 ⟨rfl,aD⟩;refine PU O$ OB func168 O ?_;have e:D.read n=({D with reads:=IntKind.i64.wrap (D.reads+1)},D.now n,0):=by simp[Dev.read,hd,hh]
      rw[e];exact⟨_,rfl,rfl,kp,ca,h3.ext aD,(av.OV λ_ h=> .inl h).trans aD.kp,λ_ h=> .inl h⟩
def z9U (n:Int)(s:OG)(h:S1 w p m kp ca D)(hc:D.Bd)(hk:D.SB.length<=17592186044416):
  Pm prog 204 [ptr p 0,I n,S s] w λv w'=>v=I (D.write n s).2/\z1m w p m kp ca (D.write n s).1 w':=by
 have eu:maxLen=9223372036854775807:=rfl
 obtain⟨dX,ev,pQ⟩:=hc
 have LK:=h.ok.len
 refine py (e:=[(0,_),(1,_),(2,_)]) func204 O ntmps204 O O$ QB O$ PG O$ P4 zeo O (z2H h) ?_
 rintro _ w1 ⟨rfl,rfl⟩
 cases hd:D.down with
 | true =>
   refine Qt O$ Qf O$ OD$ OQ O (λhz=>?_)$ λhz=>?_
   ·refine Pf O$ OU O$ OB func204 O ?_;have e:D.write n s=(D,8):=by simp[Dev.write,hd]
    rw[e];exact⟨_,rfl,rfl,z1m.same h (Ext.refl _)⟩
   ·exact absurd (by decide) hz
 | false =>
   refine Qt O$ Qf O$ OD$ OQ O (λhz=>?_)$ λhz=>?_
   ·exact absurd hz (by decide)
   ·refine OE$ It$ Qm O$ P4 zeH O (z8m n h) ?_;rintro _ w2 ⟨rfl,rfl⟩
    cases hh:D.has n with
    | false =>
      refine qV ((Sb O))$ OK O$ QG$ QG$ qS$ QJ O$ OD$ OS O$ QB O$ OB func204 O ?_;have e:D.write n s=(D,1):=by simp[Dev.write,hd,hh]
      rw[e]
      exact⟨_,rfl,rfl,z1m.same h (Ext.refl _)⟩
    | true =>
      have hn:0<=n/\n<(D.B:Int):=by simpa[Dev.has] using hh
      refine qV ((Sb O))$ P8 O$ qV (SV U9 O)$ OK O$ P4 zcv O (z1r h) ?_;rintro _ w3 ⟨rfl,rfl⟩;refine Qf O$ PK O$ OD$ OQ O (λcG=>?_)$ λcG=>?_
      ·refine QB O$ OB func204 O ?_
       have e:D.write n s=(D,1):=by
        have:s.length≠512*D.N:=by omega
        simp[Dev.write,hd,hh,this]
       rw[e];exact⟨_,rfl,rfl,z1m.same h (Ext.refl _)⟩
      ·have fG:s.length=512*D.N:=by omega
       obtain⟨a,cap,rfl,ha⟩:=h.cache.rd.shape;have hM:=h.OC;refine OE$ Qm O$ Pu O$ OX YE O$ qV (OO z0Y O O hM O)$ P8 O$ qV (Sk (cs:=[_,_]) WB O zhG O O)$ OM O O (Wj (cs:=[_,_]) (zs:=[Value.int .i64 0,Value.string ⟨#[]⟩]) z0Y WB O (by kernel_rfl) O O O (by decide)) ?_;rintro _ w4 ⟨b4,rfl,⟨fC,aD,aK⟩,dO⟩;have nS:=h.cache.ext aD;refine OM O O (pap z0Y WB O (by decide) O O nS dO.rd (by intro c hc;simp at hc;rcases hc with rfl|rfl<;>rfl) (by omega) (by omega)) ?_;rintro v' w5 ⟨ew,ak,rP,-⟩;have Ev:oneV v'=true:=by rcases ew.shape with⟨rfl,-⟩|⟨g,cap,rfl,-⟩<;>rfl
       have h4:=h.ext aD
       have jA:∀g,(Value.slice a D.cache.length cap).ownBlock=some g->¬g=p:=λg hg qg=>by
        obtain⟨xs,fz',hx⟩:=Tv h4.cache hg;obtain⟨fz,hb,-⟩:=h4.OC;rw[qg,hb] at hx;cases hx
       have vR:=ak.OC h4.OC (λhg=>jA p hg O);refine Pu O$ OX YE O$ OW O (QQ z7G O O Ev vR (by simp)) ?_;rintro w6 ⟨aQ,aP⟩;have fL:=h.OC.lt
       have h6:S1 w6 p m kp v' (D.push n s):=by
        refine⟨aQ,?_,?_,?_,?_⟩
        ·obtain⟨kv,nO,mZ⟩:=h4.map;exact⟨kv,aP.map (ak.map nO λhg=>(h4.zjP hg).2.1 O) λe=>h4.pm e.symm,mZ⟩
        ·have e:wrs (D.push n s).cache=wrs D.cache++[I n,S s]:=by simp[Dev.push,wrs,wr]
         have e2:(D.push n s).cache.length=D.cache.length+1:=by simp[Dev.push]
         rw[e,e2];refine ew.kp aP λg hg=>?_;rcases rP g hg with h'|h'
         ·exact(h4.zjP h').1
         ·have:=aD.size;omega
        ·refine(h4.SB.kp ak λg hg hc=>(h4.zgX hg).2.2 hc).kp aP λg hg=>(h4.zgX hg).1
        ·refine⟨h.ok.hB,h.ok.hN,h.ok.due,h.ok.sf,λx hx=>?_,h.ok.len,h.ok.reads⟩;simp only[Dev.push,List.mem_append,List.mem_singleton] at hx;rcases hx with hx|rfl
         ·exact h.ok.cache x hx
         ·exact⟨hn.1,hn.2,fG⟩
       refine OD$ Pn.qb (e:=[(0,_),(6,_)]) ?_;refine PG O$ P4 ziP O (z5c h6 dX) ?_;rintro _ w7 ⟨rfl,h7,aC⟩
       have hu:Upd (fpD p m kp (.slice a D.cache.length cap)) (fpD p m kp v') w3 w7:=by
        refine⟨(aD.kp.trans (ak.OV λi hi=> .inr (.inr (.inl hi)))).trans ((aP.OV λi hi=> .inl hi).trans (aC.OV λi hi=> .inl hi)),λi hi=>?_⟩;rcases hi with h'|h'|h'|h'
        ·exact .inl (.inl h')
        ·exact .inl (.inr (.inl h'))
        ·rcases rP i h' with Ix|Ix
         ·exact .inl (.inr (.inr (.inl Ix)))
         ·have:=aD.size;exact .inr (by omega)
        ·exact .inl (.inr (.inr (.inr h')))
       refine OD$ OQ O (λqh=>?_)$ λqh=>?_
       ·have LL:=h7.OC;refine Qm O$ Pu O$ OX WX O$ OX zdZ O$ qV (Pt zl9 O zaJ O (OR.cells (n:=3) LL (news:=[_,_,_]) O) O)$ P4 zjs O (zcn h7 D.SB D.zdy D.mask hk (h7.SB.rd) (by show(D.cache++[(n,s)]).length<2000000000000;simp;omega)) ?_;rintro _ w8 ⟨rfl,h8,aR⟩;refine qM O$ OU O$ OB func204 O ?_
        have e:D.write n s=(((D.push n s).count).zfk,8):=by
         have nT:D.due=1:=qh;simp[Dev.write,hd,hh,fG,nT]
        rw[e];exact⟨_,rfl,rfl,_,_,h8,hu.trans (zbe aR)⟩
       ·refine OE$ QB O$ OB func204 O ?_
        have e:D.write n s=((D.push n s).count,0):=by
         have nT:¬D.due=1:=qh;simp[Dev.write,hd,hh,fG,nT]
        rw[e];exact⟨_,rfl,rfl,_,_,h7,hu⟩
end
section
variable {w:World}{D:Dev}
def Dev.z8c (D:Dev)(n:Nat):List OG:=(List.range n).map λj:Nat=>D.now (j:Int)
@[simp] theorem imageTo_length (D:Dev) (n:Nat):(D.z8c n).length=n:=by simp[Dev.z8c]
def zbq {w:World}{v:Value}{e size n:Nat}{cs:List Value}(h:Sl w v e size n cs):oneV v=true:=by
 rcases h.shape with⟨rfl,-⟩|⟨g,cap,rfl,-⟩<;>rfl
end
def z0b (b n:Int):Prop:=16<=b/\b<=4096/\1<=n/\n<=8
instance (b n:Int):Decidable (z0b b n):=by unfold z0b;infer_instance
def Dev.fresh (B N:Nat):Dev:=⟨0,[],0,0,B,N,λ_=>none,[],false,0,0⟩
def z8Y (b n:Int)(w:World):Pm prog 62 [.agg #[I b,I n]] w λv w'=>v=I (if z0b b n then 0 else 1)/\Ext w w':=by
 refine py (e:=[(0,_)]) func62 O ntmps62 O O$ qN O$ OM O O (Rm O O) ?_
 rintro _ w1 ⟨b1,rfl,bU,ad,aj⟩
 by_cases hg:z0b b n
 ·obtain⟨g1,g2,g3,g4⟩:=hg;refine OU O$ It$ qN O$ OX Zl O$ qV (OO U3 O O aj O)$ Qq O$ PF$ OK O$ OX Zl O$ qV (OO U3 O O aj O)$ Qu O$ PF$ PK O$ OK O ?_;refine OX ZM O$ qV (OO U3 O O aj O)$ Qq O$ PF$ PK O$ OK O$ OX ZM O$ qV (OO U3 O O aj O)$ Qu O$ PF$ PK O$ PW O$ QB O$ OB func62 O ?_;exact⟨_,rfl,by rw[if_pos ⟨g1,g2,g3,g4⟩];rfl,ad⟩
 ·refine OU O$ It$ qN O$ OX Zl O$ qV (OO U3 O O aj O)$ Qq O$ SC (λh1=>?_)$ λh1=>?_
  ·refine OK O$ QG$ qS$ QJ O$ OK O$ QG$ qS$ QJ O$ OK O$ QG$ qS$ QJ O$ OD$ OS O ?_;refine QB O$ OB func62 O ?_;exact⟨_,rfl,by rw[if_neg hg];rfl,ad⟩
  ·refine OK O$ OX Zl O$ qV (OO U3 O O aj O)$ Qu O$ PK O$ SC (λh2=>?_)$ λh2=>?_
   ·refine OK O$ QG$ qS$ QJ O$ OK O$ QG$ qS$ QJ O$ OD$ OS O$ QB O$ OB func62 O ?_;exact⟨_,rfl,by rw[if_neg hg];rfl,ad⟩
   ·refine OK O$ OX ZM O$ qV (OO U3 O O aj O)$ Qq O$ PK O$ SC (λh3=>?_)$ λh3=>?_
    ·refine OK O$ QG$ qS$ QJ O$ OD$ OS O$ QB O$ OB func62 O ?_;exact⟨_,rfl,by rw[if_neg hg];rfl,ad⟩
    ·have:8<n:=by unfold z0b at hg;omega
     refine OK O$ OX ZM O$ qV (OO U3 O O aj O)$ Qu O$ Rp$ PK O$ OD$ OS O$ QB O$ OB func62 O ?_;exact⟨_,rfl,by rw[if_neg hg];rfl,ad⟩
def zfD (B N:Nat)(w:World)(hg:z0b B N):Pm prog 32 [.agg #[I (B:Int),I (N:Int)]] w λv w'=>∃p m,v= .tuple #[ptr p 0,I 0]/\S1 w' p m (.slice none 0 0) (.slice none 0 0) (Dev.fresh B N)/\Ext w w'/\w.heap.size<=p/\w.heap.size<=m:=by
 obtain⟨g1,g2,g3,g4⟩:=hg
 refine py (e:=[(0,_)]) func32 O ntmps32 O O$ qN O$ OM O O (Rm O O) ?_
 rintro _ w1 ⟨b1,rfl,bU,ad,aj⟩
 refine PU O$ It$ qN O$ qV (Pt U86 O zaH O (OR.cells (n:=2) aj (news:=[_,_]) O) O)$ P4 zlf O (z8Y B N _) ?_
 rintro _ w2 ⟨rfl,ae⟩
 rw[if_pos ⟨g1,g2,g3,g4⟩]
 replace aj:=ae.OC aj
 refine Qt O$ Qf O$ OD$ OQ O (λhz=>?_)$ λhz=>?_
 ·exact absurd hz (by decide)
 ·refine OE$ qN O$ qV (Pt U86 O zaH O (OR.cells (n:=2) aj (news:=[_,_]) O) O)$ OM O O (pmm) ?_;rintro _ w3 ⟨m,rfl,hm,ai,EU⟩;refine qV (Sk (cs:=[_,_,_,_,_,_,_,_,_,_,_]) zhP O zhA O O)$ OM O O (Rm O O) ?_;rintro _ w4 ⟨p,rfl,hp,aD,aK⟩;refine PU O$ OB func32 O ?_;have dA:=ad.size;have df:=ae.size;have oN:=ai.size;have LM:Xz KI w4 m []:=⟨⟨#[],0,aD.heap EU id,rfl⟩,by simp⟩;refine⟨_,rfl,p,m,rfl,⟨aK,⟨[],LM,λn=>rfl⟩,Sl.nil w4 _ _,Sl.nil w4 _ _,?_⟩,((ad.trans ae).trans ai).trans aD,by omega,by omega⟩;exact⟨⟨by show 16<=B;omega,by show B<=4096;omega⟩,⟨by show 1<=N;omega,by show N<=8;omega⟩,(by simp[Dev.fresh]),(λn s h=>by cases h),(λx hx=>by cases hx),(by simp[Dev.fresh]),(by simp[Dev.fresh])⟩
def over (s:OG)(at':Nat)(d:OG):OG:=s.take at'++d++s.drop (at'+d.length)
def Dev.zeR (D:Dev)(n at':Int)(d:OG):Prop:=D.has n=true/\0<=at'/\at'+(d.length:Int)<=((512*D.N:Nat):Int)
instance (D:Dev) (n at':Int) (d:OG):Decidable (D.zeR n at' d):=by unfold Dev.zeR;infer_instance
def zkD (n:Int)(a:Nat)(d:OG)(x:Int×OG):Int×OG:=if x.1=n then(x.1,over x.2 a d) else x
def zeD (n:Int)(a:Nat)(d:OG)(l:List (Int×OG))(i:Nat):List (Int×OG):=(l.take i).map (zkD n a d)++l.drop i
@[simp] theorem corTo_length (n:Int) (a:Nat) (d:OG) (l:List (Int×OG)) (i:Nat):(zeD n a d l i).length=l.length:=by simp[zeD];omega
theorem z61 (l:List (Int×OG))(x:Int×OG)(n:Int):Wv (l++[x]) n=if x.1=n then some x.2 else Wv l n:=by
 unfold Wv
 rw[List.reverse_append,List.reverse_singleton,List.singleton_append,List.find?_cons]
 by_cases h:x.1=n
 ·simp[h]
 ·have hb:(x.1==n)=false:=by simpa using h
  simp[hb,h]
/-! ### Bounds -/
def Dev.Small (D:Dev)(k:Nat):Prop:=D.calls<=k/\D.cache.length<=k/\True/\D.SB.length<=17592186044416
def Dev.Small.bd {D:Dev}{k:Nat}(h:D.Small k)(hk:k<1000000000000):D.Bd:=⟨by have:=h.1;omega,by have:=h.2.1;omega,trivial⟩
/-! ### By footprints -/
def z9R (w:World)(p:Nat)(F:Nat->Prop)(D':Dev)(w':World):Prop:=∃F',Wi w' p D' F'/\Upd F F' w w'
def z1m.toA {w w':World}{p m:Nat}{kp ca:Value}{D':Dev}{F:Nat->Prop}(hF:∀k,F k↔fpD p m kp ca k)(h:z1m w p m kp ca D' w'):z9R w p F D' w':=by
 have e:F=fpD p m kp ca:=funext λk=>propext (hF k)
 subst e
 obtain⟨kp',ca',h1,h2⟩:=h
 exact⟨_,⟨m,kp',ca',h1,λk=>Iff.rfl⟩,h2⟩
section
variable {w:World}{p:Nat}{D:Dev}{F:Nat->Prop}
def z9Y (h:Wi w p D F):Pm prog 164 [ptr p 0] w λv w'=>v= .bool D.down/\w'=w:=by
 obtain⟨m,kp,ca,h1,hF⟩:=h;exact zb1 h1
def zal (h:Wi w p D F):Pm prog 100 [ptr p 0] w λv w'=>v=I ((512*D.N:Nat):Int)/\w'=w:=by
 obtain⟨m,kp,ca,h1,hF⟩:=h;exact z1r h1
def Ws (h:Wi w p D F):Pm prog 144 [ptr p 0] w λv w'=>v=I (D.B:Int)/\w'=w:=by
 obtain⟨m,kp,ca,h1,hF⟩:=h;exact z5U h1
def z6m (n:Int)(s:OG)(h:Wi w p D F){k:Nat}(hs:D.Small k)(hk:k<1000000000000):
  Pm prog 204 [ptr p 0,I n,S s] w λv w'=>v=I (D.write n s).2/\z9R w p F (D.write n s).1 w':=by
 obtain⟨m,kp,ca,h1,hF⟩:=h
 exact(z9U n s h1 (hs.bd hk) hs.2.2.2).mono λv w' ⟨e,h2⟩=>⟨e,h2.toA hF⟩
def zay (n:Int)(h:Wi w p D F){k:Nat}(hs:D.Small k)(hk:k<1000000000000):
  Pm prog 168 [ptr p 0,I n] w λv w'=>v= .tuple #[S (D.read n).2.1,I (D.read n).2.2]/\z9R w p F (D.read n).1 w':=by
 obtain⟨m,kp,ca,h1,hF⟩:=h
 exact(zbx n h1 (hs.bd hk)).mono λv w' ⟨e,h2⟩=>⟨e,h2.toA hF⟩
def zdp (B N:Nat)(w:World)(hg:z0b B N):Pm prog 32 [.agg #[I (B:Int),I (N:Int)]] w λv w'=>∃p F,v= .tuple #[ptr p 0,I 0]/\Wi w' p (Dev.fresh B N) F/\Ext w w'/\∀i,F i->w.heap.size<=i:=
 (zfD B N w hg).mono λv w' ⟨p,m,e,h,hx,h1,h2⟩=>⟨p,_,e,⟨m,_,_,h,λk=>Iff.rfl⟩,hx,λi hi=>by
  rcases hi with h|h|h| h
  ·omega
  ·omega
  ·cases h
  ·cases h⟩
end
def z9R.kpF {w w':World}{p:Nat}{F:Nat->Prop}{D':Dev}(h:z9R w p F D' w'):Kp F w w':=by
 obtain⟨F',-,hu⟩:=h
 exact hu.1
def nrm (z b:Int):Int:=(z.tmod b+b).tmod b
def TE (z b:Int)(hb:0<b): -b<z.tmod b/\z.tmod b<b:=by
 have h2:=Int.tmod_lt_of_pos z hb
 refine⟨?_,h2⟩
 have h3:=Int.tmod_lt_of_pos (-z) hb
 rw[Int.neg_tmod] at h3
 omega
def VE (z b:Int)(hb:0<b):0<=nrm z b/\nrm z b<b:=by
 obtain⟨h1,h2⟩:=TE z b hb
 unfold nrm
 exact⟨Int.tmod_nonneg _ (by omega),Int.tmod_lt_of_pos _ hb⟩
theorem zbC {D:Dev}{n:Int}{s:OG}(hd:D.down=false)(h0:D.due=0)(hn:0<=n/\n<(D.B:Int))(hs:s.length=512*D.N):D.write n s=((D.push n s).count,0):=by
 have hh:D.has n=true:=by simp[Dev.has];omega
 unfold Dev.write
 rw[if_neg (by simp[hd]),if_neg (by simp[hh,hs]),if_neg (by omega)]
def grow:Nat->OG->Nat->OG
 |0,s,_=>s
 |f+1,s,n=>if s.length<n then grow f (s++s) n else s
def fill (s:OG)(n:Nat):OG:=(grow (n+1) (if s=[] then [0] else s) n).take n
section
variable {κ:Type}[DecidableEq κ]{K:κ->Value}{P:Program}{e:Env}{d:Option Nat}{ty t kt el:TypeId}{pos:String}{aft:Array Edge}{g:Option (Nat×Bool)}{x y:Operand}{w:World}{z:Value}{size bytes:Nat}{k:κ}
def zll (ht:P.underlying t=some (.map kt el))(hK:Ky P kt K)(hz:TI P el z size bytes)(hx:look e x=some (.map none))(hy:look e y=some (K k)):
  Y P e ⟨d,.lookup t x y false,ty,pos,aft,g⟩ z w w:=fun ρ hρ=>by
 have Bi:=hz.zero (w:=w)
 have sq:=λb=>hK.same.choose_spec.2.2 w b 9999 k
 have hu:=hK.same.choose_spec.1
 simp[execOp,hρ _ _ hx,hρ _ _ hy,Instr.lookup,run_underlying ht,sq,Bi,Instr.findKey,run_underlying hu,Instr.findNow]
end
structure QM (w:World)(ks mp:Value)(l:List Int):Prop where
 sl:Sl w ks 3 1 l.length (l.map I)
 mp:(mp= .map none/\l=[])\/∃b,mp= .map (some b)/\SL KI w b (l.map λk=>(k,I 1))
 n:l.length<=8192
def Fq (ks mp:Value)(b:Nat):Prop:=ks.ownBlock=some b\/mp= .map (some b)
section
variable {w w':World}{ks mp:Value}{l:List Int}{S:Nat->Prop}{c o:Nat}{cs:List Value}{k:Int}
def QM.kp (h:QM w ks mp l)(hk:Kp S w w')(hn:∀b,Fq ks mp b->¬S b):QM w' ks mp l:=
 ⟨h.sl.kp hk λg e=>hn g (.inl e),by
  rcases h.mp with e|⟨b,e,hm⟩
  ·exact .inl e
  ·exact .inr ⟨b,e,hm.kp hk (hn b (.inr e))⟩,h.n⟩
def QM.lt (h:QM w ks mp l){b:Nat}(hb:Fq ks mp b):b<w.heap.size:=by
 rcases hb with e| e
 ·exact h.sl.lt e
 ·rcases h.mp with⟨e',-⟩|⟨b',e',hm⟩
  ·rw[e'] at e;cases e
  ·rw[e'] at e;cases e;exact hm.lt
def QM.ne (h:QM w ks mp l){b:Nat}(hb:ks.ownBlock=some b):mp≠ .map (some b):=λe=>by
 obtain⟨cur,h1⟩:=h.sl.typed hb
 rcases h.mp with⟨e',-⟩|⟨b',e',hm⟩
 ·rw[e'] at e;cases e
 ·rw[e'] at e;cases e;obtain⟨⟨es,cl,h2,-⟩,-⟩:=hm;rw[h1] at h2;cases h2
theorem QM.nd (h:QM w ks mp l):l.Nodup:=by
 rcases h.mp with⟨-,e⟩|⟨b',e',hm⟩
 ·rw[e];exact List.nodup_nil
 ·have:=hm.nd;rw[List.map_map] at this;have e:((λp:Int×Value=>p.1) ∘ λk:Int=>(k,I 1))=id:=rfl;rw[e,List.map_id] at this;exact this
theorem z4l (l:List Int)(k:Int):Rg (l.map λk=>(k,I 1)) k=if k∈l then some (I 1) else none:=by
 induction l with
 |nil=>rfl
 | cons a l ih =>
   show(if k=a then some (I 1) else Rg (l.map λk=>(k,I 1)) k)=_;rw[ih];by_cases h:k=a
   ·simp[h]
   ·simp[h]
theorem zbR (l:List Int)(k:Int):delL (l.map λk=>(k,I 1)) k=(l.erase k).map λk=>(k,I 1):=by
 induction l with
 |nil=>rfl
 | cons a l ih =>
   show(if k=a then l.map (λk=>(k,I 1)) else(a,I 1)::delL (l.map λk=>(k,I 1)) k)=_;rw[ih,List.erase_cons];by_cases h:k=a
   ·subst h;simp
   ·rw[if_neg h,if_neg (by simpa using λe=>h e.symm)];rfl
def yqk {P:Program}{e:Env}{d:Option Nat}{ty t kt el:TypeId}{pos:String}{aft:Array Edge}{g:Option (Nat×Bool)}{x y:Operand}{bytes:Nat}(ht:P.underlying t=some (.map kt el))(hK:P.underlying kt=some (.int .i64))(hz:TI P el (I 0) 1 bytes)(hx:look e x=some mp)(hy:look e y=some (I k))(hq:QM w ks mp l):
  Y P e ⟨d,.lookup t x y false,ty,pos,aft,g⟩ (I (if k∈l then 1 else 0)) w w:=by
 rcases hq.mp with⟨rfl,rfl⟩|⟨b,rfl,hm⟩
 ·rw[if_neg (by simp)];exact zll (k:=k) (K:=KI) ht (Sd hK) hz hx hy
 ·have h:=ylk (k:=k) (K:=KI) (d:=d) (ty:=ty) (pos:=pos) (aft:=aft) (g:=g) ht (Sd hK) hz hx hy hm.l;rw[z4l] at h;by_cases hk:k∈l
  ·rw[if_pos hk] at h⊢;exact h
  ·rw[if_neg hk] at h⊢;exact h
def zbE (hB:OR w c cs 192)(h1:cs[o+1]? =some mp)(hq:QM w ks mp l):Pm prog 190 [ptr c o,I k] w λv w'=>v= .bool (decide (k∈l))/\w'=w:=by
 refine py (e:=[(0,_),(1,_)]) func190 O ntmps190 O O$ qN O$ Qt O$ Pu O$ OX Yz O$ qV (OO Xy O O hB h1)$ OK O$ qV (yqk (k:=k) Xy U3 Q7 O O hq)$ Qu O$ OU O$ OB func190 O (⟨_,rfl,?_,rfl⟩)
 by_cases hk:k∈l
 ·simp[hk,Qc]
 ·simp[hk,Qc]
theorem z6o {lv:Value}(x:Int)(hR:Rd w lv 1 l.length (l.map I))(hl:l.length<=4294967296):
  Pm prog 218 [lv,I x] w λv w'=>w'=w/\((x∉l/\v=I (-1))\/∃i:Nat,v=I (i:Int)/\l[i]? =some x/\x∉l.take i):=by
 obtain⟨a,cap,rfl,-⟩:=hR.shape
 refine py (e:=[(0,_),(1,_)]) func218 O ntmps218 O O$ QB O$ PG O$ Rv RB O$ OK O$ OD$ OH$ Rq (α:=Nat) (0) (λi=>[(0,.slice a l.length cap),(1,I x),(7,I (l.length:Int)),(8,I (i:Int))]) (λi w'=>w'=w/\i<=l.length/\x∉l.take i) (λi=>l.length-i) ?hI ?hround
 case hI=>exact⟨rfl,Nat.zero_le _,by simp⟩
 case hround=>
  rintro i wi ⟨rfl,hi,fH⟩ ih
  try dsimp only
  refine qN O$ Qq O$ OD$ It$ OQ O (λaZ=>?_)$ λaZ=>?_
  ·have qj:i<l.length:=by omega
   obtain⟨s,nU⟩:∃s,l[i]? =some s:=⟨_,List.getElem?_eq_getElem qj⟩
   obtain⟨lb,lo,lc,e5⟩:∃b o c',Value.slice a l.length cap= .slice (some ⟨b,o,none⟩) l.length c':=by
    rcases hR.2 with⟨c,hc,h0⟩|⟨b,off,c',hc,-⟩
    ·omega
    ·exact⟨b,off,c',hc⟩
   cases e5;refine OE$ Qx$ Pf O$ Qw O$ P8 O$ OK O$ qV (PX RB Q7 O O (by omega))$ qV (Pr U3 O O (Qo hR (show(l.map I)[i]? =some (I s) by rw[List.getElem?_map,nU];rfl))) ?_;refine Ri O$ OD$ OQ O (λhe=>?_)$ λhe=>?_
   ·refine Pf O$ OU O$ OB func218 O ?_;exact⟨_,rfl,rfl,.inr ⟨i,rfl,by rw[he];exact nU,fH⟩⟩
   ·refine OE$ OA$ OL O$ PV O$ OK O$ OD ((ih (i+1) _ ⟨rfl,qj,λhh=>?_⟩ (by omega)).qb);rw[PQ nU,List.mem_append,List.mem_singleton] at hh;rcases hh with h| h
    ·exact fH h
    ·exact he h
  ·have:i=l.length:=by omega
   subst this;rw[List.take_length] at fH;refine ON O$ QB O$ OB func218 O ?_;exact⟨_,rfl,rfl,.inl ⟨fH,rfl⟩⟩
theorem zct {i:Nat}{x:Int}(h:l[i]? =some x)(hn:x∉l.take i):l.take i++l.drop (i+1)=l.erase x:=by
 obtain⟨hi,e⟩:=List.getElem?_eq_some_iff.1 h
 conv=>rhs;rw[<-List.take_append_drop i l]
 rw[List.erase_append_right _ hn,List.drop_eq_getElem_cons hi,e,List.erase_cons_head]
theorem z4w {α:Type}{l:List α}{i:Nat}{a:α}(h:l[i]? =some a):l.set i a=l:=by
 obtain⟨hi,e⟩:=List.getElem?_eq_some_iff.1 h
 rw[<-e,List.set_getElem_self]
def z8N (hB:OR w c cs 192)(h0:cs[o]? =some ks)(h1:cs[o+1]? =some mp)(hq:QM w ks mp l)(nc:¬Fq ks mp c):Pm prog 191 [ptr c o,I k] w λv w'=>∃ks',v= .tuple #[]/\OR w' c (cs.set o ks') 192/\QM w' ks' mp (l.erase k)/\(∀b,Fq ks' mp b->Fq ks mp b)/\Kp (λb=>b=c\/Fq ks mp b) w w':=by
 have hn:=hq.n
 have fV:=hq.nd
 refine py (e:=[(0,_),(1,_)]) func191 O ntmps191 O O$ Pf O$ Pu O$ OX Qg O$ qV (OO RB O O hB h0)$ OK O$ P4 zf6 O (z6o k hq.sl.rd (by omega)) ?_
 rintro _ w ⟨rfl,hv⟩
 rcases hv with⟨hk,rfl⟩|⟨i,rfl,hi,vO⟩
 ·refine Qt O$ Te O$ PF$ PW O$ Qv func191 O (⟨_,rfl,ks,rfl,?_,?_,λb hb=>hb,Kp.refl _ _⟩)
  ·rw[z4w h0];exact hB
  ·rw[List.erase_of_not_mem hk];exact hq
 ·have Bv:k∈l:=List.mem_of_getElem? hi;have bQ:=(List.getElem?_eq_some_iff.1 hi).1;refine Qt O$ Te O$ Rp$ OD$ OS O$ Qm O$ Pu O$ OX Qg O$ qV (OO RB O O hB h0)$ P8 O$ PV O$ P4 zib O (zc3 hq.sl (λc hc=>by obtain⟨z,-,rfl⟩:=List.mem_map.1 hc;rfl) bQ (by omega)) ?_;rintro ks2 w2 ⟨cH,aq,qk⟩
  have e2:(l.map I).take i++(l.map I).drop (i+1)=(l.erase k).map I:=by
   rw[<-List.map_take,<-List.map_drop,<-List.map_append,zct hi vO]
  rw[e2] at cH;have j7:(l.erase k).length=l.length-1:=List.length_erase_of_mem Bv;rw[<-j7] at cH;have jy:¬ks.ownBlock=some c:=λe=>nc (.inl e);have am:=aq.OC hB jy;refine Pu O$ OX Qg O$ OW O (QQ z64 O O (zbq cH) am (by have:=(List.getElem?_eq_some_iff.1 h0).1;omega)) ?_;rintro w3 ⟨au,av⟩
  obtain⟨b,rfl,hm⟩:∃b,mp= .map (some b)/\SL KI w b (l.map λk=>(k,I 1)):=by
   rcases hq.mp with⟨-,e⟩| h
   ·rw[e] at Bv;cases Bv
   ·exact h
  have Iy:c≠b:=λe=>nc (.inr (by rw[e]));have B7:ks.ownBlock≠some b:=λe=>hq.ne e O;have zu:o+1<cs.length:=(List.getElem?_eq_some_iff.1 h1).1;have lw:=(hm.kp aq B7).kp av (λe=>Iy e.symm);have u9:(cs.set (o+0) ks2)[o+1]? =some (Value.map (some b)):=by rw[List.getElem?_set_ne (by omega)];exact h1
  refine OD$ Rh O$ Pu O$ OX Yz O$ qV (OO Xy O O au u9)$ OK O$ zcG O (zgn (k:=k) (K:=KI) Xy (Sd U3) O O lw O) ?_;rintro _ w4 ⟨Bw,ao⟩;rw[zbR] at Bw;refine OD$ Pn.qb (e:=[]) ?_;refine Qv func191 O ?_;have fx:Kp (λj=>j=c\/Fq ks (.map (some b)) j) w w4:=((aq.OV λj e=> .inr (.inl e)).trans (av.OV λj e=> .inl e)).trans (ao.OV λj e=> .inr (.inr (by rw[e])));exact⟨_,rfl,ks2,rfl,ao.OC au Iy,⟨(cH.kp av λg e e'=>nc (.inl (e'▸qk g e))).kp ao λg e e'=>B7 (e'▸qk g e),.inr ⟨b,rfl,Bw⟩,by omega⟩,λj hj=>hj.imp (qk j) id,fx⟩
def zbX (hB:OR w c cs 192)(h0:cs[o]? =some ks)(h1:cs[o+1]? =some mp)(hq:QM w ks mp l)(nc:¬Fq ks mp c)(hk:k∉l)(hl:l.length<=8191):Pm prog 199 [ptr c o,I k] w λv w'=>∃ks' mp',v= .tuple #[]/\OR w' c ((cs.set (o+1) mp').set o ks') 192/\QM w' ks' mp' (l++[k])/\(∀b,Fq ks' mp' b->Fq ks mp b\/w.heap.size<=b)/\Kp (λb=>b=c\/Fq ks mp b) w w':=by
 have hn:=hq.n
 have fV:=hq.nd
 have lc:=hB.lt
 have zu:o+1<cs.length:=(List.getElem?_eq_some_iff.1 h1).1
 obtain⟨mo,rfl,vS⟩:∃mo,mp= .map mo/\((mo=none/\l=[])\/∃b,mo=some b/\SL KI w b (l.map λk=>(k,I 1))):=by
  rcases hq.mp with⟨e,e2⟩|⟨b,e,e2⟩
  ·exact⟨_,e,.inl ⟨rfl,e2⟩⟩
  ·exact⟨_,e,.inr ⟨b,rfl,e2⟩⟩
 refine py (e:=[(0,_),(1,_)]) func199 O ntmps199 O O$ PG O$ Pu O$ OX Yz O$ qV (OO Xy O O hB h1)$ qV (zh8 Xy O O)$ OD$ PI (λe' w'=>∃b,e'=[(0,ptr c o),(1,I k)]/\OR w' c (cs.set (o+1) (.map (some b))) 192/\SL KI w' b (l.map λk=>(k,I 1))/\Sl w' ks 3 1 l.length (l.map I)/\(mo=some b\/w.heap.size<=b)/\Kp (λj=>j=c) w w'/\b≠c/\ks.ownBlock≠some b) ?cE$ λcE=>?cV
 case cE=>
  rintro e' w1 ⟨b,rfl,aj,dN,jJ,hb,aL,Iz,gW⟩;have lM:(cs.set (o+1) (Value.map (some b)))[o+1]? =some (.map (some b)):=List.getElem?_set_self zu;have fd:(cs.set (o+1) (Value.map (some b)))[o]? =some ks:=by rw[List.getElem?_set_ne (by omega)];exact h0
  have z1:=aL.size;refine Pf O$ Pu O$ OX Yz O$ qV (OO Xy O O aj lM)$ OK O$ OW O (zgh (k:=k) (K:=KI) Xy (Sd U3) O O O dN) ?_;rintro w2 ⟨mK,aq⟩;rw[UG _ _ _ (by rw[z4l,if_neg hk])] at mK;have am:=aq.OC aj (λe=>Iz e.symm);have cH:=jJ.kp aq (λg e e'=>gW (e'▸e));refine OD$ OL O$ P8 O$ Pu O$ OX Qg O$ qV (OO RB O O am fd)$ OK O$ OM O O (Wj (cs:=[_]) (zs:=[Value.int .i64 0]) RB Q7 O (by kernel_rfl) O O O (by decide)) ?_;rintro _ w3 ⟨b24,rfl,⟨LN,ai,ir⟩,EV⟩;have lb:=mK.lt;have z2:=aq.size;refine OM O O (pap RB Q7 O (by decide) O O (cH.ext ai) EV.rd (by intro c hc;simp at hc;subst hc;rfl) (by omega) (by simp only[maxLen];omega)) ?_;rintro ks4 w4 ⟨dO,ao,IA,-⟩;have z3:=ai.size;have z4:=ao.size;have jy:ks.ownBlock≠some c:=λe=>nc (.inl e);have aK:=ao.OC (ai.OC am) jy;have Bw:=(mK.ext ai).kp ao gW;refine Pu O$ OX Qg O$ OW O (QQ z64 O O (zbq dO) aK (by rw[List.length_set];omega)) ?_;rintro w5 ⟨aH,ak⟩;refine OD$ Qv func199 O ?_
  have lk4:∀g,ks4.ownBlock=some g->g≠c:=λg e e'=>by
   rcases IA g e with h| h
   ·exact jy (e'▸h)
   ·omega
  have az:(l++[k]).length=l.length+1:=by simp
  refine⟨_,rfl,ks4,.map (some b),rfl,aH,⟨?_,.inr ⟨b,rfl,?_⟩,by omega⟩,λj hj=>?_,?_⟩
  ·rw[List.map_append,az];exact dO.kp ak λg e e'=>lk4 g e e'
  ·rw[List.map_append];exact Bw.kp ak Iz
  ·rcases hj with hj|hj
   ·rcases IA j hj with h| h
    ·exact .inl (.inl h)
    ·exact .inr (by omega)
   ·cases hj;rcases hb with h| h
    ·exact .inl (.inr (by rw[h]))
    ·exact .inr h
  ·have EW:Kp (λj=>j=c\/Fq ks (.map mo) j) w w2:=by
    rcases hb with h| h
    ·exact(aL.OV λj e=> .inl e).trans (aq.OV λj e=> .inr (.inr (by rw[h,e])))
    ·exact(aL.OV λj e=> .inl e).An aq (λj e=>by omega)
   exact((EW.trans ai.kp).trans (ao.OV λj e=> .inr (.inl e))).trans (ak.OV λj e=> .inl e)
 case cV=>
  rcases vS with⟨rfl,rfl⟩|⟨b,rfl,hm⟩
  ·refine OS O$ Rh O$ OM O O (pmm) ?_;rintro _ w1 ⟨b,rfl,hb,ad,cA⟩;have dN:SL KI w1 b []:=SL.new cA;have aj:=ad.OC hB;refine Pu O$ OX Yz O$ OW O (QQ z8K O O O aj zu) ?_;rintro w2 ⟨am,aq⟩;refine OD ?_;have lb:=dN.lt;exact(cE _ _ ⟨b,rfl,am,dN.kp aq (by omega),(hq.sl.ext ad).kp aq (λg e e'=>nc (.inl (e'▸e))),.inr (by omega),ad.kp.trans aq,by omega,λe=>by have:=hq.sl.lt e;omega⟩).qb
  ·refine Tu O ?_;exact(cE _ _ ⟨b,rfl,by rw[z4w h1];exact hB,hm,hq.sl,.inl O,Kp.refl _ _,λe=>nc (.inr (by rw[e])),λe=>hq.ne e O⟩).qb
end
def Arc.li (A:Arc):Nat->List Int
 |0=>A.once
 |1=>A.often
 |2=>A.P6
 |_=>A.OY
def Arc.Qj (A:Arc):Nat->List Int->Arc
 |0,l=>{A with once:=l}
 |1,l=>{A with often:=l}
 |2,l=>{A with P6:=l}
 |_,l=>{A with OY:=l}
theorem Arc.zfB (A:Arc){j:Nat}(hj:j<4)(l:List Int)(i:Nat)(hi:i<4):(A.Qj j l).li i=if i=j then l else A.li i:=by
 match j,hj,i,hi with
 |0,_,0,_|0,_,1,_|0,_,2,_|0,_,3,_|1,_,0,_|1,_,1,_|1,_,2,_|1,_,3,_|2,_,0,_|2,_,1,_|2,_,2,_|2,_,3,_|3,_,0,_|3,_,1,_|3,_,2,_|3,_,3,_=>rfl
def zau (V:Nat->Value×Value)(j:Nat)(q:Value×Value)(i:Nat):Value×Value:=if i=j then q else V i
def acC (S:Nat)(T:Int)(V:Nat->Value×Value)(p:Nat):List Value:=[I (S:Int),(V 0).1,(V 0).2,(V 1).1,(V 1).2,(V 2).1,(V 2).2,(V 3).1,(V 3).2,I T,.map (some p)]
abbrev FV (V:Nat->Value×Value)(j b:Nat):Prop:=Fq (V j).1 (V j).2 b
structure SR (w:World)(c:Nat)(A:Arc)(V:Nat->Value×Value)(p:Nat):Prop where
 OC:OR w c (acC A.size A.target V p) 192
 q:∀j,j<4->QM w (V j).1 (V j).2 (A.li j)
 pins:Xz KI w p []
 VF:∀i j,i<4->j<4->i≠j->∀b,FV V i b->¬FV V j b
 nc:∀j,j<4->¬FV V j c
 np:∀j,j<4->¬FV V j p
 cp:c≠p
def SJ (c:Nat)(V:Nat->Value×Value)(p b:Nat):Prop:=b=c\/b=p\/∃j,j<4/\FV V j b
section
variable {w w' w2:World}{c p:Nat}{A A' A2:Arc}{V V' V2:Nat->Value×Value}{S:Nat->Prop}{k:Int}
def SR.kp (h:SR w c A V p)(hk:Kp S w w')(hn:∀b,SJ c V p b->¬S b):SR w' c A V p:=
 ⟨hk.OC h.OC (hn _ (.inl O)),λj hj=>(h.q j hj).kp hk λb hb=>hn b (.inr (.inr ⟨j,hj,hb⟩)),hk.map h.pins (hn _ (.inr (.inl O))),h.VF,h.nc,h.np,h.cp⟩
theorem SR.ext (h:SR w c A V p)(hx:Ext w w'):SR w' c A V p:=h.kp (S:=λ_=>False) hx λ_ _=>id
def SR.lt (h:SR w c A V p){b:Nat}(hb:SJ c V p b):b<w.heap.size:=by
 rcases hb with e|e|⟨j,hj,hb⟩
 ·rw[e];exact h.OC.lt
 ·rw[e];exact h.pins.lt
 ·exact(h.q j hj).lt hb
structure Wl (w:World)(c:Nat)(V:Nat->Value×Value)(p:Nat)(w':World)(A':Arc)(V':Nat->Value×Value):Prop where
 m:SR w' c A' V' p
 fp:∀b,SJ c V' p b->SJ c V p b\/w.heap.size<=b
 k:Kp (SJ c V p) w w'
theorem Wl.trans (h:Wl w c V p w' A' V')(h2:Wl w' c V' p w2 A2 V2):Wl w c V p w2 A2 V2:=
 ⟨h2.m,λb hb=>by
  rcases h2.fp b hb with e| e
  ·exact h.fp b e
  ·exact .inr (by have:=h.k.size;omega),h.k.An h2.k λb hb=>(h.fp b hb).symm⟩
theorem SR.r (h:SR w c A V p)(hx:Ext w w'):Wl w c V p w' A V:=⟨h.ext hx,λb hb=> .inl hb,hx.kp⟩
theorem SR.Zu {j:Nat}(hj:j<4)(h:SR w c A V p){ks mp:Value}{l:List Int}(hB:OR w' c (acC A.size A.target (zau V j (ks,mp)) p) 192)(hs:(A.Qj j l).size=A.size/\(A.Qj j l).target=A.target)(hq:QM w' ks mp l)(hf:∀b,Fq ks mp b->FV V j b\/w.heap.size<=b)(hk:Kp (λb=>b=c\/FV V j b) w w'):Wl w c V p w' (A.Qj j l) (zau V j (ks,mp)):=by
 have aZ:∀{b:Nat},SJ c V p b->b<w.heap.size:=h.lt
 have aU:∀i,i<4->i≠j->∀b,FV V i b->¬(b=c\/FV V j b):=λi hi gU b hb e=>by
  rcases e with e| e
  ·exact h.nc i hi (e▸hb)
  ·exact h.VF i j hi hj gU b hb e
 have dA:∀i,i≠j->zau V j (ks,mp) i=V i:=λi e=>if_neg e
 have df:zau V j (ks,mp) j=(ks,mp):=if_pos O
 refine⟨⟨by rw[hs.1,hs.2];exact hB,λi hi=>?_,hk.map h.pins (λe=>?_),λi i2 hi dC bT b hb cn=>?_,λi hi hb=>?_,λi hi hb=>?_,h.cp⟩,λb hb=>?_,hk.OV λb hb=>?_⟩
 ·rw[Arc.zfB A hj l i hi];by_cases e:i=j
  ·rw[if_pos e,e,df];exact hq
  ·rw[if_neg e,dA i e];exact(h.q i hi).kp hk λb hb=>aU i hi e b hb
 ·rcases e with e| e
  ·exact h.cp e.symm
  ·exact h.np j hj e
 ·by_cases e:i=j
  ·have e2:i2≠j:=λe2=>bT (e.trans e2.symm);unfold FV at hb cn;rw[e,df] at hb;rw[dA i2 e2] at cn;rcases hf b hb with h1|h1
   ·exact h.VF j i2 hj dC (λe3=>e2 e3.symm) b h1 cn
   ·have:=aZ (.inr (.inr ⟨i2,dC,cn⟩));omega
  ·unfold FV at hb cn;rw[dA i e] at hb;by_cases e2:i2=j
   ·rw[e2,df] at cn;rcases hf b cn with h1|h1
    ·exact h.VF i j hi hj e b hb h1
    ·have:=aZ (.inr (.inr ⟨i,hi,hb⟩));omega
   ·rw[dA i2 e2] at cn;exact h.VF i i2 hi dC bT b hb cn
 ·by_cases e:i=j
  ·unfold FV at hb;rw[e,df] at hb;rcases hf c hb with h1|h1
   ·exact h.nc j hj h1
   ·have:=h.OC.lt;omega
  ·unfold FV at hb;rw[dA i e] at hb;exact h.nc i hi hb
 ·by_cases e:i=j
  ·unfold FV at hb;rw[e,df] at hb;rcases hf p hb with h1|h1
   ·exact h.np j hj h1
   ·have:=h.pins.lt;omega
  ·unfold FV at hb;rw[dA i e] at hb;exact h.np i hi hb
 ·rcases hb with e|e|⟨i,hi,hb⟩
  ·exact .inl (.inl e)
  ·exact .inl (.inr (.inl e))
  ·by_cases e:i=j
   ·unfold FV at hb;rw[e,df] at hb;rcases hf b hb with h1|h1
    ·exact .inl (.inr (.inr ⟨j,hj,h1⟩))
    ·exact .inr h1
   ·unfold FV at hb;rw[dA i e] at hb;exact .inl (.inr (.inr ⟨i,hi,hb⟩))
 ·rcases hb with e| e
  ·exact .inl e
  ·exact .inr (.inr ⟨j,hj,e⟩)
def Xm (S:Nat)(T:Int)(V:Nat->Value×Value)(p:Nat){j:Nat}(hj:j<4):(acC S T V p)[1+2*j]? =some (V j).1/\(acC S T V p)[1+2*j+1]? =some (V j).2:=by
 match j,hj with
 |0,_|1,_|2,_|3,_=>exact⟨rfl,rfl⟩
theorem zdK (S:Nat)(T:Int)(V:Nat->Value×Value)(p:Nat){j:Nat}(hj:j<4)(ks mp:Value):((acC S T V p).set (1+2*j+1) mp).set (1+2*j) ks=acC S T (zau V j (ks,mp)) p:=by
 match j,hj with
 |0,_|1,_|2,_|3,_=>rfl
theorem zaR (S:Nat)(T:Int)(V:Nat->Value×Value)(p:Nat){j:Nat}(hj:j<4)(ks:Value):(acC S T V p).set (1+2*j) ks=acC S T (zau V j (ks,(V j).2)) p:=by
 match j,hj with
 |0,_|1,_|2,_|3,_=>rfl
def z0v (A:Arc){j:Nat}(hj:j<4)(l:List Int):(A.Qj j l).size=A.size/\(A.Qj j l).target=A.target:=by
 match j,hj with
 |0,_|1,_|2,_|3,_=>exact⟨rfl,rfl⟩
def Vw (h:SR w c A V p){j:Nat}(hj:j<4):Pm prog 190 [ptr c (1+2*j),I k] w λv w'=>v= .bool (decide (k∈A.li j))/\w'=w:=
 zbE h.OC (Xm _ _ _ _ hj).2 (h.q j hj)
def Qk (h:SR w c A V p){j:Nat}(hj:j<4):Pm prog 191 [ptr c (1+2*j),I k] w λv w'=>v= .tuple #[]/\∃V',Wl w c V p w' (A.Qj j ((A.li j).erase k)) V':=by
 refine(z8N h.OC (Xm _ _ _ _ hj).1 (Xm _ _ _ _ hj).2 (h.q j hj) (h.nc j hj) (k:=k)).mono λv w' hv=>?_
 obtain⟨ks',rfl,hB,hq,hf,hk⟩:=hv
 rw[zaR _ _ _ _ hj] at hB
 exact⟨rfl,_,h.Zu hj hB (z0v A hj _) hq (λb hb=> .inl (hf b hb)) hk⟩
def QV (h:SR w c A V p){j:Nat}(hj:j<4)(hk:k∉A.li j)(hl:(A.li j).length<=8191):Pm prog 199 [ptr c (1+2*j),I k] w λv w'=>v= .tuple #[]/\∃V',Wl w c V p w' (A.Qj j (A.li j++[k])) V':=by
 refine(zbX h.OC (Xm _ _ _ _ hj).1 (Xm _ _ _ _ hj).2 (h.q j hj) (h.nc j hj) hk hl).mono λv w' hv=>?_
 obtain⟨ks',mp',rfl,hB,hq,hf,hk⟩:=hv
 rw[zdK _ _ _ _ hj] at hB
 exact⟨rfl,_,h.Zu hj hB (z0v A hj _) hq hf hk⟩
def z7o (n:Nat):Arc:=⟨n,[],[],[],[],0⟩
def zcX {n:Nat}(h:1<=n):(z7o n).Ok:=⟨h,List.nodup_nil,Nat.zero_le _,Nat.zero_le _,Nat.zero_le _,⟨Int.le_refl _,by show(0:Int)<=(n:Int);omega⟩⟩
theorem zaX (n:Nat)(h1:1<=n)(h2:n<=4096)(w:World):Pm prog 63 [I (n:Int)] w λv w'=>∃c V p,v= .tuple #[ptr c 0,I 0]/\SR w' c (z7o n) V p/\(∀b,SJ c V p b->w.heap.size<=b)/\Ext w w':=by
 refine py (e:=[(0,_)]) func63 O ntmps63 O O$ qN O$ PU O$ PG O$ Qq O$ PF$ P8 O$ Qu O$ PF$ PK O$ PW O$ Pf O$ OM O O (pmm) ?_
 rintro _ w1 ⟨p,rfl,hp,ad,cA⟩
 refine qV (Sk (cs:=[_,_,_,_,_,_,_,_,_,_,_]) zgO O zk1 O O)$ OM O O (Rm O (cs:=acC n 0 (λ_=>(.slice none 0 0,.map none)) p) O) ?_
 rintro _ w2 ⟨c,rfl,hc,ae,am⟩
 refine PU O$ OB func63 O ?_
 have dN:SL KI w1 p []:=SL.new cA
 have lp:=dN.lt
 have fH:∀b,¬Fq (.slice none 0 0) (.map none) b:=λb e=>by rcases e with e|e<;>cases e
 refine⟨_,rfl,c,_,p,rfl,⟨am,λj hj=>⟨?_,?_,?_⟩,ae.map dN.l,λi j hi hj bT b hb=>absurd hb (fH b),λj hj=>fH c,λj hj=>fH p,by omega⟩,λb hb=>?_,ad.trans ae⟩
 ·have e:(z7o n).li j=[]:=by match j,hj with|0,_|1,_|2,_|3,_=>rfl
  rw[e];exact Sl.nil _ _ _
 ·left
  refine⟨rfl,?_⟩
  match j,hj with|0,_|1,_|2,_|3,_=>rfl
 ·have e:(z7o n).li j=[]:=by match j,hj with|0,_|1,_|2,_|3,_=>rfl
  rw[e];exact Nat.zero_le _
 ·rcases hb with e|e|⟨j,hj,hb⟩
  ·have:=ad.size;omega
  ·omega
  ·exact absurd hb (fH b)
end
section
variable {w w' w2:World}{c p:Nat}{A:Arc}{V:Nat->Value×Value}{k:Int}
theorem SR.cells (h:SR w c A V p):OR w c [I (A.size:Int),(V 0).1,(V 0).2,(V 1).1,(V 1).2,(V 2).1,(V 2).2,(V 3).1,(V 3).2,I A.target,.map (some p)] 192:=h.OC
def z2m (h:SR w c A V p):Pm prog 189 [ptr c 0,I k] w λv w'=>v= .bool (decide (k∈A.once\/k∈A.often))/\w'=w:=by
 have h0:=Vw h (j:=0) (k:=k) (by decide)
 have h1:=Vw h (j:=1) (k:=k) (by decide)
 rw[show A.li 0=A.once from rfl] at h0
 rw[show A.li 1=A.often from rfl] at h1
 refine py (e:=[(0,_),(1,_)]) func189 O ntmps189 O O$ qN O$ Qt O$ qV (z4L zci O O)$ P8 O$ Pu O$ OX QE O$ OK O$ P4 XC O (h0) ?_
 rintro _ w ⟨rfl,rfl⟩
 by_cases ie:k∈A.once
 ·rw[decide_eq_true ie];refine OK O$ QG$ QG$ qS$ QJ O$ QJ O$ OU O$ OB func189 O ?_;exact⟨_,rfl,by rw[decide_eq_true (Or.inl ie)];rfl,rfl⟩
 ·rw[decide_eq_false ie];refine P8 O$ Pu O$ OX Rt O$ OK O$ P4 XC O (h1) ?_;rintro _ w ⟨rfl,rfl⟩;refine PK O$ QJ O$ OU O$ OB func189 O (⟨_,rfl,?_,rfl⟩);by_cases aL:k∈A.often
  ·simp[ie,aL,Qc]
  ·simp[ie,aL,Qc]
def XP:List Int->Value
 |[]=> .tuple #[I 0,.bool false]
 |a::_=> .tuple #[I a,.bool true]
theorem Vr (h:SR w c A V p){j:Nat}(hj:j<4):Pm prog 200 [ptr c 0,ptr c (1+2*j)] w λv w'=>v=XP (A.li j)/\w'=w:=by
 have hB:=h.cells
 have hg:=(Xm A.size A.target V p hj).1
 have hq:=h.q j hj
 obtain⟨ka,kc,ey,EX⟩:∃a c,(V j).1= .slice a (A.li j).length c/\(a=none->(A.li j).length=0):=hq.sl.rd.shape
 rw[ey] at hg
 have hR:=hq.sl.rd
 have hn:=hq.n
 rw[ey] at hR
 refine py (e:=[(0,_),(1,_)]) func200 O ntmps200 O O$ qN O$ PU O$ PG O$ Pu O$ OX Qg O$ qV (OO RB O O h.OC hg)$ Rv RB O$ OK O$ OD$ OH ?_
 cases hl:A.li j with
 | nil =>
   rw[hl] at hR;refine Rq (α:=Unit) (()) (λ_=>[(0,ptr c 0),(12,.slice ka 0 kc),(13,I 0),(14,I 0)]) (λ_ w'=>w'=w) (λ_=>0) ?hI ?hround
   case hI=>rfl
   case hround=>
    rintro i w2 rfl ih
    try dsimp only
    refine qN O$ Qq O$ PF$ OD$ It$ OJ O$ ON O$ qN O$ Qt O$ PU O$ OB func200 O ?_
    exact⟨_,rfl,rfl,rfl⟩
 | cons x r =>
   rw[hl] at hR EX hn
   obtain⟨kb,rfl⟩:∃b,ka=some b:=by
    cases ka with
    |none=>have:=EX O;simp at this
    |some b=>exact⟨b,rfl⟩
   obtain⟨lb,lo,lc,e5⟩:∃b o c',Value.slice (some kb) (x::r).length kc= .slice (some ⟨b,o,none⟩) (x::r).length c':=by
    rcases hR.2 with⟨c,hc,h0⟩|⟨b,off,c',hc,-⟩
    ·simp at h0
    ·exact⟨b,off,c',hc⟩
   cases e5;have iv:0<(x::r).length:=by simp
   refine Rq (α:=Unit) (()) (λ_=>[(0,ptr c 0),(12,.slice (some ⟨lb,lo,none⟩) (x::r).length kc),(13,I ((x::r).length:Int)),(14,I ((0:Nat):Int))]) (λ_ w'=>w'=w) (λ_=>0) ?hI ?hround
   case hI=>rfl
   case hround=>
    rintro i w2 rfl ih
    try dsimp only
    refine qN O$ Qq O$ Rp$ OD$ It$ OS O$ OE$ Qx$ qN O$ qV (PX RB Q7 O O (by omega))$ qV (Pr U3 O O (Qo hR (i:=0) (show((x::r).map I)[0]? =some (I x) from rfl)))$ Qt O$ Pu O$ OX z0A O ?_;refine qV (OO Xy O O hB O)$ OK O$ qV (ylk (k:=x) (K:=KI) Xy (Sd U3) Q7 O O h.pins)$ Ri O$ Rp$ OD$ OS O$ Pf O$ PU O$ OB func200 O ?_;exact⟨_,rfl,rfl,rfl⟩
def z2z (h:SR w c A V p)(hA:A.Ok)(cG:A.size<=1000):Pm prog 201 [ptr c 0] w λv w'=>v= .bool (decide (A.once.length+A.often.length=A.size))/\Ext w w':=by
 have hB:=h.cells
 have hh:=hA.held
 obtain⟨a0,c0,e0,-⟩:∃a c,(V 0).1= .slice a A.once.length c/\_:=(h.q 0 (by decide)).sl.rd.shape
 obtain⟨a1,c1,e1,-⟩:∃a c,(V 1).1= .slice a A.often.length c/\_:=(h.q 1 (by decide)).sl.rd.shape
 rw[e0,e1] at hB
 have hg:=Ext.OT w
 refine py (e:=[(0,_)]) func201 O ntmps201 O O$ QB O$ It$ R5 (λw'=>Ext w w') O$ OZ 0 O O (hg)$ OI 1 O (Q4 O) hg$ OI 2 O (Pp QE O) hg$ OI 3 O (Pp Qg O) hg$ qT 4 O (λ_ h=>OO RB O O (h.OC hB) O) hg$ OI 5 O (SF RB O) hg$ OZ 6 O O (hg)$ OI 7 O (Q4 O) hg$ OI 8 O (Pp Rt O) hg$ OI 9 O (Pp Qg O) hg ?_
 refine qT 10 O (λ_ h=>OO RB O O (h.OC hB) O) hg$ OI 11 O (SF RB O) hg$ OI 12 O (Ud O O (by omega)) hg$ OZ 13 O O (hg)$ OI 14 O (Q4 O) hg$ OI 15 O (Pp SE O) hg$ qT 16 O (λ_ h=>OO U3 O O (h.OC hB) O) hg$ OI 17 O (yeq O O) hg$ OI 18 O (R7 O) hg$ qE$ OB func201 O (⟨_,rfl,?_,hg⟩)
 show Value.bool _=Value.bool _
 congr 1
 exact decide_eq_decide.2 (by omega)
end
def RJ (ZQ:Bool)(g:Option Int):List Value:=[.bool ZQ,.bool g.isSome,I (g.getD 0)]
abbrev zdV (ZQ:Bool)(g:Option Int):Value:= .agg (RJ ZQ g).toArray
section
variable {w w' w2:World}{c p:Nat}{A:Arc}{V V':Nat->Value×Value}{k:Int}
def Arc.Ok.lens (h:A.Ok)(cG:A.size<=1000)(j:Nat):(A.li j).length<=2000:=by
 have h1:=h.held
 have h2:=h.first
 have h3:=h.total
 have h4:=A.QZ
 unfold Arc.li
 split<;>omega
theorem TF (h:SR w c A V p)(hA:A.Ok)(cG:A.size<=1000)(bo:Bool):Pm prog 202 [ptr c 0,.bool bo] w λv w'=>v=zdV false (A.room bo).2/\∃V',Wl w c V p w' (A.room bo).1 V':=by
 have f9:=hA.lens cG 2
 have jm:=hA.lens cG 3
 have LO:=hA.tg
 have iv:=hA.pos
 have fV:=hA.nd
 unfold Arc.all at fV
 rw[List.nodup_append] at fV
 obtain⟨nd1,nd2,nd3⟩:=fV
 rw[List.nodup_append] at nd2
 obtain⟨nd4,nd5,nd6⟩:=nd2
 rw[List.nodup_append] at nd5
 obtain⟨nd7,nd8,nd9⟩:=nd5
 have aZ:∀{b:Nat},SJ c V p b->b<w.heap.size:=h.lt
 refine py (e:=[(0,_),(1,_)]) func202 O ntmps202 O O$ qN O$ OM O O (RN (cs:=[_,_,_]) PA O) ?_
 rintro _ w1 ⟨b4,rfl,fC,ad,aK⟩
 have mj:=h.ext ad
 have n4:∀b,SJ c V p b->b≠b4:=λb hb e=>by have:=aZ hb;omega
 refine OD$ PG O$ P4 zfr O (z2z mj hA cG) ?_
 rintro _ w2 ⟨rfl,ae⟩
 have bD:=ae.OC aK
 have aJ:=ad.trans ae
 have dF:=h.ext aJ
 by_cases cm:¬A.once.length+A.often.length=A.size
 ·rw[decide_eq_false cm];have jn:A.room bo=(A,none):=by unfold Arc.room;rw[if_neg cm]
  refine qV ((Sb O))$ OD$ OS O$ qN O$ qV (Pt (news:=RJ false none) SI O PA O (OR.cells (n:=3) bD O) O)$ OW O (PO (news:=RJ false none) PA O O O O bD (by simp)) ?_;rintro w3 ⟨dT,av⟩;replace dT:OR w3 b4 [.bool false,.bool false,I 0] 264:=dT;refine OD$ Po func202 (.cell SI O PA O (OR.cells (n:=3) dT (news:=[_,_,_]) O) O .nil) ?_;rw[jn];exact⟨_,rfl,rfl,V,dF.kp av (λb hb=>n4 b hb),λb hb=> .inl hb,(aJ.An av (λj e=>by omega)).kp⟩
 ·have cm := Classical.not_not.1 cm; rw [decide_eq_true cm]; refine qV ((Sb O)) (OD (OJ O ?_)); have am := dF.cells; obtain ⟨a0, c0, e0, -⟩ : ∃ a c, (V 0).1 = .slice a A.once.length c /\ _ := (h.q 0 (by decide)).sl.rd.shape; rw [e0] at am; have f0 := Vr dF (j := 0) (by decide); have f1 := Vr dF (j := 1) (by decide); rw [show A.li 0 = A.once from rfl] at f0; rw [show A.li 1 = A.often from rfl] at f1
  cases ho:A.once with
  | nil =>
    cases hf:A.often with
    | nil =>
      exfalso;rw[ho,hf] at cm;simp at cm
      omega
    | cons x1 r1 =>
      have jn:A.room bo=({A with often:=r1,OY:=A.OY++[x1]},some x1):=by unfold Arc.room;rw[if_pos cm,ho,hf]
      have LP:A.once.length=0:=by rw[ho];rfl
      have g0:XP A.once= .tuple #[I 0,.bool false]:=by rw[ho];rfl
      have g1:XP A.often= .tuple #[I x1,.bool true]:=by rw[hf];rfl
      rw[g0] at f0;rw[g1] at f1;refine OE$ Qm O$ Pu O$ OX QE O$ P4 YK O (f0) ?_;rintro _ w2 ⟨rfl,rfl⟩;refine OK O$ qV (Rw (v:=I 0) O O)$ qV (Rw (v:= .bool false) O O)$ RT O$ Qw O$ P8 O$ Pu O$ OX Rt O$ P4 YK O (f1) ?_;rintro _ w2 ⟨rfl,rfl⟩;refine OK O$ qV (Rw (v:=I x1) O O)$ qV (Rw (v:= .bool true) O O)$ PU O$ Pn.qb (e:=[(0,_),(1,_),(4,_),(5,_),(6,_),(7,_),(8,_)]) ?_;refine Pf O$ Pu O$ OX QE O$ OX Qg O$ qV (OO RB O O am O)$ Rv RB O$ Qt O$ Te O$ PF$ OK O$ QG$ QG$ QG$ QG ?_;refine QG$ QG$ QG$ QG$ qS$ PK O$ OU O$ Pn.qb (e:=[(0,_),(4,_),(5,_),(6,_),(7,_),(8,_),(10,_)]) ?_;refine It$ Qm O$ qS$ PK O$ P8 O$ qV ((Sb O))$ P8 O$ qV ((Sb O))$ QJ O$ PK O$ PW O$ Pf O$ Pu O$ OX Rt O ?_;refine OK O$ P4 SU O (Qk dF (j:=1) (k:=x1) (by decide)) ?_;rintro _ w3 ⟨rfl,V3,ct⟩;have gS:(A.li 1).erase x1=r1:=by show A.often.erase x1=r1;rw[hf];simp
      rw[gS] at ct
      have dJ:x1∉(A.Qj 1 r1).li 3:=by
       show x1∉A.OY;intro e;exact nd6 x1 (by rw[hf];simp) x1 (by simp[e]) O
      refine qM O$ OK O$ Pu O$ OX Rk O$ OK O$ P4 To O (QV ct.m (j:=3) (k:=x1) (by decide) dJ (by show A.OY.length<=_;exact Nat.le_trans jm (by decide))) ?_;rintro _ w4 ⟨rfl,V4,bM⟩;have hr:=(dF.r (Ext.refl w2)).trans (ct.trans bM);have cB:=hr.k.OC bD (λe=>n4 _ e O);refine OD$ Pn.qb (e:=[(4,_),(7,_)]) ?_;refine Pf O$ qV (Sk (cs:=[_,_,_]) PA O Wb O O)$ OW O (PO (news:=RJ false (some x1)) PA O O O O cB (by simp)) ?_;rintro w5 ⟨aN,ak⟩;replace aN:OR w5 b4 [.bool false,.bool true,I x1] 264:=aN;refine OD$ Po func202 (.cell SI O PA O (OR.cells (n:=3) aN (news:=[_,_,_]) O) O .nil) ?_
      have dW:∀b,SJ c V4 p b->b≠b4:=λb hb e=>by
       rcases hr.fp b hb with h5|h5
       ·exact n4 b h5 e
       ·have:=bD.lt;omega
      rw[jn]
      exact⟨_,rfl,rfl,V4,hr.m.kp ak dW,λb hb=>(hr.fp b hb).imp id (λe=>by have:=aJ.size;omega),(aJ.kp.trans hr.k).An ak (λj e=> .inl (by omega))⟩
  | cons x0 r0 =>
    have LP:1<=A.once.length:=by rw[ho];simp
    cases hf:A.often with
    | nil =>
      have jn:A.room bo=({A with once:=r0,P6:=A.P6++[x0]},some x0):=by unfold Arc.room;rw[if_pos cm,ho,hf]
      have g0:XP A.once= .tuple #[I x0,.bool true]:=by rw[ho];rfl
      have g1:XP A.often= .tuple #[I 0,.bool false]:=by rw[hf];rfl
      rw[g0] at f0;rw[g1] at f1;refine OE$ Qm O$ Pu O$ OX QE O$ P4 YK O (f0) ?_;rintro _ w2 ⟨rfl,rfl⟩;refine OK O$ qV (Rw (v:=I x0) O O)$ qV (Rw (v:= .bool true) O O)$ RT O$ Qw O$ P8 O$ Pu O$ OX Rt O$ P4 YK O (f1) ?_;rintro _ w2 ⟨rfl,rfl⟩;refine OK O$ qV (Rw (v:=I 0) O O)$ qV (Rw (v:= .bool false) O O)$ PU O$ Pn.qb (e:=[(0,_),(1,_),(4,_),(5,_),(6,_),(7,_),(8,_)]) ?_;refine Pf O$ Pu O$ OX QE O$ OX Qg O$ qV (OO RB O O am O)$ Rv RB O$ Qt O$ Te O$ Rp$ OK O ?_
      by_cases h1:(A.once.length:Int)>A.target
      ·skip
       refine P8 O$ Pu O$ OX Rj O$ qV (OO U3 O O am O)$ Qu O$ Rp$ OK O$ QG$ QG$ QG$ QG$ qS$ QJ O$ QJ O ?_;refine OU O$ Pn.qb (e:=[(0,_),(4,_),(5,_),(6,_),(7,_),(8,_),(10,_)]) ?_;refine It$ Qm O$ OK O$ QJ O$ OK O$ QG$ QG$ QG$ QJ O$ OD$ OS O$ Pf O$ Pu O$ OX QE O ?_;refine OK O$ P4 SU O (Qk dF (j:=0) (k:=x0) (by decide)) ?_;rintro _ w3 ⟨rfl,V3,ct⟩;have gS:(A.li 0).erase x0=r0:=by show A.once.erase x0=r0;rw[ho];simp
       rw[gS] at ct
       have dJ:x0∉(A.Qj 0 r0).li 2:=by
        show x0∉A.P6;intro e;exact nd3 x0 (by rw[ho];simp) x0 (by simp[e]) O
       refine qM O$ OK O$ Pu O$ OX R0 O$ OK O$ P4 To O (QV ct.m (j:=2) (k:=x0) (by decide) dJ (by show A.P6.length<=_;exact Nat.le_trans f9 (by decide))) ?_;rintro _ w4 ⟨rfl,V4,bM⟩;have hr:=(dF.r (Ext.refl w2)).trans (ct.trans bM);have cB:=hr.k.OC bD (λe=>n4 _ e O);refine OD$ Pn.qb (e:=[(0,_),(4,_),(5,_),(7,_)]) ?_;refine Pf O$ qV (Sk (cs:=[_,_,_]) PA O Wb O O)$ OW O (PO (news:=RJ false (some x0)) PA O O O O cB (by simp)) ?_;rintro w5 ⟨aN,ak⟩;replace aN:OR w5 b4 [.bool false,.bool true,I x0] 264:=aN;refine OD$ Po func202 (.cell SI O PA O (OR.cells (n:=3) aN (news:=[_,_,_]) O) O .nil) ?_
       have dW:∀b,SJ c V4 p b->b≠b4:=λb hb e=>by
        rcases hr.fp b hb with h5|h5
        ·exact n4 b h5 e
        ·have:=bD.lt;omega
       rw[jn];exact⟨_,rfl,rfl,V4,hr.m.kp ak dW,λb hb=>(hr.fp b hb).imp id (λe=>by have:=aJ.size;omega),(aJ.kp.trans hr.k).An ak (λj e=> .inl (by omega))⟩
      ·refine P8 O$ Pu O$ OX Rj O$ qV (OO U3 O O am O)$ Qu O$ PF$ OK O ?_;by_cases h2:(A.once.length:Int)=A.target
       ·refine P8 O$ Pu O$ OX Rj O$ qV (OO U3 O O am O)$ Ri O$ Rp$ OK O ?_
        cases bo with
        | true =>
          refine OK O ?_
          skip
          refine QJ O$ PK O$ QJ O$ OU O$ Pn.qb (e:=[(0,_),(4,_),(5,_),(6,_),(7,_),(8,_),(10,_)]) ?_;refine It$ Qm O$ OK O$ QJ O$ OK O$ QG$ QG$ QG$ QJ O$ OD$ OS O$ Pf O$ Pu O$ OX QE O ?_;refine OK O$ P4 SU O (Qk dF (j:=0) (k:=x0) (by decide)) ?_;rintro _ w3 ⟨rfl,V3,ct⟩;have gS:(A.li 0).erase x0=r0:=by show A.once.erase x0=r0;rw[ho];simp
          rw[gS] at ct
          have dJ:x0∉(A.Qj 0 r0).li 2:=by
           show x0∉A.P6;intro e;exact nd3 x0 (by rw[ho];simp) x0 (by simp[e]) O
          refine qM O$ OK O$ Pu O$ OX R0 O$ OK O$ P4 To O (QV ct.m (j:=2) (k:=x0) (by decide) dJ (by show A.P6.length<=_;exact Nat.le_trans f9 (by decide))) ?_;rintro _ w4 ⟨rfl,V4,bM⟩;have hr:=(dF.r (Ext.refl w2)).trans (ct.trans bM);have cB:=hr.k.OC bD (λe=>n4 _ e O);refine OD$ Pn.qb (e:=[(0,_),(4,_),(5,_),(7,_)]) ?_;refine Pf O$ qV (Sk (cs:=[_,_,_]) PA O Wb O O)$ OW O (PO (news:=RJ false (some x0)) PA O O O O cB (by simp)) ?_;rintro w5 ⟨aN,ak⟩;replace aN:OR w5 b4 [.bool false,.bool true,I x0] 264:=aN;refine OD$ Po func202 (.cell SI O PA O (OR.cells (n:=3) aN (news:=[_,_,_]) O) O .nil) ?_
          have dW:∀b,SJ c V4 p b->b≠b4:=λb hb e=>by
           rcases hr.fp b hb with h5|h5
           ·exact n4 b h5 e
           ·have:=bD.lt;omega
          rw[jn]
          exact⟨_,rfl,rfl,V4,hr.m.kp ak dW,λb hb=>(hr.fp b hb).imp id (λe=>by have:=aJ.size;omega),(aJ.kp.trans hr.k).An ak (λj e=> .inl (by omega))⟩
        | false =>
          refine OK O ?_
          skip
          refine QJ O$ PK O$ QJ O$ OU O$ Pn.qb (e:=[(0,_),(4,_),(5,_),(6,_),(7,_),(8,_),(10,_)]) ?_;refine It$ Qm O$ qS$ PK O$ P8 O$ qV ((Sb O))$ P8 O$ qV ((Sb O))$ QJ O$ PK O$ OD$ OS O$ Pf O$ Pu O ?_;refine OX QE O$ OK O$ P4 SU O (Qk dF (j:=0) (k:=x0) (by decide)) ?_;rintro _ w3 ⟨rfl,V3,ct⟩;have gS:(A.li 0).erase x0=r0:=by show A.once.erase x0=r0;rw[ho];simp
          rw[gS] at ct
          have dJ:x0∉(A.Qj 0 r0).li 2:=by
           show x0∉A.P6;intro e;exact nd3 x0 (by rw[ho];simp) x0 (by simp[e]) O
          refine qM O$ OK O$ Pu O$ OX R0 O$ OK O$ P4 To O (QV ct.m (j:=2) (k:=x0) (by decide) dJ (by show A.P6.length<=_;exact Nat.le_trans f9 (by decide))) ?_;rintro _ w4 ⟨rfl,V4,bM⟩;have hr:=(dF.r (Ext.refl w2)).trans (ct.trans bM);have cB:=hr.k.OC bD (λe=>n4 _ e O);refine OD$ Pn.qb (e:=[(0,_),(4,_),(5,_),(7,_)]) ?_;refine Pf O$ qV (Sk (cs:=[_,_,_]) PA O Wb O O)$ OW O (PO (news:=RJ false (some x0)) PA O O O O cB (by simp)) ?_;rintro w5 ⟨aN,ak⟩;replace aN:OR w5 b4 [.bool false,.bool true,I x0] 264:=aN;refine OD$ Po func202 (.cell SI O PA O (OR.cells (n:=3) aN (news:=[_,_,_]) O) O .nil) ?_
          have dW:∀b,SJ c V4 p b->b≠b4:=λb hb e=>by
           rcases hr.fp b hb with h5|h5
           ·exact n4 b h5 e
           ·have:=bD.lt;omega
          rw[jn];exact⟨_,rfl,rfl,V4,hr.m.kp ak dW,λb hb=>(hr.fp b hb).imp id (λe=>by have:=aJ.size;omega),(aJ.kp.trans hr.k).An ak (λj e=> .inl (by omega))⟩
       ·refine P8 O$ Pu O$ OX Rj O$ qV (OO U3 O O am O)$ Ri O$ PF$ OK O ?_
        skip
        refine qS$ PK O$ PK O$ QJ O$ OU O$ Pn.qb (e:=[(0,_),(4,_),(5,_),(6,_),(7,_),(8,_),(10,_)]) ?_;refine It$ Qm O$ qS$ PK O$ P8 O$ qV ((Sb O))$ P8 O$ qV ((Sb O))$ QJ O$ PK O$ OD$ OS O$ Pf O$ Pu O ?_;refine OX QE O$ OK O$ P4 SU O (Qk dF (j:=0) (k:=x0) (by decide)) ?_;rintro _ w3 ⟨rfl,V3,ct⟩;have gS:(A.li 0).erase x0=r0:=by show A.once.erase x0=r0;rw[ho];simp
        rw[gS] at ct
        have dJ:x0∉(A.Qj 0 r0).li 2:=by
         show x0∉A.P6;intro e;exact nd3 x0 (by rw[ho];simp) x0 (by simp[e]) O
        refine qM O$ OK O$ Pu O$ OX R0 O$ OK O$ P4 To O (QV ct.m (j:=2) (k:=x0) (by decide) dJ (by show A.P6.length<=_;exact Nat.le_trans f9 (by decide))) ?_;rintro _ w4 ⟨rfl,V4,bM⟩;have hr:=(dF.r (Ext.refl w2)).trans (ct.trans bM);have cB:=hr.k.OC bD (λe=>n4 _ e O);refine OD$ Pn.qb (e:=[(0,_),(4,_),(5,_),(7,_)]) ?_;refine Pf O$ qV (Sk (cs:=[_,_,_]) PA O Wb O O)$ OW O (PO (news:=RJ false (some x0)) PA O O O O cB (by simp)) ?_;rintro w5 ⟨aN,ak⟩;replace aN:OR w5 b4 [.bool false,.bool true,I x0] 264:=aN;refine OD$ Po func202 (.cell SI O PA O (OR.cells (n:=3) aN (news:=[_,_,_]) O) O .nil) ?_
        have dW:∀b,SJ c V4 p b->b≠b4:=λb hb e=>by
         rcases hr.fp b hb with h5|h5
         ·exact n4 b h5 e
         ·have:=bD.lt;omega
        rw[jn]
        exact⟨_,rfl,rfl,V4,hr.m.kp ak dW,λb hb=>(hr.fp b hb).imp id (λe=>by have:=aJ.size;omega),(aJ.kp.trans hr.k).An ak (λj e=> .inl (by omega))⟩
    | cons x1 r1 =>
      have g0:XP A.once= .tuple #[I x0,.bool true]:=by rw[ho];rfl
      have g1:XP A.often= .tuple #[I x1,.bool true]:=by rw[hf];rfl
      rw[g0] at f0;rw[g1] at f1;refine OE$ Qm O$ Pu O$ OX QE O$ P4 YK O (f0) ?_;rintro _ w2 ⟨rfl,rfl⟩;refine OK O$ qV (Rw (v:=I x0) O O)$ qV (Rw (v:= .bool true) O O)$ RT O$ Qw O$ P8 O$ Pu O$ OX Rt O$ P4 YK O (f1) ?_;rintro _ w2 ⟨rfl,rfl⟩;refine OK O$ qV (Rw (v:=I x1) O O)$ qV (Rw (v:= .bool true) O O)$ PU O$ Pn.qb (e:=[(0,_),(1,_),(4,_),(5,_),(6,_),(7,_),(8,_)]) ?_;refine Pf O$ Pu O$ OX QE O$ OX Qg O$ qV (OO RB O O am O)$ Rv RB O$ Qt O$ Te O$ Rp$ OK O ?_
      by_cases h1:(A.once.length:Int)>A.target
      ·have jn:A.room bo=({A with once:=r0,P6:=A.P6++[x0]},some x0):=by unfold Arc.room;rw[if_pos cm,ho,hf];exact if_pos (by rw[<-ho];exact .inl h1)
       refine P8 O$ Pu O$ OX Rj O$ qV (OO U3 O O am O)$ Qu O$ Rp$ OK O$ QG$ QG$ QG$ QG$ qS$ QJ O$ QJ O ?_;refine OU O$ Pn.qb (e:=[(0,_),(4,_),(5,_),(6,_),(7,_),(8,_),(10,_)]) ?_;refine It$ Qm O$ OK O$ QJ O$ OK O$ QG$ QG$ QG$ QJ O$ OD$ OS O$ Pf O$ Pu O$ OX QE O ?_;refine OK O$ P4 SU O (Qk dF (j:=0) (k:=x0) (by decide)) ?_;rintro _ w3 ⟨rfl,V3,ct⟩;have gS:(A.li 0).erase x0=r0:=by show A.once.erase x0=r0;rw[ho];simp
       rw[gS] at ct
       have dJ:x0∉(A.Qj 0 r0).li 2:=by
        show x0∉A.P6;intro e;exact nd3 x0 (by rw[ho];simp) x0 (by simp[e]) O
       refine qM O$ OK O$ Pu O$ OX R0 O$ OK O$ P4 To O (QV ct.m (j:=2) (k:=x0) (by decide) dJ (by show A.P6.length<=_;exact Nat.le_trans f9 (by decide))) ?_;rintro _ w4 ⟨rfl,V4,bM⟩;have hr:=(dF.r (Ext.refl w2)).trans (ct.trans bM);have cB:=hr.k.OC bD (λe=>n4 _ e O);refine OD$ Pn.qb (e:=[(0,_),(4,_),(5,_),(7,_)]) ?_;refine Pf O$ qV (Sk (cs:=[_,_,_]) PA O Wb O O)$ OW O (PO (news:=RJ false (some x0)) PA O O O O cB (by simp)) ?_;rintro w5 ⟨aN,ak⟩;replace aN:OR w5 b4 [.bool false,.bool true,I x0] 264:=aN;refine OD$ Po func202 (.cell SI O PA O (OR.cells (n:=3) aN (news:=[_,_,_]) O) O .nil) ?_
       have dW:∀b,SJ c V4 p b->b≠b4:=λb hb e=>by
        rcases hr.fp b hb with h5|h5
        ·exact n4 b h5 e
        ·have:=bD.lt;omega
       rw[jn];exact⟨_,rfl,rfl,V4,hr.m.kp ak dW,λb hb=>(hr.fp b hb).imp id (λe=>by have:=aJ.size;omega),(aJ.kp.trans hr.k).An ak (λj e=> .inl (by omega))⟩
      ·refine P8 O$ Pu O$ OX Rj O$ qV (OO U3 O O am O)$ Qu O$ PF$ OK O ?_;by_cases h2:(A.once.length:Int)=A.target
       ·refine P8 O$ Pu O$ OX Rj O$ qV (OO U3 O O am O)$ Ri O$ Rp$ OK O ?_
        cases bo with
        | true =>
          refine OK O ?_;have jn:A.room true=({A with once:=r0,P6:=A.P6++[x0]},some x0):=by unfold Arc.room;rw[if_pos cm,ho,hf];exact if_pos (by rw[<-ho];exact .inr ⟨h2,rfl⟩)
          refine QJ O$ PK O$ QJ O$ OU O$ Pn.qb (e:=[(0,_),(4,_),(5,_),(6,_),(7,_),(8,_),(10,_)]) ?_;refine It$ Qm O$ OK O$ QJ O$ OK O$ QG$ QG$ QG$ QJ O$ OD$ OS O$ Pf O$ Pu O$ OX QE O ?_;refine OK O$ P4 SU O (Qk dF (j:=0) (k:=x0) (by decide)) ?_;rintro _ w3 ⟨rfl,V3,ct⟩;have gS:(A.li 0).erase x0=r0:=by show A.once.erase x0=r0;rw[ho];simp
          rw[gS] at ct
          have dJ:x0∉(A.Qj 0 r0).li 2:=by
           show x0∉A.P6;intro e;exact nd3 x0 (by rw[ho];simp) x0 (by simp[e]) O
          refine qM O$ OK O$ Pu O$ OX R0 O$ OK O$ P4 To O (QV ct.m (j:=2) (k:=x0) (by decide) dJ (by show A.P6.length<=_;exact Nat.le_trans f9 (by decide))) ?_;rintro _ w4 ⟨rfl,V4,bM⟩;have hr:=(dF.r (Ext.refl w2)).trans (ct.trans bM);have cB:=hr.k.OC bD (λe=>n4 _ e O);refine OD$ Pn.qb (e:=[(0,_),(4,_),(5,_),(7,_)]) ?_;refine Pf O$ qV (Sk (cs:=[_,_,_]) PA O Wb O O)$ OW O (PO (news:=RJ false (some x0)) PA O O O O cB (by simp)) ?_;rintro w5 ⟨aN,ak⟩;replace aN:OR w5 b4 [.bool false,.bool true,I x0] 264:=aN;refine OD$ Po func202 (.cell SI O PA O (OR.cells (n:=3) aN (news:=[_,_,_]) O) O .nil) ?_
          have dW:∀b,SJ c V4 p b->b≠b4:=λb hb e=>by
           rcases hr.fp b hb with h5|h5
           ·exact n4 b h5 e
           ·have:=bD.lt;omega
          rw[jn]
          exact⟨_,rfl,rfl,V4,hr.m.kp ak dW,λb hb=>(hr.fp b hb).imp id (λe=>by have:=aJ.size;omega),(aJ.kp.trans hr.k).An ak (λj e=> .inl (by omega))⟩
        | false =>
          refine OK O ?_;have jn:A.room false=({A with often:=r1,OY:=A.OY++[x1]},some x1):=by unfold Arc.room;rw[if_pos cm,ho,hf];exact if_neg (by rw[<-ho];rintro(e|⟨e,e2⟩);exact h1 e;cases e2)
          refine QJ O$ PK O$ QJ O$ OU O$ Pn.qb (e:=[(0,_),(4,_),(5,_),(6,_),(7,_),(8,_),(10,_)]) ?_;refine It$ Qm O$ qS$ PK O$ P8 O$ qV ((Sb O))$ P8 O$ qV ((Sb O))$ QJ O$ PK O$ PW O$ Pf O$ Pu O$ OX Rt O ?_;refine OK O$ P4 SU O (Qk dF (j:=1) (k:=x1) (by decide)) ?_;rintro _ w3 ⟨rfl,V3,ct⟩;have gS:(A.li 1).erase x1=r1:=by show A.often.erase x1=r1;rw[hf];simp
          rw[gS] at ct
          have dJ:x1∉(A.Qj 1 r1).li 3:=by
           show x1∉A.OY;intro e;exact nd6 x1 (by rw[hf];simp) x1 (by simp[e]) O
          refine qM O$ OK O$ Pu O$ OX Rk O$ OK O$ P4 To O (QV ct.m (j:=3) (k:=x1) (by decide) dJ (by show A.OY.length<=_;exact Nat.le_trans jm (by decide))) ?_;rintro _ w4 ⟨rfl,V4,bM⟩;have hr:=(dF.r (Ext.refl w2)).trans (ct.trans bM);have cB:=hr.k.OC bD (λe=>n4 _ e O);refine OD$ Pn.qb (e:=[(4,_),(7,_)]) ?_;refine Pf O$ qV (Sk (cs:=[_,_,_]) PA O Wb O O)$ OW O (PO (news:=RJ false (some x1)) PA O O O O cB (by simp)) ?_;rintro w5 ⟨aN,ak⟩;replace aN:OR w5 b4 [.bool false,.bool true,I x1] 264:=aN;refine OD$ Po func202 (.cell SI O PA O (OR.cells (n:=3) aN (news:=[_,_,_]) O) O .nil) ?_
          have dW:∀b,SJ c V4 p b->b≠b4:=λb hb e=>by
           rcases hr.fp b hb with h5|h5
           ·exact n4 b h5 e
           ·have:=bD.lt;omega
          rw[jn];exact⟨_,rfl,rfl,V4,hr.m.kp ak dW,λb hb=>(hr.fp b hb).imp id (λe=>by have:=aJ.size;omega),(aJ.kp.trans hr.k).An ak (λj e=> .inl (by omega))⟩
       ·refine P8 O$ Pu O$ OX Rj O$ qV (OO U3 O O am O)$ Ri O$ PF$ OK O ?_;have jn:A.room bo=({A with often:=r1,OY:=A.OY++[x1]},some x1):=by unfold Arc.room;rw[if_pos cm,ho,hf];exact if_neg (by rw[<-ho];rintro(e|⟨e,e2⟩);exact h1 e;exact h2 e)
        refine qS$ PK O$ PK O$ QJ O$ OU O$ Pn.qb (e:=[(0,_),(4,_),(5,_),(6,_),(7,_),(8,_),(10,_)]) ?_;refine It$ Qm O$ qS$ PK O$ P8 O$ qV ((Sb O))$ P8 O$ qV ((Sb O))$ QJ O$ PK O$ PW O$ Pf O$ Pu O$ OX Rt O ?_;refine OK O$ P4 SU O (Qk dF (j:=1) (k:=x1) (by decide)) ?_;rintro _ w3 ⟨rfl,V3,ct⟩;have gS:(A.li 1).erase x1=r1:=by show A.often.erase x1=r1;rw[hf];simp
        rw[gS] at ct
        have dJ:x1∉(A.Qj 1 r1).li 3:=by
         show x1∉A.OY;intro e;exact nd6 x1 (by rw[hf];simp) x1 (by simp[e]) O
        refine qM O$ OK O$ Pu O$ OX Rk O$ OK O$ P4 To O (QV ct.m (j:=3) (k:=x1) (by decide) dJ (by show A.OY.length<=_;exact Nat.le_trans jm (by decide))) ?_;rintro _ w4 ⟨rfl,V4,bM⟩;have hr:=(dF.r (Ext.refl w2)).trans (ct.trans bM);have cB:=hr.k.OC bD (λe=>n4 _ e O);refine OD$ Pn.qb (e:=[(4,_),(7,_)]) ?_;refine Pf O$ qV (Sk (cs:=[_,_,_]) PA O Wb O O)$ OW O (PO (news:=RJ false (some x1)) PA O O O O cB (by simp)) ?_;rintro w5 ⟨aN,ak⟩;replace aN:OR w5 b4 [.bool false,.bool true,I x1] 264:=aN;refine OD$ Po func202 (.cell SI O PA O (OR.cells (n:=3) aN (news:=[_,_,_]) O) O .nil) ?_
        have dW:∀b,SJ c V4 p b->b≠b4:=λb hb e=>by
         rcases hr.fp b hb with h5|h5
         ·exact n4 b h5 e
         ·have:=bD.lt;omega
        rw[jn];exact⟨_,rfl,rfl,V4,hr.m.kp ak dW,λb hb=>(hr.fp b hb).imp id (λe=>by have:=aJ.size;omega),(aJ.kp.trans hr.k).An ak (λj e=> .inl (by omega))⟩
end
def Arc.Ok.zju {A:Arc}(h:A.Ok):(A.Qj 2 (A.P6.drop 1)).Ok:=by
 have hs:(A.Qj 2 (A.P6.drop 1)).all.Sublist A.all:=(((List.drop_sublist 1 A.P6).append_right A.OY).append_left A.often).append_left A.once
 have:=h.first
 have h2:=hs.length_le
 have h3:=h.total
 exact⟨h.pos,h.nd.sublist hs,h.held,by show A.once.length+(A.P6.drop 1).length<=A.size;rw[List.length_drop];omega,Nat.le_trans h2 h3,h.tg⟩
def Arc.Ok.zic {A:Arc}(h:A.Ok):(A.Qj 3 (A.OY.drop 1)).Ok:=by
 have hs:(A.Qj 3 (A.OY.drop 1)).all.Sublist A.all:=(((List.drop_sublist 1 A.OY).append_left A.P6).append_left A.often).append_left A.once
 exact⟨h.pos,h.nd.sublist hs,h.held,h.first,Nat.le_trans hs.length_le h.total,h.tg⟩
section
variable {w w' w2:World}{c p:Nat}{A A':Arc}{V V':Nat->Value×Value}{k:Int}
def SR.head (h:SR w c A V p){j:Nat}(hj:j<4){x:Int}{r:List Int}(hl:A.li j=x::r):∃b o cp,(V j).1= .slice (some ⟨b,o,none⟩) (A.li j).length cp/\w.cell? ⟨b,o+0*1,none⟩=some (I x):=by
 have hR:=(h.q j hj).sl.rd
 rcases hR.2 with⟨c,hc,h0⟩|⟨b,off,c',hc,-⟩
 ·rw[hl] at h0;simp at h0
 ·rw[hc] at hR;exact⟨b,off,c',hc,Qo hR (i:=0) (by rw[hl];rfl)⟩
theorem z0V (h:SR w c A V p)(hA:A.Ok)(cG:A.size<=1000):Pm prog 203 [ptr c 0] w λv w'=>v=zdV false A.add.2/\∃V',Wl w c V p w' A.add.1 V':=by
 have sV:=hA.lens cG 0
 have iK:=hA.lens cG 1
 have f9:=hA.lens cG 2
 have jm:=hA.lens cG 3
 have iv:=hA.pos
 have dV:=A.QZ
 have vT:=hA.held
 have O9:=hA.first
 have eX:=hA.total
 have aZ:∀{b:Nat},SJ c V p b->b<w.heap.size:=h.lt
 rw[show A.li 0=A.once from rfl] at sV
 rw[show A.li 1=A.often from rfl] at iK
 rw[show A.li 2=A.P6 from rfl] at f9
 rw[show A.li 3=A.OY from rfl] at jm
 have hB:=h.cells
 obtain⟨a0,c0,e0,-⟩:∃a c,(V 0).1= .slice a A.once.length c/\_:=(h.q 0 (by decide)).sl.rd.shape
 obtain⟨a1,c1,e1,-⟩:∃a c,(V 1).1= .slice a A.often.length c/\_:=(h.q 1 (by decide)).sl.rd.shape
 obtain⟨a2,c2,e2,-⟩:∃a c,(V 2).1= .slice a A.P6.length c/\_:=(h.q 2 (by decide)).sl.rd.shape
 obtain⟨a3,c3,e3,-⟩:∃a c,(V 3).1= .slice a A.OY.length c/\_:=(h.q 3 (by decide)).sl.rd.shape
 rw[e0,e1,e2,e3] at hB
 refine py (e:=[(0,_)]) func203 O ntmps203 O O$ qN O$ OM O O (RN (cs:=[_,_,_]) PA O) ?_
 rintro _ w1 ⟨b2,rfl,cn,ad,am⟩
 replace am:OR w1 b2 [.bool false,.bool false,I 0] 264:=am
 have n2:∀b,SJ c V p b->b≠b2:=λb hb e=>by have:=aZ hb;omega
 have aj:=ad.OC hB
 have aG:=Ext.OT w1
 refine OD$ It$ R5 (λw'=>Ext w1 w') O$ OZ 0 O O (aG)$ OI 1 O (Q4 O) aG$ OI 2 O (Pp QE O) aG$ OI 3 O (Pp Qg O) aG$ qT 4 O (λ_ h=>OO RB O O (h.OC aj) O) aG$ OI 5 O (SF RB O) aG$ OZ 6 O O (aG)$ OI 7 O (Q4 O) aG$ OI 8 O (Pp R0 O) aG$ OI 9 O (Pp Qg O) aG$ qT 10 O (λ_ h=>OO RB O O (h.OC aj) O) aG ?_
 refine OI 11 O (SF RB O) aG$ OI 12 O (Ud O O (by omega)) aG$ OI 13 O (R7 O) aG$ qE$ It ?_
 rw[show(A.once.length:Int)+(A.P6.length:Int)=((A.once.length+A.P6.length:Nat):Int) by omega]
 have aa:=Ext.OT w1.drew
 have kE:=aG.OC aj
 refine R5 (λw'=>Ext w1.drew w') O$ OZ 0 O O (aa)$ OZ 1 O O (aa)$ OI 2 O (Q4 O) aa$ OI 3 O (Pp Rt O) aa$ OI 4 O (Pp Qg O) aa$ qT 5 O (λ_ h=>OO RB O O (h.OC kE) O) aa$ OI 6 O (SF RB O) aa$ OI 7 O (Ud O O (by omega)) aa$ OZ 8 O O (aa)$ OI 9 O (Q4 O) aa$ OI 10 O (Pp Rk O) aa$ OI 11 O (Pp Qg O) aa$ qT 12 O (λ_ h=>OO RB O O (h.OC kE) O) aa ?_
 refine OI 13 O (SF RB O) aa$ OI 14 O (Ud O O (by omega)) aa$ OI 15 O (R7 O) aa ?_
 rw[show((A.once.length+A.P6.length:Nat):Int)+(A.often.length:Int)+(A.OY.length:Int)=(A.all.length:Int) by omega]
 have ae:=(ad.trans aG).trans aa
 obtain⟨w2,lC⟩:∃w2,w1.drew.drew=w2:=⟨_,rfl⟩
 rw[lC] at ae
 have aF:=aG.trans aa
 rw[lC] at aF⊢
 have h2:=h.ext ae
 have mt:=h2.cells
 rw[e0,e1,e2,e3] at mt
 have iA:=aF.OC am
 have af:=Ext.OT w2
 refine qE$ Pn.qb (e:=[(0,_),(2,_),(3,_),(4,_)]) ?_
 refine It$ PI (λe' w'=>e'=[(0,ptr c 0),(2,ptr b2 0)]/\∃A' V',A'.Ok/\A'.size=A.size/\Wl w2 c V p w' A' V'/\OR w' b2 [.bool false,.bool false,I 0] 264/\A.add=A'.room false/\w2.heap.size<=w'.heap.size) ?ep$ λep=>?iT
 case ep=>
  rintro e' w3 ⟨rfl,A',V',LQ,zv,ct,au,dK,z3⟩;refine Pf O$ P4 z1Z O (TF ct.m LQ (by omega) false) ?_;rintro _ w4 ⟨rfl,V4,bM⟩;have hr:=ct.trans bM
  have n3:∀b,SJ c V' p b->b≠b2:=λb hb e=>by
   rcases ct.fp b hb with h5|h5
   ·exact n2 b h5 e
   ·have:=iA.lt;omega
  have n4:∀b,SJ c V4 p b->b≠b2:=λb hb e=>by
   rcases hr.fp b hb with h5|h5
   ·exact n2 b h5 e
   ·have:=iA.lt;omega
  have ir:=bM.k.OC au (λe=>n3 _ e O);obtain⟨g,hg⟩:∃g,(A'.room false).2=g:=⟨_,rfl⟩;rw[hg];refine OW O (PO (news:=RJ false g) PA O O O O ir (by simp)) ?_;rintro w5 ⟨dU,ak⟩;replace dU:OR w5 b2 [.bool false,.bool g.isSome,I (g.getD 0)] 264:=dU;refine OD$ Po func203 (.cell SI O PA O (OR.cells (n:=3) dU (news:=[_,_,_]) O) O .nil) ?_;rw[dK,hg];have z1:=ad.size;have z2:=ae.size;exact⟨_,rfl,rfl,V4,hr.m.kp ak n4,λb hb=>(hr.fp b hb).imp id (λe=>by omega),(ae.kp.trans hr.k).An ak (λj e=> .inl (by omega))⟩
 case iT =>
  have e13:(A.all.length:Int)=(A.all.length:Int):=rfl;have h3:=h2.ext af;have ql:=af.OC mt;have cW:=af.OC iA;have z1:=ad.size;have z2:=ae.size;by_cases hf:A.once.length+A.P6.length=A.size
  ·by_cases ho:A.once.length<A.size
   ·refine OH$ It$ R5 (λw'=>Ext w2 w') O$ OZ 0 O O (af)$ OZ 1 O O (af)$ OI 2 O (Q4 O) af$ OI 3 O (Pp SE O) af$ qT 4 O (λ_ h=>OO U3 O O (h.OC mt) O) af$ OI 5 O (yeq O O) af$ TT$ OZ 6 O O (af)$ OZ 7 O O (af)$ OI 8 O (Q4 O) af$ OI 9 O (Pp QE O) af ?_;refine OI 10 O (Pp Qg O) af$ qT 11 O (λ_ h=>OO RB O O (h.OC mt) O) af$ OI 12 O (SF RB O) af$ OZ 13 O O (af)$ OI 14 O (Q4 O) af$ OI 15 O (Pp SE O) af$ qT 16 O (λ_ h=>OO U3 O O (h.OC mt) O) af$ OI 17 O (ylt O O) af$ TT$ OI 18 O (UJ O O) af$ OI 19 O (R7 O) af$ qE$ OS O ?_
    obtain⟨x,r,hw⟩:∃x r,A.P6=x::r:=by
     cases hx:A.P6 with
     |nil=>rw[hx] at hf;simp at hf;omega
     |cons x r=>exact⟨x,r,rfl⟩
    obtain⟨lb,lo,lc,zw,-⟩:=h2.head (j:=2) (by decide) hw;rw[e2] at zw;cases zw;have cO:=(h3.q 2 (by decide)).sl.rd;rw[e2] at cO;have rQ:0<A.P6.length:=by rw[hw];simp
    have i6:((A.li 2).map I)[0]? =some (I x):=by show(A.P6.map I)[0]? =_;rw[hw];rfl
    have ag:=Ext.OT w2.drew;refine P7 [10] (λw'=>Ext w2.drew w') (by kernel_rfl) O$ PL 0 O O (ag)$ P9 1 O (Q4 O) ag$ P9 2 O (Pp R0 O) ag$ PL 3 O O (ag)$ P9 4 O (Q4 O) ag$ P9 5 O (Pp R0 O) ag$ P9 6 O (Pp Qg O) ag$ qL 7 O (λ_ h=>OO RB O O (h.OC (af.OC mt)) O) ag$ P9 8 O (PX RB Q7 O O (by omega)) ag$ qL 9 O (λ_ h=>Pr U3 O O (Qo (cO.ext h) (i:=0) i6)) ag$ SM [10]$ SK 10 O SU O (Qk (h3.ext ag) (j:=2) (k:=x) (by decide)) ?_;rintro _ w5 ⟨rfl,V5,co⟩;refine⟨trivial,?_⟩;have zx:(A.li 2).erase x=A.P6.drop 1:=by show A.P6.erase x=A.P6.drop 1;rw[hw];simp
    rw[zx] at co;have fB:=(h2.r (af.trans ag)).trans co;have dU:=fB.k.OC iA (λe=>n2 _ e O);refine qE$ Pn.qb (e:=[(0,_),(2,_)]) ?_;refine OA ?_;exact(ep _ _ ⟨rfl,_,V5,hA.zju,(z0v A (j:=2) (by decide) _).1,fB,dU,by unfold Arc.add;rw[if_pos hf,if_pos ho];rfl,fB.k.size⟩).qb
   ·refine OH$ It$ R5 (λw'=>Ext w2 w') O$ OZ 0 O O (af)$ OZ 1 O O (af)$ OI 2 O (Q4 O) af$ OI 3 O (Pp SE O) af$ qT 4 O (λ_ h=>OO U3 O O (h.OC mt) O) af$ OI 5 O (yeq O O) af$ TT$ OZ 6 O O (af)$ OZ 7 O O (af)$ OI 8 O (Q4 O) af$ OI 9 O (Pp QE O) af ?_;refine OI 10 O (Pp Qg O) af$ qT 11 O (λ_ h=>OO RB O O (h.OC mt) O) af$ OI 12 O (SF RB O) af$ OZ 13 O O (af)$ OI 14 O (Q4 O) af$ OI 15 O (Pp SE O) af$ qT 16 O (λ_ h=>OO U3 O O (h.OC mt) O) af$ OI 17 O (ylt O O) af$ Uc$ OI 18 O (UJ O O) af$ OI 19 O (R7 O) af$ qE$ OJ O$ Qm O ?_;refine Pu O$ OX SE O$ qV (OO U3 O O ql O)$ Ri O$ Rp$ OU O$ Pn.qb (e:=[(0,_),(2,_),(4,_),(66,_)]) ?_;refine OS O$ Qm O$ Pu O$ OX QE O ?_
    obtain⟨x,r,hw⟩:∃x r,A.once=x::r:=by
     cases hx:A.once with
     |nil=>rw[hx] at ho;simp at ho;omega
     |cons x r=>exact⟨x,r,rfl⟩
    have f0:=Vr h3 (j:=0) (by decide);rw[show A.li 0=A.once from rfl,show XP A.once= .tuple #[I x,.bool true] by rw[hw];rfl] at f0;obtain⟨w3,qm⟩:∃w3,w2.drew=w3:=⟨_,rfl⟩;rw[qm] at f0 h3 cW af⊢;refine P4 YK O (f0) ?_;rintro _ w3 ⟨rfl,rfl⟩;refine OK O$ qV (Rw (v:=I x) O O)$ qV (Rw (v:= .bool true) O O)$ RT O$ Qt O$ Pu O$ OX QE O$ OK O$ P4 SU O (Qk h3 (j:=0) (k:=x) (by decide)) ?_;rintro _ w5 ⟨rfl,V5,co⟩;have zx:(A.li 0).erase x=A.once.drop 1:=by show A.once.erase x=A.once.drop 1;rw[hw];simp
    rw[zx] at co;have fB:=(h2.r af).trans co;have dU:=fB.k.OC iA (λe=>n2 _ e O);refine qM O$ OK O$ qV (Sk (cs:=[_,_,_]) PA O Wb O O)$ OW O (PO (news:=RJ false (some x)) PA O O O O dU (by simp)) ?_;rintro w6 ⟨cq,aP⟩;replace cq:OR w6 b2 [.bool false,.bool true,I x] 264:=cq;refine OD$ Po func203 (.cell SI O PA O (OR.cells (n:=3) cq (news:=[_,_,_]) O) O .nil) ?_
    have n5:∀b,SJ c V5 p b->b≠b2:=λb hb e=>by
     rcases fB.fp b hb with h5|h5
     ·exact n2 b h5 e
     ·have:=iA.lt;omega
    have dK:A.add=(A.Qj 0 (A.once.drop 1),some x):=by unfold Arc.add;rw[if_pos hf,if_neg ho,hw];rfl
    rw[dK];exact⟨_,rfl,rfl,V5,fB.m.kp aP n5,λb hb=>(fB.fp b hb).imp id (λe=>by omega),(ae.kp.trans fB.k).An aP (λj e=> .inl (by omega))⟩
  ·refine OH$ It$ R5 (λw'=>Ext w2 w') O$ OZ 0 O O (af)$ OZ 1 O O (af)$ OI 2 O (Q4 O) af$ OI 3 O (Pp SE O) af$ qT 4 O (λ_ h=>OO U3 O O (h.OC mt) O) af$ OI 5 O (yeq O O) af$ Uc$ OZ 6 O O (af)$ qJ 7 O (af)$ qJ 8 O (af)$ qJ 9 O (af) ?_;refine qJ 10 O (af)$ qJ 11 O (af)$ qJ 12 O (af)$ qJ 13 O (af)$ qJ 14 O (af)$ qJ 15 O (af)$ qJ 16 O (af)$ qJ 17 O (af)$ OI 18 O (Ub O O) af$ OI 19 O (R7 O) af$ qE$ OJ O$ Qm O$ Pu O ?_;refine OX SE O$ qV (OO U3 O O ql O)$ Ri O$ PF$ OU O$ Pn.qb (e:=[(0,_),(2,_),(4,_),(66,_)]) ?_;refine OJ O$ Qm O$ Pu O$ OX SE O$ qV (OO U3 O O ql O) ?_;by_cases h4:A.all.length<A.size
   ·refine Qq O$ Rp$ OU O$ OS O$ qN O$ qV (Sk (cs:=[_,_,_]) PA O Wb O O)$ OW O (PO (news:=RJ false none) PA O O O O cW (by simp)) ?_;rintro w5 ⟨dU,ak⟩;replace dU:OR w5 b2 [.bool false,.bool false,I 0] 264:=dU;refine OD$ Po func203 (.cell SI O PA O (OR.cells (n:=3) dU (news:=[_,_,_]) O) O .nil) ?_;have dK:A.add=(A,none):=by unfold Arc.add;rw[if_neg hf,if_pos h4]
    rw[dK];exact⟨_,rfl,rfl,V,h3.kp ak n2,λb hb=> .inl hb,((ae.trans af).An ak (λj e=>by omega)).kp⟩
   ·refine Qq O$ PF$ OU O$ OJ O$ Qm O$ Pu O$ OX SE O$ qV (OO U3 O O ql O)$ qV (Wm O O (by omega)) ?_;by_cases h5:A.all.length=2*A.size
    ·refine Ri O$ Rp$ OU O$ OS O ?_
     obtain⟨x,r,hw⟩:∃x r,A.OY=x::r:=by
      cases hx:A.OY with
      |nil=>rw[hx] at dV;simp at dV;omega
      |cons x r=>exact⟨x,r,rfl⟩
     obtain⟨lb,lo,lc,zw,-⟩:=h2.head (j:=3) (by decide) hw;rw[e3] at zw;cases zw;have cO:=(h3.q 3 (by decide)).sl.rd;rw[e3] at cO;have rQ:0<A.OY.length:=by rw[hw];simp
     have i6:((A.li 3).map I)[0]? =some (I x):=by show(A.OY.map I)[0]? =_;rw[hw];rfl
     have ag:=Ext.OT w2.drew;refine P7 [10] (λw'=>Ext w2.drew w') (by kernel_rfl) O$ PL 0 O O (ag)$ P9 1 O (Q4 O) ag$ P9 2 O (Pp Rk O) ag$ PL 3 O O (ag)$ P9 4 O (Q4 O) ag$ P9 5 O (Pp Rk O) ag$ P9 6 O (Pp Qg O) ag$ qL 7 O (λ_ h=>OO RB O O (h.OC (af.OC mt)) O) ag$ P9 8 O (PX RB Q7 O O (by omega)) ag$ qL 9 O (λ_ h=>Pr U3 O O (Qo (cO.ext h) (i:=0) i6)) ag$ SM [10]$ SK 10 O SU O (Qk (h3.ext ag) (j:=3) (k:=x) (by decide)) ?_;rintro _ w5 ⟨rfl,V5,co⟩;refine⟨trivial,?_⟩;have zx:(A.li 3).erase x=A.OY.drop 1:=by show A.OY.erase x=A.OY.drop 1;rw[hw];simp
     rw[zx] at co;have fB:=(h2.r (af.trans ag)).trans co;have dU:=fB.k.OC iA (λe=>n2 _ e O);refine qE$ Pn.qb (e:=[(0,_),(2,_)]) ?_;refine OA ?_;exact(ep _ _ ⟨rfl,_,V5,hA.zic,(z0v A (j:=3) (by decide) _).1,fB,dU,by unfold Arc.add;rw[if_neg hf,if_neg h4,if_pos h5];rfl,fB.k.size⟩).qb
    ·refine Ri O$ PF$ OU O$ Tu O$ OA ?_;exact(ep _ _ ⟨rfl,A,V,hA,rfl,h2.r af,cW,by unfold Arc.add;rw[if_neg hf,if_neg h4,if_neg h5],af.size⟩).qb
end
section
variable {w w' w2:World}{c p:Nat}{A A':Arc}{V V' V2:Nat->Value×Value}{k:Int}
def SR.Zj (h:SR w c A V p){T:Int}(hB:OR w' c (acC A.size T V p) 192)(hk:Kp (λb=>b=c) w w'):Wl w c V p w' {A with target:=T} V:=
 ⟨⟨hB,λj hj=>by
  have e:({A with target:=T}:Arc).li j=A.li j:=by match j,hj with|0,_|1,_|2,_|3,_=>rfl
  rw[e]
  exact(h.q j hj).kp hk λb hb e=>h.nc j hj (e▸hb),hk.map h.pins (λe=>h.cp e.symm),h.VF,h.nc,h.np,h.cp⟩,λb hb=> .inl hb,hk.OV λb e=> .inl e⟩
def Arc.Ok.Zj (h:A.Ok){T:Int}(hT:0<=T/\T<=A.size):({A with target:=T}:Arc).Ok:=⟨h.pos,h.nd,h.held,h.first,h.total,hT⟩
def Wl.mono (h:Wl w c V p w' A' V'){b:Nat}(hb:∀j,SJ c V p j->j≠b)(hw:b<w.heap.size):∀j,SJ c V' p j->j≠b:=λj hj e=>by
 rcases h.fp j hj with h5|h5
 ·exact hb j h5 e
 ·omega
theorem z6N (h:SR w c A V p)(hA:A.Ok)(cG:A.size<=1000):Pm prog 166 [ptr c 0,I k] w λv w'=>v= .tuple #[zdV (A.Rz k).2.1 (A.Rz k).2.2,I 0]/\∃V',Wl w c V p w' (A.Rz k).1 V':=by
 have iK:=hA.lens cG 1
 have f9:=hA.lens cG 2
 have jm:=hA.lens cG 3
 have LO:=hA.tg
 have iv:=hA.pos
 have dV:=A.QZ
 have eX:=hA.total
 have fV:=hA.nd
 unfold Arc.all at fV
 rw[List.nodup_append] at fV
 obtain⟨nd1,nd2,nd3⟩:=fV
 rw[List.nodup_append] at nd2
 obtain⟨nd4,nd5,nd6⟩:=nd2
 have aZ:∀{b:Nat},SJ c V p b->b<w.heap.size:=h.lt
 rw[show A.li 1=A.often from rfl] at iK
 rw[show A.li 2=A.P6 from rfl] at f9
 rw[show A.li 3=A.OY from rfl] at jm
 refine py (e:=[(0,_),(1,_)]) func166 O ntmps166 O O$ qN O$ OM O O (RN (cs:=[_,_,_]) PA O) ?_
 rintro _ w1 ⟨b4,rfl,fC,ad,aK⟩
 replace aK:OR w1 b4 [.bool false,.bool false,I 0] 264:=aK
 have n4:∀b,SJ c V p b->b≠b4:=λb hb e=>by have:=aZ hb;omega
 have l4:=aK.lt
 have h1:=h.ext ad
 have z1:=ad.size
 refine OU O$ PG O$ qV (Qi zci O O)$ PW O$ It$ Qm O$ P4 zeP O (z2m h1 (k:=k)) ?_
 rintro _ w1 ⟨rfl,rfl⟩
 by_cases bE:k∈A.once\/k∈A.often
 ·rw[decide_eq_true bE];refine OD$ OS O$ Pf O$ Pu O$ OX QE O$ OK O$ P4 SU O (Qk h1 (j:=0) (k:=k) (by decide)) ?_;rintro _ w2 ⟨rfl,V2,dw⟩;refine qM O$ OK O$ Pu O$ OX Rt O$ OK O$ P4 SU O (Qk dw.m (j:=1) (k:=k) (by decide)) ?_;rintro _ w3 ⟨rfl,V3,ct⟩;refine qM O$ OK O$ Pu O$ OX Rt O$ OK O ?_
  have vO:k∉((A.Qj 0 ((A.li 0).erase k)).Qj 1 (((A.Qj 0 ((A.li 0).erase k)).li 1).erase k)).li 1:=by
   show k∉A.often.erase k;exact nd4.not_mem_erase
  have j7:(((A.Qj 0 ((A.li 0).erase k)).Qj 1 (((A.Qj 0 ((A.li 0).erase k)).li 1).erase k)).li 1).length<=8191:=by
   show(A.often.erase k).length<=_;have:=(List.length_erase_le:(A.often.erase k).length<=A.often.length);omega
  refine P4 To O (QV ct.m (j:=1) (k:=k) (by decide) vO j7) ?_;rintro _ w4 ⟨rfl,V4,bM⟩;have hr:=(dw.trans ct).trans bM;have cB:=hr.k.OC aK (λe=>n4 _ e O);refine qM O$ qV (Sk (cs:=[_,_,_]) PA O Wb O O)$ OW O (PO (news:=RJ true none) PA O O O O cB (by simp)) ?_;rintro w5 ⟨aN,ak⟩;replace aN:OR w5 b4 [.bool true,.bool false,I 0] 264:=aN;refine OU O$ Pn.qb (e:=[(0,_),(1,_),(4,_),(5,_)]) ?_;refine Po func166 (.cell SI O PA O (OR.cells (n:=3) aN (news:=[_,_,_]) O) O (.tmp O .nil)) ?_;have eX:A.Rz k=({A with once:=A.once.erase k,often:=A.often.erase k++[k]},true,none):=by unfold Arc.Rz;rw[if_pos bE]
  rw[eX];exact⟨_,rfl,rfl,V4,hr.m.kp ak (hr.mono n4 l4),λb hb=>(hr.fp b hb).imp id (λe=>by omega),(ad.kp.trans hr.k).An ak (λj e=> .inl (by omega))⟩
 ·rw [decide_eq_false bE]; have ie : k ∉ A.once := λe => bE (.inl e); have aL : k ∉ A.often := λe => bE (.inr e); have mc : ¬ A.held k := bE; refine OD (OJ O ?_); have f0 := Vr h1 (j := 0) (by decide); have f1 := Vr h1 (j := 1) (by decide); rw [show A.li 0 = A.once from rfl] at f0; rw [show A.li 1 = A.often from rfl] at f1
  obtain⟨v0,o0,e0,q0⟩:∃x o,XP A.once= .tuple #[I x,.bool o]/\(o=true↔A.once≠[]):=by
   cases A.once with
   |nil=>exact⟨_,_,rfl,by simp⟩
   |cons x r=>exact⟨_,_,rfl,by simp⟩
  obtain⟨v1,o1,e1,q1⟩:∃x o,XP A.often= .tuple #[I x,.bool o]/\(o=true↔A.often≠[]):=by
   cases A.often with
   |nil=>exact⟨_,_,rfl,by simp⟩
   |cons x r=>exact⟨_,_,rfl,by simp⟩
  rw[e0] at f0;rw[e1] at f1;refine OE$ Qm O$ Pu O$ OX QE O$ P4 YK O (f0) ?_;rintro _ w1 ⟨rfl,rfl⟩;refine OK O$ qV (Rw (v:=I v0) O O)$ qV (Rw (v:= .bool o0) O O)$ RT O$ Qw O$ P8 O$ Pu O$ OX Rt O$ P4 YK O (f1) ?_;rintro _ w1 ⟨rfl,rfl⟩;refine OK O$ qV (Rw (v:=I v1) O O)$ qV (Rw (v:= .bool o1) O O)$ PU O$ Pn.qb (e:=[(0,_),(1,_),(4,_),(5,_),(7,_),(9,_)]) ?_;refine PG O$ P4 zfr O (z2z h1 hA cG) ?_;rintro _ w2 ⟨rfl,ae⟩;have h2:=h1.ext ae;have bD:=ae.OC aK;have aJ:=ad.trans ae;have z2:=ae.size;have eY:=h2.cells;have aa:=Ext.OT w2;obtain⟨a2,c2,e2,-⟩:∃a c,(V 2).1= .slice a A.P6.length c/\_:=(h.q 2 (by decide)).sl.rd.shape;obtain⟨a3,c3,e3,-⟩:∃a c,(V 3).1= .slice a A.OY.length c/\_:=(h.q 3 (by decide)).sl.rd.shape;rw[e2,e3] at eY;have lC:=Vw h2 (j:=2) (k:=k) (by decide);have qm:=Vw h2 (j:=3) (k:=k) (by decide);rw[show A.li 2=A.P6 from rfl] at lC;rw[show A.li 3=A.OY from rfl] at qm;have n4':∀b,SJ c V p b->b≠b4:=n4;have l42:b4<w2.heap.size:=by omega
  by_cases cm:A.once.length+A.often.length=A.size
  ·rw [decide_eq_true cm]
   cases IB:o0 with
   | true =>
     subst IB;refine P8 O$ qV ((Sb O))$ QJ O$ OK O$ QG$ PK O$ PW O$ Qx$ Pf O$ Pu O$ OX R0 O$ OK O$ P4 XC O (lC) ?_;rintro _ w2 ⟨rfl,rfl⟩;by_cases hg:k∈A.P6
     ·rw[decide_eq_true hg];refine OU O$ OS O$ It ?_;have rQ:0<A.P6.length:=List.length_pos_of_mem hg;obtain⟨q,hq⟩:∃q,A.OY.length / A.P6.length=q:=⟨_,rfl⟩;have fF:q<=2000:=by rw[<-hq];exact Nat.le_trans (Nat.div_le_self _ _) jm
      have mL:(A.OY.length:Int) / (A.P6.length:Int)=(q:Int):=by rw[<-hq];exact(Int.natCast_ediv _ _).symm
      refine P7 [27] (λw'=>Ext w2 w') (by kernel_rfl) O$ PL 0 O O (aa)$ PL 1 O O (aa)$ P9 2 O (Q4 O) aa$ P9 3 O (Pp SE O) aa$ qL 4 O (λ_ h=>OO U3 O O (h.OC eY) O) aa$ PL 5 O O (aa)$ P9 6 O (Q4 O) aa$ P9 7 O (Pp Rj O) aa$ qL 8 O (λ_ h=>OO U3 O O (h.OC eY) O) aa$ PL 9 O O (aa)$ P9 10 O (Q4 O) aa$ P9 11 O (Pp Rk O) aa$ P9 12 O (Pp Qg O) aa ?_;refine qL 13 O (λ_ h=>OO RB O O (h.OC eY) O) aa$ P9 14 O (SF RB O) aa$ PL 15 O O (aa)$ P9 16 O (Q4 O) aa$ P9 17 O (Pp R0 O) aa$ P9 18 O (Pp Qg O) aa$ qL 19 O (λ_ h=>OO RB O O (h.OC eY) O) aa$ P9 20 O (SF RB O) aa$ P9 21 O (VI O O ⟨by omega,by omega,by omega⟩) aa ?_;rw[mL];refine P9 22 O (yma O O) aa$ P9 23 O (Ud O O (by omega)) aa$ P9 24 O (ymi O O) aa$ P9 25 O (Q4 O) aa$ P9 26 O (Pp Rj O) aa$ SM [27]$ qO 27$ PC (i:=27) O O (QQ Q7 O O O (aa.OC eY) (by simp)) ?_;rintro w5 ⟨aH,ak⟩;refine⟨trivial,?_⟩;obtain⟨T,hT⟩:∃T:Int,min (A.size:Int) (A.target+max 1 (q:Int))=T:=⟨_,rfl⟩;have nV:0<=T/\T<=A.size:=by omega
      rw[hT] at aH
      replace aH:OR w5 c (acC A.size T V p) 192:=by
       show OR w5 c [I (A.size:Int),(V 0).1,(V 0).2,(V 1).1,(V 1).2,(V 2).1,(V 2).2,(V 3).1,(V 3).2,I T,.map (some p)] _;rw[e2,e3];exact aH
      have co:=(h2.ext aa).Zj aH ak;have aV:=hA.Zj nV;obtain⟨A5,bJ⟩:∃A5:Arc,{A with target:=T}=A5:=⟨_,rfl⟩;have oF:A5.size=A.size:=by rw[<-bJ]
      have nW:¬A5.held k:=by rw[<-bJ];exact mc
      have rN:k∈A5.P6:=by rw[<-bJ];exact hg
      rw[bJ] at co aV;refine qE$ Pn.qb (e:=[(0,_),(1,_),(4,_),(5,_)]) ?_;refine Pf O$ P4 z1Z O (TF co.m aV (by omega) false) ?_;rintro _ w6 ⟨rfl,V6,cF⟩;have ay:=Arc.Tj aV false;obtain⟨r6,cw⟩:∃r,A5.room false=r:=⟨_,rfl⟩;rw[cw] at cF ay⊢;obtain⟨A6,g6⟩:=r6;dsimp only at cF ay⊢;have fL:=ay.perm.length_eq;have jo:=A6.QZ;have nX:=A5.QZ;have nY:=aV.total;have aB:=((h2.r aa).trans co).trans cF;have cg:=aB.k.OC bD (λe=>n4' _ e O);refine OW O (PO (news:=RJ false g6) PA O O O O cg (by simp)) ?_;rintro w7 ⟨bB,aC⟩;replace bB:OR w7 b4 [.bool false,.bool g6.isSome,I (g6.getD 0)] 264:=bB;have n46:=aB.mono n4' l42;have gG:=aB.m.kp aC n46;refine qM O$ OK O$ Pu O$ OX R0 O$ OK O$ P4 SU O (Qk gG (j:=2) (k:=k) (by decide)) ?_;rintro _ w8 ⟨rfl,V8,fU⟩
      have dL:k∉(A6.Qj 2 ((A6.li 2).erase k)).li 1:=by
       show k∉A6.often;exact λe=>nW ((ay.gone k).1 (.inr e)).1
      refine OD$ Rh O$ Pu O$ OX Rt O$ OK O$ P4 To O (QV fU.m (j:=1) (k:=k) (by decide) dL (by show A6.often.length<=_;omega)) ?_;rintro _ w9 ⟨rfl,V9,i9⟩;have bj:=fU.trans i9;have cf:=bj.k.OC bB (λe=>n46 _ e O);have er:=cf
      have cx:∀b,SJ c V9 p b->SJ c V p b\/w2.heap.size<=b:=λb hb=>by
       rcases bj.fp b hb with h5|h5
       ·exact aB.fp b h5
       ·have:=aB.k.size;have:=aC.size;exact .inr (by omega)
      have aM:Kp (λj=>SJ c V p j\/j=b4) w2 w9:=((aB.k.OV λj e=> .inl e).trans (aC.OV λj e=> .inr e)).An bj.k (λj e=>by
       rcases aB.fp j e with h5|h5
       ·exact .inr (.inl h5)
       ·exact .inl h5)
      refine OD$ OA$ qN O$ qV (Pt (news:=RJ false g6) SI O PA O (OR.cells (n:=3) er O) O)$ OW O (PO (news:=RJ false g6) PA O O O O er (by simp)) ?_;rintro we ⟨db,dp⟩;replace db:OR we b4 [.bool false,.bool g6.isSome,I (g6.getD 0)] 264:=db;refine OU O$ Po func166 (.cell SI O PA O (OR.cells (n:=3) db (news:=[_,_,_]) O) O (.tmp O .nil)) ?_
      have n49:∀b,SJ c V9 p b->b≠b4:=λb hb e=>by
       rcases cx b hb with h5|h5
       ·exact n4' b h5 e
       ·omega
      have eX:A.Rz k=({A6 with P6:=A6.P6.erase k,often:=A6.often++[k]},false,g6):=by
       unfold Arc.Rz;rw[if_neg bE,if_pos hg];dsimp only;rw[hq,hT,bJ,cw]
      rw[eX]
      exact⟨_,rfl,rfl,V9,bj.m.kp dp n49,λb hb=>(cx b hb).imp id (λe=>by omega),(aJ.kp.An aM (λj e=>by
       rcases e with e| e
       ·exact .inr e
       ·exact .inl (by omega))).An dp (λj e=> .inl (by omega))⟩
     ·have rR:=hg;rw[decide_eq_false hg];refine OU O$ OJ O$ Pf O$ Pu O$ OX Rk O$ OK O$ P4 XC O (qm) ?_;rintro _ w2 ⟨rfl,rfl⟩;by_cases hg:k∈A.OY
      ·rw[decide_eq_true hg];refine OU O$ Pn.qb (e:=[(0,_),(1,_),(4,_),(5,_),(111,_)]) ?_;refine OS O$ It ?_;have rQ:0<A.OY.length:=List.length_pos_of_mem hg;obtain⟨q,hq⟩:∃q,A.P6.length / A.OY.length=q:=⟨_,rfl⟩;have fF:q<=2000:=by rw[<-hq];exact Nat.le_trans (Nat.div_le_self _ _) f9
       have mL:(A.P6.length:Int) / (A.OY.length:Int)=(q:Int):=by rw[<-hq];exact(Int.natCast_ediv _ _).symm
       refine P7 [23] (λw'=>Ext w2 w') (by kernel_rfl) O$ PL 0 O O (aa)$ PL 1 O O (aa)$ P9 2 O (Q4 O) aa$ P9 3 O (Pp Rj O) aa$ qL 4 O (λ_ h=>OO U3 O O (h.OC eY) O) aa$ PL 5 O O (aa)$ P9 6 O (Q4 O) aa$ P9 7 O (Pp R0 O) aa$ P9 8 O (Pp Qg O) aa$ qL 9 O (λ_ h=>OO RB O O (h.OC eY) O) aa$ P9 10 O (SF RB O) aa$ PL 11 O O (aa)$ P9 12 O (Q4 O) aa ?_;refine P9 13 O (Pp Rk O) aa$ P9 14 O (Pp Qg O) aa$ qL 15 O (λ_ h=>OO RB O O (h.OC eY) O) aa$ P9 16 O (SF RB O) aa$ P9 17 O (VI O O ⟨by omega,by omega,by omega⟩) aa ?_;rw[mL];refine P9 18 O (yma O O) aa$ P9 19 O (XH O O (by omega)) aa$ P9 20 O (yma O O) aa$ P9 21 O (Q4 O) aa$ P9 22 O (Pp Rj O) aa$ SM [23]$ qO 23$ PC (i:=23) O O (QQ Q7 O O O (aa.OC eY) (by simp)) ?_;rintro w5 ⟨aH,ak⟩;refine⟨trivial,?_⟩;obtain⟨T,hT⟩:∃T:Int,max 0 (A.target-max 1 (q:Int))=T:=⟨_,rfl⟩;have nV:0<=T/\T<=A.size:=by omega
       rw[hT] at aH
       replace aH:OR w5 c (acC A.size T V p) 192:=by
        show OR w5 c [I (A.size:Int),(V 0).1,(V 0).2,(V 1).1,(V 1).2,(V 2).1,(V 2).2,(V 3).1,(V 3).2,I T,.map (some p)] _;rw[e2,e3];exact aH
       have co:=(h2.ext aa).Zj aH ak;have aV:=hA.Zj nV;obtain⟨A5,bJ⟩:∃A5:Arc,{A with target:=T}=A5:=⟨_,rfl⟩;have oF:A5.size=A.size:=by rw[<-bJ]
       have nW:¬A5.held k:=by rw[<-bJ];exact mc
       have rN:k∈A5.OY:=by rw[<-bJ];exact hg
       rw[bJ] at co aV;refine qE$ Pn.qb (e:=[(0,_),(1,_),(4,_),(5,_)]) ?_;refine Pf O$ P4 z1Z O (TF co.m aV (by omega) true) ?_;rintro _ w6 ⟨rfl,V6,cF⟩;have ay:=Arc.Tj aV true;obtain⟨r6,cw⟩:∃r,A5.room true=r:=⟨_,rfl⟩;rw[cw] at cF ay⊢;obtain⟨A6,g6⟩:=r6;dsimp only at cF ay⊢;have fL:=ay.perm.length_eq;have jo:=A6.QZ;have nX:=A5.QZ;have nY:=aV.total;have aB:=((h2.r aa).trans co).trans cF;have cg:=aB.k.OC bD (λe=>n4' _ e O);refine OW O (PO (news:=RJ false g6) PA O O O O cg (by simp)) ?_;rintro w7 ⟨bB,aC⟩;replace bB:OR w7 b4 [.bool false,.bool g6.isSome,I (g6.getD 0)] 264:=bB;have n46:=aB.mono n4' l42;have gG:=aB.m.kp aC n46;refine qM O$ OK O$ Pu O$ OX Rk O$ OK O$ P4 SU O (Qk gG (j:=3) (k:=k) (by decide)) ?_;rintro _ w8 ⟨rfl,V8,fU⟩
       have dL:k∉(A6.Qj 3 ((A6.li 3).erase k)).li 1:=by
        show k∉A6.often;exact λe=>nW ((ay.gone k).1 (.inr e)).1
       refine OD$ Rh O$ Pu O$ OX Rt O$ OK O$ P4 To O (QV fU.m (j:=1) (k:=k) (by decide) dL (by show A6.often.length<=_;omega)) ?_;rintro _ w9 ⟨rfl,V9,i9⟩;have bj:=fU.trans i9;have cf:=bj.k.OC bB (λe=>n46 _ e O);have er:=cf
       have cx:∀b,SJ c V9 p b->SJ c V p b\/w2.heap.size<=b:=λb hb=>by
        rcases bj.fp b hb with h5|h5
        ·exact aB.fp b h5
        ·have:=aB.k.size;have:=aC.size;exact .inr (by omega)
       have aM:Kp (λj=>SJ c V p j\/j=b4) w2 w9:=((aB.k.OV λj e=> .inl e).trans (aC.OV λj e=> .inr e)).An bj.k (λj e=>by
        rcases aB.fp j e with h5|h5
        ·exact .inr (.inl h5)
        ·exact .inl h5)
       refine OD$ OA$ qN O$ qV (Pt (news:=RJ false g6) SI O PA O (OR.cells (n:=3) er O) O)$ OW O (PO (news:=RJ false g6) PA O O O O er (by simp)) ?_;rintro we ⟨db,dp⟩;replace db:OR we b4 [.bool false,.bool g6.isSome,I (g6.getD 0)] 264:=db;refine OU O$ Po func166 (.cell SI O PA O (OR.cells (n:=3) db (news:=[_,_,_]) O) O (.tmp O .nil)) ?_
       have n49:∀b,SJ c V9 p b->b≠b4:=λb hb e=>by
        rcases cx b hb with h5|h5
        ·exact n4' b h5 e
        ·omega
       have eX:A.Rz k=({A6 with OY:=A6.OY.erase k,often:=A6.often++[k]},false,g6):=by
        unfold Arc.Rz;rw[if_neg bE,if_neg rR,if_pos hg];dsimp only;rw[hq,hT,bJ,cw]
       rw[eX]
       exact⟨_,rfl,rfl,V9,bj.m.kp dp n49,λb hb=>(cx b hb).imp id (λe=>by omega),(aJ.kp.An aM (λj e=>by
        rcases e with e| e
        ·exact .inr e
        ·exact .inl (by omega))).An dp (λj e=> .inl (by omega))⟩
      ·rw[decide_eq_false hg];refine OU O$ Pn.qb (e:=[(0,_),(1,_),(4,_),(5,_),(111,_)]) ?_;refine OJ O$ Pf O$ P4 zbN O (z0V h2 hA cG) ?_;rintro _ w6 ⟨rfl,V6,cF⟩;have dK:=Arc.z3O hA;obtain⟨r6,cw⟩:∃r,A.add=r:=⟨_,rfl⟩;rw[cw] at cF dK⊢;obtain⟨A6,g6⟩:=r6;dsimp only at cF dK⊢;obtain⟨fI,-,-⟩:=dK;have jo:=A6.QZ;have aB:=cF;have cg:=aB.k.OC bD (λe=>n4' _ e O);refine OW O (PO (news:=RJ false g6) PA O O O O cg (by simp)) ?_;rintro w7 ⟨bB,aC⟩;replace bB:OR w7 b4 [.bool false,.bool g6.isSome,I (g6.getD 0)] 264:=bB;have n46:=aB.mono n4' l42;have gG:=aB.m.kp aC n46
       have dL:k∉A6.li 0:=by
        show k∉A6.once;exact λe=>mc ((fI.gone k).1 (.inl e)).1
       have oT:=fI.Z1;refine OD$ Rh O$ Pu O$ OX QE O$ OK O$ P4 To O (QV gG (j:=0) (k:=k) (by decide) dL (by show A6.once.length<=_;omega)) ?_;rintro _ w9 ⟨rfl,V9,i9⟩;have bj:=i9;have cf:=bj.k.OC bB (λe=>n46 _ e O);have er:=cf
       have cx:∀b,SJ c V9 p b->SJ c V p b\/w2.heap.size<=b:=λb hb=>by
        rcases bj.fp b hb with h5|h5
        ·exact aB.fp b h5
        ·have:=aB.k.size;have:=aC.size;exact .inr (by omega)
       have aM:Kp (λj=>SJ c V p j\/j=b4) w2 w9:=((aB.k.OV λj e=> .inl e).trans (aC.OV λj e=> .inr e)).An bj.k (λj e=>by
        rcases aB.fp j e with h5|h5
        ·exact .inr (.inl h5)
        ·exact .inl h5)
       refine OD$ OA$ qN O$ qV (Pt (news:=RJ false g6) SI O PA O (OR.cells (n:=3) er O) O)$ OW O (PO (news:=RJ false g6) PA O O O O er (by simp)) ?_;rintro we ⟨db,dp⟩;replace db:OR we b4 [.bool false,.bool g6.isSome,I (g6.getD 0)] 264:=db;refine OU O$ Po func166 (.cell SI O PA O (OR.cells (n:=3) db (news:=[_,_,_]) O) O (.tmp O .nil)) ?_
       have n49:∀b,SJ c V9 p b->b≠b4:=λb hb e=>by
        rcases cx b hb with h5|h5
        ·exact n4' b h5 e
        ·omega
       have eX:A.Rz k=({A6 with once:=A6.once++[k]},false,g6):=by
        unfold Arc.Rz;rw[if_neg bE,if_neg rR,if_neg hg];dsimp only;rw[cw]
       rw[eX]
       exact⟨_,rfl,rfl,V9,bj.m.kp dp n49,λb hb=>(cx b hb).imp id (λe=>by omega),(aJ.kp.An aM (λj e=>by
        rcases e with e| e
        ·exact .inr e
        ·exact .inl (by omega))).An dp (λj e=> .inl (by omega))⟩
   | false =>
     subst IB
     have zu:o1=true:=by
      have e:A.once=[]:=Classical.not_not.1 λe=>by have:=q0.2 e;cases this
      rw[e] at cm;exact q1.2 λe=>by rw[e] at cm;simp at cm;omega
     subst zu;refine P8 O$ qV ((Sb O))$ QJ O$ P8 O$ qV ((Sb O))$ QJ O$ PW O$ Qx$ Pf O$ Pu O$ OX R0 O$ OK O$ P4 XC O (lC) ?_;rintro _ w2 ⟨rfl,rfl⟩;by_cases hg:k∈A.P6
     ·rw[decide_eq_true hg];refine OU O$ OS O$ It ?_;have rQ:0<A.P6.length:=List.length_pos_of_mem hg;obtain⟨q,hq⟩:∃q,A.OY.length / A.P6.length=q:=⟨_,rfl⟩;have fF:q<=2000:=by rw[<-hq];exact Nat.le_trans (Nat.div_le_self _ _) jm
      have mL:(A.OY.length:Int) / (A.P6.length:Int)=(q:Int):=by rw[<-hq];exact(Int.natCast_ediv _ _).symm
      refine P7 [27] (λw'=>Ext w2 w') (by kernel_rfl) O$ PL 0 O O (aa)$ PL 1 O O (aa)$ P9 2 O (Q4 O) aa$ P9 3 O (Pp SE O) aa$ qL 4 O (λ_ h=>OO U3 O O (h.OC eY) O) aa$ PL 5 O O (aa)$ P9 6 O (Q4 O) aa$ P9 7 O (Pp Rj O) aa$ qL 8 O (λ_ h=>OO U3 O O (h.OC eY) O) aa$ PL 9 O O (aa)$ P9 10 O (Q4 O) aa$ P9 11 O (Pp Rk O) aa$ P9 12 O (Pp Qg O) aa ?_;refine qL 13 O (λ_ h=>OO RB O O (h.OC eY) O) aa$ P9 14 O (SF RB O) aa$ PL 15 O O (aa)$ P9 16 O (Q4 O) aa$ P9 17 O (Pp R0 O) aa$ P9 18 O (Pp Qg O) aa$ qL 19 O (λ_ h=>OO RB O O (h.OC eY) O) aa$ P9 20 O (SF RB O) aa$ P9 21 O (VI O O ⟨by omega,by omega,by omega⟩) aa ?_;rw[mL];refine P9 22 O (yma O O) aa$ P9 23 O (Ud O O (by omega)) aa$ P9 24 O (ymi O O) aa$ P9 25 O (Q4 O) aa$ P9 26 O (Pp Rj O) aa$ SM [27]$ qO 27$ PC (i:=27) O O (QQ Q7 O O O (aa.OC eY) (by simp)) ?_;rintro w5 ⟨aH,ak⟩;refine⟨trivial,?_⟩;obtain⟨T,hT⟩:∃T:Int,min (A.size:Int) (A.target+max 1 (q:Int))=T:=⟨_,rfl⟩;have nV:0<=T/\T<=A.size:=by omega
      rw[hT] at aH
      replace aH:OR w5 c (acC A.size T V p) 192:=by
       show OR w5 c [I (A.size:Int),(V 0).1,(V 0).2,(V 1).1,(V 1).2,(V 2).1,(V 2).2,(V 3).1,(V 3).2,I T,.map (some p)] _;rw[e2,e3];exact aH
      have co:=(h2.ext aa).Zj aH ak;have aV:=hA.Zj nV;obtain⟨A5,bJ⟩:∃A5:Arc,{A with target:=T}=A5:=⟨_,rfl⟩;have oF:A5.size=A.size:=by rw[<-bJ]
      have nW:¬A5.held k:=by rw[<-bJ];exact mc
      have rN:k∈A5.P6:=by rw[<-bJ];exact hg
      rw[bJ] at co aV;refine qE$ Pn.qb (e:=[(0,_),(1,_),(4,_),(5,_)]) ?_;refine Pf O$ P4 z1Z O (TF co.m aV (by omega) false) ?_;rintro _ w6 ⟨rfl,V6,cF⟩;have ay:=Arc.Tj aV false;obtain⟨r6,cw⟩:∃r,A5.room false=r:=⟨_,rfl⟩;rw[cw] at cF ay⊢;obtain⟨A6,g6⟩:=r6;dsimp only at cF ay⊢;have fL:=ay.perm.length_eq;have jo:=A6.QZ;have nX:=A5.QZ;have nY:=aV.total;have aB:=((h2.r aa).trans co).trans cF;have cg:=aB.k.OC bD (λe=>n4' _ e O);refine OW O (PO (news:=RJ false g6) PA O O O O cg (by simp)) ?_;rintro w7 ⟨bB,aC⟩;replace bB:OR w7 b4 [.bool false,.bool g6.isSome,I (g6.getD 0)] 264:=bB;have n46:=aB.mono n4' l42;have gG:=aB.m.kp aC n46;refine qM O$ OK O$ Pu O$ OX R0 O$ OK O$ P4 SU O (Qk gG (j:=2) (k:=k) (by decide)) ?_;rintro _ w8 ⟨rfl,V8,fU⟩
      have dL:k∉(A6.Qj 2 ((A6.li 2).erase k)).li 1:=by
       show k∉A6.often;exact λe=>nW ((ay.gone k).1 (.inr e)).1
      refine OD$ Rh O$ Pu O$ OX Rt O$ OK O$ P4 To O (QV fU.m (j:=1) (k:=k) (by decide) dL (by show A6.often.length<=_;omega)) ?_;rintro _ w9 ⟨rfl,V9,i9⟩;have bj:=fU.trans i9;have cf:=bj.k.OC bB (λe=>n46 _ e O);have er:=cf
      have cx:∀b,SJ c V9 p b->SJ c V p b\/w2.heap.size<=b:=λb hb=>by
       rcases bj.fp b hb with h5|h5
       ·exact aB.fp b h5
       ·have:=aB.k.size;have:=aC.size;exact .inr (by omega)
      have aM:Kp (λj=>SJ c V p j\/j=b4) w2 w9:=((aB.k.OV λj e=> .inl e).trans (aC.OV λj e=> .inr e)).An bj.k (λj e=>by
       rcases aB.fp j e with h5|h5
       ·exact .inr (.inl h5)
       ·exact .inl h5)
      refine OD$ OA$ qN O$ qV (Pt (news:=RJ false g6) SI O PA O (OR.cells (n:=3) er O) O)$ OW O (PO (news:=RJ false g6) PA O O O O er (by simp)) ?_;rintro we ⟨db,dp⟩;replace db:OR we b4 [.bool false,.bool g6.isSome,I (g6.getD 0)] 264:=db;refine OU O$ Po func166 (.cell SI O PA O (OR.cells (n:=3) db (news:=[_,_,_]) O) O (.tmp O .nil)) ?_
      have n49:∀b,SJ c V9 p b->b≠b4:=λb hb e=>by
       rcases cx b hb with h5|h5
       ·exact n4' b h5 e
       ·omega
      have eX:A.Rz k=({A6 with P6:=A6.P6.erase k,often:=A6.often++[k]},false,g6):=by
       unfold Arc.Rz;rw[if_neg bE,if_pos hg];dsimp only;rw[hq,hT,bJ,cw]
      rw[eX]
      exact⟨_,rfl,rfl,V9,bj.m.kp dp n49,λb hb=>(cx b hb).imp id (λe=>by omega),(aJ.kp.An aM (λj e=>by
       rcases e with e| e
       ·exact .inr e
       ·exact .inl (by omega))).An dp (λj e=> .inl (by omega))⟩
     ·have rR:=hg;rw[decide_eq_false hg];refine OU O$ OJ O$ Pf O$ Pu O$ OX Rk O$ OK O$ P4 XC O (qm) ?_;rintro _ w2 ⟨rfl,rfl⟩;by_cases hg:k∈A.OY
      ·rw[decide_eq_true hg];refine OU O$ Pn.qb (e:=[(0,_),(1,_),(4,_),(5,_),(111,_)]) ?_;refine OS O$ It ?_;have rQ:0<A.OY.length:=List.length_pos_of_mem hg;obtain⟨q,hq⟩:∃q,A.P6.length / A.OY.length=q:=⟨_,rfl⟩;have fF:q<=2000:=by rw[<-hq];exact Nat.le_trans (Nat.div_le_self _ _) f9
       have mL:(A.P6.length:Int) / (A.OY.length:Int)=(q:Int):=by rw[<-hq];exact(Int.natCast_ediv _ _).symm
       refine P7 [23] (λw'=>Ext w2 w') (by kernel_rfl) O$ PL 0 O O (aa)$ PL 1 O O (aa)$ P9 2 O (Q4 O) aa$ P9 3 O (Pp Rj O) aa$ qL 4 O (λ_ h=>OO U3 O O (h.OC eY) O) aa$ PL 5 O O (aa)$ P9 6 O (Q4 O) aa$ P9 7 O (Pp R0 O) aa$ P9 8 O (Pp Qg O) aa$ qL 9 O (λ_ h=>OO RB O O (h.OC eY) O) aa$ P9 10 O (SF RB O) aa$ PL 11 O O (aa)$ P9 12 O (Q4 O) aa ?_;refine P9 13 O (Pp Rk O) aa$ P9 14 O (Pp Qg O) aa$ qL 15 O (λ_ h=>OO RB O O (h.OC eY) O) aa$ P9 16 O (SF RB O) aa$ P9 17 O (VI O O ⟨by omega,by omega,by omega⟩) aa ?_;rw[mL];refine P9 18 O (yma O O) aa$ P9 19 O (XH O O (by omega)) aa$ P9 20 O (yma O O) aa$ P9 21 O (Q4 O) aa$ P9 22 O (Pp Rj O) aa$ SM [23]$ qO 23$ PC (i:=23) O O (QQ Q7 O O O (aa.OC eY) (by simp)) ?_;rintro w5 ⟨aH,ak⟩;refine⟨trivial,?_⟩;obtain⟨T,hT⟩:∃T:Int,max 0 (A.target-max 1 (q:Int))=T:=⟨_,rfl⟩;have nV:0<=T/\T<=A.size:=by omega
       rw[hT] at aH
       replace aH:OR w5 c (acC A.size T V p) 192:=by
        show OR w5 c [I (A.size:Int),(V 0).1,(V 0).2,(V 1).1,(V 1).2,(V 2).1,(V 2).2,(V 3).1,(V 3).2,I T,.map (some p)] _;rw[e2,e3];exact aH
       have co:=(h2.ext aa).Zj aH ak;have aV:=hA.Zj nV;obtain⟨A5,bJ⟩:∃A5:Arc,{A with target:=T}=A5:=⟨_,rfl⟩;have oF:A5.size=A.size:=by rw[<-bJ]
       have nW:¬A5.held k:=by rw[<-bJ];exact mc
       have rN:k∈A5.OY:=by rw[<-bJ];exact hg
       rw[bJ] at co aV;refine qE$ Pn.qb (e:=[(0,_),(1,_),(4,_),(5,_)]) ?_;refine Pf O$ P4 z1Z O (TF co.m aV (by omega) true) ?_;rintro _ w6 ⟨rfl,V6,cF⟩;have ay:=Arc.Tj aV true;obtain⟨r6,cw⟩:∃r,A5.room true=r:=⟨_,rfl⟩;rw[cw] at cF ay⊢;obtain⟨A6,g6⟩:=r6;dsimp only at cF ay⊢;have fL:=ay.perm.length_eq;have jo:=A6.QZ;have nX:=A5.QZ;have nY:=aV.total;have aB:=((h2.r aa).trans co).trans cF;have cg:=aB.k.OC bD (λe=>n4' _ e O);refine OW O (PO (news:=RJ false g6) PA O O O O cg (by simp)) ?_;rintro w7 ⟨bB,aC⟩;replace bB:OR w7 b4 [.bool false,.bool g6.isSome,I (g6.getD 0)] 264:=bB;have n46:=aB.mono n4' l42;have gG:=aB.m.kp aC n46;refine qM O$ OK O$ Pu O$ OX Rk O$ OK O$ P4 SU O (Qk gG (j:=3) (k:=k) (by decide)) ?_;rintro _ w8 ⟨rfl,V8,fU⟩
       have dL:k∉(A6.Qj 3 ((A6.li 3).erase k)).li 1:=by
        show k∉A6.often;exact λe=>nW ((ay.gone k).1 (.inr e)).1
       refine OD$ Rh O$ Pu O$ OX Rt O$ OK O$ P4 To O (QV fU.m (j:=1) (k:=k) (by decide) dL (by show A6.often.length<=_;omega)) ?_;rintro _ w9 ⟨rfl,V9,i9⟩;have bj:=fU.trans i9;have cf:=bj.k.OC bB (λe=>n46 _ e O);have er:=cf
       have cx:∀b,SJ c V9 p b->SJ c V p b\/w2.heap.size<=b:=λb hb=>by
        rcases bj.fp b hb with h5|h5
        ·exact aB.fp b h5
        ·have:=aB.k.size;have:=aC.size;exact .inr (by omega)
       have aM:Kp (λj=>SJ c V p j\/j=b4) w2 w9:=((aB.k.OV λj e=> .inl e).trans (aC.OV λj e=> .inr e)).An bj.k (λj e=>by
        rcases aB.fp j e with h5|h5
        ·exact .inr (.inl h5)
        ·exact .inl h5)
       refine OD$ OA$ qN O$ qV (Pt (news:=RJ false g6) SI O PA O (OR.cells (n:=3) er O) O)$ OW O (PO (news:=RJ false g6) PA O O O O er (by simp)) ?_;rintro we ⟨db,dp⟩;replace db:OR we b4 [.bool false,.bool g6.isSome,I (g6.getD 0)] 264:=db;refine OU O$ Po func166 (.cell SI O PA O (OR.cells (n:=3) db (news:=[_,_,_]) O) O (.tmp O .nil)) ?_
       have n49:∀b,SJ c V9 p b->b≠b4:=λb hb e=>by
        rcases cx b hb with h5|h5
        ·exact n4' b h5 e
        ·omega
       have eX:A.Rz k=({A6 with OY:=A6.OY.erase k,often:=A6.often++[k]},false,g6):=by
        unfold Arc.Rz;rw[if_neg bE,if_neg rR,if_pos hg];dsimp only;rw[hq,hT,bJ,cw]
       rw[eX]
       exact⟨_,rfl,rfl,V9,bj.m.kp dp n49,λb hb=>(cx b hb).imp id (λe=>by omega),(aJ.kp.An aM (λj e=>by
        rcases e with e| e
        ·exact .inr e
        ·exact .inl (by omega))).An dp (λj e=> .inl (by omega))⟩
      ·rw[decide_eq_false hg];refine OU O$ Pn.qb (e:=[(0,_),(1,_),(4,_),(5,_),(111,_)]) ?_;refine OJ O$ Pf O$ P4 zbN O (z0V h2 hA cG) ?_;rintro _ w6 ⟨rfl,V6,cF⟩;have dK:=Arc.z3O hA;obtain⟨r6,cw⟩:∃r,A.add=r:=⟨_,rfl⟩;rw[cw] at cF dK⊢;obtain⟨A6,g6⟩:=r6;dsimp only at cF dK⊢;obtain⟨fI,-,-⟩:=dK;have jo:=A6.QZ;have aB:=cF;have cg:=aB.k.OC bD (λe=>n4' _ e O);refine OW O (PO (news:=RJ false g6) PA O O O O cg (by simp)) ?_;rintro w7 ⟨bB,aC⟩;replace bB:OR w7 b4 [.bool false,.bool g6.isSome,I (g6.getD 0)] 264:=bB;have n46:=aB.mono n4' l42;have gG:=aB.m.kp aC n46
       have dL:k∉A6.li 0:=by
        show k∉A6.once;exact λe=>mc ((fI.gone k).1 (.inl e)).1
       have oT:=fI.Z1;refine OD$ Rh O$ Pu O$ OX QE O$ OK O$ P4 To O (QV gG (j:=0) (k:=k) (by decide) dL (by show A6.once.length<=_;omega)) ?_;rintro _ w9 ⟨rfl,V9,i9⟩;have bj:=i9;have cf:=bj.k.OC bB (λe=>n46 _ e O);have er:=cf
       have cx:∀b,SJ c V9 p b->SJ c V p b\/w2.heap.size<=b:=λb hb=>by
        rcases bj.fp b hb with h5|h5
        ·exact aB.fp b h5
        ·have:=aB.k.size;have:=aC.size;exact .inr (by omega)
       have aM:Kp (λj=>SJ c V p j\/j=b4) w2 w9:=((aB.k.OV λj e=> .inl e).trans (aC.OV λj e=> .inr e)).An bj.k (λj e=>by
        rcases aB.fp j e with h5|h5
        ·exact .inr (.inl h5)
        ·exact .inl h5)
       refine OD$ OA$ qN O$ qV (Pt (news:=RJ false g6) SI O PA O (OR.cells (n:=3) er O) O)$ OW O (PO (news:=RJ false g6) PA O O O O er (by simp)) ?_;rintro we ⟨db,dp⟩;replace db:OR we b4 [.bool false,.bool g6.isSome,I (g6.getD 0)] 264:=db;refine OU O$ Po func166 (.cell SI O PA O (OR.cells (n:=3) db (news:=[_,_,_]) O) O (.tmp O .nil)) ?_
       have n49:∀b,SJ c V9 p b->b≠b4:=λb hb e=>by
        rcases cx b hb with h5|h5
        ·exact n4' b h5 e
        ·omega
       have eX:A.Rz k=({A6 with once:=A6.once++[k]},false,g6):=by
        unfold Arc.Rz;rw[if_neg bE,if_neg rR,if_neg hg];dsimp only;rw[cw]
       rw[eX]
       exact⟨_,rfl,rfl,V9,bj.m.kp dp n49,λb hb=>(cx b hb).imp id (λe=>by omega),(aJ.kp.An aM (λj e=>by
        rcases e with e| e
        ·exact .inr e
        ·exact .inl (by omega))).An dp (λj e=> .inl (by omega))⟩
  ·rw [decide_eq_false cm]; refine OK O (QG (PK O (OK O (QG (PK O (PW O (Qx (Pf O (Pu O (OX R0 O (OK O (P4 XC O (lC) ?_)))))))))))); rintro _ w2 ⟨rfl, rfl⟩; by_cases hg : k ∈ A.P6
   ·rw[decide_eq_true hg];refine OU O$ OS O$ It ?_;have rQ:0<A.P6.length:=List.length_pos_of_mem hg;obtain⟨q,hq⟩:∃q,A.OY.length / A.P6.length=q:=⟨_,rfl⟩;have fF:q<=2000:=by rw[<-hq];exact Nat.le_trans (Nat.div_le_self _ _) jm
    have mL:(A.OY.length:Int) / (A.P6.length:Int)=(q:Int):=by rw[<-hq];exact(Int.natCast_ediv _ _).symm
    refine P7 [27] (λw'=>Ext w2 w') (by kernel_rfl) O$ PL 0 O O (aa)$ PL 1 O O (aa)$ P9 2 O (Q4 O) aa$ P9 3 O (Pp SE O) aa$ qL 4 O (λ_ h=>OO U3 O O (h.OC eY) O) aa$ PL 5 O O (aa)$ P9 6 O (Q4 O) aa$ P9 7 O (Pp Rj O) aa$ qL 8 O (λ_ h=>OO U3 O O (h.OC eY) O) aa$ PL 9 O O (aa)$ P9 10 O (Q4 O) aa$ P9 11 O (Pp Rk O) aa$ P9 12 O (Pp Qg O) aa ?_;refine qL 13 O (λ_ h=>OO RB O O (h.OC eY) O) aa$ P9 14 O (SF RB O) aa$ PL 15 O O (aa)$ P9 16 O (Q4 O) aa$ P9 17 O (Pp R0 O) aa$ P9 18 O (Pp Qg O) aa$ qL 19 O (λ_ h=>OO RB O O (h.OC eY) O) aa$ P9 20 O (SF RB O) aa$ P9 21 O (VI O O ⟨by omega,by omega,by omega⟩) aa ?_;rw[mL];refine P9 22 O (yma O O) aa$ P9 23 O (Ud O O (by omega)) aa$ P9 24 O (ymi O O) aa$ P9 25 O (Q4 O) aa$ P9 26 O (Pp Rj O) aa$ SM [27]$ qO 27$ PC (i:=27) O O (QQ Q7 O O O (aa.OC eY) (by simp)) ?_;rintro w5 ⟨aH,ak⟩;refine⟨trivial,?_⟩;obtain⟨T,hT⟩:∃T:Int,min (A.size:Int) (A.target+max 1 (q:Int))=T:=⟨_,rfl⟩;have nV:0<=T/\T<=A.size:=by omega
    rw[hT] at aH
    replace aH:OR w5 c (acC A.size T V p) 192:=by
     show OR w5 c [I (A.size:Int),(V 0).1,(V 0).2,(V 1).1,(V 1).2,(V 2).1,(V 2).2,(V 3).1,(V 3).2,I T,.map (some p)] _;rw[e2,e3];exact aH
    have co:=(h2.ext aa).Zj aH ak;have aV:=hA.Zj nV;obtain⟨A5,bJ⟩:∃A5:Arc,{A with target:=T}=A5:=⟨_,rfl⟩;have oF:A5.size=A.size:=by rw[<-bJ]
    have nW:¬A5.held k:=by rw[<-bJ];exact mc
    have rN:k∈A5.P6:=by rw[<-bJ];exact hg
    rw[bJ] at co aV;refine qE$ Pn.qb (e:=[(0,_),(1,_),(4,_),(5,_)]) ?_;refine Pf O$ P4 z1Z O (TF co.m aV (by omega) false) ?_;rintro _ w6 ⟨rfl,V6,cF⟩;have ay:=Arc.Tj aV false;obtain⟨r6,cw⟩:∃r,A5.room false=r:=⟨_,rfl⟩;rw[cw] at cF ay⊢;obtain⟨A6,g6⟩:=r6;dsimp only at cF ay⊢;have fL:=ay.perm.length_eq;have jo:=A6.QZ;have nX:=A5.QZ;have nY:=aV.total;have aB:=((h2.r aa).trans co).trans cF;have cg:=aB.k.OC bD (λe=>n4' _ e O);refine OW O (PO (news:=RJ false g6) PA O O O O cg (by simp)) ?_;rintro w7 ⟨bB,aC⟩;replace bB:OR w7 b4 [.bool false,.bool g6.isSome,I (g6.getD 0)] 264:=bB;have n46:=aB.mono n4' l42;have gG:=aB.m.kp aC n46;refine qM O$ OK O$ Pu O$ OX R0 O$ OK O$ P4 SU O (Qk gG (j:=2) (k:=k) (by decide)) ?_;rintro _ w8 ⟨rfl,V8,fU⟩
    have dL:k∉(A6.Qj 2 ((A6.li 2).erase k)).li 1:=by
     show k∉A6.often;exact λe=>nW ((ay.gone k).1 (.inr e)).1
    refine OD$ Rh O$ Pu O$ OX Rt O$ OK O$ P4 To O (QV fU.m (j:=1) (k:=k) (by decide) dL (by show A6.often.length<=_;omega)) ?_;rintro _ w9 ⟨rfl,V9,i9⟩;have bj:=fU.trans i9;have cf:=bj.k.OC bB (λe=>n46 _ e O);have er:=cf
    have cx:∀b,SJ c V9 p b->SJ c V p b\/w2.heap.size<=b:=λb hb=>by
     rcases bj.fp b hb with h5|h5
     ·exact aB.fp b h5
     ·have:=aB.k.size;have:=aC.size;exact .inr (by omega)
    have aM:Kp (λj=>SJ c V p j\/j=b4) w2 w9:=((aB.k.OV λj e=> .inl e).trans (aC.OV λj e=> .inr e)).An bj.k (λj e=>by
     rcases aB.fp j e with h5|h5
     ·exact .inr (.inl h5)
     ·exact .inl h5)
    refine OD$ OA$ qN O$ qV (Pt (news:=RJ false g6) SI O PA O (OR.cells (n:=3) er O) O)$ OW O (PO (news:=RJ false g6) PA O O O O er (by simp)) ?_;rintro we ⟨db,dp⟩;replace db:OR we b4 [.bool false,.bool g6.isSome,I (g6.getD 0)] 264:=db;refine OU O$ Po func166 (.cell SI O PA O (OR.cells (n:=3) db (news:=[_,_,_]) O) O (.tmp O .nil)) ?_
    have n49:∀b,SJ c V9 p b->b≠b4:=λb hb e=>by
     rcases cx b hb with h5|h5
     ·exact n4' b h5 e
     ·omega
    have eX:A.Rz k=({A6 with P6:=A6.P6.erase k,often:=A6.often++[k]},false,g6):=by
     unfold Arc.Rz;rw[if_neg bE,if_pos hg];dsimp only;rw[hq,hT,bJ,cw]
    rw[eX]
    exact⟨_,rfl,rfl,V9,bj.m.kp dp n49,λb hb=>(cx b hb).imp id (λe=>by omega),(aJ.kp.An aM (λj e=>by
     rcases e with e| e
     ·exact .inr e
     ·exact .inl (by omega))).An dp (λj e=> .inl (by omega))⟩
   ·have rR:=hg;rw[decide_eq_false hg];refine OU O$ OJ O$ Pf O$ Pu O$ OX Rk O$ OK O$ P4 XC O (qm) ?_;rintro _ w2 ⟨rfl,rfl⟩;by_cases hg:k∈A.OY
    ·rw[decide_eq_true hg];refine OU O$ Pn.qb (e:=[(0,_),(1,_),(4,_),(5,_),(111,_)]) ?_;refine OS O$ It ?_;have rQ:0<A.OY.length:=List.length_pos_of_mem hg;obtain⟨q,hq⟩:∃q,A.P6.length / A.OY.length=q:=⟨_,rfl⟩;have fF:q<=2000:=by rw[<-hq];exact Nat.le_trans (Nat.div_le_self _ _) f9
     have mL:(A.P6.length:Int) / (A.OY.length:Int)=(q:Int):=by rw[<-hq];exact(Int.natCast_ediv _ _).symm
     refine P7 [23] (λw'=>Ext w2 w') (by kernel_rfl) O$ PL 0 O O (aa)$ PL 1 O O (aa)$ P9 2 O (Q4 O) aa$ P9 3 O (Pp Rj O) aa$ qL 4 O (λ_ h=>OO U3 O O (h.OC eY) O) aa$ PL 5 O O (aa)$ P9 6 O (Q4 O) aa$ P9 7 O (Pp R0 O) aa$ P9 8 O (Pp Qg O) aa$ qL 9 O (λ_ h=>OO RB O O (h.OC eY) O) aa$ P9 10 O (SF RB O) aa$ PL 11 O O (aa)$ P9 12 O (Q4 O) aa ?_;refine P9 13 O (Pp Rk O) aa$ P9 14 O (Pp Qg O) aa$ qL 15 O (λ_ h=>OO RB O O (h.OC eY) O) aa$ P9 16 O (SF RB O) aa$ P9 17 O (VI O O ⟨by omega,by omega,by omega⟩) aa ?_;rw[mL];refine P9 18 O (yma O O) aa$ P9 19 O (XH O O (by omega)) aa$ P9 20 O (yma O O) aa$ P9 21 O (Q4 O) aa$ P9 22 O (Pp Rj O) aa$ SM [23]$ qO 23$ PC (i:=23) O O (QQ Q7 O O O (aa.OC eY) (by simp)) ?_;rintro w5 ⟨aH,ak⟩;refine⟨trivial,?_⟩;obtain⟨T,hT⟩:∃T:Int,max 0 (A.target-max 1 (q:Int))=T:=⟨_,rfl⟩;have nV:0<=T/\T<=A.size:=by omega
     rw[hT] at aH
     replace aH:OR w5 c (acC A.size T V p) 192:=by
      show OR w5 c [I (A.size:Int),(V 0).1,(V 0).2,(V 1).1,(V 1).2,(V 2).1,(V 2).2,(V 3).1,(V 3).2,I T,.map (some p)] _;rw[e2,e3];exact aH
     have co:=(h2.ext aa).Zj aH ak;have aV:=hA.Zj nV;obtain⟨A5,bJ⟩:∃A5:Arc,{A with target:=T}=A5:=⟨_,rfl⟩;have oF:A5.size=A.size:=by rw[<-bJ]
     have nW:¬A5.held k:=by rw[<-bJ];exact mc
     have rN:k∈A5.OY:=by rw[<-bJ];exact hg
     rw[bJ] at co aV;refine qE$ Pn.qb (e:=[(0,_),(1,_),(4,_),(5,_)]) ?_;refine Pf O$ P4 z1Z O (TF co.m aV (by omega) true) ?_;rintro _ w6 ⟨rfl,V6,cF⟩;have ay:=Arc.Tj aV true;obtain⟨r6,cw⟩:∃r,A5.room true=r:=⟨_,rfl⟩;rw[cw] at cF ay⊢;obtain⟨A6,g6⟩:=r6;dsimp only at cF ay⊢;have fL:=ay.perm.length_eq;have jo:=A6.QZ;have nX:=A5.QZ;have nY:=aV.total;have aB:=((h2.r aa).trans co).trans cF;have cg:=aB.k.OC bD (λe=>n4' _ e O);refine OW O (PO (news:=RJ false g6) PA O O O O cg (by simp)) ?_;rintro w7 ⟨bB,aC⟩;replace bB:OR w7 b4 [.bool false,.bool g6.isSome,I (g6.getD 0)] 264:=bB;have n46:=aB.mono n4' l42;have gG:=aB.m.kp aC n46;refine qM O$ OK O$ Pu O$ OX Rk O$ OK O$ P4 SU O (Qk gG (j:=3) (k:=k) (by decide)) ?_;rintro _ w8 ⟨rfl,V8,fU⟩
     have dL:k∉(A6.Qj 3 ((A6.li 3).erase k)).li 1:=by
      show k∉A6.often;exact λe=>nW ((ay.gone k).1 (.inr e)).1
     refine OD$ Rh O$ Pu O$ OX Rt O$ OK O$ P4 To O (QV fU.m (j:=1) (k:=k) (by decide) dL (by show A6.often.length<=_;omega)) ?_;rintro _ w9 ⟨rfl,V9,i9⟩;have bj:=fU.trans i9;have cf:=bj.k.OC bB (λe=>n46 _ e O);have er:=cf
     have cx:∀b,SJ c V9 p b->SJ c V p b\/w2.heap.size<=b:=λb hb=>by
      rcases bj.fp b hb with h5|h5
      ·exact aB.fp b h5
      ·have:=aB.k.size;have:=aC.size;exact .inr (by omega)
     have aM:Kp (λj=>SJ c V p j\/j=b4) w2 w9:=((aB.k.OV λj e=> .inl e).trans (aC.OV λj e=> .inr e)).An bj.k (λj e=>by
      rcases aB.fp j e with h5|h5
      ·exact .inr (.inl h5)
      ·exact .inl h5)
     refine OD$ OA$ qN O$ qV (Pt (news:=RJ false g6) SI O PA O (OR.cells (n:=3) er O) O)$ OW O (PO (news:=RJ false g6) PA O O O O er (by simp)) ?_;rintro we ⟨db,dp⟩;replace db:OR we b4 [.bool false,.bool g6.isSome,I (g6.getD 0)] 264:=db;refine OU O$ Po func166 (.cell SI O PA O (OR.cells (n:=3) db (news:=[_,_,_]) O) O (.tmp O .nil)) ?_
     have n49:∀b,SJ c V9 p b->b≠b4:=λb hb e=>by
      rcases cx b hb with h5|h5
      ·exact n4' b h5 e
      ·omega
     have eX:A.Rz k=({A6 with OY:=A6.OY.erase k,often:=A6.often++[k]},false,g6):=by
      unfold Arc.Rz;rw[if_neg bE,if_neg rR,if_pos hg];dsimp only;rw[hq,hT,bJ,cw]
     rw[eX]
     exact⟨_,rfl,rfl,V9,bj.m.kp dp n49,λb hb=>(cx b hb).imp id (λe=>by omega),(aJ.kp.An aM (λj e=>by
      rcases e with e| e
      ·exact .inr e
      ·exact .inl (by omega))).An dp (λj e=> .inl (by omega))⟩
    ·rw[decide_eq_false hg];refine OU O$ Pn.qb (e:=[(0,_),(1,_),(4,_),(5,_),(111,_)]) ?_;refine OJ O$ Pf O$ P4 zbN O (z0V h2 hA cG) ?_;rintro _ w6 ⟨rfl,V6,cF⟩;have dK:=Arc.z3O hA;obtain⟨r6,cw⟩:∃r,A.add=r:=⟨_,rfl⟩;rw[cw] at cF dK⊢;obtain⟨A6,g6⟩:=r6;dsimp only at cF dK⊢;obtain⟨fI,-,-⟩:=dK;have jo:=A6.QZ;have aB:=cF;have cg:=aB.k.OC bD (λe=>n4' _ e O);refine OW O (PO (news:=RJ false g6) PA O O O O cg (by simp)) ?_;rintro w7 ⟨bB,aC⟩;replace bB:OR w7 b4 [.bool false,.bool g6.isSome,I (g6.getD 0)] 264:=bB;have n46:=aB.mono n4' l42;have gG:=aB.m.kp aC n46
     have dL:k∉A6.li 0:=by
      show k∉A6.once;exact λe=>mc ((fI.gone k).1 (.inl e)).1
     have oT:=fI.Z1;refine OD$ Rh O$ Pu O$ OX QE O$ OK O$ P4 To O (QV gG (j:=0) (k:=k) (by decide) dL (by show A6.once.length<=_;omega)) ?_;rintro _ w9 ⟨rfl,V9,i9⟩;have bj:=i9;have cf:=bj.k.OC bB (λe=>n46 _ e O);have er:=cf
     have cx:∀b,SJ c V9 p b->SJ c V p b\/w2.heap.size<=b:=λb hb=>by
      rcases bj.fp b hb with h5|h5
      ·exact aB.fp b h5
      ·have:=aB.k.size;have:=aC.size;exact .inr (by omega)
     have aM:Kp (λj=>SJ c V p j\/j=b4) w2 w9:=((aB.k.OV λj e=> .inl e).trans (aC.OV λj e=> .inr e)).An bj.k (λj e=>by
      rcases aB.fp j e with h5|h5
      ·exact .inr (.inl h5)
      ·exact .inl h5)
     refine OD$ OA$ qN O$ qV (Pt (news:=RJ false g6) SI O PA O (OR.cells (n:=3) er O) O)$ OW O (PO (news:=RJ false g6) PA O O O O er (by simp)) ?_;rintro we ⟨db,dp⟩;replace db:OR we b4 [.bool false,.bool g6.isSome,I (g6.getD 0)] 264:=db;refine OU O$ Po func166 (.cell SI O PA O (OR.cells (n:=3) db (news:=[_,_,_]) O) O (.tmp O .nil)) ?_
     have n49:∀b,SJ c V9 p b->b≠b4:=λb hb e=>by
      rcases cx b hb with h5|h5
      ·exact n4' b h5 e
      ·omega
     have eX:A.Rz k=({A6 with once:=A6.once++[k]},false,g6):=by
      unfold Arc.Rz;rw[if_neg bE,if_neg rR,if_neg hg];dsimp only;rw[cw]
     rw[eX]
     exact⟨_,rfl,rfl,V9,bj.m.kp dp n49,λb hb=>(cx b hb).imp id (λe=>by omega),(aJ.kp.An aM (λj e=>by
      rcases e with e| e
      ·exact .inr e
      ·exact .inl (by omega))).An dp (λj e=> .inl (by omega))⟩
end
def Arc.z83 (A:Arc)(k:Int):Nat->Arc
 |0=>A
 |i+1=>(A.z83 k i).Qj i (((A.z83 k i).li i).erase k)
def Arc.drop (A:Arc)(k:Int):Arc:=A.z83 k 4
theorem Arc.drop_eq (A:Arc)(k:Int):A.drop k={A with once:=A.once.erase k,often:=A.often.erase k,P6:=A.P6.erase k,OY:=A.OY.erase k}:=rfl
theorem Arc.Ok.drop {A:Arc}(h:A.Ok)(k:Int):(A.drop k).Ok:=by
 rw[Arc.drop_eq]
 have hs:(A.once.erase k++(A.often.erase k++(A.P6.erase k++A.OY.erase k))).Sublist A.all:=List.erase_sublist.append (List.erase_sublist.append (List.erase_sublist.append List.erase_sublist))
 have a1:(A.once.erase k).length<=A.once.length:=List.length_erase_le
 have a2:(A.often.erase k).length<=A.often.length:=List.length_erase_le
 have a3:(A.P6.erase k).length<=A.P6.length:=List.length_erase_le
 have h1:=h.held
 have h2:=h.first
 exact⟨h.pos,h.nd.sublist hs,by dsimp only;omega,by dsimp only;omega,Nat.le_trans hs.length_le h.total,h.tg⟩
def Arc.z92 {A:Arc}(h:A.Ok)(k x:Int):(A.drop k).held x↔A.held x/\x≠k:=by
 have fV:=h.nd
 unfold Arc.all at fV
 rw[List.nodup_append] at fV
 obtain⟨nd1,nd2,-⟩:=fV
 rw[List.nodup_append] at nd2
 obtain⟨nd4,-,-⟩:=nd2
 rw[Arc.drop_eq]
 unfold Arc.held
 dsimp only
 rw[nd1.mem_erase_iff,nd4.mem_erase_iff]
 constructor
 ·rintro(⟨a,b⟩|⟨a,b⟩)
  ·exact⟨.inl b,a⟩
  ·exact⟨.inr b,a⟩
 ·rintro⟨b|b,a⟩
  ·exact .inl ⟨a,b⟩
  ·exact .inr ⟨a,b⟩
section
variable {w w' w2:World}{c p:Nat}{A:Arc}{V V':Nat->Value×Value}{k:Int}
theorem zas (h:SR w c A V p):Pm prog 155 [ptr c 0,I k] w λv w'=>(∃z,v=I z)/\∃V',Wl w c V p w' (A.drop k) V':=by
 have hB:=h.cells
 have lC:=Vw h (j:=2) (k:=k) (by decide)
 have qm:=Vw h (j:=3) (k:=k) (by decide)
 rw[show A.li 2=A.P6 from rfl] at lC
 rw[show A.li 3=A.OY from rfl] at qm
 refine py (e:=[(0,_),(1,_)]) func155 O ntmps155 O O$ QB O$ It$ PI (λe' w'=>e'=[(0,ptr c 0),(1,I k)]/\w'=w) ?ep$ λep=>?iT
 case ep=>
  rintro e' w1 ⟨rfl,rfl⟩;have hg:=Ext.OT w1;refine It$ It$ R5 (λw'=>Ext w1 w') O$ OZ 0 O O (hg)$ OI 1 O (Q4 O) hg$ OI 2 O (Pp QE O) hg$ OZ 3 O O (hg)$ OI 4 O (Q4 O) hg$ OI 5 O (Pp Rt O) hg$ OZ 6 O O (hg)$ OI 7 O (Q4 O) hg$ OI 8 O (Pp R0 O) hg$ OZ 9 O O (hg)$ OI 10 O (Q4 O) hg ?_;refine OI 11 O (Pp Rk O) hg$ OZ 14 O O (hg)$ qO 12$ RZ (i:=12) O O O (Wj (cs:=[_,_,_,_]) (zs:=[Value.pointer none,Value.pointer none,Value.pointer none,Value.pointer none]) zfY zf1 O (by kernel_rfl) O O O (by decide)) ?_;rintro _ w2 ⟨b51,rfl,⟨EY,ae,LR⟩,zC⟩;refine⟨hg.trans ae,?_⟩;have aF:=hg.trans ae;refine OI 13 O (SF zfY O) (hg.trans ae)$ qE$ OH ?_;have aZ:∀{b:Nat},SJ c V p b->b<w1.heap.size:=h.lt;have lb:=zC.lt (g:=b51) O;have z12:=hg.size;have EZ:=zC.rd;refine Rq (α:=Nat×(Nat->Value×Value)) ((0,V)) (λx=>[(1,I k),(51,.slice (some ⟨b51,0,none⟩) 4 4),(52,I 4),(53,I (x.1:Int))]) (λx w'=>x.1<=4/\Wl w2 c V p w' (A.z83 k x.1) x.2/\Rd w' (.slice (some ⟨b51,0,none⟩) 4 4) 1 4 [ptr c 1,ptr c 3,ptr c 5,ptr c 7]) (λx=>4-x.1) ?hI ?hround
  case hI=>exact⟨Nat.zero_le _,(h.ext aF).r (Ext.refl w2),EZ⟩
  case hround=>
   rintro⟨i,Vi⟩ w3 ⟨hi,mg,F0⟩ ih;dsimp only at hi mg F0 ih⊢
   try dsimp only
   refine qN O$ Qq O$ OD$ It$ OQ O (λh0=>?_)$ λh0=>?_
   ·have oJ:i<4:=by omega
    have hx:([ptr c 1,ptr c 3,ptr c 5,ptr c 7]:List Value)[i]? =some (ptr c (1+2*i)):=by
     match i,oJ with
     |0,_|1,_|2,_|3,_=>rfl
    refine OE$ Qx$ qN O$ qV (PX zfY zf1 O O (by omega))$ qV (Pr zkT O O (Qo F0 hx))$ OU O$ OL O$ P8 O$ P4 SU O (Qk mg.m (j:=i) (k:=k) oJ) ?_;rintro _ w4 ⟨rfl,V4,bM⟩;refine OD$ OA$ OL O$ PV O$ OK O$ OD ((ih (i+1,V4) _ ⟨oJ,mg.trans bM,F0.kp bM.k λg e hf=>?_⟩ (by dsimp only;omega)).qb);have e':b51=g:=QU e;rcases mg.fp _ hf with e| e
    ·have:=aZ e;have hb:b51=w1.drew.heap.size:=EY;omega
    ·omega
   ·have oJ:i=4:=by omega
    subst oJ;refine ON O$ QB O$ OB func155 O ?_;exact⟨_,rfl,⟨0,rfl⟩,Vi,(h.r aF).trans mg⟩
 case iT =>
  refine OH$ Pf O$ qV (Qi zci O O)$ OU O$ OJ O$ Qm O$ P4 zeP O (z2m h (k:=k)) ?_;rintro _ w ⟨rfl,rfl⟩;by_cases ie:k∈A.once\/k∈A.often
  ·rw[decide_eq_true ie];refine qV ((Sb O))$ OK O$ QG$ QG$ QG$ PK O$ OK O$ QG$ QG$ QG$ PK O$ OU O$ Pn.qb (e:=[(0,_),(1,_),(4,_),(10,_)]) ?_;refine OJ O$ Pf O$ Pu O$ OX z0A O$ qV (OO Xy O O hB O)$ OK O$ qV (ylk (k:=k) (K:=KI) Xy (Sd U3) Q7 O O h.pins)$ Qu O$ PF$ OU O$ Tu O$ OA ?_;exact(ep _ _ ⟨rfl,rfl⟩).qb
  ·rw [decide_eq_false ie]; refine qV ((Sb O)) (P8 O (Pu O (OX R0 O (OK O (P4 XC O (lC) ?_))))); rintro _ w ⟨rfl, rfl⟩; by_cases aq : k ∈ A.P6
   ·rw[decide_eq_true aq];refine qV ((Sb O))$ QJ O$ OK O$ QG$ QG$ QG$ PK O$ OU O$ Pn.qb (e:=[(0,_),(1,_),(4,_),(10,_)]) ?_;refine OJ O$ Pf O$ Pu O$ OX z0A O$ qV (OO Xy O O hB O)$ OK O$ qV (ylk (k:=k) (K:=KI) Xy (Sd U3) Q7 O O h.pins)$ Qu O$ PF$ OU O$ Tu O$ OA ?_;exact(ep _ _ ⟨rfl,rfl⟩).qb
   ·rw[decide_eq_false aq];refine qV ((Sb O))$ QJ O$ P8 O$ Pu O$ OX Rk O$ OK O$ P4 XC O (qm) ?_;rintro _ w ⟨rfl,rfl⟩;by_cases av:k∈A.OY
    ·rw[decide_eq_true av];refine qV ((Sb O))$ QJ O$ OU O$ Pn.qb (e:=[(0,_),(1,_),(4,_),(10,_)]) ?_;refine OJ O$ Pf O$ Pu O$ OX z0A O$ qV (OO Xy O O hB O)$ OK O$ qV (ylk (k:=k) (K:=KI) Xy (Sd U3) Q7 O O h.pins)$ Qu O$ PF$ OU O$ Tu O$ OA ?_;exact(ep _ _ ⟨rfl,rfl⟩).qb
    ·rw[decide_eq_false av];refine qV ((Sb O))$ QJ O$ OU O$ Pn.qb (e:=[(0,_),(1,_),(4,_),(10,_)]) ?_;refine OS O$ QB O$ OB func155 O ?_
     have hd:A.drop k=A:=by
      rw[Arc.drop_eq,List.erase_of_not_mem (λe=>ie (.inl e)),List.erase_of_not_mem (λe=>ie (.inr e)),List.erase_of_not_mem aq,List.erase_of_not_mem av]
     rw[hd];exact⟨_,rfl,⟨6,rfl⟩,V,h.r (Ext.refl w)⟩
end
structure Pg where
 k:Int
 b:Nat
 t:OG
 d:Bool
def UR (l:List Pg):List (Int×Value):=l.map λg=>(g.k,ptr g.b 0)
def pgC (t:OG)(d:Bool):List Value:=[S t,.bool d,I 0]
structure Rn where
 s:Nat
 d:Nat
 m:Nat
 gi:Nat
 c:Nat
 pm:Nat
 p:Nat
 fr:Nat
 V:Nat->Value×Value
 D:Dev
 A:Arc
 l:List Pg
 L:List Bool
 Fd:Nat->Prop
 h:Int
 mi:Int
 wr:Int
def Rn.cp (P:Rn):Nat->Nat->Prop
 |0,b=>b=P.s
 |1,b=>P.Fd b
 |2,b=>b=P.m\/b=P.gi
 |3,b=>SJ P.c P.V P.p b
 |4,b=>b=P.pm
 |5,b=>∃g∈P.l,g.b=b
 |_,_=>False
def Rn.fp (P:Rn)(b:Nat):Prop:=∃i,P.cp i b
def plC (P:Rn):List Value:=[ptr P.d 0,ptr P.m 0,ptr P.c 0,.map (some P.pm),I (P.fr:Int),I P.h,I P.mi,I P.wr,I 0,I 0,I 0,.bool false]
def Dis (f:Nat->Nat->Prop):Prop:=∀i j,i≠j->∀b,f i b->¬f j b
structure Ut (w:World)(P:Rn):Prop where
 OC:OR w P.s (plC P) 114
 dev:Wi w P.d P.D P.Fd
 ext:XB w P.m P.gi P.L
 arc:SR w P.c P.A P.V P.p
 mp:SL KI w P.pm (UR P.l)
 pg:∀g∈P.l,OR w g.b (pgC g.t g.d) 218
 pnd:(P.l.map (·.b)).Nodup
 VF:Dis P.cp
section
variable {w w' w0:World}{P P0 P':Rn}{S:Nat->Prop}{i0:Nat}
def Ut.lt (h:Ut w P){b:Nat}(hb:P.fp b):b<w.heap.size:=by
 obtain⟨i,hi⟩:=hb
 match i,hi with
 |0,e=>rw[show b=P.s from e];exact h.OC.lt
 |1,e=>exact h.dev.lt b e
 | 2, e =>
   rcases e with e| e
   ·rw[e];exact h.ext.ltm
   ·rw[e];exact h.ext.ltg
 |3,e=>exact h.arc.lt e
 |4,e=>rw[show b=P.pm from e];exact h.mp.lt
 |5,⟨g,hg,e⟩=>rw[<-e];exact(h.pg g hg).lt
def Ut.kp (h:Ut w P)(hk:Kp S w w')(hn:∀b,P.fp b->¬S b):Ut w' P:=
 ⟨hk.OC h.OC (hn _ ⟨0,rfl⟩),h.dev.kp hk λb hb=>hn b ⟨1,hb⟩,h.ext.kp hk (hn _ ⟨2,.inl O⟩) (hn _ ⟨2,.inr O⟩),h.arc.kp hk λb hb=>hn b ⟨3,hb⟩,h.mp.kp hk (hn _ ⟨4,rfl⟩),λg hg=>hk.OC (h.pg g hg) (hn _ ⟨5,g,hg,rfl⟩),h.pnd,h.VF⟩
theorem Ut.ext' (h:Ut w P)(hx:Ext w w'):Ut w' P:=h.kp (S:=λ_=>False) hx λ_ _=>id
def Ut.z9y (h:Ut w P)(hk:Kp (P.cp i0) w w')(ne:0≠i0):OR w' P.s (plC P) 114:=hk.OC h.OC (h.VF 0 i0 ne _ O)
def Ut.zav (h:Ut w P)(hk:Kp (P.cp i0) w w')(ne:1≠i0):Wi w' P.d P.D P.Fd:=h.dev.kp hk λb hb=>h.VF 1 i0 ne b hb
def Ut.text (h:Ut w P)(hk:Kp (P.cp i0) w w')(ne:2≠i0):XB w' P.m P.gi P.L:=h.ext.kp hk (h.VF 2 i0 ne _ (.inl O)) (h.VF 2 i0 ne _ (.inr O))
def Ut.z9x (h:Ut w P)(hk:Kp (P.cp i0) w w')(ne:3≠i0):SR w' P.c P.A P.V P.p:=h.arc.kp hk λb hb=>h.VF 3 i0 ne b hb
def Ut.tmp (h:Ut w P)(hk:Kp (P.cp i0) w w')(ne:4≠i0):SL KI w' P.pm (UR P.l):=h.mp.kp hk (h.VF 4 i0 ne _ O)
def Ut.tpg (h:Ut w P)(hk:Kp (P.cp i0) w w')(ne:5≠i0):∀g∈P.l,OR w' g.b (pgC g.t g.d) 218:=λg hg=>hk.OC (h.pg g hg) (h.VF 5 i0 ne _ ⟨g,hg,rfl⟩)
def Ut.zcO (h:Ut w P)(hs:∀i,i≠i0->P'.cp i=P.cp i)(hi:∀b,P'.cp i0 b->P.cp i0 b\/∀i,¬P.cp i b):Dis P'.cp:=λi j ne b hb cn=>by
 by_cases e:i=i0
 ·have e2:j≠i0:=λe2=>ne (e.trans e2.symm);rw[e] at hb;rw[hs j e2] at cn;rcases hi b hb with h1|h1
  ·exact h.VF i0 j (λe3=>e2 e3.symm) b h1 cn
  ·exact h1 j cn
 ·rw[hs i e] at hb;by_cases e2:j=i0
  ·rw[e2] at cn;rcases hi b cn with h1|h1
   ·exact h.VF i i0 e b hb h1
   ·exact h1 i hb
  ·rw[hs j e2] at cn;exact h.VF i j ne b hb cn
def Ut.new (h:Ut w P){b:Nat}(hb:w.heap.size<=b):∀i,¬P.cp i b:=λi e=>by have:=h.lt ⟨i,e⟩;omega
structure Uo (w0:World)(P0:Rn)(w:World)(P:Rn):Prop where
 m:Ut w P
 fp:∀b,P.fp b->P0.fp b\/w0.heap.size<=b
 k:Kp P0.fp w0 w
theorem Ut.r (h:Ut w P)(hx:Ext w w'):Uo w P w' P:=⟨h.ext' hx,λb hb=> .inl hb,hx.kp⟩
def Uo.ext (h:Uo w0 P0 w P)(hx:Ext w w'):Uo w0 P0 w' P:=⟨h.m.ext' hx,h.fp,h.k.trans hx.kp⟩
def Uo.loc (h:Uo w0 P0 w P)(hk:Kp S w w')(hS:∀b,S b->(P0.fp b\/w0.heap.size<=b)/\∀i,¬P.cp i b):Uo w0 P0 w' P:=
 ⟨h.m.kp hk λb ⟨i,hb⟩ e=>(hS b e).2 i hb,h.fp,h.k.An hk λb e=>(hS b e).1.symm⟩
theorem Uo.part (h:Uo w0 P0 w P)(i0:Nat)(hm:Ut w' P')(hs:∀i,i≠i0->P'.cp i=P.cp i)(hi:∀b,P'.cp i0 b->P.cp i0 b\/w0.heap.size<=b)(hk:Kp (P.cp i0) w w'):Uo w0 P0 w' P':=
 ⟨hm,λb ⟨i,hb⟩=>by
  by_cases e:i=i0
  ·rw[e] at hb;rcases hi b hb with h1|h1
   ·exact h.fp b ⟨i0,h1⟩
   ·exact .inr h1
  ·rw[hs i e] at hb
   exact h.fp b ⟨i,hb⟩,h.k.An hk λb hb=>(h.fp b ⟨i0,hb⟩).symm⟩
theorem Uo.trans {w2:World}{P2:Rn}(h:Uo w0 P0 w P)(h2:Uo w P w2 P2):Uo w0 P0 w2 P2:=
 ⟨h2.m,λb hb=>by
  rcases h2.fp b hb with e| e
  ·exact h.fp b e
  ·exact .inr (by have:=h.k.size;omega),h.k.An h2.k λb hb=>(h.fp b hb).symm⟩
def Uo.dev (h:Uo w0 P0 w P){D':Dev}(ht:z9R w P.d P.Fd D' w'):∃Fd',Uo w0 P0 w' {P with D:=D',Fd:=Fd'}/\∀b,Fd' b->P.Fd b\/w.heap.size<=b:=by
 obtain⟨F',hd,hu⟩:=ht
 have hs:∀i,i≠1->Rn.cp {P with D:=D',Fd:=F'} i=P.cp i:=λi e=>by
  match i,e with
  |0,_|2,_|3,_|4,_|5,_=>rfl
  |i+6,_=>rfl
 have hk:Kp (P.cp 1) w w':=hu.1
 refine⟨F',h.part 1 ⟨h.m.z9y hk (by decide),hd,h.m.text hk (by decide),h.m.z9x hk (by decide),h.m.tmp hk (by decide),h.m.tpg hk (by decide),h.m.pnd,h.m.zcO hs λb hb=>?_⟩ hs (λb hb=>?_) hk,hu.2⟩
 ·exact(hu.2 b hb).imp id λe=>h.m.new e
 ·exact(hu.2 b hb).imp id λe=>by have:=h.k.size;omega
def Uo.arc (h:Uo w0 P0 w P){A':Arc}{V':Nat->Value×Value}(hr:Wl w P.c P.V P.p w' A' V'):Uo w0 P0 w' {P with A:=A',V:=V'}:=by
 have hs:∀i,i≠3->Rn.cp {P with A:=A',V:=V'} i=P.cp i:=λi e=>by
  match i,e with
  |0,_|1,_|2,_|4,_|5,_=>rfl
  |i+6,_=>rfl
 have hk:Kp (P.cp 3) w w':=hr.k
 refine h.part 3 ⟨h.m.z9y hk (by decide),h.m.zav hk (by decide),h.m.text hk (by decide),hr.m,h.m.tmp hk (by decide),h.m.tpg hk (by decide),h.m.pnd,h.m.zcO hs λb hb=>?_⟩ hs (λb hb=>?_) hk
 ·exact(hr.fp b hb).imp id λe=>h.m.new e
 ·exact(hr.fp b hb).imp id λe=>by have:=h.k.size;omega
def Uo.exM (h:Uo w0 P0 w P){L':List Bool}(he:XB w' P.m P.gi L')(hk:Kp (λb=>b=P.gi) w w'):Uo w0 P0 w' {P with L:=L'}:=by
 have hs:∀i,i≠2->Rn.cp {P with L:=L'} i=P.cp i:=λi e=>by
  match i,e with
  |0,_|1,_|3,_|4,_|5,_=>rfl
  |i+6,_=>rfl
 have hk:Kp (P.cp 2) w w':=hk.OV λb e=> .inr e
 exact h.part 2 ⟨h.m.z9y hk (by decide),h.m.zav hk (by decide),he,h.m.z9x hk (by decide),h.m.tmp hk (by decide),h.m.tpg hk (by decide),h.m.pnd,h.m.zcO hs λb hb=> .inl hb⟩ hs (λb hb=> .inl hb) hk
def Uo.cnt (h:Uo w0 P0 w P){a b c:Int}(hB:OR w' P.s (plC {P with h:=a,mi:=b,wr:=c}) 114)(hk:Kp (λb=>b=P.s) w w'):Uo w0 P0 w' {P with h:=a,mi:=b,wr:=c}:=by
 have hs:∀i,i≠0->Rn.cp {P with h:=a,mi:=b,wr:=c} i=P.cp i:=λi e=>by
  match i,e with
  |1,_|2,_|3,_|4,_|5,_=>rfl
  |i+6,_=>rfl
 have hk:Kp (P.cp 0) w w':=hk
 exact h.part 0 ⟨hB,h.m.zav hk (by decide),h.m.text hk (by decide),h.m.z9x hk (by decide),h.m.tmp hk (by decide),h.m.tpg hk (by decide),h.m.pnd,h.m.zcO hs λb hb=> .inl hb⟩ hs (λb hb=> .inl hb) hk
def Uo.del (h:Uo w0 P0 w P){l':List Pg}(hl:l'.Sublist P.l)(hm:SL KI w' P.pm (UR l'))(hk:Kp (λb=>b=P.pm) w w'):Uo w0 P0 w' {P with l:=l'}:=by
 have hk:Kp (P.cp 4) w w':=hk
 have dx:∀i b,Rn.cp {P with l:=l'} i b->P.cp i b:=λi b hb=>by
  match i,hb with
  |0,e|1,e|2,e|3,e|4,e=>exact e
  |5,⟨g,hg,e⟩=>exact⟨g,hl.subset hg,e⟩
 have hp:=h.m.tpg hk (by decide)
 exact⟨⟨h.m.z9y hk (by decide),h.m.zav hk (by decide),h.m.text hk (by decide),h.m.z9x hk (by decide),hm,λg hg=>hp g (hl.subset hg),(hl.map _).nodup h.m.pnd,λi j ne b hb cn=>h.m.VF i j ne b (dx i b hb) (dx j b cn)⟩,λb ⟨i,hb⟩=>h.fp b ⟨i,dx i b hb⟩,h.k.An hk λb hb=>(h.fp b ⟨4,hb⟩).symm⟩
def Uo.ins (h:Uo w0 P0 w P){g:Pg}(hg:w0.heap.size<=g.b/\∀i,¬P.cp i g.b)(hb:OR w g.b (pgC g.t g.d) 218)(hm:SL KI w' P.pm (UR (P.l++[g])))(hk:Kp (λb=>b=P.pm) w w'):Uo w0 P0 w' {P with l:=P.l++[g]}:=by
 have hk:Kp (P.cp 4) w w':=hk
 have hp:=h.m.tpg hk (by decide)
 have gE:∀i b,Rn.cp {P with l:=P.l++[g]} i b->P.cp i b\/(i=5/\b=g.b):=λi b hb=>by
  match i,hb with
  |0,e|1,e|2,e|3,e|4,e=>exact .inl e
  | 5, ⟨g', cP, e⟩ =>
    rcases List.mem_append.1 cP with e2|e2
    ·exact .inl ⟨g',e2,e⟩
    ·rw[List.mem_singleton.1 e2] at e;exact .inr ⟨rfl,e.symm⟩
 refine⟨⟨h.m.z9y hk (by decide),h.m.zav hk (by decide),h.m.text hk (by decide),h.m.z9x hk (by decide),hm,λg' cP=>?_,?_,λi j ne b hb cn=>?_⟩,λb ⟨i,hb⟩=>?_,h.k.An hk λb hb=>(h.fp b ⟨4,hb⟩).symm⟩
 ·rcases List.mem_append.1 cP with e| e
  ·exact hp g' e
  ·rw[List.mem_singleton.1 e];exact hk.OC hb (hg.2 4)
 ·show((P.l++[g]).map (·.b)).Nodup;rw[List.map_append,List.nodup_append];refine⟨h.m.pnd,by simp,λa ha b hb e=>?_⟩;obtain⟨g',cP,rfl⟩:=List.mem_map.1 ha;rw[List.map_singleton,List.mem_singleton] at hb;exact hg.2 5 ⟨g',cP,e.trans hb⟩
 ·rcases gE i b hb with e|⟨e,e2⟩
  ·rcases gE j b cn with f|⟨f,f2⟩
   ·exact h.m.VF i j ne b e f
   ·rw[f2] at e;exact hg.2 i e
  ·rcases gE j b cn with f|⟨f,f2⟩
   ·rw[e2] at f;exact hg.2 j f
   ·exact ne (e.trans f.symm)
 ·rcases gE i b hb with e|⟨e,e2⟩
  ·exact h.fp b ⟨i,e⟩
  ·rw[e2];exact .inr hg.1
theorem SX {α β:Type}{f:α->β}:∀{l:List α},(l.map f).Nodup->∀{a b:α},a∈l->b∈l->f a=f b->a=b
 |[],_,a,b,ha,_,_=>by cases ha
 | x :: l, hn, a, b, ha, hb, e => by
   rw[List.map_cons,List.nodup_cons] at hn;rcases List.mem_cons.1 ha with h1|h1
   ·rcases List.mem_cons.1 hb with h2|h2
    ·rw[h1,h2]
    ·exact absurd (List.mem_map.2 ⟨b,h2,by rw[<-e,h1]⟩) hn.1
   ·rcases List.mem_cons.1 hb with h2|h2
    ·exact absurd (List.mem_map.2 ⟨a,h1,by rw[e,h2]⟩) hn.1
    ·exact SX hn.2 h1 h2 e
def RR (l:List Pg)(k:Int)(t:OG)(d:Bool):List Pg:=l.map λg=>if g.k=k then {g with t:=t,d:=d} else g
theorem zbI (l:List Pg)(k:Int)(t:OG)(d:Bool):UR (RR l k t d)=UR l:=by
 unfold UR RR
 rw[List.map_map]
 refine List.map_congr_left λg _=>?_
 by_cases h:g.k=k
 ·simp only[Function.comp_apply,if_pos h]
 ·simp only[Function.comp_apply,if_neg h]
theorem z3Z (l:List Pg)(k:Int)(t:OG)(d:Bool):(RR l k t d).map (·.b)=l.map (·.b):=by
 unfold RR
 rw[List.map_map]
 refine List.map_congr_left λg _=>?_
 show Pg.b (if _ then _ else _)=_
 split<;>rfl
def Uo.zj8 (h:Uo w0 P0 w P){g:Pg}(hg:g∈P.l){t:OG}{d:Bool}(hb:OR w' g.b (pgC t d) 218)(hk:Kp (λb=>b=g.b) w w'):Uo w0 P0 w' {P with l:=RR P.l g.k t d}:=by
 have fV:=h.m.mp.nd
 have ld:∀b,(∃g'∈RR P.l g.k t d,g'.b=b)↔∃g'∈P.l,g'.b=b:=λb=>by
  have e:=z3Z P.l g.k t d;constructor
  ·rintro⟨g',cP,rfl⟩;have:g'.b∈P.l.map (·.b):=by rw[<-e];exact List.mem_map.2 ⟨g',cP,rfl⟩
   obtain⟨g2,a,b⟩:=List.mem_map.1 this;exact⟨g2,a,b⟩
  ·rintro⟨g',cP,rfl⟩;have:g'.b∈(RR P.l g.k t d).map (·.b):=by rw[e];exact List.mem_map.2 ⟨g',cP,rfl⟩
   obtain⟨g2,a,b⟩:=List.mem_map.1 this;exact⟨g2,a,b⟩
 have hs:∀i,i≠5->Rn.cp {P with l:=RR P.l g.k t d} i=P.cp i:=λi e=>by
  match i,e with
  |0,_|1,_|2,_|3,_|4,_=>rfl
  |i+6,_=>rfl
 have ak:Kp (P.cp 5) w w':=hk.OV λb e=>⟨g,hg,e.symm⟩
 have hi:∀b,Rn.cp {P with l:=RR P.l g.k t d} 5 b->P.cp 5 b:=λb hb=>(ld b).1 hb
 refine h.part 5 ⟨h.m.z9y ak (by decide),h.m.zav ak (by decide),h.m.text ak (by decide),h.m.z9x ak (by decide),?_,λg' cP=>?_,?_,h.m.zcO hs λb hb=> .inl (hi b hb)⟩ hs (λb hb=> .inl (hi b hb)) ak
 ·show SL KI w' P.pm (UR (RR P.l g.k t d));rw[zbI];exact h.m.tmp ak (by decide)
 ·obtain⟨g2,aa,rfl⟩:=List.mem_map.1 cP;by_cases e:g2.k=g.k
  ·rw[if_pos e]
   have e2:g2=g:=by
    unfold UR at fV;rw[List.map_map] at fV;have F9:(P.l.map (·.k)).Nodup:=fV;exact SX F9 aa hg e
   rw[e2];exact hb
  ·rw[if_neg e];have bT:g2.b≠g.b:=λe2=>e (by rw[SX h.m.pnd aa hg e2]);exact hk.OC (h.m.pg g2 aa) bT
 ·show((RR P.l g.k t d).map (·.b)).Nodup;rw[z3Z];exact h.m.pnd
end
def S4 (l:List Pg):Nat:=l.countP (·.d)
structure We (P:Rn)(txt:Int->OG)(K:Nat):Prop where
 aok:P.A.Ok
 asz:P.A.size<=1000
 keys:∀x,x∈P.l.map (·.k)↔P.A.held x
 nd:(P.l.map (·.k)).Nodup
 rng:∀g∈P.l,0<=g.k/\g.k<(P.L.length:Int)
 tx:∀g∈P.l,g.t=txt g.k
 cl:∀g∈P.l,g.d=false->P.D.now g.k=txt g.k
 out:∀x,0<=x->x<(P.L.length:Int)->¬P.A.held x->P.D.now x=txt x
 len:∀x,0<=x->x<(P.L.length:Int)->(txt x).length=512
 down:P.D.down=false
 due:P.D.due=0
 B:P.D.B=P.L.length
 N:P.D.N=1
 ca:P.D.calls+(S4 P.l:Int)<=(K:Int)
 cc:P.D.cache.length+S4 P.l<=K
 SB:P.D.SB.length<=17592186044416
def ZC (txt:Int->OG)(no:Int)(wt:Option OG):Int->OG:=λx=>if x=no then wt.getD (txt x) else txt x
theorem ZO (txt:Int->OG)(no:Int):ZC txt no none=txt:=by
 funext x
 unfold ZC
 split<;>rfl
theorem Sa (txt:Int->OG)(no:Int)(wt:Option OG):ZC txt no wt no=wt.getD (txt no):=if_pos O
theorem RD (txt:Int->OG){no x:Int}(wt:Option OG)(h:x≠no):ZC txt no wt x=txt x:=if_neg h
def wN (wt:Option OG):Nat:=if wt.isSome then 1 else 0
theorem z5A (D:Dev)(n x:Int)(s:OG):((D.push n s).count).now x=if n=x then s else D.now x:=by
 unfold Dev.now Dev.count Dev.push
 dsimp only
 rw[z61]
 split<;>rfl
theorem z2o (D:Dev)(z:Int)(x:Int):({D with reads:=z}:Dev).now x=D.now x:=rfl
section
variable {P:Rn}{txt:Int->OG}{K:Nat}{no:Int}{wt:Option OG}
def z0k (no:Int)(t:OG):∀{l:List Pg},(l.map (·.k)).Nodup->S4 (RR l no t true)<=S4 l+1
 |[],_=>Nat.zero_le _
 | g :: l, hn => by
   rw[List.map_cons,List.nodup_cons] at hn;by_cases h:g.k=no
   ·have e:RR l no t true=l:=by
     unfold RR
     conv=>rhs;rw[<-List.map_id l]
     refine List.map_congr_left λg' cP=>?_;rw[if_neg λe=>hn.1 (List.mem_map.2 ⟨g',cP,by rw[e,h]⟩)];rfl
    have e2:RR (g::l) no t true={g with t:=t,d:=true}::l:=by
     show(if g.k=no then _ else g)::RR l no t true=_;rw[if_pos h,e]
    rw[e2];unfold S4;rw[List.countP_cons,List.countP_cons];split<;>split<;>omega
   ·have ih:=z0k no t hn.2
    have e2:RR (g::l) no t true=g::RR l no t true:=by
     show(if g.k=no then _ else g)::RR l no t true=_;rw[if_neg h]
    rw[e2];unfold S4 at*;rw[List.countP_cons,List.countP_cons];omega
theorem z1S {l:List Pg}(hn:(l.map (·.k)).Nodup){g:Pg}(hg:g∈l):RR l g.k g.t g.d=l:=by
 unfold RR
 conv=>rhs;rw[<-List.map_id l]
 refine List.map_congr_left λg' cP=>?_
 by_cases h:g'.k=g.k
 ·rw[if_pos h,SX hn cP hg h];rfl
 ·rw[if_neg h];rfl
theorem z8w (l:List Pg)(k:Int)(t:OG)(d:Bool):(RR l k t d).map (·.k)=l.map (·.k):=by
 unfold RR
 rw[List.map_map]
 refine List.map_congr_left λg _=>?_
 by_cases h:g.k=k
 ·simp only[Function.comp_apply,if_pos h]
 ·simp only[Function.comp_apply,if_neg h]
def Zn {l:List Pg}{k:Int}{t:OG}{d:Bool}{g:Pg}(h:g∈RR l k t d):(g∈l/\g.k≠k)\/(g.k=k/\g.t=t/\g.d=d/\∃g'∈l,g'.k=k):=by
 obtain⟨g',cP,rfl⟩:=List.mem_map.1 h
 by_cases e:g'.k=k
 ·rw[if_pos e];exact .inr ⟨e,rfl,rfl,g',cP,e⟩
 ·rw[if_neg e];exact .inl ⟨cP,e⟩
theorem We.ZQ (h:We P txt K){g:Pg}(hg:g∈P.l)(oX:∀t,wt=some t->t.length=512){P':Rn}(hA:P'.A=(P.A.Rz g.k).1)(hl:P'.l=RR P.l g.k (wt.getD g.t) (wt.isSome ||g.d))(hL:P'.L=P.L)(hD:P'.D=P.D):We P' (ZC txt g.k wt) (K+wN wt):=by
 have ht:=Arc.z0P h.aok g.k
 have bE:P.A.held g.k:=(h.keys _).1 (List.mem_map.2 ⟨g,hg,rfl⟩)
 have fH:=ht.no (ht.ZQ.2 bE)
 have vT:∀x,P'.A.held x↔P.A.held x:=λx=>by
  rw[hA,ht.held,fH];constructor
  ·rintro(e|e)
   ·rw[e];exact bE
   ·exact e.1
  ·intro e;exact .inr ⟨e,by simp⟩
 have hr:=h.rng g hg
 have qn:S4 P'.l<=S4 P.l+wN wt:=by
  rw[hl]
  cases wt with
  |none=>rw[show(none:Option OG).getD g.t=g.t from rfl,show((none:Option OG).isSome ||g.d)=g.d from rfl,z1S h.nd hg];exact Nat.le_add_right _ _
  |some t=>exact z0k _ _ h.nd
 have IC:=h.ca
 have Fa:=h.cc
 refine⟨by rw[hA];exact ht.ok,by rw[hA,ht.size];exact h.asz,λx=>by rw[hl,z8w,h.keys,vT],by rw[hl,z8w];exact h.nd,λg' cP=>?_,λg' cP=>?_,λg' cP hd=>?_,λx h0 h1 hx=>?_,λx h0 h1=>?_,by rw[hD];exact h.down,by rw[hD];exact h.due,by rw[hD,hL];exact h.B,by rw[hD];exact h.N,by rw[hD];omega,by rw[hD];omega,by rw[hD];exact h.SB⟩
 ·rw[hL];rw[hl] at cP;rcases Zn cP with e| e
  ·exact h.rng g' e.1
  ·rw[e.1];exact hr
 ·rw[hl] at cP;rcases Zn cP with e| e
  ·rw[RD _ _ e.2];exact h.tx g' e.1
  ·rw[e.1,Sa,e.2.1,h.tx g hg]
 ·rw[hD];rw[hl] at cP;rcases Zn cP with e| e
  ·rw[RD _ _ e.2];exact h.cl g' e.1 hd
  ·rw[e.2.2.1] at hd
   have hw:wt=none:=by
    cases wt with
    |none=>rfl
    |some t=>cases hd
   rw[e.1,hw,ZO];rw[hw] at hd;exact h.cl g hg hd
 ·rw[hL] at h1;rw[vT] at hx;have bT:x≠g.k:=λe=>hx (e▸bE);rw[hD,RD _ _ bT];exact h.out x h0 h1 hx
 ·rw[hL] at h1;by_cases e:x=g.k
  ·rw[e,Sa]
   cases hw:wt with
   |none=>exact h.len _ (e▸h0) (e▸h1)
   |some t=>exact oX t hw
  ·rw[RD _ _ e];exact h.len x h0 h1
def SH:List Pg->Int->List Pg
 |[],_=>[]
 |g::l,k=>if g.k=k then l else g::SH l k
theorem Vb (g:Pg)(l:List Pg)(k:Int):SH (g::l) k=if g.k=k then l else g::SH l k:=rfl
theorem z2I (l:List Pg)(k:Int):delL (UR l) k=UR (SH l k):=by
 induction l with
 |nil=>rfl
 | cons g l ih =>
   show(if k=g.k then UR l else(g.k,ptr g.b 0)::delL (UR l) k)=_;rw[Vb];by_cases h:k=g.k
   ·rw[if_pos h,if_pos h.symm]
   ·rw[if_neg h,if_neg (λe=>h e.symm),ih];rfl
def T5:∀(l:List Pg) (k:Int),(SH l k).Sublist l
 |[],_=>List.Sublist.refl _
 | g :: l, k => by
   rw[Vb];split
   ·exact List.sublist_cons_self _ _
   ·exact(T5 l k).cons_cons _
def z1o {l:List Pg}(hn:(l.map (·.k)).Nodup)(k x:Int):x∈(SH l k).map (·.k)↔x∈l.map (·.k)/\x≠k:=by
 induction l with
 |nil=>simp[SH]
 | cons g l ih =>
   rw[List.map_cons,List.nodup_cons] at hn;rw[Vb];by_cases h:g.k=k
   ·rw[if_pos h,List.map_cons,List.mem_cons];constructor
    ·intro e;exact⟨.inr e,λe2=>hn.1 (by rw[h,<-e2];exact e)⟩
    ·rintro⟨e|e,e2⟩
     ·exact absurd (e.trans h) e2
     ·exact e
   ·rw[if_neg h,List.map_cons,List.map_cons,List.mem_cons,List.mem_cons];have:=ih hn.2;rw[this];constructor
    ·rintro(e|e)
     ·exact⟨.inl e,λe2=>h (by rw[<-e,e2])⟩
     ·exact⟨.inr e.1,e.2⟩
    ·rintro⟨e|e,e2⟩
     ·exact .inl e
     ·exact .inr ⟨e,e2⟩
def z38 {l:List Pg}{g:Pg}(hn:(l.map (·.k)).Nodup)(hg:g∈l):S4 (SH l g.k)+(if g.d then 1 else 0)=S4 l:=by
 induction l with
 |nil=>cases hg
 | cons a l ih =>
   rw[List.map_cons,List.nodup_cons] at hn;rw[Vb];by_cases h:a.k=g.k
   ·rw[if_pos h]
    have e:a=g:=by
     rcases List.mem_cons.1 hg with e| e
     ·exact e.symm
     ·exact absurd (List.mem_map.2 ⟨g,e,h.symm⟩) hn.1
    rw[e];unfold S4;rw[List.countP_cons]
   ·rw[if_neg h]
    have aa:g∈l:=by
     rcases List.mem_cons.1 hg with e| e
     ·exact absurd (by rw[e]) h
     ·exact e
    have:=ih hn.2 aa;unfold S4 at*;rw[List.countP_cons,List.countP_cons];omega
structure zcS (P:Rn)(txt:Int->OG)(K:Nat)(g:Option Int)(D':Dev)(l':List Pg):Prop where
 now:∀x,0<=x->x<(P.L.length:Int)->x∉l'.map (·.k)->D'.now x=txt x
 cl:∀q∈l',q.d=false->D'.now q.k=txt q.k
 sub:l'.Sublist P.l
 keys:∀x,x∈l'.map (·.k)↔x∈P.l.map (·.k)/\g≠some x
 down:D'.down=false
 due:D'.due=0
 B:D'.B=P.D.B
 N:D'.N=P.D.N
 ca:D'.calls+(S4 l':Int)<=(K:Int)
 cc:D'.cache.length+S4 l'<=K
 SB:D'.SB.length<=17592186044416
def We.zjf (h:We P txt K):zcS P txt K none P.D P.l:=
 ⟨λx h0 h1 hx=>h.out x h0 h1 λe=>hx ((h.keys x).2 e),h.cl,List.Sublist.refl _,λx=>by simp,h.down,h.due,rfl,rfl,h.ca,h.cc,h.SB⟩
def We.zh1 (h:We P txt K){g:Pg}(hg:g∈P.l):zcS P txt K (some g.k) (if g.d then(P.D.push g.k g.t).count else P.D) (SH P.l g.k):=by
 have zD:=z38 h.nd hg
 have hk:=z1o h.nd g.k
 have IC:=h.ca
 have Fa:=h.cc
 have dx:=T5 P.l g.k
 have i6:∀x,0<=x->x<(P.L.length:Int)->x∉(SH P.l g.k).map (·.k)->x=g.k\/¬P.A.held x:=λx h0 h1 hx=>by
  rw[hk,not_and] at hx;by_cases e:x=g.k
  ·exact .inl e
  ·exact .inr λe2=>hx ((h.keys x).2 e2) e
 have gH:∀q∈SH P.l g.k,q∈P.l/\q.k≠g.k:=λq hq=>⟨dx.subset hq,((hk q.k).1 (List.mem_map.2 ⟨q,hq,rfl⟩)).2⟩
 have rS:∀x,x∈(SH P.l g.k).map (·.k)↔x∈P.l.map (·.k)/\some g.k≠some x:=λx=>by
  rw[hk];simp only[ne_eq,Option.some.injEq];constructor
  ·rintro⟨a,b⟩;exact⟨a,λe=>b e.symm⟩
  ·rintro⟨a,b⟩;exact⟨a,λe=>b e.symm⟩
 cases hd:g.d with
 | true =>
   rw[hd] at zD;rw[if_pos O] at zD⊢;refine⟨λx h0 h1 hx=>?_,λq hq tJ=>?_,dx,rS,h.down,?_,rfl,rfl,?_,?_,h.SB⟩
   ·rw[z5A];rcases i6 x h0 h1 hx with e| e
    ·rw[if_pos e.symm,e,h.tx g hg]
    ·by_cases e2:g.k=x
     ·rw[if_pos e2,<-e2,h.tx g hg]
     ·rw[if_neg e2];exact h.out x h0 h1 e
   ·obtain⟨a,b⟩:=gH q hq;rw[z5A,if_neg λe=>b e.symm];exact h.cl q a tJ
   ·have:=h.due;show(if P.D.due=0 then(0:Int) else _)=0;rw[if_pos this]
   ·show P.D.calls+1+_<=_;omega
   ·show(P.D.cache++[_]).length+_<=_
    rw[List.length_append,List.length_singleton];omega
 | false =>
   rw[hd] at zD;rw[if_neg (by simp)] at zD⊢;refine⟨λx h0 h1 hx=>?_,λq hq tJ=>?_,dx,rS,h.down,h.due,rfl,rfl,by omega,by omega,h.SB⟩
   ·rcases i6 x h0 h1 hx with e| e
    ·rw[e];exact h.cl g hg hd
    ·exact h.out x h0 h1 e
   ·exact h.cl q (gH q hq).1 tJ
def We.zi4 (h:We P txt K)(h0:0<=no)(h1:no<(P.L.length:Int))(hh:¬P.A.held no)(oX:∀t,wt=some t->t.length=512){D':Dev}{l':List Pg}(hg:zcS P txt K (P.A.Rz no).2.2 D' l'){P':Rn}{b:Nat}{z:Int}
  (hA:P'.A=(P.A.Rz no).1) (hl:P'.l=l'++[⟨no,b,wt.getD (txt no),wt.isSome⟩]) (hL:P'.L=P.L) (hD:P'.D={D' with reads:=z}):We P' (ZC txt no wt) (K+wN wt):=by
 have ht:=Arc.z0P h.aok no
 have LS:=hg.ca
 have LU:=hg.cc
 have ku:∀x,x∈P'.l.map (·.k)↔x=no\/x∈l'.map (·.k):=λx=>by
  rw[hl,List.map_append,List.mem_append,List.map_singleton,List.mem_singleton,or_comm]
 have vT:∀x,P'.A.held x↔x=no\/x∈l'.map (·.k):=λx=>by
  rw[hA,ht.held,hg.keys,h.keys]
 have lZ:no∉l'.map (·.k):=λe=>hh ((h.keys no).1 ((hg.keys no).1 e).1)
 have qn:S4 P'.l=S4 l'+wN wt:=by
  rw[hl];unfold S4 wN;rw[List.countP_append,List.countP_singleton]
 refine⟨by rw[hA];exact ht.ok,by rw[hA,ht.size];exact h.asz,λx=>by rw[ku,vT],?_,λg jC=>?_,λg jC=>?_,λg jC hd=>?_,λx x0 x1 hx=>?_,λx x0 x1=>?_,by rw[hD];exact hg.down,by rw[hD];exact hg.due,by rw[hD,hL];exact hg.B.trans h.B,by rw[hD];exact hg.N.trans h.N,by rw[hD];show D'.calls+_<=_;omega,by rw[hD];show D'.cache.length+_<=_;omega,by rw[hD];exact hg.SB⟩
 ·rw[hl,List.map_append,List.nodup_append];refine⟨(hg.sub.map _).nodup h.nd,by simp,λa ha c hc e=>?_⟩;rw[List.map_singleton,List.mem_singleton] at hc;exact lZ (by rw[<-show a=no from e.trans hc];exact ha)
 ·rw[hL];rw[hl] at jC;rcases List.mem_append.1 jC with e| e
  ·exact h.rng g (hg.sub.subset e)
  ·rw[List.mem_singleton.1 e];exact⟨h0,h1⟩
 ·rw[hl] at jC;rcases List.mem_append.1 jC with e| e
  ·rw[RD _ _ (λe2=>lZ (by rw[<-e2];exact List.mem_map.2 ⟨g,e,rfl⟩))];exact h.tx g (hg.sub.subset e)
  ·rw[List.mem_singleton.1 e,Sa]
 ·rw[hD,z2o];rw[hl] at jC;rcases List.mem_append.1 jC with e| e
  ·rw[RD _ _ (λe2=>lZ (by rw[<-e2];exact List.mem_map.2 ⟨g,e,rfl⟩))];exact hg.cl g e hd
  ·rw[List.mem_singleton.1 e] at hd⊢
   have hw:wt=none:=by
    cases wt with
    |none=>rfl
    |some t=>cases hd
   rw[hw,ZO];exact hg.now no h0 h1 lZ
 ·rw[hL] at x1;rw[vT,not_or] at hx;rw[hD,z2o,RD _ _ hx.1];exact hg.now x x0 x1 hx.2
 ·rw[hL] at x1;by_cases e:x=no
  ·rw[e,Sa]
   cases hw:wt with
   |none=>exact h.len _ h0 h1
   |some t=>exact oX t hw
  ·rw[RD _ _ e];exact h.len x x0 x1
end
section
variable {w w':World}{P:Rn}{S:Nat->Prop}{txt:Int->OG}{K:Nat}
theorem Ut.cells (h:Ut w P):OR w P.s [ptr P.d 0,ptr P.m 0,ptr P.c 0,.map (some P.pm),I (P.fr:Int),I P.h,I P.mi,I P.wr,I 0,I 0,I 0,.bool false] 114:=h.OC
def We.zgw (h:We P txt K):P.D.Small K:=⟨by have:=h.ca;omega,by have:=h.cc;omega,trivial,h.SB⟩
def z1N (h:Ut w P)(hN:P.D.N=1):Pm prog 66 [ptr P.s 0] w λv w'=>v=I 512/\w'=w:=by
 have hB:=h.cells
 have cG:=zal h.dev
 rw[hN] at cG
 refine py (e:=[(0,_)]) func66 O ntmps66 O O$ QB O$ PG O$ qV (Qi XF O O)$ PW O$ Pf O$ Pu O$ OX UX O$ qV (OO U28 O O hB O)$ P4 zcv O (cG) ?_
 rintro _ w ⟨rfl,rfl⟩
 refine OU O$ OB func66 O ?_
 exact⟨_,rfl,rfl,rfl⟩
def zaq (h:Ut w P):Pm prog 143 [ptr P.s 0] w λv w'=>v=ptr P.d 0/\w'=w:=by
 have hB:=h.cells
 refine py (e:=[(0,_)]) func143 O ntmps143 O O$ QB O$ PG O$ qV (Qi XF O O)$ PW O$ Pf O$ Pu O$ OX UX O$ qV (OO U28 O O hB O)$ OU O$ OB func143 O ?_
 exact⟨_,rfl,rfl,rfl⟩
def z09 (h:Ut w P)(hd:P.D.down=false):Pm prog 125 [ptr P.s 0] w λv w'=>v=I 0/\w'=w:=by
 have hB:=h.cells
 have qn:=z9Y h.dev
 rw[hd] at qn
 refine py (e:=[(0,_)]) func125 O ntmps125 O O$ QB O$ Qx$ Pf O$ qV (Qi XF O O)$ OU O$ OJ O$ Pf O$ Pu O$ OX z7V O$ qV (OO U4 O O hB O)$ P8 O$ Pu O$ OX UX O ?_
 refine qV (OO U28 O O hB O)$ P4 zk5 O (qn) ?_
 rintro _ w ⟨rfl,rfl⟩
 refine PK O$ OU O$ Tu O$ OA$ QB O$ OB func125 O ?_
 exact⟨_,rfl,rfl,rfl⟩
theorem z4t (h:Ut w P)(nL:P.D.Small K)(qn:P.D.down=false)(LV:P.D.due=0)(LW:P.D.B=P.L.length)(jp:P.D.N=1)(hK:K<1000000000000){b:Nat}{t:OG}{d:Bool}{no:Int}(h0:0<=no)(h1:no<(P.L.length:Int))(ht:t.length=512)(hb:OR w b (pgC t d) 218)(lB:∀i,¬P.cp i b):
  Pm prog 167 [ptr P.s 0,I no,ptr b 0] w λv w'=>v=I 0/\∃Fd' wr',Ut w' {P with D:=if d then(P.D.push no t).count else P.D,Fd:=Fd',wr:=wr'}/\Kp (λj=>j=b\/P.cp 0 j\/P.cp 1 j) w w'/\(∀j,Fd' j->P.Fd j\/w.heap.size<=j):=by
 replace hb:OR w b [S t,.bool d,I 0] 218:=hb
 have hB:=h.cells
 have hg:=Ext.OT w
 have rh:P.s≠b:=λe=>lB 0 e.symm
 have LX:¬P.Fd P.s:=λe=>h.VF 0 1 (by decide) P.s O e
 have ID:¬P.Fd b:=lB 1
 refine py (e:=[(0,_),(1,_),(2,_)]) func167 O ntmps167 O O ?_
 cases d with
 | false =>
   refine QB O$ PG O$ Pu O$ OX VG O$ OX z3I O$ qV (OO U4 O O hb O)$ qV ((Sb O))$ OD$ OS O$ QB O$ OB func167 O (⟨_,rfl,rfl,P.Fd,P.wr,?_,Kp.refl _ _,λj e=> .inl e⟩);rw[if_neg (by simp)]
   exact h
 | true =>
   refine QB O$ PG O$ Pu O$ OX VG O$ OX z3I O$ qV (OO U4 O O hb O)$ qV ((Sb O)) ?_;have zE:=z6m no t (h.dev.ext hg) nL hK;rw[zbC qn LV ⟨h0,by rw[LW];exact h1⟩ (by rw[jp];exact ht)] at zE;dsimp only at zE;refine PW O$ It$ It$ R5 (λw'=>Kp P.Fd w w') O$ OZ 0 O O (hg.kp)$ OI 1 O (Q4 O) (hg.kp)$ OI 2 O (Pp UX O) (hg.kp)$ qT 3 O (λ_ h=>(OO U28 O O (h.OC hB LX) O)) (hg.kp)$ OZ 4 O O (hg.kp)$ OZ 5 O O (hg.kp)$ OI 6 O (Q4 O) (hg.kp)$ OI 7 O (Pp VG O) (hg.kp)$ OI 8 O (Pp z3J O) (hg.kp)$ qT 9 O (λ_ h=>(OO U9 O O (h.OC hb ID) O)) (hg.kp) ?_;refine SK 10 O zk7 O (zE) ?_;rintro _ w1 ⟨rfl,kS⟩;refine⟨hg.kp.trans kS.kpF,?_⟩;obtain⟨Fd',da,oG⟩:=((h.r (Ext.refl w)).ext hg).dev kS;have aL:Kp P.Fd w w1:=hg.kp.trans kS.kpF;have pR:∀j,Fd' j->P.Fd j\/w.heap.size<=j:=λj e=>(oG j e).imp id λe=>by have:=hg.size;omega
   refine OI 11 O (R7 O) (hg.kp.trans kS.kpF)$ qE$ Pf O$ Qf O ?_;have aj:=da.m.cells;refine PW O$ Pf O$ Pu O$ OX WU O$ OX zaZ O$ qV (OO U3 O O aj O)$ qV (zaU O O)$ Pu O$ OX WU O$ OX zaZ O$ OW O (QQ Q7 O O O aj (by simp)) ?_;rintro w2 ⟨am,aq⟩;obtain⟨z,hz⟩:∃z,IntKind.i64.wrap (P.wr+1)=z:=⟨_,rfl⟩;rw[hz] at am;have dw:=da.cnt (a:=P.h) (b:=P.mi) (c:=z) am aq;have cn:=aq.OC (aL.OC hb ID) (λe=>rh e.symm);refine OD$ Pn.qb (e:=[(2,_),(6,_)]) ?_;refine Pf O$ Pu O$ OX VG O$ OX z3I O$ OW O (QQ W3 O O O cn (by simp)) ?_;rintro w3 ⟨eG,av⟩
   have Fb:∀i,¬Rn.cp {P with D:=(P.D.push no t).count,Fd:=Fd',h:=P.h,mi:=P.mi,wr:=z} i b:=λi e=>by
    match i,e with
    |0,e=>exact lB 0 e
    | 1, e =>
      rcases pR b e with e| e
      ·exact lB 1 e
      ·have:=hb.lt;omega
    |2,e=>exact lB 2 e
    |3,e=>exact lB 3 e
    |4,e=>exact lB 4 e
    |5,e=>exact lB 5 e
   refine qM O$ OU O$ OB func167 O (⟨_,rfl,rfl,Fd',z,?_,?_,pR⟩)
   ·rw[if_pos O];exact dw.m.kp av λj ⟨i,hj⟩ e=>Fb i (e▸hj)
   ·exact((aL.OV λj e=> .inr (.inr e)).trans (aq.OV λj e=> .inr (.inl e))).trans (av.OV λj e=> .inl e)
end
structure Rn.Same (P P':Rn):Prop where
 s:P'.s=P.s
 d:P'.d=P.d
 m:P'.m=P.m
 gi:P'.gi=P.gi
 c:P'.c=P.c
 pm:P'.pm=P.pm
 p:P'.p=P.p
 fr:P'.fr=P.fr
 L:P'.L=P.L
theorem Rn.Same.trans {P P' P2:Rn}(h:P.Same P')(h2:P'.Same P2):P.Same P2:=
 ⟨h2.s.trans h.s,h2.d.trans h.d,h2.m.trans h.m,h2.gi.trans h.gi,h2.c.trans h.c,h2.pm.trans h.pm,h2.p.trans h.p,h2.fr.trans h.fr,h2.L.trans h.L⟩
def z19 {l:List Pg}{k:Int}{b:Nat}{t0 t:OG}{d0 d:Bool}(h:k∉l.map (·.k)):RR (l++[⟨k,b,t0,d0⟩]) k t d=l++[⟨k,b,t,d⟩]:=by
 unfold RR
 rw[List.map_append]
 congr 1
 ·conv=>rhs;rw[<-List.map_id l]
  refine List.map_congr_left λg hg=>?_;rw[if_neg λe=>h (List.mem_map.2 ⟨g,hg,e⟩)];rfl
 ·show [if k=k then _ else _]=_;rw[if_pos O]
section
variable {w w' w0:World}{P P0 P':Rn}{txt:Int->OG}{K:Nat}
theorem Ut.get (h:Ut w P){q:Pg}(hq:q∈P.l):Rg (UR P.l) q.k=some (ptr q.b 0):=
 z4F h.mp.nd (List.mem_map.2 ⟨q,hq,rfl⟩)
theorem Uo.write (h:Uo w0 P0 w P){D':Dev}{Fd':Nat->Prop}{wr':Int}{b:Nat}(hm:Ut w' {P with D:=D',Fd:=Fd',wr:=wr'})(hk:Kp (λj=>j=b\/P.cp 0 j\/P.cp 1 j) w w')(hF:∀j,Fd' j->P.Fd j\/w.heap.size<=j)(hb:P0.fp b\/w0.heap.size<=b):Uo w0 P0 w' {P with D:=D',Fd:=Fd',wr:=wr'}:=
 ⟨hm,λj ⟨i,hj⟩=>by
  match i,hj with
  |0,e=>exact h.fp j ⟨0,e⟩
  | 1, e =>
    rcases hF j e with e| e
    ·exact h.fp j ⟨1,e⟩
    ·exact .inr (by have:=h.k.size;omega)
  |2,e=>exact h.fp j ⟨2,e⟩
  |3,e=>exact h.fp j ⟨3,e⟩
  |4,e=>exact h.fp j ⟨4,e⟩
  |5,e=>exact h.fp j ⟨5,e⟩,h.k.An hk λj e=>by
  rcases e with e|e| e
  ·rw[e];exact hb.symm
  ·exact(h.fp j ⟨0,e⟩).symm
  ·exact(h.fp j ⟨1,e⟩).symm⟩
def z0i (hr:Uo w0 P0 w P)(hI:We P txt K)(hK:K<1000000000000){no:Int}(h0:0<=no)(h1:no<(P.L.length:Int))(wt:Option OG)(oX:∀t,wt=some t->t.length=512){x:Nat}{x0:Value}(i6:w0.heap.size<=x)(eA:∀i,¬P.cp i x)(fA:OR w x [x0] 9){f:Nat}(p8:CF prog f)
  (Fc:∀(w1:World) (b:Nat) (t:OG) (d:Bool),b≠x->OR w1 b (pgC t d) 218->OR w1 x [x0] 9->Pm prog f [ptr b 0,ptr x 0] w1 λv w2=>v= .tuple #[]/\OR w2 b (pgC (wt.getD t) (wt.isSome ||d)) 218/\OR w2 x [S (wt.getD t)] 9/\Kp (λj=>j=if wt.isSome then b else x) w1 w2):
  Pm prog 126 [ptr P.s 0,I no,.bool wt.isSome,.func (.func f) #[] #[ptr x 0]] w λv w'=>v=I 0/\OR w' x [S (wt.getD (txt no))] 9/\∃P',Uo w0 P0 w' P'/\We P' (ZC txt no wt) (K+wN wt)/\P.Same P'/\∀i,¬P'.cp i x:=by
 have hB:=hr.m.cells
 have fD:=Ws hr.m.dev
 rw[hI.B] at fD
 have lx:=fA.lt
 have gI:=Arc.z0P hI.aok no
 obtain⟨T,hT⟩:∃T,P.A.Rz no=T:=⟨_,rfl⟩
 have eX:=z6N hr.m.arc hI.aok hI.asz (k:=no)
 rw[hT] at gI eX
 obtain⟨A2,ZQ,g⟩:=T
 dsimp only at gI eX
 have n4096:=hr.m.ext.n
 refine py (e:=[(0,_),(1,_),(2,_),(3,_)]) func126 O ntmps126 O O$ QB O$ PG O$ Qq O$ PF$ P8 O$ OK O$ Pu O$ OX UX O$ qV (OO U28 O O hB O)$ P4 z48 O (fD) ?_
 rintro _ w ⟨rfl,rfl⟩
 refine Te O$ PF$ PK O$ PW O$ Pf O$ Pu O$ OX z7Y O$ qV (OO zci O O hB O)$ OK O$ P4 zjq O (eX) ?_
 rintro _ w1 ⟨rfl,V2,rT⟩
 have da:=hr.arc rT
 have Fe:=rT.k.OC fA (eA 3)
 have z1:=rT.k.size
 refine OK O$ qV (Rw (v:=zdV ZQ g) O O)$ qV (Rw (v:=I 0) O O)$ OM O O (RN (cs:=[_,_,_]) PA O) ?_
 rintro _ w2 ⟨b9,rfl,oI,ae,cI⟩
 have z2:=ae.size
 refine OW O (PO (news:=RJ ZQ g) PA O O O O cI (by simp)) ?_
 rintro w3 ⟨cT,av⟩
 replace cT:OR w3 b9 [.bool ZQ,.bool g.isSome,I (g.getD 0)] 264:=cT
 have aO:Ext w1 w3:=ae.An av (λj e=>by omega)
 have ct:=da.ext aO
 have zF:=aO.OC Fe
 have z01:=da.k.size
 have z13:=aO.size
 have eO:∀i,¬Rn.cp {P with A:=A2,V:=V2} i x:=λi e=>by
  match i,e with
  |0,e=>exact eA 0 e
  |1,e=>exact eA 1 e
  |2,e=>exact eA 2 e
  | 3, e =>
    rcases rT.fp x e with e| e
    ·exact eA 3 e
    ·omega
  |4,e=>exact eA 4 e
  |5,e=>exact eA 5 e
 have zH:∀i,¬Rn.cp {P with A:=A2,V:=V2} i b9:=da.m.new (by omega)
 have Oa:b9≠x:=by omega
 have l93:=cT.lt
 have kF:=ct.m.cells
 dsimp only at kF
 refine OU O$ Pn.qb (e:=[(0,_),(1,_),(2,_),(3,_),(8,_),(9,_),(10,_)]) ?_
 refine PG O$ Qf O$ PW O$ It$ qN O$ OX zde O ?_
 cases ZQ with
 | true =>
   have bE:=gI.ZQ.1 O
   obtain⟨q,hq,Ff⟩:∃q∈P.l,q.k=no:=by
    obtain⟨q,a,b⟩:=List.mem_map.1 ((hI.keys no).2 bE);exact⟨q,a,b⟩
   subst Ff;refine qV (OO U4 O O cT O)$ OD$ OS O$ Pf O$ Pu O$ OX WU O$ OX zaL O$ qV (OO U3 O O kF O)$ qV (zaU O O)$ Pu O$ OX WU O$ OX zaL O$ OW O (QQ Q7 O O O kF (by simp)) ?_;rintro w4 ⟨aK,ao⟩;obtain⟨z,hz⟩:∃z,IntKind.i64.wrap (P.h+1)=z:=⟨_,rfl⟩;rw[hz] at aK;have bM:=ct.cnt (a:=z) (b:=P.mi) (c:=P.wr) aK ao;have eP:=bM.m.cells;dsimp only at eP;have qo:=ao.OC zF (eA 0);have dI:=bM.m.get hq;dsimp only at dI;have rg:OR w4 q.b (pgC q.t q.d) 218:=bM.m.pg q hq;have oY:q.b≠x:=λe=>eA 5 ⟨q,hq,e⟩;refine qM O$ P8 O$ Pu O$ OX VP O$ qV (OO YF O O eP O)$ OK O$ qV (ylk (k:=q.k) (K:=KI) YF (Sd U3) zcq O O bM.m.mp.l) ?_;dsimp only;rw[dI];refine Qz O O (RY p8 O O) (Fc w4 q.b q.t q.d oY rg qo) ?_;rintro _ w5 ⟨rfl,Fg,qp,ak⟩;refine OD$ Pn.qb (e:=[(0,_),(1,_),(2,_),(3,_),(8,_),(9,_),(10,_)]) ?_;refine QB O$ OB func126 O ?_;have Fh:=hI.tx q hq;refine⟨_,rfl,rfl,by rw[<-Fh];exact qp,?_⟩
   cases wt with
   | none =>
     have zI:∀i,¬Rn.cp {P with A:=A2,V:=V2,h:=z,mi:=P.mi,wr:=P.wr} i x:=λi e2=>by
      match i,e2 with
      |0,e2=>exact eO 0 e2
      |1,e2=>exact eO 1 e2
      |2,e2=>exact eO 2 e2
      |3,e2=>exact eO 3 e2
      |4,e2=>exact eO 4 e2
      |5,e2=>exact eO 5 e2
     refine⟨_,bM.loc ak (λj e=>⟨.inr (by rw[show j=x from e];exact i6),by rw[show j=x from e];exact zI⟩),hI.ZQ hq oX (by rw[hT]) ?_ O O,⟨rfl,rfl,rfl,rfl,rfl,rfl,rfl,rfl,rfl⟩,zI⟩;show P.l=RR P.l q.k q.t q.d
     exact(z1S hI.nd hq).symm
   | some t =>
     refine⟨_,bM.zj8 hq Fg ak,hI.ZQ hq oX (by rw[hT]) O O O,⟨rfl,rfl,rfl,rfl,rfl,rfl,rfl,rfl,rfl⟩,λi e2=>?_⟩
     match i,e2 with
     |0,e2=>exact eO 0 e2
     |1,e2=>exact eO 1 e2
     |2,e2=>exact eO 2 e2
     |3,e2=>exact eO 3 e2
     |4,e2=>exact eO 4 e2
     | 5, ⟨g', cP, e2⟩ =>
       have h3:g'.b∈P.l.map (·.b):=by rw[<-z3Z P.l q.k];exact List.mem_map.2 ⟨g',cP,rfl⟩
       obtain⟨g2,a,b⟩:=List.mem_map.1 h3
       exact eO 5 ⟨g2,a,b.trans e2⟩
 | false =>
   have Fi:¬P.A.held no:=λe=>by have:=gI.ZQ.2 e;cases this
   refine qV (OO U4 O O cT O)$ PW O$ Pf O$ Pu O$ OX WU O$ OX zbp O$ qV (OO U3 O O kF O)$ qV (zaU O O)$ Pu O$ OX WU O$ OX zbp O$ OW O (QQ Q7 O O O kF (by simp)) ?_;rintro w4 ⟨aK,ao⟩;obtain⟨z,hz⟩:∃z,IntKind.i64.wrap (P.mi+1)=z:=⟨_,rfl⟩;rw[hz] at aK;have bM:=ct.cnt (a:=P.h) (b:=z) (c:=P.wr) aK ao;have eP:=bM.m.cells;dsimp only at eP;have qo:=ao.OC zF (eA 0);have Bx:b9≠P.s:=λe=>zH 0 e;have mq:=ao.OC cT Bx;have z4:=ao.size;refine OD$ It$ qN O$ OX zdk O$ qV (OO U4 O O mq O)$ OD ?_
   have LY:∀(D':Dev) (Fd':Nat->Prop) (l':List Pg) (wr':Int),(∀j,Fd' j->P.Fd j\/w.heap.size<=j)->l'.Sublist P.l->∀b,(∀i,¬Rn.cp {P with A:=A2,V:=V2} i b)->b<w.heap.size\/(∀j,Fd' j->j≠b)->∀i,¬Rn.cp {P with A:=A2,V:=V2,D:=D',Fd:=Fd',l:=l',mi:=z,wr:=wr'} i b:=λD' Fd' l' wr' hF hl b hb cn i e=>by
    match i,e with
    |0,e=>exact hb 0 e
    | 1, e =>
      rcases cn with h| h
      ·rcases hF b e with e| e
       ·exact hb 1 e
       ·omega
      ·exact h b e O
    |2,e=>exact hb 2 e
    |3,e=>exact hb 3 e
    |4,e=>exact hb 4 e
    |5,⟨q,hq,e⟩=>exact hb 5 ⟨q,hl.subset hq,e⟩
   refine PI (λe' w'=>e'=[(0,ptr P.s 0),(1,I no),(2,.bool wt.isSome),(3,.func (.func f) #[] #[ptr x 0])]/\∃D' Fd' l' wr',Uo w0 P0 w' {P with A:=A2,V:=V2,D:=D',Fd:=Fd',l:=l',mi:=z,wr:=wr'}/\zcS P txt K g D' l'/\OR w' x [x0] 9/\(∀j,Fd' j->P.Fd j\/w.heap.size<=j/\j≠x)) ?ep$ λep=>?iT
   case ep =>
    rintro e' w5 ⟨rfl,D',Fd',l',wr',co,ee,qp,vM⟩;have lZ:no∉l'.map (·.k):=λe=>Fi ((hI.keys no).1 ((ee.keys no).1 e).1);have z5:=co.k.size;have lx5:=qp.lt
    have eQ:∀i,¬Rn.cp {P with A:=A2,V:=V2,D:=D',Fd:=Fd',l:=l',mi:=z,wr:=wr'} i x:=λi e=>by
     match i,e with
     |0,e=>exact eA 0 e
     | 1, e =>
       rcases vM x e with e| e
       ·exact eA 1 e
       ·exact e.2 O
     |2,e=>exact eA 2 e
     |3,e=>exact eO 3 e
     |4,e=>exact eA 4 e
     |5,⟨q,hq,e⟩=>exact eA 5 ⟨q,ee.sub.subset hq,e⟩
    refine qN O$ qV (Sk (cs:=[_,_,_]) zk9 O zhD O O)$ OM O O (Rm O (cs:=pgC [] false) O) ?_;rintro _ w6 ⟨b,rfl,hb,aI,aQ⟩;replace aQ:OR w6 b [S [],.bool false,I 0] 218:=aQ;have cF:=co.ext aI;have nZ:=aI.OC qp;have o3:b≠x:=by omega
    have gJ:∀i,¬Rn.cp {P with A:=A2,V:=V2,D:=D',Fd:=Fd',l:=l',mi:=z,wr:=wr'} i b:=co.m.new (by omega);have lb6:=aQ.lt
    have zJ:Rg (UR l') no=none:=z2Z λe=>lZ (by
     unfold UR at e;rw[List.map_map] at e
     exact e)
    refine OU O$ PG O$ qV ((Sb O)) ?_
    cases wt with
    | none =>
      refine OD$ OS O ?_;have jq:=cF.m.cells;dsimp only at jq;have dB:=zay no cF.m.dev (k:=K) ⟨by have:=ee.ca;show D'.calls<=_;omega,by have:=ee.cc;show D'.cache.length<=_;omega,trivial,ee.SB⟩ hK
      have Fj:D'.read no=({D' with reads:=IntKind.i64.wrap (D'.reads+1)},txt no,0):=by
       have hh:D'.has no=true:=by
        have:=ee.B;have:=hI.B;simp[Dev.has];omega
       unfold Dev.read;rw[if_neg (by rw[ee.down];simp),if_neg (by rw[hh];simp),ee.now no h0 h1 lZ]
      dsimp only at dB;rw[Fj] at dB;dsimp only at dB;refine Qm O$ Pu O$ OX UX O$ qV (OO U28 O O jq O)$ OK O$ P4 zi3 O (dB) ?_;rintro _ w7 ⟨rfl,rO⟩;obtain⟨Fd7,zK,zL⟩:=cF.dev rO;have eJ:Kp Fd' w6 w7:=rO.kpF;have bP:=eJ.OC aQ (gJ 1);have uf:=eJ.OC nZ (eQ 1);refine OK O$ qV (Rw (v:=S (txt no)) O O)$ qV (Rw (v:=I 0) O O)$ Pu O$ OX VG O$ OX z3J O$ OW O (QQ ti9 O O O bP (by simp)) ?_;rintro w8 ⟨ce,aR⟩;replace ce:OR w8 b (pgC (txt no) false) 218:=ce
      have ug:∀i,¬Rn.cp {P with A:=A2,V:=V2,D:={D' with reads:=IntKind.i64.wrap (D'.reads+1)},Fd:=Fd7,l:=l',mi:=z,wr:=wr'} i b:=λi e=>by
       match i,e with
       |0,e=>exact gJ 0 e
       | 1, e =>
         rcases zL b e with e| e
         ·exact gJ 1 e
         ·omega
       |2,e=>exact gJ 2 e
       |3,e=>exact gJ 3 e
       |4,e=>exact gJ 4 e
       |5,e=>exact gJ 5 e
      have kG:∀i,¬Rn.cp {P with A:=A2,V:=V2,D:={D' with reads:=IntKind.i64.wrap (D'.reads+1)},Fd:=Fd7,l:=l',mi:=z,wr:=wr'} i x:=λi e=>by
       match i,e with
       |0,e=>exact eQ 0 e
       | 1, e =>
         rcases zL x e with e| e
         ·exact eQ 1 e
         ·have:=nZ.lt;omega
       |2,e=>exact eQ 2 e
       |3,e=>exact eQ 3 e
       |4,e=>exact eQ 4 e
       |5,e=>exact eQ 5 e
      have fU:=zK.loc aR (λj e=>by rw[show j=b from e];exact⟨.inr (by omega),ug⟩);have Fk:=aR.OC uf (λe=>o3 e.symm);have zM:=fU.m.cells;dsimp only at zM;refine Qt O$ Qf O$ OD$ Pn.qb (e:=[(0,_),(1,_),(3,_),(10,_),(13,_),(106,_)]) ?_;refine Tu O$ Pf O$ Pu O$ OX VP O$ qV (OO YF O O zM O)$ P8 O$ OW O (zgh (k:=no) (K:=KI) YF (Sd U3) O O O fU.m.mp) ?_;rintro w9 ⟨qq,aM⟩;dsimp only at qq;rw[UG _ _ _ zJ] at qq;have i9:=fU.ins (g:=⟨no,b,txt no,false⟩) ⟨by dsimp only;omega,ug⟩ ce (by unfold UR at qq⊢;rw[List.map_append];exact qq) aM;have cI:=aM.OC ce (ug 4);have uh:=aM.OC Fk (kG 4);refine qM O$ P8 O$ Qz O O (RY p8 O O) (Fc w9 b (txt no) false o3 cI uh) ?_;rintro _ w10 ⟨rfl,rU,o4,ar⟩;refine qM O$ OU O$ OB func126 O ?_
      have zI:∀i,¬Rn.cp {P with A:=A2,V:=V2,D:={D' with reads:=IntKind.i64.wrap (D'.reads+1)},Fd:=Fd7,l:=l'++[⟨no,b,txt no,false⟩],mi:=z,wr:=wr'} i x:=λi e2=>by
       match i,e2 with
       |0,e2=>exact kG 0 e2
       |1,e2=>exact kG 1 e2
       |2,e2=>exact kG 2 e2
       |3,e2=>exact kG 3 e2
       |4,e2=>exact kG 4 e2
       | 5, ⟨q, hq, e2⟩ =>
         rcases List.mem_append.1 hq with e3|e3
         ·exact kG 5 ⟨q,e3,e2⟩
         ·rw[List.mem_singleton.1 e3] at e2;exact o3 e2
      exact⟨_,rfl,rfl,o4,_,i9.loc ar (λj e=>⟨.inr (by rw[show j=x from e];exact i6),by rw[show j=x from e];exact zI⟩),hI.zi4 h0 h1 Fi oX (by rw[hT];exact ee) (by rw[hT]) O O O,⟨rfl,rfl,rfl,rfl,rfl,rfl,rfl,rfl,rfl⟩,zI⟩
    | some t =>
      refine OD$ OJ O ?_;have jq:=cF.m.cells;dsimp only at jq;refine OE$ Pf O$ Pu O$ OX VP O$ qV (OO YF O O jq O)$ P8 O$ OW O (zgh (k:=no) (K:=KI) YF (Sd U3) O O O cF.m.mp) ?_;rintro w9 ⟨qq,aM⟩;dsimp only at qq;rw[UG _ _ _ zJ] at qq;have i9:=cF.ins (g:=⟨no,b,[],false⟩) ⟨by dsimp only;omega,gJ⟩ aQ (by unfold UR at qq⊢;rw[List.map_append];exact qq) aM;have cI:=aM.OC aQ (gJ 4);have uh:=aM.OC nZ (eQ 4);refine qM O$ P8 O$ Qz O O (RY p8 O O) (Fc w9 b [] false o3 cI uh) ?_;rintro _ w10 ⟨rfl,rU,o4,ar⟩;refine qM O$ OU O$ OB func126 O ?_;have nI:=i9.zj8 (g:=⟨no,b,[],false⟩) (List.mem_append_right _ (List.mem_singleton.2 O)) rU ar;refine⟨_,rfl,rfl,o4,_,nI,hI.zi4 h0 h1 Fi oX (by rw[hT];exact ee) (by rw[hT]) (z19 lZ) O O,⟨rfl,rfl,rfl,rfl,rfl,rfl,rfl,rfl,rfl⟩,λi e2=>?_⟩
      match i,e2 with
      |0,e2=>exact eQ 0 e2
      |1,e2=>exact eQ 1 e2
      |2,e2=>exact eQ 2 e2
      |3,e2=>exact eQ 3 e2
      |4,e2=>exact eQ 4 e2
      | 5, ⟨q, hq, e2⟩ =>
        have e4:=z19 (b:=b) (t0:=[]) (t:=(some t).getD []) (d0:=false) (d:=(some t).isSome ||false) lZ;have LZ:q∈l'++[⟨no,b,(some t).getD [],(some t).isSome ||false⟩]:=by rw[<-e4];exact hq
        rcases List.mem_append.1 LZ with e3|e3
        ·exact eQ 5 ⟨q,e3,e2⟩
        ·rw[List.mem_singleton.1 e3] at e2;exact o3 e2
   case iT=>
    cases g with
    | none =>
      refine Tu O ?_
      exact(ep _ _ ⟨rfl,_,_,_,P.wr,bM,hI.zjf,qo,λj e=> .inl e⟩).qb
    | some gk =>
      obtain⟨M0,M1⟩:=gI.gone gk O
      obtain⟨q,hq,Ff⟩:∃q∈P.l,q.k=gk:=by
       obtain⟨q,a,b⟩:=List.mem_map.1 ((hI.keys gk).2 M0);exact⟨q,a,b⟩
      subst Ff;have dI:=bM.m.get hq;dsimp only at dI;have ag:=Ext.OT w4;refine OS O$ It$ R5 (λw'=>Ext w4 w') O$ OZ 0 O O (ag)$ OI 1 O (Q4 O) ag$ OI 2 O (Pp VP O) ag$ qT 3 O (λ_ h=>(OO YF O O (h.OC eP) O)) ag$ OI 4 O (Pp z3T O) ag$ qT 5 O (λ_ h=>(OO U3 O O (h.OC mq) O)) ag$ qT 6 O (λ_ h=>ylk (k:=q.k) (K:=KI) YF (Sd U3) zcq O O (bM.m.ext' h).mp.l) ag ?_;dsimp only;rw[dI];refine OI 7 O (R7 O) ag$ qE$ Pn.qb (e:=[(0,_),(1,_),(2,_),(3,_),(8,_),(9,_),(10,_),(11,_)]) ?_;refine It ?_;have cS:=Ext.OT w4.drew;have jr:=ag.OC eP;have mb:=ag.OC mq;have co:=bM.ext (ag.trans cS);refine P7 [6] (λw'=>Ext w4.drew w') (by kernel_rfl) O$ PL 0 O O (cS)$ P9 1 O (Q4 O) cS$ P9 2 O (Pp VP O) cS$ qL 3 O (λ_ h=>(OO YF O O (h.OC jr) O)) cS$ P9 4 O (Pp z3T O) cS$ qL 5 O (λ_ h=>(OO U3 O O (h.OC mb) O)) cS$ SM [6]$ qO 6$ zaQ (i:=6) O O (zgn (k:=q.k) (K:=KI) YF (Sd U3) O O co.m.mp O) ?_;rintro _ w6 ⟨Fl,aP⟩;refine⟨trivial,?_⟩;dsimp only at Fl;rw[z2I] at Fl;have cF:=co.del (T5 P.l q.k) Fl aP;have Fn:OR w4 q.b (pgC q.t q.d) 218:=bM.m.pg q hq;have zN:q.b≠P.pm:=λe=>bM.m.VF 5 4 (by decide) q.b ⟨q,hq,rfl⟩ e;have sW:=aP.OC ((ag.trans cS).OC Fn) zN
      have gJ:∀i,¬Rn.cp {P with A:=A2,V:=V2,h:=P.h,mi:=z,wr:=P.wr,l:=SH P.l q.k} i q.b:=λi e=>by
       match i,e with
       |0,e=>exact bM.m.VF 5 0 (by decide) q.b ⟨q,hq,rfl⟩ e
       |1,e=>exact bM.m.VF 5 1 (by decide) q.b ⟨q,hq,rfl⟩ e
       |2,e=>exact bM.m.VF 5 2 (by decide) q.b ⟨q,hq,rfl⟩ e
       |3,e=>exact bM.m.VF 5 3 (by decide) q.b ⟨q,hq,rfl⟩ e
       |4,e=>exact zN e
       | 5, ⟨q2, fF, e⟩ =>
         have e2:q2=q:=SX bM.m.pnd ((T5 P.l q.k).subset fF) hq e;have:=((z1o hI.nd q.k q2.k).1 (List.mem_map.2 ⟨q2,fF,rfl⟩)).2;exact this (by rw[e2])
      have qr:=hI.rng q hq;have Fh:=hI.tx q hq;have yf:q.t.length=512:=by rw[Fh];exact hI.len q.k qr.1 qr.2
      have nZ:=aP.OC ((ag.trans cS).OC qo) (eO 4);have jq:=cF.m.cells;have Fo:=aP.OC ((ag.trans cS).OC mq) (zH 4);have z46:=(ag.trans cS).size;have z56:=aP.size;refine qE$ Pf O$ OX z3T O$ qV (OO U3 O O Fo O)$ OK O$ P4 zgS O (z4t cF.m hI.zgw hI.down hI.due hI.B hI.N hK qr.1 qr.2 yf sW gJ) ?_;rintro _ w7 ⟨rfl,Fd7,wr7,gG,aC,zL⟩;have zK:=cF.write gG aC zL (bM.fp q.b ⟨5,q,hq,rfl⟩);have oY:q.b≠x:=λe=>eA 5 ⟨q,hq,e⟩
      have uf:=aC.OC nZ (λe=>by
       rcases e with e|e| e
       ·exact oY e.symm
       ·exact eA 0 e
       ·exact eA 1 e)
      refine Qt O$ Qf O$ PW O ?_;exact(ep _ _ ⟨rfl,_,Fd7,_,wr7,zK,hI.zh1 hq,uf,λj e=>(zL j e).imp id λe=>⟨by omega,by omega⟩⟩).qb
end
section
variable {w w':World}{P P':Rn}{txt:Int->OG}{K:Nat}
def z9h {b x:Nat}{t:OG}{d:Bool}{x0:Value}(fA:b≠x)(hb:OR w b (pgC t d) 218)(hx:OR w x [x0] 9):Pm prog 127 [ptr b 0,ptr x 0] w λv w2=>v= .tuple #[]/\OR w2 b (pgC t d) 218/\OR w2 x [S t] 9/\Kp (λj=>j=x) w w2:=by
 replace hb:OR w b [S t,.bool d,I 0] 218:=hb
 refine py (e:=[(0,_),(1,_)]) func127 O ntmps127 O O$ Rh O$ Pu O$ OX VG O$ OX z3J O$ qV (OO U9 O O hb O)$ OW O (QQ ti9 O O O hx (by simp)) ?_
 rintro w1 ⟨ad,aL⟩
 refine OD$ Qv func127 O ?_
 exact⟨_,rfl,rfl,aL.OC hb fA,ad,aL⟩
def z7t {b x:Nat}{t s:OG}{d:Bool}(fA:b≠x)(hb:OR w b (pgC t d) 218)(hx:OR w x [S s] 9):Pm prog 145 [ptr b 0,ptr x 0] w λv w2=>v= .tuple #[]/\OR w2 b (pgC s true) 218/\OR w2 x [S s] 9/\Kp (λj=>j=b) w w2:=by
 replace hb:OR w b [S t,.bool d,I 0] 218:=hb
 refine py (e:=[(0,_),(1,_)]) func145 O ntmps145 O O$ Rh O$ qV (OO U9 O O hx O)$ qV (Sk (cs:=[_,_]) z89 O zgM O O)$ Pu O$ OX VG O$ OW O (PO (news:=[S s,.bool true]) z89 O O O O hb (by simp)) ?_
 rintro w1 ⟨bU,aL⟩
 refine OD$ Qv func145 O ?_
 exact⟨_,rfl,rfl,bU,aL.OC hx (λe=>fA e.symm),aL⟩
def z6W (hm:Ut w P)(hI:We P txt K)(hK:K<1000000000000){no:Int}(h0:0<=no)(h1:no<(P.L.length:Int)):Pm prog 84 [ptr P.s 0,I no] w λv w'=>v= .tuple #[S (txt no),I 0]/\∃P',Uo w P w' P'/\We P' txt K/\P.Same P':=by
 refine py (e:=[(0,_),(1,_)]) func84 O ntmps84 O O$ qN O$ OM O O (RN (cs:=[_]) ti9 O) ?_
 rintro _ w1 ⟨x,rfl,hx,ad,hB⟩
 have da:=hm.r ad
 have eA:∀i,¬P.cp i x:=hm.new (by omega)
 refine OU O$ PG O$ P4 zeb O (z09 da.m hI.down) ?_
 rintro _ w1 ⟨rfl,rfl⟩
 refine Qt O$ Qf O$ PW O$ Qm O$ qV (ymf (first:=[]) (caps:=[.tmp 4]) O O)$ P4 zfd O (z0i da hI hK h0 h1 none (λt e=>by cases e) (by omega) eA hB zk0 (λw1 b t d fA hb hx=>z9h fA hb hx)) ?_
 rintro _ w2 ⟨rfl,am,P',dw,cR,df,zO⟩
 rw[ZO] at cR
 replace am:OR w2 x [S (txt no)] 9:=am
 refine Qw O$ qV (OO U9 O O am O)$ OK O$ OW O (QQ ti9 O O O am (by simp)) ?_
 rintro w3 ⟨au,av⟩
 replace au:OR w3 x [S (txt no)] 9:=au
 refine OU O$ Po func84 (.cell1 U9 O O ((au).cell _) (.tmp O .nil)) ?_
 exact⟨_,rfl,rfl,P',dw.loc av (λj e=>by rw[show j=x from e];exact⟨.inr (by omega),zO⟩),cR,df⟩
def z9W (hm:Ut w P)(hI:We P txt K)(hK:K<1000000000000){no:Int}(h0:0<=no)(h1:no<(P.L.length:Int))(t:OG)(ht:t.length=512):Pm prog 105 [ptr P.s 0,I no,S t] w λv w'=>v=I 0/\∃P',Uo w P w' P'/\We P' (ZC txt no (some t)) (K+1)/\P.Same P':=by
 refine py (e:=[(0,_),(1,_),(2,_)]) func105 O ntmps105 O O$ qN O$ OM O O (Rm O (cs:=[S t]) O) ?_
 rintro _ w1 ⟨x,rfl,hx,ad,hB⟩
 have da:=hm.r ad
 have eA:∀i,¬P.cp i x:=hm.new (by omega)
 refine OU O$ PG O$ P4 zeb O (z09 da.m hI.down) ?_
 rintro _ w1 ⟨rfl,rfl⟩
 refine Qt O$ Qf O ?_
 have hg:=Ext.OT w1
 refine PW O$ It$ It$ R5 (λw'=>Ext w1 w') O$ qT 0 O (λ_ h=>OO U9 O O (h.OC hB) O) hg$ OI 1 O (SV U9 O) hg$ OZ 2 O O (hg)$ SK 3 O z5P O (z1N (da.m.ext' hg) hI.N) ?_
 rintro _ w2 ⟨rfl,rfl⟩
 refine⟨hg,?_⟩
 refine OI 4 O (yne O O) hg$ Uc$ qE$ Tu O$ Qm O$ qV (ymf (first:=[]) (caps:=[.tmp 5]) O O)$ P4 zfd O (z0i (da.ext hg) hI hK h0 h1 (some t) (λs e=>by cases e;exact ht) (by omega) eA (hg.OC hB) ziV (λw1 b t2 d fA hb hx=>z7t fA hb hx)) ?_
 rintro _ w2 ⟨rfl,am,P',dw,cR,df,zO⟩
 refine OU O$ OB func105 O ?_
 exact⟨_,rfl,rfl,P',dw,cR,df⟩
def z6U (hm:Ut w P){a n:Nat}(hp:Pre P.L a)(cX:1<=n)(oW:a+n<=P.L.length):Pm prog 67 [ptr P.s 0,I (n:Int)] w λv w'=>v= .tuple #[.agg #[I (a:Int),I (n:Int)],I 0]/\Uo w P w' {P with L:=Qh P.L a n true}:=by
 refine py (e:=[(0,_),(1,_)]) func67 O ntmps67 O O$ qN O$ OM O O (RN (cs:=[_,_]) R6 O) ?_
 rintro _ w1 ⟨x,rfl,hx,ad,hB⟩
 have da:=hm.r ad
 have eA:∀i,¬P.cp i x:=hm.new (by omega)
 have iS:=da.m.cells
 refine OU O$ PG O$ qV (Qi XF O O)$ PW O$ Pf O$ Pu O$ OX z7Q O$ qV (OO U51 O O iS O)$ OK O$ P4 zhn O (z5Q da.m.ext hp cX oW) ?_
 rintro _ w2 ⟨rfl,dF,aq⟩
 have dw:=da.exM dF aq
 have am:=aq.OC hB (λe=>eA 2 (.inr e))
 refine qV (Rw (v:= .agg #[I (a:Int),I (n:Int)]) O O)$ qV (Rw (v:=I 0) O O)$ OW O (PO (news:=[I (a:Int),I (n:Int)]) R6 O O O O am (by simp)) ?_
 rintro w3 ⟨au,av⟩
 replace au:OR w3 x [I (a:Int),I (n:Int)] 119:=au
 refine OU O$ Po func67 (.cell Xu O R6 O (OR.cells (n:=2) au (news:=[_,_]) O) O (.tmp O .nil)) ?_
 refine⟨_,rfl,rfl,dw.loc av (λj e=>by
  rw[show j=x from e];refine⟨.inr (by omega),λi e2=>?_⟩
  match i,e2 with
  |0,e2=>exact eA 0 e2
  |1,e2=>exact eA 1 e2
  |2,e2=>exact eA 2 e2
  |3,e2=>exact eA 3 e2
  |4,e2=>exact eA 4 e2
  |5,e2=>exact eA 5 e2)⟩
def We.Qj (h:We P txt K){L':List Bool}(hl:L'.length=P.L.length):We {P with L:=L'} txt K:=
 ⟨h.aok,h.asz,h.keys,h.nd,λg hg=>by rw[hl];exact h.rng g hg,h.tx,h.cl,λx h0 h1=>by rw[hl] at h1;exact h.out x h0 h1,λx h0 h1=>by rw[hl] at h1;exact h.len x h0 h1,h.down,h.due,h.B.trans hl.symm,h.N,h.ca,h.cc,h.SB⟩
def za7 {d m gi:Nat}{L:List Bool}{Fd:Nat->Prop}(hd:Wi w d (Dev.fresh L.length 1) Fd)(he:XB w m gi L)(Bz:¬Fd m/\¬Fd gi)(n:Nat)(cX:1<=n)(iu:n<=1000):Pm prog 34 [ptr d 0,I (n:Int),ptr m 0] w λv w'=>∃P,v= .tuple #[ptr P.s 0,I 0]/\Ut w' P/\We P (λ_=>zeros 512) 0/\P.m=m/\P.gi=gi/\P.L=L/\(∀b,P.fp b->Fd b\/b=m\/b=gi\/w.heap.size<=b)/\Ext w w':=by
 refine py (e:=[(0,_),(1,_),(2,_)]) func34 O ntmps34 O O$ qN O$ PU O$ Qx$ Pf O$ qV (Qi U28 O O)$ P8 O$ qV (Qi U51 O O)$ PK O$ OU O$ OJ O$ Pf O$ Qq O$ PF ?_
 refine P8 O$ Qu O$ PF$ PK O$ OU O$ Tu O$ OA$ Pf O$ P4 zls O (zaX n cX (by omega) w) ?_
 rintro _ w1 ⟨c,V,p,rfl,kV,fX,ad⟩
 refine OK O$ qV (Rw (v:=ptr c 0) O O)$ qV (Rw (v:=I 0) O O)$ PU O$ Pn.qb (e:=[(0,_),(1,_),(2,_),(6,_),(7,_),(8,_),(9,_)]) ?_
 refine PG O$ Qf O$ PW O$ Qm O$ OK O$ OM O O (pmm) ?_
 rintro _ w2 ⟨pm,rfl,LC,ae,cA⟩
 have mK:SL KI w2 pm []:=SL.new cA
 have lpm:=mK.lt
 refine OK O$ qV (Sk (cs:=[_,_,_,_,_,_,_]) zfJ O zkn O O)$ qV (Sk (cs:=[_,_,_,_,_,_,_,_,_,_,_,_]) zjS O zi9 O O)$ OM O O (Rm O (cs:=plC ⟨0,d,m,gi,c,pm,p,n,V,Dev.fresh L.length 1,z7o n,[],L,Fd,0,0,0⟩) O) ?_
 rintro _ w3 ⟨s,rfl,hs,ai,au⟩
 refine PU O$ OB func34 O ?_
 have z1:=ad.size
 have z2:=ae.size
 have dE:=ae.trans ai
 have dc:=ad.trans dE
 have vE:=kV.ext dE
 have ui:∀{b:Nat},SJ c V p b->b<w1.heap.size:=kV.lt
 have Fp:=hd.lt
 have ltm:=he.ltm
 have ltg:=he.ltg
 refine⟨_,rfl,⟨s,d,m,gi,c,pm,p,n,V,Dev.fresh L.length 1,z7o n,[],L,Fd,0,0,0⟩,rfl,⟨au,hd.ext dc,he.ext dc,vE,mK.ext ai,(λg hg=>by cases hg),List.nodup_nil,?_⟩,⟨zcX cX,iu,λx=>?_,List.nodup_nil,(λg hg=>by cases hg),(λg hg=>by cases hg),(λg hg=>by cases hg),λx _ _ _=>rfl,λx _ _=>by simp[zeros],rfl,rfl,rfl,rfl,Int.le_refl _,Nat.le_refl _,Nat.zero_le _⟩,rfl,rfl,rfl,λb ⟨i,hb⟩=>?_,dc⟩
 ·intro i j ne b hb cn
  have cls:∀i,Rn.cp ⟨s,d,m,gi,c,pm,p,n,V,Dev.fresh L.length 1,z7o n,[],L,Fd,0,0,0⟩ i b->(i=0/\b=s)\/(i=1/\Fd b/\b<w.heap.size)\/(i=2/\(b=m\/b=gi)/\b<w.heap.size)\/(i=3/\w.heap.size<=b/\b<w1.heap.size)\/(i=4/\b=pm):=λi hb=>by
   match i,hb with
   |0,e=>exact .inl ⟨rfl,e⟩
   |1,e=>exact .inr (.inl ⟨rfl,e,Fp b e⟩)
   |2,e=>exact .inr (.inr (.inl ⟨rfl,e,by have e':b=m\/b=gi:=e;omega⟩))
   |3,e=>exact .inr (.inr (.inr (.inl ⟨rfl,fX b e,ui e⟩)))
   |4,e=>exact .inr (.inr (.inr (.inr ⟨rfl,e⟩)))
   |5,⟨g,hg,e⟩=>cases hg
  have h1:=cls i hb;have h2:=cls j cn;rcases h1 with⟨e,h1⟩|⟨e,h1,vD⟩|⟨e,h1,vD⟩|⟨e,h1,vD⟩|⟨e,h1⟩<;>rcases h2 with⟨f,h2⟩|⟨f,h2,IE⟩|⟨f,h2,IE⟩|⟨f,h2,IE⟩|⟨f,h2⟩<;>first|omega|skip
  ·rcases h2 with e| e
   ·exact Bz.1 (e▸h1)
   ·exact Bz.2 (e▸h1)
  ·rcases h1 with e| e
   ·exact Bz.1 (e▸h2)
   ·exact Bz.2 (e▸h2)
 ·constructor
  ·intro e;cases e
  ·intro e;rcases e with e|e<;>cases e
 ·match i,hb with
  |0,e=>exact .inr (.inr (.inr (by have:b=s:=e;omega)))
  |1,e=>exact .inl e
  |2,e=>rcases e with e|e;exact .inr (.inl e);exact .inr (.inr (.inl e))
  |3,e=>exact .inr (.inr (.inr (fX b e)))
  |4,e=>exact .inr (.inr (.inr (by have:b=pm:=e;omega)))
  |5,⟨g,hg,e⟩=>cases hg
end
end Go.Proofs.YtgdkbagngobdlaaGreatDoor
