/- Merged by program. -/
import Derived.Test.YtbihggbffaigjaaGreatDoorZc2
import Derived.Sort.AssemblyPlain
set_option linter.all false
set_option maxRecDepth 1000000
set_option maxHeartbeats 16000000
namespace Go.Proofs.YtbihggbffaigjaaGreatDoor
open Go Go.RowKit Go.Proofs.Tryz
abbrev Pn (n:Nat):Value:= .int .u32 (n:Int)
theorem z4N (m:Nat)(h:m<18446744073709551616):m^^^18446744073709551615=18446744073709551615-m:=by
 have h1:=congrArg BitVec.toNat (BitVec.xor_allOnes (x:=BitVec.ofNat 64 m))
 rw[BitVec.toNat_xor,BitVec.toNat_not,BitVec.toNat_allOnes,BitVec.toNat_ofNat] at h1
 rw[show(2:Nat)^64=18446744073709551616 from rfl,Nat.mod_eq_of_lt h] at h1
 exact h1
section
variable {P:Program}{e:Env}{d:Option Nat}{ty t t':TypeId}{pos:String}{aft:Array Edge}{g:Option (Nat×Bool)}{x y:Operand}{w:World}{m:Nat}
def zfo (hx:look e x=some (I (m:Int)))(hy:look e y=some (I 0))(hm:m<2^63):Y P e ⟨d,.binOp .xor t x y t',ty,pos,aft,g⟩ (I (m:Int)) w w:=fun ρ hρ=>by
 have h1:m<2^IntKind.i64.bits:=by simp only[IntKind.bits];omega
 have h2:(BitVec.ofInt IntKind.i64.bits 0).toNat=0:=by decide
 simp only[execOp,eqGuard_xor,binOp_xor,intBits_xor,hρ _ _ hx,hρ _ _ hy,pure_bind,Sem.run_pure,bits,BitVec.toNat_xor,QP h1,h2,Nat.xor_zero]
 rw[wrap_i64 ⟨ω,ω⟩]
def ziq (hx:look e x=some (I (m:Int)))(hy:look e y=some (I (-1)))(hm:m<2^63):Y P e ⟨d,.binOp .xor t x y t',ty,pos,aft,g⟩ (I (-(m:Int)-1)) w w:=fun ρ hρ=>by
 have h1:m<2^IntKind.i64.bits:=by simp only[IntKind.bits];omega
 have h2:(BitVec.ofInt IntKind.i64.bits (-1)).toNat=18446744073709551615:=by decide
 simp only[execOp,eqGuard_xor,binOp_xor,intBits_xor,hρ _ _ hx,hρ _ _ hy,pure_bind,Sem.run_pure,bits,BitVec.toNat_xor,QP h1,h2]
 rw[z4N m ω]
 congr 2
 have h3:((18446744073709551615-m:Nat):Int)=-(m:Int)-1+18446744073709551616:=by omega
 rw[h3]
 simp only[IntKind.wrap,IntKind.bits,IntKind.signed]
 simp
 omega
end
/-! ### Numbers with a sign -/
def z7r (z:Int)(h: -4611686018427387904<=z/\z<4611686018427387904)(w:World):P9 prog 224 [I z] w λu w'=>u=ON (zig z)/\w'=w:=by
 rcases Int.lt_or_le z 0 with h0|h0
 ·obtain⟨n,rfl⟩:∃n:Nat,z=-(n:Int)-1:=⟨(-z-1).toNat,ω⟩;refine py (e:=[(0,_)]) func224 O ntmps224 O O (qN O (QO O (qV (ycv (b:=((18446744073709551615-n:Nat):Int)) O U2 R7 (by simp only[IntKind.wrap,IntKind.bits,IntKind.signed];simp;omega)) ?_)));refine qV (R6 1 2 O O ψ O) (OC O (qV (ysr 63 O O ψ) ?_));rw[show(-(n:Int)-1) / 2^63=-1 by omega];refine qV (ycv (b:=((18446744073709551615:Nat):Int)) O U2 R7 ψ) (qV (z1n O O ω ω) (OK O (Oo func224 O (⟨_,rfl,?_,rfl⟩))));rw[z4N _ ω];simp only[PS]
  congr 2
  unfold zig;rw[if_neg ω];omega
 ·obtain⟨n,rfl⟩:∃n:Nat,z=(n:Int):=⟨z.toNat,ω⟩;refine py (e:=[(0,_)]) func224 O ntmps224 O O (qN O (QO O (qV ((PO O U2 R7 ω)) (qV (R6 1 2 O O ψ O) (OC O (qV (Uk 63 9223372036854775808 O O ψ O) (qV ((PO O U2 R7 ω)) (qV (z1n O O ω ω) (OK O (Oo func224 O (⟨_,rfl,?_,rfl⟩)))))))))));rw[show n / 9223372036854775808=0 by omega,Nat.xor_zero];simp only[PS]
  congr 2
  unfold zig;rw[if_pos ω];omega
def z7f (n:Nat)(h:n<9223372036854775808)(w:World):P9 prog 244 [ON n] w λu w'=>u=I (zag n)/\w'=w:=by
 refine py (e:=[(0,_)]) func244 O ntmps244 O O$ qN O$ QO O$ qV (Uk 1 2 O O ψ O)$ qV (Ps O R7 U2 ω)$ OC O$ qV (Ul O O ω ω) ?_
 rw[Nat.and_one_is_mod]
 refine qV (Ps O R7 U2 ω) ?_
 rcases Nat.mod_two_eq_zero_or_one n with h0|h0
 ·rw[h0];refine qV (yng O ψ ψ) (qV (zfo O O ω) (OK O (Oo func244 O (⟨_,rfl,?_,rfl⟩))));simp only[PS];unfold zag;rw[if_pos h0]
 ·rw[h0];refine qV (yng O ψ ψ) (qV (ziq O O ω) (OK O (Oo func244 O (⟨_,rfl,?_,rfl⟩))));simp only[PS];unfold zag;rw[if_neg ω]
/-! ### The parameters -/
def ZK (p:RN):List Value:=[I (p.OY:Int),I (p.interval:Int),I (p.zeta:Int)]
abbrev lpV (p:RN):Value:= .agg (ZK p).toArray
def RN.Qj (p:RN):Prop:=p.OY<=16/\(p.interval=0\/2<=p.interval/\p.interval<=64)/\1<=p.zeta/\p.zeta<=16
def TF (p:RN)(hp:p.Qj)(w:World):P9 prog 197 [lpV p] w λu w'=>u=I 0/\Ext w w':=by
 obtain⟨h1,h2,h3,h4⟩:=hp
 refine py (e:=[(0,_)]) func197 O ntmps197 O O$ qN O$ Oy O O (R9 O (cs:=ZK p) O) ?_
 rintro _ w1 ⟨b1,rfl,bK,ad,ah⟩
 replace ah:OE w1 b1 [I (p.OY:Int),I (p.interval:Int),I (p.zeta:Int)] 276:=ah
 refine OK O$ Qt$ An$ qN O$ OL Tf O$ qV (OB U3 O O ah O)$ Qv O$ Pu$ OC O$ OL Tf O$ qV (OB U3 O O ah O)$ Qr O$ Pu$ PC O ?_
 refine OK O$ Ox O$ qN O$ OL z04 O$ qV (OB U3 O O ah O)$ Qv O$ Pu$ OC O$ OL z04 O$ qV (OB U3 O O ah O)$ Qr O$ Pu$ PC O$ OK O ?_
 refine Ox O$ Oz O$ OL TP O$ qV (OB U3 O O ah O)$ Ql O$ Sc (λe1=>?_)$ λe1=>?_
 ·refine OC O$ OL TP O$ qV (OB U3 O O ah O)$ Qv O$ Pu$ OC O$ OL TP O$ qV (OB U3 O O ah O)$ Qr O$ Pu$ PC O$ QQ O$ OK O$ P8.qb (e:=[(2,_),(3,_)]) ?_;refine T2 O$ Om$ QB O$ Oo func197 O ?_;exact⟨_,rfl,rfl,ad⟩
 ·refine OC O$ QI$ QI$ QI$ QI$ PC O$ OK O$ P8.qb (e:=[(2,_),(3,_)]) ?_;refine T2 O$ Om$ QB O$ Oo func197 O ?_;exact⟨_,rfl,rfl,ad⟩
def VE (n:Nat)(h:n<65536)(w:World):P9 prog 211 [I (n:Int)] w λu w'=>u= .bool true/\w'=w:=by
 refine py (e:=[(0,_)]) func211 O ntmps211 O O$ qN O$ QO O$ TE O$ Rf$ OX O$ Qv O$ Rf$ QQ O$ OK O$ Oo func211 O ?_
 exact⟨_,rfl,rfl,rfl⟩
structure Pq (l:List Nat):Prop where
 ris:Ris l
 lt:∀y∈l,y<65536
def z2Z:∀(l:List Nat) (lo hi:Nat),Ris l->(∀y∈l,lo<=y/\y<hi)->lo<=hi->lo+l.length<=hi
 |[],lo,hi,_,_,h=>h
 | x :: l, lo, hi, hr, hm, h => by
   have h1:=(List.pairwise_cons.1 hr);have h2:=hm x List.mem_cons_self;have:=z2Z l (x+1) hi h1.2 (λy hy=>⟨h1.1 y hy,(hm y (List.mem_cons_of_mem _ hy)).2⟩) ω;rw[List.length_cons];omega
theorem Pq.len {l:List Nat}(h:Pq l):l.length<=65536:=by
 have:=z2Z l 0 65536 h.ris (λy hy=>⟨Nat.zero_le _,h.lt y hy⟩) ψ
 omega
def Pq.sub {l m:List Nat}(h:Pq l)(hs:m.Sublist l):Pq m:=⟨h.ris.sublist hs,λy hy=>h.lt y (hs.subset hy)⟩
def W1 (v:Value)(l:List Nat)(hl:Pq l)(w:World)(hr:Rd w v 1 l.length (l.map Pn)):
  P9 prog 212 [v] w λu w'=>u= .bool true/\w'=w:=by
 have aB:=hl.len
 obtain⟨a,cap,rfl,ha⟩:=hr.shape
 refine py (e:=[(0,_)]) func212 O ntmps212 O O$ QB O$ Pz O$ Ro Ph O$ OC O$ Oq$ Ou$ Rw (α:=Nat) (0) (λi=>[(0,.slice a l.length cap),(5,.slice a l.length cap),(6,I (l.length:Int)),(7,I (i:Int))]) (λi w'=>w'=w/\i<=l.length) (λi=>l.length-i) ?hI ?hround
 case hI=>exact⟨rfl,ω⟩
 case hround=>
  rintro i _ ⟨rfl,hi⟩ ih
  try dsimp only
  refine qN O$ Qv O$ Oq$ An$ OH O (λaN=>?_)$ λaN=>?_
  ·have fT:i<l.length:=by omega
   have hy:=hl.lt l[i] (List.getElem_mem fT);rcases hr.2 with⟨c,-,h⟩|⟨b,off,cap',lA,aY⟩
   ·omega
   cases lA;refine Ot (Qt (P7 O (qV (PK Ph OS O O ω) (qV (Pc QA O O (aY (i*1) (Pn l[i]) (by simp[fT]))) ?_))));refine Si O$ QO O$ TE O$ Pu$ OX O$ Qr O$ Sc (λe1=>?_)$ λe1=>?_
   ·have hp:l[i-1]<l[i]:=(List.pairwise_iff_getElem.1 hl.ris) (i-1) i ω fT ω;refine OX O$ OX O$ Ra O ?_;rw[show(i:Int)-1=((i-1:Nat):Int) by omega];refine qV (PK Ph OS O O ω) (qV (Pc QA O O (aY ((i-1)*1) (Pn l[i-1]) (by simp[show i-1<l.length by omega]))) ?_);refine zle O$ Pu$ QQ O$ PC O$ PX O$ Om$ Oz O$ PL O$ OC O$ Oq ?_;exact(ih (i+1) _ ⟨rfl,ω⟩ ω).qb
   ·refine OC O$ QI$ QI$ QI$ qS$ PC O$ PC O$ PX O$ Om$ Oz O$ PL O$ OC O$ Oq ?_;exact(ih (i+1) _ ⟨rfl,ω⟩ ω).qb
  ·refine OD O$ QB O$ Oo func212 O ?_;exact⟨_,rfl,rfl,rfl⟩
def zbx (p:RN)(hp:p.Qj)(x:Nat)(hx:x<65536)(v u:Value)(l m:List Nat)(r:Nat)(hl:Pq l)(hm:Pq m)(hr:r<=p.OY)(lB:r=0->m=[])(w:World)
  (gV:Rd w v 1 l.length (l.map Pn)) (AK:Rd w u 1 m.length (m.map Pn)):
  P9 prog 198 [lpV p,I (x:Int),v,u,I (r:Int)] w λo w'=>o= .bool true/\Ext w w':=by
 obtain⟨h1,h2,h3,h4⟩:=id hp
 refine py (e:=[(0,_),(1,_),(2,_),(3,_),(4,_)]) func198 O ntmps198 O O$ qN O$ Oy O O (R9 O (cs:=ZK p) O) ?_
 rintro _ w1 ⟨b1,rfl,bK,ad,ah⟩
 refine QL O$ qV (Pa (news:=ZK p) YM O TM O (ah.cells (n:=3) O) O)$ OQ z3O O (TF p hp w1) ?_
 rintro _ w2 ⟨rfl,ae⟩
 have ak:=ae.On ah
 replace ak:OE w2 b1 [I (p.OY:Int),I (p.interval:Int),I (p.zeta:Int)] 276:=ak
 refine QS O$ Rf$ OX O$ OQ z71 O (VE x hx w2) ?_
 rintro _ w3 ⟨rfl,rfl⟩
 refine QQ O$ OX O$ OQ z3g O (W1 v l hl w3 (gV.ext (ad.trans ae))) ?_
 rintro _ w4 ⟨rfl,rfl⟩
 refine QQ O$ OX O$ OQ z3g O (W1 u m hm w4 (AK.ext (ad.trans ae))) ?_
 rintro _ w5 ⟨rfl,rfl⟩
 refine QQ O$ OC O ?_
 obtain⟨ua,uc,rfl,-⟩:=AK.shape
 refine OC O$ TE O$ Rf$ QQ O$ OX O$ OL Tf O$ qV (OB U3 O O ak O)$ zle O$ Rf$ QQ O$ OX O$ Qr O$ Sc (λe1=>?_)$ λe1=>?_
 ·refine OC O$ QI$ qS$ QQ O$ QQ O$ OK O$ P8.qb (e:=[(10,_)]) ?_;refine Oo func198 O ?_;exact⟨_,rfl,rfl,ad.trans ae⟩
 ·have e2:=lB ω;subst e2;refine OX O$ Ro Ph O$ QS O$ Rf$ PC O$ QQ O$ OK O$ P8.qb (e:=[(10,_)]) ?_;refine Oo func198 O ?_;exact⟨_,rfl,rfl,ad.trans ae⟩
def XU (l:List Nat):∀c∈l.map Pn,c.oneCell'=true:=by
 intro c hc
 obtain⟨x,-,rfl⟩:=List.mem_map.1 hc
 rfl
def z1p (p:Nat×Nat):List Value:=[I (p.1:Int),I (p.2:Int)]
theorem z8R (l:List (Nat×Nat)):(l.flatMap z1p).length=l.length*2:=by
 induction l with
 |nil=>rfl
 |cons p l ih=>rw[List.flatMap_cons,List.length_append,ih,List.length_cons,show(z1p p).length=2 from rfl];omega
theorem Sl.oneV {w:World}{v:Value}{e size n:Nat}{cs:List Value}(h:Sl w v e size n cs):oneV v=true:=by
 rcases h.shape with⟨rfl,-⟩|⟨g,cap,rfl,-⟩<;>rfl
structure zbX (w:World)(l:List Nat)(least:Nat)(r:List Nat)(a:Option Addr)(cap:Nat)(v4 v5:Value)(R:List (Nat×Nat))(O_:List Nat)(w':World):Prop where
 ext:Ext w w'
 cl:r.length<=cap
 rd:Rd w (.slice a r.length cap) 1 r.length (r.map Pn)
 s4:Sl w' v4 348 2 R.length (R.flatMap z1p)
 s5:Sl w' v5 42 1 O_.length (O_.map Pn)
 f4:∀g,v4.ownBlock=some g->w.heap.size<=g
 f5:∀g,v5.ownBlock=some g->w.heap.size<=g
 ne:∀g,v4.ownBlock=some g->v5.ownBlock≠some g
 ok:Pq r
 eq:PE least l=(R++(PE least r).1,O_++(PE least r).2)
 len:R.length+O_.length+r.length<=65536
def Tw {w:World}{a:Option Addr}{n cap i:Nat}{cs:List Value}(h:Rd w (.slice a n cap) 1 n cs)(hi:i<=n)(hc:n<=cap):Rd w (.slice (if cap=i then a else a.map (·.add (i*1))) (n-i) (cap-i)) 1 (n-i) (cs.drop i):=by
 have hl:=h.1
 refine⟨by rw[List.length_drop,hl];omega,?_⟩
 rcases h.2 with⟨c,hv,h0⟩|⟨b,off,cap',hv,aY⟩
 ·refine .inl ⟨((if cap=i then a else a.map (·.add (i*1))),cap-i),?_,ω⟩;rw[show n-i=0 by omega]
 ·cases hv;by_cases e:cap=i
  ·rw[if_pos e];refine .inl ⟨(some ⟨b,off,none⟩,cap-i),?_,ω⟩;rw[show n-i=0 by omega]
  ·rw[if_neg e];refine .inr ⟨b,off+i*1,cap-i,?_,λj u hu=>?_⟩
   ·simp only[Option.map_some,Rb]
   ·rw[List.getElem?_drop] at hu;have:=aY (i+j) u hu;rw[show off+i*1+j=off+(i+j) by omega];exact this
def UA {w:World}{a:Option Addr}{n cap i:Nat}{cs:List Value}(h:Rd w (.slice a n cap) 1 n cs)(hi:i<=n):Rd w (.slice a i cap) 1 i (cs.take i):=by
 have hl:=h.1
 refine⟨by rw[List.length_take,hl];omega,?_⟩
 rcases h.2 with⟨c,hv,h0⟩|⟨b,off,cap',hv,aY⟩
 ·refine .inl ⟨(a,cap),?_,ω⟩;rw[show i=0 by omega]
 ·cases hv;refine .inr ⟨b,off,cap,rfl,λj u hu=>?_⟩;rw[List.getElem?_take] at hu;split at hu
  ·exact aY j u hu
  ·cases hu
def zbX.grow {w w1 w2:World}{l r:List Nat}{least cap:Nat}{a:Option Addr}{v4 v5:Value}{R:List (Nat×Nat)}{O_:List Nat}(h:zbX w l least r a cap v4 v5 R O_ w1)(hx:Ext w1 w2):zbX w l least r a cap v4 v5 R O_ w2:=
 ⟨h.ext.trans hx,h.cl,h.rd,h.s4.ext hx,h.s5.ext hx,h.f4,h.f5,h.ne,h.ok,h.eq,h.len⟩
def zac (a:Option Addr)(cap:Nat)(l:List Nat)(least:Nat)(vx:Pq l)(jH:l.length<=cap)(i8:least<=64)(w:World)(hr:Rd w (.slice a l.length cap) 1 l.length (l.map Pn)):
  P9 prog 223 [.slice a l.length cap,I (least:Int)] w λu w'=>∃v4 v5,u= .tuple #[v4,v5]/\Sl w' v4 348 2 (PE least l).1.length ((PE least l).1.flatMap z1p)/\
   Sl w' v5 42 1 (PE least l).2.length ((PE least l).2.map Pn)/\Ext w w'/\(∀g,v4.ownBlock=some g->w.heap.size<=g)/\(∀g,v5.ownBlock=some g->w.heap.size<=g)/\∀g,v4.ownBlock=some g->v5.ownBlock≠some g:=by
 refine py (e:=[(0,_),(1,_)]) func223 O ntmps223 O O$ qN O$ Qd O$ Qt$ Rw (α:=List Nat×Option Addr×Nat×Value×Value×List (Nat×Nat)×List Nat) ((l,a,cap,.slice none 0 0,.slice none 0 0,[],[])) (λx=>[(0,.slice x.2.1 x.1.length x.2.2.1),(1,I (least:Int)),(4,x.2.2.2.1),(5,x.2.2.2.2.1)]) (λx w'=>zbX w l least x.1 x.2.1 x.2.2.1 x.2.2.2.1 x.2.2.2.2.1 x.2.2.2.2.2.1 x.2.2.2.2.2.2 w') (λx=>x.1.length) ?hI ?hround
 case hI=>exact⟨Ext.refl _,jH,hr,Sl.nil _ _ _,Sl.nil _ _ _,(λg h=>by cases h),(λg h=>by cases h),(λg h=>by cases h),vx,rfl,by have:=vx.len;simp;omega⟩
 case hround =>
  rintro⟨r,a1,c1,v4,v5,R,O_⟩ w6 hI ih;dsimp only at hI
  try dsimp only
  refine Pz O$ Ro Ph O$ Qr O$ Oq$ OH O (λh0=>?_)$ λh0=>?_
  ·obtain⟨y,r',rfl⟩:∃y r',r=y::r':=by
    cases r with
    |nil=>exact absurd h0 ξ
    |cons y r'=>exact⟨y,r',rfl⟩
   have gV:=WN y r';have Jk:=hI.ok.lt y List.mem_cons_self;have iZ:=hI.ok.len;rw[List.length_cons] at iZ
   obtain⟨b,off,lA,aY⟩:∃b off,a1=some ⟨b,off,none⟩/\∀j u,((y::r').map Pn)[j]? =some u->w6.cell? ⟨b,off+j,none⟩=some u:=by
    rcases (hI.rd.ext hI.ext).2 with⟨c,-,h⟩|⟨b,off,cap',lA,aY⟩
    ·exact absurd h ξ
    ·cases lA;exact⟨b,off,rfl,aY⟩
   subst lA
   have jM:∀w',Ext w w'->∀j u,((y::r').map Pn)[j]? =some u->w'.cell? ⟨b,off+j,none⟩=some u:=λw' hx=>by
    rcases (hI.rd.ext hx).2 with⟨c,-,h⟩|⟨b',off',cap',lA,hc⟩
    ·exact absurd h ξ
    ·cases lA;exact hc
   clear aY;refine Ot$ Ou$ QB O$ Qt$ RP (λe' w'=>Ext w6 w'/\e'=[(0,.slice (some ⟨b,off,none⟩) (y::r').length c1),(1,I (least:Int)),(4,v4),(5,v5),(6,I ((PB y r'+1:Nat):Int))]) ?sx$ λsx=>?BW
   case sx=>
    rintro e' w6z ⟨aQ,rfl⟩;replace hI:=hI.grow aQ;have aY:=jM _ hI.ext
    generalize hn:PB y r'+1=n
    have mv:=hI.cl;rw[List.length_cons] at mv;have dO:=hI.eq;have aB:=hI.len;rw[List.length_cons] at aB;have ce:1<=n/\n<=r'.length+1:=by omega
    have Hm:r'.drop (PB y r')=(y::r').drop n:=by rw[<-hn];rfl
    have mH:y::r'.take (PB y r')=(y::r').take n:=by rw[<-hn];rfl
    rw[PE] at dO;simp only[hn,Hm,mH] at dO;have aw:Pq ((y::r').drop n):=hI.ok.sub (List.drop_sublist _ _);have eB:=Tw hI.rd (i:=n) (by rw[List.length_cons];omega) hI.cl;rw[<-List.map_drop,show(y::r').length-n=((y::r').drop n).length by rw[List.length_drop]] at eB;have kD:((y::r').drop n).length=r'.length+1-n:=by rw[List.length_drop,List.length_cons]
    by_cases hL:0<least/\least<=n
    ·obtain⟨AN,Hn⟩:=hL;rw[if_pos ⟨AN,Hn⟩] at dO;refine Pz O (Qr O (Rf (OX O (OC O (TE O (Rf (QQ O (Oq (OI O (Oz O (OX O (qV (PK Ph OS O O ω) (qV (Pc QA O O (aY (0*1) (Pn y) O)) ?_)))))))))))));refine qV (Ps O QA U3 ω) (OC O (qV (Sa (cs:=[_,_]) z0r O zfw O O) (Oy O O (XM (cs:=[_,_]) (zs:=[Value.int .i64 0,Value.int .i64 0]) zaZ z0r O (by kernel_rfl) O O O ψ) ?_)));rintro _ w7 ⟨b7,rfl,⟨kF,ci,bZ⟩,gL⟩;refine Oy O O (pap zaZ z0r O ψ O O (hI.s4.ext ci) gL.rd (by intro c hc;simp at hc;rcases hc with rfl|rfl<;>rfl) ω (by simp only[maxLen];omega)) ?_;rintro v4' w8 ⟨er,aP,kH,-⟩;have mw:=er.oneV;have hz:=hI.ext.size;have AO:=ci.size;have cz:Ext w w8:=(hI.ext.trans ci).It aP (λi hi=>hI.f4 i hi);have oH:Sl w8 v5 42 1 O_.length (O_.map Pn):=(hI.s5.ext ci).kp aP (λg hg e=>hI.ne g e hg);refine OK O (Oz O (OX O (qV (Ya Ph OS O O (by rw[List.length_cons];omega) hI.cl) ?_)));refine OK O$ Om ?_;rw[show(y::r').length-n=((y::r').drop n).length by rw[List.length_drop]];refine(ih ((y::r').drop n,_,c1-n,v4',v5,R++[(y,n)],O_) _ ⟨cz,by dsimp only;rw[kD];omega,eB,?_,oH,?_,hI.f5,?_,aw,?_,?_⟩ ?_).qb
     ·dsimp only;rw[List.length_append,List.flatMap_append];exact er
     ·intro g hg;rcases kH g hg with h| h
      ·exact hI.f4 g h
      ·omega
     ·intro g hg e;rcases kH g hg with h| h
      ·exact hI.ne g h e
      ·have:=hI.s5.lt e;omega
     ·dsimp only;rw[dO,List.append_assoc];rfl
     ·dsimp only;rw[List.length_append,List.length_singleton,kD];omega
     ·dsimp only;rw[kD,List.length_cons];omega
    ·rw[if_neg hL] at dO;rcases Nat.eq_zero_or_pos least with e0|e0
     ·refine Pz O (Qr O (Pu (OC O (QI (qS (PC O (Oq (Ox O (Oz O (OX O (OC O (qV (zb1 Ph OS O O ω) (Oy O O (pap Ph OS O ψ O O hI.s5 (UA (hI.rd.ext hI.ext) (i:=n) (by rw[List.length_cons];omega)) (by rw[<-List.map_take];exact XU _) ω (by simp only[maxLen];omega)) ?_)))))))))))));rintro v5' w8 ⟨er,aP,kH,-⟩;have mw:=er.oneV;have hz:=hI.ext.size;have cz:Ext w w8:=hI.ext.It aP (λi hi=>hI.f5 i hi);have vy:Sl w8 v4 348 2 R.length (R.flatMap z1p):=hI.s4.kp aP (λg hg e=>hI.ne g hg e);refine OK O (Oz O (OX O (qV (Ya Ph OS O O (by rw[List.length_cons];omega) hI.cl) ?_)));refine OK O$ Om ?_;rw[show(y::r').length-n=((y::r').drop n).length by rw[List.length_drop]];have kI:((y::r').take n).length=n:=by rw[List.length_take,List.length_cons];omega
      refine(ih ((y::r').drop n,_,c1-n,v4,v5',R,O_++(y::r').take n) _ ⟨cz,by dsimp only;rw[kD];omega,eB,vy,?_,hI.f4,?_,?_,aw,?_,?_⟩ ?_).qb
      ·dsimp only;rw[List.length_append,List.map_append,kI,List.map_take];exact er
      ·intro g hg;rcases kH g hg with h| h
       ·exact hI.f5 g h
       ·omega
      ·intro g hg e;rcases kH g e with h| h
       ·exact hI.ne g hg h
       ·have:=hI.s4.lt hg;omega
      ·dsimp only;rw[dO,List.append_assoc]
      ·dsimp only;rw[List.length_append,kI,kD];omega
      ·dsimp only;rw[kD,List.length_cons];omega
     ·have Hn:¬least<=n:=λh=>hL ⟨e0,h⟩;refine Pz O (Qr O (Rf (OX O (OC O (TE O (Pu (QQ O (Oq (Ox O (Oz O (OX O (OC O (qV (zb1 Ph OS O O ω) ?_)))))))))))));refine Oy O O (pap Ph OS O ψ O O hI.s5 (UA (hI.rd.ext hI.ext) (i:=n) (by rw[List.length_cons];omega)) (by rw[<-List.map_take];exact XU _) ω (by simp only[maxLen];omega)) ?_;rintro v5' w8 ⟨er,aP,kH,-⟩;have mw:=er.oneV;have hz:=hI.ext.size;have cz:Ext w w8:=hI.ext.It aP (λi hi=>hI.f5 i hi);have vy:Sl w8 v4 348 2 R.length (R.flatMap z1p):=hI.s4.kp aP (λg hg e=>hI.ne g hg e);refine OK O (Oz O (OX O (qV (Ya Ph OS O O (by rw[List.length_cons];omega) hI.cl) ?_)));refine OK O$ Om ?_;rw[show(y::r').length-n=((y::r').drop n).length by rw[List.length_drop]];have kI:((y::r').take n).length=n:=by rw[List.length_take,List.length_cons];omega
      refine(ih ((y::r').drop n,_,c1-n,v4,v5',R,O_++(y::r').take n) _ ⟨cz,by dsimp only;rw[kD];omega,eB,vy,?_,hI.f4,?_,?_,aw,?_,?_⟩ ?_).qb
      ·dsimp only;rw[List.length_append,List.map_append,kI,List.map_take];exact er
      ·intro g hg;rcases kH g hg with h| h
       ·exact hI.f5 g h
       ·omega
      ·intro g hg e;rcases kH g e with h| h
       ·exact hI.ne g hg h
       ·have:=hI.s4.lt hg;omega
      ·dsimp only;rw[dO,List.append_assoc]
      ·dsimp only;rw[List.length_append,kI,kD];omega
      ·dsimp only;rw[kD,List.length_cons];omega
   case BW =>
    refine Rw (α:=Nat) (1) (λi=>[(0,.slice (some ⟨b,off,none⟩) (y::r').length c1),(1,I (least:Int)),(4,v4),(5,v5),(6,I (i:Int))]) (λi w'=>Ext w6 w'/\1<=i/\i<=PB y r'+1) (λi=>PB y r'+2-i) ?hI ?hround
    case hI=>exact⟨Ext.refl _,ω,ω⟩
    case hround=>
     rintro i w7 ⟨ci,sy,dt⟩ ih2
     try dsimp only
     refine An$ An ?_;have hg:=(Ext.refl w7).drew;refine R8 (λw'=>Ext w7 w') O$ OR 0 O O (hg)$ OR 1 O O (hg)$ Ow 2 O (St Ph O) hg$ Ow 3 O (ylt O O) hg$ zfl (λe1=>?_)$ λe1=>?_
     ·have Nr:i<r'.length+1:=by rw[List.length_cons] at e1;omega
      have dq:r'[i-1]? =some (r'[i-1]'ω):=List.getElem?_eq_getElem ω;have Ns:r'[i-1]'ω<65536:=hI.ok.lt _ (List.mem_cons_of_mem _ (List.getElem_mem _));refine OR 4 O O (hg) (OR 5 O O (hg) (OR 6 O O (hg) (Ow 7 O (PK Ph OS O O ω) hg (OR 9 O O (hg) (Ow 10 O (PK Ph OS O O ω) hg (OR 12 O O (hg) (Ow 13 O (z3T O U3 QA) hg (qT 8 O (λ_ hS=>Pc QA O O (by exact jM _ ((hI.ext.trans ci).trans hS) (i*1) (Pn (r'[i-1]'ω)) (by rw[List.getElem?_map,show i*1=(i-1)+1 by omega,List.getElem?_cons_succ,dq];rfl))) hg ?_))))))));refine qT 11 O (λ_ hS=>Pc QA O O (by exact jM _ ((hI.ext.trans ci).trans hS) (0*1) (Pn y) O)) hg ?_;refine Ow 14 O (zfZ O O) hg$ Ow 15 O (yeq O O) hg$ Ow 16 O (UT O O) hg$ qE$ OH O (λe2=>?_)$ λe2=>?_
      ·refine Ot$ Ou$ R0 O$ PL O$ OK O$ Om ?_
       have br:i≠PB y r'+1:=λe=>by
        subst e;have:=Wc y r' (r'[PB y r'+1-1]'ω) (by rw[<-dq];simp);omega
       exact(ih2 (i+1) _ ⟨ci.trans hg,ω,ω⟩ ω).qb
      ·have BX:i=PB y r'+1:=by
        rcases Nat.lt_or_ge (i-1) (PB y r') with h| h
        ·have h1:=VG y r' (i-1) h;rw[dq] at h1;have h2:=Rh h1;exact absurd ω e2
        ·omega
       refine OD O ?_;subst BX;exact(sx _ _ ⟨ci.trans hg,rfl⟩).qb
     ·have BX:i=PB y r'+1:=by rw[List.length_cons] at e1;omega
      refine OR 4 O O (hg)$ qJ 5 O (hg)$ qJ 6 O (hg)$ qJ 7 O (hg)$ qJ 8 O (hg)$ qJ 9 O (hg)$ qJ 10 O (hg)$ qJ 11 O (hg)$ qJ 12 O (hg)$ qJ 13 O (hg)$ qJ 14 O (hg)$ qJ 15 O (hg)$ Ow 16 O (U0 O O) hg$ qE ?_;refine Ox O$ OD O ?_;subst BX;exact(sx _ _ ⟨ci.trans hg,rfl⟩).qb
  ·have eQ:r=[]:=List.eq_nil_of_length_eq_zero ω;subst eQ;refine OD O$ Qh O$ Qd O$ Oo func223 O ?_;have dO:=hI.eq;simp only[PE,List.append_nil] at dO;rw[dO];exact⟨_,rfl,v4,v5,rfl,hI.s4,hI.s5,hI.ext,hI.f4,hI.f5,hI.ne⟩
structure VsM (w:World)(p:Nat)(v:Value)(T el:TypeId)(size n:Nat)(cs:List Value):Prop where
 On:OE w p [v] T
 sl:Sl w v el size n cs
 ne:v.ownBlock≠some p
def VsA (w:World)(p:Nat)(T el:TypeId)(size n:Nat)(cs:List Value)(F:Nat->Prop):Prop:=∃v,VsM w p v T el size n cs/\∀k,F k↔fpW p v k
section
variable {w w':World}{p:Nat}{T el:TypeId}{size n:Nat}{cs:List Value}{F S:Nat->Prop}
def VsA.lt (h:VsA w p T el size n cs F){k:Nat}(hk:F k):k<w.heap.size:=by
 obtain⟨bv,hM,hF⟩:=h
 rcases (hF k).1 hk with e| e
 ·rw[e];exact hM.On.lt
 ·exact hM.sl.lt e
def VsA.kp (h:VsA w p T el size n cs F)(k:Kp S w w')(hn:∀i,F i->¬S i):VsA w' p T el size n cs F:=by
 obtain⟨bv,hM,hF⟩:=h
 exact⟨bv,⟨k.On hM.On (hn p ((hF p).2 (.inl O))),hM.sl.kp k (λg hg=>hn g ((hF g).2 (.inr hg))),hM.ne⟩,hF⟩
def VsA.ext (h:VsA w p T el size n cs F)(k:Ext w w'):VsA w' p T el size n cs F:=h.kp k.kp λ_ _=>id
end
def zd6 {P:Program}{e:Env}{d:Option Nat}{ty t t':TypeId}{pos:String}{aft:Array Edge}{g:Option (Nat×Bool)}{x y:Operand}{w:World}{p q:Bool}(hx:look e x=some (.bool p))(hy:look e y=some (.bool q))(ht:P.underlying t=some .bool):Y P e ⟨d,.binOp .neq t x y t',ty,pos,aft,g⟩ (.bool (!(p==q))) w w:=fun ρ hρ=>by
 simp[execOp,hρ _ _ hx,hρ _ _ hy,eqGuard_at_bool,run_neq_bool w t p q ht]
def z61 (q:Cd×Nat):List Value:=S6 q.1++[ON q.2]
abbrev z4Z (w:World)(p:Nat)(L:List (Cd×Nat))(F:Nat->Prop):Prop:=VsA w p 311 316 3 L.length (L.flatMap z61) F
abbrev z2x (w:World)(p:Nat)(L:List Nat)(F:Nat->Prop):Prop:=VsA w p 40 42 1 L.length (L.map Pn) F
abbrev z1u (w:World)(p:Nat)(L:List Nat)(F:Nat->Prop):Prop:=VsA w p 37 3 1 L.length (L.map λn:Nat=>I (n:Int)) F
def T9 {w:World}{p:Nat}{L:List (Cd×Nat)}{F:Nat->Prop}(h:z4Z w p L F)(hl:L.length<=1000000)(c:Cd)(v:Nat)(hv:v<9223372036854775808):
  P9 prog 220 [cdV c,I (v:Int),ptr p 0] w λu w'=>u= .tuple #[]/\∃F',z4Z w' p (L++[(c,v)]) F'/\Kp F w w'/\∀k,F' k->F k\/w.heap.size<=k:=by
 obtain⟨x,y,dz,pa,BY⟩:∃x y,S6 c=[x,y]/\x.oneCell'=true/\y.oneCell'=true:=by cases c<;>exact⟨_,_,rfl,rfl,rfl⟩
 obtain⟨bv,hM,hF⟩:=h
 have qK:cdV c= .agg [x,y].toArray:=by rw[cdV,dz]
 rw[qK]
 have Jl:∀c∈[x,y,ON v],c.oneCell'=true:=by
  intro c hc;rcases List.mem_cons.1 hc with rfl|hc
  ·exact pa
  rcases List.mem_cons.1 hc with rfl|hc
  ·exact BY
  rcases List.mem_cons.1 hc with rfl|hc
  ·rfl
  ·simp at hc
 refine py (e:=[(0,_),(1,_),(2,_)]) func220 O ntmps220 O O$ qN O$ Oy O O (R9 O (cs:=[x,y]) O) ?_
 rintro _ w1 ⟨b3,rfl,dY,ad,ao⟩
 have js:=ad.On hM.On
 refine Oq$ Oz O$ qV (OB z0s O O js O)$ qV (Pa (news:=[x,y]) Sg O Qx O (ao.cells (n:=2) O) O)$ OC O$ qV ((PO O U3 R7 ω))$ qV (Sa (cs:=[_,_,_]) Vf O zd0 O O)$ Oy O O (XM (cs:=[_,_,_]) (zs:=[Value.int .u8 0,Value.int .u64 0,Value.int .u64 0]) z0s Vf O (by kernel_rfl) O O O ψ) ?_
 rintro _ w2 ⟨b2,rfl,⟨bP,ae,ak⟩,cU⟩
 refine Oy O O (pap z0s Vf O ψ O O ((hM.sl.ext ad).ext ae) cU.rd Jl ω (by simp only[maxLen];omega)) ?_
 rintro v3 w3 ⟨cV,ar,kE,-⟩
 have mw:=cV.oneV
 have aH:=ar.On (ae.On js) hM.ne
 refine OJ O (Qw zaU O O mw aH ξ) ?_
 rintro w4 ⟨aD,aq⟩
 replace aD:OE w4 p [v3] 311:=aD
 have z1:=ad.size
 have z2:=ae.size
 have lp:=hM.On.lt
 have eS:v3.ownBlock≠some p:=λe=>by
  rcases kE p e with e| e
  ·exact hM.ne e
  ·omega
 have ep:=cV.kp aq (λg hg e=>eS (e▸hg))
 refine Oq$ PQ func220 O (⟨_,rfl,rfl,fpW p v3,⟨v3,⟨aD,?_,eS⟩,λ_=>Iff.rfl⟩,?_,?_⟩)
 ·rw[List.length_append,List.flatMap_append];have e1:[(c,v)].flatMap z61=[x,y,ON v]:=by simp[z61,dz]
  rw[e1];exact ep
 ·exact((ad.trans ae).kp.trans (ar.OA λk e=>(hF k).2 (.inr e))).trans (aq.OA λk e=>(hF k).2 (.inl e))
 ·intro k hk;rcases hk with e| e
  ·exact .inl ((hF k).2 (.inl e))
  ·rcases kE k e with e| e
   ·exact .inl ((hF k).2 (.inr e))
   ·exact .inr ω
def UP (rs:List Nat)(f:Bool):List Nat:=if f !=(rs.length%2==1) then rs++[0] else rs
theorem z0f (rs:List Nat)(f:Bool):QN rs f=(UP rs f).modify ((UP rs f).length-1) (·+1):=rfl
abbrev z69 (n:Nat):Value:=I (n:Int)
def z1T {w:World}{lf rn:Nat}{L:List Nat}{F:Nat->Prop}(h:z2x w lf L F)(hl:L.length<=1000000)(x:Nat)(a:Bool):
  P9 prog 222 [Pn x,.bool a,.bool false,ptr lf 0,ptr rn 0] w λu w'=>u= .tuple #[]/\∃F',z2x w' lf (L++[x]) F'/\Kp F w w'/\∀k,F' k->F k\/w.heap.size<=k:=by
 obtain⟨bv,hM,hF⟩:=h
 refine py (e:=[(0,_),(1,_),(2,_),(3,_),(4,_)]) func222 O ntmps222 O O ?_
 have js:=hM.On
 refine Qt$ P7 O$ qV ((S1 O))$ OK O$ OI O$ qN O$ qV (OB Ph O O js O)$ OC O$ Oy O O (XM (cs:=[_]) (zs:=[Value.int .u32 0]) Ph OS O (by kernel_rfl) O O O ψ) ?_
 rintro _ w2 ⟨b2,rfl,⟨bP,ae,ak⟩,cU⟩
 refine Oy O O (pap Ph OS O ψ O O (hM.sl.ext ae) cU.rd (by intro c hc;simp at hc;subst hc;rfl) ω (by simp only[maxLen];omega)) ?_
 rintro v3 w3 ⟨cV,ar,kE,-⟩
 have mw:=cV.oneV
 have aH:=ar.On (ae.On js) hM.ne
 refine OJ O (Qw TD O O mw aH ξ) ?_
 rintro w4 ⟨aD,aq⟩
 replace aD:OE w4 lf [v3] 40:=aD
 have z2:=ae.size
 have lp:=hM.On.lt
 have eS:v3.ownBlock≠some lf:=λe=>by
  rcases kE lf e with e| e
  ·exact hM.ne e
  ·omega
 have ep:=cV.kp aq (λg hg e=>eS (e▸hg))
 refine Oq$ Oo func222 O (⟨_,rfl,rfl,fpW lf v3,⟨v3,⟨aD,?_,eS⟩,λ_=>Iff.rfl⟩,?_,?_⟩)
 ·rw[List.length_append,List.map_append];exact ep
 ·exact(ae.kp.trans (ar.OA λk e=>(hF k).2 (.inr e))).trans (aq.OA λk e=>(hF k).2 (.inl e))
 ·intro k hk;rcases hk with e| e
  ·exact .inl ((hF k).2 (.inl e))
  ·rcases kE k e with e| e
   ·exact .inl ((hF k).2 (.inr e))
   ·exact .inr ω
def YT {w:World}{lf rn:Nat}{rs:List Nat}{F:Nat->Prop}(h:z1u w rn rs F)(hl:rs.length<=1000000)(br:rs≠[])(hb:∀m∈rs,m<=1000000)(x:Nat)(a:Bool):
  P9 prog 222 [Pn x,.bool a,.bool true,ptr lf 0,ptr rn 0] w λu w'=>u= .tuple #[]/\∃F',z1u w' rn (QN rs a) F'/\Kp F w w'/\∀k,F' k->F k\/w.heap.size<=k:=by
 have aN:∀k,F k->k<w.heap.size:=λk hk=>h.lt hk
 obtain⟨bv,hM,hF⟩:=id h
 refine py (e:=[(0,_),(1,_),(2,_),(3,_),(4,_)]) func222 O ntmps222 O O ?_
 have js:=hM.On
 obtain⟨va,vc,rfl,-⟩:=hM.sl.rd.shape
 refine Qt$ P7 O$ qV ((S1 O))$ OK O$ Ox O$ P7 O$ qV (OB Rl O O js O)$ Ro Rl O$ qV (Xf O O ω ω) ?_
 rw[Nat.and_one_is_mod]
 refine QS O$ qV (zd6 O O U4) ?_
 have hd:decide (((rs.length%2:Nat):Int)=1)=(rs.length%2==1):=by
  rcases Nat.mod_two_eq_zero_or_one rs.length with e|e<;>rw[e]<;>rfl
 rw[hd]
 refine OK O$ Pw (λe' w'=>e'=[(4,ptr rn 0)]/\∃F',z1u w' rn (UP rs a) F'/\Kp F w w'/\∀k,F' k->F k\/w.heap.size<=k) ?sA$ λsA=>?sB
 case sA=>
  rintro e' w1 ⟨rfl,F1,⟨v1,cZ,oI⟩,aG,iM⟩
  obtain⟨l,m,i9,fx,hm⟩:∃l m,UP rs a=l++[m]/\l.length<=1000000/\m<=1000000:=by
   unfold UP;split
   ·exact⟨rs,0,rfl,hl,ω⟩
   ·refine⟨rs.dropLast,rs.getLast br,(List.dropLast_concat_getLast br).symm,by rw[List.length_dropLast];omega,hb _ (List.getLast_mem br)⟩
  rw[i9] at cZ;have BZ:(l++[m]).length=l.length+1:=by simp
  rw[BZ] at cZ;rcases cZ.sl.shape with⟨-,h0⟩|⟨g,c1,rfl,fU⟩
  ·omega
  have ah:=cZ.On;refine Om$ Oz O$ qV (OB Rl O O ah O)$ qV (OB Rl O O ah O)$ Ro Rl O$ Ra O ?_;rw[show((l.length+1:Nat):Int)-1=(l.length:Int) by omega];refine qV (PK Rl PH O O ω) (qV (Pc U3 O O (PM cZ.sl.rd (show((l++[m]).map z69)[l.length]? =some (z69 m) by simp))) ?_);refine PL O (qV (PK Rl PH O O ω) (OJ O (RA PH O O O cZ.sl ξ) ?_));rintro w2 ⟨cU,am⟩;have ak:=am.On ah (λe=>cZ.ne (by rw[e];rfl));refine Oq$ PQ func222 O (⟨_,rfl,rfl,fpW rn (.slice (some ⟨g,0,none⟩) (l.length+1) c1),⟨_,⟨ak,?_,cZ.ne⟩,λ_=>Iff.rfl⟩,?_,?_⟩)
  ·rw[z0f,i9,W2];have e1:(l++[m+1]).length=l.length+1:=by simp
   rw[e1]
   have e2:((l++[m]).map z69).set l.length (z69 (m+1))=(l++[m+1]).map z69:=by
    rw[List.map_append,List.set_append_right _ _ ξ];simp
   rw[<-e2];have e3:l.length*1=l.length:=Nat.mul_one _
   first|exact cU|(simp only[Nat.zero_add,Nat.mul_one] at cU;exact cU)
  ·exact aG.It (am.OA (λk e=>(oI k).2 (.inr (by rw[e];rfl)))) (λi hi=>(iM i hi).symm)
  ·intro k hk;exact iM k ((oI k).2 hk)
 case sB=>
  refine Q0 O (λe1=>?_)$ λe1=>?_
  ·have du:UP rs a=rs++[0]:=by unfold UP;exact if_pos e1
   refine Oz O (qV (OB Rl O O js O) (Oy O O (XM (cs:=[_]) (zs:=[Value.int .i64 0]) Rl PH O (by kernel_rfl) O O O ψ) ?_));rintro _ w2 ⟨b2,rfl,⟨bP,ae,ak⟩,cU⟩;refine Oy O O (pap Rl PH O ψ O O (hM.sl.ext ae) cU.rd (by intro c hc;simp at hc;subst hc;rfl) ω (by simp only[maxLen];omega)) ?_;rintro v3 w3 ⟨cV,ar,kE,-⟩;have mw:=cV.oneV;have aH:=ar.On (ae.On js) hM.ne;refine OJ O (Qw z6i O O mw aH ξ) ?_;rintro w4 ⟨aD,aq⟩;replace aD:OE w4 rn [v3] 37:=aD;have z2:=ae.size;have lp:=hM.On.lt
   have eS:v3.ownBlock≠some rn:=λe=>by
    rcases kE rn e with e| e
    ·exact hM.ne e
    ·omega
   have ep:=cV.kp aq (λg hg e=>eS (e▸hg));refine Oq ((sA _ _ ⟨rfl,fpW rn v3,⟨v3,⟨aD,?_,eS⟩,λ_=>Iff.rfl⟩,?_,?_⟩).qb)
   ·rw[du,List.length_append,List.map_append];exact ep
   ·exact(ae.kp.trans (ar.OA λk e=>(hF k).2 (.inr e))).trans (aq.OA λk e=>(hF k).2 (.inl e))
   ·intro k hk;rcases hk with e| e
    ·exact .inl ((hF k).2 (.inl e))
    ·rcases kE k e with e| e
     ·exact .inl ((hF k).2 (.inr e))
     ·exact .inr ω
  ·have du:UP rs a=rs:=by unfold UP;exact if_neg (by simpa using e1)
   refine Ot ?_;exact(sA _ _ ⟨rfl,F,by rw[du];exact h,Kp.refl _ _,λk hk=> .inl hk⟩).qb
def Vc (s r rs:List Nat):List Nat:=r.foldl (λrs y=>QN rs (decide (y∈s))) rs
def Zv {s t:List Nat}:∀(r rs:List Nat),(∀y∈r,(y∈s↔y∈t))->Vc s r rs=Vc t r rs
 |[],rs,_=>rfl
 | y :: r, rs, h => by
   have h1:decide (y∈s)=decide (y∈t):=decide_eq_decide.2 (h y List.mem_cons_self);show Vc s r (QN rs (decide (y∈s)))=Vc t r (QN rs (decide (y∈t)));rw[h1];exact Zv r _ (λz hz=>h z (List.mem_cons_of_mem _ hz))
def VC {x z:Nat}{l:List Nat}(h:x<z):z∈x::l↔z∈l:=by
 rw[List.mem_cons]
 constructor
 ·rintro(e|e)
  ·omega
  ·exact e
 ·exact .inr
theorem z2O {x:Nat}{s r:List Nat}(h:∀y∈r,x<y):P3 (x::s) r=x::P3 s r/\∀rs,Vc (x::s) r rs=Vc s r rs:=by
 have hx:x∉r:=λe=>by have:=h x e;omega
 refine⟨?_,λrs=>Zv r rs λy hy=>VC (h y hy)⟩
 unfold P3
 rw[List.filter_cons,if_pos (by simpa using hx)]
def z0k {r t:List Nat}(s:List Nat)(h:∀x∈s,(x∈r↔x∈t)):P3 s r=P3 s t:=
 List.filter_congr λx hx=>decide_eq_decide.2 (not_congr (h x hx))
theorem z7G {x:Nat}{s r:List Nat}(hs:∀z∈s,x<z)(hr:∀y∈r,x<y):P3 (x::s) (x::r)=P3 s r/\∀rs,Vc (x::s) (x::r) rs=Vc s r (QN rs true):=by
 refine⟨?_,λrs=>?_⟩
 ·have:=z0k (r:=x::r) (t:=r) s (λz hz=>VC (hs z hz));rw[<-this];unfold P3;rw[List.filter_cons,if_neg ξ]
 ·show Vc (x::s) r (QN rs (decide (x∈x::s)))=_;rw[decide_eq_true List.mem_cons_self];exact(z2O hr).2 _
theorem z7J {y:Nat}{s r:List Nat}(hs:∀z∈s,y<z):P3 s (y::r)=P3 s r/\∀rs,Vc s (y::r) rs=Vc s r (QN rs false):=by
 refine⟨z0k s (λz hz=>VC (hs z hz)),λrs=>?_⟩
 show Vc s r (QN rs (decide (y∈s)))=_
 rw[decide_eq_false λe=>by have:=hs y e;omega]
def z4t {x y:Nat}{l:List Nat}(hr:Ris (y::l))(h:x<y):∀z∈y::l,x<z:=λz hz=>by
 rcases List.mem_cons.1 hz with e| e
 ·omega
 ·have:=(List.pairwise_cons.1 hr).1 z e;omega
def z1k:∀{l:List Nat} {m:Nat},m∈l->m<=l.sum
 | x :: l, m, h => by
   rw[List.sum_cons];rcases List.mem_cons.1 h with e| e
   ·omega
   ·have:=z1k e;omega
def z4H (rs:List Nat)(f:Bool):(QN rs f).length<=rs.length+1:=by
 rw[z0f,List.length_modify]
 unfold UP
 split<;>simp
def Tj.le {rs:List Nat}{fs:List Bool}(h:Tj rs fs):∀m∈rs,m<=fs.length:=λm hm=>by
 have:=z1k hm
 rw[<-h.exp,SC];exact this
structure TN (w:World)(succ ref:List Nat)(lf rn:Nat)(FL0 FR0:Nat->Prop)(s:List Nat)(sa:Option Addr)(sc:Nat)(r:List Nat)(ra:Option Addr)(rc:Nat)(L rs:List Nat)(w':World):Prop where
 ex:∃FL FR fs,z2x w' lf L FL/\z1u w' rn rs FR/\Tj rs fs/\fs.length+r.length<=65536/\rs.length+r.length<=65537/\(∀k,FL k->FL0 k\/w.heap.size<=k)/\(∀k,FR k->FR0 k\/w.heap.size<=k)/\∀k,FL k->¬FR k
 rdS:∀w2,Kp (λk=>FL0 k\/FR0 k) w w2->Rd w2 (.slice sa s.length sc) 1 s.length (s.map Pn)
 rdR:∀w2,Kp (λk=>FL0 k\/FR0 k) w w2->Rd w2 (.slice ra r.length rc) 1 r.length (r.map Pn)
 clS:s.length<=sc
 clR:r.length<=rc
 kp:Kp (λk=>FL0 k\/FR0 k) w w'
 okS:Pq s
 okR:Pq r
 left:P3 succ ref=L++P3 s r
 fold:QZ succ ref=Vc s r rs
 zew:L.length+s.length<=65536
section
variable {w w1 w2:World}{succ ref:List Nat}{lf rn:Nat}{FL0 FR0:Nat->Prop}{s r L rs:List Nat}{sa ra:Option Addr}{sc rc:Nat}{x y:Nat}
def TN.ext (h:TN w succ ref lf rn FL0 FR0 s sa sc r ra rc L rs w1)(hx:Ext w1 w2):TN w succ ref lf rn FL0 FR0 s sa sc r ra rc L rs w2:=by
 obtain⟨FL,FR,fs,h1,h2,h3⟩:=h.ex
 exact⟨⟨FL,FR,fs,h1.ext hx,h2.ext hx,h3⟩,h.rdS,h.rdR,h.clS,h.clR,h.kp.trans hx.kp,h.okS,h.okR,h.left,h.fold,h.zew⟩
def TN.z7u (h:TN w succ ref lf rn FL0 FR0 (x::s) sa sc r ra rc L rs w1):∃b off,sa=some ⟨b,off,none⟩/\∀w2,Kp (λk=>FL0 k\/FR0 k) w w2->w2.cell? ⟨b,off+0*1,none⟩=some (Pn x):=by
 rcases (h.rdS w1 h.kp).2 with⟨c,-,h0⟩|⟨b,off,cap,hv,-⟩
 ·exact absurd h0 ξ
 ·cases hv;exact⟨b,off,rfl,λw2 k=>PM (h.rdS w2 k) O⟩
def TN.z7o (h:TN w succ ref lf rn FL0 FR0 s sa sc (y::r) ra rc L rs w1):∃b off,ra=some ⟨b,off,none⟩/\∀w2,Kp (λk=>FL0 k\/FR0 k) w w2->w2.cell? ⟨b,off+0*1,none⟩=some (Pn y):=by
 rcases (h.rdR w1 h.kp).2 with⟨c,-,h0⟩|⟨b,off,cap,hv,-⟩
 ·exact absurd h0 ξ
 ·cases hv;exact⟨b,off,rfl,λw2 k=>PM (h.rdR w2 k) O⟩
def TN.zdz (h:TN w succ ref lf rn FL0 FR0 (x::s) sa sc r ra rc L rs w1){FL FR:Nat->Prop}{fs:List Bool}(he:z2x w1 lf L FL/\z1u w1 rn rs FR/\Tj rs fs/\fs.length+r.length<=65536/\rs.length+r.length<=65537/\(∀k,FL k->FL0 k\/w.heap.size<=k)/\(∀k,FR k->FR0 k\/w.heap.size<=k)/\∀k,FL k->¬FR k)
  (hr:∀y∈r,x<y) (hw:∃FL',z2x w2 lf (L++[x]) FL'/\Kp FL w1 w2/\∀k,FL' k->FL k\/w1.heap.size<=k):
  TN w succ ref lf rn FL0 FR0 s (if sc=1 then sa else sa.map (·.add (1*1))) (sc-1) r ra rc (L++[x]) rs w2:=by
 obtain⟨-,k1,k2,k3,k4,k5,k6,k7,k8,k9,k10⟩:=h
 obtain⟨h1,h2,h3,h4,h5,h6,h7,h8⟩:=he
 obtain⟨FL',g1,g2,g3⟩:=hw
 have hz:=k5.size
 rw[List.length_cons] at k3 k10
 refine⟨⟨FL',FR,fs,g1,h2.kp g2 (λi hi e=>h8 i e hi),h3,h4,h5,λk hk=>?_,h7,λk hk e=>?_⟩,λw2 k=>?_,k2,ω,k4,k5.It g2 (λi hi=>?_),k6.sub (List.sublist_cons_self _ _),k7,?_,?_,?_⟩
 ·rcases g3 k hk with e| e
  ·exact h6 k e
  ·exact .inr ω
 ·rcases g3 k hk with e2|e2
  ·exact h8 k e2 e
  ·have:=h2.lt e;omega
 ·have:=Tw (k1 w2 k) (i:=1) (by rw[List.length_cons];omega) (by rw[List.length_cons];omega);exact this
 ·rcases h6 i hi with e| e
  ·exact .inr (.inl e)
  ·exact .inl e
 ·rw[k8,(z2O hr).1,List.append_assoc];rfl
 ·rw[k9,(z2O hr).2]
 ·rw[List.length_append,List.length_singleton];omega
def TN.z9Z {s2:List Nat}{sa2:Option Addr}{sc2:Nat}{f:Bool}(h:TN w succ ref lf rn FL0 FR0 s sa sc (y::r) ra rc L rs w1)(hs:(s2=s/\sa2=sa/\sc2=sc/\f=false/\∀z∈s,y<z)\/(s=y::s2/\sa2=(if sc=1 then sa else sa.map (·.add (1*1)))/\sc2=sc-1/\f=true))
  {FL FR:Nat->Prop} {fs:List Bool} (he:z2x w1 lf L FL/\z1u w1 rn rs FR/\Tj rs fs/\fs.length+(y::r).length<=65536/\rs.length+(y::r).length<=65537/\(∀k,FL k->FL0 k\/w.heap.size<=k)/\(∀k,FR k->FR0 k\/w.heap.size<=k)/\∀k,FL k->¬FR k)
  (hw:∃FR',z1u w2 rn (QN rs f) FR'/\Kp FR w1 w2/\∀k,FR' k->FR k\/w1.heap.size<=k):
  TN w succ ref lf rn FL0 FR0 s2 sa2 sc2 r (if rc=1 then ra else ra.map (·.add (1*1))) (rc-1) L (QN rs f) w2:=by
 obtain⟨-,k1,k2,k3,k4,k5,k6,k7,k8,k9,k10⟩:=h
 obtain⟨h1,h2,h3,h4,h5,h6,h7,h8⟩:=he
 rw[List.length_cons] at h4 h5 k4
 obtain⟨FR',g1,g2,g3⟩:=hw
 have hz:=k5.size
 have gV:=z4H rs f
 have Ho:∀z∈r,y<z:=(List.pairwise_cons.1 k7.ris).1
 have Hp:∃FL FR fs,z2x w2 lf L FL/\z1u w2 rn (QN rs f) FR/\Tj (QN rs f) fs/\fs.length+r.length<=65536/\(QN rs f).length+r.length<=65537/\(∀k,FL k->FL0 k\/w.heap.size<=k)/\(∀k,FR k->FR0 k\/w.heap.size<=k)/\∀k,FL k->¬FR k:=by
  refine⟨FL,FR',fs++[f],h1.kp g2 (λi hi e=>h8 i hi e),g1,h3.step f,by rw[List.length_append,List.length_singleton];omega,ω,h6,λk hk=>?_,λk hk e=>?_⟩
  ·rcases g3 k hk with e| e
   ·exact h7 k e
   ·exact .inr ω
  ·rcases g3 k e with e2|e2
   ·exact h8 k hk e2
   ·have:=h1.lt hk;omega
 have Hq:Kp (λk=>FL0 k\/FR0 k) w w2:=k5.It g2 (λi hi=>by
  rcases h7 i hi with e| e
  ·exact .inr (.inr e)
  ·exact .inl e)
 have eB:∀w2,Kp (λk=>FL0 k\/FR0 k) w w2->Rd w2 (.slice (if rc=1 then ra else ra.map (·.add (1*1))) r.length (rc-1)) 1 r.length (r.map Pn):=λw2 k=>
  Tw (k2 w2 k) (i:=1) (by rw[List.length_cons];omega) (by rw[List.length_cons];omega)
 rcases hs with⟨rfl,rfl,rfl,rfl,hg⟩|⟨rfl,rfl,rfl,rfl⟩
 ·exact⟨Hp,k1,eB,k3,ω,Hq,k6,k7.sub (List.sublist_cons_self _ _),by rw[k8,(z7J hg).1],by rw[k9,(z7J hg).2],k10⟩
 ·have Hr:∀z∈s2,y<z:=(List.pairwise_cons.1 k6.ris).1;rw[List.length_cons] at k3 k10;refine⟨Hp,λw2 k=>?_,eB,ω,ω,Hq,k6.sub (List.sublist_cons_self _ _),k7.sub (List.sublist_cons_self _ _),by rw[k8,(z7G Hr Ho).1],by rw[k9,(z7G Hr Ho).2],ω⟩;exact Tw (k1 w2 k) (i:=1) (by rw[List.length_cons];omega) (by rw[List.length_cons];omega)
end
def zah {w:World}{succ ref:List Nat}{lf rn:Nat}{FL0 FR0:Nat->Prop}{sa ra:Option Addr}{sc rc:Nat}(Jm:TN w succ ref lf rn FL0 FR0 succ sa sc ref ra rc [] [0] w):
  P9 prog 221 [.slice sa succ.length sc,.slice ra ref.length rc,.func (.func 222) #[] #[ptr lf 0,ptr rn 0]] w λu w'=>u= .tuple #[]/\
   ∃FL FR,z2x w' lf (P3 succ ref) FL/\z1u w' rn (QZ succ ref) FR/\(∀k,FL k->FL0 k\/w.heap.size<=k)/\(∀k,FR k->FR0 k\/w.heap.size<=k)/\(∀k,FL k->¬FR k)/\Kp (λk=>FL0 k\/FR0 k) w w':=by
 refine py (e:=[(0,_),(1,_),(2,_)]) func221 O ntmps221 O O$ Ou$ Rw (α:=List Nat×Option Addr×Nat×List Nat×Option Addr×Nat×List Nat×List Nat) ((succ,sa,sc,ref,ra,rc,[],[0])) (λx=>[(0,.slice x.2.1 x.1.length x.2.2.1),(1,.slice x.2.2.2.2.1 x.2.2.2.1.length x.2.2.2.2.2.1),(2,.func (.func 222) #[] #[ptr lf 0,ptr rn 0])]) (λx w'=>TN w succ ref lf rn FL0 FR0 x.1 x.2.1 x.2.2.1 x.2.2.2.1 x.2.2.2.2.1 x.2.2.2.2.2.1 x.2.2.2.2.2.2.1 x.2.2.2.2.2.2.2 w') (λx=>x.1.length+x.2.2.2.1.length) ?hI ?hround
 case hI=>exact Jm
 case hround=>
  rintro⟨s,sa,sc,r,ra,rc,L,rs⟩ w6 hI ih;dsimp only at hI
  try dsimp only
  have hg:=(Ext.refl w6).drew;have aa:=hg.drew;have cA:=hI.ext aa;have p0:([]:List Nat).length=0:=rfl;have kJ:=hI.okS.len;have AP:=hI.okR.len;rcases s with _|⟨x,s⟩
  ·rcases r with _|⟨y,r⟩
   ·refine Pz O$ Ro Ph O$ Qr O$ Pu$ OX O$ Ro Ph O$ Qr O$ Pu$ PC O$ Oq$ Ox O$ OD O$ PQ func221 O ?_;have qP:=hI.left;have ww:=hI.fold;obtain⟨FL,FR,fs,h1,h2,h3,h4,h5,h6,h7,h8⟩:=hI.ex;rw[qP,ww];exact⟨_,rfl,rfl,FL,FR,by simpa[P3] using h1,h2,h6,h7,h8,hI.kp⟩
   ·skip
    obtain⟨b2,off2,rfl,mu⟩:=hI.z7o;have p1:0<((y::r:List Nat).length:Int):=by rw[List.length_cons];omega
    have p3:¬(((y::r).length:Int)=0):=by omega
    refine Pz O$ Ro Ph O$ Qr O$ Pu$ OX O$ Ro Ph O$ Qr O$ Rf$ PC O$ Oq$ OI O$ Ot$ Ou$ An ?_;refine R8 (λw'=>Ext w6 w') O$ OR 0 O O (hg)$ Ow 1 O (St Ph O) hg$ Ow 2 O (yeq O O) hg$ TK$ OR 3 O O (hg)$ OR 4 O O (hg)$ Ow 5 O (St Ph O) hg$ Ow 6 O (XQ O O) hg$ TK$ OR 7 O O (hg)$ qJ 8 O (hg)$ qJ 9 O (hg)$ qJ 10 O (hg) ?_;refine qJ 11 O (hg)$ qJ 12 O (hg)$ qJ 13 O (hg)$ qJ 14 O (hg)$ Ow 15 O (U0 O O) hg$ Ow 16 O (U0 O O) hg$ Ow 17 O (Rr O) hg$ qE$ An$ R8 (λw'=>Ext w6 w') O$ OR 0 O O (aa)$ Ow 1 O (St Ph O) aa$ Ow 2 O (yeq O O) aa$ TH ?_;refine OR 3 O O (aa)$ qJ 4 O (aa)$ qJ 5 O (aa)$ qJ 6 O (aa)$ qJ 7 O (aa)$ qJ 8 O (aa)$ qJ 9 O (aa)$ qJ 10 O (aa)$ qJ 11 O (aa)$ qJ 12 O (aa)$ qJ 13 O (aa)$ qJ 14 O (aa)$ qJ 15 O (aa)$ Ow 16 O (UT O O) aa ?_;refine Ow 17 O (Rr O) aa (qE (Pz O (Oq (Ox O (Oz O (OX O (qV (PK Ph OS O O ω) (qV (Pc QA O O (mu _ cA.kp)) ?_))))))));obtain⟨FL,FR,fs,h1,h2,h3,h4,h5,h6,h7,h8⟩:=cA.ex;refine Qy O O (RY z4o O O) (YT h2 ω h3.ne (λm hm=>by have:=h3.le m hm;omega) y false) ?_;rintro _ w7 ⟨rfl,pd⟩;refine qM O (OC O (Oq (OI O (R0 O (qV (Ya Ph OS O O (by rw[List.length_cons];omega) hI.clR) ?_)))));refine OK O$ Om ?_;exact(ih ([],sa,sc,r,_,rc-1,L,QN rs false) _ (cA.z9Z (.inl ⟨rfl,rfl,rfl,rfl,λz hz=>by simp at hz⟩) ⟨h1,h2,h3,h4,h5,h6,h7,h8⟩ pd) (by dsimp only;simp only[List.length_cons,List.length_nil];omega)).qb
  ·rcases r with _|⟨y,r⟩
   ·obtain⟨b,off,rfl,mx⟩:=hI.z7u
    skip
    have p1:0<((x::s:List Nat).length:Int):=by rw[List.length_cons];omega
    have p4:¬(((x::s).length:Int)=0):=by omega
    refine Pz O$ Ro Ph O$ Qr O$ Rf$ OC O$ QI$ qS$ QQ O$ Oq$ OI O$ Ot$ Ou$ An$ R8 (λw'=>Ext w6 w') O ?_;refine OR 0 O O (hg)$ Ow 1 O (St Ph O) hg$ Ow 2 O (yeq O O) hg$ TH$ OR 3 O O (hg)$ qJ 4 O (hg)$ qJ 5 O (hg)$ qJ 6 O (hg)$ qJ 7 O (hg)$ qJ 8 O (hg)$ qJ 9 O (hg)$ qJ 10 O (hg)$ qJ 11 O (hg)$ qJ 12 O (hg) ?_;refine qJ 13 O (hg)$ qJ 14 O (hg)$ qJ 15 O (hg)$ Ow 16 O (UT O O) hg$ Ow 17 O (Rr O) hg$ qE$ An$ R8 (λw'=>Ext w6 w') O$ OR 0 O O (aa)$ Ow 1 O (St Ph O) aa$ Ow 2 O (yeq O O) aa$ TK$ OR 3 O O (aa)$ OR 4 O O (aa) ?_;refine Ow 5 O (St Ph O) aa$ Ow 6 O (XQ O O) aa$ TK$ OR 7 O O (aa)$ qJ 8 O (aa)$ qJ 9 O (aa)$ qJ 10 O (aa)$ qJ 11 O (aa)$ qJ 12 O (aa)$ qJ 13 O (aa)$ qJ 14 O (aa)$ Ow 15 O (U0 O O) aa$ Ow 16 O (U0 O O) aa$ Ow 17 O (Rr O) aa ?_;refine qE (Pz O (Oq (OI O (Qh O (qV (PK Ph OS O O ω) (qV (Pc QA O O (mx _ cA.kp)) (OC O ?_)))))));obtain⟨FL,FR,fs,h1,h2,h3,h4,h5,h6,h7,h8⟩:=cA.ex;have Jn:=cA.zew;refine Qy O O (RY z4o O O) (z1T h1 ω x true) ?_;rintro _ w7 ⟨rfl,pd⟩;refine Oq (R0 O (qV (Ya Ph OS O O (by rw[List.length_cons];omega) hI.clS) ?_));refine QO O$ PX O$ Om ?_;exact(ih (s,_,sc-1,[],ra,rc,L++[x],rs) _ (cA.zdz ⟨h1,h2,h3,h4,h5,h6,h7,h8⟩ (λz hz=>by simp at hz) pd) (by dsimp only;simp only[List.length_cons,List.length_nil];omega)).qb
   ·rcases Nat.lt_trichotomy x y with dz|dz|dz
    ·obtain⟨b,off,rfl,mx⟩:=hI.z7u;obtain⟨b2,off2,rfl,mu⟩:=hI.z7o;have p1:0<((x::s:List Nat).length:Int):=by rw[List.length_cons];omega
     have p2:0<((y::r).length:Int):=by rw[List.length_cons];omega
     have p3:¬(((y::r).length:Int)=0):=by omega
     have p4:¬(((x::s).length:Int)=0):=by omega
     refine Pz O$ Ro Ph O$ Qr O$ Rf$ OC O$ QI$ qS$ QQ O$ Oq$ OI O$ Ot$ Ou$ An$ R8 (λw'=>Ext w6 w') O ?_;refine OR 0 O O (hg) (Ow 1 O (St Ph O) hg (Ow 2 O (yeq O O) hg (TK (OR 3 O O (hg) (OR 4 O O (hg) (Ow 5 O (St Ph O) hg (Ow 6 O (XQ O O) hg (TH (OR 7 O O (hg) (OR 8 O O (hg) (Ow 9 O (PK Ph OS O O ω) hg (OR 11 O O (hg) (Ow 12 O (PK Ph OS O O ω) hg ?_)))))))))))));refine qT 10 O (λ_ h=>Pc QA O O (mx _ (hI.kp.trans h.kp))) hg$ qT 13 O (λ_ h=>Pc QA O O (mu _ (hI.kp.trans h.kp))) hg$ Ow 14 O (YF O O) hg$ TH$ Ow 15 O (UT O O) hg$ Ow 16 O (U0 O O) hg$ Ow 17 O (Rr O) hg$ qE$ An$ R8 (λw'=>Ext w6 w') O$ OR 0 O O (aa)$ Ow 1 O (St Ph O) aa$ Ow 2 O (yeq O O) aa$ TK ?_;refine OR 3 O O (aa) (OR 4 O O (aa) (Ow 5 O (St Ph O) aa (Ow 6 O (XQ O O) aa (TH (OR 7 O O (aa) (OR 8 O O (aa) (Ow 9 O (PK Ph OS O O ω) aa (OR 11 O O (aa) (Ow 12 O (PK Ph OS O O ω) aa (qT 10 O (λ_ h=>Pc QA O O (mu _ (hI.kp.trans h.kp))) aa (qT 13 O (λ_ h=>Pc QA O O (mx _ (hI.kp.trans h.kp))) aa (Ow 14 O (YF O O) aa (TK ?_)))))))))))));refine Ow 15 O (UT O O) aa (Ow 16 O (U0 O O) aa (Ow 17 O (Rr O) aa (qE (Pz O (Oq (OI O (Qh O (qV (PK Ph OS O O ω) (qV (Pc QA O O (mx _ cA.kp)) (OC O ?_))))))))));obtain⟨FL,FR,fs,h1,h2,h3,h4,h5,h6,h7,h8⟩:=cA.ex;have Jn:=cA.zew;refine Qy O O (RY z4o O O) (z1T h1 ω x true) ?_;rintro _ w7 ⟨rfl,pd⟩;refine Oq (R0 O (qV (Ya Ph OS O O (by rw[List.length_cons];omega) hI.clS) ?_));refine QO O$ PX O$ Om ?_;exact(ih (s,_,sc-1,y::r,_,rc,L++[x],rs) _ (cA.zdz ⟨h1,h2,h3,h4,h5,h6,h7,h8⟩ (z4t hI.okR.ris dz) pd) (by dsimp only;simp only[List.length_cons,List.length_nil];omega)).qb
    ·obtain⟨b,off,rfl,mx⟩:=hI.z7u;obtain⟨b2,off2,rfl,mu⟩:=hI.z7o;have p1:0<((x::s:List Nat).length:Int):=by rw[List.length_cons];omega
     have p2:0<((y::r).length:Int):=by rw[List.length_cons];omega
     have p3:¬(((y::r).length:Int)=0):=by omega
     have p4:¬(((x::s).length:Int)=0):=by omega
     refine Pz O$ Ro Ph O$ Qr O$ Rf$ OC O$ QI$ qS$ QQ O$ Oq$ OI O$ Ot$ Ou$ An$ R8 (λw'=>Ext w6 w') O ?_;refine OR 0 O O (hg) (Ow 1 O (St Ph O) hg (Ow 2 O (yeq O O) hg (TK (OR 3 O O (hg) (OR 4 O O (hg) (Ow 5 O (St Ph O) hg (Ow 6 O (XQ O O) hg (TH (OR 7 O O (hg) (OR 8 O O (hg) (Ow 9 O (PK Ph OS O O ω) hg (OR 11 O O (hg) (Ow 12 O (PK Ph OS O O ω) hg ?_)))))))))))));refine qT 10 O (λ_ h=>Pc QA O O (mx _ (hI.kp.trans h.kp))) hg$ qT 13 O (λ_ h=>Pc QA O O (mu _ (hI.kp.trans h.kp))) hg$ Ow 14 O (YF O O) hg$ TH$ Ow 15 O (UT O O) hg$ Ow 16 O (U0 O O) hg$ Ow 17 O (Rr O) hg$ qE$ An$ R8 (λw'=>Ext w6 w') O$ OR 0 O O (aa)$ Ow 1 O (St Ph O) aa$ Ow 2 O (yeq O O) aa$ TK ?_;refine OR 3 O O (aa) (OR 4 O O (aa) (Ow 5 O (St Ph O) aa (Ow 6 O (XQ O O) aa (TH (OR 7 O O (aa) (OR 8 O O (aa) (Ow 9 O (PK Ph OS O O ω) aa (OR 11 O O (aa) (Ow 12 O (PK Ph OS O O ω) aa (qT 10 O (λ_ h=>Pc QA O O (mu _ (hI.kp.trans h.kp))) aa (qT 13 O (λ_ h=>Pc QA O O (mx _ (hI.kp.trans h.kp))) aa (Ow 14 O (YF O O) aa (TH ?_)))))))))))));refine Ow 15 O (UT O O) aa (Ow 16 O (U0 O O) aa (Ow 17 O (Rr O) aa (qE (Pz O (Oq (OI O (Qh O (qV (PK Ph OS O O ω) (qV (Pc QA O O (mx _ cA.kp)) (OC O ?_))))))))));obtain⟨FL,FR,fs,h1,h2,h3,h4,h5,h6,h7,h8⟩:=cA.ex;refine Qy O O (RY z4o O O) (YT h2 ω h3.ne (λm hm=>by have:=h3.le m hm;omega) x true) ?_;rintro _ w7 ⟨rfl,pd⟩;refine Oq (R0 O (qV (Ya Ph OS O O (by rw[List.length_cons];omega) hI.clS) ?_));refine QO O (Oq (OI O (R0 O (qV (Ya Ph OS O O (by rw[List.length_cons];omega) hI.clR) ?_))));refine OK O$ Om ?_;subst dz;exact(ih (s,_,sc-1,r,_,rc-1,L,QN rs true) _ (cA.z9Z (.inr ⟨rfl,rfl,rfl,rfl⟩) ⟨h1,h2,h3,h4,h5,h6,h7,h8⟩ pd) (by dsimp only;simp only[List.length_cons,List.length_nil];omega)).qb
    ·obtain⟨b,off,rfl,mx⟩:=hI.z7u;obtain⟨b2,off2,rfl,mu⟩:=hI.z7o;have p1:0<((x::s:List Nat).length:Int):=by rw[List.length_cons];omega
     have p2:0<((y::r).length:Int):=by rw[List.length_cons];omega
     have p3:¬(((y::r).length:Int)=0):=by omega
     have p4:¬(((x::s).length:Int)=0):=by omega
     refine Pz O$ Ro Ph O$ Qr O$ Rf$ OC O$ QI$ qS$ QQ O$ Oq$ OI O$ Ot$ Ou$ An$ R8 (λw'=>Ext w6 w') O ?_;refine OR 0 O O (hg) (Ow 1 O (St Ph O) hg (Ow 2 O (yeq O O) hg (TK (OR 3 O O (hg) (OR 4 O O (hg) (Ow 5 O (St Ph O) hg (Ow 6 O (XQ O O) hg (TH (OR 7 O O (hg) (OR 8 O O (hg) (Ow 9 O (PK Ph OS O O ω) hg (OR 11 O O (hg) (Ow 12 O (PK Ph OS O O ω) hg ?_)))))))))))));refine qT 10 O (λ_ h=>Pc QA O O (mx _ (hI.kp.trans h.kp))) hg$ qT 13 O (λ_ h=>Pc QA O O (mu _ (hI.kp.trans h.kp))) hg$ Ow 14 O (YF O O) hg$ TK$ Ow 15 O (UT O O) hg$ Ow 16 O (U0 O O) hg$ Ow 17 O (Rr O) hg$ qE$ An$ R8 (λw'=>Ext w6 w') O$ OR 0 O O (aa)$ Ow 1 O (St Ph O) aa$ Ow 2 O (yeq O O) aa$ TK ?_;refine OR 3 O O (aa) (OR 4 O O (aa) (Ow 5 O (St Ph O) aa (Ow 6 O (XQ O O) aa (TH (OR 7 O O (aa) (OR 8 O O (aa) (Ow 9 O (PK Ph OS O O ω) aa (OR 11 O O (aa) (Ow 12 O (PK Ph OS O O ω) aa (qT 10 O (λ_ h=>Pc QA O O (mu _ (hI.kp.trans h.kp))) aa (qT 13 O (λ_ h=>Pc QA O O (mx _ (hI.kp.trans h.kp))) aa (Ow 14 O (YF O O) aa (TH ?_)))))))))))));refine Ow 15 O (UT O O) aa (Ow 16 O (U0 O O) aa (Ow 17 O (Rr O) aa (qE (Pz O (Oq (Ox O (Oz O (OX O (qV (PK Ph OS O O ω) (qV (Pc QA O O (mu _ cA.kp)) ?_))))))))));obtain⟨FL,FR,fs,h1,h2,h3,h4,h5,h6,h7,h8⟩:=cA.ex;refine Qy O O (RY z4o O O) (YT h2 ω h3.ne (λm hm=>by have:=h3.le m hm;omega) y false) ?_;rintro _ w7 ⟨rfl,pd⟩;refine qM O (OC O (Oq (OI O (R0 O (qV (Ya Ph OS O O (by rw[List.length_cons];omega) hI.clR) ?_)))));refine OK O$ Om ?_;exact(ih (x::s,_,sc,r,_,rc-1,L,QN rs false) _ (cA.z9Z (.inl ⟨rfl,rfl,rfl,rfl,z4t hI.okS.ris dz⟩) ⟨h1,h2,h3,h4,h5,h6,h7,h8⟩ pd) (by dsimp only;simp only[List.length_cons,List.length_nil];omega)).qb
structure TkM (w:World)(t r:Nat)(s:Ov)(a:Nat):Prop where
 On:OE w t [ptr r 0,.bool false] 332
 rd:Tx w r s a
 ne:t≠r
def TkM.ext {w w':World}{t r a:Nat}{s:Ov}(h:TkM w t r s a)(hx:Ext w w'):TkM w' t r s a:=⟨hx.On h.On,⟨hx.On h.rd.1,h.rd.2⟩,h.ne⟩
def TW {w:World}{t r a:Nat}{s:Ov}(h:TkM w t r s a)(c:Cd)(v n:Nat)(hc:c.Qj)(hv:v<=c.most)(hn:v<=n)(jt:n<9223372036854775808)(rest:List Bool)(hb:(OU s).drop a=c.enc v++rest):
  P9 prog 243 [ptr t 0,cdV c,I (n:Int)] w λu w'=>u=I (v:Int)/\TkM w' t r s (a+(c.enc v).length)/\Kp (λk=>k=r) w w':=by
 obtain⟨x,y,dz⟩:∃x y,S6 c=[x,y]:=by cases c<;>exact⟨_,_,rfl⟩
 have qK:cdV c= .agg [x,y].toArray:=by rw[cdV,dz]
 have fg:=c.ZW
 rw[qK]
 refine py (e:=[(0,_),(1,_),(2,_)]) func243 O ntmps243 O O$ qN O$ Oy O O (R9 O (cs:=[x,y]) O) ?_
 rintro _ w1 ⟨b4,rfl,gF,ad,aH⟩
 have h1:=h.ext ad
 have C1:¬b4=r:=by have:=h.rd.1.lt;omega
 have hg:=(Ext.refl w1).drew
 refine OK O$ An$ R8 (λw'=>Kp (λk=>k=r) w1 w') O$ OR 0 O O (hg.kp)$ Ow 1 O (Q8 O) (hg.kp)$ Ow 2 O (Pk zcj O) (hg.kp)$ qT 3 O (λ_ hS=>OB UU O O (hS.On h1.On h.ne) O) (hg.kp)$ qT 4 O (λ_ h=>Pa (news:=[x,y]) Sg O Qx O ((h.On aH C1).cells (n:=2) O) O) (hg.kp) ?_
 rw[<-qK]
 refine SH 5 O zbm O (Zc (⟨hg.On h1.rd.1,h1.rd.2⟩:Tx _ r s a) c v hc hv rest hb) ?_
 rintro _ w2 ⟨rfl,cJ,am⟩
 refine⟨hg.kp.trans am,?_⟩
 have eC:=hg.kp.trans am
 have ao:=eC.On h1.On h.ne
 refine OR 6 O O (hg.kp.trans am)$ Ow 7 O (Rv O O) (hg.kp.trans am)$ Ow 8 O (Rv O O) (hg.kp.trans am)$ Ow 9 O (Rr O) (hg.kp.trans am)$ Ow 10 O (Rr O) (hg.kp.trans am)$ qE$ Pz O$ Ql O$ OX O$ OC O$ qV ((PO O U3 R7 ω))$ Qr O$ Pu$ PC O ?_
 refine PX O$ P7 O$ qV (Ps O R7 U3 ω)$ OK O$ P8.qb (e:=[(6,_)]) ?_
 refine Oo func243 O ?_
 exact⟨_,rfl,rfl,⟨ao,cJ,h.ne⟩,ad.kp.trans eC⟩
theorem PT (q:Cd×Nat)(l:List (Cd×Nat)):OV (q::l)=q.1.enc q.2++OV l:=rfl
def S2 {s e rest:List Bool}{a:Nat}(h:s.drop a=e++rest):s.drop (a+e.length)=rest:=by
 rw[<-List.drop_drop,h,List.drop_left]
structure CpI (w:World)(t r:Nat)(s:Ov)(rs ref:List Nat)(rest:List Bool)(aE i:Nat)(rs2 ref2:List Nat)(sa:Option Addr)(sc:Nat)(v5:Value)(O_:List Nat)(a:Nat)(w':World):Prop where
 tk:TkM w' t r s a
 kp:Kp (λk=>k=r) w w'
 sl:Sl w' v5 42 1 O_.length (O_.map Pn)
 fr:∀g,v5.ownBlock=some g->w.heap.size<=g
 len:rs.length=i+rs2.length
 rd:∀w2,Kp (λk=>k=r) w w2->Rd w2 (.slice sa ref2.length sc) 1 ref2.length (ref2.map Pn)
 cl:ref2.length<=sc
 sum:rs2.sum<=ref2.length
 pos:∀m∈rs2.drop (1-min i 1),1<=m
 bits:(OU s).drop a=OV (Q7 i rs2)++rest
 z3E:a+(OV (Q7 i rs2)).length=aE
 eq:copyL true rs ref=O_++copyL (i%2==0) rs2 ref2
 tot:O_.length+ref2.length<=65536
theorem z8x (a:Addr):a.add 0=a:=by
 unfold Addr.add
 split<;>simp_all
def zca {P:Program}{e:Env}{d:Option Nat}{ty t el:TypeId}{pos:String}{aft:Array Edge}{g:Option (Nat×Bool)}{x u:Operand}{w:World}{z:Value}{size bytes n cap j:Nat}{a:Option Addr}{k:IntKind}{zb:Int}[vY:T3 zb j](ht:P.underlying t=some (.slice el))(hs:TI P el z size bytes)(hx:look e x=some (.slice a n cap))
  (hu:look e u=some (.int k zb)) (h:j<=cap):
  Y P e ⟨d,.slice t x none (some u) none,ty,pos,aft,g⟩ (.slice a j cap) w w:=fun ρ hρ=>by
 obtain⟨rfl⟩:=vY
 have cH:=hs.size (w:=w)
 have h1:∀w,(Instr.sliceBound (.int k (j:Int)) cap .sliceAcap).run P w= .ok j w:=λw=>by rw[run_sliceBound _ _ _ _ _ ω ω];simp
 cases a with
 |none=>simp[execOp,hρ _ _ hx,hρ _ _ hu,Instr.sliceAt,run_underlying ht,Instr.slice,Instr.sliceBounds,h1,cH]
 |some a=>simp[execOp,hρ _ _ hx,hρ _ _ hu,Instr.sliceAt,run_underlying ht,Instr.slice,Instr.sliceBounds,h1,cH,z8x]
def z3F {w:World}{t r a:Nat}{s:Ov}(h:TkM w t r s a)(hG:OE w 1 (S6 .gamma) 314)(cW:¬1=r){sa:Option Addr}{sc:Nat}(ref rs:List Nat)
  (eB:∀w2,Kp (λk=>k=r) w w2->Rd w2 (.slice sa ref.length sc) 1 ref.length (ref.map Pn)) (eR:ref.length<=sc) (AP:ref.length<=65536) (hn:rs.length<=ref.length+1) (gM:rs.sum<=ref.length)
  (ia:∀m∈rs.drop 1,1<=m) (rest:List Bool) (hb:(OU s).drop a=OV ((.gamma,rs.length)::Q7 0 rs)++rest):
  P9 prog 230 [ptr t 0,.slice sa ref.length sc] w λu w'=>Sl w' u 42 1 (copyL true rs ref).length ((copyL true rs ref).map Pn)/\(∀g,u.ownBlock=some g->w.heap.size<=g)/\
   TkM w' t r s (a+(OV ((.gamma,rs.length)::Q7 0 rs)).length)/\Kp (λk=>k=r) w w':=by
 have ju:∀v:Nat,v<=65537->v<=Cd.most .gamma:=λv hv=>by simp only[Cd.most];omega
 refine py (e:=[(0,_),(1,_)]) func230 O ntmps230 O O$ qN O$ QL O$ QO O$ qV (Pa (news:=[.int .u8 1,ON 0]) Sg O Qx O (hG.cells (n:=2) O) O)$ OC O$ Ro Ph O ?_
 rw[PT,List.append_assoc] at hb
 rw[show((ref.length:Nat):Int)=((ref.length:Nat):Int) from rfl]
 refine PL O$ OQ z2j O (TW h .gamma rs.length (ref.length+1) trivial (ju _ ω) ω ω _ hb) ?_
 rintro _ w1 ⟨rfl,h1,aG⟩
 have bK:=S2 hb
 refine OK O$ An$ Qh O$ Oq$ Ou$ Rw (α:=Nat×List Nat×List Nat×Option Addr×Nat×Value×List Nat×Nat) ((0,rs,ref,sa,sc,.slice none 0 0,[],a+(Cd.enc .gamma rs.length).length)) (λx=>[(0,ptr t 0),(1,.slice x.2.2.2.1 x.2.2.1.length x.2.2.2.2.1),(5,x.2.2.2.2.2.1),(6,I (rs.length:Int)),(15,I (rs.length:Int)),(16,I (x.1:Int))]) (λx w'=>CpI w t r s rs ref rest (a+(OV ((.gamma,rs.length)::Q7 0 rs)).length) x.1 x.2.1 x.2.2.1 x.2.2.2.1 x.2.2.2.2.1 x.2.2.2.2.2.1 x.2.2.2.2.2.2.1 x.2.2.2.2.2.2.2 w') (λx=>x.2.1.length) ?hI ?hround
 case hI=>exact⟨h1,aG,Sl.nil _ _ _,(λg h=>by cases h),ξ,eB,eR,gM,ia,bK,by rw[PT,List.length_append];dsimp only;omega,rfl,by simp;omega⟩
 case hround =>
  rintro⟨i,rs2,ref2,sa2,sc2,v5,O_,a2⟩ w6 hI ih;dsimp only at hI;have aB:=hI.len;have wG:=hI.tot
  try dsimp only
  refine qN O$ Qv O$ Oq$ An$ OH O (λh0=>?_)$ λh0=>?_
  ·obtain⟨n,rs2,rfl⟩:∃n l,rs2=n::l:=by
    cases rs2 with
    |nil=>simp at aB;omega
    |cons n l=>exact⟨n,l,rfl⟩
   have AQ:=hI.kp.On hG cW;have gM:=hI.sum;rw[List.sum_cons] at gM;rw[List.length_cons] at aB;have bR:=hI.bits;rw[Q7,PT,List.append_assoc] at bR
   have ce:min i 1<=n:=by
    have hp:=hI.pos n;rcases Nat.eq_zero_or_pos i with e| e
    ·subst e;simp
    ·rw[show 1-min i 1=0 by omega] at hp;have:=hp List.mem_cons_self;omega
   refine Ot (Qt (P7 O (QO O (qV (Pa (news:=[.int .u8 1,ON 0]) Sg O Qx O (AQ.cells (n:=2) O) O) (OC O (Ro Ph O (OQ z2j O (TW hI.tk .gamma (n-min i 1) ref2.length trivial (ju _ ω) ω ω _ bR) ?_)))))));rintro _ w7 ⟨rfl,h7,ax⟩;have ib:=hI.kp.trans ax;have bZ:=h7.On;refine OC O$ qV (ymi O O)$ PL O ?_;rw[show((n-min i 1:Nat):Int)+min (i:Int) 1=(n:Int) by omega];refine OK O (Pz O (Pb O (OL Ty O (qV (OB U4 O O bZ O) (OX O (OC O (Ro Ph O (Qr O (Pu (PC O (PX O (Pz O (qV (Xf O O ω ω) ?_)))))))))))));rw[Nat.and_one_is_mod];have C2:=hI.rd _ ib;have eT:=S2 bR;have AO:=hI.kp.size;have Hs:=ax.size
   have sC:∀g,v5.ownBlock=some g->¬g=r:=λg hg e=>by
    have h1:=hI.fr g hg;have h2:=h.rd.1.lt;omega
   have gL:=hI.sl.kp ax sC
   have gY:∀(v5':Value) (w8:World),Sl w8 v5' 42 1 (O_++if i%2==0 then ref2.take n else []).length ((O_++if i%2==0 then ref2.take n else []).map Pn)->(∀g,v5'.ownBlock=some g->w.heap.size<=g)->Kp (λk=>v5.ownBlock=some k) w7 w8->
     CpI w t r s rs ref rest (a+(OV ((.gamma,rs.length)::Q7 0 rs)).length) (i+1) rs2 (ref2.drop n) (if sc2=n then sa2 else sa2.map (·.add (n*1))) (sc2-n) v5' (O_++if i%2==0 then ref2.take n else []) (a2+(Cd.enc .gamma (n-min i 1)).length) w8:=by
    intro v5' w8 g1 g2 g3;have lt7:=h7.On.lt;have lr7:=h7.rd.1.lt;have lh:=h.On.lt;have et:=h.rd.1.lt;have mR:∀x,x<w.heap.size->¬v5.ownBlock=some x:=λx hx e=>by have:=hI.fr x e;omega
    refine⟨⟨g3.On h7.On (mR t lh),⟨g3.On h7.rd.1 (mR r et),h7.rd.2⟩,h7.ne⟩,ib.It g3 (λk hk=> .inl (hI.fr k hk)),g1,g2,ω,λw2 k=>?_,by rw[List.length_drop];have:=hI.cl;omega,by rw[List.length_drop];omega,?_,?_,?_,?_,?_⟩
    ·have:=Tw (hI.rd w2 k) (i:=n) ω hI.cl;rw[<-List.map_drop] at this;rw[List.length_drop];exact this
    ·intro m hm;refine hI.pos m ?_;rw[show 1-min (i+1) 1=0 by omega,List.drop_zero] at hm;rcases Nat.eq_zero_or_pos i with e| e
     ·subst e;exact hm
     ·rw[show 1-min i 1=0 by omega];exact List.mem_cons_of_mem _ hm
    ·exact eT
    ·have:=hI.z3E;rw[Q7,PT,List.length_append] at this;dsimp only at this;omega
    ·rw[hI.eq,copyL,List.append_assoc]
     have:((i+1)%2==0)= !(i%2==0):=by
      rcases Nat.mod_two_eq_zero_or_one i with e| e
      ·rw[e,show(i+1)%2=1 by omega];rfl
      ·rw[e,show(i+1)%2=0 by omega];rfl
     rw[this]
    ·rw[List.length_append,List.length_drop];split
     ·rw[List.length_take];omega
     ·simp;omega
   refine QS O$ Oq$ OH O (λe1=>?_)$ λe1=>?_
   ·have e2:(i%2==0)=true:=by simp;omega
    simp only[e2,if_true] at gY;refine Oz O (OX O (OC O (qV (zca Ph OS O O (by have:=hI.cl;omega)) ?_)));have Jo:=hI.cl;refine Oy O O (pap Ph OS O ψ O O gL (UA C2 (i:=n) ω) (by rw[<-List.map_take];exact XU _) ω (by simp only[maxLen];omega)) ?_;rintro v5' w8 ⟨er,aP,kH,-⟩;have mw:=er.oneV;refine OK O (Oz O (OX O (qV (Ya Ph OS O O ω hI.cl) (OK O (Om (Oz O (PL O (OC O (Oq ?_)))))))));rw[show ref2.length-n=(ref2.drop n).length by rw[List.length_drop]];refine(ih (i+1,rs2,ref2.drop n,_,sc2-n,v5',O_++ref2.take n,_) _ (gY v5' _ ?_ ?_ aP) (by dsimp only;simp)).qb
    ·rw[List.length_append,List.map_append,List.length_take,Nat.min_eq_left ω,List.map_take];exact er
    ·intro g hg;rcases kH g hg with e| e
     ·exact hI.fr g e
     ·omega
   ·have e2:(i%2==0)=false:=by simp;omega
    simp only[e2,Bool.false_eq_true,if_false,List.append_nil] at gY;refine Ot (Oz O (OX O (qV (Ya Ph OS O O ω hI.cl) (OK O (Om (Oz O (PL O (OC O (Oq ?_)))))))));rw[show ref2.length-n=(ref2.drop n).length by rw[List.length_drop]];exact(ih (i+1,rs2,ref2.drop n,_,sc2-n,v5,O_,_) _ (gY v5 _ gL hI.fr (Kp.refl _ _)) (by dsimp only;simp)).qb
  ·have eQ:rs2=[]:=List.eq_nil_of_length_eq_zero ω;subst eQ;have Nt:rs.length=i:=by rw[aB];simp
   have jN:=hI.z3E;have dO:=hI.eq;rw[copyL] at dO;rw[show(OV (Q7 i [])).length=0 from rfl,Nat.add_zero] at jN;refine OD O (Pz O (qV (Xf O O ω ω) ?_));rw[Nat.and_one_is_mod];refine QS O$ Oq$ OH O (λe1=>?_)$ λe1=>?_
   ·rw[if_pos (by simp;omega)] at dO;refine Oz O (OX O (Oy O O (pap Ph OS O ψ O O hI.sl (hI.rd _ hI.kp) (XU _) ω (by simp only[maxLen];omega)) ?_));rintro v5' w8 ⟨er,aP,kH,-⟩;have mw:=er.oneV;refine QO O$ OK O$ Oo func230 O ?_;rw[dO,<-jN];have AO:=hI.kp.size;have mR:∀x,x<w.heap.size->¬v5.ownBlock=some x:=λx hx e=>by have:=hI.fr x e;omega
    refine⟨_,rfl,?_,λg hg=>?_,⟨aP.On hI.tk.On (mR t h.On.lt),⟨aP.On hI.tk.rd.1 (mR r h.rd.1.lt),hI.tk.rd.2⟩,hI.tk.ne⟩,hI.kp.It aP (λk hk=> .inl (hI.fr k hk))⟩
    ·rw[List.length_append,List.map_append];exact er
    ·rcases kH g hg with e| e
     ·exact hI.fr g e
     ·omega
   ·rw[if_neg (by simp;omega),List.append_nil] at dO;refine Ot$ P7 O$ OK O$ Oo func230 O ?_;rw[dO,<-jN];exact⟨_,rfl,hI.sl,hI.fr,hI.tk,hI.kp⟩
structure ReI (w w1:World)(t r:Nat)(s:Ov)(l:List Nat)(x k:Nat)(rest:List Bool)(aE b7:Nat)(dn l2:List Nat)(v9:Value)(a:Nat)(w':World):Prop where
 tk:TkM w' t r s a
 kp:Kp (λk=>k=t\/k=r) w w'
 b7:OE w' b7 (S6 (.zeta k)) 314
 sl:Sl w' v9 42 1 dn.length (dn.map Pn)
 fr:∀g,v9.ownBlock=some g->w1.heap.size<=g
 eq:l=dn++l2
 bits:(OU s).drop a=OV (Px x k dn.getLast? l2)++rest
 z3E:a+(OV (Px x k dn.getLast? l2)).length=aE
 siz:w1.heap.size<=w'.heap.size
def z6c {w:World}{t r a:Nat}{s:Ov}(h:TkM w t r s a)(x k:Nat)(hx:x<65536)(hk:1<=k/\k<=16)(l:List Nat)(hl:Pq l)(rest:List Bool)(hb:(OU s).drop a=OV (Px x k none l)++rest):
  P9 prog 232 [ptr t 0,I (x:Int),I (l.length:Int),cdV (.zeta k)] w λu w'=>Sl w' u 42 1 l.length (l.map Pn)/\(∀g,u.ownBlock=some g->w.heap.size<=g)/\
   TkM w' t r s (a+(OV (Px x k none l)).length)/\Kp (λk=>k=t\/k=r) w w':=by
 have aB:=hl.len
 have lt0:=h.On.lt
 have lr0:=h.rd.1.lt
 refine py (e:=[(0,_),(1,_),(2,_),(3,_)]) func232 O ntmps232 O O$ qN O$ Oy O O (R9 O (cs:=S6 (.zeta k)) O) ?_
 rintro _ w1 ⟨b7,rfl,kF,ad,bZ⟩
 have h1:=h.ext ad
 have z1:=ad.size
 have Ht:=bZ.lt
 refine QL O$ OK O$ An$ Qh O$ Oq$ Ou$ Rw (α:=List Nat×List Nat×Value×Nat) (([],l,.slice none 0 0,a)) (λy=>[(0,ptr t 0),(1,I (x:Int)),(7,ptr b7 0),(9,y.2.2.1),(12,I (l.length:Int)),(13,I (y.1.length:Int))]) (λy w'=>ReI w w1 t r s l x k rest (a+(OV (Px x k none l)).length) b7 y.1 y.2.1 y.2.2.1 y.2.2.2 w') (λy=>y.2.1.length) ?hI ?hround
 case hI=>exact⟨h1,ad.kp,bZ,Sl.nil _ _ _,(λg h=>by cases h),rfl,hb,rfl,Nat.le_refl _⟩
 case hround =>
  rintro⟨dn,l2,v9,a2⟩ w6 hI ih;dsimp only at hI;have dO:=hI.eq;have fx:l.length=dn.length+l2.length:=by rw[dO,List.length_append]
  try dsimp only
  refine qN O$ Qv O$ Oq$ An$ OH O (λh0=>?_)$ λh0=>?_
  ·obtain⟨y,l2,rfl⟩:∃y q,l2=y::q:=by
    cases l2 with
    |nil=>simp at fx;omega
    |cons y q=>exact⟨y,q,rfl⟩
   rw[List.length_cons] at fx;have Hu:y<65536:=hl.lt y (by rw[dO];simp);have aT:=hI.b7;have bR:=hI.bits;have jN:=hI.z3E
   have key:∃v:Nat,Px x k dn.getLast? (y::l2)=(.zeta k,v)::Px x k (dn++[y]).getLast? l2/\v<=262144/\(dn=[]->v=zig ((y:Int)-x))/\∀u q,dn=q++[u]->v+(u+1)=y:=by
    rw[List.getLast?_append,show [y].getLast? =some y from rfl,Option.some_or];rcases List.eq_nil_or_concat dn with rfl|⟨q,u,rfl⟩
    ·refine⟨_,rfl,?_,λ_=>rfl,λu q e=>by simp at e⟩;have:=Z1 (z:=(y:Int)-x) (n:=65536) ω ω;omega
    ·have hu:u<y:=by
      have hr:=hl.ris;rw[dO] at hr;exact(List.pairwise_append.1 hr).2.2 u ξ y ξ
     refine⟨y-u-1,?_,ω,λe=>by simp at e,λu2 q2 e=>?_⟩
     ·have e1:(q.concat u).getLast? =some u:=by simp
      rw[e1];rfl
     ·have e2:q++[u]=q2++[u2]:=by simpa using e
      have:=(List.append_inj' e2 O).2;simp at this;omega
   obtain⟨v,fw,kK,Jp,vz⟩:=key;rw[fw,PT,List.append_assoc] at bR;rw[fw,PT,List.length_append] at jN;refine Ot (Qt (P7 O (QO O (qV (Pa (news:=S6 (.zeta k)) Sg O Qx O (aT.cells (n:=2) O) O) (OQ z2j O (TW hI.tk (.zeta k) v 262144 hk (by simp only[Cd.most];omega) kK ω _ bR) ?_)))));rintro _ w7 ⟨rfl,h7,ax⟩;have ib:Kp (λk=>k=t\/k=r) w w7:=hI.kp.trans (ax.OA λk e=> .inr e);have eT:=S2 bR;have gL:=hI.sl.kp ax (λg hg e=>by have:=hI.fr g hg;omega);have C3:=ax.On aT ω;have Hs:=hI.siz;have AO:=ax.size;refine OK O$ Pz O$ QS O$ Oq$ Pw (λe' w'=>w'=w7/\e'=[(0,ptr t 0),(1,I (x:Int)),(7,ptr b7 0),(9,v9),(11,I (y:Int)),(12,I (l.length:Int)),(13,I (dn.length:Int))]) ?mI$ λmI=>?mJ
   case mI=>
    rintro e' w7 ⟨rfl,rfl⟩;have js:=h7.On;refine An$ Qh O$ Pb O$ OL Ty O$ qV (OB U4 O O js O)$ OX O$ OQ z71 O (VE y Hu _) ?_;rintro _ w8 ⟨rfl,rfl⟩;refine qV ((S1 O)) (PC O (Pb O (OL Ty O (OJ O (Qw US O O O js ξ) ?_))));rintro w8 ⟨bY,aP⟩;replace bY:OE w8 t [ptr r 0,.bool false] 332:=bY;refine qM O$ OC O$ Pb O$ OL Ty O$ qV (OB U4 O O bY O)$ PX O$ Oz O$ OX O$ qV (z3T O U3 QA) ?_;rw[Nat.mod_eq_of_lt (show y<4294967296 by omega)];refine Oy O O (XM (cs:=[_]) (zs:=[Value.int .u32 0]) Ph OS O (by kernel_rfl) O O O ψ) ?_;rintro _ w9 ⟨b9,rfl,⟨mS,fu,cR⟩,mT⟩;have mR:∀g,v9.ownBlock=some g->¬g=t:=λg hg e=>by have:=hI.fr g hg;omega
    have jv:∀g,v9.ownBlock=some g->¬g=r:=λg hg e=>by have:=hI.fr g hg;omega
    have Hv:=aP.size;have Hw:=fu.size;refine Oy O O (pap Ph OS O ψ O O ((gL.kp aP mR).ext fu) mT.rd (by intro c hc;simp at hc;subst hc;rfl) ω (by simp only[maxLen];omega)) ?_;rintro v10 w10 ⟨cj,aA,C4,-⟩;have mw:=cj.oneV;refine OK O$ Om$ Oz O$ PL O$ OC O$ Oq ?_;have sD:∀g,g<w1.heap.size->¬v9.ownBlock=some g:=λg hg e=>by have:=hI.fr g e;omega
    rw[show(dn.length:Int)+1=((dn++[y]).length:Int) by simp];refine(ih (dn++[y],l2,v10,a2+(Cd.enc (.zeta k) v).length) _ ⟨⟨aA.On (fu.On bY) (sD t ω),⟨aA.On (fu.On (aP.On h7.rd.1 (λe=>h7.ne e.symm))) (sD r ω),h7.rd.2⟩,h7.ne⟩,?_,?_,?_,?_,?_,eT,?_,?_⟩ (by dsimp only;simp)).qb
    ·exact((ib.trans (aP.OA λk e=> .inl e)).trans fu.kp).It aA (λg hg=> .inl (by have:=hI.fr g hg;omega))
    ·exact aA.On (fu.On (aP.On C3 ω)) (sD b7 ω)
    ·rw[List.length_append,List.map_append];exact cj
    ·intro g hg;rcases C4 g hg with e| e
     ·exact hI.fr g e
     ·omega
    ·rw[dO,List.append_assoc];rfl
    ·dsimp only at jN⊢;omega
    ·have:=aA.size;omega
   case mJ=>
    refine OH O (λe1=>?_)$ λe1=>?_
    ·have eQ:dn=[]:=List.eq_nil_of_length_eq_zero ω;refine R0 O (qV (PO O U3 R7 ω) (OQ zdq O (z7f v ω _) ?_));rintro _ w8 ⟨rfl,rfl⟩;rw[Jp eQ,z6C];refine OC O$ PL O ?_;rw[show(y:Int)-x+x=(y:Int) by omega];refine OK O ?_;exact(mI _ _ ⟨rfl,rfl⟩).qb
    ·obtain⟨q,u,rfl⟩:∃q u,dn=q++[u]:=by
      rcases List.eq_nil_or_concat dn with rfl|⟨q,u,rfl⟩
      ·exact absurd O e1
      ·exact⟨q,u,ξ⟩
     have Hx:=vz u q O;have su:(q++[u]).length=q.length+1:=by simp
     rw[su] at gL;rcases gL.shape with⟨-,h0⟩|⟨g,c1,rfl,fU⟩
     ·omega
     refine Oz O$ OX O$ OC O$ Ra O ?_;rw[show(((q++[u]).length:Nat):Int)-1=(q.length:Int) by simp];refine qV (PK Ph OS O O ω) (qV (Pc QA O O (PM gL.rd (show((q++[u]).map Pn)[q.length]? =some (Pn u) by simp))) ?_);refine qV (Ps O QA U3 ω)$ PL O$ PL O ?_;rw[show(v:Int)+((u:Int)+1)=(y:Int) by omega];refine OK O ?_;exact(mI _ _ ⟨rfl,rfl⟩).qb
  ·have eQ:l2=[]:=List.eq_nil_of_length_eq_zero ω;subst eQ;refine OD O$ P7 O$ OK O$ Oo func232 O ?_;rw[List.append_nil] at dO;subst dO;have jN:=hI.z3E;rw[show(OV (Px x k l.getLast? [])).length=0 by cases l.getLast?<;>rfl,Nat.add_zero] at jN;rw[<-jN];exact⟨_,rfl,hI.sl,λg hg=>by have:=hI.fr g hg;omega,hI.tk,hI.kp⟩
section
variable {P:Program}{b:Frame}{a:Act}{k:List Item}{cs:List Frame}{w:World}{C:Cx}{e:Env}
def z3M {c:Code}:step P (lone (b.atR a (.code (.scope c)::k)) cs w)= .next (lone (b.atR a (.code c:: .inScope c::k)) cs w):=
 step_lone_go (by simp[stepG,stepG.exec,Frame.atR])
theorem z2b {c:Code}(h:P8 C (.code c:: .inScope c::k) e w):P8 C (.code (.scope c)::k) e w:=λa ha=>VW.step (λ_ _=>z3M) (h a ha)
end
def loE:Option Nat->Nat
 |none=>0
 |some z=>z+2
def z58:Option Nat->Int
 |none=>-1
 |some z=>(z:Int)
def Ub (x:Nat):Option Nat->Nat->Nat
 |none,y=>zig ((y:Int)-x)
 |some e,y=>y-e-2
theorem Rx (x least:Nat)(e:Option Nat)(p:Nat×Nat)(R:List (Nat×Nat)):Pv x least e (p::R)=(.gamma,Ub x e p.1)::(.gamma,p.2-least)::Pv x least (some (p.1+p.2-1)) R:=by
 cases e<;>rfl
structure LoI (w:World)(t r:Nat)(s:Ov)(R:List (Nat×Nat))(x least left:Nat)(rest:List Bool)(aE:Nat)(i:Nat)(R2:List (Nat×Nat))(e:Option Nat)(O_:List Nat)(v9:Value)(a:Nat)(w':World):Prop where
 tk:TkM w' t r s a
 kp:Kp (λk=>k=t\/k=r) w w'
 sl:Sl w' v9 42 1 O_.length (O_.map Pn)
 fr:∀g,v9.ownBlock=some g->w.heap.size<=g
 len:R.length=i+R2.length
 eq:QC R=O_++QC R2
 ok:SN least (loE e) R2
 hi:∀p∈R2,p.1+p.2<=65536
 tot:O_.length+(QC R2).length<=left
 bits:(OU s).drop a=OV (Pv x least e R2)++rest
 z3E:a+(OV (Pv x least e R2)).length=aE
 eb:z58 e<65536
def z8V {w:World}{t r a:Nat}{s:Ov}(h:TkM w t r s a)(hG:OE w 1 (S6 .gamma) 314)(cW:¬1=r)(mU:¬1=t)(x left least:Nat)(hx:x<65536)(qP:left<=65536)(C5:least<=64)(R:List (Nat×Nat))(hR:SN least 0 R)(Jq:∀p∈R,p.1+p.2<=65536)
  (wG:(QC R).length<=left) (Jr:R.length<=left) (rest:List Bool) (hb:(OU s).drop a=OV ((.gamma,R.length)::Pv x least none R)++rest):
  P9 prog 231 [ptr t 0,I (x:Int),I (left:Int),I (least:Int)] w λu w'=>Sl w' u 42 1 (QC R).length ((QC R).map Pn)/\(∀g,u.ownBlock=some g->w.heap.size<=g)/\
   TkM w' t r s (a+(OV ((.gamma,R.length)::Pv x least none R)).length)/\Kp (λk=>k=t\/k=r) w w':=by
 have ju:∀v:Nat,v<=262144->v<=Cd.most .gamma:=λv hv=>by simp only[Cd.most];omega
 have lt0:=h.On.lt
 have lr0:=h.rd.1.lt
 refine py (e:=[(0,_),(1,_),(2,_),(3,_)]) func231 O ntmps231 O O$ QB O$ z2b$ qN O$ QL O$ OK O$ An$ z1Z$ Pz O$ qV (Pa (news:=[.int .u8 1,ON 0]) Sg O Qx O (hG.cells (n:=2) O) O) ?_
 rw[PT,List.append_assoc] at hb
 refine OC O$ OQ z2j O (TW h .gamma R.length left trivial (ju _ ω) Jr ω _ hb) ?_
 rintro _ w1 ⟨rfl,h1,aG⟩
 have bK:=S2 hb
 refine OC O$ Oq$ Ou$ Rw (α:=Nat×List (Nat×Nat)×Option Nat×List Nat×Value×Nat) ((0,R,none,[],.slice none 0 0,a+(Cd.enc .gamma R.length).length)) (λy=>[(0,ptr t 0),(1,I (x:Int)),(2,I (left:Int)),(3,I (least:Int)),(9,y.2.2.2.2.1),(10,I (z58 y.2.2.1)),(17,I (R.length:Int)),(18,I (y.1:Int))]) (λy w'=>LoI w t r s R x least left rest (a+(OV ((.gamma,R.length)::Pv x least none R)).length) y.1 y.2.1 y.2.2.1 y.2.2.2.1 y.2.2.2.2.1 y.2.2.2.2.2 w') (λy=>y.2.1.length) ?hI ?hround
 case hI=>exact⟨h1,aG.OA λk e=> .inr e,Sl.nil _ _ _,(λg h=>by cases h),ξ,rfl,hR,Jq,by simpa using wG,bK,by rw[PT,List.length_append];dsimp only;omega,(show(-1:Int)<65536 by decide)⟩
 case hround =>
  rintro⟨i,R2,e,O_,v9,a2⟩ w6 hI ih;dsimp only at hI;have aB:=hI.len
  try dsimp only
  refine qN O$ Qv O$ Oq$ An$ OH O (λh0=>?_)$ λh0=>?_
  ·obtain⟨⟨p1,p2⟩,R2,rfl⟩:∃p q,R2=p::q:=by
    cases R2 with
    |nil=>simp at aB;omega
    |cons p q=>exact⟨p,q,rfl⟩
   rw[List.length_cons] at aB;obtain⟨ok1,ok2,ok3,ok4⟩:loE e<=p1/\1<=p2/\least<=p2/\SN least (p1+p2+1) R2:=hI.ok;have Nu:p1+p2<=65536:=hI.hi (p1,p2) List.mem_cons_self;have gV:QC ((p1,p2)::R2)=(List.range p2).map (p1+·)++QC R2:=rfl;have qQ:=hI.tot;have wH:=hI.eq;rw[gV] at qQ wH;rw[List.length_append,List.length_map,List.length_range] at qQ;have bR:=hI.bits;have jN:=hI.z3E;rw[Rx,PT,PT,List.append_assoc,List.append_assoc] at bR;rw[Rx,PT,PT,List.length_append,List.length_append] at jN;have C6:=hI.eb
   have fw:Ub x e p1<=262144:=by
    cases e with
    |none=>have:=Z1 (z:=(p1:Int)-x) (n:=65537) ω ω;show zig _<=_;omega
    |some z=>show p1-z-2<=_;omega
   have jO:∀k,(λk=>k=t\/k=r) k->k<w.heap.size:=λk hk=>by rcases hk with e|e<;>omega
   have AQ:=hI.kp.On hG (λe=>by rcases e with e|e;exact mU e;exact cW e);refine Ot (Qt (P7 O (qV (Pa (news:=[.int .u8 1,ON 0]) Sg O Qx O (AQ.cells (n:=2) O) O) (OQ z2j O (TW hI.tk .gamma (Ub x e p1) 262144 trivial (ju _ fw) fw ω _ bR) ?_))));rintro _ w7 ⟨rfl,h7,ax⟩;have eT:=S2 bR;have Hs:=hI.kp.size;have AO:=ax.size;have Hy:∀g,v9.ownBlock=some g->¬g=r:=λg hg e=>by have:=hI.fr g hg;omega
   have gL:=hI.sl.kp ax Hy;have ib:Kp (λk=>k=t\/k=r) w w7:=hI.kp.trans (ax.OA λk e=> .inr e);refine OK O$ Pz O$ Qv O$ Oq$ Pw (λe' w'=>w'=w7/\e'=[(0,ptr t 0),(1,I (x:Int)),(2,I (left:Int)),(3,I (least:Int)),(9,v9),(11,I (p1:Int)),(17,I (R.length:Int)),(18,I (i:Int))]) ?mI$ λmI=>?mJ
   case mI =>
    rintro e' w7 ⟨rfl,rfl⟩;have Js:=ax.On AQ cW;refine P7 O (qV (Pa (news:=[.int .u8 1,ON 0]) Sg O Qx O (Js.cells (n:=2) O) O) (OC O (OQ z2j O (TW h7 .gamma (p2-least) left trivial (ju _ ω) ω ω _ eT) ?_)));rintro _ w8 ⟨rfl,h8,aP⟩;have sE:=S2 eT;have Hv:=aP.size;have er:=gL.kp aP Hy;have pe:Kp (λk=>k=t\/k=r) w w8:=ib.trans (aP.OA λk e=> .inr e);obtain⟨va,vc,rfl,-⟩:=hI.sl.rd.shape;refine OC O$ PL O ?_;rw[show((p2-least:Nat):Int)+(least:Int)=(p2:Int) by omega];have bY:=h8.On;refine OK O$ An$ Qh O$ Pb O$ OL Ty O$ qV (OB U4 O O bY O)$ OX O$ Qv O$ Pu$ PC O$ OX O$ OC O$ PL O$ Qr O ?_;refine Pu (PC O (OX O (OX O (Ro Ph O (Ra O (Qr O (Pu (PC O (Pb O (OL Ty O (OJ O (Qw US O O O bY ξ) ?_)))))))))));rintro w9 ⟨cR,aK⟩;replace cR:OE w9 t [ptr r 0,.bool false] 332:=cR;refine qM O$ OC O$ Pb O$ OL Ty O$ qV (OB U4 O O cR O) ?_;have Hw:=aK.size;have mT:=er.kp aK (λg hg e=>by have:=hI.fr g hg;omega);have h9:TkM w9 t r s (a2+(Cd.enc .gamma (Ub x e p1)).length+(Cd.enc .gamma (p2-least)).length):=⟨cR,⟨aK.On h8.rd.1 (λe=>h8.ne e.symm),h8.rd.2⟩,h8.ne⟩;have sF:Kp (λk=>k=t\/k=r) w w9:=pe.trans (aK.OA λk e=> .inl e);refine PX O$ An$ Qh O$ Oq$ Ou$ Rw (α:=Nat×Value) ((0,.slice va O_.length vc)) (λy=>[(0,ptr t 0),(1,I (x:Int)),(2,I (left:Int)),(3,I (least:Int)),(9,y.2),(11,I (p1:Int)),(12,I (p2:Int)),(17,I (R.length:Int)),(18,I (i:Int)),(69,I (p2:Int)),(70,I (y.1:Int))]) (λy w'=>TkM w' t r s (a2+(Cd.enc .gamma (Ub x e p1)).length+(Cd.enc .gamma (p2-least)).length)/\Kp (λk=>k=t\/k=r) w w'/\Sl w' y.2 42 1 (O_.length+y.1) ((O_++(List.range y.1).map (p1+·)).map Pn)/\(∀g,y.2.ownBlock=some g->w.heap.size<=g)/\y.1<=p2) (λy=>p2-y.1) ?hI ?hround
    case hI=>exact⟨h9,sF,by simpa using mT,hI.fr,Nat.zero_le _⟩
    case hround=>
     rintro⟨j,v⟩ w10 ⟨i6,aA,cj,ck,hj⟩ ih2;dsimp only at i6 aA cj ck hj
     try dsimp only
     refine qN O$ Qv O$ Oq$ An$ OH O (λkL=>?_)$ λkL=>?_
     ·refine Ot$ Qt$ P7 O$ OK O$ Oz O$ OX O$ OC O$ PL O$ qV (z3T O U3 QA) ?_;rw[show(p1+j)%4294967296=p1+j by omega];refine Oy O O (XM (cs:=[_]) (zs:=[Value.int .u32 0]) Ph OS O (by kernel_rfl) O O O ψ) ?_;rintro _ w11 ⟨b11,rfl,⟨j0,aV,aX⟩,sG⟩;have Jt:=aA.size;have Ju:=aV.size;refine Oy O O (pap Ph OS O ψ O O (cj.ext aV) sG.rd (by intro c hc;simp at hc;subst hc;rfl) ω (by simp only[maxLen];omega)) ?_;rintro v12 w12 ⟨jO,bj,C7,-⟩;have mw:=jO.oneV;refine OK O$ Om$ Oz O$ PL O$ OC O$ Oq ?_;have wI:∀g,g<w.heap.size->¬v.ownBlock=some g:=λg hg e=>by have:=ck g e;omega
      refine(ih2 (j+1,v12) _ ⟨⟨bj.On (aV.On i6.On) (wI t lt0),⟨bj.On (aV.On i6.rd.1) (wI r lr0),i6.rd.2⟩,i6.ne⟩,(aA.trans aV.kp).It bj (λg hg=> .inl (ck g hg)),?_,λg hg=>?_,ω⟩ (by dsimp only;omega)).qb
      ·have e1:(O_++(List.range (j+1)).map (p1+·)).map Pn=(O_++(List.range j).map (p1+·)).map Pn++[Pn (p1+j)]:=by
        rw[List.range_succ];simp
       dsimp only;rw[e1];exact jO
      ·rcases C7 g hg with e| e
       ·exact ck g e
       ·omega
     ·have Jv:j=p2:=by omega
      subst Jv;refine OD O$ Oz O$ OX O$ PL O$ Ra O$ OK O$ Om$ Oz O$ PL O$ OC O$ Oq ?_;rw[show(p1:Int)+j-1=z58 (some (p1+j-1)) by show _=((p1+j-1:Nat):Int);omega,show(i:Int)+1=((i+1:Nat):Int) by omega];refine(ih (i+1,R2,some (p1+j-1),O_++(List.range j).map (p1+·),v,_) _ ⟨i6,aA,?_,ck,by dsimp only;omega,by rw[wH,List.append_assoc],?_,λp hp=>hI.hi p (List.mem_cons_of_mem _ hp),?_,sE,?_,?_⟩ (by dsimp only;simp)).qb
      ·dsimp only;rw[List.length_append,List.length_map,List.length_range];exact cj
      ·refine ok4.mono ?_;show p1+j-1+2<=_;omega
      ·dsimp only;rw[List.length_append,List.length_map,List.length_range];omega
      ·dsimp only at jN⊢;omega
      ·show((p1+j-1:Nat):Int)<65536;omega
   case mJ=>
    cases e with
    | none =>
      refine OH O (λe1=>?_)$ λe1=>?_
      ·refine R0 O (qV (PO O U3 R7 ω) (OQ zdq O (z7f _ ω _) ?_));rintro _ w8 ⟨rfl,rfl⟩;rw[show Ub x none p1=zig ((p1:Int)-x) from rfl,z6C];refine OC O$ PL O ?_;rw[show(p1:Int)-x+x=(p1:Int) by omega];refine OK O ?_;exact(mI _ _ ⟨rfl,rfl⟩).qb
      ·exact absurd ψ e1
    | some z =>
      refine OH O (λe1=>?_)$ λe1=>?_
      ·exact absurd e1 (by show ¬((z:Int)<0);omega)
      ·have hz:z+2<=p1:=ok1;refine Oz O$ OX O ?_;rw[show z58 (some z)=(z:Int) from rfl];refine PL O$ PL O ?_;rw[show Ub x (some z) p1=p1-z-2 from rfl,show((p1-z-2:Nat):Int)+((z:Int)+2)=(p1:Int) by omega];refine OK O ?_;exact(mI _ _ ⟨rfl,rfl⟩).qb
  ·have eQ:R2=[]:=List.eq_nil_of_length_eq_zero ω;subst eQ;refine OD O$ P7 O$ OK O$ Oo func231 O ?_;have dO:=hI.eq;rw[show QC []=[] from rfl,List.append_nil] at dO;have jN:=hI.z3E;rw[show(OV (Pv x least e [])).length=0 by cases e<;>rfl,Nat.add_zero] at jN;rw[dO,<-jN];exact⟨_,rfl,hI.sl,hI.fr,hI.tk,hI.kp⟩
def Qn (p:RN)(n r:Nat):List (Cd×Nat):=(.gamma,n)::if n=0 then [] else if 0<p.OY then [(.unary,r)] else []
def z2d {w:World}{r a:Nat}{s:Ov}(h:Tx w r s a)(p:RN)(hp:p.Qj)(hG:OE w 1 (S6 .gamma) 314)(hU:OE w 2 (S6 .unary) 314)(cW:¬1=r)(da:¬2=r)(n q:Nat)(hn:n<=65536)(hq:q<=p.OY)
  (mV:n=0->q=0) (rest:List Bool) (hb:(OU s).drop a=OV (Qn p n q)++rest):
  P9 prog 210 [ptr r 0,lpV p] w λu w'=>u= .tuple #[.agg #[I (n:Int),I (q:Int)],I 0]/\Tx w' r s (a+(OV (Qn p n q)).length)/\Kp (λk=>k=r) w w':=by
 obtain⟨g1,g2,g3,g4⟩:=id hp
 have lr0:=h.1.lt
 have mW:p.OY=0->q=0:=λe=>by omega
 unfold Qn at hb⊢
 rw[PT,List.append_assoc] at hb
 refine py (e:=[(0,_),(1,_)]) func210 O ntmps210 O O$ qN O$ Oy O O (R9 O (cs:=ZK p) O) ?_
 rintro _ w1 ⟨b3,rfl,dY,ad,ao⟩
 refine Oy O O (Rq (cs:=[_,_]) S8 O) ?_
 rintro _ w2 ⟨b4,rfl,gF,ae,aH⟩
 have z1:=ad.size
 have z2:=ae.size
 have df:=ae.On ao
 refine OK O$ Qt$ P7 O$ qV (PU UU O O)$ OK O$ Ox O$ qN O$ qV (Pa (news:=ZK p) YM O TM O (df.cells (n:=3) O) O)$ OQ z3O O (TF p hp w2) ?_
 rintro _ w3 ⟨rfl,aj⟩
 refine Ql O$ Si O ?_
 have cg:=(ad.trans ae).trans aj
 have h3:Tx w3 r s a:=⟨cg.On h.1,h.2⟩
 refine PX O$ Om$ P7 O$ OQ Yv O (TR h3) ?_
 rintro _ w4 ⟨rfl,rfl⟩
 refine QO O$ qV (Pa (news:=[.int .u8 1,ON 0]) Sg O Qx O ((cg.On hG).cells (n:=2) O) O)$ OQ zbm O (Zc h3 .gamma n trivial (by simp only[Cd.most];omega) _ hb) ?_
 rintro _ w5 ⟨rfl,h5,ai⟩
 have fR:=S2 hb
 have cK:=ai.On (aj.On df) ω
 have aI:=ai.On (aj.On aH) ω
 have cX:Kp (λk=>k=r) w w5:=cg.kp.trans ai
 replace cK:OE w5 b3 [I (p.OY:Int),I (p.interval:Int),I (p.zeta:Int)] 276:=cK
 refine OC O$ Sw O$ Si O$ QL O$ OK O$ Pz O$ QS O$ OC O ?_
 rcases Nat.eq_zero_or_pos n with e0|e0
 ·have sH:=mV e0;subst e0;subst sH;refine OC O$ Qr O$ Pu$ QQ O$ OC O$ QI$ qS$ PC O$ Oq$ P8.qb (e:=[(0,_),(3,_),(4,_),(5,_),(6,_),(7,_),(8,_),(9,_),(37,_)]) ?_;refine T2 O (Pz O (Ql O (OX O (Qr O (Pu (PC O (OX O (OL Tf O (qV (OB U3 O O cK O) (qV ((PO O U3 R7 ω)) (Qr O (Pu (PC O ?_)))))))))))));refine PX O (P7 O (qV (Ps O R7 U3 ω) (OC O (qV (Ps O R7 U3 ω) (qV (Sa (cs:=[_,_]) S8 O zaQ O O) (OJ O (Py (news:=[I ((0:Nat):Int),I (((0:Nat)):Int)]) S8 O O O O aI ξ) ?_))))));rintro w9 ⟨bH,aK⟩;replace bH:OE w9 b4 [I ((0:Nat):Int),I (((0:Nat)):Int)] 303:=bH;refine OK O$ P8.qb (e:=[(4,_),(5,_)]) ?_;refine P6 func210 (.cell z3s O S8 O (OE.cells (n:=2) bH (news:=[_,_]) O) O (.tmp O .nil)) ?_;rw[if_pos O,show(OV [((.gamma,0):Cd×Nat)]).length=(Cd.enc .gamma 0).length by rw[PT,List.length_append];rfl];refine⟨_,rfl,rfl,⟨aK.On h5.1 ω,h5.2⟩,cX.It aK (λk e=> .inl ω)⟩
 ·rw[if_neg ω] at fR⊢;rcases Nat.eq_zero_or_pos p.OY with e1|e1
  ·have sH:=mW e1;subst sH;rw[if_neg ω] at fR⊢;refine OC O$ Qr O$ Rf$ QQ O$ OC O$ OL Tf O$ qV (OB U3 O O cK O)$ Qr O$ Pu$ QQ O$ Oq$ P8.qb (e:=[(0,_),(3,_),(4,_),(5,_),(6,_),(7,_),(8,_),(9,_),(37,_)]) ?_;refine T2 O (Pz O (Ql O (OX O (Qr O (Pu (PC O (OX O (OL Tf O (qV (OB U3 O O cK O) (qV ((PO O U3 R7 ω)) (Qr O (Pu (PC O ?_)))))))))))));refine PX O (P7 O (qV (Ps O R7 U3 ω) (OC O (qV (Ps O R7 U3 ω) (qV (Sa (cs:=[_,_]) S8 O zaQ O O) (OJ O (Py (news:=[I (n:Int),I (((0:Nat)):Int)]) S8 O O O O aI ξ) ?_))))));rintro w9 ⟨bH,aK⟩;replace bH:OE w9 b4 [I (n:Int),I (((0:Nat)):Int)] 303:=bH;refine OK O$ P8.qb (e:=[(4,_),(5,_)]) ?_;refine P6 func210 (.cell z3s O S8 O (OE.cells (n:=2) bH (news:=[_,_]) O) O (.tmp O .nil)) ?_;rw[show(OV [((.gamma,n):Cd×Nat)]).length=(Cd.enc .gamma n).length by rw[PT,List.length_append];rfl];refine⟨_,rfl,rfl,⟨aK.On h5.1 ω,h5.2⟩,cX.It aK (λk e=> .inl ω)⟩
  ·rw[if_pos e1] at fR⊢;rw[PT,List.append_assoc] at fR;refine OC O$ Qr O$ Rf$ QQ O$ OC O$ OL Tf O$ qV (OB U3 O O cK O)$ Qr O$ Rf$ QQ O$ Oq$ P8.qb (e:=[(0,_),(3,_),(4,_),(5,_),(6,_),(7,_),(8,_),(9,_),(37,_)]) ?_;refine OI O (R0 O (qV (Pa (news:=[.int .u8 0,ON 0]) Sg O Qx O ((cX.On hU da).cells (n:=2) O) O) (OQ zbm O (Zc h5 .unary q trivial (by simp only[Cd.most];omega) _ fR) ?_)));rintro _ w6 ⟨rfl,h6,aJ⟩;have j3:=aJ.On cK ω;have bM:=aJ.On aI ω;have sI:=cX.trans aJ;refine OC O (Sw O (Qd O (Pz O (Ql O (OX O (Qr O (Pu (PC O (OX O (OL Tf O (qV (OB U3 O O j3 O) (qV ((PO O U3 R7 ω)) (Qr O ?_)))))))))))));refine Pu$ PC O$ Oq$ P8.qb (e:=[(0,_),(4,_),(5,_),(6,_),(7,_),(9,_),(56,_)]) ?_;refine T2 O (P7 O (qV (Ps O R7 U3 ω) (OC O (qV (Ps O R7 U3 ω) (qV (Sa (cs:=[_,_]) S8 O zaQ O O) (OJ O (Py (news:=[I (n:Int),I (q:Int)]) S8 O O O O bM ξ) ?_))))));rintro w9 ⟨bH,aK⟩;replace bH:OE w9 b4 [I (n:Int),I (q:Int)] 303:=bH;refine OK O$ P6 func210 (.cell z3s O S8 O (OE.cells (n:=2) bH (news:=[_,_]) O) O (.tmp O .nil)) ?_;rw[show(OV [((.gamma,n):Cd×Nat),(.unary,q)]).length=(Cd.enc .gamma n).length+(Cd.enc .unary q).length by rw[PT,PT,List.length_append,List.length_append];rfl,<-Nat.add_assoc];refine⟨_,rfl,rfl,⟨aK.On h6.1 ω,h6.2⟩,sI.It aK (λk e=> .inl ω)⟩
structure Qc where
 OY:Nat
 chain:Nat
 interval:Nat
 zeta:Nat
 most:Nat
def Qc.list (p:Qc):RN:=⟨p.OY,p.interval,p.zeta⟩
def Qc.Qj (p:Qc):Prop:=p.list.Qj/\p.chain<=16/\p.most<=65536
def UX (p:Qc):List Value:=[I (p.OY:Int),I (p.chain:Int),I (p.interval:Int),I (p.zeta:Int),I (p.most:Int)]
abbrev bpV (p:Qc):Value:= .agg (UX p).toArray
def SK (p:Qc)(w:World):P9 prog 162 [bpV p] w λu w'=>u=lpV p.list/\Ext w w':=by
 refine py (e:=[(0,_)]) func162 O ntmps162 O O$ qN O$ Oy O O (R9 O (cs:=UX p) O) ?_
 rintro _ w1 ⟨b1,rfl,bK,ad,ah⟩
 refine Oy O O (Rq (cs:=[_,_,_]) TM O) ?_
 rintro _ w2 ⟨b2,rfl,bP,ae,ak⟩
 have bh:=ae.On ah
 replace bh:OE w2 b1 [I (p.OY:Int),I (p.chain:Int),I (p.interval:Int),I (p.zeta:Int),I (p.most:Int)] 93:=bh
 refine qM O$ OL z0H O$ qV (OB U3 O O bh O)$ OL zaJ O$ qV (OB U3 O O bh O)$ OL za1 O$ qV (OB U3 O O bh O)$ qV (Sa (cs:=[_,_,_]) TM O zfT O O)$ OJ O (Py (news:=[I (p.OY:Int),I (p.interval:Int),I (p.zeta:Int)]) TM O O O O ak ξ) ?_
 rintro w3 ⟨cI,ar⟩
 replace cI:OE w3 b2 [I (p.OY:Int),I (p.interval:Int),I (p.zeta:Int)] 276:=cI
 refine Oq$ P6 func162 (.cell YM O TM O (OE.cells (n:=3) cI (news:=[_,_,_]) O) O .nil) ?_
 have z1:=ad.size
 exact⟨_,rfl,rfl,(ad.trans ae).It ar (λk e=>by omega)⟩
def Zl (p:Qc)(hp:p.Qj)(w:World):P9 prog 160 [bpV p] w λu w'=>u=I 0/\Ext w w':=by
 obtain⟨g1,g2,g3⟩:=hp
 refine py (e:=[(0,_)]) func160 O ntmps160 O O$ qN O$ Oy O O (R9 O (cs:=UX p) O) ?_
 rintro _ w1 ⟨b1,rfl,bK,ad,ah⟩
 have ic:OE w1 b1 [I (p.OY:Int),I (p.chain:Int),I (p.interval:Int),I (p.zeta:Int),I (p.most:Int)] 93:=ah
 refine OK O$ An$ qN O$ OL YX O$ qV (OB U3 O O ic O)$ Qv O$ Pu$ OC O$ OL YX O$ qV (OB U3 O O ic O)$ Qr O$ Pu$ PC O$ OC O ?_
 refine OL Ts O$ qV (OB U3 O O ic O)$ Qv O$ Pu$ PC O$ OC O$ OL Ts O$ qV (OB U3 O O ic O)$ Qr O$ Pu$ PC O$ PX O$ qN O$ qV (Pa U93 O Ru O (OE.cells (n:=5) ic (news:=[_,_,_,_,_]) O) O) ?_
 refine OQ z0v O (SK p w1) ?_
 rintro _ w2 ⟨rfl,ae⟩
 refine OQ z3O O (TF p.list g1 w2) ?_
 rintro _ w3 ⟨rfl,aj⟩
 refine OK O$ Oo func160 O ?_
 exact⟨_,rfl,rfl,(ad.trans ae).trans aj⟩
structure Sq (w:World)(g n cap:Nat)(d:Array Nat):Prop where
 sl:Sl w (.slice (some ⟨g,0,none⟩) n cap) 42 1 n (d.toList.map Pn)
 size:d.size=n
abbrev Qs (x y:Nat):Bool:=decide (x<y)
def Y9:Go.Sort.SWO Qs:=⟨λx=>by simp[Qs],λx y z h1 h2=>by simp[Qs] at*;omega,λx y z h1 h2=>by simp[Qs] at*;omega⟩
section
variable {w w':World}{g n cap:Nat}{d:Array Nat}{S:Nat->Prop}
def Sq.ext (h:Sq w g n cap d)(k:Ext w w'):Sq w' g n cap d:=⟨h.sl.ext k,h.size⟩
def Sq.kp (h:Sq w g n cap d)(k:Kp S w w')(hg:¬S g):Sq w' g n cap d:=⟨h.sl.kp k (λg' e=>by cases e;exact hg),h.size⟩
theorem Sq.get {i:Nat}(h:Sq w g n cap d)(hi:i<n):w.cell? ⟨g,0+i*1,none⟩=some (Pn d[i]!):=by
 have hs:=h.size
 refine PM h.sl.rd ?_
 rw[List.getElem?_map,Array.getElem?_toList,Array.getElem?_eq_getElem ω]
 rw[getElem!_pos d i ω]
 rfl
def Sq.ZZ {j:Nat}(h:Sq w g n cap d)(hj:j<n):j<(d.toList.map Pn).length:=by
 have hs:=h.size
 rw[List.length_map,Array.length_toList];omega
theorem Sq.set {i y:Nat}(h:Sq w g n cap d)(hS:Sl w' (.slice (some ⟨g,0,none⟩) n cap) 42 1 n ((d.toList.map Pn).set (0+i*1) (Pn y))):Sq w' g n cap (d.setIfInBounds i y):=by
 refine⟨?_,by rw[Array.size_setIfInBounds,h.size]⟩
 rw[Array.toList_setIfInBounds,List.map_set]
 rw[show 0+i*1=i by omega] at hS
 exact hS
end
def z8k (x:Nat)(w:World):P9 prog 269 [Pn x] w λu w'=>u= .bool false/\w'=w:=by
 refine py (e:=[(0,_)]) func269 O ntmps269 O O$ qN O$ QL O$ OX O$ Ql O$ OK O$ Oo func269 O ?_
 exact⟨_,rfl,by simp[PS],rfl⟩
def RO (x y:Nat)(w:World):P9 prog 260 [Pn x,Pn y] w λu w'=>u= .bool (Qs x y)/\w'=w:=by
 refine py (e:=[(0,_),(1,_)]) func260 O ntmps260 O O$ qN O$ QO O$ OQ ziu O (z8k x w) ?_
 rintro _ w ⟨rfl,rfl⟩
 refine OC O$ QI$ qS$ PC O$ OX O$ OC O$ Qv O$ PC O$ OK O$ Oo func260 O ?_
 exact⟨_,rfl,by simp[Qs,PS],rfl⟩
section
variable (a b j i:Nat)(d:Array Nat)
theorem z3x (hj:a<j)(hl:Qs d[j]! d[j-1]! =true):Go.Sort.insInner Qs a j d=Go.Sort.insInner Qs a (j-1) (Go.Sort.swp d j (j-1)):=by
 obtain⟨k,rfl⟩:∃k,j=k+1:=⟨j-1,ω⟩
 rw[Go.Sort.insInner]
 simp only[Nat.add_sub_cancel] at hl⊢
 rw[if_pos]
 rw[Bool.and_eq_true];exact⟨by simpa using hj,hl⟩
theorem Xh (h:j<=a\/Qs d[j]! d[j-1]! =false):Go.Sort.insInner Qs a j d=d:=by
 cases j with
 |zero=>rw[Go.Sort.insInner]
 | succ k =>
   rw[Go.Sort.insInner];simp only[Nat.add_sub_cancel] at h;rw[if_neg];intro hc;rw[Bool.and_eq_true] at hc;rcases h with h| h
   ·have:=of_decide_eq_true hc.1;omega
   ·rw[h] at hc;cases hc.2
theorem z4d (h:i<b):Go.Sort.insOuter Qs a b i d=Go.Sort.insOuter Qs a b (i+1) (Go.Sort.insInner Qs a i d):=by rw[Go.Sort.insOuter,if_pos h]
theorem z1x (h:¬i<b):Go.Sort.insOuter Qs a b i d=d:=by rw[Go.Sort.insOuter,if_neg h]
end
def z1B {w:World}{g n cap:Nat}{d:Array Nat}(h:Sq w g n cap d)(a b:Nat)(jr:a<=b)(hb:b<=n)(hn:n<=65536):
  P9 prog 254 [.slice (some ⟨g,0,none⟩) n cap,I (a:Int),I (b:Int)] w λu w'=>u= .tuple #[]/\Sq w' g n cap (Go.Sort.insertionSort Qs d a b)/\Kp (λk=>k=g) w w':=by
 refine py (e:=[(0,_),(1,_),(2,_)]) func254 O ntmps254 O O$ P7 O$ PL O$ OK O$ Ou$ Rw (α:=Nat×Array Nat) ((a+1,d)) (λy=>[(0,.slice (some ⟨g,0,none⟩) n cap),(1,I (a:Int)),(2,I (b:Int)),(6,I (y.1:Int))]) (λy w'=>Sq w' g n cap y.2/\Kp (λk=>k=g) w w'/\Go.Sort.insOuter Qs a b y.1 y.2=Go.Sort.insertionSort Qs d a b/\a<y.1) (λy=>b-y.1) ?hI ?hround
 case hI=>exact⟨h,Kp.refl _ _,rfl,Nat.lt_succ_self a⟩
 case hround=>
  rintro⟨i,d4⟩ w4 ⟨dU,aq,cB,oJ⟩ ih;dsimp only at dU aq cB oJ
  try dsimp only
  refine An$ Qh O$ Qv O$ Oq$ OH O (λh0=>?_)$ λh0=>?_
  ·rw[z4d _ _ _ _ ω] at cB;refine Ot$ Qt$ P7 O$ OK O$ Ou$ Rw (α:=Nat×Array Nat) ((i,d4)) (λy=>[(0,.slice (some ⟨g,0,none⟩) n cap),(1,I (a:Int)),(2,I (b:Int)),(6,I (i:Int)),(7,I (y.1:Int))]) (λy w'=>Sq w' g n cap y.2/\Kp (λk=>k=g) w w'/\Go.Sort.insInner Qs a y.1 y.2=Go.Sort.insInner Qs a i d4/\y.1<=i/\a<=y.1) (λy=>y.1) ?hI ?hround
   case hI=>exact⟨dU,aq,rfl,Nat.le_refl _,by dsimp only;omega⟩
   case hround=>
    rintro⟨j,d5⟩ w5 ⟨aS,ai,bS,C8,C9⟩ ih2;dsimp only at aS ai bS C8 C9
    try dsimp only
    have hg:=Ext.OT w5;rcases Nat.lt_or_ge a j with hj|hj
    ·refine An (An (R8 (λw'=>Ext w5 w') O (OR 0 O O (hg) (OR 1 O O (hg) (Ow 2 O (XQ O O) hg (TH (OR 3 O O (hg) (OR 4 O O (hg) (OR 5 O O (hg) (Ow 6 O (PK Ph OS O O ω) hg (OR 8 O O (hg) (OR 9 O O (hg) (Ow 10 O (X8 O O ω) hg ?_)))))))))))));rw[show(j:Int)-1=((j-1:Nat):Int) by omega];refine qT 7 O (λ_ h=>Pc QA O O ((aS.ext h).get (i:=j) ω)) hg (Ow 11 O (PK Ph OS O O ω) hg (qT 12 O (λ_ h=>Pc QA O O ((aS.ext h).get (i:=j-1) ω)) hg (SH 13 O VH O (RO _ _ _) ?_)));rintro _ w6 ⟨rfl,rfl⟩;refine⟨hg,?_⟩;refine Ow 14 O (UT O O) hg$ qE ?_;have pf:=aS.ext hg;refine Q0 O (λh1=>?_)$ λh1=>?_
     ·refine Ot$ Qt ?_;have ay:=Ext.OT w5.drew;refine OW [15,17] (λw'=>Ext w5.drew w') (by kernel_rfl) O (PF 0 O O (ay) (PF 1 O O (ay) (PZ (i:=2) O (by kernel_rfl) O O (λ_=>X7 O) (ay) (PZ (i:=3) O (by kernel_rfl) O O (λ_=>X7 O) (ay) (PZ (i:=4) O (by kernel_rfl) O O (λ_=>X8 O O ω) (ay) (PF 5 O O (ay) (PF 6 O O (ay) (P5 7 O (X8 O O ω) ay (PF 10 O O (ay) (PF 11 O O (ay) (P5 12 O (PK Ph OS O O ω) ay ?_)))))))))));rw[show(j:Int)-1=((j-1:Nat):Int) by omega];refine P5 8 O (PK Ph OS O O ω) ay (qL 9 O (λ_ h=>Pc QA O O ((pf.ext h).get (i:=j-1) ω)) ay (qL 13 O (λ_ h=>Pc QA O O ((pf.ext h).get (i:=j) ω)) ay (P5 14 O (PK Ph OS O O ω) ay (Th [15] (qO 15 (Pt (i:=15) O O (RA OS O O O (pf.ext ay).sl ((pf.ext ay).ZZ ω)) ?_))))));rintro w7a ⟨fV,fW⟩;refine⟨trivial,?_⟩;have cL:=(pf.ext ay).set fV;refine Ow 16 O (PK Ph OS O O ω) trivial (qO 17 (Pt (i:=17) O O (RA OS O O O cL.sl (cL.ZZ ω)) ?_));rintro w7 ⟨ie,jP⟩;refine⟨trivial,?_⟩;have jQ:=cL.set ie;have fX:Kp (λk=>k=g) w5.drew w7:=ay.kp.trans (fW.trans jP);refine qE$ Om$ R0 O$ Ra O$ OK O ?_;rw[show(j:Int)-1=((j-1:Nat):Int) by omega];refine(ih2 (j-1,Go.Sort.swp d5 j (j-1)) _ ⟨jQ,(ai.trans hg.kp).trans fX,?_,by dsimp only;omega,by dsimp only;omega⟩ (by dsimp only;omega)).qb;dsimp only;rw[<-bS,z3x a j d5 hj h1]
     ·refine OD O$ Om$ R0 O$ PL O$ OK O ?_;rw[Xh a j d5 (.inr (by simpa using h1))] at bS;refine(ih (i+1,d5) _ ⟨pf,ai.trans hg.kp,?_,by dsimp only;omega⟩ (by dsimp only;omega)).qb;dsimp only;rw[bS];exact cB
    ·refine An$ An$ R8 (λw'=>Ext w5 w') O$ OR 0 O O (hg)$ OR 1 O O (hg)$ Ow 2 O (XQ O O) hg$ TK$ OR 3 O O (hg)$ qJ 4 O (hg)$ qJ 5 O (hg)$ qJ 6 O (hg)$ qJ 7 O (hg)$ qJ 8 O (hg)$ qJ 9 O (hg) ?_;refine qJ 10 O (hg)$ qJ 11 O (hg)$ qJ 12 O (hg)$ qJ 13 O (hg)$ Ow 14 O (U0 O O) hg$ qE$ Ox O$ OD O$ Om$ R0 O$ PL O$ OK O ?_;rw[Xh a j d5 (.inl hj)] at bS;refine(ih (i+1,d5) _ ⟨aS.ext hg,ai.trans hg.kp,?_,by dsimp only;omega⟩ (by dsimp only;omega)).qb;dsimp only;rw[bS];exact cB
  ·rw[z1x _ _ _ _ ω] at cB;refine OD O$ PQ func254 O ?_;exact⟨_,rfl,rfl,cB▸dU,aq⟩
section
variable (hi first root:Nat)(d:Array Nat)
def YQ:Nat:=if 2*root+1+1<hi&&Qs d[first+(2*root+1)]! d[first+(2*root+1)+1]! then 2*root+2 else 2*root+1
theorem z9u (h:hi<=2*root+1):Go.Sort.siftDown Qs hi first root d=d:=by rw[Go.Sort.siftDown,dif_pos h]
theorem zbz (h:2*root+1<hi):Go.Sort.siftDown Qs hi first root d=if Qs d[first+root]! d[first+YQ hi first root d]! then Go.Sort.siftDown Qs hi first (YQ hi first root d) (Go.Sort.swp d (first+root) (first+YQ hi first root d)) else d:=by
 rw[Go.Sort.siftDown,dif_neg ω]
 unfold YQ
 by_cases h1:(decide (2*root+1+1<hi)&&Qs d[first+(2*root+1)]! d[first+(2*root+1)+1]!)=true
 ·rw[if_pos h1,if_pos h1];rw[Bool.and_eq_true] at h1;have h2:2*root+2<hi:=of_decide_eq_true h1.1;rw[dif_pos h2];cases Qs d[first+root]! d[first+(2*root+2)]!<;>rfl
 ·rw[if_neg h1,if_neg h1];cases Qs d[first+root]! d[first+(2*root+1)]!<;>rfl
def zbR (h:2*root+1<hi):root<YQ hi first root d/\YQ hi first root d<hi:=by
 unfold YQ
 split
 ·rename_i h1
  rw[Bool.and_eq_true] at h1;have h2:2*root+2<hi:=of_decide_eq_true h1.1;omega
 ·omega
end
def z4P {w:World}{g n cap:Nat}{d:Array Nat}(h:Sq w g n cap d)(lo hi first:Nat)(hf:first+hi<=n)(vx:lo<=65536)(hn:n<=65536):
  P9 prog 264 [.slice (some ⟨g,0,none⟩) n cap,I (lo:Int),I (hi:Int),I (first:Int)] w λu w'=>u= .tuple #[]/\Sq w' g n cap (Go.Sort.siftDown Qs hi first lo d)/\Kp (λk=>k=g) w w':=by
 refine py (e:=[(0,_),(1,_),(2,_),(3,_)]) func264 O ntmps264 O O$ P7 O$ OK O$ Ou$ Rw (α:=Nat×Array Nat) ((lo,d)) (λy=>[(0,.slice (some ⟨g,0,none⟩) n cap),(2,I (hi:Int)),(3,I (first:Int)),(8,I (y.1:Int))]) (λy w'=>Sq w' g n cap y.2/\Kp (λk=>k=g) w w'/\Go.Sort.siftDown Qs hi first y.1 y.2=Go.Sort.siftDown Qs hi first lo d/\y.1<=65536) (λy=>hi-y.1) ?hI ?hround
 case hI=>exact⟨h,Kp.refl _ _,rfl,vx⟩
 case hround=>
  rintro⟨root,d4⟩ w4 ⟨dU,aq,cB,bA⟩ ih;dsimp only at dU aq cB bA
  try dsimp only
  refine Ou (P7 O (qV (X5 O O ω) (PL O (OK O (An (qN O ?_))))));rw[show 2*(root:Int)+1=((2*root+1:Nat):Int) by omega];refine OX O$ TE O$ Oq$ OH O (λh0=>?_)$ λh0=>?_
  ·rw[z9u _ _ _ _ ω] at cB;refine OD O$ PQ func264 O ?_;exact⟨_,rfl,rfl,cB▸dU,aq⟩
  ·have hc:=zbR hi first root d4 ω;rw[zbz _ _ _ _ ω] at cB;have hg:=Ext.OT w4;have sJ:=dU.ext hg;refine Ot$ An$ An ?_
   generalize ph:(decide (2*root+1+1<hi)&&Qs d4[first+(2*root+1)]! d4[first+(2*root+1)+1]!)=sel
   refine Pw (λe' w'=>e'=[(0,.slice (some ⟨g,0,none⟩) n cap),(2,I (hi:Int)),(3,I (first:Int)),(8,I (root:Int)),(9,I ((2*root+1:Nat):Int)),(36,.bool sel)]/\w'=w4.drew) ?cS$ λcS=>?fQ
   case cS=>
    rintro e' w5 ⟨rfl,rfl⟩;refine Pw (λe' w'=>e'=[(0,.slice (some ⟨g,0,none⟩) n cap),(2,I (hi:Int)),(3,I (first:Int)),(8,I (root:Int)),(9,I (YQ hi first root d4:Int))]/\w'=w4.drew) ?au$ λau=>?dX
    case au=>
     rintro e' w5 ⟨rfl,rfl⟩
     generalize YQ hi first root d4=c at hc cB
     have dv:=Ext.OT w4.drew;have lC:=sJ.ext dv;refine An (An (R8 (λw'=>Ext w4.drew w') O (OR 0 O O (dv) (OR 1 O O (dv) (OR 2 O O (dv) (Ow 3 O (Uw O O ω) dv (Ow 4 O (PK Ph OS O O ω) dv (OR 6 O O (dv) (OR 7 O O (dv) (OR 8 O O (dv) (Ow 9 O (Uw O O ω) dv (Ow 10 O (PK Ph OS O O ω) dv (qT 5 O (λ_ h=>Pc QA O O ((sJ.ext h).get (i:=first+root) ω)) dv ?_)))))))))))));refine qT 11 O (λ_ h=>Pc QA O O ((sJ.ext h).get (i:=first+c) ω)) dv$ SH 12 O VH O (RO _ _ _) ?_;rintro _ w6 ⟨rfl,rfl⟩;refine⟨dv,?_⟩;refine Ow 13 O ((z8J O)) dv$ qE$ Q0 O (λh1=>?_)$ λh1=>?_
     ·rw[if_neg (by simpa using h1)] at cB;refine Oo func264 O ?_;exact⟨_,rfl,rfl,cB▸lC,aq.trans (hg.trans dv).kp⟩
     ·rw[if_pos (by simpa using h1)] at cB;refine Ot$ An ?_;have ay:=Ext.OT w4.drew.drew;refine OW [21,23] (λw'=>Ext w4.drew.drew w') (by kernel_rfl) O (PF 0 O O (ay) (PF 1 O O (ay) (PF 2 O O (ay) (P5 3 O (Uw O O ω) ay (PZ (i:=4) O (by kernel_rfl) O O (λ_=>X7 O) (ay) (PZ (i:=5) O (by kernel_rfl) O O (λ_=>X7 O) (ay) (PZ (i:=6) O (by kernel_rfl) O O (λ_=>X7 O) (ay) (PZ (i:=7) O (by kernel_rfl) O O (λ_=>Uw O O ω) (ay) (PF 8 O O (ay) (PF 9 O O (ay) (PF 10 O O (ay) (P5 11 O (Uw O O ω) ay (P5 12 O (PK Ph OS O O ω) ay ?_)))))))))))));refine PF 14 O O (ay) (PF 15 O O (ay) (PF 16 O O (ay) (P5 17 O (Uw O O ω) ay (P5 18 O (PK Ph OS O O ω) ay (qL 13 O (λ_ h=>Pc QA O O ((lC.ext h).get (i:=first+c) ω)) ay (qL 19 O (λ_ h=>Pc QA O O ((lC.ext h).get (i:=first+root) ω)) ay (P5 20 O (PK Ph OS O O ω) ay (Th [21] (qO 21 (Pt (i:=21) O O (RA OS O O O (lC.ext ay).sl ((lC.ext ay).ZZ ω)) ?_))))))))));rintro w7a ⟨fV,fW⟩;refine⟨trivial,?_⟩;have cL:=(lC.ext ay).set fV;refine Ow 22 O (PK Ph OS O O ω) trivial (qO 23 (Pt (i:=23) O O (RA OS O O O cL.sl (cL.ZZ ω)) ?_));rintro w7 ⟨ie,jP⟩;refine⟨trivial,?_⟩;have jQ:=cL.set ie;have fX:Kp (λk=>k=g) w4.drew.drew w7:=ay.kp.trans (fW.trans jP);refine qE$ R0 O$ OK O$ Om ((ih (c,Go.Sort.swp d4 (first+root) (first+c)) _ ⟨jQ,(aq.trans (hg.trans dv).kp).trans fX,cB,by dsimp only;omega⟩ (by dsimp only;omega)).qb)
    case dX=>
     refine Q0 O (λh1=>?_)$ λh1=>?_
     ·refine R0 O$ PL O$ OK O ?_;rw[show((2*root+1:Nat):Int)+1=(YQ hi first root d4:Int) by unfold YQ;rw[ph,if_pos h1];omega];exact(au _ _ ⟨rfl,rfl⟩).qb
     ·refine Ot ?_;rw[show((2*root+1:Nat):Int)=(YQ hi first root d4:Int) by unfold YQ;rw[ph,if_neg (by rw[h1];decide)]];exact(au _ _ ⟨rfl,rfl⟩).qb
   case fQ=>
    rcases Nat.lt_or_ge (2*root+1+1) hi with hj|hj
    ·refine R8 (λw'=>Ext w4 w') O (OR 0 O O (hg) (Ow 1 O (Uw O O ω) hg (OR 2 O O (hg) (Ow 3 O (ylt O O) hg (TH (OR 4 O O (hg) (OR 5 O O (hg) (OR 6 O O (hg) (OR 7 O O (hg) (Ow 8 O (Uw O O ω) hg (Ow 9 O (PK Ph OS O O ω) hg (OR 11 O O (hg) (OR 12 O O (hg) ?_)))))))))))));refine OR 13 O O (hg) (Ow 14 O (Uw O O ω) hg (Ow 15 O (Uw O O ω) hg (Ow 16 O (PK Ph OS O O ω) hg (qT 10 O (λ_ hS=>Pc QA O O ((dU.ext hS).get (i:=first+(2*root+1)) ω)) hg (qT 17 O (λ_ hS=>Pc QA O O ((dU.ext hS).get (i:=first+(2*root+1)+1) ω)) hg (SH 18 O VH O (RO _ _ _) ?_))))));rintro _ w6 ⟨rfl,rfl⟩;refine⟨hg,?_⟩;refine Ow 19 O (UT O O) hg$ qE ?_;rw[show Qs d4[first+(2*root+1)]! d4[first+(2*root+1)+1]! =sel by rw[<-ph,decide_eq_true hj,Bool.true_and]];exact(cS _ _ ⟨rfl,rfl⟩).qb
    ·refine R8 (λw'=>Ext w4 w') O (OR 0 O O (hg) (Ow 1 O (Uw O O ω) hg (OR 2 O O (hg) (Ow 3 O (ylt O O) hg (TK (OR 4 O O (hg) (qJ 5 O (hg) (qJ 6 O (hg) (qJ 7 O (hg) (qJ 8 O (hg) (qJ 9 O (hg) (qJ 10 O (hg) (qJ 11 O (hg) ?_)))))))))))));refine qJ 12 O (hg)$ qJ 13 O (hg)$ qJ 14 O (hg)$ qJ 15 O (hg)$ qJ 16 O (hg)$ qJ 17 O (hg)$ qJ 18 O (hg)$ Ow 19 O (U0 O O) hg$ qE ?_;have mX:sel=false:=by rw[<-ph,decide_eq_false ω,Bool.false_and]
     subst mX;exact(cS _ _ ⟨rfl,rfl⟩).qb
def z9K {w:World}{g n cap:Nat}{d:Array Nat}(h:Sq w g n cap d)(a b:Nat)(jr:a<b)(hb:b<=n)(hn:n<=65536):
  P9 prog 255 [.slice (some ⟨g,0,none⟩) n cap,I (a:Int),I (b:Int)] w λu w'=>u= .tuple #[]/\Sq w' g n cap (Go.Sort.heapSort Qs d a b)/\Kp (λk=>k=g) w w':=by
 refine py (e:=[(0,_),(1,_),(2,_)]) func255 O ntmps255 O O$ P7 O$ QL O$ QL O$ OX O$ Ra O$ OK O$ An$ qN O ?_
 rw[show(b:Int)-(a:Int)=((b-a:Nat):Int) by omega]
 refine OC O$ Ra O ?_
 rw[show((b-a:Nat):Int)-1=((b-a-1:Nat):Int) by omega]
 refine qV (Wq O O ω)$ OK O$ Ou ?_
 rw[show((b-a-1:Nat):Int) / 2=(((b-a-1) / 2+1:Nat):Int)-1 by omega]
 have mV:Go.Sort.heapSort Qs d a b=Go.Sort.heapPop Qs a (b-a) (Go.Sort.heapBuild Qs (b-a) a ((b-a-1) / 2+1) d):=rfl
 rw[mV]
 refine Rw (α:=Nat×Array Nat) (((b-a-1) / 2+1,d)) (λy=>[(0,.slice (some ⟨g,0,none⟩) n cap),(6,I (a:Int)),(7,I 0),(8,I ((b-a:Nat):Int)),(9,I ((y.1:Int)-1))]) (λy w'=>Sq w' g n cap y.2/\Kp (λk=>k=g) w w'/\Go.Sort.heapBuild Qs (b-a) a y.1 y.2=Go.Sort.heapBuild Qs (b-a) a ((b-a-1) / 2+1) d/\y.1<=(b-a-1) / 2+1) (λy=>y.1) ?hI ?hround
 case hI=>exact⟨h,Kp.refl _ _,rfl,Nat.le_refl _⟩
 case hround=>
  rintro⟨k,d4⟩ w4 ⟨dU,aq,cB,bA⟩ ih;dsimp only at dU aq cB bA
  try dsimp only
  refine Pz O$ TE O$ Oq$ OH O (λh0=>?_)$ λh0=>?_
  ·obtain⟨k,rfl⟩:∃k',k=k'+1:=⟨k-1,ω⟩;rw[show((k+1:Nat):Int)-1=(k:Int) by omega];refine Ot (Qt (Oz O (OX O (OX O (OQ zdg O (z4P dU k (b-a) a ω ω hn) ?_)))));rintro _ w5 ⟨rfl,aS,ai⟩;refine Oq$ Om$ R0 O$ Ra O$ OK O ?_;exact(ih (k,Go.Sort.siftDown Qs (b-a) a k d4) _ ⟨aS,aq.trans ai,cB,by dsimp only;omega⟩ (by dsimp only;omega)).qb
  ·have gU:k=0:=by omega
   subst gU;rw[<-cB];refine OD O$ P7 O$ Ra O$ OK O$ Ou$ Rw (α:=Nat×Array Nat) ((b-a,d4)) (λy=>[(0,.slice (some ⟨g,0,none⟩) n cap),(6,I (a:Int)),(7,I 0),(10,I ((y.1:Int)-1))]) (λy w'=>Sq w' g n cap y.2/\Kp (λk=>k=g) w w'/\Go.Sort.heapPop Qs a y.1 y.2=Go.Sort.heapPop Qs a (b-a) (Go.Sort.heapBuild Qs (b-a) a 0 d4)/\y.1<=b-a) (λy=>y.1) ?hI ?hround
   case hI=>exact⟨dU,aq,rfl,Nat.le_refl _⟩
   case hround=>
    rintro⟨k,d5⟩ w5 ⟨aS,ai,bS,bG⟩ ih2;dsimp only at aS ai bS bG
    try dsimp only
    refine Pz O$ TE O$ Oq$ OH O (λh1=>?_)$ λh1=>?_
    ·obtain⟨k,rfl⟩:∃k',k=k'+1:=⟨k-1,ω⟩;rw[show((k+1:Nat):Int)-1=(k:Int) by omega];refine Ot$ Qt$ An ?_;have ay:=Ext.OT w5;refine OW [17,19] (λw'=>Ext w5 w') (by kernel_rfl) O (PF 0 O O (ay) (PF 1 O O (ay) (PZ (i:=2) O (by kernel_rfl) O O (λ_=>X7 O) (ay) (PZ (i:=3) O (by kernel_rfl) O O (λ_=>X7 O) (ay) (PZ (i:=4) O (by kernel_rfl) O O (λ_=>X7 O) (ay) (PZ (i:=5) O (by kernel_rfl) O O (λ_=>Uw O O ω) (ay) (PF 6 O O (ay) (PF 7 O O (ay) (PF 8 O O (ay) (P5 9 O (Uw O O ω) ay (P5 10 O (PK Ph OS O O ω) ay (PF 12 O O (ay) (PF 13 O O (ay) ?_)))))))))))));refine P5 14 O (PK Ph OS O O ω) ay (qL 11 O (λ_ h=>Pc QA O O ((aS.ext h).get (i:=a+k) ω)) ay (qL 15 O (λ_ h=>Pc QA O O ((aS.ext h).get (i:=a) ω)) ay (P5 16 O (PK Ph OS O O ω) ay (Th [17] (qO 17 (Pt (i:=17) O O (RA OS O O O (aS.ext ay).sl ((aS.ext ay).ZZ ω)) ?_))))));rintro w7a ⟨fV,fW⟩;refine⟨trivial,?_⟩;have cL:=(aS.ext ay).set fV;refine Ow 18 O (PK Ph OS O O ω) trivial (qO 19 (Pt (i:=19) O O (RA OS O O O cL.sl (cL.ZZ ω)) ?_));rintro w7 ⟨ie,jP⟩;refine⟨trivial,?_⟩;have jQ:=cL.set ie;have fX:Kp (λk=>k=g) w5 w7:=ay.kp.trans (fW.trans jP);refine qE (Oz O (OX O (OX O (OQ zdg O (z4P jQ 0 k a ω ω hn) ?_))));rintro _ w8 ⟨rfl,Jw,aP⟩;refine Oq$ Om$ R0 O$ Ra O$ OK O ?_;exact(ih2 (k,Go.Sort.siftDown Qs k a 0 (Go.Sort.swp d5 a (a+k))) _ ⟨Jw,(ai.trans fX).trans aP,bS,by dsimp only;omega⟩ (by dsimp only;omega)).qb
    ·have gU:k=0:=by omega
     subst gU;rw[<-bS];refine OD O$ PQ func255 O ?_;exact⟨_,rfl,rfl,aS,ai⟩
def z41 {w:World}{g n cap:Nat}{d:Array Nat}(h:Sq w g n cap d)(a b:Nat)(jr:a<b)(hb:b<=n)(hn:n<=65536):
  P9 prog 258 [.slice (some ⟨g,0,none⟩) n cap,I (a:Int),I (b:Int)] w λu w'=>u= .tuple #[]/\Sq w' g n cap (Go.Sort.reverseRange d a b)/\Kp (λk=>k=g) w w':=by
 refine py (e:=[(0,_),(1,_),(2,_)]) func258 O ntmps258 O O$ P7 O$ QO O$ Ra O$ OK O$ Ou ?_
 rw[show(b:Int)-1=((b-1:Nat):Int) by omega]
 refine Rw (α:=Nat×Nat×Array Nat) ((a,b-1,d)) (λy=>[(0,.slice (some ⟨g,0,none⟩) n cap),(6,I (y.1:Int)),(7,I (y.2.1:Int))]) (λy w'=>Sq w' g n cap y.2.2/\Kp (λk=>k=g) w w'/\Go.Sort.reverseLoop y.1 y.2.1 y.2.2=Go.Sort.reverseRange d a b/\y.2.1<n) (λy=>y.2.1-y.1) ?hI ?hround
 case hI=>exact⟨h,Kp.refl _ _,rfl,by dsimp only;omega⟩
 case hround=>
  rintro⟨i,j,d4⟩ w4 ⟨dU,aq,cB,bA⟩ ih;dsimp only at dU aq cB bA
  try dsimp only
  refine An$ Qh O$ Qv O$ Oq$ OH O (λh0=>?_)$ λh0=>?_
  ·rw[Go.Sort.reverseLoop,if_pos ω] at cB;refine Ot$ Ou$ An ?_;have ay:=Ext.OT w4;refine OW [13,15] (λw'=>Ext w4 w') (by kernel_rfl) O (PF 0 O O (ay) (PF 1 O O (ay) (PZ (i:=2) O (by kernel_rfl) O O (λ_=>X7 O) (ay) (PZ (i:=3) O (by kernel_rfl) O O (λ_=>X7 O) (ay) (PF 4 O O (ay) (PF 5 O O (ay) (P5 6 O (PK Ph OS O O ω) ay (PF 8 O O (ay) (PF 9 O O (ay) (P5 10 O (PK Ph OS O O ω) ay (qL 7 O (λ_ h=>Pc QA O O ((dU.ext h).get (i:=j) ω)) ay (qL 11 O (λ_ h=>Pc QA O O ((dU.ext h).get (i:=i) ω)) ay (P5 12 O (PK Ph OS O O ω) ay ?_)))))))))))));refine Th [13] (qO 13 (Pt (i:=13) O O (RA OS O O O (dU.ext ay).sl ((dU.ext ay).ZZ ω)) ?_));rintro w7a ⟨fV,fW⟩;refine⟨trivial,?_⟩;have cL:=(dU.ext ay).set fV;refine Ow 14 O (PK Ph OS O O ω) trivial (qO 15 (Pt (i:=15) O O (RA OS O O O cL.sl (cL.ZZ ω)) ?_));rintro w7 ⟨ie,jP⟩;refine⟨trivial,?_⟩;have jQ:=cL.set ie;have fX:Kp (λk=>k=g) w4 w7:=ay.kp.trans (fW.trans jP);refine qE$ P7 O$ PL O$ OK O$ R0 O$ Ra O$ OK O$ Om ?_;rw[show(j:Int)-1=((j-1:Nat):Int) by omega];exact(ih (i+1,j-1,Go.Sort.swp d4 i j) _ ⟨jQ,aq.trans fX,cB,by dsimp only;omega⟩ (by dsimp only;omega)).qb
  ·rw[Go.Sort.reverseLoop,if_neg ω] at cB;refine OD O$ PQ func258 O ?_;exact⟨_,rfl,rfl,cB▸dU,aq⟩
section
variable (p:Nat->Bool)(d:Array Nat)(i j:Nat)
theorem YR (h:i<=j)(hp:p d[i]! =true):Go.Sort.scanUp p d j i=Go.Sort.scanUp p d j (i+1):=by
 conv=>lhs;rw[Go.Sort.scanUp]
 rw[if_pos]
 rw[Bool.and_eq_true];exact⟨by simpa using h,hp⟩
theorem SR (h:j<i\/p d[i]! =false):Go.Sort.scanUp p d j i=i:=by
 rw[Go.Sort.scanUp,if_neg]
 intro hc
 rw[Bool.and_eq_true] at hc
 rcases h with h| h
 ·have:=of_decide_eq_true hc.1;omega
 ·rw[h] at hc;cases hc.2
theorem Wj (h:i<=j)(hp:p d[j]! =true)(hj:1<=j):Go.Sort.scanDown p d i j=Go.Sort.scanDown p d i (j-1):=by
 obtain⟨k,rfl⟩:∃k,j=k+1:=⟨j-1,ω⟩
 rw[Go.Sort.scanDown,if_pos]
 ·rfl
 ·rw[Bool.and_eq_true];exact⟨by simpa using h,hp⟩
theorem RR (h:j<i\/p d[j]! =false):Go.Sort.scanDown p d i j=j:=by
 cases j with
 |zero=>rw[Go.Sort.scanDown]
 | succ k =>
   rw[Go.Sort.scanDown,if_neg];intro hc;rw[Bool.and_eq_true] at hc;rcases h with h| h
   ·have:=of_decide_eq_true hc.1;omega
   ·rw[h] at hc;cases hc.2
end
def Wx (p:Nat->Bool)(d:Array Nat)(j:Nat):∀i:Nat,Go.Sort.scanUp p d j i<=max i (j+1):=λi=>by
 rw[Go.Sort.scanUp]
 split
 ·rename_i h
  rw[Bool.and_eq_true] at h;have h1:=of_decide_eq_true h.1;have:=Wx p d j (i+1);omega
 ·omega
 termination_by i=>j+1-i
def zbc {w:World}{g n cap:Nat}{d:Array Nat}(h:Sq w g n cap d)(a b pv:Nat)(Ca:a<=pv)(qR:pv<b)(hb:b<=n)(hn:n<=65536):
  P9 prog 262 [.slice (some ⟨g,0,none⟩) n cap,I (a:Int),I (b:Int),I (pv:Int)] w λu w'=>u= .tuple #[I ((Go.Sort.partition Qs d a b pv).1:Int),.bool (Go.Sort.partition Qs d a b pv).2.1]/\Sq w' g n cap (Go.Sort.partition Qs d a b pv).2.2/\Kp (λk=>k=g) w w':=by
 refine py (e:=[(0,_),(1,_),(2,_),(3,_)]) func262 O ntmps262 O O$ qN O$ Qd O$ An ?_
 have ay:=Ext.OT w
 refine OW [13,15] (λw'=>Ext w w') (by kernel_rfl) O$ PF 0 O O (ay)$ PF 1 O O (ay)$ PZ (i:=2) O (by kernel_rfl) O O (λ_=>X7 O) (ay)$ PZ (i:=3) O (by kernel_rfl) O O (λ_=>X7 O) (ay)$ PF 4 O O (ay)$ PF 5 O O (ay)$ P5 6 O (PK Ph OS O O ω) ay$ PF 8 O O (ay)$ PF 9 O O (ay)$ P5 10 O (PK Ph OS O O ω) ay$ qL 7 O (λ_ hS=>Pc QA O O ((h.ext hS).get (i:=pv) ω)) ay$ qL 11 O (λ_ hS=>Pc QA O O ((h.ext hS).get (i:=a) ω)) ay$ P5 12 O (PK Ph OS O O ω) ay ?_
 refine Th [13]$ qO 13$ Pt (i:=13) O O (RA OS O O O (h.ext ay).sl ((h.ext ay).ZZ ω)) ?_
 rintro w1a ⟨mY,mZ⟩
 refine⟨trivial,?_⟩
 have fY:=(h.ext ay).set mY
 refine Ow 14 O (PK Ph OS O O ω) trivial$ qO 15$ Pt (i:=15) O O (RA OS O O O fY.sl (fY.ZZ ω)) ?_
 rintro w1 ⟨sK,sL⟩
 refine⟨trivial,?_⟩
 have ig:=fY.set sK
 have kM:Kp (λk=>k=g) w w1:=ay.kp.trans (mZ.trans sL)
 refine qE$ P7 O$ PL O$ OC O$ Ra O$ Qd O$ P8.qb (e:=[(0,_),(1,_),(8,_),(9,_),(10,_),(11,_)]) ?_
 refine Qt ?_
 unfold Go.Sort.partition
 dsimp only
 replace ig:Sq w1 g n cap (Go.Sort.swp d a pv):=ig
 generalize Go.Sort.swp d a pv=D at ig
 rw[show(a:Int)+1=((a+1:Nat):Int) by omega,show(b:Int)-1=((b-1:Nat):Int) by omega]
 refine RP (λe' w'=>e'=[(0,.slice (some ⟨g,0,none⟩) n cap),(1,I (a:Int)),(10,I (((Go.Sort.scanUp (λx=>Qs x D[a]!) D (b-1) (a+1)):Nat):Int)),(11,I (((b-1):Nat):Int))]/\Sq w' g n cap D/\Kp (λk=>k=g) w1 w') ?oK$ λoK=>?Cl
 case oK =>
  rintro e' wA ⟨rfl,Jy,oK⟩;have sy:=Go.Sort.scanUp_ge (λx=>Qs x D[a]!) D (b-1) (a+1);have lD:=Wx (λx=>Qs x D[a]!) D (b-1) (a+1)
  generalize Go.Sort.scanUp (λx=>Qs x D[a]!) D (b-1) (a+1)=i1 at sy lD
  refine Qt$ RP (λe' w'=>e'=[(0,.slice (some ⟨g,0,none⟩) n cap),(1,I (a:Int)),(10,I ((i1:Nat):Int)),(11,I (((Go.Sort.scanDown (λx=>!Qs x D[a]!) D i1 (b-1)):Nat):Int))]/\Sq w' g n cap D/\Kp (λk=>k=g) wA w') ?j4$ λj4=>?Ck
  case j4 =>
   rintro e' wB ⟨rfl,oL,j4⟩;have Jz:=Go.Sort.scanDown_le (λx=>!Qs x D[a]!) D i1 (b-1)
   generalize Go.Sort.scanDown (λx=>!Qs x D[a]!) D i1 (b-1)=j1 at Jz
   refine An$ Qh O$ Qr O$ Oq$ OH O (λh4=>?_)$ λh4=>?_
   ·rw[if_pos ω];refine An ?_;have aa:=Ext.OT wB;refine OW [13,15] (λw'=>Ext wB w') (by kernel_rfl) O (PF 0 O O (aa) (PF 1 O O (aa) (PZ (i:=2) O (by kernel_rfl) O O (λ_=>X7 O) (aa) (PZ (i:=3) O (by kernel_rfl) O O (λ_=>X7 O) (aa) (PF 4 O O (aa) (PF 5 O O (aa) (P5 6 O (PK Ph OS O O ω) aa (PF 8 O O (aa) (PF 9 O O (aa) (P5 10 O (PK Ph OS O O ω) aa (qL 7 O (λ_ h=>Pc QA O O ((oL.ext h).get (i:=a) ω)) aa (qL 11 O (λ_ h=>Pc QA O O ((oL.ext h).get (i:=j1) ω)) aa (P5 12 O (PK Ph OS O O ω) aa ?_)))))))))))));refine Th [13] (qO 13 (Pt (i:=13) O O (RA OS O O O (oL.ext aa).sl ((oL.ext aa).ZZ ω)) ?_));rintro w2a ⟨wJ,wK⟩;refine⟨trivial,?_⟩;have n6:=(oL.ext aa).set wJ;refine Ow 14 O (PK Ph OS O O ω) trivial (qO 15 (Pt (i:=15) O O (RA OS O O O n6.sl (n6.ZZ ω)) ?_));rintro w2 ⟨Cb,Cc⟩;refine⟨trivial,?_⟩;have Ce:=n6.set Cb;have wL:Kp (λk=>k=g) wB w2:=aa.kp.trans (wK.trans Cc);refine qE$ P7 O$ Qd O$ Oo func262 O ?_;exact⟨_,rfl,rfl,Ce,(kM.trans (oK.trans j4)).trans wL⟩
   ·rw [if_neg ω]; refine Ot (An ?_); have ag := Ext.OT wB; refine OW [13,15] (λw' => Ext wB w') (by kernel_rfl) O (PF 0 O O (ag) (PF 1 O O (ag) (PZ (i := 2) O (by kernel_rfl) O O (λ_ => X7 O) (ag) (PZ (i := 3) O (by kernel_rfl) O O (λ_ => X7 O) (ag) (PF 4 O O (ag) (PF 5 O O (ag) (P5 6 O (PK Ph OS O O ω) ag (PF 8 O O (ag) (PF 9 O O (ag) (P5 10 O (PK Ph OS O O ω) ag (qL 7 O (λ_ h=>Pc QA O O ((oL.ext h).get (i := j1) ω)) ag (qL 11 O (λ_ h=>Pc QA O O ((oL.ext h).get (i := i1) ω)) ag (P5 12 O (PK Ph OS O O ω) ag ?_))))))))))))); refine Th [13] (qO 13 (Pt (i := 13) O O (RA OS O O O (oL.ext ag).sl ((oL.ext ag).ZZ ω)) ?_)); rintro w3a ⟨wM, wO⟩; refine ⟨trivial, ?_⟩; have n8 := (oL.ext ag).set wM; refine Ow 14 O (PK Ph OS O O ω) trivial (qO 15 (Pt (i := 15) O O (RA OS O O O n8.sl (n8.ZZ ω)) ?_)); rintro w3 ⟨Cf, Cg⟩; refine ⟨trivial, ?_⟩; have Ci := n8.set Cf; have wP : Kp (λk => k = g) wB w3 := ag.kp.trans (wO.trans Cg); refine qE (P7 O (PL O (QO O (Ra O (OK O (P8.qb (e := [(0, _), (1, _), (10, _), (11, _)]) ?_)))))); refine Qt ?_; rw [show (j1 : Int) - 1 = ((j1 - 1 : Nat) : Int) by omega]; refine Rw (α := Nat × Nat × Array Nat) ((i1 + 1, j1 - 1, Go.Sort.swp D i1 j1)) (λy => [(0, .slice (some ⟨g, 0, none⟩) n cap), (1, I (a : Int)), (10, I (y.1 : Int)), (11, I (y.2.1 : Int))]) (λy w' => Sq w' g n cap y.2.2 /\ Kp (λk => k = g) w3 w' /\ Go.Sort.partLoop Qs a y.1 y.2.1 y.2.2 = Go.Sort.partLoop Qs a (i1 + 1) (j1 - 1) (Go.Sort.swp D i1 j1) /\ (a < y.1 /\ y.1 <= n /\ y.2.1 < n)) (λy => y.2.1 + 1 - y.1) ?hI ?hround
    case hI=>exact⟨Ci,Kp.refl _ _,rfl,by dsimp only;omega⟩
    case hround =>
     rintro⟨i,j,d4⟩ w4 ⟨dU,aq,cB,bA⟩ ih;dsimp only at dU aq cB bA;rw[Go.Sort.partLoop_eq] at cB
     try dsimp only
     refine Ou$ Qt$ RP (λe' w'=>e'=[(0,.slice (some ⟨g,0,none⟩) n cap),(1,I (a:Int)),(10,I (((Go.Sort.scanUp (λx=>Qs x d4[a]!) d4 j (i)):Nat):Int)),(11,I ((j:Nat):Int))]/\Sq w' g n cap d4/\Kp (λk=>k=g) w4 w') ?jw$ λjw=>?sN
     case jw=>
      rintro e' wC ⟨rfl,Cj,jw⟩;have dt:=Go.Sort.scanUp_ge (λx=>Qs x d4[a]!) d4 j i;have mt:=Wx (λx=>Qs x d4[a]!) d4 j i
      generalize Go.Sort.scanUp (λx=>Qs x d4[a]!) d4 j i=i2 at cB dt mt
      refine Qt$ RP (λe' w'=>e'=[(0,.slice (some ⟨g,0,none⟩) n cap),(1,I (a:Int)),(10,I ((i2:Nat):Int)),(11,I (((Go.Sort.scanDown (λx=>!Qs x d4[a]!) d4 i2 (j)):Nat):Int))]/\Sq w' g n cap d4/\Kp (λk=>k=g) wC w') ?fA$ λfA=>?sM
      case fA=>
       rintro e' wD ⟨rfl,j5,fA⟩;have kL:=Go.Sort.scanDown_le (λx=>!Qs x d4[a]!) d4 i2 j
       generalize Go.Sort.scanDown (λx=>!Qs x d4[a]!) d4 i2 j=j2 at cB kL
       refine An$ Qh O$ Qr O$ Oq$ OH O (λh5=>?_)$ λh5=>?_
       ·rw[if_pos ω] at cB;refine OD O$ An ?_;rw[<-cB];have oM:=((kM.trans (oK.trans j4)).trans wP).trans (aq.trans (jw.trans fA));have bJ:=Ext.OT wD;refine OW [13,15] (λw'=>Ext wD w') (by kernel_rfl) O (PF 0 O O (bJ) (PF 1 O O (bJ) (PZ (i:=2) O (by kernel_rfl) O O (λ_=>X7 O) (bJ) (PZ (i:=3) O (by kernel_rfl) O O (λ_=>X7 O) (bJ) (PF 4 O O (bJ) (PF 5 O O (bJ) (P5 6 O (PK Ph OS O O ω) bJ (PF 8 O O (bJ) (PF 9 O O (bJ) (P5 10 O (PK Ph OS O O ω) bJ (qL 7 O (λ_ h=>Pc QA O O ((j5.ext h).get (i:=a) ω)) bJ (qL 11 O (λ_ h=>Pc QA O O ((j5.ext h).get (i:=j2) ω)) bJ (P5 12 O (PK Ph OS O O ω) bJ ?_)))))))))))));refine Th [13] (qO 13 (Pt (i:=13) O O (RA OS O O O (j5.ext bJ).sl ((j5.ext bJ).ZZ ω)) ?_));rintro w8a ⟨fZ,g7⟩;refine⟨trivial,?_⟩;have cM:=(j5.ext bJ).set fZ;refine Ow 14 O (PK Ph OS O O ω) trivial (qO 15 (Pt (i:=15) O O (RA OS O O O cM.sl (cM.ZZ ω)) ?_));rintro w8 ⟨jR,jS⟩;refine⟨trivial,?_⟩;have jT:=cM.set jR;have fi:Kp (λk=>k=g) wD w8:=bJ.kp.trans (g7.trans jS);refine qE$ P7 O$ Qd O$ Oo func262 O ?_;exact⟨_,rfl,rfl,jT,oM.trans fi⟩
       ·rw[if_neg ω] at cB;refine Ot$ An ?_;have bJ:=Ext.OT wD;refine OW [13,15] (λw'=>Ext wD w') (by kernel_rfl) O (PF 0 O O (bJ) (PF 1 O O (bJ) (PZ (i:=2) O (by kernel_rfl) O O (λ_=>X7 O) (bJ) (PZ (i:=3) O (by kernel_rfl) O O (λ_=>X7 O) (bJ) (PF 4 O O (bJ) (PF 5 O O (bJ) (P5 6 O (PK Ph OS O O ω) bJ (PF 8 O O (bJ) (PF 9 O O (bJ) (P5 10 O (PK Ph OS O O ω) bJ (qL 7 O (λ_ h=>Pc QA O O ((j5.ext h).get (i:=j2) ω)) bJ (qL 11 O (λ_ h=>Pc QA O O ((j5.ext h).get (i:=i2) ω)) bJ (P5 12 O (PK Ph OS O O ω) bJ ?_)))))))))))));refine Th [13] (qO 13 (Pt (i:=13) O O (RA OS O O O (j5.ext bJ).sl ((j5.ext bJ).ZZ ω)) ?_));rintro w8a ⟨fZ,g7⟩;refine⟨trivial,?_⟩;have cM:=(j5.ext bJ).set fZ;refine Ow 14 O (PK Ph OS O O ω) trivial (qO 15 (Pt (i:=15) O O (RA OS O O O cM.sl (cM.ZZ ω)) ?_));rintro w8 ⟨jR,jS⟩;refine⟨trivial,?_⟩;have jT:=cM.set jR;have fi:Kp (λk=>k=g) wD w8:=bJ.kp.trans (g7.trans jS);refine qE$ P7 O$ PL O$ OK O$ R0 O$ Ra O$ OK O$ Om ?_;rw[show(j2:Int)-1=((j2-1:Nat):Int) by omega];exact(ih (i2+1,j2-1,Go.Sort.swp d4 i2 j2) _ ⟨jT,(aq.trans (jw.trans fA)).trans fi,cB,by dsimp only;omega⟩ (by dsimp only;omega)).qb
      case sM=>
       refine Rw (α:=Nat) (j) (λr=>[(0,.slice (some ⟨g,0,none⟩) n cap),(1,I (a:Int)),(10,I ((i2:Nat):Int)),(11,I ((r:Nat):Int))]) (λr w'=>Sq w' g n cap d4/\Kp (λk=>k=g) wC w'/\Go.Sort.scanDown (λx=>!Qs x d4[a]!) d4 i2 r=Go.Sort.scanDown (λx=>!Qs x d4[a]!) d4 i2 (j)/\r<n) (λr=>r) ?hI ?hround
       case hI=>exact⟨Cj,Kp.refl _ _,rfl,ω⟩
       case hround=>
        rintro r w5 ⟨aS,ai,bS,bG⟩ ih
        try dsimp only
        have hg:=Ext.OT w5;rcases Nat.lt_or_ge r (i2) with hj|hj
        ·refine An$ An$ R8 (λw'=>Ext w5 w') O$ OR 0 O O (hg)$ OR 1 O O (hg)$ Ow 2 O (YF O O) hg$ TK$ OR 3 O O (hg)$ qJ 4 O (hg)$ qJ 5 O (hg)$ qJ 6 O (hg)$ qJ 7 O (hg)$ qJ 8 O (hg)$ qJ 9 O (hg) ?_;refine qJ 10 O (hg)$ qJ 11 O (hg)$ qJ 12 O (hg)$ qJ 13 O (hg)$ Ow 14 O (U0 O O) hg$ qE$ Ox O$ OD O ?_;rw[RR _ _ _ _ (.inl hj)] at bS;subst bS;exact(fA _ _ ⟨rfl,aS.ext hg,ai.trans hg.kp⟩).qb
        ·refine An (An (R8 (λw'=>Ext w5 w') O (OR 0 O O (hg) (OR 1 O O (hg) (Ow 2 O (YF O O) hg (TH (OR 3 O O (hg) (OR 4 O O (hg) (OR 5 O O (hg) (Ow 6 O (PK Ph OS O O ω) hg (OR 8 O O (hg) (OR 9 O O (hg) (Ow 10 O (PK Ph OS O O ω) hg ?_)))))))))))));refine qT 7 O (λ_ h=>Pc QA O O ((aS.ext h).get (i:=r) ω)) hg (qT 11 O (λ_ h=>Pc QA O O ((aS.ext h).get (i:=a) ω)) hg (SH 12 O VH O (RO _ _ _) ?_));rintro _ w6 ⟨rfl,rfl⟩;refine⟨hg,?_⟩;refine Ow 13 O ((z8J O)) hg$ Ow 14 O (UT O O) hg$ qE$ Q0 O (λh1=>?_)$ λh1=>?_
         ·rw[Wj _ _ _ _ hj (by simpa[Qs] using h1) ω] at bS;refine Ot$ Ou$ R0 O$ Ra O$ OK O$ Om ?_;rw[show(r:Int)-1=((r-1:Nat):Int) by omega];exact(ih (r-1) _ ⟨aS.ext hg,ai.trans hg.kp,bS,ω⟩ ω).qb
         ·rw[RR _ _ _ _ (.inr (by simpa[Qs] using h1))] at bS;refine OD O ?_;subst bS;exact(fA _ _ ⟨rfl,aS.ext hg,ai.trans hg.kp⟩).qb
     case sN=>
      refine Rw (α:=Nat) (i) (λr=>[(0,.slice (some ⟨g,0,none⟩) n cap),(1,I (a:Int)),(10,I ((r:Nat):Int)),(11,I ((j:Nat):Int))]) (λr w'=>Sq w' g n cap d4/\Kp (λk=>k=g) w4 w'/\Go.Sort.scanUp (λx=>Qs x d4[a]!) d4 j r=Go.Sort.scanUp (λx=>Qs x d4[a]!) d4 j (i)/\i<=r/\r<=n+1) (λr=>j+1-r) ?hI ?hround
      case hI=>exact⟨dU,Kp.refl _ _,rfl,Nat.le_refl _,ω⟩
      case hround=>
       rintro r w5 ⟨aS,ai,bS,bG⟩ ih
       try dsimp only
       have hg:=Ext.OT w5;rcases Nat.lt_or_ge (j) r with hj|hj
       ·refine An$ An$ R8 (λw'=>Ext w5 w') O$ OR 0 O O (hg)$ OR 1 O O (hg)$ Ow 2 O (YF O O) hg$ TK$ OR 3 O O (hg)$ qJ 4 O (hg)$ qJ 5 O (hg)$ qJ 6 O (hg)$ qJ 7 O (hg)$ qJ 8 O (hg)$ qJ 9 O (hg) ?_;refine qJ 10 O (hg)$ qJ 11 O (hg)$ qJ 12 O (hg)$ Ow 13 O (U0 O O) hg$ qE$ Ox O$ OD O ?_;rw[SR _ _ _ _ (.inl hj)] at bS;subst bS;exact(jw _ _ ⟨rfl,aS.ext hg,ai.trans hg.kp⟩).qb
       ·refine An (An (R8 (λw'=>Ext w5 w') O (OR 0 O O (hg) (OR 1 O O (hg) (Ow 2 O (YF O O) hg (TH (OR 3 O O (hg) (OR 4 O O (hg) (OR 5 O O (hg) (Ow 6 O (PK Ph OS O O ω) hg (OR 8 O O (hg) (OR 9 O O (hg) (Ow 10 O (PK Ph OS O O ω) hg ?_)))))))))))));refine qT 7 O (λ_ h=>Pc QA O O ((aS.ext h).get (i:=r) ω)) hg (qT 11 O (λ_ h=>Pc QA O O ((aS.ext h).get (i:=a) ω)) hg (SH 12 O VH O (RO _ _ _) ?_));rintro _ w6 ⟨rfl,rfl⟩;refine⟨hg,?_⟩;refine Ow 13 O (UT O O) hg$ qE$ Q0 O (λh1=>?_)$ λh1=>?_
        ·rw[YR _ _ _ _ hj (by simpa[Qs] using h1)] at bS;refine Ot$ Ou$ R0 O$ PL O$ OK O$ Om ?_;exact(ih (r+1) _ ⟨aS.ext hg,ai.trans hg.kp,bS,ω,ω⟩ ω).qb
        ·rw[SR _ _ _ _ (.inr (by simpa[Qs] using h1))] at bS;refine OD O ?_;subst bS;exact(jw _ _ ⟨rfl,aS.ext hg,ai.trans hg.kp⟩).qb
  case Ck=>
   refine Rw (α:=Nat) (b-1) (λr=>[(0,.slice (some ⟨g,0,none⟩) n cap),(1,I (a:Int)),(10,I ((i1:Nat):Int)),(11,I ((r:Nat):Int))]) (λr w'=>Sq w' g n cap D/\Kp (λk=>k=g) wA w'/\Go.Sort.scanDown (λx=>!Qs x D[a]!) D i1 r=Go.Sort.scanDown (λx=>!Qs x D[a]!) D i1 (b-1)/\r<n) (λr=>r) ?hI ?hround
   case hI=>exact⟨Jy,Kp.refl _ _,rfl,ω⟩
   case hround=>
    rintro r w5 ⟨aS,ai,bS,bG⟩ ih
    try dsimp only
    have hg:=Ext.OT w5;rcases Nat.lt_or_ge r (i1) with hj|hj
    ·refine An$ An$ R8 (λw'=>Ext w5 w') O$ OR 0 O O (hg)$ OR 1 O O (hg)$ Ow 2 O (YF O O) hg$ TK$ OR 3 O O (hg)$ qJ 4 O (hg)$ qJ 5 O (hg)$ qJ 6 O (hg)$ qJ 7 O (hg)$ qJ 8 O (hg)$ qJ 9 O (hg) ?_;refine qJ 10 O (hg)$ qJ 11 O (hg)$ qJ 12 O (hg)$ qJ 13 O (hg)$ Ow 14 O (U0 O O) hg$ qE$ Ox O$ OD O ?_;rw[RR _ _ _ _ (.inl hj)] at bS;subst bS;exact(j4 _ _ ⟨rfl,aS.ext hg,ai.trans hg.kp⟩).qb
    ·refine An (An (R8 (λw'=>Ext w5 w') O (OR 0 O O (hg) (OR 1 O O (hg) (Ow 2 O (YF O O) hg (TH (OR 3 O O (hg) (OR 4 O O (hg) (OR 5 O O (hg) (Ow 6 O (PK Ph OS O O ω) hg (OR 8 O O (hg) (OR 9 O O (hg) (Ow 10 O (PK Ph OS O O ω) hg ?_)))))))))))));refine qT 7 O (λ_ h=>Pc QA O O ((aS.ext h).get (i:=r) ω)) hg (qT 11 O (λ_ h=>Pc QA O O ((aS.ext h).get (i:=a) ω)) hg (SH 12 O VH O (RO _ _ _) ?_));rintro _ w6 ⟨rfl,rfl⟩;refine⟨hg,?_⟩;refine Ow 13 O ((z8J O)) hg$ Ow 14 O (UT O O) hg$ qE$ Q0 O (λh1=>?_)$ λh1=>?_
     ·rw[Wj _ _ _ _ hj (by simpa[Qs] using h1) ω] at bS;refine Ot$ Ou$ R0 O$ Ra O$ OK O$ Om ?_;rw[show(r:Int)-1=((r-1:Nat):Int) by omega];exact(ih (r-1) _ ⟨aS.ext hg,ai.trans hg.kp,bS,ω⟩ ω).qb
     ·rw[RR _ _ _ _ (.inr (by simpa[Qs] using h1))] at bS;refine OD O ?_;subst bS;exact(j4 _ _ ⟨rfl,aS.ext hg,ai.trans hg.kp⟩).qb
 case Cl=>
  refine Rw (α:=Nat) (a+1) (λr=>[(0,.slice (some ⟨g,0,none⟩) n cap),(1,I (a:Int)),(10,I ((r:Nat):Int)),(11,I (((b-1):Nat):Int))]) (λr w'=>Sq w' g n cap D/\Kp (λk=>k=g) w1 w'/\Go.Sort.scanUp (λx=>Qs x D[a]!) D (b-1) r=Go.Sort.scanUp (λx=>Qs x D[a]!) D (b-1) (a+1)/\a+1<=r/\r<=n+1) (λr=>(b-1)+1-r) ?hI ?hround
  case hI=>exact⟨ig,Kp.refl _ _,rfl,Nat.le_refl _,ω⟩
  case hround=>
   rintro r w5 ⟨aS,ai,bS,bG⟩ ih
   try dsimp only
   have hg:=Ext.OT w5;rcases Nat.lt_or_ge ((b-1)) r with hj|hj
   ·refine An$ An$ R8 (λw'=>Ext w5 w') O$ OR 0 O O (hg)$ OR 1 O O (hg)$ Ow 2 O (YF O O) hg$ TK$ OR 3 O O (hg)$ qJ 4 O (hg)$ qJ 5 O (hg)$ qJ 6 O (hg)$ qJ 7 O (hg)$ qJ 8 O (hg)$ qJ 9 O (hg) ?_;refine qJ 10 O (hg)$ qJ 11 O (hg)$ qJ 12 O (hg)$ Ow 13 O (U0 O O) hg$ qE$ Ox O$ OD O ?_;rw[SR _ _ _ _ (.inl hj)] at bS;subst bS;exact(oK _ _ ⟨rfl,aS.ext hg,ai.trans hg.kp⟩).qb
   ·refine An (An (R8 (λw'=>Ext w5 w') O (OR 0 O O (hg) (OR 1 O O (hg) (Ow 2 O (YF O O) hg (TH (OR 3 O O (hg) (OR 4 O O (hg) (OR 5 O O (hg) (Ow 6 O (PK Ph OS O O ω) hg (OR 8 O O (hg) (OR 9 O O (hg) (Ow 10 O (PK Ph OS O O ω) hg ?_)))))))))))));refine qT 7 O (λ_ h=>Pc QA O O ((aS.ext h).get (i:=r) ω)) hg (qT 11 O (λ_ h=>Pc QA O O ((aS.ext h).get (i:=a) ω)) hg (SH 12 O VH O (RO _ _ _) ?_));rintro _ w6 ⟨rfl,rfl⟩;refine⟨hg,?_⟩;refine Ow 13 O (UT O O) hg$ qE$ Q0 O (λh1=>?_)$ λh1=>?_
    ·rw[YR _ _ _ _ hj (by simpa[Qs] using h1)] at bS;refine Ot$ Ou$ R0 O$ PL O$ OK O$ Om ?_;exact(ih (r+1) _ ⟨aS.ext hg,ai.trans hg.kp,bS,ω,ω⟩ ω).qb
    ·rw[SR _ _ _ _ (.inr (by simpa[Qs] using h1))] at bS;refine OD O ?_;subst bS;exact(oK _ _ ⟨rfl,aS.ext hg,ai.trans hg.kp⟩).qb
def zcv {w:World}{g n cap:Nat}{d:Array Nat}(h:Sq w g n cap d)(a b pv:Nat)(Ca:a<=pv)(qR:pv<b)(hb:b<=n)(hn:n<=65536):
  P9 prog 261 [.slice (some ⟨g,0,none⟩) n cap,I (a:Int),I (b:Int),I (pv:Int)] w λu w'=>u=I ((Go.Sort.partitionEqual Qs d a b pv).1:Int)/\Sq w' g n cap (Go.Sort.partitionEqual Qs d a b pv).2/\Kp (λk=>k=g) w w':=by
 refine py (e:=[(0,_),(1,_),(2,_),(3,_)]) func261 O ntmps261 O O$ QB O$ An ?_
 have ay:=Ext.OT w
 refine OW [13,15] (λw'=>Ext w w') (by kernel_rfl) O$ PF 0 O O (ay)$ PF 1 O O (ay)$ PZ (i:=2) O (by kernel_rfl) O O (λ_=>X7 O) (ay)$ PZ (i:=3) O (by kernel_rfl) O O (λ_=>X7 O) (ay)$ PF 4 O O (ay)$ PF 5 O O (ay)$ P5 6 O (PK Ph OS O O ω) ay$ PF 8 O O (ay)$ PF 9 O O (ay)$ P5 10 O (PK Ph OS O O ω) ay$ qL 7 O (λ_ hS=>Pc QA O O ((h.ext hS).get (i:=pv) ω)) ay$ qL 11 O (λ_ hS=>Pc QA O O ((h.ext hS).get (i:=a) ω)) ay$ P5 12 O (PK Ph OS O O ω) ay ?_
 refine Th [13]$ qO 13$ Pt (i:=13) O O (RA OS O O O (h.ext ay).sl ((h.ext ay).ZZ ω)) ?_
 rintro w1a ⟨mY,mZ⟩
 refine⟨trivial,?_⟩
 have fY:=(h.ext ay).set mY
 refine Ow 14 O (PK Ph OS O O ω) trivial$ qO 15$ Pt (i:=15) O O (RA OS O O O fY.sl (fY.ZZ ω)) ?_
 rintro w1 ⟨sK,sL⟩
 refine⟨trivial,?_⟩
 have ig:=fY.set sK
 have kM:Kp (λk=>k=g) w w1:=ay.kp.trans (mZ.trans sL)
 refine qE$ P7 O$ PL O$ OC O$ Ra O$ Qd O$ P8.qb (e:=[(0,_),(1,_),(8,_),(9,_),(10,_)]) ?_
 refine Qt ?_
 unfold Go.Sort.partitionEqual
 replace ig:Sq w1 g n cap (Go.Sort.swp d a pv):=ig
 generalize Go.Sort.swp d a pv=D at ig
 rw[show(a:Int)+1=((a+1:Nat):Int) by omega,show(b:Int)-1=((b-1:Nat):Int) by omega]
 refine Rw (α:=Nat×Nat×Array Nat) ((a+1,b-1,D)) (λy=>[(0,.slice (some ⟨g,0,none⟩) n cap),(1,I (a:Int)),(9,I (y.1:Int)),(10,I (y.2.1:Int))]) (λy w'=>Sq w' g n cap y.2.2/\Kp (λk=>k=g) w1 w'/\Go.Sort.partEqLoop Qs a y.1 y.2.1 y.2.2=Go.Sort.partEqLoop Qs a (a+1) (b-1) D/\(a<y.1/\y.1<=n/\y.2.1<n)) (λy=>y.2.1+1-y.1) ?hI ?hround
 case hI=>exact⟨ig,Kp.refl _ _,rfl,by dsimp only;omega⟩
 case hround =>
  rintro⟨i,j,d4⟩ w4 ⟨dU,aq,cB,bA⟩ ih;dsimp only at dU aq cB bA;rw[Go.Sort.partEqLoop_eq] at cB
  try dsimp only
  refine Ou$ Qt$ RP (λe' w'=>e'=[(0,.slice (some ⟨g,0,none⟩) n cap),(1,I (a:Int)),(9,I (((Go.Sort.scanUp (λx=>!Qs d4[a]! x) d4 j (i)):Nat):Int)),(10,I ((j:Nat):Int))]/\Sq w' g n cap d4/\Kp (λk=>k=g) w4 w') ?jw$ λjw=>?sN
  case jw=>
   rintro e' wC ⟨rfl,Cj,jw⟩;have dt:=Go.Sort.scanUp_ge (λx=>!Qs d4[a]! x) d4 j i;have mt:=Wx (λx=>!Qs d4[a]! x) d4 j i
   generalize Go.Sort.scanUp (λx=>!Qs d4[a]! x) d4 j i=i2 at cB dt mt
   refine Qt$ RP (λe' w'=>e'=[(0,.slice (some ⟨g,0,none⟩) n cap),(1,I (a:Int)),(9,I ((i2:Nat):Int)),(10,I (((Go.Sort.scanDown (λx=>Qs d4[a]! x) d4 i2 (j)):Nat):Int))]/\Sq w' g n cap d4/\Kp (λk=>k=g) wC w') ?fA$ λfA=>?sM
   case fA=>
    rintro e' wD ⟨rfl,j5,fA⟩;have kL:=Go.Sort.scanDown_le (λx=>Qs d4[a]! x) d4 i2 j
    generalize Go.Sort.scanDown (λx=>Qs d4[a]! x) d4 i2 j=j2 at cB kL
    refine An$ Qh O$ Qr O$ Oq$ OH O (λh5=>?_)$ λh5=>?_
    ·rw[if_pos ω] at cB;rw[<-cB];refine OD O$ P7 O$ OK O$ Oo func261 O ?_;exact⟨_,rfl,rfl,j5,kM.trans (aq.trans (jw.trans fA))⟩
    ·rw[if_neg ω] at cB;refine Ot$ An ?_;have bJ:=Ext.OT wD;refine OW [13,15] (λw'=>Ext wD w') (by kernel_rfl) O (PF 0 O O (bJ) (PF 1 O O (bJ) (PZ (i:=2) O (by kernel_rfl) O O (λ_=>X7 O) (bJ) (PZ (i:=3) O (by kernel_rfl) O O (λ_=>X7 O) (bJ) (PF 4 O O (bJ) (PF 5 O O (bJ) (P5 6 O (PK Ph OS O O ω) bJ (PF 8 O O (bJ) (PF 9 O O (bJ) (P5 10 O (PK Ph OS O O ω) bJ (qL 7 O (λ_ h=>Pc QA O O ((j5.ext h).get (i:=j2) ω)) bJ (qL 11 O (λ_ h=>Pc QA O O ((j5.ext h).get (i:=i2) ω)) bJ (P5 12 O (PK Ph OS O O ω) bJ ?_)))))))))))));refine Th [13] (qO 13 (Pt (i:=13) O O (RA OS O O O (j5.ext bJ).sl ((j5.ext bJ).ZZ ω)) ?_));rintro w8a ⟨fZ,g7⟩;refine⟨trivial,?_⟩;have cM:=(j5.ext bJ).set fZ;refine Ow 14 O (PK Ph OS O O ω) trivial (qO 15 (Pt (i:=15) O O (RA OS O O O cM.sl (cM.ZZ ω)) ?_));rintro w8 ⟨jR,jS⟩;refine⟨trivial,?_⟩;have jT:=cM.set jR;have fi:Kp (λk=>k=g) wD w8:=bJ.kp.trans (g7.trans jS);refine qE$ P7 O$ PL O$ OK O$ R0 O$ Ra O$ OK O$ Om ?_;rw[show(j2:Int)-1=((j2-1:Nat):Int) by omega];exact(ih (i2+1,j2-1,Go.Sort.swp d4 i2 j2) _ ⟨jT,(aq.trans (jw.trans fA)).trans fi,cB,by dsimp only;omega⟩ (by dsimp only;omega)).qb
   case sM=>
    refine Rw (α:=Nat) (j) (λr=>[(0,.slice (some ⟨g,0,none⟩) n cap),(1,I (a:Int)),(9,I ((i2:Nat):Int)),(10,I ((r:Nat):Int))]) (λr w'=>Sq w' g n cap d4/\Kp (λk=>k=g) wC w'/\Go.Sort.scanDown (λx=>Qs d4[a]! x) d4 i2 r=Go.Sort.scanDown (λx=>Qs d4[a]! x) d4 i2 (j)/\r<n) (λr=>r) ?hI ?hround
    case hI=>exact⟨Cj,Kp.refl _ _,rfl,ω⟩
    case hround=>
     rintro r w5 ⟨aS,ai,bS,bG⟩ ih
     try dsimp only
     have hg:=Ext.OT w5;rcases Nat.lt_or_ge r (i2) with hj|hj
     ·refine An$ An$ R8 (λw'=>Ext w5 w') O$ OR 0 O O (hg)$ OR 1 O O (hg)$ Ow 2 O (YF O O) hg$ TK$ OR 3 O O (hg)$ qJ 4 O (hg)$ qJ 5 O (hg)$ qJ 6 O (hg)$ qJ 7 O (hg)$ qJ 8 O (hg)$ qJ 9 O (hg) ?_;refine qJ 10 O (hg)$ qJ 11 O (hg)$ qJ 12 O (hg)$ Ow 13 O (U0 O O) hg$ qE$ Ox O$ OD O ?_;rw[RR _ _ _ _ (.inl hj)] at bS;subst bS;exact(fA _ _ ⟨rfl,aS.ext hg,ai.trans hg.kp⟩).qb
     ·refine An (An (R8 (λw'=>Ext w5 w') O (OR 0 O O (hg) (OR 1 O O (hg) (Ow 2 O (YF O O) hg (TH (OR 3 O O (hg) (OR 4 O O (hg) (OR 5 O O (hg) (Ow 6 O (PK Ph OS O O ω) hg (OR 8 O O (hg) (OR 9 O O (hg) (Ow 10 O (PK Ph OS O O ω) hg ?_)))))))))))));refine qT 7 O (λ_ h=>Pc QA O O ((aS.ext h).get (i:=a) ω)) hg (qT 11 O (λ_ h=>Pc QA O O ((aS.ext h).get (i:=r) ω)) hg (SH 12 O VH O (RO _ _ _) ?_));rintro _ w6 ⟨rfl,rfl⟩;refine⟨hg,?_⟩;refine Ow 13 O (UT O O) hg$ qE$ Q0 O (λh1=>?_)$ λh1=>?_
      ·rw[Wj _ _ _ _ hj (by simpa[Qs] using h1) ω] at bS;refine Ot$ Ou$ R0 O$ Ra O$ OK O$ Om ?_;rw[show(r:Int)-1=((r-1:Nat):Int) by omega];exact(ih (r-1) _ ⟨aS.ext hg,ai.trans hg.kp,bS,ω⟩ ω).qb
      ·rw[RR _ _ _ _ (.inr (by simpa[Qs] using h1))] at bS;refine OD O ?_;subst bS;exact(fA _ _ ⟨rfl,aS.ext hg,ai.trans hg.kp⟩).qb
  case sN=>
   refine Rw (α:=Nat) (i) (λr=>[(0,.slice (some ⟨g,0,none⟩) n cap),(1,I (a:Int)),(9,I ((r:Nat):Int)),(10,I ((j:Nat):Int))]) (λr w'=>Sq w' g n cap d4/\Kp (λk=>k=g) w4 w'/\Go.Sort.scanUp (λx=>!Qs d4[a]! x) d4 j r=Go.Sort.scanUp (λx=>!Qs d4[a]! x) d4 j (i)/\i<=r/\r<=n+1) (λr=>j+1-r) ?hI ?hround
   case hI=>exact⟨dU,Kp.refl _ _,rfl,Nat.le_refl _,ω⟩
   case hround=>
    rintro r w5 ⟨aS,ai,bS,bG⟩ ih
    try dsimp only
    have hg:=Ext.OT w5;rcases Nat.lt_or_ge (j) r with hj|hj
    ·refine An$ An$ R8 (λw'=>Ext w5 w') O$ OR 0 O O (hg)$ OR 1 O O (hg)$ Ow 2 O (YF O O) hg$ TK$ OR 3 O O (hg)$ qJ 4 O (hg)$ qJ 5 O (hg)$ qJ 6 O (hg)$ qJ 7 O (hg)$ qJ 8 O (hg)$ qJ 9 O (hg) ?_;refine qJ 10 O (hg)$ qJ 11 O (hg)$ qJ 12 O (hg)$ qJ 13 O (hg)$ Ow 14 O (U0 O O) hg$ qE$ Ox O$ OD O ?_;rw[SR _ _ _ _ (.inl hj)] at bS;subst bS;exact(jw _ _ ⟨rfl,aS.ext hg,ai.trans hg.kp⟩).qb
    ·refine An (An (R8 (λw'=>Ext w5 w') O (OR 0 O O (hg) (OR 1 O O (hg) (Ow 2 O (YF O O) hg (TH (OR 3 O O (hg) (OR 4 O O (hg) (OR 5 O O (hg) (Ow 6 O (PK Ph OS O O ω) hg (OR 8 O O (hg) (OR 9 O O (hg) (Ow 10 O (PK Ph OS O O ω) hg ?_)))))))))))));refine qT 7 O (λ_ h=>Pc QA O O ((aS.ext h).get (i:=a) ω)) hg (qT 11 O (λ_ h=>Pc QA O O ((aS.ext h).get (i:=r) ω)) hg (SH 12 O VH O (RO _ _ _) ?_));rintro _ w6 ⟨rfl,rfl⟩;refine⟨hg,?_⟩;refine Ow 13 O ((z8J O)) hg$ Ow 14 O (UT O O) hg$ qE$ Q0 O (λh1=>?_)$ λh1=>?_
     ·rw[YR _ _ _ _ hj (by simpa[Qs] using h1)] at bS;refine Ot$ Ou$ R0 O$ PL O$ OK O$ Om ?_;exact(ih (r+1) _ ⟨aS.ext hg,ai.trans hg.kp,bS,ω,ω⟩ ω).qb
     ·rw[SR _ _ _ _ (.inr (by simpa[Qs] using h1))] at bS;refine OD O ?_;subst bS;exact(jw _ _ ⟨rfl,aS.ext hg,ai.trans hg.kp⟩).qb
section
variable (d:Array Nat)(b i:Nat)
theorem z1w (h:i<b)(hp:Qs d[i]! d[i-1]! =false):Go.Sort.scanSorted Qs d b i=Go.Sort.scanSorted Qs d b (i+1):=by
 conv=>lhs;rw[Go.Sort.scanSorted]
 rw[if_pos]
 rw[Bool.and_eq_true];exact⟨by simpa using h,by rw[hp];rfl⟩
theorem VQ (h:b<=i\/Qs d[i]! d[i-1]! =true):Go.Sort.scanSorted Qs d b i=i:=by
 rw[Go.Sort.scanSorted,if_neg]
 intro hc
 rw[Bool.and_eq_true] at hc
 rcases h with h| h
 ·have:=of_decide_eq_true hc.1;omega
 ·rw[h] at hc;cases hc.2
end
theorem z7C (d:Array Nat)(a b:Nat)(h:b-a<50):Go.Sort.partialInsertionSort Qs d a b=(d,decide (Go.Sort.scanSorted Qs d b (a+1)=b)):=by
 unfold Go.Sort.partialInsertionSort
 rw[Go.Sort.partialIns]
 by_cases e:Go.Sort.scanSorted Qs d b (a+1)=b
 ·simp only[e,if_pos,decide_true]
 ·simp only[if_neg e,if_pos h,decide_eq_false e]
def zaV {w:World}{g n cap:Nat}{d:Array Nat}(h:Sq w g n cap d)(a b:Nat)(jr:a<b)(hb:b<=n)(hn:n<50):
  P9 prog 259 [.slice (some ⟨g,0,none⟩) n cap,I (a:Int),I (b:Int)] w λu w'=>u= .bool (Go.Sort.partialInsertionSort Qs d a b).2/\Sq w' g n cap d/\Kp (λk=>k=g) w w':=by
 rw[z7C d a b ω]
 dsimp only
 refine py (e:=[(0,_),(1,_),(2,_)]) func259 O ntmps259 O O$ qN O$ QO O$ PL O$ OK O$ An$ QB O$ Ou ?_
 rw[show(a:Int)+1=((a+1:Nat):Int) by omega]
 refine Rw (α:=Unit) (()) (λ_=>[(0,.slice (some ⟨g,0,none⟩) n cap),(1,I (a:Int)),(2,I (b:Int)),(7,I ((a+1:Nat):Int)),(8,I 0)]) (λy w'=>w'=w) (λy=>0) ?hI ?hround
 case hI=>rfl
 case hround =>
  rintro _ w4 rfl ih0
  try dsimp only
  refine Pz O$ Qv O$ Oq$ OH O (λh0=>?_)$ λh0=>?_
  ·refine Ot$ Qt$ Qt$ RP (λe' w'=>e'=[(0,.slice (some ⟨g,0,none⟩) n cap),(1,I (a:Int)),(2,I (b:Int)),(7,I (Go.Sort.scanSorted Qs d b (a+1):Int)),(8,I 0)]/\Sq w' g n cap d/\Kp (λk=>k=g) w4 w') ?eL$ λeL=>?Cm
   case eL=>
    rintro e' ws ⟨rfl,Hz,eL⟩;refine An$ Qh O$ QS O$ Oq$ OH O (λh1=>?_)$ λh1=>?_
    ·have vA:Go.Sort.scanSorted Qs d b (a+1)=b:=by omega
     rw[decide_eq_true vA];refine QB O$ Oo func259 O ?_;exact⟨_,rfl,rfl,Hz,eL⟩
    ·have vA:¬Go.Sort.scanSorted Qs d b (a+1)=b:=by omega
     rw[decide_eq_false vA];refine Ot$ An$ Qh O$ Ra O$ Qv O$ Oq$ OH O (λh2=>?_)$ λh2=>?_
     ·refine QB O$ Oo func259 O ?_;exact⟨_,rfl,rfl,Hz,eL⟩
     ·omega
   case Cm=>
    refine Rw (α:=Nat) (a+1) (λr=>[(0,.slice (some ⟨g,0,none⟩) n cap),(1,I (a:Int)),(2,I (b:Int)),(7,I (r:Int)),(8,I 0)]) (λr w'=>Sq w' g n cap d/\Kp (λk=>k=g) w4 w'/\Go.Sort.scanSorted Qs d b r=Go.Sort.scanSorted Qs d b (a+1)/\a<r/\r<=b) (λr=>b-r) ?hI ?hround
    case hI=>exact⟨h,Kp.refl _ _,rfl,Nat.lt_succ_self a,jr⟩
    case hround=>
     rintro r w5 ⟨aS,ai,bS,bG,HA⟩ ih
     try dsimp only
     have hg:=Ext.OT w5;rcases Nat.lt_or_ge r b with hj|hj
     ·refine An (An (R8 (λw'=>Ext w5 w') O (OR 0 O O (hg) (OR 1 O O (hg) (Ow 2 O (ylt O O) hg (TH (OR 3 O O (hg) (OR 4 O O (hg) (OR 5 O O (hg) (Ow 6 O (PK Ph OS O O ω) hg (OR 8 O O (hg) (OR 9 O O (hg) (Ow 10 O (X8 O O ω) hg ?_)))))))))))));rw[show(r:Int)-1=((r-1:Nat):Int) by omega];refine qT 7 O (λ_ h=>Pc QA O O ((aS.ext h).get (i:=r) ω)) hg (Ow 11 O (PK Ph OS O O ω) hg (qT 12 O (λ_ h=>Pc QA O O ((aS.ext h).get (i:=r-1) ω)) hg (SH 13 O VH O (RO _ _ _) ?_)));rintro _ w6 ⟨rfl,rfl⟩;refine⟨hg,?_⟩;refine Ow 14 O ((z8J O)) hg$ Ow 15 O (UT O O) hg$ qE$ Q0 O (λh3=>?_)$ λh3=>?_
      ·rw[z1w _ _ _ hj (by simpa[Qs] using h3)] at bS;refine Ot$ Ou$ R0 O$ PL O$ OK O$ Om ?_;exact(ih (r+1) _ ⟨aS.ext hg,ai.trans hg.kp,bS,ω,ω⟩ ω).qb
      ·rw[VQ _ _ _ (.inr (by simpa[Qs] using h3))] at bS;refine OD O ?_;subst bS;exact(eL _ _ ⟨rfl,aS.ext hg,ai.trans hg.kp⟩).qb
     ·refine An$ An$ R8 (λw'=>Ext w5 w') O$ OR 0 O O (hg)$ OR 1 O O (hg)$ Ow 2 O (ylt O O) hg$ TK$ OR 3 O O (hg)$ qJ 4 O (hg)$ qJ 5 O (hg)$ qJ 6 O (hg)$ qJ 7 O (hg)$ qJ 8 O (hg)$ qJ 9 O (hg) ?_;refine qJ 10 O (hg)$ qJ 11 O (hg)$ qJ 12 O (hg)$ qJ 13 O (hg)$ qJ 14 O (hg)$ Ow 15 O (U0 O O) hg$ qE$ Ox O$ OD O ?_;rw[VQ _ _ _ (.inl hj)] at bS;subst bS;exact(eL _ _ ⟨rfl,aS.ext hg,ai.trans hg.kp⟩).qb
  ·exact absurd ψ h0
def Xs {w:World}{g n cap sb s:Nat}{d:Array Nat}(h:Sq w g n cap d)(hB:OE w sb [I (s:Int)] 3)(hs:s<=1000)(x y:Nat)(hx:x<n)(hy:y<n)(qU:sb≠g):
  P9 prog 270 [.slice (some ⟨g,0,none⟩) n cap,I (x:Int),I (y:Int),ptr sb 0] w λu w'=>∃x' y' s':Nat,u= .tuple #[I (x':Int),I (y':Int)]/\((x'=x/\y'=y)\/(x'=y/\y'=x))/\s'<=s+1/\OE w' sb [I (s':Int)] 3/\Sq w' g n cap d/\Kp (λk=>k=sb) w w':=by
 refine py (e:=[(0,_),(1,_),(2,_),(3,_)]) func270 O ntmps270 O O ?_
 have hg:=Ext.OT w
 refine qN O$ Qd O$ An$ An$ R8 (λw'=>Ext w w') O$ OR 0 O O (hg)$ OR 1 O O (hg)$ Ow 2 O (PK Ph OS O O ω) hg$ OR 4 O O (hg)$ OR 5 O O (hg)$ Ow 6 O (PK Ph OS O O ω) hg$ qT 3 O (λ_ hS=>Pc QA O O ((h.ext hS).get (i:=y) ω)) hg$ qT 7 O (λ_ hS=>Pc QA O O ((h.ext hS).get (i:=x) ω)) hg$ SH 8 O VH O (RO _ _ _) ?_
 rintro _ w6 ⟨rfl,rfl⟩
 refine⟨hg,?_⟩
 refine qE$ Q0 O (λh1=>?_)$ λh1=>?_
 ·have ak:=hg.On hB;refine P7 O (Pb O (qV (OB U3 O O ak O) (PL O (Pb O (OJ O (Qw PH O O O ak ξ) ?_)))));rintro w3 ⟨ao,ar⟩;refine qM O$ OX O$ Qd O$ Oo func270 O ?_;exact⟨_,rfl,y,x,s+1,rfl,.inr ⟨rfl,rfl⟩,Nat.le_refl _,ao,(h.ext hg).kp ar (λe=>qU e.symm),hg.kp.trans ar⟩
 ·refine Ot$ Qh O$ Qd O$ Oo func270 O ?_;exact⟨_,rfl,x,y,s,rfl,.inl ⟨rfl,rfl⟩,Nat.le_succ _,hg.On hB,h.ext hg,hg.kp⟩
def z5e {w:World}{g n cap sb s:Nat}{d:Array Nat}(h:Sq w g n cap d)(hB:OE w sb [I (s:Int)] 3)(hs:s<=500)(x y z:Nat)(hx:x<n)(hy:y<n)(hz:z<n)(qU:sb≠g):
  P9 prog 268 [.slice (some ⟨g,0,none⟩) n cap,I (x:Int),I (y:Int),I (z:Int),ptr sb 0] w λu w'=>∃x' s':Nat,u=I (x':Int)/\(x'=x\/x'=y\/x'=z)/\s'<=s+3/\OE w' sb [I (s':Int)] 3/\Sq w' g n cap d/\Kp (λk=>k=sb) w w':=by
 refine py (e:=[(0,_),(1,_),(2,_),(3,_),(4,_)]) func268 O ntmps268 O O$ qN O$ QL O$ OX O$ OX O$ OQ zaY O (Xs h hB ω x y hx hy qU) ?_
 rintro _ w1 ⟨x1,y1,s1,rfl,JA,dN,ah,kN,aG⟩
 refine OC O$ Sw O$ Si O$ QL O$ OX O$ OX O$ OQ zaY O (Xs kN ah ω y1 z ω hz qU) ?_
 rintro _ w2 ⟨y2,z2,s2,rfl,JB,dg,ak,pi,am⟩
 refine OC O$ Sw O$ Si O$ QL O$ OX O$ OX O$ OQ zaY O (Xs pi ak ω x1 y2 ω ω qU) ?_
 rintro _ w3 ⟨x3,y3,s3,rfl,JC,oN,ao,vB,ar⟩
 refine OC O$ Sw O$ Qd O$ P8.qb (e:=[(2,_),(10,_)]) ?_
 refine P7 O$ OK O$ Oo func268 O ?_
 exact⟨_,rfl,y3,s3,rfl,ω,ω,ao,vB,(aG.trans am).trans ar⟩
def z86 {w:World}{g n cap:Nat}{d:Array Nat}(h:Sq w g n cap d)(a b:Nat)(jr:a+12<b)(hb:b<=n)(hn:n<50):
  P9 prog 257 [.slice (some ⟨g,0,none⟩) n cap,I (a:Int),I (b:Int)] w λu w'=>∃p t:Nat,u= .tuple #[I (p:Int),I (t:Int)]/\a<=p/\p<b/\t<=2/\Sq w' g n cap d/\Ext w w':=by
 have JD:g<w.heap.size:=h.sl.lt O
 refine py (e:=[(0,_),(1,_),(2,_)]) func257 O ntmps257 O O$ qN O$ Si O$ QL O$ OX O$ Ra O$ QL O ?_
 rw[show(b:Int)-(a:Int)=((b-a:Nat):Int) by omega]
 refine Oy O O (Rq (cs:=[_]) PH O) ?_
 rintro _ w1 ⟨sb,rfl,qU,ad,ah⟩
 replace ah:OE w1 sb [I ((0:Nat):Int)] 3:=ah
 refine qM O$ OX O$ qV (Wq O O ω)$ qV (X5 O O ω)$ PL O$ QL O$ OX O$ qV (Wq O O ω)$ qV (X5 O O ω)$ PL O$ QL O$ OX O$ qV (Wq O O ω)$ qV (X5 O O ω) ?_
 refine PL O$ OK O$ P8.qb (e:=[(0,_),(6,_),(7,_),(8,_),(9,_),(10,_),(11,_),(12,_)]) ?_
 refine Pz O$ TE O$ Oq ?_
 rw[show(a:Int)+((b-a:Nat):Int) / 4*1=((a+(b-a) / 4*1:Nat):Int) by omega,show(a:Int)+((b-a:Nat):Int) / 4*2=((a+(b-a) / 4*2:Nat):Int) by omega,show(a:Int)+((b-a:Nat):Int) / 4*3=((a+(b-a) / 4*3:Nat):Int) by omega]
 refine OH O (λh0=>?_)$ λh0=>?_
 ·refine Pz O$ TE O$ Oq$ OH O (λh1=>?_)$ λh1=>?_
  ·omega
  ·refine Ot (Oz O (OX O (OX O (OQ zgq O (z5e (h.ext ad) ah ω (a+(b-a) / 4*1) (a+(b-a) / 4*2) (a+(b-a) / 4*3) ω ω ω ω) ?_))));rintro _ w2 ⟨p,s,rfl,hp,hs,ak,pi,am⟩;have ae:Ext w w2:=ad.It am (λk e=>by omega);refine QL O$ qV (OB U3 O O ak O)$ Oq$ Ou$ qN O$ QS O$ OK O$ OH O (λh2=>?_)$ λh2=>?_
   ·refine P7 O$ Qd O$ Oo func257 O ?_;exact⟨_,rfl,p,1,rfl,ω,ω,ω,pi,ae⟩
   ·refine qN O$ QS O$ OK O$ OH O (λh3=>?_)$ λh3=>?_
    ·refine P7 O$ Qd O$ Oo func257 O ?_;exact⟨_,rfl,p,2,rfl,ω,ω,ω,pi,ae⟩
    ·refine P7 O$ Qd O$ Oo func257 O ?_;exact⟨_,rfl,p,0,rfl,ω,ω,ω,pi,ae⟩
 ·omega
def z9a {w:World}{xb r:Nat}(hB:OE w xb [ON r] 383)(hr:r<18446744073709551616):
  P9 prog 266 [ptr xb 0] w λu w'=>∃r':Nat,u=ON r'/\r'<18446744073709551616/\OE w' xb [ON r'] 383/\Kp (λk=>k=xb) w w':=by
 refine py (e:=[(0,_)]) func266 O ntmps266 O O ?_
 have bc:=Ext.OT w
 refine QB O$ An$ OW [9] (λw'=>Ext w w') (by kernel_rfl) O$ PF 0 O O (bc)$ P5 1 O (Q8 O) bc$ qL 2 O (λ_ h=>OB z3G O O (h.On hB) O) bc$ PF 3 O O (bc)$ P5 4 O (Q8 O) bc$ qL 5 O (λ_ h=>OB z3G O O (h.On hB) O) bc$ P5 6 O (R6 13 8192 O O ψ O) bc$ P5 7 O (z1n O O ω ω) bc$ P5 8 O (Q8 O) bc ?_
 generalize iN:r^^^r*8192%18446744073709551616=r1
 have cW:r1<18446744073709551616:=by rw[<-iN];exact Nat.xor_lt_two_pow (n:=64) ω ω
 refine Th [9]$ qO 9$ Pt (i:=9) O O (Qw z4x O O O (bc.On hB) ξ) ?_
 rintro w1 ⟨ah,aG⟩
 refine⟨trivial,?_⟩
 replace ah:OE w1 xb [ON r1] 383:=ah
 have aa:=Ext.OT w1
 refine qE$ An$ OW [9] (λw'=>Ext w1 w') (by kernel_rfl) O$ PF 0 O O (aa)$ P5 1 O (Q8 O) aa$ qL 2 O (λ_ h=>OB z3G O O (h.On ah) O) aa$ PF 3 O O (aa)$ P5 4 O (Q8 O) aa$ qL 5 O (λ_ h=>OB z3G O O (h.On ah) O) aa$ P5 6 O (Uk 7 128 O O ψ O) aa$ P5 7 O (z1n O O ω ω) aa$ P5 8 O (Q8 O) aa ?_
 generalize gN:r1^^^r1 / 128=r2
 have da:r2<18446744073709551616:=by rw[<-gN];exact Nat.xor_lt_two_pow (n:=64) ω ω
 refine Th [9]$ qO 9$ Pt (i:=9) O O (Qw z4x O O O (aa.On ah) ξ) ?_
 rintro w2 ⟨ak,am⟩
 refine⟨trivial,?_⟩
 replace ak:OE w2 xb [ON r2] 383:=ak
 have ag:=Ext.OT w2
 refine qE$ An$ OW [9] (λw'=>Ext w2 w') (by kernel_rfl) O$ PF 0 O O (ag)$ P5 1 O (Q8 O) ag$ qL 2 O (λ_ h=>OB z3G O O (h.On ak) O) ag$ PF 3 O O (ag)$ P5 4 O (Q8 O) ag$ qL 5 O (λ_ h=>OB z3G O O (h.On ak) O) ag$ P5 6 O (R6 17 131072 O O ψ O) ag$ P5 7 O (z1n O O ω ω) ag$ P5 8 O (Q8 O) ag ?_
 generalize JE:r2^^^r2*131072%18446744073709551616=r3
 have cb:r3<18446744073709551616:=by rw[<-JE];exact Nat.xor_lt_two_pow (n:=64) ω ω
 refine Th [9]$ qO 9$ Pt (i:=9) O O (Qw z4x O O O (ag.On ak) ξ) ?_
 rintro w3 ⟨ao,ar⟩
 refine⟨trivial,?_⟩
 replace ao:OE w3 xb [ON r3] 383:=ao
 refine qE$ P8.qb (e:=[(0,_),(2,_)]) ?_
 refine P7 O$ Pb O$ qV (OB z3G O O ao O)$ OK O$ Oo func266 O ?_
 exact⟨_,rfl,r3,rfl,cb,ao,(bc.kp.trans aG).trans ((aa.kp.trans am).trans (ag.kp.trans ar))⟩
def z7h (x:Nat)(hx:x<18446744073709551616)(w:World):P9 prog 246 [ON x] w λv w'=>v=I (PD x:Int)/\w'=w:=by
 refine py (e:=[(0,_)]) func246 O ntmps246 O O$ QB O$ An$ T2 O$ P7 O$ OQ z1J O (TZ x hx w) ?_
 rintro _ w ⟨rfl,rfl⟩
 refine OK O$ Oo func246 O ?_
 exact⟨_,rfl,rfl,rfl⟩
def zby (x:Nat)(hx:x<4294967296)(w:World):P9 prog 265 [I (x:Int)] w λv w'=>v=ON (2^PD x)/\w'=w:=by
 have hl:PD x<=32:=QW ω
 have hp:2^PD x<=2^32:=Nat.pow_le_pow_right ψ hl
 refine py (e:=[(0,_)]) func265 O ntmps265 O O$ qN O$ QO O$ qV ((PO O U3 ze4 ω))$ OQ zdA O (z7h x ω w) ?_
 rintro _ w ⟨rfl,rfl⟩
 refine qV (R6 (PD x) (2^PD x) O O ω O) ?_
 rw[show 1*2^PD x%18446744073709551616=2^PD x by rw[Nat.one_mul];exact Nat.mod_eq_of_lt ω]
 refine OK O$ Oo func265 O ?_
 exact⟨_,rfl,rfl,rfl⟩
open Go.Sort in
def zbl {d:Array Nat}{a b i j:Nat}(h1:a<=i)(h2:i<b)(h3:a<=j)(h4:j<b)(h5:b<=d.size):PermIn a b d (swp d i j):=swp_permIn d a b i j h1 h2 h3 h4 h5
def z9P {w:World}{g n cap:Nat}{d:Array Nat}(h:Sq w g n cap d)(a b:Nat)(jr:a+12<b)(hb:b<=n)(hn:n<50):
  P9 prog 256 [.slice (some ⟨g,0,none⟩) n cap,I (a:Int),I (b:Int)] w λu w'=>u= .tuple #[]/\∃d',Go.Sort.PermIn a b d d'/\Sq w' g n cap d'/\Kp (λk=>k=g) w w':=by
 have JD:g<w.heap.size:=h.sl.lt O
 have Cn:2^(PD (b-a)-1)<=b-a:=z0c ω
 have sO:2^PD (b-a)<=2*(b-a):=by
  have sP:PD (b-a)≠0:=λe=>by have:=WA (v:=b-a);rw[e] at this;omega
  rw[show PD (b-a)=PD (b-a)-1+1 by omega,Nat.pow_succ];omega
 have BN:1<=2^PD (b-a):=Nat.one_le_two_pow
 refine py (e:=[(0,_),(1,_),(2,_)]) func256 O ntmps256 O O$ Qh O$ Ra O ?_
 rw[show(b:Int)-(a:Int)=((b-a:Nat):Int) by omega]
 refine QO O$ TE O$ Oq$ OH O (λh0=>?_)$ λh0=>?_
 ·refine P7 O (qV ((PO O U3 z3G ω)) (Oy O O (Rq (cs:=[_]) z4x O) ?_));rintro _ w1 ⟨xb,rfl,Nv,ad,ah⟩;refine OJ O (Qw z4x O O O ah ξ) ?_;rintro w2 ⟨ak,am⟩;have ae:Ext w w2:=ad.It am (λk e=>by omega);replace ak:OE w2 xb [ON (b-a)] 383:=ak;refine qM O (OC O (OQ zfz O (zby (b-a) ω _) ?_));rintro _ w2 ⟨rfl,rfl⟩
  generalize 2^PD (b-a)=M at sO BN
  refine QL O (OX O (qV (Wq O O ω) (qV (X5 O O ω) (PL O (Ra O (OK O (Ou ?_)))))));rw[show(a:Int)+((b-a:Nat):Int) / 4*2-1=((a+(b-a) / 4*2-1:Nat):Int) by omega];refine Rw (α:=Nat×Array Nat×Nat) ((a+(b-a) / 4*2-1,d,b-a)) (λy=>[(0,.slice (some ⟨g,0,none⟩) n cap),(1,I (a:Int)),(6,I ((b-a:Nat):Int)),(7,ptr xb 0),(8,ON M),(9,I (y.1:Int))]) (λy w'=>Sq w' g n cap y.2.1/\OE w' xb [ON y.2.2] 383/\y.2.2<18446744073709551616/\Go.Sort.PermIn a b d y.2.1/\Kp (λk=>k=g) w w'/\a<=y.1) (λy=>a+b+2-y.1) ?hI ?hround
  case hI=>exact⟨h.ext ae,ak,by dsimp only;omega,Go.Sort.permIn_refl _ _ _,ae.kp,by dsimp only;omega⟩
  case hround=>
   rintro⟨idx,d4,r⟩ w4 ⟨dU,aH,bA,jx,aq,oJ⟩ ih;dsimp only at dU aH bA jx aq oJ;have cH:=dU.size
   try dsimp only
   refine An$ Qh O$ OC O$ qV (Wq O O ω)$ qV (X5 O O ω)$ PL O$ PL O$ zle O$ Oq$ OH O (λh1=>?_)$ λh1=>?_
   ·have pj:idx<b:=by omega
    refine Ot$ Qt$ qN O$ OQ zfq O (z9a aH bA) ?_;rintro _ w5 ⟨r5,rfl,bG,aD,ai⟩;have aS:=dU.kp ai (λe=>by omega);have cX:Kp (λk=>k=g) w w5:=aq.It ai (λk e=> .inl ω);refine OC O (qV (Wh (m:=M) (n:=1) O O O (by show M<2^64;omega) ω) ?_);refine qV (Ul O O ω ω) ?_;have Co:r5&&&(M-1)<=M-1:=Nat.and_le_right
    generalize r5&&&(M-1)=q at Co
    refine qV (Ps O ze4 U3 ω)$ OK O$ An$ Qh O$ TE O$ Oq$ Pw (λe' w'=>∃o:Nat,e'=[(0,.slice (some ⟨g,0,none⟩) n cap),(1,I (a:Int)),(6,I ((b-a:Nat):Int)),(7,ptr xb 0),(8,ON M),(9,I (idx:Int)),(10,I (o:Int))]/\w'=w5/\o<b-a) ?Cp$ λCp=>?Cq
    case Cp=>
     rintro e' w5' ⟨o,rfl,rfl,ho⟩;have ay:=Ext.OT w5';refine OW [17,19] (λw'=>Ext w5' w') (by kernel_rfl) O (PF 0 O O (ay) (PF 1 O O (ay) (PZ (i:=2) O (by kernel_rfl) O O (λ_=>X7 O) (ay) (PZ (i:=3) O (by kernel_rfl) O O (λ_=>X7 O) (ay) (PZ (i:=4) O (by kernel_rfl) O O (λ_=>X7 O) (ay) (PZ (i:=5) O (by kernel_rfl) O O (λ_=>Uw O O ω) (ay) (PF 6 O O (ay) (PF 7 O O (ay) (PF 8 O O (ay) (P5 9 O (Uw O O ω) ay (P5 10 O (PK Ph OS O O ω) ay (PF 12 O O (ay) (PF 13 O O (ay) ?_)))))))))))));refine P5 14 O (PK Ph OS O O ω) ay (qL 11 O (λ_ h=>Pc QA O O ((aS.ext h).get (i:=a+o) ω)) ay (qL 15 O (λ_ h=>Pc QA O O ((aS.ext h).get (i:=idx) ω)) ay (P5 16 O (PK Ph OS O O ω) ay (Th [17] (qO 17 (Pt (i:=17) O O (RA OS O O O (aS.ext ay).sl ((aS.ext ay).ZZ ω)) ?_))))));rintro w8a ⟨fZ,g7⟩;refine⟨trivial,?_⟩;have cM:=(aS.ext ay).set fZ;refine Ow 18 O (PK Ph OS O O ω) trivial (qO 19 (Pt (i:=19) O O (RA OS O O O cM.sl (cM.ZZ ω)) ?_));rintro w8 ⟨jR,jS⟩;refine⟨trivial,?_⟩;have jT:=cM.set jR;have fi:Kp (λk=>k=g) w5' w8:=ay.kp.trans (g7.trans jS);refine qE$ Om$ R0 O$ PL O$ OK O ?_;rw[show(idx:Int)+1=((idx+1:Nat):Int) by omega];exact(ih (idx+1,Go.Sort.swp d4 idx (a+o),r5) _ ⟨jT,fi.On aD ω,bG,Go.Sort.permIn_trans _ _ _ a b jx (zbl oJ pj ω ω ω),cX.trans fi,by dsimp only;omega⟩ (by dsimp only;omega)).qb
    case Cq=>
     refine OH O (λh2=>?_)$ λh2=>?_
     ·refine Oz O$ OX O$ Ra O$ OK O ?_;rw[show(q:Int)-((b-a:Nat):Int)=((q-(b-a):Nat):Int) by omega];exact(Cp _ _ ⟨q-(b-a),rfl,rfl,ω⟩).qb
     ·refine Ot ?_;exact(Cp _ _ ⟨q,rfl,rfl,ω⟩).qb
   ·refine OD O$ PQ func256 O ?_;exact⟨_,rfl,rfl,d4,jx,dU,aq⟩
 ·omega
open Go.Sort in
def zdO (g n cap m:Nat):Prop:=∀(w:World) (d:Array Nat),Sq w g n cap d->∀(a b limit:Nat),b-a<m->a<=b->b<=n->limit<=64->Below Qs a b d->
 P9 prog 245 [.slice (some ⟨g,0,none⟩) n cap,I (a:Int),I (b:Int),I (limit:Int)] w λu w'=>u= .tuple #[]/\∃d',Sq w' g n cap d'/\PermIn a b d d'/\SortedIn Qs a b d'/\Kp (λk=>k=g) w w'
open Go.Sort in
structure z6e (w:World)(g n cap a b:Nat)(d:Array Nat)(a1 b1 l1:Nat)(d1:Array Nat)(w':World):Prop where
 arr:Sq w' g n cap d1
 kp:Kp (λk=>k=g) w w'
 ab:a1<=b1
 bn:b1<=n
 sm:b1-a1<=b-a
 lim:l1<=64
 bel:Below Qs a1 b1 d1
 fin:∀R,PermIn a1 b1 d1 R->SortedIn Qs a1 b1 R->PermIn a b d R/\SortedIn Qs a b R
open Go.Sort in
def z6e.perm {w:World}{g n cap a b:Nat}{d:Array Nat}{a1 b1 l1 l2:Nat}{d1 d2:Array Nat}{w1 w2:World}(h:z6e w g n cap a b d a1 b1 l1 d1 w1)(hA:Sq w2 g n cap d2)(hk:Kp (λk=>k=g) w1 w2)(hp:PermIn a1 b1 d1 d2)(hl:l2<=64):z6e w g n cap a b d a1 b1 l2 d2 w2:=
 ⟨hA,h.kp.trans hk,h.ab,h.bn,h.sm,hl,h.bel.perm (by rw[h.arr.size];exact h.bn) hp,λR h1 h2=>h.fin R (permIn_trans _ _ _ _ _ hp h1) h2⟩
open Go.Sort in
def z9I {g n cap m:Nat}(dZ:zdO g n cap m){w:World}{d:Array Nat}(h:Sq w g n cap d)(a b limit:Nat)(hm:b-a<=m)(jr:a<=b)(hb:b<=n)(hn:n<50)(hl:limit<=64)(hB:Below Qs a b d):
  P9 prog 245 [.slice (some ⟨g,0,none⟩) n cap,I (a:Int),I (b:Int),I (limit:Int)] w λu w'=>u= .tuple #[]/\∃d',Sq w' g n cap d'/\PermIn a b d d'/\SortedIn Qs a b d'/\Kp (λk=>k=g) w w':=by
 refine py (e:=[(0,_),(1,_),(2,_),(3,_)]) func245 O ntmps245 O O$ qN O$ QL O$ OK O$ Ou$ Rw (α:=Nat×Nat×Nat×Bool×Bool×Array Nat) ((a,b,limit,true,true,d)) (λy=>[(0,.slice (some ⟨g,0,none⟩) n cap),(1,I (y.1:Int)),(2,I (y.2.1:Int)),(3,I (y.2.2.1:Int)),(8,.bool y.2.2.2.1),(9,.bool y.2.2.2.2.1)]) (λy w'=>z6e w g n cap a b d y.1 y.2.1 y.2.2.1 y.2.2.2.2.2 w') (λy=>y.2.1-y.1) ?hI ?hround
 case hI=>exact⟨h,Kp.refl _ _,jr,hb,Nat.le_refl _,hl,hB,λR h1 h2=>⟨h1,h2⟩⟩
 case hround =>
  rintro⟨a1,b1,l1,wb,wp,d1⟩ w4 hI ih;dsimp only at hI;have pn:=hI.ab;have g8:=hI.bn;have JF:=hI.sm;have HB:=hI.lim;have wQ:=hI.arr.size
  try dsimp only
  refine Ou$ Qh O$ Ra O$ OK O$ An$ qN O ?_;rw[show(b1:Int)-(a1:Int)=((b1-a1:Nat):Int) by omega];refine OC O$ zle O$ Oq$ OH O (λh0=>?_)$ λh0=>?_
  ·obtain⟨r1,r2⟩:=insertionSort_holds Y9 d1 a1 b1 pn ω;obtain⟨q1,q2⟩:=hI.fin _ r1 r2;refine Qh O (OC O (OQ zhc O (z1B hI.arr a1 b1 pn g8 ω) ?_));rintro _ w5 ⟨rfl,aS,ai⟩;refine Oq$ Oo func245 O ?_;exact⟨_,rfl,rfl,_,aS,q1,q2,hI.kp.trans ai⟩
  ·refine Ot$ Pz O$ QS O$ Oq$ OH O (λh1 => ?_)$ λh1 => ?_
   ·obtain⟨r1,r2⟩:=heapSort_holds Y9 d1 a1 b1 pn ω;obtain⟨q1,q2⟩:=hI.fin _ r1 r2;refine Qh O (OC O (OQ zgA O (z9K hI.arr a1 b1 ω g8 ω) ?_));rintro _ w5 ⟨rfl,aS,ai⟩;refine Oq$ Oo func245 O ?_;exact⟨_,rfl,rfl,_,aS,q1,q2,hI.kp.trans ai⟩
   ·refine Ot$ Pz O$ qV ((S1 O))$ Oq$ Pw (λe' w' => ∃ l5 d5, e' = [(0, .slice (some ⟨g, 0, none⟩) n cap), (1, I (a1 : Int)), (2, I (b1 : Int)), (3, I ((l5 : Nat) : Int)), (8, .bool wb), (9, .bool wp), (10, I ((b1 - a1 : Nat) : Int))] /\ z6e w g n cap a b d a1 b1 l5 d5 w') ?cS$ λcS => ?fQ
    case cS =>
     rintro e' w5 ⟨l5,d5,rfl,lE⟩;have qW:=lE.lim;have Cr:=lE.arr.size;have JG:g<w5.heap.size:=lE.arr.sl.lt O;refine Qh O (OC O (OQ zfx O (z86 lE.arr a1 b1 ω g8 hn) ?_));rintro _ w6 ⟨p6,t6,rfl,JH,sQ,wR,pf,aQ⟩;have po:=lE.perm pf aQ.kp (permIn_refl _ _ _) qW;refine OC O$ Sw O$ Qd O$ Pz O$ QS O$ Oq$ Pw (λe' w'=>∃d7 p7 t7,e'=[(0,.slice (some ⟨g,0,none⟩) n cap),(1,I (a1:Int)),(2,I (b1:Int)),(3,I (l5:Int)),(8,.bool wb),(9,.bool wp),(10,I ((b1-a1:Nat):Int)),(11,I ((p7:Nat):Int)),(12,I ((t7:Nat):Int))]/\z6e w g n cap a b d a1 b1 l5 d7 w'/\a1<=p7/\p7<b1) ?au$ λau=>?dX
     case au =>
      rintro e' w7 ⟨d7,p7,t7,rfl,lF,AR,pp⟩;have JI:=lF.arr.size;refine An$ An$ Pw (λe' w'=>∃s,e'=[(0,.slice (some ⟨g,0,none⟩) n cap),(1,I (a1:Int)),(2,I (b1:Int)),(3,I (l5:Int)),(8,.bool wb),(9,.bool wp),(10,I ((b1-a1:Nat):Int)),(11,I (p7:Int)),(68,.bool s)]/\w'=w7) ?bX$ λbX=>?na
      case bX=>
       rintro e' w8 ⟨s,rfl,rfl⟩;refine Pw (λe' w'=>e'=[(0,.slice (some ⟨g,0,none⟩) n cap),(1,I (a1:Int)),(2,I (b1:Int)),(3,I (l5:Int)),(8,.bool wb),(9,.bool wp),(10,I ((b1-a1:Nat):Int)),(11,I (p7:Int))]/\z6e w g n cap a b d a1 b1 l5 d7 w') ?jy$ λjy=>?sT
       case jy=>
        rintro e' w9 ⟨rfl,jz⟩;have qX:=jz.arr;have hg:=Ext.OT w9;refine An$ An$ Pw (λe' w'=>∃s,e'=[(0,.slice (some ⟨g,0,none⟩) n cap),(1,I (a1:Int)),(2,I (b1:Int)),(3,I (l5:Int)),(8,.bool wb),(9,.bool wp),(10,I ((b1-a1:Nat):Int)),(11,I (p7:Int)),(87,.bool s)]/\w'=w9.drew/\(s=true->0<a1/\Qs d7[a1-1]! d7[p7]! =false)) ?sA$ λsA=>?sB
        case sA=>
         rintro e' w10 ⟨s,rfl,rfl,hs⟩;have lG:=qX.ext hg;have aA:Kp (λk=>k=g) w w9.drew:=jz.kp.trans hg.kp;refine Q0 O (λh6=>?_)$ λh6=>?_
         ·obtain⟨JJ,lH⟩:=hs h6;obtain⟨mid,d11,hx⟩:∃m e,partitionEqual Qs d7 a1 b1 p7=(m,e):=⟨_,_,rfl⟩;have Cs:=zcv lG a1 b1 p7 AR pp g8 ω;rw[hx] at Cs;dsimp only at Cs;obtain⟨e1,e2,e3,e4,e5⟩:=round_eq Y9 (partitionEqual_holds _) JJ AR pp ω jz.bel lH hx;refine Qh O$ OX O$ OQ zg8 O (Cs) ?_;rintro _ w11 ⟨rfl,pq,bz⟩;refine QO O$ OK O$ OD O ?_;exact(ih (mid,b1,l5,wb,wp,d11) _ ⟨pq,aA.trans bz,e2,g8,by dsimp only;omega,jz.lim,e4,λR r1 r2=>jz.fin R (e5 R r1 r2).1 (e5 R r1 r2).2⟩ (by dsimp only;omega)).qb
         ·obtain⟨mid,ap,d11,hx⟩:∃m q e,partition Qs d7 a1 b1 p7=(m,q,e):=⟨_,_,_,rfl⟩;have pu:=zbc lG a1 b1 p7 AR pp g8 ω;rw[hx] at pu;dsimp only at pu;obtain⟨e1,e2,e3,e4,e5,e6,e7⟩:=round_part Y9 (partition_holds _) AR pp ω jz.bel hx;refine Ot$ Qh O$ OX O$ OQ zfL O (pu) ?_;rintro _ w11 ⟨rfl,pq,bz⟩;refine OC O$ Sw O$ Si O$ QO O$ QL O$ OX O$ Ra O$ OX O$ Ra O$ Si O$ QL O ?_;rw[show(mid:Int)-(a1:Int)=((mid-a1:Nat):Int) by omega,show(b1:Int)-(mid:Int)=((b1-mid:Nat):Int) by omega];refine OC O$ qV (Wq O O ω)$ QL O$ OX O$ Qv O$ Oq$ OH O (λh7=>?_)$ λh7=>?_
          ·refine Qh O (TE O (QL O (OX O (OX O (OQ zax O (dZ _ _ pq a1 mid l5 ω e1 ω jz.lim e4) ?_)))));rintro _ w12 ⟨rfl,d12,sR,sS,jO,bj⟩;obtain⟨f1,f2⟩:=e6 _ sS jO;refine Oq$ R0 O$ PL O$ OK O$ Om ?_;exact(ih (mid+1,b1,l5,decide (((b1-a1:Nat):Int) / 8<=((mid-a1:Nat):Int)),ap,d12) _ ⟨sR,(aA.trans bz).trans bj,by dsimp only;omega,g8,by dsimp only;omega,jz.lim,f1,λR r1 r2=>jz.fin R (f2 R r1 r2).1 (f2 R r1 r2).2⟩ (by dsimp only;omega)).qb
          ·refine Qh O$ TE O$ QL O$ OX O$ PL O$ OX O ?_;rw[show(mid:Int)+1=((mid+1:Nat):Int) by omega];refine OQ zax O (dZ _ _ pq (mid+1) b1 l5 ω ω g8 jz.lim e5) ?_;rintro _ w12 ⟨rfl,d12,sR,sS,jO,bj⟩;obtain⟨f1,f2⟩:=e7 _ sS jO;refine Oq$ R0 O$ OK O$ Om ?_;exact(ih (a1,mid,l5,decide (((b1-a1:Nat):Int) / 8<=((b1-mid:Nat):Int)),ap,d12) _ ⟨sR,(aA.trans bz).trans bj,e1,by dsimp only;omega,by dsimp only;omega,jz.lim,f1,λR r1 r2=>jz.fin R (f2 R r1 r2).1 (f2 R r1 r2).2⟩ (by dsimp only;omega)).qb
        case sB=>
         rcases Nat.eq_zero_or_pos a1 with hj|hj
         ·refine R8 (λw'=>Ext w9 w') O$ OR 0 O O (hg)$ Ow 1 O (XQ O O) hg$ TK$ OR 2 O O (hg)$ qJ 3 O (hg)$ qJ 4 O (hg)$ qJ 5 O (hg)$ qJ 6 O (hg)$ qJ 7 O (hg)$ qJ 8 O (hg)$ qJ 9 O (hg)$ qJ 10 O (hg)$ qJ 11 O (hg) ?_;refine qJ 12 O (hg)$ qJ 13 O (hg)$ Ow 14 O (U0 O O) hg$ qE ?_;exact(sA _ _ ⟨false,rfl,rfl,λe=>by cases e⟩).qb
         ·refine R8 (λw'=>Ext w9 w') O (OR 0 O O (hg) (Ow 1 O (XQ O O) hg (TH (OR 2 O O (hg) (OR 3 O O (hg) (OR 4 O O (hg) (Ow 5 O (X8 O O ω) hg (OR 8 O O (hg) (OR 9 O O (hg) (Ow 10 O (PK Ph OS O O ω) hg ?_))))))))));rw[show(a1:Int)-1=((a1-1:Nat):Int) by omega];refine Ow 6 O (PK Ph OS O O ω) hg (qT 7 O (λ_ h=>Pc QA O O ((qX.ext h).get (i:=a1-1) ω)) hg (qT 11 O (λ_ h=>Pc QA O O ((qX.ext h).get (i:=p7) ω)) hg (SH 12 O VH O (RO _ _ _) ?_)));rintro _ w10 ⟨rfl,rfl⟩;refine⟨hg,?_⟩;refine Ow 13 O ((z8J O)) hg$ Ow 14 O (UT O O) hg$ qE ?_;exact(sA _ _ ⟨decide (¬d7[a1-1]!<d7[p7]!),rfl,rfl,λe=>⟨hj,by simpa[Qs] using e⟩⟩).qb
       case sT=>
        refine Q0 O (λh4=>?_)$ λh4=>?_
        ·obtain⟨r1,r2⟩:=partialInsertionSort_holds Y9 d7 a1 b1 ω ω lF.bel;refine Qh O (OC O (OQ zgS O (zaV lF.arr a1 b1 ω g8 hn) ?_));rintro _ w9 ⟨rfl,qX,aK⟩;refine Oq$ Q0 O (λh5=>?_)$ λh5=>?_
         ·have r3:=r2 h5;rw[z7C d7 a1 b1 ω] at r3;dsimp only at r3;obtain⟨q1,q2⟩:=lF.fin _ (permIn_refl _ _ _) r3;refine Oo func245 O ?_;exact⟨_,rfl,rfl,d7,qX,q1,q2,lF.kp.trans aK⟩
         ·refine Ot ?_;exact(jy _ _ ⟨rfl,lF.perm qX aK (permIn_refl _ _ _) lF.lim⟩).qb
        ·refine Ot ?_;exact(jy _ _ ⟨rfl,lF⟩).qb
      case na =>
       cases wb with
       | false =>
         refine Oz O$ OX O$ qS$ PC O$ OC O$ QI$ PC O$ Oq ?_
         exact(bX _ _ ⟨false,rfl,rfl⟩).qb
       | true =>
         cases wp with
         | false =>
           refine Oz O$ OX O$ OC O$ QQ O$ OC O$ QI$ PC O$ Oq ?_
           exact(bX _ _ ⟨false,rfl,rfl⟩).qb
         | true =>
           refine Oz O$ OX O$ OC O$ QQ O$ OX O$ QS O$ QQ O$ Oq ?_;exact(bX _ _ ⟨decide ((t7:Int)=1),rfl,rfl⟩).qb
     case dX=>
      refine OH O (λh3=>?_)$ λh3=>?_
      ·refine Qh O (OC O (OQ zhe O (z41 pf a1 b1 ω g8 ω) ?_));rintro _ w7 ⟨rfl,AS,ax⟩;refine qM O$ OC O$ Ra O$ OX O$ Ra O$ Ra O$ OK O$ Oz O$ OK O ?_;rw[show(b1:Int)-1-((p6:Int)-(a1:Int))=((b1-1-(p6-a1):Nat):Int) by omega];exact(au _ _ ⟨reverseRange d5 a1 b1,b1-1-(p6-a1),1,rfl,po.perm AS ax (reverseRange_holds _ _ _ pn ω) qW,ω,ω⟩).qb
      ·refine Ot ?_;exact(au _ _ ⟨d5,p6,t6,rfl,po,JH,sQ⟩).qb
    case fQ=>
     refine Q0 O (λh2=>?_)$ λh2=>?_
     ·refine Qh O (OC O (OQ zfH O (z9P hI.arr a1 b1 ω g8 hn) ?_));rintro _ w5 ⟨rfl,d5,iO,aS,ai⟩;refine Oq$ R0 O$ Ra O$ OK O ?_;rw[show(l1:Int)-1=((l1-1:Nat):Int) by omega];exact(cS _ _ ⟨l1-1,d5,rfl,hI.perm aS ai iO ω⟩).qb
     ·refine Ot ?_;exact(cS _ _ ⟨l1,d1,rfl,hI⟩).qb
def z6M (g n cap:Nat)(hn:n<50):∀m,zdO g n cap m
 |0=>λw d h a b limit hm=>absurd hm (Nat.not_lt_zero _)
 |m+1=>λw d h a b limit hm jr hb hl hB=>z9I (z6M g n cap hn m) h a b limit ω jr hb hn hl hB
open Go.Sort in
def z8B {w:World}{v:Value}{l:List Nat}(hS:Sl w v 42 1 l.length (l.map Pn))(br:l≠[])(hl:l.length<50):
  P9 prog 233 [v] w λu w'=>u= .tuple #[]/\Kp (λk=>v.ownBlock=some k) w w'/\∃l':List Nat,l'.Perm l/\l'.Pairwise (·<=·)/\Sl w' v 42 1 l'.length (l'.map Pn):=by
 obtain⟨g,cap,rfl⟩:∃g c,v= .slice (some ⟨g,0,none⟩) l.length c:=by
  rcases hS.shape with⟨-,h0⟩|⟨g,c,e,hc⟩
  ·exact absurd (List.eq_nil_of_length_eq_zero ω) br
  ·exact⟨g,c,e⟩
 have hA:Sq w g l.length cap l.toArray:=⟨by simpa using hS,ξ⟩
 have aB:PD l.length<=6:=QW ω
 refine py (e:=[(0,_)]) func233 O ntmps233 O O$ P7 O$ Ro Ph O$ OK O$ Oz O$ OX O$ OC O$ qV ((PO O U3 ze4 ω))$ OQ zdA O (z7h l.length ω w) ?_
 rintro _ w ⟨rfl,rfl⟩
 refine OQ zax O (z6M g l.length cap hl (l.length+1) w l.toArray hA 0 l.length (PD l.length) ω ω (Nat.le_refl _) ω (.inl O)) ?_
 rintro _ w1 ⟨rfl,d',kN,hP,hO,hk⟩
 refine Oq$ PQ func233 O ?_
 have cH:=kN.size
 have j6:d'.toList.Perm l:=by
  have:=hP.2.2;rw[Array.toList_extract,Array.toList_extract] at this;have h1:(d'.toList.take l.length).Perm (l.take l.length):=by simpa using this
  rwa [List.take_of_length_le (by rw[Array.length_toList,cH];exact Nat.le_refl _),List.take_length] at h1
 refine⟨_,rfl,rfl,hk.OA (λk e=>by rw[e];rfl),d'.toList,j6,?_,?_⟩
 ·rw[List.pairwise_iff_getElem];intro i j hi hj gJ;rw[Array.length_toList] at hi hj;have:=hO i j (Nat.zero_le _) gJ ω;rw[getElem!_pos d' i ω,getElem!_pos d' j ω] at this;simp only[Qs,decide_eq_false_iff_not] at this;rw[Array.getElem_toList,Array.getElem_toList];omega
 ·have e:d'.toList.length=l.length:=by rw[Array.length_toList,cH]
  rw[e];exact kN.sl
structure NuI (w w1:World)(p:RN)(b5 n11:Nat)(L:List (Cd×Nat))(w':World):Prop where
 ex:∃F,z4Z w' n11 L F/\∀k,F k->w1.heap.size<=k
 ext:Ext w w'
 b5:OE w' b5 (ZK p) 276
 siz:w1.heap.size<=w'.heap.size
theorem NuI.put {w w1 w2 w3:World}{p:RN}{b5 n11:Nat}{L L':List (Cd×Nat)}{F:Nat->Prop}(h:NuI w w1 p b5 n11 L w2)(hf:∀k,F k->w1.heap.size<=k)(fR:b5<w1.heap.size)(HC:w.heap.size<=w1.heap.size)
  (g:∃F',z4Z w3 n11 L' F'/\Kp F w2 w3/\∀k,F' k->F k\/w2.heap.size<=k):NuI w w1 p b5 n11 L' w3:=by
 obtain⟨F',g1,g2,g3⟩:=g
 have hs:=h.siz
 refine⟨⟨F',g1,λk hk=>?_⟩,h.ext.It g2 (λk hk=>by have:=hf k hk;omega),g2.On h.b5 (λe=>by have:=hf b5 e;omega),by have:=g2.size;omega⟩
 rcases g3 k hk with e| e
 ·exact hf k e
 ·omega
structure NuX (w w1 w2:World)(p:RN)(b5 n11:Nat)(X:Nat->Prop)(L:List (Cd×Nat))(w3:World):Prop where
 ex:∃F,z4Z w3 n11 L F/\(∀k,F k->w1.heap.size<=k)/\∀k,F k->¬X k
 ext:Ext w w3
 b5:OE w3 b5 (ZK p) 276
 siz:w1.heap.size<=w3.heap.size
 kx:Kp (λk=>¬X k) w2 w3
theorem NuX.put {w w1 w2 w3 w4:World}{p:RN}{b5 n11:Nat}{X:Nat->Prop}{L L':List (Cd×Nat)}{F:Nat->Prop}(h:NuX w w1 w2 p b5 n11 X L w3)(hX:∀k,X k->k<w2.heap.size)(hf:∀k,F k->w1.heap.size<=k)(hx:∀k,F k->¬X k)(fR:b5<w1.heap.size)(HC:w.heap.size<=w1.heap.size)
  (g:∃F',z4Z w4 n11 L' F'/\Kp F w3 w4/\∀k,F' k->F k\/w3.heap.size<=k):NuX w w1 w2 p b5 n11 X L' w4:=by
 obtain⟨F',g1,g2,g3⟩:=g
 have hs:=h.siz
 have hz:=h.kx.size
 refine⟨⟨F',g1,λk hk=>?_,λk hk fB=>?_⟩,h.ext.It g2 (λk hk=>by have:=hf k hk;omega),g2.On h.b5 (λe=>by have:=hf b5 e;omega),by have:=g2.size;omega,h.kx.trans (g2.OA hx)⟩
 ·rcases g3 k hk with e| e
  ·exact hf k e
  ·omega
 ·rcases g3 k hk with e| e
  ·exact hx k e fB
  ·have:=hX k fB;omega
theorem SV:∀(l:List Nat) (k:Nat),(Q7 k l).length=l.length
 |[],_=>rfl
 |_::l,k=>by rw[Q7,List.length_cons,List.length_cons,SV l]
theorem YD:∀(l:List Nat) (k n:Nat),Q7 k (l++[n])=Q7 k l++[(.gamma,n-min (k+l.length) 1)]
 |[],k,n=>rfl
 | m :: l, k, n => by
   rw[List.cons_append,Q7,YD l (k+1) n,Q7,List.cons_append,List.length_cons,show k+1+l.length=k+(l.length+1) by omega]
def z1d:∀{l:List Nat},(∀n∈l,1<=n)->l.length<=l.sum
 |[],_=>Nat.le_refl _
 | x :: l, h => by
   have h1:=h x List.mem_cons_self;have h2:=z1d (λn hn=>h n (List.mem_cons_of_mem x hn));rw[List.length_cons,List.sum_cons];omega
def Tj.z14 {rs:List Nat}{fs:List Bool}(h:Tj rs fs):rs.length<=fs.length+1:=by
 have e:=SC true rs
 rw[h.exp] at e
 cases rs with
 |nil=>simp
 | cons a tl =>
   have h1:=z1d (l:=tl) (λn hn=>h.pos n hn);rw[List.sum_cons] at e;rw[List.length_cons];omega
def XG:∀l:List Nat,(PE 0 l).1=[]
 |[]=>by rw[PE]
 | x :: l => by
   rw[PE,if_neg ω];exact XG (l.drop (PB x l))
 termination_by l=>l.length
 decreasing_by simp[List.length_drop];omega
def YA (l:List (Nat×Nat)):Option Nat:=l.getLast?.map λp=>p.1+p.2-1
theorem Yr (x least:Nat):∀(l:List (Nat×Nat)) (e:Option Nat) (p:Nat×Nat),Pv x least e (l++[p])=Pv x least e l++Pv x least (match l with|[]=>e|_=>YA l) [p]
 |[],e,p=>by cases e<;>rfl
 | q :: l, e, p => by
   rw[List.cons_append,Rx,Rx,Yr x least l _ p]
   cases l with
   |nil=>rfl
   |cons q2 l=>rfl
theorem z1t (x least:Nat)(l:List (Nat×Nat))(p:Nat×Nat):Pv x least none (l++[p])=Pv x least none l++[(.gamma,Ub x (YA l) p.1),(.gamma,p.2-least)]:=by
 rw[Yr]
 cases l with
 |nil=>rfl
 |cons q l=>rw[Rx x least (match q::l with|[]=>none|_=>YA (q::l))];rfl
def zao {w:World}{b off n cap i:Nat}{R:List (Nat×Nat)}{q:Nat×Nat}(h:Rd w (.slice (some ⟨b,off,none⟩) n cap) 2 n (R.flatMap z1p))(hq:R[i]? =some q):∀j u,[I (q.1:Int),I (q.2:Int)][j]? =some u->w.cell? ⟨b,off+i*2+j,none⟩=some u:=by
 intro j u hj
 have hi:=(List.getElem?_eq_some_iff.1 hq).1
 rcases h.2 with⟨c,hc,h0⟩|⟨b',off',cap',e,hc⟩
 ·have:=h.1;rw[z8R] at this;omega
 ·cases e
  have kO:(R.flatMap z1p)[i*2+j]? =some u:=by
   have kL:j<2:=(List.getElem?_eq_some_iff.1 hj).1
   have key:∀(R:List (Nat×Nat)) (i:Nat),R[i]? =some q->(R.flatMap z1p)[i*2+j]? =some u:=by
    intro R
    induction R with
    |nil=>intro i h;simp at h
    | cons a R ih =>
      intro i h;rw[List.flatMap_cons]
      cases i with
      | zero =>
        rw[List.getElem?_cons_zero] at h;cases h;rw[List.getElem?_append_left (by show _<2;omega),Nat.zero_mul,Nat.zero_add]
        exact hj
      | succ i =>
        rw[List.getElem?_append_right (by show 2<=_;omega),show(i+1)*2+j-(z1p a).length=i*2+j by show(i+1)*2+j-2=_;omega];exact ih i h
   exact key R i hq
  have:=hc (i*2+j) u kO;rw[show off+i*2+j=off+(i*2+j) by omega];exact this
theorem NuX.ex2 {w w1 w2 w3 w4:World}{p:RN}{b5 n11:Nat}{X:Nat->Prop}{L:List (Cd×Nat)}(h:NuX w w1 w2 p b5 n11 X L w3)(hx:Ext w3 w4):NuX w w1 w2 p b5 n11 X L w4:=by
 obtain⟨⟨F,h1,h2,h3⟩,h4,h5,h6,h7⟩:=h
 exact⟨⟨F,h1.ext hx,h2,h3⟩,h4.trans hx,hx.On h5,by have:=hx.size;omega,h7.trans hx.kp⟩
def NuX.back {w w1 w2 w3 w4:World}{p:RN}{b5 n11:Nat}{X X':Nat->Prop}{L L':List (Cd×Nat)}(h:NuX w w1 w2 p b5 n11 X L w3)(h':NuX w w1 w3 p b5 n11 X' L' w4)(hX:∀k,X k->X' k):NuX w w1 w2 p b5 n11 X L' w4:=by
 obtain⟨⟨F,h1,h2,h3⟩,h4,h5,h6,h7⟩:=h'
 exact⟨⟨F,h1,h2,λk hk hx=>h3 k hk (hX k hx)⟩,h4,h5,h6,h.kx.trans (h7.OA λk hk hx=>hk (hX k hx))⟩
def NuX.again {w w1 w2 w3:World}{p:RN}{b5 n11:Nat}{X X':Nat->Prop}{L:List (Cd×Nat)}{F:Nat->Prop}(h:NuX w w1 w2 p b5 n11 X L w3)(hA:z4Z w3 n11 L F)(hf:∀k,F k->w1.heap.size<=k)(hx:∀k,F k->¬X' k):NuX w w1 w3 p b5 n11 X' L w3:=
 ⟨⟨F,hA,hf,hx⟩,h.ext,h.b5,h.siz,Kp.refl _ _⟩
theorem Sb (x least:Nat):∀(l:List (Nat×Nat)) (e:Option Nat),(Pv x least e l).length=2*l.length
 |[],e=>by cases e<;>rfl
 |q::l,e=>by rw[Rx,List.length_cons,List.length_cons,Sb x least l,List.length_cons];omega
def Z0 {least:Nat}:∀(R:List (Nat×Nat)) (lo i:Nat) (q:Nat×Nat),SN least lo R->R[i]? =some q->1<=q.2/\least<=q.2/\(∀z,YA (R.take i)=some z->z+2<=q.1)/\(YA (R.take i)=none->lo<=q.1)
 |[],lo,i,q,h,hq=>by simp at hq
 | p :: R, lo, 0, q, h, hq => by
   rw[List.getElem?_cons_zero] at hq;cases hq
   exact⟨h.2.1,h.2.2.1,(λz hz=>by cases hz),λ_=>h.1⟩
 | p :: R, lo, i + 1, q, h, hq => by
   rw[List.getElem?_cons_succ] at hq;obtain⟨h1,h2,h3,h4⟩:=Z0 R _ i q h.2.2.2 hq;have hp:1<=p.2:=h.2.1;refine⟨h1,h2,λz hz=>?_,λhz=>?_⟩
   ·rw[List.take_succ_cons] at hz
    cases hR:R.take i with
    | nil =>
      rw[hR] at hz;have e:p.1+p.2-1=z:=Rh hz;have:=h4 (by rw[hR];rfl)
      omega
    | cons a l =>
      rw[hR] at hz;exact h3 z (by rw[hR];exact hz)
   ·rw[List.take_succ_cons] at hz;exfalso;unfold YA at hz;rw[Option.map_eq_none_iff,List.getLast?_eq_none_iff] at hz;cases hz
theorem z98 (l:List (Nat×Nat))(q:Nat×Nat):YA (l++[q])=some (q.1+q.2-1):=by simp[YA]
def z9x {least:Nat}{l:List Nat}{q:Nat×Nat}(hl:∀y∈l,y<65536)(hq:q∈(PE least l).1)(h1:1<=q.2):q.1+q.2<=65536:=by
 have h2:q.1+(q.2-1)∈QC (PE least l).1:=by
  unfold QC;exact List.mem_flatMap.2 ⟨q,hq,List.mem_map.2 ⟨q.2-1,List.mem_range.2 ω,rfl⟩⟩
 have:=hl _ ((Tr least l).subset (List.mem_append_left _ h2))
 omega
def zaS (x:Nat):Option Nat->Nat->Nat
 |none,v=>zig ((v:Int)-x)
 |some u,v=>v-u-1
theorem Sy (x k:Nat)(e:Option Nat)(v:Nat)(r:List Nat):Px x k e (v::r)=(.zeta k,zaS x e v)::Px x k (some v) r:=by
 cases e<;>rfl
theorem YE (x k:Nat):∀(l:List Nat) (e:Option Nat) (v:Nat),Px x k e (l++[v])=Px x k e l++Px x k (match l with|[]=>e|_=>l.getLast?) [v]
 |[],e,v=>by cases e<;>rfl
 | u :: l, e, v => by
   rw[List.cons_append,Sy,Sy,YE x k l _ v]
   cases l with
   |nil=>rfl
   |cons u2 l=>rfl
theorem X4 (x k:Nat)(l:List Nat)(v:Nat):Px x k none (l++[v])=Px x k none l++[(.zeta k,zaS x l.getLast? v)]:=by
 rw[YE]
 cases l with
 |nil=>rfl
 |cons u l=>rw[Sy x k (match u::l with|[]=>none|_=>(u::l).getLast?)];cases (u::l).getLast?<;>rfl
theorem T4 (x k:Nat):∀(l:List Nat) (e:Option Nat),(Px x k e l).length=l.length
 |[],e=>by cases e<;>rfl
 |v::l,e=>by rw[Sy,List.length_cons,T4 x k l,List.length_cons]
theorem PA {α:Type}{l:List α}{i:Nat}{q:α}(h:l[i]? =some q):l.take (i+1)=l.take i++[q]:=by
 rw[List.take_succ,h];rfl
end Go.Proofs.YtbihggbffaigjaaGreatDoor
