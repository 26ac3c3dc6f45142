/- Merged by program. -/
import Derived.Test.YtffbidffdbpcoaaGreatDoorZr2
import Derived.Sort.AssemblyPlain
set_option linter.all false
set_option maxRecDepth 1000000
set_option maxHeartbeats 16000000
namespace Go.Proofs.YtffbidffdbpcoaaGreatDoor
open Go Go.RowKit Go.Proofs.Tryz
abbrev PD (n:Nat):Value:= .int .u32 (n:Int)
theorem z5p (m:Nat)(h:m<18446744073709551616):m^^^18446744073709551615=18446744073709551615-m:=by
 have h1:=congrArg BitVec.toNat (BitVec.xor_allOnes (x:=BitVec.ofNat 64 m))
 rw[BitVec.toNat_xor,BitVec.toNat_not,BitVec.toNat_allOnes,BitVec.toNat_ofNat] at h1
 rw[show(2:Nat)^64=18446744073709551616 from rfl,Nat.mod_eq_of_lt h] at h1
 exact h1
section
variable {P:Program}{e:Env}{d:Option Nat}{ty t t':TypeId}{pos:String}{aft:Array Edge}{g:Option (Nat×Bool)}{x y:Operand}{w:World}{m:Nat}
def zhy (hx:look e x=some (I (m:Int)))(hy:look e y=some (I 0))(hm:m<2^63):Y P e ⟨d,.binOp .xor t x y t',ty,pos,aft,g⟩ (I (m:Int)) w w:=fun ρ hρ=>by
 have h1:m<2^IntKind.i64.bits:=by simp only[IntKind.bits];omega
 have h2:(BitVec.ofInt IntKind.i64.bits 0).toNat=0:=by decide
 simp only[execOp,eqGuard_xor,binOp_xor,intBits_xor,hρ _ _ hx,hρ _ _ hy,pure_bind,Sem.run_pure,bits,BitVec.toNat_xor,R1 h1,h2,Nat.xor_zero]
 rw[wrap_i64 ⟨ω,ω⟩]
def zgq (hx:look e x=some (I (m:Int)))(hy:look e y=some (I (-1)))(hm:m<2^63):Y P e ⟨d,.binOp .xor t x y t',ty,pos,aft,g⟩ (I (-(m:Int)-1)) w w:=fun ρ hρ=>by
 have h1:m<2^IntKind.i64.bits:=by simp only[IntKind.bits];omega
 have h2:(BitVec.ofInt IntKind.i64.bits (-1)).toNat=18446744073709551615:=by decide
 simp only[execOp,eqGuard_xor,binOp_xor,intBits_xor,hρ _ _ hx,hρ _ _ hy,pure_bind,Sem.run_pure,bits,BitVec.toNat_xor,R1 h1,h2]
 rw[z5p m ω]
 congr 2
 have h3:((18446744073709551615-m:Nat):Int)=-(m:Int)-1+18446744073709551616:=by omega
 rw[h3]
 simp only[IntKind.wrap,IntKind.bits,IntKind.signed]
 simp
 omega
end
/-! ### Numbers with a sign -/
def z7J (z:Int)(h: -4611686018427387904<=z/\z<4611686018427387904)(w:World):Ps prog 208 [I z] w λu w'=>u=P7 (zig z)/\w'=w:=by
 rcases Int.lt_or_le z 0 with h0|h0
 ·obtain⟨n,rfl⟩:∃n:Nat,z=-(n:Int)-1:=⟨(-z-1).toNat,ω⟩;refine py (e:=[(0,_)]) func208 O ntmps208 O O$ qN O$ R3 O$ qV (ycv (b:=((18446744073709551615-n:Nat):Int)) O U2 Rw (by simp only[IntKind.wrap,IntKind.bits,IntKind.signed];simp;omega)) ?_;refine qV (Rj 1 2 O O ψ O)$ OT O$ qV (ysr 63 O O ψ) ?_;rw[show(-(n:Int)-1) / 2^63=-1 by omega];refine qV (ycv (b:=((18446744073709551615:Nat):Int)) O U2 Rw ψ)$ qV (z1L O O ω ω)$ P3 O$ OI func208 O (⟨_,rfl,?_,rfl⟩);rw[z5p _ ω];simp only[Q0]
  congr 2
  unfold zig;rw[if_neg ω];omega
 ·obtain⟨n,rfl⟩:∃n:Nat,z=(n:Int):=⟨z.toNat,ω⟩;refine py (e:=[(0,_)]) func208 O ntmps208 O O$ qN O$ R3 O$ qV ((Qg O U2 Rw ω))$ qV (Rj 1 2 O O ψ O)$ OT O$ qV (Us 63 9223372036854775808 O O ψ O)$ qV ((Qg O U2 Rw ω))$ qV (z1L O O ω ω)$ P3 O$ OI func208 O (⟨_,rfl,?_,rfl⟩);rw[show n / 9223372036854775808=0 by omega,Nat.xor_zero];simp only[Q0]
  congr 2
  unfold zig;rw[if_pos ω];omega
def z7v (n:Nat)(h:n<9223372036854775808)(w:World):Ps prog 233 [P7 n] w λu w'=>u=I (zag n)/\w'=w:=by
 refine py (e:=[(0,_)]) func233 O ntmps233 O O$ qN O$ R3 O$ qV (Us 1 2 O O ψ O)$ qV (PQ O Rw U2 ω)$ OT O$ qV (Uq O O ω ω) ?_
 rw[Nat.and_one_is_mod]
 refine qV (PQ O Rw U2 ω) ?_
 rcases Nat.mod_two_eq_zero_or_one n with h0|h0
 ·rw[h0];refine qV (yng O ψ ψ)$ qV (zhy O O ω)$ P3 O$ OI func233 O (⟨_,rfl,?_,rfl⟩);simp only[Q0];unfold zag;rw[if_pos h0]
 ·rw[h0];refine qV (yng O ψ ψ)$ qV (zgq O O ω)$ P3 O$ OI func233 O (⟨_,rfl,?_,rfl⟩);simp only[Q0];unfold zag;rw[if_neg ω]
/-! ### The parameters -/
def lpC (p:S6):List Value:=[I (p.Pm:Int),I (p.interval:Int),I (p.zeta:Int)]
abbrev lpV (p:S6):Value:= .agg (lpC p).toArray
def S6.Qx (p:S6):Prop:=p.Pm<=16/\(p.interval=0\/2<=p.interval/\p.interval<=64)/\1<=p.zeta/\p.zeta<=16
def TV (p:S6)(hp:p.Qx)(w:World):Ps prog 181 [lpV p] w λu w'=>u=I 0/\Ext w w':=by
 obtain⟨h1,h2,h3,h4⟩:=hp
 refine py (e:=[(0,_)]) func181 O ntmps181 O O$ qN O$ OP O O (R6 O (cs:=lpC p) O) ?_
 rintro _ w1 ⟨b1,rfl,bK,ad,ai⟩
 replace ai:OU w1 b1 [I (p.Pm:Int),I (p.interval:Int),I (p.zeta:Int)] 260:=ai
 refine P3 O$ QO$ An$ qN O$ P4 Tj O$ qV (OS U3 O O ai O)$ QV O$ PO$ OT O$ P4 Tj O$ qV (OS U3 O O ai O)$ QD O$ PO$ PT O ?_
 refine P3 O$ OR O$ qN O$ P4 z0C O$ qV (OS U3 O O ai O)$ QV O$ PO$ OT O$ P4 z0C O$ qV (OS U3 O O ai O)$ QD O$ PO$ PT O$ P3 O ?_
 refine OR O$ OQ O$ P4 Uf O$ qV (OS U3 O O ai O)$ QF O$ Su (λe1=>?_)$ λe1=>?_
 ·refine OT O$ P4 Uf O$ qV (OS U3 O O ai O)$ QV O$ PO$ OT O$ P4 Uf O$ qV (OS U3 O O ai O)$ QD O$ PO$ PT O$ Ra O$ P3 O$ Pu.qb (e:=[(2,_),(3,_)]) ?_;refine SO O$ OG$ QN O$ OI func181 O ?_;exact⟨_,rfl,rfl,ad⟩
 ·refine OT O$ QY$ QY$ QY$ QY$ PT O$ P3 O$ Pu.qb (e:=[(2,_),(3,_)]) ?_;refine SO O$ OG$ QN O$ OI func181 O ?_;exact⟨_,rfl,rfl,ad⟩
def VX (n:Nat)(h:n<65536)(w:World):Ps prog 202 [I (n:Int)] w λu w'=>u= .bool true/\w'=w:=by
 refine py (e:=[(0,_)]) func202 O ntmps202 O O$ qN O$ R3 O$ Uh O$ RP$ Pl O$ QV O$ RP$ Ra O$ P3 O$ OI func202 O ?_
 exact⟨_,rfl,rfl,rfl⟩
structure PG (l:List Nat):Prop where
 ris:Ris l
 lt:∀y∈l,y<65536
def z38:∀(l:List Nat) (lo hi:Nat),Ris l->(∀y∈l,lo<=y/\y<hi)->lo<=hi->lo+l.length<=hi
 |[],lo,hi,_,_,h=>h
 | x :: l, lo, hi, hr, hm, h => by
   have h1:=(List.pairwise_cons.1 hr);have h2:=hm x List.mem_cons_self;have:=z38 l (x+1) hi h1.2 (λy hy=>⟨h1.1 y hy,(hm y (List.mem_cons_of_mem _ hy)).2⟩) ω;rw[List.length_cons];omega
theorem PG.len {l:List Nat}(h:PG l):l.length<=65536:=by
 have:=z38 l 0 65536 h.ris (λy hy=>⟨Nat.zero_le _,h.lt y hy⟩) ψ
 omega
def PG.sub {l m:List Nat}(h:PG l)(hs:m.Sublist l):PG m:=⟨h.ris.sublist hs,λy hy=>h.lt y (hs.subset hy)⟩
def Wj (v:Value)(l:List Nat)(hl:PG l)(w:World)(hr:Rd w v 1 l.length (l.map PD)):
  Ps prog 203 [v] w λu w'=>u= .bool true/\w'=w:=by
 have aJ:=hl.len
 obtain⟨a,cap,rfl,ha⟩:=hr.shape
 refine py (e:=[(0,_)]) func203 O ntmps203 O O$ QN O$ PR O$ RO Pz O$ OT O$ OJ$ OL$ RN (α:=Nat) (0) (λi=>[(0,.slice a l.length cap),(5,.slice a l.length cap),(6,I (l.length:Int)),(7,I (i:Int))]) (λi w'=>w'=w/\i<=l.length) (λi=>l.length-i) ?hI ?hround
 case hI=>exact⟨rfl,ω⟩
 case hround=>
  rintro i _ ⟨rfl,hi⟩ ih
  try dsimp only
  refine qN O$ QV O$ OJ$ An$ OX O (λaS=>?_)$ λaS=>?_
  ·have fZ:i<l.length:=by omega
   have hy:=hl.lt l[i] (List.getElem_mem fZ);rcases hr.2 with⟨c,-,h⟩|⟨b,off,cap',ma,bj⟩
   ·omega
   cases ma;refine OK$ QO$ Pt O$ qV (Qc Pz Pc O O ω)$ qV (PC QU O O (bj (i*1) (PD l[i]) (by simp[fZ]))) ?_;refine SH O$ R3 O$ Uh O$ PO$ Pl O$ QD O$ Su (λe1=>?_)$ λe1=>?_
   ·have hp:l[i-1]<l[i]:=(List.pairwise_iff_getElem.1 hl.ris) (i-1) i ω fZ ω;refine Pl O$ Pl O$ Rt O ?_;rw[show(i:Int)-1=((i-1:Nat):Int) by omega];refine qV (Qc Pz Pc O O ω)$ qV (PC QU O O (bj ((i-1)*1) (PD l[i-1]) (by simp[show i-1<l.length by omega]))) ?_;refine zle O$ PO$ Ra O$ PT O$ Qm O$ OG$ OQ O$ Q4 O$ OT O$ OJ ?_;exact(ih (i+1) _ ⟨rfl,ω⟩ ω).qb
   ·refine OT O$ QY$ QY$ QY$ qS$ PT O$ PT O$ Qm O$ OG$ OQ O$ Q4 O$ OT O$ OJ ?_;exact(ih (i+1) _ ⟨rfl,ω⟩ ω).qb
  ·refine OV O$ QN O$ OI func203 O ?_;exact⟨_,rfl,rfl,rfl⟩
def zaB (p:S6)(hp:p.Qx)(x:Nat)(hx:x<65536)(v u:Value)(l m:List Nat)(r:Nat)(hl:PG l)(hm:PG m)(hr:r<=p.Pm)(mc:r=0->m=[])(w:World)
  (ia:Rd w v 1 l.length (l.map PD)) (B9:Rd w u 1 m.length (m.map PD)):
  Ps prog 182 [lpV p,I (x:Int),v,u,I (r:Int)] w λo w'=>o= .bool true/\Ext w w':=by
 obtain⟨h1,h2,h3,h4⟩:=id hp
 refine py (e:=[(0,_),(1,_),(2,_),(3,_),(4,_)]) func182 O ntmps182 O O$ qN O$ OP O O (R6 O (cs:=lpC p) O) ?_
 rintro _ w1 ⟨b1,rfl,bK,ad,ai⟩
 refine QW O$ qV (Pv (news:=lpC p) Zy O U1 O (ai.cells (n:=3) O) O)$ Pb z44 O (TV p hp w1) ?_
 rintro _ w2 ⟨rfl,ae⟩
 have ak:=ae.OH ai
 replace ak:OU w2 b1 [I (p.Pm:Int),I (p.interval:Int),I (p.zeta:Int)] 260:=ak
 refine Rk O$ RP$ Pl O$ Pb z7M O (VX x hx w2) ?_
 rintro _ w3 ⟨rfl,rfl⟩
 refine Ra O$ Pl O$ Pb z3P O (Wj v l hl w3 (ia.ext (ad.trans ae))) ?_
 rintro _ w4 ⟨rfl,rfl⟩
 refine Ra O$ Pl O$ Pb z3P O (Wj u m hm w4 (B9.ext (ad.trans ae))) ?_
 rintro _ w5 ⟨rfl,rfl⟩
 refine Ra O$ OT O ?_
 obtain⟨ua,uc,rfl,-⟩:=B9.shape
 refine OT O$ Uh O$ RP$ Ra O$ Pl O$ P4 Tj O$ qV (OS U3 O O ak O)$ zle O$ RP$ Ra O$ Pl O$ QD O$ Su (λe1=>?_)$ λe1=>?_
 ·refine OT O$ QY$ qS$ Ra O$ Ra O$ P3 O$ Pu.qb (e:=[(10,_)]) ?_;refine OI func182 O ?_;exact⟨_,rfl,rfl,ad.trans ae⟩
 ·have e2:=mc ω;subst e2;refine Pl O$ RO Pz O$ Rk O$ RP$ PT O$ Ra O$ P3 O$ Pu.qb (e:=[(10,_)]) ?_;refine OI func182 O ?_;exact⟨_,rfl,rfl,ad.trans ae⟩
def Yz (l:List Nat):∀c∈l.map PD,c.oneCell'=true:=by
 intro c hc
 obtain⟨x,-,rfl⟩:=List.mem_map.1 hc
 rfl
def z1W (p:Nat×Nat):List Value:=[I (p.1:Int),I (p.2:Int)]
theorem z94 (l:List (Nat×Nat)):(l.flatMap z1W).length=l.length*2:=by
 induction l with
 |nil=>rfl
 |cons p l ih=>rw[List.flatMap_cons,List.length_append,ih,List.length_cons,show(z1W p).length=2 from rfl];omega
theorem Sl.oneV {w:World}{v:Value}{e size n:Nat}{cs:List Value}(h:Sl w v e size n cs):oneV v=true:=by
 rcases h.shape with⟨rfl,-⟩|⟨g,cap,rfl,-⟩<;>rfl
structure zc9 (w:World)(l:List Nat)(least:Nat)(r:List Nat)(a:Option Addr)(cap:Nat)(v4 v5:Value)(R:List (Nat×Nat))(O_:List Nat)(w':World):Prop where
 ext:Ext w w'
 cl:r.length<=cap
 rd:Rd w (.slice a r.length cap) 1 r.length (r.map PD)
 s4:Sl w' v4 326 2 R.length (R.flatMap z1W)
 s5:Sl w' v5 59 1 O_.length (O_.map PD)
 f4:∀g,v4.ownBlock=some g->w.heap.size<=g
 f5:∀g,v5.ownBlock=some g->w.heap.size<=g
 ne:∀g,v4.ownBlock=some g->v5.ownBlock≠some g
 ok:PG r
 eq:PV least l=(R++(PV least r).1,O_++(PV least r).2)
 len:R.length+O_.length+r.length<=65536
def TO {w:World}{a:Option Addr}{n cap i:Nat}{cs:List Value}(h:Rd w (.slice a n cap) 1 n cs)(hi:i<=n)(hc:n<=cap):Rd w (.slice (if cap=i then a else a.map (·.add (i*1))) (n-i) (cap-i)) 1 (n-i) (cs.drop i):=by
 have hl:=h.1
 refine⟨by rw[List.length_drop,hl];omega,?_⟩
 rcases h.2 with⟨c,hv,h0⟩|⟨b,off,cap',hv,bj⟩
 ·refine .inl ⟨((if cap=i then a else a.map (·.add (i*1))),cap-i),?_,ω⟩;rw[show n-i=0 by omega]
 ·cases hv;by_cases e:cap=i
  ·rw[if_pos e];refine .inl ⟨(some ⟨b,off,none⟩,cap-i),?_,ω⟩;rw[show n-i=0 by omega]
  ·rw[if_neg e];refine .inr ⟨b,off+i*1,cap-i,?_,λj u hu=>?_⟩
   ·simp only[Option.map_some,Rm]
   ·rw[List.getElem?_drop] at hu;have:=bj (i+j) u hu;rw[show off+i*1+j=off+(i+j) by omega];exact this
def UX {w:World}{a:Option Addr}{n cap i:Nat}{cs:List Value}(h:Rd w (.slice a n cap) 1 n cs)(hi:i<=n):Rd w (.slice a i cap) 1 i (cs.take i):=by
 have hl:=h.1
 refine⟨by rw[List.length_take,hl];omega,?_⟩
 rcases h.2 with⟨c,hv,h0⟩|⟨b,off,cap',hv,bj⟩
 ·refine .inl ⟨(a,cap),?_,ω⟩;rw[show i=0 by omega]
 ·cases hv;refine .inr ⟨b,off,cap,rfl,λj u hu=>?_⟩;rw[List.getElem?_take] at hu;split at hu
  ·exact bj j u hu
  ·cases hu
def zc9.grow {w w1 w2:World}{l r:List Nat}{least cap:Nat}{a:Option Addr}{v4 v5:Value}{R:List (Nat×Nat)}{O_:List Nat}(h:zc9 w l least r a cap v4 v5 R O_ w1)(hx:Ext w1 w2):zc9 w l least r a cap v4 v5 R O_ w2:=
 ⟨h.ext.trans hx,h.cl,h.rd,h.s4.ext hx,h.s5.ext hx,h.f4,h.f5,h.ne,h.ok,h.eq,h.len⟩
def zaw (a:Option Addr)(cap:Nat)(l:List Nat)(least:Nat)(vS:PG l)(kg:l.length<=cap)(j4:least<=64)(w:World)(hr:Rd w (.slice a l.length cap) 1 l.length (l.map PD)):
  Ps prog 207 [.slice a l.length cap,I (least:Int)] w λu w'=>∃v4 v5,u= .tuple #[v4,v5]/\Sl w' v4 326 2 (PV least l).1.length ((PV least l).1.flatMap z1W)/\
   Sl w' v5 59 1 (PV least l).2.length ((PV least l).2.map PD)/\Ext w w'/\(∀g,v4.ownBlock=some g->w.heap.size<=g)/\(∀g,v5.ownBlock=some g->w.heap.size<=g)/\∀g,v4.ownBlock=some g->v5.ownBlock≠some g:=by
 refine py (e:=[(0,_),(1,_)]) func207 O ntmps207 O O$ qN O$ Qr O$ QO$ RN (α:=List Nat×Option Addr×Nat×Value×Value×List (Nat×Nat)×List Nat) ((l,a,cap,.slice none 0 0,.slice none 0 0,[],[])) (λx=>[(0,.slice x.2.1 x.1.length x.2.2.1),(1,I (least:Int)),(4,x.2.2.2.1),(5,x.2.2.2.2.1)]) (λx w'=>zc9 w l least x.1 x.2.1 x.2.2.1 x.2.2.2.1 x.2.2.2.2.1 x.2.2.2.2.2.1 x.2.2.2.2.2.2 w') (λx=>x.1.length) ?hI ?hround
 case hI=>exact⟨Ext.refl _,kg,hr,Sl.nil _ _ _,Sl.nil _ _ _,(λg h=>by cases h),(λg h=>by cases h),(λg h=>by cases h),vS,rfl,by have:=vS.len;simp;omega⟩
 case hround =>
  rintro⟨r,a1,c1,v4,v5,R,O_⟩ w6 hI ih;dsimp only at hI
  try dsimp only
  refine PR O$ RO Pz O$ QD O$ OJ$ OX O (λh0=>?_)$ λh0=>?_
  ·obtain⟨y,r',rfl⟩:∃y r',r=y::r':=by
    cases r with
    |nil=>exact absurd h0 ξ
    |cons y r'=>exact⟨y,r',rfl⟩
   have ia:=Xg y r';have JN:=hI.ok.lt y List.mem_cons_self;have jh:=hI.ok.len;rw[List.length_cons] at jh
   obtain⟨b,off,ma,bj⟩:∃b off,a1=some ⟨b,off,none⟩/\∀j u,((y::r').map PD)[j]? =some u->w6.cell? ⟨b,off+j,none⟩=some u:=by
    rcases (hI.rd.ext hI.ext).2 with⟨c,-,h⟩|⟨b,off,cap',ma,bj⟩
    ·exact absurd h ξ
    ·cases ma;exact⟨b,off,rfl,bj⟩
   subst ma
   have kl:∀w',Ext w w'->∀j u,((y::r').map PD)[j]? =some u->w'.cell? ⟨b,off+j,none⟩=some u:=λw' hx=>by
    rcases (hI.rd.ext hx).2 with⟨c,-,h⟩|⟨b',off',cap',ma,hc⟩
    ·exact absurd h ξ
    ·cases ma;exact hc
   clear bj;refine OK$ OL$ QN O$ QO$ SN (λe' w'=>Ext w6 w'/\e'=[(0,.slice (some ⟨b,off,none⟩) (y::r').length c1),(1,I (least:Int)),(4,v4),(5,v5),(6,I ((PS y r'+1:Nat):Int))]) ?tr$ λtr=>?Cq
   case tr=>
    rintro e' w6z ⟨aR,rfl⟩;replace hI:=hI.grow aR;have bj:=kl _ hI.ext
    generalize hn:PS y r'+1=n
    have vT:=hI.cl;rw[List.length_cons] at vT;have dW:=hI.eq;have aJ:=hI.len;rw[List.length_cons] at aJ;have df:1<=n/\n<=r'.length+1:=by omega
    have pq:r'.drop (PS y r')=(y::r').drop n:=by rw[<-hn];rfl
    have nA:y::r'.take (PS y r')=(y::r').take n:=by rw[<-hn];rfl
    rw[PV] at dW;simp only[hn,pq,nA] at dW;have ay:PG ((y::r').drop n):=hI.ok.sub (List.drop_sublist _ _);have eJ:=TO hI.rd (i:=n) (by rw[List.length_cons];omega) hI.cl;rw[<-List.map_drop,show(y::r').length-n=((y::r').drop n).length by rw[List.length_drop]] at eJ;have ls:((y::r').drop n).length=r'.length+1-n:=by rw[List.length_drop,List.length_cons]
    by_cases hL:0<least/\least<=n
    ·obtain⟨Bc,I2⟩:=hL;rw[if_pos ⟨Bc,I2⟩] at dW;refine PR O$ QD O$ RP$ Pl O$ OT O$ Uh O$ RP$ Ra O$ OJ$ OZ O$ OQ O$ Pl O$ qV (Qc Pz Pc O O ω)$ qV (PC QU O O (bj (0*1) (PD y) O)) ?_;refine qV (PQ O QU U3 ω)$ OT O$ qV (Sh (cs:=[_,_]) z1h O zh1 O O)$ OP O O (Yx (cs:=[_,_]) (zs:=[Value.int .i64 0,Value.int .i64 0]) zap z1h O (by kernel_rfl) O O O ψ) ?_;rintro _ w7 ⟨b7,rfl,⟨m7,cm,bR⟩,gQ⟩;refine OP O O (pap zap z1h O ψ O O (hI.s4.ext cm) gQ.rd (by intro c hc;simp at hc;rcases hc with rfl|rfl<;>rfl) ω (by simp only[maxLen];omega)) ?_;rintro v4' w8 ⟨dJ,aL,ly,-⟩;have mZ:=dJ.oneV;have hz:=hI.ext.size;have Be:=cm.size;have cR:Ext w w8:=(hI.ext.trans cm).It aL (λi hi=>hI.f4 i hi);have pu:Sl w8 v5 59 1 O_.length (O_.map PD):=(hI.s5.ext cm).kp aL (λg hg e=>hI.ne g e hg);refine P3 O$ OQ O$ Pl O$ qV (Yq Pz Pc O O (by rw[List.length_cons];omega) hI.cl) ?_;refine P3 O$ OG ?_;rw[show(y::r').length-n=((y::r').drop n).length by rw[List.length_drop]];refine(ih ((y::r').drop n,_,c1-n,v4',v5,R++[(y,n)],O_) _ ⟨cR,by dsimp only;rw[ls];omega,eJ,?_,pu,?_,hI.f5,?_,ay,?_,?_⟩ ?_).qb
     ·dsimp only;rw[List.length_append,List.flatMap_append];exact dJ
     ·intro g hg;rcases ly g hg with h| h
      ·exact hI.f4 g h
      ·omega
     ·intro g hg e;rcases ly g hg with h| h
      ·exact hI.ne g h e
      ·have:=hI.s5.lt e;omega
     ·dsimp only;rw[dW,List.append_assoc];rfl
     ·dsimp only;rw[List.length_append,List.length_singleton,ls];omega
     ·dsimp only;rw[ls,List.length_cons];omega
    ·rw[if_neg hL] at dW;rcases Nat.eq_zero_or_pos least with e0|e0
     ·refine PR O$ QD O$ PO$ OT O$ QY$ qS$ PT O$ OJ$ OR O$ OQ O$ Pl O$ OT O$ qV (zba Pz Pc O O ω)$ OP O O (pap Pz Pc O ψ O O hI.s5 (UX (hI.rd.ext hI.ext) (i:=n) (by rw[List.length_cons];omega)) (by rw[<-List.map_take];exact Yz _) ω (by simp only[maxLen];omega)) ?_;rintro v5' w8 ⟨dJ,aL,ly,-⟩;have mZ:=dJ.oneV;have hz:=hI.ext.size;have cR:Ext w w8:=hI.ext.It aL (λi hi=>hI.f5 i hi);have vU:Sl w8 v4 326 2 R.length (R.flatMap z1W):=hI.s4.kp aL (λg hg e=>hI.ne g hg e);refine P3 O$ OQ O$ Pl O$ qV (Yq Pz Pc O O (by rw[List.length_cons];omega) hI.cl) ?_;refine P3 O$ OG ?_;rw[show(y::r').length-n=((y::r').drop n).length by rw[List.length_drop]];have j5:((y::r').take n).length=n:=by rw[List.length_take,List.length_cons];omega
      refine(ih ((y::r').drop n,_,c1-n,v4,v5',R,O_++(y::r').take n) _ ⟨cR,by dsimp only;rw[ls];omega,eJ,vU,?_,hI.f4,?_,?_,ay,?_,?_⟩ ?_).qb
      ·dsimp only;rw[List.length_append,List.map_append,j5,List.map_take];exact dJ
      ·intro g hg;rcases ly g hg with h| h
       ·exact hI.f5 g h
       ·omega
      ·intro g hg e;rcases ly g e with h| h
       ·exact hI.ne g hg h
       ·have:=hI.s4.lt hg;omega
      ·dsimp only;rw[dW,List.append_assoc]
      ·dsimp only;rw[List.length_append,j5,ls];omega
      ·dsimp only;rw[ls,List.length_cons];omega
     ·have I2:¬least<=n:=λh=>hL ⟨e0,h⟩;refine PR O$ QD O$ RP$ Pl O$ OT O$ Uh O$ PO$ Ra O$ OJ$ OR O$ OQ O$ Pl O$ OT O$ qV (zba Pz Pc O O ω) ?_;refine OP O O (pap Pz Pc O ψ O O hI.s5 (UX (hI.rd.ext hI.ext) (i:=n) (by rw[List.length_cons];omega)) (by rw[<-List.map_take];exact Yz _) ω (by simp only[maxLen];omega)) ?_;rintro v5' w8 ⟨dJ,aL,ly,-⟩;have mZ:=dJ.oneV;have hz:=hI.ext.size;have cR:Ext w w8:=hI.ext.It aL (λi hi=>hI.f5 i hi);have vU:Sl w8 v4 326 2 R.length (R.flatMap z1W):=hI.s4.kp aL (λg hg e=>hI.ne g hg e);refine P3 O$ OQ O$ Pl O$ qV (Yq Pz Pc O O (by rw[List.length_cons];omega) hI.cl) ?_;refine P3 O$ OG ?_;rw[show(y::r').length-n=((y::r').drop n).length by rw[List.length_drop]];have j5:((y::r').take n).length=n:=by rw[List.length_take,List.length_cons];omega
      refine(ih ((y::r').drop n,_,c1-n,v4,v5',R,O_++(y::r').take n) _ ⟨cR,by dsimp only;rw[ls];omega,eJ,vU,?_,hI.f4,?_,?_,ay,?_,?_⟩ ?_).qb
      ·dsimp only;rw[List.length_append,List.map_append,j5,List.map_take];exact dJ
      ·intro g hg;rcases ly g hg with h| h
       ·exact hI.f5 g h
       ·omega
      ·intro g hg e;rcases ly g e with h| h
       ·exact hI.ne g hg h
       ·have:=hI.s4.lt hg;omega
      ·dsimp only;rw[dW,List.append_assoc]
      ·dsimp only;rw[List.length_append,j5,ls];omega
      ·dsimp only;rw[ls,List.length_cons];omega
   case Cq =>
    refine RN (α:=Nat) (1) (λi=>[(0,.slice (some ⟨b,off,none⟩) (y::r').length c1),(1,I (least:Int)),(4,v4),(5,v5),(6,I (i:Int))]) (λi w'=>Ext w6 w'/\1<=i/\i<=PS y r'+1) (λi=>PS y r'+2-i) ?hI ?hround
    case hI=>exact⟨Ext.refl _,ω,ω⟩
    case hround=>
     rintro i w7 ⟨cm,tt,dO⟩ ih2
     try dsimp only
     refine An$ An ?_;have hg:=(Ext.refl w7).drew;refine R0 (λw'=>Ext w7 w') O$ P8 0 O O (hg)$ P8 1 O O (hg)$ OM 2 O (SI Pz O) hg$ OM 3 O (ylt O O) hg$ zhV (λe1=>?_)$ λe1=>?_
     ·have xi:i<r'.length+1:=by rw[List.length_cons] at e1;omega
      have dq:r'[i-1]? =some (r'[i-1]'ω):=List.getElem?_eq_getElem ω;have NG:r'[i-1]'ω<65536:=hI.ok.lt _ (List.mem_cons_of_mem _ (List.getElem_mem _));refine P8 4 O O (hg)$ P8 5 O O (hg)$ P8 6 O O (hg)$ OM 7 O (Qc Pz Pc O O ω) hg$ P8 9 O O (hg)$ OM 10 O (Qc Pz Pc O O ω) hg$ P8 12 O O (hg)$ OM 13 O (z4T O U3 QU) hg$ qT 8 O (λ_ hS=>PC QU O O (by exact kl _ ((hI.ext.trans cm).trans hS) (i*1) (PD (r'[i-1]'ω)) (by rw[List.getElem?_map,show i*1=(i-1)+1 by omega,List.getElem?_cons_succ,dq];rfl))) hg ?_;refine qT 11 O (λ_ hS=>PC QU O O (by exact kl _ ((hI.ext.trans cm).trans hS) (0*1) (PD y) O)) hg ?_;refine OM 14 O (ziI O O) hg$ OM 15 O (yeq O O) hg$ OM 16 O (UG O O) hg$ qE$ OX O (λe2=>?_)$ λe2=>?_
      ·refine OK$ OL$ Rp O$ Q4 O$ P3 O$ OG ?_
       have bD:i≠PS y r'+1:=λe=>by
        subst e;have:=Wu y r' (r'[PS y r'+1-1]'ω) (by rw[<-dq];simp);omega
       exact(ih2 (i+1) _ ⟨cm.trans hg,ω,ω⟩ ω).qb
      ·have Cr:i=PS y r'+1:=by
        rcases Nat.lt_or_ge (i-1) (PS y r') with h| h
        ·have h1:=VG y r' (i-1) h;rw[dq] at h1;have h2:=RB h1;exact absurd ω e2
        ·omega
       refine OV O ?_;subst Cr;exact(tr _ _ ⟨cm.trans hg,rfl⟩).qb
     ·have Cr:i=PS y r'+1:=by rw[List.length_cons] at e1;omega
      refine P8 4 O O (hg)$ qJ 5 O (hg)$ qJ 6 O (hg)$ qJ 7 O (hg)$ qJ 8 O (hg)$ qJ 9 O (hg)$ qJ 10 O (hg)$ qJ 11 O (hg)$ qJ 12 O (hg)$ qJ 13 O (hg)$ qJ 14 O (hg)$ qJ 15 O (hg)$ OM 16 O (U6 O O) hg$ qE ?_;refine OR O$ OV O ?_;subst Cr;exact(tr _ _ ⟨cm.trans hg,rfl⟩).qb
  ·have fg:r=[]:=List.eq_nil_of_length_eq_zero ω;subst fg;refine OV O$ QI O$ Qr O$ OI func207 O ?_;have dW:=hI.eq;simp only[PV,List.append_nil] at dW;rw[dW];exact⟨_,rfl,v4,v5,rfl,hI.s4,hI.s5,hI.ext,hI.f4,hI.f5,hI.ne⟩
structure VsM (w:World)(p:Nat)(v:Value)(T el:TypeId)(size n:Nat)(cs:List Value):Prop where
 OH:OU w p [v] T
 sl:Sl w v el size n cs
 ne:v.ownBlock≠some p
def VsA (w:World)(p:Nat)(T el:TypeId)(size n:Nat)(cs:List Value)(F:Nat->Prop):Prop:=∃v,VsM w p v T el size n cs/\∀k,F k↔fpW p v k
section
variable {w w':World}{p:Nat}{T el:TypeId}{size n:Nat}{cs:List Value}{F S:Nat->Prop}
def VsA.lt (h:VsA w p T el size n cs F){k:Nat}(hk:F k):k<w.heap.size:=by
 obtain⟨bv,hM,hF⟩:=h
 rcases (hF k).1 hk with e| e
 ·rw[e];exact hM.OH.lt
 ·exact hM.sl.lt e
def VsA.kp (h:VsA w p T el size n cs F)(k:Kp S w w')(hn:∀i,F i->¬S i):VsA w' p T el size n cs F:=by
 obtain⟨bv,hM,hF⟩:=h
 exact⟨bv,⟨k.OH hM.OH (hn p ((hF p).2 (.inl O))),hM.sl.kp k (λg hg=>hn g ((hF g).2 (.inr hg))),hM.ne⟩,hF⟩
def VsA.ext (h:VsA w p T el size n cs F)(k:Ext w w'):VsA w' p T el size n cs F:=h.kp k.kp λ_ _=>id
end
def zed {P:Program}{e:Env}{d:Option Nat}{ty t t':TypeId}{pos:String}{aft:Array Edge}{g:Option (Nat×Bool)}{x y:Operand}{w:World}{p q:Bool}(hx:look e x=some (.bool p))(hy:look e y=some (.bool q))(ht:P.underlying t=some .bool):Y P e ⟨d,.binOp .neq t x y t',ty,pos,aft,g⟩ (.bool (!(p==q))) w w:=fun ρ hρ=>by
 simp[execOp,hρ _ _ hx,hρ _ _ hy,eqGuard_at_bool,run_neq_bool w t p q ht]
def z66 (q:Cd×Nat):List Value:=Sq q.1++[P7 q.2]
abbrev z5r (w:World)(p:Nat)(L:List (Cd×Nat))(F:Nat->Prop):Prop:=VsA w p 291 296 3 L.length (L.flatMap z66) F
abbrev z2M (w:World)(p:Nat)(L:List Nat)(F:Nat->Prop):Prop:=VsA w p 62 59 1 L.length (L.map PD) F
abbrev z1R (w:World)(p:Nat)(L:List Nat)(F:Nat->Prop):Prop:=VsA w p 37 3 1 L.length (L.map λn:Nat=>I (n:Int)) F
def Tn {w:World}{p:Nat}{L:List (Cd×Nat)}{F:Nat->Prop}(h:z5r w p L F)(hl:L.length<=1000000)(c:Cd)(v:Nat)(hv:v<9223372036854775808):
  Ps prog 204 [cdV c,I (v:Int),ptr p 0] w λu w'=>u= .tuple #[]/\∃F',z5r w' p (L++[(c,v)]) F'/\Kp F w w'/\∀k,F' k->F k\/w.heap.size<=k:=by
 obtain⟨x,y,dH,Cs,Ct⟩:∃x y,Sq c=[x,y]/\x.oneCell'=true/\y.oneCell'=true:=by cases c<;>exact⟨_,_,rfl,rfl,rfl⟩
 obtain⟨bv,hM,hF⟩:=h
 have rN:cdV c= .agg [x,y].toArray:=by rw[cdV,dH]
 rw[rN]
 have Cu:∀c∈[x,y,P7 v],c.oneCell'=true:=by
  intro c hc;rcases List.mem_cons.1 hc with rfl|hc
  ·exact Cs
  rcases List.mem_cons.1 hc with rfl|hc
  ·exact Ct
  rcases List.mem_cons.1 hc with rfl|hc
  ·rfl
  ·simp at hc
 refine py (e:=[(0,_),(1,_),(2,_)]) func204 O ntmps204 O O$ qN O$ OP O O (R6 O (cs:=[x,y]) O) ?_
 rintro _ w1 ⟨b3,rfl,dI,ad,au⟩
 have jL:=ad.OH hM.OH
 refine OJ$ OQ O$ qV (OS z0I O O jL O)$ qV (Pv (news:=[x,y]) Sr O QJ O (au.cells (n:=2) O) O)$ OT O$ qV ((Qg O U3 Rw ω))$ qV (Sh (cs:=[_,_,_]) VA O zdy O O)$ OP O O (Yx (cs:=[_,_,_]) (zs:=[Value.int .u8 0,Value.int .u64 0,Value.int .u64 0]) z0I VA O (by kernel_rfl) O O O ψ) ?_
 rintro _ w2 ⟨b2,rfl,⟨bN,ae,ak⟩,dc⟩
 refine OP O O (pap z0I VA O ψ O O ((hM.sl.ext ad).ext ae) dc.rd Cu ω (by simp only[maxLen];omega)) ?_
 rintro v3 w3 ⟨de,av,lu,-⟩
 have mZ:=de.oneV
 have aM:=av.OH (ae.OH jL) hM.ne
 refine OY O (QP zbs O O mZ aM ξ) ?_
 rintro w4 ⟨aK,ar⟩
 replace aK:OU w4 p [v3] 291:=aK
 have z1:=ad.size
 have z2:=ae.size
 have lp:=hM.OH.lt
 have fh:v3.ownBlock≠some p:=λe=>by
  rcases lu p e with e| e
  ·exact hM.ne e
  ·omega
 have eA:=de.kp ar (λg hg e=>fh (e▸hg))
 refine OJ$ Qh func204 O (⟨_,rfl,rfl,fpW p v3,⟨v3,⟨aK,?_,fh⟩,λ_=>Iff.rfl⟩,?_,?_⟩)
 ·rw[List.length_append,List.flatMap_append];have e1:[(c,v)].flatMap z66=[x,y,P7 v]:=by simp[z66,dH]
  rw[e1];exact eA
 ·exact((ad.trans ae).kp.trans (av.ON λk e=>(hF k).2 (.inr e))).trans (ar.ON λk e=>(hF k).2 (.inl e))
 ·intro k hk;rcases hk with e| e
  ·exact .inl ((hF k).2 (.inl e))
  ·rcases lu k e with e| e
   ·exact .inl ((hF k).2 (.inr e))
   ·exact .inr ω
def Vh (rs:List Nat)(f:Bool):List Nat:=if f !=(rs.length%2==1) then rs++[0] else rs
theorem z0J (rs:List Nat)(f:Bool):QZ rs f=(Vh rs f).modify ((Vh rs f).length-1) (·+1):=rfl
abbrev z6Z (n:Nat):Value:=I (n:Int)
def z2F {w:World}{lf rn:Nat}{L:List Nat}{F:Nat->Prop}(h:z2M w lf L F)(hl:L.length<=1000000)(x:Nat)(a:Bool):
  Ps prog 206 [PD x,.bool a,.bool false,ptr lf 0,ptr rn 0] w λu w'=>u= .tuple #[]/\∃F',z2M w' lf (L++[x]) F'/\Kp F w w'/\∀k,F' k->F k\/w.heap.size<=k:=by
 obtain⟨bv,hM,hF⟩:=h
 refine py (e:=[(0,_),(1,_),(2,_),(3,_),(4,_)]) func206 O ntmps206 O O ?_
 have jL:=hM.OH
 refine QO$ Pt O$ qV ((S5 O))$ P3 O$ OZ O$ qN O$ qV (OS Pz O O jL O)$ OT O$ OP O O (Yx (cs:=[_]) (zs:=[Value.int .u32 0]) Pz Pc O (by kernel_rfl) O O O ψ) ?_
 rintro _ w2 ⟨b2,rfl,⟨bN,ae,ak⟩,dc⟩
 refine OP O O (pap Pz Pc O ψ O O (hM.sl.ext ae) dc.rd (by intro c hc;simp at hc;subst hc;rfl) ω (by simp only[maxLen];omega)) ?_
 rintro v3 w3 ⟨de,av,lu,-⟩
 have mZ:=de.oneV
 have aM:=av.OH (ae.OH jL) hM.ne
 refine OY O (QP U7 O O mZ aM ξ) ?_
 rintro w4 ⟨aK,ar⟩
 replace aK:OU w4 lf [v3] 62:=aK
 have z2:=ae.size
 have lp:=hM.OH.lt
 have fh:v3.ownBlock≠some lf:=λe=>by
  rcases lu lf e with e| e
  ·exact hM.ne e
  ·omega
 have eA:=de.kp ar (λg hg e=>fh (e▸hg))
 refine OJ$ OI func206 O (⟨_,rfl,rfl,fpW lf v3,⟨v3,⟨aK,?_,fh⟩,λ_=>Iff.rfl⟩,?_,?_⟩)
 ·rw[List.length_append,List.map_append];exact eA
 ·exact(ae.kp.trans (av.ON λk e=>(hF k).2 (.inr e))).trans (ar.ON λk e=>(hF k).2 (.inl e))
 ·intro k hk;rcases hk with e| e
  ·exact .inl ((hF k).2 (.inl e))
  ·rcases lu k e with e| e
   ·exact .inl ((hF k).2 (.inr e))
   ·exact .inr ω
def Zr {w:World}{lf rn:Nat}{rs:List Nat}{F:Nat->Prop}(h:z1R w rn rs F)(hl:rs.length<=1000000)(bD:rs≠[])(hb:∀m∈rs,m<=1000000)(x:Nat)(a:Bool):
  Ps prog 206 [PD x,.bool a,.bool true,ptr lf 0,ptr rn 0] w λu w'=>u= .tuple #[]/\∃F',z1R w' rn (QZ rs a) F'/\Kp F w w'/\∀k,F' k->F k\/w.heap.size<=k:=by
 have aS:∀k,F k->k<w.heap.size:=λk hk=>h.lt hk
 obtain⟨bv,hM,hF⟩:=id h
 refine py (e:=[(0,_),(1,_),(2,_),(3,_),(4,_)]) func206 O ntmps206 O O ?_
 have jL:=hM.OH
 obtain⟨va,vc,rfl,-⟩:=hM.sl.rd.shape
 refine QO$ Pt O$ qV ((S5 O))$ P3 O$ OR O$ Pt O$ qV (OS Rr O O jL O)$ RO Rr O$ qV (XF O O ω ω) ?_
 rw[Nat.and_one_is_mod]
 refine Rk O$ qV (zed O O U4) ?_
 have hd:decide (((rs.length%2:Nat):Int)=1)=(rs.length%2==1):=by
  rcases Nat.mod_two_eq_zero_or_one rs.length with e|e<;>rw[e]<;>rfl
 rw[hd]
 refine P3 O$ PI (λe' w'=>e'=[(4,ptr rn 0)]/\∃F',z1R w' rn (Vh rs a) F'/\Kp F w w'/\∀k,F' k->F k\/w.heap.size<=k) ?tv$ λtv=>?tw
 case tv=>
  rintro e' w1 ⟨rfl,F1,⟨v1,dA,pw⟩,az,j0⟩
  obtain⟨l,m,ip,eK,hm⟩:∃l m,Vh rs a=l++[m]/\l.length<=1000000/\m<=1000000:=by
   unfold Vh;split
   ·exact⟨rs,0,rfl,hl,ω⟩
   ·refine⟨rs.dropLast,rs.getLast bD,(List.dropLast_concat_getLast bD).symm,by rw[List.length_dropLast];omega,hb _ (List.getLast_mem bD)⟩
  rw[ip] at dA;have eL:(l++[m]).length=l.length+1:=by simp
  rw[eL] at dA;rcases dA.sl.shape with⟨-,h0⟩|⟨g,c1,rfl,ib⟩
  ·omega
  have ai:=dA.OH;refine OG$ OQ O$ qV (OS Rr O O ai O)$ qV (OS Rr O O ai O)$ RO Rr O$ Rt O ?_;rw[show((l.length+1:Nat):Int)-1=(l.length:Int) by omega];refine qV (Qc Rr Qe O O ω)$ qV (PC U3 O O (PY dA.sl.rd (show((l++[m]).map z6Z)[l.length]? =some (z6Z m) by simp))) ?_;refine Q4 O$ qV (Qc Rr Qe O O ω)$ OY O (RV Qe O O O dA.sl ξ) ?_;rintro w2 ⟨dc,am⟩;have ak:=am.OH ai (λe=>dA.ne (by rw[e];rfl));refine OJ$ Qh func206 O (⟨_,rfl,rfl,fpW rn (.slice (some ⟨g,0,none⟩) (l.length+1) c1),⟨_,⟨ak,?_,dA.ne⟩,λ_=>Iff.rfl⟩,?_,?_⟩)
  ·rw[z0J,ip,Wn];have e1:(l++[m+1]).length=l.length+1:=by simp
   rw[e1]
   have e2:((l++[m]).map z6Z).set l.length (z6Z (m+1))=(l++[m+1]).map z6Z:=by
    rw[List.map_append,List.set_append_right _ _ ξ];simp
   rw[<-e2];have e3:l.length*1=l.length:=Nat.mul_one _
   first|exact dc|(simp only[Nat.zero_add,Nat.mul_one] at dc;exact dc)
  ·exact az.It (am.ON (λk e=>(pw k).2 (.inr (by rw[e];rfl)))) (λi hi=>(j0 i hi).symm)
  ·intro k hk;exact j0 k ((pw k).2 hk)
 case tw=>
  refine Qk O (λe1=>?_)$ λe1=>?_
  ·have dC:Vh rs a=rs++[0]:=by unfold Vh;exact if_pos e1
   refine OQ O$ qV (OS Rr O O jL O)$ OP O O (Yx (cs:=[_]) (zs:=[Value.int .i64 0]) Rr Qe O (by kernel_rfl) O O O ψ) ?_;rintro _ w2 ⟨b2,rfl,⟨bN,ae,ak⟩,dc⟩;refine OP O O (pap Rr Qe O ψ O O (hM.sl.ext ae) dc.rd (by intro c hc;simp at hc;subst hc;rfl) ω (by simp only[maxLen];omega)) ?_;rintro v3 w3 ⟨de,av,lu,-⟩;have mZ:=de.oneV;have aM:=av.OH (ae.OH jL) hM.ne;refine OY O (QP z6M O O mZ aM ξ) ?_;rintro w4 ⟨aK,ar⟩;replace aK:OU w4 rn [v3] 37:=aK;have z2:=ae.size;have lp:=hM.OH.lt
   have fh:v3.ownBlock≠some rn:=λe=>by
    rcases lu rn e with e| e
    ·exact hM.ne e
    ·omega
   have eA:=de.kp ar (λg hg e=>fh (e▸hg));refine OJ ((tv _ _ ⟨rfl,fpW rn v3,⟨v3,⟨aK,?_,fh⟩,λ_=>Iff.rfl⟩,?_,?_⟩).qb)
   ·rw[dC,List.length_append,List.map_append];exact eA
   ·exact(ae.kp.trans (av.ON λk e=>(hF k).2 (.inr e))).trans (ar.ON λk e=>(hF k).2 (.inl e))
   ·intro k hk;rcases hk with e| e
    ·exact .inl ((hF k).2 (.inl e))
    ·rcases lu k e with e| e
     ·exact .inl ((hF k).2 (.inr e))
     ·exact .inr ω
  ·have dC:Vh rs a=rs:=by unfold Vh;exact if_neg (by simpa using e1)
   refine OK ?_;exact(tv _ _ ⟨rfl,F,by rw[dC];exact h,Kp.refl _ _,λk hk=> .inl hk⟩).qb
def Vn (s r rs:List Nat):List Nat:=r.foldl (λrs y=>QZ rs (decide (y∈s))) rs
def ZY {s t:List Nat}:∀(r rs:List Nat),(∀y∈r,(y∈s↔y∈t))->Vn s r rs=Vn t r rs
 |[],rs,_=>rfl
 | y :: r, rs, h => by
   have h1:decide (y∈s)=decide (y∈t):=decide_eq_decide.2 (h y List.mem_cons_self);show Vn s r (QZ rs (decide (y∈s)))=Vn t r (QZ rs (decide (y∈t)));rw[h1];exact ZY r _ (λz hz=>h z (List.mem_cons_of_mem _ hz))
def VQ {x z:Nat}{l:List Nat}(h:x<z):z∈x::l↔z∈l:=by
 rw[List.mem_cons]
 constructor
 ·rintro(e|e)
  ·omega
  ·exact e
 ·exact .inr
theorem z3G {x:Nat}{s r:List Nat}(h:∀y∈r,x<y):Pq (x::s) r=x::Pq s r/\∀rs,Vn (x::s) r rs=Vn s r rs:=by
 have hx:x∉r:=λe=>by have:=h x e;omega
 refine⟨?_,λrs=>ZY r rs λy hy=>VQ (h y hy)⟩
 unfold Pq
 rw[List.filter_cons,if_pos (by simpa using hx)]
def z1y {r t:List Nat}(s:List Nat)(h:∀x∈s,(x∈r↔x∈t)):Pq s r=Pq s t:=
 List.filter_congr λx hx=>decide_eq_decide.2 (not_congr (h x hx))
theorem z88 {x:Nat}{s r:List Nat}(hs:∀z∈s,x<z)(hr:∀y∈r,x<y):Pq (x::s) (x::r)=Pq s r/\∀rs,Vn (x::s) (x::r) rs=Vn s r (QZ rs true):=by
 refine⟨?_,λrs=>?_⟩
 ·have:=z1y (r:=x::r) (t:=r) s (λz hz=>VQ (hs z hz));rw[<-this];unfold Pq;rw[List.filter_cons,if_neg ξ]
 ·show Vn (x::s) r (QZ rs (decide (x∈x::s)))=_;rw[decide_eq_true List.mem_cons_self];exact(z3G hr).2 _
theorem z7H {y:Nat}{s r:List Nat}(hs:∀z∈s,y<z):Pq s (y::r)=Pq s r/\∀rs,Vn s (y::r) rs=Vn s r (QZ rs false):=by
 refine⟨z1y s (λz hz=>VQ (hs z hz)),λrs=>?_⟩
 show Vn s r (QZ rs (decide (y∈s)))=_
 rw[decide_eq_false λe=>by have:=hs y e;omega]
def z50 {x y:Nat}{l:List Nat}(hr:Ris (y::l))(h:x<y):∀z∈y::l,x<z:=λz hz=>by
 rcases List.mem_cons.1 hz with e| e
 ·omega
 ·have:=(List.pairwise_cons.1 hr).1 z e;omega
def z1A:∀{l:List Nat} {m:Nat},m∈l->m<=l.sum
 | x :: l, m, h => by
   rw[List.sum_cons];rcases List.mem_cons.1 h with e| e
   ·omega
   ·have:=z1A e;omega
def z5n (rs:List Nat)(f:Bool):(QZ rs f).length<=rs.length+1:=by
 rw[z0J,List.length_modify]
 unfold Vh
 split<;>simp
def TA.le {rs:List Nat}{fs:List Bool}(h:TA rs fs):∀m∈rs,m<=fs.length:=λm hm=>by
 have:=z1A hm
 rw[<-h.exp,SS];exact this
structure U0 (w:World)(succ ref:List Nat)(lf rn:Nat)(FL0 FR0:Nat->Prop)(s:List Nat)(sa:Option Addr)(sc:Nat)(r:List Nat)(ra:Option Addr)(rc:Nat)(L rs:List Nat)(w':World):Prop where
 ex:∃FL FR fs,z2M w' lf L FL/\z1R w' rn rs FR/\TA rs fs/\fs.length+r.length<=65536/\rs.length+r.length<=65537/\(∀k,FL k->FL0 k\/w.heap.size<=k)/\(∀k,FR k->FR0 k\/w.heap.size<=k)/\∀k,FL k->¬FR k
 rdS:∀w2,Kp (λk=>FL0 k\/FR0 k) w w2->Rd w2 (.slice sa s.length sc) 1 s.length (s.map PD)
 rdR:∀w2,Kp (λk=>FL0 k\/FR0 k) w w2->Rd w2 (.slice ra r.length rc) 1 r.length (r.map PD)
 clS:s.length<=sc
 clR:r.length<=rc
 kp:Kp (λk=>FL0 k\/FR0 k) w w'
 okS:PG s
 okR:PG r
 left:Pq succ ref=L++Pq s r
 fold:Rb succ ref=Vn s r rs
 zfj:L.length+s.length<=65536
section
variable {w w1 w2:World}{succ ref:List Nat}{lf rn:Nat}{FL0 FR0:Nat->Prop}{s r L rs:List Nat}{sa ra:Option Addr}{sc rc:Nat}{x y:Nat}
def U0.ext (h:U0 w succ ref lf rn FL0 FR0 s sa sc r ra rc L rs w1)(hx:Ext w1 w2):U0 w succ ref lf rn FL0 FR0 s sa sc r ra rc L rs w2:=by
 obtain⟨FL,FR,fs,h1,h2,h3⟩:=h.ex
 exact⟨⟨FL,FR,fs,h1.ext hx,h2.ext hx,h3⟩,h.rdS,h.rdR,h.clS,h.clR,h.kp.trans hx.kp,h.okS,h.okR,h.left,h.fold,h.zfj⟩
def U0.z7X (h:U0 w succ ref lf rn FL0 FR0 (x::s) sa sc r ra rc L rs w1):∃b off,sa=some ⟨b,off,none⟩/\∀w2,Kp (λk=>FL0 k\/FR0 k) w w2->w2.cell? ⟨b,off+0*1,none⟩=some (PD x):=by
 rcases (h.rdS w1 h.kp).2 with⟨c,-,h0⟩|⟨b,off,cap,hv,-⟩
 ·exact absurd h0 ξ
 ·cases hv;exact⟨b,off,rfl,λw2 k=>PY (h.rdS w2 k) O⟩
def U0.z8a (h:U0 w succ ref lf rn FL0 FR0 s sa sc (y::r) ra rc L rs w1):∃b off,ra=some ⟨b,off,none⟩/\∀w2,Kp (λk=>FL0 k\/FR0 k) w w2->w2.cell? ⟨b,off+0*1,none⟩=some (PD y):=by
 rcases (h.rdR w1 h.kp).2 with⟨c,-,h0⟩|⟨b,off,cap,hv,-⟩
 ·exact absurd h0 ξ
 ·cases hv;exact⟨b,off,rfl,λw2 k=>PY (h.rdR w2 k) O⟩
def U0.zeg (h:U0 w succ ref lf rn FL0 FR0 (x::s) sa sc r ra rc L rs w1){FL FR:Nat->Prop}{fs:List Bool}(he:z2M w1 lf L FL/\z1R w1 rn rs FR/\TA rs fs/\fs.length+r.length<=65536/\rs.length+r.length<=65537/\(∀k,FL k->FL0 k\/w.heap.size<=k)/\(∀k,FR k->FR0 k\/w.heap.size<=k)/\∀k,FL k->¬FR k)
  (hr:∀y∈r,x<y) (hw:∃FL',z2M w2 lf (L++[x]) FL'/\Kp FL w1 w2/\∀k,FL' k->FL k\/w1.heap.size<=k):
  U0 w succ ref lf rn FL0 FR0 s (if sc=1 then sa else sa.map (·.add (1*1))) (sc-1) r ra rc (L++[x]) rs w2:=by
 obtain⟨-,k1,k2,k3,k4,k5,k6,k7,k8,k9,k10⟩:=h
 obtain⟨h1,h2,h3,h4,h5,h6,h7,h8⟩:=he
 obtain⟨FL',g1,g2,g3⟩:=hw
 have hz:=k5.size
 rw[List.length_cons] at k3 k10
 refine⟨⟨FL',FR,fs,g1,h2.kp g2 (λi hi e=>h8 i e hi),h3,h4,h5,λk hk=>?_,h7,λk hk e=>?_⟩,λw2 k=>?_,k2,ω,k4,k5.It g2 (λi hi=>?_),k6.sub (List.sublist_cons_self _ _),k7,?_,?_,?_⟩
 ·rcases g3 k hk with e| e
  ·exact h6 k e
  ·exact .inr ω
 ·rcases g3 k hk with e2|e2
  ·exact h8 k e2 e
  ·have:=h2.lt e;omega
 ·have:=TO (k1 w2 k) (i:=1) (by rw[List.length_cons];omega) (by rw[List.length_cons];omega);exact this
 ·rcases h6 i hi with e| e
  ·exact .inr (.inl e)
  ·exact .inl e
 ·rw[k8,(z3G hr).1,List.append_assoc];rfl
 ·rw[k9,(z3G hr).2]
 ·rw[List.length_append,List.length_singleton];omega
def U0.zaC {s2:List Nat}{sa2:Option Addr}{sc2:Nat}{f:Bool}(h:U0 w succ ref lf rn FL0 FR0 s sa sc (y::r) ra rc L rs w1)(hs:(s2=s/\sa2=sa/\sc2=sc/\f=false/\∀z∈s,y<z)\/(s=y::s2/\sa2=(if sc=1 then sa else sa.map (·.add (1*1)))/\sc2=sc-1/\f=true))
  {FL FR:Nat->Prop} {fs:List Bool} (he:z2M w1 lf L FL/\z1R w1 rn rs FR/\TA rs fs/\fs.length+(y::r).length<=65536/\rs.length+(y::r).length<=65537/\(∀k,FL k->FL0 k\/w.heap.size<=k)/\(∀k,FR k->FR0 k\/w.heap.size<=k)/\∀k,FL k->¬FR k)
  (hw:∃FR',z1R w2 rn (QZ rs f) FR'/\Kp FR w1 w2/\∀k,FR' k->FR k\/w1.heap.size<=k):
  U0 w succ ref lf rn FL0 FR0 s2 sa2 sc2 r (if rc=1 then ra else ra.map (·.add (1*1))) (rc-1) L (QZ rs f) w2:=by
 obtain⟨-,k1,k2,k3,k4,k5,k6,k7,k8,k9,k10⟩:=h
 obtain⟨h1,h2,h3,h4,h5,h6,h7,h8⟩:=he
 rw[List.length_cons] at h4 h5 k4
 obtain⟨FR',g1,g2,g3⟩:=hw
 have hz:=k5.size
 have ia:=z5n rs f
 have I3:∀z∈r,y<z:=(List.pairwise_cons.1 k7.ris).1
 have vV:∃FL FR fs,z2M w2 lf L FL/\z1R w2 rn (QZ rs f) FR/\TA (QZ rs f) fs/\fs.length+r.length<=65536/\(QZ rs f).length+r.length<=65537/\(∀k,FL k->FL0 k\/w.heap.size<=k)/\(∀k,FR k->FR0 k\/w.heap.size<=k)/\∀k,FL k->¬FR k:=by
  refine⟨FL,FR',fs++[f],h1.kp g2 (λi hi e=>h8 i hi e),g1,h3.step f,by rw[List.length_append,List.length_singleton];omega,ω,h6,λk hk=>?_,λk hk e=>?_⟩
  ·rcases g3 k hk with e| e
   ·exact h7 k e
   ·exact .inr ω
  ·rcases g3 k e with e2|e2
   ·exact h8 k hk e2
   ·have:=h1.lt hk;omega
 have tz:Kp (λk=>FL0 k\/FR0 k) w w2:=k5.It g2 (λi hi=>by
  rcases h7 i hi with e| e
  ·exact .inr (.inr e)
  ·exact .inl e)
 have eJ:∀w2,Kp (λk=>FL0 k\/FR0 k) w w2->Rd w2 (.slice (if rc=1 then ra else ra.map (·.add (1*1))) r.length (rc-1)) 1 r.length (r.map PD):=λw2 k=>
  TO (k2 w2 k) (i:=1) (by rw[List.length_cons];omega) (by rw[List.length_cons];omega)
 rcases hs with⟨rfl,rfl,rfl,rfl,hg⟩|⟨rfl,rfl,rfl,rfl⟩
 ·exact⟨vV,k1,eJ,k3,ω,tz,k6,k7.sub (List.sublist_cons_self _ _),by rw[k8,(z7H hg).1],by rw[k9,(z7H hg).2],k10⟩
 ·have I4:∀z∈s2,y<z:=(List.pairwise_cons.1 k6.ris).1;rw[List.length_cons] at k3 k10;refine⟨vV,λw2 k=>?_,eJ,ω,ω,tz,k6.sub (List.sublist_cons_self _ _),k7.sub (List.sublist_cons_self _ _),by rw[k8,(z88 I4 I3).1],by rw[k9,(z88 I4 I3).2],ω⟩;exact TO (k1 w2 k) (i:=1) (by rw[List.length_cons];omega) (by rw[List.length_cons];omega)
end
def zaO {w:World}{succ ref:List Nat}{lf rn:Nat}{FL0 FR0:Nat->Prop}{sa ra:Option Addr}{sc rc:Nat}(JO:U0 w succ ref lf rn FL0 FR0 succ sa sc ref ra rc [] [0] w):
  Ps prog 205 [.slice sa succ.length sc,.slice ra ref.length rc,.func (.func 206) #[] #[ptr lf 0,ptr rn 0]] w λu w'=>u= .tuple #[]/\
   ∃FL FR,z2M w' lf (Pq succ ref) FL/\z1R w' rn (Rb succ ref) FR/\(∀k,FL k->FL0 k\/w.heap.size<=k)/\(∀k,FR k->FR0 k\/w.heap.size<=k)/\(∀k,FL k->¬FR k)/\Kp (λk=>FL0 k\/FR0 k) w w':=by
 refine py (e:=[(0,_),(1,_),(2,_)]) func205 O ntmps205 O O$ OL$ RN (α:=List Nat×Option Addr×Nat×List Nat×Option Addr×Nat×List Nat×List Nat) ((succ,sa,sc,ref,ra,rc,[],[0])) (λx=>[(0,.slice x.2.1 x.1.length x.2.2.1),(1,.slice x.2.2.2.2.1 x.2.2.2.1.length x.2.2.2.2.2.1),(2,.func (.func 206) #[] #[ptr lf 0,ptr rn 0])]) (λx w'=>U0 w succ ref lf rn FL0 FR0 x.1 x.2.1 x.2.2.1 x.2.2.2.1 x.2.2.2.2.1 x.2.2.2.2.2.1 x.2.2.2.2.2.2.1 x.2.2.2.2.2.2.2 w') (λx=>x.1.length+x.2.2.2.1.length) ?hI ?hround
 case hI=>exact JO
 case hround=>
  rintro⟨s,sa,sc,r,ra,rc,L,rs⟩ w6 hI ih;dsimp only at hI
  try dsimp only
  have hg:=(Ext.refl w6).drew;have aa:=hg.drew;have cT:=hI.ext aa;have p0:([]:List Nat).length=0:=rfl;have lz:=hI.okS.len;have xj:=hI.okR.len;rcases s with _|⟨x,s⟩
  ·rcases r with _|⟨y,r⟩
   ·refine PR O$ RO Pz O$ QD O$ PO$ Pl O$ RO Pz O$ QD O$ PO$ PT O$ OJ$ OR O$ OV O$ Qh func205 O ?_;have rO:=hI.left;have xl:=hI.fold;obtain⟨FL,FR,fs,h1,h2,h3,h4,h5,h6,h7,h8⟩:=hI.ex;rw[rO,xl];exact⟨_,rfl,rfl,FL,FR,by simpa[Pq] using h1,h2,h6,h7,h8,hI.kp⟩
   ·skip
    obtain⟨b2,off2,rfl,mX⟩:=hI.z8a;have p1:0<((y::r:List Nat).length:Int):=by rw[List.length_cons];omega
    have p3:¬(((y::r).length:Int)=0):=by omega
    refine PR O$ RO Pz O$ QD O$ PO$ Pl O$ RO Pz O$ QD O$ RP$ PT O$ OJ$ OZ O$ OK$ OL$ An ?_;refine R0 (λw'=>Ext w6 w') O$ P8 0 O O (hg)$ OM 1 O (SI Pz O) hg$ OM 2 O (yeq O O) hg$ TC$ P8 3 O O (hg)$ P8 4 O O (hg)$ OM 5 O (SI Pz O) hg$ OM 6 O (Y7 O O) hg$ TC$ P8 7 O O (hg)$ qJ 8 O (hg)$ qJ 9 O (hg)$ qJ 10 O (hg) ?_;refine qJ 11 O (hg)$ qJ 12 O (hg)$ qJ 13 O (hg)$ qJ 14 O (hg)$ OM 15 O (U6 O O) hg$ OM 16 O (U6 O O) hg$ OM 17 O (Rv O) hg$ qE$ An$ R0 (λw'=>Ext w6 w') O$ P8 0 O O (aa)$ OM 1 O (SI Pz O) aa$ OM 2 O (yeq O O) aa$ TN ?_;refine P8 3 O O (aa)$ qJ 4 O (aa)$ qJ 5 O (aa)$ qJ 6 O (aa)$ qJ 7 O (aa)$ qJ 8 O (aa)$ qJ 9 O (aa)$ qJ 10 O (aa)$ qJ 11 O (aa)$ qJ 12 O (aa)$ qJ 13 O (aa)$ qJ 14 O (aa)$ qJ 15 O (aa)$ OM 16 O (UG O O) aa ?_;refine OM 17 O (Rv O) aa$ qE$ PR O$ OJ$ OR O$ OQ O$ Pl O$ qV (Qc Pz Pc O O ω)$ qV (PC QU O O (mX _ cT.kp)) ?_;obtain⟨FL,FR,fs,h1,h2,h3,h4,h5,h6,h7,h8⟩:=cT.ex;refine Qw O O (RW z4b O O) (Zr h2 ω h3.ne (λm hm=>by have:=h3.le m hm;omega) y false) ?_;rintro _ w7 ⟨rfl,pY⟩;refine qM O$ OT O$ OJ$ OZ O$ Rp O$ qV (Yq Pz Pc O O (by rw[List.length_cons];omega) hI.clR) ?_;refine P3 O$ OG ?_;exact(ih ([],sa,sc,r,_,rc-1,L,QZ rs false) _ (cT.zaC (.inl ⟨rfl,rfl,rfl,rfl,λz hz=>by simp at hz⟩) ⟨h1,h2,h3,h4,h5,h6,h7,h8⟩ pY) (by dsimp only;simp only[List.length_cons,List.length_nil];omega)).qb
  ·rcases r with _|⟨y,r⟩
   ·obtain⟨b,off,rfl,n8⟩:=hI.z7X
    skip
    have p1:0<((x::s:List Nat).length:Int):=by rw[List.length_cons];omega
    have p4:¬(((x::s).length:Int)=0):=by omega
    refine PR O$ RO Pz O$ QD O$ RP$ OT O$ QY$ qS$ Ra O$ OJ$ OZ O$ OK$ OL$ An$ R0 (λw'=>Ext w6 w') O ?_;refine P8 0 O O (hg)$ OM 1 O (SI Pz O) hg$ OM 2 O (yeq O O) hg$ TN$ P8 3 O O (hg)$ qJ 4 O (hg)$ qJ 5 O (hg)$ qJ 6 O (hg)$ qJ 7 O (hg)$ qJ 8 O (hg)$ qJ 9 O (hg)$ qJ 10 O (hg)$ qJ 11 O (hg)$ qJ 12 O (hg) ?_;refine qJ 13 O (hg)$ qJ 14 O (hg)$ qJ 15 O (hg)$ OM 16 O (UG O O) hg$ OM 17 O (Rv O) hg$ qE$ An$ R0 (λw'=>Ext w6 w') O$ P8 0 O O (aa)$ OM 1 O (SI Pz O) aa$ OM 2 O (yeq O O) aa$ TC$ P8 3 O O (aa)$ P8 4 O O (aa) ?_;refine OM 5 O (SI Pz O) aa$ OM 6 O (Y7 O O) aa$ TC$ P8 7 O O (aa)$ qJ 8 O (aa)$ qJ 9 O (aa)$ qJ 10 O (aa)$ qJ 11 O (aa)$ qJ 12 O (aa)$ qJ 13 O (aa)$ qJ 14 O (aa)$ OM 15 O (U6 O O) aa$ OM 16 O (U6 O O) aa$ OM 17 O (Rv O) aa ?_;refine qE$ PR O$ OJ$ OZ O$ QI O$ qV (Qc Pz Pc O O ω)$ qV (PC QU O O (n8 _ cT.kp))$ OT O ?_;obtain⟨FL,FR,fs,h1,h2,h3,h4,h5,h6,h7,h8⟩:=cT.ex;have JP:=cT.zfj;refine Qw O O (RW z4b O O) (z2F h1 ω x true) ?_;rintro _ w7 ⟨rfl,pY⟩;refine OJ$ Rp O$ qV (Yq Pz Pc O O (by rw[List.length_cons];omega) hI.clS) ?_;refine R3 O$ Qm O$ OG ?_;exact(ih (s,_,sc-1,[],ra,rc,L++[x],rs) _ (cT.zeg ⟨h1,h2,h3,h4,h5,h6,h7,h8⟩ (λz hz=>by simp at hz) pY) (by dsimp only;simp only[List.length_cons,List.length_nil];omega)).qb
   ·rcases Nat.lt_trichotomy x y with dH|dH|dH
    ·obtain⟨b,off,rfl,n8⟩:=hI.z7X;obtain⟨b2,off2,rfl,mX⟩:=hI.z8a;have p1:0<((x::s:List Nat).length:Int):=by rw[List.length_cons];omega
     have p2:0<((y::r).length:Int):=by rw[List.length_cons];omega
     have p3:¬(((y::r).length:Int)=0):=by omega
     have p4:¬(((x::s).length:Int)=0):=by omega
     refine PR O$ RO Pz O$ QD O$ RP$ OT O$ QY$ qS$ Ra O$ OJ$ OZ O$ OK$ OL$ An$ R0 (λw'=>Ext w6 w') O ?_;refine P8 0 O O (hg)$ OM 1 O (SI Pz O) hg$ OM 2 O (yeq O O) hg$ TC$ P8 3 O O (hg)$ P8 4 O O (hg)$ OM 5 O (SI Pz O) hg$ OM 6 O (Y7 O O) hg$ TN$ P8 7 O O (hg)$ P8 8 O O (hg)$ OM 9 O (Qc Pz Pc O O ω) hg$ P8 11 O O (hg)$ OM 12 O (Qc Pz Pc O O ω) hg ?_;refine qT 10 O (λ_ h=>PC QU O O (n8 _ (hI.kp.trans h.kp))) hg$ qT 13 O (λ_ h=>PC QU O O (mX _ (hI.kp.trans h.kp))) hg$ OM 14 O (Z3 O O) hg$ TN$ OM 15 O (UG O O) hg$ OM 16 O (U6 O O) hg$ OM 17 O (Rv O) hg$ qE$ An$ R0 (λw'=>Ext w6 w') O$ P8 0 O O (aa)$ OM 1 O (SI Pz O) aa$ OM 2 O (yeq O O) aa$ TC ?_;refine P8 3 O O (aa)$ P8 4 O O (aa)$ OM 5 O (SI Pz O) aa$ OM 6 O (Y7 O O) aa$ TN$ P8 7 O O (aa)$ P8 8 O O (aa)$ OM 9 O (Qc Pz Pc O O ω) aa$ P8 11 O O (aa)$ OM 12 O (Qc Pz Pc O O ω) aa$ qT 10 O (λ_ h=>PC QU O O (mX _ (hI.kp.trans h.kp))) aa$ qT 13 O (λ_ h=>PC QU O O (n8 _ (hI.kp.trans h.kp))) aa$ OM 14 O (Z3 O O) aa$ TC ?_;refine OM 15 O (UG O O) aa$ OM 16 O (U6 O O) aa$ OM 17 O (Rv O) aa$ qE$ PR O$ OJ$ OZ O$ QI O$ qV (Qc Pz Pc O O ω)$ qV (PC QU O O (n8 _ cT.kp))$ OT O ?_;obtain⟨FL,FR,fs,h1,h2,h3,h4,h5,h6,h7,h8⟩:=cT.ex;have JP:=cT.zfj;refine Qw O O (RW z4b O O) (z2F h1 ω x true) ?_;rintro _ w7 ⟨rfl,pY⟩;refine OJ$ Rp O$ qV (Yq Pz Pc O O (by rw[List.length_cons];omega) hI.clS) ?_;refine R3 O$ Qm O$ OG ?_;exact(ih (s,_,sc-1,y::r,_,rc,L++[x],rs) _ (cT.zeg ⟨h1,h2,h3,h4,h5,h6,h7,h8⟩ (z50 hI.okR.ris dH) pY) (by dsimp only;simp only[List.length_cons,List.length_nil];omega)).qb
    ·obtain⟨b,off,rfl,n8⟩:=hI.z7X;obtain⟨b2,off2,rfl,mX⟩:=hI.z8a;have p1:0<((x::s:List Nat).length:Int):=by rw[List.length_cons];omega
     have p2:0<((y::r).length:Int):=by rw[List.length_cons];omega
     have p3:¬(((y::r).length:Int)=0):=by omega
     have p4:¬(((x::s).length:Int)=0):=by omega
     refine PR O$ RO Pz O$ QD O$ RP$ OT O$ QY$ qS$ Ra O$ OJ$ OZ O$ OK$ OL$ An$ R0 (λw'=>Ext w6 w') O ?_;refine P8 0 O O (hg)$ OM 1 O (SI Pz O) hg$ OM 2 O (yeq O O) hg$ TC$ P8 3 O O (hg)$ P8 4 O O (hg)$ OM 5 O (SI Pz O) hg$ OM 6 O (Y7 O O) hg$ TN$ P8 7 O O (hg)$ P8 8 O O (hg)$ OM 9 O (Qc Pz Pc O O ω) hg$ P8 11 O O (hg)$ OM 12 O (Qc Pz Pc O O ω) hg ?_;refine qT 10 O (λ_ h=>PC QU O O (n8 _ (hI.kp.trans h.kp))) hg$ qT 13 O (λ_ h=>PC QU O O (mX _ (hI.kp.trans h.kp))) hg$ OM 14 O (Z3 O O) hg$ TN$ OM 15 O (UG O O) hg$ OM 16 O (U6 O O) hg$ OM 17 O (Rv O) hg$ qE$ An$ R0 (λw'=>Ext w6 w') O$ P8 0 O O (aa)$ OM 1 O (SI Pz O) aa$ OM 2 O (yeq O O) aa$ TC ?_;refine P8 3 O O (aa)$ P8 4 O O (aa)$ OM 5 O (SI Pz O) aa$ OM 6 O (Y7 O O) aa$ TN$ P8 7 O O (aa)$ P8 8 O O (aa)$ OM 9 O (Qc Pz Pc O O ω) aa$ P8 11 O O (aa)$ OM 12 O (Qc Pz Pc O O ω) aa$ qT 10 O (λ_ h=>PC QU O O (mX _ (hI.kp.trans h.kp))) aa$ qT 13 O (λ_ h=>PC QU O O (n8 _ (hI.kp.trans h.kp))) aa$ OM 14 O (Z3 O O) aa$ TN ?_;refine OM 15 O (UG O O) aa$ OM 16 O (U6 O O) aa$ OM 17 O (Rv O) aa$ qE$ PR O$ OJ$ OZ O$ QI O$ qV (Qc Pz Pc O O ω)$ qV (PC QU O O (n8 _ cT.kp))$ OT O ?_;obtain⟨FL,FR,fs,h1,h2,h3,h4,h5,h6,h7,h8⟩:=cT.ex;refine Qw O O (RW z4b O O) (Zr h2 ω h3.ne (λm hm=>by have:=h3.le m hm;omega) x true) ?_;rintro _ w7 ⟨rfl,pY⟩;refine OJ$ Rp O$ qV (Yq Pz Pc O O (by rw[List.length_cons];omega) hI.clS) ?_;refine R3 O$ OJ$ OZ O$ Rp O$ qV (Yq Pz Pc O O (by rw[List.length_cons];omega) hI.clR) ?_;refine P3 O$ OG ?_;subst dH;exact(ih (s,_,sc-1,r,_,rc-1,L,QZ rs true) _ (cT.zaC (.inr ⟨rfl,rfl,rfl,rfl⟩) ⟨h1,h2,h3,h4,h5,h6,h7,h8⟩ pY) (by dsimp only;simp only[List.length_cons,List.length_nil];omega)).qb
    ·obtain⟨b,off,rfl,n8⟩:=hI.z7X;obtain⟨b2,off2,rfl,mX⟩:=hI.z8a;have p1:0<((x::s:List Nat).length:Int):=by rw[List.length_cons];omega
     have p2:0<((y::r).length:Int):=by rw[List.length_cons];omega
     have p3:¬(((y::r).length:Int)=0):=by omega
     have p4:¬(((x::s).length:Int)=0):=by omega
     refine PR O$ RO Pz O$ QD O$ RP$ OT O$ QY$ qS$ Ra O$ OJ$ OZ O$ OK$ OL$ An$ R0 (λw'=>Ext w6 w') O ?_;refine P8 0 O O (hg)$ OM 1 O (SI Pz O) hg$ OM 2 O (yeq O O) hg$ TC$ P8 3 O O (hg)$ P8 4 O O (hg)$ OM 5 O (SI Pz O) hg$ OM 6 O (Y7 O O) hg$ TN$ P8 7 O O (hg)$ P8 8 O O (hg)$ OM 9 O (Qc Pz Pc O O ω) hg$ P8 11 O O (hg)$ OM 12 O (Qc Pz Pc O O ω) hg ?_;refine qT 10 O (λ_ h=>PC QU O O (n8 _ (hI.kp.trans h.kp))) hg$ qT 13 O (λ_ h=>PC QU O O (mX _ (hI.kp.trans h.kp))) hg$ OM 14 O (Z3 O O) hg$ TC$ OM 15 O (UG O O) hg$ OM 16 O (U6 O O) hg$ OM 17 O (Rv O) hg$ qE$ An$ R0 (λw'=>Ext w6 w') O$ P8 0 O O (aa)$ OM 1 O (SI Pz O) aa$ OM 2 O (yeq O O) aa$ TC ?_;refine P8 3 O O (aa)$ P8 4 O O (aa)$ OM 5 O (SI Pz O) aa$ OM 6 O (Y7 O O) aa$ TN$ P8 7 O O (aa)$ P8 8 O O (aa)$ OM 9 O (Qc Pz Pc O O ω) aa$ P8 11 O O (aa)$ OM 12 O (Qc Pz Pc O O ω) aa$ qT 10 O (λ_ h=>PC QU O O (mX _ (hI.kp.trans h.kp))) aa$ qT 13 O (λ_ h=>PC QU O O (n8 _ (hI.kp.trans h.kp))) aa$ OM 14 O (Z3 O O) aa$ TN ?_;refine OM 15 O (UG O O) aa$ OM 16 O (U6 O O) aa$ OM 17 O (Rv O) aa$ qE$ PR O$ OJ$ OR O$ OQ O$ Pl O$ qV (Qc Pz Pc O O ω)$ qV (PC QU O O (mX _ cT.kp)) ?_;obtain⟨FL,FR,fs,h1,h2,h3,h4,h5,h6,h7,h8⟩:=cT.ex;refine Qw O O (RW z4b O O) (Zr h2 ω h3.ne (λm hm=>by have:=h3.le m hm;omega) y false) ?_;rintro _ w7 ⟨rfl,pY⟩;refine qM O$ OT O$ OJ$ OZ O$ Rp O$ qV (Yq Pz Pc O O (by rw[List.length_cons];omega) hI.clR) ?_;refine P3 O$ OG ?_;exact(ih (x::s,_,sc,r,_,rc-1,L,QZ rs false) _ (cT.zaC (.inl ⟨rfl,rfl,rfl,rfl,z50 hI.okS.ris dH⟩) ⟨h1,h2,h3,h4,h5,h6,h7,h8⟩ pY) (by dsimp only;simp only[List.length_cons,List.length_nil];omega)).qb
structure TkM (w:World)(t r:Nat)(s:OO)(a:Nat):Prop where
 OH:OU w t [ptr r 0,.bool false] 339
 rd:TS w r s a
 ne:t≠r
def TkM.ext {w w':World}{t r a:Nat}{s:OO}(h:TkM w t r s a)(hx:Ext w w'):TkM w' t r s a:=⟨hx.OH h.OH,⟨hx.OH h.rd.1,h.rd.2⟩,h.ne⟩
def Ui {w:World}{t r a:Nat}{s:OO}(h:TkM w t r s a)(c:Cd)(v n:Nat)(hc:c.Qx)(hv:v<=c.most)(hn:v<=n)(jM:n<9223372036854775808)(rest:List Bool)(hb:(Pf s).drop a=c.enc v++rest):
  Ps prog 232 [ptr t 0,cdV c,I (n:Int)] w λu w'=>u=I (v:Int)/\TkM w' t r s (a+(c.enc v).length)/\Kp (λk=>k=r) w w':=by
 obtain⟨x,y,dH⟩:∃x y,Sq c=[x,y]:=by cases c<;>exact⟨_,_,rfl⟩
 have rN:cdV c= .agg [x,y].toArray:=by rw[cdV,dH]
 have fA:=c.z0n
 rw[rN]
 refine py (e:=[(0,_),(1,_),(2,_)]) func232 O ntmps232 O O$ qN O$ OP O O (R6 O (cs:=[x,y]) O) ?_
 rintro _ w1 ⟨b4,rfl,fX,ad,aM⟩
 have h1:=h.ext ad
 have Cv:¬b4=r:=by have:=h.rd.1.lt;omega
 have hg:=(Ext.refl w1).drew
 refine P3 O$ An$ R0 (λw'=>Kp (λk=>k=r) w1 w') O$ P8 0 O O (hg.kp)$ OM 1 O (Qd O) (hg.kp)$ OM 2 O (Px zcS O) (hg.kp)$ qT 3 O (λ_ hS=>OS Vf O O (hS.OH h1.OH h.ne) O) (hg.kp)$ qT 4 O (λ_ h=>Pv (news:=[x,y]) Sr O QJ O ((h.OH aM Cv).cells (n:=2) O) O) (hg.kp) ?_
 rw[<-rN]
 refine S1 5 O zaU O (Zw (⟨hg.OH h1.rd.1,h1.rd.2⟩:TS _ r s a) c v hc hv rest hb) ?_
 rintro _ w2 ⟨rfl,dg,am⟩
 refine⟨hg.kp.trans am,?_⟩
 have na:=hg.kp.trans am
 have au:=na.OH h1.OH h.ne
 refine P8 6 O O (hg.kp.trans am)$ OM 7 O (Ry O O) (hg.kp.trans am)$ OM 8 O (Ry O O) (hg.kp.trans am)$ OM 9 O (Rv O) (hg.kp.trans am)$ OM 10 O (Rv O) (hg.kp.trans am)$ qE$ PR O$ QF O$ Pl O$ OT O$ qV ((Qg O U3 Rw ω))$ QD O$ PO$ PT O ?_
 refine Qm O$ Pt O$ qV (PQ O Rw U3 ω)$ P3 O$ Pu.qb (e:=[(6,_)]) ?_
 refine OI func232 O ?_
 exact⟨_,rfl,rfl,⟨au,dg,h.ne⟩,ad.kp.trans na⟩
theorem Q7 (q:Cd×Nat)(l:List (Cd×Nat)):Ph (q::l)=q.1.enc q.2++Ph l:=rfl
def Sj {s e rest:List Bool}{a:Nat}(h:s.drop a=e++rest):s.drop (a+e.length)=rest:=by
 rw[<-List.drop_drop,h,List.drop_left]
structure CpI (w:World)(t r:Nat)(s:OO)(rs ref:List Nat)(rest:List Bool)(aE i:Nat)(rs2 ref2:List Nat)(sa:Option Addr)(sc:Nat)(v5:Value)(O_:List Nat)(a:Nat)(w':World):Prop where
 tk:TkM w' t r s a
 kp:Kp (λk=>k=r) w w'
 sl:Sl w' v5 59 1 O_.length (O_.map PD)
 fr:∀g,v5.ownBlock=some g->w.heap.size<=g
 len:rs.length=i+rs2.length
 rd:∀w2,Kp (λk=>k=r) w w2->Rd w2 (.slice sa ref2.length sc) 1 ref2.length (ref2.map PD)
 cl:ref2.length<=sc
 sum:rs2.sum<=ref2.length
 pos:∀m∈rs2.drop (1-min i 1),1<=m
 bits:(Pf s).drop a=Ph (Qo i rs2)++rest
 z48:a+(Ph (Qo i rs2)).length=aE
 eq:copyL true rs ref=O_++copyL (i%2==0) rs2 ref2
 tot:O_.length+ref2.length<=65536
theorem z9W (a:Addr):a.add 0=a:=by
 unfold Addr.add
 split<;>simp_all
def zca {P:Program}{e:Env}{d:Option Nat}{ty t el:TypeId}{pos:String}{aft:Array Edge}{g:Option (Nat×Bool)}{x u:Operand}{w:World}{z:Value}{size bytes n cap j:Nat}{a:Option Addr}{k:IntKind}{zb:Int}[wW:Th zb j](ht:P.underlying t=some (.slice el))(hs:TI P el z size bytes)(hx:look e x=some (.slice a n cap))
  (hu:look e u=some (.int k zb)) (h:j<=cap):
  Y P e ⟨d,.slice t x none (some u) none,ty,pos,aft,g⟩ (.slice a j cap) w w:=fun ρ hρ=>by
 obtain⟨rfl⟩:=wW
 have cD:=hs.size (w:=w)
 have h1:∀w,(Instr.sliceBound (.int k (j:Int)) cap .sliceAcap).run P w= .ok j w:=λw=>by rw[run_sliceBound _ _ _ _ _ ω ω];simp
 cases a with
 |none=>simp[execOp,hρ _ _ hx,hρ _ _ hu,Instr.sliceAt,run_underlying ht,Instr.slice,Instr.sliceBounds,h1,cD]
 |some a=>simp[execOp,hρ _ _ hx,hρ _ _ hu,Instr.sliceAt,run_underlying ht,Instr.slice,Instr.sliceBounds,h1,cD,z9W]
def z4l {w:World}{t r a:Nat}{s:OO}(h:TkM w t r s a)(hG:OU w 1 (Sq .gamma) 294)(dh:¬1=r){sa:Option Addr}{sc:Nat}(ref rs:List Nat)
  (eJ:∀w2,Kp (λk=>k=r) w w2->Rd w2 (.slice sa ref.length sc) 1 ref.length (ref.map PD)) (fF:ref.length<=sc) (xj:ref.length<=65536) (hn:rs.length<=ref.length+1) (gR:rs.sum<=ref.length)
  (iq:∀m∈rs.drop 1,1<=m) (rest:List Bool) (hb:(Pf s).drop a=Ph ((.gamma,rs.length)::Qo 0 rs)++rest):
  Ps prog 224 [ptr t 0,.slice sa ref.length sc] w λu w'=>Sl w' u 59 1 (copyL true rs ref).length ((copyL true rs ref).map PD)/\(∀g,u.ownBlock=some g->w.heap.size<=g)/\
   TkM w' t r s (a+(Ph ((.gamma,rs.length)::Qo 0 rs)).length)/\Kp (λk=>k=r) w w':=by
 have jN:∀v:Nat,v<=65537->v<=Cd.most .gamma:=λv hv=>by simp only[Cd.most];omega
 refine py (e:=[(0,_),(1,_)]) func224 O ntmps224 O O$ qN O$ QW O$ R3 O$ qV (Pv (news:=[.int .u8 1,P7 0]) Sr O QJ O (hG.cells (n:=2) O) O)$ OT O$ RO Pz O ?_
 rw[Q7,List.append_assoc] at hb
 rw[show((ref.length:Nat):Int)=((ref.length:Nat):Int) from rfl]
 refine Q4 O$ Pb z2E O (Ui h .gamma rs.length (ref.length+1) trivial (jN _ ω) ω ω _ hb) ?_
 rintro _ w1 ⟨rfl,h1,az⟩
 have bK:=Sj hb
 refine P3 O$ An$ QI O$ OJ$ OL$ RN (α:=Nat×List Nat×List Nat×Option Addr×Nat×Value×List Nat×Nat) ((0,rs,ref,sa,sc,.slice none 0 0,[],a+(Cd.enc .gamma rs.length).length)) (λx=>[(0,ptr t 0),(1,.slice x.2.2.2.1 x.2.2.1.length x.2.2.2.2.1),(5,x.2.2.2.2.2.1),(6,I (rs.length:Int)),(15,I (rs.length:Int)),(16,I (x.1:Int))]) (λx w'=>CpI w t r s rs ref rest (a+(Ph ((.gamma,rs.length)::Qo 0 rs)).length) x.1 x.2.1 x.2.2.1 x.2.2.2.1 x.2.2.2.2.1 x.2.2.2.2.2.1 x.2.2.2.2.2.2.1 x.2.2.2.2.2.2.2 w') (λx=>x.2.1.length) ?hI ?hround
 case hI=>exact⟨h1,az,Sl.nil _ _ _,(λg h=>by cases h),ξ,eJ,fF,gR,iq,bK,by rw[Q7,List.length_append];dsimp only;omega,rfl,by simp;omega⟩
 case hround =>
  rintro⟨i,rs2,ref2,sa2,sc2,v5,O_,a2⟩ w6 hI ih;dsimp only at hI;have aJ:=hI.len;have xm:=hI.tot
  try dsimp only
  refine qN O$ QV O$ OJ$ An$ OX O (λh0=>?_)$ λh0=>?_
  ·obtain⟨n,rs2,rfl⟩:∃n l,rs2=n::l:=by
    cases rs2 with
    |nil=>simp at aJ;omega
    |cons n l=>exact⟨n,l,rfl⟩
   have Bf:=hI.kp.OH hG dh;have gR:=hI.sum;rw[List.sum_cons] at gR;rw[List.length_cons] at aJ;have bZ:=hI.bits;rw[Qo,Q7,List.append_assoc] at bZ
   have df:min i 1<=n:=by
    have hp:=hI.pos n;rcases Nat.eq_zero_or_pos i with e| e
    ·subst e;simp
    ·rw[show 1-min i 1=0 by omega] at hp;have:=hp List.mem_cons_self;omega
   refine OK$ QO$ Pt O$ R3 O$ qV (Pv (news:=[.int .u8 1,P7 0]) Sr O QJ O (Bf.cells (n:=2) O) O)$ OT O$ RO Pz O$ Pb z2E O (Ui hI.tk .gamma (n-min i 1) ref2.length trivial (jN _ ω) ω ω _ bZ) ?_;rintro _ w7 ⟨rfl,h7,aB⟩;have eM:=hI.kp.trans aB;have bR:=h7.OH;refine OT O$ qV (ymi O O)$ Q4 O ?_;rw[show((n-min i 1:Nat):Int)+min (i:Int) 1=(n:Int) by omega];refine P3 O$ PR O$ Pw O$ P4 TP O$ qV (OS U4 O O bR O)$ Pl O$ OT O$ RO Pz O$ QD O$ PO$ PT O$ Qm O$ PR O$ qV (XF O O ω ω) ?_;rw[Nat.and_one_is_mod];have Cw:=hI.rd _ eM;have fk:=Sj bZ;have Be:=hI.kp.size;have I5:=aB.size
   have tA:∀g,v5.ownBlock=some g->¬g=r:=λg hg e=>by
    have h1:=hI.fr g hg;have h2:=h.rd.1.lt;omega
   have gQ:=hI.sl.kp aB tA
   have eN:∀(v5':Value) (w8:World),Sl w8 v5' 59 1 (O_++if i%2==0 then ref2.take n else []).length ((O_++if i%2==0 then ref2.take n else []).map PD)->(∀g,v5'.ownBlock=some g->w.heap.size<=g)->Kp (λk=>v5.ownBlock=some k) w7 w8->
     CpI w t r s rs ref rest (a+(Ph ((.gamma,rs.length)::Qo 0 rs)).length) (i+1) rs2 (ref2.drop n) (if sc2=n then sa2 else sa2.map (·.add (n*1))) (sc2-n) v5' (O_++if i%2==0 then ref2.take n else []) (a2+(Cd.enc .gamma (n-min i 1)).length) w8:=by
    intro v5' w8 g1 g2 g3;have lt7:=h7.OH.lt;have lr7:=h7.rd.1.lt;have rL:=h.OH.lt;have eB:=h.rd.1.lt;have px:∀x,x<w.heap.size->¬v5.ownBlock=some x:=λx hx e=>by have:=hI.fr x e;omega
    refine⟨⟨g3.OH h7.OH (px t rL),⟨g3.OH h7.rd.1 (px r eB),h7.rd.2⟩,h7.ne⟩,eM.It g3 (λk hk=> .inl (hI.fr k hk)),g1,g2,ω,λw2 k=>?_,by rw[List.length_drop];have:=hI.cl;omega,by rw[List.length_drop];omega,?_,?_,?_,?_,?_⟩
    ·have:=TO (hI.rd w2 k) (i:=n) ω hI.cl;rw[<-List.map_drop] at this;rw[List.length_drop];exact this
    ·intro m hm;refine hI.pos m ?_;rw[show 1-min (i+1) 1=0 by omega,List.drop_zero] at hm;rcases Nat.eq_zero_or_pos i with e| e
     ·subst e;exact hm
     ·rw[show 1-min i 1=0 by omega];exact List.mem_cons_of_mem _ hm
    ·exact fk
    ·have:=hI.z48;rw[Qo,Q7,List.length_append] at this;dsimp only at this;omega
    ·rw[hI.eq,copyL,List.append_assoc]
     have:((i+1)%2==0)= !(i%2==0):=by
      rcases Nat.mod_two_eq_zero_or_one i with e| e
      ·rw[e,show(i+1)%2=1 by omega];rfl
      ·rw[e,show(i+1)%2=0 by omega];rfl
     rw[this]
    ·rw[List.length_append,List.length_drop];split
     ·rw[List.length_take];omega
     ·simp;omega
   refine Rk O$ OJ$ OX O (λe1=>?_)$ λe1=>?_
   ·have e2:(i%2==0)=true:=by simp;omega
    simp only[e2,if_true] at eN;refine OQ O$ Pl O$ OT O$ qV (zca Pz Pc O O (by have:=hI.cl;omega)) ?_;have JQ:=hI.cl;refine OP O O (pap Pz Pc O ψ O O gQ (UX Cw (i:=n) ω) (by rw[<-List.map_take];exact Yz _) ω (by simp only[maxLen];omega)) ?_;rintro v5' w8 ⟨dJ,aL,ly,-⟩;have mZ:=dJ.oneV;refine P3 O$ OQ O$ Pl O$ qV (Yq Pz Pc O O ω hI.cl)$ P3 O$ OG$ OQ O$ Q4 O$ OT O$ OJ ?_;rw[show ref2.length-n=(ref2.drop n).length by rw[List.length_drop]];refine(ih (i+1,rs2,ref2.drop n,_,sc2-n,v5',O_++ref2.take n,_) _ (eN v5' _ ?_ ?_ aL) (by dsimp only;simp)).qb
    ·rw[List.length_append,List.map_append,List.length_take,Nat.min_eq_left ω,List.map_take];exact dJ
    ·intro g hg;rcases ly g hg with e| e
     ·exact hI.fr g e
     ·omega
   ·have e2:(i%2==0)=false:=by simp;omega
    simp only[e2,Bool.false_eq_true,if_false,List.append_nil] at eN;refine OK$ OQ O$ Pl O$ qV (Yq Pz Pc O O ω hI.cl)$ P3 O$ OG$ OQ O$ Q4 O$ OT O$ OJ ?_;rw[show ref2.length-n=(ref2.drop n).length by rw[List.length_drop]];exact(ih (i+1,rs2,ref2.drop n,_,sc2-n,v5,O_,_) _ (eN v5 _ gQ hI.fr (Kp.refl _ _)) (by dsimp only;simp)).qb
  ·have fg:rs2=[]:=List.eq_nil_of_length_eq_zero ω;subst fg;have NH:rs.length=i:=by rw[aJ];simp
   have km:=hI.z48;have dW:=hI.eq;rw[copyL] at dW;rw[show(Ph (Qo i [])).length=0 from rfl,Nat.add_zero] at km;refine OV O$ PR O$ qV (XF O O ω ω) ?_;rw[Nat.and_one_is_mod];refine Rk O$ OJ$ OX O (λe1=>?_)$ λe1=>?_
   ·rw[if_pos (by simp;omega)] at dW;refine OQ O$ Pl O$ OP O O (pap Pz Pc O ψ O O hI.sl (hI.rd _ hI.kp) (Yz _) ω (by simp only[maxLen];omega)) ?_;rintro v5' w8 ⟨dJ,aL,ly,-⟩;have mZ:=dJ.oneV;refine R3 O$ P3 O$ OI func224 O ?_;rw[dW,<-km];have Be:=hI.kp.size;have px:∀x,x<w.heap.size->¬v5.ownBlock=some x:=λx hx e=>by have:=hI.fr x e;omega
    refine⟨_,rfl,?_,λg hg=>?_,⟨aL.OH hI.tk.OH (px t h.OH.lt),⟨aL.OH hI.tk.rd.1 (px r h.rd.1.lt),hI.tk.rd.2⟩,hI.tk.ne⟩,hI.kp.It aL (λk hk=> .inl (hI.fr k hk))⟩
    ·rw[List.length_append,List.map_append];exact dJ
    ·rcases ly g hg with e| e
     ·exact hI.fr g e
     ·omega
   ·rw[if_neg (by simp;omega),List.append_nil] at dW;refine OK$ Pt O$ P3 O$ OI func224 O ?_;rw[dW,<-km];exact⟨_,rfl,hI.sl,hI.fr,hI.tk,hI.kp⟩
structure ReI (w w1:World)(t r:Nat)(s:OO)(l:List Nat)(x k:Nat)(rest:List Bool)(aE b7:Nat)(dn l2:List Nat)(v9:Value)(a:Nat)(w':World):Prop where
 tk:TkM w' t r s a
 kp:Kp (λk=>k=t\/k=r) w w'
 b7:OU w' b7 (Sq (.zeta k)) 294
 sl:Sl w' v9 59 1 dn.length (dn.map PD)
 fr:∀g,v9.ownBlock=some g->w1.heap.size<=g
 eq:l=dn++l2
 bits:(Pf s).drop a=Ph (PN x k dn.getLast? l2)++rest
 z48:a+(Ph (PN x k dn.getLast? l2)).length=aE
 siz:w1.heap.size<=w'.heap.size
def z6B {w:World}{t r a:Nat}{s:OO}(h:TkM w t r s a)(x k:Nat)(hx:x<65536)(hk:1<=k/\k<=16)(l:List Nat)(hl:PG l)(rest:List Bool)(hb:(Pf s).drop a=Ph (PN x k none l)++rest):
  Ps prog 226 [ptr t 0,I (x:Int),I (l.length:Int),cdV (.zeta k)] w λu w'=>Sl w' u 59 1 l.length (l.map PD)/\(∀g,u.ownBlock=some g->w.heap.size<=g)/\
   TkM w' t r s (a+(Ph (PN x k none l)).length)/\Kp (λk=>k=t\/k=r) w w':=by
 have aJ:=hl.len
 have lt0:=h.OH.lt
 have lr0:=h.rd.1.lt
 refine py (e:=[(0,_),(1,_),(2,_),(3,_)]) func226 O ntmps226 O O$ qN O$ OP O O (R6 O (cs:=Sq (.zeta k)) O) ?_
 rintro _ w1 ⟨b7,rfl,m7,ad,bR⟩
 have h1:=h.ext ad
 have z1:=ad.size
 have I6:=bR.lt
 refine QW O$ P3 O$ An$ QI O$ OJ$ OL$ RN (α:=List Nat×List Nat×Value×Nat) (([],l,.slice none 0 0,a)) (λy=>[(0,ptr t 0),(1,I (x:Int)),(7,ptr b7 0),(9,y.2.2.1),(12,I (l.length:Int)),(13,I (y.1.length:Int))]) (λy w'=>ReI w w1 t r s l x k rest (a+(Ph (PN x k none l)).length) b7 y.1 y.2.1 y.2.2.1 y.2.2.2 w') (λy=>y.2.1.length) ?hI ?hround
 case hI=>exact⟨h1,ad.kp,bR,Sl.nil _ _ _,(λg h=>by cases h),rfl,hb,rfl,Nat.le_refl _⟩
 case hround =>
  rintro⟨dn,l2,v9,a2⟩ w6 hI ih;dsimp only at hI;have dW:=hI.eq;have eK:l.length=dn.length+l2.length:=by rw[dW,List.length_append]
  try dsimp only
  refine qN O$ QV O$ OJ$ An$ OX O (λh0=>?_)$ λh0=>?_
  ·obtain⟨y,l2,rfl⟩:∃y q,l2=y::q:=by
    cases l2 with
    |nil=>simp at eK;omega
    |cons y q=>exact⟨y,q,rfl⟩
   rw[List.length_cons] at eK;have I7:y<65536:=hl.lt y (by rw[dW];simp);have aX:=hI.b7;have bZ:=hI.bits;have km:=hI.z48
   have key:∃v:Nat,PN x k dn.getLast? (y::l2)=(.zeta k,v)::PN x k (dn++[y]).getLast? l2/\v<=262144/\(dn=[]->v=zig ((y:Int)-x))/\∀u q,dn=q++[u]->v+(u+1)=y:=by
    rw[List.getLast?_append,show [y].getLast? =some y from rfl,Option.some_or];rcases List.eq_nil_or_concat dn with rfl|⟨q,u,rfl⟩
    ·refine⟨_,rfl,?_,λ_=>rfl,λu q e=>by simp at e⟩;have:=Zh (z:=(y:Int)-x) (n:=65536) ω ω;omega
    ·have hu:u<y:=by
      have hr:=hl.ris;rw[dW] at hr;exact(List.pairwise_append.1 hr).2.2 u ξ y ξ
     refine⟨y-u-1,?_,ω,λe=>by simp at e,λu2 q2 e=>?_⟩
     ·have e1:(q.concat u).getLast? =some u:=by simp
      rw[e1];rfl
     ·have e2:q++[u]=q2++[u2]:=by simpa using e
      have:=(List.append_inj' e2 O).2;simp at this;omega
   obtain⟨v,fI,nh,JR,vW⟩:=key;rw[fI,Q7,List.append_assoc] at bZ;rw[fI,Q7,List.length_append] at km;refine OK$ QO$ Pt O$ R3 O$ qV (Pv (news:=Sq (.zeta k)) Sr O QJ O (aX.cells (n:=2) O) O)$ Pb z2E O (Ui hI.tk (.zeta k) v 262144 hk (by simp only[Cd.most];omega) nh ω _ bZ) ?_;rintro _ w7 ⟨rfl,h7,aB⟩;have eM:Kp (λk=>k=t\/k=r) w w7:=hI.kp.trans (aB.ON λk e=> .inr e);have fk:=Sj bZ;have gQ:=hI.sl.kp aB (λg hg e=>by have:=hI.fr g hg;omega);have Cy:=aB.OH aX ω;have I5:=hI.siz;have Be:=aB.size;refine P3 O$ PR O$ Rk O$ OJ$ PI (λe' w'=>w'=w7/\e'=[(0,ptr t 0),(1,I (x:Int)),(7,ptr b7 0),(9,v9),(11,I (y:Int)),(12,I (l.length:Int)),(13,I (dn.length:Int))]) ?nB$ λnB=>?nC
   case nB=>
    rintro e' w7 ⟨rfl,rfl⟩;have jL:=h7.OH;refine An$ QI O$ Pw O$ P4 TP O$ qV (OS U4 O O jL O)$ Pl O$ Pb z7M O (VX y I7 _) ?_;rintro _ w8 ⟨rfl,rfl⟩;refine qV ((S5 O))$ PT O$ Pw O$ P4 TP O$ OY O (QP UH O O O jL ξ) ?_;rintro w8 ⟨cu,aL⟩;replace cu:OU w8 t [ptr r 0,.bool false] 339:=cu;refine qM O$ OT O$ Pw O$ P4 TP O$ qV (OS U4 O O cu O)$ Qm O$ OQ O$ Pl O$ qV (z4T O U3 QU) ?_;rw[Nat.mod_eq_of_lt (show y<4294967296 by omega)];refine OP O O (Yx (cs:=[_]) (zs:=[Value.int .u32 0]) Pz Pc O (by kernel_rfl) O O O ψ) ?_;rintro _ w9 ⟨b9,rfl,⟨ir,fH,cK⟩,ko⟩;have px:∀g,v9.ownBlock=some g->¬g=t:=λg hg e=>by have:=hI.fr g hg;omega
    have jO:∀g,v9.ownBlock=some g->¬g=r:=λg hg e=>by have:=hI.fr g hg;omega
    have I8:=aL.size;have I9:=fH.size;refine OP O O (pap Pz Pc O ψ O O ((gQ.kp aL px).ext fH) ko.rd (by intro c hc;simp at hc;subst hc;rfl) ω (by simp only[maxLen];omega)) ?_;rintro v10 w10 ⟨bT,aA,Cz,-⟩;have mZ:=bT.oneV;refine P3 O$ OG$ OQ O$ Q4 O$ OT O$ OJ ?_;have tB:∀g,g<w1.heap.size->¬v9.ownBlock=some g:=λg hg e=>by have:=hI.fr g e;omega
    rw[show(dn.length:Int)+1=((dn++[y]).length:Int) by simp];refine(ih (dn++[y],l2,v10,a2+(Cd.enc (.zeta k) v).length) _ ⟨⟨aA.OH (fH.OH cu) (tB t ω),⟨aA.OH (fH.OH (aL.OH h7.rd.1 (λe=>h7.ne e.symm))) (tB r ω),h7.rd.2⟩,h7.ne⟩,?_,?_,?_,?_,?_,fk,?_,?_⟩ (by dsimp only;simp)).qb
    ·exact((eM.trans (aL.ON λk e=> .inl e)).trans fH.kp).It aA (λg hg=> .inl (by have:=hI.fr g hg;omega))
    ·exact aA.OH (fH.OH (aL.OH Cy ω)) (tB b7 ω)
    ·rw[List.length_append,List.map_append];exact bT
    ·intro g hg;rcases Cz g hg with e| e
     ·exact hI.fr g e
     ·omega
    ·rw[dW,List.append_assoc];rfl
    ·dsimp only at km⊢;omega
    ·have:=aA.size;omega
   case nC=>
    refine OX O (λe1=>?_)$ λe1=>?_
    ·have fg:dn=[]:=List.eq_nil_of_length_eq_zero ω;refine Rp O$ qV (Qg O U3 Rw ω)$ Pb ze5 O (z7v v ω _) ?_;rintro _ w8 ⟨rfl,rfl⟩;rw[JR fg,z7N];refine OT O$ Q4 O ?_;rw[show(y:Int)-x+x=(y:Int) by omega];refine P3 O ?_;exact(nB _ _ ⟨rfl,rfl⟩).qb
    ·obtain⟨q,u,rfl⟩:∃q u,dn=q++[u]:=by
      rcases List.eq_nil_or_concat dn with rfl|⟨q,u,rfl⟩
      ·exact absurd O e1
      ·exact⟨q,u,ξ⟩
     have Ia:=vW u q O;have tp:(q++[u]).length=q.length+1:=by simp
     rw[tp] at gQ;rcases gQ.shape with⟨-,h0⟩|⟨g,c1,rfl,ib⟩
     ·omega
     refine OQ O$ Pl O$ OT O$ Rt O ?_;rw[show(((q++[u]).length:Nat):Int)-1=(q.length:Int) by simp];refine qV (Qc Pz Pc O O ω)$ qV (PC QU O O (PY gQ.rd (show((q++[u]).map PD)[q.length]? =some (PD u) by simp))) ?_;refine qV (PQ O QU U3 ω)$ Q4 O$ Q4 O ?_;rw[show(v:Int)+((u:Int)+1)=(y:Int) by omega];refine P3 O ?_;exact(nB _ _ ⟨rfl,rfl⟩).qb
  ·have fg:l2=[]:=List.eq_nil_of_length_eq_zero ω;subst fg;refine OV O$ Pt O$ P3 O$ OI func226 O ?_;rw[List.append_nil] at dW;subst dW;have km:=hI.z48;rw[show(Ph (PN x k l.getLast? [])).length=0 by cases l.getLast?<;>rfl,Nat.add_zero] at km;rw[<-km];exact⟨_,rfl,hI.sl,λg hg=>by have:=hI.fr g hg;omega,hI.tk,hI.kp⟩
section
variable {P:Program}{b:Frame}{a:Act}{k:List Item}{cs:List Frame}{w:World}{C:Cx}{e:Env}
def z55 {c:Code}:step P (lone (b.atR a (.code (.scope c)::k)) cs w)= .next (lone (b.atR a (.code c:: .inScope c::k)) cs w):=
 step_lone_go (by simp[stepG,stepG.exec,Frame.atR])
theorem z8G {c:Code}(h:Pu C (.code c:: .inScope c::k) e w):Pu C (.code (.scope c)::k) e w:=λa ha=>Ws.step (λ_ _=>z55) (h a ha)
end
def loE:Option Nat->Nat
 |none=>0
 |some z=>z+2
def z6I:Option Nat->Int
 |none=>-1
 |some z=>(z:Int)
def UD (x:Nat):Option Nat->Nat->Nat
 |none,y=>zig ((y:Int)-x)
 |some e,y=>y-e-2
theorem RJ (x least:Nat)(e:Option Nat)(p:Nat×Nat)(R:List (Nat×Nat)):PM x least e (p::R)=(.gamma,UD x e p.1)::(.gamma,p.2-least)::PM x least (some (p.1+p.2-1)) R:=by
 cases e<;>rfl
structure LoI (w:World)(t r:Nat)(s:OO)(R:List (Nat×Nat))(x least left:Nat)(rest:List Bool)(aE:Nat)(i:Nat)(R2:List (Nat×Nat))(e:Option Nat)(O_:List Nat)(v9:Value)(a:Nat)(w':World):Prop where
 tk:TkM w' t r s a
 kp:Kp (λk=>k=t\/k=r) w w'
 sl:Sl w' v9 59 1 O_.length (O_.map PD)
 fr:∀g,v9.ownBlock=some g->w.heap.size<=g
 len:R.length=i+R2.length
 eq:QT R=O_++QT R2
 ok:T3 least (loE e) R2
 hi:∀p∈R2,p.1+p.2<=65536
 tot:O_.length+(QT R2).length<=left
 bits:(Pf s).drop a=Ph (PM x least e R2)++rest
 z48:a+(Ph (PM x least e R2)).length=aE
 eb:z6I e<65536
def z9y {w:World}{t r a:Nat}{s:OO}(h:TkM w t r s a)(hG:OU w 1 (Sq .gamma) 294)(dh:¬1=r)(nI:¬1=t)(x left least:Nat)(hx:x<65536)(rO:left<=65536)(CA:least<=64)(R:List (Nat×Nat))(hR:T3 least 0 R)(JS:∀p∈R,p.1+p.2<=65536)
  (xm:(QT R).length<=left) (JT:R.length<=left) (rest:List Bool) (hb:(Pf s).drop a=Ph ((.gamma,R.length)::PM x least none R)++rest):
  Ps prog 225 [ptr t 0,I (x:Int),I (left:Int),I (least:Int)] w λu w'=>Sl w' u 59 1 (QT R).length ((QT R).map PD)/\(∀g,u.ownBlock=some g->w.heap.size<=g)/\
   TkM w' t r s (a+(Ph ((.gamma,R.length)::PM x least none R)).length)/\Kp (λk=>k=t\/k=r) w w':=by
 have jN:∀v:Nat,v<=262144->v<=Cd.most .gamma:=λv hv=>by simp only[Cd.most];omega
 have lt0:=h.OH.lt
 have lr0:=h.rd.1.lt
 refine py (e:=[(0,_),(1,_),(2,_),(3,_)]) func225 O ntmps225 O O$ QN O$ z8G$ qN O$ QW O$ P3 O$ An$ z9I$ PR O$ qV (Pv (news:=[.int .u8 1,P7 0]) Sr O QJ O (hG.cells (n:=2) O) O) ?_
 rw[Q7,List.append_assoc] at hb
 refine OT O$ Pb z2E O (Ui h .gamma R.length left trivial (jN _ ω) JT ω _ hb) ?_
 rintro _ w1 ⟨rfl,h1,az⟩
 have bK:=Sj hb
 refine OT O$ OJ$ OL$ RN (α:=Nat×List (Nat×Nat)×Option Nat×List Nat×Value×Nat) ((0,R,none,[],.slice none 0 0,a+(Cd.enc .gamma R.length).length)) (λy=>[(0,ptr t 0),(1,I (x:Int)),(2,I (left:Int)),(3,I (least:Int)),(9,y.2.2.2.2.1),(10,I (z6I y.2.2.1)),(17,I (R.length:Int)),(18,I (y.1:Int))]) (λy w'=>LoI w t r s R x least left rest (a+(Ph ((.gamma,R.length)::PM x least none R)).length) y.1 y.2.1 y.2.2.1 y.2.2.2.1 y.2.2.2.2.1 y.2.2.2.2.2 w') (λy=>y.2.1.length) ?hI ?hround
 case hI=>exact⟨h1,az.ON λk e=> .inr e,Sl.nil _ _ _,(λg h=>by cases h),ξ,rfl,hR,JS,by simpa using xm,bK,by rw[Q7,List.length_append];dsimp only;omega,(show(-1:Int)<65536 by decide)⟩
 case hround =>
  rintro⟨i,R2,e,O_,v9,a2⟩ w6 hI ih;dsimp only at hI;have aJ:=hI.len
  try dsimp only
  refine qN O$ QV O$ OJ$ An$ OX O (λh0=>?_)$ λh0=>?_
  ·obtain⟨⟨p1,p2⟩,R2,rfl⟩:∃p q,R2=p::q:=by
    cases R2 with
    |nil=>simp at aJ;omega
    |cons p q=>exact⟨p,q,rfl⟩
   rw[List.length_cons] at aJ;obtain⟨ok1,ok2,ok3,ok4⟩:loE e<=p1/\1<=p2/\least<=p2/\T3 least (p1+p2+1) R2:=hI.ok;have NI:p1+p2<=65536:=hI.hi (p1,p2) List.mem_cons_self;have ia:QT ((p1,p2)::R2)=(List.range p2).map (p1+·)++QT R2:=rfl;have rP:=hI.tot;have xn:=hI.eq;rw[ia] at rP xn;rw[List.length_append,List.length_map,List.length_range] at rP;have bZ:=hI.bits;have km:=hI.z48;rw[RJ,Q7,Q7,List.append_assoc,List.append_assoc] at bZ;rw[RJ,Q7,Q7,List.length_append,List.length_append] at km;have CB:=hI.eb
   have fI:UD x e p1<=262144:=by
    cases e with
    |none=>have:=Zh (z:=(p1:Int)-x) (n:=65537) ω ω;show zig _<=_;omega
    |some z=>show p1-z-2<=_;omega
   have kq:∀k,(λk=>k=t\/k=r) k->k<w.heap.size:=λk hk=>by rcases hk with e|e<;>omega
   have Bf:=hI.kp.OH hG (λe=>by rcases e with e|e;exact nI e;exact dh e);refine OK$ QO$ Pt O$ qV (Pv (news:=[.int .u8 1,P7 0]) Sr O QJ O (Bf.cells (n:=2) O) O)$ Pb z2E O (Ui hI.tk .gamma (UD x e p1) 262144 trivial (jN _ fI) fI ω _ bZ) ?_;rintro _ w7 ⟨rfl,h7,aB⟩;have fk:=Sj bZ;have I5:=hI.kp.size;have Be:=aB.size;have Ib:∀g,v9.ownBlock=some g->¬g=r:=λg hg e=>by have:=hI.fr g hg;omega
   have gQ:=hI.sl.kp aB Ib;have eM:Kp (λk=>k=t\/k=r) w w7:=hI.kp.trans (aB.ON λk e=> .inr e);refine P3 O$ PR O$ QV O$ OJ$ PI (λe' w'=>w'=w7/\e'=[(0,ptr t 0),(1,I (x:Int)),(2,I (left:Int)),(3,I (least:Int)),(9,v9),(11,I (p1:Int)),(17,I (R.length:Int)),(18,I (i:Int))]) ?nB$ λnB=>?nC
   case nB =>
    rintro e' w7 ⟨rfl,rfl⟩;have JU:=aB.OH Bf dh;refine Pt O$ qV (Pv (news:=[.int .u8 1,P7 0]) Sr O QJ O (JU.cells (n:=2) O) O)$ OT O$ Pb z2E O (Ui h7 .gamma (p2-least) left trivial (jN _ ω) ω ω _ fk) ?_;rintro _ w8 ⟨rfl,h8,aL⟩;have tC:=Sj fk;have I8:=aL.size;have dJ:=gQ.kp aL Ib;have pZ:Kp (λk=>k=t\/k=r) w w8:=eM.trans (aL.ON λk e=> .inr e);obtain⟨va,vc,rfl,-⟩:=hI.sl.rd.shape;refine OT O$ Q4 O ?_;rw[show((p2-least:Nat):Int)+(least:Int)=(p2:Int) by omega];have cu:=h8.OH;refine P3 O$ An$ QI O$ Pw O$ P4 TP O$ qV (OS U4 O O cu O)$ Pl O$ QV O$ PO$ PT O$ Pl O$ OT O$ Q4 O$ QD O ?_;refine PO$ PT O$ Pl O$ Pl O$ RO Pz O$ Rt O$ QD O$ PO$ PT O$ Pw O$ P4 TP O$ OY O (QP UH O O O cu ξ) ?_;rintro w9 ⟨cK,aw⟩;replace cK:OU w9 t [ptr r 0,.bool false] 339:=cK;refine qM O$ OT O$ Pw O$ P4 TP O$ qV (OS U4 O O cK O) ?_;have I9:=aw.size;have ko:=dJ.kp aw (λg hg e=>by have:=hI.fr g hg;omega);have h9:TkM w9 t r s (a2+(Cd.enc .gamma (UD x e p1)).length+(Cd.enc .gamma (p2-least)).length):=⟨cK,⟨aw.OH h8.rd.1 (λe=>h8.ne e.symm),h8.rd.2⟩,h8.ne⟩;have tD:Kp (λk=>k=t\/k=r) w w9:=pZ.trans (aw.ON λk e=> .inl e);refine Qm O$ An$ QI O$ OJ$ OL$ RN (α:=Nat×Value) ((0,.slice va O_.length vc)) (λy=>[(0,ptr t 0),(1,I (x:Int)),(2,I (left:Int)),(3,I (least:Int)),(9,y.2),(11,I (p1:Int)),(12,I (p2:Int)),(17,I (R.length:Int)),(18,I (i:Int)),(69,I (p2:Int)),(70,I (y.1:Int))]) (λy w'=>TkM w' t r s (a2+(Cd.enc .gamma (UD x e p1)).length+(Cd.enc .gamma (p2-least)).length)/\Kp (λk=>k=t\/k=r) w w'/\Sl w' y.2 59 1 (O_.length+y.1) ((O_++(List.range y.1).map (p1+·)).map PD)/\(∀g,y.2.ownBlock=some g->w.heap.size<=g)/\y.1<=p2) (λy=>p2-y.1) ?hI ?hround
    case hI=>exact⟨h9,tD,by simpa using ko,hI.fr,Nat.zero_le _⟩
    case hround=>
     rintro⟨j,v⟩ w10 ⟨eE,aA,bT,co,hj⟩ ih2;dsimp only at eE aA bT co hj
     try dsimp only
     refine qN O$ QV O$ OJ$ An$ OX O (λlA=>?_)$ λlA=>?_
     ·refine OK$ QO$ Pt O$ P3 O$ OQ O$ Pl O$ OT O$ Q4 O$ qV (z4T O U3 QU) ?_;rw[show(p1+j)%4294967296=p1+j by omega];refine OP O O (Yx (cs:=[_]) (zs:=[Value.int .u32 0]) Pz Pc O (by kernel_rfl) O O O ψ) ?_;rintro _ w11 ⟨b11,rfl,⟨ji,aT,bc⟩,nJ⟩;have JV:=aA.size;have JW:=aT.size;refine OP O O (pap Pz Pc O ψ O O (bT.ext aT) nJ.rd (by intro c hc;simp at hc;subst hc;rfl) ω (by simp only[maxLen];omega)) ?_;rintro v12 w12 ⟨kq,bz,CC,-⟩;have mZ:=kq.oneV;refine P3 O$ OG$ OQ O$ Q4 O$ OT O$ OJ ?_;have xo:∀g,g<w.heap.size->¬v.ownBlock=some g:=λg hg e=>by have:=co g e;omega
      refine(ih2 (j+1,v12) _ ⟨⟨bz.OH (aT.OH eE.OH) (xo t lt0),⟨bz.OH (aT.OH eE.rd.1) (xo r lr0),eE.rd.2⟩,eE.ne⟩,(aA.trans aT.kp).It bz (λg hg=> .inl (co g hg)),?_,λg hg=>?_,ω⟩ (by dsimp only;omega)).qb
      ·have e1:(O_++(List.range (j+1)).map (p1+·)).map PD=(O_++(List.range j).map (p1+·)).map PD++[PD (p1+j)]:=by
        rw[List.range_succ];simp
       dsimp only;rw[e1];exact kq
      ·rcases CC g hg with e| e
       ·exact co g e
       ·omega
     ·have JX:j=p2:=by omega
      subst JX;refine OV O$ OQ O$ Pl O$ Q4 O$ Rt O$ P3 O$ OG$ OQ O$ Q4 O$ OT O$ OJ ?_;rw[show(p1:Int)+j-1=z6I (some (p1+j-1)) by show _=((p1+j-1:Nat):Int);omega,show(i:Int)+1=((i+1:Nat):Int) by omega];refine(ih (i+1,R2,some (p1+j-1),O_++(List.range j).map (p1+·),v,_) _ ⟨eE,aA,?_,co,by dsimp only;omega,by rw[xn,List.append_assoc],?_,λp hp=>hI.hi p (List.mem_cons_of_mem _ hp),?_,tC,?_,?_⟩ (by dsimp only;simp)).qb
      ·dsimp only;rw[List.length_append,List.length_map,List.length_range];exact bT
      ·refine ok4.mono ?_;show p1+j-1+2<=_;omega
      ·dsimp only;rw[List.length_append,List.length_map,List.length_range];omega
      ·dsimp only at km⊢;omega
      ·show((p1+j-1:Nat):Int)<65536;omega
   case nC=>
    cases e with
    | none =>
      refine OX O (λe1=>?_)$ λe1=>?_
      ·refine Rp O$ qV (Qg O U3 Rw ω)$ Pb ze5 O (z7v _ ω _) ?_;rintro _ w8 ⟨rfl,rfl⟩;rw[show UD x none p1=zig ((p1:Int)-x) from rfl,z7N];refine OT O$ Q4 O ?_;rw[show(p1:Int)-x+x=(p1:Int) by omega];refine P3 O ?_;exact(nB _ _ ⟨rfl,rfl⟩).qb
      ·exact absurd ψ e1
    | some z =>
      refine OX O (λe1=>?_)$ λe1=>?_
      ·exact absurd e1 (by show ¬((z:Int)<0);omega)
      ·have hz:z+2<=p1:=ok1;refine OQ O$ Pl O ?_;rw[show z6I (some z)=(z:Int) from rfl];refine Q4 O$ Q4 O ?_;rw[show UD x (some z) p1=p1-z-2 from rfl,show((p1-z-2:Nat):Int)+((z:Int)+2)=(p1:Int) by omega];refine P3 O ?_;exact(nB _ _ ⟨rfl,rfl⟩).qb
  ·have fg:R2=[]:=List.eq_nil_of_length_eq_zero ω;subst fg;refine OV O$ Pt O$ P3 O$ OI func225 O ?_;have dW:=hI.eq;rw[show QT []=[] from rfl,List.append_nil] at dW;have km:=hI.z48;rw[show(Ph (PM x least e [])).length=0 by cases e<;>rfl,Nat.add_zero] at km;rw[dW,<-km];exact⟨_,rfl,hI.sl,hI.fr,hI.tk,hI.kp⟩
def QA (p:S6)(n r:Nat):List (Cd×Nat):=(.gamma,n)::if n=0 then [] else if 0<p.Pm then [(.unary,r)] else []
def z2h {w:World}{r a:Nat}{s:OO}(h:TS w r s a)(p:S6)(hp:p.Qx)(hG:OU w 1 (Sq .gamma) 294)(hU:OU w 2 (Sq .unary) 294)(dh:¬1=r)(dm:¬2=r)(n q:Nat)(hn:n<=65536)(hq:q<=p.Pm)
  (nK:n=0->q=0) (rest:List Bool) (hb:(Pf s).drop a=Ph (QA p n q)++rest):
  Ps prog 213 [ptr r 0,lpV p] w λu w'=>u= .tuple #[.agg #[I (n:Int),I (q:Int)],I 0]/\TS w' r s (a+(Ph (QA p n q)).length)/\Kp (λk=>k=r) w w':=by
 obtain⟨g1,g2,g3,g4⟩:=id hp
 have lr0:=h.1.lt
 have nL:p.Pm=0->q=0:=λe=>by omega
 unfold QA at hb⊢
 rw[Q7,List.append_assoc] at hb
 refine py (e:=[(0,_),(1,_)]) func213 O ntmps213 O O$ qN O$ OP O O (R6 O (cs:=lpC p) O) ?_
 rintro _ w1 ⟨b3,rfl,dI,ad,au⟩
 refine OP O O (Rz (cs:=[_,_]) So O) ?_
 rintro _ w2 ⟨b4,rfl,fX,ae,aM⟩
 have z1:=ad.size
 have z2:=ae.size
 have dr:=ae.OH au
 refine P3 O$ QO$ Pt O$ qV (Qb Vf O O)$ P3 O$ OR O$ qN O$ qV (Pv (news:=lpC p) Zy O U1 O (dr.cells (n:=3) O) O)$ Pb z44 O (TV p hp w2) ?_
 rintro _ w3 ⟨rfl,ah⟩
 refine QF O$ SH O ?_
 have cj:=(ad.trans ae).trans ah
 have h3:TS w3 r s a:=⟨cj.OH h.1,h.2⟩
 refine Qm O$ OG$ Pt O$ Pb Z1 O (Ua h3) ?_
 rintro _ w4 ⟨rfl,rfl⟩
 refine R3 O$ qV (Pv (news:=[.int .u8 1,P7 0]) Sr O QJ O ((cj.OH hG).cells (n:=2) O) O)$ Pb zaU O (Zw h3 .gamma n trivial (by simp only[Cd.most];omega) _ hb) ?_
 rintro _ w5 ⟨rfl,h5,aj⟩
 have gG:=Sj hb
 have cU:=aj.OH (ah.OH dr) ω
 have aO:=aj.OH (ah.OH aM) ω
 have di:Kp (λk=>k=r) w w5:=cj.kp.trans aj
 replace cU:OU w5 b3 [I (p.Pm:Int),I (p.interval:Int),I (p.zeta:Int)] 260:=cU
 refine OT O$ SM O$ SH O$ QW O$ P3 O$ PR O$ Rk O$ OT O ?_
 rcases Nat.eq_zero_or_pos n with e0|e0
 ·have tE:=nK e0;subst e0;subst tE;refine OT O$ QD O$ PO$ Ra O$ OT O$ QY$ qS$ PT O$ OJ$ Pu.qb (e:=[(0,_),(3,_),(4,_),(5,_),(6,_),(7,_),(8,_),(9,_),(37,_)]) ?_;refine SO O$ PR O$ QF O$ Pl O$ QD O$ PO$ PT O$ Pl O$ P4 Tj O$ qV (OS U3 O O cU O)$ qV ((Qg O U3 Rw ω))$ QD O$ PO$ PT O ?_;refine Qm O$ Pt O$ qV (PQ O Rw U3 ω)$ OT O$ qV (PQ O Rw U3 ω)$ qV (Sh (cs:=[_,_]) So O zaQ O O)$ OY O (PL (news:=[I ((0:Nat):Int),I (((0:Nat)):Int)]) So O O O O aO ξ) ?_;rintro w9 ⟨bU,aw⟩;replace bU:OU w9 b4 [I ((0:Nat):Int),I (((0:Nat)):Int)] 308:=bU;refine P3 O$ Pu.qb (e:=[(4,_),(5,_)]) ?_;refine Po func213 (.cell z4G O So O (OU.cells (n:=2) bU (news:=[_,_]) O) O (.tmp O .nil)) ?_;rw[if_pos O,show(Ph [((.gamma,0):Cd×Nat)]).length=(Cd.enc .gamma 0).length by rw[Q7,List.length_append];rfl];refine⟨_,rfl,rfl,⟨aw.OH h5.1 ω,h5.2⟩,di.It aw (λk e=> .inl ω)⟩
 ·rw[if_neg ω] at gG⊢;rcases Nat.eq_zero_or_pos p.Pm with e1|e1
  ·have tE:=nL e1;subst tE;rw[if_neg ω] at gG⊢;refine OT O$ QD O$ RP$ Ra O$ OT O$ P4 Tj O$ qV (OS U3 O O cU O)$ QD O$ PO$ Ra O$ OJ$ Pu.qb (e:=[(0,_),(3,_),(4,_),(5,_),(6,_),(7,_),(8,_),(9,_),(37,_)]) ?_;refine SO O$ PR O$ QF O$ Pl O$ QD O$ PO$ PT O$ Pl O$ P4 Tj O$ qV (OS U3 O O cU O)$ qV ((Qg O U3 Rw ω))$ QD O$ PO$ PT O ?_;refine Qm O$ Pt O$ qV (PQ O Rw U3 ω)$ OT O$ qV (PQ O Rw U3 ω)$ qV (Sh (cs:=[_,_]) So O zaQ O O)$ OY O (PL (news:=[I (n:Int),I (((0:Nat)):Int)]) So O O O O aO ξ) ?_;rintro w9 ⟨bU,aw⟩;replace bU:OU w9 b4 [I (n:Int),I (((0:Nat)):Int)] 308:=bU;refine P3 O$ Pu.qb (e:=[(4,_),(5,_)]) ?_;refine Po func213 (.cell z4G O So O (OU.cells (n:=2) bU (news:=[_,_]) O) O (.tmp O .nil)) ?_;rw[show(Ph [((.gamma,n):Cd×Nat)]).length=(Cd.enc .gamma n).length by rw[Q7,List.length_append];rfl];refine⟨_,rfl,rfl,⟨aw.OH h5.1 ω,h5.2⟩,di.It aw (λk e=> .inl ω)⟩
  ·rw[if_pos e1] at gG⊢;rw[Q7,List.append_assoc] at gG;refine OT O$ QD O$ RP$ Ra O$ OT O$ P4 Tj O$ qV (OS U3 O O cU O)$ QD O$ RP$ Ra O$ OJ$ Pu.qb (e:=[(0,_),(3,_),(4,_),(5,_),(6,_),(7,_),(8,_),(9,_),(37,_)]) ?_;refine OZ O$ Rp O$ qV (Pv (news:=[.int .u8 0,P7 0]) Sr O QJ O ((di.OH hU dm).cells (n:=2) O) O)$ Pb zaU O (Zw h5 .unary q trivial (by simp only[Cd.most];omega) _ gG) ?_;rintro _ w6 ⟨rfl,h6,aN⟩;have jj:=aN.OH cU ω;have bV:=aN.OH aO ω;have tF:=di.trans aN;refine OT O$ SM O$ Qr O$ PR O$ QF O$ Pl O$ QD O$ PO$ PT O$ Pl O$ P4 Tj O$ qV (OS U3 O O jj O)$ qV ((Qg O U3 Rw ω))$ QD O ?_;refine PO$ PT O$ OJ$ Pu.qb (e:=[(0,_),(4,_),(5,_),(6,_),(7,_),(9,_),(56,_)]) ?_;refine SO O$ Pt O$ qV (PQ O Rw U3 ω)$ OT O$ qV (PQ O Rw U3 ω)$ qV (Sh (cs:=[_,_]) So O zaQ O O)$ OY O (PL (news:=[I (n:Int),I (q:Int)]) So O O O O bV ξ) ?_;rintro w9 ⟨bU,aw⟩;replace bU:OU w9 b4 [I (n:Int),I (q:Int)] 308:=bU;refine P3 O$ Po func213 (.cell z4G O So O (OU.cells (n:=2) bU (news:=[_,_]) O) O (.tmp O .nil)) ?_;rw[show(Ph [((.gamma,n):Cd×Nat),(.unary,q)]).length=(Cd.enc .gamma n).length+(Cd.enc .unary q).length by rw[Q7,Q7,List.length_append,List.length_append];rfl,<-Nat.add_assoc];refine⟨_,rfl,rfl,⟨aw.OH h6.1 ω,h6.2⟩,tF.It aw (λk e=> .inl ω)⟩
structure Qq where
 Pm:Nat
 chain:Nat
 interval:Nat
 zeta:Nat
 most:Nat
def Qq.list (p:Qq):S6:=⟨p.Pm,p.interval,p.zeta⟩
def Qq.Qx (p:Qq):Prop:=p.list.Qx/\p.chain<=16/\p.most<=65536
def Vj (p:Qq):List Value:=[I (p.Pm:Int),I (p.chain:Int),I (p.interval:Int),I (p.zeta:Int),I (p.most:Int)]
abbrev bpV (p:Qq):Value:= .agg (Vj p).toArray
def T5 (p:Qq)(w:World):Ps prog 149 [bpV p] w λu w'=>u=lpV p.list/\Ext w w':=by
 refine py (e:=[(0,_)]) func149 O ntmps149 O O$ qN O$ OP O O (R6 O (cs:=Vj p) O) ?_
 rintro _ w1 ⟨b1,rfl,bK,ad,ai⟩
 refine OP O O (Rz (cs:=[_,_,_]) U1 O) ?_
 rintro _ w2 ⟨b2,rfl,bN,ae,ak⟩
 have aW:=ae.OH ai
 replace aW:OU w2 b1 [I (p.Pm:Int),I (p.chain:Int),I (p.interval:Int),I (p.zeta:Int),I (p.most:Int)] 75:=aW
 refine qM O$ P4 z1r O$ qV (OS U3 O O aW O)$ P4 zb2 O$ qV (OS U3 O O aW O)$ P4 zbq O$ qV (OS U3 O O aW O)$ qV (Sh (cs:=[_,_,_]) U1 O zgk O O)$ OY O (PL (news:=[I (p.Pm:Int),I (p.interval:Int),I (p.zeta:Int)]) U1 O O O O ak ξ) ?_
 rintro w3 ⟨bE,av⟩
 replace bE:OU w3 b2 [I (p.Pm:Int),I (p.interval:Int),I (p.zeta:Int)] 260:=bE
 refine OJ$ Po func149 (.cell Zy O U1 O (OU.cells (n:=3) bE (news:=[_,_,_]) O) O .nil) ?_
 have z1:=ad.size
 exact⟨_,rfl,rfl,(ad.trans ae).It av (λk e=>by omega)⟩
def z07 (p:Qq)(hp:p.Qx)(w:World):Ps prog 147 [bpV p] w λu w'=>u=I 0/\Ext w w':=by
 obtain⟨g1,g2,g3⟩:=hp
 refine py (e:=[(0,_)]) func147 O ntmps147 O O$ qN O$ OP O O (R6 O (cs:=Vj p) O) ?_
 rintro _ w1 ⟨b1,rfl,bK,ad,ai⟩
 have iu:OU w1 b1 [I (p.Pm:Int),I (p.chain:Int),I (p.interval:Int),I (p.zeta:Int),I (p.most:Int)] 75:=ai
 refine P3 O$ An$ qN O$ P4 Z6 O$ qV (OS U3 O O iu O)$ QV O$ PO$ OT O$ P4 Z6 O$ qV (OS U3 O O iu O)$ QD O$ PO$ PT O$ OT O ?_
 refine P4 TF O$ qV (OS U3 O O iu O)$ QV O$ PO$ PT O$ OT O$ P4 TF O$ qV (OS U3 O O iu O)$ QD O$ PO$ PT O$ Qm O$ qN O$ qV (Pv U75 O RE O (OU.cells (n:=5) iu (news:=[_,_,_,_,_]) O) O) ?_
 refine Pb z14 O (T5 p w1) ?_
 rintro _ w2 ⟨rfl,ae⟩
 refine Pb z44 O (TV p.list g1 w2) ?_
 rintro _ w3 ⟨rfl,ah⟩
 refine P3 O$ OI func147 O ?_
 exact⟨_,rfl,rfl,(ad.trans ae).trans ah⟩
structure SJ (w:World)(g n cap:Nat)(d:Array Nat):Prop where
 sl:Sl w (.slice (some ⟨g,0,none⟩) n cap) 59 1 n (d.toList.map PD)
 size:d.size=n
abbrev QG (x y:Nat):Bool:=decide (x<y)
def YS:Go.Sort.SWO QG:=⟨λx=>by simp[QG],λx y z h1 h2=>by simp[QG] at*;omega,λx y z h1 h2=>by simp[QG] at*;omega⟩
section
variable {w w':World}{g n cap:Nat}{d:Array Nat}{S:Nat->Prop}
def SJ.ext (h:SJ w g n cap d)(k:Ext w w'):SJ w' g n cap d:=⟨h.sl.ext k,h.size⟩
def SJ.kp (h:SJ w g n cap d)(k:Kp S w w')(hg:¬S g):SJ w' g n cap d:=⟨h.sl.kp k (λg' e=>by cases e;exact hg),h.size⟩
theorem SJ.get {i:Nat}(h:SJ w g n cap d)(hi:i<n):w.cell? ⟨g,0+i*1,none⟩=some (PD d[i]!):=by
 have hs:=h.size
 refine PY h.sl.rd ?_
 rw[List.getElem?_map,Array.getElem?_toList,Array.getElem?_eq_getElem ω]
 rw[getElem!_pos d i ω]
 rfl
def SJ.jlt {j:Nat}(h:SJ w g n cap d)(hj:j<n):j<(d.toList.map PD).length:=by
 have hs:=h.size
 rw[List.length_map,Array.length_toList];omega
theorem SJ.set {i y:Nat}(h:SJ w g n cap d)(hS:Sl w' (.slice (some ⟨g,0,none⟩) n cap) 59 1 n ((d.toList.map PD).set (0+i*1) (PD y))):SJ w' g n cap (d.setIfInBounds i y):=by
 refine⟨?_,by rw[Array.size_setIfInBounds,h.size]⟩
 rw[Array.toList_setIfInBounds,List.map_set]
 rw[show 0+i*1=i by omega] at hS
 exact hS
end
def z9v (x:Nat)(w:World):Ps prog 258 [PD x] w λu w'=>u= .bool false/\w'=w:=by
 refine py (e:=[(0,_)]) func258 O ntmps258 O O$ qN O$ QW O$ Pl O$ QF O$ P3 O$ OI func258 O ?_
 exact⟨_,rfl,by simp[Q0],rfl⟩
def S8 (x y:Nat)(w:World):Ps prog 249 [PD x,PD y] w λu w'=>u= .bool (QG x y)/\w'=w:=by
 refine py (e:=[(0,_),(1,_)]) func249 O ntmps249 O O$ qN O$ R3 O$ Pb ziy O (z9v x w) ?_
 rintro _ w ⟨rfl,rfl⟩
 refine OT O$ QY$ qS$ PT O$ Pl O$ OT O$ QV O$ PT O$ P3 O$ OI func249 O ?_
 exact⟨_,rfl,by simp[QG,Q0],rfl⟩
section
variable (a b j i:Nat)(d:Array Nat)
theorem z4w (hj:a<j)(hl:QG d[j]! d[j-1]! =true):Go.Sort.insInner QG a j d=Go.Sort.insInner QG a (j-1) (Go.Sort.swp d j (j-1)):=by
 obtain⟨k,rfl⟩:∃k,j=k+1:=⟨j-1,ω⟩
 rw[Go.Sort.insInner]
 simp only[Nat.add_sub_cancel] at hl⊢
 rw[if_pos]
 rw[Bool.and_eq_true];exact⟨by simpa using hj,hl⟩
theorem Xu (h:j<=a\/QG d[j]! d[j-1]! =false):Go.Sort.insInner QG a j d=d:=by
 cases j with
 |zero=>rw[Go.Sort.insInner]
 | succ k =>
   rw[Go.Sort.insInner];simp only[Nat.add_sub_cancel] at h;rw[if_neg];intro hc;rw[Bool.and_eq_true] at hc;rcases h with h| h
   ·have:=of_decide_eq_true hc.1;omega
   ·rw[h] at hc;cases hc.2
theorem z4O (h:i<b):Go.Sort.insOuter QG a b i d=Go.Sort.insOuter QG a b (i+1) (Go.Sort.insInner QG a i d):=by rw[Go.Sort.insOuter,if_pos h]
theorem z1Y (h:¬i<b):Go.Sort.insOuter QG a b i d=d:=by rw[Go.Sort.insOuter,if_neg h]
end
def z1Q {w:World}{g n cap:Nat}{d:Array Nat}(h:SJ w g n cap d)(a b:Nat)(jK:a<=b)(hb:b<=n)(hn:n<=65536):
  Ps prog 243 [.slice (some ⟨g,0,none⟩) n cap,I (a:Int),I (b:Int)] w λu w'=>u= .tuple #[]/\SJ w' g n cap (Go.Sort.insertionSort QG d a b)/\Kp (λk=>k=g) w w':=by
 refine py (e:=[(0,_),(1,_),(2,_)]) func243 O ntmps243 O O$ Pt O$ Q4 O$ P3 O$ OL$ RN (α:=Nat×Array Nat) ((a+1,d)) (λy=>[(0,.slice (some ⟨g,0,none⟩) n cap),(1,I (a:Int)),(2,I (b:Int)),(6,I (y.1:Int))]) (λy w'=>SJ w' g n cap y.2/\Kp (λk=>k=g) w w'/\Go.Sort.insOuter QG a b y.1 y.2=Go.Sort.insertionSort QG d a b/\a<y.1) (λy=>b-y.1) ?hI ?hround
 case hI=>exact⟨h,Kp.refl _ _,rfl,Nat.lt_succ_self a⟩
 case hround=>
  rintro⟨i,d4⟩ w4 ⟨eg,ar,cG,pz⟩ ih;dsimp only at eg ar cG pz
  try dsimp only
  refine An$ QI O$ QV O$ OJ$ OX O (λh0=>?_)$ λh0=>?_
  ·rw[z4O _ _ _ _ ω] at cG;refine OK$ QO$ Pt O$ P3 O$ OL$ RN (α:=Nat×Array Nat) ((i,d4)) (λy=>[(0,.slice (some ⟨g,0,none⟩) n cap),(1,I (a:Int)),(2,I (b:Int)),(6,I (i:Int)),(7,I (y.1:Int))]) (λy w'=>SJ w' g n cap y.2/\Kp (λk=>k=g) w w'/\Go.Sort.insInner QG a y.1 y.2=Go.Sort.insInner QG a i d4/\y.1<=i/\a<=y.1) (λy=>y.1) ?hI ?hround
   case hI=>exact⟨eg,ar,rfl,Nat.le_refl _,by dsimp only;omega⟩
   case hround=>
    rintro⟨j,d5⟩ w5 ⟨aU,aj,cd,Ic,CD⟩ ih2;dsimp only at aU aj cd Ic CD
    try dsimp only
    have hg:=Ext.Pa w5;rcases Nat.lt_or_ge a j with hj|hj
    ·refine An$ An$ R0 (λw'=>Ext w5 w') O$ P8 0 O O (hg)$ P8 1 O O (hg)$ OM 2 O (Y7 O O) hg$ TN$ P8 3 O O (hg)$ P8 4 O O (hg)$ P8 5 O O (hg)$ OM 6 O (Qc Pz Pc O O ω) hg$ P8 8 O O (hg)$ P8 9 O O (hg)$ OM 10 O (XG O O ω) hg ?_;rw[show(j:Int)-1=((j-1:Nat):Int) by omega];refine qT 7 O (λ_ h=>PC QU O O ((aU.ext h).get (i:=j) ω)) hg$ OM 11 O (Qc Pz Pc O O ω) hg$ qT 12 O (λ_ h=>PC QU O O ((aU.ext h).get (i:=j-1) ω)) hg$ S1 13 O W8 O (S8 _ _ _) ?_;rintro _ w6 ⟨rfl,rfl⟩;refine⟨hg,?_⟩;refine OM 14 O (UG O O) hg$ qE ?_;have q9:=aU.ext hg;refine Qk O (λh1=>?_)$ λh1=>?_
     ·refine OK$ QO ?_;have aC:=Ext.Pa w5.drew;refine Pk [15,17] (λw'=>Ext w5.drew w') (by kernel_rfl) O$ PW 0 O O (aC)$ PW 1 O O (aC)$ Ql (i:=2) O (by kernel_rfl) O O (λ_=>Xr O) (aC)$ Ql (i:=3) O (by kernel_rfl) O O (λ_=>Xr O) (aC)$ Ql (i:=4) O (by kernel_rfl) O O (λ_=>XG O O ω) (aC)$ PW 5 O O (aC)$ PW 6 O O (aC)$ Pr 7 O (XG O O ω) aC$ PW 10 O O (aC)$ PW 11 O O (aC)$ Pr 12 O (Qc Pz Pc O O ω) aC ?_;rw[show(j:Int)-1=((j-1:Nat):Int) by omega];refine Pr 8 O (Qc Pz Pc O O ω) aC$ qL 9 O (λ_ h=>PC QU O O ((q9.ext h).get (i:=j-1) ω)) aC$ qL 13 O (λ_ h=>PC QU O O ((q9.ext h).get (i:=j) ω)) aC$ Pr 14 O (Qc Pz Pc O O ω) aC$ Ty [15]$ qO 15$ PJ (i:=15) O O (RV Pc O O O (q9.ext aC).sl ((q9.ext aC).jlt ω)) ?_;rintro w7a ⟨g7,g8⟩;refine⟨trivial,?_⟩;have cL:=(q9.ext aC).set g7;refine OM 16 O (Qc Pz Pc O O ω) trivial$ qO 17$ PJ (i:=17) O O (RV Pc O O O cL.sl (cL.jlt ω)) ?_;rintro w7 ⟨iv,kr⟩;refine⟨trivial,?_⟩;have ku:=cL.set iv;have g9:Kp (λk=>k=g) w5.drew w7:=aC.kp.trans (g8.trans kr);refine qE$ OG$ Rp O$ Rt O$ P3 O ?_;rw[show(j:Int)-1=((j-1:Nat):Int) by omega];refine(ih2 (j-1,Go.Sort.swp d5 j (j-1)) _ ⟨ku,(aj.trans hg.kp).trans g9,?_,by dsimp only;omega,by dsimp only;omega⟩ (by dsimp only;omega)).qb;dsimp only;rw[<-cd,z4w a j d5 hj h1]
     ·refine OV O$ OG$ Rp O$ Q4 O$ P3 O ?_;rw[Xu a j d5 (.inr (by simpa using h1))] at cd;refine(ih (i+1,d5) _ ⟨q9,aj.trans hg.kp,?_,by dsimp only;omega⟩ (by dsimp only;omega)).qb;dsimp only;rw[cd];exact cG
    ·refine An$ An$ R0 (λw'=>Ext w5 w') O$ P8 0 O O (hg)$ P8 1 O O (hg)$ OM 2 O (Y7 O O) hg$ TC$ P8 3 O O (hg)$ qJ 4 O (hg)$ qJ 5 O (hg)$ qJ 6 O (hg)$ qJ 7 O (hg)$ qJ 8 O (hg)$ qJ 9 O (hg) ?_;refine qJ 10 O (hg)$ qJ 11 O (hg)$ qJ 12 O (hg)$ qJ 13 O (hg)$ OM 14 O (U6 O O) hg$ qE$ OR O$ OV O$ OG$ Rp O$ Q4 O$ P3 O ?_;rw[Xu a j d5 (.inl hj)] at cd;refine(ih (i+1,d5) _ ⟨aU.ext hg,aj.trans hg.kp,?_,by dsimp only;omega⟩ (by dsimp only;omega)).qb;dsimp only;rw[cd];exact cG
  ·rw[z1Y _ _ _ _ ω] at cG;refine OV O$ Qh func243 O ?_;exact⟨_,rfl,rfl,cG▸eg,ar⟩
section
variable (hi first root:Nat)(d:Array Nat)
def Zx:Nat:=if 2*root+1+1<hi&&QG d[first+(2*root+1)]! d[first+(2*root+1)+1]! then 2*root+2 else 2*root+1
theorem z9K (h:hi<=2*root+1):Go.Sort.siftDown QG hi first root d=d:=by rw[Go.Sort.siftDown,dif_pos h]
theorem zcP (h:2*root+1<hi):Go.Sort.siftDown QG hi first root d=if QG d[first+root]! d[first+Zx hi first root d]! then Go.Sort.siftDown QG hi first (Zx hi first root d) (Go.Sort.swp d (first+root) (first+Zx hi first root d)) else d:=by
 rw[Go.Sort.siftDown,dif_neg ω]
 unfold Zx
 by_cases h1:(decide (2*root+1+1<hi)&&QG d[first+(2*root+1)]! d[first+(2*root+1)+1]!)=true
 ·rw[if_pos h1,if_pos h1];rw[Bool.and_eq_true] at h1;have h2:2*root+2<hi:=of_decide_eq_true h1.1;rw[dif_pos h2];cases QG d[first+root]! d[first+(2*root+2)]!<;>rfl
 ·rw[if_neg h1,if_neg h1];cases QG d[first+root]! d[first+(2*root+1)]!<;>rfl
def zcd (h:2*root+1<hi):root<Zx hi first root d/\Zx hi first root d<hi:=by
 unfold Zx
 split
 ·rename_i h1
  rw[Bool.and_eq_true] at h1;have h2:2*root+2<hi:=of_decide_eq_true h1.1;omega
 ·omega
end
def z4U {w:World}{g n cap:Nat}{d:Array Nat}(h:SJ w g n cap d)(lo hi first:Nat)(hf:first+hi<=n)(vS:lo<=65536)(hn:n<=65536):
  Ps prog 253 [.slice (some ⟨g,0,none⟩) n cap,I (lo:Int),I (hi:Int),I (first:Int)] w λu w'=>u= .tuple #[]/\SJ w' g n cap (Go.Sort.siftDown QG hi first lo d)/\Kp (λk=>k=g) w w':=by
 refine py (e:=[(0,_),(1,_),(2,_),(3,_)]) func253 O ntmps253 O O$ Pt O$ P3 O$ OL$ RN (α:=Nat×Array Nat) ((lo,d)) (λy=>[(0,.slice (some ⟨g,0,none⟩) n cap),(2,I (hi:Int)),(3,I (first:Int)),(8,I (y.1:Int))]) (λy w'=>SJ w' g n cap y.2/\Kp (λk=>k=g) w w'/\Go.Sort.siftDown QG hi first y.1 y.2=Go.Sort.siftDown QG hi first lo d/\y.1<=65536) (λy=>hi-y.1) ?hI ?hround
 case hI=>exact⟨h,Kp.refl _ _,rfl,vS⟩
 case hround=>
  rintro⟨root,d4⟩ w4 ⟨eg,ar,cG,bF⟩ ih;dsimp only at eg ar cG bF
  try dsimp only
  refine OL$ Pt O$ qV (Y8 O O ω)$ Q4 O$ P3 O$ An$ qN O ?_;rw[show 2*(root:Int)+1=((2*root+1:Nat):Int) by omega];refine Pl O$ Uh O$ OJ$ OX O (λh0=>?_)$ λh0=>?_
  ·rw[z9K _ _ _ _ ω] at cG;refine OV O$ Qh func253 O ?_;exact⟨_,rfl,rfl,cG▸eg,ar⟩
  ·have hc:=zcd hi first root d4 ω;rw[zcP _ _ _ _ ω] at cG;have hg:=Ext.Pa w4;have tG:=eg.ext hg;refine OK$ An$ An ?_
   generalize qa:(decide (2*root+1+1<hi)&&QG d4[first+(2*root+1)]! d4[first+(2*root+1)+1]!)=sel
   refine PI (λe' w'=>e'=[(0,.slice (some ⟨g,0,none⟩) n cap),(2,I (hi:Int)),(3,I (first:Int)),(8,I (root:Int)),(9,I ((2*root+1:Nat):Int)),(36,.bool sel)]/\w'=w4.drew) ?aY$ λaY=>?fW
   case aY=>
    rintro e' w5 ⟨rfl,rfl⟩;refine PI (λe' w'=>e'=[(0,.slice (some ⟨g,0,none⟩) n cap),(2,I (hi:Int)),(3,I (first:Int)),(8,I (root:Int)),(9,I (Zx hi first root d4:Int))]/\w'=w4.drew) ?ao$ λao=>?en
    case ao=>
     rintro e' w5 ⟨rfl,rfl⟩
     generalize Zx hi first root d4=c at hc cG
     have eh:=Ext.Pa w4.drew;have md:=tG.ext eh;refine An$ An$ R0 (λw'=>Ext w4.drew w') O$ P8 0 O O (eh)$ P8 1 O O (eh)$ P8 2 O O (eh)$ OM 3 O (UN O O ω) eh$ OM 4 O (Qc Pz Pc O O ω) eh$ P8 6 O O (eh)$ P8 7 O O (eh)$ P8 8 O O (eh)$ OM 9 O (UN O O ω) eh$ OM 10 O (Qc Pz Pc O O ω) eh$ qT 5 O (λ_ h=>PC QU O O ((tG.ext h).get (i:=first+root) ω)) eh ?_;refine qT 11 O (λ_ h=>PC QU O O ((tG.ext h).get (i:=first+c) ω)) eh$ S1 12 O W8 O (S8 _ _ _) ?_;rintro _ w6 ⟨rfl,rfl⟩;refine⟨eh,?_⟩;refine OM 13 O ((z9S O)) eh$ qE$ Qk O (λh1=>?_)$ λh1=>?_
     ·rw[if_neg (by simpa using h1)] at cG;refine OI func253 O ?_;exact⟨_,rfl,rfl,cG▸md,ar.trans (hg.trans eh).kp⟩
     ·rw[if_pos (by simpa using h1)] at cG;refine OK$ An ?_;have aC:=Ext.Pa w4.drew.drew;refine Pk [21,23] (λw'=>Ext w4.drew.drew w') (by kernel_rfl) O$ PW 0 O O (aC)$ PW 1 O O (aC)$ PW 2 O O (aC)$ Pr 3 O (UN O O ω) aC$ Ql (i:=4) O (by kernel_rfl) O O (λ_=>Xr O) (aC)$ Ql (i:=5) O (by kernel_rfl) O O (λ_=>Xr O) (aC)$ Ql (i:=6) O (by kernel_rfl) O O (λ_=>Xr O) (aC)$ Ql (i:=7) O (by kernel_rfl) O O (λ_=>UN O O ω) (aC)$ PW 8 O O (aC)$ PW 9 O O (aC)$ PW 10 O O (aC)$ Pr 11 O (UN O O ω) aC$ Pr 12 O (Qc Pz Pc O O ω) aC ?_;refine PW 14 O O (aC)$ PW 15 O O (aC)$ PW 16 O O (aC)$ Pr 17 O (UN O O ω) aC$ Pr 18 O (Qc Pz Pc O O ω) aC$ qL 13 O (λ_ h=>PC QU O O ((md.ext h).get (i:=first+c) ω)) aC$ qL 19 O (λ_ h=>PC QU O O ((md.ext h).get (i:=first+root) ω)) aC$ Pr 20 O (Qc Pz Pc O O ω) aC$ Ty [21]$ qO 21$ PJ (i:=21) O O (RV Pc O O O (md.ext aC).sl ((md.ext aC).jlt ω)) ?_;rintro w7a ⟨g7,g8⟩;refine⟨trivial,?_⟩;have cL:=(md.ext aC).set g7;refine OM 22 O (Qc Pz Pc O O ω) trivial$ qO 23$ PJ (i:=23) O O (RV Pc O O O cL.sl (cL.jlt ω)) ?_;rintro w7 ⟨iv,kr⟩;refine⟨trivial,?_⟩;have ku:=cL.set iv;have g9:Kp (λk=>k=g) w4.drew.drew w7:=aC.kp.trans (g8.trans kr);refine qE$ Rp O$ P3 O$ OG ((ih (c,Go.Sort.swp d4 (first+root) (first+c)) _ ⟨ku,(ar.trans (hg.trans eh).kp).trans g9,cG,by dsimp only;omega⟩ (by dsimp only;omega)).qb)
    case en=>
     refine Qk O (λh1=>?_)$ λh1=>?_
     ·refine Rp O$ Q4 O$ P3 O ?_;rw[show((2*root+1:Nat):Int)+1=(Zx hi first root d4:Int) by unfold Zx;rw[qa,if_pos h1];omega];exact(ao _ _ ⟨rfl,rfl⟩).qb
     ·refine OK ?_;rw[show((2*root+1:Nat):Int)=(Zx hi first root d4:Int) by unfold Zx;rw[qa,if_neg (by rw[h1];decide)]];exact(ao _ _ ⟨rfl,rfl⟩).qb
   case fW=>
    rcases Nat.lt_or_ge (2*root+1+1) hi with hj|hj
    ·refine R0 (λw'=>Ext w4 w') O$ P8 0 O O (hg)$ OM 1 O (UN O O ω) hg$ P8 2 O O (hg)$ OM 3 O (ylt O O) hg$ TN$ P8 4 O O (hg)$ P8 5 O O (hg)$ P8 6 O O (hg)$ P8 7 O O (hg)$ OM 8 O (UN O O ω) hg$ OM 9 O (Qc Pz Pc O O ω) hg$ P8 11 O O (hg)$ P8 12 O O (hg) ?_;refine P8 13 O O (hg)$ OM 14 O (UN O O ω) hg$ OM 15 O (UN O O ω) hg$ OM 16 O (Qc Pz Pc O O ω) hg$ qT 10 O (λ_ hS=>PC QU O O ((eg.ext hS).get (i:=first+(2*root+1)) ω)) hg$ qT 17 O (λ_ hS=>PC QU O O ((eg.ext hS).get (i:=first+(2*root+1)+1) ω)) hg$ S1 18 O W8 O (S8 _ _ _) ?_;rintro _ w6 ⟨rfl,rfl⟩;refine⟨hg,?_⟩;refine OM 19 O (UG O O) hg$ qE ?_;rw[show QG d4[first+(2*root+1)]! d4[first+(2*root+1)+1]! =sel by rw[<-qa,decide_eq_true hj,Bool.true_and]];exact(aY _ _ ⟨rfl,rfl⟩).qb
    ·refine R0 (λw'=>Ext w4 w') O$ P8 0 O O (hg)$ OM 1 O (UN O O ω) hg$ P8 2 O O (hg)$ OM 3 O (ylt O O) hg$ TC$ P8 4 O O (hg)$ qJ 5 O (hg)$ qJ 6 O (hg)$ qJ 7 O (hg)$ qJ 8 O (hg)$ qJ 9 O (hg)$ qJ 10 O (hg)$ qJ 11 O (hg) ?_;refine qJ 12 O (hg)$ qJ 13 O (hg)$ qJ 14 O (hg)$ qJ 15 O (hg)$ qJ 16 O (hg)$ qJ 17 O (hg)$ qJ 18 O (hg)$ OM 19 O (U6 O O) hg$ qE ?_;have nM:sel=false:=by rw[<-qa,decide_eq_false ω,Bool.false_and]
     subst nM;exact(aY _ _ ⟨rfl,rfl⟩).qb
def zbU {w:World}{g n cap:Nat}{d:Array Nat}(h:SJ w g n cap d)(a b:Nat)(jK:a<b)(hb:b<=n)(hn:n<=65536):
  Ps prog 244 [.slice (some ⟨g,0,none⟩) n cap,I (a:Int),I (b:Int)] w λu w'=>u= .tuple #[]/\SJ w' g n cap (Go.Sort.heapSort QG d a b)/\Kp (λk=>k=g) w w':=by
 refine py (e:=[(0,_),(1,_),(2,_)]) func244 O ntmps244 O O$ Pt O$ QW O$ QW O$ Pl O$ Rt O$ P3 O$ An$ qN O ?_
 rw[show(b:Int)-(a:Int)=((b-a:Nat):Int) by omega]
 refine OT O$ Rt O ?_
 rw[show((b-a:Nat):Int)-1=((b-a-1:Nat):Int) by omega]
 refine qV (WX O O ω)$ P3 O$ OL ?_
 rw[show((b-a-1:Nat):Int) / 2=(((b-a-1) / 2+1:Nat):Int)-1 by omega]
 have nK:Go.Sort.heapSort QG d a b=Go.Sort.heapPop QG a (b-a) (Go.Sort.heapBuild QG (b-a) a ((b-a-1) / 2+1) d):=rfl
 rw[nK]
 refine RN (α:=Nat×Array Nat) (((b-a-1) / 2+1,d)) (λy=>[(0,.slice (some ⟨g,0,none⟩) n cap),(6,I (a:Int)),(7,I 0),(8,I ((b-a:Nat):Int)),(9,I ((y.1:Int)-1))]) (λy w'=>SJ w' g n cap y.2/\Kp (λk=>k=g) w w'/\Go.Sort.heapBuild QG (b-a) a y.1 y.2=Go.Sort.heapBuild QG (b-a) a ((b-a-1) / 2+1) d/\y.1<=(b-a-1) / 2+1) (λy=>y.1) ?hI ?hround
 case hI=>exact⟨h,Kp.refl _ _,rfl,Nat.le_refl _⟩
 case hround=>
  rintro⟨k,d4⟩ w4 ⟨eg,ar,cG,bF⟩ ih;dsimp only at eg ar cG bF
  try dsimp only
  refine PR O$ Uh O$ OJ$ OX O (λh0=>?_)$ λh0=>?_
  ·obtain⟨k,rfl⟩:∃k',k=k'+1:=⟨k-1,ω⟩;rw[show((k+1:Nat):Int)-1=(k:Int) by omega];refine OK$ QO$ OQ O$ Pl O$ Pl O$ Pb zdN O (z4U eg k (b-a) a ω ω hn) ?_;rintro _ w5 ⟨rfl,aU,aj⟩;refine OJ$ OG$ Rp O$ Rt O$ P3 O ?_;exact(ih (k,Go.Sort.siftDown QG (b-a) a k d4) _ ⟨aU,ar.trans aj,cG,by dsimp only;omega⟩ (by dsimp only;omega)).qb
  ·have fP:k=0:=by omega
   subst fP;rw[<-cG];refine OV O$ Pt O$ Rt O$ P3 O$ OL$ RN (α:=Nat×Array Nat) ((b-a,d4)) (λy=>[(0,.slice (some ⟨g,0,none⟩) n cap),(6,I (a:Int)),(7,I 0),(10,I ((y.1:Int)-1))]) (λy w'=>SJ w' g n cap y.2/\Kp (λk=>k=g) w w'/\Go.Sort.heapPop QG a y.1 y.2=Go.Sort.heapPop QG a (b-a) (Go.Sort.heapBuild QG (b-a) a 0 d4)/\y.1<=b-a) (λy=>y.1) ?hI ?hround
   case hI=>exact⟨eg,ar,rfl,Nat.le_refl _⟩
   case hround=>
    rintro⟨k,d5⟩ w5 ⟨aU,aj,cd,bO⟩ ih2;dsimp only at aU aj cd bO
    try dsimp only
    refine PR O$ Uh O$ OJ$ OX O (λh1=>?_)$ λh1=>?_
    ·obtain⟨k,rfl⟩:∃k',k=k'+1:=⟨k-1,ω⟩;rw[show((k+1:Nat):Int)-1=(k:Int) by omega];refine OK$ QO$ An ?_;have aC:=Ext.Pa w5;refine Pk [17,19] (λw'=>Ext w5 w') (by kernel_rfl) O$ PW 0 O O (aC)$ PW 1 O O (aC)$ Ql (i:=2) O (by kernel_rfl) O O (λ_=>Xr O) (aC)$ Ql (i:=3) O (by kernel_rfl) O O (λ_=>Xr O) (aC)$ Ql (i:=4) O (by kernel_rfl) O O (λ_=>Xr O) (aC)$ Ql (i:=5) O (by kernel_rfl) O O (λ_=>UN O O ω) (aC)$ PW 6 O O (aC)$ PW 7 O O (aC)$ PW 8 O O (aC)$ Pr 9 O (UN O O ω) aC$ Pr 10 O (Qc Pz Pc O O ω) aC$ PW 12 O O (aC)$ PW 13 O O (aC) ?_;refine Pr 14 O (Qc Pz Pc O O ω) aC$ qL 11 O (λ_ h=>PC QU O O ((aU.ext h).get (i:=a+k) ω)) aC$ qL 15 O (λ_ h=>PC QU O O ((aU.ext h).get (i:=a) ω)) aC$ Pr 16 O (Qc Pz Pc O O ω) aC$ Ty [17]$ qO 17$ PJ (i:=17) O O (RV Pc O O O (aU.ext aC).sl ((aU.ext aC).jlt ω)) ?_;rintro w7a ⟨g7,g8⟩;refine⟨trivial,?_⟩;have cL:=(aU.ext aC).set g7;refine OM 18 O (Qc Pz Pc O O ω) trivial$ qO 19$ PJ (i:=19) O O (RV Pc O O O cL.sl (cL.jlt ω)) ?_;rintro w7 ⟨iv,kr⟩;refine⟨trivial,?_⟩;have ku:=cL.set iv;have g9:Kp (λk=>k=g) w5 w7:=aC.kp.trans (g8.trans kr);refine qE$ OQ O$ Pl O$ Pl O$ Pb zdN O (z4U ku 0 k a ω ω hn) ?_;rintro _ w8 ⟨rfl,JY,aL⟩;refine OJ$ OG$ Rp O$ Rt O$ P3 O ?_;exact(ih2 (k,Go.Sort.siftDown QG k a 0 (Go.Sort.swp d5 a (a+k))) _ ⟨JY,(aj.trans g9).trans aL,cd,by dsimp only;omega⟩ (by dsimp only;omega)).qb
    ·have fP:k=0:=by omega
     subst fP;rw[<-cd];refine OV O$ Qh func244 O ?_;exact⟨_,rfl,rfl,aU,aj⟩
def z5h {w:World}{g n cap:Nat}{d:Array Nat}(h:SJ w g n cap d)(a b:Nat)(jK:a<b)(hb:b<=n)(hn:n<=65536):
  Ps prog 247 [.slice (some ⟨g,0,none⟩) n cap,I (a:Int),I (b:Int)] w λu w'=>u= .tuple #[]/\SJ w' g n cap (Go.Sort.reverseRange d a b)/\Kp (λk=>k=g) w w':=by
 refine py (e:=[(0,_),(1,_),(2,_)]) func247 O ntmps247 O O$ Pt O$ R3 O$ Rt O$ P3 O$ OL ?_
 rw[show(b:Int)-1=((b-1:Nat):Int) by omega]
 refine RN (α:=Nat×Nat×Array Nat) ((a,b-1,d)) (λy=>[(0,.slice (some ⟨g,0,none⟩) n cap),(6,I (y.1:Int)),(7,I (y.2.1:Int))]) (λy w'=>SJ w' g n cap y.2.2/\Kp (λk=>k=g) w w'/\Go.Sort.reverseLoop y.1 y.2.1 y.2.2=Go.Sort.reverseRange d a b/\y.2.1<n) (λy=>y.2.1-y.1) ?hI ?hround
 case hI=>exact⟨h,Kp.refl _ _,rfl,by dsimp only;omega⟩
 case hround=>
  rintro⟨i,j,d4⟩ w4 ⟨eg,ar,cG,bF⟩ ih;dsimp only at eg ar cG bF
  try dsimp only
  refine An$ QI O$ QV O$ OJ$ OX O (λh0=>?_)$ λh0=>?_
  ·rw[Go.Sort.reverseLoop,if_pos ω] at cG;refine OK$ OL$ An ?_;have aC:=Ext.Pa w4;refine Pk [13,15] (λw'=>Ext w4 w') (by kernel_rfl) O$ PW 0 O O (aC)$ PW 1 O O (aC)$ Ql (i:=2) O (by kernel_rfl) O O (λ_=>Xr O) (aC)$ Ql (i:=3) O (by kernel_rfl) O O (λ_=>Xr O) (aC)$ PW 4 O O (aC)$ PW 5 O O (aC)$ Pr 6 O (Qc Pz Pc O O ω) aC$ PW 8 O O (aC)$ PW 9 O O (aC)$ Pr 10 O (Qc Pz Pc O O ω) aC$ qL 7 O (λ_ h=>PC QU O O ((eg.ext h).get (i:=j) ω)) aC$ qL 11 O (λ_ h=>PC QU O O ((eg.ext h).get (i:=i) ω)) aC$ Pr 12 O (Qc Pz Pc O O ω) aC ?_;refine Ty [13]$ qO 13$ PJ (i:=13) O O (RV Pc O O O (eg.ext aC).sl ((eg.ext aC).jlt ω)) ?_;rintro w7a ⟨g7,g8⟩;refine⟨trivial,?_⟩;have cL:=(eg.ext aC).set g7;refine OM 14 O (Qc Pz Pc O O ω) trivial$ qO 15$ PJ (i:=15) O O (RV Pc O O O cL.sl (cL.jlt ω)) ?_;rintro w7 ⟨iv,kr⟩;refine⟨trivial,?_⟩;have ku:=cL.set iv;have g9:Kp (λk=>k=g) w4 w7:=aC.kp.trans (g8.trans kr);refine qE$ Pt O$ Q4 O$ P3 O$ Rp O$ Rt O$ P3 O$ OG ?_;rw[show(j:Int)-1=((j-1:Nat):Int) by omega];exact(ih (i+1,j-1,Go.Sort.swp d4 i j) _ ⟨ku,ar.trans g9,cG,by dsimp only;omega⟩ (by dsimp only;omega)).qb
  ·rw[Go.Sort.reverseLoop,if_neg ω] at cG;refine OV O$ Qh func247 O ?_;exact⟨_,rfl,rfl,cG▸eg,ar⟩
section
variable (p:Nat->Bool)(d:Array Nat)(i j:Nat)
theorem Zd (h:i<=j)(hp:p d[i]! =true):Go.Sort.scanUp p d j i=Go.Sort.scanUp p d j (i+1):=by
 conv=>lhs;rw[Go.Sort.scanUp]
 rw[if_pos]
 rw[Bool.and_eq_true];exact⟨by simpa using h,hp⟩
theorem Tg (h:j<i\/p d[i]! =false):Go.Sort.scanUp p d j i=i:=by
 rw[Go.Sort.scanUp,if_neg]
 intro hc
 rw[Bool.and_eq_true] at hc
 rcases h with h| h
 ·have:=of_decide_eq_true hc.1;omega
 ·rw[h] at hc;cases hc.2
theorem Wv (h:i<=j)(hp:p d[j]! =true)(hj:1<=j):Go.Sort.scanDown p d i j=Go.Sort.scanDown p d i (j-1):=by
 obtain⟨k,rfl⟩:∃k,j=k+1:=⟨j-1,ω⟩
 rw[Go.Sort.scanDown,if_pos]
 ·rfl
 ·rw[Bool.and_eq_true];exact⟨by simpa using h,hp⟩
theorem S9 (h:j<i\/p d[j]! =false):Go.Sort.scanDown p d i j=j:=by
 cases j with
 |zero=>rw[Go.Sort.scanDown]
 | succ k =>
   rw[Go.Sort.scanDown,if_neg];intro hc;rw[Bool.and_eq_true] at hc;rcases h with h| h
   ·have:=of_decide_eq_true hc.1;omega
   ·rw[h] at hc;cases hc.2
end
def WL (p:Nat->Bool)(d:Array Nat)(j:Nat):∀i:Nat,Go.Sort.scanUp p d j i<=max i (j+1):=λi=>by
 rw[Go.Sort.scanUp]
 split
 ·rename_i h
  rw[Bool.and_eq_true] at h;have h1:=of_decide_eq_true h.1;have:=WL p d j (i+1);omega
 ·omega
 termination_by i=>j+1-i
def zad {w:World}{g n cap:Nat}{d:Array Nat}(h:SJ w g n cap d)(a b pv:Nat)(CE:a<=pv)(rQ:pv<b)(hb:b<=n)(hn:n<=65536):
  Ps prog 251 [.slice (some ⟨g,0,none⟩) n cap,I (a:Int),I (b:Int),I (pv:Int)] w λu w'=>u= .tuple #[I ((Go.Sort.partition QG d a b pv).1:Int),.bool (Go.Sort.partition QG d a b pv).2.1]/\SJ w' g n cap (Go.Sort.partition QG d a b pv).2.2/\Kp (λk=>k=g) w w':=by
 refine py (e:=[(0,_),(1,_),(2,_),(3,_)]) func251 O ntmps251 O O$ qN O$ Qr O$ An ?_
 have aC:=Ext.Pa w
 refine Pk [13,15] (λw'=>Ext w w') (by kernel_rfl) O$ PW 0 O O (aC)$ PW 1 O O (aC)$ Ql (i:=2) O (by kernel_rfl) O O (λ_=>Xr O) (aC)$ Ql (i:=3) O (by kernel_rfl) O O (λ_=>Xr O) (aC)$ PW 4 O O (aC)$ PW 5 O O (aC)$ Pr 6 O (Qc Pz Pc O O ω) aC$ PW 8 O O (aC)$ PW 9 O O (aC)$ Pr 10 O (Qc Pz Pc O O ω) aC$ qL 7 O (λ_ hS=>PC QU O O ((h.ext hS).get (i:=pv) ω)) aC$ qL 11 O (λ_ hS=>PC QU O O ((h.ext hS).get (i:=a) ω)) aC$ Pr 12 O (Qc Pz Pc O O ω) aC ?_
 refine Ty [13]$ qO 13$ PJ (i:=13) O O (RV Pc O O O (h.ext aC).sl ((h.ext aC).jlt ω)) ?_
 rintro w1a ⟨nN,nO⟩
 refine⟨trivial,?_⟩
 have gd:=(h.ext aC).set nN
 refine OM 14 O (Qc Pz Pc O O ω) trivial$ qO 15$ PJ (i:=15) O O (RV Pc O O O gd.sl (gd.jlt ω)) ?_
 rintro w1 ⟨tH,tI⟩
 refine⟨trivial,?_⟩
 have iw:=gd.set tH
 have lB:Kp (λk=>k=g) w w1:=aC.kp.trans (nO.trans tI)
 refine qE$ Pt O$ Q4 O$ OT O$ Rt O$ Qr O$ Pu.qb (e:=[(0,_),(1,_),(8,_),(9,_),(10,_),(11,_)]) ?_
 refine QO ?_
 unfold Go.Sort.partition
 dsimp only
 replace iw:SJ w1 g n cap (Go.Sort.swp d a pv):=iw
 generalize Go.Sort.swp d a pv=D at iw
 rw[show(a:Int)+1=((a+1:Nat):Int) by omega,show(b:Int)-1=((b-1:Nat):Int) by omega]
 refine SN (λe' w'=>e'=[(0,.slice (some ⟨g,0,none⟩) n cap),(1,I (a:Int)),(10,I (((Go.Sort.scanUp (λx=>QG x D[a]!) D (b-1) (a+1)):Nat):Int)),(11,I (((b-1):Nat):Int))]/\SJ w' g n cap D/\Kp (λk=>k=g) w1 w') ?pA$ λpA=>?CO
 case pA =>
  rintro e' wA ⟨rfl,JZ,pA⟩;have tt:=Go.Sort.scanUp_ge (λx=>QG x D[a]!) D (b-1) (a+1);have kw:=WL (λx=>QG x D[a]!) D (b-1) (a+1)
  generalize Go.Sort.scanUp (λx=>QG x D[a]!) D (b-1) (a+1)=i1 at tt kw
  refine QO$ SN (λe' w'=>e'=[(0,.slice (some ⟨g,0,none⟩) n cap),(1,I (a:Int)),(10,I ((i1:Nat):Int)),(11,I (((Go.Sort.scanDown (λx=>!QG x D[a]!) D i1 (b-1)):Nat):Int))]/\SJ w' g n cap D/\Kp (λk=>k=g) wA w') ?jk$ λjk=>?CN
  case jk =>
   rintro e' wB ⟨rfl,pB,jk⟩;have Id:=Go.Sort.scanDown_le (λx=>!QG x D[a]!) D i1 (b-1)
   generalize Go.Sort.scanDown (λx=>!QG x D[a]!) D i1 (b-1)=j1 at Id
   refine An$ QI O$ QD O$ OJ$ OX O (λh4=>?_)$ λh4=>?_
   ·rw[if_pos ω];refine An ?_;have aa:=Ext.Pa wB;refine Pk [13,15] (λw'=>Ext wB w') (by kernel_rfl) O$ PW 0 O O (aa)$ PW 1 O O (aa)$ Ql (i:=2) O (by kernel_rfl) O O (λ_=>Xr O) (aa)$ Ql (i:=3) O (by kernel_rfl) O O (λ_=>Xr O) (aa)$ PW 4 O O (aa)$ PW 5 O O (aa)$ Pr 6 O (Qc Pz Pc O O ω) aa$ PW 8 O O (aa)$ PW 9 O O (aa)$ Pr 10 O (Qc Pz Pc O O ω) aa$ qL 7 O (λ_ h=>PC QU O O ((pB.ext h).get (i:=a) ω)) aa$ qL 11 O (λ_ h=>PC QU O O ((pB.ext h).get (i:=j1) ω)) aa$ Pr 12 O (Qc Pz Pc O O ω) aa ?_;refine Ty [13]$ qO 13$ PJ (i:=13) O O (RV Pc O O O (pB.ext aa).sl ((pB.ext aa).jlt ω)) ?_;rintro w2a ⟨xq,xt⟩;refine⟨trivial,?_⟩;have nP:=(pB.ext aa).set xq;refine OM 14 O (Qc Pz Pc O O ω) trivial$ qO 15$ PJ (i:=15) O O (RV Pc O O O nP.sl (nP.jlt ω)) ?_;rintro w2 ⟨CG,CH⟩;refine⟨trivial,?_⟩;have CI:=nP.set CG;have xu:Kp (λk=>k=g) wB w2:=aa.kp.trans (xt.trans CH);refine qE$ Pt O$ Qr O$ OI func251 O ?_;exact⟨_,rfl,rfl,CI,(lB.trans (pA.trans jk)).trans xu⟩
   ·rw [if_neg ω]; refine OK (An ?_); have ag := Ext.Pa wB; refine Pk [13,15] (λw' => Ext wB w') (by kernel_rfl) O (PW 0 O O (ag) (PW 1 O O (ag) (Ql (i := 2) O (by kernel_rfl) O O (λ_ => Xr O) (ag) (Ql (i := 3) O (by kernel_rfl) O O (λ_ => Xr O) (ag) (PW 4 O O (ag) (PW 5 O O (ag) (Pr 6 O (Qc Pz Pc O O ω) ag (PW 8 O O (ag) (PW 9 O O (ag) (Pr 10 O (Qc Pz Pc O O ω) ag (qL 7 O (λ_ h=>PC QU O O ((pB.ext h).get (i := j1) ω)) ag (qL 11 O (λ_ h=>PC QU O O ((pB.ext h).get (i := i1) ω)) ag (Pr 12 O (Qc Pz Pc O O ω) ag ?_))))))))))))); refine Ty [13] (qO 13 (PJ (i := 13) O O (RV Pc O O O (pB.ext ag).sl ((pB.ext ag).jlt ω)) ?_)); rintro w3a ⟨xv, xw⟩; refine ⟨trivial, ?_⟩; have nQ := (pB.ext ag).set xv; refine OM 14 O (Qc Pz Pc O O ω) trivial (qO 15 (PJ (i := 15) O O (RV Pc O O O nQ.sl (nQ.jlt ω)) ?_)); rintro w3 ⟨CJ, CK⟩; refine ⟨trivial, ?_⟩; have CL := nQ.set CJ; have xy : Kp (λk => k = g) wB w3 := ag.kp.trans (xw.trans CK); refine qE (Pt O (Q4 O (R3 O (Rt O (P3 O (Pu.qb (e := [(0, _), (1, _), (10, _), (11, _)]) ?_)))))); refine QO ?_; rw [show (j1 : Int) - 1 = ((j1 - 1 : Nat) : Int) by omega]; refine RN (α := Nat × Nat × Array Nat) ((i1 + 1, j1 - 1, Go.Sort.swp D i1 j1)) (λy => [(0, .slice (some ⟨g, 0, none⟩) n cap), (1, I (a : Int)), (10, I (y.1 : Int)), (11, I (y.2.1 : Int))]) (λy w' => SJ w' g n cap y.2.2 /\ Kp (λk => k = g) w3 w' /\ Go.Sort.partLoop QG a y.1 y.2.1 y.2.2 = Go.Sort.partLoop QG a (i1 + 1) (j1 - 1) (Go.Sort.swp D i1 j1) /\ (a < y.1 /\ y.1 <= n /\ y.2.1 < n)) (λy => y.2.1 + 1 - y.1) ?hI ?hround
    case hI=>exact⟨CL,Kp.refl _ _,rfl,by dsimp only;omega⟩
    case hround =>
     rintro⟨i,j,d4⟩ w4 ⟨eg,ar,cG,bF⟩ ih;dsimp only at eg ar cG bF;rw[Go.Sort.partLoop_eq] at cG
     try dsimp only
     refine OL$ QO$ SN (λe' w'=>e'=[(0,.slice (some ⟨g,0,none⟩) n cap),(1,I (a:Int)),(10,I (((Go.Sort.scanUp (λx=>QG x d4[a]!) d4 j (i)):Nat):Int)),(11,I ((j:Nat):Int))]/\SJ w' g n cap d4/\Kp (λk=>k=g) w4 w') ?jP$ λjP=>?tK
     case jP=>
      rintro e' wC ⟨rfl,CM,jP⟩;have dO:=Go.Sort.scanUp_ge (λx=>QG x d4[a]!) d4 j i;have lq:=WL (λx=>QG x d4[a]!) d4 j i
      generalize Go.Sort.scanUp (λx=>QG x d4[a]!) d4 j i=i2 at cG dO lq
      refine QO$ SN (λe' w'=>e'=[(0,.slice (some ⟨g,0,none⟩) n cap),(1,I (a:Int)),(10,I ((i2:Nat):Int)),(11,I (((Go.Sort.scanDown (λx=>!QG x d4[a]!) d4 i2 (j)):Nat):Int))]/\SJ w' g n cap d4/\Kp (λk=>k=g) wC w') ?fK$ λfK=>?tJ
      case fK=>
       rintro e' wD ⟨rfl,jl,fK⟩;have lA:=Go.Sort.scanDown_le (λx=>!QG x d4[a]!) d4 i2 j
       generalize Go.Sort.scanDown (λx=>!QG x d4[a]!) d4 i2 j=j2 at cG lA
       refine An$ QI O$ QD O$ OJ$ OX O (λh5=>?_)$ λh5=>?_
       ·rw[if_pos ω] at cG;refine OV O$ An ?_;rw[<-cG];have pC:=((lB.trans (pA.trans jk)).trans xy).trans (ar.trans (jP.trans fK));have aP:=Ext.Pa wD;refine Pk [13,15] (λw'=>Ext wD w') (by kernel_rfl) O$ PW 0 O O (aP)$ PW 1 O O (aP)$ Ql (i:=2) O (by kernel_rfl) O O (λ_=>Xr O) (aP)$ Ql (i:=3) O (by kernel_rfl) O O (λ_=>Xr O) (aP)$ PW 4 O O (aP)$ PW 5 O O (aP)$ Pr 6 O (Qc Pz Pc O O ω) aP$ PW 8 O O (aP)$ PW 9 O O (aP)$ Pr 10 O (Qc Pz Pc O O ω) aP$ qL 7 O (λ_ h=>PC QU O O ((jl.ext h).get (i:=a) ω)) aP$ qL 11 O (λ_ h=>PC QU O O ((jl.ext h).get (i:=j2) ω)) aP$ Pr 12 O (Qc Pz Pc O O ω) aP ?_;refine Ty [13]$ qO 13$ PJ (i:=13) O O (RV Pc O O O (jl.ext aP).sl ((jl.ext aP).jlt ω)) ?_;rintro w8a ⟨ge,gh⟩;refine⟨trivial,?_⟩;have cM:=(jl.ext aP).set ge;refine OM 14 O (Qc Pz Pc O O ω) trivial$ qO 15$ PJ (i:=15) O O (RV Pc O O O cM.sl (cM.jlt ω)) ?_;rintro w8 ⟨ky,kz⟩;refine⟨trivial,?_⟩;have kA:=cM.set ky;have fC:Kp (λk=>k=g) wD w8:=aP.kp.trans (gh.trans kz);refine qE$ Pt O$ Qr O$ OI func251 O ?_;exact⟨_,rfl,rfl,kA,pC.trans fC⟩
       ·rw[if_neg ω] at cG;refine OK$ An ?_;have aP:=Ext.Pa wD;refine Pk [13,15] (λw'=>Ext wD w') (by kernel_rfl) O$ PW 0 O O (aP)$ PW 1 O O (aP)$ Ql (i:=2) O (by kernel_rfl) O O (λ_=>Xr O) (aP)$ Ql (i:=3) O (by kernel_rfl) O O (λ_=>Xr O) (aP)$ PW 4 O O (aP)$ PW 5 O O (aP)$ Pr 6 O (Qc Pz Pc O O ω) aP$ PW 8 O O (aP)$ PW 9 O O (aP)$ Pr 10 O (Qc Pz Pc O O ω) aP$ qL 7 O (λ_ h=>PC QU O O ((jl.ext h).get (i:=j2) ω)) aP$ qL 11 O (λ_ h=>PC QU O O ((jl.ext h).get (i:=i2) ω)) aP$ Pr 12 O (Qc Pz Pc O O ω) aP ?_;refine Ty [13]$ qO 13$ PJ (i:=13) O O (RV Pc O O O (jl.ext aP).sl ((jl.ext aP).jlt ω)) ?_;rintro w8a ⟨ge,gh⟩;refine⟨trivial,?_⟩;have cM:=(jl.ext aP).set ge;refine OM 14 O (Qc Pz Pc O O ω) trivial$ qO 15$ PJ (i:=15) O O (RV Pc O O O cM.sl (cM.jlt ω)) ?_;rintro w8 ⟨ky,kz⟩;refine⟨trivial,?_⟩;have kA:=cM.set ky;have fC:Kp (λk=>k=g) wD w8:=aP.kp.trans (gh.trans kz);refine qE$ Pt O$ Q4 O$ P3 O$ Rp O$ Rt O$ P3 O$ OG ?_;rw[show(j2:Int)-1=((j2-1:Nat):Int) by omega];exact(ih (i2+1,j2-1,Go.Sort.swp d4 i2 j2) _ ⟨kA,(ar.trans (jP.trans fK)).trans fC,cG,by dsimp only;omega⟩ (by dsimp only;omega)).qb
      case tJ=>
       refine RN (α:=Nat) (j) (λr=>[(0,.slice (some ⟨g,0,none⟩) n cap),(1,I (a:Int)),(10,I ((i2:Nat):Int)),(11,I ((r:Nat):Int))]) (λr w'=>SJ w' g n cap d4/\Kp (λk=>k=g) wC w'/\Go.Sort.scanDown (λx=>!QG x d4[a]!) d4 i2 r=Go.Sort.scanDown (λx=>!QG x d4[a]!) d4 i2 (j)/\r<n) (λr=>r) ?hI ?hround
       case hI=>exact⟨CM,Kp.refl _ _,rfl,ω⟩
       case hround=>
        rintro r w5 ⟨aU,aj,cd,bO⟩ ih
        try dsimp only
        have hg:=Ext.Pa w5;rcases Nat.lt_or_ge r (i2) with hj|hj
        ·refine An$ An$ R0 (λw'=>Ext w5 w') O$ P8 0 O O (hg)$ P8 1 O O (hg)$ OM 2 O (Z3 O O) hg$ TC$ P8 3 O O (hg)$ qJ 4 O (hg)$ qJ 5 O (hg)$ qJ 6 O (hg)$ qJ 7 O (hg)$ qJ 8 O (hg)$ qJ 9 O (hg) ?_;refine qJ 10 O (hg)$ qJ 11 O (hg)$ qJ 12 O (hg)$ qJ 13 O (hg)$ OM 14 O (U6 O O) hg$ qE$ OR O$ OV O ?_;rw[S9 _ _ _ _ (.inl hj)] at cd;subst cd;exact(fK _ _ ⟨rfl,aU.ext hg,aj.trans hg.kp⟩).qb
        ·refine An$ An$ R0 (λw'=>Ext w5 w') O$ P8 0 O O (hg)$ P8 1 O O (hg)$ OM 2 O (Z3 O O) hg$ TN$ P8 3 O O (hg)$ P8 4 O O (hg)$ P8 5 O O (hg)$ OM 6 O (Qc Pz Pc O O ω) hg$ P8 8 O O (hg)$ P8 9 O O (hg)$ OM 10 O (Qc Pz Pc O O ω) hg ?_;refine qT 7 O (λ_ h=>PC QU O O ((aU.ext h).get (i:=r) ω)) hg$ qT 11 O (λ_ h=>PC QU O O ((aU.ext h).get (i:=a) ω)) hg$ S1 12 O W8 O (S8 _ _ _) ?_;rintro _ w6 ⟨rfl,rfl⟩;refine⟨hg,?_⟩;refine OM 13 O ((z9S O)) hg$ OM 14 O (UG O O) hg$ qE$ Qk O (λh1=>?_)$ λh1=>?_
         ·rw[Wv _ _ _ _ hj (by simpa[QG] using h1) ω] at cd;refine OK$ OL$ Rp O$ Rt O$ P3 O$ OG ?_;rw[show(r:Int)-1=((r-1:Nat):Int) by omega];exact(ih (r-1) _ ⟨aU.ext hg,aj.trans hg.kp,cd,ω⟩ ω).qb
         ·rw[S9 _ _ _ _ (.inr (by simpa[QG] using h1))] at cd;refine OV O ?_;subst cd;exact(fK _ _ ⟨rfl,aU.ext hg,aj.trans hg.kp⟩).qb
     case tK=>
      refine RN (α:=Nat) (i) (λr=>[(0,.slice (some ⟨g,0,none⟩) n cap),(1,I (a:Int)),(10,I ((r:Nat):Int)),(11,I ((j:Nat):Int))]) (λr w'=>SJ w' g n cap d4/\Kp (λk=>k=g) w4 w'/\Go.Sort.scanUp (λx=>QG x d4[a]!) d4 j r=Go.Sort.scanUp (λx=>QG x d4[a]!) d4 j (i)/\i<=r/\r<=n+1) (λr=>j+1-r) ?hI ?hround
      case hI=>exact⟨eg,Kp.refl _ _,rfl,Nat.le_refl _,ω⟩
      case hround=>
       rintro r w5 ⟨aU,aj,cd,bO⟩ ih
       try dsimp only
       have hg:=Ext.Pa w5;rcases Nat.lt_or_ge (j) r with hj|hj
       ·refine An$ An$ R0 (λw'=>Ext w5 w') O$ P8 0 O O (hg)$ P8 1 O O (hg)$ OM 2 O (Z3 O O) hg$ TC$ P8 3 O O (hg)$ qJ 4 O (hg)$ qJ 5 O (hg)$ qJ 6 O (hg)$ qJ 7 O (hg)$ qJ 8 O (hg)$ qJ 9 O (hg) ?_;refine qJ 10 O (hg)$ qJ 11 O (hg)$ qJ 12 O (hg)$ OM 13 O (U6 O O) hg$ qE$ OR O$ OV O ?_;rw[Tg _ _ _ _ (.inl hj)] at cd;subst cd;exact(jP _ _ ⟨rfl,aU.ext hg,aj.trans hg.kp⟩).qb
       ·refine An$ An$ R0 (λw'=>Ext w5 w') O$ P8 0 O O (hg)$ P8 1 O O (hg)$ OM 2 O (Z3 O O) hg$ TN$ P8 3 O O (hg)$ P8 4 O O (hg)$ P8 5 O O (hg)$ OM 6 O (Qc Pz Pc O O ω) hg$ P8 8 O O (hg)$ P8 9 O O (hg)$ OM 10 O (Qc Pz Pc O O ω) hg ?_;refine qT 7 O (λ_ h=>PC QU O O ((aU.ext h).get (i:=r) ω)) hg$ qT 11 O (λ_ h=>PC QU O O ((aU.ext h).get (i:=a) ω)) hg$ S1 12 O W8 O (S8 _ _ _) ?_;rintro _ w6 ⟨rfl,rfl⟩;refine⟨hg,?_⟩;refine OM 13 O (UG O O) hg$ qE$ Qk O (λh1=>?_)$ λh1=>?_
        ·rw[Zd _ _ _ _ hj (by simpa[QG] using h1)] at cd;refine OK$ OL$ Rp O$ Q4 O$ P3 O$ OG ?_;exact(ih (r+1) _ ⟨aU.ext hg,aj.trans hg.kp,cd,ω,ω⟩ ω).qb
        ·rw[Tg _ _ _ _ (.inr (by simpa[QG] using h1))] at cd;refine OV O ?_;subst cd;exact(jP _ _ ⟨rfl,aU.ext hg,aj.trans hg.kp⟩).qb
  case CN=>
   refine RN (α:=Nat) (b-1) (λr=>[(0,.slice (some ⟨g,0,none⟩) n cap),(1,I (a:Int)),(10,I ((i1:Nat):Int)),(11,I ((r:Nat):Int))]) (λr w'=>SJ w' g n cap D/\Kp (λk=>k=g) wA w'/\Go.Sort.scanDown (λx=>!QG x D[a]!) D i1 r=Go.Sort.scanDown (λx=>!QG x D[a]!) D i1 (b-1)/\r<n) (λr=>r) ?hI ?hround
   case hI=>exact⟨JZ,Kp.refl _ _,rfl,ω⟩
   case hround=>
    rintro r w5 ⟨aU,aj,cd,bO⟩ ih
    try dsimp only
    have hg:=Ext.Pa w5;rcases Nat.lt_or_ge r (i1) with hj|hj
    ·refine An$ An$ R0 (λw'=>Ext w5 w') O$ P8 0 O O (hg)$ P8 1 O O (hg)$ OM 2 O (Z3 O O) hg$ TC$ P8 3 O O (hg)$ qJ 4 O (hg)$ qJ 5 O (hg)$ qJ 6 O (hg)$ qJ 7 O (hg)$ qJ 8 O (hg)$ qJ 9 O (hg) ?_;refine qJ 10 O (hg)$ qJ 11 O (hg)$ qJ 12 O (hg)$ qJ 13 O (hg)$ OM 14 O (U6 O O) hg$ qE$ OR O$ OV O ?_;rw[S9 _ _ _ _ (.inl hj)] at cd;subst cd;exact(jk _ _ ⟨rfl,aU.ext hg,aj.trans hg.kp⟩).qb
    ·refine An$ An$ R0 (λw'=>Ext w5 w') O$ P8 0 O O (hg)$ P8 1 O O (hg)$ OM 2 O (Z3 O O) hg$ TN$ P8 3 O O (hg)$ P8 4 O O (hg)$ P8 5 O O (hg)$ OM 6 O (Qc Pz Pc O O ω) hg$ P8 8 O O (hg)$ P8 9 O O (hg)$ OM 10 O (Qc Pz Pc O O ω) hg ?_;refine qT 7 O (λ_ h=>PC QU O O ((aU.ext h).get (i:=r) ω)) hg$ qT 11 O (λ_ h=>PC QU O O ((aU.ext h).get (i:=a) ω)) hg$ S1 12 O W8 O (S8 _ _ _) ?_;rintro _ w6 ⟨rfl,rfl⟩;refine⟨hg,?_⟩;refine OM 13 O ((z9S O)) hg$ OM 14 O (UG O O) hg$ qE$ Qk O (λh1=>?_)$ λh1=>?_
     ·rw[Wv _ _ _ _ hj (by simpa[QG] using h1) ω] at cd;refine OK$ OL$ Rp O$ Rt O$ P3 O$ OG ?_;rw[show(r:Int)-1=((r-1:Nat):Int) by omega];exact(ih (r-1) _ ⟨aU.ext hg,aj.trans hg.kp,cd,ω⟩ ω).qb
     ·rw[S9 _ _ _ _ (.inr (by simpa[QG] using h1))] at cd;refine OV O ?_;subst cd;exact(jk _ _ ⟨rfl,aU.ext hg,aj.trans hg.kp⟩).qb
 case CO=>
  refine RN (α:=Nat) (a+1) (λr=>[(0,.slice (some ⟨g,0,none⟩) n cap),(1,I (a:Int)),(10,I ((r:Nat):Int)),(11,I (((b-1):Nat):Int))]) (λr w'=>SJ w' g n cap D/\Kp (λk=>k=g) w1 w'/\Go.Sort.scanUp (λx=>QG x D[a]!) D (b-1) r=Go.Sort.scanUp (λx=>QG x D[a]!) D (b-1) (a+1)/\a+1<=r/\r<=n+1) (λr=>(b-1)+1-r) ?hI ?hround
  case hI=>exact⟨iw,Kp.refl _ _,rfl,Nat.le_refl _,ω⟩
  case hround=>
   rintro r w5 ⟨aU,aj,cd,bO⟩ ih
   try dsimp only
   have hg:=Ext.Pa w5;rcases Nat.lt_or_ge ((b-1)) r with hj|hj
   ·refine An$ An$ R0 (λw'=>Ext w5 w') O$ P8 0 O O (hg)$ P8 1 O O (hg)$ OM 2 O (Z3 O O) hg$ TC$ P8 3 O O (hg)$ qJ 4 O (hg)$ qJ 5 O (hg)$ qJ 6 O (hg)$ qJ 7 O (hg)$ qJ 8 O (hg)$ qJ 9 O (hg) ?_;refine qJ 10 O (hg)$ qJ 11 O (hg)$ qJ 12 O (hg)$ OM 13 O (U6 O O) hg$ qE$ OR O$ OV O ?_;rw[Tg _ _ _ _ (.inl hj)] at cd;subst cd;exact(pA _ _ ⟨rfl,aU.ext hg,aj.trans hg.kp⟩).qb
   ·refine An$ An$ R0 (λw'=>Ext w5 w') O$ P8 0 O O (hg)$ P8 1 O O (hg)$ OM 2 O (Z3 O O) hg$ TN$ P8 3 O O (hg)$ P8 4 O O (hg)$ P8 5 O O (hg)$ OM 6 O (Qc Pz Pc O O ω) hg$ P8 8 O O (hg)$ P8 9 O O (hg)$ OM 10 O (Qc Pz Pc O O ω) hg ?_;refine qT 7 O (λ_ h=>PC QU O O ((aU.ext h).get (i:=r) ω)) hg$ qT 11 O (λ_ h=>PC QU O O ((aU.ext h).get (i:=a) ω)) hg$ S1 12 O W8 O (S8 _ _ _) ?_;rintro _ w6 ⟨rfl,rfl⟩;refine⟨hg,?_⟩;refine OM 13 O (UG O O) hg$ qE$ Qk O (λh1=>?_)$ λh1=>?_
    ·rw[Zd _ _ _ _ hj (by simpa[QG] using h1)] at cd;refine OK$ OL$ Rp O$ Q4 O$ P3 O$ OG ?_;exact(ih (r+1) _ ⟨aU.ext hg,aj.trans hg.kp,cd,ω,ω⟩ ω).qb
    ·rw[Tg _ _ _ _ (.inr (by simpa[QG] using h1))] at cd;refine OV O ?_;subst cd;exact(pA _ _ ⟨rfl,aU.ext hg,aj.trans hg.kp⟩).qb
def zcA {w:World}{g n cap:Nat}{d:Array Nat}(h:SJ w g n cap d)(a b pv:Nat)(CE:a<=pv)(rQ:pv<b)(hb:b<=n)(hn:n<=65536):
  Ps prog 250 [.slice (some ⟨g,0,none⟩) n cap,I (a:Int),I (b:Int),I (pv:Int)] w λu w'=>u=I ((Go.Sort.partitionEqual QG d a b pv).1:Int)/\SJ w' g n cap (Go.Sort.partitionEqual QG d a b pv).2/\Kp (λk=>k=g) w w':=by
 refine py (e:=[(0,_),(1,_),(2,_),(3,_)]) func250 O ntmps250 O O$ QN O$ An ?_
 have aC:=Ext.Pa w
 refine Pk [13,15] (λw'=>Ext w w') (by kernel_rfl) O$ PW 0 O O (aC)$ PW 1 O O (aC)$ Ql (i:=2) O (by kernel_rfl) O O (λ_=>Xr O) (aC)$ Ql (i:=3) O (by kernel_rfl) O O (λ_=>Xr O) (aC)$ PW 4 O O (aC)$ PW 5 O O (aC)$ Pr 6 O (Qc Pz Pc O O ω) aC$ PW 8 O O (aC)$ PW 9 O O (aC)$ Pr 10 O (Qc Pz Pc O O ω) aC$ qL 7 O (λ_ hS=>PC QU O O ((h.ext hS).get (i:=pv) ω)) aC$ qL 11 O (λ_ hS=>PC QU O O ((h.ext hS).get (i:=a) ω)) aC$ Pr 12 O (Qc Pz Pc O O ω) aC ?_
 refine Ty [13]$ qO 13$ PJ (i:=13) O O (RV Pc O O O (h.ext aC).sl ((h.ext aC).jlt ω)) ?_
 rintro w1a ⟨nN,nO⟩
 refine⟨trivial,?_⟩
 have gd:=(h.ext aC).set nN
 refine OM 14 O (Qc Pz Pc O O ω) trivial$ qO 15$ PJ (i:=15) O O (RV Pc O O O gd.sl (gd.jlt ω)) ?_
 rintro w1 ⟨tH,tI⟩
 refine⟨trivial,?_⟩
 have iw:=gd.set tH
 have lB:Kp (λk=>k=g) w w1:=aC.kp.trans (nO.trans tI)
 refine qE$ Pt O$ Q4 O$ OT O$ Rt O$ Qr O$ Pu.qb (e:=[(0,_),(1,_),(8,_),(9,_),(10,_)]) ?_
 refine QO ?_
 unfold Go.Sort.partitionEqual
 replace iw:SJ w1 g n cap (Go.Sort.swp d a pv):=iw
 generalize Go.Sort.swp d a pv=D at iw
 rw[show(a:Int)+1=((a+1:Nat):Int) by omega,show(b:Int)-1=((b-1:Nat):Int) by omega]
 refine RN (α:=Nat×Nat×Array Nat) ((a+1,b-1,D)) (λy=>[(0,.slice (some ⟨g,0,none⟩) n cap),(1,I (a:Int)),(9,I (y.1:Int)),(10,I (y.2.1:Int))]) (λy w'=>SJ w' g n cap y.2.2/\Kp (λk=>k=g) w1 w'/\Go.Sort.partEqLoop QG a y.1 y.2.1 y.2.2=Go.Sort.partEqLoop QG a (a+1) (b-1) D/\(a<y.1/\y.1<=n/\y.2.1<n)) (λy=>y.2.1+1-y.1) ?hI ?hround
 case hI=>exact⟨iw,Kp.refl _ _,rfl,by dsimp only;omega⟩
 case hround =>
  rintro⟨i,j,d4⟩ w4 ⟨eg,ar,cG,bF⟩ ih;dsimp only at eg ar cG bF;rw[Go.Sort.partEqLoop_eq] at cG
  try dsimp only
  refine OL$ QO$ SN (λe' w'=>e'=[(0,.slice (some ⟨g,0,none⟩) n cap),(1,I (a:Int)),(9,I (((Go.Sort.scanUp (λx=>!QG d4[a]! x) d4 j (i)):Nat):Int)),(10,I ((j:Nat):Int))]/\SJ w' g n cap d4/\Kp (λk=>k=g) w4 w') ?jP$ λjP=>?tK
  case jP=>
   rintro e' wC ⟨rfl,CM,jP⟩;have dO:=Go.Sort.scanUp_ge (λx=>!QG d4[a]! x) d4 j i;have lq:=WL (λx=>!QG d4[a]! x) d4 j i
   generalize Go.Sort.scanUp (λx=>!QG d4[a]! x) d4 j i=i2 at cG dO lq
   refine QO$ SN (λe' w'=>e'=[(0,.slice (some ⟨g,0,none⟩) n cap),(1,I (a:Int)),(9,I ((i2:Nat):Int)),(10,I (((Go.Sort.scanDown (λx=>QG d4[a]! x) d4 i2 (j)):Nat):Int))]/\SJ w' g n cap d4/\Kp (λk=>k=g) wC w') ?fK$ λfK=>?tJ
   case fK=>
    rintro e' wD ⟨rfl,jl,fK⟩;have lA:=Go.Sort.scanDown_le (λx=>QG d4[a]! x) d4 i2 j
    generalize Go.Sort.scanDown (λx=>QG d4[a]! x) d4 i2 j=j2 at cG lA
    refine An$ QI O$ QD O$ OJ$ OX O (λh5=>?_)$ λh5=>?_
    ·rw[if_pos ω] at cG;rw[<-cG];refine OV O$ Pt O$ P3 O$ OI func250 O ?_;exact⟨_,rfl,rfl,jl,lB.trans (ar.trans (jP.trans fK))⟩
    ·rw[if_neg ω] at cG;refine OK$ An ?_;have aP:=Ext.Pa wD;refine Pk [13,15] (λw'=>Ext wD w') (by kernel_rfl) O$ PW 0 O O (aP)$ PW 1 O O (aP)$ Ql (i:=2) O (by kernel_rfl) O O (λ_=>Xr O) (aP)$ Ql (i:=3) O (by kernel_rfl) O O (λ_=>Xr O) (aP)$ PW 4 O O (aP)$ PW 5 O O (aP)$ Pr 6 O (Qc Pz Pc O O ω) aP$ PW 8 O O (aP)$ PW 9 O O (aP)$ Pr 10 O (Qc Pz Pc O O ω) aP$ qL 7 O (λ_ h=>PC QU O O ((jl.ext h).get (i:=j2) ω)) aP$ qL 11 O (λ_ h=>PC QU O O ((jl.ext h).get (i:=i2) ω)) aP$ Pr 12 O (Qc Pz Pc O O ω) aP ?_;refine Ty [13]$ qO 13$ PJ (i:=13) O O (RV Pc O O O (jl.ext aP).sl ((jl.ext aP).jlt ω)) ?_;rintro w8a ⟨ge,gh⟩;refine⟨trivial,?_⟩;have cM:=(jl.ext aP).set ge;refine OM 14 O (Qc Pz Pc O O ω) trivial$ qO 15$ PJ (i:=15) O O (RV Pc O O O cM.sl (cM.jlt ω)) ?_;rintro w8 ⟨ky,kz⟩;refine⟨trivial,?_⟩;have kA:=cM.set ky;have fC:Kp (λk=>k=g) wD w8:=aP.kp.trans (gh.trans kz);refine qE$ Pt O$ Q4 O$ P3 O$ Rp O$ Rt O$ P3 O$ OG ?_;rw[show(j2:Int)-1=((j2-1:Nat):Int) by omega];exact(ih (i2+1,j2-1,Go.Sort.swp d4 i2 j2) _ ⟨kA,(ar.trans (jP.trans fK)).trans fC,cG,by dsimp only;omega⟩ (by dsimp only;omega)).qb
   case tJ=>
    refine RN (α:=Nat) (j) (λr=>[(0,.slice (some ⟨g,0,none⟩) n cap),(1,I (a:Int)),(9,I ((i2:Nat):Int)),(10,I ((r:Nat):Int))]) (λr w'=>SJ w' g n cap d4/\Kp (λk=>k=g) wC w'/\Go.Sort.scanDown (λx=>QG d4[a]! x) d4 i2 r=Go.Sort.scanDown (λx=>QG d4[a]! x) d4 i2 (j)/\r<n) (λr=>r) ?hI ?hround
    case hI=>exact⟨CM,Kp.refl _ _,rfl,ω⟩
    case hround=>
     rintro r w5 ⟨aU,aj,cd,bO⟩ ih
     try dsimp only
     have hg:=Ext.Pa w5;rcases Nat.lt_or_ge r (i2) with hj|hj
     ·refine An$ An$ R0 (λw'=>Ext w5 w') O$ P8 0 O O (hg)$ P8 1 O O (hg)$ OM 2 O (Z3 O O) hg$ TC$ P8 3 O O (hg)$ qJ 4 O (hg)$ qJ 5 O (hg)$ qJ 6 O (hg)$ qJ 7 O (hg)$ qJ 8 O (hg)$ qJ 9 O (hg) ?_;refine qJ 10 O (hg)$ qJ 11 O (hg)$ qJ 12 O (hg)$ OM 13 O (U6 O O) hg$ qE$ OR O$ OV O ?_;rw[S9 _ _ _ _ (.inl hj)] at cd;subst cd;exact(fK _ _ ⟨rfl,aU.ext hg,aj.trans hg.kp⟩).qb
     ·refine An$ An$ R0 (λw'=>Ext w5 w') O$ P8 0 O O (hg)$ P8 1 O O (hg)$ OM 2 O (Z3 O O) hg$ TN$ P8 3 O O (hg)$ P8 4 O O (hg)$ P8 5 O O (hg)$ OM 6 O (Qc Pz Pc O O ω) hg$ P8 8 O O (hg)$ P8 9 O O (hg)$ OM 10 O (Qc Pz Pc O O ω) hg ?_;refine qT 7 O (λ_ h=>PC QU O O ((aU.ext h).get (i:=a) ω)) hg$ qT 11 O (λ_ h=>PC QU O O ((aU.ext h).get (i:=r) ω)) hg$ S1 12 O W8 O (S8 _ _ _) ?_;rintro _ w6 ⟨rfl,rfl⟩;refine⟨hg,?_⟩;refine OM 13 O (UG O O) hg$ qE$ Qk O (λh1=>?_)$ λh1=>?_
      ·rw[Wv _ _ _ _ hj (by simpa[QG] using h1) ω] at cd;refine OK$ OL$ Rp O$ Rt O$ P3 O$ OG ?_;rw[show(r:Int)-1=((r-1:Nat):Int) by omega];exact(ih (r-1) _ ⟨aU.ext hg,aj.trans hg.kp,cd,ω⟩ ω).qb
      ·rw[S9 _ _ _ _ (.inr (by simpa[QG] using h1))] at cd;refine OV O ?_;subst cd;exact(fK _ _ ⟨rfl,aU.ext hg,aj.trans hg.kp⟩).qb
  case tK=>
   refine RN (α:=Nat) (i) (λr=>[(0,.slice (some ⟨g,0,none⟩) n cap),(1,I (a:Int)),(9,I ((r:Nat):Int)),(10,I ((j:Nat):Int))]) (λr w'=>SJ w' g n cap d4/\Kp (λk=>k=g) w4 w'/\Go.Sort.scanUp (λx=>!QG d4[a]! x) d4 j r=Go.Sort.scanUp (λx=>!QG d4[a]! x) d4 j (i)/\i<=r/\r<=n+1) (λr=>j+1-r) ?hI ?hround
   case hI=>exact⟨eg,Kp.refl _ _,rfl,Nat.le_refl _,ω⟩
   case hround=>
    rintro r w5 ⟨aU,aj,cd,bO⟩ ih
    try dsimp only
    have hg:=Ext.Pa w5;rcases Nat.lt_or_ge (j) r with hj|hj
    ·refine An$ An$ R0 (λw'=>Ext w5 w') O$ P8 0 O O (hg)$ P8 1 O O (hg)$ OM 2 O (Z3 O O) hg$ TC$ P8 3 O O (hg)$ qJ 4 O (hg)$ qJ 5 O (hg)$ qJ 6 O (hg)$ qJ 7 O (hg)$ qJ 8 O (hg)$ qJ 9 O (hg) ?_;refine qJ 10 O (hg)$ qJ 11 O (hg)$ qJ 12 O (hg)$ qJ 13 O (hg)$ OM 14 O (U6 O O) hg$ qE$ OR O$ OV O ?_;rw[Tg _ _ _ _ (.inl hj)] at cd;subst cd;exact(jP _ _ ⟨rfl,aU.ext hg,aj.trans hg.kp⟩).qb
    ·refine An$ An$ R0 (λw'=>Ext w5 w') O$ P8 0 O O (hg)$ P8 1 O O (hg)$ OM 2 O (Z3 O O) hg$ TN$ P8 3 O O (hg)$ P8 4 O O (hg)$ P8 5 O O (hg)$ OM 6 O (Qc Pz Pc O O ω) hg$ P8 8 O O (hg)$ P8 9 O O (hg)$ OM 10 O (Qc Pz Pc O O ω) hg ?_;refine qT 7 O (λ_ h=>PC QU O O ((aU.ext h).get (i:=a) ω)) hg$ qT 11 O (λ_ h=>PC QU O O ((aU.ext h).get (i:=r) ω)) hg$ S1 12 O W8 O (S8 _ _ _) ?_;rintro _ w6 ⟨rfl,rfl⟩;refine⟨hg,?_⟩;refine OM 13 O ((z9S O)) hg$ OM 14 O (UG O O) hg$ qE$ Qk O (λh1=>?_)$ λh1=>?_
     ·rw[Zd _ _ _ _ hj (by simpa[QG] using h1)] at cd;refine OK$ OL$ Rp O$ Q4 O$ P3 O$ OG ?_;exact(ih (r+1) _ ⟨aU.ext hg,aj.trans hg.kp,cd,ω,ω⟩ ω).qb
     ·rw[Tg _ _ _ _ (.inr (by simpa[QG] using h1))] at cd;refine OV O ?_;subst cd;exact(jP _ _ ⟨rfl,aU.ext hg,aj.trans hg.kp⟩).qb
section
variable (d:Array Nat)(b i:Nat)
theorem z25 (h:i<b)(hp:QG d[i]! d[i-1]! =false):Go.Sort.scanSorted QG d b i=Go.Sort.scanSorted QG d b (i+1):=by
 conv=>lhs;rw[Go.Sort.scanSorted]
 rw[if_pos]
 rw[Bool.and_eq_true];exact⟨by simpa using h,by rw[hp];rfl⟩
theorem W1 (h:b<=i\/QG d[i]! d[i-1]! =true):Go.Sort.scanSorted QG d b i=i:=by
 rw[Go.Sort.scanSorted,if_neg]
 intro hc
 rw[Bool.and_eq_true] at hc
 rcases h with h| h
 ·have:=of_decide_eq_true hc.1;omega
 ·rw[h] at hc;cases hc.2
end
theorem z7z (d:Array Nat)(a b:Nat)(h:b-a<50):Go.Sort.partialInsertionSort QG d a b=(d,decide (Go.Sort.scanSorted QG d b (a+1)=b)):=by
 unfold Go.Sort.partialInsertionSort
 rw[Go.Sort.partialIns]
 by_cases e:Go.Sort.scanSorted QG d b (a+1)=b
 ·simp only[e,if_pos,decide_true]
 ·simp only[if_neg e,if_pos h,decide_eq_false e]
def zbm {w:World}{g n cap:Nat}{d:Array Nat}(h:SJ w g n cap d)(a b:Nat)(jK:a<b)(hb:b<=n)(hn:n<50):
  Ps prog 248 [.slice (some ⟨g,0,none⟩) n cap,I (a:Int),I (b:Int)] w λu w'=>u= .bool (Go.Sort.partialInsertionSort QG d a b).2/\SJ w' g n cap d/\Kp (λk=>k=g) w w':=by
 rw[z7z d a b ω]
 dsimp only
 refine py (e:=[(0,_),(1,_),(2,_)]) func248 O ntmps248 O O$ qN O$ R3 O$ Q4 O$ P3 O$ An$ QN O$ OL ?_
 rw[show(a:Int)+1=((a+1:Nat):Int) by omega]
 refine RN (α:=Unit) (()) (λ_=>[(0,.slice (some ⟨g,0,none⟩) n cap),(1,I (a:Int)),(2,I (b:Int)),(7,I ((a+1:Nat):Int)),(8,I 0)]) (λy w'=>w'=w) (λy=>0) ?hI ?hround
 case hI=>rfl
 case hround =>
  rintro _ w4 rfl ih0
  try dsimp only
  refine PR O$ QV O$ OJ$ OX O (λh0=>?_)$ λh0=>?_
  ·refine OK$ QO$ QO$ SN (λe' w'=>e'=[(0,.slice (some ⟨g,0,none⟩) n cap),(1,I (a:Int)),(2,I (b:Int)),(7,I (Go.Sort.scanSorted QG d b (a+1):Int)),(8,I 0)]/\SJ w' g n cap d/\Kp (λk=>k=g) w4 w') ?dK$ λdK=>?CP
   case dK=>
    rintro e' ws ⟨rfl,Ie,dK⟩;refine An$ QI O$ Rk O$ OJ$ OX O (λh1=>?_)$ λh1=>?_
    ·have vX:Go.Sort.scanSorted QG d b (a+1)=b:=by omega
     rw[decide_eq_true vX];refine QN O$ OI func248 O ?_;exact⟨_,rfl,rfl,Ie,dK⟩
    ·have vX:¬Go.Sort.scanSorted QG d b (a+1)=b:=by omega
     rw[decide_eq_false vX];refine OK$ An$ QI O$ Rt O$ QV O$ OJ$ OX O (λh2=>?_)$ λh2=>?_
     ·refine QN O$ OI func248 O ?_;exact⟨_,rfl,rfl,Ie,dK⟩
     ·omega
   case CP=>
    refine RN (α:=Nat) (a+1) (λr=>[(0,.slice (some ⟨g,0,none⟩) n cap),(1,I (a:Int)),(2,I (b:Int)),(7,I (r:Int)),(8,I 0)]) (λr w'=>SJ w' g n cap d/\Kp (λk=>k=g) w4 w'/\Go.Sort.scanSorted QG d b r=Go.Sort.scanSorted QG d b (a+1)/\a<r/\r<=b) (λr=>b-r) ?hI ?hround
    case hI=>exact⟨h,Kp.refl _ _,rfl,Nat.lt_succ_self a,jK⟩
    case hround=>
     rintro r w5 ⟨aU,aj,cd,bO,If⟩ ih
     try dsimp only
     have hg:=Ext.Pa w5;rcases Nat.lt_or_ge r b with hj|hj
     ·refine An$ An$ R0 (λw'=>Ext w5 w') O$ P8 0 O O (hg)$ P8 1 O O (hg)$ OM 2 O (ylt O O) hg$ TN$ P8 3 O O (hg)$ P8 4 O O (hg)$ P8 5 O O (hg)$ OM 6 O (Qc Pz Pc O O ω) hg$ P8 8 O O (hg)$ P8 9 O O (hg)$ OM 10 O (XG O O ω) hg ?_;rw[show(r:Int)-1=((r-1:Nat):Int) by omega];refine qT 7 O (λ_ h=>PC QU O O ((aU.ext h).get (i:=r) ω)) hg$ OM 11 O (Qc Pz Pc O O ω) hg$ qT 12 O (λ_ h=>PC QU O O ((aU.ext h).get (i:=r-1) ω)) hg$ S1 13 O W8 O (S8 _ _ _) ?_;rintro _ w6 ⟨rfl,rfl⟩;refine⟨hg,?_⟩;refine OM 14 O ((z9S O)) hg$ OM 15 O (UG O O) hg$ qE$ Qk O (λh3=>?_)$ λh3=>?_
      ·rw[z25 _ _ _ hj (by simpa[QG] using h3)] at cd;refine OK$ OL$ Rp O$ Q4 O$ P3 O$ OG ?_;exact(ih (r+1) _ ⟨aU.ext hg,aj.trans hg.kp,cd,ω,ω⟩ ω).qb
      ·rw[W1 _ _ _ (.inr (by simpa[QG] using h3))] at cd;refine OV O ?_;subst cd;exact(dK _ _ ⟨rfl,aU.ext hg,aj.trans hg.kp⟩).qb
     ·refine An$ An$ R0 (λw'=>Ext w5 w') O$ P8 0 O O (hg)$ P8 1 O O (hg)$ OM 2 O (ylt O O) hg$ TC$ P8 3 O O (hg)$ qJ 4 O (hg)$ qJ 5 O (hg)$ qJ 6 O (hg)$ qJ 7 O (hg)$ qJ 8 O (hg)$ qJ 9 O (hg) ?_;refine qJ 10 O (hg)$ qJ 11 O (hg)$ qJ 12 O (hg)$ qJ 13 O (hg)$ qJ 14 O (hg)$ OM 15 O (U6 O O) hg$ qE$ OR O$ OV O ?_;rw[W1 _ _ _ (.inl hj)] at cd;subst cd;exact(dK _ _ ⟨rfl,aU.ext hg,aj.trans hg.kp⟩).qb
  ·exact absurd ψ h0
def XK {w:World}{g n cap sb s:Nat}{d:Array Nat}(h:SJ w g n cap d)(hB:OU w sb [I (s:Int)] 3)(hs:s<=1000)(x y:Nat)(hx:x<n)(hy:y<n)(rR:sb≠g):
  Ps prog 259 [.slice (some ⟨g,0,none⟩) n cap,I (x:Int),I (y:Int),ptr sb 0] w λu w'=>∃x' y' s':Nat,u= .tuple #[I (x':Int),I (y':Int)]/\((x'=x/\y'=y)\/(x'=y/\y'=x))/\s'<=s+1/\OU w' sb [I (s':Int)] 3/\SJ w' g n cap d/\Kp (λk=>k=sb) w w':=by
 refine py (e:=[(0,_),(1,_),(2,_),(3,_)]) func259 O ntmps259 O O ?_
 have hg:=Ext.Pa w
 refine qN O$ Qr O$ An$ An$ R0 (λw'=>Ext w w') O$ P8 0 O O (hg)$ P8 1 O O (hg)$ OM 2 O (Qc Pz Pc O O ω) hg$ P8 4 O O (hg)$ P8 5 O O (hg)$ OM 6 O (Qc Pz Pc O O ω) hg$ qT 3 O (λ_ hS=>PC QU O O ((h.ext hS).get (i:=y) ω)) hg$ qT 7 O (λ_ hS=>PC QU O O ((h.ext hS).get (i:=x) ω)) hg$ S1 8 O W8 O (S8 _ _ _) ?_
 rintro _ w6 ⟨rfl,rfl⟩
 refine⟨hg,?_⟩
 refine qE$ Qk O (λh1=>?_)$ λh1=>?_
 ·have ak:=hg.OH hB;refine Pt O$ Pw O$ qV (OS U3 O O ak O)$ Q4 O$ Pw O$ OY O (QP Qe O O O ak ξ) ?_;rintro w3 ⟨au,av⟩;refine qM O$ Pl O$ Qr O$ OI func259 O ?_;exact⟨_,rfl,y,x,s+1,rfl,.inr ⟨rfl,rfl⟩,Nat.le_refl _,au,(h.ext hg).kp av (λe=>rR e.symm),hg.kp.trans av⟩
 ·refine OK$ QI O$ Qr O$ OI func259 O ?_;exact⟨_,rfl,x,y,s,rfl,.inl ⟨rfl,rfl⟩,Nat.le_succ _,hg.OH hB,h.ext hg,hg.kp⟩
def z5x {w:World}{g n cap sb s:Nat}{d:Array Nat}(h:SJ w g n cap d)(hB:OU w sb [I (s:Int)] 3)(hs:s<=500)(x y z:Nat)(hx:x<n)(hy:y<n)(hz:z<n)(rR:sb≠g):
  Ps prog 257 [.slice (some ⟨g,0,none⟩) n cap,I (x:Int),I (y:Int),I (z:Int),ptr sb 0] w λu w'=>∃x' s':Nat,u=I (x':Int)/\(x'=x\/x'=y\/x'=z)/\s'<=s+3/\OU w' sb [I (s':Int)] 3/\SJ w' g n cap d/\Kp (λk=>k=sb) w w':=by
 refine py (e:=[(0,_),(1,_),(2,_),(3,_),(4,_)]) func257 O ntmps257 O O$ qN O$ QW O$ Pl O$ Pl O$ Pb zbW O (XK h hB ω x y hx hy rR) ?_
 rintro _ w1 ⟨x1,y1,s1,rfl,K0,ee,ai,lC,az⟩
 refine OT O$ SM O$ SH O$ QW O$ Pl O$ Pl O$ Pb zbW O (XK lC ai ω y1 z ω hz rR) ?_
 rintro _ w2 ⟨y2,z2,s2,rfl,Kb,dt,ak,qc,am⟩
 refine OT O$ SM O$ SH O$ QW O$ Pl O$ Pl O$ Pb zbW O (XK qc ak ω x1 y2 ω ω rR) ?_
 rintro _ w3 ⟨x3,y3,s3,rfl,Kd,pD,au,vY,av⟩
 refine OT O$ SM O$ Qr O$ Pu.qb (e:=[(2,_),(10,_)]) ?_
 refine Pt O$ P3 O$ OI func257 O ?_
 exact⟨_,rfl,y3,s3,rfl,ω,ω,au,vY,(az.trans am).trans av⟩
def za5 {w:World}{g n cap:Nat}{d:Array Nat}(h:SJ w g n cap d)(a b:Nat)(jK:a+12<b)(hb:b<=n)(hn:n<50):
  Ps prog 246 [.slice (some ⟨g,0,none⟩) n cap,I (a:Int),I (b:Int)] w λu w'=>∃p t:Nat,u= .tuple #[I (p:Int),I (t:Int)]/\a<=p/\p<b/\t<=2/\SJ w' g n cap d/\Ext w w':=by
 have Ke:g<w.heap.size:=h.sl.lt O
 refine py (e:=[(0,_),(1,_),(2,_)]) func246 O ntmps246 O O$ qN O$ SH O$ QW O$ Pl O$ Rt O$ QW O ?_
 rw[show(b:Int)-(a:Int)=((b-a:Nat):Int) by omega]
 refine OP O O (Rz (cs:=[_]) Qe O) ?_
 rintro _ w1 ⟨sb,rfl,rR,ad,ai⟩
 replace ai:OU w1 sb [I ((0:Nat):Int)] 3:=ai
 refine qM O$ Pl O$ qV (WX O O ω)$ qV (Y8 O O ω)$ Q4 O$ QW O$ Pl O$ qV (WX O O ω)$ qV (Y8 O O ω)$ Q4 O$ QW O$ Pl O$ qV (WX O O ω)$ qV (Y8 O O ω) ?_
 refine Q4 O$ P3 O$ Pu.qb (e:=[(0,_),(6,_),(7,_),(8,_),(9,_),(10,_),(11,_),(12,_)]) ?_
 refine PR O$ Uh O$ OJ ?_
 rw[show(a:Int)+((b-a:Nat):Int) / 4*1=((a+(b-a) / 4*1:Nat):Int) by omega,show(a:Int)+((b-a:Nat):Int) / 4*2=((a+(b-a) / 4*2:Nat):Int) by omega,show(a:Int)+((b-a:Nat):Int) / 4*3=((a+(b-a) / 4*3:Nat):Int) by omega]
 refine OX O (λh0=>?_)$ λh0=>?_
 ·refine PR O$ Uh O$ OJ$ OX O (λh1=>?_)$ λh1=>?_
  ·omega
  ·refine OK$ OQ O$ Pl O$ Pl O$ Pb zgd O (z5x (h.ext ad) ai ω (a+(b-a) / 4*1) (a+(b-a) / 4*2) (a+(b-a) / 4*3) ω ω ω ω) ?_;rintro _ w2 ⟨p,s,rfl,hp,hs,ak,qc,am⟩;have ae:Ext w w2:=ad.It am (λk e=>by omega);refine QW O$ qV (OS U3 O O ak O)$ OJ$ OL$ qN O$ Rk O$ P3 O$ OX O (λh2=>?_)$ λh2=>?_
   ·refine Pt O$ Qr O$ OI func246 O ?_;exact⟨_,rfl,p,1,rfl,ω,ω,ω,qc,ae⟩
   ·refine qN O$ Rk O$ P3 O$ OX O (λh3=>?_)$ λh3=>?_
    ·refine Pt O$ Qr O$ OI func246 O ?_;exact⟨_,rfl,p,2,rfl,ω,ω,ω,qc,ae⟩
    ·refine Pt O$ Qr O$ OI func246 O ?_;exact⟨_,rfl,p,0,rfl,ω,ω,ω,qc,ae⟩
 ·omega
def z9Z {w:World}{xb r:Nat}(hB:OU w xb [P7 r] 370)(hr:r<18446744073709551616):
  Ps prog 255 [ptr xb 0] w λu w'=>∃r':Nat,u=P7 r'/\r'<18446744073709551616/\OU w' xb [P7 r'] 370/\Kp (λk=>k=xb) w w':=by
 refine py (e:=[(0,_)]) func255 O ntmps255 O O ?_
 have bh:=Ext.Pa w
 refine QN O$ An$ Pk [9] (λw'=>Ext w w') (by kernel_rfl) O$ PW 0 O O (bh)$ Pr 1 O (Qd O) bh$ qL 2 O (λ_ h=>OS z3T O O (h.OH hB) O) bh$ PW 3 O O (bh)$ Pr 4 O (Qd O) bh$ qL 5 O (λ_ h=>OS z3T O O (h.OH hB) O) bh$ Pr 6 O (Rj 13 8192 O O ψ O) bh$ Pr 7 O (z1L O O ω ω) bh$ Pr 8 O (Qd O) bh ?_
 generalize j6:r^^^r*8192%18446744073709551616=r1
 have dh:r1<18446744073709551616:=by rw[<-j6];exact Nat.xor_lt_two_pow (n:=64) ω ω
 refine Ty [9]$ qO 9$ PJ (i:=9) O O (QP z4N O O O (bh.OH hB) ξ) ?_
 rintro w1 ⟨ai,az⟩
 refine⟨trivial,?_⟩
 replace ai:OU w1 xb [P7 r1] 370:=ai
 have aa:=Ext.Pa w1
 refine qE$ An$ Pk [9] (λw'=>Ext w1 w') (by kernel_rfl) O$ PW 0 O O (aa)$ Pr 1 O (Qd O) aa$ qL 2 O (λ_ h=>OS z3T O O (h.OH ai) O) aa$ PW 3 O O (aa)$ Pr 4 O (Qd O) aa$ qL 5 O (λ_ h=>OS z3T O O (h.OH ai) O) aa$ Pr 6 O (Us 7 128 O O ψ O) aa$ Pr 7 O (z1L O O ω ω) aa$ Pr 8 O (Qd O) aa ?_
 generalize gS:r1^^^r1 / 128=r2
 have dm:r2<18446744073709551616:=by rw[<-gS];exact Nat.xor_lt_two_pow (n:=64) ω ω
 refine Ty [9]$ qO 9$ PJ (i:=9) O O (QP z4N O O O (aa.OH ai) ξ) ?_
 rintro w2 ⟨ak,am⟩
 refine⟨trivial,?_⟩
 replace ak:OU w2 xb [P7 r2] 370:=ak
 have ag:=Ext.Pa w2
 refine qE$ An$ Pk [9] (λw'=>Ext w2 w') (by kernel_rfl) O$ PW 0 O O (ag)$ Pr 1 O (Qd O) ag$ qL 2 O (λ_ h=>OS z3T O O (h.OH ak) O) ag$ PW 3 O O (ag)$ Pr 4 O (Qd O) ag$ qL 5 O (λ_ h=>OS z3T O O (h.OH ak) O) ag$ Pr 6 O (Rj 17 131072 O O ψ O) ag$ Pr 7 O (z1L O O ω ω) ag$ Pr 8 O (Qd O) ag ?_
 generalize Kf:r2^^^r2*131072%18446744073709551616=r3
 have ci:r3<18446744073709551616:=by rw[<-Kf];exact Nat.xor_lt_two_pow (n:=64) ω ω
 refine Ty [9]$ qO 9$ PJ (i:=9) O O (QP z4N O O O (ag.OH ak) ξ) ?_
 rintro w3 ⟨au,av⟩
 refine⟨trivial,?_⟩
 replace au:OU w3 xb [P7 r3] 370:=au
 refine qE$ Pu.qb (e:=[(0,_),(2,_)]) ?_
 refine Pt O$ Pw O$ qV (OS z3T O O au O)$ P3 O$ OI func255 O ?_
 exact⟨_,rfl,r3,rfl,ci,au,(bh.kp.trans az).trans ((aa.kp.trans am).trans (ag.kp.trans av))⟩
def z8h (x:Nat)(hx:x<18446744073709551616)(w:World):Ps prog 235 [P7 x] w λv w'=>v=I (PU x:Int)/\w'=w:=by
 refine py (e:=[(0,_)]) func235 O ntmps235 O O$ QN O$ An$ SO O$ Pt O$ Pb z2B O (Uk x hx w) ?_
 rintro _ w ⟨rfl,rfl⟩
 refine P3 O$ OI func235 O ?_
 exact⟨_,rfl,rfl,rfl⟩
def zak (x:Nat)(hx:x<4294967296)(w:World):Ps prog 254 [I (x:Int)] w λv w'=>v=P7 (2^PU x)/\w'=w:=by
 have hl:PU x<=32:=R8 ω
 have hp:2^PU x<=2^32:=Nat.pow_le_pow_right ψ hl
 refine py (e:=[(0,_)]) func254 O ntmps254 O O$ qN O$ R3 O$ qV ((Qg O U3 zfE ω))$ Pb zem O (z8h x ω w) ?_
 rintro _ w ⟨rfl,rfl⟩
 refine qV (Rj (PU x) (2^PU x) O O ω O) ?_
 rw[show 1*2^PU x%18446744073709551616=2^PU x by rw[Nat.one_mul];exact Nat.mod_eq_of_lt ω]
 refine P3 O$ OI func254 O ?_
 exact⟨_,rfl,rfl,rfl⟩
open Go.Sort in
def zaM {d:Array Nat}{a b i j:Nat}(h1:a<=i)(h2:i<b)(h3:a<=j)(h4:j<b)(h5:b<=d.size):PermIn a b d (swp d i j):=swp_permIn d a b i j h1 h2 h3 h4 h5
def zb4 {w:World}{g n cap:Nat}{d:Array Nat}(h:SJ w g n cap d)(a b:Nat)(jK:a+12<b)(hb:b<=n)(hn:n<50):
  Ps prog 245 [.slice (some ⟨g,0,none⟩) n cap,I (a:Int),I (b:Int)] w λu w'=>u= .tuple #[]/\∃d',Go.Sort.PermIn a b d d'/\SJ w' g n cap d'/\Kp (λk=>k=g) w w':=by
 have Ke:g<w.heap.size:=h.sl.lt O
 have CQ:2^(PU (b-a)-1)<=b-a:=z0q ω
 have tL:2^PU (b-a)<=2*(b-a):=by
  have tM:PU (b-a)≠0:=λe=>by have:=WU (v:=b-a);rw[e] at this;omega
  rw[show PU (b-a)=PU (b-a)-1+1 by omega,Nat.pow_succ];omega
 have Ci:1<=2^PU (b-a):=Nat.one_le_two_pow
 refine py (e:=[(0,_),(1,_),(2,_)]) func245 O ntmps245 O O$ QI O$ Rt O ?_
 rw[show(b:Int)-(a:Int)=((b-a:Nat):Int) by omega]
 refine R3 O$ Uh O$ OJ$ OX O (λh0=>?_)$ λh0=>?_
 ·refine Pt O$ qV ((Qg O U3 z3T ω))$ OP O O (Rz (cs:=[_]) z4N O) ?_;rintro _ w1 ⟨xb,rfl,xz,ad,ai⟩;refine OY O (QP z4N O O O ai ξ) ?_;rintro w2 ⟨ak,am⟩;have ae:Ext w w2:=ad.It am (λk e=>by omega);replace ak:OU w2 xb [P7 (b-a)] 370:=ak;refine qM O$ OT O$ Pb zg5 O (zak (b-a) ω _) ?_;rintro _ w2 ⟨rfl,rfl⟩
  generalize 2^PU (b-a)=M at tL Ci
  refine QW O$ Pl O$ qV (WX O O ω)$ qV (Y8 O O ω)$ Q4 O$ Rt O$ P3 O$ OL ?_;rw[show(a:Int)+((b-a:Nat):Int) / 4*2-1=((a+(b-a) / 4*2-1:Nat):Int) by omega];refine RN (α:=Nat×Array Nat×Nat) ((a+(b-a) / 4*2-1,d,b-a)) (λy=>[(0,.slice (some ⟨g,0,none⟩) n cap),(1,I (a:Int)),(6,I ((b-a:Nat):Int)),(7,ptr xb 0),(8,P7 M),(9,I (y.1:Int))]) (λy w'=>SJ w' g n cap y.2.1/\OU w' xb [P7 y.2.2] 370/\y.2.2<18446744073709551616/\Go.Sort.PermIn a b d y.2.1/\Kp (λk=>k=g) w w'/\a<=y.1) (λy=>a+b+2-y.1) ?hI ?hround
  case hI=>exact⟨h.ext ae,ak,by dsimp only;omega,Go.Sort.permIn_refl _ _ _,ae.kp,by dsimp only;omega⟩
  case hround=>
   rintro⟨idx,d4,r⟩ w4 ⟨eg,aM,bF,jQ,ar,pz⟩ ih;dsimp only at eg aM bF jQ ar pz;have cD:=eg.size
   try dsimp only
   refine An$ QI O$ OT O$ qV (WX O O ω)$ qV (Y8 O O ω)$ Q4 O$ Q4 O$ zle O$ OJ$ OX O (λh1=>?_)$ λh1=>?_
   ·have qd:idx<b:=by omega
    refine OK$ QO$ qN O$ Pb zfU O (z9Z aM bF) ?_;rintro _ w5 ⟨r5,rfl,bO,aK,aj⟩;have aU:=eg.kp aj (λe=>by omega);have di:Kp (λk=>k=g) w w5:=ar.It aj (λk e=> .inl ω);refine OT O$ qV (Wx (m:=M) (n:=1) O O O (by show M<2^64;omega) ω) ?_;refine qV (Uq O O ω ω) ?_;have CR:r5&&&(M-1)<=M-1:=Nat.and_le_right
    generalize r5&&&(M-1)=q at CR
    refine qV (PQ O zfE U3 ω)$ P3 O$ An$ QI O$ Uh O$ OJ$ PI (λe' w'=>∃o:Nat,e'=[(0,.slice (some ⟨g,0,none⟩) n cap),(1,I (a:Int)),(6,I ((b-a:Nat):Int)),(7,ptr xb 0),(8,P7 M),(9,I (idx:Int)),(10,I (o:Int))]/\w'=w5/\o<b-a) ?CS$ λCS=>?CT
    case CS=>
     rintro e' w5' ⟨o,rfl,rfl,ho⟩;have aC:=Ext.Pa w5';refine Pk [17,19] (λw'=>Ext w5' w') (by kernel_rfl) O$ PW 0 O O (aC)$ PW 1 O O (aC)$ Ql (i:=2) O (by kernel_rfl) O O (λ_=>Xr O) (aC)$ Ql (i:=3) O (by kernel_rfl) O O (λ_=>Xr O) (aC)$ Ql (i:=4) O (by kernel_rfl) O O (λ_=>Xr O) (aC)$ Ql (i:=5) O (by kernel_rfl) O O (λ_=>UN O O ω) (aC)$ PW 6 O O (aC)$ PW 7 O O (aC)$ PW 8 O O (aC)$ Pr 9 O (UN O O ω) aC$ Pr 10 O (Qc Pz Pc O O ω) aC$ PW 12 O O (aC)$ PW 13 O O (aC) ?_;refine Pr 14 O (Qc Pz Pc O O ω) aC$ qL 11 O (λ_ h=>PC QU O O ((aU.ext h).get (i:=a+o) ω)) aC$ qL 15 O (λ_ h=>PC QU O O ((aU.ext h).get (i:=idx) ω)) aC$ Pr 16 O (Qc Pz Pc O O ω) aC$ Ty [17]$ qO 17$ PJ (i:=17) O O (RV Pc O O O (aU.ext aC).sl ((aU.ext aC).jlt ω)) ?_;rintro w8a ⟨ge,gh⟩;refine⟨trivial,?_⟩;have cM:=(aU.ext aC).set ge;refine OM 18 O (Qc Pz Pc O O ω) trivial$ qO 19$ PJ (i:=19) O O (RV Pc O O O cM.sl (cM.jlt ω)) ?_;rintro w8 ⟨ky,kz⟩;refine⟨trivial,?_⟩;have kA:=cM.set ky;have fC:Kp (λk=>k=g) w5' w8:=aC.kp.trans (gh.trans kz);refine qE$ OG$ Rp O$ Q4 O$ P3 O ?_;rw[show(idx:Int)+1=((idx+1:Nat):Int) by omega];exact(ih (idx+1,Go.Sort.swp d4 idx (a+o),r5) _ ⟨kA,fC.OH aK ω,bO,Go.Sort.permIn_trans _ _ _ a b jQ (zaM pz qd ω ω ω),di.trans fC,by dsimp only;omega⟩ (by dsimp only;omega)).qb
    case CT=>
     refine OX O (λh2=>?_)$ λh2=>?_
     ·refine OQ O$ Pl O$ Rt O$ P3 O ?_;rw[show(q:Int)-((b-a:Nat):Int)=((q-(b-a):Nat):Int) by omega];exact(CS _ _ ⟨q-(b-a),rfl,rfl,ω⟩).qb
     ·refine OK ?_;exact(CS _ _ ⟨q,rfl,rfl,ω⟩).qb
   ·refine OV O$ Qh func245 O ?_;exact⟨_,rfl,rfl,d4,jQ,eg,ar⟩
 ·omega
open Go.Sort in
def zdI (g n cap m:Nat):Prop:=∀(w:World) (d:Array Nat),SJ w g n cap d->∀(a b limit:Nat),b-a<m->a<=b->b<=n->limit<=64->Below QG a b d->
 Ps prog 234 [.slice (some ⟨g,0,none⟩) n cap,I (a:Int),I (b:Int),I (limit:Int)] w λu w'=>u= .tuple #[]/\∃d',SJ w' g n cap d'/\PermIn a b d d'/\SortedIn QG a b d'/\Kp (λk=>k=g) w w'
open Go.Sort in
structure z6Q (w:World)(g n cap a b:Nat)(d:Array Nat)(a1 b1 l1:Nat)(d1:Array Nat)(w':World):Prop where
 arr:SJ w' g n cap d1
 kp:Kp (λk=>k=g) w w'
 ab:a1<=b1
 bn:b1<=n
 sm:b1-a1<=b-a
 lim:l1<=64
 bel:Below QG a1 b1 d1
 fin:∀R,PermIn a1 b1 d1 R->SortedIn QG a1 b1 R->PermIn a b d R/\SortedIn QG a b R
open Go.Sort in
def z6Q.perm {w:World}{g n cap a b:Nat}{d:Array Nat}{a1 b1 l1 l2:Nat}{d1 d2:Array Nat}{w1 w2:World}(h:z6Q w g n cap a b d a1 b1 l1 d1 w1)(hA:SJ w2 g n cap d2)(hk:Kp (λk=>k=g) w1 w2)(hp:PermIn a1 b1 d1 d2)(hl:l2<=64):z6Q w g n cap a b d a1 b1 l2 d2 w2:=
 ⟨hA,h.kp.trans hk,h.ab,h.bn,h.sm,hl,h.bel.perm (by rw[h.arr.size];exact h.bn) hp,λR h1 h2=>h.fin R (permIn_trans _ _ _ _ _ hp h1) h2⟩
open Go.Sort in
def zas {g n cap m:Nat}(du:zdI g n cap m){w:World}{d:Array Nat}(h:SJ w g n cap d)(a b limit:Nat)(hm:b-a<=m)(jK:a<=b)(hb:b<=n)(hn:n<50)(hl:limit<=64)(hB:Below QG a b d):
  Ps prog 234 [.slice (some ⟨g,0,none⟩) n cap,I (a:Int),I (b:Int),I (limit:Int)] w λu w'=>u= .tuple #[]/\∃d',SJ w' g n cap d'/\PermIn a b d d'/\SortedIn QG a b d'/\Kp (λk=>k=g) w w':=by
 refine py (e:=[(0,_),(1,_),(2,_),(3,_)]) func234 O ntmps234 O O$ qN O$ QW O$ P3 O$ OL$ RN (α:=Nat×Nat×Nat×Bool×Bool×Array Nat) ((a,b,limit,true,true,d)) (λy=>[(0,.slice (some ⟨g,0,none⟩) n cap),(1,I (y.1:Int)),(2,I (y.2.1:Int)),(3,I (y.2.2.1:Int)),(8,.bool y.2.2.2.1),(9,.bool y.2.2.2.2.1)]) (λy w'=>z6Q w g n cap a b d y.1 y.2.1 y.2.2.1 y.2.2.2.2.2 w') (λy=>y.2.1-y.1) ?hI ?hround
 case hI=>exact⟨h,Kp.refl _ _,jK,hb,Nat.le_refl _,hl,hB,λR h1 h2=>⟨h1,h2⟩⟩
 case hround =>
  rintro⟨a1,b1,l1,wb,wp,d1⟩ w4 hI ih;dsimp only at hI;have qe:=hI.ab;have gj:=hI.bn;have Kg:=hI.sm;have Ig:=hI.lim;have xA:=hI.arr.size
  try dsimp only
  refine OL$ QI O$ Rt O$ P3 O$ An$ qN O ?_;rw[show(b1:Int)-(a1:Int)=((b1-a1:Nat):Int) by omega];refine OT O$ zle O$ OJ$ OX O (λh0=>?_)$ λh0=>?_
  ·obtain⟨r1,r2⟩:=insertionSort_holds YS d1 a1 b1 qe ω;obtain⟨q1,q2⟩:=hI.fin _ r1 r2;refine QI O$ OT O$ Pb zhf O (z1Q hI.arr a1 b1 qe gj ω) ?_;rintro _ w5 ⟨rfl,aU,aj⟩;refine OJ$ OI func234 O ?_;exact⟨_,rfl,rfl,_,aU,q1,q2,hI.kp.trans aj⟩
  ·refine OK$ PR O$ Rk O$ OJ$ OX O (λh1 => ?_)$ λh1 => ?_
   ·obtain⟨r1,r2⟩:=heapSort_holds YS d1 a1 b1 qe ω;obtain⟨q1,q2⟩:=hI.fin _ r1 r2;refine QI O$ OT O$ Pb zgU O (zbU hI.arr a1 b1 ω gj ω) ?_;rintro _ w5 ⟨rfl,aU,aj⟩;refine OJ$ OI func234 O ?_;exact⟨_,rfl,rfl,_,aU,q1,q2,hI.kp.trans aj⟩
   ·refine OK$ PR O$ qV ((S5 O))$ OJ$ PI (λe' w' => ∃ l5 d5, e' = [(0, .slice (some ⟨g, 0, none⟩) n cap), (1, I (a1 : Int)), (2, I (b1 : Int)), (3, I ((l5 : Nat) : Int)), (8, .bool wb), (9, .bool wp), (10, I ((b1 - a1 : Nat) : Int))] /\ z6Q w g n cap a b d a1 b1 l5 d5 w') ?aY$ λaY => ?fW
    case aY =>
     rintro e' w5 ⟨l5,d5,rfl,kB⟩;have rT:=kB.lim;have CU:=kB.arr.size;have Kh:g<w5.heap.size:=kB.arr.sl.lt O;refine QI O$ OT O$ Pb zgu O (za5 kB.arr a1 b1 ω gj hn) ?_;rintro _ w6 ⟨p6,t6,rfl,Ki,tN,xB,q9,aR⟩;have qf:=kB.perm q9 aR.kp (permIn_refl _ _ _) rT;refine OT O$ SM O$ Qr O$ PR O$ Rk O$ OJ$ PI (λe' w'=>∃d7 p7 t7,e'=[(0,.slice (some ⟨g,0,none⟩) n cap),(1,I (a1:Int)),(2,I (b1:Int)),(3,I (l5:Int)),(8,.bool wb),(9,.bool wp),(10,I ((b1-a1:Nat):Int)),(11,I ((p7:Nat):Int)),(12,I ((t7:Nat):Int))]/\z6Q w g n cap a b d a1 b1 l5 d7 w'/\a1<=p7/\p7<b1) ?ao$ λao=>?en
     case ao =>
      rintro e' w7 ⟨d7,p7,t7,rfl,me,Bg,qg⟩;have Kj:=me.arr.size;refine An$ An$ PI (λe' w'=>∃s,e'=[(0,.slice (some ⟨g,0,none⟩) n cap),(1,I (a1:Int)),(2,I (b1:Int)),(3,I (l5:Int)),(8,.bool wb),(9,.bool wp),(10,I ((b1-a1:Nat):Int)),(11,I (p7:Int)),(68,.bool s)]/\w'=w7) ?dj$ λdj=>?nR
      case dj=>
       rintro e' w8 ⟨s,rfl,rfl⟩;refine PI (λe' w'=>e'=[(0,.slice (some ⟨g,0,none⟩) n cap),(1,I (a1:Int)),(2,I (b1:Int)),(3,I (l5:Int)),(8,.bool wb),(9,.bool wp),(10,I ((b1-a1:Nat):Int)),(11,I (p7:Int))]/\z6Q w g n cap a b d a1 b1 l5 d7 w') ?lD$ λlD=>?tR
       case lD=>
        rintro e' w9 ⟨rfl,gT⟩;have rU:=gT.arr;have hg:=Ext.Pa w9;refine An$ An$ PI (λe' w'=>∃s,e'=[(0,.slice (some ⟨g,0,none⟩) n cap),(1,I (a1:Int)),(2,I (b1:Int)),(3,I (l5:Int)),(8,.bool wb),(9,.bool wp),(10,I ((b1-a1:Nat):Int)),(11,I (p7:Int)),(87,.bool s)]/\w'=w9.drew/\(s=true->0<a1/\QG d7[a1-1]! d7[p7]! =false)) ?tv$ λtv=>?tw
        case tv=>
         rintro e' w10 ⟨s,rfl,rfl,hs⟩;have mf:=rU.ext hg;have aA:Kp (λk=>k=g) w w9.drew:=gT.kp.trans hg.kp;refine Qk O (λh6=>?_)$ λh6=>?_
         ·obtain⟨Kk,iy⟩:=hs h6;obtain⟨mid,d11,hx⟩:∃m e,partitionEqual QG d7 a1 b1 p7=(m,e):=⟨_,_,rfl⟩;have CV:=zcA mf a1 b1 p7 Bg qg gj ω;rw[hx] at CV;dsimp only at CV;obtain⟨e1,e2,e3,e4,e5⟩:=round_eq YS (partitionEqual_holds _) Kk Bg qg ω gT.bel iy hx;refine QI O$ Pl O$ Pb zhH O (CV) ?_;rintro _ w11 ⟨rfl,qh,bu⟩;refine R3 O$ P3 O$ OV O ?_;exact(ih (mid,b1,l5,wb,wp,d11) _ ⟨qh,aA.trans bu,e2,gj,by dsimp only;omega,gT.lim,e4,λR r1 r2=>gT.fin R (e5 R r1 r2).1 (e5 R r1 r2).2⟩ (by dsimp only;omega)).qb
         ·obtain⟨mid,ap,d11,hx⟩:∃m q e,partition QG d7 a1 b1 p7=(m,q,e):=⟨_,_,_,rfl⟩;have tO:=zad mf a1 b1 p7 Bg qg gj ω;rw[hx] at tO;dsimp only at tO;obtain⟨e1,e2,e3,e4,e5,e6,e7⟩:=round_part YS (partition_holds _) Bg qg ω gT.bel hx;refine OK$ QI O$ Pl O$ Pb zij O (tO) ?_;rintro _ w11 ⟨rfl,qh,bu⟩;refine OT O$ SM O$ SH O$ R3 O$ QW O$ Pl O$ Rt O$ Pl O$ Rt O$ SH O$ QW O ?_;rw[show(mid:Int)-(a1:Int)=((mid-a1:Nat):Int) by omega,show(b1:Int)-(mid:Int)=((b1-mid:Nat):Int) by omega];refine OT O$ qV (WX O O ω)$ QW O$ Pl O$ QV O$ OJ$ OX O (λh7=>?_)$ λh7=>?_
          ·refine QI O$ Uh O$ QW O$ Pl O$ Pl O$ Pb zaR O (du _ _ qh a1 mid l5 ω e1 ω gT.lim e4) ?_;rintro _ w12 ⟨rfl,d12,tP,tQ,kq,bz⟩;obtain⟨f1,f2⟩:=e6 _ tQ kq;refine OJ$ Rp O$ Q4 O$ P3 O$ OG ?_;exact(ih (mid+1,b1,l5,decide (((b1-a1:Nat):Int) / 8<=((mid-a1:Nat):Int)),ap,d12) _ ⟨tP,(aA.trans bu).trans bz,by dsimp only;omega,gj,by dsimp only;omega,gT.lim,f1,λR r1 r2=>gT.fin R (f2 R r1 r2).1 (f2 R r1 r2).2⟩ (by dsimp only;omega)).qb
          ·refine QI O$ Uh O$ QW O$ Pl O$ Q4 O$ Pl O ?_;rw[show(mid:Int)+1=((mid+1:Nat):Int) by omega];refine Pb zaR O (du _ _ qh (mid+1) b1 l5 ω ω gj gT.lim e5) ?_;rintro _ w12 ⟨rfl,d12,tP,tQ,kq,bz⟩;obtain⟨f1,f2⟩:=e7 _ tQ kq;refine OJ$ Rp O$ P3 O$ OG ?_;exact(ih (a1,mid,l5,decide (((b1-a1:Nat):Int) / 8<=((b1-mid:Nat):Int)),ap,d12) _ ⟨tP,(aA.trans bu).trans bz,e1,by dsimp only;omega,by dsimp only;omega,gT.lim,f1,λR r1 r2=>gT.fin R (f2 R r1 r2).1 (f2 R r1 r2).2⟩ (by dsimp only;omega)).qb
        case tw=>
         rcases Nat.eq_zero_or_pos a1 with hj|hj
         ·refine R0 (λw'=>Ext w9 w') O$ P8 0 O O (hg)$ OM 1 O (Y7 O O) hg$ TC$ P8 2 O O (hg)$ qJ 3 O (hg)$ qJ 4 O (hg)$ qJ 5 O (hg)$ qJ 6 O (hg)$ qJ 7 O (hg)$ qJ 8 O (hg)$ qJ 9 O (hg)$ qJ 10 O (hg)$ qJ 11 O (hg) ?_;refine qJ 12 O (hg)$ qJ 13 O (hg)$ OM 14 O (U6 O O) hg$ qE ?_;exact(tv _ _ ⟨false,rfl,rfl,λe=>by cases e⟩).qb
         ·refine R0 (λw'=>Ext w9 w') O$ P8 0 O O (hg)$ OM 1 O (Y7 O O) hg$ TN$ P8 2 O O (hg)$ P8 3 O O (hg)$ P8 4 O O (hg)$ OM 5 O (XG O O ω) hg$ P8 8 O O (hg)$ P8 9 O O (hg)$ OM 10 O (Qc Pz Pc O O ω) hg ?_;rw[show(a1:Int)-1=((a1-1:Nat):Int) by omega];refine OM 6 O (Qc Pz Pc O O ω) hg$ qT 7 O (λ_ h=>PC QU O O ((rU.ext h).get (i:=a1-1) ω)) hg$ qT 11 O (λ_ h=>PC QU O O ((rU.ext h).get (i:=p7) ω)) hg$ S1 12 O W8 O (S8 _ _ _) ?_;rintro _ w10 ⟨rfl,rfl⟩;refine⟨hg,?_⟩;refine OM 13 O ((z9S O)) hg$ OM 14 O (UG O O) hg$ qE ?_;exact(tv _ _ ⟨decide (¬d7[a1-1]!<d7[p7]!),rfl,rfl,λe=>⟨hj,by simpa[QG] using e⟩⟩).qb
       case tR=>
        refine Qk O (λh4=>?_)$ λh4=>?_
        ·obtain⟨r1,r2⟩:=partialInsertionSort_holds YS d7 a1 b1 ω ω me.bel;refine QI O$ OT O$ Pb zgF O (zbm me.arr a1 b1 ω gj hn) ?_;rintro _ w9 ⟨rfl,rU,aw⟩;refine OJ$ Qk O (λh5=>?_)$ λh5=>?_
         ·have r3:=r2 h5;rw[z7z d7 a1 b1 ω] at r3;dsimp only at r3;obtain⟨q1,q2⟩:=me.fin _ (permIn_refl _ _ _) r3;refine OI func234 O ?_;exact⟨_,rfl,rfl,d7,rU,q1,q2,me.kp.trans aw⟩
         ·refine OK ?_;exact(lD _ _ ⟨rfl,me.perm rU aw (permIn_refl _ _ _) me.lim⟩).qb
        ·refine OK ?_;exact(lD _ _ ⟨rfl,me⟩).qb
      case nR =>
       cases wb with
       | false =>
         refine OQ O$ Pl O$ qS$ PT O$ OT O$ QY$ PT O$ OJ ?_
         exact(dj _ _ ⟨false,rfl,rfl⟩).qb
       | true =>
         cases wp with
         | false =>
           refine OQ O$ Pl O$ OT O$ Ra O$ OT O$ QY$ PT O$ OJ ?_
           exact(dj _ _ ⟨false,rfl,rfl⟩).qb
         | true =>
           refine OQ O$ Pl O$ OT O$ Ra O$ Pl O$ Rk O$ Ra O$ OJ ?_;exact(dj _ _ ⟨decide ((t7:Int)=1),rfl,rfl⟩).qb
     case en=>
      refine OX O (λh3=>?_)$ λh3=>?_
      ·refine QI O$ OT O$ Pb zhn O (z5h q9 a1 b1 ω gj ω) ?_;rintro _ w7 ⟨rfl,Bh,aB⟩;refine qM O$ OT O$ Rt O$ Pl O$ Rt O$ Rt O$ P3 O$ OQ O$ P3 O ?_;rw[show(b1:Int)-1-((p6:Int)-(a1:Int))=((b1-1-(p6-a1):Nat):Int) by omega];exact(ao _ _ ⟨reverseRange d5 a1 b1,b1-1-(p6-a1),1,rfl,qf.perm Bh aB (reverseRange_holds _ _ _ qe ω) rT,ω,ω⟩).qb
      ·refine OK ?_;exact(ao _ _ ⟨d5,p6,t6,rfl,qf,Ki,tN⟩).qb
    case fW=>
     refine Qk O (λh2=>?_)$ λh2=>?_
     ·refine QI O$ OT O$ Pb zgX O (zb4 hI.arr a1 b1 ω gj hn) ?_;rintro _ w5 ⟨rfl,d5,gU,aU,aj⟩;refine OJ$ Rp O$ Rt O$ P3 O ?_;rw[show(l1:Int)-1=((l1-1:Nat):Int) by omega];exact(aY _ _ ⟨l1-1,d5,rfl,hI.perm aU aj gU ω⟩).qb
     ·refine OK ?_;exact(aY _ _ ⟨l1,d1,rfl,hI⟩).qb
def z8o (g n cap:Nat)(hn:n<50):∀m,zdI g n cap m
 |0=>λw d h a b limit hm=>absurd hm (Nat.not_lt_zero _)
 |m+1=>λw d h a b limit hm jK hb hl hB=>zas (z8o g n cap hn m) h a b limit ω jK hb hn hl hB
open Go.Sort in
def z9U {w:World}{v:Value}{l:List Nat}(hS:Sl w v 59 1 l.length (l.map PD))(bD:l≠[])(hl:l.length<50):
  Ps prog 227 [v] w λu w'=>u= .tuple #[]/\Kp (λk=>v.ownBlock=some k) w w'/\∃l':List Nat,l'.Perm l/\l'.Pairwise (·<=·)/\Sl w' v 59 1 l'.length (l'.map PD):=by
 obtain⟨g,cap,rfl⟩:∃g c,v= .slice (some ⟨g,0,none⟩) l.length c:=by
  rcases hS.shape with⟨-,h0⟩|⟨g,c,e,hc⟩
  ·exact absurd (List.eq_nil_of_length_eq_zero ω) bD
  ·exact⟨g,c,e⟩
 have hA:SJ w g l.length cap l.toArray:=⟨by simpa using hS,ξ⟩
 have aJ:PU l.length<=6:=R8 ω
 refine py (e:=[(0,_)]) func227 O ntmps227 O O$ Pt O$ RO Pz O$ P3 O$ OQ O$ Pl O$ OT O$ qV ((Qg O U3 zfE ω))$ Pb zem O (z8h l.length ω w) ?_
 rintro _ w ⟨rfl,rfl⟩
 refine Pb zaR O (z8o g l.length cap hl (l.length+1) w l.toArray hA 0 l.length (PU l.length) ω ω (Nat.le_refl _) ω (.inl O)) ?_
 rintro _ w1 ⟨rfl,d',lC,hP,hO,hk⟩
 refine OJ$ Qh func227 O ?_
 have cD:=lC.size
 have jm:d'.toList.Perm l:=by
  have:=hP.2.2;rw[Array.toList_extract,Array.toList_extract] at this;have h1:(d'.toList.take l.length).Perm (l.take l.length):=by simpa using this
  rwa [List.take_of_length_le (by rw[Array.length_toList,cD];exact Nat.le_refl _),List.take_length] at h1
 refine⟨_,rfl,rfl,hk.ON (λk e=>by rw[e];rfl),d'.toList,jm,?_,?_⟩
 ·rw[List.pairwise_iff_getElem];intro i j hi hj gL;rw[Array.length_toList] at hi hj;have:=hO i j (Nat.zero_le _) gL ω;rw[getElem!_pos d' i ω,getElem!_pos d' j ω] at this;simp only[QG,decide_eq_false_iff_not] at this;rw[Array.getElem_toList,Array.getElem_toList];omega
 ·have e:d'.toList.length=l.length:=by rw[Array.length_toList,cD]
  rw[e];exact lC.sl
structure NuI (w w1:World)(p:S6)(b5 n11:Nat)(L:List (Cd×Nat))(w':World):Prop where
 ex:∃F,z5r w' n11 L F/\∀k,F k->w1.heap.size<=k
 ext:Ext w w'
 b5:OU w' b5 (lpC p) 260
 siz:w1.heap.size<=w'.heap.size
theorem NuI.put {w w1 w2 w3:World}{p:S6}{b5 n11:Nat}{L L':List (Cd×Nat)}{F:Nat->Prop}(h:NuI w w1 p b5 n11 L w2)(hf:∀k,F k->w1.heap.size<=k)(gG:b5<w1.heap.size)(Ih:w.heap.size<=w1.heap.size)
  (g:∃F',z5r w3 n11 L' F'/\Kp F w2 w3/\∀k,F' k->F k\/w2.heap.size<=k):NuI w w1 p b5 n11 L' w3:=by
 obtain⟨F',g1,g2,g3⟩:=g
 have hs:=h.siz
 refine⟨⟨F',g1,λk hk=>?_⟩,h.ext.It g2 (λk hk=>by have:=hf k hk;omega),g2.OH h.b5 (λe=>by have:=hf b5 e;omega),by have:=g2.size;omega⟩
 rcases g3 k hk with e| e
 ·exact hf k e
 ·omega
structure NuX (w w1 w2:World)(p:S6)(b5 n11:Nat)(X:Nat->Prop)(L:List (Cd×Nat))(w3:World):Prop where
 ex:∃F,z5r w3 n11 L F/\(∀k,F k->w1.heap.size<=k)/\∀k,F k->¬X k
 ext:Ext w w3
 b5:OU w3 b5 (lpC p) 260
 siz:w1.heap.size<=w3.heap.size
 kx:Kp (λk=>¬X k) w2 w3
theorem NuX.put {w w1 w2 w3 w4:World}{p:S6}{b5 n11:Nat}{X:Nat->Prop}{L L':List (Cd×Nat)}{F:Nat->Prop}(h:NuX w w1 w2 p b5 n11 X L w3)(hX:∀k,X k->k<w2.heap.size)(hf:∀k,F k->w1.heap.size<=k)(hx:∀k,F k->¬X k)(gG:b5<w1.heap.size)(Ih:w.heap.size<=w1.heap.size)
  (g:∃F',z5r w4 n11 L' F'/\Kp F w3 w4/\∀k,F' k->F k\/w3.heap.size<=k):NuX w w1 w2 p b5 n11 X L' w4:=by
 obtain⟨F',g1,g2,g3⟩:=g
 have hs:=h.siz
 have hz:=h.kx.size
 refine⟨⟨F',g1,λk hk=>?_,λk hk eO=>?_⟩,h.ext.It g2 (λk hk=>by have:=hf k hk;omega),g2.OH h.b5 (λe=>by have:=hf b5 e;omega),by have:=g2.size;omega,h.kx.trans (g2.ON hx)⟩
 ·rcases g3 k hk with e| e
  ·exact hf k e
  ·omega
 ·rcases g3 k hk with e| e
  ·exact hx k e eO
  ·have:=hX k eO;omega
theorem Tb:∀(l:List Nat) (k:Nat),(Qo k l).length=l.length
 |[],_=>rfl
 |_::l,k=>by rw[Qo,List.length_cons,List.length_cons,Tb l]
theorem Yw:∀(l:List Nat) (k n:Nat),Qo k (l++[n])=Qo k l++[(.gamma,n-min (k+l.length) 1)]
 |[],k,n=>rfl
 | m :: l, k, n => by
   rw[List.cons_append,Qo,Yw l (k+1) n,Qo,List.cons_append,List.length_cons,show k+1+l.length=k+(l.length+1) by omega]
def z0R:∀{l:List Nat},(∀n∈l,1<=n)->l.length<=l.sum
 |[],_=>Nat.le_refl _
 | x :: l, h => by
   have h1:=h x List.mem_cons_self;have h2:=z0R (λn hn=>h n (List.mem_cons_of_mem x hn));rw[List.length_cons,List.sum_cons];omega
def TA.z18 {rs:List Nat}{fs:List Bool}(h:TA rs fs):rs.length<=fs.length+1:=by
 have e:=SS true rs
 rw[h.exp] at e
 cases rs with
 |nil=>simp
 | cons a tl =>
   have h1:=z0R (l:=tl) (λn hn=>h.pos n hn);rw[List.sum_cons] at e;rw[List.length_cons];omega
def XN:∀l:List Nat,(PV 0 l).1=[]
 |[]=>by rw[PV]
 | x :: l => by
   rw[PV,if_neg ω];exact XN (l.drop (PS x l))
 termination_by l=>l.length
 decreasing_by simp[List.length_drop];omega
def YP (l:List (Nat×Nat)):Option Nat:=l.getLast?.map λp=>p.1+p.2-1
theorem Ys (x least:Nat):∀(l:List (Nat×Nat)) (e:Option Nat) (p:Nat×Nat),PM x least e (l++[p])=PM x least e l++PM x least (match l with|[]=>e|_=>YP l) [p]
 |[],e,p=>by cases e<;>rfl
 | q :: l, e, p => by
   rw[List.cons_append,RJ,RJ,Ys x least l _ p]
   cases l with
   |nil=>rfl
   |cons q2 l=>rfl
theorem z1T (x least:Nat)(l:List (Nat×Nat))(p:Nat×Nat):PM x least none (l++[p])=PM x least none l++[(.gamma,UD x (YP l) p.1),(.gamma,p.2-least)]:=by
 rw[Ys]
 cases l with
 |nil=>rfl
 |cons q l=>rw[RJ x least (match q::l with|[]=>none|_=>YP (q::l))];rfl
def zax {w:World}{b off n cap i:Nat}{R:List (Nat×Nat)}{q:Nat×Nat}(h:Rd w (.slice (some ⟨b,off,none⟩) n cap) 2 n (R.flatMap z1W))(hq:R[i]? =some q):∀j u,[I (q.1:Int),I (q.2:Int)][j]? =some u->w.cell? ⟨b,off+i*2+j,none⟩=some u:=by
 intro j u hj
 have hi:=(List.getElem?_eq_some_iff.1 hq).1
 rcases h.2 with⟨c,hc,h0⟩|⟨b',off',cap',e,hc⟩
 ·have:=h.1;rw[z94] at this;omega
 ·cases e
  have lE:(R.flatMap z1W)[i*2+j]? =some u:=by
   have lA:j<2:=(List.getElem?_eq_some_iff.1 hj).1
   have key:∀(R:List (Nat×Nat)) (i:Nat),R[i]? =some q->(R.flatMap z1W)[i*2+j]? =some u:=by
    intro R
    induction R with
    |nil=>intro i h;simp at h
    | cons a R ih =>
      intro i h;rw[List.flatMap_cons]
      cases i with
      | zero =>
        rw[List.getElem?_cons_zero] at h;cases h;rw[List.getElem?_append_left (by show _<2;omega),Nat.zero_mul,Nat.zero_add]
        exact hj
      | succ i =>
        rw[List.getElem?_append_right (by show 2<=_;omega),show(i+1)*2+j-(z1W a).length=i*2+j by show(i+1)*2+j-2=_;omega];exact ih i h
   exact key R i hq
  have:=hc (i*2+j) u lE;rw[show off+i*2+j=off+(i*2+j) by omega];exact this
def NuX.ex2 {w w1 w2 w3 w4:World}{p:S6}{b5 n11:Nat}{X:Nat->Prop}{L:List (Cd×Nat)}(h:NuX w w1 w2 p b5 n11 X L w3)(hx:Ext w3 w4):NuX w w1 w2 p b5 n11 X L w4:=by
 obtain⟨⟨F,h1,h2,h3⟩,h4,h5,h6,h7⟩:=h
 exact⟨⟨F,h1.ext hx,h2,h3⟩,h4.trans hx,hx.OH h5,by have:=hx.size;omega,h7.trans hx.kp⟩
def NuX.back {w w1 w2 w3 w4:World}{p:S6}{b5 n11:Nat}{X X':Nat->Prop}{L L':List (Cd×Nat)}(h:NuX w w1 w2 p b5 n11 X L w3)(h':NuX w w1 w3 p b5 n11 X' L' w4)(hX:∀k,X k->X' k):NuX w w1 w2 p b5 n11 X L' w4:=by
 obtain⟨⟨F,h1,h2,h3⟩,h4,h5,h6,h7⟩:=h'
 exact⟨⟨F,h1,h2,λk hk hx=>h3 k hk (hX k hx)⟩,h4,h5,h6,h.kx.trans (h7.ON λk hk hx=>hk (hX k hx))⟩
def NuX.again {w w1 w2 w3:World}{p:S6}{b5 n11:Nat}{X X':Nat->Prop}{L:List (Cd×Nat)}{F:Nat->Prop}(h:NuX w w1 w2 p b5 n11 X L w3)(hA:z5r w3 n11 L F)(hf:∀k,F k->w1.heap.size<=k)(hx:∀k,F k->¬X' k):NuX w w1 w3 p b5 n11 X' L w3:=
 ⟨⟨F,hA,hf,hx⟩,h.ext,h.b5,h.siz,Kp.refl _ _⟩
theorem SA (x least:Nat):∀(l:List (Nat×Nat)) (e:Option Nat),(PM x least e l).length=2*l.length
 |[],e=>by cases e<;>rfl
 |q::l,e=>by rw[RJ,List.length_cons,List.length_cons,SA x least l,List.length_cons];omega
def Zz {least:Nat}:∀(R:List (Nat×Nat)) (lo i:Nat) (q:Nat×Nat),T3 least lo R->R[i]? =some q->1<=q.2/\least<=q.2/\(∀z,YP (R.take i)=some z->z+2<=q.1)/\(YP (R.take i)=none->lo<=q.1)
 |[],lo,i,q,h,hq=>by simp at hq
 | p :: R, lo, 0, q, h, hq => by
   rw[List.getElem?_cons_zero] at hq;cases hq
   exact⟨h.2.1,h.2.2.1,(λz hz=>by cases hz),λ_=>h.1⟩
 | p :: R, lo, i + 1, q, h, hq => by
   rw[List.getElem?_cons_succ] at hq;obtain⟨h1,h2,h3,h4⟩:=Zz R _ i q h.2.2.2 hq;have hp:1<=p.2:=h.2.1;refine⟨h1,h2,λz hz=>?_,λhz=>?_⟩
   ·rw[List.take_succ_cons] at hz
    cases hR:R.take i with
    | nil =>
      rw[hR] at hz;have e:p.1+p.2-1=z:=RB hz;have:=h4 (by rw[hR];rfl)
      omega
    | cons a l =>
      rw[hR] at hz;exact h3 z (by rw[hR];exact hz)
   ·rw[List.take_succ_cons] at hz;exfalso;unfold YP at hz;rw[Option.map_eq_none_iff,List.getLast?_eq_none_iff] at hz;cases hz
theorem z9l (l:List (Nat×Nat))(q:Nat×Nat):YP (l++[q])=some (q.1+q.2-1):=by simp[YP]
def zb1 {least:Nat}{l:List Nat}{q:Nat×Nat}(hl:∀y∈l,y<65536)(hq:q∈(PV least l).1)(h1:1<=q.2):q.1+q.2<=65536:=by
 have h2:q.1+(q.2-1)∈QT (PV least l).1:=by
  unfold QT;exact List.mem_flatMap.2 ⟨q,hq,List.mem_map.2 ⟨q.2-1,List.mem_range.2 ω,rfl⟩⟩
 have:=hl _ ((TJ least l).subset (List.mem_append_left _ h2))
 omega
def zbZ (x:Nat):Option Nat->Nat->Nat
 |none,v=>zig ((v:Int)-x)
 |some u,v=>v-u-1
theorem SY (x k:Nat)(e:Option Nat)(v:Nat)(r:List Nat):PN x k e (v::r)=(.zeta k,zbZ x e v)::PN x k (some v) r:=by
 cases e<;>rfl
theorem YV (x k:Nat):∀(l:List Nat) (e:Option Nat) (v:Nat),PN x k e (l++[v])=PN x k e l++PN x k (match l with|[]=>e|_=>l.getLast?) [v]
 |[],e,v=>by cases e<;>rfl
 | u :: l, e, v => by
   rw[List.cons_append,SY,SY,YV x k l _ v]
   cases l with
   |nil=>rfl
   |cons u2 l=>rfl
theorem Xq (x k:Nat)(l:List Nat)(v:Nat):PN x k none (l++[v])=PN x k none l++[(.zeta k,zbZ x l.getLast? v)]:=by
 rw[YV]
 cases l with
 |nil=>rfl
 |cons u l=>rw[SY x k (match u::l with|[]=>none|_=>(u::l).getLast?)];cases (u::l).getLast?<;>rfl
theorem Ti (x k:Nat):∀(l:List Nat) (e:Option Nat),(PN x k e l).length=l.length
 |[],e=>by cases e<;>rfl
 |v::l,e=>by rw[SY,List.length_cons,Ti x k l,List.length_cons]
theorem PK {α:Type}{l:List α}{i:Nat}{q:α}(h:l[i]? =some q):l.take (i+1)=l.take i++[q]:=by
 rw[List.take_succ,h];rfl
end Go.Proofs.YtffbidffdbpcoaaGreatDoor
