/- Merged by program. -/
import Derived.Test.YtffbidffdbpcoaaGreatDoorZk2
import Derived.Sort.AssemblyPlain
set_option linter.all false
set_option maxRecDepth 1000000
set_option maxHeartbeats 16000000
namespace Go.Proofs.YtffbidffdbpcoaaGreatDoor
open Go Go.RowKit Go.Proofs.Tryz
abbrev QJ (n:Nat):Value:= .int .u32 (n:Int)
theorem z6t (m:Nat)(h:m<18446744073709551616):m^^^18446744073709551615=18446744073709551615-m:=by
 have h1:=congrArg BitVec.toNat (BitVec.xor_allOnes (x:=BitVec.ofNat 64 m))
 rw[BitVec.toNat_xor,BitVec.toNat_not,BitVec.toNat_allOnes,BitVec.toNat_ofNat] at h1
 rw[show(2:Nat)^64=18446744073709551616 from rfl,Nat.mod_eq_of_lt h] at h1
 exact h1
section
variable {P:Program}{e:Env}{d:Option Nat}{ty t t':TypeId}{pos:String}{aft:Array Edge}{g:Option (Nat×Bool)}{x y:Operand}{w:World}{m:Nat}
def zk9 (hx:look e x=some (I (m:Int)))(hy:look e y=some (I 0))(hm:m<2^63):Y P e ⟨d,.binOp .xor t x y t',ty,pos,aft,g⟩ (I (m:Int)) w w:=fun ρ hρ=>by
 have h1:m<2^IntKind.i64.bits:=by simp only[IntKind.bits];omega
 have h2:(BitVec.ofInt IntKind.i64.bits 0).toNat=0:=by decide
 simp only[execOp,eqGuard_xor,binOp_xor,intBits_xor,hρ _ _ hx,hρ _ _ hy,pure_bind,Sem.run_pure,bits,BitVec.toNat_xor,RS h1,h2,Nat.xor_zero]
 rw[wrap_i64 ⟨ω,ω⟩]
def zkP (hx:look e x=some (I (m:Int)))(hy:look e y=some (I (-1)))(hm:m<2^63):Y P e ⟨d,.binOp .xor t x y t',ty,pos,aft,g⟩ (I (-(m:Int)-1)) w w:=fun ρ hρ=>by
 have h1:m<2^IntKind.i64.bits:=by simp only[IntKind.bits];omega
 have h2:(BitVec.ofInt IntKind.i64.bits (-1)).toNat=18446744073709551615:=by decide
 simp only[execOp,eqGuard_xor,binOp_xor,intBits_xor,hρ _ _ hx,hρ _ _ hy,pure_bind,Sem.run_pure,bits,BitVec.toNat_xor,RS h1,h2]
 rw[z6t m ω]
 congr 2
 have h3:((18446744073709551615-m:Nat):Int)=-(m:Int)-1+18446744073709551616:=by omega
 rw[h3]
 simp only[IntKind.wrap,IntKind.bits,IntKind.signed]
 simp
 omega
end
/-! ### Numbers with a sign -/
def z9g (z:Int)(h: -4611686018427387904<=z/\z<4611686018427387904)(w:World):Qu prog 208 [I z] w λu w'=>u=Qg (zig z)/\w'=w:=by
 rcases Int.lt_or_le z 0 with h0|h0
 ·obtain⟨n,rfl⟩:∃n:Nat,z=-(n:Int)-1:=⟨(-z-1).toNat,ω⟩;refine py (e:=[(0,_)]) func208 O ntmps208 O O$ qN O$ RZ O$ qV (ycv (b:=((18446744073709551615-n:Nat):Int)) O U2 SL (by simp only[IntKind.wrap,IntKind.bits,IntKind.signed];simp;omega)) ?_;refine qV (Sr 1 2 O O ψ O)$ Q4 O$ qV (ysr 63 O O ψ) ?_;rw[show(-(n:Int)-1) / 2^63=-1 by omega];refine qV (ycv (b:=((18446744073709551615:Nat):Int)) O U2 SL ψ)$ qV (z2Z O O ω ω)$ Qc O$ PO func208 O (⟨_,rfl,?_,rfl⟩);rw[z6t _ ω];simp only[Rb]
  congr 2
  unfold zig;rw[if_neg ω];omega
 ·obtain⟨n,rfl⟩:∃n:Nat,z=(n:Int):=⟨z.toNat,ω⟩;refine py (e:=[(0,_)]) func208 O ntmps208 O O$ qN O$ RZ O$ qV ((Rp O U2 SL ω))$ qV (Sr 1 2 O O ψ O)$ Q4 O$ qV (Vm 63 9223372036854775808 O O ψ O)$ qV ((Rp O U2 SL ω))$ qV (z2Z O O ω ω)$ Qc O$ PO func208 O (⟨_,rfl,?_,rfl⟩);rw[show n / 9223372036854775808=0 by omega,Nat.xor_zero];simp only[Rb]
  congr 2
  unfold zig;rw[if_pos ω];omega
def z92 (n:Nat)(h:n<9223372036854775808)(w:World):Qu prog 233 [Qg n] w λu w'=>u=I (zag n)/\w'=w:=by
 refine py (e:=[(0,_)]) func233 O ntmps233 O O$ qN O$ RZ O$ qV (Vm 1 2 O O ψ O)$ qV (QU O SL U2 ω)$ Q4 O$ qV (VY O O ω ω) ?_
 rw[Nat.and_one_is_mod]
 refine qV (QU O SL U2 ω) ?_
 rcases Nat.mod_two_eq_zero_or_one n with h0|h0
 ·rw[h0];refine qV (yng O ψ ψ)$ qV (zk9 O O ω)$ Qc O$ PO func233 O (⟨_,rfl,?_,rfl⟩);simp only[Rb];unfold zag;rw[if_pos h0]
 ·rw[h0];refine qV (yng O ψ ψ)$ qV (zkP O O ω)$ Qc O$ PO func233 O (⟨_,rfl,?_,rfl⟩);simp only[Rb];unfold zag;rw[if_neg ω]
/-! ### The parameters -/
def lpC (p:Th):List Value:=[I (p.Qq:Int),I (p.interval:Int),I (p.zeta:Int)]
abbrev lpV (p:Th):Value:= .agg (lpC p).toArray
def Th.RE (p:Th):Prop:=p.Qq<=16/\(p.interval=0\/2<=p.interval/\p.interval<=64)/\1<=p.zeta/\p.zeta<=16
def Vj (p:Th)(hp:p.RE)(w:World):Qu prog 181 [lpV p] w λu w'=>u=I 0/\Ext w w':=by
 obtain⟨h1,h2,h3,h4⟩:=hp
 refine py (e:=[(0,_)]) func181 O ntmps181 O O$ qN O$ PY O O (Se O (cs:=lpC p) O) ?_
 rintro _ w1 ⟨b1,rfl,bL,ad,ai⟩
 replace ai:Q7 w1 b1 [I (p.Qq:Int),I (p.interval:Int),I (p.zeta:Int)] 260:=ai
 refine Qc O$ RP$ An$ qN O$ Qd UJ O$ qV (PX U3 O O ai O)$ RT O$ QW$ Q4 O$ Qd UJ O$ qV (PX U3 O O ai O)$ RK O$ QW$ QY O ?_
 refine Qc O$ PZ O$ qN O$ Qd z1w O$ qV (PX U3 O O ai O)$ RT O$ QW$ Q4 O$ Qd z1w O$ qV (PX U3 O O ai O)$ RK O$ QW$ QY O$ Qc O ?_
 refine PZ O$ PW O$ Qd VC O$ qV (PX U3 O O ai O)$ RA O$ TL (λe1=>?_)$ λe1=>?_
 ·refine Q4 O$ Qd VC O$ qV (PX U3 O O ai O)$ RT O$ QW$ Q4 O$ Qd VC O$ qV (PX U3 O O ai O)$ RK O$ QW$ QY O$ Sa O$ Qc O$ Qy.qb (e:=[(2,_),(3,_)]) ?_;refine TT O$ PM$ RN O$ PO func181 O ?_;exact⟨_,rfl,rfl,ad⟩
 ·refine Q4 O$ S6$ S6$ S6$ S6$ QY O$ Qc O$ Qy.qb (e:=[(2,_),(3,_)]) ?_;refine TT O$ PM$ RN O$ PO func181 O ?_;exact⟨_,rfl,rfl,ad⟩
def WW (n:Nat)(h:n<65536)(w:World):Qu prog 202 [I (n:Int)] w λu w'=>u= .bool true/\w'=w:=by
 refine py (e:=[(0,_)]) func202 O ntmps202 O O$ qN O$ RZ O$ UZ O$ SM$ Qp O$ RT O$ SM$ Sa O$ Qc O$ PO func202 O ?_
 exact⟨_,rfl,rfl,rfl⟩
structure QP (l:List Nat):Prop where
 ris:Ris l
 lt:∀y∈l,y<65536
def z4P:∀(l:List Nat) (lo hi:Nat),Ris l->(∀y∈l,lo<=y/\y<hi)->lo<=hi->lo+l.length<=hi
 |[],lo,hi,_,_,h=>h
 | x :: l, lo, hi, hr, hm, h => by
   have h1:=(List.pairwise_cons.1 hr);have h2:=hm x List.mem_cons_self;have:=z4P l (x+1) hi h1.2 (λy hy=>⟨h1.1 y hy,(hm y (List.mem_cons_of_mem _ hy)).2⟩) ω;rw[List.length_cons];omega
theorem QP.len {l:List Nat}(h:QP l):l.length<=65536:=by
 have:=z4P l 0 65536 h.ris (λy hy=>⟨Nat.zero_le _,h.lt y hy⟩) ψ
 omega
def QP.sub {l m:List Nat}(h:QP l)(hs:m.Sublist l):QP m:=⟨h.ris.sublist hs,λy hy=>h.lt y (hs.subset hy)⟩
def XU (v:Value)(l:List Nat)(hl:QP l)(w:World)(hr:Rd w v 1 l.length (l.map QJ)):
  Qu prog 203 [v] w λu w'=>u= .bool true/\w'=w:=by
 have aH:=hl.len
 obtain⟨a,cap,rfl,ha⟩:=hr.shape
 refine py (e:=[(0,_)]) func203 O ntmps203 O O$ RN O$ QS O$ SR QE O$ Q4 O$ PQ$ PS$ SK (α:=Nat) (0) (λi=>[(0,.slice a l.length cap),(5,.slice a l.length cap),(6,I (l.length:Int)),(7,I (i:Int))]) (λi w'=>w'=w/\i<=l.length) (λi=>l.length-i) ?hI ?hround
 case hI=>exact⟨rfl,ω⟩
 case hround=>
  rintro i _ ⟨rfl,hi⟩ ih
  try dsimp only
  refine qN O$ RT O$ PQ$ An$ Q8 O (λaR=>?_)$ λaR=>?_
  ·have gp:i<l.length:=by omega
   have hy:=hl.lt l[i] (List.getElem_mem gp);rcases hr.2 with⟨c,-,h⟩|⟨b,off,cap',mL,bq⟩
   ·omega
   cases mL;refine PR$ RP$ Qx O$ qV (Rh QE Ql O O ω)$ qV (QF RQ O O (bq (i*1) (QJ l[i]) (by simp[gp]))) ?_;refine TN O$ RZ O$ UZ O$ QW$ Qp O$ RK O$ TL (λe1=>?_)$ λe1=>?_
   ·have hp:l[i-1]<l[i]:=(List.pairwise_iff_getElem.1 hl.ris) (i-1) i ω gp ω;refine Qp O$ Qp O$ SA O ?_;rw[show(i:Int)-1=((i-1:Nat):Int) by omega];refine qV (Rh QE Ql O O ω)$ qV (QF RQ O O (bq ((i-1)*1) (QJ l[i-1]) (by simp[show i-1<l.length by omega]))) ?_;refine zle O$ QW$ Sa O$ QY O$ Re O$ PM$ PW O$ R7 O$ Q4 O$ PQ ?_;exact(ih (i+1) _ ⟨rfl,ω⟩ ω).qb
   ·refine Q4 O$ S6$ S6$ S6$ qS$ QY O$ QY O$ Re O$ PM$ PW O$ R7 O$ Q4 O$ PQ ?_;exact(ih (i+1) _ ⟨rfl,ω⟩ ω).qb
  ·refine Q5 O$ RN O$ PO func203 O ?_;exact⟨_,rfl,rfl,rfl⟩
def zce (p:Th)(hp:p.RE)(x:Nat)(hx:x<65536)(v u:Value)(l m:List Nat)(r:Nat)(hl:QP l)(hm:QP m)(hr:r<=p.Qq)(mM:r=0->m=[])(w:World)
  (iy:Rd w v 1 l.length (l.map QJ)) (BR:Rd w u 1 m.length (m.map QJ)):
  Qu prog 182 [lpV p,I (x:Int),v,u,I (r:Int)] w λo w'=>o= .bool true/\Ext w w':=by
 obtain⟨h1,h2,h3,h4⟩:=id hp
 refine py (e:=[(0,_),(1,_),(2,_),(3,_),(4,_)]) func182 O ntmps182 O O$ qN O$ PY O O (Se O (cs:=lpC p) O) ?_
 rintro _ w1 ⟨b1,rfl,bL,ad,ai⟩
 refine S7 O$ qV (QB (news:=lpC p) z0J O Vu O (ai.cells (n:=3) O) O)$ Qk z5W O (Vj p hp w1) ?_
 rintro _ w2 ⟨rfl,ae⟩
 have ak:=ae.PN ai
 replace ak:Q7 w2 b1 [I (p.Qq:Int),I (p.interval:Int),I (p.zeta:Int)] 260:=ak
 refine Ss O$ SM$ Qp O$ Qk z9l O (WW x hx w2) ?_
 rintro _ w3 ⟨rfl,rfl⟩
 refine Sa O$ Qp O$ Qk z5n O (XU v l hl w3 (iy.ext (ad.trans ae))) ?_
 rintro _ w4 ⟨rfl,rfl⟩
 refine Sa O$ Qp O$ Qk z5n O (XU u m hm w4 (BR.ext (ad.trans ae))) ?_
 rintro _ w5 ⟨rfl,rfl⟩
 refine Sa O$ Q4 O ?_
 obtain⟨ua,uc,rfl,-⟩:=BR.shape
 refine Q4 O$ UZ O$ SM$ Sa O$ Qp O$ Qd UJ O$ qV (PX U3 O O ak O)$ zle O$ SM$ Sa O$ Qp O$ RK O$ TL (λe1=>?_)$ λe1=>?_
 ·refine Q4 O$ S6$ qS$ Sa O$ Sa O$ Qc O$ Qy.qb (e:=[(10,_)]) ?_;refine PO func182 O ?_;exact⟨_,rfl,rfl,ad.trans ae⟩
 ·have e2:=mM ω;subst e2;refine Qp O$ SR QE O$ Ss O$ SM$ QY O$ Sa O$ Qc O$ Qy.qb (e:=[(10,_)]) ?_;refine PO func182 O ?_;exact⟨_,rfl,rfl,ad.trans ae⟩
def ZL (l:List Nat):∀c∈l.map QJ,c.oneCell'=true:=by
 intro c hc
 obtain⟨x,-,rfl⟩:=List.mem_map.1 hc
 rfl
def z3c (p:Nat×Nat):List Value:=[I (p.1:Int),I (p.2:Int)]
theorem zas (l:List (Nat×Nat)):(l.flatMap z3c).length=l.length*2:=by
 induction l with
 |nil=>rfl
 |cons p l ih=>rw[List.flatMap_cons,List.length_append,ih,List.length_cons,show(z3c p).length=2 from rfl];omega
theorem Sl.oneV {w:World}{v:Value}{e size n:Nat}{cs:List Value}(h:Sl w v e size n cs):oneV v=true:=by
 rcases h.shape with⟨rfl,-⟩|⟨g,cap,rfl,-⟩<;>rfl
structure zeb (w:World)(l:List Nat)(least:Nat)(r:List Nat)(a:Option Addr)(cap:Nat)(v4 v5:Value)(R:List (Nat×Nat))(O_:List Nat)(w':World):Prop where
 ext:Ext w w'
 cl:r.length<=cap
 rd:Rd w (.slice a r.length cap) 1 r.length (r.map QJ)
 s4:Sl w' v4 326 2 R.length (R.flatMap z3c)
 s5:Sl w' v5 59 1 O_.length (O_.map QJ)
 f4:∀g,v4.ownBlock=some g->w.heap.size<=g
 f5:∀g,v5.ownBlock=some g->w.heap.size<=g
 ne:∀g,v4.ownBlock=some g->v5.ownBlock≠some g
 ok:QP r
 eq:R4 least l=(R++(R4 least r).1,O_++(R4 least r).2)
 len:R.length+O_.length+r.length<=65536
def UX {w:World}{a:Option Addr}{n cap i:Nat}{cs:List Value}(h:Rd w (.slice a n cap) 1 n cs)(hi:i<=n)(hc:n<=cap):Rd w (.slice (if cap=i then a else a.map (·.add (i*1))) (n-i) (cap-i)) 1 (n-i) (cs.drop i):=by
 have hl:=h.1
 refine⟨by rw[List.length_drop,hl];omega,?_⟩
 rcases h.2 with⟨c,hv,h0⟩|⟨b,off,cap',hv,bq⟩
 ·refine .inl ⟨((if cap=i then a else a.map (·.add (i*1))),cap-i),?_,ω⟩;rw[show n-i=0 by omega]
 ·cases hv;by_cases e:cap=i
  ·rw[if_pos e];refine .inl ⟨(some ⟨b,off,none⟩,cap-i),?_,ω⟩;rw[show n-i=0 by omega]
  ·rw[if_neg e];refine .inr ⟨b,off+i*1,cap-i,?_,λj u hu=>?_⟩
   ·simp only[Option.map_some,Sh]
   ·rw[List.getElem?_drop] at hu;have:=bq (i+j) u hu;rw[show off+i*1+j=off+(i+j) by omega];exact this
def Wp {w:World}{a:Option Addr}{n cap i:Nat}{cs:List Value}(h:Rd w (.slice a n cap) 1 n cs)(hi:i<=n):Rd w (.slice a i cap) 1 i (cs.take i):=by
 have hl:=h.1
 refine⟨by rw[List.length_take,hl];omega,?_⟩
 rcases h.2 with⟨c,hv,h0⟩|⟨b,off,cap',hv,bq⟩
 ·refine .inl ⟨(a,cap),?_,ω⟩;rw[show i=0 by omega]
 ·cases hv;refine .inr ⟨b,off,cap,rfl,λj u hu=>?_⟩;rw[List.getElem?_take] at hu;split at hu
  ·exact bq j u hu
  ·cases hu
def zeb.grow {w w1 w2:World}{l r:List Nat}{least cap:Nat}{a:Option Addr}{v4 v5:Value}{R:List (Nat×Nat)}{O_:List Nat}(h:zeb w l least r a cap v4 v5 R O_ w1)(hx:Ext w1 w2):zeb w l least r a cap v4 v5 R O_ w2:=
 ⟨h.ext.trans hx,h.cl,h.rd,h.s4.ext hx,h.s5.ext hx,h.f4,h.f5,h.ne,h.ok,h.eq,h.len⟩
def zcD (a:Option Addr)(cap:Nat)(l:List Nat)(least:Nat)(sy:QP l)(kF:l.length<=cap)(kK:least<=64)(w:World)(hr:Rd w (.slice a l.length cap) 1 l.length (l.map QJ)):
  Qu prog 207 [.slice a l.length cap,I (least:Int)] w λu w'=>∃v4 v5,u= .tuple #[v4,v5]/\Sl w' v4 326 2 (R4 least l).1.length ((R4 least l).1.flatMap z3c)/\
   Sl w' v5 59 1 (R4 least l).2.length ((R4 least l).2.map QJ)/\Ext w w'/\(∀g,v4.ownBlock=some g->w.heap.size<=g)/\(∀g,v5.ownBlock=some g->w.heap.size<=g)/\∀g,v4.ownBlock=some g->v5.ownBlock≠some g:=by
 refine py (e:=[(0,_),(1,_)]) func207 O ntmps207 O O$ qN O$ Rt O$ RP$ SK (α:=List Nat×Option Addr×Nat×Value×Value×List (Nat×Nat)×List Nat) ((l,a,cap,.slice none 0 0,.slice none 0 0,[],[])) (λx=>[(0,.slice x.2.1 x.1.length x.2.2.1),(1,I (least:Int)),(4,x.2.2.2.1),(5,x.2.2.2.2.1)]) (λx w'=>zeb w l least x.1 x.2.1 x.2.2.1 x.2.2.2.1 x.2.2.2.2.1 x.2.2.2.2.2.1 x.2.2.2.2.2.2 w') (λx=>x.1.length) ?hI ?hround
 case hI=>exact⟨Ext.refl _,kF,hr,Sl.nil _ _ _,Sl.nil _ _ _,(λg h=>by cases h),(λg h=>by cases h),(λg h=>by cases h),sy,rfl,by have:=sy.len;simp;omega⟩
 case hround =>
  rintro⟨r,a1,c1,v4,v5,R,O_⟩ w6 hI ih;dsimp only at hI
  try dsimp only
  refine QS O$ SR QE O$ RK O$ PQ$ Q8 O (λh0=>?_)$ λh0=>?_
  ·obtain⟨y,r',rfl⟩:∃y r',r=y::r':=by
    cases r with
    |nil=>exact absurd h0 ξ
    |cons y r'=>exact⟨y,r',rfl⟩
   have iy:=Y4 y r';have KL:=hI.ok.lt y List.mem_cons_self;have jv:=hI.ok.len;rw[List.length_cons] at jv
   obtain⟨b,off,mL,bq⟩:∃b off,a1=some ⟨b,off,none⟩/\∀j u,((y::r').map QJ)[j]? =some u->w6.cell? ⟨b,off+j,none⟩=some u:=by
    rcases (hI.rd.ext hI.ext).2 with⟨c,-,h⟩|⟨b,off,cap',mL,bq⟩
    ·exact absurd h ξ
    ·cases mL;exact⟨b,off,rfl,bq⟩
   subst mL
   have kL:∀w',Ext w w'->∀j u,((y::r').map QJ)[j]? =some u->w'.cell? ⟨b,off+j,none⟩=some u:=λw' hx=>by
    rcases (hI.rd.ext hx).2 with⟨c,-,h⟩|⟨b',off',cap',mL,hc⟩
    ·exact absurd h ξ
    ·cases mL;exact hc
   clear bq;refine PR$ PS$ RN O$ RP$ Tf (λe' w'=>Ext w6 w'/\e'=[(0,.slice (some ⟨b,off,none⟩) (y::r').length c1),(1,I (least:Int)),(4,v4),(5,v5),(6,I ((QZ y r'+1:Nat):Int))]) ?qp$ λqp=>?D8
   case qp=>
    rintro e' w6z ⟨aS,rfl⟩;replace hI:=hI.grow aS;have bq:=kL _ hI.ext
    generalize hn:QZ y r'+1=n
    have sA:=hI.cl;rw[List.length_cons] at sA;have eu:=hI.eq;have aH:=hI.len;rw[List.length_cons] at aH;have dl:1<=n/\n<=r'.length+1:=by omega
    have pL:r'.drop (QZ y r')=(y::r').drop n:=by rw[<-hn];rfl
    have nS:y::r'.take (QZ y r')=(y::r').take n:=by rw[<-hn];rfl
    rw[R4] at eu;simp only[hn,pL,nS] at eu;have az:QP ((y::r').drop n):=hI.ok.sub (List.drop_sublist _ _);have dh:=UX hI.rd (i:=n) (by rw[List.length_cons];omega) hI.cl;rw[<-List.map_drop,show(y::r').length-n=((y::r').drop n).length by rw[List.length_drop]] at dh;have lT:((y::r').drop n).length=r'.length+1-n:=by rw[List.length_drop,List.length_cons]
    by_cases hL:0<least/\least<=n
    ·obtain⟨ub,IK⟩:=hL;rw[if_pos ⟨ub,IK⟩] at eu;refine QS O$ RK O$ SM$ Qp O$ Q4 O$ UZ O$ SM$ Sa O$ PQ$ Qa O$ PW O$ Qp O$ qV (Rh QE Ql O O ω)$ qV (QF RQ O O (bq (0*1) (QJ y) O)) ?_;refine qV (QU O RQ U3 ω)$ Q4 O$ qV (Tq (cs:=[_,_]) z27 O ziQ O O)$ PY O O (Zh (cs:=[_,_]) (zs:=[Value.int .i64 0,Value.int .i64 0]) zcx z27 O (by kernel_rfl) O O O ψ) ?_;rintro _ w7 ⟨b7,rfl,⟨mH,cu,bU⟩,i6⟩;refine PY O O (pap zcx z27 O ψ O O (hI.s4.ext cu) i6.rd (by intro c hc;simp at hc;rcases hc with rfl|rfl<;>rfl) ω (by simp only[maxLen];omega)) ?_;rintro v4' w8 ⟨dQ,aK,lY,-⟩;have nF:=dQ.oneV;have hz:=hI.ext.size;have BU:=cu.size;have cV:Ext w w8:=(hI.ext.trans cu).It aK (λi hi=>hI.f4 i hi);have pM:Sl w8 v5 59 1 O_.length (O_.map QJ):=(hI.s5.ext cu).kp aK (λg hg e=>hI.ne g e hg);refine Qc O$ PW O$ Qp O$ qV (ZX QE Ql O O (by rw[List.length_cons];omega) hI.cl) ?_;refine Qc O$ PM ?_;rw[show(y::r').length-n=((y::r').drop n).length by rw[List.length_drop]];refine(ih ((y::r').drop n,_,c1-n,v4',v5,R++[(y,n)],O_) _ ⟨cV,by dsimp only;rw[lT];omega,dh,?_,pM,?_,hI.f5,?_,az,?_,?_⟩ ?_).qb
     ·dsimp only;rw[List.length_append,List.flatMap_append];exact dQ
     ·intro g hg;rcases lY g hg with h| h
      ·exact hI.f4 g h
      ·omega
     ·intro g hg e;rcases lY g hg with h| h
      ·exact hI.ne g h e
      ·have:=hI.s5.lt e;omega
     ·dsimp only;rw[eu,List.append_assoc];rfl
     ·dsimp only;rw[List.length_append,List.length_singleton,lT];omega
     ·dsimp only;rw[lT,List.length_cons];omega
    ·rw[if_neg hL] at eu;rcases Nat.eq_zero_or_pos least with e0|e0
     ·refine QS O$ RK O$ QW$ Q4 O$ S6$ qS$ QY O$ PQ$ PZ O$ PW O$ Qp O$ Q4 O$ qV (zd1 QE Ql O O ω)$ PY O O (pap QE Ql O ψ O O hI.s5 (Wp (hI.rd.ext hI.ext) (i:=n) (by rw[List.length_cons];omega)) (by rw[<-List.map_take];exact ZL _) ω (by simp only[maxLen];omega)) ?_;rintro v5' w8 ⟨dQ,aK,lY,-⟩;have nF:=dQ.oneV;have hz:=hI.ext.size;have cV:Ext w w8:=hI.ext.It aK (λi hi=>hI.f5 i hi);have xc:Sl w8 v4 326 2 R.length (R.flatMap z3c):=hI.s4.kp aK (λg hg e=>hI.ne g hg e);refine Qc O$ PW O$ Qp O$ qV (ZX QE Ql O O (by rw[List.length_cons];omega) hI.cl) ?_;refine Qc O$ PM ?_;rw[show(y::r').length-n=((y::r').drop n).length by rw[List.length_drop]];have kM:((y::r').take n).length=n:=by rw[List.length_take,List.length_cons];omega
      refine(ih ((y::r').drop n,_,c1-n,v4,v5',R,O_++(y::r').take n) _ ⟨cV,by dsimp only;rw[lT];omega,dh,xc,?_,hI.f4,?_,?_,az,?_,?_⟩ ?_).qb
      ·dsimp only;rw[List.length_append,List.map_append,kM,List.map_take];exact dQ
      ·intro g hg;rcases lY g hg with h| h
       ·exact hI.f5 g h
       ·omega
      ·intro g hg e;rcases lY g e with h| h
       ·exact hI.ne g hg h
       ·have:=hI.s4.lt hg;omega
      ·dsimp only;rw[eu,List.append_assoc]
      ·dsimp only;rw[List.length_append,kM,lT];omega
      ·dsimp only;rw[lT,List.length_cons];omega
     ·have IK:¬least<=n:=λh=>hL ⟨e0,h⟩;refine QS O$ RK O$ SM$ Qp O$ Q4 O$ UZ O$ QW$ Sa O$ PQ$ PZ O$ PW O$ Qp O$ Q4 O$ qV (zd1 QE Ql O O ω) ?_;refine PY O O (pap QE Ql O ψ O O hI.s5 (Wp (hI.rd.ext hI.ext) (i:=n) (by rw[List.length_cons];omega)) (by rw[<-List.map_take];exact ZL _) ω (by simp only[maxLen];omega)) ?_;rintro v5' w8 ⟨dQ,aK,lY,-⟩;have nF:=dQ.oneV;have hz:=hI.ext.size;have cV:Ext w w8:=hI.ext.It aK (λi hi=>hI.f5 i hi);have xc:Sl w8 v4 326 2 R.length (R.flatMap z3c):=hI.s4.kp aK (λg hg e=>hI.ne g hg e);refine Qc O$ PW O$ Qp O$ qV (ZX QE Ql O O (by rw[List.length_cons];omega) hI.cl) ?_;refine Qc O$ PM ?_;rw[show(y::r').length-n=((y::r').drop n).length by rw[List.length_drop]];have kM:((y::r').take n).length=n:=by rw[List.length_take,List.length_cons];omega
      refine(ih ((y::r').drop n,_,c1-n,v4,v5',R,O_++(y::r').take n) _ ⟨cV,by dsimp only;rw[lT];omega,dh,xc,?_,hI.f4,?_,?_,az,?_,?_⟩ ?_).qb
      ·dsimp only;rw[List.length_append,List.map_append,kM,List.map_take];exact dQ
      ·intro g hg;rcases lY g hg with h| h
       ·exact hI.f5 g h
       ·omega
      ·intro g hg e;rcases lY g e with h| h
       ·exact hI.ne g hg h
       ·have:=hI.s4.lt hg;omega
      ·dsimp only;rw[eu,List.append_assoc]
      ·dsimp only;rw[List.length_append,kM,lT];omega
      ·dsimp only;rw[lT,List.length_cons];omega
   case D8 =>
    refine SK (α:=Nat) (1) (λi=>[(0,.slice (some ⟨b,off,none⟩) (y::r').length c1),(1,I (least:Int)),(4,v4),(5,v5),(6,I (i:Int))]) (λi w'=>Ext w6 w'/\1<=i/\i<=QZ y r'+1) (λi=>QZ y r'+2-i) ?hI ?hround
    case hI=>exact⟨Ext.refl _,ω,ω⟩
    case hround=>
     rintro i w7 ⟨cu,ud,dW⟩ ih2
     try dsimp only
     refine An$ An ?_;have hg:=(Ext.refl w7).drew;refine S5 (λw'=>Ext w7 w') O$ Qi 0 O O (hg)$ Qi 1 O O (hg)$ PT 2 O (TP QE O) hg$ PT 3 O (ylt O O) hg$ zi1 (λe1=>?_)$ λe1=>?_
     ·have lZ:i<r'.length+1:=by rw[List.length_cons] at e1;omega
      have dq:r'[i-1]? =some (r'[i-1]'ω):=List.getElem?_eq_getElem ω;have OL:r'[i-1]'ω<65536:=hI.ok.lt _ (List.mem_cons_of_mem _ (List.getElem_mem _));refine Qi 4 O O (hg)$ Qi 5 O O (hg)$ Qi 6 O O (hg)$ PT 7 O (Rh QE Ql O O ω) hg$ Qi 9 O O (hg)$ PT 10 O (Rh QE Ql O O ω) hg$ Qi 12 O O (hg)$ PT 13 O (z3H O U3 RQ) hg$ qT 8 O (λ_ hS=>QF RQ O O (by exact kL _ ((hI.ext.trans cu).trans hS) (i*1) (QJ (r'[i-1]'ω)) (by rw[List.getElem?_map,show i*1=(i-1)+1 by omega,List.getElem?_cons_succ,dq];rfl))) hg ?_;refine qT 11 O (λ_ hS=>QF RQ O O (by exact kL _ ((hI.ext.trans cu).trans hS) (0*1) (QJ y) O)) hg ?_;refine PT 14 O (zjn O O) hg$ PT 15 O (yeq O O) hg$ PT 16 O (W2 O O) hg$ qE$ Q8 O (λe2=>?_)$ λe2=>?_
      ·refine PR$ PS$ St O$ R7 O$ Qc O$ PM ?_
       have bE:i≠QZ y r'+1:=λe=>by
        subst e;have:=XT y r' (r'[QZ y r'+1-1]'ω) (by rw[<-dq];simp);omega
       exact(ih2 (i+1) _ ⟨cu.trans hg,ω,ω⟩ ω).qb
      ·have D9:i=QZ y r'+1:=by
        rcases Nat.lt_or_ge (i-1) (QZ y r') with h| h
        ·have h1:=Xe y r' (i-1) h;rw[dq] at h1;have h2:=SH h1;exact absurd ω e2
        ·omega
       refine Q5 O ?_;subst D9;exact(qp _ _ ⟨cu.trans hg,rfl⟩).qb
     ·have D9:i=QZ y r'+1:=by rw[List.length_cons] at e1;omega
      refine Qi 4 O O (hg)$ qJ 5 O (hg)$ qJ 6 O (hg)$ qJ 7 O (hg)$ qJ 8 O (hg)$ qJ 9 O (hg)$ qJ 10 O (hg)$ qJ 11 O (hg)$ qJ 12 O (hg)$ qJ 13 O (hg)$ qJ 14 O (hg)$ qJ 15 O (hg)$ PT 16 O (Vt O O) hg$ qE ?_;refine PZ O$ Q5 O ?_;subst D9;exact(qp _ _ ⟨cu.trans hg,rfl⟩).qb
  ·have fj:r=[]:=List.eq_nil_of_length_eq_zero ω;subst fj;refine Q5 O$ RI O$ Rt O$ PO func207 O ?_;have eu:=hI.eq;simp only[R4,List.append_nil] at eu;rw[eu];exact⟨_,rfl,v4,v5,rfl,hI.s4,hI.s5,hI.ext,hI.f4,hI.f5,hI.ne⟩
structure VsM (w:World)(p:Nat)(v:Value)(T el:TypeId)(size n:Nat)(cs:List Value):Prop where
 PN:Q7 w p [v] T
 sl:Sl w v el size n cs
 ne:v.ownBlock≠some p
def VsA (w:World)(p:Nat)(T el:TypeId)(size n:Nat)(cs:List Value)(F:Nat->Prop):Prop:=∃v,VsM w p v T el size n cs/\∀k,F k↔fpW p v k
section
variable {w w':World}{p:Nat}{T el:TypeId}{size n:Nat}{cs:List Value}{F S:Nat->Prop}
def VsA.lt (h:VsA w p T el size n cs F){k:Nat}(hk:F k):k<w.heap.size:=by
 obtain⟨bv,hM,hF⟩:=h
 rcases (hF k).1 hk with e| e
 ·rw[e];exact hM.PN.lt
 ·exact hM.sl.lt e
def VsA.kp (h:VsA w p T el size n cs F)(k:Kp S w w')(hn:∀i,F i->¬S i):VsA w' p T el size n cs F:=by
 obtain⟨bv,hM,hF⟩:=h
 exact⟨bv,⟨k.PN hM.PN (hn p ((hF p).2 (.inl O))),hM.sl.kp k (λg hg=>hn g ((hF g).2 (.inr hg))),hM.ne⟩,hF⟩
def VsA.ext (h:VsA w p T el size n cs F)(k:Ext w w'):VsA w' p T el size n cs F:=h.kp k.kp λ_ _=>id
end
def zf2 {P:Program}{e:Env}{d:Option Nat}{ty t t':TypeId}{pos:String}{aft:Array Edge}{g:Option (Nat×Bool)}{x y:Operand}{w:World}{p q:Bool}(hx:look e x=some (.bool p))(hy:look e y=some (.bool q))(ht:P.underlying t=some .bool):Y P e ⟨d,.binOp .neq t x y t',ty,pos,aft,g⟩ (.bool (!(p==q))) w w:=fun ρ hρ=>by
 simp[execOp,hρ _ _ hx,hρ _ _ hy,eqGuard_at_bool,run_neq_bool w t p q ht]
def z8m (q:Cd×Nat):List Value:=Ts q.1++[Qg q.2]
abbrev z5S (w:World)(p:Nat)(L:List (Cd×Nat))(F:Nat->Prop):Prop:=VsA w p 291 296 3 L.length (L.flatMap z8m) F
abbrev z4W (w:World)(p:Nat)(L:List Nat)(F:Nat->Prop):Prop:=VsA w p 62 59 1 L.length (L.map QJ) F
abbrev z3i (w:World)(p:Nat)(L:List Nat)(F:Nat->Prop):Prop:=VsA w p 37 3 1 L.length (L.map λn:Nat=>I (n:Int)) F
def Ux {w:World}{p:Nat}{L:List (Cd×Nat)}{F:Nat->Prop}(h:z5S w p L F)(hl:L.length<=1000000)(c:Cd)(v:Nat)(hv:v<9223372036854775808):
  Qu prog 204 [cdV c,I (v:Int),ptr p 0] w λu w'=>u= .tuple #[]/\∃F',z5S w' p (L++[(c,v)]) F'/\Kp F w w'/\∀k,F' k->F k\/w.heap.size<=k:=by
 obtain⟨x,y,dO,Da,Db⟩:∃x y,Ts c=[x,y]/\x.oneCell'=true/\y.oneCell'=true:=by cases c<;>exact⟨_,_,rfl,rfl,rfl⟩
 obtain⟨bv,hM,hF⟩:=h
 have sB:cdV c= .agg [x,y].toArray:=by rw[cdV,dO]
 rw[sB]
 have Dc:∀c∈[x,y,Qg v],c.oneCell'=true:=by
  intro c hc;rcases List.mem_cons.1 hc with rfl|hc
  ·exact Da
  rcases List.mem_cons.1 hc with rfl|hc
  ·exact Db
  rcases List.mem_cons.1 hc with rfl|hc
  ·rfl
  ·simp at hc
 refine py (e:=[(0,_),(1,_),(2,_)]) func204 O ntmps204 O O$ qN O$ PY O O (Se O (cs:=[x,y]) O) ?_
 rintro _ w1 ⟨b3,rfl,dP,ad,aw⟩
 have ki:=ad.PN hM.PN
 refine PQ$ PW O$ qV (PX z33 O O ki O)$ qV (QB (news:=[x,y]) Tz O RX O (aw.cells (n:=2) O) O)$ Q4 O$ qV ((Rp O U3 SL ω))$ qV (Tq (cs:=[_,_,_]) WI O zfA O O)$ PY O O (Zh (cs:=[_,_,_]) (zs:=[Value.int .u8 0,Value.int .u64 0,Value.int .u64 0]) z33 WI O (by kernel_rfl) O O O ψ) ?_
 rintro _ w2 ⟨b2,rfl,⟨bO,ae,ak⟩,cS⟩
 refine PY O O (pap z33 WI O ψ O O ((hM.sl.ext ad).ext ae) cS.rd Dc ω (by simp only[maxLen];omega)) ?_
 rintro v3 w3 ⟨dj,av,lU,-⟩
 have nF:=dj.oneV
 have aM:=av.PN (ae.PN ki) hM.ne
 refine Qb O (RV zci O O nF aM ξ) ?_
 rintro w4 ⟨aJ,ar⟩
 replace aJ:Q7 w4 p [v3] 291:=aJ
 have z1:=ad.size
 have z2:=ae.size
 have lp:=hM.PN.lt
 have fm:v3.ownBlock≠some p:=λe=>by
  rcases lU p e with e| e
  ·exact hM.ne e
  ·omega
 have eH:=dj.kp ar (λg hg e=>fm (e▸hg))
 refine PQ$ Rq func204 O (⟨_,rfl,rfl,fpW p v3,⟨v3,⟨aJ,?_,fm⟩,λ_=>Iff.rfl⟩,?_,?_⟩)
 ·rw[List.length_append,List.flatMap_append];have e1:[(c,v)].flatMap z8m=[x,y,Qg v]:=by simp[z8m,dO]
  rw[e1];exact eH
 ·exact((ad.trans ae).kp.trans (av.PU λk e=>(hF k).2 (.inr e))).trans (ar.PU λk e=>(hF k).2 (.inl e))
 ·intro k hk;rcases hk with e| e
  ·exact .inl ((hF k).2 (.inl e))
  ·rcases lU k e with e| e
   ·exact .inl ((hF k).2 (.inr e))
   ·exact .inr ω
def Wy (rs:List Nat)(f:Bool):List Nat:=if f !=(rs.length%2==1) then rs++[0] else rs
theorem z2t (rs:List Nat)(f:Bool):Sb rs f=(Wy rs f).modify ((Wy rs f).length-1) (·+1):=rfl
abbrev z6P (n:Nat):Value:=I (n:Int)
def z3X {w:World}{lf rn:Nat}{L:List Nat}{F:Nat->Prop}(h:z4W w lf L F)(hl:L.length<=1000000)(x:Nat)(a:Bool):
  Qu prog 206 [QJ x,.bool a,.bool false,ptr lf 0,ptr rn 0] w λu w'=>u= .tuple #[]/\∃F',z4W w' lf (L++[x]) F'/\Kp F w w'/\∀k,F' k->F k\/w.heap.size<=k:=by
 obtain⟨bv,hM,hF⟩:=h
 refine py (e:=[(0,_),(1,_),(2,_),(3,_),(4,_)]) func206 O ntmps206 O O ?_
 have ki:=hM.PN
 refine RP$ Qx O$ qV ((T7 O))$ Qc O$ Qa O$ qN O$ qV (PX QE O O ki O)$ Q4 O$ PY O O (Zh (cs:=[_]) (zs:=[Value.int .u32 0]) QE Ql O (by kernel_rfl) O O O ψ) ?_
 rintro _ w2 ⟨b2,rfl,⟨bO,ae,ak⟩,cS⟩
 refine PY O O (pap QE Ql O ψ O O (hM.sl.ext ae) cS.rd (by intro c hc;simp at hc;subst hc;rfl) ω (by simp only[maxLen];omega)) ?_
 rintro v3 w3 ⟨dj,av,lU,-⟩
 have nF:=dj.oneV
 have aM:=av.PN (ae.PN ki) hM.ne
 refine Qb O (RV Vz O O nF aM ξ) ?_
 rintro w4 ⟨aJ,ar⟩
 replace aJ:Q7 w4 lf [v3] 62:=aJ
 have z2:=ae.size
 have lp:=hM.PN.lt
 have fm:v3.ownBlock≠some lf:=λe=>by
  rcases lU lf e with e| e
  ·exact hM.ne e
  ·omega
 have eH:=dj.kp ar (λg hg e=>fm (e▸hg))
 refine PQ$ PO func206 O (⟨_,rfl,rfl,fpW lf v3,⟨v3,⟨aJ,?_,fm⟩,λ_=>Iff.rfl⟩,?_,?_⟩)
 ·rw[List.length_append,List.map_append];exact eH
 ·exact(ae.kp.trans (av.PU λk e=>(hF k).2 (.inr e))).trans (ar.PU λk e=>(hF k).2 (.inl e))
 ·intro k hk;rcases hk with e| e
  ·exact .inl ((hF k).2 (.inl e))
  ·rcases lU k e with e| e
   ·exact .inl ((hF k).2 (.inr e))
   ·exact .inr ω
def z0q {w:World}{lf rn:Nat}{rs:List Nat}{F:Nat->Prop}(h:z3i w rn rs F)(hl:rs.length<=1000000)(bE:rs≠[])(hb:∀m∈rs,m<=1000000)(x:Nat)(a:Bool):
  Qu prog 206 [QJ x,.bool a,.bool true,ptr lf 0,ptr rn 0] w λu w'=>u= .tuple #[]/\∃F',z3i w' rn (Sb rs a) F'/\Kp F w w'/\∀k,F' k->F k\/w.heap.size<=k:=by
 have aR:∀k,F k->k<w.heap.size:=λk hk=>h.lt hk
 obtain⟨bv,hM,hF⟩:=id h
 refine py (e:=[(0,_),(1,_),(2,_),(3,_),(4,_)]) func206 O ntmps206 O O ?_
 have ki:=hM.PN
 obtain⟨va,vc,rfl,-⟩:=hM.sl.rd.shape
 refine RP$ Qx O$ qV ((T7 O))$ Qc O$ PZ O$ Qx O$ qV (PX SC O O ki O)$ SR SC O$ qV (YO O O ω ω) ?_
 rw[Nat.and_one_is_mod]
 refine Ss O$ qV (zf2 O O U4) ?_
 have hd:decide (((rs.length%2:Nat):Int)=1)=(rs.length%2==1):=by
  rcases Nat.mod_two_eq_zero_or_one rs.length with e|e<;>rw[e]<;>rfl
 rw[hd]
 refine Qc O$ QH (λe' w'=>e'=[(4,ptr rn 0)]/\∃F',z3i w' rn (Wy rs a) F'/\Kp F w w'/\∀k,F' k->F k\/w.heap.size<=k) ?ue$ λue=>?uf
 case ue=>
  rintro e' w1 ⟨rfl,F1,⟨v1,du,pN⟩,ay,je⟩
  obtain⟨l,m,i7,fu,hm⟩:∃l m,Wy rs a=l++[m]/\l.length<=1000000/\m<=1000000:=by
   unfold Wy;split
   ·exact⟨rs,0,rfl,hl,ω⟩
   ·refine⟨rs.dropLast,rs.getLast bE,(List.dropLast_concat_getLast bE).symm,by rw[List.length_dropLast];omega,hb _ (List.getLast_mem bE)⟩
  rw[i7] at du;have fQ:(l++[m]).length=l.length+1:=by simp
  rw[fQ] at du;rcases du.sl.shape with⟨-,h0⟩|⟨g,c1,rfl,gS⟩
  ·omega
  have ai:=du.PN;refine PM$ PW O$ qV (PX SC O O ai O)$ qV (PX SC O O ai O)$ SR SC O$ SA O ?_;rw[show((l.length+1:Nat):Int)-1=(l.length:Int) by omega];refine qV (Rh SC Rl O O ω)$ qV (QF U3 O O (Rf du.sl.rd (show((l++[m]).map z6P)[l.length]? =some (z6P m) by simp))) ?_;refine R7 O$ qV (Rh SC Rl O O ω)$ Qb O (SY Rl O O O du.sl ξ) ?_;rintro w2 ⟨cS,am⟩;have ak:=am.PN ai (λe=>du.ne (by rw[e];rfl));refine PQ$ Rq func206 O (⟨_,rfl,rfl,fpW rn (.slice (some ⟨g,0,none⟩) (l.length+1) c1),⟨_,⟨ak,?_,du.ne⟩,λ_=>Iff.rfl⟩,?_,?_⟩)
  ·rw[z2t,i7,XG];have e1:(l++[m+1]).length=l.length+1:=by simp
   rw[e1]
   have e2:((l++[m]).map z6P).set l.length (z6P (m+1))=(l++[m+1]).map z6P:=by
    rw[List.map_append,List.set_append_right _ _ ξ];simp
   rw[<-e2];have e3:l.length*1=l.length:=Nat.mul_one _
   first|exact cS|(simp only[Nat.zero_add,Nat.mul_one] at cS;exact cS)
  ·exact ay.It (am.PU (λk e=>(pN k).2 (.inr (by rw[e];rfl)))) (λi hi=>(je i hi).symm)
  ·intro k hk;exact je k ((pN k).2 hk)
 case uf=>
  refine Rr O (λe1=>?_)$ λe1=>?_
  ·have dJ:Wy rs a=rs++[0]:=by unfold Wy;exact if_pos e1
   refine PW O$ qV (PX SC O O ki O)$ PY O O (Zh (cs:=[_]) (zs:=[Value.int .i64 0]) SC Rl O (by kernel_rfl) O O O ψ) ?_;rintro _ w2 ⟨b2,rfl,⟨bO,ae,ak⟩,cS⟩;refine PY O O (pap SC Rl O ψ O O (hM.sl.ext ae) cS.rd (by intro c hc;simp at hc;subst hc;rfl) ω (by simp only[maxLen];omega)) ?_;rintro v3 w3 ⟨dj,av,lU,-⟩;have nF:=dj.oneV;have aM:=av.PN (ae.PN ki) hM.ne;refine Qb O (RV z7c O O nF aM ξ) ?_;rintro w4 ⟨aJ,ar⟩;replace aJ:Q7 w4 rn [v3] 37:=aJ;have z2:=ae.size;have lp:=hM.PN.lt
   have fm:v3.ownBlock≠some rn:=λe=>by
    rcases lU rn e with e| e
    ·exact hM.ne e
    ·omega
   have eH:=dj.kp ar (λg hg e=>fm (e▸hg));refine PQ ((ue _ _ ⟨rfl,fpW rn v3,⟨v3,⟨aJ,?_,fm⟩,λ_=>Iff.rfl⟩,?_,?_⟩).qb)
   ·rw[dJ,List.length_append,List.map_append];exact eH
   ·exact(ae.kp.trans (av.PU λk e=>(hF k).2 (.inr e))).trans (ar.PU λk e=>(hF k).2 (.inl e))
   ·intro k hk;rcases hk with e| e
    ·exact .inl ((hF k).2 (.inl e))
    ·rcases lU k e with e| e
     ·exact .inl ((hF k).2 (.inr e))
     ·exact .inr ω
  ·have dJ:Wy rs a=rs:=by unfold Wy;exact if_neg (by simpa using e1)
   refine PR ?_;exact(ue _ _ ⟨rfl,F,by rw[dJ];exact h,Kp.refl _ _,λk hk=> .inl hk⟩).qb
def WN (s r rs:List Nat):List Nat:=r.foldl (λrs y=>Sb rs (decide (y∈s))) rs
def z1d {s t:List Nat}:∀(r rs:List Nat),(∀y∈r,(y∈s↔y∈t))->WN s r rs=WN t r rs
 |[],rs,_=>rfl
 | y :: r, rs, h => by
   have h1:decide (y∈s)=decide (y∈t):=decide_eq_decide.2 (h y List.mem_cons_self);show WN s r (Sb rs (decide (y∈s)))=WN t r (Sb rs (decide (y∈t)));rw[h1];exact z1d r _ (λz hz=>h z (List.mem_cons_of_mem _ hz))
def WY {x z:Nat}{l:List Nat}(h:x<z):z∈x::l↔z∈l:=by
 rw[List.mem_cons]
 constructor
 ·rintro(e|e)
  ·omega
  ·exact e
 ·exact .inr
theorem z4z {x:Nat}{s r:List Nat}(h:∀y∈r,x<y):Qw (x::s) r=x::Qw s r/\∀rs,WN (x::s) r rs=WN s r rs:=by
 have hx:x∉r:=λe=>by have:=h x e;omega
 refine⟨?_,λrs=>z1d r rs λy hy=>WY (h y hy)⟩
 unfold Qw
 rw[List.filter_cons,if_pos (by simpa using hx)]
def z2A {r t:List Nat}(s:List Nat)(h:∀x∈s,(x∈r↔x∈t)):Qw s r=Qw s t:=
 List.filter_congr λx hx=>decide_eq_decide.2 (not_congr (h x hx))
theorem z8W {x:Nat}{s r:List Nat}(hs:∀z∈s,x<z)(hr:∀y∈r,x<y):Qw (x::s) (x::r)=Qw s r/\∀rs,WN (x::s) (x::r) rs=WN s r (Sb rs true):=by
 refine⟨?_,λrs=>?_⟩
 ·have:=z2A (r:=x::r) (t:=r) s (λz hz=>WY (hs z hz));rw[<-this];unfold Qw;rw[List.filter_cons,if_neg ξ]
 ·show WN (x::s) r (Sb rs (decide (x∈x::s)))=_;rw[decide_eq_true List.mem_cons_self];exact(z4z hr).2 _
theorem z9C {y:Nat}{s r:List Nat}(hs:∀z∈s,y<z):Qw s (y::r)=Qw s r/\∀rs,WN s (y::r) rs=WN s r (Sb rs false):=by
 refine⟨z2A s (λz hz=>WY (hs z hz)),λrs=>?_⟩
 show WN s r (Sb rs (decide (y∈s)))=_
 rw[decide_eq_false λe=>by have:=hs y e;omega]
def z6e {x y:Nat}{l:List Nat}(hr:Ris (y::l))(h:x<y):∀z∈y::l,x<z:=λz hz=>by
 rcases List.mem_cons.1 hz with e| e
 ·omega
 ·have:=(List.pairwise_cons.1 hr).1 z e;omega
def z2l:∀{l:List Nat} {m:Nat},m∈l->m<=l.sum
 | x :: l, m, h => by
   rw[List.sum_cons];rcases List.mem_cons.1 h with e| e
   ·omega
   ·have:=z2l e;omega
def z5r (rs:List Nat)(f:Bool):(Sb rs f).length<=rs.length+1:=by
 rw[z2t,List.length_modify]
 unfold Wy
 split<;>simp
def UL.le {rs:List Nat}{fs:List Bool}(h:UL rs fs):∀m∈rs,m<=fs.length:=λm hm=>by
 have:=z2l hm
 rw[<-h.exp,U7];exact this
structure Vs (w:World)(succ ref:List Nat)(lf rn:Nat)(FL0 FR0:Nat->Prop)(s:List Nat)(sa:Option Addr)(sc:Nat)(r:List Nat)(ra:Option Addr)(rc:Nat)(L rs:List Nat)(w':World):Prop where
 ex:∃FL FR fs,z4W w' lf L FL/\z3i w' rn rs FR/\UL rs fs/\fs.length+r.length<=65536/\rs.length+r.length<=65537/\(∀k,FL k->FL0 k\/w.heap.size<=k)/\(∀k,FR k->FR0 k\/w.heap.size<=k)/\∀k,FL k->¬FR k
 rdS:∀w2,Kp (λk=>FL0 k\/FR0 k) w w2->Rd w2 (.slice sa s.length sc) 1 s.length (s.map QJ)
 rdR:∀w2,Kp (λk=>FL0 k\/FR0 k) w w2->Rd w2 (.slice ra r.length rc) 1 r.length (r.map QJ)
 clS:s.length<=sc
 clR:r.length<=rc
 kp:Kp (λk=>FL0 k\/FR0 k) w w'
 okS:QP s
 okR:QP r
 left:Qw succ ref=L++Qw s r
 fold:Sk succ ref=WN s r rs
 zh7:L.length+s.length<=65536
section
variable {w w1 w2:World}{succ ref:List Nat}{lf rn:Nat}{FL0 FR0:Nat->Prop}{s r L rs:List Nat}{sa ra:Option Addr}{sc rc:Nat}{x y:Nat}
def Vs.ext (h:Vs w succ ref lf rn FL0 FR0 s sa sc r ra rc L rs w1)(hx:Ext w1 w2):Vs w succ ref lf rn FL0 FR0 s sa sc r ra rc L rs w2:=by
 obtain⟨FL,FR,fs,h1,h2,h3⟩:=h.ex
 exact⟨⟨FL,FR,fs,h1.ext hx,h2.ext hx,h3⟩,h.rdS,h.rdR,h.clS,h.clR,h.kp.trans hx.kp,h.okS,h.okR,h.left,h.fold,h.zh7⟩
def Vs.z9f (h:Vs w succ ref lf rn FL0 FR0 (x::s) sa sc r ra rc L rs w1):∃b off,sa=some ⟨b,off,none⟩/\∀w2,Kp (λk=>FL0 k\/FR0 k) w w2->w2.cell? ⟨b,off+0*1,none⟩=some (QJ x):=by
 rcases (h.rdS w1 h.kp).2 with⟨c,-,h0⟩|⟨b,off,cap,hv,-⟩
 ·exact absurd h0 ξ
 ·cases hv;exact⟨b,off,rfl,λw2 k=>Rf (h.rdS w2 k) O⟩
def Vs.z9R (h:Vs w succ ref lf rn FL0 FR0 s sa sc (y::r) ra rc L rs w1):∃b off,ra=some ⟨b,off,none⟩/\∀w2,Kp (λk=>FL0 k\/FR0 k) w w2->w2.cell? ⟨b,off+0*1,none⟩=some (QJ y):=by
 rcases (h.rdR w1 h.kp).2 with⟨c,-,h0⟩|⟨b,off,cap,hv,-⟩
 ·exact absurd h0 ξ
 ·cases hv;exact⟨b,off,rfl,λw2 k=>Rf (h.rdR w2 k) O⟩
def Vs.zfP (h:Vs w succ ref lf rn FL0 FR0 (x::s) sa sc r ra rc L rs w1){FL FR:Nat->Prop}{fs:List Bool}(he:z4W w1 lf L FL/\z3i w1 rn rs FR/\UL rs fs/\fs.length+r.length<=65536/\rs.length+r.length<=65537/\(∀k,FL k->FL0 k\/w.heap.size<=k)/\(∀k,FR k->FR0 k\/w.heap.size<=k)/\∀k,FL k->¬FR k)
  (hr:∀y∈r,x<y) (hw:∃FL',z4W w2 lf (L++[x]) FL'/\Kp FL w1 w2/\∀k,FL' k->FL k\/w1.heap.size<=k):
  Vs w succ ref lf rn FL0 FR0 s (if sc=1 then sa else sa.map (·.add (1*1))) (sc-1) r ra rc (L++[x]) rs w2:=by
 obtain⟨-,k1,k2,k3,k4,k5,k6,k7,k8,k9,k10⟩:=h
 obtain⟨h1,h2,h3,h4,h5,h6,h7,h8⟩:=he
 obtain⟨FL',g1,g2,g3⟩:=hw
 have hz:=k5.size
 rw[List.length_cons] at k3 k10
 refine⟨⟨FL',FR,fs,g1,h2.kp g2 (λi hi e=>h8 i e hi),h3,h4,h5,λk hk=>?_,h7,λk hk e=>?_⟩,λw2 k=>?_,k2,ω,k4,k5.It g2 (λi hi=>?_),k6.sub (List.sublist_cons_self _ _),k7,?_,?_,?_⟩
 ·rcases g3 k hk with e| e
  ·exact h6 k e
  ·exact .inr ω
 ·rcases g3 k hk with e2|e2
  ·exact h8 k e2 e
  ·have:=h2.lt e;omega
 ·have:=UX (k1 w2 k) (i:=1) (by rw[List.length_cons];omega) (by rw[List.length_cons];omega);exact this
 ·rcases h6 i hi with e| e
  ·exact .inr (.inl e)
  ·exact .inl e
 ·rw[k8,(z4z hr).1,List.append_assoc];rfl
 ·rw[k9,(z4z hr).2]
 ·rw[List.length_append,List.length_singleton];omega
def Vs.zco {s2:List Nat}{sa2:Option Addr}{sc2:Nat}{f:Bool}(h:Vs w succ ref lf rn FL0 FR0 s sa sc (y::r) ra rc L rs w1)(hs:(s2=s/\sa2=sa/\sc2=sc/\f=false/\∀z∈s,y<z)\/(s=y::s2/\sa2=(if sc=1 then sa else sa.map (·.add (1*1)))/\sc2=sc-1/\f=true))
  {FL FR:Nat->Prop} {fs:List Bool} (he:z4W w1 lf L FL/\z3i w1 rn rs FR/\UL rs fs/\fs.length+(y::r).length<=65536/\rs.length+(y::r).length<=65537/\(∀k,FL k->FL0 k\/w.heap.size<=k)/\(∀k,FR k->FR0 k\/w.heap.size<=k)/\∀k,FL k->¬FR k)
  (hw:∃FR',z3i w2 rn (Sb rs f) FR'/\Kp FR w1 w2/\∀k,FR' k->FR k\/w1.heap.size<=k):
  Vs w succ ref lf rn FL0 FR0 s2 sa2 sc2 r (if rc=1 then ra else ra.map (·.add (1*1))) (rc-1) L (Sb rs f) w2:=by
 obtain⟨-,k1,k2,k3,k4,k5,k6,k7,k8,k9,k10⟩:=h
 obtain⟨h1,h2,h3,h4,h5,h6,h7,h8⟩:=he
 rw[List.length_cons] at h4 h5 k4
 obtain⟨FR',g1,g2,g3⟩:=hw
 have hz:=k5.size
 have iy:=z5r rs f
 have IL:∀z∈r,y<z:=(List.pairwise_cons.1 k7.ris).1
 have xd:∃FL FR fs,z4W w2 lf L FL/\z3i w2 rn (Sb rs f) FR/\UL (Sb rs f) fs/\fs.length+r.length<=65536/\(Sb rs f).length+r.length<=65537/\(∀k,FL k->FL0 k\/w.heap.size<=k)/\(∀k,FR k->FR0 k\/w.heap.size<=k)/\∀k,FL k->¬FR k:=by
  refine⟨FL,FR',fs++[f],h1.kp g2 (λi hi e=>h8 i hi e),g1,h3.step f,by rw[List.length_append,List.length_singleton];omega,ω,h6,λk hk=>?_,λk hk e=>?_⟩
  ·rcases g3 k hk with e| e
   ·exact h7 k e
   ·exact .inr ω
  ·rcases g3 k e with e2|e2
   ·exact h8 k hk e2
   ·have:=h1.lt hk;omega
 have ug:Kp (λk=>FL0 k\/FR0 k) w w2:=k5.It g2 (λi hi=>by
  rcases h7 i hi with e| e
  ·exact .inr (.inr e)
  ·exact .inl e)
 have dh:∀w2,Kp (λk=>FL0 k\/FR0 k) w w2->Rd w2 (.slice (if rc=1 then ra else ra.map (·.add (1*1))) r.length (rc-1)) 1 r.length (r.map QJ):=λw2 k=>
  UX (k2 w2 k) (i:=1) (by rw[List.length_cons];omega) (by rw[List.length_cons];omega)
 rcases hs with⟨rfl,rfl,rfl,rfl,hg⟩|⟨rfl,rfl,rfl,rfl⟩
 ·exact⟨xd,k1,dh,k3,ω,ug,k6,k7.sub (List.sublist_cons_self _ _),by rw[k8,(z9C hg).1],by rw[k9,(z9C hg).2],k10⟩
 ·have BV:∀z∈s2,y<z:=(List.pairwise_cons.1 k6.ris).1;rw[List.length_cons] at k3 k10;refine⟨xd,λw2 k=>?_,dh,ω,ω,ug,k6.sub (List.sublist_cons_self _ _),k7.sub (List.sublist_cons_self _ _),by rw[k8,(z8W BV IL).1],by rw[k9,(z8W BV IL).2],ω⟩;exact UX (k1 w2 k) (i:=1) (by rw[List.length_cons];omega) (by rw[List.length_cons];omega)
end
def zdg {w:World}{succ ref:List Nat}{lf rn:Nat}{FL0 FR0:Nat->Prop}{sa ra:Option Addr}{sc rc:Nat}(uh:Vs w succ ref lf rn FL0 FR0 succ sa sc ref ra rc [] [0] w):
  Qu prog 205 [.slice sa succ.length sc,.slice ra ref.length rc,.func (.func 206) #[] #[ptr lf 0,ptr rn 0]] w λu w'=>u= .tuple #[]/\
   ∃FL FR,z4W w' lf (Qw succ ref) FL/\z3i w' rn (Sk succ ref) FR/\(∀k,FL k->FL0 k\/w.heap.size<=k)/\(∀k,FR k->FR0 k\/w.heap.size<=k)/\(∀k,FL k->¬FR k)/\Kp (λk=>FL0 k\/FR0 k) w w':=by
 refine py (e:=[(0,_),(1,_),(2,_)]) func205 O ntmps205 O O$ PS$ SK (α:=List Nat×Option Addr×Nat×List Nat×Option Addr×Nat×List Nat×List Nat) ((succ,sa,sc,ref,ra,rc,[],[0])) (λx=>[(0,.slice x.2.1 x.1.length x.2.2.1),(1,.slice x.2.2.2.2.1 x.2.2.2.1.length x.2.2.2.2.2.1),(2,.func (.func 206) #[] #[ptr lf 0,ptr rn 0])]) (λx w'=>Vs w succ ref lf rn FL0 FR0 x.1 x.2.1 x.2.2.1 x.2.2.2.1 x.2.2.2.2.1 x.2.2.2.2.2.1 x.2.2.2.2.2.2.1 x.2.2.2.2.2.2.2 w') (λx=>x.1.length+x.2.2.2.1.length) ?hI ?hround
 case hI=>exact uh
 case hround=>
  rintro⟨s,sa,sc,r,ra,rc,L,rs⟩ w6 hI ih;dsimp only at hI
  try dsimp only
  have hg:=(Ext.refl w6).drew;have aa:=hg.drew;have cX:=hI.ext aa;have p0:([]:List Nat).length=0:=rfl;have iz:=hI.okS.len;have xZ:=hI.okR.len;rcases s with _|⟨x,s⟩
  ·rcases r with _|⟨y,r⟩
   ·refine QS O$ SR QE O$ RK O$ QW$ Qp O$ SR QE O$ RK O$ QW$ QY O$ PQ$ PZ O$ Q5 O$ Rq func205 O ?_;have sC:=hI.left;have y4:=hI.fold;obtain⟨FL,FR,fs,h1,h2,h3,h4,h5,h6,h7,h8⟩:=hI.ex;rw[sC,y4];exact⟨_,rfl,rfl,FL,FR,by simpa[Qw] using h1,h2,h6,h7,h8,hI.kp⟩
   ·skip
    obtain⟨b2,off2,rfl,nD⟩:=hI.z9R;have p1:0<((y::r:List Nat).length:Int):=by rw[List.length_cons];omega
    have p3:¬(((y::r).length:Int)=0):=by omega
    refine QS O$ SR QE O$ RK O$ QW$ Qp O$ SR QE O$ RK O$ SM$ QY O$ PQ$ Qa O$ PR$ PS$ An ?_;refine S5 (λw'=>Ext w6 w') O$ Qi 0 O O (hg)$ PT 1 O (TP QE O) hg$ PT 2 O (yeq O O) hg$ UQ$ Qi 3 O O (hg)$ Qi 4 O O (hg)$ PT 5 O (TP QE O) hg$ PT 6 O (Zr O O) hg$ UQ$ Qi 7 O O (hg)$ qJ 8 O (hg)$ qJ 9 O (hg)$ qJ 10 O (hg) ?_;refine qJ 11 O (hg)$ qJ 12 O (hg)$ qJ 13 O (hg)$ qJ 14 O (hg)$ PT 15 O (Vt O O) hg$ PT 16 O (Vt O O) hg$ PT 17 O (Sv O) hg$ qE$ An$ S5 (λw'=>Ext w6 w') O$ Qi 0 O O (aa)$ PT 1 O (TP QE O) aa$ PT 2 O (yeq O O) aa$ Vd ?_;refine Qi 3 O O (aa)$ qJ 4 O (aa)$ qJ 5 O (aa)$ qJ 6 O (aa)$ qJ 7 O (aa)$ qJ 8 O (aa)$ qJ 9 O (aa)$ qJ 10 O (aa)$ qJ 11 O (aa)$ qJ 12 O (aa)$ qJ 13 O (aa)$ qJ 14 O (aa)$ qJ 15 O (aa)$ PT 16 O (W2 O O) aa ?_;refine PT 17 O (Sv O) aa$ qE$ QS O$ PQ$ PZ O$ PW O$ Qp O$ qV (Rh QE Ql O O ω)$ qV (QF RQ O O (nD _ cX.kp)) ?_;obtain⟨FL,FR,fs,h1,h2,h3,h4,h5,h6,h7,h8⟩:=cX.ex;refine RB O O (T6 z6g O O) (z0q h2 ω h3.ne (λm hm=>by have:=h3.le m hm;omega) y false) ?_;rintro _ w7 ⟨rfl,qq⟩;refine qM O$ Q4 O$ PQ$ Qa O$ St O$ qV (ZX QE Ql O O (by rw[List.length_cons];omega) hI.clR) ?_;refine Qc O$ PM ?_;exact(ih ([],sa,sc,r,_,rc-1,L,Sb rs false) _ (cX.zco (.inl ⟨rfl,rfl,rfl,rfl,λz hz=>by simp at hz⟩) ⟨h1,h2,h3,h4,h5,h6,h7,h8⟩ qq) (by dsimp only;simp only[List.length_cons,List.length_nil];omega)).qb
  ·rcases r with _|⟨y,r⟩
   ·obtain⟨b,off,rfl,nG⟩:=hI.z9f
    skip
    have p1:0<((x::s:List Nat).length:Int):=by rw[List.length_cons];omega
    have p4:¬(((x::s).length:Int)=0):=by omega
    refine QS O$ SR QE O$ RK O$ SM$ Q4 O$ S6$ qS$ Sa O$ PQ$ Qa O$ PR$ PS$ An$ S5 (λw'=>Ext w6 w') O ?_;refine Qi 0 O O (hg)$ PT 1 O (TP QE O) hg$ PT 2 O (yeq O O) hg$ Vd$ Qi 3 O O (hg)$ qJ 4 O (hg)$ qJ 5 O (hg)$ qJ 6 O (hg)$ qJ 7 O (hg)$ qJ 8 O (hg)$ qJ 9 O (hg)$ qJ 10 O (hg)$ qJ 11 O (hg)$ qJ 12 O (hg) ?_;refine qJ 13 O (hg)$ qJ 14 O (hg)$ qJ 15 O (hg)$ PT 16 O (W2 O O) hg$ PT 17 O (Sv O) hg$ qE$ An$ S5 (λw'=>Ext w6 w') O$ Qi 0 O O (aa)$ PT 1 O (TP QE O) aa$ PT 2 O (yeq O O) aa$ UQ$ Qi 3 O O (aa)$ Qi 4 O O (aa) ?_;refine PT 5 O (TP QE O) aa$ PT 6 O (Zr O O) aa$ UQ$ Qi 7 O O (aa)$ qJ 8 O (aa)$ qJ 9 O (aa)$ qJ 10 O (aa)$ qJ 11 O (aa)$ qJ 12 O (aa)$ qJ 13 O (aa)$ qJ 14 O (aa)$ PT 15 O (Vt O O) aa$ PT 16 O (Vt O O) aa$ PT 17 O (Sv O) aa ?_;refine qE$ QS O$ PQ$ Qa O$ RI O$ qV (Rh QE Ql O O ω)$ qV (QF RQ O O (nG _ cX.kp))$ Q4 O ?_;obtain⟨FL,FR,fs,h1,h2,h3,h4,h5,h6,h7,h8⟩:=cX.ex;have KM:=cX.zh7;refine RB O O (T6 z6g O O) (z3X h1 ω x true) ?_;rintro _ w7 ⟨rfl,qq⟩;refine PQ$ St O$ qV (ZX QE Ql O O (by rw[List.length_cons];omega) hI.clS) ?_;refine RZ O$ Re O$ PM ?_;exact(ih (s,_,sc-1,[],ra,rc,L++[x],rs) _ (cX.zfP ⟨h1,h2,h3,h4,h5,h6,h7,h8⟩ (λz hz=>by simp at hz) qq) (by dsimp only;simp only[List.length_cons,List.length_nil];omega)).qb
   ·rcases Nat.lt_trichotomy x y with dO|dO|dO
    ·obtain⟨b,off,rfl,nG⟩:=hI.z9f;obtain⟨b2,off2,rfl,nD⟩:=hI.z9R;have p1:0<((x::s:List Nat).length:Int):=by rw[List.length_cons];omega
     have p2:0<((y::r).length:Int):=by rw[List.length_cons];omega
     have p3:¬(((y::r).length:Int)=0):=by omega
     have p4:¬(((x::s).length:Int)=0):=by omega
     refine QS O$ SR QE O$ RK O$ SM$ Q4 O$ S6$ qS$ Sa O$ PQ$ Qa O$ PR$ PS$ An$ S5 (λw'=>Ext w6 w') O ?_;refine Qi 0 O O (hg)$ PT 1 O (TP QE O) hg$ PT 2 O (yeq O O) hg$ UQ$ Qi 3 O O (hg)$ Qi 4 O O (hg)$ PT 5 O (TP QE O) hg$ PT 6 O (Zr O O) hg$ Vd$ Qi 7 O O (hg)$ Qi 8 O O (hg)$ PT 9 O (Rh QE Ql O O ω) hg$ Qi 11 O O (hg)$ PT 12 O (Rh QE Ql O O ω) hg ?_;refine qT 10 O (λ_ h=>QF RQ O O (nG _ (hI.kp.trans h.kp))) hg$ qT 13 O (λ_ h=>QF RQ O O (nD _ (hI.kp.trans h.kp))) hg$ PT 14 O (yle O O) hg$ Vd$ PT 15 O (W2 O O) hg$ PT 16 O (Vt O O) hg$ PT 17 O (Sv O) hg$ qE$ An$ S5 (λw'=>Ext w6 w') O$ Qi 0 O O (aa)$ PT 1 O (TP QE O) aa$ PT 2 O (yeq O O) aa$ UQ ?_;refine Qi 3 O O (aa)$ Qi 4 O O (aa)$ PT 5 O (TP QE O) aa$ PT 6 O (Zr O O) aa$ Vd$ Qi 7 O O (aa)$ Qi 8 O O (aa)$ PT 9 O (Rh QE Ql O O ω) aa$ Qi 11 O O (aa)$ PT 12 O (Rh QE Ql O O ω) aa$ qT 10 O (λ_ h=>QF RQ O O (nD _ (hI.kp.trans h.kp))) aa$ qT 13 O (λ_ h=>QF RQ O O (nG _ (hI.kp.trans h.kp))) aa$ PT 14 O (yle O O) aa$ UQ ?_;refine PT 15 O (W2 O O) aa$ PT 16 O (Vt O O) aa$ PT 17 O (Sv O) aa$ qE$ QS O$ PQ$ Qa O$ RI O$ qV (Rh QE Ql O O ω)$ qV (QF RQ O O (nG _ cX.kp))$ Q4 O ?_;obtain⟨FL,FR,fs,h1,h2,h3,h4,h5,h6,h7,h8⟩:=cX.ex;have KM:=cX.zh7;refine RB O O (T6 z6g O O) (z3X h1 ω x true) ?_;rintro _ w7 ⟨rfl,qq⟩;refine PQ$ St O$ qV (ZX QE Ql O O (by rw[List.length_cons];omega) hI.clS) ?_;refine RZ O$ Re O$ PM ?_;exact(ih (s,_,sc-1,y::r,_,rc,L++[x],rs) _ (cX.zfP ⟨h1,h2,h3,h4,h5,h6,h7,h8⟩ (z6e hI.okR.ris dO) qq) (by dsimp only;simp only[List.length_cons,List.length_nil];omega)).qb
    ·obtain⟨b,off,rfl,nG⟩:=hI.z9f;obtain⟨b2,off2,rfl,nD⟩:=hI.z9R;have p1:0<((x::s:List Nat).length:Int):=by rw[List.length_cons];omega
     have p2:0<((y::r).length:Int):=by rw[List.length_cons];omega
     have p3:¬(((y::r).length:Int)=0):=by omega
     have p4:¬(((x::s).length:Int)=0):=by omega
     refine QS O$ SR QE O$ RK O$ SM$ Q4 O$ S6$ qS$ Sa O$ PQ$ Qa O$ PR$ PS$ An$ S5 (λw'=>Ext w6 w') O ?_;refine Qi 0 O O (hg)$ PT 1 O (TP QE O) hg$ PT 2 O (yeq O O) hg$ UQ$ Qi 3 O O (hg)$ Qi 4 O O (hg)$ PT 5 O (TP QE O) hg$ PT 6 O (Zr O O) hg$ Vd$ Qi 7 O O (hg)$ Qi 8 O O (hg)$ PT 9 O (Rh QE Ql O O ω) hg$ Qi 11 O O (hg)$ PT 12 O (Rh QE Ql O O ω) hg ?_;refine qT 10 O (λ_ h=>QF RQ O O (nG _ (hI.kp.trans h.kp))) hg$ qT 13 O (λ_ h=>QF RQ O O (nD _ (hI.kp.trans h.kp))) hg$ PT 14 O (yle O O) hg$ Vd$ PT 15 O (W2 O O) hg$ PT 16 O (Vt O O) hg$ PT 17 O (Sv O) hg$ qE$ An$ S5 (λw'=>Ext w6 w') O$ Qi 0 O O (aa)$ PT 1 O (TP QE O) aa$ PT 2 O (yeq O O) aa$ UQ ?_;refine Qi 3 O O (aa)$ Qi 4 O O (aa)$ PT 5 O (TP QE O) aa$ PT 6 O (Zr O O) aa$ Vd$ Qi 7 O O (aa)$ Qi 8 O O (aa)$ PT 9 O (Rh QE Ql O O ω) aa$ Qi 11 O O (aa)$ PT 12 O (Rh QE Ql O O ω) aa$ qT 10 O (λ_ h=>QF RQ O O (nD _ (hI.kp.trans h.kp))) aa$ qT 13 O (λ_ h=>QF RQ O O (nG _ (hI.kp.trans h.kp))) aa$ PT 14 O (yle O O) aa$ Vd ?_;refine PT 15 O (W2 O O) aa$ PT 16 O (Vt O O) aa$ PT 17 O (Sv O) aa$ qE$ QS O$ PQ$ Qa O$ RI O$ qV (Rh QE Ql O O ω)$ qV (QF RQ O O (nG _ cX.kp))$ Q4 O ?_;obtain⟨FL,FR,fs,h1,h2,h3,h4,h5,h6,h7,h8⟩:=cX.ex;refine RB O O (T6 z6g O O) (z0q h2 ω h3.ne (λm hm=>by have:=h3.le m hm;omega) x true) ?_;rintro _ w7 ⟨rfl,qq⟩;refine PQ$ St O$ qV (ZX QE Ql O O (by rw[List.length_cons];omega) hI.clS) ?_;refine RZ O$ PQ$ Qa O$ St O$ qV (ZX QE Ql O O (by rw[List.length_cons];omega) hI.clR) ?_;refine Qc O$ PM ?_;subst dO;exact(ih (s,_,sc-1,r,_,rc-1,L,Sb rs true) _ (cX.zco (.inr ⟨rfl,rfl,rfl,rfl⟩) ⟨h1,h2,h3,h4,h5,h6,h7,h8⟩ qq) (by dsimp only;simp only[List.length_cons,List.length_nil];omega)).qb
    ·obtain⟨b,off,rfl,nG⟩:=hI.z9f;obtain⟨b2,off2,rfl,nD⟩:=hI.z9R;have p1:0<((x::s:List Nat).length:Int):=by rw[List.length_cons];omega
     have p2:0<((y::r).length:Int):=by rw[List.length_cons];omega
     have p3:¬(((y::r).length:Int)=0):=by omega
     have p4:¬(((x::s).length:Int)=0):=by omega
     refine QS O$ SR QE O$ RK O$ SM$ Q4 O$ S6$ qS$ Sa O$ PQ$ Qa O$ PR$ PS$ An$ S5 (λw'=>Ext w6 w') O ?_;refine Qi 0 O O (hg)$ PT 1 O (TP QE O) hg$ PT 2 O (yeq O O) hg$ UQ$ Qi 3 O O (hg)$ Qi 4 O O (hg)$ PT 5 O (TP QE O) hg$ PT 6 O (Zr O O) hg$ Vd$ Qi 7 O O (hg)$ Qi 8 O O (hg)$ PT 9 O (Rh QE Ql O O ω) hg$ Qi 11 O O (hg)$ PT 12 O (Rh QE Ql O O ω) hg ?_;refine qT 10 O (λ_ h=>QF RQ O O (nG _ (hI.kp.trans h.kp))) hg$ qT 13 O (λ_ h=>QF RQ O O (nD _ (hI.kp.trans h.kp))) hg$ PT 14 O (yle O O) hg$ UQ$ PT 15 O (W2 O O) hg$ PT 16 O (Vt O O) hg$ PT 17 O (Sv O) hg$ qE$ An$ S5 (λw'=>Ext w6 w') O$ Qi 0 O O (aa)$ PT 1 O (TP QE O) aa$ PT 2 O (yeq O O) aa$ UQ ?_;refine Qi 3 O O (aa)$ Qi 4 O O (aa)$ PT 5 O (TP QE O) aa$ PT 6 O (Zr O O) aa$ Vd$ Qi 7 O O (aa)$ Qi 8 O O (aa)$ PT 9 O (Rh QE Ql O O ω) aa$ Qi 11 O O (aa)$ PT 12 O (Rh QE Ql O O ω) aa$ qT 10 O (λ_ h=>QF RQ O O (nD _ (hI.kp.trans h.kp))) aa$ qT 13 O (λ_ h=>QF RQ O O (nG _ (hI.kp.trans h.kp))) aa$ PT 14 O (yle O O) aa$ Vd ?_;refine PT 15 O (W2 O O) aa$ PT 16 O (Vt O O) aa$ PT 17 O (Sv O) aa$ qE$ QS O$ PQ$ PZ O$ PW O$ Qp O$ qV (Rh QE Ql O O ω)$ qV (QF RQ O O (nD _ cX.kp)) ?_;obtain⟨FL,FR,fs,h1,h2,h3,h4,h5,h6,h7,h8⟩:=cX.ex;refine RB O O (T6 z6g O O) (z0q h2 ω h3.ne (λm hm=>by have:=h3.le m hm;omega) y false) ?_;rintro _ w7 ⟨rfl,qq⟩;refine qM O$ Q4 O$ PQ$ Qa O$ St O$ qV (ZX QE Ql O O (by rw[List.length_cons];omega) hI.clR) ?_;refine Qc O$ PM ?_;exact(ih (x::s,_,sc,r,_,rc-1,L,Sb rs false) _ (cX.zco (.inl ⟨rfl,rfl,rfl,rfl,z6e hI.okS.ris dO⟩) ⟨h1,h2,h3,h4,h5,h6,h7,h8⟩ qq) (by dsimp only;simp only[List.length_cons,List.length_nil];omega)).qb
structure TkM (w:World)(t r:Nat)(s:PV)(a:Nat):Prop where
 PN:Q7 w t [ptr r 0,.bool false] 339
 rd:V7 w r s a
 ne:t≠r
def TkM.ext {w w':World}{t r a:Nat}{s:PV}(h:TkM w t r s a)(hx:Ext w w'):TkM w' t r s a:=⟨hx.PN h.PN,⟨hx.PN h.rd.1,h.rd.2⟩,h.ne⟩
def VL {w:World}{t r a:Nat}{s:PV}(h:TkM w t r s a)(c:Cd)(v n:Nat)(hc:c.RE)(hv:v<=c.most)(hn:v<=n)(kj:n<9223372036854775808)(rest:List Bool)(hb:(Qm s).drop a=c.enc v++rest):
  Qu prog 232 [ptr t 0,cdV c,I (n:Int)] w λu w'=>u=I (v:Int)/\TkM w' t r s (a+(c.enc v).length)/\Kp (λk=>k=r) w w':=by
 obtain⟨x,y,dO⟩:∃x y,Ts c=[x,y]:=by cases c<;>exact⟨_,_,rfl⟩
 have sB:cdV c= .agg [x,y].toArray:=by rw[cdV,dO]
 have fF:=c.z1J
 rw[sB]
 refine py (e:=[(0,_),(1,_),(2,_)]) func232 O ntmps232 O O$ qN O$ PY O O (Se O (cs:=[x,y]) O) ?_
 rintro _ w1 ⟨b4,rfl,eM,ad,aM⟩
 have h1:=h.ext ad
 have Dd:¬b4=r:=by have:=h.rd.1.lt;omega
 have hg:=(Ext.refl w1).drew
 refine Qc O$ An$ S5 (λw'=>Kp (λk=>k=r) w1 w') O$ Qi 0 O O (hg.kp)$ PT 1 O (R8 O) (hg.kp)$ PT 2 O (Qz zea O) (hg.kp)$ qT 3 O (λ_ hS=>PX Wx O O (hS.PN h1.PN h.ne) O) (hg.kp)$ qT 4 O (λ_ h=>QB (news:=[x,y]) Tz O RX O ((h.PN aM Dd).cells (n:=2) O) O) (hg.kp) ?_
 rw[<-sB]
 refine T9 5 O zbU O (z0v (⟨hg.PN h1.rd.1,h1.rd.2⟩:V7 _ r s a) c v hc hv rest hb) ?_
 rintro _ w2 ⟨rfl,dc,am⟩
 refine⟨hg.kp.trans am,?_⟩
 have kN:=hg.kp.trans am
 have aw:=kN.PN h1.PN h.ne
 refine Qi 6 O O (hg.kp.trans am)$ PT 7 O (Sz O O) (hg.kp.trans am)$ PT 8 O (Sz O O) (hg.kp.trans am)$ PT 9 O (Sv O) (hg.kp.trans am)$ PT 10 O (Sv O) (hg.kp.trans am)$ qE$ QS O$ RA O$ Qp O$ Q4 O$ qV ((Rp O U3 SL ω))$ RK O$ QW$ QY O ?_
 refine Re O$ Qx O$ qV (QU O SL U3 ω)$ Qc O$ Qy.qb (e:=[(6,_)]) ?_
 refine PO func232 O ?_
 exact⟨_,rfl,rfl,⟨aw,dc,h.ne⟩,ad.kp.trans kN⟩
theorem Rj (q:Cd×Nat)(l:List (Cd×Nat)):Qo (q::l)=q.1.enc q.2++Qo l:=rfl
def Tx {s e rest:List Bool}{a:Nat}(h:s.drop a=e++rest):s.drop (a+e.length)=rest:=by
 rw[<-List.drop_drop,h,List.drop_left]
structure CpI (w:World)(t r:Nat)(s:PV)(rs ref:List Nat)(rest:List Bool)(aE i:Nat)(rs2 ref2:List Nat)(sa:Option Addr)(sc:Nat)(v5:Value)(O_:List Nat)(a:Nat)(w':World):Prop where
 tk:TkM w' t r s a
 kp:Kp (λk=>k=r) w w'
 sl:Sl w' v5 59 1 O_.length (O_.map QJ)
 fr:∀g,v5.ownBlock=some g->w.heap.size<=g
 len:rs.length=i+rs2.length
 rd:∀w2,Kp (λk=>k=r) w w2->Rd w2 (.slice sa ref2.length sc) 1 ref2.length (ref2.map QJ)
 cl:ref2.length<=sc
 sum:rs2.sum<=ref2.length
 pos:∀m∈rs2.drop (1-min i 1),1<=m
 bits:(Qm s).drop a=Qo (Rv i rs2)++rest
 z6z:a+(Qo (Rv i rs2)).length=aE
 eq:copyL true rs ref=O_++copyL (i%2==0) rs2 ref2
 tot:O_.length+ref2.length<=65536
theorem zaz (a:Addr):a.add 0=a:=by
 unfold Addr.add
 split<;>simp_all
def zeK {P:Program}{e:Env}{d:Option Nat}{ty t el:TypeId}{pos:String}{aft:Array Edge}{g:Option (Nat×Bool)}{x u:Operand}{w:World}{z:Value}{size bytes n cap j:Nat}{a:Option Addr}{k:IntKind}{zb:Int}[xO:Us zb j](ht:P.underlying t=some (.slice el))(hs:TI P el z size bytes)(hx:look e x=some (.slice a n cap))
  (hu:look e u=some (.int k zb)) (h:j<=cap):
  Y P e ⟨d,.slice t x none (some u) none,ty,pos,aft,g⟩ (.slice a j cap) w w:=fun ρ hρ=>by
 obtain⟨rfl⟩:=xO
 have cJ:=hs.size (w:=w)
 have h1:∀w,(Instr.sliceBound (.int k (j:Int)) cap .sliceAcap).run P w= .ok j w:=λw=>by rw[run_sliceBound _ _ _ _ _ ω ω];simp
 cases a with
 |none=>simp[execOp,hρ _ _ hx,hρ _ _ hu,Instr.sliceAt,run_underlying ht,Instr.slice,Instr.sliceBounds,h1,cJ]
 |some a=>simp[execOp,hρ _ _ hx,hρ _ _ hu,Instr.sliceAt,run_underlying ht,Instr.slice,Instr.sliceBounds,h1,cJ,zaz]
def z5h {w:World}{t r a:Nat}{s:PV}(h:TkM w t r s a)(hG:Q7 w 1 (Ts .gamma) 294)(dm:¬1=r){sa:Option Addr}{sc:Nat}(ref rs:List Nat)
  (dh:∀w2,Kp (λk=>k=r) w w2->Rd w2 (.slice sa ref.length sc) 1 ref.length (ref.map QJ)) (fk:ref.length<=sc) (xZ:ref.length<=65536) (hn:rs.length<=ref.length+1) (i8:rs.sum<=ref.length)
  (iH:∀m∈rs.drop 1,1<=m) (rest:List Bool) (hb:(Qm s).drop a=Qo ((.gamma,rs.length)::Rv 0 rs)++rest):
  Qu prog 224 [ptr t 0,.slice sa ref.length sc] w λu w'=>Sl w' u 59 1 (copyL true rs ref).length ((copyL true rs ref).map QJ)/\(∀g,u.ownBlock=some g->w.heap.size<=g)/\
   TkM w' t r s (a+(Qo ((.gamma,rs.length)::Rv 0 rs)).length)/\Kp (λk=>k=r) w w':=by
 have kk:∀v:Nat,v<=65537->v<=Cd.most .gamma:=λv hv=>by simp only[Cd.most];omega
 refine py (e:=[(0,_),(1,_)]) func224 O ntmps224 O O$ qN O$ S7 O$ RZ O$ qV (QB (news:=[.int .u8 1,Qg 0]) Tz O RX O (hG.cells (n:=2) O) O)$ Q4 O$ SR QE O ?_
 rw[Rj,List.append_assoc] at hb
 rw[show((ref.length:Nat):Int)=((ref.length:Nat):Int) from rfl]
 refine R7 O$ Qk z3Y O (VL h .gamma rs.length (ref.length+1) trivial (kk _ ω) ω ω _ hb) ?_
 rintro _ w1 ⟨rfl,h1,ay⟩
 have bL:=Tx hb
 refine Qc O$ An$ RI O$ PQ$ PS$ SK (α:=Nat×List Nat×List Nat×Option Addr×Nat×Value×List Nat×Nat) ((0,rs,ref,sa,sc,.slice none 0 0,[],a+(Cd.enc .gamma rs.length).length)) (λx=>[(0,ptr t 0),(1,.slice x.2.2.2.1 x.2.2.1.length x.2.2.2.2.1),(5,x.2.2.2.2.2.1),(6,I (rs.length:Int)),(15,I (rs.length:Int)),(16,I (x.1:Int))]) (λx w'=>CpI w t r s rs ref rest (a+(Qo ((.gamma,rs.length)::Rv 0 rs)).length) x.1 x.2.1 x.2.2.1 x.2.2.2.1 x.2.2.2.2.1 x.2.2.2.2.2.1 x.2.2.2.2.2.2.1 x.2.2.2.2.2.2.2 w') (λx=>x.2.1.length) ?hI ?hround
 case hI=>exact⟨h1,ay,Sl.nil _ _ _,(λg h=>by cases h),ξ,dh,fk,i8,iH,bL,by rw[Rj,List.length_append];dsimp only;omega,rfl,by simp;omega⟩
 case hround =>
  rintro⟨i,rs2,ref2,sa2,sc2,v5,O_,a2⟩ w6 hI ih;dsimp only at hI;have aH:=hI.len;have y5:=hI.tot
  try dsimp only
  refine qN O$ RT O$ PQ$ An$ Q8 O (λh0=>?_)$ λh0=>?_
  ·obtain⟨n,rs2,rfl⟩:∃n l,rs2=n::l:=by
    cases rs2 with
    |nil=>simp at aH;omega
    |cons n l=>exact⟨n,l,rfl⟩
   have BW:=hI.kp.PN hG dm;have i8:=hI.sum;rw[List.sum_cons] at i8;rw[List.length_cons] at aH;have cf:=hI.bits;rw[Rv,Rj,List.append_assoc] at cf
   have dl:min i 1<=n:=by
    have hp:=hI.pos n;rcases Nat.eq_zero_or_pos i with e| e
    ·subst e;simp
    ·rw[show 1-min i 1=0 by omega] at hp;have:=hp List.mem_cons_self;omega
   refine PR$ RP$ Qx O$ RZ O$ qV (QB (news:=[.int .u8 1,Qg 0]) Tz O RX O (BW.cells (n:=2) O) O)$ Q4 O$ SR QE O$ Qk z3Y O (VL hI.tk .gamma (n-min i 1) ref2.length trivial (kk _ ω) ω ω _ cf) ?_;rintro _ w7 ⟨rfl,h7,aA⟩;have eS:=hI.kp.trans aA;have bU:=h7.PN;refine Q4 O$ qV (ymi O O)$ R7 O ?_;rw[show((n-min i 1:Nat):Int)+min (i:Int) 1=(n:Int) by omega];refine Qc O$ QS O$ QA O$ Qd Va O$ qV (PX U4 O O bU O)$ Qp O$ Q4 O$ SR QE O$ RK O$ QW$ QY O$ Re O$ QS O$ qV (YO O O ω ω) ?_;rw[Nat.and_one_is_mod];have De:=hI.rd _ eS;have fw:=Tx cf;have BU:=hI.kp.size;have IM:=aA.size
   have ui:∀g,v5.ownBlock=some g->¬g=r:=λg hg e=>by
    have h1:=hI.fr g hg;have h2:=h.rd.1.lt;omega
   have i6:=hI.sl.kp aA ui
   have eT:∀(v5':Value) (w8:World),Sl w8 v5' 59 1 (O_++if i%2==0 then ref2.take n else []).length ((O_++if i%2==0 then ref2.take n else []).map QJ)->(∀g,v5'.ownBlock=some g->w.heap.size<=g)->Kp (λk=>v5.ownBlock=some k) w7 w8->
     CpI w t r s rs ref rest (a+(Qo ((.gamma,rs.length)::Rv 0 rs)).length) (i+1) rs2 (ref2.drop n) (if sc2=n then sa2 else sa2.map (·.add (n*1))) (sc2-n) v5' (O_++if i%2==0 then ref2.take n else []) (a2+(Cd.enc .gamma (n-min i 1)).length) w8:=by
    intro v5' w8 g1 g2 g3;have lt7:=h7.PN.lt;have lr7:=h7.rd.1.lt;have nQ:=h.PN.lt;have eI:=h.rd.1.lt;have pO:∀x,x<w.heap.size->¬v5.ownBlock=some x:=λx hx e=>by have:=hI.fr x e;omega
    refine⟨⟨g3.PN h7.PN (pO t nQ),⟨g3.PN h7.rd.1 (pO r eI),h7.rd.2⟩,h7.ne⟩,eS.It g3 (λk hk=> .inl (hI.fr k hk)),g1,g2,ω,λw2 k=>?_,by rw[List.length_drop];have:=hI.cl;omega,by rw[List.length_drop];omega,?_,?_,?_,?_,?_⟩
    ·have:=UX (hI.rd w2 k) (i:=n) ω hI.cl;rw[<-List.map_drop] at this;rw[List.length_drop];exact this
    ·intro m hm;refine hI.pos m ?_;rw[show 1-min (i+1) 1=0 by omega,List.drop_zero] at hm;rcases Nat.eq_zero_or_pos i with e| e
     ·subst e;exact hm
     ·rw[show 1-min i 1=0 by omega];exact List.mem_cons_of_mem _ hm
    ·exact fw
    ·have:=hI.z6z;rw[Rv,Rj,List.length_append] at this;dsimp only at this;omega
    ·rw[hI.eq,copyL,List.append_assoc]
     have:((i+1)%2==0)= !(i%2==0):=by
      rcases Nat.mod_two_eq_zero_or_one i with e| e
      ·rw[e,show(i+1)%2=1 by omega];rfl
      ·rw[e,show(i+1)%2=0 by omega];rfl
     rw[this]
    ·rw[List.length_append,List.length_drop];split
     ·rw[List.length_take];omega
     ·simp;omega
   refine Ss O$ PQ$ Q8 O (λe1=>?_)$ λe1=>?_
   ·have e2:(i%2==0)=true:=by simp;omega
    simp only[e2,if_true] at eT;refine PW O$ Qp O$ Q4 O$ qV (zeK QE Ql O O (by have:=hI.cl;omega)) ?_;have KN:=hI.cl;refine PY O O (pap QE Ql O ψ O O i6 (Wp De (i:=n) ω) (by rw[<-List.map_take];exact ZL _) ω (by simp only[maxLen];omega)) ?_;rintro v5' w8 ⟨dQ,aK,lY,-⟩;have nF:=dQ.oneV;refine Qc O$ PW O$ Qp O$ qV (ZX QE Ql O O ω hI.cl)$ Qc O$ PM$ PW O$ R7 O$ Q4 O$ PQ ?_;rw[show ref2.length-n=(ref2.drop n).length by rw[List.length_drop]];refine(ih (i+1,rs2,ref2.drop n,_,sc2-n,v5',O_++ref2.take n,_) _ (eT v5' _ ?_ ?_ aK) (by dsimp only;simp)).qb
    ·rw[List.length_append,List.map_append,List.length_take,Nat.min_eq_left ω,List.map_take];exact dQ
    ·intro g hg;rcases lY g hg with e| e
     ·exact hI.fr g e
     ·omega
   ·have e2:(i%2==0)=false:=by simp;omega
    simp only[e2,Bool.false_eq_true,if_false,List.append_nil] at eT;refine PR$ PW O$ Qp O$ qV (ZX QE Ql O O ω hI.cl)$ Qc O$ PM$ PW O$ R7 O$ Q4 O$ PQ ?_;rw[show ref2.length-n=(ref2.drop n).length by rw[List.length_drop]];exact(ih (i+1,rs2,ref2.drop n,_,sc2-n,v5,O_,_) _ (eT v5 _ i6 hI.fr (Kp.refl _ _)) (by dsimp only;simp)).qb
  ·have fj:rs2=[]:=List.eq_nil_of_length_eq_zero ω;subst fj;have OM:rs.length=i:=by rw[aH];simp
   have kO:=hI.z6z;have eu:=hI.eq;rw[copyL] at eu;rw[show(Qo (Rv i [])).length=0 from rfl,Nat.add_zero] at kO;refine Q5 O$ QS O$ qV (YO O O ω ω) ?_;rw[Nat.and_one_is_mod];refine Ss O$ PQ$ Q8 O (λe1=>?_)$ λe1=>?_
   ·rw[if_pos (by simp;omega)] at eu;refine PW O$ Qp O$ PY O O (pap QE Ql O ψ O O hI.sl (hI.rd _ hI.kp) (ZL _) ω (by simp only[maxLen];omega)) ?_;rintro v5' w8 ⟨dQ,aK,lY,-⟩;have nF:=dQ.oneV;refine RZ O$ Qc O$ PO func224 O ?_;rw[eu,<-kO];have BU:=hI.kp.size;have pO:∀x,x<w.heap.size->¬v5.ownBlock=some x:=λx hx e=>by have:=hI.fr x e;omega
    refine⟨_,rfl,?_,λg hg=>?_,⟨aK.PN hI.tk.PN (pO t h.PN.lt),⟨aK.PN hI.tk.rd.1 (pO r h.rd.1.lt),hI.tk.rd.2⟩,hI.tk.ne⟩,hI.kp.It aK (λk hk=> .inl (hI.fr k hk))⟩
    ·rw[List.length_append,List.map_append];exact dQ
    ·rcases lY g hg with e| e
     ·exact hI.fr g e
     ·omega
   ·rw[if_neg (by simp;omega),List.append_nil] at eu;refine PR$ Qx O$ Qc O$ PO func224 O ?_;rw[eu,<-kO];exact⟨_,rfl,hI.sl,hI.fr,hI.tk,hI.kp⟩
structure ReI (w w1:World)(t r:Nat)(s:PV)(l:List Nat)(x k:Nat)(rest:List Bool)(aE b7:Nat)(dn l2:List Nat)(v9:Value)(a:Nat)(w':World):Prop where
 tk:TkM w' t r s a
 kp:Kp (λk=>k=t\/k=r) w w'
 b7:Q7 w' b7 (Ts (.zeta k)) 294
 sl:Sl w' v9 59 1 dn.length (dn.map QJ)
 fr:∀g,v9.ownBlock=some g->w1.heap.size<=g
 eq:l=dn++l2
 bits:(Qm s).drop a=Qo (QX x k dn.getLast? l2)++rest
 z6z:a+(Qo (QX x k dn.getLast? l2)).length=aE
 siz:w1.heap.size<=w'.heap.size
def z8h {w:World}{t r a:Nat}{s:PV}(h:TkM w t r s a)(x k:Nat)(hx:x<65536)(hk:1<=k/\k<=16)(l:List Nat)(hl:QP l)(rest:List Bool)(hb:(Qm s).drop a=Qo (QX x k none l)++rest):
  Qu prog 226 [ptr t 0,I (x:Int),I (l.length:Int),cdV (.zeta k)] w λu w'=>Sl w' u 59 1 l.length (l.map QJ)/\(∀g,u.ownBlock=some g->w.heap.size<=g)/\
   TkM w' t r s (a+(Qo (QX x k none l)).length)/\Kp (λk=>k=t\/k=r) w w':=by
 have aH:=hl.len
 have lt0:=h.PN.lt
 have lr0:=h.rd.1.lt
 refine py (e:=[(0,_),(1,_),(2,_),(3,_)]) func226 O ntmps226 O O$ qN O$ PY O O (Se O (cs:=Ts (.zeta k)) O) ?_
 rintro _ w1 ⟨b7,rfl,mH,ad,bU⟩
 have h1:=h.ext ad
 have z1:=ad.size
 have IN:=bU.lt
 refine S7 O$ Qc O$ An$ RI O$ PQ$ PS$ SK (α:=List Nat×List Nat×Value×Nat) (([],l,.slice none 0 0,a)) (λy=>[(0,ptr t 0),(1,I (x:Int)),(7,ptr b7 0),(9,y.2.2.1),(12,I (l.length:Int)),(13,I (y.1.length:Int))]) (λy w'=>ReI w w1 t r s l x k rest (a+(Qo (QX x k none l)).length) b7 y.1 y.2.1 y.2.2.1 y.2.2.2 w') (λy=>y.2.1.length) ?hI ?hround
 case hI=>exact⟨h1,ad.kp,bU,Sl.nil _ _ _,(λg h=>by cases h),rfl,hb,rfl,Nat.le_refl _⟩
 case hround =>
  rintro⟨dn,l2,v9,a2⟩ w6 hI ih;dsimp only at hI;have eu:=hI.eq;have fu:l.length=dn.length+l2.length:=by rw[eu,List.length_append]
  try dsimp only
  refine qN O$ RT O$ PQ$ An$ Q8 O (λh0=>?_)$ λh0=>?_
  ·obtain⟨y,l2,rfl⟩:∃y q,l2=y::q:=by
    cases l2 with
    |nil=>simp at fu;omega
    |cons y q=>exact⟨y,q,rfl⟩
   rw[List.length_cons] at fu;have IP:y<65536:=hl.lt y (by rw[eu];simp);have aY:=hI.b7;have cf:=hI.bits;have kO:=hI.z6z
   have key:∃v:Nat,QX x k dn.getLast? (y::l2)=(.zeta k,v)::QX x k (dn++[y]).getLast? l2/\v<=262144/\(dn=[]->v=zig ((y:Int)-x))/\∀u q,dn=q++[u]->v+(u+1)=y:=by
    rw[List.getLast?_append,show [y].getLast? =some y from rfl,Option.some_or];rcases List.eq_nil_or_concat dn with rfl|⟨q,u,rfl⟩
    ·refine⟨_,rfl,?_,λ_=>rfl,λu q e=>by simp at e⟩;have:=z0u (z:=(y:Int)-x) (n:=65536) ω ω;omega
    ·have hu:u<y:=by
      have hr:=hl.ris;rw[eu] at hr;exact(List.pairwise_append.1 hr).2.2 u ξ y ξ
     refine⟨y-u-1,?_,ω,λe=>by simp at e,λu2 q2 e=>?_⟩
     ·have e1:(q.concat u).getLast? =some u:=by simp
      rw[e1];rfl
     ·have e2:q++[u]=q2++[u2]:=by simpa using e
      have:=(List.append_inj' e2 O).2;simp at this;omega
   obtain⟨v,fO,nH,KO,qr⟩:=key;rw[fO,Rj,List.append_assoc] at cf;rw[fO,Rj,List.length_append] at kO;refine PR$ RP$ Qx O$ RZ O$ qV (QB (news:=Ts (.zeta k)) Tz O RX O (aY.cells (n:=2) O) O)$ Qk z3Y O (VL hI.tk (.zeta k) v 262144 hk (by simp only[Cd.most];omega) nH ω _ cf) ?_;rintro _ w7 ⟨rfl,h7,aA⟩;have eS:Kp (λk=>k=t\/k=r) w w7:=hI.kp.trans (aA.PU λk e=> .inr e);have fw:=Tx cf;have i6:=hI.sl.kp aA (λg hg e=>by have:=hI.fr g hg;omega);have Df:=aA.PN aY ω;have IM:=hI.siz;have BU:=aA.size;refine Qc O$ QS O$ Ss O$ PQ$ QH (λe' w'=>w'=w7/\e'=[(0,ptr t 0),(1,I (x:Int)),(7,ptr b7 0),(9,v9),(11,I (y:Int)),(12,I (l.length:Int)),(13,I (dn.length:Int))]) ?nT$ λnT=>?nU
   case nT=>
    rintro e' w7 ⟨rfl,rfl⟩;have ki:=h7.PN;refine An$ RI O$ QA O$ Qd Va O$ qV (PX U4 O O ki O)$ Qp O$ Qk z9l O (WW y IP _) ?_;rintro _ w8 ⟨rfl,rfl⟩;refine qV ((T7 O))$ QY O$ QA O$ Qd Va O$ Qb O (RV VK O O O ki ξ) ?_;rintro w8 ⟨co,aK⟩;replace co:Q7 w8 t [ptr r 0,.bool false] 339:=co;refine qM O$ Q4 O$ QA O$ Qd Va O$ qV (PX U4 O O co O)$ Re O$ PW O$ Qp O$ qV (z3H O U3 RQ) ?_;rw[Nat.mod_eq_of_lt (show y<4294967296 by omega)];refine PY O O (Zh (cs:=[_]) (zs:=[Value.int .u32 0]) QE Ql O (by kernel_rfl) O O O ψ) ?_;rintro _ w9 ⟨b9,rfl,⟨jg,fN,cF⟩,kl⟩;have pO:∀g,v9.ownBlock=some g->¬g=t:=λg hg e=>by have:=hI.fr g hg;omega
    have m7:∀g,v9.ownBlock=some g->¬g=r:=λg hg e=>by have:=hI.fr g hg;omega
    have IQ:=aK.size;have IR:=fN.size;refine PY O O (pap QE Ql O ψ O O ((i6.kp aK pO).ext fN) kl.rd (by intro c hc;simp at hc;subst hc;rfl) ω (by simp only[maxLen];omega)) ?_;rintro v10 w10 ⟨cw,aB,Dg,-⟩;have nF:=cw.oneV;refine Qc O$ PM$ PW O$ R7 O$ Q4 O$ PQ ?_;have uj:∀g,g<w1.heap.size->¬v9.ownBlock=some g:=λg hg e=>by have:=hI.fr g e;omega
    rw[show(dn.length:Int)+1=((dn++[y]).length:Int) by simp];refine(ih (dn++[y],l2,v10,a2+(Cd.enc (.zeta k) v).length) _ ⟨⟨aB.PN (fN.PN co) (uj t ω),⟨aB.PN (fN.PN (aK.PN h7.rd.1 (λe=>h7.ne e.symm))) (uj r ω),h7.rd.2⟩,h7.ne⟩,?_,?_,?_,?_,?_,fw,?_,?_⟩ (by dsimp only;simp)).qb
    ·exact((eS.trans (aK.PU λk e=> .inl e)).trans fN.kp).It aB (λg hg=> .inl (by have:=hI.fr g hg;omega))
    ·exact aB.PN (fN.PN (aK.PN Df ω)) (uj b7 ω)
    ·rw[List.length_append,List.map_append];exact cw
    ·intro g hg;rcases Dg g hg with e| e
     ·exact hI.fr g e
     ·omega
    ·rw[eu,List.append_assoc];rfl
    ·dsimp only at kO⊢;omega
    ·have:=aB.size;omega
   case nU=>
    refine Q8 O (λe1=>?_)$ λe1=>?_
    ·have fj:dn=[]:=List.eq_nil_of_length_eq_zero ω;refine St O$ qV (Rp O U3 SL ω)$ Qk zfw O (z92 v ω _) ?_;rintro _ w8 ⟨rfl,rfl⟩;rw[KO fj,z9B];refine Q4 O$ R7 O ?_;rw[show(y:Int)-x+x=(y:Int) by omega];refine Qc O ?_;exact(nT _ _ ⟨rfl,rfl⟩).qb
    ·obtain⟨q,u,rfl⟩:∃q u,dn=q++[u]:=by
      rcases List.eq_nil_or_concat dn with rfl|⟨q,u,rfl⟩
      ·exact absurd O e1
      ·exact⟨q,u,ξ⟩
     have IS:=qr u q O;have u5:(q++[u]).length=q.length+1:=by simp
     rw[u5] at i6;rcases i6.shape with⟨-,h0⟩|⟨g,c1,rfl,gS⟩
     ·omega
     refine PW O$ Qp O$ Q4 O$ SA O ?_;rw[show(((q++[u]).length:Nat):Int)-1=(q.length:Int) by simp];refine qV (Rh QE Ql O O ω)$ qV (QF RQ O O (Rf i6.rd (show((q++[u]).map QJ)[q.length]? =some (QJ u) by simp))) ?_;refine qV (QU O RQ U3 ω)$ R7 O$ R7 O ?_;rw[show(v:Int)+((u:Int)+1)=(y:Int) by omega];refine Qc O ?_;exact(nT _ _ ⟨rfl,rfl⟩).qb
  ·have fj:l2=[]:=List.eq_nil_of_length_eq_zero ω;subst fj;refine Q5 O$ Qx O$ Qc O$ PO func226 O ?_;rw[List.append_nil] at eu;subst eu;have kO:=hI.z6z;rw[show(Qo (QX x k l.getLast? [])).length=0 by cases l.getLast?<;>rfl,Nat.add_zero] at kO;rw[<-kO];exact⟨_,rfl,hI.sl,λg hg=>by have:=hI.fr g hg;omega,hI.tk,hI.kp⟩
section
variable {P:Program}{b:Frame}{a:Act}{k:List Item}{cs:List Frame}{w:World}{C:Cx}{e:Env}
def z6h {c:Code}:step P (lone (b.atR a (.code (.scope c)::k)) cs w)= .next (lone (b.atR a (.code c:: .inScope c::k)) cs w):=
 step_lone_go (by simp[stepG,stepG.exec,Frame.atR])
theorem zb8 {c:Code}(h:Qy C (.code c:: .inScope c::k) e w):Qy C (.code (.scope c)::k) e w:=λa ha=>XL.step (λ_ _=>z6h) (h a ha)
end
def loE:Option Nat->Nat
 |none=>0
 |some z=>z+2
def z77:Option Nat->Int
 |none=>-1
 |some z=>(z:Int)
def VS (x:Nat):Option Nat->Nat->Nat
 |none,y=>zig ((y:Int)-x)
 |some e,y=>y-e-2
theorem SV (x least:Nat)(e:Option Nat)(p:Nat×Nat)(R:List (Nat×Nat)):QV x least e (p::R)=(.gamma,VS x e p.1)::(.gamma,p.2-least)::QV x least (some (p.1+p.2-1)) R:=by
 cases e<;>rfl
structure LoI (w:World)(t r:Nat)(s:PV)(R:List (Nat×Nat))(x least left:Nat)(rest:List Bool)(aE:Nat)(i:Nat)(R2:List (Nat×Nat))(e:Option Nat)(O_:List Nat)(v9:Value)(a:Nat)(w':World):Prop where
 tk:TkM w' t r s a
 kp:Kp (λk=>k=t\/k=r) w w'
 sl:Sl w' v9 59 1 O_.length (O_.map QJ)
 fr:∀g,v9.ownBlock=some g->w.heap.size<=g
 len:R.length=i+R2.length
 eq:S0 R=O_++S0 R2
 ok:Uc least (loE e) R2
 hi:∀p∈R2,p.1+p.2<=65536
 tot:O_.length+(S0 R2).length<=left
 bits:(Qm s).drop a=Qo (QV x least e R2)++rest
 z6z:a+(Qo (QV x least e R2)).length=aE
 eb:z77 e<65536
def zaM {w:World}{t r a:Nat}{s:PV}(h:TkM w t r s a)(hG:Q7 w 1 (Ts .gamma) 294)(dm:¬1=r)(o2:¬1=t)(x left least:Nat)(hx:x<65536)(sC:left<=65536)(Dh:least<=64)(R:List (Nat×Nat))(hR:Uc least 0 R)(KP:∀p∈R,p.1+p.2<=65536)
  (y5:(S0 R).length<=left) (KQ:R.length<=left) (rest:List Bool) (hb:(Qm s).drop a=Qo ((.gamma,R.length)::QV x least none R)++rest):
  Qu prog 225 [ptr t 0,I (x:Int),I (left:Int),I (least:Int)] w λu w'=>Sl w' u 59 1 (S0 R).length ((S0 R).map QJ)/\(∀g,u.ownBlock=some g->w.heap.size<=g)/\
   TkM w' t r s (a+(Qo ((.gamma,R.length)::QV x least none R)).length)/\Kp (λk=>k=t\/k=r) w w':=by
 have kk:∀v:Nat,v<=262144->v<=Cd.most .gamma:=λv hv=>by simp only[Cd.most];omega
 have lt0:=h.PN.lt
 have lr0:=h.rd.1.lt
 refine py (e:=[(0,_),(1,_),(2,_),(3,_)]) func225 O ntmps225 O O$ RN O$ zb8$ qN O$ S7 O$ Qc O$ An$ zaZ$ QS O$ qV (QB (news:=[.int .u8 1,Qg 0]) Tz O RX O (hG.cells (n:=2) O) O) ?_
 rw[Rj,List.append_assoc] at hb
 refine Q4 O$ Qk z3Y O (VL h .gamma R.length left trivial (kk _ ω) KQ ω _ hb) ?_
 rintro _ w1 ⟨rfl,h1,ay⟩
 have bL:=Tx hb
 refine Q4 O$ PQ$ PS$ SK (α:=Nat×List (Nat×Nat)×Option Nat×List Nat×Value×Nat) ((0,R,none,[],.slice none 0 0,a+(Cd.enc .gamma R.length).length)) (λy=>[(0,ptr t 0),(1,I (x:Int)),(2,I (left:Int)),(3,I (least:Int)),(9,y.2.2.2.2.1),(10,I (z77 y.2.2.1)),(17,I (R.length:Int)),(18,I (y.1:Int))]) (λy w'=>LoI w t r s R x least left rest (a+(Qo ((.gamma,R.length)::QV x least none R)).length) y.1 y.2.1 y.2.2.1 y.2.2.2.1 y.2.2.2.2.1 y.2.2.2.2.2 w') (λy=>y.2.1.length) ?hI ?hround
 case hI=>exact⟨h1,ay.PU λk e=> .inr e,Sl.nil _ _ _,(λg h=>by cases h),ξ,rfl,hR,KP,by simpa using y5,bL,by rw[Rj,List.length_append];dsimp only;omega,(show(-1:Int)<65536 by decide)⟩
 case hround =>
  rintro⟨i,R2,e,O_,v9,a2⟩ w6 hI ih;dsimp only at hI;have aH:=hI.len
  try dsimp only
  refine qN O$ RT O$ PQ$ An$ Q8 O (λh0=>?_)$ λh0=>?_
  ·obtain⟨⟨p1,p2⟩,R2,rfl⟩:∃p q,R2=p::q:=by
    cases R2 with
    |nil=>simp at aH;omega
    |cons p q=>exact⟨p,q,rfl⟩
   rw[List.length_cons] at aH;obtain⟨ok1,ok2,ok3,ok4⟩:loE e<=p1/\1<=p2/\least<=p2/\Uc least (p1+p2+1) R2:=hI.ok;have ON:p1+p2<=65536:=hI.hi (p1,p2) List.mem_cons_self;have iy:S0 ((p1,p2)::R2)=(List.range p2).map (p1+·)++S0 R2:=rfl;have sD:=hI.tot;have y6:=hI.eq;rw[iy] at sD y6;rw[List.length_append,List.length_map,List.length_range] at sD;have cf:=hI.bits;have kO:=hI.z6z;rw[SV,Rj,Rj,List.append_assoc,List.append_assoc] at cf;rw[SV,Rj,Rj,List.length_append,List.length_append] at kO;have Di:=hI.eb
   have fO:VS x e p1<=262144:=by
    cases e with
    |none=>have:=z0u (z:=(p1:Int)-x) (n:=65537) ω ω;show zig _<=_;omega
    |some z=>show p1-z-2<=_;omega
   have kP:∀k,(λk=>k=t\/k=r) k->k<w.heap.size:=λk hk=>by rcases hk with e|e<;>omega
   have BW:=hI.kp.PN hG (λe=>by rcases e with e|e;exact o2 e;exact dm e);refine PR$ RP$ Qx O$ qV (QB (news:=[.int .u8 1,Qg 0]) Tz O RX O (BW.cells (n:=2) O) O)$ Qk z3Y O (VL hI.tk .gamma (VS x e p1) 262144 trivial (kk _ fO) fO ω _ cf) ?_;rintro _ w7 ⟨rfl,h7,aA⟩;have fw:=Tx cf;have IM:=hI.kp.size;have BU:=aA.size;have IT:∀g,v9.ownBlock=some g->¬g=r:=λg hg e=>by have:=hI.fr g hg;omega
   have i6:=hI.sl.kp aA IT;have eS:Kp (λk=>k=t\/k=r) w w7:=hI.kp.trans (aA.PU λk e=> .inr e);refine Qc O$ QS O$ RT O$ PQ$ QH (λe' w'=>w'=w7/\e'=[(0,ptr t 0),(1,I (x:Int)),(2,I (left:Int)),(3,I (least:Int)),(9,v9),(11,I (p1:Int)),(17,I (R.length:Int)),(18,I (i:Int))]) ?nT$ λnT=>?nU
   case nT =>
    rintro e' w7 ⟨rfl,rfl⟩;have KR:=aA.PN BW dm;refine Qx O$ qV (QB (news:=[.int .u8 1,Qg 0]) Tz O RX O (KR.cells (n:=2) O) O)$ Q4 O$ Qk z3Y O (VL h7 .gamma (p2-least) left trivial (kk _ ω) ω ω _ fw) ?_;rintro _ w8 ⟨rfl,h8,aK⟩;have uk:=Tx fw;have IQ:=aK.size;have dQ:=i6.kp aK IT;have qs:Kp (λk=>k=t\/k=r) w w8:=eS.trans (aK.PU λk e=> .inr e);obtain⟨va,vc,rfl,-⟩:=hI.sl.rd.shape;refine Q4 O$ R7 O ?_;rw[show((p2-least:Nat):Int)+(least:Int)=(p2:Int) by omega];have co:=h8.PN;refine Qc O$ An$ RI O$ QA O$ Qd Va O$ qV (PX U4 O O co O)$ Qp O$ RT O$ QW$ QY O$ Qp O$ Q4 O$ R7 O$ RK O ?_;refine QW$ QY O$ Qp O$ Qp O$ SR QE O$ SA O$ RK O$ QW$ QY O$ QA O$ Qd Va O$ Qb O (RV VK O O O co ξ) ?_;rintro w9 ⟨cF,ax⟩;replace cF:Q7 w9 t [ptr r 0,.bool false] 339:=cF;refine qM O$ Q4 O$ QA O$ Qd Va O$ qV (PX U4 O O cF O) ?_;have IR:=ax.size;have kl:=dQ.kp ax (λg hg e=>by have:=hI.fr g hg;omega);have h9:TkM w9 t r s (a2+(Cd.enc .gamma (VS x e p1)).length+(Cd.enc .gamma (p2-least)).length):=⟨cF,⟨ax.PN h8.rd.1 (λe=>h8.ne e.symm),h8.rd.2⟩,h8.ne⟩;have ul:Kp (λk=>k=t\/k=r) w w9:=qs.trans (ax.PU λk e=> .inl e);refine Re O$ An$ RI O$ PQ$ PS$ SK (α:=Nat×Value) ((0,.slice va O_.length vc)) (λy=>[(0,ptr t 0),(1,I (x:Int)),(2,I (left:Int)),(3,I (least:Int)),(9,y.2),(11,I (p1:Int)),(12,I (p2:Int)),(17,I (R.length:Int)),(18,I (i:Int)),(69,I (p2:Int)),(70,I (y.1:Int))]) (λy w'=>TkM w' t r s (a2+(Cd.enc .gamma (VS x e p1)).length+(Cd.enc .gamma (p2-least)).length)/\Kp (λk=>k=t\/k=r) w w'/\Sl w' y.2 59 1 (O_.length+y.1) ((O_++(List.range y.1).map (p1+·)).map QJ)/\(∀g,y.2.ownBlock=some g->w.heap.size<=g)/\y.1<=p2) (λy=>p2-y.1) ?hI ?hround
    case hI=>exact⟨h9,ul,by simpa using kl,hI.fr,Nat.zero_le _⟩
    case hround=>
     rintro⟨j,v⟩ w10 ⟨eL,aB,cw,cy,hj⟩ ih2;dsimp only at eL aB cw cy hj
     try dsimp only
     refine qN O$ RT O$ PQ$ An$ Q8 O (λm8=>?_)$ λm8=>?_
     ·refine PR$ RP$ Qx O$ Qc O$ PW O$ Qp O$ Q4 O$ R7 O$ qV (z3H O U3 RQ) ?_;rw[show(p1+j)%4294967296=p1+j by omega];refine PY O O (Zh (cs:=[_]) (zs:=[Value.int .u32 0]) QE Ql O (by kernel_rfl) O O O ψ) ?_;rintro _ w11 ⟨b11,rfl,⟨jw,bc,bj⟩,um⟩;have KS:=aB.size;have KT:=bc.size;refine PY O O (pap QE Ql O ψ O O (cw.ext bc) um.rd (by intro c hc;simp at hc;subst hc;rfl) ω (by simp only[maxLen];omega)) ?_;rintro v12 w12 ⟨kP,bA,Dj,-⟩;have nF:=kP.oneV;refine Qc O$ PM$ PW O$ R7 O$ Q4 O$ PQ ?_;have y7:∀g,g<w.heap.size->¬v.ownBlock=some g:=λg hg e=>by have:=cy g e;omega
      refine(ih2 (j+1,v12) _ ⟨⟨bA.PN (bc.PN eL.PN) (y7 t lt0),⟨bA.PN (bc.PN eL.rd.1) (y7 r lr0),eL.rd.2⟩,eL.ne⟩,(aB.trans bc.kp).It bA (λg hg=> .inl (cy g hg)),?_,λg hg=>?_,ω⟩ (by dsimp only;omega)).qb
      ·have e1:(O_++(List.range (j+1)).map (p1+·)).map QJ=(O_++(List.range j).map (p1+·)).map QJ++[QJ (p1+j)]:=by
        rw[List.range_succ];simp
       dsimp only;rw[e1];exact kP
      ·rcases Dj g hg with e| e
       ·exact cy g e
       ·omega
     ·have KU:j=p2:=by omega
      subst KU;refine Q5 O$ PW O$ Qp O$ R7 O$ SA O$ Qc O$ PM$ PW O$ R7 O$ Q4 O$ PQ ?_;rw[show(p1:Int)+j-1=z77 (some (p1+j-1)) by show _=((p1+j-1:Nat):Int);omega,show(i:Int)+1=((i+1:Nat):Int) by omega];refine(ih (i+1,R2,some (p1+j-1),O_++(List.range j).map (p1+·),v,_) _ ⟨eL,aB,?_,cy,by dsimp only;omega,by rw[y6,List.append_assoc],?_,λp hp=>hI.hi p (List.mem_cons_of_mem _ hp),?_,uk,?_,?_⟩ (by dsimp only;simp)).qb
      ·dsimp only;rw[List.length_append,List.length_map,List.length_range];exact cw
      ·refine ok4.mono ?_;show p1+j-1+2<=_;omega
      ·dsimp only;rw[List.length_append,List.length_map,List.length_range];omega
      ·dsimp only at kO⊢;omega
      ·show((p1+j-1:Nat):Int)<65536;omega
   case nU=>
    cases e with
    | none =>
      refine Q8 O (λe1=>?_)$ λe1=>?_
      ·refine St O$ qV (Rp O U3 SL ω)$ Qk zfw O (z92 _ ω _) ?_;rintro _ w8 ⟨rfl,rfl⟩;rw[show VS x none p1=zig ((p1:Int)-x) from rfl,z9B];refine Q4 O$ R7 O ?_;rw[show(p1:Int)-x+x=(p1:Int) by omega];refine Qc O ?_;exact(nT _ _ ⟨rfl,rfl⟩).qb
      ·exact absurd ψ e1
    | some z =>
      refine Q8 O (λe1=>?_)$ λe1=>?_
      ·exact absurd e1 (by show ¬((z:Int)<0);omega)
      ·have hz:z+2<=p1:=ok1;refine PW O$ Qp O ?_;rw[show z77 (some z)=(z:Int) from rfl];refine R7 O$ R7 O ?_;rw[show VS x (some z) p1=p1-z-2 from rfl,show((p1-z-2:Nat):Int)+((z:Int)+2)=(p1:Int) by omega];refine Qc O ?_;exact(nT _ _ ⟨rfl,rfl⟩).qb
  ·have fj:R2=[]:=List.eq_nil_of_length_eq_zero ω;subst fj;refine Q5 O$ Qx O$ Qc O$ PO func225 O ?_;have eu:=hI.eq;rw[show S0 []=[] from rfl,List.append_nil] at eu;have kO:=hI.z6z;rw[show(Qo (QV x least e [])).length=0 by cases e<;>rfl,Nat.add_zero] at kO;rw[eu,<-kO];exact⟨_,rfl,hI.sl,hI.fr,hI.tk,hI.kp⟩
def RF (p:Th)(n r:Nat):List (Cd×Nat):=(.gamma,n)::if n=0 then [] else if 0<p.Qq then [(.unary,r)] else []
def z3y {w:World}{r a:Nat}{s:PV}(h:V7 w r s a)(p:Th)(hp:p.RE)(hG:Q7 w 1 (Ts .gamma) 294)(hU:Q7 w 2 (Ts .unary) 294)(dm:¬1=r)(dv:¬2=r)(n q:Nat)(hn:n<=65536)(hq:q<=p.Qq)
  (o3:n=0->q=0) (rest:List Bool) (hb:(Qm s).drop a=Qo (RF p n q)++rest):
  Qu prog 213 [ptr r 0,lpV p] w λu w'=>u= .tuple #[.agg #[I (n:Int),I (q:Int)],I 0]/\V7 w' r s (a+(Qo (RF p n q)).length)/\Kp (λk=>k=r) w w':=by
 obtain⟨g1,g2,g3,g4⟩:=id hp
 have lr0:=h.1.lt
 have o4:p.Qq=0->q=0:=λe=>by omega
 unfold RF at hb⊢
 rw[Rj,List.append_assoc] at hb
 refine py (e:=[(0,_),(1,_)]) func213 O ntmps213 O O$ qN O$ PY O O (Se O (cs:=lpC p) O) ?_
 rintro _ w1 ⟨b3,rfl,dP,ad,aw⟩
 refine PY O O (SE (cs:=[_,_]) Tv O) ?_
 rintro _ w2 ⟨b4,rfl,eM,ae,aM⟩
 have z1:=ad.size
 have z2:=ae.size
 have dx:=ae.PN aw
 refine Qc O$ RP$ Qx O$ qV (R9 Wx O O)$ Qc O$ PZ O$ qN O$ qV (QB (news:=lpC p) z0J O Vu O (dx.cells (n:=3) O) O)$ Qk z5W O (Vj p hp w2) ?_
 rintro _ w3 ⟨rfl,ah⟩
 refine RA O$ TN O ?_
 have ct:=(ad.trans ae).trans ah
 have h3:V7 w3 r s a:=⟨ct.PN h.1,h.2⟩
 refine Re O$ PM$ Qx O$ Qk ZW O (Vw h3) ?_
 rintro _ w4 ⟨rfl,rfl⟩
 refine RZ O$ qV (QB (news:=[.int .u8 1,Qg 0]) Tz O RX O ((ct.PN hG).cells (n:=2) O) O)$ Qk zbU O (z0v h3 .gamma n trivial (by simp only[Cd.most];omega) _ hb) ?_
 rintro _ w5 ⟨rfl,h5,aj⟩
 have gm:=Tx hb
 have cY:=aj.PN (ah.PN dx) ω
 have aO:=aj.PN (ah.PN aM) ω
 have cO:Kp (λk=>k=r) w w5:=ct.kp.trans aj
 replace cY:Q7 w5 b3 [I (p.Qq:Int),I (p.interval:Int),I (p.zeta:Int)] 260:=cY
 refine Q4 O$ TK O$ TN O$ S7 O$ Qc O$ QS O$ Ss O$ Q4 O ?_
 rcases Nat.eq_zero_or_pos n with e0|e0
 ·have un:=o3 e0;subst e0;subst un;refine Q4 O$ RK O$ QW$ Sa O$ Q4 O$ S6$ qS$ QY O$ PQ$ Qy.qb (e:=[(0,_),(3,_),(4,_),(5,_),(6,_),(7,_),(8,_),(9,_),(37,_)]) ?_;refine TT O$ QS O$ RA O$ Qp O$ RK O$ QW$ QY O$ Qp O$ Qd UJ O$ qV (PX U3 O O cY O)$ qV ((Rp O U3 SL ω))$ RK O$ QW$ QY O ?_;refine Re O$ Qx O$ qV (QU O SL U3 ω)$ Q4 O$ qV (QU O SL U3 ω)$ qV (Tq (cs:=[_,_]) Tv O zcG O O)$ Qb O (QT (news:=[I ((0:Nat):Int),I (((0:Nat)):Int)]) Tv O O O O aO ξ) ?_;rintro w9 ⟨bX,ax⟩;replace bX:Q7 w9 b4 [I ((0:Nat):Int),I (((0:Nat)):Int)] 308:=bX;refine Qc O$ Qy.qb (e:=[(4,_),(5,_)]) ?_;refine Qt func213 (.cell z6k O Tv O (Q7.cells (n:=2) bX (news:=[_,_]) O) O (.tmp O .nil)) ?_;rw[if_pos O,show(Qo [((.gamma,0):Cd×Nat)]).length=(Cd.enc .gamma 0).length by rw[Rj,List.length_append];rfl];refine⟨_,rfl,rfl,⟨ax.PN h5.1 ω,h5.2⟩,cO.It ax (λk e=> .inl ω)⟩
 ·rw[if_neg ω] at gm⊢;rcases Nat.eq_zero_or_pos p.Qq with e1|e1
  ·have un:=o4 e1;subst un;rw[if_neg ω] at gm⊢;refine Q4 O$ RK O$ SM$ Sa O$ Q4 O$ Qd UJ O$ qV (PX U3 O O cY O)$ RK O$ QW$ Sa O$ PQ$ Qy.qb (e:=[(0,_),(3,_),(4,_),(5,_),(6,_),(7,_),(8,_),(9,_),(37,_)]) ?_;refine TT O$ QS O$ RA O$ Qp O$ RK O$ QW$ QY O$ Qp O$ Qd UJ O$ qV (PX U3 O O cY O)$ qV ((Rp O U3 SL ω))$ RK O$ QW$ QY O ?_;refine Re O$ Qx O$ qV (QU O SL U3 ω)$ Q4 O$ qV (QU O SL U3 ω)$ qV (Tq (cs:=[_,_]) Tv O zcG O O)$ Qb O (QT (news:=[I (n:Int),I (((0:Nat)):Int)]) Tv O O O O aO ξ) ?_;rintro w9 ⟨bX,ax⟩;replace bX:Q7 w9 b4 [I (n:Int),I (((0:Nat)):Int)] 308:=bX;refine Qc O$ Qy.qb (e:=[(4,_),(5,_)]) ?_;refine Qt func213 (.cell z6k O Tv O (Q7.cells (n:=2) bX (news:=[_,_]) O) O (.tmp O .nil)) ?_;rw[show(Qo [((.gamma,n):Cd×Nat)]).length=(Cd.enc .gamma n).length by rw[Rj,List.length_append];rfl];refine⟨_,rfl,rfl,⟨ax.PN h5.1 ω,h5.2⟩,cO.It ax (λk e=> .inl ω)⟩
  ·rw[if_pos e1] at gm⊢;rw[Rj,List.append_assoc] at gm;refine Q4 O$ RK O$ SM$ Sa O$ Q4 O$ Qd UJ O$ qV (PX U3 O O cY O)$ RK O$ SM$ Sa O$ PQ$ Qy.qb (e:=[(0,_),(3,_),(4,_),(5,_),(6,_),(7,_),(8,_),(9,_),(37,_)]) ?_;refine Qa O$ St O$ qV (QB (news:=[.int .u8 0,Qg 0]) Tz O RX O ((cO.PN hU dv).cells (n:=2) O) O)$ Qk zbU O (z0v h5 .unary q trivial (by simp only[Cd.most];omega) _ gm) ?_;rintro _ w6 ⟨rfl,h6,aL⟩;have jx:=aL.PN cY ω;have bY:=aL.PN aO ω;have uo:=cO.trans aL;refine Q4 O$ TK O$ Rt O$ QS O$ RA O$ Qp O$ RK O$ QW$ QY O$ Qp O$ Qd UJ O$ qV (PX U3 O O jx O)$ qV ((Rp O U3 SL ω))$ RK O ?_;refine QW$ QY O$ PQ$ Qy.qb (e:=[(0,_),(4,_),(5,_),(6,_),(7,_),(9,_),(56,_)]) ?_;refine TT O$ Qx O$ qV (QU O SL U3 ω)$ Q4 O$ qV (QU O SL U3 ω)$ qV (Tq (cs:=[_,_]) Tv O zcG O O)$ Qb O (QT (news:=[I (n:Int),I (q:Int)]) Tv O O O O bY ξ) ?_;rintro w9 ⟨bX,ax⟩;replace bX:Q7 w9 b4 [I (n:Int),I (q:Int)] 308:=bX;refine Qc O$ Qt func213 (.cell z6k O Tv O (Q7.cells (n:=2) bX (news:=[_,_]) O) O (.tmp O .nil)) ?_;rw[show(Qo [((.gamma,n):Cd×Nat),(.unary,q)]).length=(Cd.enc .gamma n).length+(Cd.enc .unary q).length by rw[Rj,Rj,List.length_append,List.length_append];rfl,<-Nat.add_assoc];refine⟨_,rfl,rfl,⟨ax.PN h6.1 ω,h6.2⟩,uo.It ax (λk e=> .inl ω)⟩
structure Ry where
 Qq:Nat
 chain:Nat
 interval:Nat
 zeta:Nat
 most:Nat
def Ry.list (p:Ry):Th:=⟨p.Qq,p.interval,p.zeta⟩
def Ry.RE (p:Ry):Prop:=p.list.RE/\p.chain<=16/\p.most<=65536
def Wz (p:Ry):List Value:=[I (p.Qq:Int),I (p.chain:Int),I (p.interval:Int),I (p.zeta:Int),I (p.most:Int)]
abbrev bpV (p:Ry):Value:= .agg (Wz p).toArray
def Ud (p:Ry)(w:World):Qu prog 149 [bpV p] w λu w'=>u=lpV p.list/\Ext w w':=by
 refine py (e:=[(0,_)]) func149 O ntmps149 O O$ qN O$ PY O O (Se O (cs:=Wz p) O) ?_
 rintro _ w1 ⟨b1,rfl,bL,ad,ai⟩
 refine PY O O (SE (cs:=[_,_,_]) Vu O) ?_
 rintro _ w2 ⟨b2,rfl,bO,ae,ak⟩
 have aX:=ae.PN ai
 replace aX:Q7 w2 b1 [I (p.Qq:Int),I (p.chain:Int),I (p.interval:Int),I (p.zeta:Int),I (p.most:Int)] 75:=aX
 refine qM O$ Qd z2T O$ qV (PX U3 O O aX O)$ Qd zdb O$ qV (PX U3 O O aX O)$ Qd zbZ O$ qV (PX U3 O O aX O)$ qV (Tq (cs:=[_,_,_]) Vu O zkM O O)$ Qb O (QT (news:=[I (p.Qq:Int),I (p.interval:Int),I (p.zeta:Int)]) Vu O O O O ak ξ) ?_
 rintro w3 ⟨bG,av⟩
 replace bG:Q7 w3 b2 [I (p.Qq:Int),I (p.interval:Int),I (p.zeta:Int)] 260:=bG
 refine PQ$ Qt func149 (.cell z0J O Vu O (Q7.cells (n:=3) bG (news:=[_,_,_]) O) O .nil) ?_
 have z1:=ad.size
 exact⟨_,rfl,rfl,(ad.trans ae).It av (λk e=>by omega)⟩
def z1h (p:Ry)(hp:p.RE)(w:World):Qu prog 147 [bpV p] w λu w'=>u=I 0/\Ext w w':=by
 obtain⟨g1,g2,g3⟩:=hp
 refine py (e:=[(0,_)]) func147 O ntmps147 O O$ qN O$ PY O O (Se O (cs:=Wz p) O) ?_
 rintro _ w1 ⟨b1,rfl,bL,ad,ai⟩
 have gq:Q7 w1 b1 [I (p.Qq:Int),I (p.chain:Int),I (p.interval:Int),I (p.zeta:Int),I (p.most:Int)] 75:=ai
 refine Qc O$ An$ qN O$ Qd z0L O$ qV (PX U3 O O gq O)$ RT O$ QW$ Q4 O$ Qd z0L O$ qV (PX U3 O O gq O)$ RK O$ QW$ QY O$ Q4 O ?_
 refine Qd UO O$ qV (PX U3 O O gq O)$ RT O$ QW$ QY O$ Q4 O$ Qd UO O$ qV (PX U3 O O gq O)$ RK O$ QW$ QY O$ Re O$ qN O$ qV (QB U75 O SO O (Q7.cells (n:=5) gq (news:=[_,_,_,_,_]) O) O) ?_
 refine Qk z2j O (Ud p w1) ?_
 rintro _ w2 ⟨rfl,ae⟩
 refine Qk z5W O (Vj p.list g1 w2) ?_
 rintro _ w3 ⟨rfl,ah⟩
 refine Qc O$ PO func147 O ?_
 exact⟨_,rfl,rfl,(ad.trans ae).trans ah⟩
structure TU (w:World)(g n cap:Nat)(d:Array Nat):Prop where
 sl:Sl w (.slice (some ⟨g,0,none⟩) n cap) 59 1 n (d.toList.map QJ)
 size:d.size=n
abbrev RR (x y:Nat):Bool:=decide (x<y)
def z00:Go.Sort.SWO RR:=⟨λx=>by simp[RR],λx y z h1 h2=>by simp[RR] at*;omega,λx y z h1 h2=>by simp[RR] at*;omega⟩
section
variable {w w':World}{g n cap:Nat}{d:Array Nat}{S:Nat->Prop}
def TU.ext (h:TU w g n cap d)(k:Ext w w'):TU w' g n cap d:=⟨h.sl.ext k,h.size⟩
def TU.kp (h:TU w g n cap d)(k:Kp S w w')(hg:¬S g):TU w' g n cap d:=⟨h.sl.kp k (λg' e=>by cases e;exact hg),h.size⟩
theorem TU.get {i:Nat}(h:TU w g n cap d)(hi:i<n):w.cell? ⟨g,0+i*1,none⟩=some (QJ d[i]!):=by
 have hs:=h.size
 refine Rf h.sl.rd ?_
 rw[List.getElem?_map,Array.getElem?_toList,Array.getElem?_eq_getElem ω]
 rw[getElem!_pos d i ω]
 rfl
def TU.jlt {j:Nat}(h:TU w g n cap d)(hj:j<n):j<(d.toList.map QJ).length:=by
 have hs:=h.size
 rw[List.length_map,Array.length_toList];omega
theorem TU.set {i y:Nat}(h:TU w g n cap d)(hS:Sl w' (.slice (some ⟨g,0,none⟩) n cap) 59 1 n ((d.toList.map QJ).set (0+i*1) (QJ y))):TU w' g n cap (d.setIfInBounds i y):=by
 refine⟨?_,by rw[Array.size_setIfInBounds,h.size]⟩
 rw[Array.toList_setIfInBounds,List.map_set]
 rw[show 0+i*1=i by omega] at hS
 exact hS
end
def zaA (x:Nat)(w:World):Qu prog 258 [QJ x] w λu w'=>u= .bool false/\w'=w:=by
 refine py (e:=[(0,_)]) func258 O ntmps258 O O$ qN O$ S7 O$ Qp O$ RA O$ Qc O$ PO func258 O ?_
 exact⟨_,rfl,by simp[Rb],rfl⟩
def Tg (x y:Nat)(w:World):Qu prog 249 [QJ x,QJ y] w λu w'=>u= .bool (RR x y)/\w'=w:=by
 refine py (e:=[(0,_),(1,_)]) func249 O ntmps249 O O$ qN O$ RZ O$ Qk zkI O (zaA x w) ?_
 rintro _ w ⟨rfl,rfl⟩
 refine Q4 O$ S6$ qS$ QY O$ Qp O$ Q4 O$ RT O$ QY O$ Qc O$ PO func249 O ?_
 exact⟨_,rfl,by simp[RR,Rb],rfl⟩
section
variable (a b j i:Nat)(d:Array Nat)
theorem z5O (hj:a<j)(hl:RR d[j]! d[j-1]! =true):Go.Sort.insInner RR a j d=Go.Sort.insInner RR a (j-1) (Go.Sort.swp d j (j-1)):=by
 obtain⟨k,rfl⟩:∃k,j=k+1:=⟨j-1,ω⟩
 rw[Go.Sort.insInner]
 simp only[Nat.add_sub_cancel] at hl⊢
 rw[if_pos]
 rw[Bool.and_eq_true];exact⟨by simpa using hj,hl⟩
theorem YK (h:j<=a\/RR d[j]! d[j-1]! =false):Go.Sort.insInner RR a j d=d:=by
 cases j with
 |zero=>rw[Go.Sort.insInner]
 | succ k =>
   rw[Go.Sort.insInner];simp only[Nat.add_sub_cancel] at h;rw[if_neg];intro hc;rw[Bool.and_eq_true] at hc;rcases h with h| h
   ·have:=of_decide_eq_true hc.1;omega
   ·rw[h] at hc;cases hc.2
theorem z57 (h:i<b):Go.Sort.insOuter RR a b i d=Go.Sort.insOuter RR a b (i+1) (Go.Sort.insInner RR a i d):=by rw[Go.Sort.insOuter,if_pos h]
theorem z3f (h:¬i<b):Go.Sort.insOuter RR a b i d=d:=by rw[Go.Sort.insOuter,if_neg h]
end
def z3a {w:World}{g n cap:Nat}{d:Array Nat}(h:TU w g n cap d)(a b:Nat)(kg:a<=b)(hb:b<=n)(hn:n<=65536):
  Qu prog 243 [.slice (some ⟨g,0,none⟩) n cap,I (a:Int),I (b:Int)] w λu w'=>u= .tuple #[]/\TU w' g n cap (Go.Sort.insertionSort RR d a b)/\Kp (λk=>k=g) w w':=by
 refine py (e:=[(0,_),(1,_),(2,_)]) func243 O ntmps243 O O$ Qx O$ R7 O$ Qc O$ PS$ SK (α:=Nat×Array Nat) ((a+1,d)) (λy=>[(0,.slice (some ⟨g,0,none⟩) n cap),(1,I (a:Int)),(2,I (b:Int)),(6,I (y.1:Int))]) (λy w'=>TU w' g n cap y.2/\Kp (λk=>k=g) w w'/\Go.Sort.insOuter RR a b y.1 y.2=Go.Sort.insertionSort RR d a b/\a<y.1) (λy=>b-y.1) ?hI ?hround
 case hI=>exact⟨h,Kp.refl _ _,rfl,Nat.lt_succ_self a⟩
 case hround=>
  rintro⟨i,d4⟩ w4 ⟨eB,ar,cK,pP⟩ ih;dsimp only at eB ar cK pP
  try dsimp only
  refine An$ RI O$ RT O$ PQ$ Q8 O (λh0=>?_)$ λh0=>?_
  ·rw[z57 _ _ _ _ ω] at cK;refine PR$ RP$ Qx O$ Qc O$ PS$ SK (α:=Nat×Array Nat) ((i,d4)) (λy=>[(0,.slice (some ⟨g,0,none⟩) n cap),(1,I (a:Int)),(2,I (b:Int)),(6,I (i:Int)),(7,I (y.1:Int))]) (λy w'=>TU w' g n cap y.2/\Kp (λk=>k=g) w w'/\Go.Sort.insInner RR a y.1 y.2=Go.Sort.insInner RR a i d4/\y.1<=i/\a<=y.1) (λy=>y.1) ?hI ?hround
   case hI=>exact⟨eB,ar,rfl,Nat.le_refl _,by dsimp only;omega⟩
   case hround=>
    rintro⟨j,d5⟩ w5 ⟨aV,aj,cg,KV,Dk⟩ ih2;dsimp only at aV aj cg KV Dk
    try dsimp only
    have hg:=Ext.Qh w5;rcases Nat.lt_or_ge a j with hj|hj
    ·refine An$ An$ S5 (λw'=>Ext w5 w') O$ Qi 0 O O (hg)$ Qi 1 O O (hg)$ PT 2 O (Zr O O) hg$ Vd$ Qi 3 O O (hg)$ Qi 4 O O (hg)$ Qi 5 O O (hg)$ PT 6 O (Rh QE Ql O O ω) hg$ Qi 8 O O (hg)$ Qi 9 O O (hg)$ PT 10 O (YM O O ω) hg ?_;rw[show(j:Int)-1=((j-1:Nat):Int) by omega];refine qT 7 O (λ_ h=>QF RQ O O ((aV.ext h).get (i:=j) ω)) hg$ PT 11 O (Rh QE Ql O O ω) hg$ qT 12 O (λ_ h=>QF RQ O O ((aV.ext h).get (i:=j-1) ω)) hg$ T9 13 O Xs O (Tg _ _ _) ?_;rintro _ w6 ⟨rfl,rfl⟩;refine⟨hg,?_⟩;refine PT 14 O (W2 O O) hg$ qE ?_;have qt:=aV.ext hg;refine Rr O (λh1=>?_)$ λh1=>?_
     ·refine PR$ RP ?_;have aD:=Ext.Qh w5.drew;refine Qn [15,17] (λw'=>Ext w5.drew w') (by kernel_rfl) O$ R1 0 O O (aD)$ R1 1 O O (aD)$ Rm (i:=2) O (by kernel_rfl) O O (λ_=>YQ O) (aD)$ Rm (i:=3) O (by kernel_rfl) O O (λ_=>YQ O) (aD)$ Rm (i:=4) O (by kernel_rfl) O O (λ_=>YM O O ω) (aD)$ R1 5 O O (aD)$ R1 6 O O (aD)$ Qs 7 O (YM O O ω) aD$ R1 10 O O (aD)$ R1 11 O O (aD)$ Qs 12 O (Rh QE Ql O O ω) aD ?_;rw[show(j:Int)-1=((j-1:Nat):Int) by omega];refine Qs 8 O (Rh QE Ql O O ω) aD$ qL 9 O (λ_ h=>QF RQ O O ((qt.ext h).get (i:=j-1) ω)) aD$ qL 13 O (λ_ h=>QF RQ O O ((qt.ext h).get (i:=j) ω)) aD$ Qs 14 O (Rh QE Ql O O ω) aD$ Ut [15]$ qO 15$ QO (i:=15) O O (SY Ql O O O (qt.ext aD).sl ((qt.ext aD).jlt ω)) ?_;rintro w7a ⟨gt,gu⟩;refine⟨trivial,?_⟩;have cP:=(qt.ext aD).set gt;refine PT 16 O (Rh QE Ql O O ω) trivial$ qO 17$ QO (i:=17) O O (SY Ql O O O cP.sl (cP.jlt ω)) ?_;rintro w7 ⟨iI,kQ⟩;refine⟨trivial,?_⟩;have kR:=cP.set iI;have gx:Kp (λk=>k=g) w5.drew w7:=aD.kp.trans (gu.trans kQ);refine qE$ PM$ St O$ SA O$ Qc O ?_;rw[show(j:Int)-1=((j-1:Nat):Int) by omega];refine(ih2 (j-1,Go.Sort.swp d5 j (j-1)) _ ⟨kR,(aj.trans hg.kp).trans gx,?_,by dsimp only;omega,by dsimp only;omega⟩ (by dsimp only;omega)).qb;dsimp only;rw[<-cg,z5O a j d5 hj h1]
     ·refine Q5 O$ PM$ St O$ R7 O$ Qc O ?_;rw[YK a j d5 (.inr (by simpa using h1))] at cg;refine(ih (i+1,d5) _ ⟨qt,aj.trans hg.kp,?_,by dsimp only;omega⟩ (by dsimp only;omega)).qb;dsimp only;rw[cg];exact cK
    ·refine An$ An$ S5 (λw'=>Ext w5 w') O$ Qi 0 O O (hg)$ Qi 1 O O (hg)$ PT 2 O (Zr O O) hg$ UQ$ Qi 3 O O (hg)$ qJ 4 O (hg)$ qJ 5 O (hg)$ qJ 6 O (hg)$ qJ 7 O (hg)$ qJ 8 O (hg)$ qJ 9 O (hg) ?_;refine qJ 10 O (hg)$ qJ 11 O (hg)$ qJ 12 O (hg)$ qJ 13 O (hg)$ PT 14 O (Vt O O) hg$ qE$ PZ O$ Q5 O$ PM$ St O$ R7 O$ Qc O ?_;rw[YK a j d5 (.inl hj)] at cg;refine(ih (i+1,d5) _ ⟨aV.ext hg,aj.trans hg.kp,?_,by dsimp only;omega⟩ (by dsimp only;omega)).qb;dsimp only;rw[cg];exact cK
  ·rw[z3f _ _ _ _ ω] at cK;refine Q5 O$ Rq func243 O ?_;exact⟨_,rfl,rfl,cK▸eB,ar⟩
section
variable (hi first root:Nat)(d:Array Nat)
def z0B:Nat:=if 2*root+1+1<hi&&RR d[first+(2*root+1)]! d[first+(2*root+1)+1]! then 2*root+2 else 2*root+1
theorem zbj (h:hi<=2*root+1):Go.Sort.siftDown RR hi first root d=d:=by rw[Go.Sort.siftDown,dif_pos h]
theorem zeA (h:2*root+1<hi):Go.Sort.siftDown RR hi first root d=if RR d[first+root]! d[first+z0B hi first root d]! then Go.Sort.siftDown RR hi first (z0B hi first root d) (Go.Sort.swp d (first+root) (first+z0B hi first root d)) else d:=by
 rw[Go.Sort.siftDown,dif_neg ω]
 unfold z0B
 by_cases h1:(decide (2*root+1+1<hi)&&RR d[first+(2*root+1)]! d[first+(2*root+1)+1]!)=true
 ·rw[if_pos h1,if_pos h1];rw[Bool.and_eq_true] at h1;have h2:2*root+2<hi:=of_decide_eq_true h1.1;rw[dif_pos h2];cases RR d[first+root]! d[first+(2*root+2)]!<;>rfl
 ·rw[if_neg h1,if_neg h1];cases RR d[first+root]! d[first+(2*root+1)]!<;>rfl
def zez (h:2*root+1<hi):root<z0B hi first root d/\z0B hi first root d<hi:=by
 unfold z0B
 split
 ·rename_i h1
  rw[Bool.and_eq_true] at h1;have h2:2*root+2<hi:=of_decide_eq_true h1.1;omega
 ·omega
end
def z5R {w:World}{g n cap:Nat}{d:Array Nat}(h:TU w g n cap d)(lo hi first:Nat)(hf:first+hi<=n)(sy:lo<=65536)(hn:n<=65536):
  Qu prog 253 [.slice (some ⟨g,0,none⟩) n cap,I (lo:Int),I (hi:Int),I (first:Int)] w λu w'=>u= .tuple #[]/\TU w' g n cap (Go.Sort.siftDown RR hi first lo d)/\Kp (λk=>k=g) w w':=by
 refine py (e:=[(0,_),(1,_),(2,_),(3,_)]) func253 O ntmps253 O O$ Qx O$ Qc O$ PS$ SK (α:=Nat×Array Nat) ((lo,d)) (λy=>[(0,.slice (some ⟨g,0,none⟩) n cap),(2,I (hi:Int)),(3,I (first:Int)),(8,I (y.1:Int))]) (λy w'=>TU w' g n cap y.2/\Kp (λk=>k=g) w w'/\Go.Sort.siftDown RR hi first y.1 y.2=Go.Sort.siftDown RR hi first lo d/\y.1<=65536) (λy=>hi-y.1) ?hI ?hround
 case hI=>exact⟨h,Kp.refl _ _,rfl,sy⟩
 case hround=>
  rintro⟨root,d4⟩ w4 ⟨eB,ar,cK,bH⟩ ih;dsimp only at eB ar cK bH
  try dsimp only
  refine PS$ Qx O$ qV (Xq O O ω)$ R7 O$ Qc O$ An$ qN O ?_;rw[show 2*(root:Int)+1=((2*root+1:Nat):Int) by omega];refine Qp O$ UZ O$ PQ$ Q8 O (λh0=>?_)$ λh0=>?_
  ·rw[zbj _ _ _ _ ω] at cK;refine Q5 O$ Rq func253 O ?_;exact⟨_,rfl,rfl,cK▸eB,ar⟩
  ·have hc:=zez hi first root d4 ω;rw[zeA _ _ _ _ ω] at cK;have hg:=Ext.Qh w4;have uq:=eB.ext hg;refine PR$ An$ An ?_
   generalize qu:(decide (2*root+1+1<hi)&&RR d4[first+(2*root+1)]! d4[first+(2*root+1)+1]!)=sel
   refine QH (λe' w'=>e'=[(0,.slice (some ⟨g,0,none⟩) n cap),(2,I (hi:Int)),(3,I (first:Int)),(8,I (root:Int)),(9,I ((2*root+1:Nat):Int)),(36,.bool sel)]/\w'=w4.drew) ?aW$ λaW=>?gl
   case aW=>
    rintro e' w5 ⟨rfl,rfl⟩;refine QH (λe' w'=>e'=[(0,.slice (some ⟨g,0,none⟩) n cap),(2,I (hi:Int)),(3,I (first:Int)),(8,I (root:Int)),(9,I (z0B hi first root d4:Int))]/\w'=w4.drew) ?aq$ λaq=>?dU
    case aq=>
     rintro e' w5 ⟨rfl,rfl⟩
     generalize z0B hi first root d4=c at hc cK
     have eC:=Ext.Qh w4.drew;have mN:=uq.ext eC;refine An$ An$ S5 (λw'=>Ext w4.drew w') O$ Qi 0 O O (eC)$ Qi 1 O O (eC)$ Qi 2 O O (eC)$ PT 3 O (Wa O O ω) eC$ PT 4 O (Rh QE Ql O O ω) eC$ Qi 6 O O (eC)$ Qi 7 O O (eC)$ Qi 8 O O (eC)$ PT 9 O (Wa O O ω) eC$ PT 10 O (Rh QE Ql O O ω) eC$ qT 5 O (λ_ h=>QF RQ O O ((uq.ext h).get (i:=first+root) ω)) eC ?_;refine qT 11 O (λ_ h=>QF RQ O O ((uq.ext h).get (i:=first+c) ω)) eC$ T9 12 O Xs O (Tg _ _ _) ?_;rintro _ w6 ⟨rfl,rfl⟩;refine⟨eC,?_⟩;refine PT 13 O ((zb7 O)) eC$ qE$ Rr O (λh1=>?_)$ λh1=>?_
     ·rw[if_neg (by simpa using h1)] at cK;refine PO func253 O ?_;exact⟨_,rfl,rfl,cK▸mN,ar.trans (hg.trans eC).kp⟩
     ·rw[if_pos (by simpa using h1)] at cK;refine PR$ An ?_;have aD:=Ext.Qh w4.drew.drew;refine Qn [21,23] (λw'=>Ext w4.drew.drew w') (by kernel_rfl) O$ R1 0 O O (aD)$ R1 1 O O (aD)$ R1 2 O O (aD)$ Qs 3 O (Wa O O ω) aD$ Rm (i:=4) O (by kernel_rfl) O O (λ_=>YQ O) (aD)$ Rm (i:=5) O (by kernel_rfl) O O (λ_=>YQ O) (aD)$ Rm (i:=6) O (by kernel_rfl) O O (λ_=>YQ O) (aD)$ Rm (i:=7) O (by kernel_rfl) O O (λ_=>Wa O O ω) (aD)$ R1 8 O O (aD)$ R1 9 O O (aD)$ R1 10 O O (aD)$ Qs 11 O (Wa O O ω) aD$ Qs 12 O (Rh QE Ql O O ω) aD ?_;refine R1 14 O O (aD)$ R1 15 O O (aD)$ R1 16 O O (aD)$ Qs 17 O (Wa O O ω) aD$ Qs 18 O (Rh QE Ql O O ω) aD$ qL 13 O (λ_ h=>QF RQ O O ((mN.ext h).get (i:=first+c) ω)) aD$ qL 19 O (λ_ h=>QF RQ O O ((mN.ext h).get (i:=first+root) ω)) aD$ Qs 20 O (Rh QE Ql O O ω) aD$ Ut [21]$ qO 21$ QO (i:=21) O O (SY Ql O O O (mN.ext aD).sl ((mN.ext aD).jlt ω)) ?_;rintro w7a ⟨gt,gu⟩;refine⟨trivial,?_⟩;have cP:=(mN.ext aD).set gt;refine PT 22 O (Rh QE Ql O O ω) trivial$ qO 23$ QO (i:=23) O O (SY Ql O O O cP.sl (cP.jlt ω)) ?_;rintro w7 ⟨iI,kQ⟩;refine⟨trivial,?_⟩;have kR:=cP.set iI;have gx:Kp (λk=>k=g) w4.drew.drew w7:=aD.kp.trans (gu.trans kQ);refine qE$ St O$ Qc O$ PM ((ih (c,Go.Sort.swp d4 (first+root) (first+c)) _ ⟨kR,(ar.trans (hg.trans eC).kp).trans gx,cK,by dsimp only;omega⟩ (by dsimp only;omega)).qb)
    case dU=>
     refine Rr O (λh1=>?_)$ λh1=>?_
     ·refine St O$ R7 O$ Qc O ?_;rw[show((2*root+1:Nat):Int)+1=(z0B hi first root d4:Int) by unfold z0B;rw[qu,if_pos h1];omega];exact(aq _ _ ⟨rfl,rfl⟩).qb
     ·refine PR ?_;rw[show((2*root+1:Nat):Int)=(z0B hi first root d4:Int) by unfold z0B;rw[qu,if_neg (by rw[h1];decide)]];exact(aq _ _ ⟨rfl,rfl⟩).qb
   case gl=>
    rcases Nat.lt_or_ge (2*root+1+1) hi with hj|hj
    ·refine S5 (λw'=>Ext w4 w') O$ Qi 0 O O (hg)$ PT 1 O (Wa O O ω) hg$ Qi 2 O O (hg)$ PT 3 O (ylt O O) hg$ Vd$ Qi 4 O O (hg)$ Qi 5 O O (hg)$ Qi 6 O O (hg)$ Qi 7 O O (hg)$ PT 8 O (Wa O O ω) hg$ PT 9 O (Rh QE Ql O O ω) hg$ Qi 11 O O (hg)$ Qi 12 O O (hg) ?_;refine Qi 13 O O (hg)$ PT 14 O (Wa O O ω) hg$ PT 15 O (Wa O O ω) hg$ PT 16 O (Rh QE Ql O O ω) hg$ qT 10 O (λ_ hS=>QF RQ O O ((eB.ext hS).get (i:=first+(2*root+1)) ω)) hg$ qT 17 O (λ_ hS=>QF RQ O O ((eB.ext hS).get (i:=first+(2*root+1)+1) ω)) hg$ T9 18 O Xs O (Tg _ _ _) ?_;rintro _ w6 ⟨rfl,rfl⟩;refine⟨hg,?_⟩;refine PT 19 O (W2 O O) hg$ qE ?_;rw[show RR d4[first+(2*root+1)]! d4[first+(2*root+1)+1]! =sel by rw[<-qu,decide_eq_true hj,Bool.true_and]];exact(aW _ _ ⟨rfl,rfl⟩).qb
    ·refine S5 (λw'=>Ext w4 w') O$ Qi 0 O O (hg)$ PT 1 O (Wa O O ω) hg$ Qi 2 O O (hg)$ PT 3 O (ylt O O) hg$ UQ$ Qi 4 O O (hg)$ qJ 5 O (hg)$ qJ 6 O (hg)$ qJ 7 O (hg)$ qJ 8 O (hg)$ qJ 9 O (hg)$ qJ 10 O (hg)$ qJ 11 O (hg) ?_;refine qJ 12 O (hg)$ qJ 13 O (hg)$ qJ 14 O (hg)$ qJ 15 O (hg)$ qJ 16 O (hg)$ qJ 17 O (hg)$ qJ 18 O (hg)$ PT 19 O (Vt O O) hg$ qE ?_;have o5:sel=false:=by rw[<-qu,decide_eq_false ω,Bool.false_and]
     subst o5;exact(aW _ _ ⟨rfl,rfl⟩).qb
def zcP {w:World}{g n cap:Nat}{d:Array Nat}(h:TU w g n cap d)(a b:Nat)(kg:a<b)(hb:b<=n)(hn:n<=65536):
  Qu prog 244 [.slice (some ⟨g,0,none⟩) n cap,I (a:Int),I (b:Int)] w λu w'=>u= .tuple #[]/\TU w' g n cap (Go.Sort.heapSort RR d a b)/\Kp (λk=>k=g) w w':=by
 refine py (e:=[(0,_),(1,_),(2,_)]) func244 O ntmps244 O O$ Qx O$ S7 O$ S7 O$ Qp O$ SA O$ Qc O$ An$ qN O ?_
 rw[show(b:Int)-(a:Int)=((b-a:Nat):Int) by omega]
 refine Q4 O$ SA O ?_
 rw[show((b-a:Nat):Int)-1=((b-a-1:Nat):Int) by omega]
 refine qV (Yh O O ω)$ Qc O$ PS ?_
 rw[show((b-a-1:Nat):Int) / 2=(((b-a-1) / 2+1:Nat):Int)-1 by omega]
 have o3:Go.Sort.heapSort RR d a b=Go.Sort.heapPop RR a (b-a) (Go.Sort.heapBuild RR (b-a) a ((b-a-1) / 2+1) d):=rfl
 rw[o3]
 refine SK (α:=Nat×Array Nat) (((b-a-1) / 2+1,d)) (λy=>[(0,.slice (some ⟨g,0,none⟩) n cap),(6,I (a:Int)),(7,I 0),(8,I ((b-a:Nat):Int)),(9,I ((y.1:Int)-1))]) (λy w'=>TU w' g n cap y.2/\Kp (λk=>k=g) w w'/\Go.Sort.heapBuild RR (b-a) a y.1 y.2=Go.Sort.heapBuild RR (b-a) a ((b-a-1) / 2+1) d/\y.1<=(b-a-1) / 2+1) (λy=>y.1) ?hI ?hround
 case hI=>exact⟨h,Kp.refl _ _,rfl,Nat.le_refl _⟩
 case hround=>
  rintro⟨k,d4⟩ w4 ⟨eB,ar,cK,bH⟩ ih;dsimp only at eB ar cK bH
  try dsimp only
  refine QS O$ UZ O$ PQ$ Q8 O (λh0=>?_)$ λh0=>?_
  ·obtain⟨k,rfl⟩:∃k',k=k'+1:=⟨k-1,ω⟩;rw[show((k+1:Nat):Int)-1=(k:Int) by omega];refine PR$ RP$ PW O$ Qp O$ Qp O$ Qk zfn O (z5R eB k (b-a) a ω ω hn) ?_;rintro _ w5 ⟨rfl,aV,aj⟩;refine PQ$ PM$ St O$ SA O$ Qc O ?_;exact(ih (k,Go.Sort.siftDown RR (b-a) a k d4) _ ⟨aV,ar.trans aj,cK,by dsimp only;omega⟩ (by dsimp only;omega)).qb
  ·have fZ:k=0:=by omega
   subst fZ;rw[<-cK];refine Q5 O$ Qx O$ SA O$ Qc O$ PS$ SK (α:=Nat×Array Nat) ((b-a,d4)) (λy=>[(0,.slice (some ⟨g,0,none⟩) n cap),(6,I (a:Int)),(7,I 0),(10,I ((y.1:Int)-1))]) (λy w'=>TU w' g n cap y.2/\Kp (λk=>k=g) w w'/\Go.Sort.heapPop RR a y.1 y.2=Go.Sort.heapPop RR a (b-a) (Go.Sort.heapBuild RR (b-a) a 0 d4)/\y.1<=b-a) (λy=>y.1) ?hI ?hround
   case hI=>exact⟨eB,ar,rfl,Nat.le_refl _⟩
   case hround=>
    rintro⟨k,d5⟩ w5 ⟨aV,aj,cg,bP⟩ ih2;dsimp only at aV aj cg bP
    try dsimp only
    refine QS O$ UZ O$ PQ$ Q8 O (λh1=>?_)$ λh1=>?_
    ·obtain⟨k,rfl⟩:∃k',k=k'+1:=⟨k-1,ω⟩;rw[show((k+1:Nat):Int)-1=(k:Int) by omega];refine PR$ RP$ An ?_;have aD:=Ext.Qh w5;refine Qn [17,19] (λw'=>Ext w5 w') (by kernel_rfl) O$ R1 0 O O (aD)$ R1 1 O O (aD)$ Rm (i:=2) O (by kernel_rfl) O O (λ_=>YQ O) (aD)$ Rm (i:=3) O (by kernel_rfl) O O (λ_=>YQ O) (aD)$ Rm (i:=4) O (by kernel_rfl) O O (λ_=>YQ O) (aD)$ Rm (i:=5) O (by kernel_rfl) O O (λ_=>Wa O O ω) (aD)$ R1 6 O O (aD)$ R1 7 O O (aD)$ R1 8 O O (aD)$ Qs 9 O (Wa O O ω) aD$ Qs 10 O (Rh QE Ql O O ω) aD$ R1 12 O O (aD)$ R1 13 O O (aD) ?_;refine Qs 14 O (Rh QE Ql O O ω) aD$ qL 11 O (λ_ h=>QF RQ O O ((aV.ext h).get (i:=a+k) ω)) aD$ qL 15 O (λ_ h=>QF RQ O O ((aV.ext h).get (i:=a) ω)) aD$ Qs 16 O (Rh QE Ql O O ω) aD$ Ut [17]$ qO 17$ QO (i:=17) O O (SY Ql O O O (aV.ext aD).sl ((aV.ext aD).jlt ω)) ?_;rintro w7a ⟨gt,gu⟩;refine⟨trivial,?_⟩;have cP:=(aV.ext aD).set gt;refine PT 18 O (Rh QE Ql O O ω) trivial$ qO 19$ QO (i:=19) O O (SY Ql O O O cP.sl (cP.jlt ω)) ?_;rintro w7 ⟨iI,kQ⟩;refine⟨trivial,?_⟩;have kR:=cP.set iI;have gx:Kp (λk=>k=g) w5 w7:=aD.kp.trans (gu.trans kQ);refine qE$ PW O$ Qp O$ Qp O$ Qk zfn O (z5R kR 0 k a ω ω hn) ?_;rintro _ w8 ⟨rfl,KW,aK⟩;refine PQ$ PM$ St O$ SA O$ Qc O ?_;exact(ih2 (k,Go.Sort.siftDown RR k a 0 (Go.Sort.swp d5 a (a+k))) _ ⟨KW,(aj.trans gx).trans aK,cg,by dsimp only;omega⟩ (by dsimp only;omega)).qb
    ·have fZ:k=0:=by omega
     subst fZ;rw[<-cg];refine Q5 O$ Rq func244 O ?_;exact⟨_,rfl,rfl,aV,aj⟩
def z5X {w:World}{g n cap:Nat}{d:Array Nat}(h:TU w g n cap d)(a b:Nat)(kg:a<b)(hb:b<=n)(hn:n<=65536):
  Qu prog 247 [.slice (some ⟨g,0,none⟩) n cap,I (a:Int),I (b:Int)] w λu w'=>u= .tuple #[]/\TU w' g n cap (Go.Sort.reverseRange d a b)/\Kp (λk=>k=g) w w':=by
 refine py (e:=[(0,_),(1,_),(2,_)]) func247 O ntmps247 O O$ Qx O$ RZ O$ SA O$ Qc O$ PS ?_
 rw[show(b:Int)-1=((b-1:Nat):Int) by omega]
 refine SK (α:=Nat×Nat×Array Nat) ((a,b-1,d)) (λy=>[(0,.slice (some ⟨g,0,none⟩) n cap),(6,I (y.1:Int)),(7,I (y.2.1:Int))]) (λy w'=>TU w' g n cap y.2.2/\Kp (λk=>k=g) w w'/\Go.Sort.reverseLoop y.1 y.2.1 y.2.2=Go.Sort.reverseRange d a b/\y.2.1<n) (λy=>y.2.1-y.1) ?hI ?hround
 case hI=>exact⟨h,Kp.refl _ _,rfl,by dsimp only;omega⟩
 case hround=>
  rintro⟨i,j,d4⟩ w4 ⟨eB,ar,cK,bH⟩ ih;dsimp only at eB ar cK bH
  try dsimp only
  refine An$ RI O$ RT O$ PQ$ Q8 O (λh0=>?_)$ λh0=>?_
  ·rw[Go.Sort.reverseLoop,if_pos ω] at cK;refine PR$ PS$ An ?_;have aD:=Ext.Qh w4;refine Qn [13,15] (λw'=>Ext w4 w') (by kernel_rfl) O$ R1 0 O O (aD)$ R1 1 O O (aD)$ Rm (i:=2) O (by kernel_rfl) O O (λ_=>YQ O) (aD)$ Rm (i:=3) O (by kernel_rfl) O O (λ_=>YQ O) (aD)$ R1 4 O O (aD)$ R1 5 O O (aD)$ Qs 6 O (Rh QE Ql O O ω) aD$ R1 8 O O (aD)$ R1 9 O O (aD)$ Qs 10 O (Rh QE Ql O O ω) aD$ qL 7 O (λ_ h=>QF RQ O O ((eB.ext h).get (i:=j) ω)) aD$ qL 11 O (λ_ h=>QF RQ O O ((eB.ext h).get (i:=i) ω)) aD$ Qs 12 O (Rh QE Ql O O ω) aD ?_;refine Ut [13]$ qO 13$ QO (i:=13) O O (SY Ql O O O (eB.ext aD).sl ((eB.ext aD).jlt ω)) ?_;rintro w7a ⟨gt,gu⟩;refine⟨trivial,?_⟩;have cP:=(eB.ext aD).set gt;refine PT 14 O (Rh QE Ql O O ω) trivial$ qO 15$ QO (i:=15) O O (SY Ql O O O cP.sl (cP.jlt ω)) ?_;rintro w7 ⟨iI,kQ⟩;refine⟨trivial,?_⟩;have kR:=cP.set iI;have gx:Kp (λk=>k=g) w4 w7:=aD.kp.trans (gu.trans kQ);refine qE$ Qx O$ R7 O$ Qc O$ St O$ SA O$ Qc O$ PM ?_;rw[show(j:Int)-1=((j-1:Nat):Int) by omega];exact(ih (i+1,j-1,Go.Sort.swp d4 i j) _ ⟨kR,ar.trans gx,cK,by dsimp only;omega⟩ (by dsimp only;omega)).qb
  ·rw[Go.Sort.reverseLoop,if_neg ω] at cK;refine Q5 O$ Rq func247 O ?_;exact⟨_,rfl,rfl,cK▸eB,ar⟩
section
variable (p:Nat->Bool)(d:Array Nat)(i j:Nat)
theorem z0A (h:i<=j)(hp:p d[i]! =true):Go.Sort.scanUp p d j i=Go.Sort.scanUp p d j (i+1):=by
 conv=>lhs;rw[Go.Sort.scanUp]
 rw[if_pos]
 rw[Bool.and_eq_true];exact⟨by simpa using h,hp⟩
theorem Um (h:j<i\/p d[i]! =false):Go.Sort.scanUp p d j i=i:=by
 rw[Go.Sort.scanUp,if_neg]
 intro hc
 rw[Bool.and_eq_true] at hc
 rcases h with h| h
 ·have:=of_decide_eq_true hc.1;omega
 ·rw[h] at hc;cases hc.2
theorem XE (h:i<=j)(hp:p d[j]! =true)(hj:1<=j):Go.Sort.scanDown p d i j=Go.Sort.scanDown p d i (j-1):=by
 obtain⟨k,rfl⟩:∃k,j=k+1:=⟨j-1,ω⟩
 rw[Go.Sort.scanDown,if_pos]
 ·rfl
 ·rw[Bool.and_eq_true];exact⟨by simpa using h,hp⟩
theorem Ti (h:j<i\/p d[j]! =false):Go.Sort.scanDown p d i j=j:=by
 cases j with
 |zero=>rw[Go.Sort.scanDown]
 | succ k =>
   rw[Go.Sort.scanDown,if_neg];intro hc;rw[Bool.and_eq_true] at hc;rcases h with h| h
   ·have:=of_decide_eq_true hc.1;omega
   ·rw[h] at hc;cases hc.2
end
def Ye (p:Nat->Bool)(d:Array Nat)(j:Nat):∀i:Nat,Go.Sort.scanUp p d j i<=max i (j+1):=λi=>by
 rw[Go.Sort.scanUp]
 split
 ·rename_i h
  rw[Bool.and_eq_true] at h;have h1:=of_decide_eq_true h.1;have:=Ye p d j (i+1);omega
 ·omega
 termination_by i=>j+1-i
def zbE {w:World}{g n cap:Nat}{d:Array Nat}(h:TU w g n cap d)(a b pv:Nat)(Dl:a<=pv)(sE:pv<b)(hb:b<=n)(hn:n<=65536):
  Qu prog 251 [.slice (some ⟨g,0,none⟩) n cap,I (a:Int),I (b:Int),I (pv:Int)] w λu w'=>u= .tuple #[I ((Go.Sort.partition RR d a b pv).1:Int),.bool (Go.Sort.partition RR d a b pv).2.1]/\TU w' g n cap (Go.Sort.partition RR d a b pv).2.2/\Kp (λk=>k=g) w w':=by
 refine py (e:=[(0,_),(1,_),(2,_),(3,_)]) func251 O ntmps251 O O$ qN O$ Rt O$ An ?_
 have aD:=Ext.Qh w
 refine Qn [13,15] (λw'=>Ext w w') (by kernel_rfl) O$ R1 0 O O (aD)$ R1 1 O O (aD)$ Rm (i:=2) O (by kernel_rfl) O O (λ_=>YQ O) (aD)$ Rm (i:=3) O (by kernel_rfl) O O (λ_=>YQ O) (aD)$ R1 4 O O (aD)$ R1 5 O O (aD)$ Qs 6 O (Rh QE Ql O O ω) aD$ R1 8 O O (aD)$ R1 9 O O (aD)$ Qs 10 O (Rh QE Ql O O ω) aD$ qL 7 O (λ_ hS=>QF RQ O O ((h.ext hS).get (i:=pv) ω)) aD$ qL 11 O (λ_ hS=>QF RQ O O ((h.ext hS).get (i:=a) ω)) aD$ Qs 12 O (Rh QE Ql O O ω) aD ?_
 refine Ut [13]$ qO 13$ QO (i:=13) O O (SY Ql O O O (h.ext aD).sl ((h.ext aD).jlt ω)) ?_
 rintro w1a ⟨o6,o7⟩
 refine⟨trivial,?_⟩
 have gy:=(h.ext aD).set o6
 refine PT 14 O (Rh QE Ql O O ω) trivial$ qO 15$ QO (i:=15) O O (SY Ql O O O gy.sl (gy.jlt ω)) ?_
 rintro w1 ⟨ur,ut⟩
 refine⟨trivial,?_⟩
 have iJ:=gy.set ur
 have m9:Kp (λk=>k=g) w w1:=aD.kp.trans (o7.trans ut)
 refine qE$ Qx O$ R7 O$ Q4 O$ SA O$ Rt O$ Qy.qb (e:=[(0,_),(1,_),(8,_),(9,_),(10,_),(11,_)]) ?_
 refine RP ?_
 unfold Go.Sort.partition
 dsimp only
 replace iJ:TU w1 g n cap (Go.Sort.swp d a pv):=iJ
 generalize Go.Sort.swp d a pv=D at iJ
 rw[show(a:Int)+1=((a+1:Nat):Int) by omega,show(b:Int)-1=((b-1:Nat):Int) by omega]
 refine Tf (λe' w'=>e'=[(0,.slice (some ⟨g,0,none⟩) n cap),(1,I (a:Int)),(10,I (((Go.Sort.scanUp (λx=>RR x D[a]!) D (b-1) (a+1)):Nat):Int)),(11,I (((b-1):Nat):Int))]/\TU w' g n cap D/\Kp (λk=>k=g) w1 w') ?pQ$ λpQ=>?Dv
 case pQ =>
  rintro e' wA ⟨rfl,KX,pQ⟩;have ud:=Go.Sort.scanUp_ge (λx=>RR x D[a]!) D (b-1) (a+1);have kT:=Ye (λx=>RR x D[a]!) D (b-1) (a+1)
  generalize Go.Sort.scanUp (λx=>RR x D[a]!) D (b-1) (a+1)=i1 at ud kT
  refine RP$ Tf (λe' w'=>e'=[(0,.slice (some ⟨g,0,none⟩) n cap),(1,I (a:Int)),(10,I ((i1:Nat):Int)),(11,I (((Go.Sort.scanDown (λx=>!RR x D[a]!) D i1 (b-1)):Nat):Int))]/\TU w' g n cap D/\Kp (λk=>k=g) wA w') ?jy$ λjy=>?Du
  case jy =>
   rintro e' wB ⟨rfl,pR,jy⟩;have KY:=Go.Sort.scanDown_le (λx=>!RR x D[a]!) D i1 (b-1)
   generalize Go.Sort.scanDown (λx=>!RR x D[a]!) D i1 (b-1)=j1 at KY
   refine An$ RI O$ RK O$ PQ$ Q8 O (λh4=>?_)$ λh4=>?_
   ·rw[if_pos ω];refine An ?_;have aa:=Ext.Qh wB;refine Qn [13,15] (λw'=>Ext wB w') (by kernel_rfl) O$ R1 0 O O (aa)$ R1 1 O O (aa)$ Rm (i:=2) O (by kernel_rfl) O O (λ_=>YQ O) (aa)$ Rm (i:=3) O (by kernel_rfl) O O (λ_=>YQ O) (aa)$ R1 4 O O (aa)$ R1 5 O O (aa)$ Qs 6 O (Rh QE Ql O O ω) aa$ R1 8 O O (aa)$ R1 9 O O (aa)$ Qs 10 O (Rh QE Ql O O ω) aa$ qL 7 O (λ_ h=>QF RQ O O ((pR.ext h).get (i:=a) ω)) aa$ qL 11 O (λ_ h=>QF RQ O O ((pR.ext h).get (i:=j1) ω)) aa$ Qs 12 O (Rh QE Ql O O ω) aa ?_;refine Ut [13]$ qO 13$ QO (i:=13) O O (SY Ql O O O (pR.ext aa).sl ((pR.ext aa).jlt ω)) ?_;rintro w2a ⟨y8,y9⟩;refine⟨trivial,?_⟩;have o8:=(pR.ext aa).set y8;refine PT 14 O (Rh QE Ql O O ω) trivial$ qO 15$ QO (i:=15) O O (SY Ql O O O o8.sl (o8.jlt ω)) ?_;rintro w2 ⟨Dm,Dn⟩;refine⟨trivial,?_⟩;have Do:=o8.set Dm;have ya:Kp (λk=>k=g) wB w2:=aa.kp.trans (y9.trans Dn);refine qE$ Qx O$ Rt O$ PO func251 O ?_;exact⟨_,rfl,rfl,Do,(m9.trans (pQ.trans jy)).trans ya⟩
   ·rw [if_neg ω]; refine PR (An ?_); have ag := Ext.Qh wB; refine Qn [13,15] (λw' => Ext wB w') (by kernel_rfl) O (R1 0 O O (ag) (R1 1 O O (ag) (Rm (i := 2) O (by kernel_rfl) O O (λ_ => YQ O) (ag) (Rm (i := 3) O (by kernel_rfl) O O (λ_ => YQ O) (ag) (R1 4 O O (ag) (R1 5 O O (ag) (Qs 6 O (Rh QE Ql O O ω) ag (R1 8 O O (ag) (R1 9 O O (ag) (Qs 10 O (Rh QE Ql O O ω) ag (qL 7 O (λ_ h=>QF RQ O O ((pR.ext h).get (i := j1) ω)) ag (qL 11 O (λ_ h=>QF RQ O O ((pR.ext h).get (i := i1) ω)) ag (Qs 12 O (Rh QE Ql O O ω) ag ?_))))))))))))); refine Ut [13] (qO 13 (QO (i := 13) O O (SY Ql O O O (pR.ext ag).sl ((pR.ext ag).jlt ω)) ?_)); rintro w3a ⟨yb, yd⟩; refine ⟨trivial, ?_⟩; have o9 := (pR.ext ag).set yb; refine PT 14 O (Rh QE Ql O O ω) trivial (qO 15 (QO (i := 15) O O (SY Ql O O O o9.sl (o9.jlt ω)) ?_)); rintro w3 ⟨Dp, Dq⟩; refine ⟨trivial, ?_⟩; have Dr := o9.set Dp; have ye : Kp (λk => k = g) wB w3 := ag.kp.trans (yd.trans Dq); refine qE (Qx O (R7 O (RZ O (SA O (Qc O (Qy.qb (e := [(0, _), (1, _), (10, _), (11, _)]) ?_)))))); refine RP ?_; rw [show (j1 : Int) - 1 = ((j1 - 1 : Nat) : Int) by omega]; refine SK (α := Nat × Nat × Array Nat) ((i1 + 1, j1 - 1, Go.Sort.swp D i1 j1)) (λy => [(0, .slice (some ⟨g, 0, none⟩) n cap), (1, I (a : Int)), (10, I (y.1 : Int)), (11, I (y.2.1 : Int))]) (λy w' => TU w' g n cap y.2.2 /\ Kp (λk => k = g) w3 w' /\ Go.Sort.partLoop RR a y.1 y.2.1 y.2.2 = Go.Sort.partLoop RR a (i1 + 1) (j1 - 1) (Go.Sort.swp D i1 j1) /\ (a < y.1 /\ y.1 <= n /\ y.2.1 < n)) (λy => y.2.1 + 1 - y.1) ?hI ?hround
    case hI=>exact⟨Dr,Kp.refl _ _,rfl,by dsimp only;omega⟩
    case hround =>
     rintro⟨i,j,d4⟩ w4 ⟨eB,ar,cK,bH⟩ ih;dsimp only at eB ar cK bH;rw[Go.Sort.partLoop_eq] at cK
     try dsimp only
     refine PS$ RP$ Tf (λe' w'=>e'=[(0,.slice (some ⟨g,0,none⟩) n cap),(1,I (a:Int)),(10,I (((Go.Sort.scanUp (λx=>RR x d4[a]!) d4 j (i)):Nat):Int)),(11,I ((j:Nat):Int))]/\TU w' g n cap d4/\Kp (λk=>k=g) w4 w') ?km$ λkm=>?uv
     case km=>
      rintro e' wC ⟨rfl,Dt,km⟩;have dW:=Go.Sort.scanUp_ge (λx=>RR x d4[a]!) d4 j i;have lS:=Ye (λx=>RR x d4[a]!) d4 j i
      generalize Go.Sort.scanUp (λx=>RR x d4[a]!) d4 j i=i2 at cK dW lS
      refine RP$ Tf (λe' w'=>e'=[(0,.slice (some ⟨g,0,none⟩) n cap),(1,I (a:Int)),(10,I ((i2:Nat):Int)),(11,I (((Go.Sort.scanDown (λx=>!RR x d4[a]!) d4 i2 (j)):Nat):Int))]/\TU w' g n cap d4/\Kp (λk=>k=g) wC w') ?fR$ λfR=>?uu
      case fR=>
       rintro e' wD ⟨rfl,jz,fR⟩;have m8:=Go.Sort.scanDown_le (λx=>!RR x d4[a]!) d4 i2 j
       generalize Go.Sort.scanDown (λx=>!RR x d4[a]!) d4 i2 j=j2 at cK m8
       refine An$ RI O$ RK O$ PQ$ Q8 O (λh5=>?_)$ λh5=>?_
       ·rw[if_pos ω] at cK;refine Q5 O$ An ?_;rw[<-cK];have ma:=((m9.trans (pQ.trans jy)).trans ye).trans (ar.trans (km.trans fR));have aP:=Ext.Qh wD;refine Qn [13,15] (λw'=>Ext wD w') (by kernel_rfl) O$ R1 0 O O (aP)$ R1 1 O O (aP)$ Rm (i:=2) O (by kernel_rfl) O O (λ_=>YQ O) (aP)$ Rm (i:=3) O (by kernel_rfl) O O (λ_=>YQ O) (aP)$ R1 4 O O (aP)$ R1 5 O O (aP)$ Qs 6 O (Rh QE Ql O O ω) aP$ R1 8 O O (aP)$ R1 9 O O (aP)$ Qs 10 O (Rh QE Ql O O ω) aP$ qL 7 O (λ_ h=>QF RQ O O ((jz.ext h).get (i:=a) ω)) aP$ qL 11 O (λ_ h=>QF RQ O O ((jz.ext h).get (i:=j2) ω)) aP$ Qs 12 O (Rh QE Ql O O ω) aP ?_;refine Ut [13]$ qO 13$ QO (i:=13) O O (SY Ql O O O (jz.ext aP).sl ((jz.ext aP).jlt ω)) ?_;rintro w8a ⟨gz,gA⟩;refine⟨trivial,?_⟩;have cQ:=(jz.ext aP).set gz;refine PT 14 O (Rh QE Ql O O ω) trivial$ qO 15$ QO (i:=15) O O (SY Ql O O O cQ.sl (cQ.jlt ω)) ?_;rintro w8 ⟨kU,kV⟩;refine⟨trivial,?_⟩;have kW:=cQ.set kU;have fI:Kp (λk=>k=g) wD w8:=aP.kp.trans (gA.trans kV);refine qE$ Qx O$ Rt O$ PO func251 O ?_;exact⟨_,rfl,rfl,kW,ma.trans fI⟩
       ·rw[if_neg ω] at cK;refine PR$ An ?_;have aP:=Ext.Qh wD;refine Qn [13,15] (λw'=>Ext wD w') (by kernel_rfl) O$ R1 0 O O (aP)$ R1 1 O O (aP)$ Rm (i:=2) O (by kernel_rfl) O O (λ_=>YQ O) (aP)$ Rm (i:=3) O (by kernel_rfl) O O (λ_=>YQ O) (aP)$ R1 4 O O (aP)$ R1 5 O O (aP)$ Qs 6 O (Rh QE Ql O O ω) aP$ R1 8 O O (aP)$ R1 9 O O (aP)$ Qs 10 O (Rh QE Ql O O ω) aP$ qL 7 O (λ_ h=>QF RQ O O ((jz.ext h).get (i:=j2) ω)) aP$ qL 11 O (λ_ h=>QF RQ O O ((jz.ext h).get (i:=i2) ω)) aP$ Qs 12 O (Rh QE Ql O O ω) aP ?_;refine Ut [13]$ qO 13$ QO (i:=13) O O (SY Ql O O O (jz.ext aP).sl ((jz.ext aP).jlt ω)) ?_;rintro w8a ⟨gz,gA⟩;refine⟨trivial,?_⟩;have cQ:=(jz.ext aP).set gz;refine PT 14 O (Rh QE Ql O O ω) trivial$ qO 15$ QO (i:=15) O O (SY Ql O O O cQ.sl (cQ.jlt ω)) ?_;rintro w8 ⟨kU,kV⟩;refine⟨trivial,?_⟩;have kW:=cQ.set kU;have fI:Kp (λk=>k=g) wD w8:=aP.kp.trans (gA.trans kV);refine qE$ Qx O$ R7 O$ Qc O$ St O$ SA O$ Qc O$ PM ?_;rw[show(j2:Int)-1=((j2-1:Nat):Int) by omega];exact(ih (i2+1,j2-1,Go.Sort.swp d4 i2 j2) _ ⟨kW,(ar.trans (km.trans fR)).trans fI,cK,by dsimp only;omega⟩ (by dsimp only;omega)).qb
      case uu=>
       refine SK (α:=Nat) (j) (λr=>[(0,.slice (some ⟨g,0,none⟩) n cap),(1,I (a:Int)),(10,I ((i2:Nat):Int)),(11,I ((r:Nat):Int))]) (λr w'=>TU w' g n cap d4/\Kp (λk=>k=g) wC w'/\Go.Sort.scanDown (λx=>!RR x d4[a]!) d4 i2 r=Go.Sort.scanDown (λx=>!RR x d4[a]!) d4 i2 (j)/\r<n) (λr=>r) ?hI ?hround
       case hI=>exact⟨Dt,Kp.refl _ _,rfl,ω⟩
       case hround=>
        rintro r w5 ⟨aV,aj,cg,bP⟩ ih
        try dsimp only
        have hg:=Ext.Qh w5;rcases Nat.lt_or_ge r (i2) with hj|hj
        ·refine An$ An$ S5 (λw'=>Ext w5 w') O$ Qi 0 O O (hg)$ Qi 1 O O (hg)$ PT 2 O (yle O O) hg$ UQ$ Qi 3 O O (hg)$ qJ 4 O (hg)$ qJ 5 O (hg)$ qJ 6 O (hg)$ qJ 7 O (hg)$ qJ 8 O (hg)$ qJ 9 O (hg) ?_;refine qJ 10 O (hg)$ qJ 11 O (hg)$ qJ 12 O (hg)$ qJ 13 O (hg)$ PT 14 O (Vt O O) hg$ qE$ PZ O$ Q5 O ?_;rw[Ti _ _ _ _ (.inl hj)] at cg;subst cg;exact(fR _ _ ⟨rfl,aV.ext hg,aj.trans hg.kp⟩).qb
        ·refine An$ An$ S5 (λw'=>Ext w5 w') O$ Qi 0 O O (hg)$ Qi 1 O O (hg)$ PT 2 O (yle O O) hg$ Vd$ Qi 3 O O (hg)$ Qi 4 O O (hg)$ Qi 5 O O (hg)$ PT 6 O (Rh QE Ql O O ω) hg$ Qi 8 O O (hg)$ Qi 9 O O (hg)$ PT 10 O (Rh QE Ql O O ω) hg ?_;refine qT 7 O (λ_ h=>QF RQ O O ((aV.ext h).get (i:=r) ω)) hg$ qT 11 O (λ_ h=>QF RQ O O ((aV.ext h).get (i:=a) ω)) hg$ T9 12 O Xs O (Tg _ _ _) ?_;rintro _ w6 ⟨rfl,rfl⟩;refine⟨hg,?_⟩;refine PT 13 O ((zb7 O)) hg$ PT 14 O (W2 O O) hg$ qE$ Rr O (λh1=>?_)$ λh1=>?_
         ·rw[XE _ _ _ _ hj (by simpa[RR] using h1) ω] at cg;refine PR$ PS$ St O$ SA O$ Qc O$ PM ?_;rw[show(r:Int)-1=((r-1:Nat):Int) by omega];exact(ih (r-1) _ ⟨aV.ext hg,aj.trans hg.kp,cg,ω⟩ ω).qb
         ·rw[Ti _ _ _ _ (.inr (by simpa[RR] using h1))] at cg;refine Q5 O ?_;subst cg;exact(fR _ _ ⟨rfl,aV.ext hg,aj.trans hg.kp⟩).qb
     case uv=>
      refine SK (α:=Nat) (i) (λr=>[(0,.slice (some ⟨g,0,none⟩) n cap),(1,I (a:Int)),(10,I ((r:Nat):Int)),(11,I ((j:Nat):Int))]) (λr w'=>TU w' g n cap d4/\Kp (λk=>k=g) w4 w'/\Go.Sort.scanUp (λx=>RR x d4[a]!) d4 j r=Go.Sort.scanUp (λx=>RR x d4[a]!) d4 j (i)/\i<=r/\r<=n+1) (λr=>j+1-r) ?hI ?hround
      case hI=>exact⟨eB,Kp.refl _ _,rfl,Nat.le_refl _,ω⟩
      case hround=>
       rintro r w5 ⟨aV,aj,cg,bP⟩ ih
       try dsimp only
       have hg:=Ext.Qh w5;rcases Nat.lt_or_ge (j) r with hj|hj
       ·refine An$ An$ S5 (λw'=>Ext w5 w') O$ Qi 0 O O (hg)$ Qi 1 O O (hg)$ PT 2 O (yle O O) hg$ UQ$ Qi 3 O O (hg)$ qJ 4 O (hg)$ qJ 5 O (hg)$ qJ 6 O (hg)$ qJ 7 O (hg)$ qJ 8 O (hg)$ qJ 9 O (hg) ?_;refine qJ 10 O (hg)$ qJ 11 O (hg)$ qJ 12 O (hg)$ PT 13 O (Vt O O) hg$ qE$ PZ O$ Q5 O ?_;rw[Um _ _ _ _ (.inl hj)] at cg;subst cg;exact(km _ _ ⟨rfl,aV.ext hg,aj.trans hg.kp⟩).qb
       ·refine An$ An$ S5 (λw'=>Ext w5 w') O$ Qi 0 O O (hg)$ Qi 1 O O (hg)$ PT 2 O (yle O O) hg$ Vd$ Qi 3 O O (hg)$ Qi 4 O O (hg)$ Qi 5 O O (hg)$ PT 6 O (Rh QE Ql O O ω) hg$ Qi 8 O O (hg)$ Qi 9 O O (hg)$ PT 10 O (Rh QE Ql O O ω) hg ?_;refine qT 7 O (λ_ h=>QF RQ O O ((aV.ext h).get (i:=r) ω)) hg$ qT 11 O (λ_ h=>QF RQ O O ((aV.ext h).get (i:=a) ω)) hg$ T9 12 O Xs O (Tg _ _ _) ?_;rintro _ w6 ⟨rfl,rfl⟩;refine⟨hg,?_⟩;refine PT 13 O (W2 O O) hg$ qE$ Rr O (λh1=>?_)$ λh1=>?_
        ·rw[z0A _ _ _ _ hj (by simpa[RR] using h1)] at cg;refine PR$ PS$ St O$ R7 O$ Qc O$ PM ?_;exact(ih (r+1) _ ⟨aV.ext hg,aj.trans hg.kp,cg,ω,ω⟩ ω).qb
        ·rw[Um _ _ _ _ (.inr (by simpa[RR] using h1))] at cg;refine Q5 O ?_;subst cg;exact(km _ _ ⟨rfl,aV.ext hg,aj.trans hg.kp⟩).qb
  case Du=>
   refine SK (α:=Nat) (b-1) (λr=>[(0,.slice (some ⟨g,0,none⟩) n cap),(1,I (a:Int)),(10,I ((i1:Nat):Int)),(11,I ((r:Nat):Int))]) (λr w'=>TU w' g n cap D/\Kp (λk=>k=g) wA w'/\Go.Sort.scanDown (λx=>!RR x D[a]!) D i1 r=Go.Sort.scanDown (λx=>!RR x D[a]!) D i1 (b-1)/\r<n) (λr=>r) ?hI ?hround
   case hI=>exact⟨KX,Kp.refl _ _,rfl,ω⟩
   case hround=>
    rintro r w5 ⟨aV,aj,cg,bP⟩ ih
    try dsimp only
    have hg:=Ext.Qh w5;rcases Nat.lt_or_ge r (i1) with hj|hj
    ·refine An$ An$ S5 (λw'=>Ext w5 w') O$ Qi 0 O O (hg)$ Qi 1 O O (hg)$ PT 2 O (yle O O) hg$ UQ$ Qi 3 O O (hg)$ qJ 4 O (hg)$ qJ 5 O (hg)$ qJ 6 O (hg)$ qJ 7 O (hg)$ qJ 8 O (hg)$ qJ 9 O (hg) ?_;refine qJ 10 O (hg)$ qJ 11 O (hg)$ qJ 12 O (hg)$ qJ 13 O (hg)$ PT 14 O (Vt O O) hg$ qE$ PZ O$ Q5 O ?_;rw[Ti _ _ _ _ (.inl hj)] at cg;subst cg;exact(jy _ _ ⟨rfl,aV.ext hg,aj.trans hg.kp⟩).qb
    ·refine An$ An$ S5 (λw'=>Ext w5 w') O$ Qi 0 O O (hg)$ Qi 1 O O (hg)$ PT 2 O (yle O O) hg$ Vd$ Qi 3 O O (hg)$ Qi 4 O O (hg)$ Qi 5 O O (hg)$ PT 6 O (Rh QE Ql O O ω) hg$ Qi 8 O O (hg)$ Qi 9 O O (hg)$ PT 10 O (Rh QE Ql O O ω) hg ?_;refine qT 7 O (λ_ h=>QF RQ O O ((aV.ext h).get (i:=r) ω)) hg$ qT 11 O (λ_ h=>QF RQ O O ((aV.ext h).get (i:=a) ω)) hg$ T9 12 O Xs O (Tg _ _ _) ?_;rintro _ w6 ⟨rfl,rfl⟩;refine⟨hg,?_⟩;refine PT 13 O ((zb7 O)) hg$ PT 14 O (W2 O O) hg$ qE$ Rr O (λh1=>?_)$ λh1=>?_
     ·rw[XE _ _ _ _ hj (by simpa[RR] using h1) ω] at cg;refine PR$ PS$ St O$ SA O$ Qc O$ PM ?_;rw[show(r:Int)-1=((r-1:Nat):Int) by omega];exact(ih (r-1) _ ⟨aV.ext hg,aj.trans hg.kp,cg,ω⟩ ω).qb
     ·rw[Ti _ _ _ _ (.inr (by simpa[RR] using h1))] at cg;refine Q5 O ?_;subst cg;exact(jy _ _ ⟨rfl,aV.ext hg,aj.trans hg.kp⟩).qb
 case Dv=>
  refine SK (α:=Nat) (a+1) (λr=>[(0,.slice (some ⟨g,0,none⟩) n cap),(1,I (a:Int)),(10,I ((r:Nat):Int)),(11,I (((b-1):Nat):Int))]) (λr w'=>TU w' g n cap D/\Kp (λk=>k=g) w1 w'/\Go.Sort.scanUp (λx=>RR x D[a]!) D (b-1) r=Go.Sort.scanUp (λx=>RR x D[a]!) D (b-1) (a+1)/\a+1<=r/\r<=n+1) (λr=>(b-1)+1-r) ?hI ?hround
  case hI=>exact⟨iJ,Kp.refl _ _,rfl,Nat.le_refl _,ω⟩
  case hround=>
   rintro r w5 ⟨aV,aj,cg,bP⟩ ih
   try dsimp only
   have hg:=Ext.Qh w5;rcases Nat.lt_or_ge ((b-1)) r with hj|hj
   ·refine An$ An$ S5 (λw'=>Ext w5 w') O$ Qi 0 O O (hg)$ Qi 1 O O (hg)$ PT 2 O (yle O O) hg$ UQ$ Qi 3 O O (hg)$ qJ 4 O (hg)$ qJ 5 O (hg)$ qJ 6 O (hg)$ qJ 7 O (hg)$ qJ 8 O (hg)$ qJ 9 O (hg) ?_;refine qJ 10 O (hg)$ qJ 11 O (hg)$ qJ 12 O (hg)$ PT 13 O (Vt O O) hg$ qE$ PZ O$ Q5 O ?_;rw[Um _ _ _ _ (.inl hj)] at cg;subst cg;exact(pQ _ _ ⟨rfl,aV.ext hg,aj.trans hg.kp⟩).qb
   ·refine An$ An$ S5 (λw'=>Ext w5 w') O$ Qi 0 O O (hg)$ Qi 1 O O (hg)$ PT 2 O (yle O O) hg$ Vd$ Qi 3 O O (hg)$ Qi 4 O O (hg)$ Qi 5 O O (hg)$ PT 6 O (Rh QE Ql O O ω) hg$ Qi 8 O O (hg)$ Qi 9 O O (hg)$ PT 10 O (Rh QE Ql O O ω) hg ?_;refine qT 7 O (λ_ h=>QF RQ O O ((aV.ext h).get (i:=r) ω)) hg$ qT 11 O (λ_ h=>QF RQ O O ((aV.ext h).get (i:=a) ω)) hg$ T9 12 O Xs O (Tg _ _ _) ?_;rintro _ w6 ⟨rfl,rfl⟩;refine⟨hg,?_⟩;refine PT 13 O (W2 O O) hg$ qE$ Rr O (λh1=>?_)$ λh1=>?_
    ·rw[z0A _ _ _ _ hj (by simpa[RR] using h1)] at cg;refine PR$ PS$ St O$ R7 O$ Qc O$ PM ?_;exact(ih (r+1) _ ⟨aV.ext hg,aj.trans hg.kp,cg,ω,ω⟩ ω).qb
    ·rw[Um _ _ _ _ (.inr (by simpa[RR] using h1))] at cg;refine Q5 O ?_;subst cg;exact(pQ _ _ ⟨rfl,aV.ext hg,aj.trans hg.kp⟩).qb
def zeG {w:World}{g n cap:Nat}{d:Array Nat}(h:TU w g n cap d)(a b pv:Nat)(Dl:a<=pv)(sE:pv<b)(hb:b<=n)(hn:n<=65536):
  Qu prog 250 [.slice (some ⟨g,0,none⟩) n cap,I (a:Int),I (b:Int),I (pv:Int)] w λu w'=>u=I ((Go.Sort.partitionEqual RR d a b pv).1:Int)/\TU w' g n cap (Go.Sort.partitionEqual RR d a b pv).2/\Kp (λk=>k=g) w w':=by
 refine py (e:=[(0,_),(1,_),(2,_),(3,_)]) func250 O ntmps250 O O$ RN O$ An ?_
 have aD:=Ext.Qh w
 refine Qn [13,15] (λw'=>Ext w w') (by kernel_rfl) O$ R1 0 O O (aD)$ R1 1 O O (aD)$ Rm (i:=2) O (by kernel_rfl) O O (λ_=>YQ O) (aD)$ Rm (i:=3) O (by kernel_rfl) O O (λ_=>YQ O) (aD)$ R1 4 O O (aD)$ R1 5 O O (aD)$ Qs 6 O (Rh QE Ql O O ω) aD$ R1 8 O O (aD)$ R1 9 O O (aD)$ Qs 10 O (Rh QE Ql O O ω) aD$ qL 7 O (λ_ hS=>QF RQ O O ((h.ext hS).get (i:=pv) ω)) aD$ qL 11 O (λ_ hS=>QF RQ O O ((h.ext hS).get (i:=a) ω)) aD$ Qs 12 O (Rh QE Ql O O ω) aD ?_
 refine Ut [13]$ qO 13$ QO (i:=13) O O (SY Ql O O O (h.ext aD).sl ((h.ext aD).jlt ω)) ?_
 rintro w1a ⟨o6,o7⟩
 refine⟨trivial,?_⟩
 have gy:=(h.ext aD).set o6
 refine PT 14 O (Rh QE Ql O O ω) trivial$ qO 15$ QO (i:=15) O O (SY Ql O O O gy.sl (gy.jlt ω)) ?_
 rintro w1 ⟨ur,ut⟩
 refine⟨trivial,?_⟩
 have iJ:=gy.set ur
 have m9:Kp (λk=>k=g) w w1:=aD.kp.trans (o7.trans ut)
 refine qE$ Qx O$ R7 O$ Q4 O$ SA O$ Rt O$ Qy.qb (e:=[(0,_),(1,_),(8,_),(9,_),(10,_)]) ?_
 refine RP ?_
 unfold Go.Sort.partitionEqual
 replace iJ:TU w1 g n cap (Go.Sort.swp d a pv):=iJ
 generalize Go.Sort.swp d a pv=D at iJ
 rw[show(a:Int)+1=((a+1:Nat):Int) by omega,show(b:Int)-1=((b-1:Nat):Int) by omega]
 refine SK (α:=Nat×Nat×Array Nat) ((a+1,b-1,D)) (λy=>[(0,.slice (some ⟨g,0,none⟩) n cap),(1,I (a:Int)),(9,I (y.1:Int)),(10,I (y.2.1:Int))]) (λy w'=>TU w' g n cap y.2.2/\Kp (λk=>k=g) w1 w'/\Go.Sort.partEqLoop RR a y.1 y.2.1 y.2.2=Go.Sort.partEqLoop RR a (a+1) (b-1) D/\(a<y.1/\y.1<=n/\y.2.1<n)) (λy=>y.2.1+1-y.1) ?hI ?hround
 case hI=>exact⟨iJ,Kp.refl _ _,rfl,by dsimp only;omega⟩
 case hround =>
  rintro⟨i,j,d4⟩ w4 ⟨eB,ar,cK,bH⟩ ih;dsimp only at eB ar cK bH;rw[Go.Sort.partEqLoop_eq] at cK
  try dsimp only
  refine PS$ RP$ Tf (λe' w'=>e'=[(0,.slice (some ⟨g,0,none⟩) n cap),(1,I (a:Int)),(9,I (((Go.Sort.scanUp (λx=>!RR d4[a]! x) d4 j (i)):Nat):Int)),(10,I ((j:Nat):Int))]/\TU w' g n cap d4/\Kp (λk=>k=g) w4 w') ?km$ λkm=>?uv
  case km=>
   rintro e' wC ⟨rfl,Dt,km⟩;have dW:=Go.Sort.scanUp_ge (λx=>!RR d4[a]! x) d4 j i;have lS:=Ye (λx=>!RR d4[a]! x) d4 j i
   generalize Go.Sort.scanUp (λx=>!RR d4[a]! x) d4 j i=i2 at cK dW lS
   refine RP$ Tf (λe' w'=>e'=[(0,.slice (some ⟨g,0,none⟩) n cap),(1,I (a:Int)),(9,I ((i2:Nat):Int)),(10,I (((Go.Sort.scanDown (λx=>RR d4[a]! x) d4 i2 (j)):Nat):Int))]/\TU w' g n cap d4/\Kp (λk=>k=g) wC w') ?fR$ λfR=>?uu
   case fR=>
    rintro e' wD ⟨rfl,jz,fR⟩;have m8:=Go.Sort.scanDown_le (λx=>RR d4[a]! x) d4 i2 j
    generalize Go.Sort.scanDown (λx=>RR d4[a]! x) d4 i2 j=j2 at cK m8
    refine An$ RI O$ RK O$ PQ$ Q8 O (λh5=>?_)$ λh5=>?_
    ·rw[if_pos ω] at cK;rw[<-cK];refine Q5 O$ Qx O$ Qc O$ PO func250 O ?_;exact⟨_,rfl,rfl,jz,m9.trans (ar.trans (km.trans fR))⟩
    ·rw[if_neg ω] at cK;refine PR$ An ?_;have aP:=Ext.Qh wD;refine Qn [13,15] (λw'=>Ext wD w') (by kernel_rfl) O$ R1 0 O O (aP)$ R1 1 O O (aP)$ Rm (i:=2) O (by kernel_rfl) O O (λ_=>YQ O) (aP)$ Rm (i:=3) O (by kernel_rfl) O O (λ_=>YQ O) (aP)$ R1 4 O O (aP)$ R1 5 O O (aP)$ Qs 6 O (Rh QE Ql O O ω) aP$ R1 8 O O (aP)$ R1 9 O O (aP)$ Qs 10 O (Rh QE Ql O O ω) aP$ qL 7 O (λ_ h=>QF RQ O O ((jz.ext h).get (i:=j2) ω)) aP$ qL 11 O (λ_ h=>QF RQ O O ((jz.ext h).get (i:=i2) ω)) aP$ Qs 12 O (Rh QE Ql O O ω) aP ?_;refine Ut [13]$ qO 13$ QO (i:=13) O O (SY Ql O O O (jz.ext aP).sl ((jz.ext aP).jlt ω)) ?_;rintro w8a ⟨gz,gA⟩;refine⟨trivial,?_⟩;have cQ:=(jz.ext aP).set gz;refine PT 14 O (Rh QE Ql O O ω) trivial$ qO 15$ QO (i:=15) O O (SY Ql O O O cQ.sl (cQ.jlt ω)) ?_;rintro w8 ⟨kU,kV⟩;refine⟨trivial,?_⟩;have kW:=cQ.set kU;have fI:Kp (λk=>k=g) wD w8:=aP.kp.trans (gA.trans kV);refine qE$ Qx O$ R7 O$ Qc O$ St O$ SA O$ Qc O$ PM ?_;rw[show(j2:Int)-1=((j2-1:Nat):Int) by omega];exact(ih (i2+1,j2-1,Go.Sort.swp d4 i2 j2) _ ⟨kW,(ar.trans (km.trans fR)).trans fI,cK,by dsimp only;omega⟩ (by dsimp only;omega)).qb
   case uu=>
    refine SK (α:=Nat) (j) (λr=>[(0,.slice (some ⟨g,0,none⟩) n cap),(1,I (a:Int)),(9,I ((i2:Nat):Int)),(10,I ((r:Nat):Int))]) (λr w'=>TU w' g n cap d4/\Kp (λk=>k=g) wC w'/\Go.Sort.scanDown (λx=>RR d4[a]! x) d4 i2 r=Go.Sort.scanDown (λx=>RR d4[a]! x) d4 i2 (j)/\r<n) (λr=>r) ?hI ?hround
    case hI=>exact⟨Dt,Kp.refl _ _,rfl,ω⟩
    case hround=>
     rintro r w5 ⟨aV,aj,cg,bP⟩ ih
     try dsimp only
     have hg:=Ext.Qh w5;rcases Nat.lt_or_ge r (i2) with hj|hj
     ·refine An$ An$ S5 (λw'=>Ext w5 w') O$ Qi 0 O O (hg)$ Qi 1 O O (hg)$ PT 2 O (yle O O) hg$ UQ$ Qi 3 O O (hg)$ qJ 4 O (hg)$ qJ 5 O (hg)$ qJ 6 O (hg)$ qJ 7 O (hg)$ qJ 8 O (hg)$ qJ 9 O (hg) ?_;refine qJ 10 O (hg)$ qJ 11 O (hg)$ qJ 12 O (hg)$ PT 13 O (Vt O O) hg$ qE$ PZ O$ Q5 O ?_;rw[Ti _ _ _ _ (.inl hj)] at cg;subst cg;exact(fR _ _ ⟨rfl,aV.ext hg,aj.trans hg.kp⟩).qb
     ·refine An$ An$ S5 (λw'=>Ext w5 w') O$ Qi 0 O O (hg)$ Qi 1 O O (hg)$ PT 2 O (yle O O) hg$ Vd$ Qi 3 O O (hg)$ Qi 4 O O (hg)$ Qi 5 O O (hg)$ PT 6 O (Rh QE Ql O O ω) hg$ Qi 8 O O (hg)$ Qi 9 O O (hg)$ PT 10 O (Rh QE Ql O O ω) hg ?_;refine qT 7 O (λ_ h=>QF RQ O O ((aV.ext h).get (i:=a) ω)) hg$ qT 11 O (λ_ h=>QF RQ O O ((aV.ext h).get (i:=r) ω)) hg$ T9 12 O Xs O (Tg _ _ _) ?_;rintro _ w6 ⟨rfl,rfl⟩;refine⟨hg,?_⟩;refine PT 13 O (W2 O O) hg$ qE$ Rr O (λh1=>?_)$ λh1=>?_
      ·rw[XE _ _ _ _ hj (by simpa[RR] using h1) ω] at cg;refine PR$ PS$ St O$ SA O$ Qc O$ PM ?_;rw[show(r:Int)-1=((r-1:Nat):Int) by omega];exact(ih (r-1) _ ⟨aV.ext hg,aj.trans hg.kp,cg,ω⟩ ω).qb
      ·rw[Ti _ _ _ _ (.inr (by simpa[RR] using h1))] at cg;refine Q5 O ?_;subst cg;exact(fR _ _ ⟨rfl,aV.ext hg,aj.trans hg.kp⟩).qb
  case uv=>
   refine SK (α:=Nat) (i) (λr=>[(0,.slice (some ⟨g,0,none⟩) n cap),(1,I (a:Int)),(9,I ((r:Nat):Int)),(10,I ((j:Nat):Int))]) (λr w'=>TU w' g n cap d4/\Kp (λk=>k=g) w4 w'/\Go.Sort.scanUp (λx=>!RR d4[a]! x) d4 j r=Go.Sort.scanUp (λx=>!RR d4[a]! x) d4 j (i)/\i<=r/\r<=n+1) (λr=>j+1-r) ?hI ?hround
   case hI=>exact⟨eB,Kp.refl _ _,rfl,Nat.le_refl _,ω⟩
   case hround=>
    rintro r w5 ⟨aV,aj,cg,bP⟩ ih
    try dsimp only
    have hg:=Ext.Qh w5;rcases Nat.lt_or_ge (j) r with hj|hj
    ·refine An$ An$ S5 (λw'=>Ext w5 w') O$ Qi 0 O O (hg)$ Qi 1 O O (hg)$ PT 2 O (yle O O) hg$ UQ$ Qi 3 O O (hg)$ qJ 4 O (hg)$ qJ 5 O (hg)$ qJ 6 O (hg)$ qJ 7 O (hg)$ qJ 8 O (hg)$ qJ 9 O (hg) ?_;refine qJ 10 O (hg)$ qJ 11 O (hg)$ qJ 12 O (hg)$ qJ 13 O (hg)$ PT 14 O (Vt O O) hg$ qE$ PZ O$ Q5 O ?_;rw[Um _ _ _ _ (.inl hj)] at cg;subst cg;exact(km _ _ ⟨rfl,aV.ext hg,aj.trans hg.kp⟩).qb
    ·refine An$ An$ S5 (λw'=>Ext w5 w') O$ Qi 0 O O (hg)$ Qi 1 O O (hg)$ PT 2 O (yle O O) hg$ Vd$ Qi 3 O O (hg)$ Qi 4 O O (hg)$ Qi 5 O O (hg)$ PT 6 O (Rh QE Ql O O ω) hg$ Qi 8 O O (hg)$ Qi 9 O O (hg)$ PT 10 O (Rh QE Ql O O ω) hg ?_;refine qT 7 O (λ_ h=>QF RQ O O ((aV.ext h).get (i:=a) ω)) hg$ qT 11 O (λ_ h=>QF RQ O O ((aV.ext h).get (i:=r) ω)) hg$ T9 12 O Xs O (Tg _ _ _) ?_;rintro _ w6 ⟨rfl,rfl⟩;refine⟨hg,?_⟩;refine PT 13 O ((zb7 O)) hg$ PT 14 O (W2 O O) hg$ qE$ Rr O (λh1=>?_)$ λh1=>?_
     ·rw[z0A _ _ _ _ hj (by simpa[RR] using h1)] at cg;refine PR$ PS$ St O$ R7 O$ Qc O$ PM ?_;exact(ih (r+1) _ ⟨aV.ext hg,aj.trans hg.kp,cg,ω,ω⟩ ω).qb
     ·rw[Um _ _ _ _ (.inr (by simpa[RR] using h1))] at cg;refine Q5 O ?_;subst cg;exact(km _ _ ⟨rfl,aV.ext hg,aj.trans hg.kp⟩).qb
section
variable (d:Array Nat)(b i:Nat)
theorem z3b (h:i<b)(hp:RR d[i]! d[i-1]! =false):Go.Sort.scanSorted RR d b i=Go.Sort.scanSorted RR d b (i+1):=by
 conv=>lhs;rw[Go.Sort.scanSorted]
 rw[if_pos]
 rw[Bool.and_eq_true];exact⟨by simpa using h,by rw[hp];rfl⟩
theorem Xn (h:b<=i\/RR d[i]! d[i-1]! =true):Go.Sort.scanSorted RR d b i=i:=by
 rw[Go.Sort.scanSorted,if_neg]
 intro hc
 rw[Bool.and_eq_true] at hc
 rcases h with h| h
 ·have:=of_decide_eq_true hc.1;omega
 ·rw[h] at hc;cases hc.2
end
theorem z9G (d:Array Nat)(a b:Nat)(h:b-a<50):Go.Sort.partialInsertionSort RR d a b=(d,decide (Go.Sort.scanSorted RR d b (a+1)=b)):=by
 unfold Go.Sort.partialInsertionSort
 rw[Go.Sort.partialIns]
 by_cases e:Go.Sort.scanSorted RR d b (a+1)=b
 ·simp only[e,if_pos,decide_true]
 ·simp only[if_neg e,if_pos h,decide_eq_false e]
def zdp {w:World}{g n cap:Nat}{d:Array Nat}(h:TU w g n cap d)(a b:Nat)(kg:a<b)(hb:b<=n)(hn:n<50):
  Qu prog 248 [.slice (some ⟨g,0,none⟩) n cap,I (a:Int),I (b:Int)] w λu w'=>u= .bool (Go.Sort.partialInsertionSort RR d a b).2/\TU w' g n cap d/\Kp (λk=>k=g) w w':=by
 rw[z9G d a b ω]
 dsimp only
 refine py (e:=[(0,_),(1,_),(2,_)]) func248 O ntmps248 O O$ qN O$ RZ O$ R7 O$ Qc O$ An$ RN O$ PS ?_
 rw[show(a:Int)+1=((a+1:Nat):Int) by omega]
 refine SK (α:=Unit) (()) (λ_=>[(0,.slice (some ⟨g,0,none⟩) n cap),(1,I (a:Int)),(2,I (b:Int)),(7,I ((a+1:Nat):Int)),(8,I 0)]) (λy w'=>w'=w) (λy=>0) ?hI ?hround
 case hI=>rfl
 case hround =>
  rintro _ w4 rfl ih0
  try dsimp only
  refine QS O$ RT O$ PQ$ Q8 O (λh0=>?_)$ λh0=>?_
  ·refine PR$ RP$ RP$ Tf (λe' w'=>e'=[(0,.slice (some ⟨g,0,none⟩) n cap),(1,I (a:Int)),(2,I (b:Int)),(7,I (Go.Sort.scanSorted RR d b (a+1):Int)),(8,I 0)]/\TU w' g n cap d/\Kp (λk=>k=g) w4 w') ?dp$ λdp=>?Dw
   case dp=>
    rintro e' ws ⟨rfl,IU,dp⟩;refine An$ RI O$ Ss O$ PQ$ Q8 O (λh1=>?_)$ λh1=>?_
    ·have xe:Go.Sort.scanSorted RR d b (a+1)=b:=by omega
     rw[decide_eq_true xe];refine RN O$ PO func248 O ?_;exact⟨_,rfl,rfl,IU,dp⟩
    ·have xe:¬Go.Sort.scanSorted RR d b (a+1)=b:=by omega
     rw[decide_eq_false xe];refine PR$ An$ RI O$ SA O$ RT O$ PQ$ Q8 O (λh2=>?_)$ λh2=>?_
     ·refine RN O$ PO func248 O ?_;exact⟨_,rfl,rfl,IU,dp⟩
     ·omega
   case Dw=>
    refine SK (α:=Nat) (a+1) (λr=>[(0,.slice (some ⟨g,0,none⟩) n cap),(1,I (a:Int)),(2,I (b:Int)),(7,I (r:Int)),(8,I 0)]) (λr w'=>TU w' g n cap d/\Kp (λk=>k=g) w4 w'/\Go.Sort.scanSorted RR d b r=Go.Sort.scanSorted RR d b (a+1)/\a<r/\r<=b) (λr=>b-r) ?hI ?hround
    case hI=>exact⟨h,Kp.refl _ _,rfl,Nat.lt_succ_self a,kg⟩
    case hround=>
     rintro r w5 ⟨aV,aj,cg,bP,qv⟩ ih
     try dsimp only
     have hg:=Ext.Qh w5;rcases Nat.lt_or_ge r b with hj|hj
     ·refine An$ An$ S5 (λw'=>Ext w5 w') O$ Qi 0 O O (hg)$ Qi 1 O O (hg)$ PT 2 O (ylt O O) hg$ Vd$ Qi 3 O O (hg)$ Qi 4 O O (hg)$ Qi 5 O O (hg)$ PT 6 O (Rh QE Ql O O ω) hg$ Qi 8 O O (hg)$ Qi 9 O O (hg)$ PT 10 O (YM O O ω) hg ?_;rw[show(r:Int)-1=((r-1:Nat):Int) by omega];refine qT 7 O (λ_ h=>QF RQ O O ((aV.ext h).get (i:=r) ω)) hg$ PT 11 O (Rh QE Ql O O ω) hg$ qT 12 O (λ_ h=>QF RQ O O ((aV.ext h).get (i:=r-1) ω)) hg$ T9 13 O Xs O (Tg _ _ _) ?_;rintro _ w6 ⟨rfl,rfl⟩;refine⟨hg,?_⟩;refine PT 14 O ((zb7 O)) hg$ PT 15 O (W2 O O) hg$ qE$ Rr O (λh3=>?_)$ λh3=>?_
      ·rw[z3b _ _ _ hj (by simpa[RR] using h3)] at cg;refine PR$ PS$ St O$ R7 O$ Qc O$ PM ?_;exact(ih (r+1) _ ⟨aV.ext hg,aj.trans hg.kp,cg,ω,ω⟩ ω).qb
      ·rw[Xn _ _ _ (.inr (by simpa[RR] using h3))] at cg;refine Q5 O ?_;subst cg;exact(dp _ _ ⟨rfl,aV.ext hg,aj.trans hg.kp⟩).qb
     ·refine An$ An$ S5 (λw'=>Ext w5 w') O$ Qi 0 O O (hg)$ Qi 1 O O (hg)$ PT 2 O (ylt O O) hg$ UQ$ Qi 3 O O (hg)$ qJ 4 O (hg)$ qJ 5 O (hg)$ qJ 6 O (hg)$ qJ 7 O (hg)$ qJ 8 O (hg)$ qJ 9 O (hg) ?_;refine qJ 10 O (hg)$ qJ 11 O (hg)$ qJ 12 O (hg)$ qJ 13 O (hg)$ qJ 14 O (hg)$ PT 15 O (Vt O O) hg$ qE$ PZ O$ Q5 O ?_;rw[Xn _ _ _ (.inl hj)] at cg;subst cg;exact(dp _ _ ⟨rfl,aV.ext hg,aj.trans hg.kp⟩).qb
  ·exact absurd ψ h0
def Za {w:World}{g n cap sb s:Nat}{d:Array Nat}(h:TU w g n cap d)(hB:Q7 w sb [I (s:Int)] 3)(hs:s<=1000)(x y:Nat)(hx:x<n)(hy:y<n)(sF:sb≠g):
  Qu prog 259 [.slice (some ⟨g,0,none⟩) n cap,I (x:Int),I (y:Int),ptr sb 0] w λu w'=>∃x' y' s':Nat,u= .tuple #[I (x':Int),I (y':Int)]/\((x'=x/\y'=y)\/(x'=y/\y'=x))/\s'<=s+1/\Q7 w' sb [I (s':Int)] 3/\TU w' g n cap d/\Kp (λk=>k=sb) w w':=by
 refine py (e:=[(0,_),(1,_),(2,_),(3,_)]) func259 O ntmps259 O O ?_
 have hg:=Ext.Qh w
 refine qN O$ Rt O$ An$ An$ S5 (λw'=>Ext w w') O$ Qi 0 O O (hg)$ Qi 1 O O (hg)$ PT 2 O (Rh QE Ql O O ω) hg$ Qi 4 O O (hg)$ Qi 5 O O (hg)$ PT 6 O (Rh QE Ql O O ω) hg$ qT 3 O (λ_ hS=>QF RQ O O ((h.ext hS).get (i:=y) ω)) hg$ qT 7 O (λ_ hS=>QF RQ O O ((h.ext hS).get (i:=x) ω)) hg$ T9 8 O Xs O (Tg _ _ _) ?_
 rintro _ w6 ⟨rfl,rfl⟩
 refine⟨hg,?_⟩
 refine qE$ Rr O (λh1=>?_)$ λh1=>?_
 ·have ak:=hg.PN hB;refine Qx O$ QA O$ qV (PX U3 O O ak O)$ R7 O$ QA O$ Qb O (RV Rl O O O ak ξ) ?_;rintro w3 ⟨aw,av⟩;refine qM O$ Qp O$ Rt O$ PO func259 O ?_;exact⟨_,rfl,y,x,s+1,rfl,.inr ⟨rfl,rfl⟩,Nat.le_refl _,aw,(h.ext hg).kp av (λe=>sF e.symm),hg.kp.trans av⟩
 ·refine PR$ RI O$ Rt O$ PO func259 O ?_;exact⟨_,rfl,x,y,s,rfl,.inl ⟨rfl,rfl⟩,Nat.le_succ _,hg.PN hB,h.ext hg,hg.kp⟩
def z7i {w:World}{g n cap sb s:Nat}{d:Array Nat}(h:TU w g n cap d)(hB:Q7 w sb [I (s:Int)] 3)(hs:s<=500)(x y z:Nat)(hx:x<n)(hy:y<n)(hz:z<n)(sF:sb≠g):
  Qu prog 257 [.slice (some ⟨g,0,none⟩) n cap,I (x:Int),I (y:Int),I (z:Int),ptr sb 0] w λu w'=>∃x' s':Nat,u=I (x':Int)/\(x'=x\/x'=y\/x'=z)/\s'<=s+3/\Q7 w' sb [I (s':Int)] 3/\TU w' g n cap d/\Kp (λk=>k=sb) w w':=by
 refine py (e:=[(0,_),(1,_),(2,_),(3,_),(4,_)]) func257 O ntmps257 O O$ qN O$ S7 O$ Qp O$ Qp O$ Qk zbS O (Za h hB ω x y hx hy sF) ?_
 rintro _ w1 ⟨x1,y1,s1,rfl,KZ,eA,ai,mc,ay⟩
 refine Q4 O$ TK O$ TN O$ S7 O$ Qp O$ Qp O$ Qk zbS O (Za mc ai ω y1 z ω hz sF) ?_
 rintro _ w2 ⟨y2,z2,s2,rfl,L0,dy,ak,qw,am⟩
 refine Q4 O$ TK O$ TN O$ S7 O$ Qp O$ Qp O$ Qk zbS O (Za qw ak ω x1 y2 ω ω sF) ?_
 rintro _ w3 ⟨x3,y3,s3,rfl,L3,pS,aw,xh,av⟩
 refine Q4 O$ TK O$ Rt O$ Qy.qb (e:=[(2,_),(10,_)]) ?_
 refine Qx O$ Qc O$ PO func257 O ?_
 exact⟨_,rfl,y3,s3,rfl,ω,ω,aw,xh,(ay.trans am).trans av⟩
def zaC {w:World}{g n cap:Nat}{d:Array Nat}(h:TU w g n cap d)(a b:Nat)(kg:a+12<b)(hb:b<=n)(hn:n<50):
  Qu prog 246 [.slice (some ⟨g,0,none⟩) n cap,I (a:Int),I (b:Int)] w λu w'=>∃p t:Nat,u= .tuple #[I (p:Int),I (t:Int)]/\a<=p/\p<b/\t<=2/\TU w' g n cap d/\Ext w w':=by
 have L4:g<w.heap.size:=h.sl.lt O
 refine py (e:=[(0,_),(1,_),(2,_)]) func246 O ntmps246 O O$ qN O$ TN O$ S7 O$ Qp O$ SA O$ S7 O ?_
 rw[show(b:Int)-(a:Int)=((b-a:Nat):Int) by omega]
 refine PY O O (SE (cs:=[_]) Rl O) ?_
 rintro _ w1 ⟨sb,rfl,sF,ad,ai⟩
 replace ai:Q7 w1 sb [I ((0:Nat):Int)] 3:=ai
 refine qM O$ Qp O$ qV (Yh O O ω)$ qV (Xq O O ω)$ R7 O$ S7 O$ Qp O$ qV (Yh O O ω)$ qV (Xq O O ω)$ R7 O$ S7 O$ Qp O$ qV (Yh O O ω)$ qV (Xq O O ω) ?_
 refine R7 O$ Qc O$ Qy.qb (e:=[(0,_),(6,_),(7,_),(8,_),(9,_),(10,_),(11,_),(12,_)]) ?_
 refine QS O$ UZ O$ PQ ?_
 rw[show(a:Int)+((b-a:Nat):Int) / 4*1=((a+(b-a) / 4*1:Nat):Int) by omega,show(a:Int)+((b-a:Nat):Int) / 4*2=((a+(b-a) / 4*2:Nat):Int) by omega,show(a:Int)+((b-a:Nat):Int) / 4*3=((a+(b-a) / 4*3:Nat):Int) by omega]
 refine Q8 O (λh0=>?_)$ λh0=>?_
 ·refine QS O$ UZ O$ PQ$ Q8 O (λh1=>?_)$ λh1=>?_
  ·omega
  ·refine PR$ PW O$ Qp O$ Qp O$ Qk zj9 O (z7i (h.ext ad) ai ω (a+(b-a) / 4*1) (a+(b-a) / 4*2) (a+(b-a) / 4*3) ω ω ω ω) ?_;rintro _ w2 ⟨p,s,rfl,hp,hs,ak,qw,am⟩;have ae:Ext w w2:=ad.It am (λk e=>by omega);refine S7 O$ qV (PX U3 O O ak O)$ PQ$ PS$ qN O$ Ss O$ Qc O$ Q8 O (λh2=>?_)$ λh2=>?_
   ·refine Qx O$ Rt O$ PO func246 O ?_;exact⟨_,rfl,p,1,rfl,ω,ω,ω,qw,ae⟩
   ·refine qN O$ Ss O$ Qc O$ Q8 O (λh3=>?_)$ λh3=>?_
    ·refine Qx O$ Rt O$ PO func246 O ?_;exact⟨_,rfl,p,2,rfl,ω,ω,ω,qw,ae⟩
    ·refine Qx O$ Rt O$ PO func246 O ?_;exact⟨_,rfl,p,0,rfl,ω,ω,ω,qw,ae⟩
 ·omega
def zb6 {w:World}{xb r:Nat}(hB:Q7 w xb [Qg r] 370)(hr:r<18446744073709551616):
  Qu prog 255 [ptr xb 0] w λu w'=>∃r':Nat,u=Qg r'/\r'<18446744073709551616/\Q7 w' xb [Qg r'] 370/\Kp (λk=>k=xb) w w':=by
 refine py (e:=[(0,_)]) func255 O ntmps255 O O ?_
 have aT:=Ext.Qh w
 refine RN O$ An$ Qn [9] (λw'=>Ext w w') (by kernel_rfl) O$ R1 0 O O (aT)$ Qs 1 O (R8 O) aT$ qL 2 O (λ_ h=>PX z5U O O (h.PN hB) O) aT$ R1 3 O O (aT)$ Qs 4 O (R8 O) aT$ qL 5 O (λ_ h=>PX z5U O O (h.PN hB) O) aT$ Qs 6 O (Sr 13 8192 O O ψ O) aT$ Qs 7 O (z2Z O O ω ω) aT$ Qs 8 O (R8 O) aT ?_
 generalize jh:r^^^r*8192%18446744073709551616=r1
 have dm:r1<18446744073709551616:=by rw[<-jh];exact Nat.xor_lt_two_pow (n:=64) ω ω
 refine Ut [9]$ qO 9$ QO (i:=9) O O (RV z61 O O O (aT.PN hB) ξ) ?_
 rintro w1 ⟨ai,ay⟩
 refine⟨trivial,?_⟩
 replace ai:Q7 w1 xb [Qg r1] 370:=ai
 have aa:=Ext.Qh w1
 refine qE$ An$ Qn [9] (λw'=>Ext w1 w') (by kernel_rfl) O$ R1 0 O O (aa)$ Qs 1 O (R8 O) aa$ qL 2 O (λ_ h=>PX z5U O O (h.PN ai) O) aa$ R1 3 O O (aa)$ Qs 4 O (R8 O) aa$ qL 5 O (λ_ h=>PX z5U O O (h.PN ai) O) aa$ Qs 6 O (Vm 7 128 O O ψ O) aa$ Qs 7 O (z2Z O O ω ω) aa$ Qs 8 O (R8 O) aa ?_
 generalize i9:r1^^^r1 / 128=r2
 have dv:r2<18446744073709551616:=by rw[<-i9];exact Nat.xor_lt_two_pow (n:=64) ω ω
 refine Ut [9]$ qO 9$ QO (i:=9) O O (RV z61 O O O (aa.PN ai) ξ) ?_
 rintro w2 ⟨ak,am⟩
 refine⟨trivial,?_⟩
 replace ak:Q7 w2 xb [Qg r2] 370:=ak
 have ag:=Ext.Qh w2
 refine qE$ An$ Qn [9] (λw'=>Ext w2 w') (by kernel_rfl) O$ R1 0 O O (ag)$ Qs 1 O (R8 O) ag$ qL 2 O (λ_ h=>PX z5U O O (h.PN ak) O) ag$ R1 3 O O (ag)$ Qs 4 O (R8 O) ag$ qL 5 O (λ_ h=>PX z5U O O (h.PN ak) O) ag$ Qs 6 O (Sr 17 131072 O O ψ O) ag$ Qs 7 O (z2Z O O ω ω) ag$ Qs 8 O (R8 O) ag ?_
 generalize L5:r2^^^r2*131072%18446744073709551616=r3
 have cq:r3<18446744073709551616:=by rw[<-L5];exact Nat.xor_lt_two_pow (n:=64) ω ω
 refine Ut [9]$ qO 9$ QO (i:=9) O O (RV z61 O O O (ag.PN ak) ξ) ?_
 rintro w3 ⟨aw,av⟩
 refine⟨trivial,?_⟩
 replace aw:Q7 w3 xb [Qg r3] 370:=aw
 refine qE$ Qy.qb (e:=[(0,_),(2,_)]) ?_
 refine Qx O$ QA O$ qV (PX z5U O O aw O)$ Qc O$ PO func255 O ?_
 exact⟨_,rfl,r3,rfl,cq,aw,(aT.kp.trans ay).trans ((aa.kp.trans am).trans (ag.kp.trans av))⟩
def z8T (x:Nat)(hx:x<18446744073709551616)(w:World):Qu prog 235 [Qg x] w λv w'=>v=I (R3 x:Int)/\w'=w:=by
 refine py (e:=[(0,_)]) func235 O ntmps235 O O$ RN O$ An$ TT O$ Qx O$ Qk z44 O (VG x hx w) ?_
 rintro _ w ⟨rfl,rfl⟩
 refine Qc O$ PO func235 O ?_
 exact⟨_,rfl,rfl,rfl⟩
def zck (x:Nat)(hx:x<4294967296)(w:World):Qu prog 254 [I (x:Int)] w λv w'=>v=Qg (2^R3 x)/\w'=w:=by
 have hl:R3 x<=32:=Si ω
 have hp:2^R3 x<=2^32:=Nat.pow_le_pow_right ψ hl
 refine py (e:=[(0,_)]) func254 O ntmps254 O O$ qN O$ RZ O$ qV ((Rp O U3 zgS ω))$ Qk zfp O (z8T x ω w) ?_
 rintro _ w ⟨rfl,rfl⟩
 refine qV (Sr (R3 x) (2^R3 x) O O ω O) ?_
 rw[show 1*2^R3 x%18446744073709551616=2^R3 x by rw[Nat.one_mul];exact Nat.mod_eq_of_lt ω]
 refine Qc O$ PO func254 O ?_
 exact⟨_,rfl,rfl,rfl⟩
open Go.Sort in
def zcA {d:Array Nat}{a b i j:Nat}(h1:a<=i)(h2:i<b)(h3:a<=j)(h4:j<b)(h5:b<=d.size):PermIn a b d (swp d i j):=swp_permIn d a b i j h1 h2 h3 h4 h5
def zbX {w:World}{g n cap:Nat}{d:Array Nat}(h:TU w g n cap d)(a b:Nat)(kg:a+12<b)(hb:b<=n)(hn:n<50):
  Qu prog 245 [.slice (some ⟨g,0,none⟩) n cap,I (a:Int),I (b:Int)] w λu w'=>u= .tuple #[]/\∃d',Go.Sort.PermIn a b d d'/\TU w' g n cap d'/\Kp (λk=>k=g) w w':=by
 have L4:g<w.heap.size:=h.sl.lt O
 have Dx:2^(R3 (b-a)-1)<=b-a:=z1I ω
 have uw:2^R3 (b-a)<=2*(b-a):=by
  have iK:R3 (b-a)≠0:=λe=>by have:=Yq (v:=b-a);rw[e] at this;omega
  rw[show R3 (b-a)=R3 (b-a)-1+1 by omega,Nat.pow_succ];omega
 have CY:1<=2^R3 (b-a):=Nat.one_le_two_pow
 refine py (e:=[(0,_),(1,_),(2,_)]) func245 O ntmps245 O O$ RI O$ SA O ?_
 rw[show(b:Int)-(a:Int)=((b-a:Nat):Int) by omega]
 refine RZ O$ UZ O$ PQ$ Q8 O (λh0=>?_)$ λh0=>?_
 ·refine Qx O$ qV ((Rp O U3 z5U ω))$ PY O O (SE (cs:=[_]) z61 O) ?_;rintro _ w1 ⟨xb,rfl,IV,ad,ai⟩;refine Qb O (RV z61 O O O ai ξ) ?_;rintro w2 ⟨ak,am⟩;have ae:Ext w w2:=ad.It am (λk e=>by omega);replace ak:Q7 w2 xb [Qg (b-a)] 370:=ak;refine qM O$ Q4 O$ Qk zkT O (zck (b-a) ω _) ?_;rintro _ w2 ⟨rfl,rfl⟩
  generalize 2^R3 (b-a)=M at uw CY
  refine S7 O$ Qp O$ qV (Yh O O ω)$ qV (Xq O O ω)$ R7 O$ SA O$ Qc O$ PS ?_;rw[show(a:Int)+((b-a:Nat):Int) / 4*2-1=((a+(b-a) / 4*2-1:Nat):Int) by omega];refine SK (α:=Nat×Array Nat×Nat) ((a+(b-a) / 4*2-1,d,b-a)) (λy=>[(0,.slice (some ⟨g,0,none⟩) n cap),(1,I (a:Int)),(6,I ((b-a:Nat):Int)),(7,ptr xb 0),(8,Qg M),(9,I (y.1:Int))]) (λy w'=>TU w' g n cap y.2.1/\Q7 w' xb [Qg y.2.2] 370/\y.2.2<18446744073709551616/\Go.Sort.PermIn a b d y.2.1/\Kp (λk=>k=g) w w'/\a<=y.1) (λy=>a+b+2-y.1) ?hI ?hround
  case hI=>exact⟨h.ext ae,ak,by dsimp only;omega,Go.Sort.permIn_refl _ _ _,ae.kp,by dsimp only;omega⟩
  case hround=>
   rintro⟨idx,d4,r⟩ w4 ⟨eB,aM,bH,ji,ar,pP⟩ ih;dsimp only at eB aM bH ji ar pP;have cJ:=eB.size
   try dsimp only
   refine An$ RI O$ Q4 O$ qV (Yh O O ω)$ qV (Xq O O ω)$ R7 O$ R7 O$ zle O$ PQ$ Q8 O (λh1=>?_)$ λh1=>?_
   ·have qx:idx<b:=by omega
    refine PR$ RP$ qN O$ Qk zhH O (zb6 aM bH) ?_;rintro _ w5 ⟨r5,rfl,bP,aJ,aj⟩;have aV:=eB.kp aj (λe=>by omega);have cO:Kp (λk=>k=g) w w5:=ar.It aj (λk e=> .inl ω);refine Q4 O$ qV (XK (m:=M) (n:=1) O O O (by show M<2^64;omega) ω) ?_;refine qV (VY O O ω ω) ?_;have Dy:r5&&&(M-1)<=M-1:=Nat.and_le_right
    generalize r5&&&(M-1)=q at Dy
    refine qV (QU O zgS U3 ω)$ Qc O$ An$ RI O$ UZ O$ PQ$ QH (λe' w'=>∃o:Nat,e'=[(0,.slice (some ⟨g,0,none⟩) n cap),(1,I (a:Int)),(6,I ((b-a:Nat):Int)),(7,ptr xb 0),(8,Qg M),(9,I (idx:Int)),(10,I (o:Int))]/\w'=w5/\o<b-a) ?Dz$ λDz=>?DA
    case Dz=>
     rintro e' w5' ⟨o,rfl,rfl,ho⟩;have aD:=Ext.Qh w5';refine Qn [17,19] (λw'=>Ext w5' w') (by kernel_rfl) O$ R1 0 O O (aD)$ R1 1 O O (aD)$ Rm (i:=2) O (by kernel_rfl) O O (λ_=>YQ O) (aD)$ Rm (i:=3) O (by kernel_rfl) O O (λ_=>YQ O) (aD)$ Rm (i:=4) O (by kernel_rfl) O O (λ_=>YQ O) (aD)$ Rm (i:=5) O (by kernel_rfl) O O (λ_=>Wa O O ω) (aD)$ R1 6 O O (aD)$ R1 7 O O (aD)$ R1 8 O O (aD)$ Qs 9 O (Wa O O ω) aD$ Qs 10 O (Rh QE Ql O O ω) aD$ R1 12 O O (aD)$ R1 13 O O (aD) ?_;refine Qs 14 O (Rh QE Ql O O ω) aD$ qL 11 O (λ_ h=>QF RQ O O ((aV.ext h).get (i:=a+o) ω)) aD$ qL 15 O (λ_ h=>QF RQ O O ((aV.ext h).get (i:=idx) ω)) aD$ Qs 16 O (Rh QE Ql O O ω) aD$ Ut [17]$ qO 17$ QO (i:=17) O O (SY Ql O O O (aV.ext aD).sl ((aV.ext aD).jlt ω)) ?_;rintro w8a ⟨gz,gA⟩;refine⟨trivial,?_⟩;have cQ:=(aV.ext aD).set gz;refine PT 18 O (Rh QE Ql O O ω) trivial$ qO 19$ QO (i:=19) O O (SY Ql O O O cQ.sl (cQ.jlt ω)) ?_;rintro w8 ⟨kU,kV⟩;refine⟨trivial,?_⟩;have kW:=cQ.set kU;have fI:Kp (λk=>k=g) w5' w8:=aD.kp.trans (gA.trans kV);refine qE$ PM$ St O$ R7 O$ Qc O ?_;rw[show(idx:Int)+1=((idx+1:Nat):Int) by omega];exact(ih (idx+1,Go.Sort.swp d4 idx (a+o),r5) _ ⟨kW,fI.PN aJ ω,bP,Go.Sort.permIn_trans _ _ _ a b ji (zcA pP qx ω ω ω),cO.trans fI,by dsimp only;omega⟩ (by dsimp only;omega)).qb
    case DA=>
     refine Q8 O (λh2=>?_)$ λh2=>?_
     ·refine PW O$ Qp O$ SA O$ Qc O ?_;rw[show(q:Int)-((b-a:Nat):Int)=((q-(b-a):Nat):Int) by omega];exact(Dz _ _ ⟨q-(b-a),rfl,rfl,ω⟩).qb
     ·refine PR ?_;exact(Dz _ _ ⟨q,rfl,rfl,ω⟩).qb
   ·refine Q5 O$ Rq func245 O ?_;exact⟨_,rfl,rfl,d4,ji,eB,ar⟩
 ·omega
open Go.Sort in
def zfJ (g n cap m:Nat):Prop:=∀(w:World) (d:Array Nat),TU w g n cap d->∀(a b limit:Nat),b-a<m->a<=b->b<=n->limit<=64->Below RR a b d->
 Qu prog 234 [.slice (some ⟨g,0,none⟩) n cap,I (a:Int),I (b:Int),I (limit:Int)] w λu w'=>u= .tuple #[]/\∃d',TU w' g n cap d'/\PermIn a b d d'/\SortedIn RR a b d'/\Kp (λk=>k=g) w w'
open Go.Sort in
structure z7f (w:World)(g n cap a b:Nat)(d:Array Nat)(a1 b1 l1:Nat)(d1:Array Nat)(w':World):Prop where
 arr:TU w' g n cap d1
 kp:Kp (λk=>k=g) w w'
 ab:a1<=b1
 bn:b1<=n
 sm:b1-a1<=b-a
 lim:l1<=64
 bel:Below RR a1 b1 d1
 fin:∀R,PermIn a1 b1 d1 R->SortedIn RR a1 b1 R->PermIn a b d R/\SortedIn RR a b R
open Go.Sort in
def z7f.perm {w:World}{g n cap a b:Nat}{d:Array Nat}{a1 b1 l1 l2:Nat}{d1 d2:Array Nat}{w1 w2:World}(h:z7f w g n cap a b d a1 b1 l1 d1 w1)(hA:TU w2 g n cap d2)(hk:Kp (λk=>k=g) w1 w2)(hp:PermIn a1 b1 d1 d2)(hl:l2<=64):z7f w g n cap a b d a1 b1 l2 d2 w2:=
 ⟨hA,h.kp.trans hk,h.ab,h.bn,h.sm,hl,h.bel.perm (by rw[h.arr.size];exact h.bn) hp,λR h1 h2=>h.fin R (permIn_trans _ _ _ _ _ hp h1) h2⟩
open Go.Sort in
def zdz {g n cap m:Nat}(dz:zfJ g n cap m){w:World}{d:Array Nat}(h:TU w g n cap d)(a b limit:Nat)(hm:b-a<=m)(kg:a<=b)(hb:b<=n)(hn:n<50)(hl:limit<=64)(hB:Below RR a b d):
  Qu prog 234 [.slice (some ⟨g,0,none⟩) n cap,I (a:Int),I (b:Int),I (limit:Int)] w λu w'=>u= .tuple #[]/\∃d',TU w' g n cap d'/\PermIn a b d d'/\SortedIn RR a b d'/\Kp (λk=>k=g) w w':=by
 refine py (e:=[(0,_),(1,_),(2,_),(3,_)]) func234 O ntmps234 O O$ qN O$ S7 O$ Qc O$ PS$ SK (α:=Nat×Nat×Nat×Bool×Bool×Array Nat) ((a,b,limit,true,true,d)) (λy=>[(0,.slice (some ⟨g,0,none⟩) n cap),(1,I (y.1:Int)),(2,I (y.2.1:Int)),(3,I (y.2.2.1:Int)),(8,.bool y.2.2.2.1),(9,.bool y.2.2.2.2.1)]) (λy w'=>z7f w g n cap a b d y.1 y.2.1 y.2.2.1 y.2.2.2.2.2 w') (λy=>y.2.1-y.1) ?hI ?hround
 case hI=>exact⟨h,Kp.refl _ _,kg,hb,Nat.le_refl _,hl,hB,λR h1 h2=>⟨h1,h2⟩⟩
 case hround =>
  rintro⟨a1,b1,l1,wb,wp,d1⟩ w4 hI ih;dsimp only at hI;have qy:=hI.ab;have gB:=hI.bn;have L6:=hI.sm;have IW:=hI.lim;have yf:=hI.arr.size
  try dsimp only
  refine PS$ RI O$ SA O$ Qc O$ An$ qN O ?_;rw[show(b1:Int)-(a1:Int)=((b1-a1:Nat):Int) by omega];refine Q4 O$ zle O$ PQ$ Q8 O (λh0=>?_)$ λh0=>?_
  ·obtain⟨r1,r2⟩:=insertionSort_holds z00 d1 a1 b1 qy ω;obtain⟨q1,q2⟩:=hI.fin _ r1 r2;refine RI O$ Q4 O$ Qk zjR O (z3a hI.arr a1 b1 qy gB ω) ?_;rintro _ w5 ⟨rfl,aV,aj⟩;refine PQ$ PO func234 O ?_;exact⟨_,rfl,rfl,_,aV,q1,q2,hI.kp.trans aj⟩
  ·refine PR$ QS O$ Ss O$ PQ$ Q8 O (λh1 => ?_)$ λh1 => ?_
   ·obtain⟨r1,r2⟩:=heapSort_holds z00 d1 a1 b1 qy ω;obtain⟨q1,q2⟩:=hI.fin _ r1 r2;refine RI O$ Q4 O$ Qk zkb O (zcP hI.arr a1 b1 ω gB ω) ?_;rintro _ w5 ⟨rfl,aV,aj⟩;refine PQ$ PO func234 O ?_;exact⟨_,rfl,rfl,_,aV,q1,q2,hI.kp.trans aj⟩
   ·refine PR$ QS O$ qV ((T7 O))$ PQ$ QH (λe' w' => ∃ l5 d5, e' = [(0, .slice (some ⟨g, 0, none⟩) n cap), (1, I (a1 : Int)), (2, I (b1 : Int)), (3, I ((l5 : Nat) : Int)), (8, .bool wb), (9, .bool wp), (10, I ((b1 - a1 : Nat) : Int))] /\ z7f w g n cap a b d a1 b1 l5 d5 w') ?aW$ λaW => ?gl
    case aW =>
     rintro e' w5 ⟨l5,d5,rfl,kX⟩;have sG:=kX.lim;have DB:=kX.arr.size;have L7:g<w5.heap.size:=kX.arr.sl.lt O;refine RI O$ Q4 O$ Qk zkF O (zaC kX.arr a1 b1 ω gB hn) ?_;rintro _ w6 ⟨p6,t6,rfl,L8,ux,yg,qt,aS⟩;have qz:=kX.perm qt aS.kp (permIn_refl _ _ _) sG;refine Q4 O$ TK O$ Rt O$ QS O$ Ss O$ PQ$ QH (λe' w'=>∃d7 p7 t7,e'=[(0,.slice (some ⟨g,0,none⟩) n cap),(1,I (a1:Int)),(2,I (b1:Int)),(3,I (l5:Int)),(8,.bool wb),(9,.bool wp),(10,I ((b1-a1:Nat):Int)),(11,I ((p7:Nat):Int)),(12,I ((t7:Nat):Int))]/\z7f w g n cap a b d a1 b1 l5 d7 w'/\a1<=p7/\p7<b1) ?aq$ λaq=>?dU
     case aq =>
      rintro e' w7 ⟨d7,p7,t7,rfl,mO,BX,qA⟩;have L9:=mO.arr.size;refine An$ An$ QH (λe' w'=>∃s,e'=[(0,.slice (some ⟨g,0,none⟩) n cap),(1,I (a1:Int)),(2,I (b1:Int)),(3,I (l5:Int)),(8,.bool wb),(9,.bool wp),(10,I ((b1-a1:Nat):Int)),(11,I (p7:Int)),(68,.bool s)]/\w'=w7) ?cz$ λcz=>?iM
      case cz=>
       rintro e' w8 ⟨s,rfl,rfl⟩;refine QH (λe' w'=>e'=[(0,.slice (some ⟨g,0,none⟩) n cap),(1,I (a1:Int)),(2,I (b1:Int)),(3,I (l5:Int)),(8,.bool wb),(9,.bool wp),(10,I ((b1-a1:Nat):Int)),(11,I (p7:Int))]/\z7f w g n cap a b d a1 b1 l5 d7 w') ?md$ λmd=>?oa
       case md=>
        rintro e' w9 ⟨rfl,ia⟩;have sH:=ia.arr;have hg:=Ext.Qh w9;refine An$ An$ QH (λe' w'=>∃s,e'=[(0,.slice (some ⟨g,0,none⟩) n cap),(1,I (a1:Int)),(2,I (b1:Int)),(3,I (l5:Int)),(8,.bool wb),(9,.bool wp),(10,I ((b1-a1:Nat):Int)),(11,I (p7:Int)),(87,.bool s)]/\w'=w9.drew/\(s=true->0<a1/\RR d7[a1-1]! d7[p7]! =false)) ?ue$ λue=>?uf
        case ue=>
         rintro e' w10 ⟨s,rfl,rfl,hs⟩;have mP:=sH.ext hg;have aB:Kp (λk=>k=g) w w9.drew:=ia.kp.trans hg.kp;refine Rr O (λh6=>?_)$ λh6=>?_
         ·obtain⟨La,iL⟩:=hs h6;obtain⟨mid,d11,hx⟩:∃m e,partitionEqual RR d7 a1 b1 p7=(m,e):=⟨_,_,rfl⟩;have DC:=zeG mP a1 b1 p7 BX qA gB ω;rw[hx] at DC;dsimp only at DC;obtain⟨e1,e2,e3,e4,e5⟩:=round_eq z00 (partitionEqual_holds _) La BX qA ω ia.bel iL hx;refine RI O$ Qp O$ Qk zjL O (DC) ?_;rintro _ w11 ⟨rfl,qB,bz⟩;refine RZ O$ Qc O$ Q5 O ?_;exact(ih (mid,b1,l5,wb,wp,d11) _ ⟨qB,aB.trans bz,e2,gB,by dsimp only;omega,ia.lim,e4,λR r1 r2=>ia.fin R (e5 R r1 r2).1 (e5 R r1 r2).2⟩ (by dsimp only;omega)).qb
         ·obtain⟨mid,ap,d11,hx⟩:∃m q e,partition RR d7 a1 b1 p7=(m,q,e):=⟨_,_,_,rfl⟩;have uy:=zbE mP a1 b1 p7 BX qA gB ω;rw[hx] at uy;dsimp only at uy;obtain⟨e1,e2,e3,e4,e5,e6,e7⟩:=round_part z00 (partition_holds _) BX qA ω ia.bel hx;refine PR$ RI O$ Qp O$ Qk zj1 O (uy) ?_;rintro _ w11 ⟨rfl,qB,bz⟩;refine Q4 O$ TK O$ TN O$ RZ O$ S7 O$ Qp O$ SA O$ Qp O$ SA O$ TN O$ S7 O ?_;rw[show(mid:Int)-(a1:Int)=((mid-a1:Nat):Int) by omega,show(b1:Int)-(mid:Int)=((b1-mid:Nat):Int) by omega];refine Q4 O$ qV (Yh O O ω)$ S7 O$ Qp O$ RT O$ PQ$ Q8 O (λh7=>?_)$ λh7=>?_
          ·refine RI O$ UZ O$ S7 O$ Qp O$ Qp O$ Qk zdA O (dz _ _ qB a1 mid l5 ω e1 ω ia.lim e4) ?_;rintro _ w12 ⟨rfl,d12,uz,uA,kP,bA⟩;obtain⟨f1,f2⟩:=e6 _ uA kP;refine PQ$ St O$ R7 O$ Qc O$ PM ?_;exact(ih (mid+1,b1,l5,decide (((b1-a1:Nat):Int) / 8<=((mid-a1:Nat):Int)),ap,d12) _ ⟨uz,(aB.trans bz).trans bA,by dsimp only;omega,gB,by dsimp only;omega,ia.lim,f1,λR r1 r2=>ia.fin R (f2 R r1 r2).1 (f2 R r1 r2).2⟩ (by dsimp only;omega)).qb
          ·refine RI O$ UZ O$ S7 O$ Qp O$ R7 O$ Qp O ?_;rw[show(mid:Int)+1=((mid+1:Nat):Int) by omega];refine Qk zdA O (dz _ _ qB (mid+1) b1 l5 ω ω gB ia.lim e5) ?_;rintro _ w12 ⟨rfl,d12,uz,uA,kP,bA⟩;obtain⟨f1,f2⟩:=e7 _ uA kP;refine PQ$ St O$ Qc O$ PM ?_;exact(ih (a1,mid,l5,decide (((b1-a1:Nat):Int) / 8<=((b1-mid:Nat):Int)),ap,d12) _ ⟨uz,(aB.trans bz).trans bA,e1,by dsimp only;omega,by dsimp only;omega,ia.lim,f1,λR r1 r2=>ia.fin R (f2 R r1 r2).1 (f2 R r1 r2).2⟩ (by dsimp only;omega)).qb
        case uf=>
         rcases Nat.eq_zero_or_pos a1 with hj|hj
         ·refine S5 (λw'=>Ext w9 w') O$ Qi 0 O O (hg)$ PT 1 O (Zr O O) hg$ UQ$ Qi 2 O O (hg)$ qJ 3 O (hg)$ qJ 4 O (hg)$ qJ 5 O (hg)$ qJ 6 O (hg)$ qJ 7 O (hg)$ qJ 8 O (hg)$ qJ 9 O (hg)$ qJ 10 O (hg)$ qJ 11 O (hg) ?_;refine qJ 12 O (hg)$ qJ 13 O (hg)$ PT 14 O (Vt O O) hg$ qE ?_;exact(ue _ _ ⟨false,rfl,rfl,λe=>by cases e⟩).qb
         ·refine S5 (λw'=>Ext w9 w') O$ Qi 0 O O (hg)$ PT 1 O (Zr O O) hg$ Vd$ Qi 2 O O (hg)$ Qi 3 O O (hg)$ Qi 4 O O (hg)$ PT 5 O (YM O O ω) hg$ Qi 8 O O (hg)$ Qi 9 O O (hg)$ PT 10 O (Rh QE Ql O O ω) hg ?_;rw[show(a1:Int)-1=((a1-1:Nat):Int) by omega];refine PT 6 O (Rh QE Ql O O ω) hg$ qT 7 O (λ_ h=>QF RQ O O ((sH.ext h).get (i:=a1-1) ω)) hg$ qT 11 O (λ_ h=>QF RQ O O ((sH.ext h).get (i:=p7) ω)) hg$ T9 12 O Xs O (Tg _ _ _) ?_;rintro _ w10 ⟨rfl,rfl⟩;refine⟨hg,?_⟩;refine PT 13 O ((zb7 O)) hg$ PT 14 O (W2 O O) hg$ qE ?_;exact(ue _ _ ⟨decide (¬d7[a1-1]!<d7[p7]!),rfl,rfl,λe=>⟨hj,by simpa[RR] using e⟩⟩).qb
       case oa=>
        refine Rr O (λh4=>?_)$ λh4=>?_
        ·obtain⟨r1,r2⟩:=partialInsertionSort_holds z00 d7 a1 b1 ω ω mO.bel;refine RI O$ Q4 O$ Qk zk3 O (zdp mO.arr a1 b1 ω gB hn) ?_;rintro _ w9 ⟨rfl,sH,ax⟩;refine PQ$ Rr O (λh5=>?_)$ λh5=>?_
         ·have r3:=r2 h5;rw[z9G d7 a1 b1 ω] at r3;dsimp only at r3;obtain⟨q1,q2⟩:=mO.fin _ (permIn_refl _ _ _) r3;refine PO func234 O ?_;exact⟨_,rfl,rfl,d7,sH,q1,q2,mO.kp.trans ax⟩
         ·refine PR ?_;exact(md _ _ ⟨rfl,mO.perm sH ax (permIn_refl _ _ _) mO.lim⟩).qb
        ·refine PR ?_;exact(md _ _ ⟨rfl,mO⟩).qb
      case iM =>
       cases wb with
       | false =>
         refine PW O$ Qp O$ qS$ QY O$ Q4 O$ S6$ QY O$ PQ ?_
         exact(cz _ _ ⟨false,rfl,rfl⟩).qb
       | true =>
         cases wp with
         | false =>
           refine PW O$ Qp O$ Q4 O$ Sa O$ Q4 O$ S6$ QY O$ PQ ?_
           exact(cz _ _ ⟨false,rfl,rfl⟩).qb
         | true =>
           refine PW O$ Qp O$ Q4 O$ Sa O$ Qp O$ Ss O$ Sa O$ PQ ?_;exact(cz _ _ ⟨decide ((t7:Int)=1),rfl,rfl⟩).qb
     case dU=>
      refine Q8 O (λh3=>?_)$ λh3=>?_
      ·refine RI O$ Q4 O$ Qk zhx O (z5X qt a1 b1 ω gB ω) ?_;rintro _ w7 ⟨rfl,BY,aA⟩;refine qM O$ Q4 O$ SA O$ Qp O$ SA O$ SA O$ Qc O$ PW O$ Qc O ?_;rw[show(b1:Int)-1-((p6:Int)-(a1:Int))=((b1-1-(p6-a1):Nat):Int) by omega];exact(aq _ _ ⟨reverseRange d5 a1 b1,b1-1-(p6-a1),1,rfl,qz.perm BY aA (reverseRange_holds _ _ _ qy ω) sG,ω,ω⟩).qb
      ·refine PR ?_;exact(aq _ _ ⟨d5,p6,t6,rfl,qz,L8,ux⟩).qb
    case gl=>
     refine Rr O (λh2=>?_)$ λh2=>?_
     ·refine RI O$ Q4 O$ Qk zic O (zbX hI.arr a1 b1 ω gB hn) ?_;rintro _ w5 ⟨rfl,d5,fT,aV,aj⟩;refine PQ$ St O$ SA O$ Qc O ?_;rw[show(l1:Int)-1=((l1-1:Nat):Int) by omega];exact(aW _ _ ⟨l1-1,d5,rfl,hI.perm aV aj fT ω⟩).qb
     ·refine PR ?_;exact(aW _ _ ⟨l1,d1,rfl,hI⟩).qb
def z9c (g n cap:Nat)(hn:n<50):∀m,zfJ g n cap m
 |0=>λw d h a b limit hm=>absurd hm (Nat.not_lt_zero _)
 |m+1=>λw d h a b limit hm kg hb hl hB=>zdz (z9c g n cap hn m) h a b limit ω kg hb hn hl hB
open Go.Sort in
def zbi {w:World}{v:Value}{l:List Nat}(hS:Sl w v 59 1 l.length (l.map QJ))(bE:l≠[])(hl:l.length<50):
  Qu prog 227 [v] w λu w'=>u= .tuple #[]/\Kp (λk=>v.ownBlock=some k) w w'/\∃l':List Nat,l'.Perm l/\l'.Pairwise (·<=·)/\Sl w' v 59 1 l'.length (l'.map QJ):=by
 obtain⟨g,cap,rfl⟩:∃g c,v= .slice (some ⟨g,0,none⟩) l.length c:=by
  rcases hS.shape with⟨-,h0⟩|⟨g,c,e,hc⟩
  ·exact absurd (List.eq_nil_of_length_eq_zero ω) bE
  ·exact⟨g,c,e⟩
 have hA:TU w g l.length cap l.toArray:=⟨by simpa using hS,ξ⟩
 have aH:R3 l.length<=6:=Si ω
 refine py (e:=[(0,_)]) func227 O ntmps227 O O$ Qx O$ SR QE O$ Qc O$ PW O$ Qp O$ Q4 O$ qV ((Rp O U3 zgS ω))$ Qk zfp O (z8T l.length ω w) ?_
 rintro _ w ⟨rfl,rfl⟩
 refine Qk zdA O (z9c g l.length cap hl (l.length+1) w l.toArray hA 0 l.length (R3 l.length) ω ω (Nat.le_refl _) ω (.inl O)) ?_
 rintro _ w1 ⟨rfl,d',mc,hP,hO,hk⟩
 refine PQ$ Rq func227 O ?_
 have cJ:=mc.size
 have jA:d'.toList.Perm l:=by
  have:=hP.2.2;rw[Array.toList_extract,Array.toList_extract] at this;have h1:(d'.toList.take l.length).Perm (l.take l.length):=by simpa using this
  rwa [List.take_of_length_le (by rw[Array.length_toList,cJ];exact Nat.le_refl _),List.take_length] at h1
 refine⟨_,rfl,rfl,hk.PU (λk e=>by rw[e];rfl),d'.toList,jA,?_,?_⟩
 ·rw[List.pairwise_iff_getElem];intro i j hi hj hH;rw[Array.length_toList] at hi hj;have:=hO i j (Nat.zero_le _) hH ω;rw[getElem!_pos d' i ω,getElem!_pos d' j ω] at this;simp only[RR,decide_eq_false_iff_not] at this;rw[Array.getElem_toList,Array.getElem_toList];omega
 ·have e:d'.toList.length=l.length:=by rw[Array.length_toList,cJ]
  rw[e];exact mc.sl
structure NuI (w w1:World)(p:Th)(b5 n11:Nat)(L:List (Cd×Nat))(w':World):Prop where
 ex:∃F,z5S w' n11 L F/\∀k,F k->w1.heap.size<=k
 ext:Ext w w'
 b5:Q7 w' b5 (lpC p) 260
 siz:w1.heap.size<=w'.heap.size
theorem NuI.put {w w1 w2 w3:World}{p:Th}{b5 n11:Nat}{L L':List (Cd×Nat)}{F:Nat->Prop}(h:NuI w w1 p b5 n11 L w2)(hf:∀k,F k->w1.heap.size<=k)(gm:b5<w1.heap.size)(IX:w.heap.size<=w1.heap.size)
  (g:∃F',z5S w3 n11 L' F'/\Kp F w2 w3/\∀k,F' k->F k\/w2.heap.size<=k):NuI w w1 p b5 n11 L' w3:=by
 obtain⟨F',g1,g2,g3⟩:=g
 have hs:=h.siz
 refine⟨⟨F',g1,λk hk=>?_⟩,h.ext.It g2 (λk hk=>by have:=hf k hk;omega),g2.PN h.b5 (λe=>by have:=hf b5 e;omega),by have:=g2.size;omega⟩
 rcases g3 k hk with e| e
 ·exact hf k e
 ·omega
structure NuX (w w1 w2:World)(p:Th)(b5 n11:Nat)(X:Nat->Prop)(L:List (Cd×Nat))(w3:World):Prop where
 ex:∃F,z5S w3 n11 L F/\(∀k,F k->w1.heap.size<=k)/\∀k,F k->¬X k
 ext:Ext w w3
 b5:Q7 w3 b5 (lpC p) 260
 siz:w1.heap.size<=w3.heap.size
 kx:Kp (λk=>¬X k) w2 w3
theorem NuX.put {w w1 w2 w3 w4:World}{p:Th}{b5 n11:Nat}{X:Nat->Prop}{L L':List (Cd×Nat)}{F:Nat->Prop}(h:NuX w w1 w2 p b5 n11 X L w3)(hX:∀k,X k->k<w2.heap.size)(hf:∀k,F k->w1.heap.size<=k)(hx:∀k,F k->¬X k)(gm:b5<w1.heap.size)(IX:w.heap.size<=w1.heap.size)
  (g:∃F',z5S w4 n11 L' F'/\Kp F w3 w4/\∀k,F' k->F k\/w3.heap.size<=k):NuX w w1 w2 p b5 n11 X L' w4:=by
 obtain⟨F',g1,g2,g3⟩:=g
 have hs:=h.siz
 have hz:=h.kx.size
 refine⟨⟨F',g1,λk hk=>?_,λk hk fx=>?_⟩,h.ext.It g2 (λk hk=>by have:=hf k hk;omega),g2.PN h.b5 (λe=>by have:=hf b5 e;omega),by have:=g2.size;omega,h.kx.trans (g2.PU hx)⟩
 ·rcases g3 k hk with e| e
  ·exact hf k e
  ·omega
 ·rcases g3 k hk with e| e
  ·exact hx k e fx
  ·have:=hX k fx;omega
theorem Un:∀(l:List Nat) (k:Nat),(Rv k l).length=l.length
 |[],_=>rfl
 |_::l,k=>by rw[Rv,List.length_cons,List.length_cons,Un l]
theorem ZP:∀(l:List Nat) (k n:Nat),Rv k (l++[n])=Rv k l++[(.gamma,n-min (k+l.length) 1)]
 |[],k,n=>rfl
 | m :: l, k, n => by
   rw[List.cons_append,Rv,ZP l (k+1) n,Rv,List.cons_append,List.length_cons,show k+1+l.length=k+(l.length+1) by omega]
def z2I:∀{l:List Nat},(∀n∈l,1<=n)->l.length<=l.sum
 |[],_=>Nat.le_refl _
 | x :: l, h => by
   have h1:=h x List.mem_cons_self;have h2:=z2I (λn hn=>h n (List.mem_cons_of_mem x hn));rw[List.length_cons,List.sum_cons];omega
def UL.z2W {rs:List Nat}{fs:List Bool}(h:UL rs fs):rs.length<=fs.length+1:=by
 have e:=U7 true rs
 rw[h.exp] at e
 cases rs with
 |nil=>simp
 | cons a tl =>
   have h1:=z2I (l:=tl) (λn hn=>h.pos n hn);rw[List.sum_cons] at e;rw[List.length_cons];omega
def Z3:∀l:List Nat,(R4 0 l).1=[]
 |[]=>by rw[R4]
 | x :: l => by
   rw[R4,if_neg ω];exact Z3 (l.drop (QZ x l))
 termination_by l=>l.length
 decreasing_by simp[List.length_drop];omega
def z05 (l:List (Nat×Nat)):Option Nat:=l.getLast?.map λp=>p.1+p.2-1
theorem ZH (x least:Nat):∀(l:List (Nat×Nat)) (e:Option Nat) (p:Nat×Nat),QV x least e (l++[p])=QV x least e l++QV x least (match l with|[]=>e|_=>z05 l) [p]
 |[],e,p=>by cases e<;>rfl
 | q :: l, e, p => by
   rw[List.cons_append,SV,SV,ZH x least l _ p]
   cases l with
   |nil=>rfl
   |cons q2 l=>rfl
theorem z3n (x least:Nat)(l:List (Nat×Nat))(p:Nat×Nat):QV x least none (l++[p])=QV x least none l++[(.gamma,VS x (z05 l) p.1),(.gamma,p.2-least)]:=by
 rw[ZH]
 cases l with
 |nil=>rfl
 |cons q l=>rw[SV x least (match q::l with|[]=>none|_=>z05 (q::l))];rfl
def zcR {w:World}{b off n cap i:Nat}{R:List (Nat×Nat)}{q:Nat×Nat}(h:Rd w (.slice (some ⟨b,off,none⟩) n cap) 2 n (R.flatMap z3c))(hq:R[i]? =some q):∀j u,[I (q.1:Int),I (q.2:Int)][j]? =some u->w.cell? ⟨b,off+i*2+j,none⟩=some u:=by
 intro j u hj
 have hi:=(List.getElem?_eq_some_iff.1 hq).1
 rcases h.2 with⟨c,hc,h0⟩|⟨b',off',cap',e,hc⟩
 ·have:=h.1;rw[zas] at this;omega
 ·cases e
  have me:(R.flatMap z3c)[i*2+j]? =some u:=by
   have m8:j<2:=(List.getElem?_eq_some_iff.1 hj).1
   have key:∀(R:List (Nat×Nat)) (i:Nat),R[i]? =some q->(R.flatMap z3c)[i*2+j]? =some u:=by
    intro R
    induction R with
    |nil=>intro i h;simp at h
    | cons a R ih =>
      intro i h;rw[List.flatMap_cons]
      cases i with
      | zero =>
        rw[List.getElem?_cons_zero] at h;cases h;rw[List.getElem?_append_left (by show _<2;omega),Nat.zero_mul,Nat.zero_add]
        exact hj
      | succ i =>
        rw[List.getElem?_append_right (by show 2<=_;omega),show(i+1)*2+j-(z3c a).length=i*2+j by show(i+1)*2+j-2=_;omega];exact ih i h
   exact key R i hq
  have:=hc (i*2+j) u me;rw[show off+i*2+j=off+(i*2+j) by omega];exact this
def NuX.ex2 {w w1 w2 w3 w4:World}{p:Th}{b5 n11:Nat}{X:Nat->Prop}{L:List (Cd×Nat)}(h:NuX w w1 w2 p b5 n11 X L w3)(hx:Ext w3 w4):NuX w w1 w2 p b5 n11 X L w4:=by
 obtain⟨⟨F,h1,h2,h3⟩,h4,h5,h6,h7⟩:=h
 exact⟨⟨F,h1.ext hx,h2,h3⟩,h4.trans hx,hx.PN h5,by have:=hx.size;omega,h7.trans hx.kp⟩
def NuX.back {w w1 w2 w3 w4:World}{p:Th}{b5 n11:Nat}{X X':Nat->Prop}{L L':List (Cd×Nat)}(h:NuX w w1 w2 p b5 n11 X L w3)(h':NuX w w1 w3 p b5 n11 X' L' w4)(hX:∀k,X k->X' k):NuX w w1 w2 p b5 n11 X L' w4:=by
 obtain⟨⟨F,h1,h2,h3⟩,h4,h5,h6,h7⟩:=h'
 exact⟨⟨F,h1,h2,λk hk hx=>h3 k hk (hX k hx)⟩,h4,h5,h6,h.kx.trans (h7.PU λk hk hx=>hk (hX k hx))⟩
def NuX.again {w w1 w2 w3:World}{p:Th}{b5 n11:Nat}{X X':Nat->Prop}{L:List (Cd×Nat)}{F:Nat->Prop}(h:NuX w w1 w2 p b5 n11 X L w3)(hA:z5S w3 n11 L F)(hf:∀k,F k->w1.heap.size<=k)(hx:∀k,F k->¬X' k):NuX w w1 w3 p b5 n11 X' L w3:=
 ⟨⟨F,hA,hf,hx⟩,h.ext,h.b5,h.siz,Kp.refl _ _⟩
theorem TM (x least:Nat):∀(l:List (Nat×Nat)) (e:Option Nat),(QV x least e l).length=2*l.length
 |[],e=>by cases e<;>rfl
 |q::l,e=>by rw[SV,List.length_cons,List.length_cons,TM x least l,List.length_cons];omega
def z0F {least:Nat}:∀(R:List (Nat×Nat)) (lo i:Nat) (q:Nat×Nat),Uc least lo R->R[i]? =some q->1<=q.2/\least<=q.2/\(∀z,z05 (R.take i)=some z->z+2<=q.1)/\(z05 (R.take i)=none->lo<=q.1)
 |[],lo,i,q,h,hq=>by simp at hq
 | p :: R, lo, 0, q, h, hq => by
   rw[List.getElem?_cons_zero] at hq;cases hq
   exact⟨h.2.1,h.2.2.1,(λz hz=>by cases hz),λ_=>h.1⟩
 | p :: R, lo, i + 1, q, h, hq => by
   rw[List.getElem?_cons_succ] at hq;obtain⟨h1,h2,h3,h4⟩:=z0F R _ i q h.2.2.2 hq;have hp:1<=p.2:=h.2.1;refine⟨h1,h2,λz hz=>?_,λhz=>?_⟩
   ·rw[List.take_succ_cons] at hz
    cases hR:R.take i with
    | nil =>
      rw[hR] at hz;have e:p.1+p.2-1=z:=SH hz;have:=h4 (by rw[hR];rfl)
      omega
    | cons a l =>
      rw[hR] at hz;exact h3 z (by rw[hR];exact hz)
   ·rw[List.take_succ_cons] at hz;exfalso;unfold z05 at hz;rw[Option.map_eq_none_iff,List.getLast?_eq_none_iff] at hz;cases hz
theorem zav (l:List (Nat×Nat))(q:Nat×Nat):z05 (l++[q])=some (q.1+q.2-1):=by simp[z05]
def zct {least:Nat}{l:List Nat}{q:Nat×Nat}(hl:∀y∈l,y<65536)(hq:q∈(R4 least l).1)(h1:1<=q.2):q.1+q.2<=65536:=by
 have h2:q.1+(q.2-1)∈S0 (R4 least l).1:=by
  unfold S0;exact List.mem_flatMap.2 ⟨q,hq,List.mem_map.2 ⟨q.2-1,List.mem_range.2 ω,rfl⟩⟩
 have:=hl _ ((UP least l).subset (List.mem_append_left _ h2))
 omega
def zbx (x:Nat):Option Nat->Nat->Nat
 |none,v=>zig ((v:Int)-x)
 |some u,v=>v-u-1
theorem U1 (x k:Nat)(e:Option Nat)(v:Nat)(r:List Nat):QX x k e (v::r)=(.zeta k,zbx x e v)::QX x k (some v) r:=by
 cases e<;>rfl
theorem z07 (x k:Nat):∀(l:List Nat) (e:Option Nat) (v:Nat),QX x k e (l++[v])=QX x k e l++QX x k (match l with|[]=>e|_=>l.getLast?) [v]
 |[],e,v=>by cases e<;>rfl
 | u :: l, e, v => by
   rw[List.cons_append,U1,U1,z07 x k l _ v]
   cases l with
   |nil=>rfl
   |cons u2 l=>rfl
theorem YG (x k:Nat)(l:List Nat)(v:Nat):QX x k none (l++[v])=QX x k none l++[(.zeta k,zbx x l.getLast? v)]:=by
 rw[z07]
 cases l with
 |nil=>rfl
 |cons u l=>rw[U1 x k (match u::l with|[]=>none|_=>(u::l).getLast?)];cases (u::l).getLast?<;>rfl
theorem UB (x k:Nat):∀(l:List Nat) (e:Option Nat),(QX x k e l).length=l.length
 |[],e=>by cases e<;>rfl
 |v::l,e=>by rw[U1,List.length_cons,UB x k l,List.length_cons]
theorem QR {α:Type}{l:List α}{i:Nat}{q:α}(h:l[i]? =some q):l.take (i+1)=l.take i++[q]:=by
 rw[List.take_succ,h];rfl
end Go.Proofs.YtffbidffdbpcoaaGreatDoor
