/- Merged by program. -/
import Derived.Test.YtffbidffdbpcoaaGreatDoorZm2
import Derived.Sort.AssemblyPlain
set_option linter.all false
set_option maxRecDepth 1000000
set_option maxHeartbeats 16000000
namespace Go.Proofs.YtffbidffdbpcoaaGreatDoor
open Go Go.RowKit
def zig (z:Int):Nat:=if 0<=z then(2*z).toNat else(-2*z-1).toNat
def zag (n:Nat):Int:=if n%2=0 then((n / 2:Nat):Int) else -((n / 2:Nat):Int)-1
theorem z82 (z:Int):zag (zig z)=z:=by
 unfold zig zag
 split
 ·rw[if_pos (by omega)];omega
 ·rw[if_neg (by omega)];omega
def Za {z:Int}{n:Nat}(h1: -(n:Int)<=z)(h2:z<(n:Int)):zig z<2*n:=by
 unfold zig
 split<;>omega
structure S1 where
 Pb:Nat
 interval:Nat
 zeta:Nat
def R7 (succ ref:List Nat):List Nat:=ref.foldl (λrs y=>QU rs (decide (y∈succ))) [0]
def T8 (succ ref:List Nat):Tw (R7 succ ref) (ref.map λy=>decide (y∈succ)):=by
 unfold R7
 have key:∀(l:List Nat) (rs:List Nat) (fs:List Bool),Tw rs fs->Tw (l.foldl (λrs y=>QU rs (decide (y∈succ))) rs) (fs++l.map λy=>decide (y∈succ)):=by
  intro l
  induction l with
  |nil=>intro rs fs h;simpa using h
  | cons y l ih =>
    intro rs fs h;have:=ih _ _ (h.step (decide (y∈succ)))
    simpa using this
 simpa using key ref [0] [] Tw.zero
def Pk (succ ref:List Nat):List Nat:=succ.filter λv=>decide (v∉ref)
theorem z8G (P:Nat->Bool):∀l:List Nat,sel l (l.map P)=l.filter P
 |[]=>rfl
 | x :: l => by
   rw[List.map_cons,sel,z8G P l];cases h:P x<;>simp[h]
def za3 (succ ref:List Nat):copyL true (R7 succ ref).dropLast ref=ref.filter λy=>decide (y∈succ):=by
 have h:=T8 succ ref
 obtain⟨l,n,e⟩:∃l n,R7 succ ref=l++[n]:=⟨_,_,(List.dropLast_concat_getLast h.ne).symm⟩
 rw[e,List.dropLast_concat]
 have he:=h.exp
 rw[e] at he
 have hl:ref.length=(l++[n]).sum:=by
  have:=congrArg List.length he;rw[SR,List.length_map] at this;exact this.symm
 rw[z4T true l n ref hl,he,z8G]
def Qj:Nat->List Nat->List (Cd×Nat)
 |_,[]=>[]
 |i,n::r=>(.gamma,n-min i 1)::Qj (i+1) r
def PF (x least:Nat):Option Nat->List (Nat×Nat)->List (Cd×Nat)
 |_,[]=>[]
 |none,p::r=>(.gamma,zig ((p.1:Int)-x))::(.gamma,p.2-least)::PF x least (some (p.1+p.2-1)) r
 |some e,p::r=>(.gamma,p.1-e-2)::(.gamma,p.2-least)::PF x least (some (p.1+p.2-1)) r
def PI (x k:Nat):Option Nat->List Nat->List (Cd×Nat)
 |_,[]=>[]
 |none,v::r=>(.zeta k,zig ((v:Int)-x))::PI x k (some v) r
 |some u,v::r=>(.zeta k,v-u-1)::PI x k (some v) r
def Rq (p:S1)(x:Nat)(succ ref:List Nat)(r:Nat):List (Cd×Nat):=
 (.gamma,succ.length)::if succ=[] then [] else
  (if 0<p.Pb then [(.unary,r)] else [])++
  ((if 0<r then(.gamma,(R7 succ ref).length-1)::Qj 0 (R7 succ ref).dropLast else [])++
  (if Pk succ ref=[] then [] else
   (if 0<p.interval then(.gamma,(PO p.interval (Pk succ ref)).1.length)::PF x p.interval none (PO p.interval (Pk succ ref)).1 else [])++
   PI x p.zeta none (PO p.interval (Pk succ ref)).2))
def P8 (l:List (Cd×Nat)):List Bool:=l.flatMap λp=>p.1.enc p.2
def z6R {succ ref:List Nat}(hs:Ris succ)(hr:Ris ref)(p:Nat):(ref.filter (λy=>decide (y∈succ))++(QQ (PO p (Pk succ ref)).1++(PO p (Pk succ ref)).2)).Perm succ:=by
 have h1:(ref.filter λy=>decide (y∈succ)).Perm (succ.filter λv=>decide (v∈ref)):=by
  refine(List.perm_ext_iff_of_nodup (hr.imp (λh=>by omega) |>.filter _) (hs.imp (λh=>by omega) |>.filter _)).2 λa=>?_;simp only[List.mem_filter,decide_eq_true_eq];exact And.comm
 refine(h1.append (TJ p _)).trans ?_
 unfold Pk
 have:=List.filter_append_perm (λv=>decide (v∈ref)) succ
 refine List.Perm.trans ?_ this
 refine List.Perm.append_left _ ?_
 simp
def z6s {a b:List Nat}(h:a.Perm b)(ha:a.Pairwise (·<=·))(hb:Ris b):a=b:=
 h.eq_of_pairwise (le:=(·<=·)) (λx y _ _ h1 h2=>by omega) ha (hb.imp (λh=>by omega))
def SY (least:Nat):Nat->List (Nat×Nat)->Prop
 |_,[]=>True
 |lo,p::r=>lo<=p.1/\1<=p.2/\least<=p.2/\SY least (p.1+p.2+1) r
def SY.mono {least:Nat}:∀{r:List (Nat×Nat)} {a b:Nat},SY least b r->a<=b->SY least a r
 |[],_,_,_,_=>trivial
 |p::r,a,b,h,hab=>⟨Nat.le_trans hab h.1,h.2⟩
def z5S {x:Nat}{l:List Nat}(h:Ris (x::l)):∀y∈l.drop (PL x l),x+PL x l+2<=y:=by
 intro y hy
 obtain⟨j,hj,e⟩:=List.mem_iff_getElem.1 hy
 rw[List.getElem_drop] at e
 rw[List.length_drop] at hj
 obtain⟨h1,h2⟩:=List.pairwise_cons.1 h
 have hle:=Xl x l
 have h0:PL x l<l.length:=by omega
 obtain⟨z,hz⟩:∃z,l[PL x l]? =some z:=⟨_,List.getElem?_eq_getElem h0⟩
 have hs:=Wq x l z hz
 have hz':=(List.getElem?_eq_some_iff.1 hz).2
 have hzx:x+PL x l<z:=by
  by_cases e0:PL x l=0
  ·have:=h1 z (List.mem_of_getElem? hz);omega
  ·have hg:=VX x l (PL x l-1) (by omega);obtain⟨g1,g2⟩:=List.getElem?_eq_some_iff.1 hg;have:=List.pairwise_iff_getElem.1 h2 (PL x l-1) (PL x l) g1 h0 (by omega);rw[g2,hz'] at this;omega
 have hzy:z<=y:=by
  by_cases e0:j=0
  ·subst e0;simp at e;rw[<-e,<-hz'];exact Nat.le_refl _
  ·have:=List.pairwise_iff_getElem.1 h2 (PL x l) (PL x l+j) h0 (by omega) (by omega);rw[e,hz'] at this;omega
 omega
def UX (least:Nat):∀(l:List Nat) (lo:Nat),Ris l->(∀y∈l,lo<=y)->SY least lo (PO least l).1
 |[],lo,_,_=>by rw[PO];trivial
 | x :: l, lo, h, hl => by
   have hb:=z5S h;have h2:Ris (l.drop (PL x l)):=(List.pairwise_cons.1 h).2.sublist (List.drop_sublist _ _);rw[PO];split
   ·rename_i hc
    refine⟨hl x (by simp),by omega,hc.2,UX least _ _ h2 λy hy=>?_⟩;have:=hb y hy;omega
   ·refine UX least _ _ h2 λy hy=>?_;have:=hb y hy;have:=hl x (by simp);omega
 termination_by l=>l.length
 decreasing_by all_goals (simp[List.length_drop];omega)
def UB (least:Nat):∀(l:List Nat),(PO least l).2.Sublist l
 |[]=>by rw[PO];exact List.Sublist.refl _
 | x :: l => by
   have ih:=UB least (l.drop (PL x l));rw[PO];split
   ·exact(ih.trans (List.drop_sublist _ _)).cons x
   ·have hc:x::l=(x::l.take (PL x l))++l.drop (PL x l):=by rw[List.cons_append,List.take_append_drop]
    conv=>rhs;rw[hc]
    exact ih.append_left _
 termination_by l=>l.length
 decreasing_by simp[List.length_drop];omega
open Go.Proofs.Tryz
abbrev Px (n:Nat):Value:= .int .u32 (n:Int)
theorem z4u (m:Nat)(h:m<18446744073709551616):m^^^18446744073709551615=18446744073709551615-m:=by
 have h1:=congrArg BitVec.toNat (BitVec.xor_allOnes (x:=BitVec.ofNat 64 m))
 rw[BitVec.toNat_xor,BitVec.toNat_not,BitVec.toNat_allOnes,BitVec.toNat_ofNat] at h1
 rw[show(2:Nat)^64=18446744073709551616 from rfl,Nat.mod_eq_of_lt h] at h1
 exact h1
section
variable {P:Program}{e:Env}{d:Option Nat}{ty t t':TypeId}{pos:String}{aft:Array Edge}{g:Option (Nat×Bool)}{x y:Operand}{w:World}{m:Nat}
def zgM (hx:look e x=some (I (m:Int)))(hy:look e y=some (I 0))(hm:m<2^63):Y P e ⟨d,.binOp .xor t x y t',ty,pos,aft,g⟩ (I (m:Int)) w w:=fun ρ hρ=>by
 have h1:m<2^IntKind.i64.bits:=by simp only[IntKind.bits];omega
 have h2:(BitVec.ofInt IntKind.i64.bits 0).toNat=0:=by decide
 simp only[execOp,eqGuard_xor,binOp_xor,intBits_xor,hρ _ _ hx,hρ _ _ hy,pure_bind,Sem.run_pure,bits,BitVec.toNat_xor,QF h1,h2,Nat.xor_zero]
 rw[wrap_i64 ⟨by omega,by omega⟩]
def zic (hx:look e x=some (I (m:Int)))(hy:look e y=some (I (-1)))(hm:m<2^63):Y P e ⟨d,.binOp .xor t x y t',ty,pos,aft,g⟩ (I (-(m:Int)-1)) w w:=fun ρ hρ=>by
 have h1:m<2^IntKind.i64.bits:=by simp only[IntKind.bits];omega
 have h2:(BitVec.ofInt IntKind.i64.bits (-1)).toNat=18446744073709551615:=by decide
 simp only[execOp,eqGuard_xor,binOp_xor,intBits_xor,hρ _ _ hx,hρ _ _ hy,pure_bind,Sem.run_pure,bits,BitVec.toNat_xor,QF h1,h2]
 rw[z4u m (by omega)]
 congr 2
 have h3:((18446744073709551615-m:Nat):Int)=-(m:Int)-1+18446744073709551616:=by omega
 rw[h3]
 simp only[IntKind.wrap,IntKind.bits,IntKind.signed]
 simp
 omega
end
/-! ### Numbers with a sign -/
def z7X (z:Int)(h: -4611686018427387904<=z/\z<4611686018427387904)(w:World):Pm prog 208 [I z] w λu w'=>u=OY (zig z)/\w'=w:=by
 rcases Int.lt_or_le z 0 with h0|h0
 ·obtain⟨n,rfl⟩:∃n:Nat,z=-(n:Int)-1:=⟨(-z-1).toNat,by omega⟩;refine py (e:=[(0,_)]) func208 O ntmps208 O O$ qN O$ QW O$ qV (ycv (b:=((18446744073709551615-n:Nat):Int)) O U2 Rt (by simp only[IntKind.wrap,IntKind.bits,IntKind.signed];simp;omega)) ?_;refine qV (Rf 1 2 O O (by decide) O)$ ON O$ qV (ysr 63 O O (by decide)) ?_;rw[show(-(n:Int)-1) / 2^63=-1 by omega];refine qV (ycv (b:=((18446744073709551615:Nat):Int)) O U2 Rt (by decide))$ qV (z1h O O (by omega) (by omega))$ OV O$ OB func208 O (⟨_,rfl,?_,rfl⟩);rw[z4u _ (by omega)];simp only[PX]
  congr 2
  unfold zig;rw[if_neg (by omega)];omega
 ·obtain⟨n,rfl⟩:∃n:Nat,z=(n:Int):=⟨z.toNat,by omega⟩;refine py (e:=[(0,_)]) func208 O ntmps208 O O$ qN O$ QW O$ qV ((Q7 O U2 Rt (by omega)))$ qV (Rf 1 2 O O (by decide) O)$ ON O$ qV (Uw 63 9223372036854775808 O O (by decide) O)$ qV ((Q7 O U2 Rt (by omega)))$ qV (z1h O O (by omega) (by omega))$ OV O$ OB func208 O (⟨_,rfl,?_,rfl⟩);rw[show n / 9223372036854775808=0 by omega,Nat.xor_zero];simp only[PX]
  congr 2
  unfold zig;rw[if_pos (by omega)];omega
def z8v (n:Nat)(h:n<9223372036854775808)(w:World):Pm prog 233 [OY n] w λu w'=>u=I (zag n)/\w'=w:=by
 refine py (e:=[(0,_)]) func233 O ntmps233 O O$ qN O$ QW O$ qV (Uw 1 2 O O (by decide) O)$ qV (PJ O Rt U2 (by omega))$ ON O$ qV (Ux O O (by omega) (by omega)) ?_
 rw[Nat.and_one_is_mod]
 refine qV (PJ O Rt U2 (by omega)) ?_
 rcases Nat.mod_two_eq_zero_or_one n with h0|h0
 ·rw[h0];refine qV (yng O (by decide) (by decide))$ qV (zgM O O (by omega))$ OV O$ OB func233 O (⟨_,rfl,?_,rfl⟩);simp only[PX];unfold zag;rw[if_pos h0]
 ·rw[h0];refine qV (yng O (by decide) (by decide))$ qV (zic O O (by omega))$ OV O$ OB func233 O (⟨_,rfl,?_,rfl⟩);simp only[PX];unfold zag;rw[if_neg (by omega)]
/-! ### The parameters -/
def lpC (p:S1):List Value:=[I (p.Pb:Int),I (p.interval:Int),I (p.zeta:Int)]
abbrev lpV (p:S1):Value:= .agg (lpC p).toArray
def S1.Qq (p:S1):Prop:=p.Pb<=16/\(p.interval=0\/2<=p.interval/\p.interval<=64)/\1<=p.zeta/\p.zeta<=16
def TS (p:S1)(hp:p.Qq)(w:World):Pm prog 181 [lpV p] w λu w'=>u=I 0/\Ext w w':=by
 obtain⟨h1,h2,h3,h4⟩:=hp
 refine py (e:=[(0,_)]) func181 O ntmps181 O O$ qN O$ OJ O O (R4 O (cs:=lpC p) O) ?_
 rintro _ w1 ⟨b1,rfl,bL,ad,ai⟩
 replace ai:OP w1 b1 [I (p.Pb:Int),I (p.interval:Int),I (p.zeta:Int)] 260:=ai
 refine OV O$ QA$ An$ qN O$ OW To O$ qV (OM U3 O O ai O)$ Qw O$ PH$ ON O$ OW To O$ qV (OM U3 O O ai O)$ QB O$ PH$ PM O ?_
 refine OV O$ OL O$ qN O$ OW z0F O$ qV (OM U3 O O ai O)$ Qw O$ PH$ ON O$ OW z0F O$ qV (OM U3 O O ai O)$ QB O$ PH$ PM O$ OV O ?_
 refine OL O$ OK O$ OW Ue O$ qV (OM U3 O O ai O)$ QE O$ Sr (λe1=>?_)$ λe1=>?_
 ·refine ON O$ OW Ue O$ qV (OM U3 O O ai O)$ Qw O$ PH$ ON O$ OW Ue O$ qV (OM U3 O O ai O)$ QB O$ PH$ PM O$ QX O$ OV O$ Po.qb (e:=[(2,_),(3,_)]) ?_;refine SH O$ Oz$ Qx O$ OB func181 O ?_;exact⟨_,rfl,rfl,ad⟩
 ·refine ON O$ QL$ QL$ QL$ QL$ PM O$ OV O$ Po.qb (e:=[(2,_),(3,_)]) ?_;refine SH O$ Oz$ Qx O$ OB func181 O ?_;exact⟨_,rfl,rfl,ad⟩
def VI (n:Nat)(h:n<65536)(w:World):Pm prog 202 [I (n:Int)] w λu w'=>u= .bool true/\w'=w:=by
 refine py (e:=[(0,_)]) func202 O ntmps202 O O$ qN O$ QW O$ U8 O$ Rz$ Pa O$ Qw O$ Rz$ QX O$ OV O$ OB func202 O ?_
 exact⟨_,rfl,rfl,rfl⟩
structure PB (l:List Nat):Prop where
 ris:Ris l
 lt:∀y∈l,y<65536
def z3F:∀(l:List Nat) (lo hi:Nat),Ris l->(∀y∈l,lo<=y/\y<hi)->lo<=hi->lo+l.length<=hi
 |[],lo,hi,_,_,h=>h
 | x :: l, lo, hi, hr, hm, h => by
   have h1:=(List.pairwise_cons.1 hr);have h2:=hm x List.mem_cons_self;have:=z3F l (x+1) hi h1.2 (λy hy=>⟨h1.1 y hy,(hm y (List.mem_cons_of_mem _ hy)).2⟩) (by omega);rw[List.length_cons];omega
theorem PB.len {l:List Nat}(h:PB l):l.length<=65536:=by
 have:=z3F l 0 65536 h.ris (λy hy=>⟨Nat.zero_le _,h.lt y hy⟩) (by decide)
 omega
def PB.sub {l m:List Nat}(h:PB l)(hs:m.Sublist l):PB m:=⟨h.ris.sublist hs,λy hy=>h.lt y (hs.subset hy)⟩
def WC (v:Value)(l:List Nat)(hl:PB l)(w:World)(hr:Rd w v 1 l.length (l.map Px)):
  Pm prog 203 [v] w λu w'=>u= .bool true/\w'=w:=by
 have aI:=hl.len
 obtain⟨a,cap,rfl,ha⟩:=hr.shape
 refine py (e:=[(0,_)]) func203 O ntmps203 O O$ Qx O$ PK O$ Rs Pu O$ ON O$ OC$ OE$ Rr (α:=Nat) (0) (λi=>[(0,.slice a l.length cap),(5,.slice a l.length cap),(6,I (l.length:Int)),(7,I (i:Int))]) (λi w'=>w'=w/\i<=l.length) (λi=>l.length-i) ?hI ?hround
 case hI=>exact⟨rfl,by omega⟩
 case hround=>
  rintro i _ ⟨rfl,hi⟩ ih
  try dsimp only
  refine qN O$ Qw O$ OC$ An$ OQ O (λaS=>?_)$ λaS=>?_
  ·have gn:i<l.length:=by omega
   have hy:=hl.lt l[i] (List.getElem_mem gn);rcases hr.2 with⟨c,-,h⟩|⟨b,off,cap',mm,bj⟩
   ·omega
   cases mm;refine OD$ QA$ Pn O$ qV (PR Pu P6 O O (by omega))$ qV (Ps QR O O (bj (i*1) (Px l[i]) (by simp[gn]))) ?_;refine SA O$ QW O$ U8 O$ PH$ Pa O$ QB O$ Sr (λe1=>?_)$ λe1=>?_
   ·have hp:l[i-1]<l[i]:=(List.pairwise_iff_getElem.1 hl.ris) (i-1) i (by omega) gn (by omega);refine Pa O$ Pa O$ Ro O ?_;rw[show(i:Int)-1=((i-1:Nat):Int) by omega];refine qV (PR Pu P6 O O (by omega))$ qV (Ps QR O O (bj ((i-1)*1) (Px l[i-1]) (by simp[show i-1<l.length by omega]))) ?_;refine zle O$ PH$ QX O$ PM O$ Qg O$ Oz$ OK O$ PS O$ ON O$ OC ?_;exact(ih (i+1) _ ⟨rfl,by omega⟩ (by omega)).qb
   ·refine ON O$ QL$ QL$ QL$ qS$ PM O$ PM O$ Qg O$ Oz$ OK O$ PS O$ ON O$ OC ?_;exact(ih (i+1) _ ⟨rfl,by omega⟩ (by omega)).qb
  ·refine OO O$ Qx O$ OB func203 O ?_;exact⟨_,rfl,rfl,rfl⟩
def zap (p:S1)(hp:p.Qq)(x:Nat)(hx:x<65536)(v u:Value)(l m:List Nat)(r:Nat)(hl:PB l)(hm:PB m)(hr:r<=p.Pb)(mq:r=0->m=[])(w:World)
  (im:Rd w v 1 l.length (l.map Px)) (Bc:Rd w u 1 m.length (m.map Px)):
  Pm prog 182 [lpV p,I (x:Int),v,u,I (r:Int)] w λo w'=>o= .bool true/\Ext w w':=by
 obtain⟨h1,h2,h3,h4⟩:=id hp
 refine py (e:=[(0,_),(1,_),(2,_),(3,_),(4,_)]) func182 O ntmps182 O O$ qN O$ OJ O O (R4 O (cs:=lpC p) O) ?_
 rintro _ w1 ⟨b1,rfl,bL,ad,ai⟩
 refine QS O$ qV (Pp (news:=lpC p) Zw O TY O (ai.cells (n:=3) O) O)$ P5 z5y O (TS p hp w1) ?_
 rintro _ w2 ⟨rfl,ae⟩
 have ak:=ae.OA ai
 replace ak:OP w2 b1 [I (p.Pb:Int),I (p.interval:Int),I (p.zeta:Int)] 260:=ak
 refine Rg O$ Rz$ Pa O$ P5 z8B O (VI x hx w2) ?_
 rintro _ w3 ⟨rfl,rfl⟩
 refine QX O$ Pa O$ P5 z4V O (WC v l hl w3 (im.ext (ad.trans ae))) ?_
 rintro _ w4 ⟨rfl,rfl⟩
 refine QX O$ Pa O$ P5 z4V O (WC u m hm w4 (Bc.ext (ad.trans ae))) ?_
 rintro _ w5 ⟨rfl,rfl⟩
 refine QX O$ ON O ?_
 obtain⟨ua,uc,rfl,-⟩:=Bc.shape
 refine ON O$ U8 O$ Rz$ QX O$ Pa O$ OW To O$ qV (OM U3 O O ak O)$ zle O$ Rz$ QX O$ Pa O$ QB O$ Sr (λe1=>?_)$ λe1=>?_
 ·refine ON O$ QL$ qS$ QX O$ QX O$ OV O$ Po.qb (e:=[(10,_)]) ?_;refine OB func182 O ?_;exact⟨_,rfl,rfl,ad.trans ae⟩
 ·have e2:=mq (by omega);subst e2;refine Pa O$ Rs Pu O$ Rg O$ Rz$ PM O$ QX O$ OV O$ Po.qb (e:=[(10,_)]) ?_;refine OB func182 O ?_;exact⟨_,rfl,rfl,ad.trans ae⟩
def YK (l:List Nat):∀c∈l.map Px,c.oneCell'=true:=by
 intro c hc
 obtain⟨x,-,rfl⟩:=List.mem_map.1 hc
 rfl
def z27 (p:Nat×Nat):List Value:=[I (p.1:Int),I (p.2:Int)]
theorem za0 (l:List (Nat×Nat)):(l.flatMap z27).length=l.length*2:=by
 induction l with
 |nil=>rfl
 |cons p l ih=>rw[List.flatMap_cons,List.length_append,ih,List.length_cons,show(z27 p).length=2 from rfl];omega
theorem Sl.oneV {w:World}{v:Value}{e size n:Nat}{cs:List Value}(h:Sl w v e size n cs):oneV v=true:=by
 rcases h.shape with⟨rfl,-⟩|⟨g,cap,rfl,-⟩<;>rfl
structure zdw (w:World)(l:List Nat)(least:Nat)(r:List Nat)(a:Option Addr)(cap:Nat)(v4 v5:Value)(R:List (Nat×Nat))(O_:List Nat)(w':World):Prop where
 ext:Ext w w'
 cl:r.length<=cap
 rd:Rd w (.slice a r.length cap) 1 r.length (r.map Px)
 s4:Sl w' v4 326 2 R.length (R.flatMap z27)
 s5:Sl w' v5 59 1 O_.length (O_.map Px)
 f4:∀g,v4.ownBlock=some g->w.heap.size<=g
 f5:∀g,v5.ownBlock=some g->w.heap.size<=g
 ne:∀g,v4.ownBlock=some g->v5.ownBlock≠some g
 ok:PB r
 eq:PO least l=(R++(PO least r).1,O_++(PO least r).2)
 len:R.length+O_.length+r.length<=65536
def TM {w:World}{a:Option Addr}{n cap i:Nat}{cs:List Value}(h:Rd w (.slice a n cap) 1 n cs)(hi:i<=n)(hc:n<=cap):Rd w (.slice (if cap=i then a else a.map (·.add (i*1))) (n-i) (cap-i)) 1 (n-i) (cs.drop i):=by
 have hl:=h.1
 refine⟨by rw[List.length_drop,hl];omega,?_⟩
 rcases h.2 with⟨c,hv,h0⟩|⟨b,off,cap',hv,bj⟩
 ·refine .inl ⟨((if cap=i then a else a.map (·.add (i*1))),cap-i),?_,by omega⟩;rw[show n-i=0 by omega]
 ·cases hv;by_cases e:cap=i
  ·rw[if_pos e];refine .inl ⟨(some ⟨b,off,none⟩,cap-i),?_,by omega⟩;rw[show n-i=0 by omega]
  ·rw[if_neg e];refine .inr ⟨b,off+i*1,cap-i,?_,λj u hu=>?_⟩
   ·simp only[Option.map_some,Rk]
   ·rw[List.getElem?_drop] at hu;have:=bj (i+j) u hu;rw[show off+i*1+j=off+(i+j) by omega];exact this
def UY {w:World}{a:Option Addr}{n cap i:Nat}{cs:List Value}(h:Rd w (.slice a n cap) 1 n cs)(hi:i<=n):Rd w (.slice a i cap) 1 i (cs.take i):=by
 have hl:=h.1
 refine⟨by rw[List.length_take,hl];omega,?_⟩
 rcases h.2 with⟨c,hv,h0⟩|⟨b,off,cap',hv,bj⟩
 ·refine .inl ⟨(a,cap),?_,by omega⟩;rw[show i=0 by omega]
 ·cases hv;refine .inr ⟨b,off,cap,rfl,λj u hu=>?_⟩;rw[List.getElem?_take] at hu;split at hu
  ·exact bj j u hu
  ·cases hu
def zdw.grow {w w1 w2:World}{l r:List Nat}{least cap:Nat}{a:Option Addr}{v4 v5:Value}{R:List (Nat×Nat)}{O_:List Nat}(h:zdw w l least r a cap v4 v5 R O_ w1)(hx:Ext w1 w2):zdw w l least r a cap v4 v5 R O_ w2:=
 ⟨h.ext.trans hx,h.cl,h.rd,h.s4.ext hx,h.s5.ext hx,h.f4,h.f5,h.ne,h.ok,h.eq,h.len⟩
def zbM (a:Option Addr)(cap:Nat)(l:List Nat)(least:Nat)(wj:PB l)(kl:l.length<=cap)(io:least<=64)(w:World)(hr:Rd w (.slice a l.length cap) 1 l.length (l.map Px)):
  Pm prog 207 [.slice a l.length cap,I (least:Int)] w λu w'=>∃v4 v5,u= .tuple #[v4,v5]/\Sl w' v4 326 2 (PO least l).1.length ((PO least l).1.flatMap z27)/\
   Sl w' v5 59 1 (PO least l).2.length ((PO least l).2.map Px)/\Ext w w'/\(∀g,v4.ownBlock=some g->w.heap.size<=g)/\(∀g,v5.ownBlock=some g->w.heap.size<=g)/\∀g,v4.ownBlock=some g->v5.ownBlock≠some g:=by
 refine py (e:=[(0,_),(1,_)]) func207 O ntmps207 O O$ qN O$ Qm O$ QA$ Rr (α:=List Nat×Option Addr×Nat×Value×Value×List (Nat×Nat)×List Nat) ((l,a,cap,.slice none 0 0,.slice none 0 0,[],[])) (λx=>[(0,.slice x.2.1 x.1.length x.2.2.1),(1,I (least:Int)),(4,x.2.2.2.1),(5,x.2.2.2.2.1)]) (λx w'=>zdw w l least x.1 x.2.1 x.2.2.1 x.2.2.2.1 x.2.2.2.2.1 x.2.2.2.2.2.1 x.2.2.2.2.2.2 w') (λx=>x.1.length) ?hI ?hround
 case hI=>exact⟨Ext.refl _,kl,hr,Sl.nil _ _ _,Sl.nil _ _ _,(λg h=>by cases h),(λg h=>by cases h),(λg h=>by cases h),wj,rfl,by have:=wj.len;simp;omega⟩
 case hround =>
  rintro⟨r,a1,c1,v4,v5,R,O_⟩ w6 hI ih;dsimp only at hI
  try dsimp only
  refine PK O$ Rs Pu O$ QB O$ OC$ OQ O (λh0=>?_)$ λh0=>?_
  ·obtain⟨y,r',rfl⟩:∃y r',r=y::r':=by
    cases r with
    |nil=>exact absurd h0 (by simp)
    |cons y r'=>exact⟨y,r',rfl⟩
   have im:=Xl y r';have JB:=hI.ok.lt y List.mem_cons_self;have jn:=hI.ok.len;rw[List.length_cons] at jn
   obtain⟨b,off,mm,bj⟩:∃b off,a1=some ⟨b,off,none⟩/\∀j u,((y::r').map Px)[j]? =some u->w6.cell? ⟨b,off+j,none⟩=some u:=by
    rcases (hI.rd.ext hI.ext).2 with⟨c,-,h⟩|⟨b,off,cap',mm,bj⟩
    ·exact absurd h (by simp)
    ·cases mm;exact⟨b,off,rfl,bj⟩
   subst mm
   have ku:∀w',Ext w w'->∀j u,((y::r').map Px)[j]? =some u->w'.cell? ⟨b,off+j,none⟩=some u:=λw' hx=>by
    rcases (hI.rd.ext hx).2 with⟨c,-,h⟩|⟨b',off',cap',mm,hc⟩
    ·exact absurd h (by simp)
    ·cases mm;exact hc
   clear bj;refine OD$ OE$ Qx O$ QA$ Sf (λe' w'=>Ext w6 w'/\e'=[(0,.slice (some ⟨b,off,none⟩) (y::r').length c1),(1,I (least:Int)),(4,v4),(5,v5),(6,I ((PL y r'+1:Nat):Int))]) ?tF$ λtF=>?Cu
   case tF=>
    rintro e' w6z ⟨aR,rfl⟩;replace hI:=hI.grow aR;have bj:=ku _ hI.ext
    generalize hn:PL y r'+1=n
    have wk:=hI.cl;rw[List.length_cons] at wk;have eh:=hI.eq;have aI:=hI.len;rw[List.length_cons] at aI;have dh:1<=n/\n<=r'.length+1:=by omega
    have pD:r'.drop (PL y r')=(y::r').drop n:=by rw[<-hn];rfl
    have nK:y::r'.take (PL y r')=(y::r').take n:=by rw[<-hn];rfl
    rw[PO] at eh;simp only[hn,pD,nK] at eh;have ax:PB ((y::r').drop n):=hI.ok.sub (List.drop_sublist _ _);have eO:=TM hI.rd (i:=n) (by rw[List.length_cons];omega) hI.cl;rw[<-List.map_drop,show(y::r').length-n=((y::r').drop n).length by rw[List.length_drop]] at eO;have lE:((y::r').drop n).length=r'.length+1-n:=by rw[List.length_drop,List.length_cons]
    by_cases hL:0<least/\least<=n
    ·obtain⟨Bg,HS⟩:=hL;rw[if_pos ⟨Bg,HS⟩] at eh;refine PK O$ QB O$ Rz$ Pa O$ ON O$ U8 O$ Rz$ QX O$ OC$ OS O$ OK O$ Pa O$ qV (PR Pu P6 O O (by omega))$ qV (Ps QR O O (bj (0*1) (Px y) O)) ?_;refine qV (PJ O QR U3 (by omega))$ ON O$ qV (Sa (cs:=[_,_]) z19 O zjv O O)$ OJ O O (XZ (cs:=[_,_]) (zs:=[Value.int .i64 0,Value.int .i64 0]) zaK z19 O (by kernel_rfl) O O O (by decide)) ?_;rintro _ w7 ⟨b7,rfl,⟨mg,co,bO⟩,hH⟩;refine OJ O O (pap zaK z19 O (by decide) O O (hI.s4.ext co) hH.rd (by intro c hc;simp at hc;rcases hc with rfl|rfl<;>rfl) (by omega) (by simp only[maxLen];omega)) ?_;rintro v4' w8 ⟨dO,aL,lH,-⟩;have nr:=dO.oneV;have hz:=hI.ext.size;have Bh:=co.size;have cT:Ext w w8:=(hI.ext.trans co).It aL (λi hi=>hI.f4 i hi);have pE:Sl w8 v5 59 1 O_.length (O_.map Px):=(hI.s5.ext co).kp aL (λg hg e=>hI.ne g e hg);refine OV O$ OK O$ Pa O$ qV (YI Pu P6 O O (by rw[List.length_cons];omega) hI.cl) ?_;refine OV O$ Oz ?_;rw[show(y::r').length-n=((y::r').drop n).length by rw[List.length_drop]];refine(ih ((y::r').drop n,_,c1-n,v4',v5,R++[(y,n)],O_) _ ⟨cT,by dsimp only;rw[lE];omega,eO,?_,pE,?_,hI.f5,?_,ax,?_,?_⟩ ?_).qb
     ·dsimp only;rw[List.length_append,List.flatMap_append];exact dO
     ·intro g hg;rcases lH g hg with h| h
      ·exact hI.f4 g h
      ·omega
     ·intro g hg e;rcases lH g hg with h| h
      ·exact hI.ne g h e
      ·have:=hI.s5.lt e;omega
     ·dsimp only;rw[eh,List.append_assoc];rfl
     ·dsimp only;rw[List.length_append,List.length_singleton,lE];omega
     ·dsimp only;rw[lE,List.length_cons];omega
    ·rw[if_neg hL] at eh;rcases Nat.eq_zero_or_pos least with e0|e0
     ·refine PK O$ QB O$ PH$ ON O$ QL$ qS$ PM O$ OC$ OL O$ OK O$ Pa O$ ON O$ qV (zb3 Pu P6 O O (by omega))$ OJ O O (pap Pu P6 O (by decide) O O hI.s5 (UY (hI.rd.ext hI.ext) (i:=n) (by rw[List.length_cons];omega)) (by rw[<-List.map_take];exact YK _) (by omega) (by simp only[maxLen];omega)) ?_;rintro v5' w8 ⟨dO,aL,lH,-⟩;have nr:=dO.oneV;have hz:=hI.ext.size;have cT:Ext w w8:=hI.ext.It aL (λi hi=>hI.f5 i hi);have wm:Sl w8 v4 326 2 R.length (R.flatMap z27):=hI.s4.kp aL (λg hg e=>hI.ne g hg e);refine OV O$ OK O$ Pa O$ qV (YI Pu P6 O O (by rw[List.length_cons];omega) hI.cl) ?_;refine OV O$ Oz ?_;rw[show(y::r').length-n=((y::r').drop n).length by rw[List.length_drop]];have kw:((y::r').take n).length=n:=by rw[List.length_take,List.length_cons];omega
      refine(ih ((y::r').drop n,_,c1-n,v4,v5',R,O_++(y::r').take n) _ ⟨cT,by dsimp only;rw[lE];omega,eO,wm,?_,hI.f4,?_,?_,ax,?_,?_⟩ ?_).qb
      ·dsimp only;rw[List.length_append,List.map_append,kw,List.map_take];exact dO
      ·intro g hg;rcases lH g hg with h| h
       ·exact hI.f5 g h
       ·omega
      ·intro g hg e;rcases lH g e with h| h
       ·exact hI.ne g hg h
       ·have:=hI.s4.lt hg;omega
      ·dsimp only;rw[eh,List.append_assoc]
      ·dsimp only;rw[List.length_append,kw,lE];omega
      ·dsimp only;rw[lE,List.length_cons];omega
     ·have HS:¬least<=n:=λh=>hL ⟨e0,h⟩;refine PK O$ QB O$ Rz$ Pa O$ ON O$ U8 O$ PH$ QX O$ OC$ OL O$ OK O$ Pa O$ ON O$ qV (zb3 Pu P6 O O (by omega)) ?_;refine OJ O O (pap Pu P6 O (by decide) O O hI.s5 (UY (hI.rd.ext hI.ext) (i:=n) (by rw[List.length_cons];omega)) (by rw[<-List.map_take];exact YK _) (by omega) (by simp only[maxLen];omega)) ?_;rintro v5' w8 ⟨dO,aL,lH,-⟩;have nr:=dO.oneV;have hz:=hI.ext.size;have cT:Ext w w8:=hI.ext.It aL (λi hi=>hI.f5 i hi);have wm:Sl w8 v4 326 2 R.length (R.flatMap z27):=hI.s4.kp aL (λg hg e=>hI.ne g hg e);refine OV O$ OK O$ Pa O$ qV (YI Pu P6 O O (by rw[List.length_cons];omega) hI.cl) ?_;refine OV O$ Oz ?_;rw[show(y::r').length-n=((y::r').drop n).length by rw[List.length_drop]];have kw:((y::r').take n).length=n:=by rw[List.length_take,List.length_cons];omega
      refine(ih ((y::r').drop n,_,c1-n,v4,v5',R,O_++(y::r').take n) _ ⟨cT,by dsimp only;rw[lE];omega,eO,wm,?_,hI.f4,?_,?_,ax,?_,?_⟩ ?_).qb
      ·dsimp only;rw[List.length_append,List.map_append,kw,List.map_take];exact dO
      ·intro g hg;rcases lH g hg with h| h
       ·exact hI.f5 g h
       ·omega
      ·intro g hg e;rcases lH g e with h| h
       ·exact hI.ne g hg h
       ·have:=hI.s4.lt hg;omega
      ·dsimp only;rw[eh,List.append_assoc]
      ·dsimp only;rw[List.length_append,kw,lE];omega
      ·dsimp only;rw[lE,List.length_cons];omega
   case Cu =>
    refine Rr (α:=Nat) (1) (λi=>[(0,.slice (some ⟨b,off,none⟩) (y::r').length c1),(1,I (least:Int)),(4,v4),(5,v5),(6,I (i:Int))]) (λi w'=>Ext w6 w'/\1<=i/\i<=PL y r'+1) (λi=>PL y r'+2-i) ?hI ?hround
    case hI=>exact⟨Ext.refl _,by omega,by omega⟩
    case hround=>
     rintro i w7 ⟨co,tG,dT⟩ ih2
     try dsimp only
     refine An$ An ?_;have hg:=(Ext.refl w7).drew;refine QV (λw'=>Ext w7 w') O$ OZ 0 O O (hg)$ OZ 1 O O (hg)$ OG 2 O (SE Pu O) hg$ OG 3 O (ylt O O) hg$ zir (λe1=>?_)$ λe1=>?_
     ·have xn:i<r'.length+1:=by rw[List.length_cons] at e1;omega
      have dl:r'[i-1]? =some (r'[i-1]'(by omega)):=List.getElem?_eq_getElem (by omega);have JC:r'[i-1]'(by omega)<65536:=hI.ok.lt _ (List.mem_cons_of_mem _ (List.getElem_mem _));refine OZ 4 O O (hg)$ OZ 5 O O (hg)$ OZ 6 O O (hg)$ OG 7 O (PR Pu P6 O O (by omega)) hg$ OZ 9 O O (hg)$ OG 10 O (PR Pu P6 O O (by omega)) hg$ OZ 12 O O (hg)$ OG 13 O (z4q O U3 QR) hg$ qT 8 O (λ_ hS=>Ps QR O O (by exact ku _ ((hI.ext.trans co).trans hS) (i*1) (Px (r'[i-1]'(by omega))) (by rw[List.getElem?_map,show i*1=(i-1)+1 by omega,List.getElem?_cons_succ,dl];rfl))) hg ?_;refine qT 11 O (λ_ hS=>Ps QR O O (by exact ku _ ((hI.ext.trans co).trans hS) (0*1) (Px y) O)) hg ?_;refine OG 14 O (zhg O O) hg$ OG 15 O (yeq O O) hg$ OG 16 O (Uu O O) hg$ qE$ OQ O (λe2=>?_)$ λe2=>?_
      ·refine OD$ OE$ R6 O$ PS O$ OV O$ Oz ?_
       have bu:i≠PL y r'+1:=λe=>by
        subst e;have:=Wq y r' (r'[PL y r'+1-1]'(by omega)) (by rw[<-dl];simp);omega
       exact(ih2 (i+1) _ ⟨co.trans hg,by omega,by omega⟩ (by omega)).qb
      ·have xo:i=PL y r'+1:=by
        rcases Nat.lt_or_ge (i-1) (PL y r') with h| h
        ·have h1:=VX y r' (i-1) h;rw[dl] at h1;have h2:=Rx h1;exact absurd (by omega) e2
        ·omega
       refine OO O ?_;subst xo;exact(tF _ _ ⟨co.trans hg,rfl⟩).qb
     ·have xo:i=PL y r'+1:=by rw[List.length_cons] at e1;omega
      refine OZ 4 O O (hg)$ qJ 5 O (hg)$ qJ 6 O (hg)$ qJ 7 O (hg)$ qJ 8 O (hg)$ qJ 9 O (hg)$ qJ 10 O (hg)$ qJ 11 O (hg)$ qJ 12 O (hg)$ qJ 13 O (hg)$ qJ 14 O (hg)$ qJ 15 O (hg)$ OG 16 O (U0 O O) hg$ qE ?_;refine OL O$ OO O ?_;subst xo;exact(tF _ _ ⟨co.trans hg,rfl⟩).qb
  ·have fm:r=[]:=List.eq_nil_of_length_eq_zero (by omega);subst fm;refine OO O$ Qt O$ Qm O$ OB func207 O ?_;have eh:=hI.eq;simp only[PO,List.append_nil] at eh;rw[eh];exact⟨_,rfl,v4,v5,rfl,hI.s4,hI.s5,hI.ext,hI.f4,hI.f5,hI.ne⟩
structure VsM (w:World)(p:Nat)(v:Value)(T el:TypeId)(size n:Nat)(cs:List Value):Prop where
 OA:OP w p [v] T
 sl:Sl w v el size n cs
 ne:v.ownBlock≠some p
def VsA (w:World)(p:Nat)(T el:TypeId)(size n:Nat)(cs:List Value)(F:Nat->Prop):Prop:=∃v,VsM w p v T el size n cs/\∀k,F k↔fpW p v k
section
variable {w w':World}{p:Nat}{T el:TypeId}{size n:Nat}{cs:List Value}{F S:Nat->Prop}
def VsA.lt (h:VsA w p T el size n cs F){k:Nat}(hk:F k):k<w.heap.size:=by
 obtain⟨bv,hM,hF⟩:=h
 rcases (hF k).1 hk with e| e
 ·rw[e];exact hM.OA.lt
 ·exact hM.sl.lt e
def VsA.kp (h:VsA w p T el size n cs F)(k:Kp S w w')(hn:∀i,F i->¬S i):VsA w' p T el size n cs F:=by
 obtain⟨bv,hM,hF⟩:=h
 exact⟨bv,⟨k.OA hM.OA (hn p ((hF p).2 (.inl O))),hM.sl.kp k (λg hg=>hn g ((hF g).2 (.inr hg))),hM.ne⟩,hF⟩
def VsA.ext (h:VsA w p T el size n cs F)(k:Ext w w'):VsA w' p T el size n cs F:=h.kp k.kp λ_ _=>id
end
def zeA {P:Program}{e:Env}{d:Option Nat}{ty t t':TypeId}{pos:String}{aft:Array Edge}{g:Option (Nat×Bool)}{x y:Operand}{w:World}{p q:Bool}(hx:look e x=some (.bool p))(hy:look e y=some (.bool q))(ht:P.underlying t=some .bool):Y P e ⟨d,.binOp .neq t x y t',ty,pos,aft,g⟩ (.bool (!(p==q))) w w:=fun ρ hρ=>by
 simp[execOp,hρ _ _ hx,hρ _ _ hy,eqGuard_at_bool,run_neq_bool w t p q ht]
def z69 (q:Cd×Nat):List Value:=Sg q.1++[OY q.2]
abbrev z4p (w:World)(p:Nat)(L:List (Cd×Nat))(F:Nat->Prop):Prop:=VsA w p 291 296 3 L.length (L.flatMap z69) F
abbrev z3t (w:World)(p:Nat)(L:List Nat)(F:Nat->Prop):Prop:=VsA w p 62 59 1 L.length (L.map Px) F
abbrev z1Y (w:World)(p:Nat)(L:List Nat)(F:Nat->Prop):Prop:=VsA w p 37 3 1 L.length (L.map λn:Nat=>I (n:Int)) F
def Te {w:World}{p:Nat}{L:List (Cd×Nat)}{F:Nat->Prop}(h:z4p w p L F)(hl:L.length<=1000000)(c:Cd)(v:Nat)(hv:v<9223372036854775808):
  Pm prog 204 [cdV c,I (v:Int),ptr p 0] w λu w'=>u= .tuple #[]/\∃F',z4p w' p (L++[(c,v)]) F'/\Kp F w w'/\∀k,F' k->F k\/w.heap.size<=k:=by
 obtain⟨x,y,dN,Cv,Cw⟩:∃x y,Sg c=[x,y]/\x.oneCell'=true/\y.oneCell'=true:=by cases c<;>exact⟨_,_,rfl,rfl,rfl⟩
 obtain⟨bv,hM,hF⟩:=h
 have ns:cdV c= .agg [x,y].toArray:=by rw[cdV,dN]
 rw[ns]
 have Cy:∀c∈[x,y,OY v],c.oneCell'=true:=by
  intro c hc;rcases List.mem_cons.1 hc with rfl|hc
  ·exact Cv
  rcases List.mem_cons.1 hc with rfl|hc
  ·exact Cw
  rcases List.mem_cons.1 hc with rfl|hc
  ·rfl
  ·simp at hc
 refine py (e:=[(0,_),(1,_),(2,_)]) func204 O ntmps204 O O$ qN O$ OJ O O (R4 O (cs:=[x,y]) O) ?_
 rintro _ w1 ⟨b3,rfl,dG,ad,ar⟩
 have jR:=ad.OA hM.OA
 refine OC$ OK O$ qV (OM z1L O O jR O)$ qV (Pp (news:=[x,y]) Ss O QI O (ar.cells (n:=2) O) O)$ ON O$ qV ((Q7 O U3 Rt (by omega)))$ qV (Sa (cs:=[_,_,_]) Vv O zdR O O)$ OJ O O (XZ (cs:=[_,_,_]) (zs:=[Value.int .u8 0,Value.int .u64 0,Value.int .u64 0]) z1L Vv O (by kernel_rfl) O O O (by decide)) ?_
 rintro _ w2 ⟨b2,rfl,⟨bN,ae,ak⟩,cL⟩
 refine OJ O O (pap z1L Vv O (by decide) O O ((hM.sl.ext ad).ext ae) cL.rd Cy (by omega) (by simp only[maxLen];omega)) ?_
 rintro v3 w3 ⟨da,av,lF,-⟩
 have nr:=da.oneV
 have aK:=av.OA (ae.OA jR) hM.ne
 refine OT O (QG zbL O O nr aK (by simp)) ?_
 rintro w4 ⟨aH,au⟩
 replace aH:OP w4 p [v3] 291:=aH
 have z1:=ad.size
 have z2:=ae.size
 have lp:=hM.OA.lt
 have fu:v3.ownBlock≠some p:=λe=>by
  rcases lF p e with e| e
  ·exact hM.ne e
  ·omega
 have eg:=da.kp au (λg hg e=>fu (e▸hg))
 refine OC$ Qa func204 O (⟨_,rfl,rfl,fpW p v3,⟨v3,⟨aH,?_,fu⟩,λ_=>Iff.rfl⟩,?_,?_⟩)
 ·rw[List.length_append,List.flatMap_append];have e1:[(c,v)].flatMap z69=[x,y,OY v]:=by simp[z69,dN]
  rw[e1];exact eg
 ·exact((ad.trans ae).kp.trans (av.OH λk e=>(hF k).2 (.inr e))).trans (au.OH λk e=>(hF k).2 (.inl e))
 ·intro k hk;rcases hk with e| e
  ·exact .inl ((hF k).2 (.inl e))
  ·rcases lF k e with e| e
   ·exact .inl ((hF k).2 (.inr e))
   ·exact .inr (by omega)
def Vh (rs:List Nat)(f:Bool):List Nat:=if f !=(rs.length%2==1) then rs++[0] else rs
theorem z1C (rs:List Nat)(f:Bool):QU rs f=(Vh rs f).modify ((Vh rs f).length-1) (·+1):=rfl
abbrev z7c (n:Nat):Value:=I (n:Int)
def z2G {w:World}{lf rn:Nat}{L:List Nat}{F:Nat->Prop}(h:z3t w lf L F)(hl:L.length<=1000000)(x:Nat)(a:Bool):
  Pm prog 206 [Px x,.bool a,.bool false,ptr lf 0,ptr rn 0] w λu w'=>u= .tuple #[]/\∃F',z3t w' lf (L++[x]) F'/\Kp F w w'/\∀k,F' k->F k\/w.heap.size<=k:=by
 obtain⟨bv,hM,hF⟩:=h
 refine py (e:=[(0,_),(1,_),(2,_),(3,_),(4,_)]) func206 O ntmps206 O O ?_
 have jR:=hM.OA
 refine QA$ Pn O$ qV ((RZ O))$ OV O$ OS O$ qN O$ qV (OM Pu O O jR O)$ ON O$ OJ O O (XZ (cs:=[_]) (zs:=[Value.int .u32 0]) Pu P6 O (by kernel_rfl) O O O (by decide)) ?_
 rintro _ w2 ⟨b2,rfl,⟨bN,ae,ak⟩,cL⟩
 refine OJ O O (pap Pu P6 O (by decide) O O (hM.sl.ext ae) cL.rd (by intro c hc;simp at hc;subst hc;rfl) (by omega) (by simp only[maxLen];omega)) ?_
 rintro v3 w3 ⟨da,av,lF,-⟩
 have nr:=da.oneV
 have aK:=av.OA (ae.OA jR) hM.ne
 refine OT O (QG Tz O O nr aK (by simp)) ?_
 rintro w4 ⟨aH,au⟩
 replace aH:OP w4 lf [v3] 62:=aH
 have z2:=ae.size
 have lp:=hM.OA.lt
 have fu:v3.ownBlock≠some lf:=λe=>by
  rcases lF lf e with e| e
  ·exact hM.ne e
  ·omega
 have eg:=da.kp au (λg hg e=>fu (e▸hg))
 refine OC$ OB func206 O (⟨_,rfl,rfl,fpW lf v3,⟨v3,⟨aH,?_,fu⟩,λ_=>Iff.rfl⟩,?_,?_⟩)
 ·rw[List.length_append,List.map_append];exact eg
 ·exact(ae.kp.trans (av.OH λk e=>(hF k).2 (.inr e))).trans (au.OH λk e=>(hF k).2 (.inl e))
 ·intro k hk;rcases hk with e| e
  ·exact .inl ((hF k).2 (.inl e))
  ·rcases lF k e with e| e
   ·exact .inl ((hF k).2 (.inr e))
   ·exact .inr (by omega)
def Zh {w:World}{lf rn:Nat}{rs:List Nat}{F:Nat->Prop}(h:z1Y w rn rs F)(hl:rs.length<=1000000)(bu:rs≠[])(hb:∀m∈rs,m<=1000000)(x:Nat)(a:Bool):
  Pm prog 206 [Px x,.bool a,.bool true,ptr lf 0,ptr rn 0] w λu w'=>u= .tuple #[]/\∃F',z1Y w' rn (QU rs a) F'/\Kp F w w'/\∀k,F' k->F k\/w.heap.size<=k:=by
 have aS:∀k,F k->k<w.heap.size:=λk hk=>h.lt hk
 obtain⟨bv,hM,hF⟩:=id h
 refine py (e:=[(0,_),(1,_),(2,_),(3,_),(4,_)]) func206 O ntmps206 O O ?_
 have jR:=hM.OA
 obtain⟨va,vc,rfl,-⟩:=hM.sl.rd.shape
 refine QA$ Pn O$ qV ((RZ O))$ OV O$ OL O$ Pn O$ qV (OM R0 O O jR O)$ Rs R0 O$ qV (XC O O (by omega) (by omega)) ?_
 rw[Nat.and_one_is_mod]
 refine Rg O$ qV (zeA O O U4) ?_
 have hd:decide (((rs.length%2:Nat):Int)=1)=(rs.length%2==1):=by
  rcases Nat.mod_two_eq_zero_or_one rs.length with e|e<;>rw[e]<;>rfl
 rw[hd]
 refine OV O$ PD (λe' w'=>e'=[(4,ptr rn 0)]/\∃F',z1Y w' rn (Vh rs a) F'/\Kp F w w'/\∀k,F' k->F k\/w.heap.size<=k) ?tH$ λtH=>?tI
 case tH=>
  rintro e' w1 ⟨rfl,F1,⟨v1,dD,pF⟩,az,j9⟩
  obtain⟨l,m,iB,eP,hm⟩:∃l m,Vh rs a=l++[m]/\l.length<=1000000/\m<=1000000:=by
   unfold Vh;split
   ·exact⟨rs,0,rfl,hl,by omega⟩
   ·refine⟨rs.dropLast,rs.getLast bu,(List.dropLast_concat_getLast bu).symm,by rw[List.length_dropLast];omega,hb _ (List.getLast_mem bu)⟩
  rw[iB] at dD;have fQ:(l++[m]).length=l.length+1:=by simp
  rw[fQ] at dD;rcases dD.sl.shape with⟨-,h0⟩|⟨g,c1,rfl,fx⟩
  ·omega
  have ai:=dD.OA;refine Oz$ OK O$ qV (OM R0 O O ai O)$ qV (OM R0 O O ai O)$ Rs R0 O$ Ro O ?_;rw[show((l.length+1:Nat):Int)-1=(l.length:Int) by omega];refine qV (PR R0 PV O O (by omega))$ qV (Ps U3 O O (PU dD.sl.rd (show((l++[m]).map z7c)[l.length]? =some (z7c m) by simp))) ?_;refine PS O$ qV (PR R0 PV O O (by omega))$ OT O (RQ PV O O O dD.sl (by simp)) ?_;rintro w2 ⟨cL,am⟩;have ak:=am.OA ai (λe=>dD.ne (by rw[e];rfl));refine OC$ Qa func206 O (⟨_,rfl,rfl,fpW rn (.slice (some ⟨g,0,none⟩) (l.length+1) c1),⟨_,⟨ak,?_,dD.ne⟩,λ_=>Iff.rfl⟩,?_,?_⟩)
  ·rw[z1C,iB,WE];have e1:(l++[m+1]).length=l.length+1:=by simp
   rw[e1]
   have e2:((l++[m]).map z7c).set l.length (z7c (m+1))=(l++[m+1]).map z7c:=by
    rw[List.map_append,List.set_append_right _ _ (by simp)];simp
   rw[<-e2];have e3:l.length*1=l.length:=Nat.mul_one _
   first|exact cL|(simp only[Nat.zero_add,Nat.mul_one] at cL;exact cL)
  ·exact az.It (am.OH (λk e=>(pF k).2 (.inr (by rw[e];rfl)))) (λi hi=>(j9 i hi).symm)
  ·intro k hk;exact j9 k ((pF k).2 hk)
 case tI=>
  refine Qf O (λe1=>?_)$ λe1=>?_
  ·have dH:Vh rs a=rs++[0]:=by unfold Vh;exact if_pos e1
   refine OK O$ qV (OM R0 O O jR O)$ OJ O O (XZ (cs:=[_]) (zs:=[Value.int .i64 0]) R0 PV O (by kernel_rfl) O O O (by decide)) ?_;rintro _ w2 ⟨b2,rfl,⟨bN,ae,ak⟩,cL⟩;refine OJ O O (pap R0 PV O (by decide) O O (hM.sl.ext ae) cL.rd (by intro c hc;simp at hc;subst hc;rfl) (by omega) (by simp only[maxLen];omega)) ?_;rintro v3 w3 ⟨da,av,lF,-⟩;have nr:=da.oneV;have aK:=av.OA (ae.OA jR) hM.ne;refine OT O (QG z14 O O nr aK (by simp)) ?_;rintro w4 ⟨aH,au⟩;replace aH:OP w4 rn [v3] 37:=aH;have z2:=ae.size;have lp:=hM.OA.lt
   have fu:v3.ownBlock≠some rn:=λe=>by
    rcases lF rn e with e| e
    ·exact hM.ne e
    ·omega
   have eg:=da.kp au (λg hg e=>fu (e▸hg));refine OC ((tH _ _ ⟨rfl,fpW rn v3,⟨v3,⟨aH,?_,fu⟩,λ_=>Iff.rfl⟩,?_,?_⟩).qb)
   ·rw[dH,List.length_append,List.map_append];exact eg
   ·exact(ae.kp.trans (av.OH λk e=>(hF k).2 (.inr e))).trans (au.OH λk e=>(hF k).2 (.inl e))
   ·intro k hk;rcases hk with e| e
    ·exact .inl ((hF k).2 (.inl e))
    ·rcases lF k e with e| e
     ·exact .inl ((hF k).2 (.inr e))
     ·exact .inr (by omega)
  ·have dH:Vh rs a=rs:=by unfold Vh;exact if_neg (by simpa using e1)
   refine OD ?_;exact(tH _ _ ⟨rfl,F,by rw[dH];exact h,Kp.refl _ _,λk hk=> .inl hk⟩).qb
def Vp (s r rs:List Nat):List Nat:=r.foldl (λrs y=>QU rs (decide (y∈s))) rs
def ZY {s t:List Nat}:∀(r rs:List Nat),(∀y∈r,(y∈s↔y∈t))->Vp s r rs=Vp t r rs
 |[],rs,_=>rfl
 | y :: r, rs, h => by
   have h1:decide (y∈s)=decide (y∈t):=decide_eq_decide.2 (h y List.mem_cons_self);show Vp s r (QU rs (decide (y∈s)))=Vp t r (QU rs (decide (y∈t)));rw[h1];exact ZY r _ (λz hz=>h z (List.mem_cons_of_mem _ hz))
def VH {x z:Nat}{l:List Nat}(h:x<z):z∈x::l↔z∈l:=by
 rw[List.mem_cons]
 constructor
 ·rintro(e|e)
  ·omega
  ·exact e
 ·exact .inr
theorem z3h {x:Nat}{s r:List Nat}(h:∀y∈r,x<y):Pk (x::s) r=x::Pk s r/\∀rs,Vp (x::s) r rs=Vp s r rs:=by
 have hx:x∉r:=λe=>by have:=h x e;omega
 refine⟨?_,λrs=>ZY r rs λy hy=>VH (h y hy)⟩
 unfold Pk
 rw[List.filter_cons,if_pos (by simpa using hx)]
def z0M {r t:List Nat}(s:List Nat)(h:∀x∈s,(x∈r↔x∈t)):Pk s r=Pk s t:=
 List.filter_congr λx hx=>decide_eq_decide.2 (not_congr (h x hx))
theorem z7O {x:Nat}{s r:List Nat}(hs:∀z∈s,x<z)(hr:∀y∈r,x<y):Pk (x::s) (x::r)=Pk s r/\∀rs,Vp (x::s) (x::r) rs=Vp s r (QU rs true):=by
 refine⟨?_,λrs=>?_⟩
 ·have:=z0M (r:=x::r) (t:=r) s (λz hz=>VH (hs z hz));rw[<-this];unfold Pk;rw[List.filter_cons,if_neg (by simp)]
 ·show Vp (x::s) r (QU rs (decide (x∈x::s)))=_;rw[decide_eq_true List.mem_cons_self];exact(z3h hr).2 _
theorem z8A {y:Nat}{s r:List Nat}(hs:∀z∈s,y<z):Pk s (y::r)=Pk s r/\∀rs,Vp s (y::r) rs=Vp s r (QU rs false):=by
 refine⟨z0M s (λz hz=>VH (hs z hz)),λrs=>?_⟩
 show Vp s r (QU rs (decide (y∈s)))=_
 rw[decide_eq_false λe=>by have:=hs y e;omega]
def z4e {x y:Nat}{l:List Nat}(hr:Ris (y::l))(h:x<y):∀z∈y::l,x<z:=λz hz=>by
 rcases List.mem_cons.1 hz with e| e
 ·omega
 ·have:=(List.pairwise_cons.1 hr).1 z e;omega
def z0I:∀{l:List Nat} {m:Nat},m∈l->m<=l.sum
 | x :: l, m, h => by
   rw[List.sum_cons];rcases List.mem_cons.1 h with e| e
   ·omega
   ·have:=z0I e;omega
def z4F (rs:List Nat)(f:Bool):(QU rs f).length<=rs.length+1:=by
 rw[z1C,List.length_modify]
 unfold Vh
 split<;>simp
def Tw.le {rs:List Nat}{fs:List Bool}(h:Tw rs fs):∀m∈rs,m<=fs.length:=λm hm=>by
 have:=z0I hm
 rw[<-h.exp,SR];exact this
structure TZ (w:World)(succ ref:List Nat)(lf rn:Nat)(FL0 FR0:Nat->Prop)(s:List Nat)(sa:Option Addr)(sc:Nat)(r:List Nat)(ra:Option Addr)(rc:Nat)(L rs:List Nat)(w':World):Prop where
 ex:∃FL FR fs,z3t w' lf L FL/\z1Y w' rn rs FR/\Tw rs fs/\fs.length+r.length<=65536/\rs.length+r.length<=65537/\(∀k,FL k->FL0 k\/w.heap.size<=k)/\(∀k,FR k->FR0 k\/w.heap.size<=k)/\∀k,FL k->¬FR k
 rdS:∀w2,Kp (λk=>FL0 k\/FR0 k) w w2->Rd w2 (.slice sa s.length sc) 1 s.length (s.map Px)
 rdR:∀w2,Kp (λk=>FL0 k\/FR0 k) w w2->Rd w2 (.slice ra r.length rc) 1 r.length (r.map Px)
 clS:s.length<=sc
 clR:r.length<=rc
 kp:Kp (λk=>FL0 k\/FR0 k) w w'
 okS:PB s
 okR:PB r
 left:Pk succ ref=L++Pk s r
 fold:R7 succ ref=Vp s r rs
 zfi:L.length+s.length<=65536
section
variable {w w1 w2:World}{succ ref:List Nat}{lf rn:Nat}{FL0 FR0:Nat->Prop}{s r L rs:List Nat}{sa ra:Option Addr}{sc rc:Nat}{x y:Nat}
def TZ.ext (h:TZ w succ ref lf rn FL0 FR0 s sa sc r ra rc L rs w1)(hx:Ext w1 w2):TZ w succ ref lf rn FL0 FR0 s sa sc r ra rc L rs w2:=by
 obtain⟨FL,FR,fs,h1,h2,h3⟩:=h.ex
 exact⟨⟨FL,FR,fs,h1.ext hx,h2.ext hx,h3⟩,h.rdS,h.rdR,h.clS,h.clR,h.kp.trans hx.kp,h.okS,h.okR,h.left,h.fold,h.zfi⟩
def TZ.z8t (h:TZ w succ ref lf rn FL0 FR0 (x::s) sa sc r ra rc L rs w1):∃b off,sa=some ⟨b,off,none⟩/\∀w2,Kp (λk=>FL0 k\/FR0 k) w w2->w2.cell? ⟨b,off+0*1,none⟩=some (Px x):=by
 rcases (h.rdS w1 h.kp).2 with⟨c,-,h0⟩|⟨b,off,cap,hv,-⟩
 ·exact absurd h0 (by simp)
 ·cases hv;exact⟨b,off,rfl,λw2 k=>PU (h.rdS w2 k) O⟩
def TZ.z7S (h:TZ w succ ref lf rn FL0 FR0 s sa sc (y::r) ra rc L rs w1):∃b off,ra=some ⟨b,off,none⟩/\∀w2,Kp (λk=>FL0 k\/FR0 k) w w2->w2.cell? ⟨b,off+0*1,none⟩=some (Px y):=by
 rcases (h.rdR w1 h.kp).2 with⟨c,-,h0⟩|⟨b,off,cap,hv,-⟩
 ·exact absurd h0 (by simp)
 ·cases hv;exact⟨b,off,rfl,λw2 k=>PU (h.rdR w2 k) O⟩
def TZ.zez (h:TZ w succ ref lf rn FL0 FR0 (x::s) sa sc r ra rc L rs w1){FL FR:Nat->Prop}{fs:List Bool}(he:z3t w1 lf L FL/\z1Y w1 rn rs FR/\Tw rs fs/\fs.length+r.length<=65536/\rs.length+r.length<=65537/\(∀k,FL k->FL0 k\/w.heap.size<=k)/\(∀k,FR k->FR0 k\/w.heap.size<=k)/\∀k,FL k->¬FR k)
  (hr:∀y∈r,x<y) (hw:∃FL',z3t w2 lf (L++[x]) FL'/\Kp FL w1 w2/\∀k,FL' k->FL k\/w1.heap.size<=k):
  TZ w succ ref lf rn FL0 FR0 s (if sc=1 then sa else sa.map (·.add (1*1))) (sc-1) r ra rc (L++[x]) rs w2:=by
 obtain⟨-,k1,k2,k3,k4,k5,k6,k7,k8,k9,k10⟩:=h
 obtain⟨h1,h2,h3,h4,h5,h6,h7,h8⟩:=he
 obtain⟨FL',g1,g2,g3⟩:=hw
 have hz:=k5.size
 rw[List.length_cons] at k3 k10
 refine⟨⟨FL',FR,fs,g1,h2.kp g2 (λi hi e=>h8 i e hi),h3,h4,h5,λk hk=>?_,h7,λk hk e=>?_⟩,λw2 k=>?_,k2,by omega,k4,k5.It g2 (λi hi=>?_),k6.sub (List.sublist_cons_self _ _),k7,?_,?_,?_⟩
 ·rcases g3 k hk with e| e
  ·exact h6 k e
  ·exact .inr (by omega)
 ·rcases g3 k hk with e2|e2
  ·exact h8 k e2 e
  ·have:=h2.lt e;omega
 ·have:=TM (k1 w2 k) (i:=1) (by rw[List.length_cons];omega) (by rw[List.length_cons];omega);exact this
 ·rcases h6 i hi with e| e
  ·exact .inr (.inl e)
  ·exact .inl e
 ·rw[k8,(z3h hr).1,List.append_assoc];rfl
 ·rw[k9,(z3h hr).2]
 ·rw[List.length_append,List.length_singleton];omega
def TZ.zc4 {s2:List Nat}{sa2:Option Addr}{sc2:Nat}{f:Bool}(h:TZ w succ ref lf rn FL0 FR0 s sa sc (y::r) ra rc L rs w1)(hs:(s2=s/\sa2=sa/\sc2=sc/\f=false/\∀z∈s,y<z)\/(s=y::s2/\sa2=(if sc=1 then sa else sa.map (·.add (1*1)))/\sc2=sc-1/\f=true))
  {FL FR:Nat->Prop} {fs:List Bool} (he:z3t w1 lf L FL/\z1Y w1 rn rs FR/\Tw rs fs/\fs.length+(y::r).length<=65536/\rs.length+(y::r).length<=65537/\(∀k,FL k->FL0 k\/w.heap.size<=k)/\(∀k,FR k->FR0 k\/w.heap.size<=k)/\∀k,FL k->¬FR k)
  (hw:∃FR',z1Y w2 rn (QU rs f) FR'/\Kp FR w1 w2/\∀k,FR' k->FR k\/w1.heap.size<=k):
  TZ w succ ref lf rn FL0 FR0 s2 sa2 sc2 r (if rc=1 then ra else ra.map (·.add (1*1))) (rc-1) L (QU rs f) w2:=by
 obtain⟨-,k1,k2,k3,k4,k5,k6,k7,k8,k9,k10⟩:=h
 obtain⟨h1,h2,h3,h4,h5,h6,h7,h8⟩:=he
 rw[List.length_cons] at h4 h5 k4
 obtain⟨FR',g1,g2,g3⟩:=hw
 have hz:=k5.size
 have im:=z4F rs f
 have HT:∀z∈r,y<z:=(List.pairwise_cons.1 k7.ris).1
 have wn:∃FL FR fs,z3t w2 lf L FL/\z1Y w2 rn (QU rs f) FR/\Tw (QU rs f) fs/\fs.length+r.length<=65536/\(QU rs f).length+r.length<=65537/\(∀k,FL k->FL0 k\/w.heap.size<=k)/\(∀k,FR k->FR0 k\/w.heap.size<=k)/\∀k,FL k->¬FR k:=by
  refine⟨FL,FR',fs++[f],h1.kp g2 (λi hi e=>h8 i hi e),g1,h3.step f,by rw[List.length_append,List.length_singleton];omega,by omega,h6,λk hk=>?_,λk hk e=>?_⟩
  ·rcases g3 k hk with e| e
   ·exact h7 k e
   ·exact .inr (by omega)
  ·rcases g3 k e with e2|e2
   ·exact h8 k hk e2
   ·have:=h1.lt hk;omega
 have tJ:Kp (λk=>FL0 k\/FR0 k) w w2:=k5.It g2 (λi hi=>by
  rcases h7 i hi with e| e
  ·exact .inr (.inr e)
  ·exact .inl e)
 have eO:∀w2,Kp (λk=>FL0 k\/FR0 k) w w2->Rd w2 (.slice (if rc=1 then ra else ra.map (·.add (1*1))) r.length (rc-1)) 1 r.length (r.map Px):=λw2 k=>
  TM (k2 w2 k) (i:=1) (by rw[List.length_cons];omega) (by rw[List.length_cons];omega)
 rcases hs with⟨rfl,rfl,rfl,rfl,hg⟩|⟨rfl,rfl,rfl,rfl⟩
 ·exact⟨wn,k1,eO,k3,by omega,tJ,k6,k7.sub (List.sublist_cons_self _ _),by rw[k8,(z8A hg).1],by rw[k9,(z8A hg).2],k10⟩
 ·have HU:∀z∈s2,y<z:=(List.pairwise_cons.1 k6.ris).1;rw[List.length_cons] at k3 k10;refine⟨wn,λw2 k=>?_,eO,by omega,by omega,tJ,k6.sub (List.sublist_cons_self _ _),k7.sub (List.sublist_cons_self _ _),by rw[k8,(z7O HU HT).1],by rw[k9,(z7O HU HT).2],by omega⟩;exact TM (k1 w2 k) (i:=1) (by rw[List.length_cons];omega) (by rw[List.length_cons];omega)
end
def zbA {w:World}{succ ref:List Nat}{lf rn:Nat}{FL0 FR0:Nat->Prop}{sa ra:Option Addr}{sc rc:Nat}(JD:TZ w succ ref lf rn FL0 FR0 succ sa sc ref ra rc [] [0] w):
  Pm prog 205 [.slice sa succ.length sc,.slice ra ref.length rc,.func (.func 206) #[] #[ptr lf 0,ptr rn 0]] w λu w'=>u= .tuple #[]/\
   ∃FL FR,z3t w' lf (Pk succ ref) FL/\z1Y w' rn (R7 succ ref) FR/\(∀k,FL k->FL0 k\/w.heap.size<=k)/\(∀k,FR k->FR0 k\/w.heap.size<=k)/\(∀k,FL k->¬FR k)/\Kp (λk=>FL0 k\/FR0 k) w w':=by
 refine py (e:=[(0,_),(1,_),(2,_)]) func205 O ntmps205 O O$ OE$ Rr (α:=List Nat×Option Addr×Nat×List Nat×Option Addr×Nat×List Nat×List Nat) ((succ,sa,sc,ref,ra,rc,[],[0])) (λx=>[(0,.slice x.2.1 x.1.length x.2.2.1),(1,.slice x.2.2.2.2.1 x.2.2.2.1.length x.2.2.2.2.2.1),(2,.func (.func 206) #[] #[ptr lf 0,ptr rn 0])]) (λx w'=>TZ w succ ref lf rn FL0 FR0 x.1 x.2.1 x.2.2.1 x.2.2.2.1 x.2.2.2.2.1 x.2.2.2.2.2.1 x.2.2.2.2.2.2.1 x.2.2.2.2.2.2.2 w') (λx=>x.1.length+x.2.2.2.1.length) ?hI ?hround
 case hI=>exact JD
 case hround=>
  rintro⟨s,sa,sc,r,ra,rc,L,rs⟩ w6 hI ih;dsimp only at hI
  try dsimp only
  have hg:=(Ext.refl w6).drew;have aa:=hg.drew;have cV:=hI.ext aa;have p0:([]:List Nat).length=0:=rfl;have ip:=hI.okS.len;have xq:=hI.okR.len;rcases s with _|⟨x,s⟩
  ·rcases r with _|⟨y,r⟩
   ·refine PK O$ Rs Pu O$ QB O$ PH$ Pa O$ Rs Pu O$ QB O$ PH$ PM O$ OC$ OL O$ OO O$ Qa func205 O ?_;have s9:=hI.left;have lI:=hI.fold;obtain⟨FL,FR,fs,h1,h2,h3,h4,h5,h6,h7,h8⟩:=hI.ex;rw[s9,lI];exact⟨_,rfl,rfl,FL,FR,by simpa[Pk] using h1,h2,h6,h7,h8,hI.kp⟩
   ·skip
    obtain⟨b2,off2,rfl,nl⟩:=hI.z7S;have p1:0<((y::r:List Nat).length:Int):=by rw[List.length_cons];omega
    have p3:¬(((y::r).length:Int)=0):=by omega
    refine PK O$ Rs Pu O$ QB O$ PH$ Pa O$ Rs Pu O$ QB O$ Rz$ PM O$ OC$ OS O$ OD$ OE$ An ?_;refine QV (λw'=>Ext w6 w') O$ OZ 0 O O (hg)$ OG 1 O (SE Pu O) hg$ OG 2 O (yeq O O) hg$ TD$ OZ 3 O O (hg)$ OZ 4 O O (hg)$ OG 5 O (SE Pu O) hg$ OG 6 O (Yf O O) hg$ TD$ OZ 7 O O (hg)$ qJ 8 O (hg)$ qJ 9 O (hg)$ qJ 10 O (hg) ?_;refine qJ 11 O (hg)$ qJ 12 O (hg)$ qJ 13 O (hg)$ qJ 14 O (hg)$ OG 15 O (U0 O O) hg$ OG 16 O (U0 O O) hg$ OG 17 O (Rp O) hg$ qE$ An$ QV (λw'=>Ext w6 w') O$ OZ 0 O O (aa)$ OG 1 O (SE Pu O) aa$ OG 2 O (yeq O O) aa$ TL ?_;refine OZ 3 O O (aa)$ qJ 4 O (aa)$ qJ 5 O (aa)$ qJ 6 O (aa)$ qJ 7 O (aa)$ qJ 8 O (aa)$ qJ 9 O (aa)$ qJ 10 O (aa)$ qJ 11 O (aa)$ qJ 12 O (aa)$ qJ 13 O (aa)$ qJ 14 O (aa)$ qJ 15 O (aa)$ OG 16 O (Uu O O) aa ?_;refine OG 17 O (Rp O) aa$ qE$ PK O$ OC$ OL O$ OK O$ Pa O$ qV (PR Pu P6 O O (by omega))$ qV (Ps QR O O (nl _ cV.kp)) ?_;obtain⟨FL,FR,fs,h1,h2,h3,h4,h5,h6,h7,h8⟩:=cV.ex;refine Qp O O (RN z4K O O) (Zh h2 (by omega) h3.ne (λm hm=>by have:=h3.le m hm;omega) y false) ?_;rintro _ w7 ⟨rfl,qj⟩;refine qM O$ ON O$ OC$ OS O$ R6 O$ qV (YI Pu P6 O O (by rw[List.length_cons];omega) hI.clR) ?_;refine OV O$ Oz ?_;exact(ih ([],sa,sc,r,_,rc-1,L,QU rs false) _ (cV.zc4 (.inl ⟨rfl,rfl,rfl,rfl,λz hz=>by simp at hz⟩) ⟨h1,h2,h3,h4,h5,h6,h7,h8⟩ qj) (by dsimp only;simp only[List.length_cons,List.length_nil];omega)).qb
  ·rcases r with _|⟨y,r⟩
   ·obtain⟨b,off,rfl,nt⟩:=hI.z8t
    skip
    have p1:0<((x::s:List Nat).length:Int):=by rw[List.length_cons];omega
    have p4:¬(((x::s).length:Int)=0):=by omega
    refine PK O$ Rs Pu O$ QB O$ Rz$ ON O$ QL$ qS$ QX O$ OC$ OS O$ OD$ OE$ An$ QV (λw'=>Ext w6 w') O ?_;refine OZ 0 O O (hg)$ OG 1 O (SE Pu O) hg$ OG 2 O (yeq O O) hg$ TL$ OZ 3 O O (hg)$ qJ 4 O (hg)$ qJ 5 O (hg)$ qJ 6 O (hg)$ qJ 7 O (hg)$ qJ 8 O (hg)$ qJ 9 O (hg)$ qJ 10 O (hg)$ qJ 11 O (hg)$ qJ 12 O (hg) ?_;refine qJ 13 O (hg)$ qJ 14 O (hg)$ qJ 15 O (hg)$ OG 16 O (Uu O O) hg$ OG 17 O (Rp O) hg$ qE$ An$ QV (λw'=>Ext w6 w') O$ OZ 0 O O (aa)$ OG 1 O (SE Pu O) aa$ OG 2 O (yeq O O) aa$ TD$ OZ 3 O O (aa)$ OZ 4 O O (aa) ?_;refine OG 5 O (SE Pu O) aa$ OG 6 O (Yf O O) aa$ TD$ OZ 7 O O (aa)$ qJ 8 O (aa)$ qJ 9 O (aa)$ qJ 10 O (aa)$ qJ 11 O (aa)$ qJ 12 O (aa)$ qJ 13 O (aa)$ qJ 14 O (aa)$ OG 15 O (U0 O O) aa$ OG 16 O (U0 O O) aa$ OG 17 O (Rp O) aa ?_;refine qE$ PK O$ OC$ OS O$ Qt O$ qV (PR Pu P6 O O (by omega))$ qV (Ps QR O O (nt _ cV.kp))$ ON O ?_;obtain⟨FL,FR,fs,h1,h2,h3,h4,h5,h6,h7,h8⟩:=cV.ex;have JE:=cV.zfi;refine Qp O O (RN z4K O O) (z2G h1 (by omega) x true) ?_;rintro _ w7 ⟨rfl,qj⟩;refine OC$ R6 O$ qV (YI Pu P6 O O (by rw[List.length_cons];omega) hI.clS) ?_;refine QW O$ Qg O$ Oz ?_;exact(ih (s,_,sc-1,[],ra,rc,L++[x],rs) _ (cV.zez ⟨h1,h2,h3,h4,h5,h6,h7,h8⟩ (λz hz=>by simp at hz) qj) (by dsimp only;simp only[List.length_cons,List.length_nil];omega)).qb
   ·rcases Nat.lt_trichotomy x y with dN|dN|dN
    ·obtain⟨b,off,rfl,nt⟩:=hI.z8t;obtain⟨b2,off2,rfl,nl⟩:=hI.z7S;have p1:0<((x::s:List Nat).length:Int):=by rw[List.length_cons];omega
     have p2:0<((y::r).length:Int):=by rw[List.length_cons];omega
     have p3:¬(((y::r).length:Int)=0):=by omega
     have p4:¬(((x::s).length:Int)=0):=by omega
     refine PK O$ Rs Pu O$ QB O$ Rz$ ON O$ QL$ qS$ QX O$ OC$ OS O$ OD$ OE$ An$ QV (λw'=>Ext w6 w') O ?_;refine OZ 0 O O (hg)$ OG 1 O (SE Pu O) hg$ OG 2 O (yeq O O) hg$ TD$ OZ 3 O O (hg)$ OZ 4 O O (hg)$ OG 5 O (SE Pu O) hg$ OG 6 O (Yf O O) hg$ TL$ OZ 7 O O (hg)$ OZ 8 O O (hg)$ OG 9 O (PR Pu P6 O O (by omega)) hg$ OZ 11 O O (hg)$ OG 12 O (PR Pu P6 O O (by omega)) hg ?_;refine qT 10 O (λ_ h=>Ps QR O O (nt _ (hI.kp.trans h.kp))) hg$ qT 13 O (λ_ h=>Ps QR O O (nl _ (hI.kp.trans h.kp))) hg$ OG 14 O (Z4 O O) hg$ TL$ OG 15 O (Uu O O) hg$ OG 16 O (U0 O O) hg$ OG 17 O (Rp O) hg$ qE$ An$ QV (λw'=>Ext w6 w') O$ OZ 0 O O (aa)$ OG 1 O (SE Pu O) aa$ OG 2 O (yeq O O) aa$ TD ?_;refine OZ 3 O O (aa)$ OZ 4 O O (aa)$ OG 5 O (SE Pu O) aa$ OG 6 O (Yf O O) aa$ TL$ OZ 7 O O (aa)$ OZ 8 O O (aa)$ OG 9 O (PR Pu P6 O O (by omega)) aa$ OZ 11 O O (aa)$ OG 12 O (PR Pu P6 O O (by omega)) aa$ qT 10 O (λ_ h=>Ps QR O O (nl _ (hI.kp.trans h.kp))) aa$ qT 13 O (λ_ h=>Ps QR O O (nt _ (hI.kp.trans h.kp))) aa$ OG 14 O (Z4 O O) aa$ TD ?_;refine OG 15 O (Uu O O) aa$ OG 16 O (U0 O O) aa$ OG 17 O (Rp O) aa$ qE$ PK O$ OC$ OS O$ Qt O$ qV (PR Pu P6 O O (by omega))$ qV (Ps QR O O (nt _ cV.kp))$ ON O ?_;obtain⟨FL,FR,fs,h1,h2,h3,h4,h5,h6,h7,h8⟩:=cV.ex;have JE:=cV.zfi;refine Qp O O (RN z4K O O) (z2G h1 (by omega) x true) ?_;rintro _ w7 ⟨rfl,qj⟩;refine OC$ R6 O$ qV (YI Pu P6 O O (by rw[List.length_cons];omega) hI.clS) ?_;refine QW O$ Qg O$ Oz ?_;exact(ih (s,_,sc-1,y::r,_,rc,L++[x],rs) _ (cV.zez ⟨h1,h2,h3,h4,h5,h6,h7,h8⟩ (z4e hI.okR.ris dN) qj) (by dsimp only;simp only[List.length_cons,List.length_nil];omega)).qb
    ·obtain⟨b,off,rfl,nt⟩:=hI.z8t;obtain⟨b2,off2,rfl,nl⟩:=hI.z7S;have p1:0<((x::s:List Nat).length:Int):=by rw[List.length_cons];omega
     have p2:0<((y::r).length:Int):=by rw[List.length_cons];omega
     have p3:¬(((y::r).length:Int)=0):=by omega
     have p4:¬(((x::s).length:Int)=0):=by omega
     refine PK O$ Rs Pu O$ QB O$ Rz$ ON O$ QL$ qS$ QX O$ OC$ OS O$ OD$ OE$ An$ QV (λw'=>Ext w6 w') O ?_;refine OZ 0 O O (hg)$ OG 1 O (SE Pu O) hg$ OG 2 O (yeq O O) hg$ TD$ OZ 3 O O (hg)$ OZ 4 O O (hg)$ OG 5 O (SE Pu O) hg$ OG 6 O (Yf O O) hg$ TL$ OZ 7 O O (hg)$ OZ 8 O O (hg)$ OG 9 O (PR Pu P6 O O (by omega)) hg$ OZ 11 O O (hg)$ OG 12 O (PR Pu P6 O O (by omega)) hg ?_;refine qT 10 O (λ_ h=>Ps QR O O (nt _ (hI.kp.trans h.kp))) hg$ qT 13 O (λ_ h=>Ps QR O O (nl _ (hI.kp.trans h.kp))) hg$ OG 14 O (Z4 O O) hg$ TL$ OG 15 O (Uu O O) hg$ OG 16 O (U0 O O) hg$ OG 17 O (Rp O) hg$ qE$ An$ QV (λw'=>Ext w6 w') O$ OZ 0 O O (aa)$ OG 1 O (SE Pu O) aa$ OG 2 O (yeq O O) aa$ TD ?_;refine OZ 3 O O (aa)$ OZ 4 O O (aa)$ OG 5 O (SE Pu O) aa$ OG 6 O (Yf O O) aa$ TL$ OZ 7 O O (aa)$ OZ 8 O O (aa)$ OG 9 O (PR Pu P6 O O (by omega)) aa$ OZ 11 O O (aa)$ OG 12 O (PR Pu P6 O O (by omega)) aa$ qT 10 O (λ_ h=>Ps QR O O (nl _ (hI.kp.trans h.kp))) aa$ qT 13 O (λ_ h=>Ps QR O O (nt _ (hI.kp.trans h.kp))) aa$ OG 14 O (Z4 O O) aa$ TL ?_;refine OG 15 O (Uu O O) aa$ OG 16 O (U0 O O) aa$ OG 17 O (Rp O) aa$ qE$ PK O$ OC$ OS O$ Qt O$ qV (PR Pu P6 O O (by omega))$ qV (Ps QR O O (nt _ cV.kp))$ ON O ?_;obtain⟨FL,FR,fs,h1,h2,h3,h4,h5,h6,h7,h8⟩:=cV.ex;refine Qp O O (RN z4K O O) (Zh h2 (by omega) h3.ne (λm hm=>by have:=h3.le m hm;omega) x true) ?_;rintro _ w7 ⟨rfl,qj⟩;refine OC$ R6 O$ qV (YI Pu P6 O O (by rw[List.length_cons];omega) hI.clS) ?_;refine QW O$ OC$ OS O$ R6 O$ qV (YI Pu P6 O O (by rw[List.length_cons];omega) hI.clR) ?_;refine OV O$ Oz ?_;subst dN;exact(ih (s,_,sc-1,r,_,rc-1,L,QU rs true) _ (cV.zc4 (.inr ⟨rfl,rfl,rfl,rfl⟩) ⟨h1,h2,h3,h4,h5,h6,h7,h8⟩ qj) (by dsimp only;simp only[List.length_cons,List.length_nil];omega)).qb
    ·obtain⟨b,off,rfl,nt⟩:=hI.z8t;obtain⟨b2,off2,rfl,nl⟩:=hI.z7S;have p1:0<((x::s:List Nat).length:Int):=by rw[List.length_cons];omega
     have p2:0<((y::r).length:Int):=by rw[List.length_cons];omega
     have p3:¬(((y::r).length:Int)=0):=by omega
     have p4:¬(((x::s).length:Int)=0):=by omega
     refine PK O$ Rs Pu O$ QB O$ Rz$ ON O$ QL$ qS$ QX O$ OC$ OS O$ OD$ OE$ An$ QV (λw'=>Ext w6 w') O ?_;refine OZ 0 O O (hg)$ OG 1 O (SE Pu O) hg$ OG 2 O (yeq O O) hg$ TD$ OZ 3 O O (hg)$ OZ 4 O O (hg)$ OG 5 O (SE Pu O) hg$ OG 6 O (Yf O O) hg$ TL$ OZ 7 O O (hg)$ OZ 8 O O (hg)$ OG 9 O (PR Pu P6 O O (by omega)) hg$ OZ 11 O O (hg)$ OG 12 O (PR Pu P6 O O (by omega)) hg ?_;refine qT 10 O (λ_ h=>Ps QR O O (nt _ (hI.kp.trans h.kp))) hg$ qT 13 O (λ_ h=>Ps QR O O (nl _ (hI.kp.trans h.kp))) hg$ OG 14 O (Z4 O O) hg$ TD$ OG 15 O (Uu O O) hg$ OG 16 O (U0 O O) hg$ OG 17 O (Rp O) hg$ qE$ An$ QV (λw'=>Ext w6 w') O$ OZ 0 O O (aa)$ OG 1 O (SE Pu O) aa$ OG 2 O (yeq O O) aa$ TD ?_;refine OZ 3 O O (aa)$ OZ 4 O O (aa)$ OG 5 O (SE Pu O) aa$ OG 6 O (Yf O O) aa$ TL$ OZ 7 O O (aa)$ OZ 8 O O (aa)$ OG 9 O (PR Pu P6 O O (by omega)) aa$ OZ 11 O O (aa)$ OG 12 O (PR Pu P6 O O (by omega)) aa$ qT 10 O (λ_ h=>Ps QR O O (nl _ (hI.kp.trans h.kp))) aa$ qT 13 O (λ_ h=>Ps QR O O (nt _ (hI.kp.trans h.kp))) aa$ OG 14 O (Z4 O O) aa$ TL ?_;refine OG 15 O (Uu O O) aa$ OG 16 O (U0 O O) aa$ OG 17 O (Rp O) aa$ qE$ PK O$ OC$ OL O$ OK O$ Pa O$ qV (PR Pu P6 O O (by omega))$ qV (Ps QR O O (nl _ cV.kp)) ?_;obtain⟨FL,FR,fs,h1,h2,h3,h4,h5,h6,h7,h8⟩:=cV.ex;refine Qp O O (RN z4K O O) (Zh h2 (by omega) h3.ne (λm hm=>by have:=h3.le m hm;omega) y false) ?_;rintro _ w7 ⟨rfl,qj⟩;refine qM O$ ON O$ OC$ OS O$ R6 O$ qV (YI Pu P6 O O (by rw[List.length_cons];omega) hI.clR) ?_;refine OV O$ Oz ?_;exact(ih (x::s,_,sc,r,_,rc-1,L,QU rs false) _ (cV.zc4 (.inl ⟨rfl,rfl,rfl,rfl,z4e hI.okS.ris dN⟩) ⟨h1,h2,h3,h4,h5,h6,h7,h8⟩ qj) (by dsimp only;simp only[List.length_cons,List.length_nil];omega)).qb
structure TkM (w:World)(t r:Nat)(s:OI)(a:Nat):Prop where
 OA:OP w t [ptr r 0,.bool false] 339
 rd:TO w r s a
 ne:t≠r
def TkM.ext {w w':World}{t r a:Nat}{s:OI}(h:TkM w t r s a)(hx:Ext w w'):TkM w' t r s a:=⟨hx.OA h.OA,⟨hx.OA h.rd.1,h.rd.2⟩,h.ne⟩
def Ug {w:World}{t r a:Nat}{s:OI}(h:TkM w t r s a)(c:Cd)(v n:Nat)(hc:c.Qq)(hv:v<=c.most)(hn:v<=n)(jS:n<9223372036854775808)(rest:List Bool)(hb:(P7 s).drop a=c.enc v++rest):
  Pm prog 232 [ptr t 0,cdV c,I (n:Int)] w λu w'=>u=I (v:Int)/\TkM w' t r s (a+(c.enc v).length)/\Kp (λk=>k=r) w w':=by
 obtain⟨x,y,dN⟩:∃x y,Sg c=[x,y]:=by cases c<;>exact⟨_,_,rfl⟩
 have ns:cdV c= .agg [x,y].toArray:=by rw[cdV,dN]
 have fh:=c.z0B
 rw[ns]
 refine py (e:=[(0,_),(1,_),(2,_)]) func232 O ntmps232 O O$ qN O$ OJ O O (R4 O (cs:=[x,y]) O) ?_
 rintro _ w1 ⟨b4,rfl,fZ,ad,aK⟩
 have h1:=h.ext ad
 have Cz:¬b4=r:=by have:=h.rd.1.lt;omega
 have hg:=(Ext.refl w1).drew
 refine OV O$ An$ QV (λw'=>Kp (λk=>k=r) w1 w') O$ OZ 0 O O (hg.kp)$ OG 1 O (Q8 O) (hg.kp)$ OG 2 O (Pr zdF O) (hg.kp)$ qT 3 O (λ_ hS=>OM Ve O O (hS.OA h1.OA h.ne) O) (hg.kp)$ qT 4 O (λ_ h=>Pp (news:=[x,y]) Ss O QI O ((h.OA aK Cz).cells (n:=2) O) O) (hg.kp) ?_
 rw[<-ns]
 refine RT 5 O zcd O (ZD (⟨hg.OA h1.rd.1,h1.rd.2⟩:TO _ r s a) c v hc hv rest hb) ?_
 rintro _ w2 ⟨rfl,di,am⟩
 refine⟨hg.kp.trans am,?_⟩
 have nu:=hg.kp.trans am
 have ar:=nu.OA h1.OA h.ne
 refine OZ 6 O O (hg.kp.trans am)$ OG 7 O (Ru O O) (hg.kp.trans am)$ OG 8 O (Ru O O) (hg.kp.trans am)$ OG 9 O (Rp O) (hg.kp.trans am)$ OG 10 O (Rp O) (hg.kp.trans am)$ qE$ PK O$ QE O$ Pa O$ ON O$ qV ((Q7 O U3 Rt (by omega)))$ QB O$ PH$ PM O ?_
 refine Qg O$ Pn O$ qV (PJ O Rt U3 (by omega))$ OV O$ Po.qb (e:=[(6,_)]) ?_
 refine OB func232 O ?_
 exact⟨_,rfl,rfl,⟨ar,di,h.ne⟩,ad.kp.trans nu⟩
theorem Q5 (q:Cd×Nat)(l:List (Cd×Nat)):P8 (q::l)=q.1.enc q.2++P8 l:=rfl
def Sh {s e rest:List Bool}{a:Nat}(h:s.drop a=e++rest):s.drop (a+e.length)=rest:=by
 rw[<-List.drop_drop,h,List.drop_left]
structure CpI (w:World)(t r:Nat)(s:OI)(rs ref:List Nat)(rest:List Bool)(aE i:Nat)(rs2 ref2:List Nat)(sa:Option Addr)(sc:Nat)(v5:Value)(O_:List Nat)(a:Nat)(w':World):Prop where
 tk:TkM w' t r s a
 kp:Kp (λk=>k=r) w w'
 sl:Sl w' v5 59 1 O_.length (O_.map Px)
 fr:∀g,v5.ownBlock=some g->w.heap.size<=g
 len:rs.length=i+rs2.length
 rd:∀w2,Kp (λk=>k=r) w w2->Rd w2 (.slice sa ref2.length sc) 1 ref2.length (ref2.map Px)
 cl:ref2.length<=sc
 sum:rs2.sum<=ref2.length
 pos:∀m∈rs2.drop (1-min i 1),1<=m
 bits:(P7 s).drop a=P8 (Qj i rs2)++rest
 z4E:a+(P8 (Qj i rs2)).length=aE
 eq:copyL true rs ref=O_++copyL (i%2==0) rs2 ref2
 tot:O_.length+ref2.length<=65536
theorem zal (a:Addr):a.add 0=a:=by
 unfold Addr.add
 split<;>simp_all
def zcX {P:Program}{e:Env}{d:Option Nat}{ty t el:TypeId}{pos:String}{aft:Array Edge}{g:Option (Nat×Bool)}{x u:Operand}{w:World}{z:Value}{size bytes n cap j:Nat}{a:Option Addr}{k:IntKind}{zb:Int}[x8:Tc zb j](ht:P.underlying t=some (.slice el))(hs:TI P el z size bytes)(hx:look e x=some (.slice a n cap))
  (hu:look e u=some (.int k zb)) (h:j<=cap):
  Y P e ⟨d,.slice t x none (some u) none,ty,pos,aft,g⟩ (.slice a j cap) w w:=fun ρ hρ=>by
 obtain⟨rfl⟩:=x8
 have cD:=hs.size (w:=w)
 have h1:∀w,(Instr.sliceBound (.int k (j:Int)) cap .sliceAcap).run P w= .ok j w:=λw=>by rw[run_sliceBound _ _ _ _ _ (by omega) (by omega)];simp
 cases a with
 |none=>simp[execOp,hρ _ _ hx,hρ _ _ hu,Instr.sliceAt,run_underlying ht,Instr.slice,Instr.sliceBounds,h1,cD]
 |some a=>simp[execOp,hρ _ _ hx,hρ _ _ hu,Instr.sliceAt,run_underlying ht,Instr.slice,Instr.sliceBounds,h1,cD,zal]
def z5p {w:World}{t r a:Nat}{s:OI}(h:TkM w t r s a)(hG:OP w 1 (Sg .gamma) 294)(dj:¬1=r){sa:Option Addr}{sc:Nat}(ref rs:List Nat)
  (eO:∀w2,Kp (λk=>k=r) w w2->Rd w2 (.slice sa ref.length sc) 1 ref.length (ref.map Px)) (fL:ref.length<=sc) (xq:ref.length<=65536) (hn:rs.length<=ref.length+1) (i3:rs.sum<=ref.length)
  (iC:∀m∈rs.drop 1,1<=m) (rest:List Bool) (hb:(P7 s).drop a=P8 ((.gamma,rs.length)::Qj 0 rs)++rest):
  Pm prog 224 [ptr t 0,.slice sa ref.length sc] w λu w'=>Sl w' u 59 1 (copyL true rs ref).length ((copyL true rs ref).map Px)/\(∀g,u.ownBlock=some g->w.heap.size<=g)/\
   TkM w' t r s (a+(P8 ((.gamma,rs.length)::Qj 0 rs)).length)/\Kp (λk=>k=r) w w':=by
 have jT:∀v:Nat,v<=65537->v<=Cd.most .gamma:=λv hv=>by simp only[Cd.most];omega
 refine py (e:=[(0,_),(1,_)]) func224 O ntmps224 O O$ qN O$ QS O$ QW O$ qV (Pp (news:=[.int .u8 1,OY 0]) Ss O QI O (hG.cells (n:=2) O) O)$ ON O$ Rs Pu O ?_
 rw[Q5,List.append_assoc] at hb
 rw[show((ref.length:Nat):Int)=((ref.length:Nat):Int) from rfl]
 refine PS O$ P5 z2B O (Ug h .gamma rs.length (ref.length+1) trivial (jT _ (by omega)) (by omega) (by omega) _ hb) ?_
 rintro _ w1 ⟨rfl,h1,az⟩
 have bL:=Sh hb
 refine OV O$ An$ Qt O$ OC$ OE$ Rr (α:=Nat×List Nat×List Nat×Option Addr×Nat×Value×List Nat×Nat) ((0,rs,ref,sa,sc,.slice none 0 0,[],a+(Cd.enc .gamma rs.length).length)) (λx=>[(0,ptr t 0),(1,.slice x.2.2.2.1 x.2.2.1.length x.2.2.2.2.1),(5,x.2.2.2.2.2.1),(6,I (rs.length:Int)),(15,I (rs.length:Int)),(16,I (x.1:Int))]) (λx w'=>CpI w t r s rs ref rest (a+(P8 ((.gamma,rs.length)::Qj 0 rs)).length) x.1 x.2.1 x.2.2.1 x.2.2.2.1 x.2.2.2.2.1 x.2.2.2.2.2.1 x.2.2.2.2.2.2.1 x.2.2.2.2.2.2.2 w') (λx=>x.2.1.length) ?hI ?hround
 case hI=>exact⟨h1,az,Sl.nil _ _ _,(λg h=>by cases h),by simp,eO,fL,i3,iC,bL,by rw[Q5,List.length_append];dsimp only;omega,rfl,by simp;omega⟩
 case hround =>
  rintro⟨i,rs2,ref2,sa2,sc2,v5,O_,a2⟩ w6 hI ih;dsimp only at hI;have aI:=hI.len;have xt:=hI.tot
  try dsimp only
  refine qN O$ Qw O$ OC$ An$ OQ O (λh0=>?_)$ λh0=>?_
  ·obtain⟨n,rs2,rfl⟩:∃n l,rs2=n::l:=by
    cases rs2 with
    |nil=>simp at aI;omega
    |cons n l=>exact⟨n,l,rfl⟩
   have Bi:=hI.kp.OA hG dj;have i3:=hI.sum;rw[List.sum_cons] at i3;rw[List.length_cons] at aI;have bY:=hI.bits;rw[Qj,Q5,List.append_assoc] at bY
   have dh:min i 1<=n:=by
    have hp:=hI.pos n;rcases Nat.eq_zero_or_pos i with e| e
    ·subst e;simp
    ·rw[show 1-min i 1=0 by omega] at hp;have:=hp List.mem_cons_self;omega
   refine OD$ QA$ Pn O$ QW O$ qV (Pp (news:=[.int .u8 1,OY 0]) Ss O QI O (Bi.cells (n:=2) O) O)$ ON O$ Rs Pu O$ P5 z2B O (Ug hI.tk .gamma (n-min i 1) ref2.length trivial (jT _ (by omega)) (by omega) (by omega) _ bY) ?_;rintro _ w7 ⟨rfl,h7,aB⟩;have eQ:=hI.kp.trans aB;have bO:=h7.OA;refine ON O$ qV (ymi O O)$ PS O ?_;rw[show((n-min i 1:Nat):Int)+min (i:Int) 1=(n:Int) by omega];refine OV O$ PK O$ Pq O$ OW TK O$ qV (OM U4 O O bO O)$ Pa O$ ON O$ Rs Pu O$ QB O$ PH$ PM O$ Qg O$ PK O$ qV (XC O O (by omega) (by omega)) ?_;rw[Nat.and_one_is_mod];have CA:=hI.rd _ eQ;have fA:=Sh bY;have Bh:=hI.kp.size;have HV:=aB.size
   have tK:∀g,v5.ownBlock=some g->¬g=r:=λg hg e=>by
    have h1:=hI.fr g hg;have h2:=h.rd.1.lt;omega
   have hH:=hI.sl.kp aB tK
   have dB:∀(v5':Value) (w8:World),Sl w8 v5' 59 1 (O_++if i%2==0 then ref2.take n else []).length ((O_++if i%2==0 then ref2.take n else []).map Px)->(∀g,v5'.ownBlock=some g->w.heap.size<=g)->Kp (λk=>v5.ownBlock=some k) w7 w8->
     CpI w t r s rs ref rest (a+(P8 ((.gamma,rs.length)::Qj 0 rs)).length) (i+1) rs2 (ref2.drop n) (if sc2=n then sa2 else sa2.map (·.add (n*1))) (sc2-n) v5' (O_++if i%2==0 then ref2.take n else []) (a2+(Cd.enc .gamma (n-min i 1)).length) w8:=by
    intro v5' w8 g1 g2 g3;have lt7:=h7.OA.lt;have lr7:=h7.rd.1.lt;have s6:=h.OA.lt;have eF:=h.rd.1.lt;have pG:∀x,x<w.heap.size->¬v5.ownBlock=some x:=λx hx e=>by have:=hI.fr x e;omega
    refine⟨⟨g3.OA h7.OA (pG t s6),⟨g3.OA h7.rd.1 (pG r eF),h7.rd.2⟩,h7.ne⟩,eQ.It g3 (λk hk=> .inl (hI.fr k hk)),g1,g2,by omega,λw2 k=>?_,by rw[List.length_drop];have:=hI.cl;omega,by rw[List.length_drop];omega,?_,?_,?_,?_,?_⟩
    ·have:=TM (hI.rd w2 k) (i:=n) (by omega) hI.cl;rw[<-List.map_drop] at this;rw[List.length_drop];exact this
    ·intro m hm;refine hI.pos m ?_;rw[show 1-min (i+1) 1=0 by omega,List.drop_zero] at hm;rcases Nat.eq_zero_or_pos i with e| e
     ·subst e;exact hm
     ·rw[show 1-min i 1=0 by omega];exact List.mem_cons_of_mem _ hm
    ·exact fA
    ·have:=hI.z4E;rw[Qj,Q5,List.length_append] at this;dsimp only at this;omega
    ·rw[hI.eq,copyL,List.append_assoc]
     have:((i+1)%2==0)= !(i%2==0):=by
      rcases Nat.mod_two_eq_zero_or_one i with e| e
      ·rw[e,show(i+1)%2=1 by omega];rfl
      ·rw[e,show(i+1)%2=0 by omega];rfl
     rw[this]
    ·rw[List.length_append,List.length_drop];split
     ·rw[List.length_take];omega
     ·simp;omega
   refine Rg O$ OC$ OQ O (λe1=>?_)$ λe1=>?_
   ·have e2:(i%2==0)=true:=by simp;omega
    simp only[e2,if_true] at dB;refine OK O$ Pa O$ ON O$ qV (zcX Pu P6 O O (by have:=hI.cl;omega)) ?_;have JF:=hI.cl;refine OJ O O (pap Pu P6 O (by decide) O O hH (UY CA (i:=n) (by omega)) (by rw[<-List.map_take];exact YK _) (by omega) (by simp only[maxLen];omega)) ?_;rintro v5' w8 ⟨dO,aL,lH,-⟩;have nr:=dO.oneV;refine OV O$ OK O$ Pa O$ qV (YI Pu P6 O O (by omega) hI.cl)$ OV O$ Oz$ OK O$ PS O$ ON O$ OC ?_;rw[show ref2.length-n=(ref2.drop n).length by rw[List.length_drop]];refine(ih (i+1,rs2,ref2.drop n,_,sc2-n,v5',O_++ref2.take n,_) _ (dB v5' _ ?_ ?_ aL) (by dsimp only;simp)).qb
    ·rw[List.length_append,List.map_append,List.length_take,Nat.min_eq_left (by omega),List.map_take];exact dO
    ·intro g hg;rcases lH g hg with e| e
     ·exact hI.fr g e
     ·omega
   ·have e2:(i%2==0)=false:=by simp;omega
    simp only[e2,Bool.false_eq_true,if_false,List.append_nil] at dB;refine OD$ OK O$ Pa O$ qV (YI Pu P6 O O (by omega) hI.cl)$ OV O$ Oz$ OK O$ PS O$ ON O$ OC ?_;rw[show ref2.length-n=(ref2.drop n).length by rw[List.length_drop]];exact(ih (i+1,rs2,ref2.drop n,_,sc2-n,v5,O_,_) _ (dB v5 _ hH hI.fr (Kp.refl _ _)) (by dsimp only;simp)).qb
  ·have fm:rs2=[]:=List.eq_nil_of_length_eq_zero (by omega);subst fm;have NC:rs.length=i:=by rw[aI];simp
   have ky:=hI.z4E;have eh:=hI.eq;rw[copyL] at eh;rw[show(P8 (Qj i [])).length=0 from rfl,Nat.add_zero] at ky;refine OO O$ PK O$ qV (XC O O (by omega) (by omega)) ?_;rw[Nat.and_one_is_mod];refine Rg O$ OC$ OQ O (λe1=>?_)$ λe1=>?_
   ·rw[if_pos (by simp;omega)] at eh;refine OK O$ Pa O$ OJ O O (pap Pu P6 O (by decide) O O hI.sl (hI.rd _ hI.kp) (YK _) (by omega) (by simp only[maxLen];omega)) ?_;rintro v5' w8 ⟨dO,aL,lH,-⟩;have nr:=dO.oneV;refine QW O$ OV O$ OB func224 O ?_;rw[eh,<-ky];have Bh:=hI.kp.size;have pG:∀x,x<w.heap.size->¬v5.ownBlock=some x:=λx hx e=>by have:=hI.fr x e;omega
    refine⟨_,rfl,?_,λg hg=>?_,⟨aL.OA hI.tk.OA (pG t h.OA.lt),⟨aL.OA hI.tk.rd.1 (pG r h.rd.1.lt),hI.tk.rd.2⟩,hI.tk.ne⟩,hI.kp.It aL (λk hk=> .inl (hI.fr k hk))⟩
    ·rw[List.length_append,List.map_append];exact dO
    ·rcases lH g hg with e| e
     ·exact hI.fr g e
     ·omega
   ·rw[if_neg (by simp;omega),List.append_nil] at eh;refine OD$ Pn O$ OV O$ OB func224 O ?_;rw[eh,<-ky];exact⟨_,rfl,hI.sl,hI.fr,hI.tk,hI.kp⟩
structure ReI (w w1:World)(t r:Nat)(s:OI)(l:List Nat)(x k:Nat)(rest:List Bool)(aE b7:Nat)(dn l2:List Nat)(v9:Value)(a:Nat)(w':World):Prop where
 tk:TkM w' t r s a
 kp:Kp (λk=>k=t\/k=r) w w'
 b7:OP w' b7 (Sg (.zeta k)) 294
 sl:Sl w' v9 59 1 dn.length (dn.map Px)
 fr:∀g,v9.ownBlock=some g->w1.heap.size<=g
 eq:l=dn++l2
 bits:(P7 s).drop a=P8 (PI x k dn.getLast? l2)++rest
 z4E:a+(P8 (PI x k dn.getLast? l2)).length=aE
 siz:w1.heap.size<=w'.heap.size
def z6H {w:World}{t r a:Nat}{s:OI}(h:TkM w t r s a)(x k:Nat)(hx:x<65536)(hk:1<=k/\k<=16)(l:List Nat)(hl:PB l)(rest:List Bool)(hb:(P7 s).drop a=P8 (PI x k none l)++rest):
  Pm prog 226 [ptr t 0,I (x:Int),I (l.length:Int),cdV (.zeta k)] w λu w'=>Sl w' u 59 1 l.length (l.map Px)/\(∀g,u.ownBlock=some g->w.heap.size<=g)/\
   TkM w' t r s (a+(P8 (PI x k none l)).length)/\Kp (λk=>k=t\/k=r) w w':=by
 have aI:=hl.len
 have lt0:=h.OA.lt
 have lr0:=h.rd.1.lt
 refine py (e:=[(0,_),(1,_),(2,_),(3,_)]) func226 O ntmps226 O O$ qN O$ OJ O O (R4 O (cs:=Sg (.zeta k)) O) ?_
 rintro _ w1 ⟨b7,rfl,mg,ad,bO⟩
 have h1:=h.ext ad
 have z1:=ad.size
 have HW:=bO.lt
 refine QS O$ OV O$ An$ Qt O$ OC$ OE$ Rr (α:=List Nat×List Nat×Value×Nat) (([],l,.slice none 0 0,a)) (λy=>[(0,ptr t 0),(1,I (x:Int)),(7,ptr b7 0),(9,y.2.2.1),(12,I (l.length:Int)),(13,I (y.1.length:Int))]) (λy w'=>ReI w w1 t r s l x k rest (a+(P8 (PI x k none l)).length) b7 y.1 y.2.1 y.2.2.1 y.2.2.2 w') (λy=>y.2.1.length) ?hI ?hround
 case hI=>exact⟨h1,ad.kp,bO,Sl.nil _ _ _,(λg h=>by cases h),rfl,hb,rfl,Nat.le_refl _⟩
 case hround =>
  rintro⟨dn,l2,v9,a2⟩ w6 hI ih;dsimp only at hI;have eh:=hI.eq;have eP:l.length=dn.length+l2.length:=by rw[eh,List.length_append]
  try dsimp only
  refine qN O$ Qw O$ OC$ An$ OQ O (λh0=>?_)$ λh0=>?_
  ·obtain⟨y,l2,rfl⟩:∃y q,l2=y::q:=by
    cases l2 with
    |nil=>simp at eP;omega
    |cons y q=>exact⟨y,q,rfl⟩
   rw[List.length_cons] at eP;have HX:y<65536:=hl.lt y (by rw[eh];simp);have aT:=hI.b7;have bY:=hI.bits;have ky:=hI.z4E
   have key:∃v:Nat,PI x k dn.getLast? (y::l2)=(.zeta k,v)::PI x k (dn++[y]).getLast? l2/\v<=262144/\(dn=[]->v=zig ((y:Int)-x))/\∀u q,dn=q++[u]->v+(u+1)=y:=by
    rw[List.getLast?_append,show [y].getLast? =some y from rfl,Option.some_or];rcases List.eq_nil_or_concat dn with rfl|⟨q,u,rfl⟩
    ·refine⟨_,rfl,?_,λ_=>rfl,λu q e=>by simp at e⟩;have:=Za (z:=(y:Int)-x) (n:=65536) (by omega) (by omega);omega
    ·have hu:u<y:=by
      have hr:=hl.ris;rw[eh] at hr;exact(List.pairwise_append.1 hr).2.2 u (by simp) y (by simp)
     refine⟨y-u-1,?_,by omega,λe=>by simp at e,λu2 q2 e=>?_⟩
     ·have e1:(q.concat u).getLast? =some u:=by simp
      rw[e1];rfl
     ·have e2:q++[u]=q2++[u2]:=by simpa using e
      have:=(List.append_inj' e2 O).2;simp at this;omega
   obtain⟨v,fO,nv,JG,wo⟩:=key;rw[fO,Q5,List.append_assoc] at bY;rw[fO,Q5,List.length_append] at ky;refine OD$ QA$ Pn O$ QW O$ qV (Pp (news:=Sg (.zeta k)) Ss O QI O (aT.cells (n:=2) O) O)$ P5 z2B O (Ug hI.tk (.zeta k) v 262144 hk (by simp only[Cd.most];omega) nv (by omega) _ bY) ?_;rintro _ w7 ⟨rfl,h7,aB⟩;have eQ:Kp (λk=>k=t\/k=r) w w7:=hI.kp.trans (aB.OH λk e=> .inr e);have fA:=Sh bY;have hH:=hI.sl.kp aB (λg hg e=>by have:=hI.fr g hg;omega);have CB:=aB.OA aT (by omega);have HV:=hI.siz;have Bh:=aB.size;refine OV O$ PK O$ Rg O$ OC$ PD (λe' w'=>w'=w7/\e'=[(0,ptr t 0),(1,I (x:Int)),(7,ptr b7 0),(9,v9),(11,I (y:Int)),(12,I (l.length:Int)),(13,I (dn.length:Int))]) ?nL$ λnL=>?nM
   case nL=>
    rintro e' w7 ⟨rfl,rfl⟩;have jR:=h7.OA;refine An$ Qt O$ Pq O$ OW TK O$ qV (OM U4 O O jR O)$ Pa O$ P5 z8B O (VI y HX _) ?_;rintro _ w8 ⟨rfl,rfl⟩;refine qV ((RZ O))$ PM O$ Pq O$ OW TK O$ OT O (QG UH O O O jR (by simp)) ?_;rintro w8 ⟨cj,aL⟩;replace cj:OP w8 t [ptr r 0,.bool false] 339:=cj;refine qM O$ ON O$ Pq O$ OW TK O$ qV (OM U4 O O cj O)$ Qg O$ OK O$ Pa O$ qV (z4q O U3 QR) ?_;rw[Nat.mod_eq_of_lt (show y<4294967296 by omega)];refine OJ O O (XZ (cs:=[_]) (zs:=[Value.int .u32 0]) Pu P6 O (by kernel_rfl) O O O (by decide)) ?_;rintro _ w9 ⟨b9,rfl,⟨jb,fN,cK⟩,kz⟩;have pG:∀g,v9.ownBlock=some g->¬g=t:=λg hg e=>by have:=hI.fr g hg;omega
    have jU:∀g,v9.ownBlock=some g->¬g=r:=λg hg e=>by have:=hI.fr g hg;omega
    have HY:=aL.size;have HZ:=fN.size;refine OJ O O (pap Pu P6 O (by decide) O O ((hH.kp aL pG).ext fN) kz.rd (by intro c hc;simp at hc;subst hc;rfl) (by omega) (by simp only[maxLen];omega)) ?_;rintro v10 w10 ⟨bZ,aC,CC,-⟩;have nr:=bZ.oneV;refine OV O$ Oz$ OK O$ PS O$ ON O$ OC ?_;have tL:∀g,g<w1.heap.size->¬v9.ownBlock=some g:=λg hg e=>by have:=hI.fr g e;omega
    rw[show(dn.length:Int)+1=((dn++[y]).length:Int) by simp];refine(ih (dn++[y],l2,v10,a2+(Cd.enc (.zeta k) v).length) _ ⟨⟨aC.OA (fN.OA cj) (tL t (by omega)),⟨aC.OA (fN.OA (aL.OA h7.rd.1 (λe=>h7.ne e.symm))) (tL r (by omega)),h7.rd.2⟩,h7.ne⟩,?_,?_,?_,?_,?_,fA,?_,?_⟩ (by dsimp only;simp)).qb
    ·exact((eQ.trans (aL.OH λk e=> .inl e)).trans fN.kp).It aC (λg hg=> .inl (by have:=hI.fr g hg;omega))
    ·exact aC.OA (fN.OA (aL.OA CB (by omega))) (tL b7 (by omega))
    ·rw[List.length_append,List.map_append];exact bZ
    ·intro g hg;rcases CC g hg with e| e
     ·exact hI.fr g e
     ·omega
    ·rw[eh,List.append_assoc];rfl
    ·dsimp only at ky⊢;omega
    ·have:=aC.size;omega
   case nM=>
    refine OQ O (λe1=>?_)$ λe1=>?_
    ·have fm:dn=[]:=List.eq_nil_of_length_eq_zero (by omega);refine R6 O$ qV (Q7 O U3 Rt (by omega))$ P5 zei O (z8v v (by omega) _) ?_;rintro _ w8 ⟨rfl,rfl⟩;rw[JG fm,z82];refine ON O$ PS O ?_;rw[show(y:Int)-x+x=(y:Int) by omega];refine OV O ?_;exact(nL _ _ ⟨rfl,rfl⟩).qb
    ·obtain⟨q,u,rfl⟩:∃q u,dn=q++[u]:=by
      rcases List.eq_nil_or_concat dn with rfl|⟨q,u,rfl⟩
      ·exact absurd O e1
      ·exact⟨q,u,by simp⟩
     have I0:=wo u q O;have nq:(q++[u]).length=q.length+1:=by simp
     rw[nq] at hH;rcases hH.shape with⟨-,h0⟩|⟨g,c1,rfl,fx⟩
     ·omega
     refine OK O$ Pa O$ ON O$ Ro O ?_;rw[show(((q++[u]).length:Nat):Int)-1=(q.length:Int) by simp];refine qV (PR Pu P6 O O (by omega))$ qV (Ps QR O O (PU hH.rd (show((q++[u]).map Px)[q.length]? =some (Px u) by simp))) ?_;refine qV (PJ O QR U3 (by omega))$ PS O$ PS O ?_;rw[show(v:Int)+((u:Int)+1)=(y:Int) by omega];refine OV O ?_;exact(nL _ _ ⟨rfl,rfl⟩).qb
  ·have fm:l2=[]:=List.eq_nil_of_length_eq_zero (by omega);subst fm;refine OO O$ Pn O$ OV O$ OB func226 O ?_;rw[List.append_nil] at eh;subst eh;have ky:=hI.z4E;rw[show(P8 (PI x k l.getLast? [])).length=0 by cases l.getLast?<;>rfl,Nat.add_zero] at ky;rw[<-ky];exact⟨_,rfl,hI.sl,λg hg=>by have:=hI.fr g hg;omega,hI.tk,hI.kp⟩
section
variable {P:Program}{b:Frame}{a:Act}{k:List Item}{cs:List Frame}{w:World}{C:Cx}{e:Env}
def z50 {c:Code}:step P (lone (b.atR a (.code (.scope c)::k)) cs w)= .next (lone (b.atR a (.code c:: .inScope c::k)) cs w):=
 step_lone_go (by simp[stepG,stepG.exec,Frame.atR])
theorem z9C {c:Code}(h:Po C (.code c:: .inScope c::k) e w):Po C (.code (.scope c)::k) e w:=λa ha=>Wm.step (λ_ _=>z50) (h a ha)
end
def loE:Option Nat->Nat
 |none=>0
 |some z=>z+2
def z6F:Option Nat->Int
 |none=>-1
 |some z=>(z:Int)
def UG (x:Nat):Option Nat->Nat->Nat
 |none,y=>zig ((y:Int)-x)
 |some e,y=>y-e-2
theorem RI (x least:Nat)(e:Option Nat)(p:Nat×Nat)(R:List (Nat×Nat)):PF x least e (p::R)=(.gamma,UG x e p.1)::(.gamma,p.2-least)::PF x least (some (p.1+p.2-1)) R:=by
 cases e<;>rfl
structure LoI (w:World)(t r:Nat)(s:OI)(R:List (Nat×Nat))(x least left:Nat)(rest:List Bool)(aE:Nat)(i:Nat)(R2:List (Nat×Nat))(e:Option Nat)(O_:List Nat)(v9:Value)(a:Nat)(w':World):Prop where
 tk:TkM w' t r s a
 kp:Kp (λk=>k=t\/k=r) w w'
 sl:Sl w' v9 59 1 O_.length (O_.map Px)
 fr:∀g,v9.ownBlock=some g->w.heap.size<=g
 len:R.length=i+R2.length
 eq:QQ R=O_++QQ R2
 ok:SY least (loE e) R2
 hi:∀p∈R2,p.1+p.2<=65536
 tot:O_.length+(QQ R2).length<=left
 bits:(P7 s).drop a=P8 (PF x least e R2)++rest
 z4E:a+(P8 (PF x least e R2)).length=aE
 eb:z6F e<65536
def z9q {w:World}{t r a:Nat}{s:OI}(h:TkM w t r s a)(hG:OP w 1 (Sg .gamma) 294)(dj:¬1=r)(nS:¬1=t)(x left least:Nat)(hx:x<65536)(s9:left<=65536)(CD:least<=64)(R:List (Nat×Nat))(hR:SY least 0 R)(JH:∀p∈R,p.1+p.2<=65536)
  (xt:(QQ R).length<=left) (JI:R.length<=left) (rest:List Bool) (hb:(P7 s).drop a=P8 ((.gamma,R.length)::PF x least none R)++rest):
  Pm prog 225 [ptr t 0,I (x:Int),I (left:Int),I (least:Int)] w λu w'=>Sl w' u 59 1 (QQ R).length ((QQ R).map Px)/\(∀g,u.ownBlock=some g->w.heap.size<=g)/\
   TkM w' t r s (a+(P8 ((.gamma,R.length)::PF x least none R)).length)/\Kp (λk=>k=t\/k=r) w w':=by
 have jT:∀v:Nat,v<=262144->v<=Cd.most .gamma:=λv hv=>by simp only[Cd.most];omega
 have lt0:=h.OA.lt
 have lr0:=h.rd.1.lt
 refine py (e:=[(0,_),(1,_),(2,_),(3,_)]) func225 O ntmps225 O O$ Qx O$ z9C$ qN O$ QS O$ OV O$ An$ z9w$ PK O$ qV (Pp (news:=[.int .u8 1,OY 0]) Ss O QI O (hG.cells (n:=2) O) O) ?_
 rw[Q5,List.append_assoc] at hb
 refine ON O$ P5 z2B O (Ug h .gamma R.length left trivial (jT _ (by omega)) JI (by omega) _ hb) ?_
 rintro _ w1 ⟨rfl,h1,az⟩
 have bL:=Sh hb
 refine ON O$ OC$ OE$ Rr (α:=Nat×List (Nat×Nat)×Option Nat×List Nat×Value×Nat) ((0,R,none,[],.slice none 0 0,a+(Cd.enc .gamma R.length).length)) (λy=>[(0,ptr t 0),(1,I (x:Int)),(2,I (left:Int)),(3,I (least:Int)),(9,y.2.2.2.2.1),(10,I (z6F y.2.2.1)),(17,I (R.length:Int)),(18,I (y.1:Int))]) (λy w'=>LoI w t r s R x least left rest (a+(P8 ((.gamma,R.length)::PF x least none R)).length) y.1 y.2.1 y.2.2.1 y.2.2.2.1 y.2.2.2.2.1 y.2.2.2.2.2 w') (λy=>y.2.1.length) ?hI ?hround
 case hI=>exact⟨h1,az.OH λk e=> .inr e,Sl.nil _ _ _,(λg h=>by cases h),by simp,rfl,hR,JH,by simpa using xt,bL,by rw[Q5,List.length_append];dsimp only;omega,(show(-1:Int)<65536 by decide)⟩
 case hround =>
  rintro⟨i,R2,e,O_,v9,a2⟩ w6 hI ih;dsimp only at hI;have aI:=hI.len
  try dsimp only
  refine qN O$ Qw O$ OC$ An$ OQ O (λh0=>?_)$ λh0=>?_
  ·obtain⟨⟨p1,p2⟩,R2,rfl⟩:∃p q,R2=p::q:=by
    cases R2 with
    |nil=>simp at aI;omega
    |cons p q=>exact⟨p,q,rfl⟩
   rw[List.length_cons] at aI;obtain⟨ok1,ok2,ok3,ok4⟩:loE e<=p1/\1<=p2/\least<=p2/\SY least (p1+p2+1) R2:=hI.ok;have ND:p1+p2<=65536:=hI.hi (p1,p2) List.mem_cons_self;have im:QQ ((p1,p2)::R2)=(List.range p2).map (p1+·)++QQ R2:=rfl;have sd:=hI.tot;have xu:=hI.eq;rw[im] at sd xu;rw[List.length_append,List.length_map,List.length_range] at sd;have bY:=hI.bits;have ky:=hI.z4E;rw[RI,Q5,Q5,List.append_assoc,List.append_assoc] at bY;rw[RI,Q5,Q5,List.length_append,List.length_append] at ky;have CE:=hI.eb
   have fO:UG x e p1<=262144:=by
    cases e with
    |none=>have:=Za (z:=(p1:Int)-x) (n:=65537) (by omega) (by omega);show zig _<=_;omega
    |some z=>show p1-z-2<=_;omega
   have kA:∀k,(λk=>k=t\/k=r) k->k<w.heap.size:=λk hk=>by rcases hk with e|e<;>omega
   have Bi:=hI.kp.OA hG (λe=>by rcases e with e|e;exact nS e;exact dj e);refine OD$ QA$ Pn O$ qV (Pp (news:=[.int .u8 1,OY 0]) Ss O QI O (Bi.cells (n:=2) O) O)$ P5 z2B O (Ug hI.tk .gamma (UG x e p1) 262144 trivial (jT _ fO) fO (by omega) _ bY) ?_;rintro _ w7 ⟨rfl,h7,aB⟩;have fA:=Sh bY;have HV:=hI.kp.size;have Bh:=aB.size;have I1:∀g,v9.ownBlock=some g->¬g=r:=λg hg e=>by have:=hI.fr g hg;omega
   have hH:=hI.sl.kp aB I1;have eQ:Kp (λk=>k=t\/k=r) w w7:=hI.kp.trans (aB.OH λk e=> .inr e);refine OV O$ PK O$ Qw O$ OC$ PD (λe' w'=>w'=w7/\e'=[(0,ptr t 0),(1,I (x:Int)),(2,I (left:Int)),(3,I (least:Int)),(9,v9),(11,I (p1:Int)),(17,I (R.length:Int)),(18,I (i:Int))]) ?nL$ λnL=>?nM
   case nL =>
    rintro e' w7 ⟨rfl,rfl⟩;have JJ:=aB.OA Bi dj;refine Pn O$ qV (Pp (news:=[.int .u8 1,OY 0]) Ss O QI O (JJ.cells (n:=2) O) O)$ ON O$ P5 z2B O (Ug h7 .gamma (p2-least) left trivial (jT _ (by omega)) (by omega) (by omega) _ fA) ?_;rintro _ w8 ⟨rfl,h8,aL⟩;have tM:=Sh fA;have HY:=aL.size;have dO:=hH.kp aL I1;have qk:Kp (λk=>k=t\/k=r) w w8:=eQ.trans (aL.OH λk e=> .inr e);obtain⟨va,vc,rfl,-⟩:=hI.sl.rd.shape;refine ON O$ PS O ?_;rw[show((p2-least:Nat):Int)+(least:Int)=(p2:Int) by omega];have cj:=h8.OA;refine OV O$ An$ Qt O$ Pq O$ OW TK O$ qV (OM U4 O O cj O)$ Pa O$ Qw O$ PH$ PM O$ Pa O$ ON O$ PS O$ QB O ?_;refine PH$ PM O$ Pa O$ Pa O$ Rs Pu O$ Ro O$ QB O$ PH$ PM O$ Pq O$ OW TK O$ OT O (QG UH O O O cj (by simp)) ?_;rintro w9 ⟨cK,aw⟩;replace cK:OP w9 t [ptr r 0,.bool false] 339:=cK;refine qM O$ ON O$ Pq O$ OW TK O$ qV (OM U4 O O cK O) ?_;have HZ:=aw.size;have kz:=dO.kp aw (λg hg e=>by have:=hI.fr g hg;omega);have h9:TkM w9 t r s (a2+(Cd.enc .gamma (UG x e p1)).length+(Cd.enc .gamma (p2-least)).length):=⟨cK,⟨aw.OA h8.rd.1 (λe=>h8.ne e.symm),h8.rd.2⟩,h8.ne⟩;have tN:Kp (λk=>k=t\/k=r) w w9:=qk.trans (aw.OH λk e=> .inl e);refine Qg O$ An$ Qt O$ OC$ OE$ Rr (α:=Nat×Value) ((0,.slice va O_.length vc)) (λy=>[(0,ptr t 0),(1,I (x:Int)),(2,I (left:Int)),(3,I (least:Int)),(9,y.2),(11,I (p1:Int)),(12,I (p2:Int)),(17,I (R.length:Int)),(18,I (i:Int)),(69,I (p2:Int)),(70,I (y.1:Int))]) (λy w'=>TkM w' t r s (a2+(Cd.enc .gamma (UG x e p1)).length+(Cd.enc .gamma (p2-least)).length)/\Kp (λk=>k=t\/k=r) w w'/\Sl w' y.2 59 1 (O_.length+y.1) ((O_++(List.range y.1).map (p1+·)).map Px)/\(∀g,y.2.ownBlock=some g->w.heap.size<=g)/\y.1<=p2) (λy=>p2-y.1) ?hI ?hround
    case hI=>exact⟨h9,tN,by simpa using kz,hI.fr,Nat.zero_le _⟩
    case hround=>
     rintro⟨j,v⟩ w10 ⟨eI,aC,bZ,cq,hj⟩ ih2;dsimp only at eI aC bZ cq hj
     try dsimp only
     refine qN O$ Qw O$ OC$ An$ OQ O (λlJ=>?_)$ λlJ=>?_
     ·refine OD$ QA$ Pn O$ OV O$ OK O$ Pa O$ ON O$ PS O$ qV (z4q O U3 QR) ?_;rw[show(p1+j)%4294967296=p1+j by omega];refine OJ O O (XZ (cs:=[_]) (zs:=[Value.int .u32 0]) Pu P6 O (by kernel_rfl) O O O (by decide)) ?_;rintro _ w11 ⟨b11,rfl,⟨jo,aV,bc⟩,nT⟩;have JK:=aC.size;have JL:=aV.size;refine OJ O O (pap Pu P6 O (by decide) O O (bZ.ext aV) nT.rd (by intro c hc;simp at hc;subst hc;rfl) (by omega) (by simp only[maxLen];omega)) ?_;rintro v12 w12 ⟨kA,bA,CG,-⟩;have nr:=kA.oneV;refine OV O$ Oz$ OK O$ PS O$ ON O$ OC ?_;have xv:∀g,g<w.heap.size->¬v.ownBlock=some g:=λg hg e=>by have:=cq g e;omega
      refine(ih2 (j+1,v12) _ ⟨⟨bA.OA (aV.OA eI.OA) (xv t lt0),⟨bA.OA (aV.OA eI.rd.1) (xv r lr0),eI.rd.2⟩,eI.ne⟩,(aC.trans aV.kp).It bA (λg hg=> .inl (cq g hg)),?_,λg hg=>?_,by omega⟩ (by dsimp only;omega)).qb
      ·have e1:(O_++(List.range (j+1)).map (p1+·)).map Px=(O_++(List.range j).map (p1+·)).map Px++[Px (p1+j)]:=by
        rw[List.range_succ];simp
       dsimp only;rw[e1];exact kA
      ·rcases CG g hg with e| e
       ·exact cq g e
       ·omega
     ·have JM:j=p2:=by omega
      subst JM;refine OO O$ OK O$ Pa O$ PS O$ Ro O$ OV O$ Oz$ OK O$ PS O$ ON O$ OC ?_;rw[show(p1:Int)+j-1=z6F (some (p1+j-1)) by show _=((p1+j-1:Nat):Int);omega,show(i:Int)+1=((i+1:Nat):Int) by omega];refine(ih (i+1,R2,some (p1+j-1),O_++(List.range j).map (p1+·),v,_) _ ⟨eI,aC,?_,cq,by dsimp only;omega,by rw[xu,List.append_assoc],?_,λp hp=>hI.hi p (List.mem_cons_of_mem _ hp),?_,tM,?_,?_⟩ (by dsimp only;simp)).qb
      ·dsimp only;rw[List.length_append,List.length_map,List.length_range];exact bZ
      ·refine ok4.mono ?_;show p1+j-1+2<=_;omega
      ·dsimp only;rw[List.length_append,List.length_map,List.length_range];omega
      ·dsimp only at ky⊢;omega
      ·show((p1+j-1:Nat):Int)<65536;omega
   case nM=>
    cases e with
    | none =>
      refine OQ O (λe1=>?_)$ λe1=>?_
      ·refine R6 O$ qV (Q7 O U3 Rt (by omega))$ P5 zei O (z8v _ (by omega) _) ?_;rintro _ w8 ⟨rfl,rfl⟩;rw[show UG x none p1=zig ((p1:Int)-x) from rfl,z82];refine ON O$ PS O ?_;rw[show(p1:Int)-x+x=(p1:Int) by omega];refine OV O ?_;exact(nL _ _ ⟨rfl,rfl⟩).qb
      ·exact absurd (by decide) e1
    | some z =>
      refine OQ O (λe1=>?_)$ λe1=>?_
      ·exact absurd e1 (by show ¬((z:Int)<0);omega)
      ·have hz:z+2<=p1:=ok1;refine OK O$ Pa O ?_;rw[show z6F (some z)=(z:Int) from rfl];refine PS O$ PS O ?_;rw[show UG x (some z) p1=p1-z-2 from rfl,show((p1-z-2:Nat):Int)+((z:Int)+2)=(p1:Int) by omega];refine OV O ?_;exact(nL _ _ ⟨rfl,rfl⟩).qb
  ·have fm:R2=[]:=List.eq_nil_of_length_eq_zero (by omega);subst fm;refine OO O$ Pn O$ OV O$ OB func225 O ?_;have eh:=hI.eq;rw[show QQ []=[] from rfl,List.append_nil] at eh;have ky:=hI.z4E;rw[show(P8 (PF x least e [])).length=0 by cases e<;>rfl,Nat.add_zero] at ky;rw[eh,<-ky];exact⟨_,rfl,hI.sl,hI.fr,hI.tk,hI.kp⟩
def Qs (p:S1)(n r:Nat):List (Cd×Nat):=(.gamma,n)::if n=0 then [] else if 0<p.Pb then [(.unary,r)] else []
def z2k {w:World}{r a:Nat}{s:OI}(h:TO w r s a)(p:S1)(hp:p.Qq)(hG:OP w 1 (Sg .gamma) 294)(hU:OP w 2 (Sg .unary) 294)(dj:¬1=r)(dt:¬2=r)(n q:Nat)(hn:n<=65536)(hq:q<=p.Pb)
  (nU:n=0->q=0) (rest:List Bool) (hb:(P7 s).drop a=P8 (Qs p n q)++rest):
  Pm prog 213 [ptr r 0,lpV p] w λu w'=>u= .tuple #[.agg #[I (n:Int),I (q:Int)],I 0]/\TO w' r s (a+(P8 (Qs p n q)).length)/\Kp (λk=>k=r) w w':=by
 obtain⟨g1,g2,g3,g4⟩:=id hp
 have lr0:=h.1.lt
 have nV:p.Pb=0->q=0:=λe=>by omega
 unfold Qs at hb⊢
 rw[Q5,List.append_assoc] at hb
 refine py (e:=[(0,_),(1,_)]) func213 O ntmps213 O O$ qN O$ OJ O O (R4 O (cs:=lpC p) O) ?_
 rintro _ w1 ⟨b3,rfl,dG,ad,ar⟩
 refine OJ O O (Ry (cs:=[_,_]) Sb O) ?_
 rintro _ w2 ⟨b4,rfl,fZ,ae,aK⟩
 have z1:=ad.size
 have z2:=ae.size
 have dv:=ae.OA ar
 refine OV O$ QA$ Pn O$ qV (PY Ve O O)$ OV O$ OL O$ qN O$ qV (Pp (news:=lpC p) Zw O TY O (dv.cells (n:=3) O) O)$ P5 z5y O (TS p hp w2) ?_
 rintro _ w3 ⟨rfl,ah⟩
 refine QE O$ SA O ?_
 have ck:=(ad.trans ae).trans ah
 have h3:TO w3 r s a:=⟨ck.OA h.1,h.2⟩
 refine Qg O$ Oz$ Pn O$ P5 YE O (Uc h3) ?_
 rintro _ w4 ⟨rfl,rfl⟩
 refine QW O$ qV (Pp (news:=[.int .u8 1,OY 0]) Ss O QI O ((ck.OA hG).cells (n:=2) O) O)$ P5 zcd O (ZD h3 .gamma n trivial (by simp only[Cd.most];omega) _ hb) ?_
 rintro _ w5 ⟨rfl,h5,aj⟩
 have gR:=Sh hb
 have cW:=aj.OA (ah.OA dv) (by omega)
 have aO:=aj.OA (ah.OA aK) (by omega)
 have dm:Kp (λk=>k=r) w w5:=ck.kp.trans aj
 replace cW:OP w5 b3 [I (p.Pb:Int),I (p.interval:Int),I (p.zeta:Int)] 260:=cW
 refine ON O$ SU O$ SA O$ QS O$ OV O$ PK O$ Rg O$ ON O ?_
 rcases Nat.eq_zero_or_pos n with e0|e0
 ·have tO:=nU e0;subst e0;subst tO;refine ON O$ QB O$ PH$ QX O$ ON O$ QL$ qS$ PM O$ OC$ Po.qb (e:=[(0,_),(3,_),(4,_),(5,_),(6,_),(7,_),(8,_),(9,_),(37,_)]) ?_;refine SH O$ PK O$ QE O$ Pa O$ QB O$ PH$ PM O$ Pa O$ OW To O$ qV (OM U3 O O cW O)$ qV ((Q7 O U3 Rt (by omega)))$ QB O$ PH$ PM O ?_;refine Qg O$ Pn O$ qV (PJ O Rt U3 (by omega))$ ON O$ qV (PJ O Rt U3 (by omega))$ qV (Sa (cs:=[_,_]) Sb O zca O O)$ OT O (PG (news:=[I ((0:Nat):Int),I (((0:Nat)):Int)]) Sb O O O O aO (by simp)) ?_;rintro w9 ⟨bT,aw⟩;replace bT:OP w9 b4 [I ((0:Nat):Int),I (((0:Nat)):Int)] 308:=bT;refine OV O$ Po.qb (e:=[(4,_),(5,_)]) ?_;refine Pf func213 (.cell z4h O Sb O (OP.cells (n:=2) bT (news:=[_,_]) O) O (.tmp O .nil)) ?_;rw[if_pos O,show(P8 [((.gamma,0):Cd×Nat)]).length=(Cd.enc .gamma 0).length by rw[Q5,List.length_append];rfl];refine⟨_,rfl,rfl,⟨aw.OA h5.1 (by omega),h5.2⟩,dm.It aw (λk e=> .inl (by omega))⟩
 ·rw[if_neg (by omega)] at gR⊢;rcases Nat.eq_zero_or_pos p.Pb with e1|e1
  ·have tO:=nV e1;subst tO;rw[if_neg (by omega)] at gR⊢;refine ON O$ QB O$ Rz$ QX O$ ON O$ OW To O$ qV (OM U3 O O cW O)$ QB O$ PH$ QX O$ OC$ Po.qb (e:=[(0,_),(3,_),(4,_),(5,_),(6,_),(7,_),(8,_),(9,_),(37,_)]) ?_;refine SH O$ PK O$ QE O$ Pa O$ QB O$ PH$ PM O$ Pa O$ OW To O$ qV (OM U3 O O cW O)$ qV ((Q7 O U3 Rt (by omega)))$ QB O$ PH$ PM O ?_;refine Qg O$ Pn O$ qV (PJ O Rt U3 (by omega))$ ON O$ qV (PJ O Rt U3 (by omega))$ qV (Sa (cs:=[_,_]) Sb O zca O O)$ OT O (PG (news:=[I (n:Int),I (((0:Nat)):Int)]) Sb O O O O aO (by simp)) ?_;rintro w9 ⟨bT,aw⟩;replace bT:OP w9 b4 [I (n:Int),I (((0:Nat)):Int)] 308:=bT;refine OV O$ Po.qb (e:=[(4,_),(5,_)]) ?_;refine Pf func213 (.cell z4h O Sb O (OP.cells (n:=2) bT (news:=[_,_]) O) O (.tmp O .nil)) ?_;rw[show(P8 [((.gamma,n):Cd×Nat)]).length=(Cd.enc .gamma n).length by rw[Q5,List.length_append];rfl];refine⟨_,rfl,rfl,⟨aw.OA h5.1 (by omega),h5.2⟩,dm.It aw (λk e=> .inl (by omega))⟩
  ·rw[if_pos e1] at gR⊢;rw[Q5,List.append_assoc] at gR;refine ON O$ QB O$ Rz$ QX O$ ON O$ OW To O$ qV (OM U3 O O cW O)$ QB O$ Rz$ QX O$ OC$ Po.qb (e:=[(0,_),(3,_),(4,_),(5,_),(6,_),(7,_),(8,_),(9,_),(37,_)]) ?_;refine OS O$ R6 O$ qV (Pp (news:=[.int .u8 0,OY 0]) Ss O QI O ((dm.OA hU dt).cells (n:=2) O) O)$ P5 zcd O (ZD h5 .unary q trivial (by simp only[Cd.most];omega) _ gR) ?_;rintro _ w6 ⟨rfl,h6,aM⟩;have jp:=aM.OA cW (by omega);have bU:=aM.OA aO (by omega);have tP:=dm.trans aM;refine ON O$ SU O$ Qm O$ PK O$ QE O$ Pa O$ QB O$ PH$ PM O$ Pa O$ OW To O$ qV (OM U3 O O jp O)$ qV ((Q7 O U3 Rt (by omega)))$ QB O ?_;refine PH$ PM O$ OC$ Po.qb (e:=[(0,_),(4,_),(5,_),(6,_),(7,_),(9,_),(56,_)]) ?_;refine SH O$ Pn O$ qV (PJ O Rt U3 (by omega))$ ON O$ qV (PJ O Rt U3 (by omega))$ qV (Sa (cs:=[_,_]) Sb O zca O O)$ OT O (PG (news:=[I (n:Int),I (q:Int)]) Sb O O O O bU (by simp)) ?_;rintro w9 ⟨bT,aw⟩;replace bT:OP w9 b4 [I (n:Int),I (q:Int)] 308:=bT;refine OV O$ Pf func213 (.cell z4h O Sb O (OP.cells (n:=2) bT (news:=[_,_]) O) O (.tmp O .nil)) ?_;rw[show(P8 [((.gamma,n):Cd×Nat),(.unary,q)]).length=(Cd.enc .gamma n).length+(Cd.enc .unary q).length by rw[Q5,Q5,List.length_append,List.length_append];rfl,<-Nat.add_assoc];refine⟨_,rfl,rfl,⟨aw.OA h6.1 (by omega),h6.2⟩,tP.It aw (λk e=> .inl (by omega))⟩
structure Qk where
 Pb:Nat
 chain:Nat
 interval:Nat
 zeta:Nat
 most:Nat
def Qk.list (p:Qk):S1:=⟨p.Pb,p.interval,p.zeta⟩
def Qk.Qq (p:Qk):Prop:=p.list.Qq/\p.chain<=16/\p.most<=65536
def Vl (p:Qk):List Value:=[I (p.Pb:Int),I (p.chain:Int),I (p.interval:Int),I (p.zeta:Int),I (p.most:Int)]
abbrev bpV (p:Qk):Value:= .agg (Vl p).toArray
def SX (p:Qk)(w:World):Pm prog 149 [bpV p] w λu w'=>u=lpV p.list/\Ext w w':=by
 refine py (e:=[(0,_)]) func149 O ntmps149 O O$ qN O$ OJ O O (R4 O (cs:=Vl p) O) ?_
 rintro _ w1 ⟨b1,rfl,bL,ad,ai⟩
 refine OJ O O (Ry (cs:=[_,_,_]) TY O) ?_
 rintro _ w2 ⟨b2,rfl,bN,ae,ak⟩
 have aX:=ae.OA ai
 replace aX:OP w2 b1 [I (p.Pb:Int),I (p.chain:Int),I (p.interval:Int),I (p.zeta:Int),I (p.most:Int)] 75:=aX
 refine qM O$ OW z1K O$ qV (OM U3 O O aX O)$ OW zbQ O$ qV (OM U3 O O aX O)$ OW zaI O$ qV (OM U3 O O aX O)$ qV (Sa (cs:=[_,_,_]) TY O zgL O O)$ OT O (PG (news:=[I (p.Pb:Int),I (p.interval:Int),I (p.zeta:Int)]) TY O O O O ak (by simp)) ?_
 rintro w3 ⟨bF,av⟩
 replace bF:OP w3 b2 [I (p.Pb:Int),I (p.interval:Int),I (p.zeta:Int)] 260:=bF
 refine OC$ Pf func149 (.cell Zw O TY O (OP.cells (n:=3) bF (news:=[_,_,_]) O) O .nil) ?_
 have z1:=ad.size
 exact⟨_,rfl,rfl,(ad.trans ae).It av (λk e=>by omega)⟩
def ZV (p:Qk)(hp:p.Qq)(w:World):Pm prog 147 [bpV p] w λu w'=>u=I 0/\Ext w w':=by
 obtain⟨g1,g2,g3⟩:=hp
 refine py (e:=[(0,_)]) func147 O ntmps147 O O$ qN O$ OJ O O (R4 O (cs:=Vl p) O) ?_
 rintro _ w1 ⟨b1,rfl,bL,ad,ai⟩
 have iD:OP w1 b1 [I (p.Pb:Int),I (p.chain:Int),I (p.interval:Int),I (p.zeta:Int),I (p.most:Int)] 75:=ai
 refine OV O$ An$ qN O$ OW Zu O$ qV (OM U3 O O iD O)$ Qw O$ PH$ ON O$ OW Zu O$ qV (OM U3 O O iD O)$ QB O$ PH$ PM O$ ON O ?_
 refine OW TC O$ qV (OM U3 O O iD O)$ Qw O$ PH$ PM O$ ON O$ OW TC O$ qV (OM U3 O O iD O)$ QB O$ PH$ PM O$ Qg O$ qN O$ qV (Pp U75 O RD O (OP.cells (n:=5) iD (news:=[_,_,_,_,_]) O) O) ?_
 refine P5 z0H O (SX p w1) ?_
 rintro _ w2 ⟨rfl,ae⟩
 refine P5 z5y O (TS p.list g1 w2) ?_
 rintro _ w3 ⟨rfl,ah⟩
 refine OV O$ OB func147 O ?_
 exact⟨_,rfl,rfl,(ad.trans ae).trans ah⟩
structure SD (w:World)(g n cap:Nat)(d:Array Nat):Prop where
 sl:Sl w (.slice (some ⟨g,0,none⟩) n cap) 59 1 n (d.toList.map Px)
 size:d.size=n
abbrev QD (x y:Nat):Bool:=decide (x<y)
def Yu:Go.Sort.SWO QD:=⟨λx=>by simp[QD],λx y z h1 h2=>by simp[QD] at*;omega,λx y z h1 h2=>by simp[QD] at*;omega⟩
section
variable {w w':World}{g n cap:Nat}{d:Array Nat}{S:Nat->Prop}
def SD.ext (h:SD w g n cap d)(k:Ext w w'):SD w' g n cap d:=⟨h.sl.ext k,h.size⟩
def SD.kp (h:SD w g n cap d)(k:Kp S w w')(hg:¬S g):SD w' g n cap d:=⟨h.sl.kp k (λg' e=>by cases e;exact hg),h.size⟩
theorem SD.get {i:Nat}(h:SD w g n cap d)(hi:i<n):w.cell? ⟨g,0+i*1,none⟩=some (Px d[i]!):=by
 have hs:=h.size
 refine PU h.sl.rd ?_
 rw[List.getElem?_map,Array.getElem?_toList,Array.getElem?_eq_getElem (by omega)]
 rw[getElem!_pos d i (by omega)]
 rfl
def SD.jlt {j:Nat}(h:SD w g n cap d)(hj:j<n):j<(d.toList.map Px).length:=by
 have hs:=h.size
 rw[List.length_map,Array.length_toList];omega
theorem SD.set {i y:Nat}(h:SD w g n cap d)(hS:Sl w' (.slice (some ⟨g,0,none⟩) n cap) 59 1 n ((d.toList.map Px).set (0+i*1) (Px y))):SD w' g n cap (d.setIfInBounds i y):=by
 refine⟨?_,by rw[Array.size_setIfInBounds,h.size]⟩
 rw[Array.toList_setIfInBounds,List.map_set]
 rw[show 0+i*1=i by omega] at hS
 exact hS
end
def z9F (x:Nat)(w:World):Pm prog 258 [Px x] w λu w'=>u= .bool false/\w'=w:=by
 refine py (e:=[(0,_)]) func258 O ntmps258 O O$ qN O$ QS O$ Pa O$ QE O$ OV O$ OB func258 O ?_
 exact⟨_,rfl,by simp[PX],rfl⟩
def S0 (x y:Nat)(w:World):Pm prog 249 [Px x,Px y] w λu w'=>u= .bool (QD x y)/\w'=w:=by
 refine py (e:=[(0,_),(1,_)]) func249 O ntmps249 O O$ qN O$ QW O$ P5 zhw O (z9F x w) ?_
 rintro _ w ⟨rfl,rfl⟩
 refine ON O$ QL$ qS$ PM O$ Pa O$ ON O$ Qw O$ PM O$ OV O$ OB func249 O ?_
 exact⟨_,rfl,by simp[QD,PX],rfl⟩
section
variable (a b j i:Nat)(d:Array Nat)
theorem z5q (hj:a<j)(hl:QD d[j]! d[j-1]! =true):Go.Sort.insInner QD a j d=Go.Sort.insInner QD a (j-1) (Go.Sort.swp d j (j-1)):=by
 obtain⟨k,rfl⟩:∃k,j=k+1:=⟨j-1,by omega⟩
 rw[Go.Sort.insInner]
 simp only[Nat.add_sub_cancel] at hl⊢
 rw[if_pos]
 rw[Bool.and_eq_true];exact⟨by simpa using hj,hl⟩
theorem XG (h:j<=a\/QD d[j]! d[j-1]! =false):Go.Sort.insInner QD a j d=d:=by
 cases j with
 |zero=>rw[Go.Sort.insInner]
 | succ k =>
   rw[Go.Sort.insInner];simp only[Nat.add_sub_cancel] at h;rw[if_neg];intro hc;rw[Bool.and_eq_true] at hc;rcases h with h| h
   ·have:=of_decide_eq_true hc.1;omega
   ·rw[h] at hc;cases hc.2
theorem z4z (h:i<b):Go.Sort.insOuter QD a b i d=Go.Sort.insOuter QD a b (i+1) (Go.Sort.insInner QD a i d):=by rw[Go.Sort.insOuter,if_pos h]
theorem z25 (h:¬i<b):Go.Sort.insOuter QD a b i d=d:=by rw[Go.Sort.insOuter,if_neg h]
end
def z1X {w:World}{g n cap:Nat}{d:Array Nat}(h:SD w g n cap d)(a b:Nat)(jQ:a<=b)(hb:b<=n)(hn:n<=65536):
  Pm prog 243 [.slice (some ⟨g,0,none⟩) n cap,I (a:Int),I (b:Int)] w λu w'=>u= .tuple #[]/\SD w' g n cap (Go.Sort.insertionSort QD d a b)/\Kp (λk=>k=g) w w':=by
 refine py (e:=[(0,_),(1,_),(2,_)]) func243 O ntmps243 O O$ Pn O$ PS O$ OV O$ OE$ Rr (α:=Nat×Array Nat) ((a+1,d)) (λy=>[(0,.slice (some ⟨g,0,none⟩) n cap),(1,I (a:Int)),(2,I (b:Int)),(6,I (y.1:Int))]) (λy w'=>SD w' g n cap y.2/\Kp (λk=>k=g) w w'/\Go.Sort.insOuter QD a b y.1 y.2=Go.Sort.insertionSort QD d a b/\a<y.1) (λy=>b-y.1) ?hI ?hround
 case hI=>exact⟨h,Kp.refl _ _,rfl,Nat.lt_succ_self a⟩
 case hround=>
  rintro⟨i,d4⟩ w4 ⟨eu,au,cG,pH⟩ ih;dsimp only at eu au cG pH
  try dsimp only
  refine An$ Qt O$ Qw O$ OC$ OQ O (λh0=>?_)$ λh0=>?_
  ·rw[z4z _ _ _ _ (by omega)] at cG;refine OD$ QA$ Pn O$ OV O$ OE$ Rr (α:=Nat×Array Nat) ((i,d4)) (λy=>[(0,.slice (some ⟨g,0,none⟩) n cap),(1,I (a:Int)),(2,I (b:Int)),(6,I (i:Int)),(7,I (y.1:Int))]) (λy w'=>SD w' g n cap y.2/\Kp (λk=>k=g) w w'/\Go.Sort.insInner QD a y.1 y.2=Go.Sort.insInner QD a i d4/\y.1<=i/\a<=y.1) (λy=>y.1) ?hI ?hround
   case hI=>exact⟨eu,au,rfl,Nat.le_refl _,by dsimp only;omega⟩
   case hround=>
    rintro⟨j,d5⟩ w5 ⟨aW,aj,cd,JN,CH⟩ ih2;dsimp only at aW aj cd JN CH
    try dsimp only
    have hg:=Ext.P4 w5;rcases Nat.lt_or_ge a j with hj|hj
    ·refine An$ An$ QV (λw'=>Ext w5 w') O$ OZ 0 O O (hg)$ OZ 1 O O (hg)$ OG 2 O (Yf O O) hg$ TL$ OZ 3 O O (hg)$ OZ 4 O O (hg)$ OZ 5 O O (hg)$ OG 6 O (PR Pu P6 O O (by omega)) hg$ OZ 8 O O (hg)$ OZ 9 O O (hg)$ OG 10 O (Xw O O (by omega)) hg ?_;rw[show(j:Int)-1=((j-1:Nat):Int) by omega];refine qT 7 O (λ_ h=>Ps QR O O ((aW.ext h).get (i:=j) (by omega))) hg$ OG 11 O (PR Pu P6 O O (by omega)) hg$ qT 12 O (λ_ h=>Ps QR O O ((aW.ext h).get (i:=j-1) (by omega))) hg$ RT 13 O W7 O (S0 _ _ _) ?_;rintro _ w6 ⟨rfl,rfl⟩;refine⟨hg,?_⟩;refine OG 14 O (Uu O O) hg$ qE ?_;have ql:=aW.ext hg;refine Qf O (λh1=>?_)$ λh1=>?_
     ·refine OD$ QA ?_;have aD:=Ext.P4 w5.drew;refine P9 [15,17] (λw'=>Ext w5.drew w') (by kernel_rfl) O$ PQ 0 O O (aD)$ PQ 1 O O (aD)$ Qe (i:=2) O (by kernel_rfl) O O (λ_=>Xu O) (aD)$ Qe (i:=3) O (by kernel_rfl) O O (λ_=>Xu O) (aD)$ Qe (i:=4) O (by kernel_rfl) O O (λ_=>Xw O O (by omega)) (aD)$ PQ 5 O O (aD)$ PQ 6 O O (aD)$ Pl 7 O (Xw O O (by omega)) aD$ PQ 10 O O (aD)$ PQ 11 O O (aD)$ Pl 12 O (PR Pu P6 O O (by omega)) aD ?_;rw[show(j:Int)-1=((j-1:Nat):Int) by omega];refine Pl 8 O (PR Pu P6 O O (by omega)) aD$ qL 9 O (λ_ h=>Ps QR O O ((ql.ext h).get (i:=j-1) (by omega))) aD$ qL 13 O (λ_ h=>Ps QR O O ((ql.ext h).get (i:=j) (by omega))) aD$ Pl 14 O (PR Pu P6 O O (by omega)) aD$ Tt [15]$ qO 15$ PE (i:=15) O O (RQ P6 O O O (ql.ext aD).sl ((ql.ext aD).jlt (by omega))) ?_;rintro w7a ⟨gp,gq⟩;refine⟨trivial,?_⟩;have cN:=(ql.ext aD).set gp;refine OG 16 O (PR Pu P6 O O (by omega)) trivial$ qO 17$ PE (i:=17) O O (RQ P6 O O O cN.sl (cN.jlt (by omega))) ?_;rintro w7 ⟨iE,kB⟩;refine⟨trivial,?_⟩;have kC:=cN.set iE;have gt:Kp (λk=>k=g) w5.drew w7:=aD.kp.trans (gq.trans kB);refine qE$ Oz$ R6 O$ Ro O$ OV O ?_;rw[show(j:Int)-1=((j-1:Nat):Int) by omega];refine(ih2 (j-1,Go.Sort.swp d5 j (j-1)) _ ⟨kC,(aj.trans hg.kp).trans gt,?_,by dsimp only;omega,by dsimp only;omega⟩ (by dsimp only;omega)).qb;dsimp only;rw[<-cd,z5q a j d5 hj h1]
     ·refine OO O$ Oz$ R6 O$ PS O$ OV O ?_;rw[XG a j d5 (.inr (by simpa using h1))] at cd;refine(ih (i+1,d5) _ ⟨ql,aj.trans hg.kp,?_,by dsimp only;omega⟩ (by dsimp only;omega)).qb;dsimp only;rw[cd];exact cG
    ·refine An$ An$ QV (λw'=>Ext w5 w') O$ OZ 0 O O (hg)$ OZ 1 O O (hg)$ OG 2 O (Yf O O) hg$ TD$ OZ 3 O O (hg)$ qJ 4 O (hg)$ qJ 5 O (hg)$ qJ 6 O (hg)$ qJ 7 O (hg)$ qJ 8 O (hg)$ qJ 9 O (hg) ?_;refine qJ 10 O (hg)$ qJ 11 O (hg)$ qJ 12 O (hg)$ qJ 13 O (hg)$ OG 14 O (U0 O O) hg$ qE$ OL O$ OO O$ Oz$ R6 O$ PS O$ OV O ?_;rw[XG a j d5 (.inl hj)] at cd;refine(ih (i+1,d5) _ ⟨aW.ext hg,aj.trans hg.kp,?_,by dsimp only;omega⟩ (by dsimp only;omega)).qb;dsimp only;rw[cd];exact cG
  ·rw[z25 _ _ _ _ (by omega)] at cG;refine OO O$ Qa func243 O ?_;exact⟨_,rfl,rfl,cG▸eu,au⟩
section
variable (hi first root:Nat)(d:Array Nat)
def Zj:Nat:=if 2*root+1+1<hi&&QD d[first+(2*root+1)]! d[first+(2*root+1)+1]! then 2*root+2 else 2*root+1
theorem z9Q (h:hi<=2*root+1):Go.Sort.siftDown QD hi first root d=d:=by rw[Go.Sort.siftDown,dif_pos h]
theorem zcH (h:2*root+1<hi):Go.Sort.siftDown QD hi first root d=if QD d[first+root]! d[first+Zj hi first root d]! then Go.Sort.siftDown QD hi first (Zj hi first root d) (Go.Sort.swp d (first+root) (first+Zj hi first root d)) else d:=by
 rw[Go.Sort.siftDown,dif_neg (by omega)]
 unfold Zj
 by_cases h1:(decide (2*root+1+1<hi)&&QD d[first+(2*root+1)]! d[first+(2*root+1)+1]!)=true
 ·rw[if_pos h1,if_pos h1];rw[Bool.and_eq_true] at h1;have h2:2*root+2<hi:=of_decide_eq_true h1.1;rw[dif_pos h2];cases QD d[first+root]! d[first+(2*root+2)]!<;>rfl
 ·rw[if_neg h1,if_neg h1];cases QD d[first+root]! d[first+(2*root+1)]!<;>rfl
def zcy (h:2*root+1<hi):root<Zj hi first root d/\Zj hi first root d<hi:=by
 unfold Zj
 split
 ·rename_i h1
  rw[Bool.and_eq_true] at h1;have h2:2*root+2<hi:=of_decide_eq_true h1.1;omega
 ·omega
end
def z4O {w:World}{g n cap:Nat}{d:Array Nat}(h:SD w g n cap d)(lo hi first:Nat)(hf:first+hi<=n)(wj:lo<=65536)(hn:n<=65536):
  Pm prog 253 [.slice (some ⟨g,0,none⟩) n cap,I (lo:Int),I (hi:Int),I (first:Int)] w λu w'=>u= .tuple #[]/\SD w' g n cap (Go.Sort.siftDown QD hi first lo d)/\Kp (λk=>k=g) w w':=by
 refine py (e:=[(0,_),(1,_),(2,_),(3,_)]) func253 O ntmps253 O O$ Pn O$ OV O$ OE$ Rr (α:=Nat×Array Nat) ((lo,d)) (λy=>[(0,.slice (some ⟨g,0,none⟩) n cap),(2,I (hi:Int)),(3,I (first:Int)),(8,I (y.1:Int))]) (λy w'=>SD w' g n cap y.2/\Kp (λk=>k=g) w w'/\Go.Sort.siftDown QD hi first y.1 y.2=Go.Sort.siftDown QD hi first lo d/\y.1<=65536) (λy=>hi-y.1) ?hI ?hround
 case hI=>exact⟨h,Kp.refl _ _,rfl,wj⟩
 case hround=>
  rintro⟨root,d4⟩ w4 ⟨eu,au,cG,bG⟩ ih;dsimp only at eu au cG bG
  try dsimp only
  refine OE$ Pn O$ qV (Yb O O (by omega))$ PS O$ OV O$ An$ qN O ?_;rw[show 2*(root:Int)+1=((2*root+1:Nat):Int) by omega];refine Pa O$ U8 O$ OC$ OQ O (λh0=>?_)$ λh0=>?_
  ·rw[z9Q _ _ _ _ (by omega)] at cG;refine OO O$ Qa func253 O ?_;exact⟨_,rfl,rfl,cG▸eu,au⟩
  ·have hc:=zcy hi first root d4 (by omega);rw[zcH _ _ _ _ (by omega)] at cG;have hg:=Ext.P4 w4;have tQ:=eu.ext hg;refine OD$ An$ An ?_
   generalize qm:(decide (2*root+1+1<hi)&&QD d4[first+(2*root+1)]! d4[first+(2*root+1)+1]!)=sel
   refine PD (λe' w'=>e'=[(0,.slice (some ⟨g,0,none⟩) n cap),(2,I (hi:Int)),(3,I (first:Int)),(8,I (root:Int)),(9,I ((2*root+1:Nat):Int)),(36,.bool sel)]/\w'=w4.drew) ?aY$ λaY=>?gl
   case aY=>
    rintro e' w5 ⟨rfl,rfl⟩;refine PD (λe' w'=>e'=[(0,.slice (some ⟨g,0,none⟩) n cap),(2,I (hi:Int)),(3,I (first:Int)),(8,I (root:Int)),(9,I (Zj hi first root d4:Int))]/\w'=w4.drew) ?aq$ λaq=>?ey
    case aq=>
     rintro e' w5 ⟨rfl,rfl⟩
     generalize Zj hi first root d4=c at hc cG
     have ev:=Ext.P4 w4.drew;have mt:=tQ.ext ev;refine An$ An$ QV (λw'=>Ext w4.drew w') O$ OZ 0 O O (ev)$ OZ 1 O O (ev)$ OZ 2 O O (ev)$ OG 3 O (UO O O (by omega)) ev$ OG 4 O (PR Pu P6 O O (by omega)) ev$ OZ 6 O O (ev)$ OZ 7 O O (ev)$ OZ 8 O O (ev)$ OG 9 O (UO O O (by omega)) ev$ OG 10 O (PR Pu P6 O O (by omega)) ev$ qT 5 O (λ_ h=>Ps QR O O ((tQ.ext h).get (i:=first+root) (by omega))) ev ?_;refine qT 11 O (λ_ h=>Ps QR O O ((tQ.ext h).get (i:=first+c) (by omega))) ev$ RT 12 O W7 O (S0 _ _ _) ?_;rintro _ w6 ⟨rfl,rfl⟩;refine⟨ev,?_⟩;refine OG 13 O ((z9r O)) ev$ qE$ Qf O (λh1=>?_)$ λh1=>?_
     ·rw[if_neg (by simpa using h1)] at cG;refine OB func253 O ?_;exact⟨_,rfl,rfl,cG▸mt,au.trans (hg.trans ev).kp⟩
     ·rw[if_pos (by simpa using h1)] at cG;refine OD$ An ?_;have aD:=Ext.P4 w4.drew.drew;refine P9 [21,23] (λw'=>Ext w4.drew.drew w') (by kernel_rfl) O$ PQ 0 O O (aD)$ PQ 1 O O (aD)$ PQ 2 O O (aD)$ Pl 3 O (UO O O (by omega)) aD$ Qe (i:=4) O (by kernel_rfl) O O (λ_=>Xu O) (aD)$ Qe (i:=5) O (by kernel_rfl) O O (λ_=>Xu O) (aD)$ Qe (i:=6) O (by kernel_rfl) O O (λ_=>Xu O) (aD)$ Qe (i:=7) O (by kernel_rfl) O O (λ_=>UO O O (by omega)) (aD)$ PQ 8 O O (aD)$ PQ 9 O O (aD)$ PQ 10 O O (aD)$ Pl 11 O (UO O O (by omega)) aD$ Pl 12 O (PR Pu P6 O O (by omega)) aD ?_;refine PQ 14 O O (aD)$ PQ 15 O O (aD)$ PQ 16 O O (aD)$ Pl 17 O (UO O O (by omega)) aD$ Pl 18 O (PR Pu P6 O O (by omega)) aD$ qL 13 O (λ_ h=>Ps QR O O ((mt.ext h).get (i:=first+c) (by omega))) aD$ qL 19 O (λ_ h=>Ps QR O O ((mt.ext h).get (i:=first+root) (by omega))) aD$ Pl 20 O (PR Pu P6 O O (by omega)) aD$ Tt [21]$ qO 21$ PE (i:=21) O O (RQ P6 O O O (mt.ext aD).sl ((mt.ext aD).jlt (by omega))) ?_;rintro w7a ⟨gp,gq⟩;refine⟨trivial,?_⟩;have cN:=(mt.ext aD).set gp;refine OG 22 O (PR Pu P6 O O (by omega)) trivial$ qO 23$ PE (i:=23) O O (RQ P6 O O O cN.sl (cN.jlt (by omega))) ?_;rintro w7 ⟨iE,kB⟩;refine⟨trivial,?_⟩;have kC:=cN.set iE;have gt:Kp (λk=>k=g) w4.drew.drew w7:=aD.kp.trans (gq.trans kB);refine qE$ R6 O$ OV O$ Oz ((ih (c,Go.Sort.swp d4 (first+root) (first+c)) _ ⟨kC,(au.trans (hg.trans ev).kp).trans gt,cG,by dsimp only;omega⟩ (by dsimp only;omega)).qb)
    case ey=>
     refine Qf O (λh1=>?_)$ λh1=>?_
     ·refine R6 O$ PS O$ OV O ?_;rw[show((2*root+1:Nat):Int)+1=(Zj hi first root d4:Int) by unfold Zj;rw[qm,if_pos h1];omega];exact(aq _ _ ⟨rfl,rfl⟩).qb
     ·refine OD ?_;rw[show((2*root+1:Nat):Int)=(Zj hi first root d4:Int) by unfold Zj;rw[qm,if_neg (by rw[h1];decide)]];exact(aq _ _ ⟨rfl,rfl⟩).qb
   case gl=>
    rcases Nat.lt_or_ge (2*root+1+1) hi with hj|hj
    ·refine QV (λw'=>Ext w4 w') O$ OZ 0 O O (hg)$ OG 1 O (UO O O (by omega)) hg$ OZ 2 O O (hg)$ OG 3 O (ylt O O) hg$ TL$ OZ 4 O O (hg)$ OZ 5 O O (hg)$ OZ 6 O O (hg)$ OZ 7 O O (hg)$ OG 8 O (UO O O (by omega)) hg$ OG 9 O (PR Pu P6 O O (by omega)) hg$ OZ 11 O O (hg)$ OZ 12 O O (hg) ?_;refine OZ 13 O O (hg)$ OG 14 O (UO O O (by omega)) hg$ OG 15 O (UO O O (by omega)) hg$ OG 16 O (PR Pu P6 O O (by omega)) hg$ qT 10 O (λ_ hS=>Ps QR O O ((eu.ext hS).get (i:=first+(2*root+1)) (by omega))) hg$ qT 17 O (λ_ hS=>Ps QR O O ((eu.ext hS).get (i:=first+(2*root+1)+1) (by omega))) hg$ RT 18 O W7 O (S0 _ _ _) ?_;rintro _ w6 ⟨rfl,rfl⟩;refine⟨hg,?_⟩;refine OG 19 O (Uu O O) hg$ qE ?_;rw[show QD d4[first+(2*root+1)]! d4[first+(2*root+1)+1]! =sel by rw[<-qm,decide_eq_true hj,Bool.true_and]];exact(aY _ _ ⟨rfl,rfl⟩).qb
    ·refine QV (λw'=>Ext w4 w') O$ OZ 0 O O (hg)$ OG 1 O (UO O O (by omega)) hg$ OZ 2 O O (hg)$ OG 3 O (ylt O O) hg$ TD$ OZ 4 O O (hg)$ qJ 5 O (hg)$ qJ 6 O (hg)$ qJ 7 O (hg)$ qJ 8 O (hg)$ qJ 9 O (hg)$ qJ 10 O (hg)$ qJ 11 O (hg) ?_;refine qJ 12 O (hg)$ qJ 13 O (hg)$ qJ 14 O (hg)$ qJ 15 O (hg)$ qJ 16 O (hg)$ qJ 17 O (hg)$ qJ 18 O (hg)$ OG 19 O (U0 O O) hg$ qE ?_;have nW:sel=false:=by rw[<-qm,decide_eq_false (by omega),Bool.false_and]
     subst nW;exact(aY _ _ ⟨rfl,rfl⟩).qb
def zaq {w:World}{g n cap:Nat}{d:Array Nat}(h:SD w g n cap d)(a b:Nat)(jQ:a<b)(hb:b<=n)(hn:n<=65536):
  Pm prog 244 [.slice (some ⟨g,0,none⟩) n cap,I (a:Int),I (b:Int)] w λu w'=>u= .tuple #[]/\SD w' g n cap (Go.Sort.heapSort QD d a b)/\Kp (λk=>k=g) w w':=by
 refine py (e:=[(0,_),(1,_),(2,_)]) func244 O ntmps244 O O$ Pn O$ QS O$ QS O$ Pa O$ Ro O$ OV O$ An$ qN O ?_
 rw[show(b:Int)-(a:Int)=((b-a:Nat):Int) by omega]
 refine ON O$ Ro O ?_
 rw[show((b-a:Nat):Int)-1=((b-a-1:Nat):Int) by omega]
 refine qV (WY O O (by omega))$ OV O$ OE ?_
 rw[show((b-a-1:Nat):Int) / 2=(((b-a-1) / 2+1:Nat):Int)-1 by omega]
 have nU:Go.Sort.heapSort QD d a b=Go.Sort.heapPop QD a (b-a) (Go.Sort.heapBuild QD (b-a) a ((b-a-1) / 2+1) d):=rfl
 rw[nU]
 refine Rr (α:=Nat×Array Nat) (((b-a-1) / 2+1,d)) (λy=>[(0,.slice (some ⟨g,0,none⟩) n cap),(6,I (a:Int)),(7,I 0),(8,I ((b-a:Nat):Int)),(9,I ((y.1:Int)-1))]) (λy w'=>SD w' g n cap y.2/\Kp (λk=>k=g) w w'/\Go.Sort.heapBuild QD (b-a) a y.1 y.2=Go.Sort.heapBuild QD (b-a) a ((b-a-1) / 2+1) d/\y.1<=(b-a-1) / 2+1) (λy=>y.1) ?hI ?hround
 case hI=>exact⟨h,Kp.refl _ _,rfl,Nat.le_refl _⟩
 case hround=>
  rintro⟨k,d4⟩ w4 ⟨eu,au,cG,bG⟩ ih;dsimp only at eu au cG bG
  try dsimp only
  refine PK O$ U8 O$ OC$ OQ O (λh0=>?_)$ λh0=>?_
  ·obtain⟨k,rfl⟩:∃k',k=k'+1:=⟨k-1,by omega⟩;rw[show((k+1:Nat):Int)-1=(k:Int) by omega];refine OD$ QA$ OK O$ Pa O$ Pa O$ P5 zdS O (z4O eu k (b-a) a (by omega) (by omega) hn) ?_;rintro _ w5 ⟨rfl,aW,aj⟩;refine OC$ Oz$ R6 O$ Ro O$ OV O ?_;exact(ih (k,Go.Sort.siftDown QD (b-a) a k d4) _ ⟨aW,au.trans aj,cG,by dsimp only;omega⟩ (by dsimp only;omega)).qb
  ·have fY:k=0:=by omega
   subst fY;rw[<-cG];refine OO O$ Pn O$ Ro O$ OV O$ OE$ Rr (α:=Nat×Array Nat) ((b-a,d4)) (λy=>[(0,.slice (some ⟨g,0,none⟩) n cap),(6,I (a:Int)),(7,I 0),(10,I ((y.1:Int)-1))]) (λy w'=>SD w' g n cap y.2/\Kp (λk=>k=g) w w'/\Go.Sort.heapPop QD a y.1 y.2=Go.Sort.heapPop QD a (b-a) (Go.Sort.heapBuild QD (b-a) a 0 d4)/\y.1<=b-a) (λy=>y.1) ?hI ?hround
   case hI=>exact⟨eu,au,rfl,Nat.le_refl _⟩
   case hround=>
    rintro⟨k,d5⟩ w5 ⟨aW,aj,cd,bP⟩ ih2;dsimp only at aW aj cd bP
    try dsimp only
    refine PK O$ U8 O$ OC$ OQ O (λh1=>?_)$ λh1=>?_
    ·obtain⟨k,rfl⟩:∃k',k=k'+1:=⟨k-1,by omega⟩;rw[show((k+1:Nat):Int)-1=(k:Int) by omega];refine OD$ QA$ An ?_;have aD:=Ext.P4 w5;refine P9 [17,19] (λw'=>Ext w5 w') (by kernel_rfl) O$ PQ 0 O O (aD)$ PQ 1 O O (aD)$ Qe (i:=2) O (by kernel_rfl) O O (λ_=>Xu O) (aD)$ Qe (i:=3) O (by kernel_rfl) O O (λ_=>Xu O) (aD)$ Qe (i:=4) O (by kernel_rfl) O O (λ_=>Xu O) (aD)$ Qe (i:=5) O (by kernel_rfl) O O (λ_=>UO O O (by omega)) (aD)$ PQ 6 O O (aD)$ PQ 7 O O (aD)$ PQ 8 O O (aD)$ Pl 9 O (UO O O (by omega)) aD$ Pl 10 O (PR Pu P6 O O (by omega)) aD$ PQ 12 O O (aD)$ PQ 13 O O (aD) ?_;refine Pl 14 O (PR Pu P6 O O (by omega)) aD$ qL 11 O (λ_ h=>Ps QR O O ((aW.ext h).get (i:=a+k) (by omega))) aD$ qL 15 O (λ_ h=>Ps QR O O ((aW.ext h).get (i:=a) (by omega))) aD$ Pl 16 O (PR Pu P6 O O (by omega)) aD$ Tt [17]$ qO 17$ PE (i:=17) O O (RQ P6 O O O (aW.ext aD).sl ((aW.ext aD).jlt (by omega))) ?_;rintro w7a ⟨gp,gq⟩;refine⟨trivial,?_⟩;have cN:=(aW.ext aD).set gp;refine OG 18 O (PR Pu P6 O O (by omega)) trivial$ qO 19$ PE (i:=19) O O (RQ P6 O O O cN.sl (cN.jlt (by omega))) ?_;rintro w7 ⟨iE,kB⟩;refine⟨trivial,?_⟩;have kC:=cN.set iE;have gt:Kp (λk=>k=g) w5 w7:=aD.kp.trans (gq.trans kB);refine qE$ OK O$ Pa O$ Pa O$ P5 zdS O (z4O kC 0 k a (by omega) (by omega) hn) ?_;rintro _ w8 ⟨rfl,JO,aL⟩;refine OC$ Oz$ R6 O$ Ro O$ OV O ?_;exact(ih2 (k,Go.Sort.siftDown QD k a 0 (Go.Sort.swp d5 a (a+k))) _ ⟨JO,(aj.trans gt).trans aL,cd,by dsimp only;omega⟩ (by dsimp only;omega)).qb
    ·have fY:k=0:=by omega
     subst fY;rw[<-cd];refine OO O$ Qa func244 O ?_;exact⟨_,rfl,rfl,aW,aj⟩
def z4D {w:World}{g n cap:Nat}{d:Array Nat}(h:SD w g n cap d)(a b:Nat)(jQ:a<b)(hb:b<=n)(hn:n<=65536):
  Pm prog 247 [.slice (some ⟨g,0,none⟩) n cap,I (a:Int),I (b:Int)] w λu w'=>u= .tuple #[]/\SD w' g n cap (Go.Sort.reverseRange d a b)/\Kp (λk=>k=g) w w':=by
 refine py (e:=[(0,_),(1,_),(2,_)]) func247 O ntmps247 O O$ Pn O$ QW O$ Ro O$ OV O$ OE ?_
 rw[show(b:Int)-1=((b-1:Nat):Int) by omega]
 refine Rr (α:=Nat×Nat×Array Nat) ((a,b-1,d)) (λy=>[(0,.slice (some ⟨g,0,none⟩) n cap),(6,I (y.1:Int)),(7,I (y.2.1:Int))]) (λy w'=>SD w' g n cap y.2.2/\Kp (λk=>k=g) w w'/\Go.Sort.reverseLoop y.1 y.2.1 y.2.2=Go.Sort.reverseRange d a b/\y.2.1<n) (λy=>y.2.1-y.1) ?hI ?hround
 case hI=>exact⟨h,Kp.refl _ _,rfl,by dsimp only;omega⟩
 case hround=>
  rintro⟨i,j,d4⟩ w4 ⟨eu,au,cG,bG⟩ ih;dsimp only at eu au cG bG
  try dsimp only
  refine An$ Qt O$ Qw O$ OC$ OQ O (λh0=>?_)$ λh0=>?_
  ·rw[Go.Sort.reverseLoop,if_pos (by omega)] at cG;refine OD$ OE$ An ?_;have aD:=Ext.P4 w4;refine P9 [13,15] (λw'=>Ext w4 w') (by kernel_rfl) O$ PQ 0 O O (aD)$ PQ 1 O O (aD)$ Qe (i:=2) O (by kernel_rfl) O O (λ_=>Xu O) (aD)$ Qe (i:=3) O (by kernel_rfl) O O (λ_=>Xu O) (aD)$ PQ 4 O O (aD)$ PQ 5 O O (aD)$ Pl 6 O (PR Pu P6 O O (by omega)) aD$ PQ 8 O O (aD)$ PQ 9 O O (aD)$ Pl 10 O (PR Pu P6 O O (by omega)) aD$ qL 7 O (λ_ h=>Ps QR O O ((eu.ext h).get (i:=j) (by omega))) aD$ qL 11 O (λ_ h=>Ps QR O O ((eu.ext h).get (i:=i) (by omega))) aD$ Pl 12 O (PR Pu P6 O O (by omega)) aD ?_;refine Tt [13]$ qO 13$ PE (i:=13) O O (RQ P6 O O O (eu.ext aD).sl ((eu.ext aD).jlt (by omega))) ?_;rintro w7a ⟨gp,gq⟩;refine⟨trivial,?_⟩;have cN:=(eu.ext aD).set gp;refine OG 14 O (PR Pu P6 O O (by omega)) trivial$ qO 15$ PE (i:=15) O O (RQ P6 O O O cN.sl (cN.jlt (by omega))) ?_;rintro w7 ⟨iE,kB⟩;refine⟨trivial,?_⟩;have kC:=cN.set iE;have gt:Kp (λk=>k=g) w4 w7:=aD.kp.trans (gq.trans kB);refine qE$ Pn O$ PS O$ OV O$ R6 O$ Ro O$ OV O$ Oz ?_;rw[show(j:Int)-1=((j-1:Nat):Int) by omega];exact(ih (i+1,j-1,Go.Sort.swp d4 i j) _ ⟨kC,au.trans gt,cG,by dsimp only;omega⟩ (by dsimp only;omega)).qb
  ·rw[Go.Sort.reverseLoop,if_neg (by omega)] at cG;refine OO O$ Qa func247 O ?_;exact⟨_,rfl,rfl,cG▸eu,au⟩
section
variable (p:Nat->Bool)(d:Array Nat)(i j:Nat)
theorem Zb (h:i<=j)(hp:p d[i]! =true):Go.Sort.scanUp p d j i=Go.Sort.scanUp p d j (i+1):=by
 conv=>lhs;rw[Go.Sort.scanUp]
 rw[if_pos]
 rw[Bool.and_eq_true];exact⟨by simpa using h,hp⟩
theorem T2 (h:j<i\/p d[i]! =false):Go.Sort.scanUp p d j i=i:=by
 rw[Go.Sort.scanUp,if_neg]
 intro hc
 rw[Bool.and_eq_true] at hc
 rcases h with h| h
 ·have:=of_decide_eq_true hc.1;omega
 ·rw[h] at hc;cases hc.2
theorem Wv (h:i<=j)(hp:p d[j]! =true)(hj:1<=j):Go.Sort.scanDown p d i j=Go.Sort.scanDown p d i (j-1):=by
 obtain⟨k,rfl⟩:∃k,j=k+1:=⟨j-1,by omega⟩
 rw[Go.Sort.scanDown,if_pos]
 ·rfl
 ·rw[Bool.and_eq_true];exact⟨by simpa using h,hp⟩
theorem S4 (h:j<i\/p d[j]! =false):Go.Sort.scanDown p d i j=j:=by
 cases j with
 |zero=>rw[Go.Sort.scanDown]
 | succ k =>
   rw[Go.Sort.scanDown,if_neg];intro hc;rw[Bool.and_eq_true] at hc;rcases h with h| h
   ·have:=of_decide_eq_true hc.1;omega
   ·rw[h] at hc;cases hc.2
end
def Xf (p:Nat->Bool)(d:Array Nat)(j:Nat):∀i:Nat,Go.Sort.scanUp p d j i<=max i (j+1):=λi=>by
 rw[Go.Sort.scanUp]
 split
 ·rename_i h
  rw[Bool.and_eq_true] at h;have h1:=of_decide_eq_true h.1;have:=Xf p d j (i+1);omega
 ·omega
 termination_by i=>j+1-i
def zao {w:World}{g n cap:Nat}{d:Array Nat}(h:SD w g n cap d)(a b pv:Nat)(CI:a<=pv)(se:pv<b)(hb:b<=n)(hn:n<=65536):
  Pm prog 251 [.slice (some ⟨g,0,none⟩) n cap,I (a:Int),I (b:Int),I (pv:Int)] w λu w'=>u= .tuple #[I ((Go.Sort.partition QD d a b pv).1:Int),.bool (Go.Sort.partition QD d a b pv).2.1]/\SD w' g n cap (Go.Sort.partition QD d a b pv).2.2/\Kp (λk=>k=g) w w':=by
 refine py (e:=[(0,_),(1,_),(2,_),(3,_)]) func251 O ntmps251 O O$ qN O$ Qm O$ An ?_
 have aD:=Ext.P4 w
 refine P9 [13,15] (λw'=>Ext w w') (by kernel_rfl) O$ PQ 0 O O (aD)$ PQ 1 O O (aD)$ Qe (i:=2) O (by kernel_rfl) O O (λ_=>Xu O) (aD)$ Qe (i:=3) O (by kernel_rfl) O O (λ_=>Xu O) (aD)$ PQ 4 O O (aD)$ PQ 5 O O (aD)$ Pl 6 O (PR Pu P6 O O (by omega)) aD$ PQ 8 O O (aD)$ PQ 9 O O (aD)$ Pl 10 O (PR Pu P6 O O (by omega)) aD$ qL 7 O (λ_ hS=>Ps QR O O ((h.ext hS).get (i:=pv) (by omega))) aD$ qL 11 O (λ_ hS=>Ps QR O O ((h.ext hS).get (i:=a) (by omega))) aD$ Pl 12 O (PR Pu P6 O O (by omega)) aD ?_
 refine Tt [13]$ qO 13$ PE (i:=13) O O (RQ P6 O O O (h.ext aD).sl ((h.ext aD).jlt (by omega))) ?_
 rintro w1a ⟨nX,nY⟩
 refine⟨trivial,?_⟩
 have gu:=(h.ext aD).set nX
 refine OG 14 O (PR Pu P6 O O (by omega)) trivial$ qO 15$ PE (i:=15) O O (RQ P6 O O O gu.sl (gu.jlt (by omega))) ?_
 rintro w1 ⟨tR,tS⟩
 refine⟨trivial,?_⟩
 have iF:=gu.set tR
 have lK:Kp (λk=>k=g) w w1:=aD.kp.trans (nY.trans tS)
 refine qE$ Pn O$ PS O$ ON O$ Ro O$ Qm O$ Po.qb (e:=[(0,_),(1,_),(8,_),(9,_),(10,_),(11,_)]) ?_
 refine QA ?_
 unfold Go.Sort.partition
 dsimp only
 replace iF:SD w1 g n cap (Go.Sort.swp d a pv):=iF
 generalize Go.Sort.swp d a pv=D at iF
 rw[show(a:Int)+1=((a+1:Nat):Int) by omega,show(b:Int)-1=((b-1:Nat):Int) by omega]
 refine Sf (λe' w'=>e'=[(0,.slice (some ⟨g,0,none⟩) n cap),(1,I (a:Int)),(10,I (((Go.Sort.scanUp (λx=>QD x D[a]!) D (b-1) (a+1)):Nat):Int)),(11,I (((b-1):Nat):Int))]/\SD w' g n cap D/\Kp (λk=>k=g) w1 w') ?pI$ λpI=>?CR
 case pI =>
  rintro e' wA ⟨rfl,JP,pI⟩;have tG:=Go.Sort.scanUp_ge (λx=>QD x D[a]!) D (b-1) (a+1);have kD:=Xf (λx=>QD x D[a]!) D (b-1) (a+1)
  generalize Go.Sort.scanUp (λx=>QD x D[a]!) D (b-1) (a+1)=i1 at tG kD
  refine QA$ Sf (λe' w'=>e'=[(0,.slice (some ⟨g,0,none⟩) n cap),(1,I (a:Int)),(10,I ((i1:Nat):Int)),(11,I (((Go.Sort.scanDown (λx=>!QD x D[a]!) D i1 (b-1)):Nat):Int))]/\SD w' g n cap D/\Kp (λk=>k=g) wA w') ?jq$ λjq=>?CQ
  case jq =>
   rintro e' wB ⟨rfl,pJ,jq⟩;have JQ:=Go.Sort.scanDown_le (λx=>!QD x D[a]!) D i1 (b-1)
   generalize Go.Sort.scanDown (λx=>!QD x D[a]!) D i1 (b-1)=j1 at JQ
   refine An$ Qt O$ QB O$ OC$ OQ O (λh4=>?_)$ λh4=>?_
   ·rw[if_pos (by omega)];refine An ?_;have aa:=Ext.P4 wB;refine P9 [13,15] (λw'=>Ext wB w') (by kernel_rfl) O$ PQ 0 O O (aa)$ PQ 1 O O (aa)$ Qe (i:=2) O (by kernel_rfl) O O (λ_=>Xu O) (aa)$ Qe (i:=3) O (by kernel_rfl) O O (λ_=>Xu O) (aa)$ PQ 4 O O (aa)$ PQ 5 O O (aa)$ Pl 6 O (PR Pu P6 O O (by omega)) aa$ PQ 8 O O (aa)$ PQ 9 O O (aa)$ Pl 10 O (PR Pu P6 O O (by omega)) aa$ qL 7 O (λ_ h=>Ps QR O O ((pJ.ext h).get (i:=a) (by omega))) aa$ qL 11 O (λ_ h=>Ps QR O O ((pJ.ext h).get (i:=j1) (by omega))) aa$ Pl 12 O (PR Pu P6 O O (by omega)) aa ?_;refine Tt [13]$ qO 13$ PE (i:=13) O O (RQ P6 O O O (pJ.ext aa).sl ((pJ.ext aa).jlt (by omega))) ?_;rintro w2a ⟨xw,xy⟩;refine⟨trivial,?_⟩;have nZ:=(pJ.ext aa).set xw;refine OG 14 O (PR Pu P6 O O (by omega)) trivial$ qO 15$ PE (i:=15) O O (RQ P6 O O O nZ.sl (nZ.jlt (by omega))) ?_;rintro w2 ⟨CJ,CK⟩;refine⟨trivial,?_⟩;have CL:=nZ.set CJ;have xz:Kp (λk=>k=g) wB w2:=aa.kp.trans (xy.trans CK);refine qE$ Pn O$ Qm O$ OB func251 O ?_;exact⟨_,rfl,rfl,CL,(lK.trans (pI.trans jq)).trans xz⟩
   ·rw [if_neg (by omega)]; refine OD (An ?_); have ag := Ext.P4 wB; refine P9 [13,15] (λw' => Ext wB w') (by kernel_rfl) O (PQ 0 O O (ag) (PQ 1 O O (ag) (Qe (i := 2) O (by kernel_rfl) O O (λ_ => Xu O) (ag) (Qe (i := 3) O (by kernel_rfl) O O (λ_ => Xu O) (ag) (PQ 4 O O (ag) (PQ 5 O O (ag) (Pl 6 O (PR Pu P6 O O (by omega)) ag (PQ 8 O O (ag) (PQ 9 O O (ag) (Pl 10 O (PR Pu P6 O O (by omega)) ag (qL 7 O (λ_ h=>Ps QR O O ((pJ.ext h).get (i := j1) (by omega))) ag (qL 11 O (λ_ h=>Ps QR O O ((pJ.ext h).get (i := i1) (by omega))) ag (Pl 12 O (PR Pu P6 O O (by omega)) ag ?_))))))))))))); refine Tt [13] (qO 13 (PE (i := 13) O O (RQ P6 O O O (pJ.ext ag).sl ((pJ.ext ag).jlt (by omega))) ?_)); rintro w3a ⟨xA, xB⟩; refine ⟨trivial, ?_⟩; have o2 := (pJ.ext ag).set xA; refine OG 14 O (PR Pu P6 O O (by omega)) trivial (qO 15 (PE (i := 15) O O (RQ P6 O O O o2.sl (o2.jlt (by omega))) ?_)); rintro w3 ⟨CM, CN⟩; refine ⟨trivial, ?_⟩; have CO := o2.set CM; have xC : Kp (λk => k = g) wB w3 := ag.kp.trans (xB.trans CN); refine qE (Pn O (PS O (QW O (Ro O (OV O (Po.qb (e := [(0, _), (1, _), (10, _), (11, _)]) ?_)))))); refine QA ?_; rw [show (j1 : Int) - 1 = ((j1 - 1 : Nat) : Int) by omega]; refine Rr (α := Nat × Nat × Array Nat) ((i1 + 1, j1 - 1, Go.Sort.swp D i1 j1)) (λy => [(0, .slice (some ⟨g, 0, none⟩) n cap), (1, I (a : Int)), (10, I (y.1 : Int)), (11, I (y.2.1 : Int))]) (λy w' => SD w' g n cap y.2.2 /\ Kp (λk => k = g) w3 w' /\ Go.Sort.partLoop QD a y.1 y.2.1 y.2.2 = Go.Sort.partLoop QD a (i1 + 1) (j1 - 1) (Go.Sort.swp D i1 j1) /\ (a < y.1 /\ y.1 <= n /\ y.2.1 < n)) (λy => y.2.1 + 1 - y.1) ?hI ?hround
    case hI=>exact⟨CO,Kp.refl _ _,rfl,by dsimp only;omega⟩
    case hround =>
     rintro⟨i,j,d4⟩ w4 ⟨eu,au,cG,bG⟩ ih;dsimp only at eu au cG bG;rw[Go.Sort.partLoop_eq] at cG
     try dsimp only
     refine OE$ QA$ Sf (λe' w'=>e'=[(0,.slice (some ⟨g,0,none⟩) n cap),(1,I (a:Int)),(10,I (((Go.Sort.scanUp (λx=>QD x d4[a]!) d4 j (i)):Nat):Int)),(11,I ((j:Nat):Int))]/\SD w' g n cap d4/\Kp (λk=>k=g) w4 w') ?jV$ λjV=>?tU
     case jV=>
      rintro e' wC ⟨rfl,CP,jV⟩;have dT:=Go.Sort.scanUp_ge (λx=>QD x d4[a]!) d4 j i;have lD:=Xf (λx=>QD x d4[a]!) d4 j i
      generalize Go.Sort.scanUp (λx=>QD x d4[a]!) d4 j i=i2 at cG dT lD
      refine QA$ Sf (λe' w'=>e'=[(0,.slice (some ⟨g,0,none⟩) n cap),(1,I (a:Int)),(10,I ((i2:Nat):Int)),(11,I (((Go.Sort.scanDown (λx=>!QD x d4[a]!) d4 i2 (j)):Nat):Int))]/\SD w' g n cap d4/\Kp (λk=>k=g) wC w') ?fR$ λfR=>?tT
      case fR=>
       rintro e' wD ⟨rfl,jr,fR⟩;have lJ:=Go.Sort.scanDown_le (λx=>!QD x d4[a]!) d4 i2 j
       generalize Go.Sort.scanDown (λx=>!QD x d4[a]!) d4 i2 j=j2 at cG lJ
       refine An$ Qt O$ QB O$ OC$ OQ O (λh5=>?_)$ λh5=>?_
       ·rw[if_pos (by omega)] at cG;refine OO O$ An ?_;rw[<-cG];have pK:=((lK.trans (pI.trans jq)).trans xC).trans (au.trans (jV.trans fR));have aP:=Ext.P4 wD;refine P9 [13,15] (λw'=>Ext wD w') (by kernel_rfl) O$ PQ 0 O O (aP)$ PQ 1 O O (aP)$ Qe (i:=2) O (by kernel_rfl) O O (λ_=>Xu O) (aP)$ Qe (i:=3) O (by kernel_rfl) O O (λ_=>Xu O) (aP)$ PQ 4 O O (aP)$ PQ 5 O O (aP)$ Pl 6 O (PR Pu P6 O O (by omega)) aP$ PQ 8 O O (aP)$ PQ 9 O O (aP)$ Pl 10 O (PR Pu P6 O O (by omega)) aP$ qL 7 O (λ_ h=>Ps QR O O ((jr.ext h).get (i:=a) (by omega))) aP$ qL 11 O (λ_ h=>Ps QR O O ((jr.ext h).get (i:=j2) (by omega))) aP$ Pl 12 O (PR Pu P6 O O (by omega)) aP ?_;refine Tt [13]$ qO 13$ PE (i:=13) O O (RQ P6 O O O (jr.ext aP).sl ((jr.ext aP).jlt (by omega))) ?_;rintro w8a ⟨gx,gy⟩;refine⟨trivial,?_⟩;have cO:=(jr.ext aP).set gx;refine OG 14 O (PR Pu P6 O O (by omega)) trivial$ qO 15$ PE (i:=15) O O (RQ P6 O O O cO.sl (cO.jlt (by omega))) ?_;rintro w8 ⟨kE,kF⟩;refine⟨trivial,?_⟩;have kG:=cO.set kE;have fI:Kp (λk=>k=g) wD w8:=aP.kp.trans (gy.trans kF);refine qE$ Pn O$ Qm O$ OB func251 O ?_;exact⟨_,rfl,rfl,kG,pK.trans fI⟩
       ·rw[if_neg (by omega)] at cG;refine OD$ An ?_;have aP:=Ext.P4 wD;refine P9 [13,15] (λw'=>Ext wD w') (by kernel_rfl) O$ PQ 0 O O (aP)$ PQ 1 O O (aP)$ Qe (i:=2) O (by kernel_rfl) O O (λ_=>Xu O) (aP)$ Qe (i:=3) O (by kernel_rfl) O O (λ_=>Xu O) (aP)$ PQ 4 O O (aP)$ PQ 5 O O (aP)$ Pl 6 O (PR Pu P6 O O (by omega)) aP$ PQ 8 O O (aP)$ PQ 9 O O (aP)$ Pl 10 O (PR Pu P6 O O (by omega)) aP$ qL 7 O (λ_ h=>Ps QR O O ((jr.ext h).get (i:=j2) (by omega))) aP$ qL 11 O (λ_ h=>Ps QR O O ((jr.ext h).get (i:=i2) (by omega))) aP$ Pl 12 O (PR Pu P6 O O (by omega)) aP ?_;refine Tt [13]$ qO 13$ PE (i:=13) O O (RQ P6 O O O (jr.ext aP).sl ((jr.ext aP).jlt (by omega))) ?_;rintro w8a ⟨gx,gy⟩;refine⟨trivial,?_⟩;have cO:=(jr.ext aP).set gx;refine OG 14 O (PR Pu P6 O O (by omega)) trivial$ qO 15$ PE (i:=15) O O (RQ P6 O O O cO.sl (cO.jlt (by omega))) ?_;rintro w8 ⟨kE,kF⟩;refine⟨trivial,?_⟩;have kG:=cO.set kE;have fI:Kp (λk=>k=g) wD w8:=aP.kp.trans (gy.trans kF);refine qE$ Pn O$ PS O$ OV O$ R6 O$ Ro O$ OV O$ Oz ?_;rw[show(j2:Int)-1=((j2-1:Nat):Int) by omega];exact(ih (i2+1,j2-1,Go.Sort.swp d4 i2 j2) _ ⟨kG,(au.trans (jV.trans fR)).trans fI,cG,by dsimp only;omega⟩ (by dsimp only;omega)).qb
      case tT=>
       refine Rr (α:=Nat) (j) (λr=>[(0,.slice (some ⟨g,0,none⟩) n cap),(1,I (a:Int)),(10,I ((i2:Nat):Int)),(11,I ((r:Nat):Int))]) (λr w'=>SD w' g n cap d4/\Kp (λk=>k=g) wC w'/\Go.Sort.scanDown (λx=>!QD x d4[a]!) d4 i2 r=Go.Sort.scanDown (λx=>!QD x d4[a]!) d4 i2 (j)/\r<n) (λr=>r) ?hI ?hround
       case hI=>exact⟨CP,Kp.refl _ _,rfl,by omega⟩
       case hround=>
        rintro r w5 ⟨aW,aj,cd,bP⟩ ih
        try dsimp only
        have hg:=Ext.P4 w5;rcases Nat.lt_or_ge r (i2) with hj|hj
        ·refine An$ An$ QV (λw'=>Ext w5 w') O$ OZ 0 O O (hg)$ OZ 1 O O (hg)$ OG 2 O (Z4 O O) hg$ TD$ OZ 3 O O (hg)$ qJ 4 O (hg)$ qJ 5 O (hg)$ qJ 6 O (hg)$ qJ 7 O (hg)$ qJ 8 O (hg)$ qJ 9 O (hg) ?_;refine qJ 10 O (hg)$ qJ 11 O (hg)$ qJ 12 O (hg)$ qJ 13 O (hg)$ OG 14 O (U0 O O) hg$ qE$ OL O$ OO O ?_;rw[S4 _ _ _ _ (.inl hj)] at cd;subst cd;exact(fR _ _ ⟨rfl,aW.ext hg,aj.trans hg.kp⟩).qb
        ·refine An$ An$ QV (λw'=>Ext w5 w') O$ OZ 0 O O (hg)$ OZ 1 O O (hg)$ OG 2 O (Z4 O O) hg$ TL$ OZ 3 O O (hg)$ OZ 4 O O (hg)$ OZ 5 O O (hg)$ OG 6 O (PR Pu P6 O O (by omega)) hg$ OZ 8 O O (hg)$ OZ 9 O O (hg)$ OG 10 O (PR Pu P6 O O (by omega)) hg ?_;refine qT 7 O (λ_ h=>Ps QR O O ((aW.ext h).get (i:=r) (by omega))) hg$ qT 11 O (λ_ h=>Ps QR O O ((aW.ext h).get (i:=a) (by omega))) hg$ RT 12 O W7 O (S0 _ _ _) ?_;rintro _ w6 ⟨rfl,rfl⟩;refine⟨hg,?_⟩;refine OG 13 O ((z9r O)) hg$ OG 14 O (Uu O O) hg$ qE$ Qf O (λh1=>?_)$ λh1=>?_
         ·rw[Wv _ _ _ _ hj (by simpa[QD] using h1) (by omega)] at cd;refine OD$ OE$ R6 O$ Ro O$ OV O$ Oz ?_;rw[show(r:Int)-1=((r-1:Nat):Int) by omega];exact(ih (r-1) _ ⟨aW.ext hg,aj.trans hg.kp,cd,by omega⟩ (by omega)).qb
         ·rw[S4 _ _ _ _ (.inr (by simpa[QD] using h1))] at cd;refine OO O ?_;subst cd;exact(fR _ _ ⟨rfl,aW.ext hg,aj.trans hg.kp⟩).qb
     case tU=>
      refine Rr (α:=Nat) (i) (λr=>[(0,.slice (some ⟨g,0,none⟩) n cap),(1,I (a:Int)),(10,I ((r:Nat):Int)),(11,I ((j:Nat):Int))]) (λr w'=>SD w' g n cap d4/\Kp (λk=>k=g) w4 w'/\Go.Sort.scanUp (λx=>QD x d4[a]!) d4 j r=Go.Sort.scanUp (λx=>QD x d4[a]!) d4 j (i)/\i<=r/\r<=n+1) (λr=>j+1-r) ?hI ?hround
      case hI=>exact⟨eu,Kp.refl _ _,rfl,Nat.le_refl _,by omega⟩
      case hround=>
       rintro r w5 ⟨aW,aj,cd,bP⟩ ih
       try dsimp only
       have hg:=Ext.P4 w5;rcases Nat.lt_or_ge (j) r with hj|hj
       ·refine An$ An$ QV (λw'=>Ext w5 w') O$ OZ 0 O O (hg)$ OZ 1 O O (hg)$ OG 2 O (Z4 O O) hg$ TD$ OZ 3 O O (hg)$ qJ 4 O (hg)$ qJ 5 O (hg)$ qJ 6 O (hg)$ qJ 7 O (hg)$ qJ 8 O (hg)$ qJ 9 O (hg) ?_;refine qJ 10 O (hg)$ qJ 11 O (hg)$ qJ 12 O (hg)$ OG 13 O (U0 O O) hg$ qE$ OL O$ OO O ?_;rw[T2 _ _ _ _ (.inl hj)] at cd;subst cd;exact(jV _ _ ⟨rfl,aW.ext hg,aj.trans hg.kp⟩).qb
       ·refine An$ An$ QV (λw'=>Ext w5 w') O$ OZ 0 O O (hg)$ OZ 1 O O (hg)$ OG 2 O (Z4 O O) hg$ TL$ OZ 3 O O (hg)$ OZ 4 O O (hg)$ OZ 5 O O (hg)$ OG 6 O (PR Pu P6 O O (by omega)) hg$ OZ 8 O O (hg)$ OZ 9 O O (hg)$ OG 10 O (PR Pu P6 O O (by omega)) hg ?_;refine qT 7 O (λ_ h=>Ps QR O O ((aW.ext h).get (i:=r) (by omega))) hg$ qT 11 O (λ_ h=>Ps QR O O ((aW.ext h).get (i:=a) (by omega))) hg$ RT 12 O W7 O (S0 _ _ _) ?_;rintro _ w6 ⟨rfl,rfl⟩;refine⟨hg,?_⟩;refine OG 13 O (Uu O O) hg$ qE$ Qf O (λh1=>?_)$ λh1=>?_
        ·rw[Zb _ _ _ _ hj (by simpa[QD] using h1)] at cd;refine OD$ OE$ R6 O$ PS O$ OV O$ Oz ?_;exact(ih (r+1) _ ⟨aW.ext hg,aj.trans hg.kp,cd,by omega,by omega⟩ (by omega)).qb
        ·rw[T2 _ _ _ _ (.inr (by simpa[QD] using h1))] at cd;refine OO O ?_;subst cd;exact(jV _ _ ⟨rfl,aW.ext hg,aj.trans hg.kp⟩).qb
  case CQ=>
   refine Rr (α:=Nat) (b-1) (λr=>[(0,.slice (some ⟨g,0,none⟩) n cap),(1,I (a:Int)),(10,I ((i1:Nat):Int)),(11,I ((r:Nat):Int))]) (λr w'=>SD w' g n cap D/\Kp (λk=>k=g) wA w'/\Go.Sort.scanDown (λx=>!QD x D[a]!) D i1 r=Go.Sort.scanDown (λx=>!QD x D[a]!) D i1 (b-1)/\r<n) (λr=>r) ?hI ?hround
   case hI=>exact⟨JP,Kp.refl _ _,rfl,by omega⟩
   case hround=>
    rintro r w5 ⟨aW,aj,cd,bP⟩ ih
    try dsimp only
    have hg:=Ext.P4 w5;rcases Nat.lt_or_ge r (i1) with hj|hj
    ·refine An$ An$ QV (λw'=>Ext w5 w') O$ OZ 0 O O (hg)$ OZ 1 O O (hg)$ OG 2 O (Z4 O O) hg$ TD$ OZ 3 O O (hg)$ qJ 4 O (hg)$ qJ 5 O (hg)$ qJ 6 O (hg)$ qJ 7 O (hg)$ qJ 8 O (hg)$ qJ 9 O (hg) ?_;refine qJ 10 O (hg)$ qJ 11 O (hg)$ qJ 12 O (hg)$ qJ 13 O (hg)$ OG 14 O (U0 O O) hg$ qE$ OL O$ OO O ?_;rw[S4 _ _ _ _ (.inl hj)] at cd;subst cd;exact(jq _ _ ⟨rfl,aW.ext hg,aj.trans hg.kp⟩).qb
    ·refine An$ An$ QV (λw'=>Ext w5 w') O$ OZ 0 O O (hg)$ OZ 1 O O (hg)$ OG 2 O (Z4 O O) hg$ TL$ OZ 3 O O (hg)$ OZ 4 O O (hg)$ OZ 5 O O (hg)$ OG 6 O (PR Pu P6 O O (by omega)) hg$ OZ 8 O O (hg)$ OZ 9 O O (hg)$ OG 10 O (PR Pu P6 O O (by omega)) hg ?_;refine qT 7 O (λ_ h=>Ps QR O O ((aW.ext h).get (i:=r) (by omega))) hg$ qT 11 O (λ_ h=>Ps QR O O ((aW.ext h).get (i:=a) (by omega))) hg$ RT 12 O W7 O (S0 _ _ _) ?_;rintro _ w6 ⟨rfl,rfl⟩;refine⟨hg,?_⟩;refine OG 13 O ((z9r O)) hg$ OG 14 O (Uu O O) hg$ qE$ Qf O (λh1=>?_)$ λh1=>?_
     ·rw[Wv _ _ _ _ hj (by simpa[QD] using h1) (by omega)] at cd;refine OD$ OE$ R6 O$ Ro O$ OV O$ Oz ?_;rw[show(r:Int)-1=((r-1:Nat):Int) by omega];exact(ih (r-1) _ ⟨aW.ext hg,aj.trans hg.kp,cd,by omega⟩ (by omega)).qb
     ·rw[S4 _ _ _ _ (.inr (by simpa[QD] using h1))] at cd;refine OO O ?_;subst cd;exact(jq _ _ ⟨rfl,aW.ext hg,aj.trans hg.kp⟩).qb
 case CR=>
  refine Rr (α:=Nat) (a+1) (λr=>[(0,.slice (some ⟨g,0,none⟩) n cap),(1,I (a:Int)),(10,I ((r:Nat):Int)),(11,I (((b-1):Nat):Int))]) (λr w'=>SD w' g n cap D/\Kp (λk=>k=g) w1 w'/\Go.Sort.scanUp (λx=>QD x D[a]!) D (b-1) r=Go.Sort.scanUp (λx=>QD x D[a]!) D (b-1) (a+1)/\a+1<=r/\r<=n+1) (λr=>(b-1)+1-r) ?hI ?hround
  case hI=>exact⟨iF,Kp.refl _ _,rfl,Nat.le_refl _,by omega⟩
  case hround=>
   rintro r w5 ⟨aW,aj,cd,bP⟩ ih
   try dsimp only
   have hg:=Ext.P4 w5;rcases Nat.lt_or_ge ((b-1)) r with hj|hj
   ·refine An$ An$ QV (λw'=>Ext w5 w') O$ OZ 0 O O (hg)$ OZ 1 O O (hg)$ OG 2 O (Z4 O O) hg$ TD$ OZ 3 O O (hg)$ qJ 4 O (hg)$ qJ 5 O (hg)$ qJ 6 O (hg)$ qJ 7 O (hg)$ qJ 8 O (hg)$ qJ 9 O (hg) ?_;refine qJ 10 O (hg)$ qJ 11 O (hg)$ qJ 12 O (hg)$ OG 13 O (U0 O O) hg$ qE$ OL O$ OO O ?_;rw[T2 _ _ _ _ (.inl hj)] at cd;subst cd;exact(pI _ _ ⟨rfl,aW.ext hg,aj.trans hg.kp⟩).qb
   ·refine An$ An$ QV (λw'=>Ext w5 w') O$ OZ 0 O O (hg)$ OZ 1 O O (hg)$ OG 2 O (Z4 O O) hg$ TL$ OZ 3 O O (hg)$ OZ 4 O O (hg)$ OZ 5 O O (hg)$ OG 6 O (PR Pu P6 O O (by omega)) hg$ OZ 8 O O (hg)$ OZ 9 O O (hg)$ OG 10 O (PR Pu P6 O O (by omega)) hg ?_;refine qT 7 O (λ_ h=>Ps QR O O ((aW.ext h).get (i:=r) (by omega))) hg$ qT 11 O (λ_ h=>Ps QR O O ((aW.ext h).get (i:=a) (by omega))) hg$ RT 12 O W7 O (S0 _ _ _) ?_;rintro _ w6 ⟨rfl,rfl⟩;refine⟨hg,?_⟩;refine OG 13 O (Uu O O) hg$ qE$ Qf O (λh1=>?_)$ λh1=>?_
    ·rw[Zb _ _ _ _ hj (by simpa[QD] using h1)] at cd;refine OD$ OE$ R6 O$ PS O$ OV O$ Oz ?_;exact(ih (r+1) _ ⟨aW.ext hg,aj.trans hg.kp,cd,by omega,by omega⟩ (by omega)).qb
    ·rw[T2 _ _ _ _ (.inr (by simpa[QD] using h1))] at cd;refine OO O ?_;subst cd;exact(pI _ _ ⟨rfl,aW.ext hg,aj.trans hg.kp⟩).qb
def zd5 {w:World}{g n cap:Nat}{d:Array Nat}(h:SD w g n cap d)(a b pv:Nat)(CI:a<=pv)(se:pv<b)(hb:b<=n)(hn:n<=65536):
  Pm prog 250 [.slice (some ⟨g,0,none⟩) n cap,I (a:Int),I (b:Int),I (pv:Int)] w λu w'=>u=I ((Go.Sort.partitionEqual QD d a b pv).1:Int)/\SD w' g n cap (Go.Sort.partitionEqual QD d a b pv).2/\Kp (λk=>k=g) w w':=by
 refine py (e:=[(0,_),(1,_),(2,_),(3,_)]) func250 O ntmps250 O O$ Qx O$ An ?_
 have aD:=Ext.P4 w
 refine P9 [13,15] (λw'=>Ext w w') (by kernel_rfl) O$ PQ 0 O O (aD)$ PQ 1 O O (aD)$ Qe (i:=2) O (by kernel_rfl) O O (λ_=>Xu O) (aD)$ Qe (i:=3) O (by kernel_rfl) O O (λ_=>Xu O) (aD)$ PQ 4 O O (aD)$ PQ 5 O O (aD)$ Pl 6 O (PR Pu P6 O O (by omega)) aD$ PQ 8 O O (aD)$ PQ 9 O O (aD)$ Pl 10 O (PR Pu P6 O O (by omega)) aD$ qL 7 O (λ_ hS=>Ps QR O O ((h.ext hS).get (i:=pv) (by omega))) aD$ qL 11 O (λ_ hS=>Ps QR O O ((h.ext hS).get (i:=a) (by omega))) aD$ Pl 12 O (PR Pu P6 O O (by omega)) aD ?_
 refine Tt [13]$ qO 13$ PE (i:=13) O O (RQ P6 O O O (h.ext aD).sl ((h.ext aD).jlt (by omega))) ?_
 rintro w1a ⟨nX,nY⟩
 refine⟨trivial,?_⟩
 have gu:=(h.ext aD).set nX
 refine OG 14 O (PR Pu P6 O O (by omega)) trivial$ qO 15$ PE (i:=15) O O (RQ P6 O O O gu.sl (gu.jlt (by omega))) ?_
 rintro w1 ⟨tR,tS⟩
 refine⟨trivial,?_⟩
 have iF:=gu.set tR
 have lK:Kp (λk=>k=g) w w1:=aD.kp.trans (nY.trans tS)
 refine qE$ Pn O$ PS O$ ON O$ Ro O$ Qm O$ Po.qb (e:=[(0,_),(1,_),(8,_),(9,_),(10,_)]) ?_
 refine QA ?_
 unfold Go.Sort.partitionEqual
 replace iF:SD w1 g n cap (Go.Sort.swp d a pv):=iF
 generalize Go.Sort.swp d a pv=D at iF
 rw[show(a:Int)+1=((a+1:Nat):Int) by omega,show(b:Int)-1=((b-1:Nat):Int) by omega]
 refine Rr (α:=Nat×Nat×Array Nat) ((a+1,b-1,D)) (λy=>[(0,.slice (some ⟨g,0,none⟩) n cap),(1,I (a:Int)),(9,I (y.1:Int)),(10,I (y.2.1:Int))]) (λy w'=>SD w' g n cap y.2.2/\Kp (λk=>k=g) w1 w'/\Go.Sort.partEqLoop QD a y.1 y.2.1 y.2.2=Go.Sort.partEqLoop QD a (a+1) (b-1) D/\(a<y.1/\y.1<=n/\y.2.1<n)) (λy=>y.2.1+1-y.1) ?hI ?hround
 case hI=>exact⟨iF,Kp.refl _ _,rfl,by dsimp only;omega⟩
 case hround =>
  rintro⟨i,j,d4⟩ w4 ⟨eu,au,cG,bG⟩ ih;dsimp only at eu au cG bG;rw[Go.Sort.partEqLoop_eq] at cG
  try dsimp only
  refine OE$ QA$ Sf (λe' w'=>e'=[(0,.slice (some ⟨g,0,none⟩) n cap),(1,I (a:Int)),(9,I (((Go.Sort.scanUp (λx=>!QD d4[a]! x) d4 j (i)):Nat):Int)),(10,I ((j:Nat):Int))]/\SD w' g n cap d4/\Kp (λk=>k=g) w4 w') ?jV$ λjV=>?tU
  case jV=>
   rintro e' wC ⟨rfl,CP,jV⟩;have dT:=Go.Sort.scanUp_ge (λx=>!QD d4[a]! x) d4 j i;have lD:=Xf (λx=>!QD d4[a]! x) d4 j i
   generalize Go.Sort.scanUp (λx=>!QD d4[a]! x) d4 j i=i2 at cG dT lD
   refine QA$ Sf (λe' w'=>e'=[(0,.slice (some ⟨g,0,none⟩) n cap),(1,I (a:Int)),(9,I ((i2:Nat):Int)),(10,I (((Go.Sort.scanDown (λx=>QD d4[a]! x) d4 i2 (j)):Nat):Int))]/\SD w' g n cap d4/\Kp (λk=>k=g) wC w') ?fR$ λfR=>?tT
   case fR=>
    rintro e' wD ⟨rfl,jr,fR⟩;have lJ:=Go.Sort.scanDown_le (λx=>QD d4[a]! x) d4 i2 j
    generalize Go.Sort.scanDown (λx=>QD d4[a]! x) d4 i2 j=j2 at cG lJ
    refine An$ Qt O$ QB O$ OC$ OQ O (λh5=>?_)$ λh5=>?_
    ·rw[if_pos (by omega)] at cG;rw[<-cG];refine OO O$ Pn O$ OV O$ OB func250 O ?_;exact⟨_,rfl,rfl,jr,lK.trans (au.trans (jV.trans fR))⟩
    ·rw[if_neg (by omega)] at cG;refine OD$ An ?_;have aP:=Ext.P4 wD;refine P9 [13,15] (λw'=>Ext wD w') (by kernel_rfl) O$ PQ 0 O O (aP)$ PQ 1 O O (aP)$ Qe (i:=2) O (by kernel_rfl) O O (λ_=>Xu O) (aP)$ Qe (i:=3) O (by kernel_rfl) O O (λ_=>Xu O) (aP)$ PQ 4 O O (aP)$ PQ 5 O O (aP)$ Pl 6 O (PR Pu P6 O O (by omega)) aP$ PQ 8 O O (aP)$ PQ 9 O O (aP)$ Pl 10 O (PR Pu P6 O O (by omega)) aP$ qL 7 O (λ_ h=>Ps QR O O ((jr.ext h).get (i:=j2) (by omega))) aP$ qL 11 O (λ_ h=>Ps QR O O ((jr.ext h).get (i:=i2) (by omega))) aP$ Pl 12 O (PR Pu P6 O O (by omega)) aP ?_;refine Tt [13]$ qO 13$ PE (i:=13) O O (RQ P6 O O O (jr.ext aP).sl ((jr.ext aP).jlt (by omega))) ?_;rintro w8a ⟨gx,gy⟩;refine⟨trivial,?_⟩;have cO:=(jr.ext aP).set gx;refine OG 14 O (PR Pu P6 O O (by omega)) trivial$ qO 15$ PE (i:=15) O O (RQ P6 O O O cO.sl (cO.jlt (by omega))) ?_;rintro w8 ⟨kE,kF⟩;refine⟨trivial,?_⟩;have kG:=cO.set kE;have fI:Kp (λk=>k=g) wD w8:=aP.kp.trans (gy.trans kF);refine qE$ Pn O$ PS O$ OV O$ R6 O$ Ro O$ OV O$ Oz ?_;rw[show(j2:Int)-1=((j2-1:Nat):Int) by omega];exact(ih (i2+1,j2-1,Go.Sort.swp d4 i2 j2) _ ⟨kG,(au.trans (jV.trans fR)).trans fI,cG,by dsimp only;omega⟩ (by dsimp only;omega)).qb
   case tT=>
    refine Rr (α:=Nat) (j) (λr=>[(0,.slice (some ⟨g,0,none⟩) n cap),(1,I (a:Int)),(9,I ((i2:Nat):Int)),(10,I ((r:Nat):Int))]) (λr w'=>SD w' g n cap d4/\Kp (λk=>k=g) wC w'/\Go.Sort.scanDown (λx=>QD d4[a]! x) d4 i2 r=Go.Sort.scanDown (λx=>QD d4[a]! x) d4 i2 (j)/\r<n) (λr=>r) ?hI ?hround
    case hI=>exact⟨CP,Kp.refl _ _,rfl,by omega⟩
    case hround=>
     rintro r w5 ⟨aW,aj,cd,bP⟩ ih
     try dsimp only
     have hg:=Ext.P4 w5;rcases Nat.lt_or_ge r (i2) with hj|hj
     ·refine An$ An$ QV (λw'=>Ext w5 w') O$ OZ 0 O O (hg)$ OZ 1 O O (hg)$ OG 2 O (Z4 O O) hg$ TD$ OZ 3 O O (hg)$ qJ 4 O (hg)$ qJ 5 O (hg)$ qJ 6 O (hg)$ qJ 7 O (hg)$ qJ 8 O (hg)$ qJ 9 O (hg) ?_;refine qJ 10 O (hg)$ qJ 11 O (hg)$ qJ 12 O (hg)$ OG 13 O (U0 O O) hg$ qE$ OL O$ OO O ?_;rw[S4 _ _ _ _ (.inl hj)] at cd;subst cd;exact(fR _ _ ⟨rfl,aW.ext hg,aj.trans hg.kp⟩).qb
     ·refine An$ An$ QV (λw'=>Ext w5 w') O$ OZ 0 O O (hg)$ OZ 1 O O (hg)$ OG 2 O (Z4 O O) hg$ TL$ OZ 3 O O (hg)$ OZ 4 O O (hg)$ OZ 5 O O (hg)$ OG 6 O (PR Pu P6 O O (by omega)) hg$ OZ 8 O O (hg)$ OZ 9 O O (hg)$ OG 10 O (PR Pu P6 O O (by omega)) hg ?_;refine qT 7 O (λ_ h=>Ps QR O O ((aW.ext h).get (i:=a) (by omega))) hg$ qT 11 O (λ_ h=>Ps QR O O ((aW.ext h).get (i:=r) (by omega))) hg$ RT 12 O W7 O (S0 _ _ _) ?_;rintro _ w6 ⟨rfl,rfl⟩;refine⟨hg,?_⟩;refine OG 13 O (Uu O O) hg$ qE$ Qf O (λh1=>?_)$ λh1=>?_
      ·rw[Wv _ _ _ _ hj (by simpa[QD] using h1) (by omega)] at cd;refine OD$ OE$ R6 O$ Ro O$ OV O$ Oz ?_;rw[show(r:Int)-1=((r-1:Nat):Int) by omega];exact(ih (r-1) _ ⟨aW.ext hg,aj.trans hg.kp,cd,by omega⟩ (by omega)).qb
      ·rw[S4 _ _ _ _ (.inr (by simpa[QD] using h1))] at cd;refine OO O ?_;subst cd;exact(fR _ _ ⟨rfl,aW.ext hg,aj.trans hg.kp⟩).qb
  case tU=>
   refine Rr (α:=Nat) (i) (λr=>[(0,.slice (some ⟨g,0,none⟩) n cap),(1,I (a:Int)),(9,I ((r:Nat):Int)),(10,I ((j:Nat):Int))]) (λr w'=>SD w' g n cap d4/\Kp (λk=>k=g) w4 w'/\Go.Sort.scanUp (λx=>!QD d4[a]! x) d4 j r=Go.Sort.scanUp (λx=>!QD d4[a]! x) d4 j (i)/\i<=r/\r<=n+1) (λr=>j+1-r) ?hI ?hround
   case hI=>exact⟨eu,Kp.refl _ _,rfl,Nat.le_refl _,by omega⟩
   case hround=>
    rintro r w5 ⟨aW,aj,cd,bP⟩ ih
    try dsimp only
    have hg:=Ext.P4 w5;rcases Nat.lt_or_ge (j) r with hj|hj
    ·refine An$ An$ QV (λw'=>Ext w5 w') O$ OZ 0 O O (hg)$ OZ 1 O O (hg)$ OG 2 O (Z4 O O) hg$ TD$ OZ 3 O O (hg)$ qJ 4 O (hg)$ qJ 5 O (hg)$ qJ 6 O (hg)$ qJ 7 O (hg)$ qJ 8 O (hg)$ qJ 9 O (hg) ?_;refine qJ 10 O (hg)$ qJ 11 O (hg)$ qJ 12 O (hg)$ qJ 13 O (hg)$ OG 14 O (U0 O O) hg$ qE$ OL O$ OO O ?_;rw[T2 _ _ _ _ (.inl hj)] at cd;subst cd;exact(jV _ _ ⟨rfl,aW.ext hg,aj.trans hg.kp⟩).qb
    ·refine An$ An$ QV (λw'=>Ext w5 w') O$ OZ 0 O O (hg)$ OZ 1 O O (hg)$ OG 2 O (Z4 O O) hg$ TL$ OZ 3 O O (hg)$ OZ 4 O O (hg)$ OZ 5 O O (hg)$ OG 6 O (PR Pu P6 O O (by omega)) hg$ OZ 8 O O (hg)$ OZ 9 O O (hg)$ OG 10 O (PR Pu P6 O O (by omega)) hg ?_;refine qT 7 O (λ_ h=>Ps QR O O ((aW.ext h).get (i:=a) (by omega))) hg$ qT 11 O (λ_ h=>Ps QR O O ((aW.ext h).get (i:=r) (by omega))) hg$ RT 12 O W7 O (S0 _ _ _) ?_;rintro _ w6 ⟨rfl,rfl⟩;refine⟨hg,?_⟩;refine OG 13 O ((z9r O)) hg$ OG 14 O (Uu O O) hg$ qE$ Qf O (λh1=>?_)$ λh1=>?_
     ·rw[Zb _ _ _ _ hj (by simpa[QD] using h1)] at cd;refine OD$ OE$ R6 O$ PS O$ OV O$ Oz ?_;exact(ih (r+1) _ ⟨aW.ext hg,aj.trans hg.kp,cd,by omega,by omega⟩ (by omega)).qb
     ·rw[T2 _ _ _ _ (.inr (by simpa[QD] using h1))] at cd;refine OO O ?_;subst cd;exact(jV _ _ ⟨rfl,aW.ext hg,aj.trans hg.kp⟩).qb
section
variable (d:Array Nat)(b i:Nat)
theorem z1U (h:i<b)(hp:QD d[i]! d[i-1]! =false):Go.Sort.scanSorted QD d b i=Go.Sort.scanSorted QD d b (i+1):=by
 conv=>lhs;rw[Go.Sort.scanSorted]
 rw[if_pos]
 rw[Bool.and_eq_true];exact⟨by simpa using h,by rw[hp];rfl⟩
theorem W9 (h:b<=i\/QD d[i]! d[i-1]! =true):Go.Sort.scanSorted QD d b i=i:=by
 rw[Go.Sort.scanSorted,if_neg]
 intro hc
 rw[Bool.and_eq_true] at hc
 rcases h with h| h
 ·have:=of_decide_eq_true hc.1;omega
 ·rw[h] at hc;cases hc.2
end
theorem z8h (d:Array Nat)(a b:Nat)(h:b-a<50):Go.Sort.partialInsertionSort QD d a b=(d,decide (Go.Sort.scanSorted QD d b (a+1)=b)):=by
 unfold Go.Sort.partialInsertionSort
 rw[Go.Sort.partialIns]
 by_cases e:Go.Sort.scanSorted QD d b (a+1)=b
 ·simp only[e,if_pos,decide_true]
 ·simp only[if_neg e,if_pos h,decide_eq_false e]
def zaH {w:World}{g n cap:Nat}{d:Array Nat}(h:SD w g n cap d)(a b:Nat)(jQ:a<b)(hb:b<=n)(hn:n<50):
  Pm prog 248 [.slice (some ⟨g,0,none⟩) n cap,I (a:Int),I (b:Int)] w λu w'=>u= .bool (Go.Sort.partialInsertionSort QD d a b).2/\SD w' g n cap d/\Kp (λk=>k=g) w w':=by
 rw[z8h d a b (by omega)]
 dsimp only
 refine py (e:=[(0,_),(1,_),(2,_)]) func248 O ntmps248 O O$ qN O$ QW O$ PS O$ OV O$ An$ Qx O$ OE ?_
 rw[show(a:Int)+1=((a+1:Nat):Int) by omega]
 refine Rr (α:=Unit) (()) (λ_=>[(0,.slice (some ⟨g,0,none⟩) n cap),(1,I (a:Int)),(2,I (b:Int)),(7,I ((a+1:Nat):Int)),(8,I 0)]) (λy w'=>w'=w) (λy=>0) ?hI ?hround
 case hI=>rfl
 case hround =>
  rintro _ w4 rfl ih0
  try dsimp only
  refine PK O$ Qw O$ OC$ OQ O (λh0=>?_)$ λh0=>?_
  ·refine OD$ QA$ QA$ Sf (λe' w'=>e'=[(0,.slice (some ⟨g,0,none⟩) n cap),(1,I (a:Int)),(2,I (b:Int)),(7,I (Go.Sort.scanSorted QD d b (a+1):Int)),(8,I 0)]/\SD w' g n cap d/\Kp (λk=>k=g) w4 w') ?dP$ λdP=>?CS
   case dP=>
    rintro e' ws ⟨rfl,I2,dP⟩;refine An$ Qt O$ Rg O$ OC$ OQ O (λh1=>?_)$ λh1=>?_
    ·have wq:Go.Sort.scanSorted QD d b (a+1)=b:=by omega
     rw[decide_eq_true wq];refine Qx O$ OB func248 O ?_;exact⟨_,rfl,rfl,I2,dP⟩
    ·have wq:¬Go.Sort.scanSorted QD d b (a+1)=b:=by omega
     rw[decide_eq_false wq];refine OD$ An$ Qt O$ Ro O$ Qw O$ OC$ OQ O (λh2=>?_)$ λh2=>?_
     ·refine Qx O$ OB func248 O ?_;exact⟨_,rfl,rfl,I2,dP⟩
     ·omega
   case CS=>
    refine Rr (α:=Nat) (a+1) (λr=>[(0,.slice (some ⟨g,0,none⟩) n cap),(1,I (a:Int)),(2,I (b:Int)),(7,I (r:Int)),(8,I 0)]) (λr w'=>SD w' g n cap d/\Kp (λk=>k=g) w4 w'/\Go.Sort.scanSorted QD d b r=Go.Sort.scanSorted QD d b (a+1)/\a<r/\r<=b) (λr=>b-r) ?hI ?hround
    case hI=>exact⟨h,Kp.refl _ _,rfl,Nat.lt_succ_self a,jQ⟩
    case hround=>
     rintro r w5 ⟨aW,aj,cd,bP,I3⟩ ih
     try dsimp only
     have hg:=Ext.P4 w5;rcases Nat.lt_or_ge r b with hj|hj
     ·refine An$ An$ QV (λw'=>Ext w5 w') O$ OZ 0 O O (hg)$ OZ 1 O O (hg)$ OG 2 O (ylt O O) hg$ TL$ OZ 3 O O (hg)$ OZ 4 O O (hg)$ OZ 5 O O (hg)$ OG 6 O (PR Pu P6 O O (by omega)) hg$ OZ 8 O O (hg)$ OZ 9 O O (hg)$ OG 10 O (Xw O O (by omega)) hg ?_;rw[show(r:Int)-1=((r-1:Nat):Int) by omega];refine qT 7 O (λ_ h=>Ps QR O O ((aW.ext h).get (i:=r) (by omega))) hg$ OG 11 O (PR Pu P6 O O (by omega)) hg$ qT 12 O (λ_ h=>Ps QR O O ((aW.ext h).get (i:=r-1) (by omega))) hg$ RT 13 O W7 O (S0 _ _ _) ?_;rintro _ w6 ⟨rfl,rfl⟩;refine⟨hg,?_⟩;refine OG 14 O ((z9r O)) hg$ OG 15 O (Uu O O) hg$ qE$ Qf O (λh3=>?_)$ λh3=>?_
      ·rw[z1U _ _ _ hj (by simpa[QD] using h3)] at cd;refine OD$ OE$ R6 O$ PS O$ OV O$ Oz ?_;exact(ih (r+1) _ ⟨aW.ext hg,aj.trans hg.kp,cd,by omega,by omega⟩ (by omega)).qb
      ·rw[W9 _ _ _ (.inr (by simpa[QD] using h3))] at cd;refine OO O ?_;subst cd;exact(dP _ _ ⟨rfl,aW.ext hg,aj.trans hg.kp⟩).qb
     ·refine An$ An$ QV (λw'=>Ext w5 w') O$ OZ 0 O O (hg)$ OZ 1 O O (hg)$ OG 2 O (ylt O O) hg$ TD$ OZ 3 O O (hg)$ qJ 4 O (hg)$ qJ 5 O (hg)$ qJ 6 O (hg)$ qJ 7 O (hg)$ qJ 8 O (hg)$ qJ 9 O (hg) ?_;refine qJ 10 O (hg)$ qJ 11 O (hg)$ qJ 12 O (hg)$ qJ 13 O (hg)$ qJ 14 O (hg)$ OG 15 O (U0 O O) hg$ qE$ OL O$ OO O ?_;rw[W9 _ _ _ (.inl hj)] at cd;subst cd;exact(dP _ _ ⟨rfl,aW.ext hg,aj.trans hg.kp⟩).qb
  ·exact absurd (by decide) h0
def XU {w:World}{g n cap sb s:Nat}{d:Array Nat}(h:SD w g n cap d)(hB:OP w sb [I (s:Int)] 3)(hs:s<=1000)(x y:Nat)(hx:x<n)(hy:y<n)(sg:sb≠g):
  Pm prog 259 [.slice (some ⟨g,0,none⟩) n cap,I (x:Int),I (y:Int),ptr sb 0] w λu w'=>∃x' y' s':Nat,u= .tuple #[I (x':Int),I (y':Int)]/\((x'=x/\y'=y)\/(x'=y/\y'=x))/\s'<=s+1/\OP w' sb [I (s':Int)] 3/\SD w' g n cap d/\Kp (λk=>k=sb) w w':=by
 refine py (e:=[(0,_),(1,_),(2,_),(3,_)]) func259 O ntmps259 O O ?_
 have hg:=Ext.P4 w
 refine qN O$ Qm O$ An$ An$ QV (λw'=>Ext w w') O$ OZ 0 O O (hg)$ OZ 1 O O (hg)$ OG 2 O (PR Pu P6 O O (by omega)) hg$ OZ 4 O O (hg)$ OZ 5 O O (hg)$ OG 6 O (PR Pu P6 O O (by omega)) hg$ qT 3 O (λ_ hS=>Ps QR O O ((h.ext hS).get (i:=y) (by omega))) hg$ qT 7 O (λ_ hS=>Ps QR O O ((h.ext hS).get (i:=x) (by omega))) hg$ RT 8 O W7 O (S0 _ _ _) ?_
 rintro _ w6 ⟨rfl,rfl⟩
 refine⟨hg,?_⟩
 refine qE$ Qf O (λh1=>?_)$ λh1=>?_
 ·have ak:=hg.OA hB;refine Pn O$ Pq O$ qV (OM U3 O O ak O)$ PS O$ Pq O$ OT O (QG PV O O O ak (by simp)) ?_;rintro w3 ⟨ar,av⟩;refine qM O$ Pa O$ Qm O$ OB func259 O ?_;exact⟨_,rfl,y,x,s+1,rfl,.inr ⟨rfl,rfl⟩,Nat.le_refl _,ar,(h.ext hg).kp av (λe=>sg e.symm),hg.kp.trans av⟩
 ·refine OD$ Qt O$ Qm O$ OB func259 O ?_;exact⟨_,rfl,x,y,s,rfl,.inl ⟨rfl,rfl⟩,Nat.le_succ _,hg.OA hB,h.ext hg,hg.kp⟩
def z6Y {w:World}{g n cap sb s:Nat}{d:Array Nat}(h:SD w g n cap d)(hB:OP w sb [I (s:Int)] 3)(hs:s<=500)(x y z:Nat)(hx:x<n)(hy:y<n)(hz:z<n)(sg:sb≠g):
  Pm prog 257 [.slice (some ⟨g,0,none⟩) n cap,I (x:Int),I (y:Int),I (z:Int),ptr sb 0] w λu w'=>∃x' s':Nat,u=I (x':Int)/\(x'=x\/x'=y\/x'=z)/\s'<=s+3/\OP w' sb [I (s':Int)] 3/\SD w' g n cap d/\Kp (λk=>k=sb) w w':=by
 refine py (e:=[(0,_),(1,_),(2,_),(3,_),(4,_)]) func257 O ntmps257 O O$ qN O$ QS O$ Pa O$ Pa O$ P5 zb5 O (XU h hB (by omega) x y hx hy sg) ?_
 rintro _ w1 ⟨x1,y1,s1,rfl,JR,et,ai,lL,az⟩
 refine ON O$ SU O$ SA O$ QS O$ Pa O$ Pa O$ P5 zb5 O (XU lL ai (by omega) y1 z (by omega) hz sg) ?_
 rintro _ w2 ⟨y2,z2,s2,rfl,JS,dw,ak,qn,am⟩
 refine ON O$ SU O$ SA O$ QS O$ Pa O$ Pa O$ P5 zb5 O (XU qn ak (by omega) x1 y2 (by omega) (by omega) sg) ?_
 rintro _ w3 ⟨x3,y3,s3,rfl,JT,pL,ar,wu,av⟩
 refine ON O$ SU O$ Qm O$ Po.qb (e:=[(2,_),(10,_)]) ?_
 refine Pn O$ OV O$ OB func257 O ?_
 exact⟨_,rfl,y3,s3,rfl,by omega,by omega,ar,wu,(az.trans am).trans av⟩
def zan {w:World}{g n cap:Nat}{d:Array Nat}(h:SD w g n cap d)(a b:Nat)(jQ:a+12<b)(hb:b<=n)(hn:n<50):
  Pm prog 246 [.slice (some ⟨g,0,none⟩) n cap,I (a:Int),I (b:Int)] w λu w'=>∃p t:Nat,u= .tuple #[I (p:Int),I (t:Int)]/\a<=p/\p<b/\t<=2/\SD w' g n cap d/\Ext w w':=by
 have JU:g<w.heap.size:=h.sl.lt O
 refine py (e:=[(0,_),(1,_),(2,_)]) func246 O ntmps246 O O$ qN O$ SA O$ QS O$ Pa O$ Ro O$ QS O ?_
 rw[show(b:Int)-(a:Int)=((b-a:Nat):Int) by omega]
 refine OJ O O (Ry (cs:=[_]) PV O) ?_
 rintro _ w1 ⟨sb,rfl,sg,ad,ai⟩
 replace ai:OP w1 sb [I ((0:Nat):Int)] 3:=ai
 refine qM O$ Pa O$ qV (WY O O (by omega))$ qV (Yb O O (by omega))$ PS O$ QS O$ Pa O$ qV (WY O O (by omega))$ qV (Yb O O (by omega))$ PS O$ QS O$ Pa O$ qV (WY O O (by omega))$ qV (Yb O O (by omega)) ?_
 refine PS O$ OV O$ Po.qb (e:=[(0,_),(6,_),(7,_),(8,_),(9,_),(10,_),(11,_),(12,_)]) ?_
 refine PK O$ U8 O$ OC ?_
 rw[show(a:Int)+((b-a:Nat):Int) / 4*1=((a+(b-a) / 4*1:Nat):Int) by omega,show(a:Int)+((b-a:Nat):Int) / 4*2=((a+(b-a) / 4*2:Nat):Int) by omega,show(a:Int)+((b-a:Nat):Int) / 4*3=((a+(b-a) / 4*3:Nat):Int) by omega]
 refine OQ O (λh0=>?_)$ λh0=>?_
 ·refine PK O$ U8 O$ OC$ OQ O (λh1=>?_)$ λh1=>?_
  ·omega
  ·refine OD$ OK O$ Pa O$ Pa O$ P5 zhk O (z6Y (h.ext ad) ai (by omega) (a+(b-a) / 4*1) (a+(b-a) / 4*2) (a+(b-a) / 4*3) (by omega) (by omega) (by omega) (by omega)) ?_;rintro _ w2 ⟨p,s,rfl,hp,hs,ak,qn,am⟩;have ae:Ext w w2:=ad.It am (λk e=>by omega);refine QS O$ qV (OM U3 O O ak O)$ OC$ OE$ qN O$ Rg O$ OV O$ OQ O (λh2=>?_)$ λh2=>?_
   ·refine Pn O$ Qm O$ OB func246 O ?_;exact⟨_,rfl,p,1,rfl,by omega,by omega,by omega,qn,ae⟩
   ·refine qN O$ Rg O$ OV O$ OQ O (λh3=>?_)$ λh3=>?_
    ·refine Pn O$ Qm O$ OB func246 O ?_;exact⟨_,rfl,p,2,rfl,by omega,by omega,by omega,qn,ae⟩
    ·refine Pn O$ Qm O$ OB func246 O ?_;exact⟨_,rfl,p,0,rfl,by omega,by omega,by omega,qn,ae⟩
 ·omega
def z8N {w:World}{xb r:Nat}(hB:OP w xb [OY r] 370)(hr:r<18446744073709551616):
  Pm prog 255 [ptr xb 0] w λu w'=>∃r':Nat,u=OY r'/\r'<18446744073709551616/\OP w' xb [OY r'] 370/\Kp (λk=>k=xb) w w':=by
 refine py (e:=[(0,_)]) func255 O ntmps255 O O ?_
 have bh:=Ext.P4 w
 refine Qx O$ An$ P9 [9] (λw'=>Ext w w') (by kernel_rfl) O$ PQ 0 O O (bh)$ Pl 1 O (Q8 O) bh$ qL 2 O (λ_ h=>OM z5C O O (h.OA hB) O) bh$ PQ 3 O O (bh)$ Pl 4 O (Q8 O) bh$ qL 5 O (λ_ h=>OM z5C O O (h.OA hB) O) bh$ Pl 6 O (Rf 13 8192 O O (by decide) O) bh$ Pl 7 O (z1h O O (by omega) (by omega)) bh$ Pl 8 O (Q8 O) bh ?_
 generalize jc:r^^^r*8192%18446744073709551616=r1
 have dj:r1<18446744073709551616:=by rw[<-jc];exact Nat.xor_lt_two_pow (n:=64) (by omega) (by omega)
 refine Tt [9]$ qO 9$ PE (i:=9) O O (QG z5x O O O (bh.OA hB) (by simp)) ?_
 rintro w1 ⟨ai,az⟩
 refine⟨trivial,?_⟩
 replace ai:OP w1 xb [OY r1] 370:=ai
 have aa:=Ext.P4 w1
 refine qE$ An$ P9 [9] (λw'=>Ext w1 w') (by kernel_rfl) O$ PQ 0 O O (aa)$ Pl 1 O (Q8 O) aa$ qL 2 O (λ_ h=>OM z5C O O (h.OA ai) O) aa$ PQ 3 O O (aa)$ Pl 4 O (Q8 O) aa$ qL 5 O (λ_ h=>OM z5C O O (h.OA ai) O) aa$ Pl 6 O (Uw 7 128 O O (by decide) O) aa$ Pl 7 O (z1h O O (by omega) (by omega)) aa$ Pl 8 O (Q8 O) aa ?_
 generalize gz:r1^^^r1 / 128=r2
 have dt:r2<18446744073709551616:=by rw[<-gz];exact Nat.xor_lt_two_pow (n:=64) (by omega) (by omega)
 refine Tt [9]$ qO 9$ PE (i:=9) O O (QG z5x O O O (aa.OA ai) (by simp)) ?_
 rintro w2 ⟨ak,am⟩
 refine⟨trivial,?_⟩
 replace ak:OP w2 xb [OY r2] 370:=ak
 have ag:=Ext.P4 w2
 refine qE$ An$ P9 [9] (λw'=>Ext w2 w') (by kernel_rfl) O$ PQ 0 O O (ag)$ Pl 1 O (Q8 O) ag$ qL 2 O (λ_ h=>OM z5C O O (h.OA ak) O) ag$ PQ 3 O O (ag)$ Pl 4 O (Q8 O) ag$ qL 5 O (λ_ h=>OM z5C O O (h.OA ak) O) ag$ Pl 6 O (Rf 17 131072 O O (by decide) O) ag$ Pl 7 O (z1h O O (by omega) (by omega)) ag$ Pl 8 O (Q8 O) ag ?_
 generalize JV:r2^^^r2*131072%18446744073709551616=r3
 have ci:r3<18446744073709551616:=by rw[<-JV];exact Nat.xor_lt_two_pow (n:=64) (by omega) (by omega)
 refine Tt [9]$ qO 9$ PE (i:=9) O O (QG z5x O O O (ag.OA ak) (by simp)) ?_
 rintro w3 ⟨ar,av⟩
 refine⟨trivial,?_⟩
 replace ar:OP w3 xb [OY r3] 370:=ar
 refine qE$ Po.qb (e:=[(0,_),(2,_)]) ?_
 refine Pn O$ Pq O$ qV (OM z5C O O ar O)$ OV O$ OB func255 O ?_
 exact⟨_,rfl,r3,rfl,ci,ar,(bh.kp.trans az).trans ((aa.kp.trans am).trans (ag.kp.trans av))⟩
def z8e (x:Nat)(hx:x<18446744073709551616)(w:World):Pm prog 235 [OY x] w λv w'=>v=I (PN x:Int)/\w'=w:=by
 refine py (e:=[(0,_)]) func235 O ntmps235 O O$ Qx O$ An$ SH O$ Pn O$ P5 z2o O (Ui x hx w) ?_
 rintro _ w ⟨rfl,rfl⟩
 refine OV O$ OB func235 O ?_
 exact⟨_,rfl,rfl,rfl⟩
def zbx (x:Nat)(hx:x<4294967296)(w:World):Pm prog 254 [I (x:Int)] w λv w'=>v=OY (2^PN x)/\w'=w:=by
 have hl:PN x<=32:=R3 (by omega)
 have hp:2^PN x<=2^32:=Nat.pow_le_pow_right (by decide) hl
 refine py (e:=[(0,_)]) func254 O ntmps254 O O$ qN O$ QW O$ qV ((Q7 O U3 zfe (by omega)))$ P5 zdT O (z8e x (by omega) w) ?_
 rintro _ w ⟨rfl,rfl⟩
 refine qV (Rf (PN x) (2^PN x) O O (by omega) O) ?_
 rw[show 1*2^PN x%18446744073709551616=2^PN x by rw[Nat.one_mul];exact Nat.mod_eq_of_lt (by omega)]
 refine OV O$ OB func254 O ?_
 exact⟨_,rfl,rfl,rfl⟩
open Go.Sort in
def zbt {d:Array Nat}{a b i j:Nat}(h1:a<=i)(h2:i<b)(h3:a<=j)(h4:j<b)(h5:b<=d.size):PermIn a b d (swp d i j):=swp_permIn d a b i j h1 h2 h3 h4 h5
def zaW {w:World}{g n cap:Nat}{d:Array Nat}(h:SD w g n cap d)(a b:Nat)(jQ:a+12<b)(hb:b<=n)(hn:n<50):
  Pm prog 245 [.slice (some ⟨g,0,none⟩) n cap,I (a:Int),I (b:Int)] w λu w'=>u= .tuple #[]/\∃d',Go.Sort.PermIn a b d d'/\SD w' g n cap d'/\Kp (λk=>k=g) w w':=by
 have JU:g<w.heap.size:=h.sl.lt O
 have CT:2^(PN (b-a)-1)<=b-a:=z0l (by omega)
 have tV:2^PN (b-a)<=2*(b-a):=by
  have tW:PN (b-a)≠0:=λe=>by have:=X8 (v:=b-a);rw[e] at this;omega
  rw[show PN (b-a)=PN (b-a)-1+1 by omega,Nat.pow_succ];omega
 have Cm:1<=2^PN (b-a):=Nat.one_le_two_pow
 refine py (e:=[(0,_),(1,_),(2,_)]) func245 O ntmps245 O O$ Qt O$ Ro O ?_
 rw[show(b:Int)-(a:Int)=((b-a:Nat):Int) by omega]
 refine QW O$ U8 O$ OC$ OQ O (λh0=>?_)$ λh0=>?_
 ·refine Pn O$ qV ((Q7 O U3 z5C (by omega)))$ OJ O O (Ry (cs:=[_]) z5x O) ?_;rintro _ w1 ⟨xb,rfl,I4,ad,ai⟩;refine OT O (QG z5x O O O ai (by simp)) ?_;rintro w2 ⟨ak,am⟩;have ae:Ext w w2:=ad.It am (λk e=>by omega);replace ak:OP w2 xb [OY (b-a)] 370:=ak;refine qM O$ ON O$ P5 zhs O (zbx (b-a) (by omega) _) ?_;rintro _ w2 ⟨rfl,rfl⟩
  generalize 2^PN (b-a)=M at tV Cm
  refine QS O$ Pa O$ qV (WY O O (by omega))$ qV (Yb O O (by omega))$ PS O$ Ro O$ OV O$ OE ?_;rw[show(a:Int)+((b-a:Nat):Int) / 4*2-1=((a+(b-a) / 4*2-1:Nat):Int) by omega];refine Rr (α:=Nat×Array Nat×Nat) ((a+(b-a) / 4*2-1,d,b-a)) (λy=>[(0,.slice (some ⟨g,0,none⟩) n cap),(1,I (a:Int)),(6,I ((b-a:Nat):Int)),(7,ptr xb 0),(8,OY M),(9,I (y.1:Int))]) (λy w'=>SD w' g n cap y.2.1/\OP w' xb [OY y.2.2] 370/\y.2.2<18446744073709551616/\Go.Sort.PermIn a b d y.2.1/\Kp (λk=>k=g) w w'/\a<=y.1) (λy=>a+b+2-y.1) ?hI ?hround
  case hI=>exact⟨h.ext ae,ak,by dsimp only;omega,Go.Sort.permIn_refl _ _ _,ae.kp,by dsimp only;omega⟩
  case hround=>
   rintro⟨idx,d4,r⟩ w4 ⟨eu,aK,bG,jW,au,pH⟩ ih;dsimp only at eu aK bG jW au pH;have cD:=eu.size
   try dsimp only
   refine An$ Qt O$ ON O$ qV (WY O O (by omega))$ qV (Yb O O (by omega))$ PS O$ PS O$ zle O$ OC$ OQ O (λh1=>?_)$ λh1=>?_
   ·have qo:idx<b:=by omega
    refine OD$ QA$ qN O$ P5 zht O (z8N aK bG) ?_;rintro _ w5 ⟨r5,rfl,bP,aH,aj⟩;have aW:=eu.kp aj (λe=>by omega);have dm:Kp (λk=>k=g) w w5:=au.It aj (λk e=> .inl (by omega));refine ON O$ qV (Ww (m:=M) (n:=1) O O O (by show M<2^64;omega) (by omega)) ?_;refine qV (Ux O O (by omega) (by omega)) ?_;have CU:r5&&&(M-1)<=M-1:=Nat.and_le_right
    generalize r5&&&(M-1)=q at CU
    refine qV (PJ O zfe U3 (by omega))$ OV O$ An$ Qt O$ U8 O$ OC$ PD (λe' w'=>∃o:Nat,e'=[(0,.slice (some ⟨g,0,none⟩) n cap),(1,I (a:Int)),(6,I ((b-a:Nat):Int)),(7,ptr xb 0),(8,OY M),(9,I (idx:Int)),(10,I (o:Int))]/\w'=w5/\o<b-a) ?CV$ λCV=>?CW
    case CV=>
     rintro e' w5' ⟨o,rfl,rfl,ho⟩;have aD:=Ext.P4 w5';refine P9 [17,19] (λw'=>Ext w5' w') (by kernel_rfl) O$ PQ 0 O O (aD)$ PQ 1 O O (aD)$ Qe (i:=2) O (by kernel_rfl) O O (λ_=>Xu O) (aD)$ Qe (i:=3) O (by kernel_rfl) O O (λ_=>Xu O) (aD)$ Qe (i:=4) O (by kernel_rfl) O O (λ_=>Xu O) (aD)$ Qe (i:=5) O (by kernel_rfl) O O (λ_=>UO O O (by omega)) (aD)$ PQ 6 O O (aD)$ PQ 7 O O (aD)$ PQ 8 O O (aD)$ Pl 9 O (UO O O (by omega)) aD$ Pl 10 O (PR Pu P6 O O (by omega)) aD$ PQ 12 O O (aD)$ PQ 13 O O (aD) ?_;refine Pl 14 O (PR Pu P6 O O (by omega)) aD$ qL 11 O (λ_ h=>Ps QR O O ((aW.ext h).get (i:=a+o) (by omega))) aD$ qL 15 O (λ_ h=>Ps QR O O ((aW.ext h).get (i:=idx) (by omega))) aD$ Pl 16 O (PR Pu P6 O O (by omega)) aD$ Tt [17]$ qO 17$ PE (i:=17) O O (RQ P6 O O O (aW.ext aD).sl ((aW.ext aD).jlt (by omega))) ?_;rintro w8a ⟨gx,gy⟩;refine⟨trivial,?_⟩;have cO:=(aW.ext aD).set gx;refine OG 18 O (PR Pu P6 O O (by omega)) trivial$ qO 19$ PE (i:=19) O O (RQ P6 O O O cO.sl (cO.jlt (by omega))) ?_;rintro w8 ⟨kE,kF⟩;refine⟨trivial,?_⟩;have kG:=cO.set kE;have fI:Kp (λk=>k=g) w5' w8:=aD.kp.trans (gy.trans kF);refine qE$ Oz$ R6 O$ PS O$ OV O ?_;rw[show(idx:Int)+1=((idx+1:Nat):Int) by omega];exact(ih (idx+1,Go.Sort.swp d4 idx (a+o),r5) _ ⟨kG,fI.OA aH (by omega),bP,Go.Sort.permIn_trans _ _ _ a b jW (zbt pH qo (by omega) (by omega) (by omega)),dm.trans fI,by dsimp only;omega⟩ (by dsimp only;omega)).qb
    case CW=>
     refine OQ O (λh2=>?_)$ λh2=>?_
     ·refine OK O$ Pa O$ Ro O$ OV O ?_;rw[show(q:Int)-((b-a:Nat):Int)=((q-(b-a):Nat):Int) by omega];exact(CV _ _ ⟨q-(b-a),rfl,rfl,by omega⟩).qb
     ·refine OD ?_;exact(CV _ _ ⟨q,rfl,rfl,by omega⟩).qb
   ·refine OO O$ Qa func245 O ?_;exact⟨_,rfl,rfl,d4,jW,eu,au⟩
 ·omega
open Go.Sort in
def zeC (g n cap m:Nat):Prop:=∀(w:World) (d:Array Nat),SD w g n cap d->∀(a b limit:Nat),b-a<m->a<=b->b<=n->limit<=64->Below QD a b d->
 Pm prog 234 [.slice (some ⟨g,0,none⟩) n cap,I (a:Int),I (b:Int),I (limit:Int)] w λu w'=>u= .tuple #[]/\∃d',SD w' g n cap d'/\PermIn a b d d'/\SortedIn QD a b d'/\Kp (λk=>k=g) w w'
open Go.Sort in
structure z5F (w:World)(g n cap a b:Nat)(d:Array Nat)(a1 b1 l1:Nat)(d1:Array Nat)(w':World):Prop where
 arr:SD w' g n cap d1
 kp:Kp (λk=>k=g) w w'
 ab:a1<=b1
 bn:b1<=n
 sm:b1-a1<=b-a
 lim:l1<=64
 bel:Below QD a1 b1 d1
 fin:∀R,PermIn a1 b1 d1 R->SortedIn QD a1 b1 R->PermIn a b d R/\SortedIn QD a b R
open Go.Sort in
def z5F.perm {w:World}{g n cap a b:Nat}{d:Array Nat}{a1 b1 l1 l2:Nat}{d1 d2:Array Nat}{w1 w2:World}(h:z5F w g n cap a b d a1 b1 l1 d1 w1)(hA:SD w2 g n cap d2)(hk:Kp (λk=>k=g) w1 w2)(hp:PermIn a1 b1 d1 d2)(hl:l2<=64):z5F w g n cap a b d a1 b1 l2 d2 w2:=
 ⟨hA,h.kp.trans hk,h.ab,h.bn,h.sm,hl,h.bel.perm (by rw[h.arr.size];exact h.bn) hp,λR h1 h2=>h.fin R (permIn_trans _ _ _ _ _ hp h1) h2⟩
open Go.Sort in
def zay {g n cap m:Nat}(dx:zeC g n cap m){w:World}{d:Array Nat}(h:SD w g n cap d)(a b limit:Nat)(hm:b-a<=m)(jQ:a<=b)(hb:b<=n)(hn:n<50)(hl:limit<=64)(hB:Below QD a b d):
  Pm prog 234 [.slice (some ⟨g,0,none⟩) n cap,I (a:Int),I (b:Int),I (limit:Int)] w λu w'=>u= .tuple #[]/\∃d',SD w' g n cap d'/\PermIn a b d d'/\SortedIn QD a b d'/\Kp (λk=>k=g) w w':=by
 refine py (e:=[(0,_),(1,_),(2,_),(3,_)]) func234 O ntmps234 O O$ qN O$ QS O$ OV O$ OE$ Rr (α:=Nat×Nat×Nat×Bool×Bool×Array Nat) ((a,b,limit,true,true,d)) (λy=>[(0,.slice (some ⟨g,0,none⟩) n cap),(1,I (y.1:Int)),(2,I (y.2.1:Int)),(3,I (y.2.2.1:Int)),(8,.bool y.2.2.2.1),(9,.bool y.2.2.2.2.1)]) (λy w'=>z5F w g n cap a b d y.1 y.2.1 y.2.2.1 y.2.2.2.2.2 w') (λy=>y.2.1-y.1) ?hI ?hround
 case hI=>exact⟨h,Kp.refl _ _,jQ,hb,Nat.le_refl _,hl,hB,λR h1 h2=>⟨h1,h2⟩⟩
 case hround =>
  rintro⟨a1,b1,l1,wb,wp,d1⟩ w4 hI ih;dsimp only at hI;have qp:=hI.ab;have gA:=hI.bn;have JW:=hI.sm;have I5:=hI.lim;have xD:=hI.arr.size
  try dsimp only
  refine OE$ Qt O$ Ro O$ OV O$ An$ qN O ?_;rw[show(b1:Int)-(a1:Int)=((b1-a1:Nat):Int) by omega];refine ON O$ zle O$ OC$ OQ O (λh0=>?_)$ λh0=>?_
  ·obtain⟨r1,r2⟩:=insertionSort_holds Yu d1 a1 b1 qp (by omega);obtain⟨q1,q2⟩:=hI.fin _ r1 r2;refine Qt O$ ON O$ P5 zj9 O (z1X hI.arr a1 b1 qp gA (by omega)) ?_;rintro _ w5 ⟨rfl,aW,aj⟩;refine OC$ OB func234 O ?_;exact⟨_,rfl,rfl,_,aW,q1,q2,hI.kp.trans aj⟩
  ·refine OD$ PK O$ Rg O$ OC$ OQ O (λh1 => ?_)$ λh1 => ?_
   ·obtain⟨r1,r2⟩:=heapSort_holds Yu d1 a1 b1 qp (by omega);obtain⟨q1,q2⟩:=hI.fin _ r1 r2;refine Qt O$ ON O$ P5 zhH O (zaq hI.arr a1 b1 (by omega) gA (by omega)) ?_;rintro _ w5 ⟨rfl,aW,aj⟩;refine OC$ OB func234 O ?_;exact⟨_,rfl,rfl,_,aW,q1,q2,hI.kp.trans aj⟩
   ·refine OD$ PK O$ qV ((RZ O))$ OC$ PD (λe' w' => ∃ l5 d5, e' = [(0, .slice (some ⟨g, 0, none⟩) n cap), (1, I (a1 : Int)), (2, I (b1 : Int)), (3, I ((l5 : Nat) : Int)), (8, .bool wb), (9, .bool wp), (10, I ((b1 - a1 : Nat) : Int))] /\ z5F w g n cap a b d a1 b1 l5 d5 w') ?aY$ λaY => ?gl
    case aY =>
     rintro e' w5 ⟨l5,d5,rfl,kH⟩;have sh:=kH.lim;have CX:=kH.arr.size;have JX:g<w5.heap.size:=kH.arr.sl.lt O;refine Qt O$ ON O$ P5 zhj O (zan kH.arr a1 b1 (by omega) gA hn) ?_;rintro _ w6 ⟨p6,t6,rfl,JY,tX,xE,ql,aR⟩;have qq:=kH.perm ql aR.kp (permIn_refl _ _ _) sh;refine ON O$ SU O$ Qm O$ PK O$ Rg O$ OC$ PD (λe' w'=>∃d7 p7 t7,e'=[(0,.slice (some ⟨g,0,none⟩) n cap),(1,I (a1:Int)),(2,I (b1:Int)),(3,I (l5:Int)),(8,.bool wb),(9,.bool wp),(10,I ((b1-a1:Nat):Int)),(11,I ((p7:Nat):Int)),(12,I ((t7:Nat):Int))]/\z5F w g n cap a b d a1 b1 l5 d7 w'/\a1<=p7/\p7<b1) ?aq$ λaq=>?ey
     case aq =>
      rintro e' w7 ⟨d7,p7,t7,rfl,mv,Bj,qr⟩;have JZ:=mv.arr.size;refine An$ An$ PD (λe' w'=>∃s,e'=[(0,.slice (some ⟨g,0,none⟩) n cap),(1,I (a1:Int)),(2,I (b1:Int)),(3,I (l5:Int)),(8,.bool wb),(9,.bool wp),(10,I ((b1-a1:Nat):Int)),(11,I (p7:Int)),(68,.bool s)]/\w'=w7) ?dp$ λdp=>?o3
      case dp=>
       rintro e' w8 ⟨s,rfl,rfl⟩;refine PD (λe' w'=>e'=[(0,.slice (some ⟨g,0,none⟩) n cap),(1,I (a1:Int)),(2,I (b1:Int)),(3,I (l5:Int)),(8,.bool wb),(9,.bool wp),(10,I ((b1-a1:Nat):Int)),(11,I (p7:Int))]/\z5F w g n cap a b d a1 b1 l5 d7 w') ?qs$ λqs=>?u7
       case qs=>
        rintro e' w9 ⟨rfl,i4⟩;have si:=i4.arr;have hg:=Ext.P4 w9;refine An$ An$ PD (λe' w'=>∃s,e'=[(0,.slice (some ⟨g,0,none⟩) n cap),(1,I (a1:Int)),(2,I (b1:Int)),(3,I (l5:Int)),(8,.bool wb),(9,.bool wp),(10,I ((b1-a1:Nat):Int)),(11,I (p7:Int)),(87,.bool s)]/\w'=w9.drew/\(s=true->0<a1/\QD d7[a1-1]! d7[p7]! =false)) ?tH$ λtH=>?tI
        case tH=>
         rintro e' w10 ⟨s,rfl,rfl,hs⟩;have mw:=si.ext hg;have aC:Kp (λk=>k=g) w w9.drew:=i4.kp.trans hg.kp;refine Qf O (λh6=>?_)$ λh6=>?_
         ·obtain⟨K0,iG⟩:=hs h6;obtain⟨mid,d11,hx⟩:∃m e,partitionEqual QD d7 a1 b1 p7=(m,e):=⟨_,_,rfl⟩;have CY:=zd5 mw a1 b1 p7 Bj qr gA (by omega);rw[hx] at CY;dsimp only at CY;obtain⟨e1,e2,e3,e4,e5⟩:=round_eq Yu (partitionEqual_holds _) K0 Bj qr (by omega) i4.bel iG hx;refine Qt O$ Pa O$ P5 zhY O (CY) ?_;rintro _ w11 ⟨rfl,qt,bz⟩;refine QW O$ OV O$ OO O ?_;exact(ih (mid,b1,l5,wb,wp,d11) _ ⟨qt,aC.trans bz,e2,gA,by dsimp only;omega,i4.lim,e4,λR r1 r2=>i4.fin R (e5 R r1 r2).1 (e5 R r1 r2).2⟩ (by dsimp only;omega)).qb
         ·obtain⟨mid,ap,d11,hx⟩:∃m q e,partition QD d7 a1 b1 p7=(m,q,e):=⟨_,_,_,rfl⟩;have tY:=zao mw a1 b1 p7 Bj qr gA (by omega);rw[hx] at tY;dsimp only at tY;obtain⟨e1,e2,e3,e4,e5,e6,e7⟩:=round_part Yu (partition_holds _) Bj qr (by omega) i4.bel hx;refine OD$ Qt O$ Pa O$ P5 zhp O (tY) ?_;rintro _ w11 ⟨rfl,qt,bz⟩;refine ON O$ SU O$ SA O$ QW O$ QS O$ Pa O$ Ro O$ Pa O$ Ro O$ SA O$ QS O ?_;rw[show(mid:Int)-(a1:Int)=((mid-a1:Nat):Int) by omega,show(b1:Int)-(mid:Int)=((b1-mid:Nat):Int) by omega];refine ON O$ qV (WY O O (by omega))$ QS O$ Pa O$ Qw O$ OC$ OQ O (λh7=>?_)$ λh7=>?_
          ·refine Qt O$ U8 O$ QS O$ Pa O$ Pa O$ P5 zc7 O (dx _ _ qt a1 mid l5 (by omega) e1 (by omega) i4.lim e4) ?_;rintro _ w12 ⟨rfl,d12,tZ,u3,kA,bA⟩;obtain⟨f1,f2⟩:=e6 _ u3 kA;refine OC$ R6 O$ PS O$ OV O$ Oz ?_;exact(ih (mid+1,b1,l5,decide (((b1-a1:Nat):Int) / 8<=((mid-a1:Nat):Int)),ap,d12) _ ⟨tZ,(aC.trans bz).trans bA,by dsimp only;omega,gA,by dsimp only;omega,i4.lim,f1,λR r1 r2=>i4.fin R (f2 R r1 r2).1 (f2 R r1 r2).2⟩ (by dsimp only;omega)).qb
          ·refine Qt O$ U8 O$ QS O$ Pa O$ PS O$ Pa O ?_;rw[show(mid:Int)+1=((mid+1:Nat):Int) by omega];refine P5 zc7 O (dx _ _ qt (mid+1) b1 l5 (by omega) (by omega) gA i4.lim e5) ?_;rintro _ w12 ⟨rfl,d12,tZ,u3,kA,bA⟩;obtain⟨f1,f2⟩:=e7 _ u3 kA;refine OC$ R6 O$ OV O$ Oz ?_;exact(ih (a1,mid,l5,decide (((b1-a1:Nat):Int) / 8<=((b1-mid:Nat):Int)),ap,d12) _ ⟨tZ,(aC.trans bz).trans bA,e1,by dsimp only;omega,by dsimp only;omega,i4.lim,f1,λR r1 r2=>i4.fin R (f2 R r1 r2).1 (f2 R r1 r2).2⟩ (by dsimp only;omega)).qb
        case tI=>
         rcases Nat.eq_zero_or_pos a1 with hj|hj
         ·refine QV (λw'=>Ext w9 w') O$ OZ 0 O O (hg)$ OG 1 O (Yf O O) hg$ TD$ OZ 2 O O (hg)$ qJ 3 O (hg)$ qJ 4 O (hg)$ qJ 5 O (hg)$ qJ 6 O (hg)$ qJ 7 O (hg)$ qJ 8 O (hg)$ qJ 9 O (hg)$ qJ 10 O (hg)$ qJ 11 O (hg) ?_;refine qJ 12 O (hg)$ qJ 13 O (hg)$ OG 14 O (U0 O O) hg$ qE ?_;exact(tH _ _ ⟨false,rfl,rfl,λe=>by cases e⟩).qb
         ·refine QV (λw'=>Ext w9 w') O$ OZ 0 O O (hg)$ OG 1 O (Yf O O) hg$ TL$ OZ 2 O O (hg)$ OZ 3 O O (hg)$ OZ 4 O O (hg)$ OG 5 O (Xw O O (by omega)) hg$ OZ 8 O O (hg)$ OZ 9 O O (hg)$ OG 10 O (PR Pu P6 O O (by omega)) hg ?_;rw[show(a1:Int)-1=((a1-1:Nat):Int) by omega];refine OG 6 O (PR Pu P6 O O (by omega)) hg$ qT 7 O (λ_ h=>Ps QR O O ((si.ext h).get (i:=a1-1) (by omega))) hg$ qT 11 O (λ_ h=>Ps QR O O ((si.ext h).get (i:=p7) (by omega))) hg$ RT 12 O W7 O (S0 _ _ _) ?_;rintro _ w10 ⟨rfl,rfl⟩;refine⟨hg,?_⟩;refine OG 13 O ((z9r O)) hg$ OG 14 O (Uu O O) hg$ qE ?_;exact(tH _ _ ⟨decide (¬d7[a1-1]!<d7[p7]!),rfl,rfl,λe=>⟨hj,by simpa[QD] using e⟩⟩).qb
       case u7=>
        refine Qf O (λh4=>?_)$ λh4=>?_
        ·obtain⟨r1,r2⟩:=partialInsertionSort_holds Yu d7 a1 b1 (by omega) (by omega) mv.bel;refine Qt O$ ON O$ P5 zia O (zaH mv.arr a1 b1 (by omega) gA hn) ?_;rintro _ w9 ⟨rfl,si,aw⟩;refine OC$ Qf O (λh5=>?_)$ λh5=>?_
         ·have r3:=r2 h5;rw[z8h d7 a1 b1 (by omega)] at r3;dsimp only at r3;obtain⟨q1,q2⟩:=mv.fin _ (permIn_refl _ _ _) r3;refine OB func234 O ?_;exact⟨_,rfl,rfl,d7,si,q1,q2,mv.kp.trans aw⟩
         ·refine OD ?_;exact(qs _ _ ⟨rfl,mv.perm si aw (permIn_refl _ _ _) mv.lim⟩).qb
        ·refine OD ?_;exact(qs _ _ ⟨rfl,mv⟩).qb
      case o3 =>
       cases wb with
       | false =>
         refine OK O$ Pa O$ qS$ PM O$ ON O$ QL$ PM O$ OC ?_
         exact(dp _ _ ⟨false,rfl,rfl⟩).qb
       | true =>
         cases wp with
         | false =>
           refine OK O$ Pa O$ ON O$ QX O$ ON O$ QL$ PM O$ OC ?_
           exact(dp _ _ ⟨false,rfl,rfl⟩).qb
         | true =>
           refine OK O$ Pa O$ ON O$ QX O$ Pa O$ Rg O$ QX O$ OC ?_;exact(dp _ _ ⟨decide ((t7:Int)=1),rfl,rfl⟩).qb
     case ey=>
      refine OQ O (λh3=>?_)$ λh3=>?_
      ·refine Qt O$ ON O$ P5 ziF O (z4D ql a1 b1 (by omega) gA (by omega)) ?_;rintro _ w7 ⟨rfl,Bk,aB⟩;refine qM O$ ON O$ Ro O$ Pa O$ Ro O$ Ro O$ OV O$ OK O$ OV O ?_;rw[show(b1:Int)-1-((p6:Int)-(a1:Int))=((b1-1-(p6-a1):Nat):Int) by omega];exact(aq _ _ ⟨reverseRange d5 a1 b1,b1-1-(p6-a1),1,rfl,qq.perm Bk aB (reverseRange_holds _ _ _ qp (by omega)) sh,by omega,by omega⟩).qb
      ·refine OD ?_;exact(aq _ _ ⟨d5,p6,t6,rfl,qq,JY,tX⟩).qb
    case gl=>
     refine Qf O (λh2=>?_)$ λh2=>?_
     ·refine Qt O$ ON O$ P5 zgZ O (zaW hI.arr a1 b1 (by omega) gA hn) ?_;rintro _ w5 ⟨rfl,d5,i5,aW,aj⟩;refine OC$ R6 O$ Ro O$ OV O ?_;rw[show(l1:Int)-1=((l1-1:Nat):Int) by omega];exact(aY _ _ ⟨l1-1,d5,rfl,hI.perm aW aj i5 (by omega)⟩).qb
     ·refine OD ?_;exact(aY _ _ ⟨l1,d1,rfl,hI⟩).qb
def z7E (g n cap:Nat)(hn:n<50):∀m,zeC g n cap m
 |0=>λw d h a b limit hm=>absurd hm (Nat.not_lt_zero _)
 |m+1=>λw d h a b limit hm jQ hb hl hB=>zay (z7E g n cap hn m) h a b limit (by omega) jQ hb hn hl hB
open Go.Sort in
def z9O {w:World}{v:Value}{l:List Nat}(hS:Sl w v 59 1 l.length (l.map Px))(bu:l≠[])(hl:l.length<50):
  Pm prog 227 [v] w λu w'=>u= .tuple #[]/\Kp (λk=>v.ownBlock=some k) w w'/\∃l':List Nat,l'.Perm l/\l'.Pairwise (·<=·)/\Sl w' v 59 1 l'.length (l'.map Px):=by
 obtain⟨g,cap,rfl⟩:∃g c,v= .slice (some ⟨g,0,none⟩) l.length c:=by
  rcases hS.shape with⟨-,h0⟩|⟨g,c,e,hc⟩
  ·exact absurd (List.eq_nil_of_length_eq_zero (by omega)) bu
  ·exact⟨g,c,e⟩
 have hA:SD w g l.length cap l.toArray:=⟨by simpa using hS,by simp⟩
 have aI:PN l.length<=6:=R3 (by omega)
 refine py (e:=[(0,_)]) func227 O ntmps227 O O$ Pn O$ Rs Pu O$ OV O$ OK O$ Pa O$ ON O$ qV ((Q7 O U3 zfe (by omega)))$ P5 zdT O (z8e l.length (by omega) w) ?_
 rintro _ w ⟨rfl,rfl⟩
 refine P5 zc7 O (z7E g l.length cap hl (l.length+1) w l.toArray hA 0 l.length (PN l.length) (by omega) (by omega) (Nat.le_refl _) (by omega) (.inl O)) ?_
 rintro _ w1 ⟨rfl,d',lL,hP,hO,hk⟩
 refine OC$ Qa func227 O ?_
 have cD:=lL.size
 have js:d'.toList.Perm l:=by
  have:=hP.2.2;rw[Array.toList_extract,Array.toList_extract] at this;have h1:(d'.toList.take l.length).Perm (l.take l.length):=by simpa using this
  rwa [List.take_of_length_le (by rw[Array.length_toList,cD];exact Nat.le_refl _),List.take_length] at h1
 refine⟨_,rfl,rfl,hk.OH (λk e=>by rw[e];rfl),d'.toList,js,?_,?_⟩
 ·rw[List.pairwise_iff_getElem];intro i j hi hj gW;rw[Array.length_toList] at hi hj;have:=hO i j (Nat.zero_le _) gW (by omega);rw[getElem!_pos d' i (by omega),getElem!_pos d' j (by omega)] at this;simp only[QD,decide_eq_false_iff_not] at this;rw[Array.getElem_toList,Array.getElem_toList];omega
 ·have e:d'.toList.length=l.length:=by rw[Array.length_toList,cD]
  rw[e];exact lL.sl
structure NuI (w w1:World)(p:S1)(b5 n11:Nat)(L:List (Cd×Nat))(w':World):Prop where
 ex:∃F,z4p w' n11 L F/\∀k,F k->w1.heap.size<=k
 ext:Ext w w'
 b5:OP w' b5 (lpC p) 260
 siz:w1.heap.size<=w'.heap.size
theorem NuI.put {w w1 w2 w3:World}{p:S1}{b5 n11:Nat}{L L':List (Cd×Nat)}{F:Nat->Prop}(h:NuI w w1 p b5 n11 L w2)(hf:∀k,F k->w1.heap.size<=k)(gR:b5<w1.heap.size)(I6:w.heap.size<=w1.heap.size)
  (g:∃F',z4p w3 n11 L' F'/\Kp F w2 w3/\∀k,F' k->F k\/w2.heap.size<=k):NuI w w1 p b5 n11 L' w3:=by
 obtain⟨F',g1,g2,g3⟩:=g
 have hs:=h.siz
 refine⟨⟨F',g1,λk hk=>?_⟩,h.ext.It g2 (λk hk=>by have:=hf k hk;omega),g2.OA h.b5 (λe=>by have:=hf b5 e;omega),by have:=g2.size;omega⟩
 rcases g3 k hk with e| e
 ·exact hf k e
 ·omega
structure NuX (w w1 w2:World)(p:S1)(b5 n11:Nat)(X:Nat->Prop)(L:List (Cd×Nat))(w3:World):Prop where
 ex:∃F,z4p w3 n11 L F/\(∀k,F k->w1.heap.size<=k)/\∀k,F k->¬X k
 ext:Ext w w3
 b5:OP w3 b5 (lpC p) 260
 siz:w1.heap.size<=w3.heap.size
 kx:Kp (λk=>¬X k) w2 w3
theorem NuX.put {w w1 w2 w3 w4:World}{p:S1}{b5 n11:Nat}{X:Nat->Prop}{L L':List (Cd×Nat)}{F:Nat->Prop}(h:NuX w w1 w2 p b5 n11 X L w3)(hX:∀k,X k->k<w2.heap.size)(hf:∀k,F k->w1.heap.size<=k)(hx:∀k,F k->¬X k)(gR:b5<w1.heap.size)(I6:w.heap.size<=w1.heap.size)
  (g:∃F',z4p w4 n11 L' F'/\Kp F w3 w4/\∀k,F' k->F k\/w3.heap.size<=k):NuX w w1 w2 p b5 n11 X L' w4:=by
 obtain⟨F',g1,g2,g3⟩:=g
 have hs:=h.siz
 have hz:=h.kx.size
 refine⟨⟨F',g1,λk hk=>?_,λk hk fT=>?_⟩,h.ext.It g2 (λk hk=>by have:=hf k hk;omega),g2.OA h.b5 (λe=>by have:=hf b5 e;omega),by have:=g2.size;omega,h.kx.trans (g2.OH hx)⟩
 ·rcases g3 k hk with e| e
  ·exact hf k e
  ·omega
 ·rcases g3 k hk with e| e
  ·exact hx k e fT
  ·have:=hX k fT;omega
theorem T7:∀(l:List Nat) (k:Nat),(Qj k l).length=l.length
 |[],_=>rfl
 |_::l,k=>by rw[Qj,List.length_cons,List.length_cons,T7 l]
theorem YO:∀(l:List Nat) (k n:Nat),Qj k (l++[n])=Qj k l++[(.gamma,n-min (k+l.length) 1)]
 |[],k,n=>rfl
 | m :: l, k, n => by
   rw[List.cons_append,Qj,YO l (k+1) n,Qj,List.cons_append,List.length_cons,show k+1+l.length=k+(l.length+1) by omega]
def z1k:∀{l:List Nat},(∀n∈l,1<=n)->l.length<=l.sum
 |[],_=>Nat.le_refl _
 | x :: l, h => by
   have h1:=h x List.mem_cons_self;have h2:=z1k (λn hn=>h n (List.mem_cons_of_mem x hn));rw[List.length_cons,List.sum_cons];omega
def Tw.z18 {rs:List Nat}{fs:List Bool}(h:Tw rs fs):rs.length<=fs.length+1:=by
 have e:=SR true rs
 rw[h.exp] at e
 cases rs with
 |nil=>simp
 | cons a tl =>
   have h1:=z1k (l:=tl) (λn hn=>h.pos n hn);rw[List.sum_cons] at e;rw[List.length_cons];omega
def XS:∀l:List Nat,(PO 0 l).1=[]
 |[]=>by rw[PO]
 | x :: l => by
   rw[PO,if_neg (by omega)];exact XS (l.drop (PL x l))
 termination_by l=>l.length
 decreasing_by simp[List.length_drop];omega
def YP (l:List (Nat×Nat)):Option Nat:=l.getLast?.map λp=>p.1+p.2-1
theorem Yt (x least:Nat):∀(l:List (Nat×Nat)) (e:Option Nat) (p:Nat×Nat),PF x least e (l++[p])=PF x least e l++PF x least (match l with|[]=>e|_=>YP l) [p]
 |[],e,p=>by cases e<;>rfl
 | q :: l, e, p => by
   rw[List.cons_append,RI,RI,Yt x least l _ p]
   cases l with
   |nil=>rfl
   |cons q2 l=>rfl
theorem z1W (x least:Nat)(l:List (Nat×Nat))(p:Nat×Nat):PF x least none (l++[p])=PF x least none l++[(.gamma,UG x (YP l) p.1),(.gamma,p.2-least)]:=by
 rw[Yt]
 cases l with
 |nil=>rfl
 |cons q l=>rw[RI x least (match q::l with|[]=>none|_=>YP (q::l))];rfl
def zau {w:World}{b off n cap i:Nat}{R:List (Nat×Nat)}{q:Nat×Nat}(h:Rd w (.slice (some ⟨b,off,none⟩) n cap) 2 n (R.flatMap z27))(hq:R[i]? =some q):∀j u,[I (q.1:Int),I (q.2:Int)][j]? =some u->w.cell? ⟨b,off+i*2+j,none⟩=some u:=by
 intro j u hj
 have hi:=(List.getElem?_eq_some_iff.1 hq).1
 rcases h.2 with⟨c,hc,h0⟩|⟨b',off',cap',e,hc⟩
 ·have:=h.1;rw[za0] at this;omega
 ·cases e
  have lM:(R.flatMap z27)[i*2+j]? =some u:=by
   have lJ:j<2:=(List.getElem?_eq_some_iff.1 hj).1
   have key:∀(R:List (Nat×Nat)) (i:Nat),R[i]? =some q->(R.flatMap z27)[i*2+j]? =some u:=by
    intro R
    induction R with
    |nil=>intro i h;simp at h
    | cons a R ih =>
      intro i h;rw[List.flatMap_cons]
      cases i with
      | zero =>
        rw[List.getElem?_cons_zero] at h;cases h;rw[List.getElem?_append_left (by show _<2;omega),Nat.zero_mul,Nat.zero_add]
        exact hj
      | succ i =>
        rw[List.getElem?_append_right (by show 2<=_;omega),show(i+1)*2+j-(z27 a).length=i*2+j by show(i+1)*2+j-2=_;omega];exact ih i h
   exact key R i hq
  have:=hc (i*2+j) u lM;rw[show off+i*2+j=off+(i*2+j) by omega];exact this
def NuX.ex2 {w w1 w2 w3 w4:World}{p:S1}{b5 n11:Nat}{X:Nat->Prop}{L:List (Cd×Nat)}(h:NuX w w1 w2 p b5 n11 X L w3)(hx:Ext w3 w4):NuX w w1 w2 p b5 n11 X L w4:=by
 obtain⟨⟨F,h1,h2,h3⟩,h4,h5,h6,h7⟩:=h
 exact⟨⟨F,h1.ext hx,h2,h3⟩,h4.trans hx,hx.OA h5,by have:=hx.size;omega,h7.trans hx.kp⟩
def NuX.back {w w1 w2 w3 w4:World}{p:S1}{b5 n11:Nat}{X X':Nat->Prop}{L L':List (Cd×Nat)}(h:NuX w w1 w2 p b5 n11 X L w3)(h':NuX w w1 w3 p b5 n11 X' L' w4)(hX:∀k,X k->X' k):NuX w w1 w2 p b5 n11 X L' w4:=by
 obtain⟨⟨F,h1,h2,h3⟩,h4,h5,h6,h7⟩:=h'
 exact⟨⟨F,h1,h2,λk hk hx=>h3 k hk (hX k hx)⟩,h4,h5,h6,h.kx.trans (h7.OH λk hk hx=>hk (hX k hx))⟩
def NuX.again {w w1 w2 w3:World}{p:S1}{b5 n11:Nat}{X X':Nat->Prop}{L:List (Cd×Nat)}{F:Nat->Prop}(h:NuX w w1 w2 p b5 n11 X L w3)(hA:z4p w3 n11 L F)(hf:∀k,F k->w1.heap.size<=k)(hx:∀k,F k->¬X' k):NuX w w1 w3 p b5 n11 X' L w3:=
 ⟨⟨F,hA,hf,hx⟩,h.ext,h.b5,h.siz,Kp.refl _ _⟩
theorem Sm (x least:Nat):∀(l:List (Nat×Nat)) (e:Option Nat),(PF x least e l).length=2*l.length
 |[],e=>by cases e<;>rfl
 |q::l,e=>by rw[RI,List.length_cons,List.length_cons,Sm x least l,List.length_cons];omega
def Zv {least:Nat}:∀(R:List (Nat×Nat)) (lo i:Nat) (q:Nat×Nat),SY least lo R->R[i]? =some q->1<=q.2/\least<=q.2/\(∀z,YP (R.take i)=some z->z+2<=q.1)/\(YP (R.take i)=none->lo<=q.1)
 |[],lo,i,q,h,hq=>by simp at hq
 | p :: R, lo, 0, q, h, hq => by
   rw[List.getElem?_cons_zero] at hq;cases hq
   exact⟨h.2.1,h.2.2.1,(λz hz=>by cases hz),λ_=>h.1⟩
 | p :: R, lo, i + 1, q, h, hq => by
   rw[List.getElem?_cons_succ] at hq;obtain⟨h1,h2,h3,h4⟩:=Zv R _ i q h.2.2.2 hq;have hp:1<=p.2:=h.2.1;refine⟨h1,h2,λz hz=>?_,λhz=>?_⟩
   ·rw[List.take_succ_cons] at hz
    cases hR:R.take i with
    | nil =>
      rw[hR] at hz;have e:p.1+p.2-1=z:=Rx hz;have:=h4 (by rw[hR];rfl)
      omega
    | cons a l =>
      rw[hR] at hz;exact h3 z (by rw[hR];exact hz)
   ·rw[List.take_succ_cons] at hz;exfalso;unfold YP at hz;rw[Option.map_eq_none_iff,List.getLast?_eq_none_iff] at hz;cases hz
theorem z9i (l:List (Nat×Nat))(q:Nat×Nat):YP (l++[q])=some (q.1+q.2-1):=by simp[YP]
def zb1 {least:Nat}{l:List Nat}{q:Nat×Nat}(hl:∀y∈l,y<65536)(hq:q∈(PO least l).1)(h1:1<=q.2):q.1+q.2<=65536:=by
 have h2:q.1+(q.2-1)∈QQ (PO least l).1:=by
  unfold QQ;exact List.mem_flatMap.2 ⟨q,hq,List.mem_map.2 ⟨q.2-1,List.mem_range.2 (by omega),rfl⟩⟩
 have:=hl _ ((TJ least l).subset (List.mem_append_left _ h2))
 omega
def zbS (x:Nat):Option Nat->Nat->Nat
 |none,v=>zig ((v:Int)-x)
 |some u,v=>v-u-1
theorem SO (x k:Nat)(e:Option Nat)(v:Nat)(r:List Nat):PI x k e (v::r)=(.zeta k,zbS x e v)::PI x k (some v) r:=by
 cases e<;>rfl
theorem Z2 (x k:Nat):∀(l:List Nat) (e:Option Nat) (v:Nat),PI x k e (l++[v])=PI x k e l++PI x k (match l with|[]=>e|_=>l.getLast?) [v]
 |[],e,v=>by cases e<;>rfl
 | u :: l, e, v => by
   rw[List.cons_append,SO,SO,Z2 x k l _ v]
   cases l with
   |nil=>rfl
   |cons u2 l=>rfl
theorem XK (x k:Nat)(l:List Nat)(v:Nat):PI x k none (l++[v])=PI x k none l++[(.zeta k,zbS x l.getLast? v)]:=by
 rw[Z2]
 cases l with
 |nil=>rfl
 |cons u l=>rw[SO x k (match u::l with|[]=>none|_=>(u::l).getLast?)];cases (u::l).getLast?<;>rfl
theorem Ti (x k:Nat):∀(l:List Nat) (e:Option Nat),(PI x k e l).length=l.length
 |[],e=>by cases e<;>rfl
 |v::l,e=>by rw[SO,List.length_cons,Ti x k l,List.length_cons]
theorem PC {α:Type}{l:List α}{i:Nat}{q:α}(h:l[i]? =some q):l.take (i+1)=l.take i++[q]:=by
 rw[List.take_succ,h];rfl
end Go.Proofs.YtffbidffdbpcoaaGreatDoor
