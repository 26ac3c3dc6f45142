/- Merged by program. -/
import Derived.Test.YtgdkbagngobdlaaGreatDoorZt2
import Derived.Sort.AssemblyPlain
set_option linter.all false
set_option maxRecDepth 1000000
set_option maxHeartbeats 16000000
namespace Go.Proofs.YtgdkbagngobdlaaGreatDoor
open Go Go.RowKit
def zig (z:Int):Nat:=if 0<=z then(2*z).toNat else(-2*z-1).toNat
def zag (n:Nat):Int:=if n%2=0 then((n / 2:Nat):Int) else -((n / 2:Nat):Int)-1
theorem z8o (z:Int):zag (zig z)=z:=by
 unfold zig zag
 split
 ·rw[if_pos (by omega)];omega
 ·rw[if_neg (by omega)];omega
def Ze {z:Int}{n:Nat}(h1: -(n:Int)<=z)(h2:z<(n:Int)):zig z<2*n:=by
 unfold zig
 split<;>omega
structure S6 where
 Pb:Nat
 interval:Nat
 zeta:Nat
def Rf (succ ref:List Nat):List Nat:=ref.foldl (λrs y=>R3 rs (decide (y∈succ))) [0]
def Td (succ ref:List Nat):Ty (Rf succ ref) (ref.map λy=>decide (y∈succ)):=by
 unfold Rf
 have key:∀(l:List Nat) (rs:List Nat) (fs:List Bool),Ty rs fs->Ty (l.foldl (λrs y=>R3 rs (decide (y∈succ))) rs) (fs++l.map λy=>decide (y∈succ)):=by
  intro l
  induction l with
  |nil=>intro rs fs h;simpa using h
  | cons y l ih =>
    intro rs fs h;have:=ih _ _ (h.step (decide (y∈succ)))
    simpa using this
 simpa using key ref [0] [] Ty.zero
def Pk (succ ref:List Nat):List Nat:=succ.filter λv=>decide (v∉ref)
theorem z7Z (P:Nat->Bool):∀l:List Nat,sel l (l.map P)=l.filter P
 |[]=>rfl
 | x :: l => by
   rw[List.map_cons,sel,z7Z P l];cases h:P x<;>simp[h]
def za6 (succ ref:List Nat):copyL true (Rf succ ref).dropLast ref=ref.filter λy=>decide (y∈succ):=by
 have h:=Td succ ref
 obtain⟨l,n,e⟩:∃l n,Rf succ ref=l++[n]:=⟨_,_,(List.dropLast_concat_getLast h.ne).symm⟩
 rw[e,List.dropLast_concat]
 have he:=h.exp
 rw[e] at he
 have hl:ref.length=(l++[n]).sum:=by
  have:=congrArg List.length he;rw[SW,List.length_map] at this;exact this.symm
 rw[z4R true l n ref hl,he,z7Z]
def Qp:Nat->List Nat->List (Cd×Nat)
 |_,[]=>[]
 |i,n::r=>(.gamma,n-min i 1)::Qp (i+1) r
def PM (x least:Nat):Option Nat->List (Nat×Nat)->List (Cd×Nat)
 |_,[]=>[]
 |none,p::r=>(.gamma,zig ((p.1:Int)-x))::(.gamma,p.2-least)::PM x least (some (p.1+p.2-1)) r
 |some e,p::r=>(.gamma,p.1-e-2)::(.gamma,p.2-least)::PM x least (some (p.1+p.2-1)) r
def PN (x k:Nat):Option Nat->List Nat->List (Cd×Nat)
 |_,[]=>[]
 |none,v::r=>(.zeta k,zig ((v:Int)-x))::PN x k (some v) r
 |some u,v::r=>(.zeta k,v-u-1)::PN x k (some v) r
def RE (p:S6)(x:Nat)(succ ref:List Nat)(r:Nat):List (Cd×Nat):=
 (.gamma,succ.length)::if succ=[] then [] else
  (if 0<p.Pb then [(.unary,r)] else [])++
  ((if 0<r then(.gamma,(Rf succ ref).length-1)::Qp 0 (Rf succ ref).dropLast else [])++
  (if Pk succ ref=[] then [] else
   (if 0<p.interval then(.gamma,(PT p.interval (Pk succ ref)).1.length)::PM x p.interval none (PT p.interval (Pk succ ref)).1 else [])++
   PN x p.zeta none (PT p.interval (Pk succ ref)).2))
def Pa (l:List (Cd×Nat)):List Bool:=l.flatMap λp=>p.1.enc p.2
def z6F {succ ref:List Nat}(hs:Ris succ)(hr:Ris ref)(p:Nat):(ref.filter (λy=>decide (y∈succ))++(QW (PT p (Pk succ ref)).1++(PT p (Pk succ ref)).2)).Perm succ:=by
 have h1:(ref.filter λy=>decide (y∈succ)).Perm (succ.filter λv=>decide (v∈ref)):=by
  refine(List.perm_ext_iff_of_nodup (hr.imp (λh=>by omega) |>.filter _) (hs.imp (λh=>by omega) |>.filter _)).2 λa=>?_;simp only[List.mem_filter,decide_eq_true_eq];exact And.comm
 refine(h1.append (TD p _)).trans ?_
 unfold Pk
 have:=List.filter_append_perm (λv=>decide (v∈ref)) succ
 refine List.Perm.trans ?_ this
 refine List.Perm.append_left _ ?_
 simp
def z5Y {a b:List Nat}(h:a.Perm b)(ha:a.Pairwise (·<=·))(hb:Ris b):a=b:=
 h.eq_of_pairwise (le:=(·<=·)) (λx y _ _ h1 h2=>by omega) ha (hb.imp (λh=>by omega))
def T3 (least:Nat):Nat->List (Nat×Nat)->Prop
 |_,[]=>True
 |lo,p::r=>lo<=p.1/\1<=p.2/\least<=p.2/\T3 least (p.1+p.2+1) r
def T3.mono {least:Nat}:∀{r:List (Nat×Nat)} {a b:Nat},T3 least b r->a<=b->T3 least a r
 |[],_,_,_,_=>trivial
 |p::r,a,b,h,hab=>⟨Nat.le_trans hab h.1,h.2⟩
def z7u {x:Nat}{l:List Nat}(h:Ris (x::l)):∀y∈l.drop (PS x l),x+PS x l+2<=y:=by
 intro y hy
 obtain⟨j,hj,e⟩:=List.mem_iff_getElem.1 hy
 rw[List.getElem_drop] at e
 rw[List.length_drop] at hj
 obtain⟨h1,h2⟩:=List.pairwise_cons.1 h
 have hle:=Xa x l
 have h0:PS x l<l.length:=by omega
 obtain⟨z,hz⟩:∃z,l[PS x l]? =some z:=⟨_,List.getElem?_eq_getElem h0⟩
 have hs:=Ww x l z hz
 have hz':=(List.getElem?_eq_some_iff.1 hz).2
 have hzx:x+PS x l<z:=by
  by_cases e0:PS x l=0
  ·have:=h1 z (List.mem_of_getElem? hz);omega
  ·have hg:=VU x l (PS x l-1) (by omega);obtain⟨g1,g2⟩:=List.getElem?_eq_some_iff.1 hg;have:=List.pairwise_iff_getElem.1 h2 (PS x l-1) (PS x l) g1 h0 (by omega);rw[g2,hz'] at this;omega
 have hzy:z<=y:=by
  by_cases e0:j=0
  ·subst e0;simp at e;rw[<-e,<-hz'];exact Nat.le_refl _
  ·have:=List.pairwise_iff_getElem.1 h2 (PS x l) (PS x l+j) h0 (by omega) (by omega);rw[e,hz'] at this;omega
 omega
def UZ (least:Nat):∀(l:List Nat) (lo:Nat),Ris l->(∀y∈l,lo<=y)->T3 least lo (PT least l).1
 |[],lo,_,_=>by rw[PT];trivial
 | x :: l, lo, h, hl => by
   have hb:=z7u h;have h2:Ris (l.drop (PS x l)):=(List.pairwise_cons.1 h).2.sublist (List.drop_sublist _ _);rw[PT];split
   ·rename_i hc
    refine⟨hl x (by simp),by omega,hc.2,UZ least _ _ h2 λy hy=>?_⟩;have:=hb y hy;omega
   ·refine UZ least _ _ h2 λy hy=>?_;have:=hb y hy;have:=hl x (by simp);omega
 termination_by l=>l.length
 decreasing_by all_goals (simp[List.length_drop];omega)
def UB (least:Nat):∀(l:List Nat),(PT least l).2.Sublist l
 |[]=>by rw[PT];exact List.Sublist.refl _
 | x :: l => by
   have ih:=UB least (l.drop (PS x l));rw[PT];split
   ·exact(ih.trans (List.drop_sublist _ _)).cons x
   ·have hc:x::l=(x::l.take (PS x l))++l.drop (PS x l):=by rw[List.cons_append,List.take_append_drop]
    conv=>rhs;rw[hc]
    exact ih.append_left _
 termination_by l=>l.length
 decreasing_by simp[List.length_drop];omega
open Go.Proofs.Tryz
abbrev Pq (n:Nat):Value:= .int .u32 (n:Int)
theorem z4o (m:Nat)(h:m<18446744073709551616):m^^^18446744073709551615=18446744073709551615-m:=by
 have h1:=congrArg BitVec.toNat (BitVec.xor_allOnes (x:=BitVec.ofNat 64 m))
 rw[BitVec.toNat_xor,BitVec.toNat_not,BitVec.toNat_allOnes,BitVec.toNat_ofNat] at h1
 rw[show(2:Nat)^64=18446744073709551616 from rfl,Nat.mod_eq_of_lt h] at h1
 exact h1
section
variable {P:Program}{e:Env}{d:Option Nat}{ty t t':TypeId}{pos:String}{aft:Array Edge}{g:Option (Nat×Bool)}{x y:Operand}{w:World}{m:Nat}
def ziv (hx:look e x=some (I (m:Int)))(hy:look e y=some (I 0))(hm:m<2^63):Y P e ⟨d,.binOp .xor t x y t',ty,pos,aft,g⟩ (I (m:Int)) w w:=fun ρ hρ=>by
 have h1:m<2^IntKind.i64.bits:=by simp only[IntKind.bits];omega
 have h2:(BitVec.ofInt IntKind.i64.bits 0).toNat=0:=by decide
 simp only[execOp,eqGuard_xor,binOp_xor,intBits_xor,hρ _ _ hx,hρ _ _ hy,pure_bind,Sem.run_pure,bits,BitVec.toNat_xor,QO h1,h2,Nat.xor_zero]
 rw[wrap_i64 ⟨by omega,by omega⟩]
def zjG (hx:look e x=some (I (m:Int)))(hy:look e y=some (I (-1)))(hm:m<2^63):Y P e ⟨d,.binOp .xor t x y t',ty,pos,aft,g⟩ (I (-(m:Int)-1)) w w:=fun ρ hρ=>by
 have h1:m<2^IntKind.i64.bits:=by simp only[IntKind.bits];omega
 have h2:(BitVec.ofInt IntKind.i64.bits (-1)).toNat=18446744073709551615:=by decide
 simp only[execOp,eqGuard_xor,binOp_xor,intBits_xor,hρ _ _ hx,hρ _ _ hy,pure_bind,Sem.run_pure,bits,BitVec.toNat_xor,QO h1,h2]
 rw[z4o m (by omega)]
 congr 2
 have h3:((18446744073709551615-m:Nat):Int)=-(m:Int)-1+18446744073709551616:=by omega
 rw[h3]
 simp only[IntKind.wrap,IntKind.bits,IntKind.signed]
 simp
 omega
end
/-! ### Numbers with a sign -/
def z8p (z:Int)(h: -4611686018427387904<=z/\z<4611686018427387904)(w:World):Pm prog 236 [I z] w λu w'=>u=u64v (zig z)/\w'=w:=by
 rcases Int.lt_or_le z 0 with h0|h0
 ·obtain⟨n,rfl⟩:∃n:Nat,z=-(n:Int)-1:=⟨(-z-1).toNat,by omega⟩;refine py (e:=[(0,_)]) func236 O ntmps236 O O$ qN O$ Qt O$ qV (ycv (b:=((18446744073709551615-n:Nat):Int)) O U2 Rr (by simp only[IntKind.wrap,IntKind.bits,IntKind.signed];simp;omega)) ?_;refine qV (QP 1 2 O O (by decide) O)$ OK O$ qV (ysr 63 O O (by decide)) ?_;rw[show(-(n:Int)-1) / 2^63=-1 by omega];refine qV (ycv (b:=((18446744073709551615:Nat):Int)) O U2 Rr (by decide))$ qV (WC O O (by omega) (by omega))$ OU O$ OB func236 O (⟨_,rfl,?_,rfl⟩);rw[z4o _ (by omega)];simp only[Qc]
  congr 2
  unfold zig;rw[if_neg (by omega)];omega
 ·obtain⟨n,rfl⟩:∃n:Nat,z=(n:Int):=⟨z.toNat,by omega⟩;refine py (e:=[(0,_)]) func236 O ntmps236 O O$ qN O$ Qt O$ qV ((PZ O U2 Rr (by omega)))$ qV (QP 1 2 O O (by decide) O)$ OK O$ qV (Sc 63 9223372036854775808 O O (by decide) O)$ qV ((PZ O U2 Rr (by omega)))$ qV (WC O O (by omega) (by omega))$ OU O$ OB func236 O (⟨_,rfl,?_,rfl⟩);rw[show n / 9223372036854775808=0 by omega,Nat.xor_zero];simp only[Qc]
  congr 2
  unfold zig;rw[if_pos (by omega)];omega
def z8H (n:Nat)(h:n<9223372036854775808)(w:World):Pm prog 261 [u64v n] w λu w'=>u=I (zag n)/\w'=w:=by
 refine py (e:=[(0,_)]) func261 O ntmps261 O O$ qN O$ Qt O$ qV (Sc 1 2 O O (by decide) O)$ qV (PJ O Rr U2 (by omega))$ OK O$ qV (Tk O O (by omega) (by omega)) ?_
 rw[Nat.and_one_is_mod]
 refine qV (PJ O Rr U2 (by omega)) ?_
 rcases Nat.mod_two_eq_zero_or_one n with h0|h0
 ·rw[h0];refine qV (yng O (by decide) (by decide))$ qV (ziv O O (by omega))$ OU O$ OB func261 O (⟨_,rfl,?_,rfl⟩);simp only[Qc];unfold zag;rw[if_pos h0]
 ·rw[h0];refine qV (yng O (by decide) (by decide))$ qV (zjG O O (by omega))$ OU O$ OB func261 O (⟨_,rfl,?_,rfl⟩);simp only[Qc];unfold zag;rw[if_neg (by omega)]
/-! ### The parameters -/
def lpC (p:S6):List Value:=[I (p.Pb:Int),I (p.interval:Int),I (p.zeta:Int)]
abbrev lpV (p:S6):Value:= .agg (lpC p).toArray
def S6.QA (p:S6):Prop:=p.Pb<=16/\(p.interval=0\/2<=p.interval/\p.interval<=64)/\1<=p.zeta/\p.zeta<=16
def U0 (p:S6)(hp:p.QA)(w:World):Pm prog 208 [lpV p] w λu w'=>u=I 0/\Ext w w':=by
 obtain⟨h1,h2,h3,h4⟩:=hp
 refine py (e:=[(0,_)]) func208 O ntmps208 O O$ qN O$ OM O O (Rm O (cs:=lpC p) O) ?_
 rintro _ w1 ⟨b1,rfl,bU,ad,aj⟩
 replace aj:OR w1 b1 [I (p.Pb:Int),I (p.interval:Int),I (p.zeta:Int)] 279:=aj
 refine OU O$ Qx$ It$ qN O$ OX Tg O$ qV (OO U3 O O aj O)$ Qq O$ PF$ OK O$ OX Tg O$ qV (OO U3 O O aj O)$ Qu O$ PF$ PK O ?_
 refine OU O$ OJ O$ qN O$ OX z0J O$ qV (OO U3 O O aj O)$ Qq O$ PF$ OK O$ OX z0J O$ qV (OO U3 O O aj O)$ Qu O$ PF$ PK O$ OU O ?_
 refine OJ O$ OL O$ OX Ul O$ qV (OO U3 O O aj O)$ Qf O$ SC (λe1=>?_)$ λe1=>?_
 ·refine OK O$ OX Ul O$ qV (OO U3 O O aj O)$ Qq O$ PF$ OK O$ OX Ul O$ qV (OO U3 O O aj O)$ Qu O$ PF$ PK O$ QJ O$ OU O$ Pn.qb (e:=[(2,_),(3,_)]) ?_;refine Tu O$ OA$ QB O$ OB func208 O ?_;exact⟨_,rfl,rfl,ad⟩
 ·refine OK O$ QG$ QG$ QG$ QG$ PK O$ OU O$ Pn.qb (e:=[(2,_),(3,_)]) ?_;refine Tu O$ OA$ QB O$ OB func208 O ?_;exact⟨_,rfl,rfl,ad⟩
def VT (n:Nat)(h:n<65536)(w:World):Pm prog 230 [I (n:Int)] w λu w'=>u= .bool true/\w'=w:=by
 refine py (e:=[(0,_)]) func230 O ntmps230 O O$ qN O$ Qt O$ Te O$ Rp$ P8 O$ Qq O$ Rp$ QJ O$ OU O$ OB func230 O ?_
 exact⟨_,rfl,rfl,rfl⟩
structure PE (l:List Nat):Prop where
 ZN:Ris l
 lt:∀y∈l,y<65536
def z3W:∀(l:List Nat) (lo hi:Nat),Ris l->(∀y∈l,lo<=y/\y<hi)->lo<=hi->lo+l.length<=hi
 |[],lo,hi,_,_,h=>h
 | x :: l, lo, hi, hr, hm, h => by
   have h1:=(List.pairwise_cons.1 hr);have h2:=hm x List.mem_cons_self;have:=z3W l (x+1) hi h1.2 (λy hy=>⟨h1.1 y hy,(hm y (List.mem_cons_of_mem _ hy)).2⟩) (by omega);rw[List.length_cons];omega
theorem PE.len {l:List Nat}(h:PE l):l.length<=65536:=by
 have:=z3W l 0 65536 h.ZN (λy hy=>⟨Nat.zero_le _,h.lt y hy⟩) (by decide)
 omega
def PE.sub {l m:List Nat}(h:PE l)(hs:m.Sublist l):PE m:=⟨h.ZN.sublist hs,λy hy=>h.lt y (hs.subset hy)⟩
def WA (v:Value)(l:List Nat)(hl:PE l)(w:World)(hr:Rd w v 1 l.length (l.map Pq)):
  Pm prog 231 [v] w λu w'=>u= .bool true/\w'=w:=by
 have az:=hl.len
 obtain⟨a,cap,rfl,ha⟩:=hr.shape
 refine py (e:=[(0,_)]) func231 O ntmps231 O O$ QB O$ PG O$ Rv Ps O$ OK O$ OD$ OH$ Rq (α:=Nat) (0) (λi=>[(0,.slice a l.length cap),(5,.slice a l.length cap),(6,I (l.length:Int)),(7,I (i:Int))]) (λi w'=>w'=w/\i<=l.length) (λi=>l.length-i) ?hI ?hround
 case hI=>exact⟨rfl,by omega⟩
 case hround=>
  rintro i _ ⟨rfl,hi⟩ ih
  try dsimp only
  refine qN O$ Qq O$ OD$ It$ OQ O (λaZ=>?_)$ λaZ=>?_
  ·have gh:i<l.length:=by omega
   have hy:=hl.lt l[i] (List.getElem_mem gh);rcases hr.2 with⟨c,-,h⟩|⟨b,off,cap',lR,aW⟩
   ·omega
   cases lR;refine OE$ Qx$ Pf O$ qV (PX Ps OP O O (by omega))$ qV (Pr Py O O (aW (i*1) (Pq l[i]) (by simp[gh]))) ?_;refine RT O$ Qt O$ Te O$ PF$ P8 O$ Qu O$ SC (λe1=>?_)$ λe1=>?_
   ·have hp:l[i-1]<l[i]:=(List.pairwise_iff_getElem.1 hl.ZN) (i-1) i (by omega) gh (by omega);refine P8 O$ P8 O$ Ro O ?_;rw[show(i:Int)-1=((i-1:Nat):Int) by omega];refine qV (PX Ps OP O O (by omega))$ qV (Pr Py O O (aW ((i-1)*1) (Pq l[i-1]) (by simp[show i-1<l.length by omega]))) ?_;refine zle O$ PF$ QJ O$ PK O$ PW O$ OA$ OL O$ PV O$ OK O$ OD ?_;exact(ih (i+1) _ ⟨rfl,by omega⟩ (by omega)).qb
   ·refine OK O$ QG$ QG$ QG$ qS$ PK O$ PK O$ PW O$ OA$ OL O$ PV O$ OK O$ OD ?_;exact(ih (i+1) _ ⟨rfl,by omega⟩ (by omega)).qb
  ·refine ON O$ QB O$ OB func231 O ?_;exact⟨_,rfl,rfl,rfl⟩
def zc4 (p:S6)(hp:p.QA)(x:Nat)(hx:x<65536)(v u:Value)(l m:List Nat)(r:Nat)(hl:PE l)(hm:PE m)(hr:r<=p.Pb)(lS:r=0->m=[])(w:World)
  (fR:Rd w v 1 l.length (l.map Pq)) (AU:Rd w u 1 m.length (m.map Pq)):
  Pm prog 209 [lpV p,I (x:Int),v,u,I (r:Int)] w λo w'=>o= .bool true/\Ext w w':=by
 obtain⟨h1,h2,h3,h4⟩:=id hp
 refine py (e:=[(0,_),(1,_),(2,_),(3,_),(4,_)]) func209 O ntmps209 O O$ qN O$ OM O O (Rm O (cs:=lpC p) O) ?_
 rintro _ w1 ⟨b1,rfl,bU,ad,aj⟩
 refine Qw O$ qV (Pt (news:=lpC p) Zd O Uf O (aj.cells (n:=3) O) O)$ P4 z5n O (U0 p hp w1) ?_
 rintro _ w2 ⟨rfl,ae⟩
 have am:=ae.OC aj
 replace am:OR w2 b1 [I (p.Pb:Int),I (p.interval:Int),I (p.zeta:Int)] 279:=am
 refine Ri O$ Rp$ P8 O$ P4 z7K O (VT x hx w2) ?_
 rintro _ w3 ⟨rfl,rfl⟩
 refine QJ O$ P8 O$ P4 z5C O (WA v l hl w3 (fR.ext (ad.trans ae))) ?_
 rintro _ w4 ⟨rfl,rfl⟩
 refine QJ O$ P8 O$ P4 z5C O (WA u m hm w4 (AU.ext (ad.trans ae))) ?_
 rintro _ w5 ⟨rfl,rfl⟩
 refine QJ O$ OK O ?_
 obtain⟨ua,uc,rfl,-⟩:=AU.shape
 refine OK O$ Te O$ Rp$ QJ O$ P8 O$ OX Tg O$ qV (OO U3 O O am O)$ zle O$ Rp$ QJ O$ P8 O$ Qu O$ SC (λe1=>?_)$ λe1=>?_
 ·refine OK O$ QG$ qS$ QJ O$ QJ O$ OU O$ Pn.qb (e:=[(10,_)]) ?_;refine OB func209 O ?_;exact⟨_,rfl,rfl,ad.trans ae⟩
 ·have e2:=lS (by omega);subst e2;refine P8 O$ Rv Ps O$ Ri O$ Rp$ PK O$ QJ O$ OU O$ Pn.qb (e:=[(10,_)]) ?_;refine OB func209 O ?_;exact⟨_,rfl,rfl,ad.trans ae⟩
def YW (l:List Nat):∀c∈l.map Pq,c.oneCell'=true:=by
 intro c hc
 obtain⟨x,-,rfl⟩:=List.mem_map.1 hc
 rfl
def z2b (p:Nat×Nat):List Value:=[I (p.1:Int),I (p.2:Int)]
theorem za1 (l:List (Nat×Nat)):(l.flatMap z2b).length=l.length*2:=by
 induction l with
 |nil=>rfl
 |cons p l ih=>rw[List.flatMap_cons,List.length_append,ih,List.length_cons,show(z2b p).length=2 from rfl];omega
theorem Sl.oneV {w:World}{v:Value}{e size n:Nat}{cs:List Value}(h:Sl w v e size n cs):oneV v=true:=by
 rcases h.shape with⟨rfl,-⟩|⟨g,cap,rfl,-⟩<;>rfl
structure ze6 (w:World)(l:List Nat)(least:Nat)(r:List Nat)(a:Option Addr)(cap:Nat)(v4 v5:Value)(R:List (Nat×Nat))(O_:List Nat)(w':World):Prop where
 ext:Ext w w'
 cl:r.length<=cap
 rd:Rd w (.slice a r.length cap) 1 r.length (r.map Pq)
 s4:Sl w' v4 350 2 R.length (R.flatMap z2b)
 s5:Sl w' v5 106 1 O_.length (O_.map Pq)
 f4:∀g,v4.ownBlock=some g->w.heap.size<=g
 f5:∀g,v5.ownBlock=some g->w.heap.size<=g
 ne:∀g,v4.ownBlock=some g->v5.ownBlock≠some g
 ok:PE r
 eq:PT least l=(R++(PT least r).1,O_++(PT least r).2)
 len:R.length+O_.length+r.length<=65536
def Sx {w:World}{a:Option Addr}{n cap i:Nat}{cs:List Value}(h:Rd w (.slice a n cap) 1 n cs)(hi:i<=n)(hc:n<=cap):Rd w (.slice (if cap=i then a else a.map (·.add (i*1))) (n-i) (cap-i)) 1 (n-i) (cs.drop i):=by
 have hl:=h.1
 refine⟨by rw[List.length_drop,hl];omega,?_⟩
 rcases h.2 with⟨c,hv,h0⟩|⟨b,off,cap',hv,aW⟩
 ·refine .inl ⟨((if cap=i then a else a.map (·.add (i*1))),cap-i),?_,by omega⟩;rw[show n-i=0 by omega]
 ·cases hv;by_cases e:cap=i
  ·rw[if_pos e];refine .inl ⟨(some ⟨b,off,none⟩,cap-i),?_,by omega⟩;rw[show n-i=0 by omega]
  ·rw[if_neg e];refine .inr ⟨b,off+i*1,cap-i,?_,λj u hu=>?_⟩
   ·simp only[Option.map_some,R8]
   ·rw[List.getElem?_drop] at hu;have:=aW (i+j) u hu;rw[show off+i*1+j=off+(i+j) by omega];exact this
def Ts {w:World}{a:Option Addr}{n cap i:Nat}{cs:List Value}(h:Rd w (.slice a n cap) 1 n cs)(hi:i<=n):Rd w (.slice a i cap) 1 i (cs.take i):=by
 have hl:=h.1
 refine⟨by rw[List.length_take,hl];omega,?_⟩
 rcases h.2 with⟨c,hv,h0⟩|⟨b,off,cap',hv,aW⟩
 ·refine .inl ⟨(a,cap),?_,by omega⟩;rw[show i=0 by omega]
 ·cases hv;refine .inr ⟨b,off,cap,rfl,λj u hu=>?_⟩;rw[List.getElem?_take] at hu;split at hu
  ·exact aW j u hu
  ·cases hu
def ze6.grow {w w1 w2:World}{l r:List Nat}{least cap:Nat}{a:Option Addr}{v4 v5:Value}{R:List (Nat×Nat)}{O_:List Nat}(h:ze6 w l least r a cap v4 v5 R O_ w1)(hx:Ext w1 w2):ze6 w l least r a cap v4 v5 R O_ w2:=
 ⟨h.ext.trans hx,h.cl,h.rd,h.s4.ext hx,h.s5.ext hx,h.f4,h.f5,h.ne,h.ok,h.eq,h.len⟩
def zaE (a:Option Addr)(cap:Nat)(l:List Nat)(least:Nat)(qW:PE l)(jP:l.length<=cap)(j7:least<=64)(w:World)(hr:Rd w (.slice a l.length cap) 1 l.length (l.map Pq)):
  Pm prog 235 [.slice a l.length cap,I (least:Int)] w λu w'=>∃v4 v5,u= .tuple #[v4,v5]/\Sl w' v4 350 2 (PT least l).1.length ((PT least l).1.flatMap z2b)/\
   Sl w' v5 106 1 (PT least l).2.length ((PT least l).2.map Pq)/\Ext w w'/\(∀g,v4.ownBlock=some g->w.heap.size<=g)/\(∀g,v5.ownBlock=some g->w.heap.size<=g)/\∀g,v4.ownBlock=some g->v5.ownBlock≠some g:=by
 refine py (e:=[(0,_),(1,_)]) func235 O ntmps235 O O$ qN O$ PU O$ Qx$ Rq (α:=List Nat×Option Addr×Nat×Value×Value×List (Nat×Nat)×List Nat) ((l,a,cap,.slice none 0 0,.slice none 0 0,[],[])) (λx=>[(0,.slice x.2.1 x.1.length x.2.2.1),(1,I (least:Int)),(4,x.2.2.2.1),(5,x.2.2.2.2.1)]) (λx w'=>ze6 w l least x.1 x.2.1 x.2.2.1 x.2.2.2.1 x.2.2.2.2.1 x.2.2.2.2.2.1 x.2.2.2.2.2.2 w') (λx=>x.1.length) ?hI ?hround
 case hI=>exact⟨Ext.refl _,jP,hr,Sl.nil _ _ _,Sl.nil _ _ _,(λg h=>by cases h),(λg h=>by cases h),(λg h=>by cases h),qW,rfl,by have:=qW.len;simp;omega⟩
 case hround =>
  rintro⟨r,a1,c1,v4,v5,R,O_⟩ w6 hI ih;dsimp only at hI
  try dsimp only
  refine PG O$ Rv Ps O$ Qu O$ OD$ OQ O (λh0=>?_)$ λh0=>?_
  ·obtain⟨y,r',rfl⟩:∃y r',r=y::r':=by
    cases r with
    |nil=>exact absurd h0 (by simp)
    |cons y r'=>exact⟨y,r',rfl⟩
   have fR:=Xa y r';have Jz:=hI.ok.lt y List.mem_cons_self;have j8:=hI.ok.len;rw[List.length_cons] at j8
   obtain⟨b,off,lR,aW⟩:∃b off,a1=some ⟨b,off,none⟩/\∀j u,((y::r').map Pq)[j]? =some u->w6.cell? ⟨b,off+j,none⟩=some u:=by
    rcases (hI.rd.ext hI.ext).2 with⟨c,-,h⟩|⟨b,off,cap',lR,aW⟩
    ·exact absurd h (by simp)
    ·cases lR;exact⟨b,off,rfl,aW⟩
   subst lR
   have jV:∀w',Ext w w'->∀j u,((y::r').map Pq)[j]? =some u->w'.cell? ⟨b,off+j,none⟩=some u:=λw' hx=>by
    rcases (hI.rd.ext hx).2 with⟨c,-,h⟩|⟨b',off',cap',lR,hc⟩
    ·exact absurd h (by simp)
    ·cases lR;exact hc
   clear aW;refine OE$ OH$ QB O$ Qx$ RX (λe' w'=>Ext w6 w'/\e'=[(0,.slice (some ⟨b,off,none⟩) (y::r').length c1),(1,I (least:Int)),(4,v4),(5,v5),(6,I ((PS y r'+1:Nat):Int))]) ?sF$ λsF=>?Cc
   case sF=>
    rintro e' w6z ⟨aI,rfl⟩;replace hI:=hI.grow aI;have aW:=jV _ hI.ext
    generalize hn:PS y r'+1=n
    have qX:=hI.cl;rw[List.length_cons] at qX;have dP:=hI.eq;have az:=hI.len;rw[List.length_cons] at az;have cX:1<=n/\n<=r'.length+1:=by omega
    have vB:r'.drop (PS y r')=(y::r').drop n:=by rw[<-hn];rfl
    have jO:y::r'.take (PS y r')=(y::r').take n:=by rw[<-hn];rfl
    rw[PT] at dP;simp only[hn,vB,jO] at dP;have ay:PE ((y::r').drop n):=hI.ok.sub (List.drop_sublist _ _);have dB:=Sx hI.rd (i:=n) (by rw[List.length_cons];omega) hI.cl;rw[<-List.map_drop,show(y::r').length-n=((y::r').drop n).length by rw[List.length_drop]] at dB;have jz:((y::r').drop n).length=r'.length+1-n:=by rw[List.length_drop,List.length_cons]
    by_cases hL:0<least/\least<=n
    ·obtain⟨sG,HK⟩:=hL;rw[if_pos ⟨sG,HK⟩] at dP;refine PG O$ Qu O$ Rp$ P8 O$ OK O$ Te O$ Rp$ QJ O$ OD$ OS O$ OL O$ P8 O$ qV (PX Ps OP O O (by omega))$ qV (Pr Py O O (aW (0*1) (Pq y) O)) ?_;refine qV (PJ O Py U3 (by omega))$ OK O$ qV (Sk (cs:=[_,_]) z1V O zgW O O)$ OM O O (Wj (cs:=[_,_]) (zs:=[Value.int .i64 0,Value.int .i64 0]) zbW z1V O (by kernel_rfl) O O O (by decide)) ?_;rintro _ w7 ⟨b7,rfl,⟨jS,bY,bP⟩,gP⟩;refine OM O O (pap zbW z1V O (by decide) O O (hI.s4.ext bY) gP.rd (by intro c hc;simp at hc;rcases hc with rfl|rfl<;>rfl) (by omega) (by simp only[maxLen];omega)) ?_;rintro v4' w8 ⟨eV,aR,kP,-⟩;have mF:=eV.oneV;have hz:=hI.ext.size;have ww:=bY.size;have dy:Ext w w8:=(hI.ext.trans bY).An aR (λi hi=>hI.f4 i hi);have oF:Sl w8 v5 106 1 O_.length (O_.map Pq):=(hI.s5.ext bY).kp aR (λg hg e=>hI.ne g e hg);refine OU O$ OL O$ P8 O$ qV (XR Ps OP O O (by rw[List.length_cons];omega) hI.cl) ?_;refine OU O$ OA ?_;rw[show(y::r').length-n=((y::r').drop n).length by rw[List.length_drop]];refine(ih ((y::r').drop n,_,c1-n,v4',v5,R++[(y,n)],O_) _ ⟨dy,by dsimp only;rw[jz];omega,dB,?_,oF,?_,hI.f5,?_,ay,?_,?_⟩ ?_).qb
     ·dsimp only;rw[List.length_append,List.flatMap_append];exact eV
     ·intro g hg;rcases kP g hg with h| h
      ·exact hI.f4 g h
      ·omega
     ·intro g hg e;rcases kP g hg with h| h
      ·exact hI.ne g h e
      ·have:=hI.s5.lt e;omega
     ·dsimp only;rw[dP,List.append_assoc];rfl
     ·dsimp only;rw[List.length_append,List.length_singleton,jz];omega
     ·dsimp only;rw[jz,List.length_cons];omega
    ·rw[if_neg hL] at dP;rcases Nat.eq_zero_or_pos least with e0|e0
     ·refine PG O$ Qu O$ PF$ OK O$ QG$ qS$ PK O$ OD$ OJ O$ OL O$ P8 O$ OK O$ qV (zc0 Ps OP O O (by omega))$ OM O O (pap Ps OP O (by decide) O O hI.s5 (Ts (hI.rd.ext hI.ext) (i:=n) (by rw[List.length_cons];omega)) (by rw[<-List.map_take];exact YW _) (by omega) (by simp only[maxLen];omega)) ?_;rintro v5' w8 ⟨eV,aR,kP,-⟩;have mF:=eV.oneV;have hz:=hI.ext.size;have dy:Ext w w8:=hI.ext.An aR (λi hi=>hI.f5 i hi);have vC:Sl w8 v4 350 2 R.length (R.flatMap z2b):=hI.s4.kp aR (λg hg e=>hI.ne g hg e);refine OU O$ OL O$ P8 O$ qV (XR Ps OP O O (by rw[List.length_cons];omega) hI.cl) ?_;refine OU O$ OA ?_;rw[show(y::r').length-n=((y::r').drop n).length by rw[List.length_drop]];have kQ:((y::r').take n).length=n:=by rw[List.length_take,List.length_cons];omega
      refine(ih ((y::r').drop n,_,c1-n,v4,v5',R,O_++(y::r').take n) _ ⟨dy,by dsimp only;rw[jz];omega,dB,vC,?_,hI.f4,?_,?_,ay,?_,?_⟩ ?_).qb
      ·dsimp only;rw[List.length_append,List.map_append,kQ,List.map_take];exact eV
      ·intro g hg;rcases kP g hg with h| h
       ·exact hI.f5 g h
       ·omega
      ·intro g hg e;rcases kP g e with h| h
       ·exact hI.ne g hg h
       ·have:=hI.s4.lt hg;omega
      ·dsimp only;rw[dP,List.append_assoc]
      ·dsimp only;rw[List.length_append,kQ,jz];omega
      ·dsimp only;rw[jz,List.length_cons];omega
     ·have HK:¬least<=n:=λh=>hL ⟨e0,h⟩;refine PG O$ Qu O$ Rp$ P8 O$ OK O$ Te O$ PF$ QJ O$ OD$ OJ O$ OL O$ P8 O$ OK O$ qV (zc0 Ps OP O O (by omega)) ?_;refine OM O O (pap Ps OP O (by decide) O O hI.s5 (Ts (hI.rd.ext hI.ext) (i:=n) (by rw[List.length_cons];omega)) (by rw[<-List.map_take];exact YW _) (by omega) (by simp only[maxLen];omega)) ?_;rintro v5' w8 ⟨eV,aR,kP,-⟩;have mF:=eV.oneV;have hz:=hI.ext.size;have dy:Ext w w8:=hI.ext.An aR (λi hi=>hI.f5 i hi);have vC:Sl w8 v4 350 2 R.length (R.flatMap z2b):=hI.s4.kp aR (λg hg e=>hI.ne g hg e);refine OU O$ OL O$ P8 O$ qV (XR Ps OP O O (by rw[List.length_cons];omega) hI.cl) ?_;refine OU O$ OA ?_;rw[show(y::r').length-n=((y::r').drop n).length by rw[List.length_drop]];have kQ:((y::r').take n).length=n:=by rw[List.length_take,List.length_cons];omega
      refine(ih ((y::r').drop n,_,c1-n,v4,v5',R,O_++(y::r').take n) _ ⟨dy,by dsimp only;rw[jz];omega,dB,vC,?_,hI.f4,?_,?_,ay,?_,?_⟩ ?_).qb
      ·dsimp only;rw[List.length_append,List.map_append,kQ,List.map_take];exact eV
      ·intro g hg;rcases kP g hg with h| h
       ·exact hI.f5 g h
       ·omega
      ·intro g hg e;rcases kP g e with h| h
       ·exact hI.ne g hg h
       ·have:=hI.s4.lt hg;omega
      ·dsimp only;rw[dP,List.append_assoc]
      ·dsimp only;rw[List.length_append,kQ,jz];omega
      ·dsimp only;rw[jz,List.length_cons];omega
   case Cc =>
    refine Rq (α:=Nat) (1) (λi=>[(0,.slice (some ⟨b,off,none⟩) (y::r').length c1),(1,I (least:Int)),(4,v4),(5,v5),(6,I (i:Int))]) (λi w'=>Ext w6 w'/\1<=i/\i<=PS y r'+1) (λi=>PS y r'+2-i) ?hI ?hround
    case hI=>exact⟨Ext.refl _,by omega,by omega⟩
    case hround=>
     rintro i w7 ⟨bY,AW,dC⟩ ih2
     try dsimp only
     refine It$ It ?_;have hg:=(Ext.refl w7).drew;refine R5 (λw'=>Ext w7 w') O$ OZ 0 O O (hg)$ OZ 1 O O (hg)$ OI 2 O (SF Ps O) hg$ OI 3 O (ylt O O) hg$ ziH (λe1=>?_)$ λe1=>?_
     ·have AX:i<r'.length+1:=by rw[List.length_cons] at e1;omega
      have bQ:r'[i-1]? =some (r'[i-1]'(by omega)):=List.getElem?_eq_getElem (by omega);have NA:r'[i-1]'(by omega)<65536:=hI.ok.lt _ (List.mem_cons_of_mem _ (List.getElem_mem _));refine OZ 4 O O (hg)$ OZ 5 O O (hg)$ OZ 6 O O (hg)$ OI 7 O (PX Ps OP O O (by omega)) hg$ OZ 9 O O (hg)$ OI 10 O (PX Ps OP O O (by omega)) hg$ OZ 12 O O (hg)$ OI 13 O (z0U O U3 Py) hg$ qT 8 O (λ_ hS=>Pr Py O O (by exact jV _ ((hI.ext.trans bY).trans hS) (i*1) (Pq (r'[i-1]'(by omega))) (by rw[List.getElem?_map,show i*1=(i-1)+1 by omega,List.getElem?_cons_succ,bQ];rfl))) hg ?_;refine qT 11 O (λ_ hS=>Pr Py O O (by exact jV _ ((hI.ext.trans bY).trans hS) (0*1) (Pq y) O)) hg ?_;refine OI 14 O (ziB O O) hg$ OI 15 O (yeq O O) hg$ OI 16 O (UJ O O) hg$ qE$ OQ O (λe2=>?_)$ λe2=>?_
      ·refine OE$ OH$ Rh O$ PV O$ OU O$ OA ?_
       have bT:i≠PS y r'+1:=λe=>by
        subst e;have:=Ww y r' (r'[PS y r'+1-1]'(by omega)) (by rw[<-bQ];simp);omega
       exact(ih2 (i+1) _ ⟨bY.trans hg,by omega,by omega⟩ (by omega)).qb
      ·have wG:i=PS y r'+1:=by
        rcases Nat.lt_or_ge (i-1) (PS y r') with h| h
        ·have h1:=VU y r' (i-1) h;rw[bQ] at h1;have h2:=QU h1;exact absurd (by omega) e2
        ·omega
       refine ON O ?_;subst wG;exact(sF _ _ ⟨bY.trans hg,rfl⟩).qb
     ·have wG:i=PS y r'+1:=by rw[List.length_cons] at e1;omega
      refine OZ 4 O O (hg)$ qJ 5 O (hg)$ qJ 6 O (hg)$ qJ 7 O (hg)$ qJ 8 O (hg)$ qJ 9 O (hg)$ qJ 10 O (hg)$ qJ 11 O (hg)$ qJ 12 O (hg)$ qJ 13 O (hg)$ qJ 14 O (hg)$ qJ 15 O (hg)$ OI 16 O (Ub O O) hg$ qE ?_;refine OJ O$ ON O ?_;subst wG;exact(sF _ _ ⟨bY.trans hg,rfl⟩).qb
  ·have eZ:r=[]:=List.eq_nil_of_length_eq_zero (by omega);subst eZ;refine ON O$ Qm O$ PU O$ OB func235 O ?_;have dP:=hI.eq;simp only[PT,List.append_nil] at dP;rw[dP];exact⟨_,rfl,v4,v5,rfl,hI.s4,hI.s5,hI.ext,hI.f4,hI.f5,hI.ne⟩
structure VsM (w:World)(p:Nat)(v:Value)(T el:TypeId)(size n:Nat)(cs:List Value):Prop where
 OC:OR w p [v] T
 sl:Sl w v el size n cs
 ne:v.ownBlock≠some p
def VsA (w:World)(p:Nat)(T el:TypeId)(size n:Nat)(cs:List Value)(F:Nat->Prop):Prop:=∃v,VsM w p v T el size n cs/\∀k,F k↔fpW p v k
section
variable {w w':World}{p:Nat}{T el:TypeId}{size n:Nat}{cs:List Value}{F S:Nat->Prop}
def VsA.lt (h:VsA w p T el size n cs F){k:Nat}(hk:F k):k<w.heap.size:=by
 obtain⟨bv,hM,hF⟩:=h
 rcases (hF k).1 hk with e| e
 ·rw[e];exact hM.OC.lt
 ·exact hM.sl.lt e
def VsA.kp (h:VsA w p T el size n cs F)(k:Kp S w w')(hn:∀i,F i->¬S i):VsA w' p T el size n cs F:=by
 obtain⟨bv,hM,hF⟩:=h
 exact⟨bv,⟨k.OC hM.OC (hn p ((hF p).2 (.inl O))),hM.sl.kp k (λg hg=>hn g ((hF g).2 (.inr hg))),hM.ne⟩,hF⟩
def VsA.ext (h:VsA w p T el size n cs F)(k:Ext w w'):VsA w' p T el size n cs F:=h.kp k.kp λ_ _=>id
end
def zbJ {P:Program}{e:Env}{d:Option Nat}{ty t t':TypeId}{pos:String}{aft:Array Edge}{g:Option (Nat×Bool)}{x y:Operand}{w:World}{p q:Bool}(hx:look e x=some (.bool p))(hy:look e y=some (.bool q))(ht:P.underlying t=some .bool):Y P e ⟨d,.binOp .neq t x y t',ty,pos,aft,g⟩ (.bool (!(p==q))) w w:=fun ρ hρ=>by
 simp[execOp,hρ _ _ hx,hρ _ _ hy,eqGuard_at_bool,run_neq_bool w t p q ht]
def z5V (q:Cd×Nat):List Value:=Sy q.1++[u64v q.2]
abbrev z5r (w:World)(p:Nat)(L:List (Cd×Nat))(F:Nat->Prop):Prop:=VsA w p 314 319 3 L.length (L.flatMap z5V) F
abbrev z3H (w:World)(p:Nat)(L:List Nat)(F:Nat->Prop):Prop:=VsA w p 49 106 1 L.length (L.map Pq) F
abbrev z2k (w:World)(p:Nat)(L:List Nat)(F:Nat->Prop):Prop:=VsA w p 43 3 1 L.length (L.map λn:Nat=>I (n:Int)) F
def Tw {w:World}{p:Nat}{L:List (Cd×Nat)}{F:Nat->Prop}(h:z5r w p L F)(hl:L.length<=1000000)(c:Cd)(v:Nat)(hv:v<9223372036854775808):
  Pm prog 232 [cdV c,I (v:Int),ptr p 0] w λu w'=>u= .tuple #[]/\∃F',z5r w' p (L++[(c,v)]) F'/\Kp F w w'/\∀k,F' k->F k\/w.heap.size<=k:=by
 obtain⟨x,y,du,pa,Ce⟩:∃x y,Sy c=[x,y]/\x.oneCell'=true/\y.oneCell'=true:=by cases c<;>exact⟨_,_,rfl,rfl,rfl⟩
 obtain⟨bv,hM,hF⟩:=h
 have qY:cdV c= .agg [x,y].toArray:=by rw[cdV,du]
 rw[qY]
 have JA:∀c∈[x,y,u64v v],c.oneCell'=true:=by
  intro c hc;rcases List.mem_cons.1 hc with rfl|hc
  ·exact pa
  rcases List.mem_cons.1 hc with rfl|hc
  ·exact Ce
  rcases List.mem_cons.1 hc with rfl|hc
  ·rfl
  ·simp at hc
 refine py (e:=[(0,_),(1,_),(2,_)]) func232 O ntmps232 O O$ qN O$ OM O O (Rm O (cs:=[x,y]) O) ?_
 rintro _ w1 ⟨b3,rfl,eG,ad,au⟩
 have iW:=ad.OC hM.OC
 refine OD$ OL O$ qV (OO z1z O O iW O)$ qV (Pt (news:=[x,y]) St O QS O (au.cells (n:=2) O) O)$ OK O$ qV ((PZ O U3 Rr (by omega)))$ qV (Sk (cs:=[_,_,_]) Vy O zev O O)$ OM O O (Wj (cs:=[_,_,_]) (zs:=[Value.int .u8 0,Value.int .u64 0,Value.int .u64 0]) z1z Vy O (by kernel_rfl) O O O (by decide)) ?_
 rintro _ w2 ⟨b2,rfl,⟨cn,ae,am⟩,cH⟩
 refine OM O O (pap z1z Vy O (by decide) O O ((hM.sl.ext ad).ext ae) cH.rd JA (by omega) (by simp only[maxLen];omega)) ?_
 rintro v3 w3 ⟨cy,av,fZ,-⟩
 have mF:=cy.oneV
 have aK:=av.OC (ae.OC iW) hM.ne
 refine OW O (QQ zbu O O mF aK (by simp)) ?_
 rintro w4 ⟨aH,ao⟩
 replace aH:OR w4 p [v3] 314:=aH
 have z1:=ad.size
 have z2:=ae.size
 have lp:=hM.OC.lt
 have f7:v3.ownBlock≠some p:=λe=>by
  rcases fZ p e with e| e
  ·exact hM.ne e
  ·omega
 have dO:=cy.kp ao (λg hg e=>f7 (e▸hg))
 refine OD$ Qv func232 O (⟨_,rfl,rfl,fpW p v3,⟨v3,⟨aH,?_,f7⟩,λ_=>Iff.rfl⟩,?_,?_⟩)
 ·rw[List.length_append,List.flatMap_append];have e1:[(c,v)].flatMap z5V=[x,y,u64v v]:=by simp[z5V,du]
  rw[e1];exact dO
 ·exact((ad.trans ae).kp.trans (av.OV λk e=>(hF k).2 (.inr e))).trans (ao.OV λk e=>(hF k).2 (.inl e))
 ·intro k hk;rcases hk with e| e
  ·exact .inl ((hF k).2 (.inl e))
  ·rcases fZ k e with e| e
   ·exact .inl ((hF k).2 (.inr e))
   ·exact .inr (by omega)
def Vk (rs:List Nat)(f:Bool):List Nat:=if f !=(rs.length%2==1) then rs++[0] else rs
theorem z0L (rs:List Nat)(f:Bool):R3 rs f=(Vk rs f).modify ((Vk rs f).length-1) (·+1):=rfl
abbrev z6k (n:Nat):Value:=I (n:Int)
def z2x {w:World}{lf rn:Nat}{L:List Nat}{F:Nat->Prop}(h:z3H w lf L F)(hl:L.length<=1000000)(x:Nat)(a:Bool):
  Pm prog 234 [Pq x,.bool a,.bool false,ptr lf 0,ptr rn 0] w λu w'=>u= .tuple #[]/\∃F',z3H w' lf (L++[x]) F'/\Kp F w w'/\∀k,F' k->F k\/w.heap.size<=k:=by
 obtain⟨bv,hM,hF⟩:=h
 refine py (e:=[(0,_),(1,_),(2,_),(3,_),(4,_)]) func234 O ntmps234 O O ?_
 have iW:=hM.OC
 refine Qx$ Pf O$ qV ((Sb O))$ OU O$ OS O$ qN O$ qV (OO Ps O O iW O)$ OK O$ OM O O (Wj (cs:=[_]) (zs:=[Value.int .u32 0]) Ps OP O (by kernel_rfl) O O O (by decide)) ?_
 rintro _ w2 ⟨b2,rfl,⟨cn,ae,am⟩,cH⟩
 refine OM O O (pap Ps OP O (by decide) O O (hM.sl.ext ae) cH.rd (by intro c hc;simp at hc;subst hc;rfl) (by omega) (by simp only[maxLen];omega)) ?_
 rintro v3 w3 ⟨cy,av,fZ,-⟩
 have mF:=cy.oneV
 have aK:=av.OC (ae.OC iW) hM.ne
 refine OW O (QQ SO O O mF aK (by simp)) ?_
 rintro w4 ⟨aH,ao⟩
 replace aH:OR w4 lf [v3] 49:=aH
 have z2:=ae.size
 have lp:=hM.OC.lt
 have f7:v3.ownBlock≠some lf:=λe=>by
  rcases fZ lf e with e| e
  ·exact hM.ne e
  ·omega
 have dO:=cy.kp ao (λg hg e=>f7 (e▸hg))
 refine OD$ OB func234 O (⟨_,rfl,rfl,fpW lf v3,⟨v3,⟨aH,?_,f7⟩,λ_=>Iff.rfl⟩,?_,?_⟩)
 ·rw[List.length_append,List.map_append];exact dO
 ·exact(ae.kp.trans (av.OV λk e=>(hF k).2 (.inr e))).trans (ao.OV λk e=>(hF k).2 (.inl e))
 ·intro k hk;rcases hk with e| e
  ·exact .inl ((hF k).2 (.inl e))
  ·rcases fZ k e with e| e
   ·exact .inl ((hF k).2 (.inr e))
   ·exact .inr (by omega)
def ZF {w:World}{lf rn:Nat}{rs:List Nat}{F:Nat->Prop}(h:z2k w rn rs F)(hl:rs.length<=1000000)(bT:rs≠[])(hb:∀m∈rs,m<=1000000)(x:Nat)(a:Bool):
  Pm prog 234 [Pq x,.bool a,.bool true,ptr lf 0,ptr rn 0] w λu w'=>u= .tuple #[]/\∃F',z2k w' rn (R3 rs a) F'/\Kp F w w'/\∀k,F' k->F k\/w.heap.size<=k:=by
 have aZ:∀k,F k->k<w.heap.size:=λk hk=>h.lt hk
 obtain⟨bv,hM,hF⟩:=id h
 refine py (e:=[(0,_),(1,_),(2,_),(3,_),(4,_)]) func234 O ntmps234 O O ?_
 have iW:=hM.OC
 obtain⟨va,vc,rfl,-⟩:=hM.sl.rd.shape
 refine Qx$ Pf O$ qV ((Sb O))$ OU O$ OJ O$ Pf O$ qV (OO RB O O iW O)$ Rv RB O$ qV (XJ O O (by omega) (by omega)) ?_
 rw[Nat.and_one_is_mod]
 refine Ri O$ qV (zbJ O O U4) ?_
 have hd:decide (((rs.length%2:Nat):Int)=1)=(rs.length%2==1):=by
  rcases Nat.mod_two_eq_zero_or_one rs.length with e|e<;>rw[e]<;>rfl
 rw[hd]
 refine OU O$ PI (λe' w'=>e'=[(4,ptr rn 0)]/\∃F',z2k w' rn (Vk rs a) F'/\Kp F w w'/\∀k,F' k->F k\/w.heap.size<=k) ?sH$ λsH=>?sI
 case sH=>
  rintro e' w1 ⟨rfl,F1,⟨v1,dN,oG⟩,aL,fX⟩
  obtain⟨l,m,gX,fS,hm⟩:∃l m,Vk rs a=l++[m]/\l.length<=1000000/\m<=1000000:=by
   unfold Vk;split
   ·exact⟨rs,0,rfl,hl,by omega⟩
   ·refine⟨rs.dropLast,rs.getLast bT,(List.dropLast_concat_getLast bT).symm,by rw[List.length_dropLast];omega,hb _ (List.getLast_mem bT)⟩
  rw[gX] at dN;have Cf:(l++[m]).length=l.length+1:=by simp
  rw[Cf] at dN;rcases dN.sl.shape with⟨-,h0⟩|⟨g,c1,rfl,dX⟩
  ·omega
  have aj:=dN.OC;refine OA$ OL O$ qV (OO RB O O aj O)$ qV (OO RB O O aj O)$ Rv RB O$ Ro O ?_;rw[show((l.length+1:Nat):Int)-1=(l.length:Int) by omega];refine qV (PX RB Q7 O O (by omega))$ qV (Pr U3 O O (Qo dN.sl.rd (show((l++[m]).map z6k)[l.length]? =some (z6k m) by simp))) ?_;refine PV O$ qV (PX RB Q7 O O (by omega))$ OW O (RV Q7 O O O dN.sl (by simp)) ?_;rintro w2 ⟨cH,aq⟩;have am:=aq.OC aj (λe=>dN.ne (by rw[e];rfl));refine OD$ Qv func234 O (⟨_,rfl,rfl,fpW rn (.slice (some ⟨g,0,none⟩) (l.length+1) c1),⟨_,⟨am,?_,dN.ne⟩,λ_=>Iff.rfl⟩,?_,?_⟩)
  ·rw[z0L,gX,Wx];have e1:(l++[m+1]).length=l.length+1:=by simp
   rw[e1]
   have e2:((l++[m]).map z6k).set l.length (z6k (m+1))=(l++[m+1]).map z6k:=by
    rw[List.map_append,List.set_append_right _ _ (by simp)];simp
   rw[<-e2];have e3:l.length*1=l.length:=Nat.mul_one _
   first|exact cH|(simp only[Nat.zero_add,Nat.mul_one] at cH;exact cH)
  ·exact aL.An (aq.OV (λk e=>(oG k).2 (.inr (by rw[e];rfl)))) (λi hi=>(fX i hi).symm)
  ·intro k hk;exact fX k ((oG k).2 hk)
 case sI=>
  refine Qe O (λe1=>?_)$ λe1=>?_
  ·have dR:Vk rs a=rs++[0]:=by unfold Vk;exact if_pos e1
   refine OL O$ qV (OO RB O O iW O)$ OM O O (Wj (cs:=[_]) (zs:=[Value.int .i64 0]) RB Q7 O (by kernel_rfl) O O O (by decide)) ?_;rintro _ w2 ⟨b2,rfl,⟨cn,ae,am⟩,cH⟩;refine OM O O (pap RB Q7 O (by decide) O O (hM.sl.ext ae) cH.rd (by intro c hc;simp at hc;subst hc;rfl) (by omega) (by simp only[maxLen];omega)) ?_;rintro v3 w3 ⟨cy,av,fZ,-⟩;have mF:=cy.oneV;have aK:=av.OC (ae.OC iW) hM.ne;refine OW O (QQ z64 O O mF aK (by simp)) ?_;rintro w4 ⟨aH,ao⟩;replace aH:OR w4 rn [v3] 43:=aH;have z2:=ae.size;have lp:=hM.OC.lt
   have f7:v3.ownBlock≠some rn:=λe=>by
    rcases fZ rn e with e| e
    ·exact hM.ne e
    ·omega
   have dO:=cy.kp ao (λg hg e=>f7 (e▸hg));refine OD ((sH _ _ ⟨rfl,fpW rn v3,⟨v3,⟨aH,?_,f7⟩,λ_=>Iff.rfl⟩,?_,?_⟩).qb)
   ·rw[dR,List.length_append,List.map_append];exact dO
   ·exact(ae.kp.trans (av.OV λk e=>(hF k).2 (.inr e))).trans (ao.OV λk e=>(hF k).2 (.inl e))
   ·intro k hk;rcases hk with e| e
    ·exact .inl ((hF k).2 (.inl e))
    ·rcases fZ k e with e| e
     ·exact .inl ((hF k).2 (.inr e))
     ·exact .inr (by omega)
  ·have dR:Vk rs a=rs:=by unfold Vk;exact if_neg (by simpa using e1)
   refine OE ?_;exact(sH _ _ ⟨rfl,F,by rw[dR];exact h,Kp.refl _ _,λk hk=> .inl hk⟩).qb
def VB (s r rs:List Nat):List Nat:=r.foldl (λrs y=>R3 rs (decide (y∈s))) rs
def z0g {s t:List Nat}:∀(r rs:List Nat),(∀y∈r,(y∈s↔y∈t))->VB s r rs=VB t r rs
 |[],rs,_=>rfl
 | y :: r, rs, h => by
   have h1:decide (y∈s)=decide (y∈t):=decide_eq_decide.2 (h y List.mem_cons_self);show VB s r (R3 rs (decide (y∈s)))=VB t r (R3 rs (decide (y∈t)));rw[h1];exact z0g r _ (λz hz=>h z (List.mem_cons_of_mem _ hz))
def VJ {x z:Nat}{l:List Nat}(h:x<z):z∈x::l↔z∈l:=by
 rw[List.mem_cons]
 constructor
 ·rintro(e|e)
  ·omega
  ·exact e
 ·exact .inr
theorem z3k {x:Nat}{s r:List Nat}(h:∀y∈r,x<y):Pk (x::s) r=x::Pk s r/\∀rs,VB (x::s) r rs=VB s r rs:=by
 have hx:x∉r:=λe=>by have:=h x e;omega
 refine⟨?_,λrs=>z0g r rs λy hy=>VJ (h y hy)⟩
 unfold Pk
 rw[List.filter_cons,if_pos (by simpa using hx)]
def z1X {r t:List Nat}(s:List Nat)(h:∀x∈s,(x∈r↔x∈t)):Pk s r=Pk s t:=
 List.filter_congr λx hx=>decide_eq_decide.2 (not_congr (h x hx))
theorem z8x {x:Nat}{s r:List Nat}(hs:∀z∈s,x<z)(hr:∀y∈r,x<y):Pk (x::s) (x::r)=Pk s r/\∀rs,VB (x::s) (x::r) rs=VB s r (R3 rs true):=by
 refine⟨?_,λrs=>?_⟩
 ·have:=z1X (r:=x::r) (t:=r) s (λz hz=>VJ (hs z hz));rw[<-this];unfold Pk;rw[List.filter_cons,if_neg (by simp)]
 ·show VB (x::s) r (R3 rs (decide (x∈x::s)))=_;rw[decide_eq_true List.mem_cons_self];exact(z3k hr).2 _
theorem z8e {y:Nat}{s r:List Nat}(hs:∀z∈s,y<z):Pk s (y::r)=Pk s r/\∀rs,VB s (y::r) rs=VB s r (R3 rs false):=by
 refine⟨z1X s (λz hz=>VJ (hs z hz)),λrs=>?_⟩
 show VB s r (R3 rs (decide (y∈s)))=_
 rw[decide_eq_false λe=>by have:=hs y e;omega]
def z5J {x y:Nat}{l:List Nat}(hr:Ris (y::l))(h:x<y):∀z∈y::l,x<z:=λz hz=>by
 rcases List.mem_cons.1 hz with e| e
 ·omega
 ·have:=(List.pairwise_cons.1 hr).1 z e;omega
def z1I:∀{l:List Nat} {m:Nat},m∈l->m<=l.sum
 | x :: l, m, h => by
   rw[List.sum_cons];rcases List.mem_cons.1 h with e| e
   ·omega
   ·have:=z1I e;omega
def z5w (rs:List Nat)(f:Bool):(R3 rs f).length<=rs.length+1:=by
 rw[z0L,List.length_modify]
 unfold Vk
 split<;>simp
def Ty.le {rs:List Nat}{fs:List Bool}(h:Ty rs fs):∀m∈rs,m<=fs.length:=λm hm=>by
 have:=z1I hm
 rw[<-h.exp,SW];exact this
structure Ue (w:World)(succ ref:List Nat)(lf rn:Nat)(FL0 FR0:Nat->Prop)(s:List Nat)(sa:Option Addr)(sc:Nat)(r:List Nat)(ra:Option Addr)(rc:Nat)(L rs:List Nat)(w':World):Prop where
 ex:∃FL FR fs,z3H w' lf L FL/\z2k w' rn rs FR/\Ty rs fs/\fs.length+r.length<=65536/\rs.length+r.length<=65537/\(∀k,FL k->FL0 k\/w.heap.size<=k)/\(∀k,FR k->FR0 k\/w.heap.size<=k)/\∀k,FL k->¬FR k
 rdS:∀w2,Kp (λk=>FL0 k\/FR0 k) w w2->Rd w2 (.slice sa s.length sc) 1 s.length (s.map Pq)
 rdR:∀w2,Kp (λk=>FL0 k\/FR0 k) w w2->Rd w2 (.slice ra r.length rc) 1 r.length (r.map Pq)
 clS:s.length<=sc
 clR:r.length<=rc
 kp:Kp (λk=>FL0 k\/FR0 k) w w'
 okS:PE s
 okR:PE r
 left:Pk succ ref=L++Pk s r
 fold:Rf succ ref=VB s r rs
 zgx:L.length+s.length<=65536
section
variable {w w1 w2:World}{succ ref:List Nat}{lf rn:Nat}{FL0 FR0:Nat->Prop}{s r L rs:List Nat}{sa ra:Option Addr}{sc rc:Nat}{x y:Nat}
def Ue.ext (h:Ue w succ ref lf rn FL0 FR0 s sa sc r ra rc L rs w1)(hx:Ext w1 w2):Ue w succ ref lf rn FL0 FR0 s sa sc r ra rc L rs w2:=by
 obtain⟨FL,FR,fs,h1,h2,h3⟩:=h.ex
 exact⟨⟨FL,FR,fs,h1.ext hx,h2.ext hx,h3⟩,h.rdS,h.rdR,h.clS,h.clR,h.kp.trans hx.kp,h.okS,h.okR,h.left,h.fold,h.zgx⟩
def Ue.z7P (h:Ue w succ ref lf rn FL0 FR0 (x::s) sa sc r ra rc L rs w1):∃b off,sa=some ⟨b,off,none⟩/\∀w2,Kp (λk=>FL0 k\/FR0 k) w w2->w2.cell? ⟨b,off+0*1,none⟩=some (Pq x):=by
 rcases (h.rdS w1 h.kp).2 with⟨c,-,h0⟩|⟨b,off,cap,hv,-⟩
 ·exact absurd h0 (by simp)
 ·cases hv;exact⟨b,off,rfl,λw2 k=>Qo (h.rdS w2 k) O⟩
def Ue.z7U (h:Ue w succ ref lf rn FL0 FR0 s sa sc (y::r) ra rc L rs w1):∃b off,ra=some ⟨b,off,none⟩/\∀w2,Kp (λk=>FL0 k\/FR0 k) w w2->w2.cell? ⟨b,off+0*1,none⟩=some (Pq y):=by
 rcases (h.rdR w1 h.kp).2 with⟨c,-,h0⟩|⟨b,off,cap,hv,-⟩
 ·exact absurd h0 (by simp)
 ·cases hv;exact⟨b,off,rfl,λw2 k=>Qo (h.rdR w2 k) O⟩
def Ue.zfi (h:Ue w succ ref lf rn FL0 FR0 (x::s) sa sc r ra rc L rs w1){FL FR:Nat->Prop}{fs:List Bool}(he:z3H w1 lf L FL/\z2k w1 rn rs FR/\Ty rs fs/\fs.length+r.length<=65536/\rs.length+r.length<=65537/\(∀k,FL k->FL0 k\/w.heap.size<=k)/\(∀k,FR k->FR0 k\/w.heap.size<=k)/\∀k,FL k->¬FR k)
  (hr:∀y∈r,x<y) (hw:∃FL',z3H w2 lf (L++[x]) FL'/\Kp FL w1 w2/\∀k,FL' k->FL k\/w1.heap.size<=k):
  Ue w succ ref lf rn FL0 FR0 s (if sc=1 then sa else sa.map (·.add (1*1))) (sc-1) r ra rc (L++[x]) rs w2:=by
 obtain⟨-,k1,k2,k3,k4,k5,k6,k7,k8,k9,k10⟩:=h
 obtain⟨h1,h2,h3,h4,h5,h6,h7,h8⟩:=he
 obtain⟨FL',g1,g2,g3⟩:=hw
 have hz:=k5.size
 rw[List.length_cons] at k3 k10
 refine⟨⟨FL',FR,fs,g1,h2.kp g2 (λi hi e=>h8 i e hi),h3,h4,h5,λk hk=>?_,h7,λk hk e=>?_⟩,λw2 k=>?_,k2,by omega,k4,k5.An g2 (λi hi=>?_),k6.sub (List.sublist_cons_self _ _),k7,?_,?_,?_⟩
 ·rcases g3 k hk with e| e
  ·exact h6 k e
  ·exact .inr (by omega)
 ·rcases g3 k hk with e2|e2
  ·exact h8 k e2 e
  ·have:=h2.lt e;omega
 ·have:=Sx (k1 w2 k) (i:=1) (by rw[List.length_cons];omega) (by rw[List.length_cons];omega);exact this
 ·rcases h6 i hi with e| e
  ·exact .inr (.inl e)
  ·exact .inl e
 ·rw[k8,(z3k hr).1,List.append_assoc];rfl
 ·rw[k9,(z3k hr).2]
 ·rw[List.length_append,List.length_singleton];omega
def Ue.zch {s2:List Nat}{sa2:Option Addr}{sc2:Nat}{f:Bool}(h:Ue w succ ref lf rn FL0 FR0 s sa sc (y::r) ra rc L rs w1)(hs:(s2=s/\sa2=sa/\sc2=sc/\f=false/\∀z∈s,y<z)\/(s=y::s2/\sa2=(if sc=1 then sa else sa.map (·.add (1*1)))/\sc2=sc-1/\f=true))
  {FL FR:Nat->Prop} {fs:List Bool} (he:z3H w1 lf L FL/\z2k w1 rn rs FR/\Ty rs fs/\fs.length+(y::r).length<=65536/\rs.length+(y::r).length<=65537/\(∀k,FL k->FL0 k\/w.heap.size<=k)/\(∀k,FR k->FR0 k\/w.heap.size<=k)/\∀k,FL k->¬FR k)
  (hw:∃FR',z2k w2 rn (R3 rs f) FR'/\Kp FR w1 w2/\∀k,FR' k->FR k\/w1.heap.size<=k):
  Ue w succ ref lf rn FL0 FR0 s2 sa2 sc2 r (if rc=1 then ra else ra.map (·.add (1*1))) (rc-1) L (R3 rs f) w2:=by
 obtain⟨-,k1,k2,k3,k4,k5,k6,k7,k8,k9,k10⟩:=h
 obtain⟨h1,h2,h3,h4,h5,h6,h7,h8⟩:=he
 rw[List.length_cons] at h4 h5 k4
 obtain⟨FR',g1,g2,g3⟩:=hw
 have hz:=k5.size
 have fR:=z5w rs f
 have HM:∀z∈r,y<z:=(List.pairwise_cons.1 k7.ZN).1
 have HN:∃FL FR fs,z3H w2 lf L FL/\z2k w2 rn (R3 rs f) FR/\Ty (R3 rs f) fs/\fs.length+r.length<=65536/\(R3 rs f).length+r.length<=65537/\(∀k,FL k->FL0 k\/w.heap.size<=k)/\(∀k,FR k->FR0 k\/w.heap.size<=k)/\∀k,FL k->¬FR k:=by
  refine⟨FL,FR',fs++[f],h1.kp g2 (λi hi e=>h8 i hi e),g1,h3.step f,by rw[List.length_append,List.length_singleton];omega,by omega,h6,λk hk=>?_,λk hk e=>?_⟩
  ·rcases g3 k hk with e| e
   ·exact h7 k e
   ·exact .inr (by omega)
  ·rcases g3 k e with e2|e2
   ·exact h8 k hk e2
   ·have:=h1.lt hk;omega
 have HO:Kp (λk=>FL0 k\/FR0 k) w w2:=k5.An g2 (λi hi=>by
  rcases h7 i hi with e| e
  ·exact .inr (.inr e)
  ·exact .inl e)
 have dB:∀w2,Kp (λk=>FL0 k\/FR0 k) w w2->Rd w2 (.slice (if rc=1 then ra else ra.map (·.add (1*1))) r.length (rc-1)) 1 r.length (r.map Pq):=λw2 k=>
  Sx (k2 w2 k) (i:=1) (by rw[List.length_cons];omega) (by rw[List.length_cons];omega)
 rcases hs with⟨rfl,rfl,rfl,rfl,hg⟩|⟨rfl,rfl,rfl,rfl⟩
 ·exact⟨HN,k1,dB,k3,by omega,HO,k6,k7.sub (List.sublist_cons_self _ _),by rw[k8,(z8e hg).1],by rw[k9,(z8e hg).2],k10⟩
 ·have HP:∀z∈s2,y<z:=(List.pairwise_cons.1 k6.ZN).1;rw[List.length_cons] at k3 k10;refine⟨HN,λw2 k=>?_,dB,by omega,by omega,HO,k6.sub (List.sublist_cons_self _ _),k7.sub (List.sublist_cons_self _ _),by rw[k8,(z8x HP HM).1],by rw[k9,(z8x HP HM).2],by omega⟩;exact Sx (k1 w2 k) (i:=1) (by rw[List.length_cons];omega) (by rw[List.length_cons];omega)
end
def zbL {w:World}{succ ref:List Nat}{lf rn:Nat}{FL0 FR0:Nat->Prop}{sa ra:Option Addr}{sc rc:Nat}(JB:Ue w succ ref lf rn FL0 FR0 succ sa sc ref ra rc [] [0] w):
  Pm prog 233 [.slice sa succ.length sc,.slice ra ref.length rc,.func (.func 234) #[] #[ptr lf 0,ptr rn 0]] w λu w'=>u= .tuple #[]/\
   ∃FL FR,z3H w' lf (Pk succ ref) FL/\z2k w' rn (Rf succ ref) FR/\(∀k,FL k->FL0 k\/w.heap.size<=k)/\(∀k,FR k->FR0 k\/w.heap.size<=k)/\(∀k,FL k->¬FR k)/\Kp (λk=>FL0 k\/FR0 k) w w':=by
 refine py (e:=[(0,_),(1,_),(2,_)]) func233 O ntmps233 O O$ OH$ Rq (α:=List Nat×Option Addr×Nat×List Nat×Option Addr×Nat×List Nat×List Nat) ((succ,sa,sc,ref,ra,rc,[],[0])) (λx=>[(0,.slice x.2.1 x.1.length x.2.2.1),(1,.slice x.2.2.2.2.1 x.2.2.2.1.length x.2.2.2.2.2.1),(2,.func (.func 234) #[] #[ptr lf 0,ptr rn 0])]) (λx w'=>Ue w succ ref lf rn FL0 FR0 x.1 x.2.1 x.2.2.1 x.2.2.2.1 x.2.2.2.2.1 x.2.2.2.2.2.1 x.2.2.2.2.2.2.1 x.2.2.2.2.2.2.2 w') (λx=>x.1.length+x.2.2.2.1.length) ?hI ?hround
 case hI=>exact JB
 case hround=>
  rintro⟨s,sa,sc,r,ra,rc,L,rs⟩ w6 hI ih;dsimp only at hI
  try dsimp only
  have hg:=(Ext.refl w6).drew;have aa:=hg.drew;have cR:=hI.ext aa;have p0:([]:List Nat).length=0:=rfl;have eI:=hI.okS.len;have Cg:=hI.okR.len;rcases s with _|⟨x,s⟩
  ·rcases r with _|⟨y,r⟩
   ·refine PG O$ Rv Ps O$ Qu O$ PF$ P8 O$ Rv Ps O$ Qu O$ PF$ PK O$ OD$ OJ O$ ON O$ Qv func233 O ?_;have qZ:=hI.left;have wH:=hI.fold;obtain⟨FL,FR,fs,h1,h2,h3,h4,h5,h6,h7,h8⟩:=hI.ex;rw[qZ,wH];exact⟨_,rfl,rfl,FL,FR,by simpa[Pk] using h1,h2,h6,h7,h8,hI.kp⟩
   ·skip
    obtain⟨b2,off2,rfl,mA⟩:=hI.z7U;have p1:0<((y::r:List Nat).length:Int):=by rw[List.length_cons];omega
    have p3:¬(((y::r).length:Int)=0):=by omega
    refine PG O$ Rv Ps O$ Qu O$ PF$ P8 O$ Rv Ps O$ Qu O$ Rp$ PK O$ OD$ OS O$ OE$ OH$ It ?_;refine R5 (λw'=>Ext w6 w') O$ OZ 0 O O (hg)$ OI 1 O (SF Ps O) hg$ OI 2 O (yeq O O) hg$ Uc$ OZ 3 O O (hg)$ OZ 4 O O (hg)$ OI 5 O (SF Ps O) hg$ OI 6 O (Xw O O) hg$ Uc$ OZ 7 O O (hg)$ qJ 8 O (hg)$ qJ 9 O (hg)$ qJ 10 O (hg) ?_;refine qJ 11 O (hg)$ qJ 12 O (hg)$ qJ 13 O (hg)$ qJ 14 O (hg)$ OI 15 O (Ub O O) hg$ OI 16 O (Ub O O) hg$ OI 17 O (R7 O) hg$ qE$ It$ R5 (λw'=>Ext w6 w') O$ OZ 0 O O (aa)$ OI 1 O (SF Ps O) aa$ OI 2 O (yeq O O) aa$ TT ?_;refine OZ 3 O O (aa)$ qJ 4 O (aa)$ qJ 5 O (aa)$ qJ 6 O (aa)$ qJ 7 O (aa)$ qJ 8 O (aa)$ qJ 9 O (aa)$ qJ 10 O (aa)$ qJ 11 O (aa)$ qJ 12 O (aa)$ qJ 13 O (aa)$ qJ 14 O (aa)$ qJ 15 O (aa)$ OI 16 O (UJ O O) aa ?_;refine OI 17 O (R7 O) aa$ qE$ PG O$ OD$ OJ O$ OL O$ P8 O$ qV (PX Ps OP O O (by omega))$ qV (Pr Py O O (mA _ cR.kp)) ?_;obtain⟨FL,FR,fs,h1,h2,h3,h4,h5,h6,h7,h8⟩:=cR.ex;refine Qz O O (RY z4s O O) (ZF h2 (by omega) h3.ne (λm hm=>by have:=h3.le m hm;omega) y false) ?_;rintro _ w7 ⟨rfl,pd⟩;refine qM O$ OK O$ OD$ OS O$ Rh O$ qV (XR Ps OP O O (by rw[List.length_cons];omega) hI.clR) ?_;refine OU O$ OA ?_;exact(ih ([],sa,sc,r,_,rc-1,L,R3 rs false) _ (cR.zch (.inl ⟨rfl,rfl,rfl,rfl,λz hz=>by simp at hz⟩) ⟨h1,h2,h3,h4,h5,h6,h7,h8⟩ pd) (by dsimp only;simp only[List.length_cons,List.length_nil];omega)).qb
  ·rcases r with _|⟨y,r⟩
   ·obtain⟨b,off,rfl,mG⟩:=hI.z7P
    skip
    have p1:0<((x::s:List Nat).length:Int):=by rw[List.length_cons];omega
    have p4:¬(((x::s).length:Int)=0):=by omega
    refine PG O$ Rv Ps O$ Qu O$ Rp$ OK O$ QG$ qS$ QJ O$ OD$ OS O$ OE$ OH$ It$ R5 (λw'=>Ext w6 w') O ?_;refine OZ 0 O O (hg)$ OI 1 O (SF Ps O) hg$ OI 2 O (yeq O O) hg$ TT$ OZ 3 O O (hg)$ qJ 4 O (hg)$ qJ 5 O (hg)$ qJ 6 O (hg)$ qJ 7 O (hg)$ qJ 8 O (hg)$ qJ 9 O (hg)$ qJ 10 O (hg)$ qJ 11 O (hg)$ qJ 12 O (hg) ?_;refine qJ 13 O (hg)$ qJ 14 O (hg)$ qJ 15 O (hg)$ OI 16 O (UJ O O) hg$ OI 17 O (R7 O) hg$ qE$ It$ R5 (λw'=>Ext w6 w') O$ OZ 0 O O (aa)$ OI 1 O (SF Ps O) aa$ OI 2 O (yeq O O) aa$ Uc$ OZ 3 O O (aa)$ OZ 4 O O (aa) ?_;refine OI 5 O (SF Ps O) aa$ OI 6 O (Xw O O) aa$ Uc$ OZ 7 O O (aa)$ qJ 8 O (aa)$ qJ 9 O (aa)$ qJ 10 O (aa)$ qJ 11 O (aa)$ qJ 12 O (aa)$ qJ 13 O (aa)$ qJ 14 O (aa)$ OI 15 O (Ub O O) aa$ OI 16 O (Ub O O) aa$ OI 17 O (R7 O) aa ?_;refine qE$ PG O$ OD$ OS O$ Qm O$ qV (PX Ps OP O O (by omega))$ qV (Pr Py O O (mG _ cR.kp))$ OK O ?_;obtain⟨FL,FR,fs,h1,h2,h3,h4,h5,h6,h7,h8⟩:=cR.ex;have JC:=cR.zgx;refine Qz O O (RY z4s O O) (z2x h1 (by omega) x true) ?_;rintro _ w7 ⟨rfl,pd⟩;refine OD$ Rh O$ qV (XR Ps OP O O (by rw[List.length_cons];omega) hI.clS) ?_;refine Qt O$ PW O$ OA ?_;exact(ih (s,_,sc-1,[],ra,rc,L++[x],rs) _ (cR.zfi ⟨h1,h2,h3,h4,h5,h6,h7,h8⟩ (λz hz=>by simp at hz) pd) (by dsimp only;simp only[List.length_cons,List.length_nil];omega)).qb
   ·rcases Nat.lt_trichotomy x y with du|du|du
    ·obtain⟨b,off,rfl,mG⟩:=hI.z7P;obtain⟨b2,off2,rfl,mA⟩:=hI.z7U;have p1:0<((x::s:List Nat).length:Int):=by rw[List.length_cons];omega
     have p2:0<((y::r).length:Int):=by rw[List.length_cons];omega
     have p3:¬(((y::r).length:Int)=0):=by omega
     have p4:¬(((x::s).length:Int)=0):=by omega
     refine PG O$ Rv Ps O$ Qu O$ Rp$ OK O$ QG$ qS$ QJ O$ OD$ OS O$ OE$ OH$ It$ R5 (λw'=>Ext w6 w') O ?_;refine OZ 0 O O (hg)$ OI 1 O (SF Ps O) hg$ OI 2 O (yeq O O) hg$ Uc$ OZ 3 O O (hg)$ OZ 4 O O (hg)$ OI 5 O (SF Ps O) hg$ OI 6 O (Xw O O) hg$ TT$ OZ 7 O O (hg)$ OZ 8 O O (hg)$ OI 9 O (PX Ps OP O O (by omega)) hg$ OZ 11 O O (hg)$ OI 12 O (PX Ps OP O O (by omega)) hg ?_;refine qT 10 O (λ_ h=>Pr Py O O (mG _ (hI.kp.trans h.kp))) hg$ qT 13 O (λ_ h=>Pr Py O O (mA _ (hI.kp.trans h.kp))) hg$ OI 14 O (Zb O O) hg$ TT$ OI 15 O (UJ O O) hg$ OI 16 O (Ub O O) hg$ OI 17 O (R7 O) hg$ qE$ It$ R5 (λw'=>Ext w6 w') O$ OZ 0 O O (aa)$ OI 1 O (SF Ps O) aa$ OI 2 O (yeq O O) aa$ Uc ?_;refine OZ 3 O O (aa)$ OZ 4 O O (aa)$ OI 5 O (SF Ps O) aa$ OI 6 O (Xw O O) aa$ TT$ OZ 7 O O (aa)$ OZ 8 O O (aa)$ OI 9 O (PX Ps OP O O (by omega)) aa$ OZ 11 O O (aa)$ OI 12 O (PX Ps OP O O (by omega)) aa$ qT 10 O (λ_ h=>Pr Py O O (mA _ (hI.kp.trans h.kp))) aa$ qT 13 O (λ_ h=>Pr Py O O (mG _ (hI.kp.trans h.kp))) aa$ OI 14 O (Zb O O) aa$ Uc ?_;refine OI 15 O (UJ O O) aa$ OI 16 O (Ub O O) aa$ OI 17 O (R7 O) aa$ qE$ PG O$ OD$ OS O$ Qm O$ qV (PX Ps OP O O (by omega))$ qV (Pr Py O O (mG _ cR.kp))$ OK O ?_;obtain⟨FL,FR,fs,h1,h2,h3,h4,h5,h6,h7,h8⟩:=cR.ex;have JC:=cR.zgx;refine Qz O O (RY z4s O O) (z2x h1 (by omega) x true) ?_;rintro _ w7 ⟨rfl,pd⟩;refine OD$ Rh O$ qV (XR Ps OP O O (by rw[List.length_cons];omega) hI.clS) ?_;refine Qt O$ PW O$ OA ?_;exact(ih (s,_,sc-1,y::r,_,rc,L++[x],rs) _ (cR.zfi ⟨h1,h2,h3,h4,h5,h6,h7,h8⟩ (z5J hI.okR.ZN du) pd) (by dsimp only;simp only[List.length_cons,List.length_nil];omega)).qb
    ·obtain⟨b,off,rfl,mG⟩:=hI.z7P;obtain⟨b2,off2,rfl,mA⟩:=hI.z7U;have p1:0<((x::s:List Nat).length:Int):=by rw[List.length_cons];omega
     have p2:0<((y::r).length:Int):=by rw[List.length_cons];omega
     have p3:¬(((y::r).length:Int)=0):=by omega
     have p4:¬(((x::s).length:Int)=0):=by omega
     refine PG O$ Rv Ps O$ Qu O$ Rp$ OK O$ QG$ qS$ QJ O$ OD$ OS O$ OE$ OH$ It$ R5 (λw'=>Ext w6 w') O ?_;refine OZ 0 O O (hg)$ OI 1 O (SF Ps O) hg$ OI 2 O (yeq O O) hg$ Uc$ OZ 3 O O (hg)$ OZ 4 O O (hg)$ OI 5 O (SF Ps O) hg$ OI 6 O (Xw O O) hg$ TT$ OZ 7 O O (hg)$ OZ 8 O O (hg)$ OI 9 O (PX Ps OP O O (by omega)) hg$ OZ 11 O O (hg)$ OI 12 O (PX Ps OP O O (by omega)) hg ?_;refine qT 10 O (λ_ h=>Pr Py O O (mG _ (hI.kp.trans h.kp))) hg$ qT 13 O (λ_ h=>Pr Py O O (mA _ (hI.kp.trans h.kp))) hg$ OI 14 O (Zb O O) hg$ TT$ OI 15 O (UJ O O) hg$ OI 16 O (Ub O O) hg$ OI 17 O (R7 O) hg$ qE$ It$ R5 (λw'=>Ext w6 w') O$ OZ 0 O O (aa)$ OI 1 O (SF Ps O) aa$ OI 2 O (yeq O O) aa$ Uc ?_;refine OZ 3 O O (aa)$ OZ 4 O O (aa)$ OI 5 O (SF Ps O) aa$ OI 6 O (Xw O O) aa$ TT$ OZ 7 O O (aa)$ OZ 8 O O (aa)$ OI 9 O (PX Ps OP O O (by omega)) aa$ OZ 11 O O (aa)$ OI 12 O (PX Ps OP O O (by omega)) aa$ qT 10 O (λ_ h=>Pr Py O O (mA _ (hI.kp.trans h.kp))) aa$ qT 13 O (λ_ h=>Pr Py O O (mG _ (hI.kp.trans h.kp))) aa$ OI 14 O (Zb O O) aa$ TT ?_;refine OI 15 O (UJ O O) aa$ OI 16 O (Ub O O) aa$ OI 17 O (R7 O) aa$ qE$ PG O$ OD$ OS O$ Qm O$ qV (PX Ps OP O O (by omega))$ qV (Pr Py O O (mG _ cR.kp))$ OK O ?_;obtain⟨FL,FR,fs,h1,h2,h3,h4,h5,h6,h7,h8⟩:=cR.ex;refine Qz O O (RY z4s O O) (ZF h2 (by omega) h3.ne (λm hm=>by have:=h3.le m hm;omega) x true) ?_;rintro _ w7 ⟨rfl,pd⟩;refine OD$ Rh O$ qV (XR Ps OP O O (by rw[List.length_cons];omega) hI.clS) ?_;refine Qt O$ OD$ OS O$ Rh O$ qV (XR Ps OP O O (by rw[List.length_cons];omega) hI.clR) ?_;refine OU O$ OA ?_;subst du;exact(ih (s,_,sc-1,r,_,rc-1,L,R3 rs true) _ (cR.zch (.inr ⟨rfl,rfl,rfl,rfl⟩) ⟨h1,h2,h3,h4,h5,h6,h7,h8⟩ pd) (by dsimp only;simp only[List.length_cons,List.length_nil];omega)).qb
    ·obtain⟨b,off,rfl,mG⟩:=hI.z7P;obtain⟨b2,off2,rfl,mA⟩:=hI.z7U;have p1:0<((x::s:List Nat).length:Int):=by rw[List.length_cons];omega
     have p2:0<((y::r).length:Int):=by rw[List.length_cons];omega
     have p3:¬(((y::r).length:Int)=0):=by omega
     have p4:¬(((x::s).length:Int)=0):=by omega
     refine PG O$ Rv Ps O$ Qu O$ Rp$ OK O$ QG$ qS$ QJ O$ OD$ OS O$ OE$ OH$ It$ R5 (λw'=>Ext w6 w') O ?_;refine OZ 0 O O (hg)$ OI 1 O (SF Ps O) hg$ OI 2 O (yeq O O) hg$ Uc$ OZ 3 O O (hg)$ OZ 4 O O (hg)$ OI 5 O (SF Ps O) hg$ OI 6 O (Xw O O) hg$ TT$ OZ 7 O O (hg)$ OZ 8 O O (hg)$ OI 9 O (PX Ps OP O O (by omega)) hg$ OZ 11 O O (hg)$ OI 12 O (PX Ps OP O O (by omega)) hg ?_;refine qT 10 O (λ_ h=>Pr Py O O (mG _ (hI.kp.trans h.kp))) hg$ qT 13 O (λ_ h=>Pr Py O O (mA _ (hI.kp.trans h.kp))) hg$ OI 14 O (Zb O O) hg$ Uc$ OI 15 O (UJ O O) hg$ OI 16 O (Ub O O) hg$ OI 17 O (R7 O) hg$ qE$ It$ R5 (λw'=>Ext w6 w') O$ OZ 0 O O (aa)$ OI 1 O (SF Ps O) aa$ OI 2 O (yeq O O) aa$ Uc ?_;refine OZ 3 O O (aa)$ OZ 4 O O (aa)$ OI 5 O (SF Ps O) aa$ OI 6 O (Xw O O) aa$ TT$ OZ 7 O O (aa)$ OZ 8 O O (aa)$ OI 9 O (PX Ps OP O O (by omega)) aa$ OZ 11 O O (aa)$ OI 12 O (PX Ps OP O O (by omega)) aa$ qT 10 O (λ_ h=>Pr Py O O (mA _ (hI.kp.trans h.kp))) aa$ qT 13 O (λ_ h=>Pr Py O O (mG _ (hI.kp.trans h.kp))) aa$ OI 14 O (Zb O O) aa$ TT ?_;refine OI 15 O (UJ O O) aa$ OI 16 O (Ub O O) aa$ OI 17 O (R7 O) aa$ qE$ PG O$ OD$ OJ O$ OL O$ P8 O$ qV (PX Ps OP O O (by omega))$ qV (Pr Py O O (mA _ cR.kp)) ?_;obtain⟨FL,FR,fs,h1,h2,h3,h4,h5,h6,h7,h8⟩:=cR.ex;refine Qz O O (RY z4s O O) (ZF h2 (by omega) h3.ne (λm hm=>by have:=h3.le m hm;omega) y false) ?_;rintro _ w7 ⟨rfl,pd⟩;refine qM O$ OK O$ OD$ OS O$ Rh O$ qV (XR Ps OP O O (by rw[List.length_cons];omega) hI.clR) ?_;refine OU O$ OA ?_;exact(ih (x::s,_,sc,r,_,rc-1,L,R3 rs false) _ (cR.zch (.inl ⟨rfl,rfl,rfl,rfl,z5J hI.okS.ZN du⟩) ⟨h1,h2,h3,h4,h5,h6,h7,h8⟩ pd) (by dsimp only;simp only[List.length_cons,List.length_nil];omega)).qb
structure TkM (w:World)(t r:Nat)(s:OG)(a:Nat):Prop where
 OC:OR w t [ptr r 0,.bool false] 363
 rd:TX w r s a
 ne:t≠r
def TkM.ext {w w':World}{t r a:Nat}{s:OG}(h:TkM w t r s a)(hx:Ext w w'):TkM w' t r s a:=⟨hx.OC h.OC,⟨hx.OC h.rd.1,h.rd.2⟩,h.ne⟩
def Uq {w:World}{t r a:Nat}{s:OG}(h:TkM w t r s a)(c:Cd)(v n:Nat)(hc:c.QA)(hv:v<=c.most)(hn:v<=n)(iu:n<9223372036854775808)(rest:List Bool)(hb:(P3 s).drop a=c.enc v++rest):
  Pm prog 260 [ptr t 0,cdV c,I (n:Int)] w λu w'=>u=I (v:Int)/\TkM w' t r s (a+(c.enc v).length)/\Kp (λk=>k=r) w w':=by
 obtain⟨x,y,du⟩:∃x y,Sy c=[x,y]:=by cases c<;>exact⟨_,_,rfl⟩
 have qY:cdV c= .agg [x,y].toArray:=by rw[cdV,du]
 have eu:=c.z0C
 rw[qY]
 refine py (e:=[(0,_),(1,_),(2,_)]) func260 O ntmps260 O O$ qN O$ OM O O (Rm O (cs:=[x,y]) O) ?_
 rintro _ w1 ⟨b4,rfl,fC,ad,aK⟩
 have h1:=h.ext ad
 have Ch:¬b4=r:=by have:=h.rd.1.lt;omega
 have hg:=(Ext.refl w1).drew
 refine OU O$ It$ R5 (λw'=>Kp (λk=>k=r) w1 w') O$ OZ 0 O O (hg.kp)$ OI 1 O (Q4 O) (hg.kp)$ OI 2 O (Pp zdb O) (hg.kp)$ qT 3 O (λ_ hS=>OO Vj O O (hS.OC h1.OC h.ne) O) (hg.kp)$ qT 4 O (λ_ h=>Pt (news:=[x,y]) St O QS O ((h.OC aK Ch).cells (n:=2) O) O) (hg.kp) ?_
 rw[<-qY]
 refine SK 5 O zb6 O (ZJ (⟨hg.OC h1.rd.1,h1.rd.2⟩:TX _ r s a) c v hc hv rest hb) ?_
 rintro _ w2 ⟨rfl,cO,aq⟩
 refine⟨hg.kp.trans aq,?_⟩
 have jB:=hg.kp.trans aq
 have au:=jB.OC h1.OC h.ne
 refine OZ 6 O O (hg.kp.trans aq)$ OI 7 O (Rw O O) (hg.kp.trans aq)$ OI 8 O (Rw O O) (hg.kp.trans aq)$ OI 9 O (R7 O) (hg.kp.trans aq)$ OI 10 O (R7 O) (hg.kp.trans aq)$ qE$ PG O$ Qf O$ P8 O$ OK O$ qV ((PZ O U3 Rr (by omega)))$ Qu O$ PF$ PK O ?_
 refine PW O$ Pf O$ qV (PJ O Rr U3 (by omega))$ OU O$ Pn.qb (e:=[(6,_)]) ?_
 refine OB func260 O ?_
 exact⟨_,rfl,rfl,⟨au,cO,h.ne⟩,ad.kp.trans jB⟩
theorem Qa (q:Cd×Nat)(l:List (Cd×Nat)):Pa (q::l)=q.1.enc q.2++Pa l:=rfl
def Sr {s e rest:List Bool}{a:Nat}(h:s.drop a=e++rest):s.drop (a+e.length)=rest:=by
 rw[<-List.drop_drop,h,List.drop_left]
structure CpI (w:World)(t r:Nat)(s:OG)(rs ref:List Nat)(rest:List Bool)(aE i:Nat)(rs2 ref2:List Nat)(sa:Option Addr)(sc:Nat)(v5:Value)(O_:List Nat)(a:Nat)(w':World):Prop where
 tk:TkM w' t r s a
 kp:Kp (λk=>k=r) w w'
 sl:Sl w' v5 106 1 O_.length (O_.map Pq)
 fr:∀g,v5.ownBlock=some g->w.heap.size<=g
 len:rs.length=i+rs2.length
 rd:∀w2,Kp (λk=>k=r) w w2->Rd w2 (.slice sa ref2.length sc) 1 ref2.length (ref2.map Pq)
 cl:ref2.length<=sc
 sum:rs2.sum<=ref2.length
 pos:∀m∈rs2.drop (1-min i 1),1<=m
 bits:(P3 s).drop a=Pa (Qp i rs2)++rest
 z5d:a+(Pa (Qp i rs2)).length=aE
 eq:copyL true rs ref=O_++copyL (i%2==0) rs2 ref2
 tot:O_.length+ref2.length<=65536
theorem z9J (a:Addr):a.add 0=a:=by
 unfold Addr.add
 split<;>simp_all
def zaN {P:Program}{e:Env}{d:Option Nat}{ty t el:TypeId}{pos:String}{aft:Array Edge}{g:Option (Nat×Bool)}{x u:Operand}{w:World}{z:Value}{size bytes n cap j:Nat}{a:Option Addr}{k:IntKind}{zb:Int}[wc:SS zb j](ht:P.underlying t=some (.slice el))(hs:TI P el z size bytes)(hx:look e x=some (.slice a n cap))
  (hu:look e u=some (.int k zb)) (h:j<=cap):
  Y P e ⟨d,.slice t x none (some u) none,ty,pos,aft,g⟩ (.slice a j cap) w w:=fun ρ hρ=>by
 obtain⟨rfl⟩:=wc
 have cG:=hs.size (w:=w)
 have h1:∀w,(Instr.sliceBound (.int k (j:Int)) cap .sliceAcap).run P w= .ok j w:=λw=>by rw[run_sliceBound _ _ _ _ _ (by omega) (by omega)];simp
 cases a with
 |none=>simp[execOp,hρ _ _ hx,hρ _ _ hu,Instr.sliceAt,run_underlying ht,Instr.slice,Instr.sliceBounds,h1,cG]
 |some a=>simp[execOp,hρ _ _ hx,hρ _ _ hu,Instr.sliceAt,run_underlying ht,Instr.slice,Instr.sliceBounds,h1,cG,z9J]
def z5O {w:World}{t r a:Nat}{s:OG}(h:TkM w t r s a)(hG:OR w 2 (Sy .gamma) 317)(da:¬2=r){sa:Option Addr}{sc:Nat}(ref rs:List Nat)
  (dB:∀w2,Kp (λk=>k=r) w w2->Rd w2 (.slice sa ref.length sc) 1 ref.length (ref.map Pq)) (cN:ref.length<=sc) (Cg:ref.length<=65536) (hn:rs.length<=ref.length+1) (gj:rs.sum<=ref.length)
  (iv:∀m∈rs.drop 1,1<=m) (rest:List Bool) (hb:(P3 s).drop a=Pa ((.gamma,rs.length)::Qp 0 rs)++rest):
  Pm prog 252 [ptr t 0,.slice sa ref.length sc] w λu w'=>Sl w' u 106 1 (copyL true rs ref).length ((copyL true rs ref).map Pq)/\(∀g,u.ownBlock=some g->w.heap.size<=g)/\
   TkM w' t r s (a+(Pa ((.gamma,rs.length)::Qp 0 rs)).length)/\Kp (λk=>k=r) w w':=by
 have jC:∀v:Nat,v<=65537->v<=Cd.most .gamma:=λv hv=>by simp only[Cd.most];omega
 refine py (e:=[(0,_),(1,_)]) func252 O ntmps252 O O$ qN O$ Qw O$ Qt O$ qV (Pt (news:=[.int .u8 1,u64v 0]) St O QS O (hG.cells (n:=2) O) O)$ OK O$ Rv Ps O ?_
 rw[Qa,List.append_assoc] at hb
 rw[show((ref.length:Nat):Int)=((ref.length:Nat):Int) from rfl]
 refine PV O$ P4 z2W O (Uq h .gamma rs.length (ref.length+1) trivial (jC _ (by omega)) (by omega) (by omega) _ hb) ?_
 rintro _ w1 ⟨rfl,h1,aL⟩
 have bU:=Sr hb
 refine OU O$ It$ Qm O$ OD$ OH$ Rq (α:=Nat×List Nat×List Nat×Option Addr×Nat×Value×List Nat×Nat) ((0,rs,ref,sa,sc,.slice none 0 0,[],a+(Cd.enc .gamma rs.length).length)) (λx=>[(0,ptr t 0),(1,.slice x.2.2.2.1 x.2.2.1.length x.2.2.2.2.1),(5,x.2.2.2.2.2.1),(6,I (rs.length:Int)),(15,I (rs.length:Int)),(16,I (x.1:Int))]) (λx w'=>CpI w t r s rs ref rest (a+(Pa ((.gamma,rs.length)::Qp 0 rs)).length) x.1 x.2.1 x.2.2.1 x.2.2.2.1 x.2.2.2.2.1 x.2.2.2.2.2.1 x.2.2.2.2.2.2.1 x.2.2.2.2.2.2.2 w') (λx=>x.2.1.length) ?hI ?hround
 case hI=>exact⟨h1,aL,Sl.nil _ _ _,(λg h=>by cases h),by simp,dB,cN,gj,iv,bU,by rw[Qa,List.length_append];dsimp only;omega,rfl,by simp;omega⟩
 case hround =>
  rintro⟨i,rs2,ref2,sa2,sc2,v5,O_,a2⟩ w6 hI ih;dsimp only at hI;have az:=hI.len;have wI:=hI.tot
  try dsimp only
  refine qN O$ Qq O$ OD$ It$ OQ O (λh0=>?_)$ λh0=>?_
  ·obtain⟨n,rs2,rfl⟩:∃n l,rs2=n::l:=by
    cases rs2 with
    |nil=>simp at az;omega
    |cons n l=>exact⟨n,l,rfl⟩
   have AY:=hI.kp.OC hG da;have gj:=hI.sum;rw[List.sum_cons] at gj;rw[List.length_cons] at az;have cj:=hI.bits;rw[Qp,Qa,List.append_assoc] at cj
   have cX:min i 1<=n:=by
    have hp:=hI.pos n;rcases Nat.eq_zero_or_pos i with e| e
    ·subst e;simp
    ·rw[show 1-min i 1=0 by omega] at hp;have:=hp List.mem_cons_self;omega
   refine OE$ Qx$ Pf O$ Qt O$ qV (Pt (news:=[.int .u8 1,u64v 0]) St O QS O (AY.cells (n:=2) O) O)$ OK O$ Rv Ps O$ P4 z2W O (Uq hI.tk .gamma (n-min i 1) ref2.length trivial (jC _ (by omega)) (by omega) (by omega) _ cj) ?_;rintro _ w7 ⟨rfl,h7,aC⟩;have eJ:=hI.kp.trans aC;have bP:=h7.OC;refine OK O$ qV (ymi O O)$ PV O ?_;rw[show((n-min i 1:Nat):Int)+min (i:Int) 1=(n:Int) by omega];refine OU O$ PG O$ Pu O$ OX TS O$ qV (OO U4 O O bP O)$ P8 O$ OK O$ Rv Ps O$ Qu O$ PF$ PK O$ PW O$ PG O$ qV (XJ O O (by omega) (by omega)) ?_;rw[Nat.and_one_is_mod];have Ci:=hI.rd _ eJ;have fh:=Sr cj;have ww:=hI.kp.size;have HQ:=aC.size
   have sJ:∀g,v5.ownBlock=some g->¬g=r:=λg hg e=>by
    have h1:=hI.fr g hg;have h2:=h.rd.1.lt;omega
   have gP:=hI.sl.kp aC sJ
   have dY:∀(v5':Value) (w8:World),Sl w8 v5' 106 1 (O_++if i%2==0 then ref2.take n else []).length ((O_++if i%2==0 then ref2.take n else []).map Pq)->(∀g,v5'.ownBlock=some g->w.heap.size<=g)->Kp (λk=>v5.ownBlock=some k) w7 w8->
     CpI w t r s rs ref rest (a+(Pa ((.gamma,rs.length)::Qp 0 rs)).length) (i+1) rs2 (ref2.drop n) (if sc2=n then sa2 else sa2.map (·.add (n*1))) (sc2-n) v5' (O_++if i%2==0 then ref2.take n else []) (a2+(Cd.enc .gamma (n-min i 1)).length) w8:=by
    intro v5' w8 g1 g2 g3;have lt7:=h7.OC.lt;have lr7:=h7.rd.1.lt;have vp:=h.OC.lt;have dS:=h.rd.1.lt;have oH:∀x,x<w.heap.size->¬v5.ownBlock=some x:=λx hx e=>by have:=hI.fr x e;omega
    refine⟨⟨g3.OC h7.OC (oH t vp),⟨g3.OC h7.rd.1 (oH r dS),h7.rd.2⟩,h7.ne⟩,eJ.An g3 (λk hk=> .inl (hI.fr k hk)),g1,g2,by omega,λw2 k=>?_,by rw[List.length_drop];have:=hI.cl;omega,by rw[List.length_drop];omega,?_,?_,?_,?_,?_⟩
    ·have:=Sx (hI.rd w2 k) (i:=n) (by omega) hI.cl;rw[<-List.map_drop] at this;rw[List.length_drop];exact this
    ·intro m hm;refine hI.pos m ?_;rw[show 1-min (i+1) 1=0 by omega,List.drop_zero] at hm;rcases Nat.eq_zero_or_pos i with e| e
     ·subst e;exact hm
     ·rw[show 1-min i 1=0 by omega];exact List.mem_cons_of_mem _ hm
    ·exact fh
    ·have:=hI.z5d;rw[Qp,Qa,List.length_append] at this;dsimp only at this;omega
    ·rw[hI.eq,copyL,List.append_assoc]
     have:((i+1)%2==0)= !(i%2==0):=by
      rcases Nat.mod_two_eq_zero_or_one i with e| e
      ·rw[e,show(i+1)%2=1 by omega];rfl
      ·rw[e,show(i+1)%2=0 by omega];rfl
     rw[this]
    ·rw[List.length_append,List.length_drop];split
     ·rw[List.length_take];omega
     ·simp;omega
   refine Ri O$ OD$ OQ O (λe1=>?_)$ λe1=>?_
   ·have e2:(i%2==0)=true:=by simp;omega
    simp only[e2,if_true] at dY;refine OL O$ P8 O$ OK O$ qV (zaN Ps OP O O (by have:=hI.cl;omega)) ?_;have JD:=hI.cl;refine OM O O (pap Ps OP O (by decide) O O gP (Ts Ci (i:=n) (by omega)) (by rw[<-List.map_take];exact YW _) (by omega) (by simp only[maxLen];omega)) ?_;rintro v5' w8 ⟨eV,aR,kP,-⟩;have mF:=eV.oneV;refine OU O$ OL O$ P8 O$ qV (XR Ps OP O O (by omega) hI.cl)$ OU O$ OA$ OL O$ PV O$ OK O$ OD ?_;rw[show ref2.length-n=(ref2.drop n).length by rw[List.length_drop]];refine(ih (i+1,rs2,ref2.drop n,_,sc2-n,v5',O_++ref2.take n,_) _ (dY v5' _ ?_ ?_ aR) (by dsimp only;simp)).qb
    ·rw[List.length_append,List.map_append,List.length_take,Nat.min_eq_left (by omega),List.map_take];exact eV
    ·intro g hg;rcases kP g hg with e| e
     ·exact hI.fr g e
     ·omega
   ·have e2:(i%2==0)=false:=by simp;omega
    simp only[e2,Bool.false_eq_true,if_false,List.append_nil] at dY;refine OE$ OL O$ P8 O$ qV (XR Ps OP O O (by omega) hI.cl)$ OU O$ OA$ OL O$ PV O$ OK O$ OD ?_;rw[show ref2.length-n=(ref2.drop n).length by rw[List.length_drop]];exact(ih (i+1,rs2,ref2.drop n,_,sc2-n,v5,O_,_) _ (dY v5 _ gP hI.fr (Kp.refl _ _)) (by dsimp only;simp)).qb
  ·have eZ:rs2=[]:=List.eq_nil_of_length_eq_zero (by omega);subst eZ;have NB:rs.length=i:=by rw[az];simp
   have jW:=hI.z5d;have dP:=hI.eq;rw[copyL] at dP;rw[show(Pa (Qp i [])).length=0 from rfl,Nat.add_zero] at jW;refine ON O$ PG O$ qV (XJ O O (by omega) (by omega)) ?_;rw[Nat.and_one_is_mod];refine Ri O$ OD$ OQ O (λe1=>?_)$ λe1=>?_
   ·rw[if_pos (by simp;omega)] at dP;refine OL O$ P8 O$ OM O O (pap Ps OP O (by decide) O O hI.sl (hI.rd _ hI.kp) (YW _) (by omega) (by simp only[maxLen];omega)) ?_;rintro v5' w8 ⟨eV,aR,kP,-⟩;have mF:=eV.oneV;refine Qt O$ OU O$ OB func252 O ?_;rw[dP,<-jW];have ww:=hI.kp.size;have oH:∀x,x<w.heap.size->¬v5.ownBlock=some x:=λx hx e=>by have:=hI.fr x e;omega
    refine⟨_,rfl,?_,λg hg=>?_,⟨aR.OC hI.tk.OC (oH t h.OC.lt),⟨aR.OC hI.tk.rd.1 (oH r h.rd.1.lt),hI.tk.rd.2⟩,hI.tk.ne⟩,hI.kp.An aR (λk hk=> .inl (hI.fr k hk))⟩
    ·rw[List.length_append,List.map_append];exact eV
    ·rcases kP g hg with e| e
     ·exact hI.fr g e
     ·omega
   ·rw[if_neg (by simp;omega),List.append_nil] at dP;refine OE$ Pf O$ OU O$ OB func252 O ?_;rw[dP,<-jW];exact⟨_,rfl,hI.sl,hI.fr,hI.tk,hI.kp⟩
structure ReI (w w1:World)(t r:Nat)(s:OG)(l:List Nat)(x k:Nat)(rest:List Bool)(aE b7:Nat)(dn l2:List Nat)(v9:Value)(a:Nat)(w':World):Prop where
 tk:TkM w' t r s a
 kp:Kp (λk=>k=t\/k=r) w w'
 b7:OR w' b7 (Sy (.zeta k)) 317
 sl:Sl w' v9 106 1 dn.length (dn.map Pq)
 fr:∀g,v9.ownBlock=some g->w1.heap.size<=g
 eq:l=dn++l2
 bits:(P3 s).drop a=Pa (PN x k dn.getLast? l2)++rest
 z5d:a+(Pa (PN x k dn.getLast? l2)).length=aE
 siz:w1.heap.size<=w'.heap.size
def z66 {w:World}{t r a:Nat}{s:OG}(h:TkM w t r s a)(x k:Nat)(hx:x<65536)(hk:1<=k/\k<=16)(l:List Nat)(hl:PE l)(rest:List Bool)(hb:(P3 s).drop a=Pa (PN x k none l)++rest):
  Pm prog 254 [ptr t 0,I (x:Int),I (l.length:Int),cdV (.zeta k)] w λu w'=>Sl w' u 106 1 l.length (l.map Pq)/\(∀g,u.ownBlock=some g->w.heap.size<=g)/\
   TkM w' t r s (a+(Pa (PN x k none l)).length)/\Kp (λk=>k=t\/k=r) w w':=by
 have az:=hl.len
 have lt0:=h.OC.lt
 have lr0:=h.rd.1.lt
 refine py (e:=[(0,_),(1,_),(2,_),(3,_)]) func254 O ntmps254 O O$ qN O$ OM O O (Rm O (cs:=Sy (.zeta k)) O) ?_
 rintro _ w1 ⟨b7,rfl,jS,ad,bP⟩
 have h1:=h.ext ad
 have z1:=ad.size
 have HR:=bP.lt
 refine Qw O$ OU O$ It$ Qm O$ OD$ OH$ Rq (α:=List Nat×List Nat×Value×Nat) (([],l,.slice none 0 0,a)) (λy=>[(0,ptr t 0),(1,I (x:Int)),(7,ptr b7 0),(9,y.2.2.1),(12,I (l.length:Int)),(13,I (y.1.length:Int))]) (λy w'=>ReI w w1 t r s l x k rest (a+(Pa (PN x k none l)).length) b7 y.1 y.2.1 y.2.2.1 y.2.2.2 w') (λy=>y.2.1.length) ?hI ?hround
 case hI=>exact⟨h1,ad.kp,bP,Sl.nil _ _ _,(λg h=>by cases h),rfl,hb,rfl,Nat.le_refl _⟩
 case hround =>
  rintro⟨dn,l2,v9,a2⟩ w6 hI ih;dsimp only at hI;have dP:=hI.eq;have fS:l.length=dn.length+l2.length:=by rw[dP,List.length_append]
  try dsimp only
  refine qN O$ Qq O$ OD$ It$ OQ O (λh0=>?_)$ λh0=>?_
  ·obtain⟨y,l2,rfl⟩:∃y q,l2=y::q:=by
    cases l2 with
    |nil=>simp at fS;omega
    |cons y q=>exact⟨y,q,rfl⟩
   rw[List.length_cons] at fS;have sK:y<65536:=hl.lt y (by rw[dP];simp);have aQ:=hI.b7;have cj:=hI.bits;have jW:=hI.z5d
   have key:∃v:Nat,PN x k dn.getLast? (y::l2)=(.zeta k,v)::PN x k (dn++[y]).getLast? l2/\v<=262144/\(dn=[]->v=zig ((y:Int)-x))/\∀u q,dn=q++[u]->v+(u+1)=y:=by
    rw[List.getLast?_append,show [y].getLast? =some y from rfl,Option.some_or];rcases List.eq_nil_or_concat dn with rfl|⟨q,u,rfl⟩
    ·refine⟨_,rfl,?_,λ_=>rfl,λu q e=>by simp at e⟩;have:=Ze (z:=(y:Int)-x) (n:=65536) (by omega) (by omega);omega
    ·have hu:u<y:=by
      have hr:=hl.ZN;rw[dP] at hr;exact(List.pairwise_append.1 hr).2.2 u (by simp) y (by simp)
     refine⟨y-u-1,?_,by omega,λe=>by simp at e,λu2 q2 e=>?_⟩
     ·have e1:(q.concat u).getLast? =some u:=by simp
      rw[e1];rfl
     ·have e2:q++[u]=q2++[u2]:=by simpa using e
      have:=(List.append_inj' e2 O).2;simp at this;omega
   obtain⟨v,eU,jX,wJ,pf⟩:=key;rw[eU,Qa,List.append_assoc] at cj;rw[eU,Qa,List.length_append] at jW;refine OE$ Qx$ Pf O$ Qt O$ qV (Pt (news:=Sy (.zeta k)) St O QS O (aQ.cells (n:=2) O) O)$ P4 z2W O (Uq hI.tk (.zeta k) v 262144 hk (by simp only[Cd.most];omega) jX (by omega) _ cj) ?_;rintro _ w7 ⟨rfl,h7,aC⟩;have eJ:Kp (λk=>k=t\/k=r) w w7:=hI.kp.trans (aC.OV λk e=> .inr e);have fh:=Sr cj;have gP:=hI.sl.kp aC (λg hg e=>by have:=hI.fr g hg;omega);have Cj:=aC.OC aQ (by omega);have HQ:=hI.siz;have ww:=aC.size;refine OU O$ PG O$ Ri O$ OD$ PI (λe' w'=>w'=w7/\e'=[(0,ptr t 0),(1,I (x:Int)),(7,ptr b7 0),(9,v9),(11,I (y:Int)),(12,I (l.length:Int)),(13,I (dn.length:Int))]) ?mQ$ λmQ=>?mR
   case mQ=>
    rintro e' w7 ⟨rfl,rfl⟩;have iW:=h7.OC;refine It$ Qm O$ Pu O$ OX TS O$ qV (OO U4 O O iW O)$ P8 O$ P4 z7K O (VT y sK _) ?_;rintro _ w8 ⟨rfl,rfl⟩;refine qV ((Sb O))$ PK O$ Pu O$ OX TS O$ OW O (QQ W3 O O O iW (by simp)) ?_;rintro w8 ⟨ce,aR⟩;replace ce:OR w8 t [ptr r 0,.bool false] 363:=ce;refine qM O$ OK O$ Pu O$ OX TS O$ qV (OO U4 O O ce O)$ PW O$ OL O$ P8 O$ qV (z0U O U3 Py) ?_;rw[Nat.mod_eq_of_lt (show y<4294967296 by omega)];refine OM O O (Wj (cs:=[_]) (zs:=[Value.int .u32 0]) Ps OP O (by kernel_rfl) O O O (by decide)) ?_;rintro _ w9 ⟨b9,rfl,⟨oI,fg,cI⟩,wK⟩;have oH:∀g,v9.ownBlock=some g->¬g=t:=λg hg e=>by have:=hI.fr g hg;omega
    have kR:∀g,v9.ownBlock=some g->¬g=r:=λg hg e=>by have:=hI.fr g hg;omega
    have HS:=aR.size;have HT:=fg.size;refine OM O O (pap Ps OP O (by decide) O O ((gP.kp aR oH).ext fg) wK.rd (by intro c hc;simp at hc;subst hc;rfl) (by omega) (by simp only[maxLen];omega)) ?_;rintro v10 w10 ⟨bz,ar,Ck,-⟩;have mF:=bz.oneV;refine OU O$ OA$ OL O$ PV O$ OK O$ OD ?_;have sL:∀g,g<w1.heap.size->¬v9.ownBlock=some g:=λg hg e=>by have:=hI.fr g e;omega
    rw[show(dn.length:Int)+1=((dn++[y]).length:Int) by simp];refine(ih (dn++[y],l2,v10,a2+(Cd.enc (.zeta k) v).length) _ ⟨⟨ar.OC (fg.OC ce) (sL t (by omega)),⟨ar.OC (fg.OC (aR.OC h7.rd.1 (λe=>h7.ne e.symm))) (sL r (by omega)),h7.rd.2⟩,h7.ne⟩,?_,?_,?_,?_,?_,fh,?_,?_⟩ (by dsimp only;simp)).qb
    ·exact((eJ.trans (aR.OV λk e=> .inl e)).trans fg.kp).An ar (λg hg=> .inl (by have:=hI.fr g hg;omega))
    ·exact ar.OC (fg.OC (aR.OC Cj (by omega))) (sL b7 (by omega))
    ·rw[List.length_append,List.map_append];exact bz
    ·intro g hg;rcases Ck g hg with e| e
     ·exact hI.fr g e
     ·omega
    ·rw[dP,List.append_assoc];rfl
    ·dsimp only at jW⊢;omega
    ·have:=ar.size;omega
   case mR=>
    refine OQ O (λe1=>?_)$ λe1=>?_
    ·have eZ:dn=[]:=List.eq_nil_of_length_eq_zero (by omega);refine Rh O$ qV (PZ O U3 Rr (by omega))$ P4 zei O (z8H v (by omega) _) ?_;rintro _ w8 ⟨rfl,rfl⟩;rw[wJ eZ,z8o];refine OK O$ PV O ?_;rw[show(y:Int)-x+x=(y:Int) by omega];refine OU O ?_;exact(mQ _ _ ⟨rfl,rfl⟩).qb
    ·obtain⟨q,u,rfl⟩:∃q u,dn=q++[u]:=by
      rcases List.eq_nil_or_concat dn with rfl|⟨q,u,rfl⟩
      ·exact absurd O e1
      ·exact⟨q,u,by simp⟩
     have AZ:=pf u q O;have mD:(q++[u]).length=q.length+1:=by simp
     rw[mD] at gP;rcases gP.shape with⟨-,h0⟩|⟨g,c1,rfl,dX⟩
     ·omega
     refine OL O$ P8 O$ OK O$ Ro O ?_;rw[show(((q++[u]).length:Nat):Int)-1=(q.length:Int) by simp];refine qV (PX Ps OP O O (by omega))$ qV (Pr Py O O (Qo gP.rd (show((q++[u]).map Pq)[q.length]? =some (Pq u) by simp))) ?_;refine qV (PJ O Py U3 (by omega))$ PV O$ PV O ?_;rw[show(v:Int)+((u:Int)+1)=(y:Int) by omega];refine OU O ?_;exact(mQ _ _ ⟨rfl,rfl⟩).qb
  ·have eZ:l2=[]:=List.eq_nil_of_length_eq_zero (by omega);subst eZ;refine ON O$ Pf O$ OU O$ OB func254 O ?_;rw[List.append_nil] at dP;subst dP;have jW:=hI.z5d;rw[show(Pa (PN x k l.getLast? [])).length=0 by cases l.getLast?<;>rfl,Nat.add_zero] at jW;rw[<-jW];exact⟨_,rfl,hI.sl,λg hg=>by have:=hI.fr g hg;omega,hI.tk,hI.kp⟩
section
variable {P:Program}{b:Frame}{a:Act}{k:List Item}{cs:List Frame}{w:World}{C:Cx}{e:Env}
def z5j {c:Code}:step P (lone (b.atR a (.code (.scope c)::k)) cs w)= .next (lone (b.atR a (.code c:: .inScope c::k)) cs w):=
 step_lone_go (by simp[stepG,stepG.exec,Frame.atR])
theorem z9u {c:Code}(h:Pn C (.code c:: .inScope c::k) e w):Pn C (.code (.scope c)::k) e w:=λa ha=>Wy.step (λ_ _=>z5j) (h a ha)
end
def loE:Option Nat->Nat
 |none=>0
 |some z=>z+2
def z7a:Option Nat->Int
 |none=>-1
 |some z=>(z:Int)
def Uv (x:Nat):Option Nat->Nat->Nat
 |none,y=>zig ((y:Int)-x)
 |some e,y=>y-e-2
theorem RO (x least:Nat)(e:Option Nat)(p:Nat×Nat)(R:List (Nat×Nat)):PM x least e (p::R)=(.gamma,Uv x e p.1)::(.gamma,p.2-least)::PM x least (some (p.1+p.2-1)) R:=by
 cases e<;>rfl
structure LoI (w:World)(t r:Nat)(s:OG)(R:List (Nat×Nat))(x least left:Nat)(rest:List Bool)(aE:Nat)(i:Nat)(R2:List (Nat×Nat))(e:Option Nat)(O_:List Nat)(v9:Value)(a:Nat)(w':World):Prop where
 tk:TkM w' t r s a
 kp:Kp (λk=>k=t\/k=r) w w'
 sl:Sl w' v9 106 1 O_.length (O_.map Pq)
 fr:∀g,v9.ownBlock=some g->w.heap.size<=g
 len:R.length=i+R2.length
 eq:QW R=O_++QW R2
 ok:T3 least (loE e) R2
 hi:∀p∈R2,p.1+p.2<=65536
 tot:O_.length+(QW R2).length<=left
 bits:(P3 s).drop a=Pa (PM x least e R2)++rest
 z5d:a+(Pa (PM x least e R2)).length=aE
 eb:z7a e<65536
def zak {w:World}{t r a:Nat}{s:OG}(h:TkM w t r s a)(hG:OR w 2 (Sy .gamma) 317)(da:¬2=r)(kS:¬2=t)(x left least:Nat)(hx:x<65536)(qZ:left<=65536)(Cl:least<=64)(R:List (Nat×Nat))(hR:T3 least 0 R)(JE:∀p∈R,p.1+p.2<=65536)
  (wI:(QW R).length<=left) (JF:R.length<=left) (rest:List Bool) (hb:(P3 s).drop a=Pa ((.gamma,R.length)::PM x least none R)++rest):
  Pm prog 253 [ptr t 0,I (x:Int),I (left:Int),I (least:Int)] w λu w'=>Sl w' u 106 1 (QW R).length ((QW R).map Pq)/\(∀g,u.ownBlock=some g->w.heap.size<=g)/\
   TkM w' t r s (a+(Pa ((.gamma,R.length)::PM x least none R)).length)/\Kp (λk=>k=t\/k=r) w w':=by
 have jC:∀v:Nat,v<=262144->v<=Cd.most .gamma:=λv hv=>by simp only[Cd.most];omega
 have lt0:=h.OC.lt
 have lr0:=h.rd.1.lt
 refine py (e:=[(0,_),(1,_),(2,_),(3,_)]) func253 O ntmps253 O O$ QB O$ z9u$ qN O$ Qw O$ OU O$ It$ z8X$ PG O$ qV (Pt (news:=[.int .u8 1,u64v 0]) St O QS O (hG.cells (n:=2) O) O) ?_
 rw[Qa,List.append_assoc] at hb
 refine OK O$ P4 z2W O (Uq h .gamma R.length left trivial (jC _ (by omega)) JF (by omega) _ hb) ?_
 rintro _ w1 ⟨rfl,h1,aL⟩
 have bU:=Sr hb
 refine OK O$ OD$ OH$ Rq (α:=Nat×List (Nat×Nat)×Option Nat×List Nat×Value×Nat) ((0,R,none,[],.slice none 0 0,a+(Cd.enc .gamma R.length).length)) (λy=>[(0,ptr t 0),(1,I (x:Int)),(2,I (left:Int)),(3,I (least:Int)),(9,y.2.2.2.2.1),(10,I (z7a y.2.2.1)),(17,I (R.length:Int)),(18,I (y.1:Int))]) (λy w'=>LoI w t r s R x least left rest (a+(Pa ((.gamma,R.length)::PM x least none R)).length) y.1 y.2.1 y.2.2.1 y.2.2.2.1 y.2.2.2.2.1 y.2.2.2.2.2 w') (λy=>y.2.1.length) ?hI ?hround
 case hI=>exact⟨h1,aL.OV λk e=> .inr e,Sl.nil _ _ _,(λg h=>by cases h),by simp,rfl,hR,JE,by simpa using wI,bU,by rw[Qa,List.length_append];dsimp only;omega,(show(-1:Int)<65536 by decide)⟩
 case hround =>
  rintro⟨i,R2,e,O_,v9,a2⟩ w6 hI ih;dsimp only at hI;have az:=hI.len
  try dsimp only
  refine qN O$ Qq O$ OD$ It$ OQ O (λh0=>?_)$ λh0=>?_
  ·obtain⟨⟨p1,p2⟩,R2,rfl⟩:∃p q,R2=p::q:=by
    cases R2 with
    |nil=>simp at az;omega
    |cons p q=>exact⟨p,q,rfl⟩
   rw[List.length_cons] at az;obtain⟨ok1,ok2,ok3,ok4⟩:loE e<=p1/\1<=p2/\least<=p2/\T3 least (p1+p2+1) R2:=hI.ok;have NC:p1+p2<=65536:=hI.hi (p1,p2) List.mem_cons_self;have fR:QW ((p1,p2)::R2)=(List.range p2).map (p1+·)++QW R2:=rfl;have rf:=hI.tot;have wL:=hI.eq;rw[fR] at rf wL;rw[List.length_append,List.length_map,List.length_range] at rf;have cj:=hI.bits;have jW:=hI.z5d;rw[RO,Qa,Qa,List.append_assoc,List.append_assoc] at cj;rw[RO,Qa,Qa,List.length_append,List.length_append] at jW;have Cm:=hI.eb
   have eU:Uv x e p1<=262144:=by
    cases e with
    |none=>have:=Ze (z:=(p1:Int)-x) (n:=65537) (by omega) (by omega);show zig _<=_;omega
    |some z=>show p1-z-2<=_;omega
   have jY:∀k,(λk=>k=t\/k=r) k->k<w.heap.size:=λk hk=>by rcases hk with e|e<;>omega
   have AY:=hI.kp.OC hG (λe=>by rcases e with e|e;exact kS e;exact da e);refine OE$ Qx$ Pf O$ qV (Pt (news:=[.int .u8 1,u64v 0]) St O QS O (AY.cells (n:=2) O) O)$ P4 z2W O (Uq hI.tk .gamma (Uv x e p1) 262144 trivial (jC _ eU) eU (by omega) _ cj) ?_;rintro _ w7 ⟨rfl,h7,aC⟩;have fh:=Sr cj;have HQ:=hI.kp.size;have ww:=aC.size;have HU:∀g,v9.ownBlock=some g->¬g=r:=λg hg e=>by have:=hI.fr g hg;omega
   have gP:=hI.sl.kp aC HU;have eJ:Kp (λk=>k=t\/k=r) w w7:=hI.kp.trans (aC.OV λk e=> .inr e);refine OU O$ PG O$ Qq O$ OD$ PI (λe' w'=>w'=w7/\e'=[(0,ptr t 0),(1,I (x:Int)),(2,I (left:Int)),(3,I (least:Int)),(9,v9),(11,I (p1:Int)),(17,I (R.length:Int)),(18,I (i:Int))]) ?mQ$ λmQ=>?mR
   case mQ =>
    rintro e' w7 ⟨rfl,rfl⟩;have JG:=aC.OC AY da;refine Pf O$ qV (Pt (news:=[.int .u8 1,u64v 0]) St O QS O (JG.cells (n:=2) O) O)$ OK O$ P4 z2W O (Uq h7 .gamma (p2-least) left trivial (jC _ (by omega)) (by omega) (by omega) _ fh) ?_;rintro _ w8 ⟨rfl,h8,aR⟩;have sM:=Sr fh;have HS:=aR.size;have eV:=gP.kp aR HU;have ph:Kp (λk=>k=t\/k=r) w w8:=eJ.trans (aR.OV λk e=> .inr e);obtain⟨va,vc,rfl,-⟩:=hI.sl.rd.shape;refine OK O$ PV O ?_;rw[show((p2-least:Nat):Int)+(least:Int)=(p2:Int) by omega];have ce:=h8.OC;refine OU O$ It$ Qm O$ Pu O$ OX TS O$ qV (OO U4 O O ce O)$ P8 O$ Qq O$ PF$ PK O$ P8 O$ OK O$ PV O$ Qu O ?_;refine PF$ PK O$ P8 O$ P8 O$ Rv Ps O$ Ro O$ Qu O$ PF$ PK O$ Pu O$ OX TS O$ OW O (QQ W3 O O O ce (by simp)) ?_;rintro w9 ⟨cI,aM⟩;replace cI:OR w9 t [ptr r 0,.bool false] 363:=cI;refine qM O$ OK O$ Pu O$ OX TS O$ qV (OO U4 O O cI O) ?_;have HT:=aM.size;have wK:=eV.kp aM (λg hg e=>by have:=hI.fr g hg;omega);have h9:TkM w9 t r s (a2+(Cd.enc .gamma (Uv x e p1)).length+(Cd.enc .gamma (p2-least)).length):=⟨cI,⟨aM.OC h8.rd.1 (λe=>h8.ne e.symm),h8.rd.2⟩,h8.ne⟩;have Cn:Kp (λk=>k=t\/k=r) w w9:=ph.trans (aM.OV λk e=> .inl e);refine PW O$ It$ Qm O$ OD$ OH$ Rq (α:=Nat×Value) ((0,.slice va O_.length vc)) (λy=>[(0,ptr t 0),(1,I (x:Int)),(2,I (left:Int)),(3,I (least:Int)),(9,y.2),(11,I (p1:Int)),(12,I (p2:Int)),(17,I (R.length:Int)),(18,I (i:Int)),(69,I (p2:Int)),(70,I (y.1:Int))]) (λy w'=>TkM w' t r s (a2+(Cd.enc .gamma (Uv x e p1)).length+(Cd.enc .gamma (p2-least)).length)/\Kp (λk=>k=t\/k=r) w w'/\Sl w' y.2 106 1 (O_.length+y.1) ((O_++(List.range y.1).map (p1+·)).map Pq)/\(∀g,y.2.ownBlock=some g->w.heap.size<=g)/\y.1<=p2) (λy=>p2-y.1) ?hI ?hround
    case hI=>exact⟨h9,Cn,by simpa using wK,hI.fr,Nat.zero_le _⟩
    case hround=>
     rintro⟨j,v⟩ w10 ⟨fd,ar,bz,bc,hj⟩ ih2;dsimp only at fd ar bz bc hj
     try dsimp only
     refine qN O$ Qq O$ OD$ It$ OQ O (λkT=>?_)$ λkT=>?_
     ·refine OE$ Qx$ Pf O$ OU O$ OL O$ P8 O$ OK O$ PV O$ qV (z0U O U3 Py) ?_;rw[show(p1+j)%4294967296=p1+j by omega];refine OM O O (Wj (cs:=[_]) (zs:=[Value.int .u32 0]) Ps OP O (by kernel_rfl) O O O (by decide)) ?_;rintro _ w11 ⟨b11,rfl,⟨j9,aS,bA⟩,sN⟩;have JH:=ar.size;have JI:=aS.size;refine OM O O (pap Ps OP O (by decide) O O (bz.ext aS) sN.rd (by intro c hc;simp at hc;subst hc;rfl) (by omega) (by simp only[maxLen];omega)) ?_;rintro v12 w12 ⟨jY,bh,Co,-⟩;have mF:=jY.oneV;refine OU O$ OA$ OL O$ PV O$ OK O$ OD ?_;have wM:∀g,g<w.heap.size->¬v.ownBlock=some g:=λg hg e=>by have:=bc g e;omega
      refine(ih2 (j+1,v12) _ ⟨⟨bh.OC (aS.OC fd.OC) (wM t lt0),⟨bh.OC (aS.OC fd.rd.1) (wM r lr0),fd.rd.2⟩,fd.ne⟩,(ar.trans aS.kp).An bh (λg hg=> .inl (bc g hg)),?_,λg hg=>?_,by omega⟩ (by dsimp only;omega)).qb
      ·have e1:(O_++(List.range (j+1)).map (p1+·)).map Pq=(O_++(List.range j).map (p1+·)).map Pq++[Pq (p1+j)]:=by
        rw[List.range_succ];simp
       dsimp only;rw[e1];exact jY
      ·rcases Co g hg with e| e
       ·exact bc g e
       ·omega
     ·have JJ:j=p2:=by omega
      subst JJ;refine ON O$ OL O$ P8 O$ PV O$ Ro O$ OU O$ OA$ OL O$ PV O$ OK O$ OD ?_;rw[show(p1:Int)+j-1=z7a (some (p1+j-1)) by show _=((p1+j-1:Nat):Int);omega,show(i:Int)+1=((i+1:Nat):Int) by omega];refine(ih (i+1,R2,some (p1+j-1),O_++(List.range j).map (p1+·),v,_) _ ⟨fd,ar,?_,bc,by dsimp only;omega,by rw[wL,List.append_assoc],?_,λp hp=>hI.hi p (List.mem_cons_of_mem _ hp),?_,sM,?_,?_⟩ (by dsimp only;simp)).qb
      ·dsimp only;rw[List.length_append,List.length_map,List.length_range];exact bz
      ·refine ok4.mono ?_;show p1+j-1+2<=_;omega
      ·dsimp only;rw[List.length_append,List.length_map,List.length_range];omega
      ·dsimp only at jW⊢;omega
      ·show((p1+j-1:Nat):Int)<65536;omega
   case mR=>
    cases e with
    | none =>
      refine OQ O (λe1=>?_)$ λe1=>?_
      ·refine Rh O$ qV (PZ O U3 Rr (by omega))$ P4 zei O (z8H _ (by omega) _) ?_;rintro _ w8 ⟨rfl,rfl⟩;rw[show Uv x none p1=zig ((p1:Int)-x) from rfl,z8o];refine OK O$ PV O ?_;rw[show(p1:Int)-x+x=(p1:Int) by omega];refine OU O ?_;exact(mQ _ _ ⟨rfl,rfl⟩).qb
      ·exact absurd (by decide) e1
    | some z =>
      refine OQ O (λe1=>?_)$ λe1=>?_
      ·exact absurd e1 (by show ¬((z:Int)<0);omega)
      ·have hz:z+2<=p1:=ok1;refine OL O$ P8 O ?_;rw[show z7a (some z)=(z:Int) from rfl];refine PV O$ PV O ?_;rw[show Uv x (some z) p1=p1-z-2 from rfl,show((p1-z-2:Nat):Int)+((z:Int)+2)=(p1:Int) by omega];refine OU O ?_;exact(mQ _ _ ⟨rfl,rfl⟩).qb
  ·have eZ:R2=[]:=List.eq_nil_of_length_eq_zero (by omega);subst eZ;refine ON O$ Pf O$ OU O$ OB func253 O ?_;have dP:=hI.eq;rw[show QW []=[] from rfl,List.append_nil] at dP;have jW:=hI.z5d;rw[show(Pa (PM x least e [])).length=0 by cases e<;>rfl,Nat.add_zero] at jW;rw[dP,<-jW];exact⟨_,rfl,hI.sl,hI.fr,hI.tk,hI.kp⟩
def QC (p:S6)(n r:Nat):List (Cd×Nat):=(.gamma,n)::if n=0 then [] else if 0<p.Pb then [(.unary,r)] else []
def z2w {w:World}{r a:Nat}{s:OG}(h:TX w r s a)(p:S6)(hp:p.QA)(hG:OR w 2 (Sy .gamma) 317)(hU:OR w 3 (Sy .unary) 317)(da:¬2=r)(dw:¬3=r)(n q:Nat)(hn:n<=65536)(hq:q<=p.Pb)
  (mX:n=0->q=0) (rest:List Bool) (hb:(P3 s).drop a=Pa (QC p n q)++rest):
  Pm prog 241 [ptr r 0,lpV p] w λu w'=>u= .tuple #[.agg #[I (n:Int),I (q:Int)],I 0]/\TX w' r s (a+(Pa (QC p n q)).length)/\Kp (λk=>k=r) w w':=by
 obtain⟨g1,g2,g3,g4⟩:=id hp
 have lr0:=h.1.lt
 have mY:p.Pb=0->q=0:=λe=>by omega
 unfold QC at hb⊢
 rw[Qa,List.append_assoc] at hb
 refine py (e:=[(0,_),(1,_)]) func241 O ntmps241 O O$ qN O$ OM O O (Rm O (cs:=lpC p) O) ?_
 rintro _ w1 ⟨b3,rfl,eG,ad,au⟩
 refine OM O O (RN (cs:=[_,_]) So O) ?_
 rintro _ w2 ⟨b4,rfl,fC,ae,aK⟩
 have z1:=ad.size
 have z2:=ae.size
 have de:=ae.OC au
 refine OU O$ Qx$ Pf O$ qV (Qi Vj O O)$ OU O$ OJ O$ qN O$ qV (Pt (news:=lpC p) Zd O Uf O (de.cells (n:=3) O) O)$ P4 z5n O (U0 p hp w2) ?_
 rintro _ w3 ⟨rfl,ai⟩
 refine Qf O$ RT O ?_
 have dc:=(ad.trans ae).trans ai
 have h3:TX w3 r s a:=⟨dc.OC h.1,h.2⟩
 refine PW O$ OA$ Pf O$ P4 Ys O (Uk h3) ?_
 rintro _ w4 ⟨rfl,rfl⟩
 refine Qt O$ qV (Pt (news:=[.int .u8 1,u64v 0]) St O QS O ((dc.OC hG).cells (n:=2) O) O)$ P4 zb6 O (ZJ h3 .gamma n trivial (by simp only[Cd.most];omega) _ hb) ?_
 rintro _ w5 ⟨rfl,h5,ak⟩
 have ig:=Sr hb
 have cZ:=ak.OC (ai.OC de) (by omega)
 have aN:=ak.OC (ai.OC aK) (by omega)
 have cz:Kp (λk=>k=r) w w5:=dc.kp.trans ak
 replace cZ:OR w5 b3 [I (p.Pb:Int),I (p.interval:Int),I (p.zeta:Int)] 279:=cZ
 refine OK O$ RA O$ RT O$ Qw O$ OU O$ PG O$ Ri O$ OK O ?_
 rcases Nat.eq_zero_or_pos n with e0|e0
 ·have sO:=mX e0;subst e0;subst sO;refine OK O$ Qu O$ PF$ QJ O$ OK O$ QG$ qS$ PK O$ OD$ Pn.qb (e:=[(0,_),(3,_),(4,_),(5,_),(6,_),(7,_),(8,_),(9,_),(37,_)]) ?_;refine Tu O$ PG O$ Qf O$ P8 O$ Qu O$ PF$ PK O$ P8 O$ OX Tg O$ qV (OO U3 O O cZ O)$ qV ((PZ O U3 Rr (by omega)))$ Qu O$ PF$ PK O ?_;refine PW O$ Pf O$ qV (PJ O Rr U3 (by omega))$ OK O$ qV (PJ O Rr U3 (by omega))$ qV (Sk (cs:=[_,_]) So O zcr O O)$ OW O (PO (news:=[I ((0:Nat):Int),I (((0:Nat)):Int)]) So O O O O aN (by simp)) ?_;rintro w9 ⟨cf,aM⟩;replace cf:OR w9 b4 [I ((0:Nat):Int),I (((0:Nat)):Int)] 332:=cf;refine OU O$ Pn.qb (e:=[(4,_),(5,_)]) ?_;refine Po func241 (.cell z5K O So O (OR.cells (n:=2) cf (news:=[_,_]) O) O (.tmp O .nil)) ?_;rw[if_pos O,show(Pa [((.gamma,0):Cd×Nat)]).length=(Cd.enc .gamma 0).length by rw[Qa,List.length_append];rfl];refine⟨_,rfl,rfl,⟨aM.OC h5.1 (by omega),h5.2⟩,cz.An aM (λk e=> .inl (by omega))⟩
 ·rw[if_neg (by omega)] at ig⊢;rcases Nat.eq_zero_or_pos p.Pb with e1|e1
  ·have sO:=mY e1;subst sO;rw[if_neg (by omega)] at ig⊢;refine OK O$ Qu O$ Rp$ QJ O$ OK O$ OX Tg O$ qV (OO U3 O O cZ O)$ Qu O$ PF$ QJ O$ OD$ Pn.qb (e:=[(0,_),(3,_),(4,_),(5,_),(6,_),(7,_),(8,_),(9,_),(37,_)]) ?_;refine Tu O$ PG O$ Qf O$ P8 O$ Qu O$ PF$ PK O$ P8 O$ OX Tg O$ qV (OO U3 O O cZ O)$ qV ((PZ O U3 Rr (by omega)))$ Qu O$ PF$ PK O ?_;refine PW O$ Pf O$ qV (PJ O Rr U3 (by omega))$ OK O$ qV (PJ O Rr U3 (by omega))$ qV (Sk (cs:=[_,_]) So O zcr O O)$ OW O (PO (news:=[I (n:Int),I (((0:Nat)):Int)]) So O O O O aN (by simp)) ?_;rintro w9 ⟨cf,aM⟩;replace cf:OR w9 b4 [I (n:Int),I (((0:Nat)):Int)] 332:=cf;refine OU O$ Pn.qb (e:=[(4,_),(5,_)]) ?_;refine Po func241 (.cell z5K O So O (OR.cells (n:=2) cf (news:=[_,_]) O) O (.tmp O .nil)) ?_;rw[show(Pa [((.gamma,n):Cd×Nat)]).length=(Cd.enc .gamma n).length by rw[Qa,List.length_append];rfl];refine⟨_,rfl,rfl,⟨aM.OC h5.1 (by omega),h5.2⟩,cz.An aM (λk e=> .inl (by omega))⟩
  ·rw[if_pos e1] at ig⊢;rw[Qa,List.append_assoc] at ig;refine OK O$ Qu O$ Rp$ QJ O$ OK O$ OX Tg O$ qV (OO U3 O O cZ O)$ Qu O$ Rp$ QJ O$ OD$ Pn.qb (e:=[(0,_),(3,_),(4,_),(5,_),(6,_),(7,_),(8,_),(9,_),(37,_)]) ?_;refine OS O$ Rh O$ qV (Pt (news:=[.int .u8 0,u64v 0]) St O QS O ((cz.OC hU dw).cells (n:=2) O) O)$ P4 zb6 O (ZJ h5 .unary q trivial (by simp only[Cd.most];omega) _ ig) ?_;rintro _ w6 ⟨rfl,h6,aP⟩;have lT:=aP.OC cZ (by omega);have cg:=aP.OC aN (by omega);have sP:=cz.trans aP;refine OK O$ RA O$ PU O$ PG O$ Qf O$ P8 O$ Qu O$ PF$ PK O$ P8 O$ OX Tg O$ qV (OO U3 O O lT O)$ qV ((PZ O U3 Rr (by omega)))$ Qu O ?_;refine PF$ PK O$ OD$ Pn.qb (e:=[(0,_),(4,_),(5,_),(6,_),(7,_),(9,_),(56,_)]) ?_;refine Tu O$ Pf O$ qV (PJ O Rr U3 (by omega))$ OK O$ qV (PJ O Rr U3 (by omega))$ qV (Sk (cs:=[_,_]) So O zcr O O)$ OW O (PO (news:=[I (n:Int),I (q:Int)]) So O O O O cg (by simp)) ?_;rintro w9 ⟨cf,aM⟩;replace cf:OR w9 b4 [I (n:Int),I (q:Int)] 332:=cf;refine OU O$ Po func241 (.cell z5K O So O (OR.cells (n:=2) cf (news:=[_,_]) O) O (.tmp O .nil)) ?_;rw[show(Pa [((.gamma,n):Cd×Nat),(.unary,q)]).length=(Cd.enc .gamma n).length+(Cd.enc .unary q).length by rw[Qa,Qa,List.length_append,List.length_append];rfl,<-Nat.add_assoc];refine⟨_,rfl,rfl,⟨aM.OC h6.1 (by omega),h6.2⟩,sP.An aM (λk e=> .inl (by omega))⟩
structure Qr where
 Pb:Nat
 chain:Nat
 interval:Nat
 zeta:Nat
 most:Nat
def Qr.list (p:Qr):S6:=⟨p.Pb,p.interval,p.zeta⟩
def Qr.QA (p:Qr):Prop:=p.list.QA/\p.chain<=16/\p.most<=65536
def Vn (p:Qr):List Value:=[I (p.Pb:Int),I (p.chain:Int),I (p.interval:Int),I (p.zeta:Int),I (p.most:Int)]
abbrev bpV (p:Qr):Value:= .agg (Vn p).toArray
def T0 (p:Qr)(w:World):Pm prog 172 [bpV p] w λu w'=>u=lpV p.list/\Ext w w':=by
 refine py (e:=[(0,_)]) func172 O ntmps172 O O$ qN O$ OM O O (Rm O (cs:=Vn p) O) ?_
 rintro _ w1 ⟨b1,rfl,bU,ad,aj⟩
 refine OM O O (RN (cs:=[_,_,_]) Uf O) ?_
 rintro _ w2 ⟨b2,rfl,cn,ae,am⟩
 have bC:=ae.OC aj
 replace bC:OR w2 b1 [I (p.Pb:Int),I (p.chain:Int),I (p.interval:Int),I (p.zeta:Int),I (p.most:Int)] 94:=bC
 refine qM O$ OX z0T O$ qV (OO U3 O O bC O)$ OX zcP O$ qV (OO U3 O O bC O)$ OX zbd O$ qV (OO U3 O O bC O)$ qV (Sk (cs:=[_,_,_]) Uf O zjV O O)$ OW O (PO (news:=[I (p.Pb:Int),I (p.interval:Int),I (p.zeta:Int)]) Uf O O O O am (by simp)) ?_
 rintro w3 ⟨cW,av⟩
 replace cW:OR w3 b2 [I (p.Pb:Int),I (p.interval:Int),I (p.zeta:Int)] 279:=cW
 refine OD$ Po func172 (.cell Zd O Uf O (OR.cells (n:=3) cW (news:=[_,_,_]) O) O .nil) ?_
 have z1:=ad.size
 exact⟨_,rfl,rfl,(ad.trans ae).An av (λk e=>by omega)⟩
def z05 (p:Qr)(hp:p.QA)(w:World):Pm prog 170 [bpV p] w λu w'=>u=I 0/\Ext w w':=by
 obtain⟨g1,g2,g3⟩:=hp
 refine py (e:=[(0,_)]) func170 O ntmps170 O O$ qN O$ OM O O (Rm O (cs:=Vn p) O) ?_
 rintro _ w1 ⟨b1,rfl,bU,ad,aj⟩
 have fi:OR w1 b1 [I (p.Pb:Int),I (p.chain:Int),I (p.interval:Int),I (p.zeta:Int),I (p.most:Int)] 94:=aj
 refine OU O$ It$ qN O$ OX Zm O$ qV (OO U3 O O fi O)$ Qq O$ PF$ OK O$ OX Zm O$ qV (OO U3 O O fi O)$ Qu O$ PF$ PK O$ OK O ?_
 refine OX TM O$ qV (OO U3 O O fi O)$ Qq O$ PF$ PK O$ OK O$ OX TM O$ qV (OO U3 O O fi O)$ Qu O$ PF$ PK O$ PW O$ qN O$ qV (Pt U94 O RK O (OR.cells (n:=5) fi (news:=[_,_,_,_,_]) O) O) ?_
 refine P4 z0M O (T0 p w1) ?_
 rintro _ w2 ⟨rfl,ae⟩
 refine P4 z5n O (U0 p.list g1 w2) ?_
 rintro _ w3 ⟨rfl,ai⟩
 refine OU O$ OB func170 O ?_
 exact⟨_,rfl,rfl,(ad.trans ae).trans ai⟩
structure SG (w:World)(g n cap:Nat)(d:Array Nat):Prop where
 sl:Sl w (.slice (some ⟨g,0,none⟩) n cap) 106 1 n (d.toList.map Pq)
 size:d.size=n
abbrev QL (x y:Nat):Bool:=decide (x<y)
def Yt:Go.Sort.SWO QL:=⟨λx=>by simp[QL],λx y z h1 h2=>by simp[QL] at*;omega,λx y z h1 h2=>by simp[QL] at*;omega⟩
section
variable {w w':World}{g n cap:Nat}{d:Array Nat}{S:Nat->Prop}
def SG.ext (h:SG w g n cap d)(k:Ext w w'):SG w' g n cap d:=⟨h.sl.ext k,h.size⟩
def SG.kp (h:SG w g n cap d)(k:Kp S w w')(hg:¬S g):SG w' g n cap d:=⟨h.sl.kp k (λg' e=>by cases e;exact hg),h.size⟩
theorem SG.get {i:Nat}(h:SG w g n cap d)(hi:i<n):w.cell? ⟨g,0+i*1,none⟩=some (Pq d[i]!):=by
 have hs:=h.size
 refine Qo h.sl.rd ?_
 rw[List.getElem?_map,Array.getElem?_toList,Array.getElem?_eq_getElem (by omega)]
 rw[getElem!_pos d i (by omega)]
 rfl
def SG.jlt {j:Nat}(h:SG w g n cap d)(hj:j<n):j<(d.toList.map Pq).length:=by
 have hs:=h.size
 rw[List.length_map,Array.length_toList];omega
theorem SG.set {i y:Nat}(h:SG w g n cap d)(hS:Sl w' (.slice (some ⟨g,0,none⟩) n cap) 106 1 n ((d.toList.map Pq).set (0+i*1) (Pq y))):SG w' g n cap (d.setIfInBounds i y):=by
 refine⟨?_,by rw[Array.size_setIfInBounds,h.size]⟩
 rw[Array.toList_setIfInBounds,List.map_set]
 rw[show 0+i*1=i by omega] at hS
 exact hS
end
def zaa (x:Nat)(w:World):Pm prog 283 [Pq x] w λu w'=>u= .bool false/\w'=w:=by
 refine py (e:=[(0,_)]) func283 O ntmps283 O O$ qN O$ Qw O$ P8 O$ Qf O$ OU O$ OB func283 O ?_
 exact⟨_,rfl,by simp[Qc],rfl⟩
def S7 (x y:Nat)(w:World):Pm prog 275 [Pq x,Pq y] w λu w'=>u= .bool (QL x y)/\w'=w:=by
 refine py (e:=[(0,_),(1,_)]) func275 O ntmps275 O O$ qN O$ Qt O$ P4 ziU O (zaa x w) ?_
 rintro _ w ⟨rfl,rfl⟩
 refine OK O$ QG$ qS$ PK O$ P8 O$ OK O$ Qq O$ PK O$ OU O$ OB func275 O ?_
 exact⟨_,rfl,by simp[QL,Qc],rfl⟩
section
variable (a b j i:Nat)(d:Array Nat)
theorem z4W (hj:a<j)(hl:QL d[j]! d[j-1]! =true):Go.Sort.insInner QL a j d=Go.Sort.insInner QL a (j-1) (Go.Sort.swp d j (j-1)):=by
 obtain⟨k,rfl⟩:∃k,j=k+1:=⟨j-1,by omega⟩
 rw[Go.Sort.insInner]
 simp only[Nat.add_sub_cancel] at hl⊢
 rw[if_pos]
 rw[Bool.and_eq_true];exact⟨by simpa using hj,hl⟩
theorem XM (h:j<=a\/QL d[j]! d[j-1]! =false):Go.Sort.insInner QL a j d=d:=by
 cases j with
 |zero=>rw[Go.Sort.insInner]
 | succ k =>
   rw[Go.Sort.insInner];simp only[Nat.add_sub_cancel] at h;rw[if_neg];intro hc;rw[Bool.and_eq_true] at hc;rcases h with h| h
   ·have:=of_decide_eq_true hc.1;omega
   ·rw[h] at hc;cases hc.2
theorem z5D (h:i<b):Go.Sort.insOuter QL a b i d=Go.Sort.insOuter QL a b (i+1) (Go.Sort.insInner QL a i d):=by rw[Go.Sort.insOuter,if_pos h]
theorem z2g (h:¬i<b):Go.Sort.insOuter QL a b i d=d:=by rw[Go.Sort.insOuter,if_neg h]
end
def z2h {w:World}{g n cap:Nat}{d:Array Nat}(h:SG w g n cap d)(a b:Nat)(iV:a<=b)(hb:b<=n)(hn:n<=65536):
  Pm prog 269 [.slice (some ⟨g,0,none⟩) n cap,I (a:Int),I (b:Int)] w λu w'=>u= .tuple #[]/\SG w' g n cap (Go.Sort.insertionSort QL d a b)/\Kp (λk=>k=g) w w':=by
 refine py (e:=[(0,_),(1,_),(2,_)]) func269 O ntmps269 O O$ Pf O$ PV O$ OU O$ OH$ Rq (α:=Nat×Array Nat) ((a+1,d)) (λy=>[(0,.slice (some ⟨g,0,none⟩) n cap),(1,I (a:Int)),(2,I (b:Int)),(6,I (y.1:Int))]) (λy w'=>SG w' g n cap y.2/\Kp (λk=>k=g) w w'/\Go.Sort.insOuter QL a b y.1 y.2=Go.Sort.insertionSort QL d a b/\a<y.1) (λy=>b-y.1) ?hI ?hround
 case hI=>exact⟨h,Kp.refl _ _,rfl,Nat.lt_succ_self a⟩
 case hround=>
  rintro⟨i,d4⟩ w4 ⟨dZ,ao,cD,oJ⟩ ih;dsimp only at dZ ao cD oJ
  try dsimp only
  refine It$ Qm O$ Qq O$ OD$ OQ O (λh0=>?_)$ λh0=>?_
  ·rw[z5D _ _ _ _ (by omega)] at cD;refine OE$ Qx$ Pf O$ OU O$ OH$ Rq (α:=Nat×Array Nat) ((i,d4)) (λy=>[(0,.slice (some ⟨g,0,none⟩) n cap),(1,I (a:Int)),(2,I (b:Int)),(6,I (i:Int)),(7,I (y.1:Int))]) (λy w'=>SG w' g n cap y.2/\Kp (λk=>k=g) w w'/\Go.Sort.insInner QL a y.1 y.2=Go.Sort.insInner QL a i d4/\y.1<=i/\a<=y.1) (λy=>y.1) ?hI ?hround
   case hI=>exact⟨dZ,ao,rfl,Nat.le_refl _,by dsimp only;omega⟩
   case hround=>
    rintro⟨j,d5⟩ w5 ⟨aV,ak,ck,JK,Cp⟩ ih2;dsimp only at aV ak ck JK Cp
    try dsimp only
    have hg:=Ext.OT w5;rcases Nat.lt_or_ge a j with hj|hj
    ·refine It$ It$ R5 (λw'=>Ext w5 w') O$ OZ 0 O O (hg)$ OZ 1 O O (hg)$ OI 2 O (Xw O O) hg$ TT$ OZ 3 O O (hg)$ OZ 4 O O (hg)$ OZ 5 O O (hg)$ OI 6 O (PX Ps OP O O (by omega)) hg$ OZ 8 O O (hg)$ OZ 9 O O (hg)$ OI 10 O (XH O O (by omega)) hg ?_;rw[show(j:Int)-1=((j-1:Nat):Int) by omega];refine qT 7 O (λ_ h=>Pr Py O O ((aV.ext h).get (i:=j) (by omega))) hg$ OI 11 O (PX Ps OP O O (by omega)) hg$ qT 12 O (λ_ h=>Pr Py O O ((aV.ext h).get (i:=j-1) (by omega))) hg$ SK 13 O Wf O (S7 _ _ _) ?_;rintro _ w6 ⟨rfl,rfl⟩;refine⟨hg,?_⟩;refine OI 14 O (UJ O O) hg$ qE ?_;have pi:=aV.ext hg;refine Qe O (λh1=>?_)$ λh1=>?_
     ·refine OE$ Qx ?_;have aA:=Ext.OT w5.drew;refine P7 [15,17] (λw'=>Ext w5.drew w') (by kernel_rfl) O$ PL 0 O O (aA)$ PL 1 O O (aA)$ Q8 (i:=2) O (by kernel_rfl) O O (λ_=>Xv O) (aA)$ Q8 (i:=3) O (by kernel_rfl) O O (λ_=>Xv O) (aA)$ Q8 (i:=4) O (by kernel_rfl) O O (λ_=>XH O O (by omega)) (aA)$ PL 5 O O (aA)$ PL 6 O O (aA)$ P9 7 O (XH O O (by omega)) aA$ PL 10 O O (aA)$ PL 11 O O (aA)$ P9 12 O (PX Ps OP O O (by omega)) aA ?_;rw[show(j:Int)-1=((j-1:Nat):Int) by omega];refine P9 8 O (PX Ps OP O O (by omega)) aA$ qL 9 O (λ_ h=>Pr Py O O ((pi.ext h).get (i:=j-1) (by omega))) aA$ qL 13 O (λ_ h=>Pr Py O O ((pi.ext h).get (i:=j) (by omega))) aA$ P9 14 O (PX Ps OP O O (by omega)) aA$ SM [15]$ qO 15$ PC (i:=15) O O (RV OP O O O (pi.ext aA).sl ((pi.ext aA).jlt (by omega))) ?_;rintro w7a ⟨gl,gm⟩;refine⟨trivial,?_⟩;have cJ:=(pi.ext aA).set gl;refine OI 16 O (PX Ps OP O O (by omega)) trivial$ qO 17$ PC (i:=17) O O (RV OP O O O cJ.sl (cJ.jlt (by omega))) ?_;rintro w7 ⟨iw,jZ⟩;refine⟨trivial,?_⟩;have kf:=cJ.set iw;have gn:Kp (λk=>k=g) w5.drew w7:=aA.kp.trans (gm.trans jZ);refine qE$ OA$ Rh O$ Ro O$ OU O ?_;rw[show(j:Int)-1=((j-1:Nat):Int) by omega];refine(ih2 (j-1,Go.Sort.swp d5 j (j-1)) _ ⟨kf,(ak.trans hg.kp).trans gn,?_,by dsimp only;omega,by dsimp only;omega⟩ (by dsimp only;omega)).qb;dsimp only;rw[<-ck,z4W a j d5 hj h1]
     ·refine ON O$ OA$ Rh O$ PV O$ OU O ?_;rw[XM a j d5 (.inr (by simpa using h1))] at ck;refine(ih (i+1,d5) _ ⟨pi,ak.trans hg.kp,?_,by dsimp only;omega⟩ (by dsimp only;omega)).qb;dsimp only;rw[ck];exact cD
    ·refine It$ It$ R5 (λw'=>Ext w5 w') O$ OZ 0 O O (hg)$ OZ 1 O O (hg)$ OI 2 O (Xw O O) hg$ Uc$ OZ 3 O O (hg)$ qJ 4 O (hg)$ qJ 5 O (hg)$ qJ 6 O (hg)$ qJ 7 O (hg)$ qJ 8 O (hg)$ qJ 9 O (hg) ?_;refine qJ 10 O (hg)$ qJ 11 O (hg)$ qJ 12 O (hg)$ qJ 13 O (hg)$ OI 14 O (Ub O O) hg$ qE$ OJ O$ ON O$ OA$ Rh O$ PV O$ OU O ?_;rw[XM a j d5 (.inl hj)] at ck;refine(ih (i+1,d5) _ ⟨aV.ext hg,ak.trans hg.kp,?_,by dsimp only;omega⟩ (by dsimp only;omega)).qb;dsimp only;rw[ck];exact cD
  ·rw[z2g _ _ _ _ (by omega)] at cD;refine ON O$ Qv func269 O ?_;exact⟨_,rfl,rfl,cD▸dZ,ao⟩
section
variable (hi first root:Nat)(d:Array Nat)
def ZL:Nat:=if 2*root+1+1<hi&&QL d[first+(2*root+1)]! d[first+(2*root+1)+1]! then 2*root+2 else 2*root+1
theorem z9n (h:hi<=2*root+1):Go.Sort.siftDown QL hi first root d=d:=by rw[Go.Sort.siftDown,dif_pos h]
theorem ze2 (h:2*root+1<hi):Go.Sort.siftDown QL hi first root d=if QL d[first+root]! d[first+ZL hi first root d]! then Go.Sort.siftDown QL hi first (ZL hi first root d) (Go.Sort.swp d (first+root) (first+ZL hi first root d)) else d:=by
 rw[Go.Sort.siftDown,dif_neg (by omega)]
 unfold ZL
 by_cases h1:(decide (2*root+1+1<hi)&&QL d[first+(2*root+1)]! d[first+(2*root+1)+1]!)=true
 ·rw[if_pos h1,if_pos h1];rw[Bool.and_eq_true] at h1;have h2:2*root+2<hi:=of_decide_eq_true h1.1;rw[dif_pos h2];cases QL d[first+root]! d[first+(2*root+2)]!<;>rfl
 ·rw[if_neg h1,if_neg h1];cases QL d[first+root]! d[first+(2*root+1)]!<;>rfl
def zdg (h:2*root+1<hi):root<ZL hi first root d/\ZL hi first root d<hi:=by
 unfold ZL
 split
 ·rename_i h1
  rw[Bool.and_eq_true] at h1;have h2:2*root+2<hi:=of_decide_eq_true h1.1;omega
 ·omega
end
def z4e {w:World}{g n cap:Nat}{d:Array Nat}(h:SG w g n cap d)(lo hi first:Nat)(hf:first+hi<=n)(qW:lo<=65536)(hn:n<=65536):
  Pm prog 278 [.slice (some ⟨g,0,none⟩) n cap,I (lo:Int),I (hi:Int),I (first:Int)] w λu w'=>u= .tuple #[]/\SG w' g n cap (Go.Sort.siftDown QL hi first lo d)/\Kp (λk=>k=g) w w':=by
 refine py (e:=[(0,_),(1,_),(2,_),(3,_)]) func278 O ntmps278 O O$ Pf O$ OU O$ OH$ Rq (α:=Nat×Array Nat) ((lo,d)) (λy=>[(0,.slice (some ⟨g,0,none⟩) n cap),(2,I (hi:Int)),(3,I (first:Int)),(8,I (y.1:Int))]) (λy w'=>SG w' g n cap y.2/\Kp (λk=>k=g) w w'/\Go.Sort.siftDown QL hi first y.1 y.2=Go.Sort.siftDown QL hi first lo d/\y.1<=65536) (λy=>hi-y.1) ?hI ?hround
 case hI=>exact⟨h,Kp.refl _ _,rfl,qW⟩
 case hround=>
  rintro⟨root,d4⟩ w4 ⟨dZ,ao,cD,bM⟩ ih;dsimp only at dZ ao cD bM
  try dsimp only
  refine OH$ Pf O$ qV (Wm O O (by omega))$ PV O$ OU O$ It$ qN O ?_;rw[show 2*(root:Int)+1=((2*root+1:Nat):Int) by omega];refine P8 O$ Te O$ OD$ OQ O (λh0=>?_)$ λh0=>?_
  ·rw[z9n _ _ _ _ (by omega)] at cD;refine ON O$ Qv func278 O ?_;exact⟨_,rfl,rfl,cD▸dZ,ao⟩
  ·have hc:=zdg hi first root d4 (by omega);rw[ze2 _ _ _ _ (by omega)] at cD;have hg:=Ext.OT w4;have sQ:=dZ.ext hg;refine OE$ It$ It ?_
   generalize pj:(decide (2*root+1+1<hi)&&QL d4[first+(2*root+1)]! d4[first+(2*root+1)+1]!)=sel
   refine PI (λe' w'=>e'=[(0,.slice (some ⟨g,0,none⟩) n cap),(2,I (hi:Int)),(3,I (first:Int)),(8,I (root:Int)),(9,I ((2*root+1:Nat):Int)),(36,.bool sel)]/\w'=w4.drew) ?dv$ λdv=>?ff
   case dv=>
    rintro e' w5 ⟨rfl,rfl⟩;refine PI (λe' w'=>e'=[(0,.slice (some ⟨g,0,none⟩) n cap),(2,I (hi:Int)),(3,I (first:Int)),(8,I (root:Int)),(9,I (ZL hi first root d4:Int))]/\w'=w4.drew) ?aw$ λaw=>?dz
    case aw=>
     rintro e' w5 ⟨rfl,rfl⟩
     generalize ZL hi first root d4=c at hc cD
     have cS:=Ext.OT w4.drew;have lU:=sQ.ext cS;refine It$ It$ R5 (λw'=>Ext w4.drew w') O$ OZ 0 O O (cS)$ OZ 1 O O (cS)$ OZ 2 O O (cS)$ OI 3 O (Ud O O (by omega)) cS$ OI 4 O (PX Ps OP O O (by omega)) cS$ OZ 6 O O (cS)$ OZ 7 O O (cS)$ OZ 8 O O (cS)$ OI 9 O (Ud O O (by omega)) cS$ OI 10 O (PX Ps OP O O (by omega)) cS$ qT 5 O (λ_ h=>Pr Py O O ((sQ.ext h).get (i:=first+root) (by omega))) cS ?_;refine qT 11 O (λ_ h=>Pr Py O O ((sQ.ext h).get (i:=first+c) (by omega))) cS$ SK 12 O Wf O (S7 _ _ _) ?_;rintro _ w6 ⟨rfl,rfl⟩;refine⟨cS,?_⟩;refine OI 13 O ((z9g O)) cS$ qE$ Qe O (λh1=>?_)$ λh1=>?_
     ·rw[if_neg (by simpa using h1)] at cD;refine OB func278 O ?_;exact⟨_,rfl,rfl,cD▸lU,ao.trans (hg.trans cS).kp⟩
     ·rw[if_pos (by simpa using h1)] at cD;refine OE$ It ?_;have aA:=Ext.OT w4.drew.drew;refine P7 [21,23] (λw'=>Ext w4.drew.drew w') (by kernel_rfl) O$ PL 0 O O (aA)$ PL 1 O O (aA)$ PL 2 O O (aA)$ P9 3 O (Ud O O (by omega)) aA$ Q8 (i:=4) O (by kernel_rfl) O O (λ_=>Xv O) (aA)$ Q8 (i:=5) O (by kernel_rfl) O O (λ_=>Xv O) (aA)$ Q8 (i:=6) O (by kernel_rfl) O O (λ_=>Xv O) (aA)$ Q8 (i:=7) O (by kernel_rfl) O O (λ_=>Ud O O (by omega)) (aA)$ PL 8 O O (aA)$ PL 9 O O (aA)$ PL 10 O O (aA)$ P9 11 O (Ud O O (by omega)) aA$ P9 12 O (PX Ps OP O O (by omega)) aA ?_;refine PL 14 O O (aA)$ PL 15 O O (aA)$ PL 16 O O (aA)$ P9 17 O (Ud O O (by omega)) aA$ P9 18 O (PX Ps OP O O (by omega)) aA$ qL 13 O (λ_ h=>Pr Py O O ((lU.ext h).get (i:=first+c) (by omega))) aA$ qL 19 O (λ_ h=>Pr Py O O ((lU.ext h).get (i:=first+root) (by omega))) aA$ P9 20 O (PX Ps OP O O (by omega)) aA$ SM [21]$ qO 21$ PC (i:=21) O O (RV OP O O O (lU.ext aA).sl ((lU.ext aA).jlt (by omega))) ?_;rintro w7a ⟨gl,gm⟩;refine⟨trivial,?_⟩;have cJ:=(lU.ext aA).set gl;refine OI 22 O (PX Ps OP O O (by omega)) trivial$ qO 23$ PC (i:=23) O O (RV OP O O O cJ.sl (cJ.jlt (by omega))) ?_;rintro w7 ⟨iw,jZ⟩;refine⟨trivial,?_⟩;have kf:=cJ.set iw;have gn:Kp (λk=>k=g) w4.drew.drew w7:=aA.kp.trans (gm.trans jZ);refine qE$ Rh O$ OU O$ OA ((ih (c,Go.Sort.swp d4 (first+root) (first+c)) _ ⟨kf,(ao.trans (hg.trans cS).kp).trans gn,cD,by dsimp only;omega⟩ (by dsimp only;omega)).qb)
    case dz=>
     refine Qe O (λh1=>?_)$ λh1=>?_
     ·refine Rh O$ PV O$ OU O ?_;rw[show((2*root+1:Nat):Int)+1=(ZL hi first root d4:Int) by unfold ZL;rw[pj,if_pos h1];omega];exact(aw _ _ ⟨rfl,rfl⟩).qb
     ·refine OE ?_;rw[show((2*root+1:Nat):Int)=(ZL hi first root d4:Int) by unfold ZL;rw[pj,if_neg (by rw[h1];decide)]];exact(aw _ _ ⟨rfl,rfl⟩).qb
   case ff=>
    rcases Nat.lt_or_ge (2*root+1+1) hi with hj|hj
    ·refine R5 (λw'=>Ext w4 w') O$ OZ 0 O O (hg)$ OI 1 O (Ud O O (by omega)) hg$ OZ 2 O O (hg)$ OI 3 O (ylt O O) hg$ TT$ OZ 4 O O (hg)$ OZ 5 O O (hg)$ OZ 6 O O (hg)$ OZ 7 O O (hg)$ OI 8 O (Ud O O (by omega)) hg$ OI 9 O (PX Ps OP O O (by omega)) hg$ OZ 11 O O (hg)$ OZ 12 O O (hg) ?_;refine OZ 13 O O (hg)$ OI 14 O (Ud O O (by omega)) hg$ OI 15 O (Ud O O (by omega)) hg$ OI 16 O (PX Ps OP O O (by omega)) hg$ qT 10 O (λ_ hS=>Pr Py O O ((dZ.ext hS).get (i:=first+(2*root+1)) (by omega))) hg$ qT 17 O (λ_ hS=>Pr Py O O ((dZ.ext hS).get (i:=first+(2*root+1)+1) (by omega))) hg$ SK 18 O Wf O (S7 _ _ _) ?_;rintro _ w6 ⟨rfl,rfl⟩;refine⟨hg,?_⟩;refine OI 19 O (UJ O O) hg$ qE ?_;rw[show QL d4[first+(2*root+1)]! d4[first+(2*root+1)+1]! =sel by rw[<-pj,decide_eq_true hj,Bool.true_and]];exact(dv _ _ ⟨rfl,rfl⟩).qb
    ·refine R5 (λw'=>Ext w4 w') O$ OZ 0 O O (hg)$ OI 1 O (Ud O O (by omega)) hg$ OZ 2 O O (hg)$ OI 3 O (ylt O O) hg$ Uc$ OZ 4 O O (hg)$ qJ 5 O (hg)$ qJ 6 O (hg)$ qJ 7 O (hg)$ qJ 8 O (hg)$ qJ 9 O (hg)$ qJ 10 O (hg)$ qJ 11 O (hg) ?_;refine qJ 12 O (hg)$ qJ 13 O (hg)$ qJ 14 O (hg)$ qJ 15 O (hg)$ qJ 16 O (hg)$ qJ 17 O (hg)$ qJ 18 O (hg)$ OI 19 O (Ub O O) hg$ qE ?_;have mZ:sel=false:=by rw[<-pj,decide_eq_false (by omega),Bool.false_and]
     subst mZ;exact(dv _ _ ⟨rfl,rfl⟩).qb
def zbU {w:World}{g n cap:Nat}{d:Array Nat}(h:SG w g n cap d)(a b:Nat)(iV:a<b)(hb:b<=n)(hn:n<=65536):
  Pm prog 270 [.slice (some ⟨g,0,none⟩) n cap,I (a:Int),I (b:Int)] w λu w'=>u= .tuple #[]/\SG w' g n cap (Go.Sort.heapSort QL d a b)/\Kp (λk=>k=g) w w':=by
 refine py (e:=[(0,_),(1,_),(2,_)]) func270 O ntmps270 O O$ Pf O$ Qw O$ Qw O$ P8 O$ Ro O$ OU O$ It$ qN O ?_
 rw[show(b:Int)-(a:Int)=((b-a:Nat):Int) by omega]
 refine OK O$ Ro O ?_
 rw[show((b-a:Nat):Int)-1=((b-a-1:Nat):Int) by omega]
 refine qV (VI O O (by omega))$ OU O$ OH ?_
 rw[show((b-a-1:Nat):Int) / 2=(((b-a-1) / 2+1:Nat):Int)-1 by omega]
 have mX:Go.Sort.heapSort QL d a b=Go.Sort.heapPop QL a (b-a) (Go.Sort.heapBuild QL (b-a) a ((b-a-1) / 2+1) d):=rfl
 rw[mX]
 refine Rq (α:=Nat×Array Nat) (((b-a-1) / 2+1,d)) (λy=>[(0,.slice (some ⟨g,0,none⟩) n cap),(6,I (a:Int)),(7,I 0),(8,I ((b-a:Nat):Int)),(9,I ((y.1:Int)-1))]) (λy w'=>SG w' g n cap y.2/\Kp (λk=>k=g) w w'/\Go.Sort.heapBuild QL (b-a) a y.1 y.2=Go.Sort.heapBuild QL (b-a) a ((b-a-1) / 2+1) d/\y.1<=(b-a-1) / 2+1) (λy=>y.1) ?hI ?hround
 case hI=>exact⟨h,Kp.refl _ _,rfl,Nat.le_refl _⟩
 case hround=>
  rintro⟨k,d4⟩ w4 ⟨dZ,ao,cD,bM⟩ ih;dsimp only at dZ ao cD bM
  try dsimp only
  refine PG O$ Te O$ OD$ OQ O (λh0=>?_)$ λh0=>?_
  ·obtain⟨k,rfl⟩:∃k',k=k'+1:=⟨k-1,by omega⟩;rw[show((k+1:Nat):Int)-1=(k:Int) by omega];refine OE$ Qx$ OL O$ P8 O$ P8 O$ P4 zeY O (z4e dZ k (b-a) a (by omega) (by omega) hn) ?_;rintro _ w5 ⟨rfl,aV,ak⟩;refine OD$ OA$ Rh O$ Ro O$ OU O ?_;exact(ih (k,Go.Sort.siftDown QL (b-a) a k d4) _ ⟨aV,ao.trans ak,cD,by dsimp only;omega⟩ (by dsimp only;omega)).qb
  ·have ie:k=0:=by omega
   subst ie;rw[<-cD];refine ON O$ Pf O$ Ro O$ OU O$ OH$ Rq (α:=Nat×Array Nat) ((b-a,d4)) (λy=>[(0,.slice (some ⟨g,0,none⟩) n cap),(6,I (a:Int)),(7,I 0),(10,I ((y.1:Int)-1))]) (λy w'=>SG w' g n cap y.2/\Kp (λk=>k=g) w w'/\Go.Sort.heapPop QL a y.1 y.2=Go.Sort.heapPop QL a (b-a) (Go.Sort.heapBuild QL (b-a) a 0 d4)/\y.1<=b-a) (λy=>y.1) ?hI ?hround
   case hI=>exact⟨dZ,ao,rfl,Nat.le_refl _⟩
   case hround=>
    rintro⟨k,d5⟩ w5 ⟨aV,ak,ck,co⟩ ih2;dsimp only at aV ak ck co
    try dsimp only
    refine PG O$ Te O$ OD$ OQ O (λh1=>?_)$ λh1=>?_
    ·obtain⟨k,rfl⟩:∃k',k=k'+1:=⟨k-1,by omega⟩;rw[show((k+1:Nat):Int)-1=(k:Int) by omega];refine OE$ Qx$ It ?_;have aA:=Ext.OT w5;refine P7 [17,19] (λw'=>Ext w5 w') (by kernel_rfl) O$ PL 0 O O (aA)$ PL 1 O O (aA)$ Q8 (i:=2) O (by kernel_rfl) O O (λ_=>Xv O) (aA)$ Q8 (i:=3) O (by kernel_rfl) O O (λ_=>Xv O) (aA)$ Q8 (i:=4) O (by kernel_rfl) O O (λ_=>Xv O) (aA)$ Q8 (i:=5) O (by kernel_rfl) O O (λ_=>Ud O O (by omega)) (aA)$ PL 6 O O (aA)$ PL 7 O O (aA)$ PL 8 O O (aA)$ P9 9 O (Ud O O (by omega)) aA$ P9 10 O (PX Ps OP O O (by omega)) aA$ PL 12 O O (aA)$ PL 13 O O (aA) ?_;refine P9 14 O (PX Ps OP O O (by omega)) aA$ qL 11 O (λ_ h=>Pr Py O O ((aV.ext h).get (i:=a+k) (by omega))) aA$ qL 15 O (λ_ h=>Pr Py O O ((aV.ext h).get (i:=a) (by omega))) aA$ P9 16 O (PX Ps OP O O (by omega)) aA$ SM [17]$ qO 17$ PC (i:=17) O O (RV OP O O O (aV.ext aA).sl ((aV.ext aA).jlt (by omega))) ?_;rintro w7a ⟨gl,gm⟩;refine⟨trivial,?_⟩;have cJ:=(aV.ext aA).set gl;refine OI 18 O (PX Ps OP O O (by omega)) trivial$ qO 19$ PC (i:=19) O O (RV OP O O O cJ.sl (cJ.jlt (by omega))) ?_;rintro w7 ⟨iw,jZ⟩;refine⟨trivial,?_⟩;have kf:=cJ.set iw;have gn:Kp (λk=>k=g) w5 w7:=aA.kp.trans (gm.trans jZ);refine qE$ OL O$ P8 O$ P8 O$ P4 zeY O (z4e kf 0 k a (by omega) (by omega) hn) ?_;rintro _ w8 ⟨rfl,JL,aR⟩;refine OD$ OA$ Rh O$ Ro O$ OU O ?_;exact(ih2 (k,Go.Sort.siftDown QL k a 0 (Go.Sort.swp d5 a (a+k))) _ ⟨JL,(ak.trans gn).trans aR,ck,by dsimp only;omega⟩ (by dsimp only;omega)).qb
    ·have ie:k=0:=by omega
     subst ie;rw[<-ck];refine ON O$ Qv func270 O ?_;exact⟨_,rfl,rfl,aV,ak⟩
def z5g {w:World}{g n cap:Nat}{d:Array Nat}(h:SG w g n cap d)(a b:Nat)(iV:a<b)(hb:b<=n)(hn:n<=65536):
  Pm prog 273 [.slice (some ⟨g,0,none⟩) n cap,I (a:Int),I (b:Int)] w λu w'=>u= .tuple #[]/\SG w' g n cap (Go.Sort.reverseRange d a b)/\Kp (λk=>k=g) w w':=by
 refine py (e:=[(0,_),(1,_),(2,_)]) func273 O ntmps273 O O$ Pf O$ Qt O$ Ro O$ OU O$ OH ?_
 rw[show(b:Int)-1=((b-1:Nat):Int) by omega]
 refine Rq (α:=Nat×Nat×Array Nat) ((a,b-1,d)) (λy=>[(0,.slice (some ⟨g,0,none⟩) n cap),(6,I (y.1:Int)),(7,I (y.2.1:Int))]) (λy w'=>SG w' g n cap y.2.2/\Kp (λk=>k=g) w w'/\Go.Sort.reverseLoop y.1 y.2.1 y.2.2=Go.Sort.reverseRange d a b/\y.2.1<n) (λy=>y.2.1-y.1) ?hI ?hround
 case hI=>exact⟨h,Kp.refl _ _,rfl,by dsimp only;omega⟩
 case hround=>
  rintro⟨i,j,d4⟩ w4 ⟨dZ,ao,cD,bM⟩ ih;dsimp only at dZ ao cD bM
  try dsimp only
  refine It$ Qm O$ Qq O$ OD$ OQ O (λh0=>?_)$ λh0=>?_
  ·rw[Go.Sort.reverseLoop,if_pos (by omega)] at cD;refine OE$ OH$ It ?_;have aA:=Ext.OT w4;refine P7 [13,15] (λw'=>Ext w4 w') (by kernel_rfl) O$ PL 0 O O (aA)$ PL 1 O O (aA)$ Q8 (i:=2) O (by kernel_rfl) O O (λ_=>Xv O) (aA)$ Q8 (i:=3) O (by kernel_rfl) O O (λ_=>Xv O) (aA)$ PL 4 O O (aA)$ PL 5 O O (aA)$ P9 6 O (PX Ps OP O O (by omega)) aA$ PL 8 O O (aA)$ PL 9 O O (aA)$ P9 10 O (PX Ps OP O O (by omega)) aA$ qL 7 O (λ_ h=>Pr Py O O ((dZ.ext h).get (i:=j) (by omega))) aA$ qL 11 O (λ_ h=>Pr Py O O ((dZ.ext h).get (i:=i) (by omega))) aA$ P9 12 O (PX Ps OP O O (by omega)) aA ?_;refine SM [13]$ qO 13$ PC (i:=13) O O (RV OP O O O (dZ.ext aA).sl ((dZ.ext aA).jlt (by omega))) ?_;rintro w7a ⟨gl,gm⟩;refine⟨trivial,?_⟩;have cJ:=(dZ.ext aA).set gl;refine OI 14 O (PX Ps OP O O (by omega)) trivial$ qO 15$ PC (i:=15) O O (RV OP O O O cJ.sl (cJ.jlt (by omega))) ?_;rintro w7 ⟨iw,jZ⟩;refine⟨trivial,?_⟩;have kf:=cJ.set iw;have gn:Kp (λk=>k=g) w4 w7:=aA.kp.trans (gm.trans jZ);refine qE$ Pf O$ PV O$ OU O$ Rh O$ Ro O$ OU O$ OA ?_;rw[show(j:Int)-1=((j-1:Nat):Int) by omega];exact(ih (i+1,j-1,Go.Sort.swp d4 i j) _ ⟨kf,ao.trans gn,cD,by dsimp only;omega⟩ (by dsimp only;omega)).qb
  ·rw[Go.Sort.reverseLoop,if_neg (by omega)] at cD;refine ON O$ Qv func273 O ?_;exact⟨_,rfl,rfl,cD▸dZ,ao⟩
section
variable (p:Nat->Bool)(d:Array Nat)(i j:Nat)
theorem ZA (h:i<=j)(hp:p d[i]! =true):Go.Sort.scanUp p d j i=Go.Sort.scanUp p d j (i+1):=by
 conv=>lhs;rw[Go.Sort.scanUp]
 rw[if_pos]
 rw[Bool.and_eq_true];exact⟨by simpa using h,hp⟩
theorem T8 (h:j<i\/p d[i]! =false):Go.Sort.scanUp p d j i=i:=by
 rw[Go.Sort.scanUp,if_neg]
 intro hc
 rw[Bool.and_eq_true] at hc
 rcases h with h| h
 ·have:=of_decide_eq_true hc.1;omega
 ·rw[h] at hc;cases hc.2
theorem WG (h:i<=j)(hp:p d[j]! =true)(hj:1<=j):Go.Sort.scanDown p d i j=Go.Sort.scanDown p d i (j-1):=by
 obtain⟨k,rfl⟩:∃k,j=k+1:=⟨j-1,by omega⟩
 rw[Go.Sort.scanDown,if_pos]
 ·rfl
 ·rw[Bool.and_eq_true];exact⟨by simpa using h,hp⟩
theorem S9 (h:j<i\/p d[j]! =false):Go.Sort.scanDown p d i j=j:=by
 cases j with
 |zero=>rw[Go.Sort.scanDown]
 | succ k =>
   rw[Go.Sort.scanDown,if_neg];intro hc;rw[Bool.and_eq_true] at hc;rcases h with h| h
   ·have:=of_decide_eq_true hc.1;omega
   ·rw[h] at hc;cases hc.2
end
def Xd (p:Nat->Bool)(d:Array Nat)(j:Nat):∀i:Nat,Go.Sort.scanUp p d j i<=max i (j+1):=λi=>by
 rw[Go.Sort.scanUp]
 split
 ·rename_i h
  rw[Bool.and_eq_true] at h;have h1:=of_decide_eq_true h.1;have:=Xd p d j (i+1);omega
 ·omega
 termination_by i=>j+1-i
def zcb {w:World}{g n cap:Nat}{d:Array Nat}(h:SG w g n cap d)(a b pv:Nat)(Cq:a<=pv)(rg:pv<b)(hb:b<=n)(hn:n<=65536):
  Pm prog 277 [.slice (some ⟨g,0,none⟩) n cap,I (a:Int),I (b:Int),I (pv:Int)] w λu w'=>u= .tuple #[I ((Go.Sort.partition QL d a b pv).1:Int),.bool (Go.Sort.partition QL d a b pv).2.1]/\SG w' g n cap (Go.Sort.partition QL d a b pv).2.2/\Kp (λk=>k=g) w w':=by
 refine py (e:=[(0,_),(1,_),(2,_),(3,_)]) func277 O ntmps277 O O$ qN O$ PU O$ It ?_
 have aA:=Ext.OT w
 refine P7 [13,15] (λw'=>Ext w w') (by kernel_rfl) O$ PL 0 O O (aA)$ PL 1 O O (aA)$ Q8 (i:=2) O (by kernel_rfl) O O (λ_=>Xv O) (aA)$ Q8 (i:=3) O (by kernel_rfl) O O (λ_=>Xv O) (aA)$ PL 4 O O (aA)$ PL 5 O O (aA)$ P9 6 O (PX Ps OP O O (by omega)) aA$ PL 8 O O (aA)$ PL 9 O O (aA)$ P9 10 O (PX Ps OP O O (by omega)) aA$ qL 7 O (λ_ hS=>Pr Py O O ((h.ext hS).get (i:=pv) (by omega))) aA$ qL 11 O (λ_ hS=>Pr Py O O ((h.ext hS).get (i:=a) (by omega))) aA$ P9 12 O (PX Ps OP O O (by omega)) aA ?_
 refine SM [13]$ qO 13$ PC (i:=13) O O (RV OP O O O (h.ext aA).sl ((h.ext aA).jlt (by omega))) ?_
 rintro w1a ⟨n8,na⟩
 refine⟨trivial,?_⟩
 have gp:=(h.ext aA).set n8
 refine OI 14 O (PX Ps OP O O (by omega)) trivial$ qO 15$ PC (i:=15) O O (RV OP O O O gp.sl (gp.jlt (by omega))) ?_
 rintro w1 ⟨sR,sS⟩
 refine⟨trivial,?_⟩
 have iy:=gp.set sR
 have kU:Kp (λk=>k=g) w w1:=aA.kp.trans (na.trans sS)
 refine qE$ Pf O$ PV O$ OK O$ Ro O$ PU O$ Pn.qb (e:=[(0,_),(1,_),(8,_),(9,_),(10,_),(11,_)]) ?_
 refine Qx ?_
 unfold Go.Sort.partition
 dsimp only
 replace iy:SG w1 g n cap (Go.Sort.swp d a pv):=iy
 generalize Go.Sort.swp d a pv=D at iy
 rw[show(a:Int)+1=((a+1:Nat):Int) by omega,show(b:Int)-1=((b-1:Nat):Int) by omega]
 refine RX (λe' w'=>e'=[(0,.slice (some ⟨g,0,none⟩) n cap),(1,I (a:Int)),(10,I (((Go.Sort.scanUp (λx=>QL x D[a]!) D (b-1) (a+1)):Nat):Int)),(11,I (((b-1):Nat):Int))]/\SG w' g n cap D/\Kp (λk=>k=g) w1 w') ?oK$ λoK=>?CA
 case oK =>
  rintro e' wA ⟨rfl,JM,oK⟩;have AW:=Go.Sort.scanUp_ge (λx=>QL x D[a]!) D (b-1) (a+1);have lV:=Xd (λx=>QL x D[a]!) D (b-1) (a+1)
  generalize Go.Sort.scanUp (λx=>QL x D[a]!) D (b-1) (a+1)=i1 at AW lV
  refine Qx$ RX (λe' w'=>e'=[(0,.slice (some ⟨g,0,none⟩) n cap),(1,I (a:Int)),(10,I ((i1:Nat):Int)),(11,I (((Go.Sort.scanDown (λx=>!QL x D[a]!) D i1 (b-1)):Nat):Int))]/\SG w' g n cap D/\Kp (λk=>k=g) wA w') ?ja$ λja=>?Cz
  case ja =>
   rintro e' wB ⟨rfl,oL,ja⟩;have JN:=Go.Sort.scanDown_le (λx=>!QL x D[a]!) D i1 (b-1)
   generalize Go.Sort.scanDown (λx=>!QL x D[a]!) D i1 (b-1)=j1 at JN
   refine It$ Qm O$ Qu O$ OD$ OQ O (λh4=>?_)$ λh4=>?_
   ·rw[if_pos (by omega)];refine It ?_;have aa:=Ext.OT wB;refine P7 [13,15] (λw'=>Ext wB w') (by kernel_rfl) O$ PL 0 O O (aa)$ PL 1 O O (aa)$ Q8 (i:=2) O (by kernel_rfl) O O (λ_=>Xv O) (aa)$ Q8 (i:=3) O (by kernel_rfl) O O (λ_=>Xv O) (aa)$ PL 4 O O (aa)$ PL 5 O O (aa)$ P9 6 O (PX Ps OP O O (by omega)) aa$ PL 8 O O (aa)$ PL 9 O O (aa)$ P9 10 O (PX Ps OP O O (by omega)) aa$ qL 7 O (λ_ h=>Pr Py O O ((oL.ext h).get (i:=a) (by omega))) aa$ qL 11 O (λ_ h=>Pr Py O O ((oL.ext h).get (i:=j1) (by omega))) aa$ P9 12 O (PX Ps OP O O (by omega)) aa ?_;refine SM [13]$ qO 13$ PC (i:=13) O O (RV OP O O O (oL.ext aa).sl ((oL.ext aa).jlt (by omega))) ?_;rintro w2a ⟨wO,wP⟩;refine⟨trivial,?_⟩;have ng:=(oL.ext aa).set wO;refine OI 14 O (PX Ps OP O O (by omega)) trivial$ qO 15$ PC (i:=15) O O (RV OP O O O ng.sl (ng.jlt (by omega))) ?_;rintro w2 ⟨Cr,Cs⟩;refine⟨trivial,?_⟩;have Ct:=ng.set Cr;have wQ:Kp (λk=>k=g) wB w2:=aa.kp.trans (wP.trans Cs);refine qE$ Pf O$ PU O$ OB func277 O ?_;exact⟨_,rfl,rfl,Ct,(kU.trans (oK.trans ja)).trans wQ⟩
   ·rw [if_neg (by omega)]; refine OE (It ?_); have af := Ext.OT wB; refine P7 [13,15] (λw' => Ext wB w') (by kernel_rfl) O (PL 0 O O (af) (PL 1 O O (af) (Q8 (i := 2) O (by kernel_rfl) O O (λ_ => Xv O) (af) (Q8 (i := 3) O (by kernel_rfl) O O (λ_ => Xv O) (af) (PL 4 O O (af) (PL 5 O O (af) (P9 6 O (PX Ps OP O O (by omega)) af (PL 8 O O (af) (PL 9 O O (af) (P9 10 O (PX Ps OP O O (by omega)) af (qL 7 O (λ_ h=>Pr Py O O ((oL.ext h).get (i := j1) (by omega))) af (qL 11 O (λ_ h=>Pr Py O O ((oL.ext h).get (i := i1) (by omega))) af (P9 12 O (PX Ps OP O O (by omega)) af ?_))))))))))))); refine SM [13] (qO 13 (PC (i := 13) O O (RV OP O O O (oL.ext af).sl ((oL.ext af).jlt (by omega))) ?_)); rintro w3a ⟨wR, wS⟩; refine ⟨trivial, ?_⟩; have nh := (oL.ext af).set wR; refine OI 14 O (PX Ps OP O O (by omega)) trivial (qO 15 (PC (i := 15) O O (RV OP O O O nh.sl (nh.jlt (by omega))) ?_)); rintro w3 ⟨Cu, Cv⟩; refine ⟨trivial, ?_⟩; have Cw := nh.set Cu; have wT : Kp (λk => k = g) wB w3 := af.kp.trans (wS.trans Cv); refine qE (Pf O (PV O (Qt O (Ro O (OU O (Pn.qb (e := [(0, _), (1, _), (10, _), (11, _)]) ?_)))))); refine Qx ?_; rw [show (j1 : Int) - 1 = ((j1 - 1 : Nat) : Int) by omega]; refine Rq (α := Nat × Nat × Array Nat) ((i1 + 1, j1 - 1, Go.Sort.swp D i1 j1)) (λy => [(0, .slice (some ⟨g, 0, none⟩) n cap), (1, I (a : Int)), (10, I (y.1 : Int)), (11, I (y.2.1 : Int))]) (λy w' => SG w' g n cap y.2.2 /\ Kp (λk => k = g) w3 w' /\ Go.Sort.partLoop QL a y.1 y.2.1 y.2.2 = Go.Sort.partLoop QL a (i1 + 1) (j1 - 1) (Go.Sort.swp D i1 j1) /\ (a < y.1 /\ y.1 <= n /\ y.2.1 < n)) (λy => y.2.1 + 1 - y.1) ?hI ?hround
    case hI=>exact⟨Cw,Kp.refl _ _,rfl,by dsimp only;omega⟩
    case hround =>
     rintro⟨i,j,d4⟩ w4 ⟨dZ,ao,cD,bM⟩ ih;dsimp only at dZ ao cD bM;rw[Go.Sort.partLoop_eq] at cD
     try dsimp only
     refine OH$ Qx$ RX (λe' w'=>e'=[(0,.slice (some ⟨g,0,none⟩) n cap),(1,I (a:Int)),(10,I (((Go.Sort.scanUp (λx=>QL x d4[a]!) d4 j (i)):Nat):Int)),(11,I ((j:Nat):Int))]/\SG w' g n cap d4/\Kp (λk=>k=g) w4 w') ?jD$ λjD=>?sU
     case jD=>
      rintro e' wC ⟨rfl,Cy,jD⟩;have dC:=Go.Sort.scanUp_ge (λx=>QL x d4[a]!) d4 j i;have my:=Xd (λx=>QL x d4[a]!) d4 j i
      generalize Go.Sort.scanUp (λx=>QL x d4[a]!) d4 j i=i2 at cD dC my
      refine Qx$ RX (λe' w'=>e'=[(0,.slice (some ⟨g,0,none⟩) n cap),(1,I (a:Int)),(10,I ((i2:Nat):Int)),(11,I (((Go.Sort.scanDown (λx=>!QL x d4[a]!) d4 i2 (j)):Nat):Int))]/\SG w' g n cap d4/\Kp (λk=>k=g) wC w') ?fN$ λfN=>?sT
      case fN=>
       rintro e' wD ⟨rfl,jb,fN⟩;have kT:=Go.Sort.scanDown_le (λx=>!QL x d4[a]!) d4 i2 j
       generalize Go.Sort.scanDown (λx=>!QL x d4[a]!) d4 i2 j=j2 at cD kT
       refine It$ Qm O$ Qu O$ OD$ OQ O (λh5=>?_)$ λh5=>?_
       ·rw[if_pos (by omega)] at cD;refine ON O$ It ?_;rw[<-cD];have oM:=((kU.trans (oK.trans ja)).trans wT).trans (ao.trans (jD.trans fN));have bZ:=Ext.OT wD;refine P7 [13,15] (λw'=>Ext wD w') (by kernel_rfl) O$ PL 0 O O (bZ)$ PL 1 O O (bZ)$ Q8 (i:=2) O (by kernel_rfl) O O (λ_=>Xv O) (bZ)$ Q8 (i:=3) O (by kernel_rfl) O O (λ_=>Xv O) (bZ)$ PL 4 O O (bZ)$ PL 5 O O (bZ)$ P9 6 O (PX Ps OP O O (by omega)) bZ$ PL 8 O O (bZ)$ PL 9 O O (bZ)$ P9 10 O (PX Ps OP O O (by omega)) bZ$ qL 7 O (λ_ h=>Pr Py O O ((jb.ext h).get (i:=a) (by omega))) bZ$ qL 11 O (λ_ h=>Pr Py O O ((jb.ext h).get (i:=j2) (by omega))) bZ$ P9 12 O (PX Ps OP O O (by omega)) bZ ?_;refine SM [13]$ qO 13$ PC (i:=13) O O (RV OP O O O (jb.ext bZ).sl ((jb.ext bZ).jlt (by omega))) ?_;rintro w8a ⟨gq,gt⟩;refine⟨trivial,?_⟩;have cK:=(jb.ext bZ).set gq;refine OI 14 O (PX Ps OP O O (by omega)) trivial$ qO 15$ PC (i:=15) O O (RV OP O O O cK.sl (cK.jlt (by omega))) ?_;rintro w8 ⟨kg,kh⟩;refine⟨trivial,?_⟩;have ki:=cK.set kg;have fE:Kp (λk=>k=g) wD w8:=bZ.kp.trans (gt.trans kh);refine qE$ Pf O$ PU O$ OB func277 O ?_;exact⟨_,rfl,rfl,ki,oM.trans fE⟩
       ·rw[if_neg (by omega)] at cD;refine OE$ It ?_;have bZ:=Ext.OT wD;refine P7 [13,15] (λw'=>Ext wD w') (by kernel_rfl) O$ PL 0 O O (bZ)$ PL 1 O O (bZ)$ Q8 (i:=2) O (by kernel_rfl) O O (λ_=>Xv O) (bZ)$ Q8 (i:=3) O (by kernel_rfl) O O (λ_=>Xv O) (bZ)$ PL 4 O O (bZ)$ PL 5 O O (bZ)$ P9 6 O (PX Ps OP O O (by omega)) bZ$ PL 8 O O (bZ)$ PL 9 O O (bZ)$ P9 10 O (PX Ps OP O O (by omega)) bZ$ qL 7 O (λ_ h=>Pr Py O O ((jb.ext h).get (i:=j2) (by omega))) bZ$ qL 11 O (λ_ h=>Pr Py O O ((jb.ext h).get (i:=i2) (by omega))) bZ$ P9 12 O (PX Ps OP O O (by omega)) bZ ?_;refine SM [13]$ qO 13$ PC (i:=13) O O (RV OP O O O (jb.ext bZ).sl ((jb.ext bZ).jlt (by omega))) ?_;rintro w8a ⟨gq,gt⟩;refine⟨trivial,?_⟩;have cK:=(jb.ext bZ).set gq;refine OI 14 O (PX Ps OP O O (by omega)) trivial$ qO 15$ PC (i:=15) O O (RV OP O O O cK.sl (cK.jlt (by omega))) ?_;rintro w8 ⟨kg,kh⟩;refine⟨trivial,?_⟩;have ki:=cK.set kg;have fE:Kp (λk=>k=g) wD w8:=bZ.kp.trans (gt.trans kh);refine qE$ Pf O$ PV O$ OU O$ Rh O$ Ro O$ OU O$ OA ?_;rw[show(j2:Int)-1=((j2-1:Nat):Int) by omega];exact(ih (i2+1,j2-1,Go.Sort.swp d4 i2 j2) _ ⟨ki,(ao.trans (jD.trans fN)).trans fE,cD,by dsimp only;omega⟩ (by dsimp only;omega)).qb
      case sT=>
       refine Rq (α:=Nat) (j) (λr=>[(0,.slice (some ⟨g,0,none⟩) n cap),(1,I (a:Int)),(10,I ((i2:Nat):Int)),(11,I ((r:Nat):Int))]) (λr w'=>SG w' g n cap d4/\Kp (λk=>k=g) wC w'/\Go.Sort.scanDown (λx=>!QL x d4[a]!) d4 i2 r=Go.Sort.scanDown (λx=>!QL x d4[a]!) d4 i2 (j)/\r<n) (λr=>r) ?hI ?hround
       case hI=>exact⟨Cy,Kp.refl _ _,rfl,by omega⟩
       case hround=>
        rintro r w5 ⟨aV,ak,ck,co⟩ ih
        try dsimp only
        have hg:=Ext.OT w5;rcases Nat.lt_or_ge r (i2) with hj|hj
        ·refine It$ It$ R5 (λw'=>Ext w5 w') O$ OZ 0 O O (hg)$ OZ 1 O O (hg)$ OI 2 O (Zb O O) hg$ Uc$ OZ 3 O O (hg)$ qJ 4 O (hg)$ qJ 5 O (hg)$ qJ 6 O (hg)$ qJ 7 O (hg)$ qJ 8 O (hg)$ qJ 9 O (hg) ?_;refine qJ 10 O (hg)$ qJ 11 O (hg)$ qJ 12 O (hg)$ qJ 13 O (hg)$ OI 14 O (Ub O O) hg$ qE$ OJ O$ ON O ?_;rw[S9 _ _ _ _ (.inl hj)] at ck;subst ck;exact(fN _ _ ⟨rfl,aV.ext hg,ak.trans hg.kp⟩).qb
        ·refine It$ It$ R5 (λw'=>Ext w5 w') O$ OZ 0 O O (hg)$ OZ 1 O O (hg)$ OI 2 O (Zb O O) hg$ TT$ OZ 3 O O (hg)$ OZ 4 O O (hg)$ OZ 5 O O (hg)$ OI 6 O (PX Ps OP O O (by omega)) hg$ OZ 8 O O (hg)$ OZ 9 O O (hg)$ OI 10 O (PX Ps OP O O (by omega)) hg ?_;refine qT 7 O (λ_ h=>Pr Py O O ((aV.ext h).get (i:=r) (by omega))) hg$ qT 11 O (λ_ h=>Pr Py O O ((aV.ext h).get (i:=a) (by omega))) hg$ SK 12 O Wf O (S7 _ _ _) ?_;rintro _ w6 ⟨rfl,rfl⟩;refine⟨hg,?_⟩;refine OI 13 O ((z9g O)) hg$ OI 14 O (UJ O O) hg$ qE$ Qe O (λh1=>?_)$ λh1=>?_
         ·rw[WG _ _ _ _ hj (by simpa[QL] using h1) (by omega)] at ck;refine OE$ OH$ Rh O$ Ro O$ OU O$ OA ?_;rw[show(r:Int)-1=((r-1:Nat):Int) by omega];exact(ih (r-1) _ ⟨aV.ext hg,ak.trans hg.kp,ck,by omega⟩ (by omega)).qb
         ·rw[S9 _ _ _ _ (.inr (by simpa[QL] using h1))] at ck;refine ON O ?_;subst ck;exact(fN _ _ ⟨rfl,aV.ext hg,ak.trans hg.kp⟩).qb
     case sU=>
      refine Rq (α:=Nat) (i) (λr=>[(0,.slice (some ⟨g,0,none⟩) n cap),(1,I (a:Int)),(10,I ((r:Nat):Int)),(11,I ((j:Nat):Int))]) (λr w'=>SG w' g n cap d4/\Kp (λk=>k=g) w4 w'/\Go.Sort.scanUp (λx=>QL x d4[a]!) d4 j r=Go.Sort.scanUp (λx=>QL x d4[a]!) d4 j (i)/\i<=r/\r<=n+1) (λr=>j+1-r) ?hI ?hround
      case hI=>exact⟨dZ,Kp.refl _ _,rfl,Nat.le_refl _,by omega⟩
      case hround=>
       rintro r w5 ⟨aV,ak,ck,co⟩ ih
       try dsimp only
       have hg:=Ext.OT w5;rcases Nat.lt_or_ge (j) r with hj|hj
       ·refine It$ It$ R5 (λw'=>Ext w5 w') O$ OZ 0 O O (hg)$ OZ 1 O O (hg)$ OI 2 O (Zb O O) hg$ Uc$ OZ 3 O O (hg)$ qJ 4 O (hg)$ qJ 5 O (hg)$ qJ 6 O (hg)$ qJ 7 O (hg)$ qJ 8 O (hg)$ qJ 9 O (hg) ?_;refine qJ 10 O (hg)$ qJ 11 O (hg)$ qJ 12 O (hg)$ OI 13 O (Ub O O) hg$ qE$ OJ O$ ON O ?_;rw[T8 _ _ _ _ (.inl hj)] at ck;subst ck;exact(jD _ _ ⟨rfl,aV.ext hg,ak.trans hg.kp⟩).qb
       ·refine It$ It$ R5 (λw'=>Ext w5 w') O$ OZ 0 O O (hg)$ OZ 1 O O (hg)$ OI 2 O (Zb O O) hg$ TT$ OZ 3 O O (hg)$ OZ 4 O O (hg)$ OZ 5 O O (hg)$ OI 6 O (PX Ps OP O O (by omega)) hg$ OZ 8 O O (hg)$ OZ 9 O O (hg)$ OI 10 O (PX Ps OP O O (by omega)) hg ?_;refine qT 7 O (λ_ h=>Pr Py O O ((aV.ext h).get (i:=r) (by omega))) hg$ qT 11 O (λ_ h=>Pr Py O O ((aV.ext h).get (i:=a) (by omega))) hg$ SK 12 O Wf O (S7 _ _ _) ?_;rintro _ w6 ⟨rfl,rfl⟩;refine⟨hg,?_⟩;refine OI 13 O (UJ O O) hg$ qE$ Qe O (λh1=>?_)$ λh1=>?_
        ·rw[ZA _ _ _ _ hj (by simpa[QL] using h1)] at ck;refine OE$ OH$ Rh O$ PV O$ OU O$ OA ?_;exact(ih (r+1) _ ⟨aV.ext hg,ak.trans hg.kp,ck,by omega,by omega⟩ (by omega)).qb
        ·rw[T8 _ _ _ _ (.inr (by simpa[QL] using h1))] at ck;refine ON O ?_;subst ck;exact(jD _ _ ⟨rfl,aV.ext hg,ak.trans hg.kp⟩).qb
  case Cz=>
   refine Rq (α:=Nat) (b-1) (λr=>[(0,.slice (some ⟨g,0,none⟩) n cap),(1,I (a:Int)),(10,I ((i1:Nat):Int)),(11,I ((r:Nat):Int))]) (λr w'=>SG w' g n cap D/\Kp (λk=>k=g) wA w'/\Go.Sort.scanDown (λx=>!QL x D[a]!) D i1 r=Go.Sort.scanDown (λx=>!QL x D[a]!) D i1 (b-1)/\r<n) (λr=>r) ?hI ?hround
   case hI=>exact⟨JM,Kp.refl _ _,rfl,by omega⟩
   case hround=>
    rintro r w5 ⟨aV,ak,ck,co⟩ ih
    try dsimp only
    have hg:=Ext.OT w5;rcases Nat.lt_or_ge r (i1) with hj|hj
    ·refine It$ It$ R5 (λw'=>Ext w5 w') O$ OZ 0 O O (hg)$ OZ 1 O O (hg)$ OI 2 O (Zb O O) hg$ Uc$ OZ 3 O O (hg)$ qJ 4 O (hg)$ qJ 5 O (hg)$ qJ 6 O (hg)$ qJ 7 O (hg)$ qJ 8 O (hg)$ qJ 9 O (hg) ?_;refine qJ 10 O (hg)$ qJ 11 O (hg)$ qJ 12 O (hg)$ qJ 13 O (hg)$ OI 14 O (Ub O O) hg$ qE$ OJ O$ ON O ?_;rw[S9 _ _ _ _ (.inl hj)] at ck;subst ck;exact(ja _ _ ⟨rfl,aV.ext hg,ak.trans hg.kp⟩).qb
    ·refine It$ It$ R5 (λw'=>Ext w5 w') O$ OZ 0 O O (hg)$ OZ 1 O O (hg)$ OI 2 O (Zb O O) hg$ TT$ OZ 3 O O (hg)$ OZ 4 O O (hg)$ OZ 5 O O (hg)$ OI 6 O (PX Ps OP O O (by omega)) hg$ OZ 8 O O (hg)$ OZ 9 O O (hg)$ OI 10 O (PX Ps OP O O (by omega)) hg ?_;refine qT 7 O (λ_ h=>Pr Py O O ((aV.ext h).get (i:=r) (by omega))) hg$ qT 11 O (λ_ h=>Pr Py O O ((aV.ext h).get (i:=a) (by omega))) hg$ SK 12 O Wf O (S7 _ _ _) ?_;rintro _ w6 ⟨rfl,rfl⟩;refine⟨hg,?_⟩;refine OI 13 O ((z9g O)) hg$ OI 14 O (UJ O O) hg$ qE$ Qe O (λh1=>?_)$ λh1=>?_
     ·rw[WG _ _ _ _ hj (by simpa[QL] using h1) (by omega)] at ck;refine OE$ OH$ Rh O$ Ro O$ OU O$ OA ?_;rw[show(r:Int)-1=((r-1:Nat):Int) by omega];exact(ih (r-1) _ ⟨aV.ext hg,ak.trans hg.kp,ck,by omega⟩ (by omega)).qb
     ·rw[S9 _ _ _ _ (.inr (by simpa[QL] using h1))] at ck;refine ON O ?_;subst ck;exact(ja _ _ ⟨rfl,aV.ext hg,ak.trans hg.kp⟩).qb
 case CA=>
  refine Rq (α:=Nat) (a+1) (λr=>[(0,.slice (some ⟨g,0,none⟩) n cap),(1,I (a:Int)),(10,I ((r:Nat):Int)),(11,I (((b-1):Nat):Int))]) (λr w'=>SG w' g n cap D/\Kp (λk=>k=g) w1 w'/\Go.Sort.scanUp (λx=>QL x D[a]!) D (b-1) r=Go.Sort.scanUp (λx=>QL x D[a]!) D (b-1) (a+1)/\a+1<=r/\r<=n+1) (λr=>(b-1)+1-r) ?hI ?hround
  case hI=>exact⟨iy,Kp.refl _ _,rfl,Nat.le_refl _,by omega⟩
  case hround=>
   rintro r w5 ⟨aV,ak,ck,co⟩ ih
   try dsimp only
   have hg:=Ext.OT w5;rcases Nat.lt_or_ge ((b-1)) r with hj|hj
   ·refine It$ It$ R5 (λw'=>Ext w5 w') O$ OZ 0 O O (hg)$ OZ 1 O O (hg)$ OI 2 O (Zb O O) hg$ Uc$ OZ 3 O O (hg)$ qJ 4 O (hg)$ qJ 5 O (hg)$ qJ 6 O (hg)$ qJ 7 O (hg)$ qJ 8 O (hg)$ qJ 9 O (hg) ?_;refine qJ 10 O (hg)$ qJ 11 O (hg)$ qJ 12 O (hg)$ OI 13 O (Ub O O) hg$ qE$ OJ O$ ON O ?_;rw[T8 _ _ _ _ (.inl hj)] at ck;subst ck;exact(oK _ _ ⟨rfl,aV.ext hg,ak.trans hg.kp⟩).qb
   ·refine It$ It$ R5 (λw'=>Ext w5 w') O$ OZ 0 O O (hg)$ OZ 1 O O (hg)$ OI 2 O (Zb O O) hg$ TT$ OZ 3 O O (hg)$ OZ 4 O O (hg)$ OZ 5 O O (hg)$ OI 6 O (PX Ps OP O O (by omega)) hg$ OZ 8 O O (hg)$ OZ 9 O O (hg)$ OI 10 O (PX Ps OP O O (by omega)) hg ?_;refine qT 7 O (λ_ h=>Pr Py O O ((aV.ext h).get (i:=r) (by omega))) hg$ qT 11 O (λ_ h=>Pr Py O O ((aV.ext h).get (i:=a) (by omega))) hg$ SK 12 O Wf O (S7 _ _ _) ?_;rintro _ w6 ⟨rfl,rfl⟩;refine⟨hg,?_⟩;refine OI 13 O (UJ O O) hg$ qE$ Qe O (λh1=>?_)$ λh1=>?_
    ·rw[ZA _ _ _ _ hj (by simpa[QL] using h1)] at ck;refine OE$ OH$ Rh O$ PV O$ OU O$ OA ?_;exact(ih (r+1) _ ⟨aV.ext hg,ak.trans hg.kp,ck,by omega,by omega⟩ (by omega)).qb
    ·rw[T8 _ _ _ _ (.inr (by simpa[QL] using h1))] at ck;refine ON O ?_;subst ck;exact(oK _ _ ⟨rfl,aV.ext hg,ak.trans hg.kp⟩).qb
def ze4 {w:World}{g n cap:Nat}{d:Array Nat}(h:SG w g n cap d)(a b pv:Nat)(Cq:a<=pv)(rg:pv<b)(hb:b<=n)(hn:n<=65536):
  Pm prog 276 [.slice (some ⟨g,0,none⟩) n cap,I (a:Int),I (b:Int),I (pv:Int)] w λu w'=>u=I ((Go.Sort.partitionEqual QL d a b pv).1:Int)/\SG w' g n cap (Go.Sort.partitionEqual QL d a b pv).2/\Kp (λk=>k=g) w w':=by
 refine py (e:=[(0,_),(1,_),(2,_),(3,_)]) func276 O ntmps276 O O$ QB O$ It ?_
 have aA:=Ext.OT w
 refine P7 [13,15] (λw'=>Ext w w') (by kernel_rfl) O$ PL 0 O O (aA)$ PL 1 O O (aA)$ Q8 (i:=2) O (by kernel_rfl) O O (λ_=>Xv O) (aA)$ Q8 (i:=3) O (by kernel_rfl) O O (λ_=>Xv O) (aA)$ PL 4 O O (aA)$ PL 5 O O (aA)$ P9 6 O (PX Ps OP O O (by omega)) aA$ PL 8 O O (aA)$ PL 9 O O (aA)$ P9 10 O (PX Ps OP O O (by omega)) aA$ qL 7 O (λ_ hS=>Pr Py O O ((h.ext hS).get (i:=pv) (by omega))) aA$ qL 11 O (λ_ hS=>Pr Py O O ((h.ext hS).get (i:=a) (by omega))) aA$ P9 12 O (PX Ps OP O O (by omega)) aA ?_
 refine SM [13]$ qO 13$ PC (i:=13) O O (RV OP O O O (h.ext aA).sl ((h.ext aA).jlt (by omega))) ?_
 rintro w1a ⟨n8,na⟩
 refine⟨trivial,?_⟩
 have gp:=(h.ext aA).set n8
 refine OI 14 O (PX Ps OP O O (by omega)) trivial$ qO 15$ PC (i:=15) O O (RV OP O O O gp.sl (gp.jlt (by omega))) ?_
 rintro w1 ⟨sR,sS⟩
 refine⟨trivial,?_⟩
 have iy:=gp.set sR
 have kU:Kp (λk=>k=g) w w1:=aA.kp.trans (na.trans sS)
 refine qE$ Pf O$ PV O$ OK O$ Ro O$ PU O$ Pn.qb (e:=[(0,_),(1,_),(8,_),(9,_),(10,_)]) ?_
 refine Qx ?_
 unfold Go.Sort.partitionEqual
 replace iy:SG w1 g n cap (Go.Sort.swp d a pv):=iy
 generalize Go.Sort.swp d a pv=D at iy
 rw[show(a:Int)+1=((a+1:Nat):Int) by omega,show(b:Int)-1=((b-1:Nat):Int) by omega]
 refine Rq (α:=Nat×Nat×Array Nat) ((a+1,b-1,D)) (λy=>[(0,.slice (some ⟨g,0,none⟩) n cap),(1,I (a:Int)),(9,I (y.1:Int)),(10,I (y.2.1:Int))]) (λy w'=>SG w' g n cap y.2.2/\Kp (λk=>k=g) w1 w'/\Go.Sort.partEqLoop QL a y.1 y.2.1 y.2.2=Go.Sort.partEqLoop QL a (a+1) (b-1) D/\(a<y.1/\y.1<=n/\y.2.1<n)) (λy=>y.2.1+1-y.1) ?hI ?hround
 case hI=>exact⟨iy,Kp.refl _ _,rfl,by dsimp only;omega⟩
 case hround =>
  rintro⟨i,j,d4⟩ w4 ⟨dZ,ao,cD,bM⟩ ih;dsimp only at dZ ao cD bM;rw[Go.Sort.partEqLoop_eq] at cD
  try dsimp only
  refine OH$ Qx$ RX (λe' w'=>e'=[(0,.slice (some ⟨g,0,none⟩) n cap),(1,I (a:Int)),(9,I (((Go.Sort.scanUp (λx=>!QL d4[a]! x) d4 j (i)):Nat):Int)),(10,I ((j:Nat):Int))]/\SG w' g n cap d4/\Kp (λk=>k=g) w4 w') ?jD$ λjD=>?sU
  case jD=>
   rintro e' wC ⟨rfl,Cy,jD⟩;have dC:=Go.Sort.scanUp_ge (λx=>!QL d4[a]! x) d4 j i;have my:=Xd (λx=>!QL d4[a]! x) d4 j i
   generalize Go.Sort.scanUp (λx=>!QL d4[a]! x) d4 j i=i2 at cD dC my
   refine Qx$ RX (λe' w'=>e'=[(0,.slice (some ⟨g,0,none⟩) n cap),(1,I (a:Int)),(9,I ((i2:Nat):Int)),(10,I (((Go.Sort.scanDown (λx=>QL d4[a]! x) d4 i2 (j)):Nat):Int))]/\SG w' g n cap d4/\Kp (λk=>k=g) wC w') ?fN$ λfN=>?sT
   case fN=>
    rintro e' wD ⟨rfl,jb,fN⟩;have kT:=Go.Sort.scanDown_le (λx=>QL d4[a]! x) d4 i2 j
    generalize Go.Sort.scanDown (λx=>QL d4[a]! x) d4 i2 j=j2 at cD kT
    refine It$ Qm O$ Qu O$ OD$ OQ O (λh5=>?_)$ λh5=>?_
    ·rw[if_pos (by omega)] at cD;rw[<-cD];refine ON O$ Pf O$ OU O$ OB func276 O ?_;exact⟨_,rfl,rfl,jb,kU.trans (ao.trans (jD.trans fN))⟩
    ·rw[if_neg (by omega)] at cD;refine OE$ It ?_;have bZ:=Ext.OT wD;refine P7 [13,15] (λw'=>Ext wD w') (by kernel_rfl) O$ PL 0 O O (bZ)$ PL 1 O O (bZ)$ Q8 (i:=2) O (by kernel_rfl) O O (λ_=>Xv O) (bZ)$ Q8 (i:=3) O (by kernel_rfl) O O (λ_=>Xv O) (bZ)$ PL 4 O O (bZ)$ PL 5 O O (bZ)$ P9 6 O (PX Ps OP O O (by omega)) bZ$ PL 8 O O (bZ)$ PL 9 O O (bZ)$ P9 10 O (PX Ps OP O O (by omega)) bZ$ qL 7 O (λ_ h=>Pr Py O O ((jb.ext h).get (i:=j2) (by omega))) bZ$ qL 11 O (λ_ h=>Pr Py O O ((jb.ext h).get (i:=i2) (by omega))) bZ$ P9 12 O (PX Ps OP O O (by omega)) bZ ?_;refine SM [13]$ qO 13$ PC (i:=13) O O (RV OP O O O (jb.ext bZ).sl ((jb.ext bZ).jlt (by omega))) ?_;rintro w8a ⟨gq,gt⟩;refine⟨trivial,?_⟩;have cK:=(jb.ext bZ).set gq;refine OI 14 O (PX Ps OP O O (by omega)) trivial$ qO 15$ PC (i:=15) O O (RV OP O O O cK.sl (cK.jlt (by omega))) ?_;rintro w8 ⟨kg,kh⟩;refine⟨trivial,?_⟩;have ki:=cK.set kg;have fE:Kp (λk=>k=g) wD w8:=bZ.kp.trans (gt.trans kh);refine qE$ Pf O$ PV O$ OU O$ Rh O$ Ro O$ OU O$ OA ?_;rw[show(j2:Int)-1=((j2-1:Nat):Int) by omega];exact(ih (i2+1,j2-1,Go.Sort.swp d4 i2 j2) _ ⟨ki,(ao.trans (jD.trans fN)).trans fE,cD,by dsimp only;omega⟩ (by dsimp only;omega)).qb
   case sT=>
    refine Rq (α:=Nat) (j) (λr=>[(0,.slice (some ⟨g,0,none⟩) n cap),(1,I (a:Int)),(9,I ((i2:Nat):Int)),(10,I ((r:Nat):Int))]) (λr w'=>SG w' g n cap d4/\Kp (λk=>k=g) wC w'/\Go.Sort.scanDown (λx=>QL d4[a]! x) d4 i2 r=Go.Sort.scanDown (λx=>QL d4[a]! x) d4 i2 (j)/\r<n) (λr=>r) ?hI ?hround
    case hI=>exact⟨Cy,Kp.refl _ _,rfl,by omega⟩
    case hround=>
     rintro r w5 ⟨aV,ak,ck,co⟩ ih
     try dsimp only
     have hg:=Ext.OT w5;rcases Nat.lt_or_ge r (i2) with hj|hj
     ·refine It$ It$ R5 (λw'=>Ext w5 w') O$ OZ 0 O O (hg)$ OZ 1 O O (hg)$ OI 2 O (Zb O O) hg$ Uc$ OZ 3 O O (hg)$ qJ 4 O (hg)$ qJ 5 O (hg)$ qJ 6 O (hg)$ qJ 7 O (hg)$ qJ 8 O (hg)$ qJ 9 O (hg) ?_;refine qJ 10 O (hg)$ qJ 11 O (hg)$ qJ 12 O (hg)$ OI 13 O (Ub O O) hg$ qE$ OJ O$ ON O ?_;rw[S9 _ _ _ _ (.inl hj)] at ck;subst ck;exact(fN _ _ ⟨rfl,aV.ext hg,ak.trans hg.kp⟩).qb
     ·refine It$ It$ R5 (λw'=>Ext w5 w') O$ OZ 0 O O (hg)$ OZ 1 O O (hg)$ OI 2 O (Zb O O) hg$ TT$ OZ 3 O O (hg)$ OZ 4 O O (hg)$ OZ 5 O O (hg)$ OI 6 O (PX Ps OP O O (by omega)) hg$ OZ 8 O O (hg)$ OZ 9 O O (hg)$ OI 10 O (PX Ps OP O O (by omega)) hg ?_;refine qT 7 O (λ_ h=>Pr Py O O ((aV.ext h).get (i:=a) (by omega))) hg$ qT 11 O (λ_ h=>Pr Py O O ((aV.ext h).get (i:=r) (by omega))) hg$ SK 12 O Wf O (S7 _ _ _) ?_;rintro _ w6 ⟨rfl,rfl⟩;refine⟨hg,?_⟩;refine OI 13 O (UJ O O) hg$ qE$ Qe O (λh1=>?_)$ λh1=>?_
      ·rw[WG _ _ _ _ hj (by simpa[QL] using h1) (by omega)] at ck;refine OE$ OH$ Rh O$ Ro O$ OU O$ OA ?_;rw[show(r:Int)-1=((r-1:Nat):Int) by omega];exact(ih (r-1) _ ⟨aV.ext hg,ak.trans hg.kp,ck,by omega⟩ (by omega)).qb
      ·rw[S9 _ _ _ _ (.inr (by simpa[QL] using h1))] at ck;refine ON O ?_;subst ck;exact(fN _ _ ⟨rfl,aV.ext hg,ak.trans hg.kp⟩).qb
  case sU=>
   refine Rq (α:=Nat) (i) (λr=>[(0,.slice (some ⟨g,0,none⟩) n cap),(1,I (a:Int)),(9,I ((r:Nat):Int)),(10,I ((j:Nat):Int))]) (λr w'=>SG w' g n cap d4/\Kp (λk=>k=g) w4 w'/\Go.Sort.scanUp (λx=>!QL d4[a]! x) d4 j r=Go.Sort.scanUp (λx=>!QL d4[a]! x) d4 j (i)/\i<=r/\r<=n+1) (λr=>j+1-r) ?hI ?hround
   case hI=>exact⟨dZ,Kp.refl _ _,rfl,Nat.le_refl _,by omega⟩
   case hround=>
    rintro r w5 ⟨aV,ak,ck,co⟩ ih
    try dsimp only
    have hg:=Ext.OT w5;rcases Nat.lt_or_ge (j) r with hj|hj
    ·refine It$ It$ R5 (λw'=>Ext w5 w') O$ OZ 0 O O (hg)$ OZ 1 O O (hg)$ OI 2 O (Zb O O) hg$ Uc$ OZ 3 O O (hg)$ qJ 4 O (hg)$ qJ 5 O (hg)$ qJ 6 O (hg)$ qJ 7 O (hg)$ qJ 8 O (hg)$ qJ 9 O (hg) ?_;refine qJ 10 O (hg)$ qJ 11 O (hg)$ qJ 12 O (hg)$ qJ 13 O (hg)$ OI 14 O (Ub O O) hg$ qE$ OJ O$ ON O ?_;rw[T8 _ _ _ _ (.inl hj)] at ck;subst ck;exact(jD _ _ ⟨rfl,aV.ext hg,ak.trans hg.kp⟩).qb
    ·refine It$ It$ R5 (λw'=>Ext w5 w') O$ OZ 0 O O (hg)$ OZ 1 O O (hg)$ OI 2 O (Zb O O) hg$ TT$ OZ 3 O O (hg)$ OZ 4 O O (hg)$ OZ 5 O O (hg)$ OI 6 O (PX Ps OP O O (by omega)) hg$ OZ 8 O O (hg)$ OZ 9 O O (hg)$ OI 10 O (PX Ps OP O O (by omega)) hg ?_;refine qT 7 O (λ_ h=>Pr Py O O ((aV.ext h).get (i:=a) (by omega))) hg$ qT 11 O (λ_ h=>Pr Py O O ((aV.ext h).get (i:=r) (by omega))) hg$ SK 12 O Wf O (S7 _ _ _) ?_;rintro _ w6 ⟨rfl,rfl⟩;refine⟨hg,?_⟩;refine OI 13 O ((z9g O)) hg$ OI 14 O (UJ O O) hg$ qE$ Qe O (λh1=>?_)$ λh1=>?_
     ·rw[ZA _ _ _ _ hj (by simpa[QL] using h1)] at ck;refine OE$ OH$ Rh O$ PV O$ OU O$ OA ?_;exact(ih (r+1) _ ⟨aV.ext hg,ak.trans hg.kp,ck,by omega,by omega⟩ (by omega)).qb
     ·rw[T8 _ _ _ _ (.inr (by simpa[QL] using h1))] at ck;refine ON O ?_;subst ck;exact(jD _ _ ⟨rfl,aV.ext hg,ak.trans hg.kp⟩).qb
section
variable (d:Array Nat)(b i:Nat)
theorem z2i (h:i<b)(hp:QL d[i]! d[i-1]! =false):Go.Sort.scanSorted QL d b i=Go.Sort.scanSorted QL d b (i+1):=by
 conv=>lhs;rw[Go.Sort.scanSorted]
 rw[if_pos]
 rw[Bool.and_eq_true];exact⟨by simpa using h,by rw[hp];rfl⟩
theorem W7 (h:b<=i\/QL d[i]! d[i-1]! =true):Go.Sort.scanSorted QL d b i=i:=by
 rw[Go.Sort.scanSorted,if_neg]
 intro hc
 rw[Bool.and_eq_true] at hc
 rcases h with h| h
 ·have:=of_decide_eq_true hc.1;omega
 ·rw[h] at hc;cases hc.2
end
theorem z8s (d:Array Nat)(a b:Nat)(h:b-a<50):Go.Sort.partialInsertionSort QL d a b=(d,decide (Go.Sort.scanSorted QL d b (a+1)=b)):=by
 unfold Go.Sort.partialInsertionSort
 rw[Go.Sort.partialIns]
 by_cases e:Go.Sort.scanSorted QL d b (a+1)=b
 ·simp only[e,if_pos,decide_true]
 ·simp only[if_neg e,if_pos h,decide_eq_false e]
def zbF {w:World}{g n cap:Nat}{d:Array Nat}(h:SG w g n cap d)(a b:Nat)(iV:a<b)(hb:b<=n)(hn:n<50):
  Pm prog 274 [.slice (some ⟨g,0,none⟩) n cap,I (a:Int),I (b:Int)] w λu w'=>u= .bool (Go.Sort.partialInsertionSort QL d a b).2/\SG w' g n cap d/\Kp (λk=>k=g) w w':=by
 rw[z8s d a b (by omega)]
 dsimp only
 refine py (e:=[(0,_),(1,_),(2,_)]) func274 O ntmps274 O O$ qN O$ Qt O$ PV O$ OU O$ It$ QB O$ OH ?_
 rw[show(a:Int)+1=((a+1:Nat):Int) by omega]
 refine Rq (α:=Unit) (()) (λ_=>[(0,.slice (some ⟨g,0,none⟩) n cap),(1,I (a:Int)),(2,I (b:Int)),(7,I ((a+1:Nat):Int)),(8,I 0)]) (λy w'=>w'=w) (λy=>0) ?hI ?hround
 case hI=>rfl
 case hround =>
  rintro _ w4 rfl ih0
  try dsimp only
  refine PG O$ Qq O$ OD$ OQ O (λh0=>?_)$ λh0=>?_
  ·refine OE$ Qx$ Qx$ RX (λe' w'=>e'=[(0,.slice (some ⟨g,0,none⟩) n cap),(1,I (a:Int)),(2,I (b:Int)),(7,I (Go.Sort.scanSorted QL d b (a+1):Int)),(8,I 0)]/\SG w' g n cap d/\Kp (λk=>k=g) w4 w') ?ey$ λey=>?CB
   case ey=>
    rintro e' ws ⟨rfl,HV,ey⟩;refine It$ Qm O$ Ri O$ OD$ OQ O (λh1=>?_)$ λh1=>?_
    ·have vD:Go.Sort.scanSorted QL d b (a+1)=b:=by omega
     rw[decide_eq_true vD];refine QB O$ OB func274 O ?_;exact⟨_,rfl,rfl,HV,ey⟩
    ·have vD:¬Go.Sort.scanSorted QL d b (a+1)=b:=by omega
     rw[decide_eq_false vD];refine OE$ It$ Qm O$ Ro O$ Qq O$ OD$ OQ O (λh2=>?_)$ λh2=>?_
     ·refine QB O$ OB func274 O ?_;exact⟨_,rfl,rfl,HV,ey⟩
     ·omega
   case CB=>
    refine Rq (α:=Nat) (a+1) (λr=>[(0,.slice (some ⟨g,0,none⟩) n cap),(1,I (a:Int)),(2,I (b:Int)),(7,I (r:Int)),(8,I 0)]) (λr w'=>SG w' g n cap d/\Kp (λk=>k=g) w4 w'/\Go.Sort.scanSorted QL d b r=Go.Sort.scanSorted QL d b (a+1)/\a<r/\r<=b) (λr=>b-r) ?hI ?hround
    case hI=>exact⟨h,Kp.refl _ _,rfl,Nat.lt_succ_self a,iV⟩
    case hround=>
     rintro r w5 ⟨aV,ak,ck,co,HW⟩ ih
     try dsimp only
     have hg:=Ext.OT w5;rcases Nat.lt_or_ge r b with hj|hj
     ·refine It$ It$ R5 (λw'=>Ext w5 w') O$ OZ 0 O O (hg)$ OZ 1 O O (hg)$ OI 2 O (ylt O O) hg$ TT$ OZ 3 O O (hg)$ OZ 4 O O (hg)$ OZ 5 O O (hg)$ OI 6 O (PX Ps OP O O (by omega)) hg$ OZ 8 O O (hg)$ OZ 9 O O (hg)$ OI 10 O (XH O O (by omega)) hg ?_;rw[show(r:Int)-1=((r-1:Nat):Int) by omega];refine qT 7 O (λ_ h=>Pr Py O O ((aV.ext h).get (i:=r) (by omega))) hg$ OI 11 O (PX Ps OP O O (by omega)) hg$ qT 12 O (λ_ h=>Pr Py O O ((aV.ext h).get (i:=r-1) (by omega))) hg$ SK 13 O Wf O (S7 _ _ _) ?_;rintro _ w6 ⟨rfl,rfl⟩;refine⟨hg,?_⟩;refine OI 14 O ((z9g O)) hg$ OI 15 O (UJ O O) hg$ qE$ Qe O (λh3=>?_)$ λh3=>?_
      ·rw[z2i _ _ _ hj (by simpa[QL] using h3)] at ck;refine OE$ OH$ Rh O$ PV O$ OU O$ OA ?_;exact(ih (r+1) _ ⟨aV.ext hg,ak.trans hg.kp,ck,by omega,by omega⟩ (by omega)).qb
      ·rw[W7 _ _ _ (.inr (by simpa[QL] using h3))] at ck;refine ON O ?_;subst ck;exact(ey _ _ ⟨rfl,aV.ext hg,ak.trans hg.kp⟩).qb
     ·refine It$ It$ R5 (λw'=>Ext w5 w') O$ OZ 0 O O (hg)$ OZ 1 O O (hg)$ OI 2 O (ylt O O) hg$ Uc$ OZ 3 O O (hg)$ qJ 4 O (hg)$ qJ 5 O (hg)$ qJ 6 O (hg)$ qJ 7 O (hg)$ qJ 8 O (hg)$ qJ 9 O (hg) ?_;refine qJ 10 O (hg)$ qJ 11 O (hg)$ qJ 12 O (hg)$ qJ 13 O (hg)$ qJ 14 O (hg)$ OI 15 O (Ub O O) hg$ qE$ OJ O$ ON O ?_;rw[W7 _ _ _ (.inl hj)] at ck;subst ck;exact(ey _ _ ⟨rfl,aV.ext hg,ak.trans hg.kp⟩).qb
  ·exact absurd (by decide) h0
def Y5 {w:World}{g n cap sb s:Nat}{d:Array Nat}(h:SG w g n cap d)(hB:OR w sb [I (s:Int)] 3)(hs:s<=1000)(x y:Nat)(hx:x<n)(hy:y<n)(rh:sb≠g):
  Pm prog 284 [.slice (some ⟨g,0,none⟩) n cap,I (x:Int),I (y:Int),ptr sb 0] w λu w'=>∃x' y' s':Nat,u= .tuple #[I (x':Int),I (y':Int)]/\((x'=x/\y'=y)\/(x'=y/\y'=x))/\s'<=s+1/\OR w' sb [I (s':Int)] 3/\SG w' g n cap d/\Kp (λk=>k=sb) w w':=by
 refine py (e:=[(0,_),(1,_),(2,_),(3,_)]) func284 O ntmps284 O O ?_
 have hg:=Ext.OT w
 refine qN O$ PU O$ It$ It$ R5 (λw'=>Ext w w') O$ OZ 0 O O (hg)$ OZ 1 O O (hg)$ OI 2 O (PX Ps OP O O (by omega)) hg$ OZ 4 O O (hg)$ OZ 5 O O (hg)$ OI 6 O (PX Ps OP O O (by omega)) hg$ qT 3 O (λ_ hS=>Pr Py O O ((h.ext hS).get (i:=y) (by omega))) hg$ qT 7 O (λ_ hS=>Pr Py O O ((h.ext hS).get (i:=x) (by omega))) hg$ SK 8 O Wf O (S7 _ _ _) ?_
 rintro _ w6 ⟨rfl,rfl⟩
 refine⟨hg,?_⟩
 refine qE$ Qe O (λh1=>?_)$ λh1=>?_
 ·have am:=hg.OC hB;refine Pf O$ Pu O$ qV (OO U3 O O am O)$ PV O$ Pu O$ OW O (QQ Q7 O O O am (by simp)) ?_;rintro w3 ⟨au,av⟩;refine qM O$ P8 O$ PU O$ OB func284 O ?_;exact⟨_,rfl,y,x,s+1,rfl,.inr ⟨rfl,rfl⟩,Nat.le_refl _,au,(h.ext hg).kp av (λe=>rh e.symm),hg.kp.trans av⟩
 ·refine OE$ Qm O$ PU O$ OB func284 O ?_;exact⟨_,rfl,x,y,s,rfl,.inl ⟨rfl,rfl⟩,Nat.le_succ _,hg.OC hB,h.ext hg,hg.kp⟩
def z7q {w:World}{g n cap sb s:Nat}{d:Array Nat}(h:SG w g n cap d)(hB:OR w sb [I (s:Int)] 3)(hs:s<=500)(x y z:Nat)(hx:x<n)(hy:y<n)(hz:z<n)(rh:sb≠g):
  Pm prog 282 [.slice (some ⟨g,0,none⟩) n cap,I (x:Int),I (y:Int),I (z:Int),ptr sb 0] w λu w'=>∃x' s':Nat,u=I (x':Int)/\(x'=x\/x'=y\/x'=z)/\s'<=s+3/\OR w' sb [I (s':Int)] 3/\SG w' g n cap d/\Kp (λk=>k=sb) w w':=by
 refine py (e:=[(0,_),(1,_),(2,_),(3,_),(4,_)]) func282 O ntmps282 O O$ qN O$ Qw O$ P8 O$ P8 O$ P4 zbz O (Y5 h hB (by omega) x y hx hy rh) ?_
 rintro _ w1 ⟨x1,y1,s1,rfl,JO,dA,aj,kV,aL⟩
 refine OK O$ RA O$ RT O$ Qw O$ P8 O$ P8 O$ P4 zbz O (Y5 kV aj (by omega) y1 z (by omega) hz rh) ?_
 rintro _ w2 ⟨y2,z2,s2,rfl,JP,df,am,pn,aq⟩
 refine OK O$ RA O$ RT O$ Qw O$ P8 O$ P8 O$ P4 zbz O (Y5 pn am (by omega) x1 y2 (by omega) (by omega) rh) ?_
 rintro _ w3 ⟨x3,y3,s3,rfl,JQ,oN,au,vE,av⟩
 refine OK O$ RA O$ PU O$ Pn.qb (e:=[(2,_),(10,_)]) ?_
 refine Pf O$ OU O$ OB func282 O ?_
 exact⟨_,rfl,y3,s3,rfl,by omega,by omega,au,vE,(aL.trans aq).trans av⟩
def zax {w:World}{g n cap:Nat}{d:Array Nat}(h:SG w g n cap d)(a b:Nat)(iV:a+12<b)(hb:b<=n)(hn:n<50):
  Pm prog 272 [.slice (some ⟨g,0,none⟩) n cap,I (a:Int),I (b:Int)] w λu w'=>∃p t:Nat,u= .tuple #[I (p:Int),I (t:Int)]/\a<=p/\p<b/\t<=2/\SG w' g n cap d/\Ext w w':=by
 have JR:g<w.heap.size:=h.sl.lt O
 refine py (e:=[(0,_),(1,_),(2,_)]) func272 O ntmps272 O O$ qN O$ RT O$ Qw O$ P8 O$ Ro O$ Qw O ?_
 rw[show(b:Int)-(a:Int)=((b-a:Nat):Int) by omega]
 refine OM O O (RN (cs:=[_]) Q7 O) ?_
 rintro _ w1 ⟨sb,rfl,rh,ad,aj⟩
 replace aj:OR w1 sb [I ((0:Nat):Int)] 3:=aj
 refine qM O$ P8 O$ qV (VI O O (by omega))$ qV (Wm O O (by omega))$ PV O$ Qw O$ P8 O$ qV (VI O O (by omega))$ qV (Wm O O (by omega))$ PV O$ Qw O$ P8 O$ qV (VI O O (by omega))$ qV (Wm O O (by omega)) ?_
 refine PV O$ OU O$ Pn.qb (e:=[(0,_),(6,_),(7,_),(8,_),(9,_),(10,_),(11,_),(12,_)]) ?_
 refine PG O$ Te O$ OD ?_
 rw[show(a:Int)+((b-a:Nat):Int) / 4*1=((a+(b-a) / 4*1:Nat):Int) by omega,show(a:Int)+((b-a:Nat):Int) / 4*2=((a+(b-a) / 4*2:Nat):Int) by omega,show(a:Int)+((b-a:Nat):Int) / 4*3=((a+(b-a) / 4*3:Nat):Int) by omega]
 refine OQ O (λh0=>?_)$ λh0=>?_
 ·refine PG O$ Te O$ OD$ OQ O (λh1=>?_)$ λh1=>?_
  ·omega
  ·refine OE$ OL O$ P8 O$ P8 O$ P4 zi1 O (z7q (h.ext ad) aj (by omega) (a+(b-a) / 4*1) (a+(b-a) / 4*2) (a+(b-a) / 4*3) (by omega) (by omega) (by omega) (by omega)) ?_;rintro _ w2 ⟨p,s,rfl,hp,hs,am,pn,aq⟩;have ae:Ext w w2:=ad.An aq (λk e=>by omega);refine Qw O$ qV (OO U3 O O am O)$ OD$ OH$ qN O$ Ri O$ OU O$ OQ O (λh2=>?_)$ λh2=>?_
   ·refine Pf O$ PU O$ OB func272 O ?_;exact⟨_,rfl,p,1,rfl,by omega,by omega,by omega,pn,ae⟩
   ·refine qN O$ Ri O$ OU O$ OQ O (λh3=>?_)$ λh3=>?_
    ·refine Pf O$ PU O$ OB func272 O ?_;exact⟨_,rfl,p,2,rfl,by omega,by omega,by omega,pn,ae⟩
    ·refine Pf O$ PU O$ OB func272 O ?_;exact⟨_,rfl,p,0,rfl,by omega,by omega,by omega,pn,ae⟩
 ·omega
def z9O {w:World}{xb r:Nat}(hB:OR w xb [u64v r] 392)(hr:r<18446744073709551616):
  Pm prog 280 [ptr xb 0] w λu w'=>∃r':Nat,u=u64v r'/\r'<18446744073709551616/\OR w' xb [u64v r'] 392/\Kp (λk=>k=xb) w w':=by
 refine py (e:=[(0,_)]) func280 O ntmps280 O O ?_
 have aG:=Ext.OT w
 refine QB O$ It$ P7 [9] (λw'=>Ext w w') (by kernel_rfl) O$ PL 0 O O (aG)$ P9 1 O (Q4 O) aG$ qL 2 O (λ_ h=>OO z5z O O (h.OC hB) O) aG$ PL 3 O O (aG)$ P9 4 O (Q4 O) aG$ qL 5 O (λ_ h=>OO z5z O O (h.OC hB) O) aG$ P9 6 O (QP 13 8192 O O (by decide) O) aG$ P9 7 O (WC O O (by omega) (by omega)) aG$ P9 8 O (Q4 O) aG ?_
 generalize fT:r^^^r*8192%18446744073709551616=r1
 have da:r1<18446744073709551616:=by rw[<-fT];exact Nat.xor_lt_two_pow (n:=64) (by omega) (by omega)
 refine SM [9]$ qO 9$ PC (i:=9) O O (QQ z5u O O O (aG.OC hB) (by simp)) ?_
 rintro w1 ⟨aj,aL⟩
 refine⟨trivial,?_⟩
 replace aj:OR w1 xb [u64v r1] 392:=aj
 have aa:=Ext.OT w1
 refine qE$ It$ P7 [9] (λw'=>Ext w1 w') (by kernel_rfl) O$ PL 0 O O (aa)$ P9 1 O (Q4 O) aa$ qL 2 O (λ_ h=>OO z5z O O (h.OC aj) O) aa$ PL 3 O O (aa)$ P9 4 O (Q4 O) aa$ qL 5 O (λ_ h=>OO z5z O O (h.OC aj) O) aa$ P9 6 O (Sc 7 128 O O (by decide) O) aa$ P9 7 O (WC O O (by omega) (by omega)) aa$ P9 8 O (Q4 O) aa ?_
 generalize fF:r1^^^r1 / 128=r2
 have dw:r2<18446744073709551616:=by rw[<-fF];exact Nat.xor_lt_two_pow (n:=64) (by omega) (by omega)
 refine SM [9]$ qO 9$ PC (i:=9) O O (QQ z5u O O O (aa.OC aj) (by simp)) ?_
 rintro w2 ⟨am,aq⟩
 refine⟨trivial,?_⟩
 replace am:OR w2 xb [u64v r2] 392:=am
 have af:=Ext.OT w2
 refine qE$ It$ P7 [9] (λw'=>Ext w2 w') (by kernel_rfl) O$ PL 0 O O (af)$ P9 1 O (Q4 O) af$ qL 2 O (λ_ h=>OO z5z O O (h.OC am) O) af$ PL 3 O O (af)$ P9 4 O (Q4 O) af$ qL 5 O (λ_ h=>OO z5z O O (h.OC am) O) af$ P9 6 O (QP 17 131072 O O (by decide) O) af$ P9 7 O (WC O O (by omega) (by omega)) af$ P9 8 O (Q4 O) af ?_
 generalize B0:r2^^^r2*131072%18446744073709551616=r3
 have ct:r3<18446744073709551616:=by rw[<-B0];exact Nat.xor_lt_two_pow (n:=64) (by omega) (by omega)
 refine SM [9]$ qO 9$ PC (i:=9) O O (QQ z5u O O O (af.OC am) (by simp)) ?_
 rintro w3 ⟨au,av⟩
 refine⟨trivial,?_⟩
 replace au:OR w3 xb [u64v r3] 392:=au
 refine qE$ Pn.qb (e:=[(0,_),(2,_)]) ?_
 refine Pf O$ Pu O$ qV (OO z5z O O au O)$ OU O$ OB func280 O ?_
 exact⟨_,rfl,r3,rfl,ct,au,(aG.kp.trans aL).trans ((aa.kp.trans aq).trans (af.kp.trans av))⟩
def z3v (x:Nat)(hx:x<18446744073709551616)(w:World):Pm prog 158 [u64v x] w λv w'=>v=I (PR x:Int)/\w'=w:=by
 refine py (e:=[(0,_)]) func158 O ntmps158 O O$ QB O$ It$ Tu O$ Pf O$ P4 z35 O (Us x hx w) ?_
 rintro _ w ⟨rfl,rfl⟩
 refine OU O$ OB func158 O ?_
 exact⟨_,rfl,rfl,rfl⟩
def zb5 (x:Nat)(hx:x<4294967296)(w:World):Pm prog 279 [I (x:Int)] w λv w'=>v=u64v (2^PR x)/\w'=w:=by
 have hl:PR x<=32:=R9 (by omega)
 have hp:2^PR x<=2^32:=Nat.pow_le_pow_right (by decide) hl
 refine py (e:=[(0,_)]) func279 O ntmps279 O O$ qN O$ Qt O$ qV ((PZ O U3 zdU (by omega)))$ P4 zbD O (z3v x (by omega) w) ?_
 rintro _ w ⟨rfl,rfl⟩
 refine qV (QP (PR x) (2^PR x) O O (by omega) O) ?_
 rw[show 1*2^PR x%18446744073709551616=2^PR x by rw[Nat.one_mul];exact Nat.mod_eq_of_lt (by omega)]
 refine OU O$ OB func279 O ?_
 exact⟨_,rfl,rfl,rfl⟩
open Go.Sort in
def zcC {d:Array Nat}{a b i j:Nat}(h1:a<=i)(h2:i<b)(h3:a<=j)(h4:j<b)(h5:b<=d.size):PermIn a b d (swp d i j):=swp_permIn d a b i j h1 h2 h3 h4 h5
def zbQ {w:World}{g n cap:Nat}{d:Array Nat}(h:SG w g n cap d)(a b:Nat)(iV:a+12<b)(hb:b<=n)(hn:n<50):
  Pm prog 271 [.slice (some ⟨g,0,none⟩) n cap,I (a:Int),I (b:Int)] w λu w'=>u= .tuple #[]/\∃d',Go.Sort.PermIn a b d d'/\SG w' g n cap d'/\Kp (λk=>k=g) w w':=by
 have JR:g<w.heap.size:=h.sl.lt O
 have CC:2^(PR (b-a)-1)<=b-a:=z0z (by omega)
 have po:2^PR (b-a)<=2*(b-a):=by
  have sV:PR (b-a)≠0:=λe=>by have:=WY (v:=b-a);rw[e] at this;omega
  rw[show PR (b-a)=PR (b-a)-1+1 by omega,Nat.pow_succ];omega
 have C2:1<=2^PR (b-a):=Nat.one_le_two_pow
 refine py (e:=[(0,_),(1,_),(2,_)]) func271 O ntmps271 O O$ Qm O$ Ro O ?_
 rw[show(b:Int)-(a:Int)=((b-a:Nat):Int) by omega]
 refine Qt O$ Te O$ OD$ OQ O (λh0=>?_)$ λh0=>?_
 ·refine Pf O$ qV ((PZ O U3 z5z (by omega)))$ OM O O (RN (cs:=[_]) z5u O) ?_;rintro _ w1 ⟨xb,rfl,ND,ad,aj⟩;refine OW O (QQ z5u O O O aj (by simp)) ?_;rintro w2 ⟨am,aq⟩;have ae:Ext w w2:=ad.An aq (λk e=>by omega);replace am:OR w2 xb [u64v (b-a)] 392:=am;refine qM O$ OK O$ P4 zjD O (zb5 (b-a) (by omega) _) ?_;rintro _ w2 ⟨rfl,rfl⟩
  generalize 2^PR (b-a)=M at po C2
  refine Qw O$ P8 O$ qV (VI O O (by omega))$ qV (Wm O O (by omega))$ PV O$ Ro O$ OU O$ OH ?_;rw[show(a:Int)+((b-a:Nat):Int) / 4*2-1=((a+(b-a) / 4*2-1:Nat):Int) by omega];refine Rq (α:=Nat×Array Nat×Nat) ((a+(b-a) / 4*2-1,d,b-a)) (λy=>[(0,.slice (some ⟨g,0,none⟩) n cap),(1,I (a:Int)),(6,I ((b-a:Nat):Int)),(7,ptr xb 0),(8,u64v M),(9,I (y.1:Int))]) (λy w'=>SG w' g n cap y.2.1/\OR w' xb [u64v y.2.2] 392/\y.2.2<18446744073709551616/\Go.Sort.PermIn a b d y.2.1/\Kp (λk=>k=g) w w'/\a<=y.1) (λy=>a+b+2-y.1) ?hI ?hround
  case hI=>exact⟨h.ext ae,am,by dsimp only;omega,Go.Sort.permIn_refl _ _ _,ae.kp,by dsimp only;omega⟩
  case hround=>
   rintro⟨idx,d4,r⟩ w4 ⟨dZ,aK,bM,ii,ao,oJ⟩ ih;dsimp only at dZ aK bM ii ao oJ;have cG:=dZ.size
   try dsimp only
   refine It$ Qm O$ OK O$ qV (VI O O (by omega))$ qV (Wm O O (by omega))$ PV O$ PV O$ zle O$ OD$ OQ O (λh1=>?_)$ λh1=>?_
   ·have pp:idx<b:=by omega
    refine OE$ Qx$ qN O$ P4 zjy O (z9O aK bM) ?_;rintro _ w5 ⟨r5,rfl,co,aH,ak⟩;have aV:=dZ.kp ak (λe=>by omega);have cz:Kp (λk=>k=g) w w5:=ao.An ak (λk e=> .inl (by omega));refine OK O$ qV (VZ (m:=M) (n:=1) O O O (by show M<2^64;omega) (by omega)) ?_;refine qV (Tk O O (by omega) (by omega)) ?_;have CD:r5&&&(M-1)<=M-1:=Nat.and_le_right
    generalize r5&&&(M-1)=q at CD
    refine qV (PJ O zdU U3 (by omega))$ OU O$ It$ Qm O$ Te O$ OD$ PI (λe' w'=>∃o:Nat,e'=[(0,.slice (some ⟨g,0,none⟩) n cap),(1,I (a:Int)),(6,I ((b-a:Nat):Int)),(7,ptr xb 0),(8,u64v M),(9,I (idx:Int)),(10,I (o:Int))]/\w'=w5/\o<b-a) ?CE$ λCE=>?CG
    case CE=>
     rintro e' w5' ⟨o,rfl,rfl,ho⟩;have aA:=Ext.OT w5';refine P7 [17,19] (λw'=>Ext w5' w') (by kernel_rfl) O$ PL 0 O O (aA)$ PL 1 O O (aA)$ Q8 (i:=2) O (by kernel_rfl) O O (λ_=>Xv O) (aA)$ Q8 (i:=3) O (by kernel_rfl) O O (λ_=>Xv O) (aA)$ Q8 (i:=4) O (by kernel_rfl) O O (λ_=>Xv O) (aA)$ Q8 (i:=5) O (by kernel_rfl) O O (λ_=>Ud O O (by omega)) (aA)$ PL 6 O O (aA)$ PL 7 O O (aA)$ PL 8 O O (aA)$ P9 9 O (Ud O O (by omega)) aA$ P9 10 O (PX Ps OP O O (by omega)) aA$ PL 12 O O (aA)$ PL 13 O O (aA) ?_;refine P9 14 O (PX Ps OP O O (by omega)) aA$ qL 11 O (λ_ h=>Pr Py O O ((aV.ext h).get (i:=a+o) (by omega))) aA$ qL 15 O (λ_ h=>Pr Py O O ((aV.ext h).get (i:=idx) (by omega))) aA$ P9 16 O (PX Ps OP O O (by omega)) aA$ SM [17]$ qO 17$ PC (i:=17) O O (RV OP O O O (aV.ext aA).sl ((aV.ext aA).jlt (by omega))) ?_;rintro w8a ⟨gq,gt⟩;refine⟨trivial,?_⟩;have cK:=(aV.ext aA).set gq;refine OI 18 O (PX Ps OP O O (by omega)) trivial$ qO 19$ PC (i:=19) O O (RV OP O O O cK.sl (cK.jlt (by omega))) ?_;rintro w8 ⟨kg,kh⟩;refine⟨trivial,?_⟩;have ki:=cK.set kg;have fE:Kp (λk=>k=g) w5' w8:=aA.kp.trans (gt.trans kh);refine qE$ OA$ Rh O$ PV O$ OU O ?_;rw[show(idx:Int)+1=((idx+1:Nat):Int) by omega];exact(ih (idx+1,Go.Sort.swp d4 idx (a+o),r5) _ ⟨ki,fE.OC aH (by omega),co,Go.Sort.permIn_trans _ _ _ a b ii (zcC oJ pp (by omega) (by omega) (by omega)),cz.trans fE,by dsimp only;omega⟩ (by dsimp only;omega)).qb
    case CG=>
     refine OQ O (λh2=>?_)$ λh2=>?_
     ·refine OL O$ P8 O$ Ro O$ OU O ?_;rw[show(q:Int)-((b-a:Nat):Int)=((q-(b-a):Nat):Int) by omega];exact(CE _ _ ⟨q-(b-a),rfl,rfl,by omega⟩).qb
     ·refine OE ?_;exact(CE _ _ ⟨q,rfl,rfl,by omega⟩).qb
   ·refine ON O$ Qv func271 O ?_;exact⟨_,rfl,rfl,d4,ii,dZ,ao⟩
 ·omega
open Go.Sort in
def zea (g n cap m:Nat):Prop:=∀(w:World) (d:Array Nat),SG w g n cap d->∀(a b limit:Nat),b-a<m->a<=b->b<=n->limit<=64->Below QL a b d->
 Pm prog 262 [.slice (some ⟨g,0,none⟩) n cap,I (a:Int),I (b:Int),I (limit:Int)] w λu w'=>u= .tuple #[]/\∃d',SG w' g n cap d'/\PermIn a b d d'/\SortedIn QL a b d'/\Kp (λk=>k=g) w w'
open Go.Sort in
structure z6x (w:World)(g n cap a b:Nat)(d:Array Nat)(a1 b1 l1:Nat)(d1:Array Nat)(w':World):Prop where
 arr:SG w' g n cap d1
 kp:Kp (λk=>k=g) w w'
 ab:a1<=b1
 bn:b1<=n
 sm:b1-a1<=b-a
 lim:l1<=64
 bel:Below QL a1 b1 d1
 fin:∀R,PermIn a1 b1 d1 R->SortedIn QL a1 b1 R->PermIn a b d R/\SortedIn QL a b R
open Go.Sort in
def z6x.perm {w:World}{g n cap a b:Nat}{d:Array Nat}{a1 b1 l1 l2:Nat}{d1 d2:Array Nat}{w1 w2:World}(h:z6x w g n cap a b d a1 b1 l1 d1 w1)(hA:SG w2 g n cap d2)(hk:Kp (λk=>k=g) w1 w2)(hp:PermIn a1 b1 d1 d2)(hl:l2<=64):z6x w g n cap a b d a1 b1 l2 d2 w2:=
 ⟨hA,h.kp.trans hk,h.ab,h.bn,h.sm,hl,h.bel.perm (by rw[h.arr.size];exact h.bn) hp,λR h1 h2=>h.fin R (permIn_trans _ _ _ _ _ hp h1) h2⟩
open Go.Sort in
def zby {g n cap m:Nat}(fj:zea g n cap m){w:World}{d:Array Nat}(h:SG w g n cap d)(a b limit:Nat)(hm:b-a<=m)(iV:a<=b)(hb:b<=n)(hn:n<50)(hl:limit<=64)(hB:Below QL a b d):
  Pm prog 262 [.slice (some ⟨g,0,none⟩) n cap,I (a:Int),I (b:Int),I (limit:Int)] w λu w'=>u= .tuple #[]/\∃d',SG w' g n cap d'/\PermIn a b d d'/\SortedIn QL a b d'/\Kp (λk=>k=g) w w':=by
 refine py (e:=[(0,_),(1,_),(2,_),(3,_)]) func262 O ntmps262 O O$ qN O$ Qw O$ OU O$ OH$ Rq (α:=Nat×Nat×Nat×Bool×Bool×Array Nat) ((a,b,limit,true,true,d)) (λy=>[(0,.slice (some ⟨g,0,none⟩) n cap),(1,I (y.1:Int)),(2,I (y.2.1:Int)),(3,I (y.2.2.1:Int)),(8,.bool y.2.2.2.1),(9,.bool y.2.2.2.2.1)]) (λy w'=>z6x w g n cap a b d y.1 y.2.1 y.2.2.1 y.2.2.2.2.2 w') (λy=>y.2.1-y.1) ?hI ?hround
 case hI=>exact⟨h,Kp.refl _ _,iV,hb,Nat.le_refl _,hl,hB,λR h1 h2=>⟨h1,h2⟩⟩
 case hround =>
  rintro⟨a1,b1,l1,wb,wp,d1⟩ w4 hI ih;dsimp only at hI;have pq:=hI.ab;have gu:=hI.bn;have JS:=hI.sm;have HX:=hI.lim;have wU:=hI.arr.size
  try dsimp only
  refine OH$ Qm O$ Ro O$ OU O$ It$ qN O ?_;rw[show(b1:Int)-(a1:Int)=((b1-a1:Nat):Int) by omega];refine OK O$ zle O$ OD$ OQ O (λh0=>?_)$ λh0=>?_
  ·obtain⟨r1,r2⟩:=insertionSort_holds Yt d1 a1 b1 pq (by omega);obtain⟨q1,q2⟩:=hI.fin _ r1 r2;refine Qm O$ OK O$ P4 zha O (z2h hI.arr a1 b1 pq gu (by omega)) ?_;rintro _ w5 ⟨rfl,aV,ak⟩;refine OD$ OB func262 O ?_;exact⟨_,rfl,rfl,_,aV,q1,q2,hI.kp.trans ak⟩
  ·refine OE$ PG O$ Ri O$ OD$ OQ O (λh1 => ?_)$ λh1 => ?_
   ·obtain⟨r1,r2⟩:=heapSort_holds Yt d1 a1 b1 pq (by omega);obtain⟨q1,q2⟩:=hI.fin _ r1 r2;refine Qm O$ OK O$ P4 zi2 O (zbU hI.arr a1 b1 (by omega) gu (by omega)) ?_;rintro _ w5 ⟨rfl,aV,ak⟩;refine OD$ OB func262 O ?_;exact⟨_,rfl,rfl,_,aV,q1,q2,hI.kp.trans ak⟩
   ·refine OE$ PG O$ qV ((Sb O))$ OD$ PI (λe' w' => ∃ l5 d5, e' = [(0, .slice (some ⟨g, 0, none⟩) n cap), (1, I (a1 : Int)), (2, I (b1 : Int)), (3, I ((l5 : Nat) : Int)), (8, .bool wb), (9, .bool wp), (10, I ((b1 - a1 : Nat) : Int))] /\ z6x w g n cap a b d a1 b1 l5 d5 w') ?dv$ λdv => ?ff
    case dv =>
     rintro e' w5 ⟨l5,d5,rfl,lX⟩;have ri:=lX.lim;have CH:=lX.arr.size;have JT:g<w5.heap.size:=lX.arr.sl.lt O;refine Qm O$ OK O$ P4 zhk O (zax lX.arr a1 b1 (by omega) gu hn) ?_;rintro _ w6 ⟨p6,t6,rfl,JU,sW,wV,pi,aI⟩;have pu:=lX.perm pi aI.kp (permIn_refl _ _ _) ri;refine OK O$ RA O$ PU O$ PG O$ Ri O$ OD$ PI (λe' w'=>∃d7 p7 t7,e'=[(0,.slice (some ⟨g,0,none⟩) n cap),(1,I (a1:Int)),(2,I (b1:Int)),(3,I (l5:Int)),(8,.bool wb),(9,.bool wp),(10,I ((b1-a1:Nat):Int)),(11,I ((p7:Nat):Int)),(12,I ((t7:Nat):Int))]/\z6x w g n cap a b d a1 b1 l5 d7 w'/\a1<=p7/\p7<b1) ?aw$ λaw=>?dz
     case aw =>
      rintro e' w7 ⟨d7,p7,t7,rfl,jE,B1,pw⟩;have JV:=jE.arr.size;refine It$ It$ PI (λe' w'=>∃s,e'=[(0,.slice (some ⟨g,0,none⟩) n cap),(1,I (a1:Int)),(2,I (b1:Int)),(3,I (l5:Int)),(8,.bool wb),(9,.bool wp),(10,I ((b1-a1:Nat):Int)),(11,I (p7:Int)),(68,.bool s)]/\w'=w7) ?kj$ λkj=>?kl
      case kj=>
       rintro e' w8 ⟨s,rfl,rfl⟩;refine PI (λe' w'=>e'=[(0,.slice (some ⟨g,0,none⟩) n cap),(1,I (a1:Int)),(2,I (b1:Int)),(3,I (l5:Int)),(8,.bool wb),(9,.bool wp),(10,I ((b1-a1:Nat):Int)),(11,I (p7:Int))]/\z6x w g n cap a b d a1 b1 l5 d7 w') ?oO$ λoO=>?sZ
       case oO=>
        rintro e' w9 ⟨rfl,gQ⟩;have rj:=gQ.arr;have hg:=Ext.OT w9;refine It$ It$ PI (λe' w'=>∃s,e'=[(0,.slice (some ⟨g,0,none⟩) n cap),(1,I (a1:Int)),(2,I (b1:Int)),(3,I (l5:Int)),(8,.bool wb),(9,.bool wp),(10,I ((b1-a1:Nat):Int)),(11,I (p7:Int)),(87,.bool s)]/\w'=w9.drew/\(s=true->0<a1/\QL d7[a1-1]! d7[p7]! =false)) ?sH$ λsH=>?sI
        case sH=>
         rintro e' w10 ⟨s,rfl,rfl,hs⟩;have lY:=rj.ext hg;have ar:Kp (λk=>k=g) w w9.drew:=gQ.kp.trans hg.kp;refine Qe O (λh6=>?_)$ λh6=>?_
         ·obtain⟨JW,lZ⟩:=hs h6;obtain⟨mid,d11,hx⟩:∃m e,partitionEqual QL d7 a1 b1 p7=(m,e):=⟨_,_,rfl⟩;have wW:=ze4 lY a1 b1 p7 B1 pw gu (by omega);rw[hx] at wW;dsimp only at wW;obtain⟨e1,e2,e3,e4,e5⟩:=round_eq Yt (partitionEqual_holds _) JW B1 pw (by omega) gQ.bel lZ hx;refine Qm O$ P8 O$ P4 zif O (wW) ?_;rintro _ w11 ⟨rfl,px,bu⟩;refine Qt O$ OU O$ ON O ?_;exact(ih (mid,b1,l5,wb,wp,d11) _ ⟨px,ar.trans bu,e2,gu,by dsimp only;omega,gQ.lim,e4,λR r1 r2=>gQ.fin R (e5 R r1 r2).1 (e5 R r1 r2).2⟩ (by dsimp only;omega)).qb
         ·obtain⟨mid,ap,d11,hx⟩:∃m q e,partition QL d7 a1 b1 p7=(m,q,e):=⟨_,_,_,rfl⟩;have sX:=zcb lY a1 b1 p7 B1 pw gu (by omega);rw[hx] at sX;dsimp only at sX;obtain⟨e1,e2,e3,e4,e5,e6,e7⟩:=round_part Yt (partition_holds _) B1 pw (by omega) gQ.bel hx;refine OE$ Qm O$ P8 O$ P4 zjC O (sX) ?_;rintro _ w11 ⟨rfl,px,bu⟩;refine OK O$ RA O$ RT O$ Qt O$ Qw O$ P8 O$ Ro O$ P8 O$ Ro O$ RT O$ Qw O ?_;rw[show(mid:Int)-(a1:Int)=((mid-a1:Nat):Int) by omega,show(b1:Int)-(mid:Int)=((b1-mid:Nat):Int) by omega];refine OK O$ qV (VI O O (by omega))$ Qw O$ P8 O$ Qq O$ OD$ OQ O (λh7=>?_)$ λh7=>?_
          ·refine Qm O$ Te O$ Qw O$ P8 O$ P8 O$ P4 zb0 O (fj _ _ px a1 mid l5 (by omega) e1 (by omega) gQ.lim e4) ?_;rintro _ w12 ⟨rfl,d12,sY,kk,jY,bh⟩;obtain⟨f1,f2⟩:=e6 _ kk jY;refine OD$ Rh O$ PV O$ OU O$ OA ?_;exact(ih (mid+1,b1,l5,decide (((b1-a1:Nat):Int) / 8<=((mid-a1:Nat):Int)),ap,d12) _ ⟨sY,(ar.trans bu).trans bh,by dsimp only;omega,gu,by dsimp only;omega,gQ.lim,f1,λR r1 r2=>gQ.fin R (f2 R r1 r2).1 (f2 R r1 r2).2⟩ (by dsimp only;omega)).qb
          ·refine Qm O$ Te O$ Qw O$ P8 O$ PV O$ P8 O ?_;rw[show(mid:Int)+1=((mid+1:Nat):Int) by omega];refine P4 zb0 O (fj _ _ px (mid+1) b1 l5 (by omega) (by omega) gu gQ.lim e5) ?_;rintro _ w12 ⟨rfl,d12,sY,kk,jY,bh⟩;obtain⟨f1,f2⟩:=e7 _ kk jY;refine OD$ Rh O$ OU O$ OA ?_;exact(ih (a1,mid,l5,decide (((b1-a1:Nat):Int) / 8<=((b1-mid:Nat):Int)),ap,d12) _ ⟨sY,(ar.trans bu).trans bh,e1,by dsimp only;omega,by dsimp only;omega,gQ.lim,f1,λR r1 r2=>gQ.fin R (f2 R r1 r2).1 (f2 R r1 r2).2⟩ (by dsimp only;omega)).qb
        case sI=>
         rcases Nat.eq_zero_or_pos a1 with hj|hj
         ·refine R5 (λw'=>Ext w9 w') O$ OZ 0 O O (hg)$ OI 1 O (Xw O O) hg$ Uc$ OZ 2 O O (hg)$ qJ 3 O (hg)$ qJ 4 O (hg)$ qJ 5 O (hg)$ qJ 6 O (hg)$ qJ 7 O (hg)$ qJ 8 O (hg)$ qJ 9 O (hg)$ qJ 10 O (hg)$ qJ 11 O (hg) ?_;refine qJ 12 O (hg)$ qJ 13 O (hg)$ OI 14 O (Ub O O) hg$ qE ?_;exact(sH _ _ ⟨false,rfl,rfl,λe=>by cases e⟩).qb
         ·refine R5 (λw'=>Ext w9 w') O$ OZ 0 O O (hg)$ OI 1 O (Xw O O) hg$ TT$ OZ 2 O O (hg)$ OZ 3 O O (hg)$ OZ 4 O O (hg)$ OI 5 O (XH O O (by omega)) hg$ OZ 8 O O (hg)$ OZ 9 O O (hg)$ OI 10 O (PX Ps OP O O (by omega)) hg ?_;rw[show(a1:Int)-1=((a1-1:Nat):Int) by omega];refine OI 6 O (PX Ps OP O O (by omega)) hg$ qT 7 O (λ_ h=>Pr Py O O ((rj.ext h).get (i:=a1-1) (by omega))) hg$ qT 11 O (λ_ h=>Pr Py O O ((rj.ext h).get (i:=p7) (by omega))) hg$ SK 12 O Wf O (S7 _ _ _) ?_;rintro _ w10 ⟨rfl,rfl⟩;refine⟨hg,?_⟩;refine OI 13 O ((z9g O)) hg$ OI 14 O (UJ O O) hg$ qE ?_;exact(sH _ _ ⟨decide (¬d7[a1-1]!<d7[p7]!),rfl,rfl,λe=>⟨hj,by simpa[QL] using e⟩⟩).qb
       case sZ=>
        refine Qe O (λh4=>?_)$ λh4=>?_
        ·obtain⟨r1,r2⟩:=partialInsertionSort_holds Yt d7 a1 b1 (by omega) (by omega) jE.bel;refine Qm O$ OK O$ P4 zhz O (zbF jE.arr a1 b1 (by omega) gu hn) ?_;rintro _ w9 ⟨rfl,rj,aM⟩;refine OD$ Qe O (λh5=>?_)$ λh5=>?_
         ·have r3:=r2 h5;rw[z8s d7 a1 b1 (by omega)] at r3;dsimp only at r3;obtain⟨q1,q2⟩:=jE.fin _ (permIn_refl _ _ _) r3;refine OB func262 O ?_;exact⟨_,rfl,rfl,d7,rj,q1,q2,jE.kp.trans aM⟩
         ·refine OE ?_;exact(oO _ _ ⟨rfl,jE.perm rj aM (permIn_refl _ _ _) jE.lim⟩).qb
        ·refine OE ?_;exact(oO _ _ ⟨rfl,jE⟩).qb
      case kl =>
       cases wb with
       | false =>
         refine OL O$ P8 O$ qS$ PK O$ OK O$ QG$ PK O$ OD ?_
         exact(kj _ _ ⟨false,rfl,rfl⟩).qb
       | true =>
         cases wp with
         | false =>
           refine OL O$ P8 O$ OK O$ QJ O$ OK O$ QG$ PK O$ OD ?_
           exact(kj _ _ ⟨false,rfl,rfl⟩).qb
         | true =>
           refine OL O$ P8 O$ OK O$ QJ O$ P8 O$ Ri O$ QJ O$ OD ?_;exact(kj _ _ ⟨decide ((t7:Int)=1),rfl,rfl⟩).qb
     case dz=>
      refine OQ O (λh3=>?_)$ λh3=>?_
      ·refine Qm O$ OK O$ P4 zhl O (z5g pi a1 b1 (by omega) gu (by omega)) ?_;rintro _ w7 ⟨rfl,B2,aC⟩;refine qM O$ OK O$ Ro O$ P8 O$ Ro O$ Ro O$ OU O$ OL O$ OU O ?_;rw[show(b1:Int)-1-((p6:Int)-(a1:Int))=((b1-1-(p6-a1):Nat):Int) by omega];exact(aw _ _ ⟨reverseRange d5 a1 b1,b1-1-(p6-a1),1,rfl,pu.perm B2 aC (reverseRange_holds _ _ _ pq (by omega)) ri,by omega,by omega⟩).qb
      ·refine OE ?_;exact(aw _ _ ⟨d5,p6,t6,rfl,pu,JU,sW⟩).qb
    case ff=>
     refine Qe O (λh2=>?_)$ λh2=>?_
     ·refine Qm O$ OK O$ P4 zjY O (zbQ hI.arr a1 b1 (by omega) gu hn) ?_;rintro _ w5 ⟨rfl,d5,fO,aV,ak⟩;refine OD$ Rh O$ Ro O$ OU O ?_;rw[show(l1:Int)-1=((l1-1:Nat):Int) by omega];exact(dv _ _ ⟨l1-1,d5,rfl,hI.perm aV ak fO (by omega)⟩).qb
     ·refine OE ?_;exact(dv _ _ ⟨l1,d1,rfl,hI⟩).qb
def z80 (g n cap:Nat)(hn:n<50):∀m,zea g n cap m
 |0=>λw d h a b limit hm=>absurd hm (Nat.not_lt_zero _)
 |m+1=>λw d h a b limit hm iV hb hl hB=>zby (z80 g n cap hn m) h a b limit (by omega) iV hb hn hl hB
open Go.Sort in
def z9z {w:World}{v:Value}{l:List Nat}(hS:Sl w v 106 1 l.length (l.map Pq))(bT:l≠[])(hl:l.length<50):
  Pm prog 255 [v] w λu w'=>u= .tuple #[]/\Kp (λk=>v.ownBlock=some k) w w'/\∃l':List Nat,l'.Perm l/\l'.Pairwise (·<=·)/\Sl w' v 106 1 l'.length (l'.map Pq):=by
 obtain⟨g,cap,rfl⟩:∃g c,v= .slice (some ⟨g,0,none⟩) l.length c:=by
  rcases hS.shape with⟨-,h0⟩|⟨g,c,e,hc⟩
  ·exact absurd (List.eq_nil_of_length_eq_zero (by omega)) bT
  ·exact⟨g,c,e⟩
 have hA:SG w g l.length cap l.toArray:=⟨by simpa using hS,by simp⟩
 have az:PR l.length<=6:=R9 (by omega)
 refine py (e:=[(0,_)]) func255 O ntmps255 O O$ Pf O$ Rv Ps O$ OU O$ OL O$ P8 O$ OK O$ qV ((PZ O U3 zdU (by omega)))$ P4 zbD O (z3v l.length (by omega) w) ?_
 rintro _ w ⟨rfl,rfl⟩
 refine P4 zb0 O (z80 g l.length cap hl (l.length+1) w l.toArray hA 0 l.length (PR l.length) (by omega) (by omega) (Nat.le_refl _) (by omega) (.inl O)) ?_
 rintro _ w1 ⟨rfl,d',kV,hP,hO,hk⟩
 refine OD$ Qv func255 O ?_
 have cG:=kV.size
 have jc:d'.toList.Perm l:=by
  have:=hP.2.2;rw[Array.toList_extract,Array.toList_extract] at this;have h1:(d'.toList.take l.length).Perm (l.take l.length):=by simpa using this
  rwa [List.take_of_length_le (by rw[Array.length_toList,cG];exact Nat.le_refl _),List.take_length] at h1
 refine⟨_,rfl,rfl,hk.OV (λk e=>by rw[e];rfl),d'.toList,jc,?_,?_⟩
 ·rw[List.pairwise_iff_getElem];intro i j hi hj gU;rw[Array.length_toList] at hi hj;have:=hO i j (Nat.zero_le _) gU (by omega);rw[getElem!_pos d' i (by omega),getElem!_pos d' j (by omega)] at this;simp only[QL,decide_eq_false_iff_not] at this;rw[Array.getElem_toList,Array.getElem_toList];omega
 ·have e:d'.toList.length=l.length:=by rw[Array.length_toList,cG]
  rw[e];exact kV.sl
structure NuI (w w1:World)(p:S6)(b5 n11:Nat)(L:List (Cd×Nat))(w':World):Prop where
 ex:∃F,z5r w' n11 L F/\∀k,F k->w1.heap.size<=k
 ext:Ext w w'
 b5:OR w' b5 (lpC p) 279
 siz:w1.heap.size<=w'.heap.size
theorem NuI.put {w w1 w2 w3:World}{p:S6}{b5 n11:Nat}{L L':List (Cd×Nat)}{F:Nat->Prop}(h:NuI w w1 p b5 n11 L w2)(hf:∀k,F k->w1.heap.size<=k)(ig:b5<w1.heap.size)(HY:w.heap.size<=w1.heap.size)
  (g:∃F',z5r w3 n11 L' F'/\Kp F w2 w3/\∀k,F' k->F k\/w2.heap.size<=k):NuI w w1 p b5 n11 L' w3:=by
 obtain⟨F',g1,g2,g3⟩:=g
 have hs:=h.siz
 refine⟨⟨F',g1,λk hk=>?_⟩,h.ext.An g2 (λk hk=>by have:=hf k hk;omega),g2.OC h.b5 (λe=>by have:=hf b5 e;omega),by have:=g2.size;omega⟩
 rcases g3 k hk with e| e
 ·exact hf k e
 ·omega
structure NuX (w w1 w2:World)(p:S6)(b5 n11:Nat)(X:Nat->Prop)(L:List (Cd×Nat))(w3:World):Prop where
 ex:∃F,z5r w3 n11 L F/\(∀k,F k->w1.heap.size<=k)/\∀k,F k->¬X k
 ext:Ext w w3
 b5:OR w3 b5 (lpC p) 279
 siz:w1.heap.size<=w3.heap.size
 kx:Kp (λk=>¬X k) w2 w3
theorem NuX.put {w w1 w2 w3 w4:World}{p:S6}{b5 n11:Nat}{X:Nat->Prop}{L L':List (Cd×Nat)}{F:Nat->Prop}(h:NuX w w1 w2 p b5 n11 X L w3)(hX:∀k,X k->k<w2.heap.size)(hf:∀k,F k->w1.heap.size<=k)(hx:∀k,F k->¬X k)(ig:b5<w1.heap.size)(HY:w.heap.size<=w1.heap.size)
  (g:∃F',z5r w4 n11 L' F'/\Kp F w3 w4/\∀k,F' k->F k\/w3.heap.size<=k):NuX w w1 w2 p b5 n11 X L' w4:=by
 obtain⟨F',g1,g2,g3⟩:=g
 have hs:=h.siz
 have hz:=h.kx.size
 refine⟨⟨F',g1,λk hk=>?_,λk hk gR=>?_⟩,h.ext.An g2 (λk hk=>by have:=hf k hk;omega),g2.OC h.b5 (λe=>by have:=hf b5 e;omega),by have:=g2.size;omega,h.kx.trans (g2.OV hx)⟩
 ·rcases g3 k hk with e| e
  ·exact hf k e
  ·omega
 ·rcases g3 k hk with e| e
  ·exact hx k e gR
  ·have:=hX k gR;omega
theorem Tc:∀(l:List Nat) (k:Nat),(Qp k l).length=l.length
 |[],_=>rfl
 |_::l,k=>by rw[Qp,List.length_cons,List.length_cons,Tc l]
theorem YB:∀(l:List Nat) (k n:Nat),Qp k (l++[n])=Qp k l++[(.gamma,n-min (k+l.length) 1)]
 |[],k,n=>rfl
 | m :: l, k, n => by
   rw[List.cons_append,Qp,YB l (k+1) n,Qp,List.cons_append,List.length_cons,show k+1+l.length=k+(l.length+1) by omega]
def z1A:∀{l:List Nat},(∀n∈l,1<=n)->l.length<=l.sum
 |[],_=>Nat.le_refl _
 | x :: l, h => by
   have h1:=h x List.mem_cons_self;have h2:=z1A (λn hn=>h n (List.mem_cons_of_mem x hn));rw[List.length_cons,List.sum_cons];omega
def Ty.z1f {rs:List Nat}{fs:List Bool}(h:Ty rs fs):rs.length<=fs.length+1:=by
 have e:=SW true rs
 rw[h.exp] at e
 cases rs with
 |nil=>simp
 | cons a tl =>
   have h1:=z1A (l:=tl) (λn hn=>h.pos n hn);rw[List.sum_cons] at e;rw[List.length_cons];omega
def Y3:∀l:List Nat,(PT 0 l).1=[]
 |[]=>by rw[PT]
 | x :: l => by
   rw[PT,if_neg (by omega)];exact Y3 (l.drop (PS x l))
 termination_by l=>l.length
 decreasing_by simp[List.length_drop];omega
def YA (l:List (Nat×Nat)):Option Nat:=l.getLast?.map λp=>p.1+p.2-1
theorem YC (x least:Nat):∀(l:List (Nat×Nat)) (e:Option Nat) (p:Nat×Nat),PM x least e (l++[p])=PM x least e l++PM x least (match l with|[]=>e|_=>YA l) [p]
 |[],e,p=>by cases e<;>rfl
 | q :: l, e, p => by
   rw[List.cons_append,RO,RO,YC x least l _ p]
   cases l with
   |nil=>rfl
   |cons q2 l=>rfl
theorem z27 (x least:Nat)(l:List (Nat×Nat))(p:Nat×Nat):PM x least none (l++[p])=PM x least none l++[(.gamma,Uv x (YA l) p.1),(.gamma,p.2-least)]:=by
 rw[YC]
 cases l with
 |nil=>rfl
 |cons q l=>rw[RO x least (match q::l with|[]=>none|_=>YA (q::l))];rfl
def zcJ {w:World}{b off n cap i:Nat}{R:List (Nat×Nat)}{q:Nat×Nat}(h:Rd w (.slice (some ⟨b,off,none⟩) n cap) 2 n (R.flatMap z2b))(hq:R[i]? =some q):∀j u,[I (q.1:Int),I (q.2:Int)][j]? =some u->w.cell? ⟨b,off+i*2+j,none⟩=some u:=by
 intro j u hj
 have hi:=(List.getElem?_eq_some_iff.1 hq).1
 rcases h.2 with⟨c,hc,h0⟩|⟨b',off',cap',e,hc⟩
 ·have:=h.1;rw[za1] at this;omega
 ·cases e
  have kW:(R.flatMap z2b)[i*2+j]? =some u:=by
   have kT:j<2:=(List.getElem?_eq_some_iff.1 hj).1
   have key:∀(R:List (Nat×Nat)) (i:Nat),R[i]? =some q->(R.flatMap z2b)[i*2+j]? =some u:=by
    intro R
    induction R with
    |nil=>intro i h;simp at h
    | cons a R ih =>
      intro i h;rw[List.flatMap_cons]
      cases i with
      | zero =>
        rw[List.getElem?_cons_zero] at h;cases h;rw[List.getElem?_append_left (by show _<2;omega),Nat.zero_mul,Nat.zero_add]
        exact hj
      | succ i =>
        rw[List.getElem?_append_right (by show 2<=_;omega),show(i+1)*2+j-(z2b a).length=i*2+j by show(i+1)*2+j-2=_;omega];exact ih i h
   exact key R i hq
  have:=hc (i*2+j) u kW;rw[show off+i*2+j=off+(i*2+j) by omega];exact this
def NuX.ex2 {w w1 w2 w3 w4:World}{p:S6}{b5 n11:Nat}{X:Nat->Prop}{L:List (Cd×Nat)}(h:NuX w w1 w2 p b5 n11 X L w3)(hx:Ext w3 w4):NuX w w1 w2 p b5 n11 X L w4:=by
 obtain⟨⟨F,h1,h2,h3⟩,h4,h5,h6,h7⟩:=h
 exact⟨⟨F,h1.ext hx,h2,h3⟩,h4.trans hx,hx.OC h5,by have:=hx.size;omega,h7.trans hx.kp⟩
def NuX.back {w w1 w2 w3 w4:World}{p:S6}{b5 n11:Nat}{X X':Nat->Prop}{L L':List (Cd×Nat)}(h:NuX w w1 w2 p b5 n11 X L w3)(h':NuX w w1 w3 p b5 n11 X' L' w4)(hX:∀k,X k->X' k):NuX w w1 w2 p b5 n11 X L' w4:=by
 obtain⟨⟨F,h1,h2,h3⟩,h4,h5,h6,h7⟩:=h'
 exact⟨⟨F,h1,h2,λk hk hx=>h3 k hk (hX k hx)⟩,h4,h5,h6,h.kx.trans (h7.OV λk hk hx=>hk (hX k hx))⟩
def NuX.again {w w1 w2 w3:World}{p:S6}{b5 n11:Nat}{X X':Nat->Prop}{L:List (Cd×Nat)}{F:Nat->Prop}(h:NuX w w1 w2 p b5 n11 X L w3)(hA:z5r w3 n11 L F)(hf:∀k,F k->w1.heap.size<=k)(hx:∀k,F k->¬X' k):NuX w w1 w3 p b5 n11 X' L w3:=
 ⟨⟨F,hA,hf,hx⟩,h.ext,h.b5,h.siz,Kp.refl _ _⟩
theorem Su (x least:Nat):∀(l:List (Nat×Nat)) (e:Option Nat),(PM x least e l).length=2*l.length
 |[],e=>by cases e<;>rfl
 |q::l,e=>by rw[RO,List.length_cons,List.length_cons,Su x least l,List.length_cons];omega
def Zy {least:Nat}:∀(R:List (Nat×Nat)) (lo i:Nat) (q:Nat×Nat),T3 least lo R->R[i]? =some q->1<=q.2/\least<=q.2/\(∀z,YA (R.take i)=some z->z+2<=q.1)/\(YA (R.take i)=none->lo<=q.1)
 |[],lo,i,q,h,hq=>by simp at hq
 | p :: R, lo, 0, q, h, hq => by
   rw[List.getElem?_cons_zero] at hq;cases hq
   exact⟨h.2.1,h.2.2.1,(λz hz=>by cases hz),λ_=>h.1⟩
 | p :: R, lo, i + 1, q, h, hq => by
   rw[List.getElem?_cons_succ] at hq;obtain⟨h1,h2,h3,h4⟩:=Zy R _ i q h.2.2.2 hq;have hp:1<=p.2:=h.2.1;refine⟨h1,h2,λz hz=>?_,λhz=>?_⟩
   ·rw[List.take_succ_cons] at hz
    cases hR:R.take i with
    | nil =>
      rw[hR] at hz;have e:p.1+p.2-1=z:=QU hz;have:=h4 (by rw[hR];rfl)
      omega
    | cons a l =>
      rw[hR] at hz;exact h3 z (by rw[hR];exact hz)
   ·rw[List.take_succ_cons] at hz;exfalso;unfold YA at hz;rw[Option.map_eq_none_iff,List.getLast?_eq_none_iff] at hz;cases hz
theorem z9D (l:List (Nat×Nat))(q:Nat×Nat):YA (l++[q])=some (q.1+q.2-1):=by simp[YA]
def zaG {least:Nat}{l:List Nat}{q:Nat×Nat}(hl:∀y∈l,y<65536)(hq:q∈(PT least l).1)(h1:1<=q.2):q.1+q.2<=65536:=by
 have h2:q.1+(q.2-1)∈QW (PT least l).1:=by
  unfold QW;exact List.mem_flatMap.2 ⟨q,hq,List.mem_map.2 ⟨q.2-1,List.mem_range.2 (by omega),rfl⟩⟩
 have:=hl _ ((TD least l).subset (List.mem_append_left _ h2))
 omega
def zcA (x:Nat):Option Nat->Nat->Nat
 |none,v=>zig ((v:Int)-x)
 |some u,v=>v-u-1
theorem SN (x k:Nat)(e:Option Nat)(v:Nat)(r:List Nat):PN x k e (v::r)=(.zeta k,zcA x e v)::PN x k (some v) r:=by
 cases e<;>rfl
theorem Z4 (x k:Nat):∀(l:List Nat) (e:Option Nat) (v:Nat),PN x k e (l++[v])=PN x k e l++PN x k (match l with|[]=>e|_=>l.getLast?) [v]
 |[],e,v=>by cases e<;>rfl
 | u :: l, e, v => by
   rw[List.cons_append,SN,SN,Z4 x k l _ v]
   cases l with
   |nil=>rfl
   |cons u2 l=>rfl
theorem XG (x k:Nat)(l:List Nat)(v:Nat):PN x k none (l++[v])=PN x k none l++[(.zeta k,zcA x l.getLast? v)]:=by
 rw[Z4]
 cases l with
 |nil=>rfl
 |cons u l=>rw[SN x k (match u::l with|[]=>none|_=>(u::l).getLast?)];cases (u::l).getLast?<;>rfl
theorem Tl (x k:Nat):∀(l:List Nat) (e:Option Nat),(PN x k e l).length=l.length
 |[],e=>by cases e<;>rfl
 |v::l,e=>by rw[SN,List.length_cons,Tl x k l,List.length_cons]
theorem PQ {α:Type}{l:List α}{i:Nat}{q:α}(h:l[i]? =some q):l.take (i+1)=l.take i++[q]:=by
 rw[List.take_succ,h];rfl
end Go.Proofs.YtgdkbagngobdlaaGreatDoor
