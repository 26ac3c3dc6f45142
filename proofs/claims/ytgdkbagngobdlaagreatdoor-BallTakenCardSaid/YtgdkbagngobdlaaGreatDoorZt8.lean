/- Merged by program. -/
import Derived.Test.YtgdkbagngobdlaaGreatDoorZt7
set_option linter.all false
set_option maxRecDepth 1000000
set_option maxHeartbeats 16000000
namespace Go.Proofs.YtgdkbagngobdlaaGreatDoor
open Go Go.RowKit
def WE (seed x:Nat):Nat:=
 let z:=(seed+(x+1)*11400714819323198485%18446744073709551616)%18446744073709551616
 let y:=(z^^^z / 1073741824)*13787848793156543929%18446744073709551616
 let u:=(y^^^y / 134217728)*10723151780598845931%18446744073709551616
 u^^^u / 2147483648
def zbw {a b:Nat}(ha:a<18446744073709551616)(hb:b<18446744073709551616):a^^^b<18446744073709551616:=
 Nat.xor_lt_two_pow (n:=64) ha hb
def zcD (seed x:Nat):WE seed x<18446744073709551616:=by
 have h:∀u,u<18446744073709551616->u^^^u / 2147483648<18446744073709551616:=λu hu=>zbw hu (Nat.lt_of_le_of_lt (Nat.div_le_self _ _) hu)
 exact h _ (Nat.mod_lt _ (by decide))
def atN (p h:Nat):Nat:=h / 2^(64-p)
def Wq (p h:Nat):Nat:=1+min (64-PR (h*2^p%18446744073709551616)) (64-p)
def z5F {p h:Nat}(hp:4<=p/\p<=16):1<=Wq p h/\Wq p h<=65-p:=by
 unfold Wq
 have:=Nat.min_le_right (64-PR (h*2^p%18446744073709551616)) (64-p)
 omega
def zaK {p h:Nat}(hp:p<=16)(hh:h<18446744073709551616):atN p h<2^p:=by
 unfold atN
 refine Nat.div_lt_of_lt_mul ?_
 rw[<-Nat.pow_add,show 64-p+p=64 by omega]
 exact hh
def addN (p:Nat)(s:OG)(h:Nat):OG:=s.set (atN p h) (UInt8.ofNat (max ((s.getD (atN p h) 0).toNat) (Wq p h)))
def Rb (a b:OG):OG:=List.zipWith (λx y=>if x.toNat<y.toNat then y else x) a b
def U6 (p:Nat)(s:OG):Prop:=s.length=2^p/\∀x∈s,x.toNat<=65-p
theorem U6.none {p:Nat}:U6 p (List.replicate (2^p) 0):=⟨List.length_replicate,λx hx=>by rw[(List.mem_replicate.1 hx).2];exact Nat.zero_le _⟩
theorem U6.add {p:Nat}{s:OG}(h:U6 p s)(hp:4<=p/\p<=16)(x:Nat):U6 p (addN p s x):=by
 unfold addN
 refine⟨by rw[List.length_set];exact h.1,λy hy=>?_⟩
 rcases List.mem_or_eq_of_mem_set hy with e| e
 ·exact h.2 y e
 ·rw[e];have h1:=(z5F (h:=x) hp).2
  have h2:(s.getD (atN p x) 0).toNat<=65-p:=by
   rw[List.getD_eq_getElem?_getD]
   cases e:s[atN p x]? with
   |none=>exact Nat.zero_le _
   |some y=>exact h.2 y (List.mem_of_getElem? e)
  have h3:max ((s.getD (atN p x) 0).toNat) (Wq p x)<=65-p:=Nat.max_le.2 ⟨h2,h1⟩;rw[UInt8.toNat_ofNat'];exact Nat.le_trans (Nat.mod_le _ _) h3
theorem XS (a b:OG):(Rb a b).length=min a.length b.length:=List.length_zipWith
def U6.union {p:Nat}{a b:OG}(ha:U6 p a)(hb:U6 p b):U6 p (Rb a b):=by
 refine⟨by rw[XS,ha.1,hb.1,Nat.min_self],λx hx=>?_⟩
 unfold Rb at hx
 obtain⟨i,hi,rfl⟩:=List.mem_iff_getElem.1 hx
 rw[List.getElem_zipWith]
 split
 ·exact hb.2 _ (List.getElem_mem _)
 ·exact ha.2 _ (List.getElem_mem _)
def ZP (s:OG):Nat:=(s.map λx=>2^(40-min 40 x.toNat)).sum
def mE (m:Nat):Nat:=7213*m*m*m / (10000*m+10790)
def zeV (m z:Nat):Nat:=((List.range (m-z)).map λi=>m*1048576 / (z+1+i)).sum
def Xx (s:OG):Nat:=if s.count 0=0\/5*s.length<2*(mE s.length*1099511627776 / ZP s) then mE s.length*1099511627776 / ZP s else zeV s.length (s.count 0) / 1048576
def z8z:∀s:OG,s.length<=ZP s/\ZP s<=s.length*1099511627776
 |[]=>⟨Nat.le_refl _,Nat.le_refl _⟩
 | x :: s => by
   have ih:=z8z s;have h1:1<=2^(40-min 40 x.toNat):=Nat.one_le_two_pow;have h2:2^(40-min 40 x.toNat)<=2^40:=Nat.pow_le_pow_right (by decide) (by omega);unfold ZP at*;rw[List.map_cons,List.sum_cons,List.length_cons];omega
def z57 (sum was now round:Nat):Nat:=if now<=was then sum else min (sum+min (now-was) 2147483647*4294967296 / round) 18446744073709551615
def z7R {sum was now round:Nat}(h:sum<18446744073709551616):z57 sum was now round<18446744073709551616:=by
 unfold z57
 split
 ·exact h
 ·have:=Nat.min_le_right (sum+min (now-was) 2147483647*4294967296 / round) 18446744073709551615;omega
structure Si where
 p:Nat
 rounds:Nat
 t:Nat
 done:Bool
 sk:List OG
 Qd:List Nat
def RS (g:List (List Nat))(sk:List OG)(v:Nat):OG:=(P5 g v).foldl (λs u=>Rb s (sk.getD u [])) (sk.getD v [])
def z3E (g:List (List Nat))(s:Si)(a:List OG×List Nat×Bool)(v:Nat):List OG×List Nat×Bool:=
 if RS g s.sk v=s.sk.getD v [] then(a.1++[RS g s.sk v],a.2.1,a.2.2) else(a.1++[RS g s.sk v],a.2.1.set v (z57 (a.2.1.getD v 0) (Xx (s.sk.getD v [])) (Xx (RS g s.sk v)) (s.t+1)),true)
def VO (g:List (List Nat))(s:Si):List OG×List Nat×Bool:=(List.range g.length).foldl (z3E g s) ([],s.Qd,false)
def Si.step (g:List (List Nat))(s:Si):Si:=⟨s.p,s.rounds,s.t+1,!(VO g s).2.2 ||decide (s.t+1=s.rounds),(VO g s).1,(VO g s).2.1⟩
def Si.new (g:List (List Nat))(p rounds seed:Nat):Si:=⟨p,rounds,0,false,(List.range g.length).map λv=>addN p (List.replicate (2^p) 0) (WE seed v),List.replicate g.length 0⟩
structure Zc (g:List (List Nat))(s:Si):Prop where
 p4:4<=s.p
 p16:s.p<=16
 r1:1<=s.rounds
 r2:s.rounds<=1000
 t:s.t<=100000
 n:s.sk.length=g.length
 sn:s.Qd.length=g.length
 ok:∀x∈s.sk,U6 s.p x
 lt:∀x∈s.Qd,x<18446744073709551616
theorem Zc.sk {g:List (List Nat)}{s:Si}(h:Zc g s){v:Nat}(hv:v<g.length):∃x,s.sk[v]? =some x/\s.sk.getD v []=x/\U6 s.p x:=by
 have hv':v<s.sk.length:=by rw[h.n];exact hv
 exact⟨_,List.getElem?_eq_getElem hv',by rw[List.getD_eq_getElem?_getD,List.getElem?_eq_getElem hv'];rfl,h.ok _ (List.getElem_mem hv')⟩
def z4g {g:List (List Nat)}{s:Si}(h:Zc g s)(hg:Se g){v:Nat}(hv:v<g.length):U6 s.p (RS g s.sk v):=by
 have key:∀(l:List Nat),(∀u∈l,u<g.length)->∀x,U6 s.p x->U6 s.p (l.foldl (λs' u=>Rb s' (s.sk.getD u [])) x):=by
  intro l
  induction l with
  |nil=>intro _ x hx;exact hx
  | cons u l ih =>
    intro hl x hx;obtain⟨y,-,e,hy⟩:=h.sk (hl u List.mem_cons_self);refine ih (λa ha=>hl a (List.mem_cons_of_mem _ ha)) _ ?_;show U6 s.p (Rb x (s.sk.getD u []));rw[e];exact hx.union hy
 obtain⟨x,-,e,hx⟩:=h.sk hv
 refine key _ (λu hu=>SY hg v u hu) _ ?_
 rw[e];exact hx
structure SwB (g:List (List Nat))(s:Si)(k:Nat)(a:List OG×List Nat×Bool):Prop where
 eq:a=(List.range k).foldl (z3E g s) ([],s.Qd,false)
 sk:a.1=(List.range k).map (RS g s.sk)
 sn:a.2.1.length=g.length
 lt:∀x∈a.2.1,x<18446744073709551616
theorem SwB.zero {g:List (List Nat)}{s:Si}(h:Zc g s):SwB g s 0 ([],s.Qd,false):=⟨rfl,rfl,h.sn,h.lt⟩
def SwB.next {g:List (List Nat)}{s:Si}{k:Nat}{a:List OG×List Nat×Bool}(h:SwB g s k a):SwB g s (k+1) (z3E g s a k):=by
 refine⟨by rw[List.range_succ,List.foldl_append,<-h.eq];rfl,?_,?_,?_⟩
 ·rw[List.range_succ,List.map_append,<-h.sk];unfold z3E;split<;>rfl
 ·unfold z3E;split
  ·exact h.sn
  ·show(a.2.1.set k _).length=_;rw[List.length_set];exact h.sn
 ·unfold z3E;split
  ·exact h.lt
  ·intro x hx;rcases List.mem_or_eq_of_mem_set hx with e| e
   ·exact h.lt x e
   ·rw[e];refine z7R ?_;rw[List.getD_eq_getElem?_getD]
    cases e:a.2.1[k]? with
    |none=>decide
    |some y=>exact h.lt y (List.mem_of_getElem? e)
theorem SwB.all {g:List (List Nat)}{s:Si}(h:Zc g s):∀k,SwB g s k ((List.range k).foldl (z3E g s) ([],s.Qd,false))
 |0=> .zero h
 | k + 1 => by
   have:=(SwB.all h k).next;rw[List.range_succ,List.foldl_append];exact this
theorem Zc.step {g:List (List Nat)}{s:Si}(h:Zc g s)(hg:Se g)(hd:s.t<100000):Zc g (s.step g):=by
 have hs:=SwB.all h g.length
 refine⟨h.p4,h.p16,h.r1,h.r2,hd,?_,hs.sn,λx hx=>?_,hs.lt⟩
 ·show(VO g s).1.length=_;unfold VO;rw[hs.sk,List.length_map,List.length_range]
 ·have hx:x∈(VO g s).1:=hx;unfold VO at hx;rw[hs.sk] at hx;obtain⟨v,hv,rfl⟩:=List.mem_map.1 hx;exact z4g h hg (List.mem_range.1 hv)
structure BlJ (g:List (List Nat))(s:Si):Prop where
 i:Zc g s
 le:s.t<=s.rounds
 lt:s.done=false->s.t<s.rounds
theorem BlJ.step {g:List (List Nat)}{s:Si}(h:BlJ g s)(hg:Se g)(hd:s.done=false):BlJ g (s.step g):=by
 have h1:=h.lt hd
 have h2:=h.i.r2
 refine⟨h.i.step hg (by omega),h1,λe=>?_⟩
 have e:(!(VO g s).2.2 ||decide (s.t+1=s.rounds))=false:=e
 rw[Bool.or_eq_false_iff] at e
 have e2:=of_decide_eq_false e.2
 show s.t+1<s.rounds
 omega
def Zc.new (g:List (List Nat)){p rounds seed:Nat}(hp:4<=p/\p<=16)(hr:1<=rounds/\rounds<=1000):Zc g (Si.new g p rounds seed):=
 ⟨hp.1,hp.2,hr.1,hr.2,Nat.zero_le _,by show((List.range g.length).map _).length=_;simp,List.length_replicate,λx hx=>by
  obtain⟨v,-,rfl⟩:=List.mem_map.1 hx
  exact U6.none.add hp _,λx hx=>by rw[(List.mem_replicate.1 hx).2];decide⟩
def BlJ.new (g:List (List Nat)){p rounds seed:Nat}(hp:4<=p/\p<=16)(hr:1<=rounds/\rounds<=1000):BlJ g (Si.new g p rounds seed):=⟨.new g hp hr,Nat.zero_le _,λ_=>hr.1⟩
def z22 {width:Nat}:∀(n:Nat) {s:OG},s.length=n*width->UM width (RF width n s)=s
 | 0, s, h => by
   rw[Nat.zero_mul] at h
   rw[List.eq_nil_of_length_eq_zero h];rfl
 | n + 1, s, h => by
   rw[Nat.add_mul,Nat.one_mul] at h;have ih:=z22 (width:=width) n (s:=s.drop width) (by rw[List.length_drop];omega);unfold UM RF at*;rw[List.range_succ_eq_map,List.map_cons,List.flatMap_cons,List.map_map,Nat.zero_mul,List.drop_zero];have hl:(s.take width).length=width:=by rw[List.length_take];omega
   have hb:=z0u (s.take width);rw[hl] at hb;rw[hb]
   have e:((λi=>Pv (P3 ((s.drop (i*width)).take width))) ∘ Nat.succ)=λi=>Pv (P3 (((s.drop width).drop (i*width)).take width)):=by
    funext i
    show Pv (P3 ((s.drop ((i+1)*width)).take width))=_;rw[List.drop_drop,Nat.add_mul,Nat.one_mul,Nat.add_comm (i*width)]
   rw[e,ih,List.take_append_drop]
def UW (m:Nat)(sk:List OG):List Nat:=sk.flatMap (RF 8 m)
theorem Ry (m:Nat):∀sk:List OG,(UW m sk).length=sk.length*m
 |[]=>by simp[UW]
 | s :: sk => by
   have:=Ry m sk;unfold UW at*;rw[List.flatMap_cons,List.length_append,Qn,this,List.length_cons,Nat.add_mul];omega
theorem z3M {m:Nat}:∀{sk:List OG} {v i:Nat} {s:OG},sk[v]? =some s->i<m->(UW m sk)[v*m+i]? =some (Pv (P3 ((s.drop (i*8)).take 8)))
 |[],v,i,s,h,_=>by simp at h
 | x :: sk, 0, i, s, h, hi => by
   cases h;unfold UW;rw[List.flatMap_cons,Nat.zero_mul,Nat.zero_add,List.getElem?_append_left (by rw[Qn];exact hi)];unfold RF
   rw[List.getElem?_map,List.getElem?_range hi];rfl
 | x :: sk, v + 1, i, s, h, hi => by
   have ih:=z3M (m:=m) (sk:=sk) (v:=v) (i:=i) (s:=s) h hi;unfold UW at*;rw[List.flatMap_cons,List.getElem?_append_right (by rw[Qn,Nat.add_mul];omega),Qn,show(v+1)*m+i-m=v*m+i by rw[Nat.add_mul];omega];exact ih
def z4V {m:Nat}:∀{sk:List OG},(∀s∈sk,s.length=m*8)->UM 8 (UW m sk)=sk.flatten
 |[],_=>rfl
 | s :: sk, h => by
   have ih:=z4V (m:=m) (sk:=sk) λx hx=>h x (List.mem_cons_of_mem _ hx);have h1:=z22 (width:=8) m (h s List.mem_cons_self);unfold UW UM at*;rw[List.flatMap_cons,List.flatMap_append,ih,h1,List.flatten_cons]
theorem z6L (m:Nat)(a b:List OG):UW m (a++b)=UW m a++UW m b:=List.flatMap_append
def z0m (m:Nat)(ys:List Nat)(v:Nat)(s:OG):List Nat:=ys.take (v*m)++RF 8 m s++ys.drop (v*m+m)
def z5m {m:Nat}{ys:List Nat}{v:Nat}{s:OG}(h:v*m+m<=ys.length):(z0m m ys v s).length=ys.length:=by
 unfold z0m
 rw[List.length_append,List.length_append,List.length_take,Qn,List.length_drop]
 omega
def zbM {m n:Nat}{a:List OG}{ys:List Nat}{s:OG}(hl:ys.length=n*m)(ha:a.length<n):z0m m (UW m a++ys.drop (a.length*m)) a.length s=UW m (a++[s])++ys.drop ((a.length+1)*m):=by
 unfold z0m
 have h1:=Ry m a
 rw[List.take_left' h1,z6L,List.drop_append,List.drop_of_length_le (by rw[h1];omega),List.nil_append,h1,List.drop_drop]
 unfold UW
 rw[List.flatMap_cons,List.flatMap_nil,List.append_nil,show a.length*m+m-a.length*m=m by omega,show a.length*m+m=(a.length+1)*m by rw[Nat.add_mul,Nat.one_mul]]
def Ug (n m:Nat)(t:OG):List OG:=(List.range n).map λv=>(t.drop (v*m)).take m
def zb8 {n m:Nat}{t:OG}(h:t.length=n*(m*8)):RF 8 (n*m) t=UW m (Ug n (m*8) t):=by
 refine List.ext_getElem? λk=>?_
 by_cases hk:k<n*m
 ·have hm:0<m:=Nat.pos_of_ne_zero λe=>by rw[e] at hk;omega
  obtain⟨v,i,hi,e⟩:∃v i,i<m/\k=v*m+i:=⟨k / m,k%m,Nat.mod_lt _ hm,by rw[Nat.mul_comm];exact(Nat.div_add_mod k m).symm⟩
  have hv:v<n:=by
   rcases Nat.lt_or_ge v n with h| h
   ·exact h
   ·have:=Nat.mul_le_mul_right m h;omega
  have h1:(Ug n (m*8) t)[v]? =some ((t.drop (v*(m*8))).take (m*8)):=by
   unfold Ug;rw[List.getElem?_map,List.getElem?_range hv];rfl
  rw[e,z3M h1 hi];unfold RF;rw[List.getElem?_map,List.getElem?_range (by omega)];show some (Pv (P3 ((t.drop ((v*m+i)*8)).take 8)))=_;rw[List.drop_take,List.take_take,List.drop_drop,Nat.min_eq_left (by omega),show v*(m*8)+i*8=(v*m+i)*8 by rw[Nat.add_mul,Nat.mul_assoc]]
 ·rw[List.getElem?_eq_none (by rw[Qn];omega),List.getElem?_eq_none (by rw[Ry];unfold Ug;simp;omega)]
open Go.Proofs.Tryz
section
variable {P:Program}{e:Env}{d:Option Nat}{ty t t':TypeId}{pos:String}{aft:Array Edge}{g:Option (Nat×Bool)}{x y:Operand}{w:World}{za zb:Int}{m n:Nat}
def Vg [ha:SS za m][hb:SS zb n](hx:look e x=some (.int .u64 za))(hy:look e y=some (.int .u64 zb)):Y P e ⟨d,.binOp .mul t x y t',ty,pos,aft,g⟩ (.int .u64 (((m*n)%18446744073709551616:Nat):Int)) w w:=fun ρ hρ=>by
 obtain⟨rfl⟩:=ha
 obtain⟨rfl⟩:=hb
 have:IntKind.wrap .u64 ((m:Int)*n)=(((m*n)%18446744073709551616:Nat):Int):=by simp[IntKind.wrap,IntKind.signed,IntKind.bits]
 simp[execOp,go_sem,hρ _ _ hx,hρ _ _ hy,this]
def zkp {k:IntKind}(hx:look e x=some (.int k za))(hy:look e y=some (.int k zb)){ts:Array TypeId}:Y P e ⟨d,.call ⟨.builtin .min,#[x,y],ts⟩,ty,pos,aft,g⟩ (.int k (min za zb)) w w:=fun ρ hρ=>by
 have:(if zb<za then zb else za)=min za zb:=by omega
 simp[go_sem,hρ _ _ hx,hρ _ _ hy,Builtin.min_,Builtin.min2,this]
def zkr {k:IntKind}(hx:look e x=some (.int k za))(hy:look e y=some (.int k zb)){ts:Array TypeId}:Y P e ⟨d,.call ⟨.builtin .max,#[x,y],ts⟩,ty,pos,aft,g⟩ (.int k (max za zb)) w w:=fun ρ hρ=>by
 have:(if za<zb then zb else za)=max za zb:=by omega
 simp[go_sem,hρ _ _ hx,hρ _ _ hy,Builtin.max_,Builtin.max2,this]
end
theorem zcH {seed x a b c:Nat}(h1:(seed+(x+1)*11400714819323198485%18446744073709551616)%18446744073709551616=a)(h2:(a^^^a / 1073741824)*13787848793156543929%18446744073709551616=b)(h3:(b^^^b / 134217728)*10723151780598845931%18446744073709551616=c):WE seed x=c^^^c / 2147483648:=by
 subst h1;subst h2;subst h3;rfl
def zca (seed x:Nat)(hs:seed<18446744073709551616)(hx:x<4294967296)(w:World):Pm prog 78 [u64v seed,u64v x] w λv w'=>v=u64v (WE seed x)/\w'=w:=by
 refine py (e:=[(0,_),(1,_)]) func78 O ntmps78 O O$ qN O$ Qw O$ P8 O$ qV (RQ O O) ?_
 rw[Nat.mod_eq_of_lt (show x+1<18446744073709551616 by omega)]
 refine qV (Vg O O) ?_
 generalize mj:(x+1)*11400714819323198485%18446744073709551616=m1
 refine qV (RQ O O) ?_
 generalize fT:(seed+m1)%18446744073709551616=a
 have ha:a<18446744073709551616:=by rw[<-fT];exact Nat.mod_lt _ (by decide)
 rw[<-mj] at fT
 clear mj
 refine Qw O$ P8 O$ qV (Sc 30 1073741824 O O (by decide) O)$ qV (WC O O (by omega) (by omega))$ qV (Vg O O) ?_
 generalize fF:(a^^^a / 1073741824)*13787848793156543929%18446744073709551616=b
 have hb:b<18446744073709551616:=by rw[<-fF];exact Nat.mod_lt _ (by decide)
 refine Qw O$ P8 O$ qV (Sc 27 134217728 O O (by decide) O)$ qV (WC O O (by omega) (by omega))$ qV (Vg O O) ?_
 generalize B0:(b^^^b / 134217728)*10723151780598845931%18446744073709551616=c
 have hc:c<18446744073709551616:=by rw[<-B0];exact Nat.mod_lt _ (by decide)
 refine Qw O$ P8 O$ qV (Sc 31 2147483648 O O (by decide) O)$ qV (WC O O (by omega) (by omega))$ OU O$ OB func78 O ?_
 rw[zcH fT fF B0]
 exact⟨_,rfl,rfl,rfl⟩
def z9V (p:Nat)(hp:4<=p/\p<=16)(w:World):Pm prog 76 [I (p:Int)] w λv w'=>v= .tuple #[S (List.replicate (2^p) 0),I 0]/\Ext w w':=by
 have hN:2^p<=2^16:=Nat.pow_le_pow_right (by decide) hp.2
 refine py (e:=[(0,_)]) func76 O ntmps76 O O$ qN O$ PU O$ PG O$ Qq O$ PF$ P8 O$ Qu O$ PF$ PK O$ PW O$ Pf O ?_
 generalize hq:2^p=N at hN⊢
 refine qV (ysl p N O O (by omega) hq (by omega)) ?_
 rw[Nat.one_mul]
 have uw:=λw=>Xc [0] N (by decide) (by omega) w
 rw[show(List.replicate N ([0]:OG)).flatten=List.replicate N 0 by
  clear hq hN uw
  induction N with
  |zero=>rfl
  |succ N ih=>rw[List.replicate_succ,List.flatten_cons,ih];rfl] at uw
 refine Qz O O (yc (args:=[.const (Value.string (⟨#[0]⟩)),.tmp 11]) z8r O) (uw _) ?_
 rintro _ w1 ⟨rfl,ad⟩
 refine PU O$ OB func76 O ?_
 exact⟨_,rfl,rfl,ad⟩
def Xp {p:Nat}{s:OG}(h:U6 p s)(hp:4<=p/\p<=16)(w:World):Pm prog 119 [S s] w λv w'=>v= .tuple #[I (p:Int),I 0]/\w'=w:=by
 have hN:2^p<=2^16:=Nat.pow_le_pow_right (by decide) hp.2
 have hl:=h.1
 have rH:PR s.length=p+1:=by
  rw[hl];exact z3j (Nat.le_refl _) (by rw[Nat.pow_succ];have:0<2^p:=Nat.pow_pos (by decide);omega)
 generalize hq:2^p=N at hN hl
 refine py (e:=[(0,_)]) func119 O ntmps119 O O$ qN O$ RT O$ Qt O$ qV (SV U9 O)$ qV ((PZ O U3 zdU (by omega)))$ P4 zbD O (z3v s.length (by omega) w) ?_
 rintro _ w ⟨rfl,rfl⟩
 rw[rH]
 refine Ro O ?_
 rw[show((p+1:Nat):Int)-1=(p:Int) by omega]
 refine OU O$ PG O$ Qq O$ PF$ P8 O$ Qu O$ PF$ PK O$ P8 O$ qV (SV U9 O)$ OK O$ qV (ysl p N O O (by omega) hq (by omega))$ Qf O$ PF ?_
 refine PK O$ PW O$ PG O$ qV (SV U9 O)$ OK O$ OD$ Pn.qb (e:=[(0,_),(2,_),(3,_),(4,_),(25,_),(26,_)]) ?_
 refine OH$ Rq (α:=Nat) (0) (λi=>[(0,S s),(4,I (p:Int)),(25,I (s.length:Int)),(26,I (i:Int))]) (λi w'=>w'=w/\i<=s.length) (λi=>s.length-i) ?hI ?hround
 case hI=>exact⟨rfl,Nat.zero_le _⟩
 case hround=>
  rintro i w4 ⟨rfl,hi⟩ ih
  try dsimp only
  refine qN O$ Qq O$ OD$ It$ OQ O (λh0=>?_)$ λh0=>?_
  ·have bQ:i<s.length:=by omega
   have hx:(s.getD i 0).toNat<=65-p:=by
    rw[List.getD_eq_getElem?_getD,List.getElem?_eq_getElem bQ];exact h.2 _ (List.getElem_mem bQ)
   refine OE$ Qx$ Pf O$ Qw O$ P8 O$ qV (z0n U9 O O bQ) ?_
   generalize (s.getD i 0)=c at hx
   refine qV ((z2f O U5 U3 (by decide)))$ OK O$ Ro O$ Qu O$ PF$ PW O$ OA$ OL O$ PV O$ OK O$ OD ?_;exact(ih (i+1) _ ⟨rfl,by omega⟩ (by omega)).qb
  ·refine ON O$ Pf O$ PU O$ OB func119 O ?_;exact⟨_,rfl,rfl,rfl⟩
def z9N {p h:Nat}{s:OG}(hc:Wq p h<=(s.getD (atN p h) 0).toNat):addN p s h=s:=by
 unfold addN
 rw[Nat.max_eq_left hc,UInt8.ofNat_toNat]
 refine List.ext_getElem? λj=>?_
 by_cases e:atN p h=j
 ·subst e;by_cases hl:atN p h<s.length
  ·rw[List.getElem?_set_self hl,List.getD_eq_getElem?_getD,List.getElem?_eq_getElem hl];rfl
  ·rw[List.getElem?_eq_none (by rw[List.length_set];omega),List.getElem?_eq_none (by omega)]
 ·rw[List.getElem?_set_ne e]
def z96 {p h:Nat}{s:OG}(hc:¬Wq p h<=(s.getD (atN p h) 0).toNat)(hl:atN p h<s.length):addN p s h=s.take (atN p h)++[UInt8.ofNat (Wq p h)]++s.drop (atN p h+1):=by
 unfold addN
 rw[Nat.max_eq_right (by omega),List.set_eq_take_append_cons_drop,if_pos hl,List.append_assoc];rfl
def za3 {p:Nat}{s:OG}(h:U6 p s)(hp:4<=p/\p<=16){x:Nat}(hx:x<18446744073709551616)(w:World):Pm prog 77 [S s,u64v x] w λv w'=>v= .tuple #[S (addN p s x),I 0]/\Ext w w':=by
 have hN:2^p<=2^16:=Nat.pow_le_pow_right (by decide) hp.2
 have hl:=h.1
 have rG:atN p x<s.length:=by rw[hl];exact zaK hp.2 hx
 have Mm:atN p x<2^p:=zaK hp.2 hx
 have Mn:=z5F (h:=x) hp
 have qs:=z60 (x*2^p%18446744073709551616) (Nat.mod_lt _ (by decide)) w
 refine py (e:=[(0,_),(1,_)]) func77 O ntmps77 O O$ qN O$ RT O$ Qt O$ P4 z88 O (Xp h hp w) ?_
 rintro _ w ⟨rfl,rfl⟩
 refine OK O$ RA O$ PU O$ PG O$ Qf O$ PW O$ Qm O$ Ro O ?_
 rw[show(64:Int)-(p:Int)=((64-p:Nat):Int) by omega]
 refine qV (Sc (64-p) (2^(64-p)) O O (by show 64-p<=64;omega) O) ?_
 rw[show x / 2^(64-p)=atN p x from rfl]
 generalize BC:atN p x=a at rG Mm
 refine qV (PJ O Rr U3 (by omega))$ Qw O$ P8 O$ qV (QP p (2^p) O O (by omega) O)$ P4 zbv O (qs) ?_
 rintro _ w ⟨rfl,rfl⟩
 refine OK O$ Ro O$ qV (ymi O O)$ PV O ?_
 rw[show(1:Int)+min ((64-PR (x*2^p%18446744073709551616):Nat):Int) (64-(p:Int))=((Wq p x:Nat):Int) by unfold Wq;omega]
 generalize pP:Wq p x=r at Mn
 refine OU O$ Pn.qb (e:=[(0,_),(4,_),(5,_),(8,_),(9,_)]) ?_
 refine It$ Qm O$ qV (z0n U9 O O rG) ?_
 have cN:=(s.getD a 0).toNat_lt
 refine qV ((z2f O U5 U3 (by decide)))$ OK O ?_
 by_cases hc:r<=(s.getD a 0).toNat
 ·have cb:=z9N (p:=p) (h:=x) (s:=s) (by rw[BC,pP];exact hc);refine Te O$ Rp$ OD$ OS O$ Pf O$ PU O$ OB func77 O ?_;rw[cb];exact⟨_,rfl,rfl,Ext.refl _⟩
 ·have rY:=z96 (p:=p) (h:=x) (s:=s) (by rw[BC,pP];exact hc) (by rw[BC];exact rG);rw[BC,pP] at rY;have hg:=Ext.OT w;refine Te O$ PF$ PW O$ It$ R5 (λw'=>Ext w w') O$ OZ 0 O O (hg)$ OZ 1 O O (hg)$ OZ 3 O O (hg)$ OI 4 O (z2e O U3 U5) hg$ OZ 8 O O (hg)$ OZ 9 O O (hg)$ OI 10 O (Ud O O (by omega)) hg$ OI 2 O (YI (m:=a) U9 O O (by omega)) hg$ OI 11 O (Yv (m:=a+1) U9 O O (by omega)) hg ?_;refine qO 5$ RZ (i:=5) O O O (Wj (cs:=[_]) (zs:=[Value.int .u8 0]) Q5 VK O (by kernel_rfl) O O O (by decide)) ?_;rintro _ w1 ⟨b1,rfl,⟨bU,ad,aj⟩,-⟩;refine⟨hg.trans ad,?_⟩;have aG:=hg.trans ad
  have fi:OR w1 b1 (([UInt8.ofNat r]:OG).map S8) 5:=by
   have e:([UInt8.ofNat r]:OG).map S8=[Value.int .u8 ((r%256:Nat):Int)]:=by simp[S8]
   rw[e];exact aj
  refine qO 6$ zgA (i:=6) O O O (z3z (l:=[UInt8.ofNat r]) Q5 U5 U9 O fi O O) (aG) ?_;have kS:(s.take a).length=a:=by rw[List.length_take];omega
  refine OI 7 O (V7 O O (by rw[kS,List.length_singleton];omega)) aG ?_;refine OI 12 O (V7 O O (by rw[List.length_append,kS,List.length_singleton,List.length_drop];omega)) aG ?_;refine OI 13 O (R7 O) aG$ OI 14 O (R7 O) aG$ qE$ OB func77 O ?_;rw[rY];exact⟨_,rfl,rfl,aG⟩
theorem zbg (x y:UInt8):max ((x.toNat:Int)) ((y.toNat:Int))=((if x.toNat<y.toNat then y else x).toNat:Int):=by
 split<;>omega
def zdB {bo ob n:Nat}{cs:List Value}{w:World}(hV:OR w bo [.slice (some ⟨ob,0,none⟩) n n] 105)(hO:OR w ob cs 5)(hn:cs.length=n){i:Nat}(hi:i<n)(x y:UInt8):Pm prog 198 ([I (i:Int),S8 x,S8 y]++[ptr bo 0]) w λ_ w'=>OR w' ob (cs.set i (S8 (if x.toNat<y.toNat then y else x))) 5/\Kp (λb=>b=ob) w w':=by
 refine py (e:=[(0,_),(1,_),(2,_),(3,_)]) func198 O ntmps198 O O$ OL O$ qV (OO Q5 O O hV O)$ P8 O$ OK O$ qV (zkr O O)$ qV (PX Q5 VK O O (by omega)) ?_
 rw[zbg]
 refine OW O (QQ VK O O O hO (by simp;omega)) ?_
 rintro w1 ⟨BD,aL⟩
 rw[Nat.zero_add,Nat.mul_one] at BD
 refine OD$ Qv func198 O ?_
 exact⟨_,rfl,BD,aL⟩
def zcc {a b:OG}{bo ob:Nat}{w:World}(iV:a.length=b.length)(IQ:a.length<=1000000)(bT:bo≠ob)(hV:OR w bo [.slice (some ⟨ob,0,none⟩) a.length a.length] 105)(hO:OR w ob ((List.replicate a.length (0:UInt8)).map S8) 5):Pm prog 197 [S a,S b,.func (.func 198) #[] #[ptr bo 0]] w λ_ w'=>OR w' ob ((Rb a b).map S8) 5/\Kp (λj=>j=ob) w w':=by
 have mD:(Rb a b).length=a.length:=by rw[XS,<-iV,Nat.min_self]
 refine py (e:=[(0,_),(1,_),(2,_)]) func197 O ntmps197 O O$ Pf O$ qV (SV U9 O)$ OK O$ OD$ OH$ Rq (α:=Nat) (0) (λi=>[(0,S a),(1,S b),(2,.func (.func 198) #[] #[ptr bo 0]),(8,I (a.length:Int)),(9,I (i:Int))]) (λi w'=>i<=a.length/\OR w' ob (((Rb a b).take i++List.replicate (a.length-i) 0).map S8) 5/\Kp (λj=>j=ob) w w') (λi=>a.length-i) ?hI ?hround
 case hI=>exact⟨Nat.zero_le _,by simpa using hO,Kp.refl _ _⟩
 case hround=>
  rintro i w4 ⟨hi,A4,ao⟩ ih
  try dsimp only
  refine qN O$ Qq O$ OD$ It$ OQ O (λh0=>?_)$ λh0=>?_
  ·have bQ:i<a.length:=by omega
   have ag:=Ext.OT w4;refine OE$ Qx$ Pf O$ OU O$ R5 (λw'=>Kp (λj=>j=ob) w w') O$ OZ 0 O O (ao.trans ag.kp)$ OZ 1 O O (ao.trans ag.kp)$ OZ 2 O O (ao.trans ag.kp)$ OZ 3 O O (ao.trans ag.kp)$ OZ 5 O O (ao.trans ag.kp)$ OZ 6 O O (ao.trans ag.kp)$ OI 4 O (z0n U9 O O bQ) (ao.trans ag.kp)$ OI 7 O (z0n U9 O O (by omega)) (ao.trans ag.kp) ?_;have cN:(((Rb a b).take i++List.replicate (a.length-i) 0).map S8).length=a.length:=by rw[List.length_map,List.length_append,List.length_take,List.length_replicate];omega
   refine qO 8$ Wa (i:=8) O O O (RY zhZ O O) (zdB (ag.OC (ao.OC hV bT)) (ag.OC A4) cN bQ (a.getD i 0) (b.getD i 0)) ?_;rintro _ w5 ⟨IR,ak⟩;refine⟨(ao.trans ag.kp).trans ak,?_⟩;refine qE$ OA$ OL O$ PV O$ OK O$ OD ((ih (i+1) _ ⟨by omega,?_,(ao.trans ag.kp).trans ak⟩ (by omega)).qb)
   have e:((Rb a b).take i++List.replicate (a.length-i) 0).set i (if(a.getD i 0).toNat<(b.getD i 0).toNat then b.getD i 0 else a.getD i 0)=(Rb a b).take (i+1)++List.replicate (a.length-(i+1)) 0:=by
    rw[List.set_append,if_neg (by rw[List.length_take];omega),List.length_take,Nat.min_eq_left (by omega),Nat.sub_self,show a.length-i=(a.length-(i+1))+1 by omega,List.replicate_succ,List.set_cons_zero,List.take_add_one,List.getElem?_eq_getElem (by omega),List.append_assoc]
    congr 1
    show _=[_]++_;unfold Rb;rw[List.getElem_zipWith,List.getD_eq_getElem?_getD,List.getD_eq_getElem?_getD,List.getElem?_eq_getElem bQ,List.getElem?_eq_getElem (by omega)]
    rfl
   rw[<-List.map_set,e] at IR;exact IR
  ·have Ir:i=a.length:=by omega
   subst Ir;rw[Nat.sub_self,List.replicate_zero,List.append_nil,List.take_of_length_le (by omega)] at A4;refine ON O$ Qv func197 O ?_;exact⟨_,rfl,A4,ao⟩
def z5k {p:Nat}{a b:OG}(ha:U6 p a)(hb:U6 p b)(hp:4<=p/\p<=16)(w:World):Pm prog 161 [S a,S b] w λv w'=>v= .tuple #[S (Rb a b),I 0]/\Ext w w':=by
 have hN:2^p<=2^16:=Nat.pow_le_pow_right (by decide) hp.2
 have IQ:=ha.1
 have BU:=hb.1
 have mD:(Rb a b).length=a.length:=by rw[XS,IQ,BU,Nat.min_self]
 have eu:maxLen=9223372036854775807:=rfl
 refine py (e:=[(0,_),(1,_)]) func161 O ntmps161 O O$ qN O$ RT O$ Qt O$ P4 z88 O (Xp ha hp w) ?_
 rintro _ w ⟨rfl,rfl⟩
 refine OK O$ RA O$ RT O$ Qt O$ P4 z88 O (Xp hb hp w) ?_
 rintro _ w ⟨rfl,rfl⟩
 refine OK O$ RA O$ PU O$ Qx$ Pf O$ Qf O$ P8 O$ Qf O$ PK O$ OU O$ Pn.qb (e:=[(0,_),(1,_),(4,_),(5,_),(6,_),(8,_),(21,_)]) ?_
 refine OJ O$ Qm O$ Qf O$ PF$ OU O$ Tu O$ OA$ Pf O$ qV (SV U9 O)$ OM O O (pmk (c:=a.length) (n:=a.length) Q5 VK O O O (by omega) (by omega) (by omega)) ?_
 rintro _ w1 ⟨b1,rfl,⟨bU,ad,aj⟩,-⟩
 refine OM O O (RN (cs:=[_]) Wg O) ?_
 rintro _ w2 ⟨b2,rfl,cn,ae,am⟩
 refine OW O (QQ Wg O O O am (by simp)) ?_
 rintro w3 ⟨au,av⟩
 replace au:OR w3 b2 [.slice (some ⟨b1,0,none⟩) a.length a.length] 105:=au
 have l1:=aj.lt
 have z2:=ae.size
 have Mo:OR w3 b1 ((List.replicate a.length (0:UInt8)).map S8) 5:=by
  rw[List.map_replicate];exact av.OC (ae.OC aj) (by omega)
 refine qM O$ P8 O$ qV (ymf (first:=[]) (caps:=[.tmp 10]) O O)$ P4 ziJ O (zcc (by omega) (by omega) (by omega) au Mo) ?_
 rintro _ w4 ⟨A4,ao⟩
 have aK:=ao.OC au (by omega)
 refine qM O$ qV (OO Q5 O O aK O)$ qV (z3z (l:=Rb a b) Q5 U5 U9 O A4 (by rw[List.drop_zero];exact List.take_of_length_le (by rw[List.length_map];omega)) mD) ?_
 refine PU O$ OB func161 O ?_
 have z1:=ad.size
 exact⟨_,rfl,rfl,((ad.trans ae).An av λj e=>by omega).An ao λj e=>by omega⟩
theorem zdf (x:Nat)(hx:x<4294967296):x&&&4294967295=x:=by
 have:=Nat.and_two_pow_sub_one_eq_mod x 32
 rw[show(2:Nat)^32-1=4294967295 from rfl,show(2:Nat)^32=4294967296 from rfl,Nat.mod_eq_of_lt hx] at this
 exact this
def z9X (x:Nat)(hx:x<65536)(w:World):Pm prog 162 [u64v x,u64v 1099511627776] w λv w'=>v= .tuple #[u64v 0,u64v (x*1099511627776)]/\w'=w:=by
 refine py (e:=[(0,_),(1,_)]) func162 O ntmps162 O O$ qN O$ RT O$ Qt O$ qV (Tk O O (by omega) (by omega)) ?_
 rw[zdf x (by omega)]
 refine Qt O$ qV (Sc 32 4294967296 O O (by decide) O) ?_
 rw[show x / 4294967296=0 by omega]
 refine Qt O$ qV (Tk O O (by omega) (by omega)) ?_
 rw[show(1099511627776&&&4294967295:Nat)=0 by decide]
 refine Qt O$ qV (Sc 32 4294967296 O O (by decide) O) ?_
 rw[show(1099511627776 / 4294967296:Nat)=256 by decide]
 refine Qw O$ P8 O$ qV (Vg O O) ?_
 rw[show x*0%18446744073709551616=0 by omega]
 refine Qw O$ P8 O$ qV (Vg O O)$ OK O$ qV (Sc 32 4294967296 O O (by decide) O)$ qV (RQ O O) ?_
 rw[show(0*0%18446744073709551616+0 / 4294967296)%18446744073709551616=0 by decide]
 refine OU O$ Pn.qb (e:=[(0,_),(1,_),(4,_),(5,_),(6,_),(7,_),(9,_),(11,_)]) ?_
 refine Pf O$ qV (Tk O O (by omega) (by omega)) ?_
 rw[show(0&&&4294967295:Nat)=0 by decide]
 refine Qt O$ qV (Sc 32 4294967296 O O (by decide) O) ?_
 rw[show(0 / 4294967296:Nat)=0 by decide]
 refine Qw O$ P8 O$ OK O$ qV (Vg O O)$ qV (RQ O O) ?_
 rw[show(0+x*256%18446744073709551616)%18446744073709551616=x*256 by omega]
 refine Qw O$ P8 O$ qV (Vg O O)$ OK O$ qV (RQ O O)$ OK O$ qV (Sc 32 4294967296 O O (by decide) O)$ qV (RQ O O) ?_
 rw[show((0*256%18446744073709551616+0)%18446744073709551616+x*256 / 4294967296)%18446744073709551616=0 by omega]
 refine OU O$ Pn.qb (e:=[(0,_),(1,_),(4,_),(5,_)]) ?_
 refine Qm O$ qV (Vg O O) ?_
 rw[show x*1099511627776%18446744073709551616=x*1099511627776 by omega]
 refine OU O$ OB func162 O ?_
 exact⟨_,rfl,rfl,rfl⟩
def z9I (lo y:Nat)(hl:lo<18446744073709551616)(hy:0<y)(pX:y<18446744073709551616)(w:World):Pm prog 163 [u64v 0,u64v lo,u64v y] w λv w'=>v= .tuple #[u64v (lo / y),u64v (lo%y)]/\Ext w w':=by
 have hg:=Ext.OT w
 refine py (e:=[(0,_),(1,_),(2,_)]) func163 O ntmps163 O O$ qN O$ PU O$ PG O$ Ri O$ PF$ PW O$ It$ Qm O$ zle O$ PF$ PW O$ PG O$ Ri O ?_
 refine OD$ OS O$ It$ R5 (λw'=>Ext w w') O$ OZ 0 O O (hg)$ OZ 1 O O (hg)$ OI 2 O (z9F O O O (by simp only[IntKind.bits];omega) (by omega)) hg ?_
 refine OZ 3 O O (hg)$ OZ 4 O O (hg)$ OI 5 O (zkP O O (by omega)) hg$ OI 6 O (R7 O) hg$ OI 7 O (R7 O) hg$ qE$ OB func163 O ?_
 exact⟨_,rfl,rfl,hg⟩
def Tx (s:OG)(r:Nat):Nat:=s.countP λx=>decide (min 40 x.toNat=r)
def z2l (s:OG):List Value:=(List.range 41).map λr=>u64v (Tx s r)
theorem Vz (s:OG):(z2l s).length=41:=by simp[z2l]
theorem Vq (s:OG){r:Nat}(hr:r<41):(z2l s)[r]? =some (u64v (Tx s r)):=by
 unfold z2l
 rw[List.getElem?_map,List.getElem?_range hr];rfl
def z3u (s:OG)(r:Nat):Tx s r<=s.length:=List.countP_le_length
theorem zac (s:OG)(c:UInt8)(r:Nat):Tx (s++[c]) r=if min 40 c.toNat=r then Tx s r+1 else Tx s r:=by
 unfold Tx
 rw[List.countP_append,List.countP_singleton]
 by_cases h:min 40 c.toNat=r
 ·rw[if_pos h,if_pos (by simpa using h)]
 ·rw[if_neg h,if_neg (by simpa using h)];rfl
def zcl (s:OG)(c:UInt8):(z2l s).set (min 40 c.toNat) (u64v (Tx s (min 40 c.toNat)+1))=z2l (s++[c]):=by
 refine List.ext_getElem? λj=>?_
 by_cases hj:j<41
 ·rw[Vq _ hj,zac];by_cases e:min 40 c.toNat=j
  ·rw[if_pos e,e,List.getElem?_set_self (by rw[Vz];exact hj)]
  ·rw[if_neg e,List.getElem?_set_ne e,Vq _ hj]
 ·rw[List.getElem?_eq_none (by rw[List.length_set,Vz];omega),List.getElem?_eq_none (by rw[Vz];omega)]
def z9E (s:OG):Tx s 0=s.count 0:=by
 unfold Tx List.count
 refine List.countP_congr λx _=>?_
 simp only[decide_eq_true_eq,beq_iff_eq]
 constructor
 ·intro h;have:x.toNat=0:=by omega
  exact UInt8.toNat_inj.1 this
 ·intro h;rw[h];rfl
def Vo (s:OG)(k:Nat):Nat:=((List.range k).map λr=>Tx s r*2^(40-r)).sum
theorem TA (s:OG)(k:Nat):Vo s (k+1)=Vo s k+Tx s k*2^(40-k):=by
 unfold Vo
 rw[List.range_succ,List.map_append,List.sum_append];simp
theorem z2u:∀k,Vo [] k=0
 |0=>rfl
 |k+1=>by rw[TA,z2u k];simp[Tx]
theorem z1G (x:UInt8)(s:OG):∀k,Vo (x::s) k=Vo s k+if min 40 x.toNat<k then 2^(40-min 40 x.toNat) else 0
 |0=>by simp[Vo]
 | k + 1 => by
   rw[TA,TA,z1G x s k]
   have e:Tx (x::s) k=Tx s k+if min 40 x.toNat=k then 1 else 0:=by
    unfold Tx;rw[List.countP_cons];by_cases h:min 40 x.toNat=k
    ·rw[if_pos h,if_pos (by simpa using h)]
    ·rw[if_neg h,if_neg (by simpa using h)]
   rw[e];clear e;by_cases h:min 40 x.toNat=k
   ·rw[if_pos h,if_neg (by omega),if_pos (by omega),h,Nat.add_mul,Nat.one_mul];omega
   ·rw[if_neg h,Nat.add_zero];by_cases h2:min 40 x.toNat<k
    ·rw[if_pos h2,if_pos (by omega)];omega
    ·rw[if_neg h2,if_neg (by omega)];omega
theorem X7:∀s:OG,Vo s 41=ZP s
 |[]=>z2u 41
 | x :: s => by
   rw[z1G,X7 s,if_pos (by omega)];unfold ZP;rw[List.map_cons,List.sum_cons,Nat.add_comm]
def z4H (s:OG):∀k,k<=41->Vo s k<=Vo s 41:=λk hk=>by
 have:∀d,Vo s k<=Vo s (k+d):=λd=>by
  induction d with
  |zero=>exact Nat.le_refl _
  |succ d ih=>rw[<-Nat.add_assoc,TA];omega
 have:=this (41-k)
 rw[show k+(41-k)=41 by omega] at this
 exact this
def zeC {m:Nat}(hm:m<=256)(h1:1<=m):mE m<47273:=by
 unfold mE
 refine Nat.div_lt_of_lt_mul ?_
 have h2:m*m<=256*256:=Nat.mul_le_mul hm hm
 have h3:7213*(m*m)*m<=7213*65536*m:=Nat.mul_le_mul_right _ (by omega)
 rw[show 7213*m*m*m=7213*(m*m)*m by rw[Nat.mul_assoc 7213]]
 omega
def zfT {m:Nat}(hm:m<=256):7213*m*m*m<=121014059008:=by
 have h2:m*m<=256*256:=Nat.mul_le_mul hm hm
 have h3:m*m*m<=65536*256:=Nat.mul_le_mul h2 hm
 rw[show 7213*m*m*m=7213*(m*m*m) by simp only[Nat.mul_assoc]]
 omega
def zdG {m:Nat}(hm:m<=256):7213*m*m<=472711168:=by
 have h2:m*m<=256*256:=Nat.mul_le_mul hm hm
 rw[Nat.mul_assoc]
 omega
def XL (m z k:Nat):Nat:=((List.range k).map λi=>m*1048576 / (z+1+i)).sum
theorem z1k (m z k:Nat):XL m z (k+1)=XL m z k+m*1048576 / (z+1+k):=by
 unfold XL
 rw[List.range_succ,List.map_append,List.sum_append];simp
def z1B (m z:Nat):∀k,XL m z k<=k*(m*1048576)
 |0=>by simp[XL]
 | k + 1 => by
   have:=z1B m z k;have h2:=Nat.div_le_self (m*1048576) (z+1+k);rw[z1k,Nat.add_mul,Nat.one_mul];omega
def z7z {s:OG}{i:Nat}(hi:i<s.length):s.take (i+1)=s.take i++[s.getD i 0]:=by
 rw[List.take_add_one,List.getD_eq_getElem?_getD,List.getElem?_eq_getElem hi];rfl
def z2L {p:Nat}{s:OG}(h:U6 p s)(hp:4<=p/\p<=8)(w:World):Pm prog 123 [S s] w λv w'=>v= .tuple #[u64v (Xx s),I 0]/\Ext w w':=by
 have hN:2^p<=2^8:=Nat.pow_le_pow_right (by decide) hp.2
 have jp:2^4<=2^p:=Nat.pow_le_pow_right (by decide) hp.1
 have hl:=h.1
 have hm:s.length<=256/\16<=s.length:=by omega
 have gj:=z8z s
 have Mp:=zeC hm.1 (by omega)
 have Mq:=zfT hm.1
 have hz:=z9E s
 have rt:=z3u s 0
 refine py (e:=[(0,_)]) func123 O ntmps123 O O$ qN O$ PU O$ PG O$ P4 z88 O (Xp h ⟨hp.1,by omega⟩ w) ?_
 rintro _ w ⟨rfl,rfl⟩
 refine OK O$ RA O$ RT O$ Qt O$ Qf O$ PW O$ qN O$ OM O O (RN (cs:=z2l []) zf4 O) ?_
 rintro _ w1 ⟨b6,rfl,jQ,ad,aj⟩
 refine OD$ PG O$ qV (SV U9 O)$ OK O$ OD$ OH$ Rq (α:=Nat) (0) (λi=>[(0,S s),(6,ptr b6 0),(27,I (s.length:Int)),(28,I (i:Int))]) (λi w'=>i<=s.length/\OR w' b6 (z2l (s.take i)) 258/\Ext w w') (λi=>s.length-i) ?hI ?hround
 case hI=>exact⟨Nat.zero_le _,aj,ad⟩
 case hround =>
  rintro i w2 ⟨hi,am,ae⟩ ih
  try dsimp only
  refine qN O$ Qq O$ OD$ It$ OQ O (λh0=>?_)$ λh0=>?_
  ·have bQ:i<s.length:=by omega
   have dD:=z7z bQ;refine OE$ Qx$ Pf O$ OU O$ OL O$ P8 O$ qV (z0n U9 O O bQ) ?_
   generalize (s.getD i 0)=c at dD
   have hc:=c.toNat_lt;refine qV ((z2f O U5 U3 (by decide)))$ qV (ymi O O) ?_;rw[show min (40:Int) ((c.toNat:Int))=((min 40 c.toNat:Nat):Int) by omega]
   generalize hr:min 40 c.toNat=r
   have qw:r<41:=by omega
   have j7:=z3u (s.take i) r;have kQ:(s.take i).length<=i:=List.length_take_le ..;refine qV (yia z98 Tf O O (by omega))$ qV (Pr Rr O O (by rw[am.cell,Nat.zero_add,Nat.mul_one];exact Vq _ qw)) ?_;refine qV (RQ O O) ?_;rw[Nat.mod_eq_of_lt (show Tx (s.take i) r+1<18446744073709551616 by omega)];refine qV (yia z98 Tf O O (by omega))$ OW O (QQ Tf O O O am (by rw[Vz];omega)) ?_;rintro w3 ⟨au,av⟩;rw[Nat.zero_add,Nat.mul_one] at au;have eC:=zcl (s.take i) c;rw[hr,<-dD] at eC;rw[show(Value.int .u64 ((Tx (s.take i) r+1:Nat):Int))=u64v (Tx (s.take i) r+1) from rfl,eC] at au;refine OD$ OA$ OL O$ PV O$ OK O$ OD ?_;exact(ih (i+1) _ ⟨by omega,au,ae.An av λj e=>by omega⟩ (by omega)).qb
  ·have wG : i = s.length := by omega
   subst wG;rw[List.take_length] at am;refine ON O$ QB O$ It$ qN O$ qV (Pt (news:=z2l s) z98 O zf4 O (am.cells (n:=41) (by rw[List.drop_zero];exact List.take_of_length_le (by rw[Vz];exact Nat.le_refl _))) (Vz s)) ?_;refine OK O$ OD$ OH$ Rq (α:=Nat×Nat) ((0,0)) (λy=>[(0,S s),(6,ptr b6 0),(8,u64v y.2),(41,.agg (z2l s).toArray),(42,I (y.1:Int))]) (λy w'=>y.1<=41/\y.2=Vo s y.1/\w'=w2) (λy=>41-y.1) ?hI ?hround
   case hI=>exact⟨Nat.zero_le _,rfl,rfl⟩
   case hround =>
    rintro⟨r,q⟩ w3 ⟨hr,hq,rfl⟩ ih2;dsimp only at hr hq ih2⊢;have fG:=z4H s r hr;rw[X7] at fG
    try dsimp only
    refine qN O$ Qq O$ OD$ It$ OQ O (λh1=>?_)$ λh1=>?_
    ·have qw:r<41:=by omega
     have FP:=z4H s (r+1) (by omega);rw[X7,TA] at FP;have j7:=z3u s r;refine OE$ Qx$ Pf O$ qV (yxa z98 Tf Rr O O O qw (v:=u64v (Tx s r)) (by simpa using Vq s qw)) ?_;refine PU O$ OL O$ P8 O$ OK O$ Ro O ?_;rw[show(40:Int)-(r:Int)=((40-r:Nat):Int) by omega];refine qV (QP (40-r) (2^(40-r)) O O (by omega) O) ?_;rw[Nat.mod_eq_of_lt (show Tx s r*2^(40-r)<18446744073709551616 by omega)];refine qV (RQ O O) ?_;rw[Nat.mod_eq_of_lt (show q+Tx s r*2^(40-r)<18446744073709551616 by omega)];refine OU O$ OA$ OL O$ PV O$ OK O$ OD ?_;exact(ih2 (r+1,q+Tx s r*2^(40-r)) _ ⟨by show r+1<=41;omega,by show q+_=_;rw[TA,hq],rfl⟩ (by show 41-(r+1)<41-r;omega)).qb
    ·have Fj:r=41:=by omega
     subst Fj;rw[X7] at hq;subst hq;have IS:=zdG hm.1;have eR:Xx s=if Tx s 0=0\/5*s.length<2*(mE s.length*1099511627776 / ZP s) then mE s.length*1099511627776 / ZP s else XL s.length (Tx s 0) (s.length-Tx s 0) / 1048576:=by rw[hz];rfl
     refine ON O$ Pf O$ qV (SV U9 O)$ qV ((PZ O U3 Rr (by omega)))$ Qt O$ qV (Vg O O) ?_;rw[Nat.mod_eq_of_lt (show 7213*s.length<18446744073709551616 by omega)];refine OK O$ qV (Vg O O) ?_;rw[Nat.mod_eq_of_lt (show 7213*s.length*s.length<18446744073709551616 by omega)];refine OK O$ qV (Vg O O) ?_;rw[Nat.mod_eq_of_lt (show 7213*s.length*s.length*s.length<18446744073709551616 by omega)];refine OK O$ qV (Vg O O) ?_;rw[Nat.mod_eq_of_lt (show 10000*s.length<18446744073709551616 by omega)];refine qV (RQ O O) ?_;rw[Nat.mod_eq_of_lt (show 10000*s.length+10790<18446744073709551616 by omega)];refine qV (z9F O O O (by simp only[IntKind.bits];omega) (by omega)) ?_;rw[show 7213*s.length*s.length*s.length / (10000*s.length+10790)=mE s.length from rfl]
     generalize mE s.length=E at Mp eR
     refine P4 zhs O (z9X E (by omega) _) ?_;rintro _ w3 ⟨rfl,rfl⟩;refine OK O$ RA O$ PU O$ Pn.qb (e:=[(6,_),(8,_),(11,_),(12,_),(13,_)]) ?_;refine Qm O$ OK O$ P4 zhK O (z9I (E*1099511627776) (ZP s) (by omega) (by omega) (by omega) _) ?_;rintro _ w4 ⟨rfl,aD⟩;have vK:=Nat.div_le_self (E*1099511627776) (ZP s)
     generalize E*1099511627776 / ZP s=est at vK eR
     have aK:=aD.OC am;have bF:=ae.trans aD;refine OK O$ RA O$ PU O$ It$ qN O$ qV (yia z98 Tf O O (by omega))$ qV (Pr Rr O O (by rw[aK.cell];exact Vq _ (r:=0) (by decide))) ?_;by_cases zQ:Tx s 0=0
     ·rw[if_pos (.inl zQ)] at eR;refine Ri O$ Rp$ OK O$ QG$ QG$ qS$ QJ O$ OD$ OS O$ Pf O$ PU O$ Pn.qb (e:=[(2,_),(3,_),(6,_),(11,_)]) ?_;refine OB func123 O ?_;rw[eR];exact⟨_,rfl,rfl,bF⟩
     ·refine Ri O$ PF$ P8 O$ qV (Vg O O) ?_;rw[Nat.mod_eq_of_lt (show 2*est<18446744073709551616 by omega)];refine OK O$ qV (Vg O O) ?_;rw[Nat.mod_eq_of_lt (show 5*s.length<18446744073709551616 by omega)];by_cases hb:5*s.length<2*est
      ·rw[if_pos (.inr hb)] at eR;refine Qu O$ Rp$ PK O$ OD$ OS O$ Pf O$ PU O$ Pn.qb (e:=[(2,_),(3,_),(6,_),(11,_)]) ?_;refine OB func123 O ?_;rw[eR];exact⟨_,rfl,rfl,bF⟩
      ·rw[if_neg (λe=>e.elim zQ hb)] at eR;refine Qu O$ PF$ PK O$ PW O$ QB O$ Pn.qb (e:=[(6,_),(11,_),(16,_)]) ?_;refine It$ qN O$ qV (yia z98 Tf O O (by omega))$ qV (Pr Rr O O (by rw[aK.cell];exact Vq _ (r:=0) (by decide))) ?_
       generalize Tx s 0=z at hz rt zQ eR
       refine qV (RQ O O) ?_;rw[Nat.mod_eq_of_lt (show z+1<18446744073709551616 by omega)];refine OU O$ OH$ Rq (α:=Nat) (0) (λk=>[(11,u64v s.length),(16,u64v (XL s.length z k)),(17,u64v (z+1+k))]) (λk w'=>k<=s.length-z/\w'=w4) (λk=>s.length-z-k) ?hI ?hround
       case hI=>exact⟨Nat.zero_le _,rfl⟩
       case hround=>
        rintro k w5 ⟨hk,rfl⟩ ih3;have kQ:=z1B s.length z (k+1);have FQ:=z1k s.length z k;have Bv:(k+1)*(s.length*1048576)<=257*(256*1048576):=Nat.mul_le_mul (by omega) (by omega)
        try dsimp only
        refine It$ Qm O$ zle O$ OD$ OQ O (λh3=>?_)$ λh3=>?_
        ·have ey:k<s.length-z:=by omega
         refine OE$ Qx$ OL O$ P8 O$ qV (QP 20 1048576 O O (by decide) O)$ OK O ?_;rw[Nat.mod_eq_of_lt (show s.length*1048576<18446744073709551616 by omega)];refine qV (z9F O O O (by simp only[IntKind.bits];omega) (by omega)) ?_;refine qV (RQ O O) ?_;rw[Nat.mod_eq_of_lt (show XL s.length z k+s.length*1048576 / (z+1+k)<18446744073709551616 by omega),<-FQ];refine OU O$ OA$ Rh O$ qV (RQ O O) ?_;rw[Nat.mod_eq_of_lt (show z+1+k+1<18446744073709551616 by omega)];refine OU O ?_;exact(ih3 (k+1) _ ⟨by omega,rfl⟩ (by omega)).qb
        ·have ey:k=s.length-z:=by omega
         subst ey;refine ON O$ Pf O$ qV (Sc 20 1048576 O O (by decide) O)$ PU O$ OB func123 O ?_;rw[eR];exact⟨_,rfl,rfl,bF⟩
theorem OR.uniq {w:World}{b:Nat}{cs cs':List Value}{T T':TypeId}(h:OR w b cs T)(h':OR w b cs' T'):cs=cs':=by
 obtain⟨fz,h1,-⟩:=h
 obtain⟨fz',h2,-⟩:=h'
 rw[h1] at h2
 have:=QU h2
 injection this with e1 e2 e3
 have:=congrArg Array.toList e1
 simpa using this
def z9K {n:Nat}(cX:1<=n)(hn:n<=40){w:World}{ea:Option Addr}{ec:Nat}{es:List (Nat×Nat)}(oR:es.length<=9000000000000000000)(hE:EdR w ea es):Pm prog 29 [I (n:Int),.slice ea es.length ec] w λv w'=>∃g bg,v= .slice (some ⟨bg,0,none⟩) g.length g.length/\g.length=n/\Se g/\Zo w' bg w.heap.size g/\Ext w w':=by
 have eu:maxLen=9223372036854775807:=rfl
 refine py (e:=[(0,_),(1,_)]) func29 O ntmps29 O O$ qN O$ Qt O$ OM O O (pmk (c:=n) (n:=n) WR SO O O O (by omega) (by omega) (by omega)) ?_
 rintro _ w1 ⟨bg,rfl,⟨IF,ad,aj⟩,-⟩
 have kO:Zo w1 bg w.heap.size (List.replicate n []):=Zo.new aj
 refine OU O$ It$ QB O$ OH$ Rq (α:=Nat×List (List Nat)) ((0,List.replicate n [])) (λy=>[(0,I (n:Int)),(1,.slice ea es.length ec),(5,.slice (some ⟨bg,0,none⟩) n n),(6,I (y.1:Int))]) (λy w'=>y.1<=es.length/\y.2.length=n/\Se y.2/\Zo w' bg w.heap.size y.2/\Ext w w') (λy=>es.length-y.1) ?hI ?hround
 case hI=>exact⟨Nat.zero_le _,by simp,Se.empty (by omega),kO,ad⟩
 case hround =>
  rintro⟨i,g⟩ w2 ⟨hi,dI,ay,cO,ae⟩ ih;dsimp only at hi dI ay cO ae ih⊢
  try dsimp only
  refine It$ Qm O$ Rv U22 O$ Qq O$ OD$ OQ O (λhq=>?_)$ λhq=>?_
  ·have bQ : i < es.length := by omega
   obtain⟨e,he⟩:∃e,es[i]? =some e:=⟨_,List.getElem?_eq_getElem bQ⟩;obtain⟨e1,e2,eb,eo,rfl,dX,ev⟩:=(hE.ext ae) i e he;refine OE$ Qx$ It$ Qm O$ qV (PX U22 TY O O (by omega))$ OX Xn O$ qV (Pr Py O O dX)$ qV (PJ O Py U3 (by omega))$ OK O ?_;by_cases hf:e.1<n
   ·by_cases ht:e.2<n
    ·refine Te O$ PF$ P8 O$ OK O$ qV (PX U22 TY O O (by omega))$ OX VL O$ qV (Pr Py O O ev)$ qV (PJ O Py U3 (by omega))$ OK O$ Te O$ PF ?_;obtain⟨s,hs⟩:∃s,g[e.1]? =some s:=⟨_,List.getElem?_eq_getElem (by omega)⟩;obtain⟨a,c,fW,iz,dS,FS⟩:=cO.cell hs;have fG:s.length<=n:=by rw[<-dI];exact ay.len (List.mem_of_getElem? hs)
     refine PK O$ PW O$ Qm O$ OK O$ qV (PX U22 TY O O (by omega))$ OX Xn O$ qV (Pr Py O O dX)$ qV (PX WR SO O O (by omega))$ qV (Pr Ps O O fW)$ Qw O$ OU O$ Qx ?_;have ue:List.Pairwise (·<·) s:=(ay.ok s (List.mem_of_getElem? hs)).ZN
     have Mr:∀(k y:Nat),s[k]? =some y->∀z∈s.drop k,y<=z:=λk y hy z hz=>by
      have ku:k<s.length:=by
       rcases Nat.lt_or_ge k s.length with h| h
       ·exact h
       ·rw[List.getElem?_eq_none h] at hy;cases hy
      have h1:List.Pairwise (·<·) (s.drop k):=ue.sublist (List.drop_sublist _ _);rw[List.drop_eq_getElem_cons ku] at h1 hz;rw[List.getElem?_eq_getElem ku] at hy;cases hy;rcases List.mem_cons.1 hz with e| e
      ·omega
      ·exact Nat.le_of_lt ((List.pairwise_cons.1 h1).1 z e)
     refine RX (λe' w'=>∃k:Nat,e'=[(0,I (n:Int)),(1,.slice (some ⟨eb,eo,none⟩) es.length ec),(5,.slice (some ⟨bg,0,none⟩) n n),(6,I (i:Int)),(7,.slice a s.length c),(8,I (k:Int))]/\k<=s.length/\(∀y∈s.take k,y<e.2)/\(∀y,s[k]? =some y->e.2<=y)/\Ext w2 w') ?jB$ λjB=>?uB
     case jB =>
      rintro e' w3 ⟨k,rfl,hk,i7,iQ,ai⟩;have af:=Ext.OT w3;have uy:=dS.ext ai;have uz:=PH ai ev;refine It$ PI (λe' w'=>∃q,e'=[(0,I (n:Int)),(1,.slice (some ⟨eb,eo,none⟩) es.length ec),(5,.slice (some ⟨bg,0,none⟩) n n),(6,I (i:Int)),(7,.slice a s.length c),(8,I (k:Int)),(76,.bool q)]/\(q=true->∀y∈s.drop k,e.2<y)/\Ext w2 w') ?ep$ λep=>?iT
      case ep =>
       rintro e' w4 ⟨q,rfl,oY,aD⟩;have g7:=cO.ext aD;have mv:=dS.ext aD;have FT:=PH aD dX;have FU:=PH aD ev;have bF:=ae.trans aD;refine Qe O (λqx=>?_)$ λqx=>?_
       ·have ah:=Ext.OT w4;have aY:=ah.size;have In:w.heap.size<=w4.heap.size:=bF.size;have FW:=g7.lt
        have lE:((s.take k++[e.2])++s.drop k).length=s.length+1:=by
         rw[List.length_append,List.length_append,List.length_take,List.length_drop,List.length_singleton];omega
        have di:∀(l:List Nat),∀c∈l.map Pq,c.oneCell'=true:=λl c hc=>by obtain⟨z,-,rfl⟩:=List.mem_map.1 hc;rfl
        have jO:(s.take k).length=k:=by rw[List.length_take];omega
        have vB:(s.drop k).length=s.length-k:=List.length_drop ..;obtain⟨vs,lF,mJ,-⟩:=id g7.ex;refine P7 [23] (λw'=>Ext w4 w') (by kernel_rfl) O$ PL 0 O O (ah)$ PL 1 O O (ah)$ PL 2 O O (ah)$ P9 3 O (PX U22 TY O O (by omega)) ah$ P9 4 O (Pp Xn O) ah$ PL 7 O O (ah)$ PL 8 O O (ah)$ PL 11 O O (ah)$ PL 12 O O (ah)$ P9 13 O (PX U22 TY O O (by omega)) ah$ P9 14 O (Pp VL O) ah$ PL 18 O O (ah)$ PL 19 O O (ah) ?_;refine qL 5 O (λ_ h=>Pr Py O O (PH h FT)) ah$ P9 9 O (zaN Ps OP O O (by omega)) ah$ qL 15 O (λ_ h=>Pr Py O O (PH h FU)) ah$ P9 20 O (XR Ps OP O O hk iz) ah$ WH (i:=6) (j:=16) (by kernel_rfl) ?_ ?_
        ·refine Ql (i:=6) O O O (Wj (cs:=[]) (zs:=[]) Ps OP O (by kernel_rfl) O O O (by decide)) ?_;rintro v6 w6 ⟨b6,rfl,⟨jQ,aI,aQ⟩,ez⟩;refine⟨ah.trans aI,?_⟩;have A7:w4.heap.size<=b6:=by omega
         have lb6:=aQ.lt;have ah:=ah.trans aI
         try have bX:=bX.ext aI
         have aY:=Nat.le_trans aY aI.size;refine WH (i:=10) (j:=16) (by kernel_rfl) ?_ ?_
         ·refine Ql (i:=10) O O O (pap Ps OP O (by decide) O O ez ((Ts (i:=k) mv hk).ext ah) (λc hc=>di s c (List.mem_of_mem_take hc)) (by omega) (by omega)) ?_;rintro v10 w10 ⟨bz,ar,bc,-⟩;refine⟨ah.An ar (λj e=>by have e:b6=j:=QU e;omega),?_⟩;have ah:=ah.An ar (λj e=>by have e:b6=j:=QU e;omega)
          try have bX:=bX.kp ar (λj hj e=>by have e:b6=j:=QU e;have hj:b16=j:=QU hj;omega)
          have bc:∀j,v10.ownBlock=some j->w4.heap.size<=j:=λj hj=>by rcases bc j hj with e|e;(have e:b6=j:=QU e;omega);omega
          have aY:=Nat.le_trans aY ar.size;have o9:=λ(j:Nat) (hj:v10.ownBlock=some j)=>bz.lt hj;refine QY (i:=16) (by kernel_rfl)$ Ql (i:=16) O O O (Wj (cs:=[_]) (zs:=[Value.int .u32 0]) Ps OP O (by kernel_rfl) O O O (by decide)) ?_;rintro v16 w16 ⟨b16,rfl,⟨oa,aX,eS⟩,bX⟩;refine⟨ah.trans aX,?_⟩;have oc:w4.heap.size<=b16:=by omega
          have ah:=ah.trans aX
          try have ez:=ez.ext aX
          try have bz:=bz.ext aX
          have lb16:=eS.lt;have aY:=Nat.le_trans aY aX.size;refine QY (i:=17) (by kernel_rfl)$ Ql (i:=17) O O O (pap Ps OP O (by decide) O O bz bX.rd (λc hc=>di [e.2] c hc) (by omega) (by omega)) ?_;rintro v17 w17 ⟨eh,ci,bK,-⟩;refine⟨ah.An ci (λj e=>bc j e),?_⟩;have ah:=ah.An ci (λj e=>bc j e);have bK:∀j,v17.ownBlock=some j->w4.heap.size<=j:=λj hj=>by rcases bK j hj with e|e;exact bc j e;omega
          have aY:=Nat.le_trans aY ci.size;refine QY (i:=21) (by kernel_rfl)$ Ql (i:=21) O O O (pap Ps OP O (by decide) O O eh ((Sx (i:=k) mv hk iz).ext ah) (λc hc=>di s c (List.mem_of_mem_drop hc)) (by omega) (by omega)) ?_;rintro v21 w21 ⟨bS,dM,cM,-⟩;refine⟨ah.An dM (λj e=>bK j e),?_⟩;have ah:=ah.An dM (λj e=>bK j e);have cM:∀j,v21.ownBlock=some j->w4.heap.size<=j:=λj hj=>by rcases cM j hj with e|e;exact bK j e;omega
          refine P9 22 O (PX WR SO O O (by omega)) ah ?_;have gK:=ah.OC lF;refine SM [23]$ qO 23$ PC (i:=23) O O (QQ SO O O (Xs bS) gK (by rw[mJ];omega)) ?_;rintro w23 ⟨cW,cU⟩;refine⟨trivial,?_⟩;refine qE$ OA$ Rh O$ PV O$ OU O ?_;rw[show 0+k+1+(s.length-k)=(s.take k++[e.2]++s.drop k).length by rw[lE];omega,show([]++List.take k (s.map Pq)++[Pq e.2]++List.drop k (s.map Pq))=(s.take k++[e.2]++s.drop k).map Pq by simp[List.map_take,List.map_drop]] at bS;obtain⟨ra,rc,rfl,-⟩:=bS.rd.shape
          have od:(s.take k++[e.2]++s.drop k).length<=rc:=by
           rcases bS.shape with⟨e1,e2⟩|⟨gg,cc,e1,e2⟩
           ·omega
           ·cases e1;exact e2
          have oe:=(g7.ext ah).set cU (f:=e.1) (l:=s.take k++[e.2]++s.drop k) (a:=ra) (c:=rc) (λvs' h'=>by rw[OR.uniq h' gK];exact cW) (by omega) od bS.rd (λj hj=>by have:=cM j hj;omega);have og:=ay.insert hs (x:=e.2) (k:=k) (by omega) hk i7 (oY qx);exact(ih (i+1,g.set e.1 (s.take k++[e.2]++s.drop k)) _ ⟨by omega,by rw[List.length_set];exact dI,og,oe,(bF.trans ah).An cU (λj e=>by omega)⟩ (by omega)).qb
         ·refine Ql (i:=16) O O O (Wj (cs:=[_]) (zs:=[Value.int .u32 0]) Ps OP O (by kernel_rfl) O O O (by decide)) ?_;rintro v16 w16 ⟨b16,rfl,⟨oa,aX,eS⟩,bX⟩;refine⟨ah.trans aX,?_⟩;have oc:w4.heap.size<=b16:=by omega
          have ah:=ah.trans aX
          try have ez:=ez.ext aX
          try have bz:=bz.ext aX
          have lb16:=eS.lt;have aY:=Nat.le_trans aY aX.size;refine QY (i:=10) (by kernel_rfl)$ Ql (i:=10) O O O (pap Ps OP O (by decide) O O ez ((Ts (i:=k) mv hk).ext ah) (λc hc=>di s c (List.mem_of_mem_take hc)) (by omega) (by omega)) ?_;rintro v10 w10 ⟨bz,ar,bc,-⟩;refine⟨ah.An ar (λj e=>by have e:b6=j:=QU e;omega),?_⟩;have ah:=ah.An ar (λj e=>by have e:b6=j:=QU e;omega)
          try have bX:=bX.kp ar (λj hj e=>by have e:b6=j:=QU e;have hj:b16=j:=QU hj;omega)
          have bc:∀j,v10.ownBlock=some j->w4.heap.size<=j:=λj hj=>by rcases bc j hj with e|e;(have e:b6=j:=QU e;omega);omega
          have aY:=Nat.le_trans aY ar.size;have o9:=λ(j:Nat) (hj:v10.ownBlock=some j)=>bz.lt hj;refine QY (i:=17) (by kernel_rfl)$ Ql (i:=17) O O O (pap Ps OP O (by decide) O O bz bX.rd (λc hc=>di [e.2] c hc) (by omega) (by omega)) ?_;rintro v17 w17 ⟨eh,ci,bK,-⟩;refine⟨ah.An ci (λj e=>bc j e),?_⟩;have ah:=ah.An ci (λj e=>bc j e);have bK:∀j,v17.ownBlock=some j->w4.heap.size<=j:=λj hj=>by rcases bK j hj with e|e;exact bc j e;omega
          have aY:=Nat.le_trans aY ci.size;refine QY (i:=21) (by kernel_rfl)$ Ql (i:=21) O O O (pap Ps OP O (by decide) O O eh ((Sx (i:=k) mv hk iz).ext ah) (λc hc=>di s c (List.mem_of_mem_drop hc)) (by omega) (by omega)) ?_;rintro v21 w21 ⟨bS,dM,cM,-⟩;refine⟨ah.An dM (λj e=>bK j e),?_⟩;have ah:=ah.An dM (λj e=>bK j e);have cM:∀j,v21.ownBlock=some j->w4.heap.size<=j:=λj hj=>by rcases cM j hj with e|e;exact bK j e;omega
          refine P9 22 O (PX WR SO O O (by omega)) ah ?_;have gK:=ah.OC lF;refine SM [23]$ qO 23$ PC (i:=23) O O (QQ SO O O (Xs bS) gK (by rw[mJ];omega)) ?_;rintro w23 ⟨cW,cU⟩;refine⟨trivial,?_⟩;refine qE$ OA$ Rh O$ PV O$ OU O ?_;rw[show 0+k+1+(s.length-k)=(s.take k++[e.2]++s.drop k).length by rw[lE];omega,show([]++List.take k (s.map Pq)++[Pq e.2]++List.drop k (s.map Pq))=(s.take k++[e.2]++s.drop k).map Pq by simp[List.map_take,List.map_drop]] at bS;obtain⟨ra,rc,rfl,-⟩:=bS.rd.shape
          have od:(s.take k++[e.2]++s.drop k).length<=rc:=by
           rcases bS.shape with⟨e1,e2⟩|⟨gg,cc,e1,e2⟩
           ·omega
           ·cases e1;exact e2
          have oe:=(g7.ext ah).set cU (f:=e.1) (l:=s.take k++[e.2]++s.drop k) (a:=ra) (c:=rc) (λvs' h'=>by rw[OR.uniq h' gK];exact cW) (by omega) od bS.rd (λj hj=>by have:=cM j hj;omega);have og:=ay.insert hs (x:=e.2) (k:=k) (by omega) hk i7 (oY qx);exact(ih (i+1,g.set e.1 (s.take k++[e.2]++s.drop k)) _ ⟨by omega,by rw[List.length_set];exact dI,og,oe,(bF.trans ah).An cU (λj e=>by omega)⟩ (by omega)).qb
        ·refine Ql (i:=16) O O O (Wj (cs:=[_]) (zs:=[Value.int .u32 0]) Ps OP O (by kernel_rfl) O O O (by decide)) ?_;rintro v16 w16 ⟨b16,rfl,⟨oa,aX,eS⟩,bX⟩;refine⟨ah.trans aX,?_⟩;have oc:w4.heap.size<=b16:=by omega
         have ah:=ah.trans aX
         try have ez:=ez.ext aX
         try have bz:=bz.ext aX
         have lb16:=eS.lt;have aY:=Nat.le_trans aY aX.size;refine QY (i:=6) (by kernel_rfl)$ Ql (i:=6) O O O (Wj (cs:=[]) (zs:=[]) Ps OP O (by kernel_rfl) O O O (by decide)) ?_;rintro v6 w6 ⟨b6,rfl,⟨jQ,aI,aQ⟩,ez⟩;refine⟨ah.trans aI,?_⟩;have A7:w4.heap.size<=b6:=by omega
         have lb6:=aQ.lt;have ah:=ah.trans aI
         try have bX:=bX.ext aI
         have aY:=Nat.le_trans aY aI.size;refine QY (i:=10) (by kernel_rfl)$ Ql (i:=10) O O O (pap Ps OP O (by decide) O O ez ((Ts (i:=k) mv hk).ext ah) (λc hc=>di s c (List.mem_of_mem_take hc)) (by omega) (by omega)) ?_;rintro v10 w10 ⟨bz,ar,bc,-⟩;refine⟨ah.An ar (λj e=>by have e:b6=j:=QU e;omega),?_⟩;have ah:=ah.An ar (λj e=>by have e:b6=j:=QU e;omega)
         try have bX:=bX.kp ar (λj hj e=>by have e:b6=j:=QU e;have hj:b16=j:=QU hj;omega)
         have bc:∀j,v10.ownBlock=some j->w4.heap.size<=j:=λj hj=>by rcases bc j hj with e|e;(have e:b6=j:=QU e;omega);omega
         have aY:=Nat.le_trans aY ar.size;have o9:=λ(j:Nat) (hj:v10.ownBlock=some j)=>bz.lt hj;refine QY (i:=17) (by kernel_rfl)$ Ql (i:=17) O O O (pap Ps OP O (by decide) O O bz bX.rd (λc hc=>di [e.2] c hc) (by omega) (by omega)) ?_;rintro v17 w17 ⟨eh,ci,bK,-⟩;refine⟨ah.An ci (λj e=>bc j e),?_⟩;have ah:=ah.An ci (λj e=>bc j e);have bK:∀j,v17.ownBlock=some j->w4.heap.size<=j:=λj hj=>by rcases bK j hj with e|e;exact bc j e;omega
         have aY:=Nat.le_trans aY ci.size;refine QY (i:=21) (by kernel_rfl)$ Ql (i:=21) O O O (pap Ps OP O (by decide) O O eh ((Sx (i:=k) mv hk iz).ext ah) (λc hc=>di s c (List.mem_of_mem_drop hc)) (by omega) (by omega)) ?_;rintro v21 w21 ⟨bS,dM,cM,-⟩;refine⟨ah.An dM (λj e=>bK j e),?_⟩;have ah:=ah.An dM (λj e=>bK j e);have cM:∀j,v21.ownBlock=some j->w4.heap.size<=j:=λj hj=>by rcases cM j hj with e|e;exact bK j e;omega
         refine P9 22 O (PX WR SO O O (by omega)) ah ?_;have gK:=ah.OC lF;refine SM [23]$ qO 23$ PC (i:=23) O O (QQ SO O O (Xs bS) gK (by rw[mJ];omega)) ?_;rintro w23 ⟨cW,cU⟩;refine⟨trivial,?_⟩;refine qE$ OA$ Rh O$ PV O$ OU O ?_;rw[show 0+k+1+(s.length-k)=(s.take k++[e.2]++s.drop k).length by rw[lE];omega,show([]++List.take k (s.map Pq)++[Pq e.2]++List.drop k (s.map Pq))=(s.take k++[e.2]++s.drop k).map Pq by simp[List.map_take,List.map_drop]] at bS;obtain⟨ra,rc,rfl,-⟩:=bS.rd.shape
         have od:(s.take k++[e.2]++s.drop k).length<=rc:=by
          rcases bS.shape with⟨e1,e2⟩|⟨gg,cc,e1,e2⟩
          ·omega
          ·cases e1;exact e2
         have oe:=(g7.ext ah).set cU (f:=e.1) (l:=s.take k++[e.2]++s.drop k) (a:=ra) (c:=rc) (λvs' h'=>by rw[OR.uniq h' gK];exact cW) (by omega) od bS.rd (λj hj=>by have:=cM j hj;omega);have og:=ay.insert hs (x:=e.2) (k:=k) (by omega) hk i7 (oY qx);exact(ih (i+1,g.set e.1 (s.take k++[e.2]++s.drop k)) _ ⟨by omega,by rw[List.length_set];exact dI,og,oe,(bF.trans ah).An cU (λj e=>by omega)⟩ (by omega)).qb
       ·refine OE$ OA$ Rh O$ PV O$ OU O ?_;exact(ih (i+1,g) _ ⟨by omega,dI,ay,g7,bF⟩ (by omega)).qb
      case iT=>
       refine R5 (λw'=>Ext w3 w') O$ OZ 0 O O (af)$ OZ 1 O O (af)$ OI 2 O (SF Ps O) af ?_;by_cases oO:k=s.length
       ·refine OI 3 O (yeq O O) af$ TT$ OZ 4 O O (af)$ qJ 5 O (af)$ qJ 6 O (af)$ qJ 7 O (af)$ qJ 8 O (af)$ qJ 9 O (af)$ qJ 10 O (af)$ qJ 11 O (af)$ qJ 12 O (af)$ qJ 13 O (af)$ qJ 14 O (af)$ OI 15 O (UJ O O) af ?_;refine qE ?_;exact(ep _ _ ⟨true,rfl,λ_ y hy=>(by rw[oO,List.drop_length] at hy;cases hy),ai.trans af⟩).qb
       ·obtain⟨y,hy⟩:∃y,s[k]? =some y:=⟨_,List.getElem?_eq_getElem (by omega)⟩;rcases uy.2 with⟨⟨ca,cc⟩,gd,rM⟩|⟨lb,lo,cap,gd,cN⟩
        ·omega
        cases gd;have uA:w3.cell? ⟨lb,lo+k*1,none⟩=some (Pq y):=cN (k*1) _ (by rw[Nat.mul_one,List.getElem?_map,hy];rfl);refine OI 3 O (yeq O O) af$ Uc$ OZ 4 O O (af)$ OZ 5 O O (af)$ OZ 6 O O (af)$ OI 7 O (PX Ps OP O O (by omega)) af$ OZ 9 O O (af)$ OZ 10 O O (af)$ OI 11 O (PX U22 TY O O (by omega)) af$ OI 12 O (Pp VL O) af$ qT 8 O (λ_ h=>Pr Py O O (PH h uA)) af$ qT 13 O (λ_ h=>Pr Py O O (PH h uz)) af ?_;have BE:=iQ y hy;by_cases wo:y=e.2
        ·refine OI 14 O (yne O O) af$ Uc$ OI 15 O (Ub O O) af$ qE ?_;exact(ep _ _ ⟨false,rfl,λe=>(by cases e),ai.trans af⟩).qb
        ·refine OI 14 O (yne O O) af$ TT$ OI 15 O (Ub O O) af$ qE ?_;exact(ep _ _ ⟨true,rfl,λ_ z hz=>(by have:=Mr k y hy z hz;omega),ai.trans af⟩).qb
     case uB=>
      refine Rq (α:=Nat) (0) (λk=>[(0,I (n:Int)),(1,.slice (some ⟨eb,eo,none⟩) es.length ec),(5,.slice (some ⟨bg,0,none⟩) n n),(6,I (i:Int)),(7,.slice a s.length c),(8,I (k:Int))]) (λk w'=>k<=s.length/\(∀y∈s.take k,y<e.2)/\Ext w2 w') (λk=>s.length-k) ?hI ?hround
      case hI=>exact⟨Nat.zero_le _,λy hy=>(by simp at hy),Ext.refl _⟩
      case hround=>
       rintro k w3 ⟨hk,i7,ai⟩ ih2;have af:=Ext.OT w3;have uy:=dS.ext ai;have uz:=PH ai ev
       try dsimp only
       refine It$ It$ R5 (λw'=>Ext w3 w') O$ OZ 0 O O (af)$ OZ 1 O O (af)$ OI 2 O (SF Ps O) af ?_;by_cases ku:k<s.length
       ·obtain⟨y,hy⟩:∃y,s[k]? =some y:=⟨_,List.getElem?_eq_getElem ku⟩;rcases uy.2 with⟨⟨ca,cc⟩,gd,rM⟩|⟨lb,lo,cap,gd,cN⟩
        ·omega
        cases gd;have uA:w3.cell? ⟨lb,lo+k*1,none⟩=some (Pq y):=cN (k*1) _ (by rw[Nat.mul_one,List.getElem?_map,hy];rfl);refine OI 3 O (ylt O O) af$ TT$ OZ 4 O O (af)$ OZ 5 O O (af)$ OZ 6 O O (af)$ OI 7 O (PX Ps OP O O (by omega)) af$ OZ 9 O O (af)$ OZ 10 O O (af)$ OI 11 O (PX U22 TY O O (by omega)) af$ OI 12 O (Pp VL O) af$ qT 8 O (λ_ h=>Pr Py O O (PH h uA)) af$ qT 13 O (λ_ h=>Pr Py O O (PH h uz)) af ?_;by_cases BE:y<e.2
        ·refine OI 14 O (ylt O O) af$ TT$ OI 15 O (UJ O O) af$ qE$ OS O$ OE$ OH$ Rh O$ PV O$ OU O$ OA ((ih2 (k+1) _ ⟨by omega,λz hz=>?_,ai.trans af⟩ (by omega)).qb);rw[PQ hy] at hz;rcases List.mem_append.1 hz with e'|e'
         ·exact i7 z e'
         ·rw[List.mem_singleton.1 e'];exact BE
        ·refine OI 14 O (ylt O O) af$ Uc$ OI 15 O (UJ O O) af$ qE$ OJ O$ ON O ?_;exact(jB _ _ ⟨k,rfl,hk,i7,λz hz=>(by rw[hy] at hz;cases hz;omega),ai.trans af⟩).qb
       ·refine OI 3 O (ylt O O) af$ Uc$ OZ 4 O O (af)$ qJ 5 O (af)$ qJ 6 O (af)$ qJ 7 O (af)$ qJ 8 O (af)$ qJ 9 O (af)$ qJ 10 O (af)$ qJ 11 O (af)$ qJ 12 O (af)$ qJ 13 O (af)$ qJ 14 O (af)$ OI 15 O (Ub O O) af ?_;refine qE$ OJ O$ ON O ?_;exact(jB _ _ ⟨k,rfl,hk,i7,λz hz=>(by rw[List.getElem?_eq_none (by omega)] at hz;cases hz),ai.trans af⟩).qb
    ·refine Te O$ PF$ P8 O$ OK O$ qV (PX U22 TY O O (by omega))$ OX VL O$ qV (Pr Py O O ev)$ qV (PJ O Py U3 (by omega))$ OK O$ Te O$ Rp$ PK O$ OD$ OS O ?_;refine ON O$ Rh O$ PV O$ OU O ?_;exact(ih (i+1,g) _ ⟨by omega,dI,ay,cO,ae⟩ (by omega)).qb
   ·refine Te O$ Rp$ OK O$ QG$ QG$ QG$ QG$ QJ O$ OD$ OS O$ ON O$ Rh O$ PV O$ OU O ?_;exact(ih (i+1,g) _ ⟨by omega,dI,ay,cO,ae⟩ (by omega)).qb
  ·refine ON O$ Pf O$ OU O$ OB func29 O ?_;exact⟨_,rfl,g,bg,by rw[dI];rfl,dI,ay,cO,ae⟩
def VA (g:List (List Nat))(v i u:Nat):List Nat:=(List.range v).filter (λx=>decide (u∈P5 g x))++(if u∈(P5 g v).take i then [v] else [])
def UD (g:List (List Nat))(v i:Nat):List (List Nat):=(List.range g.length).map (VA g v i)
def XE (g:List (List Nat)):List (List Nat):=UD g g.length 0
def z7l (g:List (List Nat))(v u:Nat):VA g v (P5 g v).length u=VA g (v+1) 0 u:=by
 unfold VA
 rw[List.take_length,List.range_succ,List.filter_append]
 by_cases h:u∈P5 g v<;>simp[h]
theorem Tn (g:List (List Nat))(v i:Nat):(UD g v i).length=g.length:=by simp[UD]
theorem Vx (g:List (List Nat))(v i:Nat){u:Nat}(hu:u<g.length):(UD g v i)[u]? =some (VA g v i u):=by
 unfold UD
 rw[List.getElem?_map,List.getElem?_range hu];rfl
def z94 (g:List (List Nat))(v i u:Nat):(VA g v i u).length<=v+1:=by
 unfold VA
 have h1:=List.length_filter_le (λx=>decide (u∈P5 g x)) (List.range v)
 rw[List.length_range] at h1
 rw[List.length_append]
 split<;>simp<;>omega
theorem zad {g:List (List Nat)}(ay:Se g){v i u:Nat}(hu:(P5 g v)[i]? =some u):(UD g v i).set u (VA g v i u++[v])=UD g v (i+1):=by
 have lG:=SY ay v u (List.mem_of_getElem? hu)
 have fV:u∉(P5 g v).take i:=λh=>by
  have eg:v<g.length:=by
   rcases Nat.lt_or_ge v g.length with h| h
   ·exact h
   ·unfold P5 at hu;rw[List.getElem?_eq_none h] at hu;cases hu
  have hr:List.Pairwise (·<·) (P5 g v):=by
   unfold P5;rw[List.getElem?_eq_getElem eg];exact(ay.ok _ (List.getElem_mem eg)).ZN
  have h2:=PQ hu;have h3:List.Pairwise (·<·) ((P5 g v).take (i+1)):=hr.sublist (List.take_sublist _ _);rw[h2,List.pairwise_append] at h3;have:=h3.2.2 u h u List.mem_cons_self;omega
 apply List.ext_getElem?
 intro x
 by_cases hx:u=x
 ·subst hx;rw[List.getElem?_set_self (by rw[Tn];exact lG),Vx _ _ _ lG]
  congr 1
  unfold VA;rw[if_neg fV,List.append_nil,PQ hu,if_pos (by simp)]
 ·rw[List.getElem?_set_ne hx];by_cases ip:x<g.length
  ·rw[Vx _ _ _ ip,Vx _ _ _ ip]
   congr 1
   unfold VA
   congr 1
   rw[PQ hu]
   have:x∈(P5 g v).take i++[u]↔x∈(P5 g v).take i:=by
    rw[List.mem_append,List.mem_singleton];exact⟨λe=>e.resolve_right λe=>hx e.symm,.inl⟩
   simp only[this]
  ·rw[List.getElem?_eq_none (by rw[Tn];omega),List.getElem?_eq_none (by rw[Tn];omega)]
theorem za8 (g:List (List Nat)){u:Nat}(hu:u<g.length):(XE g)[u]? =some ((List.range g.length).filter λx=>decide (u∈P5 g x)):=by
 unfold XE
 rw[Vx _ _ _ hu]
 unfold VA
 rw[List.take_zero,if_neg (by simp),List.append_nil]
def Yk (g:List (List Nat)):(XE g).length=g.length:=Tn _ _ _
def zc5 {g:List (List Nat)}(h:Se g):Se (XE g):=by
 have hl:=Yk g
 have gH:∀l∈XE g,∃u,l=(List.range g.length).filter λx=>decide (u∈P5 g x):=λl hm=>by
  obtain⟨u,hu⟩:=List.getElem?_of_mem hm
  have lG:u<g.length:=by
   rcases Nat.lt_or_ge u g.length with h| h
   ·exact h
   ·rw[List.getElem?_eq_none (by omega)] at hu;cases hu
  rw[za8 g lG] at hu;exact⟨u,(QU hu).symm⟩
 have hn:=h.n
 refine⟨λl hm=>?_,λl hm y hy=>?_,by omega⟩
 ·obtain⟨u,rfl⟩:=gH l hm;exact⟨(List.pairwise_lt_range).sublist List.filter_sublist,λy hy=>by have:=List.mem_range.1 (List.mem_filter.1 hy).1;omega⟩
 ·obtain⟨u,rfl⟩:=gH l hm;have:=List.mem_range.1 (List.mem_filter.1 hy).1;omega
structure RwA (w:World)(bg B:Nat)(L:List (List Nat)):Prop where
 ex:∃vs:List Value,OR w bg vs 49/\vs.length=L.length/\(∀(i:Nat) (l:List Nat),L[i]? =some l->∃v:Value,vs[i]? =some v/\Sl w v 106 1 l.length (l.map Pq)/\∀b,v.ownBlock=some b->B<=b/\b≠bg)/\∀(i j:Nat) (vi vj:Value) (b:Nat),i≠j->vs[i]? =some vi->vs[j]? =some vj->vi.ownBlock=some b->vj.ownBlock≠some b
section
variable {w w':World}{bg B:Nat}{L:List (List Nat)}
def RwA.new {n:Nat}(h:OR w bg (List.replicate n (.slice none 0 0)) 49):RwA w bg B (List.replicate n []):=by
 refine⟨_,h,by simp,λi l hl=>?_,λi j vi vj b _ hi _ hb=>?_⟩
 ·rw[List.getElem?_replicate] at hl;split at hl
  ·rename_i hi
   cases hl;exact⟨.slice none 0 0,by rw[List.getElem?_replicate,if_pos hi],Sl.nil w _ 1,λb hb=>by cases hb⟩
  ·cases hl
 ·have:=List.mem_of_getElem? hi;rw[List.eq_of_mem_replicate this] at hb;cases hb
theorem RwA.rw (h:RwA w bg B L):Zo w bg B L:=by
 obtain⟨vs,h1,h2,h3,h4⟩:=h.ex
 refine⟨vs,h1,h2,λi l hl=>?_⟩
 obtain⟨v,g1,g2,g3⟩:=h3 i l hl
 obtain⟨a,c,rfl,-⟩:=g2.rd.shape
 refine⟨a,c,g1,?_,g2.rd,g3⟩
 rcases g2.shape with⟨e1,e2⟩|⟨gg,cc,e1,e2⟩
 ·omega
 ·cases e1;exact e2
theorem RwA.put {w2:World}(h:RwA w bg B L){u:Nat}{l l':List Nat}{v v':Value}{vs:List Value}(lF:OR w bg vs 49)(hu:L[u]? =some l)(hv:vs[u]? =some v)(hk:Kp (λb=>v.ownBlock=some b) w w')(hS:Sl w' v' 106 1 l'.length (l'.map Pq))(ho:∀b,v'.ownBlock=some b->v.ownBlock=some b\/w.heap.size<=b)(aq:Kp (λb=>b=bg) w' w2)(hB:OR w2 bg (vs.set (0+u*1) v') 49)(qW:B<=w.heap.size):RwA w2 bg B (L.set u l'):=by
 obtain⟨vs0,h1,h2,h3,h4⟩:=h.ex
 have e0:=h1.uniq lF
 subst e0
 rw[Nat.zero_add,Nat.mul_one] at hB
 obtain⟨v0,g1,g2,g3⟩:=h3 u l hu
 rw[hv] at g1
 cases g1
 have fD:=h1.lt
 have mD:u<L.length:=by
  rcases Nat.lt_or_ge u L.length with h| h
  ·exact h
  ·rw[List.getElem?_eq_none h] at hu;cases hu
 have AS:∀b,v'.ownBlock=some b->B<=b/\b≠bg:=λb hb=>by
  rcases ho b hb with e| e
  ·exact g3 b e
  ·omega
 have aZ:∀(j:Nat) (vj:Value) (b:Nat),vs0[j]? =some vj->vj.ownBlock=some b->b<w.heap.size:=λj vj b hj hb=>by
  obtain⟨lj,Ms⟩:∃lj,L[j]? =some lj:=⟨_,List.getElem?_eq_getElem (by
   rw[<-h2];rcases Nat.lt_or_ge j vs0.length with h| h
   ·exact h
   ·rw[List.getElem?_eq_none h] at hj;cases hj)⟩
  obtain⟨vj',k1,k2,-⟩:=h3 j lj Ms;rw[hj] at k1;cases k1;exact k2.lt hb
 refine⟨_,hB,by simp[h2],λi li hl=>?_,λi j vi vj b gU hi hj hb=>?_⟩
 ·by_cases e:u=i
  ·subst e;rw[List.getElem?_set_self mD] at hl;cases hl;exact⟨v',List.getElem?_set_self (by rw[h2];exact mD),hS.kp aq (λb hb e=>(AS b hb).2 e),AS⟩
  ·rw[List.getElem?_set_ne e] at hl;obtain⟨vi,k1,k2,k3⟩:=h3 i li hl;exact⟨vi,by rw[List.getElem?_set_ne e];exact k1,(k2.kp hk (λb hb e2=>h4 u i v vi b e hv k1 e2 hb)).kp aq (λb hb e=>(k3 b hb).2 e),k3⟩
 ·by_cases ei:u=i
  ·subst ei;rw[List.getElem?_set_self (by rw[h2];exact mD)] at hi;cases hi;rw[List.getElem?_set_ne gU] at hj;intro cn;rcases ho b hb with e| e
   ·exact h4 u j v vj b gU hv hj e cn
   ·have:=aZ j vj b hj cn;omega
  ·rw[List.getElem?_set_ne ei] at hi;by_cases ej:u=j
   ·subst ej;rw[List.getElem?_set_self (by rw[h2];exact mD)] at hj;cases hj;intro cn;rcases ho b cn with e| e
    ·exact h4 i u vi v b gU hi hv hb e
    ·have:=aZ i vi b hi hb;omega
   ·rw[List.getElem?_set_ne ej] at hj;exact h4 i j vi vj b gU hi hj hb
end
def z5S {g:List (List Nat)}(ay:Se g){w:World}{gb go gc:Nat}(hg:GrR w gb go g):Pm prog 37 [.slice (some ⟨gb,go,none⟩) g.length gc] w λv w'=>∃bt,v= .slice (some ⟨bt,0,none⟩) g.length g.length/\Zo w' bt w.heap.size (XE g)/\Ext w w':=by
 have eu:maxLen=9223372036854775807:=rfl
 have hn:=ay.n
 refine py (e:=[(0,_)]) func37 O ntmps37 O O$ qN O$ Qt O$ Rv WR O$ OM O O (pmk (c:=g.length) (n:=g.length) WR SO O O O (by omega) (by omega) (by omega)) ?_
 rintro _ w1 ⟨bt,rfl,⟨oV,ad,aj⟩,-⟩
 have kO:RwA w1 bt w.heap.size (UD g 0 0):=by
  have e:UD g 0 0=List.replicate g.length []:=by
   apply List.ext_getElem<;>simp[UD,VA]
  rw[e];exact RwA.new aj
 refine OU O$ It$ QB O$ OH$ Rq (α:=Nat) (0) (λv=>[(0,.slice (some ⟨gb,go,none⟩) g.length gc),(3,.slice (some ⟨bt,0,none⟩) g.length g.length),(4,I (v:Int))]) (λv w'=>v<=g.length/\RwA w' bt w.heap.size (UD g v 0)/\Ext w w') (λv=>g.length-v) ?hI ?hround
 case hI=>exact⟨Nat.zero_le _,kO,ad⟩
 case hround =>
  rintro v w2 ⟨hv,cO,ae⟩ ih
  try dsimp only
  refine It$ Qm O$ Rv WR O$ Qq O$ OD$ OQ O (λhq=>?_)$ λhq=>?_
  ·have eg:v<g.length:=by omega
   have dI:g[v]? =some (P5 g v):=by unfold P5;rw[List.getElem?_eq_getElem eg];rfl
   have fG:(P5 g v).length<=g.length:=ay.len (List.mem_of_getElem? dI);refine OE$ Qx$ QB O$ OH$ Rq (α:=Nat) (0) (λi=>[(0,.slice (some ⟨gb,go,none⟩) g.length gc),(3,.slice (some ⟨bt,0,none⟩) g.length g.length),(4,I (v:Int)),(5,I (i:Int))]) (λi w'=>i<=(P5 g v).length/\RwA w' bt w.heap.size (UD g v i)/\Ext w w') (λi=>(P5 g v).length-i) ?hI ?hround
   case hI=>exact⟨Nat.zero_le _,cO,ae⟩
   case hround=>
    rintro i w3 ⟨hi,lz,ai⟩ ih2;obtain⟨a,c,dX,ev⟩:=hg v _ dI;have af:=Ext.OT w3
    try dsimp only
    refine It$ Qm O$ OK O$ qV (PX WR SO O O (by omega))$ qV (Pr Ps O O (PH ai dX))$ Rv Ps O$ Qq O$ OD$ OQ O (λfF=>?_)$ λfF=>?_
    ·obtain⟨u,hu⟩:∃u,(P5 g v)[i]? =some u:=⟨_,List.getElem?_eq_getElem (by omega)⟩;obtain⟨lb,lo,rfl,vX⟩:=ev i u hu;have lG:u<g.length:=SY ay v u (List.mem_of_getElem? hu);have IT:=Vx g v i lG;have kQ:=z94 g v i u;obtain⟨vs,lF,mJ,gT,FX⟩:=id lz.ex;obtain⟨vu,IU,Mt,BF⟩:=gT u _ IT
     have Mu:∀{w':World},Kp (λb=>vu.ownBlock=some b) w3 w'->w'.cell? ⟨bt,0+u*1,none⟩=some vu:=λhk=>by
      rw[(hk.OC lF (λe=>(BF _ e).2 O)).cell,Nat.zero_add,Nat.mul_one];exact IU
     have z3:=ai.size;refine OE$ Qx ?_;have mM:∀{w':World},Kp (λb=>vu.ownBlock=some b) w3 w'->Ext w w':=λhk=>ai.An hk (λb e=>(BF b e).1);refine P7 [23] (λw'=>Kp (λb=>vu.ownBlock=some b) w3 w') (by kernel_rfl) O$ PL 0 O O (af.kp)$ PL 1 O O (af.kp)$ PL 2 O O (af.kp)$ P9 3 O (PX WR SO O O (by omega)) (af.kp)$ PL 5 O O (af.kp)$ PL 8 O O (af.kp)$ PL 9 O O (af.kp)$ PL 10 O O (af.kp)$ P9 11 O (PX WR SO O O (by omega)) (af.kp)$ PL 13 O O (af.kp)$ PL 18 O O (af.kp)$ P9 19 O (z0U O U3 Py) (af.kp)$ qL 4 O (λ_ h=>Pr Ps O O (PH (mM h) dX)) (af.kp) ?_;refine qL 12 O (λ_ h=>Pr Ps O O (PH (mM h) dX)) (af.kp)$ P9 6 O (PX Ps OP O O (by omega)) (af.kp)$ P9 14 O (PX Ps OP O O (by omega)) (af.kp)$ qL 7 O (λ_ h=>Pr Py O O (PH (mM h) vX)) (af.kp)$ qL 15 O (λ_ h=>Pr Py O O (PH (mM h) vX)) (af.kp)$ P9 16 O (PX WR SO O O (by omega)) (af.kp)$ qL 17 O (λ_ h=>Pr Ps O O (Mu h)) (af.kp) ?_;rw[Nat.mod_eq_of_lt (show v<4294967296 by omega)];refine QY (i:=20) (by kernel_rfl)$ Ql (i:=20) O O O (Wj (cs:=[_]) (zs:=[Value.int .u32 0]) Ps OP O (by kernel_rfl) O O O (by decide)) ?_;rintro v4 w4 ⟨b4,rfl,⟨fC,aD,aK⟩,dO⟩;refine⟨af.kp.trans aD.kp,?_⟩;have cC:=af.trans aD;refine QY (i:=21) (by kernel_rfl)$ Ql (i:=21) O O O (pap Ps OP O (by decide) O O (Mt.ext cC) dO.rd (λc hc=>by obtain⟨z,-,rfl⟩:=List.mem_map.1 (show c∈[v].map Pq from hc);rfl) (by omega) (by omega)) ?_;rintro v5 w5 ⟨ew,ak,pD,-⟩;refine⟨cC.kp.trans ak,?_⟩;have ju:Kp (λb=>vu.ownBlock=some b) w3 w5:=cC.kp.trans ak;have z34:=cC.size;have FY:=ju.OC lF (λe=>(BF _ e).2 O);refine P9 22 O (PX WR SO O O (by omega)) (cC.kp.trans ak)$ SM [23]$ qO 23$ PC (i:=23) O O (QQ SO O O (Xs ew) FY (by rw[mJ,Tn];omega)) ?_;rintro w6 ⟨aQ,aP⟩;refine⟨trivial,?_⟩;have ll:=lz.put (l':=VA g v i u++[v]) lF IT IU ju (by rw[List.length_append,List.map_append];exact ew) (λb hb=>(pD b hb).imp id λe=>by omega) aP aQ z3;rw[zad ay hu] at ll;refine qE$ OA$ Rh O$ PV O$ OU O ?_;exact(ih2 (i+1) _ ⟨by omega,ll,(ai.An ju (λb e=>(BF b e).1)).An aP (λb e=>by omega)⟩ (by omega)).qb
    ·have bQ:i=(P5 g v).length:=by omega
     subst bQ;refine ON O$ OA$ Rh O$ PV O$ OU O ?_
     have e:UD g v (P5 g v).length=UD g (v+1) 0:=by
      unfold UD;exact List.map_congr_left λu _=>z7l g v u
     exact(ih (v+1) _ ⟨by omega,by rw[<-e];exact lz,ai⟩ (by omega)).qb
  ·have eg:v=g.length:=by omega
   subst eg;refine ON O$ Pf O$ OU O$ OB func37 O ?_;exact⟨_,rfl,bt,rfl,cO.rw,ae⟩
def z3c (z:Int)(hz:JIq z)(w:World):Pm prog 30 [I z] w λv w'=>∃n:Nat,v=I (n:Int)/\1<=n/\n<=40/\w'=w:=by
 have r1:=TE z 40 (by decide)
 have r2:=VE z 40 (by decide)
 refine py (e:=[(0,_)]) func30 O ntmps30 O O$ qN O$ Qt O$ qV (yrt O O (by decide))$ PV O$ qV (yrt O O (by decide)) ?_
 rw[show(z.tmod 40+40).tmod 40=nrm z 40 from rfl]
 refine PV O$ OU O$ OB func30 O ?_
 exact⟨_,rfl,(1+nrm z 40).toNat,by rw[Int.toNat_of_nonneg (by omega)];rfl,by omega,by omega,rfl⟩
def z8L:Qr:=⟨7,3,3,3,64⟩
def z7M:Qr:=⟨0,0,2,1,64⟩
def z8b:Qr:=⟨2,1,4,2,3⟩
def z4j (z:Int)(hz:JIq z)(w:World):Pm prog 36 [I z] w λv w'=>∃p:Qr,v=bpV p/\p.QA/\p.zeta<=3/\Ext w w':=by
 have r1:=TE z 3 (by decide)
 have r2:=VE z 3 (by decide)
 refine py (e:=[(0,_)]) func36 O ntmps36 O O$ qN O$ OM O O (RN (cs:=[_,_,_,_,_]) RK O) ?_
 rintro _ w1 ⟨b2,rfl,cn,ad,aj⟩
 refine qM O$ qV (Sk (cs:=[_,_,_,_,_]) RK O zd2 O O)$ qV (Sk (cs:=[_,_,_,_,_]) RK O zd2 O O)$ qV (Sk (cs:=[_,_,_,_,_]) RK O zd2 O O)$ OM O O (Wj (cs:=[_,_,_,_,_,_,_,_,_,_,_,_,_,_,_]) (zs:=[Value.int .i64 0,Value.int .i64 0,Value.int .i64 0,Value.int .i64 0,Value.int .i64 0,Value.int .i64 0,Value.int .i64 0,Value.int .i64 0,Value.int .i64 0,Value.int .i64 0,Value.int .i64 0,Value.int .i64 0,Value.int .i64 0,Value.int .i64 0,Value.int .i64 0]) ze1 RK O (by kernel_rfl) O O O (by decide)) ?_
 rintro _ w2 ⟨b3,rfl,⟨eG,ae,am⟩,-⟩
 refine OK O$ qV (yrt O O (by decide))$ PV O$ qV (yrt O O (by decide)) ?_
 rw[show(z.tmod 3+3).tmod 3=nrm z 3 from rfl]
 have fi:=ae.OC aj
 have FZ:nrm z 3=((0:Nat):Int)\/nrm z 3=((1:Nat):Int)\/nrm z 3=((2:Nat):Int):=by omega
 have lb:=aj.lt
 rcases FZ with e|e| e
 ·rw[e];refine qV (PX ze1 RK O O (by omega))$ qV (Pt (news:=Vn z8L) U94 O RK O (OR.cells (i:=0+0*5) (n:=5) am O) O)$ OW O (PO (news:=Vn z8L) RK O O O O fi (by simp)) ?_;rintro w3 ⟨au,av⟩;refine OD$ Po func36 (.cell U94 O RK O (OR.cells (n:=5) au (news:=[_,_,_,_,_]) O) O .nil) ?_;exact⟨_,rfl,z8L,rfl,by unfold Qr.QA S6.QA z8L Qr.list;decide,by decide,(ad.trans ae).An av (λj e=>by omega)⟩
 ·rw[e];refine qV (PX ze1 RK O O (by omega))$ qV (Pt (news:=Vn z7M) U94 O RK O (OR.cells (i:=0+1*5) (n:=5) am O) O)$ OW O (PO (news:=Vn z7M) RK O O O O fi (by simp)) ?_;rintro w3 ⟨au,av⟩;refine OD$ Po func36 (.cell U94 O RK O (OR.cells (n:=5) au (news:=[_,_,_,_,_]) O) O .nil) ?_;exact⟨_,rfl,z7M,rfl,by unfold Qr.QA S6.QA z7M Qr.list;decide,by decide,(ad.trans ae).An av (λj e=>by omega)⟩
 ·rw[e];refine qV (PX ze1 RK O O (by omega))$ qV (Pt (news:=Vn z8b) U94 O RK O (OR.cells (i:=0+2*5) (n:=5) am O) O)$ OW O (PO (news:=Vn z8b) RK O O O O fi (by simp)) ?_;rintro w3 ⟨au,av⟩;refine OD$ Po func36 (.cell U94 O RK O (OR.cells (n:=5) au (news:=[_,_,_,_,_]) O) O .nil) ?_;exact⟨_,rfl,z8b,rfl,by unfold Qr.QA S6.QA z8b Qr.list;decide,by decide,(ad.trans ae).An av (λj e=>by omega)⟩
theorem Re {L:List Bool}{s n:Nat}{b:Bool}(h:s+n<=L.length)(i:Nat):(Qh L s n b)[i]? =if s<=i/\i<s+n then some b else L[i]? :=by
 unfold Qh
 have hl:(L.take s).length=s:=by rw[List.length_take];omega
 by_cases h1:i<s
 ·rw[if_neg (by omega),List.getElem?_append_left (by omega),List.getElem?_take_of_lt h1]
 ·rw[List.getElem?_append_right (by omega),hl];by_cases h2:i<s+n
  ·rw[if_pos (by omega),List.getElem?_append_left (by rw[List.length_replicate];omega),List.getElem?_replicate,if_pos (by omega)]
  ·rw[if_neg (by omega),List.getElem?_append_right (by rw[List.length_replicate];omega),List.length_replicate,List.getElem?_drop]
   congr 1
   omega
def Wr {L:List Bool}{a n:Nat}(h:Pre L a)(hn:a+n<=L.length):Pre (Qh L a n true) (a+n):=by
 have h2:=h.a2
 refine⟨by omega,by rw[PY hn];exact hn,λi h1 h3=>?_,λi h1 h3=>?_⟩
 ·rw[Re hn];split
  ·rfl
  ·exact h.tk i h1 (by omega)
 ·rw[PY hn] at h3;rw[Re hn,if_neg (by omega)];exact h.fr i (by omega) h3
def z5i {Q:Rn}{txt:Int->OG}{K:Nat}{X:Nat->Prop}{w:World}(hP:Sp Q txt K X w)(hX:∀b,X b->b<w.heap.size)(hK:K<=90000000000)(x1:X 2)(x2:X 3)(hG:OR w 2 (Sy .gamma) 317)(hU:OR w 3 (Sy .unary) 317){g:List (List Nat)}(ay:Se g)(aG:1<=g.length)(ib:g.length<=40){ga:Option Addr}{gc:Nat}(lu:GrM w (.slice ga g.length gc) g){p:Qr}(hp:p.QA)(hz:p.zeta<=3){a:Nat}(ha:Pre Q.L a)(io:a+72<=Q.L.length):
  Pm prog 35 [ptr Q.s 0,.slice ga g.length gc,bpV p] w λv w'=>∃(G:Yi) (txt':Int->OG),v= .tuple #[ptr G.k 0,.bool true]/\G.g=g/\G.st=a/\G.len<=72/\1<=G.len/\(w.heap.size<=G.k/\w.heap.size<=G.x/\w.heap.size<=G.rb)/\S3 G (Q.Qj (Qh Q.L a G.len true)) txt' (K+200) (λj=>X j\/j=G.x\/j=G.k) w'/\(∀y:Int,y<(a:Int)\/(a:Int)+(G.len:Int)<=y->txt' y=txt y)/\Kp (λb=>¬X b) w w':=by
 have dW:=hP.n
 refine py (e:=[(0,_),(1,_),(2,_)]) func35 O ntmps35 O O$ qN O$ OM O O (Rm O (cs:=Vn p) O) ?_
 rintro _ w1 ⟨bp,rfl,Of,ad,rp⟩
 refine RT O$ Qt O$ qV (Pt (news:=Vn p) U94 O RK O (OR.cells (i:=0) (n:=5) rp O) O)$ P4 zl7 O (z7h hp ay aG (lu.ext ad) (ad.OC hG) (ad.OC hU)) ?_
 rintro _ w2 ⟨E,Mv,rfl,ae⟩
 have Bg:T2 p g E:=⟨hp,ay,aG,Mv⟩
 have Mw:=zbh Bg ib hz
 obtain⟨T,hT⟩:∃T,XY p g E=T:=⟨_,rfl⟩
 rw[hT] at Mw⊢
 have aJ:=ad.trans ae
 have dQ:=hP.ext' aJ
 refine OK O$ RA O$ PU O$ PG O$ Qf O$ PW O$ Pf O$ P4 z5P O (dQ.size) ?_
 rintro _ w2 ⟨rfl,rfl⟩
 refine OK O$ qV (SV U9 O)$ P4 zlw O (z3w T.length (by omega) _) ?_
 rintro _ w2 ⟨rfl,rfl⟩
 obtain⟨N,hN⟩:∃N,(T.length+523) / 512=N:=⟨_,rfl⟩
 rw[hN]
 have jp:1<=N/\N<=72/\T.length<=N*512-12:=by omega
 refine OK O$ RA O$ PU O$ Pn.qb (e:=[(0,_),(6,_),(7,_),(8,_),(9,_),(10,_)]) ?_
 refine PG O$ Qf O ?_
 have gR:∀b,X b->b<w2.heap.size:=λb hb=>by have:=hX b hb;have:=aJ.size;omega
 refine PW O$ Qm O$ P4 zj9 O (dQ.take gR ha jp.1 (by omega)) ?_
 rintro _ w3 ⟨rfl,fJ,av⟩
 have fS:(Qh Q.L a N true).length=Q.L.length:=PY (by omega)
 obtain⟨Q3,qy⟩:∃Q3,Q.Qj (Qh Q.L a N true)=Q3:=⟨_,rfl⟩
 rw[qy] at fJ
 have xe:Q3.s=Q.s:=by rw[<-qy];rfl
 have Mx:Q3.L.length=Q.L.length:=by rw[<-qy];exact fS
 rw[<-xe]
 have z3:=av.size
 have oQ:∀b,X b->b<w3.heap.size:=λb hb=>by have:=gR b hb;omega
 refine OK O$ RA O$ OM O O (RN (cs:=[_,_]) R6 O) ?_
 rintro _ w4 ⟨be,rfl,vP,aD,er⟩
 refine OW O (PO (news:=[I (a:Int),I (N:Int)]) R6 O O O O er (by simp)) ?_
 rintro w5 ⟨kI,ak⟩
 replace kI:OR w5 be [I (a:Int),I (N:Int)] 119:=kI
 have bV:Ext w3 w5:=aD.An ak (λj e=>by omega)
 refine OU O$ PG O$ Qf O ?_
 have fO:Sp Q3 txt K (λb=>X b\/b=be) w5:=fJ.ext bV (λb e=>e.imp id λe=>by omega)
 refine PW O$ Pf O$ qV (Pt (news:=[I (a:Int),I (N:Int)]) Xu O R6 O (OR.cells (i:=0) (n:=2) kI O) O)$ P4 zkz O (z3F fO jp.1 (by omega)) ?_
 rintro _ w6 ⟨wb,bs,bx,bw,sum,rfl,gj,A8,⟨z1',z2',z3',z4'⟩,aI⟩
 have z5:=bV.size
 have z6:=aI.size
 have lbe:=kI.lt
 obtain⟨X6,o6⟩:∃X6:Nat->Prop,(λb=>X b\/b=be\/b=wb\/b=bs\/b=bx\/b=bw)=X6:=⟨_,rfl⟩
 have eB:∀b,X b->X6 b:=λb hb=>by rw[<-o6];exact .inl hb
 have aU:X6 wb/\X6 bs/\X6 bx/\X6 bw:=by rw[<-o6];exact⟨.inr (.inr (.inl O)),.inr (.inr (.inr (.inl O))),.inr (.inr (.inr (.inr (.inl O)))),.inr (.inr (.inr (.inr (.inr O))))⟩
 have G0:X6 be:=by rw[<-o6];exact .inr (.inl O)
 have j4:Sp Q3 txt K X6 w6:=fO.ext aI (λb e=>by
  rw[<-o6] at e;rcases e with e|e| e
  ·exact .inl (.inl e)
  ·exact .inl (.inr e)
  ·exact .inr (by omega))
 have l1:=A8.wr.lt
 have l2:=A8.sb.lt
 have l3:=A8.xb.lt
 have l4:=A8.pb.lt
 have qz:∀b,X6 b->b<w6.heap.size:=λb e=>by
  rw[<-o6] at e;rcases e with e| e
  ·have:=oQ b e;omega
  ·omega
 have G4:be≠wb:=by omega
 refine OK O$ RA O$ PU O$ PG O$ Qf O$ P8 O$ OK O$ P4 zkf O (z4a j4 qz (by omega) A8 gj aU (by omega) jp.1 jp.2.2) ?_
 rintro _ w7 ⟨rfl,sum7,rZ,txt7,rest,rW,iw,gP,G5,G6,aC,sJ⟩
 have z7:=aC.size
 refine Qf O$ PK O$ P8 O$ P4 zkY O (z5b rW (λb e=>by have:=qz b e;omega) (by omega) iw rZ aU (by omega) hN.symm (by rw[show T.length%512=T.length-512*(T.length / 512) by omega];exact gP) (λb hb e=>by have:=qz b e;have:=sJ b hb;omega) G5) ?_
 rintro _ w8 ⟨rfl,txt8,mI,G7,G8,A9,aR⟩
 have z8:=aR.size
 have ph:Kp (λb=>¬X6 b\/b=wb) w6 w8:=aC.trans aR
 have G9:=ph.OC (aI.OC kI) (λe=>e.elim (λe=>e G0) G4)
 refine Qf O$ PK O$ OD$ Pn.qb (e:=[(0,_),(6,_),(7,_),(9,_),(11,_),(59,_)]) ?_
 refine Tu O$ Pf O$ qV (Pt (news:=[I (a:Int),I (N:Int)]) Xu O R6 O (OR.cells (i:=0) (n:=2) G9 O) O)$ P4 zlo O (z7e mI (λb e=>by have:=qz b e;omega) (by omega) jp.1 (by omega) jp.2.2 rZ G8) ?_
 rintro _ w9 ⟨rb,rfl,Aa,HW,vU,aM⟩
 have z9:=aM.size
 have lrb:=Aa.lt
 have hL:Laid txt8 a T:=Laid.of λk hk=>⟨vU.Zq (by omega) (by omega),G7 k hk⟩
 subst hT
 have hO:StO Q3 txt8 (K+(XY p g E).length / 512+2) a N (XY p g E):=⟨by omega,by omega,hL,by omega⟩
 have sP:Kp (λb=>¬X b) w w6:=(aJ.kp.trans av).trans (bV.trans aI).kp
 have sE:Kp (λb=>¬X b) w w8:=sP.An ph λb e=>by
  rcases e with e| e
  ·exact .inr λe2=>e (eB b e2)
  ·exact .inl (by have:=aJ.size;omega)
 have uC:Kp (λb=>¬X b) w w9:=sE.trans (aM.OV λb e e2=>e (eB b e2))
 have z2:=aJ.size
 have uq:¬X rb:=λe=>by have:=hX rb e;omega
 have hI:(z8V hO rb sum7).inv X w9:=⟨vU.less (λb e=>e.imp (eB b) id),Aa,uq⟩
 refine OK O$ RA O$ PU O$ PG O$ Qf O$ PW O$ Pf O$ P4 zkw O (z7x Bg hO hI (λb e=>by have:=hX b e;omega) x1 x2 (uC.OC hG (λe=>e x1)) (uC.OC hU (λe=>e x2))) ?_
 rintro _ w10 ⟨k,x,rfl,EX,ip,My,ar⟩
 refine OK O$ RA O$ RT O$ Qw O$ P8 O$ Ri O$ Rp$ P8 O$ qV (z4L U30 O O)$ QJ O$ PU O$ Pn.qb (e:=[(6,_),(7,_)]) ?_
 refine OB func35 O (⟨_,rfl,⟨p,g,E,a,N,rb,sum7,k,x⟩,txt8,rfl,rfl,rfl,jp.2.1,jp.1,⟨by show w.heap.size<=k;omega,by show w.heap.size<=x;omega,by show w.heap.size<=rb;omega⟩,?_,λy hy=>?_,uC.trans ar⟩)
 ·rw[qy];exact S3.more (G:=⟨p,g,E,a,N,rb,sum7,k,x⟩) ⟨hO,My⟩ (by omega) (by omega)
 ·show txt8 y=txt y;have hy:y<(a:Int)\/(a:Int)+(N:Int)<=y:=hy;rw[A9 y hy,G6 y (by omega)]
structure Wd where
 d:Nat
 Q:Rn
 txt:Int->OG
 K:Nat
 G:Yi
 T:Yi
 a:Nat
def Wd.v (W:Wd):List Value:=[ptr W.d 0,ptr W.Q.s 0,ptr W.G.k 0,ptr W.T.k 0,I ((200-W.a:Nat):Int)]
structure WdM (W:Wd)(g:List (List Nat))(XX:Nat->Prop)(w:World):Prop where
 hg:S3 W.G W.Q W.txt W.K (λb=>XX b/\b≠W.G.rb) w
 ht:S3 W.T W.Q W.txt W.K (λb=>XX b/\b≠W.T.rb) w
 gg:W.G.g=g
 tg:W.T.g=XE g
 pre:Pre W.Q.L W.a
 a:W.a<=146
 L:W.Q.L.length=200
 K:W.K<=400
 gs:W.G.st+W.G.len<=W.T.st
 ts:W.T.st+W.T.len<=W.a
def z1U {w:World}{g:List (List Nat)}(ay:Se g)(aG:1<=g.length)(ib:g.length<=40){ga:Option Addr}{gc:Nat}(lu:GrM w (.slice ga g.length gc) g)(hG:OR w 2 (Sy .gamma) 317)(hU:OR w 3 (Sy .unary) 317)(fr fo:Int)(kR:JIq fr)(Ab:JIq fo):
  Pm prog 7 [.slice ga g.length gc,I fr,I fo] w λv w'=>∃(W:Wd) (XX:Nat->Prop),v= .tuple #[.agg W.v.toArray,.bool true]/\WdM W g XX w'/\Ext w w'/\(∀b,b<w.heap.size->XX b/\b≠W.G.rb/\b≠W.T.rb)/\w.heap.size<=W.G.k/\w.heap.size<=W.G.x:=by
 have r1:=TE fr 12 (by decide)
 have r2:=VE fr 12 (by decide)
 have l1:=hG.lt
 have l2:=hU.lt
 refine py (e:=[(0,_),(1,_),(2,_)]) func7 O ntmps7 O O$ qN O$ OM O O (RN (cs:=[_,_,_,_,_]) z0p O) ?_
 rintro _ w1 ⟨bW,rfl,Og,ad,IV⟩
 have z1:=ad.size
 have lW:=IV.lt
 refine Qw O$ qV (Sk (cs:=[_,_]) zaH O zkL O O)$ P4 zli O (zdp 200 1 _ (by unfold z0b;decide)) ?_
 rintro _ w2 ⟨d,Fd,rfl,hD,ae,Mz⟩
 refine OK O$ RA O$ RT O$ Qw O$ P4 zkW O (z9o 200 (by decide) _) ?_
 rintro _ w3 ⟨m,gi,rfl,hE,hm,tI,ai⟩
 have z2:=ae.size
 have z3:=ai.size
 have MA:=hD.ext ai
 refine OK O$ RA O$ RT O$ Qw O$ P8 O$ qV (yrt O O (by decide))$ PV O$ qV (yrt O O (by decide)) ?_
 rw[show(fr.tmod 12+12).tmod 12=nrm fr 12 from rfl]
 obtain⟨nf,MB,Ga,MC⟩:∃nf:Nat,1+nrm fr 12=(nf:Int)/\1<=nf/\nf<=12:=⟨(1+nrm fr 12).toNat,by omega,by omega,by omega⟩
 refine PV O ?_
 rw[MB]
 have fR:(List.replicate 200 false).length=200:=List.length_replicate
 have MD:¬Fd m/\¬Fd gi:=⟨λe=>by have:=hD.lt _ e;omega,λe=>by have:=hD.lt _ e;omega⟩
 refine OK O$ P4 zkR O (za7 (L:=List.replicate 200 false) (by rw[fR];exact MA) hE MD nf Ga (by omega)) ?_
 rintro _ w4 ⟨P,rfl,hM,hI,ME,MF,IW,MG,aD⟩
 have z4:=aD.size
 have bF:Ext w w4:=((ad.trans ae).trans ai).trans aD
 have Gb:=((ae.trans ai).trans aD).OC IV
 obtain⟨X,hX⟩:∃X:Nat->Prop,(λb=>b<w.heap.size\/b=bW)=X:=⟨_,rfl⟩
 have Gc:∀b,X b->b<w1.heap.size:=λb e=>by rw[<-hX] at e;omega
 have oh:∀b,b<w.heap.size->X b:=λb e=>by rw[<-hX];exact .inl e
 have BG:X bW:=by rw[<-hX];exact .inr O
 have ii:Sp P (λ_=>zeros 512) 0 X w4:=⟨P,hM,hI,⟨rfl,rfl,rfl,rfl,rfl,rfl,rfl,rfl,rfl⟩,λb hb e=>by
  have:=Gc b e;rcases MG b hb with e|e|e| e
  ·have:=Mz b e;omega
  ·omega
  ·omega
  ·omega⟩
 have dR:Pre P.L 2:=by
  rw[IW];exact⟨Nat.le_refl _,by rw[fR];omega,λi h1 h2=>by omega,λi h1 h2=>by rw[fR] at h2;rw[List.getElem?_replicate,if_pos h2]⟩
 have Oh:P.L.length=200:=by rw[IW,fR]
 refine OK O$ RA O$ PU O$ Pn.qb (e:=[(0,_),(2,_),(6,_),(7,_),(8,_),(9,_),(10,_),(11,_),(12,_),(13,_)]) ?_
 refine PG O$ Qf O$ PF$ P8 O$ Qf O$ PF$ PK O$ P8 O$ Qf O$ PF$ PK O$ P8 O$ qV (Qi XF O O)$ PK O ?_
 refine PW O$ Qm O$ OK O$ P4 zhN O (z4j fo Ab _) ?_
 rintro _ w5 ⟨p1,rfl,CC,mz,aT⟩
 have z5:=aT.size
 have bL:=bF.trans aT
 have MH:∀b,X b->b<w5.heap.size:=λb e=>by have:=Gc b e;omega
 refine P4 zi7 O (z5i (ii.ext' aT) MH (by omega) (oh 2 l1) (oh 3 l2) (bL.OC hG) (bL.OC hU) ay aG ib (lu.ext bL) CC mz dR (by omega)) ?_
 rintro _ w6 ⟨G,txt6,rfl,MI,Oi,Oj,MJ,⟨n1,n2,n3⟩,bI,s6,aP⟩
 have iF:Ext w w6:=bL.An aP (λb e=>by
  rcases Nat.lt_or_ge b w.heap.size with h| h
  ·exact absurd (oh b h) e
  ·exact h)
 have z6:=aP.size
 have Gd:=aP.OC (aT.OC Gb) (λe=>e BG)
 have A7:(Qh P.L 2 G.len true).length=P.L.length:=PY (by omega)
 have ol:Pre (Qh P.L 2 G.len true) (2+G.len):=Wr dR (by omega)
 obtain⟨Q6,Ge⟩:∃Q6,P.Qj (Qh P.L 2 G.len true)=Q6:=⟨_,rfl⟩
 have Gf:Q6.L=Qh P.L 2 G.len true:=by rw[<-Ge];rfl
 have uD:Q6.s=P.s/\Q6.d=P.d/\Q6.m=P.m:=by rw[<-Ge];exact⟨rfl,rfl,rfl⟩
 rw[Ge] at bI
 rw[<-Gf] at A7 ol
 obtain⟨gb,go,gc',jR,oo⟩:=lu.r aG
 cases jR
 refine OK O$ RA O$ PU O$ Pn.qb (e:=[(0,_),(2,_),(6,_),(7,_),(8,_),(10,_),(12,_),(14,_),(15,_)]) ?_
 refine Qm O$ P4 zkK O (z5S ay (oo.ext iF)) ?_
 rintro _ w7 ⟨bt,rfl,MK,bY⟩
 have ge:=iF.trans bY
 have z7:=bY.size
 have mN:=bI.ext bY
 have kQ:=Yk g
 refine OK O$ qV (zaU O O) ?_
 obtain⟨fo2,Ac⟩:∃z,IntKind.i64.wrap (fo+1)=z:=⟨_,rfl⟩
 have Ad:JIq fo2:=by
  rw[<-Ac,IntKind.wrap_i64];omega
 rw[Ac]
 refine P4 zhN O (z4j fo2 Ad _) ?_
 rintro _ w8 ⟨p2,rfl,po,mS,dy⟩
 have z8:=dy.size
 have bZ:=mN.ext dy
 have oq:=ge.trans dy
 obtain⟨X2,gR⟩:∃X2:Nat->Prop,(λb=>(X b\/b=G.x\/b=G.k)\/b=G.rb)=X2:=⟨_,rfl⟩
 have iB:∀b,X b->X2 b:=λb e=>by rw[<-gR];exact .inl (.inl e)
 have mI:Sp Q6 txt6 (0+200) X2 w8:=by rw[<-gR];exact bZ.sp
 have Gg:∀b,X2 b->b<w8.heap.size:=λb e=>bZ.lt1 b (by rw[<-gR] at e;exact e)
 have Gh:GrM w8 (.slice (some ⟨bt,0,none⟩) (XE g).length (XE g).length) (XE g):=(MK.ext dy).gr
 have oH:=z5i mI Gg (by omega) (iB _ (oh 2 l1)) (iB _ (oh 3 l2)) (oq.OC hG) (oq.OC hU) (zc5 ay) (by omega) (by omega) Gh po mS ol (by omega)
 rw[uD.1,kQ] at oH
 refine P4 zi7 O (oH) ?_
 rintro _ w9 ⟨T,txt9,rfl,ML,Ol,MM,MN,⟨t1,t2,t3⟩,iO,Gi,aM⟩
 have z9:=aM.size
 have gB:Ext w w9:=oq.An aM (λb e=>by
  rcases Nat.lt_or_ge b w.heap.size with h| h
  ·exact absurd (iB b (oh b h)) e
  ·exact h)
 have Gj:=aM.OC ((bY.trans dy).OC Gd) (λe=>e (iB _ BG))
 have IX:(Qh Q6.L (2+G.len) T.len true).length=Q6.L.length:=PY (by omega)
 have ot:Pre (Qh Q6.L (2+G.len) T.len true) (2+G.len+T.len):=Wr ol (by omega)
 obtain⟨Q9,Gk⟩:∃Q9,Q6.Qj (Qh Q6.L (2+G.len) T.len true)=Q9:=⟨_,rfl⟩
 have Gl:Q9.L=Qh Q6.L (2+G.len) T.len true:=by rw[<-Gk];rfl
 have uE:Q9.s=Q6.s/\Q9.d=Q6.d/\Q9.m=Q6.m:=by rw[<-Gk];exact⟨rfl,rfl,rfl⟩
 rw[Gk] at iO
 rw[<-Gl] at IX ot
 have Ae:=iO.sp
 have uF:=iO.lt1
 have MO:S3 G Q9 txt9 (0+200+200) (λb=>(X b\/b=G.x\/b=G.k)\/b=T.x\/b=T.k\/b=T.rb) w9:=bZ.zdM aM (λb e=>by rw[<-gR] at e;exact e) (λj e=> .inl e) (λj e=>e.imp id λe=>by
   have h1:=uF T.x (.inl (.inr (.inl O)));have h2:=uF T.k (.inl (.inr (.inr O)));have h3:=uF T.rb (.inr O)
   omega) (Ae.less λb e=>by
   rw[<-gR];rcases e with(e|e|e|e)| e
   ·exact .inl (.inl (.inl e))
   ·exact .inl (.inr (.inl e))
   ·exact .inl (.inr (.inr e))
   ·exact .inr e
   ·exact .inl (.inl (.inr e))) uE.1 IX (by omega) (λy h1 h2=>Gi y (.inl (by omega)))
 have io:=Ae.room ot (by omega)
 rw[uE.2.2,uD.2.2,ME] at io
 refine OK O$ RA O$ RT O$ Qw O$ P8 O$ P8 O$ OK O$ P4 zlu O (io) ?_
 rintro _ w10 ⟨rfl,bG⟩
 have Af:=bG.OC Gj
 rw[show Q9.L.length-(2+G.len+T.len)=200-(2+G.len+T.len) by omega]
 refine qV (Sk (cs:=[_,_,_,_,_]) z0p O zlk O O)$ P8 O$ OK O$ QJ O$ OW O (PO (news:=[_,_,_,_,_]) z0p O O O O Af (by simp)) ?_
 rintro w11 ⟨Ag,bu⟩
 refine OU O$ Pn.qb (e:=[(6,_),(7,_)]) ?_
 refine Po func7 (.cell U32 O z0p O (OR.cells (n:=5) Ag (news:=[_,_,_,_,_]) O) O (.tmp O .nil)) ?_
 obtain⟨XX,eB⟩:∃XX:Nat->Prop,(λb=>X b\/b=G.x\/b=G.k\/b=G.rb\/b=T.x\/b=T.k\/b=T.rb)=XX:=⟨_,rfl⟩
 have IY:=bZ.rbX
 have IZ:=iO.rbX
 have Ah:=bZ.xk
 have J0:=iO.xk
 have zG:=bZ.lt1 _ (.inr O)
 have zGk:=bZ.lt1 _ (.inl Ah.1)
 have zGx:=bZ.lt1 _ (.inl Ah.2.1)
 have iZ:∀b,X b->b<w1.heap.size:=Gc
 have Gm:S3 G Q9 txt9 400 (λb=>XX b/\b≠G.rb) w11:=by
  refine S3.less (Y:=λb=>(X b\/b=G.x\/b=G.k)\/b=T.x\/b=T.k\/b=T.rb) ((MO.ext bG).own bu λj e=>?_) (λb e=>?_) ?_
  ·subst e;exact⟨.inl (.inl BG),by omega,by omega,by omega,by omega⟩
  ·rw[<-eB] at e;rcases e with⟨e|e|e|e|e,h⟩
   ·exact .inl (.inl e)
   ·exact .inl (.inr (.inl e))
   ·exact .inl (.inr (.inr e))
   ·exact absurd e h
   ·exact .inr e
  ·rw[<-eB];exact⟨⟨.inr (.inr (.inl O)),λe=>IY (e▸Ah.1)⟩,⟨.inr (.inl O),λe=>IY (e▸Ah.2.1)⟩,⟨.inl (oh 2 l1),by omega⟩,⟨.inl (oh 3 l2),by omega⟩⟩
 have Gn:S3 T Q9 txt9 400 (λb=>XX b/\b≠T.rb) w11:=by
  refine S3.less (Y:=λj=>X2 j\/j=T.x\/j=T.k) ((iO.ext bG).own bu λj e=>?_) (λb e=>?_) ?_
  ·subst e;exact⟨.inl (iB _ BG),by omega,by omega,by omega,by omega⟩
  ·rw[<-eB] at e;rw[<-gR];rcases e with⟨e|e|e|e|e|e|e,h⟩
   ·exact .inl (.inl (.inl e))
   ·exact .inl (.inl (.inr (.inl e)))
   ·exact .inl (.inl (.inr (.inr e)))
   ·exact .inl (.inr e)
   ·exact .inr (.inl e)
   ·exact .inr (.inr e)
   ·exact absurd e h
  ·rw[<-eB];exact⟨⟨.inr (.inr (.inr (.inr (.inr (.inl O))))),λe=>IZ (e▸J0.1)⟩,⟨.inr (.inr (.inr (.inr (.inl O)))),λe=>IZ (e▸J0.2.1)⟩,⟨.inl (oh 2 l1),by omega⟩,⟨.inl (oh 3 l2),by omega⟩⟩
 refine⟨_,rfl,⟨d,Q9,txt9,400,G,T,2+G.len+T.len⟩,XX,?_,⟨Gm,Gn,MI,ML,ot,?_,?_,?_,?_,?_⟩,?_,λb hb=>⟨by rw[<-eB];exact .inl (oh b hb),λe=>?_,λe=>?_⟩,?_,?_⟩
 ·unfold Wd.v;rw[uE.1,uD.1]
  rfl
 ·show 2+G.len+T.len<=146;omega
 ·show Q9.L.length=200;omega
 ·exact Nat.le_refl _
 ·show G.st+G.len<=T.st;omega
 ·show T.st+T.len<=2+G.len+T.len;omega
 ·exact(gB.trans bG).An bu λb e=>by omega
 ·have e:b=G.rb:=e;omega
 ·have e:b=T.rb:=e;omega
 ·show w.heap.size<=G.k;omega
 ·show w.heap.size<=G.x;omega
def z8I {w:World}{g:List (List Nat)}(ay:Se g)(aG:1<=g.length)(ib:g.length<=40){ga:Option Addr}{gc:Nat}(lu:GrM w (.slice ga g.length gc) g)(hG:OR w 2 (Sy .gamma) 317)(hU:OR w 3 (Sy .unary) 317)(fr fo:Int)(kR:JIq fr)(Ab:JIq fo):
  Pm prog 7 [.slice ga g.length gc,I fr,I fo] w λv w'=>∃(W:Wd) (XX:Nat->Prop),v= .tuple #[.agg W.v.toArray,.bool true]/\WdM W g XX w'/\Ext w w'/\∀b,b<w.heap.size->XX b/\b≠W.G.rb/\b≠W.T.rb:=by
 refine(z1U ay aG ib lu hG hU fr fo kR Ab).mono ?_
 rintro v w' ⟨W,XX,h1,h2,h3,h4,-⟩
 exact⟨W,XX,h1,h2,h3,h4⟩
structure RuK (σ:Type) where
 M:Rn->(Int->OG)->Nat->Nat->(Nat->Prop)->Nat->Nat->σ->World->Prop
 tm:σ->Nat
 c0:Nat
 c1:Nat
 kp:∀{Q:Rn} {txt:Int->OG} {k rr:Nat} {O_:Nat->Prop} {a L:Nat} {s:σ} {w w':World} {S:Nat->Prop},M Q txt k rr O_ a L s w->Kp S w w'->(∀b,O_ b->¬S b)->M Q txt k rr O_ a L s w'
 TH:∀{Q:Rn} {txt txt':Int->OG} {k rr:Nat} {O_:Nat->Prop} {a L:Nat} {s:σ} {w:World},M Q txt k rr O_ a L s w->(∀y:Int,(a:Int)<=y->y<(a:Int)+(L:Int)->txt' y=txt y)->M Q txt' k rr O_ a L s w
 q:∀{Q Q':Rn} {txt:Int->OG} {k rr:Nat} {O_:Nat->Prop} {a L:Nat} {s:σ} {w:World},M Q txt k rr O_ a L s w->Q'.s=Q.s->Q'.L.length=Q.L.length->M Q' txt k rr O_ a L s w
structure Ru {σ:Type}(R:RuK σ)(G:Yi)(Q:Rn)(txt:Int->OG)(K:Nat)(X:Nat->Prop)(rr:Nat)(O_:Nat->Prop)(a L:Nat)(s:σ)(w:World):Prop where
 g:S3 G Q txt K X w
 m:R.M Q txt G.k rr O_ a L s w
 xr:∀b,O_ b->X b
 ro:O_ rr
 ne:∀b,O_ b->b≠G.k/\b≠G.x/\b≠2/\b≠3
 VF:G.st+G.len<=a
 n:G.g.length<=40
section
variable {σ:Type}{R:RuK σ}{J:σ->Prop}{w0 w w':World}{g:List (List Nat)}{G G1 G2:Yi}{Q Q1 Q2 Q':Rn}{txt txt1 txt2 txt':Int->OG}{K K1 K2 K':Nat}{X X1 X2 Y S' O_ O1 O2:Nat->Prop}{rr r1 a1 r2 a2 a L L1 L2:Nat}{s s' s1 s2:σ}
theorem Ru.step (h:Ru R G Q txt K X rr O_ a L s w)(hk:Kp S' w w')(hS:∀j,S' j->X j/\j≠G.k/\j≠G.x/\j≠2/\j≠3/\¬O_ j)(hXY:∀j,X j->Y j)(hY:∀j,Y j->X j\/(w.heap.size<=j/\j<w'.heap.size)):Ru R G Q txt K Y rr O_ a L s w':=
 ⟨h.g.step hk (λj e=>⟨(hS j e).1,(hS j e).2.1,(hS j e).2.2.1,(hS j e).2.2.2.1,(hS j e).2.2.2.2.1⟩) hY hXY,R.kp h.m hk (λb hb e=>(hS b e).2.2.2.2.2 hb),λb hb=>hXY b (h.xr b hb),h.ro,h.ne,h.VF,h.n⟩
theorem Ru.lts (h:Ru R G Q txt K X rr O_ a L s w):(∀b,O_ b->b<w.heap.size)/\G.k<w.heap.size/\G.x<w.heap.size/\2<w.heap.size/\3<w.heap.size:=by
 have h1:=h.g.lt
 have h2:=h.g.xk
 exact⟨λb hb=>h1 _ (h.xr b hb),h1 _ h2.1,h1 _ h2.2.1,h1 _ h2.2.2.1,h1 _ h2.2.2.2⟩
def Ru.ext (h:Ru R G Q txt K X rr O_ a L s w)(hx:Ext w w'):Ru R G Q txt K X rr O_ a L s w':=
 h.step hx (λ_ e=>e.elim) (λ_ e=>e) (λ_ e=> .inl e)
def Ru.grow (h:Ru R G Q txt K X rr O_ a L s w)(hx:Ext w w')(hY:∀j,Y j->X j\/(w.heap.size<=j/\j<w'.heap.size))(hXY:∀j,X j->Y j):Ru R G Q txt K Y rr O_ a L s w':=
 h.step hx (λ_ e=>e.elim) hXY hY
theorem Ru.less (h:Ru R G Q txt K Y rr O_ a L s w)(hXY:∀j,X j->Y j)(hx:X G.k/\X G.x/\X 2/\X 3)(hr:∀b,O_ b->X b):Ru R G Q txt K X rr O_ a L s w:=⟨h.g.less hXY hx,h.m,hr,h.ro,h.ne,h.VF,h.n⟩
theorem Ru.more (h:Ru R G Q txt K X rr O_ a L s w)(hK:K<=K')(hK':K'<1000000000000):Ru R G Q txt K' X rr O_ a L s w:=⟨h.g.more hK hK',h.m,h.xr,h.ro,h.ne,h.VF,h.n⟩
def Ru.own (h:Ru R G Q txt K X rr O_ a L s w)(hk:Kp S' w w')(hS:∀j,S' j->X j/\j≠G.k/\j≠G.x/\j≠2/\j≠3/\¬O_ j):Ru R G Q txt K X rr O_ a L s w':=
 h.step hk hS (λ_ e=>e) (λ_ e=> .inl e)
theorem Ru.read (h:Ru R G Q txt K X rr O_ a L s w)(hk:Kp (λb=>¬(X b\/b=G.rb)) w w')(hP:Sp Q txt K (λb=>X b\/b=G.rb) w'):Ru R G Q txt K X rr O_ a L s w':=
 ⟨h.g.Zu hk (λb e=> .inl e) hP O O h.g.z5E (λ_ _ _=>rfl),R.kp h.m hk (λb hb e=>e (.inl (h.xr b hb))),h.xr,h.ro,h.ne,h.VF,h.n⟩
theorem Ru.Zu (h:Ru R G Q txt K X rr O_ a L s w)(hK:K'<1000000000000)(hk:Kp S' w w')(hS:∀b,S' b->¬(X b\/b=G.rb)\/O_ b)(hP:Sp Q txt' K' (λb=>X b\/b=G.rb) w')(hy:∀y:Int,y<(a:Int)\/(a:Int)+(L:Int)<=y->txt' y=txt y)(hm:R.M Q txt' G.k rr O_ a L s' w'):Ru R G Q txt' K' X rr O_ a L s' w':=by
 have hd:=h.VF
 exact⟨h.g.Zu hk (λb e=>(hS b e).imp id λhb=>⟨h.xr b hb,h.ne b hb⟩) hP O O hK (λy h1 h2=>hy y (.inl (by omega))),hm,h.xr,h.ro,h.ne,h.VF,h.n⟩
theorem Ru.set (h:Ru R G Q txt K X rr O_ a L s w)(hk:Kp S' w w')(hS:∀b,S' b->O_ b)(hm:R.M Q txt G.k rr O_ a L s' w'):Ru R G Q txt K X rr O_ a L s' w':=
 ⟨h.g.own hk (λj e=>⟨h.xr j (hS j e),h.ne j (hS j e)⟩),hm,h.xr,h.ro,h.ne,h.VF,h.n⟩
theorem Ru.list (h:Ru R G Q txt K X rr O_ a L s w)(hg:S3 G Q txt K Y w')(hk:Kp (λj=>¬X j) w w')(hXY:∀j,X j->Y j):Ru R G Q txt K Y rr O_ a L s w':=
 ⟨hg,R.kp h.m hk (λb hb e=>e (h.xr b hb)),λb hb=>hXY b (h.xr b hb),h.ro,h.ne,h.VF,h.n⟩
structure UP (R:RuK σ)(J:σ->Prop)(w0:World)(g:List (List Nat))(G:Yi)(Q:Rn)(txt:Int->OG)(K:Nat)(X:Nat->Prop)(rr:Nat)(O_:Nat->Prop)(a L:Nat)(s:σ)(w:World):Prop where
 m:Ru R G Q txt K X rr O_ a L s w
 j:J s
 gg:G.g=g
 top:∀b,b<w0.heap.size->X b
 lo:∀b,O_ b->w0.heap.size<=b
 a2:2<=a
 fit:a+L<=Q.L.length
 own:∀i,a<=i->i<a+L->Q.L[i]? =some true
theorem UP.step (h:UP R J w0 g G Q txt K X rr O_ a L s w)(hk:Kp S' w w')(hS:∀j,j<w.heap.size->S' j->X j/\j≠G.k/\j≠G.x/\j≠2/\j≠3/\¬O_ j)(hXY:∀j,X j->Y j)(hY:∀j,Y j->X j\/(w.heap.size<=j/\j<w'.heap.size)):UP R J w0 g G Q txt K Y rr O_ a L s w':=
 ⟨h.m.step (S':=λj=>j<w.heap.size/\S' j) (hk.mono λj h1 h2=>⟨h1,h2⟩) (λj e=>hS j e.1 e.2) hXY hY,h.j,h.gg,λb hb=>hXY b (h.top b hb),h.lo,h.a2,h.fit,h.own⟩
def UP.ext (h:UP R J w0 g G Q txt K X rr O_ a L s w)(hx:Ext w w'):UP R J w0 g G Q txt K (λj=>X j\/(w.heap.size<=j/\j<w'.heap.size)) rr O_ a L s w':=
 h.step hx (λ_ _ e=>e.elim) (λj e=> .inl e) λj e=>e
theorem UP.other (h:UP R J w0 g G Q txt K X rr O_ a L s w)(hg:S3 G Q' txt' K' Y w')(hXY:∀j,X j->Y j)(hk:Kp (λb=>¬X b\/O2 b) w w')(hn:∀b,O_ b->¬O2 b)(hs:Q'.s=Q.s)(hl:Q'.L.length=Q.L.length)(hy:∀y:Int,(a:Int)<=y->y<(a:Int)+(L:Int)->txt' y=txt y)(ho:∀i,a<=i->i<a+L->Q'.L[i]? =some true):UP R J w0 g G Q' txt' K' Y rr O_ a L s w':=by
 have hm:=h.m
 have hvec:=R.q (R.TH (R.kp hm.m hk λb hb e=>e.elim (λe=>e (hm.xr b hb)) (hn b hb)) hy) hs hl
 exact⟨⟨hg,hvec,λb hb=>hXY b (hm.xr b hb),hm.ro,hm.ne,hm.VF,hm.n⟩,h.j,h.gg,λb hb=>hXY b (h.top b hb),h.lo,h.a2,by rw[hl];exact h.fit,ho⟩
structure RuA (w:World)(G1:Yi)(X1 O1:Nat->Prop)(G2:Yi)(X2 O2:Nat->Prop):Prop where
 cov:∀j,j<w.heap.size->X1 j\/X2 j
 x1:(∀b,O2 b->X1 b)/\X1 G2.k/\X1 G2.x
 x2:(∀b,O1 b->X2 b)/\X2 G1.k/\X2 G1.x
 n:∀b,O1 b->¬O2 b
 n1:∀b,O1 b->b≠G2.k/\b≠G2.x
 n2:∀b,O2 b->b≠G1.k/\b≠G1.x
theorem RuA.symm (h:RuA w G1 X1 O1 G2 X2 O2):RuA w G2 X2 O2 G1 X1 O1:=
 ⟨λj hj=>(h.cov j hj).symm,h.x2,h.x1,λb h1 h2=>h.n b h2 h1,h.n2,h.n1⟩
def z3l (h1:Ru R G1 Q1 txt1 K1 X1 r1 O1 a1 L1 s1 w)(h2:UP R J w0 g G2 Q2 txt2 K2 X2 r2 O2 a2 L2 s2 w)(hA:RuA w G1 X1 O1 G2 X2 O2)(hk:Kp (λb=>¬X1 b\/O1 b) w w'):∃Y,UP R J w0 g G2 Q2 txt2 K2 Y r2 O2 a2 L2 s2 w'/\RuA w' G1 X1 O1 G2 Y O2/\∀j,X2 j->Y j:=by
 have hx:=h1.g.xk
 obtain⟨q1,q2,q3⟩:=hA.x1
 obtain⟨p1,p2,p3⟩:=hA.x2
 have hz:=hk.size
 refine⟨λj=>X2 j\/(w.heap.size<=j/\j<w'.heap.size),h2.step hk (λj hj e=>?_) (λj e=> .inl e) (λj e=>e),⟨λj hj=>?_,hA.x1,⟨λb hb=> .inl (p1 b hb),.inl p2,.inl p3⟩,hA.n,hA.n1,hA.n2⟩,λj e=> .inl e⟩
 ·rcases e with e| e
  ·have hX:=(hA.cov j hj).resolve_left e;exact⟨hX,λh=>e (h▸q2),λh=>e (h▸q3),λh=>e (h▸hx.2.2.1),λh=>e (h▸hx.2.2.2),λh=>e (q1 _ h)⟩
  ·have h3:=h1.ne j e;have h4:=hA.n1 j e;exact⟨p1 j e,h4.1,h4.2,h3.2.2.1,h3.2.2.2,hA.n j e⟩
 ·by_cases hjw:j<w.heap.size
  ·exact(hA.cov j hjw).imp id .inl
  ·exact .inr (.inr ⟨by omega,hj⟩)
def ruB (R:RuK σ)(s1 s2:σ):Nat:=R.c0+R.c1*(R.tm s1+R.tm s2)
theorem z1p:ruB R s1 s2=ruB R s2 s1:=by unfold ruB;rw[Nat.add_comm (R.tm s1)]
def zgd (h:R.tm s1<=R.tm s'):ruB R s1 s2<=ruB R s' s2:=Nat.add_le_add_left (Nat.mul_le_mul_left _ (Nat.add_le_add_right h _)) _
inductive RuP (R:RuK σ) (J:σ->Prop) (w0:World) (g:List (List Nat)) (r1 r2:Nat) (s1 s2:σ) (w:World):Prop
 |same (G:Yi) (Q:Rn) (txt:Int->OG) (K:Nat) (X O1:Nat->Prop) (a1 L1:Nat) (O2:Nat->Prop) (a2 L2:Nat) (h1:UP R J w0 g G Q txt K X r1 O1 a1 L1 s1 w) (h2:UP R J w0 g G Q txt K X r2 O2 a2 L2 s2 w) (ha:a1+L1<=a2\/a2+L2<=a1) (hn:∀b,O1 b->¬O2 b) (hK:K<=ruB R s1 s2):RuP R J w0 g r1 r2 s1 s2 w
 |own (G1:Yi) (Q1:Rn) (txt1:Int->OG) (K1:Nat) (X1 O1:Nat->Prop) (a1 L1:Nat) (G2:Yi) (Q2:Rn) (txt2:Int->OG) (K2:Nat) (X2 O2:Nat->Prop) (a2 L2:Nat) (h1:UP R J w0 g G1 Q1 txt1 K1 X1 r1 O1 a1 L1 s1 w) (h2:UP R J w0 g G2 Q2 txt2 K2 X2 r2 O2 a2 L2 s2 w) (hA:RuA w G1 X1 O1 G2 X2 O2) (hK1:K1<=ruB R s1 s2) (hK2:K2<=ruB R s1 s2):RuP R J w0 g r1 r2 s1 s2 w
theorem RuP.symm (h:RuP R J w0 g r1 r2 s1 s2 w):RuP R J w0 g r2 r1 s2 s1 w:=by
 cases h with
 |same G Q txt K X O1 a1 L1 O2 a2 L2 h1 h2 ha hn hK=>exact .same G Q txt K X O2 a2 L2 O1 a1 L1 h2 h1 ha.symm (λb e1 e2=>hn b e2 e1) (by rw[z1p];exact hK)
 |own G1 Q1 txt1 K1 X1 O1 a1 L1 G2 Q2 txt2 K2 X2 O2 a2 L2 h1 h2 hA hK1 hK2=>exact .own G2 Q2 txt2 K2 X2 O2 a2 L2 G1 Q1 txt1 K1 X1 O1 a1 L1 h2 h1 hA.symm (by rw[z1p];exact hK2) (by rw[z1p];exact hK1)
theorem RuP.op1 (h:RuP R J w0 g r1 r2 s1 s2 w):∃G Q txt K X O1 a1 L1,UP R J w0 g G Q txt K X r1 O1 a1 L1 s1 w/\K<=ruB R s1 s2/\
  ∀(w':World) (txt':Int->OG) (K':Nat) (s':σ),UP R J w0 g G Q txt' K' X r1 O1 a1 L1 s' w'->(∀y:Int,y<(a1:Int)\/(a1:Int)+(L1:Int)<=y->txt' y=txt y)->Kp (λb=>¬X b\/O1 b) w w'->R.tm s1<=R.tm s'->K'<=ruB R s' s2->RuP R J w0 g r1 r2 s' s2 w':=by
 cases h with
 | same G Q txt K X O1 a1 L1 O2 a2 L2 h1 h2 ha hn hK =>
   refine⟨G,Q,txt,K,X,O1,a1,L1,h1,hK,λw' txt' K' s' h1' hy hk ht hK'=>?_⟩
   exact .same G Q txt' K' X O1 a1 L1 O2 a2 L2 h1' (h2.other h1'.m.g (λ_ e=>e) hk (λb e1 e2=>hn b e2 e1) O O (λy e1 e2=>hy y (by omega)) h2.own) ha hn hK'
 | own G1 Q1 txt1 K1 X1 O1 a1 L1 G2 Q2 txt2 K2 X2 O2 a2 L2 h1 h2 hA hK1 hK2 =>
   refine⟨G1,Q1,txt1,K1,X1,O1,a1,L1,h1,hK1,λw' txt' K' s' h1' hy hk ht hK'=>?_⟩;obtain⟨Y,h2',hA',-⟩:=z3l h1.m h2 hA hk;exact .own G1 Q1 txt' K' X1 O1 a1 L1 G2 Q2 txt2 K2 Y O2 a2 L2 h1' h2' hA' hK' (Nat.le_trans hK2 (zgd ht))
def UP.new (h:UP R J w0 g G Q txt K X r1 O_ a1 L1 s1 w)(hk:Kp (λb=>¬X b\/O_ b) w w')(hx:Ext w0 w):Ext w0 w':=hx.An hk λb e=>by
 rcases Nat.lt_or_ge b w0.heap.size with hb|hb
 ·rcases e with e| e
  ·exact absurd (h.top b hb) e
  ·exact h.lo b e
 ·exact hb
end
def mW (p:Nat):Nat:=2^p / 8
theorem zaf {p:Nat}(hp:4<=p):mW p*8=2^p:=by
 unfold mW
 rw[show p=(p-3)+3 by omega,Nat.pow_add]
 omega
def z1l {p:Nat}(hp:4<=p/\p<=16):2<=mW p/\mW p<=8192:=by
 have h1:2^4<=2^p:=Nat.pow_le_pow_right (by decide) hp.1
 have h2:2^p<=2^16:=Nat.pow_le_pow_right (by decide) hp.2
 unfold mW
 omega
def blC (s:Si)(k vn vx vs:Nat):List Value:=[I (s.t:Int),.bool s.done,ptr k 0,I (s.p:Int),I (s.rounds:Int),ptr vn 0,ptr vx 0,ptr vs 0,.bool false]
structure ZE (Q:Rn)(txt:Int->OG)(k rr:Nat)(O_:Nat->Prop)(a L:Nat)(s:Si)(ys:List Nat)(vn vx vs an ax:Nat)(w:World):Prop where
 o:O_ rr/\O_ vn/\O_ vx/\O_ vs
 ne:rr≠vn/\rr≠vx/\rr≠vs/\vn≠vx/\vn≠vs/\vx≠vs
 run:OR w rr (blC s k vn vx vs) 100
 now:Tz Q txt vn 8 an (UW (mW s.p) s.sk) w
 next:Tz Q txt vx 8 ax ys w
 Qd:Tz Q txt vs 8 (a+2*Rl (s.sk.length*mW s.p) 64) s.Qd w
 yl:ys.length=s.sk.length*mW s.p
 at_:(an=a/\ax=a+Rl (s.sk.length*mW s.p) 64)\/(an=a+Rl (s.sk.length*mW s.p) 64/\ax=a)
 L:L=2*Rl (s.sk.length*mW s.p) 64+Rl s.Qd.length 64
section
variable {w w':World}{Q Q':Rn}{txt txt':Int->OG}{k rr a L vn vx vs an ax:Nat}{s:Si}{ys ys':List Nat}{O_ S:Nat->Prop}
def ZE.wl (h:ZE Q txt k rr O_ a L s ys vn vx vs an ax w):(UW (mW s.p) s.sk).length=s.sk.length*mW s.p:=Ry _ _
def ZE.kp (h:ZE Q txt k rr O_ a L s ys vn vx vs an ax w)(hk:Kp S w w')(hS:∀b,O_ b->¬S b):ZE Q txt k rr O_ a L s ys vn vx vs an ax w':=
 ⟨h.o,h.ne,hk.OC h.run (hS _ h.o.1),h.now.kp hk (hS _ h.o.2.1),h.next.kp hk (hS _ h.o.2.2.1),h.Qd.kp hk (hS _ h.o.2.2.2),h.yl,h.at_,h.L⟩
def ZE.TH (h:ZE Q txt k rr O_ a L s ys vn vx vs an ax w)(e:∀y:Int,(a:Int)<=y->y<(a:Int)+(L:Int)->txt' y=txt y):ZE Q txt' k rr O_ a L s ys vn vx vs an ax w:=by
 have h1:=h.L
 have h2:=h.at_
 have h3:=h.wl
 have h4:=h.yl
 refine⟨h.o,h.ne,h.run,h.now.TH λy e1 e2=>?_,h.next.TH λy e1 e2=>?_,h.Qd.TH λy e1 e2=>?_,h.yl,h.at_,h.L⟩
 ·rw[h3,show 512 / 8=64 from rfl] at e2;exact e y (by omega) (by omega)
 ·rw[h4,show 512 / 8=64 from rfl] at e2;exact e y (by omega) (by omega)
 ·rw[show 512 / 8=64 from rfl] at e2;exact e y (by omega) (by omega)
theorem ZE.q (h:ZE Q txt k rr O_ a L s ys vn vx vs an ax w)(hs:Q'.s=Q.s)(hl:Q'.L.length=Q.L.length):ZE Q' txt k rr O_ a L s ys vn vx vs an ax w:=
 ⟨h.o,h.ne,h.run,h.now.q hs hl,h.next.q hs hl,h.Qd.q hs hl,h.yl,h.at_,h.L⟩
def ZE.zhg (h:ZE Q txt k rr O_ a L s ys vn vx vs an ax w)(hk:Kp S w w')(hS:∀b,O_ b->¬S b)(hv:Tz Q txt' vx 8 ax ys' w')(hl:ys'.length=ys.length)(ht:∀y:Int,y<(ax:Int)\/(ax:Int)+(Rl ys'.length 64:Int)<=y->txt' y=txt y):ZE Q txt' k rr O_ a L s ys' vn vx vs an ax w':=by
 have h1:=h.L
 have h2:=h.at_
 have h3:=h.wl
 have h4:=h.yl
 have h5:=h.kp hk hS
 rw[hl,h4] at ht
 refine⟨h.o,h.ne,h5.run,h5.now.TH λy e1 e2=>ht y ?_,hv,h5.Qd.TH λy e1 e2=>ht y ?_,by rw[hl];exact h4,h.at_,h.L⟩
 ·rw[h3,show 512 / 8=64 from rfl] at e2;omega
 ·omega
def ZE.zeF {xs':List Nat}(h:ZE Q txt k rr O_ a L s ys vn vx vs an ax w)(hk:Kp S w w')(hS:∀b,O_ b->¬S b)(hv:Tz Q txt' vs 8 (a+2*Rl (s.sk.length*mW s.p) 64) xs' w')(hl:xs'.length=s.Qd.length)(ht:∀y:Int,y<((a+2*Rl (s.sk.length*mW s.p) 64:Nat):Int)\/((a+2*Rl (s.sk.length*mW s.p) 64:Nat):Int)+(Rl xs'.length 64:Int)<=y->txt' y=txt y):ZE Q txt' k rr O_ a L {s with Qd:=xs'} ys vn vx vs an ax w':=by
 have h1:=h.L
 have h2:=h.at_
 have h3:=h.wl
 have h4:=h.yl
 have h5:=h.kp hk hS
 rw[hl] at ht
 refine⟨h.o,h.ne,h5.run,h5.now.TH λy e1 e2=>ht y ?_,h5.next.TH λy e1 e2=>ht y ?_,hv,h4,h.at_,by show L=_+Rl xs'.length 64;rw[hl];exact h.L⟩
 ·rw[h3,show 512 / 8=64 from rfl] at e2;omega
 ·rw[h4,show 512 / 8=64 from rfl] at e2;omega
def ZE.ziZ {sk':List OG}(h:ZE Q txt k rr O_ a L s ys vn vx vs an ax w)(hk:Kp S w w')(hS:∀b,O_ b->¬S b)(hv:Tz Q txt' vn 8 an (UW (mW s.p) sk') w')(hl:sk'.length=s.sk.length)(ht:∀y:Int,y<(an:Int)\/(an:Int)+(Rl (UW (mW s.p) sk').length 64:Int)<=y->txt' y=txt y):ZE Q txt' k rr O_ a L {s with sk:=sk'} ys vn vx vs an ax w':=by
 have h1:=h.L
 have h2:=h.at_
 have h3:=h.wl
 have h4:=h.yl
 have h5:=h.kp hk hS
 rw[Ry,hl] at ht
 have h6:Tz Q txt' vs 8 (a+2*Rl (s.sk.length*mW s.p) 64) s.Qd w':=h5.Qd.TH λy e1 e2=>ht y (by omega)
 refine⟨h.o,h.ne,h5.run,hv,h5.next.TH λy e1 e2=>ht y ?_,by show Tz Q txt' vs 8 (a+2*Rl (sk'.length*mW s.p) 64) s.Qd w';rw[hl];exact h6,by show ys.length=sk'.length*mW s.p;rw[hl];exact h4,by show _/\ax=a+Rl (sk'.length*mW s.p) 64\/an=a+Rl (sk'.length*mW s.p) 64/\_;rw[hl];exact h.at_,by show L=2*Rl (sk'.length*mW s.p) 64+_;rw[hl];exact h.L⟩
 rw[h4,show 512 / 8=64 from rfl] at e2
 omega
end
def TL:RuK (Si×List Nat) where
 M Q txt k rr O_ a L y w:=∃vn vx vs an ax,ZE Q txt k rr O_ a L y.1 y.2 vn vx vs an ax w
 tm y:=y.1.t
 c0:=3000
 c1:=2000
 kp:=λ⟨vn,vx,vs,an,ax,h⟩ hk hS=>⟨vn,vx,vs,an,ax,h.kp hk hS⟩
 TH:=λ⟨vn,vx,vs,an,ax,h⟩ e=>⟨vn,vx,vs,an,ax,h.TH e⟩
 q:=λ⟨vn,vx,vs,an,ax,h⟩ hs hl=>⟨vn,vx,vs,an,ax,h.q hs hl⟩
def BlK:RuK Si where
 M Q txt k rr O_ a L s w:=∃ys,TL.M Q txt k rr O_ a L (s,ys) w
 tm s:=s.t
 c0:=3000
 c1:=2000
 kp:=λ⟨ys,h⟩ hk hS=>⟨ys,TL.kp h hk hS⟩
 TH:=λ⟨ys,h⟩ e=>⟨ys,TL.TH h e⟩
 q:=λ⟨ys,h⟩ hs hl=>⟨ys,TL.q h hs hl⟩
section
variable {G:Yi}{w:World}{Q:Rn}{txt:Int->OG}{K:Nat}{X O_:Nat->Prop}{rr a L:Nat}{s:Si}{ys:List Nat}
def Ru.told (h:Ru BlK G Q txt K X rr O_ a L s w):∃ys,Ru TL G Q txt K X rr O_ a L (s,ys) w:=by
 obtain⟨ys,hm⟩:=h.m
 exact⟨ys,h.g,hm,h.xr,h.ro,h.ne,h.VF,h.n⟩
def Ru.untold (h:Ru TL G Q txt K X rr O_ a L (s,ys) w):Ru BlK G Q txt K X rr O_ a L s w:=⟨h.g,⟨ys,h.m⟩,h.xr,h.ro,h.ne,h.VF,h.n⟩
theorem Ru.bl (h:Ru TL G Q txt K X rr O_ a L (s,ys) w):∃vn vx vs an ax,ZE Q txt G.k rr O_ a L s ys vn vx vs an ax w:=h.m
end
section
variable {G:Yi}{w w':World}{Q:Rn}{txt:Int->OG}{K:Nat}{X O_:Nat->Prop}{rr a L vb sv:Nat}{s:Si}{ys:List Nat}
def z6g (n:Nat)(hn:n<4294967296)(w:World):Pm prog 51 [I (n:Int)] w λv w'=>v=S (Th 4 n)/\Ext w w':=by
 have hb:(Th 4 n).map S8=[Value.int .u8 ((n / 16777216%256:Nat):Int),Value.int .u8 ((n / 65536%256:Nat):Int),Value.int .u8 ((n / 256%256:Nat):Int),Value.int .u8 ((n%256:Nat):Int)]:=by
  simp[Th,S8,List.range_succ]
 refine py (e:=[(0,_)]) func51 O ntmps51 O O$ qN O$ Qt O$ qV (Sc 24 16777216 O O (by decide) O)$ qV (z2e O U3 U5)$ OK O$ qV (Sc 16 65536 O O (by decide) O)$ qV (z2e O U3 U5)$ OK O$ qV (Sc 8 256 O O (by decide) O)$ qV (z2e O U3 U5)$ OK O$ qV (z2e O U3 U5)$ OM O O (Wj (cs:=[_,_,_,_]) (zs:=[Value.int .u8 0,Value.int .u8 0,Value.int .u8 0,Value.int .u8 0]) Q5 VK O (by kernel_rfl) O O O (by decide)) ?_
 rintro _ w1 ⟨b1,rfl,⟨bU,ad,aj⟩,-⟩
 have fi:OR w1 b1 ((Th 4 n).map S8) 5:=by
  rw[hb];exact aj
 refine qV (z3z (l:=Th 4 n) Q5 U5 U9 O fi (by rw[List.drop_zero];exact List.take_of_length_le (by rw[List.length_map,Px];omega)) (Px _ _)) ?_
 refine OU O$ OB func51 O ?_
 exact⟨_,rfl,rfl,ad⟩
def z6a (b:Bool)(w:World):Pm prog 52 [.bool b] w λv w'=>v=S [if b then 1 else 0]/\w'=w:=by
 refine py (e:=[(0,_)]) func52 O ntmps52 O O$ QB O$ PG O$ OD ?_
 cases b with
 | true =>
   refine OS O$ QB O$ OB func52 O ?_
   exact⟨_,rfl,rfl,rfl⟩
 | false =>
   refine Tu O$ QB O$ OB func52 O ?_;exact⟨_,rfl,rfl,rfl⟩
def z2y (s:OG)(h8:s.length<=8)(w:World):Pm prog 53 [S s] w λv w'=>v=u64v (Pv (P3 s))/\Ext w w':=by
 refine py (e:=[(0,_)]) func53 O ntmps53 O O$ qN O$ Qw O$ OU O$ PG O$ OM O O (z6G U9 Q5 U5 O) ?_
 rintro _ w3 ⟨b7,c7,rest,rfl,⟨jS,ai,au⟩,Be⟩
 refine Rv Q5 O$ OK O$ OD$ OH$ Rq (α:=Nat) (0) (λi=>[(3,u64v (Pv (P3 (s.take i)))),(7,.slice (some ⟨b7,0,none⟩) s.length c7),(8,I (s.length:Int)),(9,I (i:Int))]) (λi w'=>w'=w3/\i<=s.length) (λi=>s.length-i) ?hI ?hround
 case hI=>exact⟨rfl,Nat.zero_le _⟩
 case hround=>
  rintro i w4 ⟨rfl,hi⟩ ih
  try dsimp only
  refine qN O$ Qq O$ OD$ It$ OQ O (λh0=>?_)$ λh0=>?_
  ·obtain⟨c,hc⟩:∃c,s[i]? =some c:=⟨_,List.getElem?_eq_getElem (by omega)⟩;have cN:=c.toNat_lt;have eW:=Yw hc
   have aZ:Pv (P3 (s.take i))<72057594037927936:=by
    have h1:=QF (P3 (s.take i));rw[bitsT_length,List.length_take] at h1;have h2:2^(8*min i s.length)<=2^56:=Nat.pow_le_pow_right (by decide) (by omega);omega
   have aW:w4.cell? ⟨b7,0+i*1,none⟩=some (S8 c):=by
    rw[au.cell,Nat.zero_add,Nat.mul_one,List.getElem?_append_left (by rw[List.length_map];omega),List.getElem?_map,hc];rfl
   refine OE$ Qx$ qN O$ qV (PX Q5 VK O O (by omega))$ qV (Pr U5 O O aW) ?_
   generalize Pv (P3 (s.take i))=q at eW aZ
   refine OU O$ Rh O$ qV (QP 8 256 O O (by decide) O)$ OK O$ qV ((z2f O U5 Rr (by decide)))$ qV (Zv O O (by omega) (by omega)) ?_
   have mB:(q*256%18446744073709551616 |||c.toNat)=Pv (P3 (s.take (i+1))):=by
    rw[eW,Nat.mod_eq_of_lt (by omega),Nat.mul_comm q];exact(Nat.two_pow_add_eq_or_of_lt (i:=8) cN q).symm
   rw[mB];refine OU O$ OA$ OL O$ PV O$ OK O$ OD ?_;exact(ih (i+1) _ ⟨rfl,by omega⟩ (by omega)).qb
  ·have bQ:i=s.length:=by omega
   subst bQ;rw[List.take_length];refine ON O$ Pf O$ OU O$ OB func53 O ?_;exact⟨_,rfl,rfl,ai⟩
def z6i {width:Nat}{xs:List Nat}(hv:Tz Q txt vb width sv xs w){i:Int}(hi:i<0\/(xs.length:Int)<=i):Pm prog 48 [ptr vb 0,I i] w λv w'=>v= .tuple #[u64v 0,I 1]/\w'=w:=by
 have hB:=hv.cells
 refine py (e:=[(0,_),(1,_)]) func48 O ntmps48 O O$ qN O$ PU O$ PG O$ P4 z73 O (Sq hv) ?_
 rintro _ w ⟨rfl,rfl⟩
 refine Qt O$ Qf O ?_
 by_cases h0:i<0
 ·refine PW O$ PG O$ Qq O$ Rp$ OK O$ QG$ QG$ QG$ qS$ QJ O$ OD$ OS O$ qN O$ PU O ?_;refine OB func48 O ?_;exact⟨_,rfl,rfl,rfl⟩
 ·have h1:(xs.length:Int)<=i:=hi.resolve_left h0;refine PW O$ PG O$ Qq O$ PF$ P8 O$ OK O$ Pu O$ OX R4 O$ OX WT O$ qV (OO U3 O O hB O)$ Te O$ Rp$ PK O$ OD ?_;refine OS O$ qN O$ PU O$ OB func48 O ?_;exact⟨_,rfl,rfl,rfl⟩
theorem Ru.cells (h:Ru TL G Q txt K X rr O_ a L (s,ys) w):∃vn vx vs,OR w rr [I (s.t:Int),.bool s.done,ptr G.k 0,I (s.p:Int),I (s.rounds:Int),ptr vn 0,ptr vx 0,ptr vs 0,.bool false] 100:=by
 obtain⟨vn,vx,vs,an,ax,V⟩:=h.bl
 exact⟨vn,vx,vs,V.run⟩
def TZ (h:Ru TL G Q txt K X rr O_ a L (s,ys) w):Pm prog 43 [ptr rr 0] w λv w'=>v=I 0/\w'=w:=by
 obtain⟨vn,vx,vs,hB⟩:=h.cells
 refine py (e:=[(0,_)]) func43 O ntmps43 O O$ QB O$ Qx$ Pf O$ qV (Qi U35 O O)$ OU O$ OJ O$ Pf O$ Pu O$ OX z8g O$ qV (OO U4 O O hB O)$ OU O$ Tu O$ OA ?_
 refine QB O$ OB func43 O ?_
 exact⟨_,rfl,rfl,rfl⟩
def z00 (h:Ru TL G Q txt K X rr O_ a L (s,ys) w):Pm prog 22 [ptr rr 0] w λv w'=>v=I (s.t:Int)/\w'=w:=by
 obtain⟨vn,vx,vs,hB⟩:=h.cells
 refine py (e:=[(0,_)]) func22 O ntmps22 O O$ QB O$ PG O$ qV (Qi U35 O O)$ PW O$ Pf O$ Pu O$ OX Sv O$ OX Zz O$ qV (OO U3 O O hB O)$ OU O$ OB func22 O ?_
 exact⟨_,rfl,rfl,rfl⟩
def z25 (sum was now r:Nat)(h1:sum<18446744073709551616)(h2:was<18446744073709551616)(h3:now<18446744073709551616)(hr:1<=r/\r<=1000000)(w:World):Pm prog 124 [u64v sum,u64v was,u64v now,I (r:Int)] w λv w'=>v=u64v (z57 sum was now r)/\w'=w:=by
 have he:z57 sum was now r=if now<=was then sum else min (sum+min (now-was) 2147483647*4294967296 / r) 18446744073709551615:=rfl
 refine py (e:=[(0,_),(1,_),(2,_),(3,_)]) func124 O ntmps124 O O$ QB O$ It$ Qm O ?_
 by_cases hc:now<=was
 ·rw[if_pos hc] at he;refine zle O$ Rp$ OD$ OS O$ Pf O$ OU O$ OB func124 O ?_;rw[he];exact⟨_,rfl,rfl,rfl⟩
 ·rw[if_neg hc] at he;refine zle O$ PF$ PW O$ Qm O$ qV (VZ (k:= .u64) (m:=now) (n:=was) O O O (by show now<2^64;omega) (by omega)) ?_;refine qV (zkp O O) ?_;rw[show min ((now-was:Nat):Int) 2147483647=((min (now-was) 2147483647:Nat):Int) by omega];have FF:=Nat.min_le_right (now-was) 2147483647
  generalize min (now-was) 2147483647=q at he FF
  refine qV (QP 32 4294967296 O O (by decide) O)$ OK O ?_;rw[Nat.mod_eq_of_lt (show q*4294967296<18446744073709551616 by omega)];refine qV ((PZ O U3 Rr (by omega)))$ qV (z9F O O O (by simp only[IntKind.bits];omega) (by omega)) ?_;have jz:=Nat.div_le_self (q*4294967296) r
  generalize q*4294967296 / r=more at he jz
  refine OU O$ It$ Qm O$ qV (VZ (k:= .u64) (m:=18446744073709551615) (n:=sum) O O O (by decide) (by omega)) ?_;by_cases hb:18446744073709551615-sum<more
  ·rw[Nat.min_eq_right (by omega)] at he;refine Qu O$ Rp$ OD$ OS O$ QB O$ OB func124 O ?_;rw[he];exact⟨_,rfl,rfl,rfl⟩
  ·rw[Nat.min_eq_left (by omega)] at he;refine Qu O$ PF$ PW O$ Qm O$ qV (RQ O O) ?_;rw[Nat.mod_eq_of_lt (show sum+more<18446744073709551616 by omega)];refine OU O$ OB func124 O ?_;rw[he];exact⟨_,rfl,rfl,rfl⟩
end
section
variable {w w' w1 w2:World}{Q:Rn}{txt txt':Int->OG}{K:Nat}{X:Nat->Prop}{rr vb sv:Nat}{ys xs:List Nat}
theorem VcW.kpX {width st:Nat}(h:VcW Q txt K X vb width st ys w w'):Kp (λb=>¬X b) w w':=by
 obtain⟨txt',-,-,-,hk⟩:=h
 exact hk
theorem z2q {width n i:Nat}{t:OG}(hi:i<n):(RF width n t)[i]? =some (Pv (P3 ((t.drop (i*width)).take width))):=by
 unfold RF
 rw[List.getElem?_map,List.getElem?_range hi];rfl
theorem z2N {cs:List Value}{p v:Nat}{x:OG}(hP:Sp Q txt K X w)(hX:∀b,X b->b<w.heap.size)(hK:K<=900000000000)(hp:4<=p/\p<=16)(hB:OR w rr [cs.getD 0 (I 0),cs.getD 1 (I 0),cs.getD 2 (I 0),I (p:Int),cs.getD 3 (I 0),cs.getD 4 (I 0),cs.getD 5 (I 0),cs.getD 6 (I 0),cs.getD 7 (I 0)] 100)(hr:X rr)(hv:Tz Q txt vb 8 sv xs w)(dl:X vb)(hx:x.length=2^p)(Bu:v*mW p+mW p<=xs.length):Pm prog 79 [ptr rr 0,ptr vb 0,I (v:Int),S x] w λr w'=>r=I 0/\VcW Q txt (K+mW p) X vb 8 sv (z0m (mW p) xs v x) w w':=by
 have jI:=zaf hp.1
 have lN:=z1l hp
 have hN:2^p<=2^16:=Nat.pow_le_pow_right (by decide) hp.2
 have eg:=hv.n
 have mJ:v<=4194304:=by
  have:v*1<=v*mW p:=Nat.mul_le_mul_left _ (by omega);omega
 have vY:v*2^p=v*mW p*8:=by rw[<-jI,Nat.mul_assoc]
 refine py (e:=[(0,_),(1,_),(2,_),(3,_)]) func79 O ntmps79 O O$ qN O$ Qw O$ P8 O$ Pu O$ OX WM O$ qV (OO U3 O O hB O)$ qV (ysl p (2^p) O O (by omega) O (by omega)) ?_
 rw[vY]
 refine qV (VI O O (by omega)) ?_
 rw[show((v*mW p*8:Nat):Int) / 8=((v*mW p:Nat):Int) by omega]
 generalize mW p=m at jI lN Bu vY
 rw[<-jI] at hx hN
 refine OU O$ It$ QB O$ OH$ Rq (α:=Nat) (0) (λj=>[(0,ptr rr 0),(1,ptr vb 0),(3,S x),(9,I ((v*m:Nat):Int)),(10,I ((8*j:Nat):Int))]) (λj w'=>j<=m/\VcW Q txt (K+j) X vb 8 sv (xs.take (v*m)++(RF 8 m x).take j++xs.drop (v*m+j)) w w') (λj=>m-j) ?hI ?hround
 case hI=>exact⟨Nat.zero_le _,⟨txt,hP,by rw[List.take_zero,List.append_nil,Nat.add_zero,List.take_append_drop];exact hv,λ_ _=>rfl,Kp.refl _ _⟩⟩
 case hround=>
  rintro j w1 ⟨hj,hW⟩ ih
  try dsimp only
  refine It$ Qm O$ qV (SV U9 O)$ Qq O$ OD$ OQ O (λh0=>?_)$ λh0=>?_
  ·have Gp:j<m:=by omega
   have fk:=λw=>z2y ((x.drop (8*j)).take 8) (by rw[List.length_take];omega) w;have iP:=z2q (width:=8) (n:=m) (t:=x) Gp;rw[Nat.mul_comm j 8] at iP
   have az:(xs.take (v*m)++(RF 8 m x).take j++xs.drop (v*m+j)).length=xs.length:=by
    rw[List.length_append,List.length_append,List.length_take,List.length_take,Qn,List.length_drop];omega
   have nr:Pv (P3 ((x.drop (8*j)).take 8))<2^(8*8):=by
    have h1:=QF (P3 ((x.drop (8*j)).take 8));rw[bitsT_length,List.length_take,List.length_drop] at h1;refine Nat.lt_of_lt_of_le h1$ Nat.pow_le_pow_right (by decide)$ by omega
   generalize Pv (P3 ((x.drop (8*j)).take 8))=q at fk iP nr
   have eC:(xs.take (v*m)++(RF 8 m x).take j++xs.drop (v*m+j)).set (v*m+j) q=xs.take (v*m)++(RF 8 m x).take (j+1)++xs.drop (v*m+(j+1)):=by
    have e1:(xs.take (v*m)++(RF 8 m x).take j).length=v*m+j:=by rw[List.length_append,List.length_take,List.length_take,Qn];omega
    rw[List.set_append,if_neg (by omega),e1,Nat.sub_self];have e2:(RF 8 m x).take (j+1)=(RF 8 m x).take j++[q]:=by rw[List.take_add_one,iP];rfl
    rw[e2];obtain⟨y,hy⟩:∃y,xs[v*m+j]? =some y:=⟨_,List.getElem?_eq_getElem (by omega)⟩
    have e3:xs.drop (v*m+j)=y::xs.drop (v*m+(j+1)):=by
     rw[<-List.getElem_cons_drop (show v*m+j<xs.length by omega),<-Nat.add_assoc];rw[List.getElem?_eq_getElem (by omega)] at hy;cases hy;rfl
    rw[e3,List.set_cons_zero];simp
   have y9:=hW;obtain⟨txt1,j3,eU,nJ,aL⟩:=y9;refine OE$ Qx$ Qm O$ OK O$ qV (VI O O (by omega)) ?_;rw[show((8*j:Nat):Int) / 8=(j:Int) by omega];refine PV O$ P8 O$ OK O$ PV O ?_;rw[show((v*m:Nat):Int)+(j:Int)=((v*m+j:Nat):Int) by omega,show((8*j:Nat):Int)+8=((8*j+8:Nat):Int) by omega];refine qV (zbY (m:=8*j) (n:=8*j+8) U9 O O O (by omega)) ?_;rw[show 8*j+8-8*j=8 by omega];refine P4 zfx O (fk _) ?_;rintro _ w2 ⟨rfl,ae⟩;have z1:=aL.size;refine P4 zf5 O (z2R (j3.ext' ae) (λb hb=>by have:=hX b hb;have:=ae.size;omega) (by omega) (eU.ext ae) dl (i:=v*m+j) (x:=q) (by rw[az];omega) nr) ?_;rintro _ w3 ⟨rfl,kr⟩;rw[eC] at kr;refine Qt O$ Qf O$ PW O$ OA$ Rh O$ PV O$ OU O ?_;rw[show((8*j:Nat):Int)+8=((8*(j+1):Nat):Int) by omega];refine(ih (j+1) _ ⟨by omega,?_⟩ (by omega)).qb;obtain⟨t3,p3,m3,y3,k3⟩:=kr
   have jm:(xs.take (v*m)++(RF 8 m x).take (j+1)++xs.drop (v*m+(j+1))).length=xs.length:=by
    rw[<-eC,List.length_set,az]
   refine⟨t3,p3,m3,λy hy=>?_,(aL.trans ae.kp).trans k3⟩;rw[y3 y hy,nJ y (by rw[az,<-jm];exact hy)]
  ·have Gp:j=m:=by omega
   subst Gp;rw[List.take_of_length_le (l:=RF 8 j x) (by rw[Qn];exact Nat.le_refl _)] at hW;refine ON O$ QB O$ OB func79 O ?_;exact⟨_,rfl,rfl,hW⟩
end
section
variable {G:Yi}{w w' w1 w2:World}{Q:Rn}{txt:Int->OG}{K:Nat}{X Y Z O_:Nat->Prop}{rr a L:Nat}{s:Si}{ys zs:List Nat}
theorem Ru.append {σ:Type}{R:RuK σ}{s:σ}{v v':Value}(h:Ru R G Q txt K Z rr O_ a L s w)(J1:∀b,v.ownBlock=some b->Z b)(eg:∀b,v.ownBlock=some b->b≠G.k/\b≠G.x/\b≠2/\b≠3/\¬O_ b)(hx:Ext w w1)(hk:Kp (λb=>v.ownBlock=some b) w1 w2)(hf:∀b,v'.ownBlock=some b->v.ownBlock=some b\/w1.heap.size<=b)(hl:∀b,v'.ownBlock=some b->b<w2.heap.size):Ru R G Q txt K (λb=>Z b\/v'.ownBlock=some b) rr O_ a L s w2:=by
 have z1:=hx.size
 have h1:=h.grow hx (Y:=λb=>Z b\/v'.ownBlock=some b/\b<w1.heap.size) (λj hj=>by
  rcases hj with e|⟨e,e2⟩
  ·exact .inl e
  ·rcases hf j e with e3|e3
   ·exact .inl (J1 j e3)
   ·omega) (λj e=> .inl e)
 exact h1.step hk (λj e=>⟨.inl (J1 j e),eg j e⟩) (λj e=>e.imp id And.left) (λj e=>by
  rcases e with e| e
  ·exact .inl (.inl e)
  ·rcases Nat.lt_or_ge j w1.heap.size with h| h
   ·exact .inl (.inr ⟨e,h⟩)
   ·exact .inr ⟨h,hl j e⟩)
theorem zbG {n k:Nat}(hk:k<8):(Th 8 n)[k]? =some (UInt8.ofNat (n / 2^(56-8*k))):=by
 unfold Th
 rw[List.getElem?_map,List.getElem?_range hk]
 show some (UInt8.ofNat (n / 2^(8*(8-1-k))))=_
 rw[show 8*(8-1-k)=56-8*k by omega]
theorem Yb (h:Ru TL G Q txt K X rr O_ a L (s,ys) w)(hI:Zc G.g s){v:Nat}(hv:v<G.g.length):Pm prog 47 [ptr rr 0,I (v:Int)] w λr w'=>r= .tuple #[S (s.sk.getD v []),I 0]/\Ru TL G Q txt K X rr O_ a L (s,ys) w'/\Kp (λb=>¬(X b\/b=G.rb)) w w':=by
 have eu:maxLen=9223372036854775807:=rfl
 have jI:=zaf hI.p4
 have lN:=z1l ⟨hI.p4,hI.p16⟩
 have hN:2^s.p<=2^16:=Nat.pow_le_pow_right (by decide) hI.p16
 have DZ:=hI.p16
 obtain⟨x,hx,MP,mM⟩:=hI.sk hv
 have dj:=mM.1
 have eT:=h.n
 obtain⟨vn,vx,vs,an,ax,V⟩:=h.bl
 have hB:OR w rr [I (s.t:Int),.bool s.done,ptr G.k 0,I (s.p:Int),I (s.rounds:Int),ptr vn 0,ptr vx 0,ptr vs 0,.bool false] 100:=V.run
 have vY:v*2^s.p=v*mW s.p*8:=by rw[<-jI,Nat.mul_assoc]
 have pW:v*mW s.p<=40*8192:=Nat.mul_le_mul (by omega) lN.2
 rw[MP]
 have qA:=h.lts
 have mH:=qA.1 rr V.o.1
 refine py (e:=[(0,_),(1,_)]) func47 O ntmps47 O O$ qN O$ RT O$ Qw O$ Qw O$ P8 O$ Pu O$ OX WM O$ qV (OO U3 O O hB O)$ qV (ysl s.p (2^s.p) O O (by omega) O (by omega)) ?_
 rw[vY]
 refine qV (VI O O (by omega)) ?_
 rw[show((v*mW s.p*8:Nat):Int) / 8=((v*mW s.p:Nat):Int) by omega]
 refine OU O$ PG O$ Pu O$ OX WM O$ qV (OO U3 O O hB O)$ qV (ysl s.p (2^s.p) O O (by omega) O (by omega)) ?_
 rw[Nat.one_mul,<-jI]
 refine qV (VI O O (by omega)) ?_
 rw[show((mW s.p*8:Nat):Int) / 8=((mW s.p:Nat):Int) by omega]
 rw[<-jI] at dj
 refine OK O$ OD$ OH$ Rq (α:=Nat×Value) ((0,.slice none 0 0)) (λy=>[(0,ptr rr 0),(6,y.2),(7,I ((v*mW s.p:Nat):Int)),(24,I (mW s.p:Int)),(25,I (y.1:Int))]) (λy w'=>y.1<=mW s.p/\Sl w' y.2 5 1 (8*y.1) ((x.take (8*y.1)).map S8)/\(∀b,y.2.ownBlock=some b->w.heap.size<=b)/\(∃Z:Nat->Prop,(∀b,X b->Z b)/\(∀b,y.2.ownBlock=some b->Z b)/\Ru TL G Q txt K Z rr O_ a L (s,ys) w')/\Kp (λb=>¬(X b\/b=G.rb)) w w') (λy=>mW s.p-y.1) ?hI ?hround
 case hI=>exact⟨Nat.zero_le _,by simpa using Sl.nil _ _ _,λb hb=>(by cases hb),⟨X,λ_ e=>e,λb hb=>(by cases hb),h⟩,Kp.refl _ _⟩
 case hround =>
  rintro⟨i,u⟩ w3 ⟨hi,cy,fZ,⟨Z,Gq,Gs,h3⟩,av⟩ ih;dsimp only at hi cy fZ Gs ih⊢
  try dsimp only
  refine qN O$ Qq O$ OD$ It$ OQ O (λh0=>?_)$ λh0=>?_
  ·have Gt:i<mW s.p:=by omega
   obtain⟨vn3,vx3,vs3,an3,ax3,V3⟩:=h3.bl;have au:OR w3 rr [I (s.t:Int),.bool s.done,ptr G.k 0,I (s.p:Int),I (s.rounds:Int),ptr vn3 0,ptr vx3 0,ptr vs3 0,.bool false] 100:=V3.run;have iP:=z3M (m:=mW s.p) hx Gt;have gV:=z0u ((x.drop (i*8)).take 8);rw[show((x.drop (i*8)).take 8).length=8 by rw[List.length_take,List.length_drop];omega] at gV
   generalize hq:Pv (P3 ((x.drop (i*8)).take 8))=q at iP gV
   have MQ:=(V3.now.zjL iP).2;have oo:=ZB h3.g.sp h3.g.lt1 h3.g.z5E V3.now (.inl (h3.xr _ V3.o.2.1)) iP;refine OE$ Qx$ Pf O$ Qt O$ Pu O$ OX TU O$ qV (OO U98 O O au O)$ P8 O$ PV O ?_;rw[show((v*mW s.p:Nat):Int)+(i:Int)=((v*mW s.p+i:Nat):Int) by omega];refine P4 zdA O (oo) ?_;rintro _ w4 ⟨rfl,ii,ao⟩;have h4:=h3.read ao ii;have dO:=cy.kp ao (λb hb e=>e (.inl (Gs b hb)));have fx:Kp (λb=>¬(X b\/b=G.rb)) w w4:=av.trans (ao.OV λb e e2=>e (e2.imp (Gq b) id));have z3:=av.size;have z4:=ao.size;refine OK O$ RA O$ PU O$ PG O$ Qf O$ PW O$ Pf O$ OD$ OH$ Rq (α:=Nat×Value) ((0,u)) (λy=>[(0,ptr rr 0),(6,y.2),(7,I ((v*mW s.p:Nat):Int)),(9,u64v q),(24,I (mW s.p:Int)),(25,I (i:Int)),(42,I (y.1:Int))]) (λy w'=>y.1<=8/\Sl w' y.2 5 1 (8*i+y.1) ((x.take (8*i)++(Th 8 q).take y.1).map S8)/\(∀b,y.2.ownBlock=some b->w.heap.size<=b)/\(∃Z:Nat->Prop,(∀b,X b->Z b)/\(∀b,y.2.ownBlock=some b->Z b)/\Ru TL G Q txt K Z rr O_ a L (s,ys) w')/\Kp (λb=>¬(X b\/b=G.rb)) w w') (λy=>8-y.1) ?hI ?hround
   case hI=>exact⟨Nat.zero_le _,by rw[List.take_zero,List.append_nil];exact dO,fZ,⟨Z,Gq,Gs,h4⟩,fx⟩
   case hround=>
    rintro⟨k,u2⟩ w5 ⟨hk,ew,tv,⟨Z5,Ai,uG,h5⟩,ak⟩ ih2;dsimp only at hk ew tv uG ih2⊢
    try dsimp only
    refine qN O$ Qq O$ OD$ It$ OQ O (λh1=>?_)$ λh1=>?_
    ·have aR:k<8:=by omega
     refine OE$ Qx$ Pf O$ OU O$ OL O$ P8 O$ OK O$ qV (Wm O O (by omega))$ Ro O ?_;rw[show(56:Int)-8*(k:Int)=((56-8*k:Nat):Int) by omega];refine qV (Sc (56-8*k) (2^(56-8*k)) O O (by show 56-8*k<=64;omega) O) ?_;refine qV (z2e O Rr U5)$ OM O O (Wj (cs:=[_]) (zs:=[Value.int .u8 0]) Q5 VK O (by kernel_rfl) O O O (by decide)) ?_;rintro _ w6 ⟨b6,rfl,⟨jQ,aI,aQ⟩,ez⟩;refine OM O O (pap Q5 VK O (by decide) O O (ew.ext aI) ez.rd (by intro c hc;simp at hc;subst hc;rfl) (by omega) (by omega)) ?_;rintro u7 w7 ⟨gP,aC,lO,-⟩;have z5:=ak.size;have z6:=aI.size
     have tS:∀b,u2.ownBlock=some b->b≠G.k/\b≠G.x/\b≠2/\b≠3/\¬O_ b:=λb hb=>by
      have:=tv b hb;exact⟨by omega,by omega,by omega,by omega,λe=>by have:=qA.1 b e;omega⟩
     have h7:=h5.append uG tS aI aC lO (λb hb=>gP.lt hb);refine OU O$ OA$ OL O$ PV O$ OK O$ OD ?_
     refine(ih2 (k+1,u7) _ ⟨by show k+1<=8;omega,?_,λb hb=>by
      rcases lO b hb with e| e
      ·exact tv b e
      ·omega,⟨_,λb e=> .inl (Ai b e),λb e=> .inr e,h7⟩,(ak.trans aI.kp).An aC λb e=> .inl (tv b e)⟩ (by show 8-(k+1)<8-k;omega)).qb
     show Sl w7 u7 _ 1 (8*i+(k+1)) ((x.take (8*i)++(Th 8 q).take (k+1)).map S8);rw[List.take_add_one,zbG aR,<-Nat.add_assoc,<-List.append_assoc,List.map_append];exact gP
    ·have aR:k=8:=by omega
     subst aR;rw[List.take_of_length_le (l:=Th 8 q) (by rw[Px];exact Nat.le_refl _),gV,Nat.mul_comm i 8] at ew
     have et:x.take (8*i)++(x.drop (8*i)).take 8=x.take (8*(i+1)):=by
      rw[show 8*(i+1)=8*i+8 by omega,List.take_add]
     rw[et] at ew;refine ON O$ OA$ OL O$ PV O$ OK O$ OD ?_;exact(ih (i+1,u2) _ ⟨by show i+1<=mW s.p;omega,by show Sl w5 u2 _ 1 (8*(i+1)) _;rw[show 8*(i+1)=8*i+8 by omega] at ew⊢;exact ew,tv,⟨Z5,Ai,uG,h5⟩,ak⟩ (by show mW s.p-(i+1)<mW s.p-i;omega)).qb
  ·have Gt:i=mW s.p:=by omega
   subst Gt;rw[List.take_of_length_le (by omega)] at cy;have MR:=h3.less Gq h.g.xk h.xr;rcases cy.shape with⟨-,e⟩|⟨gb,cap,rfl,-⟩
   ·omega
   refine ON O$ Pf O$ qV (zer (l:=x) Q5 U5 U9 O cy)$ PU O$ OB func47 O ?_;exact⟨_,rfl,rfl,MR,av⟩
end
section
variable {G:Yi}{w w':World}{Q:Rn}{txt:Int->OG}{K:Nat}{X Y S' O_:Nat->Prop}{rr a L:Nat}{s s':Si}{ys:List Nat}
structure GrI (G:Yi)(Q:Rn)(txt:Int->OG)(K:Nat)(X Y:Nat->Prop)(rr:Nat)(O_:Nat->Prop)(a L:Nat)(s:Si)(ys:List Nat)(br bs b6 b7:Nat)(w:World)(q:OG)(w':World):Prop where
 r:Ru TL G Q txt K Y rr O_ a L (s,ys) w'
 br:OR w' br [ptr rr 0] 35
 bs:OR w' bs [S q] 9
 b6:OR w' b6 [S []] 9
 b7:OR w' b7 [I 0] 36
 k:Kp (λb=>¬X b) w w'
def GrI.own {br bs b6 b7:Nat}{q:OG}{w0:World}(h:GrI G Q txt K X Y rr O_ a L s ys br bs b6 b7 w0 q w)(hk:Kp S' w w')(hS:∀j,S' j->Y j/\j≠G.k/\j≠G.x/\j≠2/\j≠3/\¬O_ j/\j≠br/\j≠bs/\j≠b6/\j≠b7/\w0.heap.size<=j):GrI G Q txt K X Y rr O_ a L s ys br bs b6 b7 w0 q w':=
 ⟨h.r.own hk (λj e=>by
  obtain⟨a1,a2,a3,a4,a5,a6,-⟩:=hS j e
  exact⟨a1,a2,a3,a4,a5,a6⟩),hk.OC h.br (λe=>(hS _ e).2.2.2.2.2.2.1 O),hk.OC h.bs (λe=>(hS _ e).2.2.2.2.2.2.2.1 O),hk.OC h.b6 (λe=>(hS _ e).2.2.2.2.2.2.2.2.1 O),hk.OC h.b7 (λe=>(hS _ e).2.2.2.2.2.2.2.2.2.1 O),h.k.An hk λj e=> .inl (hS j e).2.2.2.2.2.2.2.2.2.2⟩
theorem z4M {g:List (List Nat)}{s:Si}(h:Zc g s):∀(l:List Nat),(∀u∈l,u<g.length)->∀x,U6 s.p x->U6 s.p (l.foldl (λs' u=>Rb s' (s.sk.getD u [])) x)
 |[],_,x,hx=>hx
 | u :: l, hl, x, hx => by
   obtain⟨y,-,e,hy⟩:=h.sk (hl u List.mem_cons_self);refine z4M h l (λa ha=>hl a (List.mem_cons_of_mem _ ha)) _ ?_;show U6 s.p (Rb x (s.sk.getD u []));rw[e];exact hx.union hy
theorem z4X (h:Ru TL G Q txt K X rr O_ a L (s,ys) w)(hI:Zc G.g s){v:Nat}(hv:v<G.g.length):Pm prog 122 [ptr rr 0,I (v:Int),S (s.sk.getD v [])] w λr w'=>r= .tuple #[S (RS G.g s.sk v),I 0]/\Ru TL G Q txt K X rr O_ a L (s,ys) w'/\Kp (λb=>¬X b) w w':=by
 have eT:=h.n
 have Aj:=h.g.ok.gr
 have hp:=hI.p4
 have po:=hI.p16
 obtain⟨x0,-,sr,i6⟩:=hI.sk hv
 rw[sr]
 have oo:RS G.g s.sk v=(P5 G.g v).foldl (λs' u=>Rb s' (s.sk.getD u [])) x0:=by unfold RS;rw[sr]
 rw[oo]
 obtain⟨uH,Ah,Om,uI,On⟩:=h.lts
 refine py (e:=[(0,_),(1,_),(2,_)]) func122 O ntmps122 O O$ qN O$ OM O O (Rm O (cs:=[ptr rr 0]) O) ?_
 rintro _ w1 ⟨br,rfl,Dt,ad,Ak⟩
 refine OM O O (Rm O (cs:=[S x0]) O) ?_
 rintro _ w2 ⟨bs,rfl,tO,ae,ia⟩
 refine OM O O (RN (cs:=[_]) ti9 O) ?_
 rintro _ w3 ⟨b6,rfl,jQ,ai,Al⟩
 refine OM O O (RN (cs:=[_]) z29 O) ?_
 rintro _ w4 ⟨b7,rfl,jS,aD,fu⟩
 have bF:=((ad.trans ae).trans ai).trans aD
 have qB:=aD.OC (ai.OC (ae.OC Ak))
 have eP:=aD.OC (ai.OC ia)
 have jj:=aD.OC Al
 replace jj:OR w4 b6 [S []] 9:=jj
 have z1:=ad.size
 have z2:=ae.size
 have z3:=ai.size
 have z4:=aD.size
 have l1:=Ak.lt
 have l2:=ia.lt
 have l3:=Al.lt
 have l4:=fu.lt
 obtain⟨X0,uJ⟩:∃X0:Nat->Prop,(λj=>X j\/j=br\/j=bs\/j=b6\/j=b7)=X0:=⟨_,rfl⟩
 have eB:∀j,X j->X0 j:=λj hj=>by rw[<-uJ];exact .inl hj
 have aU:X0 br/\X0 bs/\X0 b6/\X0 b7:=by rw[<-uJ];exact⟨.inr (.inl O),.inr (.inr (.inl O)),.inr (.inr (.inr (.inl O))),.inr (.inr (.inr (.inr O)))⟩
 have h4:Ru TL G Q txt K X0 rr O_ a L (s,ys) w4:=h.grow bF (λj hj=>by rw[<-uJ] at hj;exact hj.imp id λe=>by omega) eB
 obtain⟨vn,vx,vs,Gu⟩:=h4.cells
 refine OD$ It$ qN O$ qV ((OO U35 O O qB O))$ Pu O$ OX YH O$ qV ((OO U30 O O Gu O))$ OK O$ P4 zjW O (z5X G.k v _) ?_
 rintro _ w6 ⟨bk,bi,rfl,vL,FG,gW,zX,aI⟩
 have z6:=aI.size
 refine OD$ OH$ TQ (ps:=[18,19]) (p:=[]) (q:=[_,_]) O zhC ?_
 rintro l wl dj fS cG hD Rc dH fj
 have zl:=dj.size
 have s7:=aI.trans dj
 obtain⟨X1,iL⟩:∃X1:Nat->Prop,(λj=>X0 j\/j=w6.heap.size\/j=l)=X1:=⟨_,rfl⟩
 have kJ:∀j,X0 j->X1 j:=λj hj=>by rw[<-iL];exact .inl hj
 have iK:X1 l/\X1 w6.heap.size:=by rw[<-iL];exact⟨.inr (.inr O),.inr (.inl O)⟩
 have J2:Ru TL G Q txt K X1 rr O_ a L (s,ys) wl:=h4.grow s7 (λj hj=>by rw[<-iL] at hj;exact hj.imp id λe=>by omega) kJ
 have uK:∀j,j=l\/j=w6.heap.size->j≠G.k/\j≠G.x/\j≠2/\j≠3/\¬O_ j/\j≠br/\j≠bs/\j≠b6/\j≠b7/\w.heap.size<=j:=λj hj=>⟨by omega,by omega,by omega,by omega,λe=>by have:=uH j e;omega,by omega,by omega,by omega,by omega,by omega⟩
 refine Pm.mono (z6O (by omega) hv J2.g (dj.OC vL) (dj.OC FG) (λj=>j=l\/j=bs) (λj hj=>hj.elim (λe=>e▸iK.1) λe=>e▸kJ _ aU.2.1)
  (λY i w'=>Rc .ready none w'/\GrI G Q txt K X Y rr O_ a L s ys br bs b6 b7 w (((P5 G.g v).take i).foldl (λs' u=>Rb s' (s.sk.getD u [])) x0) w'/\w'.heap[w6.heap.size]? =some (.deferred (some [])))
  (λ_=>False) ?_ ?_) ?_
 ·intro Y w7 cL vV mN aC;have ic:Kp (λj=>¬X1 j) w4 w7:=s7.kp.trans aC;exact⟨aC.rc dH fj (λe=>e iK.1),⟨J2.list mN aC cL,ic.OC qB (λe=>e (kJ _ aU.1)),ic.OC eP (λe=>e (kJ _ aU.2.1)),ic.OC jj (λe=>e (kJ _ aU.2.2.1)),ic.OC fu (λe=>e (kJ _ aU.2.2.2)),bF.kp.trans (ic.OV λb e e2=>e (kJ _ (eB b e2)))⟩,aC.heap hD (λe=>e iK.2)⟩
 ·rintro Y i u w7 cL vV hs ⟨J3,jE,MS⟩;have dD:u<G.g.length:=SY Aj v u (List.mem_of_getElem? hs)
  have dY:((P5 G.g v).take (i+1)).foldl (λs' u=>Rb s' (s.sk.getD u [])) x0=Rb (((P5 G.g v).take i).foldl (λs' u=>Rb s' (s.sk.getD u [])) x0) (s.sk.getD u []):=by
   rw[PQ hs,List.foldl_append];rfl
  have Am:=z4M hI ((P5 G.g v).take i) (λu hu=>SY Aj v u (List.mem_of_mem_take hu)) x0 i6;rw[dY];obtain⟨q,hq⟩:∃q,((P5 G.g v).take i).foldl (λs' u=>Rb s' (s.sk.getD u [])) x0=q:=⟨_,rfl⟩;rw[hq] at jE Am⊢;obtain⟨xu,-,Gv,Gw⟩:=hI.sk dD;have ou:Y br/\Y bs/\Y b6/\Y b7:=⟨cL _ (kJ _ aU.1),cL _ (kJ _ aU.2.1),cL _ (kJ _ aU.2.2.1),cL _ (kJ _ aU.2.2.2)⟩;have BH:Y l/\Y w6.heap.size:=⟨cL _ iK.1,cL _ iK.2⟩;have Gx:∀j,X j->Y j:=λj hj=>cL _ (kJ _ (eB j hj));refine Vh dH J3 O O$ QB O$ OL O$ OU O$ run_beginRound O dH J3 ?_;rintro w8 EG aR;have nK:=jE.own aR (λj e=>⟨e▸BH.1,uK j (.inl e)⟩);have MT:=aR.heap MS (by omega);have uL:=nK.br;have Ao:=Yb nK.r hI dD;rw[Gv] at Ao⊢;refine OH$ PG O$ Qf O$ PW O$ qN O$ qV (OO U35 O O uL O)$ OK O$ qV (PJ O Py U3 (by omega))$ P4 zgk O (Ao) ?_;rintro _ w9 ⟨rfl,h9,aM⟩;have gQ:GrI G Q txt K X Y rr O_ a L s ys br bs b6 b7 w q w9:=⟨h9,aM.OC nK.br (λe=>e (.inl ou.1)),aM.OC nK.bs (λe=>e (.inl ou.2.1)),aM.OC nK.b6 (λe=>e (.inl ou.2.2.1)),aM.OC nK.b7 (λe=>e (.inl ou.2.2.2)),nK.k.trans (aM.OV λb e e2=>e (.inl (Gx b e2)))⟩;have uM:=gQ.bs;have MU:=aM.heap MT (λe=>e (.inl BH.2));have MV:=aM.rc dH EG (λe=>e (.inl BH.1));have Gy:Kp (λj=>¬Y j\/j=l\/j=bs) w7 w9:=(aR.OV λj e=> .inr (.inl e)).trans (aM.OV λj e=> .inl λe2=>e (.inl e2));refine OK O$ RA O$ PU O$ Pn.qb (e:=[(5,_),(6,_),(7,_),(10,_),(11,_)]) ?_;refine PG O$ Qf O$ PW O$ qN O$ qV (OO U9 O O uM O)$ OK O$ P4 zit O (z5k Am Gw ⟨hp,po⟩ _) ?_;rintro _ w10 ⟨rfl,bG⟩;have Ap:=bG.OC uM;refine OK O$ RA O$ OW O (QQ ti9 O O O Ap (by simp)) ?_;rintro w11 ⟨ov,bu⟩;replace ov:OR w11 bs [S (Rb q xu)] 9:=ov;have l9:=uM.lt;have fK:=bG.kp.trans (bu.OV λj e=>(show j=bs from e));have Gz:=fK.heap MU (by omega);have GA:=fK.rc dH MV (by omega);have GB:¬O_ bs:=λe=>by have:=uH bs e;omega
  have lM:Ru TL G Q txt K Y rr O_ a L (s,ys) w11:=h9.own fK (λj e=>by subst e;exact⟨ou.2.1,by omega,by omega,by omega,by omega,GB⟩);have GC:GrI G Q txt K X Y rr O_ a L s ys br bs b6 b7 w (Rb q xu) w11:=⟨lM,fK.OC gQ.br (by omega),ov,fK.OC gQ.b6 (by omega),fK.OC gQ.b7 (by omega),gQ.k.An fK λj e=> .inl (by omega)⟩;refine Qt O$ Qf O$ PW O$ OA$ VH dH GA ?_;intro w12 GD bh;exact .inl ⟨rfl,⟨GD,GC.own bh (λj e=>⟨e▸BH.1,uK j (.inl e)⟩),bh.heap Gz (by omega)⟩,(Gy.trans (fK.OV λj e=> .inr (.inr e))).trans (bh.OV λj e=> .inr (.inl e))⟩
 ·rintro v' wz ⟨rfl,⟨Y,cL,vV,MW,MX,MY⟩|hF⟩
  ·refine⟨_,_,MW,by simp,λwy iQ=>?_⟩;have vZ:=MX.own iQ (λj e=>⟨e▸cL _ iK.1,uK j (.inl e)⟩);have yY:=iQ.heap MY (by omega);have zy:=iQ.size;rw[List.take_length] at vZ;have GE:=vZ.bs;have GF:=vZ.b6;have GG:=vZ.b7;refine OA$ qN O$ qV (OO U9 O O GE O)$ OW O (QQ ti9 O O O GF (by simp)) ?_;rintro wx ⟨GH,i7⟩;have GI:=i7.OC GG (by omega);refine OW O (QQ z29 O O O GI (by simp)) ?_;rintro wt ⟨GJ,Aq⟩;have GK:=Aq.OC GH (by omega);have MZ:=Aq.heap (i7.heap yY (by omega)) (by omega);have ey:Kp (λk=>k=w6.heap.size) wt (Tt [.mk w6.heap.size] wt):=QN wt w6.heap.size (.deferred none);have GL:=ey.OC GK (by omega);have GM:=ey.OC GJ (by omega);refine OD$ Xr (by simp) (Z9 MZ) func122 (.cell1 U9 O O ((GL).cell _) (.cell1 U36 O O ((GM).cell _) .nil)) ?_;have GN:∀j,X j->Y j:=λj hj=>cL _ (kJ _ (eB j hj));have fH:∀j,w.heap.size<=j->¬O_ j:=λj hj e=>by have:=uH j e;omega
   have Ar:Kp (λj=>j=b6\/j=b7\/j=w6.heap.size) wy (Tt [.mk w6.heap.size] wt):=((i7.OV λj e=> .inl e).trans (Aq.OV λj e=> .inr (.inl e))).trans (ey.OV λj e=> .inr (.inr e));have nU:=vZ.r.own Ar (λj e=>⟨by rcases e with e|e|e;exact e▸cL _ (kJ _ aU.2.2.1);exact e▸cL _ (kJ _ aU.2.2.2);exact e▸cL _ iK.2,by omega,by omega,by omega,by omega,fH j (by omega)⟩);exact⟨_,rfl,rfl,nU.less GN h.g.xk h.xr,vZ.k.An Ar λb e=> .inl (by omega)⟩
  ·exact hF.elim
end
section
variable {G:Yi}{w w':World}{Q:Rn}{txt txt':Int->OG}{K:Nat}{X O_:Nat->Prop}{rr a L:Nat}{s:Si}{ys:List Nat}
def z7E {s:OG}(h:s.length<=256)(h1:1<=s.length):Xx s<18446744073709551616:=by
 have e1:=zeC h h1
 have e2:=Nat.div_le_self (mE s.length*1099511627776) (ZP s)
 have e3:=z1B s.length (s.count 0) (s.length-s.count 0)
 have e4:(s.length-s.count 0)*(s.length*1048576)<=256*(256*1048576):=Nat.mul_le_mul (by omega) (by omega)
 have e5:zeV s.length (s.count 0)=XL s.length (s.count 0) (s.length-s.count 0):=rfl
 unfold Xx
 split
 ·omega
 ·rw[e5];have:=Nat.div_le_self (XL s.length (s.count 0) (s.length-s.count 0)) 1048576;omega
def z1v (g:List (List Nat))(s:Si)(v:Nat):List Nat:=if RS g s.sk v=s.sk.getD v [] then s.Qd else s.Qd.set v (z57 (s.Qd.getD v 0) (Xx (s.sk.getD v [])) (Xx (RS g s.sk v)) (s.t+1))
def z3A (h:Ru TL G Q txt K X rr O_ a L (s,ys) w)(hI:Zc G.g s)(pM:s.p<=8)(hK:K<=800000000000){v:Nat}(hv:v<G.g.length):Pm prog 81 [ptr rr 0,I (v:Int)] w λr w'=>r= .tuple #[.bool (decide (RS G.g s.sk v≠s.sk.getD v [])),I 0]/\∃txt',Ru TL G Q txt' (K+mW s.p+1) X rr O_ a L ({s with Qd:=z1v G.g s v},z0m (mW s.p) ys v (RS G.g s.sk v)) w'/\(∀y:Int,y<(a:Int)\/(a:Int)+(L:Int)<=y->txt' y=txt y)/\Kp (λb=>¬X b) w w':=by
 have lN:=z1l ⟨hI.p4,hI.p16⟩
 have ay:=z4g hI h.g.ok.gr hv
 obtain⟨x0,-,sr,i6⟩:=hI.sk hv
 have oo:=λw' (h':Ru TL G Q txt K X rr O_ a L (s,ys) w')=>z4X h' hI hv
 have hN:2^s.p<=2^8:=Nat.pow_le_pow_right (by decide) pM
 have jp:1<=2^s.p:=Nat.one_le_two_pow
 have jv:z1v G.g s v=if RS G.g s.sk v=s.sk.getD v [] then s.Qd else s.Qd.set v (z57 (s.Qd.getD v 0) (Xx (s.sk.getD v [])) (Xx (RS G.g s.sk v)) (s.t+1)):=rfl
 have Ao:=Yb h hI hv
 rw[sr] at oo Ao jv⊢
 generalize RS G.g s.sk v=z at ay oo jv⊢
 have lF:v<s.Qd.length:=by rw[hI.sn];exact hv
 have dD:=hI.n
 refine py (e:=[(0,_),(1,_)]) func81 O ntmps81 O O$ qN O$ RT O$ Qw O$ P8 O$ P4 zgk O (Ao) ?_
 rintro _ w1 ⟨rfl,h1,aL⟩
 refine OK O$ RA O$ PU O$ PG O$ Qf O$ PW O$ Qm O$ OK O$ P4 zhS O (oo w1 h1) ?_
 rintro _ w2 ⟨rfl,h2,aq⟩
 have dG:Kp (λb=>¬X b) w w2:=(aL.OV λb e e2=>e (.inl e2)).trans aq
 obtain⟨vn,vx,vs,an,ax,V⟩:=h2.bl
 have am:OR w2 rr [I (s.t:Int),.bool s.done,ptr G.k 0,I (s.p:Int),I (s.rounds:Int),ptr vn 0,ptr vx 0,ptr vs 0,.bool false] 100:=V.run
 have jw:∀b,O_ b->¬¬(X b\/b=G.rb):=λb hb e=>e (.inl (h2.xr b hb))
 have pW:v*mW s.p+mW s.p<=ys.length:=by
  rw[V.yl,dD];have:=Nat.mul_le_mul_right (mW s.p) (show v+1<=G.g.length from hv);rw[Nat.add_mul,Nat.one_mul] at this;exact this
 have fL:=z5m (m:=mW s.p) (ys:=ys) (v:=v) (s:=z) pW
 refine OK O$ RA O$ PU O$ PG O$ Qf O$ PW O$ It$ Qm O$ Pu O$ OX Xq O$ qV (OO U98 O O am O)$ P8 O$ P4 zil O (z2N (cs:=[I (s.t:Int),.bool s.done,ptr G.k 0,I (s.rounds:Int),ptr vn 0,ptr vx 0,ptr vs 0,.bool false]) h2.g.sp h2.g.lt1 (by omega) ⟨hI.p4,hI.p16⟩ am (.inl (h2.xr _ V.o.1)) V.next (.inl (h2.xr _ V.o.2.2.1)) ay.1 pW) ?_
 rintro _ w3 ⟨rfl,txt3,fJ,wJ,qu,av⟩
 have V3:=V.zhg av jw wJ fL qu
 have Oo:=V.L
 have lD:=V.at_
 have qC:∀y:Int,y<(a:Int)\/(a:Int)+(L:Int)<=y->txt3 y=txt y:=λy hy=>qu y (by rw[fL,V.yl,show 512 / 8=64 from rfl];omega)
 have h3:Ru TL G Q txt3 (K+mW s.p) X rr O_ a L (s,z0m (mW s.p) ys v z) w3:=h2.Zu (by omega) av (λb e=> .inl e) fJ qC ⟨vn,vx,vs,an,ax,V3⟩
 have cu:Kp (λb=>¬X b) w w3:=dG.trans (av.OV λb e e2=>e (.inl e2))
 have au:OR w3 rr [I (s.t:Int),.bool s.done,ptr G.k 0,I (s.p:Int),I (s.rounds:Int),ptr vn 0,ptr vx 0,ptr vs 0,.bool false] 100:=V3.run
 refine OU O$ Pn.qb (e:=[(0,_),(1,_),(4,_),(5,_),(6,_),(7,_),(8,_),(9,_)]) ?_
 refine Pf O$ Qf O$ P8 O$ OK O ?_
 by_cases he:z=x0
 ·have N0:x0=z:=he.symm;rw[if_pos he] at jv;refine qV (zfA O O)$ Rp$ PK O$ OD$ OS O$ Pf O$ PU O$ OB func81 O ?_;rw[jv,show decide (z≠x0)=false from decide_eq_false (λe=>e he)];exact⟨_,rfl,rfl,txt3,h3.more (Nat.le_succ _) (by omega),qC,cu⟩
 ·have N0:¬x0=z:=λe=>he e.symm;rw[if_neg he] at jv;have dj:=i6.1;have rt:=ay.1;have q1:=z7E (s:=x0) (by omega) (by omega);have q2:=z7E (s:=z) (by omega) (by omega);refine qV (zfA O O)$ PF$ PK O$ PW O$ Pf O$ P4 zen O (z2L i6 ⟨hI.p4,pM⟩ _) ?_;rintro _ w4 ⟨rfl,aD⟩;refine OK O$ RA O$ RT O$ Qt O$ P4 zen O (z2L ay ⟨hI.p4,pM⟩ _) ?_;rintro _ w5 ⟨rfl,aT⟩;have bV:=aD.trans aT;have h5:=h3.ext bV;have V5:=V3.kp (S:=λ_=>False) bV (λ_ _=>id);have aH:=bV.OC au;obtain⟨y,hy⟩:∃y,s.Qd[v]? =some y:=⟨_,List.getElem?_eq_getElem lF⟩;have As:=hI.lt y (List.mem_of_getElem? hy);have Bo:s.Qd.getD v 0=y:=by rw[List.getD_eq_getElem?_getD,hy];rfl
  rw[Bo] at jv;have ht:=hI.t;have dw:=hI.r2;have cN:=z7R (sum:=y) (was:=Xx x0) (now:=Xx z) (round:=s.t+1) As;have jF:=λw=>z25 y (Xx x0) (Xx z) (s.t+1) As q1 q2 (by omega) w
  generalize Xx x0=e1 at jF cN jv⊢
  generalize Xx z=e2 at jF cN jv⊢
  generalize z57 y e1 e2 (s.t+1)=c at jF cN jv
  refine OK O$ RA O$ PU O$ Pn.qb (e:=[(0,_),(1,_),(4,_),(5,_),(7,_),(10,_),(12,_)]) ?_;refine Pf O$ Pu O$ OX Ve O$ qV (OO U98 O O aH O)$ OK O$ P4 zdA O (ZB h5.g.sp h5.g.lt1 h5.g.z5E V5.Qd (.inl (h5.xr _ V5.o.2.2.2)) hy) ?_;rintro _ w6 ⟨rfl,j4,aP⟩;have h6:=h5.read aP j4;have V6:=V5.kp aP jw;have aQ:=aP.OC aH (jw _ V5.o.1);have bI:=Ext.OT w6;have At:=h6.ext bI;have V6d:=V6.kp (S:=λ_=>False) bI (λ_ _=>id);refine OK O$ RA O$ PU O$ PG O$ Qf O$ PW O$ It$ R5 (λw'=>Kp (λj=>¬(X j\/j=G.rb)) w6 w') O$ OZ 0 O O (bI.kp)$ OI 1 O (Q4 O) (bI.kp)$ OI 2 O (Pp Ve O) (bI.kp)$ qT 3 O (λ_ h=>OO U98 O O (h.OC aQ (jw _ V5.o.1)) O) (bI.kp)$ OZ 4 O O (bI.kp)$ OZ 5 O O (bI.kp) ?_;refine OZ 6 O O (bI.kp)$ OZ 7 O O (bI.kp)$ OZ 8 O O (bI.kp)$ OI 9 O (Q4 O) (bI.kp)$ OI 10 O (Pp Sv O) (bI.kp)$ OI 11 O (Pp Zz O) (bI.kp)$ qT 12 O (λ_ h=>OO U3 O O (h.OC aQ (jw _ V5.o.1)) O) (bI.kp)$ OI 13 O (Ud O O (by omega)) (bI.kp) ?_;rw[show(s.t:Int)+1=((s.t+1:Nat):Int) by omega];refine SK 14 O zir O (jF _) ?_;rintro _ w7 ⟨rfl,rfl⟩;refine⟨bI.kp,?_⟩;refine SK 15 O zf5 O (z2R At.g.sp At.g.lt1 At.g.z5E V6d.Qd (.inl (At.xr _ V6d.o.2.2.2)) (i:=v) (x:=c) lF cN) ?_;rintro _ w8 ⟨rfl,mC⟩;refine⟨bI.kp.trans mC.kpX,?_⟩;obtain⟨txt8,mI,vY,A9,aR⟩:=id mC;have eI:(s.Qd.set v c).length=s.Qd.length:=List.length_set;have V8:=V6d.zeF aR jw vY eI A9
  have Au:∀y:Int,y<(a:Int)\/(a:Int)+(L:Int)<=y->txt8 y=txt y:=λy hy=>by
   rw[A9 y (by rw[eI,show 512 / 8=64 from rfl];omega)];exact qC y hy
  have h8:Ru TL G Q txt8 (K+mW s.p+1) X rr O_ a L ({s with Qd:=s.Qd.set v c},z0m (mW s.p) ys v z) w8:=At.Zu (by omega) aR (λb e=> .inl e) mI (λy hy=>(Au y hy).trans (qC y hy).symm) ⟨vn,vx,vs,an,ax,V8⟩;refine OI 16 O (R7 O) (bI.kp.trans mC.kpX)$ OI 17 O (R7 O) (bI.kp.trans mC.kpX)$ qE$ Pn.qb (e:=[(4,_),(5,_)]) ?_;refine OB func81 O ?_;rw[jv,show decide (z≠x0)=true from decide_eq_true he];exact⟨_,rfl,rfl,txt8,h8,Au,(((cu.trans bV.kp).trans (aP.OV λb e e2=>e (.inl e2))).trans bI.kp).trans (aR.OV λb e e2=>e (.inl e2))⟩
end
section
variable {G:Yi}{w w':World}{Q:Rn}{txt txt':Int->OG}{K K':Nat}{X O_:Nat->Prop}{rr a L:Nat}{s:Si}{ys:List Nat}
theorem zdx (g:List (List Nat))(s:Si)(c:List OG×List Nat×Bool)(v:Nat):z3E g s c v=(c.1++[RS g s.sk v],z1v g {s with Qd:=c.2.1} v,c.2.2 ||decide (RS g s.sk v≠s.sk.getD v [])):=by
 unfold z3E z1v
 show(if RS g s.sk v=s.sk.getD v [] then _ else _)=(_,(if RS g s.sk v=s.sk.getD v [] then _ else _),_)
 by_cases h:RS g s.sk v=s.sk.getD v []
 ·rw[if_pos h,if_pos h,decide_eq_false (λe=>e h),Bool.or_false]
 ·rw[if_neg h,if_neg h,decide_eq_true h,Bool.or_true]
theorem z4Z (h:Ru TL G Q txt K X rr O_ a L (s,ys) w)(hI:Zc G.g s)(pM:s.p<=8)(hK:K<=700000000000):Pm prog 44 [ptr rr 0] w λr w'=>r=I 0/\∃txt',Ru TL G Q txt' (K+40*(mW s.p+1)) X rr O_ a L (s.step G.g,UW (mW s.p) s.sk) w'/\(∀y:Int,y<(a:Int)\/(a:Int)+(L:Int)<=y->txt' y=txt y)/\Kp (λb=>¬X b\/O_ b) w w':=by
 have lN:=z1l ⟨hI.p4,hI.p16⟩
 have eT:=h.n
 have dD:=hI.n
 have ht:=hI.t
 have dw:=hI.r2
 have sK:ys.length=G.g.length*mW s.p:=by
  obtain⟨vn,vx,vs,an,ax,V⟩:=h.bl;rw[V.yl,dD]
 obtain⟨vn0,vx0,vs0,iW⟩:=h.cells
 refine py (e:=[(0,_)]) func44 O ntmps44 O O$ qN O$ Qw O$ OU O$ PG O$ Pu O$ OX YH O$ qV (OO U30 O O iW O)$ P4 zar O (Xh h.g) ?_
 rintro _ w ⟨rfl,rfl⟩
 refine OK O$ OD$ OH$ Rq (α:=Nat×(List OG×List Nat×Bool)) ((0,([],s.Qd,false))) (λy=>[(0,ptr rr 0),(3,.bool y.2.2.2),(11,I (G.g.length:Int)),(12,I (y.1:Int))]) (λy w'=>y.1<=G.g.length/\SwB G.g s y.1 y.2/\(∃txt',Ru TL G Q txt' (K+(mW s.p+1)*y.1) X rr O_ a L ({s with Qd:=y.2.2.1},UW (mW s.p) y.2.1++ys.drop (y.1*mW s.p)) w'/\∀y:Int,y<(a:Int)\/(a:Int)+(L:Int)<=y->txt' y=txt y)/\Kp (λb=>¬X b) w w') (λy=>G.g.length-y.1) ?hI ?hround
 case hI=>exact⟨Nat.zero_le _,.zero hI,⟨txt,by simpa[UW] using h,λ_ _=>rfl⟩,Kp.refl _ _⟩
 case hround=>
  rintro⟨v,c⟩ w4 ⟨hv,hc,⟨txt4,h4,oZ⟩,ao⟩ ih;dsimp only at hv hc h4 ih⊢;have ly:Zc G.g {s with Qd:=c.2.1}:=⟨hI.p4,hI.p16,hI.r1,hI.r2,hI.t,hI.n,hc.sn,hI.ok,hc.lt⟩;have cN:c.1.length=v:=by rw[hc.sk,List.length_map,List.length_range]
  try dsimp only
  refine qN O$ Qq O$ OD$ It$ OQ O (λh0=>?_)$ λh0=>?_
  ·have eg:v<G.g.length:=by omega
   have dv:(mW s.p+1)*v<=8193*40:=Nat.mul_le_mul (by omega) (by omega);have pL:=z3A h4 ly pM (by omega) eg;have J4:=hc.next;rw[zdx] at J4;have gT:=zbM (m:=mW s.p) (n:=G.g.length) (a:=c.1) (ys:=ys) (s:=RS G.g s.sk v) sK (by omega);rw[cN] at gT
   change Pm _ _ _ _ (λr w'=>r= .tuple #[.bool (decide (RS G.g s.sk v≠s.sk.getD v [])),I 0]/\∃txt',Ru TL G Q txt' (K+(mW s.p+1)*v+mW s.p+1) X rr O_ a L ({s with Qd:=z1v G.g {s with Qd:=c.2.1} v},z0m (mW s.p) (UW (mW s.p) c.1++ys.drop (v*mW s.p)) v (RS G.g s.sk v)) w'/\_) at pL
   rw[gT] at pL;refine OE$ Qx$ Pf O$ Qw O$ P8 O$ P4 zl8 O (pL) ?_;rintro _ w5 ⟨rfl,txt5,h5,qv,ak⟩;refine OK O$ RA O$ PU O$ PG O$ Qf O ?_
   have eW:Ru TL G Q txt5 (K+(mW s.p+1)*(v+1)) X rr O_ a L ({s with Qd:=z1v G.g {s with Qd:=c.2.1} v},UW (mW s.p) (c.1++[RS G.g s.sk v])++ys.drop ((v+1)*mW s.p)) w5:=by
    rw[show K+(mW s.p+1)*(v+1)=K+(mW s.p+1)*v+mW s.p+1 by rw[Nat.mul_add,Nat.mul_one];omega];exact h5
   have aU:SwB G.g s (v+1) (c.1++[RS G.g s.sk v],z1v G.g {s with Qd:=c.2.1} v,c.2.2 ||decide (RS G.g s.sk v≠s.sk.getD v [])):=J4
   generalize decide (RS G.g s.sk v≠s.sk.getD v [])=o at aU
   refine PW O$ Rh O ?_
   cases hb:c.2.2 with
   | true =>
     rw[hb] at aU;refine OK O$ qS$ QJ O$ OU O$ OA$ OL O$ PV O$ OK O$ OD ?_
     exact(ih (v+1,_) _ ⟨by omega,aU,⟨txt5,eW,λy hy=>by rw[qv y hy];exact oZ y hy⟩,ao.trans ak⟩ (by omega)).qb
   | false =>
     rw[hb] at aU;refine P8 O$ PK O$ OU O$ OA$ OL O$ PV O$ OK O$ OD ?_;exact(ih (v+1,_) _ ⟨by omega,aU,⟨txt5,eW,λy hy=>by rw[qv y hy];exact oZ y hy⟩,ao.trans ak⟩ (by omega)).qb
  ·have eg:v=G.g.length:=by omega
   subst eg;have N2:c=VO G.g s:=hc.eq;rw[List.drop_of_length_le (by rw[sK];exact Nat.le_refl _),List.append_nil] at h4;have dv:(mW s.p+1)*G.g.length<=40*(mW s.p+1):=by rw[Nat.mul_comm];exact Nat.mul_le_mul_right _ eT
   have GO:=h4.more (K':=K+40*(mW s.p+1)) (by omega) (by omega);obtain⟨vn,vx,vs,an,ax,V⟩:=GO.bl;have aK:OR w4 rr [I (s.t:Int),.bool s.done,ptr G.k 0,I (s.p:Int),I (s.rounds:Int),ptr vn 0,ptr vx 0,ptr vs 0,.bool false] 100:=V.run;have cN:c.1.length=G.g.length:=by rw[hc.sk,List.length_map,List.length_range]
   have fH:=GO.ne rr V.o.1
   have jM:∀(b:Bool) (w8:World),b=(!c.2.2 ||decide (s.t+1=s.rounds))->OR w8 rr [I ((s.t+1:Nat):Int),.bool b,ptr G.k 0,I (s.p:Int),I (s.rounds:Int),ptr vx 0,ptr vn 0,ptr vs 0,.bool false] 100->Kp (λj=>j=rr) w4 w8->Ru TL G Q txt4 (K+40*(mW s.p+1)) X rr O_ a L (s.step G.g,UW (mW s.p) s.sk) w8:=λb w8 hb ce aR=>by
    have e:s.step G.g=⟨s.p,s.rounds,s.t+1,b,c.1,c.2.1⟩:=by unfold Si.step;rw[<-N2,hb]
    obtain⟨n1,n2,n3,n4,n5,n6⟩:=V.ne;rw[e]
    have hV:ZE Q txt4 G.k rr O_ a L ⟨s.p,s.rounds,s.t+1,b,c.1,c.2.1⟩ (UW (mW s.p) s.sk) vx vn vs ax an w8:=by
     have lD:=V.at_;have hL:=V.L;have nL:=V.Qd;dsimp only at lD hL nL;rw[dD] at lD hL nL;refine⟨⟨V.o.1,V.o.2.2.1,V.o.2.1,V.o.2.2.2⟩,⟨n2,n1,n3,n4.symm,n6,n5⟩,ce,V.next.kp aR (λe=>n2 e.symm),V.now.kp aR (λe=>n1 e.symm),?_,?_,?_,?_⟩
     ·show Tz Q txt4 vs 8 (a+2*Rl (c.1.length*mW s.p) 64) c.2.1 w8;rw[cN];exact nL.kp aR (λe=>n3 e.symm)
     ·show(UW (mW s.p) s.sk).length=c.1.length*mW s.p;rw[Ry,dD,cN]
     ·show(ax=a/\an=a+Rl (c.1.length*mW s.p) 64)\/(ax=a+Rl (c.1.length*mW s.p) 64/\an=a);rw[cN];omega
     ·show L=2*Rl (c.1.length*mW s.p) 64+Rl c.2.1.length 64;rw[cN];exact hL
    exact GO.set aR (λb e=>e▸V.o.1) ⟨vx,vn,vs,ax,an,hV⟩
   refine ON O$ It$ P7 [12,15] (λw'=>Ext w4 w') (by kernel_rfl) O$ PL 0 O O (Ext.OT w4)$ Q8 (i:=1) O (by kernel_rfl) O O (λ_=>Xv O) (Ext.OT w4)$ PL 2 O O (Ext.OT w4)$ P9 3 O (Q4 O) (Ext.OT w4)$ P9 4 O (Pp Xq O) (Ext.OT w4)$ qL 5 O (λ_ h=>OO U98 O O (h.OC aK) O) (Ext.OT w4)$ PL 6 O O (Ext.OT w4)$ P9 7 O (Q4 O) (Ext.OT w4)$ P9 8 O (Pp TU O) (Ext.OT w4)$ qL 9 O (λ_ h=>OO U98 O O (h.OC aK) O) (Ext.OT w4)$ P9 10 O (Q4 O) (Ext.OT w4) ?_;refine P9 11 O (Pp TU O) (Ext.OT w4)$ SM [12]$ qO 12$ PC (i:=12) O O (QQ YS O O O ((Ext.OT w4).OC aK) (by simp)) ?_;rintro w5 ⟨aH,ak⟩;refine⟨trivial,?_⟩;refine OI 13 O (Q4 O) trivial$ OI 14 O (Pp Xq O) trivial$ qO 15$ PC (i:=15) O O (QQ YS O O O aH (by simp)) ?_;rintro w6 ⟨aQ,aP⟩;refine⟨trivial,?_⟩;replace aQ:OR w6 rr [I (s.t:Int),.bool s.done,ptr G.k 0,I (s.p:Int),I (s.rounds:Int),ptr vx 0,ptr vn 0,ptr vs 0,.bool false] 100:=aQ;refine qE$ Pf O$ Pu O$ OX Sv O$ OX Zz O$ qV (OO U3 O O aQ O)$ PV O$ Pu O$ OX Sv O$ OX Zz O ?_;rw[show(s.t:Int)+1=((s.t+1:Nat):Int) by omega];refine OW O (QQ Q7 O O O aQ (by simp)) ?_;rintro w7 ⟨bP,aC⟩;replace bP:OR w7 rr [I ((s.t+1:Nat):Int),.bool s.done,ptr G.k 0,I (s.p:Int),I (s.rounds:Int),ptr vx 0,ptr vn 0,ptr vs 0,.bool false] 100:=bP;have ic:Kp (λj=>j=rr) w4 w7:=((Ext.OT w4).kp.trans ak |>.trans aP).trans aC;refine OD$ Pn.qb (e:=[(0,_),(3,_)]) ?_;refine It ?_
   cases hb:c.2.2 with
   | true =>
     rw[hb] at jM;refine P7 [18] (λw'=>Ext w7 w') (by kernel_rfl) O$ PL 0 O O (Ext.OT w7)$ PL 1 O O (Ext.OT w7)$ P9 2 O ((Sb O)) (Ext.OT w7)$ PL 3 O O (Ext.OT w7)$ PL 4 O O (Ext.OT w7)$ P9 5 O (Q4 O) (Ext.OT w7)$ P9 6 O (Pp Sv O) (Ext.OT w7)$ P9 7 O (Pp Zz O) (Ext.OT w7)$ qL 8 O (λ_ h=>OO U3 O O (h.OC bP) O) (Ext.OT w7)$ PL 9 O O (Ext.OT w7)$ P9 10 O (Q4 O) (Ext.OT w7)$ P9 11 O (Pp z7S O) (Ext.OT w7)$ qL 12 O (λ_ h=>OO U3 O O (h.OC bP) O) (Ext.OT w7) ?_;refine P9 13 O (yeq O O) (Ext.OT w7)$ P9 14 O (Ub O O) (Ext.OT w7)$ P9 15 O (Q4 O) (Ext.OT w7)$ P9 16 O (Pp Sv O) (Ext.OT w7)$ P9 17 O (Pp Zk O) (Ext.OT w7)$ SM [18] ?_;rw[show decide (((s.t+1:Nat):Int)=(s.rounds:Int))=decide (s.t+1=s.rounds) from decide_eq_decide.2 (by omega)];refine qO 18$ PC (i:=18) O O (QQ W3 O O O ((Ext.OT w7).OC bP) (by simp)) ?_;rintro w8 ⟨ce,aR⟩;refine⟨trivial,?_⟩;refine qE$ QB O$ OB func44 O ?_
     exact⟨_,rfl,rfl,txt4,jM _ _ O ce ((ic.trans (Ext.OT w7).kp).trans aR),oZ,(ao.OV λb e=> .inl e).trans (((ic.trans (Ext.OT w7).kp).trans aR).OV λb e=> .inr (e▸V.o.1))⟩
   | false =>
     rw[hb] at jM;refine P7 [18] (λw'=>Ext w7 w') (by kernel_rfl) O$ PL 0 O O (Ext.OT w7)$ PL 1 O O (Ext.OT w7)$ P9 2 O ((Sb O)) (Ext.OT w7)$ PL 3 O O (Ext.OT w7)$ Vm [5,6,7,8,13,14,15,16,17,18] (i:=4) O (by kernel_rfl) O O (Ext.OT w7)$ Vm [6,7,8,13,14,15,16,17,18] (i:=5) O (by kernel_rfl) O O (Ext.OT w7)$ Vm [7,8,13,14,15,16,17,18] (i:=6) O (by kernel_rfl) O O (Ext.OT w7)$ Vm [8,13,14,15,16,17,18] (i:=7) O (by kernel_rfl) O O (Ext.OT w7)$ Vm [13,14,15,16,17,18] (i:=8) O (by kernel_rfl) O O (Ext.OT w7)$ Vm [10,11,12,13,14,15,16,17,18] (i:=9) O (by kernel_rfl) O O (Ext.OT w7)$ Vm [11,12,13,14,15,16,17,18] (i:=10) O (by kernel_rfl) O O (Ext.OT w7)$ Vm [12,13,14,15,16,17,18] (i:=11) O (by kernel_rfl) O O (Ext.OT w7)$ Vm [13,14,15,16,17,18] (i:=12) O (by kernel_rfl) O O (Ext.OT w7) ?_;refine Vm [14,15,16,17,18] (i:=13) O (by kernel_rfl) O O (Ext.OT w7)$ P9 14 O (UJ O O) (Ext.OT w7)$ P9 15 O (Q4 O) (Ext.OT w7)$ P9 16 O (Pp Sv O) (Ext.OT w7)$ P9 17 O (Pp Zk O) (Ext.OT w7)$ SM [18]$ qO 18$ PC (i:=18) O O (QQ W3 O O O ((Ext.OT w7).OC bP) (by simp)) ?_;rintro w8 ⟨ce,aR⟩;refine⟨trivial,?_⟩;refine qE$ QB O$ OB func44 O ?_;exact⟨_,rfl,rfl,txt4,jM _ _ O ce ((ic.trans (Ext.OT w7).kp).trans aR),oZ,(ao.OV λb e=> .inl e).trans (((ic.trans (Ext.OT w7).kp).trans aR).OV λb e=> .inr (e▸V.o.1))⟩
def VW (h:Ru TL G Q txt K X rr O_ a L (s,ys) w)(hI:Zc G.g s)(pM:s.p<=8)(hK:K<=700000000000)(hd:s.done=false):Pm prog 10 [ptr rr 0] w λv w'=>v= .tuple #[.bool (s.step G.g).done,I 0]/\∃txt',Ru TL G Q txt' (K+40*(mW s.p+1)) X rr O_ a L (s.step G.g,UW (mW s.p) s.sk) w'/\(∀y:Int,y<(a:Int)\/(a:Int)+(L:Int)<=y->txt' y=txt y)/\Kp (λb=>¬X b\/O_ b) w w':=by
 obtain⟨vn,vx,vs,hB⟩:=h.cells
 rw[hd] at hB
 refine py (e:=[(0,_)]) func10 O ntmps10 O O$ qN O$ PU O$ PG O$ P4 zaW O (TZ h) ?_
 rintro _ w ⟨rfl,rfl⟩
 refine Qt O$ Qf O$ PW O$ PG O$ Pu O$ OX Sv O$ OX Zk O$ qV (OO U4 O O hB O)$ PW O$ PG O$ P4 zkm O (z4Z h hI pM hK) ?_
 rintro _ w1 ⟨rfl,txt1,h1,nJ,aL⟩
 obtain⟨vn1,vx1,vs1,aj⟩:=h1.cells
 refine Qt O$ Qf O$ PW O$ Pf O$ Pu O$ OX Sv O$ OX Zk O$ qV (OO U4 O O aj O)$ PU O$ OB func10 O ?_
 exact⟨_,rfl,rfl,txt1,h1,nJ,aL⟩
end
def nB (t:OG):Nat:=Pv (P3 t)
def ziQ {t:OG}{k:Nat}(h:t.length<=4):nB t<4294967296:=by
 have h1:=QF (P3 t)
 rw[bitsT_length] at h1
 have h2:2^(8*t.length)<=2^32:=Nat.pow_le_pow_right (by decide) (by omega)
 show Pv (P3 t)<_
 omega
def blT (s:Si):OG:=Th 4 s.t++[if s.done then 1 else 0]++s.sk.flatten++UM 8 s.Qd
def z11 (s:Si)(n:Nat)(t:OG):Option Si:=
 if t.length=5+n*2^s.p+8*n/\nB (t.take 4)<=s.rounds/\(t.getD 4 0).toNat<=1/\(∀x∈(t.drop 5).take (n*2^s.p),x.toNat<=65-s.p) then
  some ⟨s.p,s.rounds,nB (t.take 4),decide ((t.getD 4 0).toNat=1),Ug n (2^s.p) (t.drop 5),RF 8 n (t.drop (5+n*2^s.p))⟩
 else none
theorem ZX {m:Nat}:∀{sk:List OG},(∀s∈sk,s.length=m)->sk.flatten.length=sk.length*m
 |[],_=>by simp
 | s :: sk, h => by
   rw[List.flatten_cons,List.length_append,ZX λx hx=>h x (List.mem_cons_of_mem _ hx),h s List.mem_cons_self,List.length_cons,Nat.add_mul];omega
def z14 {m:Nat}:∀{sk:List OG} {z:OG},(∀s∈sk,s.length=m)->Ug sk.length m (sk.flatten++z)=sk
 |[],_,_=>rfl
 | s :: sk, z, h => by
   have ih:=z14 (m:=m) (sk:=sk) (z:=z) λx hx=>h x (List.mem_cons_of_mem _ hx);have hs:=h s List.mem_cons_self;unfold Ug at*;rw[List.length_cons,List.range_succ_eq_map,List.map_cons,List.map_map,Nat.zero_mul,List.drop_zero,List.flatten_cons,List.append_assoc,List.take_left' hs]
   congr 1
   conv=>rhs;rw[<-ih]
   refine List.map_congr_left λi _=>?_;show((s++(sk.flatten++z)).drop ((i+1)*m)).take m=_;rw[Nat.add_mul,Nat.one_mul,List.drop_append,List.drop_of_length_le (by rw[hs];omega),List.nil_append,hs,Nat.add_sub_cancel]
def zap {n m:Nat}{t:OG}:(Ug n m t).length=n:=by simp[Ug]
theorem Zc.flat {g:List (List Nat)}{s:Si}(h:Zc g s):s.sk.flatten.length=g.length*2^s.p:=by
 rw[ZX (m:=2^s.p) λx hx=>(h.ok x hx).1,h.n]
def zd4 {g:List (List Nat)}{s:Si}(h:Zc g s):(blT s).length=5+g.length*2^s.p+8*g.length:=by
 unfold blT
 rw[List.length_append,List.length_append,List.length_append,Px,UU,List.length_singleton,h.flat,h.sn];omega
def zc1 {g:List (List Nat)}{s s0:Si}(h:Zc g s)(ht:s.t<=s.rounds)(hp:s0.p=s.p)(hr:s0.rounds=s.rounds):z11 s0 g.length (blT s)=some s:=by
 have hr2:=h.r2
 have e1:=zd4 h
 have e2:(blT s).take 4=Th 4 s.t:=by
  unfold blT;rw[List.append_assoc,List.append_assoc];exact List.take_left' (Px _ _)
 have e3:((blT s).getD 4 0).toNat=if s.done then 1 else 0:=by
  unfold blT;rw[List.append_assoc,List.append_assoc,List.getD,List.getElem?_append_right (by rw[Px];omega),Px];cases s.done<;>rfl
 have e4:(blT s).drop 5=s.sk.flatten++UM 8 s.Qd:=by
  unfold blT;rw[List.append_assoc,List.drop_left' (by rw[List.length_append,Px];rfl)]
 have e5:(blT s).drop (5+g.length*2^s.p)=UM 8 s.Qd:=by
  rw[<-List.drop_drop,e4];exact List.drop_left' h.flat
 have n1:nB (Th 4 s.t)=s.t:=Xj (by omega)
 have n3:RF 8 g.length (UM 8 s.Qd)=s.Qd:=by rw[<-h.sn];exact z1H h.lt
 have n4:decide ((if s.done=true then 1 else 0:Nat)=1)=s.done:=by cases s.done<;>rfl
 have n5:(if s.done=true then 1 else 0:Nat)<=1:=by cases s.done<;>decide
 have n6:Ug g.length (2^s.p) (s.sk.flatten++UM 8 s.Qd)=s.sk:=by
  rw[<-h.n];exact z14 λx hx=>(h.ok x hx).1
 unfold z11
 rw[hp,hr,e1,e2,e3,e4,e5,n1,n3,n4,n6,if_pos]
 refine⟨rfl,ht,n5,λx hx=>?_⟩
 rw[List.take_left' h.flat] at hx
 obtain⟨y,hy,hxy⟩:=List.mem_flatten.1 hx
 exact(h.ok y hy).2 x hxy
structure Vc1 where
 vb:Nat
 width:Nat
 st:Nat
 xs:List Nat
def Vc1.len (v:Vc1):Nat:=Rl v.xs.length (512 / v.width)
def Wz (L:List Bool)(T:List Vc1):List Bool:=T.foldl (λL v=>Qh L v.st v.len false) L
theorem z2B (L:List Bool)(T:List Vc1)(v:Vc1):Wz L (T++[v])=Qh (Wz L T) v.st v.len false:=by
 unfold Wz
 rw[List.foldl_append];rfl
def z5q:∀(T:List Vc1) (L:List Bool),(∀v∈T,v.st+v.len<=L.length)->(Wz L T).length=L.length
 |[],L,_=>rfl
 | v :: T, L, h => by
   have h1:=PY (b:=false) (h v List.mem_cons_self);have:=z5q T (Qh L v.st v.len false) λu hu=>by rw[h1];exact h u (List.mem_cons_of_mem _ hu)
   exact this.trans h1
theorem z0X:∀(T:List Vc1) (L:List Bool) (i:Nat),(∀v∈T,v.st+v.len<=L.length)->(∀v∈T,i<v.st\/v.st+v.len<=i)->(Wz L T)[i]? =L[i]?
 |[],L,i,_,_=>rfl
 | v :: T, L, i, h, h' => by
   have h1:=PY (b:=false) (h v List.mem_cons_self);have:=z0X T (Qh L v.st v.len false) i (λu hu=>by rw[h1];exact h u (List.mem_cons_of_mem _ hu)) λu hu=>h' u (List.mem_cons_of_mem _ hu);refine Eq.trans this ?_;have h2:=h' v List.mem_cons_self;rw[Re (h v List.mem_cons_self),if_neg (by omega)]
def zcd (T:List Vc1):Prop:=∀(i j:Nat) (u v:Vc1),T[i]? =some u->T[j]? =some v->i≠j->u.vb≠v.vb/\(u.st+u.len<=v.st\/v.st+v.len<=u.st)
structure z9b (Q:Rn)(txt:Int->OG)(K:Nat)(X:Nat->Prop)(T:List Vc1)(a L:Nat)(w:World)(i:Nat)(w':World):Prop where
 ex:∃txt',Sp (Q.Qj (Wz Q.L (T.take i))) txt' K X w'/\(∀(j:Nat) (v:Vc1),i<=j->T[j]? =some v->Tz (Q.Qj (Wz Q.L (T.take i))) txt' v.vb v.width v.st v.xs w')/\(∀y:Int,y<(a:Int)\/(a:Int)+(L:Int)<=y->txt' y=txt y)
 k:Kp (λb=>¬X b\/∃v∈T,b=v.vb) w w'
section
variable {w w' w1:World}{Q:Rn}{txt:Int->OG}{K a L i:Nat}{X:Nat->Prop}{T:List Vc1}{v:Vc1}
theorem z9b.zero (hP:Sp Q txt K X w)(hT:∀(j:Nat) (v:Vc1),T[j]? =some v->Tz Q txt v.vb v.width v.st v.xs w):z9b Q txt K X T a L w 0 w:=
 ⟨⟨txt,hP,λj v _ h=>hT j v h,λ_ _=>rfl⟩,Kp.refl _ _⟩
def z9b.next (h:z9b Q txt K X T a L w i w1)(hX:∀b,X b->b<w.heap.size)(hv:T[i]? =some v)(hin:∀v∈T,X v.vb/\a<=v.st/\v.st+v.len<=a+L)(hap:zcd T)(ha2:2<=a)(hfit:a+L<=Q.L.length)(hown:∀i,a<=i->i<a+L->Q.L[i]? =some true):
  Pm prog 80 [ptr v.vb 0] w1 λr w'=>r=I 0/\z9b Q txt K X T a L w (i+1) w':=by
 obtain⟨⟨txt1,hP1,hV1,hy1⟩,hk1⟩:=h
 have hvm:=List.mem_of_getElem? hv
 obtain⟨hvX,hva,hvL⟩:=hin v hvm
 have hfitT:∀u∈T.take i,u.st+u.len<=Q.L.length:=λu hu=>by have:=(hin u (List.mem_of_mem_take hu)).2.2;omega
 have hcl:(Wz Q.L (T.take i)).length=Q.L.length:=z5q _ _ hfitT
 have hil:i<T.length:=by
  rcases Nat.lt_or_ge i T.length with h| h
  ·exact h
  ·rw[List.getElem?_eq_none h] at hv;cases hv
 have htk:T.take (i+1)=T.take i++[v]:=by rw[List.take_add_one,hv];rfl
 have z1:=hk1.size
 refine(z5N hP1 (λb hb=>by have:=hX b hb;omega) (hV1 i v (Nat.le_refl _) hv) hvX (by omega) ?_).mono ?_
 ·intro k e1 e2;show(Wz Q.L (T.take i))[k]? =some true;have e2:k<v.st+v.len:=e2;rw[z0X _ _ _ hfitT]
  ·exact hown k (by omega) (by omega)
  ·intro u hu;obtain⟨j,hj⟩:=List.getElem?_of_mem hu
   have hji:j<i:=by
    rcases Nat.lt_or_ge j i with h| h
    ·exact h
    ·rw[List.getElem?_eq_none (by rw[List.length_take];omega)] at hj;cases hj
   rw[List.getElem?_take_of_lt hji] at hj;have:=(hap j i u v hj hv (by omega)).2;omega
 ·rintro r w' ⟨rfl,txt',hP',hy',hk'⟩
  have hq:(Q.Qj (Wz Q.L (T.take i))).Qj (Qh (Q.Qj (Wz Q.L (T.take i))).L v.st v.len false)=Q.Qj (Wz Q.L (T.take (i+1))):=by
   rw[htk,z2B];rfl
  have hP':Sp ((Q.Qj (Wz Q.L (T.take i))).Qj (Qh (Q.Qj (Wz Q.L (T.take i))).L v.st v.len false)) txt' K X w':=hP';rw[hq] at hP';refine⟨rfl,⟨txt',hP',λj u hj hu=>?_,λy hy=>?_⟩,hk1.trans (hk'.OV λb e=>e.imp id λe=>⟨v,hvm,e⟩)⟩
  ·obtain⟨n1,n2⟩:=hap i j v u hv hu (by omega);have huX:=(hin u (List.mem_of_getElem? hu)).1;have hl2:(Wz Q.L (T.take (i+1))).length=(Wz Q.L (T.take i)).length:=by rw[htk,z2B,PY (by rw[hcl];omega)]
   refine(((hV1 j u (by omega) hu).kp hk' λe=>e.elim (λe=>e huX) λe=>n1 e.symm).TH λy e1 e2=>hy' y ?_).q O hl2;have e2:y<(u.st:Int)+(u.len:Int):=e2;show y<(v.st:Int)\/(v.st:Int)+(v.len:Int)<=y;omega
  ·rw[hy' y (by show y<(v.st:Int)\/(v.st:Int)+(v.len:Int)<=y;omega)];exact hy1 y hy
end
section
variable {G:Yi}{w w':World}{Q:Rn}{txt:Int->OG}{K:Nat}{X O_:Nat->Prop}{rr a L:Nat}{s:Si}{ys:List Nat}
theorem Zc.ws {g:List (List Nat)}(h:Zc g s):UM 8 (UW (mW s.p) s.sk)=s.sk.flatten:=z4V λx hx=>by rw[(h.ok x hx).1,zaf h.p4]
def z7b (h:Ru TL G Q txt K X rr O_ a L (s,ys) w)(hI:Zc G.g s):Pm prog 20 [ptr rr 0] w λv w'=>v= .tuple #[S (blT s),I 0]/\Ru TL G Q txt K X rr O_ a L (s,ys) w'/\Kp (λb=>¬(X b\/b=G.rb)) w w':=by
 have eT:=h.n
 have ht:=hI.t
 have hN:2^s.p<=2^16:=Nat.pow_le_pow_right (by decide) hI.p16
 have jG:=hI.flat
 have oP:G.g.length*2^s.p<=40*2^16:=Nat.mul_le_mul eT hN
 have mJ:=UU 8 s.Qd
 have dD:=hI.sn
 have fC:=Px 4 s.t
 obtain⟨vn,vx,vs,an,ax,V⟩:=h.bl
 have hB:OR w rr [I (s.t:Int),.bool s.done,ptr G.k 0,I (s.p:Int),I (s.rounds:Int),ptr vn 0,ptr vx 0,ptr vs 0,.bool false] 100:=V.run
 have jw:∀b,O_ b->¬¬(X b\/b=G.rb):=λb hb e=>e (.inl (h.xr b hb))
 have dA:=z1C h.g.sp h.g.lt1 h.g.z5E V.now (.inl (h.xr _ V.o.2.1))
 rw[hI.ws] at dA
 refine py (e:=[(0,_)]) func20 O ntmps20 O O$ qN O$ PU O$ PG O$ P4 zaW O (TZ h) ?_
 rintro _ w ⟨rfl,rfl⟩
 refine Qt O$ Qf O$ PW O$ Pf O$ Pu O$ OX TU O$ qV (OO U98 O O hB O)$ P4 zij O (dA) ?_
 rintro _ w1 ⟨rfl,j3,aL⟩
 have h1:=h.read aL j3
 have V1:=V.kp aL jw
 have aj:=aL.OC hB (jw _ V.o.1)
 refine OK O$ RA O$ PU O$ PG O$ Qf O$ PW O$ Pf O$ Pu O$ OX Ve O$ qV (OO U98 O O aj O)$ P4 zij O (z1C h1.g.sp h1.g.lt1 h1.g.z5E V1.Qd (.inl (h1.xr _ V1.o.2.2.2))) ?_
 rintro _ w2 ⟨rfl,dQ,aq⟩
 have h2:=h1.read aq dQ
 have am:=aq.OC aj (jw _ V.o.1)
 have aa:=Ext.OT w2
 refine OK O$ RA O$ PU O$ Pn.qb (e:=[(0,_),(2,_),(3,_),(5,_),(6,_),(7,_)]) ?_
 refine PG O$ Qf O ?_
 have N4:blT s=Th 4 s.t++[if s.done then 1 else 0]++s.sk.flatten++UM 8 s.Qd:=rfl
 refine PW O$ It$ R5 (λw'=>Ext w2 w') O$ OZ 0 O O (aa)$ OI 1 O (Q4 O) aa$ OI 2 O (Pp Sv O) aa$ OI 3 O (Pp Zz O) aa$ qT 4 O (λ_ h=>OO U3 O O (h.OC am) O) aa$ OZ 6 O O (aa)$ OI 7 O (Q4 O) aa$ OI 8 O (Pp Sv O) aa$ OI 9 O (Pp Zk O) aa$ qT 10 O (λ_ h=>OO U4 O O (h.OC am) O) aa$ OZ 13 O O (aa) ?_
 refine OZ 15 O O (aa)$ SK 5 O zlB O (z6g s.t (by omega) _) ?_
 rintro _ w3 ⟨rfl,ai⟩
 refine⟨aa.trans ai,?_⟩
 have af:=aa.trans ai
 refine SK 11 O zkB O (z6a s.done _) ?_
 rintro _ w4 ⟨rfl,rfl⟩
 refine⟨af,?_⟩
 refine OI 12 O (V7 O O (by rw[fC];cases s.done<;>decide)) af ?_
 refine OI 14 O (V7 O O (by rw[List.length_append,fC,jG];cases s.done<;>simp<;>omega)) af ?_
 refine OI 16 O (V7 O O (by rw[List.length_append,List.length_append,fC,jG,mJ];cases s.done<;>simp<;>omega)) af ?_
 refine OI 17 O (R7 O) af$ OI 18 O (R7 O) af$ qE$ Pn.qb (e:=[(2,_),(3,_)]) ?_
 refine OB func20 O ?_
 rw[N4]
 exact⟨_,rfl,rfl,h2.ext af,(aL.trans aq).trans af.kp⟩
def z9t (s:Si)(i:Int):Value:=if i<0\/(s.sk.length:Int)<=i then .tuple #[S [],I 1] else .tuple #[S (s.sk.getD i.toNat []),I 0]
def z7g (h:Ru TL G Q txt K X rr O_ a L (s,ys) w)(hI:Zc G.g s)(i:Int):Pm prog 14 [ptr rr 0,I i] w λv w'=>v=z9t s i/\Ru TL G Q txt K X rr O_ a L (s,ys) w'/\Kp (λb=>¬(X b\/b=G.rb)) w w':=by
 obtain⟨vn,vx,vs,hB⟩:=h.cells
 have dD:=hI.n
 refine py (e:=[(0,_),(1,_)]) func14 O ntmps14 O O$ qN O$ PU O$ PG O$ P4 zaW O (TZ h) ?_
 rintro _ w ⟨rfl,rfl⟩
 refine Qt O$ Qf O$ PW O$ PG O ?_
 by_cases h0:i<0
 ·refine Qq O$ Rp$ OK O$ QG$ QG$ QG$ qS$ QJ O$ OD$ OS O$ qN O$ PU O$ OB func14 O ?_;unfold z9t;rw[if_pos (.inl h0)];exact⟨_,rfl,rfl,h,Kp.refl _ _⟩
 ·refine Qq O$ PF$ P8 O$ OK O$ Pu O$ OX YH O$ qV (OO U30 O O hB O)$ P4 zar O (Xh h.g) ?_;rintro _ w ⟨rfl,rfl⟩;by_cases h1:(G.g.length:Int)<=i
  ·refine Te O$ Rp$ PK O$ OD$ OS O$ qN O$ PU O$ OB func14 O ?_;unfold z9t;rw[if_pos (.inr (by omega))];exact⟨_,rfl,rfl,h,Kp.refl _ _⟩
  ·obtain⟨n,rfl⟩:∃n:Nat,i=(n:Int):=⟨i.toNat,by omega⟩;refine Te O$ PF$ PK O$ PW O$ Qm O$ P4 zgk O (Yb h hI (v:=n) (by omega)) ?_;rintro _ w1 ⟨rfl,h1,aL⟩;refine RA O$ PU O$ Pn.qb (e:=[(4,_),(5,_)]) ?_;refine OB func14 O ?_;unfold z9t;rw[if_neg (by omega),show((n:Int)).toNat=n by omega];exact⟨_,rfl,rfl,h1,aL⟩
def z4k (s:Si)(i:Int):Value:=if s.done=false then .tuple #[u64v 0,I 16] else if i<0\/(s.Qd.length:Int)<=i then .tuple #[u64v 0,I 1] else .tuple #[u64v (s.Qd.getD i.toNat 0),I 0]
def z2A (h:Ru TL G Q txt K X rr O_ a L (s,ys) w)(i:Int):Pm prog 15 [ptr rr 0,I i] w λv w'=>v=z4k s i/\Ru TL G Q txt K X rr O_ a L (s,ys) w'/\Kp (λb=>¬(X b\/b=G.rb)) w w':=by
 obtain⟨vn,vx,vs,an,ax,V⟩:=h.bl
 have hB:OR w rr [I (s.t:Int),.bool s.done,ptr G.k 0,I (s.p:Int),I (s.rounds:Int),ptr vn 0,ptr vx 0,ptr vs 0,.bool false] 100:=V.run
 refine py (e:=[(0,_),(1,_)]) func15 O ntmps15 O O$ qN O$ PU O$ PG O$ P4 zaW O (TZ h) ?_
 rintro _ w ⟨rfl,rfl⟩
 refine Qt O$ Qf O$ PW O$ PG O$ Pu O$ OX Sv O$ OX Zk O ?_
 by_cases hd:s.done=false
 ·rw[hd] at hB;refine qV (OO U4 O O hB O)$ qV ((Sb O))$ OD$ OS O$ qN O$ PU O$ OB func15 O ?_;unfold z4k;rw[if_pos hd];exact⟨_,rfl,rfl,h,Kp.refl _ _⟩
 ·have uN:s.done=true:=by simpa using hd
  rw[uN] at hB;refine qV (OO U4 O O hB O)$ qV ((Sb O))$ PW O$ Pf O$ Pu O$ OX Ve O$ qV (OO U98 O O hB O)$ OK O ?_;by_cases hi:i<0\/(s.Qd.length:Int)<=i
  ·refine P4 zdA O (z6i V.Qd hi) ?_;rintro _ w ⟨rfl,rfl⟩;refine RA O$ PU O$ OB func15 O ?_;unfold z4k;rw[if_neg hd,if_pos hi];exact⟨_,rfl,rfl,h,Kp.refl _ _⟩
  ·obtain⟨n,rfl⟩:∃n:Nat,i=(n:Int):=⟨i.toNat,by omega⟩;obtain⟨x,hx⟩:∃x,s.Qd[n]? =some x:=⟨_,List.getElem?_eq_getElem (by omega)⟩;refine P4 zdA O (ZB h.g.sp h.g.lt1 h.g.z5E V.Qd (.inl (h.xr _ V.o.2.2.2)) (i:=n) hx) ?_;rintro _ w1 ⟨rfl,j3,aL⟩;have h1:=h.read aL j3;refine RA O$ PU O$ OB func15 O ?_;unfold z4k;rw[if_neg hd,if_neg hi,show((n:Int)).toNat=n by omega,List.getD_eq_getElem?_getD,hx];exact⟨_,rfl,rfl,h1,aL⟩
end
section
variable {G:Yi}{w w':World}{Q:Rn}{txt txt':Int->OG}{K k:Nat}{X O_:Nat->Prop}{rr a L:Nat}{s:Si}{ys:List Nat}
def zce {α:Type}{P:Nat->α->Prop}{x y z:α}(h0:P 0 x)(h1:P 1 y)(h2:P 2 z):∀(j:Nat) (v:α),[x,y,z][j]? =some v->P j v
 |0,v,h=>by cases h;exact h0
 |1,v,h=>by cases h;exact h1
 |2,v,h=>by cases h;exact h2
 |j+3,v,h=>by cases h
def z68 (h:Ru TL G Q txt K X rr O_ a L (s,ys) w)(GP:2<=a)(cd:a+L<=Q.L.length)(uO:∀i,a<=i->i<a+L->Q.L[i]? =some true):Pm prog 42 [ptr rr 0] w λr w'=>r=I 0/\∃txt',S3 G (Q.Qj (Qh Q.L a L false)) txt' K X w'/\(∃vn vx vs,OR w' rr [I (s.t:Int),.bool s.done,ptr G.k 0,I (s.p:Int),I (s.rounds:Int),ptr vn 0,ptr vx 0,ptr vs 0,.bool false] 100)/\(∀y:Int,y<(a:Int)\/(a:Int)+(L:Int)<=y->txt' y=txt y)/\Kp (λb=>¬X b\/O_ b) w w':=by
 have eT:=h.n
 have FX:=h.VF
 have qA:=h.lts
 obtain⟨vn,vx,vs,an,ax,V⟩:=h.bl
 have hB:OR w rr [I (s.t:Int),.bool s.done,ptr G.k 0,I (s.p:Int),I (s.rounds:Int),ptr vn 0,ptr vx 0,ptr vs 0,.bool false] 100:=V.run
 have lD:=V.at_
 have hL:=V.L
 have sK:=V.yl
 have oS:=V.wl
 obtain⟨n1,n2,n3,n4,n5,n6⟩:=V.ne
 obtain⟨T,hT⟩:∃T:List Vc1,[(⟨vn,8,an,UW (mW s.p) s.sk⟩:Vc1),⟨vx,8,ax,ys⟩,⟨vs,8,a+2*Rl (s.sk.length*mW s.p) 64,s.Qd⟩]=T:=⟨_,rfl⟩
 have MM:T.length=3:=by rw[<-hT];rfl
 have e1:(⟨vn,8,an,UW (mW s.p) s.sk⟩:Vc1).len=Rl (s.sk.length*mW s.p) 64:=by simp[Vc1.len,oS]
 have e2:(⟨vx,8,ax,ys⟩:Vc1).len=Rl (s.sk.length*mW s.p) 64:=by simp[Vc1.len,sK]
 have e3:(⟨vs,8,a+2*Rl (s.sk.length*mW s.p) 64,s.Qd⟩:Vc1).len=Rl s.Qd.length 64:=by simp[Vc1.len]
 have iK:1<=Rl (s.sk.length*mW s.p) 64:=Nat.le_max_left _ _
 have f9:1<=Rl s.Qd.length 64:=Nat.le_max_left _ _
 have aU:∀v∈T,X v.vb/\a<=v.st/\v.st+v.len<=a+L:=λv hv=>by
  obtain⟨j,hj⟩:=List.getElem?_of_mem hv;rw[<-hT] at hj;refine zce (P:=λ_ v=>X v.vb/\a<=v.st/\v.st+v.len<=a+L) ⟨h.xr _ V.o.2.1,?_,?_⟩ ⟨h.xr _ V.o.2.2.1,?_,?_⟩ ⟨h.xr _ V.o.2.2.2,?_,?_⟩ j v hj
  ·show a<=an;omega
  ·rw[e1];show an+_<=_;omega
  ·show a<=ax;omega
  ·rw[e2];show ax+_<=_;omega
  ·show a<=a+2*_;omega
  ·rw[e3];show a+2*_+_<=_;omega
 have Av:∀v∈T,O_ v.vb/\v.vb≠rr:=λv hv=>by
  obtain⟨j,hj⟩:=List.getElem?_of_mem hv;rw[<-hT] at hj;exact zce (P:=λ_ v=>O_ v.vb/\v.vb≠rr) ⟨V.o.2.1,λe=>n1 e.symm⟩ ⟨V.o.2.2.1,λe=>n2 e.symm⟩ ⟨V.o.2.2.2,λe=>n3 e.symm⟩ j v hj
 have Cq:zcd T:=λi j u v hu hv gU=>by
  rw[<-hT] at hu hv
  have AX:i<3:=by
   rcases Nat.lt_or_ge i 3 with h| h
   ·exact h
   ·rw[List.getElem?_eq_none (by simpa using h)] at hu;cases hu
  have Oq:j<3:=by
   rcases Nat.lt_or_ge j 3 with h| h
   ·exact h
   ·rw[List.getElem?_eq_none (by simpa using h)] at hv;cases hv
  obtain rfl|rfl|rfl:i=0\/i=1\/i=2:=by omega
  all_goals obtain rfl|rfl|rfl:j=0\/j=1\/j=2:=by omega
  all_goals first
   |exact absurd O gU
   |(cases hu;cases hv;rw[e1,e2];exact⟨n4,by show an+_<=ax\/ax+_<=an;omega⟩)
   |(cases hu;cases hv;rw[e1,e3];exact⟨n5,by show an+_<=a+2*_\/a+2*_+_<=an;omega⟩)
   |(cases hu;cases hv;rw[e2,e1];exact⟨n4.symm,by show ax+_<=an\/an+_<=ax;omega⟩)
   |(cases hu;cases hv;rw[e2,e3];exact⟨n6,by show ax+_<=a+2*_\/a+2*_+_<=ax;omega⟩)
   |(cases hu;cases hv;rw[e3,e1];exact⟨n5.symm,by show a+2*_+_<=an\/an+_<=a+2*_;omega⟩)
   |(cases hu;cases hv;rw[e3,e2];exact⟨n6.symm,by show a+2*_+_<=ax\/ax+_<=a+2*_;omega⟩)
 have lH:∀v∈T,v.st+v.len<=Q.L.length:=λv hv=>by have:=(aU v hv).2.2;omega
 have dV:Wz Q.L T=Qh Q.L a L false:=by
  refine List.ext_getElem? λi=>?_;rw[Re cd];by_cases hi:a<=i/\i<a+L
  ·rw[if_pos hi];have f1:=lH ⟨vn,8,an,UW (mW s.p) s.sk⟩ (by rw[<-hT];simp);have f2:=lH ⟨vx,8,ax,ys⟩ (by rw[<-hT];simp);have f3:=lH ⟨vs,8,a+2*Rl (s.sk.length*mW s.p) 64,s.Qd⟩ (by rw[<-hT];simp);rw[e1] at f1;rw[e2] at f2;rw[e3] at f3;have f1:an+Rl (s.sk.length*mW s.p) 64<=Q.L.length:=f1;have f2:ax+Rl (s.sk.length*mW s.p) 64<=Q.L.length:=f2;have f3:a+2*Rl (s.sk.length*mW s.p) 64+Rl s.Qd.length 64<=Q.L.length:=f3;rw[<-hT];show(Qh (Qh (Qh Q.L an _ false) ax _ false) (a+2*_) _ false)[i]? =_;rw[e1,e2,e3];have g1:(Qh Q.L an (Rl (s.sk.length*mW s.p) 64) false).length=Q.L.length:=PY f1;have g2:(Qh (Qh Q.L an (Rl (s.sk.length*mW s.p) 64) false) ax (Rl (s.sk.length*mW s.p) 64) false).length=Q.L.length:=by rw[PY (by rw[g1];exact f2),g1]
   rw[Re (by rw[g2];exact f3),Re (by rw[g1];exact f2),Re f1];by_cases c1:a+2*Rl (s.sk.length*mW s.p) 64<=i/\i<a+2*Rl (s.sk.length*mW s.p) 64+Rl s.Qd.length 64
   ·rw[if_pos c1]
   ·rw[if_neg c1];by_cases c2:ax<=i/\i<ax+Rl (s.sk.length*mW s.p) 64
    ·rw[if_pos c2]
    ·rw[if_neg c2,if_pos (by omega)]
  ·rw[if_neg hi];exact z0X T Q.L i lH λv hv=>by have:=aU v hv;omega
 have hg:=Ext.OT w
 refine py (e:=[(0,_)]) func42 O ntmps42 O O$ qN O$ Qw O$ OU O$ It$ It$ R5 (λw'=>Ext w w') O$ OZ 0 O O (hg)$ OI 1 O (Q4 O) hg$ OI 2 O (Pp TU O) hg$ qT 3 O (λ_ h=>OO U98 O O (h.OC hB) O) hg$ OZ 4 O O (hg)$ OI 5 O (Q4 O) hg$ OI 6 O (Pp Xq O) hg ?_
 refine qT 7 O (λ_ h=>OO U98 O O (h.OC hB) O) hg$ OZ 8 O O (hg)$ OI 9 O (Q4 O) hg$ OI 10 O (Pp Ve O) hg$ qT 11 O (λ_ h=>OO U98 O O (h.OC hB) O) hg$ OZ 14 O O (hg)$ qO 12$ RZ (i:=12) O O O (Wj (cs:=[_,_,_]) (zs:=[Value.pointer none,Value.pointer none,Value.pointer none]) zfQ YS O (by kernel_rfl) O O O (by decide)) ?_
 rintro _ w1 ⟨bq,rfl,⟨Ot,ad,J5⟩,-⟩
 refine⟨hg.trans ad,?_⟩
 have bH:=hg.trans ad
 have z01:=bH.size
 have GQ:OR w1 bq (T.map λv=>ptr v.vb 0) 98:=by rw[<-hT];exact J5
 have lq:=J5.lt
 obtain⟨X1,iL⟩:∃X1:Nat->Prop,(λj=>(X j\/j=G.rb)\/j=bq)=X1:=⟨_,rfl⟩
 have eB:∀j,X j\/j=G.rb->X1 j:=λj hj=>by rw[<-iL];exact .inl hj
 have fT:X1 bq:=by rw[<-iL];exact .inr O
 have zd:=hg.size
 have j3:Sp Q txt K X1 w1:=(h.g.sp).ext bH (λb hb=>by rw[<-iL] at hb;exact hb.imp id λe=>by omega)
 have ui:∀b,X1 b->b<w1.heap.size:=λb hb=>by
  rw[<-iL] at hb;rcases hb with e| e
  ·have:=h.g.lt1 b e;omega
  ·omega
 have Aw:∀(j:Nat) (v:Vc1),T[j]? =some v->Tz Q txt v.vb v.width v.st v.xs w1:=λj v hj=>by
  rw[<-hT] at hj;exact zce (P:=λ_ v=>Tz Q txt v.vb v.width v.st v.xs w1) (V.now.ext bH) (V.next.ext bH) (V.Qd.ext bH) j v hj
 have GR:∀v∈T,X1 v.vb/\a<=v.st/\v.st+v.len<=a+L:=λv hv=>⟨eB _ (.inl (aU v hv).1),(aU v hv).2⟩
 have N5:∀v∈T,bq≠v.vb:=λv hv=>by have:=qA.1 v.vb (Av v hv).1;omega
 refine OI 13 O (SF zfQ O) (hg.trans ad)$ qE$ OH$ Rq (α:=Nat) (0) (λi=>[(3,I 0),(19,.slice (some ⟨bq,0,none⟩) 3 3),(20,I 3),(21,I (i:Int))]) (λi w'=>i<=3/\z9b Q txt K X1 T a L w1 i w') (λi=>3-i) ?hI ?hround
 case hI=>exact⟨Nat.zero_le _,.zero j3 Aw⟩
 case hround=>
  rintro i w4 ⟨hi,hC⟩ ih;have GS:=hC.k.OC GQ (λe=>e.elim (λe=>e fT) λ⟨v,hv,e⟩=>N5 v hv e)
  try dsimp only
  refine qN O$ Qq O$ OD$ It$ OQ O (λh0=>?_)$ λh0=>?_
  ·have AX:i<3:=by omega
   obtain⟨v,hv⟩:∃v,T[i]? =some v:=⟨_,List.getElem?_eq_getElem (by omega)⟩;refine OE$ Qx$ qN O$ qV (PX zfQ YS O O (by omega))$ qV (Pr U98 O O (by rw[GS.cell,Nat.zero_add,Nat.mul_one,List.getElem?_map,hv];rfl)) ?_;refine OU O$ PG O$ qV (Qi U98 O O)$ PW O$ Pf O$ P4 zlx O (hC.next ui hv GR Cq GP cd uO) ?_;rintro _ w5 ⟨rfl,N6⟩;refine Qt O$ Qf O$ OK O$ QG$ PK O$ PW O$ OA$ OL O$ PV O$ OK O$ OD ?_;exact(ih (i+1) _ ⟨by omega,N6⟩ (by omega)).qb
  ·have AX:i=3:=by omega
   subst AX;obtain⟨⟨txt4,ii,-,oZ⟩,ao⟩:=hC;rw[List.take_of_length_le (by omega),dV] at ii
   have fx:Kp (λb=>¬(X b\/b=G.rb)\/(X b/\b≠G.k/\b≠G.x/\b≠2/\b≠3/\O_ b/\b≠rr)) w w4:=bH.kp.trans (ao.OV λb e=>by
    rcases e with e|⟨v,hv,e⟩
    ·exact .inl λe2=>e (eB b e2)
    ·obtain⟨o1,o2⟩:=Av v hv;rw[e];obtain⟨m1,m2,m3,m4⟩:=h.ne _ o1
     exact .inr ⟨h.xr _ o1,m1,m2,m3,m4,o1,o2⟩)
   have N7:S3 G (Q.Qj (Qh Q.L a L false)) txt4 K X w4:=h.g.Zu fx (λb e=>e.imp id λe=>⟨e.1,e.2.1,e.2.2.1,e.2.2.2.1,e.2.2.2.2.1⟩) (ii.less eB) O (PY cd) h.g.z5E (λy h1 h2=>oZ y (.inl (by omega)));have aK:=fx.OC hB (λe=>e.elim (λe=>e (.inl (h.xr _ V.o.1))) λe=>e.2.2.2.2.2.2 O);refine ON O$ Pf O$ OU O$ OB func42 O ?_;exact⟨_,rfl,rfl,txt4,N7,⟨vn,vx,vs,aK⟩,oZ,fx.OV λb e=>e.imp (λe e2=>e (.inl e2)) λe=>e.2.2.2.2.2.1⟩
def zkG (s:Si)(k:Nat):List Value:=[I (s.t:Int),.bool s.done,ptr k 0,I (s.p:Int),I (s.rounds:Int),.pointer none,.pointer none,.pointer none,.bool true]
def z4f (h:Ru TL G Q txt K X rr O_ a L (s,ys) w)(GP:2<=a)(cd:a+L<=Q.L.length)(uO:∀i,a<=i->i<a+L->Q.L[i]? =some true):Pm prog 16 [ptr rr 0] w λr w'=>r=I 0/\∃txt',S3 G (Q.Qj (Qh Q.L a L false)) txt' K X w'/\OR w' rr (zkG s G.k) 100/\(∀y:Int,y<(a:Int)\/(a:Int)+(L:Int)<=y->txt' y=txt y)/\Kp (λb=>¬X b\/O_ b) w w':=by
 obtain⟨vn,vx,vs,hB⟩:=h.cells
 obtain⟨m1,m2,m3,m4⟩:=h.ne _ h.ro
 refine py (e:=[(0,_)]) func16 O ntmps16 O O$ QB O$ Qx$ Pf O$ qV (Qi U35 O O)$ OU O$ OJ O$ Pf O$ Pu O$ OX TU O$ qV (OO U98 O O hB O)$ qV (Qi U98 O O)$ OU O$ Tu O ?_
 refine OA$ Pf O$ P4 zkE O (z68 h GP cd uO) ?_
 rintro _ w1 ⟨rfl,txt1,uI,⟨un,ux,us,aj⟩,nJ,aL⟩
 refine Qw O$ P8 O$ P8 O$ Pu O$ OX TU O$ OW O (QQ YS O O O aj (by simp)) ?_
 rintro w2 ⟨am,aq⟩
 refine Pu O$ OX Xq O$ OW O (QQ YS O O O am (by simp)) ?_
 rintro w3 ⟨au,av⟩
 refine Pu O$ OX Ve O$ OW O (QQ YS O O O au (by simp)) ?_
 rintro w4 ⟨aK,ao⟩
 refine Pu O$ OX z8g O$ OW O (QQ W3 O O O aK (by simp)) ?_
 rintro w5 ⟨aH,ak⟩
 refine OD$ Pn.qb (e:=[(2,_),(3,_)]) ?_
 refine Pf O$ OU O$ OB func16 O ?_
 have hH:Kp (λj=>j=rr) w1 w5:=((aq.trans av).trans ao).trans ak
 exact⟨_,rfl,rfl,txt1,uI.own hH (λj e=>by rw[e];exact⟨h.xr _ h.ro,m1,m2,m3,m4⟩),aH,nJ,aL.trans (hH.OV λb e=> .inr (e▸h.ro))⟩
end
end Go.Proofs.YtgdkbagngobdlaaGreatDoor
