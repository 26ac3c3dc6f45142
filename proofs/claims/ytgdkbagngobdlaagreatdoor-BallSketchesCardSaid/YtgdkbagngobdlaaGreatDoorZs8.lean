/- Merged by program. -/
import Derived.Test.YtgdkbagngobdlaaGreatDoorZs7
set_option linter.all false
set_option maxRecDepth 1000000
set_option maxHeartbeats 16000000
namespace Go.Proofs.YtgdkbagngobdlaaGreatDoor
open Go Go.RowKit
def R4 (seed x:Nat):Nat:=
 let z:=(seed+(x+1)*11400714819323198485%18446744073709551616)%18446744073709551616
 let y:=(z^^^z / 1073741824)*13787848793156543929%18446744073709551616
 let u:=(y^^^y / 134217728)*10723151780598845931%18446744073709551616
 u^^^u / 2147483648
theorem zbw {a b:Nat}(ha:a<18446744073709551616)(hb:b<18446744073709551616):a^^^b<18446744073709551616:=
 Nat.xor_lt_two_pow (n:=64) ha hb
theorem z0M (seed x:Nat):R4 seed x<18446744073709551616:=by
 have h:∀u,u<18446744073709551616->u^^^u / 2147483648<18446744073709551616:=λu hu=>zbw hu (Nat.lt_of_le_of_lt (Nat.div_le_self _ _) hu)
 exact h _ (Nat.mod_lt _ (by decide))
def Xc (p h:Nat):Nat:=h / 2^(64-p)
def RI (p h:Nat):Nat:=1+min (64-P3 (h*2^p%18446744073709551616)) (64-p)
theorem XR {p h:Nat}(hp:4<=p/\p<=16):1<=RI p h/\RI p h<=65-p:=by
 unfold RI
 have:=Nat.min_le_right (64-P3 (h*2^p%18446744073709551616)) (64-p)
 omega
theorem z0A {p h:Nat}(hp:p<=16)(hh:h<18446744073709551616):Xc p h<2^p:=by
 unfold Xc
 refine Nat.div_lt_of_lt_mul ?_
 rw[<-Nat.pow_add,show 64-p+p=64 by omega]
 exact hh
def addN (p:Nat)(s:NY)(h:Nat):NY:=s.set (Xc p h) (UInt8.ofNat (max ((s.getD (Xc p h) 0).toNat) (RI p h)))
def PW (a b:NY):NY:=List.zipWith (λx y=>if x.toNat<y.toNat then y else x) a b
def Sg (p:Nat)(s:NY):Prop:=s.length=2^p/\∀x∈s,x.toNat<=65-p
theorem Sg.none {p:Nat}:Sg p (List.replicate (2^p) 0):=⟨List.length_replicate,λx hx=>by rw[(List.mem_replicate.1 hx).2];exact Nat.zero_le _⟩
theorem Sg.add {p:Nat}{s:NY}(h:Sg p s)(hp:4<=p/\p<=16)(x:Nat):Sg p (addN p s x):=by
 unfold addN
 refine⟨by rw[List.length_set];exact h.1,λy hy=>?_⟩
 rcases List.mem_or_eq_of_mem_set hy with e| e
 ·exact h.2 y e
 ·rw[e];have h1:=(XR (h:=x) hp).2
  have h2:(s.getD (Xc p x) 0).toNat<=65-p:=by
   rw[List.getD_eq_getElem?_getD]
   cases e:s[Xc p x]? with
   |none=>exact Nat.zero_le _
   |some y=>exact h.2 y (List.mem_of_getElem? e)
  have h3:max ((s.getD (Xc p x) 0).toNat) (RI p x)<=65-p:=Nat.max_le.2 ⟨h2,h1⟩;rw[UInt8.toNat_ofNat'];exact Nat.le_trans (Nat.mod_le _ _) h3
theorem UK (a b:NY):(PW a b).length=min a.length b.length:=List.length_zipWith
theorem Sg.union {p:Nat}{a b:NY}(ha:Sg p a)(hb:Sg p b):Sg p (PW a b):=by
 refine⟨by rw[UK,ha.1,hb.1,Nat.min_self],λx hx=>?_⟩
 unfold PW at hx
 obtain⟨i,hi,rfl⟩:=List.mem_iff_getElem.1 hx
 rw[List.getElem_zipWith]
 split
 ·exact hb.2 _ (List.getElem_mem _)
 ·exact ha.2 _ (List.getElem_mem _)
def Yh (s:NY):Nat:=(s.map λx=>2^(40-min 40 x.toNat)).sum
def mE (m:Nat):Nat:=7213*m*m*m / (10000*m+10790)
def zdN (m z:Nat):Nat:=((List.range (m-z)).map λi=>m*1048576 / (z+1+i)).sum
def Wk (s:NY):Nat:=if s.count 0=0\/5*s.length<2*(mE s.length*1099511627776 / Yh s) then mE s.length*1099511627776 / Yh s else zdN s.length (s.count 0) / 1048576
theorem z6s:∀s:NY,s.length<=Yh s/\Yh s<=s.length*1099511627776
 |[]=>⟨Nat.le_refl _,Nat.le_refl _⟩
 | x :: s => by
   have ih:=z6s s;have h1:1<=2^(40-min 40 x.toNat):=Nat.one_le_two_pow;have h2:2^(40-min 40 x.toNat)<=2^40:=Nat.pow_le_pow_right (by decide) (by omega);unfold Yh at*;rw[List.map_cons,List.sum_cons,List.length_cons];omega
def z3J (sum was now round:Nat):Nat:=if now<=was then sum else min (sum+min (now-was) 2147483647*4294967296 / round) 18446744073709551615
theorem z6u {sum was now round:Nat}(h:sum<18446744073709551616):z3J sum was now round<18446744073709551616:=by
 unfold z3J
 split
 ·exact h
 ·have:=Nat.min_le_right (sum+min (now-was) 2147483647*4294967296 / round) 18446744073709551615;omega
structure RR where
 p:Nat
 rounds:Nat
 t:Nat
 done:Bool
 sk:List NY
 PF:List Nat
def QE (g:List (List Nat))(sk:List NY)(v:Nat):NY:=(Oh g v).foldl (λs u=>PW s (sk.getD u [])) (sk.getD v [])
def Yx (g:List (List Nat))(s:RR)(a:List NY×List Nat×Bool)(v:Nat):List NY×List Nat×Bool:=
 if QE g s.sk v=s.sk.getD v [] then(a.1++[QE g s.sk v],a.2.1,a.2.2) else(a.1++[QE g s.sk v],a.2.1.set v (z3J (a.2.1.getD v 0) (Wk (s.sk.getD v [])) (Wk (QE g s.sk v)) (s.t+1)),true)
def TD (g:List (List Nat))(s:RR):List NY×List Nat×Bool:=(List.range g.length).foldl (Yx g s) ([],s.PF,false)
def RR.step (g:List (List Nat))(s:RR):RR:=⟨s.p,s.rounds,s.t+1,!(TD g s).2.2 ||decide (s.t+1=s.rounds),(TD g s).1,(TD g s).2.1⟩
def RR.new (g:List (List Nat))(p rounds seed:Nat):RR:=⟨p,rounds,0,false,(List.range g.length).map λv=>addN p (List.replicate (2^p) 0) (R4 seed v),List.replicate g.length 0⟩
structure BlI (g:List (List Nat))(s:RR):Prop where
 p4:4<=s.p
 p16:s.p<=16
 r1:1<=s.rounds
 r2:s.rounds<=1000
 t:s.t<=100000
 n:s.sk.length=g.length
 sn:s.PF.length=g.length
 ok:∀x∈s.sk,Sg s.p x
 lt:∀x∈s.PF,x<18446744073709551616
theorem BlI.sk {g:List (List Nat)}{s:RR}(h:BlI g s){v:Nat}(hv:v<g.length):∃x,s.sk[v]? =some x/\s.sk.getD v []=x/\Sg s.p x:=by
 have hv':v<s.sk.length:=by rw[h.n];exact hv
 exact⟨_,List.getElem?_eq_getElem hv',by rw[List.getD_eq_getElem?_getD,List.getElem?_eq_getElem hv'];rfl,h.ok _ (List.getElem_mem hv')⟩
theorem z4g {g:List (List Nat)}{s:RR}(h:BlI g s)(hg:R7 g){v:Nat}(hv:v<g.length):Sg s.p (QE g s.sk v):=by
 have key:∀(l:List Nat),(∀u∈l,u<g.length)->∀x,Sg s.p x->Sg s.p (l.foldl (λs' u=>PW s' (s.sk.getD u [])) x):=by
  intro l
  induction l with
  |nil=>intro _ x hx;exact hx
  | cons u l ih =>
    intro hl x hx;obtain⟨y,-,e,hy⟩:=h.sk (hl u List.mem_cons_self);refine ih (λa ha=>hl a (List.mem_cons_of_mem _ ha)) _ ?_;show Sg s.p (PW x (s.sk.getD u []));rw[e];exact hx.union hy
 obtain⟨x,-,e,hx⟩:=h.sk hv
 refine key _ (λu hu=>QW hg v u hu) _ ?_
 rw[e];exact hx
structure SwB (g:List (List Nat))(s:RR)(k:Nat)(a:List NY×List Nat×Bool):Prop where
 eq:a=(List.range k).foldl (Yx g s) ([],s.PF,false)
 sk:a.1=(List.range k).map (QE g s.sk)
 sn:a.2.1.length=g.length
 lt:∀x∈a.2.1,x<18446744073709551616
theorem SwB.zero {g:List (List Nat)}{s:RR}(h:BlI g s):SwB g s 0 ([],s.PF,false):=⟨rfl,rfl,h.sn,h.lt⟩
theorem SwB.next {g:List (List Nat)}{s:RR}{k:Nat}{a:List NY×List Nat×Bool}(h:SwB g s k a):SwB g s (k+1) (Yx g s a k):=by
 refine⟨by rw[List.range_succ,List.foldl_append,<-h.eq];rfl,?_,?_,?_⟩
 ·rw[List.range_succ,List.map_append,<-h.sk];unfold Yx;split<;>rfl
 ·unfold Yx;split
  ·exact h.sn
  ·show(a.2.1.set k _).length=_;rw[List.length_set];exact h.sn
 ·unfold Yx;split
  ·exact h.lt
  ·intro x hx;rcases List.mem_or_eq_of_mem_set hx with e| e
   ·exact h.lt x e
   ·rw[e];refine z6u ?_;rw[List.getD_eq_getElem?_getD]
    cases e:a.2.1[k]? with
    |none=>decide
    |some y=>exact h.lt y (List.mem_of_getElem? e)
theorem SwB.all {g:List (List Nat)}{s:RR}(h:BlI g s):∀k,SwB g s k ((List.range k).foldl (Yx g s) ([],s.PF,false))
 |0=> .zero h
 | k + 1 => by
   have:=(SwB.all h k).next;rw[List.range_succ,List.foldl_append];exact this
theorem BlI.step {g:List (List Nat)}{s:RR}(h:BlI g s)(hg:R7 g)(hd:s.t<100000):BlI g (s.step g):=by
 have hs:=SwB.all h g.length
 refine⟨h.p4,h.p16,h.r1,h.r2,hd,?_,hs.sn,λx hx=>?_,hs.lt⟩
 ·show(TD g s).1.length=_;unfold TD;rw[hs.sk,List.length_map,List.length_range]
 ·have hx:x∈(TD g s).1:=hx;unfold TD at hx;rw[hs.sk] at hx;obtain⟨v,hv,rfl⟩:=List.mem_map.1 hx;exact z4g h hg (List.mem_range.1 hv)
structure BlJ (g:List (List Nat))(s:RR):Prop where
 i:BlI g s
 le:s.t<=s.rounds
 lt:s.done=false->s.t<s.rounds
theorem BlJ.step {g:List (List Nat)}{s:RR}(h:BlJ g s)(hg:R7 g)(hd:s.done=false):BlJ g (s.step g):=by
 have h1:=h.lt hd
 have h2:=h.i.r2
 refine⟨h.i.step hg (by omega),h1,λe=>?_⟩
 have e:(!(TD g s).2.2 ||decide (s.t+1=s.rounds))=false:=e
 rw[Bool.or_eq_false_iff] at e
 have e2:=of_decide_eq_false e.2
 show s.t+1<s.rounds
 omega
theorem BlI.new (g:List (List Nat)){p rounds seed:Nat}(hp:4<=p/\p<=16)(hr:1<=rounds/\rounds<=1000):BlI g (RR.new g p rounds seed):=
 ⟨hp.1,hp.2,hr.1,hr.2,Nat.zero_le _,by show((List.range g.length).map _).length=_;simp,List.length_replicate,λx hx=>by
  obtain⟨v,-,rfl⟩:=List.mem_map.1 hx
  exact Sg.none.add hp _,λx hx=>by rw[(List.mem_replicate.1 hx).2];decide⟩
theorem BlJ.new (g:List (List Nat)){p rounds seed:Nat}(hp:4<=p/\p<=16)(hr:1<=rounds/\rounds<=1000):BlJ g (RR.new g p rounds seed):=⟨.new g hp hr,Nat.zero_le _,λ_=>hr.1⟩
def Uz (m:Nat)(sk:List NY):List Nat:=sk.flatMap (SE 8 m)
theorem S7 (m:Nat):∀sk:List NY,(Uz m sk).length=sk.length*m
 |[]=>by simp[Uz]
 | s :: sk => by
   have:=S7 m sk;unfold Uz at*;rw[List.flatMap_cons,List.length_append,Q7,this,List.length_cons,Nat.add_mul];omega
theorem z6W {m:Nat}:∀{sk:List NY} {v i:Nat} {s:NY},sk[v]? =some s->i<m->(Uz m sk)[v*m+i]? =some (OK (On ((s.drop (i*8)).take 8)))
 |[],v,i,s,h,_=>by simp at h
 | x :: sk, 0, i, s, h, hi => by
   cases h;unfold Uz;rw[List.flatMap_cons,Nat.zero_mul,Nat.zero_add,List.getElem?_append_left (by rw[Q7];exact hi)];unfold SE
   rw[List.getElem?_map,List.getElem?_range hi];rfl
 | x :: sk, v + 1, i, s, h, hi => by
   have ih:=z6W (m:=m) (sk:=sk) (v:=v) (i:=i) (s:=s) h hi;unfold Uz at*;rw[List.flatMap_cons,List.getElem?_append_right (by rw[Q7,Nat.add_mul];omega),Q7,show(v+1)*m+i-m=v*m+i by rw[Nat.add_mul];omega];exact ih
theorem z4Y (m:Nat)(a b:List NY):Uz m (a++b)=Uz m a++Uz m b:=List.flatMap_append
def Za (m:Nat)(ys:List Nat)(v:Nat)(s:NY):List Nat:=ys.take (v*m)++SE 8 m s++ys.drop (v*m+m)
theorem z3d {m:Nat}{ys:List Nat}{v:Nat}{s:NY}(h:v*m+m<=ys.length):(Za m ys v s).length=ys.length:=by
 unfold Za
 rw[List.length_append,List.length_append,List.length_take,Q7,List.length_drop]
 omega
theorem z9X {m n:Nat}{a:List NY}{ys:List Nat}{s:NY}(hl:ys.length=n*m)(ha:a.length<n):Za m (Uz m a++ys.drop (a.length*m)) a.length s=Uz m (a++[s])++ys.drop ((a.length+1)*m):=by
 unfold Za
 have h1:=S7 m a
 rw[List.take_left' h1,z4Y,List.drop_append,List.drop_of_length_le (by rw[h1];omega),List.nil_append,h1,List.drop_drop]
 unfold Uz
 rw[List.flatMap_cons,List.flatMap_nil,List.append_nil,show a.length*m+m-a.length*m=m by omega,show a.length*m+m=(a.length+1)*m by rw[Nat.add_mul,Nat.one_mul]]
def SkP (p seed:Nat)(P:Nat->Prop)(s:NY):Prop:=s.length=2^p/\∀j,j<2^p->∀k,(s.getD j 0).toNat<=k↔∀u,P u->Xc p (R4 seed u)=j->RI p (R4 seed u)<=k
section
variable {p seed:Nat}{P P':Nat->Prop}{s s':NY}
theorem SkP.QX (h:SkP p seed P s)(e:∀u,P u↔P' u):SkP p seed P' s:=⟨h.1,λj hj k=>(h.2 j hj k).trans ⟨λa u hu=>a u ((e u).2 hu),λa u hu=>a u ((e u).1 hu)⟩⟩
theorem SkP.uniq (h:SkP p seed P s)(h':SkP p seed P s'):s=s':=by
 refine List.ext_getElem (by rw[h.1,h'.1]) λj h1 h2=>?_
 have hj:j<2^p:=by rw[<-h.1];exact h1
 have e:∀k,(s.getD j 0).toNat<=k↔(s'.getD j 0).toNat<=k:=λk=>(h.2 j hj k).trans (h'.2 j hj k).symm
 have e2:(s.getD j 0).toNat=(s'.getD j 0).toNat:=Nat.le_antisymm ((e _).2 (Nat.le_refl _)) ((e _).1 (Nat.le_refl _))
 rw[List.getD_eq_getElem?_getD,List.getD_eq_getElem?_getD,List.getElem?_eq_getElem h1,List.getElem?_eq_getElem h2] at e2
 exact UInt8.toNat_inj.1 e2
theorem SkP.none:SkP p seed (λ_=>False) (List.replicate (2^p) 0):=⟨List.length_replicate,λj hj k=>⟨λ_ u hu=>hu.elim,λ_=>by
 rw[List.getD_eq_getElem?_getD,List.getElem?_replicate,if_pos hj]
 exact Nat.zero_le _⟩⟩
theorem SkP.add (h:SkP p seed P s)(hp:4<=p/\p<=16)(x:Nat):SkP p seed (λu=>P u\/u=x) (addN p s (R4 seed x)):=by
 have hat:=z0A hp.2 (z0M seed x)
 have hr:=XR (h:=R4 seed x) hp
 unfold addN
 refine⟨by rw[List.length_set];exact h.1,λj hj k=>?_⟩
 have h0:=h.2 j hj k
 by_cases e:Xc p (R4 seed x)=j
 ·have e1:((s.set (Xc p (R4 seed x)) (UInt8.ofNat (max ((s.getD (Xc p (R4 seed x)) 0).toNat) (RI p (R4 seed x))))).getD j 0).toNat=max ((s.getD j 0).toNat) (RI p (R4 seed x)):=by
   rw[e,List.getD_eq_getElem?_getD,List.getElem?_set_self (by rw[h.1];exact hj)];show(UInt8.ofNat _).toNat=_;rw[UInt8.toNat_ofNat',Nat.mod_eq_of_lt];have:=(s.getD j 0).toNat_lt;exact Nat.max_lt.2 ⟨this,by omega⟩
  rw[e1,Nat.max_le];constructor
  ·rintro⟨a,b⟩ u (hu|rfl) eu
   ·exact h0.1 a u hu eu
   ·exact b
  ·exact λa=>⟨h0.2 λu hu eu=>a u (.inl hu) eu,a x (.inr O) e⟩
 ·have e1:(s.set (Xc p (R4 seed x)) (UInt8.ofNat (max ((s.getD (Xc p (R4 seed x)) 0).toNat) (RI p (R4 seed x))))).getD j 0=s.getD j 0:=by
   rw[List.getD_eq_getElem?_getD,List.getElem?_set_ne e,<-List.getD_eq_getElem?_getD]
  rw[e1];refine h0.trans ⟨λa u hu eu=>?_,λa u hu eu=>a u (.inl hu) eu⟩;rcases hu with hu|rfl
  ·exact a u hu eu
  ·exact absurd eu e
theorem SkP.union (h:SkP p seed P s)(h':SkP p seed P' s'):SkP p seed (λu=>P u\/P' u) (PW s s'):=by
 refine⟨by rw[UK,h.1,h'.1,Nat.min_self],λj hj k=>?_⟩
 have h1:j<s.length:=by rw[h.1];exact hj
 have h2:j<s'.length:=by rw[h'.1];exact hj
 have e1:((PW s s').getD j 0).toNat=max ((s.getD j 0).toNat) ((s'.getD j 0).toNat):=by
  unfold PW;rw[List.getD_eq_getElem?_getD,List.getD_eq_getElem?_getD,List.getD_eq_getElem?_getD,List.getElem?_zipWith,List.getElem?_eq_getElem h1,List.getElem?_eq_getElem h2];show(if s[j].toNat<s'[j].toNat then s'[j] else s[j]).toNat=max s[j].toNat s'[j].toNat;split
  ·rw[Nat.max_eq_right (by omega)]
  ·rw[Nat.max_eq_left (by omega)]
 rw[e1,Nat.max_le]
 have a:=h.2 j hj k
 have b:=h'.2 j hj k
 constructor
 ·rintro⟨c,d⟩ u (hu|hu) eu
  ·exact a.1 c u hu eu
  ·exact b.1 d u hu eu
 ·exact λc=>⟨a.2 λu hu=>c u (.inl hu),b.2 λu hu=>c u (.inr hu)⟩
end
def Wt (g:List (List Nat)):Nat->Nat->Nat->Prop
 |0,v,u=>v=u
 |t+1,v,u=>Wt g t v u\/∃x∈Oh g v,Wt g t x u
theorem Wt.back {g:List (List Nat)}:∀{t v u:Nat},Wt g (t+1) v u↔Wt g t v u\/∃x,Wt g t v x/\u∈Oh g x
 |0,v,u=>⟨λh=>h.imp id λ⟨x,hx,e⟩=>⟨v,rfl,by rw[<-show x=u from e];exact hx⟩,λh=>h.imp id λ⟨x,e,hx⟩=>⟨u,by rw[show v=x from e];exact hx,rfl⟩⟩
 | t + 1, v, u => by
   have ih:=λv' u'=>Wt.back (g:=g) (t:=t) (v:=v') (u:=u');constructor
   ·rintro(h|⟨x,hx,h⟩)
    ·exact .inl h
    ·rcases (ih x u).1 h with h|⟨y,hy,hu⟩
     ·exact .inl (.inr ⟨x,hx,h⟩)
     ·exact .inr ⟨y,.inr ⟨x,hx,hy⟩,hu⟩
   ·rintro(h|⟨y,hy|⟨x,hx,hy⟩,hu⟩)
    ·exact .inl h
    ·exact .inl ((ih v u).2 (.inr ⟨y,hy,hu⟩))
    ·exact .inr ⟨x,hx,(ih x u).2 (.inr ⟨y,hy,hu⟩)⟩
theorem Wt.lt {g:List (List Nat)}(hg:R7 g):∀{t v u:Nat},Wt g t v u->v<g.length->u<g.length
 |0,v,u,h,hv=>by rw[<-show v=u from h];exact hv
 | t + 1, v, u, h, hv => by
   rcases h with h|⟨x,hx,h⟩
   ·exact h.lt hg hv
   ·exact h.lt hg (QW hg v x hx)
def z1l (g:List (List Nat))(seed:Nat)(s:RR):Prop:=∀v,v<g.length->SkP s.p seed (Wt g s.t v) (s.sk.getD v [])
theorem z1l.new {g:List (List Nat)}{p rounds seed:Nat}(hp:4<=p/\p<=16):z1l g seed (RR.new g p rounds seed):=λv hv=>by
 have e:(RR.new g p rounds seed).sk.getD v []=addN p (List.replicate (2^p) 0) (R4 seed v):=by
  show((List.range g.length).map _).getD v []=_;rw[List.getD_eq_getElem?_getD,List.getElem?_map,List.getElem?_range hv];rfl
 rw[e]
 exact(SkP.none.add hp v).QX λu=>⟨λh=>(h.resolve_left id).symm,λh=> .inr (Eq.symm h)⟩
theorem RR.zcC {g:List (List Nat)}{s:RR}(h:BlI g s){v:Nat}(hv:v<g.length):(s.step g).sk.getD v []=QE g s.sk v:=by
 show(TD g s).1.getD v []=_
 unfold TD
 rw[(SwB.all h g.length).sk,List.getD_eq_getElem?_getD,List.getElem?_map,List.getElem?_range hv];rfl
theorem z1l.step {g:List (List Nat)}{seed:Nat}{s:RR}(h:z1l g seed s)(hI:BlI g s)(hg:R7 g):z1l g seed (s.step g):=λv hv=>by
 rw[RR.zcC hI hv]
 show SkP s.p seed (Wt g (s.t+1) v) _
 have key : ∀ (l : List Nat), (∀ u ∈ l, u < g.length) -> ∀ (x : NY) (P : Nat -> Prop), SkP s.p seed P x -> SkP s.p seed (λu => P u \/ ∃ y ∈ l, Wt g s.t y u) (l.foldl (λs' u => PW s' (s.sk.getD u [])) x) := by
  intro l
  induction l with
  |nil=>intro _ x P hx;exact hx.QX λu=>⟨.inl,λh=>h.elim id λ⟨y,hy,_⟩=>by cases hy⟩
  | cons a l ih =>
    intro hl x P hx;refine(ih (λb hb=>hl b (List.mem_cons_of_mem _ hb)) _ _ (hx.union (h a (hl a List.mem_cons_self)))).QX λu=>?_;constructor
    ·rintro((h|h)|⟨y,hy,h⟩)
     ·exact .inl h
     ·exact .inr ⟨a,List.mem_cons_self,h⟩
     ·exact .inr ⟨y,List.mem_cons_of_mem _ hy,h⟩
    ·rintro(h|⟨y,hy,h⟩)
     ·exact .inl (.inl h)
     ·rcases List.mem_cons.1 hy with e| e
      ·exact .inl (.inr (e▸h))
      ·exact .inr ⟨y,e,h⟩
 exact key _ (λu hu=>QW hg v u hu) _ _ (h v hv)
theorem z8T {g:List (List Nat)}{s:RR}{v:Nat}(hv:Oh g v=[]):(s.step g).PF[v]? =s.PF[v]? :=by
 have key:∀k,((List.range k).foldl (Yx g s) ([],s.PF,false)).2.1[v]? =s.PF[v]? :=by
  intro k
  induction k with
  |zero=>rfl
  | succ k ih =>
    rw[List.range_succ,List.foldl_append];show(Yx g s ((List.range k).foldl (Yx g s) ([],s.PF,false)) k).2.1[v]? =_;unfold Yx;split
    ·exact ih
    ·rename_i hne
     by_cases e:k=v
     ·subst e;refine absurd ?_ hne;unfold QE;rw[hv];rfl
     ·show(List.set _ k _)[v]? =_;rw[List.getElem?_set_ne e];exact ih
 exact key g.length
open Go.Proofs.Tryz
section
variable {P:Program}{e:Env}{d:Option Nat}{ty t t':TypeId}{pos:String}{aft:Array Edge}{g:Option (Nat×Bool)}{x y:Operand}{w:World}{za zb:Int}{m n:Nat}
theorem T2 [ha:RV za m][hb:RV zb n](hx:look e x=some (.int .u64 za))(hy:look e y=some (.int .u64 zb)):Y P e ⟨d,.binOp .mul t x y t',ty,pos,aft,g⟩ (.int .u64 (((m*n)%18446744073709551616:Nat):Int)) w w:=fun ρ hρ=>by
 obtain⟨rfl⟩:=ha
 obtain⟨rfl⟩:=hb
 have:IntKind.wrap .u64 ((m:Int)*n)=(((m*n)%18446744073709551616:Nat):Int):=by simp[IntKind.wrap,IntKind.signed,IntKind.bits]
 simp[execOp,go_sem,hρ _ _ hx,hρ _ _ hy,this]
theorem zkb {k:IntKind}(hx:look e x=some (.int k za))(hy:look e y=some (.int k zb)){ts:Array TypeId}:Y P e ⟨d,.call ⟨.builtin .min,#[x,y],ts⟩,ty,pos,aft,g⟩ (.int k (min za zb)) w w:=fun ρ hρ=>by
 have:(if zb<za then zb else za)=min za zb:=by omega
 simp[go_sem,hρ _ _ hx,hρ _ _ hy,Builtin.min_,Builtin.min2,this]
theorem ziT {k:IntKind}(hx:look e x=some (.int k za))(hy:look e y=some (.int k zb)){ts:Array TypeId}:Y P e ⟨d,.call ⟨.builtin .max,#[x,y],ts⟩,ty,pos,aft,g⟩ (.int k (max za zb)) w w:=fun ρ hρ=>by
 have:(if za<zb then zb else za)=max za zb:=by omega
 simp[go_sem,hρ _ _ hx,hρ _ _ hy,Builtin.max_,Builtin.max2,this]
end
theorem z44 {seed x a b c:Nat}(h1:(seed+(x+1)*11400714819323198485%18446744073709551616)%18446744073709551616=a)(h2:(a^^^a / 1073741824)*13787848793156543929%18446744073709551616=b)(h3:(b^^^b / 134217728)*10723151780598845931%18446744073709551616=c):R4 seed x=c^^^c / 2147483648:=by
 subst h1;subst h2;subst h3;rfl
theorem zaK (seed x:Nat)(hs:seed<18446744073709551616)(hx:x<4294967296)(w:World):Oy prog 78 [u64v seed,u64v x] w λv w'=>v=u64v (R4 seed x)/\w'=w:=by
 refine NP (e:=[(0,_),(1,_)]) func78 O ntmps78 O O$ qN O$ Oc O$ qM O$ Od O O$ qV (QP O O) ?_
 rw[Nat.mod_eq_of_lt (show x+1<18446744073709551616 by omega)]
 refine qV (T2 O O) ?_
 generalize jI:(x+1)*11400714819323198485%18446744073709551616=m1
 refine qV (QP O O) ?_
 generalize eS:(seed+m1)%18446744073709551616=a
 have ha:a<18446744073709551616:=by rw[<-eS];exact Nat.mod_lt _ (by decide)
 rw[<-jI] at eS
 clear jI
 refine Oc O$ qM O$ Od O O$ qV (R9 30 1073741824 O O (by decide) O)$ qV (TN O O (by omega) (by omega))$ qV (T2 O O) ?_
 generalize dM:(a^^^a / 1073741824)*13787848793156543929%18446744073709551616=b
 have hb:b<18446744073709551616:=by rw[<-dM];exact Nat.mod_lt _ (by decide)
 refine Oc O$ qM O$ Od O O$ qV (R9 27 134217728 O O (by decide) O)$ qV (TN O O (by omega) (by omega))$ qV (T2 O O) ?_
 generalize sP:(b^^^b / 134217728)*10723151780598845931%18446744073709551616=c
 have hc:c<18446744073709551616:=by rw[<-sP];exact Nat.mod_lt _ (by decide)
 refine Oc O$ qM O$ Od O O$ qV (R9 31 2147483648 O O (by decide) O)$ qV (TN O O (by omega) (by omega))$ NZ O$ NV func78 O ?_
 rw[z44 eS dM sP]
 exact⟨_,rfl,rfl,rfl⟩
theorem z7H (p:Nat)(hp:4<=p/\p<=16)(w:World):Oy prog 76 [I (p:Int)] w λv w'=>v= .tuple #[S (List.replicate (2^p) 0),I 0]/\Ext w w':=by
 have hN:2^p<=2^16:=Nat.pow_le_pow_right (by decide) hp.2
 refine NP (e:=[(0,_)]) func76 O ntmps76 O O$ qN O$ Oc O$ NZ O$ py$ qN O$ NT O$ Py O O$ OR$ Od O O$ PD O O$ OR$ OU O O$ NU ?_
 refine It O$ An$ qN O$ NT O ?_
 generalize hq:2^p=N at hN⊢
 refine qV (ysl p N O O (by omega) hq (by omega)) ?_
 rw[Nat.one_mul]
 have uq:=λw=>W4 [0] N (by decide) (by omega) w
 rw[show(List.replicate N ([0]:NY)).flatten=List.replicate N 0 by
  clear hq hN uq
  induction N with
  |zero=>rfl
  |succ N ih=>rw[List.replicate_succ,List.flatten_cons,ih];rfl] at uq
 refine PG O O (yc (args:=[.const (Value.string (⟨#[0]⟩)),.tmp 11]) z71 O) (uq _) ?_
 rintro _ w1 ⟨rfl,ad⟩
 refine Oc O$ NZ O$ NV func76 O ?_
 exact⟨_,rfl,rfl,ad⟩
theorem W2 {p:Nat}{s:NY}(h:Sg p s)(hp:4<=p/\p<=16)(w:World):Oy prog 119 [S s] w λv w'=>v= .tuple #[I (p:Int),I 0]/\w'=w:=by
 have hN:2^p<=2^16:=Nat.pow_le_pow_right (by decide) hp.2
 have hl:=h.1
 have rC:P3 s.length=p+1:=by
  rw[hl];exact Zk (Nat.le_refl _) (by rw[Nat.pow_succ];have:0<2^p:=Nat.pow_pos (by decide);omega)
 generalize hq:2^p=N at hN hl
 refine NP (e:=[(0,_)]) func119 O ntmps119 O O$ qN O$ Oc O$ Oc O$ qM O$ NT O$ qV (Sr U9 O)$ qV ((Pf O U3 zcn (by omega)))$ Om z9V O (z2r s.length (by omega) w) ?_
 rintro _ w ⟨rfl,rfl⟩
 rw[rC]
 refine Qp O O ?_
 rw[show((p+1:Nat):Int)-1=(p:Int) by omega]
 refine NZ O$ py$ qN O$ NT O$ Py O O$ OR$ Od O O$ PD O O$ OR$ OU O O$ Od O O$ qV (Sr U9 O)$ NT O$ qV (ysl p N O O (by omega) hq (by omega)) ?_
 refine Pz O O$ OR$ OU O O$ NU$ It O$ An$ py$ qN O$ NT O$ qV (Sr U9 O)$ NT O$ NU$ OD.qb (e:=[(0,_),(2,_),(3,_),(4,_),(25,_),(26,_)]) ?_
 refine NQ$ Qm (α:=Nat) (0) (λi=>[(0,S s),(4,I (p:Int)),(25,I (s.length:Int)),(26,I (i:Int))]) (λi w'=>w'=w/\i<=s.length) (λi=>s.length-i) ?hI ?hround
 case hI=>exact⟨rfl,Nat.zero_le _⟩
 case hround=>
  rintro i w4 ⟨rfl,hi⟩ ih
  try dsimp only
  refine qN O$ Py O O$ NU$ py$ O8 O (λh0=>?_)$ λh0=>?_
  ·have bX:i<s.length:=by omega
   have hx:(s.getD i 0).toNat<=65-p:=by
    rw[List.getD_eq_getElem?_getD,List.getElem?_eq_getElem bX];exact h.2 _ (List.getElem_mem bX)
   refine An$ py$ NQ$ qN O$ NT O$ Oc O$ qM O$ Od O O$ qV (z0l U9 O O bX) ?_
   generalize (s.getD i 0)=c at hx
   refine qV ((z1a O U5 U3 (by decide)))$ NT O$ Qp O O$ PD O O$ OR$ NU$ It O$ An$ NS$ NW O$ P6 O O$ NT O$ NU ?_;exact(ih (i+1) _ ⟨rfl,by omega⟩ (by omega)).qb
  ·refine O4 O$ qN O$ NT O$ Oc O$ NZ O$ NV func119 O ?_;exact⟨_,rfl,rfl,rfl⟩
theorem z7O {p h:Nat}{s:NY}(hc:RI p h<=(s.getD (Xc p h) 0).toNat):addN p s h=s:=by
 unfold addN
 rw[Nat.max_eq_left hc,UInt8.ofNat_toNat]
 refine List.ext_getElem? λj=>?_
 by_cases e:Xc p h=j
 ·subst e;by_cases hl:Xc p h<s.length
  ·rw[List.getElem?_set_self hl,List.getD_eq_getElem?_getD,List.getElem?_eq_getElem hl];rfl
  ·rw[List.getElem?_eq_none (by rw[List.length_set];omega),List.getElem?_eq_none (by omega)]
 ·rw[List.getElem?_set_ne e]
theorem z7L {p h:Nat}{s:NY}(hc:¬RI p h<=(s.getD (Xc p h) 0).toNat)(hl:Xc p h<s.length):addN p s h=s.take (Xc p h)++[UInt8.ofNat (RI p h)]++s.drop (Xc p h+1):=by
 unfold addN
 rw[Nat.max_eq_right (by omega),List.set_eq_take_append_cons_drop,if_pos hl,List.append_assoc];rfl
theorem z9v {p:Nat}{s:NY}(h:Sg p s)(hp:4<=p/\p<=16){x:Nat}(hx:x<18446744073709551616)(w:World):Oy prog 77 [S s,u64v x] w λv w'=>v= .tuple #[S (addN p s x),I 0]/\Ext w w':=by
 have hN:2^p<=2^16:=Nat.pow_le_pow_right (by decide) hp.2
 have hl:=h.1
 have ma:Xc p x<s.length:=by rw[hl];exact z0A hp.2 hx
 have Fr:Xc p x<2^p:=z0A hp.2 hx
 have Il:=XR (h:=x) hp
 have qs:=z4V (x*2^p%18446744073709551616) (Nat.mod_lt _ (by decide)) w
 refine NP (e:=[(0,_),(1,_)]) func77 O ntmps77 O O$ qN O$ Oc O$ Oc O$ qM O$ NT O$ Om z7t O (W2 h hp w) ?_
 rintro _ w ⟨rfl,rfl⟩
 refine NT O$ P9 O O$ P9 O O$ Oc O$ NZ O$ py$ qN O$ NT O$ Pz O O$ NU$ It O$ An$ qN O$ Od O O ?_
 refine Qp O O ?_
 rw[show(64:Int)-(p:Int)=((64-p:Nat):Int) by omega]
 refine qV (R9 (64-p) (2^(64-p)) O O (by show 64-p<=64;omega) O) ?_
 rw[show x / 2^(64-p)=Xc p x from rfl]
 generalize zN:Xc p x=a at ma Fr
 refine qV (OT O Qy U3 (by omega))$ Oc O$ qM O$ Od O O$ qV (PX p (2^p) O O (by omega) O)$ Om zbj O (qs) ?_
 rintro _ w ⟨rfl,rfl⟩
 refine NT O$ Qp O O$ qV (ymi O O)$ P6 O O ?_
 rw[show(1:Int)+min ((64-P3 (x*2^p%18446744073709551616):Nat):Int) (64-(p:Int))=((RI p x:Nat):Int) by unfold RI;omega]
 generalize pP:RI p x=r at Il
 refine NZ O$ OD.qb (e:=[(0,_),(4,_),(5,_),(8,_),(9,_)]) ?_
 refine py$ qN O$ Od O O$ qV (z0l U9 O O ma) ?_
 have cQ:=(s.getD a 0).toNat_lt
 refine qV ((z1a O U5 U3 (by decide)))$ NT O ?_
 by_cases hc:r<=(s.getD a 0).toNat
 ·have bZ:=z7O (p:=p) (h:=x) (s:=s) (by rw[zN,pP];exact hc);refine SB O O$ Qs$ NU$ Oa O$ qN O$ NT O$ Oc O$ NZ O$ NV func77 O ?_;rw[bZ];exact⟨_,rfl,rfl,Ext.refl _⟩
 ·have rS:=z7L (p:=p) (h:=x) (s:=s) (by rw[zN,pP];exact hc) (by rw[zN];exact ma);rw[zN,pP] at rS;have hg:=Ext.Ob w;refine SB O O$ OR$ NU$ It O$ An$ py$ Qj (λw'=>Ext w w') O$ Oj 0 O O (hg)$ Oj 1 O O (hg)$ Oj 3 O O (hg)$ O0 4 O (z3c O U3 U5) hg$ Oj 8 O O (hg)$ Oj 9 O O (hg)$ O0 10 O (TK O O (by omega)) hg ?_;refine O0 2 O (z1R (m:=a) U9 O O (by omega)) hg$ O0 11 O (YW (m:=a+1) U9 O O (by omega)) hg$ qO 5$ R3 (i:=5) O O O (Vl (cs:=[_]) (zs:=[Value.int .u8 0]) Pc Us O (by kernel_rfl) O O O (by decide)) ?_;rintro _ w1 ⟨b1,rfl,⟨bK,ad,ai⟩,-⟩;refine⟨hg.trans ad,?_⟩;have aT:=hg.trans ad
  have fd:O9 w1 b1 (([UInt8.ofNat r]:NY).map Rb) 5:=by
   have e:([UInt8.ofNat r]:NY).map Rb=[Value.int .u8 ((r%256:Nat):Int)]:=by simp[Rb]
   rw[e];exact ai
  refine qO 6$ zep (i:=6) O O O (z18 (l:=[UInt8.ofNat r]) Pc U5 U9 O fd O O) (aT) ?_;have iV:(s.take a).length=a:=by rw[List.length_take];omega
  refine O0 7 O (VB O O (by rw[iV,List.length_singleton];omega)) aT ?_;refine O0 12 O (VB O O (by rw[List.length_append,iV,List.length_singleton,List.length_drop];omega)) aT ?_;refine O0 13 O (Qq O) aT$ O0 14 O (Qq O) aT$ qE$ NV func77 O ?_;rw[rS];exact⟨_,rfl,rfl,aT⟩
theorem zaD (x y:UInt8):max ((x.toNat:Int)) ((y.toNat:Int))=((if x.toNat<y.toNat then y else x).toNat:Int):=by
 split<;>omega
theorem zbZ {bo ob n:Nat}{cs:List Value}{w:World}(hV:O9 w bo [.slice (some ⟨ob,0,none⟩) n n] 105)(hO:O9 w ob cs 5)(hn:cs.length=n){i:Nat}(hi:i<n)(x y:UInt8):Oy prog 198 ([I (i:Int),Rb x,Rb y]++[ptr bo 0]) w λ_ w'=>O9 w' ob (cs.set i (Rb (if x.toNat<y.toNat then y else x))) 5/\Kp (λb=>b=ob) w w':=by
 refine NP (e:=[(0,_),(1,_),(2,_),(3,_)]) func198 O ntmps198 O O$ NW O$ qV (O6 Pc O O hV O)$ Od O O$ NT O$ qV (ziT O O)$ qV (P7 Pc Us O O (by omega)) ?_
 rw[zaD]
 refine Oe O (PV Us O O O hO (by simp;omega)) ?_
 rintro w1 ⟨Im,aK⟩
 rw[Nat.zero_add,Nat.mul_one] at Im
 refine NU$ PE func198 O ?_
 exact⟨_,rfl,Im,aK⟩
theorem zaG {a b:NY}{bo ob:Nat}{w:World}(iT:a.length=b.length)(zO:a.length<=1000000)(bP:bo≠ob)(hV:O9 w bo [.slice (some ⟨ob,0,none⟩) a.length a.length] 105)(hO:O9 w ob ((List.replicate a.length (0:UInt8)).map Rb) 5):Oy prog 197 [S a,S b,.func (.func 198) #[] #[ptr bo 0]] w λ_ w'=>O9 w' ob ((PW a b).map Rb) 5/\Kp (λj=>j=ob) w w':=by
 have oB:(PW a b).length=a.length:=by rw[UK,<-iT,Nat.min_self]
 refine NP (e:=[(0,_),(1,_),(2,_)]) func197 O ntmps197 O O$ qN O$ NT O$ qV (Sr U9 O)$ NT O$ NU$ NQ$ Qm (α:=Nat) (0) (λi=>[(0,S a),(1,S b),(2,.func (.func 198) #[] #[ptr bo 0]),(8,I (a.length:Int)),(9,I (i:Int))]) (λi w'=>i<=a.length/\O9 w' ob (((PW a b).take i++List.replicate (a.length-i) 0).map Rb) 5/\Kp (λj=>j=ob) w w') (λi=>a.length-i) ?hI ?hround
 case hI=>exact⟨Nat.zero_le _,by simpa using hO,Kp.refl _ _⟩
 case hround=>
  rintro i w4 ⟨hi,zP,ao⟩ ih
  try dsimp only
  refine qN O$ Py O O$ NU$ py$ O8 O (λh0=>?_)$ λh0=>?_
  ·have bX:i<a.length:=by omega
   have af:=Ext.Ob w4;refine An$ py$ NQ$ qN O$ NT O$ NZ O$ Qj (λw'=>Kp (λj=>j=ob) w w') O$ Oj 0 O O (ao.trans af.kp)$ Oj 1 O O (ao.trans af.kp)$ Oj 2 O O (ao.trans af.kp)$ Oj 3 O O (ao.trans af.kp)$ Oj 5 O O (ao.trans af.kp)$ Oj 6 O O (ao.trans af.kp)$ O0 4 O (z0l U9 O O bX) (ao.trans af.kp) ?_;refine O0 7 O (z0l U9 O O (by omega)) (ao.trans af.kp) ?_;have cQ:(((PW a b).take i++List.replicate (a.length-i) 0).map Rb).length=a.length:=by rw[List.length_map,List.length_append,List.length_take,List.length_replicate];omega
   refine qO 8$ Vb (i:=8) O O O (R0 zgv O O) (zbZ (af.NX (ao.NX hV bP)) (af.NX zP) cQ bX (a.getD i 0) (b.getD i 0)) ?_;rintro _ w5 ⟨In,ak⟩;refine⟨(ao.trans af.kp).trans ak,?_⟩;refine qE$ NS$ NW O$ P6 O O$ NT O$ NU ((ih (i+1) _ ⟨by omega,?_,(ao.trans af.kp).trans ak⟩ (by omega)).qb)
   have e:((PW a b).take i++List.replicate (a.length-i) 0).set i (if(a.getD i 0).toNat<(b.getD i 0).toNat then b.getD i 0 else a.getD i 0)=(PW a b).take (i+1)++List.replicate (a.length-(i+1)) 0:=by
    rw[List.set_append,if_neg (by rw[List.length_take];omega),List.length_take,Nat.min_eq_left (by omega),Nat.sub_self,show a.length-i=(a.length-(i+1))+1 by omega,List.replicate_succ,List.set_cons_zero,List.take_add_one,List.getElem?_eq_getElem (by omega),List.append_assoc]
    congr 1
    show _=[_]++_;unfold PW;rw[List.getElem_zipWith,List.getD_eq_getElem?_getD,List.getD_eq_getElem?_getD,List.getElem?_eq_getElem bX,List.getElem?_eq_getElem (by omega)]
    rfl
   rw[<-List.map_set,e] at In;exact In
  ·have I0:i=a.length:=by omega
   subst I0;rw[Nat.sub_self,List.replicate_zero,List.append_nil,List.take_of_length_le (by omega)] at zP;refine O4 O$ PE func197 O ?_;exact⟨_,rfl,zP,ao⟩
theorem z4G {p:Nat}{a b:NY}(ha:Sg p a)(hb:Sg p b)(hp:4<=p/\p<=16)(w:World):Oy prog 161 [S a,S b] w λv w'=>v= .tuple #[S (PW a b),I 0]/\Ext w w':=by
 have hN:2^p<=2^16:=Nat.pow_le_pow_right (by decide) hp.2
 have zO:=ha.1
 have Bz:=hb.1
 have oB:(PW a b).length=a.length:=by rw[UK,zO,Bz,Nat.min_self]
 have dF:maxLen=9223372036854775807:=rfl
 refine NP (e:=[(0,_),(1,_)]) func161 O ntmps161 O O$ qN O$ Oc O$ Oc O$ qM O$ NT O$ Om z7t O (W2 ha hp w) ?_
 rintro _ w ⟨rfl,rfl⟩
 refine NT O$ P9 O O$ P9 O O$ Oc O$ Oc O$ qM O$ NT O$ Om z7t O (W2 hb hp w) ?_
 rintro _ w ⟨rfl,rfl⟩
 refine NT O$ P9 O O$ P9 O O$ Oc O$ NZ O$ py$ NQ$ qN O$ NT O$ Pz O O$ Od O O$ Pz O O$ OU O O$ NZ O ?_
 refine OD.qb (e:=[(0,_),(1,_),(4,_),(5,_),(6,_),(8,_),(21,_)]) ?_
 refine It O$ qN O$ Od O O$ Pz O O$ OR$ NZ O$ It O$ An$ NS$ qN O$ NT O$ qV (Sr U9 O)$ O5 O O (pmk (c:=a.length) (n:=a.length) Pc Us O O O (by omega) (by omega) (by omega)) ?_
 rintro _ w1 ⟨b1,rfl,⟨bK,ad,ai⟩,-⟩
 refine O5 O O (QU (cs:=[_]) Va O) ?_
 rintro _ w2 ⟨b2,rfl,bU,ae,am⟩
 refine Oe O (PV Va O O O am (by simp)) ?_
 rintro w3 ⟨au,aw⟩
 replace au:O9 w3 b2 [.slice (some ⟨b1,0,none⟩) a.length a.length] 105:=au
 have l1:=ai.lt
 have z2:=ae.size
 have LN:O9 w3 b1 ((List.replicate a.length (0:UInt8)).map Rb) 5:=by
  rw[List.map_replicate];exact aw.NX (ae.NX ai) (by omega)
 refine qM O$ Od O O$ qV (ymf (first:=[]) (caps:=[.tmp 10]) O O)$ Om zgF O (zaG (by omega) (by omega) (by omega) au LN) ?_
 rintro _ w4 ⟨zP,ao⟩
 have aI:=ao.NX au (by omega)
 refine qM O$ qV (O6 Pc O O aI O)$ qV (z18 (l:=PW a b) Pc U5 U9 O zP (by rw[List.drop_zero];exact List.take_of_length_le (by rw[List.length_map];omega)) oB) ?_
 refine Oc O$ NZ O$ NV func161 O ?_
 have z1:=ad.size
 exact⟨_,rfl,rfl,((ad.trans ae).NR aw λj e=>by omega).NR ao λj e=>by omega⟩
theorem zbM (x:Nat)(hx:x<4294967296):x&&&4294967295=x:=by
 have:=Nat.and_two_pow_sub_one_eq_mod x 32
 rw[show(2:Nat)^32-1=4294967295 from rfl,show(2:Nat)^32=4294967296 from rfl,Nat.mod_eq_of_lt hx] at this
 exact this
theorem z7M (x:Nat)(hx:x<65536)(w:World):Oy prog 162 [u64v x,u64v 1099511627776] w λv w'=>v= .tuple #[u64v 0,u64v (x*1099511627776)]/\w'=w:=by
 refine NP (e:=[(0,_),(1,_)]) func162 O ntmps162 O O$ qN O$ Oc O$ Oc O$ qM O$ NT O$ qV (Sq O O (by omega) (by omega)) ?_
 rw[zbM x (by omega)]
 refine Oc O$ qM O$ NT O$ qV (R9 32 4294967296 O O (by decide) O) ?_
 rw[show x / 4294967296=0 by omega]
 refine Oc O$ qM O$ NT O$ qV (Sq O O (by omega) (by omega)) ?_
 rw[show(1099511627776&&&4294967295:Nat)=0 by decide]
 refine Oc O$ qM O$ NT O$ qV (R9 32 4294967296 O O (by decide) O) ?_
 rw[show(1099511627776 / 4294967296:Nat)=256 by decide]
 refine Oc O$ qM O$ Od O O$ qV (T2 O O) ?_
 rw[show x*0%18446744073709551616=0 by omega]
 refine Oc O$ qM O$ Od O O$ qV (T2 O O)$ NT O$ qV (R9 32 4294967296 O O (by decide) O)$ qV (QP O O) ?_
 rw[show(0*0%18446744073709551616+0 / 4294967296)%18446744073709551616=0 by decide]
 refine NZ O$ OD.qb (e:=[(0,_),(1,_),(4,_),(5,_),(6,_),(7,_),(9,_),(11,_)]) ?_
 refine qN O$ NT O$ qV (Sq O O (by omega) (by omega)) ?_
 rw[show(0&&&4294967295:Nat)=0 by decide]
 refine Oc O$ qM O$ NT O$ qV (R9 32 4294967296 O O (by decide) O) ?_
 rw[show(0 / 4294967296:Nat)=0 by decide]
 refine Oc O$ qM O$ Od O O$ NT O$ qV (T2 O O)$ qV (QP O O) ?_
 rw[show(0+x*256%18446744073709551616)%18446744073709551616=x*256 by omega]
 refine Oc O$ qM O$ Od O O$ qV (T2 O O)$ NT O$ qV (QP O O)$ NT O$ qV (R9 32 4294967296 O O (by decide) O)$ qV (QP O O) ?_
 rw[show((0*256%18446744073709551616+0)%18446744073709551616+x*256 / 4294967296)%18446744073709551616=0 by omega]
 refine NZ O$ OD.qb (e:=[(0,_),(1,_),(4,_),(5,_)]) ?_
 refine qN O$ Od O O$ qV (T2 O O) ?_
 rw[show x*1099511627776%18446744073709551616=x*1099511627776 by omega]
 refine NZ O$ NV func162 O ?_
 exact⟨_,rfl,rfl,rfl⟩
theorem z8j (lo y:Nat)(hl:lo<18446744073709551616)(hy:0<y)(pY:y<18446744073709551616)(w:World):Oy prog 163 [u64v 0,u64v lo,u64v y] w λv w'=>v= .tuple #[u64v (lo / y),u64v (lo%y)]/\Ext w w':=by
 have hg:=Ext.Ob w
 refine NP (e:=[(0,_),(1,_),(2,_)]) func163 O ntmps163 O O$ qN O$ Oc O$ NZ O$ py$ qN O$ NT O$ Qe O O$ OR$ NU$ It O$ An$ py$ qN O ?_
 refine Od O O$ zle O O$ OR$ NU$ It O$ An$ py$ qN O$ NT O$ Qe O O$ NU$ Oa O$ py$ Qj (λw'=>Ext w w') O ?_
 refine Oj 0 O O (hg)$ Oj 1 O O (hg)$ O0 2 O (z7V O O O (by simp only[IntKind.bits];omega) (by omega)) hg ?_
 refine Oj 3 O O (hg)$ Oj 4 O O (hg)$ O0 5 O (zfN O O (by omega)) hg$ O0 6 O (Qq O) hg$ O0 7 O (Qq O) hg$ qE$ NV func163 O ?_
 exact⟨_,rfl,rfl,hg⟩
def SC (s:NY)(r:Nat):Nat:=s.countP λx=>decide (min 40 x.toNat=r)
def z19 (s:NY):List Value:=(List.range 41).map λr=>u64v (SC s r)
theorem Ut (s:NY):(z19 s).length=41:=by simp[z19]
theorem Um (s:NY){r:Nat}(hr:r<41):(z19 s)[r]? =some (u64v (SC s r)):=by
 unfold z19
 rw[List.getElem?_map,List.getElem?_range hr];rfl
theorem z29 (s:NY)(r:Nat):SC s r<=s.length:=List.countP_le_length
theorem z7W (s:NY)(c:UInt8)(r:Nat):SC (s++[c]) r=if min 40 c.toNat=r then SC s r+1 else SC s r:=by
 unfold SC
 rw[List.countP_append,List.countP_singleton]
 by_cases h:min 40 c.toNat=r
 ·rw[if_pos h,if_pos (by simpa using h)]
 ·rw[if_neg h,if_neg (by simpa using h)];rfl
theorem zbn (s:NY)(c:UInt8):(z19 s).set (min 40 c.toNat) (u64v (SC s (min 40 c.toNat)+1))=z19 (s++[c]):=by
 refine List.ext_getElem? λj=>?_
 by_cases hj:j<41
 ·rw[Um _ hj,z7W];by_cases e:min 40 c.toNat=j
  ·rw[if_pos e,e,List.getElem?_set_self (by rw[Ut];exact hj)]
  ·rw[if_neg e,List.getElem?_set_ne e,Um _ hj]
 ·rw[List.getElem?_eq_none (by rw[List.length_set,Ut];omega),List.getElem?_eq_none (by rw[Ut];omega)]
theorem z8D (s:NY):SC s 0=s.count 0:=by
 unfold SC List.count
 refine List.countP_congr λx _=>?_
 simp only[decide_eq_true_eq,beq_iff_eq]
 constructor
 ·intro h;have:x.toNat=0:=by omega
  exact UInt8.toNat_inj.1 this
 ·intro h;rw[h];rfl
def Ug (s:NY)(k:Nat):Nat:=((List.range k).map λr=>SC s r*2^(40-r)).sum
theorem SG (s:NY)(k:Nat):Ug s (k+1)=Ug s k+SC s k*2^(40-k):=by
 unfold Ug
 rw[List.range_succ,List.map_append,List.sum_append];simp
theorem z1w:∀k,Ug [] k=0
 |0=>rfl
 |k+1=>by rw[SG,z1w k];simp[SC]
theorem ZQ (x:UInt8)(s:NY):∀k,Ug (x::s) k=Ug s k+if min 40 x.toNat<k then 2^(40-min 40 x.toNat) else 0
 |0=>by simp[Ug]
 | k + 1 => by
   rw[SG,SG,ZQ x s k]
   have e:SC (x::s) k=SC s k+if min 40 x.toNat=k then 1 else 0:=by
    unfold SC;rw[List.countP_cons];by_cases h:min 40 x.toNat=k
    ·rw[if_pos h,if_pos (by simpa using h)]
    ·rw[if_neg h,if_neg (by simpa using h)]
   rw[e];clear e;by_cases h:min 40 x.toNat=k
   ·rw[if_pos h,if_neg (by omega),if_pos (by omega),h,Nat.add_mul,Nat.one_mul];omega
   ·rw[if_neg h,Nat.add_zero];by_cases h2:min 40 x.toNat<k
    ·rw[if_pos h2,if_pos (by omega)];omega
    ·rw[if_neg h2,if_neg (by omega)];omega
theorem VK:∀s:NY,Ug s 41=Yh s
 |[]=>z1w 41
 | x :: s => by
   rw[ZQ,VK s,if_pos (by omega)];unfold Yh;rw[List.map_cons,List.sum_cons,Nat.add_comm]
theorem z4r (s:NY):∀k,k<=41->Ug s k<=Ug s 41:=λk hk=>by
 have:∀d,Ug s k<=Ug s (k+d):=λd=>by
  induction d with
  |zero=>exact Nat.le_refl _
  |succ d ih=>rw[<-Nat.add_assoc,SG];omega
 have:=this (41-k)
 rw[show k+(41-k)=41 by omega] at this
 exact this
theorem zdA {m:Nat}(hm:m<=256)(h1:1<=m):mE m<47273:=by
 unfold mE
 refine Nat.div_lt_of_lt_mul ?_
 have h2:m*m<=256*256:=Nat.mul_le_mul hm hm
 have h3:7213*(m*m)*m<=7213*65536*m:=Nat.mul_le_mul_right _ (by omega)
 rw[show 7213*m*m*m=7213*(m*m)*m by rw[Nat.mul_assoc 7213]]
 omega
theorem zfl {m:Nat}(hm:m<=256):7213*m*m*m<=121014059008:=by
 have h2:m*m<=256*256:=Nat.mul_le_mul hm hm
 have h3:m*m*m<=65536*256:=Nat.mul_le_mul h2 hm
 rw[show 7213*m*m*m=7213*(m*m*m) by simp only[Nat.mul_assoc]]
 omega
theorem zbY {m:Nat}(hm:m<=256):7213*m*m<=472711168:=by
 have h2:m*m<=256*256:=Nat.mul_le_mul hm hm
 rw[Nat.mul_assoc]
 omega
def Wy (m z k:Nat):Nat:=((List.range k).map λi=>m*1048576 / (z+1+i)).sum
theorem z0u (m z k:Nat):Wy m z (k+1)=Wy m z k+m*1048576 / (z+1+k):=by
 unfold Wy
 rw[List.range_succ,List.map_append,List.sum_append];simp
theorem ZI (m z:Nat):∀k,Wy m z k<=k*(m*1048576)
 |0=>by simp[Wy]
 | k + 1 => by
   have:=ZI m z k;have h2:=Nat.div_le_self (m*1048576) (z+1+k);rw[z0u,Nat.add_mul,Nat.one_mul];omega
theorem z5R {s:NY}{i:Nat}(hi:i<s.length):s.take (i+1)=s.take i++[s.getD i 0]:=by
 rw[List.take_add_one,List.getD_eq_getElem?_getD,List.getElem?_eq_getElem hi];rfl
theorem z1p {p : Nat}{s : NY}(h : Sg p s)(hp : 4 <= p /\ p <= 8)(w : World) : Oy prog 123 [S s] w λv w' => v = .tuple #[u64v (Wk s), I 0] /\ Ext w w' := by
 have hN:2^p<=2^8:=Nat.pow_le_pow_right (by decide) hp.2
 have jp:2^4<=2^p:=Nat.pow_le_pow_right (by decide) hp.1
 have hl:=h.1
 have hm:s.length<=256/\16<=s.length:=by omega
 have g8:=z6s s
 have LO:=zdA hm.1 (by omega)
 have LP:=zfl hm.1
 have hz:=z8D s
 have rk:=z29 s 0
 refine NP (e:=[(0,_)]) func123 O ntmps123 O O$ qN O$ Oc O$ NZ O$ py$ qN O$ NT O$ Om z7t O (W2 h ⟨hp.1,by omega⟩ w) ?_
 rintro _ w ⟨rfl,rfl⟩
 refine NT O$ P9 O O$ P9 O O$ Oc O$ Oc O$ qM O$ NT O$ Pz O O$ NU$ It O$ An$ qN O$ O5 O O (QU (cs:=z19 []) zdM O) ?_
 rintro _ w1 ⟨b6,rfl,jP,ad,ai⟩
 refine NU$ py$ qN O$ NT O$ qV (Sr U9 O)$ NT O$ NU$ NQ$ Qm (α:=Nat) (0) (λi=>[(0,S s),(6,ptr b6 0),(27,I (s.length:Int)),(28,I (i:Int))]) (λi w'=>i<=s.length/\O9 w' b6 (z19 (s.take i)) 258/\Ext w w') (λi=>s.length-i) ?hI ?hround
 case hI=>exact⟨Nat.zero_le _,ai,ad⟩
 case hround =>
  rintro i w2 ⟨hi,am,ae⟩ ih
  try dsimp only
  refine qN O$ Py O O$ NU$ py$ O8 O (λh0=>?_)$ λh0=>?_
  ·have bX:i<s.length:=by omega
   have eE:=z5R bX;refine An$ py$ NQ$ qN O$ NT O$ NZ O$ NW O$ Od O O$ qV (z0l U9 O O bX) ?_
   generalize (s.getD i 0)=c at eE
   have hc:=c.toNat_lt;refine qV ((z1a O U5 U3 (by decide)))$ qV (ymi O O) ?_;rw[show min (40:Int) ((c.toNat:Int))=((min 40 c.toNat:Nat):Int) by omega]
   generalize hr:min 40 c.toNat=r
   have qw:r<41:=by omega
   have iU:=z29 (s.take i) r;have lD:(s.take i).length<=i:=List.length_take_le ..;refine qV (yia z8O Si O O (by omega))$ qV (OC Qy O O (by rw[am.cell,Nat.zero_add,Nat.mul_one];exact Um _ qw)) ?_;refine qV (QP O O) ?_;rw[Nat.mod_eq_of_lt (show SC (s.take i) r+1<18446744073709551616 by omega)];refine qV (yia z8O Si O O (by omega))$ Oe O (PV Si O O O am (by rw[Ut];omega)) ?_;rintro w3 ⟨au,aw⟩;rw[Nat.zero_add,Nat.mul_one] at au;have dJ:=zbn (s.take i) c;rw[hr,<-eE] at dJ;rw[show(Value.int .u64 ((SC (s.take i) r+1:Nat):Int))=u64v (SC (s.take i) r+1) from rfl,dJ] at au;refine NU$ NS$ NW O$ P6 O O$ NT O$ NU ?_;exact(ih (i+1) _ ⟨by omega,au,ae.NR aw λj e=>by omega⟩ (by omega)).qb
  ·have wj : i = s.length := by omega
   subst wj;rw[List.take_length] at am;refine O4 O$ qN O$ NZ O$ py$ qN O$ qV (OE (news:=z19 s) z8O O zdM O (am.cells (n:=41) (by rw[List.drop_zero];exact List.take_of_length_le (by rw[Ut];exact Nat.le_refl _))) (Ut s)) ?_;refine NT O$ NU$ NQ$ Qm (α:=Nat×Nat) ((0,0)) (λy=>[(0,S s),(6,ptr b6 0),(8,u64v y.2),(41,.agg (z19 s).toArray),(42,I (y.1:Int))]) (λy w'=>y.1<=41/\y.2=Ug s y.1/\w'=w2) (λy=>41-y.1) ?hI ?hround
   case hI=>exact⟨Nat.zero_le _,rfl,rfl⟩
   case hround =>
    rintro⟨r,q⟩ w3 ⟨hr,hq,rfl⟩ ih2;dsimp only at hr hq ih2⊢;have fL:=z4r s r hr;rw[VK] at fL
    try dsimp only
    refine qN O$ Py O O$ NU$ py$ O8 O (λh1=>?_)$ λh1=>?_
    ·have qw:r<41:=by omega
     have Fs:=z4r s (r+1) (by omega);rw[VK,SG] at Fs;have iU:=z29 s r;refine An$ py$ NQ$ qN O$ NT O$ qV (yxa z8O Si Qy O O O qw (v:=u64v (SC s r)) (by simpa using Um s qw)) ?_;refine Oc O$ NZ O$ NW O$ Od O O$ NT O$ Qp O O ?_;rw[show(40:Int)-(r:Int)=((40-r:Nat):Int) by omega];refine qV (PX (40-r) (2^(40-r)) O O (by omega) O) ?_;rw[Nat.mod_eq_of_lt (show SC s r*2^(40-r)<18446744073709551616 by omega)];refine qV (QP O O) ?_;rw[Nat.mod_eq_of_lt (show q+SC s r*2^(40-r)<18446744073709551616 by omega)];refine NZ O$ NS$ NW O$ P6 O O$ NT O$ NU ?_;exact(ih2 (r+1,q+SC s r*2^(40-r)) _ ⟨by show r+1<=41;omega,by show q+_=_;rw[SG,hq],rfl⟩ (by show 41-(r+1)<41-r;omega)).qb
    ·have zt:r=41:=by omega
     subst zt;rw[VK] at hq;subst hq;have Io:=zbY hm.1;have eP:Wk s=if SC s 0=0\/5*s.length<2*(mE s.length*1099511627776 / Yh s) then mE s.length*1099511627776 / Yh s else Wy s.length (SC s 0) (s.length-SC s 0) / 1048576:=by rw[hz];rfl
     refine O4 O$ qN O$ NT O$ qV (Sr U9 O)$ qV ((Pf O U3 Qy (by omega)))$ Oc O$ qM O$ NT O$ qV (T2 O O) ?_;rw[Nat.mod_eq_of_lt (show 7213*s.length<18446744073709551616 by omega)];refine NT O$ qV (T2 O O) ?_;rw[Nat.mod_eq_of_lt (show 7213*s.length*s.length<18446744073709551616 by omega)];refine NT O$ qV (T2 O O) ?_;rw[Nat.mod_eq_of_lt (show 7213*s.length*s.length*s.length<18446744073709551616 by omega)];refine NT O$ qV (T2 O O) ?_;rw[Nat.mod_eq_of_lt (show 10000*s.length<18446744073709551616 by omega)];refine qV (QP O O) ?_;rw[Nat.mod_eq_of_lt (show 10000*s.length+10790<18446744073709551616 by omega)];refine qV (z7V O O O (by simp only[IntKind.bits];omega) (by omega)) ?_;rw[show 7213*s.length*s.length*s.length / (10000*s.length+10790)=mE s.length from rfl]
     generalize mE s.length=E at LO eP
     refine Om zfW O (z7M E (by omega) _) ?_;rintro _ w3 ⟨rfl,rfl⟩;refine NT O$ P9 O O$ P9 O O$ Oc O$ NZ O$ OD.qb (e:=[(6,_),(8,_),(11,_),(12,_),(13,_)]) ?_;refine qN O$ Od O O$ NT O$ Om zfK O (z8j (E*1099511627776) (Yh s) (by omega) (by omega) (by omega) _) ?_;rintro _ w4 ⟨rfl,az⟩;have vB:=Nat.div_le_self (E*1099511627776) (Yh s)
     generalize E*1099511627776 / Yh s=est at vB eP
     have aI:=az.NX am;have bS:=ae.trans az;refine NT O$ P9 O O$ P9 O O$ Oc O$ NZ O$ py$ qN O$ qV (yia z8O Si O O (by omega))$ qV (OC Qy O O (by rw[aI.cell];exact Um _ (r:=0) (by decide))) ?_;by_cases ui:SC s 0=0
     ·rw[if_pos (.inl ui)] at eP;refine Qe O O$ Qs$ NT O$ qS$ qS$ qS$ qS$ qS$ PT O O$ NU$ Oa O$ qN O$ NT O$ Oc O ?_;refine NZ O$ OD.qb (e:=[(2,_),(3,_),(6,_),(11,_)]) ?_;refine NV func123 O ?_;rw[eP];exact⟨_,rfl,rfl,bS⟩
     ·refine Qe O O$ OR$ Od O O$ qV (T2 O O) ?_;rw[Nat.mod_eq_of_lt (show 2*est<18446744073709551616 by omega)];refine NT O$ qV (T2 O O) ?_;rw[Nat.mod_eq_of_lt (show 5*s.length<18446744073709551616 by omega)];by_cases hb:5*s.length<2*est
      ·rw[if_pos (.inr hb)] at eP;refine PD O O$ Qs$ OU O O$ NU$ Oa O$ qN O$ NT O$ Oc O$ NZ O$ OD.qb (e:=[(2,_),(3,_),(6,_),(11,_)]) ?_;refine NV func123 O ?_;rw[eP];exact⟨_,rfl,rfl,bS⟩
      ·rw[if_neg (λe=>e.elim ui hb)] at eP;refine PD O O$ OR$ OU O O$ NU$ It O$ An$ qN O$ NZ O$ OD.qb (e:=[(6,_),(11,_),(16,_)]) ?_;refine py$ qN O$ qV (yia z8O Si O O (by omega))$ qV (OC Qy O O (by rw[aI.cell];exact Um _ (r:=0) (by decide))) ?_
       generalize SC s 0=z at hz rk ui eP
       refine qV (QP O O) ?_;rw[Nat.mod_eq_of_lt (show z+1<18446744073709551616 by omega)];refine NZ O$ NQ$ Qm (α:=Nat) (0) (λk=>[(11,u64v s.length),(16,u64v (Wy s.length z k)),(17,u64v (z+1+k))]) (λk w'=>k<=s.length-z/\w'=w4) (λk=>s.length-z-k) ?hI ?hround
       case hI=>exact⟨Nat.zero_le _,rfl⟩
       case hround=>
        rintro k w5 ⟨hk,rfl⟩ ih3;have lD:=ZI s.length z (k+1);have Ft:=z0u s.length z k;have Bb:(k+1)*(s.length*1048576)<=257*(256*1048576):=Nat.mul_le_mul (by omega) (by omega)
        try dsimp only
        refine py$ qN O$ Od O O$ zle O O$ NU$ O8 O (λh3=>?_)$ λh3=>?_
        ·have fK:k<s.length-z:=by omega
         refine An$ py$ NQ$ NW O$ Od O O$ qV (PX 20 1048576 O O (by decide) O)$ NT O ?_;rw[Nat.mod_eq_of_lt (show s.length*1048576<18446744073709551616 by omega)];refine qV (z7V O O O (by simp only[IntKind.bits];omega) (by omega)) ?_;refine qV (QP O O) ?_;rw[Nat.mod_eq_of_lt (show Wy s.length z k+s.length*1048576 / (z+1+k)<18446744073709551616 by omega),<-Ft];refine NZ O$ NS$ NW O$ NT O$ qV (QP O O) ?_;rw[Nat.mod_eq_of_lt (show z+1+k+1<18446744073709551616 by omega)];refine NZ O ?_;exact(ih3 (k+1) _ ⟨by omega,rfl⟩ (by omega)).qb
        ·have fK:k=s.length-z:=by omega
         subst fK;refine O4 O$ qN O$ NT O$ qV (R9 20 1048576 O O (by decide) O)$ Oc O$ NZ O$ NV func123 O ?_;rw[eP];exact⟨_,rfl,rfl,bS⟩
theorem O9.uniq {w:World}{b:Nat}{cs cs':List Value}{T T':TypeId}(h:O9 w b cs T)(h':O9 w b cs' T'):cs=cs':=by
 obtain⟨fz,h1,-⟩:=h
 obtain⟨fz',h2,-⟩:=h'
 rw[h1] at h2
 have:=PJ h2
 injection this with e1 e2 e3
 have:=congrArg Array.toList e1
 simpa using this
theorem z89 {n : Nat}(cT : 1 <= n)(hn : n <= 40){w : World}{ea : Option Addr}{ec : Nat}{es : List (Nat × Nat)}(oN : es.length <= 9000000000000000000)(hE : EdR w ea es) : Oy prog 29 [I (n : Int), .slice ea es.length ec] w λv w' => ∃ g bg, v = .slice (some ⟨bg, 0, none⟩) g.length g.length /\ g.length = n /\ R7 g /\ Yw w' bg w.heap.size g /\ Ext w w' := by
 have dF:maxLen=9223372036854775807:=rfl
 refine NP (e:=[(0,_),(1,_)]) func29 O ntmps29 O O$ qN O$ Oc O$ qM O$ NT O$ O5 O O (pmk (c:=n) (n:=n) Up Ro O O O (by omega) (by omega) (by omega)) ?_
 rintro _ w1 ⟨bg,rfl,⟨Ib,ad,ai⟩,-⟩
 have kJ:Yw w1 bg w.heap.size (List.replicate n []):=Yw.new ai
 refine NZ O$ py$ qN O$ NZ O$ NQ$ Qm (α:=Nat×List (List Nat)) ((0,List.replicate n [])) (λy=>[(0,I (n:Int)),(1,.slice ea es.length ec),(5,.slice (some ⟨bg,0,none⟩) n n),(6,I (y.1:Int))]) (λy w'=>y.1<=es.length/\y.2.length=n/\R7 y.2/\Yw w' bg w.heap.size y.2/\Ext w w') (λy=>es.length-y.1) ?hI ?hround
 case hI=>exact⟨Nat.zero_le _,by simp,R7.empty (by omega),kJ,ad⟩
 case hround =>
  rintro⟨i,g⟩ w2 ⟨hi,dz,ay,cK,ae⟩ ih;dsimp only at hi dz ay cK ae ih⊢
  try dsimp only
  refine py$ qN O$ Od O O$ Qx U22 O$ Py O O$ NU$ O8 O (λhq=>?_)$ λhq=>?_
  ·have bX : i < es.length := by omega
   obtain⟨e,he⟩:∃e,es[i]? =some e:=⟨_,List.getElem?_eq_getElem bX⟩;obtain⟨e1,e2,eb,eo,rfl,du,er⟩:=(hE.ext ae) i e he;refine An$ py$ NQ$ py$ qN O$ Od O O$ qV (P7 U22 T8 O O (by omega))$ Og Wh O$ qV (OC OJ O O du)$ qV (OT O OJ U3 (by omega))$ NT O ?_;by_cases hf:e.1<n
   ·by_cases ht:e.2<n
    ·refine SB O O$ OR$ Od O O$ NT O$ qV (P7 U22 T8 O O (by omega))$ Og UJ O$ qV (OC OJ O O er)$ qV (OT O OJ U3 (by omega))$ NT O$ SB O O$ OR ?_;obtain⟨s,hs⟩:∃s,g[e.1]? =some s:=⟨_,List.getElem?_eq_getElem (by omega)⟩;obtain⟨a,c,fP,iw,dL,Fu⟩:=cK.cell hs;have fL:s.length<=n:=by rw[<-dz];exact ay.len (List.mem_of_getElem? hs)
     refine OU O O$ NU$ It O$ An$ qN O$ Od O O$ NT O$ qV (P7 U22 T8 O O (by omega))$ Og Wh O$ qV (OC OJ O O du)$ qV (P7 Up Ro O O (by omega))$ qV (OC OA O O fP)$ Oc O$ qM O ?_;refine NZ O$ py$ NQ ?_;have u5:List.Pairwise (·<·) s:=(ay.ok s (List.mem_of_getElem? hs)).YF
     have LQ:∀(k y:Nat),s[k]? =some y->∀z∈s.drop k,y<=z:=λk y hy z hz=>by
      have ig:k<s.length:=by
       rcases Nat.lt_or_ge k s.length with h| h
       ·exact h
       ·rw[List.getElem?_eq_none h] at hy;cases hy
      have h1:List.Pairwise (·<·) (s.drop k):=u5.sublist (List.drop_sublist _ _);rw[List.drop_eq_getElem_cons ig] at h1 hz;rw[List.getElem?_eq_getElem ig] at hy;cases hy;rcases List.mem_cons.1 hz with e| e
      ·omega
      ·exact Nat.le_of_lt ((List.pairwise_cons.1 h1).1 z e)
     refine Rg (λe' w'=>∃k:Nat,e'=[(0,I (n:Int)),(1,.slice (some ⟨eb,eo,none⟩) es.length ec),(5,.slice (some ⟨bg,0,none⟩) n n),(6,I (i:Int)),(7,.slice a s.length c),(8,I (k:Int))]/\k<=s.length/\(∀y∈s.take k,y<e.2)/\(∀y,s[k]? =some y->e.2<=y)/\Ext w2 w') ?jC$ λjC=>?uv
     case jC =>
      rintro e' w3 ⟨k,rfl,hk,gZ,iM,ah⟩;have ag:=Ext.Ob w3;have ur:=dL.ext ah;have ut:=OS ah er;refine py$ OX (λe' w'=>∃q,e'=[(0,I (n:Int)),(1,.slice (some ⟨eb,eo,none⟩) es.length ec),(5,.slice (some ⟨bg,0,none⟩) n n),(6,I (i:Int)),(7,.slice a s.length c),(8,I (k:Int)),(76,.bool q)]/\(q=true->∀y∈s.drop k,e.2<y)/\Ext w2 w') ?ek$ λek=>?iP
      case ek =>
       rintro e' w4 ⟨q,rfl,oV,az⟩;have fT:=cK.ext az;have me:=dL.ext az;have Fv:=OS az du;have Fw:=OS az er;have bS:=ae.trans az;refine Po O (λqx=>?_)$ λqx=>?_
       ·have aj:=Ext.Ob w4;have bB:=aj.size;have DF:w.heap.size<=w4.heap.size:=bS.size;have Fx:=fT.lt
        have ll:((s.take k++[e.2])++s.drop k).length=s.length+1:=by
         rw[List.length_append,List.length_append,List.length_take,List.length_drop,List.length_singleton];omega
        have df:∀(l:List Nat),∀c∈l.map OB,c.oneCell'=true:=λl c hc=>by obtain⟨z,-,rfl⟩:=List.mem_map.1 hc;rfl
        have jN:(s.take k).length=k:=by rw[List.length_take];omega
        have vf:(s.drop k).length=s.length-k:=List.length_drop ..;obtain⟨vs,ln,oR,-⟩:=id fT.ex;refine Oo [23] (λw'=>Ext w4 w') (by kernel_rfl) O$ OW 0 O O (aj)$ OW 1 O O (aj)$ OW 2 O O (aj)$ Ot 3 O (P7 U22 T8 O O (by omega)) aj$ Ot 4 O (OG Wh O) aj$ OW 7 O O (aj)$ OW 8 O O (aj)$ OW 11 O O (aj)$ OW 12 O O (aj)$ Ot 13 O (P7 U22 T8 O O (by omega)) aj$ Ot 14 O (OG UJ O) aj$ OW 18 O O (aj)$ OW 19 O O (aj) ?_;refine qL 5 O (λ_ h=>OC OJ O O (OS h Fv)) aj$ Ot 9 O (zaF OA O7 O O (by omega)) aj$ qL 15 O (λ_ h=>OC OJ O O (OS h Fw)) aj$ Ot 20 O (WL OA O7 O O hk iw) aj$ WD (i:=6) (j:=16) (by kernel_rfl) ?_ ?_
        ·refine PC (i:=6) O O O (Vl (cs:=[]) (zs:=[]) OA O7 O (by kernel_rfl) O O O (by decide)) ?_;rintro v6 w6 ⟨b6,rfl,⟨jP,aH,aO⟩,ev⟩;refine⟨aj.trans aH,?_⟩;have zQ:w4.heap.size<=b6:=by omega
         have lb6:=aO.lt;have aj:=aj.trans aH
         try have bA:=bA.ext aH
         have bB:=Nat.le_trans bB aH.size;refine WD (i:=10) (j:=16) (by kernel_rfl) ?_ ?_
         ·refine PC (i:=10) O O O (pap OA O7 O (by decide) O O ev ((Sk (i:=k) me hk).ext aj) (λc hc=>df s c (List.mem_of_mem_take hc)) (by omega) (by omega)) ?_;rintro v10 w10 ⟨bz,ar,bj,-⟩;refine⟨aj.NR ar (λj e=>by have e:b6=j:=PJ e;omega),?_⟩;have aj:=aj.NR ar (λj e=>by have e:b6=j:=PJ e;omega)
          try have bA:=bA.kp ar (λj hj e=>by have e:b6=j:=PJ e;have hj:b16=j:=PJ hj;omega)
          have bj:∀j,v10.ownBlock=some j->w4.heap.size<=j:=λj hj=>by rcases bj j hj with e|e;(have e:b6=j:=PJ e;omega);omega
          have bB:=Nat.le_trans bB ar.size;have o4:=λ(j:Nat) (hj:v10.ownBlock=some j)=>bz.lt hj;refine Qg (i:=16) (by kernel_rfl)$ PC (i:=16) O O O (Vl (cs:=[_]) (zs:=[Value.int .u32 0]) OA O7 O (by kernel_rfl) O O O (by decide)) ?_;rintro v16 w16 ⟨b16,rfl,⟨o5,aN,gF⟩,bA⟩;refine⟨aj.trans aN,?_⟩;have o6:w4.heap.size<=b16:=by omega
          have aj:=aj.trans aN
          try have ev:=ev.ext aN
          try have bz:=bz.ext aN
          have lb16:=gF.lt;have bB:=Nat.le_trans bB aN.size;refine Qg (i:=17) (by kernel_rfl)$ PC (i:=17) O O O (pap OA O7 O (by decide) O O bz bA.rd (λc hc=>df [e.2] c hc) (by omega) (by omega)) ?_;rintro v17 w17 ⟨dZ,cq,bJ,-⟩;refine⟨aj.NR cq (λj e=>bj j e),?_⟩;have aj:=aj.NR cq (λj e=>bj j e);have bJ:∀j,v17.ownBlock=some j->w4.heap.size<=j:=λj hj=>by rcases bJ j hj with e|e;exact bj j e;omega
          have bB:=Nat.le_trans bB cq.size;refine Qg (i:=21) (by kernel_rfl)$ PC (i:=21) O O O (pap OA O7 O (by decide) O O dZ ((RF (i:=k) me hk iw).ext aj) (λc hc=>df s c (List.mem_of_mem_drop hc)) (by omega) (by omega)) ?_;rintro v21 w21 ⟨bR,dE,cJ,-⟩;refine⟨aj.NR dE (λj e=>bJ j e),?_⟩;have aj:=aj.NR dE (λj e=>bJ j e);have cJ:∀j,v21.ownBlock=some j->w4.heap.size<=j:=λj hj=>by rcases cJ j hj with e|e;exact bJ j e;omega
          refine Ot 22 O (P7 Up Ro O O (by omega)) aj ?_;have gG:=aj.NX ln;refine S8 [23]$ qO 23$ OP (i:=23) O O (PV Ro O O (VR bR) gG (by rw[oR];omega)) ?_;rintro w23 ⟨cS,dD⟩;refine⟨trivial,?_⟩;refine qE$ NS$ NW O$ NT O$ P6 O O$ NZ O ?_;rw[show 0+k+1+(s.length-k)=(s.take k++[e.2]++s.drop k).length by rw[ll];omega,show([]++List.take k (s.map OB)++[OB e.2]++List.drop k (s.map OB))=(s.take k++[e.2]++s.drop k).map OB by simp[List.map_take,List.map_drop]] at bR;obtain⟨ra,rc,rfl,-⟩:=bR.rd.shape
          have o7:(s.take k++[e.2]++s.drop k).length<=rc:=by
           rcases bR.shape with⟨e1,e2⟩|⟨gg,cc,e1,e2⟩
           ·omega
           ·cases e1;exact e2
          have o8:=(fT.ext aj).set dD (f:=e.1) (l:=s.take k++[e.2]++s.drop k) (a:=ra) (c:=rc) (λvs' h'=>by rw[O9.uniq h' gG];exact cS) (by omega) o7 bR.rd (λj hj=>by have:=cJ j hj;omega);have o9:=ay.insert hs (x:=e.2) (k:=k) (by omega) hk gZ (oV qx);exact(ih (i+1,g.set e.1 (s.take k++[e.2]++s.drop k)) _ ⟨by omega,by rw[List.length_set];exact dz,o9,o8,(bS.trans aj).NR dD (λj e=>by omega)⟩ (by omega)).qb
         ·refine PC (i:=16) O O O (Vl (cs:=[_]) (zs:=[Value.int .u32 0]) OA O7 O (by kernel_rfl) O O O (by decide)) ?_;rintro v16 w16 ⟨b16,rfl,⟨o5,aN,gF⟩,bA⟩;refine⟨aj.trans aN,?_⟩;have o6:w4.heap.size<=b16:=by omega
          have aj:=aj.trans aN
          try have ev:=ev.ext aN
          try have bz:=bz.ext aN
          have lb16:=gF.lt;have bB:=Nat.le_trans bB aN.size;refine Qg (i:=10) (by kernel_rfl)$ PC (i:=10) O O O (pap OA O7 O (by decide) O O ev ((Sk (i:=k) me hk).ext aj) (λc hc=>df s c (List.mem_of_mem_take hc)) (by omega) (by omega)) ?_;rintro v10 w10 ⟨bz,ar,bj,-⟩;refine⟨aj.NR ar (λj e=>by have e:b6=j:=PJ e;omega),?_⟩;have aj:=aj.NR ar (λj e=>by have e:b6=j:=PJ e;omega)
          try have bA:=bA.kp ar (λj hj e=>by have e:b6=j:=PJ e;have hj:b16=j:=PJ hj;omega)
          have bj:∀j,v10.ownBlock=some j->w4.heap.size<=j:=λj hj=>by rcases bj j hj with e|e;(have e:b6=j:=PJ e;omega);omega
          have bB:=Nat.le_trans bB ar.size;have o4:=λ(j:Nat) (hj:v10.ownBlock=some j)=>bz.lt hj;refine Qg (i:=17) (by kernel_rfl)$ PC (i:=17) O O O (pap OA O7 O (by decide) O O bz bA.rd (λc hc=>df [e.2] c hc) (by omega) (by omega)) ?_;rintro v17 w17 ⟨dZ,cq,bJ,-⟩;refine⟨aj.NR cq (λj e=>bj j e),?_⟩;have aj:=aj.NR cq (λj e=>bj j e);have bJ:∀j,v17.ownBlock=some j->w4.heap.size<=j:=λj hj=>by rcases bJ j hj with e|e;exact bj j e;omega
          have bB:=Nat.le_trans bB cq.size;refine Qg (i:=21) (by kernel_rfl)$ PC (i:=21) O O O (pap OA O7 O (by decide) O O dZ ((RF (i:=k) me hk iw).ext aj) (λc hc=>df s c (List.mem_of_mem_drop hc)) (by omega) (by omega)) ?_;rintro v21 w21 ⟨bR,dE,cJ,-⟩;refine⟨aj.NR dE (λj e=>bJ j e),?_⟩;have aj:=aj.NR dE (λj e=>bJ j e);have cJ:∀j,v21.ownBlock=some j->w4.heap.size<=j:=λj hj=>by rcases cJ j hj with e|e;exact bJ j e;omega
          refine Ot 22 O (P7 Up Ro O O (by omega)) aj ?_;have gG:=aj.NX ln;refine S8 [23]$ qO 23$ OP (i:=23) O O (PV Ro O O (VR bR) gG (by rw[oR];omega)) ?_;rintro w23 ⟨cS,dD⟩;refine⟨trivial,?_⟩;refine qE$ NS$ NW O$ NT O$ P6 O O$ NZ O ?_;rw[show 0+k+1+(s.length-k)=(s.take k++[e.2]++s.drop k).length by rw[ll];omega,show([]++List.take k (s.map OB)++[OB e.2]++List.drop k (s.map OB))=(s.take k++[e.2]++s.drop k).map OB by simp[List.map_take,List.map_drop]] at bR;obtain⟨ra,rc,rfl,-⟩:=bR.rd.shape
          have o7:(s.take k++[e.2]++s.drop k).length<=rc:=by
           rcases bR.shape with⟨e1,e2⟩|⟨gg,cc,e1,e2⟩
           ·omega
           ·cases e1;exact e2
          have o8:=(fT.ext aj).set dD (f:=e.1) (l:=s.take k++[e.2]++s.drop k) (a:=ra) (c:=rc) (λvs' h'=>by rw[O9.uniq h' gG];exact cS) (by omega) o7 bR.rd (λj hj=>by have:=cJ j hj;omega);have o9:=ay.insert hs (x:=e.2) (k:=k) (by omega) hk gZ (oV qx);exact(ih (i+1,g.set e.1 (s.take k++[e.2]++s.drop k)) _ ⟨by omega,by rw[List.length_set];exact dz,o9,o8,(bS.trans aj).NR dD (λj e=>by omega)⟩ (by omega)).qb
        ·refine PC (i:=16) O O O (Vl (cs:=[_]) (zs:=[Value.int .u32 0]) OA O7 O (by kernel_rfl) O O O (by decide)) ?_;rintro v16 w16 ⟨b16,rfl,⟨o5,aN,gF⟩,bA⟩;refine⟨aj.trans aN,?_⟩;have o6:w4.heap.size<=b16:=by omega
         have aj:=aj.trans aN
         try have ev:=ev.ext aN
         try have bz:=bz.ext aN
         have lb16:=gF.lt;have bB:=Nat.le_trans bB aN.size;refine Qg (i:=6) (by kernel_rfl)$ PC (i:=6) O O O (Vl (cs:=[]) (zs:=[]) OA O7 O (by kernel_rfl) O O O (by decide)) ?_;rintro v6 w6 ⟨b6,rfl,⟨jP,aH,aO⟩,ev⟩;refine⟨aj.trans aH,?_⟩;have zQ:w4.heap.size<=b6:=by omega
         have lb6:=aO.lt;have aj:=aj.trans aH
         try have bA:=bA.ext aH
         have bB:=Nat.le_trans bB aH.size;refine Qg (i:=10) (by kernel_rfl)$ PC (i:=10) O O O (pap OA O7 O (by decide) O O ev ((Sk (i:=k) me hk).ext aj) (λc hc=>df s c (List.mem_of_mem_take hc)) (by omega) (by omega)) ?_;rintro v10 w10 ⟨bz,ar,bj,-⟩;refine⟨aj.NR ar (λj e=>by have e:b6=j:=PJ e;omega),?_⟩;have aj:=aj.NR ar (λj e=>by have e:b6=j:=PJ e;omega)
         try have bA:=bA.kp ar (λj hj e=>by have e:b6=j:=PJ e;have hj:b16=j:=PJ hj;omega)
         have bj:∀j,v10.ownBlock=some j->w4.heap.size<=j:=λj hj=>by rcases bj j hj with e|e;(have e:b6=j:=PJ e;omega);omega
         have bB:=Nat.le_trans bB ar.size;have o4:=λ(j:Nat) (hj:v10.ownBlock=some j)=>bz.lt hj;refine Qg (i:=17) (by kernel_rfl)$ PC (i:=17) O O O (pap OA O7 O (by decide) O O bz bA.rd (λc hc=>df [e.2] c hc) (by omega) (by omega)) ?_;rintro v17 w17 ⟨dZ,cq,bJ,-⟩;refine⟨aj.NR cq (λj e=>bj j e),?_⟩;have aj:=aj.NR cq (λj e=>bj j e);have bJ:∀j,v17.ownBlock=some j->w4.heap.size<=j:=λj hj=>by rcases bJ j hj with e|e;exact bj j e;omega
         have bB:=Nat.le_trans bB cq.size;refine Qg (i:=21) (by kernel_rfl)$ PC (i:=21) O O O (pap OA O7 O (by decide) O O dZ ((RF (i:=k) me hk iw).ext aj) (λc hc=>df s c (List.mem_of_mem_drop hc)) (by omega) (by omega)) ?_;rintro v21 w21 ⟨bR,dE,cJ,-⟩;refine⟨aj.NR dE (λj e=>bJ j e),?_⟩;have aj:=aj.NR dE (λj e=>bJ j e);have cJ:∀j,v21.ownBlock=some j->w4.heap.size<=j:=λj hj=>by rcases cJ j hj with e|e;exact bJ j e;omega
         refine Ot 22 O (P7 Up Ro O O (by omega)) aj ?_;have gG:=aj.NX ln;refine S8 [23]$ qO 23$ OP (i:=23) O O (PV Ro O O (VR bR) gG (by rw[oR];omega)) ?_;rintro w23 ⟨cS,dD⟩;refine⟨trivial,?_⟩;refine qE$ NS$ NW O$ NT O$ P6 O O$ NZ O ?_;rw[show 0+k+1+(s.length-k)=(s.take k++[e.2]++s.drop k).length by rw[ll];omega,show([]++List.take k (s.map OB)++[OB e.2]++List.drop k (s.map OB))=(s.take k++[e.2]++s.drop k).map OB by simp[List.map_take,List.map_drop]] at bR;obtain⟨ra,rc,rfl,-⟩:=bR.rd.shape
         have o7:(s.take k++[e.2]++s.drop k).length<=rc:=by
          rcases bR.shape with⟨e1,e2⟩|⟨gg,cc,e1,e2⟩
          ·omega
          ·cases e1;exact e2
         have o8:=(fT.ext aj).set dD (f:=e.1) (l:=s.take k++[e.2]++s.drop k) (a:=ra) (c:=rc) (λvs' h'=>by rw[O9.uniq h' gG];exact cS) (by omega) o7 bR.rd (λj hj=>by have:=cJ j hj;omega);have o9:=ay.insert hs (x:=e.2) (k:=k) (by omega) hk gZ (oV qx);exact(ih (i+1,g.set e.1 (s.take k++[e.2]++s.drop k)) _ ⟨by omega,by rw[List.length_set];exact dz,o9,o8,(bS.trans aj).NR dD (λj e=>by omega)⟩ (by omega)).qb
       ·refine An$ NS$ NW O$ NT O$ P6 O O$ NZ O ?_;exact(ih (i+1,g) _ ⟨by omega,dz,ay,fT,bS⟩ (by omega)).qb
      case iP=>
       refine Qj (λw'=>Ext w3 w') O$ Oj 0 O O (ag)$ Oj 1 O O (ag)$ O0 2 O (RJ OA O) ag ?_;by_cases oL:k=s.length
       ·refine O0 3 O (yeq O O) ag$ T4$ Oj 4 O O (ag)$ qJ 5 O (ag)$ qJ 6 O (ag)$ qJ 7 O (ag)$ qJ 8 O (ag)$ qJ 9 O (ag)$ qJ 10 O (ag)$ qJ 11 O (ag)$ qJ 12 O (ag)$ qJ 13 O (ag)$ qJ 14 O (ag)$ O0 15 O (TL O O) ag ?_;refine qE ?_;exact(ek _ _ ⟨true,rfl,λ_ y hy=>(by rw[oL,List.drop_length] at hy;cases hy),ah.trans ag⟩).qb
       ·obtain⟨y,hy⟩:∃y,s[k]? =some y:=⟨_,List.getElem?_eq_getElem (by omega)⟩;rcases ur.2 with⟨⟨ca,cc⟩,fY,rG⟩|⟨lb,lo,cap,fY,cQ⟩
        ·omega
        cases fY;have uu:w3.cell? ⟨lb,lo+k*1,none⟩=some (OB y):=cQ (k*1) _ (by rw[Nat.mul_one,List.getElem?_map,hy];rfl);refine O0 3 O (yeq O O) ag$ TH$ Oj 4 O O (ag)$ Oj 5 O O (ag)$ Oj 6 O O (ag)$ O0 7 O (P7 OA O7 O O (by omega)) ag$ Oj 9 O O (ag)$ Oj 10 O O (ag)$ O0 11 O (P7 U22 T8 O O (by omega)) ag$ O0 12 O (OG UJ O) ag$ qT 8 O (λ_ h=>OC OJ O O (OS h uu)) ag$ qT 13 O (λ_ h=>OC OJ O O (OS h ut)) ag ?_;have Bj:=iM y hy;by_cases vZ:y=e.2
        ·refine O0 14 O (yne O O) ag$ TH$ O0 15 O (TA O O) ag$ qE ?_;exact(ek _ _ ⟨false,rfl,λe=>(by cases e),ah.trans ag⟩).qb
        ·refine O0 14 O (yne O O) ag$ T4$ O0 15 O (TA O O) ag$ qE ?_;exact(ek _ _ ⟨true,rfl,λ_ z hz=>(by have:=LQ k y hy z hz;omega),ah.trans ag⟩).qb
     case uv=>
      refine Qm (α:=Nat) (0) (λk=>[(0,I (n:Int)),(1,.slice (some ⟨eb,eo,none⟩) es.length ec),(5,.slice (some ⟨bg,0,none⟩) n n),(6,I (i:Int)),(7,.slice a s.length c),(8,I (k:Int))]) (λk w'=>k<=s.length/\(∀y∈s.take k,y<e.2)/\Ext w2 w') (λk=>s.length-k) ?hI ?hround
      case hI=>exact⟨Nat.zero_le _,λy hy=>(by simp at hy),Ext.refl _⟩
      case hround=>
       rintro k w3 ⟨hk,gZ,ah⟩ ih2;have ag:=Ext.Ob w3;have ur:=dL.ext ah;have ut:=OS ah er
       try dsimp only
       refine py$ py$ Qj (λw'=>Ext w3 w') O$ Oj 0 O O (ag)$ Oj 1 O O (ag)$ O0 2 O (RJ OA O) ag ?_;by_cases ig:k<s.length
       ·obtain⟨y,hy⟩:∃y,s[k]? =some y:=⟨_,List.getElem?_eq_getElem ig⟩;rcases ur.2 with⟨⟨ca,cc⟩,fY,rG⟩|⟨lb,lo,cap,fY,cQ⟩
        ·omega
        cases fY;have uu:w3.cell? ⟨lb,lo+k*1,none⟩=some (OB y):=cQ (k*1) _ (by rw[Nat.mul_one,List.getElem?_map,hy];rfl);refine O0 3 O (ZR O O) ag$ T4$ Oj 4 O O (ag)$ Oj 5 O O (ag)$ Oj 6 O O (ag)$ O0 7 O (P7 OA O7 O O (by omega)) ag$ Oj 9 O O (ag)$ Oj 10 O O (ag)$ O0 11 O (P7 U22 T8 O O (by omega)) ag$ O0 12 O (OG UJ O) ag$ qT 8 O (λ_ h=>OC OJ O O (OS h uu)) ag$ qT 13 O (λ_ h=>OC OJ O O (OS h ut)) ag ?_;by_cases Bj:y<e.2
        ·refine O0 14 O (ZR O O) ag$ T4$ O0 15 O (TL O O) ag$ qE$ Oa O$ An$ NQ$ NW O$ NT O$ P6 O O$ NZ O$ NS ((ih2 (k+1) _ ⟨by omega,λz hz=>?_,ah.trans ag⟩ (by omega)).qb);rw[OY hy] at hz;rcases List.mem_append.1 hz with e'|e'
         ·exact gZ z e'
         ·rw[List.mem_singleton.1 e'];exact Bj
        ·refine O0 14 O (ZR O O) ag$ TH$ O0 15 O (TL O O) ag$ qE$ It O$ O4 O ?_;exact(jC _ _ ⟨k,rfl,hk,gZ,λz hz=>(by rw[hy] at hz;cases hz;omega),ah.trans ag⟩).qb
       ·refine O0 3 O (ZR O O) ag$ TH$ Oj 4 O O (ag)$ qJ 5 O (ag)$ qJ 6 O (ag)$ qJ 7 O (ag)$ qJ 8 O (ag)$ qJ 9 O (ag)$ qJ 10 O (ag)$ qJ 11 O (ag)$ qJ 12 O (ag)$ qJ 13 O (ag)$ qJ 14 O (ag)$ O0 15 O (TA O O) ag ?_;refine qE$ It O$ O4 O ?_;exact(jC _ _ ⟨k,rfl,hk,gZ,λz hz=>(by rw[List.getElem?_eq_none (by omega)] at hz;cases hz),ah.trans ag⟩).qb
    ·refine SB O O$ OR$ Od O O$ NT O$ qV (P7 U22 T8 O O (by omega))$ Og UJ O$ qV (OC OJ O O er)$ qV (OT O OJ U3 (by omega))$ NT O$ SB O O$ Qs$ OU O O$ NU$ Oa O ?_;refine O4 O$ NW O$ NT O$ P6 O O$ NZ O ?_;exact(ih (i+1,g) _ ⟨by omega,dz,ay,cK,ae⟩ (by omega)).qb
   ·refine SB O O$ Qs$ NT O$ qS$ qS$ qS$ qS$ qS$ qS$ qS$ qS$ PT O O$ NU$ Oa O ?_;refine O4 O$ NW O$ NT O$ P6 O O$ NZ O ?_;exact(ih (i+1,g) _ ⟨by omega,dz,ay,cK,ae⟩ (by omega)).qb
  ·refine O4 O$ qN O$ NT O$ NZ O$ NV func29 O ?_;exact⟨_,rfl,g,bg,by rw[dz];rfl,dz,ay,cK,ae⟩
def Uo (g:List (List Nat))(v i u:Nat):List Nat:=(List.range v).filter (λx=>decide (u∈Oh g x))++(if u∈(Oh g v).take i then [v] else [])
def Tx (g:List (List Nat))(v i:Nat):List (List Nat):=(List.range g.length).map (Uo g v i)
def WA (g:List (List Nat)):List (List Nat):=Tx g g.length 0
theorem z5K (g:List (List Nat))(v u:Nat):Uo g v (Oh g v).length u=Uo g (v+1) 0 u:=by
 unfold Uo
 rw[List.take_length,List.range_succ,List.filter_append]
 by_cases h:u∈Oh g v<;>simp[h]
theorem Sh (g:List (List Nat))(v i:Nat):(Tx g v i).length=g.length:=by simp[Tx]
theorem Ux (g:List (List Nat))(v i:Nat){u:Nat}(hu:u<g.length):(Tx g v i)[u]? =some (Uo g v i u):=by
 unfold Tx
 rw[List.getElem?_map,List.getElem?_range hu];rfl
theorem z8Z (g:List (List Nat))(v i u:Nat):(Uo g v i u).length<=v+1:=by
 unfold Uo
 have h1:=List.length_filter_le (λx=>decide (u∈Oh g x)) (List.range v)
 rw[List.length_range] at h1
 rw[List.length_append]
 split<;>simp<;>omega
theorem z8E {g:List (List Nat)}(ay:R7 g){v i u:Nat}(hu:(Oh g v)[i]? =some u):(Tx g v i).set u (Uo g v i u++[v])=Tx g v (i+1):=by
 have gH:=QW ay v u (List.mem_of_getElem? hu)
 have fN:u∉(Oh g v).take i:=λh=>by
  have dP:v<g.length:=by
   rcases Nat.lt_or_ge v g.length with h| h
   ·exact h
   ·unfold Oh at hu;rw[List.getElem?_eq_none h] at hu;cases hu
  have hr:List.Pairwise (·<·) (Oh g v):=by
   unfold Oh;rw[List.getElem?_eq_getElem dP];exact(ay.ok _ (List.getElem_mem dP)).YF
  have h2:=OY hu;have h3:List.Pairwise (·<·) ((Oh g v).take (i+1)):=hr.sublist (List.take_sublist _ _);rw[h2,List.pairwise_append] at h3;have:=h3.2.2 u h u List.mem_cons_self;omega
 apply List.ext_getElem?
 intro x
 by_cases hx:u=x
 ·subst hx;rw[List.getElem?_set_self (by rw[Sh];exact gH),Ux _ _ _ gH]
  congr 1
  unfold Uo;rw[if_neg fN,List.append_nil,OY hu,if_pos (by simp)]
 ·rw[List.getElem?_set_ne hx];by_cases ju:x<g.length
  ·rw[Ux _ _ _ ju,Ux _ _ _ ju]
   congr 1
   unfold Uo
   congr 1
   rw[OY hu]
   have:x∈(Oh g v).take i++[u]↔x∈(Oh g v).take i:=by
    rw[List.mem_append,List.mem_singleton];exact⟨λe=>e.resolve_right λe=>hx e.symm,.inl⟩
   simp only[this]
  ·rw[List.getElem?_eq_none (by rw[Sh];omega),List.getElem?_eq_none (by rw[Sh];omega)]
theorem z8i (g:List (List Nat)){u:Nat}(hu:u<g.length):(WA g)[u]? =some ((List.range g.length).filter λx=>decide (u∈Oh g x)):=by
 unfold WA
 rw[Ux _ _ _ hu]
 unfold Uo
 rw[List.take_zero,if_neg (by simp),List.append_nil]
theorem Xk (g:List (List Nat)):(WA g).length=g.length:=Sh _ _ _
theorem zad {g:List (List Nat)}(h:R7 g):R7 (WA g):=by
 have hl:=Xk g
 have gC:∀l∈WA g,∃u,l=(List.range g.length).filter λx=>decide (u∈Oh g x):=λl hm=>by
  obtain⟨u,hu⟩:=List.getElem?_of_mem hm
  have gH:u<g.length:=by
   rcases Nat.lt_or_ge u g.length with h| h
   ·exact h
   ·rw[List.getElem?_eq_none (by omega)] at hu;cases hu
  rw[z8i g gH] at hu;exact⟨u,(PJ hu).symm⟩
 have hn:=h.n
 refine⟨λl hm=>?_,λl hm y hy=>?_,by omega⟩
 ·obtain⟨u,rfl⟩:=gC l hm;exact⟨(List.pairwise_lt_range).sublist List.filter_sublist,λy hy=>by have:=List.mem_range.1 (List.mem_filter.1 hy).1;omega⟩
 ·obtain⟨u,rfl⟩:=gC l hm;have:=List.mem_range.1 (List.mem_filter.1 hy).1;omega
structure RwA (w:World)(bg B:Nat)(L:List (List Nat)):Prop where
 ex:∃vs:List Value,O9 w bg vs 49/\vs.length=L.length/\(∀(i:Nat) (l:List Nat),L[i]? =some l->∃v:Value,vs[i]? =some v/\Sl w v 106 1 l.length (l.map OB)/\∀b,v.ownBlock=some b->B<=b/\b≠bg)/\∀(i j:Nat) (vi vj:Value) (b:Nat),i≠j->vs[i]? =some vi->vs[j]? =some vj->vi.ownBlock=some b->vj.ownBlock≠some b
section
variable {w w':World}{bg B:Nat}{L:List (List Nat)}
theorem RwA.new {n:Nat}(h:O9 w bg (List.replicate n (.slice none 0 0)) 49):RwA w bg B (List.replicate n []):=by
 refine⟨_,h,by simp,λi l hl=>?_,λi j vi vj b _ hi _ hb=>?_⟩
 ·rw[List.getElem?_replicate] at hl;split at hl
  ·rename_i hi
   cases hl;exact⟨.slice none 0 0,by rw[List.getElem?_replicate,if_pos hi],Sl.nil w _ 1,λb hb=>by cases hb⟩
  ·cases hl
 ·have:=List.mem_of_getElem? hi;rw[List.eq_of_mem_replicate this] at hb;cases hb
theorem RwA.rw (h:RwA w bg B L):Yw w bg B L:=by
 obtain⟨vs,h1,h2,h3,h4⟩:=h.ex
 refine⟨vs,h1,h2,λi l hl=>?_⟩
 obtain⟨v,g1,g2,g3⟩:=h3 i l hl
 obtain⟨a,c,rfl,-⟩:=g2.rd.shape
 refine⟨a,c,g1,?_,g2.rd,g3⟩
 rcases g2.shape with⟨e1,e2⟩|⟨gg,cc,e1,e2⟩
 ·omega
 ·cases e1;exact e2
theorem RwA.put {w2:World}(h:RwA w bg B L){u:Nat}{l l':List Nat}{v v':Value}{vs:List Value}(ln:O9 w bg vs 49)(hu:L[u]? =some l)(hv:vs[u]? =some v)(hk:Kp (λb=>v.ownBlock=some b) w w')(hS:Sl w' v' 106 1 l'.length (l'.map OB))(ho:∀b,v'.ownBlock=some b->v.ownBlock=some b\/w.heap.size<=b)(aq:Kp (λb=>b=bg) w' w2)(hB:O9 w2 bg (vs.set (0+u*1) v') 49)(vd:B<=w.heap.size):RwA w2 bg B (L.set u l'):=by
 obtain⟨vs0,h1,h2,h3,h4⟩:=h.ex
 have e0:=h1.uniq ln
 subst e0
 rw[Nat.zero_add,Nat.mul_one] at hB
 obtain⟨v0,g1,g2,g3⟩:=h3 u l hu
 rw[hv] at g1
 cases g1
 have fu:=h1.lt
 have oB:u<L.length:=by
  rcases Nat.lt_or_ge u L.length with h| h
  ·exact h
  ·rw[List.getElem?_eq_none h] at hu;cases hu
 have AB:∀b,v'.ownBlock=some b->B<=b/\b≠bg:=λb hb=>by
  rcases ho b hb with e| e
  ·exact g3 b e
  ·omega
 have aZ:∀(j:Nat) (vj:Value) (b:Nat),vs0[j]? =some vj->vj.ownBlock=some b->b<w.heap.size:=λj vj b hj hb=>by
  obtain⟨lj,LR⟩:∃lj,L[j]? =some lj:=⟨_,List.getElem?_eq_getElem (by
   rw[<-h2];rcases Nat.lt_or_ge j vs0.length with h| h
   ·exact h
   ·rw[List.getElem?_eq_none h] at hj;cases hj)⟩
  obtain⟨vj',k1,k2,-⟩:=h3 j lj LR;rw[hj] at k1;cases k1;exact k2.lt hb
 refine⟨_,hB,by simp[h2],λi li hl=>?_,λi j vi vj b gP hi hj hb=>?_⟩
 ·by_cases e:u=i
  ·subst e;rw[List.getElem?_set_self oB] at hl;cases hl;exact⟨v',List.getElem?_set_self (by rw[h2];exact oB),hS.kp aq (λb hb e=>(AB b hb).2 e),AB⟩
  ·rw[List.getElem?_set_ne e] at hl;obtain⟨vi,k1,k2,k3⟩:=h3 i li hl;exact⟨vi,by rw[List.getElem?_set_ne e];exact k1,(k2.kp hk (λb hb e2=>h4 u i v vi b e hv k1 e2 hb)).kp aq (λb hb e=>(k3 b hb).2 e),k3⟩
 ·by_cases ei:u=i
  ·subst ei;rw[List.getElem?_set_self (by rw[h2];exact oB)] at hi;cases hi;rw[List.getElem?_set_ne gP] at hj;intro bU;rcases ho b hb with e| e
   ·exact h4 u j v vj b gP hv hj e bU
   ·have:=aZ j vj b hj bU;omega
  ·rw[List.getElem?_set_ne ei] at hi;by_cases ej:u=j
   ·subst ej;rw[List.getElem?_set_self (by rw[h2];exact oB)] at hj;cases hj;intro bU;rcases ho b bU with e| e
    ·exact h4 i u vi v b gP hi hv hb e
    ·have:=aZ i vi b hi hb;omega
   ·rw[List.getElem?_set_ne ej] at hj;exact h4 i j vi vj b gP hi hj hb
end
theorem z6i {g:List (List Nat)}(ay:R7 g){w:World}{gb go gc:Nat}(hg:GrR w gb go g):Oy prog 37 [.slice (some ⟨gb,go,none⟩) g.length gc] w λv w'=>∃bt,v= .slice (some ⟨bt,0,none⟩) g.length g.length/\Yw w' bt w.heap.size (WA g)/\Ext w w':=by
 have dF:maxLen=9223372036854775807:=rfl
 have hn:=ay.n
 refine NP (e:=[(0,_)]) func37 O ntmps37 O O$ qN O$ Oc O$ qM O$ NT O$ Qx Up O$ O5 O O (pmk (c:=g.length) (n:=g.length) Up Ro O O O (by omega) (by omega) (by omega)) ?_
 rintro _ w1 ⟨bt,rfl,⟨qd,ad,ai⟩,-⟩
 have kJ:RwA w1 bt w.heap.size (Tx g 0 0):=by
  have e:Tx g 0 0=List.replicate g.length []:=by
   apply List.ext_getElem<;>simp[Tx,Uo]
  rw[e];exact RwA.new ai
 refine NZ O$ py$ qN O$ NZ O$ NQ$ Qm (α:=Nat) (0) (λv=>[(0,.slice (some ⟨gb,go,none⟩) g.length gc),(3,.slice (some ⟨bt,0,none⟩) g.length g.length),(4,I (v:Int))]) (λv w'=>v<=g.length/\RwA w' bt w.heap.size (Tx g v 0)/\Ext w w') (λv=>g.length-v) ?hI ?hround
 case hI=>exact⟨Nat.zero_le _,kJ,ad⟩
 case hround =>
  rintro v w2 ⟨hv,cK,ae⟩ ih
  try dsimp only
  refine py$ qN O$ Od O O$ Qx Up O$ Py O O$ NU$ O8 O (λhq=>?_)$ λhq=>?_
  ·have dP:v<g.length:=by omega
   have dz:g[v]? =some (Oh g v):=by unfold Oh;rw[List.getElem?_eq_getElem dP];rfl
   have fL:(Oh g v).length<=g.length:=ay.len (List.mem_of_getElem? dz);refine An$ py$ NQ$ qN O$ NZ O$ NQ$ Qm (α:=Nat) (0) (λi=>[(0,.slice (some ⟨gb,go,none⟩) g.length gc),(3,.slice (some ⟨bt,0,none⟩) g.length g.length),(4,I (v:Int)),(5,I (i:Int))]) (λi w'=>i<=(Oh g v).length/\RwA w' bt w.heap.size (Tx g v i)/\Ext w w') (λi=>(Oh g v).length-i) ?hI ?hround
   case hI=>exact⟨Nat.zero_le _,cK,ae⟩
   case hround=>
    rintro i w3 ⟨hi,ld,ah⟩ ih2;obtain⟨a,c,du,er⟩:=hg v _ dz;have ag:=Ext.Ob w3
    try dsimp only
    refine py$ qN O$ Od O O$ NT O$ qV (P7 Up Ro O O (by omega))$ qV (OC OA O O (OS ah du))$ Qx OA O$ Py O O$ NU$ O8 O (λdM=>?_)$ λdM=>?_
    ·obtain⟨u,hu⟩:∃u,(Oh g v)[i]? =some u:=⟨_,List.getElem?_eq_getElem (by omega)⟩;obtain⟨lb,lo,rfl,rT⟩:=er i u hu;have gH:u<g.length:=QW ay v u (List.mem_of_getElem? hu);have Ip:=Ux g v i gH;have lD:=z8Z g v i u;obtain⟨vs,ln,oR,gO,Fy⟩:=id ld.ex;obtain⟨vu,Iq,LS,Bk⟩:=gO u _ Ip
     have LU:∀{w':World},Kp (λb=>vu.ownBlock=some b) w3 w'->w'.cell? ⟨bt,0+u*1,none⟩=some vu:=λhk=>by
      rw[(hk.NX ln (λe=>(Bk _ e).2 O)).cell,Nat.zero_add,Nat.mul_one];exact Iq
     have z3:=ah.size;refine An$ py$ NQ ?_;have jw:∀{w':World},Kp (λb=>vu.ownBlock=some b) w3 w'->Ext w w':=λhk=>ah.NR hk (λb e=>(Bk b e).1);refine Oo [23] (λw'=>Kp (λb=>vu.ownBlock=some b) w3 w') (by kernel_rfl) O$ OW 0 O O (ag.kp)$ OW 1 O O (ag.kp)$ OW 2 O O (ag.kp)$ Ot 3 O (P7 Up Ro O O (by omega)) (ag.kp)$ OW 5 O O (ag.kp)$ OW 8 O O (ag.kp)$ OW 9 O O (ag.kp)$ OW 10 O O (ag.kp)$ Ot 11 O (P7 Up Ro O O (by omega)) (ag.kp)$ OW 13 O O (ag.kp)$ OW 18 O O (ag.kp)$ Ot 19 O (z0H O U3 OJ) (ag.kp)$ qL 4 O (λ_ h=>OC OA O O (OS (jw h) du)) (ag.kp) ?_;refine qL 12 O (λ_ h=>OC OA O O (OS (jw h) du)) (ag.kp)$ Ot 6 O (P7 OA O7 O O (by omega)) (ag.kp)$ Ot 14 O (P7 OA O7 O O (by omega)) (ag.kp)$ qL 7 O (λ_ h=>OC OJ O O (OS (jw h) rT)) (ag.kp)$ qL 15 O (λ_ h=>OC OJ O O (OS (jw h) rT)) (ag.kp)$ Ot 16 O (P7 Up Ro O O (by omega)) (ag.kp)$ qL 17 O (λ_ h=>OC OA O O (LU h)) (ag.kp) ?_;rw[Nat.mod_eq_of_lt (show v<4294967296 by omega)];refine Qg (i:=20) (by kernel_rfl)$ PC (i:=20) O O O (Vl (cs:=[_]) (zs:=[Value.int .u32 0]) OA O7 O (by kernel_rfl) O O O (by decide)) ?_;rintro v4 w4 ⟨b4,rfl,⟨fV,az,aI⟩,dl⟩;refine⟨ag.kp.trans az.kp,?_⟩;have cz:=ag.trans az;refine Qg (i:=21) (by kernel_rfl)$ PC (i:=21) O O O (pap OA O7 O (by decide) O O (LS.ext cz) dl.rd (λc hc=>by obtain⟨z,-,rfl⟩:=List.mem_map.1 (show c∈[v].map OB from hc);rfl) (by omega) (by omega)) ?_;rintro v5 w5 ⟨dH,ak,na,-⟩;refine⟨cz.kp.trans ak,?_⟩;have jv:Kp (λb=>vu.ownBlock=some b) w3 w5:=cz.kp.trans ak;have z34:=cz.size;have Fz:=jv.NX ln (λe=>(Bk _ e).2 O);refine Ot 22 O (P7 Up Ro O O (by omega)) (cz.kp.trans ak)$ S8 [23]$ qO 23$ OP (i:=23) O O (PV Ro O O (VR dH) Fz (by rw[oR,Sh];omega)) ?_;rintro w6 ⟨aO,aP⟩;refine⟨trivial,?_⟩;have kV:=ld.put (l':=Uo g v i u++[v]) ln Ip Iq jv (by rw[List.length_append,List.map_append];exact dH) (λb hb=>(na b hb).imp id λe=>by omega) aP aO z3;rw[z8E ay hu] at kV;refine qE$ NS$ NW O$ NT O$ P6 O O$ NZ O ?_;exact(ih2 (i+1) _ ⟨by omega,kV,(ah.NR jv (λb e=>(Bk b e).1)).NR aP (λb e=>by omega)⟩ (by omega)).qb
    ·have bX:i=(Oh g v).length:=by omega
     subst bX;refine O4 O$ NS$ NW O$ NT O$ P6 O O$ NZ O ?_
     have e:Tx g v (Oh g v).length=Tx g (v+1) 0:=by
      unfold Tx;exact List.map_congr_left λu _=>z5K g v u
     exact(ih (v+1) _ ⟨by omega,by rw[<-e];exact ld,ah⟩ (by omega)).qb
  ·have dP:v=g.length:=by omega
   subst dP;refine O4 O$ qN O$ NT O$ NZ O$ NV func37 O ?_;exact⟨_,rfl,bt,rfl,cK.rw,ae⟩
theorem z2m (z:Int)(hz: -9223372036854775808<=z/\z<=9223372036854775807)(w:World):Oy prog 30 [I z] w λv w'=>∃n:Nat,v=I (n:Int)/\1<=n/\n<=40/\w'=w:=by
 have r1:=SI z 40 (by decide)
 have r2:=Uh z 40 (by decide)
 refine NP (e:=[(0,_)]) func30 O ntmps30 O O$ qN O$ Oc O$ qM O$ NT O$ qV (yrt O O (by decide))$ P6 O O$ qV (yrt O O (by decide)) ?_
 rw[show(z.tmod 40+40).tmod 40=nrm z 40 from rfl]
 refine P6 O O$ NZ O$ NV func30 O ?_
 exact⟨_,rfl,(1+nrm z 40).toNat,by rw[Int.toNat_of_nonneg (by omega)];rfl,by omega,by omega,rfl⟩
def z6Y:PA:=⟨7,3,3,3,64⟩
def z6O:PA:=⟨0,0,2,1,64⟩
def z7c:PA:=⟨2,1,4,2,3⟩
theorem z4E (z:Int)(hz: -9223372036854775808<=z/\z<=9223372036854775807)(w:World):Oy prog 36 [I z] w λv w'=>∃p:PA,v=bpV p/\p.PI/\p.zeta<=3/\Ext w w':=by
 have r1:=SI z 3 (by decide)
 have r2:=Uh z 3 (by decide)
 refine NP (e:=[(0,_)]) func36 O ntmps36 O O$ qN O$ O5 O O (QU (cs:=[_,_,_,_,_]) QJ O) ?_
 rintro _ w1 ⟨b2,rfl,bU,ad,ai⟩
 refine qM O$ qV (Rt (cs:=[_,_,_,_,_]) QJ O zco O O)$ qV (Rt (cs:=[_,_,_,_,_]) QJ O zco O O)$ qV (Rt (cs:=[_,_,_,_,_]) QJ O zco O O)$ O5 O O (Vl (cs:=[_,_,_,_,_,_,_,_,_,_,_,_,_,_,_]) (zs:=[Value.int .i64 0,Value.int .i64 0,Value.int .i64 0,Value.int .i64 0,Value.int .i64 0,Value.int .i64 0,Value.int .i64 0,Value.int .i64 0,Value.int .i64 0,Value.int .i64 0,Value.int .i64 0,Value.int .i64 0,Value.int .i64 0,Value.int .i64 0,Value.int .i64 0]) zcH QJ O (by kernel_rfl) O O O (by decide)) ?_
 rintro _ w2 ⟨b3,rfl,⟨f7,ae,am⟩,-⟩
 refine NT O$ qV (yrt O O (by decide))$ P6 O O$ qV (yrt O O (by decide)) ?_
 rw[show(z.tmod 3+3).tmod 3=nrm z 3 from rfl]
 have fd:=ae.NX ai
 have FA:nrm z 3=((0:Nat):Int)\/nrm z 3=((1:Nat):Int)\/nrm z 3=((2:Nat):Int):=by omega
 have lb:=ai.lt
 rcases FA with e|e| e
 ·rw[e];refine qV (P7 zcH QJ O O (by omega))$ qV (OE (news:=Uf z6Y) ZX O QJ O (O9.cells (i:=0+0*5) (n:=5) am O) O)$ Oe O (P4 (news:=Uf z6Y) QJ O O O O fd (by simp)) ?_;rintro w3 ⟨au,aw⟩;refine NU$ Oz func36 (.cell ZX O QJ O (O9.cells (n:=5) au (news:=[_,_,_,_,_]) O) O .nil) ?_;exact⟨_,rfl,z6Y,rfl,by unfold PA.PI Rf.PI z6Y PA.list;decide,by decide,(ad.trans ae).NR aw (λj e=>by omega)⟩
 ·rw[e];refine qV (P7 zcH QJ O O (by omega))$ qV (OE (news:=Uf z6O) ZX O QJ O (O9.cells (i:=0+1*5) (n:=5) am O) O)$ Oe O (P4 (news:=Uf z6O) QJ O O O O fd (by simp)) ?_;rintro w3 ⟨au,aw⟩;refine NU$ Oz func36 (.cell ZX O QJ O (O9.cells (n:=5) au (news:=[_,_,_,_,_]) O) O .nil) ?_;exact⟨_,rfl,z6O,rfl,by unfold PA.PI Rf.PI z6O PA.list;decide,by decide,(ad.trans ae).NR aw (λj e=>by omega)⟩
 ·rw[e];refine qV (P7 zcH QJ O O (by omega))$ qV (OE (news:=Uf z7c) ZX O QJ O (O9.cells (i:=0+2*5) (n:=5) am O) O)$ Oe O (P4 (news:=Uf z7c) QJ O O O O fd (by simp)) ?_;rintro w3 ⟨au,aw⟩;refine NU$ Oz func36 (.cell ZX O QJ O (O9.cells (n:=5) au (news:=[_,_,_,_,_]) O) O .nil) ?_;exact⟨_,rfl,z7c,rfl,by unfold PA.PI Rf.PI z7c PA.list;decide,by decide,(ad.trans ae).NR aw (λj e=>by omega)⟩
theorem QN {L:List Bool}{s n:Nat}{b:Bool}(h:s+n<=L.length)(i:Nat):(Pv L s n b)[i]? =if s<=i/\i<s+n then some b else L[i]? :=by
 unfold Pv
 have hl:(L.take s).length=s:=by rw[List.length_take];omega
 by_cases h1:i<s
 ·rw[if_neg (by omega),List.getElem?_append_left (by omega),List.getElem?_take_of_lt h1]
 ·rw[List.getElem?_append_right (by omega),hl];by_cases h2:i<s+n
  ·rw[if_pos (by omega),List.getElem?_append_left (by rw[List.length_replicate];omega),List.getElem?_replicate,if_pos (by omega)]
  ·rw[if_neg (by omega),List.getElem?_append_right (by rw[List.length_replicate];omega),List.length_replicate,List.getElem?_drop]
   congr 1
   omega
theorem XB {L:List Bool}{a n:Nat}(h:Pre L a)(hn:a+n<=L.length):Pre (Pv L a n true) (a+n):=by
 have h2:=h.a2
 refine⟨by omega,by rw[Pl hn];exact hn,λi h1 h3=>?_,λi h1 h3=>?_⟩
 ·rw[QN hn];split
  ·rfl
  ·exact h.tk i h1 (by omega)
 ·rw[Pl hn] at h3;rw[QN hn,if_neg (by omega)];exact h.fr i (by omega) h3
theorem z8H {L:List Bool}{a n:Nat}(h:Pre L a)(hn:a+n<=L.length):Pv (Pv L a n true) a n false=L:=by
 have h1:=Pl (b:=true) hn
 have h4:=Pl (b:=false) (L:=Pv L a n true) (s:=a) (n:=n) (by omega)
 apply List.ext_getElem?
 intro i
 rw[QN (by omega),QN hn]
 by_cases hi:a<=i/\i<a+n
 ·rw[if_pos hi];exact(h.fr i hi.1 (by omega)).symm
 ·rw[if_neg hi,if_neg hi]
theorem z3E {Q:Qz}{txt:Int->NY}{K:Nat}{X:Nat->Prop}{w:World}(hP:Sp Q txt K X w)(hX:∀b,X b->b<w.heap.size)(hK:K<=90000000000)(x1:X 2)(x2:X 3)(hG:O9 w 2 (RB .gamma) 317)(hU:O9 w 3 (RB .unary) 317){g:List (List Nat)}(ay:R7 g)(aT:1<=g.length)(jx:g.length<=40){ga:Option Addr}{gc:Nat}(kX:GrM w (.slice ga g.length gc) g){p:PA}(hp:p.PI)(hz:p.zeta<=3){a:Nat}(ha:Pre Q.L a)(fB:a+72<=Q.L.length):
  Oy prog 35 [ptr Q.s 0,.slice ga g.length gc,bpV p] w λv w'=>∃(G:GwP) (txt':Int->NY),v= .tuple #[ptr G.k 0,.bool true]/\G.g=g/\G.st=a/\G.len<=72/\1<=G.len/\(w.heap.size<=G.k/\w.heap.size<=G.x/\w.heap.size<=G.rb)/\RQ G (Q.Pw (Pv Q.L a G.len true)) txt' (K+200) (λj=>X j\/j=G.x\/j=G.k) w'/\(∀y:Int,y<(a:Int)\/(a:Int)+(G.len:Int)<=y->txt' y=txt y)/\Kp (λb=>¬X b) w w':=by
 have en:=hP.n
 refine NP (e:=[(0,_),(1,_),(2,_)]) func35 O ntmps35 O O$ qN O$ O5 O O (Qr O (cs:=Uf p) O) ?_
 rintro _ w1 ⟨bp,rfl,Nz,ad,ri⟩
 refine Oc O$ Oc O$ qM O$ NT O$ qV (OE (news:=Uf p) ZX O QJ O (O9.cells (i:=0) (n:=5) ri O) O)$ Om zjY O (z5Q hp ay aT (kX.ext ad) (ad.NX hG) (ad.NX hU)) ?_
 rintro _ w2 ⟨E,LV,rfl,ae⟩
 have AW:S1 p g E:=⟨hp,ay,aT,LV⟩
 have LW:=zbm AW jx hz
 obtain⟨T,hT⟩:∃T,WT p g E=T:=⟨_,rfl⟩
 rw[hT] at LW⊢
 have aJ:=ad.trans ae
 have ft:=hP.ext' aJ
 refine NT O$ P9 O O$ P9 O O$ Oc O$ NZ O$ py$ qN O$ NT O$ Pz O O$ NU$ It O$ An$ qN O$ NT O ?_
 refine Om z3a O (ft.size) ?_
 rintro _ w2 ⟨rfl,rfl⟩
 refine NT O$ qV (Sr U9 O)$ Om zka O (z2F T.length (by omega) _) ?_
 rintro _ w2 ⟨rfl,rfl⟩
 obtain⟨N,hN⟩:∃N,(T.length+523) / 512=N:=⟨_,rfl⟩
 rw[hN]
 have jp:1<=N/\N<=72/\T.length<=N*512-12:=by omega
 refine NT O$ P9 O O$ P9 O O$ Oc O$ NZ O$ OD.qb (e:=[(0,_),(6,_),(7,_),(8,_),(9,_),(10,_)]) ?_
 refine py$ qN O$ NT O$ Pz O O ?_
 have gN:∀b,X b->b<w2.heap.size:=λb hb=>by have:=hX b hb;have:=aJ.size;omega
 refine NU$ It O$ An$ qN O$ Od O O$ Om zgs O (ft.take gN ha jp.1 (by omega)) ?_
 rintro _ w3 ⟨rfl,eN,aw⟩
 have fJ:(Pv Q.L a N true).length=Q.L.length:=Pl (by omega)
 obtain⟨Q3,qy⟩:∃Q3,Q.Pw (Pv Q.L a N true)=Q3:=⟨_,rfl⟩
 rw[qy] at eN
 have wX:Q3.s=Q.s:=by rw[<-qy];rfl
 have Ir:Q3.L.length=Q.L.length:=by rw[<-qy];exact fJ
 rw[<-wX]
 have z3:=aw.size
 have oM:∀b,X b->b<w3.heap.size:=λb hb=>by have:=gN b hb;omega
 refine NT O$ P9 O O$ P9 O O$ O5 O O (QU (cs:=[_,_]) Qf O) ?_
 rintro _ w4 ⟨be,rfl,vG,az,ep⟩
 refine Oe O (P4 (news:=[I (a:Int),I (N:Int)]) Qf O O O O ep (by simp)) ?_
 rintro w5 ⟨kD,ak⟩
 replace kD:O9 w5 be [I (a:Int),I (N:Int)] 119:=kD
 have bT:Ext w3 w5:=az.NR ak (λj e=>by omega)
 refine NZ O$ py$ qN O$ NT O$ Pz O O ?_
 have gT:Sp Q3 txt K (λb=>X b\/b=be) w5:=eN.ext bT (λb e=>e.imp id λe=>by omega)
 refine NU$ It O$ An$ qN O$ NT O$ qV (OE (news:=[I (a:Int),I (N:Int)]) Wj O Qf O (O9.cells (i:=0) (n:=2) kD O) O)$ Om zjx O (z2d gT jp.1 (by omega)) ?_
 rintro _ w6 ⟨wb,bs,bx,bw,sum,rfl,g8,zR,⟨z1',z2',z3',z4'⟩,aH⟩
 have z5:=bT.size
 have z6:=aH.size
 have lbe:=kD.lt
 obtain⟨X6,mC⟩:∃X6:Nat->Prop,(λb=>X b\/b=be\/b=wb\/b=bs\/b=bx\/b=bw)=X6:=⟨_,rfl⟩
 have ey:∀b,X b->X6 b:=λb hb=>by rw[<-mC];exact .inl hb
 have aV:X6 wb/\X6 bs/\X6 bx/\X6 bw:=by rw[<-mC];exact⟨.inr (.inr (.inl O)),.inr (.inr (.inr (.inl O))),.inr (.inr (.inr (.inr (.inl O)))),.inr (.inr (.inr (.inr (.inr O))))⟩
 have FB:X6 be:=by rw[<-mC];exact .inr (.inl O)
 have ik:Sp Q3 txt K X6 w6:=gT.ext aH (λb e=>by
  rw[<-mC] at e;rcases e with e|e| e
  ·exact .inl (.inl e)
  ·exact .inl (.inr e)
  ·exact .inr (by omega))
 have l1:=zR.wr.lt
 have l2:=zR.sb.lt
 have l3:=zR.xb.lt
 have l4:=zR.pb.lt
 have qz:∀b,X6 b->b<w6.heap.size:=λb e=>by
  rw[<-mC] at e;rcases e with e| e
  ·have:=oM b e;omega
  ·omega
 have FC:be≠wb:=by omega
 refine NT O$ P9 O O$ P9 O O$ Oc O$ NZ O$ py$ qN O$ NT O$ Pz O O$ Od O O$ NT O$ Om zkp O (z33 ik qz (by omega) zR g8 aV (by omega) jp.1 jp.2.2) ?_
 rintro _ w7 ⟨rfl,sum7,rU,txt7,rest,kC,iu,gL,FD,FE,aD,sC⟩
 have z7:=aD.size
 refine Pz O O$ OU O O$ Od O O$ Om zjS O (z3M kC (λb e=>by have:=qz b e;omega) (by omega) iu rU aV (by omega) hN.symm (by rw[show T.length%512=T.length-512*(T.length / 512) by omega];exact gL) (λb hb e=>by have:=qz b e;have:=sC b hb;omega) FD) ?_
 rintro _ w8 ⟨rfl,txt8,mv,FF,FG,zS,aS⟩
 have z8:=aS.size
 have pf:Kp (λb=>¬X6 b\/b=wb) w6 w8:=aD.trans aS
 have FH:=pf.NX (aH.NX kD) (λe=>e.elim (λe=>e FB) FC)
 refine Pz O O$ OU O O$ NU$ OD.qb (e:=[(0,_),(6,_),(7,_),(9,_),(11,_),(59,_)]) ?_
 refine It O$ An$ qN O$ NT O$ qV (OE (news:=[I (a:Int),I (N:Int)]) Wj O Qf O (O9.cells (i:=0) (n:=2) FH O) O)$ Om zk1 O (z4U mv (λb e=>by have:=qz b e;omega) (by omega) jp.1 (by omega) jp.2.2 rU FG) ?_
 rintro _ w9 ⟨rb,rfl,zT,Hu,vL,aL⟩
 have z9:=aL.size
 have lrb:=zT.lt
 have hL:Laid txt8 a T:=Laid.of λk hk=>⟨vL.z0s (by omega) (by omega),FF k hk⟩
 subst hT
 have hO:StO Q3 txt8 (K+(WT p g E).length / 512+2) a N (WT p g E):=⟨by omega,by omega,hL,by omega⟩
 have sJ:Kp (λb=>¬X b) w w6:=(aJ.kp.trans aw).trans (bT.trans aH).kp
 have sx:Kp (λb=>¬X b) w w8:=sJ.NR pf λb e=>by
  rcases e with e| e
  ·exact .inr λe2=>e (ey b e2)
  ·exact .inl (by have:=aJ.size;omega)
 have uw:Kp (λb=>¬X b) w w9:=sx.trans (aL.Of λb e e2=>e (ey b e2))
 have z2:=aJ.size
 have um:¬X rb:=λe=>by have:=hX rb e;omega
 have hI:(z8r hO rb sum7).inv X w9:=⟨vL.less (λb e=>e.imp (ey b) id),zT,um⟩
 refine NT O$ P9 O O$ P9 O O$ Oc O$ NZ O$ py$ qN O$ NT O$ Pz O O$ NU$ It O$ An$ qN O$ NT O ?_
 refine Om zj6 O (z58 AW hO hI (λb e=>by have:=hX b e;omega) x1 x2 (uw.NX hG (λe=>e x1)) (uw.NX hU (λe=>e x2))) ?_
 rintro _ w10 ⟨k,x,rfl,oT,ju,LX,ar⟩
 refine NT O$ P9 O O$ P9 O O$ Oc O$ Oc O$ qM O$ Od O O$ Qe O O$ Qs$ Od O O$ qV (z2V U30 O O)$ PT O O$ Oc O$ NZ O ?_
 refine OD.qb (e:=[(6,_),(7,_)]) ?_
 refine NV func35 O (⟨_,rfl,⟨p,g,E,a,N,rb,sum7,k,x⟩,txt8,rfl,rfl,rfl,jp.2.1,jp.1,⟨by show w.heap.size<=k;omega,by show w.heap.size<=x;omega,by show w.heap.size<=rb;omega⟩,?_,λy hy=>?_,uw.trans ar⟩)
 ·rw[qy];exact RQ.more (G:=⟨p,g,E,a,N,rb,sum7,k,x⟩) ⟨hO,LX⟩ (by omega) (by omega)
 ·show txt8 y=txt y;have hy:y<(a:Int)\/(a:Int)+(N:Int)<=y:=hy;rw[zS y hy,FE y (by omega)]
structure Wd where
 d:Nat
 Q:Qz
 txt:Int->NY
 K:Nat
 G:GwP
 T:GwP
 a:Nat
def Wd.v (W:Wd):List Value:=[ptr W.d 0,ptr W.Q.s 0,ptr W.G.k 0,ptr W.T.k 0,I ((200-W.a:Nat):Int)]
structure WdM (W:Wd)(g:List (List Nat))(XX:Nat->Prop)(w:World):Prop where
 hg:RQ W.G W.Q W.txt W.K (λb=>XX b/\b≠W.G.rb) w
 ht:RQ W.T W.Q W.txt W.K (λb=>XX b/\b≠W.T.rb) w
 gg:W.G.g=g
 tg:W.T.g=WA g
 pre:Pre W.Q.L W.a
 a:W.a<=146
 L:W.Q.L.length=200
 K:W.K<=400
 gs:W.G.st+W.G.len<=W.T.st
 ts:W.T.st+W.T.len<=W.a
theorem zaE {w:World}{g:List (List Nat)}(ay:R7 g)(aT:1<=g.length)(jx:g.length<=40){ga:Option Addr}{gc:Nat}(kX:GrM w (.slice ga g.length gc) g)(hG:O9 w 2 (RB .gamma) 317)(hU:O9 w 3 (RB .unary) 317)(fr fo:Int)(kL: -9223372036854775808<=fr/\fr<=9223372036854775807)(zU: -9223372036854775808<=fo/\fo<=9223372036854775807):
  Oy prog 7 [.slice ga g.length gc,I fr,I fo] w λv w'=>∃(W:Wd) (XX:Nat->Prop),v= .tuple #[.agg W.v.toArray,.bool true]/\WdM W g XX w'/\Ext w w'/\(∀b,b<w.heap.size->XX b/\b≠W.G.rb/\b≠W.T.rb)/\w.heap.size<=W.G.k/\w.heap.size<=W.G.x:=by
 have r1:=SI fr 12 (by decide)
 have r2:=Uh fr 12 (by decide)
 have l1:=hG.lt
 have l2:=hU.lt
 refine NP (e:=[(0,_),(1,_),(2,_)]) func7 O ntmps7 O O$ qN O$ O5 O O (QU (cs:=[_,_,_,_,_]) z3p O) ?_
 rintro _ w1 ⟨bW,rfl,NA,ad,Is⟩
 have z1:=ad.size
 have lW:=Is.lt
 refine Oc O$ qM O$ qV (Rt (cs:=[_,_]) za2 O zk6 O O)$ Om zjP O (zcv 200 1 _ (by unfold YT;decide)) ?_
 rintro _ w2 ⟨d,Fd,rfl,hD,ae,LY⟩
 refine NT O$ P9 O O$ P9 O O$ Oc O$ Oc O$ qM O$ Om zjA O (z9j 200 (by decide) _) ?_
 rintro _ w3 ⟨m,gi,rfl,hE,hm,tE,ah⟩
 have z2:=ae.size
 have z3:=ah.size
 have LZ:=hD.ext ah
 refine NT O$ P9 O O$ P9 O O$ Oc O$ Oc O$ qM O$ Od O O$ qV (yrt O O (by decide))$ P6 O O$ qV (yrt O O (by decide)) ?_
 rw[show(fr.tmod 12+12).tmod 12=nrm fr 12 from rfl]
 obtain⟨nf,M0,FI,M1⟩:∃nf:Nat,1+nrm fr 12=(nf:Int)/\1<=nf/\nf<=12:=⟨(1+nrm fr 12).toNat,by omega,by omega,by omega⟩
 refine P6 O O ?_
 rw[M0]
 have ia:(List.replicate 200 false).length=200:=List.length_replicate
 have M2:¬Fd m/\¬Fd gi:=⟨λe=>by have:=hD.lt _ e;omega,λe=>by have:=hD.lt _ e;omega⟩
 refine NT O$ Om zjb O (z8I (L:=List.replicate 200 false) (by rw[ia];exact LZ) hE M2 nf FI (by omega)) ?_
 rintro _ w4 ⟨P,rfl,hM,hI,M3,M4,Iu,M5,az⟩
 have z4:=az.size
 have bS:Ext w w4:=((ad.trans ae).trans ah).trans az
 have FJ:=((ae.trans ah).trans az).NX Is
 obtain⟨X,hX⟩:∃X:Nat->Prop,(λb=>b<w.heap.size\/b=bW)=X:=⟨_,rfl⟩
 have FK:∀b,X b->b<w1.heap.size:=λb e=>by rw[<-hX] at e;omega
 have oa:∀b,b<w.heap.size->X b:=λb e=>by rw[<-hX];exact .inl e
 have Bl:X bW:=by rw[<-hX];exact .inr O
 have iW:Sp P (λ_=>zeros 512) 0 X w4:=⟨P,hM,hI,⟨rfl,rfl,rfl,rfl,rfl,rfl,rfl,rfl,rfl⟩,λb hb e=>by
  have:=FK b e;rcases M5 b hb with e|e|e| e
  ·have:=LY b e;omega
  ·omega
  ·omega
  ·omega⟩
 have dK:Pre P.L 2:=by
  rw[Iu];exact⟨Nat.le_refl _,by rw[ia];omega,λi h1 h2=>by omega,λi h1 h2=>by rw[ia] at h2;rw[List.getElem?_replicate,if_pos h2]⟩
 have NB:P.L.length=200:=by rw[Iu,ia]
 refine NT O$ P9 O O$ P9 O O$ Oc O$ NZ O$ OD.qb (e:=[(0,_),(2,_),(6,_),(7,_),(8,_),(9,_),(10,_),(11,_),(12,_),(13,_)]) ?_
 refine py$ qN O$ NT O$ Pz O O$ OR$ Od O O$ Pz O O$ OR$ OU O O$ Od O O$ Pz O O$ OR$ OU O O$ Od O O ?_
 refine qV (Pt X7 O O)$ OU O O$ NU$ It O$ An$ qN O$ Od O O$ NT O$ Om zfC O (z4E fo zU _) ?_
 rintro _ w5 ⟨p1,rfl,Ch,il,aR⟩
 have z5:=aR.size
 have bO:=bS.trans aR
 have M6:∀b,X b->b<w5.heap.size:=λb e=>by have:=FK b e;omega
 refine Om zgZ O (z3E (iW.ext' aR) M6 (by omega) (oa 2 l1) (oa 3 l2) (bO.NX hG) (bO.NX hU) ay aT jx (kX.ext bO) Ch il dK (by omega)) ?_
 rintro _ w6 ⟨G,txt6,rfl,M7,NC,ND,M8,⟨n1,n2,n3⟩,cm,Bm,aP⟩
 have iD:Ext w w6:=bO.NR aP (λb e=>by
  rcases Nat.lt_or_ge b w.heap.size with h| h
  ·exact absurd (oa b h) e
  ·exact h)
 have z6:=aP.size
 have FM:=aP.NX (aR.NX FJ) (λe=>e Bl)
 have zQ:(Pv P.L 2 G.len true).length=P.L.length:=Pl (by omega)
 have oc:Pre (Pv P.L 2 G.len true) (2+G.len):=XB dK (by omega)
 obtain⟨Q6,FN⟩:∃Q6,P.Pw (Pv P.L 2 G.len true)=Q6:=⟨_,rfl⟩
 have FO:Q6.L=Pv P.L 2 G.len true:=by rw[<-FN];rfl
 have uy:Q6.s=P.s/\Q6.d=P.d/\Q6.m=P.m:=by rw[<-FN];exact⟨rfl,rfl,rfl⟩
 rw[FN] at cm
 rw[<-FO] at zQ oc
 obtain⟨gb,go,gc',io,kE⟩:=kX.r aT
 cases io
 refine NT O$ P9 O O$ P9 O O$ Oc O$ NZ O$ OD.qb (e:=[(0,_),(2,_),(6,_),(7,_),(8,_),(10,_),(12,_),(14,_),(15,_)]) ?_
 refine qN O$ Od O O$ Om zjL O (z6i ay (kE.ext iD)) ?_
 rintro _ w7 ⟨bt,rfl,M9,bV⟩
 have gS:=iD.trans bV
 have z7:=bV.size
 have uz:=cm.ext bV
 have lD:=Xk g
 refine NT O$ qV (za0 O O) ?_
 obtain⟨fo2,zV⟩:∃z,IntKind.i64.wrap (fo+1)=z:=⟨_,rfl⟩
 have zW: -9223372036854775808<=fo2/\fo2<=9223372036854775807:=by
  rw[<-zV,IntKind.wrap_i64];omega
 rw[zV]
 refine Om zfC O (z4E fo2 zW _) ?_
 rintro _ w8 ⟨p2,rfl,pn,mI,dq⟩
 have z8:=dq.size
 have bY:=uz.ext dq
 have od:=gS.trans dq
 obtain⟨X2,gN⟩:∃X2:Nat->Prop,(λb=>(X b\/b=G.x\/b=G.k)\/b=G.rb)=X2:=⟨_,rfl⟩
 have iz:∀b,X b->X2 b:=λb e=>by rw[<-gN];exact .inl (.inl e)
 have mv:Sp Q6 txt6 (0+200) X2 w8:=by rw[<-gN];exact bY.sp
 have FP:∀b,X2 b->b<w8.heap.size:=λb e=>bY.lt1 b (by rw[<-gN] at e;exact e)
 have FQ:GrM w8 (.slice (some ⟨bt,0,none⟩) (WA g).length (WA g).length) (WA g):=(M9.ext dq).gr
 have oE:=z3E mv FP (by omega) (iz _ (oa 2 l1)) (iz _ (oa 3 l2)) (od.NX hG) (od.NX hU) (zad ay) (by omega) (by omega) FQ pn mI oc (by omega)
 rw[uy.1,lD] at oE
 refine Om zgZ O (oE) ?_
 rintro _ w9 ⟨T,txt9,rfl,Ma,NE,Mb,Mc,⟨t1,t2,t3⟩,iK,Bn,aL⟩
 have z9:=aL.size
 have gu:Ext w w9:=od.NR aL (λb e=>by
  rcases Nat.lt_or_ge b w.heap.size with h| h
  ·exact absurd (iz b (oa b h)) e
  ·exact h)
 have FS:=aL.NX ((bV.trans dq).NX FM) (λe=>e (iz _ Bl))
 have Iv:(Pv Q6.L (2+G.len) T.len true).length=Q6.L.length:=Pl (by omega)
 have oe:Pre (Pv Q6.L (2+G.len) T.len true) (2+G.len+T.len):=XB oc (by omega)
 obtain⟨Q9,FT⟩:∃Q9,Q6.Pw (Pv Q6.L (2+G.len) T.len true)=Q9:=⟨_,rfl⟩
 have FU:Q9.L=Pv Q6.L (2+G.len) T.len true:=by rw[<-FT];rfl
 have uA:Q9.s=Q6.s/\Q9.d=Q6.d/\Q9.m=Q6.m:=by rw[<-FT];exact⟨rfl,rfl,rfl⟩
 rw[FT] at iK
 rw[<-FU] at Iv oe
 have zX:=iK.sp
 have uB:=iK.lt1
 have Md:RQ G Q9 txt9 (0+200+200) (λb=>(X b\/b=G.x\/b=G.k)\/b=T.x\/b=T.k\/b=T.rb) w9:=bY.zcY aL (λb e=>by rw[<-gN] at e;exact e) (λj e=> .inl e) (λj e=>e.imp id λe=>by
   have h1:=uB T.x (.inl (.inr (.inl O)));have h2:=uB T.k (.inl (.inr (.inr O)));have h3:=uB T.rb (.inr O)
   omega) (zX.less λb e=>by
   rw[<-gN];rcases e with(e|e|e|e)| e
   ·exact .inl (.inl (.inl e))
   ·exact .inl (.inr (.inl e))
   ·exact .inl (.inr (.inr e))
   ·exact .inr e
   ·exact .inl (.inl (.inr e))) uA.1 Iv (by omega) (λy h1 h2=>Bn y (.inl (by omega)))
 have fB:=zX.room oe (by omega)
 rw[uA.2.2,uy.2.2,M3] at fB
 refine NT O$ P9 O O$ P9 O O$ Oc O$ Oc O$ qM O$ Od O O$ Od O O$ NT O$ Om zhl O (fB) ?_
 rintro _ w10 ⟨rfl,bC⟩
 have zY:=bC.NX FS
 rw[show Q9.L.length-(2+G.len+T.len)=200-(2+G.len+T.len) by omega]
 refine qV (Rt (cs:=[_,_,_,_,_]) z3p O zjq O O)$ Od O O$ NT O$ PT O O$ Oe O (P4 (news:=[_,_,_,_,_]) z3p O O O O zY (by simp)) ?_
 rintro w11 ⟨zZ,aY⟩
 refine NZ O$ OD.qb (e:=[(6,_),(7,_)]) ?_
 refine Oz func7 (.cell U32 O z3p O (O9.cells (n:=5) zZ (news:=[_,_,_,_,_]) O) O (.tmp O .nil)) ?_
 obtain⟨XX,ey⟩:∃XX:Nat->Prop,(λb=>X b\/b=G.x\/b=G.k\/b=G.rb\/b=T.x\/b=T.k\/b=T.rb)=XX:=⟨_,rfl⟩
 have Iw:=bY.rbX
 have Ix:=iK.rbX
 have A0:=bY.xk
 have Iy:=iK.xk
 have zG:=bY.lt1 _ (.inr O)
 have zGk:=bY.lt1 _ (.inl A0.1)
 have zGx:=bY.lt1 _ (.inl A0.2.1)
 have iZ:∀b,X b->b<w1.heap.size:=FK
 have FW:RQ G Q9 txt9 400 (λb=>XX b/\b≠G.rb) w11:=by
  refine RQ.less (Y:=λb=>(X b\/b=G.x\/b=G.k)\/b=T.x\/b=T.k\/b=T.rb) ((Md.ext bC).own aY λj e=>?_) (λb e=>?_) ?_
  ·subst e;exact⟨.inl (.inl Bl),by omega,by omega,by omega,by omega⟩
  ·rw[<-ey] at e;rcases e with⟨e|e|e|e|e,h⟩
   ·exact .inl (.inl e)
   ·exact .inl (.inr (.inl e))
   ·exact .inl (.inr (.inr e))
   ·exact absurd e h
   ·exact .inr e
  ·rw[<-ey];exact⟨⟨.inr (.inr (.inl O)),λe=>Iw (e▸A0.1)⟩,⟨.inr (.inl O),λe=>Iw (e▸A0.2.1)⟩,⟨.inl (oa 2 l1),by omega⟩,⟨.inl (oa 3 l2),by omega⟩⟩
 have FX:RQ T Q9 txt9 400 (λb=>XX b/\b≠T.rb) w11:=by
  refine RQ.less (Y:=λj=>X2 j\/j=T.x\/j=T.k) ((iK.ext bC).own aY λj e=>?_) (λb e=>?_) ?_
  ·subst e;exact⟨.inl (iz _ Bl),by omega,by omega,by omega,by omega⟩
  ·rw[<-ey] at e;rw[<-gN];rcases e with⟨e|e|e|e|e|e|e,h⟩
   ·exact .inl (.inl (.inl e))
   ·exact .inl (.inl (.inr (.inl e)))
   ·exact .inl (.inl (.inr (.inr e)))
   ·exact .inl (.inr e)
   ·exact .inr (.inl e)
   ·exact .inr (.inr e)
   ·exact absurd e h
  ·rw[<-ey];exact⟨⟨.inr (.inr (.inr (.inr (.inr (.inl O))))),λe=>Ix (e▸Iy.1)⟩,⟨.inr (.inr (.inr (.inr (.inl O)))),λe=>Ix (e▸Iy.2.1)⟩,⟨.inl (oa 2 l1),by omega⟩,⟨.inl (oa 3 l2),by omega⟩⟩
 refine⟨_,rfl,⟨d,Q9,txt9,400,G,T,2+G.len+T.len⟩,XX,?_,⟨FW,FX,M7,Ma,oe,?_,?_,?_,?_,?_⟩,?_,λb hb=>⟨by rw[<-ey];exact .inl (oa b hb),λe=>?_,λe=>?_⟩,?_,?_⟩
 ·unfold Wd.v;rw[uA.1,uy.1]
  rfl
 ·show 2+G.len+T.len<=146;omega
 ·show Q9.L.length=200;omega
 ·exact Nat.le_refl _
 ·show G.st+G.len<=T.st;omega
 ·show T.st+T.len<=2+G.len+T.len;omega
 ·exact(gu.trans bC).NR aY λb e=>by omega
 ·have e:b=G.rb:=e;omega
 ·have e:b=T.rb:=e;omega
 ·show w.heap.size<=G.k;omega
 ·show w.heap.size<=G.x;omega
theorem z7x {w:World}{g:List (List Nat)}(ay:R7 g)(aT:1<=g.length)(jx:g.length<=40){ga:Option Addr}{gc:Nat}(kX:GrM w (.slice ga g.length gc) g)(hG:O9 w 2 (RB .gamma) 317)(hU:O9 w 3 (RB .unary) 317)(fr fo:Int)(kL: -9223372036854775808<=fr/\fr<=9223372036854775807)(zU: -9223372036854775808<=fo/\fo<=9223372036854775807):
  Oy prog 7 [.slice ga g.length gc,I fr,I fo] w λv w'=>∃(W:Wd) (XX:Nat->Prop),v= .tuple #[.agg W.v.toArray,.bool true]/\WdM W g XX w'/\Ext w w'/\∀b,b<w.heap.size->XX b/\b≠W.G.rb/\b≠W.T.rb:=by
 refine(zaE ay aT jx kX hG hU fr fo kL zU).mono ?_
 rintro v w' ⟨W,XX,h1,h2,h3,h4,-⟩
 exact⟨W,XX,h1,h2,h3,h4⟩
structure RuK (σ:Type) where
 M:Qz->(Int->NY)->Nat->Nat->(Nat->Prop)->Nat->Nat->σ->World->Prop
 tm:σ->Nat
 c0:Nat
 c1:Nat
 kp:∀{Q:Qz} {txt:Int->NY} {k rr:Nat} {O_:Nat->Prop} {a L:Nat} {s:σ} {w w':World} {S:Nat->Prop},M Q txt k rr O_ a L s w->Kp S w w'->(∀b,O_ b->¬S b)->M Q txt k rr O_ a L s w'
 QX:∀{Q:Qz} {txt txt':Int->NY} {k rr:Nat} {O_:Nat->Prop} {a L:Nat} {s:σ} {w:World},M Q txt k rr O_ a L s w->(∀y:Int,(a:Int)<=y->y<(a:Int)+(L:Int)->txt' y=txt y)->M Q txt' k rr O_ a L s w
 q:∀{Q Q':Qz} {txt:Int->NY} {k rr:Nat} {O_:Nat->Prop} {a L:Nat} {s:σ} {w:World},M Q txt k rr O_ a L s w->Q'.s=Q.s->Q'.L.length=Q.L.length->M Q' txt k rr O_ a L s w
structure QZ {σ:Type}(R:RuK σ)(G:GwP)(Q:Qz)(txt:Int->NY)(K:Nat)(X:Nat->Prop)(rr:Nat)(O_:Nat->Prop)(a L:Nat)(s:σ)(w:World):Prop where
 g:RQ G Q txt K X w
 m:R.M Q txt G.k rr O_ a L s w
 xr:∀b,O_ b->X b
 ro:O_ rr
 ne:∀b,O_ b->b≠G.k/\b≠G.x/\b≠2/\b≠3
 Vo:G.st+G.len<=a
 n:G.g.length<=40
section
variable {σ:Type}{R:RuK σ}{J:σ->Prop}{w0 w w' w3 w4 w5:World}{g:List (List Nat)}{G G1 G2 G3:GwP}{Q Q1 Q2 Q3 Q':Qz}{txt txt1 txt2 txt3 txt':Int->NY}{K K1 K2 K3 K':Nat}{X X1 X2 X3 Y S' O_ O1 O2:Nat->Prop}{rr r1 a1 r2 a2 a L L1 L2 B:Nat}{s s' s0 s1 s2:σ}
theorem QZ.step (h:QZ R G Q txt K X rr O_ a L s w)(hk:Kp S' w w')(hS:∀j,S' j->X j/\j≠G.k/\j≠G.x/\j≠2/\j≠3/\¬O_ j)(hXY:∀j,X j->Y j)(hY:∀j,Y j->X j\/(w.heap.size<=j/\j<w'.heap.size)):QZ R G Q txt K Y rr O_ a L s w':=
 ⟨h.g.step hk (λj e=>⟨(hS j e).1,(hS j e).2.1,(hS j e).2.2.1,(hS j e).2.2.2.1,(hS j e).2.2.2.2.1⟩) hY hXY,R.kp h.m hk (λb hb e=>(hS b e).2.2.2.2.2 hb),λb hb=>hXY b (h.xr b hb),h.ro,h.ne,h.Vo,h.n⟩
theorem QZ.lts (h:QZ R G Q txt K X rr O_ a L s w):(∀b,O_ b->b<w.heap.size)/\G.k<w.heap.size/\G.x<w.heap.size/\2<w.heap.size/\3<w.heap.size:=by
 have h1:=h.g.lt
 have h2:=h.g.xk
 exact⟨λb hb=>h1 _ (h.xr b hb),h1 _ h2.1,h1 _ h2.2.1,h1 _ h2.2.2.1,h1 _ h2.2.2.2⟩
theorem QZ.ext (h:QZ R G Q txt K X rr O_ a L s w)(hx:Ext w w'):QZ R G Q txt K X rr O_ a L s w':=
 h.step hx (λ_ e=>e.elim) (λ_ e=>e) (λ_ e=> .inl e)
theorem QZ.grow (h:QZ R G Q txt K X rr O_ a L s w)(hx:Ext w w')(hY:∀j,Y j->X j\/(w.heap.size<=j/\j<w'.heap.size))(hXY:∀j,X j->Y j):QZ R G Q txt K Y rr O_ a L s w':=
 h.step hx (λ_ e=>e.elim) hXY hY
theorem QZ.less (h:QZ R G Q txt K Y rr O_ a L s w)(hXY:∀j,X j->Y j)(hx:X G.k/\X G.x/\X 2/\X 3)(hr:∀b,O_ b->X b):QZ R G Q txt K X rr O_ a L s w:=⟨h.g.less hXY hx,h.m,hr,h.ro,h.ne,h.Vo,h.n⟩
theorem QZ.more (h:QZ R G Q txt K X rr O_ a L s w)(hK:K<=K')(hK':K'<1000000000000):QZ R G Q txt K' X rr O_ a L s w:=⟨h.g.more hK hK',h.m,h.xr,h.ro,h.ne,h.Vo,h.n⟩
theorem QZ.own (h:QZ R G Q txt K X rr O_ a L s w)(hk:Kp S' w w')(hS:∀j,S' j->X j/\j≠G.k/\j≠G.x/\j≠2/\j≠3/\¬O_ j):QZ R G Q txt K X rr O_ a L s w':=
 h.step hk hS (λ_ e=>e) (λ_ e=> .inl e)
theorem QZ.read (h:QZ R G Q txt K X rr O_ a L s w)(hk:Kp (λb=>¬(X b\/b=G.rb)) w w')(hP:Sp Q txt K (λb=>X b\/b=G.rb) w'):QZ R G Q txt K X rr O_ a L s w':=
 ⟨h.g.Z8 hk (λb e=> .inl e) hP O O h.g.z9m (λ_ _ _=>rfl),R.kp h.m hk (λb hb e=>e (.inl (h.xr b hb))),h.xr,h.ro,h.ne,h.Vo,h.n⟩
theorem QZ.Z8 (h:QZ R G Q txt K X rr O_ a L s w)(hK:K'<1000000000000)(hk:Kp S' w w')(hS:∀b,S' b->¬(X b\/b=G.rb)\/O_ b)(hP:Sp Q txt' K' (λb=>X b\/b=G.rb) w')(hy:∀y:Int,y<(a:Int)\/(a:Int)+(L:Int)<=y->txt' y=txt y)(hm:R.M Q txt' G.k rr O_ a L s' w'):QZ R G Q txt' K' X rr O_ a L s' w':=by
 have hd:=h.Vo
 exact⟨h.g.Z8 hk (λb e=>(hS b e).imp id λhb=>⟨h.xr b hb,h.ne b hb⟩) hP O O hK (λy h1 h2=>hy y (.inl (by omega))),hm,h.xr,h.ro,h.ne,h.Vo,h.n⟩
theorem QZ.set (h:QZ R G Q txt K X rr O_ a L s w)(hk:Kp S' w w')(hS:∀b,S' b->O_ b)(hm:R.M Q txt G.k rr O_ a L s' w'):QZ R G Q txt K X rr O_ a L s' w':=
 ⟨h.g.own hk (λj e=>⟨h.xr j (hS j e),h.ne j (hS j e)⟩),hm,h.xr,h.ro,h.ne,h.Vo,h.n⟩
theorem QZ.list (h:QZ R G Q txt K X rr O_ a L s w)(hg:RQ G Q txt K Y w')(hk:Kp (λj=>¬X j) w w')(hXY:∀j,X j->Y j):QZ R G Q txt K Y rr O_ a L s w':=
 ⟨hg,R.kp h.m hk (λb hb e=>e (h.xr b hb)),λb hb=>hXY b (h.xr b hb),h.ro,h.ne,h.Vo,h.n⟩
end
def mW (p:Nat):Nat:=2^p / 8
theorem zcu {p:Nat}(hp:4<=p):mW p*8=2^p:=by
 unfold mW
 rw[show p=(p-3)+3 by omega,Nat.pow_add]
 omega
theorem z1h {p:Nat}(hp:4<=p/\p<=16):2<=mW p/\mW p<=8192:=by
 have h1:2^4<=2^p:=Nat.pow_le_pow_right (by decide) hp.1
 have h2:2^p<=2^16:=Nat.pow_le_pow_right (by decide) hp.2
 unfold mW
 omega
def blC (s:RR)(k vn vx vs:Nat):List Value:=[I (s.t:Int),.bool s.done,ptr k 0,I (s.p:Int),I (s.rounds:Int),ptr vn 0,ptr vx 0,ptr vs 0,.bool false]
structure Zs (Q:Qz)(txt:Int->NY)(k rr:Nat)(O_:Nat->Prop)(a L:Nat)(s:RR)(ys:List Nat)(vn vx vs an ax:Nat)(w:World):Prop where
 o:O_ rr/\O_ vn/\O_ vx/\O_ vs
 ne:rr≠vn/\rr≠vx/\rr≠vs/\vn≠vx/\vn≠vs/\vx≠vs
 run:O9 w rr (blC s k vn vx vs) 100
 now:SS Q txt vn 8 an (Uz (mW s.p) s.sk) w
 next:SS Q txt vx 8 ax ys w
 PF:SS Q txt vs 8 (a+2*QD (s.sk.length*mW s.p) 64) s.PF w
 yl:ys.length=s.sk.length*mW s.p
 at_:(an=a/\ax=a+QD (s.sk.length*mW s.p) 64)\/(an=a+QD (s.sk.length*mW s.p) 64/\ax=a)
 L:L=2*QD (s.sk.length*mW s.p) 64+QD s.PF.length 64
section
variable {w w':World}{Q Q':Qz}{txt txt':Int->NY}{k rr a L vn vx vs an ax:Nat}{s s':RR}{ys ys':List Nat}{O_ S:Nat->Prop}
theorem Zs.wl (h:Zs Q txt k rr O_ a L s ys vn vx vs an ax w):(Uz (mW s.p) s.sk).length=s.sk.length*mW s.p:=S7 _ _
theorem Zs.kp (h:Zs Q txt k rr O_ a L s ys vn vx vs an ax w)(hk:Kp S w w')(hS:∀b,O_ b->¬S b):Zs Q txt k rr O_ a L s ys vn vx vs an ax w':=
 ⟨h.o,h.ne,hk.NX h.run (hS _ h.o.1),h.now.kp hk (hS _ h.o.2.1),h.next.kp hk (hS _ h.o.2.2.1),h.PF.kp hk (hS _ h.o.2.2.2),h.yl,h.at_,h.L⟩
theorem Zs.QX (h:Zs Q txt k rr O_ a L s ys vn vx vs an ax w)(e:∀y:Int,(a:Int)<=y->y<(a:Int)+(L:Int)->txt' y=txt y):Zs Q txt' k rr O_ a L s ys vn vx vs an ax w:=by
 have h1:=h.L
 have h2:=h.at_
 have h3:=h.wl
 have h4:=h.yl
 refine⟨h.o,h.ne,h.run,h.now.QX λy e1 e2=>?_,h.next.QX λy e1 e2=>?_,h.PF.QX λy e1 e2=>?_,h.yl,h.at_,h.L⟩
 ·rw[h3,show 512 / 8=64 from rfl] at e2;exact e y (by omega) (by omega)
 ·rw[h4,show 512 / 8=64 from rfl] at e2;exact e y (by omega) (by omega)
 ·rw[show 512 / 8=64 from rfl] at e2;exact e y (by omega) (by omega)
theorem Zs.q (h:Zs Q txt k rr O_ a L s ys vn vx vs an ax w)(hs:Q'.s=Q.s)(hl:Q'.L.length=Q.L.length):Zs Q' txt k rr O_ a L s ys vn vx vs an ax w:=
 ⟨h.o,h.ne,h.run,h.now.q hs hl,h.next.q hs hl,h.PF.q hs hl,h.yl,h.at_,h.L⟩
theorem Zs.zhw (h:Zs Q txt k rr O_ a L s ys vn vx vs an ax w)(hk:Kp S w w')(hS:∀b,O_ b->¬S b)(hv:SS Q txt' vx 8 ax ys' w')(hl:ys'.length=ys.length)(ht:∀y:Int,y<(ax:Int)\/(ax:Int)+(QD ys'.length 64:Int)<=y->txt' y=txt y):Zs Q txt' k rr O_ a L s ys' vn vx vs an ax w':=by
 have h1:=h.L
 have h2:=h.at_
 have h3:=h.wl
 have h4:=h.yl
 have h5:=h.kp hk hS
 rw[hl,h4] at ht
 refine⟨h.o,h.ne,h5.run,h5.now.QX λy e1 e2=>ht y ?_,hv,h5.PF.QX λy e1 e2=>ht y ?_,by rw[hl];exact h4,h.at_,h.L⟩
 ·rw[h3,show 512 / 8=64 from rfl] at e2;omega
 ·omega
theorem Zs.zia {xs':List Nat}(h:Zs Q txt k rr O_ a L s ys vn vx vs an ax w)(hk:Kp S w w')(hS:∀b,O_ b->¬S b)(hv:SS Q txt' vs 8 (a+2*QD (s.sk.length*mW s.p) 64) xs' w')(hl:xs'.length=s.PF.length)(ht:∀y:Int,y<((a+2*QD (s.sk.length*mW s.p) 64:Nat):Int)\/((a+2*QD (s.sk.length*mW s.p) 64:Nat):Int)+(QD xs'.length 64:Int)<=y->txt' y=txt y):Zs Q txt' k rr O_ a L {s with PF:=xs'} ys vn vx vs an ax w':=by
 have h1:=h.L
 have h2:=h.at_
 have h3:=h.wl
 have h4:=h.yl
 have h5:=h.kp hk hS
 rw[hl] at ht
 refine⟨h.o,h.ne,h5.run,h5.now.QX λy e1 e2=>ht y ?_,h5.next.QX λy e1 e2=>ht y ?_,hv,h4,h.at_,by show L=_+QD xs'.length 64;rw[hl];exact h.L⟩
 ·rw[h3,show 512 / 8=64 from rfl] at e2;omega
 ·rw[h4,show 512 / 8=64 from rfl] at e2;omega
theorem Zs.zk3 {sk':List NY}(h:Zs Q txt k rr O_ a L s ys vn vx vs an ax w)(hk:Kp S w w')(hS:∀b,O_ b->¬S b)(hv:SS Q txt' vn 8 an (Uz (mW s.p) sk') w')(hl:sk'.length=s.sk.length)(ht:∀y:Int,y<(an:Int)\/(an:Int)+(QD (Uz (mW s.p) sk').length 64:Int)<=y->txt' y=txt y):Zs Q txt' k rr O_ a L {s with sk:=sk'} ys vn vx vs an ax w':=by
 have h1:=h.L
 have h2:=h.at_
 have h3:=h.wl
 have h4:=h.yl
 have h5:=h.kp hk hS
 rw[S7,hl] at ht
 have h6:SS Q txt' vs 8 (a+2*QD (s.sk.length*mW s.p) 64) s.PF w':=h5.PF.QX λy e1 e2=>ht y (by omega)
 refine⟨h.o,h.ne,h5.run,hv,h5.next.QX λy e1 e2=>ht y ?_,by show SS Q txt' vs 8 (a+2*QD (sk'.length*mW s.p) 64) s.PF w';rw[hl];exact h6,by show ys.length=sk'.length*mW s.p;rw[hl];exact h4,by show _/\ax=a+QD (sk'.length*mW s.p) 64\/an=a+QD (sk'.length*mW s.p) 64/\_;rw[hl];exact h.at_,by show L=2*QD (sk'.length*mW s.p) 64+_;rw[hl];exact h.L⟩
 rw[h4,show 512 / 8=64 from rfl] at e2
 omega
end
def TQ:RuK (RR×List Nat) where
 M Q txt k rr O_ a L y w:=∃vn vx vs an ax,Zs Q txt k rr O_ a L y.1 y.2 vn vx vs an ax w
 tm y:=y.1.t
 c0:=3000
 c1:=2000
 kp:=λ⟨vn,vx,vs,an,ax,h⟩ hk hS=>⟨vn,vx,vs,an,ax,h.kp hk hS⟩
 QX:=λ⟨vn,vx,vs,an,ax,h⟩ e=>⟨vn,vx,vs,an,ax,h.QX e⟩
 q:=λ⟨vn,vx,vs,an,ax,h⟩ hs hl=>⟨vn,vx,vs,an,ax,h.q hs hl⟩
section
variable {G:GwP}{w w':World}{Q:Qz}{txt:Int->NY}{K:Nat}{X O_:Nat->Prop}{rr a L:Nat}{s:RR}{ys:List Nat}
theorem QZ.bl (h:QZ TQ G Q txt K X rr O_ a L (s,ys) w):∃vn vx vs an ax,Zs Q txt G.k rr O_ a L s ys vn vx vs an ax w:=h.m
end
section
variable {G:GwP}{w w':World}{Q Q':Qz}{txt txt':Int->NY}{K K':Nat}{X Y S' O_:Nat->Prop}{rr a L vb sv:Nat}{s s':RR}{ys:List Nat}
theorem z9t (s:NY)(h8:s.length<=8)(w:World):Oy prog 53 [S s] w λv w'=>v=u64v (OK (On s))/\Ext w w':=by
 refine NP (e:=[(0,_)]) func53 O ntmps53 O O$ qN O$ Oc O$ qM O$ NZ O$ py$ qN O$ NT O$ O5 O O (z5t U9 Pc U5 O) ?_
 rintro _ w3 ⟨b7,c7,rest,rfl,⟨jQ,ah,au⟩,AU⟩
 refine Qx Pc O$ NT O$ NU$ NQ$ Qm (α:=Nat) (0) (λi=>[(3,u64v (OK (On (s.take i)))),(7,.slice (some ⟨b7,0,none⟩) s.length c7),(8,I (s.length:Int)),(9,I (i:Int))]) (λi w'=>w'=w3/\i<=s.length) (λi=>s.length-i) ?hI ?hround
 case hI=>exact⟨rfl,Nat.zero_le _⟩
 case hround=>
  rintro i w4 ⟨rfl,hi⟩ ih
  try dsimp only
  refine qN O$ Py O O$ NU$ py$ O8 O (λh0=>?_)$ λh0=>?_
  ·obtain⟨c,hc⟩:∃c,s[i]? =some c:=⟨_,List.getElem?_eq_getElem (by omega)⟩;have cQ:=c.toNat_lt;have eT:=Xu hc
   have aZ:OK (On (s.take i))<72057594037927936:=by
    have h1:=Q8 (On (s.take i));rw[bitsT_length,List.length_take] at h1;have h2:2^(8*min i s.length)<=2^56:=Nat.pow_le_pow_right (by decide) (by omega);omega
   have aW:w4.cell? ⟨b7,0+i*1,none⟩=some (Rb c):=by
    rw[au.cell,Nat.zero_add,Nat.mul_one,List.getElem?_append_left (by rw[List.length_map];omega),List.getElem?_map,hc];rfl
   refine An$ py$ NQ$ qN O$ qV (P7 Pc Us O O (by omega))$ qV (OC U5 O O aW) ?_
   generalize OK (On (s.take i))=q at eT aZ
   refine NZ O$ NW O$ NT O$ qV (PX 8 256 O O (by decide) O)$ NT O$ qV ((z1a O U5 Qy (by decide)))$ qV (Yf O O (by omega) (by omega)) ?_
   have mm:(q*256%18446744073709551616 |||c.toNat)=OK (On (s.take (i+1))):=by
    rw[eT,Nat.mod_eq_of_lt (by omega),Nat.mul_comm q];exact(Nat.two_pow_add_eq_or_of_lt (i:=8) cQ q).symm
   rw[mm];refine NZ O$ NS$ NW O$ P6 O O$ NT O$ NU ?_;exact(ih (i+1) _ ⟨rfl,by omega⟩ (by omega)).qb
  ·have bX:i=s.length:=by omega
   subst bX;rw[List.take_length];refine O4 O$ qN O$ NT O$ NZ O$ NV func53 O ?_;exact⟨_,rfl,rfl,ah⟩
theorem z6g {width:Nat}{xs:List Nat}(hv:SS Q txt vb width sv xs w){i:Int}(hi:i<0\/(xs.length:Int)<=i):Oy prog 48 [ptr vb 0,I i] w λv w'=>v= .tuple #[u64v 0,I 1]/\w'=w:=by
 have hB:=hv.cells
 refine NP (e:=[(0,_),(1,_)]) func48 O ntmps48 O O$ qN O$ Oc O$ NZ O$ py$ qN O$ NT O$ Om zaM O (T3 hv) ?_
 rintro _ w ⟨rfl,rfl⟩
 refine Oc O$ qM O$ NT O$ Pz O O ?_
 by_cases h0:i<0
 ·refine NU$ It O$ An$ py$ qN O$ NT O$ Py O O$ Qs$ NT O$ qS$ qS$ qS$ qS$ qS ?_;refine qS$ qS$ PT O O$ NU$ Oa O$ qN O$ Oc O$ NZ O$ NV func48 O ?_;exact⟨_,rfl,rfl,rfl⟩
 ·have h1:(xs.length:Int)<=i:=hi.resolve_left h0;refine NU$ It O$ An$ py$ qN O$ NT O$ Py O O$ OR$ Od O O$ NT O$ OH O$ Og R6 O$ Og Zj O$ qV (O6 U3 O O hB O) ?_;refine SB O O$ Qs$ OU O O$ NU$ Oa O$ qN O$ Oc O$ NZ O$ NV func48 O ?_;exact⟨_,rfl,rfl,rfl⟩
theorem QZ.cells (h:QZ TQ G Q txt K X rr O_ a L (s,ys) w):∃vn vx vs,O9 w rr [I (s.t:Int),.bool s.done,ptr G.k 0,I (s.p:Int),I (s.rounds:Int),ptr vn 0,ptr vx 0,ptr vs 0,.bool false] 100:=by
 obtain⟨vn,vx,vs,an,ax,V⟩:=h.bl
 exact⟨vn,vx,vs,V.run⟩
theorem Vy (h:QZ TQ G Q txt K X rr O_ a L (s,ys) w):Oy prog 43 [ptr rr 0] w λv w'=>v=I 0/\w'=w:=by
 obtain⟨vn,vx,vs,hB⟩:=h.cells
 refine NP (e:=[(0,_)]) func43 O ntmps43 O O$ qN O$ NZ O$ py$ NQ$ qN O$ NT O$ qV (Pt U35 O O)$ NZ O$ It O$ qN O$ NT O$ OH O$ Og z6S O ?_
 refine qV (O6 U4 O O hB O)$ NZ O$ It O$ An$ NS$ qN O$ NZ O$ NV func43 O ?_
 exact⟨_,rfl,rfl,rfl⟩
theorem z3P (h:QZ TQ G Q txt K X rr O_ a L (s,ys) w):Oy prog 22 [ptr rr 0] w λv w'=>v=I (s.t:Int)/\w'=w:=by
 obtain⟨vn,vx,vs,hB⟩:=h.cells
 refine NP (e:=[(0,_)]) func22 O ntmps22 O O$ qN O$ NZ O$ py$ qN O$ NT O$ qV (Pt U35 O O)$ NU$ It O$ An$ qN O$ NT O$ OH O$ Og SY O ?_
 refine Og z0E O$ qV (O6 U3 O O hB O)$ NZ O$ NV func22 O ?_
 exact⟨_,rfl,rfl,rfl⟩
theorem z1d (sum was now r:Nat)(h1:sum<18446744073709551616)(h2:was<18446744073709551616)(h3:now<18446744073709551616)(hr:1<=r/\r<=1000000)(w:World):Oy prog 124 [u64v sum,u64v was,u64v now,I (r:Int)] w λv w'=>v=u64v (z3J sum was now r)/\w'=w:=by
 have he:z3J sum was now r=if now<=was then sum else min (sum+min (now-was) 2147483647*4294967296 / r) 18446744073709551615:=rfl
 refine NP (e:=[(0,_),(1,_),(2,_),(3,_)]) func124 O ntmps124 O O$ qN O$ NZ O$ py$ qN O$ Od O O ?_
 by_cases hc:now<=was
 ·rw[if_pos hc] at he;refine zle O O$ Qs$ NU$ Oa O$ qN O$ NT O$ NZ O$ NV func124 O ?_;rw[he];exact⟨_,rfl,rfl,rfl⟩
 ·rw[if_neg hc] at he;refine zle O O$ OR$ NU$ It O$ An$ qN O$ Od O O$ qV (UB (k:= .u64) (m:=now) (n:=was) O O O (by show now<2^64;omega) (by omega)) ?_;refine qV (zkb O O) ?_;rw[show min ((now-was:Nat):Int) 2147483647=((min (now-was) 2147483647:Nat):Int) by omega];have Fk:=Nat.min_le_right (now-was) 2147483647
  generalize min (now-was) 2147483647=q at he Fk
  refine qV (PX 32 4294967296 O O (by decide) O)$ NT O ?_;rw[Nat.mod_eq_of_lt (show q*4294967296<18446744073709551616 by omega)];refine qV ((Pf O U3 Qy (by omega)))$ qV (z7V O O O (by simp only[IntKind.bits];omega) (by omega)) ?_;have jA:=Nat.div_le_self (q*4294967296) r
  generalize q*4294967296 / r=more at he jA
  refine NZ O$ py$ qN O$ Od O O$ qV (UB (k:= .u64) (m:=18446744073709551615) (n:=sum) O O O (by decide) (by omega)) ?_;by_cases hb:18446744073709551615-sum<more
  ·rw[Nat.min_eq_right (by omega)] at he;refine PD O O$ Qs$ NU$ Oa O$ qN O$ NZ O$ NV func124 O ?_;rw[he];exact⟨_,rfl,rfl,rfl⟩
  ·rw[Nat.min_eq_left (by omega)] at he;refine PD O O$ OR$ NU$ It O$ An$ qN O$ Od O O$ qV (QP O O) ?_;rw[Nat.mod_eq_of_lt (show sum+more<18446744073709551616 by omega)];refine NZ O$ NV func124 O ?_;rw[he];exact⟨_,rfl,rfl,rfl⟩
end
section
variable {G:GwP}{w w' w1 w2:World}{Q Q':Qz}{txt txt':Int->NY}{K K':Nat}{X Y Z S' O_:Nat->Prop}{rr a L vb sv:Nat}{s s':RR}{ys xs zs:List Nat}
theorem VcW.kpX {width st:Nat}(h:VcW Q txt K X vb width st ys w w'):Kp (λb=>¬X b) w w':=by
 obtain⟨txt',-,-,-,hk⟩:=h
 exact hk
theorem z1O {width n i:Nat}{t:NY}(hi:i<n):(SE width n t)[i]? =some (OK (On ((t.drop (i*width)).take width))):=by
 unfold SE
 rw[List.getElem?_map,List.getElem?_range hi];rfl
theorem z1y {cs:List Value}{p v:Nat}{x:NY}(hP:Sp Q txt K X w)(hX:∀b,X b->b<w.heap.size)(hK:K<=900000000000)(hp:4<=p/\p<=16)(hB:O9 w rr [cs.getD 0 (I 0),cs.getD 1 (I 0),cs.getD 2 (I 0),I (p:Int),cs.getD 3 (I 0),cs.getD 4 (I 0),cs.getD 5 (I 0),cs.getD 6 (I 0),cs.getD 7 (I 0)] 100)(hr:X rr)(hv:SS Q txt vb 8 sv xs w)(eI:X vb)(hx:x.length=2^p)(qk:v*mW p+mW p<=xs.length):Oy prog 79 [ptr rr 0,ptr vb 0,I (v:Int),S x] w λr w'=>r=I 0/\VcW Q txt (K+mW p) X vb 8 sv (Za (mW p) xs v x) w w':=by
 have mw:=zcu hp.1
 have mJ:=z1h hp
 have hN:2^p<=2^16:=Nat.pow_le_pow_right (by decide) hp.2
 have dP:=hv.n
 have oR:v<=4194304:=by
  have:v*1<=v*mW p:=Nat.mul_le_mul_left _ (by omega);omega
 have vN:v*2^p=v*mW p*8:=by rw[<-mw,Nat.mul_assoc]
 refine NP (e:=[(0,_),(1,_),(2,_),(3,_)]) func79 O ntmps79 O O$ qN O$ Oc O$ qM O$ Od O O$ OH O$ Og Zd O$ qV (O6 U3 O O hB O)$ qV (ysl p (2^p) O O (by omega) O (by omega)) ?_
 rw[vN]
 refine qV (UH O O (by omega)) ?_
 rw[show((v*mW p*8:Nat):Int) / 8=((v*mW p:Nat):Int) by omega]
 generalize mW p=m at mw mJ qk vN
 rw[<-mw] at hx hN
 refine NZ O$ py$ qN O$ NZ O$ NQ$ Qm (α:=Nat) (0) (λj=>[(0,ptr rr 0),(1,ptr vb 0),(3,S x),(9,I ((v*m:Nat):Int)),(10,I ((8*j:Nat):Int))]) (λj w'=>j<=m/\VcW Q txt (K+j) X vb 8 sv (xs.take (v*m)++(SE 8 m x).take j++xs.drop (v*m+j)) w w') (λj=>m-j) ?hI ?hround
 case hI=>exact⟨Nat.zero_le _,⟨txt,hP,by rw[List.take_zero,List.append_nil,Nat.add_zero,List.take_append_drop];exact hv,λ_ _=>rfl,Kp.refl _ _⟩⟩
 case hround=>
  rintro j w1 ⟨hj,hW⟩ ih
  try dsimp only
  refine py$ qN O$ Od O O$ qV (Sr U9 O)$ Py O O$ NU$ O8 O (λh0=>?_)$ λh0=>?_
  ·have FY:j<m:=by omega
   have je:=λw=>z9t ((x.drop (8*j)).take 8) (by rw[List.length_take];omega) w;have iL:=z1O (width:=8) (n:=m) (t:=x) FY;rw[Nat.mul_comm j 8] at iL
   have aF:(xs.take (v*m)++(SE 8 m x).take j++xs.drop (v*m+j)).length=xs.length:=by
    rw[List.length_append,List.length_append,List.length_take,List.length_take,Q7,List.length_drop];omega
   have nh:OK (On ((x.drop (8*j)).take 8))<2^(8*8):=by
    have h1:=Q8 (On ((x.drop (8*j)).take 8));rw[bitsT_length,List.length_take,List.length_drop] at h1;refine Nat.lt_of_lt_of_le h1$ Nat.pow_le_pow_right (by decide)$ by omega
   generalize OK (On ((x.drop (8*j)).take 8))=q at je iL nh
   have dJ:(xs.take (v*m)++(SE 8 m x).take j++xs.drop (v*m+j)).set (v*m+j) q=xs.take (v*m)++(SE 8 m x).take (j+1)++xs.drop (v*m+(j+1)):=by
    have e1:(xs.take (v*m)++(SE 8 m x).take j).length=v*m+j:=by rw[List.length_append,List.length_take,List.length_take,Q7];omega
    rw[List.set_append,if_neg (by omega),e1,Nat.sub_self];have e2:(SE 8 m x).take (j+1)=(SE 8 m x).take j++[q]:=by rw[List.take_add_one,iL];rfl
    rw[e2];obtain⟨y,hy⟩:∃y,xs[v*m+j]? =some y:=⟨_,List.getElem?_eq_getElem (by omega)⟩
    have e3:xs.drop (v*m+j)=y::xs.drop (v*m+(j+1)):=by
     rw[<-List.getElem_cons_drop (show v*m+j<xs.length by omega),<-Nat.add_assoc];rw[List.getElem?_eq_getElem (by omega)] at hy;cases hy;rfl
    rw[e3,List.set_cons_zero];simp
   have xP:=hW;obtain⟨txt1,jJ,eZ,nF,aK⟩:=xP;refine An$ py$ NQ$ qN O$ Od O O$ NT O$ qV (UH O O (by omega)) ?_;rw[show((8*j:Nat):Int) / 8=(j:Int) by omega];refine P6 O O$ Od O O$ NT O$ P6 O O ?_;rw[show((v*m:Nat):Int)+(j:Int)=((v*m+j:Nat):Int) by omega,show((8*j:Nat):Int)+8=((8*j+8:Nat):Int) by omega];refine qV (zfF (m:=8*j) (n:=8*j+8) U9 O O O (by omega)) ?_;rw[show 8*j+8-8*j=8 by omega];refine Om zkc O (je _) ?_;rintro _ w2 ⟨rfl,ae⟩;have z1:=aK.size;refine Om zdT O (z1v (jJ.ext' ae) (λb hb=>by have:=hX b hb;have:=ae.size;omega) (by omega) (eZ.ext ae) eI (i:=v*m+j) (x:=q) (by rw[aF];omega) nh) ?_;rintro _ w3 ⟨rfl,kk⟩;rw[dJ] at kk;refine Oc O$ qM O$ NT O$ Pz O O$ NU$ It O$ An$ NS$ NW O$ NT O$ P6 O O$ NZ O ?_;rw[show((8*j:Nat):Int)+8=((8*(j+1):Nat):Int) by omega];refine(ih (j+1) _ ⟨by omega,?_⟩ (by omega)).qb;obtain⟨t3,p3,m3,y3,k3⟩:=kk
   have j4:(xs.take (v*m)++(SE 8 m x).take (j+1)++xs.drop (v*m+(j+1))).length=xs.length:=by
    rw[<-dJ,List.length_set,aF]
   refine⟨t3,p3,m3,λy hy=>?_,(aK.trans ae.kp).trans k3⟩;rw[y3 y hy,nF y (by rw[aF,<-j4];exact hy)]
  ·have FY:j=m:=by omega
   subst FY;rw[List.take_of_length_le (l:=SE 8 j x) (by rw[Q7];exact Nat.le_refl _)] at hW;refine O4 O$ qN O$ NZ O$ NV func79 O ?_;exact⟨_,rfl,rfl,hW⟩
end
section
variable {G:GwP}{w w' w1 w2:World}{Q Q':Qz}{txt txt':Int->NY}{K K':Nat}{X Y Z S' O_:Nat->Prop}{rr a L vb sv:Nat}{s s':RR}{ys xs zs:List Nat}
theorem QZ.append {σ:Type}{R:RuK σ}{s:σ}{v v':Value}(h:QZ R G Q txt K Z rr O_ a L s w)(Iz:∀b,v.ownBlock=some b->Z b)(dP:∀b,v.ownBlock=some b->b≠G.k/\b≠G.x/\b≠2/\b≠3/\¬O_ b)(hx:Ext w w1)(hk:Kp (λb=>v.ownBlock=some b) w1 w2)(hf:∀b,v'.ownBlock=some b->v.ownBlock=some b\/w1.heap.size<=b)(hl:∀b,v'.ownBlock=some b->b<w2.heap.size):QZ R G Q txt K (λb=>Z b\/v'.ownBlock=some b) rr O_ a L s w2:=by
 have z1:=hx.size
 have h1:=h.grow hx (Y:=λb=>Z b\/v'.ownBlock=some b/\b<w1.heap.size) (λj hj=>by
  rcases hj with e|⟨e,e2⟩
  ·exact .inl e
  ·rcases hf j e with e3|e3
   ·exact .inl (Iz j e3)
   ·omega) (λj e=> .inl e)
 exact h1.step hk (λj e=>⟨.inl (Iz j e),dP j e⟩) (λj e=>e.imp id And.left) (λj e=>by
  rcases e with e| e
  ·exact .inl (.inl e)
  ·rcases Nat.lt_or_ge j w1.heap.size with h| h
   ·exact .inl (.inr ⟨e,h⟩)
   ·exact .inr ⟨h,hl j e⟩)
theorem zat {n k:Nat}(hk:k<8):(To 8 n)[k]? =some (UInt8.ofNat (n / 2^(56-8*k))):=by
 unfold To
 rw[List.getElem?_map,List.getElem?_range hk]
 show some (UInt8.ofNat (n / 2^(8*(8-1-k))))=_
 rw[show 8*(8-1-k)=56-8*k by omega]
theorem WN (h:QZ TQ G Q txt K X rr O_ a L (s,ys) w)(hI:BlI G.g s){v:Nat}(hv:v<G.g.length):Oy prog 47 [ptr rr 0,I (v:Int)] w λr w'=>r= .tuple #[S (s.sk.getD v []),I 0]/\QZ TQ G Q txt K X rr O_ a L (s,ys) w'/\Kp (λb=>¬(X b\/b=G.rb)) w w':=by
 have dF:maxLen=9223372036854775807:=rfl
 have mw:=zcu hI.p4
 have mJ:=z1h ⟨hI.p4,hI.p16⟩
 have hN:2^s.p<=2^16:=Nat.pow_le_pow_right (by decide) hI.p16
 have DD:=hI.p16
 obtain⟨x,hx,Me,jw⟩:=hI.sk hv
 have eR:=jw.1
 have iQ:=h.n
 obtain⟨vn,vx,vs,an,ax,V⟩:=h.bl
 have hB:O9 w rr [I (s.t:Int),.bool s.done,ptr G.k 0,I (s.p:Int),I (s.rounds:Int),ptr vn 0,ptr vx 0,ptr vs 0,.bool false] 100:=V.run
 have vN:v*2^s.p=v*mW s.p*8:=by rw[<-mw,Nat.mul_assoc]
 have pX:v*mW s.p<=40*8192:=Nat.mul_le_mul (by omega) mJ.2
 rw[Me]
 have qA:=h.lts
 have mu:=qA.1 rr V.o.1
 refine NP (e:=[(0,_),(1,_)]) func47 O ntmps47 O O$ qN O$ Oc O$ Oc O$ qM O$ Oc O$ qM O$ Od O O$ OH O$ Og Zd O$ qV (O6 U3 O O hB O)$ qV (ysl s.p (2^s.p) O O (by omega) O (by omega)) ?_
 rw[vN]
 refine qV (UH O O (by omega)) ?_
 rw[show((v*mW s.p*8:Nat):Int) / 8=((v*mW s.p:Nat):Int) by omega]
 refine NZ O$ py$ qN O$ NT O$ OH O$ Og Zd O$ qV (O6 U3 O O hB O)$ qV (ysl s.p (2^s.p) O O (by omega) O (by omega)) ?_
 rw[Nat.one_mul,<-mw]
 refine qV (UH O O (by omega)) ?_
 rw[show((mW s.p*8:Nat):Int) / 8=((mW s.p:Nat):Int) by omega]
 rw[<-mw] at eR
 refine NT O$ NU$ NQ$ Qm (α:=Nat×Value) ((0,.slice none 0 0)) (λy=>[(0,ptr rr 0),(6,y.2),(7,I ((v*mW s.p:Nat):Int)),(24,I (mW s.p:Int)),(25,I (y.1:Int))]) (λy w'=>y.1<=mW s.p/\Sl w' y.2 5 1 (8*y.1) ((x.take (8*y.1)).map Rb)/\(∀b,y.2.ownBlock=some b->w.heap.size<=b)/\(∃Z:Nat->Prop,(∀b,X b->Z b)/\(∀b,y.2.ownBlock=some b->Z b)/\QZ TQ G Q txt K Z rr O_ a L (s,ys) w')/\Kp (λb=>¬(X b\/b=G.rb)) w w') (λy=>mW s.p-y.1) ?hI ?hround
 case hI=>exact⟨Nat.zero_le _,by simpa using Sl.nil _ _ _,λb hb=>(by cases hb),⟨X,λ_ e=>e,λb hb=>(by cases hb),h⟩,Kp.refl _ _⟩
 case hround =>
  rintro⟨i,u⟩ w3 ⟨hi,cj,fS,⟨Z,FZ,G0,h3⟩,aw⟩ ih;dsimp only at hi cj fS G0 ih⊢
  try dsimp only
  refine qN O$ Py O O$ NU$ py$ O8 O (λh0=>?_)$ λh0=>?_
  ·have G4:i<mW s.p:=by omega
   obtain⟨vn3,vx3,vs3,an3,ax3,V3⟩:=h3.bl;have au:O9 w3 rr [I (s.t:Int),.bool s.done,ptr G.k 0,I (s.p:Int),I (s.rounds:Int),ptr vn3 0,ptr vx3 0,ptr vs3 0,.bool false] 100:=V3.run;have iL:=z6W (m:=mW s.p) hx G4;have ib:=z7p ((x.drop (i*8)).take 8);rw[show((x.drop (i*8)).take 8).length=8 by rw[List.length_take,List.length_drop];omega] at ib
   generalize hq:OK (On ((x.drop (i*8)).take 8))=q at iL ib
   have Mf:=(V3.now.zi4 iL).2;have kE:=Yn h3.g.sp h3.g.lt1 h3.g.z9m V3.now (.inl (h3.xr _ V3.o.2.1)) iL;refine An$ py$ NQ$ qN O$ NT O$ Oc O$ qM O$ NT O$ OH O$ Og TW O$ qV (O6 U98 O O au O)$ Od O O$ P6 O O ?_;rw[show((v*mW s.p:Nat):Int)+(i:Int)=((v*mW s.p+i:Nat):Int) by omega];refine Om zbV O (kE) ?_;rintro _ w4 ⟨rfl,iW,ao⟩;have h4:=h3.read ao iW;have dl:=cj.kp ao (λb hb e=>e (.inl (G0 b hb)));have fk:Kp (λb=>¬(X b\/b=G.rb)) w w4:=aw.trans (ao.Of λb e e2=>e (e2.imp (FZ b) id));have z3:=aw.size;have z4:=ao.size;refine NT O$ P9 O O$ P9 O O$ Oc O$ NZ O$ py$ qN O$ NT O$ Pz O O$ NU$ It O$ An$ qN O$ NT O ?_;refine NU$ NQ$ Qm (α:=Nat×Value) ((0,u)) (λy=>[(0,ptr rr 0),(6,y.2),(7,I ((v*mW s.p:Nat):Int)),(9,u64v q),(24,I (mW s.p:Int)),(25,I (i:Int)),(42,I (y.1:Int))]) (λy w'=>y.1<=8/\Sl w' y.2 5 1 (8*i+y.1) ((x.take (8*i)++(To 8 q).take y.1).map Rb)/\(∀b,y.2.ownBlock=some b->w.heap.size<=b)/\(∃Z:Nat->Prop,(∀b,X b->Z b)/\(∀b,y.2.ownBlock=some b->Z b)/\QZ TQ G Q txt K Z rr O_ a L (s,ys) w')/\Kp (λb=>¬(X b\/b=G.rb)) w w') (λy=>8-y.1) ?hI ?hround
   case hI=>exact⟨Nat.zero_le _,by rw[List.take_zero,List.append_nil];exact dl,fS,⟨Z,FZ,G0,h4⟩,fk⟩
   case hround=>
    rintro⟨k,u2⟩ w5 ⟨hk,dH,tp,⟨Z5,A1,uC,h5⟩,ak⟩ ih2;dsimp only at hk dH tp uC ih2⊢
    try dsimp only
    refine qN O$ Py O O$ NU$ py$ O8 O (λh1=>?_)$ λh1=>?_
    ·have aS:k<8:=by omega
     refine An$ py$ NQ$ qN O$ NT O$ NZ O$ NW O$ Od O O$ NT O$ qV (Xa O O (by omega))$ Qp O O ?_;rw[show(56:Int)-8*(k:Int)=((56-8*k:Nat):Int) by omega];refine qV (R9 (56-8*k) (2^(56-8*k)) O O (by show 56-8*k<=64;omega) O) ?_;refine qV (z3c O Qy U5)$ O5 O O (Vl (cs:=[_]) (zs:=[Value.int .u8 0]) Pc Us O (by kernel_rfl) O O O (by decide)) ?_;rintro _ w6 ⟨b6,rfl,⟨jP,aH,aO⟩,ev⟩;refine O5 O O (pap Pc Us O (by decide) O O (dH.ext aH) ev.rd (by intro c hc;simp at hc;subst hc;rfl) (by omega) (by omega)) ?_;rintro u7 w7 ⟨gL,aD,lA,-⟩;have z5:=ak.size;have z6:=aH.size
     have tO:∀b,u2.ownBlock=some b->b≠G.k/\b≠G.x/\b≠2/\b≠3/\¬O_ b:=λb hb=>by
      have:=tp b hb;exact⟨by omega,by omega,by omega,by omega,λe=>by have:=qA.1 b e;omega⟩
     have h7:=h5.append uC tO aH aD lA (λb hb=>gL.lt hb);refine NZ O$ NS$ NW O$ P6 O O$ NT O$ NU ?_
     refine(ih2 (k+1,u7) _ ⟨by show k+1<=8;omega,?_,λb hb=>by
      rcases lA b hb with e| e
      ·exact tp b e
      ·omega,⟨_,λb e=> .inl (A1 b e),λb e=> .inr e,h7⟩,(ak.trans aH.kp).NR aD λb e=> .inl (tp b e)⟩ (by show 8-(k+1)<8-k;omega)).qb
     show Sl w7 u7 _ 1 (8*i+(k+1)) ((x.take (8*i)++(To 8 q).take (k+1)).map Rb);rw[List.take_add_one,zat aS,<-Nat.add_assoc,<-List.append_assoc,List.map_append];exact gL
    ·have aS:k=8:=by omega
     subst aS;rw[List.take_of_length_le (l:=To 8 q) (by rw[Ph];exact Nat.le_refl _),ib,Nat.mul_comm i 8] at dH
     have et:x.take (8*i)++(x.drop (8*i)).take 8=x.take (8*(i+1)):=by
      rw[show 8*(i+1)=8*i+8 by omega,List.take_add]
     rw[et] at dH;refine O4 O$ NS$ NW O$ P6 O O$ NT O$ NU ?_;exact(ih (i+1,u2) _ ⟨by show i+1<=mW s.p;omega,by show Sl w5 u2 _ 1 (8*(i+1)) _;rw[show 8*(i+1)=8*i+8 by omega] at dH⊢;exact dH,tp,⟨Z5,A1,uC,h5⟩,ak⟩ (by show mW s.p-(i+1)<mW s.p-i;omega)).qb
  ·have G4:i=mW s.p:=by omega
   subst G4;rw[List.take_of_length_le (by omega)] at cj;have Mg:=h3.less FZ h.g.xk h.xr;rcases cj.shape with⟨-,e⟩|⟨gb,cap,rfl,-⟩
   ·omega
   refine O4 O$ qN O$ NT O$ qV (zdR (l:=x) Pc U5 U9 O cj)$ Oc O$ NZ O$ NV func47 O ?_;exact⟨_,rfl,rfl,Mg,aw⟩
end
section
variable {G:GwP}{w w':World}{Q Q':Qz}{txt txt':Int->NY}{K K':Nat}{X Y S' O_:Nat->Prop}{rr a L:Nat}{s s':RR}{ys:List Nat}
structure GrI (G:GwP)(Q:Qz)(txt:Int->NY)(K:Nat)(X Y:Nat->Prop)(rr:Nat)(O_:Nat->Prop)(a L:Nat)(s:RR)(ys:List Nat)(br bs b6 b7:Nat)(w:World)(q:NY)(w':World):Prop where
 r:QZ TQ G Q txt K Y rr O_ a L (s,ys) w'
 br:O9 w' br [ptr rr 0] 35
 bs:O9 w' bs [S q] 9
 b6:O9 w' b6 [S []] 9
 b7:O9 w' b7 [I 0] 36
 k:Kp (λb=>¬X b) w w'
theorem GrI.own {br bs b6 b7:Nat}{q:NY}{w0:World}(h:GrI G Q txt K X Y rr O_ a L s ys br bs b6 b7 w0 q w)(hk:Kp S' w w')(hS:∀j,S' j->Y j/\j≠G.k/\j≠G.x/\j≠2/\j≠3/\¬O_ j/\j≠br/\j≠bs/\j≠b6/\j≠b7/\w0.heap.size<=j):GrI G Q txt K X Y rr O_ a L s ys br bs b6 b7 w0 q w':=
 ⟨h.r.own hk (λj e=>by
  obtain⟨a1,a2,a3,a4,a5,a6,-⟩:=hS j e
  exact⟨a1,a2,a3,a4,a5,a6⟩),hk.NX h.br (λe=>(hS _ e).2.2.2.2.2.2.1 O),hk.NX h.bs (λe=>(hS _ e).2.2.2.2.2.2.2.1 O),hk.NX h.b6 (λe=>(hS _ e).2.2.2.2.2.2.2.2.1 O),hk.NX h.b7 (λe=>(hS _ e).2.2.2.2.2.2.2.2.2.1 O),h.k.NR hk λj e=> .inl (hS j e).2.2.2.2.2.2.2.2.2.2⟩
theorem z4h {g:List (List Nat)}{s:RR}(h:BlI g s):∀(l:List Nat),(∀u∈l,u<g.length)->∀x,Sg s.p x->Sg s.p (l.foldl (λs' u=>PW s' (s.sk.getD u [])) x)
 |[],_,x,hx=>hx
 | u :: l, hl, x, hx => by
   obtain⟨y,-,e,hy⟩:=h.sk (hl u List.mem_cons_self);refine z4h h l (λa ha=>hl a (List.mem_cons_of_mem _ ha)) _ ?_;show Sg s.p (PW x (s.sk.getD u []));rw[e];exact hx.union hy
theorem z4p (h:QZ TQ G Q txt K X rr O_ a L (s,ys) w)(hI:BlI G.g s){v:Nat}(hv:v<G.g.length):Oy prog 122 [ptr rr 0,I (v:Int),S (s.sk.getD v [])] w λr w'=>r= .tuple #[S (QE G.g s.sk v),I 0]/\QZ TQ G Q txt K X rr O_ a L (s,ys) w'/\Kp (λb=>¬X b) w w':=by
 have iQ:=h.n
 have A3:=h.g.ok.gr
 have hp:=hI.p4
 have pn:=hI.p16
 obtain⟨x0,-,oY,gY⟩:=hI.sk hv
 rw[oY]
 have kE:QE G.g s.sk v=(Oh G.g v).foldl (λs' u=>PW s' (s.sk.getD u [])) x0:=by unfold QE;rw[oY]
 rw[kE]
 obtain⟨uD,A0,NF,Bo,NG⟩:=h.lts
 refine NP (e:=[(0,_),(1,_),(2,_)]) func122 O ntmps122 O O$ qN O$ O5 O O (Qr O (cs:=[ptr rr 0]) O) ?_
 rintro _ w1 ⟨br,rfl,D5,ad,A4⟩
 refine O5 O O (Qr O (cs:=[S x0]) O) ?_
 rintro _ w2 ⟨bs,rfl,tK,ae,i6⟩
 refine O5 O O (QU (cs:=[_]) ZF O) ?_
 rintro _ w3 ⟨b6,rfl,jP,ah,A7⟩
 refine O5 O O (QU (cs:=[_]) z1e O) ?_
 rintro _ w4 ⟨b7,rfl,jQ,az,fi⟩
 have bS:=((ad.trans ae).trans ah).trans az
 have qB:=az.NX (ah.NX (ae.NX A4))
 have eL:=az.NX (ah.NX i6)
 have jk:=az.NX A7
 replace jk:O9 w4 b6 [S []] 9:=jk
 have z1:=ad.size
 have z2:=ae.size
 have z3:=ah.size
 have z4:=az.size
 have l1:=A4.lt
 have l2:=i6.lt
 have l3:=A7.lt
 have l4:=fi.lt
 obtain⟨X0,uE⟩:∃X0:Nat->Prop,(λj=>X j\/j=br\/j=bs\/j=b6\/j=b7)=X0:=⟨_,rfl⟩
 have ey:∀j,X j->X0 j:=λj hj=>by rw[<-uE];exact .inl hj
 have aV:X0 br/\X0 bs/\X0 b6/\X0 b7:=by rw[<-uE];exact⟨.inr (.inl O),.inr (.inr (.inl O)),.inr (.inr (.inr (.inl O))),.inr (.inr (.inr (.inr O)))⟩
 have h4:QZ TQ G Q txt K X0 rr O_ a L (s,ys) w4:=h.grow bS (λj hj=>by rw[<-uE] at hj;exact hj.imp id λe=>by omega) ey
 obtain⟨vn,vx,vs,G5⟩:=h4.cells
 refine NU$ py$ qN O$ qV ((O6 U35 O O qB O))$ OH O$ Og Zc O$ qV ((O6 U30 O O G5 O))$ NT O$ Om zfu O (z5u G.k v _) ?_
 rintro _ w6 ⟨bk,bi,rfl,vC,Fl,gR,qt,aH⟩
 have z6:=aH.size
 refine NU$ NQ$ SW (ps:=[18,19]) (p:=[]) (q:=[_,_]) O zh8 ?_
 rintro l wl eR fJ cE hD Rc dy ff
 have zl:=eR.size
 have rV:=aH.trans eR
 obtain⟨X1,iH⟩:∃X1:Nat->Prop,(λj=>X0 j\/j=w6.heap.size\/j=l)=X1:=⟨_,rfl⟩
 have kF:∀j,X0 j->X1 j:=λj hj=>by rw[<-iH];exact .inl hj
 have ku:X1 l/\X1 w6.heap.size:=by rw[<-iH];exact⟨.inr (.inr O),.inr (.inl O)⟩
 have IA:QZ TQ G Q txt K X1 rr O_ a L (s,ys) wl:=h4.grow rV (λj hj=>by rw[<-iH] at hj;exact hj.imp id λe=>by omega) kF
 have uF:∀j,j=l\/j=w6.heap.size->j≠G.k/\j≠G.x/\j≠2/\j≠3/\¬O_ j/\j≠br/\j≠bs/\j≠b6/\j≠b7/\w.heap.size<=j:=λj hj=>⟨by omega,by omega,by omega,by omega,λe=>by have:=uD j e;omega,by omega,by omega,by omega,by omega,by omega⟩
 refine Oy.mono (z5w (by omega) hv IA.g (eR.NX vC) (eR.NX Fl) (λj=>j=l\/j=bs) (λj hj=>hj.elim (λe=>e▸ku.1) λe=>e▸kF _ aV.2.1)
  (λY i w'=>Rc .ready none w'/\GrI G Q txt K X Y rr O_ a L s ys br bs b6 b7 w (((Oh G.g v).take i).foldl (λs' u=>PW s' (s.sk.getD u [])) x0) w'/\w'.heap[w6.heap.size]? =some (.deferred (some [])))
  (λ_=>False) ?_ ?_) ?_
 ·intro Y w7 cI qu uz aD;have i7:Kp (λj=>¬X1 j) w4 w7:=rV.kp.trans aD;exact⟨aD.rc dy ff (λe=>e ku.1),⟨IA.list uz aD cI,i7.NX qB (λe=>e (kF _ aV.1)),i7.NX eL (λe=>e (kF _ aV.2.1)),i7.NX jk (λe=>e (kF _ aV.2.2.1)),i7.NX fi (λe=>e (kF _ aV.2.2.2)),bS.kp.trans (i7.Of λb e e2=>e (kF _ (ey b e2)))⟩,aD.heap hD (λe=>e ku.2)⟩
 ·rintro Y i u w7 cI qu hs ⟨IB,jF,Mh⟩;have eE:u<G.g.length:=QW A3 v u (List.mem_of_getElem? hs)
  have dR:((Oh G.g v).take (i+1)).foldl (λs' u=>PW s' (s.sk.getD u [])) x0=PW (((Oh G.g v).take i).foldl (λs' u=>PW s' (s.sk.getD u [])) x0) (s.sk.getD u []):=by
   rw[OY hs,List.foldl_append];rfl
  have A8:=z4h hI ((Oh G.g v).take i) (λu hu=>QW A3 v u (List.mem_of_mem_take hu)) x0 gY;rw[dR];obtain⟨q,hq⟩:∃q,((Oh G.g v).take i).foldl (λs' u=>PW s' (s.sk.getD u [])) x0=q:=⟨_,rfl⟩;rw[hq] at jF A8⊢;obtain⟨xu,-,G6,G7⟩:=hI.sk eE;have og:Y br/\Y bs/\Y b6/\Y b7:=⟨cI _ (kF _ aV.1),cI _ (kF _ aV.2.1),cI _ (kF _ aV.2.2.1),cI _ (kF _ aV.2.2.2)⟩;have Bp:Y l/\Y w6.heap.size:=⟨cI _ ku.1,cI _ ku.2⟩;have G8:∀j,X j->Y j:=λj hj=>cI _ (kF _ (ey j hj));refine U0 dy IB O O$ qN O$ NZ O$ NW O$ NZ O$ run_beginRound O dy IB ?_;rintro w8 Ej aS;have nG:=jF.own aS (λj e=>⟨e▸Bp.1,uF j (.inl e)⟩);have Mi:=aS.heap Mh (by omega);have uG:=nG.br;have A9:=WN nG.r hI eE;rw[G6] at A9⊢;refine NQ$ py$ qN O$ NT O$ Pz O O$ NU$ It O$ An$ qN O$ qV (O6 U35 O O uG O)$ NT O$ qV (OT O OJ U3 (by omega))$ Om zf0 O (A9) ?_;rintro _ w9 ⟨rfl,h9,aL⟩;have gM:GrI G Q txt K X Y rr O_ a L s ys br bs b6 b7 w q w9:=⟨h9,aL.NX nG.br (λe=>e (.inl og.1)),aL.NX nG.bs (λe=>e (.inl og.2.1)),aL.NX nG.b6 (λe=>e (.inl og.2.2.1)),aL.NX nG.b7 (λe=>e (.inl og.2.2.2)),nG.k.trans (aL.Of λb e e2=>e (.inl (G8 b e2)))⟩;have uH:=gM.bs;have Mj:=aL.heap Mi (λe=>e (.inl Bp.2));have Mk:=aL.rc dy Ej (λe=>e (.inl Bp.1));have G9:Kp (λj=>¬Y j\/j=l\/j=bs) w7 w9:=(aS.Of λj e=> .inr (.inl e)).trans (aL.Of λj e=> .inl λe2=>e (.inl e2));refine NT O$ P9 O O$ P9 O O$ Oc O$ NZ O$ OD.qb (e:=[(5,_),(6,_),(7,_),(10,_),(11,_)]) ?_;refine py$ qN O$ NT O$ Pz O O$ NU$ It O$ An$ qN O$ qV (O6 U9 O O uH O)$ NT O$ Om zhQ O (z4G A8 G7 ⟨hp,pn⟩ _) ?_;rintro _ w10 ⟨rfl,bC⟩;have Aa:=bC.NX uH;refine NT O$ P9 O O$ P9 O O$ Oe O (PV ZF O O O Aa (by simp)) ?_;rintro w11 ⟨oh,aY⟩;replace oh:O9 w11 bs [S (PW q xu)] 9:=oh;have l9:=uH.lt;have fC:=bC.kp.trans (aY.Of λj e=>(show j=bs from e));have Ga:=fC.heap Mj (by omega);have Gb:=fC.rc dy Mk (by omega);have Gc:¬O_ bs:=λe=>by have:=uD bs e;omega
  have im:QZ TQ G Q txt K Y rr O_ a L (s,ys) w11:=h9.own fC (λj e=>by subst e;exact⟨og.2.1,by omega,by omega,by omega,by omega,Gc⟩);have Gd:GrI G Q txt K X Y rr O_ a L s ys br bs b6 b7 w (PW q xu) w11:=⟨im,fC.NX gM.br (by omega),oh,fC.NX gM.b6 (by omega),fC.NX gM.b7 (by omega),gM.k.NR fC λj e=> .inl (by omega)⟩;refine Oc O$ qM O$ NT O$ Pz O O$ NU$ It O$ An$ NS$ UD dy Gb ?_;intro w12 Ge bc;exact .inl ⟨rfl,⟨Ge,Gd.own bc (λj e=>⟨e▸Bp.1,uF j (.inl e)⟩),bc.heap Ga (by omega)⟩,(G9.trans (fC.Of λj e=> .inr (.inr e))).trans (bc.Of λj e=> .inr (.inl e))⟩
 ·rintro v' wz ⟨rfl,⟨Y,cI,qu,Ml,Mm,Mn⟩|hF⟩
  ·refine⟨_,_,Ml,by simp,λwy iM=>?_⟩;have vO:=Mm.own iM (λj e=>⟨e▸cI _ ku.1,uF j (.inl e)⟩);have yN:=iM.heap Mn (by omega);have zy:=iM.size;rw[List.take_length] at vO;have Gf:=vO.bs;have Gg:=vO.b6;have Gh:=vO.b7;refine NS$ qN O$ qV (O6 U9 O O Gf O)$ Oe O (PV ZF O O O Gg (by simp)) ?_;rintro wx ⟨Gi,gZ⟩;have Gj:=gZ.NX Gh (by omega);refine Oe O (PV z1e O O O Gj (by simp)) ?_;rintro wt ⟨Gk,Gl⟩;have Gm:=Gl.NX Gi (by omega);have Mo:=Gl.heap (gZ.heap yN (by omega)) (by omega);have fK:Kp (λk=>k=w6.heap.size) wt (St [.mk w6.heap.size] wt):=PR wt w6.heap.size (.deferred none);have Gn:=fK.NX Gm (by omega);have Gp:=fK.NX Gk (by omega);refine NU$ VS (by simp) (XY Mo) func122 (.cell1 U9 O O ((Gn).cell _) (.cell1 U36 O O ((Gp).cell _) .nil)) ?_;have Gq:∀j,X j->Y j:=λj hj=>cI _ (kF _ (ey j hj));have fx:∀j,w.heap.size<=j->¬O_ j:=λj hj e=>by have:=uD j e;omega
   have Ab:Kp (λj=>j=b6\/j=b7\/j=w6.heap.size) wy (St [.mk w6.heap.size] wt):=((gZ.Of λj e=> .inl e).trans (Gl.Of λj e=> .inr (.inl e))).trans (fK.Of λj e=> .inr (.inr e));have nQ:=vO.r.own Ab (λj e=>⟨by rcases e with e|e|e;exact e▸cI _ (kF _ aV.2.2.1);exact e▸cI _ (kF _ aV.2.2.2);exact e▸cI _ ku.2,by omega,by omega,by omega,by omega,fx j (by omega)⟩);exact⟨_,rfl,rfl,nQ.less Gq h.g.xk h.xr,vO.k.NR Ab λb e=> .inl (by omega)⟩
  ·exact hF.elim
end
section
variable {G:GwP}{w w':World}{Q Q':Qz}{txt txt':Int->NY}{K K':Nat}{X Y S' O_:Nat->Prop}{rr a L:Nat}{s s':RR}{ys:List Nat}
theorem z78 {s:NY}(h:s.length<=256)(h1:1<=s.length):Wk s<18446744073709551616:=by
 have e1:=zdA h h1
 have e2:=Nat.div_le_self (mE s.length*1099511627776) (Yh s)
 have e3:=ZI s.length (s.count 0) (s.length-s.count 0)
 have e4:(s.length-s.count 0)*(s.length*1048576)<=256*(256*1048576):=Nat.mul_le_mul (by omega) (by omega)
 have e5:zdN s.length (s.count 0)=Wy s.length (s.count 0) (s.length-s.count 0):=rfl
 unfold Wk
 split
 ·omega
 ·rw[e5];have:=Nat.div_le_self (Wy s.length (s.count 0) (s.length-s.count 0)) 1048576;omega
def z0D (g:List (List Nat))(s:RR)(v:Nat):List Nat:=if QE g s.sk v=s.sk.getD v [] then s.PF else s.PF.set v (z3J (s.PF.getD v 0) (Wk (s.sk.getD v [])) (Wk (QE g s.sk v)) (s.t+1))
theorem z2h (h:QZ TQ G Q txt K X rr O_ a L (s,ys) w)(hI:BlI G.g s)(pM:s.p<=8)(hK:K<=800000000000){v:Nat}(hv:v<G.g.length):Oy prog 81 [ptr rr 0,I (v:Int)] w λr w'=>r= .tuple #[.bool (decide (QE G.g s.sk v≠s.sk.getD v [])),I 0]/\∃txt',QZ TQ G Q txt' (K+mW s.p+1) X rr O_ a L ({s with PF:=z0D G.g s v},Za (mW s.p) ys v (QE G.g s.sk v)) w'/\(∀y:Int,y<(a:Int)\/(a:Int)+(L:Int)<=y->txt' y=txt y)/\Kp (λb=>¬X b) w w':=by
 have mJ:=z1h ⟨hI.p4,hI.p16⟩
 have ay:=z4g hI h.g.ok.gr hv
 obtain⟨x0,-,oY,gY⟩:=hI.sk hv
 have kE:=λw' (h':QZ TQ G Q txt K X rr O_ a L (s,ys) w')=>z4p h' hI hv
 have hN:2^s.p<=2^8:=Nat.pow_le_pow_right (by decide) pM
 have jp:1<=2^s.p:=Nat.one_le_two_pow
 have jy:z0D G.g s v=if QE G.g s.sk v=s.sk.getD v [] then s.PF else s.PF.set v (z3J (s.PF.getD v 0) (Wk (s.sk.getD v [])) (Wk (QE G.g s.sk v)) (s.t+1)):=rfl
 have A9:=WN h hI hv
 rw[oY] at kE A9 jy⊢
 generalize QE G.g s.sk v=z at ay kE jy⊢
 have ln:v<s.PF.length:=by rw[hI.sn];exact hv
 have eE:=hI.n
 refine NP (e:=[(0,_),(1,_)]) func81 O ntmps81 O O$ qN O$ Oc O$ Oc O$ qM O$ Od O O$ Om zf0 O (A9) ?_
 rintro _ w1 ⟨rfl,h1,aK⟩
 refine NT O$ P9 O O$ P9 O O$ Oc O$ NZ O$ py$ qN O$ NT O$ Pz O O$ NU$ It O$ An$ qN O$ Od O O ?_
 refine NT O$ Om zhT O (kE w1 h1) ?_
 rintro _ w2 ⟨rfl,h2,aq⟩
 have dx:Kp (λb=>¬X b) w w2:=(aK.Of λb e e2=>e (.inl e2)).trans aq
 obtain⟨vn,vx,vs,an,ax,V⟩:=h2.bl
 have am:O9 w2 rr [I (s.t:Int),.bool s.done,ptr G.k 0,I (s.p:Int),I (s.rounds:Int),ptr vn 0,ptr vx 0,ptr vs 0,.bool false] 100:=V.run
 have rW:∀b,O_ b->¬¬(X b\/b=G.rb):=λb hb e=>e (.inl (h2.xr b hb))
 have pX:v*mW s.p+mW s.p<=ys.length:=by
  rw[V.yl,eE];have:=Nat.mul_le_mul_right (mW s.p) (show v+1<=G.g.length from hv);rw[Nat.add_mul,Nat.one_mul] at this;exact this
 have fD:=z3d (m:=mW s.p) (ys:=ys) (v:=v) (s:=z) pX
 refine NT O$ P9 O O$ P9 O O$ Oc O$ NZ O$ py$ qN O$ NT O$ Pz O O$ NU$ It O$ An$ py$ qN O ?_
 refine Od O O$ OH O$ Og W7 O$ qV (O6 U98 O O am O)$ Od O O$ Om zgY O (z1y (cs:=[I (s.t:Int),.bool s.done,ptr G.k 0,I (s.rounds:Int),ptr vn 0,ptr vx 0,ptr vs 0,.bool false]) h2.g.sp h2.g.lt1 (by omega) ⟨hI.p4,hI.p16⟩ am (.inl (h2.xr _ V.o.1)) V.next (.inl (h2.xr _ V.o.2.2.1)) ay.1 pX) ?_
 rintro _ w3 ⟨rfl,txt3,eN,BW,qv,aw⟩
 have V3:=V.zhw aw rW BW fD qv
 have NH:=V.L
 have mB:=V.at_
 have qC:∀y:Int,y<(a:Int)\/(a:Int)+(L:Int)<=y->txt3 y=txt y:=λy hy=>qv y (by rw[fD,V.yl,show 512 / 8=64 from rfl];omega)
 have h3:QZ TQ G Q txt3 (K+mW s.p) X rr O_ a L (s,Za (mW s.p) ys v z) w3:=h2.Z8 (by omega) aw (λb e=> .inl e) eN qC ⟨vn,vx,vs,an,ax,V3⟩
 have ct:Kp (λb=>¬X b) w w3:=dx.trans (aw.Of λb e e2=>e (.inl e2))
 have au:O9 w3 rr [I (s.t:Int),.bool s.done,ptr G.k 0,I (s.p:Int),I (s.rounds:Int),ptr vn 0,ptr vx 0,ptr vs 0,.bool false] 100:=V3.run
 refine NZ O$ OD.qb (e:=[(0,_),(1,_),(4,_),(5,_),(6,_),(7,_),(8,_),(9,_)]) ?_
 refine qN O$ NT O$ Pz O O$ Od O O$ NT O ?_
 by_cases he:z=x0
 ·have Mp:x0=z:=he.symm;rw[if_pos he] at jy;refine qV (zeJ O O)$ Qs$ OU O O$ NU$ Oa O$ qN O$ NT O$ Oc O$ NZ O$ NV func81 O ?_;rw[jy,show decide (z≠x0)=false from decide_eq_false (λe=>e he)];exact⟨_,rfl,rfl,txt3,h3.more (Nat.le_succ _) (by omega),qC,ct⟩
 ·have Mp:¬x0=z:=λe=>he e.symm;rw[if_neg he] at jy;have eR:=gY.1;have rk:=ay.1;have q1:=z78 (s:=x0) (by omega) (by omega);have q2:=z78 (s:=z) (by omega) (by omega);refine qV (zeJ O O)$ OR$ OU O O$ NU$ It O$ An$ qN O$ NT O$ Om zd7 O (z1p gY ⟨hI.p4,pM⟩ _) ?_;rintro _ w4 ⟨rfl,az⟩;refine NT O$ P9 O O$ P9 O O$ Oc O$ Oc O$ qM O$ NT O$ Om zd7 O (z1p ay ⟨hI.p4,pM⟩ _) ?_;rintro _ w5 ⟨rfl,aR⟩;have bT:=az.trans aR;have h5:=h3.ext bT;have V5:=V3.kp (S:=λ_=>False) bT (λ_ _=>id);have aG:=bT.NX au;obtain⟨y,hy⟩:∃y,s.PF[v]? =some y:=⟨_,List.getElem?_eq_getElem ln⟩;have Ac:=hI.lt y (List.mem_of_getElem? hy);have B5:s.PF.getD v 0=y:=by rw[List.getD_eq_getElem?_getD,hy];rfl
  rw[B5] at jy;have ht:=hI.t;have dv:=hI.r2;have cQ:=z6u (sum:=y) (was:=Wk x0) (now:=Wk z) (round:=s.t+1) Ac;have jG:=λw=>z1d y (Wk x0) (Wk z) (s.t+1) Ac q1 q2 (by omega) w
  generalize Wk x0=e1 at jG cQ jy⊢
  generalize Wk z=e2 at jG cQ jy⊢
  generalize z3J y e1 e2 (s.t+1)=c at jG cQ jy
  refine NT O$ P9 O O$ P9 O O$ Oc O$ NZ O$ OD.qb (e:=[(0,_),(1,_),(4,_),(5,_),(7,_),(10,_),(12,_)]) ?_;refine qN O$ NT O$ OH O$ Og W5 O$ qV (O6 U98 O O aG O)$ NT O$ Om zbV O (Yn h5.g.sp h5.g.lt1 h5.g.z9m V5.PF (.inl (h5.xr _ V5.o.2.2.2)) hy) ?_;rintro _ w6 ⟨rfl,ik,aP⟩;have h6:=h5.read aP ik;have V6:=V5.kp aP rW;have aO:=aP.NX aG (rW _ V5.o.1);have cm:=Ext.Ob w6;have Ad:=h6.ext cm;have V6d:=V6.kp (S:=λ_=>False) cm (λ_ _=>id);refine NT O$ P9 O O$ P9 O O$ Oc O$ NZ O$ py$ qN O$ NT O$ Pz O O$ NU$ It O$ An$ py$ Qj (λw'=>Kp (λj=>¬(X j\/j=G.rb)) w6 w') O ?_;refine Oj 0 O O (cm.kp)$ O0 1 O (Pq O) (cm.kp)$ O0 2 O (OG W5 O) (cm.kp)$ qT 3 O (λ_ h=>O6 U98 O O (h.NX aO (rW _ V5.o.1)) O) (cm.kp)$ Oj 4 O O (cm.kp)$ Oj 5 O O (cm.kp)$ Oj 6 O O (cm.kp)$ Oj 7 O O (cm.kp)$ Oj 8 O O (cm.kp)$ O0 9 O (Pq O) (cm.kp)$ O0 10 O (OG SY O) (cm.kp)$ O0 11 O (OG z0E O) (cm.kp)$ qT 12 O (λ_ h=>O6 U3 O O (h.NX aO (rW _ V5.o.1)) O) (cm.kp)$ O0 13 O (TK O O (by omega)) (cm.kp) ?_;rw[show(s.t:Int)+1=((s.t+1:Nat):Int) by omega];refine RW 14 O zfr O (jG _) ?_;rintro _ w7 ⟨rfl,rfl⟩;refine⟨cm.kp,?_⟩;refine RW 15 O zdT O (z1v Ad.g.sp Ad.g.lt1 Ad.g.z9m V6d.PF (.inl (Ad.xr _ V6d.o.2.2.2)) (i:=v) (x:=c) ln cQ) ?_;rintro _ w8 ⟨rfl,mn⟩;refine⟨cm.kp.trans mn.kpX,?_⟩;obtain⟨txt8,mv,vN,zS,aS⟩:=id mn;have g7:(s.PF.set v c).length=s.PF.length:=List.length_set;have V8:=V6d.zia aS rW vN g7 zS
  have Ae:∀y:Int,y<(a:Int)\/(a:Int)+(L:Int)<=y->txt8 y=txt y:=λy hy=>by
   rw[zS y (by rw[g7,show 512 / 8=64 from rfl];omega)];exact qC y hy
  have h8:QZ TQ G Q txt8 (K+mW s.p+1) X rr O_ a L ({s with PF:=s.PF.set v c},Za (mW s.p) ys v z) w8:=Ad.Z8 (by omega) aS (λb e=> .inl e) mv (λy hy=>(Ae y hy).trans (qC y hy).symm) ⟨vn,vx,vs,an,ax,V8⟩;refine O0 16 O (Qq O) (cm.kp.trans mn.kpX)$ O0 17 O (Qq O) (cm.kp.trans mn.kpX)$ qE$ OD.qb (e:=[(4,_),(5,_)]) ?_;refine NV func81 O ?_;rw[jy,show decide (z≠x0)=true from decide_eq_true he];exact⟨_,rfl,rfl,txt8,h8,Ae,(((ct.trans bT.kp).trans (aP.Of λb e e2=>e (.inl e2))).trans cm.kp).trans (aS.Of λb e e2=>e (.inl e2))⟩
end
section
variable {G:GwP}{w w':World}{Q Q':Qz}{txt txt':Int->NY}{K K':Nat}{X Y S' O_:Nat->Prop}{rr a L:Nat}{s s':RR}{ys:List Nat}
theorem zbR (g:List (List Nat))(s:RR)(c:List NY×List Nat×Bool)(v:Nat):Yx g s c v=(c.1++[QE g s.sk v],z0D g {s with PF:=c.2.1} v,c.2.2 ||decide (QE g s.sk v≠s.sk.getD v [])):=by
 unfold Yx z0D
 show(if QE g s.sk v=s.sk.getD v [] then _ else _)=(_,(if QE g s.sk v=s.sk.getD v [] then _ else _),_)
 by_cases h:QE g s.sk v=s.sk.getD v []
 ·rw[if_pos h,if_pos h,decide_eq_false (λe=>e h),Bool.or_false]
 ·rw[if_neg h,if_neg h,decide_eq_true h,Bool.or_true]
theorem z3z (h:QZ TQ G Q txt K X rr O_ a L (s,ys) w)(hI:BlI G.g s)(pM:s.p<=8)(hK:K<=700000000000):Oy prog 44 [ptr rr 0] w λr w'=>r=I 0/\∃txt',QZ TQ G Q txt' (K+40*(mW s.p+1)) X rr O_ a L (s.step G.g,Uz (mW s.p) s.sk) w'/\(∀y:Int,y<(a:Int)\/(a:Int)+(L:Int)<=y->txt' y=txt y)/\Kp (λb=>¬X b\/O_ b) w w':=by
 have mJ:=z1h ⟨hI.p4,hI.p16⟩
 have iQ:=h.n
 have eE:=hI.n
 have ht:=hI.t
 have dv:=hI.r2
 have sE:ys.length=G.g.length*mW s.p:=by
  obtain⟨vn,vx,vs,an,ax,V⟩:=h.bl;rw[V.yl,eE]
 obtain⟨vn0,vx0,vs0,ic⟩:=h.cells
 refine NP (e:=[(0,_)]) func44 O ntmps44 O O$ qN O$ Oc O$ qM O$ NZ O$ py$ qN O$ NT O$ OH O$ Og Zc O$ qV (O6 U30 O O ic O)$ Om zbH O (XT h.g) ?_
 rintro _ w ⟨rfl,rfl⟩
 refine NT O$ NU$ NQ$ Qm (α:=Nat×(List NY×List Nat×Bool)) ((0,([],s.PF,false))) (λy=>[(0,ptr rr 0),(3,.bool y.2.2.2),(11,I (G.g.length:Int)),(12,I (y.1:Int))]) (λy w'=>y.1<=G.g.length/\SwB G.g s y.1 y.2/\(∃txt',QZ TQ G Q txt' (K+(mW s.p+1)*y.1) X rr O_ a L ({s with PF:=y.2.2.1},Uz (mW s.p) y.2.1++ys.drop (y.1*mW s.p)) w'/\∀y:Int,y<(a:Int)\/(a:Int)+(L:Int)<=y->txt' y=txt y)/\Kp (λb=>¬X b) w w') (λy=>G.g.length-y.1) ?hI ?hround
 case hI=>exact⟨Nat.zero_le _,.zero hI,⟨txt,by simpa[Uz] using h,λ_ _=>rfl⟩,Kp.refl _ _⟩
 case hround=>
  rintro⟨v,c⟩ w4 ⟨hv,hc,⟨txt4,h4,oW⟩,ao⟩ ih;dsimp only at hv hc h4 ih⊢;have kZ:BlI G.g {s with PF:=c.2.1}:=⟨hI.p4,hI.p16,hI.r1,hI.r2,hI.t,hI.n,hc.sn,hI.ok,hc.lt⟩;have cQ:c.1.length=v:=by rw[hc.sk,List.length_map,List.length_range]
  try dsimp only
  refine qN O$ Py O O$ NU$ py$ O8 O (λh0=>?_)$ λh0=>?_
  ·have dP:v<G.g.length:=by omega
   have dV:(mW s.p+1)*v<=8193*40:=Nat.mul_le_mul (by omega) (by omega);have pL:=z2h h4 kZ pM (by omega) dP;have IC:=hc.next;rw[zbR] at IC;have gO:=z9X (m:=mW s.p) (n:=G.g.length) (a:=c.1) (ys:=ys) (s:=QE G.g s.sk v) sE (by omega);rw[cQ] at gO
   change Oy _ _ _ _ (λr w'=>r= .tuple #[.bool (decide (QE G.g s.sk v≠s.sk.getD v [])),I 0]/\∃txt',QZ TQ G Q txt' (K+(mW s.p+1)*v+mW s.p+1) X rr O_ a L ({s with PF:=z0D G.g {s with PF:=c.2.1} v},Za (mW s.p) (Uz (mW s.p) c.1++ys.drop (v*mW s.p)) v (QE G.g s.sk v)) w'/\_) at pL
   rw[gO] at pL;refine An$ py$ NQ$ qN O$ NT O$ Oc O$ qM O$ Od O O$ Om zjF O (pL) ?_;rintro _ w5 ⟨rfl,txt5,h5,ID,ak⟩;refine NT O$ P9 O O$ P9 O O$ Oc O$ NZ O$ py$ qN O$ NT O$ Pz O O ?_
   have eT:QZ TQ G Q txt5 (K+(mW s.p+1)*(v+1)) X rr O_ a L ({s with PF:=z0D G.g {s with PF:=c.2.1} v},Uz (mW s.p) (c.1++[QE G.g s.sk v])++ys.drop ((v+1)*mW s.p)) w5:=by
    rw[show K+(mW s.p+1)*(v+1)=K+(mW s.p+1)*v+mW s.p+1 by rw[Nat.mul_add,Nat.mul_one];omega];exact h5
   have aV:SwB G.g s (v+1) (c.1++[QE G.g s.sk v],z0D G.g {s with PF:=c.2.1} v,c.2.2 ||decide (QE G.g s.sk v≠s.sk.getD v [])):=IC
   generalize decide (QE G.g s.sk v≠s.sk.getD v [])=o at aV
   refine NU$ It O$ An$ NW O$ NT O ?_
   cases hb:c.2.2 with
   | true =>
     rw[hb] at aV;refine NT O$ qS$ PT O O$ NZ O$ NS$ NW O$ P6 O O$ NT O$ NU ?_
     exact(ih (v+1,_) _ ⟨by omega,aV,⟨txt5,eT,λy hy=>by rw[ID y hy];exact oW y hy⟩,ao.trans ak⟩ (by omega)).qb
   | false =>
     rw[hb] at aV;refine Od O O$ OU O O$ NZ O$ NS$ NW O$ P6 O O$ NT O$ NU ?_;exact(ih (v+1,_) _ ⟨by omega,aV,⟨txt5,eT,λy hy=>by rw[ID y hy];exact oW y hy⟩,ao.trans ak⟩ (by omega)).qb
  ·have dP:v=G.g.length:=by omega
   subst dP;have Mq:c=TD G.g s:=hc.eq;rw[List.drop_of_length_le (by rw[sE];exact Nat.le_refl _),List.append_nil] at h4;have dV:(mW s.p+1)*G.g.length<=40*(mW s.p+1):=by rw[Nat.mul_comm];exact Nat.mul_le_mul_right _ iQ
   have Gs:=h4.more (K':=K+40*(mW s.p+1)) (by omega) (by omega);obtain⟨vn,vx,vs,an,ax,V⟩:=Gs.bl;have aI:O9 w4 rr [I (s.t:Int),.bool s.done,ptr G.k 0,I (s.p:Int),I (s.rounds:Int),ptr vn 0,ptr vx 0,ptr vs 0,.bool false] 100:=V.run;have cQ:c.1.length=G.g.length:=by rw[hc.sk,List.length_map,List.length_range]
   have fx:=Gs.ne rr V.o.1
   have jL:∀(b:Bool) (w8:World),b=(!c.2.2 ||decide (s.t+1=s.rounds))->O9 w8 rr [I ((s.t+1:Nat):Int),.bool b,ptr G.k 0,I (s.p:Int),I (s.rounds:Int),ptr vx 0,ptr vn 0,ptr vs 0,.bool false] 100->Kp (λj=>j=rr) w4 w8->QZ TQ G Q txt4 (K+40*(mW s.p+1)) X rr O_ a L (s.step G.g,Uz (mW s.p) s.sk) w8:=λb w8 hb cn aS=>by
    have e:s.step G.g=⟨s.p,s.rounds,s.t+1,b,c.1,c.2.1⟩:=by unfold RR.step;rw[<-Mq,hb]
    obtain⟨n1,n2,n3,n4,n5,n6⟩:=V.ne;rw[e]
    have hV:Zs Q txt4 G.k rr O_ a L ⟨s.p,s.rounds,s.t+1,b,c.1,c.2.1⟩ (Uz (mW s.p) s.sk) vx vn vs ax an w8:=by
     have mB:=V.at_;have hL:=V.L;have nH:=V.PF;dsimp only at mB hL nH;rw[eE] at mB hL nH;refine⟨⟨V.o.1,V.o.2.2.1,V.o.2.1,V.o.2.2.2⟩,⟨n2,n1,n3,n4.symm,n6,n5⟩,cn,V.next.kp aS (λe=>n2 e.symm),V.now.kp aS (λe=>n1 e.symm),?_,?_,?_,?_⟩
     ·show SS Q txt4 vs 8 (a+2*QD (c.1.length*mW s.p) 64) c.2.1 w8;rw[cQ];exact nH.kp aS (λe=>n3 e.symm)
     ·show(Uz (mW s.p) s.sk).length=c.1.length*mW s.p;rw[S7,eE,cQ]
     ·show(ax=a/\an=a+QD (c.1.length*mW s.p) 64)\/(ax=a+QD (c.1.length*mW s.p) 64/\an=a);rw[cQ];omega
     ·show L=2*QD (c.1.length*mW s.p) 64+QD c.2.1.length 64;rw[cQ];exact hL
    exact Gs.set aS (λb e=>e▸V.o.1) ⟨vx,vn,vs,ax,an,hV⟩
   refine O4 O$ py$ Oo [12,15] (λw'=>Ext w4 w') (by kernel_rfl) O$ OW 0 O O (Ext.Ob w4)$ Pp (i:=1) O (by kernel_rfl) O O (λ_=>Wi O) (Ext.Ob w4)$ OW 2 O O (Ext.Ob w4)$ Ot 3 O (Pq O) (Ext.Ob w4)$ Ot 4 O (OG W7 O) (Ext.Ob w4)$ qL 5 O (λ_ h=>O6 U98 O O (h.NX aI) O) (Ext.Ob w4)$ OW 6 O O (Ext.Ob w4)$ Ot 7 O (Pq O) (Ext.Ob w4)$ Ot 8 O (OG TW O) (Ext.Ob w4)$ qL 9 O (λ_ h=>O6 U98 O O (h.NX aI) O) (Ext.Ob w4)$ Ot 10 O (Pq O) (Ext.Ob w4) ?_;refine Ot 11 O (OG TW O) (Ext.Ob w4)$ S8 [12]$ qO 12$ OP (i:=12) O O (PV Xj O O O ((Ext.Ob w4).NX aI) (by simp)) ?_;rintro w5 ⟨aG,ak⟩;refine⟨trivial,?_⟩;refine O0 13 O (Pq O) trivial$ O0 14 O (OG W7 O) trivial$ qO 15$ OP (i:=15) O O (PV Xj O O O aG (by simp)) ?_;rintro w6 ⟨aO,aP⟩;refine⟨trivial,?_⟩;replace aO:O9 w6 rr [I (s.t:Int),.bool s.done,ptr G.k 0,I (s.p:Int),I (s.rounds:Int),ptr vx 0,ptr vn 0,ptr vs 0,.bool false] 100:=aO;refine qE$ qN O$ NT O$ OH O$ Og SY O$ Og z0E O$ qV (O6 U3 O O aO O)$ P6 O O$ OH O$ Og SY O$ Og z0E O ?_;rw[show(s.t:Int)+1=((s.t+1:Nat):Int) by omega];refine Oe O (PV Pb O O O aO (by simp)) ?_;rintro w7 ⟨bN,aD⟩;replace bN:O9 w7 rr [I ((s.t+1:Nat):Int),.bool s.done,ptr G.k 0,I (s.p:Int),I (s.rounds:Int),ptr vx 0,ptr vn 0,ptr vs 0,.bool false] 100:=bN;have i7:Kp (λj=>j=rr) w4 w7:=((Ext.Ob w4).kp.trans ak |>.trans aP).trans aD;refine NU$ OD.qb (e:=[(0,_),(3,_)]) ?_;refine py ?_
   cases hb:c.2.2 with
   | true =>
     rw[hb] at jL;refine Oo [18] (λw'=>Ext w7 w') (by kernel_rfl) O$ OW 0 O O (Ext.Ob w7)$ OW 1 O O (Ext.Ob w7)$ Ot 2 O ((Rn O)) (Ext.Ob w7)$ OW 3 O O (Ext.Ob w7)$ OW 4 O O (Ext.Ob w7)$ Ot 5 O (Pq O) (Ext.Ob w7)$ Ot 6 O (OG SY O) (Ext.Ob w7)$ Ot 7 O (OG z0E O) (Ext.Ob w7)$ qL 8 O (λ_ h=>O6 U3 O O (h.NX bN) O) (Ext.Ob w7)$ OW 9 O O (Ext.Ob w7)$ Ot 10 O (Pq O) (Ext.Ob w7)$ Ot 11 O (OG zc8 O) (Ext.Ob w7)$ qL 12 O (λ_ h=>O6 U3 O O (h.NX bN) O) (Ext.Ob w7) ?_;refine Ot 13 O (yeq O O) (Ext.Ob w7)$ Ot 14 O (TA O O) (Ext.Ob w7)$ Ot 15 O (Pq O) (Ext.Ob w7)$ Ot 16 O (OG SY O) (Ext.Ob w7)$ Ot 17 O (OG ZJ O) (Ext.Ob w7)$ S8 [18] ?_;rw[show decide (((s.t+1:Nat):Int)=(s.rounds:Int))=decide (s.t+1=s.rounds) from decide_eq_decide.2 (by omega)];refine qO 18$ OP (i:=18) O O (PV Vg O O O ((Ext.Ob w7).NX bN) (by simp)) ?_;rintro w8 ⟨cn,aS⟩;refine⟨trivial,?_⟩;refine qE$ qN O$ NZ O$ NV func44 O ?_
     exact⟨_,rfl,rfl,txt4,jL _ _ O cn ((i7.trans (Ext.Ob w7).kp).trans aS),oW,(ao.Of λb e=> .inl e).trans (((i7.trans (Ext.Ob w7).kp).trans aS).Of λb e=> .inr (e▸V.o.1))⟩
   | false =>
     rw[hb] at jL;refine Oo [18] (λw'=>Ext w7 w') (by kernel_rfl) O$ OW 0 O O (Ext.Ob w7)$ OW 1 O O (Ext.Ob w7)$ Ot 2 O ((Rn O)) (Ext.Ob w7)$ OW 3 O O (Ext.Ob w7)$ Uc [5,6,7,8,13,14,15,16,17,18] (i:=4) O (by kernel_rfl) O O (Ext.Ob w7)$ Uc [6,7,8,13,14,15,16,17,18] (i:=5) O (by kernel_rfl) O O (Ext.Ob w7)$ Uc [7,8,13,14,15,16,17,18] (i:=6) O (by kernel_rfl) O O (Ext.Ob w7)$ Uc [8,13,14,15,16,17,18] (i:=7) O (by kernel_rfl) O O (Ext.Ob w7)$ Uc [13,14,15,16,17,18] (i:=8) O (by kernel_rfl) O O (Ext.Ob w7)$ Uc [10,11,12,13,14,15,16,17,18] (i:=9) O (by kernel_rfl) O O (Ext.Ob w7)$ Uc [11,12,13,14,15,16,17,18] (i:=10) O (by kernel_rfl) O O (Ext.Ob w7)$ Uc [12,13,14,15,16,17,18] (i:=11) O (by kernel_rfl) O O (Ext.Ob w7)$ Uc [13,14,15,16,17,18] (i:=12) O (by kernel_rfl) O O (Ext.Ob w7) ?_;refine Uc [14,15,16,17,18] (i:=13) O (by kernel_rfl) O O (Ext.Ob w7)$ Ot 14 O (TL O O) (Ext.Ob w7)$ Ot 15 O (Pq O) (Ext.Ob w7)$ Ot 16 O (OG SY O) (Ext.Ob w7)$ Ot 17 O (OG ZJ O) (Ext.Ob w7)$ S8 [18]$ qO 18$ OP (i:=18) O O (PV Vg O O O ((Ext.Ob w7).NX bN) (by simp)) ?_;rintro w8 ⟨cn,aS⟩;refine⟨trivial,?_⟩;refine qE$ qN O$ NZ O$ NV func44 O ?_;exact⟨_,rfl,rfl,txt4,jL _ _ O cn ((i7.trans (Ext.Ob w7).kp).trans aS),oW,(ao.Of λb e=> .inl e).trans (((i7.trans (Ext.Ob w7).kp).trans aS).Of λb e=> .inr (e▸V.o.1))⟩
theorem UL (h:QZ TQ G Q txt K X rr O_ a L (s,ys) w)(hI:BlI G.g s)(pM:s.p<=8)(hK:K<=700000000000)(hd:s.done=false):Oy prog 10 [ptr rr 0] w λv w'=>v= .tuple #[.bool (s.step G.g).done,I 0]/\∃txt',QZ TQ G Q txt' (K+40*(mW s.p+1)) X rr O_ a L (s.step G.g,Uz (mW s.p) s.sk) w'/\(∀y:Int,y<(a:Int)\/(a:Int)+(L:Int)<=y->txt' y=txt y)/\Kp (λb=>¬X b\/O_ b) w w':=by
 obtain⟨vn,vx,vs,hB⟩:=h.cells
 rw[hd] at hB
 refine NP (e:=[(0,_)]) func10 O ntmps10 O O$ qN O$ Oc O$ NZ O$ py$ qN O$ NT O$ Om zfd O (Vy h) ?_
 rintro _ w ⟨rfl,rfl⟩
 refine Oc O$ qM O$ NT O$ Pz O O$ NU$ It O$ An$ py$ qN O$ NT O$ OH O$ Og SY O$ Og ZJ O$ qV (O6 U4 O O hB O) ?_
 refine NU$ It O$ An$ py$ qN O$ NT O$ Om zk2 O (z3z h hI pM hK) ?_
 rintro _ w1 ⟨rfl,txt1,h1,nF,aK⟩
 obtain⟨vn1,vx1,vs1,ai⟩:=h1.cells
 refine Oc O$ qM O$ NT O$ Pz O O$ NU$ It O$ An$ qN O$ NT O$ OH O$ Og SY O$ Og ZJ O$ qV (O6 U4 O O ai O)$ Oc O ?_
 refine NZ O$ NV func10 O ?_
 exact⟨_,rfl,rfl,txt1,h1,nF,aK⟩
end
structure ZM where
 vb:Nat
 width:Nat
 st:Nat
 xs:List Nat
def ZM.len (v:ZM):Nat:=QD v.xs.length (512 / v.width)
def Vr (L:List Bool)(T:List ZM):List Bool:=T.foldl (λL v=>Pv L v.st v.len false) L
theorem z1A (L:List Bool)(T:List ZM)(v:ZM):Vr L (T++[v])=Pv (Vr L T) v.st v.len false:=by
 unfold Vr
 rw[List.foldl_append];rfl
theorem z3s:∀(T:List ZM) (L:List Bool),(∀v∈T,v.st+v.len<=L.length)->(Vr L T).length=L.length
 |[],L,_=>rfl
 | v :: T, L, h => by
   have h1:=Pl (b:=false) (h v List.mem_cons_self);have:=z3s T (Pv L v.st v.len false) λu hu=>by rw[h1];exact h u (List.mem_cons_of_mem _ hu)
   exact this.trans h1
theorem z08:∀(T:List ZM) (L:List Bool) (i:Nat),(∀v∈T,v.st+v.len<=L.length)->(∀v∈T,i<v.st\/v.st+v.len<=i)->(Vr L T)[i]? =L[i]?
 |[],L,i,_,_=>rfl
 | v :: T, L, i, h, h' => by
   have h1:=Pl (b:=false) (h v List.mem_cons_self);have:=z08 T (Pv L v.st v.len false) i (λu hu=>by rw[h1];exact h u (List.mem_cons_of_mem _ hu)) λu hu=>h' u (List.mem_cons_of_mem _ hu);refine Eq.trans this ?_;have h2:=h' v List.mem_cons_self;rw[QN (h v List.mem_cons_self),if_neg (by omega)]
def zam (T:List ZM):Prop:=∀(i j:Nat) (u v:ZM),T[i]? =some u->T[j]? =some v->i≠j->u.vb≠v.vb/\(u.st+u.len<=v.st\/v.st+v.len<=u.st)
structure z8J (Q:Qz)(txt:Int->NY)(K:Nat)(X:Nat->Prop)(T:List ZM)(a L:Nat)(w:World)(i:Nat)(w':World):Prop where
 ex:∃txt',Sp (Q.Pw (Vr Q.L (T.take i))) txt' K X w'/\(∀(j:Nat) (v:ZM),i<=j->T[j]? =some v->SS (Q.Pw (Vr Q.L (T.take i))) txt' v.vb v.width v.st v.xs w')/\(∀y:Int,y<(a:Int)\/(a:Int)+(L:Int)<=y->txt' y=txt y)
 k:Kp (λb=>¬X b\/∃v∈T,b=v.vb) w w'
section
variable {w w' w1:World}{Q:Qz}{txt:Int->NY}{K a L i:Nat}{X:Nat->Prop}{T:List ZM}{v:ZM}
theorem z8J.zero (hP:Sp Q txt K X w)(hT:∀(j:Nat) (v:ZM),T[j]? =some v->SS Q txt v.vb v.width v.st v.xs w):z8J Q txt K X T a L w 0 w:=
 ⟨⟨txt,hP,λj v _ h=>hT j v h,λ_ _=>rfl⟩,Kp.refl _ _⟩
theorem z8J.next (h:z8J Q txt K X T a L w i w1)(hX:∀b,X b->b<w.heap.size)(hv:T[i]? =some v)(hin:∀v∈T,X v.vb/\a<=v.st/\v.st+v.len<=a+L)(hap:zam T)(ha2:2<=a)(hfit:a+L<=Q.L.length)(hown:∀i,a<=i->i<a+L->Q.L[i]? =some true):
  Oy prog 80 [ptr v.vb 0] w1 λr w'=>r=I 0/\z8J Q txt K X T a L w (i+1) w':=by
 obtain⟨⟨txt1,hP1,hV1,hy1⟩,hk1⟩:=h
 have hvm:=List.mem_of_getElem? hv
 obtain⟨hvX,hva,hvL⟩:=hin v hvm
 have hfitT:∀u∈T.take i,u.st+u.len<=Q.L.length:=λu hu=>by have:=(hin u (List.mem_of_mem_take hu)).2.2;omega
 have hcl:(Vr Q.L (T.take i)).length=Q.L.length:=z3s _ _ hfitT
 have hil:i<T.length:=by
  rcases Nat.lt_or_ge i T.length with h| h
  ·exact h
  ·rw[List.getElem?_eq_none h] at hv;cases hv
 have htk:T.take (i+1)=T.take i++[v]:=by rw[List.take_add_one,hv];rfl
 have z1:=hk1.size
 refine(z41 hP1 (λb hb=>by have:=hX b hb;omega) (hV1 i v (Nat.le_refl _) hv) hvX (by omega) ?_).mono ?_
 ·intro k e1 e2;show(Vr Q.L (T.take i))[k]? =some true;have e2:k<v.st+v.len:=e2;rw[z08 _ _ _ hfitT]
  ·exact hown k (by omega) (by omega)
  ·intro u hu;obtain⟨j,hj⟩:=List.getElem?_of_mem hu
   have hji:j<i:=by
    rcases Nat.lt_or_ge j i with h| h
    ·exact h
    ·rw[List.getElem?_eq_none (by rw[List.length_take];omega)] at hj;cases hj
   rw[List.getElem?_take_of_lt hji] at hj;have:=(hap j i u v hj hv (by omega)).2;omega
 ·rintro r w' ⟨rfl,txt',hP',hy',hk'⟩
  have hq:(Q.Pw (Vr Q.L (T.take i))).Pw (Pv (Q.Pw (Vr Q.L (T.take i))).L v.st v.len false)=Q.Pw (Vr Q.L (T.take (i+1))):=by
   rw[htk,z1A];rfl
  have hP':Sp ((Q.Pw (Vr Q.L (T.take i))).Pw (Pv (Q.Pw (Vr Q.L (T.take i))).L v.st v.len false)) txt' K X w':=hP';rw[hq] at hP';refine⟨rfl,⟨txt',hP',λj u hj hu=>?_,λy hy=>?_⟩,hk1.trans (hk'.Of λb e=>e.imp id λe=>⟨v,hvm,e⟩)⟩
  ·obtain⟨n1,n2⟩:=hap i j v u hv hu (by omega);have huX:=(hin u (List.mem_of_getElem? hu)).1;have hl2:(Vr Q.L (T.take (i+1))).length=(Vr Q.L (T.take i)).length:=by rw[htk,z1A,Pl (by rw[hcl];omega)]
   refine(((hV1 j u (by omega) hu).kp hk' λe=>e.elim (λe=>e huX) λe=>n1 e.symm).QX λy e1 e2=>hy' y ?_).q O hl2;have e2:y<(u.st:Int)+(u.len:Int):=e2;show y<(v.st:Int)\/(v.st:Int)+(v.len:Int)<=y;omega
  ·rw[hy' y (by show y<(v.st:Int)\/(v.st:Int)+(v.len:Int)<=y;omega)];exact hy1 y hy
end
section
variable {G:GwP}{w w':World}{Q Q':Qz}{txt txt':Int->NY}{K K':Nat}{X Y S' O_:Nat->Prop}{rr a L:Nat}{s s':RR}{ys:List Nat}
def z47 (s:RR)(i:Int):Value:=if i<0\/(s.sk.length:Int)<=i then .tuple #[S [],I 1] else .tuple #[S (s.sk.getD i.toNat []),I 0]
theorem z0C (h:QZ TQ G Q txt K X rr O_ a L (s,ys) w)(hI:BlI G.g s)(i:Int):Oy prog 14 [ptr rr 0,I i] w λv w'=>v=z47 s i/\QZ TQ G Q txt K X rr O_ a L (s,ys) w'/\Kp (λb=>¬(X b\/b=G.rb)) w w':=by
 obtain⟨vn,vx,vs,hB⟩:=h.cells
 have eE:=hI.n
 refine NP (e:=[(0,_),(1,_)]) func14 O ntmps14 O O$ qN O$ Oc O$ NZ O$ py$ qN O$ NT O$ Om zfd O (Vy h) ?_
 rintro _ w ⟨rfl,rfl⟩
 refine Oc O$ qM O$ NT O$ Pz O O$ NU$ It O$ An$ py$ qN O$ NT O ?_
 by_cases h0:i<0
 ·refine Py O O$ Qs$ NT O$ qS$ qS$ qS$ qS$ qS$ qS$ qS$ PT O O$ NU$ Oa O$ qN O ?_;refine Oc O$ NZ O$ NV func14 O ?_;unfold z47;rw[if_pos (.inl h0)];exact⟨_,rfl,rfl,h,Kp.refl _ _⟩
 ·refine Py O O$ OR$ Od O O$ NT O$ OH O$ Og Zc O$ qV (O6 U30 O O hB O)$ Om zbH O (XT h.g) ?_;rintro _ w ⟨rfl,rfl⟩;by_cases h1:(G.g.length:Int)<=i
  ·refine SB O O$ Qs$ OU O O$ NU$ Oa O$ qN O$ Oc O$ NZ O$ NV func14 O ?_;unfold z47;rw[if_pos (.inr (by omega))];exact⟨_,rfl,rfl,h,Kp.refl _ _⟩
  ·obtain⟨n,rfl⟩:∃n:Nat,i=(n:Int):=⟨i.toNat,by omega⟩;refine SB O O$ OR$ OU O O$ NU$ It O$ An$ qN O$ Od O O$ Om zf0 O (WN h hI (v:=n) (by omega)) ?_;rintro _ w1 ⟨rfl,h1,aK⟩;refine P9 O O$ P9 O O$ Oc O$ NZ O$ OD.qb (e:=[(4,_),(5,_)]) ?_;refine NV func14 O ?_;unfold z47;rw[if_neg (by omega),show((n:Int)).toNat=n by omega];exact⟨_,rfl,rfl,h1,aK⟩
def z38 (s:RR)(i:Int):Value:=if s.done=false then .tuple #[u64v 0,I 16] else if i<0\/(s.PF.length:Int)<=i then .tuple #[u64v 0,I 1] else .tuple #[u64v (s.PF.getD i.toNat 0),I 0]
theorem z1D (h:QZ TQ G Q txt K X rr O_ a L (s,ys) w)(i:Int):Oy prog 15 [ptr rr 0,I i] w λv w'=>v=z38 s i/\QZ TQ G Q txt K X rr O_ a L (s,ys) w'/\Kp (λb=>¬(X b\/b=G.rb)) w w':=by
 obtain⟨vn,vx,vs,an,ax,V⟩:=h.bl
 have hB:O9 w rr [I (s.t:Int),.bool s.done,ptr G.k 0,I (s.p:Int),I (s.rounds:Int),ptr vn 0,ptr vx 0,ptr vs 0,.bool false] 100:=V.run
 refine NP (e:=[(0,_),(1,_)]) func15 O ntmps15 O O$ qN O$ Oc O$ NZ O$ py$ qN O$ NT O$ Om zfd O (Vy h) ?_
 rintro _ w ⟨rfl,rfl⟩
 refine Oc O$ qM O$ NT O$ Pz O O$ NU$ It O$ An$ py$ qN O$ NT O$ OH O$ Og SY O$ Og ZJ O ?_
 by_cases hd:s.done=false
 ·rw[hd] at hB;refine qV (O6 U4 O O hB O)$ qV ((Rn O))$ NU$ Oa O$ qN O$ Oc O$ NZ O$ NV func15 O ?_;unfold z38;rw[if_pos hd];exact⟨_,rfl,rfl,h,Kp.refl _ _⟩
 ·have Mr:s.done=true:=by simpa using hd
  rw[Mr] at hB;refine qV (O6 U4 O O hB O)$ qV ((Rn O))$ NU$ It O$ An$ qN O$ NT O$ OH O$ Og W5 O$ qV (O6 U98 O O hB O)$ NT O ?_;by_cases hi:i<0\/(s.PF.length:Int)<=i
  ·refine Om zbV O (z6g V.PF hi) ?_;rintro _ w ⟨rfl,rfl⟩;refine P9 O O$ P9 O O$ Oc O$ NZ O$ NV func15 O ?_;unfold z38;rw[if_neg hd,if_pos hi];exact⟨_,rfl,rfl,h,Kp.refl _ _⟩
  ·obtain⟨n,rfl⟩:∃n:Nat,i=(n:Int):=⟨i.toNat,by omega⟩;obtain⟨x,hx⟩:∃x,s.PF[n]? =some x:=⟨_,List.getElem?_eq_getElem (by omega)⟩;refine Om zbV O (Yn h.g.sp h.g.lt1 h.g.z9m V.PF (.inl (h.xr _ V.o.2.2.2)) (i:=n) hx) ?_;rintro _ w1 ⟨rfl,jJ,aK⟩;have h1:=h.read aK jJ;refine P9 O O$ P9 O O$ Oc O$ NZ O$ NV func15 O ?_;unfold z38;rw[if_neg hd,if_neg hi,show((n:Int)).toNat=n by omega,List.getD_eq_getElem?_getD,hx];exact⟨_,rfl,rfl,h1,aK⟩
end
section
variable {G:GwP}{w w':World}{Q Q':Qz}{txt txt':Int->NY}{K K' k:Nat}{X Y S' O_:Nat->Prop}{rr a L:Nat}{s s':RR}{ys:List Nat}
theorem zaQ {α:Type}{P:Nat->α->Prop}{x y z:α}(h0:P 0 x)(h1:P 1 y)(h2:P 2 z):∀(j:Nat) (v:α),[x,y,z][j]? =some v->P j v
 |0,v,h=>by cases h;exact h0
 |1,v,h=>by cases h;exact h1
 |2,v,h=>by cases h;exact h2
 |j+3,v,h=>by cases h
theorem z5A (h:QZ TQ G Q txt K X rr O_ a L (s,ys) w)(Gt:2<=a)(bM:a+L<=Q.L.length)(uI:∀i,a<=i->i<a+L->Q.L[i]? =some true):Oy prog 42 [ptr rr 0] w λr w'=>r=I 0/\∃txt',RQ G (Q.Pw (Pv Q.L a L false)) txt' K X w'/\(∃vn vx vs,O9 w' rr [I (s.t:Int),.bool s.done,ptr G.k 0,I (s.p:Int),I (s.rounds:Int),ptr vn 0,ptr vx 0,ptr vs 0,.bool false] 100)/\(∀y:Int,y<(a:Int)\/(a:Int)+(L:Int)<=y->txt' y=txt y)/\Kp (λb=>¬X b\/O_ b) w w':=by
 have iQ:=h.n
 have Fy:=h.Vo
 have qA:=h.lts
 obtain⟨vn,vx,vs,an,ax,V⟩:=h.bl
 have hB:O9 w rr [I (s.t:Int),.bool s.done,ptr G.k 0,I (s.p:Int),I (s.rounds:Int),ptr vn 0,ptr vx 0,ptr vs 0,.bool false] 100:=V.run
 have mB:=V.at_
 have hL:=V.L
 have sE:=V.yl
 have oO:=V.wl
 obtain⟨n1,n2,n3,n4,n5,n6⟩:=V.ne
 obtain⟨T,hT⟩:∃T:List ZM,[(⟨vn,8,an,Uz (mW s.p) s.sk⟩:ZM),⟨vx,8,ax,ys⟩,⟨vs,8,a+2*QD (s.sk.length*mW s.p) 64,s.PF⟩]=T:=⟨_,rfl⟩
 have Mb:T.length=3:=by rw[<-hT];rfl
 have e1:(⟨vn,8,an,Uz (mW s.p) s.sk⟩:ZM).len=QD (s.sk.length*mW s.p) 64:=by simp[ZM.len,oO]
 have e2:(⟨vx,8,ax,ys⟩:ZM).len=QD (s.sk.length*mW s.p) 64:=by simp[ZM.len,sE]
 have e3:(⟨vs,8,a+2*QD (s.sk.length*mW s.p) 64,s.PF⟩:ZM).len=QD s.PF.length 64:=by simp[ZM.len]
 have ku:1<=QD (s.sk.length*mW s.p) 64:=Nat.le_max_left _ _
 have gK:1<=QD s.PF.length 64:=Nat.le_max_left _ _
 have aV:∀v∈T,X v.vb/\a<=v.st/\v.st+v.len<=a+L:=λv hv=>by
  obtain⟨j,hj⟩:=List.getElem?_of_mem hv;rw[<-hT] at hj;refine zaQ (P:=λ_ v=>X v.vb/\a<=v.st/\v.st+v.len<=a+L) ⟨h.xr _ V.o.2.1,?_,?_⟩ ⟨h.xr _ V.o.2.2.1,?_,?_⟩ ⟨h.xr _ V.o.2.2.2,?_,?_⟩ j v hj
  ·show a<=an;omega
  ·rw[e1];show an+_<=_;omega
  ·show a<=ax;omega
  ·rw[e2];show ax+_<=_;omega
  ·show a<=a+2*_;omega
  ·rw[e3];show a+2*_+_<=_;omega
 have Af:∀v∈T,O_ v.vb/\v.vb≠rr:=λv hv=>by
  obtain⟨j,hj⟩:=List.getElem?_of_mem hv;rw[<-hT] at hj;exact zaQ (P:=λ_ v=>O_ v.vb/\v.vb≠rr) ⟨V.o.2.1,λe=>n1 e.symm⟩ ⟨V.o.2.2.1,λe=>n2 e.symm⟩ ⟨V.o.2.2.2,λe=>n3 e.symm⟩ j v hj
 have C5:zam T:=λi j u v hu hv gP=>by
  rw[<-hT] at hu hv
  have AG:i<3:=by
   rcases Nat.lt_or_ge i 3 with h| h
   ·exact h
   ·rw[List.getElem?_eq_none (by simpa using h)] at hu;cases hu
  have NI:j<3:=by
   rcases Nat.lt_or_ge j 3 with h| h
   ·exact h
   ·rw[List.getElem?_eq_none (by simpa using h)] at hv;cases hv
  obtain rfl|rfl|rfl:i=0\/i=1\/i=2:=by omega
  all_goals obtain rfl|rfl|rfl:j=0\/j=1\/j=2:=by omega
  all_goals first
   |exact absurd O gP
   |(cases hu;cases hv;rw[e1,e2];exact⟨n4,by show an+_<=ax\/ax+_<=an;omega⟩)
   |(cases hu;cases hv;rw[e1,e3];exact⟨n5,by show an+_<=a+2*_\/a+2*_+_<=an;omega⟩)
   |(cases hu;cases hv;rw[e2,e1];exact⟨n4.symm,by show ax+_<=an\/an+_<=ax;omega⟩)
   |(cases hu;cases hv;rw[e2,e3];exact⟨n6,by show ax+_<=a+2*_\/a+2*_+_<=ax;omega⟩)
   |(cases hu;cases hv;rw[e3,e1];exact⟨n5.symm,by show a+2*_+_<=an\/an+_<=a+2*_;omega⟩)
   |(cases hu;cases hv;rw[e3,e2];exact⟨n6.symm,by show a+2*_+_<=ax\/ax+_<=a+2*_;omega⟩)
 have lu:∀v∈T,v.st+v.len<=Q.L.length:=λv hv=>by have:=(aV v hv).2.2;omega
 have gX:Vr Q.L T=Pv Q.L a L false:=by
  refine List.ext_getElem? λi=>?_;rw[QN bM];by_cases hi:a<=i/\i<a+L
  ·rw[if_pos hi];have f1:=lu ⟨vn,8,an,Uz (mW s.p) s.sk⟩ (by rw[<-hT];simp);have f2:=lu ⟨vx,8,ax,ys⟩ (by rw[<-hT];simp);have f3:=lu ⟨vs,8,a+2*QD (s.sk.length*mW s.p) 64,s.PF⟩ (by rw[<-hT];simp);rw[e1] at f1;rw[e2] at f2;rw[e3] at f3;have f1:an+QD (s.sk.length*mW s.p) 64<=Q.L.length:=f1;have f2:ax+QD (s.sk.length*mW s.p) 64<=Q.L.length:=f2;have f3:a+2*QD (s.sk.length*mW s.p) 64+QD s.PF.length 64<=Q.L.length:=f3;rw[<-hT];show(Pv (Pv (Pv Q.L an _ false) ax _ false) (a+2*_) _ false)[i]? =_;rw[e1,e2,e3];have g1:(Pv Q.L an (QD (s.sk.length*mW s.p) 64) false).length=Q.L.length:=Pl f1;have g2:(Pv (Pv Q.L an (QD (s.sk.length*mW s.p) 64) false) ax (QD (s.sk.length*mW s.p) 64) false).length=Q.L.length:=by rw[Pl (by rw[g1];exact f2),g1]
   rw[QN (by rw[g2];exact f3),QN (by rw[g1];exact f2),QN f1];by_cases c1:a+2*QD (s.sk.length*mW s.p) 64<=i/\i<a+2*QD (s.sk.length*mW s.p) 64+QD s.PF.length 64
   ·rw[if_pos c1]
   ·rw[if_neg c1];by_cases c2:ax<=i/\i<ax+QD (s.sk.length*mW s.p) 64
    ·rw[if_pos c2]
    ·rw[if_neg c2,if_pos (by omega)]
  ·rw[if_neg hi];exact z08 T Q.L i lu λv hv=>by have:=aV v hv;omega
 have hg:=Ext.Ob w
 refine NP (e:=[(0,_)]) func42 O ntmps42 O O$ qN O$ Oc O$ qM O$ NZ O$ py$ py$ Qj (λw'=>Ext w w') O$ Oj 0 O O (hg)$ O0 1 O (Pq O) hg$ O0 2 O (OG TW O) hg$ qT 3 O (λ_ h=>O6 U98 O O (h.NX hB) O) hg$ Oj 4 O O (hg)$ O0 5 O (Pq O) hg ?_
 refine O0 6 O (OG W7 O) hg$ qT 7 O (λ_ h=>O6 U98 O O (h.NX hB) O) hg$ Oj 8 O O (hg)$ O0 9 O (Pq O) hg$ O0 10 O (OG W5 O) hg$ qT 11 O (λ_ h=>O6 U98 O O (h.NX hB) O) hg$ Oj 14 O O (hg)$ qO 12$ R3 (i:=12) O O O (Vl (cs:=[_,_,_]) (zs:=[Value.pointer none,Value.pointer none,Value.pointer none]) zfb Xj O (by kernel_rfl) O O O (by decide)) ?_
 rintro _ w1 ⟨bq,rfl,⟨NJ,ad,IE⟩,-⟩
 refine⟨hg.trans ad,?_⟩
 have bG:=hg.trans ad
 have z01:=bG.size
 have Gu:O9 w1 bq (T.map λv=>ptr v.vb 0) 98:=by rw[<-hT];exact IE
 have lq:=IE.lt
 obtain⟨X1,iH⟩:∃X1:Nat->Prop,(λj=>(X j\/j=G.rb)\/j=bq)=X1:=⟨_,rfl⟩
 have ey:∀j,X j\/j=G.rb->X1 j:=λj hj=>by rw[<-iH];exact .inl hj
 have eS:X1 bq:=by rw[<-iH];exact .inr O
 have zd:=hg.size
 have jJ:Sp Q txt K X1 w1:=(h.g.sp).ext bG (λb hb=>by rw[<-iH] at hb;exact hb.imp id λe=>by omega)
 have uf:∀b,X1 b->b<w1.heap.size:=λb hb=>by
  rw[<-iH] at hb;rcases hb with e| e
  ·have:=h.g.lt1 b e;omega
  ·omega
 have Ag:∀(j:Nat) (v:ZM),T[j]? =some v->SS Q txt v.vb v.width v.st v.xs w1:=λj v hj=>by
  rw[<-hT] at hj;exact zaQ (P:=λ_ v=>SS Q txt v.vb v.width v.st v.xs w1) (V.now.ext bG) (V.next.ext bG) (V.PF.ext bG) j v hj
 have Gv:∀v∈T,X1 v.vb/\a<=v.st/\v.st+v.len<=a+L:=λv hv=>⟨ey _ (.inl (aV v hv).1),(aV v hv).2⟩
 have Ms:∀v∈T,bq≠v.vb:=λv hv=>by have:=qA.1 v.vb (Af v hv).1;omega
 refine O0 13 O (RJ zfb O) (hg.trans ad)$ qE$ NQ$ Qm (α:=Nat) (0) (λi=>[(3,I 0),(19,.slice (some ⟨bq,0,none⟩) 3 3),(20,I 3),(21,I (i:Int))]) (λi w'=>i<=3/\z8J Q txt K X1 T a L w1 i w') (λi=>3-i) ?hI ?hround
 case hI=>exact⟨Nat.zero_le _,.zero jJ Ag⟩
 case hround=>
  rintro i w4 ⟨hi,hC⟩ ih;have Gw:=hC.k.NX Gu (λe=>e.elim (λe=>e eS) λ⟨v,hv,e⟩=>Ms v hv e)
  try dsimp only
  refine qN O$ Py O O$ NU$ py$ O8 O (λh0=>?_)$ λh0=>?_
  ·have AG:i<3:=by omega
   obtain⟨v,hv⟩:∃v,T[i]? =some v:=⟨_,List.getElem?_eq_getElem (by omega)⟩;refine An$ py$ NQ$ qN O$ qV (P7 zfb Xj O O (by omega))$ qV (OC U98 O O (by rw[Gw.cell,Nat.zero_add,Nat.mul_one,List.getElem?_map,hv];rfl)) ?_;refine NZ O$ py$ qN O$ NT O$ qV (Pt U98 O O)$ NU$ It O$ An$ qN O$ NT O$ Om zjm O (hC.next uf hv Gv C5 Gt bM uI) ?_;rintro _ w5 ⟨rfl,Mt⟩;refine Oc O$ qM O$ NT O$ Pz O O$ NT O$ qS$ qS$ OU O O$ NU$ It O$ An$ NS$ NW O$ P6 O O ?_;refine NT O$ NU ?_;exact(ih (i+1) _ ⟨by omega,Mt⟩ (by omega)).qb
  ·have AG:i=3:=by omega
   subst AG;obtain⟨⟨txt4,iW,-,oW⟩,ao⟩:=hC;rw[List.take_of_length_le (by omega),gX] at iW
   have fk:Kp (λb=>¬(X b\/b=G.rb)\/(X b/\b≠G.k/\b≠G.x/\b≠2/\b≠3/\O_ b/\b≠rr)) w w4:=bG.kp.trans (ao.Of λb e=>by
    rcases e with e|⟨v,hv,e⟩
    ·exact .inl λe2=>e (ey b e2)
    ·obtain⟨o1,o2⟩:=Af v hv;rw[e];obtain⟨m1,m2,m3,m4⟩:=h.ne _ o1
     exact .inr ⟨h.xr _ o1,m1,m2,m3,m4,o1,o2⟩)
   have Mu:RQ G (Q.Pw (Pv Q.L a L false)) txt4 K X w4:=h.g.Z8 fk (λb e=>e.imp id λe=>⟨e.1,e.2.1,e.2.2.1,e.2.2.2.1,e.2.2.2.2.1⟩) (iW.less ey) O (Pl bM) h.g.z9m (λy h1 h2=>oW y (.inl (by omega)));have aI:=fk.NX hB (λe=>e.elim (λe=>e (.inl (h.xr _ V.o.1))) λe=>e.2.2.2.2.2.2 O);refine O4 O$ qN O$ NT O$ NZ O$ NV func42 O ?_;exact⟨_,rfl,rfl,txt4,Mu,⟨vn,vx,vs,aI⟩,oW,fk.Of λb e=>e.imp (λe e2=>e (.inl e2)) λe=>e.2.2.2.2.2.1⟩
def zjC (s:RR)(k:Nat):List Value:=[I (s.t:Int),.bool s.done,ptr k 0,I (s.p:Int),I (s.rounds:Int),.pointer none,.pointer none,.pointer none,.bool true]
theorem z3o (h:QZ TQ G Q txt K X rr O_ a L (s,ys) w)(Gt:2<=a)(bM:a+L<=Q.L.length)(uI:∀i,a<=i->i<a+L->Q.L[i]? =some true):Oy prog 16 [ptr rr 0] w λr w'=>r=I 0/\∃txt',RQ G (Q.Pw (Pv Q.L a L false)) txt' K X w'/\O9 w' rr (zjC s G.k) 100/\(∀y:Int,y<(a:Int)\/(a:Int)+(L:Int)<=y->txt' y=txt y)/\Kp (λb=>¬X b\/O_ b) w w':=by
 obtain⟨vn,vx,vs,hB⟩:=h.cells
 obtain⟨m1,m2,m3,m4⟩:=h.ne _ h.ro
 refine NP (e:=[(0,_)]) func16 O ntmps16 O O$ qN O$ NZ O$ py$ NQ$ qN O$ NT O$ qV (Pt U35 O O)$ NZ O$ It O$ qN O$ NT O$ OH O$ Og TW O ?_
 refine qV (O6 U98 O O hB O)$ qV (Pt U98 O O)$ NZ O$ It O$ An$ NS$ qN O$ NT O$ Om zj7 O (z5A h Gt bM uI) ?_
 rintro _ w1 ⟨rfl,txt1,Bo,⟨un,ux,us,ai⟩,nF,aK⟩
 refine Oc O$ qM O$ Od O O$ Od O O$ OH O$ Og TW O$ Oe O (PV Xj O O O ai (by simp)) ?_
 rintro w2 ⟨am,aq⟩
 refine OH O$ Og W7 O$ Oe O (PV Xj O O O am (by simp)) ?_
 rintro w3 ⟨au,aw⟩
 refine OH O$ Og W5 O$ Oe O (PV Xj O O O au (by simp)) ?_
 rintro w4 ⟨aI,ao⟩
 refine OH O$ Og z6S O$ Oe O (PV Vg O O O aI (by simp)) ?_
 rintro w5 ⟨aG,ak⟩
 refine NU$ OD.qb (e:=[(2,_),(3,_)]) ?_
 refine qN O$ NT O$ NZ O$ NV func16 O ?_
 have fG:Kp (λj=>j=rr) w1 w5:=((aq.trans aw).trans ao).trans ak
 exact⟨_,rfl,rfl,txt1,Bo.own fG (λj e=>by rw[e];exact⟨h.xr _ h.ro,m1,m2,m3,m4⟩),aG,nF,aK.trans (fG.Of λb e=> .inr (e▸h.ro))⟩
end
section
variable {G:GwP}{w w':World}{Q Q':Qz}{txt txt':Int->NY}{K K' k:Nat}{X Y S' O_:Nat->Prop}{rr a L:Nat}{s s':RR}{ys:List Nat}
theorem Zg {n b:Nat}(h:n<=64*b)(hb:1<=b):QD n 64<=b:=by
 unfold QD
 have:(n+64-1) / 64<=b:=by omega
 omega
end
section
variable {G:GwP}{w w':World}{Q Q':Qz}{txt txt':Int->NY}{K K' k:Nat}{X Y S' O_:Nat->Prop}{rr a L:Nat}{s s':RR}{ys:List Nat}
theorem z3K {m:Nat}:∀{sk:List NY} {v:Nat} {x:NY},v<sk.length->Za m (Uz m sk) v x=Uz m (sk.set v x)
 |[],v,x,h=>by simp at h
 | y :: sk, 0, x, _ => by
   unfold Za Uz
   rw[Nat.zero_mul,List.take_zero,List.nil_append,Nat.zero_add,List.set_cons_zero,List.flatMap_cons,List.flatMap_cons,List.drop_left' (Q7 _ _ _)]
 | y :: sk, v + 1, x, h => by
   have ih:=z3K (m:=m) (sk:=sk) (v:=v) (x:=x) (by simpa using h);unfold Za Uz at*;have e1:(v+1)*m=m+v*m:=by rw[Nat.add_mul,Nat.one_mul,Nat.add_comm]
   have hu:(SE 8 m y).length=m:=Q7 _ _ _;rw[List.set_cons_succ,List.flatMap_cons,List.flatMap_cons,<-ih,e1,List.take_append,List.take_of_length_le (by rw[hu];omega),hu,Nat.add_sub_cancel_left,Nat.add_assoc,List.drop_append,List.drop_of_length_le (by rw[hu];omega),List.nil_append,hu,Nat.add_sub_cancel_left];simp only[List.append_assoc]
def Qb (n p seed v:Nat):List NY:=(List.range n).map λu=>if u<v then addN p (List.replicate (2^p) 0) (R4 seed u) else List.replicate (2^p) 0
theorem QR (n p seed v:Nat):(Qb n p seed v).length=n:=by simp[Qb]
theorem z3U {n p seed v:Nat}(hv:v<n):(Qb n p seed v).set v (addN p (List.replicate (2^p) 0) (R4 seed v))=Qb n p seed (v+1):=by
 refine List.ext_getElem? λj=>?_
 by_cases hj:j<n
 ·have e:∀v,(Qb n p seed v)[j]? =some (if j<v then addN p (List.replicate (2^p) 0) (R4 seed j) else List.replicate (2^p) 0):=λv=>by
   unfold Qb;rw[List.getElem?_map,List.getElem?_range hj];rfl
  by_cases c:v=j
  ·subst c;rw[List.getElem?_set_self (by rw[QR];exact hj),e,if_pos (by omega)]
  ·rw[List.getElem?_set_ne c,e,e];by_cases d:j<v
   ·rw[if_pos d,if_pos (by omega)]
   ·rw[if_neg d,if_neg (by omega)]
 ·rw[List.getElem?_eq_none (by rw[List.length_set,QR];omega),List.getElem?_eq_none (by rw[QR];omega)]
theorem z3q (n p seed:Nat):Qb n p seed 0=List.replicate n (List.replicate (2^p) 0):=by
 unfold Qb
 rw[List.map_congr_left (g:=λ_=>List.replicate (2^p) (0:UInt8)) λu _=>if_neg (Nat.not_lt_zero _),List.map_const',List.length_range]
theorem z5J (n p seed:Nat):Qb n p seed n=(List.range n).map λv=>addN p (List.replicate (2^p) 0) (R4 seed v):=
 List.map_congr_left λu hu=>if_pos (List.mem_range.1 hu)
theorem z3j (h:QZ TQ G Q txt K X rr O_ a L (s,ys) w)(hp:4<=s.p/\s.p<=16){seed:Nat}(jy:seed<18446744073709551616)(hK:K<=800000000000)(hs:s.sk=Qb G.g.length s.p seed 0):Oy prog 41 [ptr rr 0,u64v seed] w λv w'=>v=I 0/\∃txt',QZ TQ G Q txt' (K+mW s.p*G.g.length) X rr O_ a L ({s with sk:=Qb G.g.length s.p seed G.g.length},ys) w'/\(∀y:Int,y<(a:Int)\/(a:Int)+(L:Int)<=y->txt' y=txt y)/\Kp (λb=>¬X b) w w':=by
 have iQ:=h.n
 have mJ:=z1h hp
 obtain⟨vn,vx,vs,hB⟩:=h.cells
 obtain⟨z,hz⟩:∃z:NY,List.replicate (2^s.p) 0=z:=⟨_,rfl⟩
 have IF:Sg s.p z:=by rw[<-hz];exact Sg.none
 have Ah:=λw=>z7H s.p hp w
 rw[hz] at Ah
 have Mv:∀v,v<G.g.length->(Qb G.g.length s.p seed v).set v (addN s.p z (R4 seed v))=Qb G.g.length s.p seed (v+1):=λv hv=>by rw[<-hz];exact z3U hv
 refine NP (e:=[(0,_),(1,_)]) func41 O ntmps41 O O$ qN O$ Oc O$ qM O$ NT O$ OH O$ Og Zd O$ qV (O6 U3 O O hB O)$ Om zjj O (Ah _) ?_
 rintro _ w1 ⟨rfl,ad⟩
 have h1:=h.ext ad
 have ai:=ad.NX hB
 refine NT O$ P9 O O$ P9 O O$ Oc O$ NZ O$ py$ qN O$ NT O$ OH O$ Og Zc O$ qV (O6 U30 O O ai O)$ Om zbH O (XT h1.g) ?_
 rintro _ w1 ⟨rfl,rfl⟩
 refine NT O$ NU$ NQ$ Qm (α:=Nat) (0) (λv=>[(0,ptr rr 0),(1,u64v seed),(5,S z),(6,I 0),(21,I (G.g.length:Int)),(22,I (v:Int))]) (λv w'=>v<=G.g.length/\(∃txt',QZ TQ G Q txt' (K+mW s.p*v) X rr O_ a L ({s with sk:=Qb G.g.length s.p seed v},ys) w'/\∀y:Int,y<(a:Int)\/(a:Int)+(L:Int)<=y->txt' y=txt y)/\Kp (λb=>¬X b) w w') (λv=>G.g.length-v) ?hI ?hround
 case hI=>exact⟨Nat.zero_le _,⟨txt,by rw[<-hs];exact h1,λ_ _=>rfl⟩,ad.kp⟩
 case hround=>
  rintro v w4 ⟨hv,⟨txt4,h4,oW⟩,ao⟩ ih
  try dsimp only
  refine qN O$ Py O O$ NU$ py$ O8 O (λh0=>?_)$ λh0=>?_
  ·have dP:v<G.g.length:=by omega
   have dV:mW s.p*v<=8192*40:=Nat.mul_le_mul mJ.2 (by omega);refine An$ py$ NQ$ qN O$ NT O$ Oc O$ qM O$ NT O$ NZ O$ py$ qN O$ NT O$ Qe O O$ NU ?_;refine Oa O$ NW O$ Od O O$ NT O$ qV ((Pf O U3 Qy (by omega)))$ Om zjn O (zaK seed v jy (by omega) _) ?_;rintro _ w4 ⟨rfl,rfl⟩;have vP:=λw=>z9v IF hp (z0M seed v) w;have Gx:=IF.add hp (R4 seed v);have Gy:=Mv v dP
   generalize R4 seed v=hh at vP Gx Gy
   refine Om zjv O (vP _) ?_;rintro _ w5 ⟨rfl,aR⟩
   generalize addN s.p z hh=x at Gx Gy
   have h5:=h4.ext aR;obtain⟨un,ux,us,an,ax,V⟩:=h5.bl;have aG:O9 w5 rr [I (s.t:Int),.bool s.done,ptr G.k 0,I (s.p:Int),I (s.rounds:Int),ptr un 0,ptr ux 0,ptr us 0,.bool false] 100:=V.run;have rW:∀b,O_ b->¬¬(X b\/b=G.rb):=λb hb e=>e (.inl (h5.xr b hb));have oO:(Uz (mW s.p) (Qb G.g.length s.p seed v)).length=G.g.length*mW s.p:=by rw[S7,QR]
   have pX:v*mW s.p+mW s.p<=(Uz (mW s.p) (Qb G.g.length s.p seed v)).length:=by
    rw[oO];have:=Nat.mul_le_mul_right (mW s.p) (show v+1<=G.g.length from dP);rw[Nat.add_mul,Nat.one_mul] at this;exact this
   have IG:=z1y (cs:=[I (s.t:Int),.bool s.done,ptr G.k 0,I (s.rounds:Int),ptr un 0,ptr ux 0,ptr us 0,.bool false]) h5.g.sp h5.g.lt1 (by omega) hp aG (.inl (h5.xr _ V.o.1)) V.now (.inl (h5.xr _ V.o.2.1)) Gx.1 pX;rw[z3K (by rw[QR];exact dP),Gy] at IG;refine NT O$ P9 O O$ P9 O O$ Oc O$ Oc O$ qM O$ NT O$ Qe O O$ NU$ Oa O$ NW O$ Od O O$ OH O$ Og TW O ?_;refine qV (O6 U98 O O aG O)$ Od O O$ Om zgY O (IG) ?_;rintro _ w6 ⟨rfl,jS⟩;obtain⟨txt6,ik,Mw,Bm,aP⟩:=jS;have V6:=V.zk3 aP rW Mw (by show(Qb _ _ _ _).length=(Qb _ _ _ _).length;rw[QR,QR]) Bm;have mB:=V.at_;have IH:=V.L;dsimp only at mB IH;rw[QR] at mB IH;rw[S7,QR,show 512 / 8=64 from rfl] at Bm;have Ai:∀y:Int,y<(a:Int)\/(a:Int)+(L:Int)<=y->txt6 y=txt4 y:=λy hy=>Bm y (by omega)
   have h6:QZ TQ G Q txt6 (K+mW s.p*(v+1)) X rr O_ a L ({s with sk:=Qb G.g.length s.p seed (v+1)},ys) w6:=by
    rw[Nat.mul_add,Nat.mul_one,<-Nat.add_assoc];exact h5.Z8 (by omega) aP (λb e=> .inl e) ik Ai ⟨un,ux,us,an,ax,V6⟩
   refine NZ O$ NS$ NW O$ P6 O O$ NT O$ NU ?_;exact(ih (v+1) _ ⟨by omega,⟨txt6,h6,λy hy=>by rw[Ai y hy];exact oW y hy⟩,(ao.trans aR.kp).trans (aP.Of λb e e2=>e (.inl e2))⟩ (by omega)).qb
  ·have dP:v=G.g.length:=by omega
   subst dP;refine O4 O$ qN O$ NT O$ NZ O$ NV func41 O ?_;exact⟨_,rfl,rfl,txt4,h4,oW,ao⟩
end
end Go.Proofs.YtgdkbagngobdlaaGreatDoor
