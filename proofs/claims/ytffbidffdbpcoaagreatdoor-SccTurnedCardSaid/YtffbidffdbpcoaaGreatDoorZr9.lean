/- Merged by program. -/
import Derived.Test.YtffbidffdbpcoaaGreatDoorZr8
import Derived.SizedLaws
import Derived.Carry
import Derived.ProofKit
import Derived.OpenShut
import Derived.ShutString
import Derived.ChangeOld
import Derived.Below
import Derived.Deep.SlicePairs
import Derived.LaidLaws
import Derived.MakeChecks
import Derived.Handed
set_option linter.all false
set_option maxRecDepth 1000000
set_option maxHeartbeats 16000000
namespace Go.Proofs.YtffbidffdbpcoaaGreatDoor
open Go Go.RowKit
theorem z2q {p q:Nat->Bool}:∀{l:List Nat},(∀x∈l,p x=true->q x=false)->l.countP (λx=>p x ||q x)=l.countP p+l.countP q
 |[],_=>rfl
 | x :: l, h => by
   have ih:=z2q (p:=p) (q:=q) (l:=l) λy hy=>h y (List.mem_cons_of_mem _ hy);have h1:=h x List.mem_cons_self;rw[List.countP_cons,List.countP_cons,List.countP_cons,ih]
   cases hp:p x with
   |false=>cases q x<;>simp<;>omega
   |true=>rw[h1 hp];simp;omega
theorem z2u {a:Nat}:∀n,a<n->(List.range n).countP (λx=>decide (x=a))=1
 |0,h=>absurd h (Nat.not_lt_zero _)
 | n + 1, h => by
   rw[List.range_succ,List.countP_append,List.countP_singleton];by_cases e:a=n
   ·subst e
    have:(List.range a).countP (λx=>decide (x=a))=0:=by
     rw[List.countP_eq_zero];intro x hx hd;have:=List.mem_range.1 hx;have:=of_decide_eq_true hd;omega
    rw[this];simp
   ·rw[z2u n ω,if_neg (by simpa using λe2=>e e2.symm)]
def z1K {n:Nat}:∀{l:List Nat},l.Nodup->(∀x∈l,x<n)->l.length=(List.range n).countP (λx=>decide (x∈l))
 |[],_,_=>by rw[List.length_nil,eq_comm,List.countP_eq_zero];simp
 | a :: l, hn, h => by
   rw[List.nodup_cons] at hn;have ih:=z1K (l:=l) hn.2 λx hx=>h x (List.mem_cons_of_mem _ hx)
   have e:(λx=>decide (x∈a::l))=λx=>decide (x=a) ||decide (x∈l):=by
    funext x
    rw[<-Bool.decide_or,decide_eq_decide,List.mem_cons]
   rw[e,z2q,z2u n (h a List.mem_cons_self),List.length_cons,ih,Nat.add_comm];intro x hx hp;rw[of_decide_eq_true hp];exact decide_eq_false hn.1
theorem z0P {p:Nat->Nat->Bool}{m:Nat}:∀n,((List.range n).map λx=>(List.range m).countP (p x)).sum=((List.range m).map λu=>(List.range n).countP (λx=>p x u)).sum
 | 0 => by
   rw[List.range_zero,List.map_nil,List.sum_nil,eq_comm]
   have:∀l:List Nat,(l.map λu=>([]:List Nat).countP (λx=>p x u)).sum=0:=λl=>by
    induction l with
    |nil=>rfl
    |cons a l ih=>rw[List.map_cons,List.sum_cons,ih];rfl
   exact this _
 | n + 1 => by
   rw[List.range_succ,List.map_append,List.sum_append,z0P n]
   have:∀l:List Nat,(l.map λu=>(List.range n).countP (λx=>p x u)).sum+l.countP (p n)=(l.map λu=>(List.range n++[n]).countP (λx=>p x u)).sum:=λl=>by
    induction l with
    |nil=>rfl
    | cons a l ih =>
      rw[List.map_cons,List.sum_cons,List.map_cons,List.sum_cons,List.countP_cons,<-ih,List.countP_append,List.countP_singleton];omega
   rw[<-this];simp
theorem ZT (g:List (List Nat)):PX g=((List.range g.length).map λx=>(P5 g x).length).sum:=by
 unfold PX
 congr 1
 refine List.ext_getElem? λi=>?_
 rw[List.getElem?_map,List.getElem?_map]
 by_cases h:i<g.length
 ·rw[List.getElem?_range h];unfold P5;simp[List.getElem?_eq_getElem h]
 ·rw[List.getElem?_eq_none ω,List.getElem?_eq_none (by rw[List.length_range];omega)]
  rfl
def z6P {g:List (List Nat)}(h:S7 g)(hnd:∀x,(P5 g x).Nodup)(hlt:∀x y,y∈P5 g x->y<g.length):PX (Qu g)=PX g:=by
 rw[ZT,ZT,RZ]
 have e1:((List.range g.length).map λx=>(P5 g x).length)=(List.range g.length).map λx=>(List.range g.length).countP (λu=>decide (u∈P5 g x)):=
  List.map_congr_left λx _=>z1K (hnd x) (hlt x)
 have e2:((List.range g.length).map λu=>(P5 (Qu g) u).length)=(List.range g.length).map λu=>(List.range g.length).countP (λx=>decide (u∈P5 g x)):=
  List.map_congr_left λu hu=>by
   unfold P5;rw[Z5 g (List.mem_range.1 hu),List.countP_eq_length_filter]
   rfl
 rw[e1,e2,z0P]
def z4j {g:List (List Nat)}(h:S7 g):PX (Qu g)=PX g:=by
 have hm:∀x,P5 g x∈g\/P5 g x=[]:=λx=>by
  unfold P5;by_cases e:x<g.length
  ·rw[List.getElem?_eq_getElem e];exact .inl (List.getElem_mem e)
  ·rw[List.getElem?_eq_none ω];exact .inr O
 refine z6P h (λx=>?_) λx y hy=>?_
 ·rcases hm x with e| e
  ·exact List.Pairwise.imp (λh e=>by omega) (h.ok _ e).ris
  ·rw[e];exact .nil
 ·rcases hm x with e| e
  ·exact h.lt _ e y hy
  ·rw[e] at hy;cases hy
open Go.Proofs.Tryz
structure Vg (G T:GwP)(Q:Rg)(txt:Int->OO)(K:Nat)(X:Nat->Prop)(w:World):Prop where
 g:SQ G Q txt K (λb=>X b\/b=T.rb) w
 t:SQ T Q txt K (λb=>X b\/b=G.rb) w
 xk:X G.k/\X G.x/\X T.k/\X T.x/\X 1/\X 2
section
variable {G T:GwP}{w w':World}{Q Q':Rg}{txt txt':Int->OO}{K K':Nat}{X Y S' O_:Nat->Prop}{rr a L:Nat}{s:Sk}
def Vg.ng (h:Vg G T Q txt K X w):¬X G.rb/\G.rb≠T.rb/\¬X T.rb:=by
 have h1:=h.g.rbX
 have h2:=h.t.rbX
 exact⟨λe=>h1 (.inl e),λe=>h1 (.inr e),λe=>h2 (.inl e)⟩
def Vg.sp (h:Vg G T Q txt K X w):Sp Q txt K (Vm G T X) w:=h.g.sp
def Vg.lt (h:Vg G T Q txt K X w):∀b,Vm G T X b->b<w.heap.size:=h.g.lt1
theorem Vg.Zb (h:Vg G T Q txt K X w)(hk:Kp S' w w')(hS:∀b,S' b->¬Vm G T X b\/(X b/\b≠G.k/\b≠G.x/\b≠T.k/\b≠T.x/\b≠1/\b≠2))(aH:∀j,X j->Y j)(hY:∀j,Y j->X j\/w.heap.size<=j)(aS:∀j,Y j->j<w'.heap.size)(hP:Sp Q' txt' K' (Vm G T Y) w')(hs:Q'.s=Q.s)(hl:Q'.L.length=Q.L.length)(hK:K'<1000000000000)(Ad:∀y:Int,((G.st:Int)<=y/\y<(G.st:Int)+(G.len:Int))\/((T.st:Int)<=y/\y<(T.st:Int)+(T.len:Int))->txt' y=txt y):Vg G T Q' txt' K' Y w':=by
 obtain⟨n1,n2,n3⟩:=h.ng
 have hx:=h.xk
 have AO:=h.lt
 have pR:=AO T.rb (.inl (.inr O))
 have BW:=AO G.rb (.inr O)
 have hz:=hk.size
 have Nn:¬Y G.rb:=λe=>(hY _ e).elim n1 ω
 have No:¬Y T.rb:=λe=>(hY _ e).elim n3 ω
 have hn:∀{b},X b->((b=G.k\/b=G.x\/b=T.k)\/b=T.x\/b=1\/b=2)->¬S' b:=λhb he e=>by
  rcases hS _ e with e|⟨-,m1,m2,m3,m4,m5,m6⟩
  ·exact e (.inl (.inl hb))
  ·rcases he with(e|e|e)|e|e| e
   ·exact m1 e
   ·exact m2 e
   ·exact m3 e
   ·exact m4 e
   ·exact m5 e
   ·exact m6 e
 have dh:¬S' G.rb:=λe=>(hS _ e).elim (λe=>e (.inr O)) λe=>n1 e.1
 have dm:¬S' T.rb:=λe=>(hS _ e).elim (λe=>e (.inl (.inr O))) λe=>n3 e.1
 refine⟨h.g.at_ hk ⟨hn hx.1 (.inl (.inl O)),hn hx.2.1 (.inl (.inr (.inl O))),hn hx.2.2.2.2.1 (.inr (.inr (.inl O))),hn hx.2.2.2.2.2 (.inr (.inr (.inr O))),dh⟩ ⟨.inl (aH _ hx.1),.inl (aH _ hx.2.1),.inl (aH _ hx.2.2.2.2.1),.inl (aH _ hx.2.2.2.2.2)⟩ (λj e=>e.elim (aS j) λe=>by omega) (λe=>e.elim Nn n2) hP hs hl hK (λy e1 e2=>Ad y (.inl ⟨e1,e2⟩)),
  h.t.at_ hk ⟨hn hx.2.2.1 (.inl (.inr (.inr O))),hn hx.2.2.2.1 (.inr (.inl O)),hn hx.2.2.2.2.1 (.inr (.inr (.inl O))),hn hx.2.2.2.2.2 (.inr (.inr (.inr O))),dm⟩ ⟨.inl (aH _ hx.2.2.1),.inl (aH _ hx.2.2.2.1),.inl (aH _ hx.2.2.2.2.1),.inl (aH _ hx.2.2.2.2.2)⟩ (λj e=>e.elim (aS j) λe=>by omega) (λe=>e.elim No λe=>n2 e.symm) (hP.iff λb=>?_) hs hl hK (λy e1 e2=>Ad y (.inr ⟨e1,e2⟩)),⟨aH _ hx.1,aH _ hx.2.1,aH _ hx.2.2.1,aH _ hx.2.2.2.1,aH _ hx.2.2.2.2.1,aH _ hx.2.2.2.2.2⟩⟩
 constructor
 ·rintro((e|e)|e)
  ·exact .inl (.inl e)
  ·exact .inr e
  ·exact .inl (.inr e)
 ·rintro((e|e)|e)
  ·exact .inl (.inl e)
  ·exact .inr e
  ·exact .inl (.inr e)
def Vg.own (h:Vg G T Q txt K X w)(hk:Kp S' w w')(hS:∀b,S' b->X b/\b≠G.k/\b≠G.x/\b≠T.k/\b≠T.x/\b≠1/\b≠2):Vg G T Q txt K X w':=
 ⟨h.g.own hk λj e=>⟨.inl (hS j e).1,(hS j e).2.1,(hS j e).2.2.1,(hS j e).2.2.2.2.2.1,(hS j e).2.2.2.2.2.2⟩,h.t.own hk λj e=>⟨.inl (hS j e).1,(hS j e).2.2.2.1,(hS j e).2.2.2.2.1,(hS j e).2.2.2.2.2.1,(hS j e).2.2.2.2.2.2⟩,h.xk⟩
def Vg.grow (h:Vg G T Q txt K X w)(hx:Ext w w')(hY:∀j,Y j->X j\/(w.heap.size<=j/\j<w'.heap.size))(aH:∀j,X j->Y j):Vg G T Q txt K Y w':=by
 have hk:=h.xk
 exact⟨h.g.grow hx (λj e=>e.elim (λe=>(hY j e).imp .inl id) (λe=> .inl (.inr e))) (λj e=>e.imp (aH j) id),h.t.grow hx (λj e=>e.elim (λe=>(hY j e).imp .inl id) (λe=> .inl (.inr e))) (λj e=>e.imp (aH j) id),⟨aH _ hk.1,aH _ hk.2.1,aH _ hk.2.2.1,aH _ hk.2.2.2.1,aH _ hk.2.2.2.2.1,aH _ hk.2.2.2.2.2⟩⟩
theorem Vg.step (h:Vg G T Q txt K X w)(hk:Kp S' w w')(hS:∀b,S' b->X b/\b≠G.k/\b≠G.x/\b≠T.k/\b≠T.x/\b≠1/\b≠2)(hY:∀j,Y j->X j\/(w.heap.size<=j/\j<w'.heap.size))(aH:∀j,X j->Y j):Vg G T Q txt K Y w':=by
 have hx:=h.xk
 exact⟨h.g.step hk (λj e=>⟨.inl (hS j e).1,(hS j e).2.1,(hS j e).2.2.1,(hS j e).2.2.2.2.2.1,(hS j e).2.2.2.2.2.2⟩) (λj e=>e.elim (λe=>(hY j e).imp .inl id) (λe=> .inl (.inr e))) (λj e=>e.imp (aH j) id),h.t.step hk (λj e=>⟨.inl (hS j e).1,(hS j e).2.2.2.1,(hS j e).2.2.2.2.1,(hS j e).2.2.2.2.2.1,(hS j e).2.2.2.2.2.2⟩) (λj e=>e.elim (λe=>(hY j e).imp .inl id) (λe=> .inl (.inr e))) (λj e=>e.imp (aH j) id),⟨aH _ hx.1,aH _ hx.2.1,aH _ hx.2.2.1,aH _ hx.2.2.2.1,aH _ hx.2.2.2.2.1,aH _ hx.2.2.2.2.2⟩⟩
def Vg.less (h:Vg G T Q txt K Y w)(aH:∀j,X j->Y j)(hx:X G.k/\X G.x/\X T.k/\X T.x/\X 1/\X 2):Vg G T Q txt K X w:=
 ⟨h.g.less (λj e=>e.imp (aH j) id) ⟨.inl hx.1,.inl hx.2.1,.inl hx.2.2.2.2.1,.inl hx.2.2.2.2.2⟩,h.t.less (λj e=>e.imp (aH j) id) ⟨.inl hx.2.2.1,.inl hx.2.2.2.1,.inl hx.2.2.2.2.1,.inl hx.2.2.2.2.2⟩,hx⟩
def Vg.far (h:Vg G T Q txt K X w):∀j,w.heap.size<=j->j≠G.k/\j≠G.x/\j≠T.k/\j≠T.x/\j≠1/\j≠2:=λj hj=>by
 have aS:∀b,X b->b<w.heap.size:=λb hb=>h.lt b (.inl (.inl hb))
 have hx:=h.xk
 have e1:=aS _ hx.1
 have e2:=aS _ hx.2.1
 have e3:=aS _ hx.2.2.1
 have e4:=aS _ hx.2.2.2.1
 have e5:=aS _ hx.2.2.2.2.1
 have e6:=aS _ hx.2.2.2.2.2
 exact⟨ω,ω,ω,ω,ω,ω⟩
def z8m (h:SQ G Q txt K X w):Ps prog 31 [ptr G.k 0] w λv w'=>v=I (PX G.g:Int)/\w'=w:=by
 obtain⟨o,h⟩:=h
 have hB:=h.cells
 refine py (e:=[(0,_)]) func31 O ntmps31 O O$ QN O$ PR O$ qV (Qb Z8 O O)$ Qm O$ Pt O$ Pw O$ P4 VK O$ P4 z0v O$ qV (OS U3 O O hB O)$ P3 O$ OI func31 O ?_
 exact⟨_,rfl,rfl,rfl⟩
def Za {be bs bg n width:Nat}(h:Vg G T Q txt K X w)(hn:G.g.length=n)(dX:n<=100)(hK:K<=800000000000)(dC:Pre Q.L a)(nq:width=1\/width=4)(ck:a+1<=Q.L.length)(ey:OU w be [I 0] 44)(kN:OU w bs [ptr Q.s 0] 27)(uv:OU w bg [ptr G.k 0] 28)(H5:X be/\X bs/\X bg):Ps prog 32 ([I (width:Int)]++[ptr be 0,ptr bs 0,ptr bg 0]) w λv w'=>∃vb txt' w1,v=ptr vb 0/\w.heap.size<=vb/\Sp (Q.Qp (Qj Q.L a 1 true)) txt' (K+1) (λb=>Vm G T X b\/b=vb) w1/\Un (Q.Qp (Qj Q.L a 1 true)) txt' vb width a (List.replicate n 0) w1/\(∀y:Int,y<(a:Int)\/(a:Int)+1<=y->txt' y=txt y)/\Kp (λb=>¬Vm G T X b) w w1/\Kp (λb=>b=be) w1 w'/\OU w' be [I 0] 44:=by
 have fI:VD n (512 / width)=1:=by
  rcases nq with e|e<;>subst e
  ·exact Xe dX
  ·exact RR dX
 have hg:=Ext.Pa w
 have hd:=h.grow hg (λj e=> .inl e) (λj e=>e)
 have Jn:=z8I hd.sp hd.lt hK dC n width ω ω (by rw[fI];exact ck)
 rw[fI] at Jn
 have uu:=z0z hd.g
 rw[hn] at uu
 have H6:∀{b},X b->¬¬Vm G T X b:=λhb e=>e (.inl (.inl hb))
 refine py (e:=[(0,_),(1,_),(2,_),(3,_)]) func32 O ntmps32 O O$ QN O$ An$ qN O$ qV (OS U44 O O ey O)$ QF O$ Qm O$ An$ R0 (λw'=>Kp (λb=>¬Vm G T X b) w w') O$ qT 0 O (λ_ hS=>(OS XB O O (hS.OH kN (H6 H5.2.1)) O)) (hg.kp)$ qT 1 O (λ_ hS=>(OS Z8 O O (hS.OH uv (H6 H5.2.2)) O)) (hg.kp)$ P8 3 O O (hg.kp)$ S1 2 O z6W O (uu) ?_
 rintro _ w0 ⟨rfl,rfl⟩
 refine⟨hg.kp,?_⟩
 refine S1 4 O zju O (Jn) ?_
 rintro _ w1 ⟨vb,txt1,rfl,eV,ik,H7,yo,az⟩
 refine⟨hg.kp.trans az,?_⟩
 have dx:=hg.kp.trans az
 have H8:=dx.OH ey (H6 H5.1)
 refine P8 5 O O (hg.kp.trans az)$ OM 6 O (Ry O O) (hg.kp.trans az)$ OM 7 O (Ry O O) (hg.kp.trans az)$ OM 8 O (Rv O) (hg.kp.trans az)$ OM 9 O (Rv O) (hg.kp.trans az)$ qE$ Pt O$ OY O (QP z3i O O O H8 ξ) ?_
 rintro w2 ⟨H9,am⟩
 refine qM O$ OT O$ P3 O$ OI func32 O ?_
 exact⟨_,rfl,vb,txt1,w1,rfl,eV,ik,H7,yo,dx,am,H9⟩
theorem Vg.vec {Q1:Rg}{txt1:Int->OO}{v be K1:Nat}{w5 w6:World}(h:Vg G T Q txt K X w)(hk:Kp (λb=>¬Vm G T X b) w w5)(hP:Sp Q1 txt1 K1 (λb=>Vm G T X b\/b=v) w5)(hv:w.heap.size<=v)(sk:v<w5.heap.size)(hs:Q1.s=Q.s)(hl:Q1.L.length=Q.L.length)(hK:K1<1000000000000)(jI:G.st+G.len<=a)(vB:T.st+T.len<=a)(hy:∀y:Int,y<(a:Int)->txt1 y=txt y)(aN:Kp (λb=>b=be) w5 w6)(hb:X be/\be≠G.k/\be≠G.x/\be≠T.k/\be≠T.x/\be≠1/\be≠2):Vg G T Q1 txt1 K1 (λj=>X j\/j=v) w6:=by
 have aS:=h.lt
 have hz:=hk.size
 refine(h.Zb (Y:=λj=>X j\/j=v) hk (λb e=> .inl e) (λj e=> .inl e) (λj hj=>hj.imp id λe=>by omega) (λj hj=>by
   rcases hj with e| e
   ·have:=aS j (.inl (.inl e));omega
   ·omega) (hP.iff λb=>?_) hs hl hK (λy e=>hy y ω)).own aN λj e=>by rw[e];exact⟨.inl hb.1,hb.2⟩
 constructor
 ·rintro(((e|e)|e)|e)
  ·exact .inl (.inl (.inl e))
  ·exact .inl (.inr e)
  ·exact .inr e
  ·exact .inl (.inl (.inr e))
 ·rintro(((e|e)|e)|e)
  ·exact .inl (.inl (.inl e))
  ·exact .inr e
  ·exact .inl (.inl (.inr e))
  ·exact .inl (.inr e)
def z7b {l:List Bool}{a:Nat}(h:a+3<=l.length):Qj (Qj (Qj l a 1 true) (a+1) 1 true) (a+2) 1 true=Qj l a 3 true:=by
 have g1:(Qj l a 1 true).length=l.length:=Qa ω
 have g2:(Qj (Qj l a 1 true) (a+1) 1 true).length=l.length:=by rw[Qa (by rw[g1];omega),g1]
 refine List.ext_getElem? λi=>?_
 rw[RG (by rw[g2];omega),RG (by rw[g1];omega),RG ω,RG h]
 by_cases c1:a+2<=i/\i<a+2+1
 ·rw[if_pos c1,if_pos ω]
 ·rw[if_neg c1];by_cases c2:a+1<=i/\i<a+1+1
  ·rw[if_pos c2,if_pos ω]
  ·rw[if_neg c2];by_cases c3:a<=i/\i<a+1
   ·rw[if_pos c3,if_pos ω]
   ·rw[if_neg c3,if_neg ω]
def z9w (h:Vg G T Q txt K X w)(hK:K<=600000000000)(ez:G.g.length<=40)(ay:S7 G.g)(ht:T.g=Qu G.g)(dC:Pre Q.L a)(jI:G.st+G.len<=a)(vB:T.st+T.len<=a)(ck:a+3<=Q.L.length):Ps prog 13 [ptr Q.s 0,ptr G.k 0,ptr T.k 0] w λv w'=>∃(rr:Nat) (O_:Nat->Prop) (txt':Int->OO),v= .tuple #[ptr rr 0,I 0]/\(∀b,O_ b->w.heap.size<=b)/\Qt (Sx false T.k) G T (Q.Qp (Qj Q.L a 3 true)) txt' (K+4) (λb=>X b\/O_ b) rr O_ a 3 (Sk.new G.g.length) w'/\(∀y:Int,y<(a:Int)\/(a:Int)+3<=y->txt' y=txt y)/\Kp (λb=>¬X b) w w':=by
 have j5:T.g.length=G.g.length:=by rw[ht];exact RZ _
 have Np:PX T.g=PX G.g:=by rw[ht];exact z4j ay
 have aQ:=h.lt
 have mU:=h.xk
 have cg:=h.far
 refine py (e:=[(0,_),(1,_),(2,_)]) func13 O ntmps13 O O$ qN O$ OP O O (R6 O (cs:=[ptr Q.s 0]) O) ?_
 rintro _ w1 ⟨bs,rfl,wv,ad,kU⟩
 refine OP O O (R6 O (cs:=[ptr G.k 0]) O) ?_
 rintro _ w2 ⟨bg,rfl,J0,ae,hH⟩
 have i5:=ae.OH kU
 have aF:=ad.trans ae
 have z1:=ad.size
 have z2:=ae.size
 have q1:=kU.lt
 have q2:=hH.lt
 have h2:=h.grow aF (λj e=> .inl e) (λj e=>e)
 have Jo:=z0z h2.t
 rw[j5] at Jo
 have jU:=z8m h2.t
 rw[Np] at jU
 refine Qr O$ QO$ qN O$ qV ((OS XB O O i5 O))$ qV (Qb XB O O)$ OT O$ qV ((OS Z8 O O hH O))$ qV (Qb Z8 O O)$ PT O$ Pl O$ qV (Qb Z8 O O)$ PT O$ P3 O$ OR O ?_
 refine qN O$ qV ((OS Z8 O O hH O))$ Pb z6W O (z0z h2.g) ?_
 rintro _ w2 ⟨rfl,rfl⟩
 refine OT O$ Pb z6W O (Jo) ?_
 rintro _ w2 ⟨rfl,rfl⟩
 refine QF O$ PO$ OT O$ qV ((OS Z8 O O hH O))$ Pb ziW O (z8m h2.g) ?_
 rintro _ w2 ⟨rfl,rfl⟩
 refine OT O$ Pb ziW O (jU) ?_
 rintro _ w2 ⟨rfl,rfl⟩
 refine QF O$ PO$ PT O$ P3 O$ Pu.qb (e:=[(2,_),(3,_),(4,_),(6,_),(7,_),(22,_)]) ?_
 refine SO O$ OG$ qN O$ qV ((OS Z8 O O hH O))$ OT O$ qV (Sh (cs:=[_,_,_,_,_,_,_,_,_]) zjE O zjt O O)$ OP O O (R6 O (cs:=[ptr G.k 0,ptr T.k 0,.pointer none,.pointer none,.pointer none,I 0,I 0,.bool false,.bool false]) O) ?_
 rintro _ w3 ⟨rr,rfl,nS,ah,AP⟩
 refine QW O$ OP O O (Rz (cs:=[_]) z3i O) ?_
 rintro _ w4 ⟨be,rfl,EH,aG,rz⟩
 replace rz:OU w4 be [I 0] 44:=rz
 have z3:=ah.size
 have z4:=aG.size
 have q3:=AP.lt
 have q4:=rz.lt
 have cF:Ext w w4:=(aF.trans ah).trans aG
 have fO:=aG.OH (ah.OH i5)
 have qQ:=aG.OH (ah.OH hH)
 have Ha:=aG.OH AP
 obtain⟨X0,vz⟩:∃X0:Nat->Prop,(λj=>X j\/j=rr\/j=be\/j=bs\/j=bg)=X0:=⟨_,rfl⟩
 have eD:∀j,X j->X0 j:=λj hj=>by rw[<-vz];exact .inl hj
 have aq:X0 rr/\X0 be/\X0 bs/\X0 bg:=by rw[<-vz];exact⟨.inr (.inl O),.inr (.inr (.inl O)),.inr (.inr (.inr (.inl O))),.inr (.inr (.inr (.inr O)))⟩
 have h4:Vg G T Q txt K X0 w4:=h.grow cF (λj hj=>by rw[<-vz] at hj;exact hj.imp id λe=>by omega) eD
 refine qM O$ qV (ZR (first:=[]) (caps:=[.tmp 9,.tmp 3,.tmp 4]) O O)$ QW O$ Pl O$ Pl O$ Qw O O (RW zeV O O) (Za h4 O ω ω dC (width:=4) (.inr O) ω rz fO qQ aq.2) ?_
 rintro _ w5 ⟨v1,txt1,w5',rfl,Hb,gU,nu,yo,aj,rA,kY⟩
 obtain⟨Q1,xK⟩:∃Q1,Q.Qp (Qj Q.L a 1 true)=Q1:=⟨_,rfl⟩
 rw[xK] at gU nu
 have vC:Q1.s=Q.s:=by rw[<-xK];rfl
 have vD:Q1.L=Qj Q.L a 1 true:=by rw[<-xK];rfl
 have Hc:Q1.L.length=Q.L.length:=by rw[vD];exact Qa ω
 have sQ:Pre Q1.L (a+1):=by rw[vD];exact YN dC ω
 have zz5:=aj.size
 have zz5':=rA.size
 have lv1:=nu.lt
 have rB:=cg be ω
 have h5:=h4.vec aj gU Hb lv1 vC Hc ω jI vB (λy e=>yo y (.inl e)) rA ⟨aq.2.1,rB⟩
 have Hd:=nu.kp rA (λe=>by omega)
 have iW:Kp (λb=>¬Vm G T X0 b\/b=be) w4 w5:=(aj.ON λb e=> .inl e).trans (rA.ON λb e=> .inr e)
 have sd:∀{b},X0 b->b≠be->¬(¬Vm G T X0 b\/b=be):=λhb bD e=>e.elim (λe=>e (.inl (.inl hb))) bD
 have jB:=iW.OH fO (sd aq.2.2.1 ω)
 have AQ:=iW.OH qQ (sd aq.2.2.2 ω)
 have He:=iW.OH Ha (sd aq.1 ω)
 obtain⟨X5,Aq⟩:∃X5:Nat->Prop,(λj=>X0 j\/j=v1)=X5:=⟨_,rfl⟩
 rw[Aq] at h5
 have iY:∀j,X0 j->X5 j:=λj hj=>by rw[<-Aq];exact .inl hj
 have vE:X5 v1:=by rw[<-Aq];exact .inr O
 have Hf:=Za (bs:=bs) (bg:=bg) h5 O ω ω sQ (width:=4) (.inr O) ω kY (by rw[vC];exact jB) AQ ⟨iY _ aq.2.1,iY _ aq.2.2.1,iY _ aq.2.2.2⟩
 refine OT O$ Qw O O (RW zeV O O) (Hf) ?_
 rintro _ w6 ⟨v2,txt2,w6',rfl,Hg,nt,kZ,pJ,aN,rC,Hh⟩
 obtain⟨Q2,pG⟩:∃Q2,Q1.Qp (Qj Q1.L (a+1) 1 true)=Q2:=⟨_,rfl⟩
 rw[pG] at nt kZ
 have rD:Q2.s=Q1.s:=by rw[<-pG];rfl
 have rE:Q2.L=Qj Q1.L (a+1) 1 true:=by rw[<-pG];rfl
 have AR:Q2.L.length=Q1.L.length:=by rw[rE];exact Qa ω
 have AS:Pre Q2.L (a+1+1):=by rw[rE];exact YN sQ ω
 have zz6:=aN.size
 have zz6':=rC.size
 have lv2:=kZ.lt
 have h6:=h5.vec aN nt Hg lv2 rD AR ω jI vB (λy e=>pJ y (.inl ω)) rC ⟨iY _ aq.2.1,rB⟩
 have Hi:=kZ.kp rC (λe=>by omega)
 have pd:Kp (λb=>¬Vm G T X5 b\/b=be) w5 w6:=(aN.ON λb e=> .inl e).trans (rC.ON λb e=> .inr e)
 have C4:∀{b},X5 b->b≠be->¬(¬Vm G T X5 b\/b=be):=λhb bD e=>e.elim (λe=>e (.inl (.inl hb))) bD
 have jA:=pd.OH jB (C4 (iY _ aq.2.2.1) ω)
 have Hj:=pd.OH AQ (C4 (iY _ aq.2.2.2) ω)
 have Hk:=pd.OH He (C4 (iY _ aq.1) ω)
 have rF:G.g.length<=100:=by omega
 have Hl:Un Q2 txt2 v1 4 a (List.replicate G.g.length 0) w6:=((Hd.kp pd (C4 vE ω)).TY (λy e1 e2=>by
  rw[List.length_replicate,RR rF] at e2
  exact pJ y (.inl ω))).q rD AR
 obtain⟨X6,mI⟩:∃X6:Nat->Prop,(λj=>X5 j\/j=v2)=X6:=⟨_,rfl⟩
 rw[mI] at h6
 have vF:∀j,X5 j->X6 j:=λj hj=>by rw[<-mI];exact .inl hj
 have ll:∀j,X0 j->X6 j:=λj hj=>vF j (iY j hj)
 have AU:X6 v2:=by rw[<-mI];exact .inr O
 have Hm:=Za (bs:=bs) (bg:=bg) h6 O ω ω AS (width:=1) (.inl O) ω Hh (by rw[rD,vC];exact jA) Hj ⟨ll _ aq.2.1,ll _ aq.2.2.1,ll _ aq.2.2.2⟩
 refine OT O$ Qw O O (RW zeV O O) (Hm) ?_
 rintro _ w7 ⟨v3,txt3,w7',rfl,Hn,sH,vh,lS,aB,eW,Ho⟩
 obtain⟨Q3,rk⟩:∃Q3,Q2.Qp (Qj Q2.L (a+1+1) 1 true)=Q3:=⟨_,rfl⟩
 rw[rk] at sH vh
 have vG:Q3.s=Q2.s:=by rw[<-rk];rfl
 have AV:Q3.L=Qj Q2.L (a+1+1) 1 true:=by rw[<-rk];rfl
 have vH:Q3.L.length=Q2.L.length:=by rw[AV];exact Qa ω
 have Hp:Q3=Q.Qp (Qj Q.L a 3 true):=by
  have e:Q3.L=Qj Q.L a 3 true:=by
   rw[AV,rE,vD];exact z7b ck
  rw[<-e,<-rk,<-pG,<-xK];rfl
 have zz7:=aB.size
 have zz7':=eW.size
 have lv3:=vh.lt
 have h7:=h6.vec aB sH Hn lv3 vG vH ω jI vB (λy e=>lS y (.inl ω)) eW ⟨ll _ aq.2.1,rB⟩
 have Hq:=vh.kp eW (λe=>by omega)
 have eM:Kp (λb=>¬Vm G T X6 b\/b=be) w6 w7:=(aB.ON λb e=> .inl e).trans (eW.ON λb e=> .inr e)
 have pM:∀{b},X6 b->b≠be->¬(¬Vm G T X6 b\/b=be):=λhb bD e=>e.elim (λe=>e (.inl (.inl hb))) bD
 have vI:=eM.OH Hk (pM (ll _ aq.1) ω)
 have Hr:Un Q3 txt3 v1 4 a (List.replicate G.g.length 0) w7:=((Hl.kp eM (pM (vF _ vE) ω)).TY (λy e1 e2=>by
  rw[List.length_replicate,RR rF] at e2
  exact lS y (.inl ω))).q vG vH
 have Hs:Un Q3 txt3 v2 4 (a+1) (List.replicate G.g.length 0) w7:=((Hi.kp eM (pM AU ω)).TY (λy e1 e2=>by
  rw[List.length_replicate,RR rF] at e2
  exact lS y (.inl ω))).q vG vH
 obtain⟨X7,Ht⟩:∃X7:Nat->Prop,(λj=>X6 j\/j=v3)=X7:=⟨_,rfl⟩
 rw[Ht] at h7
 have vJ:∀j,X6 j->X7 j:=λj hj=>by rw[<-Ht];exact .inl hj
 have mV:∀j,X0 j->X7 j:=λj hj=>vJ j (ll j hj)
 have Hu:X7 v3:=by rw[<-Ht];exact .inr O
 replace vI:OU w7 rr [ptr G.k 0,ptr T.k 0,.pointer none,.pointer none,.pointer none,I 0,I 0,.bool false,.bool false] 86:=vI
 refine Pw O$ P4 VT O$ OY O (QP z29 O O O vI ξ) ?_
 rintro w8 ⟨Hv,aL⟩
 refine Pw O$ P4 Ve O$ OY O (QP z29 O O O Hv ξ) ?_
 rintro w9 ⟨Hw,aw⟩
 refine Pw O$ P4 WC O$ OY O (QP z29 O O O Hw ξ) ?_
 rintro w10 ⟨lT,aA⟩
 replace lT:OU w10 rr [ptr G.k 0,ptr T.k 0,ptr v1 0,ptr v2 0,ptr v3 0,I 0,I 0,.bool false,.bool false] 86:=lT
 have gD:Kp (λj=>j=rr) w7 w10:=(aL.trans aw).trans aA
 have zz10:=gD.size
 have sR:=gD.OH Ho ω
 obtain⟨O_,hO⟩:∃O_:Nat->Prop,(λb=>b=rr\/b=v1\/b=v2\/b=v3)=O_:=⟨_,rfl⟩
 have Hx:O_ rr/\O_ v1/\O_ v2/\O_ v3:=by rw[<-hO];exact⟨.inl O,.inr (.inl O),.inr (.inr (.inl O)),.inr (.inr (.inr O))⟩
 have rG:∀b,O_ b->w.heap.size<=b/\b≠be:=λb hb=>by rw[<-hO] at hb;omega
 have wR:∀b,O_ b->X7 b:=λb hb=>by
  rw[<-hO] at hb;rcases hb with e|e|e| e
  ·rw[e];exact mV _ aq.1
  ·rw[e];exact vJ _ (vF _ vE)
  ·rw[e];exact vJ _ AU
  ·rw[e];exact Hu
 have j9:=cg rr ω
 have eE:Vg G T Q3 txt3 (K+1+1+1) X7 w10:=h7.own gD (λj e=>by rw[e];exact⟨mV _ aq.1,j9⟩)
 obtain⟨s0,A9⟩:∃s0:Sk,(⟨0,0,false,List.replicate G.g.length 0,List.replicate G.g.length 0,List.replicate G.g.length 0⟩:Sk)=s0:=⟨_,rfl⟩
 have V10:Vu false Q3 txt3 G.k T.k rr O_ a 3 s0 v1 v2 v3 w10:=by
  rw[<-A9];exact⟨Hx,⟨ω,ω,ω,ω,ω,ω⟩,lT,Hr.kp gD (λe=>by omega),Hs.kp gD (λe=>by omega),Hq.kp gD (λe=>by omega),by simp only[List.length_replicate];omega,rfl⟩
 have Hy:=eE.xk
 have mw:Qt (Sx false T.k) G T Q3 txt3 (K+1+1+1) X7 rr O_ a 3 s0 w10:=
  ⟨⟨eE.g,⟨v1,v2,v3,V10⟩,λb hb=> .inl (wR b hb),Hx.1,λb hb=>by
   have:=cg b (rG b hb).1
   exact⟨this.1,this.2.1,this.2.2.2.2.1,this.2.2.2.2.2⟩,jI,ez⟩,eE.t,wR,Hy,λb hb=>by
   have:=cg b (rG b hb).1
   exact⟨this.2.2.1,this.2.2.2.1⟩,vB⟩
 refine OJ$ Pu.qb (e:=[(6,_),(7,_),(8,_),(9,_)]) ?_
 refine An$ qN O$ qV (OS U44 O O sR O)$ Rk O$ OJ$ OZ O$ Rp O$ Pw O$ P4 VT O$ qV (OS Zj O O lT O) ?_
 have fL:s0.label.length=G.g.length:=by rw[<-A9];exact List.length_replicate
 refine Pb zf0 O (Y5 mw.sp mw.lt ω V10.Zg (.inl (.inl (wR _ Hx.2.1))) (x:=4294967295) ψ) ?_
 rintro _ w11 ⟨rfl,hW⟩
 rw[fL,RR rF] at hW
 obtain⟨txt11,pU,Hz,bu⟩:=mw.z6S V10 (by rw[List.length_replicate,fL]) ω hW
 have AW:=bu.OH sR (λe=>e (.inl (.inl (mV _ aq.2.1))))
 refine OY O (QP z3i O O O AW ξ) ?_
 rintro w12 ⟨pe,bz⟩
 replace pe:OU w12 be [I 0] 44:=pe
 refine OJ$ An$ qN O$ qV (OS U44 O O pe O)$ QF O$ Qm O$ Pt O$ Qr O$ OI func13 O ?_
 have Dq:=pU.own bz (λj e=>by
  rw[e]
  exact⟨mV _ aq.2.1,rB.1,rB.2.1,rB.2.2.1,rB.2.2.2.1,rB.2.2.2.2.1,rB.2.2.2.2.2,λe2=>(rG be e2).2 O⟩)
 have wH:=Dq.less (X:=λb=>X b\/O_ b) (λb e=>e.elim (λe=>mV b (eD b e)) (wR b)) ⟨.inl mU.1,.inl mU.2.1,.inl mU.2.2.1,.inl mU.2.2.2.1,.inl mU.2.2.2.2.1,.inl mU.2.2.2.2.2⟩ (λb e=> .inr e)
 have cB:({s0 with label:=List.replicate G.g.length 4294967295}:Sk)=Sk.new G.g.length:=by rw[<-A9];rfl
 rw[cB] at wH
 have HA:∀b,X b->b<w.heap.size:=λb hb=>aQ b (.inl (.inl hb))
 have fP:∀{b},X b->∀{Z:Nat->Prop},(∀j,X j->Z j)->¬(¬Vm G T Z b\/b=be):=λhb _ hZ e=>e.elim (λe=>e (.inl (.inl (hZ _ hb)))) (λe=>by have:=HA _ hb;omega)
 have ka:Kp (λb=>¬X b) w w5:=cF.kp.trans (iW.ON λb e e2=>fP e2 (λj hj=>eD j hj) e)
 have kb:Kp (λb=>¬X b) w w6:=ka.trans (pd.ON λb e e2=>fP e2 (λj hj=>iY j (eD j hj)) e)
 have kc:Kp (λb=>¬X b) w w7:=kb.trans (eM.ON λb e e2=>fP e2 (λj hj=>ll j (eD j hj)) e)
 have kd:Kp (λb=>¬X b) w w10:=kc.trans (gD.ON λb e e2=>by have:=HA _ e2;omega)
 have ke:Kp (λb=>¬X b) w w11:=kd.trans (bu.ON λb e e2=>e (.inl (.inl (mV b (eD b e2)))))
 have kf:Kp (λb=>¬X b) w w12:=ke.trans (bz.ON λb e e2=>by have:=HA _ e2;omega)
 refine⟨_,rfl,rr,O_,txt11,rfl,λb hb=>(rG b hb).1,?_,λy hy=>?_,kf⟩
 ·rw[<-Hp];exact wH
 ·rw[Hz y ω,lS y ω,pJ y ω,yo y ω]
end
structure Vc1 where
 vb:Nat
 width:Nat
 st:Nat
 xs:List Nat
def Vc1.len (v:Vc1):Nat:=VD v.xs.length (512 / v.width)
def Wy (L:List Bool)(T:List Vc1):List Bool:=T.foldl (λL v=>Qj L v.st v.len false) L
theorem z2b (L:List Bool)(T:List Vc1)(v:Vc1):Wy L (T++[v])=Qj (Wy L T) v.st v.len false:=by
 unfold Wy
 rw[List.foldl_append];rfl
def z4x:∀(T:List Vc1) (L:List Bool),(∀v∈T,v.st+v.len<=L.length)->(Wy L T).length=L.length
 |[],L,_=>rfl
 | v :: T, L, h => by
   have h1:=Qa (b:=false) (h v List.mem_cons_self);have:=z4x T (Qj L v.st v.len false) λu hu=>by rw[h1];exact h u (List.mem_cons_of_mem _ hu)
   exact this.trans h1
theorem z0T:∀(T:List Vc1) (L:List Bool) (i:Nat),(∀v∈T,v.st+v.len<=L.length)->(∀v∈T,i<v.st\/v.st+v.len<=i)->(Wy L T)[i]? =L[i]?
 |[],L,i,_,_=>rfl
 | v :: T, L, i, h, h' => by
   have h1:=Qa (b:=false) (h v List.mem_cons_self);have:=z0T T (Qj L v.st v.len false) i (λu hu=>by rw[h1];exact h u (List.mem_cons_of_mem _ hu)) λu hu=>h' u (List.mem_cons_of_mem _ hu);refine Eq.trans this ?_;have h2:=h' v List.mem_cons_self;rw[RG (h v List.mem_cons_self),if_neg ω]
def zbE (T:List Vc1):Prop:=∀(i j:Nat) (u v:Vc1),T[i]? =some u->T[j]? =some v->i≠j->u.vb≠v.vb/\(u.st+u.len<=v.st\/v.st+v.len<=u.st)
structure z97 (Q:Rg)(txt:Int->OO)(K:Nat)(X:Nat->Prop)(T:List Vc1)(a L:Nat)(w:World)(i:Nat)(w':World):Prop where
 ex:∃txt',Sp (Q.Qp (Wy Q.L (T.take i))) txt' K X w'/\(∀(j:Nat) (v:Vc1),i<=j->T[j]? =some v->Un (Q.Qp (Wy Q.L (T.take i))) txt' v.vb v.width v.st v.xs w')/\(∀y:Int,y<(a:Int)\/(a:Int)+(L:Int)<=y->txt' y=txt y)
 k:Kp (λb=>¬X b\/∃v∈T,b=v.vb) w w'
section
variable {w w' w1:World}{Q:Rg}{txt:Int->OO}{K a L i:Nat}{X:Nat->Prop}{T:List Vc1}{v:Vc1}
theorem z97.zero (hP:Sp Q txt K X w)(hT:∀(j:Nat) (v:Vc1),T[j]? =some v->Un Q txt v.vb v.width v.st v.xs w):z97 Q txt K X T a L w 0 w:=
 ⟨⟨txt,hP,λj v _ h=>hT j v h,λ_ _=>rfl⟩,Kp.refl _ _⟩
def z97.next (h:z97 Q txt K X T a L w i w1)(hX:∀b,X b->b<w.heap.size)(hv:T[i]? =some v)(hin:∀v∈T,X v.vb/\a<=v.st/\v.st+v.len<=a+L)(hap:zbE T)(ha2:2<=a)(hfit:a+L<=Q.L.length)(hown:∀i,a<=i->i<a+L->Q.L[i]? =some true):
  Ps prog 40 [ptr v.vb 0] w1 λr w'=>r=I 0/\z97 Q txt K X T a L w (i+1) w':=by
 obtain⟨⟨txt1,hP1,hV1,hy1⟩,hk1⟩:=h
 have hvm:=List.mem_of_getElem? hv
 obtain⟨hvX,hva,hvL⟩:=hin v hvm
 have hfitT:∀u∈T.take i,u.st+u.len<=Q.L.length:=λu hu=>by have:=(hin u (List.mem_of_mem_take hu)).2.2;omega
 have hcl:(Wy Q.L (T.take i)).length=Q.L.length:=z4x _ _ hfitT
 have hil:i<T.length:=by
  rcases Nat.lt_or_ge i T.length with h| h
  ·exact h
  ·rw[List.getElem?_eq_none h] at hv;cases hv
 have htk:T.take (i+1)=T.take i++[v]:=by rw[List.take_add_one,hv];rfl
 have z1:=hk1.size
 refine(z3Q hP1 (λb hb=>by have:=hX b hb;omega) (hV1 i v (Nat.le_refl _) hv) hvX ω ?_).mono ?_
 ·intro k e1 e2;show(Wy Q.L (T.take i))[k]? =some true;have e2:k<v.st+v.len:=e2;rw[z0T _ _ _ hfitT]
  ·exact hown k ω ω
  ·intro u hu;obtain⟨j,hj⟩:=List.getElem?_of_mem hu
   have hji:j<i:=by
    rcases Nat.lt_or_ge j i with h| h
    ·exact h
    ·rw[List.getElem?_eq_none (by rw[List.length_take];omega)] at hj;cases hj
   rw[List.getElem?_take_of_lt hji] at hj;have:=(hap j i u v hj hv ω).2;omega
 ·rintro r w' ⟨rfl,txt',hP',hy',hk'⟩
  have hq:(Q.Qp (Wy Q.L (T.take i))).Qp (Qj (Q.Qp (Wy Q.L (T.take i))).L v.st v.len false)=Q.Qp (Wy Q.L (T.take (i+1))):=by
   rw[htk,z2b];rfl
  have hP':Sp ((Q.Qp (Wy Q.L (T.take i))).Qp (Qj (Q.Qp (Wy Q.L (T.take i))).L v.st v.len false)) txt' K X w':=hP';rw[hq] at hP';refine⟨rfl,⟨txt',hP',λj u hj hu=>?_,λy hy=>?_⟩,hk1.trans (hk'.ON λb e=>e.imp id λe=>⟨v,hvm,e⟩)⟩
  ·obtain⟨n1,n2⟩:=hap i j v u hv hu ω;have huX:=(hin u (List.mem_of_getElem? hu)).1;have hl2:(Wy Q.L (T.take (i+1))).length=(Wy Q.L (T.take i)).length:=by rw[htk,z2b,Qa (by rw[hcl];omega)]
   refine(((hV1 j u ω hu).kp hk' λe=>e.elim (λe=>e huX) λe=>n1 e.symm).TY λy e1 e2=>hy' y ?_).q O hl2;have e2:y<(u.st:Int)+(u.len:Int):=e2;show y<(v.st:Int)\/(v.st:Int)+(v.len:Int)<=y;omega
  ·rw[hy' y (by show y<(v.st:Int)\/(v.st:Int)+(v.len:Int)<=y;omega)];exact hy1 y hy
end
section
variable {G T:GwP}{w w':World}{Q:Rg}{txt txt':Int->OO}{K:Nat}{X O_:Nat->Prop}{rr a L vl vc vm v:Nat}{s:Sk}
theorem z3O (h:Qt (Sx false T.k) G T Q txt K X rr O_ a L s w):Ps prog 26 [ptr rr 0] w λv w'=>v=I (G.g.length:Int)/\w'=w:=by
 obtain⟨vl,vc,vm,hV⟩:=h.sc
 have hR:=Qt.cells hV
 refine py (e:=[(0,_)]) func26 O ntmps26 O O$ QN O$ PR O$ qV (Qb Xi O O)$ Qm O$ Pt O$ Pw O$ P4 XL O$ qV (OS Z8 O O hR O)$ Pb z6W O (h.z7O) ?_
 rintro _ w ⟨rfl,rfl⟩
 refine P3 O$ OI func26 O ?_
 exact⟨_,rfl,rfl,rfl⟩
theorem z8y (h:Qt (Sx false T.k) G T Q txt K X rr O_ a L s w)(hd:s.done=true){v x:Nat}(hx:s.label[v]? =some x):Ps prog 18 [ptr rr 0,I (v:Int)] w λr w'=>r= .tuple #[P7 x,I 0]/\Qt (Sx false T.k) G T Q txt K X rr O_ a L s w'/\Kp (λb=>¬Vm G T X b) w w':=by
 obtain⟨vl,vc,vm,hV⟩:=h.sc
 have hR:=Qt.cells hV
 rw[hd] at hR
 refine py (e:=[(0,_),(1,_)]) func18 O ntmps18 O O$ qN O$ Qr O$ PR O$ Pb zgW O (ZL h) ?_
 rintro _ w ⟨rfl,rfl⟩
 refine R3 O$ QF O$ Qm O$ PR O$ Pw O$ P4 z3p O$ qV (OS U4 O O hR O)$ qV ((S5 O))$ Qm O$ Pt O$ Pw O$ P4 VT O$ qV (OS Zj O O hR O)$ OT O ?_
 refine Pb zgS O (z2r h.sp h.lt h.m.g.VB hV.Zg (.inl (.inl (h.xr _ hV.o.2.1))) hx) ?_
 rintro _ w1 ⟨rfl,ik,az⟩
 refine SM O$ Qr O$ OI func18 O ?_
 exact⟨_,rfl,rfl,h.read az ik,az⟩
def z6z {α:Type}{P:Nat->α->Prop}{x y z:α}(h0:P 0 x)(h1:P 1 y)(h2:P 2 z):∀(j:Nat) (v:α),[x,y,z][j]? =some v->P j v
 |0,v,h=>by cases h;exact h0
 |1,v,h=>by cases h;exact h1
 |2,v,h=>by cases h;exact h2
 |j+3,v,h=>by cases h
theorem z3K (h:Qt (Sx false T.k) G T Q txt K X rr O_ a L s w)(Nq:2<=a)(ck:a+3<=Q.L.length)(HB:∀i,a<=i->i<a+3->Q.L[i]? =some true):Ps prog 16 [ptr rr 0] w λr w'=>r=I 0/\∃txt',Vg G T (Q.Qp (Qj Q.L a 3 false)) txt' K X w'/\(∀y:Int,y<(a:Int)\/(a:Int)+3<=y->txt' y=txt y)/\Kp (λb=>¬X b\/O_ b) w w':=by
 have ez:=h.m.n
 have Gb:=h.Vk
 have Nr:=h.m.Vk
 obtain⟨vl,vc,vm,hV⟩:=h.sc
 have hR:=Qt.cells hV
 have gI:=h.xr _ hV.o.1
 have aQ:∀b,Vm G T X b->b<w.heap.size:=h.lt
 have AX:∀b,O_ b->b≠G.k/\b≠G.x/\b≠T.k/\b≠T.x/\b≠1/\b≠2:=λb hb=>by
  have m1:=h.m.ne b hb;have m2:=h.nk b hb;exact⟨m1.1,m1.2.1,m2.1,m2.2,m1.2.2.1,m1.2.2.2⟩
 obtain⟨n1,n2,n3,n4,n5,n6⟩:=hV.ne
 obtain⟨l1,l2,l3⟩:=hV.n
 obtain⟨A,hA⟩:∃A:List Vc1,[(⟨vl,4,a,s.label⟩:Vc1),⟨vc,4,a+1,s.OW⟩,⟨vm,1,a+2,s.mark⟩]=A:=⟨_,rfl⟩
 have e1:(⟨vl,4,a,s.label⟩:Vc1).len=1:=RR l1
 have e2:(⟨vc,4,a+1,s.OW⟩:Vc1).len=1:=RR l2
 have e3:(⟨vm,1,a+2,s.mark⟩:Vc1).len=1:=Xe l3
 have Kq:A.length=3:=by rw[<-hA];rfl
 have sS:∀{P:Vc1->Prop},P ⟨vl,4,a,s.label⟩->P ⟨vc,4,a+1,s.OW⟩->P ⟨vm,1,a+2,s.mark⟩->∀v∈A,P v:=fun {P} p1 p2 p3 v hv=>by
  obtain⟨j,hj⟩:=List.getElem?_of_mem hv;rw[<-hA] at hj;exact z6z (P:=λ_ v=>P v) p1 p2 p3 j v hj
 have aq:∀v∈A,Vm G T X v.vb/\a<=v.st/\v.st+v.len<=a+3:=sS ⟨.inl (.inl (h.xr _ hV.o.2.1)),by show a<=a;omega,by rw[e1];show a+1<=a+3;omega⟩ ⟨.inl (.inl (h.xr _ hV.o.2.2.1)),by show a<=a+1;omega,by rw[e2];show a+1+1<=a+3;omega⟩ ⟨.inl (.inl (h.xr _ hV.o.2.2.2)),by show a<=a+2;omega,by rw[e3];show a+2+1<=a+3;omega⟩
 have HC:∀v∈A,O_ v.vb/\v.vb≠rr:=sS ⟨hV.o.2.1,λe=>n1 e.symm⟩ ⟨hV.o.2.2.1,λe=>n2 e.symm⟩ ⟨hV.o.2.2.2,λe=>n3 e.symm⟩
 have CE:zbE A:=λi j u v hu hv gL=>by
  rw[<-hA] at hu hv
  have xi:i<3:=by
   rcases Nat.lt_or_ge i 3 with h| h
   ·exact h
   ·rw[List.getElem?_eq_none (by simpa using h)] at hu;cases hu
  have OB:j<3:=by
   rcases Nat.lt_or_ge j 3 with h| h
   ·exact h
   ·rw[List.getElem?_eq_none (by simpa using h)] at hv;cases hv
  obtain rfl|rfl|rfl:i=0\/i=1\/i=2:=by omega
  all_goals obtain rfl|rfl|rfl:j=0\/j=1\/j=2:=by omega
  all_goals first
   |exact absurd O gL
   |(cases hu;cases hv;rw[e1,e2];exact⟨n4,by show a+1<=a+1\/a+1+1<=a;omega⟩)
   |(cases hu;cases hv;rw[e1,e3];exact⟨n5,by show a+1<=a+2\/a+2+1<=a;omega⟩)
   |(cases hu;cases hv;rw[e2,e1];exact⟨n4.symm,by show a+1+1<=a\/a+1<=a+1;omega⟩)
   |(cases hu;cases hv;rw[e2,e3];exact⟨n6,by show a+1+1<=a+2\/a+2+1<=a+1;omega⟩)
   |(cases hu;cases hv;rw[e3,e1];exact⟨n5.symm,by show a+2+1<=a\/a+1<=a+2;omega⟩)
   |(cases hu;cases hv;rw[e3,e2];exact⟨n6.symm,by show a+2+1<=a+1\/a+1+1<=a+2;omega⟩)
 have AY:∀v∈A,v.st+v.len<=Q.L.length:=λv hv=>by have:=(aq v hv).2.2;omega
 have cO:Wy Q.L A=Qj Q.L a 3 false:=by
  refine List.ext_getElem? λi=>?_;rw[RG ck];by_cases hi:a<=i/\i<a+3
  ·rw[if_pos hi,<-hA];show(Qj (Qj (Qj Q.L a _ false) (a+1) _ false) (a+2) _ false)[i]? =_;rw[e1,e2,e3];have g1:(Qj Q.L a 1 false).length=Q.L.length:=Qa ω;have g2:(Qj (Qj Q.L a 1 false) (a+1) 1 false).length=Q.L.length:=by rw[Qa (by rw[g1];omega),g1]
   rw[RG (by rw[g2];omega),RG (by rw[g1];omega),RG ω];by_cases c1:a+2<=i/\i<a+2+1
   ·rw[if_pos c1]
   ·rw[if_neg c1];by_cases c2:a+1<=i/\i<a+1+1
    ·rw[if_pos c2]
    ·rw[if_neg c2,if_pos ω]
  ·rw[if_neg hi];exact z0T A Q.L i AY λv hv=>by have:=aq v hv;omega
 refine py (e:=[(0,_)]) func16 O ntmps16 O O$ QN O$ QO$ Pt O$ qV (Qb Xi O O)$ P3 O$ OR O$ Pt O$ Pw O$ P4 VT O$ qV (OS Zj O O hR O)$ qV (Qb Zj O O) ?_
 have hg:=Ext.Pa w
 have BJ:Sp Q txt K (Vm G T X) w.drew:=h.sp.ext' hg
 have HD:∀(j:Nat) (v:Vc1),A[j]? =some v->Un Q txt v.vb v.width v.st v.xs w.drew:=λj v hj=>by
  rw[<-hA] at hj;exact z6z (P:=λ_ v=>Un Q txt v.vb v.width v.st v.xs w.drew) (hV.Zg.ext hg) (hV.col.ext hg) (hV.mar.ext hg) j v hj
 have OC:w.drew.heap.size=w.heap.size:=rfl
 refine P3 O$ SO O$ OG$ An$ An$ R0 (λw'=>Ext w w') O$ P8 0 O O (hg)$ OM 1 O (Qd O) hg$ OM 2 O (Px VT O) hg$ qT 3 O (λ_ h=>OS Zj O O (h.OH hR) O) hg$ P8 4 O O (hg)$ OM 5 O (Qd O) hg$ OM 6 O (Px Ve O) hg$ qT 7 O (λ_ h=>OS Zj O O (h.OH hR) O) hg ?_
 refine P8 8 O O (hg)$ OM 9 O (Qd O) hg$ OM 10 O (Px WC O) hg$ qT 11 O (λ_ h=>OS Zj O O (h.OH hR) O) hg$ OM 12 O (zch (parts:=[(0,.tmp 18),(1,.tmp 22),(2,.tmp 26)]) (cs:=[_,_,_]) zkh O U95 z29 O O) hg$ P8 13 O O (hg)$ qE$ Pu.qb (e:=[(0,_),(2,_),(27,_),(28,_)]) ?_
 refine OL$ RN (α:=Nat) (0) (λi=>[(0,ptr rr 0),(27,.agg #[ptr vl 0,ptr vc 0,ptr vm 0]),(28,I (i:Int))]) (λi w'=>i<=3/\z97 Q txt K (Vm G T X) A a 3 w.drew i w') (λi=>3-i) ?hI ?hround
 case hI=>exact⟨Nat.zero_le _,.zero BJ HD⟩
 case hround=>
  rintro i w4 ⟨hi,hC⟩ ih
  try dsimp only
  refine qN O$ QV O$ OJ$ An$ OX O (λh0=>?_)$ λh0=>?_
  ·have xi:i<3:=by omega
   obtain⟨v,hv⟩:∃v,A[i]? =some v:=⟨_,List.getElem?_eq_getElem ω⟩
   have Ns:(#[ptr vl 0,ptr vc 0,ptr vm 0]:Array Value)[i]? =some (ptr v.vb 0):=by
    rw[<-hA] at hv;exact z6z (P:=λi v=>(#[ptr vl 0,ptr vc 0,ptr vm 0]:Array Value)[i]? =some (ptr v.vb 0)) O O O i v hv
   refine OK$ QO$ qN O$ qV (yxa U95 z29 Zj O O O xi (v:=ptr v.vb 0) Ns)$ P3 O$ PR O$ qV (Qb Zj O O)$ Qm O$ Pt O$ Pb zjH O (hC.next aQ hv aq CE Nq ck HB) ?_;rintro _ w5 ⟨rfl,vg⟩;refine R3 O$ QF O$ Qm O$ OG$ OQ O$ Q4 O$ OT O$ OJ ?_;exact(ih (i+1) _ ⟨ω,vg⟩ ω).qb
  ·have xi:i=3:=by omega
   subst xi;obtain⟨⟨txt4,jQ,-,nw⟩,ar⟩:=hC;rw[List.take_of_length_le ω,cO] at jQ;have fN:Kp (λb=>¬Vm G T X b\/(O_ b/\b≠rr)) w w4:=hg.kp.trans (ar.ON λb e=>e.imp id λ⟨v,hv,e⟩=>by rw[e];exact HC v hv);have h0:Vg G T Q txt K X w:=⟨h.m.g,h.t,h.xk⟩;have z4:=fN.size;have h4:Vg G T (Q.Qp (Qj Q.L a 3 false)) txt4 K X w4:=h0.Zb fN (λb e=>e.imp id λe=>⟨h.xr _ e.1,AX b e.1⟩) (λ_ e=>e) (λ_ e=> .inl e) (λj e=>by have:=aQ j (.inl (.inl e));omega) jQ O (Qa ck) h.m.g.VB (λy e=>nw y (.inl ω));have fd:=fN.OH hR (λe=>e.elim (λe=>e (.inl (.inl gI))) λe=>e.2 O);refine OV O$ QI O$ Pw O$ P4 VT O$ OY O (QP z29 O O O fd ξ) ?_;rintro w5 ⟨lZ,aj⟩;refine Pw O$ P4 zbC O$ OY O (QP UH O O O lZ ξ) ?_;rintro w6 ⟨ie,aN⟩;refine qM O$ P3 O$ OI func16 O ?_;have AZ:Kp (λj=>j=rr) w4 w6:=aj.trans aN;exact⟨_,rfl,rfl,txt4,h4.own AZ (λj e=>by rw[e];exact⟨gI,AX rr hV.o.1⟩),nw,(fN.ON λb e=>e.imp (λe e2=>e (.inl (.inl e2))) And.left).trans (AZ.ON λb e=> .inr (by rw[e];exact hV.o.1))⟩
end
def UO (g t:List (List Nat)):Nat->Sk
 |0=>Sk.new g.length
 |k+1=>(UO g t k).step g t
structure z47 (g t:List (List Nat))(k:Nat):Prop where
 d:(UO g t k).done=true
 f:∀j,j<k->(UO g t j).done=false
theorem z47.eq {g t:List (List Nat)}{k k':Nat}(h:z47 g t k)(h':z47 g t k'):k=k':=by
 rcases Nat.lt_trichotomy k k' with e|e| e
 ·have:=h'.f k e;rw[h.d] at this;cases this
 ·exact e
 ·have:=h.f k' e;rw[h'.d] at this;cases this
section
variable {g t:List (List Nat)}
theorem z1E:∀k,(UO g t k).steps=k
 |0=>rfl
 | k + 1 => by
   show(UO g t k).steps+1=k+1;rw[z1E k]
def z6e (hn:g.length<=60):∀k,UP g (UO g t k)
 |0=> .new hn
 |k+1=>(z6e hn k).step hn
def z5A (hg:S7 g)(h1:1<=g.length)(ht:∀u v,u∈P5 t v↔v∈P5 g u):∀k,(∀j,j<k->(UO g t j).done=false)->∃b,b+k<=g.length*g.length+3*g.length/\ScJ g (UO g t k) b
 |0,_=>⟨_,Nat.le_refl _,.new hg h1⟩
 | k + 1, h => by
   obtain⟨b,hb,hj⟩:=z5A hg h1 ht k λj hj=>h j ω;obtain⟨b',gN,Nt⟩:=hj.step hg ht (h k ω);exact⟨b',ω,Nt⟩
def Zl {u v:Nat}(h:S7 g):u∈P5 (Qu g) v↔v∈P5 g u:=by
 have hm:∀x y,y∈P5 g x->x<g.length/\y<g.length:=λx y hy=>by
  unfold P5 at hy;by_cases e:x<g.length
  ·rw[List.getElem?_eq_getElem e] at hy;exact⟨e,h.lt _ (List.getElem_mem e) y hy⟩
  ·rw[List.getElem?_eq_none ω] at hy;cases hy
 by_cases hv:v<g.length
 ·have e:P5 (Qu g) v=(List.range g.length).filter λx=>decide (v∈P5 g x):=by
   show((Qu g)[v]?.getD [])=_;rw[Z5 g hv];rfl
  rw[e,List.mem_filter,List.mem_range];exact⟨λe=>of_decide_eq_true e.2,λe=>⟨(hm u v e).1,decide_eq_true e⟩⟩
 ·have e:P5 (Qu g) v=[]:=by
   show((Qu g)[v]?.getD [])=_;rw[List.getElem?_eq_none (by rw[RZ];omega)];rfl
  rw[e];exact⟨λe=>(by cases e),λe=>absurd (hm u v e).2 hv⟩
end
def Qt.append {σ:Type}{R:RuK σ}{G T:GwP}{w w1 w2:World}{Q:Rg}{txt:Int->OO}{K:Nat}{X O_:Nat->Prop}{rr a L:Nat}{s:σ}(h:Qt R G T Q txt K X rr O_ a L s w){u v:Value}(hu:∀b,u.ownBlock=some b->X b)(hn:∀b,u.ownBlock=some b->b≠G.k/\b≠G.x/\b≠T.k/\b≠T.x/\b≠1/\b≠2/\¬O_ b)(hx:Ext w w1)(hk:Kp (λk=>u.ownBlock=some k) w1 w2)(hf:∀g,v.ownBlock=some g->u.ownBlock=some g\/w1.heap.size<=g)(hl:∀b,v.ownBlock=some b->b<w2.heap.size):Qt R G T Q txt K (λb=>X b\/v.ownBlock=some b) rr O_ a L s w2:=by
 refine(h.ext hx).step hk (λj e=>⟨hu j e,hn j e⟩) (λj e=> .inl e) λj e=>?_
 rcases e with e| e
 ·exact .inl e
 ·rcases hf j e with e2|e2
  ·exact .inl (hu j e2)
  ·exact .inr ⟨e2,hl j e⟩
section
variable {G T:GwP}{w w':World}{Q:Rg}{txt:Int->OO}{K:Nat}{X:Nat->Prop}{a d:Nat}
def z5Y (h:Vg G T Q txt K X w)(hK:K<=500000000000)(h1:1<=G.g.length)(ez:G.g.length<=40)(ay:S7 G.g)(ht:T.g=Qu G.g)(dC:Pre Q.L a)(jI:G.st+G.len<=a)(vB:T.st+T.len<=a)(ha:a<=146)(hL:Q.L.length=200):
  Ps prog 10 [.agg #[ptr d 0,ptr Q.s 0,ptr G.k 0,ptr T.k 0,I ((200-a:Nat):Int)]] w λv w'=>∃(k b c:Nat) (txt':Int->OO) (K':Nat),v= .tuple #[.slice (some ⟨b,0,none⟩) G.g.length c,I (k:Int)]/\1<=k/\z47 G.g (Qu G.g) k/\Sl w' (.slice (some ⟨b,0,none⟩) G.g.length c) 39 1 G.g.length ((UO G.g (Qu G.g) k).label.map P7)/\Vg G T Q txt' K' (λj=>X j\/j=b) w'/\K'<=K+20000000/\w.heap.size<=b/\(∀y:Int,y<(a:Int)->txt' y=txt y)/\Kp (λb=>¬X b) w w':=by
 have j5:T.g.length=G.g.length:=by rw[ht];exact RZ _
 have rL:∀u v,u∈P5 (Qu G.g) v↔v∈P5 G.g u:=λu v=>Zl ay
 have aQ:=h.lt
 have mU:=h.xk
 have cg:=h.far
 have mR:G.g.length<=60:=by omega
 have fA:maxLen=9223372036854775807:=rfl
 refine py (e:=[(0,_)]) func10 O ntmps10 O O$ qN O$ OP O O (R6 O (cs:=[ptr d 0,ptr Q.s 0,ptr G.k 0,ptr T.k 0,I ((200-a:Nat):Int)]) O) ?_
 rintro _ w1 ⟨b1,rfl,bK,ad,ai⟩
 have z1:=ad.size
 have q1:=ai.lt
 obtain⟨X1,dl⟩:∃X1:Nat->Prop,(λj=>X j\/j=b1)=X1:=⟨_,rfl⟩
 have cZ:∀j,X j->X1 j:=λj hj=>by rw[<-dl];exact .inl hj
 have tt:X1 b1:=by rw[<-dl];exact .inr O
 have bh:Vg G T Q txt K X1 w1:=h.grow ad (λj hj=>by rw[<-dl] at hj;exact hj.imp id λe=>by omega) cZ
 refine SH O$ QW O$ P4 z6A O$ qV (OS XB O O ai O)$ P4 zeA O$ qV (OS Z8 O O ai O)$ P4 zfm O$ qV (OS Z8 O O ai O)$ Pb zjC O (z9w bh ω ez ay ht dC jI vB ω) ?_
 rintro _ w2 ⟨rr,O_,txt2,rfl,Jp,dm,pJ,am⟩
 obtain⟨Q2,pG⟩:∃Q2,Q.Qp (Qj Q.L a 3 true)=Q2:=⟨_,rfl⟩
 rw[pG] at dm
 have vK:Q2.L=Qj Q.L a 3 true:=by rw[<-pG];rfl
 have rE:Q2.L.length=200:=by rw[vK,Qa ω,hL]
 have rD:Q2.s=Q.s/\Q2.m=Q.m:=by rw[<-pG];exact⟨rfl,rfl⟩
 obtain⟨Y,hY⟩:∃Y:Nat->Prop,(λb=>X1 b\/O_ b)=Y:=⟨_,rfl⟩
 rw[hY] at dm
 have aH:∀j,X1 j->Y j:=λj hj=>by rw[<-hY];exact .inl hj
 have z2:=am.size
 refine OT O$ SM O$ Qr O$ PR O$ QF O$ Qm O$ Pt O$ Pb zku O (z3O dm) ?_
 rintro _ w2 ⟨rfl,rfl⟩
 have hM:∃M:Nat,((G.g.length:Int)+2)*((G.g.length:Int)+2)=(M:Int)/\G.g.length*G.g.length+3*G.g.length<M/\M<=2000:=by
  refine⟨(G.g.length+2)*(G.g.length+2),by push_cast;rfl,?_,?_⟩
  ·rw[Nat.add_mul,Nat.mul_add];omega
  ·have:=Nat.mul_le_mul (show G.g.length+2<=42 by omega) (show G.g.length+2<=42 by omega);omega
 obtain⟨M,dA,jU,wK⟩:=hM
 have sT:Y b1/\¬O_ b1:=⟨aH _ tt,λe=>by have:=Jp _ e;omega⟩
 have ak:=am.OH ai (λe=>e tt)
 have Jq:∀{b},X b->¬O_ b:=λhb e=>by have:=aQ _ (.inl (.inl hb));have:=Jp _ e;omega
 refine P3 O$ An$ QN O$ OL$ RN (α:=Nat) (0) (λk=>[(1,ptr b1 0),(4,ptr rr 0),(6,I (G.g.length:Int)),(7,I (k:Int))]) (λk w'=>(∃txt' K',Qt (Sx false T.k) G T Q2 txt' K' Y rr O_ a 3 (UO G.g (Qu G.g) k) w'/\K'<=K+4+9000*k/\∀y:Int,y<(a:Int)->txt' y=txt y)/\(∀j,j<=k->(UO G.g (Qu G.g) j).done=false)/\Kp (λb=>¬Y b\/O_ b) w2 w') (λk=>2000-k) ?hI ?hround
 case hI=>exact⟨⟨txt2,_,dm,ω,λy e=>pJ y (.inl e)⟩,λj hj=>by rw[Nat.le_zero.1 hj];rfl,Kp.refl _ _⟩
 case hround =>
  rintro k w4 ⟨⟨txt4,K4,bF,H0,nw⟩,eU,ar⟩ ih;dsimp only at ih⊢;obtain⟨bd,wj,-⟩:=z5A ay h1 rL k λj hj=>eU j ω;have aM:=ar.OH ak (λe=>e.elim (λe=>e sT.1) sT.2);have jv:=z6e (g:=G.g) (t:=Qu G.g) mR k;have lM:=z1E (g:=G.g) (t:=Qu G.g) k;have fV:=z4E bF jv j5 ω (eU k (Nat.le_refl _)) ω;rw[ht,show(UO G.g (Qu G.g) k).step G.g (Qu G.g)=UO G.g (Qu G.g) (k+1) from rfl] at fV
  try dsimp only
  refine An$ QI O$ Q4 O$ OT O$ Q4 O$ qV (Y8 O O (by rw[dA];omega)) ?_;rw[dA];refine QV O$ RP$ OJ$ OZ O$ OK$ QO$ Pt O$ Pb zkC O (fV) ?_;rintro _ w5 ⟨rfl,⟨txt5,K5,bO,Nj,AM⟩,aj⟩;have lY:Kp (λb=>¬Y b\/O_ b) w2 w5:=ar.trans aj;have B0:∀y:Int,y<(a:Int)->txt5 y=txt y:=λy e=>(AM y (.inl e)).trans (nw y e);refine OT O$ SM O$ Qr O$ PR O$ QF O ?_;by_cases hd:(UO G.g (Qu G.g) (k+1)).done=true
  ·rw [hd]; obtain ⟨s, hs⟩ : ∃ s, UO G.g (Qu G.g) (k + 1) = s := ⟨_, rfl⟩; rw [hs] at bO hd; have Jr : UP G.g s := hs ▸ z6e (g := G.g) (t := Qu G.g) mR (k + 1); have Nu : ∀ b, Y b -> b < w5.heap.size := λb hb => bO.lt b (.inl (.inl hb)); have pf := bO.far; refine Qm O (PR O (qV ((S5 O)) (Qm O (QN O (An (QN O (OL (RN (α := Nat × Value) ((0, .slice none 0 0)) (λy => [(1, ptr b1 0), (4, ptr rr 0), (6, I (G.g.length : Int)), (7, I (k : Int)), (10, y.2), (11, I (y.1 : Int))]) (λy w' => y.1 <= G.g.length /\ Sl w' y.2 39 1 y.1 ((s.label.take y.1).map P7) /\ (∀ b, y.2.ownBlock = some b -> w5.heap.size <= b) /\ (∃ Z : Nat -> Prop, (∀ b, Y b -> Z b) /\ (∀ b, y.2.ownBlock = some b -> Z b) /\ Qt (Sx false T.k) G T Q2 txt5 K5 Z rr O_ a 3 s w') /\ Kp (λb => ¬ Y b) w5 w') (λy => G.g.length - y.1) ?hI ?hround))))))))
   case hI=>exact⟨Nat.zero_le _,by simpa using Sl.nil _ _ _,λb hb=>(by cases hb),⟨Y,λ_ e=>e,λb hb=>(by cases hb),bO⟩,Kp.refl _ _⟩
   case hround=>
    rintro⟨v,u⟩ w6 ⟨hv,fQ,vL,⟨Z,C5,B1,h6⟩,aN⟩ ih2;dsimp only at hv fQ vL B1 ih2⊢;have z6:=aN.size;have aX:=(lY.trans (aN.ON λb e=> .inl e)).OH ak (λe=>e.elim (λe=>e sT.1) sT.2)
    try dsimp only
    refine An$ QI O$ QV O$ OJ$ OX O (λh0=>?_)$ λh0=>?_
    ·have kV:v<G.g.length:=by omega
     obtain⟨x,hx⟩:∃x,s.label[v]? =some x:=⟨_,List.getElem?_eq_getElem (by rw[Jr.ln];exact kV)⟩;refine OK$ QO$ QI O$ Pb zka O (z8y h6 hd hx) ?_;rintro _ w7 ⟨rfl,h7,aB⟩;have gQ:=fQ.kp aB (λb hb e=>e (.inl (.inl (B1 b hb))));have z7:=aB.size;refine OT O$ SM O$ Qr O$ PR O$ QF O$ Qm O$ OQ O$ Pl O$ OP O O (Yx (cs:=[_]) (zs:=[Value.int .u64 0]) U34 Tm O (by kernel_rfl) O O O ψ) ?_;rintro _ w8 ⟨b8,rfl,⟨j3,cR,cu⟩,dJ⟩;refine OP O O (pap U34 Tm O ψ O O (gQ.ext cR) dJ.rd (by intro c hc;simp at hc;subst hc;rfl) ω ω) ?_;rintro u9 w9 ⟨ko,aw,Js,-⟩;have z8:=cR.size;have uz:∀b,u.ownBlock=some b->b≠G.k/\b≠G.x/\b≠T.k/\b≠T.x/\b≠1/\b≠2/\¬O_ b:=λb hb=>pf b (vL b hb);have h9:=h7.append B1 uz cR aw Js (λb hb=>ko.lt hb);have tD:Kp (λb=>¬Y b) w6 w9:=((aB.ON λb e e2=>e (.inl (.inl (C5 b e2)))).trans cR.kp).trans (aw.ON λb e e2=>by have:=vL b e;have:=Nu b e2;omega);refine P3 O$ OG$ Rp O$ Q4 O$ P3 O ?_
     refine(ih2 (v+1,u9) _ ⟨by show v+1<=G.g.length;omega,?_,λb hb=>by
      rcases Js b hb with e| e
      ·exact vL b e
      ·omega,⟨_,λb e=> .inl (C5 b e),λb e=> .inr e,h9⟩,aN.trans tD⟩ (by show G.g.length-(v+1)<G.g.length-v;omega)).qb
     show Sl w9 u9 _ 1 (v+1) ((s.label.take (v+1)).map P7);rw[PK hx,List.map_append];exact ko
    ·have kV:v=G.g.length:=by omega
     subst kV;rw[List.take_of_length_le (by rw[Jr.ln];exact Nat.le_refl _)] at fQ
     obtain⟨gb,gc,rfl⟩:∃b c,u= .slice (some ⟨b,0,none⟩) G.g.length c:=by
      rcases fQ.shape with⟨-,e⟩|⟨b,c,e,-⟩
      ·omega
      ·exact⟨b,c,e⟩
     have hg:=Ext.Pa w6;have fF:=z3K (h6.ext hg) dC.a2 ω (λi e1 e2=>by rw[vK,RG ω,if_pos ⟨e1,e2⟩]);rw[show Q2.Qp (Qj Q2.L a 3 false)=Q by rw[vK,z8J dC ω,<-pG];rfl] at fF;have rH:∀{b},Z b->¬O_ b->¬(¬Z b\/O_ b):=λh1 h2 e=>e.elim (λe=>e h1) h2;have HV:¬O_ gb:=(pf gb (vL gb O)).2.2.2.2.2.2;have vM:=C5 _ sT.1;have iZ:∀{w14:World},Kp (λb=>¬Z b\/O_ b) w6.drew w14->Kp (λb=>¬Z b\/O_ b) w6 w14:=λhk=>hg.kp.trans hk;have ct:∀{w14 w16:World},Kp (λb=>¬Z b\/O_ b) w6.drew w14->Ext w14 w16->Kp (λb=>¬Z b\/O_ b) w6 w16:=λhk hx=>(iZ hk).trans hx.kp;refine OV O$ An$ An$ R0 (λw'=>Kp (λb=>¬Z b\/O_ b) w6 w') O$ P8 0 O O (hg.kp)$ S1 1 O zk4 O (fF) ?_;rintro _ w14 ⟨rfl,txt14,rI,HE,cH⟩;refine⟨iZ cH,?_⟩;refine OM 2 O (yne O O) (iZ cH)$ TC$ P8 3 O O (iZ cH)$ OM 4 O (Px z6A O) (iZ cH)$ qT 5 O (λ_ h=>OS XB O O (h.OH aX (rH vM sT.2)) O) (iZ cH)$ OM 8 O (Px zfb O) (iZ cH)$ qT 9 O (λ_ h=>OS U3 O O (h.OH aX (rH vM sT.2)) O) (iZ cH)$ S1 6 O zk0 O (rI.sp.map) ?_;rintro _ w15 ⟨rfl,rfl⟩;refine⟨iZ cH,?_⟩;have eZ:=rI.sp.room dC ω;rw[hL] at eZ;refine S1 7 O zhR O (eZ) ?_;rintro _ w16 ⟨rfl,bA⟩;refine⟨ct cH bA,?_⟩;refine OM 10 O (yne O O) (ct cH bA)$ TC$ OM 11 O (U6 O O) (ct cH bA)$ P8 12 O O (ct cH bA)$ OM 13 O (Px z6A O) (ct cH bA)$ qT 14 O (λ_ h=>OS XB O O (h.OH aX (rH vM sT.2)) O) (ct cH bA) ?_;have lM:=z4Q (rI.sp.ext' bA);refine S1 15 O zkl O (lM) ?_;rintro _ w17 ⟨c1,c2,c3,c4,c5,rfl,dv⟩;refine⟨ct cH (bA.trans dv),?_⟩;refine OM 16 O (yfd zfo O O) (ct cH (bA.trans dv))$ OM 17 O (Y7 O O) (ct cH (bA.trans dv))$ TC$ OM 18 O (U6 O O) (ct cH (bA.trans dv))$ qE$ SO O$ QI O$ Q4 O$ Qr O$ OI func10 O ?_;have eT:=bA.trans dv;have sU:=ct cH eT;have Jt:∀j,X j->Z j:=λj e=>C5 j (aH j (cZ j e));have HF:Vg G T Q txt14 K5 (λj=>X j\/j=gb) w17:=(rI.grow eT (λj e=> .inl e) (λ_ e=>e)).less (λj e=>e.elim (Jt j) λe=>by rw[e];exact B1 gb O) ⟨.inl mU.1,.inl mU.2.1,.inl mU.2.2.1,.inl mU.2.2.2.1,.inl mU.2.2.2.2.1,.inl mU.2.2.2.2.2⟩;rw[<-hs] at fQ hd;refine⟨_,rfl,k+1,gb,gc,txt14,K5,rfl,ω,⟨hd,λj hj=>eU j ω⟩,fQ.kp sU (λb hb=>rH (B1 b hb) ((pf b (vL b hb)).2.2.2.2.2.2)),HF,ω,by have:=vL gb O;have:=lY.size;omega,λy e=>(HE y (.inl e)).trans (B0 y e),?_⟩;refine(((ad.kp.trans (am.ON λb e e2=>e (cZ b e2))).trans (lY.ON λb e e2=>?_)).trans (aN.ON λb e e2=>e (aH b (cZ b e2)))).trans (sU.ON λb e e2=>?_)
     ·exact e.elim (λe=>e (aH b (cZ b e2))) (Jq e2)
     ·exact e.elim (λe=>e (Jt b e2)) (Jq e2)
  ·have nF:(UO G.g (Qu G.g) (k+1)).done=false:=by simpa using hd
   rw[nF];refine Qm O$ PR O$ qV ((S5 O))$ OJ$ OZ O$ OV O$ Rp O$ Q4 O$ P3 O ?_
   exact(ih (k+1) w5 ⟨⟨txt5,K5,bO,ω,B0⟩,λj hj=>by
    by_cases e:j=k+1
    ·rw[e];exact nF
    ·exact eU j ω,lY⟩ ω).qb
end
section
end
abbrev Wd.x (W:Wd)(XX:Nat->Prop):Nat->Prop:=λb=>XX b/\b≠W.G.rb/\b≠W.T.rb
def WdM.gw2 {W:Wd}{g:List (List Nat)}{XX:Nat->Prop}{w:World}(h:WdM W g XX w):Vg W.G W.T W.Q W.txt W.K (W.x XX) w:=by
 obtain⟨r1,r2,r3,r4,r5,r6,r7⟩:=h.rb
 obtain⟨⟨a1,a2⟩,⟨a3,a4⟩,⟨a5,a6⟩,a7,a8⟩:=h.hg.xk
 obtain⟨⟨c1,c2⟩,⟨c3,c4⟩,⟨c5,c6⟩,c7,c8⟩:=h.ht.xk
 refine⟨h.hg.less (λb e=>?_) ⟨.inl ⟨a1,a2,r4.symm⟩,.inl ⟨a3,a4,r5.symm⟩,.inl ⟨a5,a6,c6⟩,.inl ⟨a7,a8,c8⟩⟩,h.ht.less (λb e=>?_) ⟨.inl ⟨c1,r6.symm,c2⟩,.inl ⟨c3,r7.symm,c4⟩,.inl ⟨a5,a6,c6⟩,.inl ⟨a7,a8,c8⟩⟩,⟨a1,a2,r4.symm⟩,⟨a3,a4,r5.symm⟩,⟨c1,r6.symm,c2⟩,⟨c3,r7.symm,c4⟩,⟨a5,a6,c6⟩,⟨a7,a8,c8⟩⟩
 ·rcases e with e| e
  ·exact⟨e.1,e.2.1⟩
  ·rw[e];exact⟨r2,λe=>r3 e.symm⟩
 ·rcases e with e| e
  ·exact⟨e.1,e.2.2⟩
  ·rw[e];exact⟨r1,r3⟩
theorem z47.least {g:List (List Nat)}{k:Nat}(h:z47 g (Qu g) k)(ay:S7 g)(h1:1<=g.length):(UO g (Qu g) k).label.length=g.length/\∀v,v<g.length->∃x,(UO g (Qu g) k).label[v]? =some x/\Wk g v x:=by
 obtain⟨b,-,hj⟩:=z5A ay h1 (λu v=>Zl ay) k h.f
 exact⟨hj.i.ln,λv hv=>hj.end_ h.d hv⟩
def Wz {W:Wd}{g:List (List Nat)}{txt:Int->OO}{K:Nat}{X:Nat->Prop}{w:World}(h:Vg W.G W.T W.Q txt K X w)(hK:K<=500000000000)(ax:W.G.g=g)(Fn:W.T.g=Qu g)(dC:Pre W.Q.L W.a)(ha:W.a<=146)(hL:W.Q.L.length=200)(OD:W.G.st+W.G.len<=W.T.st)(rL:W.T.st+W.T.len<=W.a)(ay:S7 g)(h1:1<=g.length)(ez:g.length<=40):
  Ps prog 10 [.agg #[ptr W.d 0,ptr W.Q.s 0,ptr W.G.k 0,ptr W.T.k 0,I ((200-W.a:Nat):Int)]] w λv w'=>∃(k b c:Nat) (txt':Int->OO) (K':Nat),v= .tuple #[.slice (some ⟨b,0,none⟩) g.length c,I (k:Int)]/\1<=k/\z47 g (Qu g) k/\Sl w' (.slice (some ⟨b,0,none⟩) g.length c) 39 1 g.length ((UO g (Qu g) k).label.map P7)/\Vg W.G W.T W.Q txt' K' (λj=>X j\/j=b) w'/\K'<=K+20000000/\w.heap.size<=b/\(∀y:Int,y<(W.a:Int)->txt' y=txt y)/\Kp (λb=>¬X b) w w':=by
 subst ax
 have:=z5Y (d:=W.d) h hK h1 ez ay Fn dC ω rL ha hL
 exact this
abbrev g3:List (List Nat):=[[1],[0],[0]]
def zeb:S7 g3:=⟨λl hl=>by
 simp only[List.mem_cons,List.not_mem_nil,or_false] at hl
 rcases hl with rfl|rfl|rfl<;>exact⟨ψ,ψ⟩,ψ,ψ⟩
def zfs:z47 g3 (Qu g3) 6:=⟨ψ,ψ⟩
theorem zfh:(UO g3 (Qu g3) 6).label=[0,0,2]:=by decide
def z5b {w:World}(hG:OU w 1 (Sq .gamma) 294)(hU:OU w 2 (Sq .unary) 294):Ps prog 9 [] w λv w'=>v= .bool true/\Ext w w':=by
 refine py (e:=[]) func9 O ntmps9 O O$ qN O$ QW O$ OP O O (Yx (cs:=[_]) (zs:=[Value.int .u32 0]) Pz Pc O (by kernel_rfl) O O O ψ) ?_
 rintro _ w1 ⟨b1,rfl,⟨bK,ad,ai⟩,jT⟩
 refine OP O O (Yx (cs:=[_]) (zs:=[Value.int .u32 0]) Pz Pc O (by kernel_rfl) O O O ψ) ?_
 rintro _ w2 ⟨b2,rfl,⟨bN,ae,ak⟩,dc⟩
 refine OP O O (Yx (cs:=[_]) (zs:=[Value.int .u32 0]) Pz Pc O (by kernel_rfl) O O O ψ) ?_
 rintro _ w3 ⟨b3,rfl,⟨dI,ah,au⟩,de⟩
 refine OP O O (Yx (cs:=[_,_,_]) (zs:=[Value.slice none 0 0,Value.slice none 0 0,Value.slice none 0 0]) U23 U7 O (by kernel_rfl) O O O ψ) ?_
 rintro _ w4 ⟨b4,rfl,⟨fX,aG,aM⟩,eA⟩
 have jR:GrM w4 (.slice (some ⟨b4,0,none⟩) 3 3) g3:=by
  refine⟨⟨_,eA.rd,λi l hl=>?_⟩⟩
  match i,hl with
  | 0, hl =>
    cases hl
    exact⟨_,_,rfl,Nat.le_refl _,((jT.rd.ext ae).ext ah).ext aG⟩
  | 1, hl =>
    cases hl
    exact⟨_,_,rfl,Nat.le_refl _,(dc.rd.ext ah).ext aG⟩
  | 2, hl =>
    cases hl
    exact⟨_,_,rfl,Nat.le_refl _,de.rd.ext aG⟩
  |i+3,hl=>cases hl
 have cF:=((ad.trans ae).trans ah).trans aG
 have z4:=cF.size
 refine Pb cf8 O (zcm (g:=g3) zeb ψ ψ jR (cF.OH hG) (cF.OH hU) 1 0 ψ ψ) ?_
 rintro _ w5 ⟨W,XX,rfl,hW,aV,eD⟩
 have bS:=cF.trans aV
 have z5:=aV.size
 refine OT O$ SM O$ OP O O (Rz (cs:=[_,_,_,_,_]) Zn O) ?_
 rintro _ w6 ⟨b6,rfl,nD,aR,aX⟩
 have z6:=aR.size
 refine OY O (PL (news:=W.v) Zn O O O O aX ξ) ?_
 rintro w7 ⟨bR,aB⟩
 have je:OU w7 b6 [ptr W.d 0,ptr W.Q.s 0,ptr W.G.k 0,ptr W.T.k 0,I ((200-W.a:Nat):Int)] 30:=bR
 have gX:Ext w5 w7:=aR.It aB λb e=>by omega
 have h7:=hW.gw2.grow gX (λj e=> .inl e) (λ_ e=>e)
 have Nv:=hW.K
 refine P3 O$ PR O$ qV ((S5 O)) ?_
 rw[show(!true)=false from rfl]
 refine Qm O$ qN O$ qV (Pv U30 O Zn O (OU.cells (n:=5) je (news:=[_,_,_,_,_]) O) O)$ Pb zfA O (Wz h7 ω hW.gg hW.tg hW.pre hW.a hW.L hW.gs hW.ts zeb ψ ψ) ?_
 rintro _ w8 ⟨k,b,c,txt8,K8,rfl,az,hE,dJ,-,-,j3,-,aL⟩
 have aN:k=6:=hE.eq zfs
 subst aN
 rw[zfh] at dJ
 have lQ:g3.length=3:=rfl
 rw[lQ] at dJ⊢
 have c0:=PY dJ.rd (i:=0) (v:=P7 0) O
 have c1:=PY dJ.rd (i:=1) (v:=P7 0) O
 have c2:=PY dJ.rd (i:=2) (v:=P7 2) O
 refine OT O$ SM O$ SH O$ R3 O$ QD O$ RP$ Pl O$ RO U34 O$ Rk O$ RP$ Ra O$ Pl O$ qV (Qc U34 Tm O O ω)$ qV (PC Rw O O c0) ?_
 refine Rk O$ RP$ Ra O$ Pl O$ qV (Qc U34 Tm O O ω)$ qV (PC Rw O O c1)$ Rk O$ RP$ Ra O$ Pl O$ qV (Qc U34 Tm O O ω)$ qV (PC Rw O O c2)$ Rk O$ RP ?_
 refine Ra O$ P3 O$ Pu.qb (e:=[(0,_)]) ?_
 refine OI func9 O (⟨_,rfl,rfl,(bS.trans gX).It aL λb e=>?_⟩)
 rcases Nat.lt_or_ge b w.heap.size with h| h
 ·exact absurd (eD b ω) e
 ·exact h
def z8v {g:List (List Nat)}{v x y:Nat}(h1:Wk g v x)(h2:Wk g v y):x=y:=Nat.le_antisymm (h1.2 y h2.1) (h2.2 x h1.1)
def sturned_ret {w:World}(hG:OU w 1 (Sq .gamma) 294)(hU:OU w 2 (Sq .unary) 294)(n fr fo:Int)(hn:JIq n)(jO:JIq fr)(uX:JIq fo){ea:Option Addr}{ec:Nat}{es:List (Nat×Nat)}(un:es.length<=9000000000000000000)(hE:EdR w ea es):Ps prog 4 [I n,.slice ea es.length ec,I fr,I fo] w λv w'=>v= .bool true/\Ext w w':=by
 refine py (e:=[(0,_),(1,_),(2,_),(3,_)]) func4 O ntmps4 O O$ qN O$ R3 O$ Pb cf7 O (z3C n hn _) ?_
 rintro _ w ⟨m,rfl,pK,eu,rfl⟩
 refine OT O$ Pb cf6 O (z9p pK eu un hE) ?_
 rintro _ w1 ⟨g,bg,rfl,jN,ay,io,ad⟩
 have B2:=io.gr
 have bh:1<=g.length:=by omega
 have i7:g.length<=40:=by omega
 refine QW O$ Pl O$ OT O$ Pb cf8 O (z1N ay bh i7 B2 (ad.OH hG) (ad.OH hU) fr fo jO uX) ?_
 rintro _ w5 ⟨W,XX,rfl,hW,aV,eD,-⟩
 have z5:=aV.size
 refine OT O$ SM O$ OP O O (Rz (cs:=[_,_,_,_,_]) Zn O) ?_
 rintro _ w6 ⟨b6,rfl,nD,aR,aX⟩
 have z6:=aR.size
 refine OY O (PL (news:=W.v) Zn O O O O aX ξ) ?_
 rintro w7 ⟨bR,aB⟩
 have je:OU w7 b6 [ptr W.d 0,ptr W.Q.s 0,ptr W.G.k 0,ptr W.T.k 0,I ((200-W.a:Nat):Int)] 30:=bR
 have l7:=bR.lt
 have z7:=aB.size
 have gX:Ext w5 w7:=aR.It aB λb e=>by omega
 have dv:=aV.trans gX
 have Nv:=hW.K
 obtain⟨gb,go,gc,kh,Gu⟩:=(B2.ext dv).r bh
 cases kh
 have j5:=RZ g
 refine R3 O$ Pb zg9 O (z0V ay Gu) ?_
 rintro _ w8 ⟨bt,rfl,Gv,cR⟩
 have z8:=cR.size
 have vN:=dv.trans cR
 obtain⟨fr2,B3⟩:∃z,IntKind.i64.wrap (fr+1)=z:=⟨_,rfl⟩
 have B4:JIq fr2:=by
  rw[<-B3,IntKind.wrap_i64];omega
 obtain⟨fo2,oR⟩:∃z,IntKind.i64.wrap (fo+1)=z:=⟨_,rfl⟩
 have oS:JIq fo2:=by
  rw[<-oR,IntKind.wrap_i64];omega
 refine OT O$ qV (z6d O O) ?_
 rw[B3]
 refine OT O$ qV (z6d O O) ?_
 rw[oR]
 have Ju:=z1N (Yv ay) ω ω Gv.gr (vN.OH (ad.OH hG)) (vN.OH (ad.OH hU)) fr2 fo2 B4 oS
 rw[j5] at Ju
 refine Pb cf8 O (Ju) ?_
 rintro _ wa ⟨V,XV,rfl,hV,C6,Nw,v1,v2,v3,v4⟩
 have za:=C6.size
 refine OT O$ SM O$ OP O O (Rz (cs:=[_,_,_,_,_]) Zn O) ?_
 rintro _ wb ⟨bb,rfl,tq,xz,su⟩
 have zb:=xz.size
 refine OY O (PL (news:=V.v) Zn O O O O su ξ) ?_
 rintro wc ⟨ew,ao⟩
 have HG:OU wc bb [ptr V.d 0,ptr V.Q.s 0,ptr V.G.k 0,ptr V.T.k 0,I ((200-V.a:Nat):Int)] 30:=ew
 have lc:=ew.lt
 have zc:=ao.size
 have rJ:Ext wa wc:=xz.It ao λb e=>by omega
 have vO:=vN.trans (C6.trans rJ)
 have OE:=hV.K
 refine P3 O$ Pu.qb (e:=[(8,_),(10,_),(11,_),(12,_),(13,_)]) ?_
 refine PR O$ qV ((S5 O)) ?_
 rw[show(!true)=false from rfl]
 refine Pl O$ qV ((S5 O)) ?_
 rw[show(!true)=false from rfl]
 refine PT O$ OT O$ Pb cf9 O (z5b (vO.OH (ad.OH hG)) (vO.OH (ad.OH hU))) ?_
 rintro _ wd ⟨rfl,wU⟩
 refine qV ((S5 O)) ?_
 rw[show(!true)=false from rfl]
 have zd:=wU.size
 have HH:Ext w5 wd:=((gX.trans cR).trans (C6.trans rJ)).trans wU
 have HI:Ext wa wd:=rJ.trans wU
 have HJ:Ext w7 wd:=(cR.trans (C6.trans rJ)).trans wU
 have HK:=HJ.OH je
 have HM:=wU.OH HG
 obtain⟨X,hX⟩:∃X:Nat->Prop,(λb=>W.x XX b\/(w5.heap.size<=b/\b<wd.heap.size))=X:=⟨_,rfl⟩
 have Jv:∀b,b<w1.heap.size->X b:=λb hb=>by rw[<-hX];exact .inl (eD b hb)
 have Jw:∀b,w5.heap.size<=b->b<wd.heap.size->X b:=λb h1 h2=>by rw[<-hX];exact .inr ⟨h1,h2⟩
 have Ny:Vg W.G W.T W.Q W.txt W.K X wd:=hW.gw2.grow HH (λj e=>by rw[<-hX] at e;exact e) (λj e=>by rw[<-hX];exact .inl e)
 obtain⟨X2,eO⟩:∃X2:Nat->Prop,(λb=>V.x XV b\/(wa.heap.size<=b/\b<wd.heap.size))=X2:=⟨_,rfl⟩
 have B5:∀b,b<w8.heap.size->X2 b:=λb hb=>by rw[<-eO];exact .inl (Nw b hb)
 have HD:Vg V.G V.T V.Q V.txt V.K X2 wd:=hV.gw2.grow HI (λj e=>by rw[<-eO] at e;exact e) (λj e=>by rw[<-eO];exact .inl e)
 refine PT O$ Qm O$ qN O$ qV (Pv U30 O Zn O (OU.cells (n:=5) HK (news:=[_,_,_,_,_]) O) O)$ Pb zfA O (Wz Ny ω hW.gg hW.tg hW.pre hW.a hW.L hW.gs hW.ts ay bh i7) ?_
 rintro _ we ⟨k,b,c,txt9,K9,rfl,az,wu,ko,-,-,ir,-,lD⟩
 have ze:=lD.size
 have lgG:=hG.lt
 have lgU:=hU.lt
 have z1:=ad.size
 have HN:Kp (λj=>j<wd.heap.size/\¬X j) wd we:=lD.mono λj hj e=>⟨hj,e⟩
 have Nz:Vg V.G V.T V.Q V.txt V.K (λj=>X2 j\/(wd.heap.size<=j/\j<we.heap.size)) we:=HD.step HN (λj e=>by
   have Ic:j<w5.heap.size:=by
    rcases Nat.lt_or_ge j w5.heap.size with h| h
    ·exact h
    ·exact absurd (Jw j h e.1) e.2
   have Id:w1.heap.size<=j:=by
    rcases Nat.lt_or_ge j w1.heap.size with h| h
    ·exact absurd (Jv j h) e.2
    ·exact h
   exact⟨B5 j ω,ω,ω,ω,ω,ω,ω⟩) (λj e=>e) (λj e=> .inl e)
 have HO:=lD.OH HM (λe=>e (Jw bb ω ω))
 have HP:Ext w1 we:=(vO.trans wU).It lD λb e=>by
  rcases Nat.lt_or_ge b w1.heap.size with h| h
  ·exact absurd (Jv b h) e
  ·exact h
 have lb:=ko.lt (g:=b) O
 have vP:=Wz Nz ω hV.gg hV.tg hV.pre hV.a hV.L hV.gs hV.ts (Yv ay) ω ω
 rw[j5] at vP
 refine OT O$ SM O$ SH O$ QW O$ qV (Pv U30 O Zn O (OU.cells (n:=5) HO (news:=[_,_,_,_,_]) O) O)$ Pb zfA O (vP) ?_
 rintro _ wf ⟨k2,b2,c2,txt10,K10,rfl,am,iJ,bT,-,-,xe,-,bL⟩
 have Jy:=ko.kp bL (λj hj e=>by cases hj;exact e (.inr ⟨ir,lb⟩))
 have HQ:Ext w1 wf:=HP.It bL λb e=>by
  rcases Nat.lt_or_ge b w1.heap.size with h| h
  ·exact absurd (.inl (B5 b ω)) e
  ·exact h
 obtain⟨eK,j4⟩:=wu.least ay bh
 obtain⟨eL,B6⟩:=iJ.least (Yv ay) ω
 generalize (UO g (Qu g) k).label=xs at Jy eK j4
 generalize (UO (Qu g) (Qu (Qu g)) k2).label=ys at bT eL B6
 refine OT O$ SM O$ Qr O$ Pu.qb (e:=[(8,_),(14,_),(15,_),(16,_),(17,_)]) ?_
 refine PR O$ Rk O$ PO$ Pl O$ Rk O$ PO$ PT O$ Pl O$ RO U34 O$ OT O$ RO U34 O$ QF O$ PO$ PT O ?_
 refine Qm O$ An$ QN O$ OL$ RN (α:=Nat) (0) (λi=>[(14,.slice (some ⟨b,0,none⟩) g.length c),(16,.slice (some ⟨b2,0,none⟩) g.length c2),(18,I (i:Int))]) (λi w'=>i<=g.length/\Ext wf w') (λi=>g.length-i) ?hI ?hround
 case hI=>exact⟨Nat.zero_le _,Ext.refl _⟩
 case hround=>
  rintro i w11 ⟨hi,aT⟩ ih;have nJ:=Jy.ext aT;have B7:=bT.ext aT
  try dsimp only
  refine An$ QI O$ RO U34 O$ QV O$ OJ$ OX O (λh0=>?_)$ λh0=>?_
  ·have aq:i<g.length:=by omega
   obtain⟨x,hx,NA⟩:=j4 i aq;obtain⟨y,hy,HR⟩:=B6 i ω;have BR:y=x:=z8v ((z6J (λu v=>Zl ay)).1 HR) NA;subst BR;have cx:=PY nJ.rd (i:=i) (v:=P7 y) (by rw[List.getElem?_map,hx];rfl);have cy:=PY B7.rd (i:=i) (v:=P7 y) (by rw[List.getElem?_map,hy];rfl);refine OK$ QO$ An ?_;have hg:=Ext.Pa w11;refine R0 (λw'=>Ext w11 w') O$ P8 0 O O (hg)$ P8 1 O O (hg)$ OM 2 O (Qc U34 Tm O O ω) hg$ P8 4 O O (hg)$ P8 5 O O (hg)$ OM 6 O (Qc U34 Tm O O ω) hg$ qT 3 O (λ_ h=>PC Rw O O (Qy h cx)) hg$ qT 7 O (λ_ h=>PC Rw O O (Qy h cy)) hg$ OM 8 O (yne O O) hg$ TC$ qE$ SO O$ OG ?_;refine Rp O$ Q4 O$ P3 O ?_;exact(ih (i+1) _ ⟨ω,aT.trans hg⟩ ω).qb
  ·refine OV O$ QN O$ OI func4 O ?_;exact⟨_,rfl,rfl,ad.trans (HQ.trans aT)⟩
end Go.Proofs.YtffbidffdbpcoaaGreatDoor
namespace Go.Proofs.YtffbidffdbpcoaaGreatDoor
open Go Go.ChangeShapes Go.WideShapes Go.ChangeAt Go.RowKit Go.Proofs.Tryz
def ZA (P:Program)(ts:List TypeId):Bool:=ts.all λt=>P.readableRec t&&decide (t<P.types.size)
def XE {H:Type}{enc:TypeId×Value->H}{P:Program}(hl:laidOutB P=true){W W':World}(hb:Below W.heap.size W W'):
  ∀ {ts : List TypeId} {vs : List Value} {ds : List (DataW H)} {ps : List MemPlace}, ZA P ts = true -> DataW.TrodAll enc P W 0 (λ_ => true) true ts vs ds ps ->
    DataW.TrodAll enc P W' 0 (λb=>decide (b<W.heap.size)) true ts vs ds ps
 |[],[],[],_,_,h=>h
 | t :: ts, v :: vs, d :: ds, _, hr, h => by
   obtain⟨p,q,h1,h2,rfl⟩:=h;simp only[ZA,List.all_cons,Bool.and_eq_true,decide_eq_true_eq] at hr
   exact⟨p,q,Below.trod hl hr.1.1 hr.1.2 h1 hb (by obtain⟨m,hm⟩:=h1;exact DataW.trod_lt m _ _ _ hm),XE hl hb hr.2 h2,rfl⟩
 |[],[],_::_,_,_,h=>h.elim
 |[],_::_,_,_,_,h=>h.elim
 |_::_,[],_,_,_,h=>h.elim
 |_::_,_::_,[],_,_,h=>h.elim
def ZI {H:Type}{enc:TypeId×Value->H}{P:Program}{W:World}{base:Nat}{spare:Nat->Bool}{held:Bool}:
  ∀{ts:List TypeId} {vs:List Value} {ds:List (DataW H)} {ps:List MemPlace},DataW.TrodAll enc P W base spare held ts vs ds ps->ds.length=ts.length
 |[],[],[],_,_=>rfl
 | t :: ts, v :: vs, d :: ds, _, h => by
   obtain⟨p,q,h1,h2,rfl⟩:=h
   simpa using ZI h2
 |[],[],_::_,_,h=>h.elim
 |[],_::_,_,_,h=>h.elim
 |_::_,[],_,_,h=>h.elim
 |_::_,_::_,[],_,h=>h.elim
def own:ownKnob prog.godebug=none:=by kernel_rfl
def laidOut:laidOutB prog=true:=by kernel_rfl
open Go.Deep
section
variable {H:Type}{enc:TypeId×Value->H}{W:World}{sp:Nat->Bool}
def zc1 (n:Int)(h:(Lit.int .u32 n).wf=true):Value.int .u32 n=PD n.toNat/\n.toNat<4294967296:=by
 simp[Lit.wf,IntKind.min,IntKind.max,IntKind.signed,IntKind.bits] at h
 exact⟨by unfold PD;congr;omega,ω⟩
def i64_in (n:Int)(h:(Lit.int .i64 n).wf=true):JIq n:=by
 simp[Lit.wf,IntKind.min,IntKind.max,IntKind.signed,IntKind.bits] at h;omega
def z8S {w:World}{b off:Nat}{spot:Option Nat}{v:Value}(h:w.cell? ⟨b,off,spot⟩=some v):spot=none:=by
 unfold World.cell? at h
 split at h
 ·cases spot with
  |none=>rfl
  |some s=>simp at h
 ·cases h
def open_edges {fuel:Nat}{v:Value}{x:DataW H×List MemPlace}(h:DataW.trod enc prog W 0 sp true fuel 22 [v]=some x)(hw:∀n∈x.1.weights prog 22,n<=reachBytes):∃(ea:Option Addr) (ec:Nat) (es:List (Nat×Nat)),v= .slice ea es.length ec/\EdR W ea es/\es.length<=9000000000000000000:=by
 rcases open_slice_pairs U22 U61 (by kernel_rfl) O O (by kernel_rfl) (by kernel_rfl) h with⟨hv,hx⟩|⟨a,len,cap,m,n,V0,V1,D0,D1,P0,P1,hv,-,hl,hm,Bz,hx,pi⟩
 ·cases hv;exact⟨none,0,[],rfl,λi e he=>by simp at he,ξ⟩
 ·cases hv;have fA:maxLen=9223372036854775807:=rfl;have ip:len<=m:=by rw[Bz];split<;>omega
  have hk:∀i,i<len->∃e:Nat×Nat,e.1<4294967296/\e.2<4294967296/\W.cell? (a.add (i*2))=some (PD e.1)/\W.cell? (a.add (i*2+1))=some (PD e.2):=λi hi=>by
   obtain⟨c0,c1,h0,h1⟩:=pi i ω;obtain⟨n0,e0,-,f0⟩:=DataW.trod_int QU h0;obtain⟨n1,e1,-,f1⟩:=DataW.trod_int QU h1;have e0:V0 i= .int .u32 n0:=by simpa using e0
   have e1:V1 i= .int .u32 n1:=by simpa using e1
   obtain⟨q0,b0⟩:=zc1 n0 f0;obtain⟨q1,b1⟩:=zc1 n1 f1;exact⟨(n0.toNat,n1.toNat),b0,b1,by rw[c0,e0,q0],by rw[c1,e1,q1]⟩
  obtain⟨E,hE⟩:∃E:Nat->Nat×Nat,∀i,i<len->(E i).1<4294967296/\(E i).2<4294967296/\W.cell? (a.add (i*2))=some (PD (E i).1)/\W.cell? (a.add (i*2+1))=some (PD (E i).2):=
   choose_lt (α:=Nat×Nat) (n:=len) (p:=λi e=>e.1<4294967296/\e.2<4294967296/\W.cell? (a.add (i*2))=some (PD e.1)/\W.cell? (a.add (i*2+1))=some (PD e.2)) hk
  refine⟨some a,cap,(List.range len).map E,ξ,λi e he=>?_,?_⟩
  ·rw[List.getElem?_map] at he;rcases Nat.lt_or_ge i len with hi|hi
   ·rw[List.getElem?_range hi] at he;obtain rfl:=RB he;obtain⟨g1,g2,g3,g4⟩:=hE i hi;obtain⟨b,off,spot⟩:=a;have h3:=(hE 0 ω).2.2.1;rw[Nat.zero_mul] at h3;simp only[Addr.add,if_true] at h3;obtain rfl:=z8S h3;rw[Rm] at g3 g4;exact⟨g1,g2,b,off,rfl,g3,by rw[Nat.add_assoc];exact g4⟩
   ·rw[List.getElem?_eq_none (by simpa using hi)] at he;cases he
  ·have pP:=hw ((len+(m-len))*8) (by rw[hx];simp[DataW.weights,U22,show prog.bytesOf 61=8 by kernel_rfl]);simp[reachBytes] at pP;simp;omega
end
def law_lifted_tied {H:Type}{enc:TypeId×Value->H}{C:Checked}{os:Os}{f:FuncId}{fn:Func}{s:ChangeSpec}{t:TypeId}{ts:List TypeId}{laid:List (String×DataW Unit)}
  (own:ownKnob C.prog.godebug=none) (started:os.Started) (hl:laidOutB C.prog=true) (noInit:C.prog.inits.idxOf? f=none) (hfn:C.prog.funcs[f]? =some fn)
  (hts:fn.params.toList=ts) (hrd:ZA C.prog ts=true) (hrt:fn.resultTypes=#[t]) (hb:C.prog.underlying t=some .bool) (hsv:s.vars=[])
  (hpl:(laid.all λx=>x.2.handleName?.isNone)=true)
  (hspec:∀ds:List (DataW H),ds.length=ts.length->s.fn H ds={results:=[.lit (.bool true)],args:=ds})
  (witness:∃(w:World) (tape:Tape) (i:Input),w.os=os/\(w.forCall tape i).Shaped C.prog/\i.vars=[]/\Input.okWide C.prog (w.forCall tape i) .any w.heap.size f i/\
   ((s.pre enc C.prog fn [] false (w.forCall tape i).memory i.args/\laidMetH C.prog laid (w.forCall tape i).memory)/\sizedMet enc C.prog fn (OpenSpec.ofChange s) false (w.forCall tape i).memory i.args)/\({}:Assume).holds C.prog (lone (Frame.enter C.prog f i.args .normal) [] (w.forCall tape i)))
  (hret:∀(W:World) (base:Nat) (args:List Value) (ds:List (DataW H)) (ps:List MemPlace),W.ShapedOpen C.prog->laidMet C.prog laid W->
   (∀(j:Nat) t v,ts[j]? =some t->args[j]? =some v->Value.okWide C.prog W .any base t v)->
   DataW.TrodAll enc C.prog W 0 (λ_=>true) true ts args ds ps->W.noneFrozen ps->
   (DataW.weightsEach C.prog ts ds).all (·<=reachBytes)=true->
   Ps C.prog f args W λv w'=>v= .bool true/\Ext W w'):
  ReturnsInHanded {} C os f .any (λw args=>(s.pre enc C.prog fn [] false w args/\laidMetH C.prog laid w)/\sizedMet enc C.prog fn (OpenSpec.ofChange s) false w args) (s.post enc C.prog fn false true false false):=by
 refine returnsInHanded_of_calls own started noInit witness ?_
 intro w tape i _ hsh _ hok hpre hholds
 obtain⟨_,_,_,fn',hfn',_,_,_,_,hval⟩:=hok
 have e:fn'=fn:=Option.some.inj (hfn'.symm.trans hfn)
 subst e
 obtain⟨⟨⟨ds,gs,before,hw,hc⟩,hx⟩,hz⟩:=hpre
 have hW:=DataW.Whole.of_heap (w':=w.forCall tape i) (by rfl) hw
 have hW':=hW
 have hsz0:(DataW.weightsEach C.prog (fn'.params.toList++s.plain.varTypes C.prog) (ds++gs)).all (·<=reachBytes)=true:=hz.weights hw
 obtain⟨p,q,hA,hV,rfl,hfz,_⟩:=hW
 rw[hsv] at hV
 obtain⟨rfl,rfl⟩:=trodVars_none hV
 rw[hts] at hA
 have hlen:=ZI hA
 have hsz:(DataW.weightsEach C.prog ts ds).all (·<=reachBytes)=true:=by
  have hv:s.plain.varTypes C.prog=[]:=by simp[ChangeSpec.plain,DataSpec.varTypes,hsv]
  rw[hts,hv,List.append_nil,List.append_nil] at hsz0;exact hsz0
 have hL:laidMet C.prog laid (w.forCall tape i):=by
  rw[MakeChecks.laidMetH_plain _ _ _ hpl] at hx;exact hx.of_heap (by rfl)
 have hr:=hret _ w.heap.size i.args.toList ds p hsh hL (λj t v h1 h2=>hval j t v (by rw[<-hts] at h1;simpa using h1) (by simpa using h2)) hA (by rw[List.append_nil] at hfz;exact hfz) hsz
 unfold Ps at hr;rw[Array.toArray_toList] at hr
 refine Calls.mono hr λx W' ⟨v,hx,hv,hext⟩=>?_
 subst hx;subst hv
 have bel:=hext.below
 refine ChangeSpec.post_blind ⟨ds,[],p++[],[],p,[],hW',?_,?_,?_,bel.frame _,λh=>by cases h⟩
 ·rw[List.append_nil,hspec ds hlen,hrt];exact trodAll_mk1 (shut_bool hb _)
 ·rw[List.append_nil,hspec ds hlen,hts];exact XE hl bel hrd hA
 ·rw[hsv,List.append_nil,hspec ds hlen]
  rfl
def pair_cells {P:Program}{W:World}{t fuel:Nat}{cs:Array Value}{f0 f1:Field}{ka kb:IntKind}{a b:Int}{p:List MemPlace}(hs:P.underlying t=some (.struct #[f0,f1]))(hc:P.cellsOf t=2)(o0:f0.offset=0)(o1:f1.offset=1)
  (c0:P.cellsOf f0.type=1) (c1:P.cellsOf f1.type=1) (u0:P.underlying f0.type=some (.int ka)) (u1:P.underlying f1.type=some (.int kb))
  (hd:DataW.trod (λ_=>()) P W 0 (λ_=>true) false fuel t cs.toList=some (.agg [.lit (.int ka a),.lit (.int kb b)],p)):cs.toList=[.int ka a,.int kb b]:=by
 obtain⟨y0,y1,n,hx,hl,h0,h1⟩:=trod_struct2 hs hd
 obtain⟨v0,e0,rfl,-⟩:=DataW.trod_int u0 h0
 obtain⟨v1,e1,rfl,-⟩:=DataW.trod_int u1 h1
 rw[hc] at hl
 rw[o0,c0] at e0
 rw[o1,c1] at e1
 simp at hx
 obtain⟨⟨rfl,rfl⟩,-⟩:=hx
 match hcs:cs.toList,hl with
 | [x, y], _ =>
   rw[hcs] at e0 e1;simp at e0 e1;rw[e0,e1]
def z82 {P:Program}{W:World}{n:String}{g T:Nat}{cs:Array Value}{l:List Value}(hW:W.ShapedOpen P)(hgs:g<P.globals.size)(hz:(((begin P (λ_ _=>0) default).world.heap[g]?).bind Obj.row?).map (·.2)=some T)(hg:P.globalNamed n=some g)(hv:W.var? P n=some cs)(hcs:cs.toList=l):OU W g l T:=by
 cases hr:((begin P (λ_ _=>0) default).world.heap[g]?).bind Obj.row? with
 |none=>rw[hr] at hz;cases hz
 | some x =>
   obtain⟨z,t⟩:=x;rw[hr] at hz;obtain rfl:t=T:=Option.some.inj hz;obtain⟨c,hh,-,-⟩:=hW.1 g z t hgs hr;simp only[World.var?,hg,Option.bind_some,hh] at hv;have hc:c=cs:=by simpa using hv
   subst hc;refine⟨(0,0),by rw[hh,<-hcs],λi _ e=>by simp at e⟩
def laid_two {W:World}{laid:List (String×DataW Unit)}(hlaid:laid=[("wattle/list.gamma",.agg [.lit (.int .u8 1),.lit (.int .u64 0)]),("wattle/list.unary",.agg [.lit (.int .u8 0),.lit (.int .u64 0)])])(hW:W.ShapedOpen prog)(h:laidMet prog laid W):OU W 1 [.int .u8 1,.int .u64 0] 294/\OU W 2 [.int .u8 0,.int .u64 0] 294:=by
 subst hlaid
 obtain⟨ps,hL,-,hB⟩:=h
 obtain⟨g0,t0,cs0,fuel0,p0,q0,hg0,ht0,hv0,hd0,hL,hps⟩:=hL
 obtain⟨g1,t1,cs1,fuel1,p1,q1,hg1,ht1,hv1,hd1,hL,hqs⟩:=hL
 obtain rfl:=Option.some.inj ((show prog.globalNamed "wattle/list.gamma"=some 1 by kernel_rfl).symm.trans hg0)
 obtain rfl:=Option.some.inj ((show prog.globalNamed "wattle/list.unary"=some 2 by kernel_rfl).symm.trans hg1)
 obtain rfl:=Option.some.inj ((show(prog.globals[1]?).map (·.type)=some 294 by kernel_rfl).symm.trans ht0)
 obtain rfl:=Option.some.inj ((show(prog.globals[2]?).map (·.type)=some 294 by kernel_rfl).symm.trans ht1)
 have e0:=pair_cells underlying294 (by kernel_rfl) O O (by kernel_rfl) (by kernel_rfl) underlying5 underlying39 hd0
 have e1:=pair_cells underlying294 (by kernel_rfl) O O (by kernel_rfl) (by kernel_rfl) underlying5 underlying39 hd1
 exact⟨z82 hW (show 1<prog.globals.size from of_decide_eq_true (by kernel_rfl)) (by kernel_rfl) hg0 hv0 e0,z82 hW (show 2<prog.globals.size from of_decide_eq_true (by kernel_rfl)) (by kernel_rfl) hg1 hv1 e1⟩
noncomputable def limWorld (os:Os):World:=
 let w0:=World.holding prog os ⟨#[],#[],[]⟩
 { w0 with heap := w0.heap.modify 1 fun
   | .cells _ t frozen=> .cells #[.int .u8 1,.int .u64 0] t frozen
   |o=>o}
end Go.Proofs.YtffbidffdbpcoaaGreatDoor
