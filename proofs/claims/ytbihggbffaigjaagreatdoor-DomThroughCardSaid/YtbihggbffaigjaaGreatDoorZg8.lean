/- Merged by program. -/
import Derived.Test.YtbihggbffaigjaaGreatDoorZg7
import Derived.RecoverIn
set_option linter.all false
set_option maxRecDepth 1000000
set_option maxHeartbeats 16000000
namespace Go.Proofs.YtbihggbffaigjaaGreatDoor
open Go Go.RowKit
variable {A O_ P S' X:Nat->Prop}{G T:YF}{K K' L a b1 b2 c i j k p rr:Nat}{Q Q':RE}{cand ord ys:List Nat}{f f' par vb:Nat->Nat}{g t:List (List Nat)}{o:Oper}{txt txt':Int->P8}{w w' w5:World}
theorem z3t {p q:Nat->Bool}:∀{l:List Nat},(∀x∈l,p x=true->q x=false)->l.countP (λx=>p x ||q x)=l.countP p+l.countP q
 |[],_=>rfl
 | x :: l, h => by
   have m:=z3t (p:=p) (q:=q) (l:=l) λy e=>h y (y0s _ e);have b:=h x y0p;rw[y0V,y0V,y0V,m]
   cases d:p x with
   |false=>cases q x<;>simp<;>omega
   |true=>rw[b d];simp;omega
theorem z3g {a:Nat}:∀n,a<n->(List.range n).countP (λx=>decide (x=a))=1
 |0,h=>absurd h (y1N _)
 | n + 1, h => by
   rw[y0P,y2J,y2U];by_cases e:a=n
   ·subst e
    have:(List.range a).countP (λx=>decide (x=a))=0:=by
     rw[List.countP_eq_zero];intro x l d;have:=y0H.1 l;have:=of_decide_eq_true d;omega
    rw[this];simp
   ·rw[z3g n ω,if_neg (by simpa using λb=>e b.symm)]
theorem YC {n:Nat}:∀{l:List Nat},l.Nodup->(∀x∈l,x<n)->l.length=(List.range n).countP (λx=>decide (x∈l))
 |[],_,_=>by rw[y1l,eq_comm,List.countP_eq_zero];simp
 | a :: l, hn, h => by
   rw[y10] at hn;have m:=YC (l:=l) hn.2 λx b=>h x (y0s _ b)
   have e:(λx=>decide (x∈a::l))=λx=>decide (x=a) ||decide (x∈l):=by
    funext x
    rw[<-Bool.decide_or,decide_eq_decide,y0l]
   rw[e,z3t,z3g n (h a y0p),y01,m,y1x];intro x b d;rw[of_decide_eq_true d];exact decide_eq_false hn.1
theorem z1Q {p:Nat->Nat->Bool}{m:Nat}:∀n,((List.range n).map λx=>(List.range m).countP (p x)).sum=((List.range m).map λu=>(List.range n).countP (λx=>p x u)).sum
 | 0 => by
   rw[List.range_zero,y1u,y1s,eq_comm]
   have:∀l:List Nat,(l.map λu=>([]:List Nat).countP (λx=>p x u)).sum=0:=λl=>by
    induction l with
    |nil=>rfl
    |cons a l b=>rw[y0n,y0I,b];rfl
   exact this _
 | n + 1 => by
   rw[y0P,y0f,y0Y,z1Q n]
   have:∀l:List Nat,(l.map λu=>(List.range n).countP (λx=>p x u)).sum+l.countP (p n)=(l.map λu=>(List.range n++[n]).countP (λx=>p x u)).sum:=λl=>by
    induction l with
    |nil=>rfl
    | cons a l b =>
      rw[y0n,y0I,y0n,y0I,y0V,<-b,y2J,y2U];omega
   rw[<-this];simp
theorem z0M (g:List (List Nat)):Qp g=((List.range g.length).map λx=>(Pa g x).length).sum:=by
 unfold Qp
 congr 1
 refine y0K λi=>?_
 rw[y0i,y0i]
 by_cases h:i<g.length
 ·rw[y1i h];unfold Pa;simp[y03 h]
 ·rw[y0e ω,y0e (by rw[y14];omega)]
  rfl
def z7M (h:QJ g)(d:∀x,(Pa g x).Nodup)(b:∀x y,y∈Pa g x->y<g.length):Qp (QO g)=Qp g:=by
 rw[z0M,z0M,Sn]
 have e:((List.range g.length).map λx=>(Pa g x).length)=(List.range g.length).map λx=>(List.range g.length).countP (λu=>decide (u∈Pa g x)):=
  y0O λx _=>YC (d x) (b x)
 have l:((List.range g.length).map λu=>(Pa (QO g) u).length)=(List.range g.length).map λu=>(List.range g.length).countP (λx=>decide (u∈Pa g x)):=
  y0O λu m=>by
   unfold Pa;rw[z0k g (y0H.1 m),y3E]
   rfl
 rw[e,l,z1Q]
def z69 (h:QJ g):Qp (QO g)=Qp g:=by
 have d:∀x,Pa g x∈g\/Pa g x=[]:=λx=>by
  unfold Pa;by_cases e:x<g.length
  ·rw[y03 e];exact .inl (y1d e)
  ·rw[y0e ω];exact .inr O
 refine z7M h (λx=>?_) λx y b=>?_
 ·rcases d x with e| e
  ·exact List.Pairwise.imp (λh e=>ω) (h.ok _ e).ris
  ·rw[e];exact .nil
 ·rcases d x with e| e
  ·exact h.lt _ e y b
  ·rw[e] at b;cases b
open Go.Proofs.Tryz
structure Vc1 where
 vb:Nat
 width:Nat
 st:Nat
 xs:List Nat
def Vc1.len (v:Vc1):Nat:=Xl v.xs.length (512 / v.width)
def Wq (L:List Bool)(T:List Vc1):List Bool:=T.foldl (λL v=>Qr L v.st v.len false) L
theorem z0i (L:List Bool)(T:List Vc1)(v:Vc1):Wq L (T++[v])=Qr (Wq L T) v.st v.len false:=by
 unfold Wq
 rw[y1P];rfl
def z5P:∀(T:List Vc1)(L:List Bool),(∀v∈T,v.st+v.len<=L.length)->(Wq L T).length=L.length
 |[],L,_=>rfl
 | v :: T, L, h => by
   have d:=QE (b:=false) (h v y0p);have:=z5P T (Qr L v.st v.len false) λu e=>by rw[d];exact h u (y0s _ e)
   exact this.trans d
theorem z5A:∀(T:List Vc1)(L:List Bool) (i:Nat),(∀v∈T,v.st+v.len<=L.length)->(∀v∈T,i<v.st\/v.st+v.len<=i)->(Wq L T)[i]? =L[i]?
 |[],L,i,_,_=>rfl
 | v :: T, L, i, h, h' => by
   have e:=QE (b:=false) (h v y0p);have:=z5A T (Qr L v.st v.len false) i (λu d=>by rw[e];exact h u (y0s _ d)) λu d=>h' u (y0s _ d);refine Eq.trans this ?_;have l:=h' v y0p;rw[SN (h v y0p),if_neg ω]
def zcw (T:List Vc1):Prop:=∀(i j:Nat)(u v:Vc1),T[i]? =some u->T[j]? =some v->i≠j->u.vb≠v.vb/\(u.st+u.len<=v.st\/v.st+v.len<=u.st)
structure zaq (Q:RE)(txt:Int->P8)(K:Nat)(X:Nat->Prop)(T:List Vc1)(a L:Nat)(w:World)(i:Nat)(w':World):Prop where
 ex:∃txt',Sp (Q.Qq (Wq Q.L (T.take i))) txt' K X w'/\(∀(j:Nat)(v:Vc1),i<=j->T[j]? =some v->Wh (Q.Qq (Wq Q.L (T.take i))) txt' v.vb v.width v.st v.xs w')/\(∀y:Int,y<(a:Int)\/(a:Int)+(L:Int)<=y->txt' y=txt y)
 k:Kp (λb=>¬X b\/∃v∈T,b=v.vb) w w'
section
variable {w1:World}{T:List Vc1}{v:Vc1}
theorem zaq.zero (b:Sp Q txt K X w)(d:∀(j:Nat)(v:Vc1),T[j]? =some v->Wh Q txt v.vb v.width v.st v.xs w):zaq Q txt K X T a L w 0 w:=
 ⟨⟨txt,b,λj v _ h=>d j v h,λ_ _=>rfl⟩,Kp.refl _ _⟩
theorem zaq.next (h:zaq Q txt K X T a L w i w1)(g:∀b,X b->b<w.heap.size)(s:T[i]? =some v)(m:∀v∈T,X v.vb/\a<=v.st/\v.st+v.len<=a+L)(B:zcw T)(o:2<=a)(Z:a+L<=Q.L.length)(F:∀i,a<=i->i<a+L->Q.L[i]? =some true):
  PN prog 51 [ptr v.vb 0] w1 λr w'=>r=I 0/\zaq Q txt K X T a L w (i+1) w':=by
 obtain⟨⟨c,N,z,Y⟩,E⟩:=h
 have J:=y0j s
 obtain⟨W,P,G⟩:=m v J
 have d:∀u∈T.take i,u.st+u.len<=Q.L.length:=λu n=>by have:=(m u (y0Z n)).2.2;omega
 have R:(Wq Q.L (T.take i)).length=Q.L.length:=z5P _ _ d
 have t:i<T.length:=by
  rcases y0a i T.length with h| h
  ·exact h
  ·rw[y0e h] at s;cases s
 have H:T.take (i+1)=T.take i++[v]:=by rw[List.take_add_one,s];rfl
 have z1:=E.size
 refine(z4D N (λb p=>by have:=g b p;omega) (z i v (y02 _) s) W ω ?_).mono ?_
 ·intro k f x;show(Wq Q.L (T.take i))[k]? =some true;have x:k<v.st+v.len:=x;rw[z5A _ _ _ d]
  ·exact F k ω ω
  ·intro u n;obtain⟨j,C⟩:=y39 n
   have S:j<i:=by
    rcases y0a j i with h| h
    ·exact h
    ·rw[y0e (by rw[y0d];omega)] at C;cases C
   rw[y3H S] at C;have:=(B j i u v C s ω).2;omega
 ·rintro r w'⟨rfl,txt',l,M,D⟩
  have A:(Q.Qq (Wq Q.L (T.take i))).Qq (Qr (Q.Qq (Wq Q.L (T.take i))).L v.st v.len false)=Q.Qq (Wq Q.L (T.take (i+1))):=by
   rw[H,z0i];rfl
  have l:Sp ((Q.Qq (Wq Q.L (T.take i))).Qq (Qr (Q.Qq (Wq Q.L (T.take i))).L v.st v.len false)) txt' K X w':=l;rw[A] at l;refine⟨O,⟨txt',l,λj u C n=>?_,λy hy=>?_⟩,E.trans (D.Pk λb e=>e.imp id λe=>⟨v,J,e⟩)⟩
  ·obtain⟨n1,n2⟩:=B i j v u s n ω;have V:=(m u (y0j n)).1;have U:(Wq Q.L (T.take (i+1))).length=(Wq Q.L (T.take i)).length:=by rw[H,z0i,QE (by rw[R];omega)]
   refine(((z j u ω n).kp D λe=>e.elim (λe=>e V) λe=>n1 e.symm).Uw λy f x=>M y ?_).q O U;have x:y<(u.st:Int)+(u.len:Int):=x;show y<(v.st:Int)\/(v.st:Int)+(v.len:Int)<=y;omega
  ·rw[M y (by show y<(v.st:Int)\/(v.st:Int)+(v.len:Int)<=y;omega)];exact Y y hy
end
def Td.iff {Y:Nat->Prop}(h:Td G Q txt K X w)(e:∀b,X b↔Y b):Td G Q txt K Y w:=by
 have d:X=Y:=funext λb=>propext (e b)
 exact d▸h
abbrev ZI (G T:YF)(X:Nat->Prop):Nat->Prop:=λb=>(X b\/b=T.rb)\/b=G.rb
structure WG (G T:YF)(Q:RE)(txt:Int->P8)(K:Nat)(X:Nat->Prop)(w:World):Prop where
 g:Td G Q txt K (λb=>X b\/b=T.rb) w
 t:Td T Q txt K (λb=>X b\/b=G.rb) w
 xk:X G.k/\X G.x/\X T.k/\X T.x/\X 1/\X 2
section
variable {Y:Nat->Prop}
theorem WG.ng (h:WG G T Q txt K X w):¬X G.rb/\G.rb≠T.rb/\¬X T.rb:=by
 have b:=h.g.rbX
 have d:=h.t.rbX
 exact⟨λe=>b (.inl e),λe=>b (.inr e),λe=>d (.inl e)⟩
theorem WG.sp (h:WG G T Q txt K X w):Sp Q txt K (ZI G T X) w:=h.g.sp
theorem WG.lt (h:WG G T Q txt K X w):∀b,ZI G T X b->b<w.heap.size:=h.g.lt1
theorem WG.upd (h:WG G T Q txt K X w)(u:Kp S' w w')(r:∀b,S' b->¬ZI G T X b\/(X b/\b≠G.k/\b≠G.x/\b≠T.k/\b≠T.x/\b≠1/\b≠2))(l:∀j,X j->Y j)(E:∀j,Y j->X j\/w.heap.size<=j)(B:∀j,Y j->j<w'.heap.size)(D:Sp Q' txt' K' (ZI G T Y) w')(H:Q'.s=Q.s)(F:Q'.L.length=Q.L.length)(C:K'<1000000000000)(z:∀y:Int,((G.st:Int)<=y/\y<(G.st:Int)+(G.len:Int))\/((T.st:Int)<=y/\y<(T.st:Int)+(T.len:Int))->txt' y=txt y):WG G T Q' txt' K' Y w':=by
 obtain⟨n1,n2,I⟩:=h.ng
 have d:=h.xk
 have v:=h.lt
 have p:=v T.rb (.inl (.inr O))
 have i:=v G.rb (.inr O)
 have o:=u.size
 have J:¬Y G.rb:=λe=>(E _ e).elim n1 ω
 have M:¬Y T.rb:=λe=>(E _ e).elim I ω
 have m:∀{b},X b->((b=G.k\/b=G.x\/b=T.k)\/b=T.x\/b=1\/b=2)->¬S' b:=λS U e=>by
  rcases r _ e with e|⟨-,V,W,Z,a,c,f⟩
  ·exact e (.inl (.inl S))
  ·rcases U with(e|e|e)|e|e| e
   ·exact V e
   ·exact W e
   ·exact Z e
   ·exact a e
   ·exact c e
   ·exact f e
 have N:¬S' G.rb:=λe=>(r _ e).elim (λe=>e (.inr O)) λe=>n1 e.1
 have R:¬S' T.rb:=λe=>(r _ e).elim (λe=>e (.inl (.inr O))) λe=>I e.1
 refine⟨h.g.at_ u ⟨m d.1 (.inl (.inl O)),m d.2.1 (.inl (.inr (.inl O))),m d.2.2.2.2.1 (.inr (.inr (.inl O))),m d.2.2.2.2.2 (.inr (.inr (.inr O))),N⟩ ⟨.inl (l _ d.1),.inl (l _ d.2.1),.inl (l _ d.2.2.2.2.1),.inl (l _ d.2.2.2.2.2)⟩ (λj e=>e.elim (B j) λe=>ω) (λe=>e.elim J n2) D H F C (λy n q=>z y (.inl ⟨n,q⟩)),
  h.t.at_ u ⟨m d.2.2.1 (.inl (.inr (.inr O))),m d.2.2.2.1 (.inr (.inl O)),m d.2.2.2.2.1 (.inr (.inr (.inl O))),m d.2.2.2.2.2 (.inr (.inr (.inr O))),R⟩ ⟨.inl (l _ d.2.2.1),.inl (l _ d.2.2.2.1),.inl (l _ d.2.2.2.2.1),.inl (l _ d.2.2.2.2.2)⟩ (λj e=>e.elim (B j) λe=>ω) (λe=>e.elim M λe=>n2 e.symm) (D.iff λb=>?_) H F C (λy n q=>z y (.inr ⟨n,q⟩)),⟨l _ d.1,l _ d.2.1,l _ d.2.2.1,l _ d.2.2.2.1,l _ d.2.2.2.2.1,l _ d.2.2.2.2.2⟩⟩
 constructor
 ·rintro((e|e)|e)
  ·exact .inl (.inl e)
  ·exact .inr e
  ·exact .inl (.inr e)
 ·rintro((e|e)|e)
  ·exact .inl (.inl e)
  ·exact .inr e
  ·exact .inl (.inr e)
theorem WG.own (h:WG G T Q txt K X w)(l:Kp S' w w')(d:∀b,S' b->X b/\b≠G.k/\b≠G.x/\b≠T.k/\b≠T.x/\b≠1/\b≠2):WG G T Q txt K X w':=
 ⟨h.g.own l λj e=>⟨.inl (d j e).1,(d j e).2.1,(d j e).2.2.1,(d j e).2.2.2.2.2.1,(d j e).2.2.2.2.2.2⟩,h.t.own l λj e=>⟨.inl (d j e).1,(d j e).2.2.2.1,(d j e).2.2.2.2.1,(d j e).2.2.2.2.2.1,(d j e).2.2.2.2.2.2⟩,h.xk⟩
theorem WG.grow (h:WG G T Q txt K X w)(m:Ext w w')(l:∀j,Y j->X j\/(w.heap.size<=j/\j<w'.heap.size))(b:∀j,X j->Y j):WG G T Q txt K Y w':=by
 have d:=h.xk
 exact⟨h.g.grow m (λj e=>e.elim (λe=>(l j e).imp .inl id) (λe=> .inl (.inr e))) (λj e=>e.imp (b j) id),h.t.grow m (λj e=>e.elim (λe=>(l j e).imp .inl id) (λe=> .inl (.inr e))) (λj e=>e.imp (b j) id),⟨b _ d.1,b _ d.2.1,b _ d.2.2.1,b _ d.2.2.2.1,b _ d.2.2.2.2.1,b _ d.2.2.2.2.2⟩⟩
theorem WG.less (h:WG G T Q txt K Y w)(d:∀j,X j->Y j)(b:X G.k/\X G.x/\X T.k/\X T.x/\X 1/\X 2):WG G T Q txt K X w:=
 ⟨h.g.less (λj e=>e.imp (d j) id) ⟨.inl b.1,.inl b.2.1,.inl b.2.2.2.2.1,.inl b.2.2.2.2.2⟩,h.t.less (λj e=>e.imp (d j) id) ⟨.inl b.2.2.1,.inl b.2.2.2.1,.inl b.2.2.2.2.1,.inl b.2.2.2.2.2⟩,b⟩
def WG.far (h:WG G T Q txt K X w):∀j,w.heap.size<=j->j≠G.k/\j≠G.x/\j≠T.k/\j≠T.x/\j≠1/\j≠2:=λj v=>by
 have d:∀b,X b->b<w.heap.size:=λb l=>h.lt b (.inl (.inl l))
 have e:=h.xk
 have m:=d _ e.1
 have n:=d _ e.2.1
 have q:=d _ e.2.2.1
 have r:=d _ e.2.2.2.1
 have s:=d _ e.2.2.2.2.1
 have u:=d _ e.2.2.2.2.2
 exact⟨ω,ω,ω,ω,ω,ω⟩
theorem z8m (h:Td G Q txt K X w):PN prog 38 [ptr G.k 0] w λv w'=>v=I (Qp G.g:Int)/\w'=w:=by
 obtain⟨o,h⟩:=h
 have hB:=h.cells
 refine py (e:=[(0,_)]) func38 O ntmps38 O O<|Re O<|Qi O<|qV (Qz U28 O O)<|QC O<|PL O<|PQ O<|Pr Wj O<|Pr z1b O<|qV (Pl U3 O O hB O)<|Pq O<|P3 func38 O ?_
 exact⟨_,O,O,O⟩
theorem WG.vec {m:RE}{d:Int->P8}{v l n:Nat}{z:World}(h:WG G T Q txt K X w)(u:Kp (λb=>¬ZI G T X b) w w5)(E:Sp m d n (λb=>ZI G T X b\/b=v) w5)(J:w.heap.size<=v)(N:v<w5.heap.size)(H:m.s=Q.s)(F:m.L.length=Q.L.length)(D:n<1000000000000)(O:G.st+G.len<=a)(R:T.st+T.len<=a)(I:∀y:Int,y<(a:Int)->d y=txt y)(B:Kp (λb=>b=l) w5 z)(r:X l/\l≠G.k/\l≠G.x/\l≠T.k/\l≠T.x/\l≠1/\l≠2):WG G T m d n (λj=>X j\/j=v) z:=by
 have C:=h.lt
 have M:=u.size
 refine(h.upd (Y:=λj=>X j\/j=v) u (λb e=> .inl e) (λj e=> .inl e) (λj q=>q.imp id λe=>ω) (λj q=>by
   rcases q with e| e
   ·have:=C j (.inl (.inl e));omega
   ·omega) (E.iff λb=>?_) H F D (λy e=>I y ω)).own B λj e=>by rw[e];exact⟨.inl r.1,r.2⟩
 constructor
 ·rintro(((e|e)|e)|e)
  ·exact .inl (.inl (.inl e))
  ·exact .inl (.inr e)
  ·exact .inr e
  ·exact .inl (.inl (.inr e))
 ·rintro(((e|e)|e)|e)
  ·exact .inl (.inl (.inl e))
  ·exact .inr e
  ·exact .inl (.inl (.inr e))
  ·exact .inl (.inr e)
theorem z0d {l:List Bool}{n:Nat}{c:Bool}(h:a+n+1<=l.length):Qr (Qr l a n c) (a+n) 1 c=Qr l a (n+1) c:=by
 have b:(Qr l a n c).length=l.length:=QE ω
 refine y0K λi=>?_
 rw[SN (by rw[b];omega),SN ω,SN ω]
 by_cases c1:a+n<=i/\i<a+n+1
 ·rw[if_pos c1,if_pos ω]
 ·rw[if_neg c1];by_cases c2:a<=i/\i<a+n
  ·rw[if_pos c2,if_pos ω]
  ·rw[if_neg c2,if_neg ω]
end
abbrev Wd.x (W:Wd)(XX:Nat->Prop):Nat->Prop:=λb=>XX b/\b≠W.G.rb/\b≠W.T.rb
def WdM.gw2 {W:Wd}{r:Nat->Prop}(h:WdM W g r w):WG W.G W.T W.Q W.txt W.K (W.x r) w:=by
 obtain⟨E,F,y,z,B,C,D⟩:=h.rb
 obtain⟨⟨s,a2⟩,⟨u,v⟩,⟨d,l⟩,m,n⟩:=h.hg.xk
 obtain⟨⟨c1,c2⟩,⟨c3,c4⟩,⟨H,q⟩,c7,c8⟩:=h.ht.xk
 refine⟨h.hg.less (λb e=>?_) ⟨.inl ⟨s,a2,z.symm⟩,.inl ⟨u,v,B.symm⟩,.inl ⟨d,l,q⟩,.inl ⟨m,n,c8⟩⟩,h.ht.less (λb e=>?_) ⟨.inl ⟨c1,C.symm,c2⟩,.inl ⟨c3,D.symm,c4⟩,.inl ⟨d,l,q⟩,.inl ⟨m,n,c8⟩⟩,⟨s,a2,z.symm⟩,⟨u,v,B.symm⟩,⟨c1,C.symm,c2⟩,⟨c3,D.symm,c4⟩,⟨d,l,q⟩,⟨m,n,c8⟩⟩
 ·rcases e with e| e
  ·exact⟨e.1,e.2.1⟩
  ·rw[e];exact⟨F,λe=>y e.symm⟩
 ·rcases e with e| e
  ·exact⟨e.1,e.2.2⟩
  ·rw[e];exact⟨E,y⟩
def S0.far {σ:Type}{R:RuK σ}{s:σ}(h:S0 R G T Q txt K X rr O_ a L s w):∀j,w.heap.size<=j->j≠G.k/\j≠G.x/\j≠T.k/\j≠T.x/\j≠1/\j≠2/\¬O_ j:=λj z=>by
 have d:∀b,X b->b<w.heap.size:=λb m=>h.lt b (.inl (.inl m))
 have l:=h.xk
 have n:=d _ l.1
 have q:=d _ l.2.1
 have r:=d _ l.2.2.1
 have u:=d _ l.2.2.2.1
 have v:=d _ l.2.2.2.2.1
 have y:=d _ l.2.2.2.2.2
 exact⟨ω,ω,ω,ω,ω,ω,λe=>by have:=d j (h.xr j e);omega⟩
inductive Ch (f:Nat->Nat) (root:Nat):Nat->Nat->Prop
 |refl (v:Nat):Ch f root v v
 |up {v x:Nat}:v≠root->Ch f root (f v) x->Ch f root v x
abbrev Vz:Nat:=4294967295
structure zgh (R:Nat->Prop)(num:Nat->Nat)(root:Nat):Prop where
 rt:R root
 top:∀v,R v->num v<=num root
 inj:∀u v,R u->R v->num u=num v->u=v
 no:∀v,R v->v≠Vz
structure Fo (R:Nat->Prop)(num:Nat->Nat)(root:Nat)(f:Nat->Nat):Prop where
 rt:f root=root
 up:∀v,f v≠Vz->v≠root->f (f v)≠Vz/\num v<num (f v)
 in_:∀v,f v≠Vz->R v
section
variable {R:Nat->Prop}{num:Nat->Nat}{root b v w x y:Nat}
theorem Ch.trans (e:Ch f root a b)(d:Ch f root b c):Ch f root a c:=by
 induction e with
 |refl _=>exact d
 |up h _ l=>exact .up h (l d)
def Ch.inv (h:Ch f root v x):x=v\/(v≠root/\Ch f root (f v) x):=by
 cases h with
 |refl _=>exact .inl O
 |up d e=>exact .inr ⟨d,e⟩
theorem Ch.at_root (h:Ch f root root x):x=root:=h.inv.elim id λe=>absurd O e.1
def Ch.mem (m:Fo R num root f)(h:Ch f root v x):f v≠Vz->f x≠Vz/\num v<=num x/\(num x=num v->x=v):=by
 induction h with
 |refl _=>exact λh=>⟨h,y02 _,λ_=>rfl⟩
 | up n _ q =>
   intro h;obtain⟨d,r⟩:=m.up _ h n;obtain⟨l,s,u⟩:=q d;exact⟨l,ω,λe=>ω⟩
def Ch.zks (d:Fo R num root f)(e:Ch f root a b)(h:Ch f root b a)(l:f a≠Vz):a=b:=by
 obtain⟨m,q,n⟩:=e.mem d l
 obtain⟨r,s,u⟩:=h.mem d m
 exact(n ω).symm
def meetF (num f:Nat->Nat):Nat->Nat->Nat->Option Nat
 |0,a,b=>if a=b then some a else none
 |k+1,a,b=>if a=b then some a else if num a<num b then meetF num f k (f a) b else meetF num f k a (f b)
def z2g (hN:zgh R num root)(m:Fo R num root f):∀(k a b:Nat),f a≠Vz->f b≠Vz->2*num root<=k+num a+num b->∃c,meetF num f k a b=some c/\f c≠Vz/\∀x,Ch f root c x↔Ch f root a x/\Ch f root b x:=by
 have u:∀{a b},f a≠Vz->f b≠Vz->num a<num b->a≠root:=fun {a b} _ d h e=>by
  subst e;have:=hN.top b (m.in_ b d);omega
 have left:∀{a b},f a≠Vz->f b≠Vz->num a<num b->∀x,(Ch f root (f a) x/\Ch f root b x)↔(Ch f root a x/\Ch f root b x):=fun {a b} l d h x=>by
  constructor
  ·exact λe=>⟨.up (u l d h) e.1,e.2⟩
  ·rintro⟨C,r⟩;rcases C.inv with e| e
   ·subst e;have:=(r.mem m d).2.1;omega
   ·exact⟨e.2,r⟩
 intro k
 induction k with
 | zero =>
   intro a b l d D;have s:=hN.top a (m.in_ a l);have z:=hN.top b (m.in_ b d);obtain rfl:=hN.inj a b (m.in_ a l) (m.in_ b d) ω
   exact⟨a,by unfold meetF;rw[if_pos O],l,λx=>⟨λe=>⟨e,e⟩,λe=>e.1⟩⟩
 | succ k B =>
   intro a b l d D;by_cases e:a=b
   ·subst e;exact⟨a,by unfold meetF;rw[if_pos O],l,λx=>⟨λe=>⟨e,e⟩,λe=>e.1⟩⟩
   ·unfold meetF;rw[if_neg e];have E:num a≠num b:=λr=>e (hN.inj a b (m.in_ a l) (m.in_ b d) r);by_cases n:num a<num b
    ·rw[if_pos n];obtain⟨s,z⟩:=m.up a l (u l d n);obtain⟨c,c1,c2,c3⟩:=B (f a) b s d ω;exact⟨c,c1,c2,λx=>(c3 x).trans (left l d n x)⟩
    ·rw[if_neg n];have q:num b<num a:=ω
     obtain⟨s,z⟩:=m.up b d (u d l q);obtain⟨c,c1,c2,c3⟩:=B a (f b) l s ω;refine⟨c,c1,c2,λx=>(c3 x).trans ?_⟩;rw[And.comm,left d l q x,And.comm]
inductive Av (g:List (List Nat)) (root x:Nat):Nat->Nat->Prop
 |zero:root≠x->Av g root x 0 root
 |step {j p v:Nat}:Av g root x j p->v∈Pa g p->v≠x->Av g root x (j+1) v
def Av.ne (h:Av g root x j v):v≠x:=by
 cases h with
 |zero h=>exact h
 |step _ _ h=>exact h
def Av.rch (h:Av g root x j v):SG g root v:=by
 induction h with
 |zero _=>exact .refl
 |step _ h _ d=>exact .step d h
def Dm (g:List (List Nat))(root x v:Nat):Prop:=SG g root v/\∀j,¬Av g root x j v
theorem Av.split (h:Av g root x j v)(hw:w≠root):Av g root w j v\/∃i,i<=j/\Av g root x i w:=by
 induction h with
 |zero _=>exact .inl (.zero hw.symm)
 | step hp l m d =>
   rename_i j p v
   rcases d with d|⟨i,hi,d⟩
   ·by_cases e:v=w
    ·subst e;exact .inr ⟨_,y02 _,.step hp l m⟩
    ·exact .inl (.step d l e)
   ·exact .inr ⟨i,ω,d⟩
structure TrF (g:List (List Nat))(root:Nat)(num par:Nat->Nat):Prop where
 n:zgh (SG g root) num root
 par:∀v,SG g root v->v≠root->SG g root (par v)/\v∈Pa g (par v)/\num v<num (par v)
structure DsI (g:List (List Nat))(root:Nat)(num par f:Nat->Nat):Prop where
 fo:Fo (SG g root) num root f
 t:∀v x,f v≠Vz->Ch f root v x->Ch par root v x
 s:∀v x,f v≠Vz->Dm g root x v->Ch f root v x
def Pj (g:List (List Nat))(root:Nat)(f:Nat->Nat)(j:Nat):Prop:=∀v x i,i<=j->Av g root x i v->f v≠Vz->¬Ch f root v x
def TY (f:Nat->Nat)(w c:Nat):Nat->Nat:=λv=>if v=w then c else f v
theorem W1:TY f w c w=c:=if_pos O
theorem Ve (h:v≠w):TY f w c v=f v:=if_neg h
theorem zbI:TY f w (f w)=f:=by
 funext v
 unfold TY
 split
 ·rename_i e;rw[e]
 ·rfl
def zb6 (hT:TrF g root num par)(h:Ch par root v w):SG g root v->∀{j:Nat},num w<num x->Av g root x j w->num v<=num w/\∃i,Av g root x i v:=by
 induction h with
 |refl _=>exact λ_ {j} _ d=>⟨y02 _,j,d⟩
 | @up v w hv _ ih =>
   intro l j m d;obtain⟨n,q,s⟩:=hT.par v l hv;obtain⟨u,i,r⟩:=ih n m d;exact⟨ω,i+1,.step r q (λe=>by subst e;omega)⟩
section
variable (hT:TrF g root num par)(hI:DsI g root num par f)(hw:SG g root w)(hwr:w≠root)(hp:f (par w)≠Vz)(hc:f c≠Vz)(hch:∀x,Ch f root c x↔∀p,SG g root p->w∈Pa g p->f p≠Vz->Ch f root p x)
include hT hI hw hwr hp hc hch
theorem zbW:num w<num c/\c≠w/\Ch f root (par w) c:=by
 obtain⟨h,l,n⟩:=hT.par w hw hwr
 have d:=(hch c).1 (.refl c) (par w) h l hp
 have m:=(d.mem hI.fo hp).2.1
 exact⟨ω,λe=>by subst e;omega,d⟩
theorem z1U (d:f v≠Vz)(q:num w<num v):Ch (TY f w c) root v x↔Ch f root v x:=by
 have m:∀{v x},Ch (TY f w c) root v x->f v≠Vz->num w<num v->Ch f root v x:=by
  intro v x h
  induction h with
  |refl _=>exact λ_ _=> .refl _
  | up l _ r =>
    intro d q;rw[Ve (λe=>by subst e;omega)] at r;obtain⟨s,u⟩:=hI.fo.up _ d l;exact .up l (r s ω)
 have n:∀{v x},Ch f root v x->f v≠Vz->num w<num v->Ch (TY f w c) root v x:=by
  intro v x h
  induction h with
  |refl _=>exact λ_ _=> .refl _
  | up l _ r =>
    intro d q;obtain⟨s,u⟩:=hI.fo.up _ d l;refine .up l ?_;rw[Ve (λe=>by subst e;omega)];exact r s ω
 exact⟨λh=>m h d q,λh=>n h d q⟩
theorem zgN:Ch (TY f w c) root w x↔x=w\/Ch f root c x:=by
 obtain⟨d,l,m⟩:=zbW hT hI hw hwr hp hc hch
 constructor
 ·intro h;rcases h.inv with e| e
  ·exact .inl e
  ·rw[W1] at e;exact .inr ((z1U hT hI hw hwr hp hc hch hc d).1 e.2)
 ·rintro(rfl|h)
  ·exact .refl _
  ·refine .up hwr ?_;rw[W1];exact(z1U hT hI hw hwr hp hc hch hc d).2 h
theorem zgB (h:Ch f root v x):Ch (TY f w c) root v x\/(Ch (TY f w c) root v w/\Ch f root w x/\x≠w/\Ch f root v w):=by
 induction h with
 |refl _=>exact .inl (.refl _)
 | up d q l =>
   rename_i v x
   by_cases e:v=w
   ·subst e;by_cases m:x=v
    ·subst m;exact .inl (.refl _)
    ·exact .inr ⟨.refl _,.up d q,m,.refl _⟩
   ·rw[<-Ve (f:=f) (c:=c) e] at l;rcases l with l|⟨r,s,u,n⟩
    ·exact .inl (.up d l)
    ·rw[Ve e] at n;exact .inr ⟨.up d r,s,u,.up d n⟩
theorem z8X (h:Ch (TY f w c) root v x):Ch f root v x\/(Ch f root v w/\Ch (TY f w c) root w x):=by
 induction h with
 |refl _=>exact .inl (.refl _)
 | up l m d =>
   rename_i v x
   by_cases e:v=w
   ·subst e;exact .inr ⟨.refl _,.up l m⟩
   ·rw[Ve e] at d;rcases d with d|⟨n,q⟩
    ·exact .inl (.up l d)
    ·exact .inr ⟨.up l n,q⟩
theorem z4A (h:TY f w c v≠Vz)(e:v≠w):f v≠Vz:=by rw[Ve e] at h;exact h
theorem DsI.TY:DsI g root num par (TY f w c):=by
 obtain⟨M,N,O⟩:=zbW hT hI hw hwr hp hc hch
 have z:c≠Vz:=hT.n.no c (hI.fo.in_ c hc)
 have B:Go.Proofs.YtbihggbffaigjaaGreatDoor.TY f w c w≠Vz:=by rw[W1];exact z
 have sw:∀x,Dm g root x w->Ch (Go.Proofs.YtbihggbffaigjaaGreatDoor.TY f w c) root w x:=λx m=>by
  rw[zgN hT hI hw hwr hp hc hch];by_cases e:x=w
  ·exact .inl e
  ·refine .inr ((hch x).2 λp F H E=>hI.s p x E ⟨F,λj C=>m.2 (j+1) (.step C H λu=>e u.symm)⟩)
 refine⟨⟨by rw[Ve hwr.symm];exact hI.fo.rt,λv l S=>?_,λv l=>?_⟩,λv x l h=>?_,λv x l m=>?_⟩
 ·by_cases e:v=w
  ·subst e;rw[W1,Ve N];exact⟨hc,M⟩
  ·have d:=z4A hT hI hw hwr hp hc hch l e;obtain⟨q,r⟩:=hI.fo.up v d S;rw[Ve e];refine⟨?_,r⟩;by_cases u:f v=w
   ·rw[u];exact B
   ·rw[Ve u];exact q
 ·by_cases e:v=w
  ·subst e;exact hw
  ·exact hI.fo.in_ v (z4A hT hI hw hwr hp hc hch l e)
 ·have J:∀y,Ch (Go.Proofs.YtbihggbffaigjaaGreatDoor.TY f w c) root w y->Ch par root w y:=λy U=>by
   rcases (zgN hT hI hw hwr hp hc hch).1 U with e| e
   ·subst e;exact .refl _
   ·exact .up hwr ((hI.t _ _ hp O).trans (hI.t _ _ hc e))
  by_cases e:v=w
  ·subst e;exact J x h
  ·have d:=z4A hT hI hw hwr hp hc hch l e;rcases z8X hT hI hw hwr hp hc hch h with h|⟨q,r⟩
   ·exact hI.t v x d h
   ·exact(hI.t v w d q).trans (J x r)
 ·by_cases e:v=w
  ·subst e;exact sw x m
  ·have d:=z4A hT hI hw hwr hp hc hch l e;rcases zgB hT hI hw hwr hp hc hch (hI.s v x d m) with h|⟨q,r,W,I⟩
   ·exact h
   ·refine q.trans<|sw x ⟨hw,λj C=>?_⟩;have V:=r.mem hI.fo (I.mem hI.fo d).1
    have D:num w<num x:=by
     rcases y0a (num w) (num x) with h| h
     ·exact h
     ·exact absurd (V.2.2 ω) W
    obtain⟨-,i,hi⟩:=zb6 hT (hI.t v w d I) (hI.fo.in_ v d) D C;exact m.2 i hi
theorem z7R (q:Pj g root f j)(n:j=0\/∀v,SG g root v->f v≠Vz)(m:f root≠Vz):∀x i,i<=j+1->Av g root x i w->¬Ch (TY f w c) root w x:=λx i hi d h=>by
 rcases (zgN hT hI hw hwr hp hc hch).1 h with e| e
 ·exact d.ne e.symm
 ·cases d with
  |zero _=>exact hwr O
  | step d r s =>
    rename_i i p
    have l:f p≠Vz:=by
     rcases n with e| e
     ·have:i=0:=ω
      subst this;cases d;exact m
     ·exact e p d.rch
    exact q p x i ω d l ((hch x).1 e p d.rch r l)
theorem zdP (n:Pj g root f j)(q:j=0\/∀v,SG g root v->f v≠Vz)(l:f root≠Vz):Pj g root (TY f w c) j:=λv x i hi d s h=>by
 by_cases e:v=w
 ·subst e;exact z7R hT hI hw hwr hp hc hch n q l x i ω d h
 ·have m:=z4A hT hI hw hwr hp hc hch s e;rcases z8X hT hI hw hwr hp hc hch h with h|⟨z,B⟩
  ·exact n v x i hi d m h
  ·rcases d.split hwr with d|⟨u,r,d⟩
   ·exact n v w i hi d m z
   ·exact z7R hT hI hw hwr hp hc hch n q l x u ω d B
end
structure DsK (g:List (List Nat))(root:Nat)(num par:Nat->Nat)(j k:Nat)(f:Nat->Nat):Prop where
 i:DsI g root num par f
 p:Pj g root f j
 did:∀v,SG g root v->k<=num v->f v≠Vz/\∀x i,i<=j+1->Av g root x i v->¬Ch f root v x
def DsI.r0 (hT:TrF g root num par)(h:DsI g root num par f):f root≠Vz:=by
 rw[h.fo.rt]
 exact hT.n.no root hT.n.rt
theorem DsK.begin (hT:TrF g root num par)(hI:DsI g root num par f)(e:Pj g root f j):DsK g root num par j (num root) f:=by
 refine⟨hI,e,λv d m=>?_⟩
 obtain rfl:=hT.n.inj v root d hT.n.rt (by have:=hT.n.top v d;omega)
 exact⟨hI.r0 hT,λx i _ l h=>l.ne h.at_root.symm⟩
theorem DsK.next (hT:TrF g root num par)(h:DsK g root num par j (k+1) f)(r:j=0\/∀v,SG g root v->f v≠Vz)(hw:SG g root w)(H:num w=k)(D:k<num root)(hc:f c≠Vz)(hch:∀x,Ch f root c x↔∀p,SG g root p->w∈Pa g p->f p≠Vz->Ch f root p x):DsK g root num par j k (TY f w c)/\(j=0\/∀v,SG g root v->TY f w c v≠Vz):=by
 have hwr:w≠root:=λe=>by subst e;omega
 obtain⟨E,J,M⟩:=hT.par w hw hwr
 have hp:=(h.did (par w) E ω).1
 have q:=h.i.r0 hT
 have l:c≠Vz:=hT.n.no c (h.i.fo.in_ c hc)
 have m:∀v,f v≠Vz->TY f w c v≠Vz:=λv d=>by
  by_cases e:v=w
  ·subst e;rw[W1];exact l
  ·rw[Ve e];exact d
 refine⟨⟨DsI.TY hT h.i hw hwr hp hc hch,zdP hT h.i hw hwr hp hc hch h.p r q,λv d I=>?_⟩,r.imp id λe v d=>m v (e v d)⟩
 by_cases e:v=w
 ·subst e;exact⟨by rw[W1];exact l,z7R hT h.i hw hwr hp hc hch h.p r q⟩
 ·have s:k+1<=num v:=by
   rcases y0a k (num v) with u|u
   ·exact u
   ·exact absurd (hT.n.inj v w d hw ω) e
  obtain⟨z,F⟩:=h.did v d s;refine⟨m v z,λx i hi B C=>F x i hi B ?_⟩;exact(z1U hT h.i hw hwr hp hc hch z ω).1 C
theorem DsK.fin (h:DsK g root num par j 0 f):Pj g root f (j+1)/\∀v,SG g root v->f v≠Vz:=
 ⟨λv x i hi d e=>(h.did v d.rch (y00 _)).2 x i hi d,λv e=>(h.did v e (y00 _)).1⟩
structure Yu (g:List (List Nat))(root:Nat)(num par f:Nat->Nat):Prop where
 i:DsI g root num par f
 c:∀v,SG g root v->f v≠Vz
 p:∀j,Pj g root f j
theorem Yu.iff (h:Yu g root num par f)(d:SG g root v):Ch f root v x↔Dm g root x v:=
 ⟨λe=>⟨d,λj l=>h.p j v x j (y02 _) l (h.c v d) e⟩,λe=>h.i.s v x (h.c v d) e⟩
theorem Yu.zga (hT:TrF g root num par)(h:Yu g root num par f)(hw:SG g root w)(hwr:w≠root)(hc:f c≠Vz)(hch:∀x,Ch f root c x↔∀p,SG g root p->w∈Pa g p->f p≠Vz->Ch f root p x):f w=c:=by
 have n:=h.c w hw
 obtain⟨s,z,C⟩:=hT.par w hw hwr
 obtain⟨u,D⟩:=h.i.fo.up w n hwr
 have key:∀x,Ch f root c x↔Ch f root (f w) x:=λx=>by
  rw[hch];constructor
  ·intro l
   have m:Dm g root x w:=⟨hw,λj d=>by
    cases d with
    |zero _=>exact hwr O
    | step d q B =>
      rename_i j p
      exact((h.iff d.rch).1 (l p d.rch q (h.c p d.rch))).2 j d⟩
   rcases ((h.iff hw).2 m).inv with e| e
   ·subst e;have:=((l (par x) s z (h.c _ s)).mem h.i.fo (h.c _ s)).2.1;omega
   ·exact e.2
  ·intro l p hp q _
   have r:x≠w:=λe=>by
    subst e;have:=(l.mem h.i.fo u).2.1;omega
   have m:=(h.iff hw).1 (.up hwr l);exact(h.iff hp).2 ⟨hp,λj d=>m.2 (j+1) (.step d q r.symm)⟩
 exact Ch.zks h.i.fo ((key c).1 (.refl c)) ((key (f w)).2 (.refl _)) u
end
abbrev lft (l:List Nat)(v:Nat):Prop:=l[v]? =some 4294967295
def bkC (l c m:List Nat)(v u:Nat):Prop:=lft l u/\m.getD u 0=1/\c.getD u 0=c.getD v 0
instance (l c m:List Nat) (v u:Nat):Decidable (bkC l c m v u):=by unfold bkC;infer_instance
/-! ### Counting -/
def Ws {p q:Nat->Bool}:∀{l:List Nat},(∀x∈l,p x=true->q x=true)->l.countP p<=l.countP q
 |[],_=>y02 _
 | x :: l, h => by
   have n:=Ws (p:=p) (q:=q) (l:=l) λy e=>h y (y0s _ e);have b:=h x y0p;rw[y0V,y0V]
   cases d:p x with
   |false=>simp;omega
   |true=>rw[b d];simp;omega
def Zo {p q:Nat->Bool}:∀{l:List Nat},(∀x∈l,p x=true->q x=true)->∀{y:Nat},y∈l->p y=false->q y=true->l.countP p<l.countP q
 | x :: l, h, y, hy, h1, h2 => by
   have d:=h x y0p;rw[y0V,y0V];rcases y0l.1 hy with e| e
   ·subst e;have r:=Ws (p:=p) (q:=q) (l:=l) λz b=>h z (y0s _ b);rw[h1,h2];simp;omega
   ·have r:=Zo (p:=p) (q:=q) (l:=l) (λz b=>h z (y0s _ b)) e h1 h2
    cases n:p x with
    |false=>simp;omega
    |true=>rw[d n];simp;omega
open Classical in
noncomputable def WR (n:Nat)(P:Nat->Prop):Nat:=(List.range n).countP λv=>decide (P v)
open Classical in
def ze6 {n:Nat}{Q:Nat->Prop}(h:∀v,v<n->P v->Q v):WR n P<=WR n Q:=
 Ws λx d b=>decide_eq_true (h x (y0H.1 d) (of_decide_eq_true b))
open Classical in
def z1l {n:Nat}{Q:Nat->Prop}(h:∀v,v<n->P v->Q v){v:Nat}(q:v<n)(b:¬P v)(d:Q v):WR n P<WR n Q:=
 Zo (λx r e=>decide_eq_true (h x (y0H.1 r) (of_decide_eq_true e))) (y0H.2 q) (decide_eq_false b) (decide_eq_true d)
theorem z3H {n:Nat}:WR n P<=n:=by
 have:=List.countP_le_length (p:=λv=>@decide (P v) (Classical.propDecidable _)) (l:=List.range n)
 rw[y14] at this
 exact this
theorem zdj {n:Nat}{v:Nat}(b:v<n)(h:P v):0<WR n P:=by
 have:=z1l (n:=n) (P:=λ_=>False) (Q:=P) (λ_ _ e=>e.elim) b (λe=>e) h
 omega
def XK {l:List Nat}{v x:Nat}(h:l[v]? =some x):l.getD v 0=x:=by rw[y17,h];rfl
theorem QU {l:List Nat}{v u x:Nat}(h:v<l.length):(l.set v x).getD u 0=if u=v then x else l.getD u 0:=by
 rw[y17,y17]
 split
 ·rename_i e
  subst e;rw[y0Q h];rfl
 ·rename_i e
  rw[y0A (Ne.symm e)]
/-! ### Trim -/
section
/-! ### Colours -/
/-! ### Marks -/
end
structure DmS where
 steps:Nat
 fin:Nat
 Pv:Nat
 Ru:Bool
 done:Bool
 num:List Nat
 looked:List Nat
 cand:List Nat
 Vy:List Nat
 ord:List Nat
def DmS.push (s:DmS)(v:Nat):DmS:={s with num:=s.num.set v 4294967294,looked:=s.looked.set v 0,Vy:=s.Vy.set s.Pv v,Pv:=s.Pv+1}
def DmS.new (n root:Nat):DmS:=DmS.push ⟨0,0,0,false,false,List.replicate n 4294967295,List.replicate n 0,List.replicate n 4294967295,List.replicate n 0,List.replicate n 0⟩ root
def DmS.XW (s:DmS)(v:Nat):DmS:={s with num:=s.num.set v s.fin,ord:=s.ord.set s.fin v,fin:=s.fin+1,Pv:=s.Pv-1}
def DmS.look (s:DmS)(v:Nat):DmS:={s with looked:=s.looked.set v (s.looked.getD v 0+1)}
def DmS.move (g:List (List Nat))(s:DmS):DmS:=
 match(Pa g (s.Vy.getD (s.Pv-1) 0))[s.looked.getD (s.Vy.getD (s.Pv-1) 0) 0]? with
 |none=>s.XW (s.Vy.getD (s.Pv-1) 0)
 |some u=>if s.num.getD u 0=4294967295 then(s.look (s.Vy.getD (s.Pv-1) 0)).push u else s.look (s.Vy.getD (s.Pv-1) 0)
def DmS.QP (g:List (List Nat)):Nat->DmS->DmS
 |0,s=>s
 |k+1,s=>if 0<s.Pv then DmS.QP g k (s.move g) else s
/-! ### Sums -/
def z8F {n:Nat}{w d:Nat}(m:w<n)(b:∀v,v≠w->f' v=f v)(h:f' w=f w+d):((List.range n).map f').sum=((List.range n).map f).sum+d:=by
 induction n with
 |zero=>exact absurd m (y1N _)
 | succ n q =>
   rw[y0P,y0f,y0f,y0Y,y0Y];simp only[y0n,y1u,y0I,y1s];by_cases e:w=n
   ·subst e;have:(List.range w).map f'=(List.range w).map f:=y0O λv l=>b v (by have:=y0H.1 l;omega);rw[this,h];omega
   ·rw[q ω,b n (Ne.symm e)];omega
def zg2 {n:Nat}(h:∀v,v<n->f v<=f' v):((List.range n).map f).sum<=((List.range n).map f').sum:=by
 induction n with
 |zero=>exact y02 _
 | succ n b =>
   rw[y0P,y0f,y0f,y0Y,y0Y];simp only[y0n,y1u,y0I,y1s];have:=b λv d=>h v ω;have:=h n ω;omega
theorem zaO {n:Nat}:((List.range n).map λ_=>c).sum=n*c:=by
 induction n with
 |zero=>simp
 | succ n b =>
   rw[y0P,y0f,y0Y,b,y0G];simp
def YI (n:Nat)(s:DmS):Nat:=s.fin+((List.range n).map λv=>if s.num.getD v 0=4294967295 then 0 else s.looked.getD v 0).sum
structure Y1 (g:List (List Nat))(root:Nat)(s:DmS):Prop where
 nn:s.num.length=g.length
 ln:s.looked.length=g.length
 cn:s.cand=List.replicate g.length 4294967295
 sn:s.Vy.length=g.length
 on:s.ord.length=g.length
 st:∀i,i<s.Pv->s.Vy.getD i 0<g.length/\s.num.getD (s.Vy.getD i 0) 0=4294967294
 inj:∀i j,i<j->j<s.Pv->s.Vy.getD i 0≠s.Vy.getD j 0
 op:∀v,v<g.length->s.num.getD v 0=4294967294->∃i,i<s.Pv/\s.Vy.getD i 0=v
 od:∀i,i<s.fin->s.ord.getD i 0<g.length/\s.num.getD (s.ord.getD i 0) 0=i
 no:∀v,v<g.length->s.num.getD v 0=4294967295\/s.num.getD v 0=4294967294\/(s.num.getD v 0<s.fin/\s.ord.getD (s.num.getD v 0) 0=v)
 rt:(0<s.Pv->s.Vy.getD 0 0=root)/\(s.Pv=0->s.num.getD root 0+1=s.fin)
 re:∀v,v<g.length->s.num.getD v 0≠4294967295->SG g root v
 ed:∀i,i+1<s.Pv->s.Vy.getD (i+1) 0∈Pa g (s.Vy.getD i 0)
 lk:∀v,v<g.length->s.num.getD v 0≠4294967295->s.looked.getD v 0<=(Pa g v).length/\∀j u,j<s.looked.getD v 0->(Pa g v)[j]? =some u->s.num.getD u 0≠4294967295
 fn:∀v,v<g.length->s.num.getD v 0<s.fin->s.looked.getD v 0=(Pa g v).length
 pr:∀v,v<g.length->s.num.getD v 0<s.fin->v≠root->∃p,p<g.length/\v∈Pa g p/\(s.num.getD p 0=4294967294\/(s.num.getD p 0<s.fin/\s.num.getD v 0<s.num.getD p 0))
 ct:s.fin+s.Pv<=WR g.length (λv=>s.num.getD v 0≠4294967295)
section
variable {root v u:Nat}{s:DmS}
def Y1.fh (h:Y1 g root s):s.fin+s.Pv<=g.length:=y0b h.ct z3H
theorem Y1.push (h:Y1 g root s)(hg:QJ g){u:Nat}(x:u<g.length)(M:s.num.getD u 0=4294967295)(Z:SG g root u)(a:s.Pv=0->u=root/\s.fin=0)(W:0<s.Pv->u∈Pa g (s.Vy.getD (s.Pv-1) 0)):Y1 g root (s.push u):=by
 have S:=hg.n
 have Y:=h.fh
 have z:s.fin+(s.Pv+1)<=WR g.length (λv=>(s.num.set u 4294967294).getD v 0≠4294967295):=by
  have r:=h.ct
  have m:WR g.length (λv=>s.num.getD v 0≠4294967295)<WR g.length (λv=>(s.num.set u 4294967294).getD v 0≠4294967295):=z1l (λv _ d=>by
   rw[QU (by rw[h.nn];exact x)];split
   ·decide
   ·exact d) x (λe=>e M) (by rw[QU (by rw[h.nn];exact x),if_pos O];decide)
  omega
 have F:s.Pv<g.length:=by
  have:=y0b z z3H;omega
 have l:∀v,(s.push u).num.getD v 0=if v=u then 4294967294 else s.num.getD v 0:=λv=>QU (by rw[h.nn];exact x)
 have R:∀v,(s.push u).looked.getD v 0=if v=u then 0 else s.looked.getD v 0:=λv=>QU (by rw[h.ln];exact x)
 have gs:∀i,(s.push u).Vy.getD i 0=if i=s.Pv then u else s.Vy.getD i 0:=λi=>QU (by rw[h.sn];exact F)
 have D:∀i,i<s.Pv->s.Vy.getD i 0≠u:=λi hi e=>by
  have:=(h.st i hi).2;rw[e,M] at this;cases this
 have q:(s.push u).Pv=s.Pv+1:=rfl
 have y:(s.push u).fin=s.fin:=rfl
 have go:(s.push u).ord=s.ord:=rfl
 refine⟨by show(s.num.set _ _).length=_;rw[y0x];exact h.nn,by show(s.looked.set _ _).length=_;rw[y0x];exact h.ln,h.cn,by show(s.Vy.set _ _).length=_;rw[y0x];exact h.sn,h.on,λi hi=>?_,λi j H C=>?_,λv d e=>?_,λi hi=>?_,λv d=>?_,⟨λ_=>?_,λe=>?_⟩,λv d e=>?_,λi hi=>?_,λv d e=>?_,λv d e=>?_,λv d e N=>?_,z⟩
 ·rw[q] at hi;rw[gs];split
  ·rename_i e
   rw[l,if_pos O];exact⟨x,O⟩
  ·rename_i e
   have B:i<s.Pv:=ω
   rw[l,if_neg (D i B)];exact h.st i B
 ·rw[q] at C;rw[gs,gs,if_neg (show i≠s.Pv by omega)];split
  ·exact D i ω
  ·exact h.inj i j H ω
 ·rw[l] at e;by_cases b:v=u
  ·exact⟨s.Pv,by rw[q];omega,by rw[gs,if_pos O];exact b.symm⟩
  ·rw[if_neg b] at e;obtain⟨i,hi,I⟩:=h.op v d e;exact⟨i,by rw[q];omega,by rw[gs,if_neg ω];exact I⟩
 ·rw[y] at hi;rw[go];obtain⟨r,m⟩:=h.od i hi;refine⟨r,?_⟩;rw[l,if_neg (λe=>?_)]
  ·exact m
  ·rw[e,M] at m;omega
 ·rw[l,y,go];split
  ·exact .inr (.inl O)
  ·exact h.no v d
 ·rw[gs];split
  ·rename_i e;exact(a e.symm).1
  ·rename_i e;exact h.rt.1 ω
 ·rw[q] at e;omega
 ·rw[l] at e;split at e
  ·rename_i b;rw[b];exact Z
  ·exact h.re v d e
 ·rw[q] at hi;rw[gs,gs,if_neg (show i≠s.Pv by omega)];split
  ·rename_i e
   have:=W ω;rw[show s.Pv-1=i by omega] at this;exact this
  ·exact h.ed i ω
 ·rw[l] at e;rw[R];split
  ·rename_i b
   exact⟨y00 _,λj U C=>absurd C (y1N _)⟩
  ·rename_i b
   rw[if_neg b] at e;obtain⟨r,m⟩:=h.lk v d e;refine⟨r,λj U C J=>?_⟩;rw[l];split
   ·decide
   ·exact m j U C J
 ·rw[l,y] at e;rw[R];split
  ·rename_i b
   rw[if_pos b] at e;omega
  ·rename_i b
   rw[if_neg b] at e;exact h.fn v d e
 ·rw[l,y] at e;have E:v≠u:=λb=>by rw[if_pos b] at e;omega
  rw[if_neg E] at e;obtain⟨p,r,m,V⟩:=h.pr v d e N;refine⟨p,r,m,?_⟩;rw[l,l,y,if_neg E];split
  ·exact .inl O
  ·exact V
theorem Y1.look (h:Y1 g root s)(hg:QJ g)(H:v<g.length)(y:s.num.getD v 0=4294967294)(m:(Pa g v)[s.looked.getD v 0]? =some u)(r:s.num.getD u 0≠4294967295):Y1 g root (s.look v):=by
 have B:∀x,(s.look v).looked.getD x 0=if x=v then s.looked.getD v 0+1 else s.looked.getD x 0:=λx=>QU (by rw[h.ln];exact H)
 have F:=h.fh
 have J:=hg.n
 refine⟨h.nn,by show(s.looked.set _ _).length=_;rw[y0x];exact h.ln,h.cn,h.sn,h.on,h.st,h.inj,h.op,h.od,h.no,h.rt,h.re,h.ed,λx z e=>?_,λx z e=>?_,h.pr,h.ct⟩
 ·obtain⟨E,C⟩:=h.lk x z e;rw[B];split
  ·rename_i d
   subst d
   have q:s.looked.getD x 0<(Pa g x).length:=by
    rcases y0a (s.looked.getD x 0) (Pa g x).length with l|l
    ·exact l
    ·rw[y0e l] at m;cases m
   refine⟨q,λi I hi b=>?_⟩;by_cases D:i=s.looked.getD x 0
   ·subst D;rw[m] at b;obtain rfl:=y11 b;exact r
   ·exact C i I ω b
  ·exact⟨E,C⟩
 ·rw[B];split
  ·rename_i d
   have e:s.num.getD x 0<s.fin:=e;rw[d,y] at e;omega
  ·exact h.fn x z e
theorem Y1.XW (h:Y1 g root s)(hg:QJ g)(S:0<s.Pv)(c:(Pa g (s.Vy.getD (s.Pv-1) 0))[s.looked.getD (s.Vy.getD (s.Pv-1) 0) 0]? =none):Y1 g root (s.XW (s.Vy.getD (s.Pv-1) 0)):=by
 have f:=hg.n
 have G:=h.fh
 obtain⟨v,d⟩:∃v,s.Vy.getD (s.Pv-1) 0=v:=⟨_,O⟩
 have H:=h.st (s.Pv-1) ω
 rw[d] at c H⊢
 obtain⟨Y,C⟩:=H
 have R:s.fin<g.length:=ω
 have q:∀x,(s.XW v).num.getD x 0=if x=v then s.fin else s.num.getD x 0:=λx=>QU (by rw[h.nn];exact Y)
 have go:∀i,(s.XW v).ord.getD i 0=if i=s.fin then v else s.ord.getD i 0:=λi=>QU (by rw[h.on];exact R)
 have D:(s.XW v).Pv=s.Pv-1:=rfl
 have z:(s.XW v).fin=s.fin+1:=rfl
 have gs:(s.XW v).Vy=s.Vy:=rfl
 have Z:(s.XW v).looked=s.looked:=rfl
 have W:s.looked.getD v 0=(Pa g v).length:=by
  have b:=(h.lk v Y (by rw[C];decide)).1;have r:=List.getElem?_eq_none_iff.1 c;omega
 have y:∀x,(s.XW v).num.getD x 0≠4294967295↔s.num.getD x 0≠4294967295:=λx=>by
  rw[q];split
  ·rename_i e;rw[e,C];exact⟨λ_=>ψ,λ_=>ω⟩
  ·exact y0U
 have E:∀i,i<s.Pv-1->s.Vy.getD i 0≠v:=λi hi=>by rw[<-d];exact h.inj i _ hi ω
 refine⟨by show(s.num.set _ _).length=_;rw[y0x];exact h.nn,h.ln,h.cn,h.sn,by show(s.ord.set _ _).length=_;rw[y0x];exact h.on,λi hi=>?_,λi j U V=>?_,λx l e=>?_,λi hi=>?_,λx l=>?_,⟨λe=>?_,λe=>?_⟩,λx l e=>?_,λi hi=>?_,λx l e=>?_,λx l e=>?_,λx l e J=>?_,?_⟩
 ·rw[D] at hi;rw[gs,q,if_neg (E i hi)];exact h.st i ω
 ·rw[D] at V;exact h.inj i j U ω
 ·rw[q] at e;by_cases m:x=v
  ·rw[if_pos m] at e;omega
  ·rw[if_neg m] at e;obtain⟨i,hi,B⟩:=h.op x l e;refine⟨i,?_,B⟩;rw[D];by_cases w:i=s.Pv-1
   ·rw[w,d] at B;exact absurd B.symm m
   ·omega
 ·rw[z] at hi;rw[go];split
  ·rename_i e
   rw[q,if_pos O];exact⟨Y,e.symm⟩
  ·rename_i e
   obtain⟨b,r⟩:=h.od i ω;refine⟨b,?_⟩;rw[q,if_neg (λm=>?_)]
   ·exact r
   ·rw[m,C] at r;omega
 ·rw[q,z,go];split
  ·rename_i e
   exact .inr (.inr ⟨ω,by rw[if_pos O];exact e.symm⟩)
  ·rcases h.no x l with b|b|⟨b,r⟩
   ·exact .inl b
   ·exact .inr (.inl b)
   ·exact .inr (.inr ⟨ω,by rw[if_neg ω];exact r⟩)
 ·rw[gs];exact h.rt.1 S
 ·rw[D] at e;have t:s.Pv-1=0:=e;have o:=h.rt.1 S;rw[t] at d;rw[d] at o;rw[q,z,if_pos o.symm]
 ·exact h.re x l ((y x).1 e)
 ·rw[D] at hi;exact h.ed i ω
 ·obtain⟨b,r⟩:=h.lk x l ((y x).1 e);rw[Z];exact⟨b,λj u V K=>(y u).2 (r j u V K)⟩
 ·rw[q,z] at e;rw[Z];by_cases m:x=v
  ·rw[m];exact W
  ·rw[if_neg m] at e;refine h.fn x l ?_;rcases h.no x l with b|b|⟨b,r⟩
   ·omega
   ·omega
   ·exact b
 ·rw[q,z] at e;by_cases m:x=v
  ·subst m
   have k:0<s.Pv-1:=by
    rcases y0y (s.Pv-1) with N|N
    ·rw[N] at d;have:=h.rt.1 S;rw[d] at this;exact absurd this J
    ·exact N
   have a:=h.ed (s.Pv-2) ω;rw[show s.Pv-2+1=s.Pv-1 by omega,d] at a;have F:=h.st (s.Pv-2) ω;refine⟨_,F.1,a,.inl ?_⟩;rw[q,if_neg (E _ ω)];exact F.2
  ·rw[if_neg m] at e
   have I:s.num.getD x 0<s.fin:=by
    rcases h.no x l with b|b|⟨b,r⟩
    ·omega
    ·omega
    ·exact b
   obtain⟨p,b,r,M⟩:=h.pr x l I J;refine⟨p,b,r,?_⟩;rw[q,q,z,if_neg m];split
   ·exact .inr ⟨ω,I⟩
   ·rcases M with M|⟨M,A⟩
    ·exact .inl M
    ·exact .inr ⟨ω,A⟩
 ·have b:=h.ct;rw[z,D];have r:WR g.length (λv=>s.num.getD v 0≠4294967295)<=WR g.length (λx=>(s.XW v).num.getD x 0≠4294967295):=ze6 λx _ e=>(y x).2 e;omega
theorem Y1.new (hg:QJ g)(r:root<g.length):Y1 g root (DmS.new g.length root):=by
 have z:=hg.n
 have m:∀x,(DmS.new g.length root).num.getD x 0=if x=root then 4294967294 else(List.replicate g.length 4294967295).getD x 0:=λx=>QU (by rw[y08];exact r)
 have b:∀x c,x<g.length->(List.replicate g.length c).getD x 0=c:=λx c d=>by rw[y17,y0T,if_pos d];rfl
 have gs:∀i,(DmS.new g.length root).Vy.getD i 0=if i=0 then root else(List.replicate g.length 0).getD i 0:=λi=>QU (by rw[y08];show 0<g.length;omega)
 have B:∀x,(DmS.new g.length root).looked.getD x 0=0:=λx=>by
  show((List.replicate g.length 0).set root 0).getD x 0=0;rw[QU (by rw[y08];exact r)];split
  ·rfl
  ·rw[y17,y0T];split<;>rfl
 have h:(DmS.new g.length root).Pv=1:=rfl
 have q:(DmS.new g.length root).fin=0:=rfl
 refine⟨by show(List.set _ _ _).length=_;rw[y0x,y08],by show(List.set _ _ _).length=_;rw[y0x,y08],O,by show(List.set _ _ _).length=_;rw[y0x,y08],y08,λi hi=>?_,λi j C y=>?_,λx d e=>?_,λi hi=>?_,λx d=>?_,⟨λe=>?_,λe=>?_⟩,λx d e=>?_,λi hi=>?_,λx d e=>?_,λx d e=>?_,λx d e D=>?_,?_⟩
 ·rw[h] at hi;rw[gs,if_pos ω,m,if_pos O];exact⟨r,O⟩
 ·rw[h] at y;omega
 ·rw[m] at e;by_cases l:x=root
  ·exact⟨0,by rw[h];omega,by rw[gs,if_pos O];exact l.symm⟩
  ·rw[if_neg l,b x _ d] at e;cases e
 ·rw[q] at hi;omega
 ·rw[m];split
  ·exact .inr (.inl O)
  ·exact .inl (b x _ d)
 ·rw[gs,if_pos O]
 ·rw[h] at e;cases e
 ·rw[m] at e;by_cases l:x=root
  ·rw[l];exact .refl
  ·rw[if_neg l,b x _ d] at e;exact absurd O e
 ·rw[h] at hi;omega
 ·rw[B];exact⟨y00 _,λj u y=>absurd y (y1N _)⟩
 ·rw[q] at e;omega
 ·rw[q] at e;omega
 ·rw[q,h];exact zdj r (by rw[m,if_pos O];decide)
theorem Y1.move (h:Y1 g root s)(hg:QJ g)(N:0<s.Pv):Y1 g root (s.move g)/\YI g.length (s.move g)=YI g.length s+1:=by
 have E:=hg.n
 have M:=h.fh
 obtain⟨m,b⟩:=h.st (s.Pv-1) ω
 unfold DmS.move
 cases z:(Pa g (s.Vy.getD (s.Pv-1) 0))[s.looked.getD (s.Vy.getD (s.Pv-1) 0) 0]? with
 | none =>
   refine⟨h.XW hg N z,?_⟩
   generalize s.Vy.getD (s.Pv-1) 0=v at m b z
   have:((List.range g.length).map λx=>if(s.XW v).num.getD x 0=4294967295 then 0 else s.looked.getD x 0)=(List.range g.length).map λx=>if s.num.getD x 0=4294967295 then 0 else s.looked.getD x 0:=by
    refine y0O λx _=>?_;show(if(s.num.set v s.fin).getD x 0=4294967295 then 0 else s.looked.getD x 0)=_;rw[QU (by rw[h.nn];exact m)];by_cases e:x=v
    ·rw[if_pos e,e,b,if_neg ω,if_neg ψ]
    ·rw[if_neg e]
   show s.fin+1+((List.range g.length).map λx=>if(s.XW v).num.getD x 0=4294967295 then 0 else s.looked.getD x 0).sum=s.fin+_+1
   rw[this];omega
 | some u =>
   have r:u∈Pa g (s.Vy.getD (s.Pv-1) 0):=y0j z;have l:u<g.length:=Sa hg _ u r;dsimp only;split
   ·rename_i q
    have B:=h.re _ m (by rw[b];decide);have J:=h.push hg l q (.step B r) (λe=>ω) λ_=>r
    generalize s.Vy.getD (s.Pv-1) 0=v at m b z r B
    have y:v≠u:=λe=>by rw[e,q] at b;cases b
    have C:(s.push u).looked.getD v 0=s.looked.getD v 0:=by
     show(s.looked.set u 0).getD v 0=_;rw[QU (by rw[h.ln];exact l),if_neg y]
    have F:(s.look v).push u=(s.push u).look v:=by
     show DmS.mk .. =DmS.mk ..
     congr 1
     show(s.looked.set v _).set u 0=(s.looked.set u 0).set v ((s.push u).looked.getD v 0+1);rw[C];exact List.set_comm _ _ y
    have H:(s.push u).num.getD u 0=4294967294:=by
     show(s.num.set u 4294967294).getD u 0=_;rw[QU (by rw[h.nn];exact l),if_pos O]
    have I:(s.push u).num.getD v 0=4294967294:=by
     show(s.num.set u 4294967294).getD v 0=_;rw[QU (by rw[h.nn];exact l),if_neg y];exact b
    rw[F];refine⟨J.look hg m I (by rw[C];exact z) (by rw[H];decide),?_⟩
    have:=z8F (n:=g.length) (f:=λx=>if s.num.getD x 0=4294967295 then 0 else s.looked.getD x 0) (f':=λx=>if((s.push u).look v).num.getD x 0=4294967295 then 0 else((s.push u).look v).looked.getD x 0) (w:=v) (d:=1) m (λx D=>by
     show(if(s.num.set u 4294967294).getD x 0=4294967295 then 0 else((s.looked.set u 0).set v _).getD x 0)=if s.num.getD x 0=4294967295 then 0 else s.looked.getD x 0;rw[QU (by rw[h.nn];exact l),QU (by rw[y0x,h.ln];exact m),if_neg D,QU (by rw[h.ln];exact l)];by_cases e:x=u
     ·rw[if_pos e,if_pos e,e,q];rfl
     ·rw[if_neg e,if_neg e]) (by
     show(if(s.num.set u 4294967294).getD v 0=4294967295 then 0 else((s.looked.set u 0).set v ((s.push u).looked.getD v 0+1)).getD v 0)=(if s.num.getD v 0=4294967295 then 0 else s.looked.getD v 0)+1
     rw[QU (by rw[h.nn];exact l),QU (by rw[y0x,h.ln];exact m),if_pos O,C,if_neg y,b];rfl)
    show s.fin+((List.range g.length).map (λx=>if((s.push u).look v).num.getD x 0=4294967295 then 0 else((s.push u).look v).looked.getD x 0)).sum=s.fin+_+1;rw[this];omega
   ·rename_i q
    refine⟨h.look hg m b z q,?_⟩
    generalize s.Vy.getD (s.Pv-1) 0=v at m b z r
    have:=z8F (n:=g.length) (f:=λx=>if s.num.getD x 0=4294967295 then 0 else s.looked.getD x 0) (f':=λx=>if(s.look v).num.getD x 0=4294967295 then 0 else(s.look v).looked.getD x 0) (w:=v) (d:=1) m (λx D=>by
     show(if s.num.getD x 0=4294967295 then 0 else(s.looked.set v _).getD x 0)=if s.num.getD x 0=4294967295 then 0 else s.looked.getD x 0
     rw[QU (by rw[h.ln];exact m),if_neg D]) (by
     show(if s.num.getD v 0=4294967295 then 0 else(s.looked.set v _).getD v 0)=(if s.num.getD v 0=4294967295 then 0 else s.looked.getD v 0)+1
     rw[QU (by rw[h.ln];exact m),if_pos O,b];rfl)
    show s.fin+((List.range g.length).map (λx=>if(s.look v).num.getD x 0=4294967295 then 0 else(s.look v).looked.getD x 0)).sum=s.fin+_+1;rw[this];omega
theorem Y1.QP (hg:QJ g):∀(k:Nat) {s:DmS},Y1 g root s->Y1 g root (s.QP g k)/\((0<(s.QP g k).Pv/\YI g.length (s.QP g k)=YI g.length s+k)\/((s.QP g k).Pv=0/\YI g.length (s.QP g k)<=YI g.length s+k/\(0<s.Pv->0<k->YI g.length s<YI g.length (s.QP g k))))
 | 0, s, h => by
   refine⟨h,?_⟩;rcases y0y s.Pv with e| e
   ·exact .inr ⟨e,y02 _,λ_ h=>absurd h (Nat.lt_irrefl _)⟩
   ·exact .inl ⟨e,O⟩
 | k + 1, s, h => by
   have m:s.QP g (k+1)=if 0<s.Pv then(s.move g).QP g k else s:=rfl;rw[m];split
   ·rename_i l
    obtain⟨n,z⟩:=h.move hg l;obtain⟨q,b⟩:=Y1.QP hg k n;refine⟨q,?_⟩;rcases b with⟨b,r⟩|⟨b,r,x⟩
    ·exact .inl ⟨b,ω⟩
    ·refine .inr ⟨b,ω,λ_ _=>?_⟩
     have y:∀k,(s.move g).Pv=0->(s.move g).QP g k=s.move g:=λk d=>by
      cases k with
      |zero=>rfl
      | succ k =>
        show(if 0<(s.move g).Pv then _ else _)=_;rw[if_neg ω]
     rcases y0y k with e| e
     ·subst e;show _<YI g.length (s.move g);omega
     ·rcases y0y (s.move g).Pv with d|d
      ·rw[y k d];omega
      ·have:=x d e;omega
   ·rename_i l
    exact⟨h,.inr ⟨ω,ω,λe=>absurd e l⟩⟩
theorem Y1.found (h:Y1 g root s)(hg:QJ g)(H:root<g.length)(D:s.Pv=0):(∀v,v<g.length->(s.num.getD v 0≠4294967295↔SG g root v))/\(∀v,SG g root v->s.num.getD v 0<s.fin/\s.ord.getD (s.num.getD v 0) 0=v)/\s.num.getD root 0+1=s.fin:=by
 have C:=hg.n
 have E:=h.fh
 have z:=h.rt.2 D
 have r:∀v,v<g.length->s.num.getD v 0≠4294967295->s.num.getD v 0<s.fin/\s.ord.getD (s.num.getD v 0) 0=v:=λv d e=>by
  rcases h.no v d with m|m|m
  ·exact absurd m e
  ·obtain⟨i,hi,-⟩:=h.op v d m;omega
  ·exact m
 have key:∀v,SG g root v->v<g.length/\s.num.getD v 0≠4294967295:=λv d=>by
  induction d with
  |refl=>exact⟨H,ω⟩
  | @step x b _ hx ih =>
    obtain⟨l,q⟩:=ih;have y:=Sa hg x b hx;refine⟨y,?_⟩;obtain⟨I,-⟩:=r x l q;have J:=h.fn x l I;obtain⟨j,B⟩:=y39 hx;have F:j<(Pa g x).length:=(y0m.1 B).1;exact(h.lk x l q).2 j b ω B
 exact⟨λv d=>⟨h.re v d,λe=>(key v e).2⟩,λv d=>r v (key v d).1 (key v d).2,z⟩
theorem Y1.tree (h:Y1 g root s)(hg:QJ g)(x:root<g.length)(D:s.Pv=0):∃par,TrF g root (λv=>s.num.getD v 0) par:=by
 have B:=hg.n
 have E:=h.fh
 obtain⟨M,m,N⟩:=h.found hg x D
 have F:∀v,∃p,SG g root v->v≠root->SG g root p/\v∈Pa g p/\s.num.getD v 0<s.num.getD p 0:=λv=>by
  by_cases b:SG g root v/\v≠root
  ·have y:=b.1.lt hg x;obtain⟨p,C,I,q⟩:=h.pr v y (m v b.1).1 b.2;refine⟨p,λ_ _=>?_⟩;rcases q with q|⟨q,J⟩
   ·obtain⟨i,hi,-⟩:=h.op p C q;omega
   ·exact⟨h.re p C ω,I,J⟩
  ·exact⟨0,λl r=>absurd ⟨l,r⟩ b⟩
 obtain⟨par,d⟩:=Classical.skolem.1 F
 refine⟨par,⟨⟨.refl,λv b=>?_,λu v H b e=>?_,λv b=>?_⟩,λv b z=>d v b z⟩⟩
 ·have:=(m v b).1;show s.num.getD v 0<=s.num.getD root 0;omega
 ·have l:=(m u H).2;have r:=(m v b).2;have e:s.num.getD u 0=s.num.getD v 0:=e;rw[e] at l;rw[<-l,r]
 ·have:=b.lt hg x;show v≠4294967295;omega
theorem Y1.total (h:Y1 g root s)(hg:QJ g):YI g.length s<=g.length+g.length*g.length:=by
 have l:=h.fh
 have m:((List.range g.length).map λv=>if s.num.getD v 0=4294967295 then 0 else s.looked.getD v 0).sum<=g.length*g.length:=by
  refine y0b (zg2 (f':=λ_=>g.length) λv d=>?_) (by rw[zaO];exact y02 _);split
  ·exact y00 _
  ·rename_i e
   refine y0b (h.lk v d e).1 ?_;have b:g[v]? =some (Pa g v):=by unfold Pa;rw[y03 d];rfl
   exact hg.len (y0j b)
 unfold YI
 omega
end
abbrev Tm (l:List Nat)(v:Nat):Nat:=l.getD v 4294967295
abbrev nF (l:List Nat)(v:Nat):Nat:=l.getD v 0
def meS (n:Nat)(num cand:List Nat)(c p:Nat):Nat:=if Tm cand p=4294967295 then c else if c=4294967295 then p else(meetF (nF num) (Tm cand) (2*n) c p).getD 0
def dsC (t:List (List Nat))(n:Nat)(num cand:List Nat)(v:Nat):Nat:=(Pa t v).foldl (meS n num cand) 4294967295
def dsV (t:List (List Nat))(n:Nat)(num ord:List Nat)(a:List Nat×Bool)(k:Nat):List Nat×Bool:=if Tm a.1 (ord.getD k 0)=dsC t n num a.1 (ord.getD k 0) then a else(a.1.set (ord.getD k 0) (dsC t n num a.1 (ord.getD k 0)),true)
def Y6 (t:List (List Nat))(n:Nat)(num ord:List Nat):Nat->List Nat×Bool->List Nat×Bool
 |0,a=>a
 |k+1,a=>Y6 t n num ord k (dsV t n num ord a k)
theorem z8Q {l:List Nat}{w:Nat}(h:w<l.length):Tm (l.set w c)=TY (Tm l) w c:=by
 funext v
 unfold TY Tm
 rw[y17,y17]
 by_cases e:v=w
 ·subst e;rw[y0Q h,if_pos O];rfl
 ·rw[y0A (Ne.symm e),if_neg e]
section
variable {root n w:Nat}{num:List Nat}
def FdI (root:Nat)(f:Nat->Nat)(c:Nat)(A:Nat->Prop):Prop:=(c=4294967295/\∀p,A p->f p=4294967295)\/(f c≠4294967295/\(∃p,A p/\f p≠4294967295)/\∀x,Ch f root c x↔∀p,A p->f p≠4294967295->Ch f root p x)
def FdI.one (v:TrF g root (nF num) par)(u:DsI g root (nF num) par (Tm cand))(B:nF num root<n)(h:FdI root (Tm cand) c A):FdI root (Tm cand) (meS n num cand c p) (λq=>A q\/q=p):=by
 unfold meS
 by_cases l:Tm cand p=4294967295
 ·rw[if_pos l];rcases h with⟨r,s⟩|⟨r,⟨q,s,z⟩,y⟩
  ·exact .inl ⟨r,λq e=>e.elim (s q) λe=>e▸l⟩
  ·refine .inr ⟨r,⟨q,.inl s,z⟩,λx=>(y x).trans ⟨λe q b m=>b.elim (λb=>e q b m) λb=>absurd l (b▸m),λe q b m=>e q (.inl b) m⟩⟩
 ·rw[if_neg l];rcases h with⟨r,s⟩|⟨r,⟨q,s,z⟩,y⟩
  ·rw[if_pos r];refine .inr ⟨l,⟨p,.inr O,l⟩,λx=>⟨λe q b m=>b.elim (λb=>absurd (s q b) m) λb=>b▸e,λe=>e p (.inr O) l⟩⟩
  ·rw[if_neg (v.n.no c (u.fo.in_ c r))];have t1:=v.n.top c (u.fo.in_ c r);have t2:=v.n.top p (u.fo.in_ p l);obtain⟨d,d1,d2,d3⟩:=z2g v.n u.fo (2*n) c p r l ω;rw[d1];refine .inr ⟨d2,⟨p,.inr O,l⟩,λx=>(d3 x).trans ?_⟩;rw[y x];exact⟨λe q b m=>b.elim (λb=>e.1 q b m) λb=>b▸e.2,λe=>⟨λq b m=>e q (.inl b) m,e p (.inr O) l⟩⟩
theorem FdI.all (l:TrF g root (nF num) par)(d:DsI g root (nF num) par (Tm cand))(m:nF num root<n):∀{ps:List Nat} {c:Nat} {A:Nat->Prop},FdI root (Tm cand) c A->FdI root (Tm cand) (ps.foldl (meS n num cand) c) (λq=>A q\/q∈ps)
 | [], c, A, h => by
   have e:(λq=>A q\/q∈([]:List Nat))=A:=by funext q;simp
   rw[e];exact h
 | p :: ps, c, A, h => by
   have b:=FdI.all l d m (ps:=ps) (FdI.one l d m (p:=p) h)
   have e:(λq=>(A q\/q=p)\/q∈ps)=λq=>A q\/q∈p::ps:=by
    funext q
    rw[y0l,or_assoc]
   rw[e] at b;exact b
theorem z4B (q:TrF g root (nF num) par)(m:DsI g root (nF num) par (Tm cand))(y:nF num root<n)(ht:∀u v,u∈Pa t v↔v∈Pa g u)(D:SG g root w)(d:w≠root)(z:Tm cand (par w)≠4294967295):
  Tm cand (dsC t n num cand w)≠4294967295/\∀x,Ch (Tm cand) root (dsC t n num cand w) x↔∀p,SG g root p->w∈Pa g p->Tm cand p≠4294967295->Ch (Tm cand) root p x:=by
 have h:=FdI.all q m y (ps:=Pa t w) (c:=4294967295) (A:=λ_=>False) (.inl ⟨O,λ_ e=>e.elim⟩)
 obtain⟨F,E,H⟩:=q.par w D d
 rcases h with⟨l,r⟩|⟨l,-,s⟩
 ·exact absurd (r (par w) (.inr ((ht _ _).2 E))) z
 ·refine⟨l,λx=>(s x).trans ⟨λe p _ C b=>e p (.inr ((ht _ _).2 C)) b,λe p B b=>e p (m.fo.in_ p b) ((ht _ _).1 (B.resolve_left id)) b⟩⟩
structure Fnd (g:List (List Nat))(root:Nat)(num ord:List Nat)(fin:Nat):Prop where
 r:∀v,v<g.length->(nF num v≠4294967295↔SG g root v)
 o:∀v,SG g root v->nF num v<fin/\ord.getD (nF num v) 0=v
 d:∀i,i<fin->SG g root (ord.getD i 0)/\nF num (ord.getD i 0)=i
 t:nF num root+1=fin
 f:fin<=g.length
structure DwI (g:List (List Nat))(root:Nat)(num:List Nat)(par:Nat->Nat)(cand:List Nat)(j:Nat):Prop where
 n:cand.length=g.length
 i:DsI g root (nF num) par (Tm cand)
 p:Pj g root (Tm cand) j
 c:j=0\/∀v,SG g root v->Tm cand v≠4294967295
structure DwK (g:List (List Nat))(root:Nat)(num:List Nat)(par:Nat->Nat)(cand:List Nat)(j k:Nat):Prop where
 n:cand.length=g.length
 k:DsK g root (nF num) par j k (Tm cand)
 c:j=0\/∀v,SG g root v->Tm cand v≠4294967295
theorem DwK.one {fin:Nat}{b:Bool}(hg:QJ g)(s:TrF g root (nF num) par)(r:Fnd g root num ord fin)(ht:∀u v,u∈Pa t v↔v∈Pa g u)(F:k+1<fin)(h:DwK g root num par cand j (k+1))(D:root<g.length):DwK g root num par (dsV t g.length num ord (cand,b) k).1 j k/\((dsV t g.length num ord (cand,b) k).2=false->b=false/\(dsV t g.length num ord (cand,b) k).1=cand)/\(Tm (dsV t g.length num ord (cand,b) k).1=TY (Tm cand) (ord.getD k 0) (dsC t g.length num cand (ord.getD k 0))):=by
 obtain⟨d1,d2⟩:=r.d k ω
 have B:=r.t
 have z:=r.f
 have q:ord.getD k 0≠root:=λe=>by rw[e] at d2;omega
 obtain⟨E,H,I⟩:=s.par _ d1 q
 have C:=(h.k.did (par (ord.getD k 0)) E ω).1
 obtain⟨c1,c2⟩:=z4B (n:=g.length) (t:=t) s h.k.i ω ht d1 q C
 obtain⟨n1,n2⟩:=h.k.next s h.c d1 d2 ω c1 c2
 have x:=d1.lt hg D
 have y:ord.getD k 0<cand.length:=by rw[h.n];exact x
 have m:=z8Q (l:=cand) (c:=dsC t g.length num cand (ord.getD k 0)) y
 unfold dsV
 dsimp only
 by_cases e:Tm cand (ord.getD k 0)=dsC t g.length num cand (ord.getD k 0)
 ·rw[if_pos e];rw[<-e,zbI] at n1 n2⊢;exact⟨⟨h.n,n1,n2⟩,λe=>⟨e,O⟩,O⟩
 ·rw[if_neg e];rw[<-m] at n1 n2;exact⟨⟨by show(cand.set _ _).length=_;rw[y0x];exact h.n,n1,n2⟩,(λe=>by cases e),m⟩
theorem DwK.run {fin j:Nat}(hg:QJ g)(l:TrF g root (nF num) par)(d:Fnd g root num ord fin)(ht:∀u v,u∈Pa t v↔v∈Pa g u)(m:root<g.length):∀(k:Nat) {cand:List Nat} {b:Bool},k<fin->DwK g root num par cand j k->DwK g root num par (Y6 t g.length num ord k (cand,b)).1 j 0/\((Y6 t g.length num ord k (cand,b)).2=false->b=false/\(Y6 t g.length num ord k (cand,b)).1=cand)
 |0,cand,b,_,h=>⟨h,λe=>⟨e,rfl⟩⟩
 | k + 1, cand, b, hk, h => by
   obtain⟨q,r,-⟩:=DwK.one (b:=b) hg l d ht hk h m;obtain⟨s,x⟩:=DwK.run hg l d ht m k (cand:=(dsV t g.length num ord (cand,b) k).1) (b:=(dsV t g.length num ord (cand,b) k).2) ω q;have e:Y6 t g.length num ord (k+1) (cand,b)=Y6 t g.length num ord k ((dsV t g.length num ord (cand,b) k).1,(dsV t g.length num ord (cand,b) k).2):=rfl;rw[e];refine⟨s,λe=>?_⟩;obtain⟨y,z⟩:=x e;obtain⟨B,C⟩:=r y;exact⟨B,z.trans C⟩
theorem DwI.zbc {fin:Nat}(hg:QJ g)(q:TrF g root (nF num) par)(m:Fnd g root num ord fin)(ht:∀u v,u∈Pa t v↔v∈Pa g u)(z:root<g.length)(h:DwI g root num par cand j):DwI g root num par (Y6 t g.length num ord (fin-1) (cand,false)).1 (j+1)/\(∀v,SG g root v->Tm (Y6 t g.length num ord (fin-1) (cand,false)).1 v≠4294967295)/\((Y6 t g.length num ord (fin-1) (cand,false)).2=false->(Y6 t g.length num ord (fin-1) (cand,false)).1=cand):=by
 have y:=m.t
 have r:DwK g root num par cand j (fin-1):=⟨h.n,by
  have:=DsK.begin q h.i h.p;rw[show fin-1=nF num root by omega]
  exact this,h.c⟩
 obtain⟨d,s⟩:=DwK.run (b:=false) hg q m ht z (fin-1) ω r
 obtain⟨x,l⟩:=d.k.fin
 exact⟨⟨d.n,d.k.i,x,.inr l⟩,l,λe=>(s e).2⟩
theorem DwI.dom {fin:Nat}(hg:QJ g)(q:TrF g root (nF num) par)(m:Fnd g root num ord fin)(ht:∀u v,u∈Pa t v↔v∈Pa g u)(r:root<g.length)(h:DwI g root num par cand j)(e:(Y6 t g.length num ord (fin-1) (cand,false)).2=false):Yu g root (nF num) par (Tm cand):=by
 have key:∀i,DwI g root num par cand (j+i):=λi=>by
  induction i with
  |zero=>exact h
  | succ i y =>
    obtain⟨l,b,d⟩:=y.zbc hg q m ht r;rw[d e] at l;exact l
 obtain⟨-,b,d⟩:=h.zbc hg q m ht r
 rw[d e] at b
 exact⟨h.i,b,λi v x s hi=>(key i).p v x s ω⟩
theorem DwI.same {fin:Nat}(hg:QJ g)(m:TrF g root (nF num) par)(l:Fnd g root num ord fin)(ht:∀u v,u∈Pa t v↔v∈Pa g u)(B:root<g.length)(h:DwI g root num par cand j)(q:Yu g root (nF num) par (Tm cand)):(Y6 t g.length num ord (fin-1) (cand,false)).2=false:=by
 have s:=l.t
 have key:∀k,k<fin->Y6 t g.length num ord k (cand,false)=(cand,false):=λk=>by
  induction k with
  |zero=>exact λ_=>rfl
  | succ k x =>
    intro z;obtain⟨d1,d2⟩:=l.d k ω;have b:ord.getD k 0≠root:=λe=>by rw[e] at d2;omega
    obtain⟨y,-,-⟩:=m.par _ d1 b;have r:=l.f;obtain⟨c1,c2⟩:=z4B (n:=g.length) (t:=t) m h.i ω ht d1 b (q.c _ y);have e:=q.zga m d1 b c1 c2;show Y6 t g.length num ord k (dsV t g.length num ord (cand,false) k)=_;unfold dsV;rw[if_pos e];exact x ω
 rw[key (fin-1) ω]
/-! ### Short ways -/
def InS (g:List (List Nat))(root x i v:Nat):Prop:=∃b,b<=i/\Av g root x b v
def InS.stop {x:Nat}(h:∀v,InS g root x (i+1) v->InS g root x i v):∀{m v:Nat},Av g root x m v->InS g root x i v:=by
 intro m v q
 induction q with
 |zero b=>exact⟨0,y00 _,.zero b⟩
 | step _ l b s =>
   obtain⟨r,e,d⟩:=s;exact h _ ⟨r+1,ω,.step d l b⟩
theorem Av.short (hg:QJ g)(z:root<g.length){x m v:Nat}(h:Av g root x m v):InS g root x g.length v:=by
 by_cases s:∃i,i<=g.length/\∀v,InS g root x (i+1) v->InS g root x i v
 ·obtain⟨i,hi,B⟩:=s;obtain⟨d,l,b⟩:=InS.stop B h;exact⟨d,ω,b⟩
 ·have key:∀i,i<=g.length+1->i<=WR g.length (InS g root x i):=λi=>by
   induction i with
   |zero=>exact λ_=>y00 _
   | succ i D =>
     intro hi;have y:=D ω;have r:¬∀v,InS g root x (i+1) v->InS g root x i v:=λe=>s ⟨i,ω,e⟩;obtain⟨v,C⟩:=Classical.not_forall.1 r;obtain⟨u,E⟩:=Classical.not_imp.1 C
     have q:v<g.length:=by
      obtain⟨d,-,b⟩:=u;exact b.rch.lt hg z
     have:=z1l (n:=g.length) (P:=InS g root x i) (Q:=InS g root x (i+1)) (λv _ ⟨d,l,b⟩=>⟨d,ω,b⟩) q E u;omega
  have y:=key (g.length+1) (y02 _);have r:=z3H (n:=g.length) (P:=InS g root x (g.length+1));omega
theorem DwI.late (hg:QJ g)(q:root<g.length)(h:DwI g root num par cand j)(u:g.length<=j)(l:∀v,SG g root v->Tm cand v≠4294967295):Yu g root (nF num) par (Tm cand):=
 ⟨h.i,l,λ_ v x _ _ e r d=>by
  obtain⟨s,m,b⟩:=e.short hg q
  exact h.p v x s ω b r d⟩
end
def DmS.step (g t:List (List Nat))(root:Nat)(s:DmS):DmS:=
 if s.Ru then {s with cand:=(Y6 t g.length s.num s.ord (s.fin-1) (s.cand,false)).1,done:= !(Y6 t g.length s.num s.ord (s.fin-1) (s.cand,false)).2,steps:=s.steps+1}
 else if(s.QP g 64).Pv=0 then {s.QP g 64 with Ru:=true,cand:=(s.QP g 64).cand.set root root,steps:=s.steps+1}
 else {s.QP g 64 with steps:=s.steps+1}
def z0P (g:List (List Nat))(num:List Nat):Nat:=((List.range g.length).map λv=>if nF num v=4294967295 then 0 else 1+(Pa g v).length).sum
section
variable {root n:Nat}{num:List Nat}{s:DmS}
def VI:∀(k:Nat) {s:DmS},(s.QP g k).steps=s.steps/\(s.QP g k).Ru=s.Ru/\(s.QP g k).done=s.done
 |0,s=>⟨rfl,rfl,rfl⟩
 | k + 1, s => by
   have b:s.QP g (k+1)=if 0<s.Pv then(s.move g).QP g k else s:=rfl;rw[b];split
   ·obtain⟨d,e,h⟩:=VI k (s:=s.move g);rw[d,e,h];unfold DmS.move;split
    ·exact⟨O,O,O⟩
    ·split<;>exact⟨O,O,O⟩
   ·exact⟨O,O,O⟩
theorem sum_add {f h:Nat->Nat}:∀n,((List.range n).map λv=>f v+h v).sum=((List.range n).map f).sum+((List.range n).map h).sum
 |0=>rfl
 | n + 1 => by
   rw[y0P,y0f,y0f,y0f,y0Y,y0Y,y0Y,sum_add n];simp only[y0n,y1u,y0I,y1s];omega
theorem z8S {p:Nat->Bool}:∀n,((List.range n).map λv=>if p v then 1 else 0).sum=(List.range n).countP p
 |0=>rfl
 | n + 1 => by
   rw[y0P,y0f,y0Y,z8S n,y2J,y2U];simp only[y0n,y1u,y0I,y1s];omega
theorem Y1.ended (h:Y1 g root s)(hg:QJ g)(W:root<g.length)(M:s.Pv=0):Fnd g root s.num s.ord s.fin/\YI g.length s=z0P g s.num:=by
 obtain⟨d,l,N⟩:=h.found hg W M
 have S:=h.fh
 have I:=hg.n
 have R:∀i,i<s.fin->SG g root (s.ord.getD i 0)/\nF s.num (s.ord.getD i 0)=i:=λi hi=>by
  obtain⟨Z,c⟩:=h.od i hi;exact⟨(d _ Z).1 ω,c⟩
 refine⟨⟨d,l,R,N,ω⟩,?_⟩
 have D:=h.ct
 have m:WR g.length (λv=>s.num.getD v 0≠4294967295)=(List.range g.length).countP λv=>decide (s.num.getD v 0≠4294967295):=by
  unfold WR
  congr 1
  funext v
  exact decide_eq_decide.2 y0U
 have V:(List.range g.length).countP (λv=>decide (s.num.getD v 0≠4294967295))<=s.fin:=by
  rw[y3E];have U:((List.range g.length).filter λv=>decide (s.num.getD v 0≠4294967295)).length=(((List.range g.length).filter λv=>decide (s.num.getD v 0≠4294967295)).map λv=>s.num.getD v 0).length:=(y0k ..).symm;rw[U,YC (n:=s.fin)]
  ·refine y0b List.countP_le_length ?_;rw[y14];exact y02 _
  ·rw[List.nodup_iff_pairwise_ne,List.pairwise_map];refine List.Pairwise.imp_of_mem ?_<|List.Pairwise.filter _ List.nodup_range;intro a b F H B e;have z:=of_decide_eq_true (y1a.1 F).2;have C:=of_decide_eq_true (y1a.1 H).2;have ra:=(d a (y0H.1 (y1a.1 F).1)).1 z;have rb:=(d b (y0H.1 (y1a.1 H).1)).1 C;have u:=(l a ra).2;have J:=(l b rb).2;have e:s.num.getD a 0=s.num.getD b 0:=e;rw[e] at u;exact B (u.symm.trans J)
  ·intro x Y;obtain⟨v,y,rfl⟩:=y0h.1 Y;have E:=of_decide_eq_true (y1a.1 y).2;exact(l v ((d v (y0H.1 (y1a.1 y).1)).1 E)).1
 have q:s.fin=(List.range g.length).countP λv=>decide (s.num.getD v 0≠4294967295):=by
  rw[m] at D;omega
 unfold YI z0P
 have u:((List.range g.length).map λv=>if nF s.num v=4294967295 then 0 else 1+(Pa g v).length)=(List.range g.length).map λv=>(if decide (s.num.getD v 0≠4294967295)=true then 1 else 0)+(if s.num.getD v 0=4294967295 then 0 else s.looked.getD v 0):=by
  refine y0O λv y=>?_;by_cases e:s.num.getD v 0=4294967295
  ·rw[if_pos e,if_pos e,decide_eq_false (λh=>h e)];rfl
  ·have r:=y0H.1 y;rw[if_neg e,if_neg e,decide_eq_true e,if_pos O,h.fn v r (l v ((d v r).1 e)).1]
 rw[u,sum_add,z8S,<-q]
structure DmJ (g:List (List Nat))(root:Nat)(s:DmS):Prop where
 se:s.Ru=false->s.done=false/\Y1 g root s/\0<s.Pv/\YI g.length s=64*s.steps
 sw:s.Ru=true->∃(par:Nat->Nat)(j:Nat),TrF g root (nF s.num) par/\Fnd g root s.num s.ord s.fin/\s.steps=(z0P g s.num+63) / 64+j/\1<=z0P g s.num/\z0P g s.num<=g.length+g.length*g.length/\DwI g root s.num par s.cand j/\(1<=j->∀v,SG g root v->Tm s.cand v≠4294967295)/\(s.done=false->j<=g.length)/\(s.done=true->1<=j/\j<=g.length+1/\Yu g root (nF s.num) par (Tm s.cand))/\s.Pv=0
 ls:s.num.length=g.length/\s.looked.length=g.length/\s.cand.length=g.length/\s.Vy.length=g.length/\s.ord.length=g.length
theorem DmJ.new (hg:QJ g)(b:root<g.length):DmJ g root (DmS.new g.length root):=by
 have h:=Y1.new hg b
 refine⟨λ_=>⟨O,h,Nat.zero_lt_one,?_⟩,(λe=>by cases e),h.nn,h.ln,by rw[h.cn];exact y08,h.sn,h.on⟩
 have key:∀n,((List.range n).map λv=>if(DmS.new g.length root).num.getD v 0=4294967295 then 0 else(DmS.new g.length root).looked.getD v 0).sum=0:=λn=>by
  induction n with
  |zero=>rfl
  | succ n d =>
    rw[y0P,y0f,y0Y,d];simp only[y0n,y1u,y0I,y1s,y09,y1e];split
    ·rfl
    ·show((List.replicate g.length 0).set root 0).getD n 0=0;rw[y17,List.getElem?_set];split
     ·split<;>rfl
     ·rw[y0T];split<;>rfl
 show 0+_=0
 rw[key]
theorem ze7 (hg:QJ g)(B:root<g.length)(C:TrF g root (nF num) par):DwI g root num par ((List.replicate g.length 4294967295).set root root) 0:=by
 have m:=hg.n
 have d:∀v,Tm ((List.replicate g.length 4294967295).set root root) v=if v=root then root else 4294967295:=λv=>by
  rw[z8Q (by rw[y08];exact B)];unfold TY;split
  ·rfl
  ·show(List.replicate g.length 4294967295).getD v 4294967295=4294967295;rw[y17,y0T];split<;>rfl
 have y:Tm ((List.replicate g.length 4294967295).set root root)=λv=>if v=root then root else 4294967295:=funext d
 have b:∀v,Tm ((List.replicate g.length 4294967295).set root root) v≠4294967295->v=root:=λv h=>by
  rw[d] at h;by_cases e:v=root
  ·exact e
  ·rw[if_neg e] at h;exact absurd O h
 refine⟨by rw[y0x,y08],⟨⟨by rw[d,if_pos O],λv q r=>absurd (b v q) r,λv h=>by rw[b v h];exact .refl⟩,λv x h l=>?_,λv x h z=>?_⟩,λv x i hi u h l=>?_,.inl O⟩
 ·obtain rfl:=b v h;rw[l.at_root];exact .refl _
 ·obtain rfl:=b v h;by_cases e:v=x
  ·rw[e];exact .refl _
  ·exact absurd (.zero e) (z.2 0)
 ·obtain rfl:=b v h;exact u.ne l.at_root.symm
theorem DmJ.step (hg:QJ g)(l:root<g.length)(ht:∀u v,u∈Pa t v↔v∈Pa g u)(h:DmJ g root s)(z:s.done=false):DmJ g root (s.step g t root):=by
 unfold DmS.step
 cases E:s.Ru with
 | true =>
   obtain⟨par,j,d,q,p,N,R,r,U,H,A,S⟩:=h.sw E;obtain⟨J,c,f⟩:=r.zbc hg d q ht l;rw[if_pos O];refine⟨(λe=>by cases e),λ_=>⟨par,j+1,d,q,by show s.steps+1=(z0P g s.num+63) / 64+(j+1);omega,N,R,J,λ_=>c,λe=>?_,λe=>?_,S⟩,h.ls.1,h.ls.2.1,J.n,h.ls.2.2.2⟩
   ·have W:=H z;rcases y0a j g.length with y|C
    ·exact y
    ·exfalso;have D:1<=j:=ω
     have B:=r.late hg l C (U D);have:=r.same hg d q ht l B;have e:(!(Y6 t g.length s.num s.ord (s.fin-1) (s.cand,false)).2)=false:=e;rw[this] at e;cases e
   ·have e:(!(Y6 t g.length s.num s.ord (s.fin-1) (s.cand,false)).2)=true:=e;have F:(Y6 t g.length s.num s.ord (s.fin-1) (s.cand,false)).2=false:=by simpa using e
    have B:=r.dom hg d q ht l F;have W:=H z;refine⟨ω,ω,?_⟩;show Yu g root (nF s.num) par (Tm (Y6 t g.length s.num s.ord (s.fin-1) (s.cand,false)).1)
    rw[f F];exact B
 | false =>
   obtain⟨-,r,V,I⟩:=h.se E;obtain⟨b,Y⟩:=r.QP hg 64;obtain⟨G,i,M⟩:=VI (g:=g) 64 (s:=s);rw[if_neg ψ];rcases Y with⟨x,k⟩|⟨x,k,o⟩
   ·rw[if_neg ω];refine⟨λ_=>⟨by show(s.QP g 64).done=false;rw[M];exact z,⟨b.nn,b.ln,b.cn,b.sn,b.on,b.st,b.inj,b.op,b.od,b.no,b.rt,b.re,b.ed,b.lk,b.fn,b.pr,b.ct⟩,x,?_⟩,λe=>?_,b.nn,b.ln,by show(s.QP g 64).cand.length=_;rw[b.cn];exact y08,b.sn,b.on⟩
    ·show YI g.length (s.QP g 64)=64*(s.steps+1);omega
    ·have e:(s.QP g 64).Ru=true:=e;rw[i,E] at e;cases e
   ·rw[if_pos x];obtain⟨q,Z⟩:=b.ended hg l x;obtain⟨par,d⟩:=b.tree hg l x;have y:=o V ψ;have a:=b.total hg;have m:=ze7 (num:=(s.QP g 64).num) hg l d;rw[<-b.cn] at m;refine⟨(λe=>by cases e),λ_=>⟨par,0,d,q,?_,(by show 1<=z0P g (s.QP g 64).num;omega),(by show z0P g (s.QP g 64).num<=_;omega),m,λe=>absurd e ψ,λ_=>y00 _,λe=>?_,x⟩,b.nn,b.ln,m.n,b.sn,b.on⟩
    ·show s.steps+1=(z0P g (s.QP g 64).num+63) / 64+0;omega
    ·have e:(s.QP g 64).done=true:=e;rw[M,z] at e;cases e
def UD (g t:List (List Nat))(root:Nat):Nat->DmS
 |0=>DmS.new g.length root
 |k+1=>(UD g t root k).step g t root
structure z5b (g t:List (List Nat))(root k:Nat):Prop where
 d:(UD g t root k).done=true
 f:∀j,j<k->(UD g t root j).done=false
theorem z5b.eq {k':Nat}(h:z5b g t root k)(b:z5b g t root k'):k=k':=by
 rcases y3r k k' with e|e| e
 ·have:=b.f k e;rw[h.d] at this;cases this
 ·exact e
 ·have:=h.f k' e;rw[b.d] at this;cases this
theorem z86:(s.step g t root).steps=s.steps+1:=by
 unfold DmS.step
 split
 ·rfl
 ·split<;>rfl
theorem YO:∀k,(UD g t root k).steps=k
 |0=>rfl
 | k + 1 => by
   show((UD g t root k).step g t root).steps=k+1;rw[z86,YO k]
def z7H (hg:QJ g)(b:root<g.length)(ht:∀u v,u∈Pa t v↔v∈Pa g u):∀k,(∀j,j<k->(UD g t root j).done=false)->DmJ g root (UD g t root k)
 |0,_=> .new hg b
 |k+1,h=>(z7H hg b ht k λj d=>h j ω).step hg b ht (h k ω)
theorem DmJ.bound (h:DmJ g root s)(l:s.done=false)(hg:QJ g):s.steps+1<=g.length*g.length+2*g.length+10:=by
 cases b:s.Ru with
 | true =>
   obtain⟨par,j,-,-,m,-,q,-,-,d,-⟩:=h.sw b;have:=d l
   omega
 | false =>
   obtain⟨-,e,-,ht⟩:=h.se b;have:=e.total hg;omega
end
def SDm (g:List (List Nat))(root d v:Nat):Prop:=SG g root d/\SG g root v/\v≠d/\Dm g root d v
section
variable {root v d u:Nat}{num:Nat->Nat}{s:DmS}
theorem Yu.sdm (z:TrF g root num par)(h:Yu g root num par f)(l:SG g root v)(b:v≠root):SDm g root d v↔Ch f root (f v) d:=by
 obtain⟨y,B⟩:=h.i.fo.up v (h.c v l) b
 constructor
 ·rintro⟨-,-,q,r⟩;rcases ((h.iff l).2 r).inv with e| e
  ·exact absurd e.symm q
  ·exact e.2
 ·intro m;have n:=m.mem h.i.fo y;refine⟨h.i.fo.in_ d n.1,l,λe=>?_,(h.iff l).1 (.up b m)⟩;have:=n.2.1;rw[<-e] at this;omega
def zd6 (h:SDm g root d root):False:=by
 obtain⟨-,-,b,e⟩:=h
 exact e.2 0 (.zero b)
theorem Yu.zlg (q:TrF g root num par)(h:Yu g root num par f)(C:SG g root v)(m:v≠root):(SDm g root d v/\∀o,SDm g root o v->o≠d->SDm g root o d)↔d=f v:=by
 have n:=λd=>h.sdm (d:=d) q C m
 obtain⟨D,J⟩:=h.i.fo.up v (h.c v C) m
 constructor
 ·rintro⟨z,F⟩;have c1:=(n d).1 z;by_cases e:f v=d
  ·exact e.symm
  ·have B:=F (f v) ((n _).2 (.refl _)) e;have b:d≠root:=λE=>zd6 (E▸B);have H:=z.1;have c2:Ch f root d (f v):= .up b ((h.sdm q H b).1 B);exact(Ch.zks h.i.fo c1 c2 D).symm
 ·rintro rfl;refine⟨(n _).2 (.refl _),λo I l=>?_⟩;have c1:=(n o).1 I
  have r:f v≠root:=λe=>by
   rw[e] at c1;exact l (c1.at_root.trans e.symm)
  have y:=h.i.fo.in_ _ D;rcases c1.inv with e| e
  ·exact absurd e l
  ·exact(h.sdm q y r).2 e.2
structure DmE (g:List (List Nat))(root:Nat)(cand:List Nat):Prop where
 n:cand.length=g.length
 ex:∃num par,TrF g root num par/\Yu g root num par (Tm cand)/\∀v,SG g root v->num v<g.length
theorem z5b.e (h:z5b g (QO g) root k)(hg:QJ g)(E:root<g.length)(ht:∀u v,u∈Pa (QO g) v↔v∈Pa g u):DmE g root (UD g (QO g) root k).cand/\(z0P g (UD g (QO g) root k).num+63) / 64<k/\k<=(z0P g (UD g (QO g) root k).num+63) / 64+g.length+1/\∀v,v<g.length->(nF (UD g (QO g) root k).num v≠4294967295↔SG g root v):=by
 have l:=z7H hg E ht k h.f
 have m:=YO (g:=g) (t:=QO g) (root:=root) k
 generalize F:UD g (QO g) root k=s at l m
 have y:s.done=true:=F▸h.d
 have q:s.Ru=true:=by
  cases e:s.Ru with
  |true=>rfl
  |false=>have:=(l.se e).1;rw[y] at this;cases this
 obtain⟨par,j,D,b,I,-,-,C,-,-,z,-⟩:=l.sw q
 obtain⟨J,M,B⟩:=z y
 have N:=b.f
 exact⟨⟨C.n,_,par,D,B,λv H=>by have:=(b.o v H).1;omega⟩,ω,ω,b.r⟩
theorem DmE.get (h:DmE g root cand)(hg:QJ g)(r:root<g.length){v:Nat}(y:v<g.length):∃c,cand[v]? =some c/\Tm cand v=c/\(c≠4294967295↔SG g root v)/\(c≠4294967295->c<g.length):=by
 obtain⟨num,par,z,b,-⟩:=h.ex
 have m:v<cand.length:=by rw[h.n];exact y
 have q:Tm cand v=cand[v]:=by
  show cand.getD v 4294967295=_;rw[y17,y03 m];rfl
 refine⟨_,y03 m,q,?_,λl=>?_⟩
 ·rw[<-q];exact⟨b.i.fo.in_ v,b.c v⟩
 ·rw[<-q] at l⊢;by_cases e:v=root
  ·rw[e,b.i.fo.rt];exact r
  ·exact(b.i.fo.in_ _ (b.i.fo.up v l e).1).lt hg r
end
theorem z5p {P:Program}{ρ:Operand->Value}{c:Call}(h:o.op= .call c)(e:c.callee= .builtin .recover)(d:c.args.toList=[]):(execOp ρ o).run P w= .ok .recover w:=by
 obtain⟨b,args,l⟩:=c
 simp only at e d
 subst e
 have:args=#[]:=y2D.1 d
 subst this
 simp[execOp,h,go_sem]
theorem Zd {P:Program}{f:FuncId}{fn:Func}{id:Nat}{ops:Array Oper}{c2:Code}{args:List Value}{e:Env}{S:Value->World->Prop}{n d:Nat}{rest:List Oper}{c:Call}
  (T:P.funcs[f]? =some fn) (G:fn.body=some (.seq (.region id ops false) c2)) (Y:fn.ntmps=n) (hn:Nat.ble args.length n=true) (Q:envOf 0 args=e)
  (m:ops.toList=o::rest) (hg:o.guard=none) (g:o.op= .call c) (C:c.callee= .builtin .recover) (R:c.args.toList=[]) (D:o.dst=some d) (L:Nat.blt d n=true) (ho:Sg n ops.toList=true)
  (h:RL ⟨⟨P,f,S,n,none,[],true⟩,ops.toList,[.code c2],ho⟩ rest ((d,.nilIface)::e) w):z7o P f args w S:=by
 subst Y
 refine⟨trivial,λc0 cs hm _=>?_⟩
 let b:Frame:={(default:Frame) with fn:=f,kind:= .deferred,roundOf:=none}
 have a0:args.length<=fn.ntmps:=by simpa using hn
 let a:Act:={tmps:=args.toArray++Array.replicate (fn.ntmps-args.toArray.size) undef,defers:=[]}
 have r:Frame.enter P f args.toArray .deferred=b.atR a [.code (.seq (.region id ops false) c2)]:=by
  simp[Frame.enter,Frame.atR,T,G,b,a]
 have Z:XI fn.ntmps [] e a:=by
  refine⟨by simp[a];omega,rfl,λi v hi=>?_⟩;subst Q;obtain⟨-,N⟩:=Xu args 0 i v hi;simp at N
  have H:i<args.length:=by
   rcases y0a i args.length with h| h
   ·exact h
   ·simp[y0e h] at N
  have t:args[i]=v:=by simpa[y03 H] using N
  simp only[a,Array.getD];rw[dif_pos (by simp;omega)];simp[H,t]
 have I:=Z.put L .nilIface
 have p:ops[0]? =some o:=by
  rw[<-y3w,m];rfl
 have s:List.range ops.size=0::List.range' 1 rest.length:=by
  have:ops.size=rest.length+1:=by rw[<-y2y,m];rfl
  rw[this,List.range_eq_range',List.range'_succ]
 -- recover
 have F:=stepGR_op (P:=P) (b:=b) (a:=a) (k:=[.code c2]) (cs:=c0::cs) (w:=w) (ops:=ops) (i:=0) (rest:=List.range' 1 rest.length) p (by simp[Region.wanted,hg])
 rw[show b.roundOf=none from rfl,Oper.semAt_none] at F
 have E:(b.atR a (.inRegion ops (0::List.range' 1 rest.length)::[.code c2])).finish .nilIface=b.atR (a.put o.dst .nilIface) (.inRegion ops (List.range' 1 rest.length)::[.code c2]):=by
  rw[Frame.finish_atR,p];rfl
 have M:=tryRecover_deferred (show(b.atR a (.inRegion ops (0::List.range' 1 rest.length)::[.code c2])).kind= .deferred from rfl) (c0::cs)
 have J:recoverD (c0::cs)=none:=by simp[recoverD,hm]
 have y:step P (lone (b.atR a (.inRegion ops (0::List.range' 1 rest.length)::[.code c2])) (c0::cs) w)= .next (lone (b.atR (a.put (some d) .nilIface) (.inRegion ops (List.range' 1 rest.length)::[.code c2])) (c0::cs) w):=by
  refine step_lone_go ?_;rw[<-D,F,<-E];simp only[Frame.atR,show b.roundOf=none from rfl] at M⊢;simp[stepG.apply,z5p g C R,M,J]
 -- the rest
 have hl:=h _ I
 have W:wpOpsIn (WF none) 0 P ops (QK ⟨P,f,S,fn.ntmps,none,[],true⟩ [.code c2]) (List.range' 1 rest.length) (a.put (some d) .nilIface) w:=by
  rw[wpOpsIn_eq_wpListIn rest 1 (λj=>by
   rw[<-y3w,m,y1x];rfl)]
  simpa using hl
 obtain⟨x,a',w',q,B⟩:=wp_opsIn _ _ _ W b [.code c2] (c0::cs) O trivial (z95 _ _)
 have u:z0D P f none true (XY S) (lone (b.atR (a.put (some d) .nilIface) (.inRegion ops (List.range' 1 rest.length)::[.code c2])) (c0::cs) w) (c0::cs):=by
  cases x with
  |normal=>exact(q b O O O (c0::cs)).of_steps (StepsIn.steps B)
  |outgrown=>exact q.elim
  |exit id=>exact q.elim
  |goto l=>exact q.elim
  |ret=>exact q.elim
  |panic ch=>exact q.elim
 have s1:step P (lone (b.atR a [.code (.seq (.region id ops false) c2)]) (c0::cs) w)= .next (lone (b.atR a (.code (.region id ops false)::[.code c2])) (c0::cs) w):=stepR_seq
 have s2:step P (lone (b.atR a (.code (.region id ops false)::[.code c2])) (c0::cs) w)= .next (lone (b.atR a (.inRegion ops (0::List.range' 1 rest.length)::[.code c2])) (c0::cs) w):=by
  rw[<-s];exact stepR_region
 have z:=u.of_steps (.head s1 (.head s2 (.one y)))
 obtain⟨x,w',fr,A,K,V,X,hg⟩:=z
 have U:({c0 with mode:= .returning}:Frame)=c0:=by cases c0;simp_all
 rw[r]
 exact⟨x,.returning,w',fr,⟨O,A⟩,by rw[U];exact comesIn_wide.2 K,X,V,hg⟩
def DmS.vec (s:DmS):Nat->List Nat
 |0=>s.num
 |1=>s.looked
 |2=>s.cand
 |3=>s.Vy
 |_=>s.ord
def DmS.z5J (s:DmS)(j:Nat)(xs:List Nat):DmS:=match j with
 |0=>{s with num:=xs}
 |1=>{s with looked:=xs}
 |2=>{s with cand:=xs}
 |3=>{s with Vy:=xs}
 |_=>{s with ord:=xs}
theorem zei {s:DmS}{xs:List Nat}(hi:i<5)(b:j<5):(s.z5J j xs).vec i=if i=j then xs else s.vec i:=by
 obtain rfl|rfl|rfl|rfl|rfl:j=0\/j=1\/j=2\/j=3\/j=4:=ω
 all_goals obtain rfl|rfl|rfl|rfl|rfl:i=0\/i=1\/i=2\/i=3\/i=4:=ω
 all_goals rfl
def dmC (s:DmS)(g t root:Nat)(vb:Nat->Nat):List Value:=[I (s.steps:Int),I (s.fin:Int),I (s.Pv:Int),.bool s.Ru,.bool s.done,ptr g 0,ptr t 0,I (root:Int),ptr (vb 0) 0,ptr (vb 1) 0,ptr (vb 2) 0,ptr (vb 3) 0,ptr (vb 4) 0,.bool false,.bool false]
structure ZM (Q:RE)(txt:Int->P8)(k tk root rr:Nat)(O_:Nat->Prop)(a L:Nat)(s:DmS)(vb:Nat->Nat)(w:World):Prop where
 o:O_ rr/\∀j,j<5->O_ (vb j)
 ne:∀j,j<5->rr≠vb j/\∀i,i<5->i≠j->vb i≠vb j
 run:Pm w rr (dmC s k tk root vb) 103
 vs:∀j,j<5->Wh Q txt (vb j) 4 (a+j) (s.vec j) w/\(s.vec j).length<=100
 L:L=5
theorem Um {n:Nat}(h:n<=100):Xl n (512 / 4)=1:=by
 unfold Xl
 omega
section
variable {tk root:Nat}{s s':DmS}{S:Nat->Prop}
theorem ZM.kp (h:ZM Q txt k tk root rr O_ a L s vb w)(l:Kp S w w')(e:∀b,O_ b->¬S b):ZM Q txt k tk root rr O_ a L s vb w':=
 ⟨h.o,h.ne,l.OZ h.run (e _ h.o.1),λj d=>⟨(h.vs j d).1.kp l (e _ (h.o.2 j d)),(h.vs j d).2⟩,h.L⟩
theorem ZM.Uw (h:ZM Q txt k tk root rr O_ a L s vb w)(e:∀y:Int,(a:Int)<=y->y<(a:Int)+(L:Int)->txt' y=txt y):ZM Q txt' k tk root rr O_ a L s vb w:=by
 have m:=h.L
 refine⟨h.o,h.ne,h.run,λj b=>⟨(h.vs j b).1.Uw λy l d=>?_,(h.vs j b).2⟩,h.L⟩
 rw[Um (h.vs j b).2] at d
 exact e y ω ω
theorem ZM.q (h:ZM Q txt k tk root rr O_ a L s vb w)(e:Q'.s=Q.s)(d:Q'.L.length=Q.L.length):ZM Q' txt k tk root rr O_ a L s vb w:=
 ⟨h.o,h.ne,h.run,λj b=>⟨(h.vs j b).1.q e d,(h.vs j b).2⟩,h.L⟩
theorem ZM.wr (h:ZM Q txt k tk root rr O_ a L s vb w)(l:j<5)(u:Kp S w w')(r:∀b,O_ b->¬S b)(v:Wh Q txt' (vb j) 4 (a+j) ys w')(m:ys.length=(s.vec j).length)(ht:∀y:Int,y<((a+j:Nat):Int)\/((a+j:Nat):Int)+(Xl ys.length (512 / 4):Int)<=y->txt' y=txt y):ZM Q txt' k tk root rr O_ a L (s.z5J j ys) vb w':=by
 have d:=h.kp u r
 have n:=(h.vs j l).2
 rw[m,Um n] at ht
 refine⟨h.o,h.ne,?_,λi hi=>?_,h.L⟩
 ·have:dmC (s.z5J j ys) k tk root vb=dmC s k tk root vb:=by
   unfold DmS.z5J;split<;>rfl
  rw[this];exact d.run
 ·rw[zei hi l];by_cases e:i=j
  ·subst e;rw[if_pos O];exact⟨v,by rw[m];exact n⟩
  ·rw[if_neg e];refine⟨(d.vs i hi).1.Uw λy x q=>ht y ?_,(d.vs i hi).2⟩;rw[Um (d.vs i hi).2] at q;omega
theorem ZM.put (h:ZM Q txt k tk root rr O_ a L s vb w)(l:Kp (λb=>b=rr) w w')(m:Pm w' rr (dmC s' k tk root vb) 103)(n:∀j,j<5->s'.vec j=s.vec j):ZM Q txt k tk root rr O_ a L s' vb w':=
 ⟨h.o,h.ne,m,λj d=>by
  rw[n j d]
  exact⟨(h.vs j d).1.kp l (λe=>(h.ne j d).1 e.symm),(h.vs j d).2⟩,h.L⟩
end
def VT (tk root:Nat):RuK DmS where
 M Q txt k rr O_ a L s w:=∃vb,ZM Q txt k tk root rr O_ a L s vb w
 tm s:=s.steps
 c0:=0
 c1:=0
 kp:=λ⟨vb,h⟩ d b=>⟨vb,h.kp d b⟩
 Uw:=λ⟨vb,h⟩ e=>⟨vb,h.Uw e⟩
 q:=λ⟨vb,h⟩ m l=>⟨vb,h.q m l⟩
section
variable {root:Nat}{s:DmS}
def S0.dm (h:S0 (VT T.k root) G T Q txt K X rr O_ a L s w):∃vb,ZM Q txt G.k T.k root rr O_ a L s vb w:=h.m.m
theorem ZM.cells (h:ZM Q txt G.k T.k root rr O_ a L s vb w):Pm w rr [I (s.steps:Int),I (s.fin:Int),I (s.Pv:Int),.bool s.Ru,.bool s.done,ptr G.k 0,ptr T.k 0,I (root:Int),ptr (vb 0) 0,ptr (vb 1) 0,ptr (vb 2) 0,ptr (vb 3) 0,ptr (vb 4) 0,.bool false,.bool false] 103:=h.run
def zhU (b root:Nat):RuK DmS where
 M Q txt k rr O_ a L s w:=∃vb,ZM Q txt b k root rr O_ a L s vb w
 tm s:=s.steps
 c0:=0
 c1:=0
 kp:=λ⟨vb,h⟩ l d=>⟨vb,h.kp l d⟩
 Uw:=λ⟨vb,h⟩ e=>⟨vb,h.Uw e⟩
 q:=λ⟨vb,h⟩ n m=>⟨vb,h.q n m⟩
theorem S0.z8M (h:S0 (VT T.k root) G T Q txt K X rr O_ a L s w)(n:T.g.length<=40):S0 (zhU G.k root) T G Q txt K X rr O_ a L s w:=by
 obtain⟨vb,q⟩:=h.dm
 have e:=h.xk
 have l:=h.m.ne
 exact⟨⟨h.t,⟨vb,q⟩,λb d=> .inl (h.xr b d),h.m.ro,λb d=>⟨(h.nk b d).1,(h.nk b d).2,(l b d).2.2.1,(l b d).2.2.2⟩,h.VH,n⟩,h.m.g,h.xr,⟨e.2.2.1,e.2.2.2.1,e.1,e.2.1,e.2.2.2.2.1,e.2.2.2.2.2⟩,λb d=>⟨(l b d).1,(l b d).2.1⟩,h.m.VH⟩
theorem S0.zf7 (h:S0 (zhU G.k root) T G Q txt K X rr O_ a L s w)(n:G.g.length<=40):S0 (VT T.k root) G T Q txt K X rr O_ a L s w:=by
 obtain⟨vb,q⟩:∃vb,ZM Q txt G.k T.k root rr O_ a L s vb w:=h.m.m
 have e:=h.xk
 have l:=h.m.ne
 exact⟨⟨h.t,⟨vb,q⟩,λb d=> .inl (h.xr b d),h.m.ro,λb d=>⟨(h.nk b d).1,(h.nk b d).2,(l b d).2.2.1,(l b d).2.2.2⟩,h.VH,n⟩,h.m.g,h.xr,⟨e.2.2.1,e.2.2.2.1,e.1,e.2.1,e.2.2.2.2.1,e.2.2.2.2.2⟩,λb d=>⟨(l b d).1,(l b d).2.1⟩,h.m.VH⟩
def S0.z2G (h:S0 (VT T.k root) G T Q txt K X rr O_ a L s w)(d:ZM Q txt G.k T.k root rr O_ a L s vb w)(q:j<5)(B:ys.length=(s.vec j).length)(u:K'<1000000000000)(x:VcW Q txt K' (ZI G T X) (vb j) 4 (a+j) ys w w'):∃txt',S0 (VT T.k root) G T Q txt' K' X rr O_ a L (s.z5J j ys) w'/\ZM Q txt' G.k T.k root rr O_ a L (s.z5J j ys) vb w'/\(∀y:Int,y<(a:Int)\/(a:Int)+(L:Int)<=y->txt' y=txt y)/\Kp (λb=>¬ZI G T X b) w w':=by
 obtain⟨txt',v,C,r,l⟩:=x
 have m:=d.wr q l (λb z e=>e (.inl (.inl (h.xr b z)))) C B r
 have D:=d.L
 have E:=(d.vs j q).2
 have n:∀y:Int,y<(a:Int)\/(a:Int)+(L:Int)<=y->txt' y=txt y:=λy e=>r y (by rw[Um ω];omega)
 exact⟨txt',h.upd u l (λb e=> .inl e) v n ⟨vb,m⟩,m,n,l⟩
def Tn (w:World):PN prog 42 [I 0] w λ_ w'=>w'=w:=by
 refine py (e:=[(0,_)]) func42 O ntmps42 O O<|PL O<|R5 O<|QC O<|Qu func42 O ?_
 exact⟨_,O,O⟩
theorem z0B (h:S0 (VT T.k root) G T Q txt K X rr O_ a L s w):PN prog 45 [ptr rr 0] w λr w'=>r=I 0/\w'=w:=by
 obtain⟨vb,d⟩:=h.dm
 have b:=d.cells
 refine py (e:=[(0,_)]) func45 O ntmps45 O O<|Re O<|R0<|PL O<|qV (Qz U44 O O)<|Pq O<|P9 O<|PL O<|PQ O<|Pr zeM O<|qV (Pl U4 O O b O)<|PB O<|PQ O<|Pr z3G O ?_
 refine qV (Pl U4 O O b O)<|Ql O<|Pq O<|Tj O<|An<|Re O<|P3 func45 O ?_
 exact⟨_,O,O,O⟩
def ZM.zc7 (h:ZM Q txt G.k T.k root rr O_ a L s vb w)(b:j<5):w.cell? ⟨rr,0+8+j*1,none⟩=some (ptr (vb j) 0):=by
 rw[h.cells.cell]
 obtain rfl|rfl|rfl|rfl|rfl:j=0\/j=1\/j=2\/j=3\/j=4:=ω
 all_goals rfl
theorem Sv (h:S0 (VT T.k root) G T Q txt K X rr O_ a L s w){x:Nat}(l:j<5)(hi:(s.vec j)[i]? =some x):PN prog 115 [ptr rr 0,I (j:Int),I (i:Int)] w λr w'=>r=I (x:Int)/\S0 (VT T.k root) G T Q txt K X rr O_ a L s w'/\Kp (λb=>¬ZI G T X b) w w':=by
 obtain⟨vb,d⟩:=h.dm
 have q:=d.zc7 l
 have v:=((d.vs j l).1.zgK hi).1
 refine py (e:=[(0,_),(1,_),(2,_)]) func115 O ntmps115 O O<|qN O<|Ro O<|PB O<|PQ O<|Pr Wo O<|qV (yia z3E z0t O O ω)<|qV (PG z6g O O q)<|Ph O<|Px ziA O (z3n h.sp h.lt h.m.g.zaG (d.vs j l).1 (.inl (.inl (h.xr _ (d.o.2 j l)))) hi) ?_
 rintro _ w1⟨rfl,u,n⟩
 refine Ph O<|Ta O<|SO O<|Rq O<|Px z6M O (Tn _) ?_
 rintro _ w1 rfl
 refine qM O<|Ph O<|qV (Q8 O RW U3 ω)<|Pq O<|P3 func115 O ?_
 exact⟨_,O,O,h.read n u,n⟩
theorem TF (h:S0 (VT T.k root) G T Q txt K X rr O_ a L s w){x:Nat}(B:K<=900000000000)(n:j<5)(hi:i<(s.vec j).length)(C:x<4294967296):PN prog 80 [ptr rr 0,I (j:Int),I (i:Int),I (x:Int)] w λ_ w'=>∃txt',S0 (VT T.k root) G T Q txt' (K+1) X rr O_ a L (s.z5J j ((s.vec j).set i x)) w'/\(∀y:Int,y<(a:Int)\/(a:Int)+(L:Int)<=y->txt' y=txt y)/\Kp (λb=>¬ZI G T X b) w w':=by
 obtain⟨vb,l⟩:=h.dm
 have v:=l.zc7 n
 refine py (e:=[(0,_),(1,_),(2,_),(3,_)]) func80 O ntmps80 O O<|Pc O<|PB O<|PQ O<|Pr Wo O<|qV (yia z3E z0t O O ω)<|qV (PG z6g O O v)<|PB O<|qV (QH O U3 RW ω)<|Px zhG O (zaA h.sp h.lt h.m.g.zaG (l.vs j n).1 (.inl (.inl (h.xr _ (l.o.2 j n)))) hi (x:=x) (by show x<2^32;omega)) ?_
 rintro _ w1⟨rfl,u⟩
 obtain⟨d,r,-,z,q⟩:=h.z2G l n (y0x ..) ω u
 refine Px z6M O (Tn _) ?_
 rintro _ w1 rfl
 refine P4<|Qu func80 O ?_
 exact⟨_,O,d,r,z,q⟩
end
section
variable {σ:Type}{R:RuK σ}{Y:Nat->Prop}{s s':σ}
theorem z3k {l bk bi v:Nat}(hv:v<G.g.length)(h:S0 R G T Q txt K X rr O_ a L s w)(g8:Pm w bk [ptr G.k 0] 28)(sH:Pm w bi [I (v:Int)] 3)(Z:Nat->Prop)(hZ:∀j,Z j->X j)
  (E:Nat->(Int->P8)->Nat->σ->World->Prop) (F:(Int->P8)->Nat->σ->World->Prop)
  (h0:∀w',w.heap.size<=w'.heap.size->Kp (λb=>¬X b) w w'->E 0 txt K s w')
  (H:∀(Y:Nat->Prop)(i u:Nat) (txt':Int->P8) (K':Nat) (s':σ) (w':World),(∀j,X j->Y j)->(∀j,Y j->X j\/w.heap.size<=j)->w.heap.size<=w'.heap.size->(Pa G.g v)[i]? =some u->S0 R G T Q txt' K' Y rr O_ a L s' w'->E i txt' K' s' w'->z2a prog l [PX u,I 0] w' λr B=>((r= .bool true/\∃d y z,S0 R G T Q d y Y rr O_ a L z B/\E (i+1) d y z B)\/(r= .bool false/\∃d y z,S0 R G T Q d y Y rr O_ a L z B/\F d y z B))/\Kp (λj=>(¬Y j/\j≠T.rb)\/Z j) w' B):
  PN prog 152 [.func (.yield l) #[] #[],ptr bk 0,ptr bi 0] w λr w'=>r= .tuple #[]/\∃(Y:Nat->Prop)(txt':Int->P8) (K':Nat) (s':σ),(∀j,X j->Y j)/\(∀j,Y j->X j\/w.heap.size<=j)/\S0 R G T Q txt' K' Y rr O_ a L s' w'/\(E (Pa G.g v).length txt' K' s' w'\/F txt' K' s' w'):=by
 have dZ:=h.m.n
 obtain⟨n1,n2,n3⟩:=h.ng
 have bS:∀b,X b->b<w.heap.size:=λb W=>h.lt b (.inl (.inl W))
 have ri:=h.lt T.rb (.inl (.inr O))
 have o:∀j,X j->j≠T.rb:=λj x e=>n3 (e▸x)
 refine PN.mono (z7D ω hv h.m.g g8 sH Z (λj x=> .inl (hZ j x))
  (λU i w'=>w.heap.size<=w'.heap.size/\∃txt' K' s',S0 R G T Q txt' K' (λb=>U b/\b≠T.rb) rr O_ a L s' w'/\E i txt' K' s' w')
  (λw'=>∃Y txt' K' s',(∀j,X j->Y j)/\(∀j,Y j->X j\/w.heap.size<=j)/\S0 R G T Q txt' K' Y rr O_ a L s' w'/\F txt' K' s' w') ?_ ?_) ?_
 ·intro U p C N aU V
  have GN:Td G Q txt K (λb=>(U b/\b≠T.rb)\/b=T.rb) p:=aU.iff λb=>by
   by_cases e:b=T.rb
   ·exact⟨λ_=> .inr e,λ_=>C _ (.inr e)⟩
   ·exact⟨λW=> .inl ⟨W,e⟩,λW=>W.elim And.left λD=>absurd D e⟩
  refine⟨V.size,txt,K,s,?_,h0 p V.size (V.Pk λb e D=>e (.inl D))⟩;refine h.byG (h.m.list GN V λj e=>e.elim (λe=> .inl ⟨C _ (.inl e),o j e⟩) .inr) V (λb e=> .inl ⟨λD=>e (.inl D),λD=>e (.inr D)⟩) (λj x=>⟨C _ (.inl x),o j x⟩) (λj x=>?_)<|λ_ _=>rfl;rcases N j x.1 with(e|e)| e
  ·exact .inl e
  ·exact absurd e x.2
  ·exact .inr e
 ·rintro U i u p C N hs⟨z7,c,K7,s7,h7,Ng⟩;obtain⟨Y,f⟩:∃Y:Nat->Prop,(λb=>U b/\b≠T.rb)=Y:=⟨_,O⟩;rw[f] at h7⊢;have P:∀j,X j->Y j:=λj x=>by rw[<-f];exact⟨C _ (.inl x),o j x⟩
  have AJ:∀j,Y j->X j\/w.heap.size<=j:=λj x=>by
   rw[<-f] at x;rcases N j x.1 with(e|e)| e
   ·exact .inl e
   ·exact absurd e x.2
   ·exact .inr e
  refine z2a.mono (H Y i u c K7 s7 p P AJ z7 hs h7 Ng) ?_;rintro r w8⟨⟨rfl,q,J,S,M,A⟩|⟨rfl,q,J,S,M,t⟩,aH⟩
  ·have hz:=aH.size;refine .inl ⟨O,⟨ω,q,J,S,M,A⟩,aH.Pk λj e=>e.imp (λe D=>e.1 (by rw[<-f];exact⟨D,e.2⟩)) id⟩
  ·exact .inr ⟨O,Y,q,J,S,P,AJ,M,t⟩
 ·rintro r w8⟨rfl,⟨U,C,N,-,q,J,S,M,A⟩|⟨Y,q,J,S,C,N,M,t⟩⟩
  ·refine⟨O,_,q,J,S,λj x=>⟨C _ (.inl x),o j x⟩,λj x=>?_,M,.inl A⟩;rcases N j x.1 with(e|e)| e
   ·exact .inl e
   ·exact absurd e x.2
   ·exact .inr e
  ·exact⟨O,Y,q,J,S,C,N,M,.inr t⟩
end
section
variable {root v:Nat}{s s':DmS}
structure DmW (G T:YF)(Q:RE)(txt:Int->P8)(K:Nat)(X:Nat->Prop)(rr root:Nat)(O_:Nat->Prop)(a L n:Nat)(s:DmS)(w w':World):Prop where
 ex:∃txt' K',S0 (VT T.k root) G T Q txt' K' X rr O_ a L s w'/\K'<=K+n/\∀y:Int,y<(a:Int)\/(a:Int)+(L:Int)<=y->txt' y=txt y
 k:Kp (λb=>¬X b\/O_ b) w w'
theorem S0.zbU (h:S0 (VT T.k root) G T Q txt K X rr O_ a L s w)(d:ZM Q txt G.k T.k root rr O_ a L s vb w)(l:Kp (λb=>b=rr) w w')(m:Pm w' rr (dmC s' G.k T.k root vb) 103)(n:∀j,j<5->s'.vec j=s.vec j):S0 (VT T.k root) G T Q txt K X rr O_ a L s' w':=
 h.set l (λb e=>by rw[e];exact d.o.1) ⟨vb,d.put l m n⟩
theorem z2j (h:S0 (VT T.k root) G T Q txt K X rr O_ a L s w)(hK:K<=800000000000)(D:v<s.num.length/\v<s.looked.length)(Z:s.Pv<s.Vy.length):PN prog 44 [ptr rr 0,I (v:Int)] w λ_ w'=>DmW G T Q txt K X rr root O_ a L 3 (s.push v) w w':=by
 obtain⟨p,u⟩:=h.dm
 have A:v<100:=by have:=(u.vs 0 ψ).2;have e:(s.vec 0).length=s.num.length:=rfl;omega
 have P:s.Pv<100:=by have:=(u.vs 3 ψ).2;have e:(s.vec 3).length=s.Vy.length:=rfl;omega
 refine py (e:=[(0,_),(1,_)]) func44 O ntmps44 O O<|QG O<|Px z5r O (TF h ω (j:=0) (i:=v) (x:=4294967294) ψ D.1 ψ) ?_
 rintro _ w1⟨E,V,c,H⟩
 refine qM O<|PB O<|Px z5r O (TF V ω (j:=1) (i:=v) (x:=0) ψ D.2 ψ) ?_
 rintro _ w2⟨F,B,U,J⟩
 obtain⟨d,g⟩:=B.dm
 have r:=g.cells
 replace r:Pm w2 rr [I (s.steps:Int),I (s.fin:Int),I (s.Pv:Int),.bool s.Ru,.bool s.done,ptr G.k 0,ptr T.k 0,I (root:Int),ptr (d 0) 0,ptr (d 1) 0,ptr (d 2) 0,ptr (d 3) 0,ptr (d 4) 0,.bool false,.bool false] 103:=r
 refine qM O<|PB O<|PQ O<|Pr RA O<|Pr WZ O<|qV (Pl U3 O O r O)<|Ph O<|Px z5r O (TF B ω (j:=3) (i:=s.Pv) (x:=v) ψ Z ω) ?_
 rintro _ t⟨m,C,f,M⟩
 obtain⟨l,q⟩:=C.dm
 have n:=q.cells
 replace n:Pm t rr [I (s.steps:Int),I (s.fin:Int),I (s.Pv:Int),.bool s.Ru,.bool s.done,ptr G.k 0,ptr T.k 0,I (root:Int),ptr (l 0) 0,ptr (l 1) 0,ptr (l 2) 0,ptr (l 3) 0,ptr (l 4) 0,.bool false,.bool false] 103:=n
 refine P4<|Ra O<|PQ O<|Pr RA O<|Pr WZ O<|qV (Pl U3 O O n O)<|Qj O<|PQ O<|Pr RA O<|Pr WZ O<|Po O (QZ Qe O O O n ξ) ?_
 rintro w4⟨S,z⟩
 have W:=C.zbU (s':=s.push v) q z S (λj hj=>by
  obtain rfl|rfl|rfl|rfl|rfl:j=0\/j=1\/j=2\/j=3\/j=4:=ω
  all_goals rfl)
 refine P4<|PM.qb (e:=[]) ?_
 refine Qu func44 O ?_
 exact⟨_,O,⟨m,K+1+1+1,W,ω,λy e=>((f y e).trans (U y e)).trans (c y e)⟩,(((H.trans J).trans M).Pk λb e=> .inl λN=>e (.inl (.inl N))).trans (z.Pk λb e=> .inr (by rw[e];exact q.o.1))⟩
end
section
variable {Y:Nat->Prop}{root v:Nat}{s s':DmS}
def nxR (g:List (List Nat))(s:DmS)(v:Nat):Value:=match(Pa g v)[s.looked.getD v 0]? with
 |none=> .tuple #[I 0,.bool false]
 |some u=> .tuple #[I (u:Int),.bool true]
def nxS (g:List (List Nat))(s:DmS)(v:Nat):DmS:=match(Pa g v)[s.looked.getD v 0]? with
 |none=>s
 |some _=>s.look v
theorem z7V (h:S0 (VT T.k root) G T Q txt K X rr O_ a L s w)(hK:K<=800000000000)(hv:v<G.g.length)(yM:s.looked.length=G.g.length)(GP:s.looked.getD v 0<=(Pa G.g v).length):PN prog 118 [ptr rr 0,I (v:Int)] w λr w'=>r=nxR G.g s v/\∃txt' K',S0 (VT T.k root) G T Q txt' K' X rr O_ a L (nxS G.g s v) w'/\K'<=K+1/\(∀y:Int,y<(a:Int)\/(a:Int)+(L:Int)<=y->txt' y=txt y)/\Kp (λb=>¬X b) w w':=by
 have f:∀b,X b->b<w.heap.size:=λb hb=>h.lt b (.inl (.inl hb))
 have W:=h.far
 obtain⟨n1,n2,n3⟩:=h.ng
 have ri:=h.lt T.rb (.inl (.inr O))
 have dZ:=h.m.n
 have eV:=h.m.g.ok.gr
 obtain⟨vb,hV⟩:=h.dm
 have hR:=hV.cells
 have vz:=h.xr _ hV.o.1
 obtain⟨k,hk⟩:∃k,s.looked[v]? =some k:=⟨_,y03 ω⟩
 have B:s.looked.getD v 0=k:=XK hk
 have fR:(Pa G.g v).length<=G.g.length:=eV.len (y0j (show G.g[v]? =some (Pa G.g v) by unfold Pa;rw[y03 hv];rfl))
 have ad:nxR G.g s v=match(Pa G.g v)[k]? with|none=> .tuple #[I 0,.bool false]|some u=> .tuple #[I (u:Int),.bool true]:=by unfold nxR;rw[B]
 have ae:nxS G.g s v=match(Pa G.g v)[k]? with|none=>s|some _=>s.look v:=by unfold nxS;rw[B]
 rw[ad,ae]
 rw[B] at GP
 refine py (e:=[(0,_),(1,_)]) func118 O ntmps118 O O<|qN O<|Pb O O (RP O (cs:=[ptr rr 0]) O) ?_
 rintro _ w1⟨b2,rfl,bU,jW,aj⟩
 refine Pb O O (RP O (cs:=[I (v:Int)]) O) ?_
 rintro _ w2⟨b3,rfl,eh,mC,ak⟩
 refine Pb O O (S5 (cs:=[_]) Qe O) ?_
 rintro _ w3⟨V,rfl,g7,AL,ao⟩
 refine Pb O O (S5 (cs:=[_]) TZ O) ?_
 rintro _ w4⟨b5,rfl,gp,vA,aF⟩
 replace ao:Pm w3 V [I 0] 3:=ao
 replace aF:Pm w4 b5 [.bool false] 4:=aF
 have z1:=jW.size
 have z2:=mC.size
 have z3:=AL.size
 have z4:=vA.size
 have l1:=aj.lt
 have l2:=ak.lt
 have l3:=ao.lt
 have l4:=aF.lt
 have cK:=AL.trans vA
 have bV:=(jW.trans mC).trans cK
 have cu:=cK.OZ (mC.OZ aj)
 have eK:=cK.OZ ak
 have dv:=vA.OZ ao
 have h4:=h.ext bV
 refine qM O<|qV (Pl U44 O O cu O)<|qV (Pl U3 O O eK O) ?_
 obtain⟨M,oH⟩:∃M:Nat->Prop,(λj=>X j\/j=b2\/j=b3\/j=V\/j=b5)=M:=⟨_,O⟩
 have C9:∀j,X j->M j:=λj d=>by rw[<-oH];exact .inl d
 have E:M b2/\M b3/\M V/\M b5:=by rw[<-oH];exact⟨.inr (.inl O),.inr (.inr (.inl O)),.inr (.inr (.inr (.inl O))),.inr (.inr (.inr (.inr O)))⟩
 have sJ:S0 (VT T.k root) G T Q txt K M rr O_ a L s w4:=h.grow bV (λj d=>by rw[<-oH] at d;exact d.imp id λe=>ω) C9
 refine Px Y4 O (Sv sJ (j:=1) ψ hk) ?_
 rintro _ w5⟨rfl,h5,P⟩
 have ph:∀{j},M j->¬¬ZI G T M j:=λd e=>e (.inl (.inl d))
 have dK:=P.OZ cu (ph E.1)
 have du:=P.OZ eK (ph E.2.1)
 have cQ:=P.OZ dv (ph E.2.2.1)
 have aL:=P.OZ aF (ph E.2.2.2)
 have ie:=P.OZ (bV.OZ hR) (ph (C9 _ vz))
 have z5:=P.size
 refine Pb O O (S5 (cs:=[_]) Qe O) ?_
 rintro _ w6⟨b6,rfl,oT,aM,aJ⟩
 refine Po O (QZ Qe O O O aJ ξ) ?_
 rintro w7⟨jr,av⟩
 replace jr:Pm w7 b6 [I (k:Int)] 3:=jr
 have z6:=aM.size
 have z7:=av.size
 have l6:=aJ.lt
 refine qM O<|Pb O O (S5 (cs:=[_]) Qe O) ?_
 rintro _ w8⟨b7,rfl,kR,cG,bh⟩
 refine Po O (QZ Qe O O O bh ξ) ?_
 rintro w9⟨jn,aN⟩
 replace jn:Pm w9 b7 [I 0] 3:=jn
 have z8:=cG.size
 have z9:=aN.size
 have l8:=bh.lt
 have mD:Ext w5 w9:=((aM.It av λb e=>ω).trans cG).It aN λb e=>ω
 have GQ:=mD.OZ dK
 have uE:=mD.OZ du
 have uD:=mD.OZ cQ
 have bN:=mD.OZ aL
 have rJ:=mD.OZ ie
 have iL:=aN.OZ (cG.OZ jr) ω
 have hg:=Ext.Pz w9
 refine P4<|OY<|OY<|RI (λw'=>Ext w9 w') O<|qT 0 O (λ_ h=>(Pl U44 O O (h.OZ GQ) O)) hg<|P7 1 O (QL O) hg<|P7 2 O (PU z3B O) hg<|qT 3 O (λ_ h=>(Pl U28 O O (h.OZ rJ) O)) hg<|qT 4 O (λ_ h=>(Pl U3 O O (h.OZ uE) O)) hg<|Tl 5 O zft O (z26 G.k v _) ?_
 rintro _ F⟨bk,bi,rfl,qu,wV,g8,sH,AM⟩
 refine⟨hg.trans AM,?_⟩
 have Ca:=hg.trans AM
 have za:=Ca.size
 have zg:=hg.size
 have lk:=qu.lt
 have li:=wV.lt
 refine qE<|P6<|Tb (ps:=[19,20]) (p:=[]) (q:=[_,_]) O zfl ?_
 rintro l wl eg fM cO hD Rc Z eu
 have zl:=eg.size
 have ft:Ext w5 wl:=(mD.trans Ca).trans eg
 obtain⟨R,fu⟩:∃R:Nat->Prop,(λj=>M j\/j=b6\/j=b7\/j=F.heap.size\/j=l)=R:=⟨_,O⟩
 have J:∀j,M j->R j:=λj d=>by rw[<-fu];exact .inl d
 have H:R b6/\R b7/\R F.heap.size/\R l:=by rw[<-fu];exact⟨.inr (.inl O),.inr (.inr (.inl O)),.inr (.inr (.inr (.inl O))),.inr (.inr (.inr (.inr O)))⟩
 have f9:∀j,X j->R j:=λj d=>J j (C9 j d)
 have fF:∀j,w.heap.size<=j->¬O_ j:=λj d=>(W j d).2.2.2.2.2.2
 have GR:S0 (VT T.k root) G T Q txt K R rr O_ a L s wl:=h5.grow ft (λj d=>by rw[<-fu] at d;exact d.imp id λe=>ω) J
 have mn:Kp (λb=>¬X b) w wl:=(bV.kp.trans (P.Pk λb e z=>e (.inl (.inl (C9 b z))))).trans ft.kp
 have GS:=ft.OZ dK
 have GT:=ft.OZ du
 have GU:=ft.OZ cQ
 have GV:=ft.OZ aL
 have GW:=(Ca.trans eg).OZ iL
 have GX:=(Ca.trans eg).OZ jn
 refine PN.mono (z3k hv GR (eg.OZ qu) (eg.OZ wV) (λj=>j=l\/j=V\/j=b5\/j=b7) (λj d=>by
   rcases d with rfl|rfl|rfl|rfl
   ·exact H.2.2.2
   ·exact J _ E.2.2.1
   ·exact J _ E.2.2.2
   ·exact H.2.1)
  (λi txt' K' s' w'=>Rc .ready none w'/\txt'=txt/\K'=K/\s'=s/\i<=k/\w'.heap[F.heap.size]? =some (.deferred (some []))/\(Pm w' b2 [ptr rr 0] 44/\Pm w' b3 [I (v:Int)] 3/\Pm w' V [I 0] 3/\Pm w' b5 [.bool false] 4/\Pm w' b6 [I (k:Int)] 3/\Pm w' b7 [I (i:Int)] 3)/\Kp (λb=>¬X b) w w')
  (λtxt' K' s' w'=>Rc .done (some .ret) w'/\s'=s.look v/\K'<=K+1/\(∀y:Int,y<(a:Int)\/(a:Int)+(L:Int)<=y->txt' y=txt y)/\(∃u,(Pa G.g v)[k]? =some u/\Pm w' V [I (u:Int)] 3)/\w'.heap[F.heap.size]? =some (.deferred (some []))/\Pm w' b5 [.bool true] 4/\Kp (λb=>¬X b) w w')
  ?_ ?_) ?_
 ·intro w7 hz c;have t:∀{j},R j->¬¬R j:=λd e=>e d;exact⟨c.rc Z eu (t H.2.2.2),O,O,O,y00 _,c.heap hD (t H.2.2.1),⟨c.OZ GS (t (J _ E.1)),c.OZ GT (t (J _ E.2.1)),c.OZ GU (t (J _ E.2.2.1)),c.OZ GV (t (J _ E.2.2.2)),c.OZ GW (t H.1),c.OZ GX (t H.2.1)⟩,mn.trans (c.Pk λb e z=>e (f9 b z))⟩
 ·rintro Y i u txt' K' s' w7 C kI a5 hs h7⟨AN,rfl,rfl,rfl,Nh,GY,⟨Jh,Ji,AO,kJ,Jj,Jk⟩,ni⟩;have U:Y l/\Y V/\Y b5/\Y b7/\Y b2/\Y b3/\Y b6/\Y F.heap.size:=⟨C _ H.2.2.2,C _ (J _ E.2.2.1),C _ (J _ E.2.2.2),C _ H.2.1,C _ (J _ E.1),C _ (J _ E.2.1),C _ H.1,C _ H.2.2.1⟩;have kK:∀j,X j->Y j:=λj d=>C j (f9 j d);have mV:u<G.g.length:=Sa eV v u (y0j hs);refine Uo Z AN O O<|Re O<|Pc O<|Pq O<|run_beginRound O Z AN ?_;rintro a2 wQ N;have h8:=h7.own N (λj e=>by subst e;exact⟨U.1,W _ ω⟩);have AP:=N.OZ Jh ω;have AQ:=N.OZ Ji ω;have AR:=N.OZ AO ω;have rk:=N.OZ kJ ω;have vB:=N.OZ Jj ω;have vC:=N.OZ Jk ω;have Cb:=N.heap GY ω;have a6:=N.size;have j9:Kp (λb=>¬X b) w a2:=ni.trans (N.Pk λj e z=>by have:=f j z;omega);refine P6<|PL O<|Px z6M O (Tn _) ?_;rintro _ a2 rfl;refine P4<|OY<|qN O<|qV (Pl U3 O O vC O)<|qV (Pl U3 O O vB O) ?_;by_cases GZ:i=k
  ·subst GZ
   have AS:s'.look v=s'.z5J 1 ((s'.vec 1).set v (i+1)):=by
    unfold DmS.look;rw[B];rfl
   refine Rx O<|RO<|P4<|PM.qb (e:=[(2,_),(3,_),(4,_),(5,_),(6,_),(7,_),(8,_),(25,_)]) ?_;refine Pp O (qN O (qV (Pl U44 O O AP O) (qV (Pl U3 O O AQ O) (qV (Pl U3 O O vB O) (Qj O (Px z5r O (TF h8 ω (j:=1) (i:=v) (x:=i+1) ψ (by show v<s'.looked.length;omega) ω) ?_))))));rintro _ a0⟨a1,h9,GH,D⟩;have kL:∀{j},Y j->¬¬ZI G T Y j:=λd e=>e (.inl (.inl d));have H0:=D.OZ AR (kL U.2.1);have kM:=D.OZ rk (kL U.2.2.1);have vD:=D.rc Z wQ (kL U.1);have AU:=D.heap Cb (kL U.2.2.2.2.2.2.2);have iS:Kp (λb=>¬X b) w a0:=j9.trans (D.Pk λb e z=>e (.inl (.inl (kK b z))));have oI:Kp (λb=>(¬Y b/\b≠T.rb)\/b=l\/b=V\/b=b5\/b=b7) w7 a0:=(N.Pk λj e=> .inr (.inl e)).trans (D.Pk λj e=> .inl ⟨λz=>e (.inl (.inl z)),λz=>e (.inl (.inr z))⟩);have a7:=D.size;refine qM O (Ph O (qV (Q8 O R9 U3 ω) (Po O (QZ Qe O O O H0 ξ) ?_)));rintro a3⟨H1,bI⟩;have oJ:=bI.OZ kM ω;refine Po O (QZ TZ O O O oJ ξ) ?_;rintro a4⟨vE,cY⟩;have H2:=cY.OZ H1 ω;have oU:=(h9.own bI (λj e=>by subst e;exact⟨U.2.1,W _ ω⟩)).own cY (λj e=>by subst e;exact⟨U.2.2.1,W _ ω⟩);have yo:=cY.rc Z (bI.rc Z vD ω) ω;have Ni:=cY.heap (bI.heap AU ω) ω;refine P4<|Wp Z yo ?_;intro wd jm B;rw[<-AS] at oU;exact⟨.inr ⟨O,a1,K'+1,s'.look v,oU.own B (λj e=>by subst e;exact⟨U.1,W _ ω⟩),jm,O,y02 _,GH,⟨u,hs,B.OZ H2 ω⟩,B.heap Ni ω,B.OZ vE ω,((iS.trans (bI.Pk λj e z=>by have:=f j z;omega)).trans (cY.Pk λj e z=>by have:=f j z;omega)).trans (B.Pk λj e z=>by have:=f j z;omega)⟩,((oI.trans (bI.Pk λj e=> .inr (.inr (.inl e)))).trans (cY.Pk λj e=> .inr (.inr (.inr (.inl e))))).trans (B.Pk λj e=> .inr (.inl e))⟩
  ·refine Rx O<|Qb<|P4<|PM.qb (e:=[(2,_),(3,_),(4,_),(5,_),(6,_),(7,_),(8,_),(25,_)]) ?_;refine Tj O (Pc O (qV (Pl U3 O O vC O) (Qj O (Po O (QZ Qe O O O vC ξ) ?_))));rintro a0⟨H3,D⟩;have h9:=h8.own D (λj e=>by subst e;exact⟨U.2.2.2.1,W _ ω⟩);have vD:=D.rc Z wQ ω;refine P4<|An<|T2 Z vD ?_;intro wd jm B;exact⟨.inl ⟨O,txt',K',s',h9.own B (λj e=>by subst e;exact⟨U.1,W _ ω⟩),jm,O,O,O,ω,B.heap (D.heap Cb ω) ω,⟨B.OZ (D.OZ AP ω) ω,B.OZ (D.OZ AQ ω) ω,B.OZ (D.OZ AR ω) ω,B.OZ (D.OZ rk ω) ω,B.OZ (D.OZ vB ω) ω,B.OZ H3 ω⟩,(j9.trans (D.Pk λj e z=>by have:=f j z;omega)).trans (B.Pk λj e z=>by have:=f j z;omega)⟩,((N.Pk λj e=> .inr (.inl e)).trans (D.Pk λj e=> .inr (.inr (.inr (.inr e))))).trans (B.Pk λj e=> .inr (.inl e))⟩
 ·rintro v' wz⟨rfl,Y,A,Kz,sz,C,kI,hz,⟨AV,rfl,rfl,rfl,Nh,AW,⟨Jh,Ji,AO,kJ,Jj,Jk⟩,dM⟩|⟨AV,rfl,Nj,qj,⟨u,hu,AO⟩,AW,kJ,dM⟩⟩
  ·refine⟨_,_,AV,ξ,λwy S=>?_⟩;have zz:=dM.size;have zy:=S.size;have vF:=S.OZ AO ω;have mE:=S.OZ kJ ω;have qC:=S.heap AW ω;rw[y0e ω];refine An (qN O (Po O (QZ Qe O O O vF ξ) ?_));rintro wx⟨H4,kB⟩;have H5:=kB.OZ mE ω;refine Po O (QZ TZ O O O H5 ξ) ?_;rintro wv⟨H6,kC⟩;have H7:=kC.OZ H4 ω;have C2:=kC.heap (kB.heap qC ω) ω;have eW:Kp (λk=>k=F.heap.size) wv (T4 [.mk F.heap.size] wv):=QW wv F.heap.size (.deferred none);have vG:=eW.OZ H7 ω;have vH:=eW.OZ H6 ω;have cJ:Kp (λk=>k=l\/k=V\/k=b5\/k=F.heap.size) wz (T4 [.mk F.heap.size] wv):=(((S.Pk λj e=> .inl e).trans (kB.Pk λj e=> .inr (.inl e))).trans (kC.Pk λj e=> .inr (.inr (.inl e)))).trans (eW.Pk λj e=> .inr (.inr (.inr e)));refine P4 (VY ξ (XS C2) func118 (.cell1 U3 O O ((vG).cell _) (.cell1 U4 O O ((vH).cell _) .nil)) ?_);exact⟨_,O,O,A,Kz,(hz.own cJ (λj e=>⟨by rcases e with rfl|rfl|rfl|rfl;exact C _ H.2.2.2;exact C _ (J _ E.2.2.1);exact C _ (J _ E.2.2.2);exact C _ H.2.2.1,W j ω⟩)).less (λj d=>C j (f9 j d)) h.xk h.xr,Nat.le_add_right _ _,λ_ _=>rfl,dM.trans (cJ.Pk λj e z=>by have:=f j z;omega)⟩
  ·refine⟨_,_,AV,ξ,λwy S=>?_⟩;have zz:=dM.size;have zy:=S.size;have vF:=S.OZ AO ω;have mE:=S.OZ kJ ω;have qC:=S.heap AW ω;have eW:Kp (λk=>k=F.heap.size) wy (T4 [.mk F.heap.size] wy):=QW wy F.heap.size (.deferred none);have vG:=eW.OZ vF ω;have vH:=eW.OZ mE ω;have cJ:Kp (λk=>k=l\/k=F.heap.size) wz (T4 [.mk F.heap.size] wy):=(S.Pk λj e=> .inl e).trans (eW.Pk λj e=> .inr e);rw[hu];refine VY ξ (XS qC) func118 (.cell1 U3 O O ((vG).cell _) (.cell1 U4 O O ((vH).cell _) .nil)) ?_;exact⟨_,O,O,A,Kz,(hz.own cJ (λj e=>⟨by rcases e with rfl|rfl;exact C _ H.2.2.2;exact C _ H.2.2.1,W j ω⟩)).less (λj d=>C j (f9 j d)) h.xk h.xr,Nj,qj,dM.trans (cJ.Pk λj e z=>by have:=f j z;omega)⟩
end
section
variable {root v:Nat}{s s':DmS}
def Zq {s s':DmS}(b:s'.num=s.num)(d:s'.looked=s.looked)(e:s'.cand=s.cand)(h:s'.Vy=s.Vy)(l:s'.ord=s.ord):∀j,j<5->s'.vec j=s.vec j:=λj m=>by
 obtain rfl|rfl|rfl|rfl|rfl:j=0\/j=1\/j=2\/j=3\/j=4:=ω
 ·exact b
 ·exact d
 ·exact e
 ·exact h
 ·exact l
theorem z7u (h:S0 (VT T.k root) G T Q txt K X rr O_ a L s w)(z:Y1 G.g root s)(hh:0<s.Pv)(hK:K<=700000000000):PN prog 82 [ptr rr 0] w λ_ w'=>DmW G T Q txt K X rr root O_ a L 5 (s.move G.g) w w':=by
 have dZ:=h.m.n
 have eV:=h.m.g.ok.gr
 have OO:=z.fh
 have sh:=z.nn
 have yM:=z.ln
 have ji:=z.sn
 have pn:=z.on
 obtain⟨vb,hV⟩:=h.dm
 have hR:=hV.cells
 obtain⟨v,hv⟩:∃v,s.Vy[s.Pv-1]? =some v:=⟨_,y03 ω⟩
 have c:s.Vy.getD (s.Pv-1) 0=v:=XK hv
 obtain⟨V,v2⟩:=z.st (s.Pv-1) ω
 rw[c] at V v2
 have GP:=(z.lk v V ω).1
 have pB:s.move G.g=match(Pa G.g v)[s.looked.getD v 0]? with
  |none=>s.XW v
  |some u=>if s.num.getD u 0=4294967295 then(s.look v).push u else s.look v:=by
  unfold DmS.move;rw[c]
  try (cases (Pa G.g v)[s.looked.getD v 0]?<;>rfl)
 rw[pB]
 refine py (e:=[(0,_)]) func82 O ntmps82 O O<|QG O<|PQ O<|Pr RA O<|Pr WZ O<|qV (Pl U3 O O hR O)<|RR O ?_
 rw[show(s.Pv:Int)-1=((s.Pv-1:Nat):Int) by omega]
 refine Px Y4 O (Sv h (j:=3) ψ hv) ?_
 rintro _ w1⟨rfl,h1,aK⟩
 refine Ro O<|PB O<|Px zhI O (z7V h1 ω V yM GP) ?_
 rintro _ w2⟨rfl,E,p,B,sZ,S,am⟩
 have t:Kp (λb=>¬X b\/O_ b) w w2:=(aK.Pk λb e=> .inl λr=>e (.inl (.inl r))).trans (am.Pk λb e=> .inl e)
 cases D:(Pa G.g v)[s.looked.getD v 0]? with
 | none =>
   have R:nxR G.g s v= .tuple #[I 0,.bool false]:=by unfold nxR;rw[D]
   have r:nxS G.g s v=s:=by unfold nxS;rw[D]
   rw[r] at B;rw[R];obtain⟨a1,rj⟩:=B.dm;have cC:=rj.cells;refine Ph O<|Ta O<|QS O<|P6<|PL O<|qV (SD O) ?_;rw[show(!false)=true from rfl];refine Pq O (Pp O (QG O (Ph O (PQ O (Pr RA O (Pr z1Z O (qV (Pl U3 O O cC O) (Px z5r O (TF B ω (j:=0) (i:=v) (x:=s.fin) ψ (by show v<s.num.length;omega) ω) ?_))))))));rintro _ w3⟨a0,C,rf,M⟩;obtain⟨q,AK⟩:=C.dm;have fT:Pm w3 rr [I (s.steps:Int),I (s.fin:Int),I (s.Pv:Int),.bool s.Ru,.bool s.done,ptr G.k 0,ptr T.k 0,I (root:Int),ptr (q 0) 0,ptr (q 1) 0,ptr (q 2) 0,ptr (q 3) 0,ptr (q 4) 0,.bool false,.bool false] 103:=AK.cells;refine P4<|PM.qb (e:=[(0,_),(2,_)]) ?_;refine QG O (PQ O (Pr RA O (Pr z1Z O (qV (Pl U3 O O fT O) (Ph O (Px z5r O (TF C ω (j:=4) (i:=s.fin) (x:=v) ψ (by show s.fin<s.ord.length;omega) ω) ?_))))));rintro _ Z⟨l,H,U,N⟩;obtain⟨d,W⟩:=H.dm;have P:Pm Z rr [I (s.steps:Int),I (s.fin:Int),I (s.Pv:Int),.bool s.Ru,.bool s.done,ptr G.k 0,ptr T.k 0,I (root:Int),ptr (d 0) 0,ptr (d 1) 0,ptr (d 2) 0,ptr (d 3) 0,ptr (d 4) 0,.bool false,.bool false] 103:=W.cells;refine qM O (Ph O (PQ O (Pr RA O (Pr z1Z O (qV (Pl U3 O O P O) (Qj O (PQ O (Pr RA O (Pr z1Z O (Po O (QZ Qe O O O P ξ) ?_))))))))));rintro w5⟨J,ai⟩;replace J:Pm w5 rr [I (s.steps:Int),I ((s.fin:Int)+1),I (s.Pv:Int),.bool s.Ru,.bool s.done,ptr G.k 0,ptr T.k 0,I (root:Int),ptr (d 0) 0,ptr (d 1) 0,ptr (d 2) 0,ptr (d 3) 0,ptr (d 4) 0,.bool false,.bool false] 103:=J;refine P4 (Ra O (PQ O (Pr RA O (Pr WZ O (qV (Pl U3 O O J O) (RR O (PQ O (Pr RA O (Pr WZ O (Po O (QZ Qe O O O J ξ) ?_))))))))));rintro w6⟨F,aG⟩;have iT:Kp (λj=>j=rr) Z w6:=ai.trans aG;replace F:Pm w6 rr [I (s.steps:Int),I ((s.fin:Int)+1),I ((s.Pv:Int)-1),.bool s.Ru,.bool s.done,ptr G.k 0,ptr T.k 0,I (root:Int),ptr (d 0) 0,ptr (d 1) 0,ptr (d 2) 0,ptr (d 3) 0,ptr (d 4) 0,.bool false,.bool false] 103:=F;rw[show(s.Pv:Int)-1=((s.Pv-1:Nat):Int) by omega] at F;have h6:=H.zbU (s':=s.XW v) W iT F (Zq O O O O O);refine P4<|PM.qb (e:=[]) ?_;refine An<|Qu func82 O ?_
   exact⟨_,O,⟨l,p+1+1,h6,ω,λy e=>((U y e).trans (rf y e)).trans (S y e)⟩,(t.trans ((M.trans N).Pk λb e=> .inl λr=>e (.inl (.inl r)))).trans (iT.Pk λb e=> .inr (by rw[e];exact W.o.1))⟩
 | some u =>
   have R:nxR G.g s v= .tuple #[I (u:Int),.bool true]:=by unfold nxR;rw[D]
   have r:nxS G.g s v=s.look v:=by unfold nxS;rw[D]
   rw[r] at B;rw[R];have mV:u<G.g.length:=Sa eV v u (y0j D);obtain⟨x,hx⟩:∃x,s.num[u]? =some x:=⟨_,y03 ω⟩;refine Ph O<|Ta O<|QS O<|P6<|PL O<|qV (SD O) ?_;rw[show(!true)=false from rfl];refine Pq O (P9 O (QG O (Px Y4 O (Sv B (j:=0) (i:=u) (x:=x) ψ hx) ?_)));rintro _ w3⟨rfl,C,M⟩;have A:=t.trans (M.Pk λb e=> .inl λr=>e (.inl (.inl r)));have f:s.num.getD u 0=x:=XK hx;dsimp only;rw[f];by_cases e:x=4294967295
   ·rw[if_pos e]
    have nY:s.fin+s.Pv<G.g.length:=by
     have h1:=z.ct;have B:WR G.g.length (λv=>s.num.getD v 0≠4294967295)<WR G.g.length (λ_=>True):=z1l (λ_ _ _=>trivial) mV (λh=>h (by rw[f];exact e)) trivial;have C:WR G.g.length (λ_=>True)<=G.g.length:=z3H;omega
    refine Rx O<|RO<|Pq O<|PM.qb (e:=[(0,_),(3,_),(56,_)]) ?_;refine Pp O (Pc O (PB O (Px zhi O (z2j C ω ⟨by show u<s.num.length;omega,by show u<(s.looked.set v _).length;rw[y0x];omega⟩ (by show s.Pv<s.Vy.length;omega)) ?_)));rintro _ Z hW;obtain⟨⟨l,K4,H,H8,U⟩,N⟩:=hW;refine P4<|An<|Qu func82 O ?_;exact⟨_,O,⟨l,K4,H,ω,λy e=>(U y e).trans (S y e)⟩,A.trans N⟩
   ·rw[if_neg e];refine Rx O<|Qb<|Pq O<|PM.qb (e:=[(0,_),(3,_),(56,_)]) ?_;refine Tj O<|An<|Qu func82 O ?_;exact⟨_,O,⟨E,p,C,ω,S⟩,A⟩
end
section
variable {root v q:Nat}{s:DmS}
def z1d {l:List Nat}{v x:Nat}(h:l[v]? =some x):Tm l v=x:=by
 show l.getD v 4294967295=x
 rw[y17,h];rfl
theorem z6Z (h:S0 (VT T.k root) G T Q txt K X rr O_ a L s w)(hN:zgh (SG G.g root) (nF s.num) root)(E:Fo (SG G.g root) (nF s.num) root (Tm s.cand))(P:root<G.g.length)(sh:s.num.length=G.g.length)(rl:s.cand.length=G.g.length)(B:Tm s.cand p≠4294967295)(C:Tm s.cand q≠4294967295)(d:meetF (nF s.num) (Tm s.cand) (2*G.g.length) p q=some c):PN prog 117 [ptr rr 0,I (p:Int),I (q:Int)] w λr w'=>r=I (c:Int)/\S0 (VT T.k root) G T Q txt K X rr O_ a L s w'/\Kp (λb=>¬ZI G T X b) w w':=by
 have dZ:=h.m.n
 have Z:=h.m.g.ok.gr
 obtain⟨vb,hV⟩:=h.dm
 have hR:=hV.cells
 refine py (e:=[(0,_),(1,_),(2,_)]) func117 O ntmps117 O O<|Re O<|z36<|PL O<|PQ O<|Pr z3B O<|qV (Pl U28 O O hR O)<|Px za4 O (XA h.m.g) ?_
 rintro _ w⟨rfl,rfl⟩
 refine qV (Y8 O O ω)<|Pq O<|OY<|z2T<|R0 ?_
 rw[show(2:Int)*(G.g.length:Int)=((2*G.g.length:Nat):Int) by omega]
 refine RX (α:=Nat×Nat×Nat) (2*G.g.length,p,q) (λy=>[(0,ptr rr 0),(1,I (y.2.1:Int)),(2,I (y.2.2:Int)),(7,I (y.1:Int))]) (λy w'=>meetF (nF s.num) (Tm s.cand) y.1 y.2.1 y.2.2=some c/\Tm s.cand y.2.1≠4294967295/\Tm s.cand y.2.2≠4294967295/\S0 (VT T.k root) G T Q txt K X rr O_ a L s w'/\Kp (λb=>¬ZI G T X b) w w'/\y.1<=2*G.g.length) (λy=>y.1) ?hI ?hround
 case hI=>exact⟨d,B,C,h,Kp.refl _ _,y02 _⟩
 case hround=>
  rintro⟨k,p,q⟩ w1 ⟨d,B,C,t,F,ly⟩ M;dsimp only at d B C ly M⊢
  try dsimp only
  refine OY<|QG O ?_;by_cases e:p=q
  ·subst e
   have hc:p=c:=by
    cases k with
    |zero=>unfold meetF at d;rw[if_pos O] at d;exact RZ d
    |succ k=>unfold meetF at d;rw[if_pos O] at d;exact RZ d
   subst hc;refine R5 O<|Qb<|P4<|P9 O<|Pf O<|PL O<|Pq O<|P3 func117 O ?_;exact⟨_,O,O,t,F⟩
  ·obtain⟨k',rfl⟩:∃k',k=k'+1:=by
    cases k with
    |zero=>unfold meetF at d;rw[if_neg e] at d;cases d
    |succ k=>exact⟨k,O⟩
   unfold meetF at d;rw[if_neg e] at d;have N:=E.in_ p B;have R:=E.in_ q C;have lp:=N.lt Z P;have lq:=R.lt Z P;obtain⟨x,hx⟩:∃x,s.num[p]? =some x:=⟨_,y03 ω⟩;obtain⟨y,hy⟩:∃y,s.num[q]? =some y:=⟨_,y03 ω⟩;obtain⟨x2,U⟩:∃x,s.cand[p]? =some x:=⟨_,y03 ω⟩;obtain⟨y2,o⟩:∃x,s.cand[q]? =some x:=⟨_,y03 ω⟩;have ex:nF s.num p=x:=XK hx;have f:nF s.num q=y:=XK hy;have ex2:=z1d U;have D:=z1d o;have tp:=hN.top p N;have tq:=hN.top q R;have l:=hN.inj p q N R;have u:=E.up p B;have z:=E.up q C;rw[ex,f,ex2,D] at d;rw[ex] at tp l u;rw[f] at tq l z;rw[ex2] at u;rw[D] at z;refine R5 O<|RO<|P4<|Pp O<|P5<|P6<|Qi O<|RR O ?_;rw[show((k'+1:Nat):Int)-1=(k':Int) by omega];refine Rq O (QY O (Qb (QC O (OY (QG O (Px Y4 O (Sv t (j:=0) (i:=p) (x:=x) ψ hx) ?_))))));rintro _ w2⟨rfl,h2,V⟩;refine PB O (Px Y4 O (Sv h2 (j:=0) (i:=q) (x:=y) ψ hy) ?_);rintro _ w3⟨rfl,A,W⟩;by_cases S:x<y
   ·rw[if_pos S] at d;have pS:p≠root:=λe=>by subst e;omega
    refine QY O (RO (P4 (Pp O (QG O (Px Y4 O (Sv A (j:=2) (i:=p) (x:=x2) ψ U) ?_)))));rintro _ w4⟨rfl,J,H⟩;refine Pq O<|Pf O ?_;exact(M (k',x2,q) _ ⟨d,(u pS).1,C,J,((F.trans V).trans W).trans H,by show k'<=_;omega⟩ (by show k'<k'+1;omega)).qb
   ·rw[if_neg S] at d
    have qn:q≠root:=λe2=>by
     subst e2;exact e (l ω)
    refine QY O (Qb (QC O (Pc O (PB O (Px Y4 O (Sv A (j:=2) (i:=q) (x:=y2) ψ o) ?_)))));rintro _ w4⟨rfl,J,H⟩;refine Pq O<|An ?_;exact(M (k',p,y2) _ ⟨d,B,(z qn).1,J,((F.trans V).trans W).trans H,by show k'<=_;omega⟩ (by show k'<k'+1;omega)).qb
end
section
variable {root n:Nat}{num:List Nat}
def FdI.pre (d:TrF g root (nF num) par)(b:DsI g root (nF num) par (Tm cand))(e:nF num root<n)(ps:List Nat):FdI root (Tm cand) (ps.foldl (meS n num cand) 4294967295) (λq=>False\/q∈ps):=FdI.all d b e (.inl ⟨rfl,λ_ h=>h.elim⟩)
theorem FdI.ok (h:FdI root f c A)(b:c≠4294967295):f c≠4294967295:=by
 rcases h with h| h
 ·exact absurd h.1 b
 ·exact h.1
def FdI.le (h:FdI root (Tm cand) c A):c=4294967295\/c<cand.length:=by
 rcases h with h| h
 ·exact .inl h.1
 ·right
  rcases y0a c cand.length with e| e
  ·exact e
  ·refine absurd ?_ h.1;show cand.getD c 4294967295=_;rw[y17,y0e e];rfl
def zda (b:Tm cand p=4294967295):meS n num cand c p=c:=if_pos b
theorem za8 (b:Tm cand p≠4294967295):meS n num cand 4294967295 p=p:=by
 unfold meS
 rw[if_neg b,if_pos O]
def zbw (m:TrF g root (nF num) par)(l:DsI g root (nF num) par (Tm cand))(r:nF num root<n)(q:Tm cand c≠4294967295)(h:Tm cand p≠4294967295)(d:c≠4294967295):∃b,meetF (nF num) (Tm cand) (2*n) c p=some b/\meS n num cand c p=b:=by
 obtain⟨b,e,-⟩:=z2g m.n l.fo (2*n) c p q h ω
 refine⟨b,e,?_⟩
 unfold meS
 rw[if_neg h,if_neg d,e];rfl
end
section
variable {Y:Nat->Prop}{root v:Nat}{s s':DmS}
theorem z4v (h:S0 (VT T.k root) G T Q txt K X rr O_ a L s w)(hK:K<=700000000000)(hT:TrF G.g root (nF s.num) par)(hF:Fnd G.g root s.num s.ord s.fin)(z:DwI G.g root s.num par s.cand j)(hr:root<G.g.length)(lH:∀u v,u∈Pa T.g v↔v∈Pa G.g u)(GG:T.g.length=G.g.length)(sh:s.num.length=G.g.length)(pn:s.ord.length=G.g.length):PN prog 81 [ptr rr 0] w λr w'=>r= .bool (Y6 T.g G.g.length s.num s.ord (s.fin-1) (s.cand,false)).2/\DmW G T Q txt K X rr root O_ a L 60 {s with cand:=(Y6 T.g G.g.length s.num s.ord (s.fin-1) (s.cand,false)).1} w w':=by
 have dZ:=h.m.n
 have ru:T.g.length<=40:=ω
 have eV:=h.m.g.ok.gr
 have H9:=h.t.ok.gr
 have nt:=hF.t
 have OP:=hF.f
 have bS:∀b,X b->b<w.heap.size:=λb Z=>h.lt b (.inl (.inl Z))
 obtain⟨n1,n2,n3⟩:=h.ng
 have cA:=h.far
 have C7:=h.lt G.rb (.inr O)
 have ri:=h.lt T.rb (.inl (.inr O))
 obtain⟨vb,hV⟩:=h.dm
 have hR:=hV.cells
 have vz:=h.xr _ hV.o.1
 refine py (e:=[(0,_)]) func81 O ntmps81 O O<|qN O<|Pb O O (RP O (cs:=[ptr rr 0]) O) ?_
 rintro _ w1⟨b1,rfl,bP,ad,aj⟩
 have z1:=ad.size
 have l1:=aj.lt
 obtain⟨H,oH⟩:∃H:Nat->Prop,(λj=>X j\/j=b1)=H:=⟨_,O⟩
 have f9:∀j,X j->H j:=λj B=>by rw[<-oH];exact .inl B
 have di:H b1:=by rw[<-oH];exact .inr O
 have h1:S0 (VT T.k root) G T Q txt K H rr O_ a L s w1:=h.grow ad (λj B=>by rw[<-oH] at B;exact B.imp id λe=>ω) f9
 have V:=h1.xk
 have vJ:=h1.xr
 have o4:∀b,H b->b<w1.heap.size:=λb Z=>h1.lt b (.inl (.inl Z))
 have gX:=ad.OZ hR
 refine Pq O<|OY<|qN O<|qV (Pl U44 O O aj O)<|PQ O<|Pr RA O<|Pr z1Z O<|qV (Pl U3 O O gX O)<|RR O<|Pq O<|P6 ?_
 rw[show(s.fin:Int)-2=((s.fin-1:Nat):Int)-1 by omega]
 obtain⟨D,Jl⟩:∃D,Y6 T.g G.g.length s.num s.ord (s.fin-1) (s.cand,false)=D:=⟨_,O⟩
 rw[Jl]
 refine z9I (α:=(Nat×(List Nat×Bool))×List Dfr) ((s.fin-1,(s.cand,false)),[]) (λy=>y.2) O (λy=>[(1,ptr b1 0),(2,.bool y.1.2.2),(3,I ((y.1.1:Int)-1))]) (λy w'=>y.1.1<=s.fin-1/\Y6 T.g G.g.length s.num s.ord y.1.1 y.1.2=D/\DwK G.g root s.num par y.1.2.1 j y.1.1/\(∃txt' K',S0 (VT T.k root) G T Q txt' K' (λb=>H b\/ .mk b∈y.2) rr O_ a L {s with cand:=y.1.2.1} w'/\K'+y.1.1<=K+(s.fin-1)/\∀y:Int,y<(a:Int)\/(a:Int)+(L:Int)<=y->txt' y=txt y)/\Pm w' b1 [ptr rr 0] 44/\Kp (λb=>¬X b) w w'/\MkN w1.heap.size y.2 w'/\w1.heap.size<=w'.heap.size) (λy=>y.1.1) (by repeat (first|exact Sub.nil|refine Sub.cons O ?_)) ?hI ?hround
 case hI=>exact⟨y02 _,Jl,⟨z.n,by
   have:=DsK.begin hT z.i z.p;rw[show s.fin-1=nF s.num root by omega]
   exact this,z.c⟩,⟨txt,K,h1.less (λj B=>B.elim id (λe=>by cases e)) ⟨.inl V.1,.inl V.2.1,.inl V.2.2.1,.inl V.2.2.2.1,.inl V.2.2.2.2.1,.inl V.2.2.2.2.2⟩ (λb Z=> .inl (vJ b Z)),y02 _,λ_ _=>rfl⟩,aj,ad.kp,MkN.nil _ _,y02 _⟩
 case hround =>
  rintro⟨⟨m,p⟩,ms⟩ w2 ⟨hm,Cc,wX,⟨R,K2,h2,sZ,gK⟩,ak,am,gU,na⟩ ih;dsimp only at hm Cc wX h2 sZ gU ih⊢
  have Jm:∀D,.mk D∈ms->¬H D:=λD z e=>by
   have:=gU.lo D z;have:=o4 D e;omega
  try dsimp only
  refine Qi O ?_;rcases y0y m with Aq|Aq
  ·subst Aq;refine Uj O<|Qb<|P4<|P9 O<|Pf O<|PL O<|Pq O ?_;have OQ:∀D,.mk D∈ms->D≠b1:=λD z e=>Jm D z (e▸di);have eW:=z1B ms w2;have h3:=h2.own eW (λj e=>⟨.inr e,by have:=gU.lo j e;have:=cA j ω;exact this⟩);refine z4o gU.nd gU.m func81 O ?_;rw[show Y6 T.g G.g.length s.num s.ord 0 p=p from rfl] at Cc;subst Cc;exact⟨_,O,O,⟨R,K2,h3.less (λj B=> .inl (f9 j B)) h.xk h.xr,ω,gK⟩,(am.Pk λb e=> .inl e).trans (eW.Pk λb e=> .inl λC=>by have:=gU.lo b e;have:=bS b C;omega)⟩
  ·obtain⟨k,rfl⟩:∃k,m=k+1:=⟨m-1,ω⟩;rw[show((k+1:Nat):Int)-1=(k:Int) by omega];refine Uj O<|RO ?_;obtain⟨fL,kV⟩:=hF.d k ω;obtain⟨v,hv⟩:∃v,s.ord[k]? =some v:=⟨_,y03 ω⟩;have AX:s.ord.getD k 0=v:=XK hv;obtain⟨cand,bb⟩:=p;have gR:=DwK.one (b:=bb) eV hT hF lH (k:=k) ω wX hr
   have pj:dsV T.g G.g.length s.num s.ord (cand,bb) k=if Tm cand v=dsC T.g G.g.length s.num cand v then(cand,bb) else(cand.set v (dsC T.g G.g.length s.num cand v),true):=by
    unfold dsV;rw[AX]
   rw[AX] at fL kV;have cE:v<G.g.length:=fL.lt eV hr;have Nk:v<T.g.length:=ω
   have rv:Y6 T.g G.g.length s.num s.ord k (dsV T.g G.g.length s.num s.ord (cand,bb) k)=D:=Cc;obtain⟨d1,d2,d3⟩:=gR;have rl:=wX.n;dsimp only at rl;have Jn:nF s.num root<G.g.length:=ω
   have dx:=λps=>FdI.pre (n:=G.g.length) hT wX.k.i Jn ps;refine P4 (Pp O (P5 (R0 (qN O (qV (Pl U44 O O ak O) (Ph O (Px Y4 O (Sv h2 (j:=4) (i:=k) (x:=v) ψ hv) ?_)))))));rintro _ w3⟨rfl,h3,aq⟩;have z3:=aq.size;have ao:=aq.OZ ak (λe=>e (.inl (.inl (.inl di))));have pw:=gU.kp aq (λD z e=>e (.inl (.inl (.inr z))));have cb:Kp (λb=>¬X b) w w3:=am.trans (aq.Pk λb e C=>e (.inl (.inl (.inl (f9 b C)))));refine Ro O<|Pb O O (S5 (cs:=[_]) Qe O) ?_;rintro _ w4⟨b5,rfl,gp,ay,aF⟩;refine Po O (QZ Qe O O O aF ξ) ?_;rintro w5⟨aD,ai⟩;replace aD:Pm w5 b5 [I ((4294967295:Nat):Int)] 3:=aD;have z4:=ay.size;have z5:=ai.size;have l4:=aF.lt;have bL:Ext w3 w5:=ay.It ai λb e=>ω
   have dK:=bL.OZ ao;have h5:=h3.ext bL;have qI:=pw.kp bL.kp (S:=λ_=>False) (λ_ _ e=>e);obtain⟨a2,vK⟩:=h5.dm;have ie:=vK.cells;refine P4<|OY<|qN O<|qV (Pl U44 O O dK O)<|PQ O<|Pr zdz O<|qV (Pl U28 O O ie O)<|Ph O<|Px zft O (z26 T.k v _) ?_;rintro _ M⟨bk,bi,rfl,qu,wV,g8,sH,aM⟩;have z6:=aM.size;refine P4<|P6<|Tb (ps:=[27,28]) (p:=[]) (q:=[_,_]) O zfl ?_;rintro l wl eg fM cO C1 Rc P eu;have zl:=eg.size;have ft:=aM.trans eg;obtain⟨U,fu⟩:∃U:Nat->Prop,(λj=>(H j\/ .mk j∈ms)\/j=b5\/j=M.heap.size\/j=l)=U:=⟨_,O⟩;have fB:∀j,(H j\/ .mk j∈ms)->U j:=λj B=>by rw[<-fu];exact .inl B
   have W:U b5/\U M.heap.size/\U l:=by rw[<-fu];exact⟨.inr (.inl O),.inr (.inr (.inl O)),.inr (.inr (.inr O))⟩
   have oK:∀j,H j->U j:=λj B=>fB j (.inl B);have vL:∀j,X j->U j:=λj B=>oK j (f9 j B);have vM:∀D,.mk D∈ms->U D:=λD z=>fB D (.inr z)
   have sL:∀j,w.heap.size<=j->j≠T.k/\j≠T.x/\j≠G.k/\j≠G.x/\j≠1/\j≠2/\¬O_ j:=λj B=>by
    obtain⟨q1,q2,q3,q4,q5,q6,q7⟩:=cA j B;exact⟨q3,q4,q1,q2,q5,q6,q7⟩
   have Fn:S0 (VT T.k root) G T Q R K2 (λb=>(H b\/ .mk b∈ms)\/b=b5) rr O_ a L {s with cand:=cand} w5:=h3.grow bL (λj B=>B.imp id λe=>ω) (λj B=> .inl B);have GR:S0 (VT T.k root) G T Q R K2 U rr O_ a L {s with cand:=cand} wl:=Fn.grow ft (λj B=>by rw[<-fu] at B;rcases B with e|e|e;exact .inl (.inl e);exact .inl (.inr e);exact .inr ω) (λj B=>by rw[<-fu];exact B.imp id .inl);have vN:=GR.z8M ru;have mn:Kp (λb=>¬X b) w wl:=cb.trans (bL.trans ft).kp;have Ha:=ft.OZ dK;have Hb:=ft.OZ aD;have wH:=qI.kp ft.kp (S:=λ_=>False) (λ_ _ e=>e);have kN:∀D,.mk D∈ms->D≠l/\D≠b5/\D≠b1:=λD z=>⟨λe=>by have:=pw.hi D z;omega,λe=>by have:=pw.hi D z;omega,λe=>Jm D z (e▸di)⟩
   refine PN.mono (z3k Nk vN (eg.OZ qu) (eg.OZ wV) (λj=>j=l\/j=b5) (λj B=>by
     rcases B with rfl|rfl
     ·exact W.2.2
     ·exact W.1)
    (λi txt' K' s' w'=>Rc .ready none w'/\txt'=R/\K'=K2/\s'={s with cand:=cand}/\w'.heap[M.heap.size]? =some (.deferred (some []))/\(Pm w' b1 [ptr rr 0] 44/\Pm w' b5 [I ((((Pa T.g v).take i).foldl (meS G.g.length s.num cand) 4294967295:Nat):Int)] 3)/\MkN w1.heap.size ms w'/\Kp (λb=>¬X b) w w')
    (λ_ _ _ _=>False) ?_ ?_) ?_
   ·intro w7 hz eL;have ci:∀{j},U j->¬¬U j:=λB e=>e B;exact⟨eL.rc P eu (ci W.2.2),O,O,O,eL.heap C1 (ci W.2.1),⟨eL.OZ Ha (ci (oK _ di)),eL.OZ Hb (ci W.1)⟩,wH.kp eL (λD z e=>e (vM D z)),mn.trans (eL.Pk λb e C=>e (vL b C))⟩
   ·rintro Y i u txt' K' s' w7 N kI a3 hs h7⟨AN,rfl,rfl,rfl,GY,⟨Hc,kJ⟩,Fv,ni⟩;have E:Y l/\Y b5/\Y b1/\Y M.heap.size:=⟨N _ W.2.2,N _ W.1,N _ (oK _ di),N _ W.2.1⟩;have wY:∀D,.mk D∈ms->Y D:=λD z=>N _ (vM D z);have kK:∀j,X j->Y j:=λj B=>N j (vL j B);have mV:u<G.g.length:=by have:=Sa H9 v u (y0j hs);omega
    have eM:((Pa T.g v).take (i+1)).foldl (meS G.g.length s.num cand) 4294967295=meS G.g.length s.num cand (((Pa T.g v).take i).foldl (meS G.g.length s.num cand) 4294967295) u:=by
     rw[Qa hs,y1P];rfl
    rw[eM];have mL:=dx ((Pa T.g v).take i);have ff:=mL.le;obtain⟨c,hc⟩:∃c,((Pa T.g v).take i).foldl (meS G.g.length s.num cand) 4294967295=c:=⟨_,O⟩;rw[hc] at kJ mL ff⊢;obtain⟨x,hx⟩:∃x,cand[u]? =some x:=⟨_,y03 ω⟩;have dQ:=z1d hx;refine Uo P AN O O<|Re O<|Pc O<|Pq O<|run_beginRound O P AN ?_;rintro w8 wQ aH;have h8:=(h7.own aH (λj e=>by subst e;exact⟨E.1,sL _ ω⟩)).zf7 dZ;have AZ:=aH.OZ Hc ω;have rk:=aH.OZ kJ ω;have Nl:=Fv.kp aH (λD z e=>(kN D z).1 e);have Cb:=aH.heap GY ω;have z8:=aH.size;have j9:Kp (λb=>¬X b) w w8:=ni.trans (aH.Pk λj e C=>by have:=bS j C;omega);refine P6<|PL O<|Px z6M O (Tn _) ?_;rintro _ w8 rfl;refine P4 (P6 (qN O (qV (Pl U44 O O AZ O) (Ph O (qV (Q8 O R9 U3 ω) (Px Y4 O (Sv h8 (j:=2) (i:=u) (x:=x) ψ hx) ?_))))));rintro _ w9⟨rfl,h9,aN⟩;have kL:∀{j},Y j->¬¬ZI G T Y j:=λB e=>e (.inl (.inl B));have rx:=aN.OZ AZ (kL E.2.2.1);have kM:=aN.OZ rk (kL E.2.1);have mw:=Nl.kp aN (λD z e=>kL (wY D z) e);have AU:=aN.heap Cb (kL E.2.2.2);have vD:=aN.rc P wQ (kL E.1);have iS:Kp (λb=>¬X b) w w9:=j9.trans (aN.Pk λb e C=>e (.inl (.inl (kK b C))));have oI:Kp (λb=>(¬Y b/\b≠G.rb)\/b=l\/b=b5) w7 w9:=(aH.Pk λj e=> .inr (.inl e)).trans (aN.Pk λj e=> .inl ⟨λC=>e (.inl (.inl C)),λC=>e (.inr C)⟩);by_cases lE:x=4294967295
    ·have Nm:meS G.g.length s.num cand c u=c:=zda (by rw[dQ];exact lE);rw[Nm];refine Rx O<|RO<|Pq O<|PM.qb (e:=[(1,_),(2,_),(5,_),(6,_),(36,_)]) ?_;refine Pp O<|P5<|An<|An<|T2 P vD ?_;intro wd jm F;exact⟨.inl ⟨O,txt',K',_,(h9.own F (λj e=>by subst e;exact⟨E.1,cA _ ω⟩)).z8M ru,jm,O,O,O,F.heap AU ω,⟨F.OZ rx ω,F.OZ kM ω⟩,mw.kp F (λD z e=>(kN D z).1 e),iS.trans (F.Pk λj e C=>by have:=bS j C;omega)⟩,oI.trans (F.Pk λj e=> .inr (.inl e))⟩
    ·have vO:Tm cand u≠4294967295:=by rw[dQ];exact lE
     refine Rx O<|Qb<|Pq O<|PM.qb (e:=[(1,_),(2,_),(5,_),(6,_),(36,_)]) ?_;refine P9 O<|qN O<|qV (Pl U3 O O kM O) ?_;by_cases ry:c=4294967295
     ·subst ry;rw[za8 vO];refine Rx O (RO (Pq O (Pp O (Ra O (qV (Q8 O R9 U3 ω) (Po O (QZ Qe O O O kM ξ) ?_))))));rintro wa⟨oJ,J⟩;have ha:=h9.own J (λj e=>by subst e;exact⟨E.2.1,cA _ ω⟩);have Hd:=J.rc P vD ω;refine P4<|An<|An<|T2 P Hd ?_;intro wd jm F;exact⟨.inl ⟨O,txt',K',_,(ha.own F (λj e=>by subst e;exact⟨E.1,cA _ ω⟩)).z8M ru,jm,O,O,O,F.heap (J.heap AU ω) ω,⟨F.OZ (J.OZ rx ω) ω,F.OZ oJ ω⟩,(mw.kp J (λD z e=>(kN D z).2.1 e)).kp F (λD z e=>(kN D z).1 e),(iS.trans (J.Pk λj e C=>by have:=bS j C;omega)).trans (F.Pk λj e C=>by have:=bS j C;omega)⟩,(oI.trans (J.Pk λj e=> .inr (.inr e))).trans (F.Pk λj e=> .inr (.inl e))⟩
     ·obtain⟨c',ku,dL⟩:=zbw hT wX.k.i Jn (mL.ok ry) vO ry;rw[dL];refine Rx O (Qb (Pq O (P9 O (Pc O (qV (Pl U44 O O rx O) (qV (Pl U3 O O kM O) (Ph O (qV (Q8 O R9 U3 ω) (Px zhf O (z6Z h9 hT.n wX.k.i.fo hr sh rl (mL.ok ry) vO ku) ?_)))))))));rintro _ wa⟨rfl,ha,J⟩;have He:=J.OZ rx (kL E.2.2.1);have oJ:=J.OZ kM (kL E.2.1);have Nn:=mw.kp J (λD z e=>kL (wY D z) e);have No:=J.heap AU (kL E.2.2.2);have Hd:=J.rc P vD (kL E.1);have Hf:Kp (λb=>¬X b) w wa:=iS.trans (J.Pk λb e C=>e (.inl (.inl (kK b C))));have Hg:Kp (λb=>(¬Y b/\b≠G.rb)\/b=l\/b=b5) w7 wa:=oI.trans (J.Pk λj e=> .inl ⟨λC=>e (.inl (.inl C)),λC=>e (.inr C)⟩);refine Po O (QZ Qe O O O oJ ξ) ?_;rintro wb⟨vE,cY⟩;have Z:=ha.own cY (λj e=>by subst e;exact⟨E.2.1,cA _ ω⟩);have yo:=cY.rc P Hd ω;refine P4<|An<|An<|T2 P yo ?_;intro wd jm F;exact⟨.inl ⟨O,txt',K',_,(Z.own F (λj e=>by subst e;exact⟨E.1,cA _ ω⟩)).z8M ru,jm,O,O,O,F.heap (cY.heap No ω) ω,⟨F.OZ (cY.OZ He ω) ω,F.OZ vE ω⟩,(Nn.kp cY (λD z e=>(kN D z).2.1 e)).kp F (λD z e=>(kN D z).1 e),(Hf.trans (cY.Pk λj e C=>by have:=bS j C;omega)).trans (F.Pk λj e C=>by have:=bS j C;omega)⟩,(Hg.trans (cY.Pk λj e=> .inr (.inr e))).trans (F.Pk λj e=> .inr (.inl e))⟩
   ·rintro v' wz⟨rfl,Y,a1,Kz,sz,N,kI,hz,⟨AV,rfl,rfl,rfl,AW,⟨Hc,kJ⟩,Np,dM⟩|Nq⟩
    ·refine⟨_,_,AV,ξ,λwy dX=>?_⟩;rw[y0F] at kJ;have wZ:(Pa T.g v).foldl (meS G.g.length s.num cand) 4294967295=dsC T.g G.g.length s.num cand v:=rfl;rw[wZ] at kJ;have im:=(dx (Pa T.g v)).le;rw[wZ] at im;obtain⟨dc,Hh⟩:∃dc,dsC T.g G.g.length s.num cand v=dc:=⟨_,O⟩;rw[Hh] at kJ im pj;have zz:=dM.size;have zy:=dX.size;have B0:=dX.OZ Hc ω;have mE:=dX.OZ kJ ω;have qC:=dX.heap AW ω;have Nr:=Np.kp dX (λD z e=>(kN D z).1 e);have E:Y l/\Y b5/\Y b1/\Y M.heap.size:=⟨N _ W.2.2,N _ W.1,N _ (oK _ di),N _ W.2.1⟩;have wY:∀D,.mk D∈ms->Y D:=λD z=>N _ (vM D z);have kK:∀j,X j->Y j:=λj B=>N j (vL j B);have hy:=(hz.own dX (λj e=>by subst e;exact⟨E.1,sL _ ω⟩)).zf7 dZ;have Hi:Kp (λb=>¬X b) w wy:=dM.trans (dX.Pk λj e C=>by have:=bS j C;omega);obtain⟨x,hx⟩:∃x,cand[v]? =some x:=⟨_,y03 ω⟩;have dQ:=z1d hx;rw[dQ] at pj;have hg:=Ext.Pz wy;have A:∀{j},Y j->¬¬ZI G T Y j:=λB e=>e (.inl (.inl B));refine An (OY (RI (λw'=>Kp (λb=>¬ZI G T Y b) wy w') O (qT 0 O (λ_ hS=>(Pl U44 O O (hS.OZ B0 (A E.2.2.1)) O)) hg.kp (Pu 1 O O hg.kp (qT 3 O (λ_ hS=>(Pl U3 O O (hS.OZ mE (A E.2.1)) O)) hg.kp (Tl 2 O Y4 O (Sv (hy.ext hg) (j:=2) (i:=v) (x:=x) ψ hx) ?_))))));rintro _ we⟨rfl,he,rz⟩;refine⟨hg.kp.trans rz,?_⟩;have jG:Kp (λb=>¬ZI G T Y b) wy we:=hg.kp.trans rz;have B1:Kp (λb=>¬X b) w we:=Hi.trans (jG.Pk λb e C=>A (kK b C) e);have vP:=jG.OZ B0 (A E.2.2.1);have Hj:=jG.OZ mE (A E.2.1);have Jo:=jG.heap qC (A E.2.2.2);have Jp:=Nr.kp jG (λD z e=>A (wY D z) e)
     have ze:M.heap.size<we.heap.size:=by
      have:=jG.size;have:=hy.lt _ (.inl (.inl E.2.2.2));omega
     have wT:=qI.kp (aM.kp (S:=λ_=>False)) (λ_ _=>id)
     have Ax:∀j,(H j\/ .mk j∈(.mk M.heap.size::ms))->Y j:=λj B=>by
      rcases B with e| e
      ·exact N _ (oK _ e)
      ·rcases y0l.1 e with e| e
       ·cases e;exact E.2.2.2
       ·exact wY j e
     have Jq:(H G.k\/ .mk G.k∈(.mk M.heap.size::ms))/\(H G.x\/ .mk G.x∈(.mk M.heap.size::ms))/\(H T.k\/ .mk T.k∈(.mk M.heap.size::ms))/\(H T.x\/ .mk T.x∈(.mk M.heap.size::ms))/\(H 1\/ .mk 1∈(.mk M.heap.size::ms))/\(H 2\/ .mk 2∈(.mk M.heap.size::ms)):=⟨.inl V.1,.inl V.2.1,.inl V.2.2.1,.inl V.2.2.2.1,.inl V.2.2.2.2.1,.inl V.2.2.2.2.2⟩;by_cases AY:x=dc
     ·rw[if_pos AY] at pj;rw[pj] at rv d1;refine P7 4 O (yne O O) (hg.kp.trans rz)<|TJ<|qE<|Tj O<|An<|Ra O<|RR O<|Pq O ?_;exact(ih ((k,(cand,bb)),.mk M.heap.size::ms) we ⟨by show k<=s.fin-1;omega,rv,d1,⟨a1,Kz,he.less Ax Jq (λb Z=> .inl (vJ b Z)),by show Kz+k<=_;omega,gK⟩,vP,B1,wT.cons ω Jp Jo ze,ω⟩ (by show k<k+1;omega)).qb
     ·rw[if_neg AY] at pj;rw[pj] at rv d1;refine P7 4 O (yne O O) (hg.kp.trans rz) (TW (qE (Pp O (qN O (qV (Pl U44 O O vP O) (Ph O (qV (Pl U3 O O Hj O) (Px z5r O (TF he ω (j:=2) (i:=v) (x:=dc) ψ (by show v<cand.length;omega) (by rcases im with h|h;exact h▸ψ;exact Nat.lt_trans h (by rw[rl];omega))) ?_))))))));rintro _ wf⟨a0,hf,Ns,cJ⟩;have Hk:=cJ.OZ vP (A E.2.2.1);have Nt:=cJ.heap Jo (A E.2.2.2);have Nu:=Jp.kp cJ (λD z e=>A (wY D z) e);have zf:=cJ.size;have uF:Kp (λb=>¬X b) w wf:=B1.trans (cJ.Pk λb e C=>A (kK b C) e);refine P4<|Pc O<|Pq O<|An<|Ra O<|RR O<|Pq O ?_;exact(ih ((k,(cand.set v dc,true)),.mk M.heap.size::ms) wf ⟨by show k<=s.fin-1;omega,rv,d1,⟨a0,Kz+1,hf.less Ax Jq (λb Z=> .inl (vJ b Z)),by show Kz+1+k<=_;omega,λy e=>(Ns y e).trans (gK y e)⟩,Hk,uF,wT.cons ω Nu Nt ω,ω⟩ (by show k<k+1;omega)).qb
    ·exact Nq.elim
end
section
def z0f {u v:Nat}(h:QJ g):u∈Pa (QO g) v↔v∈Pa g u:=by
 have l:∀x y,y∈Pa g x->x<g.length/\y<g.length:=λx y b=>by
  unfold Pa at b;by_cases e:x<g.length
  ·rw[y03 e] at b;exact⟨e,h.lt _ (y1d e) y b⟩
  ·rw[y0e ω] at b;cases b
 by_cases m:v<g.length
 ·have e:Pa (QO g) v=(List.range g.length).filter λx=>decide (v∈Pa g x):=by
   show((QO g)[v]?.getD [])=_;rw[z0k g m];rfl
  rw[e,y1a,y0H];exact⟨λe=>of_decide_eq_true e.2,λe=>⟨(l u v e).1,decide_eq_true e⟩⟩
 ·have e:Pa (QO g) v=[]:=by
   show((QO g)[v]?.getD [])=_;rw[y0e (by rw[Sn];omega)];rfl
  rw[e];exact⟨λe=>(by cases e),λe=>absurd (l u v e).2 m⟩
end
section
variable {P:Program}{e:Env}{t t' ty:TypeId}{d:Option Tmp}{x:Operand}{pos:String}{aft:Array Edge}{g:Option (Nat×Bool)}
def zjh {ms:Array (String×TypeId)}(ht:P.underlying t=some (.interface ms))(u:look e x=some .nilIface):Y P e ⟨d,.binOp .eql t x (.const .nilIface) t',ty,pos,aft,g⟩ (.bool true) w w:=fun ρ b=>by
 have h:(Op.equal t .nilIface .nilIface).run P w= .ok true w:=by
  have r:∀n,(Op.equalIn (n+1) t .nilIface .nilIface).run P w= .ok true w:=λn=>by simp[Op.equalIn,run_underlying ht]
  exact r 9999
 have l:eqGuard .eql t x (.const .nilIface) .nilIface .nilIface=pure ():=by cases x<;>rfl
 have m:binOp .eql t .nilIface .nilIface=(do pure (.bool (<-Op.equal t .nilIface .nilIface))):=rfl
 have q:ρ (.const .nilIface)= .nilIface:=b _ _ O
 simp only[execOp,b _ _ u,q,l,m,pure_bind,y06,h,Result.andThen,y04]
end
def DmS.go (g t:List (List Nat))(root:Nat)(s:DmS):DmS:=
 if s.Ru then {s with cand:=(Y6 t g.length s.num s.ord (s.fin-1) (s.cand,false)).1,done:= !(Y6 t g.length s.num s.ord (s.fin-1) (s.cand,false)).2}
 else if(s.QP g 64).Pv=0 then {s.QP g 64 with Ru:=true,cand:=(s.QP g 64).cand.set root root}
 else s.QP g 64
section
variable {root v:Nat}{s s':DmS}
theorem zaH:(s.go g t root).steps=s.steps:=by
 unfold DmS.go
 have b:=(VI (g:=g) 64 (s:=s)).1
 split
 ·rfl
 ·split
  ·exact b
  ·exact b
theorem z4K:s.step g t root={s.go g t root with steps:=s.steps+1}:=by
 unfold DmS.step DmS.go
 split
 ·rfl
 ·split
  ·rfl
  ·rfl
theorem z7P (h:S0 (VT T.k root) G T Q txt K X rr O_ a L s w)(hJ:DmJ G.g root s)(hd:s.done=false)(ht:T.g=QO G.g)(hr:root<G.g.length)(hK:K<=600000000000):PN prog 47 [ptr rr 0] w λ_ w'=>DmW G T Q txt K X rr root O_ a L 400 (s.go G.g T.g root) w w':=by
 have dZ:=h.m.n
 have A:=h.m.g.ok.gr
 have lH:∀u v,u∈Pa T.g v↔v∈Pa G.g u:=λu v=>by rw[ht];exact z0f A
 have GG:T.g.length=G.g.length:=by rw[ht];exact Sn _
 obtain⟨a0,a4,a5,a6,a1⟩:=hJ.ls
 obtain⟨vb,hV⟩:=h.dm
 have hR:=hV.cells
 refine py (e:=[(0,_)]) func47 O ntmps47 O O<|Qi O<|PQ O<|Pr RA O<|Pr zca O<|qV (Pl U4 O O hR O)<|P4 ?_
 cases M:s.Ru with
 | true =>
   obtain⟨par,j,hT,hF,-,-,-,hI,-⟩:=hJ.sw M
   have f:s.go G.g T.g root={s with cand:=(Y6 T.g G.g.length s.num s.ord (s.fin-1) (s.cand,false)).1,done:= !(Y6 T.g G.g.length s.num s.ord (s.fin-1) (s.cand,false)).2}:=by
    unfold DmS.go;rw[if_pos M]
   rw[f];refine Pp O (QG O (Px zlu O (z4v h ω hT hF hI hr lH GG a0 a1) ?_));rintro _ w1⟨rfl,hW⟩;obtain⟨⟨q,R,C,Bq,Z⟩,S⟩:=hW;obtain⟨a2,E⟩:=C.dm;have V:=E.cells;refine qV (SD O) (PQ O (Pr RA O (Pr z42 O (Po O (QZ TZ O O O V ξ) ?_))));rintro w2⟨F,z⟩;have l:=C.zbU (s':={s with cand:=(Y6 T.g G.g.length s.num s.ord (s.fin-1) (s.cand,false)).1,done:= !(Y6 T.g G.g.length s.num s.ord (s.fin-1) (s.cand,false)).2}) E z F (Zq O O O O O);refine P4<|P3 func47 O ?_
   exact⟨_,O,⟨q,R,l,ω,Z⟩,S.trans (z.Pk λb e=> .inr (by rw[e];exact E.o.1))⟩
 | false =>
   obtain⟨-,hI,hh,-⟩:=hJ.se M;refine Tj O<|OY<|Re O<|P6<|Ss (λe' w'=>e'=[(0,ptr rr 0)]/\(∃txt' K',S0 (VT T.k root) G T Q txt' K' X rr O_ a L (s.QP G.g 64) w'/\K'<=K+5*64/\∀y:Int,y<(a:Int)\/(a:Int)+(L:Int)<=y->txt' y=txt y)/\Kp (λb=>¬X b\/O_ b) w w') ?hk<|λhk=>?Jr
   case hk=>
    rintro e' w1⟨rfl,⟨q,R,C,Bq,Z⟩,S⟩;obtain⟨kz,-⟩:=Y1.QP A 64 hI;have Hm:(s.QP G.g 64).cand.length=G.g.length:=by rw[kz.cn];exact y08
    have Hn:(s.QP G.g 64).Ru=false:=(VI (g:=G.g) 64 (s:=s)).2.1.trans M
    have f:s.go G.g T.g root=if(s.QP G.g 64).Pv=0 then {s.QP G.g 64 with Ru:=true,cand:=(s.QP G.g 64).cand.set root root} else s.QP G.g 64:=by
     unfold DmS.go;rw[M];rfl
    rw[f];obtain⟨J,dU⟩:∃J,s.QP G.g 64=J:=⟨_,O⟩;rw[dU] at C Hm Hn⊢;obtain⟨a2,E⟩:=C.dm;have V:=E.cells;refine PL O<|PQ O<|Pr RA O<|Pr WZ O<|qV (Pl U3 O O V O) ?_;by_cases sy:J.Pv=0
    ·rw[if_pos sy];refine Rx O (RO (P4 (Pp O (PL O (PQ O (Pr RA O (Pr zca O (Po O (QZ TZ O O O V ξ) ?_))))))));rintro w2⟨F,z⟩;have l:=C.zbU (s':={J with Ru:=true}) E z F (Zq O O O O O);obtain⟨a3,H⟩:=l.dm;have B2:=H.cells;have hg:=Ext.Pz w2;refine P4 (RI (λw'=>Kp (λb=>¬ZI G T X b) w2 w') O (Pu 0 O O hg.kp (Pu 1 O O hg.kp (P7 2 O (QL O) hg.kp (P7 3 O (PU z9g O) hg.kp (qT 4 O (λ_ hS=>Pl U3 O O (hS.OZ B2 (λe=>e (.inl (.inl (l.xr _ H.o.1))))) O) hg.kp (Pu 5 O O hg.kp (P7 6 O (QL O) hg.kp (P7 7 O (PU z9g O) hg.kp (qT 8 O (λ_ hS=>Pl U3 O O (hS.OZ B2 (λe=>e (.inl (.inl (l.xr _ H.o.1))))) O) hg.kp (Tl 9 O z5r O (TF (l.ext hg) ω (j:=2) (i:=root) (x:=root) ψ (by show root<J.cand.length;omega) ω) ?_)))))))))));rintro _ w3⟨r,h3,rf,U⟩;refine⟨hg.kp.trans U,?_⟩;refine qE<|Qu func47 O ?_;exact⟨_,O,⟨r,R+1,h3,ω,λy e=>(rf y e).trans (Z y e)⟩,(S.trans (z.Pk λb e=> .inr (by rw[e];exact E.o.1))).trans ((hg.kp.trans U).Pk λb e=> .inl λe2=>e (.inl (.inl e2)))⟩
    ·rw[if_neg sy];refine Rx O<|Qb<|QC O<|Qu func47 O ?_;exact⟨_,O,⟨q,R,C,ω,Z⟩,S⟩
   case Jr=>
    refine RX (α:=Nat×DmS) (0,s) (λy=>[(0,ptr rr 0),(2,I (y.1:Int))]) (λy w'=>y.1<=64/\DmS.QP G.g (64-y.1) y.2=s.QP G.g 64/\Y1 G.g root y.2/\(∃txt' K',S0 (VT T.k root) G T Q txt' K' X rr O_ a L y.2 w'/\K'<=K+5*y.1/\∀y:Int,y<(a:Int)\/(a:Int)+(L:Int)<=y->txt' y=txt y)/\Kp (λb=>¬X b\/O_ b) w w') (λy=>64-y.1) ?hI ?hround
    case hI=>exact⟨y00 _,O,hI,⟨txt,K,h,y02 _,λ_ _=>rfl⟩,Kp.refl _ _⟩
    case hround=>
     rintro⟨i,D⟩ w2 ⟨hi,W,p,⟨B,K2,l,sZ,gK⟩,z⟩ ih;dsimp only at hi W p l sZ ih⊢;obtain⟨a3,H⟩:=l.dm;have F:=H.cells
     try dsimp only
     refine Qi O ?_;by_cases Nv:i<64
     ·have c:(if 0<D.Pv then(D.move G.g).QP G.g (64-(i+1)) else D)=s.QP G.g 64:=by
       rw[<-W,show 64-i=(64-(i+1))+1 by omega];rfl
      refine QY O<|RO<|PB O<|PQ O<|Pr RA O<|Pr WZ O<|qV (Pl U3 O O F O) ?_;by_cases N:0<D.Pv
      ·rw[if_pos N] at c;refine R8 O (RO (Rr O (P4 (Pp O (P5 (R0 (Ra O (Px zlG O (z7u l p N ω) ?_))))))));rintro _ w3⟨⟨r,K3,h3,OR,rf⟩,U⟩;obtain⟨yP,-⟩:=p.move A N;refine P4<|An<|Ra O<|Qj O<|Pq O ?_;exact(ih (i+1,D.move G.g) _ ⟨by show i+1<=64;omega,c,yP,⟨r,K3,h3,by show K3<=K+5*(i+1);omega,λy e=>(rf y e).trans (gK y e)⟩,z.trans U⟩ (by show 64-(i+1)<64-i;omega)).qb
      ·rw[if_neg N] at c;subst c;refine R8 O<|Qb<|Rr O<|P4<|P9 O<|Pf O ?_;exact(hk _ _ ⟨O,⟨B,K2,l,ω,gK⟩,z⟩).qb
     ·have dw:64-i=0:=ω
      rw[dw,show DmS.QP G.g 0 D=D from rfl] at W;subst W;refine QY O<|Qb<|Ph O<|QV<|QV<|QV<|Ql O<|P4<|P9 O<|Pf O ?_;exact(hk _ _ ⟨O,⟨B,K2,l,ω,gK⟩,z⟩).qb
end
def Zb (w:World):PN prog 40 [.nilIface] w λv w'=>v=I 0/\w'=w:=by
 refine py (e:=[(0,_)]) func40 O ntmps40 O O<|qN O<|Rq O<|P4<|P6<|qN O<|qV (zjh U20 O)<|P4<|Pp O<|qN O<|Ro O<|Pq O<|P3 func40 O ?_
 exact⟨_,O,O,O⟩
section
variable {root:Nat}{s s':DmS}
def z4a {b3:Nat}:z7o prog 46 [ptr b1 0,ptr b2 0,ptr b3 0] w λu w'=>w'=w:=by
 refine Zd (e:=[(0,_),(1,_),(2,_)]) func46 O ntmps46 O O O O O O O O O O<|Px zjn O (Zb _) ?_
 rintro _ w⟨rfl,rfl⟩
 refine Rq O<|R5 O<|QC O<|z2e O O O func46<|λa b=>⟨_,TC b _ _ _ _ O,?_⟩
 exact⟨_,O,O⟩
theorem z5q (h:S0 (VT T.k root) G T Q txt K X rr O_ a L s w)(hJ:DmJ G.g root s)(ht:T.g=QO G.g)(hr:root<G.g.length)(hK:K<=600000000000)(hd:s.done=false)(ky:s.steps<=1000000000000):PN prog 15 [ptr rr 0] w λr w'=>r= .tuple #[.bool (s.step G.g T.g root).done,I 0]/\(∃txt' K',S0 (VT T.k root) G T Q txt' K' X rr O_ a L (s.step G.g T.g root) w'/\K'<=K+400/\∀y:Int,y<(a:Int)\/(a:Int)+(L:Int)<=y->txt' y=txt y)/\Kp (λb=>¬X b\/O_ b) w w':=by
 obtain⟨vb,hV⟩:=h.dm
 have hR:=hV.cells
 have vz:=h.xr _ hV.o.1
 have E:∀b,X b->b<w.heap.size:=λb hb=>h.lt b (.inl (.inl hb))
 have Bt:=E _ vz
 have A:=h.far
 refine py (e:=[(0,_)]) func15 O ntmps15 O O<|qN O<|Pb O O (RP O (cs:=[ptr rr 0]) O) ?_
 rintro _ w1⟨b1,rfl,bP,p,t⟩
 refine Pb O O (S5 (cs:=[_]) TZ O) ?_
 rintro _ w2⟨b2,rfl,bU,S,C⟩
 refine Pb O O (S5 (cs:=[_]) z5N O) ?_
 rintro _ M⟨b3,rfl,eh,B,D⟩
 replace C:Pm w2 b2 [.bool false] 4:=C
 replace D:Pm M b3 [I 0] 45:=D
 have V:=(p.trans S).trans B
 have z1:=p.size
 have z2:=S.size
 have z3:=B.size
 have l1:=t.lt
 have l2:=C.lt
 have l3:=D.lt
 have F:=B.OZ (S.OZ t)
 have cP:=B.OZ C
 obtain⟨l,Z⟩:∃l:Nat->Prop,(λj=>X j\/j=b1\/j=b2\/j=b3)=l:=⟨_,O⟩
 have W:∀j,X j->l j:=λj n=>by rw[<-Z];exact .inl n
 have x:l b1/\l b2/\l b3:=by rw[<-Z];exact⟨.inr (.inl O),.inr (.inr (.inl O)),.inr (.inr (.inr O))⟩
 have fF:∀j,w.heap.size<=j->¬O_ j:=λj n e=>by have:=E _ (h.xr _ e);omega
 have h3:S0 (VT T.k root) G T Q txt K l rr O_ a L s M:=h.grow V (λj n=>by rw[<-Z] at n;exact n.imp id λe=>ω) W
 have fT:=V.OZ hR
 refine P4<|OY<|qN O<|qV (Pl U44 O O F O)<|Px zk2 O (z0B h3) ?_
 rintro _ M⟨rfl,rfl⟩
 refine Rq O<|R5 O<|P4<|Pn O (λc0=>?_)<|λc0=>?_
 ·exact absurd O c0
 ·refine P5<|OY<|qN O<|qV (Pl U44 O O F O)<|PQ O<|Pr RA O<|Pr z42 O<|qV (Pl U4 O O fT O)<|P4 ?_;rw[hd];refine Tj O<|qN O<|qV (ymf (first:=[]) (caps:=[.tmp 1,.tmp 2,.tmp 3]) O O)<|z6D O O (ydf O)<|qM O<|qV (Pl U44 O O F O)<|Px zlH O (z7P h3 hJ hd ht hr hK) ?_;rintro _ w4 hW;obtain⟨⟨m,i,h4,H8,pC⟩,J⟩:=hW;obtain⟨d,c⟩:=h4.dm
  have ep:Pm w4 rr [I (s.steps:Int),I ((s.go G.g T.g root).fin:Int),I ((s.go G.g T.g root).Pv:Int),.bool (s.go G.g T.g root).Ru,.bool (s.go G.g T.g root).done,ptr G.k 0,ptr T.k 0,I (root:Int),ptr (d 0) 0,ptr (d 1) 0,ptr (d 2) 0,ptr (d 3) 0,ptr (d 4) 0,.bool false,.bool false] 103:=by
   have:=c.cells;rw[zaH] at this;exact this
  have N:∀{j},l j->w.heap.size<=j->¬(¬l j\/O_ j):=λn h e=>e.elim (λe=>e n) (fF _ h);have P:=J.OZ F (N x.1 ω);have eK:=J.OZ cP (N x.2.1 ω);have dv:=J.OZ D (N x.2.2 ω);have Nw:rr≠b1/\rr≠b2/\rr≠b3:=ω
  refine qM O (qV (Pl U44 O O P O) (PQ O (Pr RA O (Pr zd0 O (qV (Pl U3 O O ep O) (Qj O (PQ O (Pr RA O (Pr zd0 O (Po O (QZ Qe O O O ep ξ) ?_))))))))));rintro f⟨H,q⟩;have Ny:(s.step G.g T.g root).done=(s.go G.g T.g root).done:=by rw[z4K]
  have h6:S0 (VT T.k root) G T Q m i l rr O_ a L (s.step G.g T.g root) f:=by
   rw[z4K];exact h4.zbU (s':={s.go G.g T.g root with steps:=s.steps+1}) c q H (Zq O O O O O)
  have iR:=q.OZ P ω;have gY:=q.OZ eK ω;have jc:=q.OZ dv ω;replace H:Pm f rr [I ((s.steps:Int)+1),I ((s.go G.g T.g root).fin:Int),I ((s.go G.g T.g root).Pv:Int),.bool (s.go G.g T.g root).Ru,.bool (s.go G.g T.g root).done,ptr G.k 0,ptr T.k 0,I (root:Int),ptr (d 0) 0,ptr (d 1) 0,ptr (d 2) 0,ptr (d 3) 0,ptr (d 4) 0,.bool false,.bool false] 103:=H;refine P4<|PM.qb (e:=[(1,_),(2,_),(3,_)]) ?_;refine qN O (qV (Pl U44 O O iR O) (PQ O (Pr RA O (Pr z42 O (qV (Pl U4 O O H O) (Po O (QZ TZ O O O gY ξ) ?_))))));rintro w7⟨Hp,U⟩;have jR:=U.OZ jc ω;refine Po O (QZ z5N O O O jR ξ) ?_;rintro w8⟨ns,R⟩;have ym:=R.OZ Hp ω;refine P4<|z0l func15 zkJ (z4a (b1:=b1) (b2:=b2) (b3:=b3)) ?_;rintro u w' rfl;rw[Ny];refine⟨_,.cell1 U4 O O ((ym).cell _) (.cell1 U45 O O ((ns).cell _) .nil),_,O,O,⟨m,i,?_,H8,pC⟩,?_⟩
  ·exact((h6.own U (λj e=>by subst e;exact⟨x.2.1,A _ ω⟩)).own R (λj e=>by subst e;exact⟨x.2.2,A _ ω⟩)).less W h.xk h.xr
  ·have Hq:Kp (λb=>¬l b\/O_ b) M f:=J.trans (q.Pk λb e=> .inr (by rw[e];exact c.o.1));exact(((V.kp.trans (Hq.Pk λb e=>e.imp (λe z=>e (W _ z)) id)).trans (U.Pk λb e=> .inl λz=>by have:=E _ z;omega)).trans (R.Pk λb e=> .inl λz=>by have:=E _ z;omega))
end
structure VsI (G T:YF)(Q:RE)(txt:Int->P8)(K a n:Nat)(X:Nat->Prop)(B i:Nat)(vb:Nat->Nat)(Y:Nat->Prop)(txt':Int->P8)(w':World):Prop where
 g:WG G T (Q.Qq (Qr Q.L a i true)) txt' (K+i) Y w'
 xy:∀j,X j->Y j
 v:∀j,j<i->Wh (Q.Qq (Qr Q.L a i true)) txt' (vb j) 4 (a+j) (List.replicate n 0) w'/\Y (vb j)/\B<=vb j
 ne:∀j,j<i->∀l,l<i->l≠j->vb l≠vb j
 y:∀y:Int,y<(a:Int)\/(a:Int)+5<=y->txt' y=txt y
section
variable {w4:World}{txt4 txt5:Int->P8}{n B v:Nat}{Y:Nat->Prop}
theorem z52 {l:List Bool}{c:Bool}(h:a<=l.length):Qr l a 0 c=l:=by
 refine y0K λi=>?_
 rw[SN ω,if_neg ω]
def z3o {l:List Bool}{a:Nat}(h:Pre l a):∀n,a+n<=l.length->Pre (Qr l a n true) (a+n)
 |0,e=>by rw[z52 ω];exact h
 | n + 1, e => by
   have b:=z3o h n ω;have d:(Qr l a n true).length=l.length:=QE ω;rw[<-z0d ω];exact z1x b ω
theorem VsI.zero (h:WG G T Q txt K X w)(b:a<=Q.L.length):VsI G T Q txt K a n X B 0 vb X txt w:=by
 have e:Q.Qq (Qr Q.L a 0 true)=Q:=by rw[z52 b];rfl
 refine⟨by rw[e];exact h,λ_ e=>e,λj d=>ω,λj d=>ω,λ_ _=>rfl⟩
theorem VsI.own (h:VsI G T Q txt K a n X B i vb Y txt' w)(m:Kp S' w w')(l:∀b,S' b->(Y b/\b≠G.k/\b≠G.x/\b≠T.k/\b≠T.x/\b≠1/\b≠2)/\∀j,j<i->b≠vb j):VsI G T Q txt K a n X B i vb Y txt' w':=
 ⟨h.g.own m λb e=>(l b e).1,h.xy,λj d=>⟨(h.v j d).1.kp m λe=>(l _ e).2 j d O,(h.v j d).2⟩,h.ne,h.y⟩
theorem VsI.next (h:VsI G T Q txt K a n X B i vb Y txt4 w4)(hi:i<5)(U:n<=100)(o:a+5<=Q.L.length)(f:K<=900000000000)(H:Kp (λb=>¬ZI G T Y b) w4 w5)(F:Sp ((Q.Qq (Qr Q.L a i true)).Qq (Qr (Q.Qq (Qr Q.L a i true)).L (a+i) 1 true)) txt5 (K+i+1) (λb=>ZI G T Y b\/b=v) w5)(V:w4.heap.size<=v)(hB:B<=w4.heap.size)(s:Wh ((Q.Qq (Qr Q.L a i true)).Qq (Qr (Q.Qq (Qr Q.L a i true)).L (a+i) 1 true)) txt5 v 4 (a+i) (List.replicate n 0) w5)(z:∀y:Int,y<((a+i:Nat):Int)\/((a+i:Nat):Int)+1<=y->txt5 y=txt4 y)(Z:G.st+G.len<=a)(c:T.st+T.len<=a)(W:Y rr/\rr≠G.k/\rr≠G.x/\rr≠T.k/\rr≠T.x/\rr≠1/\rr≠2):VsI G T Q txt K a n X B (i+1) (λj=>if j=i then v else vb j) (λj=>Y j\/j=v) txt5 w5:=by
 have I:(Qr Q.L a i true).length=Q.L.length:=QE ω
 have e:(Q.Qq (Qr Q.L a i true)).Qq (Qr (Q.Qq (Qr Q.L a i true)).L (a+i) 1 true)=Q.Qq (Qr Q.L a (i+1) true):=by
  rw[show(Q.Qq (Qr Q.L a i true)).L=Qr Q.L a i true from rfl,z0d ω];rfl
 rw[e] at F s
 have J:∀j,Y j->j<w4.heap.size:=λj m=>h.g.lt j (.inl (.inl m))
 have C:∀j,j<i->vb j<v:=λj m=>by have:=J _ (h.v j m).2.1;omega
 have u:(Q.Qq (Qr Q.L a (i+1) true)).L.length=(Q.Qq (Qr Q.L a i true)).L.length:=by
  show(Qr Q.L a (i+1) true).length=(Qr Q.L a i true).length;rw[I,QE ω]
 refine⟨h.g.vec H F V s.lt O u ω Z c (λy e=>z y (.inl ω)) (Kp.refl (S:=λb=>b=rr) _) W,λj e=> .inl (h.xy j e),λj m=>?_,λj m l u M=>?_,λy e=>?_⟩
 ·by_cases D:j=i
  ·subst D;rw[if_pos O];exact⟨s,.inr O,ω⟩
  ·rw[if_neg D];obtain⟨N,E,R⟩:=h.v j ω;refine⟨((N.kp H (λe=>e (.inl (.inl E)))).Uw (λy r d=>?_)).q O u,.inl E,R⟩;rw[y08,Um U] at d;exact z y ω
 ·by_cases r:j=i
  ·rw[if_pos r];by_cases d:l=i
   ·omega
   ·rw[if_neg d];have:=C l ω;omega
  ·rw[if_neg r];by_cases d:l=i
   ·rw[if_pos d];have:=C j ω;omega
   ·rw[if_neg d];exact h.ne j ω l ω M
 ·rw[z y ω,h.y y e]
end
def z4F:z7o prog 39 [ptr b1 0,ptr b2 0] w λu w'=>w'=w:=by
 refine Zd (e:=[(0,_),(1,_)]) func39 O ntmps39 O O O O O O O O O O<|Px zjn O (Zb _) ?_
 rintro _ w⟨rfl,rfl⟩
 refine Rq O<|R5 O<|QC O<|z2e O O O func39<|λa b=>⟨_,TC b _ _ _ _ O,?_⟩
 exact⟨_,O,O⟩
def zcM (g t root i:Nat)(vb:Nat->Nat):List Value:=[I 0,I 0,I 0,.bool false,.bool false,ptr g 0,ptr t 0,I (root:Int),if 0<i then ptr (vb 0) 0 else .pointer none,if 1<i then ptr (vb 1) 0 else .pointer none,if 2<i then ptr (vb 2) 0 else .pointer none,if 3<i then ptr (vb 3) 0 else .pointer none,if 4<i then ptr (vb 4) 0 else .pointer none,.bool false,.bool false]
theorem zaW {g t root v:Nat}(hi:i<5):(zcM g t root i vb).set (0+8+i*1) (ptr v 0)=zcM g t root (i+1) (λj=>if j=i then v else vb j):=by
 obtain rfl|rfl|rfl|rfl|rfl:i=0\/i=1\/i=2\/i=3\/i=4:=ω
 all_goals rfl
section
variable {Y:Nat->Prop}{root v:Nat}{s:DmS}
theorem z9Z (h:WG G T Q txt K X w)(hK:K<=500000000000)(dZ:G.g.length<=40)(au:QJ G.g)(ht:T.g=QO G.g)(dx:Pre Q.L a)(vx:G.st+G.len<=a)(vy:T.st+T.len<=a)(cx:a+5<=Q.L.length)(hr:root<G.g.length):PN prog 14 [ptr Q.s 0,ptr G.k 0,ptr T.k 0,I (root:Int)] w λv w'=>∃(rr:Nat)(O_:Nat->Prop) (txt':Int->P8) (K':Nat),v= .tuple #[ptr rr 0,I 0]/\(∀b,O_ b->w.heap.size<=b)/\K'<=K+12/\S0 (VT T.k root) G T (Q.Qq (Qr Q.L a 5 true)) txt' K' (λb=>X b\/O_ b) rr O_ a 5 (DmS.new G.g.length root) w'/\(∀y:Int,y<(a:Int)\/(a:Int)+5<=y->txt' y=txt y)/\Kp (λb=>¬X b) w w':=by
 have jV:T.g.length=G.g.length:=by rw[ht];exact Sn _
 have Nz:Qp T.g=Qp G.g:=by rw[ht];exact z69 au
 have bS:=h.lt
 have J:=h.xk
 have A:=h.far
 refine py (e:=[(0,_),(1,_),(2,_),(3,_)]) func14 O ntmps14 O O<|qN O<|SO O<|Pb O O (S5 (cs:=[_]) z5N O) ?_
 rintro _ w1⟨z,rfl,EP,ad,rB⟩
 replace rB:Pm w1 z [I 0] 45:=rB
 have z1:=ad.size
 have q1:=rB.lt
 have H:=h.grow ad (λj e=> .inl e) (λj e=>e)
 have j3:=XA H.t
 rw[jV] at j3
 have dj:=z8m H.t
 rw[Nz] at dj
 refine P4<|R0<|PL O<|qV (Qz XZ O O)<|PB O<|qV (Qz U28 O O)<|Ql O<|PB O<|qV (Qz U28 O O)<|Ql O<|Pq O<|P9 O<|PL O<|Px za4 O (XA H.g) ?_
 rintro _ w1⟨rfl,rfl⟩
 refine Ph O<|Px za4 O j3 ?_
 rintro _ w1⟨rfl,rfl⟩
 refine R5 O<|Qb<|PB O<|Px zhO O (z8m H.g) ?_
 rintro _ w1⟨rfl,rfl⟩
 refine Ph O<|Px zhO O dj ?_
 rintro _ w1⟨rfl,rfl⟩
 refine R5 O<|Qb<|Ql O<|PB O<|QY O<|Qb<|Ql O<|PB O<|Ph O<|Px za4 O (XA H.g) ?_
 rintro _ w1⟨rfl,rfl⟩
 refine Uj O<|Qb<|Ql O<|Pq O<|PM.qb (e:=[(0,_),(1,_),(2,_),(3,_),(8,_),(9,_),(25,_)]) ?_
 refine Tj O<|An<|QG O<|Ph O<|qV (T3 (cs:=[_,_,_,_,_,_,_,_,_,_,_,_,_,_,_]) zix O zku O O)<|Pb O O (RP O (cs:=[I 0,I 0,I 0,.bool false,.bool false,ptr G.k 0,ptr T.k 0,I (root:Int),.pointer none,.pointer none,.pointer none,.pointer none,.pointer none,.bool false,.bool false]) O) ?_
 rintro _ w2⟨rr,rfl,lU,ae,B3⟩
 refine Pb O O (S5 (cs:=[_]) zif O) ?_
 rintro _ w3⟨bp,rfl,MT,ah,o9⟩
 refine Po O (QZ zif O O O o9 ξ) ?_
 rintro C⟨fX,ar⟩
 replace fX:Pm C bp [ptr rr 0] 44:=fX
 have z2:=ae.size
 have z3:=ah.size
 have z4:=ar.size
 have q2:=B3.lt
 have q3:=o9.lt
 have cK:Ext w2 C:=ah.It ar λb e=>ω
 have dJ:Ext w1 C:=ae.trans cK
 have bV:Ext w C:=ad.trans dJ
 have Hr:=dJ.OZ rB
 have Hs:Pm C rr (zcM G.k T.k root 0 λ_=>0) 103:=cK.OZ B3
 obtain⟨r,oH⟩:∃r:Nat->Prop,(λj=>X j\/j=rr\/j=z\/j=bp)=r:=⟨_,O⟩
 have f9:∀j,X j->r j:=λj l=>by rw[<-oH];exact .inl l
 have n:r rr/\r z/\r bp:=by rw[<-oH];exact⟨.inr (.inl O),.inr (.inr (.inl O)),.inr (.inr (.inr O))⟩
 have h4:WG G T Q txt K r C:=h.grow bV (λj l=>by rw[<-oH] at l;exact l.imp id λe=>ω) f9
 have iB:=A rr ω
 refine qM O<|qV (ymf (first:=[]) (caps:=[.tmp 10,.tmp 9]) O O)<|z6D O O (ydf O)<|P4<|Qi O<|P4<|P6<|RX (α:=Nat) (0) (λi=>[(0,ptr Q.s 0),(1,ptr G.k 0),(3,I (root:Int)),(9,ptr z 0),(10,ptr bp 0),(54,I (i:Int))]) (λi w'=>i<=5/\(∃vb Y txt',VsI G T Q txt K a G.g.length r C.heap.size i vb Y txt' w'/\Pm w' rr (zcM G.k T.k root i vb) 103)/\Pm w' bp [ptr rr 0] 44/\Pm w' z [I 0] 45/\Kp (λb=>¬r b\/b=rr) C w') (λi=>5-i) ?hI ?hround
 case hI=>exact⟨y00 _,⟨_,r,txt,VsI.zero h4 ω,Hs⟩,fX,Hr,Kp.refl _ _⟩
 case hround=>
  rintro i w5⟨hi,⟨vb,Y,E,d,B4⟩,vR,jx,ai⟩ ih;dsimp only;have z5:=ai.size;have NA:∀j,Y j->j<w5.heap.size:=λj l=>d.g.lt j (.inl (.inl l))
  try dsimp only
  refine qN O<|QY O<|P4<|OY<|Pn O (λh0=>?_)<|λh0=>?_
  ·have sM:i<5:=ω
   have M:G.g.length<=100:=ω
   have xP:(Q.Qq (Qr Q.L a i true)).s=Q.s:=rfl;have NB:(Q.Qq (Qr Q.L a i true)).L.length=Q.L.length:=QE ω;have B5:Pre (Q.Qq (Qr Q.L a i true)).L (a+i):=z3o dx i ω;have Ju:=zaU d.g.sp d.g.lt ω B5 G.g.length 4 ω ω (by rw[Um M,NB];omega);rw[Um M,xP] at Ju;refine P5<|R0<|PL O<|Ro O<|PB O<|Px za4 O (XA d.g.g) ?_;rintro _ w5⟨rfl,rfl⟩;refine Px zkO O Ju ?_;rintro _ w6⟨v,F,rfl,NC,ox,S,C6,B⟩;have pp:∀{j},Y j->¬¬ZI G T Y j:=λl e=>e (.inl (.inl l));have B7:=d.next sM M cx ω B ox NC z5 S C6 vx vy ⟨d.xy _ n.1,iB⟩;have Ht:=B.OZ B4 (pp (d.xy _ n.1));have W:=B.OZ vR (pp (d.xy _ n.2.2));have vS:=B.OZ jx (pp (d.xy _ n.2.1));have iT:Kp (λb=>¬r b\/b=rr) C w6:=ai.trans (B.Pk λb e=> .inl λq=>e (.inl (.inl (d.xy b q))));refine Ph O<|Ta O<|SO O<|Rq O<|Px z6M O (Tn _) ?_;rintro _ w6 rfl;refine P4 (Pc O (qV (Pl U44 O O W O) (PB O (PQ O (Pr Wo O (qV (yia z3E z0t O O ω) (Po O (QZ z0t O O O Ht (by show _<15;omega)) ?_)))))));rintro w7⟨rC,D⟩;replace rC:Pm w7 rr ((zcM G.k T.k root i vb).set (0+8+i*1) (ptr v 0)) 103:=rC;rw[zaW sM] at rC
   have Hu:=B7.own D (λb e=>by
    subst e;refine⟨⟨.inl (d.xy _ n.1),iB⟩,λj l=>?_⟩;have:=(B7.v j l).2.2
    omega)
   refine P4<|An<|Pc O<|Qj O<|Ph O<|P4 ?_;exact(ih (i+1) _ ⟨ω,⟨_,_,F,Hu,rC⟩,D.OZ W ω,D.OZ vS ω,iT.trans (D.Pk λb e=> .inr e)⟩ ω).qb
  ·have sM:i=5:=ω
   subst sM;obtain⟨O_,hO⟩:∃O_:Nat->Prop,(λb=>b=rr\/∃j,j<5/\b=vb j)=O_:=⟨_,O⟩;have f:O_ rr/\∀j,j<5->O_ (vb j):=by rw[<-hO];exact⟨.inl O,λj l=> .inr ⟨j,l,O⟩⟩
   have N:∀b,O_ b->w.heap.size<=b/\b≠z/\b≠bp:=λb m=>by
    rw[<-hO] at m;rcases m with e|⟨j,l,e⟩
    ·omega
    ·have:=(d.v j l).2.2;omega
   have U:∀b,O_ b->Y b:=λb m=>by
    rw[<-hO] at m;rcases m with e|⟨j,l,e⟩
    ·rw[e];exact d.xy _ n.1
    ·rw[e];exact(d.v j l).2.1
   obtain⟨o,Hv⟩:∃o,Q.Qq (Qr Q.L a 5 true)=o:=⟨_,O⟩
   have c:ZM o E G.k T.k root rr O_ a 5 ⟨0,0,0,false,false,List.replicate G.g.length 0,List.replicate G.g.length 0,List.replicate G.g.length 0,List.replicate G.g.length 0,List.replicate G.g.length 0⟩ vb w5:=by
    rw[<-Hv];refine⟨f,λj l=>⟨by have:=(d.v j l).2.2;omega,λi hi bA=>d.ne j l i hi bA⟩,B4,λj l=>?_,rfl⟩;have ND:=(d.v j l).1;obtain rfl|rfl|rfl|rfl|rfl:j=0\/j=1\/j=2\/j=3\/j=4:=ω
    all_goals exact⟨ND,by show(List.replicate G.g.length 0).length<=100;rw[y08];omega⟩
   have P:=d.g;rw[Hv] at P
   have ie:S0 (VT T.k root) G T o E (K+5) Y rr O_ a 5 ⟨0,0,0,false,false,List.replicate G.g.length 0,List.replicate G.g.length 0,List.replicate G.g.length 0,List.replicate G.g.length 0,List.replicate G.g.length 0⟩ w5:=
    ⟨⟨P.g,⟨vb,c⟩,λb m=> .inl (U b m),f.1,λb m=>by
     have:=A b (N b m).1
     exact⟨this.1,this.2.1,this.2.2.2.2.1,this.2.2.2.2.2⟩,vx,dZ⟩,P.t,U,P.xk,λb m=>by
     have:=A b (N b m).1
     exact⟨this.2.2.1,this.2.2.2.1⟩,vy⟩
   have M:(List.replicate G.g.length 0).length<=100:=by rw[y08];omega
   have mL:=c.zc7 (j:=0) ψ;have jM:∀{j},Y j->¬¬ZI G T Y j:=λl e=>e (.inl (.inl l));refine Pf O (qN O (qV (Pl U44 O O vR O) (PQ O (Pr Wo O (qV (yia z3E z0t O O ω) (qV (Pl z6g O O c.cells O) (Px zgg O (Yw ie.sp ie.lt ω (c.vs 0 ψ).1 (.inl (.inl (U _ (f.2 0 ψ)))) (x:=4294967295) ψ) ?_)))))));rintro _ w6⟨rfl,V⟩;rw[show(DmS.vec _ 0)=List.replicate G.g.length 0 from rfl,Um M,y08] at V;obtain⟨F,h6,S,C6,B⟩:=ie.z2G (j:=0) c ψ (by show(List.replicate _ _).length=(List.replicate _ _).length;rw[y08,y08]) ω V;have W:=B.OZ vR (jM (d.xy _ n.2.2));have vS:=B.OZ jx (jM (d.xy _ n.2.1));refine Px z6M O (Tn _) ?_;rintro _ w6 rfl;refine qM O (qV (Pl U44 O O W O) (PQ O (Pr Wo O (qV (yia z3E z0t O O ω) (qV (Pl z6g O O S.cells O) (Px zgg O (Yw h6.sp h6.lt ω (S.vs 2 ψ).1 (.inl (.inl (U _ (f.2 2 ψ)))) (x:=4294967295) ψ) ?_))))));rintro _ w7⟨rfl,V⟩;rw[show(DmS.vec _ 2)=List.replicate G.g.length 0 from rfl,Um M,y08] at V;obtain⟨a0,h7,OS,Gh,D⟩:=h6.z2G (j:=2) S ψ (by show(List.replicate _ _).length=(List.replicate _ _).length;rw[y08,y08]) ω V;have B9:=D.OZ W (jM (d.xy _ n.2.2));have Hw:=D.OZ vS (jM (d.xy _ n.2.1));refine Px z6M O (Tn _) ?_;rintro _ w7 rfl;refine qM O (qV (Pl U44 O O B9 O) (Ph O (Px zhi O (z2j h7 ω (v:=root) ⟨by show root<(List.replicate _ _).length;rw[y08];exact hr,by show root<(List.replicate _ _).length;rw[y08];exact hr⟩ (by show 0<(List.replicate _ _).length;rw[y08];omega)) ?_)));rintro _ w8 pE;obtain⟨⟨Z,K8,h8,OT,Gx⟩,aH⟩:=pE;have oR:∀{j},Y j->¬O_ j->¬(¬Y j\/O_ j):=λH h2 e=>e.elim (λe=>e H) h2;have Ba:¬O_ z:=λe=>(N z e).2.1 O;have Hx:¬O_ bp:=λe=>(N bp e).2.2 O;have Hy:=aH.OZ B9 (oR (d.xy _ n.2.2) Hx);have vg:=aH.OZ Hw (oR (d.xy _ n.2.1) Ba);refine qM O (qV (Pl U44 O O Hy O) (SO O (Po O (QZ z5N O O O vg ξ) ?_)));rintro w9⟨vT,aN⟩;replace vT:Pm w9 z [I 0] 45:=vT;refine P4<|PM.qb (e:=[(8,_),(9,_)]) ?_;refine z0l func14 zld (z4F (b1:=bp) (b2:=z)) ?_;rintro u w' rfl;have R:=A z ω
   have h9:=h8.own aN (λj e=>by
    rw[e]
    exact⟨d.xy _ n.2.1,R.1,R.2.1,R.2.2.1,R.2.2.2.1,R.2.2.2.2.1,R.2.2.2.2.2,Ba⟩)
   have Hz:∀b,X b->b<w.heap.size:=λb m=>bS b (.inl (.inl m));have p:∀b,X b->Y b:=λb m=>d.xy b (f9 b m);have zV:=h9.less (X:=λb=>X b\/O_ b) (λb e=>e.elim (p b) (U b)) ⟨.inl J.1,.inl J.2.1,.inl J.2.2.1,.inl J.2.2.2.1,.inl J.2.2.2.2.1,.inl J.2.2.2.2.2⟩ (λb e=> .inr e);refine⟨_,.tmp O (.cell1 U45 O O ((vT).cell _) .nil),_,O,rr,O_,Z,K8,O,λb m=>(N b m).1,ω,?_,λy hy=>?_,?_⟩
   ·rw[Hv];exact zV
   ·rw[Gx y hy,Gh y hy,C6 y hy,d.y y hy]
   ·refine((((bV.kp.trans (ai.Pk λb e q=>?_)).trans (B.Pk λb e q=>e (.inl (.inl (p b q))))).trans (D.Pk λb e q=>e (.inl (.inl (p b q))))).trans (aH.Pk λb e q=>?_)).trans (aN.Pk λb e q=>by have:=Hz _ q;omega)
    ·rcases e with e| e
     ·exact e (f9 b q)
     ·have:=Hz _ q;omega
    ·rcases e with e| e
     ·exact e (p b q)
     ·have:=(N b e).1;have:=Hz _ q;omega
end
def dmV (c:Nat):Nat:=if c=4294967295 then 18446744073709551615 else c
section
variable {root v:Nat}{s:DmS}
def zel (h:S0 (VT T.k root) G T Q txt K X rr O_ a L s w):PN prog 37 [ptr G.k 0] w λv w'=>v=I (G.g.length:Int)/\w'=w:=XA h.m.g
theorem z5S (h:S0 (VT T.k root) G T Q txt K X rr O_ a L s w):PN prog 28 [ptr rr 0] w λv w'=>v=I (G.g.length:Int)/\w'=w:=by
 obtain⟨vb,d⟩:=h.dm
 have b:=d.cells
 refine py (e:=[(0,_)]) func28 O ntmps28 O O<|Re O<|Qi O<|qV (Qz U44 O O)<|QC O<|PL O<|PQ O<|Pr z3B O<|qV (Pl U28 O O b O)<|Px za4 O (zel h) ?_
 rintro _ w⟨rfl,rfl⟩
 refine Pq O<|P3 func28 O ?_
 exact⟨_,O,O,O⟩
theorem zax (h:S0 (VT T.k root) G T Q txt K X rr O_ a L s w)(y:s.done=true){v x:Nat}(q:s.cand[v]? =some x):PN prog 19 [ptr rr 0,I (v:Int)] w λr w'=>r= .tuple #[Pt (dmV x),I 0]/\S0 (VT T.k root) G T Q txt K X rr O_ a L s w'/\Kp (λb=>¬ZI G T X b) w w':=by
 obtain⟨vb,l⟩:=h.dm
 have n:=l.cells
 rw[y] at n
 have z:=((l.vs 2 ψ).1.zgK q).1
 refine py (e:=[(0,_),(1,_)]) func19 O ntmps19 O O<|qN O<|QS O<|Qi O<|Px zk2 O (z0B h) ?_
 rintro _ w⟨rfl,rfl⟩
 refine Rq O<|R5 O<|QC O<|Qi O<|PQ O<|Pr RA O<|Pr z42 O<|qV (Pl U4 O O n O)<|qV (SD O) ?_
 rw[show(!true)=false from rfl]
 refine QC O<|PL O<|PQ O<|Pr Wo O<|qV (yia z3E z0t O O ω)<|qV (Pl z6g O O n O)<|Ph O<|Px ziA O (z3n h.sp h.lt h.m.g.zaG (l.vs 2 ψ).1 (.inl (.inl (h.xr _ (l.o.2 2 ψ)))) q) ?_
 rintro _ w1⟨rfl,u,d⟩
 refine Ph O<|Ta O<|QS O<|PM.qb (e:=[(4,_),(5,_),(7,_),(8,_)]) ?_
 refine Qi O ?_
 unfold dmV
 by_cases e:x=4294967295
 ·rw[if_pos e];refine Rx O<|RO<|P4<|Pp O<|PL O<|QS O<|P3 func19 O ?_;exact⟨_,O,O,h.read d u,d⟩
 ·rw[if_neg e];refine Rx O<|Qb<|QC O<|QG O<|QS O<|P3 func19 O ?_;exact⟨_,O,O,h.read d u,d⟩
def zdy {α:Type}{f:Nat->α}{v:α}(h:((List.range 5).map f)[j]? =some v):j<5/\v=f j:=by
 rw[y0i] at h
 by_cases e:j<5
 ·rw[y1i e] at h;exact⟨e,(RZ h).symm⟩
 ·rw[y0e (by rw[y14];omega)] at h;cases h
def zkq {α:Type}{f:Nat->α}{v:α}(h:v∈(List.range 5).map f):∃j,j<5/\v=f j:=by
 obtain⟨j,b,e⟩:=y0h.1 h
 exact⟨j,y0H.1 b,e.symm⟩
def zl1 {f:Nat->Vc1}{l:List Bool}(b:∀j,j<5->(f j).st=a+j/\(f j).len=1)(h:a+5<=l.length):Wq l ((List.range 5).map f)=Qr l a 5 false:=by
 have e:∀n,n<=5->Wq l ((List.range n).map f)=Qr l a n false:=λn=>by
  induction n with
  | zero =>
    intro _;show l=_;refine y0K λi=>?_
    rw[SN ω,if_neg ω]
  | succ n d =>
    intro m;rw[y0P,y0f,y2c,z0i,d ω,(b n ω).1,(b n ω).2];exact z0d ω
 exact e 5 (y02 _)
theorem z5d (h:S0 (VT T.k root) G T Q txt K X rr O_ a L s w)(NF:2<=a)(F:a+5<=Q.L.length)(HA:∀i,a<=i->i<a+5->Q.L[i]? =some true):PN prog 17 [ptr rr 0] w λr w'=>r=I 0/\∃txt',WG G T (Q.Qq (Qr Q.L a 5 false)) txt' K X w'/\(∀y:Int,y<(a:Int)\/(a:Int)+5<=y->txt' y=txt y)/\Kp (λb=>¬X b\/O_ b) w w':=by
 have dZ:=h.m.n
 have Ay:=h.VH
 have NG:=h.m.VH
 obtain⟨vb,q⟩:=h.dm
 have M:=q.cells
 have vz:=h.xr _ q.o.1
 have S:∀b,ZI G T X b->b<w.heap.size:=h.lt
 have R:∀b,O_ b->b≠G.k/\b≠G.x/\b≠T.k/\b≠T.x/\b≠1/\b≠2:=λb V=>by
  have E:=h.m.ne b V;have p:=h.nk b V;exact⟨E.1,E.2.1,p.1,p.2,E.2.2.1,E.2.2.2⟩
 obtain⟨A,B⟩:∃A:List Vc1,(List.range 5).map (λj=>(⟨vb j,4,a+j,s.vec j⟩:Vc1))=A:=⟨_,O⟩
 have C:∀j,j<5->(⟨vb j,4,a+j,s.vec j⟩:Vc1).st=a+j/\(⟨vb j,4,a+j,s.vec j⟩:Vc1).len=1:=λj d=>⟨O,Um (q.vs j d).2⟩
 have Kw:A.length=5:=by rw[<-B,y0k,y14]
 have aQ:∀v∈A,ZI G T X v.vb/\a<=v.st/\v.st+v.len<=a+5:=λv l=>by
  rw[<-B] at l;obtain⟨j,d,rfl⟩:=zkq l;obtain⟨e1,H⟩:=C j d;exact⟨.inl (.inl (h.xr _ (q.o.2 j d))),ω,ω⟩
 have HB:∀v∈A,O_ v.vb/\v.vb≠rr:=λv l=>by
  rw[<-B] at l;obtain⟨j,d,rfl⟩:=zkq l;exact⟨q.o.2 j d,λe=>(q.ne j d).1 e.symm⟩
 have CP:zcw A:=λi j u v W l gW=>by
  rw[<-B] at W l;obtain⟨hi,rfl⟩:=zdy W;obtain⟨d,rfl⟩:=zdy l;obtain⟨e1,H⟩:=C i hi;obtain⟨e3,e4⟩:=C j d;exact⟨(q.ne j d).2 i hi gW,ω⟩
 have i8:Wq Q.L A=Qr Q.L a 5 false:=by rw[<-B];exact zl1 C F
 refine py (e:=[(0,_)]) func17 O ntmps17 O O<|Re O<|R0<|PL O<|qV (Qz U44 O O)<|Pq O<|P9 O<|PL O<|PQ O<|Pr z3G O<|qV (Pl U4 O O M O)<|Pq O ?_
 have NH:∀(j:Nat)(v:Vc1),A[j]? =some v->Wh Q txt v.vb v.width v.st v.xs w:=λj v d=>by
  rw[<-B] at d;obtain⟨CN,rfl⟩:=zdy d;exact(q.vs j CN).1
 refine Tj O<|An<|Qi O<|PQ O<|Pr Wo O<|qV (PO z3E O zdk O (Pm.cells (n:=5) M (news:=[_,_,_,_,_]) O) O)<|Ph O<|P4<|P6<|RX (α:=Nat) (0) (λi=>[(0,ptr rr 0),(17,.agg #[ptr (vb 0) 0,ptr (vb 1) 0,ptr (vb 2) 0,ptr (vb 3) 0,ptr (vb 4) 0]),(18,I (i:Int))]) (λi w'=>i<=5/\zaq Q txt K (ZI G T X) A a 5 w i w') (λi=>5-i) ?hI ?hround
 case hI=>exact⟨y00 _,.zero h.sp NH⟩
 case hround=>
  rintro i w4⟨hi,U⟩ ih
  try dsimp only
  refine qN O<|QY O<|P4<|OY<|Pn O (λJ=>?_)<|λJ=>?_
  ·have N:i<5:=ω
   obtain⟨v,l⟩:∃v,A[i]? =some v:=⟨_,y03 ω⟩
   have NI:(#[ptr (vb 0) 0,ptr (vb 1) 0,ptr (vb 2) 0,ptr (vb 3) 0,ptr (vb 4) 0]:Array Value)[i]? =some (ptr v.vb 0):=by
    have c:=l;rw[<-B] at c;obtain⟨-,rfl⟩:=zdy c;obtain rfl|rfl|rfl|rfl|rfl:i=0\/i=1\/i=2\/i=3\/i=4:=ω
    all_goals rfl
   refine P5<|R0<|qN O<|qV (yxa z3E z0t z6g O O O N (v:=ptr v.vb 0) NI)<|Pq O<|Qi O<|qV (Qz z6g O O)<|QC O<|PL O<|Px zlA O (U.next S l aQ CP NF F HA) ?_;rintro _ w5⟨rfl,kJ⟩;refine Rq O<|R5 O<|QC O<|An<|Pc O<|Qj O<|Ph O<|P4 ?_;exact(ih (i+1) _ ⟨ω,kJ⟩ ω).qb
  ·have N:i=5:=ω
   subst N;obtain⟨⟨z,f,-,P⟩,ar⟩:=U;rw[y0N ω,i8] at f;have D:Kp (λb=>¬ZI G T X b\/(O_ b/\b≠rr)) w w4:=ar.Pk λb e=>e.imp id λ⟨v,l,e⟩=>by rw[e];exact HB v l
   have J:WG G T Q txt K X w:=⟨h.m.g,h.t,h.xk⟩;have z4:=D.size;have h4:WG G T (Q.Qq (Qr Q.L a 5 false)) z K X w4:=J.upd D (λb e=>e.imp id λe=>⟨h.xr _ e.1,R b e.1⟩) (λ_ e=>e) (λ_ e=> .inl e) (λj e=>by have:=S j (.inl (.inl e));omega) f O (QE F) h.m.g.zaG (λy e=>P y (.inl ω));have ep:=D.OZ M (λe=>e.elim (λe=>e (.inl (.inl vz))) λe=>e.2 O);refine Pf O (PL O (PQ O (Pr z3G O (Po O (QZ TZ O O O ep ξ) ?_))));rintro w6⟨eX,Z⟩;refine qM O<|Pq O<|P3 func17 O ?_;exact⟨_,O,O,z,h4.own Z (λj e=>by rw[e];exact⟨vz,R rr q.o.1⟩),P,(D.Pk λb e=>e.imp (λe H=>e (.inl (.inl H))) And.left).trans (Z.Pk λb e=> .inr (by rw[e];exact q.o.1))⟩
end
end Go.Proofs.YtbihggbffaigjaaGreatDoor
