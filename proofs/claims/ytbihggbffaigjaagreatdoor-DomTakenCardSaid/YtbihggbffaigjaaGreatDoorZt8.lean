/- Merged by program. -/
import Derived.Test.YtbihggbffaigjaaGreatDoorZt7
import Derived.RecoverIn
set_option linter.all false
set_option maxRecDepth 1000000
set_option maxHeartbeats 16000000
namespace Go.Proofs.YtbihggbffaigjaaGreatDoor
open Go Go.RowKit Go.Proofs.Tryz
variable {A O_ P S' X:Nat->Prop}{G T:Y0}{K K' L a b1 b2 c i j k p root rr:Nat}{Q Q':Sf}{W:Wd}{cand ord ys:List Nat}{f f' par vb:Nat->Nat}{g t:List (List Nat)}{o:Oper}{txt txt':Int->PU}{w w' w1 w5:World}
structure Vc1 where
 vb:Nat
 width:Nat
 st:Nat
 xs:List Nat
def Vc1.len (v:Vc1):Nat:=XD v.xs.length (512 / v.width)
def Xk (L:List Bool)(T:List Vc1):List Bool:=T.foldl (λL v=>R9 L v.st v.len false) L
theorem z0N (L:List Bool)(T:List Vc1)(v:Vc1):Xk L (T++[v])=R9 (Xk L T) v.st v.len false:=by
 unfold Xk
 rw[y3a];rfl
def z5N:∀(T:List Vc1)(L:List Bool),(∀v∈T,v.st+v.len<=L.length)->(Xk L T).length=L.length
 |[],L,_=>rfl
 | v :: T, L, h => by
   have d:=Rq (b:=false) (h v y0r);have:=z5N T (R9 L v.st v.len false) λu e=>by rw[d];exact h u (y0u _ e)
   exact this.trans d
theorem z6O:∀(T:List Vc1)(L:List Bool) (i:Nat),(∀v∈T,v.st+v.len<=L.length)->(∀v∈T,i<v.st\/v.st+v.len<=i)->(Xk L T)[i]? =L[i]?
 |[],L,i,_,_=>rfl
 | v :: T, L, i, h, h' => by
   have e:=Rq (b:=false) (h v y0r);have:=z6O T (R9 L v.st v.len false) i (λu d=>by rw[e];exact h u (y0u _ d)) λu d=>h' u (y0u _ d);refine Eq.trans this ?_;have l:=h' v y0r;rw[SZ (h v y0r),if_neg ω]
def zch (T:List Vc1):Prop:=∀(i j:Nat)(u v:Vc1),T[i]? =some u->T[j]? =some v->i≠j->u.vb≠v.vb/\(u.st+u.len<=v.st\/v.st+v.len<=u.st)
structure zbE (Q:Sf)(txt:Int->PU)(K:Nat)(X:Nat->Prop)(T:List Vc1)(a L:Nat)(w:World)(i:Nat)(w':World):Prop where
 ex:∃txt',Sp (Q.Re (Xk Q.L (T.take i))) txt' K X w'/\(∀(j:Nat)(v:Vc1),i<=j->T[j]? =some v->WD (Q.Re (Xk Q.L (T.take i))) txt' v.vb v.width v.st v.xs w')/\(∀y:Int,y<(a:Int)\/(a:Int)+(L:Int)<=y->txt' y=txt y)
 k:Kp (λb=>¬X b\/∃v∈T,b=v.vb) w w'
section
variable {T:List Vc1}{v:Vc1}
theorem zbE.zero (b:Sp Q txt K X w)(d:∀(j:Nat)(v:Vc1),T[j]? =some v->WD Q txt v.vb v.width v.st v.xs w):zbE Q txt K X T a L w 0 w:=
 ⟨⟨txt,b,λj v _ h=>d j v h,λ_ _=>rfl⟩,Kp.refl _ _⟩
theorem zbE.next (h:zbE Q txt K X T a L w i w1)(o:∀b,X b->b<w.heap.size)(s:T[i]? =some v)(m:∀v∈T,X v.vb/\a<=v.st/\v.st+v.len<=a+L)(B:zch T)(p:2<=a)(c:a+L<=Q.L.length)(F:∀i,a<=i->i<a+L->Q.L[i]? =some true):
  Qx prog 51 [ptr v.vb 0] w1 λr w'=>r=I 0/\zbE Q txt K X T a L w (i+1) w':=by
 obtain⟨⟨f,N,z,Z⟩,E⟩:=h
 have J:=y0i s
 obtain⟨Y,W,P⟩:=m v J
 have d:∀u∈T.take i,u.st+u.len<=Q.L.length:=λu n=>by have:=(m u (y18 n)).2.2;omega
 have R:(Xk Q.L (T.take i)).length=Q.L.length:=z5N _ _ d
 have A:i<T.length:=by
  rcases y0a i T.length with h| h
  ·exact h
  ·rw[y0v h] at s;cases s
 have H:T.take (i+1)=T.take i++[v]:=by rw[List.take_add_one,s];rfl
 have z1:=E.size
 refine(z5S N (λb t=>by have:=o b t;omega) (z i v (y04 _) s) Y ω ?_).mono ?_
 ·intro k g x;show(Xk Q.L (T.take i))[k]? =some true;have x:k<v.st+v.len:=x;rw[z6O _ _ _ d]
  ·exact F k ω ω
  ·intro u n;obtain⟨j,C⟩:=y2U n
   have S:j<i:=by
    rcases y0a j i with h| h
    ·exact h
    ·rw[y0v (by rw[y0d];omega)] at C;cases C
   rw[y3J S] at C;have:=(B j i u v C s ω).2;omega
 ·rintro r w'⟨rfl,txt',l,M,D⟩
  have G:(Q.Re (Xk Q.L (T.take i))).Re (R9 (Q.Re (Xk Q.L (T.take i))).L v.st v.len false)=Q.Re (Xk Q.L (T.take (i+1))):=by
   rw[H,z0N];rfl
  have l:Sp ((Q.Re (Xk Q.L (T.take i))).Re (R9 (Q.Re (Xk Q.L (T.take i))).L v.st v.len false)) txt' K X w':=l;rw[G] at l;refine⟨O,⟨txt',l,λj u C n=>?_,λy hy=>?_⟩,E.trans (D.PZ λb e=>e.imp id λe=>⟨v,J,e⟩)⟩
  ·obtain⟨n1,n2⟩:=B i j v u s n ω;have V:=(m u (y0i n)).1;have U:(Xk Q.L (T.take (i+1))).length=(Xk Q.L (T.take i)).length:=by rw[H,z0N,Rq (by rw[R];omega)]
   refine(((z j u ω n).kp D λe=>e.elim (λe=>e V) λe=>n1 e.symm).XA λy g x=>M y ?_).q O U;have x:y<(u.st:Int)+(u.len:Int):=x;show y<(v.st:Int)\/(v.st:Int)+(v.len:Int)<=y;omega
  ·rw[M y (by show y<(v.st:Int)\/(v.st:Int)+(v.len:Int)<=y;omega)];exact Z y hy
end
def U1.iff {Y:Nat->Prop}(h:U1 G Q txt K X w)(e:∀b,X b↔Y b):U1 G Q txt K Y w:=by
 have d:X=Y:=funext λb=>propext (e b)
 exact d▸h
abbrev YA (G T:Y0)(X:Nat->Prop):Nat->Prop:=λb=>(X b\/b=T.rb)\/b=G.rb
structure W8 (G T:Y0)(Q:Sf)(txt:Int->PU)(K:Nat)(X:Nat->Prop)(w:World):Prop where
 g:U1 G Q txt K (λb=>X b\/b=T.rb) w
 t:U1 T Q txt K (λb=>X b\/b=G.rb) w
 xk:X G.k/\X G.x/\X T.k/\X T.x/\X 1/\X 2
section
variable {Y:Nat->Prop}
theorem W8.ng (h:W8 G T Q txt K X w):¬X G.rb/\G.rb≠T.rb/\¬X T.rb:=by
 have b:=h.g.rbX
 have d:=h.t.rbX
 exact⟨λe=>b (.inl e),λe=>b (.inr e),λe=>d (.inl e)⟩
theorem W8.sp (h:W8 G T Q txt K X w):Sp Q txt K (YA G T X) w:=h.g.sp
theorem W8.lt (h:W8 G T Q txt K X w):∀b,YA G T X b->b<w.heap.size:=h.g.lt1
theorem W8.upd (h:W8 G T Q txt K X w)(u:Kp S' w w')(r:∀b,S' b->¬YA G T X b\/(X b/\b≠G.k/\b≠G.x/\b≠T.k/\b≠T.x/\b≠1/\b≠2))(l:∀j,X j->Y j)(E:∀j,Y j->X j\/w.heap.size<=j)(B:∀j,Y j->j<w'.heap.size)(D:Sp Q' txt' K' (YA G T Y) w')(H:Q'.s=Q.s)(F:Q'.L.length=Q.L.length)(C:K'<1000000000000)(z:∀y:Int,((G.st:Int)<=y/\y<(G.st:Int)+(G.len:Int))\/((T.st:Int)<=y/\y<(T.st:Int)+(T.len:Int))->txt' y=txt y):W8 G T Q' txt' K' Y w':=by
 obtain⟨n1,n2,I⟩:=h.ng
 have d:=h.xk
 have v:=h.lt
 have A:=v T.rb (.inl (.inr O))
 have o:=v G.rb (.inr O)
 have p:=u.size
 have J:¬Y G.rb:=λe=>(E _ e).elim n1 ω
 have M:¬Y T.rb:=λe=>(E _ e).elim I ω
 have m:∀{b},X b->((b=G.k\/b=G.x\/b=T.k)\/b=T.x\/b=1\/b=2)->¬S' b:=λS U e=>by
  rcases r _ e with e|⟨-,V,Z,a,c,f,i⟩
  ·exact e (.inl (.inl S))
  ·rcases U with(e|e|e)|e|e| e
   ·exact V e
   ·exact Z e
   ·exact a e
   ·exact c e
   ·exact f e
   ·exact i e
 have N:¬S' G.rb:=λe=>(r _ e).elim (λe=>e (.inr O)) λe=>n1 e.1
 have R:¬S' T.rb:=λe=>(r _ e).elim (λe=>e (.inl (.inr O))) λe=>I e.1
 refine⟨h.g.at_ u ⟨m d.1 (.inl (.inl O)),m d.2.1 (.inl (.inr (.inl O))),m d.2.2.2.2.1 (.inr (.inr (.inl O))),m d.2.2.2.2.2 (.inr (.inr (.inr O))),N⟩ ⟨.inl (l _ d.1),.inl (l _ d.2.1),.inl (l _ d.2.2.2.2.1),.inl (l _ d.2.2.2.2.2)⟩ (λj e=>e.elim (B j) λe=>ω) (λe=>e.elim J n2) D H F C (λy n q=>z y (.inl ⟨n,q⟩)),
  h.t.at_ u ⟨m d.2.2.1 (.inl (.inr (.inr O))),m d.2.2.2.1 (.inr (.inl O)),m d.2.2.2.2.1 (.inr (.inr (.inl O))),m d.2.2.2.2.2 (.inr (.inr (.inr O))),R⟩ ⟨.inl (l _ d.2.2.1),.inl (l _ d.2.2.2.1),.inl (l _ d.2.2.2.2.1),.inl (l _ d.2.2.2.2.2)⟩ (λj e=>e.elim (B j) λe=>ω) (λe=>e.elim M λe=>n2 e.symm) (D.iff λb=>?_) H F C (λy n q=>z y (.inr ⟨n,q⟩)),⟨l _ d.1,l _ d.2.1,l _ d.2.2.1,l _ d.2.2.2.1,l _ d.2.2.2.2.1,l _ d.2.2.2.2.2⟩⟩
 constructor
 ·rintro((e|e)|e)
  ·exact .inl (.inl e)
  ·exact .inr e
  ·exact .inl (.inr e)
 ·rintro((e|e)|e)
  ·exact .inl (.inl e)
  ·exact .inr e
  ·exact .inl (.inr e)
theorem W8.own (h:W8 G T Q txt K X w)(l:Kp S' w w')(d:∀b,S' b->X b/\b≠G.k/\b≠G.x/\b≠T.k/\b≠T.x/\b≠1/\b≠2):W8 G T Q txt K X w':=
 ⟨h.g.own l λj e=>⟨.inl (d j e).1,(d j e).2.1,(d j e).2.2.1,(d j e).2.2.2.2.2.1,(d j e).2.2.2.2.2.2⟩,h.t.own l λj e=>⟨.inl (d j e).1,(d j e).2.2.2.1,(d j e).2.2.2.2.1,(d j e).2.2.2.2.2.1,(d j e).2.2.2.2.2.2⟩,h.xk⟩
theorem W8.grow (h:W8 G T Q txt K X w)(m:Ext w w')(l:∀j,Y j->X j\/(w.heap.size<=j/\j<w'.heap.size))(b:∀j,X j->Y j):W8 G T Q txt K Y w':=by
 have d:=h.xk
 exact⟨h.g.grow m (λj e=>e.elim (λe=>(l j e).imp .inl id) (λe=> .inl (.inr e))) (λj e=>e.imp (b j) id),h.t.grow m (λj e=>e.elim (λe=>(l j e).imp .inl id) (λe=> .inl (.inr e))) (λj e=>e.imp (b j) id),⟨b _ d.1,b _ d.2.1,b _ d.2.2.1,b _ d.2.2.2.1,b _ d.2.2.2.2.1,b _ d.2.2.2.2.2⟩⟩
theorem W8.less (h:W8 G T Q txt K Y w)(d:∀j,X j->Y j)(b:X G.k/\X G.x/\X T.k/\X T.x/\X 1/\X 2):W8 G T Q txt K X w:=
 ⟨h.g.less (λj e=>e.imp (d j) id) ⟨.inl b.1,.inl b.2.1,.inl b.2.2.2.2.1,.inl b.2.2.2.2.2⟩,h.t.less (λj e=>e.imp (d j) id) ⟨.inl b.2.2.1,.inl b.2.2.2.1,.inl b.2.2.2.2.1,.inl b.2.2.2.2.2⟩,b⟩
def W8.far (h:W8 G T Q txt K X w):∀j,w.heap.size<=j->j≠G.k/\j≠G.x/\j≠T.k/\j≠T.x/\j≠1/\j≠2:=λj v=>by
 have d:∀b,X b->b<w.heap.size:=λb l=>h.lt b (.inl (.inl l))
 have e:=h.xk
 have m:=d _ e.1
 have n:=d _ e.2.1
 have q:=d _ e.2.2.1
 have r:=d _ e.2.2.2.1
 have s:=d _ e.2.2.2.2.1
 have u:=d _ e.2.2.2.2.2
 exact⟨ω,ω,ω,ω,ω,ω⟩
theorem z96 (h:U1 G Q txt K X w):Qx prog 38 [ptr G.k 0] w λv w'=>v=I (Rb G.g:Int)/\w'=w:=by
 obtain⟨o,h⟩:=h
 have hB:=h.cells
 refine py (e:=[(0,_)]) func38 O ntmps38 O O<|RY O<|QV O<|qV (Rm U28 O O)<|Ri O<|Qz O<|QC O<|Qf Xb O<|Qf z1u O<|qV (Q0 U3 O O hB O)<|Qe O<|PQ func38 O ?_
 exact⟨_,O,O,O⟩
theorem W8.vec {m:Sf}{d:Int->PU}{v l n:Nat}{z:World}(h:W8 G T Q txt K X w)(u:Kp (λb=>¬YA G T X b) w w5)(E:Sp m d n (λb=>YA G T X b\/b=v) w5)(J:w.heap.size<=v)(N:v<w5.heap.size)(H:m.s=Q.s)(F:m.L.length=Q.L.length)(D:n<1000000000000)(O:G.st+G.len<=a)(R:T.st+T.len<=a)(I:∀y:Int,y<(a:Int)->d y=txt y)(B:Kp (λb=>b=l) w5 z)(r:X l/\l≠G.k/\l≠G.x/\l≠T.k/\l≠T.x/\l≠1/\l≠2):W8 G T m d n (λj=>X j\/j=v) z:=by
 have C:=h.lt
 have M:=u.size
 refine(h.upd (Y:=λj=>X j\/j=v) u (λb e=> .inl e) (λj e=> .inl e) (λj q=>q.imp id λe=>ω) (λj q=>by
   rcases q with e| e
   ·have:=C j (.inl (.inl e));omega
   ·omega) (E.iff λb=>?_) H F D (λy e=>I y ω)).own B λj e=>by rw[e];exact⟨.inl r.1,r.2⟩
 constructor
 ·rintro(((e|e)|e)|e)
  ·exact .inl (.inl (.inl e))
  ·exact .inl (.inr e)
  ·exact .inr e
  ·exact .inl (.inl (.inr e))
 ·rintro(((e|e)|e)|e)
  ·exact .inl (.inl (.inl e))
  ·exact .inr e
  ·exact .inl (.inl (.inr e))
  ·exact .inl (.inr e)
theorem z0H {l:List Bool}{n:Nat}{c:Bool}(h:a+n+1<=l.length):R9 (R9 l a n c) (a+n) 1 c=R9 l a (n+1) c:=by
 have b:(R9 l a n c).length=l.length:=Rq ω
 refine y1t λi=>?_
 rw[SZ (by rw[b];omega),SZ ω,SZ ω]
 by_cases c1:a+n<=i/\i<a+n+1
 ·rw[if_pos c1,if_pos ω]
 ·rw[if_neg c1];by_cases c2:a<=i/\i<a+n
  ·rw[if_pos c2,if_pos ω]
  ·rw[if_neg c2,if_neg ω]
end
abbrev Wd.x (W:Wd)(XX:Nat->Prop):Nat->Prop:=λb=>XX b/\b≠W.G.rb/\b≠W.T.rb
def WdM.gw2 {r:Nat->Prop}(h:WdM W g r w):W8 W.G W.T W.Q W.txt W.K (W.x r) w:=by
 obtain⟨E,F,y,z,B,C,D⟩:=h.rb
 obtain⟨⟨s,a2⟩,⟨u,v⟩,⟨d,l⟩,m,n⟩:=h.hg.xk
 obtain⟨⟨c1,c2⟩,⟨c3,c4⟩,⟨H,q⟩,c7,c8⟩:=h.ht.xk
 refine⟨h.hg.less (λb e=>?_) ⟨.inl ⟨s,a2,z.symm⟩,.inl ⟨u,v,B.symm⟩,.inl ⟨d,l,q⟩,.inl ⟨m,n,c8⟩⟩,h.ht.less (λb e=>?_) ⟨.inl ⟨c1,C.symm,c2⟩,.inl ⟨c3,D.symm,c4⟩,.inl ⟨d,l,q⟩,.inl ⟨m,n,c8⟩⟩,⟨s,a2,z.symm⟩,⟨u,v,B.symm⟩,⟨c1,C.symm,c2⟩,⟨c3,D.symm,c4⟩,⟨d,l,q⟩,⟨m,n,c8⟩⟩
 ·rcases e with e| e
  ·exact⟨e.1,e.2.1⟩
  ·rw[e];exact⟨F,λe=>y e.symm⟩
 ·rcases e with e| e
  ·exact⟨e.1,e.2.2⟩
  ·rw[e];exact⟨E,y⟩
def St.far {σ:Type}{R:RuK σ}{s:σ}(h:St R G T Q txt K X rr O_ a L s w):∀j,w.heap.size<=j->j≠G.k/\j≠G.x/\j≠T.k/\j≠T.x/\j≠1/\j≠2/\¬O_ j:=λj z=>by
 have d:∀b,X b->b<w.heap.size:=λb m=>h.lt b (.inl (.inl m))
 have l:=h.xk
 have n:=d _ l.1
 have q:=d _ l.2.1
 have r:=d _ l.2.2.1
 have u:=d _ l.2.2.2.1
 have v:=d _ l.2.2.2.2.1
 have y:=d _ l.2.2.2.2.2
 exact⟨ω,ω,ω,ω,ω,ω,λe=>by have:=d j (h.xr j e);omega⟩
inductive Ch (f:Nat->Nat) (root:Nat):Nat->Nat->Prop
 |refl (v:Nat):Ch f root v v
 |up {v x:Nat}:v≠root->Ch f root (f v) x->Ch f root v x
abbrev W9:Nat:=4294967295
structure zhl (R:Nat->Prop)(num:Nat->Nat)(root:Nat):Prop where
 rt:R root
 top:∀v,R v->num v<=num root
 inj:∀u v,R u->R v->num u=num v->u=v
 no:∀v,R v->v≠W9
structure Fo (R:Nat->Prop)(num:Nat->Nat)(root:Nat)(f:Nat->Nat):Prop where
 rt:f root=root
 up:∀v,f v≠W9->v≠root->f (f v)≠W9/\num v<num (f v)
 in_:∀v,f v≠W9->R v
section
variable {R:Nat->Prop}{num:Nat->Nat}{b v w x y:Nat}
theorem Ch.trans (e:Ch f root a b)(d:Ch f root b c):Ch f root a c:=by
 induction e with
 |refl _=>exact d
 |up h _ l=>exact .up h (l d)
def Ch.inv (h:Ch f root v x):x=v\/(v≠root/\Ch f root (f v) x):=by
 cases h with
 |refl _=>exact .inl O
 |up d e=>exact .inr ⟨d,e⟩
theorem Ch.at_root (h:Ch f root root x):x=root:=h.inv.elim id λe=>absurd O e.1
def Ch.mem (m:Fo R num root f)(h:Ch f root v x):f v≠W9->f x≠W9/\num v<=num x/\(num x=num v->x=v):=by
 induction h with
 |refl _=>exact λh=>⟨h,y04 _,λ_=>rfl⟩
 | up n _ q =>
   intro h;obtain⟨d,r⟩:=m.up _ h n;obtain⟨l,s,u⟩:=q d;exact⟨l,ω,λe=>ω⟩
def Ch.zlJ (d:Fo R num root f)(e:Ch f root a b)(h:Ch f root b a)(l:f a≠W9):a=b:=by
 obtain⟨m,q,n⟩:=e.mem d l
 obtain⟨r,s,u⟩:=h.mem d m
 exact(n ω).symm
def meetF (num f:Nat->Nat):Nat->Nat->Nat->Option Nat
 |0,a,b=>if a=b then some a else none
 |k+1,a,b=>if a=b then some a else if num a<num b then meetF num f k (f a) b else meetF num f k a (f b)
def z36 (hN:zhl R num root)(m:Fo R num root f):∀(k a b:Nat),f a≠W9->f b≠W9->2*num root<=k+num a+num b->∃c,meetF num f k a b=some c/\f c≠W9/\∀x,Ch f root c x↔Ch f root a x/\Ch f root b x:=by
 have u:∀{a b},f a≠W9->f b≠W9->num a<num b->a≠root:=fun {a b} _ d h e=>by
  subst e;have:=hN.top b (m.in_ b d);omega
 have left:∀{a b},f a≠W9->f b≠W9->num a<num b->∀x,(Ch f root (f a) x/\Ch f root b x)↔(Ch f root a x/\Ch f root b x):=fun {a b} l d h x=>by
  constructor
  ·exact λe=>⟨.up (u l d h) e.1,e.2⟩
  ·rintro⟨C,r⟩;rcases C.inv with e| e
   ·subst e;have:=(r.mem m d).2.1;omega
   ·exact⟨e.2,r⟩
 intro k
 induction k with
 | zero =>
   intro a b l d D;have s:=hN.top a (m.in_ a l);have z:=hN.top b (m.in_ b d);obtain rfl:=hN.inj a b (m.in_ a l) (m.in_ b d) ω
   exact⟨a,by unfold meetF;rw[if_pos O],l,λx=>⟨λe=>⟨e,e⟩,λe=>e.1⟩⟩
 | succ k B =>
   intro a b l d D;by_cases e:a=b
   ·subst e;exact⟨a,by unfold meetF;rw[if_pos O],l,λx=>⟨λe=>⟨e,e⟩,λe=>e.1⟩⟩
   ·unfold meetF;rw[if_neg e];have E:num a≠num b:=λr=>e (hN.inj a b (m.in_ a l) (m.in_ b d) r);by_cases n:num a<num b
    ·rw[if_pos n];obtain⟨s,z⟩:=m.up a l (u l d n);obtain⟨c,c1,c2,c3⟩:=B (f a) b s d ω;exact⟨c,c1,c2,λx=>(c3 x).trans (left l d n x)⟩
    ·rw[if_neg n];have q:num b<num a:=ω
     obtain⟨s,z⟩:=m.up b d (u d l q);obtain⟨c,c1,c2,c3⟩:=B a (f b) l s ω;refine⟨c,c1,c2,λx=>(c3 x).trans ?_⟩;rw[And.comm,left d l q x,And.comm]
inductive Av (g:List (List Nat)) (root x:Nat):Nat->Nat->Prop
 |zero:root≠x->Av g root x 0 root
 |step {j p v:Nat}:Av g root x j p->v∈Qd g p->v≠x->Av g root x (j+1) v
def Av.ne (h:Av g root x j v):v≠x:=by
 cases h with
 |zero h=>exact h
 |step _ _ h=>exact h
def Av.rch (h:Av g root x j v):VW g root v:=by
 induction h with
 |zero _=>exact .refl
 |step _ h _ d=>exact .step d h
def Dm (g:List (List Nat))(root x v:Nat):Prop:=VW g root v/\∀j,¬Av g root x j v
theorem Av.split (h:Av g root x j v)(hw:w≠root):Av g root w j v\/∃i,i<=j/\Av g root x i w:=by
 induction h with
 |zero _=>exact .inl (.zero hw.symm)
 | step hp l m d =>
   rename_i j p v
   rcases d with d|⟨i,hi,d⟩
   ·by_cases e:v=w
    ·subst e;exact .inr ⟨_,y04 _,.step hp l m⟩
    ·exact .inl (.step d l e)
   ·exact .inr ⟨i,ω,d⟩
structure TrF (g:List (List Nat))(root:Nat)(num par:Nat->Nat):Prop where
 n:zhl (VW g root) num root
 par:∀v,VW g root v->v≠root->VW g root (par v)/\v∈Qd g (par v)/\num v<num (par v)
structure DsI (g:List (List Nat))(root:Nat)(num par f:Nat->Nat):Prop where
 fo:Fo (VW g root) num root f
 t:∀v x,f v≠W9->Ch f root v x->Ch par root v x
 s:∀v x,f v≠W9->Dm g root x v->Ch f root v x
def Pj (g:List (List Nat))(root:Nat)(f:Nat->Nat)(j:Nat):Prop:=∀v x i,i<=j->Av g root x i v->f v≠W9->¬Ch f root v x
def UI (f:Nat->Nat)(w c:Nat):Nat->Nat:=λv=>if v=w then c else f v
theorem WJ:UI f w c w=c:=if_pos O
theorem VV (h:v≠w):UI f w c v=f v:=if_neg h
theorem zbM:UI f w (f w)=f:=by
 funext v
 unfold UI
 split
 ·rename_i e;rw[e]
 ·rfl
def zas (hT:TrF g root num par)(h:Ch par root v w):VW g root v->∀{j:Nat},num w<num x->Av g root x j w->num v<=num w/\∃i,Av g root x i v:=by
 induction h with
 |refl _=>exact λ_ {j} _ d=>⟨y04 _,j,d⟩
 | @up v w hv _ ih =>
   intro l j m d;obtain⟨n,q,s⟩:=hT.par v l hv;obtain⟨u,i,r⟩:=ih n m d;exact⟨ω,i+1,.step r q (λe=>by subst e;omega)⟩
section
variable (hT:TrF g root num par)(hI:DsI g root num par f)(hw:VW g root w)(hwr:w≠root)(hp:f (par w)≠W9)(hc:f c≠W9)(hch:∀x,Ch f root c x↔∀p,VW g root p->w∈Qd g p->f p≠W9->Ch f root p x)
include hT hI hw hwr hp hc hch
theorem zcF:num w<num c/\c≠w/\Ch f root (par w) c:=by
 obtain⟨h,l,n⟩:=hT.par w hw hwr
 have d:=(hch c).1 (.refl c) (par w) h l hp
 have m:=(d.mem hI.fo hp).2.1
 exact⟨ω,λe=>by subst e;omega,d⟩
theorem z2d (d:f v≠W9)(q:num w<num v):Ch (UI f w c) root v x↔Ch f root v x:=by
 have m:∀{v x},Ch (UI f w c) root v x->f v≠W9->num w<num v->Ch f root v x:=by
  intro v x h
  induction h with
  |refl _=>exact λ_ _=> .refl _
  | up l _ r =>
    intro d q;rw[VV (λe=>by subst e;omega)] at r;obtain⟨s,u⟩:=hI.fo.up _ d l;exact .up l (r s ω)
 have n:∀{v x},Ch f root v x->f v≠W9->num w<num v->Ch (UI f w c) root v x:=by
  intro v x h
  induction h with
  |refl _=>exact λ_ _=> .refl _
  | up l _ r =>
    intro d q;obtain⟨s,u⟩:=hI.fo.up _ d l;refine .up l ?_;rw[VV (λe=>by subst e;omega)];exact r s ω
 exact⟨λh=>m h d q,λh=>n h d q⟩
theorem zhu:Ch (UI f w c) root w x↔x=w\/Ch f root c x:=by
 obtain⟨d,l,m⟩:=zcF hT hI hw hwr hp hc hch
 constructor
 ·intro h;rcases h.inv with e| e
  ·exact .inl e
  ·rw[WJ] at e;exact .inr ((z2d hT hI hw hwr hp hc hch hc d).1 e.2)
 ·rintro(rfl|h)
  ·exact .refl _
  ·refine .up hwr ?_;rw[WJ];exact(z2d hT hI hw hwr hp hc hch hc d).2 h
theorem zgx (h:Ch f root v x):Ch (UI f w c) root v x\/(Ch (UI f w c) root v w/\Ch f root w x/\x≠w/\Ch f root v w):=by
 induction h with
 |refl _=>exact .inl (.refl _)
 | up d q l =>
   rename_i v x
   by_cases e:v=w
   ·subst e;by_cases m:x=v
    ·subst m;exact .inl (.refl _)
    ·exact .inr ⟨.refl _,.up d q,m,.refl _⟩
   ·rw[<-VV (f:=f) (c:=c) e] at l;rcases l with l|⟨r,s,u,n⟩
    ·exact .inl (.up d l)
    ·rw[VV e] at n;exact .inr ⟨.up d r,s,u,.up d n⟩
theorem z9v (h:Ch (UI f w c) root v x):Ch f root v x\/(Ch f root v w/\Ch (UI f w c) root w x):=by
 induction h with
 |refl _=>exact .inl (.refl _)
 | up l m d =>
   rename_i v x
   by_cases e:v=w
   ·subst e;exact .inr ⟨.refl _,.up l m⟩
   ·rw[VV e] at d;rcases d with d|⟨n,q⟩
    ·exact .inl (.up l d)
    ·exact .inr ⟨.up l n,q⟩
theorem z5u (h:UI f w c v≠W9)(e:v≠w):f v≠W9:=by rw[VV e] at h;exact h
theorem DsI.UI:DsI g root num par (UI f w c):=by
 obtain⟨M,N,O⟩:=zcF hT hI hw hwr hp hc hch
 have z:c≠W9:=hT.n.no c (hI.fo.in_ c hc)
 have B:Go.Proofs.YtbihggbffaigjaaGreatDoor.UI f w c w≠W9:=by rw[WJ];exact z
 have sw:∀x,Dm g root x w->Ch (Go.Proofs.YtbihggbffaigjaaGreatDoor.UI f w c) root w x:=λx m=>by
  rw[zhu hT hI hw hwr hp hc hch];by_cases e:x=w
  ·exact .inl e
  ·refine .inr ((hch x).2 λp F H E=>hI.s p x E ⟨F,λj C=>m.2 (j+1) (.step C H λu=>e u.symm)⟩)
 refine⟨⟨by rw[VV hwr.symm];exact hI.fo.rt,λv l S=>?_,λv l=>?_⟩,λv x l h=>?_,λv x l m=>?_⟩
 ·by_cases e:v=w
  ·subst e;rw[WJ,VV N];exact⟨hc,M⟩
  ·have d:=z5u hT hI hw hwr hp hc hch l e;obtain⟨q,r⟩:=hI.fo.up v d S;rw[VV e];refine⟨?_,r⟩;by_cases u:f v=w
   ·rw[u];exact B
   ·rw[VV u];exact q
 ·by_cases e:v=w
  ·subst e;exact hw
  ·exact hI.fo.in_ v (z5u hT hI hw hwr hp hc hch l e)
 ·have J:∀y,Ch (Go.Proofs.YtbihggbffaigjaaGreatDoor.UI f w c) root w y->Ch par root w y:=λy U=>by
   rcases (zhu hT hI hw hwr hp hc hch).1 U with e| e
   ·subst e;exact .refl _
   ·exact .up hwr ((hI.t _ _ hp O).trans (hI.t _ _ hc e))
  by_cases e:v=w
  ·subst e;exact J x h
  ·have d:=z5u hT hI hw hwr hp hc hch l e;rcases z9v hT hI hw hwr hp hc hch h with h|⟨q,r⟩
   ·exact hI.t v x d h
   ·exact(hI.t v w d q).trans (J x r)
 ·by_cases e:v=w
  ·subst e;exact sw x m
  ·have d:=z5u hT hI hw hwr hp hc hch l e;rcases zgx hT hI hw hwr hp hc hch (hI.s v x d m) with h|⟨q,r,Y,I⟩
   ·exact h
   ·refine q.trans<|sw x ⟨hw,λj C=>?_⟩;have V:=r.mem hI.fo (I.mem hI.fo d).1
    have D:num w<num x:=by
     rcases y0a (num w) (num x) with h| h
     ·exact h
     ·exact absurd (V.2.2 ω) Y
    obtain⟨-,i,hi⟩:=zas hT (hI.t v w d I) (hI.fo.in_ v d) D C;exact m.2 i hi
theorem z82 (q:Pj g root f j)(n:j=0\/∀v,VW g root v->f v≠W9)(m:f root≠W9):∀x i,i<=j+1->Av g root x i w->¬Ch (UI f w c) root w x:=λx i hi d h=>by
 rcases (zhu hT hI hw hwr hp hc hch).1 h with e| e
 ·exact d.ne e.symm
 ·cases d with
  |zero _=>exact hwr O
  | step d r s =>
    rename_i i p
    have l:f p≠W9:=by
     rcases n with e| e
     ·have:i=0:=ω
      subst this;cases d;exact m
     ·exact e p d.rch
    exact q p x i ω d l ((hch x).1 e p d.rch r l)
theorem zdU (n:Pj g root f j)(q:j=0\/∀v,VW g root v->f v≠W9)(l:f root≠W9):Pj g root (UI f w c) j:=λv x i hi d s h=>by
 by_cases e:v=w
 ·subst e;exact z82 hT hI hw hwr hp hc hch n q l x i ω d h
 ·have m:=z5u hT hI hw hwr hp hc hch s e;rcases z9v hT hI hw hwr hp hc hch h with h|⟨z,B⟩
  ·exact n v x i hi d m h
  ·rcases d.split hwr with d|⟨u,r,d⟩
   ·exact n v w i hi d m z
   ·exact z82 hT hI hw hwr hp hc hch n q l x u ω d B
end
structure DsK (g:List (List Nat))(root:Nat)(num par:Nat->Nat)(j k:Nat)(f:Nat->Nat):Prop where
 i:DsI g root num par f
 p:Pj g root f j
 did:∀v,VW g root v->k<=num v->f v≠W9/\∀x i,i<=j+1->Av g root x i v->¬Ch f root v x
def DsI.r0 (hT:TrF g root num par)(h:DsI g root num par f):f root≠W9:=by
 rw[h.fo.rt]
 exact hT.n.no root hT.n.rt
theorem DsK.begin (hT:TrF g root num par)(hI:DsI g root num par f)(e:Pj g root f j):DsK g root num par j (num root) f:=by
 refine⟨hI,e,λv d m=>?_⟩
 obtain rfl:=hT.n.inj v root d hT.n.rt (by have:=hT.n.top v d;omega)
 exact⟨hI.r0 hT,λx i _ l h=>l.ne h.at_root.symm⟩
theorem DsK.next (hT:TrF g root num par)(h:DsK g root num par j (k+1) f)(r:j=0\/∀v,VW g root v->f v≠W9)(hw:VW g root w)(H:num w=k)(D:k<num root)(hc:f c≠W9)(hch:∀x,Ch f root c x↔∀p,VW g root p->w∈Qd g p->f p≠W9->Ch f root p x):DsK g root num par j k (UI f w c)/\(j=0\/∀v,VW g root v->UI f w c v≠W9):=by
 have hwr:w≠root:=λe=>by subst e;omega
 obtain⟨E,J,M⟩:=hT.par w hw hwr
 have hp:=(h.did (par w) E ω).1
 have q:=h.i.r0 hT
 have l:c≠W9:=hT.n.no c (h.i.fo.in_ c hc)
 have m:∀v,f v≠W9->UI f w c v≠W9:=λv d=>by
  by_cases e:v=w
  ·subst e;rw[WJ];exact l
  ·rw[VV e];exact d
 refine⟨⟨DsI.UI hT h.i hw hwr hp hc hch,zdU hT h.i hw hwr hp hc hch h.p r q,λv d I=>?_⟩,r.imp id λe v d=>m v (e v d)⟩
 by_cases e:v=w
 ·subst e;exact⟨by rw[WJ];exact l,z82 hT h.i hw hwr hp hc hch h.p r q⟩
 ·have s:k+1<=num v:=by
   rcases y0a k (num v) with u|u
   ·exact u
   ·exact absurd (hT.n.inj v w d hw ω) e
  obtain⟨z,F⟩:=h.did v d s;refine⟨m v z,λx i hi B C=>F x i hi B ?_⟩;exact(z2d hT h.i hw hwr hp hc hch z ω).1 C
theorem DsK.fin (h:DsK g root num par j 0 f):Pj g root f (j+1)/\∀v,VW g root v->f v≠W9:=
 ⟨λv x i hi d e=>(h.did v d.rch (y03 _)).2 x i hi d,λv e=>(h.did v e (y03 _)).1⟩
structure z4w (g:List (List Nat))(root:Nat)(num par f:Nat->Nat):Prop where
 i:DsI g root num par f
 c:∀v,VW g root v->f v≠W9
 p:∀j,Pj g root f j
theorem z4w.iff (h:z4w g root num par f)(d:VW g root v):Ch f root v x↔Dm g root x v:=
 ⟨λe=>⟨d,λj l=>h.p j v x j (y04 _) l (h.c v d) e⟩,λe=>h.i.s v x (h.c v d) e⟩
theorem z4w.zhj (hT:TrF g root num par)(h:z4w g root num par f)(hw:VW g root w)(hwr:w≠root)(hc:f c≠W9)(hch:∀x,Ch f root c x↔∀p,VW g root p->w∈Qd g p->f p≠W9->Ch f root p x):f w=c:=by
 have n:=h.c w hw
 obtain⟨s,z,C⟩:=hT.par w hw hwr
 obtain⟨u,D⟩:=h.i.fo.up w n hwr
 have key:∀x,Ch f root c x↔Ch f root (f w) x:=λx=>by
  rw[hch];constructor
  ·intro l
   have m:Dm g root x w:=⟨hw,λj d=>by
    cases d with
    |zero _=>exact hwr O
    | step d q B =>
      rename_i j p
      exact((h.iff d.rch).1 (l p d.rch q (h.c p d.rch))).2 j d⟩
   rcases ((h.iff hw).2 m).inv with e| e
   ·subst e;have:=((l (par x) s z (h.c _ s)).mem h.i.fo (h.c _ s)).2.1;omega
   ·exact e.2
  ·intro l p hp q _
   have r:x≠w:=λe=>by
    subst e;have:=(l.mem h.i.fo u).2.1;omega
   have m:=(h.iff hw).1 (.up hwr l);exact(h.iff hp).2 ⟨hp,λj d=>m.2 (j+1) (.step d q r.symm)⟩
 exact Ch.zlJ h.i.fo ((key c).1 (.refl c)) ((key (f w)).2 (.refl _)) u
end
abbrev lft (l:List Nat)(v:Nat):Prop:=l[v]? =some 4294967295
def bkC (l c m:List Nat)(v u:Nat):Prop:=lft l u/\m.getD u 0=1/\c.getD u 0=c.getD v 0
instance (l c m:List Nat) (v u:Nat):Decidable (bkC l c m v u):=by unfold bkC;infer_instance
/-! ### Counting -/
def Xh {p q:Nat->Bool}:∀{l:List Nat},(∀x∈l,p x=true->q x=true)->l.countP p<=l.countP q
 |[],_=>y04 _
 | x :: l, h => by
   have n:=Xh (p:=p) (q:=q) (l:=l) λy e=>h y (y0u _ e);have b:=h x y0r;rw[y0Z,y0Z]
   cases d:p x with
   |false=>simp;omega
   |true=>rw[b d];simp;omega
def ZQ {p q:Nat->Bool}:∀{l:List Nat},(∀x∈l,p x=true->q x=true)->∀{y:Nat},y∈l->p y=false->q y=true->l.countP p<l.countP q
 | x :: l, h, y, hy, h1, h2 => by
   have d:=h x y0r;rw[y0Z,y0Z];rcases y0h.1 hy with e| e
   ·subst e;have r:=Xh (p:=p) (q:=q) (l:=l) λz b=>h z (y0u _ b);rw[h1,h2];simp;omega
   ·have r:=ZQ (p:=p) (q:=q) (l:=l) (λz b=>h z (y0u _ b)) e h1 h2
    cases n:p x with
    |false=>simp;omega
    |true=>rw[d n];simp;omega
open Classical in
noncomputable def Xx (n:Nat)(P:Nat->Prop):Nat:=(List.range n).countP λv=>decide (P v)
open Classical in
def zdR {n:Nat}{Q:Nat->Prop}(h:∀v,v<n->P v->Q v):Xx n P<=Xx n Q:=
 Xh λx d b=>decide_eq_true (h x (y0Q.1 d) (of_decide_eq_true b))
open Classical in
def z1s {n:Nat}{Q:Nat->Prop}(h:∀v,v<n->P v->Q v){v:Nat}(q:v<n)(b:¬P v)(d:Q v):Xx n P<Xx n Q:=
 ZQ (λx r e=>decide_eq_true (h x (y0Q.1 r) (of_decide_eq_true e))) (y0Q.2 q) (decide_eq_false b) (decide_eq_true d)
theorem z4d {n:Nat}:Xx n P<=n:=by
 have:=List.countP_le_length (p:=λv=>@decide (P v) (Classical.propDecidable _)) (l:=List.range n)
 rw[y17] at this
 exact this
theorem zdw {n:Nat}{v:Nat}(b:v<n)(h:P v):0<Xx n P:=by
 have:=z1s (n:=n) (P:=λ_=>False) (Q:=P) (λ_ _ e=>e.elim) b (λe=>e) h
 omega
def Yh {l:List Nat}{v x:Nat}(h:l[v]? =some x):l.getD v 0=x:=by rw[y12,h];rfl
theorem RG {l:List Nat}{v u x:Nat}(h:v<l.length):(l.set v x).getD u 0=if u=v then x else l.getD u 0:=by
 rw[y12,y12]
 split
 ·rename_i e
  subst e;rw[y1d h];rfl
 ·rename_i e
  rw[y0W (Ne.symm e)]
/-! ### Trim -/
section
/-! ### Colours -/
/-! ### Marks -/
end
structure DmS where
 steps:Nat
 fin:Nat
 Qg:Nat
 Rf:Bool
 done:Bool
 num:List Nat
 looked:List Nat
 cand:List Nat
 VD:List Nat
 ord:List Nat
def DmS.push (s:DmS)(v:Nat):DmS:={s with num:=s.num.set v 4294967294,looked:=s.looked.set v 0,VD:=s.VD.set s.Qg v,Qg:=s.Qg+1}
def DmS.new (n root:Nat):DmS:=DmS.push ⟨0,0,0,false,false,List.replicate n 4294967295,List.replicate n 0,List.replicate n 4294967295,List.replicate n 0,List.replicate n 0⟩ root
def DmS.YD (s:DmS)(v:Nat):DmS:={s with num:=s.num.set v s.fin,ord:=s.ord.set s.fin v,fin:=s.fin+1,Qg:=s.Qg-1}
def DmS.look (s:DmS)(v:Nat):DmS:={s with looked:=s.looked.set v (s.looked.getD v 0+1)}
def DmS.move (g:List (List Nat))(s:DmS):DmS:=
 match(Qd g (s.VD.getD (s.Qg-1) 0))[s.looked.getD (s.VD.getD (s.Qg-1) 0) 0]? with
 |none=>s.YD (s.VD.getD (s.Qg-1) 0)
 |some u=>if s.num.getD u 0=4294967295 then(s.look (s.VD.getD (s.Qg-1) 0)).push u else s.look (s.VD.getD (s.Qg-1) 0)
def DmS.Ry (g:List (List Nat)):Nat->DmS->DmS
 |0,s=>s
 |k+1,s=>if 0<s.Qg then DmS.Ry g k (s.move g) else s
/-! ### Sums -/
def z9f {n:Nat}{w d:Nat}(m:w<n)(b:∀v,v≠w->f' v=f v)(h:f' w=f w+d):((List.range n).map f').sum=((List.range n).map f).sum+d:=by
 induction n with
 |zero=>exact absurd m (y2x _)
 | succ n q =>
   rw[y0T,y0f,y0f,y1a,y1a];simp only[y0j,y1D,y0M,y1I];by_cases e:w=n
   ·subst e;have:(List.range w).map f'=(List.range w).map f:=y0N λv l=>b v (by have:=y0Q.1 l;omega);rw[this,h];omega
   ·rw[q ω,b n (Ne.symm e)];omega
def zgY {n:Nat}(h:∀v,v<n->f v<=f' v):((List.range n).map f).sum<=((List.range n).map f').sum:=by
 induction n with
 |zero=>exact y04 _
 | succ n b =>
   rw[y0T,y0f,y0f,y1a,y1a];simp only[y0j,y1D,y0M,y1I];have:=b λv d=>h v ω;have:=h n ω;omega
theorem zaG {n:Nat}:((List.range n).map λ_=>c).sum=n*c:=by
 induction n with
 |zero=>simp
 | succ n b =>
   rw[y0T,y0f,y1a,b,y0q];simp
def Z1 (n:Nat)(s:DmS):Nat:=s.fin+((List.range n).map λv=>if s.num.getD v 0=4294967295 then 0 else s.looked.getD v 0).sum
structure YE (g:List (List Nat))(root:Nat)(s:DmS):Prop where
 nn:s.num.length=g.length
 ln:s.looked.length=g.length
 cn:s.cand=List.replicate g.length 4294967295
 sn:s.VD.length=g.length
 on:s.ord.length=g.length
 st:∀i,i<s.Qg->s.VD.getD i 0<g.length/\s.num.getD (s.VD.getD i 0) 0=4294967294
 inj:∀i j,i<j->j<s.Qg->s.VD.getD i 0≠s.VD.getD j 0
 op:∀v,v<g.length->s.num.getD v 0=4294967294->∃i,i<s.Qg/\s.VD.getD i 0=v
 od:∀i,i<s.fin->s.ord.getD i 0<g.length/\s.num.getD (s.ord.getD i 0) 0=i
 no:∀v,v<g.length->s.num.getD v 0=4294967295\/s.num.getD v 0=4294967294\/(s.num.getD v 0<s.fin/\s.ord.getD (s.num.getD v 0) 0=v)
 rt:(0<s.Qg->s.VD.getD 0 0=root)/\(s.Qg=0->s.num.getD root 0+1=s.fin)
 re:∀v,v<g.length->s.num.getD v 0≠4294967295->VW g root v
 ed:∀i,i+1<s.Qg->s.VD.getD (i+1) 0∈Qd g (s.VD.getD i 0)
 lk:∀v,v<g.length->s.num.getD v 0≠4294967295->s.looked.getD v 0<=(Qd g v).length/\∀j u,j<s.looked.getD v 0->(Qd g v)[j]? =some u->s.num.getD u 0≠4294967295
 fn:∀v,v<g.length->s.num.getD v 0<s.fin->s.looked.getD v 0=(Qd g v).length
 pr:∀v,v<g.length->s.num.getD v 0<s.fin->v≠root->∃p,p<g.length/\v∈Qd g p/\(s.num.getD p 0=4294967294\/(s.num.getD p 0<s.fin/\s.num.getD v 0<s.num.getD p 0))
 ct:s.fin+s.Qg<=Xx g.length (λv=>s.num.getD v 0≠4294967295)
section
variable {v u:Nat}{s:DmS}
def YE.fh (h:YE g root s):s.fin+s.Qg<=g.length:=y0c h.ct z4d
theorem YE.push (h:YE g root s)(hg:Sg g){u:Nat}(x:u<g.length)(M:s.num.getD u 0=4294967295)(a:VW g root u)(c:s.Qg=0->u=root/\s.fin=0)(Y:0<s.Qg->u∈Qd g (s.VD.getD (s.Qg-1) 0)):YE g root (s.push u):=by
 have S:=hg.n
 have Z:=h.fh
 have z:s.fin+(s.Qg+1)<=Xx g.length (λv=>(s.num.set u 4294967294).getD v 0≠4294967295):=by
  have r:=h.ct
  have m:Xx g.length (λv=>s.num.getD v 0≠4294967295)<Xx g.length (λv=>(s.num.set u 4294967294).getD v 0≠4294967295):=z1s (λv _ d=>by
   rw[RG (by rw[h.nn];exact x)];split
   ·decide
   ·exact d) x (λe=>e M) (by rw[RG (by rw[h.nn];exact x),if_pos O];decide)
  omega
 have F:s.Qg<g.length:=by
  have:=y0c z z4d;omega
 have l:∀v,(s.push u).num.getD v 0=if v=u then 4294967294 else s.num.getD v 0:=λv=>RG (by rw[h.nn];exact x)
 have R:∀v,(s.push u).looked.getD v 0=if v=u then 0 else s.looked.getD v 0:=λv=>RG (by rw[h.ln];exact x)
 have gs:∀i,(s.push u).VD.getD i 0=if i=s.Qg then u else s.VD.getD i 0:=λi=>RG (by rw[h.sn];exact F)
 have D:∀i,i<s.Qg->s.VD.getD i 0≠u:=λi hi e=>by
  have:=(h.st i hi).2;rw[e,M] at this;cases this
 have q:(s.push u).Qg=s.Qg+1:=rfl
 have y:(s.push u).fin=s.fin:=rfl
 have go:(s.push u).ord=s.ord:=rfl
 refine⟨by show(s.num.set _ _).length=_;rw[y0A];exact h.nn,by show(s.looked.set _ _).length=_;rw[y0A];exact h.ln,h.cn,by show(s.VD.set _ _).length=_;rw[y0A];exact h.sn,h.on,λi hi=>?_,λi j H C=>?_,λv d e=>?_,λi hi=>?_,λv d=>?_,⟨λ_=>?_,λe=>?_⟩,λv d e=>?_,λi hi=>?_,λv d e=>?_,λv d e=>?_,λv d e N=>?_,z⟩
 ·rw[q] at hi;rw[gs];split
  ·rename_i e
   rw[l,if_pos O];exact⟨x,O⟩
  ·rename_i e
   have B:i<s.Qg:=ω
   rw[l,if_neg (D i B)];exact h.st i B
 ·rw[q] at C;rw[gs,gs,if_neg (show i≠s.Qg by omega)];split
  ·exact D i ω
  ·exact h.inj i j H ω
 ·rw[l] at e;by_cases b:v=u
  ·exact⟨s.Qg,by rw[q];omega,by rw[gs,if_pos O];exact b.symm⟩
  ·rw[if_neg b] at e;obtain⟨i,hi,I⟩:=h.op v d e;exact⟨i,by rw[q];omega,by rw[gs,if_neg ω];exact I⟩
 ·rw[y] at hi;rw[go];obtain⟨r,m⟩:=h.od i hi;refine⟨r,?_⟩;rw[l,if_neg (λe=>?_)]
  ·exact m
  ·rw[e,M] at m;omega
 ·rw[l,y,go];split
  ·exact .inr (.inl O)
  ·exact h.no v d
 ·rw[gs];split
  ·rename_i e;exact(c e.symm).1
  ·rename_i e;exact h.rt.1 ω
 ·rw[q] at e;omega
 ·rw[l] at e;split at e
  ·rename_i b;rw[b];exact a
  ·exact h.re v d e
 ·rw[q] at hi;rw[gs,gs,if_neg (show i≠s.Qg by omega)];split
  ·rename_i e
   have:=Y ω;rw[show s.Qg-1=i by omega] at this;exact this
  ·exact h.ed i ω
 ·rw[l] at e;rw[R];split
  ·rename_i b
   exact⟨y03 _,λj U C=>absurd C (y2x _)⟩
  ·rename_i b
   rw[if_neg b] at e;obtain⟨r,m⟩:=h.lk v d e;refine⟨r,λj U C J=>?_⟩;rw[l];split
   ·decide
   ·exact m j U C J
 ·rw[l,y] at e;rw[R];split
  ·rename_i b
   rw[if_pos b] at e;omega
  ·rename_i b
   rw[if_neg b] at e;exact h.fn v d e
 ·rw[l,y] at e;have E:v≠u:=λb=>by rw[if_pos b] at e;omega
  rw[if_neg E] at e;obtain⟨p,r,m,V⟩:=h.pr v d e N;refine⟨p,r,m,?_⟩;rw[l,l,y,if_neg E];split
  ·exact .inl O
  ·exact V
theorem YE.look (h:YE g root s)(hg:Sg g)(H:v<g.length)(y:s.num.getD v 0=4294967294)(m:(Qd g v)[s.looked.getD v 0]? =some u)(r:s.num.getD u 0≠4294967295):YE g root (s.look v):=by
 have B:∀x,(s.look v).looked.getD x 0=if x=v then s.looked.getD v 0+1 else s.looked.getD x 0:=λx=>RG (by rw[h.ln];exact H)
 have F:=h.fh
 have J:=hg.n
 refine⟨h.nn,by show(s.looked.set _ _).length=_;rw[y0A];exact h.ln,h.cn,h.sn,h.on,h.st,h.inj,h.op,h.od,h.no,h.rt,h.re,h.ed,λx z e=>?_,λx z e=>?_,h.pr,h.ct⟩
 ·obtain⟨E,C⟩:=h.lk x z e;rw[B];split
  ·rename_i d
   subst d
   have q:s.looked.getD x 0<(Qd g x).length:=by
    rcases y0a (s.looked.getD x 0) (Qd g x).length with l|l
    ·exact l
    ·rw[y0v l] at m;cases m
   refine⟨q,λi I hi b=>?_⟩;by_cases D:i=s.looked.getD x 0
   ·subst D;rw[m] at b;obtain rfl:=y16 b;exact r
   ·exact C i I ω b
  ·exact⟨E,C⟩
 ·rw[B];split
  ·rename_i d
   have e:s.num.getD x 0<s.fin:=e;rw[d,y] at e;omega
  ·exact h.fn x z e
theorem YE.YD (h:YE g root s)(hg:Sg g)(S:0<s.Qg)(f:(Qd g (s.VD.getD (s.Qg-1) 0))[s.looked.getD (s.VD.getD (s.Qg-1) 0) 0]? =none):YE g root (s.YD (s.VD.getD (s.Qg-1) 0)):=by
 have k:=hg.n
 have K:=h.fh
 obtain⟨v,d⟩:∃v,s.VD.getD (s.Qg-1) 0=v:=⟨_,O⟩
 have H:=h.st (s.Qg-1) ω
 rw[d] at f H⊢
 obtain⟨Z,C⟩:=H
 have R:s.fin<g.length:=ω
 have q:∀x,(s.YD v).num.getD x 0=if x=v then s.fin else s.num.getD x 0:=λx=>RG (by rw[h.nn];exact Z)
 have go:∀i,(s.YD v).ord.getD i 0=if i=s.fin then v else s.ord.getD i 0:=λi=>RG (by rw[h.on];exact R)
 have D:(s.YD v).Qg=s.Qg-1:=rfl
 have z:(s.YD v).fin=s.fin+1:=rfl
 have gs:(s.YD v).VD=s.VD:=rfl
 have a:(s.YD v).looked=s.looked:=rfl
 have Y:s.looked.getD v 0=(Qd g v).length:=by
  have b:=(h.lk v Z (by rw[C];decide)).1;have r:=List.getElem?_eq_none_iff.1 f;omega
 have y:∀x,(s.YD v).num.getD x 0≠4294967295↔s.num.getD x 0≠4294967295:=λx=>by
  rw[q];split
  ·rename_i e;rw[e,C];exact⟨λ_=>ψ,λ_=>ω⟩
  ·exact y0R
 have E:∀i,i<s.Qg-1->s.VD.getD i 0≠v:=λi hi=>by rw[<-d];exact h.inj i _ hi ω
 refine⟨by show(s.num.set _ _).length=_;rw[y0A];exact h.nn,h.ln,h.cn,h.sn,by show(s.ord.set _ _).length=_;rw[y0A];exact h.on,λi hi=>?_,λi j U V=>?_,λx l e=>?_,λi hi=>?_,λx l=>?_,⟨λe=>?_,λe=>?_⟩,λx l e=>?_,λi hi=>?_,λx l e=>?_,λx l e=>?_,λx l e J=>?_,?_⟩
 ·rw[D] at hi;rw[gs,q,if_neg (E i hi)];exact h.st i ω
 ·rw[D] at V;exact h.inj i j U ω
 ·rw[q] at e;by_cases m:x=v
  ·rw[if_pos m] at e;omega
  ·rw[if_neg m] at e;obtain⟨i,hi,B⟩:=h.op x l e;refine⟨i,?_,B⟩;rw[D];by_cases A:i=s.Qg-1
   ·rw[A,d] at B;exact absurd B.symm m
   ·omega
 ·rw[z] at hi;rw[go];split
  ·rename_i e
   rw[q,if_pos O];exact⟨Z,e.symm⟩
  ·rename_i e
   obtain⟨b,r⟩:=h.od i ω;refine⟨b,?_⟩;rw[q,if_neg (λm=>?_)]
   ·exact r
   ·rw[m,C] at r;omega
 ·rw[q,z,go];split
  ·rename_i e
   exact .inr (.inr ⟨ω,by rw[if_pos O];exact e.symm⟩)
  ·rcases h.no x l with b|b|⟨b,r⟩
   ·exact .inl b
   ·exact .inr (.inl b)
   ·exact .inr (.inr ⟨ω,by rw[if_neg ω];exact r⟩)
 ·rw[gs];exact h.rt.1 S
 ·rw[D] at e;have w:s.Qg-1=0:=e;have t:=h.rt.1 S;rw[w] at d;rw[d] at t;rw[q,z,if_pos t.symm]
 ·exact h.re x l ((y x).1 e)
 ·rw[D] at hi;exact h.ed i ω
 ·obtain⟨b,r⟩:=h.lk x l ((y x).1 e);rw[a];exact⟨b,λj u V L=>(y u).2 (r j u V L)⟩
 ·rw[q,z] at e;rw[a];by_cases m:x=v
  ·rw[m];exact Y
  ·rw[if_neg m] at e;refine h.fn x l ?_;rcases h.no x l with b|b|⟨b,r⟩
   ·omega
   ·omega
   ·exact b
 ·rw[q,z] at e;by_cases m:x=v
  ·subst m
   have o:0<s.Qg-1:=by
    rcases y0D (s.Qg-1) with N|N
    ·rw[N] at d;have:=h.rt.1 S;rw[d] at this;exact absurd this J
    ·exact N
   have c:=h.ed (s.Qg-2) ω;rw[show s.Qg-2+1=s.Qg-1 by omega,d] at c;have F:=h.st (s.Qg-2) ω;refine⟨_,F.1,c,.inl ?_⟩;rw[q,if_neg (E _ ω)];exact F.2
  ·rw[if_neg m] at e
   have I:s.num.getD x 0<s.fin:=by
    rcases h.no x l with b|b|⟨b,r⟩
    ·omega
    ·omega
    ·exact b
   obtain⟨p,b,r,M⟩:=h.pr x l I J;refine⟨p,b,r,?_⟩;rw[q,q,z,if_neg m];split
   ·exact .inr ⟨ω,I⟩
   ·rcases M with M|⟨M,G⟩
    ·exact .inl M
    ·exact .inr ⟨ω,G⟩
 ·have b:=h.ct;rw[z,D];have r:Xx g.length (λv=>s.num.getD v 0≠4294967295)<=Xx g.length (λx=>(s.YD v).num.getD x 0≠4294967295):=zdR λx _ e=>(y x).2 e;omega
theorem YE.new (hg:Sg g)(r:root<g.length):YE g root (DmS.new g.length root):=by
 have z:=hg.n
 have m:∀x,(DmS.new g.length root).num.getD x 0=if x=root then 4294967294 else(List.replicate g.length 4294967295).getD x 0:=λx=>RG (by rw[y0b];exact r)
 have b:∀x c,x<g.length->(List.replicate g.length c).getD x 0=c:=λx c d=>by rw[y12,y1b,if_pos d];rfl
 have gs:∀i,(DmS.new g.length root).VD.getD i 0=if i=0 then root else(List.replicate g.length 0).getD i 0:=λi=>RG (by rw[y0b];show 0<g.length;omega)
 have B:∀x,(DmS.new g.length root).looked.getD x 0=0:=λx=>by
  show((List.replicate g.length 0).set root 0).getD x 0=0;rw[RG (by rw[y0b];exact r)];split
  ·rfl
  ·rw[y12,y1b];split<;>rfl
 have h:(DmS.new g.length root).Qg=1:=rfl
 have q:(DmS.new g.length root).fin=0:=rfl
 refine⟨by show(List.set _ _ _).length=_;rw[y0A,y0b],by show(List.set _ _ _).length=_;rw[y0A,y0b],O,by show(List.set _ _ _).length=_;rw[y0A,y0b],y0b,λi hi=>?_,λi j C y=>?_,λx d e=>?_,λi hi=>?_,λx d=>?_,⟨λe=>?_,λe=>?_⟩,λx d e=>?_,λi hi=>?_,λx d e=>?_,λx d e=>?_,λx d e D=>?_,?_⟩
 ·rw[h] at hi;rw[gs,if_pos ω,m,if_pos O];exact⟨r,O⟩
 ·rw[h] at y;omega
 ·rw[m] at e;by_cases l:x=root
  ·exact⟨0,by rw[h];omega,by rw[gs,if_pos O];exact l.symm⟩
  ·rw[if_neg l,b x _ d] at e;cases e
 ·rw[q] at hi;omega
 ·rw[m];split
  ·exact .inr (.inl O)
  ·exact .inl (b x _ d)
 ·rw[gs,if_pos O]
 ·rw[h] at e;cases e
 ·rw[m] at e;by_cases l:x=root
  ·rw[l];exact .refl
  ·rw[if_neg l,b x _ d] at e;exact absurd O e
 ·rw[h] at hi;omega
 ·rw[B];exact⟨y03 _,λj u y=>absurd y (y2x _)⟩
 ·rw[q] at e;omega
 ·rw[q] at e;omega
 ·rw[q,h];exact zdw r (by rw[m,if_pos O];decide)
theorem YE.move (h:YE g root s)(hg:Sg g)(N:0<s.Qg):YE g root (s.move g)/\Z1 g.length (s.move g)=Z1 g.length s+1:=by
 have E:=hg.n
 have M:=h.fh
 obtain⟨m,b⟩:=h.st (s.Qg-1) ω
 unfold DmS.move
 cases z:(Qd g (s.VD.getD (s.Qg-1) 0))[s.looked.getD (s.VD.getD (s.Qg-1) 0) 0]? with
 | none =>
   refine⟨h.YD hg N z,?_⟩
   generalize s.VD.getD (s.Qg-1) 0=v at m b z
   have:((List.range g.length).map λx=>if(s.YD v).num.getD x 0=4294967295 then 0 else s.looked.getD x 0)=(List.range g.length).map λx=>if s.num.getD x 0=4294967295 then 0 else s.looked.getD x 0:=by
    refine y0N λx _=>?_;show(if(s.num.set v s.fin).getD x 0=4294967295 then 0 else s.looked.getD x 0)=_;rw[RG (by rw[h.nn];exact m)];by_cases e:x=v
    ·rw[if_pos e,e,b,if_neg ω,if_neg ψ]
    ·rw[if_neg e]
   show s.fin+1+((List.range g.length).map λx=>if(s.YD v).num.getD x 0=4294967295 then 0 else s.looked.getD x 0).sum=s.fin+_+1
   rw[this];omega
 | some u =>
   have r:u∈Qd g (s.VD.getD (s.Qg-1) 0):=y0i z;have l:u<g.length:=Vj hg _ u r;dsimp only;split
   ·rename_i q
    have B:=h.re _ m (by rw[b];decide);have J:=h.push hg l q (.step B r) (λe=>ω) λ_=>r
    generalize s.VD.getD (s.Qg-1) 0=v at m b z r B
    have y:v≠u:=λe=>by rw[e,q] at b;cases b
    have C:(s.push u).looked.getD v 0=s.looked.getD v 0:=by
     show(s.looked.set u 0).getD v 0=_;rw[RG (by rw[h.ln];exact l),if_neg y]
    have F:(s.look v).push u=(s.push u).look v:=by
     show DmS.mk .. =DmS.mk ..
     congr 1
     show(s.looked.set v _).set u 0=(s.looked.set u 0).set v ((s.push u).looked.getD v 0+1);rw[C];exact List.set_comm _ _ y
    have H:(s.push u).num.getD u 0=4294967294:=by
     show(s.num.set u 4294967294).getD u 0=_;rw[RG (by rw[h.nn];exact l),if_pos O]
    have I:(s.push u).num.getD v 0=4294967294:=by
     show(s.num.set u 4294967294).getD v 0=_;rw[RG (by rw[h.nn];exact l),if_neg y];exact b
    rw[F];refine⟨J.look hg m I (by rw[C];exact z) (by rw[H];decide),?_⟩
    have:=z9f (n:=g.length) (f:=λx=>if s.num.getD x 0=4294967295 then 0 else s.looked.getD x 0) (f':=λx=>if((s.push u).look v).num.getD x 0=4294967295 then 0 else((s.push u).look v).looked.getD x 0) (w:=v) (d:=1) m (λx D=>by
     show(if(s.num.set u 4294967294).getD x 0=4294967295 then 0 else((s.looked.set u 0).set v _).getD x 0)=if s.num.getD x 0=4294967295 then 0 else s.looked.getD x 0;rw[RG (by rw[h.nn];exact l),RG (by rw[y0A,h.ln];exact m),if_neg D,RG (by rw[h.ln];exact l)];by_cases e:x=u
     ·rw[if_pos e,if_pos e,e,q];rfl
     ·rw[if_neg e,if_neg e]) (by
     show(if(s.num.set u 4294967294).getD v 0=4294967295 then 0 else((s.looked.set u 0).set v ((s.push u).looked.getD v 0+1)).getD v 0)=(if s.num.getD v 0=4294967295 then 0 else s.looked.getD v 0)+1
     rw[RG (by rw[h.nn];exact l),RG (by rw[y0A,h.ln];exact m),if_pos O,C,if_neg y,b];rfl)
    show s.fin+((List.range g.length).map (λx=>if((s.push u).look v).num.getD x 0=4294967295 then 0 else((s.push u).look v).looked.getD x 0)).sum=s.fin+_+1;rw[this];omega
   ·rename_i q
    refine⟨h.look hg m b z q,?_⟩
    generalize s.VD.getD (s.Qg-1) 0=v at m b z r
    have:=z9f (n:=g.length) (f:=λx=>if s.num.getD x 0=4294967295 then 0 else s.looked.getD x 0) (f':=λx=>if(s.look v).num.getD x 0=4294967295 then 0 else(s.look v).looked.getD x 0) (w:=v) (d:=1) m (λx D=>by
     show(if s.num.getD x 0=4294967295 then 0 else(s.looked.set v _).getD x 0)=if s.num.getD x 0=4294967295 then 0 else s.looked.getD x 0
     rw[RG (by rw[h.ln];exact m),if_neg D]) (by
     show(if s.num.getD v 0=4294967295 then 0 else(s.looked.set v _).getD v 0)=(if s.num.getD v 0=4294967295 then 0 else s.looked.getD v 0)+1
     rw[RG (by rw[h.ln];exact m),if_pos O,b];rfl)
    show s.fin+((List.range g.length).map (λx=>if(s.look v).num.getD x 0=4294967295 then 0 else(s.look v).looked.getD x 0)).sum=s.fin+_+1;rw[this];omega
theorem YE.Ry (hg:Sg g):∀(k:Nat) {s:DmS},YE g root s->YE g root (s.Ry g k)/\((0<(s.Ry g k).Qg/\Z1 g.length (s.Ry g k)=Z1 g.length s+k)\/((s.Ry g k).Qg=0/\Z1 g.length (s.Ry g k)<=Z1 g.length s+k/\(0<s.Qg->0<k->Z1 g.length s<Z1 g.length (s.Ry g k))))
 | 0, s, h => by
   refine⟨h,?_⟩;rcases y0D s.Qg with e| e
   ·exact .inr ⟨e,y04 _,λ_ h=>absurd h (Nat.lt_irrefl _)⟩
   ·exact .inl ⟨e,O⟩
 | k + 1, s, h => by
   have m:s.Ry g (k+1)=if 0<s.Qg then(s.move g).Ry g k else s:=rfl;rw[m];split
   ·rename_i l
    obtain⟨n,z⟩:=h.move hg l;obtain⟨q,b⟩:=YE.Ry hg k n;refine⟨q,?_⟩;rcases b with⟨b,r⟩|⟨b,r,x⟩
    ·exact .inl ⟨b,ω⟩
    ·refine .inr ⟨b,ω,λ_ _=>?_⟩
     have y:∀k,(s.move g).Qg=0->(s.move g).Ry g k=s.move g:=λk d=>by
      cases k with
      |zero=>rfl
      | succ k =>
        show(if 0<(s.move g).Qg then _ else _)=_;rw[if_neg ω]
     rcases y0D k with e| e
     ·subst e;show _<Z1 g.length (s.move g);omega
     ·rcases y0D (s.move g).Qg with d|d
      ·rw[y k d];omega
      ·have:=x d e;omega
   ·rename_i l
    exact⟨h,.inr ⟨ω,ω,λe=>absurd e l⟩⟩
theorem YE.found (h:YE g root s)(hg:Sg g)(H:root<g.length)(D:s.Qg=0):(∀v,v<g.length->(s.num.getD v 0≠4294967295↔VW g root v))/\(∀v,VW g root v->s.num.getD v 0<s.fin/\s.ord.getD (s.num.getD v 0) 0=v)/\s.num.getD root 0+1=s.fin:=by
 have C:=hg.n
 have E:=h.fh
 have z:=h.rt.2 D
 have r:∀v,v<g.length->s.num.getD v 0≠4294967295->s.num.getD v 0<s.fin/\s.ord.getD (s.num.getD v 0) 0=v:=λv d e=>by
  rcases h.no v d with m|m|m
  ·exact absurd m e
  ·obtain⟨i,hi,-⟩:=h.op v d m;omega
  ·exact m
 have key:∀v,VW g root v->v<g.length/\s.num.getD v 0≠4294967295:=λv d=>by
  induction d with
  |refl=>exact⟨H,ω⟩
  | @step x b _ hx ih =>
    obtain⟨l,q⟩:=ih;have y:=Vj hg x b hx;refine⟨y,?_⟩;obtain⟨I,-⟩:=r x l q;have J:=h.fn x l I;obtain⟨j,B⟩:=y2U hx;have F:j<(Qd g x).length:=(y0l.1 B).1;exact(h.lk x l q).2 j b ω B
 exact⟨λv d=>⟨h.re v d,λe=>(key v e).2⟩,λv d=>r v (key v d).1 (key v d).2,z⟩
theorem YE.tree (h:YE g root s)(hg:Sg g)(x:root<g.length)(D:s.Qg=0):∃par,TrF g root (λv=>s.num.getD v 0) par:=by
 have B:=hg.n
 have E:=h.fh
 obtain⟨M,m,N⟩:=h.found hg x D
 have F:∀v,∃p,VW g root v->v≠root->VW g root p/\v∈Qd g p/\s.num.getD v 0<s.num.getD p 0:=λv=>by
  by_cases b:VW g root v/\v≠root
  ·have y:=b.1.lt hg x;obtain⟨p,C,I,q⟩:=h.pr v y (m v b.1).1 b.2;refine⟨p,λ_ _=>?_⟩;rcases q with q|⟨q,J⟩
   ·obtain⟨i,hi,-⟩:=h.op p C q;omega
   ·exact⟨h.re p C ω,I,J⟩
  ·exact⟨0,λl r=>absurd ⟨l,r⟩ b⟩
 obtain⟨par,d⟩:=Classical.skolem.1 F
 refine⟨par,⟨⟨.refl,λv b=>?_,λu v H b e=>?_,λv b=>?_⟩,λv b z=>d v b z⟩⟩
 ·have:=(m v b).1;show s.num.getD v 0<=s.num.getD root 0;omega
 ·have l:=(m u H).2;have r:=(m v b).2;have e:s.num.getD u 0=s.num.getD v 0:=e;rw[e] at l;rw[<-l,r]
 ·have:=b.lt hg x;show v≠4294967295;omega
theorem YE.total (h:YE g root s)(hg:Sg g):Z1 g.length s<=g.length+g.length*g.length:=by
 have l:=h.fh
 have m:((List.range g.length).map λv=>if s.num.getD v 0=4294967295 then 0 else s.looked.getD v 0).sum<=g.length*g.length:=by
  refine y0c (zgY (f':=λ_=>g.length) λv d=>?_) (by rw[zaG];exact y04 _);split
  ·exact y03 _
  ·rename_i e
   refine y0c (h.lk v d e).1 ?_;have b:g[v]? =some (Qd g v):=by unfold Qd;rw[y07 d];rfl
   exact hg.len (y0i b)
 unfold Z1
 omega
end
abbrev UJ (l:List Nat)(v:Nat):Nat:=l.getD v 4294967295
abbrev nF (l:List Nat)(v:Nat):Nat:=l.getD v 0
def meS (n:Nat)(num cand:List Nat)(c p:Nat):Nat:=if UJ cand p=4294967295 then c else if c=4294967295 then p else(meetF (nF num) (UJ cand) (2*n) c p).getD 0
def dsC (t:List (List Nat))(n:Nat)(num cand:List Nat)(v:Nat):Nat:=(Qd t v).foldl (meS n num cand) 4294967295
def dsV (t:List (List Nat))(n:Nat)(num ord:List Nat)(a:List Nat×Bool)(k:Nat):List Nat×Bool:=if UJ a.1 (ord.getD k 0)=dsC t n num a.1 (ord.getD k 0) then a else(a.1.set (ord.getD k 0) (dsC t n num a.1 (ord.getD k 0)),true)
def YZ (t:List (List Nat))(n:Nat)(num ord:List Nat):Nat->List Nat×Bool->List Nat×Bool
 |0,a=>a
 |k+1,a=>YZ t n num ord k (dsV t n num ord a k)
theorem z9O {l:List Nat}{w:Nat}(h:w<l.length):UJ (l.set w c)=UI (UJ l) w c:=by
 funext v
 unfold UI UJ
 rw[y12,y12]
 by_cases e:v=w
 ·subst e;rw[y1d h,if_pos O];rfl
 ·rw[y0W (Ne.symm e),if_neg e]
section
variable {n w:Nat}{num:List Nat}
def FdI (root:Nat)(f:Nat->Nat)(c:Nat)(A:Nat->Prop):Prop:=(c=4294967295/\∀p,A p->f p=4294967295)\/(f c≠4294967295/\(∃p,A p/\f p≠4294967295)/\∀x,Ch f root c x↔∀p,A p->f p≠4294967295->Ch f root p x)
def FdI.one (v:TrF g root (nF num) par)(u:DsI g root (nF num) par (UJ cand))(B:nF num root<n)(h:FdI root (UJ cand) c A):FdI root (UJ cand) (meS n num cand c p) (λq=>A q\/q=p):=by
 unfold meS
 by_cases l:UJ cand p=4294967295
 ·rw[if_pos l];rcases h with⟨r,s⟩|⟨r,⟨q,s,z⟩,y⟩
  ·exact .inl ⟨r,λq e=>e.elim (s q) λe=>e▸l⟩
  ·refine .inr ⟨r,⟨q,.inl s,z⟩,λx=>(y x).trans ⟨λe q b m=>b.elim (λb=>e q b m) λb=>absurd l (b▸m),λe q b m=>e q (.inl b) m⟩⟩
 ·rw[if_neg l];rcases h with⟨r,s⟩|⟨r,⟨q,s,z⟩,y⟩
  ·rw[if_pos r];refine .inr ⟨l,⟨p,.inr O,l⟩,λx=>⟨λe q b m=>b.elim (λb=>absurd (s q b) m) λb=>b▸e,λe=>e p (.inr O) l⟩⟩
  ·rw[if_neg (v.n.no c (u.fo.in_ c r))];have t1:=v.n.top c (u.fo.in_ c r);have t2:=v.n.top p (u.fo.in_ p l);obtain⟨d,d1,d2,d3⟩:=z36 v.n u.fo (2*n) c p r l ω;rw[d1];refine .inr ⟨d2,⟨p,.inr O,l⟩,λx=>(d3 x).trans ?_⟩;rw[y x];exact⟨λe q b m=>b.elim (λb=>e.1 q b m) λb=>b▸e.2,λe=>⟨λq b m=>e q (.inl b) m,e p (.inr O) l⟩⟩
theorem FdI.all (l:TrF g root (nF num) par)(d:DsI g root (nF num) par (UJ cand))(m:nF num root<n):∀{ps:List Nat} {c:Nat} {A:Nat->Prop},FdI root (UJ cand) c A->FdI root (UJ cand) (ps.foldl (meS n num cand) c) (λq=>A q\/q∈ps)
 | [], c, A, h => by
   have e:(λq=>A q\/q∈([]:List Nat))=A:=by funext q;simp
   rw[e];exact h
 | p :: ps, c, A, h => by
   have b:=FdI.all l d m (ps:=ps) (FdI.one l d m (p:=p) h)
   have e:(λq=>(A q\/q=p)\/q∈ps)=λq=>A q\/q∈p::ps:=by
    funext q
    rw[y0h,or_assoc]
   rw[e] at b;exact b
theorem z6h (q:TrF g root (nF num) par)(m:DsI g root (nF num) par (UJ cand))(y:nF num root<n)(ht:∀u v,u∈Qd t v↔v∈Qd g u)(D:VW g root w)(d:w≠root)(z:UJ cand (par w)≠4294967295):
  UJ cand (dsC t n num cand w)≠4294967295/\∀x,Ch (UJ cand) root (dsC t n num cand w) x↔∀p,VW g root p->w∈Qd g p->UJ cand p≠4294967295->Ch (UJ cand) root p x:=by
 have h:=FdI.all q m y (ps:=Qd t w) (c:=4294967295) (A:=λ_=>False) (.inl ⟨O,λ_ e=>e.elim⟩)
 obtain⟨F,E,H⟩:=q.par w D d
 rcases h with⟨l,r⟩|⟨l,-,s⟩
 ·exact absurd (r (par w) (.inr ((ht _ _).2 E))) z
 ·refine⟨l,λx=>(s x).trans ⟨λe p _ C b=>e p (.inr ((ht _ _).2 C)) b,λe p B b=>e p (m.fo.in_ p b) ((ht _ _).1 (B.resolve_left id)) b⟩⟩
structure Fnd (g:List (List Nat))(root:Nat)(num ord:List Nat)(fin:Nat):Prop where
 r:∀v,v<g.length->(nF num v≠4294967295↔VW g root v)
 o:∀v,VW g root v->nF num v<fin/\ord.getD (nF num v) 0=v
 d:∀i,i<fin->VW g root (ord.getD i 0)/\nF num (ord.getD i 0)=i
 t:nF num root+1=fin
 f:fin<=g.length
structure DwI (g:List (List Nat))(root:Nat)(num:List Nat)(par:Nat->Nat)(cand:List Nat)(j:Nat):Prop where
 n:cand.length=g.length
 i:DsI g root (nF num) par (UJ cand)
 p:Pj g root (UJ cand) j
 c:j=0\/∀v,VW g root v->UJ cand v≠4294967295
structure DwK (g:List (List Nat))(root:Nat)(num:List Nat)(par:Nat->Nat)(cand:List Nat)(j k:Nat):Prop where
 n:cand.length=g.length
 k:DsK g root (nF num) par j k (UJ cand)
 c:j=0\/∀v,VW g root v->UJ cand v≠4294967295
theorem DwK.one {fin:Nat}{b:Bool}(hg:Sg g)(s:TrF g root (nF num) par)(r:Fnd g root num ord fin)(ht:∀u v,u∈Qd t v↔v∈Qd g u)(F:k+1<fin)(h:DwK g root num par cand j (k+1))(D:root<g.length):DwK g root num par (dsV t g.length num ord (cand,b) k).1 j k/\((dsV t g.length num ord (cand,b) k).2=false->b=false/\(dsV t g.length num ord (cand,b) k).1=cand)/\(UJ (dsV t g.length num ord (cand,b) k).1=UI (UJ cand) (ord.getD k 0) (dsC t g.length num cand (ord.getD k 0))):=by
 obtain⟨d1,d2⟩:=r.d k ω
 have B:=r.t
 have z:=r.f
 have q:ord.getD k 0≠root:=λe=>by rw[e] at d2;omega
 obtain⟨E,H,I⟩:=s.par _ d1 q
 have C:=(h.k.did (par (ord.getD k 0)) E ω).1
 obtain⟨c1,c2⟩:=z6h (n:=g.length) (t:=t) s h.k.i ω ht d1 q C
 obtain⟨n1,n2⟩:=h.k.next s h.c d1 d2 ω c1 c2
 have x:=d1.lt hg D
 have y:ord.getD k 0<cand.length:=by rw[h.n];exact x
 have m:=z9O (l:=cand) (c:=dsC t g.length num cand (ord.getD k 0)) y
 unfold dsV
 dsimp only
 by_cases e:UJ cand (ord.getD k 0)=dsC t g.length num cand (ord.getD k 0)
 ·rw[if_pos e];rw[<-e,zbM] at n1 n2⊢;exact⟨⟨h.n,n1,n2⟩,λe=>⟨e,O⟩,O⟩
 ·rw[if_neg e];rw[<-m] at n1 n2;exact⟨⟨by show(cand.set _ _).length=_;rw[y0A];exact h.n,n1,n2⟩,(λe=>by cases e),m⟩
theorem DwK.run {fin j:Nat}(hg:Sg g)(l:TrF g root (nF num) par)(d:Fnd g root num ord fin)(ht:∀u v,u∈Qd t v↔v∈Qd g u)(m:root<g.length):∀(k:Nat) {cand:List Nat} {b:Bool},k<fin->DwK g root num par cand j k->DwK g root num par (YZ t g.length num ord k (cand,b)).1 j 0/\((YZ t g.length num ord k (cand,b)).2=false->b=false/\(YZ t g.length num ord k (cand,b)).1=cand)
 |0,cand,b,_,h=>⟨h,λe=>⟨e,rfl⟩⟩
 | k + 1, cand, b, hk, h => by
   obtain⟨q,r,-⟩:=DwK.one (b:=b) hg l d ht hk h m;obtain⟨s,x⟩:=DwK.run hg l d ht m k (cand:=(dsV t g.length num ord (cand,b) k).1) (b:=(dsV t g.length num ord (cand,b) k).2) ω q;have e:YZ t g.length num ord (k+1) (cand,b)=YZ t g.length num ord k ((dsV t g.length num ord (cand,b) k).1,(dsV t g.length num ord (cand,b) k).2):=rfl;rw[e];refine⟨s,λe=>?_⟩;obtain⟨y,z⟩:=x e;obtain⟨B,C⟩:=r y;exact⟨B,z.trans C⟩
theorem DwI.zd0 {fin:Nat}(hg:Sg g)(q:TrF g root (nF num) par)(m:Fnd g root num ord fin)(ht:∀u v,u∈Qd t v↔v∈Qd g u)(z:root<g.length)(h:DwI g root num par cand j):DwI g root num par (YZ t g.length num ord (fin-1) (cand,false)).1 (j+1)/\(∀v,VW g root v->UJ (YZ t g.length num ord (fin-1) (cand,false)).1 v≠4294967295)/\((YZ t g.length num ord (fin-1) (cand,false)).2=false->(YZ t g.length num ord (fin-1) (cand,false)).1=cand):=by
 have y:=m.t
 have r:DwK g root num par cand j (fin-1):=⟨h.n,by
  have:=DsK.begin q h.i h.p;rw[show fin-1=nF num root by omega]
  exact this,h.c⟩
 obtain⟨d,s⟩:=DwK.run (b:=false) hg q m ht z (fin-1) ω r
 obtain⟨x,l⟩:=d.k.fin
 exact⟨⟨d.n,d.k.i,x,.inr l⟩,l,λe=>(s e).2⟩
theorem DwI.dom {fin:Nat}(hg:Sg g)(q:TrF g root (nF num) par)(m:Fnd g root num ord fin)(ht:∀u v,u∈Qd t v↔v∈Qd g u)(r:root<g.length)(h:DwI g root num par cand j)(e:(YZ t g.length num ord (fin-1) (cand,false)).2=false):z4w g root (nF num) par (UJ cand):=by
 have key:∀i,DwI g root num par cand (j+i):=λi=>by
  induction i with
  |zero=>exact h
  | succ i y =>
    obtain⟨l,b,d⟩:=y.zd0 hg q m ht r;rw[d e] at l;exact l
 obtain⟨-,b,d⟩:=h.zd0 hg q m ht r
 rw[d e] at b
 exact⟨h.i,b,λi v x s hi=>(key i).p v x s ω⟩
theorem DwI.same {fin:Nat}(hg:Sg g)(m:TrF g root (nF num) par)(l:Fnd g root num ord fin)(ht:∀u v,u∈Qd t v↔v∈Qd g u)(B:root<g.length)(h:DwI g root num par cand j)(q:z4w g root (nF num) par (UJ cand)):(YZ t g.length num ord (fin-1) (cand,false)).2=false:=by
 have s:=l.t
 have key:∀k,k<fin->YZ t g.length num ord k (cand,false)=(cand,false):=λk=>by
  induction k with
  |zero=>exact λ_=>rfl
  | succ k x =>
    intro z;obtain⟨d1,d2⟩:=l.d k ω;have b:ord.getD k 0≠root:=λe=>by rw[e] at d2;omega
    obtain⟨y,-,-⟩:=m.par _ d1 b;have r:=l.f;obtain⟨c1,c2⟩:=z6h (n:=g.length) (t:=t) m h.i ω ht d1 b (q.c _ y);have e:=q.zhj m d1 b c1 c2;show YZ t g.length num ord k (dsV t g.length num ord (cand,false) k)=_;unfold dsV;rw[if_pos e];exact x ω
 rw[key (fin-1) ω]
/-! ### Short ways -/
def InS (g:List (List Nat))(root x i v:Nat):Prop:=∃b,b<=i/\Av g root x b v
def InS.stop {x:Nat}(h:∀v,InS g root x (i+1) v->InS g root x i v):∀{m v:Nat},Av g root x m v->InS g root x i v:=by
 intro m v q
 induction q with
 |zero b=>exact⟨0,y03 _,.zero b⟩
 | step _ l b s =>
   obtain⟨r,e,d⟩:=s;exact h _ ⟨r+1,ω,.step d l b⟩
theorem Av.short (hg:Sg g)(z:root<g.length){x m v:Nat}(h:Av g root x m v):InS g root x g.length v:=by
 by_cases s:∃i,i<=g.length/\∀v,InS g root x (i+1) v->InS g root x i v
 ·obtain⟨i,hi,B⟩:=s;obtain⟨d,l,b⟩:=InS.stop B h;exact⟨d,ω,b⟩
 ·have key:∀i,i<=g.length+1->i<=Xx g.length (InS g root x i):=λi=>by
   induction i with
   |zero=>exact λ_=>y03 _
   | succ i D =>
     intro hi;have y:=D ω;have r:¬∀v,InS g root x (i+1) v->InS g root x i v:=λe=>s ⟨i,ω,e⟩;obtain⟨v,C⟩:=Classical.not_forall.1 r;obtain⟨u,E⟩:=Classical.not_imp.1 C
     have q:v<g.length:=by
      obtain⟨d,-,b⟩:=u;exact b.rch.lt hg z
     have:=z1s (n:=g.length) (P:=InS g root x i) (Q:=InS g root x (i+1)) (λv _ ⟨d,l,b⟩=>⟨d,ω,b⟩) q E u;omega
  have y:=key (g.length+1) (y04 _);have r:=z4d (n:=g.length) (P:=InS g root x (g.length+1));omega
theorem DwI.late (hg:Sg g)(q:root<g.length)(h:DwI g root num par cand j)(u:g.length<=j)(l:∀v,VW g root v->UJ cand v≠4294967295):z4w g root (nF num) par (UJ cand):=
 ⟨h.i,l,λ_ v x _ _ e r d=>by
  obtain⟨s,m,b⟩:=e.short hg q
  exact h.p v x s ω b r d⟩
end
def DmS.step (g t:List (List Nat))(root:Nat)(s:DmS):DmS:=
 if s.Rf then {s with cand:=(YZ t g.length s.num s.ord (s.fin-1) (s.cand,false)).1,done:= !(YZ t g.length s.num s.ord (s.fin-1) (s.cand,false)).2,steps:=s.steps+1}
 else if(s.Ry g 64).Qg=0 then {s.Ry g 64 with Rf:=true,cand:=(s.Ry g 64).cand.set root root,steps:=s.steps+1}
 else {s.Ry g 64 with steps:=s.steps+1}
def z4h (g:List (List Nat))(num:List Nat):Nat:=((List.range g.length).map λv=>if nF num v=4294967295 then 0 else 1+(Qd g v).length).sum
section
variable {n:Nat}{num:List Nat}{s:DmS}
def Wf:∀(k:Nat) {s:DmS},(s.Ry g k).steps=s.steps/\(s.Ry g k).Rf=s.Rf/\(s.Ry g k).done=s.done
 |0,s=>⟨rfl,rfl,rfl⟩
 | k + 1, s => by
   have b:s.Ry g (k+1)=if 0<s.Qg then(s.move g).Ry g k else s:=rfl;rw[b];split
   ·obtain⟨d,e,h⟩:=Wf k (s:=s.move g);rw[d,e,h];unfold DmS.move;split
    ·exact⟨O,O,O⟩
    ·split<;>exact⟨O,O,O⟩
   ·exact⟨O,O,O⟩
theorem sum_add {f h:Nat->Nat}:∀n,((List.range n).map λv=>f v+h v).sum=((List.range n).map f).sum+((List.range n).map h).sum
 |0=>rfl
 | n + 1 => by
   rw[y0T,y0f,y0f,y0f,y1a,y1a,y1a,sum_add n];simp only[y0j,y1D,y0M,y1I];omega
theorem z9V {p:Nat->Bool}:∀n,((List.range n).map λv=>if p v then 1 else 0).sum=(List.range n).countP p
 |0=>rfl
 | n + 1 => by
   rw[y0T,y0f,y1a,z9V n,y2z,y2X];simp only[y0j,y1D,y0M,y1I];omega
theorem YE.ended (h:YE g root s)(hg:Sg g)(Y:root<g.length)(M:s.Qg=0):Fnd g root s.num s.ord s.fin/\Z1 g.length s=z4h g s.num:=by
 obtain⟨d,l,N⟩:=h.found hg Y M
 have S:=h.fh
 have I:=hg.n
 have R:∀i,i<s.fin->VW g root (s.ord.getD i 0)/\nF s.num (s.ord.getD i 0)=i:=λi hi=>by
  obtain⟨c,f⟩:=h.od i hi;exact⟨(d _ c).1 ω,f⟩
 refine⟨⟨d,l,R,N,ω⟩,?_⟩
 have D:=h.ct
 have m:Xx g.length (λv=>s.num.getD v 0≠4294967295)=(List.range g.length).countP λv=>decide (s.num.getD v 0≠4294967295):=by
  unfold Xx
  congr 1
  funext v
  exact decide_eq_decide.2 y0R
 have V:(List.range g.length).countP (λv=>decide (s.num.getD v 0≠4294967295))<=s.fin:=by
  rw[y3F];have U:((List.range g.length).filter λv=>decide (s.num.getD v 0≠4294967295)).length=(((List.range g.length).filter λv=>decide (s.num.getD v 0≠4294967295)).map λv=>s.num.getD v 0).length:=(y0n ..).symm;rw[U,Z9 (n:=s.fin)]
  ·refine y0c List.countP_le_length ?_;rw[y17];exact y04 _
  ·rw[List.nodup_iff_pairwise_ne,List.pairwise_map];refine List.Pairwise.imp_of_mem ?_<|List.Pairwise.filter _ List.nodup_range;intro a b F H B e;have z:=of_decide_eq_true (y1o.1 F).2;have C:=of_decide_eq_true (y1o.1 H).2;have ra:=(d a (y0Q.1 (y1o.1 F).1)).1 z;have rb:=(d b (y0Q.1 (y1o.1 H).1)).1 C;have u:=(l a ra).2;have J:=(l b rb).2;have e:s.num.getD a 0=s.num.getD b 0:=e;rw[e] at u;exact B (u.symm.trans J)
  ·intro x Z;obtain⟨v,y,rfl⟩:=y0g.1 Z;have E:=of_decide_eq_true (y1o.1 y).2;exact(l v ((d v (y0Q.1 (y1o.1 y).1)).1 E)).1
 have q:s.fin=(List.range g.length).countP λv=>decide (s.num.getD v 0≠4294967295):=by
  rw[m] at D;omega
 unfold Z1 z4h
 have u:((List.range g.length).map λv=>if nF s.num v=4294967295 then 0 else 1+(Qd g v).length)=(List.range g.length).map λv=>(if decide (s.num.getD v 0≠4294967295)=true then 1 else 0)+(if s.num.getD v 0=4294967295 then 0 else s.looked.getD v 0):=by
  refine y0N λv y=>?_;by_cases e:s.num.getD v 0=4294967295
  ·rw[if_pos e,if_pos e,decide_eq_false (λh=>h e)];rfl
  ·have r:=y0Q.1 y;rw[if_neg e,if_neg e,decide_eq_true e,if_pos O,h.fn v r (l v ((d v r).1 e)).1]
 rw[u,sum_add,z9V,<-q]
structure DmJ (g:List (List Nat))(root:Nat)(s:DmS):Prop where
 se:s.Rf=false->s.done=false/\YE g root s/\0<s.Qg/\Z1 g.length s=64*s.steps
 sw:s.Rf=true->∃(par:Nat->Nat)(j:Nat),TrF g root (nF s.num) par/\Fnd g root s.num s.ord s.fin/\s.steps=(z4h g s.num+63) / 64+j/\1<=z4h g s.num/\z4h g s.num<=g.length+g.length*g.length/\DwI g root s.num par s.cand j/\(1<=j->∀v,VW g root v->UJ s.cand v≠4294967295)/\(s.done=false->j<=g.length)/\(s.done=true->1<=j/\j<=g.length+1/\z4w g root (nF s.num) par (UJ s.cand))/\s.Qg=0
 ls:s.num.length=g.length/\s.looked.length=g.length/\s.cand.length=g.length/\s.VD.length=g.length/\s.ord.length=g.length
theorem DmJ.new (hg:Sg g)(b:root<g.length):DmJ g root (DmS.new g.length root):=by
 have h:=YE.new hg b
 refine⟨λ_=>⟨O,h,Nat.zero_lt_one,?_⟩,(λe=>by cases e),h.nn,h.ln,by rw[h.cn];exact y0b,h.sn,h.on⟩
 have key:∀n,((List.range n).map λv=>if(DmS.new g.length root).num.getD v 0=4294967295 then 0 else(DmS.new g.length root).looked.getD v 0).sum=0:=λn=>by
  induction n with
  |zero=>rfl
  | succ n d =>
    rw[y0T,y0f,y1a,d];simp only[y0j,y1D,y0M,y1I,y0k,y1f];split
    ·rfl
    ·show((List.replicate g.length 0).set root 0).getD n 0=0;rw[y12,List.getElem?_set];split
     ·split<;>rfl
     ·rw[y1b];split<;>rfl
 show 0+_=0
 rw[key]
theorem zeg (hg:Sg g)(B:root<g.length)(C:TrF g root (nF num) par):DwI g root num par ((List.replicate g.length 4294967295).set root root) 0:=by
 have m:=hg.n
 have d:∀v,UJ ((List.replicate g.length 4294967295).set root root) v=if v=root then root else 4294967295:=λv=>by
  rw[z9O (by rw[y0b];exact B)];unfold UI;split
  ·rfl
  ·show(List.replicate g.length 4294967295).getD v 4294967295=4294967295;rw[y12,y1b];split<;>rfl
 have y:UJ ((List.replicate g.length 4294967295).set root root)=λv=>if v=root then root else 4294967295:=funext d
 have b:∀v,UJ ((List.replicate g.length 4294967295).set root root) v≠4294967295->v=root:=λv h=>by
  rw[d] at h;by_cases e:v=root
  ·exact e
  ·rw[if_neg e] at h;exact absurd O h
 refine⟨by rw[y0A,y0b],⟨⟨by rw[d,if_pos O],λv q r=>absurd (b v q) r,λv h=>by rw[b v h];exact .refl⟩,λv x h l=>?_,λv x h z=>?_⟩,λv x i hi u h l=>?_,.inl O⟩
 ·obtain rfl:=b v h;rw[l.at_root];exact .refl _
 ·obtain rfl:=b v h;by_cases e:v=x
  ·rw[e];exact .refl _
  ·exact absurd (.zero e) (z.2 0)
 ·obtain rfl:=b v h;exact u.ne l.at_root.symm
theorem DmJ.step (hg:Sg g)(l:root<g.length)(ht:∀u v,u∈Qd t v↔v∈Qd g u)(h:DmJ g root s)(z:s.done=false):DmJ g root (s.step g t root):=by
 unfold DmS.step
 cases E:s.Rf with
 | true =>
   obtain⟨par,j,d,q,A,N,R,r,U,H,G,S⟩:=h.sw E;obtain⟨J,f,i⟩:=r.zd0 hg d q ht l;rw[if_pos O];refine⟨(λe=>by cases e),λ_=>⟨par,j+1,d,q,by show s.steps+1=(z4h g s.num+63) / 64+(j+1);omega,N,R,J,λ_=>f,λe=>?_,λe=>?_,S⟩,h.ls.1,h.ls.2.1,J.n,h.ls.2.2.2⟩
   ·have Y:=H z;rcases y0a j g.length with y|C
    ·exact y
    ·exfalso;have D:1<=j:=ω
     have B:=r.late hg l C (U D);have:=r.same hg d q ht l B;have e:(!(YZ t g.length s.num s.ord (s.fin-1) (s.cand,false)).2)=false:=e;rw[this] at e;cases e
   ·have e:(!(YZ t g.length s.num s.ord (s.fin-1) (s.cand,false)).2)=true:=e;have F:(YZ t g.length s.num s.ord (s.fin-1) (s.cand,false)).2=false:=by simpa using e
    have B:=r.dom hg d q ht l F;have Y:=H z;refine⟨ω,ω,?_⟩;show z4w g root (nF s.num) par (UJ (YZ t g.length s.num s.ord (s.fin-1) (s.cand,false)).1)
    rw[i F];exact B
 | false =>
   obtain⟨-,r,V,I⟩:=h.se E;obtain⟨b,Z⟩:=r.Ry hg 64;obtain⟨K,k,M⟩:=Wf (g:=g) 64 (s:=s);rw[if_neg ψ];rcases Z with⟨x,o⟩|⟨x,o,p⟩
   ·rw[if_neg ω];refine⟨λ_=>⟨by show(s.Ry g 64).done=false;rw[M];exact z,⟨b.nn,b.ln,b.cn,b.sn,b.on,b.st,b.inj,b.op,b.od,b.no,b.rt,b.re,b.ed,b.lk,b.fn,b.pr,b.ct⟩,x,?_⟩,λe=>?_,b.nn,b.ln,by show(s.Ry g 64).cand.length=_;rw[b.cn];exact y0b,b.sn,b.on⟩
    ·show Z1 g.length (s.Ry g 64)=64*(s.steps+1);omega
    ·have e:(s.Ry g 64).Rf=true:=e;rw[k,E] at e;cases e
   ·rw[if_pos x];obtain⟨q,a⟩:=b.ended hg l x;obtain⟨par,d⟩:=b.tree hg l x;have y:=p V ψ;have c:=b.total hg;have m:=zeg (num:=(s.Ry g 64).num) hg l d;rw[<-b.cn] at m;refine⟨(λe=>by cases e),λ_=>⟨par,0,d,q,?_,(by show 1<=z4h g (s.Ry g 64).num;omega),(by show z4h g (s.Ry g 64).num<=_;omega),m,λe=>absurd e ψ,λ_=>y03 _,λe=>?_,x⟩,b.nn,b.ln,m.n,b.sn,b.on⟩
    ·show s.steps+1=(z4h g (s.Ry g 64).num+63) / 64+0;omega
    ·have e:(s.Ry g 64).done=true:=e;rw[M,z] at e;cases e
def TS (g t:List (List Nat))(root:Nat):Nat->DmS
 |0=>DmS.new g.length root
 |k+1=>(TS g t root k).step g t root
structure zaK (g t:List (List Nat))(root k:Nat):Prop where
 d:(TS g t root k).done=true
 f:∀j,j<k->(TS g t root j).done=false
theorem zaK.eq {k':Nat}(h:zaK g t root k)(b:zaK g t root k'):k=k':=by
 rcases Nat.lt_trichotomy k k' with e|e| e
 ·have:=b.f k e;rw[h.d] at this;cases this
 ·exact e
 ·have:=h.f k' e;rw[b.d] at this;cases this
theorem z1R:(s.step g t root).steps=s.steps+1:=by
 unfold DmS.step
 split
 ·rfl
 ·split<;>rfl
theorem UU:∀k,(TS g t root k).steps=k
 |0=>rfl
 | k + 1 => by
   show((TS g t root k).step g t root).steps=k+1;rw[z1R,UU k]
def z7X (hg:Sg g)(b:root<g.length)(ht:∀u v,u∈Qd t v↔v∈Qd g u):∀k,(∀j,j<k->(TS g t root j).done=false)->DmJ g root (TS g t root k)
 |0,_=> .new hg b
 |k+1,h=>(z7X hg b ht k λj d=>h j ω).step hg b ht (h k ω)
theorem DmJ.bound (h:DmJ g root s)(l:s.done=false)(hg:Sg g):s.steps+1<=g.length*g.length+2*g.length+10:=by
 cases b:s.Rf with
 | true =>
   obtain⟨par,j,-,-,m,-,q,-,-,d,-⟩:=h.sw b;have:=d l
   omega
 | false =>
   obtain⟨-,e,-,ht⟩:=h.se b;have:=e.total hg;omega
end
section
end
theorem z6U {P:Program}{ρ:Operand->Value}{c:Call}(h:o.op= .call c)(e:c.callee= .builtin .recover)(d:c.args.toList=[]):(execOp ρ o).run P w= .ok .recover w:=by
 obtain⟨b,args,l⟩:=c
 simp only at e d
 subst e
 have:args=#[]:=y2S.1 d
 subst this
 simp[execOp,h,go_sem]
theorem ZY {P:Program}{f:FuncId}{fn:Func}{id:Nat}{ops:Array Oper}{c2:Code}{args:List Value}{e:Env}{S:Value->World->Prop}{n d:Nat}{rest:List Oper}{c:Call}
  (W:P.funcs[f]? =some fn) (K:fn.body=some (.seq (.region id ops false) c2)) (Z:fn.ntmps=n) (hn:Nat.ble args.length n=true) (T:envOf 0 args=e)
  (m:ops.toList=o::rest) (hg:o.guard=none) (p:o.op= .call c) (C:c.callee= .builtin .recover) (R:c.args.toList=[]) (D:o.dst=some d) (Q:Nat.blt d n=true) (ho:T0 n ops.toList=true)
  (h:RL ⟨⟨P,f,S,n,none,[],true⟩,ops.toList,[.code c2],ho⟩ rest ((d,.nilIface)::e) w):z8C P f args w S:=by
 subst Z
 refine⟨trivial,λc0 cs hm _=>?_⟩
 let b:Frame:={(default:Frame) with fn:=f,kind:= .deferred,roundOf:=none}
 have a0:args.length<=fn.ntmps:=by simpa using hn
 let a:Act:={tmps:=args.toArray++Array.replicate (fn.ntmps-args.toArray.size) undef,defers:=[]}
 have r:Frame.enter P f args.toArray .deferred=b.atR a [.code (.seq (.region id ops false) c2)]:=by
  simp[Frame.enter,Frame.atR,W,K,b,a]
 have g:Y9 fn.ntmps [] e a:=by
  refine⟨by simp[a];omega,rfl,λi v hi=>?_⟩;subst T;obtain⟨-,N⟩:=Yu args 0 i v hi;simp at N
  have H:i<args.length:=by
   rcases y0a i args.length with h| h
   ·exact h
   ·simp[y0v h] at N
  have A:args[i]=v:=by simpa[y07 H] using N
  simp only[a,Array.getD];rw[dif_pos (by simp;omega)];simp[H,A]
 have I:=g.put Q .nilIface
 have t:ops[0]? =some o:=by
  rw[<-y3b,m];rfl
 have s:List.range ops.size=0::List.range' 1 rest.length:=by
  have:ops.size=rest.length+1:=by rw[<-y2w,m];rfl
  rw[this,List.range_eq_range',List.range'_succ]
 -- recover
 have F:=stepGR_op (P:=P) (b:=b) (a:=a) (k:=[.code c2]) (cs:=c0::cs) (w:=w) (ops:=ops) (i:=0) (rest:=List.range' 1 rest.length) t (by simp[Region.wanted,hg])
 rw[show b.roundOf=none from rfl,Oper.semAt_none] at F
 have E:(b.atR a (.inRegion ops (0::List.range' 1 rest.length)::[.code c2])).finish .nilIface=b.atR (a.put o.dst .nilIface) (.inRegion ops (List.range' 1 rest.length)::[.code c2]):=by
  rw[Frame.finish_atR,t];rfl
 have M:=tryRecover_deferred (show(b.atR a (.inRegion ops (0::List.range' 1 rest.length)::[.code c2])).kind= .deferred from rfl) (c0::cs)
 have J:recoverD (c0::cs)=none:=by simp[recoverD,hm]
 have y:step P (lone (b.atR a (.inRegion ops (0::List.range' 1 rest.length)::[.code c2])) (c0::cs) w)= .next (lone (b.atR (a.put (some d) .nilIface) (.inRegion ops (List.range' 1 rest.length)::[.code c2])) (c0::cs) w):=by
  refine step_lone_go ?_;rw[<-D,F,<-E];simp only[Frame.atR,show b.roundOf=none from rfl] at M⊢;simp[stepG.apply,z6U p C R,M,J]
 -- the rest
 have hl:=h _ I
 have Y:wpOpsIn (WF none) 0 P ops (QK ⟨P,f,S,fn.ntmps,none,[],true⟩ [.code c2]) (List.range' 1 rest.length) (a.put (some d) .nilIface) w:=by
  rw[wpOpsIn_eq_wpListIn rest 1 (λj=>by
   rw[<-y3b,m,y1B];rfl)]
  simpa using hl
 obtain⟨x,a',w',q,B⟩:=wp_opsIn _ _ _ Y b [.code c2] (c0::cs) O trivial (z9w _ _)
 have u:z0S P f none true (Yz S) (lone (b.atR (a.put (some d) .nilIface) (.inRegion ops (List.range' 1 rest.length)::[.code c2])) (c0::cs) w) (c0::cs):=by
  cases x with
  |normal=>exact(q b O O O (c0::cs)).of_steps (StepsIn.steps B)
  |outgrown=>exact q.elim
  |exit id=>exact q.elim
  |goto l=>exact q.elim
  |ret=>exact q.elim
  |panic ch=>exact q.elim
 have s1:step P (lone (b.atR a [.code (.seq (.region id ops false) c2)]) (c0::cs) w)= .next (lone (b.atR a (.code (.region id ops false)::[.code c2])) (c0::cs) w):=stepR_seq
 have s2:step P (lone (b.atR a (.code (.region id ops false)::[.code c2])) (c0::cs) w)= .next (lone (b.atR a (.inRegion ops (0::List.range' 1 rest.length)::[.code c2])) (c0::cs) w):=by
  rw[<-s];exact stepR_region
 have z:=u.of_steps (.head s1 (.head s2 (.one y)))
 obtain⟨x,w',fr,G,L,V,X,hg⟩:=z
 have U:({c0 with mode:= .returning}:Frame)=c0:=by cases c0;simp_all
 rw[r]
 exact⟨x,.returning,w',fr,⟨O,G⟩,by rw[U];exact comesIn_wide.2 L,X,V,hg⟩
def DmS.vec (s:DmS):Nat->List Nat
 |0=>s.num
 |1=>s.looked
 |2=>s.cand
 |3=>s.VD
 |_=>s.ord
def DmS.z4D (s:DmS)(j:Nat)(xs:List Nat):DmS:=match j with
 |0=>{s with num:=xs}
 |1=>{s with looked:=xs}
 |2=>{s with cand:=xs}
 |3=>{s with VD:=xs}
 |_=>{s with ord:=xs}
theorem zeE {s:DmS}{xs:List Nat}(hi:i<5)(b:j<5):(s.z4D j xs).vec i=if i=j then xs else s.vec i:=by
 obtain rfl|rfl|rfl|rfl|rfl:j=0\/j=1\/j=2\/j=3\/j=4:=ω
 all_goals obtain rfl|rfl|rfl|rfl|rfl:i=0\/i=1\/i=2\/i=3\/i=4:=ω
 all_goals rfl
def dmC (s:DmS)(g t root:Nat)(vb:Nat->Nat):List Value:=[I (s.steps:Int),I (s.fin:Int),I (s.Qg:Int),.bool s.Rf,.bool s.done,ptr g 0,ptr t 0,I (root:Int),ptr (vb 0) 0,ptr (vb 1) 0,ptr (vb 2) 0,ptr (vb 3) 0,ptr (vb 4) 0,.bool false,.bool false]
structure Zo (Q:Sf)(txt:Int->PU)(k tk root rr:Nat)(O_:Nat->Prop)(a L:Nat)(s:DmS)(vb:Nat->Nat)(w:World):Prop where
 o:O_ rr/\∀j,j<5->O_ (vb j)
 ne:∀j,j<5->rr≠vb j/\∀i,i<5->i≠j->vb i≠vb j
 run:Q8 w rr (dmC s k tk root vb) 103
 vs:∀j,j<5->WD Q txt (vb j) 4 (a+j) (s.vec j) w/\(s.vec j).length<=100
 L:L=5
theorem UH {n:Nat}(h:n<=100):XD n (512 / 4)=1:=by
 unfold XD
 omega
section
variable {tk:Nat}{s s':DmS}{S:Nat->Prop}
theorem Zo.kp (h:Zo Q txt k tk root rr O_ a L s vb w)(l:Kp S w w')(e:∀b,O_ b->¬S b):Zo Q txt k tk root rr O_ a L s vb w':=
 ⟨h.o,h.ne,l.PO h.run (e _ h.o.1),λj d=>⟨(h.vs j d).1.kp l (e _ (h.o.2 j d)),(h.vs j d).2⟩,h.L⟩
theorem Zo.XA (h:Zo Q txt k tk root rr O_ a L s vb w)(e:∀y:Int,(a:Int)<=y->y<(a:Int)+(L:Int)->txt' y=txt y):Zo Q txt' k tk root rr O_ a L s vb w:=by
 have m:=h.L
 refine⟨h.o,h.ne,h.run,λj b=>⟨(h.vs j b).1.XA λy l d=>?_,(h.vs j b).2⟩,h.L⟩
 rw[UH (h.vs j b).2] at d
 exact e y ω ω
theorem Zo.q (h:Zo Q txt k tk root rr O_ a L s vb w)(e:Q'.s=Q.s)(d:Q'.L.length=Q.L.length):Zo Q' txt k tk root rr O_ a L s vb w:=
 ⟨h.o,h.ne,h.run,λj b=>⟨(h.vs j b).1.q e d,(h.vs j b).2⟩,h.L⟩
theorem Zo.wr (h:Zo Q txt k tk root rr O_ a L s vb w)(l:j<5)(u:Kp S w w')(r:∀b,O_ b->¬S b)(v:WD Q txt' (vb j) 4 (a+j) ys w')(m:ys.length=(s.vec j).length)(ht:∀y:Int,y<((a+j:Nat):Int)\/((a+j:Nat):Int)+(XD ys.length (512 / 4):Int)<=y->txt' y=txt y):Zo Q txt' k tk root rr O_ a L (s.z4D j ys) vb w':=by
 have d:=h.kp u r
 have n:=(h.vs j l).2
 rw[m,UH n] at ht
 refine⟨h.o,h.ne,?_,λi hi=>?_,h.L⟩
 ·have:dmC (s.z4D j ys) k tk root vb=dmC s k tk root vb:=by
   unfold DmS.z4D;split<;>rfl
  rw[this];exact d.run
 ·rw[zeE hi l];by_cases e:i=j
  ·subst e;rw[if_pos O];exact⟨v,by rw[m];exact n⟩
  ·rw[if_neg e];refine⟨(d.vs i hi).1.XA λy x q=>ht y ?_,(d.vs i hi).2⟩;rw[UH (d.vs i hi).2] at q;omega
theorem Zo.put (h:Zo Q txt k tk root rr O_ a L s vb w)(l:Kp (λb=>b=rr) w w')(m:Q8 w' rr (dmC s' k tk root vb) 103)(n:∀j,j<5->s'.vec j=s.vec j):Zo Q txt k tk root rr O_ a L s' vb w':=
 ⟨h.o,h.ne,m,λj d=>by
  rw[n j d]
  exact⟨(h.vs j d).1.kp l (λe=>(h.ne j d).1 e.symm),(h.vs j d).2⟩,h.L⟩
end
def Vg (tk root:Nat):RuK DmS where
 M Q txt k rr O_ a L s w:=∃vb,Zo Q txt k tk root rr O_ a L s vb w
 tm s:=s.steps
 c0:=0
 c1:=0
 kp:=λ⟨vb,h⟩ d b=>⟨vb,h.kp d b⟩
 XA:=λ⟨vb,h⟩ e=>⟨vb,h.XA e⟩
 q:=λ⟨vb,h⟩ m l=>⟨vb,h.q m l⟩
section
variable {s:DmS}
def St.dm (h:St (Vg T.k root) G T Q txt K X rr O_ a L s w):∃vb,Zo Q txt G.k T.k root rr O_ a L s vb w:=h.m.m
theorem Zo.cells (h:Zo Q txt G.k T.k root rr O_ a L s vb w):Q8 w rr [I (s.steps:Int),I (s.fin:Int),I (s.Qg:Int),.bool s.Rf,.bool s.done,ptr G.k 0,ptr T.k 0,I (root:Int),ptr (vb 0) 0,ptr (vb 1) 0,ptr (vb 2) 0,ptr (vb 3) 0,ptr (vb 4) 0,.bool false,.bool false] 103:=h.run
def zkB (b root:Nat):RuK DmS where
 M Q txt k rr O_ a L s w:=∃vb,Zo Q txt b k root rr O_ a L s vb w
 tm s:=s.steps
 c0:=0
 c1:=0
 kp:=λ⟨vb,h⟩ l d=>⟨vb,h.kp l d⟩
 XA:=λ⟨vb,h⟩ e=>⟨vb,h.XA e⟩
 q:=λ⟨vb,h⟩ n m=>⟨vb,h.q n m⟩
theorem St.z9L (h:St (Vg T.k root) G T Q txt K X rr O_ a L s w)(n:T.g.length<=40):St (zkB G.k root) T G Q txt K X rr O_ a L s w:=by
 obtain⟨vb,q⟩:=h.dm
 have e:=h.xk
 have l:=h.m.ne
 exact⟨⟨h.t,⟨vb,q⟩,λb d=> .inl (h.xr b d),h.m.ro,λb d=>⟨(h.nk b d).1,(h.nk b d).2,(l b d).2.2.1,(l b d).2.2.2⟩,h.Wt,n⟩,h.m.g,h.xr,⟨e.2.2.1,e.2.2.2.1,e.1,e.2.1,e.2.2.2.2.1,e.2.2.2.2.2⟩,λb d=>⟨(l b d).1,(l b d).2.1⟩,h.m.Wt⟩
theorem St.zg3 (h:St (zkB G.k root) T G Q txt K X rr O_ a L s w)(n:G.g.length<=40):St (Vg T.k root) G T Q txt K X rr O_ a L s w:=by
 obtain⟨vb,q⟩:∃vb,Zo Q txt G.k T.k root rr O_ a L s vb w:=h.m.m
 have e:=h.xk
 have l:=h.m.ne
 exact⟨⟨h.t,⟨vb,q⟩,λb d=> .inl (h.xr b d),h.m.ro,λb d=>⟨(h.nk b d).1,(h.nk b d).2,(l b d).2.2.1,(l b d).2.2.2⟩,h.Wt,n⟩,h.m.g,h.xr,⟨e.2.2.1,e.2.2.2.1,e.1,e.2.1,e.2.2.2.2.1,e.2.2.2.2.2⟩,λb d=>⟨(l b d).1,(l b d).2.1⟩,h.m.Wt⟩
def St.z2l (h:St (Vg T.k root) G T Q txt K X rr O_ a L s w)(d:Zo Q txt G.k T.k root rr O_ a L s vb w)(q:j<5)(B:ys.length=(s.vec j).length)(u:K'<1000000000000)(x:VcW Q txt K' (YA G T X) (vb j) 4 (a+j) ys w w'):∃txt',St (Vg T.k root) G T Q txt' K' X rr O_ a L (s.z4D j ys) w'/\Zo Q txt' G.k T.k root rr O_ a L (s.z4D j ys) vb w'/\(∀y:Int,y<(a:Int)\/(a:Int)+(L:Int)<=y->txt' y=txt y)/\Kp (λb=>¬YA G T X b) w w':=by
 obtain⟨txt',v,C,r,l⟩:=x
 have m:=d.wr q l (λb z e=>e (.inl (.inl (h.xr b z)))) C B r
 have D:=d.L
 have E:=(d.vs j q).2
 have n:∀y:Int,y<(a:Int)\/(a:Int)+(L:Int)<=y->txt' y=txt y:=λy e=>r y (by rw[UH ω];omega)
 exact⟨txt',h.upd u l (λb e=> .inl e) v n ⟨vb,m⟩,m,n,l⟩
def Ue (w:World):Qx prog 42 [I 0] w λ_ w'=>w'=w:=by
 refine py (e:=[(0,_)]) func42 O ntmps42 O O<|Qz O<|RI O<|Ri O<|Rj func42 O ?_
 exact⟨_,O,O⟩
theorem Wj (h:St (Vg T.k root) G T Q txt K X rr O_ a L s w):Qx prog 45 [ptr rr 0] w λr w'=>r=I 0/\w'=w:=by
 obtain⟨vb,d⟩:=h.dm
 have b:=d.cells
 refine py (e:=[(0,_)]) func45 O ntmps45 O O<|RY O<|RU<|Qz O<|qV (Rm U44 O O)<|Qe O<|PW O<|Qz O<|QC O<|Qf zf4 O<|qV (Q0 U4 O O b O)<|Qq O<|QC O<|Qf z4S O ?_
 refine qV (Q0 U4 O O b O)<|R0 O<|Qe O<|Us O<|PN<|RY O<|PQ func45 O ?_
 exact⟨_,O,O,O⟩
def Zo.zcH (h:Zo Q txt G.k T.k root rr O_ a L s vb w)(b:j<5):w.cell? ⟨rr,0+8+j*1,none⟩=some (ptr (vb j) 0):=by
 rw[h.cells.cell]
 obtain rfl|rfl|rfl|rfl|rfl:j=0\/j=1\/j=2\/j=3\/j=4:=ω
 all_goals rfl
theorem Tg (h:St (Vg T.k root) G T Q txt K X rr O_ a L s w){x:Nat}(l:j<5)(hi:(s.vec j)[i]? =some x):Qx prog 115 [ptr rr 0,I (j:Int),I (i:Int)] w λr w'=>r=I (x:Int)/\St (Vg T.k root) G T Q txt K X rr O_ a L s w'/\Kp (λb=>¬YA G T X b) w w':=by
 obtain⟨vb,d⟩:=h.dm
 have q:=d.zcH l
 have v:=((d.vs j l).1.zer hi).1
 refine py (e:=[(0,_),(1,_),(2,_)]) func115 O ntmps115 O O<|qN O<|Sb O<|Qq O<|QC O<|Qf VA O<|qV (yia z0q YU O O ω)<|qV (QH z3k O O q)<|Q4 O<|Qj zjQ O (z3A h.sp h.lt h.m.g.z7g (d.vs j l).1 (.inl (.inl (h.xr _ (d.o.2 j l)))) hi) ?_
 rintro _ w1⟨rfl,u,n⟩
 refine Q4 O<|Tr O<|Tq O<|RZ O<|Qj z7s O (Ue _) ?_
 rintro _ w1 rfl
 refine qM O<|Q4 O<|qV (QU O SK U3 ω)<|Qe O<|PQ func115 O ?_
 exact⟨_,O,O,h.read n u,n⟩
theorem Ui (h:St (Vg T.k root) G T Q txt K X rr O_ a L s w){x:Nat}(B:K<=900000000000)(n:j<5)(hi:i<(s.vec j).length)(C:x<4294967296):Qx prog 80 [ptr rr 0,I (j:Int),I (i:Int),I (x:Int)] w λ_ w'=>∃txt',St (Vg T.k root) G T Q txt' (K+1) X rr O_ a L (s.z4D j ((s.vec j).set i x)) w'/\(∀y:Int,y<(a:Int)\/(a:Int)+(L:Int)<=y->txt' y=txt y)/\Kp (λb=>¬YA G T X b) w w':=by
 obtain⟨vb,l⟩:=h.dm
 have v:=l.zcH n
 refine py (e:=[(0,_),(1,_),(2,_),(3,_)]) func80 O ntmps80 O O<|PY O<|Qq O<|QC O<|Qf VA O<|qV (yia z0q YU O O ω)<|qV (QH z3k O O v)<|Qq O<|qV (Rz O U3 SK ω)<|Qj zjj O (zbk h.sp h.lt h.m.g.z7g (l.vs j n).1 (.inl (.inl (h.xr _ (l.o.2 j n)))) hi (x:=x) (by show x<2^32;omega)) ?_
 rintro _ w1⟨rfl,u⟩
 obtain⟨d,r,-,z,q⟩:=h.z2l l n (y0A ..) ω u
 refine Qj z7s O (Ue _) ?_
 rintro _ w1 rfl
 refine PR<|Rj func80 O ?_
 exact⟨_,O,d,r,z,q⟩
end
section
variable {σ:Type}{R:RuK σ}{Y:Nat->Prop}{s s':σ}
theorem z3w {l bk bi v:Nat}(hv:v<G.g.length)(h:St R G T Q txt K X rr O_ a L s w)(fU:Q8 w bk [ptr G.k 0] 28)(sI:Q8 w bi [I (v:Int)] 3)(Z:Nat->Prop)(hZ:∀j,Z j->X j)
  (E:Nat->(Int->PU)->Nat->σ->World->Prop) (F:(Int->PU)->Nat->σ->World->Prop)
  (h0:∀w',w.heap.size<=w'.heap.size->Kp (λb=>¬X b) w w'->E 0 txt K s w')
  (H:∀(Y:Nat->Prop)(i u:Nat) (txt':Int->PU) (K':Nat) (s':σ) (w':World),(∀j,X j->Y j)->(∀j,Y j->X j\/w.heap.size<=j)->w.heap.size<=w'.heap.size->(Qd G.g v)[i]? =some u->St R G T Q txt' K' Y rr O_ a L s' w'->E i txt' K' s' w'->z2R prog l [QL u,I 0] w' λr B=>((r= .bool true/\∃d y z,St R G T Q d y Y rr O_ a L z B/\E (i+1) d y z B)\/(r= .bool false/\∃d y z,St R G T Q d y Y rr O_ a L z B/\F d y z B))/\Kp (λj=>(¬Y j/\j≠T.rb)\/Z j) w' B):
  Qx prog 152 [.func (.yield l) #[] #[],ptr bk 0,ptr bi 0] w λr w'=>r= .tuple #[]/\∃(Y:Nat->Prop)(txt':Int->PU) (K':Nat) (s':σ),(∀j,X j->Y j)/\(∀j,Y j->X j\/w.heap.size<=j)/\St R G T Q txt' K' Y rr O_ a L s' w'/\(E (Qd G.g v).length txt' K' s' w'\/F txt' K' s' w'):=by
 have dH:=h.m.n
 obtain⟨n1,n2,n3⟩:=h.ng
 have bO:∀b,X b->b<w.heap.size:=λb c=>h.lt b (.inl (.inl c))
 have ru:=h.lt T.rb (.inl (.inr O))
 have p:∀j,X j->j≠T.rb:=λj x e=>n3 (e▸x)
 refine Qx.mono (z7r ω hv h.m.g fU sI Z (λj x=> .inl (hZ j x))
  (λU i w'=>w.heap.size<=w'.heap.size/\∃txt' K' s',St R G T Q txt' K' (λb=>U b/\b≠T.rb) rr O_ a L s' w'/\E i txt' K' s' w')
  (λw'=>∃Y txt' K' s',(∀j,X j->Y j)/\(∀j,Y j->X j\/w.heap.size<=j)/\St R G T Q txt' K' Y rr O_ a L s' w'/\F txt' K' s' w') ?_ ?_) ?_
 ·intro U t C N GI V
  have GS:U1 G Q txt K (λb=>(U b/\b≠T.rb)\/b=T.rb) t:=GI.iff λb=>by
   by_cases e:b=T.rb
   ·exact⟨λ_=> .inr e,λ_=>C _ (.inr e)⟩
   ·exact⟨λc=> .inl ⟨c,e⟩,λc=>c.elim And.left λD=>absurd D e⟩
  refine⟨V.size,txt,K,s,?_,h0 t V.size (V.PZ λb e D=>e (.inl D))⟩;refine h.byG (h.m.list GS V λj e=>e.elim (λe=> .inl ⟨C _ (.inl e),p j e⟩) .inr) V (λb e=> .inl ⟨λD=>e (.inl D),λD=>e (.inr D)⟩) (λj x=>⟨C _ (.inl x),p j x⟩) (λj x=>?_)<|λ_ _=>rfl;rcases N j x.1 with(e|e)| e
  ·exact .inl e
  ·exact absurd e x.2
  ·exact .inr e
 ·rintro U i u t C N hs⟨z7,f,K7,s7,h7,NN⟩;obtain⟨Y,o⟩:∃Y:Nat->Prop,(λb=>U b/\b≠T.rb)=Y:=⟨_,O⟩;rw[o] at h7⊢;have W:∀j,X j->Y j:=λj x=>by rw[<-o];exact⟨C _ (.inl x),p j x⟩
  have AR:∀j,Y j->X j\/w.heap.size<=j:=λj x=>by
   rw[<-o] at x;rcases N j x.1 with(e|e)| e
   ·exact .inl e
   ·exact absurd e x.2
   ·exact .inr e
  refine z2R.mono (H Y i u f K7 s7 t W AR z7 hs h7 NN) ?_;rintro r w8⟨⟨rfl,q,J,S,M,P⟩|⟨rfl,q,J,S,M,A⟩,aQ⟩
  ·have hz:=aQ.size;refine .inl ⟨O,⟨ω,q,J,S,M,P⟩,aQ.PZ λj e=>e.imp (λe D=>e.1 (by rw[<-o];exact⟨D,e.2⟩)) id⟩
  ·exact .inr ⟨O,Y,q,J,S,W,AR,M,A⟩
 ·rintro r w8⟨rfl,⟨U,C,N,-,q,J,S,M,P⟩|⟨Y,q,J,S,C,N,M,A⟩⟩
  ·refine⟨O,_,q,J,S,λj x=>⟨C _ (.inl x),p j x⟩,λj x=>?_,M,.inl P⟩;rcases N j x.1 with(e|e)| e
   ·exact .inl e
   ·exact absurd e x.2
   ·exact .inr e
  ·exact⟨O,Y,q,J,S,C,N,M,.inr A⟩
end
section
variable {v:Nat}{s s':DmS}
structure DmW (G T:Y0)(Q:Sf)(txt:Int->PU)(K:Nat)(X:Nat->Prop)(rr root:Nat)(O_:Nat->Prop)(a L n:Nat)(s:DmS)(w w':World):Prop where
 ex:∃txt' K',St (Vg T.k root) G T Q txt' K' X rr O_ a L s w'/\K'<=K+n/\∀y:Int,y<(a:Int)\/(a:Int)+(L:Int)<=y->txt' y=txt y
 k:Kp (λb=>¬X b\/O_ b) w w'
theorem St.zaW (h:St (Vg T.k root) G T Q txt K X rr O_ a L s w)(d:Zo Q txt G.k T.k root rr O_ a L s vb w)(l:Kp (λb=>b=rr) w w')(m:Q8 w' rr (dmC s' G.k T.k root vb) 103)(n:∀j,j<5->s'.vec j=s.vec j):St (Vg T.k root) G T Q txt K X rr O_ a L s' w':=
 h.set l (λb e=>by rw[e];exact d.o.1) ⟨vb,d.put l m n⟩
theorem z2z (h:St (Vg T.k root) G T Q txt K X rr O_ a L s w)(hK:K<=800000000000)(D:v<s.num.length/\v<s.looked.length)(c:s.Qg<s.VD.length):Qx prog 44 [ptr rr 0,I (v:Int)] w λ_ w'=>DmW G T Q txt K X rr root O_ a L 3 (s.push v) w w':=by
 obtain⟨t,u⟩:=h.dm
 have P:v<100:=by have:=(u.vs 0 ψ).2;have e:(s.vec 0).length=s.num.length:=rfl;omega
 have W:s.Qg<100:=by have:=(u.vs 3 ψ).2;have e:(s.vec 3).length=s.VD.length:=rfl;omega
 refine py (e:=[(0,_),(1,_)]) func44 O ntmps44 O O<|RK O<|Qj z5E O (Ui h ω (j:=0) (i:=v) (x:=4294967294) ψ D.1 ψ) ?_
 rintro _ w1⟨E,V,g,H⟩
 refine qM O<|Qq O<|Qj z5E O (Ui V ω (j:=1) (i:=v) (x:=0) ψ D.2 ψ) ?_
 rintro _ w2⟨F,B,U,J⟩
 obtain⟨d,f⟩:=B.dm
 have r:=f.cells
 replace r:Q8 w2 rr [I (s.steps:Int),I (s.fin:Int),I (s.Qg:Int),.bool s.Rf,.bool s.done,ptr G.k 0,ptr T.k 0,I (root:Int),ptr (d 0) 0,ptr (d 1) 0,ptr (d 2) 0,ptr (d 3) 0,ptr (d 4) 0,.bool false,.bool false] 103:=r
 refine qM O<|Qq O<|QC O<|Qf RF O<|Qf Wy O<|qV (Q0 U3 O O r O)<|Q4 O<|Qj z5E O (Ui B ω (j:=3) (i:=s.Qg) (x:=v) ψ c ω) ?_
 rintro _ A⟨m,C,p,M⟩
 obtain⟨l,q⟩:=C.dm
 have n:=q.cells
 replace n:Q8 A rr [I (s.steps:Int),I (s.fin:Int),I (s.Qg:Int),.bool s.Rf,.bool s.done,ptr G.k 0,ptr T.k 0,I (root:Int),ptr (l 0) 0,ptr (l 1) 0,ptr (l 2) 0,ptr (l 3) 0,ptr (l 4) 0,.bool false,.bool false] 103:=n
 refine PR<|Sv O<|QC O<|Qf RF O<|Qf Wy O<|qV (Q0 U3 O O n O)<|Ra O<|QC O<|Qf RF O<|Qf Wy O<|Qc O (S0 R8 O O O n ξ) ?_
 rintro w4⟨S,z⟩
 have Z:=C.zaW (s':=s.push v) q z S (λj hj=>by
  obtain rfl|rfl|rfl|rfl|rfl:j=0\/j=1\/j=2\/j=3\/j=4:=ω
  all_goals rfl)
 refine PR<|QA.qb (e:=[]) ?_
 refine Rj func44 O ?_
 exact⟨_,O,⟨m,K+1+1+1,Z,ω,λy e=>((p y e).trans (U y e)).trans (g y e)⟩,(((H.trans J).trans M).PZ λb e=> .inl λN=>e (.inl (.inl N))).trans (z.PZ λb e=> .inr (by rw[e];exact q.o.1))⟩
end
section
variable {Y:Nat->Prop}{v:Nat}{s s':DmS}
def nxR (g:List (List Nat))(s:DmS)(v:Nat):Value:=match(Qd g v)[s.looked.getD v 0]? with
 |none=> .tuple #[I 0,.bool false]
 |some u=> .tuple #[I (u:Int),.bool true]
def nxS (g:List (List Nat))(s:DmS)(v:Nat):DmS:=match(Qd g v)[s.looked.getD v 0]? with
 |none=>s
 |some _=>s.look v
theorem z7V (h:St (Vg T.k root) G T Q txt K X rr O_ a L s w)(hK:K<=800000000000)(hv:v<G.g.length)(yS:s.looked.length=G.g.length)(GU:s.looked.getD v 0<=(Qd G.g v).length):Qx prog 118 [ptr rr 0,I (v:Int)] w λr w'=>r=nxR G.g s v/\∃txt' K',St (Vg T.k root) G T Q txt' K' X rr O_ a L (nxS G.g s v) w'/\K'<=K+1/\(∀y:Int,y<(a:Int)\/(a:Int)+(L:Int)<=y->txt' y=txt y)/\Kp (λb=>¬X b) w w':=by
 have t:∀b,X b->b<w.heap.size:=λb hb=>h.lt b (.inl (.inl hb))
 have c:=h.far
 obtain⟨n1,n2,n3⟩:=h.ng
 have ru:=h.lt T.rb (.inl (.inr O))
 have dH:=h.m.n
 have eZ:=h.m.g.ok.gr
 obtain⟨vb,hV⟩:=h.dm
 have hR:=hV.cells
 have vz:=h.xr _ hV.o.1
 obtain⟨k,hk⟩:∃k,s.looked[v]? =some k:=⟨_,y07 ω⟩
 have B:s.looked.getD v 0=k:=Yh hk
 have ia:(Qd G.g v).length<=G.g.length:=eZ.len (y0i (show G.g[v]? =some (Qd G.g v) by unfold Qd;rw[y07 hv];rfl))
 have ad:nxR G.g s v=match(Qd G.g v)[k]? with|none=> .tuple #[I 0,.bool false]|some u=> .tuple #[I (u:Int),.bool true]:=by unfold nxR;rw[B]
 have ae:nxS G.g s v=match(Qd G.g v)[k]? with|none=>s|some _=>s.look v:=by unfold nxS;rw[B]
 rw[ad,ae]
 rw[B] at GU
 refine py (e:=[(0,_),(1,_)]) func118 O ntmps118 O O<|qN O<|PX O O (Sy O (cs:=[ptr rr 0]) O) ?_
 rintro _ w1⟨b2,rfl,bR,pI,ah⟩
 refine PX O O (Sy O (cs:=[I (v:Int)]) O) ?_
 rintro _ w2⟨b3,rfl,ev,vA,ak⟩
 refine PX O O (SE (cs:=[_]) R8 O) ?_
 rintro _ w3⟨V,rfl,fD,AU,au⟩
 refine PX O O (SE (cs:=[_]) Wu O) ?_
 rintro _ w4⟨b5,rfl,gj,vB,aJ⟩
 replace au:Q8 w3 V [I 0] 3:=au
 replace aJ:Q8 w4 b5 [.bool false] 4:=aJ
 have z1:=pI.size
 have z2:=vA.size
 have z3:=AU.size
 have z4:=vB.size
 have l1:=ah.lt
 have l2:=ak.lt
 have l3:=au.lt
 have l4:=aJ.lt
 have cw:=AU.trans vB
 have bH:=(pI.trans vA).trans cw
 have co:=cw.PO (vA.PO ah)
 have eS:=cw.PO ak
 have cY:=vB.PO au
 have h4:=h.ext bH
 refine qM O<|qV (Q0 U44 O O co O)<|qV (Q0 U3 O O eS O) ?_
 obtain⟨M,oK⟩:∃M:Nat->Prop,(λj=>X j\/j=b2\/j=b3\/j=V\/j=b5)=M:=⟨_,O⟩
 have Cc:∀j,X j->M j:=λj d=>by rw[<-oK];exact .inl d
 have E:M b2/\M b3/\M V/\M b5:=by rw[<-oK];exact⟨.inr (.inl O),.inr (.inr (.inl O)),.inr (.inr (.inr (.inl O))),.inr (.inr (.inr (.inr O)))⟩
 have oD:St (Vg T.k root) G T Q txt K M rr O_ a L s w4:=h.grow bH (λj d=>by rw[<-oK] at d;exact d.imp id λe=>ω) Cc
 refine Qj YR O (Tg oD (j:=1) ψ hk) ?_
 rintro _ w5⟨rfl,h5,W⟩
 have pn:∀{j},M j->¬¬YA G T M j:=λd e=>e (.inl (.inl d))
 have dS:=W.PO co (pn E.1)
 have dy:=W.PO eS (pn E.2.1)
 have cB:=W.PO cY (pn E.2.2.1)
 have aK:=W.PO aJ (pn E.2.2.2)
 have gU:=W.PO (bH.PO hR) (pn (Cc _ vz))
 have z5:=W.size
 refine PX O O (SE (cs:=[_]) R8 O) ?_
 rintro _ w6⟨b6,rfl,oY,aR,aU⟩
 refine Qc O (S0 R8 O O O aU ξ) ?_
 rintro w7⟨jw,ay⟩
 replace jw:Q8 w7 b6 [I (k:Int)] 3:=jw
 have z6:=aR.size
 have z7:=ay.size
 have l6:=aU.lt
 refine qM O<|PX O O (SE (cs:=[_]) R8 O) ?_
 rintro _ w8⟨b7,rfl,lu,cE,aW⟩
 refine Qc O (S0 R8 O O O aW ξ) ?_
 rintro w9⟨js,aM⟩
 replace js:Q8 w9 b7 [I 0] 3:=js
 have z8:=cE.size
 have z9:=aM.size
 have l8:=aW.lt
 have mL:Ext w5 w9:=((aR.An ay λb e=>ω).trans cE).An aM λb e=>ω
 have GV:=mL.PO dS
 have uE:=mL.PO dy
 have uD:=mL.PO cB
 have bM:=mL.PO aK
 have rL:=mL.PO gU
 have iS:=aM.PO (cE.PO jw) ω
 have hg:=Ext.Qm w9
 refine PR<|It<|It<|Sq (λw'=>Ext w9 w') O<|qT 0 O (λ_ h=>(Q0 U44 O O (h.PO GV) O)) hg<|PV 1 O (Rs O) hg<|PV 2 O (QE z1O O) hg<|qT 3 O (λ_ h=>(Q0 U28 O O (h.PO rL) O)) hg<|qT 4 O (λ_ h=>(Q0 U3 O O (h.PO uE) O)) hg<|TQ 5 O zfm O (z2V G.k v _) ?_
 rintro _ F⟨bk,bi,rfl,qu,x9,fU,sI,AV⟩
 refine⟨hg.trans AV,?_⟩
 have lS:=hg.trans AV
 have za:=lS.size
 have zg:=hg.size
 have lk:=qu.lt
 have li:=x9.lt
 refine qE<|PT<|TX (ps:=[19,20]) (p:=[]) (q:=[_,_]) O zfs ?_
 rintro l wl dh fL cM hD Rc Z eC
 have zl:=dh.size
 have fw:Ext w5 wl:=(mL.trans lS).trans dh
 obtain⟨R,eE⟩:∃R:Nat->Prop,(λj=>M j\/j=b6\/j=b7\/j=F.heap.size\/j=l)=R:=⟨_,O⟩
 have J:∀j,M j->R j:=λj d=>by rw[<-eE];exact .inl d
 have H:R b6/\R b7/\R F.heap.size/\R l:=by rw[<-eE];exact⟨.inr (.inl O),.inr (.inr (.inl O)),.inr (.inr (.inr (.inl O))),.inr (.inr (.inr (.inr O)))⟩
 have ff:∀j,X j->R j:=λj d=>J j (Cc j d)
 have fF:∀j,w.heap.size<=j->¬O_ j:=λj d=>(c j d).2.2.2.2.2.2
 have GW:St (Vg T.k root) G T Q txt K R rr O_ a L s wl:=h5.grow fw (λj d=>by rw[<-eE] at d;exact d.imp id λe=>ω) J
 have mE:Kp (λb=>¬X b) w wl:=(bH.kp.trans (W.PZ λb e z=>e (.inl (.inl (Cc b z))))).trans fw.kp
 have GX:=fw.PO dS
 have GY:=fw.PO dy
 have GZ:=fw.PO cB
 have H0:=fw.PO aK
 have H1:=(lS.trans dh).PO iS
 have H2:=(lS.trans dh).PO js
 refine Qx.mono (z3w hv GW (dh.PO qu) (dh.PO x9) (λj=>j=l\/j=V\/j=b5\/j=b7) (λj d=>by
   rcases d with rfl|rfl|rfl|rfl
   ·exact H.2.2.2
   ·exact J _ E.2.2.1
   ·exact J _ E.2.2.2
   ·exact H.2.1)
  (λi txt' K' s' w'=>Rc .ready none w'/\txt'=txt/\K'=K/\s'=s/\i<=k/\w'.heap[F.heap.size]? =some (.deferred (some []))/\(Q8 w' b2 [ptr rr 0] 44/\Q8 w' b3 [I (v:Int)] 3/\Q8 w' V [I 0] 3/\Q8 w' b5 [.bool false] 4/\Q8 w' b6 [I (k:Int)] 3/\Q8 w' b7 [I (i:Int)] 3)/\Kp (λb=>¬X b) w w')
  (λtxt' K' s' w'=>Rc .done (some .ret) w'/\s'=s.look v/\K'<=K+1/\(∀y:Int,y<(a:Int)\/(a:Int)+(L:Int)<=y->txt' y=txt y)/\(∃u,(Qd G.g v)[k]? =some u/\Q8 w' V [I (u:Int)] 3)/\w'.heap[F.heap.size]? =some (.deferred (some []))/\Q8 w' b5 [.bool true] 4/\Kp (λb=>¬X b) w w')
  ?_ ?_) ?_
 ·intro w7 hz f;have A:∀{j},R j->¬¬R j:=λd e=>e d;exact⟨f.rc Z eC (A H.2.2.2),O,O,O,y03 _,f.heap hD (A H.2.2.1),⟨f.PO GX (A (J _ E.1)),f.PO GY (A (J _ E.2.1)),f.PO GZ (A (J _ E.2.2.1)),f.PO H0 (A (J _ E.2.2.2)),f.PO H1 (A H.1),f.PO H2 (A H.2.1)⟩,mE.trans (f.PZ λb e z=>e (ff b z))⟩
 ·rintro Y i u txt' K' s' w7 C kR a5 hs h7⟨AW,rfl,rfl,rfl,NO,H3,⟨JC,JD,AX,kT,JE,JF⟩,nu⟩;have U:Y l/\Y V/\Y b5/\Y b7/\Y b2/\Y b3/\Y b6/\Y F.heap.size:=⟨C _ H.2.2.2,C _ (J _ E.2.2.1),C _ (J _ E.2.2.2),C _ H.2.1,C _ (J _ E.1),C _ (J _ E.2.1),C _ H.1,C _ H.2.2.1⟩;have kU:∀j,X j->Y j:=λj d=>C j (ff j d);have pB:u<G.g.length:=Vj eZ v u (y0i hs);refine Vk Z AW O O<|RY O<|PY O<|Qe O<|run_beginRound O Z AW ?_;rintro a2 wW N;have h8:=h7.own N (λj e=>by subst e;exact⟨U.1,c _ ω⟩);have AY:=N.PO JC ω;have AZ:=N.PO JD ω;have B0:=N.PO AX ω;have rv:=N.PO kT ω;have vC:=N.PO JE ω;have vD:=N.PO JF ω;have Ce:=N.heap H3 ω;have a6:=N.size;have jd:Kp (λb=>¬X b) w a2:=nu.trans (N.PZ λj e z=>by have:=t j z;omega);refine PT<|Qz O<|Qj z7s O (Ue _) ?_;rintro _ a2 rfl;refine PR<|It<|qN O<|qV (Q0 U3 O O vD O)<|qV (Q0 U3 O O vC O) ?_;by_cases H4:i=k
  ·subst H4
   have B1:s'.look v=s'.z4D 1 ((s'.vec 1).set v (i+1)):=by
    unfold DmS.look;rw[B];rfl
   refine Ss O<|SD<|PR<|QA.qb (e:=[(2,_),(3,_),(4,_),(5,_),(6,_),(7,_),(8,_),(25,_)]) ?_;refine Qb O (qN O (qV (Q0 U44 O O AY O) (qV (Q0 U3 O O AZ O) (qV (Q0 U3 O O vC O) (Ra O (Qj z5E O (Ui h8 ω (j:=1) (i:=v) (x:=i+1) ψ (by show v<s'.looked.length;omega) ω) ?_))))));rintro _ a0⟨a1,h9,GM,D⟩;have kV:∀{j},Y j->¬¬YA G T Y j:=λd e=>e (.inl (.inl d));have H5:=D.PO B0 (kV U.2.1);have kW:=D.PO rv (kV U.2.2.1);have vE:=D.rc Z wW (kV U.1);have B2:=D.heap Ce (kV U.2.2.2.2.2.2.2);have iY:Kp (λb=>¬X b) w a0:=jd.trans (D.PZ λb e z=>e (.inl (.inl (kU b z))));have oL:Kp (λb=>(¬Y b/\b≠T.rb)\/b=l\/b=V\/b=b5\/b=b7) w7 a0:=(N.PZ λj e=> .inr (.inl e)).trans (D.PZ λj e=> .inl ⟨λz=>e (.inl (.inl z)),λz=>e (.inl (.inr z))⟩);have a7:=D.size;refine qM O (Q4 O (qV (QU O RO U3 ω) (Qc O (S0 R8 O O O H5 ξ) ?_)));rintro a3⟨H6,bF⟩;have oM:=bF.PO kW ω;refine Qc O (S0 Wu O O O oM ξ) ?_;rintro a4⟨vF,cF⟩;have H7:=cF.PO H6 ω;have oZ:=(h9.own bF (λj e=>by subst e;exact⟨U.2.1,c _ ω⟩)).own cF (λj e=>by subst e;exact⟨U.2.2.1,c _ ω⟩);have yw:=cF.rc Z (bF.rc Z vE ω) ω;have NP:=cF.heap (bF.heap B2 ω) ω;refine PR<|Xf Z yw ?_;intro wd jr B;rw[<-B1] at oZ;exact⟨.inr ⟨O,a1,K'+1,s'.look v,oZ.own B (λj e=>by subst e;exact⟨U.1,c _ ω⟩),jr,O,y04 _,GM,⟨u,hs,B.PO H7 ω⟩,B.heap NP ω,B.PO vF ω,((iY.trans (bF.PZ λj e z=>by have:=t j z;omega)).trans (cF.PZ λj e z=>by have:=t j z;omega)).trans (B.PZ λj e z=>by have:=t j z;omega)⟩,((oL.trans (bF.PZ λj e=> .inr (.inr (.inl e)))).trans (cF.PZ λj e=> .inr (.inr (.inr (.inl e))))).trans (B.PZ λj e=> .inr (.inl e))⟩
  ·refine Ss O<|QW<|PR<|QA.qb (e:=[(2,_),(3,_),(4,_),(5,_),(6,_),(7,_),(8,_),(25,_)]) ?_;refine Us O (PY O (qV (Q0 U3 O O vD O) (Ra O (Qc O (S0 R8 O O O vD ξ) ?_))));rintro a0⟨H8,D⟩;have h9:=h8.own D (λj e=>by subst e;exact⟨U.2.2.2.1,c _ ω⟩);have vE:=D.rc Z wW ω;refine PR<|PN<|TJ Z vE ?_;intro wd jr B;exact⟨.inl ⟨O,txt',K',s',h9.own B (λj e=>by subst e;exact⟨U.1,c _ ω⟩),jr,O,O,O,ω,B.heap (D.heap Ce ω) ω,⟨B.PO (D.PO AY ω) ω,B.PO (D.PO AZ ω) ω,B.PO (D.PO B0 ω) ω,B.PO (D.PO rv ω) ω,B.PO (D.PO vC ω) ω,B.PO H8 ω⟩,(jd.trans (D.PZ λj e z=>by have:=t j z;omega)).trans (B.PZ λj e z=>by have:=t j z;omega)⟩,((N.PZ λj e=> .inr (.inl e)).trans (D.PZ λj e=> .inr (.inr (.inr (.inr e))))).trans (B.PZ λj e=> .inr (.inl e))⟩
 ·rintro v' wz⟨rfl,Y,P,Kz,sz,C,kR,hz,⟨B3,rfl,rfl,rfl,NO,B4,⟨JC,JD,AX,kT,JE,JF⟩,dT⟩|⟨B3,rfl,NQ,ql,⟨u,hu,AX⟩,B4,kT,dT⟩⟩
  ·refine⟨_,_,B3,ξ,λwy S=>?_⟩;have zz:=dT.size;have zy:=S.size;have vG:=S.PO AX ω;have mM:=S.PO kT ω;have qG:=S.heap B4 ω;rw[y0v ω];refine PN (qN O (Qc O (S0 R8 O O O vG ξ) ?_));rintro wx⟨H9,kJ⟩;have Ha:=kJ.PO mM ω;refine Qc O (S0 Wu O O O Ha ξ) ?_;rintro wv⟨Hb,kK⟩;have Hc:=kK.PO H9 ω;have NR:=kK.heap (kJ.heap qG ω) ω;have dq:Kp (λk=>k=F.heap.size) wv (TL [.mk F.heap.size] wv):=RJ wv F.heap.size (.deferred none);have vH:=dq.PO Hc ω;have vI:=dq.PO Hb ω;have cI:Kp (λk=>k=l\/k=V\/k=b5\/k=F.heap.size) wz (TL [.mk F.heap.size] wv):=(((S.PZ λj e=> .inl e).trans (kJ.PZ λj e=> .inr (.inl e))).trans (kK.PZ λj e=> .inr (.inr (.inl e)))).trans (dq.PZ λj e=> .inr (.inr (.inr e)));refine PR (WM ξ (Y8 NR) func118 (.cell1 U3 O O ((vH).cell _) (.cell1 U4 O O ((vI).cell _) .nil)) ?_);exact⟨_,O,O,P,Kz,(hz.own cI (λj e=>⟨by rcases e with rfl|rfl|rfl|rfl;exact C _ H.2.2.2;exact C _ (J _ E.2.2.1);exact C _ (J _ E.2.2.2);exact C _ H.2.2.1,c j ω⟩)).less (λj d=>C j (ff j d)) h.xk h.xr,Nat.le_add_right _ _,λ_ _=>rfl,dT.trans (cI.PZ λj e z=>by have:=t j z;omega)⟩
  ·refine⟨_,_,B3,ξ,λwy S=>?_⟩;have zz:=dT.size;have zy:=S.size;have vG:=S.PO AX ω;have mM:=S.PO kT ω;have qG:=S.heap B4 ω;have dq:Kp (λk=>k=F.heap.size) wy (TL [.mk F.heap.size] wy):=RJ wy F.heap.size (.deferred none);have vH:=dq.PO vG ω;have vI:=dq.PO mM ω;have cI:Kp (λk=>k=l\/k=F.heap.size) wz (TL [.mk F.heap.size] wy):=(S.PZ λj e=> .inl e).trans (dq.PZ λj e=> .inr e);rw[hu];refine WM ξ (Y8 qG) func118 (.cell1 U3 O O ((vH).cell _) (.cell1 U4 O O ((vI).cell _) .nil)) ?_;exact⟨_,O,O,P,Kz,(hz.own cI (λj e=>⟨by rcases e with rfl|rfl;exact C _ H.2.2.2;exact C _ H.2.2.1,c j ω⟩)).less (λj d=>C j (ff j d)) h.xk h.xr,NQ,ql,dT.trans (cI.PZ λj e z=>by have:=t j z;omega)⟩
end
section
variable {v:Nat}{s s':DmS}
def ZP {s s':DmS}(b:s'.num=s.num)(d:s'.looked=s.looked)(e:s'.cand=s.cand)(h:s'.VD=s.VD)(l:s'.ord=s.ord):∀j,j<5->s'.vec j=s.vec j:=λj m=>by
 obtain rfl|rfl|rfl|rfl|rfl:j=0\/j=1\/j=2\/j=3\/j=4:=ω
 ·exact b
 ·exact d
 ·exact e
 ·exact h
 ·exact l
theorem z8j (h:St (Vg T.k root) G T Q txt K X rr O_ a L s w)(z:YE G.g root s)(hh:0<s.Qg)(hK:K<=700000000000):Qx prog 82 [ptr rr 0] w λ_ w'=>DmW G T Q txt K X rr root O_ a L 5 (s.move G.g) w w':=by
 have dH:=h.m.n
 have eZ:=h.m.g.ok.gr
 have NS:=z.fh
 have qz:=z.nn
 have yS:=z.ln
 have jn:=z.sn
 have wT:=z.on
 obtain⟨vb,hV⟩:=h.dm
 have hR:=hV.cells
 obtain⟨v,hv⟩:∃v,s.VD[s.Qg-1]? =some v:=⟨_,y07 ω⟩
 have f:s.VD.getD (s.Qg-1) 0=v:=Yh hv
 obtain⟨Z,v2⟩:=z.st (s.Qg-1) ω
 rw[f] at Z v2
 have GU:=(z.lk v Z ω).1
 have xa:s.move G.g=match(Qd G.g v)[s.looked.getD v 0]? with
  |none=>s.YD v
  |some u=>if s.num.getD u 0=4294967295 then(s.look v).push u else s.look v:=by
  unfold DmS.move;rw[f]
  try (cases (Qd G.g v)[s.looked.getD v 0]?<;>rfl)
 rw[xa]
 refine py (e:=[(0,_)]) func82 O ntmps82 O O<|RK O<|QC O<|Qf RF O<|Qf Wy O<|qV (Q0 U3 O O hR O)<|SA O ?_
 rw[show(s.Qg:Int)-1=((s.Qg-1:Nat):Int) by omega]
 refine Qj YR O (Tg h (j:=3) ψ hv) ?_
 rintro _ w1⟨rfl,W,aI⟩
 refine Sb O<|Qq O<|Qj zkD O (z7V W ω Z yS GU) ?_
 rintro _ w2⟨rfl,E,p,B,sX,S,am⟩
 have A:Kp (λb=>¬X b\/O_ b) w w2:=(aI.PZ λb e=> .inl λr=>e (.inl (.inl r))).trans (am.PZ λb e=> .inl e)
 cases D:(Qd G.g v)[s.looked.getD v 0]? with
 | none =>
   have R:nxR G.g s v= .tuple #[I 0,.bool false]:=by unfold nxR;rw[D]
   have r:nxS G.g s v=s:=by unfold nxS;rw[D]
   rw[r] at B;rw[R];obtain⟨a1,kS⟩:=B.dm;have cA:=kS.cells;refine Q4 O<|Tr O<|Rw O<|PT<|Qz O<|qV (Tf O) ?_;rw[show(!false)=true from rfl];refine Qe O (Qb O (RK O (Q4 O (QC O (Qf RF O (Qf Zm O (qV (Q0 U3 O O cA O) (Qj z5E O (Ui B ω (j:=0) (i:=v) (x:=s.fin) ψ (by show v<s.num.length;omega) ω) ?_))))))));rintro _ w3⟨a0,C,rj,N⟩;obtain⟨q,AS⟩:=C.dm;have iQ:Q8 w3 rr [I (s.steps:Int),I (s.fin:Int),I (s.Qg:Int),.bool s.Rf,.bool s.done,ptr G.k 0,ptr T.k 0,I (root:Int),ptr (q 0) 0,ptr (q 1) 0,ptr (q 2) 0,ptr (q 3) 0,ptr (q 4) 0,.bool false,.bool false] 103:=AS.cells;refine PR<|QA.qb (e:=[(0,_),(2,_)]) ?_;refine RK O (QC O (Qf RF O (Qf Zm O (qV (Q0 U3 O O iQ O) (Q4 O (Qj z5E O (Ui C ω (j:=4) (i:=s.fin) (x:=v) ψ (by show s.fin<s.ord.length;omega) ω) ?_))))));rintro _ c⟨l,J,V,M⟩;obtain⟨d,U⟩:=J.dm;have P:Q8 c rr [I (s.steps:Int),I (s.fin:Int),I (s.Qg:Int),.bool s.Rf,.bool s.done,ptr G.k 0,ptr T.k 0,I (root:Int),ptr (d 0) 0,ptr (d 1) 0,ptr (d 2) 0,ptr (d 3) 0,ptr (d 4) 0,.bool false,.bool false] 103:=U.cells;refine qM O (Q4 O (QC O (Qf RF O (Qf Zm O (qV (Q0 U3 O O P O) (Ra O (QC O (Qf RF O (Qf Zm O (Qc O (S0 R8 O O O P ξ) ?_))))))))));rintro w5⟨H,ai⟩;replace H:Q8 w5 rr [I (s.steps:Int),I ((s.fin:Int)+1),I (s.Qg:Int),.bool s.Rf,.bool s.done,ptr G.k 0,ptr T.k 0,I (root:Int),ptr (d 0) 0,ptr (d 1) 0,ptr (d 2) 0,ptr (d 3) 0,ptr (d 4) 0,.bool false,.bool false] 103:=H;refine PR (Sv O (QC O (Qf RF O (Qf Wy O (qV (Q0 U3 O O H O) (SA O (QC O (Qf RF O (Qf Wy O (Qc O (S0 R8 O O O H ξ) ?_))))))))));rintro w6⟨F,aL⟩;have kX:Kp (λj=>j=rr) c w6:=ai.trans aL;replace F:Q8 w6 rr [I (s.steps:Int),I ((s.fin:Int)+1),I ((s.Qg:Int)-1),.bool s.Rf,.bool s.done,ptr G.k 0,ptr T.k 0,I (root:Int),ptr (d 0) 0,ptr (d 1) 0,ptr (d 2) 0,ptr (d 3) 0,ptr (d 4) 0,.bool false,.bool false] 103:=F;rw[show(s.Qg:Int)-1=((s.Qg-1:Nat):Int) by omega] at F;have h6:=J.zaW (s':=s.YD v) U kX F (ZP O O O O O);refine PR<|QA.qb (e:=[]) ?_;refine PN<|Rj func82 O ?_
   exact⟨_,O,⟨l,p+1+1,h6,ω,λy e=>((V y e).trans (rj y e)).trans (S y e)⟩,(A.trans ((N.trans M).PZ λb e=> .inl λr=>e (.inl (.inl r)))).trans (kX.PZ λb e=> .inr (by rw[e];exact U.o.1))⟩
 | some u =>
   have R:nxR G.g s v= .tuple #[I (u:Int),.bool true]:=by unfold nxR;rw[D]
   have r:nxS G.g s v=s.look v:=by unfold nxS;rw[D]
   rw[r] at B;rw[R];have pB:u<G.g.length:=Vj eZ v u (y0i D);obtain⟨x,hx⟩:∃x,s.num[u]? =some x:=⟨_,y07 ω⟩;refine Q4 O<|Tr O<|Rw O<|PT<|Qz O<|qV (Tf O) ?_;rw[show(!true)=false from rfl];refine Qe O (PW O (RK O (Qj YR O (Tg B (j:=0) (i:=u) (x:=x) ψ hx) ?_)));rintro _ w3⟨rfl,C,N⟩;have t:=A.trans (N.PZ λb e=> .inl λr=>e (.inl (.inl r)));have jH:s.num.getD u 0=x:=Yh hx;dsimp only;rw[jH];by_cases e:x=4294967295
   ·rw[if_pos e]
    have o4:s.fin+s.Qg<G.g.length:=by
     have W:=z.ct;have B:Xx G.g.length (λv=>s.num.getD v 0≠4294967295)<Xx G.g.length (λ_=>True):=z1s (λ_ _ _=>trivial) pB (λh=>h (by rw[jH];exact e)) trivial;have C:Xx G.g.length (λ_=>True)<=G.g.length:=z4d;omega
    refine Ss O<|SD<|Qe O<|QA.qb (e:=[(0,_),(3,_),(56,_)]) ?_;refine Qb O (PY O (Qq O (Qj zjC O (z2z C ω ⟨by show u<s.num.length;omega,by show u<(s.looked.set v _).length;rw[y0A];omega⟩ (by show s.Qg<s.VD.length;omega)) ?_)));rintro _ c hW;obtain⟨⟨l,K4,J,Hd,V⟩,M⟩:=hW;refine PR<|PN<|Rj func82 O ?_;exact⟨_,O,⟨l,K4,J,ω,λy e=>(V y e).trans (S y e)⟩,t.trans M⟩
   ·rw[if_neg e];refine Ss O<|QW<|Qe O<|QA.qb (e:=[(0,_),(3,_),(56,_)]) ?_;refine Us O<|PN<|Rj func82 O ?_;exact⟨_,O,⟨E,p,C,ω,S⟩,t⟩
end
section
variable {v q:Nat}{s:DmS}
def z1G {l:List Nat}{v x:Nat}(h:l[v]? =some x):UJ l v=x:=by
 show l.getD v 4294967295=x
 rw[y12,h];rfl
theorem z8B (h:St (Vg T.k root) G T Q txt K X rr O_ a L s w)(hN:zhl (VW G.g root) (nF s.num) root)(E:Fo (VW G.g root) (nF s.num) root (UJ s.cand))(W:root<G.g.length)(qz:s.num.length=G.g.length)(Cf:s.cand.length=G.g.length)(B:UJ s.cand p≠4294967295)(C:UJ s.cand q≠4294967295)(d:meetF (nF s.num) (UJ s.cand) (2*G.g.length) p q=some c):Qx prog 117 [ptr rr 0,I (p:Int),I (q:Int)] w λr w'=>r=I (c:Int)/\St (Vg T.k root) G T Q txt K X rr O_ a L s w'/\Kp (λb=>¬YA G T X b) w w':=by
 have dH:=h.m.n
 have f:=h.m.g.ok.gr
 obtain⟨vb,hV⟩:=h.dm
 have hR:=hV.cells
 refine py (e:=[(0,_),(1,_),(2,_)]) func117 O ntmps117 O O<|RY O<|z3T<|Qz O<|QC O<|Qf z1O O<|qV (Q0 U28 O O hR O)<|Qj z7O O (Yj h.m.g) ?_
 rintro _ w⟨rfl,rfl⟩
 refine qV (WB O O ω)<|Qe O<|It<|z3R<|RU ?_
 rw[show(2:Int)*(G.g.length:Int)=((2*G.g.length:Nat):Int) by omega]
 refine SN (α:=Nat×Nat×Nat) (2*G.g.length,p,q) (λy=>[(0,ptr rr 0),(1,I (y.2.1:Int)),(2,I (y.2.2:Int)),(7,I (y.1:Int))]) (λy w'=>meetF (nF s.num) (UJ s.cand) y.1 y.2.1 y.2.2=some c/\UJ s.cand y.2.1≠4294967295/\UJ s.cand y.2.2≠4294967295/\St (Vg T.k root) G T Q txt K X rr O_ a L s w'/\Kp (λb=>¬YA G T X b) w w'/\y.1<=2*G.g.length) (λy=>y.1) ?hI ?hround
 case hI=>exact⟨d,B,C,h,Kp.refl _ _,y04 _⟩
 case hround=>
  rintro⟨k,p,q⟩ w1 ⟨d,B,C,A,F,j5⟩ M;dsimp only at d B C j5 M⊢
  try dsimp only
  refine It<|RK O ?_;by_cases e:p=q
  ·subst e
   have hc:p=c:=by
    cases k with
    |zero=>unfold meetF at d;rw[if_pos O] at d;exact SJ d
    |succ k=>unfold meetF at d;rw[if_pos O] at d;exact SJ d
   subst hc;refine RI O<|QW<|PR<|PW O<|Q7 O<|Qz O<|Qe O<|PQ func117 O ?_;exact⟨_,O,O,A,F⟩
  ·obtain⟨k',rfl⟩:∃k',k=k'+1:=by
    cases k with
    |zero=>unfold meetF at d;rw[if_neg e] at d;cases d
    |succ k=>exact⟨k,O⟩
   unfold meetF at d;rw[if_neg e] at d;have N:=E.in_ p B;have R:=E.in_ q C;have lp:=N.lt f W;have lq:=R.lt f W;obtain⟨x,hx⟩:∃x,s.num[p]? =some x:=⟨_,y07 ω⟩;obtain⟨y,hy⟩:∃y,s.num[q]? =some y:=⟨_,y07 ω⟩;obtain⟨x2,U⟩:∃x,s.cand[p]? =some x:=⟨_,y07 ω⟩;obtain⟨y2,t⟩:∃x,s.cand[q]? =some x:=⟨_,y07 ω⟩;have ex:nF s.num p=x:=Yh hx;have o:nF s.num q=y:=Yh hy;have ex2:=z1G U;have D:=z1G t;have tp:=hN.top p N;have tq:=hN.top q R;have l:=hN.inj p q N R;have u:=E.up p B;have z:=E.up q C;rw[ex,o,ex2,D] at d;rw[ex] at tp l u;rw[o] at tq l z;rw[ex2] at u;rw[D] at z;refine RI O<|SD<|PR<|Qb O<|PS<|PT<|QV O<|SA O ?_;rw[show((k'+1:Nat):Int)-1=(k':Int) by omega];refine RZ O (RT O (QW (Ri O (It (RK O (Qj YR O (Tg A (j:=0) (i:=p) (x:=x) ψ hx) ?_))))));rintro _ w2⟨rfl,h2,V⟩;refine Qq O (Qj YR O (Tg h2 (j:=0) (i:=q) (x:=y) ψ hy) ?_);rintro _ w3⟨rfl,P,Z⟩;by_cases S:x<y
   ·rw[if_pos S] at d;have pW:p≠root:=λe=>by subst e;omega
    refine RT O (SD (PR (Qb O (RK O (Qj YR O (Tg P (j:=2) (i:=p) (x:=x2) ψ U) ?_)))));rintro _ w4⟨rfl,J,H⟩;refine Qe O<|Q7 O ?_;exact(M (k',x2,q) _ ⟨d,(u pW).1,C,J,((F.trans V).trans Z).trans H,by show k'<=_;omega⟩ (by show k'<k'+1;omega)).qb
   ·rw[if_neg S] at d
    have u7:q≠root:=λe2=>by
     subst e2;exact e (l ω)
    refine RT O (QW (Ri O (PY O (Qq O (Qj YR O (Tg P (j:=2) (i:=q) (x:=y2) ψ t) ?_)))));rintro _ w4⟨rfl,J,H⟩;refine Qe O<|PN ?_;exact(M (k',p,y2) _ ⟨d,B,(z u7).1,J,((F.trans V).trans Z).trans H,by show k'<=_;omega⟩ (by show k'<k'+1;omega)).qb
end
section
variable {n:Nat}{num:List Nat}
def FdI.pre (d:TrF g root (nF num) par)(b:DsI g root (nF num) par (UJ cand))(e:nF num root<n)(ps:List Nat):FdI root (UJ cand) (ps.foldl (meS n num cand) 4294967295) (λq=>False\/q∈ps):=FdI.all d b e (.inl ⟨rfl,λ_ h=>h.elim⟩)
theorem FdI.ok (h:FdI root f c A)(b:c≠4294967295):f c≠4294967295:=by
 rcases h with h| h
 ·exact absurd h.1 b
 ·exact h.1
def FdI.le (h:FdI root (UJ cand) c A):c=4294967295\/c<cand.length:=by
 rcases h with h| h
 ·exact .inl h.1
 ·right
  rcases y0a c cand.length with e| e
  ·exact e
  ·refine absurd ?_ h.1;show cand.getD c 4294967295=_;rw[y12,y0v e];rfl
def zdz (b:UJ cand p=4294967295):meS n num cand c p=c:=if_pos b
theorem zaZ (b:UJ cand p≠4294967295):meS n num cand 4294967295 p=p:=by
 unfold meS
 rw[if_neg b,if_pos O]
def zdn (m:TrF g root (nF num) par)(l:DsI g root (nF num) par (UJ cand))(r:nF num root<n)(q:UJ cand c≠4294967295)(h:UJ cand p≠4294967295)(d:c≠4294967295):∃b,meetF (nF num) (UJ cand) (2*n) c p=some b/\meS n num cand c p=b:=by
 obtain⟨b,e,-⟩:=z36 m.n l.fo (2*n) c p q h ω
 refine⟨b,e,?_⟩
 unfold meS
 rw[if_neg h,if_neg d,e];rfl
end
section
variable {Y:Nat->Prop}{v:Nat}{s s':DmS}
theorem z5H (h:St (Vg T.k root) G T Q txt K X rr O_ a L s w)(hK:K<=700000000000)(hT:TrF G.g root (nF s.num) par)(hF:Fnd G.g root s.num s.ord s.fin)(z:DwI G.g root s.num par s.cand j)(hr:root<G.g.length)(jK:∀u v,u∈Qd T.g v↔v∈Qd G.g u)(GL:T.g.length=G.g.length)(qz:s.num.length=G.g.length)(wT:s.ord.length=G.g.length):Qx prog 81 [ptr rr 0] w λr w'=>r= .bool (YZ T.g G.g.length s.num s.ord (s.fin-1) (s.cand,false)).2/\DmW G T Q txt K X rr root O_ a L 60 {s with cand:=(YZ T.g G.g.length s.num s.ord (s.fin-1) (s.cand,false)).1} w w':=by
 have dH:=h.m.n
 have rx:T.g.length<=40:=ω
 have eZ:=h.m.g.ok.gr
 have He:=h.t.ok.gr
 have nx:=hF.t
 have Pz:=hF.f
 have bO:∀b,X b->b<w.heap.size:=λb A=>h.lt b (.inl (.inl A))
 obtain⟨n1,n2,n3⟩:=h.ng
 have cu:=h.far
 have Ca:=h.lt G.rb (.inr O)
 have ru:=h.lt T.rb (.inl (.inr O))
 obtain⟨vb,hV⟩:=h.dm
 have hR:=hV.cells
 have vz:=h.xr _ hV.o.1
 refine py (e:=[(0,_)]) func81 O ntmps81 O O<|qN O<|PX O O (Sy O (cs:=[ptr rr 0]) O) ?_
 rintro _ w1⟨b1,rfl,bP,ad,ah⟩
 have z1:=ad.size
 have l1:=ah.lt
 obtain⟨H,oK⟩:∃H:Nat->Prop,(λj=>X j\/j=b1)=H:=⟨_,O⟩
 have ff:∀j,X j->H j:=λj B=>by rw[<-oK];exact .inl B
 have dw:H b1:=by rw[<-oK];exact .inr O
 have h1:St (Vg T.k root) G T Q txt K H rr O_ a L s w1:=h.grow ad (λj B=>by rw[<-oK] at B;exact B.imp id λe=>ω) ff
 have V:=h1.xk
 have vJ:=h1.xr
 have o7:∀b,H b->b<w1.heap.size:=λb A=>h1.lt b (.inl (.inl A))
 have fV:=ad.PO hR
 refine Qe O<|It<|qN O<|qV (Q0 U44 O O ah O)<|QC O<|Qf RF O<|Qf Zm O<|qV (Q0 U3 O O fV O)<|SA O<|Qe O<|PT ?_
 rw[show(s.fin:Int)-2=((s.fin-1:Nat):Int)-1 by omega]
 obtain⟨D,JG⟩:∃D,YZ T.g G.g.length s.num s.ord (s.fin-1) (s.cand,false)=D:=⟨_,O⟩
 rw[JG]
 refine za1 (α:=(Nat×(List Nat×Bool))×List Dfr) ((s.fin-1,(s.cand,false)),[]) (λy=>y.2) O (λy=>[(1,ptr b1 0),(2,.bool y.1.2.2),(3,I ((y.1.1:Int)-1))]) (λy w'=>y.1.1<=s.fin-1/\YZ T.g G.g.length s.num s.ord y.1.1 y.1.2=D/\DwK G.g root s.num par y.1.2.1 j y.1.1/\(∃txt' K',St (Vg T.k root) G T Q txt' K' (λb=>H b\/ .mk b∈y.2) rr O_ a L {s with cand:=y.1.2.1} w'/\K'+y.1.1<=K+(s.fin-1)/\∀y:Int,y<(a:Int)\/(a:Int)+(L:Int)<=y->txt' y=txt y)/\Q8 w' b1 [ptr rr 0] 44/\Kp (λb=>¬X b) w w'/\MkN w1.heap.size y.2 w'/\w1.heap.size<=w'.heap.size) (λy=>y.1.1) (by repeat (first|exact Sub.nil|refine Sub.cons O ?_)) ?hI ?hround
 case hI=>exact⟨y04 _,JG,⟨z.n,by
   have:=DsK.begin hT z.i z.p;rw[show s.fin-1=nF s.num root by omega]
   exact this,z.c⟩,⟨txt,K,h1.less (λj B=>B.elim id (λe=>by cases e)) ⟨.inl V.1,.inl V.2.1,.inl V.2.2.1,.inl V.2.2.2.1,.inl V.2.2.2.2.1,.inl V.2.2.2.2.2⟩ (λb A=> .inl (vJ b A)),y04 _,λ_ _=>rfl⟩,ah,ad.kp,MkN.nil _ _,y04 _⟩
 case hround =>
  rintro⟨⟨m,p⟩,ms⟩ w2 ⟨hm,Cg,xc,⟨R,K2,h2,sX,gJ⟩,ak,am,gY,ns⟩ ih;dsimp only at hm Cg xc h2 sX gY ih⊢
  have JH:∀D,.mk D∈ms->¬H D:=λD z e=>by
   have:=gY.lo D z;have:=o7 D e;omega
  try dsimp only
  refine QV O ?_;rcases y0D m with Ax|Ax
  ·subst Ax;refine UL O<|QW<|PR<|PW O<|Q7 O<|Qz O<|Qe O ?_;have PA:∀D,.mk D∈ms->D≠b1:=λD z e=>JH D z (e▸dw);have dq:=z2j ms w2;have h3:=h2.own dq (λj e=>⟨.inr e,by have:=gY.lo j e;have:=cu j ω;exact this⟩);refine z55 gY.nd gY.m func81 O ?_;rw[show YZ T.g G.g.length s.num s.ord 0 p=p from rfl] at Cg;subst Cg;exact⟨_,O,O,⟨R,K2,h3.less (λj B=> .inl (ff j B)) h.xk h.xr,ω,gJ⟩,(am.PZ λb e=> .inl e).trans (dq.PZ λb e=> .inl λC=>by have:=gY.lo b e;have:=bO b C;omega)⟩
  ·obtain⟨k,rfl⟩:∃k,m=k+1:=⟨m-1,ω⟩;rw[show((k+1:Nat):Int)-1=(k:Int) by omega];refine UL O<|SD ?_;obtain⟨fK,lB⟩:=hF.d k ω;obtain⟨v,hv⟩:∃v,s.ord[k]? =some v:=⟨_,y07 ω⟩;have B5:s.ord.getD k 0=v:=Yh hv;obtain⟨cand,bb⟩:=p;have gR:=DwK.one (b:=bb) eZ hT hF jK (k:=k) ω xc hr
   have qw:dsV T.g G.g.length s.num s.ord (cand,bb) k=if UJ cand v=dsC T.g G.g.length s.num cand v then(cand,bb) else(cand.set v (dsC T.g G.g.length s.num cand v),true):=by
    unfold dsV;rw[B5]
   rw[B5] at fK lB;have gQ:v<G.g.length:=fK.lt eZ hr;have NT:v<T.g.length:=ω
   have ry:YZ T.g G.g.length s.num s.ord k (dsV T.g G.g.length s.num s.ord (cand,bb) k)=D:=Cg;obtain⟨d1,d2,d3⟩:=gR;have Cf:=xc.n;dsimp only at Cf;have JI:nF s.num root<G.g.length:=ω
   have dC:=λps=>FdI.pre (n:=G.g.length) hT xc.k.i JI ps;refine PR (Qb O (PS (RU (qN O (qV (Q0 U44 O O ak O) (Q4 O (Qj YR O (Tg h2 (j:=4) (i:=k) (x:=v) ψ hv) ?_)))))));rintro _ w3⟨rfl,h3,ar⟩;have z3:=ar.size;have au:=ar.PO ak (λe=>e (.inl (.inl (.inl dw))));have px:=gY.kp ar (λD z e=>e (.inl (.inl (.inr z))));have bY:Kp (λb=>¬X b) w w3:=am.trans (ar.PZ λb e C=>e (.inl (.inl (.inl (ff b C)))));refine Sb O<|PX O O (SE (cs:=[_]) R8 O) ?_;rintro _ w4⟨b5,rfl,gj,aD,aJ⟩;refine Qc O (S0 R8 O O O aJ ξ) ?_;rintro w5⟨aG,ai⟩;replace aG:Q8 w5 b5 [I ((4294967295:Nat):Int)] 3:=aG;have z4:=aD.size;have z5:=ai.size;have l4:=aJ.lt;have bK:Ext w3 w5:=aD.An ai λb e=>ω
   have dS:=bK.PO au;have h5:=h3.ext bK;have qQ:=px.kp bK.kp (S:=λ_=>False) (λ_ _ e=>e);obtain⟨a2,n6⟩:=h5.dm;have gU:=n6.cells;refine PR<|It<|qN O<|qV (Q0 U44 O O dS O)<|QC O<|Qf zez O<|qV (Q0 U28 O O gU O)<|Q4 O<|Qj zfm O (z2V T.k v _) ?_;rintro _ M⟨bk,bi,rfl,qu,x9,fU,sI,aR⟩;have z6:=aR.size;refine PR<|PT<|TX (ps:=[27,28]) (p:=[]) (q:=[_,_]) O zfs ?_;rintro l wl dh fL cM NU Rc W eC;have zl:=dh.size;have fw:=aR.trans dh;obtain⟨U,eE⟩:∃U:Nat->Prop,(λj=>(H j\/ .mk j∈ms)\/j=b5\/j=M.heap.size\/j=l)=U:=⟨_,O⟩;have eI:∀j,(H j\/ .mk j∈ms)->U j:=λj B=>by rw[<-eE];exact .inl B
   have Z:U b5/\U M.heap.size/\U l:=by rw[<-eE];exact⟨.inr (.inl O),.inr (.inr (.inl O)),.inr (.inr (.inr O))⟩
   have oN:∀j,H j->U j:=λj B=>eI j (.inl B);have vK:∀j,X j->U j:=λj B=>oN j (ff j B);have vL:∀D,.mk D∈ms->U D:=λD z=>eI D (.inr z)
   have sN:∀j,w.heap.size<=j->j≠T.k/\j≠T.x/\j≠G.k/\j≠G.x/\j≠1/\j≠2/\¬O_ j:=λj B=>by
    obtain⟨q1,q2,q3,q4,q5,q6,q7⟩:=cu j B;exact⟨q3,q4,q1,q2,q5,q6,q7⟩
   have Fv:St (Vg T.k root) G T Q R K2 (λb=>(H b\/ .mk b∈ms)\/b=b5) rr O_ a L {s with cand:=cand} w5:=h3.grow bK (λj B=>B.imp id λe=>ω) (λj B=> .inl B);have GW:St (Vg T.k root) G T Q R K2 U rr O_ a L {s with cand:=cand} wl:=Fv.grow fw (λj B=>by rw[<-eE] at B;rcases B with e|e|e;exact .inl (.inl e);exact .inl (.inr e);exact .inr ω) (λj B=>by rw[<-eE];exact B.imp id .inl);have vM:=GW.z9L rx;have mE:Kp (λb=>¬X b) w wl:=bY.trans (bK.trans fw).kp;have Hf:=fw.PO dS;have Hg:=fw.PO aG;have wL:=qQ.kp fw.kp (S:=λ_=>False) (λ_ _ e=>e);have kY:∀D,.mk D∈ms->D≠l/\D≠b5/\D≠b1:=λD z=>⟨λe=>by have:=px.hi D z;omega,λe=>by have:=px.hi D z;omega,λe=>JH D z (e▸dw)⟩
   refine Qx.mono (z3w NT vM (dh.PO qu) (dh.PO x9) (λj=>j=l\/j=b5) (λj B=>by
     rcases B with rfl|rfl
     ·exact Z.2.2
     ·exact Z.1)
    (λi txt' K' s' w'=>Rc .ready none w'/\txt'=R/\K'=K2/\s'={s with cand:=cand}/\w'.heap[M.heap.size]? =some (.deferred (some []))/\(Q8 w' b1 [ptr rr 0] 44/\Q8 w' b5 [I ((((Qd T.g v).take i).foldl (meS G.g.length s.num cand) 4294967295:Nat):Int)] 3)/\MkN w1.heap.size ms w'/\Kp (λb=>¬X b) w w')
    (λ_ _ _ _=>False) ?_ ?_) ?_
   ·intro w7 hz ew;have cf:∀{j},U j->¬¬U j:=λB e=>e B;exact⟨ew.rc W eC (cf Z.2.2),O,O,O,ew.heap NU (cf Z.2.1),⟨ew.PO Hf (cf (oN _ dw)),ew.PO Hg (cf Z.1)⟩,wL.kp ew (λD z e=>e (vL D z)),mE.trans (ew.PZ λb e C=>e (vK b C))⟩
   ·rintro Y i u txt' K' s' w7 N kR a3 hs h7⟨AW,rfl,rfl,rfl,H3,⟨Hh,kT⟩,FA,nu⟩;have E:Y l/\Y b5/\Y b1/\Y M.heap.size:=⟨N _ Z.2.2,N _ Z.1,N _ (oN _ dw),N _ Z.2.1⟩;have xd:∀D,.mk D∈ms->Y D:=λD z=>N _ (vL D z);have kU:∀j,X j->Y j:=λj B=>N j (vK j B);have pB:u<G.g.length:=by have:=Vj He v u (y0i hs);omega
    have ir:((Qd T.g v).take (i+1)).foldl (meS G.g.length s.num cand) 4294967295=meS G.g.length s.num cand (((Qd T.g v).take i).foldl (meS G.g.length s.num cand) 4294967295) u:=by
     rw[R4 hs,y3a];rfl
    rw[ir];have ly:=dC ((Qd T.g v).take i);have f7:=ly.le;obtain⟨c,hc⟩:∃c,((Qd T.g v).take i).foldl (meS G.g.length s.num cand) 4294967295=c:=⟨_,O⟩;rw[hc] at kT ly f7⊢;obtain⟨x,hx⟩:∃x,cand[u]? =some x:=⟨_,y07 ω⟩;have dX:=z1G hx;refine Vk W AW O O<|RY O<|PY O<|Qe O<|run_beginRound O W AW ?_;rintro w8 wW aQ;have h8:=(h7.own aQ (λj e=>by subst e;exact⟨E.1,sN _ ω⟩)).zg3 dH;have B6:=aQ.PO Hh ω;have rv:=aQ.PO kT ω;have NV:=FA.kp aQ (λD z e=>(kY D z).1 e);have Ce:=aQ.heap H3 ω;have z8:=aQ.size;have jd:Kp (λb=>¬X b) w w8:=nu.trans (aQ.PZ λj e C=>by have:=bO j C;omega);refine PT<|Qz O<|Qj z7s O (Ue _) ?_;rintro _ w8 rfl;refine PR (PT (qN O (qV (Q0 U44 O O B6 O) (Q4 O (qV (QU O RO U3 ω) (Qj YR O (Tg h8 (j:=2) (i:=u) (x:=x) ψ hx) ?_))))));rintro _ w9⟨rfl,h9,aM⟩;have kV:∀{j},Y j->¬¬YA G T Y j:=λB e=>e (.inl (.inl B));have rz:=aM.PO B6 (kV E.2.2.1);have kW:=aM.PO rv (kV E.2.1);have mH:=NV.kp aM (λD z e=>kV (xd D z) e);have B2:=aM.heap Ce (kV E.2.2.2);have vE:=aM.rc W wW (kV E.1);have iY:Kp (λb=>¬X b) w w9:=jd.trans (aM.PZ λb e C=>e (.inl (.inl (kU b C))));have oL:Kp (λb=>(¬Y b/\b≠G.rb)\/b=l\/b=b5) w7 w9:=(aQ.PZ λj e=> .inr (.inl e)).trans (aM.PZ λj e=> .inl ⟨λC=>e (.inl (.inl C)),λC=>e (.inr C)⟩);by_cases iW:x=4294967295
    ·have NW:meS G.g.length s.num cand c u=c:=zdz (by rw[dX];exact iW);rw[NW];refine Ss O<|SD<|Qe O<|QA.qb (e:=[(1,_),(2,_),(5,_),(6,_),(36,_)]) ?_;refine Qb O<|PS<|PN<|PN<|TJ W vE ?_;intro wd jr F;exact⟨.inl ⟨O,txt',K',_,(h9.own F (λj e=>by subst e;exact⟨E.1,cu _ ω⟩)).z9L rx,jr,O,O,O,F.heap B2 ω,⟨F.PO rz ω,F.PO kW ω⟩,mH.kp F (λD z e=>(kY D z).1 e),iY.trans (F.PZ λj e C=>by have:=bO j C;omega)⟩,oL.trans (F.PZ λj e=> .inr (.inl e))⟩
    ·have vN:UJ cand u≠4294967295:=by rw[dX];exact iW
     refine Ss O<|QW<|Qe O<|QA.qb (e:=[(1,_),(2,_),(5,_),(6,_),(36,_)]) ?_;refine PW O<|qN O<|qV (Q0 U3 O O kW O) ?_;by_cases rA:c=4294967295
     ·subst rA;rw[zaZ vN];refine Ss O (SD (Qe O (Qb O (Sv O (qV (QU O RO U3 ω) (Qc O (S0 R8 O O O kW ξ) ?_))))));rintro wa⟨oM,J⟩;have ha:=h9.own J (λj e=>by subst e;exact⟨E.2.1,cu _ ω⟩);have Hi:=J.rc W vE ω;refine PR<|PN<|PN<|TJ W Hi ?_;intro wd jr F;exact⟨.inl ⟨O,txt',K',_,(ha.own F (λj e=>by subst e;exact⟨E.1,cu _ ω⟩)).z9L rx,jr,O,O,O,F.heap (J.heap B2 ω) ω,⟨F.PO (J.PO rz ω) ω,F.PO oM ω⟩,(mH.kp J (λD z e=>(kY D z).2.1 e)).kp F (λD z e=>(kY D z).1 e),(iY.trans (J.PZ λj e C=>by have:=bO j C;omega)).trans (F.PZ λj e C=>by have:=bO j C;omega)⟩,(oL.trans (J.PZ λj e=> .inr (.inr e))).trans (F.PZ λj e=> .inr (.inl e))⟩
     ·obtain⟨c',kF,dr⟩:=zdn hT xc.k.i JI (ly.ok rA) vN rA;rw[dr];refine Ss O (QW (Qe O (PW O (PY O (qV (Q0 U44 O O rz O) (qV (Q0 U3 O O kW O) (Q4 O (qV (QU O RO U3 ω) (Qj zkl O (z8B h9 hT.n xc.k.i.fo hr qz Cf (ly.ok rA) vN kF) ?_)))))))));rintro _ wa⟨rfl,ha,J⟩;have Hj:=J.PO rz (kV E.2.2.1);have oM:=J.PO kW (kV E.2.1);have NX:=mH.kp J (λD z e=>kV (xd D z) e);have NY:=J.heap B2 (kV E.2.2.2);have Hi:=J.rc W vE (kV E.1);have Hk:Kp (λb=>¬X b) w wa:=iY.trans (J.PZ λb e C=>e (.inl (.inl (kU b C))));have Hl:Kp (λb=>(¬Y b/\b≠G.rb)\/b=l\/b=b5) w7 wa:=oL.trans (J.PZ λj e=> .inl ⟨λC=>e (.inl (.inl C)),λC=>e (.inr C)⟩);refine Qc O (S0 R8 O O O oM ξ) ?_;rintro wb⟨vF,cF⟩;have A:=ha.own cF (λj e=>by subst e;exact⟨E.2.1,cu _ ω⟩);have yw:=cF.rc W Hi ω;refine PR<|PN<|PN<|TJ W yw ?_;intro wd jr F;exact⟨.inl ⟨O,txt',K',_,(A.own F (λj e=>by subst e;exact⟨E.1,cu _ ω⟩)).z9L rx,jr,O,O,O,F.heap (cF.heap NY ω) ω,⟨F.PO (cF.PO Hj ω) ω,F.PO vF ω⟩,(NX.kp cF (λD z e=>(kY D z).2.1 e)).kp F (λD z e=>(kY D z).1 e),(Hk.trans (cF.PZ λj e C=>by have:=bO j C;omega)).trans (F.PZ λj e C=>by have:=bO j C;omega)⟩,(Hl.trans (cF.PZ λj e=> .inr (.inr e))).trans (F.PZ λj e=> .inr (.inl e))⟩
   ·rintro v' wz⟨rfl,Y,a1,Kz,sz,N,kR,hz,⟨B3,rfl,rfl,rfl,B4,⟨Hh,kT⟩,NZ,dT⟩|O3⟩
    ·refine⟨_,_,B3,ξ,λwy et=>?_⟩;rw[y0L] at kT;have JJ:(Qd T.g v).foldl (meS G.g.length s.num cand) 4294967295=dsC T.g G.g.length s.num cand v:=rfl;rw[JJ] at kT;have iz:=(dC (Qd T.g v)).le;rw[JJ] at iz;obtain⟨dc,Hm⟩:∃dc,dsC T.g G.g.length s.num cand v=dc:=⟨_,O⟩;rw[Hm] at kT iz qw;have zz:=dT.size;have zy:=et.size;have B7:=et.PO Hh ω;have mM:=et.PO kT ω;have qG:=et.heap B4 ω;have O4:=NZ.kp et (λD z e=>(kY D z).1 e);have E:Y l/\Y b5/\Y b1/\Y M.heap.size:=⟨N _ Z.2.2,N _ Z.1,N _ (oN _ dw),N _ Z.2.1⟩;have xd:∀D,.mk D∈ms->Y D:=λD z=>N _ (vL D z);have kU:∀j,X j->Y j:=λj B=>N j (vK j B);have hy:=(hz.own et (λj e=>by subst e;exact⟨E.1,sN _ ω⟩)).zg3 dH;have Hn:Kp (λb=>¬X b) w wy:=dT.trans (et.PZ λj e C=>by have:=bO j C;omega);obtain⟨x,hx⟩:∃x,cand[v]? =some x:=⟨_,y07 ω⟩;have dX:=z1G hx;rw[dX] at qw;have hg:=Ext.Qm wy;have P:∀{j},Y j->¬¬YA G T Y j:=λB e=>e (.inl (.inl B));refine PN (It (Sq (λw'=>Kp (λb=>¬YA G T Y b) wy w') O (qT 0 O (λ_ hS=>(Q0 U44 O O (hS.PO B7 (P E.2.2.1)) O)) hg.kp (Ql 1 O O hg.kp (qT 3 O (λ_ hS=>(Q0 U3 O O (hS.PO mM (P E.2.1)) O)) hg.kp (TQ 2 O YR O (Tg (hy.ext hg) (j:=2) (i:=v) (x:=x) ψ hx) ?_))))));rintro _ we⟨rfl,he,rB⟩;refine⟨hg.kp.trans rB,?_⟩;have eT:Kp (λb=>¬YA G T Y b) wy we:=hg.kp.trans rB;have B8:Kp (λb=>¬X b) w we:=Hn.trans (eT.PZ λb e C=>P (kU b C) e);have vO:=eT.PO B7 (P E.2.2.1);have Ho:=eT.PO mM (P E.2.1);have JK:=eT.heap qG (P E.2.2.2);have JL:=O4.kp eT (λD z e=>P (xd D z) e)
     have ze:M.heap.size<we.heap.size:=by
      have:=eT.size;have:=hy.lt _ (.inl (.inl E.2.2.2));omega
     have x7:=qQ.kp (aR.kp (S:=λ_=>False)) (λ_ _=>id)
     have AG:∀j,(H j\/ .mk j∈(.mk M.heap.size::ms))->Y j:=λj B=>by
      rcases B with e| e
      ·exact N _ (oN _ e)
      ·rcases y0h.1 e with e| e
       ·cases e;exact E.2.2.2
       ·exact xd j e
     have JM:(H G.k\/ .mk G.k∈(.mk M.heap.size::ms))/\(H G.x\/ .mk G.x∈(.mk M.heap.size::ms))/\(H T.k\/ .mk T.k∈(.mk M.heap.size::ms))/\(H T.x\/ .mk T.x∈(.mk M.heap.size::ms))/\(H 1\/ .mk 1∈(.mk M.heap.size::ms))/\(H 2\/ .mk 2∈(.mk M.heap.size::ms)):=⟨.inl V.1,.inl V.2.1,.inl V.2.2.1,.inl V.2.2.2.1,.inl V.2.2.2.2.1,.inl V.2.2.2.2.2⟩;by_cases jH:x=dc
     ·rw[if_pos jH] at qw;rw[qw] at ry d1;refine PV 4 O (yne O O) (hg.kp.trans rB)<|Vm<|qE<|Us O<|PN<|Sv O<|SA O<|Qe O ?_;exact(ih ((k,(cand,bb)),.mk M.heap.size::ms) we ⟨by show k<=s.fin-1;omega,ry,d1,⟨a1,Kz,he.less AG JM (λb A=> .inl (vJ b A)),by show Kz+k<=_;omega,gJ⟩,vO,B8,x7.cons ω JL JK ze,ω⟩ (by show k<k+1;omega)).qb
     ·rw[if_neg jH] at qw;rw[qw] at ry d1;refine PV 4 O (yne O O) (hg.kp.trans rB) (Vn (qE (Qb O (qN O (qV (Q0 U44 O O vO O) (Q4 O (qV (Q0 U3 O O Ho O) (Qj z5E O (Ui he ω (j:=2) (i:=v) (x:=dc) ψ (by show v<cand.length;omega) (by rcases iz with h|h;exact h▸ψ;exact Nat.lt_trans h (by rw[Cf];omega))) ?_))))))));rintro _ wf⟨a0,hf,O5,cI⟩;have Hp:=cI.PO vO (P E.2.2.1);have O6:=cI.heap JK (P E.2.2.2);have O7:=JL.kp cI (λD z e=>P (xd D z) e);have zf:=cI.size;have uG:Kp (λb=>¬X b) w wf:=B8.trans (cI.PZ λb e C=>P (kU b C) e);refine PR<|PY O<|Qe O<|PN<|Sv O<|SA O<|Qe O ?_;exact(ih ((k,(cand.set v dc,true)),.mk M.heap.size::ms) wf ⟨by show k<=s.fin-1;omega,ry,d1,⟨a0,Kz+1,hf.less AG JM (λb A=> .inl (vJ b A)),by show Kz+1+k<=_;omega,λy e=>(O5 y e).trans (gJ y e)⟩,Hp,uG,x7.cons ω O7 O6 ω,ω⟩ (by show k<k+1;omega)).qb
    ·exact O3.elim
end
section
def z0i {u v:Nat}(h:Sg g):u∈Qd (R5 g) v↔v∈Qd g u:=by
 have l:∀x y,y∈Qd g x->x<g.length/\y<g.length:=λx y b=>by
  unfold Qd at b;by_cases e:x<g.length
  ·rw[y07 e] at b;exact⟨e,h.lt _ (y1s e) y b⟩
  ·rw[y0v ω] at b;cases b
 by_cases m:v<g.length
 ·have e:Qd (R5 g) v=(List.range g.length).filter λx=>decide (v∈Qd g x):=by
   show((R5 g)[v]?.getD [])=_;rw[z0B g m];rfl
  rw[e,y1o,y0Q];exact⟨λe=>of_decide_eq_true e.2,λe=>⟨(l u v e).1,decide_eq_true e⟩⟩
 ·have e:Qd (R5 g) v=[]:=by
   show((R5 g)[v]?.getD [])=_;rw[y0v (by rw[SW];omega)];rfl
  rw[e];exact⟨λe=>(by cases e),λe=>absurd (l u v e).2 m⟩
end
section
variable {P:Program}{e:Env}{t t' ty:TypeId}{d:Option Tmp}{x:Operand}{pos:String}{aft:Array Edge}{g:Option (Nat×Bool)}
def ziO {ms:Array (String×TypeId)}(ht:P.underlying t=some (.interface ms))(u:look e x=some .nilIface):Y P e ⟨d,.binOp .eql t x (.const .nilIface) t',ty,pos,aft,g⟩ (.bool true) w w:=fun ρ b=>by
 have h:(Op.equal t .nilIface .nilIface).run P w= .ok true w:=by
  have r:∀n,(Op.equalIn (n+1) t .nilIface .nilIface).run P w= .ok true w:=λn=>by simp[Op.equalIn,run_underlying ht]
  exact r 9999
 have l:eqGuard .eql t x (.const .nilIface) .nilIface .nilIface=pure ():=by cases x<;>rfl
 have m:binOp .eql t .nilIface .nilIface=(do pure (.bool (<-Op.equal t .nilIface .nilIface))):=rfl
 have q:ρ (.const .nilIface)= .nilIface:=b _ _ O
 simp only[execOp,b _ _ u,q,l,m,pure_bind,y09,h,Result.andThen,y05]
end
def DmS.go (g t:List (List Nat))(root:Nat)(s:DmS):DmS:=
 if s.Rf then {s with cand:=(YZ t g.length s.num s.ord (s.fin-1) (s.cand,false)).1,done:= !(YZ t g.length s.num s.ord (s.fin-1) (s.cand,false)).2}
 else if(s.Ry g 64).Qg=0 then {s.Ry g 64 with Rf:=true,cand:=(s.Ry g 64).cand.set root root}
 else s.Ry g 64
section
variable {v:Nat}{s s':DmS}
theorem zad:(s.go g t root).steps=s.steps:=by
 unfold DmS.go
 have b:=(Wf (g:=g) 64 (s:=s)).1
 split
 ·rfl
 ·split
  ·exact b
  ·exact b
theorem z54:s.step g t root={s.go g t root with steps:=s.steps+1}:=by
 unfold DmS.step DmS.go
 split
 ·rfl
 ·split
  ·rfl
  ·rfl
theorem z8n (h:St (Vg T.k root) G T Q txt K X rr O_ a L s w)(hJ:DmJ G.g root s)(hd:s.done=false)(ht:T.g=R5 G.g)(hr:root<G.g.length)(hK:K<=600000000000):Qx prog 47 [ptr rr 0] w λ_ w'=>DmW G T Q txt K X rr root O_ a L 400 (s.go G.g T.g root) w w':=by
 have dH:=h.m.n
 have W:=h.m.g.ok.gr
 have jK:∀u v,u∈Qd T.g v↔v∈Qd G.g u:=λu v=>by rw[ht];exact z0i W
 have GL:T.g.length=G.g.length:=by rw[ht];exact SW _
 obtain⟨a0,a4,a5,a6,a1⟩:=hJ.ls
 obtain⟨vb,hV⟩:=h.dm
 have hR:=hV.cells
 refine py (e:=[(0,_)]) func47 O ntmps47 O O<|QV O<|QC O<|Qf RF O<|Qf z7h O<|qV (Q0 U4 O O hR O)<|PR ?_
 cases M:s.Rf with
 | true =>
   obtain⟨par,j,hT,hF,-,-,-,hI,-⟩:=hJ.sw M
   have p:s.go G.g T.g root={s with cand:=(YZ T.g G.g.length s.num s.ord (s.fin-1) (s.cand,false)).1,done:= !(YZ T.g G.g.length s.num s.ord (s.fin-1) (s.cand,false)).2}:=by
    unfold DmS.go;rw[if_pos M]
   rw[p];refine Qb O (RK O (Qj zm3 O (z5H h ω hT hF hI hr jK GL a0 a1) ?_));rintro _ w1⟨rfl,hW⟩;obtain⟨⟨q,R,C,Bu,Z⟩,S⟩:=hW;obtain⟨a2,D⟩:=C.dm;have V:=D.cells;refine qV (Tf O) (QC O (Qf RF O (Qf z30 O (Qc O (S0 Wu O O O V ξ) ?_))));rintro w2⟨F,z⟩;have l:=C.zaW (s':={s with cand:=(YZ T.g G.g.length s.num s.ord (s.fin-1) (s.cand,false)).1,done:= !(YZ T.g G.g.length s.num s.ord (s.fin-1) (s.cand,false)).2}) D z F (ZP O O O O O);refine PR<|PQ func47 O ?_
   exact⟨_,O,⟨q,R,l,ω,Z⟩,S.trans (z.PZ λb e=> .inr (by rw[e];exact D.o.1))⟩
 | false =>
   obtain⟨-,hI,hh,-⟩:=hJ.se M;refine Us O<|It<|RY O<|PT<|T3 (λe' w'=>e'=[(0,ptr rr 0)]/\(∃txt' K',St (Vg T.k root) G T Q txt' K' X rr O_ a L (s.Ry G.g 64) w'/\K'<=K+5*64/\∀y:Int,y<(a:Int)\/(a:Int)+(L:Int)<=y->txt' y=txt y)/\Kp (λb=>¬X b\/O_ b) w w') ?hk<|λhk=>?JN
   case hk=>
    rintro e' w1⟨rfl,⟨q,R,C,Bu,Z⟩,S⟩;obtain⟨kH,-⟩:=YE.Ry W 64 hI;have Hr:(s.Ry G.g 64).cand.length=G.g.length:=by rw[kH.cn];exact y0b
    have Hs:(s.Ry G.g 64).Rf=false:=(Wf (g:=G.g) 64 (s:=s)).2.1.trans M
    have p:s.go G.g T.g root=if(s.Ry G.g 64).Qg=0 then {s.Ry G.g 64 with Rf:=true,cand:=(s.Ry G.g 64).cand.set root root} else s.Ry G.g 64:=by
     unfold DmS.go;rw[M];rfl
    rw[p];obtain⟨J,eg⟩:∃J,s.Ry G.g 64=J:=⟨_,O⟩;rw[eg] at C Hr Hs⊢;obtain⟨a2,D⟩:=C.dm;have V:=D.cells;refine Qz O<|QC O<|Qf RF O<|Qf Wy O<|qV (Q0 U3 O O V O) ?_;by_cases sB:J.Qg=0
    ·rw[if_pos sB];refine Ss O (SD (PR (Qb O (Qz O (QC O (Qf RF O (Qf z7h O (Qc O (S0 Wu O O O V ξ) ?_))))))));rintro w2⟨F,z⟩;have l:=C.zaW (s':={J with Rf:=true}) D z F (ZP O O O O O);obtain⟨a3,H⟩:=l.dm;have B9:=H.cells;have hg:=Ext.Qm w2;refine PR (Sq (λw'=>Kp (λb=>¬YA G T X b) w2 w') O (Ql 0 O O hg.kp (Ql 1 O O hg.kp (PV 2 O (Rs O) hg.kp (PV 3 O (QE z9m O) hg.kp (qT 4 O (λ_ hS=>Q0 U3 O O (hS.PO B9 (λe=>e (.inl (.inl (l.xr _ H.o.1))))) O) hg.kp (Ql 5 O O hg.kp (PV 6 O (Rs O) hg.kp (PV 7 O (QE z9m O) hg.kp (qT 8 O (λ_ hS=>Q0 U3 O O (hS.PO B9 (λe=>e (.inl (.inl (l.xr _ H.o.1))))) O) hg.kp (TQ 9 O z5E O (Ui (l.ext hg) ω (j:=2) (i:=root) (x:=root) ψ (by show root<J.cand.length;omega) ω) ?_)))))))))));rintro _ w3⟨r,h3,rj,U⟩;refine⟨hg.kp.trans U,?_⟩;refine qE<|Rj func47 O ?_;exact⟨_,O,⟨r,R+1,h3,ω,λy e=>(rj y e).trans (Z y e)⟩,(S.trans (z.PZ λb e=> .inr (by rw[e];exact D.o.1))).trans ((hg.kp.trans U).PZ λb e=> .inl λe2=>e (.inl (.inl e2)))⟩
    ·rw[if_neg sB];refine Ss O<|QW<|Ri O<|Rj func47 O ?_;exact⟨_,O,⟨q,R,C,ω,Z⟩,S⟩
   case JN=>
    refine SN (α:=Nat×DmS) (0,s) (λy=>[(0,ptr rr 0),(2,I (y.1:Int))]) (λy w'=>y.1<=64/\DmS.Ry G.g (64-y.1) y.2=s.Ry G.g 64/\YE G.g root y.2/\(∃txt' K',St (Vg T.k root) G T Q txt' K' X rr O_ a L y.2 w'/\K'<=K+5*y.1/\∀y:Int,y<(a:Int)\/(a:Int)+(L:Int)<=y->txt' y=txt y)/\Kp (λb=>¬X b\/O_ b) w w') (λy=>64-y.1) ?hI ?hround
    case hI=>exact⟨y03 _,O,hI,⟨txt,K,h,y04 _,λ_ _=>rfl⟩,Kp.refl _ _⟩
    case hround=>
     rintro⟨i,E⟩ w2 ⟨hi,f,A,⟨B,K2,l,sX,gJ⟩,z⟩ ih;dsimp only at hi f A l sX ih⊢;obtain⟨a3,H⟩:=l.dm;have F:=H.cells
     try dsimp only
     refine QV O ?_;by_cases O8:i<64
     ·have c:(if 0<E.Qg then(E.move G.g).Ry G.g (64-(i+1)) else E)=s.Ry G.g 64:=by
       rw[<-f,show 64-i=(64-(i+1))+1 by omega];rfl
      refine RT O<|SD<|Qq O<|QC O<|Qf RF O<|Qf Wy O<|qV (Q0 U3 O O F O) ?_;by_cases N:0<E.Qg
      ·rw[if_pos N] at c;refine RR O (SD (Sh O (PR (Qb O (PS (RU (Sv O (Qj zlw O (z8j l A N ω) ?_))))))));rintro _ w3⟨⟨r,K3,h3,PB,rj⟩,U⟩;obtain⟨yU,-⟩:=A.move W N;refine PR<|PN<|Sv O<|Ra O<|Qe O ?_;exact(ih (i+1,E.move G.g) _ ⟨by show i+1<=64;omega,c,yU,⟨r,K3,h3,by show K3<=K+5*(i+1);omega,λy e=>(rj y e).trans (gJ y e)⟩,z.trans U⟩ (by show 64-(i+1)<64-i;omega)).qb
      ·rw[if_neg N] at c;subst c;refine RR O<|QW<|Sh O<|PR<|PW O<|Q7 O ?_;exact(hk _ _ ⟨O,⟨B,K2,l,ω,gJ⟩,z⟩).qb
     ·have dB:64-i=0:=ω
      rw[dB,show DmS.Ry G.g 0 E=E from rfl] at f;subst f;refine RT O<|QW<|Q4 O<|Sc<|Sc<|Sc<|R0 O<|PR<|PW O<|Q7 O ?_;exact(hk _ _ ⟨O,⟨B,K2,l,ω,gJ⟩,z⟩).qb
end
def z09 (w:World):Qx prog 40 [.nilIface] w λv w'=>v=I 0/\w'=w:=by
 refine py (e:=[(0,_)]) func40 O ntmps40 O O<|qN O<|RZ O<|PR<|PT<|qN O<|qV (ziO U20 O)<|PR<|Qb O<|qN O<|Sb O<|Qe O<|PQ func40 O ?_
 exact⟨_,O,O,O⟩
section
variable {s s':DmS}
def z4I {b3:Nat}:z8C prog 46 [ptr b1 0,ptr b2 0,ptr b3 0] w λu w'=>w'=w:=by
 refine ZY (e:=[(0,_),(1,_),(2,_)]) func46 O ntmps46 O O O O O O O O O O<|Qj ziq O (z09 _) ?_
 rintro _ w⟨rfl,rfl⟩
 refine RZ O<|RI O<|Ri O<|z2D O O O func46<|λa b=>⟨_,Up b _ _ _ _ O,?_⟩
 exact⟨_,O,O⟩
theorem z1f (h:St (Vg T.k root) G T Q txt K X rr O_ a L s w)(hJ:DmJ G.g root s)(ht:T.g=R5 G.g)(hr:root<G.g.length)(hK:K<=600000000000)(hd:s.done=false)(dF:s.steps<=1000000000000):Qx prog 15 [ptr rr 0] w λr w'=>r= .tuple #[.bool (s.step G.g T.g root).done,I 0]/\(∃txt' K',St (Vg T.k root) G T Q txt' K' X rr O_ a L (s.step G.g T.g root) w'/\K'<=K+400/\∀y:Int,y<(a:Int)\/(a:Int)+(L:Int)<=y->txt' y=txt y)/\Kp (λb=>¬X b\/O_ b) w w':=by
 obtain⟨vb,hV⟩:=h.dm
 have hR:=hV.cells
 have vz:=h.xr _ hV.o.1
 have E:∀b,X b->b<w.heap.size:=λb hb=>h.lt b (.inl (.inl hb))
 have Bx:=E _ vz
 have W:=h.far
 refine py (e:=[(0,_)]) func15 O ntmps15 O O<|qN O<|PX O O (Sy O (cs:=[ptr rr 0]) O) ?_
 rintro _ w1⟨b1,rfl,bP,t,A⟩
 refine PX O O (SE (cs:=[_]) Wu O) ?_
 rintro _ w2⟨b2,rfl,bR,S,C⟩
 refine PX O O (SE (cs:=[_]) z6K O) ?_
 rintro _ M⟨b3,rfl,ev,B,D⟩
 replace C:Q8 w2 b2 [.bool false] 4:=C
 replace D:Q8 M b3 [I 0] 45:=D
 have V:=(t.trans S).trans B
 have z1:=t.size
 have z2:=S.size
 have z3:=B.size
 have l1:=A.lt
 have l2:=C.lt
 have l3:=D.lt
 have F:=B.PO (S.PO A)
 have cQ:=B.PO C
 obtain⟨l,Z⟩:∃l:Nat->Prop,(λj=>X j\/j=b1\/j=b2\/j=b3)=l:=⟨_,O⟩
 have c:∀j,X j->l j:=λj n=>by rw[<-Z];exact .inl n
 have x:l b1/\l b2/\l b3:=by rw[<-Z];exact⟨.inr (.inl O),.inr (.inr (.inl O)),.inr (.inr (.inr O))⟩
 have fF:∀j,w.heap.size<=j->¬O_ j:=λj n e=>by have:=E _ (h.xr _ e);omega
 have h3:St (Vg T.k root) G T Q txt K l rr O_ a L s M:=h.grow V (λj n=>by rw[<-Z] at n;exact n.imp id λe=>ω) c
 have iQ:=V.PO hR
 refine PR<|It<|qN O<|qV (Q0 U44 O O F O)<|Qj zeJ O (Wj h3) ?_
 rintro _ M⟨rfl,rfl⟩
 refine RZ O<|RI O<|PR<|Qa O (λc0=>?_)<|λc0=>?_
 ·exact absurd O c0
 ·refine PS<|It<|qN O<|qV (Q0 U44 O O F O)<|QC O<|Qf RF O<|Qf z30 O<|qV (Q0 U4 O O iQ O)<|PR ?_;rw[hd];refine Us O<|qN O<|qV (ymf (first:=[]) (caps:=[.tmp 1,.tmp 2,.tmp 3]) O O)<|z8G O O (ydf O)<|qM O<|qV (Q0 U44 O O F O)<|Qj zlB O (z8n h3 hJ hd ht hr hK) ?_;rintro _ w4 hW;obtain⟨⟨m,p,h4,Hd,mN⟩,J⟩:=hW;obtain⟨d,f⟩:=h4.dm
  have en:Q8 w4 rr [I (s.steps:Int),I ((s.go G.g T.g root).fin:Int),I ((s.go G.g T.g root).Qg:Int),.bool (s.go G.g T.g root).Rf,.bool (s.go G.g T.g root).done,ptr G.k 0,ptr T.k 0,I (root:Int),ptr (d 0) 0,ptr (d 1) 0,ptr (d 2) 0,ptr (d 3) 0,ptr (d 4) 0,.bool false,.bool false] 103:=by
   have:=f.cells;rw[zad] at this;exact this
  have N:∀{j},l j->w.heap.size<=j->¬(¬l j\/O_ j):=λn h e=>e.elim (λe=>e n) (fF _ h);have P:=J.PO F (N x.1 ω);have eS:=J.PO cQ (N x.2.1 ω);have cY:=J.PO D (N x.2.2 ω);have O9:rr≠b1/\rr≠b2/\rr≠b3:=ω
  refine qM O (qV (Q0 U44 O O P O) (QC O (Qf RF O (Qf z4o O (qV (Q0 U3 O O en O) (Ra O (QC O (Qf RF O (Qf z4o O (Qc O (S0 R8 O O O en ξ) ?_))))))))));rintro i⟨H,q⟩;have Jl:(s.step G.g T.g root).done=(s.go G.g T.g root).done:=by rw[z54]
  have h6:St (Vg T.k root) G T Q m p l rr O_ a L (s.step G.g T.g root) i:=by
   rw[z54];exact h4.zaW (s':={s.go G.g T.g root with steps:=s.steps+1}) f q H (ZP O O O O O)
  have iX:=q.PO P ω;have cG:=q.PO eS ω;have jh:=q.PO cY ω;replace H:Q8 i rr [I ((s.steps:Int)+1),I ((s.go G.g T.g root).fin:Int),I ((s.go G.g T.g root).Qg:Int),.bool (s.go G.g T.g root).Rf,.bool (s.go G.g T.g root).done,ptr G.k 0,ptr T.k 0,I (root:Int),ptr (d 0) 0,ptr (d 1) 0,ptr (d 2) 0,ptr (d 3) 0,ptr (d 4) 0,.bool false,.bool false] 103:=H;refine PR<|QA.qb (e:=[(1,_),(2,_),(3,_)]) ?_;refine qN O (qV (Q0 U44 O O iX O) (QC O (Qf RF O (Qf z30 O (qV (Q0 U4 O O H O) (Qc O (S0 Wu O O O cG ξ) ?_))))));rintro w7⟨Hu,U⟩;have ke:=U.PO jh ω;refine Qc O (S0 z6K O O O ke ξ) ?_;rintro w8⟨nw,R⟩;have yu:=R.PO Hu ω;refine PR<|z0n func15 zl5 (z4I (b1:=b1) (b2:=b2) (b3:=b3)) ?_;rintro u w' rfl;rw[Jl];refine⟨_,.cell1 U4 O O ((yu).cell _) (.cell1 U45 O O ((nw).cell _) .nil),_,O,O,⟨m,p,?_,Hd,mN⟩,?_⟩
  ·exact((h6.own U (λj e=>by subst e;exact⟨x.2.1,W _ ω⟩)).own R (λj e=>by subst e;exact⟨x.2.2,W _ ω⟩)).less c h.xk h.xr
  ·have Hv:Kp (λb=>¬l b\/O_ b) M i:=J.trans (q.PZ λb e=> .inr (by rw[e];exact f.o.1));exact(((V.kp.trans (Hv.PZ λb e=>e.imp (λe z=>e (c _ z)) id)).trans (U.PZ λb e=> .inl λz=>by have:=E _ z;omega)).trans (R.PZ λb e=> .inl λz=>by have:=E _ z;omega))
end
structure VsI (G T:Y0)(Q:Sf)(txt:Int->PU)(K a n:Nat)(X:Nat->Prop)(B i:Nat)(vb:Nat->Nat)(Y:Nat->Prop)(txt':Int->PU)(w':World):Prop where
 g:W8 G T (Q.Re (R9 Q.L a i true)) txt' (K+i) Y w'
 xy:∀j,X j->Y j
 v:∀j,j<i->WD (Q.Re (R9 Q.L a i true)) txt' (vb j) 4 (a+j) (List.replicate n 0) w'/\Y (vb j)/\B<=vb j
 ne:∀j,j<i->∀l,l<i->l≠j->vb l≠vb j
 y:∀y:Int,y<(a:Int)\/(a:Int)+5<=y->txt' y=txt y
section
variable {w4:World}{txt4 txt5:Int->PU}{n B v:Nat}{Y:Nat->Prop}
theorem z5A {l:List Bool}{c:Bool}(h:a<=l.length):R9 l a 0 c=l:=by
 refine y1t λi=>?_
 rw[SZ ω,if_neg ω]
def z3L {l:List Bool}{a:Nat}(h:Pre l a):∀n,a+n<=l.length->Pre (R9 l a n true) (a+n)
 |0,e=>by rw[z5A ω];exact h
 | n + 1, e => by
   have b:=z3L h n ω;have d:(R9 l a n true).length=l.length:=Rq ω;rw[<-z0H ω];exact z2x b ω
theorem VsI.zero (h:W8 G T Q txt K X w)(b:a<=Q.L.length):VsI G T Q txt K a n X B 0 vb X txt w:=by
 have e:Q.Re (R9 Q.L a 0 true)=Q:=by rw[z5A b];rfl
 refine⟨by rw[e];exact h,λ_ e=>e,λj d=>ω,λj d=>ω,λ_ _=>rfl⟩
theorem VsI.own (h:VsI G T Q txt K a n X B i vb Y txt' w)(m:Kp S' w w')(l:∀b,S' b->(Y b/\b≠G.k/\b≠G.x/\b≠T.k/\b≠T.x/\b≠1/\b≠2)/\∀j,j<i->b≠vb j):VsI G T Q txt K a n X B i vb Y txt' w':=
 ⟨h.g.own m λb e=>(l b e).1,h.xy,λj d=>⟨(h.v j d).1.kp m λe=>(l _ e).2 j d O,(h.v j d).2⟩,h.ne,h.y⟩
theorem VsI.next (h:VsI G T Q txt K a n X B i vb Y txt4 w4)(hi:i<5)(U:n<=100)(p:a+5<=Q.L.length)(o:K<=900000000000)(H:Kp (λb=>¬YA G T Y b) w4 w5)(F:Sp ((Q.Re (R9 Q.L a i true)).Re (R9 (Q.Re (R9 Q.L a i true)).L (a+i) 1 true)) txt5 (K+i+1) (λb=>YA G T Y b\/b=v) w5)(V:w4.heap.size<=v)(hB:B<=w4.heap.size)(s:WD ((Q.Re (R9 Q.L a i true)).Re (R9 (Q.Re (R9 Q.L a i true)).L (a+i) 1 true)) txt5 v 4 (a+i) (List.replicate n 0) w5)(z:∀y:Int,y<((a+i:Nat):Int)\/((a+i:Nat):Int)+1<=y->txt5 y=txt4 y)(c:G.st+G.len<=a)(f:T.st+T.len<=a)(Z:Y rr/\rr≠G.k/\rr≠G.x/\rr≠T.k/\rr≠T.x/\rr≠1/\rr≠2):VsI G T Q txt K a n X B (i+1) (λj=>if j=i then v else vb j) (λj=>Y j\/j=v) txt5 w5:=by
 have J:(R9 Q.L a i true).length=Q.L.length:=Rq ω
 have e:(Q.Re (R9 Q.L a i true)).Re (R9 (Q.Re (R9 Q.L a i true)).L (a+i) 1 true)=Q.Re (R9 Q.L a (i+1) true):=by
  rw[show(Q.Re (R9 Q.L a i true)).L=R9 Q.L a i true from rfl,z0H ω];rfl
 rw[e] at F s
 have I:∀j,Y j->j<w4.heap.size:=λj m=>h.g.lt j (.inl (.inl m))
 have C:∀j,j<i->vb j<v:=λj m=>by have:=I _ (h.v j m).2.1;omega
 have u:(Q.Re (R9 Q.L a (i+1) true)).L.length=(Q.Re (R9 Q.L a i true)).L.length:=by
  show(R9 Q.L a (i+1) true).length=(R9 Q.L a i true).length;rw[J,Rq ω]
 refine⟨h.g.vec H F V s.lt O u ω c f (λy e=>z y (.inl ω)) (Kp.refl (S:=λb=>b=rr) _) Z,λj e=> .inl (h.xy j e),λj m=>?_,λj m l u M=>?_,λy e=>?_⟩
 ·by_cases D:j=i
  ·subst D;rw[if_pos O];exact⟨s,.inr O,ω⟩
  ·rw[if_neg D];obtain⟨N,E,R⟩:=h.v j ω;refine⟨((N.kp H (λe=>e (.inl (.inl E)))).XA (λy r d=>?_)).q O u,.inl E,R⟩;rw[y0b,UH U] at d;exact z y ω
 ·by_cases r:j=i
  ·rw[if_pos r];by_cases d:l=i
   ·omega
   ·rw[if_neg d];have:=C l ω;omega
  ·rw[if_neg r];by_cases d:l=i
   ·rw[if_pos d];have:=C j ω;omega
   ·rw[if_neg d];exact h.ne j ω l ω M
 ·rw[z y ω,h.y y e]
end
def z6S:z8C prog 39 [ptr b1 0,ptr b2 0] w λu w'=>w'=w:=by
 refine ZY (e:=[(0,_),(1,_)]) func39 O ntmps39 O O O O O O O O O O<|Qj ziq O (z09 _) ?_
 rintro _ w⟨rfl,rfl⟩
 refine RZ O<|RI O<|Ri O<|z2D O O O func39<|λa b=>⟨_,Up b _ _ _ _ O,?_⟩
 exact⟨_,O,O⟩
def zck (g t root i:Nat)(vb:Nat->Nat):List Value:=[I 0,I 0,I 0,.bool false,.bool false,ptr g 0,ptr t 0,I (root:Int),if 0<i then ptr (vb 0) 0 else .pointer none,if 1<i then ptr (vb 1) 0 else .pointer none,if 2<i then ptr (vb 2) 0 else .pointer none,if 3<i then ptr (vb 3) 0 else .pointer none,if 4<i then ptr (vb 4) 0 else .pointer none,.bool false,.bool false]
theorem zbv {g t v:Nat}(hi:i<5):(zck g t root i vb).set (0+8+i*1) (ptr v 0)=zck g t root (i+1) (λj=>if j=i then v else vb j):=by
 obtain rfl|rfl|rfl|rfl|rfl:i=0\/i=1\/i=2\/i=3\/i=4:=ω
 all_goals rfl
section
variable {Y:Nat->Prop}{v:Nat}{s:DmS}
theorem z0r (h:W8 G T Q txt K X w)(hK:K<=500000000000)(dH:G.g.length<=40)(ax:Sg G.g)(ht:T.g=R5 G.g)(dC:Pre Q.L a)(vx:G.st+G.len<=a)(vy:T.st+T.len<=a)(cb:a+5<=Q.L.length)(hr:root<G.g.length):Qx prog 14 [ptr Q.s 0,ptr G.k 0,ptr T.k 0,I (root:Int)] w λv w'=>∃(rr:Nat)(O_:Nat->Prop) (txt':Int->PU) (K':Nat),v= .tuple #[ptr rr 0,I 0]/\(∀b,O_ b->w.heap.size<=b)/\K'<=K+12/\St (Vg T.k root) G T (Q.Re (R9 Q.L a 5 true)) txt' K' (λb=>X b\/O_ b) rr O_ a 5 (DmS.new G.g.length root) w'/\(∀y:Int,y<(a:Int)\/(a:Int)+5<=y->txt' y=txt y)/\Kp (λb=>¬X b) w w':=by
 have lA:T.g.length=G.g.length:=by rw[ht];exact SW _
 have Oa:Rb T.g=Rb G.g:=by rw[ht];exact z6f ax
 have bO:=h.lt
 have J:=h.xk
 have P:=h.far
 refine py (e:=[(0,_),(1,_),(2,_),(3,_)]) func14 O ntmps14 O O<|qN O<|Tq O<|PX O O (SE (cs:=[_]) z6K O) ?_
 rintro _ w1⟨z,rfl,EV,ad,rD⟩
 replace rD:Q8 w1 z [I 0] 45:=rD
 have z1:=ad.size
 have q1:=rD.lt
 have H:=h.grow ad (λj e=> .inl e) (λj e=>e)
 have j8:=Yj H.t
 rw[lA] at j8
 have dl:=z96 H.t
 rw[Oa] at dl
 refine PR<|RU<|Qz O<|qV (Rm XG O O)<|Qq O<|qV (Rm U28 O O)<|R0 O<|Qq O<|qV (Rm U28 O O)<|R0 O<|Qe O<|PW O<|Qz O<|Qj z7O O (Yj H.g) ?_
 rintro _ w1⟨rfl,rfl⟩
 refine Q4 O<|Qj z7O O j8 ?_
 rintro _ w1⟨rfl,rfl⟩
 refine RI O<|QW<|Qq O<|Qj ziS O (z96 H.g) ?_
 rintro _ w1⟨rfl,rfl⟩
 refine Q4 O<|Qj ziS O dl ?_
 rintro _ w1⟨rfl,rfl⟩
 refine RI O<|QW<|R0 O<|Qq O<|RT O<|QW<|R0 O<|Qq O<|Q4 O<|Qj z7O O (Yj H.g) ?_
 rintro _ w1⟨rfl,rfl⟩
 refine UL O<|QW<|R0 O<|Qe O<|QA.qb (e:=[(0,_),(1,_),(2,_),(3,_),(8,_),(9,_),(25,_)]) ?_
 refine Us O<|PN<|RK O<|Q4 O<|qV (To (cs:=[_,_,_,_,_,_,_,_,_,_,_,_,_,_,_]) zkn O zhS O O)<|PX O O (Sy O (cs:=[I 0,I 0,I 0,.bool false,.bool false,ptr G.k 0,ptr T.k 0,I (root:Int),.pointer none,.pointer none,.pointer none,.pointer none,.pointer none,.bool false,.bool false]) O) ?_
 rintro _ w2⟨rr,rfl,mg,ae,Ba⟩
 refine PX O O (SE (cs:=[_]) zk5 O) ?_
 rintro _ w3⟨bp,rfl,Nq,aj,oa⟩
 refine Qc O (S0 zk5 O O O oa ξ) ?_
 rintro C⟨fR,aq⟩
 replace fR:Q8 C bp [ptr rr 0] 44:=fR
 have z2:=ae.size
 have z3:=aj.size
 have z4:=aq.size
 have q2:=Ba.lt
 have q3:=oa.lt
 have cw:Ext w2 C:=aj.An aq λb e=>ω
 have dj:Ext w1 C:=ae.trans cw
 have bH:Ext w C:=ad.trans dj
 have Hw:=dj.PO rD
 have Hx:Q8 C rr (zck G.k T.k root 0 λ_=>0) 103:=cw.PO Ba
 obtain⟨r,oK⟩:∃r:Nat->Prop,(λj=>X j\/j=rr\/j=z\/j=bp)=r:=⟨_,O⟩
 have ff:∀j,X j->r j:=λj l=>by rw[<-oK];exact .inl l
 have n:r rr/\r z/\r bp:=by rw[<-oK];exact⟨.inr (.inl O),.inr (.inr (.inl O)),.inr (.inr (.inr O))⟩
 have h4:W8 G T Q txt K r C:=h.grow bH (λj l=>by rw[<-oK] at l;exact l.imp id λe=>ω) ff
 have iH:=P rr ω
 refine qM O<|qV (ymf (first:=[]) (caps:=[.tmp 10,.tmp 9]) O O)<|z8G O O (ydf O)<|PR<|QV O<|PR<|PT<|SN (α:=Nat) (0) (λi=>[(0,ptr Q.s 0),(1,ptr G.k 0),(3,I (root:Int)),(9,ptr z 0),(10,ptr bp 0),(54,I (i:Int))]) (λi w'=>i<=5/\(∃vb Y txt',VsI G T Q txt K a G.g.length r C.heap.size i vb Y txt' w'/\Q8 w' rr (zck G.k T.k root i vb) 103)/\Q8 w' bp [ptr rr 0] 44/\Q8 w' z [I 0] 45/\Kp (λb=>¬r b\/b=rr) C w') (λi=>5-i) ?hI ?hround
 case hI=>exact⟨y03 _,⟨_,r,txt,VsI.zero h4 ω,Hx⟩,fR,Hw,Kp.refl _ _⟩
 case hround=>
  rintro i w5⟨hi,⟨vb,Y,E,d,Bb⟩,vP,jF,ai⟩ ih;dsimp only;have z5:=ai.size;have Ob:∀j,Y j->j<w5.heap.size:=λj l=>d.g.lt j (.inl (.inl l))
  try dsimp only
  refine qN O<|RT O<|PR<|It<|Qa O (λh0=>?_)<|λh0=>?_
  ·have eN:i<5:=ω
   have M:G.g.length<=100:=ω
   have xV:(Q.Re (R9 Q.L a i true)).s=Q.s:=rfl;have Oc:(Q.Re (R9 Q.L a i true)).L.length=Q.L.length:=Rq ω;have Bc:Pre (Q.Re (R9 Q.L a i true)).L (a+i):=z3L dC i ω;have JQ:=zbd d.g.sp d.g.lt ω Bc G.g.length 4 ω ω (by rw[UH M,Oc];omega);rw[UH M,xV] at JQ;refine PS<|RU<|Qz O<|Sb O<|Qq O<|Qj z7O O (Yj d.g.g) ?_;rintro _ w5⟨rfl,rfl⟩;refine Qj zlm O JQ ?_;rintro _ w6⟨v,F,rfl,Od,oy,S,C9,B⟩;have pq:∀{j},Y j->¬¬YA G T Y j:=λl e=>e (.inl (.inl l));have Bf:=d.next eN M cb ω B oy Od z5 S C9 vx vy ⟨d.xy _ n.1,iH⟩;have Hy:=B.PO Bb (pq (d.xy _ n.1));have c:=B.PO vP (pq (d.xy _ n.2.2));have vQ:=B.PO jF (pq (d.xy _ n.2.1));have kX:Kp (λb=>¬r b\/b=rr) C w6:=ai.trans (B.PZ λb e=> .inl λq=>e (.inl (.inl (d.xy b q))));refine Q4 O<|Tr O<|Tq O<|RZ O<|Qj z7s O (Ue _) ?_;rintro _ w6 rfl;refine PR (PY O (qV (Q0 U44 O O c O) (Qq O (QC O (Qf VA O (qV (yia z0q YU O O ω) (Qc O (S0 YU O O O Hy (by show _<15;omega)) ?_)))))));rintro w7⟨rE,D⟩;replace rE:Q8 w7 rr ((zck G.k T.k root i vb).set (0+8+i*1) (ptr v 0)) 103:=rE;rw[zbv eN] at rE
   have Hz:=Bf.own D (λb e=>by
    subst e;refine⟨⟨.inl (d.xy _ n.1),iH⟩,λj l=>?_⟩;have:=(Bf.v j l).2.2
    omega)
   refine PR<|PN<|PY O<|Ra O<|Q4 O<|PR ?_;exact(ih (i+1) _ ⟨ω,⟨_,_,F,Hz,rE⟩,D.PO c ω,D.PO vQ ω,kX.trans (D.PZ λb e=> .inr e)⟩ ω).qb
  ·have eN:i=5:=ω
   subst eN;obtain⟨O_,hO⟩:∃O_:Nat->Prop,(λb=>b=rr\/∃j,j<5/\b=vb j)=O_:=⟨_,O⟩;have o:O_ rr/\∀j,j<5->O_ (vb j):=by rw[<-hO];exact⟨.inl O,λj l=> .inr ⟨j,l,O⟩⟩
   have N:∀b,O_ b->w.heap.size<=b/\b≠z/\b≠bp:=λb m=>by
    rw[<-hO] at m;rcases m with e|⟨j,l,e⟩
    ·omega
    ·have:=(d.v j l).2.2;omega
   have U:∀b,O_ b->Y b:=λb m=>by
    rw[<-hO] at m;rcases m with e|⟨j,l,e⟩
    ·rw[e];exact d.xy _ n.1
    ·rw[e];exact(d.v j l).2.1
   obtain⟨p,HA⟩:∃p,Q.Re (R9 Q.L a 5 true)=p:=⟨_,O⟩
   have Z:Zo p E G.k T.k root rr O_ a 5 ⟨0,0,0,false,false,List.replicate G.g.length 0,List.replicate G.g.length 0,List.replicate G.g.length 0,List.replicate G.g.length 0,List.replicate G.g.length 0⟩ vb w5:=by
    rw[<-HA];refine⟨o,λj l=>⟨by have:=(d.v j l).2.2;omega,λi hi bz=>d.ne j l i hi bz⟩,Bb,λj l=>?_,rfl⟩;have Oe:=(d.v j l).1;obtain rfl|rfl|rfl|rfl|rfl:j=0\/j=1\/j=2\/j=3\/j=4:=ω
    all_goals exact⟨Oe,by show(List.replicate G.g.length 0).length<=100;rw[y0b];omega⟩
   have W:=d.g;rw[HA] at W
   have gU:St (Vg T.k root) G T p E (K+5) Y rr O_ a 5 ⟨0,0,0,false,false,List.replicate G.g.length 0,List.replicate G.g.length 0,List.replicate G.g.length 0,List.replicate G.g.length 0,List.replicate G.g.length 0⟩ w5:=
    ⟨⟨W.g,⟨vb,Z⟩,λb m=> .inl (U b m),o.1,λb m=>by
     have:=P b (N b m).1
     exact⟨this.1,this.2.1,this.2.2.2.2.1,this.2.2.2.2.2⟩,vx,dH⟩,W.t,U,W.xk,λb m=>by
     have:=P b (N b m).1
     exact⟨this.2.2.1,this.2.2.2.1⟩,vy⟩
   have M:(List.replicate G.g.length 0).length<=100:=by rw[y0b];omega
   have ly:=Z.zcH (j:=0) ψ;have jV:∀{j},Y j->¬¬YA G T Y j:=λl e=>e (.inl (.inl l));refine Q7 O (qN O (qV (Q0 U44 O O vP O) (QC O (Qf VA O (qV (yia z0q YU O O ω) (qV (Q0 z3k O O Z.cells O) (Qj zhg O (Z3 gU.sp gU.lt ω (Z.vs 0 ψ).1 (.inl (.inl (U _ (o.2 0 ψ)))) (x:=4294967295) ψ) ?_)))))));rintro _ w6⟨rfl,V⟩;rw[show(DmS.vec _ 0)=List.replicate G.g.length 0 from rfl,UH M,y0b] at V;obtain⟨F,h6,S,C9,B⟩:=gU.z2l (j:=0) Z ψ (by show(List.replicate _ _).length=(List.replicate _ _).length;rw[y0b,y0b]) ω V;have c:=B.PO vP (jV (d.xy _ n.2.2));have vQ:=B.PO jF (jV (d.xy _ n.2.1));refine Qj z7s O (Ue _) ?_;rintro _ w6 rfl;refine qM O (qV (Q0 U44 O O c O) (QC O (Qf VA O (qV (yia z0q YU O O ω) (qV (Q0 z3k O O S.cells O) (Qj zhg O (Z3 h6.sp h6.lt ω (S.vs 2 ψ).1 (.inl (.inl (U _ (o.2 2 ψ)))) (x:=4294967295) ψ) ?_))))));rintro _ w7⟨rfl,V⟩;rw[show(DmS.vec _ 2)=List.replicate G.g.length 0 from rfl,UH M,y0b] at V;obtain⟨a0,h7,PC,Gj,D⟩:=h6.z2l (j:=2) S ψ (by show(List.replicate _ _).length=(List.replicate _ _).length;rw[y0b,y0b]) ω V;have Bh:=D.PO c (jV (d.xy _ n.2.2));have HB:=D.PO vQ (jV (d.xy _ n.2.1));refine Qj z7s O (Ue _) ?_;rintro _ w7 rfl;refine qM O (qV (Q0 U44 O O Bh O) (Q4 O (Qj zjC O (z2z h7 ω (v:=root) ⟨by show root<(List.replicate _ _).length;rw[y0b];exact hr,by show root<(List.replicate _ _).length;rw[y0b];exact hr⟩ (by show 0<(List.replicate _ _).length;rw[y0b];omega)) ?_)));rintro _ w8 pE;obtain⟨⟨f,K8,h8,PD,GA⟩,aQ⟩:=pE;have oW:∀{j},Y j->¬O_ j->¬(¬Y j\/O_ j):=λH h2 e=>e.elim (λe=>e H) h2;have Bi:¬O_ z:=λe=>(N z e).2.1 O;have HC:¬O_ bp:=λe=>(N bp e).2.2 O;have HD:=aQ.PO Bh (oW (d.xy _ n.2.2) HC);have vh:=aQ.PO HB (oW (d.xy _ n.2.1) Bi);refine qM O (qV (Q0 U44 O O HD O) (Tq O (Qc O (S0 z6K O O O vh ξ) ?_)));rintro w9⟨vR,aM⟩;replace vR:Q8 w9 z [I 0] 45:=vR;refine PR<|QA.qb (e:=[(8,_),(9,_)]) ?_;refine z0n func14 zlx (z6S (b1:=bp) (b2:=z)) ?_;rintro u w' rfl;have R:=P z ω
   have h9:=h8.own aM (λj e=>by
    rw[e]
    exact⟨d.xy _ n.2.1,R.1,R.2.1,R.2.2.1,R.2.2.2.1,R.2.2.2.2.1,R.2.2.2.2.2,Bi⟩)
   have HE:∀b,X b->b<w.heap.size:=λb m=>bO b (.inl (.inl m));have A:∀b,X b->Y b:=λb m=>d.xy b (ff b m);have A0:=h9.less (X:=λb=>X b\/O_ b) (λb e=>e.elim (A b) (U b)) ⟨.inl J.1,.inl J.2.1,.inl J.2.2.1,.inl J.2.2.2.1,.inl J.2.2.2.2.1,.inl J.2.2.2.2.2⟩ (λb e=> .inr e);refine⟨_,.tmp O (.cell1 U45 O O ((vR).cell _) .nil),_,O,rr,O_,f,K8,O,λb m=>(N b m).1,ω,?_,λy hy=>?_,?_⟩
   ·rw[HA];exact A0
   ·rw[GA y hy,Gj y hy,C9 y hy,d.y y hy]
   ·refine((((bH.kp.trans (ai.PZ λb e q=>?_)).trans (B.PZ λb e q=>e (.inl (.inl (A b q))))).trans (D.PZ λb e q=>e (.inl (.inl (A b q))))).trans (aQ.PZ λb e q=>?_)).trans (aM.PZ λb e q=>by have:=HE _ q;omega)
    ·rcases e with e| e
     ·exact e (ff b q)
     ·have:=HE _ q;omega
    ·rcases e with e| e
     ·exact e (A b q)
     ·have:=(N b e).1;have:=HE _ q;omega
end
def dmV (c:Nat):Nat:=if c=4294967295 then 18446744073709551615 else c
section
variable {v:Nat}{s:DmS}
def z9a (h:St (Vg T.k root) G T Q txt K X rr O_ a L s w):Qx prog 37 [ptr G.k 0] w λv w'=>v=I (G.g.length:Int)/\w'=w:=Yj h.m.g
theorem z5d (h:St (Vg T.k root) G T Q txt K X rr O_ a L s w):Qx prog 28 [ptr rr 0] w λv w'=>v=I (G.g.length:Int)/\w'=w:=by
 obtain⟨vb,d⟩:=h.dm
 have b:=d.cells
 refine py (e:=[(0,_)]) func28 O ntmps28 O O<|RY O<|QV O<|qV (Rm U44 O O)<|Ri O<|Qz O<|QC O<|Qf z1O O<|qV (Q0 U28 O O b O)<|Qj z7O O (z9a h) ?_
 rintro _ w⟨rfl,rfl⟩
 refine Qe O<|PQ func28 O ?_
 exact⟨_,O,O,O⟩
theorem z5h (h:St (Vg T.k root) G T Q txt K X rr O_ a L s w):Qx prog 20 [ptr rr 0] w λv w'=>v=I (s.steps:Int)/\w'=w:=by
 obtain⟨vb,d⟩:=h.dm
 have b:=d.cells
 refine py (e:=[(0,_)]) func20 O ntmps20 O O<|RY O<|QV O<|qV (Rm U44 O O)<|Ri O<|Qz O<|QC O<|Qf RF O<|Qf z4o O<|qV (Q0 U3 O O b O)<|Qe O<|PQ func20 O ?_
 exact⟨_,O,O,O⟩
theorem z3F (h:St (Vg T.k root) G T Q txt K X rr O_ a L s w)(y:s.done=true){v x:Nat}(q:s.cand[v]? =some x):Qx prog 19 [ptr rr 0,I (v:Int)] w λr w'=>r= .tuple #[Qi (dmV x),I 0]/\St (Vg T.k root) G T Q txt K X rr O_ a L s w'/\Kp (λb=>¬YA G T X b) w w':=by
 obtain⟨vb,l⟩:=h.dm
 have n:=l.cells
 rw[y] at n
 have z:=((l.vs 2 ψ).1.zer q).1
 refine py (e:=[(0,_),(1,_)]) func19 O ntmps19 O O<|qN O<|Rw O<|QV O<|Qj zeJ O (Wj h) ?_
 rintro _ w⟨rfl,rfl⟩
 refine RZ O<|RI O<|Ri O<|QV O<|QC O<|Qf RF O<|Qf z30 O<|qV (Q0 U4 O O n O)<|qV (Tf O) ?_
 rw[show(!true)=false from rfl]
 refine Ri O<|Qz O<|QC O<|Qf VA O<|qV (yia z0q YU O O ω)<|qV (Q0 z3k O O n O)<|Q4 O<|Qj zjQ O (z3A h.sp h.lt h.m.g.z7g (l.vs 2 ψ).1 (.inl (.inl (h.xr _ (l.o.2 2 ψ)))) q) ?_
 rintro _ w1⟨rfl,u,d⟩
 refine Q4 O<|Tr O<|Rw O<|QA.qb (e:=[(4,_),(5,_),(7,_),(8,_)]) ?_
 refine QV O ?_
 unfold dmV
 by_cases e:x=4294967295
 ·rw[if_pos e];refine Ss O<|SD<|PR<|Qb O<|Qz O<|Rw O<|PQ func19 O ?_;exact⟨_,O,O,h.read d u,d⟩
 ·rw[if_neg e];refine Ss O<|QW<|Ri O<|RK O<|Rw O<|PQ func19 O ?_;exact⟨_,O,O,h.read d u,d⟩
def ze9 {α:Type}{f:Nat->α}{v:α}(h:((List.range 5).map f)[j]? =some v):j<5/\v=f j:=by
 rw[y0m] at h
 by_cases e:j<5
 ·rw[y1E e] at h;exact⟨e,(SJ h).symm⟩
 ·rw[y0v (by rw[y17];omega)] at h;cases h
def ziL {α:Type}{f:Nat->α}{v:α}(h:v∈(List.range 5).map f):∃j,j<5/\v=f j:=by
 obtain⟨j,b,e⟩:=y0g.1 h
 exact⟨j,y0Q.1 b,e.symm⟩
def zlV {f:Nat->Vc1}{l:List Bool}(b:∀j,j<5->(f j).st=a+j/\(f j).len=1)(h:a+5<=l.length):Xk l ((List.range 5).map f)=R9 l a 5 false:=by
 have e:∀n,n<=5->Xk l ((List.range n).map f)=R9 l a n false:=λn=>by
  induction n with
  | zero =>
    intro _;show l=_;refine y1t λi=>?_
    rw[SZ ω,if_neg ω]
  | succ n d =>
    intro m;rw[y0T,y0f,y2L,z0N,d ω,(b n ω).1,(b n ω).2];exact z0H ω
 exact e 5 (y04 _)
theorem z0Q (h:St (Vg T.k root) G T Q txt K X rr O_ a L s w)(Og:2<=a)(F:a+5<=Q.L.length)(HF:∀i,a<=i->i<a+5->Q.L[i]? =some true):Qx prog 17 [ptr rr 0] w λr w'=>r=I 0/\∃txt',W8 G T (Q.Re (R9 Q.L a 5 false)) txt' K X w'/\(∀y:Int,y<(a:Int)\/(a:Int)+5<=y->txt' y=txt y)/\Kp (λb=>¬X b\/O_ b) w w':=by
 have dH:=h.m.n
 have Gq:=h.Wt
 have Oh:=h.m.Wt
 obtain⟨vb,q⟩:=h.dm
 have N:=q.cells
 have vz:=h.xr _ q.o.1
 have S:∀b,YA G T X b->b<w.heap.size:=h.lt
 have R:∀b,O_ b->b≠G.k/\b≠G.x/\b≠T.k/\b≠T.x/\b≠1/\b≠2:=λb V=>by
  have E:=h.m.ne b V;have P:=h.nk b V;exact⟨E.1,E.2.1,P.1,P.2,E.2.2.1,E.2.2.2⟩
 obtain⟨A,B⟩:∃A:List Vc1,(List.range 5).map (λj=>(⟨vb j,4,a+j,s.vec j⟩:Vc1))=A:=⟨_,O⟩
 have C:∀j,j<5->(⟨vb j,4,a+j,s.vec j⟩:Vc1).st=a+j/\(⟨vb j,4,a+j,s.vec j⟩:Vc1).len=1:=λj d=>⟨O,UH (q.vs j d).2⟩
 have L5:A.length=5:=by rw[<-B,y0n,y17]
 have aN:∀v∈A,YA G T X v.vb/\a<=v.st/\v.st+v.len<=a+5:=λv l=>by
  rw[<-B] at l;obtain⟨j,d,rfl⟩:=ziL l;obtain⟨e1,H⟩:=C j d;exact⟨.inl (.inl (h.xr _ (q.o.2 j d))),ω,ω⟩
 have HG:∀v∈A,O_ v.vb/\v.vb≠rr:=λv l=>by
  rw[<-B] at l;obtain⟨j,d,rfl⟩:=ziL l;exact⟨q.o.2 j d,λe=>(q.ne j d).1 e.symm⟩
 have CV:zch A:=λi j u v Z l hH=>by
  rw[<-B] at Z l;obtain⟨hi,rfl⟩:=ze9 Z;obtain⟨d,rfl⟩:=ze9 l;obtain⟨e1,H⟩:=C i hi;obtain⟨e3,e4⟩:=C j d;exact⟨(q.ne j d).2 i hi hH,ω⟩
 have fO:Xk Q.L A=R9 Q.L a 5 false:=by rw[<-B];exact zlV C F
 refine py (e:=[(0,_)]) func17 O ntmps17 O O<|RY O<|RU<|Qz O<|qV (Rm U44 O O)<|Qe O<|PW O<|Qz O<|QC O<|Qf z4S O<|qV (Q0 U4 O O N O)<|Qe O ?_
 have Oi:∀(j:Nat)(v:Vc1),A[j]? =some v->WD Q txt v.vb v.width v.st v.xs w:=λj v d=>by
  rw[<-B] at d;obtain⟨CT,rfl⟩:=ze9 d;exact(q.vs j CT).1
 refine Us O<|PN<|QV O<|QC O<|Qf VA O<|qV (QB z0q O z5W O (Q8.cells (n:=5) N (news:=[_,_,_,_,_]) O) O)<|Q4 O<|PR<|PT<|SN (α:=Nat) (0) (λi=>[(0,ptr rr 0),(17,.agg #[ptr (vb 0) 0,ptr (vb 1) 0,ptr (vb 2) 0,ptr (vb 3) 0,ptr (vb 4) 0]),(18,I (i:Int))]) (λi w'=>i<=5/\zbE Q txt K (YA G T X) A a 5 w i w') (λi=>5-i) ?hI ?hround
 case hI=>exact⟨y03 _,.zero h.sp Oi⟩
 case hround=>
  rintro i w4⟨hi,U⟩ ih
  try dsimp only
  refine qN O<|RT O<|PR<|It<|Qa O (λM=>?_)<|λM=>?_
  ·have J:i<5:=ω
   obtain⟨v,l⟩:∃v,A[i]? =some v:=⟨_,y07 ω⟩
   have vS:(#[ptr (vb 0) 0,ptr (vb 1) 0,ptr (vb 2) 0,ptr (vb 3) 0,ptr (vb 4) 0]:Array Value)[i]? =some (ptr v.vb 0):=by
    have c:=l;rw[<-B] at c;obtain⟨-,rfl⟩:=ze9 c;obtain rfl|rfl|rfl|rfl|rfl:i=0\/i=1\/i=2\/i=3\/i=4:=ω
    all_goals rfl
   refine PS<|RU<|qN O<|qV (yxa z0q YU z3k O O O J (v:=ptr v.vb 0) vS)<|Qe O<|QV O<|qV (Rm z3k O O)<|Ri O<|Qz O<|Qj zmc O (U.next S l aN CV Og F HF) ?_;rintro _ w5⟨rfl,kT⟩;refine RZ O<|RI O<|Ri O<|PN<|PY O<|Ra O<|Q4 O<|PR ?_;exact(ih (i+1) _ ⟨ω,kT⟩ ω).qb
  ·have J:i=5:=ω
   subst J;obtain⟨⟨z,f,-,W⟩,aq⟩:=U;rw[y0z ω,fO] at f;have D:Kp (λb=>¬YA G T X b\/(O_ b/\b≠rr)) w w4:=aq.PZ λb e=>e.imp id λ⟨v,l,e⟩=>by rw[e];exact HG v l
   have M:W8 G T Q txt K X w:=⟨h.m.g,h.t,h.xk⟩;have z4:=D.size;have h4:W8 G T (Q.Re (R9 Q.L a 5 false)) z K X w4:=M.upd D (λb e=>e.imp id λe=>⟨h.xr _ e.1,R b e.1⟩) (λ_ e=>e) (λ_ e=> .inl e) (λj e=>by have:=S j (.inl (.inl e));omega) f O (Rq F) h.m.g.z7g (λy e=>W y (.inl ω));have en:=D.PO N (λe=>e.elim (λe=>e (.inl (.inl vz))) λe=>e.2 O);refine Q7 O (Qz O (QC O (Qf z4S O (Qc O (S0 Wu O O O en ξ) ?_))));rintro w6⟨fN,p⟩;refine qM O<|Qe O<|PQ func17 O ?_;exact⟨_,O,O,z,h4.own p (λj e=>by rw[e];exact⟨vz,R rr q.o.1⟩),W,(D.PZ λb e=>e.imp (λe H=>e (.inl (.inl H))) And.left).trans (p.PZ λb e=> .inr (by rw[e];exact q.o.1))⟩
end
theorem St.append {σ:Type}{R:RuK σ}{w2:World}{s:σ}(h:St R G T Q txt K X rr O_ a L s w){u v:Value}(m:∀b,u.ownBlock=some b->X b)(y:∀b,u.ownBlock=some b->b≠G.k/\b≠G.x/\b≠T.k/\b≠T.x/\b≠1/\b≠2/\¬O_ b)(z:Ext w w1)(q:Kp (λk=>u.ownBlock=some k) w1 w2)(n:∀g,v.ownBlock=some g->u.ownBlock=some g\/w1.heap.size<=g)(r:∀b,v.ownBlock=some b->b<w2.heap.size):St R G T Q txt K (λb=>X b\/v.ownBlock=some b) rr O_ a L s w2:=by
 refine(h.ext z).step q (λj e=>⟨m j e,y j e⟩) (λj e=> .inl e) λj e=>?_
 rcases e with e| e
 ·exact .inl e
 ·rcases n j e with l|l
  ·exact .inl (m j l)
  ·exact .inr ⟨l,r j e⟩
section
variable {d:Nat}
theorem z4t (h:W8 G T Q txt K X w)(hK:K<=500000000000)(hr:root<G.g.length)(dH:G.g.length<=40)(ax:Sg G.g)(ht:T.g=R5 G.g)(dC:Pre Q.L a)(vx:G.st+G.len<=a)(vy:T.st+T.len<=a)(ha:a<=146)(hL:Q.L.length=200):
  Qx prog 12 [.agg #[ptr d 0,ptr Q.s 0,ptr G.k 0,ptr T.k 0,I ((200-a:Nat):Int)],I (root:Int)] w λv w'=>∃(k b c:Nat)(txt':Int->PU) (K':Nat),v= .tuple #[.slice (some ⟨b,0,none⟩) G.g.length c,I (k:Int)]/\1<=k/\zaK G.g (R5 G.g) root k/\Sl w' (.slice (some ⟨b,0,none⟩) G.g.length c) 39 1 G.g.length ((TS G.g (R5 G.g) root k).cand.map λc=>Qi (dmV c))/\W8 G T Q txt' K' (λj=>X j\/j=b) w'/\K'<=K+20000000/\w.heap.size<=b/\(∀y:Int,y<(a:Int)->txt' y=txt y)/\Kp (λb=>¬X b) w w':=by
 have lA:T.g.length=G.g.length:=by rw[ht];exact SW _
 have jK:∀u v,u∈Qd (R5 G.g) v↔v∈Qd G.g u:=λu v=>z0i ax
 have bO:=h.lt
 have A:=h.xk
 have cu:=h.far
 have HH:G.g.length<=60:=ω
 have fC:maxLen=9223372036854775807:=rfl
 refine py (e:=[(0,_),(1,_)]) func12 O ntmps12 O O<|qN O<|PX O O (Sy O (cs:=[ptr d 0,ptr Q.s 0,ptr G.k 0,ptr T.k 0,I ((200-a:Nat):Int)]) O) ?_
 rintro _ w1⟨b1,rfl,bP,ad,W⟩
 have z1:=ad.size
 have q1:=W.lt
 obtain⟨N,eE⟩:∃N:Nat->Prop,(λj=>X j\/j=b1)=N:=⟨_,O⟩
 have eI:∀j,X j->N j:=λj C=>by rw[<-eE];exact .inl C
 have te:N b1:=by rw[<-eE];exact .inr O
 have aH:W8 G T Q txt K N w1:=h.grow ad (λj C=>by rw[<-eE] at C;exact C.imp id λe=>ω) eI
 refine Tq O<|Sb O<|Qf z1T O<|qV (Q0 XG O O W O)<|Qf z7d O<|qV (Q0 U28 O O W O)<|Qf z7W O<|qV (Q0 U28 O O W O)<|Q4 O<|Qj zgK O (z0r aH ω dH ax ht dC vx vy ω hr) ?_
 rintro _ w2⟨rr,O_,a1,K2,rfl,JR,sX,cP,gJ,am⟩
 obtain⟨F,xX⟩:∃F,Q.Re (R9 Q.L a 5 true)=F:=⟨_,O⟩
 rw[xX] at cP
 have vT:F.L=R9 Q.L a 5 true:=by rw[<-xX];rfl
 have Oj:F.L.length=200:=by rw[vT,Rq ω,hL]
 have Ol:F.s=Q.s/\F.m=Q.m:=by rw[<-xX];exact⟨O,O⟩
 obtain⟨Y,hY⟩:∃Y:Nat->Prop,(λb=>N b\/O_ b)=Y:=⟨_,O⟩
 rw[hY] at cP
 have aP:∀j,N j->Y j:=λj C=>by rw[<-hY];exact .inl C
 have z2:=am.size
 refine Q4 O<|Tr O<|Rw O<|QV O<|RI O<|Ri O<|Qz O<|Qj zlX O (z5d cP) ?_
 rintro _ w2⟨rfl,rfl⟩
 have hM:∃M:Nat,(G.g.length:Int)*(G.g.length:Int)=(M:Int)/\G.g.length*G.g.length=M/\M<=1600:=
  ⟨G.g.length*G.g.length,by push_cast;rfl,rfl,y15 dH dH⟩
 obtain⟨M,dl,gY,px⟩:=hM
 have J:Y b1/\¬O_ b1:=⟨aP _ te,λe=>by have:=JR _ e;omega⟩
 have ak:=am.PO W (λe=>e te)
 have JS:∀{b},X b->¬O_ b:=λn e=>by have:=bO _ (.inl (.inl n));have:=JR _ e;omega
 refine Qe O<|It<|RY O<|PT<|SN (α:=Nat) (0) (λk=>[(2,ptr b1 0),(6,ptr rr 0),(8,I (G.g.length:Int)),(9,I (k:Int))]) (λk w'=>(∃txt' K',St (Vg T.k root) G T F txt' K' Y rr O_ a 5 (TS G.g (R5 G.g) root k) w'/\K'<=K+20+400*k/\∀y:Int,y<(a:Int)->txt' y=txt y)/\(∀j,j<=k->(TS G.g (R5 G.g) root j).done=false)/\Kp (λb=>¬Y b\/O_ b) w2 w') (λk=>2000-k) ?hI ?hround
 case hI=>exact⟨⟨a1,_,cP,ω,λy e=>gJ y (.inl e)⟩,λj C=>by rw[Nat.le_zero.1 C];rfl,Kp.refl _ _⟩
 case hround =>
  rintro k w4⟨⟨a4,K4,bD,Hd,mN⟩,f,aq⟩ ih;dsimp only at ih⊢;have HI:=z7X ax hr jK k λj C=>f j ω;have dF:=UU (g:=G.g) (t:=R5 G.g) (root:=root) k;have tY:=HI.bound (f k (y04 _)) ax;rw[dF,gY] at tY;have aJ:=aq.PO ak (λe=>e.elim (λe=>e J.1) J.2);have g7:=z1f bD HI ht hr ω (f k (y04 _)) ω;rw[ht,show(TS G.g (R5 G.g) root k).step G.g (R5 G.g) root=TS G.g (R5 G.g) root (k+1) from rfl] at g7
  try dsimp only
  refine It (RK O (Q4 O (qV (WB O O (by rw[dl];omega)) ?_)));rw[dl];refine Q4 O (qV (WB O O ω) (Ra O (Ra O (RT O (SD (PR (Qb O (PS (RU (Qz O (Qj ziC O g7 ?_)))))))))));rintro _ w5⟨rfl,⟨E,K5,bL,PE,AD⟩,ai⟩;have lV:Kp (λb=>¬Y b\/O_ b) w2 w5:=aq.trans ai;have Bk:∀y:Int,y<(a:Int)->E y=txt y:=λy e=>(AD y (.inl e)).trans (mN y e);refine Q4 O<|Tr O<|Rw O<|QV O<|RI O ?_;by_cases p:(TS G.g (R5 G.g) root (k+1)).done=true
  ·rw [p]; obtain ⟨s, hs⟩ : ∃ s, TS G.g (R5 G.g) root (k + 1) = s := ⟨_, rfl⟩; rw [hs] at bL p
   have JT:s.cand.length=G.g.length:=by
    have:=(HI.step ax hr jK (f k (y04 _))).ls.2.2.1;rw[<-hs];exact this
   have Om:∀b,Y b->b<w5.heap.size:=λb n=>bL.lt b (.inl (.inl n));have oP:=bL.far;refine Ri O<|QV O<|qV (Tf O)<|Ri O<|RY O<|It<|RY O<|PT<|SN (α:=Nat×Value) (0,.slice none 0 0) (λy=>[(2,ptr b1 0),(6,ptr rr 0),(8,I (G.g.length:Int)),(9,I (k:Int)),(12,y.2),(13,I (y.1:Int))]) (λy w'=>y.1<=G.g.length/\Sl w' y.2 39 1 y.1 ((s.cand.take y.1).map λc=>Qi (dmV c))/\(∀b,y.2.ownBlock=some b->w5.heap.size<=b)/\(∃Z:Nat->Prop,(∀b,Y b->Z b)/\(∀b,y.2.ownBlock=some b->Z b)/\St (Vg T.k root) G T F E K5 Z rr O_ a 5 s w')/\Kp (λb=>¬Y b) w5 w') (λy=>G.g.length-y.1) ?hI ?hround
   case hI=>exact⟨y03 _,by simpa using Sl.nil _ _ _,λb n=>(by cases n),⟨Y,λ_ e=>e,λb n=>(by cases n),bL⟩,Kp.refl _ _⟩
   case hround=>
    rintro⟨v,u⟩ V ⟨hv,o,S,⟨Z,Ck,P,h6⟩,aL⟩ a0;dsimp only at hv o S P a0⊢;have z6:=aL.size;have aU:=(lV.trans (aL.PZ λb e=> .inl e)).PO ak (λe=>e.elim (λe=>e J.1) J.2)
    try dsimp only
    refine It<|RK O<|RT O<|PR<|Qa O (λh0=>?_)<|λh0=>?_
    ·have gQ:v<G.g.length:=ω
     obtain⟨x,hx⟩:∃x,s.cand[v]? =some x:=⟨_,y07 (by rw[JT];exact gQ)⟩;refine PS<|RU<|RK O<|Qj ziZ O (z3F h6 p hx) ?_;rintro _ w7⟨rfl,h7,ay⟩;have i6:=o.kp ay (λb n e=>e (.inl (.inl (P b n))));have z7:=ay.size;refine Q4 O (Tr O (Rw O (QV O (RI O (Ri O (PY O (Qq O (PX O O (YI (cs:=[_]) (zs:=[Value.int .u64 0]) U34 Uw O y00 O O O ψ) ?_))))))));rintro _ w8⟨b8,rfl,⟨gV,cE,aW⟩,eL⟩;refine PX O O (pap U34 Uw O ψ O O (i6.ext cE) eL.rd (by intro c hc;simp at hc;subst hc;rfl) ω ω) ?_;rintro u9 w9⟨mV,aM,JU,-⟩;have z8:=cE.size;have o7:∀b,u.ownBlock=some b->b≠G.k/\b≠G.x/\b≠T.k/\b≠T.x/\b≠1/\b≠2/\¬O_ b:=λb n=>oP b (S b n);have h9:=h7.append P o7 cE aM JU (λb n=>mV.lt n);have tv:Kp (λb=>¬Y b) V w9:=((ay.PZ λb e q=>e (.inl (.inl (Ck b q)))).trans cE.kp).trans (aM.PZ λb e q=>by have:=S b e;have:=Om b q;omega);refine Qe O<|PN<|Sv O<|Ra O<|Qe O ?_
     refine(a0 (v+1,u9) _ ⟨by show v+1<=G.g.length;omega,?_,λb n=>by
      rcases JU b n with e| e
      ·exact S b e
      ·omega,⟨_,λb e=> .inl (Ck b e),λb e=> .inr e,h9⟩,aL.trans tv⟩ (by show G.g.length-(v+1)<G.g.length-v;omega)).qb
     show Sl w9 u9 _ 1 (v+1) ((s.cand.take (v+1)).map λc=>Qi (dmV c));rw[R4 hx,y0f];exact mV
    ·have gQ:v=G.g.length:=ω
     subst gQ;rw[y0z (by rw[JT];exact y04 _)] at o
     obtain⟨R,gc,rfl⟩:∃b c,u= .slice (some ⟨b,0,none⟩) G.g.length c:=by
      rcases o.shape with⟨-,e⟩|⟨b,c,e,-⟩
      ·omega
      ·exact⟨b,c,e⟩
     have hg:=Ext.Qm V;have f7:=z0Q (h6.ext hg) dC.a2 ω (λi e1 q=>by rw[vT,SZ ω,if_pos ⟨e1,q⟩]);rw[show F.Re (R9 F.L a 5 false)=Q by rw[vT,zan dC ω,<-xX];rfl] at f7;have rF:∀{b},Z b->¬O_ b->¬(¬Z b\/O_ b):=λh1 h2 e=>e.elim (λe=>e h1) h2;have Ia:¬O_ R:=(oP R (S R O)).2.2.2.2.2.2;have vV:=Ck _ J.1;have H:∀{r:World},Kp (λb=>¬Z b\/O_ b) V.drew r->Kp (λb=>¬Z b\/O_ b) V r:=λhk=>hg.kp.trans hk;have B:∀{r U:World},Kp (λb=>¬Z b\/O_ b) V.drew r->Ext r U->Kp (λb=>¬Z b\/O_ b) V U:=λhk hx=>(H hk).trans hx.kp;refine Q7 O<|It<|It<|Sq (λw'=>Kp (λb=>¬Z b\/O_ b) V w') O<|Ql 0 O O hg.kp<|TQ 1 O zkX O f7 ?_;rintro _ r⟨rfl,D,rG,HJ,l⟩;refine⟨H l,?_⟩;refine PV 2 O (yne O O) (H l)<|Vm<|Ql 3 O O (H l)<|PV 4 O (QE z1T O) (H l)<|qT 5 O (λ_ h=>Q0 XG O O (h.PO aU (rF vV J.2)) O) (H l)<|PV 8 O (QE zgH O) (H l)<|qT 9 O (λ_ h=>Q0 U3 O O (h.PO aU (rF vV J.2)) O) (H l)<|TQ 6 O zm4 O rG.sp.map ?_;rintro _ a5⟨rfl,rfl⟩;refine⟨H l,?_⟩;have eY:=rG.sp.room dC ω;rw[hL] at eY;refine TQ 7 O zhU O eY ?_;rintro _ U⟨rfl,z⟩;refine⟨B l z,?_⟩;refine PV 10 O (yne O O) (B l z)<|Vm<|PV 11 O (VF O O) (B l z)<|Ql 12 O O (B l z)<|PV 13 O (QE z1T O) (B l z)<|qT 14 O (λ_ h=>Q0 XG O O (h.PO aU (rF vV J.2)) O) (B l z) ?_;have dF:=z6J (rG.sp.ext' z);refine TQ 15 O zm9 O dF ?_;rintro _ a3⟨c1,c2,c3,c4,c5,rfl,di⟩;refine⟨B l (z.trans di),?_⟩;refine PV 16 O (yfd zgp O O) (B l (z.trans di))<|PV 17 O (Zq O O) (B l (z.trans di))<|Vm<|PV 18 O (VF O O) (B l (z.trans di))<|qE<|Us O<|RK O<|Ra O<|Rw O<|PQ func12 O ?_;have eV:=z.trans di;have sP:=B l eV;have JV:∀j,X j->Z j:=λj e=>Ck j (aP j (eI j e));have HK:W8 G T Q D K5 (λj=>X j\/j=R) a3:=(rG.grow eV (λj e=> .inl e) (λ_ e=>e)).less (λj e=>e.elim (JV j) λe=>by rw[e];exact P R O) ⟨.inl A.1,.inl A.2.1,.inl A.2.2.1,.inl A.2.2.2.1,.inl A.2.2.2.2.1,.inl A.2.2.2.2.2⟩;rw[<-hs] at o p;refine⟨_,O,k+1,R,gc,D,K5,O,ω,⟨p,λj C=>f j ω⟩,o.kp sP (λb n=>rF (P b n) ((oP b (S b n)).2.2.2.2.2.2)),HK,ω,by have:=S R O;have:=lV.size;omega,λy e=>(HJ y (.inl e)).trans (Bk y e),?_⟩;refine(((ad.kp.trans (am.PZ λb e q=>e (eI b q))).trans (lV.PZ λb e q=>?_)).trans (aL.PZ λb e q=>e (aP b (eI b q)))).trans (sP.PZ λb e q=>?_)
     ·exact e.elim (λe=>e (aP b (eI b q))) (JS q)
     ·exact e.elim (λe=>e (JV b q)) (JS q)
  ·have m8:(TS G.g (R5 G.g) root (k+1)).done=false:=by simpa using p
   rw[m8];refine Ri O<|QV O<|qV (Tf O)<|PR<|Qb O<|Q7 O<|Sv O<|Ra O<|Qe O ?_
   exact(ih (k+1) w5 ⟨⟨E,K5,bL,ω,Bk⟩,λj C=>by
    by_cases e:j=k+1
    ·rw[e];exact m8
    ·exact f j ω,lV⟩ ω).qb
end
def YJ (h:W8 W.G W.T W.Q txt K X w)(q:K<=500000000000)(e:W.G.g=g)(B:W.T.g=R5 g)(m:Pre W.Q.L W.a)(u:W.a<=146)(r:W.Q.L.length=200)(C:W.G.st+W.G.len<=W.T.st)(z:W.T.st+W.T.len<=W.a)(l:Sg g)(x:root<g.length)(n:g.length<=40):
  Qx prog 12 [.agg #[ptr W.d 0,ptr W.Q.s 0,ptr W.G.k 0,ptr W.T.k 0,I ((200-W.a:Nat):Int)],I (root:Int)] w λv w'=>∃(k b c:Nat)(txt':Int->PU) (K':Nat),v= .tuple #[.slice (some ⟨b,0,none⟩) g.length c,I (k:Int)]/\1<=k/\zaK g (R5 g) root k/\Sl w' (.slice (some ⟨b,0,none⟩) g.length c) 39 1 g.length ((TS g (R5 g) root k).cand.map λc=>Qi (dmV c))/\W8 W.G W.T W.Q txt' K' (λj=>X j\/j=b) w'/\K'<=K+20000000/\w.heap.size<=b/\(∀y:Int,y<(W.a:Int)->txt' y=txt y)/\Kp (λb=>¬X b) w w':=by
 subst e
 have:=z4t (d:=W.d) h q x n l B m ω z u r
 exact this
abbrev g4:List (List Nat):=[[1,2],[3],[3],[]]
def zfp:Sg g4:=⟨λl b=>by
 simp only[y0h,y23,or_false] at b
 rcases b with rfl|rfl|rfl|rfl<;>exact⟨ψ,ψ⟩,ψ,ψ⟩
def zh7:zaK g4 (R5 g4) 0 3:=⟨by decide+kernel,by decide+kernel⟩
theorem zdQ:(TS g4 (R5 g4) 0 3).cand=[0,0,0,0]:=by decide+kernel
theorem z5k (hG:Q8 w 1 (Tu .gamma) 314)(hU:Q8 w 2 (Tu .unary) 314):Qx prog 11 [] w λv w'=>v= .bool true/\Ext w w':=by
 refine py (e:=[]) func11 O ntmps11 O O<|qN O<|Sb O<|PX O O (YI (cs:=[_,_]) (zs:=[Value.int .u32 0,Value.int .u32 0]) QG Qn O y00 O O O ψ) ?_
 rintro _ w1⟨b1,rfl,⟨bP,Y,ah⟩,jU⟩
 refine PX O O (YI (cs:=[_]) (zs:=[Value.int .u32 0]) QG Qn O y00 O O O ψ) ?_
 rintro _ w2⟨b2,rfl,⟨bR,F,ak⟩,p⟩
 refine PX O O (YI (cs:=[_]) (zs:=[Value.int .u32 0]) QG Qn O y00 O O O ψ) ?_
 rintro _ w3⟨b3,rfl,⟨ev,B,au⟩,t⟩
 refine PX O O (YI (cs:=[]) (zs:=[]) QG Qn O y00 O O O ψ) ?_
 rintro _ w4⟨b4,rfl,⟨fD,y,aJ⟩,A⟩
 refine PX O O (YI (cs:=[_,_,_,_]) (zs:=[Value.slice none 0 0,Value.slice none 0 0,Value.slice none 0 0,Value.slice none 0 0]) U23 VB O y00 O O O ψ) ?_
 rintro _ w5⟨b5,rfl,⟨gj,u,aG⟩,X⟩
 have jS:GrM w5 (.slice (some ⟨b5,0,none⟩) 4 4) g4:=by
  refine⟨⟨_,X.rd,λi l m=>?_⟩⟩
  match i,m with
  | 0, m =>
    cases m
    exact⟨_,_,O,y04 _,(((jU.rd.ext F).ext B).ext y).ext u⟩
  | 1, m =>
    cases m
    exact⟨_,_,O,y04 _,((p.rd.ext B).ext y).ext u⟩
  | 2, m =>
    cases m
    exact⟨_,_,O,y04 _,(t.rd.ext y).ext u⟩
  | 3, m =>
    cases m
    exact⟨_,_,O,y04 _,A.rd.ext u⟩
  |i+4,m=>cases m
 have z:=(((Y.trans F).trans B).trans y).trans u
 have z4:=z.size
 refine Qj zed O (z9R (g:=g4) zfp ψ ψ jS (z.PO hG) (z.PO hU) 1 0 ψ ψ) ?_
 rintro _ D⟨W,XX,rfl,q,E,P⟩
 have f:=z.trans E
 have a2:=E.size
 refine Q4 O<|Tr O<|PX O O (SE (cs:=[_,_,_,_,_]) ZM O) ?_
 rintro _ a0⟨C,rfl,vg,H,iX⟩
 have a3:=H.size
 refine Qc O (QX (news:=W.v) ZM O O O O iX ξ) ?_
 rintro x⟨R,o⟩
 have N:Q8 x C [ptr W.d 0,ptr W.Q.s 0,ptr W.G.k 0,ptr W.T.k 0,I ((200-W.a:Nat):Int)] 30:=R
 have J:Ext D x:=H.An o λb e=>ω
 have V:=q.gw2.grow J (λj e=> .inl e) (λ_ e=>e)
 have JO:=q.K
 refine Qe O<|QV O<|qV (Tf O) ?_
 rw[show(!true)=false from rfl]
 refine Ri O<|qN O<|qV (QB U30 O ZM O (Q8.cells (n:=5) N (news:=[_,_,_,_,_]) O) O)<|Qj zkU O (YJ (root:=0) V ω q.gg q.tg q.pre q.a q.L q.gs q.ts zfp ψ ψ) ?_
 rintro _ a1⟨k,b,c,M,K8,rfl,aI,hE,r,-,-,Oo,-,S⟩
 have Z:k=3:=hE.eq zh7
 subst Z
 rw[zdQ] at r
 have U:g4.length=4:=rfl
 rw[U] at r⊢
 have c0:=Rg r.rd (i:=0) (v:=Qi 0) O
 have c1:=Rg r.rd (i:=1) (v:=Qi 0) O
 have c2:=Rg r.rd (i:=2) (v:=Qi 0) O
 have c3:=Rg r.rd (i:=3) (v:=Qi 0) O
 refine Q4 O<|Tr O<|Tq O<|RZ O<|RR O<|SD<|Qq O<|SS U34 O<|Ss O<|SD<|Sh O<|Qq O<|qV (Rk U34 Uw O O ω)<|qV (QH SK O O c0) ?_
 refine Ss O<|SD<|Sh O<|Qq O<|qV (Rk U34 Uw O O ω)<|qV (QH SK O O c1)<|Ss O<|SD<|Sh O<|Qq O<|qV (Rk U34 Uw O O ω)<|qV (QH SK O O c2)<|Ss O<|SD ?_
 refine Sh O<|Qq O<|qV (Rk U34 Uw O O ω)<|qV (QH SK O O c3)<|Ss O<|SD<|Sh O<|Qe O<|QA.qb (e:=[(0,_)]) ?_
 refine PQ func11 O (⟨_,O,O,(f.trans J).An S λb e=>?_⟩)
 rcases y0a b w.heap.size with h| h
 ·exact absurd (P b ω) e
 ·exact h
end Go.Proofs.YtbihggbffaigjaaGreatDoor
