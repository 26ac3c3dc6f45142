/- Merged by program. -/
import Derived.Test.YtbihggbffaigjaaGreatDoorZp7
import Derived.RecoverIn
set_option linter.all false
set_option maxRecDepth 1000000
set_option maxHeartbeats 16000000
namespace Go.Proofs.YtbihggbffaigjaaGreatDoor
open Go Go.RowKit Go.Proofs.Tryz
variable {A O_ P S' X:Nat->Prop}{G T:GwP}{K K' L a b1 b2 i j k p root rr:Nat}{Q Q':UB}{cand ord ys:List Nat}{f f' par vb:Nat->Nat}{g t:List (List Nat)}{o:Oper}{txt txt':Int->Sa}{w w' w5:World}
structure Vc1 where
 vb:Nat
 width:Nat
 st:Nat
 xs:List Nat
def Vc1.len (v:Vc1):Nat:=vcL v.xs.length (512 / v.width)
def Zm (L:List Bool)(T:List Vc1):List Bool:=T.foldl (λL v=>Th L v.st v.len false) L
theorem z38 (L:List Bool)(T:List Vc1)(v:Vc1):Zm L (T++[v])=Th (Zm L T) v.st v.len false:=by
 unfold Zm
 rw[y2Y];rfl
def z8H:∀(T:List Vc1)(L:List Bool),(∀v∈T,v.st+v.len<=L.length)->(Zm L T).length=L.length
 |[],L,_=>rfl
 | v :: T, L, h => by
   have c:=TE (b:=false) (h v y0s);have:=z8H T (Th L v.st v.len false) λu d=>by rw[c];exact h u (y0u _ d)
   exact this.trans c
theorem z8k:∀(T:List Vc1)(L:List Bool) (i:Nat),(∀v∈T,v.st+v.len<=L.length)->(∀v∈T,i<v.st\/v.st+v.len<=i)->(Zm L T)[i]? =L[i]?
 |[],L,i,_,_=>rfl
 | v :: T, L, i, h, h' => by
   have d:=TE (b:=false) (h v y0s);have:=z8k T (Th L v.st v.len false) i (λu c=>by rw[d];exact h u (y0u _ c)) λu c=>h' u (y0u _ c);refine Eq.trans this ?_;have e:=h' v y0s;rw[VA (h v y0s),if_neg ω]
def zaF (T:List Vc1):Prop:=∀(i j:Nat)(u v:Vc1),T[i]? =some u->T[j]? =some v->i≠j->u.vb≠v.vb/\(u.st+u.len<=v.st\/v.st+v.len<=u.st)
structure zbh (Q:UB)(txt:Int->Sa)(K:Nat)(X:Nat->Prop)(T:List Vc1)(a L:Nat)(w:World)(i:Nat)(w':World):Prop where
 ex:∃txt',Sp (Q.Tl (Zm Q.L (T.take i))) txt' K X w'/\(∀(j:Nat)(v:Vc1),i<=j->T[j]? =some v->YJ (Q.Tl (Zm Q.L (T.take i))) txt' v.vb v.width v.st v.xs w')/\(∀y:Int,y<(a:Int)\/(a:Int)+(L:Int)<=y->txt' y=txt y)
 k:Kp (λb=>¬X b\/∃v∈T,b=v.vb) w w'
section
variable {w1:World}{T:List Vc1}{v:Vc1}
theorem zbh.zero (b:Sp Q txt K X w)(c:∀(j:Nat)(v:Vc1),T[j]? =some v->YJ Q txt v.vb v.width v.st v.xs w):zbh Q txt K X T a L w 0 w:=
 ⟨⟨txt,b,λj v _ h=>c j v h,λ_ _=>rfl⟩,Kp.refl _ _⟩
theorem zbh.next (h:zbh Q txt K X T a L w i w1)(g:∀b,X b->b<w.heap.size)(n:T[i]? =some v)(l:∀v∈T,X v.vb/\a<=v.st/\v.st+v.len<=a+L)(z:zaF T)(o:2<=a)(Y:a+L<=Q.L.length)(E:∀i,a<=i->i<a+L->Q.L[i]? =some true):
  SG prog 51 [ptr v.vb 0] w1 λr w'=>r=I 0/\zbh Q txt K X T a L w (i+1) w':=by
 obtain⟨⟨Z,M,x,W⟩,D⟩:=h
 have H:=y0i n
 obtain⟨V,P,G⟩:=l v H
 have c:∀u∈T.take i,u.st+u.len<=Q.L.length:=λu m=>by have:=(l u (y1d m)).2.2;omega
 have N:(Zm Q.L (T.take i)).length=Q.L.length:=z8H _ _ c
 have t:i<T.length:=by
  rcases y0a i T.length with h| h
  ·exact h
  ·rw[y0n h] at n;cases n
 have F:T.take (i+1)=T.take i++[v]:=by rw[List.take_add_one,n];rfl
 have z1:=D.size
 refine(z9w M (λb p=>by have:=g b p;omega) (x i v (y07 _) n) V ω ?_).mono ?_
 ·intro k f s;show(Zm Q.L (T.take i))[k]? =some true;have s:k<v.st+v.len:=s;rw[z8k _ _ _ c]
  ·exact E k ω ω
  ·intro u m;obtain⟨j,B⟩:=y2q m
   have R:j<i:=by
    rcases y0a j i with h| h
    ·exact h
    ·rw[y0n (by rw[y0c];omega)] at B;cases B
   rw[y2R R] at B;have:=(z j i u v B n ω).2;omega
 ·rintro r w'⟨rfl,txt',d,J,C⟩
  have A:(Q.Tl (Zm Q.L (T.take i))).Tl (Th (Q.Tl (Zm Q.L (T.take i))).L v.st v.len false)=Q.Tl (Zm Q.L (T.take (i+1))):=by
   rw[F,z38];rfl
  have d:Sp ((Q.Tl (Zm Q.L (T.take i))).Tl (Th (Q.Tl (Zm Q.L (T.take i))).L v.st v.len false)) txt' K X w':=d;rw[A] at d;refine⟨O,⟨txt',d,λj u B m=>?_,λy hy=>?_⟩,D.trans (C.Se λb e=>e.imp id λe=>⟨v,H,e⟩)⟩
  ·obtain⟨n1,n2⟩:=z i j v u n m ω;have U:=(l u (y0i m)).1;have S:(Zm Q.L (T.take (i+1))).length=(Zm Q.L (T.take i)).length:=by rw[F,z38,TE (by rw[N];omega)]
   refine(((x j u ω m).kp C λe=>e.elim (λe=>e U) λe=>n1 e.symm).z0c λy f s=>J y ?_).q O S;have s:y<(u.st:Int)+(u.len:Int):=s;show y<(v.st:Int)\/(v.st:Int)+(v.len:Int)<=y;omega
  ·rw[J y (by show y<(v.st:Int)\/(v.st:Int)+(v.len:Int)<=y;omega)];exact W y hy
end
def Wn.iff {Y:Nat->Prop}(h:Wn G Q txt K X w)(e:∀b,X b↔Y b):Wn G Q txt K Y w:=by
 have c:X=Y:=funext λb=>propext (e b)
 exact c▸h
abbrev xRu (G T:GwP)(X:Nat->Prop):Nat->Prop:=λb=>(X b\/b=T.rb)\/b=G.rb
structure Gw2 (G T:GwP)(Q:UB)(txt:Int->Sa)(K:Nat)(X:Nat->Prop)(w:World):Prop where
 g:Wn G Q txt K (λb=>X b\/b=T.rb) w
 t:Wn T Q txt K (λb=>X b\/b=G.rb) w
 xk:X G.k/\X G.x/\X T.k/\X T.x/\X 1/\X 2
section
variable {Y:Nat->Prop}
theorem Gw2.ng (h:Gw2 G T Q txt K X w):¬X G.rb/\G.rb≠T.rb/\¬X T.rb:=by
 have b:=h.g.rbX
 have c:=h.t.rbX
 exact⟨λe=>b (.inl e),λe=>b (.inr e),λe=>c (.inl e)⟩
theorem Gw2.sp (h:Gw2 G T Q txt K X w):Sp Q txt K (xRu G T X) w:=h.g.sp
theorem Gw2.lt (h:Gw2 G T Q txt K X w):∀b,xRu G T X b->b<w.heap.size:=h.g.lt1
theorem Gw2.upd (h:Gw2 G T Q txt K X w)(r:Kp S' w w')(q:∀b,S' b->¬xRu G T X b\/(X b/\b≠G.k/\b≠G.x/\b≠T.k/\b≠T.x/\b≠1/\b≠2))(d:∀j,X j->Y j)(D:∀j,Y j->X j\/w.heap.size<=j)(z:∀j,Y j->j<w'.heap.size)(C:Sp Q' txt' K' (xRu G T Y) w')(F:Q'.s=Q.s)(E:Q'.L.length=Q.L.length)(B:K'<1000000000000)(v:∀y:Int,((G.st:Int)<=y/\y<(G.st:Int)+(G.len:Int))\/((T.st:Int)<=y/\y<(T.st:Int)+(T.len:Int))->txt' y=txt y):Gw2 G T Q' txt' K' Y w':=by
 obtain⟨n1,n2,H⟩:=h.ng
 have c:=h.xk
 have u:=h.lt
 have p:=u T.rb (.inl (.inr O))
 have i:=u G.rb (.inr O)
 have o:=r.size
 have I:¬Y G.rb:=λe=>(D _ e).elim n1 ω
 have J:¬Y T.rb:=λe=>(D _ e).elim H ω
 have l:∀{b},X b->((b=G.k\/b=G.x\/b=T.k)\/b=T.x\/b=1\/b=2)->¬S' b:=λR S e=>by
  rcases q _ e with e|⟨-,U,V,W,Z,a,f⟩
  ·exact e (.inl (.inl R))
  ·rcases S with(e|e|e)|e|e| e
   ·exact U e
   ·exact V e
   ·exact W e
   ·exact Z e
   ·exact a e
   ·exact f e
 have M:¬S' G.rb:=λe=>(q _ e).elim (λe=>e (.inr O)) λe=>n1 e.1
 have N:¬S' T.rb:=λe=>(q _ e).elim (λe=>e (.inl (.inr O))) λe=>H e.1
 refine⟨h.g.at_ r ⟨l c.1 (.inl (.inl O)),l c.2.1 (.inl (.inr (.inl O))),l c.2.2.2.2.1 (.inr (.inr (.inl O))),l c.2.2.2.2.2 (.inr (.inr (.inr O))),M⟩ ⟨.inl (d _ c.1),.inl (d _ c.2.1),.inl (d _ c.2.2.2.2.1),.inl (d _ c.2.2.2.2.2)⟩ (λj e=>e.elim (z j) λe=>ω) (λe=>e.elim I n2) C F E B (λy m n=>v y (.inl ⟨m,n⟩)),
  h.t.at_ r ⟨l c.2.2.1 (.inl (.inr (.inr O))),l c.2.2.2.1 (.inr (.inl O)),l c.2.2.2.2.1 (.inr (.inr (.inl O))),l c.2.2.2.2.2 (.inr (.inr (.inr O))),N⟩ ⟨.inl (d _ c.2.2.1),.inl (d _ c.2.2.2.1),.inl (d _ c.2.2.2.2.1),.inl (d _ c.2.2.2.2.2)⟩ (λj e=>e.elim (z j) λe=>ω) (λe=>e.elim J λe=>n2 e.symm) (C.iff λb=>?_) F E B (λy m n=>v y (.inr ⟨m,n⟩)),⟨d _ c.1,d _ c.2.1,d _ c.2.2.1,d _ c.2.2.2.1,d _ c.2.2.2.2.1,d _ c.2.2.2.2.2⟩⟩
 constructor
 ·rintro((e|e)|e)
  ·exact .inl (.inl e)
  ·exact .inr e
  ·exact .inl (.inr e)
 ·rintro((e|e)|e)
  ·exact .inl (.inl e)
  ·exact .inr e
  ·exact .inl (.inr e)
theorem Gw2.own (h:Gw2 G T Q txt K X w)(d:Kp S' w w')(c:∀b,S' b->X b/\b≠G.k/\b≠G.x/\b≠T.k/\b≠T.x/\b≠1/\b≠2):Gw2 G T Q txt K X w':=
 ⟨h.g.own d λj e=>⟨.inl (c j e).1,(c j e).2.1,(c j e).2.2.1,(c j e).2.2.2.2.2.1,(c j e).2.2.2.2.2.2⟩,h.t.own d λj e=>⟨.inl (c j e).1,(c j e).2.2.2.1,(c j e).2.2.2.2.1,(c j e).2.2.2.2.2.1,(c j e).2.2.2.2.2.2⟩,h.xk⟩
theorem Gw2.grow (h:Gw2 G T Q txt K X w)(l:Ext w w')(d:∀j,Y j->X j\/(w.heap.size<=j/\j<w'.heap.size))(b:∀j,X j->Y j):Gw2 G T Q txt K Y w':=by
 have c:=h.xk
 exact⟨h.g.grow l (λj e=>e.elim (λe=>(d j e).imp .inl id) (λe=> .inl (.inr e))) (λj e=>e.imp (b j) id),h.t.grow l (λj e=>e.elim (λe=>(d j e).imp .inl id) (λe=> .inl (.inr e))) (λj e=>e.imp (b j) id),⟨b _ c.1,b _ c.2.1,b _ c.2.2.1,b _ c.2.2.2.1,b _ c.2.2.2.2.1,b _ c.2.2.2.2.2⟩⟩
def Gw2.far (h:Gw2 G T Q txt K X w):∀j,w.heap.size<=j->j≠G.k/\j≠G.x/\j≠T.k/\j≠T.x/\j≠1/\j≠2:=λj u=>by
 have c:∀b,X b->b<w.heap.size:=λb e=>h.lt b (.inl (.inl e))
 have d:=h.xk
 have l:=c _ d.1
 have m:=c _ d.2.1
 have n:=c _ d.2.2.1
 have q:=c _ d.2.2.2.1
 have r:=c _ d.2.2.2.2.1
 have s:=c _ d.2.2.2.2.2
 exact⟨ω,ω,ω,ω,ω,ω⟩
theorem z43 (h:Wn G Q txt K X w):SG prog 38 [ptr G.k 0] w λv w'=>v=I (Tk G.g:Int)/\w'=w:=by
 obtain⟨o,h⟩:=h
 have hB:=h.cells
 refine py (e:=[(0,_)]) func38 O ntmps38 O O<|TU O<|SX O<|qV (T9 U28 O O)<|Tt O<|SE O<|SC O<|Sn ZB O<|Sn z44 O<|qV (Sc U3 O O hB O)<|Sq O<|S3 func38 O ?_
 exact⟨_,O,O,O⟩
theorem Gw2.vec {l:UB}{c:Int->Sa}{v d m:Nat}{u:World}(h:Gw2 G T Q txt K X w)(r:Kp (λb=>¬xRu G T X b) w w5)(D:Sp l c m (λb=>xRu G T X b\/b=v) w5)(M:w.heap.size<=v)(O:v<w5.heap.size)(F:l.s=Q.s)(E:l.L.length=Q.L.length)(C:m<1000000000000)(I:G.st+G.len<=a)(J:T.st+T.len<=a)(H:∀y:Int,y<(a:Int)->c y=txt y)(z:Kp (λb=>b=d) w5 u)(q:X d/\d≠G.k/\d≠G.x/\d≠T.k/\d≠T.x/\d≠1/\d≠2):Gw2 G T l c m (λj=>X j\/j=v) u:=by
 have B:=h.lt
 have N:=r.size
 refine(h.upd (Y:=λj=>X j\/j=v) r (λb e=> .inl e) (λj e=> .inl e) (λj n=>n.imp id λe=>ω) (λj n=>by
   rcases n with e| e
   ·have:=B j (.inl (.inl e));omega
   ·omega) (D.iff λb=>?_) F E C (λy e=>H y ω)).own z λj e=>by rw[e];exact⟨.inl q.1,q.2⟩
 constructor
 ·rintro(((e|e)|e)|e)
  ·exact .inl (.inl (.inl e))
  ·exact .inl (.inr e)
  ·exact .inr e
  ·exact .inl (.inl (.inr e))
 ·rintro(((e|e)|e)|e)
  ·exact .inl (.inl (.inl e))
  ·exact .inr e
  ·exact .inl (.inl (.inr e))
  ·exact .inl (.inr e)
theorem z33 {l:List Bool}{n:Nat}{c:Bool}(h:a+n+1<=l.length):Th (Th l a n c) (a+n) 1 c=Th l a (n+1) c:=by
 have b:(Th l a n c).length=l.length:=TE ω
 refine y1f λi=>?_
 rw[VA (by rw[b];omega),VA ω,VA ω]
 by_cases c1:a+n<=i/\i<a+n+1
 ·rw[if_pos c1,if_pos ω]
 ·rw[if_neg c1];by_cases c2:a<=i/\i<a+n
  ·rw[if_pos c2,if_pos ω]
  ·rw[if_neg c2,if_neg ω]
end
abbrev Wd.x (W:Wd)(XX:Nat->Prop):Nat->Prop:=λb=>XX b/\b≠W.G.rb/\b≠W.T.rb
def WdM.gw2 {W:Wd}{q:Nat->Prop}(h:WdM W g q w):Gw2 W.G W.T W.Q W.txt W.K (W.x q) w:=by
 obtain⟨D,E,v,y,z,B,C⟩:=h.rb
 obtain⟨⟨r,a2⟩,⟨s,u⟩,⟨c,d⟩,l,m⟩:=h.hg.xk
 obtain⟨⟨c1,c2⟩,⟨c3,c4⟩,⟨F,n⟩,c7,c8⟩:=h.ht.xk
 refine⟨h.hg.less (λb e=>?_) ⟨.inl ⟨r,a2,y.symm⟩,.inl ⟨s,u,z.symm⟩,.inl ⟨c,d,n⟩,.inl ⟨l,m,c8⟩⟩,h.ht.less (λb e=>?_) ⟨.inl ⟨c1,B.symm,c2⟩,.inl ⟨c3,C.symm,c4⟩,.inl ⟨c,d,n⟩,.inl ⟨l,m,c8⟩⟩,⟨r,a2,y.symm⟩,⟨s,u,z.symm⟩,⟨c1,B.symm,c2⟩,⟨c3,C.symm,c4⟩,⟨c,d,n⟩,⟨l,m,c8⟩⟩
 ·rcases e with e| e
  ·exact⟨e.1,e.2.1⟩
  ·rw[e];exact⟨E,λe=>v e.symm⟩
 ·rcases e with e| e
  ·exact⟨e.1,e.2.2⟩
  ·rw[e];exact⟨D,v⟩
def UL.far {σ:Type}{R:RuK σ}{s:σ}(h:UL R G T Q txt K X rr O_ a L s w):∀j,w.heap.size<=j->j≠G.k/\j≠G.x/\j≠T.k/\j≠T.x/\j≠1/\j≠2/\¬O_ j:=λj y=>by
 have c:∀b,X b->b<w.heap.size:=λb l=>h.lt b (.inl (.inl l))
 have d:=h.xk
 have m:=c _ d.1
 have n:=c _ d.2.1
 have q:=c _ d.2.2.1
 have r:=c _ d.2.2.2.1
 have u:=c _ d.2.2.2.2.1
 have v:=c _ d.2.2.2.2.2
 exact⟨ω,ω,ω,ω,ω,ω,λe=>by have:=c j (h.xr j e);omega⟩
inductive Ch (f:Nat->Nat) (root:Nat):Nat->Nat->Prop
 |refl (v:Nat):Ch f root v v
 |up {v x:Nat}:v≠root->Ch f root (f v) x->Ch f root v x
abbrev YG:Nat:=4294967295
structure zhq (R:Nat->Prop)(num:Nat->Nat)(root:Nat):Prop where
 rt:R root
 top:∀v,R v->num v<=num root
 inj:∀u v,R u->R v->num u=num v->u=v
 no:∀v,R v->v≠YG
structure Fo (R:Nat->Prop)(num:Nat->Nat)(root:Nat)(f:Nat->Nat):Prop where
 rt:f root=root
 up:∀v,f v≠YG->v≠root->f (f v)≠YG/\num v<num (f v)
 in_:∀v,f v≠YG->R v
section
variable {R:Nat->Prop}{num:Nat->Nat}{b c v w x y:Nat}
theorem Ch.trans (e:Ch f root a b)(d:Ch f root b c):Ch f root a c:=by
 induction e with
 |refl _=>exact d
 |up h _ l=>exact .up h (l d)
def Ch.inv (h:Ch f root v x):x=v\/(v≠root/\Ch f root (f v) x):=by
 cases h with
 |refl _=>exact .inl O
 |up d e=>exact .inr ⟨d,e⟩
theorem Ch.at_root (h:Ch f root root x):x=root:=h.inv.elim id λe=>absurd O e.1
def Ch.mem (m:Fo R num root f)(h:Ch f root v x):f v≠YG->f x≠YG/\num v<=num x/\(num x=num v->x=v):=by
 induction h with
 |refl _=>exact λh=>⟨h,y07 _,λ_=>rfl⟩
 | up n _ q =>
   intro h;obtain⟨d,r⟩:=m.up _ h n;obtain⟨l,s,u⟩:=q d;exact⟨l,ω,λe=>ω⟩
def Ch.zoC (d:Fo R num root f)(e:Ch f root a b)(h:Ch f root b a)(l:f a≠YG):a=b:=by
 obtain⟨m,q,n⟩:=e.mem d l
 obtain⟨r,s,u⟩:=h.mem d m
 exact(n ω).symm
def meetF (num f:Nat->Nat):Nat->Nat->Nat->Option Nat
 |0,a,b=>if a=b then some a else none
 |k+1,a,b=>if a=b then some a else if num a<num b then meetF num f k (f a) b else meetF num f k a (f b)
def z1A (hN:zhq R num root)(m:Fo R num root f):∀(k a b:Nat),f a≠YG->f b≠YG->2*num root<=k+num a+num b->∃c,meetF num f k a b=some c/\f c≠YG/\∀x,Ch f root c x↔Ch f root a x/\Ch f root b x:=by
 have u:∀{a b},f a≠YG->f b≠YG->num a<num b->a≠root:=fun {a b} _ d h e=>by
  subst e;have:=hN.top b (m.in_ b d);omega
 have left:∀{a b},f a≠YG->f b≠YG->num a<num b->∀x,(Ch f root (f a) x/\Ch f root b x)↔(Ch f root a x/\Ch f root b x):=fun {a b} l d h x=>by
  constructor
  ·exact λe=>⟨.up (u l d h) e.1,e.2⟩
  ·rintro⟨C,r⟩;rcases C.inv with e| e
   ·subst e;have:=(r.mem m d).2.1;omega
   ·exact⟨e.2,r⟩
 intro k
 induction k with
 | zero =>
   intro a b l d D;have s:=hN.top a (m.in_ a l);have z:=hN.top b (m.in_ b d);obtain rfl:=hN.inj a b (m.in_ a l) (m.in_ b d) ω
   exact⟨a,by unfold meetF;rw[if_pos O],l,λx=>⟨λe=>⟨e,e⟩,λe=>e.1⟩⟩
 | succ k B =>
   intro a b l d D;by_cases e:a=b
   ·subst e;exact⟨a,by unfold meetF;rw[if_pos O],l,λx=>⟨λe=>⟨e,e⟩,λe=>e.1⟩⟩
   ·unfold meetF;rw[if_neg e];have E:num a≠num b:=λr=>e (hN.inj a b (m.in_ a l) (m.in_ b d) r);by_cases n:num a<num b
    ·rw[if_pos n];obtain⟨s,z⟩:=m.up a l (u l d n);obtain⟨c,c1,c2,c3⟩:=B (f a) b s d ω;exact⟨c,c1,c2,λx=>(c3 x).trans (left l d n x)⟩
    ·rw[if_neg n];have q:num b<num a:=ω
     obtain⟨s,z⟩:=m.up b d (u d l q);obtain⟨c,c1,c2,c3⟩:=B a (f b) l s ω;refine⟨c,c1,c2,λx=>(c3 x).trans ?_⟩;rw[And.comm,left d l q x,And.comm]
inductive Av (g:List (List Nat)) (root x:Nat):Nat->Nat->Prop
 |zero:root≠x->Av g root x 0 root
 |step {j p v:Nat}:Av g root x j p->v∈Si g p->v≠x->Av g root x (j+1) v
def Av.ne (h:Av g root x j v):v≠x:=by
 cases h with
 |zero h=>exact h
 |step _ _ h=>exact h
def Av.rch (h:Av g root x j v):Y0 g root v:=by
 induction h with
 |zero _=>exact .refl
 |step _ h _ d=>exact .step d h
def Dm (g:List (List Nat))(root x v:Nat):Prop:=Y0 g root v/\∀j,¬Av g root x j v
theorem Av.split (h:Av g root x j v)(hw:w≠root):Av g root w j v\/∃i,i<=j/\Av g root x i w:=by
 induction h with
 |zero _=>exact .inl (.zero hw.symm)
 | step hp l m d =>
   rename_i j p v
   rcases d with d|⟨i,hi,d⟩
   ·by_cases e:v=w
    ·subst e;exact .inr ⟨_,y07 _,.step hp l m⟩
    ·exact .inl (.step d l e)
   ·exact .inr ⟨i,ω,d⟩
structure TrF (g:List (List Nat))(root:Nat)(num par:Nat->Nat):Prop where
 n:zhq (Y0 g root) num root
 par:∀v,Y0 g root v->v≠root->Y0 g root (par v)/\v∈Si g (par v)/\num v<num (par v)
structure DsI (g:List (List Nat))(root:Nat)(num par f:Nat->Nat):Prop where
 fo:Fo (Y0 g root) num root f
 t:∀v x,f v≠YG->Ch f root v x->Ch par root v x
 s:∀v x,f v≠YG->Dm g root x v->Ch f root v x
def Pj (g:List (List Nat))(root:Nat)(f:Nat->Nat)(j:Nat):Prop:=∀v x i,i<=j->Av g root x i v->f v≠YG->¬Ch f root v x
def Xi (f:Nat->Nat)(w c:Nat):Nat->Nat:=λv=>if v=w then c else f v
theorem Ze:Xi f w c w=c:=if_pos O
theorem Yo (h:v≠w):Xi f w c v=f v:=if_neg h
theorem zeH:Xi f w (f w)=f:=by
 funext v
 unfold Xi
 split
 ·rename_i e;rw[e]
 ·rfl
def zen (hT:TrF g root num par)(h:Ch par root v w):Y0 g root v->∀{j:Nat},num w<num x->Av g root x j w->num v<=num w/\∃i,Av g root x i v:=by
 induction h with
 |refl _=>exact λ_ {j} _ d=>⟨y07 _,j,d⟩
 | @up v w hv _ ih =>
   intro l j m d;obtain⟨n,q,s⟩:=hT.par v l hv;obtain⟨u,i,r⟩:=ih n m d;exact⟨ω,i+1,.step r q (λe=>by subst e;omega)⟩
section
variable (hT:TrF g root num par)(hI:DsI g root num par f)(hw:Y0 g root w)(hwr:w≠root)(hp:f (par w)≠YG)(hc:f c≠YG)(hch:∀x,Ch f root c x↔∀p,Y0 g root p->w∈Si g p->f p≠YG->Ch f root p x)
include hT hI hw hwr hp hc hch
theorem zgg:num w<num c/\c≠w/\Ch f root (par w) c:=by
 obtain⟨h,l,n⟩:=hT.par w hw hwr
 have d:=(hch c).1 (.refl c) (par w) h l hp
 have m:=(d.mem hI.fo hp).2.1
 exact⟨ω,λe=>by subst e;omega,d⟩
theorem z4d (d:f v≠YG)(n:num w<num v):Ch (Xi f w c) root v x↔Ch f root v x:=by
 have l:∀{v x},Ch (Xi f w c) root v x->f v≠YG->num w<num v->Ch f root v x:=by
  intro v x h
  induction h with
  |refl _=>exact λ_ _=> .refl _
  | up hr _ q =>
    intro d n;rw[Yo (λe=>by subst e;omega)] at q;obtain⟨r,s⟩:=hI.fo.up _ d hr;exact .up hr (q r ω)
 have m:∀{v x},Ch f root v x->f v≠YG->num w<num v->Ch (Xi f w c) root v x:=by
  intro v x h
  induction h with
  |refl _=>exact λ_ _=> .refl _
  | up hr _ q =>
    intro d n;obtain⟨r,s⟩:=hI.fo.up _ d hr;refine .up hr ?_;rw[Yo (λe=>by subst e;omega)];exact q r ω
 exact⟨λh=>l h d n,λh=>m h d n⟩
theorem zkb:Ch (Xi f w c) root w x↔x=w\/Ch f root c x:=by
 obtain⟨d,l,m⟩:=zgg hT hI hw hwr hp hc hch
 constructor
 ·intro h;rcases h.inv with e| e
  ·exact .inl e
  ·rw[Ze] at e;exact .inr ((z4d hT hI hw hwr hp hc hch hc d).1 e.2)
 ·rintro(rfl|h)
  ·exact .refl _
  ·refine .up hwr ?_;rw[Ze];exact(z4d hT hI hw hwr hp hc hch hc d).2 h
theorem zkl (h:Ch f root v x):Ch (Xi f w c) root v x\/(Ch (Xi f w c) root v w/\Ch f root w x/\x≠w/\Ch f root v w):=by
 induction h with
 |refl _=>exact .inl (.refl _)
 | up hr n d =>
   rename_i v x
   by_cases e:v=w
   ·subst e;by_cases l:x=v
    ·subst l;exact .inl (.refl _)
    ·exact .inr ⟨.refl _,.up hr n,l,.refl _⟩
   ·rw[<-Yo (f:=f) (c:=c) e] at d;rcases d with d|⟨q,r,s,m⟩
    ·exact .inl (.up hr d)
    ·rw[Yo e] at m;exact .inr ⟨.up hr q,r,s,.up hr m⟩
theorem zcs (h:Ch (Xi f w c) root v x):Ch f root v x\/(Ch f root v w/\Ch (Xi f w c) root w x):=by
 induction h with
 |refl _=>exact .inl (.refl _)
 | up hr l d =>
   rename_i v x
   by_cases e:v=w
   ·subst e;exact .inr ⟨.refl _,.up hr l⟩
   ·rw[Yo e] at d;rcases d with d|⟨m,n⟩
    ·exact .inl (.up hr d)
    ·exact .inr ⟨.up hr m,n⟩
theorem z7M (h:Xi f w c v≠YG)(e:v≠w):f v≠YG:=by rw[Yo e] at h;exact h
theorem DsI.Xi:DsI g root num par (Xi f w c):=by
 obtain⟨M,N,O⟩:=zgg hT hI hw hwr hp hc hch
 have z:c≠YG:=hT.n.no c (hI.fo.in_ c hc)
 have B:Go.Proofs.YtbihggbffaigjaaGreatDoor.Xi f w c w≠YG:=by rw[Ze];exact z
 have sw:∀x,Dm g root x w->Ch (Go.Proofs.YtbihggbffaigjaaGreatDoor.Xi f w c) root w x:=λx m=>by
  rw[zkb hT hI hw hwr hp hc hch];by_cases e:x=w
  ·exact .inl e
  ·refine .inr ((hch x).2 λp F H E=>hI.s p x E ⟨F,λj C=>m.2 (j+1) (.step C H λu=>e u.symm)⟩)
 refine⟨⟨by rw[Yo hwr.symm];exact hI.fo.rt,λv l hr=>?_,λv l=>?_⟩,λv x l h=>?_,λv x l m=>?_⟩
 ·by_cases e:v=w
  ·subst e;rw[Ze,Yo N];exact⟨hc,M⟩
  ·have d:=z7M hT hI hw hwr hp hc hch l e;obtain⟨q,r⟩:=hI.fo.up v d hr;rw[Yo e];refine⟨?_,r⟩;by_cases u:f v=w
   ·rw[u];exact B
   ·rw[Yo u];exact q
 ·by_cases e:v=w
  ·subst e;exact hw
  ·exact hI.fo.in_ v (z7M hT hI hw hwr hp hc hch l e)
 ·have J:∀y,Ch (Go.Proofs.YtbihggbffaigjaaGreatDoor.Xi f w c) root w y->Ch par root w y:=λy S=>by
   rcases (zkb hT hI hw hwr hp hc hch).1 S with e| e
   ·subst e;exact .refl _
   ·exact .up hwr ((hI.t _ _ hp O).trans (hI.t _ _ hc e))
  by_cases e:v=w
  ·subst e;exact J x h
  ·have d:=z7M hT hI hw hwr hp hc hch l e;rcases zcs hT hI hw hwr hp hc hch h with h|⟨q,r⟩
   ·exact hI.t v x d h
   ·exact(hI.t v w d q).trans (J x r)
 ·by_cases e:v=w
  ·subst e;exact sw x m
  ·have d:=z7M hT hI hw hwr hp hc hch l e;rcases zkl hT hI hw hwr hp hc hch (hI.s v x d m) with h|⟨q,r,V,I⟩
   ·exact h
   ·refine q.trans<|sw x ⟨hw,λj C=>?_⟩;have U:=r.mem hI.fo (I.mem hI.fo d).1
    have D:num w<num x:=by
     rcases y0a (num w) (num x) with h| h
     ·exact h
     ·exact absurd (U.2.2 ω) V
    obtain⟨-,i,hi⟩:=zen hT (hI.t v w d I) (hI.fo.in_ v d) D C;exact m.2 i hi
theorem zaa (q:Pj g root f j)(n:j=0\/∀v,Y0 g root v->f v≠YG)(m:f root≠YG):∀x i,i<=j+1->Av g root x i w->¬Ch (Xi f w c) root w x:=λx i hi d h=>by
 rcases (zkb hT hI hw hwr hp hc hch).1 h with e| e
 ·exact d.ne e.symm
 ·cases d with
  |zero _=>exact hwr O
  | step d r s =>
    rename_i i p
    have l:f p≠YG:=by
     rcases n with e| e
     ·have:i=0:=ω
      subst this;cases d;exact m
     ·exact e p d.rch
    exact q p x i ω d l ((hch x).1 e p d.rch r l)
theorem zhC (n:Pj g root f j)(q:j=0\/∀v,Y0 g root v->f v≠YG)(l:f root≠YG):Pj g root (Xi f w c) j:=λv x i hi d s h=>by
 by_cases e:v=w
 ·subst e;exact zaa hT hI hw hwr hp hc hch n q l x i ω d h
 ·have m:=z7M hT hI hw hwr hp hc hch s e;rcases zcs hT hI hw hwr hp hc hch h with h|⟨z,B⟩
  ·exact n v x i hi d m h
  ·rcases d.split hwr with d|⟨u,r,d⟩
   ·exact n v w i hi d m z
   ·exact zaa hT hI hw hwr hp hc hch n q l x u ω d B
end
structure DsK (g:List (List Nat))(root:Nat)(num par:Nat->Nat)(j k:Nat)(f:Nat->Nat):Prop where
 i:DsI g root num par f
 p:Pj g root f j
 did:∀v,Y0 g root v->k<=num v->f v≠YG/\∀x i,i<=j+1->Av g root x i v->¬Ch f root v x
def DsI.r0 (hT:TrF g root num par)(h:DsI g root num par f):f root≠YG:=by
 rw[h.fo.rt]
 exact hT.n.no root hT.n.rt
theorem DsK.begin (hT:TrF g root num par)(hI:DsI g root num par f)(e:Pj g root f j):DsK g root num par j (num root) f:=by
 refine⟨hI,e,λv d m=>?_⟩
 obtain rfl:=hT.n.inj v root d hT.n.rt (by have:=hT.n.top v d;omega)
 exact⟨hI.r0 hT,λx i _ l h=>l.ne h.at_root.symm⟩
theorem DsK.next (hT:TrF g root num par)(h:DsK g root num par j (k+1) f)(r:j=0\/∀v,Y0 g root v->f v≠YG)(hw:Y0 g root w)(H:num w=k)(D:k<num root)(hc:f c≠YG)(hch:∀x,Ch f root c x↔∀p,Y0 g root p->w∈Si g p->f p≠YG->Ch f root p x):DsK g root num par j k (Xi f w c)/\(j=0\/∀v,Y0 g root v->Xi f w c v≠YG):=by
 have hwr:w≠root:=λe=>by subst e;omega
 obtain⟨E,J,M⟩:=hT.par w hw hwr
 have hp:=(h.did (par w) E ω).1
 have q:=h.i.r0 hT
 have l:c≠YG:=hT.n.no c (h.i.fo.in_ c hc)
 have m:∀v,f v≠YG->Xi f w c v≠YG:=λv d=>by
  by_cases e:v=w
  ·subst e;rw[Ze];exact l
  ·rw[Yo e];exact d
 refine⟨⟨DsI.Xi hT h.i hw hwr hp hc hch,zhC hT h.i hw hwr hp hc hch h.p r q,λv d I=>?_⟩,r.imp id λe v d=>m v (e v d)⟩
 by_cases e:v=w
 ·subst e;exact⟨by rw[Ze];exact l,zaa hT h.i hw hwr hp hc hch h.p r q⟩
 ·have s:k+1<=num v:=by
   rcases y0a k (num v) with u|u
   ·exact u
   ·exact absurd (hT.n.inj v w d hw ω) e
  obtain⟨z,F⟩:=h.did v d s;refine⟨m v z,λx i hi B C=>F x i hi B ?_⟩;exact(z4d hT h.i hw hwr hp hc hch z ω).1 C
theorem DsK.fin (h:DsK g root num par j 0 f):Pj g root f (j+1)/\∀v,Y0 g root v->f v≠YG:=
 ⟨λv x i hi d e=>(h.did v d.rch (y02 _)).2 x i hi d,λv e=>(h.did v e (y02 _)).1⟩
structure z7v (g:List (List Nat))(root:Nat)(num par f:Nat->Nat):Prop where
 i:DsI g root num par f
 c:∀v,Y0 g root v->f v≠YG
 p:∀j,Pj g root f j
theorem z7v.iff (h:z7v g root num par f)(d:Y0 g root v):Ch f root v x↔Dm g root x v:=
 ⟨λe=>⟨d,λj l=>h.p j v x j (y07 _) l (h.c v d) e⟩,λe=>h.i.s v x (h.c v d) e⟩
theorem z7v.zk0 (hT:TrF g root num par)(h:z7v g root num par f)(hw:Y0 g root w)(hwr:w≠root)(hc:f c≠YG)(hch:∀x,Ch f root c x↔∀p,Y0 g root p->w∈Si g p->f p≠YG->Ch f root p x):f w=c:=by
 have n:=h.c w hw
 obtain⟨s,z,C⟩:=hT.par w hw hwr
 obtain⟨u,D⟩:=h.i.fo.up w n hwr
 have key:∀x,Ch f root c x↔Ch f root (f w) x:=λx=>by
  rw[hch];constructor
  ·intro l
   have m:Dm g root x w:=⟨hw,λj d=>by
    cases d with
    |zero _=>exact hwr O
    | step d q B =>
      rename_i j p
      exact((h.iff d.rch).1 (l p d.rch q (h.c p d.rch))).2 j d⟩
   rcases ((h.iff hw).2 m).inv with e| e
   ·subst e;have:=((l (par x) s z (h.c _ s)).mem h.i.fo (h.c _ s)).2.1;omega
   ·exact e.2
  ·intro l p hp q _
   have r:x≠w:=λe=>by
    subst e;have:=(l.mem h.i.fo u).2.1;omega
   have m:=(h.iff hw).1 (.up hwr l);exact(h.iff hp).2 ⟨hp,λj d=>m.2 (j+1) (.step d q r.symm)⟩
 exact Ch.zoC h.i.fo ((key c).1 (.refl c)) ((key (f w)).2 (.refl _)) u
end
abbrev lft (l:List Nat)(v:Nat):Prop:=l[v]? =some 4294967295
def bkC (l c m:List Nat)(v u:Nat):Prop:=lft l u/\m.getD u 0=1/\c.getD u 0=c.getD v 0
instance (l c m:List Nat) (v u:Nat):Decidable (bkC l c m v u):=by unfold bkC;infer_instance
/-! ### Counting -/
def ZI {p q:Nat->Bool}:∀{l:List Nat},(∀x∈l,p x=true->q x=true)->l.countP p<=l.countP q
 |[],_=>y07 _
 | x :: l, h => by
   have n:=ZI (p:=p) (q:=q) (l:=l) λy e=>h y (y0u _ e);have b:=h x y0s;rw[y12,y12]
   cases d:p x with
   |false=>simp;omega
   |true=>rw[b d];simp;omega
def z2m {p q:Nat->Bool}:∀{l:List Nat},(∀x∈l,p x=true->q x=true)->∀{y:Nat},y∈l->p y=false->q y=true->l.countP p<l.countP q
 | x :: l, h, y, hy, h1, h2 => by
   have d:=h x y0s;rw[y12,y12];rcases y0m.1 hy with e| e
   ·subst e;have r:=ZI (p:=p) (q:=q) (l:=l) λz b=>h z (y0u _ b);rw[h1,h2];simp;omega
   ·have r:=z2m (p:=p) (q:=q) (l:=l) (λz b=>h z (y0u _ b)) e h1 h2
    cases n:p x with
    |false=>simp;omega
    |true=>rw[d n];simp;omega
open Classical in
noncomputable def Z5 (n:Nat)(P:Nat->Prop):Nat:=(List.range n).countP λv=>decide (P v)
open Classical in
def zhb {n:Nat}{Q:Nat->Prop}(h:∀v,v<n->P v->Q v):Z5 n P<=Z5 n Q:=
 ZI λx d b=>decide_eq_true (h x (y0R.1 d) (of_decide_eq_true b))
open Classical in
def z2d {n:Nat}{Q:Nat->Prop}(h:∀v,v<n->P v->Q v){v:Nat}(q:v<n)(b:¬P v)(d:Q v):Z5 n P<Z5 n Q:=
 z2m (λx r e=>decide_eq_true (h x (y0R.1 r) (of_decide_eq_true e))) (y0R.2 q) (decide_eq_false b) (decide_eq_true d)
theorem z4F {n:Nat}:Z5 n P<=n:=by
 have:=List.countP_le_length (p:=λv=>@decide (P v) (Classical.propDecidable _)) (l:=List.range n)
 rw[y16] at this
 exact this
theorem zgv {n:Nat}{v:Nat}(b:v<n)(h:P v):0<Z5 n P:=by
 have:=z2d (n:=n) (P:=λ_=>False) (Q:=P) (λ_ _ e=>e.elim) b (λe=>e) h
 omega
def Wy {l:List Nat}{v x:Nat}(h:l[v]? =some x):l.getD v 0=x:=by rw[y0C,h];rfl
theorem TY {l:List Nat}{v u x:Nat}(h:v<l.length):(l.set v x).getD u 0=if u=v then x else l.getD u 0:=by
 rw[y0C,y0C]
 split
 ·rename_i e
  subst e;rw[y0X h];rfl
 ·rename_i e
  rw[y0M (Ne.symm e)]
/-! ### Trim -/
section
/-! ### Colours -/
/-! ### Marks -/
end
structure DmS where
 steps:Nat
 fin:Nat
 Sj:Nat
 T5:Bool
 done:Bool
 num:List Nat
 looked:List Nat
 cand:List Nat
 Wv:List Nat
 ord:List Nat
def DmS.push (s:DmS)(v:Nat):DmS:={s with num:=s.num.set v 4294967294,looked:=s.looked.set v 0,Wv:=s.Wv.set s.Sj v,Sj:=s.Sj+1}
def DmS.new (n root:Nat):DmS:=DmS.push ⟨0,0,0,false,false,List.replicate n 4294967295,List.replicate n 0,List.replicate n 4294967295,List.replicate n 0,List.replicate n 0⟩ root
def DmS.Z0 (s:DmS)(v:Nat):DmS:={s with num:=s.num.set v s.fin,ord:=s.ord.set s.fin v,fin:=s.fin+1,Sj:=s.Sj-1}
def DmS.look (s:DmS)(v:Nat):DmS:={s with looked:=s.looked.set v (s.looked.getD v 0+1)}
def DmS.move (g:List (List Nat))(s:DmS):DmS:=
 match(Si g (s.Wv.getD (s.Sj-1) 0))[s.looked.getD (s.Wv.getD (s.Sj-1) 0) 0]? with
 |none=>s.Z0 (s.Wv.getD (s.Sj-1) 0)
 |some u=>if s.num.getD u 0=4294967295 then(s.look (s.Wv.getD (s.Sj-1) 0)).push u else s.look (s.Wv.getD (s.Sj-1) 0)
def DmS.Tg (g:List (List Nat)):Nat->DmS->DmS
 |0,s=>s
 |k+1,s=>if 0<s.Sj then DmS.Tg g k (s.move g) else s
/-! ### Sums -/
def zcH {n:Nat}{w d:Nat}(l:w<n)(b:∀v,v≠w->f' v=f v)(c:f' w=f w+d):((List.range n).map f').sum=((List.range n).map f).sum+d:=by
 induction n with
 |zero=>exact absurd l (y2s _)
 | succ n m =>
   rw[y0T,y0f,y0f,y15,y15];simp only[y0o,y1y,y0L,y1E];by_cases e:w=n
   ·subst e;have:(List.range w).map f'=(List.range w).map f:=y0O λv h=>b v (by have:=y0R.1 h;omega);rw[this,c];omega
   ·rw[m ω,b n (Ne.symm e)];omega
def zkk {n:Nat}(h:∀v,v<n->f v<=f' v):((List.range n).map f).sum<=((List.range n).map f').sum:=by
 induction n with
 |zero=>exact y07 _
 | succ n b =>
   rw[y0T,y0f,y0f,y15,y15];simp only[y0o,y1y,y0L,y1E];have:=b λv c=>h v ω;have:=h n ω;omega
theorem zeg {n c:Nat}:((List.range n).map λ_=>c).sum=n*c:=by
 induction n with
 |zero=>simp
 | succ n b =>
   rw[y0T,y0f,y15,b,y0r];simp
def z1N (n:Nat)(s:DmS):Nat:=s.fin+((List.range n).map λv=>if s.num.getD v 0=4294967295 then 0 else s.looked.getD v 0).sum
structure Zb (g:List (List Nat))(root:Nat)(s:DmS):Prop where
 nn:s.num.length=g.length
 ln:s.looked.length=g.length
 cn:s.cand=List.replicate g.length 4294967295
 sn:s.Wv.length=g.length
 on:s.ord.length=g.length
 st:∀i,i<s.Sj->s.Wv.getD i 0<g.length/\s.num.getD (s.Wv.getD i 0) 0=4294967294
 inj:∀i j,i<j->j<s.Sj->s.Wv.getD i 0≠s.Wv.getD j 0
 op:∀v,v<g.length->s.num.getD v 0=4294967294->∃i,i<s.Sj/\s.Wv.getD i 0=v
 od:∀i,i<s.fin->s.ord.getD i 0<g.length/\s.num.getD (s.ord.getD i 0) 0=i
 no:∀v,v<g.length->s.num.getD v 0=4294967295\/s.num.getD v 0=4294967294\/(s.num.getD v 0<s.fin/\s.ord.getD (s.num.getD v 0) 0=v)
 rt:(0<s.Sj->s.Wv.getD 0 0=root)/\(s.Sj=0->s.num.getD root 0+1=s.fin)
 re:∀v,v<g.length->s.num.getD v 0≠4294967295->Y0 g root v
 ed:∀i,i+1<s.Sj->s.Wv.getD (i+1) 0∈Si g (s.Wv.getD i 0)
 lk:∀v,v<g.length->s.num.getD v 0≠4294967295->s.looked.getD v 0<=(Si g v).length/\∀j u,j<s.looked.getD v 0->(Si g v)[j]? =some u->s.num.getD u 0≠4294967295
 fn:∀v,v<g.length->s.num.getD v 0<s.fin->s.looked.getD v 0=(Si g v).length
 pr:∀v,v<g.length->s.num.getD v 0<s.fin->v≠root->∃p,p<g.length/\v∈Si g p/\(s.num.getD p 0=4294967294\/(s.num.getD p 0<s.fin/\s.num.getD v 0<s.num.getD p 0))
 ct:s.fin+s.Sj<=Z5 g.length (λv=>s.num.getD v 0≠4294967295)
section
variable {v u:Nat}{s:DmS}
def Zb.fh (h:Zb g root s):s.fin+s.Sj<=g.length:=y0d h.ct z4F
theorem Zb.push (h:Zb g root s)(hg:Um g){u:Nat}(r:u<g.length)(J:s.num.getD u 0=4294967295)(hr:Y0 g root u)(Y:s.Sj=0->u=root/\s.fin=0)(V:0<s.Sj->u∈Si g (s.Wv.getD (s.Sj-1) 0)):Zb g root (s.push u):=by
 have R:=hg.n
 have W:=h.fh
 have y:s.fin+(s.Sj+1)<=Z5 g.length (λv=>(s.num.set u 4294967294).getD v 0≠4294967295):=by
  have q:=h.ct
  have l:Z5 g.length (λv=>s.num.getD v 0≠4294967295)<Z5 g.length (λv=>(s.num.set u 4294967294).getD v 0≠4294967295):=z2d (λv _ c=>by
   rw[TY (by rw[h.nn];exact r)];split
   ·decide
   ·exact c) r (λe=>e J) (by rw[TY (by rw[h.nn];exact r),if_pos O];decide)
  omega
 have E:s.Sj<g.length:=by
  have:=y0d y z4F;omega
 have d:∀v,(s.push u).num.getD v 0=if v=u then 4294967294 else s.num.getD v 0:=λv=>TY (by rw[h.nn];exact r)
 have N:∀v,(s.push u).looked.getD v 0=if v=u then 0 else s.looked.getD v 0:=λv=>TY (by rw[h.ln];exact r)
 have gs:∀i,(s.push u).Wv.getD i 0=if i=s.Sj then u else s.Wv.getD i 0:=λi=>TY (by rw[h.sn];exact E)
 have C:∀i,i<s.Sj->s.Wv.getD i 0≠u:=λi hi e=>by
  have:=(h.st i hi).2;rw[e,J] at this;cases this
 have m:(s.push u).Sj=s.Sj+1:=rfl
 have x:(s.push u).fin=s.fin:=rfl
 have go:(s.push u).ord=s.ord:=rfl
 refine⟨by show(s.num.set _ _).length=_;rw[y0w];exact h.nn,by show(s.looked.set _ _).length=_;rw[y0w];exact h.ln,h.cn,by show(s.Wv.set _ _).length=_;rw[y0w];exact h.sn,h.on,λi hi=>?_,λi j F B=>?_,λv c e=>?_,λi hi=>?_,λv c=>?_,⟨λ_=>?_,λe=>?_⟩,λv c e=>?_,λi hi=>?_,λv c e=>?_,λv c e=>?_,λv c e M=>?_,y⟩
 ·rw[m] at hi;rw[gs];split
  ·rename_i e
   rw[d,if_pos O];exact⟨r,O⟩
  ·rename_i e
   have z:i<s.Sj:=ω
   rw[d,if_neg (C i z)];exact h.st i z
 ·rw[m] at B;rw[gs,gs,if_neg (show i≠s.Sj by omega)];split
  ·exact C i ω
  ·exact h.inj i j F ω
 ·rw[d] at e;by_cases b:v=u
  ·exact⟨s.Sj,by rw[m];omega,by rw[gs,if_pos O];exact b.symm⟩
  ·rw[if_neg b] at e;obtain⟨i,hi,H⟩:=h.op v c e;exact⟨i,by rw[m];omega,by rw[gs,if_neg ω];exact H⟩
 ·rw[x] at hi;rw[go];obtain⟨q,l⟩:=h.od i hi;refine⟨q,?_⟩;rw[d,if_neg (λe=>?_)]
  ·exact l
  ·rw[e,J] at l;omega
 ·rw[d,x,go];split
  ·exact .inr (.inl O)
  ·exact h.no v c
 ·rw[gs];split
  ·rename_i e;exact(Y e.symm).1
  ·rename_i e;exact h.rt.1 ω
 ·rw[m] at e;omega
 ·rw[d] at e;split at e
  ·rename_i b;rw[b];exact hr
  ·exact h.re v c e
 ·rw[m] at hi;rw[gs,gs,if_neg (show i≠s.Sj by omega)];split
  ·rename_i e
   have:=V ω;rw[show s.Sj-1=i by omega] at this;exact this
  ·exact h.ed i ω
 ·rw[d] at e;rw[N];split
  ·rename_i b
   exact⟨y02 _,λj S B=>absurd B (y2s _)⟩
  ·rename_i b
   rw[if_neg b] at e;obtain⟨q,l⟩:=h.lk v c e;refine⟨q,λj S B I=>?_⟩;rw[d];split
   ·decide
   ·exact l j S B I
 ·rw[d,x] at e;rw[N];split
  ·rename_i b
   rw[if_pos b] at e;omega
  ·rename_i b
   rw[if_neg b] at e;exact h.fn v c e
 ·rw[d,x] at e;have D:v≠u:=λb=>by rw[if_pos b] at e;omega
  rw[if_neg D] at e;obtain⟨p,q,l,U⟩:=h.pr v c e M;refine⟨p,q,l,?_⟩;rw[d,d,x,if_neg D];split
  ·exact .inl O
  ·exact U
theorem Zb.look (h:Zb g root s)(hg:Um g)(F:v<g.length)(r:s.num.getD v 0=4294967294)(l:(Si g v)[s.looked.getD v 0]? =some u)(q:s.num.getD u 0≠4294967295):Zb g root (s.look v):=by
 have z:∀x,(s.look v).looked.getD x 0=if x=v then s.looked.getD v 0+1 else s.looked.getD x 0:=λx=>TY (by rw[h.ln];exact F)
 have E:=h.fh
 have I:=hg.n
 refine⟨h.nn,by show(s.looked.set _ _).length=_;rw[y0w];exact h.ln,h.cn,h.sn,h.on,h.st,h.inj,h.op,h.od,h.no,h.rt,h.re,h.ed,λx y e=>?_,λx y e=>?_,h.pr,h.ct⟩
 ·obtain⟨D,B⟩:=h.lk x y e;rw[z];split
  ·rename_i c
   subst c
   have m:s.looked.getD x 0<(Si g x).length:=by
    rcases y0a (s.looked.getD x 0) (Si g x).length with d|d
    ·exact d
    ·rw[y0n d] at l;cases l
   refine⟨m,λi H hi b=>?_⟩;by_cases C:i=s.looked.getD x 0
   ·subst C;rw[l] at b;obtain rfl:=y1i b;exact q
   ·exact B i H ω b
  ·exact⟨D,B⟩
 ·rw[z];split
  ·rename_i c
   have e:s.num.getD x 0<s.fin:=e;rw[c,r] at e;omega
  ·exact h.fn x y e
theorem Zb.Z0 (h:Zb g root s)(hg:Um g)(R:0<s.Sj)(a:(Si g (s.Wv.getD (s.Sj-1) 0))[s.looked.getD (s.Wv.getD (s.Sj-1) 0) 0]? =none):Zb g root (s.Z0 (s.Wv.getD (s.Sj-1) 0)):=by
 have f:=hg.n
 have A:=h.fh
 obtain⟨v,c⟩:∃v,s.Wv.getD (s.Sj-1) 0=v:=⟨_,O⟩
 have F:=h.st (s.Sj-1) ω
 rw[c] at a F⊢
 obtain⟨W,B⟩:=F
 have N:s.fin<g.length:=ω
 have m:∀x,(s.Z0 v).num.getD x 0=if x=v then s.fin else s.num.getD x 0:=λx=>TY (by rw[h.nn];exact W)
 have go:∀i,(s.Z0 v).ord.getD i 0=if i=s.fin then v else s.ord.getD i 0:=λi=>TY (by rw[h.on];exact N)
 have C:(s.Z0 v).Sj=s.Sj-1:=rfl
 have y:(s.Z0 v).fin=s.fin+1:=rfl
 have gs:(s.Z0 v).Wv=s.Wv:=rfl
 have Y:(s.Z0 v).looked=s.looked:=rfl
 have V:s.looked.getD v 0=(Si g v).length:=by
  have b:=(h.lk v W (by rw[B];decide)).1;have q:=List.getElem?_eq_none_iff.1 a;omega
 have r:∀x,(s.Z0 v).num.getD x 0≠4294967295↔s.num.getD x 0≠4294967295:=λx=>by
  rw[m];split
  ·rename_i e;rw[e,B];exact⟨λ_=>ψ,λ_=>ω⟩
  ·exact y0U
 have D:∀i,i<s.Sj-1->s.Wv.getD i 0≠v:=λi hi=>by rw[<-c];exact h.inj i _ hi ω
 refine⟨by show(s.num.set _ _).length=_;rw[y0w];exact h.nn,h.ln,h.cn,h.sn,by show(s.ord.set _ _).length=_;rw[y0w];exact h.on,λi hi=>?_,λi j S U=>?_,λx d e=>?_,λi hi=>?_,λx d=>?_,⟨λe=>?_,λe=>?_⟩,λx d e=>?_,λi hi=>?_,λx d e=>?_,λx d e=>?_,λx d e I=>?_,?_⟩
 ·rw[C] at hi;rw[gs,m,if_neg (D i hi)];exact h.st i ω
 ·rw[C] at U;exact h.inj i j S ω
 ·rw[m] at e;by_cases l:x=v
  ·rw[if_pos l] at e;omega
  ·rw[if_neg l] at e;obtain⟨i,hi,z⟩:=h.op x d e;refine⟨i,?_,z⟩;rw[C];by_cases t:i=s.Sj-1
   ·rw[t,c] at z;exact absurd z.symm l
   ·omega
 ·rw[y] at hi;rw[go];split
  ·rename_i e
   rw[m,if_pos O];exact⟨W,e.symm⟩
  ·rename_i e
   obtain⟨b,q⟩:=h.od i ω;refine⟨b,?_⟩;rw[m,if_neg (λl=>?_)]
   ·exact q
   ·rw[l,B] at q;omega
 ·rw[m,y,go];split
  ·rename_i e
   exact .inr (.inr ⟨ω,by rw[if_pos O];exact e.symm⟩)
  ·rcases h.no x d with b|b|⟨b,q⟩
   ·exact .inl b
   ·exact .inr (.inl b)
   ·exact .inr (.inr ⟨ω,by rw[if_neg ω];exact q⟩)
 ·rw[gs];exact h.rt.1 R
 ·rw[C] at e;have o:s.Sj-1=0:=e;have hr:=h.rt.1 R;rw[o] at c;rw[c] at hr;rw[m,y,if_pos hr.symm]
 ·exact h.re x d ((r x).1 e)
 ·rw[C] at hi;exact h.ed i ω
 ·obtain⟨b,q⟩:=h.lk x d ((r x).1 e);rw[Y];exact⟨b,λj u U G=>(r u).2 (q j u U G)⟩
 ·rw[m,y] at e;rw[Y];by_cases l:x=v
  ·rw[l];exact V
  ·rw[if_neg l] at e;refine h.fn x d ?_;rcases h.no x d with b|b|⟨b,q⟩
   ·omega
   ·omega
   ·exact b
 ·rw[m,y] at e;by_cases l:x=v
  ·subst l
   have k:0<s.Sj-1:=by
    rcases y0D (s.Sj-1) with M|M
    ·rw[M] at c;have:=h.rt.1 R;rw[c] at this;exact absurd this I
    ·exact M
   have Z:=h.ed (s.Sj-2) ω;rw[show s.Sj-2+1=s.Sj-1 by omega,c] at Z;have E:=h.st (s.Sj-2) ω;refine⟨_,E.1,Z,.inl ?_⟩;rw[m,if_neg (D _ ω)];exact E.2
  ·rw[if_neg l] at e
   have H:s.num.getD x 0<s.fin:=by
    rcases h.no x d with b|b|⟨b,q⟩
    ·omega
    ·omega
    ·exact b
   obtain⟨p,b,q,J⟩:=h.pr x d H I;refine⟨p,b,q,?_⟩;rw[m,m,y,if_neg l];split
   ·exact .inr ⟨ω,H⟩
   ·rcases J with J|⟨J,w⟩
    ·exact .inl J
    ·exact .inr ⟨ω,w⟩
 ·have b:=h.ct;rw[y,C];have q:Z5 g.length (λv=>s.num.getD v 0≠4294967295)<=Z5 g.length (λx=>(s.Z0 v).num.getD x 0≠4294967295):=zhb λx _ e=>(r x).2 e;omega
theorem Zb.new (hg:Um g)(hr:root<g.length):Zb g root (DmS.new g.length root):=by
 have y:=hg.n
 have m:∀x,(DmS.new g.length root).num.getD x 0=if x=root then 4294967294 else(List.replicate g.length 4294967295).getD x 0:=λx=>TY (by rw[y0b];exact hr)
 have b:∀x c,x<g.length->(List.replicate g.length c).getD x 0=c:=λx c d=>by rw[y0C,y0Z,if_pos d];rfl
 have gs:∀i,(DmS.new g.length root).Wv.getD i 0=if i=0 then root else(List.replicate g.length 0).getD i 0:=λi=>TY (by rw[y0b];show 0<g.length;omega)
 have z:∀x,(DmS.new g.length root).looked.getD x 0=0:=λx=>by
  show((List.replicate g.length 0).set root 0).getD x 0=0;rw[TY (by rw[y0b];exact hr)];split
  ·rfl
  ·rw[y0C,y0Z];split<;>rfl
 have h:(DmS.new g.length root).Sj=1:=rfl
 have q:(DmS.new g.length root).fin=0:=rfl
 refine⟨by show(List.set _ _ _).length=_;rw[y0w,y0b],by show(List.set _ _ _).length=_;rw[y0w,y0b],O,by show(List.set _ _ _).length=_;rw[y0w,y0b],y0b,λi hi=>?_,λi j B r=>?_,λx d e=>?_,λi hi=>?_,λx d=>?_,⟨λe=>?_,λe=>?_⟩,λx d e=>?_,λi hi=>?_,λx d e=>?_,λx d e=>?_,λx d e C=>?_,?_⟩
 ·rw[h] at hi;rw[gs,if_pos ω,m,if_pos O];exact⟨hr,O⟩
 ·rw[h] at r;omega
 ·rw[m] at e;by_cases l:x=root
  ·exact⟨0,by rw[h];omega,by rw[gs,if_pos O];exact l.symm⟩
  ·rw[if_neg l,b x _ d] at e;cases e
 ·rw[q] at hi;omega
 ·rw[m];split
  ·exact .inr (.inl O)
  ·exact .inl (b x _ d)
 ·rw[gs,if_pos O]
 ·rw[h] at e;cases e
 ·rw[m] at e;by_cases l:x=root
  ·rw[l];exact .refl
  ·rw[if_neg l,b x _ d] at e;exact absurd O e
 ·rw[h] at hi;omega
 ·rw[z];exact⟨y02 _,λj u r=>absurd r (y2s _)⟩
 ·rw[q] at e;omega
 ·rw[q] at e;omega
 ·rw[q,h];exact zgv hr (by rw[m,if_pos O];decide)
theorem Zb.move (h:Zb g root s)(hg:Um g)(M:0<s.Sj):Zb g root (s.move g)/\z1N g.length (s.move g)=z1N g.length s+1:=by
 have D:=hg.n
 have J:=h.fh
 obtain⟨l,b⟩:=h.st (s.Sj-1) ω
 unfold DmS.move
 cases y:(Si g (s.Wv.getD (s.Sj-1) 0))[s.looked.getD (s.Wv.getD (s.Sj-1) 0) 0]? with
 | none =>
   refine⟨h.Z0 hg M y,?_⟩
   generalize s.Wv.getD (s.Sj-1) 0=v at l b y
   have:((List.range g.length).map λx=>if(s.Z0 v).num.getD x 0=4294967295 then 0 else s.looked.getD x 0)=(List.range g.length).map λx=>if s.num.getD x 0=4294967295 then 0 else s.looked.getD x 0:=by
    refine y0O λx _=>?_;show(if(s.num.set v s.fin).getD x 0=4294967295 then 0 else s.looked.getD x 0)=_;rw[TY (by rw[h.nn];exact l)];by_cases e:x=v
    ·rw[if_pos e,e,b,if_neg ω,if_neg ψ]
    ·rw[if_neg e]
   show s.fin+1+((List.range g.length).map λx=>if(s.Z0 v).num.getD x 0=4294967295 then 0 else s.looked.getD x 0).sum=s.fin+_+1
   rw[this];omega
 | some u =>
   have q:u∈Si g (s.Wv.getD (s.Sj-1) 0):=y0i y;have c:u<g.length:=Vx hg _ u q;dsimp only;split
   ·rename_i m
    have z:=h.re _ l (by rw[b];decide);have I:=h.push hg c m (.step z q) (λe=>ω) λ_=>q
    generalize s.Wv.getD (s.Sj-1) 0=v at l b y q z
    have r:v≠u:=λe=>by rw[e,m] at b;cases b
    have B:(s.push u).looked.getD v 0=s.looked.getD v 0:=by
     show(s.looked.set u 0).getD v 0=_;rw[TY (by rw[h.ln];exact c),if_neg r]
    have E:(s.look v).push u=(s.push u).look v:=by
     show DmS.mk .. =DmS.mk ..
     congr 1
     show(s.looked.set v _).set u 0=(s.looked.set u 0).set v ((s.push u).looked.getD v 0+1);rw[B];exact List.set_comm _ _ r
    have F:(s.push u).num.getD u 0=4294967294:=by
     show(s.num.set u 4294967294).getD u 0=_;rw[TY (by rw[h.nn];exact c),if_pos O]
    have H:(s.push u).num.getD v 0=4294967294:=by
     show(s.num.set u 4294967294).getD v 0=_;rw[TY (by rw[h.nn];exact c),if_neg r];exact b
    rw[E];refine⟨I.look hg l H (by rw[B];exact y) (by rw[F];decide),?_⟩
    have:=zcH (n:=g.length) (f:=λx=>if s.num.getD x 0=4294967295 then 0 else s.looked.getD x 0) (f':=λx=>if((s.push u).look v).num.getD x 0=4294967295 then 0 else((s.push u).look v).looked.getD x 0) (w:=v) (d:=1) l (λx C=>by
     show(if(s.num.set u 4294967294).getD x 0=4294967295 then 0 else((s.looked.set u 0).set v _).getD x 0)=if s.num.getD x 0=4294967295 then 0 else s.looked.getD x 0;rw[TY (by rw[h.nn];exact c),TY (by rw[y0w,h.ln];exact l),if_neg C,TY (by rw[h.ln];exact c)];by_cases e:x=u
     ·rw[if_pos e,if_pos e,e,m];rfl
     ·rw[if_neg e,if_neg e]) (by
     show(if(s.num.set u 4294967294).getD v 0=4294967295 then 0 else((s.looked.set u 0).set v ((s.push u).looked.getD v 0+1)).getD v 0)=(if s.num.getD v 0=4294967295 then 0 else s.looked.getD v 0)+1
     rw[TY (by rw[h.nn];exact c),TY (by rw[y0w,h.ln];exact l),if_pos O,B,if_neg r,b];rfl)
    show s.fin+((List.range g.length).map (λx=>if((s.push u).look v).num.getD x 0=4294967295 then 0 else((s.push u).look v).looked.getD x 0)).sum=s.fin+_+1;rw[this];omega
   ·rename_i m
    refine⟨h.look hg l b y m,?_⟩
    generalize s.Wv.getD (s.Sj-1) 0=v at l b y q
    have:=zcH (n:=g.length) (f:=λx=>if s.num.getD x 0=4294967295 then 0 else s.looked.getD x 0) (f':=λx=>if(s.look v).num.getD x 0=4294967295 then 0 else(s.look v).looked.getD x 0) (w:=v) (d:=1) l (λx C=>by
     show(if s.num.getD x 0=4294967295 then 0 else(s.looked.set v _).getD x 0)=if s.num.getD x 0=4294967295 then 0 else s.looked.getD x 0
     rw[TY (by rw[h.ln];exact l),if_neg C]) (by
     show(if s.num.getD v 0=4294967295 then 0 else(s.looked.set v _).getD v 0)=(if s.num.getD v 0=4294967295 then 0 else s.looked.getD v 0)+1
     rw[TY (by rw[h.ln];exact l),if_pos O,b];rfl)
    show s.fin+((List.range g.length).map (λx=>if(s.look v).num.getD x 0=4294967295 then 0 else(s.look v).looked.getD x 0)).sum=s.fin+_+1;rw[this];omega
theorem Zb.Tg (hg:Um g):∀(k:Nat) {s:DmS},Zb g root s->Zb g root (s.Tg g k)/\((0<(s.Tg g k).Sj/\z1N g.length (s.Tg g k)=z1N g.length s+k)\/((s.Tg g k).Sj=0/\z1N g.length (s.Tg g k)<=z1N g.length s+k/\(0<s.Sj->0<k->z1N g.length s<z1N g.length (s.Tg g k))))
 | 0, s, h => by
   refine⟨h,?_⟩;rcases y0D s.Sj with e| e
   ·exact .inr ⟨e,y07 _,λ_ h=>absurd h (Nat.lt_irrefl _)⟩
   ·exact .inl ⟨e,O⟩
 | k + 1, s, h => by
   have l:s.Tg g (k+1)=if 0<s.Sj then(s.move g).Tg g k else s:=rfl;rw[l];split
   ·rename_i d
    obtain⟨m,y⟩:=h.move hg d;obtain⟨n,b⟩:=Zb.Tg hg k m;refine⟨n,?_⟩;rcases b with⟨b,q⟩|⟨b,q,r⟩
    ·exact .inl ⟨b,ω⟩
    ·refine .inr ⟨b,ω,λ_ _=>?_⟩
     have x:∀k,(s.move g).Sj=0->(s.move g).Tg g k=s.move g:=λk c=>by
      cases k with
      |zero=>rfl
      | succ k =>
        show(if 0<(s.move g).Sj then _ else _)=_;rw[if_neg ω]
     rcases y0D k with e| e
     ·subst e;show _<z1N g.length (s.move g);omega
     ·rcases y0D (s.move g).Sj with c|c
      ·rw[x k c];omega
      ·have:=r c e;omega
   ·rename_i d
    exact⟨h,.inr ⟨ω,ω,λe=>absurd e d⟩⟩
theorem Zb.found (h:Zb g root s)(hg:Um g)(hr:root<g.length)(C:s.Sj=0):(∀v,v<g.length->(s.num.getD v 0≠4294967295↔Y0 g root v))/\(∀v,Y0 g root v->s.num.getD v 0<s.fin/\s.ord.getD (s.num.getD v 0) 0=v)/\s.num.getD root 0+1=s.fin:=by
 have B:=hg.n
 have D:=h.fh
 have y:=h.rt.2 C
 have q:∀v,v<g.length->s.num.getD v 0≠4294967295->s.num.getD v 0<s.fin/\s.ord.getD (s.num.getD v 0) 0=v:=λv c e=>by
  rcases h.no v c with l|l|l
  ·exact absurd l e
  ·obtain⟨i,hi,-⟩:=h.op v c l;omega
  ·exact l
 have key:∀v,Y0 g root v->v<g.length/\s.num.getD v 0≠4294967295:=λv c=>by
  induction c with
  |refl=>exact⟨hr,ω⟩
  | @step x b _ hx ih =>
    obtain⟨d,m⟩:=ih;have r:=Vx hg x b hx;refine⟨r,?_⟩;obtain⟨F,-⟩:=q x d m;have H:=h.fn x d F;obtain⟨j,z⟩:=y2q hx;have E:j<(Si g x).length:=(y0p.1 z).1;exact(h.lk x d m).2 j b ω z
 exact⟨λv c=>⟨h.re v c,λe=>(key v e).2⟩,λv c=>q v (key v c).1 (key v c).2,y⟩
theorem Zb.tree (h:Zb g root s)(hg:Um g)(hr:root<g.length)(B:s.Sj=0):∃par,TrF g root (λv=>s.num.getD v 0) par:=by
 have y:=hg.n
 have C:=h.fh
 obtain⟨I,l,J⟩:=h.found hg hr B
 have D:∀v,∃p,Y0 g root v->v≠root->Y0 g root p/\v∈Si g p/\s.num.getD v 0<s.num.getD p 0:=λv=>by
  by_cases b:Y0 g root v/\v≠root
  ·have r:=b.1.lt hg hr;obtain⟨p,z,F,m⟩:=h.pr v r (l v b.1).1 b.2;refine⟨p,λ_ _=>?_⟩;rcases m with m|⟨m,H⟩
   ·obtain⟨i,hi,-⟩:=h.op p z m;omega
   ·exact⟨h.re p z ω,F,H⟩
  ·exact⟨0,λd q=>absurd ⟨d,q⟩ b⟩
 obtain⟨par,c⟩:=Classical.skolem.1 D
 refine⟨par,⟨⟨.refl,λv b=>?_,λu v E b e=>?_,λv b=>?_⟩,λv b x=>c v b x⟩⟩
 ·have:=(l v b).1;show s.num.getD v 0<=s.num.getD root 0;omega
 ·have d:=(l u E).2;have q:=(l v b).2;have e:s.num.getD u 0=s.num.getD v 0:=e;rw[e] at d;rw[<-d,q]
 ·have:=b.lt hg hr;show v≠4294967295;omega
theorem Zb.total (h:Zb g root s)(hg:Um g):z1N g.length s<=g.length+g.length*g.length:=by
 have d:=h.fh
 have l:((List.range g.length).map λv=>if s.num.getD v 0=4294967295 then 0 else s.looked.getD v 0).sum<=g.length*g.length:=by
  refine y0d (zkk (f':=λ_=>g.length) λv c=>?_) (by rw[zeg];exact y07 _);split
  ·exact y02 _
  ·rename_i e
   refine y0d (h.lk v c e).1 ?_;have b:g[v]? =some (Si g v):=by unfold Si;rw[y04 c];rfl
   exact hg.len (y0i b)
 unfold z1N
 omega
end
abbrev VO (l:List Nat)(v:Nat):Nat:=l.getD v 4294967295
abbrev nF (l:List Nat)(v:Nat):Nat:=l.getD v 0
def meS (n:Nat)(num cand:List Nat)(c p:Nat):Nat:=if VO cand p=4294967295 then c else if c=4294967295 then p else(meetF (nF num) (VO cand) (2*n) c p).getD 0
def dsC (t:List (List Nat))(n:Nat)(num cand:List Nat)(v:Nat):Nat:=(Si t v).foldl (meS n num cand) 4294967295
def dsV (t:List (List Nat))(n:Nat)(num ord:List Nat)(a:List Nat×Bool)(k:Nat):List Nat×Bool:=if VO a.1 (ord.getD k 0)=dsC t n num a.1 (ord.getD k 0) then a else(a.1.set (ord.getD k 0) (dsC t n num a.1 (ord.getD k 0)),true)
def Z8 (t:List (List Nat))(n:Nat)(num ord:List Nat):Nat->List Nat×Bool->List Nat×Bool
 |0,a=>a
 |k+1,a=>Z8 t n num ord k (dsV t n num ord a k)
theorem zcF {l:List Nat}{w c:Nat}(h:w<l.length):VO (l.set w c)=Xi (VO l) w c:=by
 funext v
 unfold Xi VO
 rw[y0C,y0C]
 by_cases e:v=w
 ·subst e;rw[y0X h,if_pos O];rfl
 ·rw[y0M (Ne.symm e),if_neg e]
section
variable {n w:Nat}{num:List Nat}
def FdI (root:Nat)(f:Nat->Nat)(c:Nat)(A:Nat->Prop):Prop:=(c=4294967295/\∀p,A p->f p=4294967295)\/(f c≠4294967295/\(∃p,A p/\f p≠4294967295)/\∀x,Ch f root c x↔∀p,A p->f p≠4294967295->Ch f root p x)
def FdI.one (v:TrF g root (nF num) par)(u:DsI g root (nF num) par (VO cand))(B:nF num root<n){c:Nat}(h:FdI root (VO cand) c A):FdI root (VO cand) (meS n num cand c p) (λq=>A q\/q=p):=by
 unfold meS
 by_cases l:VO cand p=4294967295
 ·rw[if_pos l];rcases h with⟨r,s⟩|⟨r,⟨q,s,z⟩,y⟩
  ·exact .inl ⟨r,λq e=>e.elim (s q) λe=>e▸l⟩
  ·refine .inr ⟨r,⟨q,.inl s,z⟩,λx=>(y x).trans ⟨λe q b m=>b.elim (λb=>e q b m) λb=>absurd l (b▸m),λe q b m=>e q (.inl b) m⟩⟩
 ·rw[if_neg l];rcases h with⟨r,s⟩|⟨r,⟨q,s,z⟩,y⟩
  ·rw[if_pos r];refine .inr ⟨l,⟨p,.inr O,l⟩,λx=>⟨λe q b m=>b.elim (λb=>absurd (s q b) m) λb=>b▸e,λe=>e p (.inr O) l⟩⟩
  ·rw[if_neg (v.n.no c (u.fo.in_ c r))];have t1:=v.n.top c (u.fo.in_ c r);have t2:=v.n.top p (u.fo.in_ p l);obtain⟨d,d1,d2,d3⟩:=z1A v.n u.fo (2*n) c p r l ω;rw[d1];refine .inr ⟨d2,⟨p,.inr O,l⟩,λx=>(d3 x).trans ?_⟩;rw[y x];exact⟨λe q b m=>b.elim (λb=>e.1 q b m) λb=>b▸e.2,λe=>⟨λq b m=>e q (.inl b) m,e p (.inr O) l⟩⟩
theorem FdI.all (l:TrF g root (nF num) par)(d:DsI g root (nF num) par (VO cand))(m:nF num root<n):∀{ps:List Nat} {c:Nat} {A:Nat->Prop},FdI root (VO cand) c A->FdI root (VO cand) (ps.foldl (meS n num cand) c) (λq=>A q\/q∈ps)
 | [], c, A, h => by
   have e:(λq=>A q\/q∈([]:List Nat))=A:=by funext q;simp
   rw[e];exact h
 | p :: ps, c, A, h => by
   have b:=FdI.all l d m (ps:=ps) (FdI.one l d m (p:=p) h)
   have e:(λq=>(A q\/q=p)\/q∈ps)=λq=>A q\/q∈p::ps:=by
    funext q
    rw[y0m,or_assoc]
   rw[e] at b;exact b
theorem z7X (q:TrF g root (nF num) par)(m:DsI g root (nF num) par (VO cand))(y:nF num root<n)(ht:∀u v,u∈Si t v↔v∈Si g u)(D:Y0 g root w)(d:w≠root)(z:VO cand (par w)≠4294967295):
  VO cand (dsC t n num cand w)≠4294967295/\∀x,Ch (VO cand) root (dsC t n num cand w) x↔∀p,Y0 g root p->w∈Si g p->VO cand p≠4294967295->Ch (VO cand) root p x:=by
 have h:=FdI.all q m y (ps:=Si t w) (c:=4294967295) (A:=λ_=>False) (.inl ⟨O,λ_ e=>e.elim⟩)
 obtain⟨F,E,H⟩:=q.par w D d
 rcases h with⟨l,r⟩|⟨l,-,s⟩
 ·exact absurd (r (par w) (.inr ((ht _ _).2 E))) z
 ·refine⟨l,λx=>(s x).trans ⟨λe p _ C b=>e p (.inr ((ht _ _).2 C)) b,λe p B b=>e p (m.fo.in_ p b) ((ht _ _).1 (B.resolve_left id)) b⟩⟩
structure Fnd (g:List (List Nat))(root:Nat)(num ord:List Nat)(fin:Nat):Prop where
 r:∀v,v<g.length->(nF num v≠4294967295↔Y0 g root v)
 o:∀v,Y0 g root v->nF num v<fin/\ord.getD (nF num v) 0=v
 d:∀i,i<fin->Y0 g root (ord.getD i 0)/\nF num (ord.getD i 0)=i
 t:nF num root+1=fin
 f:fin<=g.length
structure DwI (g:List (List Nat))(root:Nat)(num:List Nat)(par:Nat->Nat)(cand:List Nat)(j:Nat):Prop where
 n:cand.length=g.length
 i:DsI g root (nF num) par (VO cand)
 p:Pj g root (VO cand) j
 c:j=0\/∀v,Y0 g root v->VO cand v≠4294967295
structure DwK (g:List (List Nat))(root:Nat)(num:List Nat)(par:Nat->Nat)(cand:List Nat)(j k:Nat):Prop where
 n:cand.length=g.length
 k:DsK g root (nF num) par j k (VO cand)
 c:j=0\/∀v,Y0 g root v->VO cand v≠4294967295
theorem DwK.one {fin:Nat}{b:Bool}(hg:Um g)(s:TrF g root (nF num) par)(r:Fnd g root num ord fin)(ht:∀u v,u∈Si t v↔v∈Si g u)(E:k+1<fin)(h:DwK g root num par cand j (k+1))(hr:root<g.length):DwK g root num par (dsV t g.length num ord (cand,b) k).1 j k/\((dsV t g.length num ord (cand,b) k).2=false->b=false/\(dsV t g.length num ord (cand,b) k).1=cand)/\(VO (dsV t g.length num ord (cand,b) k).1=Xi (VO cand) (ord.getD k 0) (dsC t g.length num cand (ord.getD k 0))):=by
 obtain⟨d1,d2⟩:=r.d k ω
 have B:=r.t
 have z:=r.f
 have q:ord.getD k 0≠root:=λe=>by rw[e] at d2;omega
 obtain⟨D,F,H⟩:=s.par _ d1 q
 have C:=(h.k.did (par (ord.getD k 0)) D ω).1
 obtain⟨c1,c2⟩:=z7X (n:=g.length) (t:=t) s h.k.i ω ht d1 q C
 obtain⟨n1,n2⟩:=h.k.next s h.c d1 d2 ω c1 c2
 have x:=d1.lt hg hr
 have y:ord.getD k 0<cand.length:=by rw[h.n];exact x
 have m:=zcF (l:=cand) (c:=dsC t g.length num cand (ord.getD k 0)) y
 unfold dsV
 dsimp only
 by_cases e:VO cand (ord.getD k 0)=dsC t g.length num cand (ord.getD k 0)
 ·rw[if_pos e];rw[<-e,zeH] at n1 n2⊢;exact⟨⟨h.n,n1,n2⟩,λe=>⟨e,O⟩,O⟩
 ·rw[if_neg e];rw[<-m] at n1 n2;exact⟨⟨by show(cand.set _ _).length=_;rw[y0w];exact h.n,n1,n2⟩,(λe=>by cases e),m⟩
theorem DwK.run {fin j:Nat}(hg:Um g)(d:TrF g root (nF num) par)(c:Fnd g root num ord fin)(ht:∀u v,u∈Si t v↔v∈Si g u)(hr:root<g.length):∀(k:Nat) {cand:List Nat} {b:Bool},k<fin->DwK g root num par cand j k->DwK g root num par (Z8 t g.length num ord k (cand,b)).1 j 0/\((Z8 t g.length num ord k (cand,b)).2=false->b=false/\(Z8 t g.length num ord k (cand,b)).1=cand)
 |0,cand,b,_,h=>⟨h,λe=>⟨e,rfl⟩⟩
 | k + 1, cand, b, hk, h => by
   obtain⟨l,m,-⟩:=DwK.one (b:=b) hg d c ht hk h hr;obtain⟨q,r⟩:=DwK.run hg d c ht hr k (cand:=(dsV t g.length num ord (cand,b) k).1) (b:=(dsV t g.length num ord (cand,b) k).2) ω l;have e:Z8 t g.length num ord (k+1) (cand,b)=Z8 t g.length num ord k ((dsV t g.length num ord (cand,b) k).1,(dsV t g.length num ord (cand,b) k).2):=rfl;rw[e];refine⟨q,λe=>?_⟩;obtain⟨s,x⟩:=r e;obtain⟨y,z⟩:=m s;exact⟨y,x.trans z⟩
theorem DwI.zeX {fin:Nat}(hg:Um g)(q:TrF g root (nF num) par)(m:Fnd g root num ord fin)(ht:∀u v,u∈Si t v↔v∈Si g u)(hr:root<g.length)(h:DwI g root num par cand j):DwI g root num par (Z8 t g.length num ord (fin-1) (cand,false)).1 (j+1)/\(∀v,Y0 g root v->VO (Z8 t g.length num ord (fin-1) (cand,false)).1 v≠4294967295)/\((Z8 t g.length num ord (fin-1) (cand,false)).2=false->(Z8 t g.length num ord (fin-1) (cand,false)).1=cand):=by
 have y:=m.t
 have r:DwK g root num par cand j (fin-1):=⟨h.n,by
  have:=DsK.begin q h.i h.p;rw[show fin-1=nF num root by omega]
  exact this,h.c⟩
 obtain⟨d,s⟩:=DwK.run (b:=false) hg q m ht hr (fin-1) ω r
 obtain⟨x,l⟩:=d.k.fin
 exact⟨⟨d.n,d.k.i,x,.inr l⟩,l,λe=>(s e).2⟩
theorem DwI.dom {fin:Nat}(hg:Um g)(m:TrF g root (nF num) par)(l:Fnd g root num ord fin)(ht:∀u v,u∈Si t v↔v∈Si g u)(hr:root<g.length)(h:DwI g root num par cand j)(d:(Z8 t g.length num ord (fin-1) (cand,false)).2=false):z7v g root (nF num) par (VO cand):=by
 have key:∀i,DwI g root num par cand (j+i):=λi=>by
  induction i with
  |zero=>exact h
  | succ i r =>
    obtain⟨e,b,c⟩:=r.zeX hg m l ht hr;rw[c d] at e;exact e
 obtain⟨-,b,c⟩:=h.zeX hg m l ht hr
 rw[c d] at b
 exact⟨h.i,b,λi v x q hi=>(key i).p v x q ω⟩
theorem DwI.same {fin:Nat}(hg:Um g)(m:TrF g root (nF num) par)(l:Fnd g root num ord fin)(ht:∀u v,u∈Si t v↔v∈Si g u)(hr:root<g.length)(h:DwI g root num par cand j)(q:z7v g root (nF num) par (VO cand)):(Z8 t g.length num ord (fin-1) (cand,false)).2=false:=by
 have s:=l.t
 have key:∀k,k<fin->Z8 t g.length num ord k (cand,false)=(cand,false):=λk=>by
  induction k with
  |zero=>exact λ_=>rfl
  | succ k x =>
    intro z;obtain⟨d1,d2⟩:=l.d k ω;have b:ord.getD k 0≠root:=λe=>by rw[e] at d2;omega
    obtain⟨y,-,-⟩:=m.par _ d1 b;have r:=l.f;obtain⟨c1,c2⟩:=z7X (n:=g.length) (t:=t) m h.i ω ht d1 b (q.c _ y);have e:=q.zk0 m d1 b c1 c2;show Z8 t g.length num ord k (dsV t g.length num ord (cand,false) k)=_;unfold dsV;rw[if_pos e];exact x ω
 rw[key (fin-1) ω]
/-! ### Short ways -/
def InS (g:List (List Nat))(root x i v:Nat):Prop:=∃b,b<=i/\Av g root x b v
def InS.stop {x:Nat}(h:∀v,InS g root x (i+1) v->InS g root x i v):∀{m v:Nat},Av g root x m v->InS g root x i v:=by
 intro m v l
 induction l with
 |zero b=>exact⟨0,y02 _,.zero b⟩
 | step _ e b r =>
   obtain⟨q,d,c⟩:=r;exact h _ ⟨q+1,ω,.step c e b⟩
theorem Av.short (hg:Um g)(hr:root<g.length){x m v:Nat}(h:Av g root x m v):InS g root x g.length v:=by
 by_cases r:∃i,i<=g.length/\∀v,InS g root x (i+1) v->InS g root x i v
 ·obtain⟨i,hi,y⟩:=r;obtain⟨c,d,b⟩:=InS.stop y h;exact⟨c,ω,b⟩
 ·have key:∀i,i<=g.length+1->i<=Z5 g.length (InS g root x i):=λi=>by
   induction i with
   |zero=>exact λ_=>y02 _
   | succ i B =>
     intro hi;have u:=B ω;have q:¬∀v,InS g root x (i+1) v->InS g root x i v:=λe=>r ⟨i,ω,e⟩;obtain⟨v,z⟩:=Classical.not_forall.1 q;obtain⟨s,C⟩:=Classical.not_imp.1 z
     have l:v<g.length:=by
      obtain⟨c,-,b⟩:=s;exact b.rch.lt hg hr
     have:=z2d (n:=g.length) (P:=InS g root x i) (Q:=InS g root x (i+1)) (λv _ ⟨c,d,b⟩=>⟨c,ω,b⟩) l C s;omega
  have u:=key (g.length+1) (y07 _);have q:=z4F (n:=g.length) (P:=InS g root x (g.length+1));omega
theorem DwI.late (hg:Um g)(hr:root<g.length)(h:DwI g root num par cand j)(r:g.length<=j)(e:∀v,Y0 g root v->VO cand v≠4294967295):z7v g root (nF num) par (VO cand):=
 ⟨h.i,e,λ_ v x _ _ d m c=>by
  obtain⟨q,l,b⟩:=d.short hg hr
  exact h.p v x q ω b m c⟩
end
def DmS.step (g t:List (List Nat))(root:Nat)(s:DmS):DmS:=
 if s.T5 then {s with cand:=(Z8 t g.length s.num s.ord (s.fin-1) (s.cand,false)).1,done:= !(Z8 t g.length s.num s.ord (s.fin-1) (s.cand,false)).2,steps:=s.steps+1}
 else if(s.Tg g 64).Sj=0 then {s.Tg g 64 with T5:=true,cand:=(s.Tg g 64).cand.set root root,steps:=s.steps+1}
 else {s.Tg g 64 with steps:=s.steps+1}
def z6G (g:List (List Nat))(num:List Nat):Nat:=((List.range g.length).map λv=>if nF num v=4294967295 then 0 else 1+(Si g v).length).sum
section
variable {n:Nat}{num:List Nat}{s:DmS}
def WS:∀(k:Nat) {s:DmS},(s.Tg g k).steps=s.steps/\(s.Tg g k).T5=s.T5/\(s.Tg g k).done=s.done
 |0,s=>⟨rfl,rfl,rfl⟩
 | k + 1, s => by
   have b:s.Tg g (k+1)=if 0<s.Sj then(s.move g).Tg g k else s:=rfl;rw[b];split
   ·obtain⟨c,d,e⟩:=WS k (s:=s.move g);rw[c,d,e];unfold DmS.move;split
    ·exact⟨O,O,O⟩
    ·split<;>exact⟨O,O,O⟩
   ·exact⟨O,O,O⟩
theorem sum_add {f h:Nat->Nat}:∀n,((List.range n).map λv=>f v+h v).sum=((List.range n).map f).sum+((List.range n).map h).sum
 |0=>rfl
 | n + 1 => by
   rw[y0T,y0f,y0f,y0f,y15,y15,y15,sum_add n];simp only[y0o,y1y,y0L,y1E];omega
theorem zbX {p:Nat->Bool}:∀n,((List.range n).map λv=>if p v then 1 else 0).sum=(List.range n).countP p
 |0=>rfl
 | n + 1 => by
   rw[y0T,y0f,y15,zbX n,y2Q,y2C];simp only[y0o,y1y,y0L,y1E];omega
theorem Zb.ended (h:Zb g root s)(hg:Um g)(hr:root<g.length)(J:s.Sj=0):Fnd g root s.num s.ord s.fin/\z1N g.length s=z6G g s.num:=by
 obtain⟨c,d,M⟩:=h.found hg hr J
 have R:=h.fh
 have H:=hg.n
 have N:∀i,i<s.fin->Y0 g root (s.ord.getD i 0)/\nF s.num (s.ord.getD i 0)=i:=λi hi=>by
  obtain⟨W,Y⟩:=h.od i hi;exact⟨(c _ W).1 ω,Y⟩
 refine⟨⟨c,d,N,M,ω⟩,?_⟩
 have C:=h.ct
 have l:Z5 g.length (λv=>s.num.getD v 0≠4294967295)=(List.range g.length).countP λv=>decide (s.num.getD v 0≠4294967295):=by
  unfold Z5
  congr 1
  funext v
  exact decide_eq_decide.2 y0U
 have U:(List.range g.length).countP (λv=>decide (s.num.getD v 0≠4294967295))<=s.fin:=by
  rw[y3L];have S:((List.range g.length).filter λv=>decide (s.num.getD v 0≠4294967295)).length=(((List.range g.length).filter λv=>decide (s.num.getD v 0≠4294967295)).map λv=>s.num.getD v 0).length:=(y0h ..).symm;rw[S,z1C (n:=s.fin)]
  ·refine y0d List.countP_le_length ?_;rw[y16];exact y07 _
  ·rw[List.nodup_iff_pairwise_ne,List.pairwise_map];refine List.Pairwise.imp_of_mem ?_<|List.Pairwise.filter _ List.nodup_range;intro a b E F z e;have y:=of_decide_eq_true (y1r.1 E).2;have B:=of_decide_eq_true (y1r.1 F).2;have ra:=(c a (y0R.1 (y1r.1 E).1)).1 y;have rb:=(c b (y0R.1 (y1r.1 F).1)).1 B;have r:=(d a ra).2;have I:=(d b rb).2;have e:s.num.getD a 0=s.num.getD b 0:=e;rw[e] at r;exact z (r.symm.trans I)
  ·intro x V;obtain⟨v,u,rfl⟩:=y0k.1 V;have D:=of_decide_eq_true (y1r.1 u).2;exact(d v ((c v (y0R.1 (y1r.1 u).1)).1 D)).1
 have m:s.fin=(List.range g.length).countP λv=>decide (s.num.getD v 0≠4294967295):=by
  rw[l] at C;omega
 unfold z1N z6G
 have r:((List.range g.length).map λv=>if nF s.num v=4294967295 then 0 else 1+(Si g v).length)=(List.range g.length).map λv=>(if decide (s.num.getD v 0≠4294967295)=true then 1 else 0)+(if s.num.getD v 0=4294967295 then 0 else s.looked.getD v 0):=by
  refine y0O λv u=>?_;by_cases e:s.num.getD v 0=4294967295
  ·rw[if_pos e,if_pos e,decide_eq_false (λh=>h e)];rfl
  ·have q:=y0R.1 u;rw[if_neg e,if_neg e,decide_eq_true e,if_pos O,h.fn v q (d v ((c v q).1 e)).1]
 rw[r,sum_add,zbX,<-m]
structure DmJ (g:List (List Nat))(root:Nat)(s:DmS):Prop where
 se:s.T5=false->s.done=false/\Zb g root s/\0<s.Sj/\z1N g.length s=64*s.steps
 sw:s.T5=true->∃(par:Nat->Nat)(j:Nat),TrF g root (nF s.num) par/\Fnd g root s.num s.ord s.fin/\s.steps=(z6G g s.num+63) / 64+j/\1<=z6G g s.num/\z6G g s.num<=g.length+g.length*g.length/\DwI g root s.num par s.cand j/\(1<=j->∀v,Y0 g root v->VO s.cand v≠4294967295)/\(s.done=false->j<=g.length)/\(s.done=true->1<=j/\j<=g.length+1/\z7v g root (nF s.num) par (VO s.cand))/\s.Sj=0
 ls:s.num.length=g.length/\s.looked.length=g.length/\s.cand.length=g.length/\s.Wv.length=g.length/\s.ord.length=g.length
theorem DmJ.new (hg:Um g)(hr:root<g.length):DmJ g root (DmS.new g.length root):=by
 have h:=Zb.new hg hr
 refine⟨λ_=>⟨O,h,Nat.zero_lt_one,?_⟩,(λe=>by cases e),h.nn,h.ln,by rw[h.cn];exact y0b,h.sn,h.on⟩
 have key:∀n,((List.range n).map λv=>if(DmS.new g.length root).num.getD v 0=4294967295 then 0 else(DmS.new g.length root).looked.getD v 0).sum=0:=λn=>by
  induction n with
  |zero=>rfl
  | succ n b =>
    rw[y0T,y0f,y15,b];simp only[y0o,y1y,y0L,y1E,y0g,y1b];split
    ·rfl
    ·show((List.replicate g.length 0).set root 0).getD n 0=0;rw[y0C,List.getElem?_set];split
     ·split<;>rfl
     ·rw[y0Z];split<;>rfl
 show 0+_=0
 rw[key]
theorem zhK (hg:Um g)(hr:root<g.length)(z:TrF g root (nF num) par):DwI g root num par ((List.replicate g.length 4294967295).set root root) 0:=by
 have l:=hg.n
 have c:∀v,VO ((List.replicate g.length 4294967295).set root root) v=if v=root then root else 4294967295:=λv=>by
  rw[zcF (by rw[y0b];exact hr)];unfold Xi;split
  ·rfl
  ·show(List.replicate g.length 4294967295).getD v 4294967295=4294967295;rw[y0C,y0Z];split<;>rfl
 have u:VO ((List.replicate g.length 4294967295).set root root)=λv=>if v=root then root else 4294967295:=funext c
 have b:∀v,VO ((List.replicate g.length 4294967295).set root root) v≠4294967295->v=root:=λv h=>by
  rw[c] at h;by_cases e:v=root
  ·exact e
  ·rw[if_neg e] at h;exact absurd O h
 refine⟨by rw[y0w,y0b],⟨⟨by rw[c,if_pos O],λv m q=>absurd (b v m) q,λv h=>by rw[b v h];exact .refl⟩,λv x h d=>?_,λv x h y=>?_⟩,λv x i hi r h d=>?_,.inl O⟩
 ·obtain rfl:=b v h;rw[d.at_root];exact .refl _
 ·obtain rfl:=b v h;by_cases e:v=x
  ·rw[e];exact .refl _
  ·exact absurd (.zero e) (y.2 0)
 ·obtain rfl:=b v h;exact r.ne d.at_root.symm
theorem DmJ.step (hg:Um g)(hr:root<g.length)(ht:∀u v,u∈Si t v↔v∈Si g u)(h:DmJ g root s)(x:s.done=false):DmJ g root (s.step g t root):=by
 unfold DmS.step
 cases C:s.T5 with
 | true =>
   obtain⟨par,j,c,l,o,J,M,m,R,E,p,N⟩:=h.sw C;obtain⟨H,Z,a⟩:=m.zeX hg c l ht hr;rw[if_pos O];refine⟨(λe=>by cases e),λ_=>⟨par,j+1,c,l,by show s.steps+1=(z6G g s.num+63) / 64+(j+1);omega,J,M,H,λ_=>Z,λe=>?_,λe=>?_,N⟩,h.ls.1,h.ls.2.1,H.n,h.ls.2.2.2⟩
   ·have U:=E x;rcases y0a j g.length with r|z
    ·exact r
    ·exfalso;have B:1<=j:=ω
     have y:=m.late hg hr z (R B);have:=m.same hg c l ht hr y;have e:(!(Z8 t g.length s.num s.ord (s.fin-1) (s.cand,false)).2)=false:=e;rw[this] at e;cases e
   ·have e:(!(Z8 t g.length s.num s.ord (s.fin-1) (s.cand,false)).2)=true:=e;have D:(Z8 t g.length s.num s.ord (s.fin-1) (s.cand,false)).2=false:=by simpa using e
    have y:=m.dom hg c l ht hr D;have U:=E x;refine⟨ω,ω,?_⟩;show z7v g root (nF s.num) par (VO (Z8 t g.length s.num s.ord (s.fin-1) (s.cand,false)).1)
    rw[a D];exact y
 | false =>
   obtain⟨-,m,S,F⟩:=h.se C;obtain⟨b,V⟩:=m.Tg hg 64;obtain⟨A,f,I⟩:=WS (g:=g) 64 (s:=s);rw[if_neg ψ];rcases V with⟨q,i⟩|⟨q,i,k⟩
   ·rw[if_neg ω];refine⟨λ_=>⟨by show(s.Tg g 64).done=false;rw[I];exact x,⟨b.nn,b.ln,b.cn,b.sn,b.on,b.st,b.inj,b.op,b.od,b.no,b.rt,b.re,b.ed,b.lk,b.fn,b.pr,b.ct⟩,q,?_⟩,λe=>?_,b.nn,b.ln,by show(s.Tg g 64).cand.length=_;rw[b.cn];exact y0b,b.sn,b.on⟩
    ·show z1N g.length (s.Tg g 64)=64*(s.steps+1);omega
    ·have e:(s.Tg g 64).T5=true:=e;rw[f,C] at e;cases e
   ·rw[if_pos q];obtain⟨l,W⟩:=b.ended hg hr q;obtain⟨par,c⟩:=b.tree hg hr q;have r:=k S ψ;have Y:=b.total hg;have d:=zhK (num:=(s.Tg g 64).num) hg hr c;rw[<-b.cn] at d;refine⟨(λe=>by cases e),λ_=>⟨par,0,c,l,?_,(by show 1<=z6G g (s.Tg g 64).num;omega),(by show z6G g (s.Tg g 64).num<=_;omega),d,λe=>absurd e ψ,λ_=>y02 _,λe=>?_,q⟩,b.nn,b.ln,d.n,b.sn,b.on⟩
    ·show s.steps+1=(z6G g (s.Tg g 64).num+63) / 64+0;omega
    ·have e:(s.Tg g 64).done=true:=e;rw[I,x] at e;cases e
theorem za0:(s.step g t root).steps=s.steps+1:=by
 unfold DmS.step
 split
 ·rfl
 ·split<;>rfl
end
section
end
theorem z80 {P:Program}{ρ:Operand->Value}{c:Call}(h:o.op= .call c)(e:c.callee= .builtin .recover)(d:c.args.toList=[]):(execOp ρ o).run P w= .ok .recover w:=by
 obtain⟨b,args,l⟩:=c
 simp only at e d
 subst e
 have:args=#[]:=y32.1 d
 subst this
 simp[execOp,h,go_sem]
theorem z2B {P:Program}{f:FuncId}{fn:Func}{id:Nat}{ops:Array Oper}{c2:Code}{args:List Value}{e:Env}{S:Value->World->Prop}{n d:Nat}{rest:List Oper}{c:Call}
  (T:P.funcs[f]? =some fn) (G:fn.body=some (.seq (.region id ops false) c2)) (Y:fn.ntmps=n) (hn:Nat.ble args.length n=true) (Q:envOf 0 args=e)
  (m:ops.toList=o::rest) (hg:o.guard=none) (g:o.op= .call c) (C:c.callee= .builtin .recover) (R:c.args.toList=[]) (D:o.dst=some d) (L:Nat.blt d n=true) (ho:Vm n ops.toList=true)
  (h:RL ⟨⟨P,f,S,n,none,[],true⟩,ops.toList,[.code c2],ho⟩ rest ((d,.nilIface)::e) w):zby P f args w S:=by
 subst Y
 refine⟨trivial,λc0 cs hm _=>?_⟩
 let b:Frame:={(default:Frame) with fn:=f,kind:= .deferred,roundOf:=none}
 have a0:args.length<=fn.ntmps:=by simpa using hn
 let a:Act:={tmps:=args.toArray++Array.replicate (fn.ntmps-args.toArray.size) undef,defers:=[]}
 have r:Frame.enter P f args.toArray .deferred=b.atR a [.code (.seq (.region id ops false) c2)]:=by
  simp[Frame.enter,Frame.atR,T,G,b,a]
 have Z:EOk fn.ntmps [] e a:=by
  refine⟨by simp[a];omega,rfl,λi v hi=>?_⟩;subst Q;obtain⟨-,N⟩:=z0O args 0 i v hi;simp at N
  have H:i<args.length:=by
   rcases y0a i args.length with h| h
   ·exact h
   ·simp[y0n h] at N
  have t:args[i]=v:=by simpa[y04 H] using N
  simp only[a,Array.getD];rw[dif_pos (by simp;omega)];simp[H,t]
 have I:=Z.put L .nilIface
 have p:ops[0]? =some o:=by
  rw[<-y3E,m];rfl
 have s:List.range ops.size=0::List.range' 1 rest.length:=by
  have:ops.size=rest.length+1:=by rw[<-y2u,m];rfl
  rw[this,List.range_eq_range',List.range'_succ]
 -- recover
 have F:=stepGR_op (P:=P) (b:=b) (a:=a) (k:=[.code c2]) (cs:=c0::cs) (w:=w) (ops:=ops) (i:=0) (rest:=List.range' 1 rest.length) p (by simp[Region.wanted,hg])
 rw[show b.roundOf=none from rfl,Oper.semAt_none] at F
 have E:(b.atR a (.inRegion ops (0::List.range' 1 rest.length)::[.code c2])).finish .nilIface=b.atR (a.put o.dst .nilIface) (.inRegion ops (List.range' 1 rest.length)::[.code c2]):=by
  rw[Frame.finish_atR,p];rfl
 have M:=tryRecover_deferred (show(b.atR a (.inRegion ops (0::List.range' 1 rest.length)::[.code c2])).kind= .deferred from rfl) (c0::cs)
 have J:recoverD (c0::cs)=none:=by simp[recoverD,hm]
 have y:step P (lone (b.atR a (.inRegion ops (0::List.range' 1 rest.length)::[.code c2])) (c0::cs) w)= .next (lone (b.atR (a.put (some d) .nilIface) (.inRegion ops (List.range' 1 rest.length)::[.code c2])) (c0::cs) w):=by
  refine step_lone_go ?_;rw[<-D,F,<-E];simp only[Frame.atR,show b.roundOf=none from rfl] at M⊢;simp[stepG.apply,z80 g C R,M,J]
 -- the rest
 have hl:=h _ I
 have W:wpOpsIn (WF none) 0 P ops (QK ⟨P,f,S,fn.ntmps,none,[],true⟩ [.code c2]) (List.range' 1 rest.length) (a.put (some d) .nilIface) w:=by
  rw[wpOpsIn_eq_wpListIn rest 1 (λj=>by
   rw[<-y3E,m,y1x];rfl)]
  simpa using hl
 obtain⟨x,a',w',q,B⟩:=wp_opsIn _ _ _ W b [.code c2] (c0::cs) O trivial (zbL _ _)
 have u:z3H P f none true (z1b S) (lone (b.atR (a.put (some d) .nilIface) (.inRegion ops (List.range' 1 rest.length)::[.code c2])) (c0::cs) w) (c0::cs):=by
  cases x with
  |normal=>exact(q b O O O (c0::cs)).of_steps (StepsIn.steps B)
  |outgrown=>exact q.elim
  |exit id=>exact q.elim
  |goto l=>exact q.elim
  |ret=>exact q.elim
  |panic ch=>exact q.elim
 have s1:step P (lone (b.atR a [.code (.seq (.region id ops false) c2)]) (c0::cs) w)= .next (lone (b.atR a (.code (.region id ops false)::[.code c2])) (c0::cs) w):=stepR_seq
 have s2:step P (lone (b.atR a (.code (.region id ops false)::[.code c2])) (c0::cs) w)= .next (lone (b.atR a (.inRegion ops (0::List.range' 1 rest.length)::[.code c2])) (c0::cs) w):=by
  rw[<-s];exact stepR_region
 have z:=u.of_steps (.head s1 (.head s2 (.one y)))
 obtain⟨x,w',fr,A,K,V,X,hg⟩:=z
 have U:({c0 with mode:= .returning}:Frame)=c0:=by cases c0;simp_all
 rw[r]
 exact⟨x,.returning,w',fr,⟨O,A⟩,by rw[U];exact comesIn_wide.2 K,X,V,hg⟩
def DmS.vec (s:DmS):Nat->List Nat
 |0=>s.num
 |1=>s.looked
 |2=>s.cand
 |3=>s.Wv
 |_=>s.ord
def DmS.z7h (s:DmS)(j:Nat)(xs:List Nat):DmS:=match j with
 |0=>{s with num:=xs}
 |1=>{s with looked:=xs}
 |2=>{s with cand:=xs}
 |3=>{s with Wv:=xs}
 |_=>{s with ord:=xs}
theorem zhX {s:DmS}{xs:List Nat}(hi:i<5)(b:j<5):(s.z7h j xs).vec i=if i=j then xs else s.vec i:=by
 obtain rfl|rfl|rfl|rfl|rfl:j=0\/j=1\/j=2\/j=3\/j=4:=ω
 all_goals obtain rfl|rfl|rfl|rfl|rfl:i=0\/i=1\/i=2\/i=3\/i=4:=ω
 all_goals rfl
def dmC (s:DmS)(g t root:Nat)(vb:Nat->Nat):List Value:=[I (s.steps:Int),I (s.fin:Int),I (s.Sj:Int),.bool s.T5,.bool s.done,ptr g 0,ptr t 0,I (root:Int),ptr (vb 0) 0,ptr (vb 1) 0,ptr (vb 2) 0,ptr (vb 3) 0,ptr (vb 4) 0,.bool false,.bool false]
structure DmV (Q:UB)(txt:Int->Sa)(k tk root rr:Nat)(O_:Nat->Prop)(a L:Nat)(s:DmS)(vb:Nat->Nat)(w:World):Prop where
 o:O_ rr/\∀j,j<5->O_ (vb j)
 ne:∀j,j<5->rr≠vb j/\∀i,i<5->i≠j->vb i≠vb j
 run:Sk w rr (dmC s k tk root vb) 103
 vs:∀j,j<5->YJ Q txt (vb j) 4 (a+j) (s.vec j) w/\(s.vec j).length<=100
 L:L=5
theorem Wx {n:Nat}(h:n<=100):vcL n (512 / 4)=1:=by
 unfold vcL
 omega
section
variable {tk:Nat}{s s':DmS}{S:Nat->Prop}
theorem DmV.kp (h:DmV Q txt k tk root rr O_ a L s vb w)(e:Kp S w w')(d:∀b,O_ b->¬S b):DmV Q txt k tk root rr O_ a L s vb w':=
 ⟨h.o,h.ne,e.S4 h.run (d _ h.o.1),λj c=>⟨(h.vs j c).1.kp e (d _ (h.o.2 j c)),(h.vs j c).2⟩,h.L⟩
theorem DmV.z0c (h:DmV Q txt k tk root rr O_ a L s vb w)(e:∀y:Int,(a:Int)<=y->y<(a:Int)+(L:Int)->txt' y=txt y):DmV Q txt' k tk root rr O_ a L s vb w:=by
 have l:=h.L
 refine⟨h.o,h.ne,h.run,λj b=>⟨(h.vs j b).1.z0c λy d c=>?_,(h.vs j b).2⟩,h.L⟩
 rw[Wx (h.vs j b).2] at c
 exact e y ω ω
theorem DmV.q (h:DmV Q txt k tk root rr O_ a L s vb w)(d:Q'.s=Q.s)(c:Q'.L.length=Q.L.length):DmV Q' txt k tk root rr O_ a L s vb w:=
 ⟨h.o,h.ne,h.run,λj b=>⟨(h.vs j b).1.q d c,(h.vs j b).2⟩,h.L⟩
theorem DmV.wr (h:DmV Q txt k tk root rr O_ a L s vb w)(d:j<5)(r:Kp S w w')(q:∀b,O_ b->¬S b)(u:YJ Q txt' (vb j) 4 (a+j) ys w')(l:ys.length=(s.vec j).length)(ht:∀y:Int,y<((a+j:Nat):Int)\/((a+j:Nat):Int)+(vcL ys.length (512 / 4):Int)<=y->txt' y=txt y):DmV Q txt' k tk root rr O_ a L (s.z7h j ys) vb w':=by
 have c:=h.kp r q
 have m:=(h.vs j d).2
 rw[l,Wx m] at ht
 refine⟨h.o,h.ne,?_,λi hi=>?_,h.L⟩
 ·have:dmC (s.z7h j ys) k tk root vb=dmC s k tk root vb:=by
   unfold DmS.z7h;split<;>rfl
  rw[this];exact c.run
 ·rw[zhX hi d];by_cases e:i=j
  ·subst e;rw[if_pos O];exact⟨u,by rw[l];exact m⟩
  ·rw[if_neg e];refine⟨(c.vs i hi).1.z0c λy v n=>ht y ?_,(c.vs i hi).2⟩;rw[Wx (c.vs i hi).2] at n;omega
theorem DmV.put (h:DmV Q txt k tk root rr O_ a L s vb w)(d:Kp (λb=>b=rr) w w')(hr:Sk w' rr (dmC s' k tk root vb) 103)(l:∀j,j<5->s'.vec j=s.vec j):DmV Q txt k tk root rr O_ a L s' vb w':=
 ⟨h.o,h.ne,hr,λj c=>by
  rw[l j c]
  exact⟨(h.vs j c).1.kp d (λe=>(h.ne j c).1 e.symm),(h.vs j c).2⟩,h.L⟩
end
def Xj (tk root:Nat):RuK DmS where
 M Q txt k rr O_ a L s w:=∃vb,DmV Q txt k tk root rr O_ a L s vb w
 tm s:=s.steps
 c0:=0
 c1:=0
 kp:=λ⟨vb,h⟩ c b=>⟨vb,h.kp c b⟩
 z0c:=λ⟨vb,h⟩ e=>⟨vb,h.z0c e⟩
 q:=λ⟨vb,h⟩ l d=>⟨vb,h.q l d⟩
section
variable {s:DmS}
def UL.dm (h:UL (Xj T.k root) G T Q txt K X rr O_ a L s w):∃vb,DmV Q txt G.k T.k root rr O_ a L s vb w:=h.m.m
theorem DmV.cells (h:DmV Q txt G.k T.k root rr O_ a L s vb w):Sk w rr [I (s.steps:Int),I (s.fin:Int),I (s.Sj:Int),.bool s.T5,.bool s.done,ptr G.k 0,ptr T.k 0,I (root:Int),ptr (vb 0) 0,ptr (vb 1) 0,ptr (vb 2) 0,ptr (vb 3) 0,ptr (vb 4) 0,.bool false,.bool false] 103:=h.run
def zmI (b root:Nat):RuK DmS where
 M Q txt k rr O_ a L s w:=∃vb,DmV Q txt b k root rr O_ a L s vb w
 tm s:=s.steps
 c0:=0
 c1:=0
 kp:=λ⟨vb,h⟩ d c=>⟨vb,h.kp d c⟩
 z0c:=λ⟨vb,h⟩ e=>⟨vb,h.z0c e⟩
 q:=λ⟨vb,h⟩ m l=>⟨vb,h.q m l⟩
theorem UL.zbM (h:UL (Xj T.k root) G T Q txt K X rr O_ a L s w)(l:T.g.length<=40):UL (zmI G.k root) T G Q txt K X rr O_ a L s w:=by
 obtain⟨vb,n⟩:=h.dm
 have d:=h.xk
 have e:=h.m.ne
 exact⟨⟨h.t,⟨vb,n⟩,λb c=> .inl (h.xr b c),h.m.ro,λb c=>⟨(h.nk b c).1,(h.nk b c).2,(e b c).2.2.1,(e b c).2.2.2⟩,h.YA,l⟩,h.m.g,h.xr,⟨d.2.2.1,d.2.2.2.1,d.1,d.2.1,d.2.2.2.2.1,d.2.2.2.2.2⟩,λb c=>⟨(e b c).1,(e b c).2.1⟩,h.m.YA⟩
theorem UL.zjh (h:UL (zmI G.k root) T G Q txt K X rr O_ a L s w)(l:G.g.length<=40):UL (Xj T.k root) G T Q txt K X rr O_ a L s w:=by
 obtain⟨vb,n⟩:∃vb,DmV Q txt G.k T.k root rr O_ a L s vb w:=h.m.m
 have d:=h.xk
 have e:=h.m.ne
 exact⟨⟨h.t,⟨vb,n⟩,λb c=> .inl (h.xr b c),h.m.ro,λb c=>⟨(h.nk b c).1,(h.nk b c).2,(e b c).2.2.1,(e b c).2.2.2⟩,h.YA,l⟩,h.m.g,h.xr,⟨d.2.2.1,d.2.2.2.1,d.1,d.2.1,d.2.2.2.2.1,d.2.2.2.2.2⟩,λb c=>⟨(e b c).1,(e b c).2.1⟩,h.m.YA⟩
def UL.z52 (h:UL (Xj T.k root) G T Q txt K X rr O_ a L s w)(c:DmV Q txt G.k T.k root rr O_ a L s vb w)(n:j<5)(z:ys.length=(s.vec j).length)(r:K'<1000000000000)(v:VcW Q txt K' (xRu G T X) (vb j) 4 (a+j) ys w w'):∃txt',UL (Xj T.k root) G T Q txt' K' X rr O_ a L (s.z7h j ys) w'/\DmV Q txt' G.k T.k root rr O_ a L (s.z7h j ys) vb w'/\(∀y:Int,y<(a:Int)\/(a:Int)+(L:Int)<=y->txt' y=txt y)/\Kp (λb=>¬xRu G T X b) w w':=by
 obtain⟨txt',u,B,q,d⟩:=v
 have l:=c.wr n d (λb x e=>e (.inl (.inl (h.xr b x)))) B z q
 have C:=c.L
 have D:=(c.vs j n).2
 have m:∀y:Int,y<(a:Int)\/(a:Int)+(L:Int)<=y->txt' y=txt y:=λy e=>q y (by rw[Wx ω];omega)
 exact⟨txt',h.upd r d (λb e=> .inl e) u m ⟨vb,l⟩,l,m,d⟩
def WE (w:World):SG prog 42 [I 0] w λ_ w'=>w'=w:=by
 refine py (e:=[(0,_)]) func42 O ntmps42 O O<|SE O<|TK O<|Tt O<|Tv func42 O ?_
 exact⟨_,O,O⟩
theorem Vr (h:UL (Xj T.k root) G T Q txt K X rr O_ a L s w):SG prog 45 [ptr rr 0] w λr w'=>r=I 0/\w'=w:=by
 obtain⟨vb,c⟩:=h.dm
 have b:=c.cells
 refine py (e:=[(0,_)]) func45 O ntmps45 O O<|TU O<|TZ<|SE O<|qV (T9 U44 O O)<|Sq O<|S9 O<|SE O<|SC O<|Sn zcw O<|qV (Sc U4 O O b O)<|Sz O<|SC O<|Sn ZR O ?_
 refine qV (Sc U4 O O b O)<|Td O<|Sq O<|VP O<|S2<|TU O<|S3 func45 O ?_
 exact⟨_,O,O,O⟩
def DmV.zf9 (h:DmV Q txt G.k T.k root rr O_ a L s vb w)(b:j<5):w.cell? ⟨rr,0+8+j*1,none⟩=some (ptr (vb j) 0):=by
 rw[h.cells.cell]
 obtain rfl|rfl|rfl|rfl|rfl:j=0\/j=1\/j=2\/j=3\/j=4:=ω
 all_goals rfl
theorem VE (h:UL (Xj T.k root) G T Q txt K X rr O_ a L s w){x:Nat}(d:j<5)(hi:(s.vec j)[i]? =some x):SG prog 115 [ptr rr 0,I (j:Int),I (i:Int)] w λr w'=>r=I (x:Int)/\UL (Xj T.k root) G T Q txt K X rr O_ a L s w'/\Kp (λb=>¬xRu G T X b) w w':=by
 obtain⟨vb,c⟩:=h.dm
 have n:=c.zf9 d
 have u:=((c.vs j d).1.zfZ hi).1
 refine py (e:=[(0,_),(1,_),(2,_)]) func115 O ntmps115 O O<|qN O<|Up O<|Sz O<|SC O<|Sn X5 O<|qV (yia z1c ZZ O O ω)<|qV (SQ z2W O O n)<|Sf O<|Sr zjP O (z5V h.sp h.lt h.m.g.z9z (c.vs j d).1 (.inl (.inl (h.xr _ (c.o.2 j d)))) hi) ?_
 rintro _ w1⟨rfl,q,l⟩
 refine Sf O<|Vk O<|Vj O<|TR O<|Sr zbp O (WE _) ?_
 rintro _ w1 rfl
 refine qM O<|Sf O<|qV (T7 O Va U3 ω)<|Sq O<|S3 func115 O ?_
 exact⟨_,O,O,h.read l q,l⟩
theorem WL (h:UL (Xj T.k root) G T Q txt K X rr O_ a L s w){x:Nat}(z:K<=900000000000)(l:j<5)(hi:i<(s.vec j).length)(B:x<4294967296):SG prog 80 [ptr rr 0,I (j:Int),I (i:Int),I (x:Int)] w λ_ w'=>∃txt',UL (Xj T.k root) G T Q txt' (K+1) X rr O_ a L (s.z7h j ((s.vec j).set i x)) w'/\(∀y:Int,y<(a:Int)\/(a:Int)+(L:Int)<=y->txt' y=txt y)/\Kp (λb=>¬xRu G T X b) w w':=by
 obtain⟨vb,d⟩:=h.dm
 have u:=d.zf9 l
 refine py (e:=[(0,_),(1,_),(2,_),(3,_)]) func80 O ntmps80 O O<|Sg O<|Sz O<|SC O<|Sn X5 O<|qV (yia z1c ZZ O O ω)<|qV (SQ z2W O O u)<|Sz O<|qV (TM O U3 Va ω)<|Sr zmt O (zdk h.sp h.lt h.m.g.z9z (d.vs j l).1 (.inl (.inl (h.xr _ (d.o.2 j l)))) hi (x:=x) (by show x<2^32;omega)) ?_
 rintro _ w1⟨rfl,r⟩
 obtain⟨c,q,-,v,n⟩:=h.z52 d l (y0w ..) ω r
 refine Sr zbp O (WE _) ?_
 rintro _ w1 rfl
 refine S5<|Tv func80 O ?_
 exact⟨_,O,c,q,v,n⟩
end
section
variable {σ:Type}{R:RuK σ}{Y:Nat->Prop}{s s':σ}
theorem z5P {l bk bi v:Nat}(hv:v<G.g.length)(h:UL R G T Q txt K X rr O_ a L s w)(gN:Sk w bk [ptr G.k 0] 28)(uS:Sk w bi [I (v:Int)] 3)(Z:Nat->Prop)(hZ:∀j,Z j->X j)
  (E:Nat->(Int->Sa)->Nat->σ->World->Prop) (F:(Int->Sa)->Nat->σ->World->Prop)
  (h0:∀w',w.heap.size<=w'.heap.size->Kp (λb=>¬X b) w w'->E 0 txt K s w')
  (D:∀(Y:Nat->Prop)(i u:Nat) (txt':Int->Sa) (K':Nat) (s':σ) (w':World),(∀j,X j->Y j)->(∀j,Y j->X j\/w.heap.size<=j)->w.heap.size<=w'.heap.size->(Si G.g v)[i]? =some u->UL R G T Q txt' K' Y rr O_ a L s' w'->E i txt' K' s' w'->z4Y prog l [SV u,I 0] w' λr z=>((r= .bool true/\∃c x y,UL R G T Q c x Y rr O_ a L y z/\E (i+1) c x y z)\/(r= .bool false/\∃c x y,UL R G T Q c x Y rr O_ a L y z/\F c x y z))/\Kp (λj=>(¬Y j/\j≠T.rb)\/Z j) w' z):
  SG prog 152 [.func (.yield l) #[] #[],ptr bk 0,ptr bi 0] w λr w'=>r= .tuple #[]/\∃(Y:Nat->Prop)(txt':Int->Sa) (K':Nat) (s':σ),(∀j,X j->Y j)/\(∀j,Y j->X j\/w.heap.size<=j)/\UL R G T Q txt' K' Y rr O_ a L s' w'/\(E (Si G.g v).length txt' K' s' w'\/F txt' K' s' w'):=by
 have du:=h.m.n
 obtain⟨n1,n2,n3⟩:=h.ng
 have bR:∀b,X b->b<w.heap.size:=λb V=>h.lt b (.inl (.inl V))
 have tE:=h.lt T.rb (.inl (.inr O))
 have p:∀j,X j->j≠T.rb:=λj q e=>n3 (e▸q)
 refine SG.mono (z9V ω hv h.m.g gN uS Z (λj q=> .inl (hZ j q))
  (λS i w'=>w.heap.size<=w'.heap.size/\∃txt' K' s',UL R G T Q txt' K' (λb=>S b/\b≠T.rb) rr O_ a L s' w'/\E i txt' K' s' w')
  (λw'=>∃Y txt' K' s',(∀j,X j->Y j)/\(∀j,Y j->X j\/w.heap.size<=j)/\UL R G T Q txt' K' Y rr O_ a L s' w'/\F txt' K' s' w') ?_ ?_) ?_
 ·intro S o B M IU U
  have J3:Wn G Q txt K (λb=>(S b/\b≠T.rb)\/b=T.rb) o:=IU.iff λb=>by
   by_cases e:b=T.rb
   ·exact⟨λ_=> .inr e,λ_=>B _ (.inr e)⟩
   ·exact⟨λV=> .inl ⟨V,e⟩,λV=>V.elim And.left λC=>absurd C e⟩
  refine⟨U.size,txt,K,s,?_,h0 o U.size (U.Se λb e C=>e (.inl C))⟩;refine h.byG (h.m.list J3 U λj e=>e.elim (λe=> .inl ⟨B _ (.inl e),p j e⟩) .inr) U (λb e=> .inl ⟨λC=>e (.inl C),λC=>e (.inr C)⟩) (λj q=>⟨B _ (.inl q),p j q⟩) (λj q=>?_)<|λ_ _=>rfl;rcases M j q.1 with(e|e)| e
  ·exact .inl e
  ·exact absurd e q.2
  ·exact .inr e
 ·rintro S i u o B M hs⟨z7,W,K7,s7,h7,PT⟩;obtain⟨Y,f⟩:∃Y:Nat->Prop,(λb=>S b/\b≠T.rb)=Y:=⟨_,O⟩;rw[f] at h7⊢;have P:∀j,X j->Y j:=λj q=>by rw[<-f];exact⟨B _ (.inl q),p j q⟩
  have CI:∀j,Y j->X j\/w.heap.size<=j:=λj q=>by
   rw[<-f] at q;rcases M j q.1 with(e|e)| e
   ·exact .inl e
   ·exact absurd e q.2
   ·exact .inr e
  refine z4Y.mono (D Y i u W K7 s7 o P CI z7 hs h7 PT) ?_;rintro r w8⟨⟨rfl,d,H,N,J,A⟩|⟨rfl,d,H,N,J,t⟩,aH⟩
  ·have hz:=aH.size;refine .inl ⟨O,⟨ω,d,H,N,J,A⟩,aH.Se λj e=>e.imp (λe C=>e.1 (by rw[<-f];exact⟨C,e.2⟩)) id⟩
  ·exact .inr ⟨O,Y,d,H,N,P,CI,J,t⟩
 ·rintro r w8⟨rfl,⟨S,B,M,-,d,H,N,J,A⟩|⟨Y,d,H,N,B,M,J,t⟩⟩
  ·refine⟨O,_,d,H,N,λj q=>⟨B _ (.inl q),p j q⟩,λj q=>?_,J,.inl A⟩;rcases M j q.1 with(e|e)| e
   ·exact .inl e
   ·exact absurd e q.2
   ·exact .inr e
  ·exact⟨O,Y,d,H,N,B,M,J,.inr t⟩
end
section
variable {v:Nat}{s s':DmS}
structure DmW (G T:GwP)(Q:UB)(txt:Int->Sa)(K:Nat)(X:Nat->Prop)(rr root:Nat)(O_:Nat->Prop)(a L n:Nat)(s:DmS)(w w':World):Prop where
 ex:∃txt' K',UL (Xj T.k root) G T Q txt' K' X rr O_ a L s w'/\K'<=K+n/\∀y:Int,y<(a:Int)\/(a:Int)+(L:Int)<=y->txt' y=txt y
 k:Kp (λb=>¬X b\/O_ b) w w'
theorem UL.zdU (h:UL (Xj T.k root) G T Q txt K X rr O_ a L s w)(c:DmV Q txt G.k T.k root rr O_ a L s vb w)(d:Kp (λb=>b=rr) w w')(hr:Sk w' rr (dmC s' G.k T.k root vb) 103)(l:∀j,j<5->s'.vec j=s.vec j):UL (Xj T.k root) G T Q txt K X rr O_ a L s' w':=
 h.set d (λb e=>by rw[e];exact c.o.1) ⟨vb,c.put d hr l⟩
theorem z4U (h:UL (Xj T.k root) G T Q txt K X rr O_ a L s w)(hK:K<=800000000000)(C:v<s.num.length/\v<s.looked.length)(V:s.Sj<s.Wv.length):SG prog 44 [ptr rr 0,I (v:Int)] w λ_ w'=>DmW G T Q txt K X rr root O_ a L 3 (s.push v) w w':=by
 obtain⟨p,r⟩:=h.dm
 have A:v<100:=by have:=(r.vs 0 ψ).2;have e:(s.vec 0).length=s.num.length:=rfl;omega
 have P:s.Sj<100:=by have:=(r.vs 3 ψ).2;have e:(s.vec 3).length=s.Wv.length:=rfl;omega
 refine py (e:=[(0,_),(1,_)]) func44 O ntmps44 O O<|TV O<|Sr z8P O (WL h ω (j:=0) (i:=v) (x:=4294967294) ψ C.1 ψ) ?_
 rintro _ w1⟨D,S,f,F⟩
 refine qM O<|Sz O<|Sr z8P O (WL S ω (j:=1) (i:=v) (x:=0) ψ C.2 ψ) ?_
 rintro _ w2⟨E,z,W,H⟩
 obtain⟨c,Z⟩:=z.dm
 have q:=Z.cells
 replace q:Sk w2 rr [I (s.steps:Int),I (s.fin:Int),I (s.Sj:Int),.bool s.T5,.bool s.done,ptr G.k 0,ptr T.k 0,I (root:Int),ptr (c 0) 0,ptr (c 1) 0,ptr (c 2) 0,ptr (c 3) 0,ptr (c 4) 0,.bool false,.bool false] 103:=q
 refine qM O<|Sz O<|SC O<|Sn TJ O<|Sn YZ O<|qV (Sc U3 O O q O)<|Sf O<|Sr z8P O (WL z ω (j:=3) (i:=s.Sj) (x:=v) ψ V ω) ?_
 rintro _ t⟨l,B,g,J⟩
 obtain⟨d,n⟩:=B.dm
 have m:=n.cells
 replace m:Sk t rr [I (s.steps:Int),I (s.fin:Int),I (s.Sj:Int),.bool s.T5,.bool s.done,ptr G.k 0,ptr T.k 0,I (root:Int),ptr (d 0) 0,ptr (d 1) 0,ptr (d 2) 0,ptr (d 3) 0,ptr (d 4) 0,.bool false,.bool false] 103:=m
 refine S5<|Uw O<|SC O<|Sn TJ O<|Sn YZ O<|qV (Sc U3 O O m O)<|Tr O<|SC O<|Sn TJ O<|Sn YZ O<|Sm O (TO T8 O O O m ξ) ?_
 rintro w4⟨M,u⟩
 have U:=B.zdU (s':=s.push v) n u M (λj hj=>by
  obtain rfl|rfl|rfl|rfl|rfl:j=0\/j=1\/j=2\/j=3\/j=4:=ω
  all_goals rfl)
 refine S5<|SI.qb (e:=[]) ?_
 refine Tv func44 O ?_
 exact⟨_,O,⟨l,K+1+1+1,U,ω,λy e=>((g y e).trans (W y e)).trans (f y e)⟩,(((F.trans H).trans J).Se λb e=> .inl λN=>e (.inl (.inl N))).trans (u.Se λb e=> .inr (by rw[e];exact n.o.1))⟩
end
section
variable {Y:Nat->Prop}{v:Nat}{s s':DmS}
def nxR (g:List (List Nat))(s:DmS)(v:Nat):Value:=match(Si g v)[s.looked.getD v 0]? with
 |none=> .tuple #[I 0,.bool false]
 |some u=> .tuple #[I (u:Int),.bool true]
def nxS (g:List (List Nat))(s:DmS)(v:Nat):DmS:=match(Si g v)[s.looked.getD v 0]? with
 |none=>s
 |some _=>s.look v
theorem z9R (h:UL (Xj T.k root) G T Q txt K X rr O_ a L s w)(hK:K<=800000000000)(hv:v<G.g.length)(uA:s.looked.length=G.g.length)(zo:s.looked.getD v 0<=(Si G.g v).length):SG prog 118 [ptr rr 0,I (v:Int)] w λr w'=>r=nxR G.g s v/\∃txt' K',UL (Xj T.k root) G T Q txt' K' X rr O_ a L (nxS G.g s v) w'/\K'<=K+1/\(∀y:Int,y<(a:Int)\/(a:Int)+(L:Int)<=y->txt' y=txt y)/\Kp (λb=>¬X b) w w':=by
 have f:∀b,X b->b<w.heap.size:=λb hb=>h.lt b (.inl (.inl hb))
 have W:=h.far
 obtain⟨n1,n2,n3⟩:=h.ng
 have tE:=h.lt T.rb (.inl (.inr O))
 have du:=h.m.n
 have fH:=h.m.g.ok.gr
 obtain⟨vb,hV⟩:=h.dm
 have hR:=hV.cells
 have rB:=h.xr _ hV.o.1
 obtain⟨k,hk⟩:∃k,s.looked[v]? =some k:=⟨_,y04 ω⟩
 have z:s.looked.getD v 0=k:=Wy hk
 have ic:(Si G.g v).length<=G.g.length:=fH.len (y0i (show G.g[v]? =some (Si G.g v) by unfold Si;rw[y04 hv];rfl))
 have aa:nxR G.g s v=match(Si G.g v)[k]? with|none=> .tuple #[I 0,.bool false]|some u=> .tuple #[I (u:Int),.bool true]:=by unfold nxR;rw[z]
 have ae:nxS G.g s v=match(Si G.g v)[k]? with|none=>s|some _=>s.look v:=by unfold nxS;rw[z]
 rw[aa,ae]
 rw[z] at zo
 refine py (e:=[(0,_),(1,_)]) func118 O ntmps118 O O<|qN O<|Sd O O (UD O (cs:=[ptr rr 0]) O) ?_
 rintro _ w1⟨b2,rfl,bS,rM,aj⟩
 refine Sd O O (UD O (cs:=[I (v:Int)]) O) ?_
 rintro _ w2⟨b3,rfl,dS,nY,ak⟩
 refine Sd O O (UK (cs:=[_]) T8 O) ?_
 rintro _ w3⟨U,rfl,fO,CK,au⟩
 refine Sd O O (UK (cs:=[_]) Xh O) ?_
 rintro _ w4⟨b5,rfl,gC,xM,aG⟩
 replace au:Sk w3 U [I 0] 3:=au
 replace aG:Sk w4 b5 [.bool false] 4:=aG
 have z1:=rM.size
 have z2:=nY.size
 have z3:=CK.size
 have z4:=xM.size
 have l1:=aj.lt
 have l2:=ak.lt
 have l3:=au.lt
 have l4:=aG.lt
 have cF:=CK.trans xM
 have bO:=(rM.trans nY).trans cF
 have cg:=cF.S4 (nY.S4 aj)
 have ft:=cF.S4 ak
 have dj:=xM.S4 au
 have h4:=h.ext bO
 refine qM O<|qV (Sc U44 O O cg O)<|qV (Sc U3 O O ft O) ?_
 obtain⟨J,qn⟩:∃J:Nat->Prop,(λj=>X j\/j=b2\/j=b3\/j=U\/j=b5)=J:=⟨_,O⟩
 have EE:∀j,X j->J j:=λj c=>by rw[<-qn];exact .inl c
 have D:J b2/\J b3/\J U/\J b5:=by rw[<-qn];exact⟨.inr (.inl O),.inr (.inr (.inl O)),.inr (.inr (.inr (.inl O))),.inr (.inr (.inr (.inr O)))⟩
 have tz:UL (Xj T.k root) G T Q txt K J rr O_ a L s w4:=h.grow bO (λj c=>by rw[<-qn] at c;exact c.imp id λe=>ω) EE
 refine Sr z1l O (VE tz (j:=1) ψ hk) ?_
 rintro _ w5⟨rfl,h5,P⟩
 have rl:∀{j},J j->¬¬xRu G T J j:=λc e=>e (.inl (.inl c))
 have dz:=P.S4 cg (rl D.1)
 have dI:=P.S4 ft (rl D.2.1)
 have cJ:=P.S4 dj (rl D.2.2.1)
 have aP:=P.S4 aG (rl D.2.2.2)
 have iC:=P.S4 (bO.S4 hR) (rl (EE _ rB))
 have z5:=P.size
 refine Sd O O (UK (cs:=[_]) T8 O) ?_
 rintro _ w6⟨b6,rfl,oo,aM,aW⟩
 refine Sm O (TO T8 O O O aW ξ) ?_
 rintro w7⟨ko,ay⟩
 replace ko:Sk w7 b6 [I (k:Int)] 3:=ko
 have z6:=aM.size
 have z7:=ay.size
 have l6:=aW.lt
 refine qM O<|Sd O O (UK (cs:=[_]) T8 O) ?_
 rintro _ w8⟨b7,rfl,lu,dw,aZ⟩
 refine Sm O (TO T8 O O O aZ ξ) ?_
 rintro w9⟨kj,aK⟩
 replace kj:Sk w9 b7 [I 0] 3:=kj
 have z8:=dw.size
 have z9:=aK.size
 have l8:=aZ.lt
 have nZ:Ext w5 w9:=((aM.An ay λb e=>ω).trans dw).An aK λb e=>ω
 have J5:=nZ.S4 dz
 have x8:=nZ.S4 dI
 have x7:=nZ.S4 cJ
 have bU:=nZ.S4 aP
 have tZ:=nZ.S4 iC
 have jr:=aK.S4 (dw.S4 ko) ω
 have hg:=Ext.Sv w9
 refine S5<|It<|It<|Ux (λw'=>Ext w9 w') O<|qT 0 O (λ_ h=>(Sc U44 O O (h.S4 J5) O)) hg<|S8 1 O (Tu O) hg<|S8 2 O (SN z0Q O) hg<|qT 3 O (λ_ h=>(Sc U28 O O (h.S4 tZ) O)) hg<|qT 4 O (λ_ h=>(Sc U3 O O (h.S4 x8) O)) hg<|VF 5 O zis O (z5h G.k v _) ?_
 rintro _ E⟨bk,bi,rfl,sI,tr,gN,uS,CL⟩
 refine⟨hg.trans CL,?_⟩
 have xN:=hg.trans CL
 have za:=xN.size
 have zg:=hg.size
 have lk:=sI.lt
 have li:=tr.lt
 refine qE<|S7<|Wu (ps:=[19,20]) (p:=[]) (q:=[_,_]) O ziJ ?_
 rintro l wl eG gD cR hD Rc V eR
 have zl:=eG.size
 have fW:Ext w5 wl:=(nZ.trans xN).trans eG
 obtain⟨N,fX⟩:∃N:Nat->Prop,(λj=>J j\/j=b6\/j=b7\/j=E.heap.size\/j=l)=N:=⟨_,O⟩
 have H:∀j,J j->N j:=λj c=>by rw[<-fX];exact .inl c
 have F:N b6/\N b7/\N E.heap.size/\N l:=by rw[<-fX];exact⟨.inr (.inl O),.inr (.inr (.inl O)),.inr (.inr (.inr (.inl O))),.inr (.inr (.inr (.inr O)))⟩
 have gA:∀j,X j->N j:=λj c=>H j (EE j c)
 have ez:∀j,w.heap.size<=j->¬O_ j:=λj c=>(W j c).2.2.2.2.2.2
 have J6:UL (Xj T.k root) G T Q txt K N rr O_ a L s wl:=h5.grow fW (λj c=>by rw[<-fX] at c;exact c.imp id λe=>ω) H
 have nO:Kp (λb=>¬X b) w wl:=(bO.kp.trans (P.Se λb e d=>e (.inl (.inl (EE b d))))).trans fW.kp
 have xO:=fW.S4 dz
 have tF:=fW.S4 dI
 have xP:=fW.S4 cJ
 have xQ:=fW.S4 aP
 have xR:=(xN.trans eG).S4 jr
 have J7:=(xN.trans eG).S4 kj
 refine SG.mono (z5P hv J6 (eG.S4 sI) (eG.S4 tr) (λj=>j=l\/j=U\/j=b5\/j=b7) (λj c=>by
   rcases c with rfl|rfl|rfl|rfl
   ·exact F.2.2.2
   ·exact H _ D.2.2.1
   ·exact H _ D.2.2.2
   ·exact F.2.1)
  (λi txt' K' s' w'=>Rc .ready none w'/\txt'=txt/\K'=K/\s'=s/\i<=k/\w'.heap[E.heap.size]? =some (.deferred (some []))/\(Sk w' b2 [ptr rr 0] 44/\Sk w' b3 [I (v:Int)] 3/\Sk w' U [I 0] 3/\Sk w' b5 [.bool false] 4/\Sk w' b6 [I (k:Int)] 3/\Sk w' b7 [I (i:Int)] 3)/\Kp (λb=>¬X b) w w')
  (λtxt' K' s' w'=>Rc .done (some .ret) w'/\s'=s.look v/\K'<=K+1/\(∀y:Int,y<(a:Int)\/(a:Int)+(L:Int)<=y->txt' y=txt y)/\(∃u,(Si G.g v)[k]? =some u/\Sk w' U [I (u:Int)] 3)/\w'.heap[E.heap.size]? =some (.deferred (some []))/\Sk w' b5 [.bool true] 4/\Kp (λb=>¬X b) w w')
  ?_ ?_) ?_
 ·intro w7 hz Z;have t:∀{j},N j->¬¬N j:=λc e=>e c;exact⟨Z.rc V eR (t F.2.2.2),O,O,O,y02 _,Z.heap hD (t F.2.2.1),⟨Z.S4 xO (t (H _ D.1)),Z.S4 tF (t (H _ D.2.1)),Z.S4 xP (t (H _ D.2.2.1)),Z.S4 xQ (t (H _ D.2.2.2)),Z.S4 xR (t F.1),Z.S4 J7 (t F.2.1)⟩,nO.trans (Z.Se λb e d=>e (gA b d))⟩
 ·rintro Y i u txt' K' s' w7 B mc a5 hs h7⟨CM,rfl,rfl,rfl,PU,J8,⟨M2,M3,CN,kC,M4,M5⟩,oR⟩;have S:Y l/\Y U/\Y b5/\Y b7/\Y b2/\Y b3/\Y b6/\Y E.heap.size:=⟨B _ F.2.2.2,B _ (H _ D.2.2.1),B _ (H _ D.2.2.2),B _ F.2.1,B _ (H _ D.1),B _ (H _ D.2.1),B _ F.1,B _ F.2.2.1⟩;have me:∀j,X j->Y j:=λj c=>B j (gA j c);have kU:u<G.g.length:=Vx fH v u (y0i hs);refine XH V CM O O<|TU O<|Sg O<|Sq O<|run_beginRound O V CM ?_;rintro a2 yY M;have h8:=h7.own M (λj e=>by subst e;exact⟨S.1,W _ ω⟩);have CO:=M.S4 M2 ω;have CP:=M.S4 M3 ω;have CQ:=M.S4 CN ω;have tG:=M.S4 kC ω;have xS:=M.S4 M4 ω;have xT:=M.S4 M5 ω;have EF:=M.heap J8 ω;have a6:=M.size;have jM:Kp (λb=>¬X b) w a2:=oR.trans (M.Se λj e d=>by have:=f j d;omega);refine S7<|SE O<|Sr zbp O (WE _) ?_;rintro _ a2 rfl;refine S5<|It<|qN O<|qV (Sc U3 O O xT O)<|qV (Sc U3 O O xS O) ?_;by_cases J9:i=k
  ·subst J9
   have qo:s'.look v=s'.z7h 1 ((s'.vec 1).set v (i+1)):=by
    unfold DmS.look;rw[z];rfl
   refine U7 O<|Ue<|S5<|SI.qb (e:=[(2,_),(3,_),(4,_),(5,_),(6,_),(7,_),(8,_),(25,_)]) ?_;refine Sb O (qN O (qV (Sc U44 O O CO O) (qV (Sc U3 O O CP O) (qV (Sc U3 O O xS O) (Tr O (Sr z8P O (WL h8 ω (j:=1) (i:=v) (x:=i+1) ψ (by show v<s'.looked.length;omega) ω) ?_))))));rintro _ a0⟨a1,h9,EC,C⟩;have mf:∀{j},Y j->¬¬xRu G T Y j:=λc e=>e (.inl (.inl c));have Ja:=C.S4 CQ (mf S.2.1);have mg:=C.S4 tG (mf S.2.2.1);have xU:=C.rc V yY (mf S.1);have CR:=C.heap EF (mf S.2.2.2.2.2.2.2);have jv:Kp (λb=>¬X b) w a0:=jM.trans (C.Se λb e d=>e (.inl (.inl (me b d))));have qp:Kp (λb=>(¬Y b/\b≠T.rb)\/b=l\/b=U\/b=b5\/b=b7) w7 a0:=(M.Se λj e=> .inr (.inl e)).trans (C.Se λj e=> .inl ⟨λd=>e (.inl (.inl d)),λd=>e (.inl (.inr d))⟩);have a7:=C.size;refine qM O (Sf O (qV (T7 O U0 U3 ω) (Sm O (TO T8 O O O Ja ξ) ?_)));rintro a3⟨Jb,bL⟩;have qq:=bL.S4 mg ω;refine Sm O (TO Xh O O O qq ξ) ?_;rintro a4⟨xV,dq⟩;have Jc:=dq.S4 Jb ω;have mX:=(h9.own bL (λj e=>by subst e;exact⟨S.2.1,W _ ω⟩)).own dq (λj e=>by subst e;exact⟨S.2.2.1,W _ ω⟩);have AI:=dq.rc V (bL.rc V xU ω) ω;have PV:=dq.heap (bL.heap CR ω) ω;refine S5<|ZO V AI ?_;intro wd kh z;rw[<-qo] at mX;exact⟨.inr ⟨O,a1,K'+1,s'.look v,mX.own z (λj e=>by subst e;exact⟨S.1,W _ ω⟩),kh,O,y07 _,EC,⟨u,hs,z.S4 Jc ω⟩,z.heap PV ω,z.S4 xV ω,((jv.trans (bL.Se λj e d=>by have:=f j d;omega)).trans (dq.Se λj e d=>by have:=f j d;omega)).trans (z.Se λj e d=>by have:=f j d;omega)⟩,((qp.trans (bL.Se λj e=> .inr (.inr (.inl e)))).trans (dq.Se λj e=> .inr (.inr (.inr (.inl e))))).trans (z.Se λj e=> .inr (.inl e))⟩
  ·refine U7 O<|T0<|S5<|SI.qb (e:=[(2,_),(3,_),(4,_),(5,_),(6,_),(7,_),(8,_),(25,_)]) ?_;refine VP O (Sg O (qV (Sc U3 O O xT O) (Tr O (Sm O (TO T8 O O O xT ξ) ?_))));rintro a0⟨Jd,C⟩;have h9:=h8.own C (λj e=>by subst e;exact⟨S.2.2.2.1,W _ ω⟩);have xU:=C.rc V yY ω;refine S5<|S2<|VY V xU ?_;intro wd kh z;exact⟨.inl ⟨O,txt',K',s',h9.own z (λj e=>by subst e;exact⟨S.1,W _ ω⟩),kh,O,O,O,ω,z.heap (C.heap EF ω) ω,⟨z.S4 (C.S4 CO ω) ω,z.S4 (C.S4 CP ω) ω,z.S4 (C.S4 CQ ω) ω,z.S4 (C.S4 tG ω) ω,z.S4 (C.S4 xS ω) ω,z.S4 Jd ω⟩,(jM.trans (C.Se λj e d=>by have:=f j d;omega)).trans (z.Se λj e d=>by have:=f j d;omega)⟩,((M.Se λj e=> .inr (.inl e)).trans (C.Se λj e=> .inr (.inr (.inr (.inr e))))).trans (z.Se λj e=> .inr (.inl e))⟩
 ·rintro v' wz⟨rfl,Y,A,Kz,sz,B,mc,hz,⟨CS,rfl,rfl,rfl,PU,CT,⟨M2,M3,CN,kC,M4,M5⟩,eg⟩|⟨CS,rfl,PW,sy,⟨u,hu,CN⟩,CT,kC,eg⟩⟩
  ·refine⟨_,_,CS,ξ,λwy R=>?_⟩;have zz:=eg.size;have zy:=R.size;have xW:=R.S4 CN ω;have o5:=R.S4 kC ω;have sP:=R.heap CT ω;rw[y0n ω];refine S2 (qN O (Sm O (TO T8 O O O xW ξ) ?_));rintro wx⟨Je,lR⟩;have Jf:=lR.S4 o5 ω;refine Sm O (TO Xh O O O Jf ξ) ?_;rintro wv⟨Jg,lT⟩;have Jh:=lT.S4 Je ω;have PX:=lT.heap (lR.heap sP ω) ω;have eu:Kp (λk=>k=E.heap.size) wv (Wh [.mk E.heap.size] wv):=U1 wv E.heap.size (.deferred none);have xX:=eu.S4 Jh ω;have xY:=eu.S4 Jg ω;have cO:Kp (λk=>k=l\/k=U\/k=b5\/k=E.heap.size) wz (Wh [.mk E.heap.size] wv):=(((R.Se λj e=> .inl e).trans (lR.Se λj e=> .inr (.inl e))).trans (lT.Se λj e=> .inr (.inr (.inl e)))).trans (eu.Se λj e=> .inr (.inr (.inr e)));refine S5 (Zw ξ (z0M PX) func118 (.cell1 U3 O O ((xX).cell _) (.cell1 U4 O O ((xY).cell _) .nil)) ?_);exact⟨_,O,O,A,Kz,(hz.own cO (λj e=>⟨by rcases e with rfl|rfl|rfl|rfl;exact B _ F.2.2.2;exact B _ (H _ D.2.2.1);exact B _ (H _ D.2.2.2);exact B _ F.2.2.1,W j ω⟩)).less (λj c=>B j (gA j c)) h.xk h.xr,Nat.le_add_right _ _,λ_ _=>rfl,eg.trans (cO.Se λj e d=>by have:=f j d;omega)⟩
  ·refine⟨_,_,CS,ξ,λwy R=>?_⟩;have zz:=eg.size;have zy:=R.size;have xW:=R.S4 CN ω;have o5:=R.S4 kC ω;have sP:=R.heap CT ω;have eu:Kp (λk=>k=E.heap.size) wy (Wh [.mk E.heap.size] wy):=U1 wy E.heap.size (.deferred none);have xX:=eu.S4 xW ω;have xY:=eu.S4 o5 ω;have cO:Kp (λk=>k=l\/k=E.heap.size) wz (Wh [.mk E.heap.size] wy):=(R.Se λj e=> .inl e).trans (eu.Se λj e=> .inr e);rw[hu];refine Zw ξ (z0M sP) func118 (.cell1 U3 O O ((xX).cell _) (.cell1 U4 O O ((xY).cell _) .nil)) ?_;exact⟨_,O,O,A,Kz,(hz.own cO (λj e=>⟨by rcases e with rfl|rfl;exact B _ F.2.2.2;exact B _ F.2.2.1,W j ω⟩)).less (λj c=>B j (gA j c)) h.xk h.xr,PW,sy,eg.trans (cO.Se λj e d=>by have:=f j d;omega)⟩
end
section
variable {v:Nat}{s s':DmS}
def z2e {s s':DmS}(b:s'.num=s.num)(c:s'.looked=s.looked)(d:s'.cand=s.cand)(e:s'.Wv=s.Wv)(h:s'.ord=s.ord):∀j,j<5->s'.vec j=s.vec j:=λj l=>by
 obtain rfl|rfl|rfl|rfl|rfl:j=0\/j=1\/j=2\/j=3\/j=4:=ω
 ·exact b
 ·exact c
 ·exact d
 ·exact e
 ·exact h
theorem zap (h:UL (Xj T.k root) G T Q txt K X rr O_ a L s w)(r:Zb G.g root s)(hh:0<s.Sj)(hK:K<=700000000000):SG prog 82 [ptr rr 0] w λ_ w'=>DmW G T Q txt K X rr root O_ a L 5 (s.move G.g) w w':=by
 have du:=h.m.n
 have fH:=h.m.g.ok.gr
 have Ji:=r.fh
 have oD:=r.nn
 have uA:=r.ln
 have jE:=r.sn
 have uz:=r.on
 obtain⟨vb,hV⟩:=h.dm
 have hR:=hV.cells
 obtain⟨v,hv⟩:∃v,s.Wv[s.Sj-1]? =some v:=⟨_,y04 ω⟩
 have qr:s.Wv.getD (s.Sj-1) 0=v:=Wy hv
 obtain⟨V,v2⟩:=r.st (s.Sj-1) ω
 rw[qr] at V v2
 have zo:=(r.lk v V ω).1
 have mh:s.move G.g=match(Si G.g v)[s.looked.getD v 0]? with
  |none=>s.Z0 v
  |some u=>if s.num.getD u 0=4294967295 then(s.look v).push u else s.look v:=by
  unfold DmS.move;rw[qr]
  try (cases (Si G.g v)[s.looked.getD v 0]?<;>rfl)
 rw[mh]
 refine py (e:=[(0,_)]) func82 O ntmps82 O O<|TV O<|SC O<|Sn TJ O<|Sn YZ O<|qV (Sc U3 O O hR O)<|UO O ?_
 rw[show(s.Sj:Int)-1=((s.Sj-1:Nat):Int) by omega]
 refine Sr z1l O (VE h (j:=3) ψ hv) ?_
 rintro _ w1⟨rfl,P,aR⟩
 refine Up O<|Sz O<|Sr zl0 O (z9R P ω V uA zo) ?_
 rintro _ w2⟨rfl,D,Z,z,yF,R,am⟩
 have f:Kp (λb=>¬X b\/O_ b) w w2:=(aR.Se λb e=> .inl λq=>e (.inl (.inl q))).trans (am.Se λb e=> .inl e)
 cases C:(Si G.g v)[s.looked.getD v 0]? with
 | none =>
   have N:nxR G.g s v= .tuple #[I 0,.bool false]:=by unfold nxR;rw[C]
   have q:nxS G.g s v=s:=by unfold nxS;rw[C]
   rw[q] at z;rw[N];obtain⟨a1,md⟩:=z.dm;have cu:=md.cells;refine Sf O<|Vk O<|To O<|S7<|SE O<|qV (Vn O) ?_;rw[show(!false)=true from rfl];refine Sq O (Sb O (TV O (Sf O (SC O (Sn TJ O (Sn z1x O (qV (Sc U3 O O cu O) (Sr z8P O (WL z ω (j:=0) (i:=v) (x:=s.fin) ψ (by show v<s.num.length;omega) ω) ?_))))))));rintro _ w3⟨a0,B,tt,M⟩;obtain⟨l,CJ⟩:=B.dm;have gH:Sk w3 rr [I (s.steps:Int),I (s.fin:Int),I (s.Sj:Int),.bool s.T5,.bool s.done,ptr G.k 0,ptr T.k 0,I (root:Int),ptr (l 0) 0,ptr (l 1) 0,ptr (l 2) 0,ptr (l 3) 0,ptr (l 4) 0,.bool false,.bool false] 103:=CJ.cells;refine S5<|SI.qb (e:=[(0,_),(2,_)]) ?_;refine TV O (SC O (Sn TJ O (Sn z1x O (qV (Sc U3 O O gH O) (Sf O (Sr z8P O (WL B ω (j:=4) (i:=s.fin) (x:=v) ψ (by show s.fin<s.ord.length;omega) ω) ?_))))));rintro _ W⟨d,F,U,J⟩;obtain⟨c,S⟩:=F.dm;have t:Sk W rr [I (s.steps:Int),I (s.fin:Int),I (s.Sj:Int),.bool s.T5,.bool s.done,ptr G.k 0,ptr T.k 0,I (root:Int),ptr (c 0) 0,ptr (c 1) 0,ptr (c 2) 0,ptr (c 3) 0,ptr (c 4) 0,.bool false,.bool false] 103:=S.cells;refine qM O (Sf O (SC O (Sn TJ O (Sn z1x O (qV (Sc U3 O O t O) (Tr O (SC O (Sn TJ O (Sn z1x O (Sm O (TO T8 O O O t ξ) ?_))))))))));rintro w5⟨H,ai⟩;replace H:Sk w5 rr [I (s.steps:Int),I ((s.fin:Int)+1),I (s.Sj:Int),.bool s.T5,.bool s.done,ptr G.k 0,ptr T.k 0,I (root:Int),ptr (c 0) 0,ptr (c 1) 0,ptr (c 2) 0,ptr (c 3) 0,ptr (c 4) 0,.bool false,.bool false] 103:=H;refine S5 (Uw O (SC O (Sn TJ O (Sn YZ O (qV (Sc U3 O O H O) (UO O (SC O (Sn TJ O (Sn YZ O (Sm O (TO T8 O O O H ξ) ?_))))))))));rintro w6⟨E,aI⟩;have iT:Kp (λj=>j=rr) W w6:=ai.trans aI;replace E:Sk w6 rr [I (s.steps:Int),I ((s.fin:Int)+1),I ((s.Sj:Int)-1),.bool s.T5,.bool s.done,ptr G.k 0,ptr T.k 0,I (root:Int),ptr (c 0) 0,ptr (c 1) 0,ptr (c 2) 0,ptr (c 3) 0,ptr (c 4) 0,.bool false,.bool false] 103:=E;rw[show(s.Sj:Int)-1=((s.Sj-1:Nat):Int) by omega] at E;have h6:=F.zdU (s':=s.Z0 v) S iT E (z2e O O O O O);refine S5<|SI.qb (e:=[]) ?_;refine S2<|Tv func82 O ?_
   exact⟨_,O,⟨d,Z+1+1,h6,ω,λy e=>((U y e).trans (tt y e)).trans (R y e)⟩,(f.trans ((M.trans J).Se λb e=> .inl λq=>e (.inl (.inl q)))).trans (iT.Se λb e=> .inr (by rw[e];exact S.o.1))⟩
 | some u =>
   have N:nxR G.g s v= .tuple #[I (u:Int),.bool true]:=by unfold nxR;rw[C]
   have q:nxS G.g s v=s.look v:=by unfold nxS;rw[C]
   rw[q] at z;rw[N];have kU:u<G.g.length:=Vx fH v u (y0i C);obtain⟨x,hx⟩:∃x,s.num[u]? =some x:=⟨_,y04 ω⟩;refine Sf O<|Vk O<|To O<|S7<|SE O<|qV (Vn O) ?_;rw[show(!true)=false from rfl];refine Sq O (S9 O (TV O (Sr z1l O (VE z (j:=0) (i:=u) (x:=x) ψ hx) ?_)));rintro _ w3⟨rfl,B,M⟩;have p:=f.trans (M.Se λb e=> .inl λq=>e (.inl (.inl q)));have A:s.num.getD u 0=x:=Wy hx;dsimp only;rw[A];by_cases e:x=4294967295
   ·rw[if_pos e]
    have oC:s.fin+s.Sj<G.g.length:=by
     have P:=r.ct;have z:Z5 G.g.length (λv=>s.num.getD v 0≠4294967295)<Z5 G.g.length (λ_=>True):=z2d (λ_ _ _=>trivial) kU (λh=>h (by rw[A];exact e)) trivial;have B:Z5 G.g.length (λ_=>True)<=G.g.length:=z4F;omega
    refine U7 O<|Ue<|Sq O<|SI.qb (e:=[(0,_),(3,_),(56,_)]) ?_;refine Sb O (Sg O (Sz O (Sr zlh O (z4U B ω ⟨by show u<s.num.length;omega,by show u<(s.looked.set v _).length;rw[y0w];omega⟩ (by show s.Sj<s.Wv.length;omega)) ?_)));rintro _ W hW;obtain⟨⟨d,K4,F,Jj,U⟩,J⟩:=hW;refine S5<|S2<|Tv func82 O ?_;exact⟨_,O,⟨d,K4,F,ω,λy e=>(U y e).trans (R y e)⟩,p.trans J⟩
   ·rw[if_neg e];refine U7 O<|T0<|Sq O<|SI.qb (e:=[(0,_),(3,_),(56,_)]) ?_;refine VP O<|S2<|Tv func82 O ?_;exact⟨_,O,⟨D,Z,B,ω,R⟩,p⟩
end
section
variable {v q c:Nat}{s:DmS}
def z3S {l:List Nat}{v x:Nat}(h:l[v]? =some x):VO l v=x:=by
 show l.getD v 4294967295=x
 rw[y0C,h];rfl
theorem zaB (h:UL (Xj T.k root) G T Q txt K X rr O_ a L s w)(hN:zhq (Y0 G.g root) (nF s.num) root)(E:Fo (Y0 G.g root) (nF s.num) root (VO s.cand))(hr:root<G.g.length)(oD:s.num.length=G.g.length)(xZ:s.cand.length=G.g.length)(B:VO s.cand p≠4294967295)(C:VO s.cand q≠4294967295)(d:meetF (nF s.num) (VO s.cand) (2*G.g.length) p q=some c):SG prog 117 [ptr rr 0,I (p:Int),I (q:Int)] w λr w'=>r=I (c:Int)/\UL (Xj T.k root) G T Q txt K X rr O_ a L s w'/\Kp (λb=>¬xRu G T X b) w w':=by
 have du:=h.m.n
 have f:=h.m.g.ok.gr
 obtain⟨vb,hV⟩:=h.dm
 have hR:=hV.cells
 refine py (e:=[(0,_),(1,_),(2,_)]) func117 O ntmps117 O O<|TU O<|z5W<|SE O<|SC O<|Sn z0Q O<|qV (Sc U28 O O hR O)<|Sr z3K O (Xx h.m.g) ?_
 rintro _ w⟨rfl,rfl⟩
 refine qV (Zf O O ω)<|Sq O<|It<|z5K<|TZ ?_
 rw[show(2:Int)*(G.g.length:Int)=((2*G.g.length:Nat):Int) by omega]
 refine UW (α:=Nat×Nat×Nat) (2*G.g.length,p,q) (λy=>[(0,ptr rr 0),(1,I (y.2.1:Int)),(2,I (y.2.2:Int)),(7,I (y.1:Int))]) (λy w'=>meetF (nF s.num) (VO s.cand) y.1 y.2.1 y.2.2=some c/\VO s.cand y.2.1≠4294967295/\VO s.cand y.2.2≠4294967295/\UL (Xj T.k root) G T Q txt K X rr O_ a L s w'/\Kp (λb=>¬xRu G T X b) w w'/\y.1<=2*G.g.length) (λy=>y.1) ?hI ?hround
 case hI=>exact⟨d,B,C,h,Kp.refl _ _,y07 _⟩
 case hround=>
  rintro⟨k,p,q⟩ w1 ⟨d,B,C,o,F,kQ⟩ M;dsimp only at d B C kQ M⊢
  try dsimp only
  refine It<|TV O ?_;by_cases e:p=q
  ·subst e
   have hc:p=c:=by
    cases k with
    |zero=>unfold meetF at d;rw[if_pos O] at d;exact UC d
    |succ k=>unfold meetF at d;rw[if_pos O] at d;exact UC d
   subst hc;refine TK O<|T0<|S5<|S9 O<|Sh O<|SE O<|Sq O<|S3 func117 O ?_;exact⟨_,O,O,o,F⟩
  ·obtain⟨k',rfl⟩:∃k',k=k'+1:=by
    cases k with
    |zero=>unfold meetF at d;rw[if_neg e] at d;cases d
    |succ k=>exact⟨k,O⟩
   unfold meetF at d;rw[if_neg e] at d;have N:=E.in_ p B;have R:=E.in_ q C;have lp:=N.lt f hr;have lq:=R.lt f hr;obtain⟨x,A⟩:∃x,s.num[p]? =some x:=⟨_,y04 ω⟩;obtain⟨y,P⟩:∃y,s.num[q]? =some y:=⟨_,y04 ω⟩;obtain⟨x2,U⟩:∃x,s.cand[p]? =some x:=⟨_,y04 ω⟩;obtain⟨y2,iQ⟩:∃x,s.cand[q]? =some x:=⟨_,y04 ω⟩;have ex:nF s.num p=x:=Wy A;have Z:nF s.num q=y:=Wy P;have ex2:=z3S U;have D:=z3S iQ;have tp:=hN.top p N;have tq:=hN.top q R;have l:=hN.inj p q N R;have u:=E.up p B;have z:=E.up q C;rw[ex,Z,ex2,D] at d;rw[ex] at tp l u;rw[Z] at tq l z;rw[ex2] at u;rw[D] at z;refine TK O<|Ue<|S5<|Sb O<|S6<|S7<|SX O<|UO O ?_;rw[show((k'+1:Nat):Int)-1=(k':Int) by omega];refine TR O (TW O (T0 (Tt O (It (TV O (Sr z1l O (VE o (j:=0) (i:=p) (x:=x) ψ A) ?_))))));rintro _ w2⟨rfl,h2,V⟩;refine Sz O (Sr z1l O (VE h2 (j:=0) (i:=q) (x:=y) ψ P) ?_);rintro _ w3⟨rfl,t,W⟩;by_cases S:x<y
   ·rw[if_pos S] at d;have pe:p≠root:=λe=>by subst e;omega
    refine TW O (Ue (S5 (Sb O (TV O (Sr z1l O (VE t (j:=2) (i:=p) (x:=x2) ψ U) ?_)))));rintro _ w4⟨rfl,J,H⟩;refine Sq O<|Sh O ?_;exact(M (k',x2,q) _ ⟨d,(u pe).1,C,J,((F.trans V).trans W).trans H,by show k'<=_;omega⟩ (by show k'<k'+1;omega)).qb
   ·rw[if_neg S] at d
    have sC:q≠root:=λe2=>by
     subst e2;exact e (l ω)
    refine TW O (T0 (Tt O (Sg O (Sz O (Sr z1l O (VE t (j:=2) (i:=q) (x:=y2) ψ iQ) ?_)))));rintro _ w4⟨rfl,J,H⟩;refine Sq O<|S2 ?_;exact(M (k',p,y2) _ ⟨d,B,(z sC).1,J,((F.trans V).trans W).trans H,by show k'<=_;omega⟩ (by show k'<k'+1;omega)).qb
end
section
variable {n c:Nat}{num:List Nat}
def FdI.pre (d:TrF g root (nF num) par)(b:DsI g root (nF num) par (VO cand))(e:nF num root<n)(ps:List Nat):FdI root (VO cand) (ps.foldl (meS n num cand) 4294967295) (λq=>False\/q∈ps):=FdI.all d b e (.inl ⟨rfl,λ_ h=>h.elim⟩)
theorem FdI.ok (h:FdI root f c A)(b:c≠4294967295):f c≠4294967295:=by
 rcases h with h| h
 ·exact absurd h.1 b
 ·exact h.1
def FdI.le (h:FdI root (VO cand) c A):c=4294967295\/c<cand.length:=by
 rcases h with h| h
 ·exact .inl h.1
 ·right
  rcases y0a c cand.length with e| e
  ·exact e
  ·refine absurd ?_ h.1;show cand.getD c 4294967295=_;rw[y0C,y0n e];rfl
theorem z8a (b:VO cand p=4294967295):meS n num cand c p=c:=if_pos b
theorem z6e (b:VO cand p≠4294967295):meS n num cand 4294967295 p=p:=by
 unfold meS
 rw[if_neg b,if_pos O]
def z92 (m:TrF g root (nF num) par)(l:DsI g root (nF num) par (VO cand))(r:nF num root<n)(q:VO cand c≠4294967295)(h:VO cand p≠4294967295)(d:c≠4294967295):∃b,meetF (nF num) (VO cand) (2*n) c p=some b/\meS n num cand c p=b:=by
 obtain⟨b,e,-⟩:=z1A m.n l.fo (2*n) c p q h ω
 refine⟨b,e,?_⟩
 unfold meS
 rw[if_neg h,if_neg d,e];rfl
end
section
variable {Y:Nat->Prop}{v:Nat}{s s':DmS}
theorem z7U (h:UL (Xj T.k root) G T Q txt K X rr O_ a L s w)(hK:K<=700000000000)(hT:TrF G.g root (nF s.num) par)(hF:Fnd G.g root s.num s.ord s.fin)(z:DwI G.g root s.num par s.cand j)(hr:root<G.g.length)(kZ:∀u v,u∈Si T.g v↔v∈Si G.g u)(IX:T.g.length=G.g.length)(oD:s.num.length=G.g.length)(uz:s.ord.length=G.g.length):SG prog 81 [ptr rr 0] w λr w'=>r= .bool (Z8 T.g G.g.length s.num s.ord (s.fin-1) (s.cand,false)).2/\DmW G T Q txt K X rr root O_ a L 60 {s with cand:=(Z8 T.g G.g.length s.num s.ord (s.fin-1) (s.cand,false)).1} w w':=by
 have du:=h.m.n
 have tH:T.g.length<=40:=ω
 have fH:=h.m.g.ok.gr
 have tI:=h.t.ok.gr
 have ov:=hF.t
 have PY:=hF.f
 have bR:∀b,X b->b<w.heap.size:=λb Z=>h.lt b (.inl (.inl Z))
 obtain⟨n1,n2,n3⟩:=h.ng
 have cx:=h.far
 have ED:=h.lt G.rb (.inr O)
 have tE:=h.lt T.rb (.inl (.inr O))
 obtain⟨vb,hV⟩:=h.dm
 have hR:=hV.cells
 have rB:=h.xr _ hV.o.1
 refine py (e:=[(0,_)]) func81 O ntmps81 O O<|qN O<|Sd O O (UD O (cs:=[ptr rr 0]) O) ?_
 rintro _ w1⟨b1,rfl,bT,aa,aj⟩
 have z1:=aa.size
 have l1:=aj.lt
 obtain⟨H,qn⟩:∃H:Nat->Prop,(λj=>X j\/j=b1)=H:=⟨_,O⟩
 have gA:∀j,X j->H j:=λj B=>by rw[<-qn];exact .inl B
 have dH:H b1:=by rw[<-qn];exact .inr O
 have h1:UL (Xj T.k root) G T Q txt K H rr O_ a L s w1:=h.grow aa (λj B=>by rw[<-qn] at B;exact B.imp id λe=>ω) gA
 have V:=h1.xk
 have ya:=h1.xr
 have wP:∀b,H b->b<w1.heap.size:=λb Z=>h1.lt b (.inl (.inl Z))
 have eQ:=aa.S4 hR
 refine Sq O<|It<|qN O<|qV (Sc U44 O O aj O)<|SC O<|Sn TJ O<|Sn z1x O<|qV (Sc U3 O O eQ O)<|UO O<|Sq O<|S7 ?_
 rw[show(s.fin:Int)-2=((s.fin-1:Nat):Int)-1 by omega]
 obtain⟨D,CU⟩:∃D,Z8 T.g G.g.length s.num s.ord (s.fin-1) (s.cand,false)=D:=⟨_,O⟩
 rw[CU]
 refine zdb (α:=(Nat×(List Nat×Bool))×List Dfr) ((s.fin-1,(s.cand,false)),[]) (λy=>y.2) O (λy=>[(1,ptr b1 0),(2,.bool y.1.2.2),(3,I ((y.1.1:Int)-1))]) (λy w'=>y.1.1<=s.fin-1/\Z8 T.g G.g.length s.num s.ord y.1.1 y.1.2=D/\DwK G.g root s.num par y.1.2.1 j y.1.1/\(∃txt' K',UL (Xj T.k root) G T Q txt' K' (λb=>H b\/ .mk b∈y.2) rr O_ a L {s with cand:=y.1.2.1} w'/\K'+y.1.1<=K+(s.fin-1)/\∀y:Int,y<(a:Int)\/(a:Int)+(L:Int)<=y->txt' y=txt y)/\Sk w' b1 [ptr rr 0] 44/\Kp (λb=>¬X b) w w'/\MkN w1.heap.size y.2 w'/\w1.heap.size<=w'.heap.size) (λy=>y.1.1) (by repeat (first|exact Sub.nil|refine Sub.cons O ?_)) ?hI ?hround
 case hI=>exact⟨y07 _,CU,⟨z.n,by
   have:=DsK.begin hT z.i z.p;rw[show s.fin-1=nF s.num root by omega]
   exact this,z.c⟩,⟨txt,K,h1.less (λj B=>B.elim id (λe=>by cases e)) ⟨.inl V.1,.inl V.2.1,.inl V.2.2.1,.inl V.2.2.2.1,.inl V.2.2.2.2.1,.inl V.2.2.2.2.2⟩ (λb Z=> .inl (ya b Z)),y07 _,λ_ _=>rfl⟩,aj,aa.kp,MkN.nil _ _,y07 _⟩
 case hround =>
  rintro⟨⟨m,p⟩,ms⟩ w2 ⟨hm,tJ,mj,⟨R,K2,h2,yF,iQ⟩,ak,am,j0,oq⟩ ih;dsimp only at hm tJ mj h2 yF j0 ih⊢
  have M6:∀D,.mk D∈ms->¬H D:=λD z e=>by
   have:=j0.lo D z;have:=wP D e;omega
  try dsimp only
  refine SX O ?_;rcases y0D m with uR|uR
  ·subst uR;refine WZ O<|T0<|S5<|S9 O<|Sh O<|SE O<|Sq O ?_;have RQ:∀D,.mk D∈ms->D≠b1:=λD z e=>M6 D z (e▸dH);have eu:=z58 ms w2;have h3:=h2.own eu (λj e=>⟨.inr e,by have:=j0.lo j e;have:=cx j ω;exact this⟩);refine z9p j0.nd j0.m func81 O ?_;rw[show Z8 T.g G.g.length s.num s.ord 0 p=p from rfl] at tJ;subst tJ;exact⟨_,O,O,⟨R,K2,h3.less (λj B=> .inl (gA j B)) h.xk h.xr,ω,iQ⟩,(am.Se λb e=> .inl e).trans (eu.Se λb e=> .inl λC=>by have:=j0.lo b e;have:=bR b C;omega)⟩
  ·obtain⟨k,rfl⟩:∃k,m=k+1:=⟨m-1,ω⟩;rw[show((k+1:Nat):Int)-1=(k:Int) by omega];refine WZ O<|Ue ?_;obtain⟨fJ,gY⟩:=hF.d k ω;obtain⟨v,hv⟩:∃v,s.ord[k]? =some v:=⟨_,y04 ω⟩;have qr:s.ord.getD k 0=v:=Wy hv;obtain⟨cand,bb⟩:=p;have gj:=DwK.one (b:=bb) fH hT hF kZ (k:=k) ω mj hr
   have kS:dsV T.g G.g.length s.num s.ord (cand,bb) k=if VO cand v=dsC T.g G.g.length s.num cand v then(cand,bb) else(cand.set v (dsC T.g G.g.length s.num cand v),true):=by
    unfold dsV;rw[qr]
   rw[qr] at fJ gY;have gz:v<G.g.length:=fJ.lt fH hr;have PZ:v<T.g.length:=ω
   have jw:Z8 T.g G.g.length s.num s.ord k (dsV T.g G.g.length s.num s.ord (cand,bb) k)=D:=tJ;obtain⟨d1,d2,d3⟩:=gj;have xZ:=mj.n;dsimp only at xZ;have yb:nF s.num root<G.g.length:=ω
   have df:=λps=>FdI.pre (n:=G.g.length) hT mj.k.i yb ps;refine S5 (Sb O (S6 (TZ (qN O (qV (Sc U44 O O ak O) (Sf O (Sr z1l O (VE h2 (j:=4) (i:=k) (x:=v) ψ hv) ?_)))))));rintro _ w3⟨rfl,h3,ar⟩;have z3:=ar.size;have au:=ar.S4 ak (λe=>e (.inl (.inl (.inl dH))));have sV:=j0.kp ar (λD z e=>e (.inl (.inl (.inr z))));have cj:Kp (λb=>¬X b) w w3:=am.trans (ar.Se λb e C=>e (.inl (.inl (.inl (gA b C)))));refine Up O<|Sd O O (UK (cs:=[_]) T8 O) ?_;rintro _ w4⟨b5,rfl,gC,aA,aG⟩;refine Sm O (TO T8 O O O aG ξ) ?_;rintro w5⟨aF,ai⟩;replace aF:Sk w5 b5 [I ((4294967295:Nat):Int)] 3:=aF;have z4:=aA.size;have z5:=ai.size;have l4:=aG.lt;have bQ:Ext w3 w5:=aA.An ai λb e=>ω
   have dz:=bQ.S4 au;have h5:=h3.ext bQ;have sU:=sV.kp bQ.kp (S:=λ_=>False) (λ_ _ e=>e);obtain⟨a2,oJ⟩:=h5.dm;have iC:=oJ.cells;refine S5<|It<|qN O<|qV (Sc U44 O O dz O)<|SC O<|Sn zh0 O<|qV (Sc U28 O O iC O)<|Sf O<|Sr zis O (z5h T.k v _) ?_;rintro _ M⟨bk,bi,rfl,sI,tr,gN,uS,aM⟩;have z6:=aM.size;refine S5<|S7<|Wu (ps:=[27,28]) (p:=[]) (q:=[_,_]) O ziJ ?_;rintro l wl eG gD cR Q0 Rc P eR;have zl:=eG.size;have fW:=aM.trans eG;obtain⟨U,fX⟩:∃U:Nat->Prop,(λj=>(H j\/ .mk j∈ms)\/j=b5\/j=M.heap.size\/j=l)=U:=⟨_,O⟩;have gJ:∀j,(H j\/ .mk j∈ms)->U j:=λj B=>by rw[<-fX];exact .inl B
   have W:U b5/\U M.heap.size/\U l:=by rw[<-fX];exact⟨.inr (.inl O),.inr (.inr (.inl O)),.inr (.inr (.inr O))⟩
   have qs:∀j,H j->U j:=λj B=>gJ j (.inl B);have yd:∀j,X j->U j:=λj B=>qs j (gA j B);have ye:∀D,.mk D∈ms->U D:=λD z=>gJ D (.inr z)
   have uW:∀j,w.heap.size<=j->j≠T.k/\j≠T.x/\j≠G.k/\j≠G.x/\j≠1/\j≠2/\¬O_ j:=λj B=>by
    obtain⟨q1,q2,q3,q4,q5,q6,q7⟩:=cx j B;exact⟨q3,q4,q1,q2,q5,q6,q7⟩
   have HR:UL (Xj T.k root) G T Q R K2 (λb=>(H b\/ .mk b∈ms)\/b=b5) rr O_ a L {s with cand:=cand} w5:=h3.grow bQ (λj B=>B.imp id λe=>ω) (λj B=> .inl B);have J6:UL (Xj T.k root) G T Q R K2 U rr O_ a L {s with cand:=cand} wl:=HR.grow fW (λj B=>by rw[<-fX] at B;rcases B with e|e|e;exact .inl (.inl e);exact .inl (.inr e);exact .inr ω) (λj B=>by rw[<-fX];exact B.imp id .inl);have mm:=J6.zbM tH;have nO:Kp (λb=>¬X b) w wl:=cj.trans (bQ.trans fW).kp;have Jk:=fW.S4 dz;have Jl:=fW.S4 aF;have yM:=sU.kp fW.kp (S:=λ_=>False) (λ_ _ e=>e);have mn:∀D,.mk D∈ms->D≠l/\D≠b5/\D≠b1:=λD z=>⟨λe=>by have:=sV.hi D z;omega,λe=>by have:=sV.hi D z;omega,λe=>M6 D z (e▸dH)⟩
   refine SG.mono (z5P PZ mm (eG.S4 sI) (eG.S4 tr) (λj=>j=l\/j=b5) (λj B=>by
     rcases B with rfl|rfl
     ·exact W.2.2
     ·exact W.1)
    (λi txt' K' s' w'=>Rc .ready none w'/\txt'=R/\K'=K2/\s'={s with cand:=cand}/\w'.heap[M.heap.size]? =some (.deferred (some []))/\(Sk w' b1 [ptr rr 0] 44/\Sk w' b5 [I ((((Si T.g v).take i).foldl (meS G.g.length s.num cand) 4294967295:Nat):Int)] 3)/\MkN w1.heap.size ms w'/\Kp (λb=>¬X b) w w')
    (λ_ _ _ _=>False) ?_ ?_) ?_
   ·intro w7 hz fu;have cy:∀{j},U j->¬¬U j:=λB e=>e B;exact⟨fu.rc P eR (cy W.2.2),O,O,O,fu.heap Q0 (cy W.2.1),⟨fu.S4 Jk (cy (qs _ dH)),fu.S4 Jl (cy W.1)⟩,yM.kp fu (λD z e=>e (ye D z)),nO.trans (fu.Se λb e C=>e (yd b C))⟩
   ·rintro Y i u txt' K' s' w7 N mc a3 hs h7⟨CM,rfl,rfl,rfl,J8,⟨Jm,kC⟩,HW,oR⟩;have E:Y l/\Y b5/\Y b1/\Y M.heap.size:=⟨N _ W.2.2,N _ W.1,N _ (qs _ dH),N _ W.2.1⟩;have zp:∀D,.mk D∈ms->Y D:=λD z=>N _ (ye D z);have me:∀j,X j->Y j:=λj B=>N j (yd j B);have kU:u<G.g.length:=by have:=Vx tI v u (y0i hs);omega
    have cD:((Si T.g v).take (i+1)).foldl (meS G.g.length s.num cand) 4294967295=meS G.g.length s.num cand (((Si T.g v).take i).foldl (meS G.g.length s.num cand) 4294967295) u:=by
     rw[Tj hs,y2Y];rfl
    rw[cD];have jP:=df ((Si T.g v).take i);have fd:=jP.le;obtain⟨c,hc⟩:∃c,((Si T.g v).take i).foldl (meS G.g.length s.num cand) 4294967295=c:=⟨_,O⟩;rw[hc] at kC jP fd⊢;obtain⟨x,hx⟩:∃x,cand[u]? =some x:=⟨_,y04 ω⟩;have dp:=z3S hx;refine XH P CM O O<|TU O<|Sg O<|Sq O<|run_beginRound O P CM ?_;rintro w8 yY aH;have h8:=(h7.own aH (λj e=>by subst e;exact⟨E.1,uW _ ω⟩)).zjh du;have CV:=aH.S4 Jm ω;have tG:=aH.S4 kC ω;have Q4:=HW.kp aH (λD z e=>(mn D z).1 e);have EF:=aH.heap J8 ω;have z8:=aH.size;have jM:Kp (λb=>¬X b) w w8:=oR.trans (aH.Se λj e C=>by have:=bR j C;omega);refine S7<|SE O<|Sr zbp O (WE _) ?_;rintro _ w8 rfl;refine S5 (S7 (qN O (qV (Sc U44 O O CV O) (Sf O (qV (T7 O U0 U3 ω) (Sr z1l O (VE h8 (j:=2) (i:=u) (x:=x) ψ hx) ?_))))));rintro _ w9⟨rfl,h9,aK⟩;have mf:∀{j},Y j->¬¬xRu G T Y j:=λB e=>e (.inl (.inl B));have tK:=aK.S4 CV (mf E.2.2.1);have mg:=aK.S4 tG (mf E.2.1);have nS:=Q4.kp aK (λD z e=>mf (zp D z) e);have CR:=aK.heap EF (mf E.2.2.2);have xU:=aK.rc P yY (mf E.1);have jv:Kp (λb=>¬X b) w w9:=jM.trans (aK.Se λb e C=>e (.inl (.inl (me b C))));have qp:Kp (λb=>(¬Y b/\b≠G.rb)\/b=l\/b=b5) w7 w9:=(aH.Se λj e=> .inr (.inl e)).trans (aK.Se λj e=> .inl ⟨λC=>e (.inl (.inl C)),λC=>e (.inr C)⟩);by_cases dP:x=4294967295
    ·have Q7:meS G.g.length s.num cand c u=c:=z8a (by rw[dp];exact dP);rw[Q7];refine U7 O<|Ue<|Sq O<|SI.qb (e:=[(1,_),(2,_),(5,_),(6,_),(36,_)]) ?_;refine Sb O<|S6<|S2<|S2<|VY P xU ?_;intro wd kh F;exact⟨.inl ⟨O,txt',K',_,(h9.own F (λj e=>by subst e;exact⟨E.1,cx _ ω⟩)).zbM tH,kh,O,O,O,F.heap CR ω,⟨F.S4 tK ω,F.S4 mg ω⟩,nS.kp F (λD z e=>(mn D z).1 e),jv.trans (F.Se λj e C=>by have:=bR j C;omega)⟩,qp.trans (F.Se λj e=> .inr (.inl e))⟩
    ·have kE:VO cand u≠4294967295:=by rw[dp];exact dP
     refine U7 O<|T0<|Sq O<|SI.qb (e:=[(1,_),(2,_),(5,_),(6,_),(36,_)]) ?_;refine S9 O<|qN O<|qV (Sc U3 O O mg O) ?_;by_cases gL:c=4294967295
     ·subst gL;rw[z6e kE];refine U7 O (Ue (Sq O (Sb O (Uw O (qV (T7 O U0 U3 ω) (Sm O (TO T8 O O O mg ξ) ?_))))));rintro wa⟨qq,J⟩;have ha:=h9.own J (λj e=>by subst e;exact⟨E.2.1,cx _ ω⟩);have Jn:=J.rc P xU ω;refine S5<|S2<|S2<|VY P Jn ?_;intro wd kh F;exact⟨.inl ⟨O,txt',K',_,(ha.own F (λj e=>by subst e;exact⟨E.1,cx _ ω⟩)).zbM tH,kh,O,O,O,F.heap (J.heap CR ω) ω,⟨F.S4 (J.S4 tK ω) ω,F.S4 qq ω⟩,(nS.kp J (λD z e=>(mn D z).2.1 e)).kp F (λD z e=>(mn D z).1 e),(jv.trans (J.Se λj e C=>by have:=bR j C;omega)).trans (F.Se λj e C=>by have:=bR j C;omega)⟩,(qp.trans (J.Se λj e=> .inr (.inr e))).trans (F.Se λj e=> .inr (.inl e))⟩
     ·obtain⟨c',iZ,dx⟩:=z92 hT mj.k.i yb (jP.ok gL) kE gL;rw[dx];refine U7 O (T0 (Sq O (S9 O (Sg O (qV (Sc U44 O O tK O) (qV (Sc U3 O O mg O) (Sf O (qV (T7 O U0 U3 ω) (Sr zm7 O (zaB h9 hT.n mj.k.i.fo hr oD xZ (jP.ok gL) kE iZ) ?_)))))))));rintro _ wa⟨rfl,ha,J⟩;have Jo:=J.S4 tK (mf E.2.2.1);have qq:=J.S4 mg (mf E.2.1);have Q8:=nS.kp J (λD z e=>mf (zp D z) e);have Qa:=J.heap CR (mf E.2.2.2);have Jn:=J.rc P xU (mf E.1);have Jp:Kp (λb=>¬X b) w wa:=jv.trans (J.Se λb e C=>e (.inl (.inl (me b C))));have Jq:Kp (λb=>(¬Y b/\b≠G.rb)\/b=l\/b=b5) w7 wa:=qp.trans (J.Se λj e=> .inl ⟨λC=>e (.inl (.inl C)),λC=>e (.inr C)⟩);refine Sm O (TO T8 O O O qq ξ) ?_;rintro wb⟨xV,dq⟩;have Z:=ha.own dq (λj e=>by subst e;exact⟨E.2.1,cx _ ω⟩);have AI:=dq.rc P Jn ω;refine S5<|S2<|S2<|VY P AI ?_;intro wd kh F;exact⟨.inl ⟨O,txt',K',_,(Z.own F (λj e=>by subst e;exact⟨E.1,cx _ ω⟩)).zbM tH,kh,O,O,O,F.heap (dq.heap Qa ω) ω,⟨F.S4 (dq.S4 Jo ω) ω,F.S4 xV ω⟩,(Q8.kp dq (λD z e=>(mn D z).2.1 e)).kp F (λD z e=>(mn D z).1 e),(Jp.trans (dq.Se λj e C=>by have:=bR j C;omega)).trans (F.Se λj e C=>by have:=bR j C;omega)⟩,(Jq.trans (dq.Se λj e=> .inr (.inr e))).trans (F.Se λj e=> .inr (.inl e))⟩
   ·rintro v' wz⟨rfl,Y,a1,Kz,sz,N,mc,hz,⟨CS,rfl,rfl,rfl,CT,⟨Jm,kC⟩,Qb,eg⟩|Qc⟩
    ·refine⟨_,_,CS,ξ,λwy eD=>?_⟩;rw[y0K] at kC;have EG:(Si T.g v).foldl (meS G.g.length s.num cand) 4294967295=dsC T.g G.g.length s.num cand v:=rfl;rw[EG] at kC;have iJ:=(df (Si T.g v)).le;rw[EG] at iJ;obtain⟨dc,yf⟩:∃dc,dsC T.g G.g.length s.num cand v=dc:=⟨_,O⟩;rw[yf] at kC iJ kS;have zz:=eg.size;have zy:=eD.size;have CW:=eD.S4 Jm ω;have o5:=eD.S4 kC ω;have sP:=eD.heap CT ω;have Qd:=Qb.kp eD (λD z e=>(mn D z).1 e);have E:Y l/\Y b5/\Y b1/\Y M.heap.size:=⟨N _ W.2.2,N _ W.1,N _ (qs _ dH),N _ W.2.1⟩;have zp:∀D,.mk D∈ms->Y D:=λD z=>N _ (ye D z);have me:∀j,X j->Y j:=λj B=>N j (yd j B);have hy:=(hz.own eD (λj e=>by subst e;exact⟨E.1,uW _ ω⟩)).zjh du;have Jr:Kp (λb=>¬X b) w wy:=eg.trans (eD.Se λj e C=>by have:=bR j C;omega);obtain⟨x,hx⟩:∃x,cand[v]? =some x:=⟨_,y04 ω⟩;have dp:=z3S hx;rw[dp] at kS;have hg:=Ext.Sv wy;have A:∀{j},Y j->¬¬xRu G T Y j:=λB e=>e (.inl (.inl B));refine S2 (It (Ux (λw'=>Kp (λb=>¬xRu G T Y b) wy w') O (qT 0 O (λ_ hS=>(Sc U44 O O (hS.S4 CW (A E.2.2.1)) O)) hg.kp (St 1 O O hg.kp (qT 3 O (λ_ hS=>(Sc U3 O O (hS.S4 o5 (A E.2.1)) O)) hg.kp (VF 2 O z1l O (VE (hy.ext hg) (j:=2) (i:=v) (x:=x) ψ hx) ?_))))));rintro _ we⟨rfl,he,tL⟩;refine⟨hg.kp.trans tL,?_⟩;have gO:Kp (λb=>¬xRu G T Y b) wy we:=hg.kp.trans tL;have CX:Kp (λb=>¬X b) w we:=Jr.trans (gO.Se λb e C=>A (me b C) e);have yg:=gO.S4 CW (A E.2.2.1);have Js:=gO.S4 o5 (A E.2.1);have M7:=gO.heap sP (A E.2.2.2);have M8:=Qd.kp gO (λD z e=>A (zp D z) e)
     have ze:M.heap.size<we.heap.size:=by
      have:=gO.size;have:=hy.lt _ (.inl (.inl E.2.2.2));omega
     have zj:=sU.kp (aM.kp (S:=λ_=>False)) (λ_ _=>id)
     have Cq:∀j,(H j\/ .mk j∈(.mk M.heap.size::ms))->Y j:=λj B=>by
      rcases B with e| e
      ·exact N _ (qs _ e)
      ·rcases y0m.1 e with e| e
       ·cases e;exact E.2.2.2
       ·exact zp j e
     have M9:(H G.k\/ .mk G.k∈(.mk M.heap.size::ms))/\(H G.x\/ .mk G.x∈(.mk M.heap.size::ms))/\(H T.k\/ .mk T.k∈(.mk M.heap.size::ms))/\(H T.x\/ .mk T.x∈(.mk M.heap.size::ms))/\(H 1\/ .mk 1∈(.mk M.heap.size::ms))/\(H 2\/ .mk 2∈(.mk M.heap.size::ms)):=⟨.inl V.1,.inl V.2.1,.inl V.2.2.1,.inl V.2.2.2.1,.inl V.2.2.2.2.1,.inl V.2.2.2.2.2⟩;by_cases gp:x=dc
     ·rw[if_pos gp] at kS;rw[kS] at jw d1;refine S8 4 O (yne O O) (hg.kp.trans tL)<|WW<|qE<|VP O<|S2<|Uw O<|UO O<|Sq O ?_;exact(ih ((k,(cand,bb)),.mk M.heap.size::ms) we ⟨by show k<=s.fin-1;omega,jw,d1,⟨a1,Kz,he.less Cq M9 (λb Z=> .inl (ya b Z)),by show Kz+k<=_;omega,iQ⟩,yg,CX,zj.cons ω M8 M7 ze,ω⟩ (by show k<k+1;omega)).qb
     ·rw[if_neg gp] at kS;rw[kS] at jw d1;refine S8 4 O (yne O O) (hg.kp.trans tL) (Xl (qE (Sb O (qN O (qV (Sc U44 O O yg O) (Sf O (qV (Sc U3 O O Js O) (Sr z8P O (WL he ω (j:=2) (i:=v) (x:=dc) ψ (by show v<cand.length;omega) (by rcases iJ with h|h;exact h▸ψ;exact Nat.lt_trans h (by rw[xZ];omega))) ?_))))))));rintro _ wf⟨a0,hf,Qe,cO⟩;have Jt:=cO.S4 yg (A E.2.2.1);have Qf:=cO.heap M7 (A E.2.2.2);have Qg:=M8.kp cO (λD z e=>A (zp D z) e);have zf:=cO.size;have xa:Kp (λb=>¬X b) w wf:=CX.trans (cO.Se λb e C=>A (me b C) e);refine S5<|Sg O<|Sq O<|S2<|Uw O<|UO O<|Sq O ?_;exact(ih ((k,(cand.set v dc,true)),.mk M.heap.size::ms) wf ⟨by show k<=s.fin-1;omega,jw,d1,⟨a0,Kz+1,hf.less Cq M9 (λb Z=> .inl (ya b Z)),by show Kz+1+k<=_;omega,λy e=>(Qe y e).trans (iQ y e)⟩,Jt,xa,zj.cons ω Qg Qf ω,ω⟩ (by show k<k+1;omega)).qb
    ·exact Qc.elim
end
section
def z30 {u v:Nat}(h:Um g):u∈Si (Tb g) v↔v∈Si g u:=by
 have c:∀x y,y∈Si g x->x<g.length/\y<g.length:=λx y b=>by
  unfold Si at b;by_cases e:x<g.length
  ·rw[y04 e] at b;exact⟨e,h.lt _ (y1s e) y b⟩
  ·rw[y0n ω] at b;cases b
 by_cases l:v<g.length
 ·have e:Si (Tb g) v=(List.range g.length).filter λx=>decide (v∈Si g x):=by
   show((Tb g)[v]?.getD [])=_;rw[z2M g l];rfl
  rw[e,y1r,y0R];exact⟨λe=>of_decide_eq_true e.2,λe=>⟨(c u v e).1,decide_eq_true e⟩⟩
 ·have e:Si (Tb g) v=[]:=by
   show((Tb g)[v]?.getD [])=_;rw[y0n (by rw[TQ];omega)];rfl
  rw[e];exact⟨λe=>(by cases e),λe=>absurd (c u v e).2 l⟩
end
section
variable {P:Program}{e:Env}{t t' ty:TypeId}{d:Option Tmp}{x:Operand}{pos:String}{aft:Array Edge}{g:Option (Nat×Bool)}
def zmf {ms:Array (String×TypeId)}(ht:P.underlying t=some (.interface ms))(r:look e x=some .nilIface):Y P e ⟨d,.binOp .eql t x (.const .nilIface) t',ty,pos,aft,g⟩ (.bool true) w w:=fun ρ b=>by
 have c:(Op.equal t .nilIface .nilIface).run P w= .ok true w:=by
  have q:∀n,(Op.equalIn (n+1) t .nilIface .nilIface).run P w= .ok true w:=λn=>by simp[Op.equalIn,run_underlying ht]
  exact q 9999
 have h:eqGuard .eql t x (.const .nilIface) .nilIface .nilIface=pure ():=by cases x<;>rfl
 have l:binOp .eql t .nilIface .nilIface=(do pure (.bool (<-Op.equal t .nilIface .nilIface))):=rfl
 have m:ρ (.const .nilIface)= .nilIface:=b _ _ O
 simp only[execOp,b _ _ r,m,h,l,pure_bind,y09,c,Result.andThen,y05]
end
def DmS.go (g t:List (List Nat))(root:Nat)(s:DmS):DmS:=
 if s.T5 then {s with cand:=(Z8 t g.length s.num s.ord (s.fin-1) (s.cand,false)).1,done:= !(Z8 t g.length s.num s.ord (s.fin-1) (s.cand,false)).2}
 else if(s.Tg g 64).Sj=0 then {s.Tg g 64 with T5:=true,cand:=(s.Tg g 64).cand.set root root}
 else s.Tg g 64
section
variable {v:Nat}{s s':DmS}
theorem zdj:(s.go g t root).steps=s.steps:=by
 unfold DmS.go
 have b:=(WS (g:=g) 64 (s:=s)).1
 split
 ·rfl
 ·split
  ·exact b
  ·exact b
theorem z9j:s.step g t root={s.go g t root with steps:=s.steps+1}:=by
 unfold DmS.step DmS.go
 split
 ·rfl
 ·split
  ·rfl
  ·rfl
theorem zb8 (h:UL (Xj T.k root) G T Q txt K X rr O_ a L s w)(hJ:DmJ G.g root s)(hd:s.done=false)(ht:T.g=Tb G.g)(hr:root<G.g.length)(hK:K<=600000000000):SG prog 47 [ptr rr 0] w λ_ w'=>DmW G T Q txt K X rr root O_ a L 400 (s.go G.g T.g root) w w':=by
 have du:=h.m.n
 have A:=h.m.g.ok.gr
 have kZ:∀u v,u∈Si T.g v↔v∈Si G.g u:=λu v=>by rw[ht];exact z30 A
 have IX:T.g.length=G.g.length:=by rw[ht];exact TQ _
 obtain⟨a0,a4,a5,a6,a1⟩:=hJ.ls
 obtain⟨vb,hV⟩:=h.dm
 have hR:=hV.cells
 refine py (e:=[(0,_)]) func47 O ntmps47 O O<|SX O<|SC O<|Sn TJ O<|Sn zbt O<|qV (Sc U4 O O hR O)<|S5 ?_
 cases H:s.T5 with
 | true =>
   obtain⟨par,j,hT,hF,-,-,-,hI,-⟩:=hJ.sw H
   have f:s.go G.g T.g root={s with cand:=(Z8 T.g G.g.length s.num s.ord (s.fin-1) (s.cand,false)).1,done:= !(Z8 T.g G.g.length s.num s.ord (s.fin-1) (s.cand,false)).2}:=by
    unfold DmS.go;rw[if_pos H]
   rw[f];refine Sb O (TV O (Sr zoR O (z7U h ω hT hF hI hr kZ IX a0 a1) ?_));rintro _ w1⟨rfl,hW⟩;obtain⟨⟨l,M,B,DU,Z⟩,N⟩:=hW;obtain⟨a2,C⟩:=B.dm;have S:=C.cells;refine qV (Vn O) (SC O (Sn TJ O (Sn z0z O (Sm O (TO Xh O O O S ξ) ?_))));rintro w2⟨E,r⟩;have c:=B.zdU (s':={s with cand:=(Z8 T.g G.g.length s.num s.ord (s.fin-1) (s.cand,false)).1,done:= !(Z8 T.g G.g.length s.num s.ord (s.fin-1) (s.cand,false)).2}) C r E (z2e O O O O O);refine S5<|S3 func47 O ?_
   exact⟨_,O,⟨l,M,c,ω,Z⟩,N.trans (r.Se λb e=> .inr (by rw[e];exact C.o.1))⟩
 | false =>
   obtain⟨-,hI,hh,-⟩:=hJ.se H;refine VP O<|It<|TU O<|S7<|VB (λe' w'=>e'=[(0,ptr rr 0)]/\(∃txt' K',UL (Xj T.k root) G T Q txt' K' X rr O_ a L (s.Tg G.g 64) w'/\K'<=K+5*64/\∀y:Int,y<(a:Int)\/(a:Int)+(L:Int)<=y->txt' y=txt y)/\Kp (λb=>¬X b\/O_ b) w w') ?hk<|λhk=>?D3
   case hk=>
    rintro e' w1⟨rfl,⟨l,M,B,DU,Z⟩,N⟩;obtain⟨jG,-⟩:=Zb.Tg A 64 hI;have Ju:(s.Tg G.g 64).cand.length=G.g.length:=by rw[jG.cn];exact y0b
    have CZ:(s.Tg G.g 64).T5=false:=(WS (g:=G.g) 64 (s:=s)).2.1.trans H
    have f:s.go G.g T.g root=if(s.Tg G.g 64).Sj=0 then {s.Tg G.g 64 with T5:=true,cand:=(s.Tg G.g 64).cand.set root root} else s.Tg G.g 64:=by
     unfold DmS.go;rw[H];rfl
    rw[f];obtain⟨J,dy⟩:∃J,s.Tg G.g 64=J:=⟨_,O⟩;rw[dy] at B Ju CZ⊢;obtain⟨a2,C⟩:=B.dm;have S:=C.cells;refine SE O<|SC O<|Sn TJ O<|Sn YZ O<|qV (Sc U3 O O S O) ?_;by_cases uK:J.Sj=0
    ·rw[if_pos uK];refine U7 O (Ue (S5 (Sb O (SE O (SC O (Sn TJ O (Sn zbt O (Sm O (TO Xh O O O S ξ) ?_))))))));rintro w2⟨E,r⟩;have c:=B.zdU (s':={J with T5:=true}) C r E (z2e O O O O O);obtain⟨a3,F⟩:=c.dm;have D2:=F.cells;have hg:=Ext.Sv w2;refine S5 (Ux (λw'=>Kp (λb=>¬xRu G T X b) w2 w') O (St 0 O O hg.kp (St 1 O O hg.kp (S8 2 O (Tu O) hg.kp (S8 3 O (SN zbW O) hg.kp (qT 4 O (λ_ hS=>Sc U3 O O (hS.S4 D2 (λe=>e (.inl (.inl (c.xr _ F.o.1))))) O) hg.kp (St 5 O O hg.kp (S8 6 O (Tu O) hg.kp (S8 7 O (SN zbW O) hg.kp (qT 8 O (λ_ hS=>Sc U3 O O (hS.S4 D2 (λe=>e (.inl (.inl (c.xr _ F.o.1))))) O) hg.kp (VF 9 O z8P O (WL (c.ext hg) ω (j:=2) (i:=root) (x:=root) ψ (by show root<J.cand.length;omega) ω) ?_)))))))))));rintro _ w3⟨q,h3,tt,R⟩;refine⟨hg.kp.trans R,?_⟩;refine qE<|Tv func47 O ?_;exact⟨_,O,⟨q,M+1,h3,ω,λy e=>(tt y e).trans (Z y e)⟩,(N.trans (r.Se λb e=> .inr (by rw[e];exact C.o.1))).trans ((hg.kp.trans R).Se λb e=> .inl λe2=>e (.inl (.inl e2)))⟩
    ·rw[if_neg uK];refine U7 O<|T0<|Tt O<|Tv func47 O ?_;exact⟨_,O,⟨l,M,B,ω,Z⟩,N⟩
   case D3=>
    refine UW (α:=Nat×DmS) (0,s) (λy=>[(0,ptr rr 0),(2,I (y.1:Int))]) (λy w'=>y.1<=64/\DmS.Tg G.g (64-y.1) y.2=s.Tg G.g 64/\Zb G.g root y.2/\(∃txt' K',UL (Xj T.k root) G T Q txt' K' X rr O_ a L y.2 w'/\K'<=K+5*y.1/\∀y:Int,y<(a:Int)\/(a:Int)+(L:Int)<=y->txt' y=txt y)/\Kp (λb=>¬X b\/O_ b) w w') (λy=>64-y.1) ?hI ?hround
    case hI=>exact⟨y02 _,O,hI,⟨txt,K,h,y07 _,λ_ _=>rfl⟩,Kp.refl _ _⟩
    case hround=>
     rintro⟨i,D⟩ w2 ⟨hi,V,p,⟨z,K2,c,yF,iQ⟩,r⟩ ih;dsimp only at hi V p c yF ih⊢;obtain⟨a3,F⟩:=c.dm;have E:=F.cells
     try dsimp only
     refine SX O ?_;by_cases Jv:i<64
     ·have U:(if 0<D.Sj then(D.move G.g).Tg G.g (64-(i+1)) else D)=s.Tg G.g 64:=by
       rw[<-V,show 64-i=(64-(i+1))+1 by omega];rfl
      refine TW O<|Ue<|Sz O<|SC O<|Sn TJ O<|Sn YZ O<|qV (Sc U3 O O E O) ?_;by_cases W:0<D.Sj
      ·rw[if_pos W] at U;refine Ub O (Ue (Uj O (S5 (Sb O (S6 (TZ (Uw O (Sr zp5 O (zap c p W ω) ?_))))))));rintro _ w3⟨⟨q,K3,h3,RR,tt⟩,R⟩;obtain⟨uD,-⟩:=p.move A W;refine S5<|S2<|Uw O<|Tr O<|Sq O ?_;exact(ih (i+1,D.move G.g) _ ⟨by show i+1<=64;omega,U,uD,⟨q,K3,h3,by show K3<=K+5*(i+1);omega,λy e=>(tt y e).trans (iQ y e)⟩,r.trans R⟩ (by show 64-(i+1)<64-i;omega)).qb
      ·rw[if_neg W] at U;subst U;refine Ub O<|T0<|Uj O<|S5<|S9 O<|Sh O ?_;exact(hk _ _ ⟨O,⟨z,K2,c,ω,iQ⟩,r⟩).qb
     ·have dF:64-i=0:=ω
      rw[dF,show DmS.Tg G.g 0 D=D from rfl] at V;subst V;refine TW O<|T0<|Sf O<|Ua<|Ua<|Ua<|Td O<|S5<|S9 O<|Sh O ?_;exact(hk _ _ ⟨O,⟨z,K2,c,ω,iQ⟩,r⟩).qb
end
def z2v (w:World):SG prog 40 [.nilIface] w λv w'=>v=I 0/\w'=w:=by
 refine py (e:=[(0,_)]) func40 O ntmps40 O O<|qN O<|TR O<|S5<|S7<|qN O<|qV (zmf U20 O)<|S5<|Sb O<|qN O<|Up O<|Sq O<|S3 func40 O ?_
 exact⟨_,O,O,O⟩
section
variable {s s':DmS}
def z6B {b3:Nat}:zby prog 46 [ptr b1 0,ptr b2 0,ptr b3 0] w λu w'=>w'=w:=by
 refine z2B (e:=[(0,_),(1,_),(2,_)]) func46 O ntmps46 O O O O O O O O O O<|Sr znK O (z2v _) ?_
 rintro _ w⟨rfl,rfl⟩
 refine TR O<|TK O<|Tt O<|z4w O O O func46<|λa b=>⟨_,WJ b _ _ _ _ O,?_⟩
 exact⟨_,O,O⟩
theorem z8b (h:UL (Xj T.k root) G T Q txt K X rr O_ a L s w)(hJ:DmJ G.g root s)(ht:T.g=Tb G.g)(hr:root<G.g.length)(hK:K<=600000000000)(hd:s.done=false)(dJ:s.steps<=1000000000000):SG prog 15 [ptr rr 0] w λr w'=>r= .tuple #[.bool (s.step G.g T.g root).done,I 0]/\(∃txt' K',UL (Xj T.k root) G T Q txt' K' X rr O_ a L (s.step G.g T.g root) w'/\K'<=K+400/\∀y:Int,y<(a:Int)\/(a:Int)+(L:Int)<=y->txt' y=txt y)/\Kp (λb=>¬X b\/O_ b) w w':=by
 obtain⟨vb,hV⟩:=h.dm
 have hR:=hV.cells
 have rB:=h.xr _ hV.o.1
 have E:∀b,X b->b<w.heap.size:=λb hb=>h.lt b (.inl (.inl hb))
 have DY:=E _ rB
 have P:=h.far
 refine py (e:=[(0,_)]) func15 O ntmps15 O O<|qN O<|Sd O O (UD O (cs:=[ptr rr 0]) O) ?_
 rintro _ w1⟨b1,rfl,bT,p,t⟩
 refine Sd O O (UK (cs:=[_]) Xh O) ?_
 rintro _ w2⟨b2,rfl,bS,N,B⟩
 refine Sd O O (UK (cs:=[_]) z0p O) ?_
 rintro _ J⟨b3,rfl,dS,z,C⟩
 replace B:Sk w2 b2 [.bool false] 4:=B
 replace C:Sk J b3 [I 0] 45:=C
 have S:=(p.trans N).trans z
 have z1:=p.size
 have z2:=N.size
 have z3:=z.size
 have l1:=t.lt
 have l2:=B.lt
 have l3:=C.lt
 have D:=z.S4 (N.S4 t)
 have cd:=z.S4 B
 obtain⟨d,U⟩:∃d:Nat->Prop,(λj=>X j\/j=b1\/j=b2\/j=b3)=d:=⟨_,O⟩
 have V:∀j,X j->d j:=λj m=>by rw[<-U];exact .inl m
 have q:d b1/\d b2/\d b3:=by rw[<-U];exact⟨.inr (.inl O),.inr (.inr (.inl O)),.inr (.inr (.inr O))⟩
 have ez:∀j,w.heap.size<=j->¬O_ j:=λj m e=>by have:=E _ (h.xr _ e);omega
 have h3:UL (Xj T.k root) G T Q txt K d rr O_ a L s J:=h.grow S (λj m=>by rw[<-U] at m;exact m.imp id λe=>ω) V
 have gH:=S.S4 hR
 refine S5<|It<|qN O<|qV (Sc U44 O O D O)<|Sr z1v O (Vr h3) ?_
 rintro _ J⟨rfl,rfl⟩
 refine TR O<|TK O<|S5<|So O (λc0=>?_)<|λc0=>?_
 ·exact absurd O c0
 ·refine S6<|It<|qN O<|qV (Sc U44 O O D O)<|SC O<|Sn TJ O<|Sn z0z O<|qV (Sc U4 O O gH O)<|S5 ?_;rw[hd];refine VP O<|qN O<|qV (ymf (first:=[]) (caps:=[.tmp 1,.tmp 2,.tmp 3]) O O)<|zaH O O (ydf O)<|qM O<|qV (Sc U44 O O D O)<|Sr zoV O (zb8 h3 hJ hd ht hr hK) ?_;rintro _ w4 hW;obtain⟨⟨l,i,h4,Jj,kW⟩,H⟩:=hW;obtain⟨c,W⟩:=h4.dm
  have dX:Sk w4 rr [I (s.steps:Int),I ((s.go G.g T.g root).fin:Int),I ((s.go G.g T.g root).Sj:Int),.bool (s.go G.g T.g root).T5,.bool (s.go G.g T.g root).done,ptr G.k 0,ptr T.k 0,I (root:Int),ptr (c 0) 0,ptr (c 1) 0,ptr (c 2) 0,ptr (c 3) 0,ptr (c 4) 0,.bool false,.bool false] 103:=by
   have:=W.cells;rw[zdj] at this;exact this
  have f:∀{j},d j->w.heap.size<=j->¬(¬d j\/O_ j):=λm h e=>e.elim (λe=>e m) (ez _ h);have A:=H.S4 D (f q.1 ω);have ft:=H.S4 cd (f q.2.1 ω);have dj:=H.S4 C (f q.2.2 ω);have Qh:rr≠b1/\rr≠b2/\rr≠b3:=ω
  refine qM O (qV (Sc U44 O O A O) (SC O (Sn TJ O (Sn z73 O (qV (Sc U3 O O dX O) (Tr O (SC O (Sn TJ O (Sn z73 O (Sm O (TO T8 O O O dX ξ) ?_))))))))));rintro Z⟨F,n⟩;have LP:(s.step G.g T.g root).done=(s.go G.g T.g root).done:=by rw[z9j]
  have h6:UL (Xj T.k root) G T Q l i d rr O_ a L (s.step G.g T.g root) Z:=by
   rw[z9j];exact h4.zdU (s':={s.go G.g T.g root with steps:=s.steps+1}) W n F (z2e O O O O O)
  have gm:=n.S4 A ω;have iI:=n.S4 ft ω;have jS:=n.S4 dj ω;replace F:Sk Z rr [I ((s.steps:Int)+1),I ((s.go G.g T.g root).fin:Int),I ((s.go G.g T.g root).Sj:Int),.bool (s.go G.g T.g root).T5,.bool (s.go G.g T.g root).done,ptr G.k 0,ptr T.k 0,I (root:Int),ptr (c 0) 0,ptr (c 1) 0,ptr (c 2) 0,ptr (c 3) 0,ptr (c 4) 0,.bool false,.bool false] 103:=F;refine S5<|SI.qb (e:=[(1,_),(2,_),(3,_)]) ?_;refine qN O (qV (Sc U44 O O gm O) (SC O (Sn TJ O (Sn z0z O (qV (Sc U4 O O F O) (Sm O (TO Xh O O O iI ξ) ?_))))));rintro w7⟨mq,R⟩;have fR:=R.S4 jS ω;refine Sm O (TO z0p O O O fR ξ) ?_;rintro w8⟨gW,M⟩;have kg:=M.S4 mq ω;refine S5<|z2P func15 zoP (z6B (b1:=b1) (b2:=b2) (b3:=b3)) ?_;rintro u w' rfl;rw[LP];refine⟨_,.cell1 U4 O O ((kg).cell _) (.cell1 U45 O O ((gW).cell _) .nil),_,O,O,⟨l,i,?_,Jj,kW⟩,?_⟩
  ·exact((h6.own R (λj e=>by subst e;exact⟨q.2.1,P _ ω⟩)).own M (λj e=>by subst e;exact⟨q.2.2,P _ ω⟩)).less V h.xk h.xr
  ·have Jw:Kp (λb=>¬d b\/O_ b) J Z:=H.trans (n.Se λb e=> .inr (by rw[e];exact W.o.1));exact(((S.kp.trans (Jw.Se λb e=>e.imp (λe x=>e (V _ x)) id)).trans (R.Se λb e=> .inl λx=>by have:=E _ x;omega)).trans (M.Se λb e=> .inl λx=>by have:=E _ x;omega))
end
structure VsI (G T:GwP)(Q:UB)(txt:Int->Sa)(K a n:Nat)(X:Nat->Prop)(B i:Nat)(vb:Nat->Nat)(Y:Nat->Prop)(txt':Int->Sa)(w':World):Prop where
 g:Gw2 G T (Q.Tl (Th Q.L a i true)) txt' (K+i) Y w'
 xy:∀j,X j->Y j
 v:∀j,j<i->YJ (Q.Tl (Th Q.L a i true)) txt' (vb j) 4 (a+j) (List.replicate n 0) w'/\Y (vb j)/\B<=vb j
 ne:∀j,j<i->∀l,l<i->l≠j->vb l≠vb j
 y:∀y:Int,y<(a:Int)\/(a:Int)+5<=y->txt' y=txt y
section
variable {w4:World}{txt4 txt5:Int->Sa}{n B v:Nat}{Y:Nat->Prop}
theorem z8v {l:List Bool}{c:Bool}(h:a<=l.length):Th l a 0 c=l:=by
 refine y1f λi=>?_
 rw[VA ω,if_neg ω]
def z6c {l:List Bool}{a:Nat}(h:Pre l a):∀n,a+n<=l.length->Pre (Th l a n true) (a+n)
 |0,e=>by rw[z8v ω];exact h
 | n + 1, e => by
   have b:=z6c h n ω;have c:(Th l a n true).length=l.length:=TE ω;rw[<-z33 ω];exact z4G b ω
theorem VsI.zero (h:Gw2 G T Q txt K X w)(b:a<=Q.L.length):VsI G T Q txt K a n X B 0 vb X txt w:=by
 have e:Q.Tl (Th Q.L a 0 true)=Q:=by rw[z8v b];rfl
 refine⟨by rw[e];exact h,λ_ e=>e,λj c=>ω,λj c=>ω,λ_ _=>rfl⟩
theorem VsI.own (h:VsI G T Q txt K a n X B i vb Y txt' w)(l:Kp S' w w')(d:∀b,S' b->(Y b/\b≠G.k/\b≠G.x/\b≠T.k/\b≠T.x/\b≠1/\b≠2)/\∀j,j<i->b≠vb j):VsI G T Q txt K a n X B i vb Y txt' w':=
 ⟨h.g.own l λb e=>(d b e).1,h.xy,λj c=>⟨(h.v j c).1.kp l λe=>(d _ e).2 j c O,(h.v j c).2⟩,h.ne,h.y⟩
theorem VsI.next (h:VsI G T Q txt K a n X B i vb Y txt4 w4)(hi:i<5)(V:n<=100)(o:a+5<=Q.L.length)(f:K<=900000000000)(F:Kp (λb=>¬xRu G T Y b) w4 w5)(E:Sp ((Q.Tl (Th Q.L a i true)).Tl (Th (Q.Tl (Th Q.L a i true)).L (a+i) 1 true)) txt5 (K+i+1) (λb=>xRu G T Y b\/b=v) w5)(W:w4.heap.size<=v)(hB:B<=w4.heap.size)(r:YJ ((Q.Tl (Th Q.L a i true)).Tl (Th (Q.Tl (Th Q.L a i true)).L (a+i) 1 true)) txt5 v 4 (a+i) (List.replicate n 0) w5)(u:∀y:Int,y<((a+i:Nat):Int)\/((a+i:Nat):Int)+1<=y->txt5 y=txt4 y)(H:G.st+G.len<=a)(I:T.st+T.len<=a)(Z:Y rr/\rr≠G.k/\rr≠G.x/\rr≠T.k/\rr≠T.x/\rr≠1/\rr≠2):VsI G T Q txt K a n X B (i+1) (λj=>if j=i then v else vb j) (λj=>Y j\/j=v) txt5 w5:=by
 have M:(Th Q.L a i true).length=Q.L.length:=TE ω
 have e:(Q.Tl (Th Q.L a i true)).Tl (Th (Q.Tl (Th Q.L a i true)).L (a+i) 1 true)=Q.Tl (Th Q.L a (i+1) true):=by
  rw[show(Q.Tl (Th Q.L a i true)).L=Th Q.L a i true from rfl,z33 ω];rfl
 rw[e] at E r
 have J:∀j,Y j->j<w4.heap.size:=λj d=>h.g.lt j (.inl (.inl d))
 have z:∀j,j<i->vb j<v:=λj d=>by have:=J _ (h.v j d).2.1;omega
 have s:(Q.Tl (Th Q.L a (i+1) true)).L.length=(Q.Tl (Th Q.L a i true)).L.length:=by
  show(Th Q.L a (i+1) true).length=(Th Q.L a i true).length;rw[M,TE ω]
 refine⟨h.g.vec F E W r.lt O s ω H I (λy e=>u y (.inl ω)) (Kp.refl (S:=λb=>b=rr) _) Z,λj e=> .inl (h.xy j e),λj d=>?_,λj d l s N=>?_,λy e=>?_⟩
 ·by_cases C:j=i
  ·subst C;rw[if_pos O];exact⟨r,.inr O,ω⟩
  ·rw[if_neg C];obtain⟨R,D,U⟩:=h.v j ω;refine⟨((R.kp F (λe=>e (.inl (.inl D)))).z0c (λy m c=>?_)).q O s,.inl D,U⟩;rw[y0b,Wx V] at c;exact u y ω
 ·by_cases m:j=i
  ·rw[if_pos m];by_cases c:l=i
   ·omega
   ·rw[if_neg c];have:=z l ω;omega
  ·rw[if_neg m];by_cases c:l=i
   ·rw[if_pos c];have:=z j ω;omega
   ·rw[if_neg c];exact h.ne j ω l ω N
 ·rw[u y ω,h.y y e]
end
def z7V:zby prog 39 [ptr b1 0,ptr b2 0] w λu w'=>w'=w:=by
 refine z2B (e:=[(0,_),(1,_)]) func39 O ntmps39 O O O O O O O O O O<|Sr znK O (z2v _) ?_
 rintro _ w⟨rfl,rfl⟩
 refine TR O<|TK O<|Tt O<|z4w O O O func39<|λa b=>⟨_,WJ b _ _ _ _ O,?_⟩
 exact⟨_,O,O⟩
def zfo (g t root i:Nat)(vb:Nat->Nat):List Value:=[I 0,I 0,I 0,.bool false,.bool false,ptr g 0,ptr t 0,I (root:Int),if 0<i then ptr (vb 0) 0 else .pointer none,if 1<i then ptr (vb 1) 0 else .pointer none,if 2<i then ptr (vb 2) 0 else .pointer none,if 3<i then ptr (vb 3) 0 else .pointer none,if 4<i then ptr (vb 4) 0 else .pointer none,.bool false,.bool false]
theorem zdt {g t v:Nat}(hi:i<5):(zfo g t root i vb).set (0+8+i*1) (ptr v 0)=zfo g t root (i+1) (λj=>if j=i then v else vb j):=by
 obtain rfl|rfl|rfl|rfl|rfl:i=0\/i=1\/i=2\/i=3\/i=4:=ω
 all_goals rfl
section
variable {Y:Nat->Prop}{v:Nat}{s:DmS}
theorem z6n (h:Gw2 G T Q txt K X w)(hK:K<=500000000000)(du:G.g.length<=40)(aq:Um G.g)(ht:T.g=Tb G.g)(df:Pre Q.L a)(CE:G.st+G.len<=a)(CG:T.st+T.len<=a)(bN:a+5<=Q.L.length)(hr:root<G.g.length):SG prog 14 [ptr Q.s 0,ptr G.k 0,ptr T.k 0,I (root:Int)] w λv w'=>∃(rr:Nat)(O_:Nat->Prop) (txt':Int->Sa) (K':Nat),v= .tuple #[ptr rr 0,I 0]/\(∀b,O_ b->w.heap.size<=b)/\K'<=K+12/\UL (Xj T.k root) G T (Q.Tl (Th Q.L a 5 true)) txt' K' (λb=>X b\/O_ b) rr O_ a 5 (DmS.new G.g.length root) w'/\(∀y:Int,y<(a:Int)\/(a:Int)+5<=y->txt' y=txt y)/\Kp (λb=>¬X b) w w':=by
 have jQ:T.g.length=G.g.length:=by rw[ht];exact TQ _
 have Jy:Tk T.g=Tk G.g:=by rw[ht];exact YV aq
 have bR:=h.lt
 have M:=h.xk
 have P:=h.far
 refine py (e:=[(0,_),(1,_),(2,_),(3,_)]) func14 O ntmps14 O O<|qN O<|Vj O<|Sd O O (UK (cs:=[_]) z0p O) ?_
 rintro _ w1⟨r,rfl,En,aa,jy⟩
 replace jy:Sk w1 r [I 0] 45:=jy
 have z1:=aa.size
 have q1:=jy.lt
 have F:=h.grow aa (λj e=> .inl e) (λj e=>e)
 have iS:=Xx F.t
 rw[jQ] at iS
 have dC:=z43 F.t
 rw[Jy] at dC
 refine S5<|TZ<|SE O<|qV (T9 Zh O O)<|Sz O<|qV (T9 U28 O O)<|Td O<|Sz O<|qV (T9 U28 O O)<|Td O<|Sq O<|S9 O<|SE O<|Sr z3K O (Xx F.g) ?_
 rintro _ w1⟨rfl,rfl⟩
 refine Sf O<|Sr z3K O iS ?_
 rintro _ w1⟨rfl,rfl⟩
 refine TK O<|T0<|Sz O<|Sr zhR O (z43 F.g) ?_
 rintro _ w1⟨rfl,rfl⟩
 refine Sf O<|Sr zhR O dC ?_
 rintro _ w1⟨rfl,rfl⟩
 refine TK O<|T0<|Td O<|Sz O<|TW O<|T0<|Td O<|Sz O<|Sf O<|Sr z3K O (Xx F.g) ?_
 rintro _ w1⟨rfl,rfl⟩
 refine WZ O<|T0<|Td O<|Sq O<|SI.qb (e:=[(0,_),(1,_),(2,_),(3,_),(8,_),(9,_),(25,_)]) ?_
 refine VP O<|S2<|TV O<|Sf O<|qV (VI (cs:=[_,_,_,_,_,_,_,_,_,_,_,_,_,_,_]) zmF O zlH O O)<|Sd O O (UD O (cs:=[I 0,I 0,I 0,.bool false,.bool false,ptr G.k 0,ptr T.k 0,I (root:Int),.pointer none,.pointer none,.pointer none,.pointer none,.pointer none,.bool false,.bool false]) O) ?_
 rintro _ w2⟨rr,rfl,nt,ae,D4⟩
 refine Sd O O (UK (cs:=[_]) znE O) ?_
 rintro _ w3⟨bp,rfl,PA,ah,pP⟩
 refine Sm O (TO znE O O O pP ξ) ?_
 rintro B⟨gI,ao⟩
 replace gI:Sk B bp [ptr rr 0] 44:=gI
 have z2:=ae.size
 have z3:=ah.size
 have z4:=ao.size
 have q2:=D4.lt
 have q3:=pP.lt
 have cF:Ext w2 B:=ah.An ao λb e=>ω
 have cW:Ext w1 B:=ae.trans cF
 have bO:Ext w B:=aa.trans cW
 have Jz:=cW.S4 jy
 have JA:Sk B rr (zfo G.k T.k root 0 λ_=>0) 103:=cF.S4 D4
 obtain⟨q,qn⟩:∃q:Nat->Prop,(λj=>X j\/j=rr\/j=r\/j=bp)=q:=⟨_,O⟩
 have gA:∀j,X j->q j:=λj d=>by rw[<-qn];exact .inl d
 have m:q rr/\q r/\q bp:=by rw[<-qn];exact⟨.inr (.inl O),.inr (.inr (.inl O)),.inr (.inr (.inr O))⟩
 have h4:Gw2 G T Q txt K q B:=h.grow bO (λj d=>by rw[<-qn] at d;exact d.imp id λe=>ω) gA
 have iM:=P rr ω
 refine qM O<|qV (ymf (first:=[]) (caps:=[.tmp 10,.tmp 9]) O O)<|zaH O O (ydf O)<|S5<|SX O<|S5<|S7<|UW (α:=Nat) (0) (λi=>[(0,ptr Q.s 0),(1,ptr G.k 0),(3,I (root:Int)),(9,ptr r 0),(10,ptr bp 0),(54,I (i:Int))]) (λi w'=>i<=5/\(∃vb Y txt',VsI G T Q txt K a G.g.length q B.heap.size i vb Y txt' w'/\Sk w' rr (zfo G.k T.k root i vb) 103)/\Sk w' bp [ptr rr 0] 44/\Sk w' r [I 0] 45/\Kp (λb=>¬q b\/b=rr) B w') (λi=>5-i) ?hI ?hround
 case hI=>exact⟨y02 _,⟨_,q,txt,VsI.zero h4 ω,JA⟩,gI,Jz,Kp.refl _ _⟩
 case hround=>
  rintro i w5⟨hi,⟨vb,Y,D,c,D5⟩,yi,kB,ai⟩ ih;dsimp only;have z5:=ai.size;have o6:∀j,Y j->j<w5.heap.size:=λj d=>c.g.lt j (.inl (.inl d))
  try dsimp only
  refine qN O<|TW O<|S5<|It<|So O (λh0=>?_)<|λh0=>?_
  ·have eB:i<5:=ω
   have H:G.g.length<=100:=ω
   have Ad:(Q.Tl (Th Q.L a i true)).s=Q.s:=rfl;have Qj:(Q.Tl (Th Q.L a i true)).L.length=Q.L.length:=TE ω;have D6:Pre (Q.Tl (Th Q.L a i true)).L (a+i):=z6c df i ω;have Mb:=zdS c.g.sp c.g.lt ω D6 G.g.length 4 ω ω (by rw[Wx H,Qj];omega);rw[Wx H,Ad] at Mb;refine S6<|TZ<|SE O<|Up O<|Sz O<|Sr z3K O (Xx c.g.g) ?_;rintro _ w5⟨rfl,rfl⟩;refine Sr zp0 O Mb ?_;rintro _ w6⟨v,E,rfl,Qk,qd,R,EB,z⟩;have ry:∀{j},Y j->¬¬xRu G T Y j:=λd e=>e (.inl (.inl d));have D8:=c.next eB H bN ω z qd Qk z5 R EB CE CG ⟨c.xy _ m.1,iM⟩;have JB:=z.S4 D5 (ry (c.xy _ m.1));have W:=z.S4 yi (ry (c.xy _ m.2.2));have yj:=z.S4 kB (ry (c.xy _ m.2.1));have iT:Kp (λb=>¬q b\/b=rr) B w6:=ai.trans (z.Se λb e=> .inl λn=>e (.inl (.inl (c.xy b n))));refine Sf O<|Vk O<|Vj O<|TR O<|Sr zbp O (WE _) ?_;rintro _ w6 rfl;refine S5 (Sg O (qV (Sc U44 O O W O) (Sz O (SC O (Sn X5 O (qV (yia z1c ZZ O O ω) (Sm O (TO ZZ O O O JB (by show _<15;omega)) ?_)))))));rintro w7⟨tM,C⟩;replace tM:Sk w7 rr ((zfo G.k T.k root i vb).set (0+8+i*1) (ptr v 0)) 103:=tM;rw[zdt eB] at tM
   have JC:=D8.own C (λb e=>by
    subst e;refine⟨⟨.inl (c.xy _ m.1),iM⟩,λj d=>?_⟩;have:=(D8.v j d).2.2
    omega)
   refine S5<|S2<|Sg O<|Tr O<|Sf O<|S5 ?_;exact(ih (i+1) _ ⟨ω,⟨_,_,E,JC,tM⟩,C.S4 W ω,C.S4 yj ω,iT.trans (C.Se λb e=> .inr e)⟩ ω).qb
  ·have eB:i=5:=ω
   subst eB;obtain⟨O_,hO⟩:∃O_:Nat->Prop,(λb=>b=rr\/∃j,j<5/\b=vb j)=O_:=⟨_,O⟩;have f:O_ rr/\∀j,j<5->O_ (vb j):=by rw[<-hO];exact⟨.inl O,λj d=> .inr ⟨j,d,O⟩⟩
   have J:∀b,O_ b->w.heap.size<=b/\b≠r/\b≠bp:=λb l=>by
    rw[<-hO] at l;rcases l with e|⟨j,d,e⟩
    ·omega
    ·have:=(c.v j d).2.2;omega
   have S:∀b,O_ b->Y b:=λb l=>by
    rw[<-hO] at l;rcases l with e|⟨j,d,e⟩
    ·rw[e];exact c.xy _ m.1
    ·rw[e];exact(c.v j d).2.1
   obtain⟨o,zu⟩:∃o,Q.Tl (Th Q.L a 5 true)=o:=⟨_,O⟩
   have V:DmV o D G.k T.k root rr O_ a 5 ⟨0,0,0,false,false,List.replicate G.g.length 0,List.replicate G.g.length 0,List.replicate G.g.length 0,List.replicate G.g.length 0,List.replicate G.g.length 0⟩ vb w5:=by
    rw[<-zu];refine⟨f,λj d=>⟨by have:=(c.v j d).2.2;omega,λi hi bB=>c.ne j d i hi bB⟩,D5,λj d=>?_,rfl⟩;have Ql:=(c.v j d).1;obtain rfl|rfl|rfl|rfl|rfl:j=0\/j=1\/j=2\/j=3\/j=4:=ω
    all_goals exact⟨Ql,by show(List.replicate G.g.length 0).length<=100;rw[y0b];omega⟩
   have A:=c.g;rw[zu] at A
   have iC:UL (Xj T.k root) G T o D (K+5) Y rr O_ a 5 ⟨0,0,0,false,false,List.replicate G.g.length 0,List.replicate G.g.length 0,List.replicate G.g.length 0,List.replicate G.g.length 0,List.replicate G.g.length 0⟩ w5:=
    ⟨⟨A.g,⟨vb,V⟩,λb l=> .inl (S b l),f.1,λb l=>by
     have:=P b (J b l).1
     exact⟨this.1,this.2.1,this.2.2.2.2.1,this.2.2.2.2.2⟩,CE,du⟩,A.t,S,A.xk,λb l=>by
     have:=P b (J b l).1
     exact⟨this.2.2.1,this.2.2.2.1⟩,CG⟩
   have H:(List.replicate G.g.length 0).length<=100:=by rw[y0b];omega
   have jP:=V.zf9 (j:=0) ψ;have kX:∀{j},Y j->¬¬xRu G T Y j:=λd e=>e (.inl (.inl d));refine Sh O (qN O (qV (Sc U44 O O yi O) (SC O (Sn X5 O (qV (yia z1c ZZ O O ω) (qV (Sc z2W O O V.cells O) (Sr zkf O (z1L iC.sp iC.lt ω (V.vs 0 ψ).1 (.inl (.inl (S _ (f.2 0 ψ)))) (x:=4294967295) ψ) ?_)))))));rintro _ w6⟨rfl,U⟩;rw[show(DmS.vec _ 0)=List.replicate G.g.length 0 from rfl,Wx H,y0b] at U;obtain⟨E,h6,R,EB,z⟩:=iC.z52 (j:=0) V ψ (by show(List.replicate _ _).length=(List.replicate _ _).length;rw[y0b,y0b]) ω U;have W:=z.S4 yi (kX (c.xy _ m.2.2));have yj:=z.S4 kB (kX (c.xy _ m.2.1));refine Sr zbp O (WE _) ?_;rintro _ w6 rfl;refine qM O (qV (Sc U44 O O W O) (SC O (Sn X5 O (qV (yia z1c ZZ O O ω) (qV (Sc z2W O O R.cells O) (Sr zkf O (z1L h6.sp h6.lt ω (R.vs 2 ψ).1 (.inl (.inl (S _ (f.2 2 ψ)))) (x:=4294967295) ψ) ?_))))));rintro _ w7⟨rfl,U⟩;rw[show(DmS.vec _ 2)=List.replicate G.g.length 0 from rfl,Wx H,y0b] at U;obtain⟨a0,h7,RS,Ew,C⟩:=h6.z52 (j:=2) R ψ (by show(List.replicate _ _).length=(List.replicate _ _).length;rw[y0b,y0b]) ω U;have Da:=C.S4 W (kX (c.xy _ m.2.2));have JD:=C.S4 yj (kX (c.xy _ m.2.1));refine Sr zbp O (WE _) ?_;rintro _ w7 rfl;refine qM O (qV (Sc U44 O O Da O) (Sf O (Sr zlh O (z4U h7 ω (v:=root) ⟨by show root<(List.replicate _ _).length;rw[y0b];exact hr,by show root<(List.replicate _ _).length;rw[y0b];exact hr⟩ (by show 0<(List.replicate _ _).length;rw[y0b];omega)) ?_)));rintro _ w8 rH;obtain⟨⟨Z,K8,h8,RT,IM⟩,aH⟩:=rH;have qR:∀{j},Y j->¬O_ j->¬(¬Y j\/O_ j):=λF h2 e=>e.elim (λe=>e F) h2;have Db:¬O_ r:=λe=>(J r e).2.1 O;have JE:¬O_ bp:=λe=>(J bp e).2.2 O;have JF:=aH.S4 Da (qR (c.xy _ m.2.2) JE);have xH:=aH.S4 JD (qR (c.xy _ m.2.1) Db);refine qM O (qV (Sc U44 O O JF O) (Vj O (Sm O (TO z0p O O O xH ξ) ?_)));rintro w9⟨yk,aK⟩;replace yk:Sk w9 r [I 0] 45:=yk;refine S5<|SI.qb (e:=[(8,_),(9,_)]) ?_;refine z2P func14 zoT (z7V (b1:=bp) (b2:=r)) ?_;rintro u w' rfl;have N:=P r ω
   have h9:=h8.own aK (λj e=>by
    rw[e]
    exact⟨c.xy _ m.2.1,N.1,N.2.1,N.2.2.1,N.2.2.2.1,N.2.2.2.2.1,N.2.2.2.2.2,Db⟩)
   have JG:∀b,X b->b<w.heap.size:=λb l=>bR b (.inl (.inl l));have p:∀b,X b->Y b:=λb l=>c.xy b (gA b l);have BN:=h9.less (X:=λb=>X b\/O_ b) (λb e=>e.elim (p b) (S b)) ⟨.inl M.1,.inl M.2.1,.inl M.2.2.1,.inl M.2.2.2.1,.inl M.2.2.2.2.1,.inl M.2.2.2.2.2⟩ (λb e=> .inr e);refine⟨_,.tmp O (.cell1 U45 O O ((yk).cell _) .nil),_,O,rr,O_,Z,K8,O,λb l=>(J b l).1,ω,?_,λy hy=>?_,?_⟩
   ·rw[zu];exact BN
   ·rw[IM y hy,Ew y hy,EB y hy,c.y y hy]
   ·refine((((bO.kp.trans (ai.Se λb e n=>?_)).trans (z.Se λb e n=>e (.inl (.inl (p b n))))).trans (C.Se λb e n=>e (.inl (.inl (p b n))))).trans (aH.Se λb e n=>?_)).trans (aK.Se λb e n=>by have:=JG _ n;omega)
    ·rcases e with e| e
     ·exact e (gA b n)
     ·have:=JG _ n;omega
    ·rcases e with e| e
     ·exact e (p b n)
     ·have:=(J b e).1;have:=JG _ n;omega
end
def dmV (c:Nat):Nat:=if c=4294967295 then 18446744073709551615 else c
section
variable {v:Nat}{s:DmS}
def z7u (h:UL (Xj T.k root) G T Q txt K X rr O_ a L s w):SG prog 37 [ptr G.k 0] w λv w'=>v=I (G.g.length:Int)/\w'=w:=Xx h.m.g
theorem z9x (h:UL (Xj T.k root) G T Q txt K X rr O_ a L s w):SG prog 28 [ptr rr 0] w λv w'=>v=I (G.g.length:Int)/\w'=w:=by
 obtain⟨vb,c⟩:=h.dm
 have b:=c.cells
 refine py (e:=[(0,_)]) func28 O ntmps28 O O<|TU O<|SX O<|qV (T9 U44 O O)<|Tt O<|SE O<|SC O<|Sn z0Q O<|qV (Sc U28 O O b O)<|Sr z3K O (z7u h) ?_
 rintro _ w⟨rfl,rfl⟩
 refine Sq O<|S3 func28 O ?_
 exact⟨_,O,O,O⟩
theorem z9m (h:UL (Xj T.k root) G T Q txt K X rr O_ a L s w):SG prog 20 [ptr rr 0] w λv w'=>v=I (s.steps:Int)/\w'=w:=by
 obtain⟨vb,c⟩:=h.dm
 have b:=c.cells
 refine py (e:=[(0,_)]) func20 O ntmps20 O O<|TU O<|SX O<|qV (T9 U44 O O)<|Tt O<|SE O<|SC O<|Sn TJ O<|Sn z73 O<|qV (Sc U3 O O b O)<|Sq O<|S3 func20 O ?_
 exact⟨_,O,O,O⟩
theorem zdK (h:UL (Xj T.k root) G T Q txt K X rr O_ a L s w)(u:s.done=true){v x:Nat}(n:s.cand[v]? =some x):SG prog 19 [ptr rr 0,I (v:Int)] w λr w'=>r= .tuple #[Su (dmV x),I 0]/\UL (Xj T.k root) G T Q txt K X rr O_ a L s w'/\Kp (λb=>¬xRu G T X b) w w':=by
 obtain⟨vb,d⟩:=h.dm
 have l:=d.cells
 rw[u] at l
 have y:=((d.vs 2 ψ).1.zfZ n).1
 refine py (e:=[(0,_),(1,_)]) func19 O ntmps19 O O<|qN O<|To O<|SX O<|Sr z1v O (Vr h) ?_
 rintro _ w⟨rfl,rfl⟩
 refine TR O<|TK O<|Tt O<|SX O<|SC O<|Sn TJ O<|Sn z0z O<|qV (Sc U4 O O l O)<|qV (Vn O) ?_
 rw[show(!true)=false from rfl]
 refine Tt O<|SE O<|SC O<|Sn X5 O<|qV (yia z1c ZZ O O ω)<|qV (Sc z2W O O l O)<|Sf O<|Sr zjP O (z5V h.sp h.lt h.m.g.z9z (d.vs 2 ψ).1 (.inl (.inl (h.xr _ (d.o.2 2 ψ)))) n) ?_
 rintro _ w1⟨rfl,q,c⟩
 refine Sf O<|Vk O<|To O<|SI.qb (e:=[(4,_),(5,_),(7,_),(8,_)]) ?_
 refine SX O ?_
 unfold dmV
 by_cases e:x=4294967295
 ·rw[if_pos e];refine U7 O<|Ue<|S5<|Sb O<|SE O<|To O<|S3 func19 O ?_;exact⟨_,O,O,h.read c q,c⟩
 ·rw[if_neg e];refine U7 O<|T0<|Tt O<|TV O<|To O<|S3 func19 O ?_;exact⟨_,O,O,h.read c q,c⟩
def z7B {α:Type}{f:Nat->α}{v:α}(h:((List.range 5).map f)[j]? =some v):j<5/\v=f j:=by
 rw[y0l] at h
 by_cases e:j<5
 ·rw[y1z e] at h;exact⟨e,(UC h).symm⟩
 ·rw[y0n (by rw[y16];omega)] at h;cases h
def zhF {α:Type}{f:Nat->α}{v:α}(h:v∈(List.range 5).map f):∃j,j<5/\v=f j:=by
 obtain⟨j,b,e⟩:=y0k.1 h
 exact⟨j,y0R.1 b,e.symm⟩
def zkH {f:Nat->Vc1}{l:List Bool}(b:∀j,j<5->(f j).st=a+j/\(f j).len=1)(h:a+5<=l.length):Zm l ((List.range 5).map f)=Th l a 5 false:=by
 have e:∀n,n<=5->Zm l ((List.range n).map f)=Th l a n false:=λn=>by
  induction n with
  | zero =>
    intro _;show l=_;refine y1f λi=>?_
    rw[VA ω,if_neg ω]
  | succ n c =>
    intro d;rw[y0T,y0f,y2B,z38,c ω,(b n ω).1,(b n ω).2];exact z33 ω
 exact e 5 (y07 _)
theorem z9G (h:UL (Xj T.k root) G T Q txt K X rr O_ a L s w)(yl:2<=a)(E:a+5<=Q.L.length)(ym:∀i,a<=i->i<a+5->Q.L[i]? =some true):SG prog 17 [ptr rr 0] w λr w'=>r=I 0/\∃txt',Gw2 G T (Q.Tl (Th Q.L a 5 false)) txt' K X w'/\(∀y:Int,y<(a:Int)\/(a:Int)+5<=y->txt' y=txt y)/\Kp (λb=>¬X b\/O_ b) w w':=by
 have du:=h.m.n
 have xF:=h.YA
 have JI:=h.m.YA
 obtain⟨vb,l⟩:=h.dm
 have M:=l.cells
 have rB:=h.xr _ l.o.1
 have N:∀b,xRu G T X b->b<w.heap.size:=h.lt
 have P:∀b,O_ b->b≠G.k/\b≠G.x/\b≠T.k/\b≠T.x/\b≠1/\b≠2:=λb U=>by
  have D:=h.m.ne b U;have p:=h.nk b U;exact⟨D.1,D.2.1,p.1,p.2,D.2.2.1,D.2.2.2⟩
 obtain⟨A,z⟩:∃A:List Vc1,(List.range 5).map (λj=>(⟨vb j,4,a+j,s.vec j⟩:Vc1))=A:=⟨_,O⟩
 have B:∀j,j<5->(⟨vb j,4,a+j,s.vec j⟩:Vc1).st=a+j/\(⟨vb j,4,a+j,s.vec j⟩:Vc1).len=1:=λj c=>⟨O,Wx (l.vs j c).2⟩
 have L0:A.length=5:=by rw[<-z,y0h,y16]
 have aO:∀v∈A,xRu G T X v.vb/\a<=v.st/\v.st+v.len<=a+5:=λv d=>by
  rw[<-z] at d;obtain⟨j,c,rfl⟩:=zhF d;obtain⟨e1,F⟩:=B j c;exact⟨.inl (.inl (h.xr _ (l.o.2 j c))),ω,ω⟩
 have yn:∀v∈A,O_ v.vb/\v.vb≠rr:=λv d=>by
  rw[<-z] at d;obtain⟨j,c,rfl⟩:=zhF d;exact⟨l.o.2 j c,λe=>(l.ne j c).1 e.symm⟩
 have zT:zaF A:=λi j u v V d gR=>by
  rw[<-z] at V d;obtain⟨hi,rfl⟩:=z7B V;obtain⟨c,rfl⟩:=z7B d;obtain⟨e1,F⟩:=B i hi;obtain⟨e3,e4⟩:=B j c;exact⟨(l.ne j c).2 i hi gR,ω⟩
 have fC:Zm Q.L A=Th Q.L a 5 false:=by rw[<-z];exact zkH B E
 refine py (e:=[(0,_)]) func17 O ntmps17 O O<|TU O<|TZ<|SE O<|qV (T9 U44 O O)<|Sq O<|S9 O<|SE O<|SC O<|Sn ZR O<|qV (Sc U4 O O M O)<|Sq O ?_
 have JJ:∀(j:Nat)(v:Vc1),A[j]? =some v->YJ Q txt v.vb v.width v.st v.xs w:=λj v c=>by
  rw[<-z] at c;obtain⟨zS,rfl⟩:=z7B c;exact(l.vs j zS).1
 refine VP O<|S2<|SX O<|SC O<|Sn X5 O<|qV (SO z1c O z61 O (Sk.cells (n:=5) M (news:=[_,_,_,_,_]) O) O)<|Sf O<|S5<|S7<|UW (α:=Nat) (0) (λi=>[(0,ptr rr 0),(17,.agg #[ptr (vb 0) 0,ptr (vb 1) 0,ptr (vb 2) 0,ptr (vb 3) 0,ptr (vb 4) 0]),(18,I (i:Int))]) (λi w'=>i<=5/\zbh Q txt K (xRu G T X) A a 5 w i w') (λi=>5-i) ?hI ?hround
 case hI=>exact⟨y02 _,.zero h.sp JJ⟩
 case hround=>
  rintro i w4⟨hi,S⟩ ih
  try dsimp only
  refine qN O<|TW O<|S5<|It<|So O (λJ=>?_)<|λJ=>?_
  ·have H:i<5:=ω
   obtain⟨v,d⟩:∃v,A[i]? =some v:=⟨_,y04 ω⟩
   have tN:(#[ptr (vb 0) 0,ptr (vb 1) 0,ptr (vb 2) 0,ptr (vb 3) 0,ptr (vb 4) 0]:Array Value)[i]? =some (ptr v.vb 0):=by
    have R:=d;rw[<-z] at R;obtain⟨-,rfl⟩:=z7B R;obtain rfl|rfl|rfl|rfl|rfl:i=0\/i=1\/i=2\/i=3\/i=4:=ω
    all_goals rfl
   refine S6<|TZ<|qN O<|qV (yxa z1c ZZ z2W O O O H (v:=ptr v.vb 0) tN)<|Sq O<|SX O<|qV (T9 z2W O O)<|Tt O<|SE O<|Sr znN O (S.next N d aO zT yl E ym) ?_;rintro _ w5⟨rfl,kC⟩;refine TR O<|TK O<|Tt O<|S2<|Sg O<|Tr O<|Sf O<|S5 ?_;exact(ih (i+1) _ ⟨ω,kC⟩ ω).qb
  ·have H:i=5:=ω
   subst H;obtain⟨⟨q,W,-,f⟩,ao⟩:=S;rw[y0B ω,fC] at W;have C:Kp (λb=>¬xRu G T X b\/(O_ b/\b≠rr)) w w4:=ao.Se λb e=>e.imp id λ⟨v,d,e⟩=>by rw[e];exact yn v d
   have J:Gw2 G T Q txt K X w:=⟨h.m.g,h.t,h.xk⟩;have z4:=C.size;have h4:Gw2 G T (Q.Tl (Th Q.L a 5 false)) q K X w4:=J.upd C (λb e=>e.imp id λe=>⟨h.xr _ e.1,P b e.1⟩) (λ_ e=>e) (λ_ e=> .inl e) (λj e=>by have:=N j (.inl (.inl e));omega) W O (TE E) h.m.g.z9z (λy e=>f y (.inl ω));have dX:=C.S4 M (λe=>e.elim (λe=>e (.inl (.inl rB))) λe=>e.2 O);refine Sh O (SE O (SC O (Sn ZR O (Sm O (TO Xh O O O dX ξ) ?_))));rintro w6⟨eZ,Z⟩;refine qM O<|Sq O<|S3 func17 O ?_;exact⟨_,O,O,q,h4.own Z (λj e=>by rw[e];exact⟨rB,P rr l.o.1⟩),f,(C.Se λb e=>e.imp (λe F=>e (.inl (.inl F))) And.left).trans (Z.Se λb e=> .inr (by rw[e];exact l.o.1))⟩
end
section
end
def rN (x:Nat):Int:=if x=4294967295 then -1 else if x=4294967294 then -2 else(x:Int)
def rC (x:Nat):Int:=if x=4294967295 then -1 else(x:Int)
structure RdS (B:Nat)(GS TS:Value)(n root mb bn cn bl bc cc:Nat)(vs vo:Value)(s:DmS)(cl:Bool)(w:World):Prop where
 run:Sk w mb [GS,TS,I (root:Int),.slice (some ⟨bn,0,none⟩) n cn,.slice (some ⟨bl,0,none⟩) n n,vs,vo,.slice (some ⟨bc,0,none⟩) n cc,I (s.steps:Int),.bool (!s.T5),.bool s.done,.bool cl] 71
 nu:∃rest,Sk w bn (s.num.map (λx=>I (rN x))++rest) 3
 l:Sk w bl (s.looked.map λx:Nat=>I (x:Int)) 3
 c:∃rest,Sk w bc (s.cand.map (λx=>I (rC x))++rest) 3
 st:Sl w vs 3 1 s.Sj ((s.Wv.take s.Sj).map λx:Nat=>I (x:Int))
 od:Sl w vo 3 1 s.fin ((s.ord.take s.fin).map λx:Nat=>I (x:Int))
 ln:s.num.length=n/\s.looked.length=n/\s.cand.length=n
 ap:mb≠bn/\mb≠bl/\mb≠bc/\bn≠bl/\bn≠bc/\bl≠bc
 sa:∀b,vs.ownBlock=some b->B<=b/\b≠mb/\b≠bn/\b≠bl/\b≠bc/\vo.ownBlock≠some b
 oa:∀b,vo.ownBlock=some b->B<=b/\b≠mb/\b≠bn/\b≠bl/\b≠bc
 lo:B<=mb/\B<=bn/\B<=bl/\B<=bc
theorem Sl.S4 {g n cap:Nat}{e:TypeId}{cs:List Value}(h:Sl w (.slice (some ⟨g,0,none⟩) n cap) e 1 n cs):∃rest,Sk w g (cs++rest) e:=by
 obtain⟨b,c,l,m,q,d⟩:=h.row
 refine⟨b.drop (n*1),?_⟩
 rw[<-d,y1c]
 exact c.S4
section
variable {gb go gc tb tO tc:Nat}
theorem YP (hg:GrR w gb go g)(H:g.length<=60)(l:∀v,(Si g v).length<=60):SG prog 56 [.slice (some ⟨gb,go,none⟩) g.length gc] w λv w'=>v=I (Tk g:Int)/\w'=w:=by
 obtain⟨sm,h⟩:∃sm:Nat->Nat,(λv=>((List.range v).map λx=>(Si g x).length).sum)=sm:=⟨_,O⟩
 have z:sm 0=0:=by rw[<-h];rfl
 have m:∀v,sm (v+1)=sm v+(Si g v).length:=λv=>by
  rw[<-h];show((List.range (v+1)).map _).sum=_;rw[y0T,y0f,y15,y2B,y0L,y1E,y1b]
 have B:∀v,sm v<=v*60:=λv=>by
  induction v with
  |zero=>omega
  |succ v d=>have:=m v;have:=l v;omega
 have q:Tk g=sm g.length:=by rw[z0k,<-h]
 refine py (e:=[(0,_)]) func56 O ntmps56 O O<|qN O<|Up O<|Sq O<|It<|TU O<|S7<|UW (α:=Nat×Nat) (0,0) (λy=>[(0,.slice (some ⟨gb,go,none⟩) g.length gc),(3,I (y.2:Int)),(4,I (y.1:Int))]) (λy w'=>y.1<=g.length/\y.2=sm y.1/\w'=w) (λy=>g.length-y.1) ?hI ?hround
 case hI=>exact⟨y02 _,z.symm,O⟩
 case hround=>
  rintro⟨v,s⟩ w' ⟨D,n,rfl⟩ d;dsimp only at D n d⊢;subst n;have E:=B v
  try dsimp only
  refine It<|TV O<|UR Xw O<|TW O<|S5<|So O (λC=>?_)<|λC=>?_
  ·have b:v<g.length:=ω
   have r:g[v]? =some (Si g v):=by unfold Si;rw[y04 b];rfl
   obtain⟨a,c,u,F⟩:=hg v _ r;have J:=l v;refine S6 (TZ (Sg O (Sz O (Sf O (qV (Tm Xw VR O O ω) (qV (SQ SR O O u) (UR SR O (Tr O (Sq O (S2 (Uw O (Tr O (Sq O ?_)))))))))))));rw[show(sm v:Int)+((Si g v).length:Int)=((sm (v+1):Nat):Int) by rw[m];push_cast;rfl];exact(d (v+1,sm (v+1)) _ ⟨by show v+1<=g.length;omega,rfl,rfl⟩ (by show g.length-(v+1)<g.length-v;omega)).qb
  ·have b:v=g.length:=ω
   subst b;rw[<-q];refine Sh O<|SE O<|Sq O<|S3 func56 O ?_;exact⟨_,O,O,O⟩
def Zv (b:Um g)(v:Nat):(Si g v).length<=60:=by
 by_cases c:v<g.length
 ·have:=b.len (y0i (show g[v]? =some (Si g v) by unfold Si;rw[y04 c];rfl));have:=b.n;omega
 ·unfold Si;rw[y0n ω];exact y02 _
theorem zef (U:Um g)(hg:GrR w gb go g)(ht:GrR w tb tO (Tb g))(hr:root<g.length):SG prog 21 [.slice (some ⟨gb,go,none⟩) g.length gc,.slice (some ⟨tb,tO,none⟩) g.length tc,I (root:Int)] w λv w'=>∃(l bn cn bl M cc:Nat)(vs vo:Value),v= .tuple #[ptr l 0,I 0]/\RdS w.heap.size (.slice (some ⟨gb,go,none⟩) g.length gc) (.slice (some ⟨tb,tO,none⟩) g.length tc) g.length root l bn cn bl M cc vs vo (DmS.new g.length root) false w'/\Ext w w':=by
 have hn:=U.n
 have fI:maxLen=9223372036854775807:=rfl
 have e1:=YP (gc:=gc) hg hn (Zv U)
 have s:=YP (gc:=tc) ht (by rw[TQ];exact hn) (Zv (z2n U))
 rw[TQ,YV U] at s
 refine py (e:=[(0,_),(1,_),(2,_)]) func21 O ntmps21 O O<|qN O<|To O<|SX O<|UR Xw O<|Sf O<|UR Xw O<|TK O<|T0<|Sz O<|Sr zgR O e1 ?_
 rintro _ w⟨rfl,rfl⟩
 refine Sf O<|Sr zgR O s ?_
 rintro _ w⟨rfl,rfl⟩
 refine TK O<|T0<|Td O<|Sz O<|TW O<|T0<|Td O<|Sz O<|Sf O<|UR Xw O<|WZ O<|T0<|Td O<|S5 ?_
 refine SI.qb (e:=[(0,_),(1,_),(2,_),(6,_),(7,_),(31,_)]) ?_
 refine VP O<|TV O<|Sz O<|UR Xw O<|Sd O O (pmk (c:=g.length) (n:=g.length) Tx T8 O O O ω ω ω) ?_
 rintro _ w1⟨bl,rfl,⟨gt,T,t⟩,-⟩
 refine qV (VI (cs:=[_,_,_,_,_,_,_,_,_,_,_,_]) zoD O zol O O)<|Sd O O (UD O (cs:=[.slice (some ⟨gb,go,none⟩) g.length gc,.slice (some ⟨tb,tO,none⟩) g.length tc,I (root:Int),.slice none 0 0,.slice (some ⟨bl,0,none⟩) g.length g.length,.slice none 0 0,.slice none 0 0,.slice none 0 0,I 0,.bool true,.bool false,.bool false]) O) ?_
 rintro _ w2⟨l,rfl,KG,j,rA⟩
 have z1:=T.size
 have z2:=j.size
 have ll:=t.lt
 have lm:=rA.lt
 have xO:=j.S4 t
 refine Sq O<|It<|TU O<|S7<|UW (α:=(Value×Value)×Nat) ((.slice none 0 0,.slice none 0 0),0) (λy=>[(0,.slice (some ⟨gb,go,none⟩) g.length gc),(2,I (root:Int)),(8,ptr l 0),(9,I (y.2:Int))]) (λy w'=>y.2<=g.length/\Sk w' l [.slice (some ⟨gb,go,none⟩) g.length gc,.slice (some ⟨tb,tO,none⟩) g.length tc,I (root:Int),y.1.1,.slice (some ⟨bl,0,none⟩) g.length g.length,.slice none 0 0,.slice none 0 0,y.1.2,I 0,.bool true,.bool false,.bool false] 71/\Sk w' bl (List.replicate g.length (I 0)) 3/\Sl w' y.1.1 3 1 y.2 (List.replicate y.2 (I (-1)))/\Sl w' y.1.2 3 1 y.2 (List.replicate y.2 (I (-1)))/\(∀b,y.1.1.ownBlock=some b->w2.heap.size<=b/\y.1.2.ownBlock≠some b)/\(∀b,y.1.2.ownBlock=some b->w2.heap.size<=b)/\Ext w w'/\w2.heap.size<=w'.heap.size) (λy=>g.length-y.2) ?hI ?hround
 case hI=>exact⟨y02 _,rA,xO,Sl.nil _ _ _,Sl.nil _ _ _,λb d=>(by cases d),λb d=>(by cases d),T.trans j,y07 _⟩
 case hround=>
  rintro⟨⟨u,v⟩,i⟩ w3 ⟨hi,R,tF,Z,S,C,B,X,At⟩ ih;dsimp only at hi R Z S C B ih⊢;have A:∀k,List.replicate k (I (-1))++[I (-1)]=List.replicate (k+1) (I (-1)):=λk=>by rw[y36]
  try dsimp only
  refine It<|TV O<|UR Xw O<|TW O<|S5<|So O (λh0=>?_)<|λh0=>?_
  ·refine S6 (TZ (TV O (SC O (Sn z0f O (qV (Sc Tx O O R O) (Sd O O (pbs (cs:=[_]) (zs:=[Value.int .i64 0]) Tx T8 O y00 O O O ψ) ?_))))));rintro _ w4⟨b4,rfl,⟨fO,m,aG⟩,eF⟩;have z4:=m.size;refine Sd O O (pap Tx T8 O ψ O O (Z.ext m) eF.rd (by intro c N;simp at N;subst N;rfl) ω ω) ?_;rintro Y w5⟨z,H,pn,-⟩;have z5:=H.size
   have W:∀b,Y.ownBlock=some b->w2.heap.size<=b/\v.ownBlock≠some b:=λb d=>by
    rcases pn b d with e| e
    ·exact C b e
    ·refine⟨ω,λs=>?_⟩;have:=S.lt s;omega
   have P:∀b,b<w2.heap.size->¬u.ownBlock=some b:=λb d e=>by have:=(C b e).1;omega
   have JL:=H.S4 (m.S4 R) (P _ lm);have xQ:=H.S4 (m.S4 tF) (P _ ω);have JM:=(S.ext m).kp H (λb d e=>(C b e).2 d);rw[A] at z;refine SC O (Sn z0f O (Sm O (TO ZA O O (Wz z) JL ξ) ?_));rintro a⟨D,h⟩;replace D:Sk a l [.slice (some ⟨gb,go,none⟩) g.length gc,.slice (some ⟨tb,tO,none⟩) g.length tc,I (root:Int),Y,.slice (some ⟨bl,0,none⟩) g.length g.length,.slice none 0 0,.slice none 0 0,v,I 0,.bool true,.bool false,.bool false] 71:=D;have z6:=h.size;have xR:=h.S4 xQ ω;have G:=z.kp h (λb d e=>by have:=(W b d).1;omega);have JN:=JM.kp h (λb d e=>by have:=B b d;omega);have f:Ext w a:=((X.trans m).An H (λb e=>by have:=(C b e).1;omega)).An h (λb e=>ω);refine S5 (Sg O (Sz O (SC O (Sn Z7 O (qV (Sc Tx O O D O) (Sd O O (pbs (cs:=[_]) (zs:=[Value.int .i64 0]) Tx T8 O y00 O O O ψ) ?_))))));rintro _ w7⟨b7,rfl,⟨lu,r,cm⟩,fS⟩;have z7:=r.size;refine Sd O O (pap Tx T8 O ψ O O (JN.ext r) fS.rd (by intro c N;simp at N;subst N;rfl) ω ω) ?_;rintro p w8⟨o,E,ly,-⟩;have z8:=E.size
   have K:∀b,p.ownBlock=some b->w2.heap.size<=b:=λb d=>by
    rcases ly b d with e| e
    ·exact B b e
    ·omega
   have L:∀b,Y.ownBlock=some b->w2.heap.size<=b/\p.ownBlock≠some b:=λb d=>by
    refine⟨(W b d).1,λs=>?_⟩;rcases ly b s with e| e
    ·exact(W b d).2 e
    ·have:=G.lt d;omega
   have Q:∀b,b<w2.heap.size->¬v.ownBlock=some b:=λb d e=>by have:=B b e;omega
   have JO:=E.S4 (r.S4 D) (Q _ lm);have JP:=E.S4 (r.S4 xR) (Q _ ω);have JQ:=(G.ext r).kp E (λb d e=>(W b d).2 e);rw[A] at o;refine SC O (Sn Z7 O (Sm O (TO ZA O O (Wz o) JO ξ) ?_));rintro w9⟨JR,F⟩;have z9:=F.size;refine S5<|S2<|Uw O<|Tr O<|Sq O ?_;exact(ih ((Y,p),i+1) _ ⟨by show i+1<=g.length;omega,JR,F.S4 JP ω,JQ.kp F (λb d e=>by have:=(L b d).1;omega),o.kp F (λb d e=>by have:=K b d;omega),L,K,((f.trans r).An E (λb e=>by have:=B b e;omega)).An F (λb e=>ω),ω⟩ (by show g.length-(i+1)<g.length-i;omega)).qb
  ·have aO:i=g.length:=ω
   subst aO
   obtain⟨bn,cn,rfl⟩:∃b c,u= .slice (some ⟨b,0,none⟩) g.length c:=by
    rcases Z.shape with⟨-,e⟩|⟨b,c,e,-⟩
    ·omega
    ·exact⟨b,c,e⟩
   obtain⟨M,cc,rfl⟩:∃b c,v= .slice (some ⟨b,0,none⟩) g.length c:=by
    rcases S.shape with⟨-,e⟩|⟨b,c,e,-⟩
    ·omega
    ·exact⟨b,c,e⟩
   obtain⟨rn,yN⟩:=Z.S4;obtain⟨rc,eU⟩:=S.S4;have on:=C bn O;have oc:=B M O;have j5:bn≠M:=λe=>on.2 (by rw[e];rfl);have a2:=yN.lt;have a1:=eU.lt;refine Sh O (SE O (SC O (Sn z0f O (qV (Sc Tx O O R O) (Sf O (qV (Tm Tx T8 O O ω) (Sm O (TO T8 O O O yN (by rw[y01,y0b];omega)) ?_)))))));rintro w4⟨V,J⟩;replace V:Sk w4 bn ((List.replicate g.length (I (-1))++rn).set (0+root*1) (I (-2))) 3:=V;have z4:=J.size;have JS:=J.S4 R ω;have xP:=J.S4 tF ω;have yo:=J.S4 eU (λe=>j5 e.symm);refine qM O (Sz O (Sd O O (pbs (cs:=[_]) (zs:=[Value.int .i64 0]) Tx T8 O y00 O O O ψ) ?_));rintro _ w5⟨b5,rfl,⟨gC,q,aF⟩,z⟩;have z5:=q.size;have a0:=aF.lt;refine SC O (Sn Z6 O (Sm O (TO ZA O O (Wz z) (q.S4 JS) ξ) ?_));rintro a⟨D,h⟩;have f:Ext w a:=((X.An J (λb e=>ω)).trans q).An h (λb e=>ω);refine qM O<|Sf O<|To O<|S3 func21 O ?_
   have dM:(DmS.new g.length root).num.map (λx=>I (rN x))=(List.replicate g.length (I (-1))).set root (I (-2)):=by
    show((List.replicate g.length 4294967295).set root 4294967294).map _=_;rw[y1V,y2Z];rfl
   refine⟨_,O,l,bn,cn,bl,M,cc,_,_,O,⟨D,⟨rn,?_⟩,?_,⟨rc,?_⟩,?_,Sl.nil _ _ _,?_,⟨ω,ω,ω,ω,j5,ω⟩,λb d=>?_,λb d=>(by cases d),⟨ω,ω,ω,ω⟩⟩,f⟩
   ·rw[dM];rw[y0g,y0j,y3r _ _ (by rw[y0b];exact hr)] at V;exact h.S4 (q.S4 V) ω
   ·have e:(DmS.new g.length root).looked.map (λx:Nat=>I (x:Int))=List.replicate g.length (I 0):=by
     show((List.replicate g.length 0).set root 0).map _=_;rw[y1V,y2Z];refine y1f λx=>?_;by_cases ex:root=x
     ·subst ex;rw[y0X (by rw[y0b];exact hr),y0Z,if_pos hr];rfl
     ·rw[y0M ex];rfl
    rw[e];exact h.S4 (q.S4 xP) ω
   ·have e:(DmS.new g.length root).cand.map (λx=>I (rC x))=List.replicate g.length (I (-1)):=by
     show(List.replicate g.length 4294967295).map _=_;rw[y2Z];rfl
    rw[e];exact h.S4 (q.S4 yo) ω
   ·have e:((DmS.new g.length root).Wv.take (DmS.new g.length root).Sj).map (λx:Nat=>I (x:Int))=[I (root:Int)]:=by
     show(((List.replicate g.length 0).set 0 root).take 1).map _=_;obtain⟨k,hk⟩:∃k,g.length=k+1:=⟨g.length-1,ω⟩;rw[hk,y17];rfl
    rw[e]
    exact z.kp h (λb d e=>by
     obtain rfl:b5=b:=UC d
     omega)
   ·refine⟨?_,?_,?_⟩
    ·show((List.replicate g.length 4294967295).set root 4294967294).length=_;rw[y0w,y0b]
    ·show((List.replicate g.length 0).set root 0).length=_;rw[y0w,y0b]
    ·exact y0b
   ·obtain rfl:b5=b:=UC d;exact⟨ω,ω,ω,ω,ω,λe=>by cases e⟩
end
end Go.Proofs.YtbihggbffaigjaaGreatDoor
