/- Merged by program. -/
import Derived.Test.YtbihggbffaigjaaGreatDoorZp3
import Derived.WideLaws
set_option linter.all false
set_option maxRecDepth 1000000
set_option maxHeartbeats 16000000
namespace Go.Proofs.YtbihggbffaigjaaGreatDoor
open Go Go.RowKit Go.Proofs.Tryz
variable {B s:Sa}{E:List (Nat×Nat)}{F X:Nat->Prop}{L g:List (List Nat)}{P:Program}{R:List (Value×Nat)}{T t t' tx ty:TypeId}{a b b2 b3 b4 b7 b8 b9 ed gc i j k least m o off sc wp z:Nat}{aft:Array Edge}{bs:List Bool}{cs:List Value}{f:FuncId}{ga ra sa:Option Addr}{ms:Array (String×TypeId)}{p:TX}{ref succ:List Nat}{w w' w2:World}{y:Operand}
/-! ### The numbers can be encoded -/
def z1i (k:Nat)(q:Cd×Nat):Prop:=(q.1= .unary/\q.2<=16)\/(q.1= .gamma/\q.2<=200000)\/(q.1= .zeta k/\q.2<=200000)
def z5s (k:Nat):∀(l:List Nat)(i:Nat),(∀n∈l,n<=65536)->∀q∈TP i l,z1i k q
 |[],i,h,q,c=>by cases c
 | n :: l, i, h, q, c => by
   rw[TP] at c;rcases y0m.1 c with e|c
   ·subst e;have:=h n y0s;exact .inr (.inl ⟨O,by dsimp only;omega⟩)
   ·exact z5s k l (i+1) (λn d=>h n (y0u _ d)) q c
theorem z3w (k x least:Nat)(l:x<65536):∀(R:List (Nat×Nat)) (e:Option Nat),(∀q∈R,q.1+q.2<=65536)->∀q∈Tf x least e R,z1i k q
 |[],e,h,q,c=>by cases e<;>cases c
 | p :: R, e, h, q, c => by
   have r:=h p y0s;rw[Vg] at c;rcases y0m.1 c with d|c
   ·subst d;refine .inr (.inl ⟨O,?_⟩)
    cases e with
    |none=>have:=z32 (z:=(p.1:Int)-x) (n:=65537) ω ω;show zig _<=_;omega
    |some z=>show p.1-z-2<=_;omega
   ·rcases y0m.1 c with d|c
    ·subst d;exact .inr (.inl ⟨O,by dsimp only;omega⟩)
    ·exact z3w k x least l R _ (λq c=>h q (y0u _ c)) q c
theorem z3h (k x:Nat)(A:x<65536):∀(l:List Nat)(e:Option Nat),(∀n∈l,n<65536)->∀q∈Ti x k e l,z1i k q
 |[],e,h,q,c=>by cases e<;>cases c
 | v :: l, e, h, q, c => by
   have C:=h v y0s;rw[Ws] at c;rcases y0m.1 c with d|c
   ·subst d;refine .inr (.inr ⟨O,?_⟩)
    cases e with
    |none=>have:=z32 (z:=(v:Int)-x) (n:=65537) ω ω;show zig _<=_;omega
    |some u=>show v-u-1<=_;omega
   ·exact z3h k x A l _ (λn r=>h n (y0u _ r)) q c
theorem z8d {l:List Nat}(h:T4 l):(Tq least l).1.length<=65536:=by
 have c:=(Xp least l).length_eq
 rw[y01] at c
 have d:∀(R:List (Nat×Nat)) (lo:Nat),WA least lo R->R.length<=(Ut R).length:=by
  intro R
  induction R with
  |nil=>intro lo h;exact y07 _
  | cons q R n =>
    intro lo h;have e:=n _ h.2.2.2;have r:1<=q.2:=h.2.1;rw[show Ut (q::R)=(List.range q.2).map (q.1+·)++Ut R from rfl,y01,y0h,y16,y03];omega
 have e:=d _ 0 (YR least l 0 h.ris (λy _=>y02 _))
 have:=h.len
 omega
theorem zcC {l:List Nat}(h:T4 l):∀q∈(Tq least l).1,1<=q.2/\q.1+q.2<=65536:=λq d=>by
 obtain⟨i,hi⟩:=y3F.1 d
 have c:=(z2S _ 0 i q (YR least l 0 h.ris (λy _=>y02 _)) hi).1
 exact⟨c,zgr h.lt d c⟩
theorem z3L {p:Vz}(C:p.U8){x:Nat}(u:x<65536)(l:T4 succ)(hr:T4 ref){r:Nat}(K:r<=p.SH):∀q∈V7 p x succ ref r,z1i p.zeta q:=by
 obtain⟨D,G,H,g4⟩:=id C
 have d:T4 (SL succ ref):=l.sub y1U
 intro q c
 unfold V7 at c
 have J:=l.len
 rcases y0m.1 c with e|c
 ·subst e;exact .inr (.inl ⟨O,by dsimp only;omega⟩)
 split at c
 ·cases c
 rcases y0y.1 c with c|c
 ·split at c
  ·rcases y0F.1 c with e;subst e;exact .inl ⟨O,by dsimp only;omega⟩
  ·cases c
 rcases y0y.1 c with c|c
 ·have v:=WT succ ref;have A:=v.z4T;have I:=hr.len;rw[y0h] at A;split at c
  ·rcases y0m.1 c with e|c
   ·subst e;exact .inr (.inl ⟨O,by dsimp only;omega⟩)
   ·refine z5s _ _ _ (λn h=>?_) q c;have:=v.le n (List.dropLast_subset _ h);rw[y0h] at this;omega
  ·cases c
 split at c
 ·cases c
 rcases y0y.1 c with c|c
 ·split at c
  ·rcases y0m.1 c with e|c
   ·subst e;have:=z8d (least:=p.interval) d;exact .inr (.inl ⟨O,by dsimp only;omega⟩)
   ·exact z3w _ _ _ u _ _ (λq c=>(zcC d q c).2) q c
  ·cases c
 ·exact z3h _ _ u _ _ (λn h=>d.lt n ((Yl p.interval _).subset h)) q c
def zbb (succ ref:List Nat)(hr:T4 ref):(UJ succ ref).length<=65537:=by
 have c:=(WT succ ref).z4T
 rw[y0h] at c
 have:=hr.len
 omega
theorem z88 {p:Vz}{x:Nat}(d:T4 succ)(hr:T4 ref){r:Nat}:(V7 p x succ ref r).length<=500000:=by
 have c:T4 (SL succ ref):=d.sub y1U
 have n:=zbb succ ref hr
 have q:=z8d (least:=p.interval) c
 have u:=(c.sub (Yl p.interval (SL succ ref))).len
 unfold V7
 rw[y03]
 split
 ·simp
 rw[y01,y01]
 have e:(if 0<p.SH then [(Cd.unary,r)] else []).length<=1:=by split<;>simp
 have h:(if 0<r then(Cd.gamma,(UJ succ ref).length-1)::TP 0 (UJ succ ref).dropLast else []).length<=65537:=by
  split
  ·rw[y03,WK,y2n];omega
  ·simp
 have l:(if SL succ ref=[] then [] else(if 0<p.interval then(Cd.gamma,(Tq p.interval (SL succ ref)).1.length)::Tf x p.interval none (Tq p.interval (SL succ ref)).1 else [])++Ti x p.zeta none (Tq p.interval (SL succ ref)).2).length<=200000:=by
  split
  ·simp
  ·rw[y01,X9];split
   ·rw[y03,Wc];omega
   ·simp;omega
 omega
def z1i.U8 {q:Cd×Nat}(h:z1i k q)(c:1<=k/\k<=16):q.1.U8/\q.2<=q.1.most:=by
 rcases h with⟨e,h⟩|⟨e,h⟩|⟨e,h⟩
 ·rw[e];exact⟨trivial,by simp only[Cd.most];omega⟩
 ·rw[e];exact⟨trivial,by simp only[Cd.most];omega⟩
 ·rw[e];exact⟨c,by simp only[Cd.most];omega⟩
def z6J {c:Cd}{v:Nat}(d:c.U8)(e:v<=c.most):(c.enc v).length<=65600:=by
 obtain⟨h,l,-⟩:=z0L d e
 rw[z0G];omega
def zev {L:List (Cd×Nat)}(h:∀q∈L,q.1.U8/\q.2<=q.1.most):(SD L).length<=65600*L.length:=by
 induction L with
 |nil=>simp[SD]
 | cons q L r =>
   have u:=r (λq n=>h q (y0u _ n));obtain⟨d,e⟩:=h q y0s;have l:=z6J d e;obtain⟨c,v⟩:=q;rw[TA,y01,y03];dsimp only at l⊢;omega
theorem W3 (a b:List (Cd×Nat)):SD (a++b)=SD a++SD b:=y1Y
theorem z1K (l:List (Cd×Nat))(q:Cd×Nat):SD (l++[q])=SD l++q.1.enc q.2:=by
 rw[W3];simp[SD]
/-! ### An element of a slice of structs -/
theorem z4E {α:Type}{f:α->List Value}(d:∀a,(f a).length=k){n cap:Nat}{R:List α}{q:α}(h:Rd w (.slice (some ⟨b,off,none⟩) n cap) k n (R.flatMap f))(G:R[i]? =some q):∀j u,(f q)[j]? =some u->w.cell? ⟨b,off+i*k+j,none⟩=some u:=by
 intro j u v
 have J:j<k:=by have:=(y0p.1 v).1;rwa [d] at this
 have key:∀(R:List α)(i:Nat),R[i]? =some q->(R.flatMap f)[i*k+j]? =some u:=by
  intro R
  induction R with
  |nil=>intro i h;simp at h
  | cons a R H =>
    intro i h;rw[y0W]
    cases i with
    | zero =>
      rw[y1C] at h;cases h;rw[y0I (by rw[d];omega),y1m,y0g]
      exact v
    | succ i =>
      rw[y10 (by rw[d,y0r];omega),d,show(i+1)*k+j-k=i*k+j by rw[y0r];omega];exact H i h
 have x:=key R i G
 have C:=(y0p.1 x).1
 rcases h.2 with⟨c,r,D⟩|⟨I,A,l,e,r⟩
 ·rw[h.1,D,y1m] at C;omega
 ·cases e;have:=r (i*k+j) u x;rw[show off+i*k+j=off+(i*k+j) by omega];exact this
def z9A (q:Cd×Nat):(zau q).length=3:=by
 obtain⟨c,v⟩:=q
 cases c<;>rfl
theorem Zu (p:Vz)(D:p.U8)(x:Nat)(N:x<65536){rc:Nat}(succ ref:List Nat)(G:T4 succ)(hr:T4 ref)(r:Nat)(Q:r<=p.SH)(m:r=0->ref=[])
  (hG:Sk w 1 (W5 .gamma) 314) (hU:Sk w 2 (W5 .unary) 314) (b:Rd w (.slice sa succ.length sc) 1 succ.length (succ.map SV)) (s:Rd w (.slice ra ref.length rc) 1 ref.length (ref.map SV)) (iB:succ.length<=sc) (lJ:ref.length<=rc):
  SG prog 161 [I (x:Int),.slice sa succ.length sc,.slice ra ref.length rc,I (r:Int),lpV p] w λu w'=>u= .tuple #[I ((SD (V7 p x succ ref r)).length:Int),I 0]/\Ext w w':=by
 obtain⟨g1,g2,g3,g4⟩:=id D
 have K:=λq d=>(z3L D N G hr Q q d).U8 ⟨g3,g4⟩
 have gD:=z88 (p:=p) (x:=x) (r:=r) G hr
 refine py (e:=[(0,_),(1,_),(2,_),(3,_),(4,_)]) func161 O ntmps161 O O<|qN O<|Sd O O (UD O (cs:=lpC p) O) ?_
 rintro _ w1⟨b9,rfl,oU,J,l⟩
 replace l:Sk w1 b9 [I (p.SH:Int),I (p.interval:Int),I (p.zeta:Int)] 276:=l
 refine To O<|It<|qN O<|qV (SO (news:=lpC p) z0l O XN O (l.cells (n:=3) O) O)<|Sz O<|Sz O<|Sr zlJ O (zer p D x N _ _ succ ref r G hr Q m w1 (b.ext J) (s.ext J)) ?_
 rintro _ w2⟨rfl,a⟩
 refine qV (Vn O)<|Tt O<|TU O<|It<|qN O<|qV (SO (news:=lpC p) z0l O XN O ((a.S4 l).cells (n:=3) O) O) ?_
 have h:=J.trans a
 refine Sz O<|Sz O<|Sr ziE O (z2a p D x N succ ref G hr r Q m (h.S4 hG) (h.S4 hU) (b.ext h) (s.ext h) iB lJ) ?_
 rintro v w3⟨A,sx,R⟩
 have P:=h.trans R
 generalize V7 p x succ ref r=L at K gD A
 obtain⟨t,B,rfl,-⟩:=A.rd.shape
 refine UR z4y O<|Sf O<|S5<|S7<|UW (α:=Nat) (0) (λi=>[(12,I ((SD (L.take i)).length:Int)),(29,.slice t L.length B),(30,I (L.length:Int)),(31,I (i:Int))]) (λi w'=>Ext w3 w'/\i<=L.length) (λi=>L.length-i) ?hI ?hround
 case hI=>exact⟨Ext.refl _,y02 _⟩
 case hround=>
  rintro i w4⟨H,hi⟩ ih
  try dsimp only
  refine qN O<|TW O<|S5<|It<|So O (λj=>?_)<|λj=>?_
  ·have dF:i<L.length:=ω
   obtain⟨⟨c,v⟩,d⟩:∃q,L[i]? =some q:=⟨_,y04 dF⟩;obtain⟨W,S⟩:=K _ (y0i d);dsimp only at W S
   obtain⟨g,c5,e4⟩:∃g c,Value.slice t L.length B= .slice (some ⟨g,0,none⟩) L.length c:=by
    rcases A.shape with⟨-,j⟩|⟨g,c,e,hc⟩
    ·omega
    ·exact⟨g,c,e⟩
   cases e4;have o:=z4E z9A (A.ext H).rd d;obtain⟨y,z,U⟩:∃y z,W5 c=[y,z]:=by cases c<;>exact⟨_,_,O⟩
   have u9:cdV c= .agg [y,z].toArray:=by rw[cdV,U]
   have j5:zau (c,v)=[y,z,Su v]:=by show W5 c++_=_;rw[U];rfl
   rw[j5] at o;have f:=z7L c v W S;rw[u9] at f;have Y:oneV y=true/\oneV z=true:=by cases c<;>(cases U;exact⟨O,O⟩)
   have gt:=zev (L:=L.take i) (λq d=>K q (y1d d));rw[y0c] at gt;have mW:=z6J W S;refine S6 (TZ (qN O (qV (Tm z4y Zl O O ω) (qV (SO (news:=[y,z,Su v]) zeV O Zl O o O) (Sd O O (UK (cs:=[_,_,_]) Zl O) ?_)))));rintro _ w5⟨M,rfl,px,Z,X⟩;refine Sm O (Ta (news:=[y,z,Su v]) Zl O O (by simp[Y.1,Y.2];rfl) O X ξ) ?_;rintro V⟨C,E⟩;replace C:Sk V M [y,z,Su v] 316:=C;have z5:=Z.size;have F:Ext w4 V:=Z.An E (λk e=>ω);refine qM O<|Sn zcn O<|qV (SO (news:=[y,z]) Vy O Un O (C.cells (n:=2) O) O)<|Sn zc5 O<|qV (Sc Va O O C O)<|Sr zil O (f V) ?_;rintro _ w7⟨rfl,T⟩;refine Sf O<|Vk O<|To O<|Sg O<|Sz O<|Tr O<|Sq O<|S2<|Sg O<|Tr O<|Sf O<|S5 ?_;rw[show((SD (L.take i)).length:Int)+((c.enc v).length:Int)=((SD (L.take (i+1))).length:Int) by rw[Tj d,z1K,y01];dsimp only;omega];exact(ih (i+1) _ ⟨(H.trans F).trans T,ω⟩ ω).qb
  ·have de:i=L.length:=ω
   rw[de,y0K];refine Sh O<|SE O<|To O<|S3 func161 O ?_;exact⟨_,O,O,P.trans H⟩
theorem z3s (h:WrA w wp bs F)(p:Vz)(K:p.U8)(x:Nat)(S:x<65536){rc:Nat}(succ ref:List Nat)(M:T4 succ)(hr:T4 ref)(r:Nat)(U:r<=p.SH)(P:r=0->ref=[])
  (t:Sk w 1 (W5 .gamma) 314) (B:Sk w 2 (W5 .unary) 314) (o:Rd w (.slice sa succ.length sc) 1 succ.length (succ.map SV)) (nt:Rd w (.slice ra ref.length rc) 1 ref.length (ref.map SV)) (E:succ.length<=sc) (R:ref.length<=rc)
  (hl:bs.length+(SD (V7 p x succ ref r)).length<=134217728):
  SG prog 165 [ptr wp 0,I (x:Int),.slice sa succ.length sc,.slice ra ref.length rc,I (r:Int),lpV p] w λu w'=>u=I 0/\WrR wp F w w' (bs++SD (V7 p x succ ref r)):=by
 obtain⟨g1,g2,g3,g4⟩:=id K
 have m:=λq A=>(z3L K S M hr U q A).U8 ⟨g3,g4⟩
 have gD:=z88 (p:=p) (x:=x) (r:=r) M hr
 refine py (e:=[(0,_),(1,_),(2,_),(3,_),(4,_),(5,_)]) func165 O ntmps165 O O<|qN O<|Sd O O (UD O (cs:=lpC p) O) ?_
 rintro _ w1⟨b9,rfl,oU,C,G⟩
 replace G:Sk w1 b9 [I (p.SH:Int),I (p.interval:Int),I (p.zeta:Int)] 276:=G
 refine Sq O<|SX O<|qV (T9 z5u O O)<|Tt O<|TV O<|Sz O<|qV (SO (news:=lpC p) z0l O XN O (G.cells (n:=3) O) O)<|Sr z8w O (Zu p K x S succ ref M hr r U P (C.S4 t) (C.S4 B) (o.ext C) (nt.ext C) E R) ?_
 rintro _ w2⟨rfl,f⟩
 have l:=C.trans f
 have h2:=h.ext l
 refine Sf O<|Vk O<|To O<|TZ<|SE O<|TK O<|Sq O<|S9 O<|TV O<|Sr z5Y O (Za h2) ?_
 rintro _ w2⟨rfl,rfl⟩
 refine UO O<|Ub O<|Sq O<|SI.qb (e:=[(0,_),(1,_),(2,_),(3,_),(4,_),(11,_),(12,_),(32,_)]) ?_
 refine So O (λe0=>?_)<|λe0=>?_
 ·omega
 ·refine S6<|S2<|It<|qN O<|qV (SO (news:=lpC p) z0l O XN O ((f.S4 G).cells (n:=3) O) O)<|Sz O<|Sz O<|Sr ziE O (z2a p K x S succ ref M hr r U P (l.S4 t) (l.S4 B) (o.ext l) (nt.ext l) E R) ?_;rintro v w3⟨H,sx,j⟩;have a:=l.trans j;have h3:=h.ext a;have a0:=l.size;have z3:=j.size;have lw:∀k,F k->k<w.heap.size:=λk d=>h.lt d
  generalize V7 p x succ ref r=L at m gD H hl
  obtain⟨va,vc,rfl,-⟩:=H.rd.shape;refine UR z4y O<|Sf O<|S5<|S7<|UW (α:=Nat) (0) (λi=>[(0,ptr wp 0),(43,.slice va L.length vc),(44,I (L.length:Int)),(45,I (i:Int))]) (λi w'=>WrR wp F w3 w' (bs++SD (L.take i))/\i<=L.length) (λi=>L.length-i) ?hI ?hround
  case hI=>exact⟨⟨F,by simpa[SD] using h3,Kp.refl _ _,λk d=> .inl d⟩,y02 _⟩
  case hround=>
   rintro i w4⟨⟨F4,V,D,W⟩,hi⟩ ih
   try dsimp only
   refine qN O<|TW O<|S5<|It<|So O (λs=>?_)<|λs=>?_
   ·have dF:i<L.length:=ω
    obtain⟨⟨c,v⟩,A⟩:∃q,L[i]? =some q:=⟨_,y04 dF⟩;obtain⟨yO,oK⟩:=m _ (y0i A);dsimp only at yO oK
    obtain⟨g,c5,e4⟩:∃g c,Value.slice va L.length vc= .slice (some ⟨g,0,none⟩) L.length c:=by
     rcases H.shape with⟨-,s⟩|⟨g,c,e,hc⟩
     ·omega
     ·exact⟨g,c,e⟩
    cases e4;have eF:=H.kp D (λg hg e=>by have:=sx g hg;have:=lw g e;omega);have T:=z4E z9A eF.rd A;obtain⟨y,z,Y⟩:∃y z,W5 c=[y,z]:=by cases c<;>exact⟨_,_,O⟩
    have u9:cdV c= .agg [y,z].toArray:=by rw[cdV,Y]
    have j5:zau (c,v)=[y,z,Su v]:=by show W5 c++_=_;rw[Y];rfl
    rw[j5] at T;have Z:oneV y=true/\oneV z=true:=by cases c<;>(cases Y;exact⟨O,O⟩)
    refine S6 (TZ (qN O (qV (Tm z4y Zl O O ω) (qV (SO (news:=[y,z,Su v]) zeV O Zl O T O) (Sd O O (UK (cs:=[_,_,_]) Zl O) ?_)))));rintro _ w5⟨Q,rfl,px,b,cg⟩;refine Sm O (Ta (news:=[y,z,Su v]) Zl O O (by simp[Z.1,Z.2];rfl) O cg ξ) ?_;rintro w6⟨J,aI⟩;replace J:Sk w6 Q [y,z,Su v] 316:=J;have z5:=b.size;have N:Ext w4 w6:=b.An aI (λk e=>ω);have z6:=N.size;have z4:=D.size
    have iJ:(bs++SD (L.take i)).length+(c.enc v).length<=134217728:=by
     have e1:(SD L).length=(SD (L.take i)).length+(c.enc v).length+(SD (L.drop (i+1))).length:=by
      conv=>lhs;rw[<-y1c (i+1) L,W3,Tj A,z1K]
      rw[y01,y01]
     rw[y01];omega
    have X:=zfh (V.ext N) c v yO oK iJ;rw[u9] at X;refine S5<|Uw O<|Sn zcn O<|qV (SO (news:=[y,z]) Vy O Un O (J.cells (n:=2) O) O)<|Sn zc5 O<|qV (Sc Va O O J O)<|Sr zll O X ?_;rintro _ w7⟨rfl,F7,qW,ay,kL⟩;refine S5<|S2<|Sg O<|Tr O<|Sf O<|S5 ((ih (i+1) _ ⟨⟨F7,?_,(D.trans N.kp).An ay (λk d=>(W k d).symm),λk d=>?_⟩,ω⟩ ω).qb)
    ·rw[Tj A,z1K,<-y06];exact qW
    ·rcases kL k d with e| e
     ·exact W k e
     ·exact .inr ω
   ·have de:i=L.length:=ω
    rw[de,y0K] at V;refine Sh O<|TU O<|S3 func165 O ?_;exact⟨_,O,O,F4,V,a.kp.trans D,λk d=>by rcases W k d with e|e;exact .inl e;exact .inr ω⟩
def z1p (succ ref:List Nat)(r:Nat):List (Cd×Nat):=if 0<r then(.gamma,(UJ succ ref).length-1)::TP 0 (UJ succ ref).dropLast else []
def zcB (p:Vz)(x:Nat)(succ ref:List Nat):List (Cd×Nat):=
 if SL succ ref=[] then [] else(if 0<p.interval then(.gamma,(Tq p.interval (SL succ ref)).1.length)::Tf x p.interval none (Tq p.interval (SL succ ref)).1 else [])++Ti x p.zeta none (Tq p.interval (SL succ ref)).2
def Yu (p:Vz)(x:Nat)(succ ref:List Nat)(r:Nat):List (Cd×Nat):=z1p succ ref r++zcB p x succ ref
def z5f (p:Vz)(x:Nat)(r:Nat)(c:succ≠[]):V7 p x succ ref r=Ud p succ.length r++Yu p x succ ref r:=by
 unfold V7 Ud Yu z1p zcB
 rw[if_neg c,if_neg (λe=>c (y0x e)),y0t]
def zc3 (p:Vz)(x:Nat)(l:List Nat):List (Cd×Nat):=if 0<p.interval/\l≠[] then(.gamma,(Tq p.interval l).1.length)::Tf x p.interval none (Tq p.interval l).1 else []
theorem z9d (p:Vz)(x:Nat)(succ ref:List Nat):zcB p x succ ref=zc3 p x (SL succ ref)++Ti x p.zeta none (Tq p.interval (SL succ ref)).2:=by
 unfold zcB zc3
 by_cases e:SL succ ref=[]
 ·rw[if_pos e,if_neg (λh=>h.2 e),e,Tq];rfl
 ·rw[if_neg e];by_cases c:0<p.interval
  ·rw[if_pos c,if_pos ⟨c,e⟩]
  ·rw[if_neg c,if_neg (λh=>c h.1)]
structure TlI (w:World)(t r:Nat)(s:Sa)(b7 b9:Nat)(n q:Nat)(p:Vz)(O_:List Nat)(v:Value)(a:Nat)(w':World):Prop where
 tk:TkM w' t r s a
 kp:Kp (λk=>k=t\/k=r) w w'
 sl:Sl w' v 42 1 O_.length (O_.map SV)
 fr:∀g,v.ownBlock=some g->w.heap.size<=g
 c7:Sk w' b7 [I (n:Int),I (q:Int)] 303
 c9:Sk w' b9 [I (p.SH:Int),I (p.interval:Int),I (p.zeta:Int)] 276
 n7:w.heap.size<=b7
 n9:w.heap.size<=b9
 v7:v.ownBlock≠some b7
 v9:v.ownBlock≠some b9
theorem z7t (l:List Nat):∀c∈l.map SV,c.oneCell'=true:=λc d=>by
 obtain⟨y,-,rfl⟩:=y0k.1 d
 rfl
def TlI.app {w1 A:World}{t r:Nat}{n q:Nat}{p:Vz}{l M:List Nat}{v x:Value}{a2:Nat}(h:TlI w t r s b7 b9 n q p l v a w1)(ht:t<w.heap.size)(hr:r<w.heap.size)
  (c:Kp (λk=>k=t\/k=r) w1 w2) (u:TkM w2 t r s a2) (H:Sl A x 42 1 (l.length+M.length) (l.map SV++M.map SV)) (d:Kp (λk=>v.ownBlock=some k) w2 A) (G:∀g,x.ownBlock=some g->v.ownBlock=some g\/w2.heap.size<=g):
  TlI w t r s b7 b9 n q p (l++M) x a2 A:=by
 have N:=h.kp.size
 have O:=c.size
 have J:=h.c7.lt
 have K:=h.c9.lt
 have n7:=h.n7
 have n9:=h.n9
 have C:∀k,k<w.heap.size->¬v.ownBlock=some k:=λk c e=>by have:=h.fr k e;omega
 have D:∀k,k<w1.heap.size->v.ownBlock≠some k->x.ownBlock≠some k:=λk c I e=>by
  rcases G k e with e| e
  ·exact I e
  ·omega
 refine⟨⟨d.S4 u.S4 (C t ht),⟨d.S4 u.rd.1 (C r hr),u.rd.2⟩,u.ne⟩,(h.kp.trans c).An d (λk c=> .inl (h.fr k c)),by rw[y01,y0f];exact H,λg hg=>?_,d.S4 (c.S4 h.c7 (λe=>ω)) h.v7,d.S4 (c.S4 h.c9 (λe=>ω)) h.v9,n7,n9,D _ J h.v7,D _ K h.v9⟩
 rcases G g hg with e| e
 ·exact h.fr g e
 ·omega
theorem zdF {t r:Nat}(h:TkM w t r s a)(hG:Sk w 1 (W5 .gamma) 314)(E:¬1=r)(oV:¬1=t)(p:Vz)(hp:p.U8)(x:Nat)(hx:x<65536)(succ ref:List Nat)(b:T4 succ)(bB:succ≠[])(jZ:succ.length<50)(iM:T4 ref)
  (q:Nat) (hq:q<=p.SH) (oW:q=0->ref=[]) (eH:∀w2,Kp (λk=>k=r) w w2->Rd w2 (.slice sa ref.length sc) 1 ref.length (ref.map SV)) (fd:ref.length<=sc) (rest:List Bool) (C:(SA s).drop a=SD (Yu p x succ ref q)++rest):
  SG prog 213 [ptr t 0,I (x:Int),.agg #[I (succ.length:Int),I (q:Int)],.slice sa ref.length sc,lpV p] w λu w'=>Sl w' u 42 1 succ.length (succ.map SV)/\(∀g,u.ownBlock=some g->w.heap.size<=g)/\
   TkM w' t r s (a+(SD (Yu p x succ ref q)).length)/\Kp (λk=>k=t\/k=r) w w':=by
 obtain⟨g1,g2,g3,g4⟩:=id hp
 have G:=h.S4.lt
 have D:=h.rd.1.lt
 have T:=zax b.ris iM.ris p.interval
 have uq:=T.length_eq
 rw[y01,y01] at uq
 have o:T4 (SL succ ref):=b.sub y1U
 have Nb:=(Xp p.interval (SL succ ref)).length_eq
 rw[y01] at Nb
 unfold Yu at C⊢
 rw[W3,y06] at C
 rw[W3,y01]
 refine py (e:=[(0,_),(1,_),(2,_),(3,_),(4,_)]) func213 O ntmps213 O O<|qN O<|Sd O O (UD O (cs:=[I (succ.length:Int),I (q:Int)]) O) ?_
 rintro _ w1⟨b7,rfl,lu,aa,cm⟩
 refine Sd O O (UD O (cs:=lpC p) O) ?_
 rintro _ w2⟨b9,rfl,oU,j,S⟩
 replace S:Sk w2 b9 [I (p.SH:Int),I (p.interval:Int),I (p.zeta:Int)] 276:=S
 have z1:=aa.size
 have z2:=j.size
 have H:=aa.trans j
 have Y:=j.S4 cm
 refine Up O<|Sq O<|It<|qN O<|Sn Wb O<|qV (Sc U3 O O Y O)<|Ub O<|S5<|Tc (λd w'=>∃c,d=[(0,ptr t 0),(1,I (x:Int)),(7,ptr b7 0),(9,ptr b9 0),(11,c)]/\TlI w t r s b7 b9 succ.length q p (ref.filter λy=>decide (y∈succ)) c (a+(SD (z1p succ ref q)).length) w') ?bL<|λbL=>?dE
 case bL =>
  rintro d w3⟨c,rfl,n⟩;have J:=VW C;obtain⟨va,vc,rfl,-⟩:=n.sl.rd.shape;have vZ:=n.c7;have F:=n.c9;have G6:=n.tk.S4;refine It<|qN O<|Sn X8 O<|qV (Sc U3 O O vZ O)<|Sf O<|UR SR O<|UO O ?_;rw[show(succ.length:Int)-((ref.filter λy=>decide (y∈succ)).length:Int)=((SL succ ref).length:Int) by omega]
  generalize Re:(a+(SD (z1p succ ref q)).length)=a3 at n J
  rw[z9d,W3,y06] at J;rw[z9d,W3,y01];have Nc:p.interval=0->(Tq p.interval (SL succ ref)).1=[]:=λe=>by rw[e];exact z1F _
  have Nd:SL succ ref=[]->Tq p.interval (SL succ ref)=([],[]):=λe=>by rw[e,Tq]
  have sj:=YR p.interval (SL succ ref) 0 o.ris (λy _=>y02 _);have vR:=λy hy=>(zcC (least:=p.interval) o y hy).2
  have L9:(Tq p.interval (SL succ ref)).1.length<=(Ut (Tq p.interval (SL succ ref)).1).length:=by
   have key:∀(R:List (Nat×Nat)) (lo:Nat),WA p.interval lo R->R.length<=(Ut R).length:=by
    intro R
    induction R with
    |nil=>intro lo h;exact y07 _
    | cons z R ih =>
      intro lo h;have v:=ih _ h.2.2.2;have h6:1<=z.2:=h.2.1;rw[show Ut (z::R)=(List.range z.2).map (z.1+·)++Ut R from rfl,y01,y0h,y16,y03];omega
   exact key _ 0 sj
  have G7:T4 (Tq p.interval (SL succ ref)).2:=o.sub (Yl p.interval _)
  generalize (ref.filter λy=>decide (y∈succ))=O1 at n T uq
  have N:zc3 p x (SL succ ref)=if 0<p.interval/\SL succ ref≠[] then(.gamma,(Tq p.interval (SL succ ref)).1.length)::Tf x p.interval none (Tq p.interval (SL succ ref)).1 else []:=rfl
  generalize zc3 p x (SL succ ref)=LT at J N
  generalize Tq p.interval (SL succ ref)=Q at*
  generalize SL succ ref=L1 at*
  have DV:L1=[]↔L1.length=0:=⟨λe=>by rw[e];rfl,y0x⟩;have ic:=b.len;refine Sq O<|It<|Tc (λd w'=>∃s1:Bool,d=[(0,ptr t 0),(1,I (x:Int)),(7,ptr b7 0),(9,ptr b9 0),(11,.slice va O1.length vc),(12,I (L1.length:Int)),(38,.bool s1)]/\w'=w3/\(s1=true↔0<p.interval/\L1≠[])) ?dq<|λdq=>?gU
  case dq =>
   rintro d w4⟨s1,rfl,rfl,dy⟩;refine Tc (λd w'=>∃c,d=[(0,ptr t 0),(1,I (x:Int)),(7,ptr b7 0),(9,ptr b9 0),(11,c)]/\TlI w t r s b7 b9 succ.length q p (O1++Ut Q.1) c (a3+(SD LT).length) w') ?az<|λaz=>?eO
   case az =>
    rintro d f⟨v5,rfl,v⟩;have gC:=VW J;obtain⟨a0,a1,rfl,-⟩:=v.sl.rd.shape;have nB:=v.c7;have kd:=v.c9;have G8:=v.tk.S4;have E6:(O1++Ut Q.1).length=O1.length+(Ut Q.1).length:=y01;refine It<|qN O<|Sn X8 O<|qV (Sc U3 O O nB O)<|Sf O<|UR SR O<|UO O ?_;rw[show(succ.length:Int)-((O1++Ut Q.1).length:Int)=(Q.2.length:Int) by omega];refine Sq O<|It<|Tc (λd w'=>∃s2:Bool,d=[(0,ptr t 0),(1,I (x:Int)),(7,ptr b7 0),(9,ptr b9 0),(11,.slice a0 (O1++Ut Q.1).length a1),(13,I (Q.2.length:Int)),(60,.bool s2)]/\w'=f/\(s2=true↔0<Q.2.length)) ?bX<|λbX=>?pf
    case bX=>
     rintro d w6⟨s2,rfl,rfl,dG⟩;refine Tc (λd w'=>∃c,d=[(0,ptr t 0),(11,c)]/\TlI w t r s b7 b9 succ.length q p (O1++Ut Q.1++Q.2) c (a3+(SD LT).length+(SD (Ti x p.zeta none Q.2)).length) w') ?gO<|λgO=>?vP
     case gO=>
      rintro d w7⟨v7,rfl,A⟩;have ur:(O1++Ut Q.1++Q.2).length=succ.length:=by rw[y01,E6];omega
      have Nf:0<succ.length:=List.length_pos_iff.2 bB;refine SE O (Sr zlY O (ze7 A.sl (λe=>by rw[e] at ur;simp at ur;omega) ω) ?_);rintro _ w8⟨rfl,i,l',Ng,nC,eI⟩;have Nh:l'=succ:=zai ((Ng.trans (by rw[y06])).trans T) nC b.ris;rw[Nh] at eI;refine qM O<|Sf O<|Sq O<|S3 func213 O ?_;have e9:a+((SD (z1p succ ref q)).length+((SD LT).length+(SD (Ti x p.zeta none Q.2)).length))=a3+(SD LT).length+(SD (Ti x p.zeta none Q.2)).length:=ω
      rw[e9];have Am:∀k,k<w.heap.size->¬v7.ownBlock=some k:=λk hk e=>by have:=A.fr k e;omega
      refine⟨_,O,eI,A.fr,⟨i.S4 A.tk.S4 (Am t G),⟨i.S4 A.tk.rd.1 (Am r D),A.tk.rd.2⟩,A.tk.ne⟩,A.kp.An i (λk hk=> .inl (A.fr k hk))⟩
     case vP=>
      refine TL O (λU=>?_)<|λU=>?_
      ·refine Sg O (Sz O (Sz O (Sn z3T O (qV (Sc U3 O O kd O) (qV (TM O U3 Va ω) (qV (VI (cs:=[_,_]) Un O zj6 O O) (Sr zmO O (zaW v.tk x p.zeta hx ⟨g3,g4⟩ Q.2 G7 _ gC) ?_)))))));rintro u6 w6⟨iN,oQ,A1,aI⟩;have G9:=v.sl.kp aI (λg hg e=>by have:=v.fr g hg;omega);refine Sd O O (pap SR Sy O ψ O O G9 iN.rd (z7t _) ω (by simp only[maxLen];omega)) ?_;rintro v7 w7⟨fS,ay,Ni,-⟩;have A:=v.app G D aI A1 fS ay Ni;refine Sq O ?_;exact(gO _ _ ⟨v7,O,A⟩).qb
      ·have ia:Q.2=[]:=y0x (by
        rcases y0D Q.2.length with e| e
        ·exact e
        ·rw[dG.2 e] at U;cases U)
       refine S6 ((gO _ _ ⟨_,O,?_⟩).qb);rw[ia,y0q,show(SD (Ti x p.zeta none [])).length=0 from rfl,y1b];exact v
    case pf=>
     rcases y0D Q.2.length with K|K
     ·refine Uw O<|Ub O<|T0<|Sf O<|Ua<|Ua<|qS<|Td O<|S5 ?_;exact(bX _ _ ⟨false,O,O,by simp[K]⟩).qb
     ·refine Uw O<|Ub O<|Ue<|Sz O<|SC O<|Sn Xy O<|qV (Sc U4 O O G8 O)<|qV (Vn O)<|Uj O<|S5 ?_;exact(bX _ _ ⟨true,O,O,by simp[K]⟩).qb
   case eO=>
    refine TL O (λZ=>?_)<|λZ=>?_
    ·obtain⟨DX,W⟩:=dy.1 Z;rw[if_pos ⟨DX,W⟩] at N;refine Sg O<|Sz O<|Sz O<|Sn XP O<|qV (Sc U3 O O F O) ?_;rw[N] at J;refine Sr znt O (zdz n.tk (n.kp.S4 hG (λe=>by rcases e with e|e;exact oV e;exact E e)) E oV x L1.length p.interval hx ω ω Q.1 sj vR ω ω _ J) ?_;rintro u4 w4⟨eF,sd,Ao,ao⟩;have Ga:=n.sl.kp ao (λg hg e=>by have:=n.fr g hg;omega);have Rf:=eF.rd;have Nj:O1.length<=65536:=ω
     refine Sd O O (pap SR Sy O ψ O O Ga eF.rd (z7t _) ω (by simp only[maxLen];omega)) ?_;rintro v5 f⟨eN,ai,Nk,-⟩;have v:=n.app G D ao Ao eN ai Nk;refine Sq O ((az _ _ ⟨v5,O,?_⟩).qb);rw[N];exact v
    ·have W:¬(0<p.interval/\L1≠[]):=λe=>by rw[dy.2 e] at Z;cases Z
     have M:Q.1=[]:=by
      by_cases e:L1=[]
      ·rw[Nd e]
      ·exact Nc (by by_cases e2:0<p.interval;exact absurd ⟨e2,e⟩ W;omega)
     rw[if_neg W] at N;refine S6 ((az _ _ ⟨_,O,?_⟩).qb);rw[M,N,show Ut []=[] from rfl,y0q,show(SD []).length=0 from rfl,y1b];exact n
  case gU=>
   rcases y0D L1.length with K|K
   ·refine Uw O<|Ub O<|T0<|Sf O<|Ua<|qS<|Td O<|Sf O<|Ua<|Ua<|qS<|Td O<|S5<|SI.qb (e:=[(0,_),(1,_),(7,_),(9,_),(11,_),(12,_),(38,_)]) ?_;exact(dq _ _ ⟨false,O,O,⟨λe=>(by cases e),λe=>absurd (DV.2 K) e.2⟩⟩).qb
   ·rcases y0D p.interval with oq|oq
    ·refine Uw O<|Ub O<|Ue<|Sf O<|Sn XP O<|qV (Sc U3 O O F O)<|Ub O<|T0<|Uj O<|Sf O<|Ua<|Ua<|qS<|Td O ?_;refine S5<|SI.qb (e:=[(0,_),(1,_),(7,_),(9,_),(11,_),(12,_),(38,_)]) ?_;exact(dq _ _ ⟨false,O,O,by simp[oq]⟩).qb
    ·refine Uw O<|Ub O<|Ue<|Sf O<|Sn XP O<|qV (Sc U3 O O F O)<|Ub O<|Ue<|Uj O<|Sz O<|SC O<|Sn Xy O<|qV (Sc U4 O O G6 O)<|qV (Vn O) ?_;refine Uj O<|S5<|SI.qb (e:=[(0,_),(1,_),(7,_),(9,_),(11,_),(12,_),(38,_)]) ?_;exact(dq _ _ ⟨true,O,O,⟨λ_=>⟨oq,λe=>(by have:=DV.1 e;omega)⟩,λ_=>rfl⟩⟩).qb
 case dE=>
  refine So O (λh0=>?_)<|λh0=>?_
  ·have M:0<q:=ω
   have V:=WT succ ref;have P:=V.z4T;rw[y0h] at P;have Ap:=iM.len
   have Aq:(UJ succ ref).sum=ref.length:=by
    have:=congrArg List.length V.exp;rw[Wq,y0h] at this;exact this
   have Ar:=zcV succ ref;rw[show z1p succ ref q=(.gamma,(UJ succ ref).length-1)::TP 0 (UJ succ ref).dropLast from if_pos M] at C;obtain⟨l,m,L⟩:∃l m,UJ succ ref=l++[m]:=⟨_,_,(y2v V.ne).symm⟩;have ja:=V.pos;rw[L] at C Aq P ja;rw[L,y2o] at Ar;rw[y2o,show(l++[m]).length-1=l.length by simp] at C;rw[y15] at Aq;rw[y01,y1q] at P;have U:=h.ext H
   have As:∀X∈l.drop 1,1<=X:=λX pz=>ja X (by
    cases l with
    |nil=>simp at pz
    |cons a l=>rw[y0t,y2j,y0V];rw[y2j,y0V] at pz;exact y1X _ pz)
   refine Sg O (Sz O (Sr zmM O (z8x U (H.S4 hG) E ref l (λf k=>eH f (H.kp.trans k)) fd Ap ω ω As _ C) ?_));rintro c w3⟨dB,sx,sA,B⟩;refine Sq O ((bL _ _ ⟨c,O,?_⟩).qb);rw[Ar] at dB;rw[show z1p succ ref q=(.gamma,l.length)::TP 0 l by unfold z1p;rw[if_pos M,L,y2o,show(l++[m]).length-1=l.length by simp]];have a2:=Y.lt;have a4:=S.lt;exact⟨sA,H.kp.trans (B.Se λk e=> .inr e),dB,λg hg=>by have:=sx g hg;omega,B.S4 Y ω,B.S4 S ω,ω,ω,λe=>by have:=sx _ e;omega,λe=>by have:=sx _ e;omega⟩
  ·have M:q=0:=ω
   have Gb:=oW M;subst Gb;refine S6 ((bL _ _ ⟨.slice none 0 0,O,?_⟩).qb);rw[show z1p succ [] q=[] by unfold z1p;rw[if_neg ω]];exact⟨h.ext H,H.kp,Sl.nil _ _ _,(λg hg=>by cases hg),Y,S,ω,ω,(λe=>by cases e),(λe=>by cases e)⟩
def z9B {l b rest:List Bool}{n:Nat}(c:l.drop a=b++rest)(d:k+n<=b.length):(l.drop (a+k)).take n=(b.drop k).take n:=by
 rw[<-y0G,c,y1j ω,y1v (by rw[y08];omega)]
theorem zdC {r:Nat}(p:Vz)(hp:p.U8)(x:Nat)(hx:x<65536){la:Option Addr}{f rc:Nat}(succ ref:List Nat)(hs:T4 succ)(bB:succ≠[])(iM:T4 ref)
  (q:Nat) (hq:q<=p.SH) (oW:q=0->ref=[]) (W:Sk w 1 (W5 .gamma) 314) (Y:Sk w 2 (W5 .unary) 314) (eY:Rd w (.slice la succ.length f) 1 succ.length (succ.map SV)) (nt:Rd w (.slice ra ref.length rc) 1 ref.length (ref.map SV)) (iB:succ.length<=f) (lJ:ref.length<=rc)
  (hl:(SD (V7 p x succ ref q)).length<=134217728) (rest:List Bool) (hb:(SA s).drop a=SD (Yu p x succ ref q)++rest) (h:Xz w r s (a+(SD (Yu p x succ ref q)).length)):
  SG prog 214 [lpV p,ptr r 0,I (a:Int),I (x:Int),.agg #[I (succ.length:Int),I (q:Int)],.slice la succ.length f,.slice ra ref.length rc] w λu w'=>u= .bool true/\Xz w' r s (a+(SD (Yu p x succ ref q)).length)/\Kp (λk=>k=r) w w':=by
 have a4:=h.1.lt
 have a2:=W.lt
 have a3:=Y.lt
 have ic:=hs.len
 have pA:=z5f p x (ref:=ref) q bB
 have E8:SD (V7 p x succ ref q)=SD (Ud p succ.length q)++SD (Yu p x succ ref q):=by rw[pA,W3]
 have gt:(SD (V7 p x succ ref q)).length=(SD (Ud p succ.length q)).length+(SD (Yu p x succ ref q)).length:=by rw[pA,W3,y01]
 generalize SD (Yu p x succ ref q)=TB at*
 have rl:succ.length≠0:=λe=>bB (y0x e)
 refine py (e:=[(0,_),(1,_),(2,_),(3,_),(4,_),(5,_),(6,_)]) func214 O ntmps214 O O<|qN O<|Sd O O (UD O (cs:=lpC p) O) ?_
 rintro _ w1⟨b7,rfl,lu,T,cm⟩
 refine Sd O O (UD O (cs:=[I (succ.length:Int),I (q:Int)]) O) ?_
 rintro _ w2⟨a0,rfl,jR,N,bq⟩
 have J:=T.trans N
 have z1:=T.size
 have z2:=N.size
 have eS:=N.S4 cm
 have U:Xz w2 r s (a+TB.length):=⟨J.S4 h.1,h.2⟩
 refine TR O<|Sr z26 O (XT U) ?_
 rintro _ w2⟨rfl,rfl⟩
 refine Up O<|Sr z5b O (Yk w2) ?_
 rintro _ w3⟨wp,F,rfl,oB,D,sB⟩
 have z3:=D.size
 have H:=J.trans D
 have mK:=D.S4 bq
 have vZ:=D.S4 eS
 refine Sq O<|It<|TV O<|Sz O<|Sn Wb O<|qV (Sc U3 O O mK O)<|qV (SO (news:=lpC p) z0l O XN O (vZ.cells (n:=3) O) O)<|Sr ziY O (z3s oB p hp x hx succ ref hs iM q hq oW (H.S4 W) (H.S4 Y) (eY.ext H) (nt.ext H) iB lJ (by simpa using hl)) ?_
 rintro _ m⟨rfl,F4,K,X,sd⟩
 rw[y18] at K
 have z4:=X.size
 have cF:Ext w2 m:=D.An X sB
 refine TK O<|Tt O<|SE O<|Sr zc1 O (z18 K) ?_
 rintro _ m⟨rfl,rfl⟩
 refine Sf O<|Vk O<|To O<|SI.qb (e:=[(1,_),(2,_),(7,_),(14,_),(15,_),(16,_),(17,_)]) ?_
 refine SE O ?_
 have gS:(SM (SD (V7 p x succ ref q))).length<=16777217:=by rw[T3];omega
 refine Sr zc7 O (z0Y (SM (SD (V7 p x succ ref q))) ω m) ?_
 rintro _ w5⟨l,rfl,iC,R,Rg⟩
 have Z:=cF.trans R
 have cq:=J.trans Z
 obtain⟨z,mV,oq,At⟩:=VV (SD (V7 p x succ ref q))
 have B:(SA (SM (SD (V7 p x succ ref q)))).drop 0=SD (Ud p succ.length q)++(TB++List.replicate z false):=by
  rw[mV,y0V,E8,y06]
 refine Sq O<|SX O<|qV (SO (news:=lpC p) z0l O XN O ((Z.S4 eS).cells (n:=3) O) O)<|Sr ziG O (z6u iC p hp (cq.S4 W) (cq.S4 Y) ω ω succ.length q ω hq (λe=>absurd e rl) _ B) ?_
 rintro _ w6⟨rfl,Q,L⟩
 rw[y0g] at Q
 have jj:Ext w2 w6:=Z.An L (λk e=>ω)
 have o:=VW B
 rw[y0g] at o
 generalize (SM (SD (V7 p x succ ref q)))=os at*
 have z6:=jj.size
 refine Sf O<|Vk O<|Sd O O (UK (cs:=[_,_]) VS O) ?_
 rintro _ w7⟨a1,rfl,Nl,bV,Gc⟩
 refine Sm O (Ta (news:=[I (succ.length:Int),I (q:Int)]) VS O O O O Gc ξ) ?_
 rintro C⟨La,aH⟩
 have b:Ext w6 C:=bV.An aH (λk e=>ω)
 have ke:=jj.trans b
 have V:Xz C r s (a+TB.length):=⟨ke.S4 U.1,U.2⟩
 have t:Xz C l os (SD (Ud p succ.length q)).length:=⟨b.S4 Q.1,Q.2⟩
 have rH:WrA C wp (SD (V7 p x succ ref q)) F4:=((K.ext R).kp L (λi hi e=>by have:=K.lt hi;omega)).ext b
 refine TR O<|TK O<|Sz O<|Sr z5Y O (Za rH) ?_
 rintro _ C⟨rfl,rfl⟩
 refine Sf O<|Sr z26 O (XT t) ?_
 rintro _ C⟨rfl,rfl⟩
 refine UO O ?_
 rw[show((SD (V7 p x succ ref q)).length:Int)-((SD (Ud p succ.length q)).length:Int)=(TB.length:Int) by omega]
 refine Sz O<|UO O ?_
 rw[show((a+TB.length:Nat):Int)-(a:Int)=(TB.length:Int) by omega]
 refine TK O<|T0<|Td O<|S5<|SI.qb (e:=[(1,_),(2,_),(14,_),(15,_),(19,_),(64,_)]) ?_
 refine VP O<|TV O<|Sr zeJ O (z2R V a (by have:=V.2.1;omega)) ?_
 rintro _ w9⟨rfl,h9,P⟩
 have tZ:Xz w9 l os (SD (Ud p succ.length q)).length:=⟨P.S4 t.1 ω,t.2⟩
 refine S5<|TZ<|UW (α:=Nat) (0) (λk=>[(1,ptr r 0),(15,I ((a+TB.length:Nat):Int)),(19,ptr l 0)]) (λk w'=>Xz w' r s (a+k)/\Xz w' l os ((SD (Ud p succ.length q)).length+k)/\Kp (λi=>i=r\/i=l) w9 w'/\k<=TB.length) (λk=>TB.length-k) ?hI ?hround
 case hI=>exact⟨h9,tZ,Kp.refl _ _,y02 _⟩
 case hround=>
  rintro k v⟨G,y,E,Rh⟩ ih
  try dsimp only
  refine SX O<|Sr z26 O (XT G) ?_;rintro _ v⟨rfl,rfl⟩;refine Sf O<|TW O<|S5<|So O (λh0=>?_)<|λh0=>?_
  ·refine S6<|S7<|TV O<|Sr z26 O (XT G) ?_;rintro _ v⟨rfl,rfl⟩;refine UO O ?_;rw[show((a+TB.length:Nat):Int)-((a+k:Nat):Int)=((TB.length-k:Nat):Int) by omega];refine qV (ymi O O) ?_;rw[show min (64:Int) ((TB.length-k:Nat):Int)=((min 64 (TB.length-k):Nat):Int) by omega];obtain⟨n,hn,cy,kM,M⟩:∃n,min 64 (TB.length-k)=n/\1<=n/\n<=64/\k+n<=TB.length:=⟨_,O,ω,ω,ω⟩;rw[hn];have Aw:=G.2.1;have fJ:=z9B hb M;have gY:=z9B o M;have KC:a+TB.length<=8*s.length:=V.2.1
   have u3:(SD (Ud p succ.length q)).length+TB.length<=8*os.length:=by
    have e:=congrArg List.length o;rw[y08,bitsT_length,y01] at e;omega
   refine Up O<|Sz O<|Sr z9o O (Zs G n kM) ?_;rintro g d c
   have S:g= .tuple #[Su (T2 (((SA s).drop (a+k)).take n)),I 0]/\Xz d r s (a+k+n)/\Kp (λk=>k=r) v d:=by
    rcases c with c|c
    ·exact c.2
    ·omega
   obtain⟨rfl,mX,bu⟩:=S;rw[fJ];have wh:Xz d l os ((SD (Ud p succ.length q)).length+k):=⟨bu.S4 y.1 ω,y.2⟩;refine Sf O<|Vk O<|Vj O<|Up O<|Sz O<|Sr z9o O (Zs wh n kM) ?_;rintro j A c
   have S:j= .tuple #[Su (T2 (((SA os).drop ((SD (Ud p succ.length q)).length+k)).take n)),I 0]/\Xz A l os ((SD (Ud p succ.length q)).length+k+n)/\Kp (λk=>k=l) d A:=by
    rcases c with c|c
    ·exact c.2
    ·omega
   obtain⟨rfl,Ge,bj⟩:=S;rw[gY];have Gf:Xz A r s (a+k+n):=⟨bj.S4 mX.1 ω,mX.2⟩;refine Sf O<|Vk O<|Vj O<|Up O<|Sz O<|TK O<|S5<|So O (λh1=>?_)<|λh1=>?_
   ·exact absurd O h1
   ·refine S6<|S2 ((ih (k+n) _ ⟨by rw[<-y1B];exact Gf,by rw[<-y1B];exact Ge,(E.trans (bu.Se λi e=> .inl e)).trans (bj.Se λi e=> .inr e),M⟩ ω).qb)
  ·have kQ:k=TB.length:=ω
   subst kQ;refine Sh O<|TU O<|S3 func214 O ?_;exact⟨_,O,O,G,((J.trans ke).kp.trans P).An E (λi hi=>by rcases hi with e|e;exact .inr e;exact .inl ω)⟩
theorem z3B {r:Nat}(h:Xz w r s a)(p:Vz)(M:p.U8)(x:Nat)(j:x<65536)(N:Nat)(hN:N<=65536){rc:Nat}(succ ref:List Nat)(Q:T4 succ)(Y:succ≠[])(jZ:succ.length<50)(Gg:∀y∈succ,y<N)(S:T4 ref)
  (q:Nat) (hq:q<=p.SH) (m:q=0->ref=[]) (f:Sk w 1 (W5 .gamma) 314) (X:Sk w 2 (W5 .unary) 314) (L:¬1=r) (dr:¬2=r) (Z:∀w2,Kp (λk=>k=r) w w2->Rd w2 (.slice ra ref.length rc) 1 ref.length (ref.map SV)) (lJ:ref.length<=rc)
  (hl:(SD (V7 p x succ ref q)).length<=134217728) (rest:List Bool) (hb:(SA s).drop a=SD (Yu p x succ ref q)++rest):
  SG prog 186 [ptr r 0,I (x:Int),I (N:Int),.agg #[I (succ.length:Int),I (q:Int)],.slice ra ref.length rc,lpV p] w λu w'=>∃v,u= .tuple #[v,I 0]/\Sl w' v 42 1 succ.length (succ.map SV)/\(∀g,v.ownBlock=some g->w.heap.size<=g)/\Xz w' r s (a+(SD (Yu p x succ ref q)).length)/\Kp (λk=>k=r) w w':=by
 obtain⟨g1,g2,g3,g4⟩:=id M
 have a4:=h.1.lt
 have a0:=f.lt
 have a2:=X.lt
 have ic:=Q.len
 have iV:=S.len
 have rl:0<succ.length:=List.length_pos_iff.2 Y
 refine py (e:=[(0,_),(1,_),(2,_),(3,_),(4,_),(5,_)]) func186 O ntmps186 O O<|qN O<|Sd O O (UD O (cs:=[I (succ.length:Int),I (q:Int)]) O) ?_
 rintro _ w1⟨b9,rfl,oU,z,F⟩
 refine Sd O O (UD O (cs:=lpC p) O) ?_
 rintro _ w2⟨H,rfl,jR,V,G⟩
 replace G:Sk w2 H [I (p.SH:Int),I (p.interval:Int),I (p.zeta:Int)] 276:=G
 have B:=z.trans V
 have z1:=z.size
 have z2:=V.size
 have l:=V.S4 F
 have l9:=l.lt
 have a1:=G.lt
 have a3:=F.lt
 refine To O<|It<|Tc (λR w'=>R=[(0,ptr r 0),(1,I (x:Int)),(2,I (N:Int)),(4,.slice ra ref.length rc),(9,ptr b9 0),(11,ptr H 0)]/\Ext w2 w') ?nD<|λnD=>?Gi
 case nD=>
  rintro R A⟨rfl,d⟩;have E:=B.trans d;have b:Xz A r s a:=⟨E.S4 h.1,h.2⟩;have P:=d.S4 l;have mK:=d.S4 G;have z3:=d.size;refine SE O<|Sr z26 O (XT b) ?_;rintro _ A⟨rfl,rfl⟩;refine TR O<|qV (VI (cs:=[_,_]) zl4 O znw O O)<|Sd O O (UD O (cs:=[ptr r 0,.bool false]) O) ?_;rintro _ w4⟨tb,rfl,Nm,C,Nn⟩;have z4:=C.size;have J:=E.trans C;have h4:TkM w4 tb r s a:=⟨Nn,⟨C.S4 b.1,b.2⟩,ω⟩;refine Up O (Sz O (qV (SO (news:=[I (succ.length:Int),I (q:Int)]) z5n O VS O ((C.S4 P).cells (n:=2) O) O) (Sf O (qV (SO (news:=lpC p) z0l O XN O ((C.S4 mK).cells (n:=3) O) O) (Sr zo8 O (zdF h4 (J.S4 f) L ω p M x j succ ref Q Y jZ S q hq m (λw2 k=>Z w2 (J.kp.trans k)) lJ rest hb) ?_)))));rintro v U⟨D,pn,o,W⟩;have K:Kp (λk=>k=r) w U:=J.kp.An W (λi hi=>by rcases hi with e|e;exact .inl ω;exact .inr e);have kd:=W.S4 (C.S4 P) ω;have Ax:=W.S4 (C.S4 mK) ω;have Np:=o.S4;have Nq:=K.S4 f L;have Nr:=K.S4 X dr;have co:=Z U K;have zJ:∀g,v.ownBlock=some g->w.heap.size<=g:=λg hg=>by have:=pn g hg;have:=J.size;omega
  obtain⟨va,vc,rfl,Eb⟩:=D.rd.shape
  have Gh:succ.length<=vc:=by
   rcases D.shape with⟨-,h0⟩|⟨g,c1,hv,eJ⟩
   ·omega
   ·cases hv;exact eJ
  refine Sq O<|SX O<|SC O<|Sn Xy O<|qV (Sc U4 O O Np O)<|Sz O<|UR SR O<|Sn X8 O<|qV (Sc U3 O O kd O)<|TK O<|T0<|Td O<|Sz O<|Sr z7J O (z0i _ succ Q U D.rd) ?_;rintro _ U⟨rfl,rfl⟩;refine qV (Vn O)<|Td O<|Sz O<|UR SR O<|U7 O<|T0<|Td O<|Sz O<|Sf O<|UR SR O<|UO O ?_;rw[show(succ.length:Int)-1=((succ.length-1:Nat):Int) by omega];obtain⟨y,hy⟩:∃y,succ[succ.length-1]? =some y:=⟨_,y04 ω⟩;have Ri:=Gg y (y0i hy)
  obtain⟨g5,c5,e5⟩:∃g c,Value.slice va succ.length vc= .slice (some ⟨g,0,none⟩) succ.length c:=by
   rcases D.shape with⟨-,h0⟩|⟨g,c,e,hc⟩
   ·omega
   ·exact⟨g,c,e⟩
  cases e5;refine qV (Tm SR Sy O O ω) (qV (SQ U0 O O (TF D.rd (show(succ.map SV)[succ.length-1]? =some (SV y) by rw[y0l,hy];rfl))) ?_);refine qV (T7 O U0 U3 ω)<|Sf O<|WZ O<|T0<|Td O<|Sf O<|qV (SO (news:=lpC p) z0l O XN O (Ax.cells (n:=3) O) O)<|Sz O<|Sf O<|qV (SO (news:=[I (succ.length:Int),I (q:Int)]) z5n O VS O (kd.cells (n:=2) O) O)<|Sz O<|Sr zlN O (zdC p M x j succ ref Q Y S q hq m Nq Nr D.rd co Gh lJ hl rest hb o.rd) ?_;rintro _ w6⟨rfl,h6,t⟩;refine qV (Vn O)<|Td O<|S5<|SI.qb (e:=[(0,_),(14,_),(16,_),(134,_)]) ?_;refine VP O<|SE O<|To O<|S3 func186 O ?_;exact⟨_,O,_,O,D.kp t (λg hg e=>by have:=zJ g hg;omega),zJ,h6,K.trans t⟩
 case Gi=>
  refine S7<|SE O<|qV (T9 Ye O O)<|Sq O<|S9 O<|It<|qN O<|qV (SO (news:=lpC p) z0l O XN O (G.cells (n:=3) O) O)<|Sr z89 O (XG p M w2) ?_;rintro _ A⟨rfl,d⟩;refine TK O<|Sz O<|Sr zbT O (ZF x j A) ?_;rintro _ A⟨rfl,rfl⟩;refine qV (Vn O)<|Td O<|Sz O<|TW O<|T0<|Td O<|Sz O<|Ub O<|T0<|Td O<|Sz O<|Sr z7J O (z0i _ ref S A (Z A (B.trans d).kp)) ?_;rintro _ A⟨rfl,rfl⟩;refine qV (Vn O)<|Td O<|Sq O<|SI.qb (e:=[(0,_),(1,_),(2,_),(4,_),(9,_),(11,_),(12,_),(13,_),(20,_)]) ?_;refine S9 O<|Sg O<|Sn X8 O<|qV (Sc U3 O O (d.S4 l) O)<|TW O<|T0<|Sf O<|Sn X8 O<|qV (Sc U3 O O (d.S4 l) O)<|Ub O<|T0<|Td O<|Sf O<|Sn Wb O ?_;refine qV (Sc U3 O O (d.S4 l) O)<|TW O<|T0<|Td O<|Sf O<|Sn Wb O<|qV (Sc U3 O O (d.S4 l) O)<|Sn Xd O<|qV (Sc U3 O O (d.S4 G) O)<|Ub O<|T0<|Td O<|Sf O ?_;rcases y0D q with T|T
  ·have Ns:ref.length=0:=by rw[m T];rfl
   refine Sn Wb O<|qV (Sc U3 O O (d.S4 l) O)<|U7 O<|Ue<|Sz O<|UR SR O<|Ub O<|T0<|Uj O<|Td O<|Sq O<|SI.qb (e:=[(0,_),(1,_),(2,_),(4,_),(9,_),(11,_),(12,_),(13,_),(20,_)]) ?_;refine S9 O<|qN O<|Sn X8 O<|qV (Sc U3 O O (d.S4 l) O)<|U7 O<|T0<|Sf O<|Ua<|qS<|Td O<|Sq O<|VP O<|S2 ?_;exact(nD _ _ ⟨O,d⟩).qb
  ·refine Sn Wb O<|qV (Sc U3 O O (d.S4 l) O)<|U7 O<|T0<|Sf O<|Ua<|qS<|Td O<|Td O<|Sq O<|SI.qb (e:=[(0,_),(1,_),(2,_),(4,_),(9,_),(11,_),(12,_),(13,_),(20,_)]) ?_;refine S9 O<|qN O<|Sn X8 O<|qV (Sc U3 O O (d.S4 l) O)<|U7 O<|T0<|Sf O<|Ua<|qS<|Td O<|Sq O<|VP O<|S2 ?_;exact(nD _ _ ⟨O,d⟩).qb
theorem z6Z {r:Nat}(p:Vz)(C:p.U8)(x:Nat)(J:x<65536)(N:Nat)(hN:N<=65536):
  SG prog 186 [ptr r 0,I (x:Int),I (N:Int),.agg #[I ((0:Nat):Int),I ((0:Nat):Int)],.slice none 0 0,lpV p] w λu w'=>u= .tuple #[.slice none 0 0,I 0]/\Ext w w':=by
 obtain⟨K,M,Q,g4⟩:=id C
 have U:([]:List Nat).length=0:=rfl
 refine py (e:=[(0,_),(1,_),(2,_),(3,_),(4,_),(5,_)]) func186 O ntmps186 O O<|qN O<|Sd O O (UD O (cs:=[I ((0:Nat):Int),I ((0:Nat):Int)]) O) ?_
 rintro _ w1⟨b9,rfl,V,D,H⟩
 refine Sd O O (UD O (cs:=lpC p) O) ?_
 rintro _ w2⟨v,rfl,S,A,l⟩
 replace l:Sk w2 v [I (p.SH:Int),I (p.interval:Int),I (p.zeta:Int)] 276:=l
 have G:=D.trans A
 have d:=A.S4 H
 refine To O<|TZ<|SE O<|qV (T9 Ye O O)<|Sq O<|S9 O<|It<|qN O<|qV (SO (news:=lpC p) z0l O XN O (l.cells (n:=3) O) O)<|Sr z89 O (XG p C w2) ?_
 rintro _ q⟨rfl,c⟩
 refine TK O<|Sz O<|Sr zbT O (ZF x J q) ?_
 rintro _ q⟨rfl,rfl⟩
 refine qV (Vn O)<|Td O<|Sz O<|TW O<|T0<|Td O<|Sz O<|Ub O<|T0<|Td O<|Sz O<|Sr z7J O (z0i (.slice none 0 0) [] ⟨y1p,λy h=>(by cases h)⟩ q Zo) ?_
 rintro _ q⟨rfl,rfl⟩
 refine qV (Vn O)<|Td O<|Sq O<|SI.qb (e:=[(0,_),(1,_),(2,_),(4,_),(9,_),(11,_),(12,_),(13,_),(20,_)]) ?_
 refine S9 O<|Sg O<|Sn X8 O<|qV (Sc U3 O O (c.S4 d) O)<|TW O<|T0<|Sf O<|Sn X8 O<|qV (Sc U3 O O (c.S4 d) O)<|Ub O<|T0<|Td O<|Sf O<|Sn Wb O ?_
 refine qV (Sc U3 O O (c.S4 d) O)<|TW O<|T0<|Td O<|Sf O<|Sn Wb O<|qV (Sc U3 O O (c.S4 d) O)<|Sn Xd O<|qV (Sc U3 O O (c.S4 l) O)<|Ub O<|T0<|Td O<|Sf O<|Sn Wb O ?_
 refine qV (Sc U3 O O (c.S4 d) O)<|U7 O<|Ue<|Sz O<|UR SR O<|Ub O<|T0<|Uj O<|Td O<|Sq O<|SI.qb (e:=[(0,_),(1,_),(2,_),(4,_),(9,_),(11,_),(12,_),(13,_),(20,_)]) ?_
 refine S9 O<|qN O<|Sn X8 O<|qV (Sc U3 O O (c.S4 d) O)<|U7 O<|Ue<|Sf O<|Sn Wb O<|qV (Sc U3 O O (c.S4 d) O)<|U7 O<|Ue<|Uj O<|Sq O<|Sb O ?_
 refine qN O<|To O<|S3 func186 O ?_
 exact⟨_,O,O,G.trans c⟩
/-! ### A packer's cells -/
def z06 (q:Value×Nat):List Value:=[q.1,I (q.2:Int)]
def pkC (p:TX)(R:List (Value×Nat))(n wp ed:Nat):List Value:=Z9 p++(R.flatMap z06++[I (n:Int),ptr wp 0,I (ed:Int),I 0])
theorem Vo:∀R:List (Value×Nat),(R.flatMap z06).length=R.length*2
 |[]=>rfl
 |q::R=>by rw[y0W,y01,Vo R,y03,show(z06 q).length=2 from rfl];omega
def z84:∀(R:List (Value×Nat)) (i j:Nat) (q:Value×Nat) (u:Value),R[i]? =some q->(z06 q)[j]? =some u->(R.flatMap z06)[i*2+j]? =some u
 |[],i,j,q,u,h,_=>by simp at h
 | a :: R, 0, j, q, u, h, hj => by
   rw[y1C] at h;cases h;have:=(y0p.1 hj).1;rw[y0W,y0I ω,y1m,y0g]
   exact hj
 | a :: R, i + 1, j, q, u, h, hj => by
   rw[y1N] at h;rw[y0W,y10 (by show 2<=_;omega),show(i+1)*2+j-(z06 a).length=i*2+j by show _-2=_;omega];exact z84 R i j q u h hj
theorem z9F:∀(R:List (Value×Nat)) (i:Nat) (x:Value×Nat),i<R.length->(R.set i x).flatMap z06=(R.flatMap z06).take (i*2)++z06 x++(R.flatMap z06).drop (i*2+2)
 |[],i,x,h=>by simp at h
 | a :: R, 0, x, h => by
   rw[y2E,y0W,y0W,y1m,y2S,y18,y0g,y11 (show(z06 a).length=2 from rfl)]
 | a :: R, i + 1, x, h => by
   rw[y03] at h;rw[List.set_cons_succ,y0W,y0W,z9F R i x ω];rw[show(i+1)*2=(z06 a).length+i*2 by show _=2+_;omega,y3a,y1B,y3k,y06,y06,y06]
section
variable {n:Nat}
theorem zaA (c:R.length=17):(pkC p R n wp ed).length=43:=by
 unfold pkC
 rw[y01,y01,Vo,c];rfl
def z41 (c:R.length=17)(j:Nat):(pkC p R n wp ed)[39+j]? =[I (n:Int),ptr wp 0,I (ed:Int),I 0][j]? :=by
 unfold pkC
 rw[y10 (by show 5<=_;omega),y10 (by rw[Vo,c];show _<=_-5;omega),Vo,c]
 congr 1
 show 39+j-5-17*2=j
 omega
def zaj (c:R.length=17):(pkC p R n wp ed)[39]? =some (I (n:Int)):=z41 c 0
def zkm (c:R.length=17):(pkC p R n wp ed)[40]? =some (ptr wp 0):=z41 c 1
def zlT (c:R.length=17):(pkC p R n wp ed)[41]? =some (I (ed:Int)):=z41 c 2
def zox (c:R.length=17):(pkC p R n wp ed)[42]? =some (I 0):=z41 c 3
def zgL (e:R.length=17){v:Value}{c:Nat}(h:R[i]? =some (v,c))(j:Nat)(u:Value)(d:[v,I (c:Int)][j]? =some u):(pkC p R n wp ed)[5+i*2+j]? =some u:=by
 have hi:=(y0p.1 h).1
 have l:j<2:=(y0p.1 d).1
 unfold pkC
 rw[y10 (by show 5<=_;omega),show 5+i*2+j-(Z9 p).length=i*2+j by show _-5=_;omega,y0I (by rw[Vo];omega)]
 exact z84 R i j _ u h d
theorem zdm (d:R.length=17)(hi:i<17)(v:Value)(c:Nat):Ul (pkC p R n wp ed) (5+i*2) [v,I (c:Int)]=pkC p (R.set i (v,c)) n wp ed:=by
 unfold pkC Ul
 rw[z9F R i (v,c) ω]
 rw[show 5+i*2=(Z9 p).length+i*2 from rfl,y3a,show(Z9 p).length+i*2+[v,I (c:Int)].length=(Z9 p).length+(i*2+2) from rfl,y3k]
 rw[y1v (by rw[Vo];omega),y1j (by rw[Vo];omega)]
 simp only[y06]
 rfl
theorem zhd (c:R.length=17)(m:Nat):(pkC p R n wp ed).set 39 (I (m:Int))=pkC p R m wp ed:=by
 unfold pkC
 rw[y22 _ _ (by show 5<=_;omega),y22 _ _ (by rw[Vo,c];show _<=39-5;omega),Vo,c]
 rfl
theorem zhm (c:R.length=17)(m:Nat):(pkC p R n wp ed).set 41 (I (m:Int))=pkC p R n wp m:=by
 unfold pkC
 rw[y22 _ _ (by show 5<=_;omega),y22 _ _ (by rw[Vo,c];show _<=41-5;omega),Vo,c]
 rfl
end
theorem zg8 {n:Nat}(hB:Sk w k (pkC p R n wp ed) 273)(q:R.length=17)(A:n<=65536)(a:Option Addr)(m cp c:Nat):
  SG prog 166 [ptr k 5,.slice a m cp,I (c:Int)] w λu w'=>u= .tuple #[]/\Sk w' k (pkC p (R.set (n%17) (.slice a m cp,c)) (n+1) wp ed) 273/\Kp (λi=>i=k) w w':=by
 refine py (e:=[(0,_),(1,_),(2,_)]) func166 O ntmps166 O O ?_
 have hg:=Ext.Sv w
 have r:(R.set (n%17) (.slice a m cp,c)).length=17:=by rw[y0w];exact q
 refine It<|Sx [12] (λw'=>Ext w w') y00 O<|Te 0 O O hg<|Te 1 O O hg<|SB 2 O (Tu O) hg<|SB 3 O (SN YN O) hg<|Te 6 O O hg<|Te 7 O O hg<|SB 8 O (VI (cs:=[_,_]) Uo O ziR O O) hg<|SB 9 O (Tu O) hg<|SB 10 O (SN zcr O) hg<|qL 4 O (λ_ h=>Sc U3 O O (h.S4 hB) (zaj q)) hg<|SB 5 O (yre O O ω) hg<|SB 11 O (yia zjJ Uo O O ω) hg ?_
 refine Wg [12]<|qO 12<|SY (i:=12) O O (Ta (news:=[.slice a m cp,I (c:Int)]) Uo O O O O (hg.S4 hB) (by rw[zaA q];show 5+n%17*2+2<=43;omega)) ?_
 rintro w1⟨d,v⟩
 refine⟨trivial,?_⟩
 replace d:Sk w1 k (Ul (pkC p R n wp ed) (5+n%17*2) [.slice a m cp,I (c:Int)]) 273:=d
 rw[zdm q (y13 _ ψ)] at d
 refine qE<|Uw O<|SC O<|Sn YN O<|qV (Sc U3 O O d (zaj r))<|Tr O<|SC O<|Sn YN O<|Sm O (TO T8 O O O d (by rw[zaA r];decide)) ?_
 rintro w2⟨l,x⟩
 replace l:Sk w2 k ((pkC p (R.set (n%17) (.slice a m cp,c)) n wp ed).set 39 (I ((n+1:Nat):Int))) 273:=l
 rw[zhd r] at l
 refine S5<|Tv func166 O ?_
 exact⟨_,O,O,l,(hg.kp.trans v).trans x⟩
def XL (p:TX)(m size c:Nat):Bool:=decide (0<m/\m<=p.most/\0<size/\size<=p.most/\c<p.chain)
theorem z1a {n:Nat}(hB:Sk w k (pkC p R n wp ed) 273)(S:R.length=17)(hn:n<=65536)(F:p.U8)(ref size:Nat)(h1:1<=ref)(h2:ref<=p.SH)
  {a:Option Addr} {m cp c:Nat} (L:ref<=n->R[(n-ref)%17]? =some (.slice a m cp,c)):
  SG prog 164 [ptr k 5,I (ref:Int),I (size:Int),bpV p] w λu w'=>u=(if ref<=n then .tuple #[.agg #[.slice a m cp,I (c:Int)],.bool (XL p m size c)] else .tuple #[.agg #[.slice none 0 0,I 0],.bool false])/\Ext w w':=by
 have Ay:p.SH<=16:=F.1.1
 refine py (e:=[(0,_),(1,_),(2,_),(3,_)]) func164 O ntmps164 O O<|qN O<|Sd O O (UD O (cs:=Z9 p) O) ?_
 rintro _ w1⟨b7,rfl,lu,b,g⟩
 refine Sd O O (UK (cs:=[_,_]) Uo O) ?_
 rintro _ w2⟨b8,rfl,iH,U,N⟩
 have z1:=b.size
 have z2:=U.size
 have l7:=g.lt
 have l8:=N.lt
 have K:=b.trans U
 have Q:=U.S4 g
 replace Q:Sk w2 b7 [I (p.SH:Int),I (p.chain:Int),I (p.interval:Int),I (p.zeta:Int),I (p.most:Int)] 93:=Q
 replace N:Sk w2 b8 [.slice none 0 0,I 0] 268:=N
 have Y:=K.S4 hB
 have q:=Ext.Sv w2
 refine Sq O<|It<|It ?_
 rcases y0a n ref with aN|o
 ·refine Ux (λw'=>Ext w2 w') O<|St 0 O O q<|S8 1 O (ylt O O) q<|WW<|St 2 O O q<|St 3 O O q<|St 4 O O q<|S8 5 O (Tu O) q<|S8 6 O (SN YN O) q<|S8 8 O (SN z4N O) q<|qT 9 O (λ_ h=>Sc U3 O O (h.S4 Q) O) q<|qT 7 O (λ_ h=>Sc U3 O O (h.S4 Y) (zaj S)) q<|S8 10 O (ymi O O) q<|S8 11 O (ygt O O) q ?_;refine Xl<|S8 12 O (Xg O O) q<|qE<|Sb O<|qN O<|qV (VI (cs:=[_,_]) Uo O ziR O O) ?_;have T:=q.S4 N;refine Sm O (Ta (news:=[.slice none 0 0,I 0]) Uo O O O O T ξ) ?_;rintro t⟨Z,z⟩;replace Z:Sk t b8 [.slice none 0 0,I 0] 268:=Z;refine Sq O<|SF func164 (.cell z0a O Uo O (Sk.cells (n:=2) Z (news:=[_,_]) O) O (.tmp O .nil)) ?_;rw[if_neg ω];exact⟨_,O,O,(K.trans q).An z (λi e=>ω)⟩
 ·have P:=L o;rw[if_pos o];refine Ux (λw'=>Ext w2 w') O<|St 0 O O q<|S8 1 O (ylt O O) q<|WW<|St 2 O O q<|St 3 O O q<|St 4 O O q<|S8 5 O (Tu O) q<|S8 6 O (SN YN O) q<|S8 8 O (SN z4N O) q<|qT 9 O (λ_ h=>Sc U3 O O (h.S4 Q) O) q<|qT 7 O (λ_ h=>Sc U3 O O (h.S4 Y) (zaj S)) q<|S8 10 O (ymi O O) q<|S8 11 O (ygt O O) q ?_;refine WW<|S8 12 O (Xg O O) q<|qE<|VP O<|It ?_;have f:=q.trans (Ext.Sv w2.drew);have A:=Ext.Sv w2.drew;have s:=q.S4 Y;refine Sx [13] (λw'=>Ext w2.drew w') y00 O (Te 0 O O A (Te 1 O O A (SB 2 O (Tu O) A (SB 3 O (SN YN O) A (Te 5 O O A (SB 8 O (Tu O) A (SB 9 O (SN zcr O) A (qL 4 O (λ_ h=>Sc U3 O O (h.S4 s) (zaj S)) A (SB 6 O (ysb O O ω) A ?_)))))))));rw[show(n:Int)-(ref:Int)=((n-ref:Nat):Int) by omega];refine SB 7 O (yre O O ω) A (SB 10 O (yia zjJ Uo O O ω) A (qL 11 O (λ_ h=>SO (news:=[.slice a m cp,I (c:Int)]) z0a O Uo O (λj u E=>by rw[(h.S4 s).cell];exact zgL S P j u E) O) A ?_));refine U6 (i:=12) y00<|Ty (i:=12) O O O (UK (cs:=[_,_]) Uo O) ?_;rintro _ t⟨W,rfl,zL,V,B⟩;refine⟨A.trans V,?_⟩;refine Wg [13] (qO 13 (SY (i:=13) O O (Ta (news:=[.slice a m cp,I (c:Int)]) Uo O O O O B ξ) ?_));rintro J⟨x,y⟩;refine⟨trivial,?_⟩;replace x:Sk J W [.slice a m cp,I (c:Int)] 268:=x;have X:=f.size;have z3:=V.size;have H:Ext w2 J:=(f.trans V).An y (λi e=>ω);have z4:=H.size;have M:=H.S4 N;have G:=H.S4 Q;have d:=Ext.Sv J;refine qE<|SI.qb (e:=[(2,_),(7,_),(8,_),(9,_),(10,_)]) ?_;refine It ?_;rcases y0D m with c0|c0
  ·refine Ux (λw'=>Kp (λi=>i=b8) J w') O (qT 0 O (λ_ l=>(SO z0a O Uo O (Sk.cells (n:=2) (l.S4 x ω) (news:=[_,_]) O) O)) d.kp (S8 1 O (SN Wa O) d.kp (qT 2 O (λ_ l=>(Sc SR O O (l.S4 x ω) O)) d.kp (S8 3 O (VQ SR O) d.kp (S8 4 O (ygt O O) d.kp (WW (St 5 O O d.kp (qJ 6 O d.kp (qJ 7 O d.kp (qJ 8 O d.kp (qJ 9 O d.kp (qJ 10 O d.kp (qJ 11 O d.kp ?_)))))))))))));refine S8 12 O (Xg O O) d.kp<|St 13 O O d.kp<|qJ 14 O d.kp<|qJ 15 O d.kp<|S8 16 O (Xg O O) d.kp<|St 17 O O d.kp<|qJ 18 O d.kp<|qJ 19 O d.kp<|qJ 20 O d.kp<|qJ 21 O d.kp<|S8 22 O (Xg O O) d.kp<|St 23 O O d.kp<|qJ 24 O d.kp<|qJ 25 O d.kp ?_;refine qJ 26 O d.kp (qJ 27 O d.kp (qJ 28 O d.kp (S8 29 O (Xg O O) d.kp (qO 30 (SY (i:=30) O O (Ta (news:=[.slice a m cp,I (c:Int)]) Uo O O O O (d.S4 M) ξ) ?_)))));rintro D⟨v,r⟩;refine⟨d.kp.trans r,?_⟩;replace v:Sk D b8 [.slice a m cp,I (c:Int)] 268:=v;refine S8 31 O (UU O) (d.kp.trans r)<|qE<|SI.qb (e:=[(8,_),(9,_)]) ?_;refine SF func164 (.cell z0a O Uo O (Sk.cells (n:=2) v (news:=[_,_]) O) O (.tmp O .nil)) ?_;have C:XL p m size c=false:=decide_eq_false (λh=>ω);rw[C];exact⟨_,O,O,((K.trans H).trans d).An r (λi e=>ω)⟩
  ·rcases y0a p.most m with c1|c1
   ·refine Ux (λw'=>Kp (λi=>i=b8) J w') O (qT 0 O (λ_ l=>(SO z0a O Uo O (Sk.cells (n:=2) (l.S4 x ω) (news:=[_,_]) O) O)) d.kp (S8 1 O (SN Wa O) d.kp (qT 2 O (λ_ l=>(Sc SR O O (l.S4 x ω) O)) d.kp (S8 3 O (VQ SR O) d.kp (S8 4 O (ygt O O) d.kp (Xl (St 5 O O d.kp (S8 6 O (SN Wa O) d.kp (qT 7 O (λ_ l=>(Sc SR O O (l.S4 x ω) O)) d.kp (S8 8 O (VQ SR O) d.kp (S8 9 O (SN Xt O) d.kp (qT 10 O (λ_ l=>(Sc U3 O O (l.S4 G ω) O)) d.kp (S8 11 O (yle O O) d.kp ?_)))))))))))));refine WW<|S8 12 O (YD O O) d.kp<|St 13 O O d.kp<|qJ 14 O d.kp<|qJ 15 O d.kp<|S8 16 O (Xg O O) d.kp<|St 17 O O d.kp<|qJ 18 O d.kp<|qJ 19 O d.kp<|qJ 20 O d.kp<|qJ 21 O d.kp<|S8 22 O (Xg O O) d.kp<|St 23 O O d.kp<|qJ 24 O d.kp ?_;refine qJ 25 O d.kp (qJ 26 O d.kp (qJ 27 O d.kp (qJ 28 O d.kp (S8 29 O (Xg O O) d.kp (qO 30 (SY (i:=30) O O (Ta (news:=[.slice a m cp,I (c:Int)]) Uo O O O O (d.S4 M) ξ) ?_))))));rintro D⟨v,r⟩;refine⟨d.kp.trans r,?_⟩;replace v:Sk D b8 [.slice a m cp,I (c:Int)] 268:=v;refine S8 31 O (UU O) (d.kp.trans r)<|qE<|SI.qb (e:=[(8,_),(9,_)]) ?_;refine SF func164 (.cell z0a O Uo O (Sk.cells (n:=2) v (news:=[_,_]) O) O (.tmp O .nil)) ?_;have C:XL p m size c=false:=decide_eq_false (λh=>ω);rw[C];exact⟨_,O,O,((K.trans H).trans d).An r (λi e=>ω)⟩
   ·rcases y0D size with c2|c2
    ·refine Ux (λw'=>Kp (λi=>i=b8) J w') O (qT 0 O (λ_ l=>(SO z0a O Uo O (Sk.cells (n:=2) (l.S4 x ω) (news:=[_,_]) O) O)) d.kp (S8 1 O (SN Wa O) d.kp (qT 2 O (λ_ l=>(Sc SR O O (l.S4 x ω) O)) d.kp (S8 3 O (VQ SR O) d.kp (S8 4 O (ygt O O) d.kp (Xl (St 5 O O d.kp (S8 6 O (SN Wa O) d.kp (qT 7 O (λ_ l=>(Sc SR O O (l.S4 x ω) O)) d.kp (S8 8 O (VQ SR O) d.kp (S8 9 O (SN Xt O) d.kp (qT 10 O (λ_ l=>(Sc U3 O O (l.S4 G ω) O)) d.kp (S8 11 O (yle O O) d.kp ?_)))))))))))));refine Xl<|S8 12 O (YD O O) d.kp<|St 13 O O d.kp<|St 14 O O d.kp<|S8 15 O (ygt O O) d.kp<|WW<|S8 16 O (YD O O) d.kp<|St 17 O O d.kp<|qJ 18 O d.kp<|qJ 19 O d.kp<|qJ 20 O d.kp<|qJ 21 O d.kp<|S8 22 O (Xg O O) d.kp<|St 23 O O d.kp ?_;refine qJ 24 O d.kp (qJ 25 O d.kp (qJ 26 O d.kp (qJ 27 O d.kp (qJ 28 O d.kp (S8 29 O (Xg O O) d.kp (qO 30 (SY (i:=30) O O (Ta (news:=[.slice a m cp,I (c:Int)]) Uo O O O O (d.S4 M) ξ) ?_)))))));rintro D⟨v,r⟩;refine⟨d.kp.trans r,?_⟩;replace v:Sk D b8 [.slice a m cp,I (c:Int)] 268:=v;refine S8 31 O (UU O) (d.kp.trans r)<|qE<|SI.qb (e:=[(8,_),(9,_)]) ?_;refine SF func164 (.cell z0a O Uo O (Sk.cells (n:=2) v (news:=[_,_]) O) O (.tmp O .nil)) ?_;have C:XL p m size c=false:=decide_eq_false (λh=>ω);rw[C];exact⟨_,O,O,((K.trans H).trans d).An r (λi e=>ω)⟩
    ·rcases y0a p.most size with c3|c3
     ·refine Ux (λw'=>Kp (λi=>i=b8) J w') O (qT 0 O (λ_ l=>(SO z0a O Uo O (Sk.cells (n:=2) (l.S4 x ω) (news:=[_,_]) O) O)) d.kp (S8 1 O (SN Wa O) d.kp (qT 2 O (λ_ l=>(Sc SR O O (l.S4 x ω) O)) d.kp (S8 3 O (VQ SR O) d.kp (S8 4 O (ygt O O) d.kp (Xl (St 5 O O d.kp (S8 6 O (SN Wa O) d.kp (qT 7 O (λ_ l=>(Sc SR O O (l.S4 x ω) O)) d.kp (S8 8 O (VQ SR O) d.kp (S8 9 O (SN Xt O) d.kp (qT 10 O (λ_ l=>(Sc U3 O O (l.S4 G ω) O)) d.kp (S8 11 O (yle O O) d.kp ?_)))))))))))));refine Xl (S8 12 O (YD O O) d.kp (St 13 O O d.kp (St 14 O O d.kp (S8 15 O (ygt O O) d.kp (Xl (S8 16 O (YD O O) d.kp (St 17 O O d.kp (St 18 O O d.kp (S8 19 O (SN Xt O) d.kp (qT 20 O (λ_ l=>(Sc U3 O O (l.S4 G ω) O)) d.kp (S8 21 O (yle O O) d.kp (WW (S8 22 O (YD O O) d.kp ?_)))))))))))));refine St 23 O O d.kp (qJ 24 O d.kp (qJ 25 O d.kp (qJ 26 O d.kp (qJ 27 O d.kp (qJ 28 O d.kp (S8 29 O (Xg O O) d.kp (qO 30 (SY (i:=30) O O (Ta (news:=[.slice a m cp,I (c:Int)]) Uo O O O O (d.S4 M) ξ) ?_))))))));rintro D⟨v,r⟩;refine⟨d.kp.trans r,?_⟩;replace v:Sk D b8 [.slice a m cp,I (c:Int)] 268:=v;refine S8 31 O (UU O) (d.kp.trans r)<|qE<|SI.qb (e:=[(8,_),(9,_)]) ?_;refine SF func164 (.cell z0a O Uo O (Sk.cells (n:=2) v (news:=[_,_]) O) O (.tmp O .nil)) ?_;have C:XL p m size c=false:=decide_eq_false (λh=>ω);rw[C];exact⟨_,O,O,((K.trans H).trans d).An r (λi e=>ω)⟩
     ·rcases y0a c p.chain with c4|c4
      ·refine Ux (λw'=>Kp (λi=>i=b8) J w') O (qT 0 O (λ_ l=>(SO z0a O Uo O (Sk.cells (n:=2) (l.S4 x ω) (news:=[_,_]) O) O)) d.kp (S8 1 O (SN Wa O) d.kp (qT 2 O (λ_ l=>(Sc SR O O (l.S4 x ω) O)) d.kp (S8 3 O (VQ SR O) d.kp (S8 4 O (ygt O O) d.kp (Xl (St 5 O O d.kp (S8 6 O (SN Wa O) d.kp (qT 7 O (λ_ l=>(Sc SR O O (l.S4 x ω) O)) d.kp (S8 8 O (VQ SR O) d.kp (S8 9 O (SN Xt O) d.kp (qT 10 O (λ_ l=>(Sc U3 O O (l.S4 G ω) O)) d.kp (S8 11 O (yle O O) d.kp ?_)))))))))))));refine Xl (S8 12 O (YD O O) d.kp (St 13 O O d.kp (St 14 O O d.kp (S8 15 O (ygt O O) d.kp (Xl (S8 16 O (YD O O) d.kp (St 17 O O d.kp (St 18 O O d.kp (S8 19 O (SN Xt O) d.kp (qT 20 O (λ_ l=>(Sc U3 O O (l.S4 G ω) O)) d.kp (S8 21 O (yle O O) d.kp (Xl (S8 22 O (YD O O) d.kp ?_)))))))))))));refine St 23 O O d.kp (S8 24 O (SN z7n O) d.kp (qT 25 O (λ_ l=>(Sc U3 O O (l.S4 x ω) O)) d.kp (S8 26 O (SN z2V O) d.kp (qT 27 O (λ_ l=>(Sc U3 O O (l.S4 G ω) O)) d.kp (S8 28 O (ylt O O) d.kp (Xl (S8 29 O (YD O O) d.kp (qO 30 (SY (i:=30) O O (Ta (news:=[.slice a m cp,I (c:Int)]) Uo O O O O (d.S4 M) ξ) ?_)))))))));rintro D⟨v,r⟩;refine⟨d.kp.trans r,?_⟩;replace v:Sk D b8 [.slice a m cp,I (c:Int)] 268:=v;refine S8 31 O (UU O) (d.kp.trans r)<|qE<|SI.qb (e:=[(8,_),(9,_)]) ?_;refine SF func164 (.cell z0a O Uo O (Sk.cells (n:=2) v (news:=[_,_]) O) O (.tmp O .nil)) ?_;have C:XL p m size c=true:=decide_eq_true ⟨ω,ω,ω,ω,ω⟩;rw[C];exact⟨_,O,O,((K.trans H).trans d).An r (λi e=>ω)⟩
      ·refine Ux (λw'=>Kp (λi=>i=b8) J w') O (qT 0 O (λ_ l=>(SO z0a O Uo O (Sk.cells (n:=2) (l.S4 x ω) (news:=[_,_]) O) O)) d.kp (S8 1 O (SN Wa O) d.kp (qT 2 O (λ_ l=>(Sc SR O O (l.S4 x ω) O)) d.kp (S8 3 O (VQ SR O) d.kp (S8 4 O (ygt O O) d.kp (Xl (St 5 O O d.kp (S8 6 O (SN Wa O) d.kp (qT 7 O (λ_ l=>(Sc SR O O (l.S4 x ω) O)) d.kp (S8 8 O (VQ SR O) d.kp (S8 9 O (SN Xt O) d.kp (qT 10 O (λ_ l=>(Sc U3 O O (l.S4 G ω) O)) d.kp (S8 11 O (yle O O) d.kp ?_)))))))))))));refine Xl (S8 12 O (YD O O) d.kp (St 13 O O d.kp (St 14 O O d.kp (S8 15 O (ygt O O) d.kp (Xl (S8 16 O (YD O O) d.kp (St 17 O O d.kp (St 18 O O d.kp (S8 19 O (SN Xt O) d.kp (qT 20 O (λ_ l=>(Sc U3 O O (l.S4 G ω) O)) d.kp (S8 21 O (yle O O) d.kp (Xl (S8 22 O (YD O O) d.kp ?_)))))))))))));refine St 23 O O d.kp (S8 24 O (SN z7n O) d.kp (qT 25 O (λ_ l=>(Sc U3 O O (l.S4 x ω) O)) d.kp (S8 26 O (SN z2V O) d.kp (qT 27 O (λ_ l=>(Sc U3 O O (l.S4 G ω) O)) d.kp (S8 28 O (ylt O O) d.kp (WW (S8 29 O (YD O O) d.kp (qO 30 (SY (i:=30) O O (Ta (news:=[.slice a m cp,I (c:Int)]) Uo O O O O (d.S4 M) ξ) ?_)))))))));rintro D⟨v,r⟩;refine⟨d.kp.trans r,?_⟩;replace v:Sk D b8 [.slice a m cp,I (c:Int)] 268:=v;refine S8 31 O (UU O) (d.kp.trans r)<|qE<|SI.qb (e:=[(8,_),(9,_)]) ?_;refine SF func164 (.cell z0a O Uo O (Sk.cells (n:=2) v (news:=[_,_]) O) O (.tmp O .nil)) ?_;have C:XL p m size c=false:=decide_eq_false (λh=>ω);rw[C];exact⟨_,O,O,((K.trans H).trans d).An r (λi e=>ω)⟩
abbrev zc8:List (Value×Nat):=List.replicate 17 (.slice none 0 0,0)
theorem zdu (p:TX)(C:p.U8)(w:World):SG prog 124 [bpV p] w λu w'=>∃k wp F,u= .tuple #[ptr k 0,I 0]/\Sk w' k (pkC p zc8 0 wp 0) 273/\WrA w' wp [] F/\¬F k/\Ext w w'/\w.heap.size<=k/\∀i,F i->w.heap.size<=i:=by
 refine py (e:=[(0,_)]) func124 O ntmps124 O O<|qN O<|Sd O O (UD O (cs:=Z9 p) O) ?_
 rintro _ w1⟨b1,rfl,G,q,r⟩
 have M:=q.size
 refine To O<|It<|qN O<|qV (SO (news:=Z9 p) U93 O Vf O (r.cells (n:=5) O) O)<|Sr ziT O (z3z p C w1) ?_
 rintro _ w2⟨rfl,h⟩
 have N:=h.size
 have hg:=Ext.Sv w2
 refine TR O<|TK O<|Tt O<|It<|Ux (λw'=>Ext w2 w') O<|qT 0 O (λ_ A=>SO (news:=Z9 p) U93 O Vf O ((A.S4 (h.S4 r)).cells (n:=5) O) O) hg<|VF 1 O z5b O (Yk _) ?_
 rintro _ J⟨wp,F,rfl,v,l,D⟩
 refine⟨hg.trans l,?_⟩
 have d:=hg.trans l
 have Q:=d.size
 refine S8 2 O (VI zni O zl2 O O) (hg.trans l)<|qO 3<|z1Y (i:=3) O O O (UD O (cs:=pkC p zc8 0 wp 0) O) ?_
 rintro _ K⟨k,rfl,H,c,x⟩
 refine⟨d.trans c,?_⟩
 refine S8 4 O (UU O) (d.trans c)<|S8 5 O (UU O) (d.trans c)<|qE<|S3 func124 O ?_
 exact⟨_,O,k,wp,F,O,x,v.ext c,λe=>by have:=v.lt e;omega,((q.trans h).trans d).trans c,ω,λi hi=>by have:=D i hi;have:=hg.size;omega⟩
structure PkM (w:World)(k:Nat)(p:TX)(L:List (List Nat))(E:List (Nat×Nat))(bs:List Bool)(F:Nat->Prop)(R:List (Value×Nat))(wp ed:Nat):Prop where
 S4:Sk w k (pkC p R L.length wp ed) 273
 len:R.length=17
 wr:WrA w wp bs F
 nk:¬F k
 el:E.length=L.length
 ok:∀l∈L,T4 l
 ring:∀j l e,L[j]? =some l->E[j]? =some e->L.length<=j+17->∃a cp,R[j%17]? =some (.slice a l.length cp,e.2)/\l.length<=cp/\Sl w (.slice a l.length cp) 42 1 l.length (l.map SV)/\(∀g,(Value.slice a l.length cp).ownBlock=some g->¬F g/\g≠k)
theorem PkM.ext (h:PkM w k p L E bs F R wp ed)(c:Ext w w'):PkM w' k p L E bs F R wp ed:=
 ⟨c.S4 h.S4,h.len,h.wr.ext c,h.nk,h.el,h.ok,λj l e r u v=>by
  obtain⟨a,cp,d,n,q,g4⟩:=h.ring j l e r u v
  exact⟨a,cp,d,n,q.ext c,g4⟩⟩
def Found (p:TX)(L:List (List Nat))(E:List (Nat×Nat))(R:List (Value×Nat))(size ref:Nat)(v:Value)(c:Nat):Prop:=
 (ref=0/\v= .slice none 0 0/\c=0)\/(1<=ref/\ref<=p.SH/\ref<=L.length/\R[(L.length-ref)%17]? =some (v,c)/\∃l e,L[L.length-ref]? =some l/\E[L.length-ref]? =some e/\c=e.2/\XL p l.length size e.2=true)
structure AdM (w:World)(k b2 b3 b7 b8 b4 b9:Nat)(a:Option Addr)(m cp n least ref:Nat)(v:Value)(c:Nat):Prop where
 c2:Sk w b2 [ptr k 0] 223
 c3:Sk w b3 [.slice a m cp] 40
 c7:Sk w b7 [I (n:Int)] 3
 c8:Sk w b8 [I (least:Int)] 3
 c4:Sk w b4 [I (ref:Int)] 3
 c9:Sk w b9 [v,I (c:Int)] 268
def AdM.kp {S:Nat->Prop}{a:Option Addr}{cp n ref:Nat}{v:Value}{c:Nat}(h:AdM w k b2 b3 b7 b8 b4 b9 a m cp n least ref v c)(d:Kp S w w')(l:∀i,S i->i≠b2/\i≠b3/\i≠b7/\i≠b8/\i≠b4/\i≠b9):AdM w' k b2 b3 b7 b8 b4 b9 a m cp n least ref v c:=
 ⟨d.S4 h.c2 (λe=>(l _ e).1 O),d.S4 h.c3 (λe=>(l _ e).2.1 O),d.S4 h.c7 (λe=>(l _ e).2.2.1 O),d.S4 h.c8 (λe=>(l _ e).2.2.2.1 O),d.S4 h.c4 (λe=>(l _ e).2.2.2.2.1 O),d.S4 h.c9 (λe=>(l _ e).2.2.2.2.2 O)⟩
def AdM.ext {a:Option Addr}{cp n ref:Nat}{v:Value}{c:Nat}(h:AdM w k b2 b3 b7 b8 b4 b9 a m cp n least ref v c)(d:Ext w w'):AdM w' k b2 b3 b7 b8 b4 b9 a m cp n least ref v c:=h.kp (S:=λ_=>False) d.kp (λi e=>e.elim)
theorem zgZ (y:p.U8)(h:PkM w k p L E bs F R wp ed)(hG:Sk w 1 (W5 .gamma) 314)(hU:Sk w 2 (W5 .unary) 314)(hL:L.length<65536)
  {b2 b3 b7 b8 b4 b9:Nat} {a:Option Addr} {cp least ref:Nat} {v:Value} {c:Nat} {succ:List Nat} (hs:T4 succ) (mJ:succ.length<=cp) (eY:Rd w (.slice a succ.length cp) 1 succ.length (succ.map SV)) (t:AdM w k b2 b3 b7 b8 b4 b9 a succ.length cp L.length least ref v c) (hF:Found p L E R succ.length ref v c)
  (hd:b8≠b2/\b8≠b3/\b8≠b7/\b4≠b2/\b4≠b3/\b4≠b7/\b9≠b2/\b9≠b3/\b9≠b7/\b8≠b4/\b8≠b9/\b4≠b9) (r:Nat) (X:1<=r) (s:r<=p.SH):
  SG prog 163 [I (r:Int),ptr b2 0,ptr b3 0,ptr b7 0,ptr b8 0,ptr b4 0,ptr b9 0] w λu w'=>u= .tuple #[]/\Kp (λi=>i=b8\/i=b4\/i=b9) w w'/\∃N S v' c',AdM w' k b2 b3 b7 b8 b4 b9 a succ.length cp L.length N S v' c'/\Found p L E R succ.length S v' c':=by
 have Ay:p.SH<=16:=y.1.1
 obtain⟨D,c1,K,J,sC,Nt⟩:∃D c1 K J,(r<=L.length->R[(L.length-r)%17]? =some (.slice D K c1,J))/\(r<=L.length->∃l e,L[L.length-r]? =some l/\E[L.length-r]? =some e/\K=l.length/\J=e.2/\l.length<=c1/\Sl w (.slice D l.length c1) 42 1 l.length (l.map SV)):=by
  by_cases hr:r<=L.length
  ·obtain⟨l,hl⟩:∃l,L[L.length-r]? =some l:=⟨_,y04 ω⟩;obtain⟨e,he⟩:∃e,E[L.length-r]? =some e:=⟨_,y04 (by have:=h.el;omega)⟩;obtain⟨D,c1,g1,g2,g3,g4⟩:=h.ring _ l e hl he ω;exact⟨D,c1,l.length,e.2,λ_=>g1,λ_=>⟨l,e,hl,he,O,O,g2,g3⟩⟩
  ·exact⟨none,0,0,0,λe=>absurd e hr,λe=>absurd e hr⟩
 have ff:=t.c2
 have pC:=t.c3
 have hg:=Ext.Sv w
 have nE:∀{w2:World},Sk w2 k (pkC p R L.length wp ed) 273->∀j u,(Z9 p)[j]? =some u->w2.cell? ⟨k,0+j,none⟩=some u:=λhB j u hj=>hB.cells (i:=0) (n:=5) (news:=Z9 p) O j u hj
 refine py (e:=[(0,_),(1,_),(2,_),(3,_),(4,_),(5,_),(6,_)]) func163 O ntmps163 O O<|It<|Tc (λe' w'=>∃x v1 d1 ok,e'=[(0,I (r:Int)),(1,ptr b2 0),(2,ptr b3 0),(3,ptr b7 0),(4,ptr b8 0),(5,ptr b4 0),(6,ptr b9 0),(8,ptr x 0),(9,.bool ok)]/\Ext w w'/\w.heap.size<=x/\Sk w' x [v1,I ((d1:Nat):Int)] 268/\(ok=true->r<=L.length/\v1= .slice D K c1/\d1=J/\XL p K succ.length J=true)) ?bL<|λbL=>?dE
 case bL=>
  rintro e' w1⟨x,v1,d1,ok,rfl,g,Nm,wn,aq⟩;have B:=t.ext g;have sD:=B.c2;have qX:=B.c3;have yQ:=B.c7;have Lb:=B.c8;refine SX O<|qV (Vn O)<|S5<|TL O (λh3=>?_)<|λh3=>?_
  ·refine S3 func163 O ?_;exact⟨_,O,O,g.kp,_,_,_,_,B,hF⟩
  ·have Gj:ok=true:=by cases ok<;>simp_all
   obtain⟨Gk,rfl,rfl,gN⟩:=aq Gj;obtain⟨l,e,hl,he,rfl,rfl,rk,Nu⟩:=Nt Gk;have Gl:=sC Gk;have Gm:T4 l:=h.ok l (y0i hl);have G:=Ext.Sv w1;refine S6<|It<|Ux (λw'=>Ext w1 w') O<|qT 0 O (λ_ h=>(Sc U3 O O (h.S4 yQ) O)) G<|qT 1 O (λ_ h=>(Sc SR O O (h.S4 qX) O)) G<|S8 2 O (SN Wa O) G<|qT 3 O (λ_ h=>(Sc SR O O (h.S4 wn) O)) G<|St 4 O O (G)<|qT 5 O (λ_ h=>(Sc z0e O O (h.S4 sD) O)) G<|S8 6 O (Tu O) G<|S8 7 O (SN z0Z O) G<|qT 8 O (λ_ hS=>SO (news:=Z9 p) U93 O Vf O (nE (hS.S4 (g.S4 h.S4))) O) G<|VF 9 O z4X O (WH p _) ?_;rintro _ w9⟨rfl,fj⟩;refine⟨G.trans fj,?_⟩;have Q:=G.trans fj;have ik:=g.trans Q;refine VF 10 O z8w O (Zu p.list y.1 L.length hL succ l hs Gm r s (λe=>ω) (ik.S4 hG) (ik.S4 hU) (eY.ext ik) (Nu.rd.ext ik) mJ rk) ?_;rintro _ A⟨rfl,q⟩;refine⟨Q.trans q,?_⟩;have il:=Q.trans q;have nq:=B.ext il;have Gn:=nq.c8;have Gp:=il.S4 wn
   generalize (SD (V7 p.list L.length succ l r)).length=nb
   refine St 11 O O (Q.trans q)<|S8 12 O (UY O O) (Q.trans q)<|S8 13 O (UY O O) (Q.trans q)<|S8 14 O (UU O) (Q.trans q)<|S8 15 O (UU O) (Q.trans q)<|qE<|SI.qb (e:=[(0,_),(4,_),(5,_),(6,_),(8,_),(10,_)]) ?_;refine SE O<|qV (Sc U3 O O Gn O)<|TW O<|S5<|So O (λh4=>?_)<|λh4=>?_
   ·have U:=Ext.Sv A;have z:=nq.ext U;have a5:=t.c8.lt;have a4:=t.c4.lt;have a6:=t.c9.lt;have Nv:¬(x=b8\/x=b4\/x=b9):=ω
    refine Ux (λw'=>Kp (λi=>i=b8\/i=b4\/i=b9) A w') O (St 0 O O U.kp (St 1 O O U.kp (qT 2 O (λ_ h=>SO z0a O Uo O (Sk.cells (n:=2) (h.S4 Gp Nv) (news:=[_,_]) O) O) U.kp (qO 3 (SY (i:=3) O O (TO T8 O O O z.c8 ξ) ?_)))));rintro a0⟨bq,o⟩;refine⟨U.kp.trans (o.Se λi e=> .inl e),?_⟩;have ut:Kp (λi=>i=b8\/i=b4\/i=b9) A a0:=U.kp.trans (o.Se λi e=> .inl e);have Nw:=o.S4 z.c4 (λe=>hd.2.2.2.2.2.2.2.2.2.1 e.symm);refine qO 4 (SY (i:=4) O O (TO T8 O O O Nw ξ) ?_);rintro a2⟨bC,m⟩;refine⟨ut.trans (m.Se λi e=> .inr (.inl e)),?_⟩;have Az:Kp (λi=>i=b8\/i=b4\/i=b9) A a2:=ut.trans (m.Se λi e=> .inr (.inl e));have Ny:=m.S4 (o.S4 z.c9 (λe=>hd.2.2.2.2.2.2.2.2.2.2.1 e.symm)) (λe=>hd.2.2.2.2.2.2.2.2.2.2.2 e.symm);refine qO 5 (SY (i:=5) O O (Ta (news:=[.slice D l.length c1,I (e.2:Int)]) Uo O O O O Ny ξ) ?_);rintro a3⟨bM,P⟩;refine⟨Az.trans (P.Se λi e=> .inr (.inr e)),?_⟩;replace bM:Sk a3 b9 [.slice D l.length c1,I (e.2:Int)] 268:=bM;replace bC:Sk a2 b4 [I (r:Int)] 3:=bC;replace bq:Sk a0 b8 [I (nb:Int)] 3:=bq;refine qE<|Tv func163 O ?_;obtain⟨d1,d2,d3,d4,d5,d6,d7,d8,d9,d10,d11,d12⟩:=hd;have fu:∀{b:Nat} {cs:List Value} {T:TypeId},Sk A.drew b cs T->b8≠b->b4≠b->b9≠b->Sk a3 b cs T:=λhB n1 n2 n3=>P.S4 (m.S4 (o.S4 hB (λe=>n1 e.symm)) (λe=>n2 e.symm)) (λe=>n3 e.symm);refine⟨_,O,O,?_,nb,r,.slice D l.length c1,e.2,⟨fu z.c2 d1 d4 d7,fu z.c3 d2 d5 d8,fu z.c7 d3 d6 d9,P.S4 (m.S4 bq d10) d11,P.S4 bC d12,bM⟩,.inr ⟨X,s,Gk,Gl,l,e,hl,he,O,gN⟩⟩;exact((g.trans il).trans U).kp.trans ((o.Se λi e=> .inl e).trans ((m.Se λi e=> .inr (.inl e)).trans (P.Se λi e=> .inr (.inr e))))
   ·refine S6<|Tv func163 O ?_;exact⟨_,O,O,(g.trans il).kp,_,_,_,_,nq,hF⟩
 case dE=>
  rcases y0a L.length r with aN|mY
  ·have d:=hg;refine Sx [15] (λw'=>Ext w w') y00 O<|qL 0 O (λ_ h=>(Sc z0e O O (h.S4 ff) O)) d<|SB 1 O (Tu O) d<|SB 2 O (SN z2s O) d<|Te 3 O O d<|qL 4 O (λ_ h=>(Sc SR O O (h.S4 pC) O)) d<|SB 5 O (VQ SR O) d<|qL 6 O (λ_ h=>(Sc z0e O O (h.S4 ff) O)) d<|SB 7 O (Tu O) d<|SB 8 O (SN z0Z O) d<|qL 9 O (λ_ hS=>SO (news:=Z9 p) U93 O Vf O (nE (hS.S4 h.S4)) O) d<|Zj (i:=10) (j:=14) y00 ?_ ?_
   ·refine Uu (i:=10) O O O (yc zbF O) (z1a (d.S4 h.S4) h.len ω y r succ.length X s sC) ?_;rintro _ A⟨M,q⟩;refine⟨d.trans q,?_⟩;rw[if_neg ω] at M;subst M
    try have C:=q.S4 C
    have d:=d.trans q;refine Te 11 O O d (SB 12 O (UY O O) d (Tz (i:=13) O y00 O O (λ_=>UY O O) d (U6 (i:=14) y00 (Ty (i:=14) O O O (UK (cs:=[_,_]) Uo O) ?_))));rintro _ Z⟨x,rfl,px,H,C⟩;refine⟨d.trans H,?_⟩;have Y:w.heap.size<=x:=by have:=d.size;omega
    have d:=d.trans H;refine Wg [15] (qO 15 (SY (i:=15) O O (Ta (news:=[.slice none 0 0,I ((0:Nat):Int)]) Uo O O O O C ξ) ?_));rintro f⟨V,W⟩;refine⟨trivial,?_⟩;refine S8 16 O (UU O) trivial<|qE ?_;exact(bL _ _ ⟨x,.slice none 0 0,0,false,O,d.An W (λi e=>ω),Y,V,λe=>by cases e⟩).qb
   ·refine Ty (i:=14) O O O (UK (cs:=[_,_]) Uo O) ?_;rintro _ Z⟨x,rfl,px,H,C⟩;refine⟨d.trans H,?_⟩;have Y:w.heap.size<=x:=by have:=d.size;omega
    have d:=d.trans H;refine U6 (i:=10) y00 (Uu (i:=10) O O O (yc zbF O) (z1a (d.S4 h.S4) h.len ω y r succ.length X s sC) ?_);rintro _ A⟨M,q⟩;refine⟨d.trans q,?_⟩;rw[if_neg ω] at M;subst M
    try have C:=q.S4 C
    have d:=d.trans q;refine Te 11 O O d (SB 12 O (UY O O) d (Tz (i:=13) O y00 O O (λ_=>UY O O) d (Wg [15] (qO 15 (SY (i:=15) O O (Ta (news:=[.slice none 0 0,I ((0:Nat):Int)]) Uo O O O O C ξ) ?_)))));rintro f⟨V,W⟩;refine⟨trivial,?_⟩;refine S8 16 O (UU O) trivial<|qE ?_;exact(bL _ _ ⟨x,.slice none 0 0,0,false,O,d.An W (λi e=>ω),Y,V,λe=>by cases e⟩).qb
  ·have d:=hg;refine Sx [15] (λw'=>Ext w w') y00 O<|qL 0 O (λ_ h=>(Sc z0e O O (h.S4 ff) O)) d<|SB 1 O (Tu O) d<|SB 2 O (SN z2s O) d<|Te 3 O O d<|qL 4 O (λ_ h=>(Sc SR O O (h.S4 pC) O)) d<|SB 5 O (VQ SR O) d<|qL 6 O (λ_ h=>(Sc z0e O O (h.S4 ff) O)) d<|SB 7 O (Tu O) d<|SB 8 O (SN z0Z O) d<|qL 9 O (λ_ hS=>SO (news:=Z9 p) U93 O Vf O (nE (hS.S4 h.S4)) O) d<|Zj (i:=10) (j:=14) y00 ?_ ?_
   ·refine Uu (i:=10) O O O (yc zbF O) (z1a (d.S4 h.S4) h.len ω y r succ.length X s sC) ?_;rintro _ A⟨M,q⟩;refine⟨d.trans q,?_⟩;rw[if_pos mY] at M;subst M
    try have C:=q.S4 C
    have d:=d.trans q;refine Te 11 O O d (SB 12 O (UY O O) d (Tz (i:=13) O y00 O O (λ_=>UY O O) d (U6 (i:=14) y00 (Ty (i:=14) O O O (UK (cs:=[_,_]) Uo O) ?_))));rintro _ Z⟨x,rfl,px,H,C⟩;refine⟨d.trans H,?_⟩;have Y:w.heap.size<=x:=by have:=d.size;omega
    have d:=d.trans H;refine Wg [15] (qO 15 (SY (i:=15) O O (Ta (news:=[.slice D K c1,I ((J:Nat):Int)]) Uo O O O O C ξ) ?_));rintro f⟨V,W⟩;refine⟨trivial,?_⟩;refine S8 16 O (UU O) trivial<|qE ?_;exact(bL _ _ ⟨x,.slice D K c1,J,XL p K succ.length J,O,d.An W (λi e=>ω),Y,V,λe=>⟨mY,O,O,e⟩⟩).qb
   ·refine Ty (i:=14) O O O (UK (cs:=[_,_]) Uo O) ?_;rintro _ Z⟨x,rfl,px,H,C⟩;refine⟨d.trans H,?_⟩;have Y:w.heap.size<=x:=by have:=d.size;omega
    have d:=d.trans H;refine U6 (i:=10) y00 (Uu (i:=10) O O O (yc zbF O) (z1a (d.S4 h.S4) h.len ω y r succ.length X s sC) ?_);rintro _ A⟨M,q⟩;refine⟨d.trans q,?_⟩;rw[if_pos mY] at M;subst M
    try have C:=q.S4 C
    have d:=d.trans q;refine Te 11 O O d (SB 12 O (UY O O) d (Tz (i:=13) O y00 O O (λ_=>UY O O) d (Wg [15] (qO 15 (SY (i:=15) O O (Ta (news:=[.slice D K c1,I ((J:Nat):Int)]) Uo O O O O C ξ) ?_)))));rintro f⟨V,W⟩;refine⟨trivial,?_⟩;refine S8 16 O (UU O) trivial<|qE ?_;exact(bL _ _ ⟨x,.slice D K c1,J,XL p K succ.length J,O,d.An W (λi e=>ω),Y,V,λe=>⟨mY,O,O,e⟩⟩).qb
def Ug (L:List (List Nat))(n r:Nat):List Nat:=if r=0 then [] else(L[n-r]?).getD []
def z3l (p:TX)(L:List (List Nat))(E:List (Nat×Nat))(n size:Nat)(e:Nat×Nat):Prop:=
 e=(0,0)\/(1<=e.1/\e.1<=p.SH/\e.1<=n/\∃l c,L[n-e.1]? =some l/\E[n-e.1]? =some c/\e.2=c.2+1/\XL p l.length size c.2=true)
theorem zjj {n:Nat}(c:j<n)(d:n+1<=j+17):j%17≠n%17:=ω
theorem PkM.add {O G Y o s H:World}{x:List Bool}{q:Nat->Prop}(h:PkM w k p L E bs F R wp ed)(V:Ext w O)(U:Kp F O G)(b:WrA G wp x q)(N:∀i,q i->F i\/O.heap.size<=i)
  {u:Option Addr} {c S r:Nat} {succ:List Nat} (hs:T4 succ) (W:Ext G Y) (yR:Sl Y (.slice u succ.length c) 42 1 succ.length (succ.map SV)) (wo:succ.length<=c) (A:∀g,(Value.slice u succ.length c).ownBlock=some g->G.heap.size<=g)
  (I:Kp (λi=>i=k) Y o) (M:Kp (λi=>i=k) o s) (Q:Kp (λi=>i=b4) s H) (fO:w.heap.size<=b4) (Nz:b4<O.heap.size) (t:Sk H k (pkC p (R.set (L.length%17) (.slice u succ.length c,S)) (L.length+1) wp (ed+succ.length)) 273):
  PkM H k p (L++[succ]) (E++[(r,S)]) x q (R.set (L.length%17) (.slice u succ.length c,S)) wp (ed+succ.length)/\Kp (λi=>F i\/i=k) w H/\∀i,q i->F i\/w.heap.size<=i:=by
 have lk:=h.S4.lt
 have zA:=V.size
 have zB:=U.size
 have lw:∀i,F i->i<w.heap.size:=λi hi=>h.wr.lt hi
 have pD:∀i,q i->i<G.heap.size:=λi hi=>b.lt hi
 have Z:¬q k:=λe=>by rcases N k e with e|e;exact h.nk e;omega
 have y:¬q b4:=λe=>by rcases N b4 e with e|e;(have:=lw _ e;omega);omega
 have z:∀{v:Value} {n:Nat} {cs:List Value},Sl w v 42 1 n cs->(∀g,v.ownBlock=some g->¬F g/\g≠k)->Sl H v 42 1 n cs:=λm hg=>
  ((((((m.ext V).kp U (λg e=>(hg g e).1)).ext W).kp I (λg e=>(hg g e).2)).kp M (λg e=>(hg g e).2)).kp Q (λg e d=>by have:=m.lt e;omega))
 have P:=((yR.kp I (λg e d=>by have:=A g e;omega)).kp M (λg e d=>by have:=A g e;omega)).kp Q (λg e d=>by have:=A g e;omega)
 refine⟨⟨by rw[y01,y1q];exact t,by rw[y0w];exact h.len,(((b.ext W).kp I (λi hi e=>Z (e▸hi))).kp M (λi hi e=>Z (e▸hi))).kp Q (λi hi e=>y (e▸hi)),Z,by rw[y01,y01,h.el];rfl,λl D=>?_,λj l e C J h3=>?_⟩,?_,λi hi=>?_⟩
 ·rcases y0y.1 D with D|D
  ·exact h.ok l D
  ·rw[y0F.1 D];exact hs
 ·rw[y01,y1q] at h3;rcases y0a j L.length with K|K
  ·rw[y0I K] at C;rw[y0I (by rw[h.el];exact K)] at J;obtain⟨a,cp,X,g2,f,g4⟩:=h.ring j l e C J ω;refine⟨a,cp,?_,g2,z f g4,λg hg=>⟨λd=>?_,(g4 g hg).2⟩⟩
   ·rw[y0M (λd=>zjj K ω d.symm)];exact X
   ·rcases N g d with d|d
    ·exact(g4 g hg).1 d
    ·have:=f.lt hg;omega
  ·have B:=(y0p.1 C).1;rw[y01,y1q] at B;have T:j=L.length:=ω
   subst T;rw[y10 (y07 _),y1w,y1C] at C;rw[y10 (by rw[h.el];exact y07 _),h.el,y1w,y1C] at J;cases C;cases J;refine⟨u,c,y0X (by rw[h.len];exact y13 _ ψ),wo,P,λg hg=>⟨λd=>?_,λd=>?_⟩⟩
   ·have:=A g hg;have:=pD g d;omega
   ·have:=A g hg;omega
 ·exact((((V.kp.trans (U.Se λi e=> .inl e)).trans W.kp).trans (I.Se λi e=> .inr e)).trans (M.Se λi e=> .inr e)).An Q (λi e=> .inl ω)
 ·rcases N i hi with e| e
  ·exact .inl e
  ·exact .inr ω
theorem zd2 (m:p.U8)(h:PkM w k p L E bs F R wp ed)(hG:Sk w 1 (W5 .gamma) 314)(hU:Sk w 2 (W5 .unary) 314)(hL:L.length<65536)
  {a:Option Addr} {cp:Nat} {succ:List Nat} (B:T4 succ) (mJ:succ.length<=cp) (t:Rd w (.slice a succ.length cp) 1 succ.length (succ.map SV)) (Ed:ed+succ.length<=1048576) (NB:∀g,0<succ.length->(Value.slice a succ.length cp).ownBlock=some g->¬F g/\g≠k)
  (pE:∀r,r<=p.SH->bs.length+(SD (V7 p.list L.length succ (Ug L L.length r) r)).length<=134217728):
  SG prog 126 [ptr k 0,.slice a succ.length cp] w λu w'=>∃(r least f:Nat)(F':Nat->Prop) (R':List (Value×Nat)),u= .tuple #[I (r:Int),I (least:Int),I 0]/\z3l p L E L.length succ.length (r,f)/\
   PkM w' k p (L++[succ]) (E++[(r,f)]) (bs++SD (V7 p.list L.length succ (Ug L L.length r) r)) F' R' wp (ed+succ.length)/\Kp (λi=>F i\/i=k) w w'/\∀i,F' i->F i\/w.heap.size<=i:=by
 have Ay:p.SH<=16:=m.1.1
 have lk:=h.S4.lt
 have nE:∀{w2:World},Sk w2 k (pkC p R L.length wp ed) 273->∀j u,(Z9 p)[j]? =some u->w2.cell? ⟨k,0+j,none⟩=some u:=λhB j u hj=>hB.cells (i:=0) (n:=5) (news:=Z9 p) O j u hj
 refine py (e:=[(0,_),(1,_)]) func126 O ntmps126 O O<|qN O<|Sd O O (UD O (cs:=[ptr k 0]) O) ?_
 rintro _ w1⟨b2,rfl,bS,aa,ak⟩
 refine Sd O O (UD O (cs:=[.slice a succ.length cp]) O) ?_
 rintro _ w2⟨b3,rfl,dS,ae,au⟩
 refine Sd O O (UK (cs:=[_]) T8 O) ?_
 rintro _ w3⟨b4,rfl,fO,ah,aG⟩
 have z1:=aa.size
 have z2:=ae.size
 have z3:=ah.size
 have a4:=ak.lt
 have a5:=au.lt
 have a6:=aG.lt
 have bG:=(aa.trans ae).trans ah
 have cd:=ah.S4 (ae.S4 ak)
 have fm:=ah.S4 au
 have pB:=bG.S4 h.S4
 replace aG:Sk w3 b4 [I ((0:Nat):Int)] 3:=aG
 refine To O<|TZ<|qN O<|qV (Sc z0e O O cd O)<|qV (T9 z0e O O)<|Sq O<|S9 O<|qN O<|qV (Sc z0e O O cd O)<|SC O<|Sn z2s O<|Sn YN O<|qV (Sc U3 O O pB (zaj h.len))<|WZ O ?_
 refine T0<|Sq O<|VP O<|S2<|qN O<|qV (Sc z0e O O cd O)<|SC O<|Sn z2s O<|Sn YN O<|qV (Sc U3 O O pB (zaj h.len))<|Sd O O (UK (cs:=[_]) T8 O) ?_
 rintro _ w4⟨b7,rfl,lu,aA,cm⟩
 have z4:=aA.size
 have a7:=cm.lt
 refine Sm O (TO T8 O O O cm ξ) ?_
 rintro W⟨nB,ai⟩
 replace nB:Sk W b7 [I (L.length:Int)] 3:=nB
 have bQ:Ext w3 W:=aA.An ai (λi e=>ω)
 have G:=bG.trans bQ
 have z5:=bQ.size
 have ab:=ai.size
 have AA:=G.S4 h.S4
 have dI:=bQ.S4 cd
 have cJ:=bQ.S4 fm
 have aP:=bQ.S4 aG
 have cY:=Ext.Sv W
 refine S5<|It<|Tc (λe' w'=>∃b8 least,e'=[(2,ptr b2 0),(3,ptr b3 0),(4,ptr b4 0),(7,ptr b7 0),(8,ptr b8 0),(6,I 0)]/\Ext W w'/\W.heap.size<=b8/\Sk w' b8 [I ((least:Nat):Int)] 3) ?bL<|λbL=>?dE
 case bL =>
  rintro e' w6⟨b8,U,rfl,A,iH,aZ⟩;have z6:=A.size;have a8:=aZ.lt;have jl:=G.trans A;have Gv:=A.S4 AA;have iI:=A.S4 dI;have jS:=A.S4 cJ;have H:=Ext.Sv w6;refine TZ (SE O (TK O (Sq O (S9 O (It (Ux (λw'=>Ext w6 w') O (qT 0 O (λ_ h=>(Sc z0e O O (h.S4 iI) O)) H (S8 1 O (Tu O) H (S8 2 O (SN z6Q O) H (qT 4 O (λ_ h=>(Sc SR O O (h.S4 jS) O)) H (S8 5 O (VQ SR O) H (qT 3 O (λ_ d=>Sc U3 O O (d.S4 Gv) (zlT h.len)) H (S8 6 O (YB O O ω) H ?_)))))))))))));refine S8 7 O (ygt O O) H<|WW<|S8 8 O (UU O) H<|qE<|VP O<|S2<|qN O ?_;have ad:=H.size;refine Sd O O (UK (cs:=[_,_]) Uo O) ?_;rintro _ w7⟨b9,rfl,oU,C,cI⟩;have a9:=cI.lt;have P:=H.trans C;have lz:=jl.trans P;have lN:=A.trans P;have z7:=lz.size;have ac:=P.size;have Gw:=lz.S4 h.S4;have E2:AdM w7 k b2 b3 b7 b8 b4 b9 a succ.length cp L.length U 0 (.slice none 0 0) 0:=⟨P.S4 iI,P.S4 jS,lN.S4 nB,P.S4 aZ,lN.S4 aP,cI⟩;have hd:b8≠b2/\b8≠b3/\b8≠b7/\b4≠b2/\b4≠b3/\b4≠b7/\b9≠b2/\b9≠b3/\b9≠b7/\b8≠b4/\b8≠b9/\b4≠b9:=ω
  refine qM O<|qV (ymf (first:=[]) (caps:=[.tmp 2,.tmp 3,.tmp 7,.tmp 8,.tmp 4,.tmp 9]) O O)<|Sq O<|It<|qN O ?_;have Gx:=E2.c2;refine qV (Sc z0e O O Gx O)<|SC O<|Sn z0Z O<|Sn z4N O<|qV (Sc U3 O O Gw O)<|Sf O<|S5<|SI.qb (e:=[(2,_),(3,_),(4,_),(6,_),(7,_),(8,_),(9,_),(10,_),(58,_),(59,_)]) ?_;refine S7<|UW (α:=Nat) (0) (λi=>[(2,ptr b2 0),(3,ptr b3 0),(4,ptr b4 0),(7,ptr b7 0),(8,ptr b8 0),(9,ptr b9 0),(10,.func (.func 163) #[] #[ptr b2 0,ptr b3 0,ptr b7 0,ptr b8 0,ptr b4 0,ptr b9 0]),(58,I (p.SH:Int)),(59,I (i:Int))]) (λi w'=>Ext w w'/\w7.heap.size<=w'.heap.size/\i<=p.SH/\∃least ref v c,AdM w' k b2 b3 b7 b8 b4 b9 a succ.length cp L.length least ref v c/\Found p L E R succ.length ref v c) (λi=>p.SH-i) ?hI ?hround
  case hI=>exact⟨lz,y07 _,y02 _,_,_,_,_,E2,.inl ⟨O,O,O⟩⟩
  case hround=>
   rintro i wA⟨N,Rj,hi,least,ref,v,c,Z,hF⟩ ih
   try dsimp only
   refine qN O<|TW O<|S5<|It<|So O (λh0=>?_)<|λh0=>?_
   ·refine S6<|TZ<|SE O<|Sq O<|Sg O<|Sz O<|Tr O ?_;rw[show(i:Int)+1=((i+1:Nat):Int) by omega];refine Uk O O (Vc znA O O) (zgZ m (h.ext N) (N.S4 hG) (N.S4 hU) hL B mJ (t.ext N) Z hF hd (i+1) ω ω) ?_;rintro _ w9⟨rfl,aK,a2,a3,v',c',ui,NC⟩;have z9:=aK.size;refine S5<|S2<|Sg O<|Tr O<|Sf O<|S5 ?_;exact(ih (i+1) _ ⟨N.An aK (λi hi=>ω),ω,ω,_,_,_,_,ui,NC⟩ ω).qb
   ·have J:∀b,w.heap.size<=b->¬F b:=λb hb e=>by have:=h.wr.lt e;omega
    have ww:=N.S4 h.S4
    have DY:ref<=p.SH/\(ref=0->Ug L L.length ref=[])/\T4 (Ug L L.length ref)/\(∃va s,v= .slice va (Ug L L.length ref).length s/\(Ug L L.length ref).length<=s/\Rd wA (.slice va (Ug L L.length ref).length s) 1 (Ug L L.length ref).length ((Ug L L.length ref).map SV))/\z3l p L E L.length succ.length (ref,if 0<ref then c+1 else 0)/\c<=65536:=by
     rcases hF with⟨rfl,rfl,rfl⟩|⟨f1,f2,f3,f4,l,e,f5,f6,rfl,f8⟩
     ·refine⟨y02 _,λ_=>rfl,⟨y1p,λy h=>(by cases h)⟩,⟨none,0,rfl,y02 _,Zo⟩,.inl rfl,y02 _⟩
     ·have iM:Ug L L.length ref=l:=by unfold Ug;rw[if_neg ω,f5];rfl
      obtain⟨va,s,g1,g2,g3,g4⟩:=h.ring _ l e f5 f6 ω;rw[f4] at g1;have gv:v= .slice va l.length s:=(Prod.mk.inj (UC g1)).1;have hb:=of_decide_eq_true f8;have ND:=m.2.1;rw[iM];exact⟨f2,λe=>ω,h.ok l (y0i f5),⟨va,s,gv,g2,(g3.ext N).rd⟩,.inr ⟨f1,f2,f3,l,e,f5,f6,by dsimp only;rw[if_pos ω],f8⟩,ω⟩
    obtain⟨cS,dr,cw,⟨va,s,rfl,bI,co⟩,iP,NE⟩:=DY;have Lc:=pE ref cS
    generalize Gy:Ug L L.length ref=lr at dr cw bI co Lc Z
    have ox:=Z.c2;have ug:=Z.c3;have Gz:=Z.c7;have AB:=Z.c9;have AC:=Z.c4;have GA:=Z.c8;have x:=Ext.Sv wA;refine Sh O (It (It (Ux (λw'=>Kp F wA w') O (qT 0 O (λ_ d=>(Sc z0e O O (d.S4 ox (J _ ω)) O)) x.kp (S8 1 O (Tu O) x.kp (S8 2 O (SN z6C O) x.kp (qT 4 O (λ_ d=>(Sc U3 O O (d.S4 Gz (J _ ω)) O)) x.kp (qT 5 O (λ_ d=>(Sc SR O O (d.S4 ug (J _ ω)) O)) x.kp (S8 6 O (SN Wa O) x.kp (qT 7 O (λ_ d=>(Sc SR O O (d.S4 AB (J _ ω)) O)) x.kp (qT 8 O (λ_ d=>(Sc U3 O O (d.S4 AC (J _ ω)) O)) x.kp (qT 9 O (λ_ d=>(Sc z0e O O (d.S4 ox (J _ ω)) O)) x.kp (S8 10 O (Tu O) x.kp ?_)))))))))))));refine S8 11 O (SN z0Z O) x.kp<|qT 3 O (λ_ d=>Sc z5u O O (d.S4 ww h.nk) (zkm h.len)) x.kp<|qT 12 O (λ_ d=>SO (news:=Z9 p) U93 O Vf O (nE (d.S4 ww h.nk)) O) x.kp<|VF 13 O z4X O (WH p _) ?_;rintro _ w9⟨rfl,fj⟩;refine⟨(x.trans fj).kp,?_⟩;have T:=x.trans fj;have ik:=N.trans T;refine VF 14 O ziY O (z3s (h.wr.ext ik) p.list m.1 L.length hL succ lr B cw ref cS dr (ik.S4 hG) (ik.S4 hU) (t.ext ik) (co.ext T) mJ bI Lc) ?_;rintro _ wB⟨rfl,F',Ec,jT,sE⟩;refine⟨T.kp.trans jT,?_⟩;have S:Kp F wA wB:=T.kp.trans jT;have GB:∀i,F' i->F i\/wA.heap.size<=i:=λi hi=>(sE i hi).imp id (λe=>by have:=T.size;omega);have AD:=S.S4 AC (J _ ω);have GC:=S.S4 AB (J _ ω);have AE:=S.S4 ox (J _ ω);have AF:=S.S4 ug (J _ ω);have GD:=S.S4 GA (J _ ω);have GE:=S.S4 ww h.nk;have Up:=S.size;have GF:Rd wB (.slice a succ.length cp) 1 succ.length (succ.map SV):=(t.ext N).kpz S (λh0 g hg=>(NB g h0 hg).1);refine S8 15 O (UU O) (T.kp.trans jT)<|qE<|SI.qb (e:=[(2,_),(3,_),(4,_),(8,_),(9,_),(12,_)]) ?_;refine SE O<|TK O<|Tt O<|TU O<|It<|qN O<|qV (Sc U3 O O AD O)<|Ub O<|S5<|Tc (λe' w'=>e'=[(2,ptr b2 0),(3,ptr b3 0),(4,ptr b4 0),(8,ptr b8 0),(13,I ((if 0<ref then c+1 else 0:Nat):Int))]/\w'=wB) ?az<|λaz=>?eO
    case az=>
     rintro e' M⟨rfl,rfl⟩
     generalize (if 0<ref then c+1 else 0)=f at iP
     have Q:=Ext.Sv M;have GG:∀i,i<M.heap.size->¬(Value.slice none 0 0).ownBlock=some i:=λi _ e=>by cases e
     refine It (Ux (λw'=>Kp (λi=>i=k) M w') O (qT 0 O (λ_ d=>(Sc z0e O O (d.S4 AE ω) O)) Q.kp (S8 1 O (Tu O) Q.kp (S8 2 O (SN z2s O) Q.kp (qT 3 O (λ_ d=>(Sc SR O O (d.S4 AF ω) O)) Q.kp (St 5 O O Q.kp (qO 4 (z1Y (i:=4) O O O (pap SR Sy O ψ O O (Sl.nil _ _ _) (GF.ext Q) (z7t _) ω (by simp only[maxLen];omega)) ?_))))))));rintro v' wC⟨yR,kO,NF,-⟩;refine⟨Q.kp.trans (kO.Se λi e=>by cases e),?_⟩;have o:Ext M wC:=Q.trans ((Ext.refl _).An kO (λi e=>by cases e));rw[y0g,y18] at yR;obtain⟨a',D,rfl,-⟩:=yR.rd.shape
     have wo:succ.length<=D:=by
      rcases yR.shape with⟨e,h0⟩|⟨g,c1,hv,eJ⟩
      ·omega
      ·cases hv;exact eJ
     have AG:∀g,(Value.slice a' succ.length D).ownBlock=some g->M.heap.size<=g:=λg hg=>by
      rcases NF g hg with e| e
      ·cases e
      ·have:=Q.size;omega
     have GH:=o.S4 GE;refine VF 6 O zlc O (zg8 GH h.len ω a' succ.length D f) ?_;rintro _ wD⟨rfl,Ld,z⟩;refine⟨o.kp.trans z,?_⟩;have cu:(R.set (L.length%17) (.slice a' succ.length D,f)).length=17:=by rw[y0w];exact h.len
     have GI:=z.S4 (o.S4 AE) ω;have GJ:=z.S4 (o.S4 AF) ω;have GK:=z.S4 (o.S4 AD) ω;have GL:=z.S4 (o.S4 GD) ω;have K:=Ext.Sv wD;refine qE (It (Sx [9] (λw'=>Ext wD w') y00 O (qL 0 O (λ_ h=>(Sc z0e O O (h.S4 GI) O)) K (SB 1 O (Tu O) K (SB 2 O (SN z6Q O) K (qL 4 O (λ_ h=>(Sc SR O O (h.S4 GJ) O)) K (SB 5 O (VQ SR O) K (qL 3 O (λ_ h=>Sc U3 O O (h.S4 Ld) (zlT cu)) K (SB 6 O (YB O O ω) K (SB 7 O (Tu O) K (SB 8 O (SN z6Q O) K (Wg [9] (qO 9 ?_)))))))))))));refine SY (i:=9) O O (TO T8 O O O (K.S4 Ld) (by rw[zaA cu];decide)) ?_;rintro wE⟨Ee,GM⟩;refine⟨trivial,?_⟩;replace Ee:Sk wE k ((pkC p (R.set (L.length%17) (.slice a' succ.length D,f)) (L.length+1) wp ed).set 41 (I ((ed+succ.length:Nat):Int))) 273:=Ee;rw[zhm cu] at Ee;have rj:Kp (λi=>i=k) wD wE:=K.kp.trans GM;have wG:=rj.S4 GK ω;have GN:=rj.S4 GL ω;have V:=Ext.Sv wE;refine qE (It (Ux (λw'=>Kp (λi=>i=b4) wE w'/\Sk w' b4 [I (ref:Int)] 3) O (qT 0 O (λ_ h=>(Sc U3 O O h.2 O)) (⟨V.kp,V.S4 wG⟩) (qT 1 O (λ_ d=>(Sc U3 O O (d.1.S4 GN ω) O)) (⟨V.kp,V.S4 wG⟩) (qO 2 (SY (i:=2) O O (TO T8 O O O (V.S4 wG) ξ) ?_))))));rintro wF⟨X,sH⟩;refine⟨⟨V.kp.trans sH,X⟩,?_⟩;replace X:Sk wF b4 [I (ref:Int)] 3:=X;have wq:Kp (λi=>i=b4) wE wF:=V.kp.trans sH;have Gq:=wq.S4 Ee ω;refine S8 3 O (UU O) (⟨V.kp.trans sH,X⟩)<|S8 4 O (UU O) (⟨V.kp.trans sH,X⟩)<|qE<|SI.qb (e:=[(4,_),(5,_),(6,_)]) ?_;refine SF func126 (.cell1 U3 O O ((X).cell _) (.tmp O (.tmp O .nil))) ?_;obtain⟨q1,q2,q3⟩:=h.add (r:=ref) N S Ec GB B o yR wo AG z rj wq ω ω Gq;exact⟨_,O,ref,least,f,F',_,O,iP,by rw[Gy];exact q1,q2,q3⟩
    case eO=>
     refine So O (λh5=>?_)<|λh5=>?_
     ·refine Sg O<|Sn z7n O<|qV (Sc U3 O O GC O)<|Tr O<|Sq O ?_;rw[show(c:Int)+1=((if 0<ref then c+1 else 0:Nat):Int) by rw[if_pos ω];omega];exact(az _ _ ⟨O,O⟩).qb
     ·refine S6 ?_;have jZ:(if 0<ref then c+1 else 0)=0:=if_neg ω;exact(az _ _ ⟨by rw[jZ],O⟩).qb
 case dE=>
  have az:=cY;refine Sx [12] (λw'=>Ext W w') y00 O<|qL 0 O (λ_ h=>(Sc U3 O O (h.S4 nB) O)) az<|qL 1 O (λ_ h=>(Sc SR O O (h.S4 cJ) O)) az<|qL 2 O (λ_ h=>(Sc z0e O O (h.S4 dI) O)) az<|SB 3 O (Tu O) az<|SB 4 O (SN z0Z O) az<|qL 5 O (λ_ h=>SO (news:=Z9 p) U93 O Vf O (nE (h.S4 AA)) O) az<|Zj (i:=6) (j:=11) y00 ?_ ?_
  ·refine Uu (i:=6) O O O (yc z4X O) (WH p _) ?_;rintro _ w6⟨rfl,A⟩;refine⟨az.trans A,?_⟩
   try have q:=A.S4 q
   have az:=az.trans A;refine Zj (i:=7) (j:=11) y00 ?_ ?_
   ·refine Uu (i:=7) O O O (yc z8w O) (Zu p.list m.1 L.length hL succ [] B ⟨y1p,λy h=>(by cases h)⟩ 0 (y02 _) (λ_=>rfl) ((G.trans az).S4 hG) ((G.trans az).S4 hU) (t.ext (G.trans az)) Zo mJ (y02 _)) ?_;rintro _ w7⟨rfl,C⟩;refine⟨az.trans C,?_⟩
    try have q:=C.S4 q
    have az:=az.trans C;refine Te 8 O O az (SB 9 O (UY O O) az (Tz (i:=10) O y00 O O (λ_=>UY O O) az (U6 (i:=11) y00 (Ty (i:=11) O O O (UK (cs:=[_]) T8 O) ?_))));rintro _ a0⟨b8,rfl,jR,Y,q⟩;refine⟨az.trans Y,?_⟩;have pG:W.heap.size<=b8:=by have:=az.size;omega
    have az:=az.trans Y;refine Wg [12] (qO 12 (SY (i:=12) O O (TO T8 O O O q ξ) ?_));rintro a1⟨bC,bj⟩;refine⟨trivial,?_⟩;refine S8 13 O (UU O) trivial<|qE<|SI.qb (e:=[(2,_),(3,_),(4,_),(5,_),(6,_),(7,_),(8,_)]) ?_;exact(bL _ _ ⟨b8,_,O,az.An bj (λi e=>ω),pG,bC⟩).qb
   ·refine Ty (i:=11) O O O (UK (cs:=[_]) T8 O) ?_;rintro _ a0⟨b8,rfl,jR,Y,q⟩;refine⟨az.trans Y,?_⟩;have pG:W.heap.size<=b8:=by have:=az.size;omega
    have az:=az.trans Y;refine U6 (i:=7) y00 (Uu (i:=7) O O O (yc z8w O) (Zu p.list m.1 L.length hL succ [] B ⟨y1p,λy h=>(by cases h)⟩ 0 (y02 _) (λ_=>rfl) ((G.trans az).S4 hG) ((G.trans az).S4 hU) (t.ext (G.trans az)) Zo mJ (y02 _)) ?_);rintro _ w7⟨rfl,C⟩;refine⟨az.trans C,?_⟩
    try have q:=C.S4 q
    have az:=az.trans C;refine Te 8 O O az (SB 9 O (UY O O) az (Tz (i:=10) O y00 O O (λ_=>UY O O) az (Wg [12] (qO 12 (SY (i:=12) O O (TO T8 O O O q ξ) ?_)))));rintro a1⟨bC,bj⟩;refine⟨trivial,?_⟩;refine S8 13 O (UU O) trivial<|qE<|SI.qb (e:=[(2,_),(3,_),(4,_),(5,_),(6,_),(7,_),(8,_)]) ?_;exact(bL _ _ ⟨b8,_,O,az.An bj (λi e=>ω),pG,bC⟩).qb
  ·refine Ty (i:=11) O O O (UK (cs:=[_]) T8 O) ?_;rintro _ a0⟨b8,rfl,jR,Y,q⟩;refine⟨az.trans Y,?_⟩;have pG:W.heap.size<=b8:=by have:=az.size;omega
   have az:=az.trans Y;refine U6 (i:=6) y00<|Uu (i:=6) O O O (yc z4X O) (WH p _) ?_;rintro _ w6⟨rfl,A⟩;refine⟨az.trans A,?_⟩
   try have q:=A.S4 q
   have az:=az.trans A;refine U6 (i:=7) y00 (Uu (i:=7) O O O (yc z8w O) (Zu p.list m.1 L.length hL succ [] B ⟨y1p,λy h=>(by cases h)⟩ 0 (y02 _) (λ_=>rfl) ((G.trans az).S4 hG) ((G.trans az).S4 hU) (t.ext (G.trans az)) Zo mJ (y02 _)) ?_);rintro _ w7⟨rfl,C⟩;refine⟨az.trans C,?_⟩
   try have q:=C.S4 q
   have az:=az.trans C;refine Te 8 O O az (SB 9 O (UY O O) az (Tz (i:=10) O y00 O O (λ_=>UY O O) az (Wg [12] (qO 12 (SY (i:=12) O O (TO T8 O O O q ξ) ?_)))));rintro a1⟨bC,bj⟩;refine⟨trivial,?_⟩;refine S8 13 O (UU O) trivial<|qE<|SI.qb (e:=[(2,_),(3,_),(4,_),(5,_),(6,_),(7,_),(8,_)]) ?_;exact(bL _ _ ⟨b8,_,O,az.An bj (λi e=>ω),pG,bC⟩).qb
section
def zaR (h:PkM w k p L E bs F R wp ed)(d:bs.length<=9223372036854775):SG prog 127 [ptr k 0] w λu w'=>u=I (bs.length:Int)/\Ext w w':=by
 refine py (e:=[(0,_)]) func127 O ntmps127 O O ?_
 have hg:=Ext.Sv w
 refine TU O<|SX O<|qV (T9 z0e O O)<|Tt O<|It<|Ux (λw'=>Ext w w') O<|St 0 O O hg<|S8 1 O (Tu O) hg<|S8 2 O (SN zha O) hg<|St 4 O O hg<|S8 5 O (Tu O) hg<|S8 6 O (SN z6C O) hg<|qT 3 O (λ_ c=>Sc U3 O O (c.S4 h.S4) (zox h.len)) hg<|qT 7 O (λ_ c=>Sc z5u O O (c.S4 h.S4) (zkm h.len)) hg ?_
 refine VF 8 O z5Y O (Za (h.wr.ext hg)) ?_
 rintro _ w1⟨rfl,rfl⟩
 refine⟨hg,?_⟩
 refine S8 9 O (YB O O ω) hg<|S8 10 O (UU O) hg<|qE ?_
 rw[show(0:Int)+(bs.length:Int)=(bs.length:Int) by omega]
 refine S3 func127 O ?_
 exact⟨_,O,O,hg⟩
def zbB (h:PkM w k p L E bs F R wp ed):SG prog 128 [ptr k 0] w λu w'=>u= .tuple #[S (SM bs),I 0]/\w'=w:=by
 refine py (e:=[(0,_)]) func128 O ntmps128 O O<|qN O<|To O<|SX O<|qV (T9 z0e O O)<|Tt O<|SE O<|SC O<|Sn z6C O<|qV (Sc z5u O O h.S4 (zkm h.len))<|Sr zc1 O (z18 h.wr) ?_
 rintro _ w1⟨rfl,rfl⟩
 refine Vk O<|To O<|S3 func128 O ?_
 exact⟨_,O,O,O⟩
end
structure GrM (w:World)(v:Value)(g:List (List Nat)):Prop where
 ex:∃vs:List Value,Rd w v 1 g.length vs/\∀(i:Nat)(l:List Nat),g[i]? =some l->∃(a:Option Addr)(c:Nat),vs[i]? =some (Value.slice a l.length c)/\l.length<=c/\Rd w (.slice a l.length c) 1 l.length (l.map SV)
theorem GrM.ext {v:Value}(h:GrM w v g)(d:Ext w w'):GrM w' v g:=by
 obtain⟨vs,r,u⟩:=h.ex
 refine⟨vs,r.ext d,λi l x=>?_⟩
 obtain⟨a,c,e,n,q⟩:=u i l x
 exact⟨a,c,e,n,q.ext d⟩
structure Um (g:List (List Nat)):Prop where
 ok:∀l∈g,T4 l
 lt:∀l∈g,∀y∈l,y<g.length
 n:g.length<=60
theorem Um.len (h:Um g){l:List Nat}(c:l∈g):l.length<=g.length:=by
 have:=z6W l 0 g.length (h.ok l c).ris (λy d=>⟨y02 _,h.lt l c y d⟩) (y02 _)
 omega
def Tk (g:List (List Nat)):Nat:=(g.map List.length).sum
theorem z1H (g:List (List Nat))(l:List Nat):Tk (g++[l])=Tk g+l.length:=by simp[Tk]
theorem zey {n:Nat}(h:∀l∈g,l.length<=n):Tk g<=g.length*n:=by
 induction g with
 |nil=>simp[Tk]
 | cons l g d =>
   have q:=d (λm c=>h m (y0u _ c));have r:=h l y0s;show(l.length::g.map List.length).sum<=_;rw[y0L,y03,y0r];have e:Tk g=(g.map List.length).sum:=rfl;omega
def XJ (h:Um g)(i:Nat):Tk (g.take i)<=3600:=by
 have d:Tk (g.take i)<=(g.take i).length*60:=zey (λl c=>by have:=h.len (y1d c);have:=h.n;omega)
 have e:(g.take i).length<=60:=by rw[y0c];have:=h.n;omega
 omega
theorem z8u (h:GrM w (.slice ga g.length gc) g)(hg:Um g):SG prog 125 [.slice ga g.length gc] w λu w'=>u= .bool true/\w'=w:=by
 have F:=hg.n
 obtain⟨vs,G,W⟩:=h.ex
 refine py (e:=[(0,_)]) func125 O ntmps125 O O<|qN O<|Up O<|Sq O<|SX O<|UR Xw O<|Sf O<|S5<|S7<|UW (α:=Nat) (0) (λi=>[(0,.slice ga g.length gc),(3,I (Tk (g.take i):Int)),(8,.slice ga g.length gc),(9,I (g.length:Int)),(10,I (i:Int))]) (λi w'=>w'=w/\i<=g.length) (λi=>g.length-i) ?hI ?hround
 case hI=>exact⟨O,y02 _⟩
 case hround =>
  rintro i m⟨rfl,hi⟩ f;have T:=XJ hg i
  try dsimp only
  refine qN O<|TW O<|S5<|It<|So O (λx=>?_)<|λx=>?_
  ·have Q:i<g.length:=ω
   obtain⟨l,A⟩:∃l,g[i]? =some l:=⟨_,y04 Q⟩;have D:=y0i A;have B:=hg.len D;obtain⟨a,c,S,t,v⟩:=W i l A
   obtain⟨H,go,Y,U⟩:∃b o d,Value.slice ga g.length gc= .slice (some ⟨b,o,none⟩) g.length d:=by
    rcases G.2 with⟨c,q,x⟩|⟨b,off,d,q,-⟩
    ·omega
    ·exact⟨b,off,d,q⟩
   cases U;refine S6 (TZ (qN O (qV (Tm Xw VR O O ω) (qV (SQ SR O O (TF G S)) (Up O (Sz O (UR SR O (Tr O (TR O (UR SR O (Sf O (S5 (S7 ?_)))))))))))));have K:=z1H (g.take i) l;rw[<-Tj A] at K;rw[show(Tk (g.take i):Int)+(l.length:Int)=(Tk (g.take (i+1)):Int) by omega];refine UW (α:=Nat) (0) (λj=>[(0,.slice (some ⟨H,go,none⟩) g.length gc),(3,I (Tk (g.take (i+1)):Int)),(5,.slice a l.length c),(8,.slice (some ⟨H,go,none⟩) g.length gc),(9,I (g.length:Int)),(10,I (i:Int)),(18,.slice a l.length c),(19,I (l.length:Int)),(20,I (j:Int))]) (λj w'=>w'=m/\j<=l.length) (λj=>l.length-j) ?hI ?hround
   case hI=>exact⟨O,y02 _⟩
   case hround=>
    rintro j R⟨rfl,E⟩ r
    try dsimp only
    refine qN O<|TW O<|S5<|It<|So O (λZ=>?_)<|λZ=>?_
    ·have k:j<l.length:=ω
     obtain⟨y,C⟩:∃y,l[j]? =some y:=⟨_,y04 k⟩;have p:=hg.lt l D y (y0i C)
     obtain⟨L,lo,P,V⟩:∃b o d,Value.slice a l.length c= .slice (some ⟨b,o,none⟩) l.length d:=by
      rcases v.2 with⟨c,q,x⟩|⟨b,off,d,q,-⟩
      ·omega
      ·exact⟨b,off,d,q⟩
     cases V;refine S6 (TZ (SE O (qV (Tm SR Sy O O ω) (qV (SQ U0 O O (TF v (show(l.map SV)[j]? =some (SV y) by rw[y0l,C];rfl))) ?_))));refine Vj O (TR O (qV (T7 O U0 U3 ω) (Sf O (UR Xw O (WZ O (T0 (Sf O ?_)))))));rcases y0D j with M|M
     ·refine Sf O<|Ub O<|T0<|Sf O<|Ua<|Ua<|Ua<|qS<|Td O<|Td O<|Tt O<|S2<|Sg O<|Tr O ?_;refine Sf O<|S5 ?_;exact(r (j+1) _ ⟨O,ω⟩ ω).qb
     ·obtain⟨z,J⟩:∃z,l[j-1]? =some z:=⟨_,y04 ω⟩
      have s:z<y:=by
       obtain⟨N,a2⟩:=y0p.1 J;obtain⟨b1,b2⟩:=y0p.1 C;have:=y1D.1 (hg.ok l D).ris (j-1) j N b1 ω
       rwa [a2,b2] at this
      refine Sf O<|Ub O<|Ue<|Sz O<|Sz O<|UO O ?_;rw[show(j:Int)-1=((j-1:Nat):Int) by omega];refine qV (Tm SR Sy O O ω) (qV (SQ U0 O O (TF v (show(l.map SV)[j-1]? =some (SV z) by rw[y0l,J];rfl))) ?_);refine zle O<|T0<|Uj O<|Td O<|Tt O<|S2<|Sg O<|Tr O<|Sf O<|S5 ?_;exact(r (j+1) _ ⟨O,ω⟩ ω).qb
    ·refine Sh O<|S2<|Sg O<|Tr O<|Sf O<|S5 ?_;exact(f (i+1) _ ⟨O,ω⟩ ω).qb
  ·refine Sh O<|SE O<|UR Xw O<|zle O<|Ue<|Sz O<|zle O<|Ue<|Uj O<|Sq O<|S3 func125 O ?_;exact⟨_,O,O,O⟩
/-! ### How many bits -/
def z1i.z6J {q:Cd×Nat}(h:z1i k q)(n:1<=k/\k<=16):(q.1.enc q.2).length<=112:=by
 obtain⟨d,l⟩:=h.U8 n
 obtain⟨-,c,-⟩:=z0L d l
 rw[z0G]
 rcases h with⟨e,h⟩|⟨e,h⟩|⟨e,h⟩
 ·rw[e] at c⊢;show q.2+1+_<=_;omega
 ·have:=(ZH (v:=q.2) ω).2.2;rw[e] at c⊢;show Nat.log2 (q.2+1)+1+_<=_;omega
 ·have r:=(ZH (v:=q.2) ω).2.2;have u:Nat.log2 (q.2+1) / k<=Nat.log2 (q.2+1):=y0S _ _;rw[e] at c⊢;show Nat.log2 (q.2+1) / k+1+_<=_;omega
def z5O {n:Nat}{L:List (Cd×Nat)}(h:∀q∈L,(q.1.enc q.2).length<=n):(SD L).length<=L.length*n:=by
 induction L with
 |nil=>simp[SD]
 | cons q L d =>
   have e:=d (λq c=>h q (y0u _ c));have l:=h q y0s;rw[TA,y01,y03,y0r];omega
theorem z6v (least:Nat){l:List Nat}(h:T4 l):(Tq least l).1.length<=l.length:=by
 have c:=(Xp least l).length_eq
 rw[y01] at c
 have d:∀(R:List (Nat×Nat)) (lo:Nat),WA least lo R->R.length<=(Ut R).length:=by
  intro R
  induction R with
  |nil=>intro lo h;exact y07 _
  | cons q R n =>
    intro lo h;have e:=n _ h.2.2.2;have r:1<=q.2:=h.2.1;rw[show Ut (q::R)=(List.range q.2).map (q.1+·)++Ut R from rfl,y01,y0h,y16,y03];omega
 have e:=d _ 0 (YR least l 0 h.ris (λy _=>y02 _))
 omega
theorem z3d {p:Vz}(c:p.U8){x:Nat}(u:x<65536)(d:T4 succ)(hr:T4 ref){r:Nat}(v:r<=p.SH)(C:succ.length<=60)(A:ref.length<=60):(SD (V7 p x succ ref r)).length<=44800:=by
 have e:T4 (SL succ ref):=d.sub y1U
 have J:(SL succ ref).length<=succ.length:=y3q _ _
 have h:=(WT succ ref).z4T
 rw[y0h] at h
 have K:=z6v p.interval e
 have M:=(Yl p.interval (SL succ ref)).length_le
 have D:(V7 p x succ ref r).length<=400:=by
  unfold V7;rw[y03];split
  ·simp
  rw[y01,y01];have G:(if 0<p.SH then [(Cd.unary,r)] else []).length<=1:=by split<;>simp
  have H:(if 0<r then(Cd.gamma,(UJ succ ref).length-1)::TP 0 (UJ succ ref).dropLast else []).length<=62:=by
   split
   ·rw[y03,WK,y2n];omega
   ·simp
  have I:(if SL succ ref=[] then [] else(if 0<p.interval then(Cd.gamma,(Tq p.interval (SL succ ref)).1.length)::Tf x p.interval none (Tq p.interval (SL succ ref)).1 else [])++Ti x p.zeta none (Tq p.interval (SL succ ref)).2).length<=200:=by
   split
   ·simp
   ·rw[y01,X9];split
    ·rw[y03,Wc];omega
    ·simp;omega
  omega
 have:=z5O (n:=112) (L:=V7 p x succ ref r) (λq l=>(z3L c u d hr v q l).z6J ⟨c.2.2.1,c.2.2.2⟩)
 omega
/-! ### All bits -/
def z1u (p:TX)(g:List (List Nat))(E:List (Nat×Nat))(i:Nat):List Bool:=
 SD (V7 p.list i ((g[i]?).getD []) (Ug g i ((E[i]?).getD (0,0)).1) ((E[i]?).getD (0,0)).1)
def Uc (p:TX)(g:List (List Nat))(E:List (Nat×Nat))(n:Nat):List Bool:=(List.range n).flatMap (z1u p g E)
theorem WO (p:TX)(g:List (List Nat))(E:List (Nat×Nat))(n:Nat):Uc p g E (n+1)=Uc p g E n++z1u p g E n:=by
 unfold Uc
 rw[y0T,y1Y];simp
theorem z4o (p:TX)(g:List (List Nat))(E:List (Nat×Nat))(e:Nat×Nat):∀n,n<=E.length->Uc p g (E++[e]) n=Uc p g E n
 |0,_=>rfl
 | n + 1, h => by
   rw[WO,WO,z4o p g E e n ω]
   congr 1
   unfold z1u;rw[y0I ω]
structure zj2 (p:TX)(g:List (List Nat))(E:List (Nat×Nat)):Prop where
 ent:∀i e,E[i]? =some e->z3l p g E i ((g[i]?).getD []).length e
def z3l.mono {d:List (List Nat)}{c:List (Nat×Nat)}{n size:Nat}{e:Nat×Nat}(h:z3l p L E n size e)(H:∀(j:Nat)(l:List Nat),L[j]? =some l->d[j]? =some l)(G:∀(j:Nat)(l:Nat×Nat),E[j]? =some l->c[j]? =some l):z3l p d c n size e:=by
 rcases h with h|⟨r,u,v,l,q,x,A,C,D⟩
 ·exact .inl h
 ·exact .inr ⟨r,u,v,l,q,H _ _ x,G _ _ A,C,D⟩
def Sl.typed {v:Value}{n g:Nat}(h:Sl w v T k n cs)(hg:v.ownBlock=some g):∃c,w.heap[g]? =some (.cells c T (0,0)):=by
 rcases h.2 with⟨u,-⟩|⟨q,d,c,r,-,l,-⟩
 ·rw[u] at hg;cases hg
 ·rw[r] at hg;have e:q=g:=UC hg;exact⟨c,e▸l⟩
theorem PkM.kpT (h:PkM w k p L E bs F R wp ed){v:Value}{G n:Nat}(C:T≠42)(D:Sl w v T G n cs)(c:Kp (λi=>v.ownBlock=some i) w w')(n1:v.ownBlock≠some k)(n2:∀i,F i->v.ownBlock≠some i):PkM w' k p L E bs F R wp ed:=
 ⟨c.S4 h.S4 n1,h.len,h.wr.kp c n2,h.nk,h.el,h.ok,λj l e u x A=>by
  obtain⟨a,cp,q,r,d,g4⟩:=h.ring j l e u x A;refine⟨a,cp,q,r,d.kp c (λg hg e=>?_),g4⟩;obtain⟨c1,f1⟩:=d.typed hg;obtain⟨c2,f2⟩:=D.typed e;rw[f1] at f2
  injection f2 with f3
  injection f3 with f4 f5
  exact C f5.symm⟩
def atL (p:TX)(g:List (List Nat))(E:List (Nat×Nat))(n:Nat):List Nat:=(List.range (n+1)).map λj=>(Uc p g E j).length
theorem zh2 (p:TX)(g:List (List Nat))(E:List (Nat×Nat))(e:Nat×Nat)(n:Nat)(h:n<=E.length):atL p g (E++[e]) n=atL p g E n:=by
 unfold atL
 refine y0O λj c=>?_
 rw[z4o p g E e j (by have:=y0R.1 c;omega)]
theorem zeI (p:TX)(g:List (List Nat))(E:List (Nat×Nat))(n:Nat):atL p g E (n+1)=atL p g E n++[(Uc p g E (n+1)).length]:=by
 unfold atL
 rw[y0T,y0f];rfl
def z7m (p:TX)(g:List (List Nat))(E:List (Nat×Nat))(n:Nat):(atL p g E n).length=n+1:=by simp[atL]
theorem getD_take {α:Type}{l:List α}(h:j<i):(l.take i)[j]? =l[j]? :=by rw[y1K,if_pos h]
def z0V (L:List (List Nat))(n r:Nat):Ug L n r=[]\/Ug L n r∈L:=by
 unfold Ug
 split
 ·exact .inl O
 ·cases h:L[n-r]? with
  |none=>exact .inl O
  |some l=>exact .inr (y0i h)
theorem za6 {n r:Nat}(h:r<=n):Ug (L.take n) n r=Ug L n r:=by
 unfold Ug
 by_cases e:r=0
 ·rw[if_pos e,if_pos e]
 ·rw[if_neg e,if_neg e,getD_take ω]
structure EnI (w:World)(p:TX)(g:List (List Nat))(k wp:Nat)(i:Nat)(E:List (Nat×Nat))(v:Value)(w':World):Prop where
 pk:∃F R,PkM w' k p (g.take i) E (Uc p g E i) F R wp (Tk (g.take i))/\(∀j,F j->w.heap.size<=j)/\∀j,F j->v.ownBlock≠some j
 ext:Ext w w'
 nk:w.heap.size<=k
 sl:Sl w' v 39 1 (atL p g E i).length ((atL p g E i).map Su)
 fr:∀b,v.ownBlock=some b->w.heap.size<=b
 vk:v.ownBlock≠some k
 ent:∀j e,E[j]? =some e->z3l p g E j ((g[j]?).getD []).length e
 bd:(Uc p g E i).length<=i*44800
theorem zda (V:p.U8)(hg:Um g)(ru:GrM w (.slice ga g.length gc) g)(hG:Sk w 1 (W5 .gamma) 314)(hU:Sk w 2 (W5 .unary) 314):
  SG prog 91 [.slice ga g.length gc,bpV p] w λu w'=>∃E v,u= .tuple #[S (SM (Uc p g E g.length)),v,I 0]/\E.length=g.length/\zj2 p g E/\(Uc p g E g.length).length<=2688000/\Sl w' v 39 1 (g.length+1) ((atL p g E g.length).map Su)/\(∀b,v.ownBlock=some b->w.heap.size<=b)/\Ext w w':=by
 have hn:=hg.n
 refine py (e:=[(0,_),(1,_)]) func91 O ntmps91 O O<|qN O<|Sd O O (UD O (cs:=Z9 p) O) ?_
 rintro _ w1⟨b3,rfl,dS,aa,au⟩
 have z1:=aa.size
 refine Vj O<|Vj O<|Up O<|qV (SO (news:=Z9 p) U93 O Vf O (au.cells (n:=5) O) O)<|Sr zn8 O (zdu p V w1) ?_
 rintro _ w2⟨k,wp,F,rfl,sI,hW,NI,ae,aR,qY⟩
 have z2:=ae.size
 have aL:=aa.trans ae
 refine Sf O<|qV (UY (v:=ptr k 0) O O)<|qV (UY (v:=I 0) O O)<|To O<|SX O<|TK O<|Sz O<|Sr zno O (z8u (ru.ext aL) hg) ?_
 rintro _ w2⟨rfl,rfl⟩
 refine qV (Vn O)<|Td O<|Tt O<|qN O<|Sd O O (pbs (cs:=[_]) (zs:=[Value.int .u64 0]) U34 YI O y00 O O O ψ) ?_
 rintro _ w3⟨C,rfl,⟨NJ,N,kg⟩,GO⟩
 have z3:=N.size
 have lk:=sI.lt
 have Ef:PkM w3 k p (g.take 0) [] (Uc p g [] 0) F zc8 wp (Tk (g.take 0)):=⟨N.S4 sI,y0b,hW.ext N,NI,O,(λl G=>by simp at G),λj l e h1=>by simp at h1⟩
 refine Sq O<|SX O<|UR Xw O<|Sf O<|S5<|SI.qb (e:=[(4,_),(5,_),(6,_),(7,_),(8,_),(9,_),(29,_),(30,_),(31,_)]) ?_
 refine S7<|UW (α:=Nat×List (Nat×Nat)×Value) (0,[],.slice (some ⟨C,0,none⟩) 1 1) (λy=>[(7,ptr k 0),(9,y.2.2),(29,.slice ga g.length gc),(30,I (g.length:Int)),(31,I (y.1:Int))]) (λy w'=>EnI w p g k wp y.1 y.2.1 y.2.2 w'/\y.1<=g.length) (λy=>g.length-y.1) ?hI ?hround
 case hI=>exact⟨⟨⟨F,zc8,Ef,λj d=>by have:=qY j d;omega,λj d e=>by have q:C=j:=UC e;have:=hW.lt d;omega⟩,aL.trans N,ω,GO,λb A=>by have q:C=b:=UC A;omega,λe=>by have q:C=k:=UC e;omega,λj e h=>by simp at h,y02 _⟩,y02 _⟩
 case hround =>
  rintro⟨i,E,v⟩ w4 ⟨hI,hi⟩ ih;dsimp only at hI hi;obtain⟨F,R,U,L,Le⟩:=hI.pk;have Aw:=hI.bd;have aN:=z7m p g E i;have m:=U.el;rw[y0c,y0A hi] at m;obtain⟨va,vc,rfl,-⟩:=hI.sl.rd.shape
  try dsimp only
  refine qN O<|TW O<|S5<|It<|So O (λQ=>?_)<|λQ=>?_
  ·have dF:i<g.length:=ω
   obtain⟨l,G⟩:∃l,g[i]? =some l:=⟨_,y04 dF⟩;have iD:=y0i G;have gD:=hg.len iD;have P:=hg.ok l iD;obtain⟨vs,GP,gY⟩:=ru.ex;obtain⟨a,c,q,e2,J⟩:=gY i l G;have fJ:=GP.ext hI.ext;have e3:=J.ext hI.ext
   obtain⟨gb,go,a1,e4⟩:∃b o B,Value.slice ga g.length gc= .slice (some ⟨b,o,none⟩) g.length B:=by
    rcases fJ.2 with⟨c,M,Q⟩|⟨b,off,B,M,-⟩
    ·omega
    ·exact⟨b,off,B,M⟩
   cases e4;have f:(g.take i).length=i:=by rw[y0c];omega
   have wH:=XJ hg i;refine S6<|TZ<|qN O<|qV (Tm Xw VR O O ω)<|qV (SQ SR O O (TF fJ q)) ?_
   have pE:∀r,r<=p.SH->(Uc p g E i).length+(SD (V7 p.list (g.take i).length l (Ug (g.take i) (g.take i).length r) r)).length<=134217728:=λr hr=>by
    have K:T4 (Ug (g.take i) (g.take i).length r)/\(Ug (g.take i) (g.take i).length r).length<=60:=by
     rcases z0V (g.take i) (g.take i).length r with e| e
     ·rw[e];exact⟨⟨y1p,λy h=>(by cases h)⟩,y02 _⟩
     ·exact⟨hg.ok _ (y1d e),by have:=hg.len (y1d e);omega⟩
    have H:=z3d V.1 (x:=(g.take i).length) ω P K.1 (show r<=p.list.SH from hr) ω K.2;omega
   have tY:=hI.sl;have Af:∀b,(Value.slice va (atL p g E i).length vc).ownBlock=some b->b<w4.heap.size:=λb A=>tY.lt A;refine Sq O (It (TV O (Sr zlO O (zd2 V U (hI.ext.S4 hG) (hI.ext.S4 hU) ω P e2 e3 ω (λb Q A=>by have h1:=J.ltz ψ Q A;have:=hI.nk;exact⟨λe=>by have:=L b e;omega,ω⟩) pE) ?_)));rintro _ s⟨r,least,D,t,R',rfl,Y,W,z,yS⟩;have a2:=U.S4.lt;have z5:=z.size;have aU:Ext w s:=hI.ext.An z (λj d=>by rcases d with e|e;exact L j e;(have:=hI.nk;omega));have NK:(E++[(r,D)]).length=i+1:=by rw[y01,m];rfl
   have nI:r<=i:=by
    rcases Y with e|⟨-,-,H,-⟩
    ·have:r=0:=(Prod.mk.inj e).1;omega
    ·rw[f] at H;exact H
   have wI:(E++[(r,D)])[i]? =some (r,D):=by rw[y10 ω,m,y1w];rfl
   have sJ:z1u p g (E++[(r,D)]) i=SD (V7 p.list (g.take i).length l (Ug (g.take i) (g.take i).length r) r):=by
    unfold z1u;rw[wI,G,f,za6 nI];rfl
   have fC:Uc p g (E++[(r,D)]) (i+1)=Uc p g E i++SD (V7 p.list (g.take i).length l (Ug (g.take i) (g.take i).length r) r):=by
    rw[WO,z4o p g E _ i ω,sJ]
   have GQ:(Uc p g (E++[(r,D)]) (i+1)).length<=(i+1)*44800:=by
    have K:T4 (Ug (g.take i) (g.take i).length r)/\(Ug (g.take i) (g.take i).length r).length<=60:=by
     rcases z0V (g.take i) (g.take i).length r with e| e
     ·rw[e];exact⟨⟨y1p,λy h=>(by cases h)⟩,y02 _⟩
     ·exact⟨hg.ok _ (y1d e),by have:=hg.len (y1d e);omega⟩
    have jW:r<=p.list.SH:=by
     rcases Y with e|⟨-,H,-⟩
     ·have:r=0:=(Prod.mk.inj e).1;omega
     ·exact H
    have H:=z3d V.1 (x:=(g.take i).length) ω P K.1 jW ω K.2;rw[fC,y01];omega
   rw[<-fC,<-Tj G,<-z1H,<-Tj G] at W;have gC:(Uc p g (E++[(r,D)]) (i+1)).length<=9223372036854775:=ω
   refine Sf O<|Vk O<|qV (UY (v:=I 0) O O)<|Vj O<|Vj O<|TR O<|TK O<|Tt O<|Sg O<|Sz O<|Sr zmN O (zaR W gC) ?_;rintro _ w6⟨rfl,aM⟩;refine qV (TM O U3 Va ω) (Sd O O (pbs (cs:=[_]) (zs:=[Value.int .u64 0]) U34 YI O y00 O O O ψ) ?_);rintro _ w7⟨a0,rfl,⟨NL,bV,bU⟩,GR⟩;have Z:=aM.trans bV;have a3:=Z.size;have pD:∀j,t j->j<s.heap.size:=λj d=>W.wr.lt d;have KU:=tY.kp z (λb A e=>by rcases e with e|e;exact Le b e A;exact hI.vk (e▸A));have Eg:=KU.ext Z
   have AH:∀j,t j->(Value.slice va (atL p g E i).length vc).ownBlock≠some j:=λj d e=>by
    rcases yS j d with q|q
    ·exact Le j q e
    ·have:=Af j e;omega
   refine Sd O O (pap U34 YI O ψ O O Eg GR.rd (by intro c M;simp at M;subst M;rfl) ω (by simp only[maxLen];omega)) ?_;rintro v8 w8⟨eI,aH,mA,-⟩;have rv:=(W.ext Z).kpT (T:=39) ψ Eg aH hI.vk AH;have X:∀b,v8.ownBlock=some b->(Value.slice va (atL p g E i).length vc).ownBlock=some b\/s.heap.size<=b:=λb A=>(mA b A).imp id (λe=>ω);refine Sq O<|S2<|Sg O<|Tr O<|Sf O<|S5 ((ih (i+1,E++[(r,D)],v8) _ ⟨⟨⟨t,R',rv,λj d=>?_,λj d e=>?_⟩,(aU.trans Z).An aH (λj d=>hI.fr j d),hI.nk,?_,λb A=>?_,λe=>?_,λj e d=>?_,GQ⟩,dF⟩ (by dsimp only;omega)).qb)
   ·rcases yS j d with e| e
    ·exact L j e
    ·have:=hI.ext.size;omega
   ·rcases X j e with q|q
    ·exact AH j d q
    ·have:=pD j d;omega
   ·rw[zeI,zh2 p g E _ i ω,y01,y0f];exact eI
   ·rcases X b A with q|q
    ·exact hI.fr b q
    ·have:=aU.size;omega
   ·rcases X k e with q|q
    ·exact hI.vk q
    ·omega
   ·rcases y0a j i with uv|uv
    ·rw[y0I ω] at d;exact(hI.ent j e d).mono (λ_ _ h=>h) (λj' l' h=>by rw[y0I (y0p.1 h).1];exact h)
    ·have Gu:=(y0p.1 d).1;rw[NK] at Gu;have ej:j=i:=ω
     subst ej;rw[wI] at d;cases d;rw[G];rw[f] at Y
     exact Y.mono (λj' l' h=>by
      have:=(y0p.1 h).1;rw[f] at this
      rwa [getD_take this] at h) (λj' l' h=>by rw[y0I (y0p.1 h).1];exact h)
  ·have de:i=g.length:=ω
   subst de;refine Sh O<|SE O<|Sr znn O (zbB U) ?_;rintro _ s⟨rfl,rfl⟩;refine Sf O<|Vk O<|Vj O<|Up O<|Sz O<|Sf O<|Vj O<|To O<|S3 func91 O ?_;have ic:=hI.sl;rw[aN] at ic;exact⟨_,O,E,_,O,m,⟨hI.ent⟩,ω,by rw[aN];exact ic,hI.fr,hI.ext⟩
structure Fm where
 n:Nat
 u:Nat
 width:Nat
 bits:Nat
def fmC (f:Fm):List Value:=[I (f.n:Int),Su f.u,I (f.width:Int),I (f.bits:Int)]
abbrev fmV (f:Fm):Value:= .agg (fmC f).toArray
def wdF (n u:Nat):Nat:=if u / n=0 then 0 else Tp (u / n)-1
def XD (n u:Nat):Fm:=⟨n,u,wdF n u,(u-1) / 2^wdF n u+n⟩
def Fm.high (f:Fm):Nat:=12+(f.n*f.width+7) / 8
def Fm.YF (f:Fm):Nat:=f.high+(f.bits+7) / 8
def Fm.size (f:Fm):Nat:=f.YF+4*((f.n+63) / 64)
def z2X {n u:Nat}(e:u<=1000000000):wdF n u<=30:=by
 unfold wdF
 split
 ·omega
 ·have c:u / n<=u:=y0S _ _;have d:Tp (u / n)<=30:=UH ω;omega
theorem z4g {n u:Nat}(x:1<=n)(A:1<=u):(u-1) / 2^wdF n u<2*n:=by
 have l:0<2^wdF n u:=y0z _
 rw[y2b l]
 unfold wdF
 split
 ·rename_i h
  have:u<n:=by
   rcases y0a u n with d|d
   ·exact d
   ·have:=Nat.div_pos d ω;omega
  simp;omega
 ·rename_i h
  have c:u / n<2^Tp (u / n):=z0J;have v:Tp (u / n)≠0:=λe=>by rw[e,Nat.pow_zero] at c;exact h (Nat.lt_one_iff.1 c)
  obtain⟨k,r⟩:∃k,Tp (u / n)=k+1:=⟨Tp (u / n)-1,ω⟩;rw[r] at c⊢;rw[y1h]
  have q:u<n*2^(k+1):=by
   have:=(y2b (show 0<n by omega)).1 c
   rwa [y0H] at this
  rw[y1R] at q;have e:n*(2^k*2)=2*n*2^k:=by rw[y0H (2^k) 2,<-y23,y0H n 2]
  omega
def zd0 {n u:Nat}(c:1<=n)(d:1<=u):(XD n u).bits<=3*n:=by
 have:=z4g c d
 show(u-1) / 2^wdF n u+n<=_
 omega
theorem z1y (n u:Nat)(f:1<=n)(B:n<=1000)(j:1<=u)(o:u<=1000000000)(w:World):SG prog 134 [I (n:Int),Su u] w λv w'=>v=fmV (XD n u)/\Ext w w':=by
 have P:=z2X (n:=n) o
 have a:=z4g f j
 have g:u / n<=u:=y0S _ _
 obtain⟨q,x⟩:∃q,u / n=q:=⟨_,O⟩
 have D:wdF n u=if q=0 then 0 else Tp q-1:=by rw[wdF,x]
 rw[x] at g
 have t:Tp q<=30:=UH ω
 refine py (e:=[(0,_),(1,_)]) func134 O ntmps134 O O<|qN O<|Sd O O (UK (cs:=[_,_,_,_]) Xa O) ?_
 rintro _ w1⟨b4,rfl,y,J,H⟩
 refine qM O<|Sz O<|qV (VI (cs:=[_,_,_,_]) Xa O znH O O)<|Sd O O (UK (cs:=[_,_,_,_]) Xa O) ?_
 rintro _ w2⟨b5,rfl,z,h,G⟩
 have R:=J.size
 have T:=h.size
 have E:=H.lt
 have F:=G.lt
 refine Sm O (Ta (news:=[I (n:Int),Su u,I 0,I 0]) Xa O O O O G ξ) ?_
 rintro C⟨d,l⟩
 replace d:Sk C b5 [I (n:Int),Su u,I 0,I 0] 236:=d
 have S:Ext w C:=(J.trans h).An l (λi e=>ω)
 have Q:=l.S4 (h.S4 H) ω
 have X:=l.size
 refine S5<|SX O<|U7 O<|T0<|Tt O<|It<|TV O<|qV (TM O U3 Va ω)<|qV (zmd (m:=u) (n:=n) O O O (by show u<2^64;omega) ω) ?_
 rw[x]
 refine TR O<|Ub O<|S5<|Tc (λN w'=>N=[(0,I (n:Int)),(1,Su u),(4,ptr b4 0),(5,ptr b5 0)]/\Ext w w'/\Sk w' b5 [I (n:Int),Su u,I (wdF n u:Int),I 0] 236/\Sk w' b4 [I 0,Su 0,I 0,I 0] 236) ?bL<|λbL=>?dE
 case bL=>
  rintro N U⟨rfl,W,c,Z⟩;refine SE O (qV (z0q (m:=u) (n:=1) O O O (by show u<2^64;omega) ω) ?_);refine Sn Xc O<|qV (Sc U3 O O c O)<|qV (XE (wdF n u) (2^wdF n u) O O (by show wdF n u<=64;omega) O) ?_
  generalize V:(u-1) / 2^wdF n u=qb at a
  refine qV (T7 O Va U3 ω) (Sf O (Tr O (Sn z1Q O (Sm O (TO T8 O O O c ξ) ?_))));rintro p⟨A,K⟩;replace A:Sk p b5 [I (n:Int),Su u,I (wdF n u:Int),I ((qb+n:Nat):Int)] 236:=A;refine qM O (qV (SO z2r O Xa O (Sk.cells (n:=4) A (news:=[_,_,_,_]) O) O) (Sm O (Ta (news:=[I (n:Int),Su u,I (wdF n u:Int),I ((qb+n:Nat):Int)]) Xa O O O O (K.S4 Z ω) ξ) ?_));rintro s⟨r,Y⟩;replace r:Sk s b4 [I (n:Int),Su u,I (wdF n u:Int),I ((qb+n:Nat):Int)] 236:=r;refine S5 (SF func134 (.cell z2r O Xa O (Sk.cells (n:=4) r (news:=[_,_,_,_]) O) O .nil) (⟨_,O,?_,(W.An K (λi e=>ω)).An Y (λi e=>ω)⟩));unfold fmV fmC XD;rw[V]
  rfl
 case dE=>
  refine So O (λb=>?_)<|λb=>?_
  ·refine Uw O (Sr z5U O (Y6 q ω _) ?_);rintro _ C⟨rfl,rfl⟩;have L:Tp q≠0:=λe=>by have:=z0J (v:=q);rw[e] at this;omega
   refine UO O ?_;rw[show(Tp q:Int)-1=(wdF n u:Int) by rw[D,if_neg ω];omega];refine Sn Xc O (Sm O (TO T8 O O O d ξ) ?_);rintro U⟨c,M⟩;replace c:Sk U b5 [I (n:Int),Su u,I (wdF n u:Int),I 0] 236:=c;refine S5 ?_;exact(bL _ _ ⟨O,S.An M (λi e=>ω),c,M.S4 Q ω⟩).qb
  ·have k:wdF n u=0:=by rw[D,if_pos ω]
   refine S6 ?_;exact(bL _ _ ⟨O,S,by rw[k];exact d,Q⟩).qb
def Fm.small (f:Fm):Prop:=f.n<=100000/\f.width<=64/\f.bits<=1000000
theorem z8Q (f:Fm)(r:f.small)(w:World):SG prog 227 [fmV f] w λv w'=>v=I (f.high:Int)/\Ext w w':=by
 obtain⟨l,q,A⟩:=r
 have C:f.n*f.width<=100000*64:=y1k l q
 refine py (e:=[(0,_)]) func227 O ntmps227 O O<|qN O<|Sd O O (UD O (cs:=fmC f) O) ?_
 rintro _ w1⟨b1,rfl,x,h,c⟩
 replace c:Sk w1 b1 [I (f.n:Int),Su f.u,I (f.width:Int),I (f.bits:Int)] 236:=c
 refine Up O<|Sn z1T O<|qV (Sc U3 O O c O)<|Sn Xc O<|qV (Sc U3 O O c O) ?_
 have d:((f.n*f.width:Nat):Int)=(f.n:Int)*(f.width:Int):=y1A _ _
 refine qV (Zf O O (by rw[<-d];omega)) ?_
 rw[<-d]
 refine Tr O<|qV (yqu O O ω)<|Tr O<|Sq O<|S3 func227 O (⟨_,O,?_,h⟩)
 show I (12+(((f.n*f.width:Nat):Int)+7) / 8)=I ((12+(f.n*f.width+7) / 8:Nat):Int)
 congr 1
def Fm.z0K {f:Fm}(e:f.small):f.high<=10000000:=by
 obtain⟨c,d,h⟩:=e
 have l:f.n*f.width<=100000*64:=y1k c d
 unfold Fm.high
 omega
theorem z8B (f:Fm)(l:f.small)(w:World):SG prog 205 [fmV f] w λv w'=>v=I (f.YF:Int)/\Ext w w':=by
 have D:=Fm.z0K l
 obtain⟨x,A,C⟩:=id l
 refine py (e:=[(0,_)]) func205 O ntmps205 O O<|qN O<|Sd O O (UD O (cs:=fmC f) O) ?_
 rintro _ w1⟨b1,rfl,r,q,d⟩
 replace d:Sk w1 b1 [I (f.n:Int),Su f.u,I (f.width:Int),I (f.bits:Int)] 236:=d
 have hg:=Ext.Sv w1
 refine Sq O<|It<|Ux (λw'=>Ext w1 w') O<|qT 0 O (λ_ h=>SO z2r O Xa O (Sk.cells (n:=4) (h.S4 d) (news:=[_,_,_,_]) O) O) hg<|S8 2 O (SN z1Q O) hg<|qT 3 O (λ_ h=>Sc U3 O O (h.S4 d) O) hg<|S8 4 O (YB O O ω) hg<|S8 5 O (yqu O O ω) hg<|VF 1 O zj5 O (z8Q f l _) ?_
 rintro _ w2⟨rfl,c⟩
 refine⟨hg.trans c,?_⟩
 refine S8 6 O (YB O O ω) (hg.trans c)<|S8 7 O (UU O) (hg.trans c)<|qE<|S3 func205 O (⟨_,O,?_,(q.trans hg).trans c⟩)
 show I ((f.high:Int)+((f.bits:Int)+7) / 8)=I ((f.high+(f.bits+7) / 8:Nat):Int)
 congr 1
theorem z6d (f:Fm)(l:f.small)(w:World):SG prog 176 [fmV f] w λv w'=>v=I (f.size:Int)/\Ext w w':=by
 have G:=Fm.z0K l
 obtain⟨x,A,C⟩:=id l
 have D:f.YF<=20000000:=by unfold Fm.YF;omega
 refine py (e:=[(0,_)]) func176 O ntmps176 O O<|qN O<|Sd O O (UD O (cs:=fmC f) O) ?_
 rintro _ w1⟨b1,rfl,r,q,d⟩
 replace d:Sk w1 b1 [I (f.n:Int),Su f.u,I (f.width:Int),I (f.bits:Int)] 236:=d
 have hg:=Ext.Sv w1
 refine Sq O<|It<|Ux (λw'=>Ext w1 w') O<|qT 0 O (λ_ h=>SO z2r O Xa O (Sk.cells (n:=4) (h.S4 d) (news:=[_,_,_,_]) O) O) hg<|S8 2 O (SN z1T O) hg<|qT 3 O (λ_ h=>Sc U3 O O (h.S4 d) O) hg<|S8 4 O (YB O O ω) hg<|S8 5 O (ysb O O ω) hg ?_
 rw[show(f.n:Int)+64-1=((f.n+63:Nat):Int) by omega]
 refine S8 6 O (yqu O O ω) hg<|S8 7 O (Zf O O ω) hg<|VF 1 O ziy O (z8B f l _) ?_
 rintro _ w2⟨rfl,c⟩
 refine⟨hg.trans c,?_⟩
 refine S8 8 O (YB O O ω) (hg.trans c)<|S8 9 O (UU O) (hg.trans c)<|qE<|S3 func176 O (⟨_,O,?_,(q.trans hg).trans c⟩)
 show I ((f.YF:Int)+4*(((f.n+63:Nat):Int) / 64))=I ((f.YF+4*((f.n+63) / 64):Nat):Int)
 congr 1
def z6V {n u:Nat}(c:1<=n)(q:n<=1000)(d:1<=u)(e:u<=1000000000):(XD n u).small:=by
 have h:=zd0 c d
 have l:=z2X (n:=n) e
 refine⟨?_,?_,ω⟩
 ·show n<=_;omega
 ·show wdF n u<=_;omega
theorem za8 (n last:Nat)(c:1<=n)(d:n<=1000)(h:last+1<=1000000000)(w:World):SG prog 174 [I (n:Int),Su last] w λv w'=>v= .tuple #[I ((XD n (last+1)).size:Int),I 0]/\Ext w w':=by
 refine py (e:=[(0,_),(1,_)]) func174 O ntmps174 O O<|qN O<|To O<|TZ<|SE O<|TW O<|Sz O<|Ub O<|T0<|Td O<|Sz O<|Ub O<|T0<|Td O ?_
 refine Sz O<|U7 O<|T0<|Sf O<|Ua<|Td O<|Td O<|Sq O<|S9 O<|SE O<|U7 O<|T0<|Sq O<|SI.qb (e:=[(0,_),(1,_),(4,_),(5,_),(25,_)]) ?_
 refine VP O<|S2<|TV O<|qV (YW O O) ?_
 rw[y0e (show last+1<18446744073709551616 by omega)]
 refine Sr zfX O (z1y n (last+1) c d ω h _) ?_
 rintro _ w1⟨rfl,l⟩
 refine Sr ziB O (z6d _ (z6V c d ω h) _) ?_
 rintro _ w2⟨rfl,q⟩
 refine To O<|S3 func174 O ?_
 exact⟨_,O,O,l.trans q⟩
theorem zd6 {a:Option Addr}{c:Nat}{l:List Nat}(V:l.length<=1000)(K:Nof l)(J:∀v∈l,v<=1000000000)(x:Rd w (.slice a l.length c) 1 l.length (l.map Su)):SG prog 133 [.slice a l.length c] w λv w'=>v= .bool true/\w'=w:=by
 refine py (e:=[(0,_)]) func133 O ntmps133 O O<|TU O<|SX O<|UR U34 O<|Ub O<|T0<|Tt O<|TU O<|SX O<|UR U34 O<|Sf O<|S5<|S7<|UW (α:=Nat×Nat) (0,0) (λy=>[(3,Su y.2),(9,.slice a l.length c),(10,I (l.length:Int)),(11,I (y.1:Int))]) (λy w'=>w'=w/\y.1<=l.length/\y.2<=1000000000/\∀v,l[y.1]? =some v->y.2<=v) (λy=>l.length-y.1) ?hI ?hround
 case hI=>exact⟨O,y02 _,y02 _,λv _=>y02 _⟩
 case hround=>
  rintro⟨i,z⟩ W ⟨rfl,hi,N,n⟩ Q;dsimp only at hi N n
  try dsimp only
  refine qN O<|TW O<|S5<|It<|So O (λr=>?_)<|λr=>?_
  ·have q:i<l.length:=ω
   obtain⟨v,d⟩:∃v,l[i]? =some v:=⟨_,y04 q⟩;have S:=n v d;have C:=J v (y0i d)
   obtain⟨U,go,H,G⟩:∃b o h,Value.slice a l.length c= .slice (some ⟨b,o,none⟩) l.length h:=by
    rcases x.2 with⟨c,A,r⟩|⟨b,off,h,A,-⟩
    ·omega
    ·exact⟨b,off,h,A⟩
   cases G;refine S6 (TZ (qN O (qV (Tm U34 YI O O ω) (qV (SQ Va O O (TF x (show(l.map Su)[i]? =some (Su v) by rw[y0l,d];rfl))) ?_))));refine Sq O<|It<|TV O<|TW O<|T0<|Sz O<|Ub O<|T0<|Td O<|Tt O<|Uw O<|Sq O<|S2<|Sg O ?_;refine Tr O (Sf O (S5 ((Q (i+1,v) _ ⟨O,q,C,λu M=>?_⟩ (by dsimp only;omega)).qb)));obtain⟨D,a2⟩:=y0p.1 d;obtain⟨b1,b2⟩:=y0p.1 M;have:=y1D.1 K i (i+1) D b1 ω
   rwa [a2,b2] at this
  ·refine Sh O<|TU O<|S3 func133 O ?_;exact⟨_,O,O,O⟩
def W9 (k:Nat)(l:List Nat):List Bool:=l.flatMap λv=>SJ k (v%2^k)
def VL (k:Nat):List Nat->List Bool
 |[]=>[]
 |v::_=>SJ 32 (v / 2^k)
theorem zcR (k:Nat)(l:List Nat)(v:Nat):W9 k (l++[v])=W9 k l++SJ k (v%2^k):=by simp[W9]
theorem Yr (k:Nat):∀l:List Nat,(W9 k l).length=l.length*k
 |[]=>by simp[W9]
 | v :: l => by
   show(SJ k (v%2^k)++W9 k l).length=_;rw[y01,Yr k l,bitsN_length,y03,y0r];omega
theorem z96 (k:Nat):∀(l:List Nat)(len i v:Nat),Nof (l++[v])->(∀x,(l++[v]).head? =some x->len<=x / 2^k+i)->
  len+(hiB k len i l).length<=v / 2^k+(i+l.length)/\hiB k len i (l++[v])=hiB k len i l++(List.replicate (v / 2^k+(i+l.length)-(len+(hiB k len i l).length)) false++[true])
 | [], len, i, v, _, hl => by
   have:=hl v O;refine⟨by simp[hiB];omega,?_⟩
   simp[hiB]
 | x :: r, len, i, v, hn, hl => by
   have q:=hl x O;rw[y0t] at hn;obtain⟨n1,n2⟩:=y1o.1 hn
   obtain⟨n,d⟩:=z96 k r (x / 2^k+i+1) (i+1) v n2 (λy e=>by
    have h:y∈r++[v]:=List.mem_of_mem_head? e;have:=y1Q (c:=2^k) (n1 y h)
    omega)
   rw[y0t,hiB,hiB,d,y01,y0b,y03,y03];refine⟨ω,?_⟩;rw[y06,y0t,show v / 2^k+(i+1+r.length)-(x / 2^k+i+1+(hiB k (x / 2^k+i+1) (i+1) r).length)=v / 2^k+(i+(r.length+1))-(len+(x / 2^k+i-len+((hiB k (x / 2^k+i+1) (i+1) r).length+1))) by omega]
def zbs (k:Nat)(l:List Nat)(v:Nat):VL k (l++[v])=VL k l++if l.length=0 then SJ 32 (v / 2^k) else []:=by
 cases l with
 |nil=>simp[VL]
 |cons x l=>simp[VL]
def efT (l:List Nat)(f:Fm):Sa:=SM (SJ 32 f.n++SJ 64 f.u)++SM (W9 f.width l)++SM (hiB f.width 0 0 l)++SM (VL f.width l)
theorem zfV {b:Nat}:∀{l:List Nat},(∀x∈l,x<=b)->l.sum<=l.length*b
 |[],_=>ξ
 | x :: l, h => by
   have d:=h x y0s;have e:=zfV (λy c=>h y (y0u x c));rw[y0L,y03,y0r];omega
def zdv (k:Nat)(l:List Nat):(VL k l).length<=32:=by
 cases l with
 |nil=>simp[VL]
 |cons v l=>simp[VL]
theorem z4x (k:Nat){l:List Nat}(c:Nof l)(d:l[l.length-1]? =some z):(hiB k 0 0 l).length=z / 2^k+l.length:=by
 have:=zci k l 0 0 c (λx e=>y02 _) z (by rw[List.getLast?_eq_getElem?];exact d)
 omega
/-! ### Three writers side by side -/
def zg1 (A B:Nat->Prop):Prop:=∀k,A k->¬B k
structure EfW (w0 w:World)(b5:Nat)(f:Fm)(p1 p2 p3:Nat)(l1 l2 l3:List Bool):Prop where
 ex:∃F1 F2 F3:Nat->Prop,WrA w p1 l1 F1/\WrA w p2 l2 F2/\WrA w p3 l3 F3/\zg1 F1 F2/\zg1 F2 F3/\zg1 F3 F1/\∀k,F1 k\/F2 k\/F3 k->w0.heap.size<=k/\k≠b5
 ext:Ext w0 w
 S4:Sk w b5 (fmC f) 236
section
variable {w0:World}{b5:Nat}{f:Fm}{p1 p2 p3:Nat}{l1 l2 l3:List Bool}
theorem EfW.rot (h:EfW w0 w b5 f p1 p2 p3 l1 l2 l3):EfW w0 w b5 f p2 p3 p1 l2 l3 l1:=by
 obtain⟨⟨c,d,l,n,q,r,u,v,x,A⟩,G,C⟩:=h
 exact⟨⟨d,l,c,q,r,n,v,x,u,λk D=>A k (by rcases D with e|e|e;exact .inr (.inl e);exact .inr (.inr e);exact .inl e)⟩,G,C⟩
theorem EfW.on (h:EfW w0 w b5 f p1 p2 p3 l1 l2 l3)(c:Ext w w2):EfW w0 w2 b5 f p1 p2 p3 l1 l2 l3:=by
 obtain⟨⟨d,e,l,n,q,r,u,v,x,A⟩,D,C⟩:=h
 exact⟨⟨d,e,l,n.ext c,q.ext c,r.ext c,u,v,x,A⟩,D.trans c,c.S4 C⟩
theorem EfW.zhj (h:EfW w0 w b5 f p1 p2 p3 l1 l2 l3):∃n,WrA w p1 l1 n/\¬n b5/\(∀w2 l,WrR p1 n w w2 l->EfW w0 w2 b5 f p1 p2 p3 l l2 l3):=by
 obtain⟨⟨n,I,J,M,x,A,C,N,D,q⟩,H,G⟩:=h
 refine⟨n,M,λe=>(q b5 (.inl e)).2 O,λw2 l hr=>?_⟩
 obtain⟨u,K,r,v⟩:=hr
 have z:=H.size
 have Q:=G.lt
 refine⟨⟨u,I,J,K,x.kp r (λi hi e=>C i e hi),A.kp r (λi hi e=>D i hi e),λk c e=>?_,N,λk c e=>?_,λk c=>?_⟩,H.An r (λk c=>(q k (.inl c)).1),r.S4 G (λe=>(q b5 (.inl e)).2 O)⟩
 ·rcases v k c with d|d
  ·exact C k d e
  ·have:=x.lt e;omega
 ·rcases v k e with d|d
  ·exact D k c d
  ·have:=A.lt c;omega
 ·rcases c with c|c
  ·rcases v k c with d|d
   ·exact q k (.inl d)
   ·exact⟨ω,ω⟩
  ·exact q k (.inr c)
def EfW.zhD (h:EfW w0 w b5 f p1 p2 p3 l1 l2 l3):∃c,WrA w p2 l2 c/\(∀w2 l,WrR p2 c w w2 l->EfW w0 w2 b5 f p1 p2 p3 l1 l l3):=by
 obtain⟨c,d,-,e⟩:=h.rot.zhj
 exact⟨c,d,λw2 l hr=>(e w2 l hr).rot.rot⟩
def EfW.znU (h:EfW w0 w b5 f p1 p2 p3 l1 l2 l3):∃c,WrA w p3 l3 c/\(∀w2 l,WrR p3 c w w2 l->EfW w0 w2 b5 f p1 p2 p3 l1 l2 l):=by
 obtain⟨c,d,-,e⟩:=h.rot.rot.zhj
 exact⟨c,d,λw2 l hr=>(e w2 l hr).rot⟩
end
theorem z7T {a:Option Addr}{c:Nat}{l:List Nat}(cy:1<=l.length)(hn:l.length<=64)(T:Nof l)(hm:∀v∈l,v<=999999999)(E:Rd w (.slice a l.length c) 1 l.length (l.map Su))(Y:l[l.length-1]? =some z):
  SG prog 94 [.slice a l.length c] w λv w'=>v= .tuple #[S (efT l (XD l.length (z+1))),I 0]/\Ext w w':=by
 have Rl:=hm z (y0i Y)
 have Lg:∀v∈l,v<=z:=λv D=>by
  obtain⟨j,W⟩:=y3F.1 D;obtain⟨a1,a2⟩:=y0p.1 W;obtain⟨b1,b2⟩:=y0p.1 Y;rcases y0a j (l.length-1) with h| h
  ·have:=y1D.1 T j (l.length-1) a1 b1 h
   rwa [a2,b2] at this
  ·have e:j=l.length-1:=ω
   subst e;rw[Y] at W;cases W;exact y07 _
 have yT:=z2X (n:=l.length) (u:=z+1) ω
 have X:=z4g (n:=l.length) (u:=z+1) cy ω
 rw[y1h] at X
 obtain⟨gb,go,a7,e4⟩:∃b o c',Value.slice a l.length c= .slice (some ⟨b,o,none⟩) l.length c':=by
  rcases E.2 with⟨c,hc,h0⟩|⟨b,off,c',hc,-⟩
  ·omega
  ·exact⟨b,off,c',hc⟩
 cases e4
 refine py (e:=[(0,_)]) func94 O ntmps94 O O<|qN O<|To O<|SX O<|Sr zkU O (zd6 ω T (λv D=>by have:=hm v D;omega) E) ?_
 rintro _ w⟨rfl,rfl⟩
 refine qV (Vn O)<|Tt O<|TU O<|SX O<|UR U34 O<|Ub O<|S5<|So O (λh0=>?_)<|λh0=>?_
 ·refine Sg O<|Sz O<|UR U34 O<|UO O ?_;rw[show(l.length:Int)-1=((l.length-1:Nat):Int) by omega];refine qV (Tm U34 YI O O ω) (qV (SQ Va O O (TF E (show(l.map Su)[l.length-1]? =some (Su z) by rw[y0l,Y];rfl))) ?_);refine qV (YW O O) ?_;rw[y0e (show z+1<18446744073709551616 by omega)];refine TR O (UR U34 O (Sf O (Sr zfX O (z1y l.length (z+1) cy ω ω ω _) ?_)));rintro _ w1⟨rfl,aa⟩
  generalize hf:XD l.length (z+1)=f
  have NN:f.width=wdF l.length (z+1):=by rw[<-hf];rfl
  have s9:f.n=l.length:=by rw[<-hf];rfl
  have Ei:f.u=z+1:=by rw[<-hf];rfl
  rw[<-NN] at yT X;refine Sd O O (UK (cs:=[_,_,_,_]) Xa O) ?_;rintro _ w2⟨b5,rfl,gC,N,aF⟩;refine Sm O (Ta (news:=fmC f) Xa O O O O aF ξ) ?_;rintro w3⟨P,ar⟩;replace P:Sk w3 b5 (fmC f) 236:=P;have z1:=aa.size;have z2:=N.size;have a8:=P.lt;have aT:Ext w1 w3:=N.An ar (λi e=>ω);have z3:=aT.size;refine qM O<|Sr z5b O (Yk w3) ?_;rintro _ w4⟨p1,F1,rfl,GV,aA,qY⟩;refine Sr z5b O (Yk w4) ?_;rintro _ w5⟨p2,F2,rfl,Lh,g,Li⟩;refine Sr z5b O (Yk w5) ?_;rintro _ w6⟨p3,F3,rfl,oB,Z,sB⟩;have z4:=aA.size;have z5:=g.size
  have NO:EfW w w6 b5 f p1 p2 p3 [] [] []:=⟨⟨F1,F2,F3,(GV.ext g).ext Z,Lh.ext Z,oB,λk r C=>by have:=GV.lt r;have:=Li k C;omega,λk r C=>by have:=Lh.lt r;have:=sB k C;omega,λk r C=>by have:=GV.lt C;have:=sB k r;omega,λk hk=>by
   rcases hk with h|h| h
   ·have:=qY k h;omega
   ·have:=Li k h;omega
   ·have:=sB k h;omega⟩,(((aa.trans aT).trans aA).trans g).trans Z,Z.S4 (g.S4 (aA.S4 P))⟩
  refine Vj O<|To O<|SI.qb (e:=[(0,_),(2,_),(3,_),(4,_),(5,_),(6,_),(7,_),(8,_)]) ?_;refine SX O<|UR U34 O<|Sf O<|S5<|S7<|UW (α:=Nat) (0) (λi=>[(4,Su (z+1)),(5,ptr b5 0),(6,ptr p1 0),(7,ptr p2 0),(8,ptr p3 0),(39,.slice (some ⟨gb,go,none⟩) l.length c),(40,I (l.length:Int)),(41,I (i:Int))]) (λi w'=>EfW w w' b5 f p1 p2 p3 (W9 f.width (l.take i)) (hiB f.width 0 0 (l.take i)) (VL f.width (l.take i))/\i<=l.length) (λi=>l.length-i) ?hI ?hround
  case hI=>exact⟨NO,y02 _⟩
  case hround =>
   rintro i U⟨H,hi⟩ ih
   try dsimp only
   refine qN O<|TW O<|S5<|It<|So O (λr=>?_)<|λr=>?_
   ·have dF:i<l.length:=ω
    obtain⟨v,D⟩:∃v,l[i]? =some v:=⟨_,y04 dF⟩;have GU:=Lg v (y0i D);have kS:v / 2^f.width<=z / 2^f.width:=y1Q GU;have sr:(l.take i).length=i:=by rw[y0c];omega
    obtain⟨s,p⟩:=z96 f.width (l.take i) 0 0 v (by rw[<-Tj D];exact T.sublist (y37 _ _)) (λx L=>y02 _);rw[<-Tj D,y0g,y0g,sr] at p;rw[y0g,y0g,sr] at s;have NP:(l.take i).length*f.width<=64*30:=y1k ω ω;have hg:=Ext.Sv U;obtain⟨a0,GW,AJ,eJ⟩:=(H.on hg).zhj;have AK:Sk U b5 [I (f.n:Int),Su f.u,I (f.width:Int),I (f.bits:Int)] 236:=H.S4;have vL:=y0z f.width;have Rm:2^f.width<=2^30:=y0v ψ yT;refine S6 (TZ (SE O (qV (Tm U34 YI O O ω) (qV (SQ Va O O (TF (E.ext H.ext) (show(l.map Su)[i]? =some (Su v) by rw[y0l,D];rfl))) ?_))));refine To O (It (Ux (λw'=>Kp a0 U w') O (St 0 O O (hg.kp) (St 1 O O (hg.kp) (S8 2 O (SN Xc O) (hg.kp) (qT 3 O (λ_ h=>Sc U3 O O (h.S4 AK AJ) O) (hg.kp) (S8 7 O (SN Xc O) (hg.kp) (qT 8 O (λ_ h=>Sc U3 O O (h.S4 AK AJ) O) (hg.kp) (S8 4 O (UQ f.width (2^f.width) O O ω O) (hg.kp) ?_)))))))));rw[show 1*2^f.width%18446744073709551616=2^f.width by rw[y0Q];exact y0e ω];refine S8 5 O (z0q (m:=2^f.width) (n:=1) O O O (by show 2^f.width<2^64;omega) ω) (hg.kp) ?_;refine S8 6 O (Yx O O ω ω) (hg.kp) ?_;rw[y14];refine VF 9 O z0m O (VT GW (v%2^f.width) f.width ω (y13 _ vL) (by rw[Yr];omega)) ?_;rintro _ w8⟨rfl,gP⟩;refine⟨hg.kp.trans gP.choose_spec.2.1,?_⟩;have uw:=eJ _ _ gP;rw[<-zcR,<-Tj D] at uw;have wJ:Sk w8 b5 [I (f.n:Int),Su f.u,I (f.width:Int),I (f.bits:Int)] 236:=uw.S4;obtain⟨a3,sK,ff⟩:=uw.zhD;refine qE (SE O (Sn Xc O (qV (Sc U3 O O wJ O) (qV (XE f.width (2^f.width) O O (by show f.width<=64;omega) O) ?_))));have t:=zbs f.width (l.take i) v;rw[<-Tj D,sr] at t
    generalize v / 2^f.width=d at s p kS t
    generalize z / 2^f.width=zq at kS X
    refine qV (T7 O Va U3 ω)<|Sf O<|Tr O ?_;rw[show(d:Int)+(i:Int)=((d+i:Nat):Int) by omega];refine Sq O<|It<|TV O<|Sr z5Y O (Za sK) ?_;rintro _ w8⟨rfl,rfl⟩;refine UO O ?_
    generalize GX:(hiB f.width 0 0 (l.take i)).length=A at s p
    rw[show((d+i:Nat):Int)-(A:Int)=((d+i-(A+0):Nat):Int) by omega];refine Sq O<|S7<|UW (α:=Nat) (0) (λy=>[(4,Su (z+1)),(5,ptr b5 0),(6,ptr p1 0),(7,ptr p2 0),(8,ptr p3 0),(9,I (i:Int)),(11,I ((d+i:Nat):Int)),(12,I ((d+i-(A+y):Nat):Int)),(39,.slice (some ⟨gb,go,none⟩) l.length c),(40,I (l.length:Int)),(41,I (i:Int))]) (λy w'=>EfW w w' b5 f p1 p2 p3 (W9 f.width (l.take (i+1))) (hiB f.width 0 0 (l.take i)++List.replicate y false) (VL f.width (l.take i))/\A+y<=d+i) (λy=>d+i-(A+y)) ?hI ?hround
    case hI=>exact⟨by simpa using uw,s⟩
    case hround=>
     rintro y w9⟨NQ,hy⟩ J
     try dsimp only
     obtain⟨a3,sK,ff⟩:=NQ.zhD;refine SX O<|Ub O<|S5<|So O (λC=>?_)<|λC=>?_
     ·obtain⟨m,iZ,dx,mM,Lj⟩:∃m,min (d+i-(A+y)) 64=m/\1<=m/\m<=64/\A+y+m<=d+i:=⟨_,O,ω,ω,ω⟩;refine S6<|TZ<|Sg O<|Sz O<|qV (ymi O O) ?_;rw[show min ((d+i-(A+y):Nat):Int) 64=(m:Int) by omega];refine Sr z0m O (VT sK 0 m mM (y0z _) (by rw[y01,y0b,GX];omega)) ?_;rintro _ G⟨rfl,pK⟩;have K:=ff _ _ pK;rw[ZJ,y06,y2W] at K;obtain⟨a5,AL,-⟩:=K.zhD;refine S5<|S2<|Sg O<|Sz O<|Sr z5Y O (Za AL) ?_;rintro _ G⟨rfl,rfl⟩;rw[show(hiB f.width 0 0 (l.take i)++List.replicate (y+m) false).length=A+(y+m) by rw[y01,y0b,GX]];refine UO O ?_;rw[show((d+i:Nat):Int)-((A+(y+m):Nat):Int)=((d+i-(A+(y+m)):Nat):Int) by omega];refine Sq O ?_;exact(J (y+m) _ ⟨K,ω⟩ ω).qb
     ·have NR:y=d+i-A:=ω
      subst NR;refine Sh O (SE O (Sr z0m O (VT sK 1 1 ψ ψ (by rw[y01,y0b,GX];omega)) ?_));rintro _ G⟨rfl,pK⟩;have K:=ff _ _ pK;rw[show SJ 1 1=[true] from rfl,y06,<-p] at K;refine qM O<|Sf O<|qV (yre O O ω)<|U7 O<|S5<|So O (λB=>?_)<|λB=>?_
      ·have dH:i=0:=ω
       obtain⟨a6,GY,pC⟩:=K.znU;refine Sg O (Sz O (qV (TM O U3 Va ω) (Sr z0m O (VT GY (d+i) 32 ψ (by show _<2^32;omega) (by rw[dH];show 0+32<=_;omega)) ?_)));rintro _ M⟨rfl,GZ⟩;have Q:=pC _ _ GZ;refine S5 (S2 (Sg O (Tr O (Sf O (S5 ((ih (i+1) _ ⟨?_,dF⟩ ω).qb))))));rw[t,if_pos dH];rw[show d+i=d by omega] at Q;exact Q
      ·refine S6 (S2 (Sg O (Tr O (Sf O (S5 ((ih (i+1) _ ⟨?_,dF⟩ ω).qb))))));rw[t,if_neg ω,y0q];exact K
   ·have de:i=l.length:=ω
    subst de;rw[y0K] at H;refine Sh O<|qN O<|Sr z5b O (Yk U) ?_;rintro _ w8⟨p4,F4,rfl,nA,dw,Lk⟩;have wJ:Sk w8 b5 [I (f.n:Int),Su f.u,I (f.width:Int),I (f.bits:Int)] 236:=(H.on dw).S4;refine TR O (Sn z1T O (qV (Sc U3 O O wJ O) (qV (TM O U3 Va ω) (Sr z0m O (VT nA f.n 32 ψ (by show _<2^32;omega) ξ) ?_))));rintro _ w9⟨rfl,F5,Ej,aK,yS⟩;have fD:Ext U w9:=dw.An aK Lk;have a9:=fD.size;refine qM O (Sz O (Sr z0m O (VT Ej (z+1) 64 ψ (by show _<2^64;omega) ξ) ?_));rintro _ G⟨rfl,F6,mZ,aD,Rn⟩
    have ux:Ext U G:=fD.An aD (λk hk=>by
     rcases yS k hk with e| e
     ·exact Lk k e
     ·have:=dw.size;omega)
    rw[y18,<-Ei] at mZ;refine qM O (Sq O (It (TV O (Sz O (Sd O O (pbs (cs:=[_,_,_,_]) (zs:=[Value.pointer none,Value.pointer none,Value.pointer none,Value.pointer none]) zjk zcL O y00 O O O ψ) ?_)))));rintro _ M⟨V,rfl,⟨Ll,aJ,Lm⟩,AM⟩;have Q:=H.on (ux.trans aJ);obtain⟨tx,R⟩:∃tx:List Sa,tx=[SM (SJ 32 f.n++SJ 64 f.u),SM (W9 f.width l),SM (hiB f.width 0 0 l),SM (VL f.width l)]:=⟨_,O⟩
    have jQ:∀j,(List.take j (List.map List.length tx)).sum<=4000:=λj=>by
     have r:∀x∈List.take j (List.map List.length tx),x<=1000:=λx L=>by
      have N:=y1d L;rw[R] at N;have gD:(W9 f.width l).length<=64*30:=by rw[Yr];exact y1k hn ω
      have oC:=z4x f.width T Y;have iV:=zdv f.width l;simp only[y0o,y1y,T3,y01,bitsN_length] at N;simp only[y0m,y2e,or_false] at N
      generalize z / 2^f.width=zq at X oC
      omega
     have C:=zfV r;have B:(List.take j (List.map List.length tx)).length<=4:=by rw[y0c,y0h,R];simp;omega
     omega
    have gS:∀(j:Nat)(x:Sa),tx[j]? =some x->x.length<=4000:=λj x L=>by
     have r:=jQ (j+1);rw[Tj (q:=x.length) (by rw[y0l,L];rfl),y15] at r;simp at r;omega
    have hq:∀j,j<4->∃q bs F,([ptr p4 0,ptr p1 0,ptr p2 0,ptr p3 0]:List Value)[j]? =some (ptr q 0)/\tx[j]? =some (SM bs)/\WrA M q bs F:=λj W=>by
     obtain⟨F1,r,-,-⟩:=Q.zhj;obtain⟨F2,C,-⟩:=Q.zhD;obtain⟨F3,B,-⟩:=Q.znU;rw[R];have H0:j=0\/j=1\/j=2\/j=3:=ω
     rcases H0 with e|e|e|e<;>subst e
     ·exact⟨p4,_,_,O,O,mZ.ext aJ⟩
     ·exact⟨p1,_,_,O,O,r⟩
     ·exact⟨p2,_,_,O,O,C⟩
     ·exact⟨p3,_,_,O,O,B⟩
    refine UR zjk O<|Sf O<|S5<|SI.qb (e:=[(14,_),(100,_),(101,_),(102,_)]) ?_;refine S7<|UW (α:=Nat) (0) (λj=>[(14,S ((tx.take j).flatten)),(100,.slice (some ⟨V,0,none⟩) 4 4),(101,I 4),(102,I (j:Int))]) (λj w'=>w'=M/\j<=4) (λj=>4-j) ?hI ?hround
    case hI=>exact⟨O,y02 _⟩
    case hround=>
     rintro j a4⟨rfl,W⟩ J
     try dsimp only
     refine qN O<|TW O<|S5<|It<|So O (λC=>?_)<|λC=>?_
     ·obtain⟨q,bs,F,g1,g2,g3⟩:=hq j ω;have Ro:=jQ j;have Rp:=gS j _ g2;refine S6 (TZ (qN O (qV (Tm zjk zcL O O ω) (qV (SQ z5u O O (TF AM.rd g1)) (TR O (Sr zc1 O (z18 g3) ?_))))));rintro _ a4⟨rfl,rfl⟩;refine Sf O (zex O (qV (UY (v:=I 0) O O) (To O (SX O (TK O (Tt O (Sg O (Sz O (qV (Zq O O (by first|omega|(simp;done)|(simp;omega))) ?_)))))))));refine Sq O<|S2<|Sg O<|Tr O<|Sf O<|S5 ?_;rw[show(tx.take j).flatten++SM bs=(tx.take (j+1)).flatten by rw[Tj g2,List.flatten_append];simp];exact(J (j+1) _ ⟨O,ω⟩ ω).qb
     ·have H0:j=4:=ω
      subst H0;refine Sh O<|SE O<|To O<|S3 func94 O (⟨_,O,?_,(H.ext.trans ux).trans aJ⟩);rw[R];simp[TC,efT]
 ·omega
structure PHd where
 n:Nat
 m:Nat
 p:TX
 bits:Nat
def hdC (h:PHd):List Value:=[I (h.n:Int),I (h.m:Int),I (h.p.SH:Int),I (h.p.chain:Int),I (h.p.interval:Int),I (h.p.zeta:Int),I (h.p.most:Int),I (h.bits:Int)]
abbrev hdV (h:PHd):Value:= .agg (hdC h).toArray
structure PHd.U8 (h:PHd):Prop where
 n1:1<=h.n
 n2:h.n<=65536
 m:h.m<=1048576
 bits:h.bits<=134217728
 p:h.p.U8
def hdL (h:PHd):List (Nat×Nat):=[(h.n,32),(h.m,32),(h.p.SH,8),(h.p.chain,8),(h.p.interval,8),(h.p.zeta,8),(h.p.most,32),(h.bits,64)]
def US (l:List (Nat×Nat)):List Bool:=l.flatMap λq=>SJ q.2 q.1
def zcx:Sa:=[119,116,108,49]
def hdT (h:PHd):Sa:=zcx++SM (US (hdL h))
theorem Yw (h:PHd):(US (hdL h)).length=192:=by
 simp[US,hdL]
theorem z0F (h:PHd):(hdT h).length=28:=by
 unfold hdT
 rw[y01,T3,Yw];rfl
theorem z1I (h:PHd)(r:h.U8)(w:World):SG prog 129 [hdV h] w λu w'=>u=I 0/\Ext w w':=by
 obtain⟨x,A,C,g4,q⟩:=r
 refine py (e:=[(0,_)]) func129 O ntmps129 O O<|qN O<|Sd O O (UD O (cs:=hdC h) O) ?_
 rintro _ w1⟨b1,rfl,v,d,c⟩
 replace c:Sk w1 b1 [I (h.n:Int),I (h.m:Int),I (h.p.SH:Int),I (h.p.chain:Int),I (h.p.interval:Int),I (h.p.zeta:Int),I (h.p.most:Int),I (h.bits:Int)] 153:=c
 refine Sq O<|TZ<|It<|qN O<|Sn XY O<|qV (Sc U3 O O c O)<|TW O<|T0<|Sf O<|Sn XY O<|qV (Sc U3 O O c O)<|Ub O<|T0<|Td O ?_
 refine Sq O<|S9 O<|qN O<|Sn z44 O<|qV (Sc U3 O O c O)<|TW O<|T0<|Sf O<|Sn z44 O<|qV (Sc U3 O O c O)<|Ub O<|T0<|Td O<|Sq O ?_
 refine S9 O<|qN O<|Sn YO O<|qV (Sc U3 O O c O)<|TW O<|T0<|Sf O<|Sn YO O<|qV (Sc U3 O O c O)<|Ub O<|T0<|Td O<|Sq O<|SI.qb (e:=[(1,_),(2,_),(3,_)]) ?_
 refine S9 O<|Sg O<|Sn XY O<|qV (Sc U3 O O c O)<|U7 O<|T0<|Sf O<|Ua<|Ua<|Ua<|Td O<|Sq O<|VP O<|S2 ?_
 refine qN O<|Sn z2i O<|qV (SO (news:=Z9 h.p) U93 O Vf O (c.cells (i:=2) (n:=5) O) O)<|Sr ziT O (z3z h.p q _) ?_
 rintro _ w2⟨rfl,l⟩
 refine Sq O<|S3 func129 O ?_
 exact⟨_,O,O,d.trans l⟩
theorem ze9 (h:PHd)(b:h.U8)(w:World):SG prog 93 [hdV h] w λu w'=>u= .tuple #[S (hdT h),I 0]/\Ext w w':=by
 obtain⟨g1,g2,g3,g4,g5⟩:=id b
 obtain⟨q1,q2,q3⟩:=id g5
 obtain⟨r1,r2,r3,r4⟩:=id q1
 have a0:h.p.SH<=16:=r1
 have a1:h.p.interval<=64:=by
  have:h.p.interval=0\/2<=h.p.interval/\h.p.interval<=64:=r2;omega
 have a2:h.p.zeta<=16:=r4
 refine py (e:=[(0,_)]) func93 O ntmps93 O O<|qN O<|Sd O O (UD O (cs:=hdC h) O) ?_
 rintro _ w1⟨b1,rfl,bT,W,x⟩
 replace x:Sk w1 b1 [I (h.n:Int),I (h.m:Int),I (h.p.SH:Int),I (h.p.chain:Int),I (h.p.interval:Int),I (h.p.zeta:Int),I (h.p.most:Int),I (h.bits:Int)] 153:=x
 refine To O<|It<|qN O<|qV (SO (news:=hdC h) z2T O XI O (x.cells (n:=8) O) O)<|Sr zeY O (z1I h b _) ?_
 rintro _ w2⟨rfl,Y⟩
 refine TR O<|TK O<|Tt O<|qN O<|Sr z5b O (Yk w2) ?_
 rintro _ w3⟨wp,F,rfl,t,Z,sB⟩
 have V:=Y.trans Z
 have a:=V.S4 x
 refine Up O<|Sn z2i O<|qV (SO (news:=Z9 h.p) U93 O Vf O (a.cells (i:=2) (n:=5) O) O)<|Sd O O (UK (cs:=[_,_,_,_,_]) Vf O) ?_
 rintro _ w4⟨b6,rfl,oo,L,X⟩
 refine Sm O (Ta (news:=Z9 h.p) Vf O O O O X ξ) ?_
 rintro y⟨l,ai⟩
 replace l:Sk y b6 [I (h.p.SH:Int),I (h.p.chain:Int),I (h.p.interval:Int),I (h.p.zeta:Int),I (h.p.most:Int)] 93:=l
 have H:Ext w3 y:=L.An ai (λi e=>ω)
 have J:=H.S4 a
 refine S5<|It<|qN O<|Sn XY O<|qV (Sc U3 O O J O)<|qV (VI (cs:=[_,_]) Zt O z3x O O)<|Sn z44 O<|qV (Sc U3 O O J O)<|qV (VI (cs:=[_,_]) Zt O z3x O O)<|Sn z4N O<|qV (Sc U3 O O l O)<|qV (VI (cs:=[_,_]) Zt O z3x O O)<|Sn z2V O<|qV (Sc U3 O O l O) ?_
 refine qV (VI (cs:=[_,_]) Zt O z3x O O)<|Sn zgq O<|qV (Sc U3 O O l O)<|qV (VI (cs:=[_,_]) Zt O z3x O O)<|Sn zgd O<|qV (Sc U3 O O l O)<|qV (VI (cs:=[_,_]) Zt O z3x O O)<|Sn Xt O<|qV (Sc U3 O O l O)<|qV (VI (cs:=[_,_]) Zt O z3x O O)<|Sn YO O<|qV (Sc U3 O O J O)<|qV (VI (cs:=[_,_]) Zt O z3x O O)<|Sd O O (pbs (cs:=[_,_,_,_,_,_,_,_,_,_,_,_,_,_,_,_]) (zs:=[Value.int .i64 0,Value.int .i64 0,Value.int .i64 0,Value.int .i64 0,Value.int .i64 0,Value.int .i64 0,Value.int .i64 0,Value.int .i64 0,Value.int .i64 0,Value.int .i64 0,Value.int .i64 0,Value.int .i64 0,Value.int .i64 0,Value.int .i64 0,Value.int .i64 0,Value.int .i64 0]) zk5 Zt O y00 O O O ψ) ?_
 rintro _ z⟨d,rfl,⟨FI,T,eC⟩,M⟩
 have Q:=H.trans T
 have s:=t.ext Q
 have z3:=Z.size
 have hL:(hdL h).length=8:=rfl
 replace M:Sl z (.slice (some ⟨d,0,none⟩) 8 8) 231 2 8 ((hdL h).flatMap λq=>[I (q.1:Int),I (q.2:Int)]):=M
 refine UR zk5 O<|Sf O<|S5<|SI.qb (e:=[(2,_),(3,_),(5,_),(43,_),(44,_),(45,_)]) ?_
 refine S7<|UW (α:=Nat) (0) (λi=>[(5,ptr wp 0),(43,.slice (some ⟨d,0,none⟩) 8 8),(44,I 8),(45,I (i:Int))]) (λi w'=>WrR wp F z w' (US ((hdL h).take i))/\i<=8) (λi=>8-i) ?hI ?hround
 case hI=>exact⟨⟨F,s,Kp.refl _ _,λk r=> .inl r⟩,y02 _⟩
 case hround=>
  rintro i w7⟨⟨F7,N,A,o⟩,hi⟩ ih
  try dsimp only
  refine qN O<|TW O<|S5<|It<|So O (λh0=>?_)<|λh0=>?_
  ·obtain⟨⟨v,c⟩,C⟩:∃q,(hdL h)[i]? =some q:=⟨_,y04 (by rw[hL];omega)⟩
   have U:v<2^c/\c<=64/\v<=134217728:=by
    have j:=y0i C;simp only[hdL,y0m,y2e,or_false,y29] at j;rcases j with⟨rfl,rfl⟩|⟨rfl,rfl⟩|⟨rfl,rfl⟩|⟨rfl,rfl⟩|⟨rfl,rfl⟩|⟨rfl,rfl⟩|⟨rfl,rfl⟩|⟨rfl,rfl⟩<;>refine⟨ω,ω,ω⟩
   have gt:(US ((hdL h).take i)).length+c<=192:=by
    have e:US ((hdL h).take (i+1))=US ((hdL h).take i)++SJ c v:=by rw[Tj C];simp[US]
    have e2:=congrArg List.length e;rw[y01,bitsN_length] at e2
    have e3:(US (hdL h)).length=(US ((hdL h).take (i+1))).length+(US ((hdL h).drop (i+1))).length:=by
     conv=>lhs;rw[<-y1c (i+1) (hdL h)]
     unfold US;rw[y1Y,y01]
    have e4:=Yw h;omega
   have fS:=M.kp A (λg hg e=>by have e1:d=g:=UC hg;have:=s.lt e;have:=t.lt e;have:=H.size;omega);have lL:=z4E (f:=λq:Nat×Nat=>[I (q.1:Int),I (q.2:Int)]) (λ_=>rfl) fS.rd C;refine S6 (TZ (qN O (qV (Tm zk5 Zt O O ω) (qV (SO (news:=[I (v:Int),I (c:Int)]) zhg O Zt O lL O) (Sd O O (UK (cs:=[_,_]) Zt O) ?_)))));rintro _ w8⟨b8,rfl,iH,dw,aZ⟩;refine Sm O (Ta (news:=[I (v:Int),I (c:Int)]) Zt O O O O aZ ξ) ?_;rintro B⟨D,R⟩;replace D:Sk B b8 [I (v:Int),I (c:Int)] 231:=D;have K:Ext w7 B:=dw.An R (λi e=>ω);refine S5 (Uw O (Sn zhT O (qV (Sc U3 O O D O) (qV (TM O U3 Va ω) (Sn zgW O (qV (Sc U3 O O D O) (Sr z0m O (VT (N.ext K) v c U.2.1 U.1 ω) ?_)))))));rintro _ a3⟨rfl,G,E,P,cB⟩;refine S5<|S2<|Sg O<|Tr O<|Sf O<|S5 ((ih (i+1) _ ⟨⟨G,?_,(A.trans K.kp).An P (λk r=>(o k r).symm),λk r=>?_⟩,ω⟩ ω).qb)
   ·rw[Tj C,show US ((hdL h).take i++[(v,c)])=US ((hdL h).take i)++SJ c v by simp[US]];exact E
   ·rcases cB k r with e| e
    ·exact o k e
    ·have:=A.size;have:=K.size;exact .inr ω
  ·have de:i=8:=ω
   subst de;rw[show(hdL h).take 8=hdL h from rfl] at N;refine Sh O<|SE O<|Sr zc1 O (z18 N) ?_;rintro _ w8⟨rfl,rfl⟩;have gS:(SM (US (hdL h))).length=24:=by rw[T3,Yw]
   refine Sf O (Vk O (Vj O (TR O (qV (Zq O O (by first|omega|(simp;done)|(simp;omega))) ?_))));refine Sf O (To O (S3 func93 O (⟨_,O,?_,((W.trans V).trans Q).An A (λk r=>by have:=sB k r;have:=Y.size;have:=W.size;omega)⟩)));simp[TC,hdT,zcx]
theorem zaf (h:GrM w (.slice ga g.length gc) g)(hg:Um g):SG prog 92 [.slice ga g.length gc] w λu w'=>u=I (Tk g:Int)/\w'=w:=by
 have U:=hg.n
 obtain⟨vs,r,H⟩:=h.ex
 refine py (e:=[(0,_)]) func92 O ntmps92 O O<|qN O<|Up O<|Sq O<|SX O<|UR Xw O<|Sf O<|S5<|S7<|UW (α:=Nat) (0) (λi=>[(3,I (Tk (g.take i):Int)),(6,.slice ga g.length gc),(7,I (g.length:Int)),(8,I (i:Int))]) (λi w'=>w'=w/\i<=g.length) (λi=>g.length-i) ?hI ?hround
 case hI=>exact⟨O,y02 _⟩
 case hround=>
  rintro i V⟨rfl,hi⟩ K;have W:=XJ hg i
  try dsimp only
  refine qN O<|TW O<|S5<|It<|So O (λv=>?_)<|λv=>?_
  ·obtain⟨l,q⟩:∃l,g[i]? =some l:=⟨_,y04 ω⟩;have Q:=hg.len (y0i q);obtain⟨a,c,D,M,N⟩:=H i l q
   obtain⟨S,go,J,G⟩:∃b o d,Value.slice ga g.length gc= .slice (some ⟨b,o,none⟩) g.length d:=by
    rcases r.2 with⟨c,x,v⟩|⟨b,off,d,x,-⟩
    ·omega
    ·exact⟨b,off,d,x⟩
   cases G;have A:=z1H (g.take i) l;rw[<-Tj q] at A;refine S6 (TZ (qN O (qV (Tm Xw VR O O ω) (qV (SQ SR O O (TF r D)) (Sq O (Sg O (Sz O (UR SR O (Tr O (Sq O (S2 (Sg O (Tr O ?_)))))))))))));refine Sf O<|S5 ?_;rw[show(Tk (g.take i):Int)+(l.length:Int)=(Tk (g.take (i+1)):Int) by omega];exact(K (i+1) _ ⟨O,ω⟩ ω).qb
  ·have C:i=g.length:=ω
   subst C;rw[y0K];refine Sh O<|SE O<|Sq O<|S3 func92 O ?_;exact⟨_,O,O,O⟩
def z0N (p:TX)(g:List (List Nat))(E:List (Nat×Nat)):∀(d i:Nat),(Uc p g E i).length<=(Uc p g E (i+d)).length
 |0,i=>y07 _
 | d + 1, i => by
   have h:=z0N p g E d i;rw[<-y1B,WO,y01];omega
theorem zbD (p:TX)(g:List (List Nat))(E:List (Nat×Nat))(n:Nat):Nof (atL p g E n):=by
 unfold atL Nof
 rw[List.pairwise_map]
 refine List.pairwise_lt_range.imp fun {i j} gR=>?_
 have:=z0N p g E (j-i) i
 rwa [show i+(j-i)=j by omega] at this
def z3P (p:TX)(g:List (List Nat))(E:List (Nat×Nat)){n:Nat}(h:i<=n):(atL p g E n)[i]? =some (Uc p g E i).length:=by
 unfold atL
 rw[y0l,y1z ω];rfl
theorem zji (p:TX)(g:List (List Nat))(E:List (Nat×Nat))(n:Nat):∀v∈atL p g E n,v<=(Uc p g E n).length:=λv c=>by
 unfold atL at c
 obtain⟨j,d,rfl⟩:=y0k.1 c
 have e:=y0R.1 d
 have:=z0N p g E (n-j) j
 rwa [show j+(n-j)=n by omega] at this
def z9v {l:List Nat}(c:1<=l.length)(x:l.length<=64)(u:Nof l)(r:l[l.length-1]? =some z):(efT l (XD l.length (z+1))).length=(XD l.length (z+1)).size:=by
 have d:=z4x (XD l.length (z+1)).width u r
 have e:=Yr (XD l.length (z+1)).width l
 have h:(VL (XD l.length (z+1)).width l).length=32:=by
  cases l with
  |nil=>simp at c
  |cons v l=>simp[VL]
 have n:(XD l.length (z+1)).bits=z / 2^(XD l.length (z+1)).width+l.length:=by
  show(z+1-1) / _+_=_;rw[y1h]
  rfl
 unfold efT Fm.size Fm.YF Fm.high
 rw[y01,y01,y01,T3,T3,T3,T3,y01,bitsN_length,bitsN_length,d,e,h,n]
 show _=12+(l.length*_+7) / 8+_+4*((l.length+63) / 64)
 have q:(l.length+63) / 64=1:=ω
 rw[q]
def pkT (p:TX)(g:List (List Nat))(E:List (Nat×Nat)):Sa:=
 hdT ⟨g.length,Tk g,p,(Uc p g E g.length).length⟩++SM (Uc p g E g.length)++efT (atL p g E g.length) (XD (g.length+1) ((Uc p g E g.length).length+1))
structure zeS (p:TX)(g:List (List Nat))(E:List (Nat×Nat)):Prop where
 el:E.length=g.length
 ok:zj2 p g E
 bits:(Uc p g E g.length).length<=2688000
theorem zaN (M:p.U8)(hg:Um g)(j:1<=g.length)(Q:GrM w (.slice ga g.length gc) g)(m:Sk w 1 (W5 .gamma) 314)(o:Sk w 2 (W5 .unary) 314):
  SG prog 63 [.slice ga g.length gc,bpV p] w λu w'=>∃E,zeS p g E/\u= .tuple #[S (pkT p g E),I 0]/\Ext w w':=by
 have hn:=hg.n
 have L:=XJ hg g.length
 rw[y0K] at L
 refine py (e:=[(0,_),(1,_)]) func63 O ntmps63 O O<|qN O<|Sd O O (UD O (cs:=Z9 p) O) ?_
 rintro _ w1⟨b3,rfl,P,l,H⟩
 refine Vj O<|TR O<|qV (SO (news:=Z9 p) U93 O Vf O (H.cells (n:=5) O) O)<|Sr zoL O (zda M hg (Q.ext l) (l.S4 m) (l.S4 o)) ?_
 rintro _ w2⟨E,v,rfl,y,Z,W,q,qQ,G⟩
 have D:=l.trans G
 have d:=Ext.Sv w2
 obtain⟨z,A,rfl,-⟩:=q.rd.shape
 have C:=zbD p g E g.length
 have t:=zji p g E g.length
 have x:=z7m p g E g.length
 have U:=z3P p g E (y07 g.length)
 obtain⟨vb,B,k⟩:∃b c,Value.slice z (g.length+1) A= .slice (some ⟨b,0,none⟩) (g.length+1) c:=by
  rcases q.shape with⟨-,T⟩|⟨b,c,e,hc⟩
  ·omega
  ·exact⟨b,c,e⟩
 cases k
 refine Sf O<|qV (UY (v:=S (SM (Uc p g E g.length))) O O)<|qV (UY (v:= .slice (some ⟨vb,0,none⟩) (g.length+1) A) O O)<|qV (UY (v:=I 0) O O)<|Vj O<|To O<|SX O<|TK O<|Tt O<|It ?_
 have a:PHd.U8 ⟨g.length,Tk g,p,(Uc p g E g.length).length⟩:=⟨j,(by show g.length<=_;omega),(by show Tk g<=_;omega),(by show(Uc p g E g.length).length<=_;omega),M⟩
 refine Ux (λw'=>Ext w2 w') O<|St 0 O O d<|S8 1 O (VQ Xw O) d<|St 2 O O d<|St 5 O O d<|St 6 O O d<|S8 7 O (VQ Xw O) d<|S8 8 O (Tm U34 YI O O ω) d<|qT 4 O (λ_ r=>SO (news:=Z9 p) U93 O Vf O ((r.S4 (G.S4 H)).cells (n:=5) O) O) d<|qT 9 O (λ_ r=>SQ Va O O (TF (q.ext r).rd (show((atL p g E g.length).map Su)[g.length]? =some (Su (Uc p g E g.length).length) by rw[y0l,U];rfl))) d ?_
 refine S8 10 O (T7 O Va U3 ω) d<|VF 3 O zpc O (zaf ((Q.ext D).ext d) hg) ?_
 rintro _ V⟨rfl,rfl⟩
 refine⟨d,?_⟩
 refine S8 11 O (VI (cs:=[_,_,_,_,_,_,_,_]) XI O ziX O O) d<|VF 12 O zon O (ze9 ⟨g.length,Tk g,p,(Uc p g E g.length).length⟩ a _) ?_
 rintro _ V⟨rfl,h⟩
 refine⟨d.trans h,?_⟩
 have J:=d.trans h
 refine St 13 O O (d.trans h)<|qT 14 O (λ_ r=>UY (v:=S (hdT ⟨g.length,Tk g,p,(Uc p g E g.length).length⟩)) O O) (d.trans h)<|S8 16 O (UU O) (d.trans h)<|S8 15 O (UY (v:=I 0) O O) (d.trans h)<|S8 17 O (UU O) (d.trans h)<|qE<|SI.qb (e:=[(4,_),(5,_),(6,_),(7,_),(8,_),(9,_)]) ?_
 refine SX O<|TK O ?_
 have Y:Rd V (.slice (some ⟨vb,0,none⟩) (atL p g E g.length).length A) 1 (atL p g E g.length).length ((atL p g E g.length).map Su):=by rw[x];exact(q.ext J).rd
 have N:(atL p g E g.length)[(atL p g E g.length).length-1]? =some (Uc p g E g.length).length:=by rw[x];exact U
 have Fn:=z7T ω ω C (λv s=>by have:=t v s;omega) Y N
 have F:=z9v ω ω C N
 have f:(XD (atL p g E g.length).length ((Uc p g E g.length).length+1)).size<=40000000:=by
  have K:=z6V (n:=(atL p g E g.length).length) (u:=(Uc p g E g.length).length+1) ω ω ω ω;have X:=Fm.z0K K;obtain⟨h3,h4,h5⟩:=K;unfold Fm.size Fm.YF;omega
 rw[x] at Fn F f
 have oC:=z0F ⟨g.length,Tk g,p,(Uc p g E g.length).length⟩
 have R:=T3 (Uc p g E g.length)
 refine Tt O<|SE O<|Sr zoU O Fn ?_
 rintro _ w4⟨rfl,i⟩
 refine Sf O<|qV (UY (v:=S (efT (atL p g E g.length) (XD (g.length+1) ((Uc p g E g.length).length+1)))) O O)<|qV (UY (v:=I 0) O O)<|Vj O<|Up O<|Sz O<|qV (Zq O O (by first|omega|(simp;done)|(simp;omega))) ?_
 refine Sf O<|qV (Zq O O (by first|omega|(simp;done)|(simp;omega))) ?_
 refine Sf O<|To O<|S3 func63 O ?_
 exact⟨_,O,E,⟨y,Z,W⟩,O,(D.trans J).trans i⟩
/-! ### Bytes of a word, the least first -/
def Tw:List Nat->Nat
 |[]=>0
 |b::r=>b+256*Tw r
theorem Zg {s c d:Nat}(e:b<2^s)(n:d<2^s):(b+2^s*a)&&&(d+2^s*c)=(b&&&d)+2^s*(a&&&c):=by
 apply Nat.eq_of_testBit_eq
 intro j
 have l:b&&&d<2^s:=y1Z y2I e
 rw[y3H,y1x b,y1x d,y1x (b&&&d),y3B _ e,y3B _ n,y3B _ l]
 by_cases h:j<s
 ·simp only[if_pos h,y3H]
 ·simp only[if_neg h,y3H]
theorem zhw {s:Nat}(d:b<2^s)(e:m<2^s):(b+2^s*a)&&&m=b&&&m:=by
 have:=Zg (a:=a) (c:=0) d e
 simpa using this
theorem z4R (m:Nat)(c:m<256):∀L:List Nat,(∀b∈L,b<256)->Tw L&&&Tw (List.replicate L.length m)=Tw (L.map (·&&&m))
 |[],_=>by simp[Tw]
 | b :: r, h => by
   have e:=z4R m c r (λx d=>h x (y0u b d));rw[y03,y17,Tw,Tw,y0o,Tw,<-e];exact Zg (s:=8) (h b y0s) c
theorem z71 (s m:Nat)(J:s<=8)(e:m<2^(8-s)):∀L:List Nat,(∀b∈L,b<256)->Tw L / 2^s&&&Tw (List.replicate L.length m)=Tw (L.map λb=>b / 2^s&&&m)
 |[],_=>by simp[Tw]
 | b :: r, h => by
   have M:=z71 s m J e r (λx K=>h x (y0u b K));have I:=h b y0s;have d:256=2^s*2^(8-s):=by rw[<-y0P,show s+(8-s)=8 by omega]
   have l:0<2^s:=y0z s;have q:b / 2^s<2^(8-s):=by rw[y2b l,y0H,<-d];exact I
   have v:(b+256*Tw r) / 2^s=b / 2^s+2^(8-s)*Tw r:=by
    rw[d,y23,y2t _ _ l]
   have A:b / 2^s+2^(8-s)*Tw r=(b / 2^s+2^(8-s)*(Tw r%2^s))+2^8*(Tw r / 2^s):=by
    have C:=y2c (Tw r) (2^s);have n:2^8=2^(8-s)*2^s:=by rw[y0H];exact d
    rw[n,y23,y1B,<-y2J,y1x (Tw r%2^s),C]
   have D:b / 2^s+2^(8-s)*(Tw r%2^s)<2^8:=by
    have G:Tw r%2^s+1<=2^s:=y13 _ l;have H:=y39 (2^(8-s)) G;rw[y2J,y0j] at H;have n:2^8=2^(8-s)*2^s:=by rw[y0H];exact d
    omega
   have u:m<2^8:=y2y e (y0v ψ ω);rw[y03,y17,Tw,Tw,y0o,Tw,<-M,v,A];have:=Zg (s:=8) (a:=Tw r / 2^s) (c:=Tw (List.replicate r.length m)) D u;rw[show m+256*Tw (List.replicate r.length m)=m+2^8*Tw (List.replicate r.length m) from rfl,this,zhw q e]
theorem z4B (f g:Nat->Nat):∀L:List Nat,Tw (L.map f)+Tw (L.map g)=Tw (L.map λb=>f b+g b)
 |[]=>rfl
 | b :: r => by
   rw[y0o,y0o,y0o,Tw,Tw,Tw,<-z4B f g r,y2J];omega
theorem z7P:∀L:List Nat,(∀c∈L,c / 16<=4/\c%16<=4)->(Tw L / 16+Tw L)&&&Tw (List.replicate L.length 15)=Tw (L.map λc=>c / 16+c%16)/\Tw L%16<=4
 |[],_=>⟨by simp[Tw],by simp[Tw]⟩
 | c :: r, h => by
   obtain⟨q,u⟩:=z7P r (λx n=>h x (y0u c n));obtain⟨v,A⟩:=h c y0s;have e:(c+256*Tw r) / 16+(c+256*Tw r)=(c / 16+16*(Tw r%16)+c)+2^8*(Tw r / 16+Tw r):=ω
   have l:c / 16+16*(Tw r%16)+c<2^8:=ω
   have d:(c / 16+16*(Tw r%16)+c)&&&15=c / 16+c%16:=by
    have:=y14 (c / 16+16*(Tw r%16)+c) 4;rw[show(2:Nat)^4-1=15 from rfl,show(2:Nat)^4=16 from rfl] at this;rw[this];omega
   refine⟨?_,by rw[Tw];omega⟩;rw[y03,y17,Tw,Tw,y0o,Tw,<-q,e];have:=Zg (s:=8) (a:=Tw r / 16+Tw r) (c:=Tw (List.replicate r.length 15)) l (by decide:15<2^8);rw[show 15+256*Tw (List.replicate r.length 15)=15+2^8*Tw (List.replicate r.length 15) from rfl,this,d]
def z94:∀L:List Nat,(∀b∈L,b<256)->(SJ (8*L.length) (Tw L)).count true=(L.map λb=>(SJ 8 b).count true).sum
 |[],_=>rfl
 | b :: r, h => by
   have e:=z94 r (λx d=>h x (y0u b d));have l:=h b y0s;rw[y03,y2J,y0j,Vv,y3v,Tw];have c:(b+256*Tw r) / 2^8=Tw r:=ω
   rw[y0o,y0L,show(SJ 8 (b+256*Tw r))=SJ 8 b from z0B ω,c,e];omega
def s1B (b:Nat):Nat:=(b / 2&&&85)+(b&&&85)
def s2B (b:Nat):Nat:=(b / 4&&&51)+(b&&&51)
def zdD:∀b:Fin 256,s1B b<256/\s2B (s1B b)<256/\s2B (s1B b) / 16<=4/\s2B (s1B b)%16<=4/\s2B (s1B b) / 16+s2B (s1B b)%16=(SJ 8 b).count true:=by decide+kernel
def z1t (h:b<256):s1B b<256/\s2B (s1B b)<256/\s2B (s1B b) / 16<=4/\s2B (s1B b)%16<=4/\s2B (s1B b) / 16+s2B (s1B b)%16=(SJ 8 b).count true:=zdD ⟨b,h⟩
def z39 (x:Nat):List Nat:=[x%256,x / 256%256,x / 65536%256,x / 16777216%256,x / 4294967296%256,x / 1099511627776%256,x / 281474976710656%256,x / 72057594037927936%256]
def zb0 {x:Nat}(h:x<18446744073709551616):Tw (z39 x)=x:=by
 simp only[z39,Tw]
 omega
def zdI (x:Nat):∀b∈z39 x,b<256:=λb c=>by
 simp only[z39,y0m,y2e,or_false] at c
 rcases c with rfl|rfl|rfl|rfl|rfl|rfl|rfl|rfl<;>exact y13 _ ψ
theorem zat {x:Nat}(h:x<18446744073709551616):∃D:List Nat,D.length=8/\(∀d∈D,d<=8)/\
  ((((x / 2&&&6148914691236517205)+(x&&&6148914691236517205)) / 4&&&3689348814741910323)+(((x / 2&&&6148914691236517205)+(x&&&6148914691236517205))&&&3689348814741910323)) / 16+((((x / 2&&&6148914691236517205)+(x&&&6148914691236517205)) / 4&&&3689348814741910323)+(((x / 2&&&6148914691236517205)+(x&&&6148914691236517205))&&&3689348814741910323))&&&1085102592571150095=Tw D/\D.sum=(SJ 64 x).count true:=by
 have r:=zb0 h
 have e:=zdI x
 have l:(z39 x).length=8:=rfl
 generalize z39 x=L at r e l
 have K:6148914691236517205=Tw (List.replicate L.length 85):=by rw[l];rfl
 have M:3689348814741910323=Tw (List.replicate L.length 51):=by rw[l];rfl
 have N:1085102592571150095=Tw (List.replicate L.length 15):=by rw[l];rfl
 have f1:=z71 1 85 ψ ψ L e
 have f2:=z4R 85 ψ L e
 rw[show(2:Nat)^1=2 from rfl] at f1
 have C:∀b∈L.map s1B,b<256:=λb n=>by
  obtain⟨y,u,rfl⟩:=y0k.1 n;exact(z1t (e y u)).1
 have G:(x / 2&&&6148914691236517205)+(x&&&6148914691236517205)=Tw (L.map s1B):=by
  rw[K,<-r,f1,f2,z4B];rfl
 have f3:=z71 2 51 ψ ψ (L.map s1B) C
 have f4:=z4R 51 ψ (L.map s1B) C
 rw[show(2:Nat)^2=4 from rfl] at f3
 rw[y0h] at f3 f4
 have H:(Tw (L.map s1B) / 4&&&3689348814741910323)+(Tw (L.map s1B)&&&3689348814741910323)=Tw ((L.map s1B).map s2B):=by
  rw[M,f3,f4,z4B];rfl
 rw[G,H]
 have A:∀c∈(L.map s1B).map s2B,c / 16<=4/\c%16<=4:=λc q=>by
  obtain⟨z,J,rfl⟩:=y0k.1 q;obtain⟨y,u,rfl⟩:=y0k.1 J;have:=z1t (e y u);exact⟨this.2.2.1,this.2.2.2.1⟩
 have f5:=(z7P _ A).1
 rw[y0h,y0h] at f5
 refine⟨((L.map s1B).map s2B).map λc=>c / 16+c%16,by rw[y0h,y0h,y0h];exact l,λd I=>?_,by rw[N];exact f5,?_⟩
 ·obtain⟨c,q,rfl⟩:=y0k.1 I;have:=A c q;omega
 ·have v:=z94 L e;rw[l,r] at v;rw[show 8*8=64 from rfl] at v;rw[v,y1l,y1l]
  congr 1
  refine y0O λb n=>?_;exact(z1t (e b n)).2.2.2.2
theorem zfW {D:List Nat}(A:D.length=8)(h:∀d∈D,d<=8):let n:=Tw D+Tw D / 256;let q:=n+n / 65536;let C:=q+q / 4294967296;Tw D<1152921504606846976/\C%128=D.sum/\D.sum<=64:=by
 obtain⟨d0,d1,d2,d3,d4,d5,d6,d7,rfl⟩:∃d0 d1 d2 d3 d4 d5 d6 d7,D=[d0,d1,d2,d3,d4,d5,d6,d7]:=by
  match D,A with
  |[a,b,c,d,e,f,g,i],_=>exact⟨a,b,c,d,e,f,g,i,O⟩
 have G:=h d0 ξ
 have H:=h d1 ξ
 have I:=h d2 ξ
 have J:=h d3 ξ
 have K:=h d4 ξ
 have M:=h d5 ξ
 have N:=h d6 ξ
 have Q:=h d7 ξ
 have r:Tw [d0,d1,d2,d3,d4,d5,d6,d7] / 256=Tw [d1,d2,d3,d4,d5,d6,d7]:=by
  rw[Tw,y2t _ _ ψ,y2h ω,y0g]
 have l:Tw [d0,d1,d2,d3,d4,d5,d6,d7]+Tw [d1,d2,d3,d4,d5,d6,d7]=(d0+d1+256*(d1+d2))+65536*((d2+d3)+256*(d3+d4)+65536*((d4+d5)+256*(d5+d6)+65536*((d6+d7)+256*d7))):=by
  simp only[Tw];omega
 have u:(Tw [d0,d1,d2,d3,d4,d5,d6,d7]+Tw [d1,d2,d3,d4,d5,d6,d7]) / 65536=(d2+d3)+256*(d3+d4)+65536*((d4+d5)+256*(d5+d6)+65536*((d6+d7)+256*d7)):=by
  rw[l,y2t _ _ ψ,y2h ω,y0g]
 dsimp only
 rw[r,u,l]
 have v:(d0+d1+256*(d1+d2))+65536*((d2+d3)+256*(d3+d4)+65536*((d4+d5)+256*(d5+d6)+65536*((d6+d7)+256*d7)))+((d2+d3)+256*(d3+d4)+65536*((d4+d5)+256*(d5+d6)+65536*((d6+d7)+256*d7)))=
   ((d0+d1+d2+d3)+256*(d1+d2+d3+d4)+65536*((d2+d3+d4+d5)+256*(d3+d4+d5+d6)))+4294967296*((d4+d5+d6+d7)+256*(d5+d6+d7)+65536*(d6+d7+256*d7)):=ω
 rw[v,y2t _ _ ψ,y2h ω,y0g]
 refine⟨by simp only[Tw];omega,?_,by simp only[y0L,y1E];omega⟩
 simp only[y0L,y1E]
 have x:(d0+d1+d2+d3)+256*(d1+d2+d3+d4)+65536*((d2+d3+d4+d5)+256*(d3+d4+d5+d6))+4294967296*((d4+d5+d6+d7)+256*(d5+d6+d7)+65536*(d6+d7+256*d7))+((d4+d5+d6+d7)+256*(d5+d6+d7)+65536*(d6+d7+256*d7))=
   (d0+d1+d2+d3+d4+d5+d6+d7)+128*(2*(d1+d2+d3+d4)+512*((d2+d3+d4+d5)+256*(d3+d4+d5+d6))+33554432*((d4+d5+d6+d7)+256*(d5+d6+d7)+65536*(d6+d7+256*d7))+(2*(d5+d6+d7)+512*(d6+d7+256*d7))):=ω
 rw[x,Nat.add_mul_mod_self_left,y0e ω]
 omega
theorem zgA (x:Nat)(n:x<18446744073709551616)(w:World):SG prog 248 [Su x] w λv w'=>v=I ((SJ 64 x).count true:Int)/\w'=w:=by
 obtain⟨D,d,h,c,l⟩:=zat n
 obtain⟨f1,f2,f3⟩:=zfW d h
 have u:x / 2&&&6148914691236517205<=6148914691236517205:=y2d
 have a2:x&&&6148914691236517205<=6148914691236517205:=y2d
 rw[<-l]
 refine py (e:=[(0,_)]) func248 O ntmps248 O O<|qN O<|TR O<|qV (XE 1 2 O O ψ O)<|qV (Yx O O ω ω)<|Sf O<|qV (Yx O O ω ω)<|qV (YW O O)<|Up O ?_
 rw[y0e (show(x / 2&&&6148914691236517205)+(x&&&6148914691236517205)<18446744073709551616 by omega)]
 generalize M:(x / 2&&&6148914691236517205)+(x&&&6148914691236517205)=y at c
 have S:y<18446744073709551616:=ω
 have A:y / 4&&&3689348814741910323<=3689348814741910323:=y2d
 have C:y&&&3689348814741910323<=3689348814741910323:=y2d
 refine Sf O<|qV (XE 2 4 O O ψ O)<|qV (Yx O O ω ω)<|Sf O<|qV (Yx O O ω ω)<|qV (YW O O)<|Up O ?_
 rw[y0e (show(y / 4&&&3689348814741910323)+(y&&&3689348814741910323)<18446744073709551616 by omega)]
 generalize N:(y / 4&&&3689348814741910323)+(y&&&3689348814741910323)=z at c
 have Q:z<=7378697629483820646:=ω
 refine Sf O<|qV (XE 4 16 O O ψ O)<|Sf O<|qV (YW O O) ?_
 rw[y0e (show z / 16+z<18446744073709551616 by omega)]
 refine qV (Yx O O ω ω)<|Up O ?_
 rw[c]
 generalize Tw D=x3 at f1 f2
 refine Sz O<|qV (XE 8 256 O O ψ O)<|qV (YW O O)<|Up O ?_
 rw[y0e (show x3+x3 / 256<18446744073709551616 by omega)]
 generalize G:x3+x3 / 256=x4 at f2
 have q:x4<=1157495777000000000:=ω
 refine Sz O<|qV (XE 16 65536 O O ψ O)<|qV (YW O O)<|Sq O<|SI.qb (e:=[(0,_),(2,_)]) ?_
 refine qN O ?_
 rw[y0e (show x4+x4 / 65536<18446744073709551616 by omega)]
 generalize J:x4+x4 / 65536=x5 at f2
 have K:x5<=1160000000000000000:=ω
 refine Sz O<|qV (XE 32 4294967296 O O ψ O)<|qV (YW O O)<|Up O ?_
 rw[y0e (show x5+x5 / 4294967296<18446744073709551616 by omega)]
 generalize H:x5+x5 / 4294967296=x6 at f2
 have r:x6<=1170000000000000000:=ω
 refine Sf O<|qV (T7 O Va U3 ω)<|qV (z1k O O ω ω) ?_
 rw[show x6&&&127=D.sum by rw[<-f2];exact y14 x6 7]
 refine Sq O<|S3 func248 O ?_
 exact⟨_,O,O,O⟩
def zdp {x:Nat}(c:x<18446744073709551616):Tp x<=64:=UH ω
def zft (x:Nat)(c:x<18446744073709551616)(w:World):SG prog 249 [Su x] w λv w'=>v=I ((64-Tp x:Nat):Int)/\w'=w:=by
 have d:=zdp c
 refine py (e:=[(0,_)]) func249 O ntmps249 O O<|qN O<|TR O<|Sr z5U O (Y6 x c w) ?_
 rintro _ w⟨rfl,rfl⟩
 refine UO O ?_
 rw[show(64:Int)-(Tp x:Int)=((64-Tp x:Nat):Int) by omega]
 refine Sq O<|S3 func249 O ?_
 exact⟨_,O,O,O⟩
def methT (P:Program)(t:TypeId)(c:String):Option FuncId:=match P.info? t with
 | some i => match i.methods.toList.find? (·.name == c) with
   | some m => match m.path.toList, m.func with
     | [], some (f, pr) => match P.underlying t with
       |some (.pointer _)=>cond pr (some f) none
       |some _=>cond pr none (some f)
       |none=>none
     |_,_=>none
   |none=>none
 |none=>none
section
variable {e:Env}{d:Option Nat}{pos:String}{g:Option (Nat×Bool)}{x:Operand}{n:Nat}
theorem Xv {i:TypeInfo}(h:P.info? t=some i):(typeInfo t).run P w= .ok i w:=by simp[typeInfo,program,Sem.run,h]
theorem zcO {c:String}{u:Value}(h:methT P t c=some f)(n:Nat):(method (n+1) t u c).run P w= .ok (f,u) w:=by
 unfold methT at h
 split at h<;>try cases h
 rename_i i hi
 split at h<;>try cases h
 rename_i m A
 split at h<;>try cases h
 rename_i f' pr q r
 have v:i.methods.find? (·.name==c)=some m:=by rw[<-A,Array.find?_toList]
 split at h<;>try cases h
 ·rename_i el l
  cases pr<;>simp at h;subst h;simp[method,Xv hi,v,q,follow,r,receiverAt,run_underlying l,Place.get]
 ·rename_i D C l
  cases pr<;>simp at h;subst h;unfold method;simp only[y09,Xv hi,y0J,v,q,follow,y05,r,receiverAt,run_underlying l,Place.get]
def yci {h:String}{args:List Operand}{ts:Array TypeId}{vs:List Value}{u:Value}(v:CF P f)(A:methT P t h=some f)(C:look e x=some (.iface t u))(r:looks e args=some vs):
  Yc P e ⟨d,.call ⟨.invoke x h,args.toArray,ts⟩,ty,pos,aft,g⟩ f (u::vs) w:=fun ρ c=>by
 have l:=λw=>zcO (P:=P) (w:=w) (u:=u) A (P.types.size+(Made.depth-1))
 rw[show P.types.size+(Made.depth-1)+1=P.types.size+Made.depth from rfl] at l
 have D:(program).run P w= .ok P w:=rfl
 have G:=Xm c _ _ r
 have q:=c _ _ C
 simp[execOp,resolve,G,q,Deferred.ofValue,invoke,callMethod,D,l,Xe v]
theorem zkv (A:look e x=some (I (m:Int)))(C:look e y=some (I 7))(D:m<2^62):Y P e ⟨d,.binOp .andNot t x y t',ty,pos,aft,g⟩ (I ((m / 8*8:Nat):Int)) w w:=fun ρ q=>by
 have r:m<2^IntKind.i64.bits:=by simp only[IntKind.bits];omega
 have u:m&&&18446744073709551608=m / 8*8:=by
  have h:=Zg (s:=3) (a:=m / 8) (b:=m%8) (c:=2305843009213693951) (d:=0) (y13 _ ψ) ψ;rw[Nat.and_zero,y0g,y0g] at h;have l:=y14 (m / 8) 61;rw[show(2:Nat)^61-1=2305843009213693951 from rfl,y0e ω] at l;rw[l,show(2:Nat)^3=8 from rfl,show 8*2305843009213693951=18446744073709551608 from rfl,show m%8+8*(m / 8)=m by omega] at h;rw[h];omega
 have v:(BitVec.ofInt IntKind.i64.bits (m:Int)&&&~~~(BitVec.ofInt IntKind.i64.bits 7)).toNat=m / 8*8:=by
  rw[y2O,UE r,show(~~~(BitVec.ofInt IntKind.i64.bits 7)).toNat=18446744073709551608 by decide,u]
 simp only[execOp,eqGuard_andNot,binOp_andNot,intBits_andNot,q _ _ A,q _ _ C,pure_bind,y05,bits,v]
 rw[wrap_i64 ⟨ω,ω⟩]
theorem zod {r v q:Nat}(hr:r<=63)(A:v<2^r)(I:2^r=q)(J:look e x=some (.int .u64 ((q+v:Nat):Int)))(K:look e y=some (.int .u64 (q:Int))):Y P e ⟨d,.binOp .andNot t x y t',ty,pos,aft,g⟩ (.int .u64 (v:Int)) w w:=fun ρ C=>by
 subst I
 have Q:2^r<=2^63:=y0v ψ hr
 have M:2^64=2^r*2^(64-r):=by rw[<-y0P,show r+(64-r)=64 by omega]
 have u:2^(64-r)=2*2^(63-r):=by rw[<-Nat.pow_succ',show 64-r=(63-r)+1 by omega]
 have N:0<2^(63-r):=y0z _
 have D:2^r+v<2^IntKind.u64.bits:=by simp only[IntKind.bits];omega
 have G:2^r<2^IntKind.u64.bits:=by simp only[IntKind.bits];omega
 have H:(2^r+v)&&&(2^64-1-2^r)=v:=by
  have h:=Zg (s:=r) (a:=1) (b:=v) (c:=2^(64-r)-2) (d:=2^r-1) A (by have:=y0z r;omega);rw[y0j,y14,y0e A,Nat.one_and_eq_mod_two,u,show(2*2^(63-r)-2)%2=0 by omega,Nat.mul_zero,y1b] at h
  have l:2^r-1+2^r*(2*2^(63-r)-2)=2^64-1-2^r:=by
   rw[Nat.mul_sub,<-u,<-M];have:=y0z r;omega
  rw[l,y1x v] at h;exact h
 have l:(BitVec.ofInt IntKind.u64.bits ((2^r+v:Nat):Int)&&&~~~(BitVec.ofInt IntKind.u64.bits ((2^r:Nat):Int))).toNat=v:=by
  rw[y2O,BitVec.toNat_not,UE D,UE G];exact H
 simp only[execOp,eqGuard_andNot,binOp_andNot,intBits_andNot,C _ _ J,C _ _ K,pure_bind,y05,bits,l]
 rw[z4t (k:= .u64) O (by simp only[IntKind.bits];omega)]
end
structure Src (t:TypeId)(u:Value)(T:Sa) where
 inv:(Nat->Prop)->World->Prop
 fl:FuncId
 fr:FuncId
 cl:CF prog fl
 cr:CF prog fr
 ml:methT prog t "Length"=some fl
 mr:methT prog t "ReadAt"=some fr
 ext:∀{X Y:Nat->Prop} {w w':World},inv X w->Ext w w'->(∀k,Y k->X k\/w.heap.size<=k)->inv Y w'
 step:∀{X Y S:Nat->Prop} {w w':World},inv X w->Kp S w w'->(∀k,S k->X k)->(∀k,Y k->X k\/w.heap.size<=k)->inv Y w'
 len:∀{X:Nat->Prop} {w:World},inv X w->SG prog fl [u] w λv w'=>v=I (T.length:Int)/\Ext w w'
 rd:∀{X:Nat->Prop} {w:World} (off n:Nat),inv X w->(∀k,X k->k<w.heap.size)->off+n<=T.length->SG prog fr [u,I (off:Int),I (n:Int)] w λv w'=>v= .tuple #[S ((T.drop off).take n),I 0]/\inv X w'/\Kp (λk=>¬X k) w w'
def Src.own {u:Value}{T:Sa}(R:Src t u T){S:Nat->Prop}(h:R.inv X w)(l:Kp S w w')(c:∀k,S k->X k):R.inv X w':=R.step h l c λ_ e=> .inl e
def z5d {c:UInt8}(h:s[i]? =some c):T2 (SA (s.take (i+1)))=T2 (SA (s.take i))*256+c.toNat:=by
 rw[Tj h,z1R,Vq,show SA [c]=SJ 8 c.toNat by simp[SA],TD,bitsN_length]
 have:=c.toNat_lt
 omega
theorem z0D (s:Sa)(U:s.length<=8)(w:World):SG prog 175 [S s] w λv w'=>v=Su (T2 (SA s))/\Ext w w':=by
 refine py (e:=[(0,_)]) func175 O ntmps175 O O<|qN O<|Up O<|Sq O<|SX O<|Sd O O (zfx U9 TT U5 O) ?_
 rintro _ w1⟨b7,c7,rest,rfl,⟨V,u,A⟩,N⟩
 refine UR TT O<|Sf O<|S5<|S7<|UW (α:=Nat) (0) (λi=>[(3,Su (T2 (SA (s.take i)))),(7,.slice (some ⟨b7,0,none⟩) s.length c7),(8,I (s.length:Int)),(9,I (i:Int))]) (λi w'=>w'=w1/\i<=s.length) (λi=>s.length-i) ?hI ?hround
 case hI=>exact⟨O,y02 _⟩
 case hround=>
  rintro i w2⟨rfl,hi⟩ K
  try dsimp only
  refine qN O<|TW O<|S5<|It<|So O (λH=>?_)<|λH=>?_
  ·obtain⟨c,l⟩:∃c,s[i]? =some c:=⟨_,y04 ω⟩;have G:=c.toNat_lt;have h:=z5d l
   have r:T2 (SA (s.take i))<72057594037927936:=by
    have J:=Uy (SA (s.take i));rw[bitsT_length,y0c] at J;have Q:2^(8*min i s.length)<=2^56:=y0v ψ ω;omega
   have C:w2.cell? ⟨b7,0+i*1,none⟩=some (WD c):=by
    rw[A.cell,y0g,y0j,y0I (by rw[y0h];omega),y0l,l];rfl
   refine S6<|TZ<|qN O<|qV (Tm TT ti5 O O ω)<|qV (SQ U5 O O C) ?_
   generalize T2 (SA (s.take i))=q at h r
   refine Sq O<|Uw O<|qV (UQ 8 256 O O ψ O)<|Sf O<|qV (z6A O U5 Va ψ)<|qV (z4i O O ω ω) ?_
   have M:(q*256%18446744073709551616 |||c.toNat)=T2 (SA (s.take (i+1))):=by
    rw[h,y0e ω,y0H q];exact(y28 (i:=8) G q).symm
   rw[M];refine Sq O<|S2<|Sg O<|Tr O<|Sf O<|S5 ?_;exact(K (i+1) _ ⟨O,ω⟩ ω).qb
  ·have D:i=s.length:=ω
   subst D;rw[y0K];refine Sh O<|SE O<|Sq O<|S3 func175 O ?_;exact⟨_,O,O,u⟩
section
variable {e:Env}{d:Option Nat}{pos:String}{g:Option (Nat×Bool)}{x:Operand}
theorem zgI {v:Value}(ht:P.underlying t=some (.interface ms)):(binOp .eql t (.iface tx v) .nilIface).run P w= .ok (.bool false) w:=by
 have h:P.methodsAt t=ms:=by unfold Program.methodsAt;rw[ht]
 exact run_eql_held_nil w t tx v (by rw[h];exact ht)
theorem zim {v:Value}(ht:P.underlying t=some (.interface ms))(h:look e x=some (.iface tx v))(l:look e y=some .nilIface):Y P e ⟨d,.binOp .eql t x y t',ty,pos,aft,g⟩ (.bool false) w w:=fun ρ c=>by
 have hg:∀a b,(eqGuard .eql t a b (.iface tx v) .nilIface).run P w= .ok () w:=λa b=>rfl
 simp only[execOp,c _ _ h,c _ _ l,y09,hg,y0J,zgI ht,y05]
def zlg {v:Value}(c:look e x=some (.iface tx v)):Y P e ⟨d,.nilCheck x,ty,pos,aft,g⟩ (.iface tx v) w w:=fun ρ h=>by simp[execOp,h _ _ c]
end
structure Zx (l:List Nat)(f:Fm)(z:Nat):Prop where
 n1:1<=l.length
 n2:l.length<=64
 nof:Nof l
 last:l[l.length-1]? =some z
 zb:z<=999999998
 fe:f=XD l.length (z+1)
def Zx.small {l:List Nat}{f:Fm}(h:Zx l f z):f.small:=by
 rw[h.fe]
 exact z6V h.n1 (by have:=h.n2;omega) ω (by have:=h.zb;omega)
theorem Zx.len {l:List Nat}{f:Fm}(h:Zx l f z):(efT l f).length=f.size:=by
 rw[h.fe]
 exact z9v h.n1 h.n2 h.nof h.last
theorem Zx.n {l:List Nat}{f:Fm}(h:Zx l f z):f.n=l.length:=by rw[h.fe];rfl
theorem Zx.u {l:List Nat}{f:Fm}(h:Zx l f z):f.u=z+1:=by rw[h.fe];rfl
def Zx.size_le {l:List Nat}{f:Fm}(h:Zx l f z):f.size<=40000000/\12<=f.size:=by
 have c:=h.small
 have n:=Fm.z0K c
 obtain⟨q,r,u⟩:=c
 unfold Fm.size Fm.YF
 have:12<=f.high:=by unfold Fm.high;omega
 omega
def piece {A C:Sa}{n:Nat}(h:off=A.length+o)(c:o+n<=B.length):((A++B++C).drop off).take n=(B.drop o).take n:=by
 rw[h,y06,y3k,y1j ω,y1v (by rw[y08];omega)]
def WV (f:Fm):List Bool:=SJ 32 f.n++SJ 64 f.u
theorem z66 (f:Fm):SA (SM (WV f))=WV f:=by
 obtain⟨z,c,l,n⟩:=VV (WV f)
 have q:(WV f).length=96:=by simp[WV]
 have h:z=0:=ω
 rw[c,h,y2N,y0q]
theorem Yf (f:Fm):(SM (WV f)).length=12:=by
 rw[T3];simp[WV]
def zjQ (f:Fm)(c:f.n<4294967296):T2 (SA ((SM (WV f)).take 4))=f.n:=by
 rw[Yn,z66]
 unfold WV
 rw[y1a ξ,TD]
 exact y0e c
def zks (f:Fm)(c:f.u<18446744073709551616):T2 (SA ((SM (WV f)).drop 4))=f.u:=by
 rw[Xr,z66]
 unfold WV
 rw[y11 ξ,TD]
 exact y0e c
theorem zet (l:List Nat)(f:Fm):((efT l f).drop 0).take 12=SM (WV f):=by
 have h:=piece (A:=[]) (B:=SM (WV f)) (C:=SM (W9 f.width l)++(SM (hiB f.width 0 0 l)++SM (VL f.width l))) (off:=0) (n:=12) (o:=0) O (by rw[Yf];omega)
 rw[y18] at h
 unfold efT
 rw[y06,y06]
 refine h.trans ?_
 rw[y0V,y0B (by rw[Yf];omega)]
def elC (f:Fm)(t:TypeId)(u:Value):List Value:=[I (f.n:Int),Su f.u,I (f.width:Int),I (f.bits:Int),.iface t u]
theorem zb4 {u:Value}{l:List Nat}{f:Fm}(q:Zx l f z)(R:Src t u (efT l f))(a:R.inv X w)(hX:∀k,X k->k<w.heap.size):
  SG prog 143 [.iface t u] w λv w'=>∃x,v= .tuple #[ptr x 0,I 0]/\Sk w' x (elC f t u) 293/\w.heap.size<=x/\R.inv (λk=>X k\/k=x) w'/\Kp (λk=>¬X k) w w':=by
 obtain⟨dy,dG⟩:=q.size_le
 have G:=q.len
 have s9:=q.n
 have s:=q.u
 have kM:=q.n2
 have cy:=q.n1
 have zC:=q.zb
 refine py (e:=[(0,_)]) func143 O ntmps143 O O<|qN O<|To O<|TZ<|SE O<|qV (zim z5B O O)<|Sq O<|S9 O<|SE O<|Uk O O (yci R.cl R.ml O O) (R.len a) ?_
 rintro _ w1⟨rfl,D⟩
 rw[G]
 have jG:=R.ext a D (λk c=> .inl c)
 have Y:∀k,X k->k<w1.heap.size:=λk c=>by have:=hX k c;have:=D.size;omega
 refine TW O<|T0<|Sq O<|VP O<|S2<|SE O<|Uk O O (yci R.cr R.mr O O) (R.rd 0 12 jG Y (by rw[G];omega)) ?_
 rintro _ w2⟨rfl,P,Q⟩
 rw[zet]
 have V:Kp (λk=>¬X k) w w2:=D.kp.trans Q
 have fx:∀k,X k->k<w2.heap.size:=λk c=>by have:=Y k c;have:=Q.size;omega
 have oC:=Yf f
 have o:((SM (WV f)).take 4).length<=8:=by rw[y0c];omega
 have m:((SM (WV f)).drop 4).length<=8:=by rw[y08];omega
 have j:=zjQ f ω
 have M:=zks f ω
 generalize SM (WV f)=hb at oC o m j M
 have h:=Ext.Sv w2
 refine Sf O<|Vk O<|To O<|SX O<|TK O<|Tt O<|It<|Ux (λw'=>Ext w2 w') O<|St 0 O O h<|S8 1 O (z6a U9 O O ω) h<|St 3 O O h<|S8 4 O (z3t U9 O O ω) h<|VF 2 O zbQ O (z0D (hb.take 4) o _) ?_
 rintro _ w3⟨rfl,r⟩
 refine⟨h.trans r,?_⟩
 refine VF 5 O zbQ O (z0D (hb.drop 4) m _) ?_
 rintro _ w4⟨rfl,A⟩
 refine⟨(h.trans r).trans A,?_⟩
 have S:=(h.trans r).trans A
 rw[j,M]
 have mN:=R.ext P S (λk c=> .inl c)
 refine S8 6 O (UU O) ((h.trans r).trans A)<|S8 7 O (UU O) ((h.trans r).trans A)<|qE<|SI.qb (e:=[(0,_),(2,_),(3,_),(6,_),(7,_)]) ?_
 refine SX O<|Ub O<|T0<|Sz O<|Ub O<|T0<|Td O<|Sz O<|U7 O<|T0<|Sf O<|U7 O<|T0<|qV (ziu O O U4) ?_
 refine Td O<|Tt O<|SE O<|qV (T7 O Va U3 ω)<|Sf O ?_
 have y:XD f.n f.u=f:=by rw[s9,s];exact q.fe.symm
 have b:=z1y f.n f.u ω ω ω ω w4
 rw[y] at b
 refine Sr zfX O b ?_
 rintro _ w5⟨rfl,E⟩
 refine Sd O O (UK (cs:=[_,_,_,_]) Xa O) ?_
 rintro _ w6⟨b8,rfl,iH,B,F⟩
 refine Sm O (Ta (news:=fmC f) Xa O O O O F ξ) ?_
 rintro p⟨C,L⟩
 replace C:Sk p b8 (fmC f) 236:=C
 have lN:Ext w5 p:=B.An L (λi e=>ω)
 have H:=E.trans lN
 have nj:=R.ext mN H (λk c=> .inl c)
 refine S5<|It<|qN O<|qV (SO (news:=fmC f) z2r O Xa O (C.cells (n:=4) O) O)<|Sr ziB O (z6d f q.small _) ?_
 rintro _ w8⟨rfl,U⟩
 have K:=R.ext nj U (λk c=> .inl c)
 refine Sf O<|Uk O O (yci R.cl R.ml O O) (R.len K) ?_
 rintro _ w9⟨rfl,Z⟩
 rw[G]
 have kP:=R.ext K Z (λk c=> .inl c)
 have W:=U.trans Z
 have J:=(S.trans H).trans W
 refine TK O<|T0<|S5<|SI.qb (e:=[(0,_),(2,_),(3,_),(8,_),(51,_)]) ?_
 refine VP O<|qN O<|qV (SO (news:=fmC f) z2r O Xa O ((W.S4 C).cells (n:=4) O) O)<|Sf O<|qV (VI (cs:=[_,_,_,_,_]) znO O zkT O O)<|Sd O O (UD O (cs:=elC f t u) O) ?_
 rintro _ a0⟨x,rfl,hx,N,T⟩
 refine To O<|S3 func143 O ?_
 exact⟨_,O,x,O,T,by have:=V.size;have:=J.size;omega,R.ext kP N (λk c=>c.imp id λe=>ω),V.trans (J.trans N).kp⟩
def zd8 {u:Value}{f:Fm}{x:Nat}(hB:Sk w x (elC f t u) 293):SG prog 144 [ptr x 0] w λv w'=>v=I (f.n:Int)/\w'=w:=by
 replace hB:Sk w x [I (f.n:Int),Su f.u,I (f.width:Int),I (f.bits:Int),.iface t u] 293:=hB
 refine py (e:=[(0,_)]) func144 O ntmps144 O O<|TU O<|SX O<|qV (T9 z5w O O)<|Tt O<|SE O<|SC O<|Sn W7 O<|Sn z1T O<|qV (Sc U3 O O hB O)<|Sq O<|S3 func144 O ?_
 exact⟨_,O,O,O⟩
theorem zgu (k:Nat)(a b:List Nat):W9 k (a++b)=W9 k a++W9 k b:=by simp[W9]
def zho {v:Nat}{l:List Nat}(h:l[i]? =some v)(rest:List Bool):((W9 k l++rest).drop (i*k)).take k=SJ k (v%2^k):=by
 have hi:=(y0p.1 h).1
 have e:l=l.take i++(v::l.drop (i+1)):=by
  conv=>lhs;rw[<-y1c i l]
  congr 1
  rw[y2k hi,(y0p.1 h).2]
 have c:(W9 k (l.take i)).length=i*k:=by rw[Yr,y0c,y0A ω]
 rw[e,zgu,y06,y11 c]
 show((SJ k (v%2^k)++W9 k (l.drop (i+1)))++rest).take k=_
 rw[y06,y1a ξ]
def z5C {n:Nat}(h:a+m<=8*n):((SA ((B.drop o).take n)).drop a).take m=((SA B).drop (8*o+a)).take m:=by
 rw[Yn,Xr,y1u,y0G,y1n,y0A ω]
def zhx (l:List Nat)(f:Fm){n:Nat}(h:o+n<=(SM (W9 f.width l)).length):((efT l f).drop (12+o)).take n=((SM (W9 f.width l)).drop o).take n:=by
 unfold efT
 rw[y06 (SM (SJ 32 f.n++SJ 64 f.u)++SM (W9 f.width l))]
 exact piece (by rw[show SM (SJ 32 f.n++SJ 64 f.u)=SM (WV f) from rfl,Yf]) h
theorem zdL {u:Value}{l:List Nat}{f:Fm}(d:Zx l f z)(R:Src t u (efT l f))(K:R.inv X w)(hX:∀k,X k->k<w.heap.size){x:Nat}(hx:X x)(hB:Sk w x (elC f t u) 293){v:Nat}(M:l[i]? =some v):
  SG prog 240 [ptr x 0,I (i:Int)] w λr w'=>r= .tuple #[Su (v%2^f.width),I 0]/\R.inv X w'/\Kp (λk=>¬X k) w w':=by
 have L:=(y0p.1 M).1
 have ax:=d.len
 obtain⟨A0,AU⟩:=d.size_le
 have kM:=d.n2
 have yT:f.width<=30:=by rw[d.fe];exact z2X (by have:=d.zb;omega)
 replace hB:Sk w x [I (f.n:Int),Su f.u,I (f.width:Int),I (f.bits:Int),.iface t u] 293:=hB
 refine py (e:=[(0,_),(1,_)]) func240 O ntmps240 O O<|qN O<|To O<|SX O<|SC O<|Sn W7 O<|Sn Xc O<|qV (Sc U3 O O hB O)<|U7 O<|S5<|So O (λh0=>?_)<|λh0=>?_
 ·have oX:f.width=0:=ω
  refine qN O<|To O<|S3 func240 O (⟨_,O,?_,K,Kp.refl _ _⟩);rw[oX,Nat.pow_zero,y2T]
  rfl
 ·have KZ:1<=f.width:=ω
  have Y:i*f.width<=64*30:=y1k ω yT;have C:(i+1)*f.width=i*f.width+f.width:=by rw[y0r,y0Q]
  have J:(i+1)*f.width<=l.length*f.width:=y0Y _ L;have A:((i*f.width:Nat):Int)=(i:Int)*(f.width:Int):=y1A _ _;have H:(((i+1)*f.width:Nat):Int)=((i:Int)+1)*(f.width:Int):=y1A _ _;have hg:=Ext.Sv w;refine S6 (It (Ux (λw'=>Ext w w') O (St 0 O O hg (St 1 O O hg (S8 2 O (Tu O) hg (S8 3 O (SN W7 O) hg (S8 4 O (SN Xc O) hg (qT 5 O (λ_ h=>Sc U3 O O (h.S4 hB) O) hg (St 7 O O hg (S8 8 O (YB O O ω) hg (St 9 O O hg (S8 10 O (Tu O) hg (S8 11 O (SN W7 O) hg ?_)))))))))))));refine S8 12 O (SN Xc O) hg (qT 13 O (λ_ h=>Sc U3 O O (h.S4 hB) O) hg (S8 6 O (Zf O O (by rw[<-A];omega)) hg ?_));rw[<-A];refine S8 15 O (UU O) hg (S8 14 O (Zf O O (by rw[<-H];omega)) hg ?_);rw[<-H,C];refine S8 16 O (UU O) hg<|qE<|SI.qb (e:=[(0,_),(4,_),(5,_),(6,_),(7,_)]) ?_;refine SE O (SC O (Sn z6X O (qV (Sc z5B O O hB O) (Sf O (qV (yqu O O ω) (Tr O (Sf O (Tr O (qV (yqu O O ω) (Sf O (qV (yqu O O ω) (UO O ?_))))))))))));have AV:=hg.S4 hB;have Z:=R.ext K hg (λk c=> .inl c);have b:∀k,X k->k<w.drew.heap.size:=λk c=>by have:=hX k c;have:=hg.size;omega
  have V:(SM (W9 f.width l)).length=(l.length*f.width+7) / 8:=by rw[T3,Yr]
  have W:=zho (k:=f.width) M;have Q:∀rest,((W9 f.width l++rest).drop (i*f.width)).take f.width=SJ f.width (v%2^f.width):=W;rw[C] at J
  generalize i*f.width=fr at Y J Q A
  rw[show(12:Int)+(fr:Int) / 8=((12+fr / 8:Nat):Int) by omega,show((fr+f.width:Nat):Int)+7=((fr+f.width+7:Nat):Int) by omega,show((fr+f.width+7:Nat):Int) / 8-(fr:Int) / 8=(((fr+f.width+7) / 8-fr / 8:Nat):Int) by omega];have wM:fr / 8+((fr+f.width+7) / 8-fr / 8)<=(SM (W9 f.width l)).length:=by rw[V];omega
  have kK:=zhx l f wM
  have wO:12+fr / 8+((fr+f.width+7) / 8-fr / 8)<=(efT l f).length:=by
   have e:(efT l f).length=12+(SM (W9 f.width l)).length+(SM (hiB f.width 0 0 l)).length+(SM (VL f.width l)).length:=by
    unfold efT;rw[y01,y01,y01,show SM (SJ 32 f.n++SJ 64 f.u)=SM (WV f) from rfl,Yf]
   omega
  refine Uk O O (yci R.cr R.mr O O) (R.rd (12+fr / 8) ((fr+f.width+7) / 8-fr / 8) Z b wO) ?_;rintro _ w1⟨rfl,jG,g⟩;rw[kK];have N:Kp (λk=>¬X k) w w1:=hg.kp.trans g;have p:=N.S4 hB (λe=>e hx)
  have gS:(((SM (W9 f.width l)).drop (fr / 8)).take ((fr+f.width+7) / 8-fr / 8)).length=(fr+f.width+7) / 8-fr / 8:=by
   rw[y0c,y08];omega
  obtain⟨zz,mV,-,-⟩:=VV (W9 f.width l);have q:=z5C (B:=SM (W9 f.width l)) (o:=fr / 8) (n:=(fr+f.width+7) / 8-fr / 8) (a:=fr%8) (m:=f.width) ω;rw[show 8*(fr / 8)+fr%8=fr by omega,mV,Q] at q
  generalize ((SM (W9 f.width l)).drop (fr / 8)).take ((fr+f.width+7) / 8-fr / 8)=pt at gS q
  refine Sf O<|Vk O<|To O<|SX O<|TK O<|S5<|SI.qb (e:=[(0,_),(4,_),(5,_),(6,_),(8,_),(9,_),(52,_)]) ?_;refine VP O (SE O (Sr zc7 O (z0Y pt ω w1) ?_));rintro _ w2⟨r,rfl,F,j,dr⟩;refine Up O (Sz O (qV (z1k O O ω ω) ?_));rw[show fr&&&7=fr%8 from y14 fr 3];refine Sr zeJ O (z2R F (fr%8) ω) ?_;rintro _ S⟨rfl,T,y⟩;have D:Ext w1 S:=j.An y (λi e=>ω);have E:=D.S4 p;refine qM O (Sz O (SC O (Sn W7 O (Sn Xc O (qV (Sc U3 O O E O) (Sr z9o O (Zs T f.width ω) ?_))))));rintro v4 U rP
  have P:v4= .tuple #[Su (v%2^f.width),I 0]/\Kp (λk=>k=r) S U:=by
   rcases rP with⟨-,e,-,c⟩|⟨e,-,-⟩
   ·rw[q,TD,Nat.mod_mod] at e;exact⟨e,c⟩
   ·omega
  obtain⟨rfl,s⟩:=P;have G:Ext w1 U:=D.An s (λi e=>ω);refine Sf O<|Vk O<|To O<|SI.qb (e:=[(4,_),(5,_),(11,_)]) ?_;refine SE O<|To O<|S3 func240 O ?_;exact⟨_,O,O,R.ext jG G (λk c=> .inl c),N.trans G.kp⟩
end Go.Proofs.YtbihggbffaigjaaGreatDoor
