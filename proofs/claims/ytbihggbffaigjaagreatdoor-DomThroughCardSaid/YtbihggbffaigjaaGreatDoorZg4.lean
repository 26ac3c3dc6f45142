/- Merged by program. -/
import Derived.Test.YtbihggbffaigjaaGreatDoorZg3
import Derived.WideLaws
set_option linter.all false
set_option maxRecDepth 1000000
set_option maxHeartbeats 16000000
namespace Go.Proofs.YtbihggbffaigjaaGreatDoor
open Go Go.RowKit Go.Proofs.Tryz
variable {B s:P8}{E:List (Nat×Nat)}{F X:Nat->Prop}{L g:List (List Nat)}{P:Program}{R:List (Value×Nat)}{T t t' tx ty:TypeId}{a b b2 b3 b4 b7 b8 b9 c ed gc i j k least m o off sc wp z:Nat}{aft:Array Edge}{bs:List Bool}{cs:List Value}{f:FuncId}{ga ra sa:Option Addr}{ms:Array (String×TypeId)}{p:QR}{ref succ:List Nat}{w w' w2:World}{y:Operand}
/-! ### The numbers can be encoded -/
def Yb (k:Nat)(q:Cd×Nat):Prop:=(q.1= .unary/\q.2<=16)\/(q.1= .gamma/\q.2<=200000)\/(q.1= .zeta k/\q.2<=200000)
def z1S (k:Nat):∀(l:List Nat)(i:Nat),(∀n∈l,n<=65536)->∀q∈QN i l,Yb k q
 |[],i,h,q,d=>by cases d
 | n :: l, i, h, q, d => by
   rw[QN] at d;rcases y0l.1 d with e|d
   ·subst e;have:=h n y0p;exact .inr (.inl ⟨O,by dsimp only;omega⟩)
   ·exact z1S k l (i+1) (λn r=>h n (y0s _ r)) q d
theorem z0H (k x least:Nat)(r:x<65536):∀(R:List (Nat×Nat)) (e:Option Nat),(∀q∈R,q.1+q.2<=65536)->∀q∈Qd x least e R,Yb k q
 |[],e,h,q,d=>by cases e<;>cases d
 | p :: R, e, h, q, d => by
   have u:=h p y0p;rw[Sb] at d;rcases y0l.1 d with l|d
   ·subst l;refine .inr (.inl ⟨O,?_⟩)
    cases e with
    |none=>have:=z09 (z:=(p.1:Int)-x) (n:=65537) ω ω;show zig _<=_;omega
    |some z=>show p.1-z-2<=_;omega
   ·rcases y0l.1 d with l|d
    ·subst l;exact .inr (.inl ⟨O,by dsimp only;omega⟩)
    ·exact z0H k x least r R _ (λq d=>h q (y0s _ d)) q d
theorem z0I (k x:Nat)(C:x<65536):∀(l:List Nat)(e:Option Nat),(∀n∈l,n<65536)->∀q∈Qg x k e l,Yb k q
 |[],e,h,q,d=>by cases e<;>cases d
 | v :: l, e, h, q, d => by
   have D:=h v y0p;rw[Tc] at d;rcases y0l.1 d with r|d
   ·subst r;refine .inr (.inr ⟨O,?_⟩)
    cases e with
    |none=>have:=z09 (z:=(v:Int)-x) (n:=65537) ω ω;show zig _<=_;omega
    |some u=>show v-u-1<=_;omega
   ·exact z0I k x C l _ (λn A=>h n (y0s _ A)) q d
theorem z4I {l:List Nat}(h:Q4 l):(Qo least l).1.length<=65536:=by
 have d:=(Ud least l).length_eq
 rw[Pe] at d
 have e:∀(R:List (Nat×Nat)) (lo:Nat),Tp least lo R->R.length<=(Rm R).length:=by
  intro R
  induction R with
  |nil=>intro lo h;exact y02 _
  | cons q R r =>
    intro lo h;have n:=r _ h.2.2.2;have u:1<=q.2:=h.2.1;rw[show Rm (q::R)=(List.range q.2).map (q.1+·)++Rm R from rfl,Pe,y0k,y14,y01];omega
 have n:=e _ 0 (VP least l 0 h.ris (λy _=>y00 _))
 have:=h.len
 omega
theorem z98 {l:List Nat}(h:Q4 l):∀q∈(Qo least l).1,1<=q.2/\q.1+q.2<=65536:=λq e=>by
 obtain⟨i,hi⟩:=y3d.1 e
 have d:=(ZX _ 0 i q (VP least l 0 h.ris (λy _=>y00 _)) hi).1
 exact⟨d,zbd h.lt e d⟩
theorem z0U {p:Sr}(D:p.R1){x:Nat}(v:x<65536)(u:Q4 succ)(G:Q4 ref){r:Nat}(N:r<=p.PE):∀q∈S2 p x succ ref r,Yb p.zeta q:=by
 obtain⟨I,J,K,g4⟩:=id D
 have h:Q4 (PI succ ref):=u.sub y1Z
 intro q d
 unfold S2 at d
 have H:=u.len
 rcases y0l.1 d with e|d
 ·subst e;exact .inr (.inl ⟨O,by dsimp only;omega⟩)
 split at d
 ·cases d
 rcases y0u.1 d with d|d
 ·split at d
  ·rcases y0z.1 d with e;subst e;exact .inl ⟨O,by dsimp only;omega⟩
  ·cases d
 rcases y0u.1 d with d|d
 ·have A:=Tz succ ref;have C:=A.z1C;have M:=G.len;rw[y0k] at C;split at d
  ·rcases y0l.1 d with e|d
   ·subst e;exact .inr (.inl ⟨O,by dsimp only;omega⟩)
   ·refine z1S _ _ _ (λn l=>?_) q d;have:=A.le n (List.dropLast_subset _ l);rw[y0k] at this;omega
  ·cases d
 split at d
 ·cases d
 rcases y0u.1 d with d|d
 ·split at d
  ·rcases y0l.1 d with e|d
   ·subst e;have:=z4I (least:=p.interval) h;exact .inr (.inl ⟨O,by dsimp only;omega⟩)
   ·exact z0H _ _ _ v _ _ (λq d=>(z98 h q d).2) q d
  ·cases d
 ·exact z0I _ _ v _ _ (λn l=>h.lt n ((Vd p.interval _).subset l)) q d
def z6G (succ ref:List Nat)(e:Q4 ref):(RF succ ref).length<=65537:=by
 have d:=(Tz succ ref).z1C
 rw[y0k] at d
 have:=e.len
 omega
theorem z64 {p:Sr}{x:Nat}(h:Q4 succ)(e:Q4 ref){r:Nat}:(S2 p x succ ref r).length<=500000:=by
 have d:Q4 (PI succ ref):=h.sub y1Z
 have u:=z6G succ ref e
 have v:=z4I (least:=p.interval) d
 have A:=(d.sub (Vd p.interval (PI succ ref))).len
 unfold S2
 rw[y01]
 split
 ·simp
 rw[Pe,Pe]
 have l:(if 0<p.PE then [(Cd.unary,r)] else []).length<=1:=by split<;>simp
 have n:(if 0<r then(Cd.gamma,(RF succ ref).length-1)::QN 0 (RF succ ref).dropLast else []).length<=65537:=by
  split
  ·rw[y01,Tx,y2p];omega
  ·simp
 have q:(if PI succ ref=[] then [] else(if 0<p.interval then(Cd.gamma,(Qo p.interval (PI succ ref)).1.length)::Qd x p.interval none (Qo p.interval (PI succ ref)).1 else [])++Qg x p.zeta none (Qo p.interval (PI succ ref)).2).length<=200000:=by
  split
  ·simp
  ·rw[Pe,TM];split
   ·rw[y01,SQ];omega
   ·simp;omega
 omega
def Yb.R1 {q:Cd×Nat}(h:Yb k q)(d:1<=k/\k<=16):q.1.R1/\q.2<=q.1.most:=by
 rcases h with⟨e,h⟩|⟨e,h⟩|⟨e,h⟩
 ·rw[e];exact⟨trivial,by simp only[Cd.most];omega⟩
 ·rw[e];exact⟨trivial,by simp only[Cd.most];omega⟩
 ·rw[e];exact⟨d,by simp only[Cd.most];omega⟩
def z41 {c:Cd}{v:Nat}(d:c.R1)(e:v<=c.most):(c.enc v).length<=65600:=by
 obtain⟨h,l,-⟩:=XP d e
 rw[XQ];omega
theorem zbC {L:List (Cd×Nat)}(h:∀q∈L,q.1.R1/\q.2<=q.1.most):(PD L).length<=65600*L.length:=by
 induction L with
 |nil=>simp[PD]
 | cons q L r =>
   have u:=r (λq n=>h q (y0s _ n));obtain⟨d,e⟩:=h q y0p;have l:=z41 d e;obtain⟨c,v⟩:=q;rw[Qv,Pe,y01];dsimp only at l⊢;omega
theorem SX (a b:List (Cd×Nat)):PD (a++b)=PD a++PD b:=y2m
theorem Yv (l:List (Cd×Nat))(q:Cd×Nat):PD (l++[q])=PD l++q.1.enc q.2:=by
 rw[SX];simp[PD]
/-! ### An element of a slice of structs -/
theorem z1s {α:Type}{f:α->List Value}(d:∀a,(f a).length=k){n cap:Nat}{R:List α}{q:α}(h:Rd w (.slice (some ⟨b,off,none⟩) n cap) k n (R.flatMap f))(G:R[i]? =some q):∀j u,(f q)[j]? =some u->w.cell? ⟨b,off+i*k+j,none⟩=some u:=by
 intro j u v
 have J:j<k:=by have:=(y0m.1 v).1;rwa [d] at this
 have key:∀(R:List α)(i:Nat),R[i]? =some q->(R.flatMap f)[i*k+j]? =some u:=by
  intro R
  induction R with
  |nil=>intro i h;simp at h
  | cons a R H =>
    intro i h;rw[y16]
    cases i with
    | zero =>
      rw[y1v] at h;cases h;rw[y0C (by rw[d];omega),y20,y09]
      exact v
    | succ i =>
      rw[y0W (by rw[d,y0G];omega),d,show(i+1)*k+j-k=i*k+j by rw[y0G];omega];exact H i h
 have x:=key R i G
 have C:=(y0m.1 x).1
 rcases h.2 with⟨c,r,D⟩|⟨I,A,l,e,r⟩
 ·rw[h.1,D,y20] at C;omega
 ·cases e;have:=r (i*k+j) u x;rw[show off+i*k+j=off+(i*k+j) by omega];exact this
theorem z4V (q:Cd×Nat):(z6Q q).length=3:=by
 obtain⟨c,v⟩:=q
 cases c<;>rfl
theorem Wg (p:Sr)(D:p.R1)(x:Nat)(Q:x<65536){rc:Nat}(succ ref:List Nat)(H:Q4 succ)(G:Q4 ref)(r:Nat)(S:r<=p.PE)(o:r=0->ref=[])
  (hG:Pm w 1 (SI .gamma) 314) (hU:Pm w 2 (SI .unary) 314) (b:Rd w (.slice sa succ.length sc) 1 succ.length (succ.map PX)) (s:Rd w (.slice ra ref.length rc) 1 ref.length (ref.map PX)) (ge:succ.length<=sc) (nE:ref.length<=rc):
  PN prog 161 [I (x:Int),.slice sa succ.length sc,.slice ra ref.length rc,I (r:Int),lpV p] w λu w'=>u= .tuple #[I ((PD (S2 p x succ ref r)).length:Int),I 0]/\Ext w w':=by
 obtain⟨g1,g2,g3,g4⟩:=id D
 have K:=λq d=>(z0U D Q H G S q d).R1 ⟨g3,g4⟩
 have fM:=z64 (p:=p) (x:=x) (r:=r) H G
 refine py (e:=[(0,_),(1,_),(2,_),(3,_),(4,_)]) func161 O ntmps161 O O<|qN O<|Pb O O (RP O (cs:=lpC p) O) ?_
 rintro _ w1⟨b9,rfl,mO,J,l⟩
 replace l:Pm w1 b9 [I (p.PE:Int),I (p.interval:Int),I (p.zeta:Int)] 276:=l
 refine QS O<|OY<|qN O<|qV (PO (news:=lpC p) Xf O UA O (l.cells (n:=3) O) O)<|PB O<|PB O<|Px zi3 O (zbn p D x Q _ _ succ ref r H G S o w1 (b.ext J) (s.ext J)) ?_
 rintro _ w2⟨rfl,a⟩
 refine qV (SD O)<|QC O<|Re O<|OY<|qN O<|qV (PO (news:=lpC p) Xf O UA O ((a.OZ l).cells (n:=3) O) O) ?_
 have h:=J.trans a
 refine PB O<|PB O<|Px zfO O (Z3 p D x Q succ ref H G r S o (h.OZ hG) (h.OZ hU) (b.ext h) (s.ext h) ge nE) ?_
 rintro v w3⟨A,qi,T⟩
 have R:=h.trans T
 generalize S2 p x succ ref r=L at K fM A
 obtain⟨t,B,rfl,-⟩:=A.rd.shape
 refine RQ z1D O<|Ph O<|P4<|P6<|RX (α:=Nat) (0) (λi=>[(12,I ((PD (L.take i)).length:Int)),(29,.slice t L.length B),(30,I (L.length:Int)),(31,I (i:Int))]) (λi w'=>Ext w3 w'/\i<=L.length) (λi=>L.length-i) ?hI ?hround
 case hI=>exact⟨Ext.refl _,y00 _⟩
 case hround=>
  rintro i w4⟨M,hi⟩ ih
  try dsimp only
  refine qN O<|QY O<|P4<|OY<|Pn O (λj=>?_)<|λj=>?_
  ·have dw:i<L.length:=ω
   obtain⟨⟨c,v⟩,d⟩:∃q,L[i]? =some q:=⟨_,y03 dw⟩;obtain⟨Y,U⟩:=K _ (y0j d);dsimp only at Y U
   obtain⟨g,c5,e4⟩:∃g c,Value.slice t L.length B= .slice (some ⟨g,0,none⟩) L.length c:=by
    rcases A.shape with⟨-,j⟩|⟨g,c,e,hc⟩
    ·omega
    ·exact⟨g,c,e⟩
   cases e4;have m:=z1s z4V (A.ext M).rd d;obtain⟨y,z,V⟩:∃y z,SI c=[y,z]:=by cases c<;>exact⟨_,_,O⟩
   have oY:cdV c= .agg [y,z].toArray:=by rw[cdV,V]
   have jy:z6Q (c,v)=[y,z,Pt v]:=by show SI c++_=_;rw[V];rfl
   rw[jy] at m;have f:=z5g c v Y U;rw[oY] at f;have E:oneV y=true/\oneV z=true:=by cases c<;>(cases V;exact⟨O,O⟩)
   have fJ:=zbC (L:=L.take i) (λq d=>K q (y0Z d));rw[y0d] at fJ;have oQ:=z41 Y U;refine P5 (R0 (qN O (qV (Qc z1D VZ O O ω) (qV (PO (news:=[y,z,Pt v]) zcx O VZ O m O) (Pb O O (S5 (cs:=[_,_,_]) VZ O) ?_)))));rintro _ w5⟨N,rfl,nP,Z,cu⟩;refine Po O (Qh (news:=[y,z,Pt v]) VZ O O (by simp[E.1,E.2];rfl) O cu ξ) ?_;rintro W⟨C,F⟩;replace C:Pm W N [y,z,Pt v] 316:=C;have z5:=Z.size;have P:Ext w4 W:=Z.It F (λk e=>ω);refine qM O<|Pr z9k O<|qV (PO (news:=[y,z]) St O Rh O (C.cells (n:=2) O) O)<|Pr z96 O<|qV (Pl RW O O C O)<|Px zfY O (f W) ?_;rintro _ w7⟨rfl,X⟩;refine Ph O<|Ta O<|QS O<|Pc O<|PB O<|Qj O<|Pq O<|An<|Pc O<|Qj O<|Ph O<|P4 ?_;rw[show((PD (L.take i)).length:Int)+((c.enc v).length:Int)=((PD (L.take (i+1))).length:Int) by rw[Qa d,Yv,Pe];dsimp only;omega];exact(ih (i+1) _ ⟨(M.trans P).trans X,ω⟩ ω).qb
  ·have df:i=L.length:=ω
   rw[df,y0F];refine Pf O<|PL O<|QS O<|P3 func161 O ?_;exact⟨_,O,O,R.trans M⟩
theorem z0A (h:Za w wp bs F)(p:Sr)(K:p.R1)(x:Nat)(U:x<65536){rc:Nat}(succ ref:List Nat)(N:Q4 succ)(M:Q4 ref)(r:Nat)(V:r<=p.PE)(R:r=0->ref=[])
  (B:Pm w 1 (SI .gamma) 314) (E:Pm w 2 (SI .unary) 314) (o:Rd w (.slice sa succ.length sc) 1 succ.length (succ.map PX)) (T:Rd w (.slice ra ref.length rc) 1 ref.length (ref.map PX)) (s:succ.length<=sc) (nE:ref.length<=rc)
  (hl:bs.length+(PD (S2 p x succ ref r)).length<=134217728):
  PN prog 165 [ptr wp 0,I (x:Int),.slice sa succ.length sc,.slice ra ref.length rc,I (r:Int),lpV p] w λu w'=>u=I 0/\WrR wp F w w' (bs++PD (S2 p x succ ref r)):=by
 obtain⟨g1,g2,g3,g4⟩:=id K
 have m:=λq A=>(z0U K U N M V q A).R1 ⟨g3,g4⟩
 have fM:=z64 (p:=p) (x:=x) (r:=r) N M
 refine py (e:=[(0,_),(1,_),(2,_),(3,_),(4,_),(5,_)]) func165 O ntmps165 O O<|qN O<|Pb O O (RP O (cs:=lpC p) O) ?_
 rintro _ w1⟨b9,rfl,mO,C,G⟩
 replace G:Pm w1 b9 [I (p.PE:Int),I (p.interval:Int),I (p.zeta:Int)] 276:=G
 refine Pq O<|Qi O<|qV (Qz z2M O O)<|QC O<|QG O<|PB O<|qV (PO (news:=lpC p) Xf O UA O (G.cells (n:=3) O) O)<|Px z5H O (Wg p K x U succ ref N M r V R (C.OZ B) (C.OZ E) (o.ext C) (T.ext C) s nE) ?_
 rintro _ w2⟨rfl,f⟩
 have l:=C.trans f
 have h2:=h.ext l
 refine Ph O<|Ta O<|QS O<|R0<|PL O<|R5 O<|Pq O<|P9 O<|QG O<|Px z3h O (We h2) ?_
 rintro _ w2⟨rfl,rfl⟩
 refine RR O<|R8 O<|Pq O<|PM.qb (e:=[(0,_),(1,_),(2,_),(3,_),(4,_),(11,_),(12,_),(32,_)]) ?_
 refine Pn O (λe0=>?_)<|λe0=>?_
 ·omega
 ·refine P5<|An<|OY<|qN O<|qV (PO (news:=lpC p) Xf O UA O ((f.OZ G).cells (n:=3) O) O)<|PB O<|PB O<|Px zfO O (Z3 p K x U succ ref N M r V R (l.OZ B) (l.OZ E) (o.ext l) (T.ext l) s nE) ?_;rintro v w3⟨H,qi,j⟩;have b:=l.trans j;have h3:=h.ext b;have a0:=l.size;have z3:=j.size;have jQ:∀k,F k->k<w.heap.size:=λk d=>h.lt d
  generalize S2 p x succ ref r=L at m fM H hl
  obtain⟨va,vc,rfl,-⟩:=H.rd.shape;refine RQ z1D O<|Ph O<|P4<|P6<|RX (α:=Nat) (0) (λi=>[(0,ptr wp 0),(43,.slice va L.length vc),(44,I (L.length:Int)),(45,I (i:Int))]) (λi w'=>WrR wp F w3 w' (bs++PD (L.take i))/\i<=L.length) (λi=>L.length-i) ?hI ?hround
  case hI=>exact⟨⟨F,by simpa[PD] using h3,Kp.refl _ _,λk d=> .inl d⟩,y00 _⟩
  case hround=>
   rintro i w4⟨⟨F4,W,D,Y⟩,hi⟩ ih
   try dsimp only
   refine qN O<|QY O<|P4<|OY<|Pn O (λt=>?_)<|λt=>?_
   ·have dw:i<L.length:=ω
    obtain⟨⟨c,v⟩,A⟩:∃q,L[i]? =some q:=⟨_,y03 dw⟩;obtain⟨wI,mW⟩:=m _ (y0j A);dsimp only at wI mW
    obtain⟨g,c5,e4⟩:∃g c,Value.slice va L.length vc= .slice (some ⟨g,0,none⟩) L.length c:=by
     rcases H.shape with⟨-,t⟩|⟨g,c,e,hc⟩
     ·omega
     ·exact⟨g,c,e⟩
    cases e4;have ee:=H.kp D (λg hg e=>by have:=qi g hg;have:=jQ g e;omega);have P:=z1s z4V ee.rd A;obtain⟨y,z,Z⟩:∃y z,SI c=[y,z]:=by cases c<;>exact⟨_,_,O⟩
    have oY:cdV c= .agg [y,z].toArray:=by rw[cdV,Z]
    have jy:z6Q (c,v)=[y,z,Pt v]:=by show SI c++_=_;rw[Z];rfl
    rw[jy] at P;have xZ:oneV y=true/\oneV z=true:=by cases c<;>(cases Z;exact⟨O,O⟩)
    refine P5 (R0 (qN O (qV (Qc z1D VZ O O ω) (qV (PO (news:=[y,z,Pt v]) zcx O VZ O P O) (Pb O O (S5 (cs:=[_,_,_]) VZ O) ?_)))));rintro _ w5⟨S,rfl,nP,a,cu⟩;refine Po O (Qh (news:=[y,z,Pt v]) VZ O O (by simp[xZ.1,xZ.2];rfl) O cu ξ) ?_;rintro w6⟨J,aG⟩;replace J:Pm w6 S [y,z,Pt v] 316:=J;have z5:=a.size;have Q:Ext w4 w6:=a.It aG (λk e=>ω);have z6:=Q.size;have z4:=D.size
    have im:(bs++PD (L.take i)).length+(c.enc v).length<=134217728:=by
     have e1:(PD L).length=(PD (L.take i)).length+(c.enc v).length+(PD (L.drop (i+1))).length:=by
      conv=>lhs;rw[<-y1c (i+1) L,SX,Qa A,Yv]
      rw[Pe,Pe]
     rw[Pe];omega
    have X:=zcP (W.ext Q) c v wI mW im;rw[oY] at X;refine P4<|Ra O<|Pr z9k O<|qV (PO (news:=[y,z]) St O Rh O (J.cells (n:=2) O) O)<|Pr z96 O<|qV (Pl RW O O J O)<|Px zkj O X ?_;rintro _ w7⟨rfl,F7,oV,av,oW⟩;refine P4<|An<|Pc O<|Qj O<|Ph O<|P4 ((ih (i+1) _ ⟨⟨F7,?_,(D.trans Q.kp).It av (λk d=>(Y k d).symm),λk d=>?_⟩,ω⟩ ω).qb)
    ·rw[Qa A,Yv,<-y05];exact oV
    ·rcases oW k d with e| e
     ·exact Y k e
     ·exact .inr ω
   ·have df:i=L.length:=ω
    rw[df,y0F] at W;refine Pf O<|Re O<|P3 func165 O ?_;exact⟨_,O,O,F4,W,b.kp.trans D,λk d=>by rcases Y k d with e|e;exact .inl e;exact .inr ω⟩
def Yj (succ ref:List Nat)(r:Nat):List (Cd×Nat):=if 0<r then(.gamma,(RF succ ref).length-1)::QN 0 (RF succ ref).dropLast else []
def z8D (p:Sr)(x:Nat)(succ ref:List Nat):List (Cd×Nat):=
 if PI succ ref=[] then [] else(if 0<p.interval then(.gamma,(Qo p.interval (PI succ ref)).1.length)::Qd x p.interval none (Qo p.interval (PI succ ref)).1 else [])++Qg x p.zeta none (Qo p.interval (PI succ ref)).2
def UZ (p:Sr)(x:Nat)(succ ref:List Nat)(r:Nat):List (Cd×Nat):=Yj succ ref r++z8D p x succ ref
def z1R (p:Sr)(x:Nat)(r:Nat)(d:succ≠[]):S2 p x succ ref r=R4 p succ.length r++UZ p x succ ref r:=by
 unfold S2 R4 UZ Yj z8D
 rw[if_neg d,if_neg (λe=>d (y0t e)),y0q]
def z8O (p:Sr)(x:Nat)(l:List Nat):List (Cd×Nat):=if 0<p.interval/\l≠[] then(.gamma,(Qo p.interval l).1.length)::Qd x p.interval none (Qo p.interval l).1 else []
theorem z5W (p:Sr)(x:Nat)(succ ref:List Nat):z8D p x succ ref=z8O p x (PI succ ref)++Qg x p.zeta none (Qo p.interval (PI succ ref)).2:=by
 unfold z8D z8O
 by_cases e:PI succ ref=[]
 ·rw[if_pos e,if_neg (λh=>h.2 e),e,Qo];rfl
 ·rw[if_neg e];by_cases d:0<p.interval
  ·rw[if_pos d,if_pos ⟨d,e⟩]
  ·rw[if_neg d,if_neg (λh=>d h.1)]
structure TlI (w:World)(t r:Nat)(s:P8)(b7 b9:Nat)(n q:Nat)(p:Sr)(O_:List Nat)(v:Value)(a:Nat)(w':World):Prop where
 tk:TkM w' t r s a
 kp:Kp (λk=>k=t\/k=r) w w'
 sl:Sl w' v 42 1 O_.length (O_.map PX)
 fr:∀g,v.ownBlock=some g->w.heap.size<=g
 c7:Pm w' b7 [I (n:Int),I (q:Int)] 303
 c9:Pm w' b9 [I (p.PE:Int),I (p.interval:Int),I (p.zeta:Int)] 276
 n7:w.heap.size<=b7
 n9:w.heap.size<=b9
 v7:v.ownBlock≠some b7
 v9:v.ownBlock≠some b9
theorem z3y (l:List Nat):∀c∈l.map PX,c.oneCell'=true:=λc d=>by
 obtain⟨y,-,rfl⟩:=y0h.1 d
 rfl
def TlI.app {w1 C:World}{t r:Nat}{n q:Nat}{p:Sr}{u M:List Nat}{v A:Value}{a2:Nat}(h:TlI w t r s b7 b9 n q p u v a w1)(ht:t<w.heap.size)(J:r<w.heap.size)
  (d:Kp (λk=>k=t\/k=r) w1 w2) (x:TkM w2 t r s a2) (I:Sl C A 42 1 (u.length+M.length) (u.map PX++M.map PX)) (l:Kp (λk=>v.ownBlock=some k) w2 C) (G:∀g,A.ownBlock=some g->v.ownBlock=some g\/w2.heap.size<=g):
  TlI w t r s b7 b9 n q p (u++M) A a2 C:=by
 have Q:=h.kp.size
 have S:=d.size
 have N:=h.c7.lt
 have O:=h.c9.lt
 have n7:=h.n7
 have n9:=h.n9
 have H:∀k,k<w.heap.size->¬v.ownBlock=some k:=λk d e=>by have:=h.fr k e;omega
 have D:∀k,k<w1.heap.size->v.ownBlock≠some k->A.ownBlock≠some k:=λk d K e=>by
  rcases G k e with e| e
  ·exact K e
  ·omega
 refine⟨⟨l.OZ x.OZ (H t ht),⟨l.OZ x.rd.1 (H r J),x.rd.2⟩,x.ne⟩,(h.kp.trans d).It l (λk d=> .inl (h.fr k d)),by rw[Pe,y0f];exact I,λg hg=>?_,l.OZ (d.OZ h.c7 (λe=>ω)) h.v7,l.OZ (d.OZ h.c9 (λe=>ω)) h.v9,n7,n9,D _ N h.v7,D _ O h.v9⟩
 rcases G g hg with e| e
 ·exact h.fr g e
 ·omega
theorem z9G {t r:Nat}(h:TkM w t r s a)(hG:Pm w 1 (SI .gamma) 314)(F:¬1=r)(nv:¬1=t)(p:Sr)(hp:p.R1)(x:Nat)(hx:x<65536)(succ ref:List Nat)(c:Q4 succ)(bA:succ≠[])(jk:succ.length<50)(iB:Q4 ref)
  (q:Nat) (hq:q<=p.PE) (nw:q=0->ref=[]) (et:∀w2,Kp (λk=>k=r) w w2->Rd w2 (.slice sa ref.length sc) 1 ref.length (ref.map PX)) (ff:ref.length<=sc) (rest:List Bool) (D:(PA s).drop a=PD (UZ p x succ ref q)++rest):
  PN prog 213 [ptr t 0,I (x:Int),.agg #[I (succ.length:Int),I (q:Int)],.slice sa ref.length sc,lpV p] w λu w'=>Sl w' u 42 1 succ.length (succ.map PX)/\(∀g,u.ownBlock=some g->w.heap.size<=g)/\
   TkM w' t r s (a+(PD (UZ p x succ ref q)).length)/\Kp (λk=>k=t\/k=r) w w':=by
 obtain⟨g1,g2,g3,g4⟩:=id hp
 have H:=h.OZ.lt
 have G:=h.rd.1.lt
 have T:=z7F c.ris iB.ris p.interval
 have rW:=T.length_eq
 rw[Pe,Pe] at rW
 have B:Q4 (PI succ ref):=c.sub y1Z
 have KJ:=(Ud p.interval (PI succ ref)).length_eq
 rw[Pe] at KJ
 unfold UZ at D⊢
 rw[SX,y05] at D
 rw[SX,Pe]
 refine py (e:=[(0,_),(1,_),(2,_),(3,_),(4,_)]) func213 O ntmps213 O O<|qN O<|Pb O O (RP O (cs:=[I (succ.length:Int),I (q:Int)]) O) ?_
 rintro _ w1⟨b7,rfl,kR,ad,bE⟩
 refine Pb O O (RP O (cs:=lpC p) O) ?_
 rintro _ w2⟨b9,rfl,mO,j,U⟩
 replace U:Pm w2 b9 [I (p.PE:Int),I (p.interval:Int),I (p.zeta:Int)] 276:=U
 have z1:=ad.size
 have z2:=j.size
 have J:=ad.trans j
 have Z:=j.OZ bE
 refine Ro O<|Pq O<|OY<|qN O<|Pr T0 O<|qV (Pl U3 O O Z O)<|R8 O<|P4<|Qf (λn w'=>∃d,n=[(0,ptr t 0),(1,I (x:Int)),(7,ptr b7 0),(9,ptr b9 0),(11,d)]/\TlI w t r s b7 b9 succ.length q p (ref.filter λy=>decide (y∈succ)) d (a+(PD (Yj succ ref q)).length) w') ?bI<|λbI=>?cZ
 case bI =>
  rintro n w3⟨d,rfl,v⟩;have K:=SL D;obtain⟨va,vc,rfl,-⟩:=v.sl.rd.shape;have tX:=v.c7;have E:=v.c9;have Dq:=v.tk.OZ;refine OY<|qN O<|Pr TR O<|qV (Pl U3 O O tX O)<|Ph O<|RQ PS O<|RR O ?_;rw[show(succ.length:Int)-((ref.filter λy=>decide (y∈succ)).length:Int)=((PI succ ref).length:Int) by omega]
  generalize Ob:(a+(PD (Yj succ ref q)).length)=a3 at v K
  rw[z5W,SX,y05] at K;rw[z5W,SX,Pe];have KK:p.interval=0->(Qo p.interval (PI succ ref)).1=[]:=λe=>by rw[e];exact YE _
  have KL:PI succ ref=[]->Qo p.interval (PI succ ref)=([],[]):=λe=>by rw[e,Qo]
  have qd:=VP p.interval (PI succ ref) 0 B.ris (λy _=>y00 _);have tP:=λy hy=>(z98 (least:=p.interval) B y hy).2
  have Im:(Qo p.interval (PI succ ref)).1.length<=(Rm (Qo p.interval (PI succ ref)).1).length:=by
   have key:∀(R:List (Nat×Nat)) (lo:Nat),Tp p.interval lo R->R.length<=(Rm R).length:=by
    intro R
    induction R with
    |nil=>intro lo h;exact y02 _
    | cons z R ih =>
      intro lo h;have A:=ih _ h.2.2.2;have h6:1<=z.2:=h.2.1;rw[show Rm (z::R)=(List.range z.2).map (z.1+·)++Rm R from rfl,Pe,y0k,y14,y01];omega
   exact key _ 0 qd
  have Dr:Q4 (Qo p.interval (PI succ ref)).2:=B.sub (Vd p.interval _)
  generalize (ref.filter λy=>decide (y∈succ))=O1 at v T rW
  have S:z8O p x (PI succ ref)=if 0<p.interval/\PI succ ref≠[] then(.gamma,(Qo p.interval (PI succ ref)).1.length)::Qd x p.interval none (Qo p.interval (PI succ ref)).1 else []:=rfl
  generalize z8O p x (PI succ ref)=LT at K S
  generalize Qo p.interval (PI succ ref)=Q at*
  generalize PI succ ref=L1 at*
  have Br:L1=[]↔L1.length=0:=⟨λe=>by rw[e];rfl,y0t⟩;have fR:=c.len;refine Pq O<|OY<|Qf (λn w'=>∃s1:Bool,n=[(0,ptr t 0),(1,I (x:Int)),(7,ptr b7 0),(9,ptr b9 0),(11,.slice va O1.length vc),(12,I (L1.length:Int)),(38,.bool s1)]/\w'=w3/\(s1=true↔0<p.interval/\L1≠[])) ?cY<|λcY=>?gm
  case cY =>
   rintro n w4⟨s1,rfl,rfl,dU⟩;refine Qf (λn w'=>∃d,n=[(0,ptr t 0),(1,I (x:Int)),(7,ptr b7 0),(9,ptr b9 0),(11,d)]/\TlI w t r s b7 b9 succ.length q p (O1++Rm Q.1) d (a3+(PD LT).length) w') ?aw<|λaw=>?er
   case aw =>
    rintro n f⟨v5,rfl,A⟩;have gp:=SL K;obtain⟨a0,a1,rfl,-⟩:=A.sl.rd.shape;have m9:=A.c7;have ma:=A.c9;have Dt:=A.tk.OZ;have In:(O1++Rm Q.1).length=O1.length+(Rm Q.1).length:=Pe;refine OY<|qN O<|Pr TR O<|qV (Pl U3 O O m9 O)<|Ph O<|RQ PS O<|RR O ?_;rw[show(succ.length:Int)-((O1++Rm Q.1).length:Int)=(Q.2.length:Int) by omega];refine Pq O<|OY<|Qf (λn w'=>∃s2:Bool,n=[(0,ptr t 0),(1,I (x:Int)),(7,ptr b7 0),(9,ptr b9 0),(11,.slice a0 (O1++Rm Q.1).length a1),(13,I (Q.2.length:Int)),(60,.bool s2)]/\w'=f/\(s2=true↔0<Q.2.length)) ?cf<|λcf=>?nD
    case cf=>
     rintro n w6⟨s2,rfl,rfl,dr⟩;refine Qf (λn w'=>∃d,n=[(0,ptr t 0),(11,d)]/\TlI w t r s b7 b9 succ.length q p (O1++Rm Q.1++Q.2) d (a3+(PD LT).length+(PD (Qg x p.zeta none Q.2)).length) w') ?jG<|λjG=>?tN
     case jG=>
      rintro n w7⟨v7,rfl,C⟩;have rX:(O1++Rm Q.1++Q.2).length=succ.length:=by rw[Pe,In];omega
      have KM:0<succ.length:=List.length_pos_iff.2 bA;refine PL O (Px zjA O (zba C.sl (λe=>by rw[e] at rX;simp at rX;omega) ω) ?_);rintro _ w8⟨rfl,i,l',KN,y5,eC⟩;have KO:l'=succ:=z6X ((KN.trans (by rw[y05])).trans T) y5 c.ris;rw[KO] at eC;refine qM O<|Ph O<|Pq O<|P3 func213 O ?_;have e9:a+((PD (Yj succ ref q)).length+((PD LT).length+(PD (Qg x p.zeta none Q.2)).length))=a3+(PD LT).length+(PD (Qg x p.zeta none Q.2)).length:=ω
      rw[e9];have y4:∀k,k<w.heap.size->¬v7.ownBlock=some k:=λk hk e=>by have:=C.fr k e;omega
      refine⟨_,O,eC,C.fr,⟨i.OZ C.tk.OZ (y4 t H),⟨i.OZ C.tk.rd.1 (y4 r G),C.tk.rd.2⟩,C.tk.ne⟩,C.kp.It i (λk hk=> .inl (C.fr k hk))⟩
     case tN=>
      refine QF O (λV=>?_)<|λV=>?_
      ·refine Pc O (PB O (PB O (Pr z0V O (qV (Pl U3 O O ma O) (qV (QH O U3 RW ω) (qV (T3 (cs:=[_,_]) Rh O zfW O O) (Px zjL O (z6v A.tk x p.zeta hx ⟨g3,g4⟩ Q.2 Dr _ gp) ?_)))))));rintro u6 w6⟨g9,nh,xG,aG⟩;have Du:=A.sl.kp aG (λg hg e=>by have:=A.fr g hg;omega);refine Pb O O (pap PS Py O ψ O O Du g9.rd (z3y _) ω (by simp only[maxLen];omega)) ?_;rintro v7 w7⟨gZ,av,KP,-⟩;have C:=A.app H G aG xG gZ av KP;refine Pq O ?_;exact(jG _ _ ⟨v7,O,C⟩).qb
      ·have fP:Q.2=[]:=y0t (by
        rcases y0y Q.2.length with e| e
        ·exact e
        ·rw[dr.2 e] at V;cases V)
       refine P5 ((jG _ _ ⟨_,O,?_⟩).qb);rw[fP,y0o,show(PD (Qg x p.zeta none [])).length=0 from rfl,y1e];exact A
    case nD=>
     rcases y0y Q.2.length with M|M
     ·refine Ra O<|R8 O<|Qb<|Ph O<|QV<|QV<|qS<|Ql O<|P4 ?_;exact(cf _ _ ⟨false,O,O,by simp[M]⟩).qb
     ·refine Ra O<|R8 O<|RO<|PB O<|PQ O<|Pr Uk O<|qV (Pl U4 O O Dt O)<|qV (SD O)<|Rr O<|P4 ?_;exact(cf _ _ ⟨true,O,O,by simp[M]⟩).qb
   case er=>
    refine QF O (λb=>?_)<|λb=>?_
    ·obtain⟨tf,Y⟩:=dU.1 b;rw[if_pos ⟨tf,Y⟩] at S;refine Pc O<|PB O<|PB O<|Pr UJ O<|qV (Pl U3 O O E O) ?_;rw[S] at K;refine Px zjP O (z9D v.tk (v.kp.OZ hG (λe=>by rcases e with e|e;exact nv e;exact F e)) F nv x L1.length p.interval hx ω ω Q.1 qd tP ω ω _ K) ?_;rintro u4 w4⟨ee,pY,y6,ar⟩;have Dv:=v.sl.kp ar (λg hg e=>by have:=v.fr g hg;omega);have Oc:=ee.rd;have KQ:O1.length<=65536:=ω
     refine Pb O O (pap PS Py O ψ O O Dv ee.rd (z3y _) ω (by simp only[maxLen];omega)) ?_;rintro v5 f⟨fD,ai,KR,-⟩;have A:=v.app H G ar y6 fD ai KR;refine Pq O ((aw _ _ ⟨v5,O,?_⟩).qb);rw[S];exact A
    ·have Y:¬(0<p.interval/\L1≠[]):=λe=>by rw[dU.2 e] at b;cases b
     have N:Q.1=[]:=by
      by_cases e:L1=[]
      ·rw[KL e]
      ·exact KK (by by_cases e2:0<p.interval;exact absurd ⟨e2,e⟩ Y;omega)
     rw[if_neg Y] at S;refine P5 ((aw _ _ ⟨_,O,?_⟩).qb);rw[N,S,show Rm []=[] from rfl,y0o,show(PD []).length=0 from rfl,y1e];exact v
  case gm=>
   rcases y0y L1.length with M|M
   ·refine Ra O<|R8 O<|Qb<|Ph O<|QV<|qS<|Ql O<|Ph O<|QV<|QV<|qS<|Ql O<|P4<|PM.qb (e:=[(0,_),(1,_),(7,_),(9,_),(11,_),(12,_),(38,_)]) ?_;exact(cY _ _ ⟨false,O,O,⟨λe=>(by cases e),λe=>absurd (Br.2 M) e.2⟩⟩).qb
   ·rcases y0y p.interval with na|na
    ·refine Ra O<|R8 O<|RO<|Ph O<|Pr UJ O<|qV (Pl U3 O O E O)<|R8 O<|Qb<|Rr O<|Ph O<|QV<|QV<|qS<|Ql O ?_;refine P4<|PM.qb (e:=[(0,_),(1,_),(7,_),(9,_),(11,_),(12,_),(38,_)]) ?_;exact(cY _ _ ⟨false,O,O,by simp[na]⟩).qb
    ·refine Ra O<|R8 O<|RO<|Ph O<|Pr UJ O<|qV (Pl U3 O O E O)<|R8 O<|RO<|Rr O<|PB O<|PQ O<|Pr Uk O<|qV (Pl U4 O O Dq O)<|qV (SD O) ?_;refine Rr O<|P4<|PM.qb (e:=[(0,_),(1,_),(7,_),(9,_),(11,_),(12,_),(38,_)]) ?_;exact(cY _ _ ⟨true,O,O,⟨λ_=>⟨na,λe=>(by have:=Br.1 e;omega)⟩,λ_=>rfl⟩⟩).qb
 case cZ=>
  refine Pn O (λh0=>?_)<|λh0=>?_
  ·have N:0<q:=ω
   have W:=Tz succ ref;have P:=W.z1C;rw[y0k] at P;have y7:=iB.len
   have y8:(RF succ ref).sum=ref.length:=by
    have:=congrArg List.length W.exp;rw[Te,y0k] at this;exact this
   have qk:=zb1 succ ref;rw[show Yj succ ref q=(.gamma,(RF succ ref).length-1)::QN 0 (RF succ ref).dropLast from if_pos N] at D;obtain⟨l,m,L⟩:∃l m,RF succ ref=l++[m]:=⟨_,_,(y2v W.ne).symm⟩;have ip:=W.pos;rw[L] at D y8 P ip;rw[L,y2g] at qk;rw[y2g,show(l++[m]).length-1=l.length by simp] at D;rw[y0Y] at y8;rw[Pe,y0S] at P;have V:=h.ext J
   have y9:∀X∈l.drop 1,1<=X:=λX nQ=>ip X (by
    cases l with
    |nil=>simp at nQ
    |cons a l=>rw[y0q,y2e,y13];rw[y2e,y13] at nQ;exact y1W _ nQ)
   refine Pc O (PB O (Px zjO O (z5a V (J.OZ hG) F ref l (λf k=>et f (J.kp.trans k)) ff y7 ω ω y9 _ D) ?_));rintro d w3⟨de,qi,ql,o⟩;refine Pq O ((bI _ _ ⟨d,O,?_⟩).qb);rw[qk] at de;rw[show Yj succ ref q=(.gamma,l.length)::QN 0 l by unfold Yj;rw[if_pos N,L,y2g,show(l++[m]).length-1=l.length by simp]];have a2:=Z.lt;have a4:=U.lt;exact⟨ql,J.kp.trans (o.Pk λk e=> .inr e),de,λg hg=>by have:=qi g hg;omega,o.OZ Z ω,o.OZ U ω,ω,ω,λe=>by have:=qi _ e;omega,λe=>by have:=qi _ e;omega⟩
  ·have N:q=0:=ω
   have Dw:=nw N;subst Dw;refine P5 ((bI _ _ ⟨.slice none 0 0,O,?_⟩).qb);rw[show Yj succ [] q=[] by unfold Yj;rw[if_neg ω]];exact⟨h.ext J,J.kp,Sl.nil _ _ _,(λg hg=>by cases hg),Z,U,ω,ω,(λe=>by cases e),(λe=>by cases e)⟩
def z5y {l b rest:List Bool}{n:Nat}(d:l.drop a=b++rest)(e:k+n<=b.length):(l.drop (a+k)).take n=(b.drop k).take n:=by
 rw[<-y0E,d,y1j ω,y1r (by rw[y07];omega)]
theorem z9E {r:Nat}(p:Sr)(hp:p.R1)(x:Nat)(hx:x<65536){la:Option Addr}{f rc:Nat}(succ ref:List Nat)(hs:Q4 succ)(X:succ≠[])(iB:Q4 ref)
  (q:Nat) (hq:q<=p.PE) (nw:q=0->ref=[]) (W:Pm w 1 (SI .gamma) 314) (Y:Pm w 2 (SI .unary) 314) (eE:Rd w (.slice la succ.length f) 1 succ.length (succ.map PX)) (lU:Rd w (.slice ra ref.length rc) 1 ref.length (ref.map PX)) (ge:succ.length<=f) (nE:ref.length<=rc)
  (hl:(PD (S2 p x succ ref q)).length<=134217728) (rest:List Bool) (hb:(PA s).drop a=PD (UZ p x succ ref q)++rest) (h:Ul w r s (a+(PD (UZ p x succ ref q)).length)):
  PN prog 214 [lpV p,ptr r 0,I (a:Int),I (x:Int),.agg #[I (succ.length:Int),I (q:Int)],.slice la succ.length f,.slice ra ref.length rc] w λu w'=>u= .bool true/\Ul w' r s (a+(PD (UZ p x succ ref q)).length)/\Kp (λk=>k=r) w w':=by
 have a4:=h.1.lt
 have a2:=W.lt
 have a3:=Y.lt
 have fR:=hs.len
 have nR:=z1R p x (ref:=ref) q X
 have BB:PD (S2 p x succ ref q)=PD (R4 p succ.length q)++PD (UZ p x succ ref q):=by rw[nR,SX]
 have fJ:(PD (S2 p x succ ref q)).length=(PD (R4 p succ.length q)).length+(PD (UZ p x succ ref q)).length:=by rw[nR,SX,Pe]
 generalize PD (UZ p x succ ref q)=TB at*
 have ph:succ.length≠0:=λe=>X (y0t e)
 refine py (e:=[(0,_),(1,_),(2,_),(3,_),(4,_),(5,_),(6,_)]) func214 O ntmps214 O O<|qN O<|Pb O O (RP O (cs:=lpC p) O) ?_
 rintro _ w1⟨b7,rfl,kR,R,bE⟩
 refine Pb O O (RP O (cs:=[I (succ.length:Int),I (q:Int)]) O) ?_
 rintro _ w2⟨a0,rfl,jb,Q,aZ⟩
 have J:=R.trans Q
 have z1:=R.size
 have z2:=Q.size
 have ev:=Q.OZ bE
 have U:Ul w2 r s (a+TB.length):=⟨J.OZ h.1,h.2⟩
 refine Rq O<|Px Zc O (UF U) ?_
 rintro _ w2⟨rfl,rfl⟩
 refine Ro O<|Px z1V O (V7 w2) ?_
 rintro _ w3⟨wp,F,rfl,mP,G,qm⟩
 have z3:=G.size
 have K:=J.trans G
 have lw:=G.OZ aZ
 have tX:=G.OZ ev
 refine Pq O<|OY<|QG O<|PB O<|Pr T0 O<|qV (Pl U3 O O lw O)<|qV (PO (news:=lpC p) Xf O UA O (tX.cells (n:=3) O) O)<|Px zfD O (z0A mP p hp x hx succ ref hs iB q hq nw (K.OZ W) (K.OZ Y) (eE.ext K) (lU.ext K) ge nE (by simpa using hl)) ?_
 rintro _ o⟨rfl,F4,M,T,pY⟩
 rw[y18] at M
 have z4:=T.size
 have cK:Ext w2 o:=G.It T qm
 refine R5 O<|QC O<|PL O<|Px z9m O (XE M) ?_
 rintro _ o⟨rfl,rfl⟩
 refine Ph O<|Ta O<|QS O<|PM.qb (e:=[(1,_),(2,_),(7,_),(14,_),(15,_),(16,_),(17,_)]) ?_
 refine PL O ?_
 have gT:(PJ (PD (S2 p x succ ref q))).length<=16777217:=by rw[PY];omega
 refine Px z8H O (Xs (PJ (PD (S2 p x succ ref q))) ω o) ?_
 rintro _ w5⟨v,rfl,ie,P,Od⟩
 have Z:=cK.trans P
 have bQ:=J.trans Z
 obtain⟨z,mY,na,Oe⟩:=SM (PD (S2 p x succ ref q))
 have y:(PA (PJ (PD (S2 p x succ ref q)))).drop 0=PD (R4 p succ.length q)++(TB++List.replicate z false):=by
  rw[mY,y13,BB,y05]
 refine Pq O<|Qi O<|qV (PO (news:=lpC p) Xf O UA O ((Z.OZ ev).cells (n:=3) O) O)<|Px zfv O (z3b ie p hp (bQ.OZ W) (bQ.OZ Y) ω ω succ.length q ω hq (λe=>absurd e ph) _ y) ?_
 rintro _ w6⟨rfl,S,E⟩
 rw[y09] at S
 have iD:Ext w2 w6:=Z.It E (λk e=>ω)
 have g:=SL y
 rw[y09] at g
 generalize (PJ (PD (S2 p x succ ref q)))=os at*
 have z6:=iD.size
 refine Ph O<|Ta O<|Pb O O (S5 (cs:=[_,_]) SH O) ?_
 rintro _ w7⟨a1,rfl,KS,cm,Dx⟩
 refine Po O (Qh (news:=[I (succ.length:Int),I (q:Int)]) SH O O O O Dx ξ) ?_
 rintro D⟨Io,aH⟩
 have b:Ext w6 D:=cm.It aH (λk e=>ω)
 have jl:=iD.trans b
 have V:Ul D r s (a+TB.length):=⟨jl.OZ U.1,U.2⟩
 have t:Ul D v os (PD (R4 p succ.length q)).length:=⟨b.OZ S.1,S.2⟩
 have pE:Za D wp (PD (S2 p x succ ref q)) F4:=((M.ext P).kp E (λi hi e=>by have:=M.lt hi;omega)).ext b
 refine Rq O<|R5 O<|PB O<|Px z3h O (We pE) ?_
 rintro _ D⟨rfl,rfl⟩
 refine Ph O<|Px Zc O (UF t) ?_
 rintro _ D⟨rfl,rfl⟩
 refine RR O ?_
 rw[show((PD (S2 p x succ ref q)).length:Int)-((PD (R4 p succ.length q)).length:Int)=(TB.length:Int) by omega]
 refine PB O<|RR O ?_
 rw[show((a+TB.length:Nat):Int)-(a:Int)=(TB.length:Int) by omega]
 refine R5 O<|Qb<|Ql O<|P4<|PM.qb (e:=[(1,_),(2,_),(14,_),(15,_),(19,_),(64,_)]) ?_
 refine Tj O<|QG O<|Px zbP O (ZU V a (by have:=V.2.1;omega)) ?_
 rintro _ w9⟨rfl,h9,L⟩
 have rJ:Ul w9 v os (PD (R4 p succ.length q)).length:=⟨L.OZ t.1 ω,t.2⟩
 refine P4<|R0<|RX (α:=Nat) (0) (λk=>[(1,ptr r 0),(15,I ((a+TB.length:Nat):Int)),(19,ptr v 0)]) (λk w'=>Ul w' r s (a+k)/\Ul w' v os ((PD (R4 p succ.length q)).length+k)/\Kp (λi=>i=r\/i=v) w9 w'/\k<=TB.length) (λk=>TB.length-k) ?hI ?hround
 case hI=>exact⟨h9,rJ,Kp.refl _ _,y00 _⟩
 case hround=>
  rintro k A⟨H,ya,B,Of⟩ ih
  try dsimp only
  refine Qi O<|Px Zc O (UF H) ?_;rintro _ A⟨rfl,rfl⟩;refine Ph O<|QY O<|P4<|Pn O (λh0=>?_)<|λh0=>?_
  ·refine P5<|P6<|QG O<|Px Zc O (UF H) ?_;rintro _ A⟨rfl,rfl⟩;refine RR O ?_;rw[show((a+TB.length:Nat):Int)-((a+k:Nat):Int)=((TB.length-k:Nat):Int) by omega];refine qV (ymi O O) ?_;rw[show min (64:Int) ((TB.length-k:Nat):Int)=((min 64 (TB.length-k):Nat):Int) by omega];obtain⟨n,hn,ci,jB,N⟩:∃n,min 64 (TB.length-k)=n/\1<=n/\n<=64/\k+n<=TB.length:=⟨_,O,ω,ω,ω⟩;rw[hn];have rY:=H.2.1;have fL:=z5y hb N;have kV:=z5y g N;have HW:a+TB.length<=8*s.length:=V.2.1
   have wm:(PD (R4 p succ.length q)).length+TB.length<=8*os.length:=by
    have e:=congrArg List.length g;rw[y07,bitsT_length,Pe] at e;omega
   refine Ro O<|PB O<|Px z4r O (Wf H n jB) ?_;rintro j l d
   have c:j= .tuple #[Pt (PZ (((PA s).drop (a+k)).take n)),I 0]/\Ul l r s (a+k+n)/\Kp (λk=>k=r) A l:=by
    rcases d with d|d
    ·exact d.2
    ·omega
   obtain⟨rfl,oU,bC⟩:=c;rw[fL];have Dz:Ul l v os ((PD (R4 p succ.length q)).length+k):=⟨bC.OZ ya.1 ω,ya.2⟩;refine Ph O<|Ta O<|SO O<|Ro O<|PB O<|Px z4r O (Wf Dz n jB) ?_;rintro m C d
   have c:m= .tuple #[Pt (PZ (((PA os).drop ((PD (R4 p succ.length q)).length+k)).take n)),I 0]/\Ul C v os ((PD (R4 p succ.length q)).length+k+n)/\Kp (λk=>k=v) l C:=by
    rcases d with d|d
    ·exact d.2
    ·omega
   obtain⟨rfl,DA,bu⟩:=c;rw[kV];have KT:Ul C r s (a+k+n):=⟨bu.OZ oU.1 ω,oU.2⟩;refine Ph O<|Ta O<|SO O<|Ro O<|PB O<|R5 O<|P4<|Pn O (λh1=>?_)<|λh1=>?_
   ·exact absurd O h1
   ·refine P5<|An ((ih (k+n) _ ⟨by rw[<-y1t];exact KT,by rw[<-y1t];exact DA,(B.trans (bC.Pk λi e=> .inl e)).trans (bu.Pk λi e=> .inr e),N⟩ ω).qb)
  ·have ly:k=TB.length:=ω
   subst ly;refine Pf O<|Re O<|P3 func214 O ?_;exact⟨_,O,O,H,((J.trans jl).kp.trans L).It B (λi hi=>by rcases hi with e|e;exact .inr e;exact .inl ω)⟩
theorem z0O {r:Nat}(h:Ul w r s a)(p:Sr)(M:p.R1)(x:Nat)(j:x<65536)(N:Nat)(hN:N<=65536){rc:Nat}(succ ref:List Nat)(Q:Q4 succ)(Y:succ≠[])(jk:succ.length<50)(DB:∀y∈succ,y<N)(S:Q4 ref)
  (q:Nat) (hq:q<=p.PE) (m:q=0->ref=[]) (f:Pm w 1 (SI .gamma) 314) (X:Pm w 2 (SI .unary) 314) (P:¬1=r) (dl:¬2=r) (Z:∀w2,Kp (λk=>k=r) w w2->Rd w2 (.slice ra ref.length rc) 1 ref.length (ref.map PX)) (nE:ref.length<=rc)
  (hl:(PD (S2 p x succ ref q)).length<=134217728) (rest:List Bool) (hb:(PA s).drop a=PD (UZ p x succ ref q)++rest):
  PN prog 186 [ptr r 0,I (x:Int),I (N:Int),.agg #[I (succ.length:Int),I (q:Int)],.slice ra ref.length rc,lpV p] w λu w'=>∃v,u= .tuple #[v,I 0]/\Sl w' v 42 1 succ.length (succ.map PX)/\(∀g,v.ownBlock=some g->w.heap.size<=g)/\Ul w' r s (a+(PD (UZ p x succ ref q)).length)/\Kp (λk=>k=r) w w':=by
 obtain⟨g1,g2,g3,g4⟩:=id M
 have a4:=h.1.lt
 have a0:=f.lt
 have a2:=X.lt
 have fR:=Q.len
 have ic:=S.len
 have ph:0<succ.length:=List.length_pos_iff.2 Y
 refine py (e:=[(0,_),(1,_),(2,_),(3,_),(4,_),(5,_)]) func186 O ntmps186 O O<|qN O<|Pb O O (RP O (cs:=[I (succ.length:Int),I (q:Int)]) O) ?_
 rintro _ w1⟨b9,rfl,mO,B,E⟩
 refine Pb O O (RP O (cs:=lpC p) O) ?_
 rintro _ w2⟨H,rfl,jb,V,G⟩
 replace G:Pm w2 H [I (p.PE:Int),I (p.interval:Int),I (p.zeta:Int)] 276:=G
 have z:=B.trans V
 have z1:=B.size
 have z2:=V.size
 have l:=V.OZ E
 have l9:=l.lt
 have a1:=G.lt
 have a3:=E.lt
 refine QS O<|OY<|Qf (λR w'=>R=[(0,ptr r 0),(1,I (x:Int)),(2,I (N:Int)),(4,.slice ra ref.length rc),(9,ptr b9 0),(11,ptr H 0)]/\Ext w2 w') ?mb<|λmb=>?DD
 case mb=>
  rintro R A⟨rfl,d⟩;have L:=z.trans d;have b:Ul A r s a:=⟨L.OZ h.1,h.2⟩;have F:=d.OZ l;have lw:=d.OZ G;have z3:=d.size;refine PL O<|Px Zc O (UF b) ?_;rintro _ A⟨rfl,rfl⟩;refine Rq O<|qV (T3 (cs:=[_,_]) ziW O zhl O O)<|Pb O O (RP O (cs:=[ptr r 0,.bool false]) O) ?_;rintro _ w4⟨tb,rfl,KU,C,KV⟩;have z4:=C.size;have J:=L.trans C;have h4:TkM w4 tb r s a:=⟨KV,⟨C.OZ b.1,b.2⟩,ω⟩;refine Ro O (PB O (qV (PO (news:=[I (succ.length:Int),I (q:Int)]) z2r O SH O ((C.OZ F).cells (n:=2) O) O) (Ph O (qV (PO (news:=lpC p) Xf O UA O ((C.OZ lw).cells (n:=3) O) O) (Px zhd O (z9G h4 (J.OZ f) P ω p M x j succ ref Q Y jk S q hq m (λw2 k=>Z w2 (J.kp.trans k)) nE rest hb) ?_)))));rintro v U⟨D,pZ,o,W⟩;have K:Kp (λk=>k=r) w U:=J.kp.It W (λi hi=>by rcases hi with e|e;exact .inl ω;exact .inr e);have ma:=W.OZ (C.OZ F) ω;have yb:=W.OZ (C.OZ lw) ω;have KW:=o.OZ;have KX:=K.OZ f P;have KY:=K.OZ X dl;have bM:=Z U K;have xl:∀g,v.ownBlock=some g->w.heap.size<=g:=λg hg=>by have:=pZ g hg;have:=J.size;omega
  obtain⟨va,vc,rfl,BD⟩:=D.rd.shape
  have DC:succ.length<=vc:=by
   rcases D.shape with⟨-,h0⟩|⟨g,c1,hv,eD⟩
   ·omega
   ·cases hv;exact eD
  refine Pq O<|Qi O<|PQ O<|Pr Uk O<|qV (Pl U4 O O KW O)<|PB O<|RQ PS O<|Pr TR O<|qV (Pl U3 O O ma O)<|R5 O<|Qb<|Ql O<|PB O<|Px z4R O (Xo _ succ Q U D.rd) ?_;rintro _ U⟨rfl,rfl⟩;refine qV (SD O)<|Ql O<|PB O<|RQ PS O<|Rx O<|Qb<|Ql O<|PB O<|Ph O<|RQ PS O<|RR O ?_;rw[show(succ.length:Int)-1=((succ.length-1:Nat):Int) by omega];obtain⟨y,hy⟩:∃y,succ[succ.length-1]? =some y:=⟨_,y03 ω⟩;have Og:=DB y (y0j hy)
  obtain⟨g5,c5,e5⟩:∃g c,Value.slice va succ.length vc= .slice (some ⟨g,0,none⟩) succ.length c:=by
   rcases D.shape with⟨-,h0⟩|⟨g,c,e,hc⟩
   ·omega
   ·exact⟨g,c,e⟩
  cases e5;refine qV (Qc PS Py O O ω) (qV (PG R9 O O (Qs D.rd (show(succ.map PX)[succ.length-1]? =some (PX y) by rw[y0i,hy];rfl))) ?_);refine qV (Q8 O R9 U3 ω)<|Ph O<|Uj O<|Qb<|Ql O<|Ph O<|qV (PO (news:=lpC p) Xf O UA O (yb.cells (n:=3) O) O)<|PB O<|Ph O<|qV (PO (news:=[I (succ.length:Int),I (q:Int)]) z2r O SH O (ma.cells (n:=2) O) O)<|PB O<|Px zjq O (z9E p M x j succ ref Q Y S q hq m KX KY D.rd bM DC nE hl rest hb o.rd) ?_;rintro _ w6⟨rfl,h6,t⟩;refine qV (SD O)<|Ql O<|P4<|PM.qb (e:=[(0,_),(14,_),(16,_),(134,_)]) ?_;refine Tj O<|PL O<|QS O<|P3 func186 O ?_;exact⟨_,O,_,O,D.kp t (λg hg e=>by have:=xl g hg;omega),xl,h6,K.trans t⟩
 case DD=>
  refine P6<|PL O<|qV (Qz UU O O)<|Pq O<|P9 O<|OY<|qN O<|qV (PO (news:=lpC p) Xf O UA O (G.cells (n:=3) O) O)<|Px z5G O (Us p M w2) ?_;rintro _ A⟨rfl,d⟩;refine R5 O<|PB O<|Px z9d O (Wt x j A) ?_;rintro _ A⟨rfl,rfl⟩;refine qV (SD O)<|Ql O<|PB O<|QY O<|Qb<|Ql O<|PB O<|R8 O<|Qb<|Ql O<|PB O<|Px z4R O (Xo _ ref S A (Z A (z.trans d).kp)) ?_;rintro _ A⟨rfl,rfl⟩;refine qV (SD O)<|Ql O<|Pq O<|PM.qb (e:=[(0,_),(1,_),(2,_),(4,_),(9,_),(11,_),(12,_),(13,_),(20,_)]) ?_;refine P9 O<|Pc O<|Pr TR O<|qV (Pl U3 O O (d.OZ l) O)<|QY O<|Qb<|Ph O<|Pr TR O<|qV (Pl U3 O O (d.OZ l) O)<|R8 O<|Qb<|Ql O<|Ph O<|Pr T0 O ?_;refine qV (Pl U3 O O (d.OZ l) O)<|QY O<|Qb<|Ql O<|Ph O<|Pr T0 O<|qV (Pl U3 O O (d.OZ l) O)<|Pr TT O<|qV (Pl U3 O O (d.OZ G) O)<|R8 O<|Qb<|Ql O<|Ph O ?_;rcases y0y q with T|T
  ·have KZ:ref.length=0:=by rw[m T];rfl
   refine Pr T0 O<|qV (Pl U3 O O (d.OZ l) O)<|Rx O<|RO<|PB O<|RQ PS O<|R8 O<|Qb<|Rr O<|Ql O<|Pq O<|PM.qb (e:=[(0,_),(1,_),(2,_),(4,_),(9,_),(11,_),(12,_),(13,_),(20,_)]) ?_;refine P9 O<|qN O<|Pr TR O<|qV (Pl U3 O O (d.OZ l) O)<|Rx O<|Qb<|Ph O<|QV<|qS<|Ql O<|Pq O<|Tj O<|An ?_;exact(mb _ _ ⟨O,d⟩).qb
  ·refine Pr T0 O<|qV (Pl U3 O O (d.OZ l) O)<|Rx O<|Qb<|Ph O<|QV<|qS<|Ql O<|Ql O<|Pq O<|PM.qb (e:=[(0,_),(1,_),(2,_),(4,_),(9,_),(11,_),(12,_),(13,_),(20,_)]) ?_;refine P9 O<|qN O<|Pr TR O<|qV (Pl U3 O O (d.OZ l) O)<|Rx O<|Qb<|Ph O<|QV<|qS<|Ql O<|Pq O<|Tj O<|An ?_;exact(mb _ _ ⟨O,d⟩).qb
theorem z4l {r:Nat}(p:Sr)(D:p.R1)(x:Nat)(K:x<65536)(N:Nat)(hN:N<=65536):
  PN prog 186 [ptr r 0,I (x:Int),I (N:Int),.agg #[I ((0:Nat):Int),I ((0:Nat):Int)],.slice none 0 0,lpV p] w λu w'=>u= .tuple #[.slice none 0 0,I 0]/\Ext w w':=by
 obtain⟨M,Q,S,g4⟩:=id D
 have W:([]:List Nat).length=0:=rfl
 refine py (e:=[(0,_),(1,_),(2,_),(3,_),(4,_),(5,_)]) func186 O ntmps186 O O<|qN O<|Pb O O (RP O (cs:=[I ((0:Nat):Int),I ((0:Nat):Int)]) O) ?_
 rintro _ w1⟨b9,rfl,V,H,J⟩
 refine Pb O O (RP O (cs:=lpC p) O) ?_
 rintro _ w2⟨A,rfl,U,C,q⟩
 replace q:Pm w2 A [I (p.PE:Int),I (p.interval:Int),I (p.zeta:Int)] 276:=q
 have G:=H.trans C
 have l:=C.OZ J
 refine QS O<|R0<|PL O<|qV (Qz UU O O)<|Pq O<|P9 O<|OY<|qN O<|qV (PO (news:=lpC p) Xf O UA O (q.cells (n:=3) O) O)<|Px z5G O (Us p D w2) ?_
 rintro _ v⟨rfl,d⟩
 refine R5 O<|PB O<|Px z9d O (Wt x K v) ?_
 rintro _ v⟨rfl,rfl⟩
 refine qV (SD O)<|Ql O<|PB O<|QY O<|Qb<|Ql O<|PB O<|R8 O<|Qb<|Ql O<|PB O<|Px z4R O (Xo (.slice none 0 0) [] ⟨y1p,λy h=>(by cases h)⟩ v W5) ?_
 rintro _ v⟨rfl,rfl⟩
 refine qV (SD O)<|Ql O<|Pq O<|PM.qb (e:=[(0,_),(1,_),(2,_),(4,_),(9,_),(11,_),(12,_),(13,_),(20,_)]) ?_
 refine P9 O<|Pc O<|Pr TR O<|qV (Pl U3 O O (d.OZ l) O)<|QY O<|Qb<|Ph O<|Pr TR O<|qV (Pl U3 O O (d.OZ l) O)<|R8 O<|Qb<|Ql O<|Ph O<|Pr T0 O ?_
 refine qV (Pl U3 O O (d.OZ l) O)<|QY O<|Qb<|Ql O<|Ph O<|Pr T0 O<|qV (Pl U3 O O (d.OZ l) O)<|Pr TT O<|qV (Pl U3 O O (d.OZ q) O)<|R8 O<|Qb<|Ql O<|Ph O<|Pr T0 O ?_
 refine qV (Pl U3 O O (d.OZ l) O)<|Rx O<|RO<|PB O<|RQ PS O<|R8 O<|Qb<|Rr O<|Ql O<|Pq O<|PM.qb (e:=[(0,_),(1,_),(2,_),(4,_),(9,_),(11,_),(12,_),(13,_),(20,_)]) ?_
 refine P9 O<|qN O<|Pr TR O<|qV (Pl U3 O O (d.OZ l) O)<|Rx O<|RO<|Ph O<|Pr T0 O<|qV (Pl U3 O O (d.OZ l) O)<|Rx O<|RO<|Rr O<|Pq O<|Pp O ?_
 refine qN O<|QS O<|P3 func186 O ?_
 exact⟨_,O,O,G.trans d⟩
/-! ### A packer's cells -/
def WK (q:Value×Nat):List Value:=[q.1,I (q.2:Int)]
def YJ (p:QR)(R:List (Value×Nat))(n wp ed:Nat):List Value:=VW p++(R.flatMap WK++[I (n:Int),ptr wp 0,I (ed:Int),I 0])
theorem Sd:∀R:List (Value×Nat),(R.flatMap WK).length=R.length*2
 |[]=>rfl
 |q::R=>by rw[y16,Pe,Sd R,y01,show(WK q).length=2 from rfl];omega
def z5x:∀(R:List (Value×Nat)) (i j:Nat) (q:Value×Nat) (u:Value),R[i]? =some q->(WK q)[j]? =some u->(R.flatMap WK)[i*2+j]? =some u
 |[],i,j,q,u,h,_=>by simp at h
 | a :: R, 0, j, q, u, h, hj => by
   rw[y1v] at h;cases h;have:=(y0m.1 hj).1;rw[y16,y0C ω,y20,y09]
   exact hj
 | a :: R, i + 1, j, q, u, h, hj => by
   rw[y1G] at h;rw[y16,y0W (by show 2<=_;omega),show(i+1)*2+j-(WK a).length=i*2+j by show _-2=_;omega];exact z5x R i j q u h hj
theorem z6c:∀(R:List (Value×Nat)) (i:Nat) (x:Value×Nat),i<R.length->(R.set i x).flatMap WK=(R.flatMap WK).take (i*2)++WK x++(R.flatMap WK).drop (i*2+2)
 |[],i,x,h=>by simp at h
 | a :: R, 0, x, h => by
   rw[y2i,y16,y16,y20,y2B,y18,y09,y19 (show(WK a).length=2 from rfl)]
 | a :: R, i + 1, x, h => by
   rw[y01] at h;rw[List.set_cons_succ,y16,y16,z6c R i x ω];rw[show(i+1)*2=(WK a).length+i*2 by show _=2+_;omega,y38,y1t,y3k,y05,y05,y05]
section
variable {n:Nat}
theorem z7U (d:R.length=17):(YJ p R n wp ed).length=43:=by
 unfold YJ
 rw[Pe,Pe,Sd,d];rfl
def z0Z (d:R.length=17)(j:Nat):(YJ p R n wp ed)[39+j]? =[I (n:Int),ptr wp 0,I (ed:Int),I 0][j]? :=by
 unfold YJ
 rw[y0W (by show 5<=_;omega),y0W (by rw[Sd,d];show _<=_-5;omega),Sd,d]
 congr 1
 show 39+j-5-17*2=j
 omega
def z7N (d:R.length=17):(YJ p R n wp ed)[39]? =some (I (n:Int)):=z0Z d 0
def zh1 (d:R.length=17):(YJ p R n wp ed)[40]? =some (ptr wp 0):=z0Z d 1
def zk8 (d:R.length=17):(YJ p R n wp ed)[41]? =some (I (ed:Int)):=z0Z d 2
def zkN (d:R.length=17):(YJ p R n wp ed)[42]? =some (I 0):=z0Z d 3
def zen (e:R.length=17){v:Value}(h:R[i]? =some (v,c))(j:Nat)(u:Value)(d:[v,I (c:Int)][j]? =some u):(YJ p R n wp ed)[5+i*2+j]? =some u:=by
 have hi:=(y0m.1 h).1
 have l:j<2:=(y0m.1 d).1
 unfold YJ
 rw[y0W (by show 5<=_;omega),show 5+i*2+j-(VW p).length=i*2+j by show _-5=_;omega,y0C (by rw[Sd];omega)]
 exact z5x R i j _ u h d
theorem zaw (d:R.length=17)(hi:i<17)(v:Value)(c:Nat):Rg (YJ p R n wp ed) (5+i*2) [v,I (c:Int)]=YJ p (R.set i (v,c)) n wp ed:=by
 unfold YJ Rg
 rw[z6c R i (v,c) ω]
 rw[show 5+i*2=(VW p).length+i*2 from rfl,y38,show(VW p).length+i*2+[v,I (c:Int)].length=(VW p).length+(i*2+2) from rfl,y3k]
 rw[y1r (by rw[Sd];omega),y1j (by rw[Sd];omega)]
 simp only[y05]
 rfl
theorem zeb (d:R.length=17)(m:Nat):(YJ p R n wp ed).set 39 (I (m:Int))=YJ p R m wp ed:=by
 unfold YJ
 rw[y1F _ _ (by show 5<=_;omega),y1F _ _ (by rw[Sd,d];show _<=39-5;omega),Sd,d]
 rfl
theorem zdC (d:R.length=17)(m:Nat):(YJ p R n wp ed).set 41 (I (m:Int))=YJ p R n wp m:=by
 unfold YJ
 rw[y1F _ _ (by show 5<=_;omega),y1F _ _ (by rw[Sd,d];show _<=41-5;omega),Sd,d]
 rfl
end
theorem zcE {n:Nat}(hB:Pm w k (YJ p R n wp ed) 273)(q:R.length=17)(A:n<=65536)(a:Option Addr)(m cp c:Nat):
  PN prog 166 [ptr k 5,.slice a m cp,I (c:Int)] w λu w'=>u= .tuple #[]/\Pm w' k (YJ p (R.set (n%17) (.slice a m cp,c)) (n+1) wp ed) 273/\Kp (λi=>i=k) w w':=by
 refine py (e:=[(0,_),(1,_),(2,_)]) func166 O ntmps166 O O ?_
 have hg:=Ext.Pz w
 have r:(R.set (n%17) (.slice a m cp,c)).length=17:=by rw[y0x];exact q
 refine OY<|PC [12] (λw'=>Ext w w') Pd O<|Qm 0 O O hg<|Qm 1 O O hg<|PH 2 O (QL O) hg<|PH 3 O (PU VM O) hg<|Qm 6 O O hg<|Qm 7 O O hg<|PH 8 O (T3 (cs:=[_,_]) Ri O zfs O O) hg<|PH 9 O (QL O) hg<|PH 10 O (PU z8B O) hg<|qL 4 O (λ_ h=>Pl U3 O O (h.OZ hB) (z7N q)) hg<|PH 5 O (yre O O ω) hg<|PH 11 O (yia zgs Ri O O ω) hg ?_
 refine TV [12]<|qO 12<|Q0 (i:=12) O O (Qh (news:=[.slice a m cp,I (c:Int)]) Ri O O O O (hg.OZ hB) (by rw[z7U q];show 5+n%17*2+2<=43;omega)) ?_
 rintro w1⟨d,v⟩
 refine⟨trivial,?_⟩
 replace d:Pm w1 k (Rg (YJ p R n wp ed) (5+n%17*2) [.slice a m cp,I (c:Int)]) 273:=d
 rw[zaw q (y15 _ ψ)] at d
 refine qE<|Ra O<|PQ O<|Pr VM O<|qV (Pl U3 O O d (z7N r))<|Qj O<|PQ O<|Pr VM O<|Po O (QZ Qe O O O d (by rw[z7U r];decide)) ?_
 rintro w2⟨l,x⟩
 replace l:Pm w2 k ((YJ p (R.set (n%17) (.slice a m cp,c)) n wp ed).set 39 (I ((n+1:Nat):Int))) 273:=l
 rw[zeb r] at l
 refine P4<|Qu func166 O ?_
 exact⟨_,O,O,l,(hg.kp.trans v).trans x⟩
def Uv (p:QR)(m size c:Nat):Bool:=decide (0<m/\m<=p.most/\0<size/\size<=p.most/\c<p.chain)
theorem XL {n:Nat}(hB:Pm w k (YJ p R n wp ed) 273)(S:R.length=17)(hn:n<=65536)(L:p.R1)(ref size:Nat)(h1:1<=ref)(h2:ref<=p.PE)
  {a:Option Addr} {m cp c:Nat} (P:ref<=n->R[(n-ref)%17]? =some (.slice a m cp,c)):
  PN prog 164 [ptr k 5,I (ref:Int),I (size:Int),bpV p] w λu w'=>u=(if ref<=n then .tuple #[.agg #[.slice a m cp,I (c:Int)],.bool (Uv p m size c)] else .tuple #[.agg #[.slice none 0 0,I 0],.bool false])/\Ext w w':=by
 have yd:p.PE<=16:=L.1.1
 refine py (e:=[(0,_),(1,_),(2,_),(3,_)]) func164 O ntmps164 O O<|qN O<|Pb O O (RP O (cs:=VW p) O) ?_
 rintro _ w1⟨b7,rfl,kR,b,g⟩
 refine Pb O O (S5 (cs:=[_,_]) Ri O) ?_
 rintro _ w2⟨b8,rfl,j7,U,N⟩
 have z1:=b.size
 have z2:=U.size
 have l7:=g.lt
 have l8:=N.lt
 have K:=b.trans U
 have Q:=U.OZ g
 replace Q:Pm w2 b7 [I (p.PE:Int),I (p.chain:Int),I (p.interval:Int),I (p.zeta:Int),I (p.most:Int)] 93:=Q
 replace N:Pm w2 b8 [.slice none 0 0,I 0] 268:=N
 have Y:=K.OZ hB
 have q:=Ext.Pz w2
 refine Pq O<|OY<|OY ?_
 rcases y0a n ref with aP|o
 ·refine RI (λw'=>Ext w2 w') O<|Pu 0 O O q<|P7 1 O (ZQ O O) q<|TJ<|Pu 2 O O q<|Pu 3 O O q<|Pu 4 O O q<|P7 5 O (QL O) q<|P7 6 O (PU VM O) q<|P7 8 O (PU z1X O) q<|qT 9 O (λ_ h=>Pl U3 O O (h.OZ Q) O) q<|qT 7 O (λ_ h=>Pl U3 O O (h.OZ Y) (z7N S)) q<|P7 10 O (ymi O O) q<|P7 11 O (YT O O) q ?_;refine TW<|P7 12 O (U0 O O) q<|qE<|Pp O<|qN O<|qV (T3 (cs:=[_,_]) Ri O zfs O O) ?_;have T:=q.OZ N;refine Po O (Qh (news:=[.slice none 0 0,I 0]) Ri O O O O T ξ) ?_;rintro t⟨Z,y⟩;replace Z:Pm t b8 [.slice none 0 0,I 0] 268:=Z;refine Pq O<|PK func164 (.cell WT O Ri O (Pm.cells (n:=2) Z (news:=[_,_]) O) O (.tmp O .nil)) ?_;rw[if_neg ω];exact⟨_,O,O,(K.trans q).It y (λi e=>ω)⟩
 ·have E:=P o;rw[if_pos o];refine RI (λw'=>Ext w2 w') O<|Pu 0 O O q<|P7 1 O (ZQ O O) q<|TJ<|Pu 2 O O q<|Pu 3 O O q<|Pu 4 O O q<|P7 5 O (QL O) q<|P7 6 O (PU VM O) q<|P7 8 O (PU z1X O) q<|qT 9 O (λ_ h=>Pl U3 O O (h.OZ Q) O) q<|qT 7 O (λ_ h=>Pl U3 O O (h.OZ Y) (z7N S)) q<|P7 10 O (ymi O O) q<|P7 11 O (YT O O) q ?_;refine TJ<|P7 12 O (U0 O O) q<|qE<|Tj O<|OY ?_;have f:=q.trans (Ext.Pz w2.drew);have A:=Ext.Pz w2.drew;have s:=q.OZ Y;refine PC [13] (λw'=>Ext w2.drew w') Pd O (Qm 0 O O A (Qm 1 O O A (PH 2 O (QL O) A (PH 3 O (PU VM O) A (Qm 5 O O A (PH 8 O (QL O) A (PH 9 O (PU z8B O) A (qL 4 O (λ_ h=>Pl U3 O O (h.OZ s) (z7N S)) A (PH 6 O (Yf O O ω) A ?_)))))))));rw[show(n:Int)-(ref:Int)=((n-ref:Nat):Int) by omega];refine PH 7 O (yre O O ω) A (PH 10 O (yia zgs Ri O O ω) A (qL 11 O (λ_ h=>PO (news:=[.slice a m cp,I (c:Int)]) WT O Ri O (λj u F=>by rw[(h.OZ s).cell];exact zen S E j u F) O) A ?_));refine Ry (i:=12) Pd<|QQ (i:=12) O O O (S5 (cs:=[_,_]) Ri O) ?_;rintro _ t⟨W,rfl,Ct,V,B⟩;refine⟨A.trans V,?_⟩;refine TV [13] (qO 13 (Q0 (i:=13) O O (Qh (news:=[.slice a m cp,I (c:Int)]) Ri O O O O B ξ) ?_));rintro J⟨x,z⟩;refine⟨trivial,?_⟩;replace x:Pm J W [.slice a m cp,I (c:Int)] 268:=x;have X:=f.size;have z3:=V.size;have H:Ext w2 J:=(f.trans V).It z (λi e=>ω);have z4:=H.size;have M:=H.OZ N;have G:=H.OZ Q;have d:=Ext.Pz J;refine qE<|PM.qb (e:=[(2,_),(7,_),(8,_),(9,_),(10,_)]) ?_;refine OY ?_;rcases y0y m with c0|c0
  ·refine RI (λw'=>Kp (λi=>i=b8) J w') O (qT 0 O (λ_ l=>(PO WT O Ri O (Pm.cells (n:=2) (l.OZ x ω) (news:=[_,_]) O) O)) d.kp (P7 1 O (PU SZ O) d.kp (qT 2 O (λ_ l=>(Pl PS O O (l.OZ x ω) O)) d.kp (P7 3 O (T7 PS O) d.kp (P7 4 O (YT O O) d.kp (TJ (Pu 5 O O d.kp (qJ 6 O d.kp (qJ 7 O d.kp (qJ 8 O d.kp (qJ 9 O d.kp (qJ 10 O d.kp (qJ 11 O d.kp ?_)))))))))))));refine P7 12 O (U0 O O) d.kp<|Pu 13 O O d.kp<|qJ 14 O d.kp<|qJ 15 O d.kp<|P7 16 O (U0 O O) d.kp<|Pu 17 O O d.kp<|qJ 18 O d.kp<|qJ 19 O d.kp<|qJ 20 O d.kp<|qJ 21 O d.kp<|P7 22 O (U0 O O) d.kp<|Pu 23 O O d.kp<|qJ 24 O d.kp<|qJ 25 O d.kp ?_;refine qJ 26 O d.kp (qJ 27 O d.kp (qJ 28 O d.kp (P7 29 O (U0 O O) d.kp (qO 30 (Q0 (i:=30) O O (Qh (news:=[.slice a m cp,I (c:Int)]) Ri O O O O (d.OZ M) ξ) ?_)))));rintro D⟨v,r⟩;refine⟨d.kp.trans r,?_⟩;replace v:Pm D b8 [.slice a m cp,I (c:Int)] 268:=v;refine P7 31 O (S6 O) (d.kp.trans r)<|qE<|PM.qb (e:=[(8,_),(9,_)]) ?_;refine PK func164 (.cell WT O Ri O (Pm.cells (n:=2) v (news:=[_,_]) O) O (.tmp O .nil)) ?_;have C:Uv p m size c=false:=decide_eq_false (λh=>ω);rw[C];exact⟨_,O,O,((K.trans H).trans d).It r (λi e=>ω)⟩
  ·rcases y0a p.most m with c1|c1
   ·refine RI (λw'=>Kp (λi=>i=b8) J w') O (qT 0 O (λ_ l=>(PO WT O Ri O (Pm.cells (n:=2) (l.OZ x ω) (news:=[_,_]) O) O)) d.kp (P7 1 O (PU SZ O) d.kp (qT 2 O (λ_ l=>(Pl PS O O (l.OZ x ω) O)) d.kp (P7 3 O (T7 PS O) d.kp (P7 4 O (YT O O) d.kp (TW (Pu 5 O O d.kp (P7 6 O (PU SZ O) d.kp (qT 7 O (λ_ l=>(Pl PS O O (l.OZ x ω) O)) d.kp (P7 8 O (T7 PS O) d.kp (P7 9 O (PU Ua O) d.kp (qT 10 O (λ_ l=>(Pl U3 O O (l.OZ G ω) O)) d.kp (P7 11 O (ZG O O) d.kp ?_)))))))))))));refine TJ<|P7 12 O (Ux O O) d.kp<|Pu 13 O O d.kp<|qJ 14 O d.kp<|qJ 15 O d.kp<|P7 16 O (U0 O O) d.kp<|Pu 17 O O d.kp<|qJ 18 O d.kp<|qJ 19 O d.kp<|qJ 20 O d.kp<|qJ 21 O d.kp<|P7 22 O (U0 O O) d.kp<|Pu 23 O O d.kp<|qJ 24 O d.kp ?_;refine qJ 25 O d.kp (qJ 26 O d.kp (qJ 27 O d.kp (qJ 28 O d.kp (P7 29 O (U0 O O) d.kp (qO 30 (Q0 (i:=30) O O (Qh (news:=[.slice a m cp,I (c:Int)]) Ri O O O O (d.OZ M) ξ) ?_))))));rintro D⟨v,r⟩;refine⟨d.kp.trans r,?_⟩;replace v:Pm D b8 [.slice a m cp,I (c:Int)] 268:=v;refine P7 31 O (S6 O) (d.kp.trans r)<|qE<|PM.qb (e:=[(8,_),(9,_)]) ?_;refine PK func164 (.cell WT O Ri O (Pm.cells (n:=2) v (news:=[_,_]) O) O (.tmp O .nil)) ?_;have C:Uv p m size c=false:=decide_eq_false (λh=>ω);rw[C];exact⟨_,O,O,((K.trans H).trans d).It r (λi e=>ω)⟩
   ·rcases y0y size with c2|c2
    ·refine RI (λw'=>Kp (λi=>i=b8) J w') O (qT 0 O (λ_ l=>(PO WT O Ri O (Pm.cells (n:=2) (l.OZ x ω) (news:=[_,_]) O) O)) d.kp (P7 1 O (PU SZ O) d.kp (qT 2 O (λ_ l=>(Pl PS O O (l.OZ x ω) O)) d.kp (P7 3 O (T7 PS O) d.kp (P7 4 O (YT O O) d.kp (TW (Pu 5 O O d.kp (P7 6 O (PU SZ O) d.kp (qT 7 O (λ_ l=>(Pl PS O O (l.OZ x ω) O)) d.kp (P7 8 O (T7 PS O) d.kp (P7 9 O (PU Ua O) d.kp (qT 10 O (λ_ l=>(Pl U3 O O (l.OZ G ω) O)) d.kp (P7 11 O (ZG O O) d.kp ?_)))))))))))));refine TW<|P7 12 O (Ux O O) d.kp<|Pu 13 O O d.kp<|Pu 14 O O d.kp<|P7 15 O (YT O O) d.kp<|TJ<|P7 16 O (Ux O O) d.kp<|Pu 17 O O d.kp<|qJ 18 O d.kp<|qJ 19 O d.kp<|qJ 20 O d.kp<|qJ 21 O d.kp<|P7 22 O (U0 O O) d.kp<|Pu 23 O O d.kp ?_;refine qJ 24 O d.kp (qJ 25 O d.kp (qJ 26 O d.kp (qJ 27 O d.kp (qJ 28 O d.kp (P7 29 O (U0 O O) d.kp (qO 30 (Q0 (i:=30) O O (Qh (news:=[.slice a m cp,I (c:Int)]) Ri O O O O (d.OZ M) ξ) ?_)))))));rintro D⟨v,r⟩;refine⟨d.kp.trans r,?_⟩;replace v:Pm D b8 [.slice a m cp,I (c:Int)] 268:=v;refine P7 31 O (S6 O) (d.kp.trans r)<|qE<|PM.qb (e:=[(8,_),(9,_)]) ?_;refine PK func164 (.cell WT O Ri O (Pm.cells (n:=2) v (news:=[_,_]) O) O (.tmp O .nil)) ?_;have C:Uv p m size c=false:=decide_eq_false (λh=>ω);rw[C];exact⟨_,O,O,((K.trans H).trans d).It r (λi e=>ω)⟩
    ·rcases y0a p.most size with c3|c3
     ·refine RI (λw'=>Kp (λi=>i=b8) J w') O (qT 0 O (λ_ l=>(PO WT O Ri O (Pm.cells (n:=2) (l.OZ x ω) (news:=[_,_]) O) O)) d.kp (P7 1 O (PU SZ O) d.kp (qT 2 O (λ_ l=>(Pl PS O O (l.OZ x ω) O)) d.kp (P7 3 O (T7 PS O) d.kp (P7 4 O (YT O O) d.kp (TW (Pu 5 O O d.kp (P7 6 O (PU SZ O) d.kp (qT 7 O (λ_ l=>(Pl PS O O (l.OZ x ω) O)) d.kp (P7 8 O (T7 PS O) d.kp (P7 9 O (PU Ua O) d.kp (qT 10 O (λ_ l=>(Pl U3 O O (l.OZ G ω) O)) d.kp (P7 11 O (ZG O O) d.kp ?_)))))))))))));refine TW (P7 12 O (Ux O O) d.kp (Pu 13 O O d.kp (Pu 14 O O d.kp (P7 15 O (YT O O) d.kp (TW (P7 16 O (Ux O O) d.kp (Pu 17 O O d.kp (Pu 18 O O d.kp (P7 19 O (PU Ua O) d.kp (qT 20 O (λ_ l=>(Pl U3 O O (l.OZ G ω) O)) d.kp (P7 21 O (ZG O O) d.kp (TJ (P7 22 O (Ux O O) d.kp ?_)))))))))))));refine Pu 23 O O d.kp (qJ 24 O d.kp (qJ 25 O d.kp (qJ 26 O d.kp (qJ 27 O d.kp (qJ 28 O d.kp (P7 29 O (U0 O O) d.kp (qO 30 (Q0 (i:=30) O O (Qh (news:=[.slice a m cp,I (c:Int)]) Ri O O O O (d.OZ M) ξ) ?_))))))));rintro D⟨v,r⟩;refine⟨d.kp.trans r,?_⟩;replace v:Pm D b8 [.slice a m cp,I (c:Int)] 268:=v;refine P7 31 O (S6 O) (d.kp.trans r)<|qE<|PM.qb (e:=[(8,_),(9,_)]) ?_;refine PK func164 (.cell WT O Ri O (Pm.cells (n:=2) v (news:=[_,_]) O) O (.tmp O .nil)) ?_;have C:Uv p m size c=false:=decide_eq_false (λh=>ω);rw[C];exact⟨_,O,O,((K.trans H).trans d).It r (λi e=>ω)⟩
     ·rcases y0a c p.chain with c4|c4
      ·refine RI (λw'=>Kp (λi=>i=b8) J w') O (qT 0 O (λ_ l=>(PO WT O Ri O (Pm.cells (n:=2) (l.OZ x ω) (news:=[_,_]) O) O)) d.kp (P7 1 O (PU SZ O) d.kp (qT 2 O (λ_ l=>(Pl PS O O (l.OZ x ω) O)) d.kp (P7 3 O (T7 PS O) d.kp (P7 4 O (YT O O) d.kp (TW (Pu 5 O O d.kp (P7 6 O (PU SZ O) d.kp (qT 7 O (λ_ l=>(Pl PS O O (l.OZ x ω) O)) d.kp (P7 8 O (T7 PS O) d.kp (P7 9 O (PU Ua O) d.kp (qT 10 O (λ_ l=>(Pl U3 O O (l.OZ G ω) O)) d.kp (P7 11 O (ZG O O) d.kp ?_)))))))))))));refine TW (P7 12 O (Ux O O) d.kp (Pu 13 O O d.kp (Pu 14 O O d.kp (P7 15 O (YT O O) d.kp (TW (P7 16 O (Ux O O) d.kp (Pu 17 O O d.kp (Pu 18 O O d.kp (P7 19 O (PU Ua O) d.kp (qT 20 O (λ_ l=>(Pl U3 O O (l.OZ G ω) O)) d.kp (P7 21 O (ZG O O) d.kp (TW (P7 22 O (Ux O O) d.kp ?_)))))))))))));refine Pu 23 O O d.kp (P7 24 O (PU z4i O) d.kp (qT 25 O (λ_ l=>(Pl U3 O O (l.OZ x ω) O)) d.kp (P7 26 O (PU ZO O) d.kp (qT 27 O (λ_ l=>(Pl U3 O O (l.OZ G ω) O)) d.kp (P7 28 O (ZQ O O) d.kp (TW (P7 29 O (Ux O O) d.kp (qO 30 (Q0 (i:=30) O O (Qh (news:=[.slice a m cp,I (c:Int)]) Ri O O O O (d.OZ M) ξ) ?_)))))))));rintro D⟨v,r⟩;refine⟨d.kp.trans r,?_⟩;replace v:Pm D b8 [.slice a m cp,I (c:Int)] 268:=v;refine P7 31 O (S6 O) (d.kp.trans r)<|qE<|PM.qb (e:=[(8,_),(9,_)]) ?_;refine PK func164 (.cell WT O Ri O (Pm.cells (n:=2) v (news:=[_,_]) O) O (.tmp O .nil)) ?_;have C:Uv p m size c=true:=decide_eq_true ⟨ω,ω,ω,ω,ω⟩;rw[C];exact⟨_,O,O,((K.trans H).trans d).It r (λi e=>ω)⟩
      ·refine RI (λw'=>Kp (λi=>i=b8) J w') O (qT 0 O (λ_ l=>(PO WT O Ri O (Pm.cells (n:=2) (l.OZ x ω) (news:=[_,_]) O) O)) d.kp (P7 1 O (PU SZ O) d.kp (qT 2 O (λ_ l=>(Pl PS O O (l.OZ x ω) O)) d.kp (P7 3 O (T7 PS O) d.kp (P7 4 O (YT O O) d.kp (TW (Pu 5 O O d.kp (P7 6 O (PU SZ O) d.kp (qT 7 O (λ_ l=>(Pl PS O O (l.OZ x ω) O)) d.kp (P7 8 O (T7 PS O) d.kp (P7 9 O (PU Ua O) d.kp (qT 10 O (λ_ l=>(Pl U3 O O (l.OZ G ω) O)) d.kp (P7 11 O (ZG O O) d.kp ?_)))))))))))));refine TW (P7 12 O (Ux O O) d.kp (Pu 13 O O d.kp (Pu 14 O O d.kp (P7 15 O (YT O O) d.kp (TW (P7 16 O (Ux O O) d.kp (Pu 17 O O d.kp (Pu 18 O O d.kp (P7 19 O (PU Ua O) d.kp (qT 20 O (λ_ l=>(Pl U3 O O (l.OZ G ω) O)) d.kp (P7 21 O (ZG O O) d.kp (TW (P7 22 O (Ux O O) d.kp ?_)))))))))))));refine Pu 23 O O d.kp (P7 24 O (PU z4i O) d.kp (qT 25 O (λ_ l=>(Pl U3 O O (l.OZ x ω) O)) d.kp (P7 26 O (PU ZO O) d.kp (qT 27 O (λ_ l=>(Pl U3 O O (l.OZ G ω) O)) d.kp (P7 28 O (ZQ O O) d.kp (TJ (P7 29 O (Ux O O) d.kp (qO 30 (Q0 (i:=30) O O (Qh (news:=[.slice a m cp,I (c:Int)]) Ri O O O O (d.OZ M) ξ) ?_)))))))));rintro D⟨v,r⟩;refine⟨d.kp.trans r,?_⟩;replace v:Pm D b8 [.slice a m cp,I (c:Int)] 268:=v;refine P7 31 O (S6 O) (d.kp.trans r)<|qE<|PM.qb (e:=[(8,_),(9,_)]) ?_;refine PK func164 (.cell WT O Ri O (Pm.cells (n:=2) v (news:=[_,_]) O) O (.tmp O .nil)) ?_;have C:Uv p m size c=false:=decide_eq_false (λh=>ω);rw[C];exact⟨_,O,O,((K.trans H).trans d).It r (λi e=>ω)⟩
abbrev z8f:List (Value×Nat):=List.replicate 17 (.slice none 0 0,0)
theorem zau (p:QR)(D:p.R1)(w:World):PN prog 124 [bpV p] w λu w'=>∃k wp F,u= .tuple #[ptr k 0,I 0]/\Pm w' k (YJ p z8f 0 wp 0) 273/\Za w' wp [] F/\¬F k/\Ext w w'/\w.heap.size<=k/\∀i,F i->w.heap.size<=i:=by
 refine py (e:=[(0,_)]) func124 O ntmps124 O O<|qN O<|Pb O O (RP O (cs:=VW p) O) ?_
 rintro _ w1⟨b1,rfl,H,r,v⟩
 have N:=r.size
 refine QS O<|OY<|qN O<|qV (PO (news:=VW p) Ys O S8 O (v.cells (n:=5) O) O)<|Px zeW O (z0m p D w1) ?_
 rintro _ w2⟨rfl,l⟩
 have Q:=l.size
 have hg:=Ext.Pz w2
 refine Rq O<|R5 O<|QC O<|OY<|RI (λw'=>Ext w2 w') O<|qT 0 O (λ_ C=>PO (news:=VW p) Ys O S8 O ((C.OZ (l.OZ v)).cells (n:=5) O) O) hg<|Tl 1 O z1V O (V7 _) ?_
 rintro _ K⟨wp,F,rfl,x,q,G⟩
 refine⟨hg.trans q,?_⟩
 have h:=hg.trans q
 have S:=h.size
 refine P7 2 O (T3 ziE O zjJ O O) (hg.trans q)<|qO 3<|z0n (i:=3) O O O (RP O (cs:=YJ p z8f 0 wp 0) O) ?_
 rintro _ M⟨k,rfl,J,d,A⟩
 refine⟨h.trans d,?_⟩
 refine P7 4 O (S6 O) (h.trans d)<|P7 5 O (S6 O) (h.trans d)<|qE<|P3 func124 O ?_
 exact⟨_,O,k,wp,F,O,A,x.ext d,λe=>by have:=x.lt e;omega,((r.trans l).trans h).trans d,ω,λi hi=>by have:=G i hi;have:=hg.size;omega⟩
structure PkM (w:World)(k:Nat)(p:QR)(L:List (List Nat))(E:List (Nat×Nat))(bs:List Bool)(F:Nat->Prop)(R:List (Value×Nat))(wp ed:Nat):Prop where
 OZ:Pm w k (YJ p R L.length wp ed) 273
 len:R.length=17
 wr:Za w wp bs F
 nk:¬F k
 el:E.length=L.length
 ok:∀l∈L,Q4 l
 ring:∀j l e,L[j]? =some l->E[j]? =some e->L.length<=j+17->∃a cp,R[j%17]? =some (.slice a l.length cp,e.2)/\l.length<=cp/\Sl w (.slice a l.length cp) 42 1 l.length (l.map PX)/\(∀g,(Value.slice a l.length cp).ownBlock=some g->¬F g/\g≠k)
theorem PkM.ext (h:PkM w k p L E bs F R wp ed)(d:Ext w w'):PkM w' k p L E bs F R wp ed:=
 ⟨d.OZ h.OZ,h.len,h.wr.ext d,h.nk,h.el,h.ok,λj l e u v x=>by
  obtain⟨a,cp,n,q,r,g4⟩:=h.ring j l e u v x
  exact⟨a,cp,n,q,r.ext d,g4⟩⟩
def Found (p:QR)(L:List (List Nat))(E:List (Nat×Nat))(R:List (Value×Nat))(size ref:Nat)(v:Value)(c:Nat):Prop:=
 (ref=0/\v= .slice none 0 0/\c=0)\/(1<=ref/\ref<=p.PE/\ref<=L.length/\R[(L.length-ref)%17]? =some (v,c)/\∃l e,L[L.length-ref]? =some l/\E[L.length-ref]? =some e/\c=e.2/\Uv p l.length size e.2=true)
structure AdM (w:World)(k b2 b3 b7 b8 b4 b9:Nat)(a:Option Addr)(m cp n least ref:Nat)(v:Value)(c:Nat):Prop where
 c2:Pm w b2 [ptr k 0] 223
 c3:Pm w b3 [.slice a m cp] 40
 c7:Pm w b7 [I (n:Int)] 3
 c8:Pm w b8 [I (least:Int)] 3
 c4:Pm w b4 [I (ref:Int)] 3
 c9:Pm w b9 [v,I (c:Int)] 268
def AdM.kp {S:Nat->Prop}{a:Option Addr}{cp n ref:Nat}{v:Value}(h:AdM w k b2 b3 b7 b8 b4 b9 a m cp n least ref v c)(d:Kp S w w')(l:∀i,S i->i≠b2/\i≠b3/\i≠b7/\i≠b8/\i≠b4/\i≠b9):AdM w' k b2 b3 b7 b8 b4 b9 a m cp n least ref v c:=
 ⟨d.OZ h.c2 (λe=>(l _ e).1 O),d.OZ h.c3 (λe=>(l _ e).2.1 O),d.OZ h.c7 (λe=>(l _ e).2.2.1 O),d.OZ h.c8 (λe=>(l _ e).2.2.2.1 O),d.OZ h.c4 (λe=>(l _ e).2.2.2.2.1 O),d.OZ h.c9 (λe=>(l _ e).2.2.2.2.2 O)⟩
def AdM.ext {a:Option Addr}{cp n ref:Nat}{v:Value}(h:AdM w k b2 b3 b7 b8 b4 b9 a m cp n least ref v c)(d:Ext w w'):AdM w' k b2 b3 b7 b8 b4 b9 a m cp n least ref v c:=h.kp (S:=λ_=>False) d.kp (λi e=>e.elim)
theorem zdJ (y:p.R1)(h:PkM w k p L E bs F R wp ed)(hG:Pm w 1 (SI .gamma) 314)(hU:Pm w 2 (SI .unary) 314)(hL:L.length<65536)
  {b2 b3 b7 b8 b4 b9:Nat} {a:Option Addr} {cp least ref:Nat} {v:Value} {c:Nat} {succ:List Nat} (hs:Q4 succ) (lu:succ.length<=cp) (eE:Rd w (.slice a succ.length cp) 1 succ.length (succ.map PX)) (t:AdM w k b2 b3 b7 b8 b4 b9 a succ.length cp L.length least ref v c) (hF:Found p L E R succ.length ref v c)
  (hd:b8≠b2/\b8≠b3/\b8≠b7/\b4≠b2/\b4≠b3/\b4≠b7/\b9≠b2/\b9≠b3/\b9≠b7/\b8≠b4/\b8≠b9/\b4≠b9) (r:Nat) (X:1<=r) (s:r<=p.PE):
  PN prog 163 [I (r:Int),ptr b2 0,ptr b3 0,ptr b7 0,ptr b8 0,ptr b4 0,ptr b9 0] w λu w'=>u= .tuple #[]/\Kp (λi=>i=b8\/i=b4\/i=b9) w w'/\∃N S v' c',AdM w' k b2 b3 b7 b8 b4 b9 a succ.length cp L.length N S v' c'/\Found p L E R succ.length S v' c':=by
 have yd:p.PE<=16:=y.1.1
 obtain⟨D,c1,M,J,qn,L0⟩:∃D c1 M J,(r<=L.length->R[(L.length-r)%17]? =some (.slice D M c1,J))/\(r<=L.length->∃l e,L[L.length-r]? =some l/\E[L.length-r]? =some e/\M=l.length/\J=e.2/\l.length<=c1/\Sl w (.slice D l.length c1) 42 1 l.length (l.map PX)):=by
  by_cases hr:r<=L.length
  ·obtain⟨l,hl⟩:∃l,L[L.length-r]? =some l:=⟨_,y03 ω⟩;obtain⟨e,he⟩:∃e,E[L.length-r]? =some e:=⟨_,y03 (by have:=h.el;omega)⟩;obtain⟨D,c1,g1,g2,g3,g4⟩:=h.ring _ l e hl he ω;exact⟨D,c1,l.length,e.2,λ_=>g1,λ_=>⟨l,e,hl,he,O,O,g2,g3⟩⟩
  ·exact⟨none,0,0,0,λe=>absurd e hr,λe=>absurd e hr⟩
 have fg:=t.c2
 have qp:=t.c3
 have hg:=Ext.Pz w
 have mc:∀{w2:World},Pm w2 k (YJ p R L.length wp ed) 273->∀j u,(VW p)[j]? =some u->w2.cell? ⟨k,0+j,none⟩=some u:=λhB j u hj=>hB.cells (i:=0) (n:=5) (news:=VW p) O j u hj
 refine py (e:=[(0,_),(1,_),(2,_),(3,_),(4,_),(5,_),(6,_)]) func163 O ntmps163 O O<|OY<|Qf (λe' w'=>∃x v1 d1 ok,e'=[(0,I (r:Int)),(1,ptr b2 0),(2,ptr b3 0),(3,ptr b7 0),(4,ptr b8 0),(5,ptr b4 0),(6,ptr b9 0),(8,ptr x 0),(9,.bool ok)]/\Ext w w'/\w.heap.size<=x/\Pm w' x [v1,I ((d1:Nat):Int)] 268/\(ok=true->r<=L.length/\v1= .slice D M c1/\d1=J/\Uv p M succ.length J=true)) ?bI<|λbI=>?cZ
 case bI=>
  rintro e' w1⟨x,v1,d1,ok,rfl,g,KU,u7,au⟩;have B:=t.ext g;have ub:=B.c2;have nj:=B.c3;have L3:=B.c7;have Iq:=B.c8;refine Qi O<|qV (SD O)<|P4<|QF O (λh3=>?_)<|λh3=>?_
  ·refine P3 func163 O ?_;exact⟨_,O,O,g.kp,_,_,_,_,B,hF⟩
  ·have DE:ok=true:=by cases ok<;>simp_all
   obtain⟨DF,rfl,rfl,g8⟩:=au DE;obtain⟨l,e,hl,he,rfl,rfl,pe,L4⟩:=L0 DF;have DG:=qn DF;have DH:Q4 l:=h.ok l (y0j hl);have G:=Ext.Pz w1;refine P5<|OY<|RI (λw'=>Ext w1 w') O<|qT 0 O (λ_ h=>(Pl U3 O O (h.OZ L3) O)) G<|qT 1 O (λ_ h=>(Pl PS O O (h.OZ nj) O)) G<|P7 2 O (PU SZ O) G<|qT 3 O (λ_ h=>(Pl PS O O (h.OZ u7) O)) G<|Pu 4 O O (G)<|qT 5 O (λ_ h=>(Pl WU O O (h.OZ ub) O)) G<|P7 6 O (QL O) G<|P7 7 O (PU Xr O) G<|qT 8 O (λ_ hS=>PO (news:=VW p) Ys O S8 O (mc (hS.OZ (g.OZ h.OZ))) O) G<|Tl 9 O z1Y O (Tt p _) ?_;rintro _ w9⟨rfl,fK⟩;refine⟨G.trans fK,?_⟩;have Q:=G.trans fK;have gJ:=g.trans Q;refine Tl 10 O z5H O (Wg p.list y.1 L.length hL succ l hs DH r s (λe=>ω) (gJ.OZ hG) (gJ.OZ hU) (eE.ext gJ) (L4.rd.ext gJ) lu pe) ?_;rintro _ A⟨rfl,q⟩;refine⟨Q.trans q,?_⟩;have eP:=Q.trans q;have lT:=B.ext eP;have DI:=lT.c8;have DJ:=eP.OZ u7
   generalize (PD (S2 p.list L.length succ l r)).length=nb
   refine Pu 11 O O (Q.trans q)<|P7 12 O (S9 O O) (Q.trans q)<|P7 13 O (S9 O O) (Q.trans q)<|P7 14 O (S6 O) (Q.trans q)<|P7 15 O (S6 O) (Q.trans q)<|qE<|PM.qb (e:=[(0,_),(4,_),(5,_),(6,_),(8,_),(10,_)]) ?_;refine PL O<|qV (Pl U3 O O DI O)<|QY O<|P4<|Pn O (λh4=>?_)<|λh4=>?_
   ·have V:=Ext.Pz A;have z:=lT.ext V;have a5:=t.c8.lt;have a4:=t.c4.lt;have a6:=t.c9.lt;have L5:¬(x=b8\/x=b4\/x=b9):=ω
    refine RI (λw'=>Kp (λi=>i=b8\/i=b4\/i=b9) A w') O (Pu 0 O O V.kp (Pu 1 O O V.kp (qT 2 O (λ_ h=>PO WT O Ri O (Pm.cells (n:=2) (h.OZ DJ L5) (news:=[_,_]) O) O) V.kp (qO 3 (Q0 (i:=3) O O (QZ Qe O O O z.c8 ξ) ?_)))));rintro a0⟨aZ,m⟩;refine⟨V.kp.trans (m.Pk λi e=> .inl e),?_⟩;have rZ:Kp (λi=>i=b8\/i=b4\/i=b9) A a0:=V.kp.trans (m.Pk λi e=> .inl e);have L6:=m.OZ z.c4 (λe=>hd.2.2.2.2.2.2.2.2.2.1 e.symm);refine qO 4 (Q0 (i:=4) O O (QZ Qe O O O L6 ξ) ?_);rintro a2⟨bq,o⟩;refine⟨rZ.trans (o.Pk λi e=> .inr (.inl e)),?_⟩;have ye:Kp (λi=>i=b8\/i=b4\/i=b9) A a2:=rZ.trans (o.Pk λi e=> .inr (.inl e));have L7:=o.OZ (m.OZ z.c9 (λe=>hd.2.2.2.2.2.2.2.2.2.2.1 e.symm)) (λe=>hd.2.2.2.2.2.2.2.2.2.2.2 e.symm);refine qO 5 (Q0 (i:=5) O O (Qh (news:=[.slice D l.length c1,I (e.2:Int)]) Ri O O O O L7 ξ) ?_);rintro a3⟨da,P⟩;refine⟨ye.trans (P.Pk λi e=> .inr (.inr e)),?_⟩;replace da:Pm a3 b9 [.slice D l.length c1,I (e.2:Int)] 268:=da;replace bq:Pm a2 b4 [I (r:Int)] 3:=bq;replace aZ:Pm a0 b8 [I (nb:Int)] 3:=aZ;refine qE<|Qu func163 O ?_;obtain⟨d1,d2,d3,d4,d5,d6,d7,d8,d9,d10,d11,d12⟩:=hd;have eL:∀{b:Nat} {cs:List Value} {T:TypeId},Pm A.drew b cs T->b8≠b->b4≠b->b9≠b->Pm a3 b cs T:=λhB n1 n2 n3=>P.OZ (o.OZ (m.OZ hB (λe=>n1 e.symm)) (λe=>n2 e.symm)) (λe=>n3 e.symm);refine⟨_,O,O,?_,nb,r,.slice D l.length c1,e.2,⟨eL z.c2 d1 d4 d7,eL z.c3 d2 d5 d8,eL z.c7 d3 d6 d9,P.OZ (o.OZ aZ d10) d11,P.OZ bq d12,da⟩,.inr ⟨X,s,DF,DG,l,e,hl,he,O,g8⟩⟩;exact((g.trans eP).trans V).kp.trans ((m.Pk λi e=> .inl e).trans ((o.Pk λi e=> .inr (.inl e)).trans (P.Pk λi e=> .inr (.inr e))))
   ·refine P5<|Qu func163 O ?_;exact⟨_,O,O,(g.trans eP).kp,_,_,_,_,lT,hF⟩
 case cZ=>
  rcases y0a L.length r with aP|lK
  ·have d:=hg;refine PC [15] (λw'=>Ext w w') Pd O<|qL 0 O (λ_ h=>(Pl WU O O (h.OZ fg) O)) d<|PH 1 O (QL O) d<|PH 2 O (PU YY O) d<|Qm 3 O O d<|qL 4 O (λ_ h=>(Pl PS O O (h.OZ qp) O)) d<|PH 5 O (T7 PS O) d<|qL 6 O (λ_ h=>(Pl WU O O (h.OZ fg) O)) d<|PH 7 O (QL O) d<|PH 8 O (PU Xr O) d<|qL 9 O (λ_ hS=>PO (news:=VW p) Ys O S8 O (mc (hS.OZ h.OZ)) O) d<|Y3 (i:=10) (j:=14) Pd ?_ ?_
   ·refine Sm (i:=10) O O O (yc z8x O) (XL (d.OZ h.OZ) h.len ω y r succ.length X s qn) ?_;rintro _ A⟨K,q⟩;refine⟨d.trans q,?_⟩;rw[if_neg ω] at K;subst K
    try have C:=q.OZ C
    have d:=d.trans q;refine Qm 11 O O d (PH 12 O (S9 O O) d (QD (i:=13) O Pd O O (λ_=>S9 O O) d (Ry (i:=14) Pd (QQ (i:=14) O O O (S5 (cs:=[_,_]) Ri O) ?_))));rintro _ Z⟨x,rfl,nP,H,C⟩;refine⟨d.trans H,?_⟩;have W:w.heap.size<=x:=by have:=d.size;omega
    have d:=d.trans H;refine TV [15] (qO 15 (Q0 (i:=15) O O (Qh (news:=[.slice none 0 0,I ((0:Nat):Int)]) Ri O O O O C ξ) ?_));rintro f⟨U,Y⟩;refine⟨trivial,?_⟩;refine P7 16 O (S6 O) trivial<|qE ?_;exact(bI _ _ ⟨x,.slice none 0 0,0,false,O,d.It Y (λi e=>ω),W,U,λe=>by cases e⟩).qb
   ·refine QQ (i:=14) O O O (S5 (cs:=[_,_]) Ri O) ?_;rintro _ Z⟨x,rfl,nP,H,C⟩;refine⟨d.trans H,?_⟩;have W:w.heap.size<=x:=by have:=d.size;omega
    have d:=d.trans H;refine Ry (i:=10) Pd (Sm (i:=10) O O O (yc z8x O) (XL (d.OZ h.OZ) h.len ω y r succ.length X s qn) ?_);rintro _ A⟨K,q⟩;refine⟨d.trans q,?_⟩;rw[if_neg ω] at K;subst K
    try have C:=q.OZ C
    have d:=d.trans q;refine Qm 11 O O d (PH 12 O (S9 O O) d (QD (i:=13) O Pd O O (λ_=>S9 O O) d (TV [15] (qO 15 (Q0 (i:=15) O O (Qh (news:=[.slice none 0 0,I ((0:Nat):Int)]) Ri O O O O C ξ) ?_)))));rintro f⟨U,Y⟩;refine⟨trivial,?_⟩;refine P7 16 O (S6 O) trivial<|qE ?_;exact(bI _ _ ⟨x,.slice none 0 0,0,false,O,d.It Y (λi e=>ω),W,U,λe=>by cases e⟩).qb
  ·have d:=hg;refine PC [15] (λw'=>Ext w w') Pd O<|qL 0 O (λ_ h=>(Pl WU O O (h.OZ fg) O)) d<|PH 1 O (QL O) d<|PH 2 O (PU YY O) d<|Qm 3 O O d<|qL 4 O (λ_ h=>(Pl PS O O (h.OZ qp) O)) d<|PH 5 O (T7 PS O) d<|qL 6 O (λ_ h=>(Pl WU O O (h.OZ fg) O)) d<|PH 7 O (QL O) d<|PH 8 O (PU Xr O) d<|qL 9 O (λ_ hS=>PO (news:=VW p) Ys O S8 O (mc (hS.OZ h.OZ)) O) d<|Y3 (i:=10) (j:=14) Pd ?_ ?_
   ·refine Sm (i:=10) O O O (yc z8x O) (XL (d.OZ h.OZ) h.len ω y r succ.length X s qn) ?_;rintro _ A⟨K,q⟩;refine⟨d.trans q,?_⟩;rw[if_pos lK] at K;subst K
    try have C:=q.OZ C
    have d:=d.trans q;refine Qm 11 O O d (PH 12 O (S9 O O) d (QD (i:=13) O Pd O O (λ_=>S9 O O) d (Ry (i:=14) Pd (QQ (i:=14) O O O (S5 (cs:=[_,_]) Ri O) ?_))));rintro _ Z⟨x,rfl,nP,H,C⟩;refine⟨d.trans H,?_⟩;have W:w.heap.size<=x:=by have:=d.size;omega
    have d:=d.trans H;refine TV [15] (qO 15 (Q0 (i:=15) O O (Qh (news:=[.slice D M c1,I ((J:Nat):Int)]) Ri O O O O C ξ) ?_));rintro f⟨U,Y⟩;refine⟨trivial,?_⟩;refine P7 16 O (S6 O) trivial<|qE ?_;exact(bI _ _ ⟨x,.slice D M c1,J,Uv p M succ.length J,O,d.It Y (λi e=>ω),W,U,λe=>⟨lK,O,O,e⟩⟩).qb
   ·refine QQ (i:=14) O O O (S5 (cs:=[_,_]) Ri O) ?_;rintro _ Z⟨x,rfl,nP,H,C⟩;refine⟨d.trans H,?_⟩;have W:w.heap.size<=x:=by have:=d.size;omega
    have d:=d.trans H;refine Ry (i:=10) Pd (Sm (i:=10) O O O (yc z8x O) (XL (d.OZ h.OZ) h.len ω y r succ.length X s qn) ?_);rintro _ A⟨K,q⟩;refine⟨d.trans q,?_⟩;rw[if_pos lK] at K;subst K
    try have C:=q.OZ C
    have d:=d.trans q;refine Qm 11 O O d (PH 12 O (S9 O O) d (QD (i:=13) O Pd O O (λ_=>S9 O O) d (TV [15] (qO 15 (Q0 (i:=15) O O (Qh (news:=[.slice D M c1,I ((J:Nat):Int)]) Ri O O O O C ξ) ?_)))));rintro f⟨U,Y⟩;refine⟨trivial,?_⟩;refine P7 16 O (S6 O) trivial<|qE ?_;exact(bI _ _ ⟨x,.slice D M c1,J,Uv p M succ.length J,O,d.It Y (λi e=>ω),W,U,λe=>⟨lK,O,O,e⟩⟩).qb
def R7 (L:List (List Nat))(n r:Nat):List Nat:=if r=0 then [] else(L[n-r]?).getD []
def z0N (p:QR)(L:List (List Nat))(E:List (Nat×Nat))(n size:Nat)(e:Nat×Nat):Prop:=
 e=(0,0)\/(1<=e.1/\e.1<=p.PE/\e.1<=n/\∃l d,L[n-e.1]? =some l/\E[n-e.1]? =some d/\e.2=d.2+1/\Uv p l.length size d.2=true)
theorem zgo {n:Nat}(d:j<n)(e:n+1<=j+17):j%17≠n%17:=ω
theorem PkM.add {S H b o s I:World}{A:List Bool}{u:Nat->Prop}(h:PkM w k p L E bs F R wp ed)(Y:Ext w S)(W:Kp F S H)(c:Za H wp A u)(O:∀i,u i->F i\/S.heap.size<=i)
  {x:Option Addr} {d V r:Nat} {succ:List Nat} (hs:Q4 succ) (U:Ext H b) (wK:Sl b (.slice x succ.length d) 42 1 succ.length (succ.map PX)) (ud:succ.length<=d) (C:∀g,(Value.slice x succ.length d).ownBlock=some g->H.heap.size<=g)
  (J:Kp (λi=>i=k) b o) (N:Kp (λi=>i=k) o s) (Q:Kp (λi=>i=b4) s I) (g7:w.heap.size<=b4) (L8:b4<S.heap.size) (t:Pm I k (YJ p (R.set (L.length%17) (.slice x succ.length d,V)) (L.length+1) wp (ed+succ.length)) 273):
  PkM I k p (L++[succ]) (E++[(r,V)]) A u (R.set (L.length%17) (.slice x succ.length d,V)) wp (ed+succ.length)/\Kp (λi=>F i\/i=k) w I/\∀i,u i->F i\/w.heap.size<=i:=by
 have lk:=h.OZ.lt
 have zA:=Y.size
 have zB:=W.size
 have jQ:∀i,F i->i<w.heap.size:=λi hi=>h.wr.lt hi
 have nT:∀i,u i->i<H.heap.size:=λi hi=>c.lt hi
 have Z:¬u k:=λe=>by rcases O k e with e|e;exact h.nk e;omega
 have y:¬u b4:=λe=>by rcases O b4 e with e|e;(have:=jQ _ e;omega);omega
 have z:∀{v:Value} {n:Nat} {cs:List Value},Sl w v 42 1 n cs->(∀g,v.ownBlock=some g->¬F g/\g≠k)->Sl I v 42 1 n cs:=λm hg=>
  ((((((m.ext Y).kp W (λg e=>(hg g e).1)).ext U).kp J (λg e=>(hg g e).2)).kp N (λg e=>(hg g e).2)).kp Q (λg e q=>by have:=m.lt e;omega))
 have P:=((wK.kp J (λg e q=>by have:=C g e;omega)).kp N (λg e q=>by have:=C g e;omega)).kp Q (λg e q=>by have:=C g e;omega)
 refine⟨⟨by rw[Pe,y0S];exact t,by rw[y0x];exact h.len,(((c.ext U).kp J (λi hi e=>Z (e▸hi))).kp N (λi hi e=>Z (e▸hi))).kp Q (λi hi e=>y (e▸hi)),Z,by rw[Pe,Pe,h.el];rfl,λl G=>?_,λj l e D K h3=>?_⟩,?_,λi hi=>?_⟩
 ·rcases y0u.1 G with G|G
  ·exact h.ok l G
  ·rw[y0z.1 G];exact hs
 ·rw[Pe,y0S] at h3;rcases y0a j L.length with M|M
  ·rw[y0C M] at D;rw[y0C (by rw[h.el];exact M)] at K;obtain⟨a,cp,X,g2,f,g4⟩:=h.ring j l e D K ω;refine⟨a,cp,?_,g2,z f g4,λg hg=>⟨λq=>?_,(g4 g hg).2⟩⟩
   ·rw[y0A (λq=>zgo M ω q.symm)];exact X
   ·rcases O g q with q|q
    ·exact(g4 g hg).1 q
    ·have:=f.lt hg;omega
  ·have B:=(y0m.1 D).1;rw[Pe,y0S] at B;have T:j=L.length:=ω
   subst T;rw[y0W (y02 _),y1b,y1v] at D;rw[y0W (by rw[h.el];exact y02 _),h.el,y1b,y1v] at K;cases D;cases K;refine⟨x,d,y0Q (by rw[h.len];exact y15 _ ψ),ud,P,λg hg=>⟨λq=>?_,λq=>?_⟩⟩
   ·have:=C g hg;have:=nT g q;omega
   ·have:=C g hg;omega
 ·exact((((Y.kp.trans (W.Pk λi e=> .inl e)).trans U.kp).trans (J.Pk λi e=> .inr e)).trans (N.Pk λi e=> .inr e)).It Q (λi e=> .inl ω)
 ·rcases O i hi with e| e
  ·exact .inl e
  ·exact .inr ω
theorem z9U (m:p.R1)(h:PkM w k p L E bs F R wp ed)(hG:Pm w 1 (SI .gamma) 314)(hU:Pm w 2 (SI .unary) 314)(hL:L.length<65536)
  {a:Option Addr} {cp:Nat} {succ:List Nat} (P:Q4 succ) (lu:succ.length<=cp) (t:Rd w (.slice a succ.length cp) 1 succ.length (succ.map PX)) (BF:ed+succ.length<=1048576) (La:∀g,0<succ.length->(Value.slice a succ.length cp).ownBlock=some g->¬F g/\g≠k)
  (nU:∀r,r<=p.PE->bs.length+(PD (S2 p.list L.length succ (R7 L L.length r) r)).length<=134217728):
  PN prog 126 [ptr k 0,.slice a succ.length cp] w λu w'=>∃(r least f:Nat)(F':Nat->Prop) (R':List (Value×Nat)),u= .tuple #[I (r:Int),I (least:Int),I 0]/\z0N p L E L.length succ.length (r,f)/\
   PkM w' k p (L++[succ]) (E++[(r,f)]) (bs++PD (S2 p.list L.length succ (R7 L L.length r) r)) F' R' wp (ed+succ.length)/\Kp (λi=>F i\/i=k) w w'/\∀i,F' i->F i\/w.heap.size<=i:=by
 have yd:p.PE<=16:=m.1.1
 have lk:=h.OZ.lt
 have mc:∀{w2:World},Pm w2 k (YJ p R L.length wp ed) 273->∀j u,(VW p)[j]? =some u->w2.cell? ⟨k,0+j,none⟩=some u:=λhB j u hj=>hB.cells (i:=0) (n:=5) (news:=VW p) O j u hj
 refine py (e:=[(0,_),(1,_)]) func126 O ntmps126 O O<|qN O<|Pb O O (RP O (cs:=[ptr k 0]) O) ?_
 rintro _ w1⟨b2,rfl,bU,ad,ak⟩
 refine Pb O O (RP O (cs:=[.slice a succ.length cp]) O) ?_
 rintro _ w2⟨b3,rfl,eh,ae,ao⟩
 refine Pb O O (S5 (cs:=[_]) Qe O) ?_
 rintro _ w3⟨b4,rfl,g7,ah,aF⟩
 have z1:=ad.size
 have z2:=ae.size
 have z3:=ah.size
 have a4:=ak.lt
 have a5:=ao.lt
 have a6:=aF.lt
 have ck:=(ad.trans ae).trans ah
 have cP:=ah.OZ (ae.OZ ak)
 have eJ:=ah.OZ ao
 have nS:=ck.OZ h.OZ
 replace aF:Pm w3 b4 [I ((0:Nat):Int)] 3:=aF
 refine QS O<|R0<|qN O<|qV (Pl WU O O cP O)<|qV (Qz WU O O)<|Pq O<|P9 O<|qN O<|qV (Pl WU O O cP O)<|PQ O<|Pr YY O<|Pr VM O<|qV (Pl U3 O O nS (z7N h.len))<|Uj O ?_
 refine Qb<|Pq O<|Tj O<|An<|qN O<|qV (Pl WU O O cP O)<|PQ O<|Pr YY O<|Pr VM O<|qV (Pl U3 O O nS (z7N h.len))<|Pb O O (S5 (cs:=[_]) Qe O) ?_
 rintro _ w4⟨b7,rfl,kR,ay,bE⟩
 have z4:=ay.size
 have a7:=bE.lt
 refine Po O (QZ Qe O O O bE ξ) ?_
 rintro W⟨m9,ai⟩
 replace m9:Pm W b7 [I (L.length:Int)] 3:=m9
 have bL:Ext w3 W:=ay.It ai (λi e=>ω)
 have D:=ck.trans bL
 have z5:=bL.size
 have aa:=ai.size
 have yf:=D.OZ h.OZ
 have du:=bL.OZ cP
 have cQ:=bL.OZ eJ
 have aL:=bL.OZ aF
 have dy:=Ext.Pz W
 refine P4<|OY<|Qf (λe' w'=>∃b8 least,e'=[(2,ptr b2 0),(3,ptr b3 0),(4,ptr b4 0),(7,ptr b7 0),(8,ptr b8 0),(6,I 0)]/\Ext W w'/\W.heap.size<=b8/\Pm w' b8 [I ((least:Nat):Int)] 3) ?bI<|λbI=>?cZ
 case bI =>
  rintro e' w6⟨b8,S,rfl,A,j7,bh⟩;have z6:=A.size;have a8:=bh.lt;have iF:=D.trans A;have DP:=A.OZ yf;have gY:=A.OZ du;have jc:=A.OZ cQ;have H:=Ext.Pz w6;refine R0 (PL O (R5 O (Pq O (P9 O (OY (RI (λw'=>Ext w6 w') O (qT 0 O (λ_ h=>(Pl WU O O (h.OZ gY) O)) H (P7 1 O (QL O) H (P7 2 O (PU z3w O) H (qT 4 O (λ_ h=>(Pl PS O O (h.OZ jc) O)) H (P7 5 O (T7 PS O) H (qT 3 O (λ_ d=>Pl U3 O O (d.OZ DP) (zk8 h.len)) H (P7 6 O (Vu O O ω) H ?_)))))))))))));refine P7 7 O (YT O O) H<|TJ<|P7 8 O (S6 O) H<|qE<|Tj O<|An<|qN O ?_;have ac:=H.size;refine Pb O O (S5 (cs:=[_,_]) Ri O) ?_;rintro _ w7⟨b9,rfl,mO,C,cB⟩;have a9:=cB.lt;have z:=H.trans C;have jT:=iF.trans z;have ko:=A.trans z;have z7:=jT.size;have ab:=z.size;have DQ:=jT.OZ h.OZ;have Bw:AdM w7 k b2 b3 b7 b8 b4 b9 a succ.length cp L.length S 0 (.slice none 0 0) 0:=⟨z.OZ gY,z.OZ jc,ko.OZ m9,z.OZ bh,ko.OZ aL,cB⟩;have hd:b8≠b2/\b8≠b3/\b8≠b7/\b4≠b2/\b4≠b3/\b4≠b7/\b9≠b2/\b9≠b3/\b9≠b7/\b8≠b4/\b8≠b9/\b4≠b9:=ω
  refine qM O<|qV (ymf (first:=[]) (caps:=[.tmp 2,.tmp 3,.tmp 7,.tmp 8,.tmp 4,.tmp 9]) O O)<|Pq O<|OY<|qN O ?_;have DR:=Bw.c2;refine qV (Pl WU O O DR O)<|PQ O<|Pr Xr O<|Pr z1X O<|qV (Pl U3 O O DQ O)<|Ph O<|P4<|PM.qb (e:=[(2,_),(3,_),(4,_),(6,_),(7,_),(8,_),(9,_),(10,_),(58,_),(59,_)]) ?_;refine P6<|RX (α:=Nat) (0) (λi=>[(2,ptr b2 0),(3,ptr b3 0),(4,ptr b4 0),(7,ptr b7 0),(8,ptr b8 0),(9,ptr b9 0),(10,.func (.func 163) #[] #[ptr b2 0,ptr b3 0,ptr b7 0,ptr b8 0,ptr b4 0,ptr b9 0]),(58,I (p.PE:Int)),(59,I (i:Int))]) (λi w'=>Ext w w'/\w7.heap.size<=w'.heap.size/\i<=p.PE/\∃least ref v c,AdM w' k b2 b3 b7 b8 b4 b9 a succ.length cp L.length least ref v c/\Found p L E R succ.length ref v c) (λi=>p.PE-i) ?hI ?hround
  case hI=>exact⟨jT,y02 _,y00 _,_,_,_,_,Bw,.inl ⟨O,O,O⟩⟩
  case hround=>
   rintro i wA⟨N,Oh,hi,least,ref,v,c,Z,hF⟩ ih
   try dsimp only
   refine qN O<|QY O<|P4<|OY<|Pn O (λh0=>?_)<|λh0=>?_
   ·refine P5<|R0<|PL O<|Pq O<|Pc O<|PB O<|Qj O ?_;rw[show(i:Int)+1=((i+1:Nat):Int) by omega];refine Rj O O (SE ziy O O) (zdJ m (h.ext N) (N.OZ hG) (N.OZ hU) hL P lu (t.ext N) Z hF hd (i+1) ω ω) ?_;rintro _ w9⟨rfl,aN,a2,a3,v',c',rP,Lb⟩;have z9:=aN.size;refine P4<|An<|Pc O<|Qj O<|Ph O<|P4 ?_;exact(ih (i+1) _ ⟨N.It aN (λi hi=>ω),ω,ω,_,_,_,_,rP,Lb⟩ ω).qb
   ·have J:∀b,w.heap.size<=b->¬F b:=λb hb e=>by have:=h.wr.lt e;omega
    have ug:=N.OZ h.OZ
    have Bt:ref<=p.PE/\(ref=0->R7 L L.length ref=[])/\Q4 (R7 L L.length ref)/\(∃va s,v= .slice va (R7 L L.length ref).length s/\(R7 L L.length ref).length<=s/\Rd wA (.slice va (R7 L L.length ref).length s) 1 (R7 L L.length ref).length ((R7 L L.length ref).map PX))/\z0N p L E L.length succ.length (ref,if 0<ref then c+1 else 0)/\c<=65536:=by
     rcases hF with⟨rfl,rfl,rfl⟩|⟨f1,f2,f3,f4,l,e,f5,f6,rfl,f8⟩
     ·refine⟨y00 _,λ_=>rfl,⟨y1p,λy h=>(by cases h)⟩,⟨none,0,rfl,y00 _,W5⟩,.inl rfl,y00 _⟩
     ·have iB:R7 L L.length ref=l:=by unfold R7;rw[if_neg ω,f5];rfl
      obtain⟨va,s,g1,g2,g3,g4⟩:=h.ring _ l e f5 f6 ω;rw[f4] at g1;have gv:v= .slice va l.length s:=(Prod.mk.inj (RZ g1)).1;have hb:=of_decide_eq_true f8;have Lc:=m.2.1;rw[iB];exact⟨f2,λe=>ω,h.ok l (y0j f5),⟨va,s,gv,g2,(g3.ext N).rd⟩,.inr ⟨f1,f2,f3,l,e,f5,f6,by dsimp only;rw[if_pos ω],f8⟩,ω⟩
    obtain⟨dg,dl,cg,⟨va,s,rfl,bF,bM⟩,i7,Ld⟩:=Bt;have DS:=nU ref dg
    generalize DT:R7 L L.length ref=lr at dl cg bF bM DS Z
    have pM:=Z.c2;have ww:=Z.c3;have DU:=Z.c7;have yg:=Z.c9;have yh:=Z.c4;have DV:=Z.c8;have x:=Ext.Pz wA;refine Pf O (OY (OY (RI (λw'=>Kp F wA w') O (qT 0 O (λ_ d=>(Pl WU O O (d.OZ pM (J _ ω)) O)) x.kp (P7 1 O (QL O) x.kp (P7 2 O (PU z3N O) x.kp (qT 4 O (λ_ d=>(Pl U3 O O (d.OZ DU (J _ ω)) O)) x.kp (qT 5 O (λ_ d=>(Pl PS O O (d.OZ ww (J _ ω)) O)) x.kp (P7 6 O (PU SZ O) x.kp (qT 7 O (λ_ d=>(Pl PS O O (d.OZ yg (J _ ω)) O)) x.kp (qT 8 O (λ_ d=>(Pl U3 O O (d.OZ yh (J _ ω)) O)) x.kp (qT 9 O (λ_ d=>(Pl WU O O (d.OZ pM (J _ ω)) O)) x.kp (P7 10 O (QL O) x.kp ?_)))))))))))));refine P7 11 O (PU Xr O) x.kp<|qT 3 O (λ_ d=>Pl z2M O O (d.OZ ug h.nk) (zh1 h.len)) x.kp<|qT 12 O (λ_ d=>PO (news:=VW p) Ys O S8 O (mc (d.OZ ug h.nk)) O) x.kp<|Tl 13 O z1Y O (Tt p _) ?_;rintro _ w9⟨rfl,fK⟩;refine⟨(x.trans fK).kp,?_⟩;have T:=x.trans fK;have gJ:=N.trans T;refine Tl 14 O zfD O (z0A (h.wr.ext gJ) p.list m.1 L.length hL succ lr P cg ref dg dl (gJ.OZ hG) (gJ.OZ hU) (t.ext gJ) (bM.ext T) lu bF DS) ?_;rintro _ wB⟨rfl,F',BE,jd,qq⟩;refine⟨T.kp.trans jd,?_⟩;have Q:Kp F wA wB:=T.kp.trans jd;have DW:∀i,F' i->F i\/wA.heap.size<=i:=λi hi=>(qq i hi).imp id (λe=>by have:=T.size;omega);have yi:=Q.OZ yh (J _ ω);have DX:=Q.OZ yg (J _ ω);have yj:=Q.OZ pM (J _ ω);have yk:=Q.OZ ww (J _ ω);have DY:=Q.OZ DV (J _ ω);have DZ:=Q.OZ ug h.nk;have Ro:=Q.size;have E0:Rd wB (.slice a succ.length cp) 1 succ.length (succ.map PX):=(t.ext N).kpz Q (λh0 g hg=>(La g h0 hg).1);refine P7 15 O (S6 O) (T.kp.trans jd)<|qE<|PM.qb (e:=[(2,_),(3,_),(4,_),(8,_),(9,_),(12,_)]) ?_;refine PL O<|R5 O<|QC O<|Re O<|OY<|qN O<|qV (Pl U3 O O yi O)<|R8 O<|P4<|Qf (λe' w'=>e'=[(2,ptr b2 0),(3,ptr b3 0),(4,ptr b4 0),(8,ptr b8 0),(13,I ((if 0<ref then c+1 else 0:Nat):Int))]/\w'=wB) ?aw<|λaw=>?er
    case aw=>
     rintro e' M⟨rfl,rfl⟩
     generalize (if 0<ref then c+1 else 0)=f at i7
     have U:=Ext.Pz M;have E1:∀i,i<M.heap.size->¬(Value.slice none 0 0).ownBlock=some i:=λi _ e=>by cases e
     refine OY (RI (λw'=>Kp (λi=>i=k) M w') O (qT 0 O (λ_ d=>(Pl WU O O (d.OZ yj ω) O)) U.kp (P7 1 O (QL O) U.kp (P7 2 O (PU YY O) U.kp (qT 3 O (λ_ d=>(Pl PS O O (d.OZ yk ω) O)) U.kp (Pu 5 O O U.kp (qO 4 (z0n (i:=4) O O O (pap PS Py O ψ O O (Sl.nil _ _ _) (E0.ext U) (z3y _) ω (by simp only[maxLen];omega)) ?_))))))));rintro v' wC⟨wK,jE,Le,-⟩;refine⟨U.kp.trans (jE.Pk λi e=>by cases e),?_⟩;have o:Ext M wC:=U.trans ((Ext.refl _).It jE (λi e=>by cases e));rw[y09,y18] at wK;obtain⟨a',G,rfl,-⟩:=wK.rd.shape
     have ud:succ.length<=G:=by
      rcases wK.shape with⟨e,h0⟩|⟨g,c1,hv,eD⟩
      ·omega
      ·cases hv;exact eD
     have yl:∀g,(Value.slice a' succ.length G).ownBlock=some g->M.heap.size<=g:=λg hg=>by
      rcases Le g hg with e| e
      ·cases e
      ·have:=U.size;omega
     have E2:=o.OZ DZ;refine Tl 6 O ziY O (zcE E2 h.len ω a' succ.length G f) ?_;rintro _ wD⟨rfl,BG,B⟩;refine⟨o.kp.trans B,?_⟩;have cC:(R.set (L.length%17) (.slice a' succ.length G,f)).length=17:=by rw[y0x];exact h.len
     have E3:=B.OZ (o.OZ yj) ω;have E4:=B.OZ (o.OZ yk) ω;have E5:=B.OZ (o.OZ yi) ω;have E6:=B.OZ (o.OZ DY) ω;have K:=Ext.Pz wD;refine qE (OY (PC [9] (λw'=>Ext wD w') Pd O (qL 0 O (λ_ h=>(Pl WU O O (h.OZ E3) O)) K (PH 1 O (QL O) K (PH 2 O (PU z3w O) K (qL 4 O (λ_ h=>(Pl PS O O (h.OZ E4) O)) K (PH 5 O (T7 PS O) K (qL 3 O (λ_ h=>Pl U3 O O (h.OZ BG) (zk8 cC)) K (PH 6 O (Vu O O ω) K (PH 7 O (QL O) K (PH 8 O (PU z3w O) K (TV [9] (qO 9 ?_)))))))))))));refine Q0 (i:=9) O O (QZ Qe O O O (K.OZ BG) (by rw[z7U cC];decide)) ?_;rintro wE⟨BH,E7⟩;refine⟨trivial,?_⟩;replace BH:Pm wE k ((YJ p (R.set (L.length%17) (.slice a' succ.length G,f)) (L.length+1) wp ed).set 41 (I ((ed+succ.length:Nat):Int))) 273:=BH;rw[zdC cC] at BH;have pa:Kp (λi=>i=k) wD wE:=K.kp.trans E7;have uh:=pa.OZ E5 ω;have E8:=pa.OZ E6 ω;have V:=Ext.Pz wE;refine qE (OY (RI (λw'=>Kp (λi=>i=b4) wE w'/\Pm w' b4 [I (ref:Int)] 3) O (qT 0 O (λ_ h=>(Pl U3 O O h.2 O)) (⟨V.kp,V.OZ uh⟩) (qT 1 O (λ_ d=>(Pl U3 O O (d.1.OZ E8 ω) O)) (⟨V.kp,V.OZ uh⟩) (qO 2 (Q0 (i:=2) O O (QZ Qe O O O (V.OZ uh) ξ) ?_))))));rintro wF⟨X,qt⟩;refine⟨⟨V.kp.trans qt,X⟩,?_⟩;replace X:Pm wF b4 [I (ref:Int)] 3:=X;have ue:Kp (λi=>i=b4) wE wF:=V.kp.trans qt;have DL:=ue.OZ BH ω;refine P7 3 O (S6 O) (⟨V.kp.trans qt,X⟩)<|P7 4 O (S6 O) (⟨V.kp.trans qt,X⟩)<|qE<|PM.qb (e:=[(4,_),(5,_),(6,_)]) ?_;refine PK func126 (.cell1 U3 O O ((X).cell _) (.tmp O (.tmp O .nil))) ?_;obtain⟨q1,q2,q3⟩:=h.add (r:=ref) N Q BE DW P o wK ud yl B pa ue ω ω DL;exact⟨_,O,ref,least,f,F',_,O,i7,by rw[DT];exact q1,q2,q3⟩
    case er=>
     refine Pn O (λh5=>?_)<|λh5=>?_
     ·refine Pc O<|Pr z4i O<|qV (Pl U3 O O DX O)<|Qj O<|Pq O ?_;rw[show(c:Int)+1=((if 0<ref then c+1 else 0:Nat):Int) by rw[if_pos ω];omega];exact(aw _ _ ⟨O,O⟩).qb
     ·refine P5 ?_;have jk:(if 0<ref then c+1 else 0)=0:=if_neg ω;exact(aw _ _ ⟨by rw[jk],O⟩).qb
 case cZ=>
  have aw:=dy;refine PC [12] (λw'=>Ext W w') Pd O<|qL 0 O (λ_ h=>(Pl U3 O O (h.OZ m9) O)) aw<|qL 1 O (λ_ h=>(Pl PS O O (h.OZ cQ) O)) aw<|qL 2 O (λ_ h=>(Pl WU O O (h.OZ du) O)) aw<|PH 3 O (QL O) aw<|PH 4 O (PU Xr O) aw<|qL 5 O (λ_ h=>PO (news:=VW p) Ys O S8 O (mc (h.OZ yf)) O) aw<|Y3 (i:=6) (j:=11) Pd ?_ ?_
  ·refine Sm (i:=6) O O O (yc z1Y O) (Tt p _) ?_;rintro _ w6⟨rfl,A⟩;refine⟨aw.trans A,?_⟩
   try have q:=A.OZ q
   have aw:=aw.trans A;refine Y3 (i:=7) (j:=11) Pd ?_ ?_
   ·refine Sm (i:=7) O O O (yc z5H O) (Wg p.list m.1 L.length hL succ [] P ⟨y1p,λy h=>(by cases h)⟩ 0 (y00 _) (λ_=>rfl) ((D.trans aw).OZ hG) ((D.trans aw).OZ hU) (t.ext (D.trans aw)) W5 lu (y00 _)) ?_;rintro _ w7⟨rfl,C⟩;refine⟨aw.trans C,?_⟩
    try have q:=C.OZ q
    have aw:=aw.trans C;refine Qm 8 O O aw (PH 9 O (S9 O O) aw (QD (i:=10) O Pd O O (λ_=>S9 O O) aw (Ry (i:=11) Pd (QQ (i:=11) O O O (S5 (cs:=[_]) Qe O) ?_))));rintro _ a0⟨b8,rfl,jb,Y,q⟩;refine⟨aw.trans Y,?_⟩;have nW:W.heap.size<=b8:=by have:=aw.size;omega
    have aw:=aw.trans Y;refine TV [12] (qO 12 (Q0 (i:=12) O O (QZ Qe O O O q ξ) ?_));rintro a1⟨bq,bu⟩;refine⟨trivial,?_⟩;refine P7 13 O (S6 O) trivial<|qE<|PM.qb (e:=[(2,_),(3,_),(4,_),(5,_),(6,_),(7,_),(8,_)]) ?_;exact(bI _ _ ⟨b8,_,O,aw.It bu (λi e=>ω),nW,bq⟩).qb
   ·refine QQ (i:=11) O O O (S5 (cs:=[_]) Qe O) ?_;rintro _ a0⟨b8,rfl,jb,Y,q⟩;refine⟨aw.trans Y,?_⟩;have nW:W.heap.size<=b8:=by have:=aw.size;omega
    have aw:=aw.trans Y;refine Ry (i:=7) Pd (Sm (i:=7) O O O (yc z5H O) (Wg p.list m.1 L.length hL succ [] P ⟨y1p,λy h=>(by cases h)⟩ 0 (y00 _) (λ_=>rfl) ((D.trans aw).OZ hG) ((D.trans aw).OZ hU) (t.ext (D.trans aw)) W5 lu (y00 _)) ?_);rintro _ w7⟨rfl,C⟩;refine⟨aw.trans C,?_⟩
    try have q:=C.OZ q
    have aw:=aw.trans C;refine Qm 8 O O aw (PH 9 O (S9 O O) aw (QD (i:=10) O Pd O O (λ_=>S9 O O) aw (TV [12] (qO 12 (Q0 (i:=12) O O (QZ Qe O O O q ξ) ?_)))));rintro a1⟨bq,bu⟩;refine⟨trivial,?_⟩;refine P7 13 O (S6 O) trivial<|qE<|PM.qb (e:=[(2,_),(3,_),(4,_),(5,_),(6,_),(7,_),(8,_)]) ?_;exact(bI _ _ ⟨b8,_,O,aw.It bu (λi e=>ω),nW,bq⟩).qb
  ·refine QQ (i:=11) O O O (S5 (cs:=[_]) Qe O) ?_;rintro _ a0⟨b8,rfl,jb,Y,q⟩;refine⟨aw.trans Y,?_⟩;have nW:W.heap.size<=b8:=by have:=aw.size;omega
   have aw:=aw.trans Y;refine Ry (i:=6) Pd<|Sm (i:=6) O O O (yc z1Y O) (Tt p _) ?_;rintro _ w6⟨rfl,A⟩;refine⟨aw.trans A,?_⟩
   try have q:=A.OZ q
   have aw:=aw.trans A;refine Ry (i:=7) Pd (Sm (i:=7) O O O (yc z5H O) (Wg p.list m.1 L.length hL succ [] P ⟨y1p,λy h=>(by cases h)⟩ 0 (y00 _) (λ_=>rfl) ((D.trans aw).OZ hG) ((D.trans aw).OZ hU) (t.ext (D.trans aw)) W5 lu (y00 _)) ?_);rintro _ w7⟨rfl,C⟩;refine⟨aw.trans C,?_⟩
   try have q:=C.OZ q
   have aw:=aw.trans C;refine Qm 8 O O aw (PH 9 O (S9 O O) aw (QD (i:=10) O Pd O O (λ_=>S9 O O) aw (TV [12] (qO 12 (Q0 (i:=12) O O (QZ Qe O O O q ξ) ?_)))));rintro a1⟨bq,bu⟩;refine⟨trivial,?_⟩;refine P7 13 O (S6 O) trivial<|qE<|PM.qb (e:=[(2,_),(3,_),(4,_),(5,_),(6,_),(7,_),(8,_)]) ?_;exact(bI _ _ ⟨b8,_,O,aw.It bu (λi e=>ω),nW,bq⟩).qb
section
def z7y (h:PkM w k p L E bs F R wp ed)(l:bs.length<=9223372036854775):PN prog 127 [ptr k 0] w λu w'=>u=I (bs.length:Int)/\Ext w w':=by
 refine py (e:=[(0,_)]) func127 O ntmps127 O O ?_
 have hg:=Ext.Pz w
 refine Re O<|Qi O<|qV (Qz WU O O)<|QC O<|OY<|RI (λw'=>Ext w w') O<|Pu 0 O O hg<|P7 1 O (QL O) hg<|P7 2 O (PU zdQ O) hg<|Pu 4 O O hg<|P7 5 O (QL O) hg<|P7 6 O (PU z3N O) hg<|qT 3 O (λ_ d=>Pl U3 O O (d.OZ h.OZ) (zkN h.len)) hg<|qT 7 O (λ_ d=>Pl z2M O O (d.OZ h.OZ) (zh1 h.len)) hg ?_
 refine Tl 8 O z3h O (We (h.wr.ext hg)) ?_
 rintro _ w1⟨rfl,rfl⟩
 refine⟨hg,?_⟩
 refine P7 9 O (Vu O O ω) hg<|P7 10 O (S6 O) hg<|qE ?_
 rw[show(0:Int)+(bs.length:Int)=(bs.length:Int) by omega]
 refine P3 func127 O ?_
 exact⟨_,O,O,hg⟩
def z6H (h:PkM w k p L E bs F R wp ed):PN prog 128 [ptr k 0] w λu w'=>u= .tuple #[S (PJ bs),I 0]/\w'=w:=by
 refine py (e:=[(0,_)]) func128 O ntmps128 O O<|qN O<|QS O<|Qi O<|qV (Qz WU O O)<|QC O<|PL O<|PQ O<|Pr z3N O<|qV (Pl z2M O O h.OZ (zh1 h.len))<|Px z9m O (XE h.wr) ?_
 rintro _ w1⟨rfl,rfl⟩
 refine Ta O<|QS O<|P3 func128 O ?_
 exact⟨_,O,O,O⟩
end
structure GrM (w:World)(v:Value)(g:List (List Nat)):Prop where
 ex:∃vs:List Value,Rd w v 1 g.length vs/\∀(i:Nat)(l:List Nat),g[i]? =some l->∃(a:Option Addr)(c:Nat),vs[i]? =some (Value.slice a l.length c)/\l.length<=c/\Rd w (.slice a l.length c) 1 l.length (l.map PX)
theorem GrM.ext {v:Value}(h:GrM w v g)(d:Ext w w'):GrM w' v g:=by
 obtain⟨vs,r,u⟩:=h.ex
 refine⟨vs,r.ext d,λi l x=>?_⟩
 obtain⟨a,c,e,n,q⟩:=u i l x
 exact⟨a,c,e,n,q.ext d⟩
structure QJ (g:List (List Nat)):Prop where
 ok:∀l∈g,Q4 l
 lt:∀l∈g,∀y∈l,y<g.length
 n:g.length<=60
theorem QJ.len (h:QJ g){l:List Nat}(d:l∈g):l.length<=g.length:=by
 have:=z3R l 0 g.length (h.ok l d).ris (λy e=>⟨y00 _,h.lt l d y e⟩) (y00 _)
 omega
def Qp (g:List (List Nat)):Nat:=(g.map List.length).sum
theorem YQ (g:List (List Nat))(l:List Nat):Qp (g++[l])=Qp g+l.length:=by simp[Qp]
theorem zcI {n:Nat}(h:∀l∈g,l.length<=n):Qp g<=g.length*n:=by
 induction g with
 |nil=>simp[Qp]
 | cons l g q =>
   have r:=q (λm d=>h m (y0s _ d));have u:=h l y0p;show(l.length::g.map List.length).sum<=_;rw[y0I,y01,y0G];have e:Qp g=(g.map List.length).sum:=rfl;omega
def Ut (h:QJ g)(i:Nat):Qp (g.take i)<=3600:=by
 have e:Qp (g.take i)<=(g.take i).length*60:=zcI (λl d=>by have:=h.len (y0Z d);have:=h.n;omega)
 have q:(g.take i).length<=60:=by rw[y0d];have:=h.n;omega
 omega
theorem z5l (h:GrM w (.slice ga g.length gc) g)(hg:QJ g):PN prog 125 [.slice ga g.length gc] w λu w'=>u= .bool true/\w'=w:=by
 have F:=hg.n
 obtain⟨vs,G,f⟩:=h.ex
 refine py (e:=[(0,_)]) func125 O ntmps125 O O<|qN O<|Ro O<|Pq O<|Qi O<|RQ Vt O<|Ph O<|P4<|P6<|RX (α:=Nat) (0) (λi=>[(0,.slice ga g.length gc),(3,I (Qp (g.take i):Int)),(8,.slice ga g.length gc),(9,I (g.length:Int)),(10,I (i:Int))]) (λi w'=>w'=w/\i<=g.length) (λi=>g.length-i) ?hI ?hround
 case hI=>exact⟨O,y00 _⟩
 case hround =>
  rintro i m⟨rfl,hi⟩ Z;have R:=Ut hg i
  try dsimp only
  refine qN O<|QY O<|P4<|OY<|Pn O (λx=>?_)<|λx=>?_
  ·have Q:i<g.length:=ω
   obtain⟨l,A⟩:∃l,g[i]? =some l:=⟨_,y03 Q⟩;have D:=y0j A;have B:=hg.len D;obtain⟨a,c,S,t,v⟩:=f i l A
   obtain⟨H,go,W,U⟩:∃b o d,Value.slice ga g.length gc= .slice (some ⟨b,o,none⟩) g.length d:=by
    rcases G.2 with⟨c,q,x⟩|⟨b,off,d,q,-⟩
    ·omega
    ·exact⟨b,off,d,q⟩
   cases U;refine P5 (R0 (qN O (qV (Qc Vt SJ O O ω) (qV (PG PS O O (Qs G S)) (Ro O (PB O (RQ PS O (Qj O (Rq O (RQ PS O (Ph O (P4 (P6 ?_)))))))))))));have K:=YQ (g.take i) l;rw[<-Qa A] at K;rw[show(Qp (g.take i):Int)+(l.length:Int)=(Qp (g.take (i+1)):Int) by omega];refine RX (α:=Nat) (0) (λj=>[(0,.slice (some ⟨H,go,none⟩) g.length gc),(3,I (Qp (g.take (i+1)):Int)),(5,.slice a l.length c),(8,.slice (some ⟨H,go,none⟩) g.length gc),(9,I (g.length:Int)),(10,I (i:Int)),(18,.slice a l.length c),(19,I (l.length:Int)),(20,I (j:Int))]) (λj w'=>w'=m/\j<=l.length) (λj=>l.length-j) ?hI ?hround
   case hI=>exact⟨O,y00 _⟩
   case hround=>
    rintro j T⟨rfl,E⟩ r
    try dsimp only
    refine qN O<|QY O<|P4<|OY<|Pn O (λY=>?_)<|λY=>?_
    ·have k:j<l.length:=ω
     obtain⟨y,C⟩:∃y,l[j]? =some y:=⟨_,y03 k⟩;have p:=hg.lt l D y (y0j C)
     obtain⟨L,lo,P,V⟩:∃b o d,Value.slice a l.length c= .slice (some ⟨b,o,none⟩) l.length d:=by
      rcases v.2 with⟨c,q,x⟩|⟨b,off,d,q,-⟩
      ·omega
      ·exact⟨b,off,d,q⟩
     cases V;refine P5 (R0 (PL O (qV (Qc PS Py O O ω) (qV (PG R9 O O (Qs v (show(l.map PX)[j]? =some (PX y) by rw[y0i,C];rfl))) ?_))));refine SO O (Rq O (qV (Q8 O R9 U3 ω) (Ph O (RQ Vt O (Uj O (Qb (Ph O ?_)))))));rcases y0y j with M|M
     ·refine Ph O<|R8 O<|Qb<|Ph O<|QV<|QV<|QV<|qS<|Ql O<|Ql O<|QC O<|An<|Pc O<|Qj O ?_;refine Ph O<|P4 ?_;exact(r (j+1) _ ⟨O,ω⟩ ω).qb
     ·obtain⟨z,J⟩:∃z,l[j-1]? =some z:=⟨_,y03 ω⟩
      have s:z<y:=by
       obtain⟨N,a2⟩:=y0m.1 J;obtain⟨b1,b2⟩:=y0m.1 C;have:=y1z.1 (hg.ok l D).ris (j-1) j N b1 ω
       rwa [a2,b2] at this
      refine Ph O<|R8 O<|RO<|PB O<|PB O<|RR O ?_;rw[show(j:Int)-1=((j-1:Nat):Int) by omega];refine qV (Qc PS Py O O ω) (qV (PG R9 O O (Qs v (show(l.map PX)[j-1]? =some (PX z) by rw[y0i,J];rfl))) ?_);refine zle O<|Qb<|Rr O<|Ql O<|QC O<|An<|Pc O<|Qj O<|Ph O<|P4 ?_;exact(r (j+1) _ ⟨O,ω⟩ ω).qb
    ·refine Pf O<|An<|Pc O<|Qj O<|Ph O<|P4 ?_;exact(Z (i+1) _ ⟨O,ω⟩ ω).qb
  ·refine Pf O<|PL O<|RQ Vt O<|zle O<|RO<|PB O<|zle O<|RO<|Rr O<|Pq O<|P3 func125 O ?_;exact⟨_,O,O,O⟩
/-! ### How many bits -/
def Yb.z41 {q:Cd×Nat}(h:Yb k q)(r:1<=k/\k<=16):(q.1.enc q.2).length<=112:=by
 obtain⟨l,n⟩:=h.R1 r
 obtain⟨-,d,-⟩:=XP l n
 rw[XQ]
 rcases h with⟨e,h⟩|⟨e,h⟩|⟨e,h⟩
 ·rw[e] at d⊢;show q.2+1+_<=_;omega
 ·have:=(Wu (v:=q.2) ω).2.2;rw[e] at d⊢;show Nat.log2 (q.2+1)+1+_<=_;omega
 ·have u:=(Wu (v:=q.2) ω).2.2;have x:Nat.log2 (q.2+1) / k<=Nat.log2 (q.2+1):=y0R _ _;rw[e] at d⊢;show Nat.log2 (q.2+1) / k+1+_<=_;omega
def z3s {n:Nat}{L:List (Cd×Nat)}(h:∀q∈L,(q.1.enc q.2).length<=n):(PD L).length<=L.length*n:=by
 induction L with
 |nil=>simp[PD]
 | cons q L e =>
   have l:=e (λq d=>h q (y0s _ d));have r:=h q y0p;rw[Qv,Pe,y01,y0G];omega
theorem z3j (least:Nat){l:List Nat}(h:Q4 l):(Qo least l).1.length<=l.length:=by
 have d:=(Ud least l).length_eq
 rw[Pe] at d
 have e:∀(R:List (Nat×Nat)) (lo:Nat),Tp least lo R->R.length<=(Rm R).length:=by
  intro R
  induction R with
  |nil=>intro lo h;exact y02 _
  | cons q R r =>
    intro lo h;have n:=r _ h.2.2.2;have u:1<=q.2:=h.2.1;rw[show Rm (q::R)=(List.range q.2).map (q.1+·)++Rm R from rfl,Pe,y0k,y14,y01];omega
 have n:=e _ 0 (VP least l 0 h.ris (λy _=>y00 _))
 omega
theorem z06 {p:Sr}(d:p.R1){x:Nat}(A:x<65536)(e:Q4 succ)(v:Q4 ref){r:Nat}(C:r<=p.PE)(G:succ.length<=60)(D:ref.length<=60):(PD (S2 p x succ ref r)).length<=44800:=by
 have h:Q4 (PI succ ref):=e.sub y1Z
 have M:(PI succ ref).length<=succ.length:=y2V _ _
 have l:=(Tz succ ref).z1C
 rw[y0k] at l
 have N:=z3j p.interval h
 have O:=(Vd p.interval (PI succ ref)).length_le
 have H:(S2 p x succ ref r).length<=400:=by
  unfold S2;rw[y01];split
  ·simp
  rw[Pe,Pe];have I:(if 0<p.PE then [(Cd.unary,r)] else []).length<=1:=by split<;>simp
  have J:(if 0<r then(Cd.gamma,(RF succ ref).length-1)::QN 0 (RF succ ref).dropLast else []).length<=62:=by
   split
   ·rw[y01,Tx,y2p];omega
   ·simp
  have K:(if PI succ ref=[] then [] else(if 0<p.interval then(Cd.gamma,(Qo p.interval (PI succ ref)).1.length)::Qd x p.interval none (Qo p.interval (PI succ ref)).1 else [])++Qg x p.zeta none (Qo p.interval (PI succ ref)).2).length<=200:=by
   split
   ·simp
   ·rw[Pe,TM];split
    ·rw[y01,SQ];omega
    ·simp;omega
  omega
 have:=z3s (n:=112) (L:=S2 p x succ ref r) (λq u=>(z0U d A e v C q u).z41 ⟨d.2.2.1,d.2.2.2⟩)
 omega
/-! ### All bits -/
def YH (p:QR)(g:List (List Nat))(E:List (Nat×Nat))(i:Nat):List Bool:=
 PD (S2 p.list i ((g[i]?).getD []) (R7 g i ((E[i]?).getD (0,0)).1) ((E[i]?).getD (0,0)).1)
def R3 (p:QR)(g:List (List Nat))(E:List (Nat×Nat))(n:Nat):List Bool:=(List.range n).flatMap (YH p g E)
theorem Ty (p:QR)(g:List (List Nat))(E:List (Nat×Nat))(n:Nat):R3 p g E (n+1)=R3 p g E n++YH p g E n:=by
 unfold R3
 rw[y0P,y2m];simp
theorem z25 (p:QR)(g:List (List Nat))(E:List (Nat×Nat))(e:Nat×Nat):∀n,n<=E.length->R3 p g (E++[e]) n=R3 p g E n
 |0,_=>rfl
 | n + 1, h => by
   rw[Ty,Ty,z25 p g E e n ω]
   congr 1
   unfold YH;rw[y0C ω]
structure zfc (p:QR)(g:List (List Nat))(E:List (Nat×Nat)):Prop where
 ent:∀i e,E[i]? =some e->z0N p g E i ((g[i]?).getD []).length e
def z0N.mono {q:List (List Nat)}{d:List (Nat×Nat)}{n size:Nat}{e:Nat×Nat}(h:z0N p L E n size e)(I:∀(j:Nat)(l:List Nat),L[j]? =some l->q[j]? =some l)(H:∀(j:Nat)(l:Nat×Nat),E[j]? =some l->d[j]? =some l):z0N p q d n size e:=by
 rcases h with h|⟨u,v,x,l,r,A,C,D,G⟩
 ·exact .inl h
 ·exact .inr ⟨u,v,x,l,r,I _ _ A,H _ _ C,D,G⟩
def Sl.typed {v:Value}{n g:Nat}(h:Sl w v T k n cs)(hg:v.ownBlock=some g):∃d,w.heap[g]? =some (.cells d T (0,0)):=by
 rcases h.2 with⟨x,-⟩|⟨r,l,d,u,-,q,-⟩
 ·rw[x] at hg;cases hg
 ·rw[u] at hg;have e:r=g:=RZ hg;exact⟨d,e▸q⟩
theorem PkM.kpT (h:PkM w k p L E bs F R wp ed){v:Value}{H n:Nat}(D:T≠42)(G:Sl w v T H n cs)(d:Kp (λi=>v.ownBlock=some i) w w')(n1:v.ownBlock≠some k)(n2:∀i,F i->v.ownBlock≠some i):PkM w' k p L E bs F R wp ed:=
 ⟨d.OZ h.OZ n1,h.len,h.wr.kp d n2,h.nk,h.el,h.ok,λj l e x A C=>by
  obtain⟨a,cp,r,u,q,g4⟩:=h.ring j l e x A C;refine⟨a,cp,r,u,q.kp d (λg hg e=>?_),g4⟩;obtain⟨c1,f1⟩:=q.typed hg;obtain⟨c2,f2⟩:=G.typed e;rw[f1] at f2
  injection f2 with f3
  injection f3 with f4 f5
  exact D f5.symm⟩
def WX (p:QR)(g:List (List Nat))(E:List (Nat×Nat))(n:Nat):List Nat:=(List.range (n+1)).map λj=>(R3 p g E j).length
theorem zeA (p:QR)(g:List (List Nat))(E:List (Nat×Nat))(e:Nat×Nat)(n:Nat)(h:n<=E.length):WX p g (E++[e]) n=WX p g E n:=by
 unfold WX
 refine y0O λj d=>?_
 rw[z25 p g E e j (by have:=y0H.1 d;omega)]
theorem zcL (p:QR)(g:List (List Nat))(E:List (Nat×Nat))(n:Nat):WX p g E (n+1)=WX p g E n++[(R3 p g E (n+1)).length]:=by
 unfold WX
 rw[y0P,y0f];rfl
def z4n (p:QR)(g:List (List Nat))(E:List (Nat×Nat))(n:Nat):(WX p g E n).length=n+1:=by simp[WX]
theorem getD_take {α:Type}{l:List α}(h:j<i):(l.take i)[j]? =l[j]? :=by rw[y1I,if_pos h]
def XJ (L:List (List Nat))(n r:Nat):R7 L n r=[]\/R7 L n r∈L:=by
 unfold R7
 split
 ·exact .inl O
 ·cases h:L[n-r]? with
  |none=>exact .inl O
  |some l=>exact .inr (y0j h)
theorem z6K {n r:Nat}(h:r<=n):R7 (L.take n) n r=R7 L n r:=by
 unfold R7
 by_cases e:r=0
 ·rw[if_pos e,if_pos e]
 ·rw[if_neg e,if_neg e,getD_take ω]
structure EnI (w:World)(p:QR)(g:List (List Nat))(k wp:Nat)(i:Nat)(E:List (Nat×Nat))(v:Value)(w':World):Prop where
 pk:∃F R,PkM w' k p (g.take i) E (R3 p g E i) F R wp (Qp (g.take i))/\(∀j,F j->w.heap.size<=j)/\∀j,F j->v.ownBlock≠some j
 ext:Ext w w'
 nk:w.heap.size<=k
 sl:Sl w' v 39 1 (WX p g E i).length ((WX p g E i).map Pt)
 fr:∀b,v.ownBlock=some b->w.heap.size<=b
 vk:v.ownBlock≠some k
 ent:∀j e,E[j]? =some e->z0N p g E j ((g[j]?).getD []).length e
 bd:(R3 p g E i).length<=i*44800
theorem zaC (W:p.R1)(hg:QJ g)(jI:GrM w (.slice ga g.length gc) g)(hG:Pm w 1 (SI .gamma) 314)(hU:Pm w 2 (SI .unary) 314):
  PN prog 91 [.slice ga g.length gc,bpV p] w λu w'=>∃E v,u= .tuple #[S (PJ (R3 p g E g.length)),v,I 0]/\E.length=g.length/\zfc p g E/\(R3 p g E g.length).length<=2688000/\Sl w' v 39 1 (g.length+1) ((WX p g E g.length).map Pt)/\(∀b,v.ownBlock=some b->w.heap.size<=b)/\Ext w w':=by
 have hn:=hg.n
 refine py (e:=[(0,_),(1,_)]) func91 O ntmps91 O O<|qN O<|Pb O O (RP O (cs:=VW p) O) ?_
 rintro _ w1⟨b3,rfl,eh,ad,ao⟩
 have z1:=ad.size
 refine SO O<|SO O<|Ro O<|qV (PO (news:=VW p) Ys O S8 O (ao.cells (n:=5) O) O)<|Px zkm O (zau p W w1) ?_
 rintro _ w2⟨k,wp,F,rfl,qu,hW,Lh,ae,aK,oZ⟩
 have z2:=ae.size
 have aO:=ad.trans ae
 refine Ph O<|qV (S9 (v:=ptr k 0) O O)<|qV (S9 (v:=I 0) O O)<|QS O<|Qi O<|R5 O<|PB O<|Px zit O (z5l (jI.ext aO) hg) ?_
 rintro _ w2⟨rfl,rfl⟩
 refine qV (SD O)<|Ql O<|QC O<|qN O<|Pb O O (YD (cs:=[_]) (zs:=[Value.int .u64 0]) U34 TH O Pd O O O ψ) ?_
 rintro _ w3⟨C,rfl,⟨Li,N,ym⟩,E9⟩
 have z3:=N.size
 have lk:=qu.lt
 have BI:PkM w3 k p (g.take 0) [] (R3 p g [] 0) F z8f wp (Qp (g.take 0)):=⟨N.OZ qu,y08,hW.ext N,Lh,O,(λl G=>by simp at G),λj l e h1=>by simp at h1⟩
 refine Pq O<|Qi O<|RQ Vt O<|Ph O<|P4<|PM.qb (e:=[(4,_),(5,_),(6,_),(7,_),(8,_),(9,_),(29,_),(30,_),(31,_)]) ?_
 refine P6<|RX (α:=Nat×List (Nat×Nat)×Value) (0,[],.slice (some ⟨C,0,none⟩) 1 1) (λy=>[(7,ptr k 0),(9,y.2.2),(29,.slice ga g.length gc),(30,I (g.length:Int)),(31,I (y.1:Int))]) (λy w'=>EnI w p g k wp y.1 y.2.1 y.2.2 w'/\y.1<=g.length) (λy=>g.length-y.1) ?hI ?hround
 case hI=>exact⟨⟨⟨F,z8f,BI,λj d=>by have:=oZ j d;omega,λj d e=>by have q:C=j:=RZ e;have:=hW.lt d;omega⟩,aO.trans N,ω,E9,λb A=>by have q:C=b:=RZ A;omega,λe=>by have q:C=k:=RZ e;omega,λj e h=>by simp at h,y00 _⟩,y00 _⟩
 case hround =>
  rintro⟨i,E,v⟩ w4 ⟨hI,hi⟩ ih;dsimp only at hI hi;obtain⟨F,R,V,L,Ir⟩:=hI.pk;have rY:=hI.bd;have aP:=z4n p g E i;have m:=V.el;rw[y0d,y0B hi] at m;obtain⟨va,vc,rfl,-⟩:=hI.sl.rd.shape
  try dsimp only
  refine qN O<|QY O<|P4<|OY<|Pn O (λU=>?_)<|λU=>?_
  ·have dw:i<g.length:=ω
   obtain⟨l,G⟩:∃l,g[i]? =some l:=⟨_,y03 dw⟩;have io:=y0j G;have fM:=hg.len io;have P:=hg.ok l io;obtain⟨vs,Ea,kV⟩:=jI.ex;obtain⟨a,c,q,e2,J⟩:=kV i l G;have fL:=Ea.ext hI.ext;have e3:=J.ext hI.ext
   obtain⟨gb,go,a1,e4⟩:∃b o B,Value.slice ga g.length gc= .slice (some ⟨b,o,none⟩) g.length B:=by
    rcases fL.2 with⟨c,M,U⟩|⟨b,off,B,M,-⟩
    ·omega
    ·exact⟨b,off,B,M⟩
   cases e4;have f:(g.take i).length=i:=by rw[y0d];omega
   have ui:=Ut hg i;refine P5<|R0<|qN O<|qV (Qc Vt SJ O O ω)<|qV (PG PS O O (Qs fL q)) ?_
   have nU:∀r,r<=p.PE->(R3 p g E i).length+(PD (S2 p.list (g.take i).length l (R7 (g.take i) (g.take i).length r) r)).length<=134217728:=λr hr=>by
    have K:Q4 (R7 (g.take i) (g.take i).length r)/\(R7 (g.take i) (g.take i).length r).length<=60:=by
     rcases XJ (g.take i) (g.take i).length r with e| e
     ·rw[e];exact⟨⟨y1p,λy h=>(by cases h)⟩,y00 _⟩
     ·exact⟨hg.ok _ (y0Z e),by have:=hg.len (y0Z e);omega⟩
    have H:=z06 W.1 (x:=(g.take i).length) ω P K.1 (show r<=p.list.PE from hr) ω K.2;omega
   have wj:=hI.sl;have xS:∀b,(Value.slice va (WX p g E i).length vc).ownBlock=some b->b<w4.heap.size:=λb A=>wj.lt A;refine Pq O (OY (QG O (Px zi9 O (z9U W V (hI.ext.OZ hG) (hI.ext.OZ hU) ω P e2 e3 ω (λb U A=>by have h1:=J.ltz ψ U A;have:=hI.nk;exact⟨λe=>by have:=L b e;omega,ω⟩) nU) ?_)));rintro _ s⟨r,least,D,t,R',rfl,Y,Z,z,wL⟩;have a2:=V.OZ.lt;have z5:=z.size;have aS:Ext w s:=hI.ext.It z (λj d=>by rcases d with e|e;exact L j e;(have:=hI.nk;omega));have Lj:(E++[(r,D)]).length=i+1:=by rw[Pe,m];rfl
   have mf:r<=i:=by
    rcases Y with e|⟨-,-,H,-⟩
    ·have:r=0:=(Prod.mk.inj e).1;omega
    ·rw[f] at H;exact H
   have uj:(E++[(r,D)])[i]? =some (r,D):=by rw[y0W ω,m,y1b];rfl
   have qw:YH p g (E++[(r,D)]) i=PD (S2 p.list (g.take i).length l (R7 (g.take i) (g.take i).length r) r):=by
    unfold YH;rw[uj,G,f,z6K mf];rfl
   have i8:R3 p g (E++[(r,D)]) (i+1)=R3 p g E i++PD (S2 p.list (g.take i).length l (R7 (g.take i) (g.take i).length r) r):=by
    rw[Ty,z25 p g E _ i ω,qw]
   have Eb:(R3 p g (E++[(r,D)]) (i+1)).length<=(i+1)*44800:=by
    have K:Q4 (R7 (g.take i) (g.take i).length r)/\(R7 (g.take i) (g.take i).length r).length<=60:=by
     rcases XJ (g.take i) (g.take i).length r with e| e
     ·rw[e];exact⟨⟨y1p,λy h=>(by cases h)⟩,y00 _⟩
     ·exact⟨hg.ok _ (y0Z e),by have:=hg.len (y0Z e);omega⟩
    have jg:r<=p.list.PE:=by
     rcases Y with e|⟨-,H,-⟩
     ·have:r=0:=(Prod.mk.inj e).1;omega
     ·exact H
    have H:=z06 W.1 (x:=(g.take i).length) ω P K.1 jg ω K.2;rw[i8,Pe];omega
   rw[<-i8,<-Qa G,<-YQ,<-Qa G] at Z;have gp:(R3 p g (E++[(r,D)]) (i+1)).length<=9223372036854775:=ω
   refine Ph O<|Ta O<|qV (S9 (v:=I 0) O O)<|SO O<|SO O<|Rq O<|R5 O<|QC O<|Pc O<|PB O<|Px zi2 O (z7y Z gp) ?_;rintro _ w6⟨rfl,aM⟩;refine qV (QH O U3 RW ω) (Pb O O (YD (cs:=[_]) (zs:=[Value.int .u64 0]) U34 TH O Pd O O O ψ) ?_);rintro _ w7⟨a0,rfl,⟨Lk,cm,bN⟩,Ec⟩;have Q:=aM.trans cm;have a3:=Q.size;have nT:∀j,t j->j<s.heap.size:=λj d=>Z.wr.lt d;have Id:=wj.kp z (λb A e=>by rcases e with e|e;exact Ir b e A;exact hI.vk (e▸A));have BJ:=Id.ext Q
   have yn:∀j,t j->(Value.slice va (WX p g E i).length vc).ownBlock≠some j:=λj d e=>by
    rcases wL j d with q|q
    ·exact Ir j q e
    ·have:=xS j e;omega
   refine Pb O O (pap U34 TH O ψ O O BJ Ec.rd (by intro c M;simp at M;subst M;rfl) ω (by simp only[maxLen];omega)) ?_;rintro v8 w8⟨eC,aH,kT,-⟩;have pi:=(Z.ext Q).kpT (T:=39) ψ BJ aH hI.vk yn;have X:∀b,v8.ownBlock=some b->(Value.slice va (WX p g E i).length vc).ownBlock=some b\/s.heap.size<=b:=λb A=>(kT b A).imp id (λe=>ω);refine Pq O<|An<|Pc O<|Qj O<|Ph O<|P4 ((ih (i+1,E++[(r,D)],v8) _ ⟨⟨⟨t,R',pi,λj d=>?_,λj d e=>?_⟩,(aS.trans Q).It aH (λj d=>hI.fr j d),hI.nk,?_,λb A=>?_,λe=>?_,λj e d=>?_,Eb⟩,dw⟩ (by dsimp only;omega)).qb)
   ·rcases wL j d with e| e
    ·exact L j e
    ·have:=hI.ext.size;omega
   ·rcases X j e with q|q
    ·exact yn j d q
    ·have:=nT j d;omega
   ·rw[zcL,zeA p g E _ i ω,Pe,y0f];exact eC
   ·rcases X b A with q|q
    ·exact hI.fr b q
    ·have:=aS.size;omega
   ·rcases X k e with q|q
    ·exact hI.vk q
    ·omega
   ·rcases y0a j i with s6|s6
    ·rw[y0C ω] at d;exact(hI.ent j e d).mono (λ_ _ h=>h) (λj' l' h=>by rw[y0C (y0m.1 h).1];exact h)
    ·have DO:=(y0m.1 d).1;rw[Lj] at DO;have ej:j=i:=ω
     subst ej;rw[uj] at d;cases d;rw[G];rw[f] at Y
     exact Y.mono (λj' l' h=>by
      have:=(y0m.1 h).1;rw[f] at this
      rwa [getD_take this] at h) (λj' l' h=>by rw[y0C (y0m.1 h).1];exact h)
  ·have df:i=g.length:=ω
   subst df;refine Pf O<|PL O<|Px zi6 O (z6H V) ?_;rintro _ s⟨rfl,rfl⟩;refine Ph O<|Ta O<|SO O<|Ro O<|PB O<|Ph O<|SO O<|QS O<|P3 func91 O ?_;have fR:=hI.sl;rw[aP] at fR;exact⟨_,O,E,_,O,m,⟨hI.ent⟩,ω,by rw[aP];exact fR,hI.fr,hI.ext⟩
structure Fm where
 n:Nat
 u:Nat
 width:Nat
 bits:Nat
def fmC (f:Fm):List Value:=[I (f.n:Int),Pt f.u,I (f.width:Int),I (f.bits:Int)]
abbrev fmV (f:Fm):Value:= .agg (fmC f).toArray
def YR (n u:Nat):Nat:=if u / n=0 then 0 else Qn (u / n)-1
def Ur (n u:Nat):Fm:=⟨n,u,YR n u,(u-1) / 2^YR n u+n⟩
def Fm.high (f:Fm):Nat:=12+(f.n*f.width+7) / 8
def Fm.Vw (f:Fm):Nat:=f.high+(f.bits+7) / 8
def Fm.size (f:Fm):Nat:=f.Vw+4*((f.n+63) / 64)
def ZN {n u:Nat}(h:u<=1000000000):YR n u<=30:=by
 unfold YR
 split
 ·omega
 ·have d:u / n<=u:=y0R _ _;have e:Qn (u / n)<=30:=Rz ω;omega
theorem z1M {n u:Nat}(A:1<=n)(C:1<=u):(u-1) / 2^YR n u<2*n:=by
 have q:0<2^YR n u:=y0v _
 rw[y26 q]
 unfold YR
 split
 ·rename_i h
  have:u<n:=by
   rcases y0a u n with l|l
   ·exact l
   ·have:=Nat.div_pos l ω;omega
  simp;omega
 ·rename_i h
  have d:u / n<2^Qn (u / n):=XB;have x:Qn (u / n)≠0:=λe=>by rw[e,Nat.pow_zero] at d;exact h (Nat.lt_one_iff.1 d)
  obtain⟨k,v⟩:∃k,Qn (u / n)=k+1:=⟨Qn (u / n)-1,ω⟩;rw[v] at d⊢;rw[y1g]
  have r:u<n*2^(k+1):=by
   have:=(y26 (show 0<n by omega)).1 d
   rwa [y0J] at this
  rw[y1L] at r;have e:n*(2^k*2)=2*n*2^k:=by rw[y0J (2^k) 2,<-y2d,y0J n 2]
  omega
def zak {n u:Nat}(d:1<=n)(e:1<=u):(Ur n u).bits<=3*n:=by
 have:=z1M d e
 show(u-1) / 2^YR n u+n<=_
 omega
theorem Yx (n u:Nat)(c:1<=n)(B:n<=1000)(g:1<=u)(j:u<=1000000000)(w:World):PN prog 134 [I (n:Int),Pt u] w λv w'=>v=fmV (Ur n u)/\Ext w w':=by
 have L:=ZN (n:=n) j
 have a:=z1M c g
 have f:u / n<=u:=y0R _ _
 obtain⟨q,A⟩:∃q,u / n=q:=⟨_,O⟩
 have G:YR n u=if q=0 then 0 else Qn q-1:=by rw[YR,A]
 rw[A] at f
 have t:Qn q<=30:=Rz ω
 refine py (e:=[(0,_),(1,_)]) func134 O ntmps134 O O<|qN O<|Pb O O (S5 (cs:=[_,_,_,_]) TU O) ?_
 rintro _ w1⟨b4,rfl,y,K,J⟩
 refine qM O<|PB O<|qV (T3 (cs:=[_,_,_,_]) TU O zjS O O)<|Pb O O (S5 (cs:=[_,_,_,_]) TU O) ?_
 rintro _ w2⟨b5,rfl,z,l,H⟩
 have R:=K.size
 have T:=l.size
 have E:=J.lt
 have F:=H.lt
 refine Po O (Qh (news:=[I (n:Int),Pt u,I 0,I 0]) TU O O O O H ξ) ?_
 rintro D⟨h,r⟩
 replace h:Pm D b5 [I (n:Int),Pt u,I 0,I 0] 236:=h
 have U:Ext w D:=(K.trans l).It r (λi e=>ω)
 have Q:=r.OZ (l.OZ J) ω
 have X:=r.size
 refine P4<|Qi O<|Rx O<|Qb<|QC O<|OY<|QG O<|qV (QH O U3 RW ω)<|qV (zho (m:=u) (n:=n) O O O (by show u<2^64;omega) ω) ?_
 rw[A]
 refine Rq O<|R8 O<|P4<|Qf (λS w'=>S=[(0,I (n:Int)),(1,Pt u),(4,ptr b4 0),(5,ptr b5 0)]/\Ext w w'/\Pm w' b5 [I (n:Int),Pt u,I (YR n u:Int),I 0] 236/\Pm w' b4 [I 0,Pt 0,I 0,I 0] 236) ?bI<|λbI=>?cZ
 case bI=>
  rintro S V⟨rfl,Y,d,Z⟩;refine PL O (qV (Xm (m:=u) (n:=1) O O O (by show u<2^64;omega) ω) ?_);refine Pr TN O<|qV (Pl U3 O O d O)<|qV (Vk (YR n u) (2^YR n u) O O (by show YR n u<=64;omega) O) ?_
  generalize s:(u-1) / 2^YR n u=qb at a
  refine qV (Q8 O RW U3 ω) (Ph O (Qj O (Pr ZD O (Po O (QZ Qe O O O d ξ) ?_))));rintro o⟨C,M⟩;replace C:Pm o b5 [I (n:Int),Pt u,I (YR n u:Int),I ((qb+n:Nat):Int)] 236:=C;refine qM O (qV (PO Zt O TU O (Pm.cells (n:=4) C (news:=[_,_,_,_]) O) O) (Po O (Qh (news:=[I (n:Int),Pt u,I (YR n u:Int),I ((qb+n:Nat):Int)]) TU O O O O (M.OZ Z ω) ξ) ?_));rintro p⟨x,W⟩;replace x:Pm p b4 [I (n:Int),Pt u,I (YR n u:Int),I ((qb+n:Nat):Int)] 236:=x;refine P4 (PK func134 (.cell Zt O TU O (Pm.cells (n:=4) x (news:=[_,_,_,_]) O) O .nil) (⟨_,O,?_,(Y.It M (λi e=>ω)).It W (λi e=>ω)⟩));unfold fmV fmC Ur;rw[s]
  rfl
 case cZ=>
  refine Pn O (λb=>?_)<|λb=>?_
  ·refine Ra O (Px z3q O (UN q ω _) ?_);rintro _ D⟨rfl,rfl⟩;have P:Qn q≠0:=λe=>by have:=XB (v:=q);rw[e] at this;omega
   refine RR O ?_;rw[show(Qn q:Int)-1=(YR n u:Int) by rw[G,if_neg ω];omega];refine Pr TN O (Po O (QZ Qe O O O h ξ) ?_);rintro V⟨d,N⟩;replace d:Pm V b5 [I (n:Int),Pt u,I (YR n u:Int),I 0] 236:=d;refine P4 ?_;exact(bI _ _ ⟨O,U.It N (λi e=>ω),d,N.OZ Q ω⟩).qb
  ·have k:YR n u=0:=by rw[G,if_pos ω]
   refine P5 ?_;exact(bI _ _ ⟨O,U,by rw[k];exact h,Q⟩).qb
def Fm.small (f:Fm):Prop:=f.n<=100000/\f.width<=64/\f.bits<=1000000
theorem z6f (f:Fm)(x:f.small)(w:World):PN prog 227 [fmV f] w λv w'=>v=I (f.high:Int)/\Ext w w':=by
 obtain⟨q,r,C⟩:=x
 have D:f.n*f.width<=100000*64:=y1B q r
 refine py (e:=[(0,_)]) func227 O ntmps227 O O<|qN O<|Pb O O (RP O (cs:=fmC f) O) ?_
 rintro _ w1⟨b1,rfl,A,l,d⟩
 replace d:Pm w1 b1 [I (f.n:Int),Pt f.u,I (f.width:Int),I (f.bits:Int)] 236:=d
 refine Ro O<|Pr Zh O<|qV (Pl U3 O O d O)<|Pr TN O<|qV (Pl U3 O O d O) ?_
 have h:((f.n*f.width:Nat):Int)=(f.n:Int)*(f.width:Int):=y2x _ _
 refine qV (Y8 O O (by rw[<-h];omega)) ?_
 rw[<-h]
 refine Qj O<|qV (X5 O O ω)<|Qj O<|Pq O<|P3 func227 O (⟨_,O,?_,l⟩)
 show I (12+(((f.n*f.width:Nat):Int)+7) / 8)=I ((12+(f.n*f.width+7) / 8:Nat):Int)
 congr 1
def Fm.XO {f:Fm}(h:f.small):f.high<=10000000:=by
 obtain⟨d,e,l⟩:=h
 have q:f.n*f.width<=100000*64:=y1B d e
 unfold Fm.high
 omega
theorem z6j (f:Fm)(q:f.small)(w:World):PN prog 205 [fmV f] w λv w'=>v=I (f.Vw:Int)/\Ext w w':=by
 have G:=Fm.XO q
 obtain⟨A,C,D⟩:=id q
 refine py (e:=[(0,_)]) func205 O ntmps205 O O<|qN O<|Pb O O (RP O (cs:=fmC f) O) ?_
 rintro _ w1⟨b1,rfl,x,r,l⟩
 replace l:Pm w1 b1 [I (f.n:Int),Pt f.u,I (f.width:Int),I (f.bits:Int)] 236:=l
 have hg:=Ext.Pz w1
 refine Pq O<|OY<|RI (λw'=>Ext w1 w') O<|qT 0 O (λ_ h=>PO Zt O TU O (Pm.cells (n:=4) (h.OZ l) (news:=[_,_,_,_]) O) O) hg<|P7 2 O (PU ZD O) hg<|qT 3 O (λ_ h=>Pl U3 O O (h.OZ l) O) hg<|P7 4 O (Vu O O ω) hg<|P7 5 O (X5 O O ω) hg<|Tl 1 O zf5 O (z6f f q _) ?_
 rintro _ w2⟨rfl,d⟩
 refine⟨hg.trans d,?_⟩
 refine P7 6 O (Vu O O ω) (hg.trans d)<|P7 7 O (S6 O) (hg.trans d)<|qE<|P3 func205 O (⟨_,O,?_,(r.trans hg).trans d⟩)
 show I ((f.high:Int)+((f.bits:Int)+7) / 8)=I ((f.high+(f.bits+7) / 8:Nat):Int)
 congr 1
theorem z2X (f:Fm)(q:f.small)(w:World):PN prog 176 [fmV f] w λv w'=>v=I (f.size:Int)/\Ext w w':=by
 have H:=Fm.XO q
 obtain⟨C,D,G⟩:=id q
 have A:f.Vw<=20000000:=by unfold Fm.Vw;omega
 refine py (e:=[(0,_)]) func176 O ntmps176 O O<|qN O<|Pb O O (RP O (cs:=fmC f) O) ?_
 rintro _ w1⟨b1,rfl,x,r,l⟩
 replace l:Pm w1 b1 [I (f.n:Int),Pt f.u,I (f.width:Int),I (f.bits:Int)] 236:=l
 have hg:=Ext.Pz w1
 refine Pq O<|OY<|RI (λw'=>Ext w1 w') O<|qT 0 O (λ_ h=>PO Zt O TU O (Pm.cells (n:=4) (h.OZ l) (news:=[_,_,_,_]) O) O) hg<|P7 2 O (PU Zh O) hg<|qT 3 O (λ_ h=>Pl U3 O O (h.OZ l) O) hg<|P7 4 O (Vu O O ω) hg<|P7 5 O (Yf O O ω) hg ?_
 rw[show(f.n:Int)+64-1=((f.n+63:Nat):Int) by omega]
 refine P7 6 O (X5 O O ω) hg<|P7 7 O (Y8 O O ω) hg<|Tl 1 O zf2 O (z6j f q _) ?_
 rintro _ w2⟨rfl,d⟩
 refine⟨hg.trans d,?_⟩
 refine P7 8 O (Vu O O ω) (hg.trans d)<|P7 9 O (S6 O) (hg.trans d)<|qE<|P3 func176 O (⟨_,O,?_,(r.trans hg).trans d⟩)
 show I ((f.Vw:Int)+4*(((f.n+63:Nat):Int) / 64))=I ((f.Vw+4*((f.n+63) / 64):Nat):Int)
 congr 1
def z3P {n u:Nat}(d:1<=n)(r:n<=1000)(e:1<=u)(h:u<=1000000000):(Ur n u).small:=by
 have l:=zak d e
 have q:=ZN (n:=n) h
 refine⟨?_,?_,ω⟩
 ·show n<=_;omega
 ·show YR n u<=_;omega
theorem z6r (n last:Nat)(d:1<=n)(h:n<=1000)(l:last+1<=1000000000)(w:World):PN prog 174 [I (n:Int),Pt last] w λv w'=>v= .tuple #[I ((Ur n (last+1)).size:Int),I 0]/\Ext w w':=by
 refine py (e:=[(0,_),(1,_)]) func174 O ntmps174 O O<|qN O<|QS O<|R0<|PL O<|QY O<|PB O<|R8 O<|Qb<|Ql O<|PB O<|R8 O<|Qb<|Ql O ?_
 refine PB O<|Rx O<|Qb<|Ph O<|QV<|Ql O<|Ql O<|Pq O<|P9 O<|PL O<|Rx O<|Qb<|Pq O<|PM.qb (e:=[(0,_),(1,_),(4,_),(5,_),(25,_)]) ?_
 refine Tj O<|An<|QG O<|qV (VD O O) ?_
 rw[y0g (show last+1<18446744073709551616 by omega)]
 refine Px zbZ O (Yx n (last+1) d h ω l _) ?_
 rintro _ w1⟨rfl,q⟩
 refine Px zfi O (z2X _ (z3P d h ω l) _) ?_
 rintro _ w2⟨rfl,r⟩
 refine QS O<|P3 func174 O ?_
 exact⟨_,O,O,q.trans r⟩
theorem z9o {a:Option Addr}{l:List Nat}(V:l.length<=1000)(K:Nof l)(J:∀v∈l,v<=1000000000)(x:Rd w (.slice a l.length c) 1 l.length (l.map Pt)):PN prog 133 [.slice a l.length c] w λv w'=>v= .bool true/\w'=w:=by
 refine py (e:=[(0,_)]) func133 O ntmps133 O O<|Re O<|Qi O<|RQ U34 O<|R8 O<|Qb<|QC O<|Re O<|Qi O<|RQ U34 O<|Ph O<|P4<|P6<|RX (α:=Nat×Nat) (0,0) (λy=>[(3,Pt y.2),(9,.slice a l.length c),(10,I (l.length:Int)),(11,I (y.1:Int))]) (λy w'=>w'=w/\y.1<=l.length/\y.2<=1000000000/\∀v,l[y.1]? =some v->y.2<=v) (λy=>l.length-y.1) ?hI ?hround
 case hI=>exact⟨O,y00 _,y00 _,λv _=>y00 _⟩
 case hround=>
  rintro⟨i,z⟩ W ⟨rfl,hi,N,n⟩ Q;dsimp only at hi N n
  try dsimp only
  refine qN O<|QY O<|P4<|OY<|Pn O (λr=>?_)<|λr=>?_
  ·have q:i<l.length:=ω
   obtain⟨v,d⟩:∃v,l[i]? =some v:=⟨_,y03 q⟩;have S:=n v d;have C:=J v (y0j d)
   obtain⟨U,go,H,G⟩:∃b o h,Value.slice a l.length c= .slice (some ⟨b,o,none⟩) l.length h:=by
    rcases x.2 with⟨c,A,r⟩|⟨b,off,h,A,-⟩
    ·omega
    ·exact⟨b,off,h,A⟩
   cases G;refine P5 (R0 (qN O (qV (Qc U34 TH O O ω) (qV (PG RW O O (Qs x (show(l.map Pt)[i]? =some (Pt v) by rw[y0i,d];rfl))) ?_))));refine Pq O<|OY<|QG O<|QY O<|Qb<|PB O<|R8 O<|Qb<|Ql O<|QC O<|Ra O<|Pq O<|An<|Pc O ?_;refine Qj O (Ph O (P4 ((Q (i+1,v) _ ⟨O,q,C,λu M=>?_⟩ (by dsimp only;omega)).qb)));obtain⟨D,a2⟩:=y0m.1 d;obtain⟨b1,b2⟩:=y0m.1 M;have:=y1z.1 K i (i+1) D b1 ω
   rwa [a2,b2] at this
  ·refine Pf O<|Re O<|P3 func133 O ?_;exact⟨_,O,O,O⟩
def SV (k:Nat)(l:List Nat):List Bool:=l.flatMap λv=>PF k (v%2^k)
def SA (k:Nat):List Nat->List Bool
 |[]=>[]
 |v::_=>PF 32 (v / 2^k)
theorem zaZ (k:Nat)(l:List Nat)(v:Nat):SV k (l++[v])=SV k l++PF k (v%2^k):=by simp[SV]
theorem US (k:Nat):∀l:List Nat,(SV k l).length=l.length*k
 |[]=>by simp[SV]
 | v :: l => by
   show(PF k (v%2^k)++SV k l).length=_;rw[Pe,US k l,bitsN_length,y01,y0G];omega
theorem z5V (k:Nat):∀(l:List Nat)(len i v:Nat),Nof (l++[v])->(∀x,(l++[v]).head? =some x->len<=x / 2^k+i)->
  len+(hiB k len i l).length<=v / 2^k+(i+l.length)/\hiB k len i (l++[v])=hiB k len i l++(List.replicate (v / 2^k+(i+l.length)-(len+(hiB k len i l).length)) false++[true])
 | [], len, i, v, _, hl => by
   have:=hl v O;refine⟨by simp[hiB];omega,?_⟩
   simp[hiB]
 | x :: r, len, i, v, hn, hl => by
   have q:=hl x O;rw[y0q] at hn;obtain⟨n1,n2⟩:=y1m.1 hn
   obtain⟨n,e⟩:=z5V k r (x / 2^k+i+1) (i+1) v n2 (λy h=>by
    have d:y∈r++[v]:=List.mem_of_mem_head? h;have:=y1M (c:=2^k) (n1 y d)
    omega)
   rw[y0q,hiB,hiB,e,Pe,y08,y01,y01];refine⟨ω,?_⟩;rw[y05,y0q,show v / 2^k+(i+1+r.length)-(x / 2^k+i+1+(hiB k (x / 2^k+i+1) (i+1) r).length)=v / 2^k+(i+(r.length+1))-(len+(x / 2^k+i-len+((hiB k (x / 2^k+i+1) (i+1) r).length+1))) by omega]
def z73 (k:Nat)(l:List Nat)(v:Nat):SA k (l++[v])=SA k l++if l.length=0 then PF 32 (v / 2^k) else []:=by
 cases l with
 |nil=>simp[SA]
 |cons x l=>simp[SA]
def YZ (l:List Nat)(f:Fm):P8:=PJ (PF 32 f.n++PF 64 f.u)++PJ (SV f.width l)++PJ (hiB f.width 0 0 l)++PJ (SA f.width l)
theorem zcu {b:Nat}:∀{l:List Nat},(∀x∈l,x<=b)->l.sum<=l.length*b
 |[],_=>ξ
 | x :: l, h => by
   have e:=h x y0p;have n:=zcu (λy d=>h y (y0s x d));rw[y0I,y01,y0G];omega
def za1 (k:Nat)(l:List Nat):(SA k l).length<=32:=by
 cases l with
 |nil=>simp[SA]
 |cons v l=>simp[SA]
theorem z2i (k:Nat){l:List Nat}(d:Nof l)(e:l[l.length-1]? =some z):(hiB k 0 0 l).length=z / 2^k+l.length:=by
 have:=z8Y k l 0 0 d (λx h=>y00 _) z (by rw[List.getLast?_eq_getElem?];exact e)
 omega
/-! ### Three writers side by side -/
def zcG (A B:Nat->Prop):Prop:=∀k,A k->¬B k
structure EfW (w0 w:World)(b5:Nat)(f:Fm)(p1 p2 p3:Nat)(l1 l2 l3:List Bool):Prop where
 ex:∃F1 F2 F3:Nat->Prop,Za w p1 l1 F1/\Za w p2 l2 F2/\Za w p3 l3 F3/\zcG F1 F2/\zcG F2 F3/\zcG F3 F1/\∀k,F1 k\/F2 k\/F3 k->w0.heap.size<=k/\k≠b5
 ext:Ext w0 w
 OZ:Pm w b5 (fmC f) 236
section
variable {w0:World}{b5:Nat}{f:Fm}{p1 p2 p3:Nat}{l1 l2 l3:List Bool}
theorem EfW.rot (h:EfW w0 w b5 f p1 p2 p3 l1 l2 l3):EfW w0 w b5 f p2 p3 p1 l2 l3 l1:=by
 obtain⟨⟨d,l,n,q,r,u,v,x,A,C⟩,H,D⟩:=h
 exact⟨⟨l,n,d,r,u,q,x,A,v,λk G=>C k (by rcases G with e|e|e;exact .inr (.inl e);exact .inr (.inr e);exact .inl e)⟩,H,D⟩
theorem EfW.on (h:EfW w0 w b5 f p1 p2 p3 l1 l2 l3)(d:Ext w w2):EfW w0 w2 b5 f p1 p2 p3 l1 l2 l3:=by
 obtain⟨⟨e,l,n,q,r,u,v,x,A,C⟩,G,D⟩:=h
 exact⟨⟨e,l,n,q.ext d,r.ext d,u.ext d,v,x,A,C⟩,G.trans d,d.OZ D⟩
theorem EfW.zdU (h:EfW w0 w b5 f p1 p2 p3 l1 l2 l3):∃q,Za w p1 l1 q/\¬q b5/\(∀w2 l,WrR p1 q w w2 l->EfW w0 w2 b5 f p1 p2 p3 l l2 l3):=by
 obtain⟨⟨q,J,K,N,A,C,D,Q,G,r⟩,I,H⟩:=h
 refine⟨q,N,λe=>(r b5 (.inl e)).2 O,λw2 l S=>?_⟩
 obtain⟨v,M,u,x⟩:=S
 have z:=I.size
 have U:=H.lt
 refine⟨⟨v,J,K,M,A.kp u (λi hi e=>D i e hi),C.kp u (λi hi e=>G i hi e),λk d e=>?_,Q,λk d e=>?_,λk d=>?_⟩,I.It u (λk d=>(r k (.inl d)).1),u.OZ H (λe=>(r b5 (.inl e)).2 O)⟩
 ·rcases x k d with n|n
  ·exact D k n e
  ·have:=A.lt e;omega
 ·rcases x k e with n|n
  ·exact G k d n
  ·have:=C.lt d;omega
 ·rcases d with d|d
  ·rcases x k d with n|n
   ·exact r k (.inl n)
   ·exact⟨ω,ω⟩
  ·exact r k (.inr d)
def EfW.zdK (h:EfW w0 w b5 f p1 p2 p3 l1 l2 l3):∃d,Za w p2 l2 d/\(∀w2 l,WrR p2 d w w2 l->EfW w0 w2 b5 f p1 p2 p3 l1 l l3):=by
 obtain⟨d,e,-,n⟩:=h.rot.zdU
 exact⟨d,e,λw2 l q=>(n w2 l q).rot.rot⟩
def EfW.zkD (h:EfW w0 w b5 f p1 p2 p3 l1 l2 l3):∃d,Za w p3 l3 d/\(∀w2 l,WrR p3 d w w2 l->EfW w0 w2 b5 f p1 p2 p3 l1 l2 l):=by
 obtain⟨d,e,-,n⟩:=h.rot.rot.zdU
 exact⟨d,e,λw2 l q=>(n w2 l q).rot⟩
end
theorem z4G {a:Option Addr}{l:List Nat}(ci:1<=l.length)(hn:l.length<=64)(T:Nof l)(hm:∀v∈l,v<=999999999)(E:Rd w (.slice a l.length c) 1 l.length (l.map Pt))(Y:l[l.length-1]? =some z):
  PN prog 94 [.slice a l.length c] w λv w'=>v= .tuple #[S (YZ l (Ur l.length (z+1))),I 0]/\Ext w w':=by
 have Oj:=hm z (y0j Y)
 have Iu:∀v∈l,v<=z:=λv D=>by
  obtain⟨j,W⟩:=y3d.1 D;obtain⟨a1,a2⟩:=y0m.1 W;obtain⟨b1,b2⟩:=y0m.1 Y;rcases y0a j (l.length-1) with h| h
  ·have:=y1z.1 T j (l.length-1) a1 b1 h
   rwa [a2,b2] at this
  ·have e:j=l.length-1:=ω
   subst e;rw[Y] at W;cases W;exact y02 _
 have mQ:=ZN (n:=l.length) (u:=z+1) ω
 have X:=z1M (n:=l.length) (u:=z+1) ci ω
 rw[y1g] at X
 obtain⟨gb,go,a7,e4⟩:∃b o c',Value.slice a l.length c= .slice (some ⟨b,o,none⟩) l.length c':=by
  rcases E.2 with⟨c,hc,h0⟩|⟨b,off,c',hc,-⟩
  ·omega
  ·exact⟨b,off,c',hc⟩
 cases e4
 refine py (e:=[(0,_)]) func94 O ntmps94 O O<|qN O<|QS O<|Qi O<|Px zha O (z9o ω T (λv D=>by have:=hm v D;omega) E) ?_
 rintro _ w⟨rfl,rfl⟩
 refine qV (SD O)<|QC O<|Re O<|Qi O<|RQ U34 O<|R8 O<|P4<|Pn O (λh0=>?_)<|λh0=>?_
 ·refine Pc O<|PB O<|RQ U34 O<|RR O ?_;rw[show(l.length:Int)-1=((l.length-1:Nat):Int) by omega];refine qV (Qc U34 TH O O ω) (qV (PG RW O O (Qs E (show(l.map Pt)[l.length-1]? =some (Pt z) by rw[y0i,Y];rfl))) ?_);refine qV (VD O O) ?_;rw[y0g (show z+1<18446744073709551616 by omega)];refine Rq O (RQ U34 O (Ph O (Px zbZ O (Yx l.length (z+1) ci ω ω ω _) ?_)));rintro _ w1⟨rfl,ad⟩
  generalize hf:Ur l.length (z+1)=f
  have Lm:f.width=YR l.length (z+1):=by rw[<-hf];rfl
  have pX:f.n=l.length:=by rw[<-hf];rfl
  have BL:f.u=z+1:=by rw[<-hf];rfl
  rw[<-Lm] at mQ X;refine Pb O O (S5 (cs:=[_,_,_,_]) TU O) ?_;rintro _ w2⟨b5,rfl,gp,N,aD⟩;refine Po O (Qh (news:=fmC f) TU O O O O aD ξ) ?_;rintro w3⟨P,aq⟩;replace P:Pm w3 b5 (fmC f) 236:=P;have z1:=ad.size;have z2:=N.size;have a8:=P.lt;have aV:Ext w1 w3:=N.It aq (λi e=>ω);have z3:=aV.size;refine qM O<|Px z1V O (V7 w3) ?_;rintro _ w4⟨p1,F1,rfl,Ef,ay,oZ⟩;refine Px z1V O (V7 w4) ?_;rintro _ w5⟨p2,F2,rfl,Iv,g,Iw⟩;refine Px z1V O (V7 w5) ?_;rintro _ w6⟨p3,F3,rfl,mP,Z,qm⟩;have z4:=ay.size;have z5:=g.size
  have Ln:EfW w w6 b5 f p1 p2 p3 [] [] []:=⟨⟨F1,F2,F3,(Ef.ext g).ext Z,Iv.ext Z,mP,λk r C=>by have:=Ef.lt r;have:=Iw k C;omega,λk r C=>by have:=Iv.lt r;have:=qm k C;omega,λk r C=>by have:=Ef.lt C;have:=qm k r;omega,λk hk=>by
   rcases hk with h|h| h
   ·have:=oZ k h;omega
   ·have:=Iw k h;omega
   ·have:=qm k h;omega⟩,(((ad.trans aV).trans ay).trans g).trans Z,Z.OZ (g.OZ (ay.OZ P))⟩
  refine SO O<|QS O<|PM.qb (e:=[(0,_),(2,_),(3,_),(4,_),(5,_),(6,_),(7,_),(8,_)]) ?_;refine Qi O<|RQ U34 O<|Ph O<|P4<|P6<|RX (α:=Nat) (0) (λi=>[(4,Pt (z+1)),(5,ptr b5 0),(6,ptr p1 0),(7,ptr p2 0),(8,ptr p3 0),(39,.slice (some ⟨gb,go,none⟩) l.length c),(40,I (l.length:Int)),(41,I (i:Int))]) (λi w'=>EfW w w' b5 f p1 p2 p3 (SV f.width (l.take i)) (hiB f.width 0 0 (l.take i)) (SA f.width (l.take i))/\i<=l.length) (λi=>l.length-i) ?hI ?hround
  case hI=>exact⟨Ln,y00 _⟩
  case hround =>
   rintro i U⟨H,hi⟩ ih
   try dsimp only
   refine qN O<|QY O<|P4<|OY<|Pn O (λr=>?_)<|λr=>?_
   ·have dw:i<l.length:=ω
    obtain⟨v,D⟩:∃v,l[i]? =some v:=⟨_,y03 dw⟩;have Ee:=Iu v (y0j D);have pj:v / 2^f.width<=z / 2^f.width:=y1M Ee;have qf:(l.take i).length=i:=by rw[y0d];omega
    obtain⟨p,s⟩:=z5V f.width (l.take i) 0 0 v (by rw[<-Qa D];exact T.sublist (y3g _ _)) (λx L=>y00 _);rw[<-Qa D,y09,y09,qf] at s;rw[y09,y09,qf] at p;have Ol:(l.take i).length*f.width<=64*30:=y1B ω ω;have hg:=Ext.Pz U;obtain⟨a0,Eg,yp,eD⟩:=(H.on hg).zdU;have yr:Pm U b5 [I (f.n:Int),Pt f.u,I (f.width:Int),I (f.bits:Int)] 236:=H.OZ;have tI:=y0v f.width;have Om:2^f.width<=2^30:=y0r ψ mQ;refine P5 (R0 (PL O (qV (Qc U34 TH O O ω) (qV (PG RW O O (Qs (E.ext H.ext) (show(l.map Pt)[i]? =some (Pt v) by rw[y0i,D];rfl))) ?_))));refine QS O (OY (RI (λw'=>Kp a0 U w') O (Pu 0 O O (hg.kp) (Pu 1 O O (hg.kp) (P7 2 O (PU TN O) (hg.kp) (qT 3 O (λ_ h=>Pl U3 O O (h.OZ yr yp) O) (hg.kp) (P7 7 O (PU TN O) (hg.kp) (qT 8 O (λ_ h=>Pl U3 O O (h.OZ yr yp) O) (hg.kp) (P7 4 O (RN f.width (2^f.width) O O ω O) (hg.kp) ?_)))))))));rw[show 1*2^f.width%18446744073709551616=2^f.width by rw[y1h];exact y0g ω];refine P7 5 O (Xm (m:=2^f.width) (n:=1) O O O (by show 2^f.width<2^64;omega) ω) (hg.kp) ?_;refine P7 6 O (Va O O ω ω) (hg.kp) ?_;rw[y0X];refine Tl 9 O Xn O (SK Eg (v%2^f.width) f.width ω (y15 _ tI) (by rw[US];omega)) ?_;rintro _ w8⟨rfl,gd⟩;refine⟨hg.kp.trans gd.choose_spec.2.1,?_⟩;have s9:=eD _ _ gd;rw[<-zaZ,<-Qa D] at s9;have ul:Pm w8 b5 [I (f.n:Int),Pt f.u,I (f.width:Int),I (f.bits:Int)] 236:=s9.OZ;obtain⟨a3,qx,fg⟩:=s9.zdK;refine qE (PL O (Pr TN O (qV (Pl U3 O O ul O) (qV (Vk f.width (2^f.width) O O (by show f.width<=64;omega) O) ?_))));have t:=z73 f.width (l.take i) v;rw[<-Qa D,qf] at t
    generalize v / 2^f.width=d at p s pj t
    generalize z / 2^f.width=zq at pj X
    refine qV (Q8 O RW U3 ω)<|Ph O<|Qj O ?_;rw[show(d:Int)+(i:Int)=((d+i:Nat):Int) by omega];refine Pq O<|OY<|QG O<|Px z3h O (We qx) ?_;rintro _ w8⟨rfl,rfl⟩;refine RR O ?_
    generalize Eh:(hiB f.width 0 0 (l.take i)).length=A at p s
    rw[show((d+i:Nat):Int)-(A:Int)=((d+i-(A+0):Nat):Int) by omega];refine Pq O<|P6<|RX (α:=Nat) (0) (λy=>[(4,Pt (z+1)),(5,ptr b5 0),(6,ptr p1 0),(7,ptr p2 0),(8,ptr p3 0),(9,I (i:Int)),(11,I ((d+i:Nat):Int)),(12,I ((d+i-(A+y):Nat):Int)),(39,.slice (some ⟨gb,go,none⟩) l.length c),(40,I (l.length:Int)),(41,I (i:Int))]) (λy w'=>EfW w w' b5 f p1 p2 p3 (SV f.width (l.take (i+1))) (hiB f.width 0 0 (l.take i)++List.replicate y false) (SA f.width (l.take i))/\A+y<=d+i) (λy=>d+i-(A+y)) ?hI ?hround
    case hI=>exact⟨by simpa using s9,p⟩
    case hround=>
     rintro y w9⟨Ei,hy⟩ J
     try dsimp only
     obtain⟨a3,qx,fg⟩:=Ei.zdK;refine Qi O<|R8 O<|P4<|Pn O (λC=>?_)<|λC=>?_
     ·obtain⟨m,ku,dL,lA,Ix⟩:∃m,min (d+i-(A+y)) 64=m/\1<=m/\m<=64/\A+y+m<=d+i:=⟨_,O,ω,ω,ω⟩;refine P5<|R0<|Pc O<|PB O<|qV (ymi O O) ?_;rw[show min ((d+i-(A+y):Nat):Int) 64=(m:Int) by omega];refine Px Xn O (SK qx 0 m lA (y0v _) (by rw[Pe,y08,Eh];omega)) ?_;rintro _ G⟨rfl,o3⟩;have K:=fg _ _ o3;rw[Wz,y05,y2R] at K;obtain⟨a5,yt,-⟩:=K.zdK;refine P4<|An<|Pc O<|PB O<|Px z3h O (We yt) ?_;rintro _ G⟨rfl,rfl⟩;rw[show(hiB f.width 0 0 (l.take i)++List.replicate (y+m) false).length=A+(y+m) by rw[Pe,y08,Eh]];refine RR O ?_;rw[show((d+i:Nat):Int)-((A+(y+m):Nat):Int)=((d+i-(A+(y+m)):Nat):Int) by omega];refine Pq O ?_;exact(J (y+m) _ ⟨K,ω⟩ ω).qb
     ·have Lo:y=d+i-A:=ω
      subst Lo;refine Pf O (PL O (Px Xn O (SK qx 1 1 ψ ψ (by rw[Pe,y08,Eh];omega)) ?_));rintro _ G⟨rfl,o3⟩;have K:=fg _ _ o3;rw[show PF 1 1=[true] from rfl,y05,<-s] at K;refine qM O<|Ph O<|qV (yre O O ω)<|Rx O<|P4<|Pn O (λB=>?_)<|λB=>?_
      ·have di:i=0:=ω
       obtain⟨a6,Ej,qp⟩:=K.zkD;refine Pc O (PB O (qV (QH O U3 RW ω) (Px Xn O (SK Ej (d+i) 32 ψ (by show _<2^32;omega) (by rw[di];show 0+32<=_;omega)) ?_)));rintro _ M⟨rfl,Ek⟩;have Q:=qp _ _ Ek;refine P4 (An (Pc O (Qj O (Ph O (P4 ((ih (i+1) _ ⟨?_,dw⟩ ω).qb))))));rw[t,if_pos di];rw[show d+i=d by omega] at Q;exact Q
      ·refine P5 (An (Pc O (Qj O (Ph O (P4 ((ih (i+1) _ ⟨?_,dw⟩ ω).qb))))));rw[t,if_neg ω,y0o];exact K
   ·have df:i=l.length:=ω
    subst df;rw[y0F] at H;refine Pf O<|qN O<|Px z1V O (V7 U) ?_;rintro _ w8⟨p4,F4,rfl,m8,cG,Iy⟩;have ul:Pm w8 b5 [I (f.n:Int),Pt f.u,I (f.width:Int),I (f.bits:Int)] 236:=(H.on cG).OZ;refine Rq O (Pr Zh O (qV (Pl U3 O O ul O) (qV (QH O U3 RW ω) (Px Xn O (SK m8 f.n 32 ψ (by show _<2^32;omega) ξ) ?_))));rintro _ w9⟨rfl,F5,BM,aN,wL⟩;have iI:Ext U w9:=cG.It aN Iy;have a9:=iI.size;refine qM O (PB O (Px Xn O (SK BM (z+1) 64 ψ (by show _<2^64;omega) ξ) ?_));rintro _ G⟨rfl,F6,lM,aC,On⟩
    have sd:Ext U G:=iI.It aC (λk hk=>by
     rcases wL k hk with e| e
     ·exact Iy k e
     ·have:=cG.size;omega)
    rw[y18,<-BL] at lM;refine qM O (Pq O (OY (QG O (PB O (Pb O O (YD (cs:=[_,_,_,_]) (zs:=[Value.pointer none,Value.pointer none,Value.pointer none,Value.pointer none]) zg3 z8C O Pd O O O ψ) ?_)))));rintro _ M⟨V,rfl,⟨Iz,aW,IA⟩,yu⟩;have Q:=H.on (sd.trans aW);obtain⟨tx,R⟩:∃tx:List P8,tx=[PJ (PF 32 f.n++PF 64 f.u),PJ (SV f.width l),PJ (hiB f.width 0 0 l),PJ (SA f.width l)]:=⟨_,O⟩
    have jV:∀j,(List.take j (List.map List.length tx)).sum<=4000:=λj=>by
     have r:∀x∈List.take j (List.map List.length tx),x<=1000:=λx L=>by
      have N:=y0Z L;rw[R] at N;have fM:(SV f.width l).length<=64*30:=by rw[US];exact y1B hn ω
      have nY:=z2i f.width T Y;have ic:=za1 f.width l;simp only[y0n,y1u,PY,Pe,bitsN_length] at N;simp only[y0l,y1U,or_false] at N
      generalize z / 2^f.width=zq at X nY
      omega
     have C:=zcu r;have B:(List.take j (List.map List.length tx)).length<=4:=by rw[y0d,y0k,R];simp;omega
     omega
    have gT:∀(j:Nat)(x:P8),tx[j]? =some x->x.length<=4000:=λj x L=>by
     have r:=jV (j+1);rw[Qa (q:=x.length) (by rw[y0i,L];rfl),y0Y] at r;simp at r;omega
    have hq:∀j,j<4->∃q bs F,([ptr p4 0,ptr p1 0,ptr p2 0,ptr p3 0]:List Value)[j]? =some (ptr q 0)/\tx[j]? =some (PJ bs)/\Za M q bs F:=λj W=>by
     obtain⟨F1,r,-,-⟩:=Q.zdU;obtain⟨F2,C,-⟩:=Q.zdK;obtain⟨F3,B,-⟩:=Q.zkD;rw[R];have El:j=0\/j=1\/j=2\/j=3:=ω
     rcases El with e|e|e|e<;>subst e
     ·exact⟨p4,_,_,O,O,lM.ext aW⟩
     ·exact⟨p1,_,_,O,O,r⟩
     ·exact⟨p2,_,_,O,O,C⟩
     ·exact⟨p3,_,_,O,O,B⟩
    refine RQ zg3 O<|Ph O<|P4<|PM.qb (e:=[(14,_),(100,_),(101,_),(102,_)]) ?_;refine P6<|RX (α:=Nat) (0) (λj=>[(14,S ((tx.take j).flatten)),(100,.slice (some ⟨V,0,none⟩) 4 4),(101,I 4),(102,I (j:Int))]) (λj w'=>w'=M/\j<=4) (λj=>4-j) ?hI ?hround
    case hI=>exact⟨O,y00 _⟩
    case hround=>
     rintro j a4⟨rfl,W⟩ J
     try dsimp only
     refine qN O<|QY O<|P4<|OY<|Pn O (λC=>?_)<|λC=>?_
     ·obtain⟨q,bs,F,g1,g2,g3⟩:=hq j ω;have Oo:=jV j;have Oq:=gT j _ g2;refine P5 (R0 (qN O (qV (Qc zg3 z8C O O ω) (qV (PG z2M O O (Qs yu.rd g1)) (Rq O (Px z9m O (XE g3) ?_))))));rintro _ a4⟨rfl,rfl⟩;refine Ph O (zex O (qV (S9 (v:=I 0) O O) (QS O (Qi O (R5 O (QC O (Pc O (PB O (qV (ZE O O (by first|omega|(simp;done)|(simp;omega))) ?_)))))))));refine Pq O<|An<|Pc O<|Qj O<|Ph O<|P4 ?_;rw[show(tx.take j).flatten++PJ bs=(tx.take (j+1)).flatten by rw[Qa g2,List.flatten_append];simp];exact(J (j+1) _ ⟨O,ω⟩ ω).qb
     ·have El:j=4:=ω
      subst El;refine Pf O<|PL O<|QS O<|P3 func94 O (⟨_,O,?_,(H.ext.trans sd).trans aW⟩);rw[R];simp[Qy,YZ]
 ·omega
structure PHd where
 n:Nat
 m:Nat
 p:QR
 bits:Nat
def hdC (h:PHd):List Value:=[I (h.n:Int),I (h.m:Int),I (h.p.PE:Int),I (h.p.chain:Int),I (h.p.interval:Int),I (h.p.zeta:Int),I (h.p.most:Int),I (h.bits:Int)]
abbrev hdV (h:PHd):Value:= .agg (hdC h).toArray
structure PHd.R1 (h:PHd):Prop where
 n1:1<=h.n
 n2:h.n<=65536
 m:h.m<=1048576
 bits:h.bits<=134217728
 p:h.p.R1
def ZH (h:PHd):List (Nat×Nat):=[(h.n,32),(h.m,32),(h.p.PE,8),(h.p.chain,8),(h.p.interval,8),(h.p.zeta,8),(h.p.most,32),(h.bits,64)]
def RS (l:List (Nat×Nat)):List Bool:=l.flatMap λq=>PF q.2 q.1
def z8y:P8:=[119,116,108,49]
def hdT (h:PHd):P8:=z8y++PJ (RS (ZH h))
theorem Vc (h:PHd):(RS (ZH h)).length=192:=by
 simp[RS,ZH]
theorem XM (h:PHd):(hdT h).length=28:=by
 unfold hdT
 rw[Pe,PY,Vc];rfl
theorem YG (h:PHd)(v:h.R1)(w:World):PN prog 129 [hdV h] w λu w'=>u=I 0/\Ext w w':=by
 obtain⟨A,C,D,g4,r⟩:=v
 refine py (e:=[(0,_)]) func129 O ntmps129 O O<|qN O<|Pb O O (RP O (cs:=hdC h) O) ?_
 rintro _ w1⟨b1,rfl,x,l,d⟩
 replace d:Pm w1 b1 [I (h.n:Int),I (h.m:Int),I (h.p.PE:Int),I (h.p.chain:Int),I (h.p.interval:Int),I (h.p.zeta:Int),I (h.p.most:Int),I (h.bits:Int)] 153:=d
 refine Pq O<|R0<|OY<|qN O<|Pr UH O<|qV (Pl U3 O O d O)<|QY O<|Qb<|Ph O<|Pr UH O<|qV (Pl U3 O O d O)<|R8 O<|Qb<|Ql O ?_
 refine Pq O<|P9 O<|qN O<|Pr z1b O<|qV (Pl U3 O O d O)<|QY O<|Qb<|Ph O<|Pr z1b O<|qV (Pl U3 O O d O)<|R8 O<|Qb<|Ql O<|Pq O ?_
 refine P9 O<|qN O<|Pr VE O<|qV (Pl U3 O O d O)<|QY O<|Qb<|Ph O<|Pr VE O<|qV (Pl U3 O O d O)<|R8 O<|Qb<|Ql O<|Pq O<|PM.qb (e:=[(1,_),(2,_),(3,_)]) ?_
 refine P9 O<|Pc O<|Pr UH O<|qV (Pl U3 O O d O)<|Rx O<|Qb<|Ph O<|QV<|QV<|QV<|Ql O<|Pq O<|Tj O<|An ?_
 refine qN O<|Pr Z9 O<|qV (PO (news:=VW h.p) Ys O S8 O (d.cells (i:=2) (n:=5) O) O)<|Px zeW O (z0m h.p r _) ?_
 rintro _ w2⟨rfl,q⟩
 refine Pq O<|P3 func129 O ?_
 exact⟨_,O,O,l.trans q⟩
theorem z9y (h:PHd)(a:h.R1)(w:World):PN prog 93 [hdV h] w λu w'=>u= .tuple #[S (hdT h),I 0]/\Ext w w':=by
 obtain⟨g1,g2,g3,g4,g5⟩:=id a
 obtain⟨q1,q2,q3⟩:=id g5
 obtain⟨r1,r2,r3,r4⟩:=id q1
 have a0:h.p.PE<=16:=r1
 have a1:h.p.interval<=64:=by
  have:h.p.interval=0\/2<=h.p.interval/\h.p.interval<=64:=r2;omega
 have a2:h.p.zeta<=16:=r4
 refine py (e:=[(0,_)]) func93 O ntmps93 O O<|qN O<|Pb O O (RP O (cs:=hdC h) O) ?_
 rintro _ w1⟨b1,rfl,bP,V,x⟩
 replace x:Pm w1 b1 [I (h.n:Int),I (h.m:Int),I (h.p.PE:Int),I (h.p.chain:Int),I (h.p.interval:Int),I (h.p.zeta:Int),I (h.p.most:Int),I (h.bits:Int)] 153:=x
 refine QS O<|OY<|qN O<|qV (PO (news:=hdC h) z0g O Up O (x.cells (n:=8) O) O)<|Px zbO O (YG h a _) ?_
 rintro _ w2⟨rfl,W⟩
 refine Rq O<|R5 O<|QC O<|qN O<|Px z1V O (V7 w2) ?_
 rintro _ w3⟨wp,F,rfl,o,Y,qm⟩
 have U:=W.trans Y
 have Z:=U.OZ x
 refine Ro O<|Pr Z9 O<|qV (PO (news:=VW h.p) Ys O S8 O (Z.cells (i:=2) (n:=5) O) O)<|Pb O O (S5 (cs:=[_,_,_,_,_]) S8 O) ?_
 rintro _ w4⟨b6,rfl,oT,ay,P⟩
 refine Po O (Qh (news:=VW h.p) S8 O O O O P ξ) ?_
 rintro t⟨l,X⟩
 replace l:Pm t b6 [I (h.p.PE:Int),I (h.p.chain:Int),I (h.p.interval:Int),I (h.p.zeta:Int),I (h.p.most:Int)] 93:=l
 have H:Ext w3 t:=ay.It X (λi e=>ω)
 have J:=H.OZ Z
 refine P4<|OY<|qN O<|Pr UH O<|qV (Pl U3 O O J O)<|qV (T3 (cs:=[_,_]) W3 O z0u O O)<|Pr z1b O<|qV (Pl U3 O O J O)<|qV (T3 (cs:=[_,_]) W3 O z0u O O)<|Pr z1X O<|qV (Pl U3 O O l O)<|qV (T3 (cs:=[_,_]) W3 O z0u O O)<|Pr ZO O<|qV (Pl U3 O O l O) ?_
 refine qV (T3 (cs:=[_,_]) W3 O z0u O O)<|Pr zc5 O<|qV (Pl U3 O O l O)<|qV (T3 (cs:=[_,_]) W3 O z0u O O)<|Pr zcR O<|qV (Pl U3 O O l O)<|qV (T3 (cs:=[_,_]) W3 O z0u O O)<|Pr Ua O<|qV (Pl U3 O O l O)<|qV (T3 (cs:=[_,_]) W3 O z0u O O)<|Pr VE O<|qV (Pl U3 O O J O)<|qV (T3 (cs:=[_,_]) W3 O z0u O O)<|Pb O O (YD (cs:=[_,_,_,_,_,_,_,_,_,_,_,_,_,_,_,_]) (zs:=[Value.int .i64 0,Value.int .i64 0,Value.int .i64 0,Value.int .i64 0,Value.int .i64 0,Value.int .i64 0,Value.int .i64 0,Value.int .i64 0,Value.int .i64 0,Value.int .i64 0,Value.int .i64 0,Value.int .i64 0,Value.int .i64 0,Value.int .i64 0,Value.int .i64 0,Value.int .i64 0]) zg7 W3 O Pd O O O ψ) ?_
 rintro _ y⟨d,rfl,⟨D8,R,dW⟩,M⟩
 have B:=H.trans R
 have j:=o.ext B
 have z3:=Y.size
 have hL:(ZH h).length=8:=rfl
 replace M:Sl y (.slice (some ⟨d,0,none⟩) 8 8) 231 2 8 ((ZH h).flatMap λq=>[I (q.1:Int),I (q.2:Int)]):=M
 refine RQ zg7 O<|Ph O<|P4<|PM.qb (e:=[(2,_),(3,_),(5,_),(43,_),(44,_),(45,_)]) ?_
 refine P6<|RX (α:=Nat) (0) (λi=>[(5,ptr wp 0),(43,.slice (some ⟨d,0,none⟩) 8 8),(44,I 8),(45,I (i:Int))]) (λi w'=>WrR wp F y w' (RS ((ZH h).take i))/\i<=8) (λi=>8-i) ?hI ?hround
 case hI=>exact⟨⟨F,j,Kp.refl _ _,λk r=> .inl r⟩,y00 _⟩
 case hround=>
  rintro i w7⟨⟨F7,N,A,s⟩,hi⟩ ih
  try dsimp only
  refine qN O<|QY O<|P4<|OY<|Pn O (λh0=>?_)<|λh0=>?_
  ·obtain⟨⟨v,c⟩,C⟩:∃q,(ZH h)[i]? =some q:=⟨_,y03 (by rw[hL];omega)⟩
   have Q:v<2^c/\c<=64/\v<=134217728:=by
    have b:=y0j C;simp only[ZH,y0l,y1U,or_false,y29] at b;rcases b with⟨rfl,rfl⟩|⟨rfl,rfl⟩|⟨rfl,rfl⟩|⟨rfl,rfl⟩|⟨rfl,rfl⟩|⟨rfl,rfl⟩|⟨rfl,rfl⟩|⟨rfl,rfl⟩<;>refine⟨ω,ω,ω⟩
   have fJ:(RS ((ZH h).take i)).length+c<=192:=by
    have e:RS ((ZH h).take (i+1))=RS ((ZH h).take i)++PF c v:=by rw[Qa C];simp[RS]
    have e2:=congrArg List.length e;rw[Pe,bitsN_length] at e2
    have e3:(RS (ZH h)).length=(RS ((ZH h).take (i+1))).length+(RS ((ZH h).drop (i+1))).length:=by
     conv=>lhs;rw[<-y1c (i+1) (ZH h)]
     unfold RS;rw[y2m,Pe]
    have e4:=Vc h;omega
   have gZ:=M.kp A (λg hg e=>by have e1:d=g:=RZ hg;have:=j.lt e;have:=o.lt e;have:=H.size;omega);have kj:=z1s (f:=λq:Nat×Nat=>[I (q.1:Int),I (q.2:Int)]) (λ_=>rfl) gZ.rd C;refine P5 (R0 (qN O (qV (Qc zg7 W3 O O ω) (qV (PO (news:=[I (v:Int),I (c:Int)]) zdO O W3 O kj O) (Pb O O (S5 (cs:=[_,_]) W3 O) ?_)))));rintro _ w8⟨b8,rfl,j7,cG,bh⟩;refine Po O (Qh (news:=[I (v:Int),I (c:Int)]) W3 O O O O bh ξ) ?_;rintro z⟨D,T⟩;replace D:Pm z b8 [I (v:Int),I (c:Int)] 231:=D;have K:Ext w7 z:=cG.It T (λi e=>ω);refine P4 (Ra O (Pr zeE O (qV (Pl U3 O O D O) (qV (QH O U3 RW ω) (Pr zeK O (qV (Pl U3 O O D O) (Px Xn O (SK (N.ext K) v c Q.2.1 Q.1 ω) ?_)))))));rintro _ a3⟨rfl,G,E,L,cq⟩;refine P4<|An<|Pc O<|Qj O<|Ph O<|P4 ((ih (i+1) _ ⟨⟨G,?_,(A.trans K.kp).It L (λk r=>(s k r).symm),λk r=>?_⟩,ω⟩ ω).qb)
   ·rw[Qa C,show RS ((ZH h).take i++[(v,c)])=RS ((ZH h).take i)++PF c v by simp[RS]];exact E
   ·rcases cq k r with e| e
    ·exact s k e
    ·have:=A.size;have:=K.size;exact .inr ω
  ·have df:i=8:=ω
   subst df;rw[show(ZH h).take 8=ZH h from rfl] at N;refine Pf O<|PL O<|Px z9m O (XE N) ?_;rintro _ w8⟨rfl,rfl⟩;have gT:(PJ (RS (ZH h))).length=24:=by rw[PY,Vc]
   refine Ph O (Ta O (SO O (Rq O (qV (ZE O O (by first|omega|(simp;done)|(simp;omega))) ?_))));refine Ph O (QS O (P3 func93 O (⟨_,O,?_,((V.trans U).trans B).It A (λk r=>by have:=qm k r;have:=W.size;have:=V.size;omega)⟩)));simp[Qy,hdT,z8y]
theorem z7C (h:GrM w (.slice ga g.length gc) g)(hg:QJ g):PN prog 92 [.slice ga g.length gc] w λu w'=>u=I (Qp g:Int)/\w'=w:=by
 have U:=hg.n
 obtain⟨vs,r,K⟩:=h.ex
 refine py (e:=[(0,_)]) func92 O ntmps92 O O<|qN O<|Ro O<|Pq O<|Qi O<|RQ Vt O<|Ph O<|P4<|P6<|RX (α:=Nat) (0) (λi=>[(3,I (Qp (g.take i):Int)),(6,.slice ga g.length gc),(7,I (g.length:Int)),(8,I (i:Int))]) (λi w'=>w'=w/\i<=g.length) (λi=>g.length-i) ?hI ?hround
 case hI=>exact⟨O,y00 _⟩
 case hround=>
  rintro i W⟨rfl,hi⟩ J;have V:=Ut hg i
  try dsimp only
  refine qN O<|QY O<|P4<|OY<|Pn O (λv=>?_)<|λv=>?_
  ·obtain⟨l,q⟩:∃l,g[i]? =some l:=⟨_,y03 ω⟩;have Q:=hg.len (y0j q);obtain⟨a,c,D,M,N⟩:=K i l q
   obtain⟨S,go,H,G⟩:∃b o d,Value.slice ga g.length gc= .slice (some ⟨b,o,none⟩) g.length d:=by
    rcases r.2 with⟨c,x,v⟩|⟨b,off,d,x,-⟩
    ·omega
    ·exact⟨b,off,d,x⟩
   cases G;have A:=YQ (g.take i) l;rw[<-Qa q] at A;refine P5 (R0 (qN O (qV (Qc Vt SJ O O ω) (qV (PG PS O O (Qs r D)) (Pq O (Pc O (PB O (RQ PS O (Qj O (Pq O (An (Pc O (Qj O ?_)))))))))))));refine Ph O<|P4 ?_;rw[show(Qp (g.take i):Int)+(l.length:Int)=(Qp (g.take (i+1)):Int) by omega];exact(J (i+1) _ ⟨O,ω⟩ ω).qb
  ·have C:i=g.length:=ω
   subst C;rw[y0F];refine Pf O<|PL O<|Pq O<|P3 func92 O ?_;exact⟨_,O,O,O⟩
def Xt (p:QR)(g:List (List Nat))(E:List (Nat×Nat)):∀(d i:Nat),(R3 p g E i).length<=(R3 p g E (i+d)).length
 |0,i=>y02 _
 | d + 1, i => by
   have h:=Xt p g E d i;rw[<-y1t,Ty,Pe];omega
theorem z8l (p:QR)(g:List (List Nat))(E:List (Nat×Nat))(n:Nat):Nof (WX p g E n):=by
 unfold WX Nof
 rw[List.pairwise_map]
 refine List.pairwise_lt_range.imp fun {i j} gW=>?_
 have:=Xt p g E (j-i) i
 rwa [show i+(j-i)=j by omega] at this
def z1c (p:QR)(g:List (List Nat))(E:List (Nat×Nat)){n:Nat}(h:i<=n):(WX p g E n)[i]? =some (R3 p g E i).length:=by
 unfold WX
 rw[y0i,y1i ω];rfl
theorem zh6 (p:QR)(g:List (List Nat))(E:List (Nat×Nat))(n:Nat):∀v∈WX p g E n,v<=(R3 p g E n).length:=λv d=>by
 unfold WX at d
 obtain⟨j,e,rfl⟩:=y0h.1 d
 have h:=y0H.1 e
 have:=Xt p g E (n-j) j
 rwa [show j+(n-j)=n by omega] at this
def z5Y {l:List Nat}(d:1<=l.length)(A:l.length<=64)(x:Nof l)(u:l[l.length-1]? =some z):(YZ l (Ur l.length (z+1))).length=(Ur l.length (z+1)).size:=by
 have e:=z2i (Ur l.length (z+1)).width x u
 have h:=US (Ur l.length (z+1)).width l
 have n:(SA (Ur l.length (z+1)).width l).length=32:=by
  cases l with
  |nil=>simp at d
  |cons v l=>simp[SA]
 have q:(Ur l.length (z+1)).bits=z / 2^(Ur l.length (z+1)).width+l.length:=by
  show(z+1-1) / _+_=_;rw[y1g]
  rfl
 unfold YZ Fm.size Fm.Vw Fm.high
 rw[Pe,Pe,Pe,PY,PY,PY,PY,Pe,bitsN_length,bitsN_length,e,h,n,q]
 show _=12+(l.length*_+7) / 8+_+4*((l.length+63) / 64)
 have r:(l.length+63) / 64=1:=ω
 rw[r]
def Ym (p:QR)(g:List (List Nat))(E:List (Nat×Nat)):P8:=
 hdT ⟨g.length,Qp g,p,(R3 p g E g.length).length⟩++PJ (R3 p g E g.length)++YZ (WX p g E g.length) (Ur (g.length+1) ((R3 p g E g.length).length+1))
structure zbf (p:QR)(g:List (List Nat))(E:List (Nat×Nat)):Prop where
 el:E.length=g.length
 ok:zfc p g E
 bits:(R3 p g E g.length).length<=2688000
theorem z83 (M:p.R1)(hg:QJ g)(j:1<=g.length)(Q:GrM w (.slice ga g.length gc) g)(m:Pm w 1 (SI .gamma) 314)(o:Pm w 2 (SI .unary) 314):
  PN prog 63 [.slice ga g.length gc,bpV p] w λu w'=>∃E,zbf p g E/\u= .tuple #[S (Ym p g E),I 0]/\Ext w w':=by
 have hn:=hg.n
 have F:=Ut hg g.length
 rw[y0F] at F
 refine py (e:=[(0,_),(1,_)]) func63 O ntmps63 O O<|qN O<|Pb O O (RP O (cs:=VW p) O) ?_
 rintro _ w1⟨b3,rfl,R,l,H⟩
 refine SO O<|Rq O<|qV (PO (news:=VW p) Ys O S8 O (H.cells (n:=5) O) O)<|Px zlI O (zaC M hg (Q.ext l) (l.OZ m) (l.OZ o)) ?_
 rintro _ w2⟨E,v,rfl,y,Z,z,q,sW,G⟩
 have D:=l.trans G
 have d:=Ext.Pz w2
 obtain⟨L,A,rfl,-⟩:=q.rd.shape
 have W:=z8l p g E g.length
 have t:=zh6 p g E g.length
 have x:=z4n p g E g.length
 have U:=z1c p g E (y02 g.length)
 obtain⟨vb,P,k⟩:∃b c,Value.slice L (g.length+1) A= .slice (some ⟨b,0,none⟩) (g.length+1) c:=by
  rcases q.shape with⟨-,X⟩|⟨b,c,e,hc⟩
  ·omega
  ·exact⟨b,c,e⟩
 cases k
 refine Ph O<|qV (S9 (v:=S (PJ (R3 p g E g.length))) O O)<|qV (S9 (v:= .slice (some ⟨vb,0,none⟩) (g.length+1) A) O O)<|qV (S9 (v:=I 0) O O)<|SO O<|QS O<|Qi O<|R5 O<|QC O<|OY ?_
 have a:PHd.R1 ⟨g.length,Qp g,p,(R3 p g E g.length).length⟩:=⟨j,(by show g.length<=_;omega),(by show Qp g<=_;omega),(by show(R3 p g E g.length).length<=_;omega),M⟩
 refine RI (λw'=>Ext w2 w') O<|Pu 0 O O d<|P7 1 O (T7 Vt O) d<|Pu 2 O O d<|Pu 5 O O d<|Pu 6 O O d<|P7 7 O (T7 Vt O) d<|P7 8 O (Qc U34 TH O O ω) d<|qT 4 O (λ_ r=>PO (news:=VW p) Ys O S8 O ((r.OZ (G.OZ H)).cells (n:=5) O) O) d<|qT 9 O (λ_ r=>PG RW O O (Qs (q.ext r).rd (show((WX p g E g.length).map Pt)[g.length]? =some (Pt (R3 p g E g.length).length) by rw[y0i,U];rfl))) d ?_
 refine P7 10 O (Q8 O RW U3 ω) d<|Tl 3 O zlM O (z7C ((Q.ext D).ext d) hg) ?_
 rintro _ V⟨rfl,rfl⟩
 refine⟨d,?_⟩
 refine P7 11 O (T3 (cs:=[_,_,_,_,_,_,_,_]) Up O zfR O O) d<|Tl 12 O zlS O (z9y ⟨g.length,Qp g,p,(R3 p g E g.length).length⟩ a _) ?_
 rintro _ V⟨rfl,h⟩
 refine⟨d.trans h,?_⟩
 have J:=d.trans h
 refine Pu 13 O O (d.trans h)<|qT 14 O (λ_ r=>S9 (v:=S (hdT ⟨g.length,Qp g,p,(R3 p g E g.length).length⟩)) O O) (d.trans h)<|P7 16 O (S6 O) (d.trans h)<|P7 15 O (S9 (v:=I 0) O O) (d.trans h)<|P7 17 O (S6 O) (d.trans h)<|qE<|PM.qb (e:=[(4,_),(5,_),(6,_),(7,_),(8,_),(9,_)]) ?_
 refine Qi O<|R5 O ?_
 have Y:Rd V (.slice (some ⟨vb,0,none⟩) (WX p g E g.length).length A) 1 (WX p g E g.length).length ((WX p g E g.length).map Pt):=by rw[x];exact(q.ext J).rd
 have N:(WX p g E g.length)[(WX p g E g.length).length-1]? =some (R3 p g E g.length).length:=by rw[x];exact U
 have C:=z4G ω ω W (λv s=>by have:=t v s;omega) Y N
 have B:=z5Y ω ω W N
 have f:(Ur (WX p g E g.length).length ((R3 p g E g.length).length+1)).size<=40000000:=by
  have K:=z3P (n:=(WX p g E g.length).length) (u:=(R3 p g E g.length).length+1) ω ω ω ω;have h2:=Fm.XO K;obtain⟨h3,h4,h5⟩:=K;unfold Fm.size Fm.Vw;omega
 rw[x] at C B f
 have nY:=XM ⟨g.length,Qp g,p,(R3 p g E g.length).length⟩
 have T:=PY (R3 p g E g.length)
 refine QC O<|PL O<|Px zkK O C ?_
 rintro _ w4⟨rfl,i⟩
 refine Ph O<|qV (S9 (v:=S (YZ (WX p g E g.length) (Ur (g.length+1) ((R3 p g E g.length).length+1)))) O O)<|qV (S9 (v:=I 0) O O)<|SO O<|Ro O<|PB O<|qV (ZE O O (by first|omega|(simp;done)|(simp;omega))) ?_
 refine Ph O<|qV (ZE O O (by first|omega|(simp;done)|(simp;omega))) ?_
 refine Ph O<|QS O<|P3 func63 O ?_
 exact⟨_,O,E,⟨y,Z,z⟩,O,(D.trans J).trans i⟩
/-! ### Bytes of a word, the least first -/
def Qt:List Nat->Nat
 |[]=>0
 |b::r=>b+256*Qt r
theorem W7 {s d:Nat}(e:b<2^s)(l:d<2^s):(b+2^s*a)&&&(d+2^s*c)=(b&&&d)+2^s*(a&&&c):=by
 apply Nat.eq_of_testBit_eq
 intro j
 have n:b&&&d<2^s:=y1X y2Y e
 rw[y3A,y1x b,y1x d,y1x (b&&&d),y3C _ e,y3C _ l,y3C _ n]
 by_cases h:j<s
 ·simp only[if_pos h,y3A]
 ·simp only[if_neg h,y3A]
theorem zdw {s:Nat}(d:b<2^s)(e:m<2^s):(b+2^s*a)&&&m=b&&&m:=by
 have:=W7 (a:=a) (c:=0) d e
 simpa using this
theorem z2s (m:Nat)(d:m<256):∀L:List Nat,(∀b∈L,b<256)->Qt L&&&Qt (List.replicate L.length m)=Qt (L.map (·&&&m))
 |[],_=>by simp[Qt]
 | b :: r, h => by
   have l:=z2s m d r (λx e=>h x (y0s b e));rw[y01,y12,Qt,Qt,y0n,Qt,<-l];exact W7 (s:=8) (h b y0p) d
theorem z43 (s m:Nat)(I:s<=8)(e:m<2^(8-s)):∀L:List Nat,(∀b∈L,b<256)->Qt L / 2^s&&&Qt (List.replicate L.length m)=Qt (L.map λb=>b / 2^s&&&m)
 |[],_=>by simp[Qt]
 | b :: r, h => by
   have K:=z43 s m I e r (λx J=>h x (y0s b J));have H:=h b y0p;have d:256=2^s*2^(8-s):=by rw[<-y0M,show s+(8-s)=8 by omega]
   have l:0<2^s:=y0v s;have M:b / 2^s<2^(8-s):=by rw[y26 l,y0J,<-d];exact H
   have u:(b+256*Qt r) / 2^s=b / 2^s+2^(8-s)*Qt r:=by
    rw[d,y2d,y2t _ _ l]
   have v:b / 2^s+2^(8-s)*Qt r=(b / 2^s+2^(8-s)*(Qt r%2^s))+2^8*(Qt r / 2^s):=by
    have A:=y2n (Qt r) (2^s);have n:2^8=2^(8-s)*2^s:=by rw[y0J];exact d
    rw[n,y2d,y1t,<-y2P,y1x (Qt r%2^s),A]
   have C:b / 2^s+2^(8-s)*(Qt r%2^s)<2^8:=by
    have D:Qt r%2^s+1<=2^s:=y15 _ l;have G:=Nat.mul_le_mul_left (2^(8-s)) D;rw[y2P,y0c] at G;have n:2^8=2^(8-s)*2^s:=by rw[y0J];exact d
    omega
   have q:m<2^8:=y2A e (y0r ψ ω);rw[y01,y12,Qt,Qt,y0n,Qt,<-K,u,v];have:=W7 (s:=8) (a:=Qt r / 2^s) (c:=Qt (List.replicate r.length m)) C q;rw[show m+256*Qt (List.replicate r.length m)=m+2^8*Qt (List.replicate r.length m) from rfl,this,zdw M e]
theorem z2y (f g:Nat->Nat):∀L:List Nat,Qt (L.map f)+Qt (L.map g)=Qt (L.map λb=>f b+g b)
 |[]=>rfl
 | b :: r => by
   rw[y0n,y0n,y0n,Qt,Qt,Qt,<-z2y f g r,y2P];omega
theorem z5u:∀L:List Nat,(∀c∈L,c / 16<=4/\c%16<=4)->(Qt L / 16+Qt L)&&&Qt (List.replicate L.length 15)=Qt (L.map λc=>c / 16+c%16)/\Qt L%16<=4
 |[],_=>⟨by simp[Qt],by simp[Qt]⟩
 | c :: r, h => by
   obtain⟨q,u⟩:=z5u r (λx n=>h x (y0s c n));obtain⟨v,A⟩:=h c y0p;have e:(c+256*Qt r) / 16+(c+256*Qt r)=(c / 16+16*(Qt r%16)+c)+2^8*(Qt r / 16+Qt r):=ω
   have l:c / 16+16*(Qt r%16)+c<2^8:=ω
   have d:(c / 16+16*(Qt r%16)+c)&&&15=c / 16+c%16:=by
    have:=y0X (c / 16+16*(Qt r%16)+c) 4;rw[show(2:Nat)^4-1=15 from rfl,show(2:Nat)^4=16 from rfl] at this;rw[this];omega
   refine⟨?_,by rw[Qt];omega⟩;rw[y01,y12,Qt,Qt,y0n,Qt,<-q,e];have:=W7 (s:=8) (a:=Qt r / 16+Qt r) (c:=Qt (List.replicate r.length 15)) l (by decide:15<2^8);rw[show 15+256*Qt (List.replicate r.length 15)=15+2^8*Qt (List.replicate r.length 15) from rfl,this,d]
def z4J:∀L:List Nat,(∀b∈L,b<256)->(PF (8*L.length) (Qt L)).count true=(L.map λb=>(PF 8 b).count true).sum
 |[],_=>rfl
 | b :: r, h => by
   have l:=z4J r (λx e=>h x (y0s b e));have n:=h b y0p;rw[y01,y2P,y0c,So,y3j,Qt];have d:(b+256*Qt r) / 2^8=Qt r:=ω
   rw[y0n,y0I,show(PF 8 (b+256*Qt r))=PF 8 b from Xg ω,d,l];omega
def s1B (b:Nat):Nat:=(b / 2&&&85)+(b&&&85)
def s2B (b:Nat):Nat:=(b / 4&&&51)+(b&&&51)
def za3:∀b:Fin 256,s1B b<256/\s2B (s1B b)<256/\s2B (s1B b) / 16<=4/\s2B (s1B b)%16<=4/\s2B (s1B b) / 16+s2B (s1B b)%16=(PF 8 b).count true:=by decide+kernel
def YB (h:b<256):s1B b<256/\s2B (s1B b)<256/\s2B (s1B b) / 16<=4/\s2B (s1B b)%16<=4/\s2B (s1B b) / 16+s2B (s1B b)%16=(PF 8 b).count true:=za3 ⟨b,h⟩
def z07 (x:Nat):List Nat:=[x%256,x / 256%256,x / 65536%256,x / 16777216%256,x / 4294967296%256,x / 1099511627776%256,x / 281474976710656%256,x / 72057594037927936%256]
def z7w {x:Nat}(h:x<18446744073709551616):Qt (z07 x)=x:=by
 simp only[z07,Qt]
 omega
def zaJ (x:Nat):∀b∈z07 x,b<256:=λb d=>by
 simp only[z07,y0l,y1U,or_false] at d
 rcases d with rfl|rfl|rfl|rfl|rfl|rfl|rfl|rfl<;>exact y15 _ ψ
theorem z6V {x:Nat}(h:x<18446744073709551616):∃D:List Nat,D.length=8/\(∀d∈D,d<=8)/\
  ((((x / 2&&&6148914691236517205)+(x&&&6148914691236517205)) / 4&&&3689348814741910323)+(((x / 2&&&6148914691236517205)+(x&&&6148914691236517205))&&&3689348814741910323)) / 16+((((x / 2&&&6148914691236517205)+(x&&&6148914691236517205)) / 4&&&3689348814741910323)+(((x / 2&&&6148914691236517205)+(x&&&6148914691236517205))&&&3689348814741910323))&&&1085102592571150095=Qt D/\D.sum=(PF 64 x).count true:=by
 have r:=z7w h
 have e:=zaJ x
 have l:(z07 x).length=8:=rfl
 generalize z07 x=L at r e l
 have K:6148914691236517205=Qt (List.replicate L.length 85):=by rw[l];rfl
 have M:3689348814741910323=Qt (List.replicate L.length 51):=by rw[l];rfl
 have N:1085102592571150095=Qt (List.replicate L.length 15):=by rw[l];rfl
 have f1:=z43 1 85 ψ ψ L e
 have f2:=z2s 85 ψ L e
 rw[show(2:Nat)^1=2 from rfl] at f1
 have C:∀b∈L.map s1B,b<256:=λb n=>by
  obtain⟨y,u,rfl⟩:=y0h.1 n;exact(YB (e y u)).1
 have G:(x / 2&&&6148914691236517205)+(x&&&6148914691236517205)=Qt (L.map s1B):=by
  rw[K,<-r,f1,f2,z2y];rfl
 have f3:=z43 2 51 ψ ψ (L.map s1B) C
 have f4:=z2s 51 ψ (L.map s1B) C
 rw[show(2:Nat)^2=4 from rfl] at f3
 rw[y0k] at f3 f4
 have H:(Qt (L.map s1B) / 4&&&3689348814741910323)+(Qt (L.map s1B)&&&3689348814741910323)=Qt ((L.map s1B).map s2B):=by
  rw[M,f3,f4,z2y];rfl
 rw[G,H]
 have A:∀c∈(L.map s1B).map s2B,c / 16<=4/\c%16<=4:=λc q=>by
  obtain⟨z,J,rfl⟩:=y0h.1 q;obtain⟨y,u,rfl⟩:=y0h.1 J;have:=YB (e y u);exact⟨this.2.2.1,this.2.2.2.1⟩
 have f5:=(z5u _ A).1
 rw[y0k,y0k] at f5
 refine⟨((L.map s1B).map s2B).map λc=>c / 16+c%16,by rw[y0k,y0k,y0k];exact l,λd I=>?_,by rw[N];exact f5,?_⟩
 ·obtain⟨c,q,rfl⟩:=y0h.1 I;have:=A c q;omega
 ·have v:=z4J L e;rw[l,r] at v;rw[show 8*8=64 from rfl] at v;rw[v,y1q,y1q]
  congr 1
  refine y0O λb n=>?_;exact(YB (e b n)).2.2.2.2
theorem zd3 {D:List Nat}(A:D.length=8)(h:∀d∈D,d<=8):let n:=Qt D+Qt D / 256;let q:=n+n / 65536;let C:=q+q / 4294967296;Qt D<1152921504606846976/\C%128=D.sum/\D.sum<=64:=by
 obtain⟨d0,d1,d2,d3,d4,d5,d6,d7,rfl⟩:∃d0 d1 d2 d3 d4 d5 d6 d7,D=[d0,d1,d2,d3,d4,d5,d6,d7]:=by
  match D,A with
  |[a,b,c,d,e,f,g,i],_=>exact⟨a,b,c,d,e,f,g,i,O⟩
 have G:=h d0 ξ
 have H:=h d1 ξ
 have I:=h d2 ξ
 have J:=h d3 ξ
 have K:=h d4 ξ
 have M:=h d5 ξ
 have N:=h d6 ξ
 have Q:=h d7 ξ
 have r:Qt [d0,d1,d2,d3,d4,d5,d6,d7] / 256=Qt [d1,d2,d3,d4,d5,d6,d7]:=by
  rw[Qt,y2t _ _ ψ,y2q ω,y09]
 have l:Qt [d0,d1,d2,d3,d4,d5,d6,d7]+Qt [d1,d2,d3,d4,d5,d6,d7]=(d0+d1+256*(d1+d2))+65536*((d2+d3)+256*(d3+d4)+65536*((d4+d5)+256*(d5+d6)+65536*((d6+d7)+256*d7))):=by
  simp only[Qt];omega
 have u:(Qt [d0,d1,d2,d3,d4,d5,d6,d7]+Qt [d1,d2,d3,d4,d5,d6,d7]) / 65536=(d2+d3)+256*(d3+d4)+65536*((d4+d5)+256*(d5+d6)+65536*((d6+d7)+256*d7)):=by
  rw[l,y2t _ _ ψ,y2q ω,y09]
 dsimp only
 rw[r,u,l]
 have v:(d0+d1+256*(d1+d2))+65536*((d2+d3)+256*(d3+d4)+65536*((d4+d5)+256*(d5+d6)+65536*((d6+d7)+256*d7)))+((d2+d3)+256*(d3+d4)+65536*((d4+d5)+256*(d5+d6)+65536*((d6+d7)+256*d7)))=
   ((d0+d1+d2+d3)+256*(d1+d2+d3+d4)+65536*((d2+d3+d4+d5)+256*(d3+d4+d5+d6)))+4294967296*((d4+d5+d6+d7)+256*(d5+d6+d7)+65536*(d6+d7+256*d7)):=ω
 rw[v,y2t _ _ ψ,y2q ω,y09]
 refine⟨by simp only[Qt];omega,?_,by simp only[y0I,y1s];omega⟩
 simp only[y0I,y1s]
 have x:(d0+d1+d2+d3)+256*(d1+d2+d3+d4)+65536*((d2+d3+d4+d5)+256*(d3+d4+d5+d6))+4294967296*((d4+d5+d6+d7)+256*(d5+d6+d7)+65536*(d6+d7+256*d7))+((d4+d5+d6+d7)+256*(d5+d6+d7)+65536*(d6+d7+256*d7))=
   (d0+d1+d2+d3+d4+d5+d6+d7)+128*(2*(d1+d2+d3+d4)+512*((d2+d3+d4+d5)+256*(d3+d4+d5+d6))+33554432*((d4+d5+d6+d7)+256*(d5+d6+d7)+65536*(d6+d7+256*d7))+(2*(d5+d6+d7)+512*(d6+d7+256*d7))):=ω
 rw[x,Nat.add_mul_mod_self_left,y0g ω]
 omega
theorem zdb (x:Nat)(q:x<18446744073709551616)(w:World):PN prog 248 [Pt x] w λv w'=>v=I ((PF 64 x).count true:Int)/\w'=w:=by
 obtain⟨D,h,l,d,n⟩:=z6V q
 obtain⟨f1,f2,f3⟩:=zd3 h l
 have u:x / 2&&&6148914691236517205<=6148914691236517205:=y24
 have a2:x&&&6148914691236517205<=6148914691236517205:=y24
 rw[<-n]
 refine py (e:=[(0,_)]) func248 O ntmps248 O O<|qN O<|Rq O<|qV (Vk 1 2 O O ψ O)<|qV (Va O O ω ω)<|Ph O<|qV (Va O O ω ω)<|qV (VD O O)<|Ro O ?_
 rw[y0g (show(x / 2&&&6148914691236517205)+(x&&&6148914691236517205)<18446744073709551616 by omega)]
 generalize M:(x / 2&&&6148914691236517205)+(x&&&6148914691236517205)=y at d
 have S:y<18446744073709551616:=ω
 have A:y / 4&&&3689348814741910323<=3689348814741910323:=y24
 have C:y&&&3689348814741910323<=3689348814741910323:=y24
 refine Ph O<|qV (Vk 2 4 O O ψ O)<|qV (Va O O ω ω)<|Ph O<|qV (Va O O ω ω)<|qV (VD O O)<|Ro O ?_
 rw[y0g (show(y / 4&&&3689348814741910323)+(y&&&3689348814741910323)<18446744073709551616 by omega)]
 generalize N:(y / 4&&&3689348814741910323)+(y&&&3689348814741910323)=z at d
 have Q:z<=7378697629483820646:=ω
 refine Ph O<|qV (Vk 4 16 O O ψ O)<|Ph O<|qV (VD O O) ?_
 rw[y0g (show z / 16+z<18446744073709551616 by omega)]
 refine qV (Va O O ω ω)<|Ro O ?_
 rw[d]
 generalize Qt D=x3 at f1 f2
 refine PB O<|qV (Vk 8 256 O O ψ O)<|qV (VD O O)<|Ro O ?_
 rw[y0g (show x3+x3 / 256<18446744073709551616 by omega)]
 generalize J:x3+x3 / 256=x4 at f2
 have U:x4<=1157495777000000000:=ω
 refine PB O<|qV (Vk 16 65536 O O ψ O)<|qV (VD O O)<|Pq O<|PM.qb (e:=[(0,_),(2,_)]) ?_
 refine qN O ?_
 rw[y0g (show x4+x4 / 65536<18446744073709551616 by omega)]
 generalize H:x4+x4 / 65536=x5 at f2
 have K:x5<=1160000000000000000:=ω
 refine PB O<|qV (Vk 32 4294967296 O O ψ O)<|qV (VD O O)<|Ro O ?_
 rw[y0g (show x5+x5 / 4294967296<18446744073709551616 by omega)]
 generalize G:x5+x5 / 4294967296=x6 at f2
 have r:x6<=1170000000000000000:=ω
 refine Ph O<|qV (Q8 O RW U3 ω)<|qV (Y2 O O ω ω) ?_
 rw[show x6&&&127=D.sum by rw[<-f2];exact y0X x6 7]
 refine Pq O<|P3 func248 O ?_
 exact⟨_,O,O,O⟩
def z9O {x:Nat}(d:x<18446744073709551616):Qn x<=64:=Rz ω
def zbk (x:Nat)(d:x<18446744073709551616)(w:World):PN prog 249 [Pt x] w λv w'=>v=I ((64-Qn x:Nat):Int)/\w'=w:=by
 have h:=z9O d
 refine py (e:=[(0,_)]) func249 O ntmps249 O O<|qN O<|Rq O<|Px z3q O (UN x d w) ?_
 rintro _ w⟨rfl,rfl⟩
 refine RR O ?_
 rw[show(64:Int)-(Qn x:Int)=((64-Qn x:Nat):Int) by omega]
 refine Pq O<|P3 func249 O ?_
 exact⟨_,O,O,O⟩
def methT (P:Program)(t:TypeId)(h:String):Option FuncId:=match P.info? t with
 | some i => match i.methods.toList.find? (·.name == h) with
   | some m => match m.path.toList, m.func with
     | [], some (f, pr) => match P.underlying t with
       |some (.pointer _)=>cond pr (some f) none
       |some _=>cond pr none (some f)
       |none=>none
     |_,_=>none
   |none=>none
 |none=>none
section
variable {e:Env}{d:Option Nat}{pos:String}{g:Option (Nat×Bool)}{x:Operand}{n:Nat}
theorem Ui {i:TypeInfo}(h:P.info? t=some i):(typeInfo t).run P w= .ok i w:=by simp[typeInfo,program,Sem.run,h]
theorem zao {l:String}{u:Value}(h:methT P t l=some f)(n:Nat):(method (n+1) t u l).run P w= .ok (f,u) w:=by
 unfold methT at h
 split at h<;>try cases h
 rename_i i hi
 split at h<;>try cases h
 rename_i m C
 split at h<;>try cases h
 rename_i f' pr r v
 have A:i.methods.find? (·.name==l)=some m:=by rw[<-C,Array.find?_toList]
 split at h<;>try cases h
 ·rename_i el q
  cases pr<;>simp at h;subst h;simp[method,Ui hi,A,r,follow,v,receiverAt,run_underlying q,Place.get]
 ·rename_i G D q
  cases pr<;>simp at h;subst h;unfold method;simp only[y06,Ui hi,y0D,A,r,follow,y04,v,receiverAt,run_underlying q,Place.get]
def yci {q:String}{args:List Operand}{ts:Array TypeId}{vs:List Value}{u:Value}(A:CF P f)(C:methT P t q=some f)(D:look e x=some (.iface t u))(v:looks e args=some vs):
  Yc P e ⟨d,.call ⟨.invoke x q,args.toArray,ts⟩,ty,pos,aft,g⟩ f (u::vs) w:=fun ρ l=>by
 have h:=λw=>zao (P:=P) (w:=w) (u:=u) C (P.types.size+(Made.depth-1))
 rw[show P.types.size+(Made.depth-1)+1=P.types.size+Made.depth from rfl] at h
 have H:(program).run P w= .ok P w:=rfl
 have G:=Uc l _ _ v
 have r:=l _ _ D
 simp[execOp,resolve,G,r,Deferred.ofValue,invoke,callMethod,H,h,TO A]
theorem zh8 (A:look e x=some (I (m:Int)))(C:look e y=some (I 7))(D:m<2^62):Y P e ⟨d,.binOp .andNot t x y t',ty,pos,aft,g⟩ (I ((m / 8*8:Nat):Int)) w w:=fun ρ q=>by
 have r:m<2^IntKind.i64.bits:=by simp only[IntKind.bits];omega
 have u:m&&&18446744073709551608=m / 8*8:=by
  have h:=W7 (s:=3) (a:=m / 8) (b:=m%8) (c:=2305843009213693951) (d:=0) (y15 _ ψ) ψ;rw[Nat.and_zero,y09,y09] at h;have l:=y0X (m / 8) 61;rw[show(2:Nat)^61-1=2305843009213693951 from rfl,y0g ω] at l;rw[l,show(2:Nat)^3=8 from rfl,show 8*2305843009213693951=18446744073709551608 from rfl,show m%8+8*(m / 8)=m by omega] at h;rw[h];omega
 have v:(BitVec.ofInt IntKind.i64.bits (m:Int)&&&~~~(BitVec.ofInt IntKind.i64.bits 7)).toNat=m / 8*8:=by
  rw[y2C,Rv r,show(~~~(BitVec.ofInt IntKind.i64.bits 7)).toNat=18446744073709551608 by decide,u]
 simp only[execOp,eqGuard_andNot,binOp_andNot,intBits_andNot,q _ _ A,q _ _ C,pure_bind,y04,bits,v]
 rw[wrap_i64 ⟨ω,ω⟩]
theorem zkX {r v q:Nat}(J:r<=63)(A:v<2^r)(I:2^r=q)(K:look e x=some (.int .u64 ((q+v:Nat):Int)))(M:look e y=some (.int .u64 (q:Int))):Y P e ⟨d,.binOp .andNot t x y t',ty,pos,aft,g⟩ (.int .u64 (v:Int)) w w:=fun ρ C=>by
 subst I
 have S:2^r<=2^63:=y0r ψ J
 have N:2^64=2^r*2^(64-r):=by rw[<-y0M,show r+(64-r)=64 by omega]
 have u:2^(64-r)=2*2^(63-r):=by rw[<-Nat.pow_succ',show 64-r=(63-r)+1 by omega]
 have Q:0<2^(63-r):=y0v _
 have D:2^r+v<2^IntKind.u64.bits:=by simp only[IntKind.bits];omega
 have G:2^r<2^IntKind.u64.bits:=by simp only[IntKind.bits];omega
 have H:(2^r+v)&&&(2^64-1-2^r)=v:=by
  have h:=W7 (s:=r) (a:=1) (b:=v) (c:=2^(64-r)-2) (d:=2^r-1) A (by have:=y0v r;omega);rw[y0c,y0X,y0g A,Nat.one_and_eq_mod_two,u,show(2*2^(63-r)-2)%2=0 by omega,Nat.mul_zero,y1e] at h
  have l:2^r-1+2^r*(2*2^(63-r)-2)=2^64-1-2^r:=by
   rw[Nat.mul_sub,<-u,<-N];have:=y0v r;omega
  rw[l,y1x v] at h;exact h
 have l:(BitVec.ofInt IntKind.u64.bits ((2^r+v:Nat):Int)&&&~~~(BitVec.ofInt IntKind.u64.bits ((2^r:Nat):Int))).toNat=v:=by
  rw[y2C,BitVec.toNat_not,Rv D,Rv G];exact H
 simp only[execOp,eqGuard_andNot,binOp_andNot,intBits_andNot,C _ _ K,C _ _ M,pure_bind,y04,bits,l]
 rw[z1E (k:= .u64) O (by simp only[IntKind.bits];omega)]
end
structure Src (t:TypeId)(u:Value)(T:P8) where
 inv:(Nat->Prop)->World->Prop
 fl:FuncId
 fr:FuncId
 cl:CF prog fl
 cr:CF prog fr
 ml:methT prog t "Length"=some fl
 mr:methT prog t "ReadAt"=some fr
 ext:∀{X Y:Nat->Prop} {w w':World},inv X w->Ext w w'->(∀k,Y k->X k\/w.heap.size<=k)->inv Y w'
 step:∀{X Y S:Nat->Prop} {w w':World},inv X w->Kp S w w'->(∀k,S k->X k)->(∀k,Y k->X k\/w.heap.size<=k)->inv Y w'
 len:∀{X:Nat->Prop} {w:World},inv X w->PN prog fl [u] w λv w'=>v=I (T.length:Int)/\Ext w w'
 rd:∀{X:Nat->Prop} {w:World} (off n:Nat),inv X w->(∀k,X k->k<w.heap.size)->off+n<=T.length->PN prog fr [u,I (off:Int),I (n:Int)] w λv w'=>v= .tuple #[S ((T.drop off).take n),I 0]/\inv X w'/\Kp (λk=>¬X k) w w'
def Src.own {u:Value}{T:P8}(R:Src t u T){S:Nat->Prop}(h:R.inv X w)(q:Kp S w w')(l:∀k,S k->X k):R.inv X w':=R.step h q l λ_ e=> .inl e
def z2d {c:UInt8}(h:s[i]? =some c):PZ (PA (s.take (i+1)))=PZ (PA (s.take i))*256+c.toNat:=by
 rw[Qa h,ZA,Sh,show PA [c]=PF 8 c.toNat by simp[PA],Qx,bitsN_length]
 have:=c.toNat_lt
 omega
theorem XG (s:P8)(U:s.length<=8)(w:World):PN prog 175 [S s] w λv w'=>v=Pt (PZ (PA s))/\Ext w w':=by
 refine py (e:=[(0,_)]) func175 O ntmps175 O O<|qN O<|Ro O<|Pq O<|Qi O<|Pb O O (zcS U9 QX U5 O) ?_
 rintro _ w1⟨b7,c7,rest,rfl,⟨V,u,A⟩,N⟩
 refine RQ QX O<|Ph O<|P4<|P6<|RX (α:=Nat) (0) (λi=>[(3,Pt (PZ (PA (s.take i)))),(7,.slice (some ⟨b7,0,none⟩) s.length c7),(8,I (s.length:Int)),(9,I (i:Int))]) (λi w'=>w'=w1/\i<=s.length) (λi=>s.length-i) ?hI ?hround
 case hI=>exact⟨O,y00 _⟩
 case hround=>
  rintro i w2⟨rfl,hi⟩ K
  try dsimp only
  refine qN O<|QY O<|P4<|OY<|Pn O (λH=>?_)<|λH=>?_
  ·obtain⟨c,h⟩:∃c,s[i]? =some c:=⟨_,y03 ω⟩;have G:=c.toNat_lt;have l:=z2d h
   have r:PZ (PA (s.take i))<72057594037927936:=by
    have J:=RD (PA (s.take i));rw[bitsT_length,y0d] at J;have Q:2^(8*min i s.length)<=2^56:=y0r ψ ω;omega
   have C:w2.cell? ⟨b7,0+i*1,none⟩=some (TX c):=by
    rw[A.cell,y09,y0c,y0C (by rw[y0k];omega),y0i,h];rfl
   refine P5<|R0<|qN O<|qV (Qc QX YS O O ω)<|qV (PG U5 O O C) ?_
   generalize PZ (PA (s.take i))=q at l r
   refine Pq O<|Ra O<|qV (RN 8 256 O O ψ O)<|Ph O<|qV (zcz O U5 RW ψ)<|qV (z2q O O ω ω) ?_
   have M:(q*256%18446744073709551616 |||c.toNat)=PZ (PA (s.take (i+1))):=by
    rw[l,y0g ω,y0J q];exact(y21 (i:=8) G q).symm
   rw[M];refine Pq O<|An<|Pc O<|Qj O<|Ph O<|P4 ?_;exact(K (i+1) _ ⟨O,ω⟩ ω).qb
  ·have D:i=s.length:=ω
   subst D;rw[y0F];refine Pf O<|PL O<|Pq O<|P3 func175 O ?_;exact⟨_,O,O,u⟩
section
variable {e:Env}{d:Option Nat}{pos:String}{g:Option (Nat×Bool)}{x:Operand}
theorem zdG {v:Value}(ht:P.underlying t=some (.interface ms)):(binOp .eql t (.iface tx v) .nilIface).run P w= .ok (.bool false) w:=by
 have h:P.methodsAt t=ms:=by unfold Program.methodsAt;rw[ht]
 exact run_eql_held_nil w t tx v (by rw[h];exact ht)
theorem zf4 {v:Value}(ht:P.underlying t=some (.interface ms))(l:look e x=some (.iface tx v))(n:look e y=some .nilIface):Y P e ⟨d,.binOp .eql t x y t',ty,pos,aft,g⟩ (.bool false) w w:=fun ρ h=>by
 have hg:∀a b,(eqGuard .eql t a b (.iface tx v) .nilIface).run P w= .ok () w:=λa b=>rfl
 simp only[execOp,h _ _ l,h _ _ n,y06,hg,y0D,zdG ht,y04]
def zkz {v:Value}(h:look e x=some (.iface tx v)):Y P e ⟨d,.nilCheck x,ty,pos,aft,g⟩ (.iface tx v) w w:=fun ρ l=>by simp[execOp,l _ _ h]
end
structure Wb (l:List Nat)(f:Fm)(z:Nat):Prop where
 n1:1<=l.length
 n2:l.length<=64
 nof:Nof l
 last:l[l.length-1]? =some z
 zb:z<=999999998
 fe:f=Ur l.length (z+1)
def Wb.small {l:List Nat}{f:Fm}(h:Wb l f z):f.small:=by
 rw[h.fe]
 exact z3P h.n1 (by have:=h.n2;omega) ω (by have:=h.zb;omega)
theorem Wb.len {l:List Nat}{f:Fm}(h:Wb l f z):(YZ l f).length=f.size:=by
 rw[h.fe]
 exact z5Y h.n1 h.n2 h.nof h.last
theorem Wb.n {l:List Nat}{f:Fm}(h:Wb l f z):f.n=l.length:=by rw[h.fe];rfl
theorem Wb.u {l:List Nat}{f:Fm}(h:Wb l f z):f.u=z+1:=by rw[h.fe];rfl
def Wb.size_le {l:List Nat}{f:Fm}(h:Wb l f z):f.size<=40000000/\12<=f.size:=by
 have n:=h.small
 have q:=Fm.XO n
 obtain⟨r,u,v⟩:=n
 unfold Fm.size Fm.Vw
 have:12<=f.high:=by unfold Fm.high;omega
 omega
def piece {A C:P8}{n:Nat}(h:off=A.length+o)(l:o+n<=B.length):((A++B++C).drop off).take n=(B.drop o).take n:=by
 rw[h,y05,y3k,y1j ω,y1r (by rw[y07];omega)]
def TE (f:Fm):List Bool:=PF 32 f.n++PF 64 f.u
theorem z3i (f:Fm):PA (PJ (TE f))=TE f:=by
 obtain⟨z,h,n,q⟩:=SM (TE f)
 have r:(TE f).length=96:=by simp[TE]
 have l:z=0:=ω
 rw[h,l,y2w,y0o]
theorem Vr (f:Fm):(PJ (TE f)).length=12:=by
 rw[PY];simp[TE]
def zgp (f:Fm)(h:f.n<4294967296):PZ (PA ((PJ (TE f)).take 4))=f.n:=by
 rw[Vp,z3i]
 unfold TE
 rw[y1f ξ,Qx]
 exact y0g h
def zgz (f:Fm)(h:f.u<18446744073709551616):PZ (PA ((PJ (TE f)).drop 4))=f.u:=by
 rw[Uf,z3i]
 unfold TE
 rw[y19 ξ,Qx]
 exact y0g h
theorem zbl (l:List Nat)(f:Fm):((YZ l f).drop 0).take 12=PJ (TE f):=by
 have h:=piece (A:=[]) (B:=PJ (TE f)) (C:=PJ (SV f.width l)++(PJ (hiB f.width 0 0 l)++PJ (SA f.width l))) (off:=0) (n:=12) (o:=0) O (by rw[Vr];omega)
 rw[y18] at h
 unfold YZ
 rw[y05,y05]
 refine h.trans ?_
 rw[y13,y0N (by rw[Vr];omega)]
def elC (f:Fm)(t:TypeId)(u:Value):List Value:=[I (f.n:Int),Pt f.u,I (f.width:Int),I (f.bits:Int),.iface t u]
theorem z6w {u:Value}{l:List Nat}{f:Fm}(r:Wb l f z)(R:Src t u (YZ l f))(Y:R.inv X w)(hX:∀k,X k->k<w.heap.size):
  PN prog 143 [.iface t u] w λv w'=>∃x,v= .tuple #[ptr x 0,I 0]/\Pm w' x (elC f t u) 293/\w.heap.size<=x/\R.inv (λk=>X k\/k=x) w'/\Kp (λk=>¬X k) w w':=by
 obtain⟨dU,dr⟩:=r.size_le
 have G:=r.len
 have pX:=r.n
 have s:=r.u
 have jB:=r.n2
 have ci:=r.n1
 have xa:=r.zb
 refine py (e:=[(0,_)]) func143 O ntmps143 O O<|qN O<|QS O<|R0<|PL O<|qV (zf4 z2E O O)<|Pq O<|P9 O<|PL O<|Rj O O (yci R.cl R.ml O O) (R.len Y) ?_
 rintro _ w1⟨rfl,H⟩
 rw[G]
 have kz:=R.ext Y H (λk h=> .inl h)
 have W:∀k,X k->k<w1.heap.size:=λk h=>by have:=hX k h;have:=H.size;omega
 refine QY O<|Qb<|Pq O<|Tj O<|An<|PL O<|Rj O O (yci R.cr R.mr O O) (R.rd 0 12 kz W (by rw[G];omega)) ?_
 rintro _ w2⟨rfl,P,M⟩
 rw[zbl]
 have U:Kp (λk=>¬X k) w w2:=H.kp.trans M
 have fQ:∀k,X k->k<w2.heap.size:=λk h=>by have:=W k h;have:=M.size;omega
 have nY:=Vr f
 have j:((PJ (TE f)).take 4).length<=8:=by rw[y0d];omega
 have b:((PJ (TE f)).drop 4).length<=8:=by rw[y07];omega
 have c:=zgp f ω
 have K:=zgz f ω
 generalize PJ (TE f)=hb at nY j b c K
 have q:=Ext.Pz w2
 refine Ph O<|Ta O<|QS O<|Qi O<|R5 O<|QC O<|OY<|RI (λw'=>Ext w2 w') O<|Pu 0 O O q<|P7 1 O (z57 U9 O O ω) q<|Pu 3 O O q<|P7 4 O (z1H U9 O O ω) q<|Tl 2 O z8U O (XG (hb.take 4) j _) ?_
 rintro _ w3⟨rfl,A⟩
 refine⟨q.trans A,?_⟩
 refine Tl 5 O z8U O (XG (hb.drop 4) b _) ?_
 rintro _ w4⟨rfl,C⟩
 refine⟨(q.trans A).trans C,?_⟩
 have S:=(q.trans A).trans C
 rw[c,K]
 have mR:=R.ext P S (λk h=> .inl h)
 refine P7 6 O (S6 O) ((q.trans A).trans C)<|P7 7 O (S6 O) ((q.trans A).trans C)<|qE<|PM.qb (e:=[(0,_),(2,_),(3,_),(6,_),(7,_)]) ?_
 refine Qi O<|R8 O<|Qb<|PB O<|R8 O<|Qb<|Ql O<|PB O<|Rx O<|Qb<|Ph O<|Rx O<|Qb<|qV (zf8 O O U4) ?_
 refine Ql O<|QC O<|PL O<|qV (Q8 O RW U3 ω)<|Ph O ?_
 have y:Ur f.n f.u=f:=by rw[pX,s];exact r.fe.symm
 have a:=Yx f.n f.u ω ω ω ω w4
 rw[y] at a
 refine Px zbZ O a ?_
 rintro _ w5⟨rfl,E⟩
 refine Pb O O (S5 (cs:=[_,_,_,_]) TU O) ?_
 rintro _ w6⟨b8,rfl,j7,B,L⟩
 refine Po O (Qh (news:=fmC f) TU O O O O L ξ) ?_
 rintro m⟨D,F⟩
 replace D:Pm m b8 (fmC f) 236:=D
 have ko:Ext w5 m:=B.It F (λi e=>ω)
 have o:=E.trans ko
 have lS:=R.ext mR o (λk h=> .inl h)
 refine P4<|OY<|qN O<|qV (PO (news:=fmC f) Zt O TU O (D.cells (n:=4) O) O)<|Px zfi O (z2X f r.small _) ?_
 rintro _ w8⟨rfl,Q⟩
 have J:=R.ext lS Q (λk h=> .inl h)
 refine Ph O<|Rj O O (yci R.cl R.ml O O) (R.len J) ?_
 rintro _ w9⟨rfl,V⟩
 rw[G]
 have jH:=R.ext J V (λk h=> .inl h)
 have Z:=Q.trans V
 have p:=(S.trans o).trans Z
 refine R5 O<|Qb<|P4<|PM.qb (e:=[(0,_),(2,_),(3,_),(8,_),(51,_)]) ?_
 refine Tj O<|qN O<|qV (PO (news:=fmC f) Zt O TU O ((Z.OZ D).cells (n:=4) O) O)<|Ph O<|qV (T3 (cs:=[_,_,_,_,_]) zkd O zjc O O)<|Pb O O (RP O (cs:=elC f t u) O) ?_
 rintro _ a0⟨x,rfl,hx,N,T⟩
 refine QS O<|P3 func143 O ?_
 exact⟨_,O,x,O,T,by have:=U.size;have:=p.size;omega,R.ext jH N (λk h=>h.imp id λe=>ω),U.trans (p.trans N).kp⟩
def zaV {u:Value}{f:Fm}{x:Nat}(hB:Pm w x (elC f t u) 293):PN prog 144 [ptr x 0] w λv w'=>v=I (f.n:Int)/\w'=w:=by
 replace hB:Pm w x [I (f.n:Int),Pt f.u,I (f.width:Int),I (f.bits:Int),.iface t u] 293:=hB
 refine py (e:=[(0,_)]) func144 O ntmps144 O O<|Re O<|Qi O<|qV (Qz z2C O O)<|QC O<|PL O<|PQ O<|Pr SR O<|Pr Zh O<|qV (Pl U3 O O hB O)<|Pq O<|P3 func144 O ?_
 exact⟨_,O,O,O⟩
theorem zbg (k:Nat)(a b:List Nat):SV k (a++b)=SV k a++SV k b:=by simp[SV]
def zeh {v:Nat}{l:List Nat}(h:l[i]? =some v)(rest:List Bool):((SV k l++rest).drop (i*k)).take k=PF k (v%2^k):=by
 have hi:=(y0m.1 h).1
 have e:l=l.take i++(v::l.drop (i+1)):=by
  conv=>lhs;rw[<-y1c i l]
  congr 1
  rw[y2r hi,(y0m.1 h).2]
 have d:(SV k (l.take i)).length=i*k:=by rw[US,y0d,y0B ω]
 rw[e,zbg,y05,y19 d]
 show((PF k (v%2^k)++SV k (l.drop (i+1)))++rest).take k=_
 rw[y05,y1f ξ]
def z2O {n:Nat}(h:a+m<=8*n):((PA ((B.drop o).take n)).drop a).take m=((PA B).drop (8*o+a)).take m:=by
 rw[Vp,Uf,y1y,y0E,y1E,y0B ω]
def zdm (l:List Nat)(f:Fm){n:Nat}(h:o+n<=(PJ (SV f.width l)).length):((YZ l f).drop (12+o)).take n=((PJ (SV f.width l)).drop o).take n:=by
 unfold YZ
 rw[y05 (PJ (PF 32 f.n++PF 64 f.u)++PJ (SV f.width l))]
 exact piece (by rw[show PJ (PF 32 f.n++PF 64 f.u)=PJ (TE f) from rfl,Vr]) h
theorem z9T {u:Value}{l:List Nat}{f:Fm}(q:Wb l f z)(R:Src t u (YZ l f))(M:R.inv X w)(hX:∀k,X k->k<w.heap.size){x:Nat}(hx:X x)(hB:Pm w x (elC f t u) 293){v:Nat}(N:l[i]? =some v):
  PN prog 240 [ptr x 0,I (i:Int)] w λr w'=>r= .tuple #[Pt (v%2^f.width),I 0]/\R.inv X w'/\Kp (λk=>¬X k) w w':=by
 have L:=(y0m.1 N).1
 have aB:=q.len
 obtain⟨xF,yC⟩:=q.size_le
 have jB:=q.n2
 have mQ:f.width<=30:=by rw[q.fe];exact ZN (by have:=q.zb;omega)
 replace hB:Pm w x [I (f.n:Int),Pt f.u,I (f.width:Int),I (f.bits:Int),.iface t u] 293:=hB
 refine py (e:=[(0,_),(1,_)]) func240 O ntmps240 O O<|qN O<|QS O<|Qi O<|PQ O<|Pr SR O<|Pr TN O<|qV (Pl U3 O O hB O)<|Rx O<|P4<|Pn O (λh0=>?_)<|λh0=>?_
 ·have nx:f.width=0:=ω
  refine qN O<|QS O<|P3 func240 O (⟨_,O,?_,M,Kp.refl _ _⟩);rw[nx,Nat.pow_zero,y2S]
  rfl
 ·have Ih:1<=f.width:=ω
  have Z:i*f.width<=64*30:=y1B ω mQ;have D:(i+1)*f.width=i*f.width+f.width:=by rw[y0G,y1h]
  have K:(i+1)*f.width<=l.length*f.width:=y1n _ L;have C:((i*f.width:Nat):Int)=(i:Int)*(f.width:Int):=y2x _ _;have J:(((i+1)*f.width:Nat):Int)=((i:Int)+1)*(f.width:Int):=y2x _ _;have hg:=Ext.Pz w;refine P5 (OY (RI (λw'=>Ext w w') O (Pu 0 O O hg (Pu 1 O O hg (P7 2 O (QL O) hg (P7 3 O (PU SR O) hg (P7 4 O (PU TN O) hg (qT 5 O (λ_ h=>Pl U3 O O (h.OZ hB) O) hg (Pu 7 O O hg (P7 8 O (Vu O O ω) hg (Pu 9 O O hg (P7 10 O (QL O) hg (P7 11 O (PU SR O) hg ?_)))))))))))));refine P7 12 O (PU TN O) hg (qT 13 O (λ_ h=>Pl U3 O O (h.OZ hB) O) hg (P7 6 O (Y8 O O (by rw[<-C];omega)) hg ?_));rw[<-C];refine P7 15 O (S6 O) hg (P7 14 O (Y8 O O (by rw[<-J];omega)) hg ?_);rw[<-J,D];refine P7 16 O (S6 O) hg<|qE<|PM.qb (e:=[(0,_),(4,_),(5,_),(6,_),(7,_)]) ?_;refine PL O (PQ O (Pr z4k O (qV (Pl z2E O O hB O) (Ph O (qV (X5 O O ω) (Qj O (Ph O (Qj O (qV (X5 O O ω) (Ph O (qV (X5 O O ω) (RR O ?_))))))))))));have yD:=hg.OZ hB;have b:=R.ext M hg (λk d=> .inl d);have c:∀k,X k->k<w.drew.heap.size:=λk d=>by have:=hX k d;have:=hg.size;omega
  have W:(PJ (SV f.width l)).length=(l.length*f.width+7) / 8:=by rw[PY,US]
  have Y:=zeh (k:=f.width) N;have S:∀rest,((SV f.width l++rest).drop (i*f.width)).take f.width=PF f.width (v%2^f.width):=Y;rw[D] at K
  generalize i*f.width=fr at Z K S C
  rw[show(12:Int)+(fr:Int) / 8=((12+fr / 8:Nat):Int) by omega,show((fr+f.width:Nat):Int)+7=((fr+f.width+7:Nat):Int) by omega,show((fr+f.width+7:Nat):Int) / 8-(fr:Int) / 8=(((fr+f.width+7) / 8-fr / 8:Nat):Int) by omega];have uo:fr / 8+((fr+f.width+7) / 8-fr / 8)<=(PJ (SV f.width l)).length:=by rw[W];omega
  have lI:=zdm l f uo
  have uq:12+fr / 8+((fr+f.width+7) / 8-fr / 8)<=(YZ l f).length:=by
   have e:(YZ l f).length=12+(PJ (SV f.width l)).length+(PJ (hiB f.width 0 0 l)).length+(PJ (SA f.width l)).length:=by
    unfold YZ;rw[Pe,Pe,Pe,show PJ (PF 32 f.n++PF 64 f.u)=PJ (TE f) from rfl,Vr]
   omega
  refine Rj O O (yci R.cr R.mr O O) (R.rd (12+fr / 8) ((fr+f.width+7) / 8-fr / 8) b c uq) ?_;rintro _ w1⟨rfl,kz,g⟩;rw[lI];have Q:Kp (λk=>¬X k) w w1:=hg.kp.trans g;have p:=Q.OZ hB (λe=>e hx)
  have T:(((PJ (SV f.width l)).drop (fr / 8)).take ((fr+f.width+7) / 8-fr / 8)).length=(fr+f.width+7) / 8-fr / 8:=by
   rw[y0d,y07];omega
  obtain⟨zz,mY,-,-⟩:=SM (SV f.width l);have A:=z2O (B:=PJ (SV f.width l)) (o:=fr / 8) (n:=(fr+f.width+7) / 8-fr / 8) (a:=fr%8) (m:=f.width) ω;rw[show 8*(fr / 8)+fr%8=fr by omega,mY,S] at A
  generalize ((PJ (SV f.width l)).drop (fr / 8)).take ((fr+f.width+7) / 8-fr / 8)=pt at T A
  refine Ph O<|Ta O<|QS O<|Qi O<|R5 O<|P4<|PM.qb (e:=[(0,_),(4,_),(5,_),(6,_),(8,_),(9,_),(52,_)]) ?_;refine Tj O (PL O (Px z8H O (Xs pt ω w1) ?_));rintro _ w2⟨r,rfl,F,j,dl⟩;refine Ro O (PB O (qV (Y2 O O ω ω) ?_));rw[show fr&&&7=fr%8 from y0X fr 3];refine Px zbP O (ZU F (fr%8) ω) ?_;rintro _ U⟨rfl,P,y⟩;have G:Ext w1 U:=j.It y (λi e=>ω);have s:=G.OZ p;refine qM O (PB O (PQ O (Pr SR O (Pr TN O (qV (Pl U3 O O s O) (Px z4r O (Wf P f.width ω) ?_))))));rintro v4 V wo
  have ig:v4= .tuple #[Pt (v%2^f.width),I 0]/\Kp (λk=>k=r) U V:=by
   rcases wo with⟨-,e,-,d⟩|⟨e,-,-⟩
   ·rw[A,Qx,Nat.mod_mod] at e;exact⟨e,d⟩
   ·omega
  obtain⟨rfl,E⟩:=ig;have H:Ext w1 V:=G.It E (λi e=>ω);refine Ph O<|Ta O<|QS O<|PM.qb (e:=[(4,_),(5,_),(11,_)]) ?_;refine PL O<|QS O<|P3 func240 O ?_;exact⟨_,O,O,R.ext kz H (λk d=> .inl d),Q.trans H.kp⟩
end Go.Proofs.YtbihggbffaigjaaGreatDoor
