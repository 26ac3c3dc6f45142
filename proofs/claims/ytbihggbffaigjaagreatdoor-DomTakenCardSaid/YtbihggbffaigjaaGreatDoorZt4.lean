/- Merged by program. -/
import Derived.Test.YtbihggbffaigjaaGreatDoorZt3
import Derived.WideLaws
set_option linter.all false
set_option maxRecDepth 1000000
set_option maxHeartbeats 16000000
namespace Go.Proofs.YtbihggbffaigjaaGreatDoor
open Go Go.RowKit Go.Proofs.Tryz
variable {B s:PU}{E:List (Nat×Nat)}{F X:Nat->Prop}{L g:List (List Nat)}{P:Program}{R:List (Value×Nat)}{T t t' tx ty:TypeId}{a b b2 b3 b4 b7 b8 b9 c ed gc i j k least m o off sc wp z:Nat}{aft:Array Edge}{bs:List Bool}{cs:List Value}{f:FuncId}{ga ra sa:Option Addr}{ms:Array (String×TypeId)}{p:RE}{ref succ:List Nat}{w w' w2:World}{y:Operand}
/-! ### The numbers can be encoded -/
def YG (k:Nat)(q:Cd×Nat):Prop:=(q.1= .unary/\q.2<=16)\/(q.1= .gamma/\q.2<=200000)\/(q.1= .zeta k/\q.2<=200000)
def z22 (k:Nat):∀(l:List Nat)(i:Nat),(∀n∈l,n<=65536)->∀q∈RA i l,YG k q
 |[],i,h,q,d=>by cases d
 | n :: l, i, h, q, d => by
   rw[RA] at d;rcases y0h.1 d with e|d
   ·subst e;have:=h n y0r;exact .inr (.inl ⟨O,by dsimp only;omega⟩)
   ·exact z22 k l (i+1) (λn r=>h n (y0u _ r)) q d
theorem z1i (k x least:Nat)(r:x<65536):∀(R:List (Nat×Nat)) (e:Option Nat),(∀q∈R,q.1+q.2<=65536)->∀q∈QY x least e R,YG k q
 |[],e,h,q,d=>by cases e<;>cases d
 | p :: R, e, h, q, d => by
   have u:=h p y0r;rw[SX] at d;rcases y0h.1 d with l|d
   ·subst l;refine .inr (.inl ⟨O,?_⟩)
    cases e with
    |none=>have:=z0K (z:=(p.1:Int)-x) (n:=65537) ω ω;show zig _<=_;omega
    |some z=>show p.1-z-2<=_;omega
   ·rcases y0h.1 d with l|d
    ·subst l;exact .inr (.inl ⟨O,by dsimp only;omega⟩)
    ·exact z1i k x least r R _ (λq d=>h q (y0u _ d)) q d
theorem z1m (k x:Nat)(C:x<65536):∀(l:List Nat)(e:Option Nat),(∀n∈l,n<65536)->∀q∈QZ x k e l,YG k q
 |[],e,h,q,d=>by cases e<;>cases d
 | v :: l, e, h, q, d => by
   have D:=h v y0r;rw[TU] at d;rcases y0h.1 d with r|d
   ·subst r;refine .inr (.inr ⟨O,?_⟩)
    cases e with
    |none=>have:=z0K (z:=(v:Int)-x) (n:=65537) ω ω;show zig _<=_;omega
    |some u=>show v-u-1<=_;omega
   ·exact z1m k x C l _ (λn A=>h n (y0u _ A)) q d
theorem z5j {l:List Nat}(h:QR l):(R7 least l).1.length<=65536:=by
 have d:=(UP least l).length_eq
 rw[y01] at d
 have e:∀(R:List (Nat×Nat)) (lo:Nat),Uc least lo R->R.length<=(S7 R).length:=by
  intro R
  induction R with
  |nil=>intro lo h;exact y04 _
  | cons q R r =>
    intro lo h;have n:=r _ h.2.2.2;have u:1<=q.2:=h.2.1;rw[show S7 (q::R)=(List.range q.2).map (q.1+·)++S7 R from rfl,y01,y0n,y17,y02];omega
 have n:=e _ 0 (Wo least l 0 h.ris (λy _=>y03 _))
 have:=h.len
 omega
theorem z8W {l:List Nat}(h:QR l):∀q∈(R7 least l).1,1<=q.2/\q.1+q.2<=65536:=λq e=>by
 obtain⟨i,hi⟩:=y3l.1 e
 have d:=(z0w _ 0 i q (Wo least l 0 h.ris (λy _=>y03 _)) hi).1
 exact⟨d,zdx h.lt e d⟩
theorem z1w {p:Te}(D:p.RN){x:Nat}(v:x<65536)(u:QR succ)(G:QR ref){r:Nat}(N:r<=p.Qt):∀q∈SM p x succ ref r,YG p.zeta q:=by
 obtain⟨H,I,J,g4⟩:=id D
 have h:QR (Qv succ ref):=u.sub y1T
 intro q d
 unfold SM at d
 have K:=u.len
 rcases y0h.1 d with e|d
 ·subst e;exact .inr (.inl ⟨O,by dsimp only;omega⟩)
 split at d
 ·cases d
 rcases y0x.1 d with d|d
 ·split at d
  ·rcases y0F.1 d with e;subst e;exact .inl ⟨O,by dsimp only;omega⟩
  ·cases d
 rcases y0x.1 d with d|d
 ·have A:=Uk succ ref;have C:=A.z2p;have M:=G.len;rw[y0n] at C;split at d
  ·rcases y0h.1 d with e|d
   ·subst e;exact .inr (.inl ⟨O,by dsimp only;omega⟩)
   ·refine z22 _ _ _ (λn l=>?_) q d;have:=A.le n (List.dropLast_subset _ l);rw[y0n] at this;omega
  ·cases d
 split at d
 ·cases d
 rcases y0x.1 d with d|d
 ·split at d
  ·rcases y0h.1 d with e|d
   ·subst e;have:=z5j (least:=p.interval) h;exact .inr (.inl ⟨O,by dsimp only;omega⟩)
   ·exact z1i _ _ _ v _ _ (λq d=>(z8W h q d).2) q d
  ·cases d
 ·exact z1m _ _ v _ _ (λn l=>h.lt n ((VN p.interval _).subset l)) q d
def z8a (succ ref:List Nat)(e:QR ref):(Sr succ ref).length<=65537:=by
 have d:=(Uk succ ref).z2p
 rw[y0n] at d
 have:=e.len
 omega
theorem z62 {p:Te}{x:Nat}(h:QR succ)(e:QR ref){r:Nat}:(SM p x succ ref r).length<=500000:=by
 have d:QR (Qv succ ref):=h.sub y1T
 have u:=z8a succ ref e
 have v:=z5j (least:=p.interval) d
 have A:=(d.sub (VN p.interval (Qv succ ref))).len
 unfold SM
 rw[y02]
 split
 ·simp
 rw[y01,y01]
 have l:(if 0<p.Qt then [(Cd.unary,r)] else []).length<=1:=by split<;>simp
 have n:(if 0<r then(Cd.gamma,(Sr succ ref).length-1)::RA 0 (Sr succ ref).dropLast else []).length<=65537:=by
  split
  ·rw[y02,Uq,y2q];omega
  ·simp
 have q:(if Qv succ ref=[] then [] else(if 0<p.interval then(Cd.gamma,(R7 p.interval (Qv succ ref)).1.length)::QY x p.interval none (R7 p.interval (Qv succ ref)).1 else [])++QZ x p.zeta none (R7 p.interval (Qv succ ref)).2).length<=200000:=by
  split
  ·simp
  ·rw[y01,UA];split
   ·rw[y02,Tz];omega
   ·simp;omega
 omega
def YG.RN {q:Cd×Nat}(h:YG k q)(d:1<=k/\k<=16):q.1.RN/\q.2<=q.1.most:=by
 rcases h with⟨e,h⟩|⟨e,h⟩|⟨e,h⟩
 ·rw[e];exact⟨trivial,by simp only[Cd.most];omega⟩
 ·rw[e];exact⟨trivial,by simp only[Cd.most];omega⟩
 ·rw[e];exact⟨d,by simp only[Cd.most];omega⟩
def z4Q {c:Cd}{v:Nat}(d:c.RN)(e:v<=c.most):(c.enc v).length<=65600:=by
 obtain⟨h,l,-⟩:=Yn d e
 rw[Y2];omega
theorem zdj {L:List (Cd×Nat)}(h:∀q∈L,q.1.RN/\q.2<=q.1.most):(Qr L).length<=65600*L.length:=by
 induction L with
 |nil=>simp[Qr]
 | cons q L r =>
   have u:=r (λq n=>h q (y0u _ n));obtain⟨d,e⟩:=h q y0r;have l:=z4Q d e;obtain⟨c,v⟩:=q;rw[Ro,y01,y02];dsimp only at l⊢;omega
theorem TE (a b:List (Cd×Nat)):Qr (a++b)=Qr a++Qr b:=y1Z
theorem Z8 (l:List (Cd×Nat))(q:Cd×Nat):Qr (l++[q])=Qr l++q.1.enc q.2:=by
 rw[TE];simp[Qr]
/-! ### An element of a slice of structs -/
theorem z2W {α:Type}{f:α->List Value}(d:∀a,(f a).length=k){n cap:Nat}{R:List α}{q:α}(h:Rd w (.slice (some ⟨b,off,none⟩) n cap) k n (R.flatMap f))(G:R[i]? =some q):∀j u,(f q)[j]? =some u->w.cell? ⟨b,off+i*k+j,none⟩=some u:=by
 intro j u v
 have J:j<k:=by have:=(y0l.1 v).1;rwa [d] at this
 have key:∀(R:List α)(i:Nat),R[i]? =some q->(R.flatMap f)[i*k+j]? =some u:=by
  intro R
  induction R with
  |nil=>intro i h;simp at h
  | cons a R H =>
    intro i h;rw[y0V]
    cases i with
    | zero =>
      rw[y1v] at h;cases h;rw[y0K (by rw[d];omega),y1k,y0k]
      exact v
    | succ i =>
      rw[y0X (by rw[d,y0q];omega),d,show(i+1)*k+j-k=i*k+j by rw[y0q];omega];exact H i h
 have x:=key R i G
 have C:=(y0l.1 x).1
 rcases h.2 with⟨c,r,D⟩|⟨I,A,l,e,r⟩
 ·rw[h.1,D,y1k] at C;omega
 ·cases e;have:=r (i*k+j) u x;rw[show off+i*k+j=off+(i*k+j) by omega];exact this
theorem z5U (q:Cd×Nat):(z7l q).length=3:=by
 obtain⟨c,v⟩:=q
 cases c<;>rfl
theorem WI (p:Te)(D:p.RN)(x:Nat)(Q:x<65536){rc:Nat}(succ ref:List Nat)(H:QR succ)(G:QR ref)(r:Nat)(S:r<=p.Qt)(j:r=0->ref=[])
  (hG:Q8 w 1 (Tu .gamma) 314) (hU:Q8 w 2 (Tu .unary) 314) (b:Rd w (.slice sa succ.length sc) 1 succ.length (succ.map QL)) (o:Rd w (.slice ra ref.length rc) 1 ref.length (ref.map QL)) (g7:succ.length<=sc) (nJ:ref.length<=rc):
  Qx prog 161 [I (x:Int),.slice sa succ.length sc,.slice ra ref.length rc,I (r:Int),lpV p] w λu w'=>u= .tuple #[I ((Qr (SM p x succ ref r)).length:Int),I 0]/\Ext w w':=by
 obtain⟨g1,g2,g3,g4⟩:=id D
 have M:=λq d=>(z1w D Q H G S q d).RN ⟨g3,g4⟩
 have fL:=z62 (p:=p) (x:=x) (r:=r) H G
 refine py (e:=[(0,_),(1,_),(2,_),(3,_),(4,_)]) func161 O ntmps161 O O<|qN O<|PX O O (Sy O (cs:=lpC p) O) ?_
 rintro _ w1⟨b9,rfl,ny,K,l⟩
 replace l:Q8 w1 b9 [I (p.Qt:Int),I (p.interval:Int),I (p.zeta:Int)] 276:=l
 refine Rw O<|It<|qN O<|qV (QB (news:=lpC p) XT O Vr O (l.cells (n:=3) O) O)<|Qq O<|Qq O<|Qj zjl O (zcl p D x Q _ _ succ ref r H G S j w1 (b.ext K) (o.ext K)) ?_
 rintro _ w2⟨rfl,a⟩
 refine qV (Tf O)<|Ri O<|RY O<|It<|qN O<|qV (QB (news:=lpC p) XT O Vr O ((a.PO l).cells (n:=3) O) O) ?_
 have h:=K.trans a
 refine Qq O<|Qq O<|Qj zfb O (Zz p D x Q succ ref H G r S j (h.PO hG) (h.PO hU) (b.ext h) (o.ext h) g7 nJ) ?_
 rintro v w3⟨A,qk,R⟩
 have P:=h.trans R
 generalize SM p x succ ref r=L at M fL A
 obtain⟨s,t,rfl,-⟩:=A.rd.shape
 refine SS z2y O<|Q4 O<|PR<|PT<|SN (α:=Nat) (0) (λi=>[(12,I ((Qr (L.take i)).length:Int)),(29,.slice s L.length t),(30,I (L.length:Int)),(31,I (i:Int))]) (λi w'=>Ext w3 w'/\i<=L.length) (λi=>L.length-i) ?hI ?hround
 case hI=>exact⟨Ext.refl _,y03 _⟩
 case hround=>
  rintro i w4⟨J,hi⟩ ih
  try dsimp only
  refine qN O<|RT O<|PR<|It<|Qa O (λf=>?_)<|λf=>?_
  ·have dB:i<L.length:=ω
   obtain⟨⟨c,v⟩,d⟩:∃q,L[i]? =some q:=⟨_,y07 dB⟩;obtain⟨Y,U⟩:=M _ (y0i d);dsimp only at Y U
   obtain⟨g,c5,e4⟩:∃g c,Value.slice s L.length t= .slice (some ⟨g,0,none⟩) L.length c:=by
    rcases A.shape with⟨-,f⟩|⟨g,c,e,hc⟩
    ·omega
    ·exact⟨g,c,e⟩
   cases e4;have m:=z2W z5U (A.ext J).rd d;obtain⟨y,z,V⟩:∃y z,Tu c=[y,z]:=by cases c<;>exact⟨_,_,O⟩
   have rN:cdV c= .agg [y,z].toArray:=by rw[cdV,V]
   have jI:z7l (c,v)=[y,z,Qi v]:=by show Tu c++_=_;rw[V];rfl
   rw[jI] at m;have f7:=z5V c v Y U;rw[rN] at f7;have B:oneV y=true/\oneV z=true:=by cases c<;>(cases V;exact⟨O,O⟩)
   have fI:=zdj (L:=L.take i) (λq d=>M q (y18 d));rw[y0d] at fI;have oU:=z4Q Y U;refine PS (RU (qN O (qV (Rk z2y WV O O ω) (qV (QB (news:=[y,z,Qi v]) zca O WV O m O) (PX O O (SE (cs:=[_,_,_]) WV O) ?_)))));rintro _ w5⟨N,rfl,nS,Z,X⟩;refine Qc O (QX (news:=[y,z,Qi v]) WV O O (by simp[B.1,B.2];rfl) O X ξ) ?_;rintro W⟨C,E⟩;replace C:Q8 W N [y,z,Qi v] 316:=C;have z5:=Z.size;have F:Ext w4 W:=Z.An E (λk e=>ω);refine qM O<|Qf z8U O<|qV (QB (news:=[y,z]) Td O S3 O (C.cells (n:=2) O) O)<|Qf z9N O<|qV (Q0 SK O O C O)<|Qj zfI O (f7 W) ?_;rintro _ w7⟨rfl,T⟩;refine Q4 O<|Tr O<|Rw O<|PY O<|Qq O<|Ra O<|Qe O<|PN<|PY O<|Ra O<|Q4 O<|PR ?_;rw[show((Qr (L.take i)).length:Int)+((c.enc v).length:Int)=((Qr (L.take (i+1))).length:Int) by rw[R4 d,Z8,y01];dsimp only;omega];exact(ih (i+1) _ ⟨(J.trans F).trans T,ω⟩ ω).qb
  ·have dp:i=L.length:=ω
   rw[dp,y0L];refine Q7 O<|Qz O<|Rw O<|PQ func161 O ?_;exact⟨_,O,O,P.trans J⟩
theorem z1g (h:ZT w wp bs F)(p:Te)(K:p.RN)(x:Nat)(U:x<65536){rc:Nat}(succ ref:List Nat)(N:QR succ)(M:QR ref)(r:Nat)(V:r<=p.Qt)(E:r=0->ref=[])
  (t:Q8 w 1 (Tu .gamma) 314) (B:Q8 w 2 (Tu .unary) 314) (m:Rd w (.slice sa succ.length sc) 1 succ.length (succ.map QL)) (T:Rd w (.slice ra ref.length rc) 1 ref.length (ref.map QL)) (o:succ.length<=sc) (nJ:ref.length<=rc)
  (hl:bs.length+(Qr (SM p x succ ref r)).length<=134217728):
  Qx prog 165 [ptr wp 0,I (x:Int),.slice sa succ.length sc,.slice ra ref.length rc,I (r:Int),lpV p] w λu w'=>u=I 0/\WrR wp F w w' (bs++Qr (SM p x succ ref r)):=by
 obtain⟨g1,g2,g3,g4⟩:=id K
 have j:=λq A=>(z1w K U N M V q A).RN ⟨g3,g4⟩
 have fL:=z62 (p:=p) (x:=x) (r:=r) N M
 refine py (e:=[(0,_),(1,_),(2,_),(3,_),(4,_),(5,_)]) func165 O ntmps165 O O<|qN O<|PX O O (Sy O (cs:=lpC p) O) ?_
 rintro _ w1⟨b9,rfl,ny,C,G⟩
 replace G:Q8 w1 b9 [I (p.Qt:Int),I (p.interval:Int),I (p.zeta:Int)] 276:=G
 refine Qe O<|QV O<|qV (Rm z3b O O)<|Ri O<|RK O<|Qq O<|qV (QB (news:=lpC p) XT O Vr O (G.cells (n:=3) O) O)<|Qj z57 O (WI p K x U succ ref N M r V E (C.PO t) (C.PO B) (m.ext C) (T.ext C) o nJ) ?_
 rintro _ w2⟨rfl,b⟩
 have l:=C.trans b
 have h2:=h.ext l
 refine Q4 O<|Tr O<|Rw O<|RU<|Qz O<|RI O<|Qe O<|PW O<|RK O<|Qj z3z O (WG h2) ?_
 rintro _ w2⟨rfl,rfl⟩
 refine SA O<|RR O<|Qe O<|QA.qb (e:=[(0,_),(1,_),(2,_),(3,_),(4,_),(11,_),(12,_),(32,_)]) ?_
 refine Qa O (λe0=>?_)<|λe0=>?_
 ·omega
 ·refine PS<|PN<|It<|qN O<|qV (QB (news:=lpC p) XT O Vr O ((b.PO G).cells (n:=3) O) O)<|Qq O<|Qq O<|Qj zfb O (Zz p K x U succ ref N M r V E (l.PO t) (l.PO B) (m.ext l) (T.ext l) o nJ) ?_;rintro v w3⟨H,qk,f⟩;have a:=l.trans f;have h3:=h.ext a;have a0:=l.size;have z3:=f.size;have kd:∀k,F k->k<w.heap.size:=λk d=>h.lt d
  generalize SM p x succ ref r=L at j fL H hl
  obtain⟨va,vc,rfl,-⟩:=H.rd.shape;refine SS z2y O<|Q4 O<|PR<|PT<|SN (α:=Nat) (0) (λi=>[(0,ptr wp 0),(43,.slice va L.length vc),(44,I (L.length:Int)),(45,I (i:Int))]) (λi w'=>WrR wp F w3 w' (bs++Qr (L.take i))/\i<=L.length) (λi=>L.length-i) ?hI ?hround
  case hI=>exact⟨⟨F,by simpa[Qr] using h3,Kp.refl _ _,λk d=> .inl d⟩,y03 _⟩
  case hround=>
   rintro i w4⟨⟨F4,mt,D,W⟩,hi⟩ ih
   try dsimp only
   refine qN O<|RT O<|PR<|It<|Qa O (λs=>?_)<|λs=>?_
   ·have dB:i<L.length:=ω
    obtain⟨⟨c,v⟩,A⟩:∃q,L[i]? =some q:=⟨_,y07 dB⟩;obtain⟨wM,X⟩:=j _ (y0i A);dsimp only at wM X
    obtain⟨g,c5,e4⟩:∃g c,Value.slice va L.length vc= .slice (some ⟨g,0,none⟩) L.length c:=by
     rcases H.shape with⟨-,s⟩|⟨g,c,e,hc⟩
     ·omega
     ·exact⟨g,c,e⟩
    cases e4;have eK:=H.kp D (λg hg e=>by have:=qk g hg;have:=kd g e;omega);have P:=z2W z5U eK.rd A;obtain⟨y,z,Y⟩:∃y z,Tu c=[y,z]:=by cases c<;>exact⟨_,_,O⟩
    have rN:cdV c= .agg [y,z].toArray:=by rw[cdV,Y]
    have jI:z7l (c,v)=[y,z,Qi v]:=by show Tu c++_=_;rw[Y];rfl
    rw[jI] at P;have y8:oneV y=true/\oneV z=true:=by cases c<;>(cases Y;exact⟨O,O⟩)
    refine PS (RU (qN O (qV (Rk z2y WV O O ω) (qV (QB (news:=[y,z,Qi v]) zca O WV O P O) (PX O O (SE (cs:=[_,_,_]) WV O) ?_)))));rintro _ w5⟨S,rfl,nS,Z,co⟩;refine Qc O (QX (news:=[y,z,Qi v]) WV O O (by simp[y8.1,y8.2];rfl) O co ξ) ?_;rintro w6⟨J,aL⟩;replace J:Q8 w6 S [y,z,Qi v] 316:=J;have z5:=Z.size;have Q:Ext w4 w6:=Z.An aL (λk e=>ω);have z6:=Q.size;have z4:=D.size
    have iz:(bs++Qr (L.take i)).length+(c.enc v).length<=134217728:=by
     have e1:(Qr L).length=(Qr (L.take i)).length+(c.enc v).length+(Qr (L.drop (i+1))).length:=by
      conv=>lhs;rw[<-y1e (i+1) L,TE,R4 A,Z8]
      rw[y01,y01]
     rw[y01];omega
    have R:=zd1 (mt.ext Q) c v wM X iz;rw[rN] at R;refine PR<|Sv O<|Qf z8U O<|qV (QB (news:=[y,z]) Td O S3 O (J.cells (n:=2) O) O)<|Qf z9N O<|qV (Q0 SK O O J O)<|Qj zhZ O R ?_;rintro _ w7⟨rfl,F7,p5,ay,p8⟩;refine PR<|PN<|PY O<|Ra O<|Q4 O<|PR ((ih (i+1) _ ⟨⟨F7,?_,(D.trans Q.kp).An ay (λk d=>(W k d).symm),λk d=>?_⟩,ω⟩ ω).qb)
    ·rw[R4 A,Z8,<-y06];exact p5
    ·rcases p8 k d with e| e
     ·exact W k e
     ·exact .inr ω
   ·have dp:i=L.length:=ω
    rw[dp,y0L] at mt;refine Q7 O<|RY O<|PQ func165 O ?_;exact⟨_,O,O,F4,mt,a.kp.trans D,λk d=>by rcases W k d with e|e;exact .inl e;exact .inr ω⟩
def YW (succ ref:List Nat)(r:Nat):List (Cd×Nat):=if 0<r then(.gamma,(Sr succ ref).length-1)::RA 0 (Sr succ ref).dropLast else []
def z8Y (p:Te)(x:Nat)(succ ref:List Nat):List (Cd×Nat):=
 if Qv succ ref=[] then [] else(if 0<p.interval then(.gamma,(R7 p.interval (Qv succ ref)).1.length)::QY x p.interval none (R7 p.interval (Qv succ ref)).1 else [])++QZ x p.zeta none (R7 p.interval (Qv succ ref)).2
def W3 (p:Te)(x:Nat)(succ ref:List Nat)(r:Nat):List (Cd×Nat):=YW succ ref r++z8Y p x succ ref
def z2w (p:Te)(x:Nat)(r:Nat)(d:succ≠[]):SM p x succ ref r=RQ p succ.length r++W3 p x succ ref r:=by
 unfold SM RQ W3 YW z8Y
 rw[if_neg d,if_neg (λe=>d (y0w e)),y0s]
def z9u (p:Te)(x:Nat)(l:List Nat):List (Cd×Nat):=if 0<p.interval/\l≠[] then(.gamma,(R7 p.interval l).1.length)::QY x p.interval none (R7 p.interval l).1 else []
theorem z63 (p:Te)(x:Nat)(succ ref:List Nat):z8Y p x succ ref=z9u p x (Qv succ ref)++QZ x p.zeta none (R7 p.interval (Qv succ ref)).2:=by
 unfold z8Y z9u
 by_cases e:Qv succ ref=[]
 ·rw[if_pos e,if_neg (λh=>h.2 e),e,R7];rfl
 ·rw[if_neg e];by_cases d:0<p.interval
  ·rw[if_pos d,if_pos ⟨d,e⟩]
  ·rw[if_neg d,if_neg (λh=>d h.1)]
structure TlI (w:World)(t r:Nat)(s:PU)(b7 b9:Nat)(n q:Nat)(p:Te)(O_:List Nat)(v:Value)(a:Nat)(w':World):Prop where
 tk:TkM w' t r s a
 kp:Kp (λk=>k=t\/k=r) w w'
 sl:Sl w' v 42 1 O_.length (O_.map QL)
 fr:∀g,v.ownBlock=some g->w.heap.size<=g
 c7:Q8 w' b7 [I (n:Int),I (q:Int)] 303
 c9:Q8 w' b9 [I (p.Qt:Int),I (p.interval:Int),I (p.zeta:Int)] 276
 n7:w.heap.size<=b7
 n9:w.heap.size<=b9
 v7:v.ownBlock≠some b7
 v9:v.ownBlock≠some b9
theorem z4R (l:List Nat):∀c∈l.map QL,c.oneCell'=true:=λc d=>by
 obtain⟨y,-,rfl⟩:=y0g.1 d
 rfl
def TlI.app {w1 C:World}{t r:Nat}{n q:Nat}{p:Te}{u M:List Nat}{v A:Value}{a2:Nat}(h:TlI w t r s b7 b9 n q p u v a w1)(ht:t<w.heap.size)(J:r<w.heap.size)
  (d:Kp (λk=>k=t\/k=r) w1 w2) (x:TkM w2 t r s a2) (I:Sl C A 42 1 (u.length+M.length) (u.map QL++M.map QL)) (l:Kp (λk=>v.ownBlock=some k) w2 C) (G:∀g,A.ownBlock=some g->v.ownBlock=some g\/w2.heap.size<=g):
  TlI w t r s b7 b9 n q p (u++M) A a2 C:=by
 have Q:=h.kp.size
 have S:=d.size
 have N:=h.c7.lt
 have O:=h.c9.lt
 have n7:=h.n7
 have n9:=h.n9
 have H:∀k,k<w.heap.size->¬v.ownBlock=some k:=λk d e=>by have:=h.fr k e;omega
 have D:∀k,k<w1.heap.size->v.ownBlock≠some k->A.ownBlock≠some k:=λk d K e=>by
  rcases G k e with e| e
  ·exact K e
  ·omega
 refine⟨⟨l.PO x.PO (H t ht),⟨l.PO x.rd.1 (H r J),x.rd.2⟩,x.ne⟩,(h.kp.trans d).An l (λk d=> .inl (h.fr k d)),by rw[y01,y0f];exact I,λg hg=>?_,l.PO (d.PO h.c7 (λe=>ω)) h.v7,l.PO (d.PO h.c9 (λe=>ω)) h.v9,n7,n9,D _ N h.v7,D _ O h.v9⟩
 rcases G g hg with e| e
 ·exact h.fr g e
 ·omega
theorem zap {t r:Nat}(h:TkM w t r s a)(hG:Q8 w 1 (Tu .gamma) 314)(E:¬1=r)(nz:¬1=t)(p:Te)(hp:p.RN)(x:Nat)(hx:x<65536)(succ ref:List Nat)(c:QR succ)(bz:succ≠[])(jp:succ.length<50)(iH:QR ref)
  (q:Nat) (hq:q<=p.Qt) (nA:q=0->ref=[]) (db:∀w2,Kp (λk=>k=r) w w2->Rd w2 (.slice sa ref.length sc) 1 ref.length (ref.map QL)) (f7:ref.length<=sc) (rest:List Bool) (D:(Qo s).drop a=Qr (W3 p x succ ref q)++rest):
  Qx prog 213 [ptr t 0,I (x:Int),.agg #[I (succ.length:Int),I (q:Int)],.slice sa ref.length sc,lpV p] w λu w'=>Sl w' u 42 1 succ.length (succ.map QL)/\(∀g,u.ownBlock=some g->w.heap.size<=g)/\
   TkM w' t r s (a+(Qr (W3 p x succ ref q)).length)/\Kp (λk=>k=t\/k=r) w w':=by
 obtain⟨g1,g2,g3,g4⟩:=id hp
 have H:=h.PO.lt
 have G:=h.rd.1.lt
 have T:=z89 c.ris iH.ris p.interval
 have s6:=T.length_eq
 rw[y01,y01] at s6
 have B:QR (Qv succ ref):=c.sub y1T
 have Lf:=(UP p.interval (Qv succ ref)).length_eq
 rw[y01] at Lf
 unfold W3 at D⊢
 rw[TE,y06] at D
 rw[TE,y01]
 refine py (e:=[(0,_),(1,_),(2,_),(3,_),(4,_)]) func213 O ntmps213 O O<|qN O<|PX O O (Sy O (cs:=[I (succ.length:Int),I (q:Int)]) O) ?_
 rintro _ w1⟨b7,rfl,lu,ad,cd⟩
 refine PX O O (Sy O (cs:=lpC p) O) ?_
 rintro _ w2⟨b9,rfl,ny,j,U⟩
 replace U:Q8 w2 b9 [I (p.Qt:Int),I (p.interval:Int),I (p.zeta:Int)] 276:=U
 have z1:=ad.size
 have z2:=j.size
 have J:=ad.trans j
 have Z:=j.PO cd
 refine Sb O<|Qe O<|It<|qN O<|Qf TK O<|qV (Q0 U3 O O Z O)<|RR O<|PR<|QT (λn w'=>∃d,n=[(0,ptr t 0),(1,I (x:Int)),(7,ptr b7 0),(9,ptr b9 0),(11,d)]/\TlI w t r s b7 b9 succ.length q p (ref.filter λy=>decide (y∈succ)) d (a+(Qr (YW succ ref q)).length) w') ?bF<|λbF=>?du
 case bF =>
  rintro n w3⟨d,rfl,v⟩;have K:=Ts D;obtain⟨va,vc,rfl,-⟩:=v.sl.rd.shape;have tW:=v.c7;have F:=v.c9;have Dw:=v.tk.PO;refine It<|qN O<|Qf UE O<|qV (Q0 U3 O O tW O)<|Q4 O<|SS QG O<|SA O ?_;rw[show(succ.length:Int)-((ref.filter λy=>decide (y∈succ)).length:Int)=((Qv succ ref).length:Int) by omega]
  generalize OU:(a+(Qr (YW succ ref q)).length)=a3 at v K
  rw[z63,TE,y06] at K;rw[z63,TE,y01];have Lg:p.interval=0->(R7 p.interval (Qv succ ref)).1=[]:=λe=>by rw[e];exact Zf _
  have Lh:Qv succ ref=[]->R7 p.interval (Qv succ ref)=([],[]):=λe=>by rw[e,R7]
  have qf:=Wo p.interval (Qv succ ref) 0 B.ris (λy _=>y03 _);have tO:=λy hy=>(z8W (least:=p.interval) B y hy).2
  have IC:(R7 p.interval (Qv succ ref)).1.length<=(S7 (R7 p.interval (Qv succ ref)).1).length:=by
   have key:∀(R:List (Nat×Nat)) (lo:Nat),Uc p.interval lo R->R.length<=(S7 R).length:=by
    intro R
    induction R with
    |nil=>intro lo h;exact y04 _
    | cons z R ih =>
      intro lo h;have A:=ih _ h.2.2.2;have h6:1<=z.2:=h.2.1;rw[show S7 (z::R)=(List.range z.2).map (z.1+·)++S7 R from rfl,y01,y0n,y17,y02];omega
   exact key _ 0 qf
  have Dx:QR (R7 p.interval (Qv succ ref)).2:=B.sub (VN p.interval _)
  generalize (ref.filter λy=>decide (y∈succ))=O1 at v T s6
  have S:z9u p x (Qv succ ref)=if 0<p.interval/\Qv succ ref≠[] then(.gamma,(R7 p.interval (Qv succ ref)).1.length)::QY x p.interval none (R7 p.interval (Qv succ ref)).1 else []:=rfl
  generalize z9u p x (Qv succ ref)=LT at K S
  generalize R7 p.interval (Qv succ ref)=Q at*
  generalize Qv succ ref=L1 at*
  have tc:L1=[]↔L1.length=0:=⟨λe=>by rw[e];rfl,y0w⟩;have ia:=c.len;refine Qe O<|It<|QT (λn w'=>∃s1:Bool,n=[(0,ptr t 0),(1,I (x:Int)),(7,ptr b7 0),(9,ptr b9 0),(11,.slice va O1.length vc),(12,I (L1.length:Int)),(38,.bool s1)]/\w'=w3/\(s1=true↔0<p.interval/\L1≠[])) ?cF<|λcF=>?ge
  case cF =>
   rintro n w4⟨s1,rfl,rfl,eg⟩;refine QT (λn w'=>∃d,n=[(0,ptr t 0),(1,I (x:Int)),(7,ptr b7 0),(9,ptr b9 0),(11,d)]/\TlI w t r s b7 b9 succ.length q p (O1++S7 Q.1) d (a3+(Qr LT).length) w') ?av<|λav=>?dO
   case av =>
    rintro n f⟨v5,rfl,A⟩;have gj:=Ts K;obtain⟨a0,a1,rfl,-⟩:=A.sl.rd.shape;have mu:=A.c7;have mv:=A.c9;have Dy:=A.tk.PO;have ID:(O1++S7 Q.1).length=O1.length+(S7 Q.1).length:=y01;refine It<|qN O<|Qf UE O<|qV (Q0 U3 O O mu O)<|Q4 O<|SS QG O<|SA O ?_;rw[show(succ.length:Int)-((O1++S7 Q.1).length:Int)=(Q.2.length:Int) by omega];refine Qe O<|It<|QT (λn w'=>∃s2:Bool,n=[(0,ptr t 0),(1,I (x:Int)),(7,ptr b7 0),(9,ptr b9 0),(11,.slice a0 (O1++S7 Q.1).length a1),(13,I (Q.2.length:Int)),(60,.bool s2)]/\w'=f/\(s2=true↔0<Q.2.length)) ?bI<|λbI=>?kr
    case bI=>
     rintro n w6⟨s2,rfl,rfl,dv⟩;refine QT (λn w'=>∃d,n=[(0,ptr t 0),(11,d)]/\TlI w t r s b7 b9 succ.length q p (O1++S7 Q.1++Q.2) d (a3+(Qr LT).length+(Qr (QZ x p.zeta none Q.2)).length) w') ?eT<|λeT=>?nI
     case eT=>
      rintro n w7⟨v7,rfl,C⟩;have s9:(O1++S7 Q.1++Q.2).length=succ.length:=by rw[y01,ID];omega
      have Li:0<succ.length:=List.length_pos_iff.2 bz;refine Qz O (Qj zk3 O (zbn C.sl (λe=>by rw[e] at s9;simp at s9;omega) ω) ?_);rintro _ w8⟨rfl,i,l',Lj,ya,eL⟩;have Lk:l'=succ:=z77 ((Lj.trans (by rw[y06])).trans T) ya c.ris;rw[Lk] at eL;refine qM O<|Q4 O<|Qe O<|PQ func213 O ?_;have e9:a+((Qr (YW succ ref q)).length+((Qr LT).length+(Qr (QZ x p.zeta none Q.2)).length))=a3+(Qr LT).length+(Qr (QZ x p.zeta none Q.2)).length:=ω
      rw[e9];have y9:∀k,k<w.heap.size->¬v7.ownBlock=some k:=λk hk e=>by have:=C.fr k e;omega
      refine⟨_,O,eL,C.fr,⟨i.PO C.tk.PO (y9 t H),⟨i.PO C.tk.rd.1 (y9 r G),C.tk.rd.2⟩,C.tk.ne⟩,C.kp.An i (λk hk=> .inl (C.fr k hk))⟩
     case nI=>
      refine Ru O (λV=>?_)<|λV=>?_
      ·refine PY O (Qq O (Qq O (Qf z1D O (qV (Q0 U3 O O mv O) (qV (Rz O U3 SK ω) (qV (To (cs:=[_,_]) S3 O zf6 O O) (Qj zkt O (z7J A.tk x p.zeta hx ⟨g3,g4⟩ Q.2 Dx _ gj) ?_)))))));rintro u6 w6⟨fW,nt,xM,aL⟩;have Dz:=A.sl.kp aL (λg hg e=>by have:=A.fr g hg;omega);refine PX O O (pap QG Qn O ψ O O Dz fW.rd (z4R _) ω (by simp only[maxLen];omega)) ?_;rintro v7 w7⟨i6,ay,Ll,-⟩;have C:=A.app H G aL xM i6 ay Ll;refine Qe O ?_;exact(eT _ _ ⟨v7,O,C⟩).qb
      ·have i9:Q.2=[]:=y0w (by
        rcases y0D Q.2.length with e| e
        ·exact e
        ·rw[dv.2 e] at V;cases V)
       refine PS ((eT _ _ ⟨_,O,?_⟩).qb);rw[i9,y0o,show(Qr (QZ x p.zeta none [])).length=0 from rfl,y1f];exact A
    case kr=>
     rcases y0D Q.2.length with M|M
     ·refine Sv O<|RR O<|QW<|Q4 O<|Sc<|Sc<|qS<|R0 O<|PR ?_;exact(bI _ _ ⟨false,O,O,by simp[M]⟩).qb
     ·refine Sv O<|RR O<|SD<|Qq O<|QC O<|Qf Vb O<|qV (Q0 U4 O O Dy O)<|qV (Tf O)<|Sh O<|PR ?_;exact(bI _ _ ⟨true,O,O,by simp[M]⟩).qb
   case dO=>
    refine Ru O (λb=>?_)<|λb=>?_
    ·obtain⟨te,Y⟩:=eg.1 b;rw[if_pos ⟨te,Y⟩] at S;refine PY O<|Qq O<|Qq O<|Qf Vv O<|qV (Q0 U3 O O F O) ?_;rw[S] at K;refine Qj zkT O (zaB v.tk (v.kp.PO hG (λe=>by rcases e with e|e;exact nz e;exact E e)) E nz x L1.length p.interval hx ω ω Q.1 qf tO ω ω _ K) ?_;rintro u4 w4⟨eK,qc,yb,aq⟩;have DA:=v.sl.kp aq (λg hg e=>by have:=v.fr g hg;omega);have OV:=eK.rd;have Lm:O1.length<=65536:=ω
     refine PX O O (pap QG Qn O ψ O O DA eK.rd (z4R _) ω (by simp only[maxLen];omega)) ?_;rintro v5 f⟨gd,ai,Ln,-⟩;have A:=v.app H G aq yb gd ai Ln;refine Qe O ((av _ _ ⟨v5,O,?_⟩).qb);rw[S];exact A
    ·have Y:¬(0<p.interval/\L1≠[]):=λe=>by rw[eg.2 e] at b;cases b
     have N:Q.1=[]:=by
      by_cases e:L1=[]
      ·rw[Lh e]
      ·exact Lg (by by_cases e2:0<p.interval;exact absurd ⟨e2,e⟩ Y;omega)
     rw[if_neg Y] at S;refine PS ((av _ _ ⟨_,O,?_⟩).qb);rw[N,S,show S7 []=[] from rfl,y0o,show(Qr []).length=0 from rfl,y1f];exact v
  case ge=>
   rcases y0D L1.length with M|M
   ·refine Sv O<|RR O<|QW<|Q4 O<|Sc<|qS<|R0 O<|Q4 O<|Sc<|Sc<|qS<|R0 O<|PR<|QA.qb (e:=[(0,_),(1,_),(7,_),(9,_),(11,_),(12,_),(38,_)]) ?_;exact(cF _ _ ⟨false,O,O,⟨λe=>(by cases e),λe=>absurd (tc.2 M) e.2⟩⟩).qb
   ·rcases y0D p.interval with ns|ns
    ·refine Sv O<|RR O<|SD<|Q4 O<|Qf Vv O<|qV (Q0 U3 O O F O)<|RR O<|QW<|Sh O<|Q4 O<|Sc<|Sc<|qS<|R0 O ?_;refine PR<|QA.qb (e:=[(0,_),(1,_),(7,_),(9,_),(11,_),(12,_),(38,_)]) ?_;exact(cF _ _ ⟨false,O,O,by simp[ns]⟩).qb
    ·refine Sv O<|RR O<|SD<|Q4 O<|Qf Vv O<|qV (Q0 U3 O O F O)<|RR O<|SD<|Sh O<|Qq O<|QC O<|Qf Vb O<|qV (Q0 U4 O O Dw O)<|qV (Tf O) ?_;refine Sh O<|PR<|QA.qb (e:=[(0,_),(1,_),(7,_),(9,_),(11,_),(12,_),(38,_)]) ?_;exact(cF _ _ ⟨true,O,O,⟨λ_=>⟨ns,λe=>(by have:=tc.1 e;omega)⟩,λ_=>rfl⟩⟩).qb
 case du=>
  refine Qa O (λh0=>?_)<|λh0=>?_
  ·have N:0<q:=ω
   have W:=Uk succ ref;have P:=W.z2p;rw[y0n] at P;have yd:=iH.len
   have ye:(Sr succ ref).sum=ref.length:=by
    have:=congrArg List.length W.exp;rw[TV,y0n] at this;exact this
   have yf:=zao succ ref;rw[show YW succ ref q=(.gamma,(Sr succ ref).length-1)::RA 0 (Sr succ ref).dropLast from if_pos N] at D;obtain⟨l,m,L⟩:∃l m,Sr succ ref=l++[m]:=⟨_,_,(y2p W.ne).symm⟩;have iA:=W.pos;rw[L] at D ye P iA;rw[L,y2u] at yf;rw[y2u,show(l++[m]).length-1=l.length by simp] at D;rw[y1a] at ye;rw[y01,y1u] at P;have V:=h.ext J
   have yg:∀X∈l.drop 1,1<=X:=λX nT=>iA X (by
    cases l with
    |nil=>simp at nT
    |cons a l=>rw[y0s,y26,y0U];rw[y26,y0U] at nT;exact y1X _ nT)
   refine PY O (Qq O (Qj zhR O (z6a V (J.PO hG) E ref l (λf k=>db f (J.kp.trans k)) f7 yd ω ω yg _ D) ?_));rintro d w3⟨dg,qk,qm,o⟩;refine Qe O ((bF _ _ ⟨d,O,?_⟩).qb);rw[yf] at dg;rw[show YW succ ref q=(.gamma,l.length)::RA 0 l by unfold YW;rw[if_pos N,L,y2u,show(l++[m]).length-1=l.length by simp]];have a2:=Z.lt;have a4:=U.lt;exact⟨qm,J.kp.trans (o.PZ λk e=> .inr e),dg,λg hg=>by have:=qk g hg;omega,o.PO Z ω,o.PO U ω,ω,ω,λe=>by have:=qk _ e;omega,λe=>by have:=qk _ e;omega⟩
  ·have N:q=0:=ω
   have DB:=nA N;subst DB;refine PS ((bF _ _ ⟨.slice none 0 0,O,?_⟩).qb);rw[show YW succ [] q=[] by unfold YW;rw[if_neg ω]];exact⟨h.ext J,J.kp,Sl.nil _ _ _,(λg hg=>by cases hg),Z,U,ω,ω,(λe=>by cases e),(λe=>by cases e)⟩
def z5Y {l b rest:List Bool}{n:Nat}(d:l.drop a=b++rest)(e:k+n<=b.length):(l.drop (a+k)).take n=(b.drop k).take n:=by
 rw[<-y0G,d,y1i ω,y1n (by rw[y08];omega)]
theorem zaA {r:Nat}(p:Te)(hp:p.RN)(x:Nat)(hx:x<65536){la:Option Addr}{c rc:Nat}(succ ref:List Nat)(hs:QR succ)(bz:succ≠[])(iH:QR ref)
  (q:Nat) (hq:q<=p.Qt) (nA:q=0->ref=[]) (V:Q8 w 1 (Tu .gamma) 314) (W:Q8 w 2 (Tu .unary) 314) (eM:Rd w (.slice la succ.length c) 1 succ.length (succ.map QL)) (mg:Rd w (.slice ra ref.length rc) 1 ref.length (ref.map QL)) (g7:succ.length<=c) (nJ:ref.length<=rc)
  (hl:(Qr (SM p x succ ref q)).length<=134217728) (rest:List Bool) (hb:(Qo s).drop a=Qr (W3 p x succ ref q)++rest) (h:Va w r s (a+(Qr (W3 p x succ ref q)).length)):
  Qx prog 214 [lpV p,ptr r 0,I (a:Int),I (x:Int),.agg #[I (succ.length:Int),I (q:Int)],.slice la succ.length c,.slice ra ref.length rc] w λu w'=>u= .bool true/\Va w' r s (a+(Qr (W3 p x succ ref q)).length)/\Kp (λk=>k=r) w w':=by
 have a4:=h.1.lt
 have a2:=V.lt
 have a3:=W.lt
 have ia:=hs.len
 have nU:=z2w p x (ref:=ref) q bz
 have BF:Qr (SM p x succ ref q)=Qr (RQ p succ.length q)++Qr (W3 p x succ ref q):=by rw[nU,TE]
 have fI:(Qr (SM p x succ ref q)).length=(Qr (RQ p succ.length q)).length+(Qr (W3 p x succ ref q)).length:=by rw[nU,TE,y01]
 generalize Qr (W3 p x succ ref q)=TB at*
 have pn:succ.length≠0:=λe=>bz (y0w e)
 refine py (e:=[(0,_),(1,_),(2,_),(3,_),(4,_),(5,_),(6,_)]) func214 O ntmps214 O O<|qN O<|PX O O (Sy O (cs:=lpC p) O) ?_
 rintro _ w1⟨b7,rfl,lu,P,cd⟩
 refine PX O O (Sy O (cs:=[I (succ.length:Int),I (q:Int)]) O) ?_
 rintro _ w2⟨a0,rfl,jg,N,aZ⟩
 have J:=P.trans N
 have z1:=P.size
 have z2:=N.size
 have eD:=N.PO cd
 have S:Va w2 r s (a+TB.length):=⟨J.PO h.1,h.2⟩
 refine RZ O<|Qj Zy O (Vz S) ?_
 rintro _ w2⟨rfl,rfl⟩
 refine Sb O<|Qj z2B O (W2 w2) ?_
 rintro _ w3⟨wp,F,rfl,mW,G,qn⟩
 have z3:=G.size
 have K:=J.trans G
 have lM:=G.PO aZ
 have tW:=G.PO eD
 refine Qe O<|It<|RK O<|Qq O<|Qf TK O<|qV (Q0 U3 O O lM O)<|qV (QB (news:=lpC p) XT O Vr O (tW.cells (n:=3) O) O)<|Qj zfK O (z1g mW p hp x hx succ ref hs iH q hq nA (K.PO V) (K.PO W) (eM.ext K) (mg.ext K) g7 nJ (by simpa using hl)) ?_
 rintro _ m⟨rfl,F4,mt,R,qc⟩
 rw[y14] at mt
 have z4:=R.size
 have cw:Ext w2 m:=G.An R qn
 refine RI O<|Ri O<|Qz O<|Qj z9B O (Y6 mt) ?_
 rintro _ m⟨rfl,rfl⟩
 refine Q4 O<|Tr O<|Rw O<|QA.qb (e:=[(1,_),(2,_),(7,_),(14,_),(15,_),(16,_),(17,_)]) ?_
 refine Qz O ?_
 have g8:(Qw (Qr (SM p x succ ref q))).length<=16777217:=by rw[QP];omega
 refine Qj z9n O (Yi (Qw (Qr (SM p x succ ref q))) ω m) ?_
 rintro _ w5⟨v,rfl,gU,L,OW⟩
 have Y:=cw.trans L
 have X:=J.trans Y
 obtain⟨z,nh,ns,OX⟩:=Tt (Qr (SM p x succ ref q))
 have t:(Qo (Qw (Qr (SM p x succ ref q)))).drop 0=Qr (RQ p succ.length q)++(TB++List.replicate z false):=by
  rw[nh,y0U,BF,y06]
 refine Qe O<|QV O<|qV (QB (news:=lpC p) XT O Vr O ((Y.PO eD).cells (n:=3) O) O)<|Qj zfw O (z3W gU p hp (X.PO V) (X.PO W) ω ω succ.length q ω hq (λe=>absurd e pn) _ t) ?_
 rintro _ w6⟨rfl,Q,B⟩
 rw[y0k] at Q
 have iJ:Ext w2 w6:=Y.An B (λk e=>ω)
 have f:=Ts t
 rw[y0k] at f
 generalize (Qw (Qr (SM p x succ ref q)))=os at*
 have z6:=iJ.size
 refine Q4 O<|Tr O<|PX O O (SE (cs:=[_,_]) Tw O) ?_
 rintro _ w7⟨a1,rfl,Lo,cj,DC⟩
 refine Qc O (QX (news:=[I (succ.length:Int),I (q:Int)]) Tw O O O O DC ξ) ?_
 rintro D⟨IE,aQ⟩
 have Z:Ext w6 D:=cj.An aQ (λk e=>ω)
 have jq:=iJ.trans Z
 have U:Va D r s (a+TB.length):=⟨jq.PO S.1,S.2⟩
 have o:Va D v os (Qr (RQ p succ.length q)).length:=⟨Z.PO Q.1,Q.2⟩
 have pE:ZT D wp (Qr (SM p x succ ref q)) F4:=((mt.ext L).kp B (λi hi e=>by have:=mt.lt hi;omega)).ext Z
 refine RZ O<|RI O<|Qq O<|Qj z3z O (WG pE) ?_
 rintro _ D⟨rfl,rfl⟩
 refine Q4 O<|Qj Zy O (Vz o) ?_
 rintro _ D⟨rfl,rfl⟩
 refine SA O ?_
 rw[show((Qr (SM p x succ ref q)).length:Int)-((Qr (RQ p succ.length q)).length:Int)=(TB.length:Int) by omega]
 refine Qq O<|SA O ?_
 rw[show((a+TB.length:Nat):Int)-(a:Int)=(TB.length:Int) by omega]
 refine RI O<|QW<|R0 O<|PR<|QA.qb (e:=[(1,_),(2,_),(14,_),(15,_),(19,_),(64,_)]) ?_
 refine Us O<|RK O<|Qj zbL O (z0G U a (by have:=U.2.1;omega)) ?_
 rintro _ w9⟨rfl,h9,E⟩
 have rL:Va w9 v os (Qr (RQ p succ.length q)).length:=⟨E.PO o.1 ω,o.2⟩
 refine PR<|RU<|SN (α:=Nat) (0) (λk=>[(1,ptr r 0),(15,I ((a+TB.length:Nat):Int)),(19,ptr v 0)]) (λk w'=>Va w' r s (a+k)/\Va w' v os ((Qr (RQ p succ.length q)).length+k)/\Kp (λi=>i=r\/i=v) w9 w'/\k<=TB.length) (λk=>TB.length-k) ?hI ?hround
 case hI=>exact⟨h9,rL,Kp.refl _ _,y03 _⟩
 case hround=>
  rintro k A⟨H,yh,y,OY⟩ ih
  try dsimp only
  refine QV O<|Qj Zy O (Vz H) ?_;rintro _ A⟨rfl,rfl⟩;refine Q4 O<|RT O<|PR<|Qa O (λh0=>?_)<|λh0=>?_
  ·refine PS<|PT<|RK O<|Qj Zy O (Vz H) ?_;rintro _ A⟨rfl,rfl⟩;refine SA O ?_;rw[show((a+TB.length:Nat):Int)-((a+k:Nat):Int)=((TB.length-k:Nat):Int) by omega];refine qV (ymi O O) ?_;rw[show min (64:Int) ((TB.length-k:Nat):Int)=((min 64 (TB.length-k):Nat):Int) by omega];obtain⟨n,hn,cf,jN,M⟩:∃n,min 64 (TB.length-k)=n/\1<=n/\n<=64/\k+n<=TB.length:=⟨_,O,ω,ω,ω⟩;rw[hn];have tY:=H.2.1;have fK:=z5Y hb M;have lB:=z5Y f M;have Ib:a+TB.length<=8*s.length:=U.2.1
   have rM:(Qr (RQ p succ.length q)).length+TB.length<=8*os.length:=by
    have e:=congrArg List.length f;rw[y08,bitsT_length,y01] at e;omega
   refine Sb O<|Qq O<|Qj z66 O (WT H n jN) ?_;rintro g l d
   have b:g= .tuple #[Qi (QO (((Qo s).drop (a+k)).take n)),I 0]/\Va l r s (a+k+n)/\Kp (λk=>k=r) A l:=by
    rcases d with d|d
    ·exact d.2
    ·omega
   obtain⟨rfl,oZ,T⟩:=b;rw[fK];have DE:Va l v os ((Qr (RQ p succ.length q)).length+k):=⟨T.PO yh.1 ω,yh.2⟩;refine Q4 O<|Tr O<|Tq O<|Sb O<|Qq O<|Qj z66 O (WT DE n jN) ?_;rintro j C d
   have b:j= .tuple #[Qi (QO (((Qo os).drop ((Qr (RQ p succ.length q)).length+k)).take n)),I 0]/\Va C v os ((Qr (RQ p succ.length q)).length+k+n)/\Kp (λk=>k=v) l C:=by
    rcases d with d|d
    ·exact d.2
    ·omega
   obtain⟨rfl,DF,br⟩:=b;rw[lB];have DG:Va C r s (a+k+n):=⟨br.PO oZ.1 ω,oZ.2⟩;refine Q4 O<|Tr O<|Tq O<|Sb O<|Qq O<|RI O<|PR<|Qa O (λh1=>?_)<|λh1=>?_
   ·exact absurd O h1
   ·refine PS<|PN ((ih (k+n) _ ⟨by rw[<-y1x];exact DG,by rw[<-y1x];exact DF,(y.trans (T.PZ λi e=> .inl e)).trans (br.PZ λi e=> .inr e),M⟩ ω).qb)
  ·have j5:k=TB.length:=ω
   subst j5;refine Q7 O<|RY O<|PQ func214 O ?_;exact⟨_,O,O,H,((J.trans jq).kp.trans E).An y (λi hi=>by rcases hi with e|e;exact .inr e;exact .inl ω)⟩
theorem z1a {r:Nat}(h:Va w r s a)(p:Te)(M:p.RN)(x:Nat)(j:x<65536)(N:Nat)(hN:N<=65536){rc:Nat}(succ ref:List Nat)(Q:QR succ)(Y:succ≠[])(jp:succ.length<50)(DH:∀y∈succ,y<N)(S:QR ref)
  (q:Nat) (hq:q<=p.Qt) (m:q=0->ref=[]) (f:Q8 w 1 (Tu .gamma) 314) (X:Q8 w 2 (Tu .unary) 314) (E:¬1=r) (cP:¬2=r) (Z:∀w2,Kp (λk=>k=r) w w2->Rd w2 (.slice ra ref.length rc) 1 ref.length (ref.map QL)) (nJ:ref.length<=rc)
  (hl:(Qr (SM p x succ ref q)).length<=134217728) (rest:List Bool) (hb:(Qo s).drop a=Qr (W3 p x succ ref q)++rest):
  Qx prog 186 [ptr r 0,I (x:Int),I (N:Int),.agg #[I (succ.length:Int),I (q:Int)],.slice ra ref.length rc,lpV p] w λu w'=>∃v,u= .tuple #[v,I 0]/\Sl w' v 42 1 succ.length (succ.map QL)/\(∀g,v.ownBlock=some g->w.heap.size<=g)/\Va w' r s (a+(Qr (W3 p x succ ref q)).length)/\Kp (λk=>k=r) w w':=by
 obtain⟨g1,g2,g3,g4⟩:=id M
 have a4:=h.1.lt
 have a0:=f.lt
 have a2:=X.lt
 have ia:=Q.len
 have io:=S.len
 have pn:0<succ.length:=List.length_pos_iff.2 Y
 refine py (e:=[(0,_),(1,_),(2,_),(3,_),(4,_),(5,_)]) func186 O ntmps186 O O<|qN O<|PX O O (Sy O (cs:=[I (succ.length:Int),I (q:Int)]) O) ?_
 rintro _ w1⟨b9,rfl,ny,B,F⟩
 refine PX O O (Sy O (cs:=lpC p) O) ?_
 rintro _ w2⟨H,rfl,jg,V,G⟩
 replace G:Q8 w2 H [I (p.Qt:Int),I (p.interval:Int),I (p.zeta:Int)] 276:=G
 have t:=B.trans V
 have z1:=B.size
 have z2:=V.size
 have l:=V.PO F
 have l9:=l.lt
 have a1:=G.lt
 have a3:=F.lt
 refine Rw O<|It<|QT (λR w'=>R=[(0,ptr r 0),(1,I (x:Int)),(2,I (N:Int)),(4,.slice ra ref.length rc),(9,ptr b9 0),(11,ptr H 0)]/\Ext w2 w') ?jR<|λjR=>?DJ
 case jR=>
  rintro R A⟨rfl,d⟩;have P:=t.trans d;have b:Va A r s a:=⟨P.PO h.1,h.2⟩;have L:=d.PO l;have lM:=d.PO G;have z3:=d.size;refine Qz O<|Qj Zy O (Vz b) ?_;rintro _ A⟨rfl,rfl⟩;refine RZ O<|qV (To (cs:=[_,_]) zjY O ziX O O)<|PX O O (Sy O (cs:=[ptr r 0,.bool false]) O) ?_;rintro _ w4⟨tb,rfl,Lp,C,Lq⟩;have z4:=C.size;have J:=P.trans C;have h4:TkM w4 tb r s a:=⟨Lq,⟨C.PO b.1,b.2⟩,ω⟩;refine Sb O (Qq O (qV (QB (news:=[I (succ.length:Int),I (q:Int)]) z35 O Tw O ((C.PO L).cells (n:=2) O) O) (Q4 O (qV (QB (news:=lpC p) XT O Vr O ((C.PO lM).cells (n:=3) O) O) (Qj zkP O (zap h4 (J.PO f) E ω p M x j succ ref Q Y jp S q hq m (λw2 k=>Z w2 (J.kp.trans k)) nJ rest hb) ?_)))));rintro v U⟨D,tN,o,W⟩;have K:Kp (λk=>k=r) w U:=J.kp.An W (λi hi=>by rcases hi with e|e;exact .inl ω;exact .inr e);have mv:=W.PO (C.PO L) ω;have yi:=W.PO (C.PO lM) ω;have Lr:=o.PO;have Ls:=K.PO f E;have Lt:=K.PO X cP;have bL:=Z U K;have xw:∀g,v.ownBlock=some g->w.heap.size<=g:=λg hg=>by have:=tN g hg;have:=J.size;omega
  obtain⟨va,vc,rfl,BI⟩:=D.rd.shape
  have DI:succ.length<=vc:=by
   rcases D.shape with⟨-,h0⟩|⟨g,c1,hv,gW⟩
   ·omega
   ·cases hv;exact gW
  refine Qe O<|QV O<|QC O<|Qf Vb O<|qV (Q0 U4 O O Lr O)<|Qq O<|SS QG O<|Qf UE O<|qV (Q0 U3 O O mv O)<|RI O<|QW<|R0 O<|Qq O<|Qj z5c O (XI _ succ Q U D.rd) ?_;rintro _ U⟨rfl,rfl⟩;refine qV (Tf O)<|R0 O<|Qq O<|SS QG O<|Ss O<|QW<|R0 O<|Qq O<|Q4 O<|SS QG O<|SA O ?_;rw[show(succ.length:Int)-1=((succ.length-1:Nat):Int) by omega];obtain⟨y,hy⟩:∃y,succ[succ.length-1]? =some y:=⟨_,y07 ω⟩;have OZ:=DH y (y0i hy)
  obtain⟨g5,c5,e5⟩:∃g c,Value.slice va succ.length vc= .slice (some ⟨g,0,none⟩) succ.length c:=by
   rcases D.shape with⟨-,h0⟩|⟨g,c,e,hc⟩
   ·omega
   ·exact⟨g,c,e⟩
  cases e5;refine qV (Rk QG Qn O O ω) (qV (QH RO O O (Rg D.rd (show(succ.map QL)[succ.length-1]? =some (QL y) by rw[y0m,hy];rfl))) ?_);refine qV (QU O RO U3 ω)<|Q4 O<|UL O<|QW<|R0 O<|Q4 O<|qV (QB (news:=lpC p) XT O Vr O (yi.cells (n:=3) O) O)<|Qq O<|Q4 O<|qV (QB (news:=[I (succ.length:Int),I (q:Int)]) z35 O Tw O (mv.cells (n:=2) O) O)<|Qq O<|Qj zjm O (zaA p M x j succ ref Q Y S q hq m Ls Lt D.rd bL DI nJ hl rest hb o.rd) ?_;rintro _ w6⟨rfl,h6,z⟩;refine qV (Tf O)<|R0 O<|PR<|QA.qb (e:=[(0,_),(14,_),(16,_),(134,_)]) ?_;refine Us O<|Qz O<|Rw O<|PQ func186 O ?_;exact⟨_,O,_,O,D.kp z (λg hg e=>by have:=xw g hg;omega),xw,h6,K.trans z⟩
 case DJ=>
  refine PT<|Qz O<|qV (Rm VS O O)<|Qe O<|PW O<|It<|qN O<|qV (QB (news:=lpC p) XT O Vr O (G.cells (n:=3) O) O)<|Qj z6P O (Vh p M w2) ?_;rintro _ A⟨rfl,d⟩;refine RI O<|Qq O<|Qj z9i O (Xc x j A) ?_;rintro _ A⟨rfl,rfl⟩;refine qV (Tf O)<|R0 O<|Qq O<|RT O<|QW<|R0 O<|Qq O<|RR O<|QW<|R0 O<|Qq O<|Qj z5c O (XI _ ref S A (Z A (t.trans d).kp)) ?_;rintro _ A⟨rfl,rfl⟩;refine qV (Tf O)<|R0 O<|Qe O<|QA.qb (e:=[(0,_),(1,_),(2,_),(4,_),(9,_),(11,_),(12,_),(13,_),(20,_)]) ?_;refine PW O<|PY O<|Qf UE O<|qV (Q0 U3 O O (d.PO l) O)<|RT O<|QW<|Q4 O<|Qf UE O<|qV (Q0 U3 O O (d.PO l) O)<|RR O<|QW<|R0 O<|Q4 O<|Qf TK O ?_;refine qV (Q0 U3 O O (d.PO l) O)<|RT O<|QW<|R0 O<|Q4 O<|Qf TK O<|qV (Q0 U3 O O (d.PO l) O)<|Qf UG O<|qV (Q0 U3 O O (d.PO G) O)<|RR O<|QW<|R0 O<|Q4 O ?_;rcases y0D q with T|T
  ·have Lu:ref.length=0:=by rw[m T];rfl
   refine Qf TK O<|qV (Q0 U3 O O (d.PO l) O)<|Ss O<|SD<|Qq O<|SS QG O<|RR O<|QW<|Sh O<|R0 O<|Qe O<|QA.qb (e:=[(0,_),(1,_),(2,_),(4,_),(9,_),(11,_),(12,_),(13,_),(20,_)]) ?_;refine PW O<|qN O<|Qf UE O<|qV (Q0 U3 O O (d.PO l) O)<|Ss O<|QW<|Q4 O<|Sc<|qS<|R0 O<|Qe O<|Us O<|PN ?_;exact(jR _ _ ⟨O,d⟩).qb
  ·refine Qf TK O<|qV (Q0 U3 O O (d.PO l) O)<|Ss O<|QW<|Q4 O<|Sc<|qS<|R0 O<|R0 O<|Qe O<|QA.qb (e:=[(0,_),(1,_),(2,_),(4,_),(9,_),(11,_),(12,_),(13,_),(20,_)]) ?_;refine PW O<|qN O<|Qf UE O<|qV (Q0 U3 O O (d.PO l) O)<|Ss O<|QW<|Q4 O<|Sc<|qS<|R0 O<|Qe O<|Us O<|PN ?_;exact(jR _ _ ⟨O,d⟩).qb
theorem z4H {r:Nat}(p:Te)(D:p.RN)(x:Nat)(K:x<65536)(N:Nat)(hN:N<=65536):
  Qx prog 186 [ptr r 0,I (x:Int),I (N:Int),.agg #[I ((0:Nat):Int),I ((0:Nat):Int)],.slice none 0 0,lpV p] w λu w'=>u= .tuple #[.slice none 0 0,I 0]/\Ext w w':=by
 obtain⟨M,Q,S,g4⟩:=id D
 have W:([]:List Nat).length=0:=rfl
 refine py (e:=[(0,_),(1,_),(2,_),(3,_),(4,_),(5,_)]) func186 O ntmps186 O O<|qN O<|PX O O (Sy O (cs:=[I ((0:Nat):Int),I ((0:Nat):Int)]) O) ?_
 rintro _ w1⟨b9,rfl,V,H,J⟩
 refine PX O O (Sy O (cs:=lpC p) O) ?_
 rintro _ w2⟨A,rfl,U,C,q⟩
 replace q:Q8 w2 A [I (p.Qt:Int),I (p.interval:Int),I (p.zeta:Int)] 276:=q
 have G:=H.trans C
 have l:=C.PO J
 refine Rw O<|RU<|Qz O<|qV (Rm VS O O)<|Qe O<|PW O<|It<|qN O<|qV (QB (news:=lpC p) XT O Vr O (q.cells (n:=3) O) O)<|Qj z6P O (Vh p D w2) ?_
 rintro _ v⟨rfl,d⟩
 refine RI O<|Qq O<|Qj z9i O (Xc x K v) ?_
 rintro _ v⟨rfl,rfl⟩
 refine qV (Tf O)<|R0 O<|Qq O<|RT O<|QW<|R0 O<|Qq O<|RR O<|QW<|R0 O<|Qq O<|Qj z5c O (XI (.slice none 0 0) [] ⟨y1p,λy h=>(by cases h)⟩ v WX) ?_
 rintro _ v⟨rfl,rfl⟩
 refine qV (Tf O)<|R0 O<|Qe O<|QA.qb (e:=[(0,_),(1,_),(2,_),(4,_),(9,_),(11,_),(12,_),(13,_),(20,_)]) ?_
 refine PW O<|PY O<|Qf UE O<|qV (Q0 U3 O O (d.PO l) O)<|RT O<|QW<|Q4 O<|Qf UE O<|qV (Q0 U3 O O (d.PO l) O)<|RR O<|QW<|R0 O<|Q4 O<|Qf TK O ?_
 refine qV (Q0 U3 O O (d.PO l) O)<|RT O<|QW<|R0 O<|Q4 O<|Qf TK O<|qV (Q0 U3 O O (d.PO l) O)<|Qf UG O<|qV (Q0 U3 O O (d.PO q) O)<|RR O<|QW<|R0 O<|Q4 O<|Qf TK O ?_
 refine qV (Q0 U3 O O (d.PO l) O)<|Ss O<|SD<|Qq O<|SS QG O<|RR O<|QW<|Sh O<|R0 O<|Qe O<|QA.qb (e:=[(0,_),(1,_),(2,_),(4,_),(9,_),(11,_),(12,_),(13,_),(20,_)]) ?_
 refine PW O<|qN O<|Qf UE O<|qV (Q0 U3 O O (d.PO l) O)<|Ss O<|SD<|Q4 O<|Qf TK O<|qV (Q0 U3 O O (d.PO l) O)<|Ss O<|SD<|Sh O<|Qe O<|Qb O ?_
 refine qN O<|Rw O<|PQ func186 O ?_
 exact⟨_,O,O,G.trans d⟩
/-! ### A packer's cells -/
def Xu (q:Value×Nat):List Value:=[q.1,I (q.2:Int)]
def Zh (p:RE)(R:List (Value×Nat))(n wp ed:Nat):List Value:=WC p++(R.flatMap Xu++[I (n:Int),ptr wp 0,I (ed:Int),I 0])
theorem T4:∀R:List (Value×Nat),(R.flatMap Xu).length=R.length*2
 |[]=>rfl
 |q::R=>by rw[y0V,y01,T4 R,y02,show(Xu q).length=2 from rfl];omega
def z6r:∀(R:List (Value×Nat)) (i j:Nat) (q:Value×Nat) (u:Value),R[i]? =some q->(Xu q)[j]? =some u->(R.flatMap Xu)[i*2+j]? =some u
 |[],i,j,q,u,h,_=>by simp at h
 | a :: R, 0, j, q, u, h, hj => by
   rw[y1v] at h;cases h;have:=(y0l.1 hj).1;rw[y0V,y0K ω,y1k,y0k]
   exact hj
 | a :: R, i + 1, j, q, u, h, hj => by
   rw[y1L] at h;rw[y0V,y0X (by show 2<=_;omega),show(i+1)*2+j-(Xu a).length=i*2+j by show _-2=_;omega];exact z6r R i j q u h hj
theorem z5o:∀(R:List (Value×Nat)) (i:Nat) (x:Value×Nat),i<R.length->(R.set i x).flatMap Xu=(R.flatMap Xu).take (i*2)++Xu x++(R.flatMap Xu).drop (i*2+2)
 |[],i,x,h=>by simp at h
 | a :: R, 0, x, h => by
   rw[y2E,y0V,y0V,y1k,y2A,y14,y0k,y10 (show(Xu a).length=2 from rfl)]
 | a :: R, i + 1, x, h => by
   rw[y02] at h;rw[List.set_cons_succ,y0V,y0V,z5o R i x ω];rw[show(i+1)*2=(Xu a).length+i*2 by show _=2+_;omega,y3A,y1x,y33,y06,y06,y06]
section
variable {n:Nat}
theorem z7L (d:R.length=17):(Zh p R n wp ed).length=43:=by
 unfold Zh
 rw[y01,y01,T4,d];rfl
def z1t (d:R.length=17)(j:Nat):(Zh p R n wp ed)[39+j]? =[I (n:Int),ptr wp 0,I (ed:Int),I 0][j]? :=by
 unfold Zh
 rw[y0X (by show 5<=_;omega),y0X (by rw[T4,d];show _<=_-5;omega),T4,d]
 congr 1
 show 39+j-5-17*2=j
 omega
def z7E (d:R.length=17):(Zh p R n wp ed)[39]? =some (I (n:Int)):=z1t d 0
def zgE (d:R.length=17):(Zh p R n wp ed)[40]? =some (ptr wp 0):=z1t d 1
def zjx (d:R.length=17):(Zh p R n wp ed)[41]? =some (I (ed:Int)):=z1t d 2
def zm0 (d:R.length=17):(Zh p R n wp ed)[42]? =some (I 0):=z1t d 3
def zdK (e:R.length=17){v:Value}(h:R[i]? =some (v,c))(j:Nat)(u:Value)(d:[v,I (c:Int)][j]? =some u):(Zh p R n wp ed)[5+i*2+j]? =some u:=by
 have hi:=(y0l.1 h).1
 have l:j<2:=(y0l.1 d).1
 unfold Zh
 rw[y0X (by show 5<=_;omega),show 5+i*2+j-(WC p).length=i*2+j by show _-5=_;omega,y0K (by rw[T4];omega)]
 exact z6r R i j _ u h d
theorem zb5 (d:R.length=17)(hi:i<17)(v:Value)(c:Nat):S1 (Zh p R n wp ed) (5+i*2) [v,I (c:Int)]=Zh p (R.set i (v,c)) n wp ed:=by
 unfold Zh S1
 rw[z5o R i (v,c) ω]
 rw[show 5+i*2=(WC p).length+i*2 from rfl,y3A,show(WC p).length+i*2+[v,I (c:Int)].length=(WC p).length+(i*2+2) from rfl,y33]
 rw[y1n (by rw[T4];omega),y1i (by rw[T4];omega)]
 simp only[y06]
 rfl
theorem zeb (d:R.length=17)(m:Nat):(Zh p R n wp ed).set 39 (I (m:Int))=Zh p R m wp ed:=by
 unfold Zh
 rw[y1Y _ _ (by show 5<=_;omega),y1Y _ _ (by rw[T4,d];show _<=39-5;omega),T4,d]
 rfl
theorem zev (d:R.length=17)(m:Nat):(Zh p R n wp ed).set 41 (I (m:Int))=Zh p R n wp m:=by
 unfold Zh
 rw[y1Y _ _ (by show 5<=_;omega),y1Y _ _ (by rw[T4,d];show _<=41-5;omega),T4,d]
 rfl
end
theorem zcC {n:Nat}(hB:Q8 w k (Zh p R n wp ed) 273)(q:R.length=17)(A:n<=65536)(a:Option Addr)(m cp c:Nat):
  Qx prog 166 [ptr k 5,.slice a m cp,I (c:Int)] w λu w'=>u= .tuple #[]/\Q8 w' k (Zh p (R.set (n%17) (.slice a m cp,c)) (n+1) wp ed) 273/\Kp (λi=>i=k) w w':=by
 refine py (e:=[(0,_),(1,_),(2,_)]) func166 O ntmps166 O O ?_
 have hg:=Ext.Qm w
 have r:(R.set (n%17) (.slice a m cp,c)).length=17:=by rw[y0A];exact q
 refine It<|Qp [12] (λw'=>Ext w w') y00 O<|R1 0 O O hg<|R1 1 O O hg<|Qs 2 O (Rs O) hg<|Qs 3 O (QE Wl O) hg<|R1 6 O O hg<|R1 7 O O hg<|Qs 8 O (To (cs:=[_,_]) S4 O zg1 O O) hg<|Qs 9 O (Rs O) hg<|Qs 10 O (QE z9c O) hg<|qL 4 O (λ_ h=>Q0 U3 O O (h.PO hB) (z7E q)) hg<|Qs 5 O (yre O O ω) hg<|Qs 11 O (yia zh6 S4 O O ω) hg ?_
 refine U0 [12]<|qO 12<|QQ (i:=12) O O (QX (news:=[.slice a m cp,I (c:Int)]) S4 O O O O (hg.PO hB) (by rw[z7L q];show 5+n%17*2+2<=43;omega)) ?_
 rintro w1⟨d,v⟩
 refine⟨trivial,?_⟩
 replace d:Q8 w1 k (S1 (Zh p R n wp ed) (5+n%17*2) [.slice a m cp,I (c:Int)]) 273:=d
 rw[zb5 q (y0Y _ ψ)] at d
 refine qE<|Sv O<|QC O<|Qf Wl O<|qV (Q0 U3 O O d (z7E r))<|Ra O<|QC O<|Qf Wl O<|Qc O (S0 R8 O O O d (by rw[z7L r];decide)) ?_
 rintro w2⟨l,x⟩
 replace l:Q8 w2 k ((Zh p (R.set (n%17) (.slice a m cp,c)) n wp ed).set 39 (I ((n+1:Nat):Int))) 273:=l
 rw[zeb r] at l
 refine PR<|Rj func166 O ?_
 exact⟨_,O,O,l,(hg.kp.trans v).trans x⟩
def Vp (p:RE)(m size c:Nat):Bool:=decide (0<m/\m<=p.most/\0<size/\size<=p.most/\c<p.chain)
theorem Ys {n:Nat}(hB:Q8 w k (Zh p R n wp ed) 273)(S:R.length=17)(hn:n<=65536)(F:p.RN)(ref size:Nat)(h1:1<=ref)(h2:ref<=p.Qt)
  {a:Option Addr} {m cp c:Nat} (L:ref<=n->R[(n-ref)%17]? =some (.slice a m cp,c)):
  Qx prog 164 [ptr k 5,I (ref:Int),I (size:Int),bpV p] w λu w'=>u=(if ref<=n then .tuple #[.agg #[.slice a m cp,I (c:Int)],.bool (Vp p m size c)] else .tuple #[.agg #[.slice none 0 0,I 0],.bool false])/\Ext w w':=by
 have yj:p.Qt<=16:=F.1.1
 refine py (e:=[(0,_),(1,_),(2,_),(3,_)]) func164 O ntmps164 O O<|qN O<|PX O O (Sy O (cs:=WC p) O) ?_
 rintro _ w1⟨b7,rfl,lu,b,g⟩
 refine PX O O (SE (cs:=[_,_]) S4 O) ?_
 rintro _ w2⟨b8,rfl,gV,U,N⟩
 have z1:=b.size
 have z2:=U.size
 have l7:=g.lt
 have l8:=N.lt
 have K:=b.trans U
 have Q:=U.PO g
 replace Q:Q8 w2 b7 [I (p.Qt:Int),I (p.chain:Int),I (p.interval:Int),I (p.zeta:Int),I (p.most:Int)] 93:=Q
 replace N:Q8 w2 b8 [.slice none 0 0,I 0] 268:=N
 have Y:=K.PO hB
 have q:=Ext.Qm w2
 refine Qe O<|It<|It ?_
 rcases y0a n ref with aO|o
 ·refine Sq (λw'=>Ext w2 w') O<|Ql 0 O O q<|PV 1 O (ylt O O) q<|Vm<|Ql 2 O O q<|Ql 3 O O q<|Ql 4 O O q<|PV 5 O (Rs O) q<|PV 6 O (QE Wl O) q<|PV 8 O (QE z38 O) q<|qT 9 O (λ_ h=>Q0 U3 O O (h.PO Q) O) q<|qT 7 O (λ_ h=>Q0 U3 O O (h.PO Y) (z7E S)) q<|PV 10 O (ymi O O) q<|PV 11 O (Zq O O) q ?_;refine Vn<|PV 12 O (VF O O) q<|qE<|Qb O<|qN O<|qV (To (cs:=[_,_]) S4 O zg1 O O) ?_;have T:=q.PO N;refine Qc O (QX (news:=[.slice none 0 0,I 0]) S4 O O O O T ξ) ?_;rintro t⟨Z,z⟩;replace Z:Q8 t b8 [.slice none 0 0,I 0] 268:=Z;refine Qe O<|Qy func164 (.cell Xz O S4 O (Q8.cells (n:=2) Z (news:=[_,_]) O) O (.tmp O .nil)) ?_;rw[if_neg ω];exact⟨_,O,O,(K.trans q).An z (λi e=>ω)⟩
 ·have P:=L o;rw[if_pos o];refine Sq (λw'=>Ext w2 w') O<|Ql 0 O O q<|PV 1 O (ylt O O) q<|Vm<|Ql 2 O O q<|Ql 3 O O q<|Ql 4 O O q<|PV 5 O (Rs O) q<|PV 6 O (QE Wl O) q<|PV 8 O (QE z38 O) q<|qT 9 O (λ_ h=>Q0 U3 O O (h.PO Q) O) q<|qT 7 O (λ_ h=>Q0 U3 O O (h.PO Y) (z7E S)) q<|PV 10 O (ymi O O) q<|PV 11 O (Zq O O) q ?_;refine Vm<|PV 12 O (VF O O) q<|qE<|Us O<|It ?_;have f:=q.trans (Ext.Qm w2.drew);have A:=Ext.Qm w2.drew;have s:=q.PO Y;refine Qp [13] (λw'=>Ext w2.drew w') y00 O (R1 0 O O A (R1 1 O O A (Qs 2 O (Rs O) A (Qs 3 O (QE Wl O) A (R1 5 O O A (Qs 8 O (Rs O) A (Qs 9 O (QE z9c O) A (qL 4 O (λ_ h=>Q0 U3 O O (h.PO s) (z7E S)) A (Qs 6 O (YS O O ω) A ?_)))))))));rw[show(n:Int)-(ref:Int)=((n-ref:Nat):Int) by omega];refine Qs 7 O (yre O O ω) A (Qs 10 O (yia zh6 S4 O O ω) A (qL 11 O (λ_ h=>QB (news:=[.slice a m cp,I (c:Int)]) Xz O S4 O (λj u E=>by rw[(h.PO s).cell];exact zdK S P j u E) O) A ?_));refine RM (i:=12) y00<|Rp (i:=12) O O O (SE (cs:=[_,_]) S4 O) ?_;rintro _ t⟨W,rfl,Cz,V,B⟩;refine⟨A.trans V,?_⟩;refine U0 [13] (qO 13 (QQ (i:=13) O O (QX (news:=[.slice a m cp,I (c:Int)]) S4 O O O O B ξ) ?_));rintro J⟨x,y⟩;refine⟨trivial,?_⟩;replace x:Q8 J W [.slice a m cp,I (c:Int)] 268:=x;have X:=f.size;have z3:=V.size;have H:Ext w2 J:=(f.trans V).An y (λi e=>ω);have z4:=H.size;have M:=H.PO N;have G:=H.PO Q;have d:=Ext.Qm J;refine qE<|QA.qb (e:=[(2,_),(7,_),(8,_),(9,_),(10,_)]) ?_;refine It ?_;rcases y0D m with c0|c0
  ·refine Sq (λw'=>Kp (λi=>i=b8) J w') O (qT 0 O (λ_ l=>(QB Xz O S4 O (Q8.cells (n:=2) (l.PO x ω) (news:=[_,_]) O) O)) d.kp (PV 1 O (QE TG O) d.kp (qT 2 O (λ_ l=>(Q0 QG O O (l.PO x ω) O)) d.kp (PV 3 O (TM QG O) d.kp (PV 4 O (Zq O O) d.kp (Vm (Ql 5 O O d.kp (qJ 6 O d.kp (qJ 7 O d.kp (qJ 8 O d.kp (qJ 9 O d.kp (qJ 10 O d.kp (qJ 11 O d.kp ?_)))))))))))));refine PV 12 O (VF O O) d.kp<|Ql 13 O O d.kp<|qJ 14 O d.kp<|qJ 15 O d.kp<|PV 16 O (VF O O) d.kp<|Ql 17 O O d.kp<|qJ 18 O d.kp<|qJ 19 O d.kp<|qJ 20 O d.kp<|qJ 21 O d.kp<|PV 22 O (VF O O) d.kp<|Ql 23 O O d.kp<|qJ 24 O d.kp<|qJ 25 O d.kp ?_;refine qJ 26 O d.kp (qJ 27 O d.kp (qJ 28 O d.kp (PV 29 O (VF O O) d.kp (qO 30 (QQ (i:=30) O O (QX (news:=[.slice a m cp,I (c:Int)]) S4 O O O O (d.PO M) ξ) ?_)))));rintro D⟨v,r⟩;refine⟨d.kp.trans r,?_⟩;replace v:Q8 D b8 [.slice a m cp,I (c:Int)] 268:=v;refine PV 31 O (SG O) (d.kp.trans r)<|qE<|QA.qb (e:=[(8,_),(9,_)]) ?_;refine Qy func164 (.cell Xz O S4 O (Q8.cells (n:=2) v (news:=[_,_]) O) O (.tmp O .nil)) ?_;have C:Vp p m size c=false:=decide_eq_false (λh=>ω);rw[C];exact⟨_,O,O,((K.trans H).trans d).An r (λi e=>ω)⟩
  ·rcases y0a p.most m with c1|c1
   ·refine Sq (λw'=>Kp (λi=>i=b8) J w') O (qT 0 O (λ_ l=>(QB Xz O S4 O (Q8.cells (n:=2) (l.PO x ω) (news:=[_,_]) O) O)) d.kp (PV 1 O (QE TG O) d.kp (qT 2 O (λ_ l=>(Q0 QG O O (l.PO x ω) O)) d.kp (PV 3 O (TM QG O) d.kp (PV 4 O (Zq O O) d.kp (Vn (Ql 5 O O d.kp (PV 6 O (QE TG O) d.kp (qT 7 O (λ_ l=>(Q0 QG O O (l.PO x ω) O)) d.kp (PV 8 O (TM QG O) d.kp (PV 9 O (QE UX O) d.kp (qT 10 O (λ_ l=>(Q0 U3 O O (l.PO G ω) O)) d.kp (PV 11 O (yle O O) d.kp ?_)))))))))))));refine Vm<|PV 12 O (WA O O) d.kp<|Ql 13 O O d.kp<|qJ 14 O d.kp<|qJ 15 O d.kp<|PV 16 O (VF O O) d.kp<|Ql 17 O O d.kp<|qJ 18 O d.kp<|qJ 19 O d.kp<|qJ 20 O d.kp<|qJ 21 O d.kp<|PV 22 O (VF O O) d.kp<|Ql 23 O O d.kp<|qJ 24 O d.kp ?_;refine qJ 25 O d.kp (qJ 26 O d.kp (qJ 27 O d.kp (qJ 28 O d.kp (PV 29 O (VF O O) d.kp (qO 30 (QQ (i:=30) O O (QX (news:=[.slice a m cp,I (c:Int)]) S4 O O O O (d.PO M) ξ) ?_))))));rintro D⟨v,r⟩;refine⟨d.kp.trans r,?_⟩;replace v:Q8 D b8 [.slice a m cp,I (c:Int)] 268:=v;refine PV 31 O (SG O) (d.kp.trans r)<|qE<|QA.qb (e:=[(8,_),(9,_)]) ?_;refine Qy func164 (.cell Xz O S4 O (Q8.cells (n:=2) v (news:=[_,_]) O) O (.tmp O .nil)) ?_;have C:Vp p m size c=false:=decide_eq_false (λh=>ω);rw[C];exact⟨_,O,O,((K.trans H).trans d).An r (λi e=>ω)⟩
   ·rcases y0D size with c2|c2
    ·refine Sq (λw'=>Kp (λi=>i=b8) J w') O (qT 0 O (λ_ l=>(QB Xz O S4 O (Q8.cells (n:=2) (l.PO x ω) (news:=[_,_]) O) O)) d.kp (PV 1 O (QE TG O) d.kp (qT 2 O (λ_ l=>(Q0 QG O O (l.PO x ω) O)) d.kp (PV 3 O (TM QG O) d.kp (PV 4 O (Zq O O) d.kp (Vn (Ql 5 O O d.kp (PV 6 O (QE TG O) d.kp (qT 7 O (λ_ l=>(Q0 QG O O (l.PO x ω) O)) d.kp (PV 8 O (TM QG O) d.kp (PV 9 O (QE UX O) d.kp (qT 10 O (λ_ l=>(Q0 U3 O O (l.PO G ω) O)) d.kp (PV 11 O (yle O O) d.kp ?_)))))))))))));refine Vn<|PV 12 O (WA O O) d.kp<|Ql 13 O O d.kp<|Ql 14 O O d.kp<|PV 15 O (Zq O O) d.kp<|Vm<|PV 16 O (WA O O) d.kp<|Ql 17 O O d.kp<|qJ 18 O d.kp<|qJ 19 O d.kp<|qJ 20 O d.kp<|qJ 21 O d.kp<|PV 22 O (VF O O) d.kp<|Ql 23 O O d.kp ?_;refine qJ 24 O d.kp (qJ 25 O d.kp (qJ 26 O d.kp (qJ 27 O d.kp (qJ 28 O d.kp (PV 29 O (VF O O) d.kp (qO 30 (QQ (i:=30) O O (QX (news:=[.slice a m cp,I (c:Int)]) S4 O O O O (d.PO M) ξ) ?_)))))));rintro D⟨v,r⟩;refine⟨d.kp.trans r,?_⟩;replace v:Q8 D b8 [.slice a m cp,I (c:Int)] 268:=v;refine PV 31 O (SG O) (d.kp.trans r)<|qE<|QA.qb (e:=[(8,_),(9,_)]) ?_;refine Qy func164 (.cell Xz O S4 O (Q8.cells (n:=2) v (news:=[_,_]) O) O (.tmp O .nil)) ?_;have C:Vp p m size c=false:=decide_eq_false (λh=>ω);rw[C];exact⟨_,O,O,((K.trans H).trans d).An r (λi e=>ω)⟩
    ·rcases y0a p.most size with c3|c3
     ·refine Sq (λw'=>Kp (λi=>i=b8) J w') O (qT 0 O (λ_ l=>(QB Xz O S4 O (Q8.cells (n:=2) (l.PO x ω) (news:=[_,_]) O) O)) d.kp (PV 1 O (QE TG O) d.kp (qT 2 O (λ_ l=>(Q0 QG O O (l.PO x ω) O)) d.kp (PV 3 O (TM QG O) d.kp (PV 4 O (Zq O O) d.kp (Vn (Ql 5 O O d.kp (PV 6 O (QE TG O) d.kp (qT 7 O (λ_ l=>(Q0 QG O O (l.PO x ω) O)) d.kp (PV 8 O (TM QG O) d.kp (PV 9 O (QE UX O) d.kp (qT 10 O (λ_ l=>(Q0 U3 O O (l.PO G ω) O)) d.kp (PV 11 O (yle O O) d.kp ?_)))))))))))));refine Vn (PV 12 O (WA O O) d.kp (Ql 13 O O d.kp (Ql 14 O O d.kp (PV 15 O (Zq O O) d.kp (Vn (PV 16 O (WA O O) d.kp (Ql 17 O O d.kp (Ql 18 O O d.kp (PV 19 O (QE UX O) d.kp (qT 20 O (λ_ l=>(Q0 U3 O O (l.PO G ω) O)) d.kp (PV 21 O (yle O O) d.kp (Vm (PV 22 O (WA O O) d.kp ?_)))))))))))));refine Ql 23 O O d.kp (qJ 24 O d.kp (qJ 25 O d.kp (qJ 26 O d.kp (qJ 27 O d.kp (qJ 28 O d.kp (PV 29 O (VF O O) d.kp (qO 30 (QQ (i:=30) O O (QX (news:=[.slice a m cp,I (c:Int)]) S4 O O O O (d.PO M) ξ) ?_))))))));rintro D⟨v,r⟩;refine⟨d.kp.trans r,?_⟩;replace v:Q8 D b8 [.slice a m cp,I (c:Int)] 268:=v;refine PV 31 O (SG O) (d.kp.trans r)<|qE<|QA.qb (e:=[(8,_),(9,_)]) ?_;refine Qy func164 (.cell Xz O S4 O (Q8.cells (n:=2) v (news:=[_,_]) O) O (.tmp O .nil)) ?_;have C:Vp p m size c=false:=decide_eq_false (λh=>ω);rw[C];exact⟨_,O,O,((K.trans H).trans d).An r (λi e=>ω)⟩
     ·rcases y0a c p.chain with c4|c4
      ·refine Sq (λw'=>Kp (λi=>i=b8) J w') O (qT 0 O (λ_ l=>(QB Xz O S4 O (Q8.cells (n:=2) (l.PO x ω) (news:=[_,_]) O) O)) d.kp (PV 1 O (QE TG O) d.kp (qT 2 O (λ_ l=>(Q0 QG O O (l.PO x ω) O)) d.kp (PV 3 O (TM QG O) d.kp (PV 4 O (Zq O O) d.kp (Vn (Ql 5 O O d.kp (PV 6 O (QE TG O) d.kp (qT 7 O (λ_ l=>(Q0 QG O O (l.PO x ω) O)) d.kp (PV 8 O (TM QG O) d.kp (PV 9 O (QE UX O) d.kp (qT 10 O (λ_ l=>(Q0 U3 O O (l.PO G ω) O)) d.kp (PV 11 O (yle O O) d.kp ?_)))))))))))));refine Vn (PV 12 O (WA O O) d.kp (Ql 13 O O d.kp (Ql 14 O O d.kp (PV 15 O (Zq O O) d.kp (Vn (PV 16 O (WA O O) d.kp (Ql 17 O O d.kp (Ql 18 O O d.kp (PV 19 O (QE UX O) d.kp (qT 20 O (λ_ l=>(Q0 U3 O O (l.PO G ω) O)) d.kp (PV 21 O (yle O O) d.kp (Vn (PV 22 O (WA O O) d.kp ?_)))))))))))));refine Ql 23 O O d.kp (PV 24 O (QE z4N O) d.kp (qT 25 O (λ_ l=>(Q0 U3 O O (l.PO x ω) O)) d.kp (PV 26 O (QE z0h O) d.kp (qT 27 O (λ_ l=>(Q0 U3 O O (l.PO G ω) O)) d.kp (PV 28 O (ylt O O) d.kp (Vn (PV 29 O (WA O O) d.kp (qO 30 (QQ (i:=30) O O (QX (news:=[.slice a m cp,I (c:Int)]) S4 O O O O (d.PO M) ξ) ?_)))))))));rintro D⟨v,r⟩;refine⟨d.kp.trans r,?_⟩;replace v:Q8 D b8 [.slice a m cp,I (c:Int)] 268:=v;refine PV 31 O (SG O) (d.kp.trans r)<|qE<|QA.qb (e:=[(8,_),(9,_)]) ?_;refine Qy func164 (.cell Xz O S4 O (Q8.cells (n:=2) v (news:=[_,_]) O) O (.tmp O .nil)) ?_;have C:Vp p m size c=true:=decide_eq_true ⟨ω,ω,ω,ω,ω⟩;rw[C];exact⟨_,O,O,((K.trans H).trans d).An r (λi e=>ω)⟩
      ·refine Sq (λw'=>Kp (λi=>i=b8) J w') O (qT 0 O (λ_ l=>(QB Xz O S4 O (Q8.cells (n:=2) (l.PO x ω) (news:=[_,_]) O) O)) d.kp (PV 1 O (QE TG O) d.kp (qT 2 O (λ_ l=>(Q0 QG O O (l.PO x ω) O)) d.kp (PV 3 O (TM QG O) d.kp (PV 4 O (Zq O O) d.kp (Vn (Ql 5 O O d.kp (PV 6 O (QE TG O) d.kp (qT 7 O (λ_ l=>(Q0 QG O O (l.PO x ω) O)) d.kp (PV 8 O (TM QG O) d.kp (PV 9 O (QE UX O) d.kp (qT 10 O (λ_ l=>(Q0 U3 O O (l.PO G ω) O)) d.kp (PV 11 O (yle O O) d.kp ?_)))))))))))));refine Vn (PV 12 O (WA O O) d.kp (Ql 13 O O d.kp (Ql 14 O O d.kp (PV 15 O (Zq O O) d.kp (Vn (PV 16 O (WA O O) d.kp (Ql 17 O O d.kp (Ql 18 O O d.kp (PV 19 O (QE UX O) d.kp (qT 20 O (λ_ l=>(Q0 U3 O O (l.PO G ω) O)) d.kp (PV 21 O (yle O O) d.kp (Vn (PV 22 O (WA O O) d.kp ?_)))))))))))));refine Ql 23 O O d.kp (PV 24 O (QE z4N O) d.kp (qT 25 O (λ_ l=>(Q0 U3 O O (l.PO x ω) O)) d.kp (PV 26 O (QE z0h O) d.kp (qT 27 O (λ_ l=>(Q0 U3 O O (l.PO G ω) O)) d.kp (PV 28 O (ylt O O) d.kp (Vm (PV 29 O (WA O O) d.kp (qO 30 (QQ (i:=30) O O (QX (news:=[.slice a m cp,I (c:Int)]) S4 O O O O (d.PO M) ξ) ?_)))))))));rintro D⟨v,r⟩;refine⟨d.kp.trans r,?_⟩;replace v:Q8 D b8 [.slice a m cp,I (c:Int)] 268:=v;refine PV 31 O (SG O) (d.kp.trans r)<|qE<|QA.qb (e:=[(8,_),(9,_)]) ?_;refine Qy func164 (.cell Xz O S4 O (Q8.cells (n:=2) v (news:=[_,_]) O) O (.tmp O .nil)) ?_;have C:Vp p m size c=false:=decide_eq_false (λh=>ω);rw[C];exact⟨_,O,O,((K.trans H).trans d).An r (λi e=>ω)⟩
abbrev z9J:List (Value×Nat):=List.replicate 17 (.slice none 0 0,0)
theorem zaR (p:RE)(D:p.RN)(w:World):Qx prog 124 [bpV p] w λu w'=>∃k wp F,u= .tuple #[ptr k 0,I 0]/\Q8 w' k (Zh p z9J 0 wp 0) 273/\ZT w' wp [] F/\¬F k/\Ext w w'/\w.heap.size<=k/\∀i,F i->w.heap.size<=i:=by
 refine py (e:=[(0,_)]) func124 O ntmps124 O O<|qN O<|PX O O (Sy O (cs:=WC p) O) ?_
 rintro _ w1⟨b1,rfl,H,r,v⟩
 have N:=r.size
 refine Rw O<|It<|qN O<|qV (QB (news:=WC p) Z4 O SV O (v.cells (n:=5) O) O)<|Qj zfl O (z0U p D w1) ?_
 rintro _ w2⟨rfl,l⟩
 have Q:=l.size
 have hg:=Ext.Qm w2
 refine RZ O<|RI O<|Ri O<|It<|Sq (λw'=>Ext w2 w') O<|qT 0 O (λ_ C=>QB (news:=WC p) Z4 O SV O ((C.PO (l.PO v)).cells (n:=5) O) O) hg<|TQ 1 O z2B O (W2 _) ?_
 rintro _ K⟨wp,F,rfl,x,q,G⟩
 refine⟨hg.trans q,?_⟩
 have h:=hg.trans q
 have S:=h.size
 refine PV 2 O (To zic O zjX O O) (hg.trans q)<|qO 3<|ZS (i:=3) O O O (Sy O (cs:=Zh p z9J 0 wp 0) O) ?_
 rintro _ M⟨k,rfl,J,d,A⟩
 refine⟨h.trans d,?_⟩
 refine PV 4 O (SG O) (h.trans d)<|PV 5 O (SG O) (h.trans d)<|qE<|PQ func124 O ?_
 exact⟨_,O,k,wp,F,O,A,x.ext d,λe=>by have:=x.lt e;omega,((r.trans l).trans h).trans d,ω,λi hi=>by have:=G i hi;have:=hg.size;omega⟩
structure PkM (w:World)(k:Nat)(p:RE)(L:List (List Nat))(E:List (Nat×Nat))(bs:List Bool)(F:Nat->Prop)(R:List (Value×Nat))(wp ed:Nat):Prop where
 PO:Q8 w k (Zh p R L.length wp ed) 273
 len:R.length=17
 wr:ZT w wp bs F
 nk:¬F k
 el:E.length=L.length
 ok:∀l∈L,QR l
 ring:∀j l e,L[j]? =some l->E[j]? =some e->L.length<=j+17->∃a cp,R[j%17]? =some (.slice a l.length cp,e.2)/\l.length<=cp/\Sl w (.slice a l.length cp) 42 1 l.length (l.map QL)/\(∀g,(Value.slice a l.length cp).ownBlock=some g->¬F g/\g≠k)
theorem PkM.ext (h:PkM w k p L E bs F R wp ed)(d:Ext w w'):PkM w' k p L E bs F R wp ed:=
 ⟨d.PO h.PO,h.len,h.wr.ext d,h.nk,h.el,h.ok,λj l e u v x=>by
  obtain⟨a,cp,n,q,r,g4⟩:=h.ring j l e u v x
  exact⟨a,cp,n,q,r.ext d,g4⟩⟩
def Found (p:RE)(L:List (List Nat))(E:List (Nat×Nat))(R:List (Value×Nat))(size ref:Nat)(v:Value)(c:Nat):Prop:=
 (ref=0/\v= .slice none 0 0/\c=0)\/(1<=ref/\ref<=p.Qt/\ref<=L.length/\R[(L.length-ref)%17]? =some (v,c)/\∃l e,L[L.length-ref]? =some l/\E[L.length-ref]? =some e/\c=e.2/\Vp p l.length size e.2=true)
structure AdM (w:World)(k b2 b3 b7 b8 b4 b9:Nat)(a:Option Addr)(m cp n least ref:Nat)(v:Value)(c:Nat):Prop where
 c2:Q8 w b2 [ptr k 0] 223
 c3:Q8 w b3 [.slice a m cp] 40
 c7:Q8 w b7 [I (n:Int)] 3
 c8:Q8 w b8 [I (least:Int)] 3
 c4:Q8 w b4 [I (ref:Int)] 3
 c9:Q8 w b9 [v,I (c:Int)] 268
def AdM.kp {S:Nat->Prop}{a:Option Addr}{cp n ref:Nat}{v:Value}(h:AdM w k b2 b3 b7 b8 b4 b9 a m cp n least ref v c)(d:Kp S w w')(l:∀i,S i->i≠b2/\i≠b3/\i≠b7/\i≠b8/\i≠b4/\i≠b9):AdM w' k b2 b3 b7 b8 b4 b9 a m cp n least ref v c:=
 ⟨d.PO h.c2 (λe=>(l _ e).1 O),d.PO h.c3 (λe=>(l _ e).2.1 O),d.PO h.c7 (λe=>(l _ e).2.2.1 O),d.PO h.c8 (λe=>(l _ e).2.2.2.1 O),d.PO h.c4 (λe=>(l _ e).2.2.2.2.1 O),d.PO h.c9 (λe=>(l _ e).2.2.2.2.2 O)⟩
def AdM.ext {a:Option Addr}{cp n ref:Nat}{v:Value}(h:AdM w k b2 b3 b7 b8 b4 b9 a m cp n least ref v c)(d:Ext w w'):AdM w' k b2 b3 b7 b8 b4 b9 a m cp n least ref v c:=h.kp (S:=λ_=>False) d.kp (λi e=>e.elim)
theorem zel (y:p.RN)(h:PkM w k p L E bs F R wp ed)(hG:Q8 w 1 (Tu .gamma) 314)(hU:Q8 w 2 (Tu .unary) 314)(hL:L.length<65536)
  {b2 b3 b7 b8 b4 b9:Nat} {a:Option Addr} {cp least ref:Nat} {v:Value} {c:Nat} {succ:List Nat} (hs:QR succ) (lL:succ.length<=cp) (eM:Rd w (.slice a succ.length cp) 1 succ.length (succ.map QL)) (t:AdM w k b2 b3 b7 b8 b4 b9 a succ.length cp L.length least ref v c) (hF:Found p L E R succ.length ref v c)
  (hd:b8≠b2/\b8≠b3/\b8≠b7/\b4≠b2/\b4≠b3/\b4≠b7/\b9≠b2/\b9≠b3/\b9≠b7/\b8≠b4/\b8≠b9/\b4≠b9) (r:Nat) (X:1<=r) (s:r<=p.Qt):
  Qx prog 163 [I (r:Int),ptr b2 0,ptr b3 0,ptr b7 0,ptr b8 0,ptr b4 0,ptr b9 0] w λu w'=>u= .tuple #[]/\Kp (λi=>i=b8\/i=b4\/i=b9) w w'/\∃N S v' c',AdM w' k b2 b3 b7 b8 b4 b9 a succ.length cp L.length N S v' c'/\Found p L E R succ.length S v' c':=by
 have yj:p.Qt<=16:=y.1.1
 obtain⟨D,c1,K,J,u7,Lv⟩:∃D c1 K J,(r<=L.length->R[(L.length-r)%17]? =some (.slice D K c1,J))/\(r<=L.length->∃l e,L[L.length-r]? =some l/\E[L.length-r]? =some e/\K=l.length/\J=e.2/\l.length<=c1/\Sl w (.slice D l.length c1) 42 1 l.length (l.map QL)):=by
  by_cases hr:r<=L.length
  ·obtain⟨l,hl⟩:∃l,L[L.length-r]? =some l:=⟨_,y07 ω⟩;obtain⟨e,he⟩:∃e,E[L.length-r]? =some e:=⟨_,y07 (by have:=h.el;omega)⟩;obtain⟨D,c1,g1,g2,g3,g4⟩:=h.ring _ l e hl he ω;exact⟨D,c1,l.length,e.2,λ_=>g1,λ_=>⟨l,e,hl,he,O,O,g2,g3⟩⟩
  ·exact⟨none,0,0,0,λe=>absurd e hr,λe=>absurd e hr⟩
 have fT:=t.c2
 have qo:=t.c3
 have hg:=Ext.Qm w
 have mw:∀{w2:World},Q8 w2 k (Zh p R L.length wp ed) 273->∀j u,(WC p)[j]? =some u->w2.cell? ⟨k,0+j,none⟩=some u:=λhB j u hj=>hB.cells (i:=0) (n:=5) (news:=WC p) O j u hj
 refine py (e:=[(0,_),(1,_),(2,_),(3,_),(4,_),(5,_),(6,_)]) func163 O ntmps163 O O<|It<|QT (λe' w'=>∃x v1 d1 ok,e'=[(0,I (r:Int)),(1,ptr b2 0),(2,ptr b3 0),(3,ptr b7 0),(4,ptr b8 0),(5,ptr b4 0),(6,ptr b9 0),(8,ptr x 0),(9,.bool ok)]/\Ext w w'/\w.heap.size<=x/\Q8 w' x [v1,I ((d1:Nat):Int)] 268/\(ok=true->r<=L.length/\v1= .slice D K c1/\d1=J/\Vp p K succ.length J=true)) ?bF<|λbF=>?du
 case bF=>
  rintro e' w1⟨x,v1,d1,ok,rfl,g,Lp,ub,ax⟩;have B:=t.ext g;have qp:=B.c2;have m8:=B.c3;have Lw:=B.c7;have IF:=B.c8;refine QV O<|qV (Tf O)<|PR<|Ru O (λh3=>?_)<|λh3=>?_
  ·refine PQ func163 O ?_;exact⟨_,O,O,g.kp,_,_,_,_,B,hF⟩
  ·have DK:ok=true:=by cases ok<;>simp_all
   obtain⟨DL,rfl,rfl,fU⟩:=ax DK;obtain⟨l,e,hl,he,rfl,rfl,pi,Lx⟩:=Lv DL;have DM:=u7 DL;have DN:QR l:=h.ok l (y0i hl);have G:=Ext.Qm w1;refine PS<|It<|Sq (λw'=>Ext w1 w') O<|qT 0 O (λ_ h=>(Q0 U3 O O (h.PO Lw) O)) G<|qT 1 O (λ_ h=>(Q0 QG O O (h.PO m8) O)) G<|PV 2 O (QE TG O) G<|qT 3 O (λ_ h=>(Q0 QG O O (h.PO ub) O)) G<|Ql 4 O O (G)<|qT 5 O (λ_ h=>(Q0 Xv O O (h.PO qp) O)) G<|PV 6 O (Rs O) G<|PV 7 O (QE Y5 O) G<|qT 8 O (λ_ hS=>QB (news:=WC p) Z4 O SV O (mw (hS.PO (g.PO h.PO))) O) G<|TQ 9 O z2t O (Ub p _) ?_;rintro _ w9⟨rfl,fJ⟩;refine⟨G.trans fJ,?_⟩;have Q:=G.trans fJ;have gH:=g.trans Q;refine TQ 10 O z57 O (WI p.list y.1 L.length hL succ l hs DN r s (λe=>ω) (gH.PO hG) (gH.PO hU) (eM.ext gH) (Lx.rd.ext gH) lL pi) ?_;rintro _ A⟨rfl,q⟩;refine⟨Q.trans q,?_⟩;have gI:=Q.trans q;have me:=B.ext gI;have DO:=me.c8;have DP:=gI.PO ub
   generalize (Qr (SM p.list L.length succ l r)).length=nb
   refine Ql 11 O O (Q.trans q)<|PV 12 O (SH O O) (Q.trans q)<|PV 13 O (SH O O) (Q.trans q)<|PV 14 O (SG O) (Q.trans q)<|PV 15 O (SG O) (Q.trans q)<|qE<|QA.qb (e:=[(0,_),(4,_),(5,_),(6,_),(8,_),(10,_)]) ?_;refine Qz O<|qV (Q0 U3 O O DO O)<|RT O<|PR<|Qa O (λh4=>?_)<|λh4=>?_
   ·have W:=Ext.Qm A;have z:=me.ext W;have a5:=t.c8.lt;have a4:=t.c4.lt;have a6:=t.c9.lt;have Ly:¬(x=b8\/x=b4\/x=b9):=ω
    refine Sq (λw'=>Kp (λi=>i=b8\/i=b4\/i=b9) A w') O (Ql 0 O O W.kp (Ql 1 O O W.kp (qT 2 O (λ_ h=>QB Xz O S4 O (Q8.cells (n:=2) (h.PO DP Ly) (news:=[_,_]) O) O) W.kp (qO 3 (QQ (i:=3) O O (S0 R8 O O O z.c8 ξ) ?_)))));rintro a0⟨aZ,m⟩;refine⟨W.kp.trans (m.PZ λi e=> .inl e),?_⟩;have sd:Kp (λi=>i=b8\/i=b4\/i=b9) A a0:=W.kp.trans (m.PZ λi e=> .inl e);have Lz:=m.PO z.c4 (λe=>hd.2.2.2.2.2.2.2.2.2.1 e.symm);refine qO 4 (QQ (i:=4) O O (S0 R8 O O O Lz ξ) ?_);rintro a2⟨bq,o⟩;refine⟨sd.trans (o.PZ λi e=> .inr (.inl e)),?_⟩;have yk:Kp (λi=>i=b8\/i=b4\/i=b9) A a2:=sd.trans (o.PZ λi e=> .inr (.inl e));have LA:=o.PO (m.PO z.c9 (λe=>hd.2.2.2.2.2.2.2.2.2.2.1 e.symm)) (λe=>hd.2.2.2.2.2.2.2.2.2.2.2 e.symm);refine qO 5 (QQ (i:=5) O O (QX (news:=[.slice D l.length c1,I (e.2:Int)]) S4 O O O O LA ξ) ?_);rintro a3⟨df,P⟩;refine⟨yk.trans (P.PZ λi e=> .inr (.inr e)),?_⟩;replace df:Q8 a3 b9 [.slice D l.length c1,I (e.2:Int)] 268:=df;replace bq:Q8 a2 b4 [I (r:Int)] 3:=bq;replace aZ:Q8 a0 b8 [I (nb:Int)] 3:=aZ;refine qE<|Rj func163 O ?_;obtain⟨d1,d2,d3,d4,d5,d6,d7,d8,d9,d10,d11,d12⟩:=hd;have ew:∀{b:Nat} {cs:List Value} {T:TypeId},Q8 A.drew b cs T->b8≠b->b4≠b->b9≠b->Q8 a3 b cs T:=λhB n1 n2 n3=>P.PO (o.PO (m.PO hB (λe=>n1 e.symm)) (λe=>n2 e.symm)) (λe=>n3 e.symm);refine⟨_,O,O,?_,nb,r,.slice D l.length c1,e.2,⟨ew z.c2 d1 d4 d7,ew z.c3 d2 d5 d8,ew z.c7 d3 d6 d9,P.PO (o.PO aZ d10) d11,P.PO bq d12,df⟩,.inr ⟨X,s,DL,DM,l,e,hl,he,O,fU⟩⟩;exact((g.trans gI).trans W).kp.trans ((m.PZ λi e=> .inl e).trans ((o.PZ λi e=> .inr (.inl e)).trans (P.PZ λi e=> .inr (.inr e))))
   ·refine PS<|Rj func163 O ?_;exact⟨_,O,O,(g.trans gI).kp,_,_,_,_,me,hF⟩
 case du=>
  rcases y0a L.length r with aO|lX
  ·have d:=hg;refine Qp [15] (λw'=>Ext w w') y00 O<|qL 0 O (λ_ h=>(Q0 Xv O O (h.PO fT) O)) d<|Qs 1 O (Rs O) d<|Qs 2 O (QE z07 O) d<|R1 3 O O d<|qL 4 O (λ_ h=>(Q0 QG O O (h.PO qo) O)) d<|Qs 5 O (TM QG O) d<|qL 6 O (λ_ h=>(Q0 Xv O O (h.PO fT) O)) d<|Qs 7 O (Rs O) d<|Qs 8 O (QE Y5 O) d<|qL 9 O (λ_ hS=>QB (news:=WC p) Z4 O SV O (mw (hS.PO h.PO)) O) d<|Wp (i:=10) (j:=14) y00 ?_ ?_
   ·refine S2 (i:=10) O O O (yc z9I O) (Ys (d.PO h.PO) h.len ω y r succ.length X s u7) ?_;rintro _ A⟨M,q⟩;refine⟨d.trans q,?_⟩;rw[if_neg ω] at M;subst M
    try have C:=q.PO C
    have d:=d.trans q;refine R1 11 O O d (Qs 12 O (SH O O) d (Rr (i:=13) O y00 O O (λ_=>SH O O) d (RM (i:=14) y00 (Rp (i:=14) O O O (SE (cs:=[_,_]) S4 O) ?_))));rintro _ Z⟨x,rfl,nS,H,C⟩;refine⟨d.trans H,?_⟩;have Y:w.heap.size<=x:=by have:=d.size;omega
    have d:=d.trans H;refine U0 [15] (qO 15 (QQ (i:=15) O O (QX (news:=[.slice none 0 0,I ((0:Nat):Int)]) S4 O O O O C ξ) ?_));rintro f⟨U,V⟩;refine⟨trivial,?_⟩;refine PV 16 O (SG O) trivial<|qE ?_;exact(bF _ _ ⟨x,.slice none 0 0,0,false,O,d.An V (λi e=>ω),Y,U,λe=>by cases e⟩).qb
   ·refine Rp (i:=14) O O O (SE (cs:=[_,_]) S4 O) ?_;rintro _ Z⟨x,rfl,nS,H,C⟩;refine⟨d.trans H,?_⟩;have Y:w.heap.size<=x:=by have:=d.size;omega
    have d:=d.trans H;refine RM (i:=10) y00 (S2 (i:=10) O O O (yc z9I O) (Ys (d.PO h.PO) h.len ω y r succ.length X s u7) ?_);rintro _ A⟨M,q⟩;refine⟨d.trans q,?_⟩;rw[if_neg ω] at M;subst M
    try have C:=q.PO C
    have d:=d.trans q;refine R1 11 O O d (Qs 12 O (SH O O) d (Rr (i:=13) O y00 O O (λ_=>SH O O) d (U0 [15] (qO 15 (QQ (i:=15) O O (QX (news:=[.slice none 0 0,I ((0:Nat):Int)]) S4 O O O O C ξ) ?_)))));rintro f⟨U,V⟩;refine⟨trivial,?_⟩;refine PV 16 O (SG O) trivial<|qE ?_;exact(bF _ _ ⟨x,.slice none 0 0,0,false,O,d.An V (λi e=>ω),Y,U,λe=>by cases e⟩).qb
  ·have d:=hg;refine Qp [15] (λw'=>Ext w w') y00 O<|qL 0 O (λ_ h=>(Q0 Xv O O (h.PO fT) O)) d<|Qs 1 O (Rs O) d<|Qs 2 O (QE z07 O) d<|R1 3 O O d<|qL 4 O (λ_ h=>(Q0 QG O O (h.PO qo) O)) d<|Qs 5 O (TM QG O) d<|qL 6 O (λ_ h=>(Q0 Xv O O (h.PO fT) O)) d<|Qs 7 O (Rs O) d<|Qs 8 O (QE Y5 O) d<|qL 9 O (λ_ hS=>QB (news:=WC p) Z4 O SV O (mw (hS.PO h.PO)) O) d<|Wp (i:=10) (j:=14) y00 ?_ ?_
   ·refine S2 (i:=10) O O O (yc z9I O) (Ys (d.PO h.PO) h.len ω y r succ.length X s u7) ?_;rintro _ A⟨M,q⟩;refine⟨d.trans q,?_⟩;rw[if_pos lX] at M;subst M
    try have C:=q.PO C
    have d:=d.trans q;refine R1 11 O O d (Qs 12 O (SH O O) d (Rr (i:=13) O y00 O O (λ_=>SH O O) d (RM (i:=14) y00 (Rp (i:=14) O O O (SE (cs:=[_,_]) S4 O) ?_))));rintro _ Z⟨x,rfl,nS,H,C⟩;refine⟨d.trans H,?_⟩;have Y:w.heap.size<=x:=by have:=d.size;omega
    have d:=d.trans H;refine U0 [15] (qO 15 (QQ (i:=15) O O (QX (news:=[.slice D K c1,I ((J:Nat):Int)]) S4 O O O O C ξ) ?_));rintro f⟨U,V⟩;refine⟨trivial,?_⟩;refine PV 16 O (SG O) trivial<|qE ?_;exact(bF _ _ ⟨x,.slice D K c1,J,Vp p K succ.length J,O,d.An V (λi e=>ω),Y,U,λe=>⟨lX,O,O,e⟩⟩).qb
   ·refine Rp (i:=14) O O O (SE (cs:=[_,_]) S4 O) ?_;rintro _ Z⟨x,rfl,nS,H,C⟩;refine⟨d.trans H,?_⟩;have Y:w.heap.size<=x:=by have:=d.size;omega
    have d:=d.trans H;refine RM (i:=10) y00 (S2 (i:=10) O O O (yc z9I O) (Ys (d.PO h.PO) h.len ω y r succ.length X s u7) ?_);rintro _ A⟨M,q⟩;refine⟨d.trans q,?_⟩;rw[if_pos lX] at M;subst M
    try have C:=q.PO C
    have d:=d.trans q;refine R1 11 O O d (Qs 12 O (SH O O) d (Rr (i:=13) O y00 O O (λ_=>SH O O) d (U0 [15] (qO 15 (QQ (i:=15) O O (QX (news:=[.slice D K c1,I ((J:Nat):Int)]) S4 O O O O C ξ) ?_)))));rintro f⟨U,V⟩;refine⟨trivial,?_⟩;refine PV 16 O (SG O) trivial<|qE ?_;exact(bF _ _ ⟨x,.slice D K c1,J,Vp p K succ.length J,O,d.An V (λi e=>ω),Y,U,λe=>⟨lX,O,O,e⟩⟩).qb
def RV (L:List (List Nat))(n r:Nat):List Nat:=if r=0 then [] else(L[n-r]?).getD []
def z0Y (p:RE)(L:List (List Nat))(E:List (Nat×Nat))(n size:Nat)(e:Nat×Nat):Prop:=
 e=(0,0)\/(1<=e.1/\e.1<=p.Qt/\e.1<=n/\∃l d,L[n-e.1]? =some l/\E[n-e.1]? =some d/\e.2=d.2+1/\Vp p l.length size d.2=true)
theorem zhw {n:Nat}(d:j<n)(e:n+1<=j+17):j%17≠n%17:=ω
theorem PkM.add {S H b o s I:World}{A:List Bool}{u:Nat->Prop}(h:PkM w k p L E bs F R wp ed)(Y:Ext w S)(W:Kp F S H)(c:ZT H wp A u)(O:∀i,u i->F i\/S.heap.size<=i)
  {x:Option Addr} {d V r:Nat} {succ:List Nat} (hs:QR succ) (U:Ext H b) (wP:Sl b (.slice x succ.length d) 42 1 succ.length (succ.map QL)) (ud:succ.length<=d) (C:∀g,(Value.slice x succ.length d).ownBlock=some g->H.heap.size<=g)
  (J:Kp (λi=>i=k) b o) (N:Kp (λi=>i=k) o s) (Q:Kp (λi=>i=b4) s I) (fD:w.heap.size<=b4) (LB:b4<S.heap.size) (t:Q8 I k (Zh p (R.set (L.length%17) (.slice x succ.length d,V)) (L.length+1) wp (ed+succ.length)) 273):
  PkM I k p (L++[succ]) (E++[(r,V)]) A u (R.set (L.length%17) (.slice x succ.length d,V)) wp (ed+succ.length)/\Kp (λi=>F i\/i=k) w I/\∀i,u i->F i\/w.heap.size<=i:=by
 have lk:=h.PO.lt
 have zA:=Y.size
 have zB:=W.size
 have kd:∀i,F i->i<w.heap.size:=λi hi=>h.wr.lt hi
 have nW:∀i,u i->i<H.heap.size:=λi hi=>c.lt hi
 have Z:¬u k:=λe=>by rcases O k e with e|e;exact h.nk e;omega
 have y:¬u b4:=λe=>by rcases O b4 e with e|e;(have:=kd _ e;omega);omega
 have z:∀{v:Value} {n:Nat} {cs:List Value},Sl w v 42 1 n cs->(∀g,v.ownBlock=some g->¬F g/\g≠k)->Sl I v 42 1 n cs:=λm hg=>
  ((((((m.ext Y).kp W (λg e=>(hg g e).1)).ext U).kp J (λg e=>(hg g e).2)).kp N (λg e=>(hg g e).2)).kp Q (λg e q=>by have:=m.lt e;omega))
 have P:=((wP.kp J (λg e q=>by have:=C g e;omega)).kp N (λg e q=>by have:=C g e;omega)).kp Q (λg e q=>by have:=C g e;omega)
 refine⟨⟨by rw[y01,y1u];exact t,by rw[y0A];exact h.len,(((c.ext U).kp J (λi hi e=>Z (e▸hi))).kp N (λi hi e=>Z (e▸hi))).kp Q (λi hi e=>y (e▸hi)),Z,by rw[y01,y01,h.el];rfl,λl G=>?_,λj l e D K h3=>?_⟩,?_,λi hi=>?_⟩
 ·rcases y0x.1 G with G|G
  ·exact h.ok l G
  ·rw[y0F.1 G];exact hs
 ·rw[y01,y1u] at h3;rcases y0a j L.length with M|M
  ·rw[y0K M] at D;rw[y0K (by rw[h.el];exact M)] at K;obtain⟨a,cp,X,g2,f,g4⟩:=h.ring j l e D K ω;refine⟨a,cp,?_,g2,z f g4,λg hg=>⟨λq=>?_,(g4 g hg).2⟩⟩
   ·rw[y0W (λq=>zhw M ω q.symm)];exact X
   ·rcases O g q with q|q
    ·exact(g4 g hg).1 q
    ·have:=f.lt hg;omega
  ·have B:=(y0l.1 D).1;rw[y01,y1u] at B;have T:j=L.length:=ω
   subst T;rw[y0X (y04 _),y1w,y1v] at D;rw[y0X (by rw[h.el];exact y04 _),h.el,y1w,y1v] at K;cases D;cases K;refine⟨x,d,y1d (by rw[h.len];exact y0Y _ ψ),ud,P,λg hg=>⟨λq=>?_,λq=>?_⟩⟩
   ·have:=C g hg;have:=nW g q;omega
   ·have:=C g hg;omega
 ·exact((((Y.kp.trans (W.PZ λi e=> .inl e)).trans U.kp).trans (J.PZ λi e=> .inr e)).trans (N.PZ λi e=> .inr e)).An Q (λi e=> .inl ω)
 ·rcases O i hi with e| e
  ·exact .inl e
  ·exact .inr ω
theorem zax (m:p.RN)(h:PkM w k p L E bs F R wp ed)(hG:Q8 w 1 (Tu .gamma) 314)(hU:Q8 w 2 (Tu .unary) 314)(hL:L.length<65536)
  {a:Option Addr} {cp:Nat} {succ:List Nat} (P:QR succ) (lL:succ.length<=cp) (t:Rd w (.slice a succ.length cp) 1 succ.length (succ.map QL)) (BK:ed+succ.length<=1048576) (LD:∀g,0<succ.length->(Value.slice a succ.length cp).ownBlock=some g->¬F g/\g≠k)
  (nX:∀r,r<=p.Qt->bs.length+(Qr (SM p.list L.length succ (RV L L.length r) r)).length<=134217728):
  Qx prog 126 [ptr k 0,.slice a succ.length cp] w λu w'=>∃(r least f:Nat)(F':Nat->Prop) (R':List (Value×Nat)),u= .tuple #[I (r:Int),I (least:Int),I 0]/\z0Y p L E L.length succ.length (r,f)/\
   PkM w' k p (L++[succ]) (E++[(r,f)]) (bs++Qr (SM p.list L.length succ (RV L L.length r) r)) F' R' wp (ed+succ.length)/\Kp (λi=>F i\/i=k) w w'/\∀i,F' i->F i\/w.heap.size<=i:=by
 have yj:p.Qt<=16:=m.1.1
 have lk:=h.PO.lt
 have mw:∀{w2:World},Q8 w2 k (Zh p R L.length wp ed) 273->∀j u,(WC p)[j]? =some u->w2.cell? ⟨k,0+j,none⟩=some u:=λhB j u hj=>hB.cells (i:=0) (n:=5) (news:=WC p) O j u hj
 refine py (e:=[(0,_),(1,_)]) func126 O ntmps126 O O<|qN O<|PX O O (Sy O (cs:=[ptr k 0]) O) ?_
 rintro _ w1⟨b2,rfl,bR,ad,ak⟩
 refine PX O O (Sy O (cs:=[.slice a succ.length cp]) O) ?_
 rintro _ w2⟨b3,rfl,ev,ae,au⟩
 refine PX O O (SE (cs:=[_]) R8 O) ?_
 rintro _ w3⟨b4,rfl,fD,aj,aJ⟩
 have z1:=ad.size
 have z2:=ae.size
 have z3:=aj.size
 have a4:=ak.lt
 have a5:=au.lt
 have a6:=aJ.lt
 have ci:=(ad.trans ae).trans aj
 have cQ:=aj.PO (ae.PO ak)
 have eR:=aj.PO au
 have nV:=ci.PO h.PO
 replace aJ:Q8 w3 b4 [I ((0:Nat):Int)] 3:=aJ
 refine Rw O<|RU<|qN O<|qV (Q0 Xv O O cQ O)<|qV (Rm Xv O O)<|Qe O<|PW O<|qN O<|qV (Q0 Xv O O cQ O)<|QC O<|Qf z07 O<|Qf Wl O<|qV (Q0 U3 O O nV (z7E h.len))<|UL O ?_
 refine QW<|Qe O<|Us O<|PN<|qN O<|qV (Q0 Xv O O cQ O)<|QC O<|Qf z07 O<|Qf Wl O<|qV (Q0 U3 O O nV (z7E h.len))<|PX O O (SE (cs:=[_]) R8 O) ?_
 rintro _ w4⟨b7,rfl,lu,aD,cd⟩
 have z4:=aD.size
 have a7:=cd.lt
 refine Qc O (S0 R8 O O O cd ξ) ?_
 rintro W⟨mu,ai⟩
 replace mu:Q8 W b7 [I (L.length:Int)] 3:=mu
 have bK:Ext w3 W:=aD.An ai (λi e=>ω)
 have D:=ci.trans bK
 have z5:=bK.size
 have aa:=ai.size
 have yl:=D.PO h.PO
 have dy:=bK.PO cQ
 have cB:=bK.PO eR
 have aK:=bK.PO aJ
 have dD:=Ext.Qm W
 refine PR<|It<|QT (λe' w'=>∃b8 least,e'=[(2,ptr b2 0),(3,ptr b3 0),(4,ptr b4 0),(7,ptr b7 0),(8,ptr b8 0),(6,I 0)]/\Ext W w'/\W.heap.size<=b8/\Q8 w' b8 [I ((least:Nat):Int)] 3) ?bF<|λbF=>?du
 case bF =>
  rintro e' w6⟨b8,S,rfl,A,gV,aW⟩;have z6:=A.size;have a8:=aW.lt;have iL:=D.trans A;have DV:=A.PO yl;have cG:=A.PO dy;have jh:=A.PO cB;have H:=Ext.Qm w6;refine RU (Qz O (RI O (Qe O (PW O (It (Sq (λw'=>Ext w6 w') O (qT 0 O (λ_ h=>(Q0 Xv O O (h.PO cG) O)) H (PV 1 O (Rs O) H (PV 2 O (QE z4f O) H (qT 4 O (λ_ h=>(Q0 QG O O (h.PO jh) O)) H (PV 5 O (TM QG O) H (qT 3 O (λ_ d=>Q0 U3 O O (d.PO DV) (zjx h.len)) H (PV 6 O (W7 O O ω) H ?_)))))))))))));refine PV 7 O (Zq O O) H<|Vm<|PV 8 O (SG O) H<|qE<|Us O<|PN<|qN O ?_;have ac:=H.size;refine PX O O (SE (cs:=[_,_]) S4 O) ?_;rintro _ w7⟨b9,rfl,ny,C,cO⟩;have a9:=cO.lt;have z:=H.trans C;have kg:=iL.trans z;have kB:=A.trans z;have z7:=kg.size;have ab:=z.size;have DW:=kg.PO h.PO;have BB:AdM w7 k b2 b3 b7 b8 b4 b9 a succ.length cp L.length S 0 (.slice none 0 0) 0:=⟨z.PO cG,z.PO jh,kB.PO mu,z.PO aW,kB.PO aK,cO⟩;have hd:b8≠b2/\b8≠b3/\b8≠b7/\b4≠b2/\b4≠b3/\b4≠b7/\b9≠b2/\b9≠b3/\b9≠b7/\b8≠b4/\b8≠b9/\b4≠b9:=ω
  refine qM O<|qV (ymf (first:=[]) (caps:=[.tmp 2,.tmp 3,.tmp 7,.tmp 8,.tmp 4,.tmp 9]) O O)<|Qe O<|It<|qN O ?_;have DX:=BB.c2;refine qV (Q0 Xv O O DX O)<|QC O<|Qf Y5 O<|Qf z38 O<|qV (Q0 U3 O O DW O)<|Q4 O<|PR<|QA.qb (e:=[(2,_),(3,_),(4,_),(6,_),(7,_),(8,_),(9,_),(10,_),(58,_),(59,_)]) ?_;refine PT<|SN (α:=Nat) (0) (λi=>[(2,ptr b2 0),(3,ptr b3 0),(4,ptr b4 0),(7,ptr b7 0),(8,ptr b8 0),(9,ptr b9 0),(10,.func (.func 163) #[] #[ptr b2 0,ptr b3 0,ptr b7 0,ptr b8 0,ptr b4 0,ptr b9 0]),(58,I (p.Qt:Int)),(59,I (i:Int))]) (λi w'=>Ext w w'/\w7.heap.size<=w'.heap.size/\i<=p.Qt/\∃least ref v c,AdM w' k b2 b3 b7 b8 b4 b9 a succ.length cp L.length least ref v c/\Found p L E R succ.length ref v c) (λi=>p.Qt-i) ?hI ?hround
  case hI=>exact⟨kg,y04 _,y03 _,_,_,_,_,BB,.inl ⟨O,O,O⟩⟩
  case hround=>
   rintro i wA⟨N,P3,hi,least,ref,v,c,Z,hF⟩ ih
   try dsimp only
   refine qN O<|RT O<|PR<|It<|Qa O (λh0=>?_)<|λh0=>?_
   ·refine PS<|RU<|Qz O<|Qe O<|PY O<|Qq O<|Ra O ?_;rw[show(i:Int)+1=((i+1:Nat):Int) by omega];refine S5 O O (SQ zjv O O) (zel m (h.ext N) (N.PO hG) (N.PO hU) hL P lL (t.ext N) Z hF hd (i+1) ω ω) ?_;rintro _ w9⟨rfl,aM,a2,a3,v',c',rT,LE⟩;have z9:=aM.size;refine PR<|PN<|PY O<|Ra O<|Q4 O<|PR ?_;exact(ih (i+1) _ ⟨N.An aM (λi hi=>ω),ω,ω,_,_,_,_,rT,LE⟩ ω).qb
   ·have J:∀b,w.heap.size<=b->¬F b:=λb hb e=>by have:=h.wr.lt e;omega
    have ug:=N.PO h.PO
    have Bx:ref<=p.Qt/\(ref=0->RV L L.length ref=[])/\QR (RV L L.length ref)/\(∃va s,v= .slice va (RV L L.length ref).length s/\(RV L L.length ref).length<=s/\Rd wA (.slice va (RV L L.length ref).length s) 1 (RV L L.length ref).length ((RV L L.length ref).map QL))/\z0Y p L E L.length succ.length (ref,if 0<ref then c+1 else 0)/\c<=65536:=by
     rcases hF with⟨rfl,rfl,rfl⟩|⟨f1,f2,f3,f4,l,e,f5,f6,rfl,f8⟩
     ·refine⟨y03 _,λ_=>rfl,⟨y1p,λy h=>(by cases h)⟩,⟨none,0,rfl,y03 _,WX⟩,.inl rfl,y03 _⟩
     ·have iH:RV L L.length ref=l:=by unfold RV;rw[if_neg ω,f5];rfl
      obtain⟨va,s,g1,g2,g3,g4⟩:=h.ring _ l e f5 f6 ω;rw[f4] at g1;have gv:v= .slice va l.length s:=(Prod.mk.inj (SJ g1)).1;have hb:=of_decide_eq_true f8;have LF:=m.2.1;rw[iH];exact⟨f2,λe=>ω,h.ok l (y0i f5),⟨va,s,gv,g2,(g3.ext N).rd⟩,.inr ⟨f1,f2,f3,l,e,f5,f6,by dsimp only;rw[if_pos ω],f8⟩,ω⟩
    obtain⟨cN,cP,ce,⟨va,s,rfl,bD,bL⟩,ig,LG⟩:=Bx;have IG:=nX ref cN
    generalize DY:RV L L.length ref=lr at cP ce bD bL IG Z
    have pP:=Z.c2;have wJ:=Z.c3;have DZ:=Z.c7;have ym:=Z.c9;have yn:=Z.c4;have E0:=Z.c8;have x:=Ext.Qm wA;refine Q7 O (It (It (Sq (λw'=>Kp F wA w') O (qT 0 O (λ_ d=>(Q0 Xv O O (d.PO pP (J _ ω)) O)) x.kp (PV 1 O (Rs O) x.kp (PV 2 O (QE z4M O) x.kp (qT 4 O (λ_ d=>(Q0 U3 O O (d.PO DZ (J _ ω)) O)) x.kp (qT 5 O (λ_ d=>(Q0 QG O O (d.PO wJ (J _ ω)) O)) x.kp (PV 6 O (QE TG O) x.kp (qT 7 O (λ_ d=>(Q0 QG O O (d.PO ym (J _ ω)) O)) x.kp (qT 8 O (λ_ d=>(Q0 U3 O O (d.PO yn (J _ ω)) O)) x.kp (qT 9 O (λ_ d=>(Q0 Xv O O (d.PO pP (J _ ω)) O)) x.kp (PV 10 O (Rs O) x.kp ?_)))))))))))));refine PV 11 O (QE Y5 O) x.kp<|qT 3 O (λ_ d=>Q0 z3b O O (d.PO ug h.nk) (zgE h.len)) x.kp<|qT 12 O (λ_ d=>QB (news:=WC p) Z4 O SV O (mw (d.PO ug h.nk)) O) x.kp<|TQ 13 O z2t O (Ub p _) ?_;rintro _ w9⟨rfl,fJ⟩;refine⟨(x.trans fJ).kp,?_⟩;have T:=x.trans fJ;have gH:=N.trans T;refine TQ 14 O zfK O (z1g (h.wr.ext gH) p.list m.1 L.length hL succ lr P ce ref cN cP (gH.PO hG) (gH.PO hU) (t.ext gH) (bL.ext T) lL bD IG) ?_;rintro _ wB⟨rfl,F',BJ,ji,qq⟩;refine⟨T.kp.trans ji,?_⟩;have Q:Kp F wA wB:=T.kp.trans ji;have E1:∀i,F' i->F i\/wA.heap.size<=i:=λi hi=>(qq i hi).imp id (λe=>by have:=T.size;omega);have yo:=Q.PO yn (J _ ω);have E2:=Q.PO ym (J _ ω);have yp:=Q.PO pP (J _ ω);have yr:=Q.PO wJ (J _ ω);have E3:=Q.PO E0 (J _ ω);have E4:=Q.PO ug h.nk;have Sb:=Q.size;have E5:Rd wB (.slice a succ.length cp) 1 succ.length (succ.map QL):=(t.ext N).kpz Q (λh0 g hg=>(LD g h0 hg).1);refine PV 15 O (SG O) (T.kp.trans ji)<|qE<|QA.qb (e:=[(2,_),(3,_),(4,_),(8,_),(9,_),(12,_)]) ?_;refine Qz O<|RI O<|Ri O<|RY O<|It<|qN O<|qV (Q0 U3 O O yo O)<|RR O<|PR<|QT (λe' w'=>e'=[(2,ptr b2 0),(3,ptr b3 0),(4,ptr b4 0),(8,ptr b8 0),(13,I ((if 0<ref then c+1 else 0:Nat):Int))]/\w'=wB) ?av<|λav=>?dO
    case av=>
     rintro e' M⟨rfl,rfl⟩
     generalize (if 0<ref then c+1 else 0)=f at ig
     have U:=Ext.Qm M;have E6:∀i,i<M.heap.size->¬(Value.slice none 0 0).ownBlock=some i:=λi _ e=>by cases e
     refine It (Sq (λw'=>Kp (λi=>i=k) M w') O (qT 0 O (λ_ d=>(Q0 Xv O O (d.PO yp ω) O)) U.kp (PV 1 O (Rs O) U.kp (PV 2 O (QE z07 O) U.kp (qT 3 O (λ_ d=>(Q0 QG O O (d.PO yr ω) O)) U.kp (Ql 5 O O U.kp (qO 4 (ZS (i:=4) O O O (pap QG Qn O ψ O O (Sl.nil _ _ _) (E5.ext U) (z4R _) ω (by simp only[maxLen];omega)) ?_))))))));rintro v' wC⟨wP,jP,LH,-⟩;refine⟨U.kp.trans (jP.PZ λi e=>by cases e),?_⟩;have o:Ext M wC:=U.trans ((Ext.refl _).An jP (λi e=>by cases e));rw[y0k,y14] at wP;obtain⟨a',G,rfl,-⟩:=wP.rd.shape
     have ud:succ.length<=G:=by
      rcases wP.shape with⟨e,h0⟩|⟨g,c1,hv,gW⟩
      ·omega
      ·cases hv;exact gW
     have yt:∀g,(Value.slice a' succ.length G).ownBlock=some g->M.heap.size<=g:=λg hg=>by
      rcases LH g hg with e| e
      ·cases e
      ·have:=U.size;omega
     have E7:=o.PO E4;refine TQ 6 O zj6 O (zcC E7 h.len ω a' succ.length G f) ?_;rintro _ wD⟨rfl,IH,B⟩;refine⟨o.kp.trans B,?_⟩;have cA:(R.set (L.length%17) (.slice a' succ.length G,f)).length=17:=by rw[y0A];exact h.len
     have E8:=B.PO (o.PO yp) ω;have E9:=B.PO (o.PO yr) ω;have Ea:=B.PO (o.PO yo) ω;have Eb:=B.PO (o.PO E3) ω;have K:=Ext.Qm wD;refine qE (It (Qp [9] (λw'=>Ext wD w') y00 O (qL 0 O (λ_ h=>(Q0 Xv O O (h.PO E8) O)) K (Qs 1 O (Rs O) K (Qs 2 O (QE z4f O) K (qL 4 O (λ_ h=>(Q0 QG O O (h.PO E9) O)) K (Qs 5 O (TM QG O) K (qL 3 O (λ_ h=>Q0 U3 O O (h.PO IH) (zjx cA)) K (Qs 6 O (W7 O O ω) K (Qs 7 O (Rs O) K (Qs 8 O (QE z4f O) K (U0 [9] (qO 9 ?_)))))))))))));refine QQ (i:=9) O O (S0 R8 O O O (K.PO IH) (by rw[z7L cA];decide)) ?_;rintro wE⟨BL,Ec⟩;refine⟨trivial,?_⟩;replace BL:Q8 wE k ((Zh p (R.set (L.length%17) (.slice a' succ.length G,f)) (L.length+1) wp ed).set 41 (I ((ed+succ.length:Nat):Int))) 273:=BL;rw[zev cA] at BL;have lF:Kp (λi=>i=k) wD wE:=K.kp.trans Ec;have uh:=lF.PO Ea ω;have Ed:=lF.PO Eb ω;have V:=Ext.Qm wE;refine qE (It (Sq (λw'=>Kp (λi=>i=b4) wE w'/\Q8 w' b4 [I (ref:Int)] 3) O (qT 0 O (λ_ h=>(Q0 U3 O O h.2 O)) (⟨V.kp,V.PO uh⟩) (qT 1 O (λ_ d=>(Q0 U3 O O (d.1.PO Ed ω) O)) (⟨V.kp,V.PO uh⟩) (qO 2 (QQ (i:=2) O O (S0 R8 O O O (V.PO uh) ξ) ?_))))));rintro wF⟨X,qt⟩;refine⟨⟨V.kp.trans qt,X⟩,?_⟩;replace X:Q8 wF b4 [I (ref:Int)] 3:=X;have ue:Kp (λi=>i=b4) wE wF:=V.kp.trans qt;have DR:=ue.PO BL ω;refine PV 3 O (SG O) (⟨V.kp.trans qt,X⟩)<|PV 4 O (SG O) (⟨V.kp.trans qt,X⟩)<|qE<|QA.qb (e:=[(4,_),(5,_),(6,_)]) ?_;refine Qy func126 (.cell1 U3 O O ((X).cell _) (.tmp O (.tmp O .nil))) ?_;obtain⟨q1,q2,q3⟩:=h.add (r:=ref) N Q BJ E1 P o wP ud yt B lF ue ω ω DR;exact⟨_,O,ref,least,f,F',_,O,ig,by rw[DY];exact q1,q2,q3⟩
    case dO=>
     refine Qa O (λh5=>?_)<|λh5=>?_
     ·refine PY O<|Qf z4N O<|qV (Q0 U3 O O E2 O)<|Ra O<|Qe O ?_;rw[show(c:Int)+1=((if 0<ref then c+1 else 0:Nat):Int) by rw[if_pos ω];omega];exact(av _ _ ⟨O,O⟩).qb
     ·refine PS ?_;have jp:(if 0<ref then c+1 else 0)=0:=if_neg ω;exact(av _ _ ⟨by rw[jp],O⟩).qb
 case du=>
  have av:=dD;refine Qp [12] (λw'=>Ext W w') y00 O<|qL 0 O (λ_ h=>(Q0 U3 O O (h.PO mu) O)) av<|qL 1 O (λ_ h=>(Q0 QG O O (h.PO cB) O)) av<|qL 2 O (λ_ h=>(Q0 Xv O O (h.PO dy) O)) av<|Qs 3 O (Rs O) av<|Qs 4 O (QE Y5 O) av<|qL 5 O (λ_ h=>QB (news:=WC p) Z4 O SV O (mw (h.PO yl)) O) av<|Wp (i:=6) (j:=11) y00 ?_ ?_
  ·refine S2 (i:=6) O O O (yc z2t O) (Ub p _) ?_;rintro _ w6⟨rfl,A⟩;refine⟨av.trans A,?_⟩
   try have q:=A.PO q
   have av:=av.trans A;refine Wp (i:=7) (j:=11) y00 ?_ ?_
   ·refine S2 (i:=7) O O O (yc z57 O) (WI p.list m.1 L.length hL succ [] P ⟨y1p,λy h=>(by cases h)⟩ 0 (y03 _) (λ_=>rfl) ((D.trans av).PO hG) ((D.trans av).PO hU) (t.ext (D.trans av)) WX lL (y03 _)) ?_;rintro _ w7⟨rfl,C⟩;refine⟨av.trans C,?_⟩
    try have q:=C.PO q
    have av:=av.trans C;refine R1 8 O O av (Qs 9 O (SH O O) av (Rr (i:=10) O y00 O O (λ_=>SH O O) av (RM (i:=11) y00 (Rp (i:=11) O O O (SE (cs:=[_]) R8 O) ?_))));rintro _ a0⟨b8,rfl,jg,Y,q⟩;refine⟨av.trans Y,?_⟩;have nZ:W.heap.size<=b8:=by have:=av.size;omega
    have av:=av.trans Y;refine U0 [12] (qO 12 (QQ (i:=12) O O (S0 R8 O O O q ξ) ?_));rintro a1⟨bq,br⟩;refine⟨trivial,?_⟩;refine PV 13 O (SG O) trivial<|qE<|QA.qb (e:=[(2,_),(3,_),(4,_),(5,_),(6,_),(7,_),(8,_)]) ?_;exact(bF _ _ ⟨b8,_,O,av.An br (λi e=>ω),nZ,bq⟩).qb
   ·refine Rp (i:=11) O O O (SE (cs:=[_]) R8 O) ?_;rintro _ a0⟨b8,rfl,jg,Y,q⟩;refine⟨av.trans Y,?_⟩;have nZ:W.heap.size<=b8:=by have:=av.size;omega
    have av:=av.trans Y;refine RM (i:=7) y00 (S2 (i:=7) O O O (yc z57 O) (WI p.list m.1 L.length hL succ [] P ⟨y1p,λy h=>(by cases h)⟩ 0 (y03 _) (λ_=>rfl) ((D.trans av).PO hG) ((D.trans av).PO hU) (t.ext (D.trans av)) WX lL (y03 _)) ?_);rintro _ w7⟨rfl,C⟩;refine⟨av.trans C,?_⟩
    try have q:=C.PO q
    have av:=av.trans C;refine R1 8 O O av (Qs 9 O (SH O O) av (Rr (i:=10) O y00 O O (λ_=>SH O O) av (U0 [12] (qO 12 (QQ (i:=12) O O (S0 R8 O O O q ξ) ?_)))));rintro a1⟨bq,br⟩;refine⟨trivial,?_⟩;refine PV 13 O (SG O) trivial<|qE<|QA.qb (e:=[(2,_),(3,_),(4,_),(5,_),(6,_),(7,_),(8,_)]) ?_;exact(bF _ _ ⟨b8,_,O,av.An br (λi e=>ω),nZ,bq⟩).qb
  ·refine Rp (i:=11) O O O (SE (cs:=[_]) R8 O) ?_;rintro _ a0⟨b8,rfl,jg,Y,q⟩;refine⟨av.trans Y,?_⟩;have nZ:W.heap.size<=b8:=by have:=av.size;omega
   have av:=av.trans Y;refine RM (i:=6) y00<|S2 (i:=6) O O O (yc z2t O) (Ub p _) ?_;rintro _ w6⟨rfl,A⟩;refine⟨av.trans A,?_⟩
   try have q:=A.PO q
   have av:=av.trans A;refine RM (i:=7) y00 (S2 (i:=7) O O O (yc z57 O) (WI p.list m.1 L.length hL succ [] P ⟨y1p,λy h=>(by cases h)⟩ 0 (y03 _) (λ_=>rfl) ((D.trans av).PO hG) ((D.trans av).PO hU) (t.ext (D.trans av)) WX lL (y03 _)) ?_);rintro _ w7⟨rfl,C⟩;refine⟨av.trans C,?_⟩
   try have q:=C.PO q
   have av:=av.trans C;refine R1 8 O O av (Qs 9 O (SH O O) av (Rr (i:=10) O y00 O O (λ_=>SH O O) av (U0 [12] (qO 12 (QQ (i:=12) O O (S0 R8 O O O q ξ) ?_)))));rintro a1⟨bq,br⟩;refine⟨trivial,?_⟩;refine PV 13 O (SG O) trivial<|qE<|QA.qb (e:=[(2,_),(3,_),(4,_),(5,_),(6,_),(7,_),(8,_)]) ?_;exact(bF _ _ ⟨b8,_,O,av.An br (λi e=>ω),nZ,bq⟩).qb
section
def z7c (h:PkM w k p L E bs F R wp ed)(l:bs.length<=9223372036854775):Qx prog 127 [ptr k 0] w λu w'=>u=I (bs.length:Int)/\Ext w w':=by
 refine py (e:=[(0,_)]) func127 O ntmps127 O O ?_
 have hg:=Ext.Qm w
 refine RY O<|QV O<|qV (Rm Xv O O)<|Ri O<|It<|Sq (λw'=>Ext w w') O<|Ql 0 O O hg<|PV 1 O (Rs O) hg<|PV 2 O (QE zeZ O) hg<|Ql 4 O O hg<|PV 5 O (Rs O) hg<|PV 6 O (QE z4M O) hg<|qT 3 O (λ_ d=>Q0 U3 O O (d.PO h.PO) (zm0 h.len)) hg<|qT 7 O (λ_ d=>Q0 z3b O O (d.PO h.PO) (zgE h.len)) hg ?_
 refine TQ 8 O z3z O (WG (h.wr.ext hg)) ?_
 rintro _ w1⟨rfl,rfl⟩
 refine⟨hg,?_⟩
 refine PV 9 O (W7 O O ω) hg<|PV 10 O (SG O) hg<|qE ?_
 rw[show(0:Int)+(bs.length:Int)=(bs.length:Int) by omega]
 refine PQ func127 O ?_
 exact⟨_,O,O,hg⟩
def z7u (h:PkM w k p L E bs F R wp ed):Qx prog 128 [ptr k 0] w λu w'=>u= .tuple #[S (Qw bs),I 0]/\w'=w:=by
 refine py (e:=[(0,_)]) func128 O ntmps128 O O<|qN O<|Rw O<|QV O<|qV (Rm Xv O O)<|Ri O<|Qz O<|QC O<|Qf z4M O<|qV (Q0 z3b O O h.PO (zgE h.len))<|Qj z9B O (Y6 h.wr) ?_
 rintro _ w1⟨rfl,rfl⟩
 refine Tr O<|Rw O<|PQ func128 O ?_
 exact⟨_,O,O,O⟩
end
structure GrM (w:World)(v:Value)(g:List (List Nat)):Prop where
 ex:∃vs:List Value,Rd w v 1 g.length vs/\∀(i:Nat)(l:List Nat),g[i]? =some l->∃(a:Option Addr)(c:Nat),vs[i]? =some (Value.slice a l.length c)/\l.length<=c/\Rd w (.slice a l.length c) 1 l.length (l.map QL)
theorem GrM.ext {v:Value}(h:GrM w v g)(d:Ext w w'):GrM w' v g:=by
 obtain⟨vs,r,u⟩:=h.ex
 refine⟨vs,r.ext d,λi l x=>?_⟩
 obtain⟨a,c,e,n,q⟩:=u i l x
 exact⟨a,c,e,n,q.ext d⟩
structure Sg (g:List (List Nat)):Prop where
 ok:∀l∈g,QR l
 lt:∀l∈g,∀y∈l,y<g.length
 n:g.length<=60
theorem Sg.len (h:Sg g){l:List Nat}(d:l∈g):l.length<=g.length:=by
 have:=z4s l 0 g.length (h.ok l d).ris (λy e=>⟨y03 _,h.lt l d y e⟩) (y03 _)
 omega
def Rb (g:List (List Nat)):Nat:=(g.map List.length).sum
theorem Zj (g:List (List Nat))(l:List Nat):Rb (g++[l])=Rb g+l.length:=by simp[Rb]
theorem zdH {n:Nat}(h:∀l∈g,l.length<=n):Rb g<=g.length*n:=by
 induction g with
 |nil=>simp[Rb]
 | cons l g q =>
   have r:=q (λm d=>h m (y0u _ d));have u:=h l y0r;show(l.length::g.map List.length).sum<=_;rw[y0M,y02,y0q];have e:Rb g=(g.map List.length).sum:=rfl;omega
def Ve (h:Sg g)(i:Nat):Rb (g.take i)<=3600:=by
 have e:Rb (g.take i)<=(g.take i).length*60:=zdH (λl d=>by have:=h.len (y18 d);have:=h.n;omega)
 have q:(g.take i).length<=60:=by rw[y0d];have:=h.n;omega
 omega
theorem z6e (h:GrM w (.slice ga g.length gc) g)(hg:Sg g):Qx prog 125 [.slice ga g.length gc] w λu w'=>u= .bool true/\w'=w:=by
 have F:=hg.n
 obtain⟨vs,G,f⟩:=h.ex
 refine py (e:=[(0,_)]) func125 O ntmps125 O O<|qN O<|Sb O<|Qe O<|QV O<|SS U23 O<|Q4 O<|PR<|PT<|SN (α:=Nat) (0) (λi=>[(0,.slice ga g.length gc),(3,I (Rb (g.take i):Int)),(8,.slice ga g.length gc),(9,I (g.length:Int)),(10,I (i:Int))]) (λi w'=>w'=w/\i<=g.length) (λi=>g.length-i) ?hI ?hround
 case hI=>exact⟨O,y03 _⟩
 case hround =>
  rintro i m⟨rfl,hi⟩ Z;have R:=Ve hg i
  try dsimp only
  refine qN O<|RT O<|PR<|It<|Qa O (λx=>?_)<|λx=>?_
  ·have Q:i<g.length:=ω
   obtain⟨l,A⟩:∃l,g[i]? =some l:=⟨_,y07 Q⟩;have D:=y0i A;have B:=hg.len D;obtain⟨a,c,S,t,v⟩:=f i l A
   obtain⟨H,go,W,U⟩:∃b o d,Value.slice ga g.length gc= .slice (some ⟨b,o,none⟩) g.length d:=by
    rcases G.2 with⟨c,q,x⟩|⟨b,off,d,q,-⟩
    ·omega
    ·exact⟨b,off,d,q⟩
   cases U;refine PS (RU (qN O (qV (Rk U23 VB O O ω) (qV (QH QG O O (Rg G S)) (Sb O (Qq O (SS QG O (Ra O (RZ O (SS QG O (Q4 O (PR (PT ?_)))))))))))));have K:=Zj (g.take i) l;rw[<-R4 A] at K;rw[show(Rb (g.take i):Int)+(l.length:Int)=(Rb (g.take (i+1)):Int) by omega];refine SN (α:=Nat) (0) (λj=>[(0,.slice (some ⟨H,go,none⟩) g.length gc),(3,I (Rb (g.take (i+1)):Int)),(5,.slice a l.length c),(8,.slice (some ⟨H,go,none⟩) g.length gc),(9,I (g.length:Int)),(10,I (i:Int)),(18,.slice a l.length c),(19,I (l.length:Int)),(20,I (j:Int))]) (λj w'=>w'=m/\j<=l.length) (λj=>l.length-j) ?hI ?hround
   case hI=>exact⟨O,y03 _⟩
   case hround=>
    rintro j T⟨rfl,E⟩ r
    try dsimp only
    refine qN O<|RT O<|PR<|It<|Qa O (λY=>?_)<|λY=>?_
    ·have k:j<l.length:=ω
     obtain⟨y,C⟩:∃y,l[j]? =some y:=⟨_,y07 k⟩;have p:=hg.lt l D y (y0i C)
     obtain⟨L,lo,P,V⟩:∃b o d,Value.slice a l.length c= .slice (some ⟨b,o,none⟩) l.length d:=by
      rcases v.2 with⟨c,q,x⟩|⟨b,off,d,q,-⟩
      ·omega
      ·exact⟨b,off,d,q⟩
     cases V;refine PS (RU (Qz O (qV (Rk QG Qn O O ω) (qV (QH RO O O (Rg v (show(l.map QL)[j]? =some (QL y) by rw[y0m,C];rfl))) ?_))));refine Tq O (RZ O (qV (QU O RO U3 ω) (Q4 O (SS U23 O (UL O (QW (Q4 O ?_)))))));rcases y0D j with M|M
     ·refine Q4 O<|RR O<|QW<|Q4 O<|Sc<|Sc<|Sc<|qS<|R0 O<|R0 O<|Ri O<|PN<|PY O<|Ra O ?_;refine Q4 O<|PR ?_;exact(r (j+1) _ ⟨O,ω⟩ ω).qb
     ·obtain⟨z,J⟩:∃z,l[j-1]? =some z:=⟨_,y07 ω⟩
      have s:z<y:=by
       obtain⟨N,a2⟩:=y0l.1 J;obtain⟨b1,b2⟩:=y0l.1 C;have:=y1C.1 (hg.ok l D).ris (j-1) j N b1 ω
       rwa [a2,b2] at this
      refine Q4 O<|RR O<|SD<|Qq O<|Qq O<|SA O ?_;rw[show(j:Int)-1=((j-1:Nat):Int) by omega];refine qV (Rk QG Qn O O ω) (qV (QH RO O O (Rg v (show(l.map QL)[j-1]? =some (QL z) by rw[y0m,J];rfl))) ?_);refine zle O<|QW<|Sh O<|R0 O<|Ri O<|PN<|PY O<|Ra O<|Q4 O<|PR ?_;exact(r (j+1) _ ⟨O,ω⟩ ω).qb
    ·refine Q7 O<|PN<|PY O<|Ra O<|Q4 O<|PR ?_;exact(Z (i+1) _ ⟨O,ω⟩ ω).qb
  ·refine Q7 O<|Qz O<|SS U23 O<|zle O<|SD<|Qq O<|zle O<|SD<|Sh O<|Qe O<|PQ func125 O ?_;exact⟨_,O,O,O⟩
/-! ### How many bits -/
def YG.z4Q {q:Cd×Nat}(h:YG k q)(r:1<=k/\k<=16):(q.1.enc q.2).length<=112:=by
 obtain⟨l,n⟩:=h.RN r
 obtain⟨-,d,-⟩:=Yn l n
 rw[Y2]
 rcases h with⟨e,h⟩|⟨e,h⟩|⟨e,h⟩
 ·rw[e] at d⊢;show q.2+1+_<=_;omega
 ·have:=(X5 (v:=q.2) ω).2.2;rw[e] at d⊢;show Nat.log2 (q.2+1)+1+_<=_;omega
 ·have u:=(X5 (v:=q.2) ω).2.2;have x:Nat.log2 (q.2+1) / k<=Nat.log2 (q.2+1):=y0P _ _;rw[e] at d⊢;show Nat.log2 (q.2+1) / k+1+_<=_;omega
def z3s {n:Nat}{L:List (Cd×Nat)}(h:∀q∈L,(q.1.enc q.2).length<=n):(Qr L).length<=L.length*n:=by
 induction L with
 |nil=>simp[Qr]
 | cons q L e =>
   have l:=e (λq d=>h q (y0u _ d));have r:=h q y0r;rw[Ro,y01,y02,y0q];omega
theorem z3S (least:Nat){l:List Nat}(h:QR l):(R7 least l).1.length<=l.length:=by
 have d:=(UP least l).length_eq
 rw[y01] at d
 have e:∀(R:List (Nat×Nat)) (lo:Nat),Uc least lo R->R.length<=(S7 R).length:=by
  intro R
  induction R with
  |nil=>intro lo h;exact y04 _
  | cons q R r =>
    intro lo h;have n:=r _ h.2.2.2;have u:1<=q.2:=h.2.1;rw[show S7 (q::R)=(List.range q.2).map (q.1+·)++S7 R from rfl,y01,y0n,y17,y02];omega
 have n:=e _ 0 (Wo least l 0 h.ris (λy _=>y03 _))
 omega
theorem z0y {p:Te}(d:p.RN){x:Nat}(A:x<65536)(e:QR succ)(v:QR ref){r:Nat}(C:r<=p.Qt)(G:succ.length<=60)(D:ref.length<=60):(Qr (SM p x succ ref r)).length<=44800:=by
 have h:QR (Qv succ ref):=e.sub y1T
 have M:(Qv succ ref).length<=succ.length:=y3g _ _
 have l:=(Uk succ ref).z2p
 rw[y0n] at l
 have N:=z3S p.interval h
 have O:=(VN p.interval (Qv succ ref)).length_le
 have H:(SM p x succ ref r).length<=400:=by
  unfold SM;rw[y02];split
  ·simp
  rw[y01,y01];have I:(if 0<p.Qt then [(Cd.unary,r)] else []).length<=1:=by split<;>simp
  have J:(if 0<r then(Cd.gamma,(Sr succ ref).length-1)::RA 0 (Sr succ ref).dropLast else []).length<=62:=by
   split
   ·rw[y02,Uq,y2q];omega
   ·simp
  have K:(if Qv succ ref=[] then [] else(if 0<p.interval then(Cd.gamma,(R7 p.interval (Qv succ ref)).1.length)::QY x p.interval none (R7 p.interval (Qv succ ref)).1 else [])++QZ x p.zeta none (R7 p.interval (Qv succ ref)).2).length<=200:=by
   split
   ·simp
   ·rw[y01,UA];split
    ·rw[y02,Tz];omega
    ·simp;omega
  omega
 have:=z3s (n:=112) (L:=SM p x succ ref r) (λq u=>(z1w d A e v C q u).z4Q ⟨d.2.2.1,d.2.2.2⟩)
 omega
/-! ### All bits -/
def Z7 (p:RE)(g:List (List Nat))(E:List (Nat×Nat))(i:Nat):List Bool:=
 Qr (SM p.list i ((g[i]?).getD []) (RV g i ((E[i]?).getD (0,0)).1) ((E[i]?).getD (0,0)).1)
def RP (p:RE)(g:List (List Nat))(E:List (Nat×Nat))(n:Nat):List Bool:=(List.range n).flatMap (Z7 p g E)
theorem Ug (p:RE)(g:List (List Nat))(E:List (Nat×Nat))(n:Nat):RP p g E (n+1)=RP p g E n++Z7 p g E n:=by
 unfold RP
 rw[y0T,y1Z];simp
theorem z1S (p:RE)(g:List (List Nat))(E:List (Nat×Nat))(e:Nat×Nat):∀n,n<=E.length->RP p g (E++[e]) n=RP p g E n
 |0,_=>rfl
 | n + 1, h => by
   rw[Ug,Ug,z1S p g E e n ω]
   congr 1
   unfold Z7;rw[y0K ω]
structure zgj (p:RE)(g:List (List Nat))(E:List (Nat×Nat)):Prop where
 ent:∀i e,E[i]? =some e->z0Y p g E i ((g[i]?).getD []).length e
def z0Y.mono {q:List (List Nat)}{d:List (Nat×Nat)}{n size:Nat}{e:Nat×Nat}(h:z0Y p L E n size e)(I:∀(j:Nat)(l:List Nat),L[j]? =some l->q[j]? =some l)(H:∀(j:Nat)(l:Nat×Nat),E[j]? =some l->d[j]? =some l):z0Y p q d n size e:=by
 rcases h with h|⟨u,v,x,l,r,A,C,D,G⟩
 ·exact .inl h
 ·exact .inr ⟨u,v,x,l,r,I _ _ A,H _ _ C,D,G⟩
def Sl.typed {v:Value}{n g:Nat}(h:Sl w v T k n cs)(hg:v.ownBlock=some g):∃d,w.heap[g]? =some (.cells d T (0,0)):=by
 rcases h.2 with⟨x,-⟩|⟨r,l,d,u,-,q,-⟩
 ·rw[x] at hg;cases hg
 ·rw[u] at hg;have e:r=g:=SJ hg;exact⟨d,e▸q⟩
theorem PkM.kpT (h:PkM w k p L E bs F R wp ed){v:Value}{H n:Nat}(D:T≠42)(G:Sl w v T H n cs)(d:Kp (λi=>v.ownBlock=some i) w w')(n1:v.ownBlock≠some k)(n2:∀i,F i->v.ownBlock≠some i):PkM w' k p L E bs F R wp ed:=
 ⟨d.PO h.PO n1,h.len,h.wr.kp d n2,h.nk,h.el,h.ok,λj l e x A C=>by
  obtain⟨a,cp,r,u,q,g4⟩:=h.ring j l e x A C;refine⟨a,cp,r,u,q.kp d (λg hg e=>?_),g4⟩;obtain⟨c1,f1⟩:=q.typed hg;obtain⟨c2,f2⟩:=G.typed e;rw[f1] at f2
  injection f2 with f3
  injection f3 with f4 f5
  exact D f5.symm⟩
def XF (p:RE)(g:List (List Nat))(E:List (Nat×Nat))(n:Nat):List Nat:=(List.range (n+1)).map λj=>(RP p g E j).length
theorem zes (p:RE)(g:List (List Nat))(E:List (Nat×Nat))(e:Nat×Nat)(n:Nat)(h:n<=E.length):XF p g (E++[e]) n=XF p g E n:=by
 unfold XF
 refine y0N λj d=>?_
 rw[z1S p g E e j (by have:=y0Q.1 d;omega)]
theorem zcb (p:RE)(g:List (List Nat))(E:List (Nat×Nat))(n:Nat):XF p g E (n+1)=XF p g E n++[(RP p g E (n+1)).length]:=by
 unfold XF
 rw[y0T,y0f];rfl
def z4l (p:RE)(g:List (List Nat))(E:List (Nat×Nat))(n:Nat):(XF p g E n).length=n+1:=by simp[XF]
theorem getD_take {α:Type}{l:List α}(h:j<i):(l.take i)[j]? =l[j]? :=by rw[y1H,if_pos h]
def Yv (L:List (List Nat))(n r:Nat):RV L n r=[]\/RV L n r∈L:=by
 unfold RV
 split
 ·exact .inl O
 ·cases h:L[n-r]? with
  |none=>exact .inl O
  |some l=>exact .inr (y0i h)
theorem z7K {n r:Nat}(h:r<=n):RV (L.take n) n r=RV L n r:=by
 unfold RV
 by_cases e:r=0
 ·rw[if_pos e,if_pos e]
 ·rw[if_neg e,if_neg e,getD_take ω]
structure EnI (w:World)(p:RE)(g:List (List Nat))(k wp:Nat)(i:Nat)(E:List (Nat×Nat))(v:Value)(w':World):Prop where
 pk:∃F R,PkM w' k p (g.take i) E (RP p g E i) F R wp (Rb (g.take i))/\(∀j,F j->w.heap.size<=j)/\∀j,F j->v.ownBlock≠some j
 ext:Ext w w'
 nk:w.heap.size<=k
 sl:Sl w' v 39 1 (XF p g E i).length ((XF p g E i).map Qi)
 fr:∀b,v.ownBlock=some b->w.heap.size<=b
 vk:v.ownBlock≠some k
 ent:∀j e,E[j]? =some e->z0Y p g E j ((g[j]?).getD []).length e
 bd:(RP p g E i).length<=i*44800
theorem zb2 (Y:p.RN)(hg:Sg g)(jS:GrM w (.slice ga g.length gc) g)(hG:Q8 w 1 (Tu .gamma) 314)(hU:Q8 w 2 (Tu .unary) 314):
  Qx prog 91 [.slice ga g.length gc,bpV p] w λu w'=>∃E v,u= .tuple #[S (Qw (RP p g E g.length)),v,I 0]/\E.length=g.length/\zgj p g E/\(RP p g E g.length).length<=2688000/\Sl w' v 39 1 (g.length+1) ((XF p g E g.length).map Qi)/\(∀b,v.ownBlock=some b->w.heap.size<=b)/\Ext w w':=by
 have hn:=hg.n
 refine py (e:=[(0,_),(1,_)]) func91 O ntmps91 O O<|qN O<|PX O O (Sy O (cs:=WC p) O) ?_
 rintro _ w1⟨b3,rfl,ev,ad,au⟩
 have z1:=ad.size
 refine Tq O<|Tq O<|Sb O<|qV (QB (news:=WC p) Z4 O SV O (au.cells (n:=5) O) O)<|Qj zjf O (zaR p Y w1) ?_
 rintro _ w2⟨k,wp,F,rfl,qu,hW,LK,ae,aI,pa⟩
 have z2:=ae.size
 have aF:=ad.trans ae
 refine Q4 O<|qV (SH (v:=ptr k 0) O O)<|qV (SH (v:=I 0) O O)<|Rw O<|QV O<|RI O<|Qq O<|Qj ziV O (z6e (jS.ext aF) hg) ?_
 rintro _ w2⟨rfl,rfl⟩
 refine qV (Tf O)<|R0 O<|Ri O<|qN O<|PX O O (YI (cs:=[_]) (zs:=[Value.int .u64 0]) U34 Uw O y00 O O O ψ) ?_
 rintro _ w3⟨C,rfl,⟨LL,N,yu⟩,Ee⟩
 have z3:=N.size
 have lk:=qu.lt
 have BM:PkM w3 k p (g.take 0) [] (RP p g [] 0) F z9J wp (Rb (g.take 0)):=⟨N.PO qu,y0b,hW.ext N,LK,O,(λl G=>by simp at G),λj l e h1=>by simp at h1⟩
 refine Qe O<|QV O<|SS U23 O<|Q4 O<|PR<|QA.qb (e:=[(4,_),(5,_),(6,_),(7,_),(8,_),(9,_),(29,_),(30,_),(31,_)]) ?_
 refine PT<|SN (α:=Nat×List (Nat×Nat)×Value) (0,[],.slice (some ⟨C,0,none⟩) 1 1) (λy=>[(7,ptr k 0),(9,y.2.2),(29,.slice ga g.length gc),(30,I (g.length:Int)),(31,I (y.1:Int))]) (λy w'=>EnI w p g k wp y.1 y.2.1 y.2.2 w'/\y.1<=g.length) (λy=>g.length-y.1) ?hI ?hround
 case hI=>exact⟨⟨⟨F,z9J,BM,λj d=>by have:=pa j d;omega,λj d e=>by have q:C=j:=SJ e;have:=hW.lt d;omega⟩,aF.trans N,ω,Ee,λb A=>by have q:C=b:=SJ A;omega,λe=>by have q:C=k:=SJ e;omega,λj e h=>by simp at h,y03 _⟩,y03 _⟩
 case hround =>
  rintro⟨i,E,v⟩ w4 ⟨hI,hi⟩ ih;dsimp only at hI hi;obtain⟨F,R,W,L,II⟩:=hI.pk;have tY:=hI.bd;have aO:=z4l p g E i;have m:=W.el;rw[y0d,y0B hi] at m;obtain⟨va,vc,rfl,-⟩:=hI.sl.rd.shape
  try dsimp only
  refine qN O<|RT O<|PR<|It<|Qa O (λV=>?_)<|λV=>?_
  ·have dB:i<g.length:=ω
   obtain⟨l,G⟩:∃l,g[i]? =some l:=⟨_,y07 dB⟩;have i7:=y0i G;have fL:=hg.len i7;have P:=hg.ok l i7;obtain⟨vs,Ef,lB⟩:=jS.ex;obtain⟨a,c,q,e2,J⟩:=lB i l G;have fK:=Ef.ext hI.ext;have e3:=J.ext hI.ext
   obtain⟨gb,go,a1,e4⟩:∃b o B,Value.slice ga g.length gc= .slice (some ⟨b,o,none⟩) g.length B:=by
    rcases fK.2 with⟨c,M,V⟩|⟨b,off,B,M,-⟩
    ·omega
    ·exact⟨b,off,B,M⟩
   cases e4;have f:(g.take i).length=i:=by rw[y0d];omega
   have ui:=Ve hg i;refine PS<|RU<|qN O<|qV (Rk U23 VB O O ω)<|qV (QH QG O O (Rg fK q)) ?_
   have nX:∀r,r<=p.Qt->(RP p g E i).length+(Qr (SM p.list (g.take i).length l (RV (g.take i) (g.take i).length r) r)).length<=134217728:=λr hr=>by
    have K:QR (RV (g.take i) (g.take i).length r)/\(RV (g.take i) (g.take i).length r).length<=60:=by
     rcases Yv (g.take i) (g.take i).length r with e| e
     ·rw[e];exact⟨⟨y1p,λy h=>(by cases h)⟩,y03 _⟩
     ·exact⟨hg.ok _ (y18 e),by have:=hg.len (y18 e);omega⟩
    have H:=z0y Y.1 (x:=(g.take i).length) ω P K.1 (show r<=p.list.Qt from hr) ω K.2;omega
   have rK:=hI.sl;have xY:∀b,(Value.slice va (XF p g E i).length vc).ownBlock=some b->b<w4.heap.size:=λb A=>rK.lt A;refine Qe O (It (RK O (Qj ziR O (zax Y W (hI.ext.PO hG) (hI.ext.PO hU) ω P e2 e3 ω (λb V A=>by have h1:=J.ltz ψ V A;have:=hI.nk;exact⟨λe=>by have:=L b e;omega,ω⟩) nX) ?_)));rintro _ s⟨r,least,D,t,R',rfl,Z,U,z,wQ⟩;have a2:=W.PO.lt;have z5:=z.size;have aS:Ext w s:=hI.ext.An z (λj d=>by rcases d with e|e;exact L j e;(have:=hI.nk;omega));have LM:(E++[(r,D)]).length=i+1:=by rw[y01,m];rfl
   have kE:r<=i:=by
    rcases Z with e|⟨-,-,H,-⟩
    ·have:r=0:=(Prod.mk.inj e).1;omega
    ·rw[f] at H;exact H
   have uj:(E++[(r,D)])[i]? =some (r,D):=by rw[y0X ω,m,y1w];rfl
   have qv:Z7 p g (E++[(r,D)]) i=Qr (SM p.list (g.take i).length l (RV (g.take i) (g.take i).length r) r):=by
    unfold Z7;rw[uj,G,f,z7K kE];rfl
   have fO:RP p g (E++[(r,D)]) (i+1)=RP p g E i++Qr (SM p.list (g.take i).length l (RV (g.take i) (g.take i).length r) r):=by
    rw[Ug,z1S p g E _ i ω,qv]
   have Eg:(RP p g (E++[(r,D)]) (i+1)).length<=(i+1)*44800:=by
    have K:QR (RV (g.take i) (g.take i).length r)/\(RV (g.take i) (g.take i).length r).length<=60:=by
     rcases Yv (g.take i) (g.take i).length r with e| e
     ·rw[e];exact⟨⟨y1p,λy h=>(by cases h)⟩,y03 _⟩
     ·exact⟨hg.ok _ (y18 e),by have:=hg.len (y18 e);omega⟩
    have jl:r<=p.list.Qt:=by
     rcases Z with e|⟨-,H,-⟩
     ·have:r=0:=(Prod.mk.inj e).1;omega
     ·exact H
    have H:=z0y Y.1 (x:=(g.take i).length) ω P K.1 jl ω K.2;rw[fO,y01];omega
   rw[<-fO,<-R4 G,<-Zj,<-R4 G] at U;have gj:(RP p g (E++[(r,D)]) (i+1)).length<=9223372036854775:=ω
   refine Q4 O<|Tr O<|qV (SH (v:=I 0) O O)<|Tq O<|Tq O<|RZ O<|RI O<|Ri O<|PY O<|Qq O<|Qj zjE O (z7c U gj) ?_;rintro _ w6⟨rfl,aR⟩;refine qV (Rz O U3 SK ω) (PX O O (YI (cs:=[_]) (zs:=[Value.int .u64 0]) U34 Uw O y00 O O O ψ) ?_);rintro _ w7⟨a0,rfl,⟨LN,cj,bM⟩,Eh⟩;have Q:=aR.trans cj;have a3:=Q.size;have nW:∀j,t j->j<s.heap.size:=λj d=>U.wr.lt d;have Ir:=rK.kp z (λb A e=>by rcases e with e|e;exact II b e A;exact hI.vk (e▸A));have BN:=Ir.ext Q
   have yv:∀j,t j->(Value.slice va (XF p g E i).length vc).ownBlock≠some j:=λj d e=>by
    rcases wQ j d with q|q
    ·exact II j q e
    ·have:=xY j e;omega
   refine PX O O (pap U34 Uw O ψ O O BN Eh.rd (by intro c M;simp at M;subst M;rfl) ω (by simp only[maxLen];omega)) ?_;rintro v8 w8⟨eL,aQ,lz,-⟩;have po:=(U.ext Q).kpT (T:=39) ψ BN aQ hI.vk yv;have X:∀b,v8.ownBlock=some b->(Value.slice va (XF p g E i).length vc).ownBlock=some b\/s.heap.size<=b:=λb A=>(lz b A).imp id (λe=>ω);refine Qe O<|PN<|PY O<|Ra O<|Q4 O<|PR ((ih (i+1,E++[(r,D)],v8) _ ⟨⟨⟨t,R',po,λj d=>?_,λj d e=>?_⟩,(aS.trans Q).An aQ (λj d=>hI.fr j d),hI.nk,?_,λb A=>?_,λe=>?_,λj e d=>?_,Eg⟩,dB⟩ (by dsimp only;omega)).qb)
   ·rcases wQ j d with e| e
    ·exact L j e
    ·have:=hI.ext.size;omega
   ·rcases X j e with q|q
    ·exact yv j d q
    ·have:=nW j d;omega
   ·rw[zcb,zes p g E _ i ω,y01,y0f];exact eL
   ·rcases X b A with q|q
    ·exact hI.fr b q
    ·have:=aS.size;omega
   ·rcases X k e with q|q
    ·exact hI.vk q
    ·omega
   ·rcases y0a j i with sh|sh
    ·rw[y0K ω] at d;exact(hI.ent j e d).mono (λ_ _ h=>h) (λj' l' h=>by rw[y0K (y0l.1 h).1];exact h)
    ·have DU:=(y0l.1 d).1;rw[LM] at DU;have ej:j=i:=ω
     subst ej;rw[uj] at d;cases d;rw[G];rw[f] at Z
     exact Z.mono (λj' l' h=>by
      have:=(y0l.1 h).1;rw[f] at this
      rwa [getD_take this] at h) (λj' l' h=>by rw[y0K (y0l.1 h).1];exact h)
  ·have dp:i=g.length:=ω
   subst dp;refine Q7 O<|Qz O<|Qj ziJ O (z7u W) ?_;rintro _ s⟨rfl,rfl⟩;refine Q4 O<|Tr O<|Tq O<|Sb O<|Qq O<|Q4 O<|Tq O<|Rw O<|PQ func91 O ?_;have ia:=hI.sl;rw[aO] at ia;exact⟨_,O,E,_,O,m,⟨hI.ent⟩,ω,by rw[aO];exact ia,hI.fr,hI.ext⟩
structure Fm where
 n:Nat
 u:Nat
 width:Nat
 bits:Nat
def fmC (f:Fm):List Value:=[I (f.n:Int),Qi f.u,I (f.width:Int),I (f.bits:Int)]
abbrev fmV (f:Fm):Value:= .agg (fmC f).toArray
def Zn (n u:Nat):Nat:=if u / n=0 then 0 else R6 (u / n)-1
def Vf (n u:Nat):Fm:=⟨n,u,Zn n u,(u-1) / 2^Zn n u+n⟩
def Fm.high (f:Fm):Nat:=12+(f.n*f.width+7) / 8
def Fm.Wa (f:Fm):Nat:=f.high+(f.bits+7) / 8
def Fm.size (f:Fm):Nat:=f.Wa+4*((f.n+63) / 64)
def z0A {n u:Nat}(h:u<=1000000000):Zn n u<=30:=by
 unfold Zn
 split
 ·omega
 ·have d:u / n<=u:=y0P _ _;have e:R6 (u / n)<=30:=Sm ω;omega
theorem z32 {n u:Nat}(A:1<=n)(C:1<=u):(u-1) / 2^Zn n u<2*n:=by
 have q:0<2^Zn n u:=y0y _
 rw[y2a q]
 unfold Zn
 split
 ·rename_i h
  have:u<n:=by
   rcases y0a u n with l|l
   ·exact l
   ·have:=Nat.div_pos l ω;omega
  simp;omega
 ·rename_i h
  have d:u / n<2^R6 (u / n):=Y4;have x:R6 (u / n)≠0:=λe=>by rw[e,Nat.pow_zero] at d;exact h (Nat.lt_one_iff.1 d)
  obtain⟨k,v⟩:∃k,R6 (u / n)=k+1:=⟨R6 (u / n)-1,ω⟩;rw[v] at d⊢;rw[y1h]
  have r:u<n*2^(k+1):=by
   have:=(y2a (show 0<n by omega)).1 d
   rwa [y0E] at this
  rw[y1J] at r;have e:n*(2^k*2)=2*n*2^k:=by rw[y0E (2^k) 2,<-y1W,y0E n 2]
  omega
def zaY {n u:Nat}(d:1<=n)(e:1<=u):(Vf n u).bits<=3*n:=by
 have:=z32 d e
 show(u-1) / 2^Zn n u+n<=_
 omega
theorem Z2 (n u:Nat)(c:1<=n)(B:n<=1000)(g:1<=u)(j:u<=1000000000)(w:World):Qx prog 134 [I (n:Int),Qi u] w λv w'=>v=fmV (Vf n u)/\Ext w w':=by
 have P:=z0A (n:=n) j
 have a:=z32 c g
 have f:u / n<=u:=y0P _ _
 obtain⟨q,A⟩:∃q,u / n=q:=⟨_,O⟩
 have G:Zn n u=if q=0 then 0 else R6 q-1:=by rw[Zn,A]
 rw[A] at f
 have t:R6 q<=30:=Sm ω
 refine py (e:=[(0,_),(1,_)]) func134 O ntmps134 O O<|qN O<|PX O O (SE (cs:=[_,_,_,_]) Ux O) ?_
 rintro _ w1⟨b4,rfl,y,K,J⟩
 refine qM O<|Qq O<|qV (To (cs:=[_,_,_,_]) Ux O zhB O O)<|PX O O (SE (cs:=[_,_,_,_]) Ux O) ?_
 rintro _ w2⟨b5,rfl,z,l,H⟩
 have R:=K.size
 have T:=l.size
 have E:=J.lt
 have F:=H.lt
 refine Qc O (QX (news:=[I (n:Int),Qi u,I 0,I 0]) Ux O O O O H ξ) ?_
 rintro D⟨h,r⟩
 replace h:Q8 D b5 [I (n:Int),Qi u,I 0,I 0] 236:=h
 have Q:Ext w D:=(K.trans l).An r (λi e=>ω)
 have U:=r.PO (l.PO J) ω
 have X:=r.size
 refine PR<|QV O<|Ss O<|QW<|Ri O<|It<|RK O<|qV (Rz O U3 SK ω)<|qV (zjJ (m:=u) (n:=n) O O O (by show u<2^64;omega) ω) ?_
 rw[A]
 refine RZ O<|RR O<|PR<|QT (λS w'=>S=[(0,I (n:Int)),(1,Qi u),(4,ptr b4 0),(5,ptr b5 0)]/\Ext w w'/\Q8 w' b5 [I (n:Int),Qi u,I (Zn n u:Int),I 0] 236/\Q8 w' b4 [I 0,Qi 0,I 0,I 0] 236) ?bF<|λbF=>?du
 case bF=>
  rintro S V⟨rfl,W,d,Z⟩;refine Qz O (qV (XM (m:=u) (n:=1) O O O (by show u<2^64;omega) ω) ?_);refine Qf UD O<|qV (Q0 U3 O O d O)<|qV (Vl (Zn n u) (2^Zn n u) O O (by show Zn n u<=64;omega) O) ?_
  generalize s:(u-1) / 2^Zn n u=qb at a
  refine qV (QU O SK U3 ω) (Q4 O (Ra O (Qf z06 O (Qc O (S0 R8 O O O d ξ) ?_))));rintro o⟨C,M⟩;replace C:Q8 o b5 [I (n:Int),Qi u,I (Zn n u:Int),I ((qb+n:Nat):Int)] 236:=C;refine qM O (qV (QB z00 O Ux O (Q8.cells (n:=4) C (news:=[_,_,_,_]) O) O) (Qc O (QX (news:=[I (n:Int),Qi u,I (Zn n u:Int),I ((qb+n:Nat):Int)]) Ux O O O O (M.PO Z ω) ξ) ?_));rintro p⟨x,Y⟩;replace x:Q8 p b4 [I (n:Int),Qi u,I (Zn n u:Int),I ((qb+n:Nat):Int)] 236:=x;refine PR (Qy func134 (.cell z00 O Ux O (Q8.cells (n:=4) x (news:=[_,_,_,_]) O) O .nil) (⟨_,O,?_,(W.An M (λi e=>ω)).An Y (λi e=>ω)⟩));unfold fmV fmC Vf;rw[s]
  rfl
 case du=>
  refine Qa O (λb=>?_)<|λb=>?_
  ·refine Sv O (Qj z3y O (VE q ω _) ?_);rintro _ D⟨rfl,rfl⟩;have L:R6 q≠0:=λe=>by have:=Y4 (v:=q);rw[e] at this;omega
   refine SA O ?_;rw[show(R6 q:Int)-1=(Zn n u:Int) by rw[G,if_neg ω];omega];refine Qf UD O (Qc O (S0 R8 O O O h ξ) ?_);rintro V⟨d,N⟩;replace d:Q8 V b5 [I (n:Int),Qi u,I (Zn n u:Int),I 0] 236:=d;refine PR ?_;exact(bF _ _ ⟨O,Q.An N (λi e=>ω),d,N.PO U ω⟩).qb
  ·have k:Zn n u=0:=by rw[G,if_pos ω]
   refine PS ?_;exact(bF _ _ ⟨O,Q,by rw[k];exact h,U⟩).qb
def Fm.small (f:Fm):Prop:=f.n<=100000/\f.width<=64/\f.bits<=1000000
theorem z5i (f:Fm)(x:f.small)(w:World):Qx prog 227 [fmV f] w λv w'=>v=I (f.high:Int)/\Ext w w':=by
 obtain⟨q,r,C⟩:=x
 have D:f.n*f.width<=100000*64:=y15 q r
 refine py (e:=[(0,_)]) func227 O ntmps227 O O<|qN O<|PX O O (Sy O (cs:=fmC f) O) ?_
 rintro _ w1⟨b1,rfl,A,l,d⟩
 replace d:Q8 w1 b1 [I (f.n:Int),Qi f.u,I (f.width:Int),I (f.bits:Int)] 236:=d
 refine Sb O<|Qf z0e O<|qV (Q0 U3 O O d O)<|Qf UD O<|qV (Q0 U3 O O d O) ?_
 have h:((f.n*f.width:Nat):Int)=(f.n:Int)*(f.width:Int):=y1y _ _
 refine qV (WB O O (by rw[<-h];omega)) ?_
 rw[<-h]
 refine Ra O<|qV (Yx O O ω)<|Ra O<|Qe O<|PQ func227 O (⟨_,O,?_,l⟩)
 show I (12+(((f.n*f.width:Nat):Int)+7) / 8)=I ((12+(f.n*f.width+7) / 8:Nat):Int)
 congr 1
def Fm.Yq {f:Fm}(h:f.small):f.high<=10000000:=by
 obtain⟨d,e,l⟩:=h
 have q:f.n*f.width<=100000*64:=y15 d e
 unfold Fm.high
 omega
theorem z6g (f:Fm)(q:f.small)(w:World):Qx prog 205 [fmV f] w λv w'=>v=I (f.Wa:Int)/\Ext w w':=by
 have G:=Fm.Yq q
 obtain⟨A,C,D⟩:=id q
 refine py (e:=[(0,_)]) func205 O ntmps205 O O<|qN O<|PX O O (Sy O (cs:=fmC f) O) ?_
 rintro _ w1⟨b1,rfl,x,r,l⟩
 replace l:Q8 w1 b1 [I (f.n:Int),Qi f.u,I (f.width:Int),I (f.bits:Int)] 236:=l
 have hg:=Ext.Qm w1
 refine Qe O<|It<|Sq (λw'=>Ext w1 w') O<|qT 0 O (λ_ h=>QB z00 O Ux O (Q8.cells (n:=4) (h.PO l) (news:=[_,_,_,_]) O) O) hg<|PV 2 O (QE z06 O) hg<|qT 3 O (λ_ h=>Q0 U3 O O (h.PO l) O) hg<|PV 4 O (W7 O O ω) hg<|PV 5 O (Yx O O ω) hg<|TQ 1 O zfn O (z5i f q _) ?_
 rintro _ w2⟨rfl,d⟩
 refine⟨hg.trans d,?_⟩
 refine PV 6 O (W7 O O ω) (hg.trans d)<|PV 7 O (SG O) (hg.trans d)<|qE<|PQ func205 O (⟨_,O,?_,(r.trans hg).trans d⟩)
 show I ((f.high:Int)+((f.bits:Int)+7) / 8)=I ((f.high+(f.bits+7) / 8:Nat):Int)
 congr 1
theorem z3H (f:Fm)(q:f.small)(w:World):Qx prog 176 [fmV f] w λv w'=>v=I (f.size:Int)/\Ext w w':=by
 have H:=Fm.Yq q
 obtain⟨A,C,D⟩:=id q
 have G:f.Wa<=20000000:=by unfold Fm.Wa;omega
 refine py (e:=[(0,_)]) func176 O ntmps176 O O<|qN O<|PX O O (Sy O (cs:=fmC f) O) ?_
 rintro _ w1⟨b1,rfl,x,r,l⟩
 replace l:Q8 w1 b1 [I (f.n:Int),Qi f.u,I (f.width:Int),I (f.bits:Int)] 236:=l
 have hg:=Ext.Qm w1
 refine Qe O<|It<|Sq (λw'=>Ext w1 w') O<|qT 0 O (λ_ h=>QB z00 O Ux O (Q8.cells (n:=4) (h.PO l) (news:=[_,_,_,_]) O) O) hg<|PV 2 O (QE z0e O) hg<|qT 3 O (λ_ h=>Q0 U3 O O (h.PO l) O) hg<|PV 4 O (W7 O O ω) hg<|PV 5 O (YS O O ω) hg ?_
 rw[show(f.n:Int)+64-1=((f.n+63:Nat):Int) by omega]
 refine PV 6 O (Yx O O ω) hg<|PV 7 O (WB O O ω) hg<|TQ 1 O zfB O (z6g f q _) ?_
 rintro _ w2⟨rfl,d⟩
 refine⟨hg.trans d,?_⟩
 refine PV 8 O (W7 O O ω) (hg.trans d)<|PV 9 O (SG O) (hg.trans d)<|qE<|PQ func176 O (⟨_,O,?_,(r.trans hg).trans d⟩)
 show I ((f.Wa:Int)+4*(((f.n+63:Nat):Int) / 64))=I ((f.Wa+4*((f.n+63) / 64):Nat):Int)
 congr 1
def z4v {n u:Nat}(d:1<=n)(r:n<=1000)(e:1<=u)(h:u<=1000000000):(Vf n u).small:=by
 have l:=zaY d e
 have q:=z0A (n:=n) h
 refine⟨?_,?_,ω⟩
 ·show n<=_;omega
 ·show Zn n u<=_;omega
theorem z8c (n last:Nat)(d:1<=n)(h:n<=1000)(l:last+1<=1000000000)(w:World):Qx prog 174 [I (n:Int),Qi last] w λv w'=>v= .tuple #[I ((Vf n (last+1)).size:Int),I 0]/\Ext w w':=by
 refine py (e:=[(0,_),(1,_)]) func174 O ntmps174 O O<|qN O<|Rw O<|RU<|Qz O<|RT O<|Qq O<|RR O<|QW<|R0 O<|Qq O<|RR O<|QW<|R0 O ?_
 refine Qq O<|Ss O<|QW<|Q4 O<|Sc<|R0 O<|R0 O<|Qe O<|PW O<|Qz O<|Ss O<|QW<|Qe O<|QA.qb (e:=[(0,_),(1,_),(4,_),(5,_),(25,_)]) ?_
 refine Us O<|PN<|RK O<|qV (Wv O O) ?_
 rw[y0e (show last+1<18446744073709551616 by omega)]
 refine Qj zcO O (Z2 n (last+1) d h ω l _) ?_
 rintro _ w1⟨rfl,q⟩
 refine Qj zgd O (z3H _ (z4v d h ω l) _) ?_
 rintro _ w2⟨rfl,r⟩
 refine Rw O<|PQ func174 O ?_
 exact⟨_,O,O,q.trans r⟩
theorem zbA {a:Option Addr}{l:List Nat}(V:l.length<=1000)(K:Nof l)(J:∀v∈l,v<=1000000000)(x:Rd w (.slice a l.length c) 1 l.length (l.map Qi)):Qx prog 133 [.slice a l.length c] w λv w'=>v= .bool true/\w'=w:=by
 refine py (e:=[(0,_)]) func133 O ntmps133 O O<|RY O<|QV O<|SS U34 O<|RR O<|QW<|Ri O<|RY O<|QV O<|SS U34 O<|Q4 O<|PR<|PT<|SN (α:=Nat×Nat) (0,0) (λy=>[(3,Qi y.2),(9,.slice a l.length c),(10,I (l.length:Int)),(11,I (y.1:Int))]) (λy w'=>w'=w/\y.1<=l.length/\y.2<=1000000000/\∀v,l[y.1]? =some v->y.2<=v) (λy=>l.length-y.1) ?hI ?hround
 case hI=>exact⟨O,y03 _,y03 _,λv _=>y03 _⟩
 case hround=>
  rintro⟨i,z⟩ W ⟨rfl,hi,N,n⟩ Q;dsimp only at hi N n
  try dsimp only
  refine qN O<|RT O<|PR<|It<|Qa O (λr=>?_)<|λr=>?_
  ·have q:i<l.length:=ω
   obtain⟨v,d⟩:∃v,l[i]? =some v:=⟨_,y07 q⟩;have S:=n v d;have C:=J v (y0i d)
   obtain⟨U,go,H,G⟩:∃b o h,Value.slice a l.length c= .slice (some ⟨b,o,none⟩) l.length h:=by
    rcases x.2 with⟨c,A,r⟩|⟨b,off,h,A,-⟩
    ·omega
    ·exact⟨b,off,h,A⟩
   cases G;refine PS (RU (qN O (qV (Rk U34 Uw O O ω) (qV (QH SK O O (Rg x (show(l.map Qi)[i]? =some (Qi v) by rw[y0m,d];rfl))) ?_))));refine Qe O<|It<|RK O<|RT O<|QW<|Qq O<|RR O<|QW<|R0 O<|Ri O<|Sv O<|Qe O<|PN<|PY O ?_;refine Ra O (Q4 O (PR ((Q (i+1,v) _ ⟨O,q,C,λu M=>?_⟩ (by dsimp only;omega)).qb)));obtain⟨D,a2⟩:=y0l.1 d;obtain⟨b1,b2⟩:=y0l.1 M;have:=y1C.1 K i (i+1) D b1 ω
   rwa [a2,b2] at this
  ·refine Q7 O<|RY O<|PQ func133 O ?_;exact⟨_,O,O,O⟩
def Tx (k:Nat)(l:List Nat):List Bool:=l.flatMap λv=>Qu k (v%2^k)
def Tl (k:Nat):List Nat->List Bool
 |[]=>[]
 |v::_=>Qu 32 (v / 2^k)
theorem zbl (k:Nat)(l:List Nat)(v:Nat):Tx k (l++[v])=Tx k l++Qu k (v%2^k):=by simp[Tx]
theorem VR (k:Nat):∀l:List Nat,(Tx k l).length=l.length*k
 |[]=>by simp[Tx]
 | v :: l => by
   show(Qu k (v%2^k)++Tx k l).length=_;rw[y01,VR k l,bitsN_length,y02,y0q];omega
theorem z6D (k:Nat):∀(l:List Nat)(len i v:Nat),Nof (l++[v])->(∀x,(l++[v]).head? =some x->len<=x / 2^k+i)->
  len+(hiB k len i l).length<=v / 2^k+(i+l.length)/\hiB k len i (l++[v])=hiB k len i l++(List.replicate (v / 2^k+(i+l.length)-(len+(hiB k len i l).length)) false++[true])
 | [], len, i, v, _, hl => by
   have:=hl v O;refine⟨by simp[hiB];omega,?_⟩
   simp[hiB]
 | x :: r, len, i, v, hn, hl => by
   have q:=hl x O;rw[y0s] at hn;obtain⟨n1,n2⟩:=y1l.1 hn
   obtain⟨n,e⟩:=z6D k r (x / 2^k+i+1) (i+1) v n2 (λy h=>by
    have d:y∈r++[v]:=List.mem_of_mem_head? h;have:=y1N (c:=2^k) (n1 y d)
    omega)
   rw[y0s,hiB,hiB,e,y01,y0b,y02,y02];refine⟨ω,?_⟩;rw[y06,y0s,show v / 2^k+(i+1+r.length)-(x / 2^k+i+1+(hiB k (x / 2^k+i+1) (i+1) r).length)=v / 2^k+(i+(r.length+1))-(len+(x / 2^k+i-len+((hiB k (x / 2^k+i+1) (i+1) r).length+1))) by omega]
def z7t (k:Nat)(l:List Nat)(v:Nat):Tl k (l++[v])=Tl k l++if l.length=0 then Qu 32 (v / 2^k) else []:=by
 cases l with
 |nil=>simp[Tl]
 |cons x l=>simp[Tl]
def ZV (l:List Nat)(f:Fm):PU:=Qw (Qu 32 f.n++Qu 64 f.u)++Qw (Tx f.width l)++Qw (hiB f.width 0 0 l)++Qw (Tl f.width l)
theorem zcK {b:Nat}:∀{l:List Nat},(∀x∈l,x<=b)->l.sum<=l.length*b
 |[],_=>ξ
 | x :: l, h => by
   have e:=h x y0r;have n:=zcK (λy d=>h y (y0u x d));rw[y0M,y02,y0q];omega
def zav (k:Nat)(l:List Nat):(Tl k l).length<=32:=by
 cases l with
 |nil=>simp[Tl]
 |cons v l=>simp[Tl]
theorem z2i (k:Nat){l:List Nat}(d:Nof l)(e:l[l.length-1]? =some z):(hiB k 0 0 l).length=z / 2^k+l.length:=by
 have:=z9k k l 0 0 d (λx h=>y03 _) z (by rw[List.getLast?_eq_getElem?];exact e)
 omega
/-! ### Three writers side by side -/
def zcI (A B:Nat->Prop):Prop:=∀k,A k->¬B k
structure EfW (w0 w:World)(b5:Nat)(f:Fm)(p1 p2 p3:Nat)(l1 l2 l3:List Bool):Prop where
 ex:∃F1 F2 F3:Nat->Prop,ZT w p1 l1 F1/\ZT w p2 l2 F2/\ZT w p3 l3 F3/\zcI F1 F2/\zcI F2 F3/\zcI F3 F1/\∀k,F1 k\/F2 k\/F3 k->w0.heap.size<=k/\k≠b5
 ext:Ext w0 w
 PO:Q8 w b5 (fmC f) 236
section
variable {w0:World}{b5:Nat}{f:Fm}{p1 p2 p3:Nat}{l1 l2 l3:List Bool}
theorem EfW.rot (h:EfW w0 w b5 f p1 p2 p3 l1 l2 l3):EfW w0 w b5 f p2 p3 p1 l2 l3 l1:=by
 obtain⟨⟨d,l,n,q,r,u,v,x,A,C⟩,H,D⟩:=h
 exact⟨⟨l,n,d,r,u,q,x,A,v,λk G=>C k (by rcases G with e|e|e;exact .inr (.inl e);exact .inr (.inr e);exact .inl e)⟩,H,D⟩
theorem EfW.on (h:EfW w0 w b5 f p1 p2 p3 l1 l2 l3)(d:Ext w w2):EfW w0 w2 b5 f p1 p2 p3 l1 l2 l3:=by
 obtain⟨⟨e,l,n,q,r,u,v,x,A,C⟩,G,D⟩:=h
 exact⟨⟨e,l,n,q.ext d,r.ext d,u.ext d,v,x,A,C⟩,G.trans d,d.PO D⟩
theorem EfW.zeI (h:EfW w0 w b5 f p1 p2 p3 l1 l2 l3):∃q,ZT w p1 l1 q/\¬q b5/\(∀w2 l,WrR p1 q w w2 l->EfW w0 w2 b5 f p1 p2 p3 l l2 l3):=by
 obtain⟨⟨q,J,K,N,A,C,D,Q,G,r⟩,I,H⟩:=h
 refine⟨q,N,λe=>(r b5 (.inl e)).2 O,λw2 l S=>?_⟩
 obtain⟨v,M,u,x⟩:=S
 have z:=I.size
 have U:=H.lt
 refine⟨⟨v,J,K,M,A.kp u (λi hi e=>D i e hi),C.kp u (λi hi e=>G i hi e),λk d e=>?_,Q,λk d e=>?_,λk d=>?_⟩,I.An u (λk d=>(r k (.inl d)).1),u.PO H (λe=>(r b5 (.inl e)).2 O)⟩
 ·rcases x k d with n|n
  ·exact D k n e
  ·have:=A.lt e;omega
 ·rcases x k e with n|n
  ·exact G k d n
  ·have:=C.lt d;omega
 ·rcases d with d|d
  ·rcases x k d with n|n
   ·exact r k (.inl n)
   ·exact⟨ω,ω⟩
  ·exact r k (.inr d)
def EfW.zeR (h:EfW w0 w b5 f p1 p2 p3 l1 l2 l3):∃d,ZT w p2 l2 d/\(∀w2 l,WrR p2 d w w2 l->EfW w0 w2 b5 f p1 p2 p3 l1 l l3):=by
 obtain⟨d,e,-,n⟩:=h.rot.zeI
 exact⟨d,e,λw2 l q=>(n w2 l q).rot.rot⟩
def EfW.zkb (h:EfW w0 w b5 f p1 p2 p3 l1 l2 l3):∃d,ZT w p3 l3 d/\(∀w2 l,WrR p3 d w w2 l->EfW w0 w2 b5 f p1 p2 p3 l1 l2 l):=by
 obtain⟨d,e,-,n⟩:=h.rot.rot.zeI
 exact⟨d,e,λw2 l q=>(n w2 l q).rot⟩
end
theorem z6I {a:Option Addr}{l:List Nat}(cf:1<=l.length)(hn:l.length<=64)(T:Nof l)(hm:∀v∈l,v<=999999999)(E:Rd w (.slice a l.length c) 1 l.length (l.map Qi))(Y:l[l.length-1]? =some z):
  Qx prog 94 [.slice a l.length c] w λv w'=>v= .tuple #[S (ZV l (Vf l.length (z+1))),I 0]/\Ext w w':=by
 have P5:=hm z (y0i Y)
 have IK:∀v∈l,v<=z:=λv D=>by
  obtain⟨j,W⟩:=y3l.1 D;obtain⟨a1,a2⟩:=y0l.1 W;obtain⟨b1,b2⟩:=y0l.1 Y;rcases y0a j (l.length-1) with h| h
  ·have:=y1C.1 T j (l.length-1) a1 b1 h
   rwa [a2,b2] at this
  ·have e:j=l.length-1:=ω
   subst e;rw[Y] at W;cases W;exact y04 _
 have wR:=z0A (n:=l.length) (u:=z+1) ω
 have X:=z32 (n:=l.length) (u:=z+1) cf ω
 rw[y1h] at X
 obtain⟨gb,go,a7,e4⟩:∃b o c',Value.slice a l.length c= .slice (some ⟨b,o,none⟩) l.length c':=by
  rcases E.2 with⟨c,hc,h0⟩|⟨b,off,c',hc,-⟩
  ·omega
  ·exact⟨b,off,c',hc⟩
 cases e4
 refine py (e:=[(0,_)]) func94 O ntmps94 O O<|qN O<|Rw O<|QV O<|Qj zkv O (zbA ω T (λv D=>by have:=hm v D;omega) E) ?_
 rintro _ w⟨rfl,rfl⟩
 refine qV (Tf O)<|Ri O<|RY O<|QV O<|SS U34 O<|RR O<|PR<|Qa O (λh0=>?_)<|λh0=>?_
 ·refine PY O<|Qq O<|SS U34 O<|SA O ?_;rw[show(l.length:Int)-1=((l.length-1:Nat):Int) by omega];refine qV (Rk U34 Uw O O ω) (qV (QH SK O O (Rg E (show(l.map Qi)[l.length-1]? =some (Qi z) by rw[y0m,Y];rfl))) ?_);refine qV (Wv O O) ?_;rw[y0e (show z+1<18446744073709551616 by omega)];refine RZ O (SS U34 O (Q4 O (Qj zcO O (Z2 l.length (z+1) cf ω ω ω _) ?_)));rintro _ w1⟨rfl,ad⟩
  generalize hf:Vf l.length (z+1)=f
  have LP:f.width=Zn l.length (z+1):=by rw[<-hf];rfl
  have qa:f.n=l.length:=by rw[<-hf];rfl
  have BP:f.u=z+1:=by rw[<-hf];rfl
  rw[<-LP] at wR X;refine PX O O (SE (cs:=[_,_,_,_]) Ux O) ?_;rintro _ w2⟨b5,rfl,gj,N,aG⟩;refine Qc O (QX (news:=fmC f) Ux O O O O aG ξ) ?_;rintro w3⟨P,ar⟩;replace P:Q8 w3 b5 (fmC f) 236:=P;have z1:=ad.size;have z2:=N.size;have a8:=P.lt;have aV:Ext w1 w3:=N.An ar (λi e=>ω);have z3:=aV.size;refine qM O<|Qj z2B O (W2 w3) ?_;rintro _ w4⟨p1,F1,rfl,Ek,aD,pa⟩;refine Qj z2B O (W2 w4) ?_;rintro _ w5⟨p2,F2,rfl,IL,g,IM⟩;refine Qj z2B O (W2 w5) ?_;rintro _ w6⟨p3,F3,rfl,mW,Z,qn⟩;have z4:=aD.size;have z5:=g.size
  have LQ:EfW w w6 b5 f p1 p2 p3 [] [] []:=⟨⟨F1,F2,F3,(Ek.ext g).ext Z,IL.ext Z,mW,λk r C=>by have:=Ek.lt r;have:=IM k C;omega,λk r C=>by have:=IL.lt r;have:=qn k C;omega,λk r C=>by have:=Ek.lt C;have:=qn k r;omega,λk hk=>by
   rcases hk with h|h| h
   ·have:=pa k h;omega
   ·have:=IM k h;omega
   ·have:=qn k h;omega⟩,(((ad.trans aV).trans aD).trans g).trans Z,Z.PO (g.PO (aD.PO P))⟩
  refine Tq O<|Rw O<|QA.qb (e:=[(0,_),(2,_),(3,_),(4,_),(5,_),(6,_),(7,_),(8,_)]) ?_;refine QV O<|SS U34 O<|Q4 O<|PR<|PT<|SN (α:=Nat) (0) (λi=>[(4,Qi (z+1)),(5,ptr b5 0),(6,ptr p1 0),(7,ptr p2 0),(8,ptr p3 0),(39,.slice (some ⟨gb,go,none⟩) l.length c),(40,I (l.length:Int)),(41,I (i:Int))]) (λi w'=>EfW w w' b5 f p1 p2 p3 (Tx f.width (l.take i)) (hiB f.width 0 0 (l.take i)) (Tl f.width (l.take i))/\i<=l.length) (λi=>l.length-i) ?hI ?hround
  case hI=>exact⟨LQ,y03 _⟩
  case hround =>
   rintro i U⟨H,hi⟩ ih
   try dsimp only
   refine qN O<|RT O<|PR<|It<|Qa O (λr=>?_)<|λr=>?_
   ·have dB:i<l.length:=ω
    obtain⟨v,D⟩:∃v,l[i]? =some v:=⟨_,y07 dB⟩;have Ej:=IK v (y0i D);have qw:v / 2^f.width<=z / 2^f.width:=y1N Ej;have qh:(l.take i).length=i:=by rw[y0d];omega
    obtain⟨t,p⟩:=z6D f.width (l.take i) 0 0 v (by rw[<-R4 D];exact T.sublist (y3e _ _)) (λx L=>y03 _);rw[<-R4 D,y0k,y0k,qh] at p;rw[y0k,y0k,qh] at t;have LR:(l.take i).length*f.width<=64*30:=y15 ω ω;have hg:=Ext.Qm U;obtain⟨a0,El,yx,gW⟩:=(H.on hg).zeI;have yz:Q8 U b5 [I (f.n:Int),Qi f.u,I (f.width:Int),I (f.bits:Int)] 236:=H.PO;have tI:=y0y f.width;have P6:2^f.width<=2^30:=y0t ψ wR;refine PS (RU (Qz O (qV (Rk U34 Uw O O ω) (qV (QH SK O O (Rg (E.ext H.ext) (show(l.map Qi)[i]? =some (Qi v) by rw[y0m,D];rfl))) ?_))));refine Rw O (It (Sq (λw'=>Kp a0 U w') O (Ql 0 O O (hg.kp) (Ql 1 O O (hg.kp) (PV 2 O (QE UD O) (hg.kp) (qT 3 O (λ_ h=>Q0 U3 O O (h.PO yz yx) O) (hg.kp) (PV 7 O (QE UD O) (hg.kp) (qT 8 O (λ_ h=>Q0 U3 O O (h.PO yz yx) O) (hg.kp) (PV 4 O (Sz f.width (2^f.width) O O ω O) (hg.kp) ?_)))))))));rw[show 1*2^f.width%18446744073709551616=2^f.width by rw[y0O];exact y0e ω];refine PV 5 O (XM (m:=2^f.width) (n:=1) O O O (by show 2^f.width<2^64;omega) ω) (hg.kp) ?_;refine PV 6 O (VY O O ω ω) (hg.kp) ?_;rw[y13];refine TQ 9 O XK O (Tv El (v%2^f.width) f.width ω (y0Y _ tI) (by rw[VR];omega)) ?_;rintro _ w8⟨rfl,fX⟩;refine⟨hg.kp.trans fX.choose_spec.2.1,?_⟩;have si:=gW _ _ fX;rw[<-zbl,<-R4 D] at si;have ul:Q8 w8 b5 [I (f.n:Int),Qi f.u,I (f.width:Int),I (f.bits:Int)] 236:=si.PO;obtain⟨a3,qx,fT⟩:=si.zeR;refine qE (Qz O (Qf UD O (qV (Q0 U3 O O ul O) (qV (Vl f.width (2^f.width) O O (by show f.width<=64;omega) O) ?_))));have s:=z7t f.width (l.take i) v;rw[<-R4 D,qh] at s
    generalize v / 2^f.width=d at t p qw s
    generalize z / 2^f.width=zq at qw X
    refine qV (QU O SK U3 ω)<|Q4 O<|Ra O ?_;rw[show(d:Int)+(i:Int)=((d+i:Nat):Int) by omega];refine Qe O<|It<|RK O<|Qj z3z O (WG qx) ?_;rintro _ w8⟨rfl,rfl⟩;refine SA O ?_
    generalize Em:(hiB f.width 0 0 (l.take i)).length=A at t p
    rw[show((d+i:Nat):Int)-(A:Int)=((d+i-(A+0):Nat):Int) by omega];refine Qe O<|PT<|SN (α:=Nat) (0) (λy=>[(4,Qi (z+1)),(5,ptr b5 0),(6,ptr p1 0),(7,ptr p2 0),(8,ptr p3 0),(9,I (i:Int)),(11,I ((d+i:Nat):Int)),(12,I ((d+i-(A+y):Nat):Int)),(39,.slice (some ⟨gb,go,none⟩) l.length c),(40,I (l.length:Int)),(41,I (i:Int))]) (λy w'=>EfW w w' b5 f p1 p2 p3 (Tx f.width (l.take (i+1))) (hiB f.width 0 0 (l.take i)++List.replicate y false) (Tl f.width (l.take i))/\A+y<=d+i) (λy=>d+i-(A+y)) ?hI ?hround
    case hI=>exact⟨by simpa using si,t⟩
    case hround=>
     rintro y w9⟨um,hy⟩ J
     try dsimp only
     obtain⟨a3,qx,fT⟩:=um.zeR;refine QV O<|RR O<|PR<|Qa O (λC=>?_)<|λC=>?_
     ·obtain⟨m,kF,dr,lO,IN⟩:∃m,min (d+i-(A+y)) 64=m/\1<=m/\m<=64/\A+y+m<=d+i:=⟨_,O,ω,ω,ω⟩;refine PS<|RU<|PY O<|Qq O<|qV (ymi O O) ?_;rw[show min ((d+i-(A+y):Nat):Int) 64=(m:Int) by omega];refine Qj XK O (Tv qx 0 m lO (y0y _) (by rw[y01,y0b,Em];omega)) ?_;rintro _ G⟨rfl,o6⟩;have K:=fT _ _ o6;rw[X4,y06,y2P] at K;obtain⟨a5,yA,-⟩:=K.zeR;refine PR<|PN<|PY O<|Qq O<|Qj z3z O (WG yA) ?_;rintro _ G⟨rfl,rfl⟩;rw[show(hiB f.width 0 0 (l.take i)++List.replicate (y+m) false).length=A+(y+m) by rw[y01,y0b,Em]];refine SA O ?_;rw[show((d+i:Nat):Int)-((A+(y+m):Nat):Int)=((d+i-(A+(y+m)):Nat):Int) by omega];refine Qe O ?_;exact(J (y+m) _ ⟨K,ω⟩ ω).qb
     ·have LS:y=d+i-A:=ω
      subst LS;refine Q7 O (Qz O (Qj XK O (Tv qx 1 1 ψ ψ (by rw[y01,y0b,Em];omega)) ?_));rintro _ G⟨rfl,o6⟩;have K:=fT _ _ o6;rw[show Qu 1 1=[true] from rfl,y06,<-p] at K;refine qM O<|Q4 O<|qV (yre O O ω)<|Ss O<|PR<|Qa O (λB=>?_)<|λB=>?_
      ·have dw:i=0:=ω
       obtain⟨a6,En,qo⟩:=K.zkb;refine PY O (Qq O (qV (Rz O U3 SK ω) (Qj XK O (Tv En (d+i) 32 ψ (by show _<2^32;omega) (by rw[dw];show 0+32<=_;omega)) ?_)));rintro _ M⟨rfl,Eo⟩;have Q:=qo _ _ Eo;refine PR (PN (PY O (Ra O (Q4 O (PR ((ih (i+1) _ ⟨?_,dB⟩ ω).qb))))));rw[s,if_pos dw];rw[show d+i=d by omega] at Q;exact Q
      ·refine PS (PN (PY O (Ra O (Q4 O (PR ((ih (i+1) _ ⟨?_,dB⟩ ω).qb))))));rw[s,if_neg ω,y0o];exact K
   ·have dp:i=l.length:=ω
    subst dp;rw[y0L] at H;refine Q7 O<|qN O<|Qj z2B O (W2 U) ?_;rintro _ w8⟨p4,F4,rfl,mt,cE,IP⟩;have ul:Q8 w8 b5 [I (f.n:Int),Qi f.u,I (f.width:Int),I (f.bits:Int)] 236:=(H.on cE).PO;refine RZ O (Qf z0e O (qV (Q0 U3 O O ul O) (qV (Rz O U3 SK ω) (Qj XK O (Tv mt f.n 32 ψ (by show _<2^32;omega) ξ) ?_))));rintro _ w9⟨rfl,F5,BQ,aM,wQ⟩;have iO:Ext U w9:=cE.An aM IP;have a9:=iO.size;refine qM O (Qq O (Qj XK O (Tv BQ (z+1) 64 ψ (by show _<2^64;omega) ξ) ?_));rintro _ G⟨rfl,F6,lZ,aB,P7⟩
    have sj:Ext U G:=iO.An aB (λk hk=>by
     rcases wQ k hk with e| e
     ·exact IP k e
     ·have:=cE.size;omega)
    rw[y14,<-BP] at lZ;refine qM O (Qe O (It (RK O (Qq O (PX O O (YI (cs:=[_,_,_,_]) (zs:=[Value.pointer none,Value.pointer none,Value.pointer none,Value.pointer none]) zh9 z8N O y00 O O O ψ) ?_)))));rintro _ M⟨V,rfl,⟨IQ,aX,IR⟩,yB⟩;have Q:=H.on (sj.trans aX);obtain⟨tx,R⟩:∃tx:List PU,tx=[Qw (Qu 32 f.n++Qu 64 f.u),Qw (Tx f.width l),Qw (hiB f.width 0 0 l),Qw (Tl f.width l)]:=⟨_,O⟩
    have lA:∀j,(List.take j (List.map List.length tx)).sum<=4000:=λj=>by
     have r:∀x∈List.take j (List.map List.length tx),x<=1000:=λx L=>by
      have N:=y18 L;rw[R] at N;have fL:(Tx f.width l).length<=64*30:=by rw[VR];exact y15 hn ω
      have o4:=z2i f.width T Y;have io:=zav f.width l;simp only[y0j,y1D,QP,y01,bitsN_length] at N;simp only[y0h,y23,or_false] at N
      generalize z / 2^f.width=zq at X o4
      omega
     have C:=zcK r;have B:(List.take j (List.map List.length tx)).length<=4:=by rw[y0d,y0n,R];simp;omega
     omega
    have g8:∀(j:Nat)(x:PU),tx[j]? =some x->x.length<=4000:=λj x L=>by
     have r:=lA (j+1);rw[R4 (q:=x.length) (by rw[y0m,L];rfl),y1a] at r;simp at r;omega
    have hq:∀j,j<4->∃q bs F,([ptr p4 0,ptr p1 0,ptr p2 0,ptr p3 0]:List Value)[j]? =some (ptr q 0)/\tx[j]? =some (Qw bs)/\ZT M q bs F:=λj W=>by
     obtain⟨F1,r,-,-⟩:=Q.zeI;obtain⟨F2,C,-⟩:=Q.zeR;obtain⟨F3,B,-⟩:=Q.zkb;rw[R];have Ep:j=0\/j=1\/j=2\/j=3:=ω
     rcases Ep with e|e|e|e<;>subst e
     ·exact⟨p4,_,_,O,O,lZ.ext aX⟩
     ·exact⟨p1,_,_,O,O,r⟩
     ·exact⟨p2,_,_,O,O,C⟩
     ·exact⟨p3,_,_,O,O,B⟩
    refine SS zh9 O<|Q4 O<|PR<|QA.qb (e:=[(14,_),(100,_),(101,_),(102,_)]) ?_;refine PT<|SN (α:=Nat) (0) (λj=>[(14,S ((tx.take j).flatten)),(100,.slice (some ⟨V,0,none⟩) 4 4),(101,I 4),(102,I (j:Int))]) (λj w'=>w'=M/\j<=4) (λj=>4-j) ?hI ?hround
    case hI=>exact⟨O,y03 _⟩
    case hround=>
     rintro j a4⟨rfl,W⟩ J
     try dsimp only
     refine qN O<|RT O<|PR<|It<|Qa O (λC=>?_)<|λC=>?_
     ·obtain⟨q,bs,F,g1,g2,g3⟩:=hq j ω;have P8:=lA j;have P9:=g8 j _ g2;refine PS (RU (qN O (qV (Rk zh9 z8N O O ω) (qV (QH z3b O O (Rg yB.rd g1)) (RZ O (Qj z9B O (Y6 g3) ?_))))));rintro _ a4⟨rfl,rfl⟩;refine Q4 O (zex O (qV (SH (v:=I 0) O O) (Rw O (QV O (RI O (Ri O (PY O (Qq O (qV (Xt O O (by first|omega|(simp;done)|(simp;omega))) ?_)))))))));refine Qe O<|PN<|PY O<|Ra O<|Q4 O<|PR ?_;rw[show(tx.take j).flatten++Qw bs=(tx.take (j+1)).flatten by rw[R4 g2,List.flatten_append];simp];exact(J (j+1) _ ⟨O,ω⟩ ω).qb
     ·have Ep:j=4:=ω
      subst Ep;refine Q7 O<|Qz O<|Rw O<|PQ func94 O (⟨_,O,?_,(H.ext.trans sj).trans aX⟩);rw[R];simp[Rn,ZV]
 ·omega
structure PHd where
 n:Nat
 m:Nat
 p:RE
 bits:Nat
def hdC (h:PHd):List Value:=[I (h.n:Int),I (h.m:Int),I (h.p.Qt:Int),I (h.p.chain:Int),I (h.p.interval:Int),I (h.p.zeta:Int),I (h.p.most:Int),I (h.bits:Int)]
abbrev hdV (h:PHd):Value:= .agg (hdC h).toArray
structure PHd.RN (h:PHd):Prop where
 n1:1<=h.n
 n2:h.n<=65536
 m:h.m<=1048576
 bits:h.bits<=134217728
 p:h.p.RN
def hdL (h:PHd):List (Nat×Nat):=[(h.n,32),(h.m,32),(h.p.Qt,8),(h.p.chain,8),(h.p.interval,8),(h.p.zeta,8),(h.p.most,32),(h.bits,64)]
def SB (l:List (Nat×Nat)):List Bool:=l.flatMap λq=>Qu q.2 q.1
def z9D:PU:=[119,116,108,49]
def hdT (h:PHd):PU:=z9D++Qw (SB (hdL h))
theorem VU (h:PHd):(SB (hdL h)).length=192:=by
 simp[SB,hdL]
theorem Yk (h:PHd):(hdT h).length=28:=by
 unfold hdT
 rw[y01,QP,VU];rfl
theorem Zk (h:PHd)(v:h.RN)(w:World):Qx prog 129 [hdV h] w λu w'=>u=I 0/\Ext w w':=by
 obtain⟨A,C,D,g4,r⟩:=v
 refine py (e:=[(0,_)]) func129 O ntmps129 O O<|qN O<|PX O O (Sy O (cs:=hdC h) O) ?_
 rintro _ w1⟨b1,rfl,x,l,d⟩
 replace d:Q8 w1 b1 [I (h.n:Int),I (h.m:Int),I (h.p.Qt:Int),I (h.p.chain:Int),I (h.p.interval:Int),I (h.p.zeta:Int),I (h.p.most:Int),I (h.bits:Int)] 153:=d
 refine Qe O<|RU<|It<|qN O<|Qf Vs O<|qV (Q0 U3 O O d O)<|RT O<|QW<|Q4 O<|Qf Vs O<|qV (Q0 U3 O O d O)<|RR O<|QW<|R0 O ?_
 refine Qe O<|PW O<|qN O<|Qf z1u O<|qV (Q0 U3 O O d O)<|RT O<|QW<|Q4 O<|Qf z1u O<|qV (Q0 U3 O O d O)<|RR O<|QW<|R0 O<|Qe O ?_
 refine PW O<|qN O<|Qf Wn O<|qV (Q0 U3 O O d O)<|RT O<|QW<|Q4 O<|Qf Wn O<|qV (Q0 U3 O O d O)<|RR O<|QW<|R0 O<|Qe O<|QA.qb (e:=[(1,_),(2,_),(3,_)]) ?_
 refine PW O<|PY O<|Qf Vs O<|qV (Q0 U3 O O d O)<|Ss O<|QW<|Q4 O<|Sc<|Sc<|Sc<|R0 O<|Qe O<|Us O<|PN ?_
 refine qN O<|Qf ZG O<|qV (QB (news:=WC h.p) Z4 O SV O (d.cells (i:=2) (n:=5) O) O)<|Qj zfl O (z0U h.p r _) ?_
 rintro _ w2⟨rfl,q⟩
 refine Qe O<|PQ func129 O ?_
 exact⟨_,O,O,l.trans q⟩
theorem zaH (h:PHd)(a:h.RN)(w:World):Qx prog 93 [hdV h] w λu w'=>u= .tuple #[S (hdT h),I 0]/\Ext w w':=by
 obtain⟨g1,g2,g3,g4,g5⟩:=id a
 obtain⟨q1,q2,q3⟩:=id g5
 obtain⟨r1,r2,r3,r4⟩:=id q1
 have a0:h.p.Qt<=16:=r1
 have a1:h.p.interval<=64:=by
  have:h.p.interval=0\/2<=h.p.interval/\h.p.interval<=64:=r2;omega
 have a2:h.p.zeta<=16:=r4
 refine py (e:=[(0,_)]) func93 O ntmps93 O O<|qN O<|PX O O (Sy O (cs:=hdC h) O) ?_
 rintro _ w1⟨b1,rfl,bP,V,x⟩
 replace x:Q8 w1 b1 [I (h.n:Int),I (h.m:Int),I (h.p.Qt:Int),I (h.p.chain:Int),I (h.p.interval:Int),I (h.p.zeta:Int),I (h.p.most:Int),I (h.bits:Int)] 153:=x
 refine Rw O<|It<|qN O<|qV (QB (news:=hdC h) z0k O Vd O (x.cells (n:=8) O) O)<|Qj zc6 O (Zk h a _) ?_
 rintro _ w2⟨rfl,W⟩
 refine RZ O<|RI O<|Ri O<|qN O<|Qj z2B O (W2 w2) ?_
 rintro _ w3⟨wp,F,rfl,o,Y,qn⟩
 have U:=W.trans Y
 have Z:=U.PO x
 refine Sb O<|Qf ZG O<|qV (QB (news:=WC h.p) Z4 O SV O (Z.cells (i:=2) (n:=5) O) O)<|PX O O (SE (cs:=[_,_,_,_,_]) SV O) ?_
 rintro _ w4⟨b6,rfl,oY,P,X⟩
 refine Qc O (QX (news:=WC h.p) SV O O O O X ξ) ?_
 rintro t⟨l,ai⟩
 replace l:Q8 t b6 [I (h.p.Qt:Int),I (h.p.chain:Int),I (h.p.interval:Int),I (h.p.zeta:Int),I (h.p.most:Int)] 93:=l
 have H:Ext w3 t:=P.An ai (λi e=>ω)
 have J:=H.PO Z
 refine PR<|It<|qN O<|Qf Vs O<|qV (Q0 U3 O O J O)<|qV (To (cs:=[_,_]) WW O z1b O O)<|Qf z1u O<|qV (Q0 U3 O O J O)<|qV (To (cs:=[_,_]) WW O z1b O O)<|Qf z38 O<|qV (Q0 U3 O O l O)<|qV (To (cs:=[_,_]) WW O z1b O O)<|Qf z0h O<|qV (Q0 U3 O O l O) ?_
 refine qV (To (cs:=[_,_]) WW O z1b O O)<|Qf zcQ O<|qV (Q0 U3 O O l O)<|qV (To (cs:=[_,_]) WW O z1b O O)<|Qf zcx O<|qV (Q0 U3 O O l O)<|qV (To (cs:=[_,_]) WW O z1b O O)<|Qf UX O<|qV (Q0 U3 O O l O)<|qV (To (cs:=[_,_]) WW O z1b O O)<|Qf Wn O<|qV (Q0 U3 O O J O)<|qV (To (cs:=[_,_]) WW O z1b O O)<|PX O O (YI (cs:=[_,_,_,_,_,_,_,_,_,_,_,_,_,_,_,_]) (zs:=[Value.int .i64 0,Value.int .i64 0,Value.int .i64 0,Value.int .i64 0,Value.int .i64 0,Value.int .i64 0,Value.int .i64 0,Value.int .i64 0,Value.int .i64 0,Value.int .i64 0,Value.int .i64 0,Value.int .i64 0,Value.int .i64 0,Value.int .i64 0,Value.int .i64 0,Value.int .i64 0]) zgG WW O y00 O O O ψ) ?_
 rintro _ y⟨d,rfl,⟨Dd,T,ep⟩,M⟩
 have B:=H.trans T
 have j:=o.ext B
 have z3:=Y.size
 have hL:(hdL h).length=8:=rfl
 replace M:Sl y (.slice (some ⟨d,0,none⟩) 8 8) 231 2 8 ((hdL h).flatMap λq=>[I (q.1:Int),I (q.2:Int)]):=M
 refine SS zgG O<|Q4 O<|PR<|QA.qb (e:=[(2,_),(3,_),(5,_),(43,_),(44,_),(45,_)]) ?_
 refine PT<|SN (α:=Nat) (0) (λi=>[(5,ptr wp 0),(43,.slice (some ⟨d,0,none⟩) 8 8),(44,I 8),(45,I (i:Int))]) (λi w'=>WrR wp F y w' (SB ((hdL h).take i))/\i<=8) (λi=>8-i) ?hI ?hround
 case hI=>exact⟨⟨F,j,Kp.refl _ _,λk r=> .inl r⟩,y03 _⟩
 case hround=>
  rintro i w7⟨⟨F7,N,A,s⟩,hi⟩ ih
  try dsimp only
  refine qN O<|RT O<|PR<|It<|Qa O (λh0=>?_)<|λh0=>?_
  ·obtain⟨⟨v,c⟩,C⟩:∃q,(hdL h)[i]? =some q:=⟨_,y07 (by rw[hL];omega)⟩
   have Q:v<2^c/\c<=64/\v<=134217728:=by
    have b:=y0i C;simp only[hdL,y0h,y23,or_false,y2e] at b;rcases b with⟨rfl,rfl⟩|⟨rfl,rfl⟩|⟨rfl,rfl⟩|⟨rfl,rfl⟩|⟨rfl,rfl⟩|⟨rfl,rfl⟩|⟨rfl,rfl⟩|⟨rfl,rfl⟩<;>refine⟨ω,ω,ω⟩
   have fI:(SB ((hdL h).take i)).length+c<=192:=by
    have e:SB ((hdL h).take (i+1))=SB ((hdL h).take i)++Qu c v:=by rw[R4 C];simp[SB]
    have e2:=congrArg List.length e;rw[y01,bitsN_length] at e2
    have e3:(SB (hdL h)).length=(SB ((hdL h).take (i+1))).length+(SB ((hdL h).drop (i+1))).length:=by
     conv=>lhs;rw[<-y1e (i+1) (hdL h)]
     unfold SB;rw[y1Z,y01]
    have e4:=VU h;omega
   have i6:=M.kp A (λg hg e=>by have e1:d=g:=SJ hg;have:=j.lt e;have:=o.lt e;have:=H.size;omega);have kw:=z2W (f:=λq:Nat×Nat=>[I (q.1:Int),I (q.2:Int)]) (λ_=>rfl) i6.rd C;refine PS (RU (qN O (qV (Rk zgG WW O O ω) (qV (QB (news:=[I (v:Int),I (c:Int)]) ze4 O WW O kw O) (PX O O (SE (cs:=[_,_]) WW O) ?_)))));rintro _ w8⟨b8,rfl,gV,cE,aW⟩;refine Qc O (QX (news:=[I (v:Int),I (c:Int)]) WW O O O O aW ξ) ?_;rintro z⟨D,R⟩;replace D:Q8 z b8 [I (v:Int),I (c:Int)] 231:=D;have K:Ext w7 z:=cE.An R (λi e=>ω);refine PR (Sv O (Qf zeO O (qV (Q0 U3 O O D O) (qV (Rz O U3 SK ω) (Qf zeB O (qV (Q0 U3 O O D O) (Qj XK O (Tv (N.ext K) v c Q.2.1 Q.1 ω) ?_)))))));rintro _ a3⟨rfl,G,E,L,cm⟩;refine PR<|PN<|PY O<|Ra O<|Q4 O<|PR ((ih (i+1) _ ⟨⟨G,?_,(A.trans K.kp).An L (λk r=>(s k r).symm),λk r=>?_⟩,ω⟩ ω).qb)
   ·rw[R4 C,show SB ((hdL h).take i++[(v,c)])=SB ((hdL h).take i)++Qu c v by simp[SB]];exact E
   ·rcases cm k r with e| e
    ·exact s k e
    ·have:=A.size;have:=K.size;exact .inr ω
  ·have dp:i=8:=ω
   subst dp;rw[show(hdL h).take 8=hdL h from rfl] at N;refine Q7 O<|Qz O<|Qj z9B O (Y6 N) ?_;rintro _ w8⟨rfl,rfl⟩;have g8:(Qw (SB (hdL h))).length=24:=by rw[QP,VU]
   refine Q4 O (Tr O (Tq O (RZ O (qV (Xt O O (by first|omega|(simp;done)|(simp;omega))) ?_))));refine Q4 O (Rw O (PQ func93 O (⟨_,O,?_,((V.trans U).trans B).An A (λk r=>by have:=qn k r;have:=W.size;have:=V.size;omega)⟩)));simp[Rn,hdT,z9D]
theorem z8u (h:GrM w (.slice ga g.length gc) g)(hg:Sg g):Qx prog 92 [.slice ga g.length gc] w λu w'=>u=I (Rb g:Int)/\w'=w:=by
 have U:=hg.n
 obtain⟨vs,r,K⟩:=h.ex
 refine py (e:=[(0,_)]) func92 O ntmps92 O O<|qN O<|Sb O<|Qe O<|QV O<|SS U23 O<|Q4 O<|PR<|PT<|SN (α:=Nat) (0) (λi=>[(3,I (Rb (g.take i):Int)),(6,.slice ga g.length gc),(7,I (g.length:Int)),(8,I (i:Int))]) (λi w'=>w'=w/\i<=g.length) (λi=>g.length-i) ?hI ?hround
 case hI=>exact⟨O,y03 _⟩
 case hround=>
  rintro i W⟨rfl,hi⟩ J;have V:=Ve hg i
  try dsimp only
  refine qN O<|RT O<|PR<|It<|Qa O (λv=>?_)<|λv=>?_
  ·obtain⟨l,q⟩:∃l,g[i]? =some l:=⟨_,y07 ω⟩;have Q:=hg.len (y0i q);obtain⟨a,c,D,M,N⟩:=K i l q
   obtain⟨S,go,H,G⟩:∃b o d,Value.slice ga g.length gc= .slice (some ⟨b,o,none⟩) g.length d:=by
    rcases r.2 with⟨c,x,v⟩|⟨b,off,d,x,-⟩
    ·omega
    ·exact⟨b,off,d,x⟩
   cases G;have A:=Zj (g.take i) l;rw[<-R4 q] at A;refine PS (RU (qN O (qV (Rk U23 VB O O ω) (qV (QH QG O O (Rg r D)) (Qe O (PY O (Qq O (SS QG O (Ra O (Qe O (PN (PY O (Ra O ?_)))))))))))));refine Q4 O<|PR ?_;rw[show(Rb (g.take i):Int)+(l.length:Int)=(Rb (g.take (i+1)):Int) by omega];exact(J (i+1) _ ⟨O,ω⟩ ω).qb
  ·have C:i=g.length:=ω
   subst C;rw[y0L];refine Q7 O<|Qz O<|Qe O<|PQ func92 O ?_;exact⟨_,O,O,O⟩
def Yt (p:RE)(g:List (List Nat))(E:List (Nat×Nat)):∀(d i:Nat),(RP p g E i).length<=(RP p g E (i+d)).length
 |0,i=>y04 _
 | d + 1, i => by
   have h:=Yt p g E d i;rw[<-y1x,Ug,y01];omega
theorem z9A (p:RE)(g:List (List Nat))(E:List (Nat×Nat))(n:Nat):Nof (XF p g E n):=by
 unfold XF Nof
 rw[List.pairwise_map]
 refine List.pairwise_lt_range.imp fun {i j} hH=>?_
 have:=Yt p g E (j-i) i
 rwa [show i+(j-i)=j by omega] at this
def z1P (p:RE)(g:List (List Nat))(E:List (Nat×Nat)){n:Nat}(h:i<=n):(XF p g E n)[i]? =some (RP p g E i).length:=by
 unfold XF
 rw[y0m,y1E ω];rfl
theorem zhs (p:RE)(g:List (List Nat))(E:List (Nat×Nat))(n:Nat):∀v∈XF p g E n,v<=(RP p g E n).length:=λv d=>by
 unfold XF at d
 obtain⟨j,e,rfl⟩:=y0g.1 d
 have h:=y0Q.1 e
 have:=Yt p g E (n-j) j
 rwa [show j+(n-j)=n by omega] at this
def z6w {l:List Nat}(d:1<=l.length)(A:l.length<=64)(x:Nof l)(u:l[l.length-1]? =some z):(ZV l (Vf l.length (z+1))).length=(Vf l.length (z+1)).size:=by
 have e:=z2i (Vf l.length (z+1)).width x u
 have h:=VR (Vf l.length (z+1)).width l
 have n:(Tl (Vf l.length (z+1)).width l).length=32:=by
  cases l with
  |nil=>simp at d
  |cons v l=>simp[Tl]
 have q:(Vf l.length (z+1)).bits=z / 2^(Vf l.length (z+1)).width+l.length:=by
  show(z+1-1) / _+_=_;rw[y1h]
  rfl
 unfold ZV Fm.size Fm.Wa Fm.high
 rw[y01,y01,y01,QP,QP,QP,QP,y01,bitsN_length,bitsN_length,e,h,n,q]
 show _=12+(l.length*_+7) / 8+_+4*((l.length+63) / 64)
 have r:(l.length+63) / 64=1:=ω
 rw[r]
def YQ (p:RE)(g:List (List Nat))(E:List (Nat×Nat)):PU:=
 hdT ⟨g.length,Rb g,p,(RP p g E g.length).length⟩++Qw (RP p g E g.length)++ZV (XF p g E g.length) (Vf (g.length+1) ((RP p g E g.length).length+1))
structure zd8 (p:RE)(g:List (List Nat))(E:List (Nat×Nat)):Prop where
 el:E.length=g.length
 ok:zgj p g E
 bits:(RP p g E g.length).length<=2688000
theorem z8s (M:p.RN)(hg:Sg g)(j:1<=g.length)(Q:GrM w (.slice ga g.length gc) g)(m:Q8 w 1 (Tu .gamma) 314)(o:Q8 w 2 (Tu .unary) 314):
  Qx prog 63 [.slice ga g.length gc,bpV p] w λu w'=>∃E,zd8 p g E/\u= .tuple #[S (YQ p g E),I 0]/\Ext w w':=by
 have hn:=hg.n
 have F:=Ve hg g.length
 rw[y0L] at F
 refine py (e:=[(0,_),(1,_)]) func63 O ntmps63 O O<|qN O<|PX O O (Sy O (cs:=WC p) O) ?_
 rintro _ w1⟨b3,rfl,R,l,H⟩
 refine Tq O<|RZ O<|qV (QB (news:=WC p) Z4 O SV O (H.cells (n:=5) O) O)<|Qj zlN O (zb2 M hg (Q.ext l) (l.PO m) (l.PO o)) ?_
 rintro _ w2⟨E,v,rfl,y,Z,z,q,oV,G⟩
 have D:=l.trans G
 have d:=Ext.Qm w2
 obtain⟨L,A,rfl,-⟩:=q.rd.shape
 have W:=z9A p g E g.length
 have t:=zhs p g E g.length
 have x:=z4l p g E g.length
 have U:=z1P p g E (y04 g.length)
 obtain⟨vb,P,k⟩:∃b c,Value.slice L (g.length+1) A= .slice (some ⟨b,0,none⟩) (g.length+1) c:=by
  rcases q.shape with⟨-,X⟩|⟨b,c,e,hc⟩
  ·omega
  ·exact⟨b,c,e⟩
 cases k
 refine Q4 O<|qV (SH (v:=S (Qw (RP p g E g.length))) O O)<|qV (SH (v:= .slice (some ⟨vb,0,none⟩) (g.length+1) A) O O)<|qV (SH (v:=I 0) O O)<|Tq O<|Rw O<|QV O<|RI O<|Ri O<|It ?_
 have a:PHd.RN ⟨g.length,Rb g,p,(RP p g E g.length).length⟩:=⟨j,(by show g.length<=_;omega),(by show Rb g<=_;omega),(by show(RP p g E g.length).length<=_;omega),M⟩
 refine Sq (λw'=>Ext w2 w') O<|Ql 0 O O d<|PV 1 O (TM U23 O) d<|Ql 2 O O d<|Ql 5 O O d<|Ql 6 O O d<|PV 7 O (TM U23 O) d<|PV 8 O (Rk U34 Uw O O ω) d<|qT 4 O (λ_ r=>QB (news:=WC p) Z4 O SV O ((r.PO (G.PO H)).cells (n:=5) O) O) d<|qT 9 O (λ_ r=>QH SK O O (Rg (q.ext r).rd (show((XF p g E g.length).map Qi)[g.length]? =some (Qi (RP p g E g.length).length) by rw[y0m,U];rfl))) d ?_
 refine PV 10 O (QU O SK U3 ω) d<|TQ 3 O zlO O (z8u ((Q.ext D).ext d) hg) ?_
 rintro _ V⟨rfl,rfl⟩
 refine⟨d,?_⟩
 refine PV 11 O (To (cs:=[_,_,_,_,_,_,_,_]) Vd O zfk O O) d<|TQ 12 O zlH O (zaH ⟨g.length,Rb g,p,(RP p g E g.length).length⟩ a _) ?_
 rintro _ V⟨rfl,h⟩
 refine⟨d.trans h,?_⟩
 have J:=d.trans h
 refine Ql 13 O O (d.trans h)<|qT 14 O (λ_ r=>SH (v:=S (hdT ⟨g.length,Rb g,p,(RP p g E g.length).length⟩)) O O) (d.trans h)<|PV 16 O (SG O) (d.trans h)<|PV 15 O (SH (v:=I 0) O O) (d.trans h)<|PV 17 O (SG O) (d.trans h)<|qE<|QA.qb (e:=[(4,_),(5,_),(6,_),(7,_),(8,_),(9,_)]) ?_
 refine QV O<|RI O ?_
 have Y:Rd V (.slice (some ⟨vb,0,none⟩) (XF p g E g.length).length A) 1 (XF p g E g.length).length ((XF p g E g.length).map Qi):=by rw[x];exact(q.ext J).rd
 have N:(XF p g E g.length)[(XF p g E g.length).length-1]? =some (RP p g E g.length).length:=by rw[x];exact U
 have C:=z6I ω ω W (λv s=>by have:=t v s;omega) Y N
 have B:=z6w ω ω W N
 have f:(Vf (XF p g E g.length).length ((RP p g E g.length).length+1)).size<=40000000:=by
  have K:=z4v (n:=(XF p g E g.length).length) (u:=(RP p g E g.length).length+1) ω ω ω ω;have h2:=Fm.Yq K;obtain⟨h3,h4,h5⟩:=K;unfold Fm.size Fm.Wa;omega
 rw[x] at C B f
 have o4:=Yk ⟨g.length,Rb g,p,(RP p g E g.length).length⟩
 have T:=QP (RP p g E g.length)
 refine Ri O<|Qz O<|Qj zlc O C ?_
 rintro _ w4⟨rfl,i⟩
 refine Q4 O<|qV (SH (v:=S (ZV (XF p g E g.length) (Vf (g.length+1) ((RP p g E g.length).length+1)))) O O)<|qV (SH (v:=I 0) O O)<|Tq O<|Sb O<|Qq O<|qV (Xt O O (by first|omega|(simp;done)|(simp;omega))) ?_
 refine Q4 O<|qV (Xt O O (by first|omega|(simp;done)|(simp;omega))) ?_
 refine Q4 O<|Rw O<|PQ func63 O ?_
 exact⟨_,O,E,⟨y,Z,z⟩,O,(D.trans J).trans i⟩
/-! ### Bytes of a word, the least first -/
def Rh:List Nat->Nat
 |[]=>0
 |b::r=>b+256*Rh r
theorem WE {s d:Nat}(e:b<2^s)(l:d<2^s):(b+2^s*a)&&&(d+2^s*c)=(b&&&d)+2^s*(a&&&c):=by
 apply Nat.eq_of_testBit_eq
 intro j
 have n:b&&&d<2^s:=y1R y2F e
 rw[y3p,y1B b,y1B d,y1B (b&&&d),y3n _ e,y3n _ l,y3n _ n]
 by_cases h:j<s
 ·simp only[if_pos h,y3p]
 ·simp only[if_neg h,y3p]
theorem zdS {s:Nat}(d:b<2^s)(e:m<2^s):(b+2^s*a)&&&m=b&&&m:=by
 have:=WE (a:=a) (c:=0) d e
 simpa using this
theorem z1W (m:Nat)(d:m<256):∀L:List Nat,(∀b∈L,b<256)->Rh L&&&Rh (List.replicate L.length m)=Rh (L.map (·&&&m))
 |[],_=>by simp[Rh]
 | b :: r, h => by
   have l:=z1W m d r (λx e=>h x (y0u b e));rw[y02,y19,Rh,Rh,y0j,Rh,<-l];exact WE (s:=8) (h b y0r) d
theorem z4r (s m:Nat)(I:s<=8)(e:m<2^(8-s)):∀L:List Nat,(∀b∈L,b<256)->Rh L / 2^s&&&Rh (List.replicate L.length m)=Rh (L.map λb=>b / 2^s&&&m)
 |[],_=>by simp[Rh]
 | b :: r, h => by
   have K:=z4r s m I e r (λx J=>h x (y0u b J));have H:=h b y0r;have d:256=2^s*2^(8-s):=by rw[<-y0I,show s+(8-s)=8 by omega]
   have l:0<2^s:=y0y s;have M:b / 2^s<2^(8-s):=by rw[y2a l,y0E,<-d];exact H
   have u:(b+256*Rh r) / 2^s=b / 2^s+2^(8-s)*Rh r:=by
    rw[d,y1W,y2i _ _ l]
   have v:b / 2^s+2^(8-s)*Rh r=(b / 2^s+2^(8-s)*(Rh r%2^s))+2^8*(Rh r / 2^s):=by
    have A:=y2b (Rh r) (2^s);have n:2^8=2^(8-s)*2^s:=by rw[y0E];exact d
    rw[n,y1W,y1x,<-y2C,y1B (Rh r%2^s),A]
   have C:b / 2^s+2^(8-s)*(Rh r%2^s)<2^8:=by
    have D:Rh r%2^s+1<=2^s:=y0Y _ l;have G:=y3x (2^(8-s)) D;rw[y2C,y0p] at G;have n:2^8=2^(8-s)*2^s:=by rw[y0E];exact d
    omega
   have q:m<2^8:=y2Q e (y0t ψ ω);rw[y02,y19,Rh,Rh,y0j,Rh,<-K,u,v];have:=WE (s:=8) (a:=Rh r / 2^s) (c:=Rh (List.replicate r.length m)) C q;rw[show m+256*Rh (List.replicate r.length m)=m+2^8*Rh (List.replicate r.length m) from rfl,this,zdS M e]
theorem z2a (f g:Nat->Nat):∀L:List Nat,Rh (L.map f)+Rh (L.map g)=Rh (L.map λb=>f b+g b)
 |[]=>rfl
 | b :: r => by
   rw[y0j,y0j,y0j,Rh,Rh,Rh,<-z2a f g r,y2C];omega
theorem z6o:∀L:List Nat,(∀c∈L,c / 16<=4/\c%16<=4)->(Rh L / 16+Rh L)&&&Rh (List.replicate L.length 15)=Rh (L.map λc=>c / 16+c%16)/\Rh L%16<=4
 |[],_=>⟨by simp[Rh],by simp[Rh]⟩
 | c :: r, h => by
   obtain⟨q,u⟩:=z6o r (λx n=>h x (y0u c n));obtain⟨v,A⟩:=h c y0r;have e:(c+256*Rh r) / 16+(c+256*Rh r)=(c / 16+16*(Rh r%16)+c)+2^8*(Rh r / 16+Rh r):=ω
   have l:c / 16+16*(Rh r%16)+c<2^8:=ω
   have d:(c / 16+16*(Rh r%16)+c)&&&15=c / 16+c%16:=by
    have:=y13 (c / 16+16*(Rh r%16)+c) 4;rw[show(2:Nat)^4-1=15 from rfl,show(2:Nat)^4=16 from rfl] at this;rw[this];omega
   refine⟨?_,by rw[Rh];omega⟩;rw[y02,y19,Rh,Rh,y0j,Rh,<-q,e];have:=WE (s:=8) (a:=Rh r / 16+Rh r) (c:=Rh (List.replicate r.length 15)) l (by decide:15<2^8);rw[show 15+256*Rh (List.replicate r.length 15)=15+2^8*Rh (List.replicate r.length 15) from rfl,this,d]
def z6R:∀L:List Nat,(∀b∈L,b<256)->(Qu (8*L.length) (Rh L)).count true=(L.map λb=>(Qu 8 b).count true).sum
 |[],_=>rfl
 | b :: r, h => by
   have l:=z6R r (λx e=>h x (y0u b e));have n:=h b y0r;rw[y02,y2C,y0p,Ta,y36,Rh];have d:(b+256*Rh r) / 2^8=Rh r:=ω
   rw[y0j,y0M,show(Qu 8 (b+256*Rh r))=Qu 8 b from XN ω,d,l];omega
def s1B (b:Nat):Nat:=(b / 2&&&85)+(b&&&85)
def s2B (b:Nat):Nat:=(b / 4&&&51)+(b&&&51)
def zby:∀b:Fin 256,s1B b<256/\s2B (s1B b)<256/\s2B (s1B b) / 16<=4/\s2B (s1B b)%16<=4/\s2B (s1B b) / 16+s2B (s1B b)%16=(Qu 8 b).count true:=by decide+kernel
def Zd (h:b<256):s1B b<256/\s2B (s1B b)<256/\s2B (s1B b) / 16<=4/\s2B (s1B b)%16<=4/\s2B (s1B b) / 16+s2B (s1B b)%16=(Qu 8 b).count true:=zby ⟨b,h⟩
def z0L (x:Nat):List Nat:=[x%256,x / 256%256,x / 65536%256,x / 16777216%256,x / 4294967296%256,x / 1099511627776%256,x / 281474976710656%256,x / 72057594037927936%256]
def z7N {x:Nat}(h:x<18446744073709551616):Rh (z0L x)=x:=by
 simp only[z0L,Rh]
 omega
def zbq (x:Nat):∀b∈z0L x,b<256:=λb d=>by
 simp only[z0L,y0h,y23,or_false] at d
 rcases d with rfl|rfl|rfl|rfl|rfl|rfl|rfl|rfl<;>exact y0Y _ ψ
theorem z7q {x:Nat}(h:x<18446744073709551616):∃D:List Nat,D.length=8/\(∀d∈D,d<=8)/\
  ((((x / 2&&&6148914691236517205)+(x&&&6148914691236517205)) / 4&&&3689348814741910323)+(((x / 2&&&6148914691236517205)+(x&&&6148914691236517205))&&&3689348814741910323)) / 16+((((x / 2&&&6148914691236517205)+(x&&&6148914691236517205)) / 4&&&3689348814741910323)+(((x / 2&&&6148914691236517205)+(x&&&6148914691236517205))&&&3689348814741910323))&&&1085102592571150095=Rh D/\D.sum=(Qu 64 x).count true:=by
 have r:=z7N h
 have e:=zbq x
 have l:(z0L x).length=8:=rfl
 generalize z0L x=L at r e l
 have K:6148914691236517205=Rh (List.replicate L.length 85):=by rw[l];rfl
 have M:3689348814741910323=Rh (List.replicate L.length 51):=by rw[l];rfl
 have N:1085102592571150095=Rh (List.replicate L.length 15):=by rw[l];rfl
 have f1:=z4r 1 85 ψ ψ L e
 have f2:=z1W 85 ψ L e
 rw[show(2:Nat)^1=2 from rfl] at f1
 have C:∀b∈L.map s1B,b<256:=λb n=>by
  obtain⟨y,u,rfl⟩:=y0g.1 n;exact(Zd (e y u)).1
 have G:(x / 2&&&6148914691236517205)+(x&&&6148914691236517205)=Rh (L.map s1B):=by
  rw[K,<-r,f1,f2,z2a];rfl
 have f3:=z4r 2 51 ψ ψ (L.map s1B) C
 have f4:=z1W 51 ψ (L.map s1B) C
 rw[show(2:Nat)^2=4 from rfl] at f3
 rw[y0n] at f3 f4
 have H:(Rh (L.map s1B) / 4&&&3689348814741910323)+(Rh (L.map s1B)&&&3689348814741910323)=Rh ((L.map s1B).map s2B):=by
  rw[M,f3,f4,z2a];rfl
 rw[G,H]
 have A:∀c∈(L.map s1B).map s2B,c / 16<=4/\c%16<=4:=λc q=>by
  obtain⟨z,J,rfl⟩:=y0g.1 q;obtain⟨y,u,rfl⟩:=y0g.1 J;have:=Zd (e y u);exact⟨this.2.2.1,this.2.2.2.1⟩
 have f5:=(z6o _ A).1
 rw[y0n,y0n] at f5
 refine⟨((L.map s1B).map s2B).map λc=>c / 16+c%16,by rw[y0n,y0n,y0n];exact l,λd I=>?_,by rw[N];exact f5,?_⟩
 ·obtain⟨c,q,rfl⟩:=y0g.1 I;have:=A c q;omega
 ·have v:=z6R L e;rw[l,r] at v;rw[show 8*8=64 from rfl] at v;rw[v,y1j,y1j]
  congr 1
  refine y0N λb n=>?_;exact(Zd (e b n)).2.2.2.2
theorem zbZ {D:List Nat}(A:D.length=8)(h:∀d∈D,d<=8):let n:=Rh D+Rh D / 256;let q:=n+n / 65536;let C:=q+q / 4294967296;Rh D<1152921504606846976/\C%128=D.sum/\D.sum<=64:=by
 obtain⟨d0,d1,d2,d3,d4,d5,d6,d7,rfl⟩:∃d0 d1 d2 d3 d4 d5 d6 d7,D=[d0,d1,d2,d3,d4,d5,d6,d7]:=by
  match D,A with
  |[a,b,c,d,e,f,g,i],_=>exact⟨a,b,c,d,e,f,g,i,O⟩
 have G:=h d0 ξ
 have H:=h d1 ξ
 have I:=h d2 ξ
 have J:=h d3 ξ
 have K:=h d4 ξ
 have M:=h d5 ξ
 have N:=h d6 ξ
 have Q:=h d7 ξ
 have r:Rh [d0,d1,d2,d3,d4,d5,d6,d7] / 256=Rh [d1,d2,d3,d4,d5,d6,d7]:=by
  rw[Rh,y2i _ _ ψ,y2h ω,y0k]
 have l:Rh [d0,d1,d2,d3,d4,d5,d6,d7]+Rh [d1,d2,d3,d4,d5,d6,d7]=(d0+d1+256*(d1+d2))+65536*((d2+d3)+256*(d3+d4)+65536*((d4+d5)+256*(d5+d6)+65536*((d6+d7)+256*d7))):=by
  simp only[Rh];omega
 have u:(Rh [d0,d1,d2,d3,d4,d5,d6,d7]+Rh [d1,d2,d3,d4,d5,d6,d7]) / 65536=(d2+d3)+256*(d3+d4)+65536*((d4+d5)+256*(d5+d6)+65536*((d6+d7)+256*d7)):=by
  rw[l,y2i _ _ ψ,y2h ω,y0k]
 dsimp only
 rw[r,u,l]
 have v:(d0+d1+256*(d1+d2))+65536*((d2+d3)+256*(d3+d4)+65536*((d4+d5)+256*(d5+d6)+65536*((d6+d7)+256*d7)))+((d2+d3)+256*(d3+d4)+65536*((d4+d5)+256*(d5+d6)+65536*((d6+d7)+256*d7)))=
   ((d0+d1+d2+d3)+256*(d1+d2+d3+d4)+65536*((d2+d3+d4+d5)+256*(d3+d4+d5+d6)))+4294967296*((d4+d5+d6+d7)+256*(d5+d6+d7)+65536*(d6+d7+256*d7)):=ω
 rw[v,y2i _ _ ψ,y2h ω,y0k]
 refine⟨by simp only[Rh];omega,?_,by simp only[y0M,y1I];omega⟩
 simp only[y0M,y1I]
 have x:(d0+d1+d2+d3)+256*(d1+d2+d3+d4)+65536*((d2+d3+d4+d5)+256*(d3+d4+d5+d6))+4294967296*((d4+d5+d6+d7)+256*(d5+d6+d7)+65536*(d6+d7+256*d7))+((d4+d5+d6+d7)+256*(d5+d6+d7)+65536*(d6+d7+256*d7))=
   (d0+d1+d2+d3+d4+d5+d6+d7)+128*(2*(d1+d2+d3+d4)+512*((d2+d3+d4+d5)+256*(d3+d4+d5+d6))+33554432*((d4+d5+d6+d7)+256*(d5+d6+d7)+65536*(d6+d7+256*d7))+(2*(d5+d6+d7)+512*(d6+d7+256*d7))):=ω
 rw[x,Nat.add_mul_mod_self_left,y0e ω]
 omega
theorem zdf (x:Nat)(q:x<18446744073709551616)(w:World):Qx prog 248 [Qi x] w λv w'=>v=I ((Qu 64 x).count true:Int)/\w'=w:=by
 obtain⟨D,h,l,d,n⟩:=z7q q
 obtain⟨f1,f2,f3⟩:=zbZ h l
 have u:x / 2&&&6148914691236517205<=6148914691236517205:=y2g
 have a2:x&&&6148914691236517205<=6148914691236517205:=y2g
 rw[<-n]
 refine py (e:=[(0,_)]) func248 O ntmps248 O O<|qN O<|RZ O<|qV (Vl 1 2 O O ψ O)<|qV (VY O O ω ω)<|Q4 O<|qV (VY O O ω ω)<|qV (Wv O O)<|Sb O ?_
 rw[y0e (show(x / 2&&&6148914691236517205)+(x&&&6148914691236517205)<18446744073709551616 by omega)]
 generalize M:(x / 2&&&6148914691236517205)+(x&&&6148914691236517205)=y at d
 have S:y<18446744073709551616:=ω
 have A:y / 4&&&3689348814741910323<=3689348814741910323:=y2g
 have C:y&&&3689348814741910323<=3689348814741910323:=y2g
 refine Q4 O<|qV (Vl 2 4 O O ψ O)<|qV (VY O O ω ω)<|Q4 O<|qV (VY O O ω ω)<|qV (Wv O O)<|Sb O ?_
 rw[y0e (show(y / 4&&&3689348814741910323)+(y&&&3689348814741910323)<18446744073709551616 by omega)]
 generalize N:(y / 4&&&3689348814741910323)+(y&&&3689348814741910323)=z at d
 have Q:z<=7378697629483820646:=ω
 refine Q4 O<|qV (Vl 4 16 O O ψ O)<|Q4 O<|qV (Wv O O) ?_
 rw[y0e (show z / 16+z<18446744073709551616 by omega)]
 refine qV (VY O O ω ω)<|Sb O ?_
 rw[d]
 generalize Rh D=x3 at f1 f2
 refine Qq O<|qV (Vl 8 256 O O ψ O)<|qV (Wv O O)<|Sb O ?_
 rw[y0e (show x3+x3 / 256<18446744073709551616 by omega)]
 generalize G:x3+x3 / 256=x4 at f2
 have U:x4<=1157495777000000000:=ω
 refine Qq O<|qV (Vl 16 65536 O O ψ O)<|qV (Wv O O)<|Qe O<|QA.qb (e:=[(0,_),(2,_)]) ?_
 refine qN O ?_
 rw[y0e (show x4+x4 / 65536<18446744073709551616 by omega)]
 generalize J:x4+x4 / 65536=x5 at f2
 have K:x5<=1160000000000000000:=ω
 refine Qq O<|qV (Vl 32 4294967296 O O ψ O)<|qV (Wv O O)<|Sb O ?_
 rw[y0e (show x5+x5 / 4294967296<18446744073709551616 by omega)]
 generalize H:x5+x5 / 4294967296=x6 at f2
 have r:x6<=1170000000000000000:=ω
 refine Q4 O<|qV (QU O SK U3 ω)<|qV (YH O O ω ω) ?_
 rw[show x6&&&127=D.sum by rw[<-f2];exact y13 x6 7]
 refine Qe O<|PQ func248 O ?_
 exact⟨_,O,O,O⟩
def zb4 {x:Nat}(d:x<18446744073709551616):R6 x<=64:=Sm ω
def zbX (x:Nat)(d:x<18446744073709551616)(w:World):Qx prog 249 [Qi x] w λv w'=>v=I ((64-R6 x:Nat):Int)/\w'=w:=by
 have h:=zb4 d
 refine py (e:=[(0,_)]) func249 O ntmps249 O O<|qN O<|RZ O<|Qj z3y O (VE x d w) ?_
 rintro _ w⟨rfl,rfl⟩
 refine SA O ?_
 rw[show(64:Int)-(R6 x:Int)=((64-R6 x:Nat):Int) by omega]
 refine Qe O<|PQ func249 O ?_
 exact⟨_,O,O,O⟩
def methT (P:Program)(t:TypeId)(h:String):Option FuncId:=match P.info? t with
 | some i => match i.methods.toList.find? (·.name == h) with
   | some m => match m.path.toList, m.func with
     | [], some (f, pr) => match P.underlying t with
       |some (.pointer _)=>cond pr (some f) none
       |some _=>cond pr none (some f)
       |none=>none
     |_,_=>none
   |none=>none
 |none=>none
section
variable {e:Env}{d:Option Nat}{pos:String}{g:Option (Nat×Bool)}{x:Operand}{n:Nat}
theorem UY {i:TypeInfo}(h:P.info? t=some i):(typeInfo t).run P w= .ok i w:=by simp[typeInfo,program,Sem.run,h]
theorem zbi {l:String}{u:Value}(h:methT P t l=some f)(n:Nat):(method (n+1) t u l).run P w= .ok (f,u) w:=by
 unfold methT at h
 split at h<;>try cases h
 rename_i i hi
 split at h<;>try cases h
 rename_i m C
 split at h<;>try cases h
 rename_i f' pr r v
 have A:i.methods.find? (·.name==l)=some m:=by rw[<-C,Array.find?_toList]
 split at h<;>try cases h
 ·rename_i el q
  cases pr<;>simp at h;subst h;simp[method,UY hi,A,r,follow,v,receiverAt,run_underlying q,Place.get]
 ·rename_i G D q
  cases pr<;>simp at h;subst h;unfold method;simp only[y09,UY hi,y0H,A,r,follow,y05,v,receiverAt,run_underlying q,Place.get]
def yci {q:String}{args:List Operand}{ts:Array TypeId}{vs:List Value}{u:Value}(A:CF P f)(C:methT P t q=some f)(D:look e x=some (.iface t u))(v:looks e args=some vs):
  Yc P e ⟨d,.call ⟨.invoke x q,args.toArray,ts⟩,ty,pos,aft,g⟩ f (u::vs) w:=fun ρ l=>by
 have h:=λw=>zbi (P:=P) (w:=w) (u:=u) C (P.types.size+(Made.depth-1))
 rw[show P.types.size+(Made.depth-1)+1=P.types.size+Made.depth from rfl] at h
 have H:(program).run P w= .ok P w:=rfl
 have G:=UT l _ _ v
 have r:=l _ _ D
 simp[execOp,resolve,G,r,Deferred.ofValue,invoke,callMethod,H,h,Uy A]
theorem zgJ (A:look e x=some (I (m:Int)))(C:look e y=some (I 7))(D:m<2^62):Y P e ⟨d,.binOp .andNot t x y t',ty,pos,aft,g⟩ (I ((m / 8*8:Nat):Int)) w w:=fun ρ q=>by
 have r:m<2^IntKind.i64.bits:=by simp only[IntKind.bits];omega
 have u:m&&&18446744073709551608=m / 8*8:=by
  have h:=WE (s:=3) (a:=m / 8) (b:=m%8) (c:=2305843009213693951) (d:=0) (y0Y _ ψ) ψ;rw[Nat.and_zero,y0k,y0k] at h;have l:=y13 (m / 8) 61;rw[show(2:Nat)^61-1=2305843009213693951 from rfl,y0e ω] at l;rw[l,show(2:Nat)^3=8 from rfl,show 8*2305843009213693951=18446744073709551608 from rfl,show m%8+8*(m / 8)=m by omega] at h;rw[h];omega
 have v:(BitVec.ofInt IntKind.i64.bits (m:Int)&&&~~~(BitVec.ofInt IntKind.i64.bits 7)).toNat=m / 8*8:=by
  rw[y2H,Si r,show(~~~(BitVec.ofInt IntKind.i64.bits 7)).toNat=18446744073709551608 by decide,u]
 simp only[execOp,eqGuard_andNot,binOp_andNot,intBits_andNot,q _ _ A,q _ _ C,pure_bind,y05,bits,v]
 rw[wrap_i64 ⟨ω,ω⟩]
theorem zlD {r v q:Nat}(J:r<=63)(A:v<2^r)(I:2^r=q)(K:look e x=some (.int .u64 ((q+v:Nat):Int)))(M:look e y=some (.int .u64 (q:Int))):Y P e ⟨d,.binOp .andNot t x y t',ty,pos,aft,g⟩ (.int .u64 (v:Int)) w w:=fun ρ C=>by
 subst I
 have S:2^r<=2^63:=y0t ψ J
 have N:2^64=2^r*2^(64-r):=by rw[<-y0I,show r+(64-r)=64 by omega]
 have u:2^(64-r)=2*2^(63-r):=by rw[<-Nat.pow_succ',show 64-r=(63-r)+1 by omega]
 have Q:0<2^(63-r):=y0y _
 have D:2^r+v<2^IntKind.u64.bits:=by simp only[IntKind.bits];omega
 have G:2^r<2^IntKind.u64.bits:=by simp only[IntKind.bits];omega
 have H:(2^r+v)&&&(2^64-1-2^r)=v:=by
  have h:=WE (s:=r) (a:=1) (b:=v) (c:=2^(64-r)-2) (d:=2^r-1) A (by have:=y0y r;omega);rw[y0p,y13,y0e A,Nat.one_and_eq_mod_two,u,show(2*2^(63-r)-2)%2=0 by omega,Nat.mul_zero,y1f] at h
  have l:2^r-1+2^r*(2*2^(63-r)-2)=2^64-1-2^r:=by
   rw[Nat.mul_sub,<-u,<-N];have:=y0y r;omega
  rw[l,y1B v] at h;exact h
 have l:(BitVec.ofInt IntKind.u64.bits ((2^r+v:Nat):Int)&&&~~~(BitVec.ofInt IntKind.u64.bits ((2^r:Nat):Int))).toNat=v:=by
  rw[y2H,BitVec.toNat_not,Si D,Si G];exact H
 simp only[execOp,eqGuard_andNot,binOp_andNot,intBits_andNot,C _ _ K,C _ _ M,pure_bind,y05,bits,l]
 rw[z2g (k:= .u64) O (by simp only[IntKind.bits];omega)]
end
structure Src (t:TypeId)(u:Value)(T:PU) where
 inv:(Nat->Prop)->World->Prop
 fl:FuncId
 fr:FuncId
 cl:CF prog fl
 cr:CF prog fr
 ml:methT prog t "Length"=some fl
 mr:methT prog t "ReadAt"=some fr
 ext:∀{X Y:Nat->Prop} {w w':World},inv X w->Ext w w'->(∀k,Y k->X k\/w.heap.size<=k)->inv Y w'
 step:∀{X Y S:Nat->Prop} {w w':World},inv X w->Kp S w w'->(∀k,S k->X k)->(∀k,Y k->X k\/w.heap.size<=k)->inv Y w'
 len:∀{X:Nat->Prop} {w:World},inv X w->Qx prog fl [u] w λv w'=>v=I (T.length:Int)/\Ext w w'
 rd:∀{X:Nat->Prop} {w:World} (off n:Nat),inv X w->(∀k,X k->k<w.heap.size)->off+n<=T.length->Qx prog fr [u,I (off:Int),I (n:Int)] w λv w'=>v= .tuple #[S ((T.drop off).take n),I 0]/\inv X w'/\Kp (λk=>¬X k) w w'
def Src.own {u:Value}{T:PU}(R:Src t u T){S:Nat->Prop}(h:R.inv X w)(q:Kp S w w')(l:∀k,S k->X k):R.inv X w':=R.step h q l λ_ e=> .inl e
def z2L {c:UInt8}(h:s[i]? =some c):QO (Qo (s.take (i+1)))=QO (Qo (s.take i))*256+c.toNat:=by
 rw[R4 h,ZB,T7,show Qo [c]=Qu 8 c.toNat by simp[Qo],Rl,bitsN_length]
 have:=c.toNat_lt
 omega
theorem Y7 (s:PU)(Q:s.length<=8)(w:World):Qx prog 175 [S s] w λv w'=>v=Qi (QO (Qo s))/\Ext w w':=by
 refine py (e:=[(0,_)]) func175 O ntmps175 O O<|qN O<|Sb O<|Qe O<|QV O<|PX O O (zcy U9 RB U5 O) ?_
 rintro _ w1⟨b7,c7,rest,rfl,⟨U,u,A⟩,M⟩
 refine SS RB O<|Q4 O<|PR<|PT<|SN (α:=Nat) (0) (λi=>[(3,Qi (QO (Qo (s.take i)))),(7,.slice (some ⟨b7,0,none⟩) s.length c7),(8,I (s.length:Int)),(9,I (i:Int))]) (λi w'=>w'=w1/\i<=s.length) (λi=>s.length-i) ?hI ?hround
 case hI=>exact⟨O,y03 _⟩
 case hround=>
  rintro i w2⟨rfl,hi⟩ J
  try dsimp only
  refine qN O<|RT O<|PR<|It<|Qa O (λG=>?_)<|λG=>?_
  ·obtain⟨c,l⟩:∃c,s[i]? =some c:=⟨_,y07 ω⟩;have f7:=c.toNat_lt;have h:=z2L l
   have r:QO (Qo (s.take i))<72057594037927936:=by
    have H:=Se (Qo (s.take i));rw[bitsT_length,y0d] at H;have N:2^(8*min i s.length)<=2^56:=y0t ψ ω;omega
   have C:w2.cell? ⟨b7,0+i*1,none⟩=some (Ua c):=by
    rw[A.cell,y0k,y0p,y0K (by rw[y0n];omega),y0m,l];rfl
   refine PS<|RU<|qN O<|qV (Rk RB YK O O ω)<|qV (QH U5 O O C) ?_
   generalize QO (Qo (s.take i))=q at h r
   refine Qe O<|Sv O<|qV (Sz 8 256 O O ψ O)<|Q4 O<|qV (z4O O U5 SK ψ)<|qV (z2G O O ω ω) ?_
   have K:(q*256%18446744073709551616 |||c.toNat)=QO (Qo (s.take (i+1))):=by
    rw[h,y0e ω,y0E q];exact(y24 (i:=8) f7 q).symm
   rw[K];refine Qe O<|PN<|PY O<|Ra O<|Q4 O<|PR ?_;exact(J (i+1) _ ⟨O,ω⟩ ω).qb
  ·have D:i=s.length:=ω
   subst D;rw[y0L];refine Q7 O<|Qz O<|Qe O<|PQ func175 O ?_;exact⟨_,O,O,u⟩
section
variable {e:Env}{d:Option Nat}{pos:String}{g:Option (Nat×Bool)}{x:Operand}
theorem zdY {v:Value}(ht:P.underlying t=some (.interface ms)):(binOp .eql t (.iface tx v) .nilIface).run P w= .ok (.bool false) w:=by
 have h:P.methodsAt t=ms:=by unfold Program.methodsAt;rw[ht]
 exact run_eql_held_nil w t tx v (by rw[h];exact ht)
theorem zfr {v:Value}(ht:P.underlying t=some (.interface ms))(l:look e x=some (.iface tx v))(n:look e y=some .nilIface):Y P e ⟨d,.binOp .eql t x y t',ty,pos,aft,g⟩ (.bool false) w w:=fun ρ h=>by
 have hg:∀a b,(eqGuard .eql t a b (.iface tx v) .nilIface).run P w= .ok () w:=λa b=>rfl
 simp only[execOp,h _ _ l,h _ _ n,y09,hg,y0H,zdY ht,y05]
def zim {v:Value}(h:look e x=some (.iface tx v)):Y P e ⟨d,.nilCheck x,ty,pos,aft,g⟩ (.iface tx v) w w:=fun ρ l=>by simp[execOp,l _ _ h]
end
structure WS (l:List Nat)(f:Fm)(z:Nat):Prop where
 n1:1<=l.length
 n2:l.length<=64
 nof:Nof l
 last:l[l.length-1]? =some z
 zb:z<=999999998
 fe:f=Vf l.length (z+1)
def WS.small {l:List Nat}{f:Fm}(h:WS l f z):f.small:=by
 rw[h.fe]
 exact z4v h.n1 (by have:=h.n2;omega) ω (by have:=h.zb;omega)
theorem WS.len {l:List Nat}{f:Fm}(h:WS l f z):(ZV l f).length=f.size:=by
 rw[h.fe]
 exact z6w h.n1 h.n2 h.nof h.last
theorem WS.n {l:List Nat}{f:Fm}(h:WS l f z):f.n=l.length:=by rw[h.fe];rfl
theorem WS.u {l:List Nat}{f:Fm}(h:WS l f z):f.u=z+1:=by rw[h.fe];rfl
def WS.size_le {l:List Nat}{f:Fm}(h:WS l f z):f.size<=40000000/\12<=f.size:=by
 have n:=h.small
 have q:=Fm.Yq n
 obtain⟨r,u,v⟩:=n
 unfold Fm.size Fm.Wa
 have:12<=f.high:=by unfold Fm.high;omega
 omega
def piece {A C:PU}{n:Nat}(h:off=A.length+o)(l:o+n<=B.length):((A++B++C).drop off).take n=(B.drop o).take n:=by
 rw[h,y06,y33,y1i ω,y1n (by rw[y08];omega)]
def Uj (f:Fm):List Bool:=Qu 32 f.n++Qu 64 f.u
theorem z3O (f:Fm):Qo (Qw (Uj f))=Uj f:=by
 obtain⟨z,h,n,q⟩:=Tt (Uj f)
 have r:(Uj f).length=96:=by simp[Uj]
 have l:z=0:=ω
 rw[h,l,y2K,y0o]
theorem VX (f:Fm):(Qw (Uj f)).length=12:=by
 rw[QP];simp[Uj]
def zgs (f:Fm)(h:f.n<4294967296):QO (Qo ((Qw (Uj f)).take 4))=f.n:=by
 rw[VK,z3O]
 unfold Uj
 rw[y1c ξ,Rl]
 exact y0e h
def zgT (f:Fm)(h:f.u<18446744073709551616):QO (Qo ((Qw (Uj f)).drop 4))=f.u:=by
 rw[UM,z3O]
 unfold Uj
 rw[y10 ξ,Rl]
 exact y0e h
theorem zbJ (l:List Nat)(f:Fm):((ZV l f).drop 0).take 12=Qw (Uj f):=by
 have h:=piece (A:=[]) (B:=Qw (Uj f)) (C:=Qw (Tx f.width l)++(Qw (hiB f.width 0 0 l)++Qw (Tl f.width l))) (off:=0) (n:=12) (o:=0) O (by rw[VX];omega)
 rw[y14] at h
 unfold ZV
 rw[y06,y06]
 refine h.trans ?_
 rw[y0U,y0z (by rw[VX];omega)]
def elC (f:Fm)(t:TypeId)(u:Value):List Value:=[I (f.n:Int),Qi f.u,I (f.width:Int),I (f.bits:Int),.iface t u]
theorem z7i {u:Value}{l:List Nat}{f:Fm}(r:WS l f z)(R:Src t u (ZV l f))(Y:R.inv X w)(hX:∀k,X k->k<w.heap.size):
  Qx prog 143 [.iface t u] w λv w'=>∃x,v= .tuple #[ptr x 0,I 0]/\Q8 w' x (elC f t u) 293/\w.heap.size<=x/\R.inv (λk=>X k\/k=x) w'/\Kp (λk=>¬X k) w w':=by
 obtain⟨eg,dv⟩:=r.size_le
 have H:=r.len
 have qa:=r.n
 have s:=r.u
 have jN:=r.n2
 have cf:=r.n1
 have xm:=r.zb
 refine py (e:=[(0,_)]) func143 O ntmps143 O O<|qN O<|Rw O<|RU<|Qz O<|qV (zfr z3a O O)<|Qe O<|PW O<|Qz O<|S5 O O (yci R.cl R.ml O O) (R.len Y) ?_
 rintro _ w1⟨rfl,G⟩
 rw[H]
 have kH:=R.ext Y G (λk h=> .inl h)
 have U:∀k,X k->k<w1.heap.size:=λk h=>by have:=hX k h;have:=G.size;omega
 refine RT O<|QW<|Qe O<|Us O<|PN<|Qz O<|S5 O O (yci R.cr R.mr O O) (R.rd 0 12 kH U (by rw[H];omega)) ?_
 rintro _ w2⟨rfl,P,M⟩
 rw[zbJ]
 have V:Kp (λk=>¬X k) w w2:=G.kp.trans M
 have fm:∀k,X k->k<w2.heap.size:=λk h=>by have:=U k h;have:=M.size;omega
 have o4:=VX f
 have c:((Qw (Uj f)).take 4).length<=8:=by rw[y0d];omega
 have b:((Qw (Uj f)).drop 4).length<=8:=by rw[y08];omega
 have j:=zgs f ω
 have K:=zgT f ω
 generalize Qw (Uj f)=hb at o4 c b j K
 have q:=Ext.Qm w2
 refine Q4 O<|Tr O<|Rw O<|QV O<|RI O<|Ri O<|It<|Sq (λw'=>Ext w2 w') O<|Ql 0 O O q<|PV 1 O (z3p U9 O O ω) q<|Ql 3 O O q<|PV 4 O (z1l U9 O O ω) q<|TQ 2 O z9y O (Y7 (hb.take 4) c _) ?_
 rintro _ w3⟨rfl,A⟩
 refine⟨q.trans A,?_⟩
 refine TQ 5 O z9y O (Y7 (hb.drop 4) b _) ?_
 rintro _ w4⟨rfl,C⟩
 refine⟨(q.trans A).trans C,?_⟩
 have S:=(q.trans A).trans C
 rw[j,K]
 have mX:=R.ext P S (λk h=> .inl h)
 refine PV 6 O (SG O) ((q.trans A).trans C)<|PV 7 O (SG O) ((q.trans A).trans C)<|qE<|QA.qb (e:=[(0,_),(2,_),(3,_),(6,_),(7,_)]) ?_
 refine QV O<|RR O<|QW<|Qq O<|RR O<|QW<|R0 O<|Qq O<|Ss O<|QW<|Q4 O<|Ss O<|QW<|qV (zgi O O U4) ?_
 refine R0 O<|Ri O<|Qz O<|qV (QU O SK U3 ω)<|Q4 O ?_
 have y:Vf f.n f.u=f:=by rw[qa,s];exact r.fe.symm
 have a:=Z2 f.n f.u ω ω ω ω w4
 rw[y] at a
 refine Qj zcO O a ?_
 rintro _ w5⟨rfl,E⟩
 refine PX O O (SE (cs:=[_,_,_,_]) Ux O) ?_
 rintro _ w6⟨b8,rfl,gV,B,F⟩
 refine Qc O (QX (news:=fmC f) Ux O O O O F ξ) ?_
 rintro m⟨D,L⟩
 replace D:Q8 m b8 (fmC f) 236:=D
 have kB:Ext w5 m:=B.An L (λi e=>ω)
 have o:=E.trans kB
 have md:=R.ext mX o (λk h=> .inl h)
 refine PR<|It<|qN O<|qV (QB (news:=fmC f) z00 O Ux O (D.cells (n:=4) O) O)<|Qj zgd O (z3H f r.small _) ?_
 rintro _ w8⟨rfl,Q⟩
 have J:=R.ext md Q (λk h=> .inl h)
 refine Q4 O<|S5 O O (yci R.cl R.ml O O) (R.len J) ?_
 rintro _ w9⟨rfl,W⟩
 rw[H]
 have jQ:=R.ext J W (λk h=> .inl h)
 have Z:=Q.trans W
 have p:=(S.trans o).trans Z
 refine RI O<|QW<|PR<|QA.qb (e:=[(0,_),(2,_),(3,_),(8,_),(51,_)]) ?_
 refine Us O<|qN O<|qV (QB (news:=fmC f) z00 O Ux O ((Z.PO D).cells (n:=4) O) O)<|Q4 O<|qV (To (cs:=[_,_,_,_,_]) zhQ O zjq O O)<|PX O O (Sy O (cs:=elC f t u) O) ?_
 rintro _ a0⟨x,rfl,hx,N,T⟩
 refine Rw O<|PQ func143 O ?_
 exact⟨_,O,x,O,T,by have:=V.size;have:=p.size;omega,R.ext jQ N (λk h=>h.imp id λe=>ω),V.trans (p.trans N).kp⟩
def za2 {u:Value}{f:Fm}{x:Nat}(hB:Q8 w x (elC f t u) 293):Qx prog 144 [ptr x 0] w λv w'=>v=I (f.n:Int)/\w'=w:=by
 replace hB:Q8 w x [I (f.n:Int),Qi f.u,I (f.width:Int),I (f.bits:Int),.iface t u] 293:=hB
 refine py (e:=[(0,_)]) func144 O ntmps144 O O<|RY O<|QV O<|qV (Rm z3h O O)<|Ri O<|Qz O<|QC O<|Qf TC O<|Qf z0e O<|qV (Q0 U3 O O hB O)<|Qe O<|PQ func144 O ?_
 exact⟨_,O,O,O⟩
theorem zdC (k:Nat)(a b:List Nat):Tx k (a++b)=Tx k a++Tx k b:=by simp[Tx]
def zeu {v:Nat}{l:List Nat}(h:l[i]? =some v)(rest:List Bool):((Tx k l++rest).drop (i*k)).take k=Qu k (v%2^k):=by
 have hi:=(y0l.1 h).1
 have e:l=l.take i++(v::l.drop (i+1)):=by
  conv=>lhs;rw[<-y1e i l]
  congr 1
  rw[y2l hi,(y0l.1 h).2]
 have d:(Tx k (l.take i)).length=i*k:=by rw[VR,y0d,y0B ω]
 rw[e,zdC,y06,y10 d]
 show((Qu k (v%2^k)++Tx k (l.drop (i+1)))++rest).take k=_
 rw[y06,y1c ξ]
def z3g {n:Nat}(h:a+m<=8*n):((Qo ((B.drop o).take n)).drop a).take m=((Qo B).drop (8*o+a)).take m:=by
 rw[VK,UM,y1r,y0G,y1z,y0B ω]
def zea (l:List Nat)(f:Fm){n:Nat}(h:o+n<=(Qw (Tx f.width l)).length):((ZV l f).drop (12+o)).take n=((Qw (Tx f.width l)).drop o).take n:=by
 unfold ZV
 rw[y06 (Qw (Qu 32 f.n++Qu 64 f.u)++Qw (Tx f.width l))]
 exact piece (by rw[show Qw (Qu 32 f.n++Qu 64 f.u)=Qw (Uj f) from rfl,VX]) h
theorem zaM {u:Value}{l:List Nat}{f:Fm}(q:WS l f z)(R:Src t u (ZV l f))(M:R.inv X w)(hX:∀k,X k->k<w.heap.size){x:Nat}(hx:X x)(hB:Q8 w x (elC f t u) 293){v:Nat}(N:l[i]? =some v):
  Qx prog 240 [ptr x 0,I (i:Int)] w λr w'=>r= .tuple #[Qi (v%2^f.width),I 0]/\R.inv X w'/\Kp (λk=>¬X k) w w':=by
 have L:=(y0l.1 N).1
 have aw:=q.len
 obtain⟨xL,yI⟩:=q.size_le
 have jN:=q.n2
 have wR:f.width<=30:=by rw[q.fe];exact z0A (by have:=q.zb;omega)
 replace hB:Q8 w x [I (f.n:Int),Qi f.u,I (f.width:Int),I (f.bits:Int),.iface t u] 293:=hB
 refine py (e:=[(0,_),(1,_)]) func240 O ntmps240 O O<|qN O<|Rw O<|QV O<|QC O<|Qf TC O<|Qf UD O<|qV (Q0 U3 O O hB O)<|Ss O<|PR<|Qa O (λT=>?_)<|λT=>?_
 ·have nB:f.width=0:=ω
  refine qN O<|Rw O<|PQ func240 O (⟨_,O,?_,M,Kp.refl _ _⟩);rw[nB,Nat.pow_zero,y2Z]
  rfl
 ·have Iw:1<=f.width:=ω
  have Z:i*f.width<=64*30:=y15 ω wR;have D:(i+1)*f.width=i*f.width+f.width:=by rw[y0q,y0O]
  have K:(i+1)*f.width<=l.length*f.width:=y0S _ L;have C:((i*f.width:Nat):Int)=(i:Int)*(f.width:Int):=y1y _ _;have J:(((i+1)*f.width:Nat):Int)=((i:Int)+1)*(f.width:Int):=y1y _ _;have hg:=Ext.Qm w;refine PS (It (Sq (λw'=>Ext w w') O (Ql 0 O O hg (Ql 1 O O hg (PV 2 O (Rs O) hg (PV 3 O (QE TC O) hg (PV 4 O (QE UD O) hg (qT 5 O (λ_ h=>Q0 U3 O O (h.PO hB) O) hg (Ql 7 O O hg (PV 8 O (W7 O O ω) hg (Ql 9 O O hg (PV 10 O (Rs O) hg (PV 11 O (QE TC O) hg ?_)))))))))))));refine PV 12 O (QE UD O) hg (qT 13 O (λ_ h=>Q0 U3 O O (h.PO hB) O) hg (PV 6 O (WB O O (by rw[<-C];omega)) hg ?_));rw[<-C];refine PV 15 O (SG O) hg (PV 14 O (WB O O (by rw[<-J];omega)) hg ?_);rw[<-J,D];refine PV 16 O (SG O) hg<|qE<|QA.qb (e:=[(0,_),(4,_),(5,_),(6,_),(7,_)]) ?_;refine Qz O (QC O (Qf z4g O (qV (Q0 z3a O O hB O) (Q4 O (qV (Yx O O ω) (Ra O (Q4 O (Ra O (qV (Yx O O ω) (Q4 O (qV (Yx O O ω) (SA O ?_))))))))))));have yJ:=hg.PO hB;have b:=R.ext M hg (λk d=> .inl d);have c:∀k,X k->k<w.drew.heap.size:=λk d=>by have:=hX k d;have:=hg.size;omega
  have W:(Qw (Tx f.width l)).length=(l.length*f.width+7) / 8:=by rw[QP,VR]
  have Y:=zeu (k:=f.width) N;have S:∀rest,((Tx f.width l++rest).drop (i*f.width)).take f.width=Qu f.width (v%2^f.width):=Y;rw[D] at K
  generalize i*f.width=fr at Z K S C
  rw[show(12:Int)+(fr:Int) / 8=((12+fr / 8:Nat):Int) by omega,show((fr+f.width:Nat):Int)+7=((fr+f.width+7:Nat):Int) by omega,show((fr+f.width+7:Nat):Int) / 8-(fr:Int) / 8=(((fr+f.width+7) / 8-fr / 8:Nat):Int) by omega];have uq:fr / 8+((fr+f.width+7) / 8-fr / 8)<=(Qw (Tx f.width l)).length:=by rw[W];omega
  have jL:=zea l f uq
  have ur:12+fr / 8+((fr+f.width+7) / 8-fr / 8)<=(ZV l f).length:=by
   have e:(ZV l f).length=12+(Qw (Tx f.width l)).length+(Qw (hiB f.width 0 0 l)).length+(Qw (Tl f.width l)).length:=by
    unfold ZV;rw[y01,y01,y01,show Qw (Qu 32 f.n++Qu 64 f.u)=Qw (Uj f) from rfl,VX]
   omega
  refine S5 O O (yci R.cr R.mr O O) (R.rd (12+fr / 8) ((fr+f.width+7) / 8-fr / 8) b c ur) ?_;rintro _ w1⟨rfl,kH,g⟩;rw[jL];have Q:Kp (λk=>¬X k) w w1:=hg.kp.trans g;have p:=Q.PO hB (λe=>e hx)
  have P:(((Qw (Tx f.width l)).drop (fr / 8)).take ((fr+f.width+7) / 8-fr / 8)).length=(fr+f.width+7) / 8-fr / 8:=by
   rw[y0d,y08];omega
  obtain⟨zz,nh,-,-⟩:=Tt (Tx f.width l);have A:=z3g (B:=Qw (Tx f.width l)) (o:=fr / 8) (n:=(fr+f.width+7) / 8-fr / 8) (a:=fr%8) (m:=f.width) ω;rw[show 8*(fr / 8)+fr%8=fr by omega,nh,S] at A
  generalize ((Qw (Tx f.width l)).drop (fr / 8)).take ((fr+f.width+7) / 8-fr / 8)=pt at P A
  refine Q4 O<|Tr O<|Rw O<|QV O<|RI O<|PR<|QA.qb (e:=[(0,_),(4,_),(5,_),(6,_),(8,_),(9,_),(52,_)]) ?_;refine Us O (Qz O (Qj z9n O (Yi pt ω w1) ?_));rintro _ w2⟨r,rfl,F,j,cP⟩;refine Sb O (Qq O (qV (YH O O ω ω) ?_));rw[show fr&&&7=fr%8 from y13 fr 3];refine Qj zbL O (z0G F (fr%8) ω) ?_;rintro _ U⟨rfl,iQ,y⟩;have G:Ext w1 U:=j.An y (λi e=>ω);have E:=G.PO p;refine qM O (Qq O (QC O (Qf TC O (Qf UD O (qV (Q0 U3 O O E O) (Qj z66 O (WT iQ f.width ω) ?_))))));rintro v4 V pK
  have ip:v4= .tuple #[Qi (v%2^f.width),I 0]/\Kp (λk=>k=r) U V:=by
   rcases pK with⟨-,e,-,d⟩|⟨e,-,-⟩
   ·rw[A,Rl,Nat.mod_mod] at e;exact⟨e,d⟩
   ·omega
  obtain⟨rfl,s⟩:=ip;have H:Ext w1 V:=G.An s (λi e=>ω);refine Q4 O<|Tr O<|Rw O<|QA.qb (e:=[(4,_),(5,_),(11,_)]) ?_;refine Qz O<|Rw O<|PQ func240 O ?_;exact⟨_,O,O,R.ext kH H (λk d=> .inl d),Q.trans H.kp⟩
end Go.Proofs.YtbihggbffaigjaaGreatDoor
