/- Merged by program. -/
import Derived.Test.YtbihggbffaigjaaGreatDoorZp6
import Derived.Lib.UnsafeStr
import Derived.Deep.SlicePairs
set_option linter.all false
set_option maxRecDepth 1000000
set_option maxHeartbeats 16000000
namespace Go.Proofs.YtbihggbffaigjaaGreatDoor
open Go Go.RowKit Go.Proofs.Tryz
variable {B K K' a at' b bg bi bk bs bw bx each f gb gc i k rb st sum vb wb width:Nat}{E es:List (Nat×Nat)}{L:List Bool}{S' X:Nat->Prop}{P:Program}{Q Q':UB}{T s:Sa}{aft:Array Edge}{cs:List Value}{ea:Option Addr}{el t ty:TypeId}{g:List (List Nat)}{ms:List Dfr}{p:TX}{txt txt':Int->Sa}{w w':World}{xs:List Nat}
def z4W (bs bx bw:Nat):Value:= .func (.func 99) #[] #[ptr bs 0,ptr bx 0,ptr bw 0]
structure SwM (s st len wb bs bx bw:Nat)(rest:Value)(at' n sum:Nat)(w:World):Prop where
 wr:Sk w wb (swC s st len rest at' n sum (z4W bs bx bw) false) 197
 sb:Sk w bs [ptr s 0] 27
 xb:Sk w bx [I (st:Int),I (len:Int)] 124
 pb:Sk w bw [ptr wb 0] 143
 ne:bs≠wb/\bx≠wb/\bw≠wb
section
variable {s len n:Nat}{rest:Value}
def SwM.kp (h:SwM s st len wb bs bx bw rest at' n sum w)(c:Kp S' w w')(d:¬S' wb)(e:¬S' bs)(j:¬S' bx)(l:¬S' bw):SwM s st len wb bs bx bw rest at' n sum w':=
 ⟨c.S4 h.wr d,c.S4 h.sb e,c.S4 h.xb j,c.S4 h.pb l,h.ne⟩
theorem SwM.ext (h:SwM s st len wb bs bx bw rest at' n sum w)(c:Ext w w'):SwM s st len wb bs bx bw rest at' n sum w':=h.kp (S':=λ_=>False) c id id id id
def SwM.re {c:Value}{e n2 d:Nat}(h:SwM s st len wb bs bx bw rest at' n sum w)(j:Kp (λb=>b=wb) w w')(hB:Sk w' wb (swC s st len c e n2 d (z4W bs bx bw) false) 197):SwM s st len wb bs bx bw c e n2 d w':=
 ⟨hB,j.S4 h.sb h.ne.1,j.S4 h.xb h.ne.2.1,j.S4 h.pb h.ne.2.2,h.ne⟩
theorem SwM.cells (h:SwM s st len wb bs bx bw rest at' n sum w):Sk w wb [ptr s 0,I (st:Int),I (len:Int),rest,I (at':Int),I (n:Int),U sum,z4W bs bx bw,.bool false] 197:=h.wr
theorem z2N (C:Sp Q txt K X w)(D:∀b,X b->b<w.heap.size)(R:K<1000000000000)(h:SwM Q.s st len wb bs bx bw rest at' n sum w)(d:X wb/\X bs/\X bx/\X bw)(k:st+at'<Q.L.length)(t:Sa)(ht:t.length=512):
  SG prog 99 [S t,ptr bs 0,ptr bx 0,ptr bw 0] w λv w'=>v=I 0/\Sp Q (z2K txt ((st+at':Nat):Int) (some t)) (K+1) X w'/\SwM Q.s st len wb bs bx bw rest (at'+1) n sum w'/\Kp (λb=>¬X b\/b=wb) w w':=by
 have f:=C.n
 have W:=h.sb
 have U:=h.xb
 have Y:=h.pb
 have hB:=h.cells
 have hg:=Ext.Sv w
 refine py (e:=[(0,_),(1,_),(2,_),(3,_)]) func99 O ntmps99 O O<|TU O<|It<|Ux (λw'=>Kp (λb=>¬X b) w w') O<|qT 0 O (λ_ j=>(Sc Zh O O (j.S4 W (λe=>e d.2.1)) O)) hg.kp<|S8 1 O (SN Us O) hg.kp<|qT 2 O (λ_ j=>(Sc U3 O O (j.S4 U (λe=>e d.2.2.1)) O)) hg.kp<|qT 3 O (λ_ j=>(Sc z7c O O (j.S4 Y (λe=>e d.2.2.2)) O)) hg.kp<|S8 4 O (Tu O) hg.kp<|S8 5 O (SN z2o O) hg.kp<|qT 6 O (λ_ j=>(Sc U3 O O (j.S4 hB (λe=>e d.1)) O)) hg.kp<|S8 7 O (YB O O ω) hg.kp<|St 8 O O hg.kp ?_
 rw[show(st:Int)+(at':Int)=((st+at':Nat):Int) by omega]
 refine VF 9 O zg4 O ((C.ext' hg).write (λb u=>by have:=D b u;have:=hg.size;omega) R (no:=((st+at':Nat):Int)) ω ω t ht) ?_
 rintro _ w1⟨rfl,Z,l⟩
 refine⟨hg.kp.trans l,?_⟩
 have x:Kp (λb=>¬X b) w w1:=hg.kp.trans l
 have q:=h.kp x (λe=>e d.1) (λe=>e d.2.1) (λe=>e d.2.2.1) (λe=>e d.2.2.2)
 have A:=q.cells
 have F:=q.pb
 have g:∀b,X b->b<w1.heap.size:=λb u=>by have:=D b u;have:=x.size;omega
 refine S8 10 O (UU O) (hg.kp.trans l)<|qE<|qN O<|qV (Sc z7c O O F O)<|SC O<|Sn z2o O<|qV (Sc U3 O O A O)<|Tr O<|SC O<|Sn z2o O<|Sm O (TO T8 O O O A ξ) ?_
 rintro w2⟨G,m⟩
 have M:Sk w2 wb (swC Q.s st len rest (at'+1) n sum (z4W bs bx bw) false) 197:=G
 have r:=q.re m M
 have y:=r.cells
 have z:=r.pb
 have c:=Ext.Sv w2
 have J:=Z.own m (λb e=>by rw[e];exact d.1)
 refine S5<|It<|Sx [11] (λw'=>Ext w2 w') y00 O<|qL 0 O (λ_ h=>(Sc z7c O O (h.S4 z) O)) c<|qL 1 O (λ_ h=>(Sc z7c O O (h.S4 z) O)) c<|SB 2 O (Tu O) c<|SB 3 O (SN z2D O) c<|qL 4 O (λ_ h=>(Sc U4 O O (h.S4 y) O)) c<|Te 5 O O c<|Te 6 O O c<|SB 7 O (yne O O) c<|SB 8 O (Xg O O) c<|SB 9 O (Tu O) c<|SB 10 O (SN z2D O) c ?_
 refine Wg [11] ?_
 have H:=c.S4 y
 refine qO 11<|SY (i:=11) O O (TO Xh O O O H ξ) ?_
 rintro a⟨V,o⟩
 refine⟨trivial,?_⟩
 refine qE<|SI.qb (e:=[(5,_),(6,_)]) ?_
 refine SE O<|Sq O<|S3 func99 O ?_
 have N:=(r.ext c).re o (show Sk a wb (swC Q.s st len rest (at'+1) n sum (z4W bs bx bw) false) 197 from V)
 exact⟨_,O,O,(J.ext' c).own o (λb e=>by rw[e];exact d.1),N,((x.Se λb e=> .inl e).trans (m.Se λb e=> .inr e)).trans (c.kp.trans (o.Se λb e=> .inr e))⟩
end
section
variable {e:Env}{d:Option Nat}{t':TypeId}{pos:String}{g:Option (Nat×Bool)}{x:Operand}{l:Sa}{v:Value}
theorem zkc (u:P.underlying t=some (.slice el))(q:P.underlying el=some (.int .u8))(o:P.underlying t'=some .string)(y:look e x=some v)(hr:Rd w v 1 l.length (l.map WD))(C:0<l.length):
  Y P e ⟨d,.convert t t' x,ty,pos,aft,g⟩ (S l) w w:=fun ρ z=>by
 rcases hr.2 with⟨⟨ca,c⟩,h,A⟩|⟨b,off,cap,h,m⟩
 ·omega
 ·subst h;have hr:=run_convert_bytes_back (P:=P) w t t' el ⟨b,off,none⟩ cap l u q o (λj r=>by rw[UG];exact m j _ (by simp[r,WD]));simp[execOp,z _ _ y,hr]
end
section
variable {s len n:Nat}
theorem z7o (hP:Sp Q txt K X w){len:Nat}(h1:1<=len)(h2:st+len<=Q.L.length):
  SG prog 67 [ptr Q.s 0,.agg #[I (st:Int),I (len:Int)]] w λv w'=>∃wb bs bx bw sum,v= .tuple #[ptr wb 0,I 0]/\sum<4294967296/\SwM Q.s st len wb bs bx bw (.slice none 0 0) 0 0 sum w'/\(w.heap.size<=wb/\w.heap.size<=bs/\w.heap.size<=bx/\w.heap.size<=bw)/\Ext w w':=by
 have T:Sums.crc []<4294967296:=Sums.zjW _
 obtain⟨c0,b⟩:∃c0,Sums.crc []=c0:=⟨_,O⟩
 rw[b] at T
 refine py (e:=[(0,_),(1,_)]) func67 O ntmps67 O O<|qN O<|Sd O O (UD O (cs:=[ptr Q.s 0]) O) ?_
 rintro _ w1⟨bs,rfl,AP,k,nP⟩
 refine Sd O O (UD O (cs:=[I (st:Int),I (len:Int)]) O) ?_
 rintro _ w2⟨bx,rfl,gd,R,Y⟩
 have ma:=R.S4 nP
 have Pf:=hP.ext' (k.trans R)
 have c:=Ext.Sv w2
 have q:=c.size
 refine To O<|It<|Tc (λE w'=>∃wb bw,E=[(2,ptr bs 0),(3,ptr bx 0),(6,ptr bw 0)]/\Sk w' wb [ptr Q.s 0,I (st:Int),I (len:Int),.slice none 0 0,I 0,I 0,U c0,.nilFunc,.bool false] 197/\Sk w' bw [ptr wb 0] 143/\Ext w2 w'/\w2.heap.size<=wb/\w2.heap.size<=bw/\wb≠bw) ?bL<|λbL=>?dE
 case bL=>
  rintro E w3⟨wb,bw,rfl,t,oB,z,a,V,B⟩;have a0:=nP.lt;have a1:=Y.lt;have ee:=R.size;have gQ:=Pf.ext' z;refine It<|qN O<|qV (Sc z7c O O oB O)<|SC O<|Sn z0S O<|qV (SO z6E O z1g O (Sk.cells (n:=3) t (news:=[_,_,_]) O) O)<|Sr zl7 O (z3E gQ h1 h2) ?_;rintro _ w4⟨rfl,W⟩;have nA:=W.S4 oB;have aG:=W.S4 t;refine TR O (TK O (Tt O (qN O (qV (Sc z7c O O nA O) (qV (ymf (first:=[]) (caps:=[.tmp 2,.tmp 3,.tmp 6]) O O) (SC O (Sn z3Z O (Sm O (TO zku O O O aG ξ) ?_))))))));rintro S⟨o,p⟩;have f:=p.S4 nA (λe=>B e.symm);refine qM O<|qV (Sc z7c O O f O)<|To O<|S3 func67 O ?_;have Z:Ext w2 S:=(z.trans W).An p (λj e=>ω);refine⟨_,O,wb,bs,bx,bw,c0,O,T,⟨o,Z.S4 ma,Z.S4 Y,f,⟨ω,ω,λe=>B e.symm⟩⟩,⟨ω,ω,ω,ω⟩,(k.trans R).trans Z⟩
 case dE=>
 refine Sx [7] (λw'=>Ext w2 w') y00 O<|qL 0 O (λ_ h=>(Sc Zh O O (h.S4 ma) O)) c<|qL 1 O (λ_ hS=>(SO Z1 O UF O (Sk.cells (n:=2) (hS.S4 Y) (news:=[_,_]) O) O)) c<|SB 2 O (VI (cs:=[_,_,_]) z1g O ziZ O O) c<|Zj (i:=3) (j:=6) y00 ?_ ?_
 ·refine Uu (i:=3) O O O (yc (args:=[.const (Value.string (⟨#[]⟩))]) zn9 O) (zbS [] _ ξ) ?_;rintro _ w3⟨rfl,z⟩;refine⟨c.trans z,?_⟩;rw[b];have c:=c.trans z
  try have m:=z.S4 m
  have q:=y0d q z.size;refine SB 4 O (VI (cs:=[_,_,_,_,_,_,_,_,_]) zjd O zib O O) c<|Zj (i:=5) (j:=6) y00 ?_ ?_
  ·refine Ty (i:=5) O O O (UD O (cs:=[ptr Q.s 0,I (st:Int),I (len:Int),.slice none 0 0,I 0,I 0,U c0,.nilFunc,.bool false]) O) ?_;rintro _ S⟨wb,rfl,a,u,o⟩;refine⟨c.trans u,?_⟩;have c:=c.trans u
   try have m:=u.S4 m
   have M:w2.heap.size<=wb:=ω
   have q:=y0d q u.size;refine U6 (i:=6) y00<|Ty (i:=6) O O O (UK (cs:=[_]) z6w O) ?_;rintro _ w6⟨bw,rfl,V,r,m⟩;refine⟨c.trans r,?_⟩;have c:=c.trans r
   try have o:=r.S4 o
   have G:w2.heap.size<=bw:=ω
   have q:=y0d q r.size;refine Wg [7] (qO 7 (SY (i:=7) O O (TO z6w O O O m ξ) ?_));rintro N⟨A,C⟩;refine⟨trivial,?_⟩;refine qE ?_;replace A:Sk N bw [ptr wb 0] 143:=A
   have F:wb≠bw:=by
    intro e;have y:=o;rw[e] at y;obtain⟨P,y,-⟩:=y;obtain⟨H,D,-⟩:=m;rw[y] at D;cases D
   have J:=C.S4 o F;exact(bL _ _ ⟨wb,bw,O,J,A,c.An C (λj e=>ω),M,G,F⟩).qb
  ·refine Ty (i:=6) O O O (UK (cs:=[_]) z6w O) ?_;rintro _ w6⟨bw,rfl,V,r,m⟩;refine⟨c.trans r,?_⟩;have c:=c.trans r
   try have o:=r.S4 o
   have G:w2.heap.size<=bw:=ω
   have q:=y0d q r.size;refine U6 (i:=5) y00<|Ty (i:=5) O O O (UD O (cs:=[ptr Q.s 0,I (st:Int),I (len:Int),.slice none 0 0,I 0,I 0,U c0,.nilFunc,.bool false]) O) ?_;rintro _ S⟨wb,rfl,a,u,o⟩;refine⟨c.trans u,?_⟩;have c:=c.trans u
   try have m:=u.S4 m
   have M:w2.heap.size<=wb:=ω
   have q:=y0d q u.size;refine Wg [7] (qO 7 (SY (i:=7) O O (TO z6w O O O m ξ) ?_));rintro N⟨A,C⟩;refine⟨trivial,?_⟩;refine qE ?_;replace A:Sk N bw [ptr wb 0] 143:=A
   have F:wb≠bw:=by
    intro e;have y:=o;rw[e] at y;obtain⟨P,y,-⟩:=y;obtain⟨H,D,-⟩:=m;rw[y] at D;cases D
   have J:=C.S4 o F;exact(bL _ _ ⟨wb,bw,O,J,A,c.An C (λj e=>ω),M,G,F⟩).qb
 ·refine Ty (i:=6) O O O (UK (cs:=[_]) z6w O) ?_;rintro _ w6⟨bw,rfl,V,r,m⟩;refine⟨c.trans r,?_⟩;have c:=c.trans r
  try have o:=r.S4 o
  have G:w2.heap.size<=bw:=ω
  have q:=y0d q r.size;refine U6 (i:=3) y00 (Uu (i:=3) O O O (yc (args:=[.const (Value.string (⟨#[]⟩))]) zn9 O) (zbS [] _ ξ) ?_);rintro _ w3⟨rfl,z⟩;refine⟨c.trans z,?_⟩;rw[b];have c:=c.trans z
  try have m:=z.S4 m
  have q:=y0d q z.size;refine SB 4 O (VI (cs:=[_,_,_,_,_,_,_,_,_]) zjd O zib O O) c (U6 (i:=5) y00 (Ty (i:=5) O O O (UD O (cs:=[ptr Q.s 0,I (st:Int),I (len:Int),.slice none 0 0,I 0,I 0,U c0,.nilFunc,.bool false]) O) ?_));rintro _ S⟨wb,rfl,a,u,o⟩;refine⟨c.trans u,?_⟩;have c:=c.trans u
  try have m:=u.S4 m
  have M:w2.heap.size<=wb:=ω
  have q:=y0d q u.size;refine Wg [7] (qO 7 (SY (i:=7) O O (TO z6w O O O m ξ) ?_));rintro N⟨A,C⟩;refine⟨trivial,?_⟩;refine qE ?_;replace A:Sk N bw [ptr wb 0] 143:=A
  have F:wb≠bw:=by
   intro e;have y:=o;rw[e] at y;obtain⟨P,y,-⟩:=y;obtain⟨H,D,-⟩:=m;rw[y] at D;cases D
  have J:=C.S4 o F;exact(bL _ _ ⟨wb,bw,O,J,A,c.An C (λj e=>ω),M,G,F⟩).qb
end
section
variable {len n:Nat}{rest:Value}
theorem zcM (T:Sa)(k:Nat):((T.drop (512*k)).map WD).drop 512=(T.drop (512*(k+1))).map WD:=by
 rw[<-y1S,y0G]
 congr 2
def SwI (Q:UB)(txt:Int->Sa)(K:Nat)(X:Nat->Prop)(st len wb bs bx bw:Nat)(T:Sa)(sum:Nat)(w:World)(k:Nat)(w':World):Prop:=
 ∃txt' rest,Sp Q txt' (K+k) (λb=>X b\/rest.ownBlock=some b) w'/\SwM Q.s st len wb bs bx bw rest k T.length sum w'/\Sl w' rest 5 1 (T.length-512*k) ((T.drop (512*k)).map WD)/\(∀j,j<k->txt' ((st+j:Nat):Int)=(T.drop (512*j)).take 512)/\(∀y:Int,y<(st:Int)\/(st:Int)+(k:Int)<=y->txt' y=txt y)/\Kp (λb=>¬X b\/b=wb) w w'/\(∀b,rest.ownBlock=some b->w.heap.size<=b)
theorem z8I (f:Sp Q txt K X w)(hX:∀b,X b->b<w.heap.size)(hK:K<=100000000000)(h:SwM Q.s st len wb bs bx bw (.slice none 0 0) 0 0 sum w)(iK:sum<4294967296)(o:X wb/\X bs/\X bx/\X bw)(bN:st+len<=Q.L.length)(h1:1<=len)(hT:T.length<=len*512-12):
  SG prog 68 [ptr wb 0,S T] w λv w'=>v=I 0/\∃q,q<4294967296/\SwI Q txt K X st len wb bs bx bw T q w (T.length / 512) w':=by
 have fI:maxLen=9223372036854775807:=rfl
 have eE:=f.n
 refine py (e:=[(0,_),(1,_)]) func68 O ntmps68 O O<|TU O<|SX O<|Sr ziO O (z2A h.wr) ?_
 rintro _ w⟨rfl,rfl⟩
 refine TR O<|TK O<|Tt O<|SX O<|qV (Ys U9 O)<|Sf O<|Sr znF O (z9n f ω ω h.wr) ?_
 rintro _ w1⟨rfl,J⟩
 have nT:=f.ext' J
 have dy:=h.ext J
 have aj:=dy.cells
 refine Ub O<|T0<|Tt O<|SE O<|SC O<|Sn z47 O<|qV (Sc U3 O O aj O)<|Sf O<|qV (Ys U9 O)<|Tr O<|SC O<|Sn z47 O ?_
 rw[show((0:Nat):Int)+(T.length:Int)=(T.length:Int) by omega]
 refine Sm O (TO T8 O O O aj ξ) ?_
 rintro w2⟨ak,N⟩
 have dG:=dy.re N (show Sk w2 wb (swC Q.s st len (.slice none 0 0) 0 T.length sum (z4W bs bx bw) false) 197 from ak)
 have eM:=nT.own N (λb e=>by rw[e];exact o.1)
 have fg:=dG.cells
 refine qM O<|Sz O<|SC O<|Sn z6z O<|qV (Sc U0 O O fg O)<|Sf O<|Sr zik O (zf3 sum T _ iK ω) ?_
 rintro _ w3⟨rfl,M⟩
 have uQ:=Sums.zin T iK
 obtain⟨d,iF⟩:∃d,Sums.on sum T=d:=⟨_,O⟩
 rw[iF] at uQ⊢
 have oz:=dG.ext M
 have au:=oz.cells
 refine SC O<|Sn z6z O<|Sm O (TO Sy O O O au ξ) ?_
 rintro G⟨aG,R⟩
 have oT:=oz.re R (show Sk G wb (swC Q.s st len (.slice none 0 0) 0 T.length d (z4W bs bx bw) false) 197 from aG)
 have iL:=(eM.ext' M).own R (λb e=>by rw[e];exact o.1)
 have fY:=oT.cells
 refine S5<|SI.qb (e:=[(0,_),(1,_),(4,_)]) ?_
 refine TV O<|SC O<|Sn Ww O<|qV (Sc TT O O fY O)<|Sf O<|Sd O O (zl1 TT U9 ti5 O O (Sl.nil G _ 1) ω) ?_
 rintro v5 w5⟨a,D,pn⟩
 simp only[y18,y0g] at a
 replace D:Ext G w5:=D.Se (λb e=>by cases e)
 have xt:∀b,v5.ownBlock=some b->G.heap.size<=b:=λb e=>(pn b e).elim (λe=>by cases e) id
 obtain⟨a5,c5,rfl,-⟩:=a.rd.shape
 have ot:=oT.ext D
 have aF:=ot.cells
 have cq:Kp (λb=>¬X b\/b=wb) w w5:=(((J.kp.trans (N.Se λb e=> .inr e)).trans M.kp).trans (R.Se λb e=> .inr e)).trans D.kp
 have z4:w.heap.size<=G.heap.size:=by have:=J.size;have:=N.size;have:=M.size;have:=R.size;omega
 have a1:=aF.lt
 have a0:=hX _ o.1
 refine SC O<|Sn Ww O<|Sm O (TO z1r O O O aF ξ) ?_
 rintro P⟨aW,H⟩
 have HT:=ot.re H (show Sk P wb (swC Q.s st len (.slice a5 T.length c5) 0 T.length d (z4W bs bx bw) false) 197 from aW)
 have qd:Sp Q txt K (λb=>X b\/(Value.slice a5 T.length c5).ownBlock=some b) P:=(iL.ext D (λb e=>e.imp id (xt b))).own H (λb e=> .inl (by rw[e];exact o.1))
 have iN:=a.kp H (λb m e=>by have:=xt b m;omega)
 have oS:=HT.cells
 have jl:=cq.trans (H.Se λb e=>Or.inr e)
 refine qM O<|Sf O<|SC O<|Sn z0S O<|Sn YU O<|qV (Sc Zh O O oS O)<|Sr z82 O qd.size ?_
 rintro _ P⟨rfl,rfl⟩
 refine Sq O<|TZ<|UW (α:=Nat) (0) (λk=>[(0,ptr wb 0),(6,I 512)]) (λk w'=>k<=T.length / 512/\SwI Q txt K X st len wb bs bx bw T d w k w') (λk=>T.length / 512-k) ?hI ?hround
 case hI=>exact⟨y02 _,txt,_,qd,HT,iN,λj hj=>ω,λy hy=>rfl,jl,λb m=>by have:=xt b m;omega⟩
 case hround=>
  rintro k V⟨hk,r,rest,rv,p,x,jo,Ca,W,mB⟩ ih;obtain⟨a8,c8,rfl,-⟩:=x.rd.shape;have Y:=p.cells;have KS:=W.size
  try dsimp only
  refine SX O<|SC O<|Sn Ww O<|qV (Sc TT O O Y O)<|UR TT O<|Sf O<|WZ O<|S5<|So O (λh0=>?_)<|λh0=>?_
  ·have Ph:512*k+512<=T.length:=ω
   rcases x.shape with⟨e,yX⟩|⟨gb,cc,e,I3⟩
   ·omega
   cases e;have On:=mB gb O;have hg:=Ext.Sv V;have dL:((T.drop (512*k)).take 512).length=512:=by rw[y0c,y08];omega
   have Il:Rd V (.slice (some ⟨gb,0,none⟩) 512 c8) 1 ((T.drop (512*k)).take 512).length (((T.drop (512*k)).take 512).map WD):=by
    rw[dL,y1g];exact YT x.rd ω
   have Pi:∀b,(X b\/(Value.slice (some ⟨gb,0,none⟩) (T.length-512*k) c8).ownBlock=some b)->b<V.heap.size:=λb m=>by
    rcases m with e| e
    ·have:=hX b e;omega
    ·exact x.lt e
   refine S6 (S7 (It (It (Sx [11,12] (λw'=>Ext V w') y00 O (Te 0 O O hg (SB 1 O (Tu O) hg (SB 2 O (SN z3Z O) hg (qL 3 O (λ_ h=>Sc U55 O O (h.S4 Y) O) hg (Te 4 O O hg (SB 5 O (Tu O) hg (SB 6 O (SN Ww O) hg (qL 7 O (λ_ h=>Sc TT O O (h.S4 Y) O) hg (Te 8 O O hg ?_)))))))))))));refine SB 9 O (zhV TT ti5 O O ω) hg (qL 10 O (λ_ hS=>zkc (l:=(T.drop (512*k)).take 512) TT U5 U9 O (Il.ext hS) ω) hg (Wg [11] (qO 11 (z0r (i:=11) O O O (Vc zk2 O O) (z2N (rv.ext' hg) (λb m=>by have:=Pi b m;have:=hg.size;omega) ω (p.ext hg) ⟨.inl o.1,.inl o.2.1,.inl o.2.2.1,.inl o.2.2.2⟩ ω ((T.drop (512*k)).take 512) dL) ?_))));rintro _ w9⟨rfl,zk,Eu,aK⟩;refine⟨trivial,?_⟩;refine S8 12 O (UU O) trivial<|qE<|SE O<|TK O ?_;have cI:=Eu.cells;have g:=hg.kp.trans aK
   have zP:=x.kp g (λb m e=>by
    rcases e with e| e
    ·exact e (.inr m)
    ·have e1:gb=b:=UC m
     omega)
   have KT:=g.size;refine Tt O (Sg O (Sz O (SC O (Sn Ww O (qV (Sc TT O O cI O) (Sf O (qV (z1P TT ti5 O O ω ω) (Sd O O (pap TT ti5 O ψ O O (Sl.nil w9 _ 1) (XC (i:=512) zP.rd ω ω) (λc hc=>by obtain⟨z,-,rfl⟩:=y0k.1 (y1T hc);rfl) ω ω) ?_))))))));rintro B E⟨Z,C,cB,-⟩;rw[y18,zcM,y0g,show T.length-512*k-512=T.length-512*(k+1) by omega] at Z;replace C:Ext w9 E:=C.Se (λb e=>by cases e);have t:∀b,B.ownBlock=some b->w9.heap.size<=b:=λb e=>(cB b e).elim (λe=>by cases e) id;obtain⟨A,F,rfl,-⟩:=Z.rd.shape;have Cb:=Eu.ext C;have eP:=Cb.cells;refine SC O (Sn Ww O (Sm O (TO z1r O O O eP ξ) ?_));rintro u⟨bq,U⟩;have Im:=Cb.re U (show Sk u wb (swC Q.s st len (.slice A (T.length-512*(k+1)) F) (k+1) T.length d (z4W bs bx bw) false) 197 from bq);have In:Sp Q (z2K r ((st+k:Nat):Int) (some ((T.drop (512*k)).take 512))) (K+k+1) (λb=>X b\/(Value.slice A (T.length-512*(k+1)) F).ownBlock=some b) u:=(zk.ext C (λb e=>e.elim (λe=> .inl (.inl e)) (λe=> .inr (t b e)))).own U (λb e=> .inl (by rw[e];exact o.1));have fw:=Z.kp U (λb m e=>by have:=t b m;omega);refine S5<|S2 ((ih (k+1) u ⟨ω,_,_,In,Im,fw,λj hj=>?_,λy hy=>?_,?_,λb m=>by have:=t b m;omega⟩ ω).qb)
   ·by_cases e:j=k
    ·subst e;exact VC _ _ _
    ·rw[UZ _ _ ω];exact jo j ω
   ·rw[UZ _ _ ω];exact Ca y ω
   ·refine(W.An g λb e=>?_).trans (C.kp.trans (U.Se λb e=> .inr e));rcases e with e| e
    ·by_cases m:X b
     ·exact absurd (.inl m) e
     ·exact .inr (.inl m)
    ·exact .inr (.inr e)
  ·have Pk:k=T.length / 512:=ω
   subst Pk;refine Sh O<|TU O<|S3 func68 O ?_;exact⟨_,O,O,d,uQ,r,_,rv,p,x,jo,Ca,W,mB⟩
end
section
variable {len n:Nat}{rest:Value}
def z1j (n sum:Nat):Sa:=WY 8 n++WY 4 sum
def z7w (n sum:Nat):(z1j n sum).length=12:=by simp[z1j,T6]
theorem z8C (hP:Sp Q txt K (λb=>X b\/rest.ownBlock=some b) w)(hX:∀b,X b->b<w.heap.size)(hK:K<=200000000000)(h:SwM Q.s st len wb bs bx bw rest (T.length / 512) T.length sum w)(iK:sum<4294967296)(d:X wb/\X bs/\X bx/\X bw)(bN:st+len<=Q.L.length)(ax:len=(T.length+523) / 512)
  (hS:Sl w rest 5 1 (T.length%512) ((T.drop (512*(T.length / 512))).map WD)) (C:∀b,rest.ownBlock=some b->¬X b) (jo:∀j,j<T.length / 512->txt ((st+j:Nat):Int)=(T.drop (512*j)).take 512):
  SG prog 69 [ptr wb 0] w λv w'=>v=I 0/\∃txt',Sp Q txt' (K+2) X w'/\(∀j,512*j<T.length->∃z,txt' ((st+j:Nat):Int)=(T.drop (512*j)).take 512++z)/\(∃z,txt' ((st+(len-1):Nat):Int)=z++z1j T.length sum/\z.length=500)/\(∀y:Int,y<(st:Int)\/(st:Int)+(len:Int)<=y->txt' y=txt y)/\Kp (λb=>¬X b\/b=wb) w w':=by
 have fI:maxLen=9223372036854775807:=rfl
 have eE:=hP.n
 obtain⟨E,c0,rfl,-⟩:=hS.rd.shape
 have hB:=h.cells
 have Pm:∀b,(Value.slice E (T.length%512) c0).ownBlock=some b->b<w.heap.size:=λb x=>hS.lt x
 have hg:=Ext.Sv w
 refine py (e:=[(0,_)]) func69 O ntmps69 O O<|TU O<|SX O<|Sr ziO O (z2A h.wr) ?_
 rintro _ w⟨rfl,rfl⟩
 refine TR O<|TK O<|Tt O<|SE O<|SC O<|Sn z0S O<|Sn YU O<|qV (Sc Zh O O hB O)<|Sr z82 O hP.size ?_
 rintro _ w⟨rfl,rfl⟩
 refine Sq O<|It<|It<|Tc (λU w'=>∃q,U=[(0,ptr wb 0),(4,I 512),(38,.bool q)]/\(q=true↔T.length / 512<len-1)/\Ext w w') ?dq<|λdq=>?gU
 case dq=>
  rintro U w1⟨q,rfl,W,G⟩;have nT:=hP.ext' G;have h1:=h.ext G;have mP:=hS.ext G;have aj:=h1.cells;have mV:=G.size;refine Tc (λU w'=>U=[(0,ptr wb 0),(4,I 512)]/\∃u c R l,Sp Q u (K+1) (λb=>X b\/c.ownBlock=some b) w'/\SwM Q.s st len wb bs bx bw c R T.length sum w'/\Sl w' c 5 1 l.length (l.map WD)/\l.length<=500/\(∀b,c.ownBlock=some b->¬X b)/\l=T.drop (512*(len-1))/\(∀j,j<len-1->512*j<T.length->∃z,u ((st+j:Nat):Int)=(T.drop (512*j)).take 512++z)/\(∀y:Int,y<(st:Int)\/(st:Int)+(len:Int)<=y->u y=txt y)/\Kp (λb=>¬X b\/b=wb) w w') ?az<|λaz=>?eO
  case az=>
   rintro U w2⟨rfl,u,c,R,l,eM,p,S,E6,D,hl,Io,Ip,H⟩;obtain⟨a2,c2,rfl,-⟩:=S.rd.shape;have ak:=p.cells;have r:=Ext.Sv w2;have oq:=H.size;refine It (Ux (λw'=>Kp (λb=>(Value.slice a2 l.length c2).ownBlock=some b) w2 w') O (St 0 O O (r.kp) (S8 1 O (Tu O) (r.kp) (S8 2 O (SN Ww O) (r.kp) (qT 3 O (λ_ h=>Sc TT O O (h.S4 ak (λe=>D _ e d.1)) O) (r.kp) (St 4 O O (r.kp) (S8 5 O (ysb O O ω) (r.kp) (St 6 O O (r.kp) (S8 7 O (Tu O) (r.kp) (S8 8 O (SN Ww O) (r.kp) (qT 9 O (λ_ h=>Sc TT O O (h.S4 ak (λe=>D _ e d.1)) O) (r.kp) (S8 10 O (VQ TT O) (r.kp) (S8 11 O (ysb O O ω) (r.kp) ?_)))))))))))));rw[show(512:Int)-12-(l.length:Int)=((500-l.length:Nat):Int) by omega];refine qO 12 (z1Y (i:=12) O O O (zkC TT U3 U9 ti5 O O (S.ext r) ω) ?_);rintro v3 w3⟨f,N,sx⟩;refine⟨r.kp.trans N,?_⟩;have Cc:l.length+(500-l.length)=500:=ω
   rw[Cc,<-y0f] at f;obtain⟨P,c3,rfl,-⟩:=f.rd.shape;have k:=r.kp.trans N
   have fN:∀b,(Value.slice P 500 c3).ownBlock=some b->¬X b:=λb x e=>by
    rcases sx b x with e2|e2
    ·exact D b e2 e
    ·have:=hX b e;have:=r.size;omega
   have gQ:Sp Q u (K+1) (λb=>X b\/(Value.slice P 500 c3).ownBlock=some b) w3:=eM.step k (λb e=> .inr e) (λb e=>e.elim (λe=> .inl (.inl e)) (λe=>(sx b e).imp .inr (λe=>by have:=r.size;omega)));have V:=p.kp k (λe=>D _ e d.1) (λe=>D _ e d.2.1) (λe=>D _ e d.2.2.1) (λe=>D _ e d.2.2.2);have Z:=V.cells;have cj:Kp (λb=>¬X b\/b=wb) w w3:=H.An k (λb e=> .inr (.inl (D b e)));refine S8 13 O (UU O) (r.kp.trans N)<|qE<|TV O<|SC O<|Sn z0S O<|Sn XS O<|Sn UI O<|qV (Sc U3 O O Z O)<|UO O<|SC O<|Sn z2o O ?_;rw[show(len:Int)-1=((len-1:Nat):Int) by omega];refine Sm O (TO T8 O O O Z ξ) ?_;rintro J⟨aG,A⟩;have t:=V.re A (show Sk J wb (swC Q.s st len (.slice a2 l.length c2) (len-1) T.length sum (z4W bs bx bw) false) 197 from aG);have iL:=gQ.own A (λb e=> .inl (by rw[e];exact d.1));have eF:=f.kp A (λb x e=>fN b x (by rw[e];exact d.1));have fY:=t.cells;have m:=Ext.Sv J;have cX:=cj.trans (A.Se λb e=>Or.inr e);have iH:=T6 8 T.length;have fO:=T6 4 sum;have F:(l++zeros (500-l.length)).length=500:=by rw[y01,show(zeros (500-l.length)).length=500-l.length by simp[zeros]];omega
   rw[y01] at F;refine S5<|SI.qb (e:=[(0,_),(6,_)]) ?_;refine It (Sx [20,21] (λw'=>Ext J w') y00 O (Te 0 O O m (SB 1 O (Tu O) m (SB 2 O (SN z3Z O) m (qL 3 O (λ_ h=>Sc U55 O O (h.S4 fY) O) m (Te 4 O O m (Te 6 O O m (SB 7 O (Tu O) m (SB 8 O (SN z47 O) m (qL 9 O (λ_ h=>Sc U3 O O (h.S4 fY) O) m (SB 10 O (TM O U3 Va ω) m (Te 13 O O m (SB 14 O (Tu O) m ?_)))))))))))));refine SB 15 O (SN z6z O) m (qL 16 O (λ_ h=>Sc U0 O O (h.S4 fY) O) m (SB 17 O (TM O U0 Va ω) m (qL 5 O (λ_ h=>zkc (l:=l++zeros (500-l.length)) TT U5 U9 O (by rw[y01,F];exact eF.rd.ext h) (by rw[y01];omega)) m ?_)));refine U6 (i:=11) y00 (Uu (i:=11) O O O (yc zj9 O) (z3j T.length 8 _ ω ω) ?_);rintro _ w5⟨rfl,M⟩;refine⟨m.trans M,?_⟩;refine SB 12 O (Zq O O (by first|omega|(simp;done)|(simp;omega))) (m.trans M) ?_;refine U6 (i:=18) y00 (Uu (i:=18) O O O (yc zj9 O) (z3j sum 4 _ ω ω) ?_);rintro _ w6⟨rfl,aM⟩;refine⟨(m.trans M).trans aM,?_⟩;have g:=(m.trans M).trans aM
   have oI:∀b,(X b\/(Value.slice P 500 c3).ownBlock=some b)->b<w6.heap.size:=λb x=>by
    have:=g.size;have:=A.size;have:=k.size;rcases x with e| e
    ·have:=hX b e;omega
    ·have:=f.lt e;omega
   refine SB 19 O (Zq O O (by first|omega|(simp;done)|(simp;omega))) ((m.trans M).trans aM) ?_;refine Wg [20] ?_;have nv:(l++zeros (500-l.length)++WY 8 T.length++WY 4 sum).length=512:=by rw[y01,y01,y01,F,T6,T6]
   refine qO 20 (z0r (i:=20) O O O (Vc zk2 O O) (z2N (iL.ext' g) oI ω (t.ext g) ⟨.inl d.1,.inl d.2.1,.inl d.2.2.1,.inl d.2.2.2⟩ ω _ nv) ?_);rintro _ w7⟨rfl,Ce,h7,ay⟩;refine⟨trivial,?_⟩;have cm:=h7.cells;refine S8 21 O (UU O) trivial (qE (SE O (SC O (Sn z2D O (Sm O (TO Xh O O O cm ξ) ?_)))));rintro w8⟨aZ,aH⟩;have rv:=(Ce.own aH (λb e=> .inl (by rw[e];exact d.1))).less (Y:=X) (λb e=> .inl e);refine S5<|SI.qb (e:=[(7,_)]) ?_;refine SE O<|Sq O<|S3 func69 O (⟨_,O,O,_,rv,λj hj=>?_,⟨l++zeros (500-l.length),?_,by rw[y01,F]⟩,λy hy=>?_,?_⟩)
   ·by_cases e:j=len-1
    ·subst e;refine⟨zeros (500-l.length)++WY 8 T.length++WY 4 sum,?_⟩;rw[VC];show l++_++_++_=_;rw[<-hl,y0B ω];simp only[y06]
    ·obtain⟨z,hz⟩:=Io j ω hj;exact⟨z,by rw[UZ _ _ ω];exact hz⟩
   ·rw[VC];show _++_++_=_;unfold z1j;simp only[y06]
   ·rw[UZ _ _ ω];exact Ip y hy
   ·refine((cX.trans g.kp).An ay λb e=>?_).trans (aH.Se λb e=> .inr e);rcases e with e| e
    ·by_cases x:X b
     ·exact absurd (.inl x) e
     ·exact .inr (.inl x)
    ·exact .inr (.inr e)
  case eO=>
   refine TL O (λB=>?_)<|λB=>?_
   ·have B1:=W.1 B;have hr:500<T.length%512/\T.length / 512=len-2/\2<=len:=ω
    have o:=Ext.Sv w1;refine It (It (Sx [17,18] (λw'=>Kp (λb=>(Value.slice E (T.length%512) c0).ownBlock=some b) w1 w') y00 O (Te 0 O O o.kp (SB 1 O (Tu O) o.kp (SB 2 O (SN z3Z O) o.kp (qL 3 O (λ_ h=>Sc U55 O O (h.S4 aj (λe=>C _ e d.1)) O) o.kp (Te 4 O O o.kp (SB 5 O (Tu O) o.kp (SB 6 O (SN Ww O) o.kp (qL 7 O (λ_ h=>Sc TT O O (h.S4 aj (λe=>C _ e d.1)) O) o.kp (Te 8 O O o.kp (Te 9 O O o.kp (SB 10 O (Tu O) o.kp ?_)))))))))))));refine SB 11 O (SN Ww O) o.kp (qL 12 O (λ_ h=>Sc TT O O (h.S4 aj (λe=>C _ e d.1)) O) o.kp (SB 13 O (VQ TT O) o.kp (SB 14 O (ysb O O ω) o.kp ?_)));rw[show(512:Int)-((T.length%512:Nat):Int)=((512-T.length%512:Nat):Int) by omega];refine U6 (i:=15) y00 (Ty (i:=15) O O O (zkC TT U3 U9 ti5 O O (mP.ext o) ω) ?_);rintro v2 w2⟨S,H,qQ⟩;refine⟨o.kp.trans H,?_⟩;rw[show T.length%512+(512-T.length%512)=512 by omega,<-y0f] at S;have F:(T.drop (512*(T.length / 512))++zeros (512-T.length%512)).length=512:=by rw[y01,y08,show(zeros (512-T.length%512)).length=512-T.length%512 by simp[zeros]];omega
    refine U6 (i:=16) y00 (ziW (i:=16) O O O (zkc (l:=T.drop (512*(T.length / 512))++zeros (512-T.length%512)) TT U5 U9 O (by rw[F];exact S.rd) ω) (o.kp.trans H) ?_);have a:=o.kp.trans H;have eM:Sp Q txt K X w2:=nT.step a (λb e=> .inr e) (λb e=> .inl (.inl e));have p:=h1.kp a (λe=>C _ e d.1) (λe=>C _ e d.2.1) (λe=>C _ e d.2.2.1) (λe=>C _ e d.2.2.2);have oq:=a.size;refine Wg [17] (qO 17 (z0r (i:=17) O O O (Vc zk2 O O) (z2N eM (λb x=>by have:=hX b x;omega) ω p d ω _ F) ?_));rintro _ w3⟨rfl,gQ,V,N⟩;refine⟨trivial,?_⟩;have Z:=V.cells;refine S8 18 O (UU O) trivial (qE (SE O (TK O (Tt O (Uw O (SC O (Sn Ww O (Sm O (TO z1r O O O Z ξ) ?_))))))));rintro J⟨aG,A⟩;have t:=V.re A (show Sk J wb (swC Q.s st len (.slice none 0 0) (T.length / 512+1) T.length sum (z4W bs bx bw) false) 197 from aG);have iL:=gQ.own A (λb e=>by rw[e];exact d.1);have mx:(T.drop (512*(T.length / 512))).take 512=T.drop (512*(T.length / 512)):=y0B (by rw[y08];omega);refine S5<|SI.qb (e:=[(0,_),(4,_)]) ?_;refine(az _ _ ⟨O,_,.slice none 0 0,_,[],iL.less (λb e=>e.elim id (λe=>by cases e)),t,Sl.nil J _ 1,y02 _,(λb e=>by cases e),(y2m ω).symm,λj hj mC=>?_,λy hy=>?_,?_⟩).qb
    ·by_cases e:j=T.length / 512
     ·subst e;exact⟨zeros (512-T.length%512),by rw[VC,mx];rfl⟩
     ·exact⟨[],by rw[UZ _ _ ω,y0q];exact jo j ω⟩
    ·rw[UZ _ _ ω]
    ·refine((G.kp.An a λb e=> .inr (.inl (C b e))).trans N).trans (A.Se λb e=> .inr e)
   ·have B1:¬T.length / 512<len-1:=λe=>by rw[W.2 e] at B;cases B
    have Pn:T.length / 512=len-1:=ω
    have gD:(T.drop (512*(T.length / 512))).length=T.length%512:=by rw[y08];omega
    refine S6 ((az _ _ ⟨O,txt,.slice E (T.length%512) c0,T.length / 512,T.drop (512*(T.length / 512)),nT.more ω,h1,by rw[gD];exact mP,ω,C,by rw[Pn],λj hj mC=>⟨[],by rw[y0q];exact jo j ω⟩,λy hy=>rfl,G.kp⟩).qb)
 case gU=>
  refine Ux (λw'=>Ext w w') O (St 0 O O hg (S8 1 O (Tu O) hg (S8 2 O (SN z2o O) hg (qT 3 O (λ_ h=>Sc U3 O O (h.S4 hB) O) hg (St 4 O O hg (S8 5 O (Tu O) hg (S8 6 O (SN z0S O) hg (S8 7 O (SN XS O) hg (S8 8 O (SN UI O) hg (qT 9 O (λ_ h=>Sc U3 O O (h.S4 hB) O) hg (S8 10 O (ysb O O ω) hg ?_)))))))))));rw[show(len:Int)-1=((len-1:Nat):Int) by omega];rcases y0a (T.length / 512) (len-1) with W|W
  ·refine S8 11 O (ylt O O) hg<|Xl<|St 12 O O hg<|St 13 O O hg<|S8 14 O (Tu O) hg<|S8 15 O (SN Ww O) hg<|qT 16 O (λ_ h=>Sc TT O O (h.S4 hB) O) hg<|S8 17 O (VQ TT O) hg<|S8 18 O (ygt O O) hg<|Xl<|S8 19 O (YD O O) hg<|qE<|SI.qb (e:=[(0,_),(2,_),(4,_),(38,_)]) ?_;exact(dq _ _ ⟨true,O,⟨λ_=>W,λ_=>rfl⟩,hg⟩).qb
  ·refine S8 11 O (ylt O O) hg<|WW<|St 12 O O hg<|qJ 13 O hg<|qJ 14 O hg<|qJ 15 O hg<|qJ 16 O hg<|qJ 17 O hg<|qJ 18 O hg<|S8 19 O (Xg O O) hg<|qE<|SI.qb (e:=[(0,_),(2,_),(4,_),(38,_)]) ?_;exact(dq _ _ ⟨false,O,⟨λe=>(by cases e),λe=>ω⟩,hg⟩).qb
end
open Go.Shelf
def BdM (w:World)(b:Nat)(l:Sa)(v:Value):Prop:=(∃p,(p= .pointer none\/p=ptr b 0)/\Sk w b [p,v] 175)/\Sl w v 5 1 l.length (l.map WD)/\v.ownBlock≠some b
section
variable {l:Sa}{v:Value}
theorem BdM.kp (h:BdM w b l v)(j:Kp S' w w')(m:¬S' b)(o:∀g,v.ownBlock=some g->¬S' g):BdM w' b l v:=by
 obtain⟨⟨p,u,hB⟩,q,r⟩:=h
 exact⟨⟨p,u,j.S4 hB m⟩,q.kp j o,r⟩
def BdM.new (h:Sk w b [.pointer none,.slice none 0 0] 175):BdM w b [] (.slice none 0 0):=⟨⟨_,.inl O,h⟩,Sl.nil w _ 1,λe=>by cases e⟩
def Sk.shape {T:TypeId}(h:Sk w b cs T):w.shape? b=some (T,cs.length):=by
 obtain⟨m,j,-⟩:=h
 simp[World.shape?,j]
theorem zeQ (h:BdM w b l v):SG prog 122 [ptr b 0] w λr w'=>r= .tuple #[]/\BdM w' b l v/\Kp (λk=>k=b) w w':=by
 obtain⟨⟨p,z,hB⟩,q,o⟩:=h
 rcases z with rfl|rfl
 ·refine y1P (Any.Builder_copyCheck_fresh {zjw with} zjE.toX72 b w (hB.cell 0) hB.shape (hB.free (i:=0) ξ)) λ_ _ ⟨m,j⟩=>⟨_,m,O,?_,?_⟩
  ·rw[j];have u:=Xo w b 0 (ptr b 0);exact⟨⟨_,.inr O,z0x hB 0 (ptr b 0)⟩,q.kp u (λg hg e=>o (e▸hg)),o⟩
  ·rw[j];exact Xo w b 0 _
 ·exact y1P (Any.Builder_copyCheck_used {zjw with} zjE.toX72 b w (hB.cell 0)) λ_ _ ⟨m,j⟩=>⟨_,m,O,by rw[j];exact⟨⟨_,.inr O,hB⟩,q,o⟩,by rw[j];exact Kp.refl _ _⟩
theorem z7G (h:BdM w b l v)(s:Sa)(H:l.length+s.length<=140737488355328):SG prog 84 [ptr b 0,S s] w λ_ w'=>∃A,BdM w' b (l++s) A/\Kp (λk=>k=b\/v.ownBlock=some k) w w'/\(∀g,A.ownBlock=some g->v.ownBlock=some g\/w.heap.size<=g):=by
 refine py (e:=[(0,_),(1,_)]) func84 O ntmps84 O O<|qN O<|Vj O<|TR O<|Sr zlx O (zeQ h) ?_
 rintro _ w1⟨rfl,⟨⟨p,I,j⟩,J,u⟩,q⟩
 have N:=q.size
 have M:=j.lt
 refine qM O<|Sz O<|SC O<|Sn z3Q O<|qV (Sc TT O O j O)<|Sf O<|Sd O O (zl1 TT U9 ti5 O O J H) ?_
 rintro C w2⟨o,m,D⟩
 have F:=m.S4 j u
 have R:=m.size
 have z:C.ownBlock≠some b:=λe=>by
  rcases D b e with e| e
  ·exact u e
  ·omega
 refine SC O<|Sn z3Q O<|Sm O (TO z1r O O (Wz o) F ξ) ?_
 rintro U⟨G,r⟩
 refine qM O<|Sf O<|qV (Ys U9 O)<|To O<|S3 func84 O ?_
 rw[<-y01,<-y0f] at o
 refine⟨_,O,C,⟨⟨p,I,G⟩,o.kp r (λg hg e=>z (e▸hg)),z⟩,((q.Se λk e=> .inl e).trans (m.Se λk e=> .inr e)).trans (r.Se λk e=> .inl e),λg hg=>(D g hg).imp id λe=>ω⟩
def zdR (w:World)(a:Addr)(n:Nat):Kp (λk=>k=a.block) w (w.freeze a n):=by
 by_cases j:n=0
 ·subst j;rw[show w.freeze a 0=w by simp[World.freeze]];exact Kp.refl _ w
 ·unfold World.freeze;rw[if_neg j]
  exact⟨rfl,rfl,rfl,ξ,λk _ m=>by
   simp only[y3j]
   rw[if_neg (λh=>m h.symm)]⟩
section
variable {e:Env}{d:Option Nat}{it:TypeId}{pos:String}{g:Option (Nat×Bool)}{x y:Operand}{n c:Nat}{a:Option Addr}
def zoj (j:look e x=some (.slice a n c))(h:a≠none->c≠0):Y P e ⟨d,.call ⟨.builtin .unsafeSliceData,#[x],#[t]⟩,ty,pos,aft,g⟩ (.pointer a) w w:=fun ρ m=>by
 have hr:∀w,(Builtin.unsafeSliceData_ #[t] ty #[.slice a n c]).run P w= .ok (.pointer a) w:=λw=>by
  cases a with
  |none=>rfl
  |some a=>exact Lib.run_unsafeSliceData_row (P:=P) w #[t] ty a n c (h ξ)
 simp[execOp,resolve,invoke,builtin,m _ _ j,hr]
theorem zpn (R:P.underlying t=some (.pointer el))(M:P.cellsOf el=1)(u:look e x=some (.pointer a))(z:look e y=some (I (l.length:Int)))(q:Sl w (.slice a l.length c) el 1 l.length (l.map WD))(C:l.length<=9223372036854775807)(G:l=[]\/∃g,a=some ⟨g,0,none⟩):
  Yp P e ⟨d,.call ⟨.builtin .unsafeString,#[x,y],#[t,it]⟩,ty,pos,aft,g⟩ w λr w'=>r=S l/\Kp (λk=>(Value.slice a l.length c).ownBlock=some k) w w':=by
 by_cases o:l=[]
 ·subst o;have hr:=Lib.run_unsafeString_none (P:=P) w t it ty a;refine⟨_,w,fun ρ h=>?_,rfl,Kp.refl _ _⟩;have H:=h _ _ u;have J:ρ y= .int .i64 0:=h _ _ z;simp[execOp,resolve,invoke,builtin,H,J,hr]
  rfl
 ·obtain⟨b,rfl⟩:=G.resolve_left o;obtain⟨m,A,V,W,D,U⟩:=q.row;have F:=y2w q (g:=b) O;simp only[y0j] at D U
  have hr:=Lib.run_unsafeString_row (P:=P) w t it ty el R M b m.length (by unfold YE at A;simp[World.shape?,A]) l o ω C (λj x N=>by
   have:=F j (WD x) (by rw[y0l,N];rfl)
   exact this)
  refine⟨_,_,fun ρ h=>?_,rfl,(zdR w ⟨b,0,none⟩ l.length).Se λk e=>by rw[show k=b from e];rfl⟩;simp[execOp,resolve,invoke,builtin,h _ _ u,h _ _ z,hr]
end
theorem z6l (h:BdM w b l v)(A:l=[]->v= .slice none 0 0)(F:l.length<=140737488355328):SG prog 85 [ptr b 0] w λr w'=>r=S l/\Kp (λk=>v.ownBlock=some k) w w':=by
 obtain⟨⟨p,H,hB⟩,m,G⟩:=h
 obtain⟨a,c,rfl,D⟩:=m.rd.shape
 have hg:=Ext.Sv w
 have q:l=[]\/∃g,a=some ⟨g,0,none⟩:=by
  rcases m.shape with⟨e,j⟩|⟨g,cap,e,j⟩
  ·exact .inl (y0x j)
  ·cases e;exact .inr ⟨g,O⟩
 have C:a≠none->c≠0:=λe=>by
  by_cases o:l=[]
  ·have:=A o
   injection this with e1 _ _
   exact absurd e1 e
  ·have I:l.length≠0:=by simpa using o
   rcases m.shape with⟨_,j⟩|⟨g,cap,z,j⟩
   ·omega
   ·cases z;omega
 refine py (e:=[(0,_)]) func85 O ntmps85 O O<|TU O<|It<|Sx [10,11] (λw'=>Ext w w') y00 O<|Te 0 O O hg<|SB 1 O (Tu O) hg<|SB 2 O (SN z3Q O) hg<|qL 3 O (λ_ h=>Sc TT O O (h.S4 hB) O) hg<|Te 5 O O hg<|SB 6 O (Tu O) hg<|SB 7 O (SN z3Q O) hg<|qL 8 O (λ_ h=>Sc TT O O (h.S4 hB) O) hg<|SB 9 O (VQ TT O) hg<|SB 4 O (zoj O C) hg ?_
 refine Wg [10]<|qO 10<|z1Y (i:=10) O O O (zpn zoQ y00 O O (m.ext hg) ω q) ?_
 rintro _ w1⟨rfl,u⟩
 refine⟨trivial,?_⟩
 refine S8 11 O (UU O) trivial<|qE<|S3 func85 O ?_
 exact⟨_,O,O,hg.kp.trans u⟩
end
def srC (s st len n sum:Nat):List Value:=[ptr s 0,I (st:Int),I (len:Int),I (n:Int),U sum]
section
variable {len n:Nat}
theorem zaq (M:Sp Q txt K X w)(E:∀b,X b->b<w.heap.size)(B:K<1000000000000)(t:1<=len)(f:st+len<=Q.L.length)(hn:n<=len*512-12)(iK:sum<4294967296)(T:∃z,txt ((st+(len-1):Nat):Int)=z++z1j n sum/\z.length=500):
  SG prog 70 [ptr Q.s 0,.agg #[I (st:Int),I (len:Int)]] w λv w'=>∃rb,v= .tuple #[ptr rb 0,I 0]/\Sk w' rb (srC Q.s st len n sum) 202/\w.heap.size<=rb/\Sp Q txt K (λb=>X b\/b=rb) w'/\Kp (λb=>¬X b) w w':=by
 have eE:=M.n
 obtain⟨z,hz,h⟩:=T
 have d:=z7w n sum
 refine py (e:=[(0,_),(1,_)]) func70 O ntmps70 O O<|qN O<|Sd O O (UD O (cs:=[I (st:Int),I (len:Int)]) O) ?_
 rintro _ w1⟨bx,rfl,gd,F,R⟩
 refine Vj O<|TR O<|qV (SO (news:=[I (st:Int),I (len:Int)]) Z1 O UF O (R.cells (n:=2) O) O)<|qV (VI (cs:=[_,_,_]) z1g O ziZ O O)<|qV (VI (cs:=[_,_,_,_,_]) znC O zlQ O O)<|Sd O O (UD O (cs:=[ptr Q.s 0,I (st:Int),I (len:Int),I 0,U 0]) O) ?_
 rintro _ w2⟨rb,rfl,KX,q,r⟩
 have D:=F.trans q
 have V:=q.S4 R
 have z1:=F.size
 have z2:=q.size
 have J:Sp Q txt K (λb=>X b\/b=rb) w2:=M.ext D (λb e=>e.imp id λe=>ω)
 refine Sq O<|SX O<|SC O<|Sn z2E O<|qV (SO z6E O z1g O (Sk.cells (n:=3) r (news:=[_,_,_]) O) O)<|Sr zl7 O (z3E J t f) ?_
 rintro _ w3⟨rfl,c⟩
 have p:=J.ext' c
 have a:=c.S4 r
 have x:=c.S4 V
 have z3:=c.size
 have l2:=r.lt
 have H:=p.read (λb P=>by
  rcases P with e| e
  ·have:=E b e;omega
  ·omega) B (no:=((st+(len-1):Nat):Int)) ω ω
 rw[hz] at H
 refine TR O<|TK O<|Tt O<|SE O<|Sn Us O<|qV (Sc U3 O O x O)<|Sn UI O<|qV (Sc U3 O O x O)<|Tr O<|UO O ?_
 rw[show(st:Int)+(len:Int)-1=((st+(len-1):Nat):Int) by omega]
 refine Sr zfD O H ?_
 rintro _ w4⟨rfl,iL,G⟩
 have Y:=G.S4 a (λe=>e (.inr O))
 refine Sf O<|Vk O<|To O<|SI.qb (e:=[(4,_),(5,_),(6,_),(8,_),(9,_)]) ?_
 refine SX O<|TK O<|Tt O<|TV O<|qV (Ys U9 O) ?_
 rw[show((z++z1j n sum).length:Int)=512 by rw[y01,d,h];rfl]
 refine UO O ?_
 rw[show(512:Int)-12=((500:Nat):Int) by omega]
 refine qV (z3t (m:=500) U9 O O (by rw[y01,d,h];omega)) ?_
 rw[show(z++z1j n sum).drop 500=z1j n sum from y11 h]
 refine TR O<|qV (z6a (m:=8) U9 O O (by rw[d];omega)) ?_
 rw[show(z1j n sum).take 8=WY 8 n from y1a (T6 _ _)]
 have vh:T2 (SA (WY 8 n))=n:=z3N ω
 have W:T2 (SA (WY 4 sum))=sum:=z3N ω
 have iH:=T6 8 n
 have fO:=T6 4 sum
 refine Sr ziU O (z64 (WY 8 n) ω _) ?_
 rintro _ w5⟨rfl,l⟩
 rw[vh]
 have y:=l.S4 Y
 have N:=iL.ext' l
 refine Sq O<|It<|TV O<|SC O<|Sn z2E O<|qV (SO z6E O z1g O (Sk.cells (n:=3) y (news:=[_,_,_]) O) O)<|Sr ziq O (z50 N ω) ?_
 rintro _ w6⟨rfl,j⟩
 have Z:=j.S4 y
 have qd:=N.ext' j
 refine qV (TM O U3 Va ω)<|Ub O<|T0<|S5<|SI.qb (e:=[(4,_),(5,_),(6,_),(10,_),(11,_),(54,_)]) ?_
 refine VP O<|TV O<|Sf O<|qV (T7 O Va U3 ω)<|Sf O<|qV (z3t (m:=8) U9 O O (by rw[d];omega)) ?_
 rw[show(z1j n sum).drop 8=WY 4 sum from y11 (T6 _ _)]
 refine Sr ziU O (z64 (WY 4 sum) ω _) ?_
 rintro _ w7⟨rfl,u⟩
 rw[W]
 have i:=u.S4 Z
 refine qV (z4r O Va U0)<|SC O<|Sn z48 O<|Sm O (TO T8 O O O i ξ) ?_
 rintro w8⟨o,A⟩
 replace o:Sk w8 rb [ptr Q.s 0,I (st:Int),I (len:Int),I (n:Int),U 0] 202:=o
 refine SC O<|Sn zh3 O ?_
 rw[y0e (show sum<2^32 by omega)]
 refine Sm O (TO Sy O O O o ξ) ?_
 rintro w9⟨g,C⟩
 refine qM O<|Sf O<|To O<|S3 func70 O ?_
 have zk:=(((qd.ext' u).own A (λb e=> .inr e)).own C (λb e=> .inr e))
 refine⟨_,O,rb,O,g,ω,zk,?_⟩
 have nU:Kp (λb=>¬X b) w w4:=((D.trans c).kp (S:=λb=>¬X b)).trans (G.Se λb e k=>e (.inl k))
 refine(((nU.trans (l.trans (j.trans u)).kp).An A λb e=> .inl ω).An C λb e=> .inl ω)
def zep (hB:Sk w rb (srC Q.s st len n sum) 202):SG prog 290 [ptr rb 0] w λv w'=>v=I (n:Int)/\w'=w:=by
 replace hB:Sk w rb [ptr Q.s 0,I (st:Int),I (len:Int),I (n:Int),U sum] 202:=hB
 refine py (e:=[(0,_)]) func290 O ntmps290 O O<|TU O<|SX O<|qV (T9 zgU O O)<|Tt O<|SE O<|SC O<|Sn z48 O<|qV (Sc U3 O O hB O)<|Sq O<|S3 func290 O ?_
 exact⟨_,O,O,O⟩
theorem zfs (C:Sp Q txt K (λb=>X b\/b=rb) w)(E:∀b,X b->b<w.heap.size)(xv:¬X rb)(k:K<1000000000000)(bN:st+len<=Q.L.length)(B:Laid txt st T)(hB:Sk w rb (srC Q.s st len T.length sum) 202)(hT:T.length<=len*512)(off n:Nat)(ho:off+n<=T.length):
  SG prog 291 [ptr rb 0,I (off:Int),I (n:Int)] w λv w'=>v= .tuple #[S ((T.drop off).take n),I 0]/\Sp Q txt K (λb=>X b\/b=rb) w'/\Sk w' rb (srC Q.s st len T.length sum) 202/\Kp (λb=>¬X b) w w':=by
 have eE:=C.n
 have a1:=hB.lt
 replace hB:Sk w rb [ptr Q.s 0,I (st:Int),I (len:Int),I (T.length:Int),U sum] 202:=hB
 refine py (e:=[(0,_),(1,_),(2,_)]) func291 O ntmps291 O O<|qN O<|To O<|TZ<|SE O<|qV (T9 zgU O O)<|Sq O<|S9 O<|SE O<|TW O<|T0<|Sz O<|TW O<|T0 ?_
 refine Td O<|Sz O<|Sf O<|SC O<|Sn z48 O<|qV (Sc U3 O O hB O)<|Ub O<|T0<|Td O<|Sz O<|Sf O<|SC O<|Sn z48 O<|qV (Sc U3 O O hB O) ?_
 refine Sf O<|UO O<|Ub O<|T0<|Td O<|Sq O<|SI.qb (e:=[(0,_),(1,_),(2,_),(6,_),(7,_),(15,_)]) ?_
 refine VP O<|S2<|SE O<|SC O<|Sn z2E O<|Sn YU O<|qV (Sc Zh O O hB O)<|Sr z82 O C.size ?_
 rintro _ w⟨rfl,rfl⟩
 refine Up O<|Sd O O (UK (cs:=[_,_]) zih O) ?_
 rintro _ w1⟨d,rfl,yH,u,yZ⟩
 have xw:=BdM.new yZ
 have z1:=u.size
 refine S5<|TZ<|UW (α:=Nat×Value) (0,Value.slice none 0 0) (λy=>[(0,ptr rb 0),(1,I ((off+y.1:Nat):Int)),(2,I ((n-y.1:Nat):Int)),(8,I 512),(9,ptr d 0)]) (λy w'=>y.1<=n/\BdM w' d ((T.drop off).take y.1) y.2/\(y.1=0->y.2= .slice none 0 0)/\(∀g,y.2.ownBlock=some g->w.heap.size<=g)/\Sp Q txt K (λb=>(X b\/b=rb)\/b=d\/y.2.ownBlock=some b) w'/\Kp (λb=>¬(X b\/b=rb)) w w') (λy=>n-y.1) ?hI ?hround
 case hI=>exact⟨y02 _,xw,λ_=>rfl,λg hg=>(by cases hg),C.ext u (λb e=>e.imp id λe=>e.elim (λe=>ω) (λe=>by cases e)),u.kp⟩
 case hround=>
  rintro⟨m,v⟩ w2 ⟨P,j,W,r,o,l⟩ N;dsimp only at P j W r o N⊢;have G:=l.S4 hB (λe=>e (.inr O));have hg:=Ext.Sv w2;have z2:=l.size;have a0:d<w2.heap.size:=by obtain⟨⟨p,hp,h⟩,-,-⟩:=j;exact h.lt
  have n6:∀b,((X b\/b=rb)\/b=d\/v.ownBlock=some b)->b<w2.heap.size:=λb h=>by
   rcases h with(e|e)|e| e
   ·have:=E b e;omega
   ·omega
   ·omega
   ·exact j.2.1.lt e
  try dsimp only
  refine SX O<|Ub O<|S5<|So O (λi=>?_)<|λi=>?_
  ·obtain⟨q,hq⟩:∃q,min (n-m) (512-(off+m)%512)=q:=⟨_,O⟩;have a:=o.z3f (x:=((st+(off+m) / 512:Nat):Int)) ω ω;have R:=B.piece (off:=off+m) (n:=q) ω ω;have M:=(o.ext' hg).read (λb h=>by have:=n6 b h;have:=hg.size;omega) k (no:=((st+(off+m) / 512:Nat):Int)) ω ω;obtain⟨t,ht⟩:∃t,txt ((st+(off+m) / 512:Nat):Int)=t:=⟨_,O⟩;rw[ht] at a R M;refine S6<|S7<|It<|Ux (λw'=>Kp (λb=>¬((X b\/b=rb)\/b=d\/v.ownBlock=some b)) w2 w') O<|St 0 O O (hg.kp)<|S8 1 O (Tu O) (hg.kp)<|S8 2 O (SN z2E O) (hg.kp)<|S8 3 O (SN YU O) (hg.kp)<|qT 4 O (λ_ D=>Sc Zh O O (D.S4 G (λe=>e (.inl (.inr O)))) O) (hg.kp)<|St 5 O O (hg.kp)<|S8 6 O (Tu O) (hg.kp)<|S8 7 O (SN z2E O) (hg.kp)<|S8 8 O (SN XS O) (hg.kp)<|S8 9 O (SN Us O) (hg.kp) ?_;refine qT 10 O (λ_ D=>Sc U3 O O (D.S4 G (λe=>e (.inl (.inr O)))) O) (hg.kp) (St 11 O O (hg.kp) (St 12 O O (hg.kp) (S8 13 O (yqu O O ω) (hg.kp) (S8 14 O (YB O O ω) (hg.kp) ?_))));rw[show(st:Int)+((off+m:Nat):Int) / 512=((st+(off+m) / 512:Nat):Int) by omega];refine VF 15 O zfD O (M) ?_;rintro _ Y⟨rfl,f,c⟩;refine⟨hg.kp.trans c,?_⟩;have z:=hg.kp.trans c;have xz:=j.kp z (λe=>e (.inr (.inl O))) (λg hg e=>e (.inr (.inr hg)));refine St 16 O O (hg.kp.trans c) (S8 17 O (UY O O) (hg.kp.trans c) (S8 18 O (UY O O) (hg.kp.trans c) (S8 19 O (UU O) (hg.kp.trans c) (S8 20 O (UU O) (hg.kp.trans c) (qE (SX O (TK O (Tt O (TV O (Sf O (qV (yre O O ω) ?_)))))))))));rw[show((off+m:Nat):Int)%512=(((off+m)%512:Nat):Int) by omega];refine qV (z3t U9 O O ω)<|Up O<|Sz O<|Sf O<|qV (Ys U9 O)<|qV (ymi O O) ?_;rw[show min ((n-m:Nat):Int) ((t.drop ((off+m)%512)).length:Int)=((q:Nat):Int) by rw[y08];omega];refine qV (z6a (m:=q) U9 O O (by rw[y08];omega)) ?_;rw[R];have F:((T.drop (off+m)).take q).length=q:=by rw[y0c,y08];omega
   have iD:((T.drop off).take m).length<=m:=by rw[y0c];omega
   refine TR O (Sr zkK O (z7G xz ((T.drop (off+m)).take q) ω) ?_);rintro _ w4⟨v4,ti,H,V⟩;have z3:=z.size;refine qM O<|Sz O<|qV (Ys U9 O) ?_;rw[F];refine Tr O<|Sq O<|Sg O<|Sz O<|qV (Ys U9 O) ?_;rw[F];refine UO O<|Sq O<|S2 ?_;rw[show((off+m:Nat):Int)+(q:Int)=((off+(m+q):Nat):Int) by omega,show((n-m:Nat):Int)-(q:Int)=((n-(m+q):Nat):Int) by omega];refine(N (m+q,v4) _ ⟨by dsimp only;omega,?_,λe=>by dsimp only at e;omega,λg hg=>(V g hg).elim (r g) (λe=>ω),?_,?_⟩ (by dsimp only;omega)).qb
   ·dsimp only;rw[y2V,y0G];exact ti
   ·exact f.step H (λb e=> .inr e) (λb e=>by
     rcases e with e|e| e
     ·exact .inl (.inl e)
     ·exact .inl (.inr (.inl e))
     ·exact(V b e).imp (λe=> .inr (.inr e)) id)
   ·refine(l.trans (z.Se λb e A=>e (.inl A))).An H λb e=> .inl ?_;rcases e with e| e
    ·omega
    ·exact r b e
  ·have Z:m=n:=ω
   subst Z;refine Sh O (qN O (Sr zo9 O (z6l j (λe=>W (by have:=congrArg List.length e;rw[y0c,y08,y1e] at this;omega)) (by rw[y0c,y08];omega)) ?_));rintro _ Y⟨rfl,c⟩;refine To O<|S3 func291 O ?_;have J:Kp (λb=>¬(X b\/b=rb)) w Y:=l.An c (λb e=> .inl (r b e));exact⟨_,O,O,o.step c (λb e=> .inr (.inr e)) (λb e=> .inl (.inl e)),J.S4 hB (λe=>e (.inr O)),J.Se λb e A=>e (.inl A)⟩
end
section
variable {u:Value}{R:Src t u (pkT p g E)}{x:Nat}{Y:Nat->Prop}
theorem z5h (k v:Nat)(w:World):SG prog 116 [ptr k 0,I (v:Int)] w λr w'=>∃bk bi,r= .func (.func 152) #[] #[ptr bk 0,ptr bi 0]/\Sk w' bk [ptr k 0] 28/\Sk w' bi [I (v:Int)] 3/\w.heap.size<=bk/\w.heap.size<=bi/\Ext w w':=by
 refine py (e:=[(0,_),(1,_)]) func116 O ntmps116 O O<|qN O<|Sd O O (UD O (cs:=[ptr k 0]) O) ?_
 rintro _ w1⟨bk,rfl,l,c,h⟩
 refine Sd O O (UD O (cs:=[I (v:Int)]) O) ?_
 rintro _ w2⟨bi,rfl,m,d,j⟩
 refine Up O<|qV (ymf (first:=[]) (caps:=[.tmp 2,.tmp 3]) O O)<|Sq O<|S3 func116 O ?_
 have:=c.size
 exact⟨_,O,bk,bi,O,d.S4 h,j,ω,ω,c.trans d⟩
theorem zaD {l v:Nat}(jZ:g.length<50)(q:v<g.length)(h:YC R k x X w)(L:Sk w bk [ptr k 0] 28)(uS:Sk w bi [I (v:Int)] 3)(Z:Nat->Prop)(T:∀j,Z j->X j)(J:(Nat->Prop)->Nat->World->Prop)(F:World->Prop)
  (P:∀(Y:Nat->Prop)(w':World),(∀j,X j->Y j)->(∀j,Y j->X j\/w.heap.size<=j)->YC R k x Y w'->Kp (λj=>¬X j) w w'->J Y 0 w')
  (hround:∀(Y:Nat->Prop)(i s:Nat) (w':World),(∀j,X j->Y j)->(∀j,Y j->X j\/w.heap.size<=j)->(Si g v)[i]? =some s->J Y i w'->z4Y prog l [SV s,I 0] w' λr m=>(r= .bool true/\J Y (i+1) m/\Kp (λj=>¬Y j\/Z j) w' m)\/(r= .bool false/\F m)):
  SG prog 152 [.func (.yield l) #[] #[],ptr bk 0,ptr bi 0] w λr w'=>r= .tuple #[]/\((∃Y,(∀j,X j->Y j)/\(∀j,Y j->X j\/w.heap.size<=j)/\J Y (Si g v).length w')\/F w'):=by
 have V:=h.lt
 have ic:(Si g v).length<=g.length:=by
  unfold Si;rw[y04 q];exact h.ok.gr.len (y1s q)
 refine py (e:=[(0,_),(1,_),(2,_)]) func152 O ntmps152 O O<|qN O<|qV (Sc U28 O O L O)<|qV (Sc U3 O O uS O)<|Sr zlj O (zaM jZ q h) ?_
 rintro _ w1⟨vv,rfl,mP,N,G,W⟩
 have C:=mP.rd
 obtain⟨a,c,rfl,ha⟩:=C.shape
 refine Sf O<|qV (UY (v:= .slice a (Si g v).length c) O O)<|qV (UY (v:=I 0) O O)<|To O<|SX O<|TK O<|Tt O<|SE O<|UR SR O<|Sf O<|S5<|S7 ?_
 obtain⟨Y,n⟩:∃Y:Nat->Prop,(λj=>X j\/(Value.slice a (Si g v).length c).ownBlock=some j)=Y:=⟨_,O⟩
 rw[n] at G
 have o:∀j,X j->Y j:=λj d=>by rw[<-n];exact .inl d
 have y:∀j,Y j->X j\/w.heap.size<=j:=λj d=>by
  rw[<-n] at d;exact d.imp id (N j)
 have A:∀j,(Value.slice a (Si g v).length c).ownBlock=some j->Y j/\¬Z j:=λj d=>⟨by rw[<-n];exact .inr d,λe=>by have h2:=N j d;have h3:=V j (T j e);omega⟩
 refine UW (α:=Nat) (0) (λi=>[(0,.func (.yield l) #[] #[]),(19,.slice a (Si g v).length c),(20,I ((Si g v).length:Int)),(21,I (i:Int))]) (λi w'=>i<=(Si g v).length/\J Y i w'/\Rd w' (.slice a (Si g v).length c) 1 (Si g v).length ((Si g v).map SV)) (λi=>(Si g v).length-i) ?hI ?hround
 case hI=>exact⟨y02 _,P Y w1 o y G W,C⟩
 case hround=>
  rintro i w2⟨hi,H,z⟩ ih
  try dsimp only
  refine qN O<|TW O<|S5<|It<|So O (λhq=>?_)<|λhq=>?_
  ·obtain⟨s,M⟩:∃s,(Si g v)[i]? =some s:=⟨_,y04 ω⟩;rcases z.2 with⟨⟨ca,cc⟩,D,yX⟩|⟨b,off,cap,D,hc⟩
   ·omega
   cases D;have B:w2.cell? ⟨b,off+i*1,none⟩=some (SV s):=hc (i*1) _ (by rw[y0j,y0l,M];rfl);refine S6 (TZ (qN O (qV (Tm SR Sy O O ω) (qV (SQ U0 O O B) (Up O (Sz O (zad O O (yy O O) (hround Y i s w2 o y M H) ?_)))))));rintro r w3 iB;rcases iB with⟨rfl,U,f⟩|⟨rfl,Q⟩
   ·refine qV (Vn O)<|Tt O<|S2<|Sg O<|Tr O<|Sf O<|S5 ?_;exact(ih (i+1) _ ⟨ω,U,z.kp f (λj d e=>e.elim (λe=>e (A j d).1) (A j d).2)⟩ ω).qb
   ·refine qV (Vn O)<|S5<|Sb O<|S3 func152 O ?_;exact⟨_,O,O,.inr Q⟩
  ·have K:i=(Si g v).length:=ω
   subst K;refine Sh O<|Tv func152 O ?_;exact⟨_,O,O,.inl ⟨Y,o,y,H⟩⟩
end
structure StO (Q:UB)(txt:Int->Sa)(K st len:Nat)(T:Sa):Prop where
 k:K<1000000000000
 fit:st+len<=Q.L.length
 laid:Laid txt st T
 len:T.length<=len*512
def zbk {Q:UB}{txt:Int->Sa}{K st len:Nat}{T:Sa}(o:StO Q txt K st len T)(rb sum:Nat):Src 146 (ptr rb 0) T where
 inv X w:=Sp Q txt K (λb=>X b\/b=rb) w/\Sk w rb (srC Q.s st len T.length sum) 202/\¬X rb
 fl:=290
 fr:=291
 cl:=znm
 cr:=zob
 ml:=y00
 mr:=y00
 ext:=λh m c=>⟨h.1.ext m λb e=>e.elim (λe=>(c b e).elim (λe=> .inl (.inl e)) .inr) (λe=> .inl (.inr e)),m.S4 h.2.1,λe=>(c _ e).elim h.2.2 (λe=>by have:=h.2.1.lt;omega)⟩
 step:=λh l j c=>⟨h.1.step l (λb e=> .inl (j b e)) λb e=>e.elim (λe=>(c b e).elim (λe=> .inl (.inl e)) .inr) (λe=> .inl (.inr e)),l.S4 h.2.1 (λe=>h.2.2 (j _ e)),λe=>(c _ e).elim h.2.2 (λe=>by have:=h.2.1.lt;omega)⟩
 len:=λh=>(zep (Q:=Q) h.2.1).mono λv w' ⟨d,A⟩=>⟨d,by rw[A];exact Ext.refl _⟩
 rd:=λoff n h z C=>(zfs h.1 z h.2.2 o.k o.fit o.laid h.2.1 o.len off n C).mono λv w' ⟨d,q,r,y⟩=>⟨d,⟨q,r,h.2.2⟩,y⟩
section
variable {u:Value}{x:Nat}{S:Nat->Prop}
def YC.re {R l:Src t u (pkT p g E)}(h:YC R k x X w)(c:Kp S w w')(d:∀j,S j->j≠k/\j≠x/\j≠1/\j≠2)(m:l.inv X w'):YC l k x X w':=
 ⟨h.ok,c.S4 h.S4 (λe=>(d _ e).1 O),c.S4 h.ix (λe=>(d _ e).2.1 O),h.xk,h.xx,m,λj n=>by have:=h.lt j n;have:=c.size;omega,h.x1,h.x2,c.S4 h.gam (λe=>(d _ e).2.2.1 O),c.S4 h.una (λe=>(d _ e).2.2.2 O)⟩
def zaU {len:Nat}(n:WB p g E)(o:StO Q txt K st len (pkT p g E))(r:(zbk o rb sum).inv X w)(m:∀j,X j->j<w.heap.size)(x1:X 1)(x2:X 2)(q:Sk w 1 (W5 .gamma) 314)(y:Sk w 2 (W5 .unary) 314):
  SG prog 71 [ptr rb 0] w λv w'=>∃k x,v= .tuple #[ptr k 0,I 0]/\w.heap.size<=k/\w.heap.size<=x/\YC (zbk o rb sum) k x (λj=>X j\/j=x\/j=k) w'/\Kp (λj=>¬X j) w w':=by
 refine py (e:=[(0,_)]) func71 O ntmps71 O O<|qN O<|To O<|SX O<|qV (T9 zgU O O)<|Tt O<|SE O<|qV (zmw zgU (λ_ h=>by cases h) rfl) ?_
 refine Sr zlv O (zaE n (zbk o rb sum) r m) ?_
 rintro _ w1⟨k,x,rfl,d,l,C,A,F,D,c⟩
 refine Vk O<|To O<|S3 func71 O ?_
 have J:=c.size
 have G:=d.lt
 have H:=l.lt
 refine⟨_,O,k,x,O,A,C,⟨n,d,l,.inr (.inr O),.inr (.inl O),D,λj z=>?_,.inl x1,.inl x2,c.S4 q (λe=>e x1),c.S4 y (λe=>e x2)⟩,c⟩
 rcases z with e|e| e
 ·have:=m j e;omega
 ·omega
 ·omega
end
theorem zhL {n:Nat}(c:1<=each):max (1:Int) (((n:Int)+(each:Int)-1) / (each:Int))=((vcL n each:Nat):Int):=by
 unfold vcL
 rw[show(n:Int)+(each:Int)-1=((n+each-1:Nat):Int) by omega]
 have h:((n+each-1:Nat):Int) / (each:Int)=(((n+each-1) / each:Nat):Int):=rfl
 rw[h]
 generalize (n+each-1) / each=q
 omega
section
variable {n:Nat}
abbrev shV (n width each:Nat):Value:= .agg #[I (n:Int),I (width:Int),I (each:Int)]
theorem z2t (n width each:Nat)(h:1<=each/\each<=512)(l:n<=4194304)(w:World):SG prog 72 [shV n width each] w λv w'=>v=I (vcL n each:Int)/\Ext w w':=by
 refine py (e:=[(0,_)]) func72 O ntmps72 O O<|qN O<|Sd O O (UD O (cs:=[I (n:Int),I (width:Int),I (each:Int)]) O) ?_
 rintro _ w1⟨b1,rfl,j,d,c⟩
 refine Up O<|Sn z0T O<|qV (Sc U3 O O c O)<|Sn ZK O<|qV (Sc U3 O O c O)<|Tr O<|UO O<|Sn ZK O<|qV (Sc U3 O O c O)<|qV (yqu O O ω)<|qV (yma O O)<|Sq O ?_
 rw[zhL h.1]
 refine S3 func72 O ?_
 exact⟨_,O,O,d⟩
theorem z4V (n width each x:Nat)(q:width=1\/width=2\/width=4\/width=8)(l:x<2^(8*width))(w:World):SG prog 75 [shV n width each,Su x] w λv w'=>v= .bool true/\Ext w w':=by
 refine py (e:=[(0,_),(1,_)]) func75 O ntmps75 O O<|qN O<|Sd O O (UD O (cs:=[I (n:Int),I (width:Int),I (each:Int)]) O) ?_
 rintro _ w1⟨b1,rfl,m,c,d⟩
 refine Up O<|Sn XA O<|qV (Sc U3 O O d O) ?_
 by_cases o:width=8
 ·refine U7 O<|Ue<|Sf O<|Ua<|Ua<|Ua<|Uj O<|Sq O<|S3 func75 O ?_;exact⟨_,O,O,c⟩
 ·have h:8*width<=32:=ω
  have j:1*2^(8*width)%18446744073709551616=2^(8*width):=by
   have:=y0v (show 0<2 by decide) h;rw[y0Q,y0e ω]
  refine U7 O (T0 (Sz O (Sn XA O (qV (Sc U3 O O d O) (qV (Zf O O ω) ?_)))));rw[show(8:Int)*(width:Int)=((8*width:Nat):Int) by omega];refine qV (UQ (8*width) (2^(8*width)) O O ω O) ?_;rw[j]
  generalize 2^(8*width)=P at l⊢
  refine TW O<|Ue<|Td O<|Sq O<|S3 func75 O ?_;exact⟨_,O,O,c⟩
theorem z1w (n width each x:Nat)(N:width<=8)(R:x<18446744073709551616)(w:World):SG prog 77 [shV n width each,Su x] w λv w'=>v=S (WY width x)/\Ext w w':=by
 have J:maxLen=9223372036854775807:=rfl
 refine py (e:=[(0,_),(1,_)]) func77 O ntmps77 O O<|qN O<|Sd O O (UD O (cs:=[I (n:Int),I (width:Int),I (each:Int)]) O) ?_
 rintro _ G⟨y,rfl,V,F,h⟩
 refine Up O<|Sn XA O<|qV (Sc U3 O O h O)<|Sd O O (pmk (c:=width) (n:=width) TT ti5 O O O ω ω ω) ?_
 rintro _ w1⟨b1,rfl,⟨C,m,q⟩,-⟩
 refine Sq O<|SX O<|UR TT O<|Sf O<|S5<|S7 ?_
 rw[<-z6t x width] at q
 have U:=h.lt
 refine UW (α:=Nat) (0) (λk=>[(1,Su x),(2,ptr y 0),(5,.slice (some ⟨b1,0,none⟩) width width),(11,I (width:Int)),(12,I (k:Int))]) (λk w'=>k<=width/\Sk w' b1 (z4S x width k) 5/\Sk w' y [I (n:Int),I (width:Int),I (each:Int)] 162/\Ext G w') (λk=>width-k) ?hI ?hround
 case hI=>exact⟨ω,q,m.S4 h,m⟩
 case hround=>
  rintro k w2⟨M,d,j,o⟩ D
  try dsimp only
  refine qN O<|TW O<|S5<|It<|So O (λA=>?_)<|λA=>?_
  ·have z:k<width:=ω
   refine S6 (TZ (SE O (Sq O (Sg O (Sz O (Sf O (Sn XA O (qV (Sc U3 O O j O) (UO O (Sf O (UO O (qV (Zf O O ω) ?_))))))))))));rw[show(8:Int)*(((width:Int)-1)-(k:Int))=((8*(width-1-k):Nat):Int) from by omega];refine qV (XE (8*(width-1-k)) (2^(8*(width-1-k))) O O (by simp only[IntKind.bits];omega) O) ?_;refine qV (z7z O Va U5) (qV (Tm TT ti5 O O ω) (Sm O (TO ti5 O O O d (by simp;omega)) ?_));rintro H⟨u,r⟩;rw[z8y x width k z] at u;refine S5<|S2<|Sg O<|Tr O<|Sf O<|S5 ?_;exact(D (k+1) H ⟨ω,u,r.S4 j ω,o.An r (λi hi=>by rw[hi,C];exact y07 _)⟩ ω).qb
  ·have:k=width:=ω
   subst this;rw[z7S] at d;refine Sh O (SE O (qV (zbn (l:=WY k x) TT U5 U9 O d (by rw[y0V];exact y0B (by rw[y0h,T6];omega)) (by simp[WY])) ?_));refine Sq O<|S3 func77 O ?_;exact⟨_,O,O,F.trans o⟩
def VU (h:YJ Q txt vb width st xs w):SG prog 74 [ptr vb 0] w λv w'=>v=I 0/\w'=w:=by
 have hB:=h.cells
 refine py (e:=[(0,_)]) func74 O ntmps74 O O<|TU O<|TZ<|SE O<|qV (T9 z2W O O)<|Sq O<|S9 O<|SE O<|SC O<|Sn zcd O<|qV (Sc U4 O O hB O)<|Sq O<|VP O<|S2 ?_
 refine TU O<|S3 func74 O ?_
 exact⟨_,O,O,O⟩
theorem z8s (h:YJ Q txt vb width st xs w)(hi:i<xs.length)(D:Q.L.length<=4096):SG prog 87 [ptr vb 0,I (i:Int)] w λv w'=>v= .tuple #[I ((st+i / (512 / width):Nat):Int),I ((i%(512 / width)*width:Nat):Int)]/\Ext w w':=by
 have hB:=h.cells
 have hg:=Ext.Sv w
 obtain⟨x,y,z,A,C⟩:=h.e
 obtain⟨m,a2,o⟩:=h.at_ hi
 have u:=h.n
 have j:((i:Nat):Int) / ((512 / width:Nat):Int)=((i / (512 / width):Nat):Int):=rfl
 have l:((i:Nat):Int)%((512 / width:Nat):Int)=((i%(512 / width):Nat):Int):=rfl
 have c:((i%(512 / width):Nat):Int)*(width:Int)=((i%(512 / width)*width:Nat):Int):=by rw[y1A]
 have d:(st:Int)+((i / (512 / width):Nat):Int)=((st+i / (512 / width):Nat):Int):=by rw[Int.natCast_add]
 generalize i / (512 / width)=q at*
 generalize i%(512 / width)=r at*
 generalize 512 / width=each at*
 refine py (e:=[(0,_),(1,_)]) func87 O ntmps87 O O<|qN O<|To O<|It<|Ux (λw'=>Ext w w') O<|St 0 O O hg<|S8 1 O (Tu O) hg<|S8 2 O (SN z1U O) hg<|S8 3 O (SN Us O) hg<|qT 4 O (λ_ h=>Sc U3 O O (h.S4 hB) O) hg<|St 5 O O hg<|St 6 O O hg<|S8 7 O (Tu O) hg<|S8 8 O (SN Uz O) hg ?_
 refine S8 9 O (SN ZK O) hg<|qT 10 O (λ_ h=>Sc U3 O O (h.S4 hB) O) hg<|St 13 O O hg<|St 14 O O hg<|S8 15 O (Tu O) hg<|S8 16 O (SN Uz O) hg<|S8 17 O (SN ZK O) hg<|qT 18 O (λ_ h=>Sc U3 O O (h.S4 hB) O) hg<|St 20 O O hg<|S8 21 O (Tu O) hg<|S8 22 O (SN Uz O) hg<|S8 23 O (SN XA O) hg<|qT 24 O (λ_ h=>Sc U3 O O (h.S4 hB) O) hg<|S8 11 O (yqu O O ω) hg ?_
 rw[j]
 refine S8 12 O (YB O O ω) hg<|S8 26 O (UU O) hg ?_
 rw[d]
 refine S8 19 O (yre O O ω) hg ?_
 rw[l]
 refine S8 25 O (Zf O O (by rw[c];omega)) hg ?_
 rw[c]
 refine S8 27 O (UU O) hg<|qE<|SI.qb (e:=[(4,_),(5,_)]) ?_
 refine S3 func87 O ?_
 exact⟨_,O,O,hg⟩
end
section
variable {n:Nat}
theorem YJ.zfZ (h:YJ Q txt vb width st xs w){x:Nat}(hi:xs[i]? =some x):x<2^(8*width)/\x<18446744073709551616:=by
 have c:=(h.t i x hi).2
 have:=y0v (show 0<2 by decide) (show 8*width<=64 by have:=h.e;omega)
 exact⟨c,ω⟩
theorem z5V (l:Sp Q txt K X w)(L:∀b,X b->b<w.heap.size)(E:K<1000000000000)(d:YJ Q txt vb width st xs w)(f:X vb){x:Nat}(hi:xs[i]? =some x):
  SG prog 55 [ptr vb 0,I (i:Int)] w λv w'=>v= .tuple #[Su x,I 0]/\Sp Q txt K X w'/\Kp (λb=>¬X b) w w':=by
 have Z:=l.n
 have y:i<xs.length:=by
  rcases y0a i xs.length with h| h
  ·exact h
  ·rw[y0n h] at hi;cases hi
 have xo:=z8s d y Z
 obtain⟨u,a2,a3⟩:=d.at_ y
 have J:=(d.t i x hi).1
 have nV:=(d.zfZ hi).1
 have V:=l.z3f (x:=((st+i / (512 / width):Nat):Int)) (y33 _) (y2G.2 u)
 have dP:=d.n
 have RE:=d.e.2.2.2.2
 have H:∀w1,Ext w w1->SG prog 83 [ptr Q.s 0,I ((st+i / (512 / width):Nat):Int)] w1 λv w'=>v= .tuple #[S (txt ((st+i / (512 / width):Nat):Int)),I 0]/\Sp Q txt K X w'/\Kp (λb=>¬X b) w1 w':=λw1 j=>(l.ext' j).read (λb P=>by have:=L b P;have:=j.size;omega) E (y33 _) (y2G.2 u)
 generalize i / (512 / width)=q at*
 generalize i%(512 / width)=r at*
 generalize ho:r*width=o at*
 obtain⟨t,ht⟩:∃t,txt ((st+q:Nat):Int)=t:=⟨_,O⟩
 rw[ht] at J V H
 have hB:=d.cells
 refine py (e:=[(0,_),(1,_)]) func55 O ntmps55 O O<|qN O<|To O<|SX O<|Sr zaX O (VU d) ?_
 rintro _ w⟨rfl,rfl⟩
 refine TR O<|TK O<|Tt O<|SX O<|TW O<|T0<|Sz O<|Sf O<|SC O<|Sn Uz O<|Sn z0T O<|qV (Sc U3 O O hB O)<|WZ O<|T0 ?_
 refine Td O<|Tt O<|TV O<|Sr zmA O xo ?_
 rintro _ w1⟨rfl,j⟩
 have A:=j.S4 hB
 refine Sf O<|Vk O<|To O<|SI.qb (e:=[(0,_),(4,_),(5,_),(7,_),(8,_)]) ?_
 refine SE O<|SC O<|Sn ZU O<|qV (Sc Zh O O A O)<|Sf O<|Sr zfD O (H w1 j) ?_
 rintro _ w2⟨rfl,a,C⟩
 have N:=C.S4 A (λe=>e f)
 refine Sf O<|Vk O<|To O<|SX O<|TK O<|Tt O<|TU O<|It<|TV O<|Sz O<|SC O<|Sn Uz O<|Sn XA O<|qV (Sc U3 O O N O) ?_
 refine Tr O ?_
 rw[show(o:Int)+(width:Int)=((o+width:Nat):Int) by omega]
 refine qV (zjO (m:=o) (n:=o+width) U9 O O O ω) ?_
 rw[show o+width-o=width by omega,J]
 have k:=T6 width x
 obtain⟨s,G⟩:∃s,WY width x=s:=⟨_,O⟩
 have W:T2 (SA s)=x:=by rw[<-G];exact z3N nV
 rw[G] at k⊢
 refine Sd O O (zfx U9 TT U5 O) ?_
 rintro _ w3⟨b7,c7,rest,rfl,⟨lu,z,R⟩,GG⟩
 refine UR TT O<|Sf O<|S5<|SI.qb (e:=[(4,_),(5,_),(11,_),(58,_),(59,_),(60,_)]) ?_
 refine S7<|UW (α:=Nat) (0) (λi=>[(11,Su (T2 (SA (s.take i)))),(58,.slice (some ⟨b7,0,none⟩) s.length c7),(59,I (s.length:Int)),(60,I (i:Int))]) (λi w'=>w'=w3/\i<=s.length) (λi=>s.length-i) ?hI ?hround
 case hI=>exact⟨O,y02 _⟩
 case hround=>
  rintro i w4⟨rfl,hi⟩ T
  try dsimp only
  refine qN O<|TW O<|S5<|It<|So O (λp=>?_)<|λp=>?_
  ·obtain⟨c,F⟩:∃c,s[i]? =some c:=⟨_,y04 ω⟩;have g:=c.toNat_lt;have D:=z5d F
   have M:T2 (SA (s.take i))<72057594037927936:=by
    have B:=Uy (SA (s.take i));rw[bitsT_length,y0c] at B;have h2:2^(8*min i s.length)<=2^56:=y0v ψ ω;omega
   have U:w4.cell? ⟨b7,0+i*1,none⟩=some (WD c):=by
    rw[R.cell,y0g,y0j,y0I (by rw[y0h];omega),y0l,F];rfl
   refine S6<|TZ<|qN O<|qV (Tm TT ti5 O O ω)<|qV (SQ U5 O O U) ?_
   generalize T2 (SA (s.take i))=q at D M
   refine Sq O<|Uw O<|qV (UQ 8 256 O O ψ O)<|Sf O<|qV (z6A O U5 Va ψ)<|qV (z4i O O ω ω) ?_
   have qU:(q*256%18446744073709551616 |||c.toNat)=T2 (SA (s.take (i+1))):=by
    rw[D,y0e ω,y0H q];exact(y28 (i:=8) g q).symm
   rw[qU];refine Sq O<|S2<|Sg O<|Tr O<|Sf O<|S5 ?_;exact(T (i+1) _ ⟨O,ω⟩ ω).qb
  ·have Y:i=s.length:=ω
   subst Y;rw[y0K,W];refine Sh O<|SE O<|To O<|S3 func55 O ?_;exact⟨_,O,O,a.ext' z,(j.kp.trans C).trans z.kp⟩
theorem zdk (J:Sp Q txt K X w)(Z:∀b,X b->b<w.heap.size)(Y:K<1000000000000)(j:YJ Q txt vb width st xs w)(m:X vb){x:Nat}(hi:i<xs.length)(a:x<2^(8*width)):
  SG prog 114 [ptr vb 0,I (i:Int),Su x] w λv w'=>v=I 0/\VcW Q txt (K+1) X vb width st (xs.set i x) w w':=by
 have eE:=J.n
 have xo:∀w1,Ext w w1->SG prog 87 [ptr vb 0,I (i:Int)] w1 λv w'=>v= .tuple #[I ((st+i / (512 / width):Nat):Int),I ((i%(512 / width)*width:Nat):Int)]/\Ext w1 w':=λw1 d=>z8s (j.ext d) hi eE
 obtain⟨F,a2,a3⟩:=j.at_ hi
 obtain⟨e1,e2,e3,e4,e5⟩:=j.e
 have nV:x<18446744073709551616:=by
  have:=y0v (show 0<2 by decide) (show 8*width<=64 by omega);omega
 have U:=J.z3f (x:=((st+i / (512 / width):Nat):Int)) (y33 _) (y2G.2 F)
 have dP:=j.n
 obtain⟨t,ht⟩:∃t,txt ((st+i / (512 / width):Nat):Int)=t:=⟨_,O⟩
 have f:=j.t.set ω a hi ht (by rw[ht] at U;omega)
 have g:∀w1,Ext w w1->SG prog 83 [ptr Q.s 0,I ((st+i / (512 / width):Nat):Int)] w1 λv w'=>v= .tuple #[S (txt ((st+i / (512 / width):Nat):Int)),I 0]/\Sp Q txt K X w'/\Kp (λb=>¬X b) w1 w':=λw1 d=>(J.ext' d).read (λb u=>by have:=Z b u;have:=d.size;omega) Y (y33 _) (y2G.2 F)
 have C:(xs.set i x).length=xs.length:=ξ
 have hB:=j.cells
 have k:=j.wd
 have T:=j.fit
 rw[ht] at U g
 have xB:∀w',Sk w' vb [I (xs.length:Int),I (width:Int),I ((512 / width:Nat):Int),I (st:Int),I (vcL xs.length (512 / width):Int),ptr Q.s 0,.bool false] 164->YJ Q (z2K txt ((st+i / (512 / width):Nat):Int) (some (t.take (i%(512 / width)*width)++WY width x++t.drop (i%(512 / width)*width+width)))) vb width st (xs.set i x) w':=λw' u=>⟨by rw[C];exact u,k,f,by rw[C];exact dP,by rw[C];exact T⟩
 clear f
 have oG:st+i / (512 / width)<Q.L.length:=F
 generalize i / (512 / width)=q at*
 generalize i%(512 / width)=r at*
 generalize ho:r*width=o at*
 have W:=T6 width x
 have nL:(t.take o++WY width x++t.drop (o+width)).length=512:=by rw[y01,y01,y0c,y08,W];omega
 refine py (e:=[(0,_),(1,_),(2,_)]) func114 O ntmps114 O O<|TU O<|SX O<|Sr zaX O (VU j) ?_
 rintro _ w⟨rfl,rfl⟩
 refine TR O<|TK O<|Tt O<|SX O<|TW O<|T0<|Sz O<|Sf O<|SC O<|Sn Uz O<|Sn z0T O<|qV (Sc U3 O O hB O)<|WZ O<|T0 ?_
 refine Td O<|Sz O<|SC O<|Sn Uz O<|qV (SO z5k O z2c O (Sk.cells (n:=3) hB (news:=[_,_,_]) O) O)<|Sf O<|Sr zkQ O (z4V xs.length width (512 / width) x k a w) ?_
 rintro _ w1⟨rfl,d⟩
 have P:=d.S4 hB
 refine qV (Vn O)<|Td O<|S5<|SI.qb (e:=[(0,_),(1,_),(2,_),(6,_),(36,_)]) ?_
 refine VP O<|TV O<|Sr zmA O (xo w1 d) ?_
 rintro _ w2⟨rfl,G⟩
 have M:=G.S4 P
 refine Sf O<|Vk O<|Vj O<|TR O<|SC O<|Sn ZU O<|qV (Sc Zh O O M O)<|Sf O<|Sr zfD O (g w2 (d.trans G)) ?_
 rintro _ D⟨rfl,gQ,N⟩
 have A:=N.S4 M (λe=>e m)
 have c:=Ext.Sv D
 have R:Kp (λb=>¬X b) w D:=(d.trans G).kp.trans N
 have E:(t.take o).length=o:=by rw[y0c];omega
 have B:(t.drop (o+width)).length=512-(o+width):=by rw[y08];omega
 refine Sf O<|Vk O<|To O<|SX O<|TK O<|S5<|SI.qb (e:=[(0,_),(2,_),(6,_),(8,_),(9,_),(10,_),(11,_),(53,_)]) ?_
 refine VP O<|It<|Ux (λw'=>Kp (λb=>¬X b) D w') O<|St 0 O O c.kp<|S8 1 O (Tu O) c.kp<|S8 2 O (SN ZU O) c.kp<|qT 3 O (λ_ h=>Sc Zh O O (h.S4 A (λe=>e m)) O) c.kp<|St 4 O O c.kp<|St 5 O O c.kp<|St 6 O O c.kp<|S8 7 O (z6a U9 O O ω) c.kp<|St 8 O O c.kp<|S8 9 O (Tu O) c.kp<|S8 10 O (SN Uz O) c.kp ?_
 refine qT 11 O (λ_ hS=>SO z5k O z2c O (Sk.cells (n:=3) (hS.S4 A (λe=>e m)) (news:=[_,_,_]) O) O) c.kp<|St 12 O O c.kp<|St 15 O O c.kp<|St 16 O O c.kp<|St 17 O O c.kp<|S8 18 O (Tu O) c.kp<|S8 19 O (SN Uz O) c.kp<|S8 20 O (SN XA O) c.kp<|qT 21 O (λ_ h=>Sc U3 O O (h.S4 A (λe=>e m)) O) c.kp<|S8 22 O (YB O O ω) c.kp ?_
 rw[show(o:Int)+(width:Int)=((o+width:Nat):Int) by omega]
 refine S8 23 O (z3t U9 O O ω) c.kp<|VF 13 O zjV O (z1w _ _ _ x e5 nV _) ?_
 rintro _ w4⟨rfl,z⟩
 refine⟨c.kp.trans z.kp,?_⟩
 have l:=c.trans z
 refine S8 14 O (Zq O O (by first|omega|(simp;done)|(simp;omega))) (c.kp.trans z.kp) ?_
 refine S8 24 O (Zq O O (by rw[y01,E,W,B];omega)) (c.kp.trans z.kp) ?_
 refine VF 25 O zg4 O ((gQ.ext' l).write (λb u=>by have:=Z b u;have:=R.size;have:=l.size;omega) Y (no:=((st+q:Nat):Int)) ω ω _ nL) ?_
 rintro _ p⟨rfl,iE,H⟩
 refine⟨l.kp.trans H,?_⟩
 have V:Kp (λb=>¬X b) D p:=l.kp.trans H
 refine S8 26 O (UU O) (l.kp.trans H)<|qE<|SI.qb (e:=[(6,_)]) ?_
 refine S3 func114 O ?_
 exact⟨_,O,O,_,iE,xB p (V.S4 A (λe=>e m)),λy hy=>UZ _ _ (by rw[C] at hy;omega),R.trans V⟩
end
section
variable {n:Nat}
theorem z3o (Y:Sp Q txt K X w)(hX:∀b,X b->b<w.heap.size)(hK:K<=900000000000)(u:YJ Q txt vb width st xs w)(r:X vb)(rI:CF prog f)(caps:List Value)(S4:Nat->Sa)(L:∀b,(S4 b).length<=512)
  (Z:∀(b:Nat)(w1:World),b<vcL xs.length (512 / width)->Kp (λb=>¬X b) w w1->SG prog f ([I (b:Int)]++caps) w1 λv w2=>v=S (S4 b)/\Ext w1 w2):
  SG prog 78 [ptr vb 0,.func (.func f) #[] caps.toArray] w λv w'=>v=I 0/\∃txt',Sp Q txt' (K+vcL xs.length (512 / width)) X w'/\Kp (λb=>¬X b) w w'/\(∀b,b<vcL xs.length (512 / width)->txt' ((st+b:Nat):Int)=S4 b++zeros (512-(S4 b).length))/\(∀y:Int,y<(st:Int)\/(st:Int)+(vcL xs.length (512 / width):Int)<=y->txt' y=txt y):=by
 have fI:maxLen=9223372036854775807:=rfl
 have eE:=Y.n
 have hB:=u.cells
 have P:=u.fit
 have T:=u.n
 obtain⟨e1,e2,e3,e4,e5⟩:=u.e
 have J:=z2t xs.length width (512 / width) ⟨ω,e2⟩ T w
 obtain⟨N,hN⟩:∃N,vcL xs.length (512 / width)=N:=⟨_,O⟩
 rw[hN] at hB P J Z⊢
 refine py (e:=[(0,_),(1,_)]) func78 O ntmps78 O O<|TU O<|SX O<|SC O<|Sn Uz O<|qV (SO z5k O z2c O (Sk.cells (n:=3) hB (news:=[_,_,_]) O) O)<|Sr znI O J ?_
 rintro _ w1⟨rfl,U⟩
 refine Sf O<|S5<|S7<|UW (α:=Nat) (0) (λk=>[(0,ptr vb 0),(1,.func (.func f) #[] caps.toArray),(12,I (N:Int)),(13,I (k:Int))]) (λk w'=>k<=N/\Kp (λb=>¬X b) w w'/\∃txt',Sp Q txt' (K+k) X w'/\(∀b,b<k->txt' ((st+b:Nat):Int)=S4 b++zeros (512-(S4 b).length))/\(∀y:Int,y<(st:Int)\/(st:Int)+(k:Int)<=y->txt' y=txt y)) (λk=>N-k) ?hI ?hround
 case hI=>exact⟨y02 _,U.kp,txt,Y.ext' U,λb G=>ω,λy _=>rfl⟩
 case hround=>
  rintro k w2⟨hk,q,o,W,M,a⟩ ih;have E:=q.S4 hB (λe=>e r)
  try dsimp only
  refine qN O<|TW O<|S5<|It<|So O (λh0=>?_)<|λh0=>?_
  ·have z:k<N:=ω
   refine S6<|TZ<|SE O<|Up O<|Sz O<|Uk O O (Vc rI O O) (Z k w2 z q) ?_;rintro _ x⟨rfl,A⟩;have D:=A.S4 E;have F:=W.ext' A;have d:=Ext.Sv x;have hl:=L k;have V:=q.trans A.kp;obtain⟨t,ht⟩:∃t,S4 k=t:=⟨_,O⟩;rw[ht] at hl⊢;have H:(zeros (512-t.length)).length=512-t.length:=by simp[zeros]
   have cR:=F.size;have p:∀m,Ext x m->SG prog 65 [ptr Q.s 0] m λv w'=>v=I 512/\w'=m:=λm hx=>(F.ext' hx).size;refine Sq O (It (Ux (λw'=>Kp (λb=>¬X b) x w') O (St 0 O O d.kp (S8 1 O (Tu O) d.kp (S8 2 O (SN ZU O) d.kp (qT 3 O (λ_ h=>Sc Zh O O (h.S4 D (λe=>e r)) O) d.kp (St 4 O O d.kp (S8 5 O (Tu O) d.kp (S8 6 O (SN z1U O) d.kp (S8 7 O (SN Us O) d.kp (qT 8 O (λ_ h=>Sc U3 O O (h.S4 D (λe=>e r)) O) d.kp (St 9 O O d.kp (S8 10 O (YB O O ω) d.kp ?_)))))))))))));refine St 11 O O d.kp<|St 12 O O d.kp<|S8 13 O (Tu O) d.kp<|S8 14 O (SN ZU O) d.kp<|qT 15 O (λ_ h=>Sc Zh O O (h.S4 D (λe=>e r)) O) d.kp<|St 17 O O d.kp<|S8 18 O (Ys U9 O) d.kp<|VF 16 O z82 O (p _ d) ?_;rintro _ m⟨rfl,rfl⟩;refine⟨d.kp,?_⟩;refine S8 19 O (ysb O O ω) d.kp ?_;rw[show(512:Int)-(t.length:Int)=((512-t.length:Nat):Int) by omega];refine qO 20 (z1Y (i:=20) O O O (pmk (c:=512-t.length) (n:=512-t.length) TT ti5 O O O ω ω ω) ?_);rintro _ m⟨b4,rfl,⟨fO,R,B⟩,-⟩;refine⟨d.kp.trans R.kp,?_⟩;have j:=d.trans R;refine qO 21 (zjA (i:=21) O O O (zbn (l:=zeros (512-t.length)) TT U5 U9 O B (z3G _) H) j.kp (S8 22 O (Zq O O (by rw[H];omega)) j.kp ?_));have nL:(t++zeros (512-t.length)).length=512:=by rw[y01,H];omega
   rw[show(st:Int)+(k:Int)=((st+k:Nat):Int) by omega];refine VF 23 O zg4 O ((F.ext' j).write (λb G=>by have:=hX b G;have:=V.size;have:=j.size;omega) ω (no:=((st+k:Nat):Int)) ω ω _ nL) ?_;rintro _ g⟨rfl,iE,C⟩;refine⟨j.kp.trans C,?_⟩;have eV:Kp (λb=>¬X b) x g:=j.kp.trans C;refine S8 24 O (UU O) (j.kp.trans C)<|qE<|SE O<|TK O<|Tt O<|S2<|Sg O<|Tr O<|Sf O<|S5 ((ih (k+1) g ⟨ω,V.trans eV,_,iE,λb G=>?_,λy hy=>?_⟩ ω).qb)
   ·by_cases e:b=k
    ·subst e;rw[VC,ht];rfl
    ·rw[UZ _ _ ω];exact M b ω
   ·rw[UZ _ _ ω];exact a y ω
  ·have z:k=N:=ω
   subst z;refine Sh O<|TU O<|S3 func78 O ?_;exact⟨_,O,O,o,W,q,M,a⟩
theorem z95 (l:Sa):∀n,((List.replicate n l).flatten).length=n*l.length
 |0=>ξ
 |n+1=>by rw[y17,y3G,y01,z95 l n,y0r];omega
def z8m {bf:Nat}(b:Nat)(hB:Sk w bf [S s] 9):SG prog 79 ([I (b:Int)]++[ptr bf 0]) w λv w2=>v=S s/\Ext w w2:=by
 show SG _ _ [I (b:Int),ptr bf 0] _ _
 refine py (e:=[(0,_),(1,_)]) func79 O ntmps79 O O<|qN O<|Up O<|qV (Sc U9 O O hB O)<|Sq O<|S3 func79 O ?_
 exact⟨_,O,O,Ext.refl _⟩
theorem z1L (hP:Sp Q txt K X w)(hX:∀b,X b->b<w.heap.size)(hK:K<=900000000000)(u:YJ Q txt vb width st xs w)(f:X vb){x:Nat}(g:x<2^(8*width)):
  SG prog 43 [ptr vb 0,Su x] w λv w'=>v=I 0/\VcW Q txt (K+vcL xs.length (512 / width)) X vb width st (List.replicate xs.length x) w w':=by
 have hB:=u.cells
 have B:=u.n
 obtain⟨e1,Z,E,e4,a⟩:=u.e
 have p:x<18446744073709551616:=by
  have:=y0v (show 0<2 by decide) (show 8*width<=64 by omega);omega
 have T:=T6 width x
 have nv:(List.replicate (512 / width) (WY width x)).flatten.length=512:=by
  rw[z95,T];exact E
 refine py (e:=[(0,_),(1,_)]) func43 O ntmps43 O O<|TU O<|SX O<|Sr zaX O (VU u) ?_
 rintro _ w⟨rfl,rfl⟩
 refine TR O<|TK O<|Tt O<|SX O<|SC O<|Sn Uz O<|qV (SO z5k O z2c O (Sk.cells (n:=3) hB (news:=[_,_,_]) O) O)<|Sf O<|Sr zkQ O (z4V xs.length width (512 / width) x u.wd g w) ?_
 rintro _ w1⟨rfl,z⟩
 have V:=z.S4 hB
 have t:=Ext.Sv w1
 refine qV (Vn O)<|Tt O<|It<|Tc (λY w'=>∃bf,Y=[(0,ptr vb 0),(6,ptr bf 0)]/\Sk w' bf [S (List.replicate (512 / width) (WY width x)).flatten] 9/\Ext w1 w'/\w1.heap.size<=bf) ?bL<|λbL=>?dE
 case bL=>
  rintro Y w2⟨bf,rfl,W,U,M⟩;have N:=z.trans U;have mV:=z.size;have L:Sp Q txt K (λb=>X b\/b=bf) w2:=hP.ext N (λb e=>e.imp id λe=>ω);have a0:=W.lt;have hw:=z3o L (λb hb=>by rcases hb with e|e;(have:=hX b e;have:=N.size;omega);omega) hK (u.ext N) (.inl f) zow [ptr bf 0] (λ_=>(List.replicate (512 / width) (WY width x)).flatten) (λ_=>by rw[nv];omega) (λb s _ R=>z8m b (R.S4 W (λe=>e (.inr O))));refine SE O<|qV (ymf (first:=[]) (caps:=[.tmp 6]) O O)<|Sr zn3 O (hw) ?_;rintro _ s⟨rfl,D,P,R,sA,tt⟩;refine Sq O<|S3 func43 O ?_;have r:Kp (λb=>¬X b) w1 s:=U.kp.trans (R.Se λb e Z=>e (.inl Z));have J:(List.replicate xs.length x).length=xs.length:=y0b;refine⟨_,O,O,D,P.less (λb e=> .inl e),⟨?_,u.wd,VcT.fill g ω (λi hi=>?_),by rw[J];exact B,by rw[J];exact u.fit⟩,λy k=>tt y (by rw[J] at k;exact k),z.kp.trans r⟩
  ·rw[J];exact(z.kp.trans r).S4 hB (λe=>e f)
  ·have sW:=z2I (each:=512 / width) ω hi;exact⟨_,sA _ sW⟩
 case dE=>
  have c:=t;have d:=c.size;refine Sx [13] (λw'=>Ext w1 w') y00 O<|Te 0 O O c<|SB 1 O (Tu O) c<|SB 2 O (SN Uz O) c<|qL 3 O (λ_ h=>SO z5k O z2c O (Sk.cells (n:=3) (h.S4 V) (news:=[_,_,_]) O) O) c<|Te 4 O O c<|Te 6 O O c<|SB 7 O (Tu O) c<|SB 8 O (SN Uz O) c<|SB 9 O (SN ZK O) c<|qL 10 O (λ_ h=>Sc U3 O O (h.S4 V) O) c<|Zj (i:=5) (j:=12) y00 ?_ ?_
  ·refine Uu (i:=5) O O O (yc zjV O) (z1w _ _ _ x a p _) ?_;rintro _ w5⟨rfl,q⟩;refine⟨c.trans q,?_⟩;have c:=c.trans q
   try have l:=q.S4 l
   have d:=y0d d q.size;refine Zj (i:=11) (j:=12) y00 ?_ ?_
   ·refine Uu (i:=11) O O O (yc zk3 O) (z3g (WY width x) (512 / width) ω ω _) ?_;rintro _ F⟨rfl,m⟩;refine⟨c.trans m,?_⟩;have c:=c.trans m
    try have l:=m.S4 l
    have d:=y0d d m.size;refine U6 (i:=12) y00<|Ty (i:=12) O O O (UK (cs:=[_]) ti9 O) ?_;rintro _ G⟨bf,rfl,M,o,l⟩;refine⟨c.trans o,?_⟩;have c:=c.trans o;have C:w1.heap.size<=bf:=ω
    have d:=y0d d o.size;refine Wg [13] (qO 13 (SY (i:=13) O O (TO ti9 O O O l ξ) ?_));rintro H⟨A,r⟩;refine⟨trivial,?_⟩;refine qE<|SI.qb (e:=[(0,_),(4,_),(6,_)]) ?_;exact(bL _ _ ⟨bf,O,A,c.An r (λj e=>ω),C⟩).qb
   ·refine Ty (i:=12) O O O (UK (cs:=[_]) ti9 O) ?_;rintro _ G⟨bf,rfl,M,o,l⟩;refine⟨c.trans o,?_⟩;have c:=c.trans o;have C:w1.heap.size<=bf:=ω
    have d:=y0d d o.size;refine U6 (i:=11) y00 (Uu (i:=11) O O O (yc zk3 O) (z3g (WY width x) (512 / width) ω ω _) ?_);rintro _ F⟨rfl,m⟩;refine⟨c.trans m,?_⟩;have c:=c.trans m
    try have l:=m.S4 l
    have d:=y0d d m.size;refine Wg [13] (qO 13 (SY (i:=13) O O (TO ti9 O O O l ξ) ?_));rintro H⟨A,r⟩;refine⟨trivial,?_⟩;refine qE<|SI.qb (e:=[(0,_),(4,_),(6,_)]) ?_;exact(bL _ _ ⟨bf,O,A,c.An r (λj e=>ω),C⟩).qb
  ·refine Ty (i:=12) O O O (UK (cs:=[_]) ti9 O) ?_;rintro _ G⟨bf,rfl,M,o,l⟩;refine⟨c.trans o,?_⟩;have c:=c.trans o;have C:w1.heap.size<=bf:=ω
   have d:=y0d d o.size;refine U6 (i:=5) y00<|Uu (i:=5) O O O (yc zjV O) (z1w _ _ _ x a p _) ?_;rintro _ w5⟨rfl,q⟩;refine⟨c.trans q,?_⟩;have c:=c.trans q
   try have l:=q.S4 l
   have d:=y0d d q.size;refine U6 (i:=11) y00 (Uu (i:=11) O O O (yc zk3 O) (z3g (WY width x) (512 / width) ω ω _) ?_);rintro _ F⟨rfl,m⟩;refine⟨c.trans m,?_⟩;have c:=c.trans m
   try have l:=m.S4 l
   have d:=y0d d m.size;refine Wg [13] (qO 13 (SY (i:=13) O O (TO ti9 O O O l ξ) ?_));rintro H⟨A,r⟩;refine⟨trivial,?_⟩;refine qE<|SI.qb (e:=[(0,_),(4,_),(6,_)]) ?_;exact(bL _ _ ⟨bf,O,A,c.An r (λj e=>ω),C⟩).qb
end
def zjR (s:Sa){c:Nat}(h:a<=c):(s.drop (min a s.length)).take (min c s.length-min a s.length)=(s.drop a).take (c-a):=by
 by_cases d:a<=s.length
 ·rw[y0A d];by_cases e:c<=s.length
  ·rw[y0A e]
  ·rw[y2H ω,y0B (by rw[y08];omega),y0B (by rw[y08];omega)]
 ·rw[y2H (show s.length<=a by omega),y2H (show s.length<=c by omega),y1w,y2S,y2m (show s.length<=a by omega),List.take_nil]
section
variable {n:Nat}
theorem z8o {j d:Nat}(b:Nat)(q:b<=1000000)(r:s.length<=100000000)(l:Sk w j [S s] 9)(o:Sk w d [I 512] 3):SG prog 86 ([I (b:Int)]++[ptr j 0,ptr d 0]) w λv w2=>v=S ((s.drop (b*512)).take 512)/\Ext w w2:=by
 show SG _ _ [I (b:Int),ptr j 0,ptr d 0] _ _
 have h:=zjR s (a:=b*512) (c:=(b+1)*512) ω
 rw[show(b+1)*512-b*512=512 by omega] at h
 refine py (e:=[(0,_),(1,_),(2,_)]) func86 O ntmps86 O O<|qN O<|Up O<|qV (Sc U9 O O l O)<|Sf O<|qV (Sc U3 O O o O)<|qV (Zf O O ω)<|qV (Sc U9 O O l O)<|qV (Ys U9 O)<|qV (ymi O O)<|Sf O<|Tr O<|qV (Sc U3 O O o O)<|qV (Zf O O ω) ?_
 refine qV (Sc U9 O O l O)<|qV (Ys U9 O)<|qV (ymi O O) ?_
 rw[show min ((b:Int)*512) (s.length:Int)=((min (b*512) s.length:Nat):Int) by omega,show min (((b:Int)+1)*512) (s.length:Int)=((min ((b+1)*512) s.length:Nat):Int) by omega]
 refine qV (zjO (m:=min (b*512) s.length) (n:=min ((b+1)*512) s.length) U9 O O O ω) ?_
 rw[h]
 refine Sq O<|S3 func86 O ?_
 exact⟨_,O,O,Ext.refl _⟩
theorem z9M (Y:Sp Q txt K X w)(hX:∀b,X b->b<w.heap.size)(hK:K<=900000000000)(l:YJ Q txt vb width st xs w)(W:X vb)(a:s.length=xs.length*width):
  SG prog 54 [ptr vb 0,S s] w λv w'=>v=I 0/\VcW Q txt (K+vcL xs.length (512 / width)) X vb width st (z3m width xs.length s) w w':=by
 have eE:=Y.n
 have hB:=l.cells
 have R:=l.n
 have bN:=l.fit
 obtain⟨e1,U,V,e4,T⟩:=l.e
 have LP:s.length<=33554432:=by
  have:xs.length*width<=4194304*8:=y1k R T;omega
 have x:(xs.length:Int)*(width:Int)=((s.length:Nat):Int):=by rw[a,y1A]
 have g:((512 / width:Nat):Int)*(width:Int)=512:=by rw[<-y1A,V];rfl
 refine py (e:=[(0,_),(1,_)]) func54 O ntmps54 O O<|qN O<|Sd O O (UD O (cs:=[S s]) O) ?_
 rintro _ w1⟨J,rfl,nL,o,C⟩
 have u:=o.S4 hB
 have c:=Ext.Sv w1
 refine Sq O<|SX O<|Sr zaX O (VU (l.ext o)) ?_
 rintro _ w1⟨rfl,rfl⟩
 refine TR O<|TK O<|Tt O<|It<|It<|Ux (λw'=>Ext w1 w') O<|qT 0 O (λ_ h=>(Sc U9 O O (h.S4 C) O)) c<|S8 1 O (Ys U9 O) c<|St 2 O O c<|S8 3 O (Tu O) c<|S8 4 O (SN Uz O) c<|S8 5 O (SN z0T O) c<|qT 6 O (λ_ h=>(Sc U3 O O (h.S4 u) O)) c<|St 7 O O c ?_
 refine S8 8 O (Tu O) c<|S8 9 O (SN Uz O) c<|S8 10 O (SN XA O) c<|qT 11 O (λ_ h=>(Sc U3 O O (h.S4 u) O)) c<|S8 12 O (Zf O O (by rw[x];omega)) c ?_
 rw[x]
 refine S8 13 O (yne O O) c<|WW<|qE<|VP O<|It ?_
 obtain⟨w2,mQ⟩:∃w2,w1.drew=w2:=⟨_,O⟩
 rw[mQ] at c⊢
 have F:=c.S4 u
 have d:=Ext.Sv w2
 refine Sx [12] (λw'=>Ext w2 w') y00 O<|Te 0 O O d<|SB 1 O (Tu O) d<|SB 2 O (SN Uz O) d<|SB 3 O (SN ZK O) d<|qL 4 O (λ_ h=>Sc U3 O O (h.S4 F) O) d<|Te 5 O O d<|SB 6 O (Tu O) d<|SB 7 O (SN Uz O) d<|SB 8 O (SN XA O) d<|qL 9 O (λ_ h=>Sc U3 O O (h.S4 F) O) d<|SB 10 O (Zf O O (by rw[g];omega)) d ?_
 rw[g]
 refine U6 (i:=11) y00<|Ty (i:=11) O O O (UK (cs:=[_]) T8 O) ?_
 rintro _ w3⟨H,rfl,RF,D,B⟩
 refine⟨d.trans D,?_⟩
 have ee:=d.trans D
 refine Wg [12]<|qO 12<|SY (i:=12) O O (TO T8 O O O B ξ) ?_
 rintro k⟨z,L⟩
 refine⟨trivial,?_⟩
 have P:Ext w2 k:=ee.An L (λj e=>by have:=d.size;omega)
 have N:=c.trans P
 have q:=o.trans N
 have z1:=o.size
 have z2:=c.size
 have z3:=d.size
 have A:=N.S4 C
 have iL:Sp Q txt K (λb=>X b\/b=J\/b=H) k:=Y.ext q (λb e=>e.imp id λe=>ω)
 have a1:=A.lt
 have a0:=z.lt
 have hw:=z3o iL (λb Z=>by rcases Z with e|e|e;(have:=hX b e;have:=q.size;omega);omega;omega) hK (l.ext q) (.inl W) zoi [ptr J 0,ptr H 0] (λb=>(s.drop (b*512)).take 512) (λ_=>by rw[y0c];omega) (λb w3 Z G=>z8o b ω ω (G.S4 A (λe=>e (.inr (.inl O)))) (G.S4 z (λe=>e (.inr (.inr O)))))
 refine qE<|SI.qb (e:=[(0,_),(3,_),(4,_),(6,_)]) ?_
 refine SE O<|qV (ymf (first:=[]) (caps:=[.tmp 3,.tmp 6]) O O)<|Sr zn3 O hw ?_
 rintro _ w5⟨rfl,m,iE,E,p,t⟩
 refine Sq O<|S3 func54 O ?_
 have M:Kp (λb=>¬X b) w w5:=q.kp.trans (E.Se λb e U=>e (.inl U))
 have r:=z6x width xs.length s
 refine⟨_,O,O,m,iE.less (λb e=> .inl e),⟨?_,l.wd,VcT.load a ω (λi hi=>?_),by rw[r];exact R,by rw[r];exact l.fit⟩,λy f=>t y (by rw[r] at f;exact f),M⟩
 ·rw[r];exact M.S4 hB (λe=>e W)
 ·have sW:=z2I (each:=512 / width) ω hi;rw[V];exact⟨_,p _ sW⟩
theorem zbq (Y:Sp Q txt K X w)(Z:∀b,X b->b<w.heap.size)(hK:K<1000000000000)(o:YJ Q txt vb width st xs w)(r:X vb):
  SG prog 50 [ptr vb 0] w λv w'=>v= .tuple #[S (YH width xs),I 0]/\Sp Q txt K X w'/\Kp (λb=>¬X b) w w':=by
 have eE:=Y.n
 have hB:=o.cells
 have dP:=o.n
 have bN:=o.fit
 obtain⟨G,H,e3,e4,V⟩:=o.e
 have a1:=Z vb r
 have xB:=λ(b:Nat)=>o.t.block (b:=b)
 have M:=λ(l:List Nat)=>WR width l
 have hN:∀b,b*(512 / width)<xs.length->b<vcL xs.length (512 / width):=λb h=>by
  have:=z2I (each:=512 / width) (n:=xs.length) ω h;rw[Nat.mul_div_cancel _ ω] at this;exact this
 generalize 512 / width=each at*
 refine py (e:=[(0,_)]) func50 O ntmps50 O O<|qN O<|To O<|SX O<|Sr zaX O (VU o) ?_
 rintro _ w⟨rfl,rfl⟩
 refine TR O<|TK O<|Tt O<|qN O<|Sd O O (UK (cs:=[_,_]) zih O) ?_
 rintro _ w1⟨d,rfl,yH,u,yZ⟩
 have xw:=BdM.new yZ
 have aj:=u.S4 hB
 have z1:=u.size
 refine S5<|SX O<|SC O<|Sn Uz O<|Sn z0T O<|qV (Sc U3 O O aj O)<|To O<|S7 ?_
 rw[show(xs.length:Int)=((xs.length-0*each:Nat):Int) by rw[y1m];rfl]
 refine UW (α:=Nat×Value) (0,Value.slice none 0 0) (λy=>[(0,ptr vb 0),(5,ptr d 0),(6,I ((xs.length-y.1*each:Nat):Int)),(7,I (y.1:Int))]) (λy w'=>y.1<=xs.length/\BdM w' d (YH width (xs.take (y.1*each))) y.2/\(y.1=0->y.2= .slice none 0 0)/\(0<y.1->0<xs.length)/\(∀g,y.2.ownBlock=some g->w.heap.size<=g)/\Sp Q txt K (λb=>X b\/b=d\/y.2.ownBlock=some b) w'/\Kp (λb=>¬X b) w w') (λy=>xs.length-y.1*each) ?hI ?hround
 case hI=>
  refine⟨y02 _,?_,λ_=>rfl,λe=>absurd e ψ,λg hg=>(by cases hg),Y.ext u (λb e=>e.imp id λe=>e.elim (λe=>ω) (λe=>by cases e)),u.kp⟩;show BdM w1 d (YH width (xs.take (0*each))) (.slice none 0 0);rw[y1m,y2S];exact xw
 case hround=>
  rintro⟨b,v⟩ w2 ⟨gd,q,s,nN,D,C,z⟩ a;dsimp only at gd q s nN D C a⊢;have F:=z.S4 hB (λe=>e r);have hg:=Ext.Sv w2;have z2:=z.size;have a0:d<w2.heap.size:=by obtain⟨⟨p,hp,h⟩,-,-⟩:=q;exact h.lt
  have n6:∀b,(X b\/b=d\/v.ownBlock=some b)->b<w2.heap.size:=λb h=>by
   rcases h with e|e| e
   ·have:=Z b e;omega
   ·omega
   ·exact q.2.1.lt e
  have NP:=M (xs.take (b*each))
  try dsimp only
  refine SX O<|Ub O<|S5<|So O (λh0=>?_)<|λh0=>?_
  ·have E:b*each<xs.length:=ω
   have RG:=hN b E;obtain⟨m,hm⟩:∃m,min (xs.length-b*each) each=m:=⟨_,O⟩;have U:=C.z3f (x:=((st+b:Nat):Int)) ω ω;have Er:m*width<=each*width:=y0Y _ ω;have f:=xB b (by rw[U];omega) m ω ω;have W:=(C.ext' hg).read (λb h=>by have:=n6 b h;have:=hg.size;omega) hK (no:=((st+b:Nat):Int)) ω ω;obtain⟨t,ht⟩:∃t,txt ((st+b:Nat):Int)=t:=⟨_,O⟩;rw[ht] at U f W;refine S6<|TZ<|It<|Ux (λw'=>Kp (λj=>¬(X j\/j=d\/v.ownBlock=some j)) w2 w') O<|St 0 O O hg.kp<|S8 1 O (Tu O) hg.kp<|S8 2 O (SN ZU O) hg.kp<|qT 3 O (λ_ J=>Sc Zh O O (J.S4 F (λe=>e (.inl r))) O) hg.kp<|St 4 O O hg.kp<|S8 5 O (Tu O) hg.kp<|S8 6 O (SN z1U O) hg.kp<|S8 7 O (SN Us O) hg.kp<|qT 8 O (λ_ J=>Sc U3 O O (J.S4 F (λe=>e (.inl r))) O) hg.kp<|St 9 O O hg.kp ?_;refine S8 10 O (YB O O ω) hg.kp ?_;rw[show(st:Int)+(b:Int)=((st+b:Nat):Int) by omega];refine VF 11 O zfD O W ?_;rintro _ w3⟨rfl,gQ,c⟩;refine⟨hg.kp.trans c,?_⟩;have A:=hg.kp.trans c;have xz:=q.kp A (λe=>e (.inr (.inl O))) (λg hg e=>e (.inr (.inr hg)));have R:=A.S4 F (λe=>e (.inl r));refine St 12 O O (hg.kp.trans c)<|S8 13 O (UY O O) (hg.kp.trans c)<|S8 14 O (UY O O) (hg.kp.trans c)<|S8 15 O (UU O) (hg.kp.trans c)<|S8 16 O (UU O) (hg.kp.trans c)<|qE<|SX O<|TK O<|Tt O<|TV O<|SC O<|Sn Uz O<|Sn ZK O<|qV (Sc U3 O O R O) ?_;refine qV (ymi O O) ?_;rw[show min ((xs.length-b*each:Nat):Int) (each:Int)=(m:Int) by omega];refine Up O (Sz O (Sf O (SC O (Sn Uz O (Sn XA O (qV (Sc U3 O O R O) (qV (Zf O O (by rw[<-y1A];omega)) ?_)))))));rw[<-y1A];refine qV (z6a (m:=m*width) U9 O O ω) ?_;rw[f];have iD:=M ((xs.drop (b*each)).take m);have L:((xs.drop (b*each)).take m).length=m:=by rw[y0c,y08];omega
   have P:(xs.take (b*each)).length*width<=4194304*8:=y1k (by rw[y0c];omega) V;rw[L] at iD;refine Sr zkK O (z7G xz (YH width ((xs.drop (b*each)).take m)) ω) ?_;rintro _ w4⟨B,k,N,i⟩;have z3:=A.size;refine S5<|Sg O<|Sz O<|UO O<|Sq O<|S2<|Uw O<|Tr O<|Sq O ?_;rw[show((xs.length-b*each:Nat):Int)-(m:Int)=((xs.length-(b+1)*each:Nat):Int) by rw[y0r];omega];refine(a (b+1,B) _ ⟨?_,?_,λe=>by dsimp only at e;omega,λ_=>ω,λg hg=>(i g hg).elim (D g) (λe=>ω),?_,?_⟩ ?_).qb
   ·show b+1<=xs.length;have:b*1<=b*each:=y39 _ ω;omega
   ·show BdM w4 d (YH width (xs.take ((b+1)*each))) B
    have e:xs.take ((b+1)*each)=xs.take (b*each)++(xs.drop (b*each)).take m:=by
     rw[y0r,y0Q,y2V]
     congr 1
     by_cases hc:xs.length-b*each<=each
     ·rw[y0B (by rw[y08];omega),y0B (by rw[y08];omega)]
     ·rw[show m=each by omega]
    rw[e];unfold YH at k⊢;rw[y1Y];exact k
   ·exact gQ.step N (λj e=> .inr e) (λj e=>by
     rcases e with e|e| e
     ·exact .inl (.inl e)
     ·exact .inl (.inr (.inl e))
     ·exact(i j e).imp (λe=> .inr (.inr e)) id)
   ·refine(z.trans (A.Se λb e H=>e (.inl H))).An N λb e=> .inl ?_;rcases e with e| e
    ·omega
    ·exact D b e
   ·dsimp only;rw[y0r];omega
  ·have fC:xs.take (b*each)=xs:=y0B ω;rw[fC] at q;have T:=M xs;have P:xs.length*width<=4194304*8:=y1k dP V
   have tY:YH width xs=[]->v= .slice none 0 0:=λe=>s (by
    have G:=congrArg List.length e;rw[T,y1e] at G;have H:xs.length=0:=(Nat.mul_eq_zero.1 G).resolve_right ω
    omega)
   refine Sh O (qN O (Sr zo9 O (z6l q tY ω) ?_));rintro _ w3⟨rfl,c⟩;refine To O<|S3 func50 O ?_;exact⟨_,O,O,C.step c (λb e=> .inr (.inr e)) (λb e=> .inl (.inl e)),z.An c (λb e=> .inl (D b e))⟩
end
section
variable {n:Nat}
theorem z9w (z:Sp Q txt K X w)(C:∀b,X b->b<w.heap.size)(l:YJ Q txt vb width st xs w)(d:X vb)(x:2<=st)(F:∀i,st<=i->i<st+vcL xs.length (512 / width)->Q.L[i]? =some true):
  SG prog 51 [ptr vb 0] w λv w'=>v=I 0/\∃txt',Sp (Q.Tl (Th Q.L st (vcL xs.length (512 / width)) false)) txt' K X w'/\(∀y:Int,y<(st:Int)\/(st:Int)+(vcL xs.length (512 / width):Int)<=y->txt' y=txt y)/\Kp (λb=>¬X b\/b=vb) w w':=by
 have hB:=l.cells
 have u:=l.fit
 have G:1<=vcL xs.length (512 / width):=Nat.le_max_left _ _
 have hg:=Ext.Sv w
 have q:=(z.ext' hg).zoZ (λb D=>by have:=C b D;have:=hg.size;omega) G x u F
 generalize vcL xs.length (512 / width)=N at*
 refine py (e:=[(0,_)]) func51 O ntmps51 O O<|TU O<|SX O<|Sr zaX O (VU l) ?_
 rintro _ w⟨rfl,rfl⟩
 refine TR O<|TK O<|Tt O<|It<|It<|Ux (λw'=>Kp (λb=>¬X b) w w') O<|St 0 O O hg.kp<|S8 1 O (Tu O) hg.kp<|S8 2 O (SN ZU O) hg.kp<|qT 3 O (λ_ h=>Sc Zh O O (h.S4 hB (λe=>e d)) O) hg.kp<|St 4 O O hg.kp<|S8 5 O (Tu O) hg.kp<|S8 6 O (SN z1U O) hg.kp<|qT 7 O (λ_ A=>SO Z1 O UF O (Sk.cells (n:=2) (A.S4 hB (λe=>e d)) (news:=[_,_]) O) O) hg.kp ?_
 refine VF 8 O zoo O q ?_
 rintro _ w1⟨rfl,c,H,J,j⟩
 refine⟨hg.kp.trans j,?_⟩
 have o:=hg.kp.trans j
 have r:=o.S4 hB (λe=>e d)
 refine S8 9 O (UU O) (hg.kp.trans j)<|qE<|SE O<|TK O<|Tt O<|SE O<|SC O<|Sn zcd O<|Sm O (TO Xh O O O r ξ) ?_
 rintro w2⟨M,m⟩
 refine qM O<|Sq O<|S3 func51 O ?_
 exact⟨_,O,O,c,H.own m (λb e=>by rw[e];exact d),J,(o.Se λb e=> .inl e).trans (m.Se λb e=> .inr e)⟩
def VcT.any {n:Nat}(l:1<=each)(q:each*width<=512)(h:∀i,i<n->(txt ((st+i / each:Nat):Int)).length=512):∃xs:List Nat,xs.length=n/\VcT txt st width each xs:=by
 refine⟨(List.range n).map λi=>T2 (SA (((txt ((st+i / each:Nat):Int)).drop (i%each*width)).take width)),ξ,λi x c=>?_⟩
 rw[y0l] at c
 by_cases hi:i<n
 ·rw[y1z hi] at c;cases c;have m:=h i hi;have o:(i%each+1)*width<=each*width:=y0Y _ (y13 _ l);rw[y0r,y0Q] at o
  have d:(((txt ((st+i / each:Nat):Int)).drop (i%each*width)).take width).length=width:=by
   rw[y0c,y08,m];omega
  refine⟨?_,?_⟩
  ·have j:=zbG (((txt ((st+i / each:Nat):Int)).drop (i%each*width)).take width);rw[d] at j;exact j.symm
  ·have e:=Uy (SA (((txt ((st+i / each:Nat):Int)).drop (i%each*width)).take width));rw[bitsT_length,d] at e;exact e
 ·rw[y0n (by simpa using hi)] at c;cases c
theorem zdS (F:Sp Q txt K X w)(hX:∀b,X b->b<w.heap.size)(hK:K<=800000000000)(hp:Pre Q.L a)(n width:Nat)(hn:n<=4194304)(H:width=1\/width=2\/width=4\/width=8)(h:a+vcL n (512 / width)<=Q.L.length):
  SG prog 41 [ptr Q.s 0,I (n:Int),I (width:Int)] w λv w'=>∃vb txt',v= .tuple #[ptr vb 0,I 0]/\w.heap.size<=vb/\Sp (Q.Tl (Th Q.L a (vcL n (512 / width)) true)) txt' (K+vcL n (512 / width)) (λb=>X b\/b=vb) w'/\YJ (Q.Tl (Th Q.L a (vcL n (512 / width)) true)) txt' vb width a (List.replicate n 0) w'/\(∀y:Int,y<(a:Int)\/(a:Int)+(vcL n (512 / width):Int)<=y->txt' y=txt y)/\Kp (λb=>¬X b) w w':=by
 have W:1<=vcL n (512 / width):=Nat.le_max_left _ _
 have eE:=F.n
 obtain⟨e1,c,e3,e4,e5⟩:64<=512 / width/\512 / width<=512/\512 / width*width=512/\1<=width/\width<=8:=by
  rcases H with e|e|e|e<;>subst e<;>decide
 have V:(Th Q.L a (vcL n (512 / width)) true).length=Q.L.length:=TE h
 refine py (e:=[(0,_),(1,_),(2,_)]) func41 O ntmps41 O O<|qN O<|To O<|TZ<|SE O<|qV (T9 Zh O O)<|Sq O<|S9 O<|It<|Tc (λS w'=>w'=w/\S=[(0,ptr Q.s 0),(1,I (n:Int)),(2,I (width:Int)),(15,.bool false)]) ?az<|λaz=>?eO
 case az=>
  rintro S w'⟨rfl,rfl⟩;refine VP O<|S2<|TV O<|Sf O<|Sr z82 O (F.size) ?_;rintro _ w'⟨rfl,rfl⟩;refine Sf O (qV (yqu O O ω) ?_);rw[show(512:Int) / (width:Int)=((512 / width:Nat):Int) from rfl];refine qV (VI (cs:=[_,_,_]) z2c O zls O O)<|Sf O<|qV (VI (cs:=[_,_,_,_,_,_,_]) zmz O zmg O O)<|Sd O O (UD O (cs:=[I (n:Int),I (width:Int),I ((512 / width:Nat):Int),I 0,I 0,ptr Q.s 0,.bool false]) O) ?_;rintro _ w1⟨vb,rfl,ew,M,A⟩;refine Up O (Sz O (SC O (Sn Uz O (qV (SO z5k O z2c O (Sk.cells (n:=3) A (news:=[_,_,_]) O) O) (Sr znI O (z2t n width (512 / width) ⟨ω,c⟩ hn _) ?_)))));rintro _ w2⟨rfl,z⟩;have r:=M.trans z;have ak:=z.S4 A;have z1:=M.size;have z2:=z.size;have l1:=A.lt;have eM:Sp Q txt K (λb=>X b\/b=vb) w2:=F.ext r (λb e=>e.imp id λe=>ω)
  have U:∀b,(X b\/b=vb)->b<w2.heap.size:=λb G=>by
   rcases G with e| e
   ·have:=hX b e;have:=r.size;omega
   ·omega
  obtain⟨N,hN⟩:∃N,vcL n (512 / width)=N:=⟨_,O⟩;rw[hN] at W h V⊢;refine Sr zmp O (eM.take U hp W h) ?_;rintro _ g⟨rfl,gQ,C⟩;have au:=C.S4 ak (λe=>e (.inr O));have z3:=C.size;refine Sf O<|Vk O<|Sd O O (UK (cs:=[_,_]) UF O) ?_;rintro _ w4⟨b9,rfl,oU,P,T⟩;refine Sm O (Ta (news:=[I (a:Int),I (N:Int)]) UF O O O O T ξ) ?_;rintro k⟨m,ai⟩;replace m:Sk k b9 [I (a:Int),I (N:Int)] 124:=m;have l:Ext g k:=P.An ai (λj e=>ω);have cJ:=l.S4 au;have iE:=gQ.ext' l;refine Sq O<|SI.qb (e:=[(0,_),(8,_),(9,_),(10,_)]) ?_;refine SX O (TK O (Tt O (SE O (qV (SO Z1 O UF O (Sk.cells (n:=2) m (news:=[_,_]) O) O) (SC O (Sn z1U O (Sm O (Ta (news:=[I (a:Int),I (N:Int)]) UF O O O O cJ ξ) ?_)))))));rintro J⟨u,o⟩;replace u:Sk J vb [I (n:Int),I (width:Int),I ((512 / width:Nat):Int),I (a:Int),I (N:Int),ptr Q.s 0,.bool false] 164:=u;have Y:=iE.own o (λb e=> .inr e);have R:(Q.Tl (Th Q.L a N true)).L.length=Q.L.length:=V
  obtain⟨xs,D,xA⟩:=VcT.any (txt:=txt) (st:=a) (width:=width) (each:=512 / width) (n:=n) ω ω (λi hi=>by
   have Z:=z2I (each:=512 / width) ω hi;rw[hN] at Z
   generalize i / (512 / width)=q at Z⊢
   exact Y.z3f ω (by rw[R];omega))
  have E:YJ (Q.Tl (Th Q.L a N true)) txt vb width a xs J:=⟨by rw[D,hN];exact u,H,xA,ω,by rw[D,hN,R];exact h⟩
  have oI:∀b,(X b\/b=vb)->b<J.heap.size:=λb G=>by
   have:=U b G;have:=l.size;have:=o.size;omega
  have f:=z1L Y oI ω E (.inr O) (x:=0) (y0z _);rw[D,hN] at f;refine S5<|SX O<|Sr zkf O f ?_;rintro _ w7⟨rfl,hW⟩;obtain⟨d,p,t,B,ay⟩:=hW;refine TR O<|TK O<|Tt O<|SE O<|To O<|S3 func41 O ?_;have iW:(List.replicate n 0).length=n:=y0b;refine⟨_,O,vb,d,O,ω,p,t,λy hy=>B y (by rw[iW,hN];exact hy),?_⟩;have cj:Kp (λb=>¬X b) w' g:=r.kp.trans (C.Se λb e c=>e (.inl c));exact((cj.trans l.kp).An o (λb e=> .inl ω)).trans (ay.Se λb e c=>e (.inl c))
 case eO=>
  rcases H with rfl|rfl|rfl|rfl
  ·refine Uw O<|TW O<|T0<|Sz O<|Ub O<|T0<|Td O<|Sz O<|TK O<|T0<|Sf O<|Ua<|Td O<|Sf O ?_;refine Ua<|Td O<|Sf O<|Ua<|Td O<|Td O<|Sq O<|SI.qb (e:=[(0,_),(1,_),(2,_),(6,_),(7,_),(15,_)]) ?_;exact(az _ _ ⟨O,O⟩).qb
  ·refine Uw O<|TW O<|T0<|Sz O<|Ub O<|T0<|Td O<|Sz O<|TK O<|Ue<|Sz O<|TK O<|T0<|Uj O ?_;refine Sf O<|Ua<|Td O<|Sf O<|Ua<|Td O<|Td O<|Sq O<|SI.qb (e:=[(0,_),(1,_),(2,_),(6,_),(7,_),(15,_)]) ?_;exact(az _ _ ⟨O,O⟩).qb
  ·refine Uw O<|TW O<|T0<|Sz O<|Ub O<|T0<|Td O<|Sz O<|TK O<|Ue<|Sz O<|TK O<|Ue<|Uj O ?_;refine Sz O<|TK O<|T0<|Uj O<|Sf O<|Ua<|Td O<|Td O<|Sq O<|SI.qb (e:=[(0,_),(1,_),(2,_),(6,_),(7,_),(15,_)]) ?_;exact(az _ _ ⟨O,O⟩).qb
  ·refine Uw O<|TW O<|T0<|Sz O<|Ub O<|T0<|Td O<|Sz O<|TK O<|Ue<|Sz O<|TK O<|Ue<|Uj O ?_;refine Sz O<|TK O<|Ue<|Uj O<|Sz O<|TK O<|T0<|Uj O<|Td O<|Sq O<|SI.qb (e:=[(0,_),(1,_),(2,_),(6,_),(7,_),(15,_)]) ?_;exact(az _ _ ⟨O,O⟩).qb
end
structure Gr where
 n:Nat
 succ:Nat->List Nat
 lt:∀v u,u∈succ v->u<n
def Vx (h:Um g)(v u:Nat)(c:u∈Si g v):u<g.length:=by
 unfold Si at c
 cases e:g[v]? with
 |none=>rw[e] at c;cases c
 |some l=>rw[e] at c;exact h.lt l (y0i e) u c
abbrev Ds:=List (Option Nat)
section
end
section
end
/-! ### The same with a flag: whether there were some -/
/-! ### A run -/
structure BfS where
 t:Nat
 done:Bool
 d:Ds
section
end
def zcJ {v:Nat}(h:v<=200000):Nat.log2 (v+1)<=17:=by
 have d:=y2K (n:=v+1) ω
 have c:2^Nat.log2 (v+1)<2^18:=by
  have:(2:Nat)^18=262144:=ψ
  omega
 have:=(y3o (by decide:1<2)).1 c
 omega
def z1i.zht {q:Cd×Nat}(h:z1i k q)(n:1<=k/\k<=3):(q.1.enc q.2).length<=40:=by
 rw[z0G]
 rcases h with⟨e,h⟩|⟨e,h⟩|⟨e,h⟩
 ·rw[e];show q.2+1+0<=_;omega
 ·have:=zcJ h;rw[e];show Nat.log2 (q.2+1)+1+Nat.log2 (q.2+1)<=_;omega
 ·have j:=zcJ h;have l:Nat.log2 (q.2+1) / k<=Nat.log2 (q.2+1):=y0S _ _;have o:Nat.log2 (q.2+1) / k*k<=Nat.log2 (q.2+1):=y1O _ _
  have m:(Vb (q.2+1-2^(Nat.log2 (q.2+1) / k*k)) (2^(Nat.log2 (q.2+1) / k*k)*2^k-2^(Nat.log2 (q.2+1) / k*k))).2<=20:=by
   have c:Tp (2^(Nat.log2 (q.2+1) / k*k)*2^k-2^(Nat.log2 (q.2+1) / k*k)-1)<=20:=by
    refine UH ?_;have d:=y0v (show 0<2 by decide) (show Nat.log2 (q.2+1) / k*k+k<=20 by omega);rw[y0P] at d;have:=y0z (Nat.log2 (q.2+1) / k*k);omega
   unfold Vb;dsimp only;split
   ·show Tp _-1<=20;omega
   ·exact c
  rw[e];show Nat.log2 (q.2+1) / k+1+(Vb _ _).2<=_;omega
theorem za7 {p:Vz}(c:p.U8)(m:p.zeta<=3){x:Nat}(l:x<65536){succ ref:List Nat}(d:T4 succ)(hr:T4 ref){r:Nat}(o:r<=p.SH)(v:succ.length<=40)(u:ref.length<=40):(SD (V7 p x succ ref r)).length<=6600:=by
 have e:T4 (SL succ ref):=d.sub y1U
 have D:(SL succ ref).length<=succ.length:=y3q _ _
 have h:=(WT succ ref).z4T
 rw[y0h] at h
 have F:=z6v p.interval e
 have G:=(Yl p.interval (SL succ ref)).length_le
 have y:(V7 p x succ ref r).length<=165:=by
  unfold V7;rw[y03];split
  ·simp
  rw[y01,y01];have z:(if 0<p.SH then [(Cd.unary,r)] else []).length<=1:=by split<;>simp
  have A:(if 0<r then(Cd.gamma,(UJ succ ref).length-1)::TP 0 (UJ succ ref).dropLast else []).length<=42:=by
   split
   ·rw[y03,WK,y2n];omega
   ·simp
  have C:(if SL succ ref=[] then [] else(if 0<p.interval then(Cd.gamma,(Tq p.interval (SL succ ref)).1.length)::Tf x p.interval none (Tq p.interval (SL succ ref)).1 else [])++Ti x p.zeta none (Tq p.interval (SL succ ref)).2).length<=121:=by
   split
   ·simp
   ·rw[y01,X9];split
    ·rw[y03,Wc];omega
    ·simp;omega
  omega
 have:=z5O (n:=40) (L:=V7 p x succ ref r) (λq j=>(z3L c l d hr o q j).zht ⟨c.2.2.1,m⟩)
 omega
section
theorem zjs (h:WB p g E)(u:g.length<=40)(o:p.zeta<=3)(hi:i<g.length):(z1u p g E i).length<=6600:=by
 unfold z1u
 have m:g[i]? =some g[i]:=y04 hi
 have r:i<E.length:=by have:=h.pk.el;omega
 have c:E[i]? =some E[i]:=y04 r
 have l:=h.pk.ok.ent i _ c
 rw[m,c]
 rw[m] at l
 show(SD (V7 p.list i g[i] (Ug g i E[i].1) E[i].1)).length<=6600
 have d:T4 (Ug g i E[i].1)/\(Ug g i E[i].1).length<=40:=by
  rcases z0V g i E[i].1 with e| e
  ·rw[e];exact⟨⟨y1p,λy h=>(by cases h)⟩,y02 _⟩
  ·exact⟨h.gr.ok _ e,by have:=h.gr.len e;omega⟩
 have q:E[i].1<=p.list.SH:=by
  rcases l with e|⟨-,n,-⟩
  ·rw[e];exact y02 _
  ·exact n
 have j:g[i]∈g:=y1s hi
 exact za7 h.U8.1 o ω (h.gr.ok _ j) d.1 q (by have:=h.gr.len j;omega) d.2
theorem zfO (h:WB p g E)(d:g.length<=40)(c:p.zeta<=3):∀n,n<=g.length->(Uc p g E n).length<=n*6600
 |0,_=>by simp[Uc]
 | n + 1, hn => by
   have:=zfO h d c n ω;have:=zjs h d c (i:=n) ω;rw[WO,y01,y0r];omega
def zhB {n u:Nat}(m:1<=n):(XD n u).bits<=3*n:=by
 show(u-1) / 2^wdF n u+n<=_
 have h:u<2*n*2^wdF n u:=by
  unfold wdF;split
  ·rename_i e
   have:=(Nat.div_eq_zero_iff).1 e;omega
  ·rename_i e
   have d:=z0J (v:=u / n);have c:=(y2b ω).1 d;have j:1<=Tp (u / n):=by unfold Tp;rw[if_neg e];omega
   rw[show Tp (u / n)=Tp (u / n)-1+1 by omega,y1R,y0H _ n,y0H _ 2,<-y23,y0H n 2] at c;exact c
 have l:(u-1) / 2^wdF n u<2*n:=(y2b (y0z _)).2 ω
 omega
def zeO (h:WB p g E)(c:g.length<=40)(e:p.zeta<=3):(pkT p g E).length<=36000:=by
 have j:=zfO h c e g.length (y07 _)
 have l:g.length*6600<=40*6600:=y0Y _ c
 have m:(pfm p g E).size<=2900:=by
  have d:wdF (g.length+1) ((Uc p g E g.length).length+1)<=30:=z2X ω;have o:=zhB (n:=g.length+1) (u:=(Uc p g E g.length).length+1) ω;have q:(g.length+1)*wdF (g.length+1) ((Uc p g E g.length).length+1)<=41*30:=y1k ω d;show 12+((g.length+1)*wdF (g.length+1) ((Uc p g E g.length).length+1)+7) / 8+((XD (g.length+1) ((Uc p g E g.length).length+1)).bits+7) / 8+4*((g.length+1+63) / 64)<=2900;omega
 rw[h.len]
 unfold z0d
 omega
end
structure GwP where
 p:TX
 g:List (List Nat)
 E:List (Nat×Nat)
 st:Nat
 len:Nat
 rb:Nat
 sum:Nat
 k:Nat
 x:Nat
def Wn (G:GwP)(Q:UB)(txt:Int->Sa)(K:Nat)(X:Nat->Prop)(w:World):Prop:=∃o:StO Q txt K G.st G.len (pkT G.p G.g G.E),YC (zbk o G.rb G.sum) G.k G.x X w
section
variable {G:GwP}{Y:Nat->Prop}
def Wn.sp (h:Wn G Q txt K X w):Sp Q txt K (λb=>X b\/b=G.rb) w:=by obtain⟨o,h⟩:=h;exact h.inv.1
def Wn.rbB (h:Wn G Q txt K X w):Sk w G.rb (srC Q.s G.st G.len (pkT G.p G.g G.E).length G.sum) 202:=by obtain⟨o,h⟩:=h;exact h.inv.2.1
def Wn.rbX (h:Wn G Q txt K X w):¬X G.rb:=by obtain⟨o,h⟩:=h;exact h.inv.2.2
def Wn.lt (h:Wn G Q txt K X w):∀b,X b->b<w.heap.size:=by obtain⟨o,h⟩:=h;exact h.lt
def Wn.lt1 (h:Wn G Q txt K X w):∀b,(X b\/b=G.rb)->b<w.heap.size:=λb c=>c.elim (h.lt b) (λe=>by rw[e];exact h.rbB.lt)
theorem Wn.z9z (h:Wn G Q txt K X w):K<1000000000000:=by obtain⟨o,h⟩:=h;exact o.k
def Wn.xk (h:Wn G Q txt K X w):X G.k/\X G.x/\X 1/\X 2:=by obtain⟨o,h⟩:=h;exact⟨h.xk,h.xx,h.x1,h.x2⟩
theorem Wn.ok (h:Wn G Q txt K X w):WB G.p G.g G.E:=by obtain⟨o,h⟩:=h;exact h.ok
theorem Wn.upd (h:Wn G Q txt K X w)(d:Kp S' w w')(l:∀b,S' b->¬(X b\/b=G.rb)\/(X b/\b≠G.k/\b≠G.x/\b≠1/\b≠2))(r:Sp Q' txt' K' (λb=>X b\/b=G.rb) w')(z:Q'.s=Q.s)(v:Q'.L.length=Q.L.length)(q:K'<1000000000000)(ht:∀y:Int,(G.st:Int)<=y->y<(G.st:Int)+(G.len:Int)->txt' y=txt y):Wn G Q' txt' K' X w':=by
 have m:=h.rbX
 have n:=h.rbB
 obtain⟨o,h⟩:=h
 have A:=o.len
 refine⟨⟨q,by rw[v];exact o.fit,o.laid.z0c λk d=>ht _ ω ω,o.len⟩,h.re d (λj u=>?_) ⟨r,?_,m⟩⟩
 ·rcases l j u with e| e
  ·exact⟨λc=>e (.inl (c▸h.xk)),λc=>e (.inl (c▸h.xx)),λc=>e (.inl (c▸h.x1)),λc=>e (.inl (c▸h.x2))⟩
  ·exact e.2
 ·rw[z];exact d.S4 n (λe=>(l _ e).elim (λe=>e (.inr O)) (λe=>m e.1))
theorem Wn.zpd (h:Wn G Q txt K X w)(c:Kp S' w w')(d:∀b,S' b->¬(X b\/b=G.rb))(l:∀j,X j->Y j)(n:∀j,Y j->X j\/(w.heap.size<=j/\j<w'.heap.size))(u:Sp Q' txt' K' (λb=>Y b\/b=G.rb) w')(z:Q'.s=Q.s)(x:Q'.L.length=Q.L.length)(r:K'<1000000000000)(ht:∀y:Int,(G.st:Int)<=y->y<(G.st:Int)+(G.len:Int)->txt' y=txt y):Wn G Q' txt' K' Y w':=by
 have A:=h.rbX
 have m:=h.rbB
 obtain⟨o,h⟩:=h
 have C:=o.len
 have q:(zbk (⟨r,by rw[x];exact o.fit,o.laid.z0c λk c=>ht _ ω ω,o.len⟩:StO Q' txt' K' G.st G.len (pkT G.p G.g G.E)) G.rb G.sum).inv Y w':=⟨u,by rw[z];exact c.S4 m (λe=>d _ e (.inr O)),λe=>(n _ e).elim A (λe=>by have:=m.lt;omega)⟩
 refine⟨_,⟨h.ok,c.S4 h.S4 (λe=>d _ e (.inl h.xk)),c.S4 h.ix (λe=>d _ e (.inl h.xx)),l _ h.xk,l _ h.xx,q,λj v=>?_,l _ h.x1,l _ h.x2,c.S4 h.gam (λe=>d _ e (.inl h.x1)),c.S4 h.una (λe=>d _ e (.inl h.x2))⟩⟩
 rcases n j v with e| e
 ·have:=h.lt j e;have:=c.size;omega
 ·exact e.2
def Wn.grow (h:Wn G Q txt K X w)(e:Ext w w')(d:∀j,Y j->X j\/(w.heap.size<=j/\j<w'.heap.size))(c:∀j,X j->Y j):Wn G Q txt K Y w':=by
 obtain⟨o,h⟩:=h
 exact⟨o,h.grow e d c⟩
def Wn.ext (h:Wn G Q txt K X w)(d:Ext w w'):Wn G Q txt K X w':=h.grow d (λj c=> .inl c) λj c=>c
def Wn.own (h:Wn G Q txt K X w)(d:Kp S' w w')(c:∀j,S' j->X j/\j≠G.k/\j≠G.x/\j≠1/\j≠2):Wn G Q txt K X w':=by
 obtain⟨o,h⟩:=h
 exact⟨o,h.own d c⟩
def Wn.step (h:Wn G Q txt K X w)(l:Kp S' w w')(d:∀j,S' j->X j/\j≠G.k/\j≠G.x/\j≠1/\j≠2)(e:∀j,Y j->X j\/(w.heap.size<=j/\j<w'.heap.size))(c:∀j,X j->Y j):Wn G Q txt K Y w':=by
 obtain⟨o,h⟩:=h
 exact⟨o,h.step l d e c⟩
def Wn.less (h:Wn G Q txt K Y w)(d:∀j,X j->Y j)(c:X G.k/\X G.x/\X 1/\X 2):Wn G Q txt K X w:=by
 obtain⟨o,h⟩:=h
 exact⟨o,h.less d c.1 c.2.1 c.2.2.1 c.2.2.2⟩
theorem Wn.more (h:Wn G Q txt K X w)(d:K<=K')(c:K'<1000000000000):Wn G Q txt K' X w:=h.upd (S':=λ_=>False) (Kp.refl _ w) (λ_ e=>e.elim) (h.sp.more d) O O c λ_ _ _=>rfl
def Xx (h:Wn G Q txt K X w):SG prog 37 [ptr G.k 0] w λv w'=>v=I (G.g.length:Int)/\w'=w:=by
 obtain⟨o,h⟩:=h
 exact zgX h
def z9V {l v:Nat}(A:G.g.length<50)(z:v<G.g.length)(h:Wn G Q txt K X w)(e:Sk w bk [ptr G.k 0] 28)(C:Sk w bi [I (v:Int)] 3)(Z:Nat->Prop)(y:∀j,Z j->X j)(J:(Nat->Prop)->Nat->World->Prop)(F:World->Prop)
  (m:∀(Y:Nat->Prop)(w':World),(∀j,X j->Y j)->(∀j,Y j->X j\/w.heap.size<=j)->Wn G Q txt K Y w'->Kp (λj=>¬X j) w w'->J Y 0 w')
  (c:∀(Y:Nat->Prop)(i s:Nat) (w':World),(∀j,X j->Y j)->(∀j,Y j->X j\/w.heap.size<=j)->(Si G.g v)[i]? =some s->J Y i w'->z4Y prog l [SV s,I 0] w' λr d=>(r= .bool true/\J Y (i+1) d/\Kp (λj=>¬Y j\/Z j) w' d)\/(r= .bool false/\F d)):
  SG prog 152 [.func (.yield l) #[] #[],ptr bk 0,ptr bi 0] w λr w'=>r= .tuple #[]/\((∃Y,(∀j,X j->Y j)/\(∀j,Y j->X j\/w.heap.size<=j)/\J Y (Si G.g v).length w')\/F w'):=by
 obtain⟨o,h⟩:=h
 exact zaD A z h e C Z y J F (λY w' n q u x=>m Y w' n q ⟨o,u⟩ x) c
end
theorem zdb {f:FuncId}{R:Value->World->Prop}{n:Nat}{rd:Option Nat}{dk:Bool}{k:List Item}{e:Env}{α:Type}{c:Code}(d:α)(M:α->List Dfr)(o:M d=ms)(E:α->Env)(I:α->World->Prop)(μ:α->Nat)(j:Sub (E d) e)(l:I d w)
  (round:∀x w,I x w->(∀y w',I y w'->μ y<μ x->SI ⟨P,f,R,n,rd,M y,dk⟩ (.inLoop c::k) (E y) w')->SI ⟨P,f,R,n,rd,M x,dk⟩ (.code c:: .inLoop c::k) (E x) w):SI ⟨P,f,R,n,rd,ms,dk⟩ (.code (.loop c)::k) e w:=by
 have key:∀m x w,μ x=m->I x w->SI ⟨P,f,R,n,rd,M x,dk⟩ (.code c:: .inLoop c::k) (E x) w:=by
  intro m
  induction m using Nat.strongRecOn with
  | _ m z =>
    intro x w r u;exact round x w u λy w' v h=>z5a (z (μ y) (r▸h) y w' O v)
 subst o
 exact λa q=>z0b.step (λ_ _=>stepR_loop) (key _ d w O l a (q.sub j))
def Vu.kp {S:Nat->Prop}(h:Vu ms w)(l:Kp S w w')(j:∀D,.mk D∈ms->¬S D):Vu ms w':=λd c=>by
 obtain⟨D,rfl,e⟩:=h d c
 exact⟨D,O,l.heap e (j D c)⟩
theorem Vu.nil (w:World):Vu [] w:=λd c=>by cases c
theorem Vu.cons {D:Nat}(h:Vu ms w)(c:w.heap[D]? =some (.deferred (some []))):Vu (.mk D::ms) w:=λd j=>by
 rcases y0m.1 j with rfl| e
 ·exact⟨D,O,c⟩
 ·exact h d e
def z58:∀(ms:List Dfr)(w:World),Kp (λk=> .mk k∈ms) w (Wh ms w)
 |[],w=>Kp.refl _ w
 | .mk D::ms,w=>((U1 w D (.deferred none)).Se λk e=>by rw[e];exact y0s).trans ((z58 ms _).Se λk e=>y0u _ e)
 | .call f c a::ms,w=>(z58 ms w).Se λk e=>y0u _ e
structure MkN (B:Nat)(ms:List Dfr)(w:World):Prop where
 nd:ms.Nodup
 m:Vu ms w
 lo:∀D,.mk D∈ms->B<=D
 hi:∀D,.mk D∈ms->D<w.heap.size
theorem MkN.nil (B:Nat)(w:World):MkN B [] w:=⟨y1G,.nil w,λ_ h=>(by cases h),λ_ h=>(by cases h)⟩
def MkN.kp {S:Nat->Prop}(h:MkN B ms w)(c:Kp S w w')(e:∀D,.mk D∈ms->¬S D):MkN B ms w':=⟨h.nd,h.m.kp c e,h.lo,λD d=>by have:=h.hi D d;have:=c.size;omega⟩
theorem MkN.cons (h:MkN B ms w)(hB:B<=w.heap.size)(c:MkN B ms w')(d:w'.heap[w.heap.size]? =some (.deferred (some [])))(j:w.heap.size<w'.heap.size):MkN B (.mk w.heap.size::ms) w':=
 ⟨y19.2 ⟨λe=>by have:=h.hi _ e;omega,h.nd⟩,c.m.cons d,λD e=>by
  rcases y0m.1 e with e| e
  ·cases e;exact hB
  ·exact h.lo D e,λD e=>by
  rcases y0m.1 e with e| e
  ·cases e;exact j
  ·exact c.hi D e⟩
def GrR (w:World)(gb go:Nat)(g:List (List Nat)):Prop:=∀(v:Nat)(l:List Nat),g[v]? =some l->∃(a:Option Addr)(c:Nat),w.cell? ⟨gb,go+v*1,none⟩=some (.slice a l.length c)/\∀(i x:Nat),l[i]? =some x->∃d lo,a=some ⟨d,lo,none⟩/\w.cell? ⟨d,lo+i*1,none⟩=some (SV x)
def Ts {a:Addr}{u:Value}(d:Ext w w')(h:w.cell? a=some u):w'.cell? a=some u:=by
 unfold World.cell? at h⊢
 cases c:w.heap[a.block]? with
 |none=>rw[c] at h;simp at h
 |some o=>rw[d.heap c id];rw[c] at h;exact h
theorem GrR.ext {go:Nat}(h:GrR w gb go g)(d:Ext w w'):GrR w' gb go g:=λv l o=>by
 obtain⟨a,c,j,m⟩:=h v l o
 refine⟨a,c,Ts d j,λi x hi=>?_⟩
 obtain⟨q,lo,e,n⟩:=m i x hi
 exact⟨q,lo,e,Ts d n⟩
theorem GrM.r {v:Value}(h:GrM w v g)(D:1<=g.length):∃gb go gc,v= .slice (some ⟨gb,go,none⟩) g.length gc/\GrR w gb go g:=by
 obtain⟨vs,hr,y⟩:=h.ex
 rcases hr.2 with⟨c,-,d⟩|⟨gb,go,gc,e,q⟩
 ·omega
 ·refine⟨gb,go,gc,e,λv l u=>?_⟩;obtain⟨a,c,n,C,o⟩:=y v l u;refine⟨a,c,by rw[y0j];exact q v _ n,λi x hi=>?_⟩;rcases o.2 with⟨A,-,d⟩|⟨z,lo,F,j,m⟩
  ·have:l=[]:=y0x d;rw[this] at hi;cases hi
  ·cases j;exact⟨z,lo,O,by rw[y0j];exact m i _ (by rw[y0l,hi];rfl)⟩
/-! ### Distances -/
structure RwM (w:World)(bg B:Nat)(L:List (List Nat)):Prop where
 ex:∃vs:List Value,Sk w bg vs 40/\vs.length=L.length/\∀(i:Nat)(l:List Nat),L[i]? =some l->∃(a:Option Addr)(c:Nat),vs[i]? =some (.slice a l.length c)/\l.length<=c/\Rd w (.slice a l.length c) 1 l.length (l.map SV)/\∀b,(Value.slice a l.length c).ownBlock=some b->B<=b/\b≠bg
section
variable {L:List (List Nat)}
theorem RwM.ext (h:RwM w bg B L)(d:Ext w w'):RwM w' bg B L:=by
 obtain⟨vs,n,o,q⟩:=h.ex
 refine⟨vs,d.S4 n,o,λi l r=>?_⟩
 obtain⟨a,c,e,j,m,g4⟩:=q i l r
 exact⟨a,c,e,j,m.ext d,g4⟩
def RwM.new {n:Nat}(h:Sk w bg (List.replicate n (.slice none 0 0)) 40):RwM w bg B (List.replicate n []):=
 ⟨_,h,ξ,λi l c=>by
  rw[y0Z] at c;split at c
  ·rename_i hi
   cases c;exact⟨none,0,by rw[y0Z,if_pos hi];rfl,y07 _,⟨rfl,.inl ⟨(none,0),rfl,rfl⟩⟩,λb d=>by cases d⟩
  ·cases c⟩
theorem RwM.set (h:RwM w bg B L){l:List Nat}{a:Option Addr}{c:Nat}(o:Kp (λb=>b=bg) w w')(hB:∀vs,Sk w bg vs 40->Sk w' bg (vs.set (0+f*1) (.slice a l.length c)) 40)(n:f<L.length)(C:l.length<=c)(hr:Rd w (.slice a l.length c) 1 l.length (l.map SV))(q:∀b,(Value.slice a l.length c).ownBlock=some b->B<=b/\b≠bg):RwM w' bg B (L.set f l):=by
 obtain⟨vs,z,m,A⟩:=h.ex
 refine⟨_,hB vs z,by simp[m],λi l' d=>?_⟩
 rw[y0g,y0j]
 by_cases e:f=i
 ·subst e;rw[y0X n] at d;cases d;exact⟨a,c,y0X (by rw[m];exact n),C,hr.kp o (λb j e=>(q b j).2 e),q⟩
 ·rw[y0M e] at d;obtain⟨r,u,v,x,y,g4⟩:=A i l' d;exact⟨r,u,by rw[y0M e];exact v,x,y.kp o (λb j e=>(g4 b j).2 e),g4⟩
theorem RwM.gr (h:RwM w bg B L):GrM w (.slice (some ⟨bg,0,none⟩) L.length L.length) L:=by
 obtain⟨vs,n,o,q⟩:=h.ex
 refine⟨vs,⟨by rw[o,y0j],.inr ⟨bg,0,L.length,rfl,λj u r=>by rw[n.cell,y0g];exact r⟩⟩,λi l v=>?_⟩
 obtain⟨a,c,d,e,m,g4⟩:=q i l v
 exact⟨a,c,d,e,m⟩
def RwM.lt (h:RwM w bg B L):bg<w.heap.size:=by obtain⟨vs,c,-⟩:=h.ex;exact c.lt
theorem RwM.cell (h:RwM w bg B L){f:Nat}{l:List Nat}(o:L[f]? =some l):∃(a:Option Addr)(c:Nat),w.cell? ⟨bg,0+f*1,none⟩=some (.slice a l.length c)/\l.length<=c/\Rd w (.slice a l.length c) 1 l.length (l.map SV)/\∀b,(Value.slice a l.length c).ownBlock=some b->B<=b/\b≠bg:=by
 obtain⟨vs,m,q,n⟩:=h.ex
 obtain⟨a,c,d,e,j,g4⟩:=n f l o
 exact⟨a,c,by rw[m.cell,y0g,y0j];exact d,e,j,g4⟩
def EdR (w:World)(ea:Option Addr)(es:List (Nat×Nat)):Prop:=∀(i:Nat)(e:Nat×Nat),es[i]? =some e->e.1<4294967296/\e.2<4294967296/\∃eb c,ea=some ⟨eb,c,none⟩/\w.cell? ⟨eb,c+i*2+0,none⟩=some (SV e.1)/\w.cell? ⟨eb,c+i*2+1,none⟩=some (SV e.2)
theorem EdR.ext (h:EdR w ea es)(c:Ext w w'):EdR w' ea es:=λi e q=>by
 obtain⟨j,l,eb,d,m,n,o⟩:=h i e q
 exact⟨j,l,eb,d,m,Ts c n,Ts c o⟩
end
theorem Um.insert (h:Um g){x:Nat}{s:List Nat}(z:g[f]? =some s)(A:x<g.length)(C:k<=s.length)(o:∀y∈s.take k,y<x)(q:∀y∈s.drop k,x<y):Um (g.set f (s.take k++[x]++s.drop k)):=by
 have v:=y0i z
 have j:=h.ok s v
 have m:=h.lt s v
 have D:=h.n
 refine⟨λl d=>?_,λl d y c=>?_,by rw[y0w];exact h.n⟩
 ·rcases y3O d with e| e
  ·exact h.ok l e
  ·subst e;refine⟨?_,λy c=>?_⟩
   ·have hr:List.Pairwise (·<·) s:=j.ris;show List.Pairwise (·<·) _;rw[y06,y3c];refine⟨hr.sublist (y37 _ _),?_,λa r b u=>?_⟩
    ·rw[y3e,y1o];exact⟨q,hr.sublist (y1t _ _)⟩
    ·rw[y3e] at u;rcases y0m.1 u with e| e
     ·rw[e];exact o a r
     ·exact Nat.lt_trans (o a r) (q b e)
   ·rcases y0y.1 c with e| e
    ·rcases y0y.1 e with e| e
     ·exact j.lt y (y1d e)
     ·rw[y0F.1 e];omega
    ·exact j.lt y (y1T e)
 ·rw[y0w];rcases y3O d with e| e
  ·exact h.lt l e y c
  ·subst e;rcases y0y.1 c with e| e
   ·rcases y0y.1 e with e| e
    ·exact m y (y1d e)
    ·rw[y0F.1 e];exact A
   ·exact m y (y1T e)
def Um.empty {n:Nat}(e:n<=60):Um (List.replicate n []):=
 ⟨λl c=>by rw[y3l c];exact⟨y1p,λy h=>(by cases h)⟩,λl c y d=>(by rw[y3l c] at d;cases d),by simpa using e⟩
end Go.Proofs.YtbihggbffaigjaaGreatDoor
namespace Go.Proofs.YtbihggbffaigjaaGreatDoor
open Go Go.ChangeShapes Go.WideShapes Go.ChangeAt Go.RowKit Go.Deep Go.Proofs.Tryz
variable {B K K' a b bg bs bw bx f gb gc i k rb rr st sum wb:Nat}{E es:List (Nat×Nat)}{L:List Bool}{O_ S' X:Nat->Prop}{P:Program}{Q Q':UB}{T s:Sa}{cs:List Value}{ea ga:Option Addr}{t:TypeId}{g:List (List Nat)}{p:TX}{txt txt':Int->Sa}{w w':World}
section
variable {H:Type}{enc:TypeId×Value->H}{W:World}{sp:Nat->Bool}
def zfe (n:Int)(h:(Lit.int .u32 n).wf=true):Value.int .u32 n=SV n.toNat/\n.toNat<4294967296:=by
 simp[Lit.wf,IntKind.min,IntKind.max,IntKind.signed,IntKind.bits] at h
 exact⟨by unfold SV;congr;omega,ω⟩
def i64_in (n:Int)(h:(Lit.int .i64 n).wf=true):JIq n:=by
 simp[Lit.wf,IntKind.min,IntKind.max,IntKind.signed,IntKind.bits] at h;omega
theorem z5Z {off:Nat}{c:Option Nat}{v:Value}(h:w.cell? ⟨b,off,c⟩=some v):c=none:=by
 unfold World.cell? at h
 split at h
 ·cases c with
  |none=>rfl
  |some s=>simp at h
 ·cases h
theorem open_edges {d:Nat}{v:Value}{x:DataW H×List MemPlace}(h:DataW.trod enc prog W 0 sp true d 22 [v]=some x)(S:∀n∈x.1.weights prog 22,n<=reachBytes):∃(ea:Option Addr)(G:Nat) (es:List (Nat×Nat)),v= .slice ea es.length G/\EdR W ea es/\es.length<=9000000000000000000:=by
 rcases open_slice_pairs U22 U81 y00 O O y00 y00 h with⟨q,z⟩|⟨a,len,cap,m,n,C,D,g,k,s,t,q,-,B,K,f,z,U⟩
 ·cases q;exact⟨none,0,[],O,λi e c=>by simp at c,ξ⟩
 ·cases q;have w:maxLen=9223372036854775807:=rfl;have L:len<=m:=by rw[f];split<;>omega
  have R:∀i,i<len->∃e:Nat×Nat,e.1<4294967296/\e.2<4294967296/\W.cell? (a.add (i*2))=some (SV e.1)/\W.cell? (a.add (i*2+1))=some (SV e.2):=λi hi=>by
   obtain⟨c0,c1,M,N⟩:=U i ω;obtain⟨r,j,-,f0⟩:=y1I U0 M;obtain⟨n1,l,-,f1⟩:=y1I U0 N;have j:C i= .int .u32 r:=by simpa using j
   have l:D i= .int .u32 n1:=by simpa using l
   obtain⟨Y,F⟩:=zfe r f0;obtain⟨Z,b1⟩:=zfe n1 f1;exact⟨(r.toNat,n1.toNat),F,b1,by rw[c0,j,Y],by rw[c1,l,Z]⟩
  obtain⟨E,y⟩:∃E:Nat->Nat×Nat,∀i,i<len->(E i).1<4294967296/\(E i).2<4294967296/\W.cell? (a.add (i*2))=some (SV (E i).1)/\W.cell? (a.add (i*2+1))=some (SV (E i).2):=
   choose_lt (α:=Nat×Nat) (n:=len) (p:=λi e=>e.1<4294967296/\e.2<4294967296/\W.cell? (a.add (i*2))=some (SV e.1)/\W.cell? (a.add (i*2+1))=some (SV e.2)) R
  refine⟨some a,cap,(List.range len).map E,ξ,λi e c=>?_,?_⟩
  ·rw[y0l] at c;rcases y0a i len with hi|hi
   ·rw[y1z hi] at c;obtain rfl:=UC c;obtain⟨I,J,u,g4⟩:=y i hi;obtain⟨b,off,A⟩:=a;have o:=(y 0 ω).2.2.1;rw[y1m] at o;simp only[Addr.add,if_true] at o;obtain rfl:=z5Z o;rw[UG] at u g4;exact⟨I,J,b,off,O,u,by rw[y1B];exact g4⟩
   ·rw[y0n (by simpa using hi)] at c;cases c
  ·have V:=S ((len+(m-len))*8) (by rw[z];simp[DataW.weights,U22,show prog.bytesOf 81=8 by kernel_rfl]);simp[reachBytes] at V;simp;omega
end
theorem Sk.uniq {c:List Value}{T e:TypeId}(h:Sk w b cs T)(l:Sk w b c e):cs=c:=by
 obtain⟨n,m,-⟩:=h
 obtain⟨j,d,-⟩:=l
 rw[m] at d
 have:=UC d
 injection this with e1 e2 e3
 have:=congrArg Array.toList e1
 simpa using this
theorem zdh {n:Nat}(cy:1<=n)(hn:n<=40){ec:Nat}(wH:es.length<=9000000000000000000)(hE:EdR w ea es):SG prog 8 [I (n:Int),.slice ea es.length ec] w λv w'=>∃g bg,v= .slice (some ⟨bg,0,none⟩) g.length g.length/\g.length=n/\Um g/\RwM w' bg w.heap.size g/\Ext w w':=by
 have fI:maxLen=9223372036854775807:=rfl
 refine py (e:=[(0,_),(1,_)]) func8 O ntmps8 O O<|qN O<|TR O<|Sd O O (pmk (c:=n) (n:=n) Xw VR O O O ω ω ω) ?_
 rintro _ w1⟨bg,rfl,⟨P7,aa,aj⟩,-⟩
 have eQ:RwM w1 bg w.heap.size (List.replicate n []):=RwM.new aj
 refine Sq O<|It<|TU O<|S7<|UW (α:=Nat×List (List Nat)) (0,List.replicate n []) (λy=>[(0,I (n:Int)),(1,.slice ea es.length ec),(5,.slice (some ⟨bg,0,none⟩) n n),(6,I (y.1:Int))]) (λy w'=>y.1<=es.length/\y.2.length=n/\Um y.2/\RwM w' bg w.heap.size y.2/\Ext w w') (λy=>es.length-y.1) ?hI ?hround
 case hI=>exact⟨y02 _,ξ,Um.empty ω,eQ,aa⟩
 case hround =>
  rintro⟨i,g⟩ w2 ⟨hi,B,t,cu,ae⟩ ih;dsimp only at hi B t cu ae ih⊢
  try dsimp only
  refine It<|TV O<|UR U22 O<|TW O<|S5<|So O (λhq=>?_)<|λhq=>?_
  ·have de : i < es.length := by omega
   obtain⟨e,he⟩:∃e,es[i]? =some e:=⟨_,y04 de⟩;obtain⟨P,Q,eb,eo,rfl,eJ,ff⟩:=(hE.ext ae) i e he;refine S6 (TZ (It (TV O (qV (Tm U22 z8D O O ω) (Sn zal O (qV (SQ U0 O O eJ) (qV (T7 O U0 U3 ω) (Sf O ?_))))))));by_cases hf:e.1<n
   ·by_cases ht:e.2<n
    ·refine WZ O (T0 (Sz O (Sf O (qV (Tm U22 z8D O O ω) (Sn z4n O (qV (SQ U0 O O ff) (qV (T7 O U0 U3 ω) (Sf O (WZ O (T0 ?_))))))))));obtain⟨s,hs⟩:∃s,g[e.1]? =some s:=⟨_,y04 ω⟩;obtain⟨a,c,iB,rk,eY,RI⟩:=cu.cell hs;have ic:s.length<=n:=by rw[<-B];exact t.len (y0i hs)
     refine Td O (Tt O (TV O (Sf O (qV (Tm U22 z8D O O ω) (Sn zal O (qV (SQ U0 O O eJ) (qV (Tm Xw VR O O ω) (qV (SQ SR O O iB) (Up O (Sq O (TZ ?_)))))))))));have xe:List.Pairwise (·<·) s:=(t.ok s (y0i hs)).ris
     have Px:∀(k y:Nat),s[k]? =some y->∀z∈s.drop k,y<=z:=λk y H z V=>by
      have kQ:k<s.length:=by
       rcases y0a k s.length with h| h
       ·exact h
       ·rw[y0n h] at H;cases H
      have h1:List.Pairwise (·<·) (s.drop k):=xe.sublist (y1t _ _);rw[y2k kQ] at h1 V;rw[y04 kQ] at H;cases H;rcases y0m.1 V with e| e
      ·omega
      ·exact Nat.le_of_lt ((y1o.1 h1).1 z e)
     refine VB (λL w'=>∃k:Nat,L=[(0,I (n:Int)),(1,.slice (some ⟨eb,eo,none⟩) es.length ec),(5,.slice (some ⟨bg,0,none⟩) n n),(6,I (i:Int)),(7,.slice a s.length c),(8,I (k:Int))]/\k<=s.length/\(∀y∈s.take k,y<e.2)/\(∀y,s[k]? =some y->e.2<=y)/\Ext w2 w') ?fu<|λfu=>?ID
     case fu =>
      rintro L w3⟨k,rfl,U,lR,eD,W⟩;have m:=Ext.Sv w3;have xD:=eY.ext W;have xE:=Ts W ff;refine It<|Tc (λL w'=>∃q,L=[(0,I (n:Int)),(1,.slice (some ⟨eb,eo,none⟩) es.length ec),(5,.slice (some ⟨bg,0,none⟩) n n),(6,I (i:Int)),(7,.slice a s.length c),(8,I (k:Int)),(76,.bool q)]/\(q=true->∀y∈s.drop k,e.2<y)/\Ext w2 w') ?eg<|λeg=>?lZ
      case eg =>
       rintro L M⟨q,rfl,xh,aA⟩;have dX:=cu.ext aA;have nW:=eY.ext aA;have Iz:=Ts aA eJ;have IA:=Ts aA ff;have bO:=ae.trans aA;refine TL O (λEy=>?_)<|λEy=>?_
       ·have d:=Ext.Sv M;have r:=d.size;have Lr:w.heap.size<=M.heap.size:=bO.size;have Py:=dX.lt
        have qh:((s.take k++[e.2])++s.drop k).length=s.length+1:=by
         rw[y01,y01,y0c,y08,y1q];omega
        have T:∀(l:List Nat),∀c∈l.map SV,c.oneCell'=true:=λl c u=>by obtain⟨z,-,rfl⟩:=y0k.1 u;rfl
        have oN:(s.take k).length=k:=by rw[y0c];omega
        have KK:(s.drop k).length=s.length-k:=y08 ..;obtain⟨vs,kT,pM,-⟩:=id dX.ex;refine Sx [23] (λw'=>Ext M w') y00 O (Te 0 O O d (Te 1 O O d (Te 2 O O d (SB 3 O (Tm U22 z8D O O ω) d (SB 4 O (SN zal O) d (Te 7 O O d (Te 8 O O d (Te 11 O O d (Te 12 O O d (SB 13 O (Tm U22 z8D O O ω) d (SB 14 O (SN z4n O) d (Te 18 O O d (Te 19 O O d ?_)))))))))))));refine qL 5 O (λ_ h=>SQ U0 O O (Ts h Iz)) d<|SB 9 O (zhV SR Sy O O ω) d<|qL 15 O (λ_ h=>SQ U0 O O (Ts h IA)) d<|SB 20 O (z1P SR Sy O O U rk) d<|Zj (i:=6) (j:=16) y00 ?_ ?_
        ·refine Ty (i:=6) O O O (pbs (cs:=[]) (zs:=[]) SR Sy O y00 O O O ψ) ?_;rintro v6 w6⟨b6,rfl,⟨oo,K,aW⟩,E⟩;refine⟨d.trans K,?_⟩;have IB:M.heap.size<=b6:=ω
         have a9:=aW.lt;have d:=d.trans K
         try have N:=N.ext K
         have r:=y0d r K.size;refine Zj (i:=10) (j:=16) y00 ?_ ?_
         ·refine Ty (i:=10) O O O (pap SR Sy O ψ O O E ((YT (i:=k) nW U).ext d) (λc u=>T s c (y1d u)) ω ω) ?_;rintro J a3⟨S,R,D,-⟩;refine⟨d.An R (λj e=>by have e:b6=j:=UC e;omega),?_⟩;have d:=d.An R (λj e=>by have e:b6=j:=UC e;omega)
          try have N:=N.kp R (λj o e=>by have e:b6=j:=UC e;have o:A=j:=UC o;omega)
          have D:∀j,J.ownBlock=some j->M.heap.size<=j:=λj o=>by rcases D j o with e|e;(have e:b6=j:=UC e;omega);omega
          have r:=y0d r R.size;have Cm:=λ(j:Nat) (o:J.ownBlock=some j)=>S.lt o;refine U6 (i:=16) y00 (Ty (i:=16) O O O (pbs (cs:=[_]) (zs:=[Value.int .u32 0]) SR Sy O y00 O O O ψ) ?_);rintro a1 a4⟨A,rfl,⟨Cn,C,gm⟩,N⟩;refine⟨d.trans C,?_⟩;have Co:M.heap.size<=A:=ω
          have d:=d.trans C
          try have E:=E.ext C
          try have S:=S.ext C
          have a0:=gm.lt;have r:=y0d r C.size;refine U6 (i:=17) y00 (Ty (i:=17) O O O (pap SR Sy O ψ O O S N.rd (λc u=>T [e.2] c u) ω ω) ?_);rintro b a5⟨jg,Y,F,-⟩;refine⟨d.An Y (λj e=>D j e),?_⟩;have d:=d.An Y (λj e=>D j e);have F:∀j,b.ownBlock=some j->M.heap.size<=j:=λj o=>by rcases F j o with e|e;exact D j e;omega
          have r:=y0d r Y.size;refine U6 (i:=21) y00 (Ty (i:=21) O O O (pap SR Sy O ψ O O jg ((XC (i:=k) nW U rk).ext d) (λc u=>T s c (y1T u)) ω ω) ?_);rintro p a6⟨G,kz,Z,-⟩;refine⟨d.An kz (λj e=>F j e),?_⟩;have d:=d.An kz (λj e=>F j e);have Z:∀j,p.ownBlock=some j->M.heap.size<=j:=λj o=>by rcases Z j o with e|e;exact F j e;omega
          refine SB 22 O (Tm Xw VR O O ω) d ?_;have kA:=d.S4 kT;refine Wg [23] (qO 23 (SY (i:=23) O O (TO VR O O (Wz G) kA (by rw[pM];omega)) ?_));rintro a7⟨cd,X⟩;refine⟨trivial,?_⟩;refine qE<|S2<|Uw O<|Tr O<|Sq O ?_;rw[show 0+k+1+(s.length-k)=(s.take k++[e.2]++s.drop k).length by rw[qh];omega,show([]++List.take k (s.map SV)++[SV e.2]++List.drop k (s.map SV))=(s.take k++[e.2]++s.drop k).map SV by simp[y1g,y1S]] at G;obtain⟨ra,rc,rfl,-⟩:=G.rd.shape
          have Cp:(s.take k++[e.2]++s.drop k).length<=rc:=by
           rcases G.shape with⟨P,Q⟩|⟨gg,cc,P,Q⟩
           ·omega
           ·cases P;exact Q
          have qi:=(dX.ext d).set X (f:=e.1) (l:=s.take k++[e.2]++s.drop k) (a:=ra) (c:=rc) (λa2 h'=>by rw[Sk.uniq h' kA];exact cd) ω Cp G.rd (λj o=>by have:=Z j o;omega);have qj:=t.insert hs (x:=e.2) (k:=k) ω U lR (xh Ey);exact(ih (i+1,g.set e.1 (s.take k++[e.2]++s.drop k)) _ ⟨ω,by rw[y0w];exact B,qj,qi,(bO.trans d).An X (λj e=>ω)⟩ ω).qb
         ·refine Ty (i:=16) O O O (pbs (cs:=[_]) (zs:=[Value.int .u32 0]) SR Sy O y00 O O O ψ) ?_;rintro a1 a4⟨A,rfl,⟨Cn,C,gm⟩,N⟩;refine⟨d.trans C,?_⟩;have Co:M.heap.size<=A:=ω
          have d:=d.trans C
          try have E:=E.ext C
          try have S:=S.ext C
          have a0:=gm.lt;have r:=y0d r C.size;refine U6 (i:=10) y00 (Ty (i:=10) O O O (pap SR Sy O ψ O O E ((YT (i:=k) nW U).ext d) (λc u=>T s c (y1d u)) ω ω) ?_);rintro J a3⟨S,R,D,-⟩;refine⟨d.An R (λj e=>by have e:b6=j:=UC e;omega),?_⟩;have d:=d.An R (λj e=>by have e:b6=j:=UC e;omega)
          try have N:=N.kp R (λj o e=>by have e:b6=j:=UC e;have o:A=j:=UC o;omega)
          have D:∀j,J.ownBlock=some j->M.heap.size<=j:=λj o=>by rcases D j o with e|e;(have e:b6=j:=UC e;omega);omega
          have r:=y0d r R.size;have Cm:=λ(j:Nat) (o:J.ownBlock=some j)=>S.lt o;refine U6 (i:=17) y00 (Ty (i:=17) O O O (pap SR Sy O ψ O O S N.rd (λc u=>T [e.2] c u) ω ω) ?_);rintro b a5⟨jg,Y,F,-⟩;refine⟨d.An Y (λj e=>D j e),?_⟩;have d:=d.An Y (λj e=>D j e);have F:∀j,b.ownBlock=some j->M.heap.size<=j:=λj o=>by rcases F j o with e|e;exact D j e;omega
          have r:=y0d r Y.size;refine U6 (i:=21) y00 (Ty (i:=21) O O O (pap SR Sy O ψ O O jg ((XC (i:=k) nW U rk).ext d) (λc u=>T s c (y1T u)) ω ω) ?_);rintro p a6⟨G,kz,Z,-⟩;refine⟨d.An kz (λj e=>F j e),?_⟩;have d:=d.An kz (λj e=>F j e);have Z:∀j,p.ownBlock=some j->M.heap.size<=j:=λj o=>by rcases Z j o with e|e;exact F j e;omega
          refine SB 22 O (Tm Xw VR O O ω) d ?_;have kA:=d.S4 kT;refine Wg [23] (qO 23 (SY (i:=23) O O (TO VR O O (Wz G) kA (by rw[pM];omega)) ?_));rintro a7⟨cd,X⟩;refine⟨trivial,?_⟩;refine qE<|S2<|Uw O<|Tr O<|Sq O ?_;rw[show 0+k+1+(s.length-k)=(s.take k++[e.2]++s.drop k).length by rw[qh];omega,show([]++List.take k (s.map SV)++[SV e.2]++List.drop k (s.map SV))=(s.take k++[e.2]++s.drop k).map SV by simp[y1g,y1S]] at G;obtain⟨ra,rc,rfl,-⟩:=G.rd.shape
          have Cp:(s.take k++[e.2]++s.drop k).length<=rc:=by
           rcases G.shape with⟨P,Q⟩|⟨gg,cc,P,Q⟩
           ·omega
           ·cases P;exact Q
          have qi:=(dX.ext d).set X (f:=e.1) (l:=s.take k++[e.2]++s.drop k) (a:=ra) (c:=rc) (λa2 h'=>by rw[Sk.uniq h' kA];exact cd) ω Cp G.rd (λj o=>by have:=Z j o;omega);have qj:=t.insert hs (x:=e.2) (k:=k) ω U lR (xh Ey);exact(ih (i+1,g.set e.1 (s.take k++[e.2]++s.drop k)) _ ⟨ω,by rw[y0w];exact B,qj,qi,(bO.trans d).An X (λj e=>ω)⟩ ω).qb
        ·refine Ty (i:=16) O O O (pbs (cs:=[_]) (zs:=[Value.int .u32 0]) SR Sy O y00 O O O ψ) ?_;rintro a1 a4⟨A,rfl,⟨Cn,C,gm⟩,N⟩;refine⟨d.trans C,?_⟩;have Co:M.heap.size<=A:=ω
         have d:=d.trans C
         try have E:=E.ext C
         try have S:=S.ext C
         have a0:=gm.lt;have r:=y0d r C.size;refine U6 (i:=6) y00 (Ty (i:=6) O O O (pbs (cs:=[]) (zs:=[]) SR Sy O y00 O O O ψ) ?_);rintro v6 w6⟨b6,rfl,⟨oo,K,aW⟩,E⟩;refine⟨d.trans K,?_⟩;have IB:M.heap.size<=b6:=ω
         have a9:=aW.lt;have d:=d.trans K
         try have N:=N.ext K
         have r:=y0d r K.size;refine U6 (i:=10) y00 (Ty (i:=10) O O O (pap SR Sy O ψ O O E ((YT (i:=k) nW U).ext d) (λc u=>T s c (y1d u)) ω ω) ?_);rintro J a3⟨S,R,D,-⟩;refine⟨d.An R (λj e=>by have e:b6=j:=UC e;omega),?_⟩;have d:=d.An R (λj e=>by have e:b6=j:=UC e;omega)
         try have N:=N.kp R (λj o e=>by have e:b6=j:=UC e;have o:A=j:=UC o;omega)
         have D:∀j,J.ownBlock=some j->M.heap.size<=j:=λj o=>by rcases D j o with e|e;(have e:b6=j:=UC e;omega);omega
         have r:=y0d r R.size;have Cm:=λ(j:Nat) (o:J.ownBlock=some j)=>S.lt o;refine U6 (i:=17) y00 (Ty (i:=17) O O O (pap SR Sy O ψ O O S N.rd (λc u=>T [e.2] c u) ω ω) ?_);rintro b a5⟨jg,Y,F,-⟩;refine⟨d.An Y (λj e=>D j e),?_⟩;have d:=d.An Y (λj e=>D j e);have F:∀j,b.ownBlock=some j->M.heap.size<=j:=λj o=>by rcases F j o with e|e;exact D j e;omega
         have r:=y0d r Y.size;refine U6 (i:=21) y00 (Ty (i:=21) O O O (pap SR Sy O ψ O O jg ((XC (i:=k) nW U rk).ext d) (λc u=>T s c (y1T u)) ω ω) ?_);rintro p a6⟨G,kz,Z,-⟩;refine⟨d.An kz (λj e=>F j e),?_⟩;have d:=d.An kz (λj e=>F j e);have Z:∀j,p.ownBlock=some j->M.heap.size<=j:=λj o=>by rcases Z j o with e|e;exact F j e;omega
         refine SB 22 O (Tm Xw VR O O ω) d ?_;have kA:=d.S4 kT;refine Wg [23] (qO 23 (SY (i:=23) O O (TO VR O O (Wz G) kA (by rw[pM];omega)) ?_));rintro a7⟨cd,X⟩;refine⟨trivial,?_⟩;refine qE<|S2<|Uw O<|Tr O<|Sq O ?_;rw[show 0+k+1+(s.length-k)=(s.take k++[e.2]++s.drop k).length by rw[qh];omega,show([]++List.take k (s.map SV)++[SV e.2]++List.drop k (s.map SV))=(s.take k++[e.2]++s.drop k).map SV by simp[y1g,y1S]] at G;obtain⟨ra,rc,rfl,-⟩:=G.rd.shape
         have Cp:(s.take k++[e.2]++s.drop k).length<=rc:=by
          rcases G.shape with⟨P,Q⟩|⟨gg,cc,P,Q⟩
          ·omega
          ·cases P;exact Q
         have qi:=(dX.ext d).set X (f:=e.1) (l:=s.take k++[e.2]++s.drop k) (a:=ra) (c:=rc) (λa2 h'=>by rw[Sk.uniq h' kA];exact cd) ω Cp G.rd (λj o=>by have:=Z j o;omega);have qj:=t.insert hs (x:=e.2) (k:=k) ω U lR (xh Ey);exact(ih (i+1,g.set e.1 (s.take k++[e.2]++s.drop k)) _ ⟨ω,by rw[y0w];exact B,qj,qi,(bO.trans d).An X (λj e=>ω)⟩ ω).qb
       ·refine S6<|S2<|Uw O<|Tr O<|Sq O ?_;exact(ih (i+1,g) _ ⟨ω,B,t,dX,bO⟩ ω).qb
      case lZ=>
       refine Ux (λw'=>Ext w3 w') O<|St 0 O O m<|St 1 O O m<|S8 2 O (VQ SR O) m ?_;by_cases gO:k=s.length
       ·refine S8 3 O (yeq O O) m<|Xl<|St 4 O O m<|qJ 5 O m<|qJ 6 O m<|qJ 7 O m<|qJ 8 O m<|qJ 9 O m<|qJ 10 O m<|qJ 11 O m<|qJ 12 O m<|qJ 13 O m<|qJ 14 O m<|S8 15 O (YD O O) m ?_;refine qE ?_;exact(eg _ _ ⟨true,O,λ_ y H=>(by rw[gO,List.drop_length] at H;cases H),W.trans m⟩).qb
       ·obtain⟨y,H⟩:∃y,s[k]? =some y:=⟨_,y04 ω⟩;rcases xD.2 with⟨⟨ca,cc⟩,fQ,yX⟩|⟨lb,lo,cap,fQ,fd⟩
        ·omega
        cases fQ;have IC:w3.cell? ⟨lb,lo+k*1,none⟩=some (SV y):=fd (k*1) _ (by rw[y0j,y0l,H];rfl);refine S8 3 O (yeq O O) m (WW (St 4 O O (m) (St 5 O O (m) (St 6 O O (m) (S8 7 O (Tm SR Sy O O ω) m (St 9 O O (m) (St 10 O O (m) (S8 11 O (Tm U22 z8D O O ω) m (S8 12 O (SN z4n O) m (qT 8 O (λ_ h=>SQ U0 O O (Ts h IC)) m (qT 13 O (λ_ h=>SQ U0 O O (Ts h xE)) m ?_)))))))))));have Cq:=eD y H;by_cases KA:y=e.2
        ·refine S8 14 O (yne O O) m<|WW<|S8 15 O (Xg O O) m<|qE ?_;exact(eg _ _ ⟨false,O,λe=>(by cases e),W.trans m⟩).qb
        ·refine S8 14 O (yne O O) m<|Xl<|S8 15 O (Xg O O) m<|qE ?_;exact(eg _ _ ⟨true,O,λ_ z V=>(by have:=Px k y H z V;omega),W.trans m⟩).qb
     case ID=>
      refine UW (α:=Nat) (0) (λk=>[(0,I (n:Int)),(1,.slice (some ⟨eb,eo,none⟩) es.length ec),(5,.slice (some ⟨bg,0,none⟩) n n),(6,I (i:Int)),(7,.slice a s.length c),(8,I (k:Int))]) (λk w'=>k<=s.length/\(∀y∈s.take k,y<e.2)/\Ext w2 w') (λk=>s.length-k) ?hI ?hround
      case hI=>exact⟨y02 _,λy H=>(by simp at H),Ext.refl _⟩
      case hround=>
       rintro k w3⟨U,lR,W⟩ a8;have m:=Ext.Sv w3;have xD:=eY.ext W;have xE:=Ts W ff
       try dsimp only
       refine It<|It<|Ux (λw'=>Ext w3 w') O<|St 0 O O m<|St 1 O O m<|S8 2 O (VQ SR O) m ?_;by_cases kQ:k<s.length
       ·obtain⟨y,H⟩:∃y,s[k]? =some y:=⟨_,y04 kQ⟩;rcases xD.2 with⟨⟨ca,cc⟩,fQ,yX⟩|⟨lb,lo,cap,fQ,fd⟩
        ·omega
        cases fQ;have IC:w3.cell? ⟨lb,lo+k*1,none⟩=some (SV y):=fd (k*1) _ (by rw[y0j,y0l,H];rfl);refine S8 3 O (ylt O O) m (Xl (St 4 O O (m) (St 5 O O (m) (St 6 O O (m) (S8 7 O (Tm SR Sy O O ω) m (St 9 O O (m) (St 10 O O (m) (S8 11 O (Tm U22 z8D O O ω) m (S8 12 O (SN z4n O) m (qT 8 O (λ_ h=>SQ U0 O O (Ts h IC)) m (qT 13 O (λ_ h=>SQ U0 O O (Ts h xE)) m ?_)))))))))));by_cases Cq:y<e.2
        ·refine S8 14 O (ylt O O) m (Xl (S8 15 O (YD O O) m (qE (Sb O (S6 (S7 (Uw O (Tr O (Sq O (S2 ((a8 (k+1) _ ⟨ω,λz V=>?_,W.trans m⟩ ω).qb)))))))))));rw[Tj H] at V;rcases y0y.1 V with L|L
         ·exact lR z L
         ·rw[y0F.1 L];exact Cq
        ·refine S8 14 O (ylt O O) m<|WW<|S8 15 O (YD O O) m<|qE<|S9 O<|Sh O ?_;exact(fu _ _ ⟨k,O,U,lR,λz V=>(by rw[H] at V;cases V;omega),W.trans m⟩).qb
       ·refine S8 3 O (ylt O O) m<|WW<|St 4 O O m<|qJ 5 O m<|qJ 6 O m<|qJ 7 O m<|qJ 8 O m<|qJ 9 O m<|qJ 10 O m<|qJ 11 O m<|qJ 12 O m<|qJ 13 O m<|qJ 14 O m<|S8 15 O (Xg O O) m ?_;refine qE<|S9 O<|Sh O ?_;exact(fu _ _ ⟨k,O,U,lR,λz V=>(by rw[y0n ω] at V;cases V),W.trans m⟩).qb
    ·refine WZ O (T0 (Sz O (Sf O (qV (Tm U22 z8D O O ω) (Sn z4n O (qV (SQ U0 O O ff) (qV (T7 O U0 U3 ω) (Sf O (WZ O (Ue (Td O (S5 (Sb O ?_)))))))))))));refine Sh O<|Uw O<|Tr O<|Sq O ?_;exact(ih (i+1,g) _ ⟨ω,B,t,cu,ae⟩ ω).qb
   ·refine WZ O<|Ue<|Sf O<|Ua<|Ua<|Ua<|Ua<|Uj O<|S5<|Sb O<|Sh O<|Uw O<|Tr O<|Sq O ?_;exact(ih (i+1,g) _ ⟨ω,B,t,cu,ae⟩ ω).qb
  ·refine Sh O<|SE O<|Sq O<|S3 func8 O ?_;exact⟨_,O,g,bg,by rw[B];rfl,B,t,cu,ae⟩
def Ym (g:List (List Nat))(v i u:Nat):List Nat:=(List.range v).filter (λx=>decide (u∈Si g x))++(if u∈(Si g v).take i then [v] else [])
def VX (g:List (List Nat))(v i:Nat):List (List Nat):=(List.range g.length).map (Ym g v i)
def Tb (g:List (List Nat)):List (List Nat):=VX g g.length 0
def z5g (g:List (List Nat))(v u:Nat):Ym g v (Si g v).length u=Ym g (v+1) 0 u:=by
 unfold Ym
 rw[y0K,y0T,List.filter_append]
 by_cases h:u∈Si g v<;>simp[h]
theorem VZ (g:List (List Nat))(v i:Nat):(VX g v i).length=g.length:=by simp[VX]
theorem Y7 (g:List (List Nat))(v i:Nat){u:Nat}(c:u<g.length):(VX g v i)[u]? =some (Ym g v i u):=by
 unfold VX
 rw[y0l,y1z c];rfl
def z6q (g:List (List Nat))(v i u:Nat):(Ym g v i u).length<=v+1:=by
 unfold Ym
 have c:=y3q (λx=>decide (u∈Si g x)) (List.range v)
 rw[y16] at c
 rw[y01]
 split<;>simp<;>omega
theorem z5X (j:Um g){v u:Nat}(c:(Si g v)[i]? =some u):(VX g v i).set u (Ym g v i u++[v])=VX g v (i+1):=by
 have o:=Vx j v u (y0i c)
 have q:u∉(Si g v).take i:=λh=>by
  have m:v<g.length:=by
   rcases y0a v g.length with h| h
   ·exact h
   ·unfold Si at c;rw[y0n h] at c;cases c
  have hr:List.Pairwise (·<·) (Si g v):=by
   unfold Si;rw[y04 m];exact(j.ok _ (y1s m)).ris
  have r:=Tj c;have n:List.Pairwise (·<·) ((Si g v).take (i+1)):=hr.sublist (y37 _ _);rw[r,y3c] at n;have:=n.2.2 u h u y0s;omega
 apply y1f
 intro x
 by_cases d:u=x
 ·subst d;rw[y0X (by rw[VZ];exact o),Y7 _ _ _ o]
  congr 1
  unfold Ym;rw[if_neg q,y0q,Tj c,if_pos ξ]
 ·rw[y0M d];by_cases l:x<g.length
  ·rw[Y7 _ _ _ l,Y7 _ _ _ l]
   congr 1
   unfold Ym
   congr 1
   rw[Tj c]
   have:x∈(Si g v).take i++[u]↔x∈(Si g v).take i:=by
    rw[y0y,y0F];exact⟨λe=>e.resolve_right λe=>d e.symm,.inl⟩
   simp only[this]
  ·rw[y0n (by rw[VZ];omega),y0n (by rw[VZ];omega)]
theorem z2M (g:List (List Nat)){u:Nat}(c:u<g.length):(Tb g)[u]? =some ((List.range g.length).filter λx=>decide (u∈Si g x)):=by
 unfold Tb
 rw[Y7 _ _ _ c]
 unfold Ym
 rw[y2S,if_neg ξ,y0q]
theorem TQ (g:List (List Nat)):(Tb g).length=g.length:=VZ _ _ _
def z2n (h:Um g):Um (Tb g):=by
 have o:=TQ g
 have j:∀l∈Tb g,∃u,l=(List.range g.length).filter λx=>decide (u∈Si g x):=λl c=>by
  obtain⟨u,d⟩:=y2q c
  have m:u<g.length:=by
   rcases y0a u g.length with h| h
   ·exact h
   ·rw[y0n ω] at d;cases d
  rw[z2M g m] at d;exact⟨u,(UC d).symm⟩
 have q:=h.n
 refine⟨λl c=>?_,λl c y e=>?_,ω⟩
 ·obtain⟨u,rfl⟩:=j l c;exact⟨(List.pairwise_lt_range).sublist y1U,λy e=>by have:=y0R.1 (y1r.1 e).1;omega⟩
 ·obtain⟨u,rfl⟩:=j l c;have:=y0R.1 (y1r.1 e).1;omega
structure RwA (w:World)(bg B:Nat)(L:List (List Nat)):Prop where
 ex:∃vs:List Value,Sk w bg vs 40/\vs.length=L.length/\(∀(i:Nat)(l:List Nat),L[i]? =some l->∃v:Value,vs[i]? =some v/\Sl w v 42 1 l.length (l.map SV)/\∀b,v.ownBlock=some b->B<=b/\b≠bg)/\∀(i j:Nat)(vi vj:Value) (b:Nat),i≠j->vs[i]? =some vi->vs[j]? =some vj->vi.ownBlock=some b->vj.ownBlock≠some b
section
variable {L:List (List Nat)}
theorem RwA.new {n:Nat}(h:Sk w bg (List.replicate n (.slice none 0 0)) 40):RwA w bg B (List.replicate n []):=by
 refine⟨_,h,ξ,λi l d=>?_,λi j e m b _ hi _ c=>?_⟩
 ·rw[y0Z] at d;split at d
  ·rename_i hi
   cases d;exact⟨.slice none 0 0,by rw[y0Z,if_pos hi],Sl.nil w _ 1,λb c=>by cases c⟩
  ·cases d
 ·have:=y0i hi;rw[y3l this] at c;cases c
theorem RwA.rw (h:RwA w bg B L):RwM w bg B L:=by
 obtain⟨vs,o,q,r,x⟩:=h.ex
 refine⟨vs,o,q,λi l u=>?_⟩
 obtain⟨v,m,d,n⟩:=r i l u
 obtain⟨a,c,rfl,-⟩:=d.rd.shape
 refine⟨a,c,m,?_,d.rd,n⟩
 rcases d.shape with⟨e,j⟩|⟨gg,cc,e,j⟩
 ·omega
 ·cases e;exact j
theorem RwA.put {w2:World}(h:RwA w bg B L){u:Nat}{l l':List Nat}{v r:Value}{vs:List Value}(s:Sk w bg vs 40)(I:L[u]? =some l)(D:vs[u]? =some v)(p:Kp (λb=>v.ownBlock=some b) w w')(k:Sl w' r 42 1 l'.length (l'.map SV))(H:∀b,r.ownBlock=some b->v.ownBlock=some b\/w.heap.size<=b)(R:Kp (λb=>b=bg) w' w2)(hB:Sk w2 bg (vs.set (0+u*1) r) 40)(P:B<=w.heap.size):RwA w2 bg B (L.set u l'):=by
 obtain⟨x,W,o,G,A⟩:=h.ex
 have a:=W.uniq s
 subst a
 rw[y0g,y0j] at hB
 obtain⟨Q,V,E,g⟩:=G u l I
 rw[D] at V
 cases V
 have K:=W.lt
 have F:u<L.length:=by
  rcases y0a u L.length with h| h
  ·exact h
  ·rw[y0n h] at I;cases I
 have N:∀b,r.ownBlock=some b->B<=b/\b≠bg:=λb c=>by
  rcases H b c with e| e
  ·exact g b e
  ·omega
 have O:∀(j:Nat)(m:Value) (b:Nat),x[j]? =some m->m.ownBlock=some b->b<w.heap.size:=λj m b d c=>by
  obtain⟨M,Z⟩:∃M,L[j]? =some M:=⟨_,y04 (by
   rw[<-o];rcases y0a j x.length with h| h
   ·exact h
   ·rw[y0n h] at d;cases d)⟩
  obtain⟨t,q,J,-⟩:=G j M Z;rw[d] at q;cases q;exact J.lt c
 refine⟨_,hB,by simp[o],λi li C=>?_,λi j n m b z hi d c=>?_⟩
 ·by_cases e:u=i
  ·subst e;rw[y0X F] at C;cases C;exact⟨r,y0X (by rw[o];exact F),k.kp R (λb c e=>(N b c).2 e),N⟩
  ·rw[y0M e] at C;obtain⟨n,q,J,Y⟩:=G i li C;exact⟨n,by rw[y0M e];exact q,(J.kp p (λb c f=>A u i v n b e D q f c)).kp R (λb c e=>(Y b c).2 e),Y⟩
 ·by_cases S:u=i
  ·subst S;rw[y0X (by rw[o];exact F)] at hi;cases hi;rw[y0M z] at d;intro y;rcases H b c with e| e
   ·exact A u j v m b z D d e y
   ·have:=O j m b d y;omega
  ·rw[y0M S] at hi;by_cases U:u=j
   ·subst U;rw[y0X (by rw[o];exact F)] at d;cases d;intro y;rcases H b y with e| e
    ·exact A i u n v b z hi D c e
    ·have:=O i n b hi c;omega
   ·rw[y0M U] at d;exact A i j n m b z hi d c
end
theorem z4L (r:Um g){go:Nat}(hg:GrR w gb go g):SG prog 22 [.slice (some ⟨gb,go,none⟩) g.length gc] w λv w'=>∃j,v= .slice (some ⟨j,0,none⟩) g.length g.length/\RwM w' j w.heap.size (Tb g)/\Ext w w':=by
 have fI:maxLen=9223372036854775807:=rfl
 have hn:=r.n
 refine py (e:=[(0,_)]) func22 O ntmps22 O O<|qN O<|TR O<|UR Xw O<|Sd O O (pmk (c:=g.length) (n:=g.length) Xw VR O O O ω ω ω) ?_
 rintro _ w1⟨j,rfl,⟨nL,B,E⟩,-⟩
 have Q:RwA w1 j w.heap.size (VX g 0 0):=by
  have e:VX g 0 0=List.replicate g.length []:=by
   apply y25<;>simp[VX,Ym]
  rw[e];exact RwA.new E
 refine Sq O<|It<|TU O<|S7<|UW (α:=Nat) (0) (λv=>[(0,.slice (some ⟨gb,go,none⟩) g.length gc),(3,.slice (some ⟨j,0,none⟩) g.length g.length),(4,I (v:Int))]) (λv w'=>v<=g.length/\RwA w' j w.heap.size (VX g v 0)/\Ext w w') (λv=>g.length-v) ?hI ?hround
 case hI=>exact⟨y02 _,Q,B⟩
 case hround =>
  rintro v w2⟨hv,Y,W⟩ ih
  try dsimp only
  refine It<|TV O<|UR Xw O<|TW O<|S5<|So O (λhq=>?_)<|λhq=>?_
  ·have G:v<g.length:=ω
   have Z:g[v]? =some (Si g v):=by unfold Si;rw[y04 G];rfl
   have ic:(Si g v).length<=g.length:=r.len (y0i Z);refine S6<|TZ<|TU O<|S7<|UW (α:=Nat) (0) (λi=>[(0,.slice (some ⟨gb,go,none⟩) g.length gc),(3,.slice (some ⟨j,0,none⟩) g.length g.length),(4,I (v:Int)),(5,I (i:Int))]) (λi w'=>i<=(Si g v).length/\RwA w' j w.heap.size (VX g v i)/\Ext w w') (λi=>(Si g v).length-i) ?hI ?hround
   case hI=>exact⟨y02 _,Y,W⟩
   case hround=>
    rintro i q⟨hi,F,l⟩ M;obtain⟨a,c,C,T⟩:=hg v _ Z;have d:=Ext.Sv q
    try dsimp only
    refine It<|TV O<|Sf O<|qV (Tm Xw VR O O ω)<|qV (SQ SR O O (Ts l C))<|UR SR O<|TW O<|S5<|So O (λia=>?_)<|λia=>?_
    ·obtain⟨u,J⟩:∃u,(Si g v)[i]? =some u:=⟨_,y04 ω⟩;obtain⟨lb,lo,rfl,p⟩:=T i u J;have kU:u<g.length:=Vx r v u (y0i J);have R:=Y7 g v i kU;have jQ:=z6q g v i u;obtain⟨vs,N,pM,j6,xF⟩:=id F.ex;obtain⟨o,S,uU,x⟩:=j6 u _ R
     have s:∀{w':World},Kp (λb=>o.ownBlock=some b) q w'->w'.cell? ⟨j,0+u*1,none⟩=some o:=λH=>by
      rw[(H.S4 N (λe=>(x _ e).2 O)).cell,y0g,y0j];exact S
     have z3:=l.size;refine S6<|TZ ?_;have y:∀{w':World},Kp (λb=>o.ownBlock=some b) q w'->Ext w w':=λH=>l.An H (λb e=>(x b e).1);refine Sx [23] (λw'=>Kp (λb=>o.ownBlock=some b) q w') y00 O (Te 0 O O d.kp (Te 1 O O d.kp (Te 2 O O d.kp (SB 3 O (Tm Xw VR O O ω) d.kp (Te 5 O O d.kp (Te 8 O O d.kp (Te 9 O O d.kp (Te 10 O O d.kp (SB 11 O (Tm Xw VR O O ω) d.kp (Te 13 O O d.kp (Te 18 O O d.kp (SB 19 O (z4r O U3 U0) d.kp (qL 4 O (λ_ h=>SQ SR O O (Ts (y h) C)) d.kp ?_)))))))))))));refine qL 12 O (λ_ h=>SQ SR O O (Ts (y h) C)) d.kp (SB 6 O (Tm SR Sy O O ω) d.kp (SB 14 O (Tm SR Sy O O ω) d.kp (qL 7 O (λ_ h=>SQ U0 O O (Ts (y h) p)) d.kp (qL 15 O (λ_ h=>SQ U0 O O (Ts (y h) p)) d.kp (SB 16 O (Tm Xw VR O O ω) d.kp (qL 17 O (λ_ h=>SQ SR O O (s h)) d.kp ?_))))));rw[y0e (show v<4294967296 by omega)];refine U6 (i:=20) y00 (Ty (i:=20) O O O (pbs (cs:=[_]) (zs:=[Value.int .u32 0]) SR Sy O y00 O O O ψ) ?_);rintro v4 w4⟨b4,rfl,⟨fO,U,aG⟩,P⟩;refine⟨d.kp.trans U.kp,?_⟩;have m:=d.trans U;refine U6 (i:=21) y00 (Ty (i:=21) O O O (pap SR Sy O ψ O O (uU.ext m) P.rd (λc hc=>by obtain⟨z,-,rfl⟩:=y0k.1 (show c∈[v].map SV from hc);rfl) ω ω) ?_);rintro v5 w5⟨f,A,pn,-⟩;refine⟨m.kp.trans A,?_⟩;have D:Kp (λb=>o.ownBlock=some b) q w5:=m.kp.trans A;have a0:=m.size;have xG:=D.S4 N (λe=>(x _ e).2 O);refine SB 22 O (Tm Xw VR O O ω) (m.kp.trans A) (Wg [23] (qO 23 (SY (i:=23) O O (TO VR O O (Wz f) xG (by rw[pM,VZ];omega)) ?_)));rintro w6⟨t,V⟩;refine⟨trivial,?_⟩;have k:=F.put (l':=Ym g v i u++[v]) N R S D (by rw[y01,y0f];exact f) (λb X=>(pn b X).imp id λe=>ω) V t z3;rw[z5X r J] at k;refine qE<|S2<|Uw O<|Tr O<|Sq O ?_;exact(M (i+1) _ ⟨ω,k,(l.An D (λb e=>(x b e).1)).An V (λb e=>ω)⟩ ω).qb
    ·have K:i=(Si g v).length:=ω
     subst K;refine Sh O<|S2<|Uw O<|Tr O<|Sq O ?_
     have e:VX g v (Si g v).length=VX g (v+1) 0:=by
      unfold VX;exact y0O λu _=>z5g g v u
     exact(ih (v+1) _ ⟨ω,by rw[<-e];exact F,l⟩ ω).qb
  ·have G:v=g.length:=ω
   subst G;refine Sh O<|SE O<|Sq O<|S3 func22 O ?_;exact⟨_,O,j,O,Y.rw,W⟩
def z7s (z:Int)(c:JIq z)(w:World):SG prog 9 [I z] w λv w'=>∃n:Nat,v=I (n:Int)/\1<=n/\n<=40/\w'=w:=by
 have d:=ZL z 40 ψ
 have h:=z35 z 40 ψ
 refine py (e:=[(0,_)]) func9 O ntmps9 O O<|qN O<|TR O<|qV (yrt O O ψ)<|Tr O<|qV (yrt O O ψ) ?_
 rw[show(z.tmod 40+40).tmod 40=nrm z 40 from rfl]
 refine Tr O<|Sq O<|S3 func9 O ?_
 exact⟨_,O,(1+nrm z 40).toNat,by rw[Int.toNat_of_nonneg ω];rfl,ω,ω,rfl⟩
def zcf:TX:=⟨7,3,3,3,64⟩
def zcg:TX:=⟨0,0,2,1,64⟩
def zbJ:TX:=⟨2,1,4,2,3⟩
theorem z8q (z:Int)(A:JIq z)(w:World):SG prog 34 [I z] w λv w'=>∃p:TX,v=bpV p/\p.U8/\p.zeta<=3/\Ext w w':=by
 have D:=ZL z 3 ψ
 have F:=z35 z 3 ψ
 refine py (e:=[(0,_)]) func34 O ntmps34 O O<|qN O<|Sd O O (UK (cs:=[_,_,_,_,_]) Vf O) ?_
 rintro _ w1⟨b2,rfl,x,l,q⟩
 refine qM O<|qV (VI (cs:=[_,_,_,_,_]) Vf O zh1 O O)<|qV (VI (cs:=[_,_,_,_,_]) Vf O zh1 O O)<|qV (VI (cs:=[_,_,_,_,_]) Vf O zh1 O O)<|Sd O O (pbs (cs:=[_,_,_,_,_,_,_,_,_,_,_,_,_,_,_]) (zs:=[Value.int .i64 0,Value.int .i64 0,Value.int .i64 0,Value.int .i64 0,Value.int .i64 0,Value.int .i64 0,Value.int .i64 0,Value.int .i64 0,Value.int .i64 0,Value.int .i64 0,Value.int .i64 0,Value.int .i64 0,Value.int .i64 0,Value.int .i64 0,Value.int .i64 0]) zgM Vf O y00 O O O ψ) ?_
 rintro _ w2⟨b3,rfl,⟨y,h,m⟩,-⟩
 refine Sf O<|qV (yrt O O ψ)<|Tr O<|qV (yrt O O ψ) ?_
 rw[show(z.tmod 3+3).tmod 3=nrm z 3 from rfl]
 have o:=h.S4 q
 have u:nrm z 3=((0:Nat):Int)\/nrm z 3=((1:Nat):Int)\/nrm z 3=((2:Nat):Int):=ω
 have C:=q.lt
 rcases u with e|e| e
 ·rw[e];refine qV (Tm zgM Vf O O ω) (qV (SO (news:=Z9 zcf) U93 O Vf O (Sk.cells (i:=0+0*5) (n:=5) m O) O) (Sm O (Ta (news:=Z9 zcf) Vf O O O O o ξ) ?_));rintro r⟨d,c⟩;refine S5<|SF func34 (.cell U93 O Vf O (Sk.cells (n:=5) d (news:=[_,_,_,_,_]) O) O .nil) ?_;exact⟨_,O,zcf,O,by unfold TX.U8 Vz.U8 zcf TX.list;decide,ψ,(l.trans h).An c (λj e=>ω)⟩
 ·rw[e];refine qV (Tm zgM Vf O O ω) (qV (SO (news:=Z9 zcg) U93 O Vf O (Sk.cells (i:=0+1*5) (n:=5) m O) O) (Sm O (Ta (news:=Z9 zcg) Vf O O O O o ξ) ?_));rintro r⟨d,c⟩;refine S5<|SF func34 (.cell U93 O Vf O (Sk.cells (n:=5) d (news:=[_,_,_,_,_]) O) O .nil) ?_;exact⟨_,O,zcg,O,by unfold TX.U8 Vz.U8 zcg TX.list;decide,ψ,(l.trans h).An c (λj e=>ω)⟩
 ·rw[e];refine qV (Tm zgM Vf O O ω) (qV (SO (news:=Z9 zbJ) U93 O Vf O (Sk.cells (i:=0+2*5) (n:=5) m O) O) (Sm O (Ta (news:=Z9 zbJ) Vf O O O O o ξ) ?_));rintro r⟨d,c⟩;refine S5<|SF func34 (.cell U93 O Vf O (Sk.cells (n:=5) d (news:=[_,_,_,_,_]) O) O .nil) ?_;exact⟨_,O,zbJ,O,by unfold TX.U8 Vz.U8 zbJ TX.list;decide,ψ,(l.trans h).An c (λj e=>ω)⟩
theorem z3D (h:Sp Q txt K X w):SG prog 29 [ptr Q.s 0] w λv w'=>∃a b c d e:Value,v= .agg #[a,b,c,d,e,I 0,I 0]/\Ext w w':=by
 obtain⟨P,A,Z,N,f⟩:=h
 rw[<-N.s]
 have hB:=A.cells
 refine py (e:=[(0,_)]) func29 O ntmps29 O O<|qN O<|Sd O O (UK (cs:=[_,_,_,_,_,_,_]) z5H O) ?_
 rintro _ w1⟨b2,rfl,W,o,y⟩
 have V:=o.S4 hB
 refine S5<|SX O<|qV (T9 Zh O O)<|Tt O<|SE O<|SC O<|Sn ZN O<|qV (SO (news:=[I (P.fr:Int),I P.h,I P.mi,I P.wr,I 0,I 0,I 0]) U76 O z5H O (Sk.cells (i:=4) (n:=7) V O) O)<|Sd O O (UK (cs:=[_,_,_,_,_,_,_]) z5H O) ?_
 rintro _ w2⟨b3,rfl,Y,x,G⟩
 refine Sm O (Ta (news:=[I (P.fr:Int),I P.h,I P.mi,I P.wr,I 0,I 0,I 0]) z5H O O O O G ξ) ?_
 rintro C⟨q,H⟩
 replace q:Sk C b3 [I (P.fr:Int),I P.h,I P.mi,I P.wr,I 0,I 0,I 0] 76:=q
 have u:Ext w1 C:=x.An H (λj e=>ω)
 have r:=o.trans u
 have R:=r.S4 hB
 have S:=A.mp.ext r
 have J:=u.S4 y
 have p:=o.size
 have t:=x.size
 have g:=y.lt
 refine qM O<|Sf O<|SC O<|Sn YS O<|qV (Sc z0w O O R O)<|qV (zkP z0w O S.l)<|Sn zjn O<|Sm O (TO T8 O O O q ξ) ?_
 rintro U⟨m,z⟩
 have M:=z.S4 J ω
 replace m:Sk U b3 [I (P.fr:Int),I P.h,I P.mi,I P.wr,I ((XK P.l).length:Int),I 0,I 0] 76:=m
 refine qM O<|qV (SO (news:=[I (P.fr:Int),I P.h,I P.mi,I P.wr,I ((XK P.l).length:Int),I 0,I 0]) U76 O z5H O (Sk.cells (i:=0) (n:=7) m O) O)<|Sm O (Ta (news:=[I (P.fr:Int),I P.h,I P.mi,I P.wr,I ((XK P.l).length:Int),I 0,I 0]) z5H O O O O M ξ) ?_
 rintro k⟨D,F⟩
 refine S5<|SF func29 (.cell U76 O z5H O (Sk.cells (n:=7) D (news:=[_,_,_,_,_,_,_]) O) O .nil) ?_
 exact⟨_,O,_,_,_,_,_,O,(r.An z (λj e=>ω)).An F (λj e=>ω)⟩
theorem VA {s n:Nat}{b:Bool}(h:s+n<=L.length)(i:Nat):(Th L s n b)[i]? =if s<=i/\i<s+n then some b else L[i]? :=by
 unfold Th
 have d:(L.take s).length=s:=by rw[y0c];omega
 by_cases c:i<s
 ·rw[if_neg ω,y0I ω,y2R c]
 ·rw[y10 ω,d];by_cases e:i<s+n
  ·rw[if_pos ω,y0I (by rw[y0b];omega),y0Z,if_pos ω]
  ·rw[if_neg ω,y10 (by rw[y0b];omega),y0b,y1J]
   congr 1
   omega
theorem z4G {n:Nat}(h:Pre L a)(c:a+n<=L.length):Pre (Th L a n true) (a+n):=by
 have j:=h.a2
 refine⟨ω,by rw[TE c];exact c,λi e d=>?_,λi e d=>?_⟩
 ·rw[VA c];split
  ·rfl
  ·exact h.tk i e ω
 ·rw[TE c] at d;rw[VA c,if_neg ω];exact h.fr i ω d
theorem zem {n:Nat}(h:Pre L a)(c:a+n<=L.length):Th (Th L a n true) a n false=L:=by
 have d:=TE (b:=true) c
 have e:=TE (b:=false) (L:=Th L a n true) (s:=a) (n:=n) ω
 apply y1f
 intro i
 rw[VA ω,VA c]
 by_cases hi:a<=i/\i<a+n
 ·rw[if_pos hi];exact(h.fr i hi.1 ω).symm
 ·rw[if_neg hi,if_neg hi]
theorem z8j (hP:Sp Q txt K X w)(V:∀b,X b->b<w.heap.size)(hK:K<=90000000000)(x1:X 1)(x2:X 2)(hG:Sk w 1 (W5 .gamma) 314)(hU:Sk w 2 (W5 .unary) 314)(aq:Um g)(aQ:1<=g.length)(nX:g.length<=40)(ru:GrM w (.slice ga g.length gc) g)(hp:p.U8)(hz:p.zeta<=3)(ha:Pre Q.L a)(dK:a+72<=Q.L.length):
  SG prog 33 [ptr Q.s 0,.slice ga g.length gc,bpV p] w λv w'=>∃(G:GwP)(txt':Int->Sa),v= .tuple #[ptr G.k 0,.bool true]/\G.g=g/\G.st=a/\G.len<=72/\1<=G.len/\(w.heap.size<=G.k/\w.heap.size<=G.x/\w.heap.size<=G.rb)/\Wn G (Q.Tl (Th Q.L a G.len true)) txt' (K+200) (λj=>X j\/j=G.x\/j=G.k) w'/\(∀y:Int,y<(a:Int)\/(a:Int)+(G.len:Int)<=y->txt' y=txt y)/\Kp (λb=>¬X b) w w':=by
 have eE:=hP.n
 refine py (e:=[(0,_),(1,_),(2,_)]) func33 O ntmps33 O O<|qN O<|Sd O O (UD O (cs:=Z9 p) O) ?_
 rintro _ w1⟨bp,rfl,PA,F,uk⟩
 refine Vj O<|TR O<|qV (SO (news:=Z9 p) U93 O Vf O (Sk.cells (i:=0) (n:=5) uk O) O)<|Sr zov O (zaN hp aq aQ (ru.ext F) (F.S4 hG) (F.S4 hU)) ?_
 rintro _ w2⟨E,PB,rfl,ae⟩
 have t:WB p g E:=⟨hp,aq,aQ,PB⟩
 have Ct:=zeO t nX hz
 obtain⟨T,hT⟩:∃T,pkT p g E=T:=⟨_,O⟩
 rw[hT] at Ct⊢
 have r:=F.trans ae
 have eM:=hP.ext' r
 refine Sf O<|Vk O<|To O<|SX O<|TK O<|Tt O<|SE O<|Sr z82 O eM.size ?_
 rintro _ w2⟨rfl,rfl⟩
 refine Sf O<|qV (Ys U9 O)<|Sr zot O (z7x T.length ω _) ?_
 rintro _ w2⟨rfl,rfl⟩
 obtain⟨N,hN⟩:∃N,(T.length+523) / 512=N:=⟨_,O⟩
 rw[hN]
 have l:1<=N/\N<=72/\T.length<=N*512-12:=ω
 refine Sf O<|Vk O<|To O<|SI.qb (e:=[(0,_),(6,_),(7,_),(8,_),(9,_),(10,_)]) ?_
 refine SX O<|TK O ?_
 have fx:∀b,X b->b<w2.heap.size:=λb o=>by have:=V b o;have:=r.size;omega
 refine Tt O<|TV O<|Sr zmp O (eM.take fx ha l.1 ω) ?_
 rintro _ w3⟨rfl,gQ,ar⟩
 have gD:(Th Q.L a N true).length=Q.L.length:=TE ω
 obtain⟨m,C⟩:∃m,Q.Tl (Th Q.L a N true)=m:=⟨_,O⟩
 rw[C] at gQ
 have Ad:m.s=Q.s:=by rw[<-C];rfl
 have RJ:m.L.length=Q.L.length:=by rw[<-C];exact gD
 rw[<-Ad]
 have z3:=ar.size
 have gx:∀b,X b->b<w3.heap.size:=λb o=>by have:=fx b o;omega
 refine Sf O<|Vk O<|Sd O O (UK (cs:=[_,_]) UF O) ?_
 rintro _ w4⟨u,rfl,En,aA,dU⟩
 refine Sm O (Ta (news:=[I (a:Int),I (N:Int)]) UF O O O O dU ξ) ?_
 rintro Z⟨z,ai⟩
 replace z:Sk Z u [I (a:Int),I (N:Int)] 124:=z
 have M:Ext w3 Z:=aA.An ai (λj e=>ω)
 refine Sq O<|SX O<|TK O ?_
 have iE:Sp m txt K (λb=>X b\/b=u) Z:=gQ.ext M (λb e=>e.imp id λe=>ω)
 refine Tt O<|SE O<|qV (SO (news:=[I (a:Int),I (N:Int)]) Z1 O UF O (Sk.cells (i:=0) (n:=2) z O) O)<|Sr zp4 O (z7o iE l.1 ω) ?_
 rintro _ J⟨wb,bs,bx,bw,sum,rfl,iK,q,⟨a4,a5,a6,a7⟩,D⟩
 have z5:=M.size
 have z6:=D.size
 have a1:=z.lt
 obtain⟨d,A⟩:∃d:Nat->Prop,(λb=>X b\/b=u\/b=wb\/b=bs\/b=bx\/b=bw)=d:=⟨_,O⟩
 have S:∀b,X b->d b:=λb o=>by rw[<-A];exact .inl o
 have aO:d wb/\d bs/\d bx/\d bw:=by rw[<-A];exact⟨.inr (.inr (.inl O)),.inr (.inr (.inr (.inl O))),.inr (.inr (.inr (.inr (.inl O)))),.inr (.inr (.inr (.inr (.inr O))))⟩
 have IG:d u:=by rw[<-A];exact .inr (.inl O)
 have qd:Sp m txt K d J:=iE.ext D (λb e=>by
  rw[<-A] at e;rcases e with e|e| e
  ·exact .inl (.inl e)
  ·exact .inl (.inr e)
  ·exact .inr ω)
 have l1:=q.wr.lt
 have l2:=q.sb.lt
 have l3:=q.xb.lt
 have l4:=q.pb.lt
 have H:∀b,d b->b<J.heap.size:=λb e=>by
  rw[<-A] at e;rcases e with e| e
  ·have:=gx b e;omega
  ·omega
 have IH:u≠wb:=ω
 refine Sf O<|Vk O<|To O<|SX O<|TK O<|Sz O<|Sf O<|Sr zoh O (z8I qd H ω q iK aO ω l.1 l.2.2) ?_
 rintro _ w7⟨rfl,h,uV,a0,rest,Ce,jc,fS,II,IJ,ay,vA⟩
 have z7:=ay.size
 refine TK O<|Td O<|Sz O<|Sr zpo O (z8C Ce (λb e=>by have:=H b e;omega) ω jc uV aO ω hN.symm (by rw[show T.length%512=T.length-512*(T.length / 512) by omega];exact fS) (λb o e=>by have:=H b e;have:=vA b o;omega) II) ?_
 rintro _ w8⟨rfl,c,rv,IK,IL,IM,B⟩
 have z8:=B.size
 have rQ:Kp (λb=>¬d b\/b=wb) J w8:=ay.trans B
 have xH:=rQ.S4 (D.S4 z) (λe=>e.elim (λe=>e IG) IH)
 refine TK O<|Td O<|S5<|SI.qb (e:=[(0,_),(6,_),(7,_),(9,_),(11,_),(59,_)]) ?_
 refine VP O<|SE O<|qV (SO (news:=[I (a:Int),I (N:Int)]) Z1 O UF O (Sk.cells (i:=0) (n:=2) xH O) O)<|Sr zoM O (zaq rv (λb e=>by have:=H b e;omega) ω l.1 ω l.2.2 uV IL) ?_
 rintro _ w9⟨rb,rfl,f,KX,zk,P⟩
 have z9:=P.size
 have a2:=f.lt
 have hL:Laid c a T:=Laid.of λk hk=>⟨zk.z3f ω ω,IK k hk⟩
 subst hT
 have U:StO m c (K+(pkT p g E).length / 512+2) a N (pkT p g E):=⟨ω,ω,hL,ω⟩
 have vE:Kp (λb=>¬X b) w J:=(r.kp.trans ar).trans (M.trans D).kp
 have jM:Kp (λb=>¬X b) w w8:=vE.An rQ λb e=>by
  rcases e with e| e
  ·exact .inr λR=>e (S b R)
  ·exact .inl (by have:=r.size;omega)
 have Y:Kp (λb=>¬X b) w w9:=jM.trans (P.Se λb e R=>e (S b R))
 have z2:=r.size
 have xv:¬X rb:=λe=>by have:=V rb e;omega
 have hI:(zbk U rb h).inv X w9:=⟨zk.less (λb e=>e.imp (S b) id),f,xv⟩
 refine Sf O<|Vk O<|To O<|SX O<|TK O<|Tt O<|SE O<|Sr zpe O (zaU t U hI (λb e=>by have:=V b e;omega) x1 x2 (Y.S4 hG (λe=>e x1)) (Y.S4 hU (λe=>e x2))) ?_
 rintro _ a3⟨k,x,rfl,HZ,dP,PC,aD⟩
 refine Sf O<|Vk O<|Vj O<|Up O<|Sz O<|U7 O<|Ue<|Sz O<|qV (z8Y U28 O O)<|Uj O<|To O<|SI.qb (e:=[(6,_),(7,_)]) ?_
 refine S3 func33 O (⟨_,O,⟨p,g,E,a,N,rb,h,k,x⟩,c,O,O,O,l.2.1,l.1,⟨by show w.heap.size<=k;omega,by show w.heap.size<=x;omega,by show w.heap.size<=rb;omega⟩,?_,λy W=>?_,Y.trans aD⟩)
 ·rw[C];exact Wn.more (G:=⟨p,g,E,a,N,rb,h,k,x⟩) ⟨U,PC⟩ ω ω
 ·show c y=txt y;have W:y<(a:Int)\/(a:Int)+(N:Int)<=y:=W;rw[IM y W,IJ y ω]
structure Wd where
 d:Nat
 Q:UB
 txt:Int->Sa
 K:Nat
 G:GwP
 T:GwP
 a:Nat
def Wd.v (W:Wd):List Value:=[ptr W.d 0,ptr W.Q.s 0,ptr W.G.k 0,ptr W.T.k 0,I ((200-W.a:Nat):Int)]
structure WdM (W:Wd)(g:List (List Nat))(XX:Nat->Prop)(w:World):Prop where
 hg:Wn W.G W.Q W.txt W.K (λb=>XX b/\b≠W.G.rb) w
 ht:Wn W.T W.Q W.txt W.K (λb=>XX b/\b≠W.T.rb) w
 gg:W.G.g=g
 tg:W.T.g=Tb g
 pre:Pre W.Q.L W.a
 a:W.a<=146
 L:W.Q.L.length=200
 K:W.K<=400
 gs:W.G.st+W.G.len<=W.T.st
 ts:W.T.st+W.T.len<=W.a
 rb:XX W.G.rb/\XX W.T.rb/\W.G.rb≠W.T.rb/\W.T.rb≠W.G.k/\W.T.rb≠W.G.x/\W.G.rb≠W.T.k/\W.G.rb≠W.T.x
theorem z8F (aq:Um g)(aQ:1<=g.length)(nX:g.length<=40)(ru:GrM w (.slice ga g.length gc) g)(hG:Sk w 1 (W5 .gamma) 314)(hU:Sk w 2 (W5 .unary) 314)(fr fo:Int)(mB:JIq fr)(Cw:JIq fo):
  SG prog 10 [.slice ga g.length gc,I fr,I fo] w λv w'=>∃(W:Wd)(A:Nat->Prop),v= .tuple #[.agg W.v.toArray,.bool true]/\WdM W g A w'/\Ext w w'/\(∀b,b<w.heap.size->A b/\b≠W.G.rb/\b≠W.T.rb)/\w.heap.size<=W.G.k/\w.heap.size<=W.G.x/\w.heap.size<=W.T.k/\w.heap.size<=W.T.x:=by
 have r1:=ZL fr 12 ψ
 have r2:=z35 fr 12 ψ
 have l1:=hG.lt
 have l2:=hU.lt
 refine py (e:=[(0,_),(1,_),(2,_)]) func10 O ntmps10 O O<|qN O<|Sd O O (UK (cs:=[_,_,_,_,_]) z0s O) ?_
 rintro _ w1⟨bW,rfl,RK,aa,LS⟩
 have z1:=aa.size
 have lW:=LS.lt
 refine Up O<|qV (VI (cs:=[_,_]) zgB O zoJ O O)<|Sr zoO O (zhn 200 1 _ (by unfold z3y;decide)) ?_
 rintro _ w2⟨d,Fd,rfl,hD,ae,PD⟩
 refine Sf O<|Vk O<|Vj O<|Up O<|Sr zoB O (zeo 200 ψ _) ?_
 rintro _ w3⟨m,gi,rfl,hE,hm,wI,B⟩
 have z2:=ae.size
 have z3:=B.size
 have PE:=hD.ext B
 refine Sf O<|Vk O<|Vj O<|Up O<|Sz O<|qV (yrt O O ψ)<|Tr O<|qV (yrt O O ψ) ?_
 rw[show(fr.tmod 12+12).tmod 12=nrm fr 12 from rfl]
 obtain⟨S,PF,IN,PG⟩:∃S:Nat,1+nrm fr 12=(S:Int)/\1<=S/\S<=12:=⟨(1+nrm fr 12).toNat,ω,ω,ω⟩
 refine Tr O ?_
 rw[PF]
 have Q:(List.replicate 200 false).length=200:=y0b
 have PH:¬Fd m/\¬Fd gi:=⟨λe=>by have:=hD.lt _ e;omega,λe=>by have:=hD.lt _ e;omega⟩
 refine Sf O<|Sr zoy O (zcQ (L:=List.replicate 200 false) (by rw[Q];exact PE) hE PH S IN ω) ?_
 rintro _ w4⟨P,rfl,hM,hI,PI,PJ,LU,PK,aA⟩
 have z4:=aA.size
 have bO:Ext w w4:=((aa.trans ae).trans B).trans aA
 have IP:=((ae.trans B).trans aA).S4 LS
 obtain⟨X,hX⟩:∃X:Nat->Prop,(λb=>b<w.heap.size\/b=bW)=X:=⟨_,O⟩
 have IQ:∀b,X b->b<w1.heap.size:=λb e=>by rw[<-hX] at e;omega
 have q:∀b,b<w.heap.size->X b:=λb e=>by rw[<-hX];exact .inl e
 have a:X bW:=by rw[<-hX];exact .inr O
 have iL:Sp P (λ_=>zeros 512) 0 X w4:=⟨P,hM,hI,⟨rfl,rfl,rfl,rfl,rfl,rfl,rfl,rfl,rfl⟩,λb hb e=>by
  have:=IQ b e;rcases PK b hb with e|e|e| e
  ·have:=PD b e;omega
  ·omega
  ·omega
  ·omega⟩
 have df:Pre P.L 2:=by
  rw[LU];exact⟨y07 _,by rw[Q];omega,λi h1 N=>ω,λi h1 N=>by rw[Q] at N;rw[y0Z,if_pos N]⟩
 have RM:P.L.length=200:=by rw[LU,Q]
 refine Sf O<|Vk O<|To O<|SI.qb (e:=[(0,_),(2,_),(6,_),(7,_),(8,_),(9,_),(10,_),(11,_),(12,_),(13,_)]) ?_
 refine SX O<|TK O<|T0<|Sz O<|TK O<|T0<|Td O<|Sz O<|TK O<|T0<|Td O<|Sz O<|qV (T9 Zh O O)<|Td O ?_
 refine Tt O<|TV O<|Sf O<|Sr znP O (z8q fo Cw _) ?_
 rintro _ w5⟨p1,rfl,FC,mV,p⟩
 have z5:=p.size
 have K:=bO.trans p
 have PL:∀b,X b->b<w5.heap.size:=λb e=>by have:=IQ b e;omega
 refine Sr zmQ O (z8j (iL.ext' p) PL ω (q 1 l1) (q 2 l2) (K.S4 hG) (K.S4 hU) aq aQ nX (ru.ext K) FC mV df ω) ?_
 rintro _ w6⟨G,V,rfl,PM,RN,RO,PN,⟨n1,n2,n3⟩,dT,EB,aI⟩
 have jl:Ext w w6:=K.An aI (λb e=>by
  rcases y0a b w.heap.size with h| h
  ·exact absurd (q b h) e
  ·exact h)
 have z6:=aI.size
 have IR:=aI.S4 (p.S4 IP) (λe=>e a)
 have IB:(Th P.L 2 G.len true).length=P.L.length:=TE ω
 have ql:Pre (Th P.L 2 G.len true) (2+G.len):=z4G df ω
 obtain⟨c,IS⟩:∃c,P.Tl (Th P.L 2 G.len true)=c:=⟨_,O⟩
 have IT:c.L=Th P.L 2 G.len true:=by rw[<-IS];rfl
 have xI:c.s=P.s/\c.d=P.d/\c.m=P.m:=by rw[<-IS];exact⟨O,O,O⟩
 rw[IS] at dT
 rw[<-IT] at IB ql
 obtain⟨gb,go,a0,mY,tD⟩:=ru.r aQ
 cases mY
 refine Sf O<|Vk O<|To O<|SI.qb (e:=[(0,_),(2,_),(6,_),(7,_),(8,_),(10,_),(12,_),(14,_),(15,_)]) ?_
 refine TV O<|Sr zjC O (z4L aq (tD.ext jl)) ?_
 rintro _ w7⟨bt,rfl,zm,E⟩
 have lz:=jl.trans E
 have z7:=E.size
 have IU:=dT.ext E
 have jQ:=TQ g
 refine Sf O<|qV (zf2 O O) ?_
 obtain⟨M,Cy⟩:∃z,IntKind.i64.wrap (fo+1)=z:=⟨_,O⟩
 have Cz:JIq M:=by
  rw[<-Cy,y3u];omega
 rw[Cy]
 refine Sr znP O (z8q M Cz _) ?_
 rintro _ w8⟨p2,rfl,vL,oq,J⟩
 have z8:=J.size
 have C:=IU.ext J
 have xJ:=lz.trans J
 obtain⟨D,u⟩:∃D:Nat->Prop,(λb=>(X b\/b=G.x\/b=G.k)\/b=G.rb)=D:=⟨_,O⟩
 have R:∀b,X b->D b:=λb e=>by rw[<-u];exact .inl (.inl e)
 have rv:Sp c V (0+200) D w8:=by rw[<-u];exact C.sp
 have IV:∀b,D b->b<w8.heap.size:=λb e=>C.lt1 b (by rw[<-u] at e;exact e)
 have IW:GrM w8 (.slice (some ⟨bt,0,none⟩) (Tb g).length (Tb g).length) (Tb g):=(zm.ext J).gr
 have ov:=z8j rv IV ω (R _ (q 1 l1)) (R _ (q 2 l2)) (xJ.S4 hG) (xJ.S4 hU) (z2n aq) ω ω IW vL oq ql ω
 rw[xI.1,jQ] at ov
 refine Sr zmQ O ov ?_
 rintro _ w9⟨T,l,rfl,PO,RP,IX,PP,⟨t1,t2,t3⟩,F,EC,f⟩
 have z9:=f.size
 have ik:Ext w w9:=xJ.An f (λb e=>by
  rcases y0a b w.heap.size with h| h
  ·exact absurd (R b (q b h)) e
  ·exact h)
 have IY:=f.S4 ((E.trans J).S4 IR) (λe=>e (R _ a))
 have LV:(Th c.L (2+G.len) T.len true).length=c.L.length:=TE ω
 have qm:Pre (Th c.L (2+G.len) T.len true) (2+G.len+T.len):=z4G ql ω
 obtain⟨o,IZ⟩:∃o,c.Tl (Th c.L (2+G.len) T.len true)=o:=⟨_,O⟩
 have J0:o.L=Th c.L (2+G.len) T.len true:=by rw[<-IZ];rfl
 have xK:o.s=c.s/\o.d=c.d/\o.m=c.m:=by rw[<-IZ];exact⟨O,O,O⟩
 rw[IZ] at F
 rw[<-J0] at LV qm
 have CA:=F.sp
 have xL:=F.lt1
 have PQ:Wn G o l (0+200+200) (λb=>(X b\/b=G.x\/b=G.k)\/b=T.x\/b=T.k\/b=T.rb) w9:=C.zpd f (λb e=>by rw[<-u] at e;exact e) (λj e=> .inl e) (λj e=>e.imp id λe=>by
   have h1:=xL T.x (.inl (.inr (.inl O)));have N:=xL T.k (.inl (.inr (.inr O)));have h3:=xL T.rb (.inr O)
   omega) (CA.less λb e=>by
   rw[<-u];rcases e with(e|e|e|e)| e
   ·exact .inl (.inl (.inl e))
   ·exact .inl (.inr (.inl e))
   ·exact .inl (.inr (.inr e))
   ·exact .inr e
   ·exact .inl (.inl (.inr e))) xK.1 LV ω (λy h1 N=>EC y (.inl ω))
 have dK:=CA.room qm ω
 rw[xK.2.2,xI.2.2,PI] at dK
 refine Sf O<|Vk O<|Vj O<|Up O<|Sz O<|Sz O<|Sf O<|Sr zk1 O dK ?_
 rintro _ a1⟨rfl,t⟩
 have CB:=t.S4 IY
 rw[show o.L.length-(2+G.len+T.len)=200-(2+G.len+T.len) by omega]
 refine qV (VI (cs:=[_,_,_,_,_]) z0s O zor O O)<|Sz O<|Sf O<|Uj O<|Sm O (Ta (news:=[_,_,_,_,_]) z0s O O O O CB ξ) ?_
 rintro Z⟨CC,bu⟩
 refine Sq O<|SI.qb (e:=[(6,_),(7,_)]) ?_
 refine SF func10 (.cell U30 O z0s O (Sk.cells (n:=5) CC (news:=[_,_,_,_,_]) O) O (.tmp O .nil)) ?_
 obtain⟨A,H⟩:∃A:Nat->Prop,(λb=>X b\/b=G.x\/b=G.k\/b=G.rb\/b=T.x\/b=T.k\/b=T.rb)=A:=⟨_,O⟩
 have ED:=C.rbX
 have U:=F.rbX
 have zn:=C.xk
 have LW:=F.xk
 have zG:=C.lt1 _ (.inr O)
 have a2:=C.lt1 _ (.inl zn.1)
 have a3:=C.lt1 _ (.inl zn.2.1)
 have nM:∀b,X b->b<w1.heap.size:=IQ
 have J1:Wn G o l 400 (λb=>A b/\b≠G.rb) Z:=by
  refine Wn.less (Y:=λb=>(X b\/b=G.x\/b=G.k)\/b=T.x\/b=T.k\/b=T.rb) ((PQ.ext t).own bu λj e=>?_) (λb e=>?_) ?_
  ·subst e;exact⟨.inl (.inl a),ω,ω,ω,ω⟩
  ·rw[<-H] at e;rcases e with⟨e|e|e|e|e,h⟩
   ·exact .inl (.inl e)
   ·exact .inl (.inr (.inl e))
   ·exact .inl (.inr (.inr e))
   ·exact absurd e h
   ·exact .inr e
  ·rw[<-H];exact⟨⟨.inr (.inr (.inl O)),λe=>ED (e▸zn.1)⟩,⟨.inr (.inl O),λe=>ED (e▸zn.2.1)⟩,⟨.inl (q 1 l1),ω⟩,⟨.inl (q 2 l2),ω⟩⟩
 have J2:Wn T o l 400 (λb=>A b/\b≠T.rb) Z:=by
  refine Wn.less (Y:=λj=>D j\/j=T.x\/j=T.k) ((F.ext t).own bu λj e=>?_) (λb e=>?_) ?_
  ·subst e;exact⟨.inl (R _ a),ω,ω,ω,ω⟩
  ·rw[<-H] at e;rw[<-u];rcases e with⟨e|e|e|e|e|e|e,h⟩
   ·exact .inl (.inl (.inl e))
   ·exact .inl (.inl (.inr (.inl e)))
   ·exact .inl (.inl (.inr (.inr e)))
   ·exact .inl (.inr e)
   ·exact .inr (.inl e)
   ·exact .inr (.inr e)
   ·exact absurd e h
  ·rw[<-H];exact⟨⟨.inr (.inr (.inr (.inr (.inr (.inl O))))),λe=>U (e▸LW.1)⟩,⟨.inr (.inr (.inr (.inr (.inl O)))),λe=>U (e▸LW.2.1)⟩,⟨.inl (q 1 l1),ω⟩,⟨.inl (q 2 l2),ω⟩⟩
 refine⟨_,O,⟨d,o,l,400,G,T,2+G.len+T.len⟩,A,?_,⟨J1,J2,PM,PO,qm,?_,?_,?_,?_,?_,by rw[<-H];exact⟨.inr (.inr (.inr (.inl O))),.inr (.inr (.inr (.inr (.inr (.inr O))))),λe=>U (.inl (by rw[<-u];exact .inr e.symm)),λe=>U (.inl (by rw[<-u];exact .inl (.inr (.inr e)))),λe=>U (.inl (by rw[<-u];exact .inl (.inr (.inl e)))),(by show G.rb≠T.k;omega),(by show G.rb≠T.x;omega)⟩⟩,?_,λb hb=>⟨by rw[<-H];exact .inl (q b hb),λe=>?_,λe=>?_⟩,?_,?_,?_,?_⟩
 ·unfold Wd.v;rw[xK.1,xI.1]
  rfl
 ·show 2+G.len+T.len<=146;omega
 ·show o.L.length=200;omega
 ·exact y07 _
 ·show G.st+G.len<=T.st;omega
 ·show T.st+T.len<=2+G.len+T.len;omega
 ·exact(ik.trans t).An bu λb e=>ω
 ·have e:b=G.rb:=e;omega
 ·have e:b=T.rb:=e;omega
 ·show w.heap.size<=G.k;omega
 ·show w.heap.size<=G.x;omega
 ·show w.heap.size<=T.k;omega
 ·show w.heap.size<=T.x;omega
structure RuK (σ:Type) where
 M:UB->(Int->Sa)->Nat->Nat->(Nat->Prop)->Nat->Nat->σ->World->Prop
 tm:σ->Nat
 c0:Nat
 c1:Nat
 kp:∀{Q:UB} {txt:Int->Sa} {k rr:Nat} {O_:Nat->Prop} {a L:Nat} {s:σ} {w w':World} {S:Nat->Prop},M Q txt k rr O_ a L s w->Kp S w w'->(∀b,O_ b->¬S b)->M Q txt k rr O_ a L s w'
 z0c:∀{Q:UB} {txt txt':Int->Sa} {k rr:Nat} {O_:Nat->Prop} {a L:Nat} {s:σ} {w:World},M Q txt k rr O_ a L s w->(∀y:Int,(a:Int)<=y->y<(a:Int)+(L:Int)->txt' y=txt y)->M Q txt' k rr O_ a L s w
 q:∀{Q Q':UB} {txt:Int->Sa} {k rr:Nat} {O_:Nat->Prop} {a L:Nat} {s:σ} {w:World},M Q txt k rr O_ a L s w->Q'.s=Q.s->Q'.L.length=Q.L.length->M Q' txt k rr O_ a L s w
structure RuM {σ:Type}(R:RuK σ)(G:GwP)(Q:UB)(txt:Int->Sa)(K:Nat)(X:Nat->Prop)(rr:Nat)(O_:Nat->Prop)(a L:Nat)(s:σ)(w:World):Prop where
 g:Wn G Q txt K X w
 m:R.M Q txt G.k rr O_ a L s w
 xr:∀b,O_ b->X b
 ro:O_ rr
 ne:∀b,O_ b->b≠G.k/\b≠G.x/\b≠1/\b≠2
 YA:G.st+G.len<=a
 n:G.g.length<=40
section
variable {σ:Type}{R:RuK σ}{G:GwP}{Y:Nat->Prop}{L:Nat}{s s':σ}
theorem RuM.step (h:RuM R G Q txt K X rr O_ a L s w)(o:Kp S' w w')(c:∀j,S' j->X j/\j≠G.k/\j≠G.x/\j≠1/\j≠2/\¬O_ j)(d:∀j,X j->Y j)(q:∀j,Y j->X j\/(w.heap.size<=j/\j<w'.heap.size)):RuM R G Q txt K Y rr O_ a L s w':=
 ⟨h.g.step o (λj e=>⟨(c j e).1,(c j e).2.1,(c j e).2.2.1,(c j e).2.2.2.1,(c j e).2.2.2.2.1⟩) q d,R.kp h.m o (λb l e=>(c b e).2.2.2.2.2 l),λb l=>d b (h.xr b l),h.ro,h.ne,h.YA,h.n⟩
theorem RuM.less (h:RuM R G Q txt K Y rr O_ a L s w)(c:∀j,X j->Y j)(d:X G.k/\X G.x/\X 1/\X 2)(hr:∀b,O_ b->X b):RuM R G Q txt K X rr O_ a L s w:=⟨h.g.less c d,h.m,hr,h.ro,h.ne,h.YA,h.n⟩
theorem RuM.read (h:RuM R G Q txt K X rr O_ a L s w)(c:Kp (λb=>¬(X b\/b=G.rb)) w w')(d:Sp Q txt K (λb=>X b\/b=G.rb) w'):RuM R G Q txt K X rr O_ a L s w':=
 ⟨h.g.upd c (λb e=> .inl e) d O O h.g.z9z (λ_ _ _=>rfl),R.kp h.m c (λb j e=>e (.inl (h.xr b j))),h.xr,h.ro,h.ne,h.YA,h.n⟩
theorem RuM.upd (h:RuM R G Q txt K X rr O_ a L s w)(d:K'<1000000000000)(m:Kp S' w w')(l:∀b,S' b->¬(X b\/b=G.rb)\/O_ b)(j:Sp Q txt' K' (λb=>X b\/b=G.rb) w')(q:∀y:Int,y<(a:Int)\/(a:Int)+(L:Int)<=y->txt' y=txt y)(o:R.M Q txt' G.k rr O_ a L s' w'):RuM R G Q txt' K' X rr O_ a L s' w':=by
 have v:=h.YA
 exact⟨h.g.upd m (λb e=>(l b e).imp id λc=>⟨h.xr b c,h.ne b c⟩) j O O d (λy r u=>q y (.inl ω)),o,h.xr,h.ro,h.ne,h.YA,h.n⟩
theorem RuM.set (h:RuM R G Q txt K X rr O_ a L s w)(d:Kp S' w w')(c:∀b,S' b->O_ b)(l:R.M Q txt G.k rr O_ a L s' w'):RuM R G Q txt K X rr O_ a L s' w':=
 ⟨h.g.own d (λj e=>⟨h.xr j (c j e),h.ne j (c j e)⟩),l,h.xr,h.ro,h.ne,h.YA,h.n⟩
theorem RuM.list (h:RuM R G Q txt K X rr O_ a L s w)(hg:Wn G Q txt K Y w')(l:Kp (λj=>¬X j) w w')(c:∀j,X j->Y j):RuM R G Q txt K Y rr O_ a L s w':=
 ⟨hg,R.kp h.m l (λb d e=>e (h.xr b d)),λb d=>c b (h.xr b d),h.ro,h.ne,h.YA,h.n⟩
end
def Sp.iff {Y:Nat->Prop}(h:Sp Q txt K X w)(e:∀b,X b↔Y b):Sp Q txt K Y w:=by
 have c:X=Y:=funext λb=>propext (e b)
 exact c▸h
section
variable {G:GwP}{Y:Nat->Prop}
theorem Wn.at_ (h:Wn G Q txt K X w)(c:Kp S' w w')(d:¬S' G.k/\¬S' G.x/\¬S' 1/\¬S' 2/\¬S' G.rb)(e:Y G.k/\Y G.x/\Y 1/\Y 2)(l:∀j,Y j->j<w'.heap.size)(hr:¬Y G.rb)(u:Sp Q' txt' K' (λb=>Y b\/b=G.rb) w')(z:Q'.s=Q.s)(v:Q'.L.length=Q.L.length)(r:K'<1000000000000)(ht:∀y:Int,(G.st:Int)<=y->y<(G.st:Int)+(G.len:Int)->txt' y=txt y):Wn G Q' txt' K' Y w':=by
 have m:=h.rbB
 obtain⟨o,h⟩:=h
 have n:=o.len
 have q:(zbk (⟨r,by rw[v];exact o.fit,o.laid.z0c λk c=>ht _ ω ω,o.len⟩:StO Q' txt' K' G.st G.len (pkT G.p G.g G.E)) G.rb G.sum).inv Y w':=⟨u,by rw[z];exact c.S4 m d.2.2.2.2,hr⟩
 exact⟨_,⟨h.ok,c.S4 h.S4 d.1,c.S4 h.ix d.2.1,e.1,e.2.1,q,l,e.2.2.1,e.2.2.2,c.S4 h.gam d.2.2.1,c.S4 h.una d.2.2.2.1⟩⟩
end
structure UL {σ:Type}(R:RuK σ)(G T:GwP)(Q:UB)(txt:Int->Sa)(K:Nat)(X:Nat->Prop)(rr:Nat)(O_:Nat->Prop)(a L:Nat)(s:σ)(w:World):Prop where
 m:RuM R G Q txt K (λb=>X b\/b=T.rb) rr O_ a L s w
 t:Wn T Q txt K (λb=>X b\/b=G.rb) w
 xr:∀b,O_ b->X b
 xk:X G.k/\X G.x/\X T.k/\X T.x/\X 1/\X 2
 nk:∀b,O_ b->b≠T.k/\b≠T.x
 YA:T.st+T.len<=a
section
variable {σ:Type}{R:RuK σ}{G T:GwP}{Y:Nat->Prop}{L:Nat}{s s':σ}
theorem UL.ng (h:UL R G T Q txt K X rr O_ a L s w):¬X G.rb/\G.rb≠T.rb/\¬X T.rb:=by
 have c:=h.m.g.rbX
 have d:=h.t.rbX
 exact⟨λe=>c (.inl e),λe=>c (.inr e),λe=>d (.inl e)⟩
theorem UL.sp (h:UL R G T Q txt K X rr O_ a L s w):Sp Q txt K (λb=>(X b\/b=T.rb)\/b=G.rb) w:=h.m.g.sp
theorem UL.lt (h:UL R G T Q txt K X rr O_ a L s w):∀b,((X b\/b=T.rb)\/b=G.rb)->b<w.heap.size:=h.m.g.lt1
theorem UL.byG (h:UL R G T Q txt K X rr O_ a L s w)(q:RuM R G Q txt' K' (λb=>Y b\/b=T.rb) rr O_ a L s' w')(C:Kp S' w w')(v:∀b,S' b->(¬X b/\b≠T.rb)\/O_ b)(c:∀j,X j->Y j)(z:∀j,Y j->X j\/w.heap.size<=j)(I:∀y:Int,y<(a:Int)\/(a:Int)+(L:Int)<=y->txt' y=txt y):UL R G T Q txt' K' Y rr O_ a L s' w':=by
 obtain⟨n1,n2,x⟩:=h.ng
 have A:=h.YA
 have n:=h.lt
 have u:=q.g.lt1
 have d:=h.xk
 have o:=h.m.ne
 have H:=n T.rb (.inl (.inr O))
 have F:=n G.rb (.inr O)
 have l:∀b,X b->¬O_ b->¬S' b:=λb r D e=>(v b e).elim (λe=>e.1 r) D
 refine⟨q,h.t.at_ C ⟨l _ d.2.2.1 λe=>(h.nk _ e).1 O,l _ d.2.2.2.1 λe=>(h.nk _ e).2 O,l _ d.2.2.2.2.1 λe=>(o _ e).2.2.1 O,l _ d.2.2.2.2.2 λe=>(o _ e).2.2.2 O,λe=>(v _ e).elim (λe=>e.2 O) (λe=>x (h.xr _ e))⟩ ⟨.inl (c _ d.2.2.1),.inl (c _ d.2.2.2.1),.inl (c _ d.2.2.2.2.1),.inl (c _ d.2.2.2.2.2)⟩ (λj e=>u j (e.imp .inl id)) ?_ (q.g.sp.iff λb=>?_) O O q.g.z9z (λy J M=>I y (.inl ω)),λb r=>c b (h.xr b r),⟨c _ d.1,c _ d.2.1,c _ d.2.2.1,c _ d.2.2.2.1,c _ d.2.2.2.2.1,c _ d.2.2.2.2.2⟩,h.nk,A⟩
 ·rintro(e|e)
  ·rcases z _ e with e| e
   ·exact x e
   ·omega
  ·exact n2 e.symm
 ·constructor
  ·rintro((e|e)|e)
   ·exact .inl (.inl e)
   ·exact .inr e
   ·exact .inl (.inr e)
  ·rintro((e|e)|e)
   ·exact .inl (.inl e)
   ·exact .inr e
   ·exact .inl (.inr e)
theorem UL.step (h:UL R G T Q txt K X rr O_ a L s w)(C:Kp S' w w')(z:∀j,S' j->X j/\j≠G.k/\j≠G.x/\j≠T.k/\j≠T.x/\j≠1/\j≠2/\¬O_ j)(c:∀j,X j->Y j)(A:∀j,Y j->X j\/(w.heap.size<=j/\j<w'.heap.size)):UL R G T Q txt K Y rr O_ a L s w':=by
 have d:=h.xk
 exact⟨h.m.step C (λj e=>by obtain⟨l,q,r,u,v,n,o,y⟩:=z j e;exact⟨.inl l,q,r,n,o,y⟩) (λj e=>e.imp (c j) id) (λj e=>e.elim (λe=>(A j e).imp .inl id) (λe=> .inl (.inr e))),
  h.t.step C (λj e=>by obtain⟨l,q,r,u,v,n,o,y⟩:=z j e;exact⟨.inl l,u,v,n,o⟩) (λj e=>e.elim (λe=>(A j e).imp .inl id) (λe=> .inl (.inr e))) (λj e=>e.imp (c j) id),
  λb D=>c b (h.xr b D),⟨c _ d.1,c _ d.2.1,c _ d.2.2.1,c _ d.2.2.2.1,c _ d.2.2.2.2.1,c _ d.2.2.2.2.2⟩,h.nk,h.YA⟩
def UL.ext (h:UL R G T Q txt K X rr O_ a L s w)(c:Ext w w'):UL R G T Q txt K X rr O_ a L s w':=
 h.step c (λ_ e=>e.elim) (λ_ e=>e) (λ_ e=> .inl e)
def UL.grow (h:UL R G T Q txt K X rr O_ a L s w)(l:Ext w w')(d:∀j,Y j->X j\/(w.heap.size<=j/\j<w'.heap.size))(c:∀j,X j->Y j):UL R G T Q txt K Y rr O_ a L s w':=
 h.step l (λ_ e=>e.elim) c d
def UL.own (h:UL R G T Q txt K X rr O_ a L s w)(d:Kp S' w w')(c:∀j,S' j->X j/\j≠G.k/\j≠G.x/\j≠T.k/\j≠T.x/\j≠1/\j≠2/\¬O_ j):UL R G T Q txt K X rr O_ a L s w':=
 h.step d c (λ_ e=>e) (λ_ e=> .inl e)
theorem UL.read (h:UL R G T Q txt K X rr O_ a L s w)(d:Kp (λb=>¬((X b\/b=T.rb)\/b=G.rb)) w w')(j:Sp Q txt K (λb=>(X b\/b=T.rb)\/b=G.rb) w'):UL R G T Q txt K X rr O_ a L s w':=
 h.byG (h.m.read d j) d (λb e=> .inl ⟨λc=>e (.inl (.inl c)),λc=>e (.inl (.inr c))⟩) (λ_ e=>e) (λ_ e=> .inl e) (λ_ _=>rfl)
theorem UL.upd (h:UL R G T Q txt K X rr O_ a L s w)(n:K'<1000000000000)(j:Kp S' w w')(d:∀b,S' b->¬((X b\/b=T.rb)\/b=G.rb)\/O_ b)(o:Sp Q txt' K' (λb=>(X b\/b=T.rb)\/b=G.rb) w')(l:∀y:Int,y<(a:Int)\/(a:Int)+(L:Int)<=y->txt' y=txt y)(q:R.M Q txt' G.k rr O_ a L s' w'):UL R G T Q txt' K' X rr O_ a L s' w':=
 h.byG (h.m.upd n j d o l q) j (λb e=>(d b e).imp (λe=>⟨λc=>e (.inl (.inl c)),λc=>e (.inl (.inr c))⟩) id) (λ_ e=>e) (λ_ e=> .inl e) l
theorem UL.set (h:UL R G T Q txt K X rr O_ a L s w)(d:Kp S' w w')(c:∀b,S' b->O_ b)(j:R.M Q txt G.k rr O_ a L s' w'):UL R G T Q txt K X rr O_ a L s' w':=
 h.byG (h.m.set d c j) d (λb e=> .inr (c b e)) (λ_ e=>e) (λ_ e=> .inl e) (λ_ _=>rfl)
theorem UL.less (h:UL R G T Q txt K Y rr O_ a L s w)(d:∀j,X j->Y j)(c:X G.k/\X G.x/\X T.k/\X T.x/\X 1/\X 2)(hr:∀b,O_ b->X b):UL R G T Q txt K X rr O_ a L s w:=
 ⟨h.m.less (λj e=>e.imp (d j) id) ⟨.inl c.1,.inl c.2.1,.inl c.2.2.2.2.1,.inl c.2.2.2.2.2⟩ (λb l=> .inl (hr b l)),h.t.less (λj e=>e.imp (d j) id) ⟨.inl c.2.2.1,.inl c.2.2.2.1,.inl c.2.2.2.2.1,.inl c.2.2.2.2.2⟩,hr,c,h.nk,h.YA⟩
end
inductive Y0 (g:List (List Nat)) (a:Nat):Nat->Prop
 |refl:Y0 g a a
 |step {x b:Nat}:Y0 g a x->b∈Si g x->Y0 g a b
section
/-! ### Colours -/
def Y0.lt (h:Um g)(hr:Y0 g a b)(d:a<g.length):b<g.length:=by
 cases hr with
 |refl=>exact d
 |step _ e=>exact Vx h _ _ e
end
theorem z62 {p q:Nat->Bool}:∀{l:List Nat},(∀x∈l,p x=true->q x=false)->l.countP (λx=>p x ||q x)=l.countP p+l.countP q
 |[],_=>rfl
 | x :: l, h => by
   have j:=z62 (p:=p) (q:=q) (l:=l) λy e=>h y (y0u _ e);have c:=h x y0s;rw[y12,y12,y12,j]
   cases d:p x with
   |false=>cases q x<;>simp<;>omega
   |true=>rw[c d];simp;omega
theorem z69 {a:Nat}:∀n,a<n->(List.range n).countP (λx=>decide (x=a))=1
 |0,h=>absurd h (y2s _)
 | n + 1, h => by
   rw[y0T,y2Q,y2C];by_cases e:a=n
   ·subst e
    have:(List.range a).countP (λx=>decide (x=a))=0:=by
     rw[List.countP_eq_zero];intro x j d;have:=y0R.1 j;have:=of_decide_eq_true d;omega
    rw[this];simp
   ·rw[z69 n ω,if_neg (by simpa using λc=>e c.symm)]
theorem z1C {n:Nat}:∀{l:List Nat},l.Nodup->(∀x∈l,x<n)->l.length=(List.range n).countP (λx=>decide (x∈l))
 |[],_,_=>by rw[y1e,eq_comm,List.countP_eq_zero];simp
 | a :: l, hn, h => by
   rw[y19] at hn;have j:=z1C (l:=l) hn.2 λx c=>h x (y0u _ c)
   have e:(λx=>decide (x∈a::l))=λx=>decide (x=a) ||decide (x∈l):=by
    funext x
    rw[<-Bool.decide_or,decide_eq_decide,y0m]
   rw[e,z62,z69 n (h a y0s),y03,j,y1x];intro x c d;rw[of_decide_eq_true d];exact decide_eq_false hn.1
theorem z4v {p:Nat->Nat->Bool}{m:Nat}:∀n,((List.range n).map λx=>(List.range m).countP (p x)).sum=((List.range m).map λu=>(List.range n).countP (λx=>p x u)).sum
 | 0 => by
   rw[List.range_zero,y1y,y1E,eq_comm]
   have:∀l:List Nat,(l.map λu=>([]:List Nat).countP (λx=>p x u)).sum=0:=λl=>by
    induction l with
    |nil=>rfl
    |cons a l c=>rw[y0o,y0L,c];rfl
   exact this _
 | n + 1 => by
   rw[y0T,y0f,y15,z4v n]
   have:∀l:List Nat,(l.map λu=>(List.range n).countP (λx=>p x u)).sum+l.countP (p n)=(l.map λu=>(List.range n++[n]).countP (λx=>p x u)).sum:=λl=>by
    induction l with
    |nil=>rfl
    | cons a l c =>
      rw[y0o,y0L,y0o,y0L,y12,<-c,y2Q,y2C];omega
   rw[<-this];simp
theorem z0k (g:List (List Nat)):Tk g=((List.range g.length).map λx=>(Si g x).length).sum:=by
 unfold Tk
 congr 1
 refine y1f λi=>?_
 rw[y0l,y0l]
 by_cases h:i<g.length
 ·rw[y1z h];unfold Si;simp[y04 h]
 ·rw[y0n ω,y0n (by rw[y16];omega)]
  rfl
def za2 (h:Um g)(d:∀x,(Si g x).Nodup)(c:∀x y,y∈Si g x->y<g.length):Tk (Tb g)=Tk g:=by
 rw[z0k,z0k,TQ]
 have e:((List.range g.length).map λx=>(Si g x).length)=(List.range g.length).map λx=>(List.range g.length).countP (λu=>decide (u∈Si g x)):=
  y0O λx _=>z1C (d x) (c x)
 have j:((List.range g.length).map λu=>(Si (Tb g) u).length)=(List.range g.length).map λu=>(List.range g.length).countP (λx=>decide (u∈Si g x)):=
  y0O λu l=>by
   unfold Si;rw[z2M g (y0R.1 l),y3L]
   rfl
 rw[e,j,z4v]
theorem YV (h:Um g):Tk (Tb g)=Tk g:=by
 have d:∀x,Si g x∈g\/Si g x=[]:=λx=>by
  unfold Si;by_cases e:x<g.length
  ·rw[y04 e];exact .inl (y1s e)
  ·rw[y0n ω];exact .inr O
 refine za2 h (λx=>?_) λx y c=>?_
 ·rcases d x with e| e
  ·exact List.Pairwise.imp (λh e=>ω) (h.ok _ e).ris
  ·rw[e];exact .nil
 ·rcases d x with e| e
  ·exact h.lt _ e y c
  ·rw[e] at c;cases c
end Go.Proofs.YtbihggbffaigjaaGreatDoor
