/- Merged by program. -/
import Derived.Test.YtbihggbffaigjaaGreatDoorZt6
import Derived.Lib.UnsafeStr
set_option linter.all false
set_option maxRecDepth 1000000
set_option maxHeartbeats 16000000
namespace Go.Proofs.YtbihggbffaigjaaGreatDoor
open Go Go.RowKit Go.Proofs.Tryz
variable {B K K' a at' b bg bi bk bs bw bx c each f gb gc i k rb rr st sum vb wb width:Nat}{E es:List (Nat×Nat)}{L:List Bool}{O_ S' X:Nat->Prop}{P:Program}{Q Q':Sf}{T s:PU}{aft:Array Edge}{cs:List Value}{ea ga:Option Addr}{el t ty:TypeId}{g:List (List Nat)}{ms:List Dfr}{p:RE}{txt txt':Int->PU}{w w':World}{xs:List Nat}
def z2u (bs bx bw:Nat):Value:= .func (.func 99) #[] #[ptr bs 0,ptr bx 0,ptr bw 0]
structure SwM (s st len wb bs bx bw:Nat)(rest:Value)(at' n sum:Nat)(w:World):Prop where
 wr:Q8 w wb (swC s st len rest at' n sum (z2u bs bx bw) false) 197
 sb:Q8 w bs [ptr s 0] 27
 xb:Q8 w bx [I (st:Int),I (len:Int)] 124
 pb:Q8 w bw [ptr wb 0] 143
 ne:bs≠wb/\bx≠wb/\bw≠wb
section
variable {s len n:Nat}{rest:Value}
def SwM.kp (h:SwM s st len wb bs bx bw rest at' n sum w)(d:Kp S' w w')(e:¬S' wb)(j:¬S' bs)(l:¬S' bx)(m:¬S' bw):SwM s st len wb bs bx bw rest at' n sum w':=
 ⟨d.PO h.wr e,d.PO h.sb j,d.PO h.xb l,d.PO h.pb m,h.ne⟩
theorem SwM.ext (h:SwM s st len wb bs bx bw rest at' n sum w)(d:Ext w w'):SwM s st len wb bs bx bw rest at' n sum w':=h.kp (S':=λ_=>False) d id id id id
def SwM.re {d:Value}{j n2 e:Nat}(h:SwM s st len wb bs bx bw rest at' n sum w)(l:Kp (λb=>b=wb) w w')(hB:Q8 w' wb (swC s st len d j n2 e (z2u bs bx bw) false) 197):SwM s st len wb bs bx bw d j n2 e w':=
 ⟨hB,l.PO h.sb h.ne.1,l.PO h.xb h.ne.2.1,l.PO h.pb h.ne.2.2,h.ne⟩
theorem SwM.cells (h:SwM s st len wb bs bx bw rest at' n sum w):Q8 w wb [ptr s 0,I (st:Int),I (len:Int),rest,I (at':Int),I (n:Int),U sum,z2u bs bx bw,.bool false] 197:=h.wr
theorem z0j (D:Sp Q txt K X w)(F:∀b,X b->b<w.heap.size)(U:K<1000000000000)(h:SwM Q.s st len wb bs bx bw rest at' n sum w)(j:X wb/\X bs/\X bx/\X bw)(k:st+at'<Q.L.length)(t:PU)(ht:t.length=512):
  Qx prog 99 [S t,ptr bs 0,ptr bx 0,ptr bw 0] w λv w'=>v=I 0/\Sp Q (z0C txt ((st+at':Nat):Int) (some t)) (K+1) X w'/\SwM Q.s st len wb bs bx bw rest (at'+1) n sum w'/\Kp (λb=>¬X b\/b=wb) w w':=by
 have g:=D.n
 have Y:=h.sb
 have V:=h.xb
 have a:=h.pb
 have hB:=h.cells
 have hg:=Ext.Qm w
 refine py (e:=[(0,_),(1,_),(2,_),(3,_)]) func99 O ntmps99 O O<|RY O<|It<|Sq (λw'=>Kp (λb=>¬X b) w w') O<|qT 0 O (λ_ l=>(Q0 XG O O (l.PO Y (λe=>e j.2.1)) O)) hg.kp<|PV 1 O (QE S6 O) hg.kp<|qT 2 O (λ_ l=>(Q0 U3 O O (l.PO V (λe=>e j.2.2.1)) O)) hg.kp<|qT 3 O (λ_ l=>(Q0 z4K O O (l.PO a (λe=>e j.2.2.2)) O)) hg.kp<|PV 4 O (Rs O) hg.kp<|PV 5 O (QE Zu O) hg.kp<|qT 6 O (λ_ l=>(Q0 U3 O O (l.PO hB (λe=>e j.1)) O)) hg.kp<|PV 7 O (W7 O O ω) hg.kp<|Ql 8 O O hg.kp ?_
 rw[show(st:Int)+(at':Int)=((st+at':Nat):Int) by omega]
 refine TQ 9 O zdi O ((D.ext' hg).write (λb x=>by have:=F b x;have:=hg.size;omega) U (no:=((st+at':Nat):Int)) ω ω t ht) ?_
 rintro _ w1⟨rfl,W,m⟩
 refine⟨hg.kp.trans m,?_⟩
 have y:Kp (λb=>¬X b) w w1:=hg.kp.trans m
 have r:=h.kp y (λe=>e j.1) (λe=>e j.2.1) (λe=>e j.2.2.1) (λe=>e j.2.2.2)
 have C:=r.cells
 have G:=r.pb
 have f:∀b,X b->b<w1.heap.size:=λb x=>by have:=F b x;have:=y.size;omega
 refine PV 10 O (SG O) (hg.kp.trans m)<|qE<|qN O<|qV (Q0 z4K O O G O)<|QC O<|Qf Zu O<|qV (Q0 U3 O O C O)<|Ra O<|QC O<|Qf Zu O<|Qc O (S0 R8 O O O C ξ) ?_
 rintro w2⟨H,o⟩
 have N:Q8 w2 wb (swC Q.s st len rest (at'+1) n sum (z2u bs bx bw) false) 197:=H
 have u:=r.re o N
 have z:=u.cells
 have A:=u.pb
 have d:=Ext.Qm w2
 have M:=W.own o (λb e=>by rw[e];exact j.1)
 refine PR<|It<|Qp [11] (λw'=>Ext w2 w') y00 O<|qL 0 O (λ_ h=>(Q0 z4K O O (h.PO A) O)) d<|qL 1 O (λ_ h=>(Q0 z4K O O (h.PO A) O)) d<|Qs 2 O (Rs O) d<|Qs 3 O (QE z08 O) d<|qL 4 O (λ_ h=>(Q0 U4 O O (h.PO z) O)) d<|R1 5 O O d<|R1 6 O O d<|Qs 7 O (yne O O) d<|Qs 8 O (VF O O) d<|Qs 9 O (Rs O) d<|Qs 10 O (QE z08 O) d ?_
 refine U0 [11] ?_
 have J:=d.PO z
 refine qO 11<|QQ (i:=11) O O (S0 Wu O O O J ξ) ?_
 rintro c⟨Z,q⟩
 refine⟨trivial,?_⟩
 refine qE<|QA.qb (e:=[(5,_),(6,_)]) ?_
 refine Qz O<|Qe O<|PQ func99 O ?_
 have R:=(u.ext d).re q (show Q8 c wb (swC Q.s st len rest (at'+1) n sum (z2u bs bx bw) false) 197 from Z)
 exact⟨_,O,O,(M.ext' d).own q (λb e=>by rw[e];exact j.1),R,((y.PZ λb e=> .inl e).trans (o.PZ λb e=> .inr e)).trans (d.kp.trans (q.PZ λb e=> .inr e))⟩
end
section
variable {e:Env}{d:Option Nat}{t':TypeId}{pos:String}{g:Option (Nat×Bool)}{x:Operand}{l:PU}{v:Value}
theorem zgv (y:P.underlying t=some (.slice el))(r:P.underlying el=some (.int .u8))(q:P.underlying t'=some .string)(z:look e x=some v)(h:Rd w v 1 l.length (l.map Ua))(D:0<l.length):
  Y P e ⟨d,.convert t t' x,ty,pos,aft,g⟩ (S l) w w:=fun ρ A=>by
 rcases h.2 with⟨⟨ca,c⟩,m,C⟩|⟨b,off,cap,m,o⟩
 ·omega
 ·subst m;have h:=run_convert_bytes_back (P:=P) w t t' el ⟨b,off,none⟩ cap l y r q (λj u=>by rw[So];exact o j _ (by simp[u,Ua]));simp[execOp,A _ _ z,h]
end
section
variable {s len n:Nat}
theorem z4m (hP:Sp Q txt K X w){len:Nat}(h1:1<=len)(h2:st+len<=Q.L.length):
  Qx prog 67 [ptr Q.s 0,.agg #[I (st:Int),I (len:Int)]] w λv w'=>∃wb bs bx bw sum,v= .tuple #[ptr wb 0,I 0]/\sum<4294967296/\SwM Q.s st len wb bs bx bw (.slice none 0 0) 0 0 sum w'/\(w.heap.size<=wb/\w.heap.size<=bs/\w.heap.size<=bx/\w.heap.size<=bw)/\Ext w w':=by
 have ly:Sums.crc []<4294967296:=Sums.zhp _
 obtain⟨c0,c⟩:∃c0,Sums.crc []=c0:=⟨_,O⟩
 rw[c] at ly
 refine py (e:=[(0,_),(1,_)]) func67 O ntmps67 O O<|qN O<|PX O O (Sy O (cs:=[ptr Q.s 0]) O) ?_
 rintro _ w1⟨bs,rfl,yE,k,T⟩
 refine PX O O (Sy O (cs:=[I (st:Int),I (len:Int)]) O) ?_
 rintro _ w2⟨bx,rfl,fA,S,a⟩
 have kQ:=S.PO T
 have N6:=hP.ext' (k.trans S)
 have m:=Ext.Qm w2
 have r:=m.size
 refine Rw O<|It<|QT (λE w'=>∃wb bw,E=[(2,ptr bs 0),(3,ptr bx 0),(6,ptr bw 0)]/\Q8 w' wb [ptr Q.s 0,I (st:Int),I (len:Int),.slice none 0 0,I 0,I 0,U c0,.nilFunc,.bool false] 197/\Q8 w' bw [ptr wb 0] 143/\Ext w2 w'/\w2.heap.size<=wb/\w2.heap.size<=bw/\wb≠bw) ?bF<|λbF=>?du
 case bF=>
  rintro E w3⟨wb,bw,rfl,t,mW,A,b,W,B⟩;have a0:=T.lt;have a1:=a.lt;have dR:=S.size;have fZ:=N6.ext' A;refine It<|qN O<|qV (Q0 z4K O O mW O)<|QC O<|Qf Ym O<|qV (QB z4W O YX O (Q8.cells (n:=3) t (news:=[_,_,_]) O) O)<|Qj zjc O (z19 fZ h1 h2) ?_;rintro _ w4⟨rfl,Y⟩;have mt:=Y.PO mW;have aJ:=Y.PO t;refine RZ O (RI O (Ri O (qN O (qV (Q0 z4K O O mt O) (qV (ymf (first:=[]) (caps:=[.tmp 2,.tmp 3,.tmp 6]) O O) (QC O (Qf z1v O (Qc O (S0 zgw O O O aJ ξ) ?_))))))));rintro V⟨q,p⟩;have f:=p.PO mt (λe=>B e.symm);refine qM O<|qV (Q0 z4K O O f O)<|Rw O<|PQ func67 O ?_;have Z:Ext w2 V:=(A.trans Y).An p (λj e=>ω);refine⟨_,O,wb,bs,bx,bw,c0,O,ly,⟨q,Z.PO kQ,Z.PO a,f,⟨ω,ω,λe=>B e.symm⟩⟩,⟨ω,ω,ω,ω⟩,(k.trans S).trans Z⟩
 case du=>
 refine Qp [7] (λw'=>Ext w2 w') y00 O<|qL 0 O (λ_ h=>(Q0 XG O O (h.PO kQ) O)) m<|qL 1 O (λ_ hS=>(QB Ww O Sj O (Q8.cells (n:=2) (hS.PO a) (news:=[_,_]) O) O)) m<|Qs 2 O (To (cs:=[_,_,_]) YX O zf9 O O) m<|Wp (i:=3) (j:=6) y00 ?_ ?_
 ·refine S2 (i:=3) O O O (yc (args:=[.const (Value.string (⟨#[]⟩))]) zjo O) (z9l [] _ ξ) ?_;rintro _ w3⟨rfl,A⟩;refine⟨m.trans A,?_⟩;rw[c];have m:=m.trans A
  try have o:=A.PO o
  have r:=y0c r A.size;refine Qs 4 O (To (cs:=[_,_,_,_,_,_,_,_,_]) zfu O zfH O O) m<|Wp (i:=5) (j:=6) y00 ?_ ?_
  ·refine Rp (i:=5) O O O (Sy O (cs:=[ptr Q.s 0,I (st:Int),I (len:Int),.slice none 0 0,I 0,I 0,U c0,.nilFunc,.bool false]) O) ?_;rintro _ V⟨wb,rfl,b,y,q⟩;refine⟨m.trans y,?_⟩;have m:=m.trans y
   try have o:=y.PO o
   have N:w2.heap.size<=wb:=ω
   have r:=y0c r y.size;refine RM (i:=6) y00<|Rp (i:=6) O O O (SE (cs:=[_]) z43 O) ?_;rintro _ w6⟨bw,rfl,W,u,o⟩;refine⟨m.trans u,?_⟩;have m:=m.trans u
   try have q:=u.PO q
   have H:w2.heap.size<=bw:=ω
   have r:=y0c r u.size;refine U0 [7] (qO 7 (QQ (i:=7) O O (S0 z43 O O O o ξ) ?_));rintro R⟨C,D⟩;refine⟨trivial,?_⟩;refine qE ?_;replace C:Q8 R bw [ptr wb 0] 143:=C
   have G:wb≠bw:=by
    intro e;have z:=q;rw[e] at z;obtain⟨P,z,-⟩:=z;obtain⟨J,F,-⟩:=o;rw[z] at F;cases F
   have M:=D.PO q G;exact(bF _ _ ⟨wb,bw,O,M,C,m.An D (λj e=>ω),N,H,G⟩).qb
  ·refine Rp (i:=6) O O O (SE (cs:=[_]) z43 O) ?_;rintro _ w6⟨bw,rfl,W,u,o⟩;refine⟨m.trans u,?_⟩;have m:=m.trans u
   try have q:=u.PO q
   have H:w2.heap.size<=bw:=ω
   have r:=y0c r u.size;refine RM (i:=5) y00<|Rp (i:=5) O O O (Sy O (cs:=[ptr Q.s 0,I (st:Int),I (len:Int),.slice none 0 0,I 0,I 0,U c0,.nilFunc,.bool false]) O) ?_;rintro _ V⟨wb,rfl,b,y,q⟩;refine⟨m.trans y,?_⟩;have m:=m.trans y
   try have o:=y.PO o
   have N:w2.heap.size<=wb:=ω
   have r:=y0c r y.size;refine U0 [7] (qO 7 (QQ (i:=7) O O (S0 z43 O O O o ξ) ?_));rintro R⟨C,D⟩;refine⟨trivial,?_⟩;refine qE ?_;replace C:Q8 R bw [ptr wb 0] 143:=C
   have G:wb≠bw:=by
    intro e;have z:=q;rw[e] at z;obtain⟨P,z,-⟩:=z;obtain⟨J,F,-⟩:=o;rw[z] at F;cases F
   have M:=D.PO q G;exact(bF _ _ ⟨wb,bw,O,M,C,m.An D (λj e=>ω),N,H,G⟩).qb
 ·refine Rp (i:=6) O O O (SE (cs:=[_]) z43 O) ?_;rintro _ w6⟨bw,rfl,W,u,o⟩;refine⟨m.trans u,?_⟩;have m:=m.trans u
  try have q:=u.PO q
  have H:w2.heap.size<=bw:=ω
  have r:=y0c r u.size;refine RM (i:=3) y00 (S2 (i:=3) O O O (yc (args:=[.const (Value.string (⟨#[]⟩))]) zjo O) (z9l [] _ ξ) ?_);rintro _ w3⟨rfl,A⟩;refine⟨m.trans A,?_⟩;rw[c];have m:=m.trans A
  try have o:=A.PO o
  have r:=y0c r A.size;refine Qs 4 O (To (cs:=[_,_,_,_,_,_,_,_,_]) zfu O zfH O O) m (RM (i:=5) y00 (Rp (i:=5) O O O (Sy O (cs:=[ptr Q.s 0,I (st:Int),I (len:Int),.slice none 0 0,I 0,I 0,U c0,.nilFunc,.bool false]) O) ?_));rintro _ V⟨wb,rfl,b,y,q⟩;refine⟨m.trans y,?_⟩;have m:=m.trans y
  try have o:=y.PO o
  have N:w2.heap.size<=wb:=ω
  have r:=y0c r y.size;refine U0 [7] (qO 7 (QQ (i:=7) O O (S0 z43 O O O o ξ) ?_));rintro R⟨C,D⟩;refine⟨trivial,?_⟩;refine qE ?_;replace C:Q8 R bw [ptr wb 0] 143:=C
  have G:wb≠bw:=by
   intro e;have z:=q;rw[e] at z;obtain⟨P,z,-⟩:=z;obtain⟨J,F,-⟩:=o;rw[z] at F;cases F
  have M:=D.PO q G;exact(bF _ _ ⟨wb,bw,O,M,C,m.An D (λj e=>ω),N,H,G⟩).qb
end
section
variable {len n:Nat}{rest:Value}
theorem zab (T:PU)(k:Nat):((T.drop (512*k)).map Ua).drop 512=(T.drop (512*(k+1))).map Ua:=by
 rw[<-y21,y0G]
 congr 2
def SwI (Q:Sf)(txt:Int->PU)(K:Nat)(X:Nat->Prop)(st len wb bs bx bw:Nat)(T:PU)(sum:Nat)(w:World)(k:Nat)(w':World):Prop:=
 ∃txt' rest,Sp Q txt' (K+k) (λb=>X b\/rest.ownBlock=some b) w'/\SwM Q.s st len wb bs bx bw rest k T.length sum w'/\Sl w' rest 5 1 (T.length-512*k) ((T.drop (512*k)).map Ua)/\(∀j,j<k->txt' ((st+j:Nat):Int)=(T.drop (512*j)).take 512)/\(∀y:Int,y<(st:Int)\/(st:Int)+(k:Int)<=y->txt' y=txt y)/\Kp (λb=>¬X b\/b=wb) w w'/\(∀b,rest.ownBlock=some b->w.heap.size<=b)
theorem z69 (f:Sp Q txt K X w)(hX:∀b,X b->b<w.heap.size)(hK:K<=100000000000)(h:SwM Q.s st len wb bs bx bw (.slice none 0 0) 0 0 sum w)(i8:sum<4294967296)(o:X wb/\X bs/\X bx/\X bw)(cb:st+len<=Q.L.length)(h1:1<=len)(hT:T.length<=len*512-12):
  Qx prog 68 [ptr wb 0,S T] w λv w'=>v=I 0/\∃q,q<4294967296/\SwI Q txt K X st len wb bs bx bw T q w (T.length / 512) w':=by
 have fC:maxLen=9223372036854775807:=rfl
 have eu:=f.n
 refine py (e:=[(0,_),(1,_)]) func68 O ntmps68 O O<|RY O<|QV O<|Qj zfJ O (ZK h.wr) ?_
 rintro _ w⟨rfl,rfl⟩
 refine RZ O<|RI O<|Ri O<|QV O<|qV (Wb U9 O)<|Q4 O<|Qj zjN O (z6W f ω ω h.wr) ?_
 rintro _ w1⟨rfl,J⟩
 have jA:=f.ext' J
 have eg:=h.ext J
 have ah:=eg.cells
 refine RR O<|QW<|Ri O<|Qz O<|QC O<|Qf z1A O<|qV (Q0 U3 O O ah O)<|Q4 O<|qV (Wb U9 O)<|Ra O<|QC O<|Qf z1A O ?_
 rw[show((0:Nat):Int)+(T.length:Int)=(T.length:Int) by omega]
 refine Qc O (S0 R8 O O O ah ξ) ?_
 rintro w2⟨ak,N⟩
 have dv:=eg.re N (show Q8 w2 wb (swC Q.s st len (.slice none 0 0) 0 T.length sum (z2u bs bx bw) false) 197 from ak)
 have eB:=jA.own N (λb e=>by rw[e];exact o.1)
 have eO:=dv.cells
 refine qM O<|Qq O<|QC O<|Qf z4k O<|qV (Q0 RO O O eO O)<|Q4 O<|Qj zfS O (zcv sum T _ i8 ω) ?_
 rintro _ w3⟨rfl,M⟩
 have sH:=Sums.zfy T i8
 obtain⟨d,gZ⟩:∃d,Sums.on sum T=d:=⟨_,O⟩
 rw[gZ] at sH⊢
 have ph:=dv.ext M
 have au:=ph.cells
 refine QC O<|Qf z4k O<|Qc O (S0 Qn O O O au ξ) ?_
 rintro G⟨aJ,R⟩
 have wG:=ph.re R (show Q8 G wb (swC Q.s st len (.slice none 0 0) 0 T.length d (z2u bs bx bw) false) 197 from aJ)
 have j3:=(eB.ext' M).own R (λb e=>by rw[e];exact o.1)
 have fx:=wG.cells
 refine PR<|QA.qb (e:=[(0,_),(1,_),(4,_)]) ?_
 refine RK O<|QC O<|Qf U6 O<|qV (Q0 RB O O fx O)<|Q4 O<|PX O O (zhO RB U9 YK O O (Sl.nil G _ 1) ω) ?_
 rintro v5 w5⟨a,D,tN⟩
 simp only[y14,y0k] at a
 replace D:Ext G w5:=D.PZ (λb e=>by cases e)
 have p:∀b,v5.ownBlock=some b->G.heap.size<=b:=λb e=>(tN b e).elim (λe=>by cases e) id
 obtain⟨a5,c5,rfl,-⟩:=a.rd.shape
 have p9:=wG.ext D
 have aG:=p9.cells
 have bS:Kp (λb=>¬X b\/b=wb) w w5:=(((J.kp.trans (N.PZ λb e=> .inr e)).trans M.kp).trans (R.PZ λb e=> .inr e)).trans D.kp
 have z4:w.heap.size<=G.heap.size:=by have:=J.size;have:=N.size;have:=M.size;have:=R.size;omega
 have a1:=aG.lt
 have a0:=hX _ o.1
 refine QC O<|Qf U6 O<|Qc O (S0 YL O O O aG ξ) ?_
 rintro P⟨aU,H⟩
 have Fx:=p9.re H (show Q8 P wb (swC Q.s st len (.slice a5 T.length c5) 0 T.length d (z2u bs bx bw) false) 197 from aU)
 have oy:Sp Q txt K (λb=>X b\/(Value.slice a5 T.length c5).ownBlock=some b) P:=(j3.ext D (λb e=>e.imp id (p b))).own H (λb e=> .inl (by rw[e];exact o.1))
 have fW:=a.kp H (λb m e=>by have:=p b m;omega)
 have nv:=Fx.cells
 have iL:=bS.trans (H.PZ λb e=>Or.inr e)
 refine qM O<|Q4 O<|QC O<|Qf Ym O<|Qf Wg O<|qV (Q0 XG O O nv O)<|Qj z5I O oy.size ?_
 rintro _ P⟨rfl,rfl⟩
 refine Qe O<|RU<|SN (α:=Nat) (0) (λk=>[(0,ptr wb 0),(6,I 512)]) (λk w'=>k<=T.length / 512/\SwI Q txt K X st len wb bs bx bw T d w k w') (λk=>T.length / 512-k) ?hI ?hround
 case hI=>exact⟨y03 _,txt,_,oy,Fx,fW,λj hj=>ω,λy hy=>rfl,iL,λb m=>by have:=p b m;omega⟩
 case hround=>
  rintro k V⟨hk,r,rest,po,ya,x,j6,Ar,W,lC⟩ ih;obtain⟨a8,c8,rfl,-⟩:=x.rd.shape;have Y:=ya.cells;have Ip:=W.size
  try dsimp only
  refine QV O<|QC O<|Qf U6 O<|qV (Q0 RB O O Y O)<|SS RB O<|Q4 O<|UL O<|PR<|Qa O (λh0=>?_)<|λh0=>?_
  ·have N7:512*k+512<=T.length:=ω
   rcases x.shape with⟨e,wV⟩|⟨gb,cc,e,FJ⟩
   ·omega
   cases e;have Mk:=lC gb O;have hg:=Ext.Qm V;have dA:((T.drop (512*k)).take 512).length=512:=by rw[y0d,y08];omega
   have G7:Rd V (.slice (some ⟨gb,0,none⟩) 512 c8) 1 ((T.drop (512*k)).take 512).length (((T.drop (512*k)).take 512).map Ua):=by
    rw[dA,y1m];exact Ws x.rd ω
   have N8:∀b,(X b\/(Value.slice (some ⟨gb,0,none⟩) (T.length-512*k) c8).ownBlock=some b)->b<V.heap.size:=λb m=>by
    rcases m with e| e
    ·have:=hX b e;omega
    ·exact x.lt e
   refine PS (PT (It (It (Qp [11,12] (λw'=>Ext V w') y00 O (R1 0 O O hg (Qs 1 O (Rs O) hg (Qs 2 O (QE z1v O) hg (qL 3 O (λ_ h=>Q0 U55 O O (h.PO Y) O) hg (R1 4 O O hg (Qs 5 O (Rs O) hg (Qs 6 O (QE U6 O) hg (qL 7 O (λ_ h=>Q0 RB O O (h.PO Y) O) hg (R1 8 O O hg ?_)))))))))))));refine Qs 9 O (zdO RB YK O O ω) hg (qL 10 O (λ_ hS=>zgv (l:=(T.drop (512*k)).take 512) RB U5 U9 O (G7.ext hS) ω) hg (U0 [11] (qO 11 (XH (i:=11) O O O (SQ zha O O) (z0j (po.ext' hg) (λb m=>by have:=N8 b m;have:=hg.size;omega) ω (ya.ext hg) ⟨.inl o.1,.inl o.2.1,.inl o.2.2.1,.inl o.2.2.2⟩ ω ((T.drop (512*k)).take 512) dA) ?_))));rintro _ w9⟨rfl,x8,BZ,aM⟩;refine⟨trivial,?_⟩;refine PV 12 O (SG O) trivial<|qE<|Qz O<|RI O ?_;have cO:=BZ.cells;have t:=hg.kp.trans aM
   have mV:=x.kp t (λb m e=>by
    rcases e with e| e
    ·exact e (.inr m)
    ·have e1:gb=b:=SJ m
     omega)
   have Iq:=t.size;refine Ri O (PY O (Qq O (QC O (Qf U6 O (qV (Q0 RB O O cO O) (Q4 O (qV (Zs RB YK O O ω ω) (PX O O (pap RB YK O ψ O O (Sl.nil w9 _ 1) (Vc (i:=512) mV.rd ω ω) (λc hc=>by obtain⟨z,-,rfl⟩:=y0g.1 (y20 hc);rfl) ω ω) ?_))))))));rintro B E⟨Z,C,cm,-⟩;rw[y14,zab,y0k,show T.length-512*k-512=T.length-512*(k+1) by omega] at Z;replace C:Ext w9 E:=C.PZ (λb e=>by cases e);have g:∀b,B.ownBlock=some b->w9.heap.size<=b:=λb e=>(cm b e).elim (λe=>by cases e) id;obtain⟨A,F,rfl,-⟩:=Z.rd.shape;have As:=BZ.ext C;have fH:=As.cells;refine QC O (Qf U6 O (Qc O (S0 YL O O O fH ξ) ?_));rintro u⟨aZ,U⟩;have G8:=As.re U (show Q8 u wb (swC Q.s st len (.slice A (T.length-512*(k+1)) F) (k+1) T.length d (z2u bs bx bw) false) 197 from aZ);have G9:Sp Q (z0C r ((st+k:Nat):Int) (some ((T.drop (512*k)).take 512))) (K+k+1) (λb=>X b\/(Value.slice A (T.length-512*(k+1)) F).ownBlock=some b) u:=(x8.ext C (λb e=>e.elim (λe=> .inl (.inl e)) (λe=> .inr (g b e)))).own U (λb e=> .inl (by rw[e];exact o.1));have tz:=Z.kp U (λb m e=>by have:=g b m;omega);refine PR<|PN ((ih (k+1) u ⟨ω,_,_,G9,G8,tz,λj hj=>?_,λy hy=>?_,?_,λb m=>by have:=g b m;omega⟩ ω).qb)
   ·by_cases e:j=k
    ·subst e;exact Th _ _ _
    ·rw[SL _ _ ω];exact j6 j ω
   ·rw[SL _ _ ω];exact Ar y ω
   ·refine(W.An t λb e=>?_).trans (C.kp.trans (U.PZ λb e=> .inr e));rcases e with e| e
    ·by_cases m:X b
     ·exact absurd (.inl m) e
     ·exact .inr (.inl m)
    ·exact .inr (.inr e)
  ·have N9:k=T.length / 512:=ω
   subst N9;refine Q7 O<|RY O<|PQ func68 O ?_;exact⟨_,O,O,d,sH,r,_,po,ya,x,j6,Ar,W,lC⟩
end
section
variable {len n:Nat}{rest:Value}
def YF (n sum:Nat):PU:=Ut 8 n++Ut 4 sum
def z4T (n sum:Nat):(YF n sum).length=12:=by simp[YF,QS]
theorem z6q (hP:Sp Q txt K (λb=>X b\/rest.ownBlock=some b) w)(hX:∀b,X b->b<w.heap.size)(hK:K<=200000000000)(h:SwM Q.s st len wb bs bx bw rest (T.length / 512) T.length sum w)(i8:sum<4294967296)(m:X wb/\X bs/\X bx/\X bw)(cb:st+len<=Q.L.length)(aw:len=(T.length+523) / 512)
  (hS:Sl w rest 5 1 (T.length%512) ((T.drop (512*(T.length / 512))).map Ua)) (D:∀b,rest.ownBlock=some b->¬X b) (j6:∀j,j<T.length / 512->txt ((st+j:Nat):Int)=(T.drop (512*j)).take 512):
  Qx prog 69 [ptr wb 0] w λv w'=>v=I 0/\∃txt',Sp Q txt' (K+2) X w'/\(∀j,512*j<T.length->∃z,txt' ((st+j:Nat):Int)=(T.drop (512*j)).take 512++z)/\(∃z,txt' ((st+(len-1):Nat):Int)=z++YF T.length sum/\z.length=500)/\(∀y:Int,y<(st:Int)\/(st:Int)+(len:Int)<=y->txt' y=txt y)/\Kp (λb=>¬X b\/b=wb) w w':=by
 have fC:maxLen=9223372036854775807:=rfl
 have eu:=hP.n
 obtain⟨E,c0,rfl,-⟩:=hS.rd.shape
 have hB:=h.cells
 have Na:∀b,(Value.slice E (T.length%512) c0).ownBlock=some b->b<w.heap.size:=λb A=>hS.lt A
 have hg:=Ext.Qm w
 refine py (e:=[(0,_)]) func69 O ntmps69 O O<|RY O<|QV O<|Qj zfJ O (ZK h.wr) ?_
 rintro _ w⟨rfl,rfl⟩
 refine RZ O<|RI O<|Ri O<|Qz O<|QC O<|Qf Ym O<|Qf Wg O<|qV (Q0 XG O O hB O)<|Qj z5I O hP.size ?_
 rintro _ w⟨rfl,rfl⟩
 refine Qe O<|It<|It<|QT (λV w'=>∃q,V=[(0,ptr wb 0),(4,I 512),(38,.bool q)]/\(q=true↔T.length / 512<len-1)/\Ext w w') ?cF<|λcF=>?ge
 case cF=>
  rintro V w1⟨q,rfl,Z,H⟩;have jA:=hP.ext' H;have h1:=h.ext H;have jU:=hS.ext H;have ah:=h1.cells;have nh:=H.size;refine QT (λV w'=>V=[(0,ptr wb 0),(4,I 512)]/\∃x d S l,Sp Q x (K+1) (λb=>X b\/d.ownBlock=some b) w'/\SwM Q.s st len wb bs bx bw d S T.length sum w'/\Sl w' d 5 1 l.length (l.map Ua)/\l.length<=500/\(∀b,d.ownBlock=some b->¬X b)/\l=T.drop (512*(len-1))/\(∀j,j<len-1->512*j<T.length->∃z,x ((st+j:Nat):Int)=(T.drop (512*j)).take 512++z)/\(∀y:Int,y<(st:Int)\/(st:Int)+(len:Int)<=y->x y=txt y)/\Kp (λb=>¬X b\/b=wb) w w') ?av<|λav=>?dO
  case av=>
   rintro V w2⟨rfl,x,d,S,l,eB,p,U,ID,F,hl,Ga,Gb,J⟩;obtain⟨a2,c2,rfl,-⟩:=U.rd.shape;have ak:=p.cells;have u:=Ext.Qm w2;have ns:=J.size;refine It (Sq (λw'=>Kp (λb=>(Value.slice a2 l.length c2).ownBlock=some b) w2 w') O (Ql 0 O O (u.kp) (PV 1 O (Rs O) (u.kp) (PV 2 O (QE U6 O) (u.kp) (qT 3 O (λ_ h=>Q0 RB O O (h.PO ak (λe=>F _ e m.1)) O) (u.kp) (Ql 4 O O (u.kp) (PV 5 O (YS O O ω) (u.kp) (Ql 6 O O (u.kp) (PV 7 O (Rs O) (u.kp) (PV 8 O (QE U6 O) (u.kp) (qT 9 O (λ_ h=>Q0 RB O O (h.PO ak (λe=>F _ e m.1)) O) (u.kp) (PV 10 O (TM RB O) (u.kp) (PV 11 O (YS O O ω) (u.kp) ?_)))))))))))));rw[show(512:Int)-12-(l.length:Int)=((500-l.length:Nat):Int) by omega];refine qO 12 (ZS (i:=12) O O O (zie RB U3 U9 YK O O (U.ext u) ω) ?_);rintro v3 w3⟨k,R,qk⟩;refine⟨u.kp.trans R,?_⟩;have At:l.length+(500-l.length)=500:=ω
   rw[At,<-y0f] at k;obtain⟨P,c3,rfl,-⟩:=k.rd.shape;have g:=u.kp.trans R
   have fj:∀b,(Value.slice P 500 c3).ownBlock=some b->¬X b:=λb A e=>by
    rcases qk b A with e2|e2
    ·exact F b e2 e
    ·have:=hX b e;have:=u.size;omega
   have fZ:Sp Q x (K+1) (λb=>X b\/(Value.slice P 500 c3).ownBlock=some b) w3:=eB.step g (λb e=> .inr e) (λb e=>e.elim (λe=> .inl (.inl e)) (λe=>(qk b e).imp .inr (λe=>by have:=u.size;omega)));have W:=p.kp g (λe=>F _ e m.1) (λe=>F _ e m.2.1) (λe=>F _ e m.2.2.1) (λe=>F _ e m.2.2.2);have a:=W.cells;have bY:Kp (λb=>¬X b\/b=wb) w w3:=J.An g (λb e=> .inr (.inl (F b e)));refine PV 13 O (SG O) (u.kp.trans R)<|qE<|RK O<|QC O<|Qf Ym O<|Qf Vx O<|Qf Sk O<|qV (Q0 U3 O O a O)<|SA O<|QC O<|Qf Zu O ?_;rw[show(len:Int)-1=((len-1:Nat):Int) by omega];refine Qc O (S0 R8 O O O a ξ) ?_;rintro M⟨aJ,C⟩;have t:=W.re C (show Q8 M wb (swC Q.s st len (.slice a2 l.length c2) (len-1) T.length sum (z2u bs bx bw) false) 197 from aJ);have j3:=fZ.own C (λb e=> .inl (by rw[e];exact m.1));have eK:=k.kp C (λb A e=>fj b A (by rw[e];exact m.1));have fx:=t.cells;have o:=Ext.Qm M;have fQ:=bY.trans (C.PZ λb e=>Or.inr e);have gV:=QS 8 T.length;have fD:=QS 4 sum;have G:(l++zeros (500-l.length)).length=500:=by rw[y01,show(zeros (500-l.length)).length=500-l.length by simp[zeros]];omega
   rw[y01] at G;refine PR<|QA.qb (e:=[(0,_),(6,_)]) ?_;refine It (Qp [20,21] (λw'=>Ext M w') y00 O (R1 0 O O o (Qs 1 O (Rs O) o (Qs 2 O (QE z1v O) o (qL 3 O (λ_ h=>Q0 U55 O O (h.PO fx) O) o (R1 4 O O o (R1 6 O O o (Qs 7 O (Rs O) o (Qs 8 O (QE z1A O) o (qL 9 O (λ_ h=>Q0 U3 O O (h.PO fx) O) o (Qs 10 O (Rz O U3 SK ω) o (R1 13 O O o (Qs 14 O (Rs O) o ?_)))))))))))));refine Qs 15 O (QE z4k O) o (qL 16 O (λ_ h=>Q0 RO O O (h.PO fx) O) o (Qs 17 O (Rz O RO SK ω) o (qL 5 O (λ_ h=>zgv (l:=l++zeros (500-l.length)) RB U5 U9 O (by rw[y01,G];exact eK.rd.ext h) (by rw[y01];omega)) o ?_)));refine RM (i:=11) y00 (S2 (i:=11) O O O (yc zfZ O) (z1d T.length 8 _ ω ω) ?_);rintro _ w5⟨rfl,N⟩;refine⟨o.trans N,?_⟩;refine Qs 12 O (Xt O O (by first|omega|(simp;done)|(simp;omega))) (o.trans N) ?_;refine RM (i:=18) y00 (S2 (i:=18) O O O (yc zfZ O) (z1d sum 4 _ ω ω) ?_);rintro _ w6⟨rfl,aR⟩;refine⟨(o.trans N).trans aR,?_⟩;have f:=(o.trans N).trans aR
   have oA:∀b,(X b\/(Value.slice P 500 c3).ownBlock=some b)->b<w6.heap.size:=λb A=>by
    have:=f.size;have:=C.size;have:=g.size;rcases A with e| e
    ·have:=hX b e;omega
    ·have:=k.lt e;omega
   refine Qs 19 O (Xt O O (by first|omega|(simp;done)|(simp;omega))) ((o.trans N).trans aR) ?_;refine U0 [20] ?_;have mh:(l++zeros (500-l.length)++Ut 8 T.length++Ut 4 sum).length=512:=by rw[y01,y01,y01,G,QS,QS]
   refine qO 20 (XH (i:=20) O O O (SQ zha O O) (z0j (j3.ext' f) oA ω (t.ext f) ⟨.inl m.1,.inl m.2.1,.inl m.2.2.1,.inl m.2.2.2⟩ ω _ mh) ?_);rintro _ w7⟨rfl,Au,h7,ay⟩;refine⟨trivial,?_⟩;have cd:=h7.cells;refine PV 21 O (SG O) trivial (qE (Qz O (QC O (Qf z08 O (Qc O (S0 Wu O O O cd ξ) ?_)))));rintro w8⟨aW,aQ⟩;have po:=(Au.own aQ (λb e=> .inl (by rw[e];exact m.1))).less (Y:=X) (λb e=> .inl e);refine PR<|QA.qb (e:=[(7,_)]) ?_;refine Qz O<|Qe O<|PQ func69 O (⟨_,O,O,_,po,λj hj=>?_,⟨l++zeros (500-l.length),?_,by rw[y01,G]⟩,λy hy=>?_,?_⟩)
   ·by_cases e:j=len-1
    ·subst e;refine⟨zeros (500-l.length)++Ut 8 T.length++Ut 4 sum,?_⟩;rw[Th];show l++_++_++_=_;rw[<-hl,y0z ω];simp only[y06]
    ·obtain⟨z,hz⟩:=Ga j ω hj;exact⟨z,by rw[SL _ _ ω];exact hz⟩
   ·rw[Th];show _++_++_=_;unfold YF;simp only[y06]
   ·rw[SL _ _ ω];exact Gb y hy
   ·refine((fQ.trans f.kp).An ay λb e=>?_).trans (aQ.PZ λb e=> .inr e);rcases e with e| e
    ·by_cases A:X b
     ·exact absurd (.inl A) e
     ·exact .inr (.inl A)
    ·exact .inr (.inr e)
  case dO=>
   refine Ru O (λB=>?_)<|λB=>?_
   ·have yP:=Z.1 B;have hr:500<T.length%512/\T.length / 512=len-2/\2<=len:=ω
    have r:=Ext.Qm w1;refine It (It (Qp [17,18] (λw'=>Kp (λb=>(Value.slice E (T.length%512) c0).ownBlock=some b) w1 w') y00 O (R1 0 O O r.kp (Qs 1 O (Rs O) r.kp (Qs 2 O (QE z1v O) r.kp (qL 3 O (λ_ h=>Q0 U55 O O (h.PO ah (λe=>D _ e m.1)) O) r.kp (R1 4 O O r.kp (Qs 5 O (Rs O) r.kp (Qs 6 O (QE U6 O) r.kp (qL 7 O (λ_ h=>Q0 RB O O (h.PO ah (λe=>D _ e m.1)) O) r.kp (R1 8 O O r.kp (R1 9 O O r.kp (Qs 10 O (Rs O) r.kp ?_)))))))))))));refine Qs 11 O (QE U6 O) r.kp (qL 12 O (λ_ h=>Q0 RB O O (h.PO ah (λe=>D _ e m.1)) O) r.kp (Qs 13 O (TM RB O) r.kp (Qs 14 O (YS O O ω) r.kp ?_)));rw[show(512:Int)-((T.length%512:Nat):Int)=((512-T.length%512:Nat):Int) by omega];refine RM (i:=15) y00 (Rp (i:=15) O O O (zie RB U3 U9 YK O O (jU.ext r) ω) ?_);rintro v2 w2⟨U,J,oV⟩;refine⟨r.kp.trans J,?_⟩;rw[show T.length%512+(512-T.length%512)=512 by omega,<-y0f] at U;have G:(T.drop (512*(T.length / 512))++zeros (512-T.length%512)).length=512:=by rw[y01,y08,show(zeros (512-T.length%512)).length=512-T.length%512 by simp[zeros]];omega
    refine RM (i:=16) y00 (zfx (i:=16) O O O (zgv (l:=T.drop (512*(T.length / 512))++zeros (512-T.length%512)) RB U5 U9 O (by rw[G];exact U.rd) ω) (r.kp.trans J) ?_);have c:=r.kp.trans J;have eB:Sp Q txt K X w2:=jA.step c (λb e=> .inr e) (λb e=> .inl (.inl e));have p:=h1.kp c (λe=>D _ e m.1) (λe=>D _ e m.2.1) (λe=>D _ e m.2.2.1) (λe=>D _ e m.2.2.2);have ns:=c.size;refine U0 [17] (qO 17 (XH (i:=17) O O O (SQ zha O O) (z0j eB (λb A=>by have:=hX b A;omega) ω p m ω _ G) ?_));rintro _ w3⟨rfl,fZ,W,R⟩;refine⟨trivial,?_⟩;have a:=W.cells;refine PV 18 O (SG O) trivial (qE (Qz O (RI O (Ri O (Sv O (QC O (Qf U6 O (Qc O (S0 YL O O O a ξ) ?_))))))));rintro M⟨aJ,C⟩;have t:=W.re C (show Q8 M wb (swC Q.s st len (.slice none 0 0) (T.length / 512+1) T.length sum (z2u bs bx bw) false) 197 from aJ);have j3:=fZ.own C (λb e=>by rw[e];exact m.1);have lh:(T.drop (512*(T.length / 512))).take 512=T.drop (512*(T.length / 512)):=y0z (by rw[y08];omega);refine PR<|QA.qb (e:=[(0,_),(4,_)]) ?_;refine(av _ _ ⟨O,_,.slice none 0 0,_,[],j3.less (λb e=>e.elim id (λe=>by cases e)),t,Sl.nil M _ 1,y03 _,(λb e=>by cases e),(y2j ω).symm,λj hj lD=>?_,λy hy=>?_,?_⟩).qb
    ·by_cases e:j=T.length / 512
     ·subst e;exact⟨zeros (512-T.length%512),by rw[Th,lh];rfl⟩
     ·exact⟨[],by rw[SL _ _ ω,y0o];exact j6 j ω⟩
    ·rw[SL _ _ ω]
    ·refine((H.kp.An c λb e=> .inr (.inl (D b e))).trans R).trans (C.PZ λb e=> .inr e)
   ·have yP:¬T.length / 512<len-1:=λe=>by rw[Z.2 e] at B;cases B
    have Nb:T.length / 512=len-1:=ω
    have fL:(T.drop (512*(T.length / 512))).length=T.length%512:=by rw[y08];omega
    refine PS ((av _ _ ⟨O,txt,.slice E (T.length%512) c0,T.length / 512,T.drop (512*(T.length / 512)),jA.more ω,h1,by rw[fL];exact jU,ω,D,by rw[Nb],λj hj lD=>⟨[],by rw[y0o];exact j6 j ω⟩,λy hy=>rfl,H.kp⟩).qb)
 case ge=>
  refine Sq (λw'=>Ext w w') O (Ql 0 O O hg (PV 1 O (Rs O) hg (PV 2 O (QE Zu O) hg (qT 3 O (λ_ h=>Q0 U3 O O (h.PO hB) O) hg (Ql 4 O O hg (PV 5 O (Rs O) hg (PV 6 O (QE Ym O) hg (PV 7 O (QE Vx O) hg (PV 8 O (QE Sk O) hg (qT 9 O (λ_ h=>Q0 U3 O O (h.PO hB) O) hg (PV 10 O (YS O O ω) hg ?_)))))))))));rw[show(len:Int)-1=((len-1:Nat):Int) by omega];rcases y0a (T.length / 512) (len-1) with Z|Z
  ·refine PV 11 O (ylt O O) hg<|Vn<|Ql 12 O O hg<|Ql 13 O O hg<|PV 14 O (Rs O) hg<|PV 15 O (QE U6 O) hg<|qT 16 O (λ_ h=>Q0 RB O O (h.PO hB) O) hg<|PV 17 O (TM RB O) hg<|PV 18 O (Zq O O) hg<|Vn<|PV 19 O (WA O O) hg<|qE<|QA.qb (e:=[(0,_),(2,_),(4,_),(38,_)]) ?_;exact(cF _ _ ⟨true,O,⟨λ_=>Z,λ_=>rfl⟩,hg⟩).qb
  ·refine PV 11 O (ylt O O) hg<|Vm<|Ql 12 O O hg<|qJ 13 O hg<|qJ 14 O hg<|qJ 15 O hg<|qJ 16 O hg<|qJ 17 O hg<|qJ 18 O hg<|PV 19 O (VF O O) hg<|qE<|QA.qb (e:=[(0,_),(2,_),(4,_),(38,_)]) ?_;exact(cF _ _ ⟨false,O,⟨λe=>(by cases e),λe=>ω⟩,hg⟩).qb
end
open Go.Shelf
def BdM (w:World)(b:Nat)(l:PU)(v:Value):Prop:=(∃p,(p= .pointer none\/p=ptr b 0)/\Q8 w b [p,v] 175)/\Sl w v 5 1 l.length (l.map Ua)/\v.ownBlock≠some b
section
variable {l:PU}{v:Value}
theorem BdM.kp (h:BdM w b l v)(j:Kp S' w w')(m:¬S' b)(o:∀g,v.ownBlock=some g->¬S' g):BdM w' b l v:=by
 obtain⟨⟨p,u,hB⟩,q,r⟩:=h
 exact⟨⟨p,u,j.PO hB m⟩,q.kp j o,r⟩
def BdM.new (h:Q8 w b [.pointer none,.slice none 0 0] 175):BdM w b [] (.slice none 0 0):=⟨⟨_,.inl O,h⟩,Sl.nil w _ 1,λe=>by cases e⟩
def Q8.shape {T:TypeId}(h:Q8 w b cs T):w.shape? b=some (T,cs.length):=by
 obtain⟨m,j,-⟩:=h
 simp[World.shape?,j]
theorem zdt (h:BdM w b l v):Qx prog 122 [ptr b 0] w λr w'=>r= .tuple #[]/\BdM w' b l v/\Kp (λk=>k=b) w w':=by
 obtain⟨⟨p,z,hB⟩,q,o⟩:=h
 rcases z with rfl|rfl
 ·refine y1P (Any.Builder_copyCheck_fresh {zgn with} zgF.toX72 b w (hB.cell 0) hB.shape (hB.free (i:=0) ξ)) λ_ _ ⟨m,j⟩=>⟨_,m,O,?_,?_⟩
  ·rw[j];have u:=UN w b 0 (ptr b 0);exact⟨⟨_,.inr O,Y1 hB 0 (ptr b 0)⟩,q.kp u (λg hg e=>o (e▸hg)),o⟩
  ·rw[j];exact UN w b 0 _
 ·exact y1P (Any.Builder_copyCheck_used {zgn with} zgF.toX72 b w (hB.cell 0)) λ_ _ ⟨m,j⟩=>⟨_,m,O,by rw[j];exact⟨⟨_,.inr O,hB⟩,q,o⟩,by rw[j];exact Kp.refl _ _⟩
theorem z6N (h:BdM w b l v)(s:PU)(H:l.length+s.length<=140737488355328):Qx prog 84 [ptr b 0,S s] w λ_ w'=>∃A,BdM w' b (l++s) A/\Kp (λk=>k=b\/v.ownBlock=some k) w w'/\(∀g,A.ownBlock=some g->v.ownBlock=some g\/w.heap.size<=g):=by
 refine py (e:=[(0,_),(1,_)]) func84 O ntmps84 O O<|qN O<|Tq O<|RZ O<|Qj zkd O (zdt h) ?_
 rintro _ w1⟨rfl,⟨⟨p,I,j⟩,J,u⟩,q⟩
 have N:=q.size
 have M:=j.lt
 refine qM O<|Qq O<|QC O<|Qf z1q O<|qV (Q0 RB O O j O)<|Q4 O<|PX O O (zhO RB U9 YK O O J H) ?_
 rintro C w2⟨o,m,D⟩
 have F:=m.PO j u
 have R:=m.size
 have z:C.ownBlock≠some b:=λe=>by
  rcases D b e with e| e
  ·exact u e
  ·omega
 refine QC O<|Qf z1q O<|Qc O (S0 YL O O (Yb o) F ξ) ?_
 rintro U⟨G,r⟩
 refine qM O<|Q4 O<|qV (Wb U9 O)<|Rw O<|PQ func84 O ?_
 rw[<-y01,<-y0f] at o
 refine⟨_,O,C,⟨⟨p,I,G⟩,o.kp r (λg hg e=>z (e▸hg)),z⟩,((q.PZ λk e=> .inl e).trans (m.PZ λk e=> .inr e)).trans (r.PZ λk e=> .inl e),λg hg=>(D g hg).imp id λe=>ω⟩
def zah (w:World)(a:Addr)(n:Nat):Kp (λk=>k=a.block) w (w.freeze a n):=by
 by_cases j:n=0
 ·subst j;rw[show w.freeze a 0=w by simp[World.freeze]];exact Kp.refl _ w
 ·unfold World.freeze;rw[if_neg j]
  exact⟨rfl,rfl,rfl,ξ,λk _ m=>by
   simp only[y37]
   rw[if_neg (λh=>m h.symm)]⟩
section
variable {e:Env}{d:Option Nat}{it:TypeId}{pos:String}{g:Option (Nat×Bool)}{x y:Operand}{n:Nat}{a:Option Addr}
def zls (m:look e x=some (.slice a n c))(h:a≠none->c≠0):Y P e ⟨d,.call ⟨.builtin .unsafeSliceData,#[x],#[t]⟩,ty,pos,aft,g⟩ (.pointer a) w w:=fun ρ o=>by
 have j:∀w,(Builtin.unsafeSliceData_ #[t] ty #[.slice a n c]).run P w= .ok (.pointer a) w:=λw=>by
  cases a with
  |none=>rfl
  |some a=>exact Lib.run_unsafeSliceData_row (P:=P) w #[t] ty a n c (h ξ)
 simp[execOp,resolve,invoke,builtin,o _ _ m,j]
theorem zlz (U:P.underlying t=some (.pointer el))(N:P.cellsOf el=1)(z:look e x=some (.pointer a))(A:look e y=some (I (l.length:Int)))(u:Sl w (.slice a l.length c) el 1 l.length (l.map Ua))(D:l.length<=9223372036854775807)(H:l=[]\/∃g,a=some ⟨g,0,none⟩):
  Yp P e ⟨d,.call ⟨.builtin .unsafeString,#[x,y],#[t,it]⟩,ty,pos,aft,g⟩ w λr w'=>r=S l/\Kp (λk=>(Value.slice a l.length c).ownBlock=some k) w w':=by
 by_cases o:l=[]
 ·subst o;have q:=Lib.run_unsafeString_none (P:=P) w t it ty a;refine⟨_,w,fun ρ h=>?_,rfl,Kp.refl _ _⟩;have J:=h _ _ z;have M:ρ y= .int .i64 0:=h _ _ A;simp[execOp,resolve,invoke,builtin,J,M,q]
  rfl
 ·obtain⟨b,rfl⟩:=H.resolve_left o;obtain⟨m,C,W,Y,F,V⟩:=u.row;have G:=y2r u (g:=b) O;simp only[y0p] at F V
  have q:=Lib.run_unsafeString_row (P:=P) w t it ty el U N b m.length (by unfold We at C;simp[World.shape?,C]) l o ω D (λj x R=>by
   have:=G j (Ua x) (by rw[y0m,R];rfl)
   exact this)
  refine⟨_,_,fun ρ h=>?_,rfl,(zah w ⟨b,0,none⟩ l.length).PZ λk e=>by rw[show k=b from e];rfl⟩;simp[execOp,resolve,invoke,builtin,h _ _ z,h _ _ A,q]
end
theorem z3X (h:BdM w b l v)(z:l=[]->v= .slice none 0 0)(D:l.length<=140737488355328):Qx prog 85 [ptr b 0] w λr w'=>r=S l/\Kp (λk=>v.ownBlock=some k) w w':=by
 obtain⟨⟨p,G,hB⟩,m,F⟩:=h
 obtain⟨a,c,rfl,C⟩:=m.rd.shape
 have hg:=Ext.Qm w
 have BT:l=[]\/∃g,a=some ⟨g,0,none⟩:=by
  rcases m.shape with⟨e,j⟩|⟨g,cap,e,j⟩
  ·exact .inl (y0w j)
  ·cases e;exact .inr ⟨g,O⟩
 have A:a≠none->c≠0:=λe=>by
  by_cases o:l=[]
  ·have:=z o
   injection this with e1 _ _
   exact absurd e1 e
  ·have H:l.length≠0:=by simpa using o
   rcases m.shape with⟨_,j⟩|⟨g,cap,u,j⟩
   ·omega
   ·cases u;omega
 refine py (e:=[(0,_)]) func85 O ntmps85 O O<|RY O<|It<|Qp [10,11] (λw'=>Ext w w') y00 O<|R1 0 O O hg<|Qs 1 O (Rs O) hg<|Qs 2 O (QE z1q O) hg<|qL 3 O (λ_ h=>Q0 RB O O (h.PO hB) O) hg<|R1 5 O O hg<|Qs 6 O (Rs O) hg<|Qs 7 O (QE z1q O) hg<|qL 8 O (λ_ h=>Q0 RB O O (h.PO hB) O) hg<|Qs 9 O (TM RB O) hg<|Qs 4 O (zls O A) hg ?_
 refine U0 [10]<|qO 10<|ZS (i:=10) O O O (zlz zlW y00 O O (m.ext hg) ω BT) ?_
 rintro _ w1⟨rfl,q⟩
 refine⟨trivial,?_⟩
 refine PV 11 O (SG O) trivial<|qE<|PQ func85 O ?_
 exact⟨_,O,O,hg.kp.trans q⟩
end
def srC (s st len n sum:Nat):List Value:=[ptr s 0,I (st:Int),I (len:Int),I (n:Int),U sum]
section
variable {len n:Nat}
theorem z8r (R:Sp Q txt K X w)(E:∀b,X b->b<w.heap.size)(B:K<1000000000000)(t:1<=len)(g:st+len<=Q.L.length)(hn:n<=len*512-12)(i8:sum<4294967296)(T:∃z,txt ((st+(len-1):Nat):Int)=z++YF n sum/\z.length=500):
  Qx prog 70 [ptr Q.s 0,.agg #[I (st:Int),I (len:Int)]] w λv w'=>∃rb,v= .tuple #[ptr rb 0,I 0]/\Q8 w' rb (srC Q.s st len n sum) 202/\w.heap.size<=rb/\Sp Q txt K (λb=>X b\/b=rb) w'/\Kp (λb=>¬X b) w w':=by
 have eu:=R.n
 obtain⟨z,hz,x⟩:=T
 have h:=z4T n sum
 refine py (e:=[(0,_),(1,_)]) func70 O ntmps70 O O<|qN O<|PX O O (Sy O (cs:=[I (st:Int),I (len:Int)]) O) ?_
 rintro _ w1⟨bx,rfl,fA,G,V⟩
 refine Tq O<|RZ O<|qV (QB (news:=[I (st:Int),I (len:Int)]) Ww O Sj O (V.cells (n:=2) O) O)<|qV (To (cs:=[_,_,_]) YX O zf9 O O)<|qV (To (cs:=[_,_,_,_,_]) zku O zkG O O)<|PX O O (Sy O (cs:=[ptr Q.s 0,I (st:Int),I (len:Int),I 0,U 0]) O) ?_
 rintro _ w2⟨rb,rfl,pO,q,r⟩
 have A:=G.trans q
 have W:=q.PO V
 have z1:=G.size
 have z2:=q.size
 have M:Sp Q txt K (λb=>X b\/b=rb) w2:=R.ext A (λb e=>e.imp id λe=>ω)
 refine Qe O<|QV O<|QC O<|Qf ZX O<|qV (QB z4W O YX O (Q8.cells (n:=3) r (news:=[_,_,_]) O) O)<|Qj zjc O (z19 M t g) ?_
 rintro _ w3⟨rfl,d⟩
 have p:=M.ext' d
 have c:=d.PO r
 have y:=d.PO W
 have z3:=d.size
 have l2:=r.lt
 have J:=p.read (λb P=>by
  rcases P with e| e
  ·have:=E b e;omega
  ·omega) B (no:=((st+(len-1):Nat):Int)) ω ω
 rw[hz] at J
 refine RZ O<|RI O<|Ri O<|Qz O<|Qf S6 O<|qV (Q0 U3 O O y O)<|Qf Sk O<|qV (Q0 U3 O O y O)<|Ra O<|SA O ?_
 rw[show(st:Int)+(len:Int)-1=((st+(len-1):Nat):Int) by omega]
 refine Qj zco O J ?_
 rintro _ w4⟨rfl,j3,H⟩
 have Z:=H.PO c (λe=>e (.inr O))
 refine Q4 O<|Tr O<|Rw O<|QA.qb (e:=[(4,_),(5,_),(6,_),(8,_),(9,_)]) ?_
 refine QV O<|RI O<|Ri O<|RK O<|qV (Wb U9 O) ?_
 rw[show((z++YF n sum).length:Int)=512 by rw[y01,h,x];rfl]
 refine SA O ?_
 rw[show(512:Int)-12=((500:Nat):Int) by omega]
 refine qV (z1l (m:=500) U9 O O (by rw[y01,h,x];omega)) ?_
 rw[show(z++YF n sum).drop 500=YF n sum from y10 x]
 refine RZ O<|qV (z3p (m:=8) U9 O O (by rw[h];omega)) ?_
 rw[show(YF n sum).take 8=Ut 8 n from y1c (QS _ _)]
 have sV:QO (Qo (Ut 8 n))=n:=z1B ω
 have Y:QO (Qo (Ut 4 sum))=sum:=z1B ω
 have gV:=QS 8 n
 have fD:=QS 4 sum
 refine Qj zfU O (z3u (Ut 8 n) ω _) ?_
 rintro _ w5⟨rfl,l⟩
 rw[sV]
 have C:=l.PO Z
 have N:=j3.ext' l
 refine Qe O<|It<|RK O<|QC O<|Qf ZX O<|qV (QB z4W O YX O (Q8.cells (n:=3) C (news:=[_,_,_]) O) O)<|Qj zfh O (z1X N ω) ?_
 rintro _ w6⟨rfl,j⟩
 have a:=j.PO C
 have oy:=N.ext' j
 refine qV (Rz O U3 SK ω)<|RR O<|QW<|PR<|QA.qb (e:=[(4,_),(5,_),(6,_),(10,_),(11,_),(54,_)]) ?_
 refine Us O<|RK O<|Q4 O<|qV (QU O SK U3 ω)<|Q4 O<|qV (z1l (m:=8) U9 O O (by rw[h];omega)) ?_
 rw[show(YF n sum).drop 8=Ut 4 sum from y10 (QS _ _)]
 refine Qj zfU O (z3u (Ut 4 sum) ω _) ?_
 rintro _ w7⟨rfl,u⟩
 rw[Y]
 have i:=u.PO a
 refine qV (z3K O SK RO)<|QC O<|Qf z1x O<|Qc O (S0 R8 O O O i ξ) ?_
 rintro w8⟨o,F⟩
 replace o:Q8 w8 rb [ptr Q.s 0,I (st:Int),I (len:Int),I (n:Int),U 0] 202:=o
 refine QC O<|Qf zf2 O ?_
 rw[y0e (show sum<2^32 by omega)]
 refine Qc O (S0 Qn O O O o ξ) ?_
 rintro w9⟨f,D⟩
 refine qM O<|Q4 O<|Rw O<|PQ func70 O ?_
 have x8:=(((oy.ext' u).own F (λb e=> .inr e)).own D (λb e=> .inr e))
 refine⟨_,O,rb,O,f,ω,x8,?_⟩
 have mI:Kp (λb=>¬X b) w w4:=((A.trans d).kp (S:=λb=>¬X b)).trans (H.PZ λb e k=>e (.inl k))
 refine(((mI.trans (l.trans (j.trans u)).kp).An F λb e=> .inl ω).An D λb e=> .inl ω)
def zbg (hB:Q8 w rb (srC Q.s st len n sum) 202):Qx prog 290 [ptr rb 0] w λv w'=>v=I (n:Int)/\w'=w:=by
 replace hB:Q8 w rb [ptr Q.s 0,I (st:Int),I (len:Int),I (n:Int),U sum] 202:=hB
 refine py (e:=[(0,_)]) func290 O ntmps290 O O<|RY O<|QV O<|qV (Rm zeH O O)<|Ri O<|Qz O<|QC O<|Qf z1x O<|qV (Q0 U3 O O hB O)<|Qe O<|PQ func290 O ?_
 exact⟨_,O,O,O⟩
theorem zc2 (D:Sp Q txt K (λb=>X b\/b=rb) w)(E:∀b,X b->b<w.heap.size)(uW:¬X rb)(k:K<1000000000000)(cb:st+len<=Q.L.length)(B:Laid txt st T)(hB:Q8 w rb (srC Q.s st len T.length sum) 202)(hT:T.length<=len*512)(off n:Nat)(ho:off+n<=T.length):
  Qx prog 291 [ptr rb 0,I (off:Int),I (n:Int)] w λv w'=>v= .tuple #[S ((T.drop off).take n),I 0]/\Sp Q txt K (λb=>X b\/b=rb) w'/\Q8 w' rb (srC Q.s st len T.length sum) 202/\Kp (λb=>¬X b) w w':=by
 have eu:=D.n
 have a1:=hB.lt
 replace hB:Q8 w rb [ptr Q.s 0,I (st:Int),I (len:Int),I (T.length:Int),U sum] 202:=hB
 refine py (e:=[(0,_),(1,_),(2,_)]) func291 O ntmps291 O O<|qN O<|Rw O<|RU<|Qz O<|qV (Rm zeH O O)<|Qe O<|PW O<|Qz O<|RT O<|QW<|Qq O<|RT O<|QW ?_
 refine R0 O<|Qq O<|Q4 O<|QC O<|Qf z1x O<|qV (Q0 U3 O O hB O)<|RR O<|QW<|R0 O<|Qq O<|Q4 O<|QC O<|Qf z1x O<|qV (Q0 U3 O O hB O) ?_
 refine Q4 O<|SA O<|RR O<|QW<|R0 O<|Qe O<|QA.qb (e:=[(0,_),(1,_),(2,_),(6,_),(7,_),(15,_)]) ?_
 refine Us O<|PN<|Qz O<|QC O<|Qf ZX O<|Qf Wg O<|qV (Q0 XG O O hB O)<|Qj z5I O D.size ?_
 rintro _ w⟨rfl,rfl⟩
 refine Sb O<|PX O O (SE (cs:=[_,_]) zfC O) ?_
 rintro _ w1⟨h,rfl,ww,z,wX⟩
 have uX:=BdM.new wX
 have z1:=z.size
 refine PR<|RU<|SN (α:=Nat×Value) (0,Value.slice none 0 0) (λy=>[(0,ptr rb 0),(1,I ((off+y.1:Nat):Int)),(2,I ((n-y.1:Nat):Int)),(8,I 512),(9,ptr h 0)]) (λy w'=>y.1<=n/\BdM w' h ((T.drop off).take y.1) y.2/\(y.1=0->y.2= .slice none 0 0)/\(∀g,y.2.ownBlock=some g->w.heap.size<=g)/\Sp Q txt K (λb=>(X b\/b=rb)\/b=h\/y.2.ownBlock=some b) w'/\Kp (λb=>¬(X b\/b=rb)) w w') (λy=>n-y.1) ?hI ?hround
 case hI=>exact⟨y03 _,uX,λ_=>rfl,λg hg=>(by cases hg),D.ext z (λb e=>e.imp id λe=>e.elim (λe=>ω) (λe=>by cases e)),z.kp⟩
 case hround=>
  rintro⟨m,v⟩ w2 ⟨P,l,G,u,r,o⟩ V;dsimp only at P l G u r V⊢;have J:=o.PO hB (λe=>e (.inr O));have hg:=Ext.Qm w2;have z2:=o.size;have a0:h<w2.heap.size:=by obtain⟨⟨p,hp,j⟩,-,-⟩:=l;exact j.lt
  have m7:∀b,((X b\/b=rb)\/b=h\/v.ownBlock=some b)->b<w2.heap.size:=λb j=>by
   rcases j with(e|e)|e| e
   ·have:=E b e;omega
   ·omega
   ·omega
   ·exact l.2.1.lt e
  try dsimp only
  refine QV O<|RR O<|PR<|Qa O (λi=>?_)<|λi=>?_
  ·obtain⟨q,hq⟩:∃q,min (n-m) (512-(off+m)%512)=q:=⟨_,O⟩;have c:=r.z0D (x:=((st+(off+m) / 512:Nat):Int)) ω ω;have W:=B.piece (off:=off+m) (n:=q) ω ω;have R:=(r.ext' hg).read (λb j=>by have:=m7 b j;have:=hg.size;omega) k (no:=((st+(off+m) / 512:Nat):Int)) ω ω;obtain⟨t,ht⟩:∃t,txt ((st+(off+m) / 512:Nat):Int)=t:=⟨_,O⟩;rw[ht] at c W R;refine PS<|PT<|It<|Sq (λw'=>Kp (λb=>¬((X b\/b=rb)\/b=h\/v.ownBlock=some b)) w2 w') O<|Ql 0 O O (hg.kp)<|PV 1 O (Rs O) (hg.kp)<|PV 2 O (QE ZX O) (hg.kp)<|PV 3 O (QE Wg O) (hg.kp)<|qT 4 O (λ_ F=>Q0 XG O O (F.PO J (λe=>e (.inl (.inr O)))) O) (hg.kp)<|Ql 5 O O (hg.kp)<|PV 6 O (Rs O) (hg.kp)<|PV 7 O (QE ZX O) (hg.kp)<|PV 8 O (QE Vx O) (hg.kp)<|PV 9 O (QE S6 O) (hg.kp) ?_;refine qT 10 O (λ_ F=>Q0 U3 O O (F.PO J (λe=>e (.inl (.inr O)))) O) (hg.kp) (Ql 11 O O (hg.kp) (Ql 12 O O (hg.kp) (PV 13 O (Yx O O ω) (hg.kp) (PV 14 O (W7 O O ω) (hg.kp) ?_))));rw[show(st:Int)+((off+m:Nat):Int) / 512=((st+(off+m) / 512:Nat):Int) by omega];refine TQ 15 O zco O (R) ?_;rintro _ Z⟨rfl,f,d⟩;refine⟨hg.kp.trans d,?_⟩;have A:=hg.kp.trans d;have uY:=l.kp A (λe=>e (.inr (.inl O))) (λg hg e=>e (.inr (.inr hg)));refine Ql 16 O O (hg.kp.trans d) (PV 17 O (SH O O) (hg.kp.trans d) (PV 18 O (SH O O) (hg.kp.trans d) (PV 19 O (SG O) (hg.kp.trans d) (PV 20 O (SG O) (hg.kp.trans d) (qE (QV O (RI O (Ri O (RK O (Q4 O (qV (yre O O ω) ?_)))))))))));rw[show((off+m:Nat):Int)%512=(((off+m)%512:Nat):Int) by omega];refine qV (z1l U9 O O ω)<|Sb O<|Qq O<|Q4 O<|qV (Wb U9 O)<|qV (ymi O O) ?_;rw[show min ((n-m:Nat):Int) ((t.drop ((off+m)%512)).length:Int)=((q:Nat):Int) by rw[y08];omega];refine qV (z3p (m:=q) U9 O O (by rw[y08];omega)) ?_;rw[W];have H:((T.drop (off+m)).take q).length=q:=by rw[y0d,y08];omega
   have i7:((T.drop off).take m).length<=m:=by rw[y0d];omega
   refine RZ O (Qj ziG O (z6N uY ((T.drop (off+m)).take q) ω) ?_);rintro _ w4⟨v4,ri,M,Y⟩;have z3:=A.size;refine qM O<|Qq O<|qV (Wb U9 O) ?_;rw[H];refine Ra O<|Qe O<|PY O<|Qq O<|qV (Wb U9 O) ?_;rw[H];refine SA O<|Qe O<|PN ?_;rw[show((off+m:Nat):Int)+(q:Int)=((off+(m+q):Nat):Int) by omega,show((n-m:Nat):Int)-(q:Int)=((n-(m+q):Nat):Int) by omega];refine(V (m+q,v4) _ ⟨by dsimp only;omega,?_,λe=>by dsimp only at e;omega,λg hg=>(Y g hg).elim (u g) (λe=>ω),?_,?_⟩ (by dsimp only;omega)).qb
   ·dsimp only;rw[y2N,y0G];exact ri
   ·exact f.step M (λb e=> .inr e) (λb e=>by
     rcases e with e|e| e
     ·exact .inl (.inl e)
     ·exact .inl (.inr (.inl e))
     ·exact(Y b e).imp (λe=> .inr (.inr e)) id)
   ·refine(o.trans (A.PZ λb e C=>e (.inl C))).An M λb e=> .inl ?_;rcases e with e| e
    ·omega
    ·exact u b e
  ·have a:m=n:=ω
   subst a;refine Q7 O (qN O (Qj zjD O (z3X l (λe=>G (by have:=congrArg List.length e;rw[y0d,y08,y1g] at this;omega)) (by rw[y0d,y08];omega)) ?_));rintro _ Z⟨rfl,d⟩;refine Rw O<|PQ func291 O ?_;have N:Kp (λb=>¬(X b\/b=rb)) w Z:=o.An d (λb e=> .inl (u b e));exact⟨_,O,O,r.step d (λb e=> .inr (.inr e)) (λb e=> .inl (.inl e)),N.PO hB (λe=>e (.inr O)),N.PZ λb e C=>e (.inl C)⟩
end
section
variable {u:Value}{R:Src t u (YQ p g E)}{x:Nat}{Y:Nat->Prop}
theorem z2V (k v:Nat)(w:World):Qx prog 116 [ptr k 0,I (v:Int)] w λr w'=>∃bk bi,r= .func (.func 152) #[] #[ptr bk 0,ptr bi 0]/\Q8 w' bk [ptr k 0] 28/\Q8 w' bi [I (v:Int)] 3/\w.heap.size<=bk/\w.heap.size<=bi/\Ext w w':=by
 refine py (e:=[(0,_),(1,_)]) func116 O ntmps116 O O<|qN O<|PX O O (Sy O (cs:=[ptr k 0]) O) ?_
 rintro _ w1⟨bk,rfl,m,d,j⟩
 refine PX O O (Sy O (cs:=[I (v:Int)]) O) ?_
 rintro _ w2⟨bi,rfl,n,h,l⟩
 refine Sb O<|qV (ymf (first:=[]) (caps:=[.tmp 2,.tmp 3]) O O)<|Qe O<|PQ func116 O ?_
 have:=d.size
 exact⟨_,O,bk,bi,O,h.PO j,l,ω,ω,d.trans h⟩
theorem z7R {l v:Nat}(jp:g.length<50)(q:v<g.length)(h:W5 R k x X w)(L:Q8 w bk [ptr k 0] 28)(sI:Q8 w bi [I (v:Int)] 3)(Z:Nat->Prop)(hZ:∀j,Z j->X j)(J:(Nat->Prop)->Nat->World->Prop)(F:World->Prop)
  (Q:∀(Y:Nat->Prop)(w':World),(∀j,X j->Y j)->(∀j,Y j->X j\/w.heap.size<=j)->W5 R k x Y w'->Kp (λj=>¬X j) w w'->J Y 0 w')
  (hround:∀(Y:Nat->Prop)(i s:Nat) (w':World),(∀j,X j->Y j)->(∀j,Y j->X j\/w.heap.size<=j)->(Qd g v)[i]? =some s->J Y i w'->z2R prog l [QL s,I 0] w' λr m=>(r= .bool true/\J Y (i+1) m/\Kp (λj=>¬Y j\/Z j) w' m)\/(r= .bool false/\F m)):
  Qx prog 152 [.func (.yield l) #[] #[],ptr bk 0,ptr bi 0] w λr w'=>r= .tuple #[]/\((∃Y,(∀j,X j->Y j)/\(∀j,Y j->X j\/w.heap.size<=j)/\J Y (Qd g v).length w')\/F w'):=by
 have W:=h.lt
 have ia:(Qd g v).length<=g.length:=by
  unfold Qd;rw[y07 q];exact h.ok.gr.len (y1s q)
 refine py (e:=[(0,_),(1,_),(2,_)]) func152 O ntmps152 O O<|qN O<|qV (Q0 U28 O O L O)<|qV (Q0 U3 O O sI O)<|Qj zjh O (z7z jp q h) ?_
 rintro _ w1⟨vv,rfl,jU,M,D,V⟩
 have C:=jU.rd
 obtain⟨a,c,rfl,ha⟩:=C.shape
 refine Q4 O<|qV (SH (v:= .slice a (Qd g v).length c) O O)<|qV (SH (v:=I 0) O O)<|Rw O<|QV O<|RI O<|Ri O<|Qz O<|SS QG O<|Q4 O<|PR<|PT ?_
 obtain⟨Y,n⟩:∃Y:Nat->Prop,(λj=>X j\/(Value.slice a (Qd g v).length c).ownBlock=some j)=Y:=⟨_,O⟩
 rw[n] at D
 have o:∀j,X j->Y j:=λj d=>by rw[<-n];exact .inl d
 have y:∀j,Y j->X j\/w.heap.size<=j:=λj d=>by
  rw[<-n] at d;exact d.imp id (M j)
 have A:∀j,(Value.slice a (Qd g v).length c).ownBlock=some j->Y j/\¬Z j:=λj d=>⟨by rw[<-n];exact .inr d,λe=>by have h2:=M j d;have h3:=W j (hZ j e);omega⟩
 refine SN (α:=Nat) (0) (λi=>[(0,.func (.yield l) #[] #[]),(19,.slice a (Qd g v).length c),(20,I ((Qd g v).length:Int)),(21,I (i:Int))]) (λi w'=>i<=(Qd g v).length/\J Y i w'/\Rd w' (.slice a (Qd g v).length c) 1 (Qd g v).length ((Qd g v).map QL)) (λi=>(Qd g v).length-i) ?hI ?hround
 case hI=>exact⟨y03 _,Q Y w1 o y D V,C⟩
 case hround=>
  rintro i w2⟨hi,G,z⟩ ih
  try dsimp only
  refine qN O<|RT O<|PR<|It<|Qa O (λhq=>?_)<|λhq=>?_
  ·obtain⟨s,H⟩:∃s,(Qd g v)[i]? =some s:=⟨_,y07 ω⟩;rcases z.2 with⟨⟨ca,cc⟩,N,wV⟩|⟨b,off,cap,N,hc⟩
   ·omega
   cases N;have B:w2.cell? ⟨b,off+i*1,none⟩=some (QL s):=hc (i*1) _ (by rw[y0p,y0m,H];rfl);refine PS (RU (qN O (qV (Rk QG Qn O O ω) (qV (QH RO O O B) (Sb O (Qq O (z7C O O (yy O O) (hround Y i s w2 o y H G) ?_)))))));rintro r w3 P;rcases P with⟨rfl,U,f⟩|⟨rfl,T⟩
   ·refine qV (Tf O)<|Ri O<|PN<|PY O<|Ra O<|Q4 O<|PR ?_;exact(ih (i+1) _ ⟨ω,U,z.kp f (λj d e=>e.elim (λe=>e (A j d).1) (A j d).2)⟩ ω).qb
   ·refine qV (Tf O)<|PR<|Qb O<|PQ func152 O ?_;exact⟨_,O,O,.inr T⟩
  ·have K:i=(Qd g v).length:=ω
   subst K;refine Q7 O<|Rj func152 O ?_;exact⟨_,O,O,.inl ⟨Y,o,y,G⟩⟩
end
structure StO (Q:Sf)(txt:Int->PU)(K st len:Nat)(T:PU):Prop where
 k:K<1000000000000
 fit:st+len<=Q.L.length
 laid:Laid txt st T
 len:T.length<=len*512
def z7j {Q:Sf}{txt:Int->PU}{K st len:Nat}{T:PU}(o:StO Q txt K st len T)(rb sum:Nat):Src 146 (ptr rb 0) T where
 inv X w:=Sp Q txt K (λb=>X b\/b=rb) w/\Q8 w rb (srC Q.s st len T.length sum) 202/\¬X rb
 fl:=290
 fr:=291
 cl:=zid
 cr:=zhy
 ml:=y00
 mr:=y00
 ext:=λh q d=>⟨h.1.ext q λb e=>e.elim (λe=>(d b e).elim (λe=> .inl (.inl e)) .inr) (λe=> .inl (.inr e)),q.PO h.2.1,λe=>(d _ e).elim h.2.2 (λe=>by have:=h.2.1.lt;omega)⟩
 step:=λh m l d=>⟨h.1.step m (λb e=> .inl (l b e)) λb e=>e.elim (λe=>(d b e).elim (λe=> .inl (.inl e)) .inr) (λe=> .inl (.inr e)),m.PO h.2.1 (λe=>h.2.2 (l _ e)),λe=>(d _ e).elim h.2.2 (λe=>by have:=h.2.1.lt;omega)⟩
 len:=λh=>(zbg (Q:=Q) h.2.1).mono λv w' ⟨j,C⟩=>⟨j,by rw[C];exact Ext.refl _⟩
 rd:=λoff n h A D=>(zc2 h.1 A h.2.2 o.k o.fit o.laid h.2.1 o.len off n D).mono λv w' ⟨j,r,y,z⟩=>⟨j,⟨r,y,h.2.2⟩,z⟩
section
variable {u:Value}{x:Nat}{S:Nat->Prop}
def W5.re {R m:Src t u (YQ p g E)}(h:W5 R k x X w)(d:Kp S w w')(l:∀j,S j->j≠k/\j≠x/\j≠1/\j≠2)(n:m.inv X w'):W5 m k x X w':=
 ⟨h.ok,d.PO h.PO (λe=>(l _ e).1 O),d.PO h.ix (λe=>(l _ e).2.1 O),h.xk,h.xx,n,λj o=>by have:=h.lt j o;have:=d.size;omega,h.x1,h.x2,d.PO h.gam (λe=>(l _ e).2.2.1 O),d.PO h.una (λe=>(l _ e).2.2.2 O)⟩
def z8p {len:Nat}(q:Ud p g E)(o:StO Q txt K st len (YQ p g E))(y:(z7j o rb sum).inv X w)(n:∀j,X j->j<w.heap.size)(x1:X 1)(x2:X 2)(r:Q8 w 1 (Tu .gamma) 314)(z:Q8 w 2 (Tu .unary) 314):
  Qx prog 71 [ptr rb 0] w λv w'=>∃k x,v= .tuple #[ptr k 0,I 0]/\w.heap.size<=k/\w.heap.size<=x/\W5 (z7j o rb sum) k x (λj=>X j\/j=x\/j=k) w'/\Kp (λj=>¬X j) w w':=by
 refine py (e:=[(0,_)]) func71 O ntmps71 O O<|qN O<|Rw O<|QV O<|qV (Rm zeH O O)<|Ri O<|Qz O<|qV (zkW zeH (λ_ h=>by cases h) rfl) ?_
 refine Qj ziQ O (z8I q (z7j o rb sum) y n) ?_
 rintro _ w1⟨k,x,rfl,l,m,D,C,G,F,d⟩
 refine Tr O<|Rw O<|PQ func71 O ?_
 have M:=d.size
 have H:=l.lt
 have J:=m.lt
 refine⟨_,O,k,x,O,C,D,⟨q,l,m,.inr (.inr O),.inr (.inl O),F,λj A=>?_,.inl x1,.inl x2,d.PO r (λe=>e x1),d.PO z (λe=>e x2)⟩,d⟩
 rcases A with e|e| e
 ·have:=n j e;omega
 ·omega
 ·omega
end
theorem zek {n:Nat}(d:1<=each):max (1:Int) (((n:Int)+(each:Int)-1) / (each:Int))=((XD n each:Nat):Int):=by
 unfold XD
 rw[show(n:Int)+(each:Int)-1=((n+each-1:Nat):Int) by omega]
 have h:((n+each-1:Nat):Int) / (each:Int)=(((n+each-1) / each:Nat):Int):=rfl
 rw[h]
 generalize (n+each-1) / each=q
 omega
section
variable {n:Nat}
abbrev shV (n width each:Nat):Value:= .agg #[I (n:Int),I (width:Int),I (each:Int)]
theorem Zr (n width each:Nat)(j:1<=each/\each<=512)(m:n<=4194304)(w:World):Qx prog 72 [shV n width each] w λv w'=>v=I (XD n each:Int)/\Ext w w':=by
 refine py (e:=[(0,_)]) func72 O ntmps72 O O<|qN O<|PX O O (Sy O (cs:=[I (n:Int),I (width:Int),I (each:Int)]) O) ?_
 rintro _ w1⟨b1,rfl,l,h,d⟩
 refine Sb O<|Qf Zw O<|qV (Q0 U3 O O d O)<|Qf WY O<|qV (Q0 U3 O O d O)<|Ra O<|SA O<|Qf WY O<|qV (Q0 U3 O O d O)<|qV (Yx O O ω)<|qV (yma O O)<|Qe O ?_
 rw[zek j.1]
 refine PQ func72 O ?_
 exact⟨_,O,O,h⟩
theorem z2v (n width each x:Nat)(r:width=1\/width=2\/width=4\/width=8)(m:x<2^(8*width))(w:World):Qx prog 75 [shV n width each,Qi x] w λv w'=>v= .bool true/\Ext w w':=by
 refine py (e:=[(0,_),(1,_)]) func75 O ntmps75 O O<|qN O<|PX O O (Sy O (cs:=[I (n:Int),I (width:Int),I (each:Int)]) O) ?_
 rintro _ w1⟨b1,rfl,o,d,h⟩
 refine Sb O<|Qf V7 O<|qV (Q0 U3 O O h O) ?_
 by_cases q:width=8
 ·refine Ss O<|SD<|Q4 O<|Sc<|Sc<|Sc<|Sh O<|Qe O<|PQ func75 O ?_;exact⟨_,O,O,d⟩
 ·have j:8*width<=32:=ω
  have l:1*2^(8*width)%18446744073709551616=2^(8*width):=by
   have:=y0t (show 0<2 by decide) j;rw[y0O,y0e ω]
  refine Ss O (QW (Qq O (Qf V7 O (qV (Q0 U3 O O h O) (qV (WB O O ω) ?_)))));rw[show(8:Int)*(width:Int)=((8*width:Nat):Int) by omega];refine qV (Sz (8*width) (2^(8*width)) O O ω O) ?_;rw[l]
  generalize 2^(8*width)=P at m⊢
  refine RT O<|SD<|R0 O<|Qe O<|PQ func75 O ?_;exact⟨_,O,O,d⟩
theorem Z5 (n width each x:Nat)(N:width<=8)(R:x<18446744073709551616)(w:World):Qx prog 77 [shV n width each,Qi x] w λv w'=>v=S (Ut width x)/\Ext w w':=by
 have J:maxLen=9223372036854775807:=rfl
 refine py (e:=[(0,_),(1,_)]) func77 O ntmps77 O O<|qN O<|PX O O (Sy O (cs:=[I (n:Int),I (width:Int),I (each:Int)]) O) ?_
 rintro _ G⟨y,rfl,V,F,h⟩
 refine Sb O<|Qf V7 O<|qV (Q0 U3 O O h O)<|PX O O (pmk (c:=width) (n:=width) RB YK O O O ω ω ω) ?_
 rintro _ w1⟨b1,rfl,⟨C,m,q⟩,-⟩
 refine Qe O<|QV O<|SS RB O<|Q4 O<|PR<|PT ?_
 rw[<-z3I x width] at q
 have U:=h.lt
 refine SN (α:=Nat) (0) (λk=>[(1,Qi x),(2,ptr y 0),(5,.slice (some ⟨b1,0,none⟩) width width),(11,I (width:Int)),(12,I (k:Int))]) (λk w'=>k<=width/\Q8 w' b1 (z2m x width k) 5/\Q8 w' y [I (n:Int),I (width:Int),I (each:Int)] 162/\Ext G w') (λk=>width-k) ?hI ?hround
 case hI=>exact⟨ω,q,m.PO h,m⟩
 case hround=>
  rintro k w2⟨M,d,j,o⟩ D
  try dsimp only
  refine qN O<|RT O<|PR<|It<|Qa O (λA=>?_)<|λA=>?_
  ·have z:k<width:=ω
   refine PS (RU (Qz O (Qe O (PY O (Qq O (Q4 O (Qf V7 O (qV (Q0 U3 O O j O) (SA O (Q4 O (SA O (qV (WB O O ω) ?_))))))))))));rw[show(8:Int)*(((width:Int)-1)-(k:Int))=((8*(width-1-k):Nat):Int) from by omega];refine qV (Vl (8*(width-1-k)) (2^(8*(width-1-k))) O O (by simp only[IntKind.bits];omega) O) ?_;refine qV (z5M O SK U5) (qV (Rk RB YK O O ω) (Qc O (S0 YK O O O d (by simp;omega)) ?_));rintro H⟨u,r⟩;rw[z6b x width k z] at u;refine PR<|PN<|PY O<|Ra O<|Q4 O<|PR ?_;exact(D (k+1) H ⟨ω,u,r.PO j ω,o.An r (λi hi=>by rw[hi,C];exact y04 _)⟩ ω).qb
  ·have:k=width:=ω
   subst this;rw[z5y] at d;refine Q7 O (Qz O (qV (z8w (l:=Ut k x) RB U5 U9 O d (by rw[y0U];exact y0z (by rw[y0n,QS];omega)) (by simp[Ut])) ?_));refine Qe O<|PQ func77 O ?_;exact⟨_,O,O,F.trans o⟩
def Ul (h:WD Q txt vb width st xs w):Qx prog 74 [ptr vb 0] w λv w'=>v=I 0/\w'=w:=by
 have hB:=h.cells
 refine py (e:=[(0,_)]) func74 O ntmps74 O O<|RY O<|RU<|Qz O<|qV (Rm z3k O O)<|Qe O<|PW O<|Qz O<|QC O<|Qf z8Q O<|qV (Q0 U4 O O hB O)<|Qe O<|Us O<|PN ?_
 refine RY O<|PQ func74 O ?_
 exact⟨_,O,O,O⟩
theorem z6H (h:WD Q txt vb width st xs w)(hi:i<xs.length)(D:Q.L.length<=4096):Qx prog 87 [ptr vb 0,I (i:Int)] w λv w'=>v= .tuple #[I ((st+i / (512 / width):Nat):Int),I ((i%(512 / width)*width:Nat):Int)]/\Ext w w':=by
 have hB:=h.cells
 have hg:=Ext.Qm w
 obtain⟨x,y,z,A,C⟩:=h.e
 obtain⟨o,a2,u⟩:=h.at_ hi
 have F:=h.n
 have l:((i:Nat):Int) / ((512 / width:Nat):Int)=((i / (512 / width):Nat):Int):=rfl
 have m:((i:Nat):Int)%((512 / width:Nat):Int)=((i%(512 / width):Nat):Int):=rfl
 have d:((i%(512 / width):Nat):Int)*(width:Int)=((i%(512 / width)*width:Nat):Int):=by rw[y1y]
 have j:(st:Int)+((i / (512 / width):Nat):Int)=((st+i / (512 / width):Nat):Int):=by rw[Int.natCast_add]
 generalize i / (512 / width)=q at*
 generalize i%(512 / width)=r at*
 generalize 512 / width=each at*
 refine py (e:=[(0,_),(1,_)]) func87 O ntmps87 O O<|qN O<|Rw O<|It<|Sq (λw'=>Ext w w') O<|Ql 0 O O hg<|PV 1 O (Rs O) hg<|PV 2 O (QE z0c O) hg<|PV 3 O (QE S6 O) hg<|qT 4 O (λ_ h=>Q0 U3 O O (h.PO hB) O) hg<|Ql 5 O O hg<|Ql 6 O O hg<|PV 7 O (Rs O) hg<|PV 8 O (QE Sn O) hg ?_
 refine PV 9 O (QE WY O) hg<|qT 10 O (λ_ h=>Q0 U3 O O (h.PO hB) O) hg<|Ql 13 O O hg<|Ql 14 O O hg<|PV 15 O (Rs O) hg<|PV 16 O (QE Sn O) hg<|PV 17 O (QE WY O) hg<|qT 18 O (λ_ h=>Q0 U3 O O (h.PO hB) O) hg<|Ql 20 O O hg<|PV 21 O (Rs O) hg<|PV 22 O (QE Sn O) hg<|PV 23 O (QE V7 O) hg<|qT 24 O (λ_ h=>Q0 U3 O O (h.PO hB) O) hg<|PV 11 O (Yx O O ω) hg ?_
 rw[l]
 refine PV 12 O (W7 O O ω) hg<|PV 26 O (SG O) hg ?_
 rw[j]
 refine PV 19 O (yre O O ω) hg ?_
 rw[m]
 refine PV 25 O (WB O O (by rw[d];omega)) hg ?_
 rw[d]
 refine PV 27 O (SG O) hg<|qE<|QA.qb (e:=[(4,_),(5,_)]) ?_
 refine PQ func87 O ?_
 exact⟨_,O,O,hg⟩
end
section
variable {n:Nat}
theorem WD.zer (h:WD Q txt vb width st xs w){x:Nat}(hi:xs[i]? =some x):x<2^(8*width)/\x<18446744073709551616:=by
 have d:=(h.t i x hi).2
 have:=y0t (show 0<2 by decide) (show 8*width<=64 by have:=h.e;omega)
 exact⟨d,ω⟩
theorem z3A (l:Sp Q txt K X w)(E:∀b,X b->b<w.heap.size)(B:K<1000000000000)(d:WD Q txt vb width st xs w)(Z:X vb){x:Nat}(hi:xs[i]? =some x):
  Qx prog 55 [ptr vb 0,I (i:Int)] w λv w'=>v= .tuple #[Qi x,I 0]/\Sp Q txt K X w'/\Kp (λb=>¬X b) w w':=by
 have f:=l.n
 have z:i<xs.length:=by
  rcases y0a i xs.length with h| h
  ·exact h
  ·rw[y0v h] at hi;cases hi
 have uR:=z6H d z f
 obtain⟨y,a2,a3⟩:=d.at_ z
 have u:=(d.t i x hi).1
 have T:=(d.zer hi).1
 have V:=l.z0D (x:=((st+i / (512 / width):Nat):Int)) (y2y _) (y30.2 y)
 have iW:=d.n
 have Pq:=d.e.2.2.2.2
 have J:∀w1,Ext w w1->Qx prog 83 [ptr Q.s 0,I ((st+i / (512 / width):Nat):Int)] w1 λv w'=>v= .tuple #[S (txt ((st+i / (512 / width):Nat):Int)),I 0]/\Sp Q txt K X w'/\Kp (λb=>¬X b) w1 w':=λw1 j=>(l.ext' j).read (λb L=>by have:=E b L;have:=j.size;omega) B (y2y _) (y30.2 y)
 generalize i / (512 / width)=q at*
 generalize i%(512 / width)=r at*
 generalize ho:r*width=o at*
 obtain⟨t,ht⟩:∃t,txt ((st+q:Nat):Int)=t:=⟨_,O⟩
 rw[ht] at u V J
 have hB:=d.cells
 refine py (e:=[(0,_),(1,_)]) func55 O ntmps55 O O<|qN O<|Rw O<|QV O<|Qj zbu O (Ul d) ?_
 rintro _ w⟨rfl,rfl⟩
 refine RZ O<|RI O<|Ri O<|QV O<|RT O<|QW<|Qq O<|Q4 O<|QC O<|Qf Sn O<|Qf Zw O<|qV (Q0 U3 O O hB O)<|UL O<|QW ?_
 refine R0 O<|Ri O<|RK O<|Qj zjk O uR ?_
 rintro _ w1⟨rfl,j⟩
 have A:=j.PO hB
 refine Q4 O<|Tr O<|Rw O<|QA.qb (e:=[(0,_),(4,_),(5,_),(7,_),(8,_)]) ?_
 refine Qz O<|QC O<|Qf X8 O<|qV (Q0 XG O O A O)<|Q4 O<|Qj zco O (J w1 j) ?_
 rintro _ w2⟨rfl,Y,D⟩
 have N:=D.PO A (λe=>e Z)
 refine Q4 O<|Tr O<|Rw O<|QV O<|RI O<|Ri O<|RY O<|It<|RK O<|Qq O<|QC O<|Qf Sn O<|Qf V7 O<|qV (Q0 U3 O O N O) ?_
 refine Ra O ?_
 rw[show(o:Int)+(width:Int)=((o+width:Nat):Int) by omega]
 refine qV (zgq (m:=o) (n:=o+width) U9 O O O ω) ?_
 rw[show o+width-o=width by omega,u]
 have g:=QS width x
 obtain⟨s,H⟩:∃s,Ut width x=s:=⟨_,O⟩
 have a:QO (Qo s)=x:=by rw[<-H];exact z1B T
 rw[H] at g⊢
 refine PX O O (zcy U9 RB U5 O) ?_
 rintro _ w3⟨b7,c7,rest,rfl,⟨lu,C,R⟩,E6⟩
 refine SS RB O<|Q4 O<|PR<|QA.qb (e:=[(4,_),(5,_),(11,_),(58,_),(59,_),(60,_)]) ?_
 refine PT<|SN (α:=Nat) (0) (λi=>[(11,Qi (QO (Qo (s.take i)))),(58,.slice (some ⟨b7,0,none⟩) s.length c7),(59,I (s.length:Int)),(60,I (i:Int))]) (λi w'=>w'=w3/\i<=s.length) (λi=>s.length-i) ?hI ?hround
 case hI=>exact⟨O,y03 _⟩
 case hround=>
  rintro i w4⟨rfl,hi⟩ P
  try dsimp only
  refine qN O<|RT O<|PR<|It<|Qa O (λk=>?_)<|λk=>?_
  ·obtain⟨c,G⟩:∃c,s[i]? =some c:=⟨_,y07 ω⟩;have f7:=c.toNat_lt;have F:=z2L G
   have M:QO (Qo (s.take i))<72057594037927936:=by
    have p:=Se (Qo (s.take i));rw[bitsT_length,y0d] at p;have h2:2^(8*min i s.length)<=2^56:=y0t ψ ω;omega
   have U:w4.cell? ⟨b7,0+i*1,none⟩=some (Ua c):=by
    rw[R.cell,y0k,y0p,y0K (by rw[y0n];omega),y0m,G];rfl
   refine PS<|RU<|qN O<|qV (Rk RB YK O O ω)<|qV (QH U5 O O U) ?_
   generalize QO (Qo (s.take i))=q at F M
   refine Qe O<|Sv O<|qV (Sz 8 256 O O ψ O)<|Q4 O<|qV (z4O O U5 SK ψ)<|qV (z2G O O ω ω) ?_
   have oX:(q*256%18446744073709551616 |||c.toNat)=QO (Qo (s.take (i+1))):=by
    rw[F,y0e ω,y0E q];exact(y24 (i:=8) f7 q).symm
   rw[oX];refine Qe O<|PN<|PY O<|Ra O<|Q4 O<|PR ?_;exact(P (i+1) _ ⟨O,ω⟩ ω).qb
  ·have W:i=s.length:=ω
   subst W;rw[y0L,a];refine Q7 O<|Qz O<|Rw O<|PQ func55 O ?_;exact⟨_,O,O,Y.ext' C,(j.kp.trans D).trans C.kp⟩
theorem zbk (M:Sp Q txt K X w)(Z:∀b,X b->b<w.heap.size)(Y:K<1000000000000)(l:WD Q txt vb width st xs w)(u:X vb){x:Nat}(hi:i<xs.length)(a:x<2^(8*width)):
  Qx prog 114 [ptr vb 0,I (i:Int),Qi x] w λv w'=>v=I 0/\VcW Q txt (K+1) X vb width st (xs.set i x) w w':=by
 have eu:=M.n
 have uR:∀w1,Ext w w1->Qx prog 87 [ptr vb 0,I (i:Int)] w1 λv w'=>v= .tuple #[I ((st+i / (512 / width):Nat):Int),I ((i%(512 / width)*width:Nat):Int)]/\Ext w1 w':=λw1 j=>z6H (l.ext j) hi eu
 obtain⟨G,a2,a3⟩:=l.at_ hi
 obtain⟨e1,e2,e3,e4,e5⟩:=l.e
 have mJ:x<18446744073709551616:=by
  have:=y0t (show 0<2 by decide) (show 8*width<=64 by omega);omega
 have V:=M.z0D (x:=((st+i / (512 / width):Nat):Int)) (y2y _) (y30.2 G)
 have iW:=l.n
 obtain⟨t,ht⟩:∃t,txt ((st+i / (512 / width):Nat):Int)=t:=⟨_,O⟩
 have c:=l.t.set ω a hi ht (by rw[ht] at V;omega)
 have g:∀w1,Ext w w1->Qx prog 83 [ptr Q.s 0,I ((st+i / (512 / width):Nat):Int)] w1 λv w'=>v= .tuple #[S (txt ((st+i / (512 / width):Nat):Int)),I 0]/\Sp Q txt K X w'/\Kp (λb=>¬X b) w1 w':=λw1 j=>(M.ext' j).read (λb z=>by have:=Z b z;have:=j.size;omega) Y (y2y _) (y30.2 G)
 have D:(xs.set i x).length=xs.length:=ξ
 have hB:=l.cells
 have k:=l.wd
 have T:=l.fit
 rw[ht] at V g
 have uZ:∀w',Q8 w' vb [I (xs.length:Int),I (width:Int),I ((512 / width:Nat):Int),I (st:Int),I (XD xs.length (512 / width):Int),ptr Q.s 0,.bool false] 164->WD Q (z0C txt ((st+i / (512 / width):Nat):Int) (some (t.take (i%(512 / width)*width)++Ut width x++t.drop (i%(512 / width)*width+width)))) vb width st (xs.set i x) w':=λw' z=>⟨by rw[D];exact z,k,c,by rw[D];exact iW,by rw[D];exact T⟩
 clear c
 have lR:st+i / (512 / width)<Q.L.length:=G
 generalize i / (512 / width)=q at*
 generalize i%(512 / width)=r at*
 generalize ho:r*width=o at*
 have W:=QS width x
 have pu:(t.take o++Ut width x++t.drop (o+width)).length=512:=by rw[y01,y01,y0d,y08,W];omega
 refine py (e:=[(0,_),(1,_),(2,_)]) func114 O ntmps114 O O<|RY O<|QV O<|Qj zbu O (Ul l) ?_
 rintro _ w⟨rfl,rfl⟩
 refine RZ O<|RI O<|Ri O<|QV O<|RT O<|QW<|Qq O<|Q4 O<|QC O<|Qf Sn O<|Qf Zw O<|qV (Q0 U3 O O hB O)<|UL O<|QW ?_
 refine R0 O<|Qq O<|QC O<|Qf Sn O<|qV (QB z1Q O ZJ O (Q8.cells (n:=3) hB (news:=[_,_,_]) O) O)<|Q4 O<|Qj zjb O (z2v xs.length width (512 / width) x k a w) ?_
 rintro _ w1⟨rfl,j⟩
 have P:=j.PO hB
 refine qV (Tf O)<|R0 O<|PR<|QA.qb (e:=[(0,_),(1,_),(2,_),(6,_),(36,_)]) ?_
 refine Us O<|RK O<|Qj zjk O (uR w1 j) ?_
 rintro _ w2⟨rfl,H⟩
 have N:=H.PO P
 refine Q4 O<|Tr O<|Tq O<|RZ O<|QC O<|Qf X8 O<|qV (Q0 XG O O N O)<|Q4 O<|Qj zco O (g w2 (j.trans H)) ?_
 rintro _ F⟨rfl,fZ,R⟩
 have C:=R.PO N (λe=>e u)
 have d:=Ext.Qm F
 have U:Kp (λb=>¬X b) w F:=(j.trans H).kp.trans R
 have E:(t.take o).length=o:=by rw[y0d];omega
 have B:(t.drop (o+width)).length=512-(o+width):=by rw[y08];omega
 refine Q4 O<|Tr O<|Rw O<|QV O<|RI O<|PR<|QA.qb (e:=[(0,_),(2,_),(6,_),(8,_),(9,_),(10,_),(11,_),(53,_)]) ?_
 refine Us O<|It<|Sq (λw'=>Kp (λb=>¬X b) F w') O<|Ql 0 O O d.kp<|PV 1 O (Rs O) d.kp<|PV 2 O (QE X8 O) d.kp<|qT 3 O (λ_ h=>Q0 XG O O (h.PO C (λe=>e u)) O) d.kp<|Ql 4 O O d.kp<|Ql 5 O O d.kp<|Ql 6 O O d.kp<|PV 7 O (z3p U9 O O ω) d.kp<|Ql 8 O O d.kp<|PV 9 O (Rs O) d.kp<|PV 10 O (QE Sn O) d.kp ?_
 refine qT 11 O (λ_ hS=>QB z1Q O ZJ O (Q8.cells (n:=3) (hS.PO C (λe=>e u)) (news:=[_,_,_]) O) O) d.kp<|Ql 12 O O d.kp<|Ql 15 O O d.kp<|Ql 16 O O d.kp<|Ql 17 O O d.kp<|PV 18 O (Rs O) d.kp<|PV 19 O (QE Sn O) d.kp<|PV 20 O (QE V7 O) d.kp<|qT 21 O (λ_ h=>Q0 U3 O O (h.PO C (λe=>e u)) O) d.kp<|PV 22 O (W7 O O ω) d.kp ?_
 rw[show(o:Int)+(width:Int)=((o+width:Nat):Int) by omega]
 refine PV 23 O (z1l U9 O O ω) d.kp<|TQ 13 O zh4 O (Z5 _ _ _ x e5 mJ _) ?_
 rintro _ w4⟨rfl,A⟩
 refine⟨d.kp.trans A.kp,?_⟩
 have m:=d.trans A
 refine PV 14 O (Xt O O (by first|omega|(simp;done)|(simp;omega))) (d.kp.trans A.kp) ?_
 refine PV 24 O (Xt O O (by rw[y01,E,W,B];omega)) (d.kp.trans A.kp) ?_
 refine TQ 25 O zdi O ((fZ.ext' m).write (λb z=>by have:=Z b z;have:=U.size;have:=m.size;omega) Y (no:=((st+q:Nat):Int)) ω ω _ pu) ?_
 rintro _ p⟨rfl,gX,J⟩
 refine⟨m.kp.trans J,?_⟩
 have f:Kp (λb=>¬X b) F p:=m.kp.trans J
 refine PV 26 O (SG O) (m.kp.trans J)<|qE<|QA.qb (e:=[(6,_)]) ?_
 refine PQ func114 O ?_
 exact⟨_,O,O,_,gX,uZ p (f.PO C (λe=>e u)),λy hy=>SL _ _ (by rw[D] at hy;omega),U.trans f⟩
end
section
variable {n:Nat}
theorem z0R (Y:Sp Q txt K X w)(hX:∀b,X b->b<w.heap.size)(hK:K<=900000000000)(u:WD Q txt vb width st xs w)(r:X vb)(pF:CF prog f)(caps:List Value)(PO:Nat->PU)(L:∀b,(PO b).length<=512)
  (Z:∀(b:Nat)(w1:World),b<XD xs.length (512 / width)->Kp (λb=>¬X b) w w1->Qx prog f ([I (b:Int)]++caps) w1 λv w2=>v=S (PO b)/\Ext w1 w2):
  Qx prog 78 [ptr vb 0,.func (.func f) #[] caps.toArray] w λv w'=>v=I 0/\∃txt',Sp Q txt' (K+XD xs.length (512 / width)) X w'/\Kp (λb=>¬X b) w w'/\(∀b,b<XD xs.length (512 / width)->txt' ((st+b:Nat):Int)=PO b++zeros (512-(PO b).length))/\(∀y:Int,y<(st:Int)\/(st:Int)+(XD xs.length (512 / width):Int)<=y->txt' y=txt y):=by
 have fC:maxLen=9223372036854775807:=rfl
 have eu:=Y.n
 have hB:=u.cells
 have P:=u.fit
 have iW:=u.n
 obtain⟨e1,T,e3,e4,e5⟩:=u.e
 have g:=Zr xs.length width (512 / width) ⟨ω,T⟩ iW w
 obtain⟨N,hN⟩:∃N,XD xs.length (512 / width)=N:=⟨_,O⟩
 rw[hN] at hB P g Z⊢
 refine py (e:=[(0,_),(1,_)]) func78 O ntmps78 O O<|RY O<|QV O<|QC O<|Qf Sn O<|qV (QB z1Q O ZJ O (Q8.cells (n:=3) hB (news:=[_,_,_]) O) O)<|Qj zjn O g ?_
 rintro _ w1⟨rfl,R⟩
 refine Q4 O<|PR<|PT<|SN (α:=Nat) (0) (λk=>[(0,ptr vb 0),(1,.func (.func f) #[] caps.toArray),(12,I (N:Int)),(13,I (k:Int))]) (λk w'=>k<=N/\Kp (λb=>¬X b) w w'/\∃txt',Sp Q txt' (K+k) X w'/\(∀b,b<k->txt' ((st+b:Nat):Int)=PO b++zeros (512-(PO b).length))/\(∀y:Int,y<(st:Int)\/(st:Int)+(k:Int)<=y->txt' y=txt y)) (λk=>N-k) ?hI ?hround
 case hI=>exact⟨y03 _,R.kp,txt,Y.ext' R,λb G=>ω,λy _=>rfl⟩
 case hround=>
  rintro k w2⟨hk,q,o,V,J,W⟩ ih;have E:=q.PO hB (λe=>e r)
  try dsimp only
  refine qN O<|RT O<|PR<|It<|Qa O (λh0=>?_)<|λh0=>?_
  ·have z:k<N:=ω
   refine PS<|RU<|Qz O<|Sb O<|Qq O<|S5 O O (SQ pF O O) (Z k w2 z q) ?_;rintro _ x⟨rfl,C⟩;have D:=C.PO E;have F:=V.ext' C;have d:=Ext.Qm x;have hl:=L k;have U:=q.trans C.kp;obtain⟨t,ht⟩:∃t,PO k=t:=⟨_,O⟩;rw[ht] at hl⊢;have H:(zeros (512-t.length)).length=512-t.length:=by simp[zeros]
   have cM:=F.size;have p:∀m,Ext x m->Qx prog 65 [ptr Q.s 0] m λv w'=>v=I 512/\w'=m:=λm hx=>(F.ext' hx).size;refine Qe O (It (Sq (λw'=>Kp (λb=>¬X b) x w') O (Ql 0 O O d.kp (PV 1 O (Rs O) d.kp (PV 2 O (QE X8 O) d.kp (qT 3 O (λ_ h=>Q0 XG O O (h.PO D (λe=>e r)) O) d.kp (Ql 4 O O d.kp (PV 5 O (Rs O) d.kp (PV 6 O (QE z0c O) d.kp (PV 7 O (QE S6 O) d.kp (qT 8 O (λ_ h=>Q0 U3 O O (h.PO D (λe=>e r)) O) d.kp (Ql 9 O O d.kp (PV 10 O (W7 O O ω) d.kp ?_)))))))))))));refine Ql 11 O O d.kp<|Ql 12 O O d.kp<|PV 13 O (Rs O) d.kp<|PV 14 O (QE X8 O) d.kp<|qT 15 O (λ_ h=>Q0 XG O O (h.PO D (λe=>e r)) O) d.kp<|Ql 17 O O d.kp<|PV 18 O (Wb U9 O) d.kp<|TQ 16 O z5I O (p _ d) ?_;rintro _ m⟨rfl,rfl⟩;refine⟨d.kp,?_⟩;refine PV 19 O (YS O O ω) d.kp ?_;rw[show(512:Int)-(t.length:Int)=((512-t.length:Nat):Int) by omega];refine qO 20 (ZS (i:=20) O O O (pmk (c:=512-t.length) (n:=512-t.length) RB YK O O O ω ω ω) ?_);rintro _ m⟨b4,rfl,⟨fD,M,B⟩,-⟩;refine⟨d.kp.trans M.kp,?_⟩;have j:=d.trans M;refine qO 21 (zhe (i:=21) O O O (z8w (l:=zeros (512-t.length)) RB U5 U9 O B (z0P _) H) j.kp (PV 22 O (Xt O O (by rw[H];omega)) j.kp ?_));have pu:(t++zeros (512-t.length)).length=512:=by rw[y01,H];omega
   rw[show(st:Int)+(k:Int)=((st+k:Nat):Int) by omega];refine TQ 23 O zdi O ((F.ext' j).write (λb G=>by have:=hX b G;have:=U.size;have:=j.size;omega) ω (no:=((st+k:Nat):Int)) ω ω _ pu) ?_;rintro _ a⟨rfl,gX,A⟩;refine⟨j.kp.trans A,?_⟩;have jC:Kp (λb=>¬X b) x a:=j.kp.trans A;refine PV 24 O (SG O) (j.kp.trans A)<|qE<|Qz O<|RI O<|Ri O<|PN<|PY O<|Ra O<|Q4 O<|PR ((ih (k+1) a ⟨ω,U.trans jC,_,gX,λb G=>?_,λy hy=>?_⟩ ω).qb)
   ·by_cases e:b=k
    ·subst e;rw[Th,ht];rfl
    ·rw[SL _ _ ω];exact J b ω
   ·rw[SL _ _ ω];exact W y ω
  ·have z:k=N:=ω
   subst z;refine Q7 O<|RY O<|PQ func78 O ?_;exact⟨_,O,O,o,V,q,J,W⟩
theorem z64 (l:PU):∀n,((List.replicate n l).flatten).length=n*l.length
 |0=>ξ
 |n+1=>by rw[y19,y3c,y01,z64 l n,y0q];omega
def z5t {bf:Nat}(b:Nat)(hB:Q8 w bf [S s] 9):Qx prog 79 ([I (b:Int)]++[ptr bf 0]) w λv w2=>v=S s/\Ext w w2:=by
 show Qx _ _ [I (b:Int),ptr bf 0] _ _
 refine py (e:=[(0,_),(1,_)]) func79 O ntmps79 O O<|qN O<|Sb O<|qV (Q0 U9 O O hB O)<|Qe O<|PQ func79 O ?_
 exact⟨_,O,O,Ext.refl _⟩
theorem Z3 (hP:Sp Q txt K X w)(hX:∀b,X b->b<w.heap.size)(T:K<=900000000000)(z:WD Q txt vb width st xs w)(f:X vb){x:Nat}(g:x<2^(8*width)):
  Qx prog 43 [ptr vb 0,Qi x] w λv w'=>v=I 0/\VcW Q txt (K+XD xs.length (512 / width)) X vb width st (List.replicate xs.length x) w w':=by
 have hB:=z.cells
 have iW:=z.n
 obtain⟨e1,a,B,e4,c⟩:=z.e
 have p:x<18446744073709551616:=by
  have:=y0t (show 0<2 by decide) (show 8*width<=64 by omega);omega
 have L:=QS width x
 have mh:(List.replicate (512 / width) (Ut width x)).flatten.length=512:=by
  rw[z64,L];exact B
 refine py (e:=[(0,_),(1,_)]) func43 O ntmps43 O O<|RY O<|QV O<|Qj zbu O (Ul z) ?_
 rintro _ w⟨rfl,rfl⟩
 refine RZ O<|RI O<|Ri O<|QV O<|QC O<|Qf Sn O<|qV (QB z1Q O ZJ O (Q8.cells (n:=3) hB (news:=[_,_,_]) O) O)<|Q4 O<|Qj zjb O (z2v xs.length width (512 / width) x z.wd g w) ?_
 rintro _ w1⟨rfl,A⟩
 have W:=A.PO hB
 have t:=Ext.Qm w1
 refine qV (Tf O)<|Ri O<|It<|QT (λZ w'=>∃bf,Z=[(0,ptr vb 0),(6,ptr bf 0)]/\Q8 w' bf [S (List.replicate (512 / width) (Ut width x)).flatten] 9/\Ext w1 w'/\w1.heap.size<=bf) ?bF<|λbF=>?du
 case bF=>
  rintro Z w2⟨bf,rfl,Y,V,N⟩;have R:=A.trans V;have nh:=A.size;have E:Sp Q txt K (λb=>X b\/b=bf) w2:=hP.ext R (λb e=>e.imp id λe=>ω);have a0:=Y.lt;have hw:=z0R E (λb hb=>by rcases hb with e|e;(have:=hX b e;have:=R.size;omega);omega) T (z.ext R) (.inl f) zmb [ptr bf 0] (λ_=>(List.replicate (512 / width) (Ut width x)).flatten) (λ_=>by rw[mh];omega) (λb s _ U=>z5t b (U.PO Y (λe=>e (.inr O))));refine Qz O<|qV (ymf (first:=[]) (caps:=[.tmp 6]) O O)<|Qj zir O (hw) ?_;rintro _ s⟨rfl,F,P,U,qm,rj⟩;refine Qe O<|PQ func43 O ?_;have u:Kp (λb=>¬X b) w1 s:=V.kp.trans (U.PZ λb e a=>e (.inl a));have M:(List.replicate xs.length x).length=xs.length:=y0b;refine⟨_,O,O,F,P.less (λb e=> .inl e),⟨?_,z.wd,VcT.fill g ω (λi hi=>?_),by rw[M];exact iW,by rw[M];exact z.fit⟩,λy k=>rj y (by rw[M] at k;exact k),A.kp.trans u⟩
  ·rw[M];exact(A.kp.trans u).PO hB (λe=>e f)
  ·have qR:=z0z (each:=512 / width) ω hi;exact⟨_,qm _ qR⟩
 case du=>
  have d:=t;have l:=d.size;refine Qp [13] (λw'=>Ext w1 w') y00 O<|R1 0 O O d<|Qs 1 O (Rs O) d<|Qs 2 O (QE Sn O) d<|qL 3 O (λ_ h=>QB z1Q O ZJ O (Q8.cells (n:=3) (h.PO W) (news:=[_,_,_]) O) O) d<|R1 4 O O d<|R1 6 O O d<|Qs 7 O (Rs O) d<|Qs 8 O (QE Sn O) d<|Qs 9 O (QE WY O) d<|qL 10 O (λ_ h=>Q0 U3 O O (h.PO W) O) d<|Wp (i:=5) (j:=12) y00 ?_ ?_
  ·refine S2 (i:=5) O O O (yc zh4 O) (Z5 _ _ _ x c p _) ?_;rintro _ w5⟨rfl,r⟩;refine⟨d.trans r,?_⟩;have d:=d.trans r
   try have m:=r.PO m
   have l:=y0c l r.size;refine Wp (i:=11) (j:=12) y00 ?_ ?_
   ·refine S2 (i:=11) O O O (yc zgX O) (z0g (Ut width x) (512 / width) ω ω _) ?_;rintro _ G⟨rfl,o⟩;refine⟨d.trans o,?_⟩;have d:=d.trans o
    try have m:=o.PO m
    have l:=y0c l o.size;refine RM (i:=12) y00<|Rp (i:=12) O O O (SE (cs:=[_]) ti9 O) ?_;rintro _ H⟨bf,rfl,N,q,m⟩;refine⟨d.trans q,?_⟩;have d:=d.trans q;have D:w1.heap.size<=bf:=ω
    have l:=y0c l q.size;refine U0 [13] (qO 13 (QQ (i:=13) O O (S0 ti9 O O O m ξ) ?_));rintro J⟨C,u⟩;refine⟨trivial,?_⟩;refine qE<|QA.qb (e:=[(0,_),(4,_),(6,_)]) ?_;exact(bF _ _ ⟨bf,O,C,d.An u (λj e=>ω),D⟩).qb
   ·refine Rp (i:=12) O O O (SE (cs:=[_]) ti9 O) ?_;rintro _ H⟨bf,rfl,N,q,m⟩;refine⟨d.trans q,?_⟩;have d:=d.trans q;have D:w1.heap.size<=bf:=ω
    have l:=y0c l q.size;refine RM (i:=11) y00 (S2 (i:=11) O O O (yc zgX O) (z0g (Ut width x) (512 / width) ω ω _) ?_);rintro _ G⟨rfl,o⟩;refine⟨d.trans o,?_⟩;have d:=d.trans o
    try have m:=o.PO m
    have l:=y0c l o.size;refine U0 [13] (qO 13 (QQ (i:=13) O O (S0 ti9 O O O m ξ) ?_));rintro J⟨C,u⟩;refine⟨trivial,?_⟩;refine qE<|QA.qb (e:=[(0,_),(4,_),(6,_)]) ?_;exact(bF _ _ ⟨bf,O,C,d.An u (λj e=>ω),D⟩).qb
  ·refine Rp (i:=12) O O O (SE (cs:=[_]) ti9 O) ?_;rintro _ H⟨bf,rfl,N,q,m⟩;refine⟨d.trans q,?_⟩;have d:=d.trans q;have D:w1.heap.size<=bf:=ω
   have l:=y0c l q.size;refine RM (i:=5) y00<|S2 (i:=5) O O O (yc zh4 O) (Z5 _ _ _ x c p _) ?_;rintro _ w5⟨rfl,r⟩;refine⟨d.trans r,?_⟩;have d:=d.trans r
   try have m:=r.PO m
   have l:=y0c l r.size;refine RM (i:=11) y00 (S2 (i:=11) O O O (yc zgX O) (z0g (Ut width x) (512 / width) ω ω _) ?_);rintro _ G⟨rfl,o⟩;refine⟨d.trans o,?_⟩;have d:=d.trans o
   try have m:=o.PO m
   have l:=y0c l o.size;refine U0 [13] (qO 13 (QQ (i:=13) O O (S0 ti9 O O O m ξ) ?_));rintro J⟨C,u⟩;refine⟨trivial,?_⟩;refine qE<|QA.qb (e:=[(0,_),(4,_),(6,_)]) ?_;exact(bF _ _ ⟨bf,O,C,d.An u (λj e=>ω),D⟩).qb
end
def zhk (s:PU)(h:a<=c):(s.drop (min a s.length)).take (min c s.length-min a s.length)=(s.drop a).take (c-a):=by
 by_cases d:a<=s.length
 ·rw[y0B d];by_cases e:c<=s.length
  ·rw[y0B e]
  ·rw[y2J ω,y0z (by rw[y08];omega),y0z (by rw[y08];omega)]
 ·rw[y2J (show s.length<=a by omega),y2J (show s.length<=c by omega),y1w,y2A,y2j (show s.length<=a by omega),List.take_nil]
section
variable {n:Nat}
theorem z6E {j d:Nat}(b:Nat)(q:b<=1000000)(r:s.length<=100000000)(l:Q8 w j [S s] 9)(o:Q8 w d [I 512] 3):Qx prog 86 ([I (b:Int)]++[ptr j 0,ptr d 0]) w λv w2=>v=S ((s.drop (b*512)).take 512)/\Ext w w2:=by
 show Qx _ _ [I (b:Int),ptr j 0,ptr d 0] _ _
 have h:=zhk s (a:=b*512) (c:=(b+1)*512) ω
 rw[show(b+1)*512-b*512=512 by omega] at h
 refine py (e:=[(0,_),(1,_),(2,_)]) func86 O ntmps86 O O<|qN O<|Sb O<|qV (Q0 U9 O O l O)<|Q4 O<|qV (Q0 U3 O O o O)<|qV (WB O O ω)<|qV (Q0 U9 O O l O)<|qV (Wb U9 O)<|qV (ymi O O)<|Q4 O<|Ra O<|qV (Q0 U3 O O o O)<|qV (WB O O ω) ?_
 refine qV (Q0 U9 O O l O)<|qV (Wb U9 O)<|qV (ymi O O) ?_
 rw[show min ((b:Int)*512) (s.length:Int)=((min (b*512) s.length:Nat):Int) by omega,show min (((b:Int)+1)*512) (s.length:Int)=((min ((b+1)*512) s.length:Nat):Int) by omega]
 refine qV (zgq (m:=min (b*512) s.length) (n:=min ((b+1)*512) s.length) U9 O O O ω) ?_
 rw[h]
 refine Qe O<|PQ func86 O ?_
 exact⟨_,O,O,Ext.refl _⟩
theorem z8e (Z:Sp Q txt K X w)(hX:∀b,X b->b<w.heap.size)(hK:K<=900000000000)(m:WD Q txt vb width st xs w)(W:X vb)(c:s.length=xs.length*width):
  Qx prog 54 [ptr vb 0,S s] w λv w'=>v=I 0/\VcW Q txt (K+XD xs.length (512 / width)) X vb width st (z0T width xs.length s) w w':=by
 have eu:=Z.n
 have hB:=m.cells
 have g:=m.n
 have cb:=m.fit
 obtain⟨e1,U,V,e4,e5⟩:=m.e
 have Jl:s.length<=33554432:=by
  have:xs.length*width<=4194304*8:=y15 g e5;omega
 have z:(xs.length:Int)*(width:Int)=((s.length:Nat):Int):=by rw[c,y1y]
 have Y:((512 / width:Nat):Int)*(width:Int)=512:=by rw[<-y1y,V];rfl
 refine py (e:=[(0,_),(1,_)]) func54 O ntmps54 O O<|qN O<|PX O O (Sy O (cs:=[S s]) O) ?_
 rintro _ w1⟨M,rfl,pu,q,D⟩
 have x:=q.PO hB
 have d:=Ext.Qm w1
 refine Qe O<|QV O<|Qj zbu O (Ul (m.ext q)) ?_
 rintro _ w1⟨rfl,rfl⟩
 refine RZ O<|RI O<|Ri O<|It<|It<|Sq (λw'=>Ext w1 w') O<|qT 0 O (λ_ h=>(Q0 U9 O O (h.PO D) O)) d<|PV 1 O (Wb U9 O) d<|Ql 2 O O d<|PV 3 O (Rs O) d<|PV 4 O (QE Sn O) d<|PV 5 O (QE Zw O) d<|qT 6 O (λ_ h=>(Q0 U3 O O (h.PO x) O)) d<|Ql 7 O O d ?_
 refine PV 8 O (Rs O) d<|PV 9 O (QE Sn O) d<|PV 10 O (QE V7 O) d<|qT 11 O (λ_ h=>(Q0 U3 O O (h.PO x) O)) d<|PV 12 O (WB O O (by rw[z];omega)) d ?_
 rw[z]
 refine PV 13 O (yne O O) d<|Vm<|qE<|Us O<|It ?_
 obtain⟨w2,lQ⟩:∃w2,w1.drew=w2:=⟨_,O⟩
 rw[lQ] at d⊢
 have G:=d.PO x
 have l:=Ext.Qm w2
 refine Qp [12] (λw'=>Ext w2 w') y00 O<|R1 0 O O l<|Qs 1 O (Rs O) l<|Qs 2 O (QE Sn O) l<|Qs 3 O (QE WY O) l<|qL 4 O (λ_ h=>Q0 U3 O O (h.PO G) O) l<|R1 5 O O l<|Qs 6 O (Rs O) l<|Qs 7 O (QE Sn O) l<|Qs 8 O (QE V7 O) l<|qL 9 O (λ_ h=>Q0 U3 O O (h.PO G) O) l<|Qs 10 O (WB O O (by rw[Y];omega)) l ?_
 rw[Y]
 refine RM (i:=11) y00<|Rp (i:=11) O O O (SE (cs:=[_]) R8 O) ?_
 rintro _ w3⟨J,rfl,Pr,F,B⟩
 refine⟨l.trans F,?_⟩
 have T:=l.trans F
 refine U0 [12]<|qO 12<|QQ (i:=12) O O (S0 R8 O O O B ξ) ?_
 rintro k⟨A,L⟩
 refine⟨trivial,?_⟩
 have P:Ext w2 k:=T.An L (λj e=>by have:=l.size;omega)
 have R:=d.trans P
 have r:=q.trans R
 have z1:=q.size
 have z2:=d.size
 have z3:=l.size
 have C:=R.PO D
 have j3:Sp Q txt K (λb=>X b\/b=M\/b=J) k:=Z.ext r (λb e=>e.imp id λe=>ω)
 have a1:=C.lt
 have a0:=A.lt
 have hw:=z0R j3 (λb a=>by rcases a with e|e|e;(have:=hX b e;have:=r.size;omega);omega;omega) hK (m.ext r) (.inl W) zl9 [ptr M 0,ptr J 0] (λb=>(s.drop (b*512)).take 512) (λ_=>by rw[y0d];omega) (λb w3 a H=>z6E b ω ω (H.PO C (λe=>e (.inr (.inl O)))) (H.PO A (λe=>e (.inr (.inr O)))))
 refine qE<|QA.qb (e:=[(0,_),(3,_),(4,_),(6,_)]) ?_
 refine Qz O<|qV (ymf (first:=[]) (caps:=[.tmp 3,.tmp 6]) O O)<|Qj zir O hw ?_
 rintro _ w5⟨rfl,o,gX,E,t,p⟩
 refine Qe O<|PQ func54 O ?_
 have N:Kp (λb=>¬X b) w w5:=r.kp.trans (E.PZ λb e U=>e (.inl U))
 have u:=z4i width xs.length s
 refine⟨_,O,O,o,gX.less (λb e=> .inl e),⟨?_,m.wd,VcT.load c ω (λi hi=>?_),by rw[u];exact g,by rw[u];exact m.fit⟩,λy f=>p y (by rw[u] at f;exact f),N⟩
 ·rw[u];exact N.PO hB (λe=>e W)
 ·have qR:=z0z (each:=512 / width) ω hi;rw[V];exact⟨_,t _ qR⟩
theorem z7Z (Z:Sp Q txt K X w)(a:∀b,X b->b<w.heap.size)(hK:K<1000000000000)(q:WD Q txt vb width st xs w)(u:X vb):
  Qx prog 50 [ptr vb 0] w λv w'=>v= .tuple #[S (Wc width xs),I 0]/\Sp Q txt K X w'/\Kp (λb=>¬X b) w w':=by
 have eu:=Z.n
 have hB:=q.cells
 have iW:=q.n
 have cb:=q.fit
 obtain⟨H,J,e3,e4,Y⟩:=q.e
 have a1:=a vb u
 have uZ:=λ(b:Nat)=>q.t.block (b:=b)
 have N:=λ(l:List Nat)=>Un width l
 have hN:∀b,b*(512 / width)<xs.length->b<XD xs.length (512 / width):=λb o=>by
  have:=z0z (each:=512 / width) (n:=xs.length) ω o;rw[Nat.mul_div_cancel _ ω] at this;exact this
 generalize 512 / width=each at*
 refine py (e:=[(0,_)]) func50 O ntmps50 O O<|qN O<|Rw O<|QV O<|Qj zbu O (Ul q) ?_
 rintro _ w⟨rfl,rfl⟩
 refine RZ O<|RI O<|Ri O<|qN O<|PX O O (SE (cs:=[_,_]) zfC O) ?_
 rintro _ w1⟨h,rfl,ww,z,wX⟩
 have uX:=BdM.new wX
 have ah:=z.PO hB
 have z1:=z.size
 refine PR<|QV O<|QC O<|Qf Sn O<|Qf Zw O<|qV (Q0 U3 O O ah O)<|Rw O<|PT ?_
 rw[show(xs.length:Int)=((xs.length-0*each:Nat):Int) by rw[y1k];rfl]
 refine SN (α:=Nat×Value) (0,Value.slice none 0 0) (λy=>[(0,ptr vb 0),(5,ptr h 0),(6,I ((xs.length-y.1*each:Nat):Int)),(7,I (y.1:Int))]) (λy w'=>y.1<=xs.length/\BdM w' h (Wc width (xs.take (y.1*each))) y.2/\(y.1=0->y.2= .slice none 0 0)/\(0<y.1->0<xs.length)/\(∀g,y.2.ownBlock=some g->w.heap.size<=g)/\Sp Q txt K (λb=>X b\/b=h\/y.2.ownBlock=some b) w'/\Kp (λb=>¬X b) w w') (λy=>xs.length-y.1*each) ?hI ?hround
 case hI=>
  refine⟨y03 _,?_,λ_=>rfl,λe=>absurd e ψ,λg hg=>(by cases hg),Z.ext z (λb e=>e.imp id λe=>e.elim (λe=>ω) (λe=>by cases e)),z.kp⟩;show BdM w1 h (Wc width (xs.take (0*each))) (.slice none 0 0);rw[y1k,y2A];exact uX
 case hround=>
  rintro⟨b,v⟩ w2 ⟨fA,r,s,mC,F,D,A⟩ c;dsimp only at fA r s mC F D c⊢;have G:=A.PO hB (λe=>e u);have hg:=Ext.Qm w2;have z2:=A.size;have a0:h<w2.heap.size:=by obtain⟨⟨p,hp,o⟩,-,-⟩:=r;exact o.lt
  have m7:∀b,(X b\/b=h\/v.ownBlock=some b)->b<w2.heap.size:=λb o=>by
   rcases o with e|e| e
   ·have:=a b e;omega
   ·omega
   ·exact r.2.1.lt e
  have LR:=N (xs.take (b*each))
  try dsimp only
  refine QV O<|RR O<|PR<|Qa O (λh0=>?_)<|λh0=>?_
  ·have E:b*each<xs.length:=ω
   have Ps:=hN b E;obtain⟨m,hm⟩:∃m,min (xs.length-b*each) each=m:=⟨_,O⟩;have V:=D.z0D (x:=((st+b:Nat):Int)) ω ω;have BW:m*width<=each*width:=y0S _ ω;have f:=uZ b (by rw[V];omega) m ω ω;have W:=(D.ext' hg).read (λb o=>by have:=m7 b o;have:=hg.size;omega) hK (no:=((st+b:Nat):Int)) ω ω;obtain⟨t,ht⟩:∃t,txt ((st+b:Nat):Int)=t:=⟨_,O⟩;rw[ht] at V f W;refine PS<|RU<|It<|Sq (λw'=>Kp (λj=>¬(X j\/j=h\/v.ownBlock=some j)) w2 w') O<|Ql 0 O O hg.kp<|PV 1 O (Rs O) hg.kp<|PV 2 O (QE X8 O) hg.kp<|qT 3 O (λ_ M=>Q0 XG O O (M.PO G (λe=>e (.inl u))) O) hg.kp<|Ql 4 O O hg.kp<|PV 5 O (Rs O) hg.kp<|PV 6 O (QE z0c O) hg.kp<|PV 7 O (QE S6 O) hg.kp<|qT 8 O (λ_ M=>Q0 U3 O O (M.PO G (λe=>e (.inl u))) O) hg.kp<|Ql 9 O O hg.kp ?_;refine PV 10 O (W7 O O ω) hg.kp ?_;rw[show(st:Int)+(b:Int)=((st+b:Nat):Int) by omega];refine TQ 11 O zco O W ?_;rintro _ w3⟨rfl,fZ,d⟩;refine⟨hg.kp.trans d,?_⟩;have C:=hg.kp.trans d;have uY:=r.kp C (λe=>e (.inr (.inl O))) (λg hg e=>e (.inr (.inr hg)));have U:=C.PO G (λe=>e (.inl u));refine Ql 12 O O (hg.kp.trans d)<|PV 13 O (SH O O) (hg.kp.trans d)<|PV 14 O (SH O O) (hg.kp.trans d)<|PV 15 O (SG O) (hg.kp.trans d)<|PV 16 O (SG O) (hg.kp.trans d)<|qE<|QV O<|RI O<|Ri O<|RK O<|QC O<|Qf Sn O<|Qf WY O<|qV (Q0 U3 O O U O) ?_;refine qV (ymi O O) ?_;rw[show min ((xs.length-b*each:Nat):Int) (each:Int)=(m:Int) by omega];refine Sb O (Qq O (Q4 O (QC O (Qf Sn O (Qf V7 O (qV (Q0 U3 O O U O) (qV (WB O O (by rw[<-y1y];omega)) ?_)))))));rw[<-y1y];refine qV (z3p (m:=m*width) U9 O O ω) ?_;rw[f];have i7:=N ((xs.drop (b*each)).take m);have L:((xs.drop (b*each)).take m).length=m:=by rw[y0d,y08];omega
   have P:(xs.take (b*each)).length*width<=4194304*8:=y15 (by rw[y0d];omega) Y;rw[L] at i7;refine Qj ziG O (z6N uY (Wc width ((xs.drop (b*each)).take m)) ω) ?_;rintro _ w4⟨B,k,R,i⟩;have z3:=C.size;refine PR<|PY O<|Qq O<|SA O<|Qe O<|PN<|Sv O<|Ra O<|Qe O ?_;rw[show((xs.length-b*each:Nat):Int)-(m:Int)=((xs.length-(b+1)*each:Nat):Int) by rw[y0q];omega];refine(c (b+1,B) _ ⟨?_,?_,λe=>by dsimp only at e;omega,λ_=>ω,λg hg=>(i g hg).elim (F g) (λe=>ω),?_,?_⟩ ?_).qb
   ·show b+1<=xs.length;have:b*1<=b*each:=y3x _ ω;omega
   ·show BdM w4 h (Wc width (xs.take ((b+1)*each))) B
    have e:xs.take ((b+1)*each)=xs.take (b*each)++(xs.drop (b*each)).take m:=by
     rw[y0q,y0O,y2N]
     congr 1
     by_cases hc:xs.length-b*each<=each
     ·rw[y0z (by rw[y08];omega),y0z (by rw[y08];omega)]
     ·rw[show m=each by omega]
    rw[e];unfold Wc at k⊢;rw[y1Z];exact k
   ·exact fZ.step R (λj e=> .inr e) (λj e=>by
     rcases e with e|e| e
     ·exact .inl (.inl e)
     ·exact .inl (.inr (.inl e))
     ·exact(i j e).imp (λe=> .inr (.inr e)) id)
   ·refine(A.trans (C.PZ λb e J=>e (.inl J))).An R λb e=> .inl ?_;rcases e with e| e
    ·omega
    ·exact F b e
   ·dsimp only;rw[y0q];omega
  ·have fO:xs.take (b*each)=xs:=y0z ω;rw[fO] at r;have T:=N xs;have P:xs.length*width<=4194304*8:=y15 iW Y
   have rK:Wc width xs=[]->v= .slice none 0 0:=λe=>s (by
    have H:=congrArg List.length e;rw[T,y1g] at H;have J:xs.length=0:=(Nat.mul_eq_zero.1 H).resolve_right ω
    omega)
   refine Q7 O (qN O (Qj zjD O (z3X r rK ω) ?_));rintro _ w3⟨rfl,d⟩;refine Rw O<|PQ func50 O ?_;exact⟨_,O,O,D.step d (λb e=> .inr (.inr e)) (λb e=> .inl (.inl e)),A.An d (λb e=> .inl (F b e))⟩
end
section
variable {n:Nat}
theorem z5S (A:Sp Q txt K X w)(D:∀b,X b->b<w.heap.size)(m:WD Q txt vb width st xs w)(j:X vb)(z:2<=st)(G:∀i,st<=i->i<st+XD xs.length (512 / width)->Q.L[i]? =some true):
  Qx prog 51 [ptr vb 0] w λv w'=>v=I 0/\∃txt',Sp (Q.Re (R9 Q.L st (XD xs.length (512 / width)) false)) txt' K X w'/\(∀y:Int,y<(st:Int)\/(st:Int)+(XD xs.length (512 / width):Int)<=y->txt' y=txt y)/\Kp (λb=>¬X b\/b=vb) w w':=by
 have hB:=m.cells
 have x:=m.fit
 have H:1<=XD xs.length (512 / width):=Nat.le_max_left _ _
 have hg:=Ext.Qm w
 have r:=(A.ext' hg).zl8 (λb F=>by have:=D b F;have:=hg.size;omega) H z x G
 generalize XD xs.length (512 / width)=N at*
 refine py (e:=[(0,_)]) func51 O ntmps51 O O<|RY O<|QV O<|Qj zbu O (Ul m) ?_
 rintro _ w⟨rfl,rfl⟩
 refine RZ O<|RI O<|Ri O<|It<|It<|Sq (λw'=>Kp (λb=>¬X b) w w') O<|Ql 0 O O hg.kp<|PV 1 O (Rs O) hg.kp<|PV 2 O (QE X8 O) hg.kp<|qT 3 O (λ_ h=>Q0 XG O O (h.PO hB (λe=>e j)) O) hg.kp<|Ql 4 O O hg.kp<|PV 5 O (Rs O) hg.kp<|PV 6 O (QE z0c O) hg.kp<|qT 7 O (λ_ C=>QB Ww O Sj O (Q8.cells (n:=2) (C.PO hB (λe=>e j)) (news:=[_,_]) O) O) hg.kp ?_
 refine TQ 8 O zlC O r ?_
 rintro _ w1⟨rfl,d,J,M,l⟩
 refine⟨hg.kp.trans l,?_⟩
 have q:=hg.kp.trans l
 have u:=q.PO hB (λe=>e j)
 refine PV 9 O (SG O) (hg.kp.trans l)<|qE<|Qz O<|RI O<|Ri O<|Qz O<|QC O<|Qf z8Q O<|Qc O (S0 Wu O O O u ξ) ?_
 rintro w2⟨R,o⟩
 refine qM O<|Qe O<|PQ func51 O ?_
 exact⟨_,O,O,d,J.own o (λb e=>by rw[e];exact j),M,(q.PZ λb e=> .inl e).trans (o.PZ λb e=> .inr e)⟩
def VcT.any {n:Nat}(m:1<=each)(r:each*width<=512)(h:∀i,i<n->(txt ((st+i / each:Nat):Int)).length=512):∃xs:List Nat,xs.length=n/\VcT txt st width each xs:=by
 refine⟨(List.range n).map λi=>QO (Qo (((txt ((st+i / each:Nat):Int)).drop (i%each*width)).take width)),ξ,λi x d=>?_⟩
 rw[y0m] at d
 by_cases hi:i<n
 ·rw[y1E hi] at d;cases d;have o:=h i hi;have q:(i%each+1)*width<=each*width:=y0S _ (y0Y _ m);rw[y0q,y0O] at q
  have e:(((txt ((st+i / each:Nat):Int)).drop (i%each*width)).take width).length=width:=by
   rw[y0d,y08,o];omega
  refine⟨?_,?_⟩
  ·have l:=z92 (((txt ((st+i / each:Nat):Int)).drop (i%each*width)).take width);rw[e] at l;exact l.symm
  ·have j:=Se (Qo (((txt ((st+i / each:Nat):Int)).drop (i%each*width)).take width));rw[bitsT_length,e] at j;exact j
 ·rw[y0v (by simpa using hi)] at d;cases d
theorem zbd (G:Sp Q txt K X w)(hX:∀b,X b->b<w.heap.size)(hK:K<=800000000000)(hp:Pre Q.L a)(n width:Nat)(hn:n<=4194304)(J:width=1\/width=2\/width=4\/width=8)(m:a+XD n (512 / width)<=Q.L.length):
  Qx prog 41 [ptr Q.s 0,I (n:Int),I (width:Int)] w λv w'=>∃vb txt',v= .tuple #[ptr vb 0,I 0]/\w.heap.size<=vb/\Sp (Q.Re (R9 Q.L a (XD n (512 / width)) true)) txt' (K+XD n (512 / width)) (λb=>X b\/b=vb) w'/\WD (Q.Re (R9 Q.L a (XD n (512 / width)) true)) txt' vb width a (List.replicate n 0) w'/\(∀y:Int,y<(a:Int)\/(a:Int)+(XD n (512 / width):Int)<=y->txt' y=txt y)/\Kp (λb=>¬X b) w w':=by
 have Y:1<=XD n (512 / width):=Nat.le_max_left _ _
 have eu:=G.n
 obtain⟨e1,d,e3,e4,e5⟩:64<=512 / width/\512 / width<=512/\512 / width*width=512/\1<=width/\width<=8:=by
  rcases J with e|e|e|e<;>subst e<;>decide
 have V:(R9 Q.L a (XD n (512 / width)) true).length=Q.L.length:=Rq m
 refine py (e:=[(0,_),(1,_),(2,_)]) func41 O ntmps41 O O<|qN O<|Rw O<|RU<|Qz O<|qV (Rm XG O O)<|Qe O<|PW O<|It<|QT (λU w'=>w'=w/\U=[(0,ptr Q.s 0),(1,I (n:Int)),(2,I (width:Int)),(15,.bool false)]) ?av<|λav=>?dO
 case av=>
  rintro U w'⟨rfl,rfl⟩;refine Us O<|PN<|RK O<|Q4 O<|Qj z5I O (G.size) ?_;rintro _ w'⟨rfl,rfl⟩;refine Q4 O (qV (Yx O O ω) ?_);rw[show(512:Int) / (width:Int)=((512 / width:Nat):Int) from rfl];refine qV (To (cs:=[_,_,_]) ZJ O zks O O)<|Q4 O<|qV (To (cs:=[_,_,_,_,_,_,_]) zkA O zja O O)<|PX O O (Sy O (cs:=[I (n:Int),I (width:Int),I ((512 / width:Nat):Int),I 0,I 0,ptr Q.s 0,.bool false]) O) ?_;rintro _ w1⟨vb,rfl,ek,R,C⟩;refine Sb O (Qq O (QC O (Qf Sn O (qV (QB z1Q O ZJ O (Q8.cells (n:=3) C (news:=[_,_,_]) O) O) (Qj zjn O (Zr n width (512 / width) ⟨ω,d⟩ hn _) ?_)))));rintro _ w2⟨rfl,A⟩;have o:=R.trans A;have ak:=A.PO C;have z1:=R.size;have z2:=A.size;have l1:=C.lt;have eB:Sp Q txt K (λb=>X b\/b=vb) w2:=G.ext o (λb e=>e.imp id λe=>ω)
  have W:∀b,(X b\/b=vb)->b<w2.heap.size:=λb H=>by
   rcases H with e| e
   ·have:=hX b e;have:=o.size;omega
   ·omega
  obtain⟨N,hN⟩:∃N,XD n (512 / width)=N:=⟨_,O⟩;rw[hN] at Y m V⊢;refine Qj zjU O (eB.take W hp Y m) ?_;rintro _ g⟨rfl,fZ,D⟩;have au:=D.PO ak (λe=>e (.inr O));have z3:=D.size;refine Q4 O<|Tr O<|PX O O (SE (cs:=[_,_]) Sj O) ?_;rintro _ w4⟨b9,rfl,ny,T,aJ⟩;refine Qc O (QX (news:=[I (a:Int),I (N:Int)]) Sj O O O O aJ ξ) ?_;rintro k⟨r,ai⟩;replace r:Q8 k b9 [I (a:Int),I (N:Int)] 124:=r;have l:Ext g k:=T.An ai (λj e=>ω);have cB:=l.PO au;have gX:=fZ.ext' l;refine Qe O<|QA.qb (e:=[(0,_),(8,_),(9,_),(10,_)]) ?_;refine QV O (RI O (Ri O (Qz O (qV (QB Ww O Sj O (Q8.cells (n:=2) r (news:=[_,_]) O) O) (QC O (Qf z0c O (Qc O (QX (news:=[I (a:Int),I (N:Int)]) Sj O O O O cB ξ) ?_)))))));rintro M⟨z,u⟩;replace z:Q8 M vb [I (n:Int),I (width:Int),I ((512 / width:Nat):Int),I (a:Int),I (N:Int),ptr Q.s 0,.bool false] 164:=z;have Z:=gX.own u (λb e=> .inr e);have S:(Q.Re (R9 Q.L a N true)).L.length=Q.L.length:=V
  obtain⟨xs,F,B⟩:=VcT.any (txt:=txt) (st:=a) (width:=width) (each:=512 / width) (n:=n) ω ω (λi hi=>by
   have c:=z0z (each:=512 / width) ω hi;rw[hN] at c
   generalize i / (512 / width)=q at c⊢
   exact Z.z0D ω (by rw[S];omega))
  have P:WD (Q.Re (R9 Q.L a N true)) txt vb width a xs M:=⟨by rw[F,hN];exact z,J,B,ω,by rw[F,hN,S];exact m⟩
  have oA:∀b,(X b\/b=vb)->b<M.heap.size:=λb H=>by
   have:=W b H;have:=l.size;have:=u.size;omega
  have f:=Z3 Z oA ω P (.inr O) (x:=0) (y0y _);rw[F,hN] at f;refine PR<|QV O<|Qj zhg O f ?_;rintro _ w7⟨rfl,hW⟩;obtain⟨h,p,t,E,ay⟩:=hW;refine RZ O<|RI O<|Ri O<|Qz O<|Rw O<|PQ func41 O ?_;have iq:(List.replicate n 0).length=n:=y0b;refine⟨_,O,vb,h,O,ω,p,t,λy hy=>E y (by rw[iq,hN];exact hy),?_⟩;have bY:Kp (λb=>¬X b) w' g:=o.kp.trans (D.PZ λb e d=>e (.inl d));exact((bY.trans l.kp).An u (λb e=> .inl ω)).trans (ay.PZ λb e d=>e (.inl d))
 case dO=>
  rcases J with rfl|rfl|rfl|rfl
  ·refine Sv O<|RT O<|QW<|Qq O<|RR O<|QW<|R0 O<|Qq O<|RI O<|QW<|Q4 O<|Sc<|R0 O<|Q4 O ?_;refine Sc<|R0 O<|Q4 O<|Sc<|R0 O<|R0 O<|Qe O<|QA.qb (e:=[(0,_),(1,_),(2,_),(6,_),(7,_),(15,_)]) ?_;exact(av _ _ ⟨O,O⟩).qb
  ·refine Sv O<|RT O<|QW<|Qq O<|RR O<|QW<|R0 O<|Qq O<|RI O<|SD<|Qq O<|RI O<|QW<|Sh O ?_;refine Q4 O<|Sc<|R0 O<|Q4 O<|Sc<|R0 O<|R0 O<|Qe O<|QA.qb (e:=[(0,_),(1,_),(2,_),(6,_),(7,_),(15,_)]) ?_;exact(av _ _ ⟨O,O⟩).qb
  ·refine Sv O<|RT O<|QW<|Qq O<|RR O<|QW<|R0 O<|Qq O<|RI O<|SD<|Qq O<|RI O<|SD<|Sh O ?_;refine Qq O<|RI O<|QW<|Sh O<|Q4 O<|Sc<|R0 O<|R0 O<|Qe O<|QA.qb (e:=[(0,_),(1,_),(2,_),(6,_),(7,_),(15,_)]) ?_;exact(av _ _ ⟨O,O⟩).qb
  ·refine Sv O<|RT O<|QW<|Qq O<|RR O<|QW<|R0 O<|Qq O<|RI O<|SD<|Qq O<|RI O<|SD<|Sh O ?_;refine Qq O<|RI O<|SD<|Sh O<|Qq O<|RI O<|QW<|Sh O<|R0 O<|Qe O<|QA.qb (e:=[(0,_),(1,_),(2,_),(6,_),(7,_),(15,_)]) ?_;exact(av _ _ ⟨O,O⟩).qb
end
structure Gr where
 n:Nat
 succ:Nat->List Nat
 lt:∀v u,u∈succ v->u<n
def Vj (h:Sg g)(v u:Nat)(j:u∈Qd g v):u<g.length:=by
 unfold Qd at j
 cases e:g[v]? with
 |none=>rw[e] at j;cases j
 |some l=>rw[e] at j;exact h.lt l (y0i e) u j
abbrev Ds:=List (Option Nat)
section
end
section
end
/-! ### The same with a flag: whether there were some -/
/-! ### A run -/
structure BfS where
 t:Nat
 done:Bool
 d:Ds
section
end
def z95 {v:Nat}(h:v<=200000):Nat.log2 (v+1)<=17:=by
 have e:=y2B (n:=v+1) ω
 have d:2^Nat.log2 (v+1)<2^18:=by
  have:(2:Nat)^18=262144:=ψ
  omega
 have:=(y3u (by decide:1<2)).1 d
 omega
def YG.ze7 {q:Cd×Nat}(h:YG k q)(o:1<=k/\k<=3):(q.1.enc q.2).length<=40:=by
 rw[Y2]
 rcases h with⟨e,h⟩|⟨e,h⟩|⟨e,h⟩
 ·rw[e];show q.2+1+0<=_;omega
 ·have:=z95 h;rw[e];show Nat.log2 (q.2+1)+1+Nat.log2 (q.2+1)<=_;omega
 ·have l:=z95 h;have m:Nat.log2 (q.2+1) / k<=Nat.log2 (q.2+1):=y0P _ _;have r:Nat.log2 (q.2+1) / k*k<=Nat.log2 (q.2+1):=y1F _ _
  have n:(SR (q.2+1-2^(Nat.log2 (q.2+1) / k*k)) (2^(Nat.log2 (q.2+1) / k*k)*2^k-2^(Nat.log2 (q.2+1) / k*k))).2<=20:=by
   have d:R6 (2^(Nat.log2 (q.2+1) / k*k)*2^k-2^(Nat.log2 (q.2+1) / k*k)-1)<=20:=by
    refine Sm ?_;have j:=y0t (show 0<2 by decide) (show Nat.log2 (q.2+1) / k*k+k<=20 by omega);rw[y0I] at j;have:=y0y (Nat.log2 (q.2+1) / k*k);omega
   unfold SR;dsimp only;split
   ·show R6 _-1<=20;omega
   ·exact d
  rw[e];show Nat.log2 (q.2+1) / k+1+(SR _ _).2<=_;omega
theorem z8k {p:Te}(d:p.RN)(u:p.zeta<=3){x:Nat}(o:x<65536){succ ref:List Nat}(e:QR succ)(m:QR ref){r:Nat}(v:r<=p.Qt)(z:succ.length<=40)(y:ref.length<=40):(Qr (SM p x succ ref r)).length<=6600:=by
 have h:QR (Qv succ ref):=e.sub y1T
 have G:(Qv succ ref).length<=succ.length:=y3g _ _
 have j:=(Uk succ ref).z2p
 rw[y0n] at j
 have H:=z3S p.interval h
 have I:=(VN p.interval (Qv succ ref)).length_le
 have A:(SM p x succ ref r).length<=165:=by
  unfold SM;rw[y02];split
  ·simp
  rw[y01,y01];have C:(if 0<p.Qt then [(Cd.unary,r)] else []).length<=1:=by split<;>simp
  have D:(if 0<r then(Cd.gamma,(Sr succ ref).length-1)::RA 0 (Sr succ ref).dropLast else []).length<=42:=by
   split
   ·rw[y02,Uq,y2q];omega
   ·simp
  have F:(if Qv succ ref=[] then [] else(if 0<p.interval then(Cd.gamma,(R7 p.interval (Qv succ ref)).1.length)::QY x p.interval none (R7 p.interval (Qv succ ref)).1 else [])++QZ x p.zeta none (R7 p.interval (Qv succ ref)).2).length<=121:=by
   split
   ·simp
   ·rw[y01,UA];split
    ·rw[y02,Tz];omega
    ·simp;omega
  omega
 have:=z3s (n:=40) (L:=SM p x succ ref r) (λq l=>(z1w d o e m v q l).ze7 ⟨d.2.2.1,u⟩)
 omega
section
theorem zgW (h:Ud p g E)(v:g.length<=40)(q:p.zeta<=3)(hi:i<g.length):(Z7 p g E i).length<=6600:=by
 unfold Z7
 have n:g[i]? =some g[i]:=y07 hi
 have u:i<E.length:=by have:=h.pk.el;omega
 have d:E[i]? =some E[i]:=y07 u
 have m:=h.pk.ok.ent i _ d
 rw[n,d]
 rw[n] at m
 show(Qr (SM p.list i g[i] (RV g i E[i].1) E[i].1)).length<=6600
 have j:QR (RV g i E[i].1)/\(RV g i E[i].1).length<=40:=by
  rcases Yv g i E[i].1 with e| e
  ·rw[e];exact⟨⟨y1p,λy h=>(by cases h)⟩,y03 _⟩
  ·exact⟨h.gr.ok _ e,by have:=h.gr.len e;omega⟩
 have r:E[i].1<=p.list.Qt:=by
  rcases m with e|⟨-,o,-⟩
  ·rw[e];exact y03 _
  ·exact o
 have l:g[i]∈g:=y1s hi
 exact z8k h.RN.1 q ω (h.gr.ok _ l) j.1 r (by have:=h.gr.len l;omega) j.2
theorem zd5 (h:Ud p g E)(e:g.length<=40)(d:p.zeta<=3):∀n,n<=g.length->(RP p g E n).length<=n*6600
 |0,_=>by simp[RP]
 | n + 1, hn => by
   have:=zd5 h e d n ω;have:=zgW h e d (i:=n) ω;rw[Ug,y01,y0q];omega
def zdP {n u:Nat}(o:1<=n):(Vf n u).bits<=3*n:=by
 show(u-1) / 2^Zn n u+n<=_
 have h:u<2*n*2^Zn n u:=by
  unfold Zn;split
  ·rename_i e
   have:=(Nat.div_eq_zero_iff).1 e;omega
  ·rename_i e
   have j:=Y4 (v:=u / n);have d:=(y2a ω).1 j;have l:1<=R6 (u / n):=by unfold R6;rw[if_neg e];omega
   rw[show R6 (u / n)=R6 (u / n)-1+1 by omega,y1J,y0E _ n,y0E _ 2,<-y1W,y0E n 2] at d;exact d
 have m:(u-1) / 2^Zn n u<2*n:=(y2a (y0y _)).2 ω
 omega
def zdv (h:Ud p g E)(d:g.length<=40)(j:p.zeta<=3):(YQ p g E).length<=36000:=by
 have l:=zd5 h d j g.length (y04 _)
 have m:g.length*6600<=40*6600:=y0S _ d
 have o:(pfm p g E).size<=2900:=by
  have e:Zn (g.length+1) ((RP p g E g.length).length+1)<=30:=z0A ω;have q:=zdP (n:=g.length+1) (u:=(RP p g E g.length).length+1) ω;have r:(g.length+1)*Zn (g.length+1) ((RP p g E g.length).length+1)<=41*30:=y15 ω e;show 12+((g.length+1)*Zn (g.length+1) ((RP p g E g.length).length+1)+7) / 8+((Vf (g.length+1) ((RP p g E g.length).length+1)).bits+7) / 8+4*((g.length+1+63) / 64)<=2900;omega
 rw[h.len]
 unfold Xy
 omega
end
structure Y0 where
 p:RE
 g:List (List Nat)
 E:List (Nat×Nat)
 st:Nat
 len:Nat
 rb:Nat
 sum:Nat
 k:Nat
 x:Nat
def U1 (G:Y0)(Q:Sf)(txt:Int->PU)(K:Nat)(X:Nat->Prop)(w:World):Prop:=∃o:StO Q txt K G.st G.len (YQ G.p G.g G.E),W5 (z7j o G.rb G.sum) G.k G.x X w
section
variable {G:Y0}{Y:Nat->Prop}
def U1.sp (h:U1 G Q txt K X w):Sp Q txt K (λb=>X b\/b=G.rb) w:=by obtain⟨o,h⟩:=h;exact h.inv.1
def U1.rbB (h:U1 G Q txt K X w):Q8 w G.rb (srC Q.s G.st G.len (YQ G.p G.g G.E).length G.sum) 202:=by obtain⟨o,h⟩:=h;exact h.inv.2.1
def U1.rbX (h:U1 G Q txt K X w):¬X G.rb:=by obtain⟨o,h⟩:=h;exact h.inv.2.2
def U1.lt (h:U1 G Q txt K X w):∀b,X b->b<w.heap.size:=by obtain⟨o,h⟩:=h;exact h.lt
def U1.lt1 (h:U1 G Q txt K X w):∀b,(X b\/b=G.rb)->b<w.heap.size:=λb d=>d.elim (h.lt b) (λe=>by rw[e];exact h.rbB.lt)
theorem U1.z7g (h:U1 G Q txt K X w):K<1000000000000:=by obtain⟨o,h⟩:=h;exact o.k
def U1.xk (h:U1 G Q txt K X w):X G.k/\X G.x/\X 1/\X 2:=by obtain⟨o,h⟩:=h;exact⟨h.xk,h.xx,h.x1,h.x2⟩
theorem U1.ok (h:U1 G Q txt K X w):Ud G.p G.g G.E:=by obtain⟨o,h⟩:=h;exact h.ok
theorem U1.upd (h:U1 G Q txt K X w)(l:Kp S' w w')(m:∀b,S' b->¬(X b\/b=G.rb)\/(X b/\b≠G.k/\b≠G.x/\b≠1/\b≠2))(u:Sp Q' txt' K' (λb=>X b\/b=G.rb) w')(A:Q'.s=Q.s)(z:Q'.L.length=Q.L.length)(r:K'<1000000000000)(ht:∀y:Int,(G.st:Int)<=y->y<(G.st:Int)+(G.len:Int)->txt' y=txt y):U1 G Q' txt' K' X w':=by
 have n:=h.rbX
 have q:=h.rbB
 obtain⟨o,h⟩:=h
 have C:=o.len
 refine⟨⟨r,by rw[z];exact o.fit,o.laid.XA λk l=>ht _ ω ω,o.len⟩,h.re l (λj v=>?_) ⟨u,?_,n⟩⟩
 ·rcases m j v with e| e
  ·exact⟨λd=>e (.inl (d▸h.xk)),λd=>e (.inl (d▸h.xx)),λd=>e (.inl (d▸h.x1)),λd=>e (.inl (d▸h.x2))⟩
  ·exact e.2
 ·rw[A];exact l.PO q (λe=>(m _ e).elim (λe=>e (.inr O)) (λe=>n e.1))
theorem U1.zlR (h:U1 G Q txt K X w)(d:Kp S' w w')(l:∀b,S' b->¬(X b\/b=G.rb))(m:∀j,X j->Y j)(q:∀j,Y j->X j\/(w.heap.size<=j/\j<w'.heap.size))(v:Sp Q' txt' K' (λb=>Y b\/b=G.rb) w')(A:Q'.s=Q.s)(z:Q'.L.length=Q.L.length)(u:K'<1000000000000)(ht:∀y:Int,(G.st:Int)<=y->y<(G.st:Int)+(G.len:Int)->txt' y=txt y):U1 G Q' txt' K' Y w':=by
 have C:=h.rbX
 have n:=h.rbB
 obtain⟨o,h⟩:=h
 have D:=o.len
 have r:(z7j (⟨u,by rw[z];exact o.fit,o.laid.XA λk d=>ht _ ω ω,o.len⟩:StO Q' txt' K' G.st G.len (YQ G.p G.g G.E)) G.rb G.sum).inv Y w':=⟨v,by rw[A];exact d.PO n (λe=>l _ e (.inr O)),λe=>(q _ e).elim C (λe=>by have:=n.lt;omega)⟩
 refine⟨_,⟨h.ok,d.PO h.PO (λe=>l _ e (.inl h.xk)),d.PO h.ix (λe=>l _ e (.inl h.xx)),m _ h.xk,m _ h.xx,r,λj x=>?_,m _ h.x1,m _ h.x2,d.PO h.gam (λe=>l _ e (.inl h.x1)),d.PO h.una (λe=>l _ e (.inl h.x2))⟩⟩
 rcases q j x with e| e
 ·have:=h.lt j e;have:=d.size;omega
 ·exact e.2
def U1.grow (h:U1 G Q txt K X w)(l:Ext w w')(e:∀j,Y j->X j\/(w.heap.size<=j/\j<w'.heap.size))(d:∀j,X j->Y j):U1 G Q txt K Y w':=by
 obtain⟨o,h⟩:=h
 exact⟨o,h.grow l e d⟩
def U1.ext (h:U1 G Q txt K X w)(e:Ext w w'):U1 G Q txt K X w':=h.grow e (λj d=> .inl d) λj d=>d
def U1.own (h:U1 G Q txt K X w)(e:Kp S' w w')(d:∀j,S' j->X j/\j≠G.k/\j≠G.x/\j≠1/\j≠2):U1 G Q txt K X w':=by
 obtain⟨o,h⟩:=h
 exact⟨o,h.own e d⟩
theorem U1.step (h:U1 G Q txt K X w)(m:Kp S' w w')(e:∀j,S' j->X j/\j≠G.k/\j≠G.x/\j≠1/\j≠2)(l:∀j,Y j->X j\/(w.heap.size<=j/\j<w'.heap.size))(d:∀j,X j->Y j):U1 G Q txt K Y w':=by
 obtain⟨o,h⟩:=h
 exact⟨o,h.step m e l d⟩
def U1.less (h:U1 G Q txt K Y w)(e:∀j,X j->Y j)(d:X G.k/\X G.x/\X 1/\X 2):U1 G Q txt K X w:=by
 obtain⟨o,h⟩:=h
 exact⟨o,h.less e d.1 d.2.1 d.2.2.1 d.2.2.2⟩
theorem U1.more (h:U1 G Q txt K X w)(j:K<=K')(d:K'<1000000000000):U1 G Q txt K' X w:=h.upd (S':=λ_=>False) (Kp.refl _ w) (λ_ e=>e.elim) (h.sp.more j) O O d λ_ _ _=>rfl
def Yj (h:U1 G Q txt K X w):Qx prog 37 [ptr G.k 0] w λv w'=>v=I (G.g.length:Int)/\w'=w:=by
 obtain⟨o,h⟩:=h
 exact zdJ h
def z7r {l v:Nat}(C:G.g.length<50)(A:v<G.g.length)(h:U1 G Q txt K X w)(m:Q8 w bk [ptr G.k 0] 28)(D:Q8 w bi [I (v:Int)] 3)(Z:Nat->Prop)(z:∀j,Z j->X j)(J:(Nat->Prop)->Nat->World->Prop)(F:World->Prop)
  (n:∀(Y:Nat->Prop)(w':World),(∀j,X j->Y j)->(∀j,Y j->X j\/w.heap.size<=j)->U1 G Q txt K Y w'->Kp (λj=>¬X j) w w'->J Y 0 w')
  (d:∀(Y:Nat->Prop)(i s:Nat) (w':World),(∀j,X j->Y j)->(∀j,Y j->X j\/w.heap.size<=j)->(Qd G.g v)[i]? =some s->J Y i w'->z2R prog l [QL s,I 0] w' λr e=>(r= .bool true/\J Y (i+1) e/\Kp (λj=>¬Y j\/Z j) w' e)\/(r= .bool false/\F e)):
  Qx prog 152 [.func (.yield l) #[] #[],ptr bk 0,ptr bi 0] w λr w'=>r= .tuple #[]/\((∃Y,(∀j,X j->Y j)/\(∀j,Y j->X j\/w.heap.size<=j)/\J Y (Qd G.g v).length w')\/F w'):=by
 obtain⟨o,h⟩:=h
 exact z7R C A h m D Z z J F (λY w' q u x y=>n Y w' q u ⟨o,x⟩ y) d
end
theorem za1 {f:FuncId}{R:Value->World->Prop}{n:Nat}{rd:Option Nat}{dk:Bool}{k:List Item}{e:Env}{α:Type}{c:Code}(d:α)(M:α->List Dfr)(o:M d=ms)(E:α->Env)(I:α->World->Prop)(μ:α->Nat)(j:Sub (E d) e)(l:I d w)
  (round:∀x w,I x w->(∀y w',I y w'->μ y<μ x->QA ⟨P,f,R,n,rd,M y,dk⟩ (.inLoop c::k) (E y) w')->QA ⟨P,f,R,n,rd,M x,dk⟩ (.code c:: .inLoop c::k) (E x) w):QA ⟨P,f,R,n,rd,ms,dk⟩ (.code (.loop c)::k) e w:=by
 have key:∀m x w,μ x=m->I x w->QA ⟨P,f,R,n,rd,M x,dk⟩ (.code c:: .inLoop c::k) (E x) w:=by
  intro m
  induction m using Nat.strongRecOn with
  | _ m z =>
    intro x w r u;exact round x w u λy w' v h=>z2r (z (μ y) (r▸h) y w' O v)
 subst o
 exact λa q=>XB.step (λ_ _=>stepR_loop) (key _ d w O l a (q.sub j))
def Tb.kp {S:Nat->Prop}(h:Tb ms w)(m:Kp S w w')(l:∀D,.mk D∈ms->¬S D):Tb ms w':=λd e=>by
 obtain⟨D,rfl,j⟩:=h d e
 exact⟨D,O,m.heap j (l D e)⟩
theorem Tb.nil (w:World):Tb [] w:=λd e=>by cases e
theorem Tb.cons {D:Nat}(h:Tb ms w)(j:w.heap[D]? =some (.deferred (some []))):Tb (.mk D::ms) w:=λd l=>by
 rcases y0h.1 l with rfl| e
 ·exact⟨D,O,j⟩
 ·exact h d e
def z2j:∀(ms:List Dfr)(w:World),Kp (λk=> .mk k∈ms) w (TL ms w)
 |[],w=>Kp.refl _ w
 | .mk D::ms,w=>((RJ w D (.deferred none)).PZ λk e=>by rw[e];exact y0r).trans ((z2j ms _).PZ λk e=>y0u _ e)
 | .call f c a::ms,w=>(z2j ms w).PZ λk e=>y0u _ e
structure MkN (B:Nat)(ms:List Dfr)(w:World):Prop where
 nd:ms.Nodup
 m:Tb ms w
 lo:∀D,.mk D∈ms->B<=D
 hi:∀D,.mk D∈ms->D<w.heap.size
theorem MkN.nil (B:Nat)(w:World):MkN B [] w:=⟨y1K,.nil w,λ_ h=>(by cases h),λ_ h=>(by cases h)⟩
def MkN.kp {S:Nat->Prop}(h:MkN B ms w)(d:Kp S w w')(j:∀D,.mk D∈ms->¬S D):MkN B ms w':=⟨h.nd,h.m.kp d j,h.lo,λD e=>by have:=h.hi D e;have:=d.size;omega⟩
theorem MkN.cons (h:MkN B ms w)(hB:B<=w.heap.size)(d:MkN B ms w')(j:w'.heap[w.heap.size]? =some (.deferred (some [])))(l:w.heap.size<w'.heap.size):MkN B (.mk w.heap.size::ms) w':=
 ⟨y11.2 ⟨λe=>by have:=h.hi _ e;omega,h.nd⟩,d.m.cons j,λD e=>by
  rcases y0h.1 e with e| e
  ·cases e;exact hB
  ·exact h.lo D e,λD e=>by
  rcases y0h.1 e with e| e
  ·cases e;exact l
  ·exact d.hi D e⟩
def GrR (w:World)(gb go:Nat)(g:List (List Nat)):Prop:=∀(v:Nat)(l:List Nat),g[v]? =some l->∃(a:Option Addr)(c:Nat),w.cell? ⟨gb,go+v*1,none⟩=some (.slice a l.length c)/\∀(i x:Nat),l[i]? =some x->∃d lo,a=some ⟨d,lo,none⟩/\w.cell? ⟨d,lo+i*1,none⟩=some (QL x)
def Rx {a:Addr}{u:Value}(e:Ext w w')(h:w.cell? a=some u):w'.cell? a=some u:=by
 unfold World.cell? at h⊢
 cases d:w.heap[a.block]? with
 |none=>rw[d] at h;simp at h
 |some o=>rw[e.heap d id];rw[d] at h;exact h
theorem GrR.ext {go:Nat}(h:GrR w gb go g)(d:Ext w w'):GrR w' gb go g:=λv l o=>by
 obtain⟨a,c,j,m⟩:=h v l o
 refine⟨a,c,Rx d j,λi x hi=>?_⟩
 obtain⟨q,lo,e,n⟩:=m i x hi
 exact⟨q,lo,e,Rx d n⟩
theorem GrM.r {v:Value}(h:GrM w v g)(F:1<=g.length):∃gb go gc,v= .slice (some ⟨gb,go,none⟩) g.length gc/\GrR w gb go g:=by
 obtain⟨vs,y,z⟩:=h.ex
 rcases y.2 with⟨c,-,d⟩|⟨gb,go,gc,e,q⟩
 ·omega
 ·refine⟨gb,go,gc,e,λv l u=>?_⟩;obtain⟨a,c,n,D,o⟩:=z v l u;refine⟨a,c,by rw[y0p];exact q v _ n,λi x hi=>?_⟩;rcases o.2 with⟨C,-,d⟩|⟨A,lo,G,j,m⟩
  ·have:l=[]:=y0w d;rw[this] at hi;cases hi
  ·cases j;exact⟨A,lo,O,by rw[y0p];exact m i _ (by rw[y0m,hi];rfl)⟩
/-! ### Distances -/
structure RwM (w:World)(bg B:Nat)(L:List (List Nat)):Prop where
 ex:∃vs:List Value,Q8 w bg vs 40/\vs.length=L.length/\∀(i:Nat)(l:List Nat),L[i]? =some l->∃(a:Option Addr)(c:Nat),vs[i]? =some (.slice a l.length c)/\l.length<=c/\Rd w (.slice a l.length c) 1 l.length (l.map QL)/\∀b,(Value.slice a l.length c).ownBlock=some b->B<=b/\b≠bg
section
variable {L:List (List Nat)}
theorem RwM.ext (h:RwM w bg B L)(d:Ext w w'):RwM w' bg B L:=by
 obtain⟨vs,n,o,q⟩:=h.ex
 refine⟨vs,d.PO n,o,λi l r=>?_⟩
 obtain⟨a,c,e,j,m,g4⟩:=q i l r
 exact⟨a,c,e,j,m.ext d,g4⟩
def RwM.new {n:Nat}(h:Q8 w bg (List.replicate n (.slice none 0 0)) 40):RwM w bg B (List.replicate n []):=
 ⟨_,h,ξ,λi l d=>by
  rw[y1b] at d;split at d
  ·rename_i hi
   cases d;exact⟨none,0,by rw[y1b,if_pos hi];rfl,y04 _,⟨rfl,.inl ⟨(none,0),rfl,rfl⟩⟩,λb e=>by cases e⟩
  ·cases d⟩
theorem RwM.set (h:RwM w bg B L){l:List Nat}{a:Option Addr}(o:Kp (λb=>b=bg) w w')(hB:∀vs,Q8 w bg vs 40->Q8 w' bg (vs.set (0+f*1) (.slice a l.length c)) 40)(n:f<L.length)(D:l.length<=c)(C:Rd w (.slice a l.length c) 1 l.length (l.map QL))(q:∀b,(Value.slice a l.length c).ownBlock=some b->B<=b/\b≠bg):RwM w' bg B (L.set f l):=by
 obtain⟨vs,z,m,A⟩:=h.ex
 refine⟨_,hB vs z,by simp[m],λi l' d=>?_⟩
 rw[y0k,y0p]
 by_cases e:f=i
 ·subst e;rw[y1d n] at d;cases d;exact⟨a,c,y1d (by rw[m];exact n),D,C.kp o (λb j e=>(q b j).2 e),q⟩
 ·rw[y0W e] at d;obtain⟨r,u,v,x,y,g4⟩:=A i l' d;exact⟨r,u,by rw[y0W e];exact v,x,y.kp o (λb j e=>(g4 b j).2 e),g4⟩
theorem RwM.gr (h:RwM w bg B L):GrM w (.slice (some ⟨bg,0,none⟩) L.length L.length) L:=by
 obtain⟨vs,n,o,q⟩:=h.ex
 refine⟨vs,⟨by rw[o,y0p],.inr ⟨bg,0,L.length,rfl,λj u r=>by rw[n.cell,y0k];exact r⟩⟩,λi l v=>?_⟩
 obtain⟨a,c,d,e,m,g4⟩:=q i l v
 exact⟨a,c,d,e,m⟩
def RwM.lt (h:RwM w bg B L):bg<w.heap.size:=by obtain⟨vs,d,-⟩:=h.ex;exact d.lt
theorem RwM.cell (h:RwM w bg B L){f:Nat}{l:List Nat}(o:L[f]? =some l):∃(a:Option Addr)(c:Nat),w.cell? ⟨bg,0+f*1,none⟩=some (.slice a l.length c)/\l.length<=c/\Rd w (.slice a l.length c) 1 l.length (l.map QL)/\∀b,(Value.slice a l.length c).ownBlock=some b->B<=b/\b≠bg:=by
 obtain⟨vs,m,q,n⟩:=h.ex
 obtain⟨a,c,d,e,j,g4⟩:=n f l o
 exact⟨a,c,by rw[m.cell,y0k,y0p];exact d,e,j,g4⟩
def EdR (w:World)(ea:Option Addr)(es:List (Nat×Nat)):Prop:=∀(i:Nat)(e:Nat×Nat),es[i]? =some e->e.1<4294967296/\e.2<4294967296/\∃eb d,ea=some ⟨eb,d,none⟩/\w.cell? ⟨eb,d+i*2+0,none⟩=some (QL e.1)/\w.cell? ⟨eb,d+i*2+1,none⟩=some (QL e.2)
theorem EdR.ext (h:EdR w ea es)(d:Ext w w'):EdR w' ea es:=λi e r=>by
 obtain⟨l,m,eb,j,n,o,q⟩:=h i e r
 exact⟨l,m,eb,j,n,Rx d o,Rx d q⟩
end
theorem Sg.insert (h:Sg g){x:Nat}{s:List Nat}(C:g[f]? =some s)(D:x<g.length)(F:k<=s.length)(q:∀y∈s.take k,y<x)(r:∀y∈s.drop k,x<y):Sg (g.set f (s.take k++[x]++s.drop k)):=by
 have z:=y0i C
 have m:=h.ok s z
 have o:=h.lt s z
 have G:=h.n
 refine⟨λl j=>?_,λl j y d=>?_,by rw[y0A];exact h.n⟩
 ·rcases y3L j with e| e
  ·exact h.ok l e
  ·subst e;refine⟨?_,λy d=>?_⟩
   ·have A:List.Pairwise (·<·) s:=m.ris;show List.Pairwise (·<·) _;rw[y06,y3w];refine⟨A.sublist (y3e _ _),?_,λa u b v=>?_⟩
    ·rw[y3r,y1l];exact⟨r,A.sublist (y1q _ _)⟩
    ·rw[y3r] at v;rcases y0h.1 v with e| e
     ·rw[e];exact q a u
     ·exact Nat.lt_trans (q a u) (r b e)
   ·rcases y0x.1 d with e| e
    ·rcases y0x.1 e with e| e
     ·exact m.lt y (y18 e)
     ·rw[y0F.1 e];omega
    ·exact m.lt y (y20 e)
 ·rw[y0A];rcases y3L j with e| e
  ·exact h.lt l e y d
  ·subst e;rcases y0x.1 d with e| e
   ·rcases y0x.1 e with e| e
    ·exact o y (y18 e)
    ·rw[y0F.1 e];exact D
   ·exact o y (y20 e)
def Sg.empty {n:Nat}(j:n<=60):Sg (List.replicate n []):=
 ⟨λl d=>by rw[y3s d];exact⟨y1p,λy h=>(by cases h)⟩,λl d y e=>(by rw[y3s d] at e;cases e),by simpa using j⟩
theorem Q8.uniq {d:List Value}{T j:TypeId}(h:Q8 w b cs T)(m:Q8 w b d j):cs=d:=by
 obtain⟨o,n,-⟩:=h
 obtain⟨l,e,-⟩:=m
 rw[n] at e
 have:=SJ e
 injection this with e1 e2 e3
 have:=congrArg Array.toList e1
 simpa using this
theorem zaq {n:Nat}(cf:1<=n)(hn:n<=40){ec:Nat}(ui:es.length<=9000000000000000000)(hE:EdR w ea es):Qx prog 8 [I (n:Int),.slice ea es.length ec] w λv w'=>∃g bg,v= .slice (some ⟨bg,0,none⟩) g.length g.length/\g.length=n/\Sg g/\RwM w' bg w.heap.size g/\Ext w w':=by
 have fC:maxLen=9223372036854775807:=rfl
 refine py (e:=[(0,_),(1,_)]) func8 O ntmps8 O O<|qN O<|RZ O<|PX O O (pmk (c:=n) (n:=n) U23 VB O O O ω ω ω) ?_
 rintro _ w1⟨bg,rfl,⟨MY,ad,ah⟩,-⟩
 have fV:RwM w1 bg w.heap.size (List.replicate n []):=RwM.new ah
 refine Qe O<|It<|RY O<|PT<|SN (α:=Nat×List (List Nat)) (0,List.replicate n []) (λy=>[(0,I (n:Int)),(1,.slice ea es.length ec),(5,.slice (some ⟨bg,0,none⟩) n n),(6,I (y.1:Int))]) (λy w'=>y.1<=es.length/\y.2.length=n/\Sg y.2/\RwM w' bg w.heap.size y.2/\Ext w w') (λy=>es.length-y.1) ?hI ?hround
 case hI=>exact⟨y03 _,ξ,Sg.empty ω,fV,ad⟩
 case hround =>
  rintro⟨i,g⟩ w2 ⟨hi,E,t,cA,ae⟩ ih;dsimp only at hi E t cA ae ih⊢
  try dsimp only
  refine It<|RK O<|SS U22 O<|RT O<|PR<|Qa O (λhq=>?_)<|λhq=>?_
  ·have dp : i < es.length := by omega
   obtain⟨e,he⟩:∃e,es[i]? =some e:=⟨_,y07 dp⟩;obtain⟨P,Q,eb,eo,rfl,gW,fT⟩:=(hE.ext ae) i e he;refine PS (RU (It (RK O (qV (Rk U22 z5l O O ω) (Qf z8b O (qV (QH RO O O gW) (qV (QU O RO U3 ω) (Q4 O ?_))))))));by_cases hf:e.1<n
   ·by_cases ht:e.2<n
    ·refine UL O (QW (Qq O (Q4 O (qV (Rk U22 z5l O O ω) (Qf z2C O (qV (QH RO O O fT) (qV (QU O RO U3 ω) (Q4 O (UL O (QW ?_))))))))));obtain⟨s,hs⟩:∃s,g[e.1]? =some s:=⟨_,y07 ω⟩;obtain⟨a,c,g7,pi,eM,Pt⟩:=cA.cell hs;have ia:s.length<=n:=by rw[<-E];exact t.len (y0i hs)
     refine R0 O (Ri O (RK O (Q4 O (qV (Rk U22 z5l O O ω) (Qf z8b O (qV (QH RO O O gW) (qV (Rk U23 VB O O ω) (qV (QH QG O O g7) (Sb O (Qe O (RU ?_)))))))))));have uJ:List.Pairwise (·<·) s:=(t.ok s (y0i hs)).ris
     have Nl:∀(k y:Nat),s[k]? =some y->∀z∈s.drop k,y<=z:=λk y H z V=>by
      have j5:k<s.length:=by
       rcases y0a k s.length with h| h
       ·exact h
       ·rw[y0v h] at H;cases H
      have h1:List.Pairwise (·<·) (s.drop k):=uJ.sublist (y1q _ _);rw[y2l j5] at h1 V;rw[y07 j5] at H;cases H;rcases y0h.1 V with e| e
      ·omega
      ·exact Nat.le_of_lt ((y1l.1 h1).1 z e)
     refine T3 (λL w'=>∃k:Nat,L=[(0,I (n:Int)),(1,.slice (some ⟨eb,eo,none⟩) es.length ec),(5,.slice (some ⟨bg,0,none⟩) n n),(6,I (i:Int)),(7,.slice a s.length c),(8,I (k:Int))]/\k<=s.length/\(∀y∈s.take k,y<e.2)/\(∀y,s[k]? =some y->e.2<=y)/\Ext w2 w') ?ew<|λew=>?Gp
     case ew =>
      rintro L w3⟨k,rfl,U,kJ,et,W⟩;have m:=Ext.Qm w3;have ve:=eM.ext W;have vf:=Rx W fT;refine It<|QT (λL w'=>∃q,L=[(0,I (n:Int)),(1,.slice (some ⟨eb,eo,none⟩) es.length ec),(5,.slice (some ⟨bg,0,none⟩) n n),(6,I (i:Int)),(7,.slice a s.length c),(8,I (k:Int)),(76,.bool q)]/\(q=true->∀y∈s.drop k,e.2<y)/\Ext w2 w') ?dT<|λdT=>?kN
      case dT =>
       rintro L M⟨q,rfl,uL,aD⟩;have en:=cA.ext aD;have mK:=eM.ext aD;have Gk:=Rx aD gW;have Gl:=Rx aD fT;have bH:=ae.trans aD;refine Ru O (λC4=>?_)<|λC4=>?_
       ·have d:=Ext.Qm M;have r:=d.size;have IW:w.heap.size<=M.heap.size:=bH.size;have Nm:=en.lt
        have oE:((s.take k++[e.2])++s.drop k).length=s.length+1:=by
         rw[y01,y01,y0d,y08,y1u];omega
        have T:∀(l:List Nat),∀c∈l.map QL,c.oneCell'=true:=λl c u=>by obtain⟨z,-,rfl⟩:=y0g.1 u;rfl
        have ni:(s.take k).length=k:=by rw[y0d];omega
        have Ih:(s.drop k).length=s.length-k:=y08 ..;obtain⟨vs,rk,qB,-⟩:=id en.ex;refine Qp [23] (λw'=>Ext M w') y00 O (R1 0 O O d (R1 1 O O d (R1 2 O O d (Qs 3 O (Rk U22 z5l O O ω) d (Qs 4 O (QE z8b O) d (R1 7 O O d (R1 8 O O d (R1 11 O O d (R1 12 O O d (Qs 13 O (Rk U22 z5l O O ω) d (Qs 14 O (QE z2C O) d (R1 18 O O d (R1 19 O O d ?_)))))))))))));refine qL 5 O (λ_ h=>QH RO O O (Rx h Gk)) d<|Qs 9 O (zdO QG Qn O O ω) d<|qL 15 O (λ_ h=>QH RO O O (Rx h Gl)) d<|Qs 20 O (Zs QG Qn O O U pi) d<|Wp (i:=6) (j:=16) y00 ?_ ?_
        ·refine Rp (i:=6) O O O (YI (cs:=[]) (zs:=[]) QG Qn O y00 O O O ψ) ?_;rintro v6 w6⟨b6,rfl,⟨oY,K,aU⟩,B⟩;refine⟨d.trans K,?_⟩;have Gm:M.heap.size<=b6:=ω
         have a9:=aU.lt;have d:=d.trans K
         try have N:=N.ext K
         have r:=y0c r K.size;refine Wp (i:=10) (j:=16) y00 ?_ ?_
         ·refine Rp (i:=10) O O O (pap QG Qn O ψ O O B ((Ws (i:=k) mK U).ext d) (λc u=>T s c (y18 u)) ω ω) ?_;rintro J a3⟨S,R,D,-⟩;refine⟨d.An R (λj e=>by have e:b6=j:=SJ e;omega),?_⟩;have d:=d.An R (λj e=>by have e:b6=j:=SJ e;omega)
          try have N:=N.kp R (λj o e=>by have e:b6=j:=SJ e;have o:A=j:=SJ o;omega)
          have D:∀j,J.ownBlock=some j->M.heap.size<=j:=λj o=>by rcases D j o with e|e;(have e:b6=j:=SJ e;omega);omega
          have r:=y0c r R.size;have AE:=λ(j:Nat) (o:J.ownBlock=some j)=>S.lt o;refine RM (i:=16) y00 (Rp (i:=16) O O O (YI (cs:=[_]) (zs:=[Value.int .u32 0]) QG Qn O y00 O O O ψ) ?_);rintro a1 a4⟨A,rfl,⟨vg,C,iX⟩,N⟩;refine⟨d.trans C,?_⟩;have AF:M.heap.size<=A:=ω
          have d:=d.trans C
          try have B:=B.ext C
          try have S:=S.ext C
          have a0:=iX.lt;have r:=y0c r C.size;refine RM (i:=17) y00 (Rp (i:=17) O O O (pap QG Qn O ψ O O S N.rd (λc u=>T [e.2] c u) ω ω) ?_);rintro b a5⟨iE,Y,F,-⟩;refine⟨d.An Y (λj e=>D j e),?_⟩;have d:=d.An Y (λj e=>D j e);have F:∀j,b.ownBlock=some j->M.heap.size<=j:=λj o=>by rcases F j o with e|e;exact D j e;omega
          have r:=y0c r Y.size;refine RM (i:=21) y00 (Rp (i:=21) O O O (pap QG Qn O ψ O O iE ((Vc (i:=k) mK U pi).ext d) (λc u=>T s c (y20 u)) ω ω) ?_);rintro p a6⟨G,jD,Z,-⟩;refine⟨d.An jD (λj e=>F j e),?_⟩;have d:=d.An jD (λj e=>F j e);have Z:∀j,p.ownBlock=some j->M.heap.size<=j:=λj o=>by rcases Z j o with e|e;exact F j e;omega
          refine Qs 22 O (Rk U23 VB O O ω) d ?_;have jE:=d.PO rk;refine U0 [23] (qO 23 (QQ (i:=23) O O (S0 VB O O (Yb G) jE (by rw[qB];omega)) ?_));rintro a7⟨cQ,X⟩;refine⟨trivial,?_⟩;refine qE<|PN<|Sv O<|Ra O<|Qe O ?_;rw[show 0+k+1+(s.length-k)=(s.take k++[e.2]++s.drop k).length by rw[oE];omega,show([]++List.take k (s.map QL)++[QL e.2]++List.drop k (s.map QL))=(s.take k++[e.2]++s.drop k).map QL by simp[y1m,y21]] at G;obtain⟨ra,rc,rfl,-⟩:=G.rd.shape
          have sL:(s.take k++[e.2]++s.drop k).length<=rc:=by
           rcases G.shape with⟨P,Q⟩|⟨gg,cc,P,Q⟩
           ·omega
           ·cases P;exact Q
          have oF:=(en.ext d).set X (f:=e.1) (l:=s.take k++[e.2]++s.drop k) (a:=ra) (c:=rc) (λa2 h'=>by rw[Q8.uniq h' jE];exact cQ) ω sL G.rd (λj o=>by have:=Z j o;omega);have oG:=t.insert hs (x:=e.2) (k:=k) ω U kJ (uL C4);exact(ih (i+1,g.set e.1 (s.take k++[e.2]++s.drop k)) _ ⟨ω,by rw[y0A];exact E,oG,oF,(bH.trans d).An X (λj e=>ω)⟩ ω).qb
         ·refine Rp (i:=16) O O O (YI (cs:=[_]) (zs:=[Value.int .u32 0]) QG Qn O y00 O O O ψ) ?_;rintro a1 a4⟨A,rfl,⟨vg,C,iX⟩,N⟩;refine⟨d.trans C,?_⟩;have AF:M.heap.size<=A:=ω
          have d:=d.trans C
          try have B:=B.ext C
          try have S:=S.ext C
          have a0:=iX.lt;have r:=y0c r C.size;refine RM (i:=10) y00 (Rp (i:=10) O O O (pap QG Qn O ψ O O B ((Ws (i:=k) mK U).ext d) (λc u=>T s c (y18 u)) ω ω) ?_);rintro J a3⟨S,R,D,-⟩;refine⟨d.An R (λj e=>by have e:b6=j:=SJ e;omega),?_⟩;have d:=d.An R (λj e=>by have e:b6=j:=SJ e;omega)
          try have N:=N.kp R (λj o e=>by have e:b6=j:=SJ e;have o:A=j:=SJ o;omega)
          have D:∀j,J.ownBlock=some j->M.heap.size<=j:=λj o=>by rcases D j o with e|e;(have e:b6=j:=SJ e;omega);omega
          have r:=y0c r R.size;have AE:=λ(j:Nat) (o:J.ownBlock=some j)=>S.lt o;refine RM (i:=17) y00 (Rp (i:=17) O O O (pap QG Qn O ψ O O S N.rd (λc u=>T [e.2] c u) ω ω) ?_);rintro b a5⟨iE,Y,F,-⟩;refine⟨d.An Y (λj e=>D j e),?_⟩;have d:=d.An Y (λj e=>D j e);have F:∀j,b.ownBlock=some j->M.heap.size<=j:=λj o=>by rcases F j o with e|e;exact D j e;omega
          have r:=y0c r Y.size;refine RM (i:=21) y00 (Rp (i:=21) O O O (pap QG Qn O ψ O O iE ((Vc (i:=k) mK U pi).ext d) (λc u=>T s c (y20 u)) ω ω) ?_);rintro p a6⟨G,jD,Z,-⟩;refine⟨d.An jD (λj e=>F j e),?_⟩;have d:=d.An jD (λj e=>F j e);have Z:∀j,p.ownBlock=some j->M.heap.size<=j:=λj o=>by rcases Z j o with e|e;exact F j e;omega
          refine Qs 22 O (Rk U23 VB O O ω) d ?_;have jE:=d.PO rk;refine U0 [23] (qO 23 (QQ (i:=23) O O (S0 VB O O (Yb G) jE (by rw[qB];omega)) ?_));rintro a7⟨cQ,X⟩;refine⟨trivial,?_⟩;refine qE<|PN<|Sv O<|Ra O<|Qe O ?_;rw[show 0+k+1+(s.length-k)=(s.take k++[e.2]++s.drop k).length by rw[oE];omega,show([]++List.take k (s.map QL)++[QL e.2]++List.drop k (s.map QL))=(s.take k++[e.2]++s.drop k).map QL by simp[y1m,y21]] at G;obtain⟨ra,rc,rfl,-⟩:=G.rd.shape
          have sL:(s.take k++[e.2]++s.drop k).length<=rc:=by
           rcases G.shape with⟨P,Q⟩|⟨gg,cc,P,Q⟩
           ·omega
           ·cases P;exact Q
          have oF:=(en.ext d).set X (f:=e.1) (l:=s.take k++[e.2]++s.drop k) (a:=ra) (c:=rc) (λa2 h'=>by rw[Q8.uniq h' jE];exact cQ) ω sL G.rd (λj o=>by have:=Z j o;omega);have oG:=t.insert hs (x:=e.2) (k:=k) ω U kJ (uL C4);exact(ih (i+1,g.set e.1 (s.take k++[e.2]++s.drop k)) _ ⟨ω,by rw[y0A];exact E,oG,oF,(bH.trans d).An X (λj e=>ω)⟩ ω).qb
        ·refine Rp (i:=16) O O O (YI (cs:=[_]) (zs:=[Value.int .u32 0]) QG Qn O y00 O O O ψ) ?_;rintro a1 a4⟨A,rfl,⟨vg,C,iX⟩,N⟩;refine⟨d.trans C,?_⟩;have AF:M.heap.size<=A:=ω
         have d:=d.trans C
         try have B:=B.ext C
         try have S:=S.ext C
         have a0:=iX.lt;have r:=y0c r C.size;refine RM (i:=6) y00 (Rp (i:=6) O O O (YI (cs:=[]) (zs:=[]) QG Qn O y00 O O O ψ) ?_);rintro v6 w6⟨b6,rfl,⟨oY,K,aU⟩,B⟩;refine⟨d.trans K,?_⟩;have Gm:M.heap.size<=b6:=ω
         have a9:=aU.lt;have d:=d.trans K
         try have N:=N.ext K
         have r:=y0c r K.size;refine RM (i:=10) y00 (Rp (i:=10) O O O (pap QG Qn O ψ O O B ((Ws (i:=k) mK U).ext d) (λc u=>T s c (y18 u)) ω ω) ?_);rintro J a3⟨S,R,D,-⟩;refine⟨d.An R (λj e=>by have e:b6=j:=SJ e;omega),?_⟩;have d:=d.An R (λj e=>by have e:b6=j:=SJ e;omega)
         try have N:=N.kp R (λj o e=>by have e:b6=j:=SJ e;have o:A=j:=SJ o;omega)
         have D:∀j,J.ownBlock=some j->M.heap.size<=j:=λj o=>by rcases D j o with e|e;(have e:b6=j:=SJ e;omega);omega
         have r:=y0c r R.size;have AE:=λ(j:Nat) (o:J.ownBlock=some j)=>S.lt o;refine RM (i:=17) y00 (Rp (i:=17) O O O (pap QG Qn O ψ O O S N.rd (λc u=>T [e.2] c u) ω ω) ?_);rintro b a5⟨iE,Y,F,-⟩;refine⟨d.An Y (λj e=>D j e),?_⟩;have d:=d.An Y (λj e=>D j e);have F:∀j,b.ownBlock=some j->M.heap.size<=j:=λj o=>by rcases F j o with e|e;exact D j e;omega
         have r:=y0c r Y.size;refine RM (i:=21) y00 (Rp (i:=21) O O O (pap QG Qn O ψ O O iE ((Vc (i:=k) mK U pi).ext d) (λc u=>T s c (y20 u)) ω ω) ?_);rintro p a6⟨G,jD,Z,-⟩;refine⟨d.An jD (λj e=>F j e),?_⟩;have d:=d.An jD (λj e=>F j e);have Z:∀j,p.ownBlock=some j->M.heap.size<=j:=λj o=>by rcases Z j o with e|e;exact F j e;omega
         refine Qs 22 O (Rk U23 VB O O ω) d ?_;have jE:=d.PO rk;refine U0 [23] (qO 23 (QQ (i:=23) O O (S0 VB O O (Yb G) jE (by rw[qB];omega)) ?_));rintro a7⟨cQ,X⟩;refine⟨trivial,?_⟩;refine qE<|PN<|Sv O<|Ra O<|Qe O ?_;rw[show 0+k+1+(s.length-k)=(s.take k++[e.2]++s.drop k).length by rw[oE];omega,show([]++List.take k (s.map QL)++[QL e.2]++List.drop k (s.map QL))=(s.take k++[e.2]++s.drop k).map QL by simp[y1m,y21]] at G;obtain⟨ra,rc,rfl,-⟩:=G.rd.shape
         have sL:(s.take k++[e.2]++s.drop k).length<=rc:=by
          rcases G.shape with⟨P,Q⟩|⟨gg,cc,P,Q⟩
          ·omega
          ·cases P;exact Q
         have oF:=(en.ext d).set X (f:=e.1) (l:=s.take k++[e.2]++s.drop k) (a:=ra) (c:=rc) (λa2 h'=>by rw[Q8.uniq h' jE];exact cQ) ω sL G.rd (λj o=>by have:=Z j o;omega);have oG:=t.insert hs (x:=e.2) (k:=k) ω U kJ (uL C4);exact(ih (i+1,g.set e.1 (s.take k++[e.2]++s.drop k)) _ ⟨ω,by rw[y0A];exact E,oG,oF,(bH.trans d).An X (λj e=>ω)⟩ ω).qb
       ·refine PS<|PN<|Sv O<|Ra O<|Qe O ?_;exact(ih (i+1,g) _ ⟨ω,E,t,en,bH⟩ ω).qb
      case kN=>
       refine Sq (λw'=>Ext w3 w') O<|Ql 0 O O m<|Ql 1 O O m<|PV 2 O (TM QG O) m ?_;by_cases eT:k=s.length
       ·refine PV 3 O (yeq O O) m<|Vn<|Ql 4 O O m<|qJ 5 O m<|qJ 6 O m<|qJ 7 O m<|qJ 8 O m<|qJ 9 O m<|qJ 10 O m<|qJ 11 O m<|qJ 12 O m<|qJ 13 O m<|qJ 14 O m<|PV 15 O (WA O O) m ?_;refine qE ?_;exact(dT _ _ ⟨true,O,λ_ y H=>(by rw[eT,List.drop_length] at H;cases H),W.trans m⟩).qb
       ·obtain⟨y,H⟩:∃y,s[k]? =some y:=⟨_,y07 ω⟩;rcases ve.2 with⟨⟨ca,cc⟩,ip,wV⟩|⟨lb,lo,cap,ip,f7⟩
        ·omega
        cases ip;have Gn:w3.cell? ⟨lb,lo+k*1,none⟩=some (QL y):=f7 (k*1) _ (by rw[y0p,y0m,H];rfl);refine PV 3 O (yeq O O) m (Vm (Ql 4 O O (m) (Ql 5 O O (m) (Ql 6 O O (m) (PV 7 O (Rk QG Qn O O ω) m (Ql 9 O O (m) (Ql 10 O O (m) (PV 11 O (Rk U22 z5l O O ω) m (PV 12 O (QE z2C O) m (qT 8 O (λ_ h=>QH RO O O (Rx h Gn)) m (qT 13 O (λ_ h=>QH RO O O (Rx h vf)) m ?_)))))))))));have AG:=et y H;by_cases I8:y=e.2
        ·refine PV 14 O (yne O O) m<|Vm<|PV 15 O (VF O O) m<|qE ?_;exact(dT _ _ ⟨false,O,λe=>(by cases e),W.trans m⟩).qb
        ·refine PV 14 O (yne O O) m<|Vn<|PV 15 O (VF O O) m<|qE ?_;exact(dT _ _ ⟨true,O,λ_ z V=>(by have:=Nl k y H z V;omega),W.trans m⟩).qb
     case Gp=>
      refine SN (α:=Nat) (0) (λk=>[(0,I (n:Int)),(1,.slice (some ⟨eb,eo,none⟩) es.length ec),(5,.slice (some ⟨bg,0,none⟩) n n),(6,I (i:Int)),(7,.slice a s.length c),(8,I (k:Int))]) (λk w'=>k<=s.length/\(∀y∈s.take k,y<e.2)/\Ext w2 w') (λk=>s.length-k) ?hI ?hround
      case hI=>exact⟨y03 _,λy H=>(by simp at H),Ext.refl _⟩
      case hround=>
       rintro k w3⟨U,kJ,W⟩ a8;have m:=Ext.Qm w3;have ve:=eM.ext W;have vf:=Rx W fT
       try dsimp only
       refine It<|It<|Sq (λw'=>Ext w3 w') O<|Ql 0 O O m<|Ql 1 O O m<|PV 2 O (TM QG O) m ?_;by_cases j5:k<s.length
       ·obtain⟨y,H⟩:∃y,s[k]? =some y:=⟨_,y07 j5⟩;rcases ve.2 with⟨⟨ca,cc⟩,ip,wV⟩|⟨lb,lo,cap,ip,f7⟩
        ·omega
        cases ip;have Gn:w3.cell? ⟨lb,lo+k*1,none⟩=some (QL y):=f7 (k*1) _ (by rw[y0p,y0m,H];rfl);refine PV 3 O (ylt O O) m (Vn (Ql 4 O O (m) (Ql 5 O O (m) (Ql 6 O O (m) (PV 7 O (Rk QG Qn O O ω) m (Ql 9 O O (m) (Ql 10 O O (m) (PV 11 O (Rk U22 z5l O O ω) m (PV 12 O (QE z2C O) m (qT 8 O (λ_ h=>QH RO O O (Rx h Gn)) m (qT 13 O (λ_ h=>QH RO O O (Rx h vf)) m ?_)))))))))));by_cases AG:y<e.2
        ·refine PV 14 O (ylt O O) m (Vn (PV 15 O (WA O O) m (qE (Qb O (PS (PT (Sv O (Ra O (Qe O (PN ((a8 (k+1) _ ⟨ω,λz V=>?_,W.trans m⟩ ω).qb)))))))))));rw[R4 H] at V;rcases y0x.1 V with L|L
         ·exact kJ z L
         ·rw[y0F.1 L];exact AG
        ·refine PV 14 O (ylt O O) m<|Vm<|PV 15 O (WA O O) m<|qE<|PW O<|Q7 O ?_;exact(ew _ _ ⟨k,O,U,kJ,λz V=>(by rw[H] at V;cases V;omega),W.trans m⟩).qb
       ·refine PV 3 O (ylt O O) m<|Vm<|Ql 4 O O m<|qJ 5 O m<|qJ 6 O m<|qJ 7 O m<|qJ 8 O m<|qJ 9 O m<|qJ 10 O m<|qJ 11 O m<|qJ 12 O m<|qJ 13 O m<|qJ 14 O m<|PV 15 O (VF O O) m ?_;refine qE<|PW O<|Q7 O ?_;exact(ew _ _ ⟨k,O,U,kJ,λz V=>(by rw[y0v ω] at V;cases V),W.trans m⟩).qb
    ·refine UL O (QW (Qq O (Q4 O (qV (Rk U22 z5l O O ω) (Qf z2C O (qV (QH RO O O fT) (qV (QU O RO U3 ω) (Q4 O (UL O (SD (R0 O (PR (Qb O ?_)))))))))))));refine Q7 O<|Sv O<|Ra O<|Qe O ?_;exact(ih (i+1,g) _ ⟨ω,E,t,cA,ae⟩ ω).qb
   ·refine UL O<|SD<|Q4 O<|Sc<|Sc<|Sc<|Sc<|Sh O<|PR<|Qb O<|Q7 O<|Sv O<|Ra O<|Qe O ?_;exact(ih (i+1,g) _ ⟨ω,E,t,cA,ae⟩ ω).qb
  ·refine Q7 O<|Qz O<|Qe O<|PQ func8 O ?_;exact⟨_,O,g,bg,by rw[E];rfl,E,t,cA,ae⟩
def WH (g:List (List Nat))(v i u:Nat):List Nat:=(List.range v).filter (λx=>decide (u∈Qd g x))++(if u∈(Qd g v).take i then [v] else [])
def VM (g:List (List Nat))(v i:Nat):List (List Nat):=(List.range g.length).map (WH g v i)
def R5 (g:List (List Nat)):List (List Nat):=VM g g.length 0
def z8i (g:List (List Nat))(v u:Nat):WH g v (Qd g v).length u=WH g (v+1) 0 u:=by
 unfold WH
 rw[y0L,y0T,List.filter_append]
 by_cases h:u∈Qd g v<;>simp[h]
theorem UB (g:List (List Nat))(v i:Nat):(VM g v i).length=g.length:=by simp[VM]
theorem WO (g:List (List Nat))(v i:Nat){u:Nat}(d:u<g.length):(VM g v i)[u]? =some (WH g v i u):=by
 unfold VM
 rw[y0m,y1E d];rfl
def za5 (g:List (List Nat))(v i u:Nat):(WH g v i u).length<=v+1:=by
 unfold WH
 have d:=y3g (λx=>decide (u∈Qd g x)) (List.range v)
 rw[y17] at d
 rw[y01]
 split<;>simp<;>omega
theorem za3 (l:Sg g){v u:Nat}(d:(Qd g v)[i]? =some u):(VM g v i).set u (WH g v i u++[v])=VM g v (i+1):=by
 have q:=Vj l v u (y0i d)
 have r:u∉(Qd g v).take i:=λh=>by
  have m:v<g.length:=by
   rcases y0a v g.length with h| h
   ·exact h
   ·unfold Qd at d;rw[y0v h] at d;cases d
  have z:List.Pairwise (·<·) (Qd g v):=by
   unfold Qd;rw[y07 m];exact(l.ok _ (y1s m)).ris
  have y:=R4 d;have n:List.Pairwise (·<·) ((Qd g v).take (i+1)):=z.sublist (y3e _ _);rw[y,y3w] at n;have:=n.2.2 u h u y0r;omega
 apply y1t
 intro x
 by_cases j:u=x
 ·subst j;rw[y1d (by rw[UB];exact q),WO _ _ _ q]
  congr 1
  unfold WH;rw[if_neg r,y0o,R4 d,if_pos ξ]
 ·rw[y0W j];by_cases o:x<g.length
  ·rw[WO _ _ _ o,WO _ _ _ o]
   congr 1
   unfold WH
   congr 1
   rw[R4 d]
   have:x∈(Qd g v).take i++[u]↔x∈(Qd g v).take i:=by
    rw[y0x,y0F];exact⟨λe=>e.resolve_right λe=>j e.symm,.inl⟩
   simp only[this]
  ·rw[y0v (by rw[UB];omega),y0v (by rw[UB];omega)]
theorem z0B (g:List (List Nat)){u:Nat}(d:u<g.length):(R5 g)[u]? =some ((List.range g.length).filter λx=>decide (u∈Qd g x)):=by
 unfold R5
 rw[WO _ _ _ d]
 unfold WH
 rw[y2A,if_neg ξ,y0o]
theorem SW (g:List (List Nat)):(R5 g).length=g.length:=UB _ _ _
def zbG (h:Sg g):Sg (R5 g):=by
 have q:=SW g
 have m:∀l∈R5 g,∃u,l=(List.range g.length).filter λx=>decide (u∈Qd g x):=λl d=>by
  obtain⟨u,e⟩:=y2U d
  have o:u<g.length:=by
   rcases y0a u g.length with h| h
   ·exact h
   ·rw[y0v ω] at e;cases e
  rw[z0B g o] at e;exact⟨u,(SJ e).symm⟩
 have r:=h.n
 refine⟨λl d=>?_,λl d y j=>?_,ω⟩
 ·obtain⟨u,rfl⟩:=m l d;exact⟨(List.pairwise_lt_range).sublist y1T,λy j=>by have:=y0Q.1 (y1o.1 j).1;omega⟩
 ·obtain⟨u,rfl⟩:=m l d;have:=y0Q.1 (y1o.1 j).1;omega
structure RwA (w:World)(bg B:Nat)(L:List (List Nat)):Prop where
 ex:∃vs:List Value,Q8 w bg vs 40/\vs.length=L.length/\(∀(i:Nat)(l:List Nat),L[i]? =some l->∃v:Value,vs[i]? =some v/\Sl w v 42 1 l.length (l.map QL)/\∀b,v.ownBlock=some b->B<=b/\b≠bg)/\∀(i j:Nat)(vi vj:Value) (b:Nat),i≠j->vs[i]? =some vi->vs[j]? =some vj->vi.ownBlock=some b->vj.ownBlock≠some b
section
variable {L:List (List Nat)}
theorem RwA.new {n:Nat}(h:Q8 w bg (List.replicate n (.slice none 0 0)) 40):RwA w bg B (List.replicate n []):=by
 refine⟨_,h,ξ,λi l e=>?_,λi j m o b _ hi _ d=>?_⟩
 ·rw[y1b] at e;split at e
  ·rename_i hi
   cases e;exact⟨.slice none 0 0,by rw[y1b,if_pos hi],Sl.nil w _ 1,λb d=>by cases d⟩
  ·cases e
 ·have:=y0i hi;rw[y3s this] at d;cases d
theorem RwA.rw (h:RwA w bg B L):RwM w bg B L:=by
 obtain⟨vs,o,q,r,x⟩:=h.ex
 refine⟨vs,o,q,λi l u=>?_⟩
 obtain⟨v,m,d,n⟩:=r i l u
 obtain⟨a,c,rfl,-⟩:=d.rd.shape
 refine⟨a,c,m,?_,d.rd,n⟩
 rcases d.shape with⟨e,j⟩|⟨gg,cc,e,j⟩
 ·omega
 ·cases e;exact j
theorem RwA.put {w2:World}(h:RwA w bg B L){u:Nat}{l l':List Nat}{v x:Value}{vs:List Value}(s:Q8 w bg vs 40)(J:L[u]? =some l)(F:vs[u]? =some v)(p:Kp (λb=>v.ownBlock=some b) w w')(k:Sl w' x 42 1 l'.length (l'.map QL))(I:∀b,x.ownBlock=some b->v.ownBlock=some b\/w.heap.size<=b)(S:Kp (λb=>b=bg) w' w2)(hB:Q8 w2 bg (vs.set (0+u*1) x) 40)(P:B<=w.heap.size):RwA w2 bg B (L.set u l'):=by
 obtain⟨y,Y,q,H,A⟩:=h.ex
 have c:=Y.uniq s
 subst c
 rw[y0k,y0p] at hB
 obtain⟨Q,W,K,g⟩:=H u l J
 rw[F] at W
 cases W
 have E:=Y.lt
 have G:u<L.length:=by
  rcases y0a u L.length with h| h
  ·exact h
  ·rw[y0v h] at J;cases J
 have O:∀b,x.ownBlock=some b->B<=b/\b≠bg:=λb d=>by
  rcases I b d with e| e
  ·exact g b e
  ·omega
 have R:∀(j:Nat)(n:Value) (b:Nat),y[j]? =some n->n.ownBlock=some b->b<w.heap.size:=λj n b m d=>by
  obtain⟨N,a⟩:∃N,L[j]? =some N:=⟨_,y07 (by
   rw[<-q];rcases y0a j y.length with h| h
   ·exact h
   ·rw[y0v h] at m;cases m)⟩
  obtain⟨t,r,M,-⟩:=H j N a;rw[m] at r;cases r;exact M.lt d
 refine⟨_,hB,by simp[q],λi li D=>?_,λi j o n b C hi m d=>?_⟩
 ·by_cases e:u=i
  ·subst e;rw[y1d G] at D;cases D;exact⟨x,y1d (by rw[q];exact G),k.kp S (λb d e=>(O b d).2 e),O⟩
  ·rw[y0W e] at D;obtain⟨o,r,M,Z⟩:=H i li D;exact⟨o,by rw[y0W e];exact r,(M.kp p (λb d f=>A u i v o b e F r f d)).kp S (λb d e=>(Z b d).2 e),Z⟩
 ·by_cases U:u=i
  ·subst U;rw[y1d (by rw[q];exact G)] at hi;cases hi;rw[y0W C] at m;intro z;rcases I b d with e| e
   ·exact A u j v n b C F m e z
   ·have:=R j n b m z;omega
  ·rw[y0W U] at hi;by_cases V:u=j
   ·subst V;rw[y1d (by rw[q];exact G)] at m;cases m;intro z;rcases I b z with e| e
    ·exact A i u o v b C hi F d e
    ·have:=R i o b hi d;omega
   ·rw[y0W V] at m;exact A i j o n b C hi m d
end
theorem z7p (y:Sg g){go:Nat}(hg:GrR w gb go g):Qx prog 22 [.slice (some ⟨gb,go,none⟩) g.length gc] w λv w'=>∃j,v= .slice (some ⟨j,0,none⟩) g.length g.length/\RwM w' j w.heap.size (R5 g)/\Ext w w':=by
 have fC:maxLen=9223372036854775807:=rfl
 have hn:=y.n
 refine py (e:=[(0,_)]) func22 O ntmps22 O O<|qN O<|RZ O<|SS U23 O<|PX O O (pmk (c:=g.length) (n:=g.length) U23 VB O O O ω ω ω) ?_
 rintro _ w1⟨j,rfl,⟨pu,K,P⟩,-⟩
 have fV:RwA w1 j w.heap.size (VM g 0 0):=by
  have e:VM g 0 0=List.replicate g.length []:=by
   apply y2n<;>simp[VM,WH]
  rw[e];exact RwA.new P
 refine Qe O<|It<|RY O<|PT<|SN (α:=Nat) (0) (λv=>[(0,.slice (some ⟨gb,go,none⟩) g.length gc),(3,.slice (some ⟨j,0,none⟩) g.length g.length),(4,I (v:Int))]) (λv w'=>v<=g.length/\RwA w' j w.heap.size (VM g v 0)/\Ext w w') (λv=>g.length-v) ?hI ?hround
 case hI=>exact⟨y03 _,fV,K⟩
 case hround =>
  rintro v w2⟨hv,Z,Y⟩ ih
  try dsimp only
  refine It<|RK O<|SS U23 O<|RT O<|PR<|Qa O (λhq=>?_)<|λhq=>?_
  ·have C:v<g.length:=ω
   have k:g[v]? =some (Qd g v):=by unfold Qd;rw[y07 C];rfl
   have ia:(Qd g v).length<=g.length:=y.len (y0i k);refine PS<|RU<|RY O<|PT<|SN (α:=Nat) (0) (λi=>[(0,.slice (some ⟨gb,go,none⟩) g.length gc),(3,.slice (some ⟨j,0,none⟩) g.length g.length),(4,I (v:Int)),(5,I (i:Int))]) (λi w'=>i<=(Qd g v).length/\RwA w' j w.heap.size (VM g v i)/\Ext w w') (λi=>(Qd g v).length-i) ?hI ?hround
   case hI=>exact⟨y03 _,Z,Y⟩
   case hround=>
    rintro i q⟨hi,H,l⟩ J;obtain⟨a,c,D,X⟩:=hg v _ k;have d:=Ext.Qm q
    try dsimp only
    refine It<|RK O<|Q4 O<|qV (Rk U23 VB O O ω)<|qV (QH QG O O (Rx l D))<|SS QG O<|RT O<|PR<|Qa O (λi9=>?_)<|λi9=>?_
    ·obtain⟨u,G⟩:∃u,(Qd g v)[i]? =some u:=⟨_,y07 ω⟩;obtain⟨lb,lo,rfl,R⟩:=X i u G;have pB:u<g.length:=Vj y v u (y0i G);have S:=WO g v i pB;have lA:=za5 g v i u;obtain⟨vs,N,qB,jX,Gq⟩:=id H.ex;obtain⟨o,U,t,r⟩:=jX u _ S
     have B:∀{w':World},Kp (λb=>o.ownBlock=some b) q w'->w'.cell? ⟨j,0+u*1,none⟩=some o:=λF=>by
      rw[(F.PO N (λe=>(r _ e).2 O)).cell,y0k,y0p];exact U
     have z3:=l.size;refine PS<|RU ?_;have x:∀{w':World},Kp (λb=>o.ownBlock=some b) q w'->Ext w w':=λF=>l.An F (λb e=>(r b e).1);refine Qp [23] (λw'=>Kp (λb=>o.ownBlock=some b) q w') y00 O (R1 0 O O d.kp (R1 1 O O d.kp (R1 2 O O d.kp (Qs 3 O (Rk U23 VB O O ω) d.kp (R1 5 O O d.kp (R1 8 O O d.kp (R1 9 O O d.kp (R1 10 O O d.kp (Qs 11 O (Rk U23 VB O O ω) d.kp (R1 13 O O d.kp (R1 18 O O d.kp (Qs 19 O (z3K O U3 RO) d.kp (qL 4 O (λ_ h=>QH QG O O (Rx (x h) D)) d.kp ?_)))))))))))));refine qL 12 O (λ_ h=>QH QG O O (Rx (x h) D)) d.kp (Qs 6 O (Rk QG Qn O O ω) d.kp (Qs 14 O (Rk QG Qn O O ω) d.kp (qL 7 O (λ_ h=>QH RO O O (Rx (x h) R)) d.kp (qL 15 O (λ_ h=>QH RO O O (Rx (x h) R)) d.kp (Qs 16 O (Rk U23 VB O O ω) d.kp (qL 17 O (λ_ h=>QH QG O O (B h)) d.kp ?_))))));rw[y0e (show v<4294967296 by omega)];refine RM (i:=20) y00 (Rp (i:=20) O O O (YI (cs:=[_]) (zs:=[Value.int .u32 0]) QG Qn O y00 O O O ψ) ?_);rintro v4 w4⟨b4,rfl,⟨fD,V,aJ⟩,T⟩;refine⟨d.kp.trans V.kp,?_⟩;have m:=d.trans V;refine RM (i:=21) y00 (Rp (i:=21) O O O (pap QG Qn O ψ O O (t.ext m) T.rd (λc hc=>by obtain⟨z,-,rfl⟩:=y0g.1 (show c∈[v].map QL from hc);rfl) ω ω) ?_);rintro v5 w5⟨p,A,tN,-⟩;refine⟨m.kp.trans A,?_⟩;have M:Kp (λb=>o.ownBlock=some b) q w5:=m.kp.trans A;have a0:=m.size;have s:=M.PO N (λe=>(r _ e).2 O);refine Qs 22 O (Rk U23 VB O O ω) (m.kp.trans A) (U0 [23] (qO 23 (QQ (i:=23) O O (S0 VB O O (Yb p) s (by rw[qB,UB];omega)) ?_)));rintro w6⟨E,W⟩;refine⟨trivial,?_⟩;have f:=H.put (l':=WH g v i u++[v]) N S U M (by rw[y01,y0f];exact p) (λb hb=>(tN b hb).imp id λe=>ω) W E z3;rw[za3 y G] at f;refine qE<|PN<|Sv O<|Ra O<|Qe O ?_;exact(J (i+1) _ ⟨ω,f,(l.An M (λb e=>(r b e).1)).An W (λb e=>ω)⟩ ω).qb
    ·have Q:i=(Qd g v).length:=ω
     subst Q;refine Q7 O<|PN<|Sv O<|Ra O<|Qe O ?_
     have e:VM g v (Qd g v).length=VM g (v+1) 0:=by
      unfold VM;exact y0N λu _=>z8i g v u
     exact(ih (v+1) _ ⟨ω,by rw[<-e];exact H,l⟩ ω).qb
  ·have C:v=g.length:=ω
   subst C;refine Q7 O<|Qz O<|Qe O<|PQ func22 O ?_;exact⟨_,O,j,O,Z.rw,Y⟩
def z4y (z:Int)(d:JIq z)(w:World):Qx prog 9 [I z] w λv w'=>∃n:Nat,v=I (n:Int)/\1<=n/\n<=40/\w'=w:=by
 have h:=UW z 40 ψ
 have j:=WQ z 40 ψ
 refine py (e:=[(0,_)]) func9 O ntmps9 O O<|qN O<|RZ O<|qV (yrt O O ψ)<|Ra O<|qV (yrt O O ψ) ?_
 rw[show(z.tmod 40+40).tmod 40=nrm z 40 from rfl]
 refine Ra O<|Qe O<|PQ func9 O ?_
 exact⟨_,O,(1+nrm z 40).toNat,by rw[Int.toNat_of_nonneg ω];rfl,ω,ω,rfl⟩
def z9e:RE:=⟨7,3,3,3,64⟩
def z8Z:RE:=⟨0,0,2,1,64⟩
def z9P:RE:=⟨2,1,4,2,3⟩
theorem z6s (z:Int)(C:JIq z)(w:World):Qx prog 34 [I z] w λv w'=>∃p:RE,v=bpV p/\p.RN/\p.zeta<=3/\Ext w w':=by
 have F:=UW z 3 ψ
 have G:=WQ z 3 ψ
 refine py (e:=[(0,_)]) func34 O ntmps34 O O<|qN O<|PX O O (SE (cs:=[_,_,_,_,_]) SV O) ?_
 rintro _ w1⟨b2,rfl,y,m,r⟩
 refine qM O<|qV (To (cs:=[_,_,_,_,_]) SV O zee O O)<|qV (To (cs:=[_,_,_,_,_]) SV O zee O O)<|qV (To (cs:=[_,_,_,_,_]) SV O zee O O)<|PX O O (YI (cs:=[_,_,_,_,_,_,_,_,_,_,_,_,_,_,_]) (zs:=[Value.int .i64 0,Value.int .i64 0,Value.int .i64 0,Value.int .i64 0,Value.int .i64 0,Value.int .i64 0,Value.int .i64 0,Value.int .i64 0,Value.int .i64 0,Value.int .i64 0,Value.int .i64 0,Value.int .i64 0,Value.int .i64 0,Value.int .i64 0,Value.int .i64 0]) zdW SV O y00 O O O ψ) ?_
 rintro _ w2⟨b3,rfl,⟨A,l,o⟩,-⟩
 refine Q4 O<|qV (yrt O O ψ)<|Ra O<|qV (yrt O O ψ) ?_
 rw[show(z.tmod 3+3).tmod 3=nrm z 3 from rfl]
 have q:=l.PO r
 have x:nrm z 3=((0:Nat):Int)\/nrm z 3=((1:Nat):Int)\/nrm z 3=((2:Nat):Int):=ω
 have D:=r.lt
 rcases x with e|e| e
 ·rw[e];refine qV (Rk zdW SV O O ω) (qV (QB (news:=WC z9e) Z4 O SV O (Q8.cells (i:=0+0*5) (n:=5) o O) O) (Qc O (QX (news:=WC z9e) SV O O O O q ξ) ?_));rintro u⟨h,d⟩;refine PR<|Qy func34 (.cell Z4 O SV O (Q8.cells (n:=5) h (news:=[_,_,_,_,_]) O) O .nil) ?_;exact⟨_,O,z9e,O,by unfold RE.RN Te.RN z9e RE.list;decide,ψ,(m.trans l).An d (λj e=>ω)⟩
 ·rw[e];refine qV (Rk zdW SV O O ω) (qV (QB (news:=WC z8Z) Z4 O SV O (Q8.cells (i:=0+1*5) (n:=5) o O) O) (Qc O (QX (news:=WC z8Z) SV O O O O q ξ) ?_));rintro u⟨h,d⟩;refine PR<|Qy func34 (.cell Z4 O SV O (Q8.cells (n:=5) h (news:=[_,_,_,_,_]) O) O .nil) ?_;exact⟨_,O,z8Z,O,by unfold RE.RN Te.RN z8Z RE.list;decide,ψ,(m.trans l).An d (λj e=>ω)⟩
 ·rw[e];refine qV (Rk zdW SV O O ω) (qV (QB (news:=WC z9P) Z4 O SV O (Q8.cells (i:=0+2*5) (n:=5) o O) O) (Qc O (QX (news:=WC z9P) SV O O O O q ξ) ?_));rintro u⟨h,d⟩;refine PR<|Qy func34 (.cell Z4 O SV O (Q8.cells (n:=5) h (news:=[_,_,_,_,_]) O) O .nil) ?_;exact⟨_,O,z9P,O,by unfold RE.RN Te.RN z9P RE.list;decide,ψ,(m.trans l).An d (λj e=>ω)⟩
theorem z6J (h:Sp Q txt K X w):Qx prog 29 [ptr Q.s 0] w λv w'=>∃a b c d e:Value,v= .agg #[a,b,c,d,e,I 0,I 0]/\Ext w w':=by
 obtain⟨P,A,Z,N,f⟩:=h
 rw[<-N.s]
 have hB:=A.cells
 refine py (e:=[(0,_)]) func29 O ntmps29 O O<|qN O<|PX O O (SE (cs:=[_,_,_,_,_,_,_]) z3f O) ?_
 rintro _ w1⟨b2,rfl,W,o,y⟩
 have V:=o.PO hB
 refine PR<|QV O<|qV (Rm XG O O)<|Ri O<|Qz O<|QC O<|Qf Xa O<|qV (QB (news:=[I (P.fr:Int),I P.h,I P.mi,I P.wr,I 0,I 0,I 0]) U76 O z3f O (Q8.cells (i:=4) (n:=7) V O) O)<|PX O O (SE (cs:=[_,_,_,_,_,_,_]) z3f O) ?_
 rintro _ w2⟨b3,rfl,Y,x,G⟩
 refine Qc O (QX (news:=[I (P.fr:Int),I P.h,I P.mi,I P.wr,I 0,I 0,I 0]) z3f O O O O G ξ) ?_
 rintro C⟨q,H⟩
 replace q:Q8 C b3 [I (P.fr:Int),I P.h,I P.mi,I P.wr,I 0,I 0,I 0] 76:=q
 have u:Ext w1 C:=x.An H (λj e=>ω)
 have r:=o.trans u
 have R:=r.PO hB
 have S:=A.mp.ext r
 have M:=u.PO y
 have p:=o.size
 have t:=x.size
 have g:=y.lt
 refine qM O<|Q4 O<|QC O<|Qf Wr O<|qV (Q0 XW O O R O)<|qV (zix XW O S.l)<|Qf zgr O<|Qc O (S0 R8 O O O q ξ) ?_
 rintro U⟨m,z⟩
 have J:=z.PO M ω
 replace m:Q8 U b3 [I (P.fr:Int),I P.h,I P.mi,I P.wr,I ((Vo P.l).length:Int),I 0,I 0] 76:=m
 refine qM O<|qV (QB (news:=[I (P.fr:Int),I P.h,I P.mi,I P.wr,I ((Vo P.l).length:Int),I 0,I 0]) U76 O z3f O (Q8.cells (i:=0) (n:=7) m O) O)<|Qc O (QX (news:=[I (P.fr:Int),I P.h,I P.mi,I P.wr,I ((Vo P.l).length:Int),I 0,I 0]) z3f O O O O J ξ) ?_
 rintro k⟨D,F⟩
 refine PR<|Qy func29 (.cell U76 O z3f O (Q8.cells (n:=7) D (news:=[_,_,_,_,_,_,_]) O) O .nil) ?_
 exact⟨_,O,_,_,_,_,_,O,(r.An z (λj e=>ω)).An F (λj e=>ω)⟩
theorem SZ {s n:Nat}{b:Bool}(h:s+n<=L.length)(i:Nat):(R9 L s n b)[i]? =if s<=i/\i<s+n then some b else L[i]? :=by
 unfold R9
 have e:(L.take s).length=s:=by rw[y0d];omega
 by_cases d:i<s
 ·rw[if_neg ω,y0K ω,y3J d]
 ·rw[y0X ω,e];by_cases j:i<s+n
  ·rw[if_pos ω,y0K (by rw[y0b];omega),y1b,if_pos ω]
  ·rw[if_neg ω,y0X (by rw[y0b];omega),y0b,y1M]
   congr 1
   omega
theorem z2x {n:Nat}(h:Pre L a)(d:a+n<=L.length):Pre (R9 L a n true) (a+n):=by
 have l:=h.a2
 refine⟨ω,by rw[Rq d];exact d,λi j e=>?_,λi j e=>?_⟩
 ·rw[SZ d];split
  ·rfl
  ·exact h.tk i j ω
 ·rw[Rq d] at e;rw[SZ d,if_neg ω];exact h.fr i ω e
theorem zan {n:Nat}(h:Pre L a)(d:a+n<=L.length):R9 (R9 L a n true) a n false=L:=by
 have e:=Rq (b:=true) d
 have j:=Rq (b:=false) (L:=R9 L a n true) (s:=a) (n:=n) ω
 apply y1t
 intro i
 rw[SZ ω,SZ d]
 by_cases hi:a<=i/\i<a+n
 ·rw[if_pos hi];exact(h.fr i hi.1 ω).symm
 ·rw[if_neg hi,if_neg hi]
theorem z6V (hP:Sp Q txt K X w)(W:∀b,X b->b<w.heap.size)(hK:K<=90000000000)(x1:X 1)(x2:X 2)(hG:Q8 w 1 (Tu .gamma) 314)(hU:Q8 w 2 (Tu .unary) 314)(ax:Sg g)(B:1<=g.length)(eH:g.length<=40)(jS:GrM w (.slice ga g.length gc) g)(hp:p.RN)(hz:p.zeta<=3)(ha:Pre Q.L a)(eY:a+72<=Q.L.length):
  Qx prog 33 [ptr Q.s 0,.slice ga g.length gc,bpV p] w λv w'=>∃(G:Y0)(txt':Int->PU),v= .tuple #[ptr G.k 0,.bool true]/\G.g=g/\G.st=a/\G.len<=72/\1<=G.len/\(w.heap.size<=G.k/\w.heap.size<=G.x/\w.heap.size<=G.rb)/\U1 G (Q.Re (R9 Q.L a G.len true)) txt' (K+200) (λj=>X j\/j=G.x\/j=G.k) w'/\(∀y:Int,y<(a:Int)\/(a:Int)+(G.len:Int)<=y->txt' y=txt y)/\Kp (λb=>¬X b) w w':=by
 have eu:=hP.n
 refine py (e:=[(0,_),(1,_),(2,_)]) func33 O ntmps33 O O<|qN O<|PX O O (Sy O (cs:=WC p) O) ?_
 rintro _ w1⟨bp,rfl,Nq,H,rV⟩
 refine Tq O<|RZ O<|qV (QB (news:=WC p) Z4 O SV O (Q8.cells (i:=0) (n:=5) rV O) O)<|Qj zmd O (z8s hp ax B (jS.ext H) (H.PO hG) (H.PO hU)) ?_
 rintro _ w2⟨E,Nr,rfl,ae⟩
 have t:Ud p g E:=⟨hp,ax,B,Nr⟩
 have Ns:=zdv t eH hz
 obtain⟨T,hT⟩:∃T,YQ p g E=T:=⟨_,O⟩
 rw[hT] at Ns⊢
 have u:=H.trans ae
 have eB:=hP.ext' u
 refine Q4 O<|Tr O<|Rw O<|QV O<|RI O<|Ri O<|Qz O<|Qj z5I O eB.size ?_
 rintro _ w2⟨rfl,rfl⟩
 refine Q4 O<|qV (Wb U9 O)<|Qj zlA O (z4j T.length ω _) ?_
 rintro _ w2⟨rfl,rfl⟩
 obtain⟨N,hN⟩:∃N,(T.length+523) / 512=N:=⟨_,O⟩
 rw[hN]
 have m:1<=N/\N<=72/\T.length<=N*512-12:=ω
 refine Q4 O<|Tr O<|Rw O<|QA.qb (e:=[(0,_),(6,_),(7,_),(8,_),(9,_),(10,_)]) ?_
 refine QV O<|RI O ?_
 have fm:∀b,X b->b<w2.heap.size:=λb q=>by have:=W b q;have:=u.size;omega
 refine Ri O<|RK O<|Qj zjU O (eB.take fm ha m.1 ω) ?_
 rintro _ w3⟨rfl,fZ,ar⟩
 have fL:(R9 Q.L a N true).length=Q.L.length:=Rq ω
 obtain⟨o,D⟩:∃o,Q.Re (R9 Q.L a N true)=o:=⟨_,O⟩
 rw[D] at fZ
 have xV:o.s=Q.s:=by rw[<-D];rfl
 have Pu:o.L.length=Q.L.length:=by rw[<-D];exact fL
 rw[<-xV]
 have z3:=ar.size
 have pj:∀b,X b->b<w3.heap.size:=λb q=>by have:=fm b q;omega
 refine Q4 O<|Tr O<|PX O O (SE (cs:=[_,_]) Sj O) ?_
 rintro _ w4⟨z,rfl,EV,aD,dL⟩
 refine Qc O (QX (news:=[I (a:Int),I (N:Int)]) Sj O O O O dL ξ) ?_
 rintro c⟨A,ai⟩
 replace A:Q8 c z [I (a:Int),I (N:Int)] 124:=A
 have R:Ext w3 c:=aD.An ai (λj e=>ω)
 refine Qe O<|QV O<|RI O ?_
 have gX:Sp o txt K (λb=>X b\/b=z) c:=fZ.ext R (λb e=>e.imp id λe=>ω)
 refine Ri O<|Qz O<|qV (QB (news:=[I (a:Int),I (N:Int)]) Ww O Sj O (Q8.cells (i:=0) (n:=2) A O) O)<|Qj zlr O (z4m gX m.1 ω) ?_
 rintro _ M⟨wb,bs,bx,bw,sum,rfl,i8,r,⟨a4,a5,a6,a7⟩,F⟩
 have z5:=R.size
 have z6:=F.size
 have a1:=A.lt
 obtain⟨h,C⟩:∃h:Nat->Prop,(λb=>X b\/b=z\/b=wb\/b=bs\/b=bx\/b=bw)=h:=⟨_,O⟩
 have U:∀b,X b->h b:=λb q=>by rw[<-C];exact .inl q
 have aN:h wb/\h bs/\h bx/\h bw:=by rw[<-C];exact⟨.inr (.inr (.inl O)),.inr (.inr (.inr (.inl O))),.inr (.inr (.inr (.inr (.inl O)))),.inr (.inr (.inr (.inr (.inr O))))⟩
 have Gu:h z:=by rw[<-C];exact .inr (.inl O)
 have oy:Sp o txt K h M:=gX.ext F (λb e=>by
  rw[<-C] at e;rcases e with e|e| e
  ·exact .inl (.inl e)
  ·exact .inl (.inr e)
  ·exact .inr ω)
 have l1:=r.wr.lt
 have l2:=r.sb.lt
 have l3:=r.xb.lt
 have l4:=r.pb.lt
 have J:∀b,h b->b<M.heap.size:=λb e=>by
  rw[<-C] at e;rcases e with e| e
  ·have:=pj b e;omega
  ·omega
 have Gv:z≠wb:=ω
 refine Q4 O<|Tr O<|Rw O<|QV O<|RI O<|Qq O<|Q4 O<|Qj zma O (z69 oy J ω r i8 aN ω m.1 m.2.2) ?_
 rintro _ w7⟨rfl,l,sM,a0,rest,Au,iC,i6,Gw,Gx,ay,ti⟩
 have z7:=ay.size
 refine RI O<|R0 O<|Qq O<|Qj zlK O (z6q Au (λb e=>by have:=J b e;omega) ω iC sM aN ω hN.symm (by rw[show T.length%512=T.length-512*(T.length / 512) by omega];exact i6) (λb q e=>by have:=J b e;have:=ti b q;omega) Gw) ?_
 rintro _ w8⟨rfl,d,po,Gy,Gz,GA,aQ⟩
 have z8:=aQ.size
 have pL:Kp (λb=>¬h b\/b=wb) M w8:=ay.trans aQ
 have vh:=pL.PO (F.PO A) (λe=>e.elim (λe=>e Gu) Gv)
 refine RI O<|R0 O<|PR<|QA.qb (e:=[(0,_),(6,_),(7,_),(9,_),(11,_),(59,_)]) ?_
 refine Us O<|Qz O<|qV (QB (news:=[I (a:Int),I (N:Int)]) Ww O Sj O (Q8.cells (i:=0) (n:=2) vh O) O)<|Qj zll O (z8r po (λb e=>by have:=J b e;omega) ω m.1 ω m.2.2 sM Gz) ?_
 rintro _ w9⟨rb,rfl,f,pO,x8,P⟩
 have z9:=P.size
 have a2:=f.lt
 have hL:Laid d a T:=Laid.of λk hk=>⟨x8.z0D ω ω,Gy k hk⟩
 subst hT
 have V:StO o d (K+(YQ p g E).length / 512+2) a N (YQ p g E):=⟨ω,ω,hL,ω⟩
 have tB:Kp (λb=>¬X b) w M:=(u.kp.trans ar).trans (R.trans F).kp
 have jd:Kp (λb=>¬X b) w w8:=tB.An pL λb e=>by
  rcases e with e| e
  ·exact .inr λS=>e (U b S)
  ·exact .inl (by have:=u.size;omega)
 have Z:Kp (λb=>¬X b) w w9:=jd.trans (P.PZ λb e S=>e (U b S))
 have z2:=u.size
 have uW:¬X rb:=λe=>by have:=W rb e;omega
 have hI:(z7j V rb l).inv X w9:=⟨x8.less (λb e=>e.imp (U b) id),f,uW⟩
 refine Q4 O<|Tr O<|Rw O<|QV O<|RI O<|Ri O<|Qz O<|Qj zlG O (z8p t V hI (λb e=>by have:=W b e;omega) x1 x2 (Z.PO hG (λe=>e x1)) (Z.PO hU (λe=>e x2))) ?_
 rintro _ a3⟨k,x,rfl,FE,iW,Nt,aB⟩
 refine Q4 O<|Tr O<|Tq O<|Sb O<|Qq O<|Ss O<|SD<|Qq O<|qV (z6v U28 O O)<|Sh O<|Rw O<|QA.qb (e:=[(6,_),(7,_)]) ?_
 refine PQ func33 O (⟨_,O,⟨p,g,E,a,N,rb,l,k,x⟩,d,O,O,O,m.2.1,m.1,⟨by show w.heap.size<=k;omega,by show w.heap.size<=x;omega,by show w.heap.size<=rb;omega⟩,?_,λy Y=>?_,Z.trans aB⟩)
 ·rw[D];exact U1.more (G:=⟨p,g,E,a,N,rb,l,k,x⟩) ⟨V,Nt⟩ ω ω
 ·show d y=txt y;have Y:y<(a:Int)\/(a:Int)+(N:Int)<=y:=Y;rw[GA y Y,Gx y ω]
structure Wd where
 d:Nat
 Q:Sf
 txt:Int->PU
 K:Nat
 G:Y0
 T:Y0
 a:Nat
def Wd.v (W:Wd):List Value:=[ptr W.d 0,ptr W.Q.s 0,ptr W.G.k 0,ptr W.T.k 0,I ((200-W.a:Nat):Int)]
structure WdM (W:Wd)(g:List (List Nat))(XX:Nat->Prop)(w:World):Prop where
 hg:U1 W.G W.Q W.txt W.K (λb=>XX b/\b≠W.G.rb) w
 ht:U1 W.T W.Q W.txt W.K (λb=>XX b/\b≠W.T.rb) w
 gg:W.G.g=g
 tg:W.T.g=R5 g
 pre:Pre W.Q.L W.a
 a:W.a<=146
 L:W.Q.L.length=200
 K:W.K<=400
 gs:W.G.st+W.G.len<=W.T.st
 ts:W.T.st+W.T.len<=W.a
 rb:XX W.G.rb/\XX W.T.rb/\W.G.rb≠W.T.rb/\W.T.rb≠W.G.k/\W.T.rb≠W.G.x/\W.G.rb≠W.T.k/\W.G.rb≠W.T.x
theorem z2J (ax:Sg g)(aH:1<=g.length)(eH:g.length<=40)(jS:GrM w (.slice ga g.length gc) g)(hG:Q8 w 1 (Tu .gamma) 314)(hU:Q8 w 2 (Tu .unary) 314)(fr fo:Int)(lC:JIq fr)(AJ:JIq fo):
  Qx prog 10 [.slice ga g.length gc,I fr,I fo] w λv w'=>∃(W:Wd)(C:Nat->Prop),v= .tuple #[.agg W.v.toArray,.bool true]/\WdM W g C w'/\Ext w w'/\(∀b,b<w.heap.size->C b/\b≠W.G.rb/\b≠W.T.rb)/\w.heap.size<=W.G.k/\w.heap.size<=W.G.x/\w.heap.size<=W.T.k/\w.heap.size<=W.T.x:=by
 have r1:=UW fr 12 ψ
 have r2:=WQ fr 12 ψ
 have l1:=hG.lt
 have l2:=hU.lt
 refine py (e:=[(0,_),(1,_),(2,_)]) func10 O ntmps10 O O<|qN O<|PX O O (SE (cs:=[_,_,_,_,_]) ZM O) ?_
 rintro _ w1⟨bW,rfl,Pv,ad,Js⟩
 have z1:=ad.size
 have lW:=Js.lt
 refine Sb O<|qV (To (cs:=[_,_]) zci O zl3 O O)<|Qj zlU O (zeQ 200 1 _ (by unfold z14;decide)) ?_
 rintro _ w2⟨d,Fd,rfl,hD,ae,Nu⟩
 refine Q4 O<|Tr O<|Tq O<|Sb O<|Qj zl6 O (zak 200 ψ _) ?_
 rintro _ w3⟨m,gi,rfl,hE,hm,uj,B⟩
 have z2:=ae.size
 have z3:=B.size
 have Nv:=hD.ext B
 refine Q4 O<|Tr O<|Tq O<|Sb O<|Qq O<|qV (yrt O O ψ)<|Ra O<|qV (yrt O O ψ) ?_
 rw[show(fr.tmod 12+12).tmod 12=nrm fr 12 from rfl]
 obtain⟨U,Nw,GB,Ny⟩:∃U:Nat,1+nrm fr 12=(U:Int)/\1<=U/\U<=12:=⟨(1+nrm fr 12).toNat,ω,ω,ω⟩
 refine Ra O ?_
 rw[Nw]
 have io:(List.replicate 200 false).length=200:=y0b
 have Nz:¬Fd m/\¬Fd gi:=⟨λe=>by have:=hD.lt _ e;omega,λe=>by have:=hD.lt _ e;omega⟩
 refine Q4 O<|Qj zm1 O (zba (L:=List.replicate 200 false) (by rw[io];exact Nv) hE Nz U GB ω) ?_
 rintro _ w4⟨P,rfl,hM,hI,NA,NB,Jt,NC,aD⟩
 have z4:=aD.size
 have bH:Ext w w4:=((ad.trans ae).trans B).trans aD
 have GC:=((ae.trans B).trans aD).PO Js
 obtain⟨X,hX⟩:∃X:Nat->Prop,(λb=>b<w.heap.size\/b=bW)=X:=⟨_,O⟩
 have GD:∀b,X b->b<w1.heap.size:=λb e=>by rw[<-hX] at e;omega
 have u:∀b,b<w.heap.size->X b:=λb e=>by rw[<-hX];exact .inl e
 have c:X bW:=by rw[<-hX];exact .inr O
 have j3:Sp P (λ_=>zeros 512) 0 X w4:=⟨P,hM,hI,⟨rfl,rfl,rfl,rfl,rfl,rfl,rfl,rfl,rfl⟩,λb hb e=>by
  have:=GD b e;rcases NC b hb with e|e|e| e
  ·have:=Nu b e;omega
  ·omega
  ·omega
  ·omega⟩
 have dC:Pre P.L 2:=by
  rw[Jt];exact⟨y04 _,by rw[io];omega,λi h1 R=>ω,λi h1 R=>by rw[io] at R;rw[y1b,if_pos R]⟩
 have GE:P.L.length=200:=by rw[Jt,io]
 refine Q4 O<|Tr O<|Rw O<|QA.qb (e:=[(0,_),(2,_),(6,_),(7,_),(8,_),(9,_),(10,_),(11,_),(12,_),(13,_)]) ?_
 refine QV O<|RI O<|QW<|Qq O<|RI O<|QW<|R0 O<|Qq O<|RI O<|QW<|R0 O<|Qq O<|qV (Rm XG O O)<|R0 O ?_
 refine Ri O<|RK O<|Q4 O<|Qj zjZ O (z6s fo AJ _) ?_
 rintro _ w5⟨p1,rfl,D7,nh,t⟩
 have z5:=t.size
 have K:=bH.trans t
 have ND:∀b,X b->b<w5.heap.size:=λb e=>by have:=GD b e;omega
 refine Qj zhL O (z6V (j3.ext' t) ND ω (u 1 l1) (u 2 l2) (K.PO hG) (K.PO hU) ax aH eH (jS.ext K) D7 nh dC ω) ?_
 rintro _ w6⟨G,Z,rfl,NE,Pw,Px,NF,⟨n1,n2,n3⟩,dK,C9,aL⟩
 have iL:Ext w w6:=K.An aL (λb e=>by
  rcases y0a b w.heap.size with h| h
  ·exact absurd (u b h) e
  ·exact h)
 have z6:=aL.size
 have GF:=aL.PO (t.PO GC) (λe=>e c)
 have Gm:(R9 P.L 2 G.len true).length=P.L.length:=Rq ω
 have oI:Pre (R9 P.L 2 G.len true) (2+G.len):=z2x dC ω
 obtain⟨l,GG⟩:∃l,P.Re (R9 P.L 2 G.len true)=l:=⟨_,O⟩
 have GH:l.L=R9 P.L 2 G.len true:=by rw[<-GG];rfl
 have vm:l.s=P.s/\l.d=P.d/\l.m=P.m:=by rw[<-GG];exact⟨O,O,O⟩
 rw[GG] at dK
 rw[<-GH] at Gm oI
 obtain⟨gb,go,a0,lX,NG⟩:=jS.r aH
 cases lX
 refine Q4 O<|Tr O<|Rw O<|QA.qb (e:=[(0,_),(2,_),(6,_),(7,_),(8,_),(10,_),(12,_),(14,_),(15,_)]) ?_
 refine RK O<|Qj zl4 O (z7p ax (NG.ext iL)) ?_
 rintro _ w7⟨bt,rfl,NH,Q⟩
 have kg:=iL.trans Q
 have z7:=Q.size
 have GI:=dK.ext Q
 have lA:=SW g
 refine Q4 O<|qV (zda O O) ?_
 obtain⟨N,AK⟩:∃z,IntKind.i64.wrap (fo+1)=z:=⟨_,O⟩
 have AL:JIq N:=by
  rw[<-AK,y32];omega
 rw[AK]
 refine Qj zjZ O (z6s N AL _) ?_
 rintro _ w8⟨p2,rfl,tI,ns,M⟩
 have z8:=M.size
 have D:=GI.ext M
 have vp:=kg.trans M
 obtain⟨F,A⟩:∃F:Nat->Prop,(λb=>(X b\/b=G.x\/b=G.k)\/b=G.rb)=F:=⟨_,O⟩
 have S:∀b,X b->F b:=λb e=>by rw[<-A];exact .inl (.inl e)
 have po:Sp l Z (0+200) F w8:=by rw[<-A];exact D.sp
 have GJ:∀b,F b->b<w8.heap.size:=λb e=>D.lt1 b (by rw[<-A] at e;exact e)
 have GK:GrM w8 (.slice (some ⟨bt,0,none⟩) (R5 g).length (R5 g).length) (R5 g):=(NH.ext M).gr
 have nx:=z6V po GJ ω (S _ (u 1 l1)) (S _ (u 2 l2)) (vp.PO hG) (vp.PO hU) (zbG ax) ω ω GK tI ns oI ω
 rw[vm.1,lA] at nx
 refine Qj zhL O nx ?_
 rintro _ w9⟨T,o,rfl,NI,Py,GL,NJ,⟨t1,t2,t3⟩,J,GM,p⟩
 have z9:=p.size
 have gH:Ext w w9:=vp.An p (λb e=>by
  rcases y0a b w.heap.size with h| h
  ·exact absurd (S b (u b h)) e
  ·exact h)
 have GN:=p.PO ((Q.trans M).PO GF) (λe=>e (S _ c))
 have Ju:(R9 l.L (2+G.len) T.len true).length=l.L.length:=Rq ω
 have oJ:Pre (R9 l.L (2+G.len) T.len true) (2+G.len+T.len):=z2x oI ω
 obtain⟨q,GO⟩:∃q,l.Re (R9 l.L (2+G.len) T.len true)=q:=⟨_,O⟩
 have GP:q.L=R9 l.L (2+G.len) T.len true:=by rw[<-GO];rfl
 have vt:q.s=l.s/\q.d=l.d/\q.m=l.m:=by rw[<-GO];exact⟨O,O,O⟩
 rw[GO] at J
 rw[<-GP] at Ju oJ
 have AM:=J.sp
 have vw:=J.lt1
 have NK:U1 G q o (0+200+200) (λb=>(X b\/b=G.x\/b=G.k)\/b=T.x\/b=T.k\/b=T.rb) w9:=D.zlR p (λb e=>by rw[<-A] at e;exact e) (λj e=> .inl e) (λj e=>e.imp id λe=>by
   have h1:=vw T.x (.inl (.inr (.inl O)));have R:=vw T.k (.inl (.inr (.inr O)));have h3:=vw T.rb (.inr O)
   omega) (AM.less λb e=>by
   rw[<-A];rcases e with(e|e|e|e)| e
   ·exact .inl (.inl (.inl e))
   ·exact .inl (.inr (.inl e))
   ·exact .inl (.inr (.inr e))
   ·exact .inr e
   ·exact .inl (.inl (.inr e))) vt.1 Ju ω (λy h1 R=>GM y (.inl ω))
 have eY:=AM.room oJ ω
 rw[vt.2.2,vm.2.2,NA] at eY
 refine Q4 O<|Tr O<|Tq O<|Sb O<|Qq O<|Qq O<|Q4 O<|Qj zhU O eY ?_
 rintro _ a1⟨rfl,E⟩
 have AN:=E.PO GN
 rw[show q.L.length-(2+G.len+T.len)=200-(2+G.len+T.len) by omega]
 refine qV (To (cs:=[_,_,_,_,_]) ZM O zlY O O)<|Qq O<|Q4 O<|Sh O<|Qc O (QX (news:=[_,_,_,_,_]) ZM O O O O AN ξ) ?_
 rintro a⟨AO,bB⟩
 refine Qe O<|QA.qb (e:=[(6,_),(7,_)]) ?_
 refine Qy func10 (.cell U30 O ZM O (Q8.cells (n:=5) AO (news:=[_,_,_,_,_]) O) O (.tmp O .nil)) ?_
 obtain⟨C,H⟩:∃C:Nat->Prop,(λb=>X b\/b=G.x\/b=G.k\/b=G.rb\/b=T.x\/b=T.k\/b=T.rb)=C:=⟨_,O⟩
 have Ca:=D.rbX
 have V:=J.rbX
 have f:=D.xk
 have Jv:=J.xk
 have zG:=D.lt1 _ (.inr O)
 have a2:=D.lt1 _ (.inl f.1)
 have a3:=D.lt1 _ (.inl f.2.1)
 have mB:∀b,X b->b<w1.heap.size:=GD
 have GQ:U1 G q o 400 (λb=>C b/\b≠G.rb) a:=by
  refine U1.less (Y:=λb=>(X b\/b=G.x\/b=G.k)\/b=T.x\/b=T.k\/b=T.rb) ((NK.ext E).own bB λj e=>?_) (λb e=>?_) ?_
  ·subst e;exact⟨.inl (.inl c),ω,ω,ω,ω⟩
  ·rw[<-H] at e;rcases e with⟨e|e|e|e|e,h⟩
   ·exact .inl (.inl e)
   ·exact .inl (.inr (.inl e))
   ·exact .inl (.inr (.inr e))
   ·exact absurd e h
   ·exact .inr e
  ·rw[<-H];exact⟨⟨.inr (.inr (.inl O)),λe=>Ca (e▸f.1)⟩,⟨.inr (.inl O),λe=>Ca (e▸f.2.1)⟩,⟨.inl (u 1 l1),ω⟩,⟨.inl (u 2 l2),ω⟩⟩
 have GR:U1 T q o 400 (λb=>C b/\b≠T.rb) a:=by
  refine U1.less (Y:=λj=>F j\/j=T.x\/j=T.k) ((J.ext E).own bB λj e=>?_) (λb e=>?_) ?_
  ·subst e;exact⟨.inl (S _ c),ω,ω,ω,ω⟩
  ·rw[<-H] at e;rw[<-A];rcases e with⟨e|e|e|e|e|e|e,h⟩
   ·exact .inl (.inl (.inl e))
   ·exact .inl (.inl (.inr (.inl e)))
   ·exact .inl (.inl (.inr (.inr e)))
   ·exact .inl (.inr e)
   ·exact .inr (.inl e)
   ·exact .inr (.inr e)
   ·exact absurd e h
  ·rw[<-H];exact⟨⟨.inr (.inr (.inr (.inr (.inr (.inl O))))),λe=>V (e▸Jv.1)⟩,⟨.inr (.inr (.inr (.inr (.inl O)))),λe=>V (e▸Jv.2.1)⟩,⟨.inl (u 1 l1),ω⟩,⟨.inl (u 2 l2),ω⟩⟩
 refine⟨_,O,⟨d,q,o,400,G,T,2+G.len+T.len⟩,C,?_,⟨GQ,GR,NE,NI,oJ,?_,?_,?_,?_,?_,by rw[<-H];exact⟨.inr (.inr (.inr (.inl O))),.inr (.inr (.inr (.inr (.inr (.inr O))))),λe=>V (.inl (by rw[<-A];exact .inr e.symm)),λe=>V (.inl (by rw[<-A];exact .inl (.inr (.inr e)))),λe=>V (.inl (by rw[<-A];exact .inl (.inr (.inl e)))),(by show G.rb≠T.k;omega),(by show G.rb≠T.x;omega)⟩⟩,?_,λb hb=>⟨by rw[<-H];exact .inl (u b hb),λe=>?_,λe=>?_⟩,?_,?_,?_,?_⟩
 ·unfold Wd.v;rw[vt.1,vm.1]
  rfl
 ·show 2+G.len+T.len<=146;omega
 ·show q.L.length=200;omega
 ·exact y04 _
 ·show G.st+G.len<=T.st;omega
 ·show T.st+T.len<=2+G.len+T.len;omega
 ·exact(gH.trans E).An bB λb e=>ω
 ·have e:b=G.rb:=e;omega
 ·have e:b=T.rb:=e;omega
 ·show w.heap.size<=G.k;omega
 ·show w.heap.size<=G.x;omega
 ·show w.heap.size<=T.k;omega
 ·show w.heap.size<=T.x;omega
def zcw (j:Sg g)(h:1<=g.length)(l:g.length<=40)(A:GrM w (.slice ga g.length gc) g)(y:Q8 w 1 (Tu .gamma) 314)(z:Q8 w 2 (Tu .unary) 314)(fr fo:Int)(C:JIq fr)(e:JIq fo):
  Qx prog 10 [.slice ga g.length gc,I fr,I fo] w λv w'=>∃(W:Wd)(d:Nat->Prop),v= .tuple #[.agg W.v.toArray,.bool true]/\WdM W g d w'/\Ext w w'/\(∀b,b<w.heap.size->d b/\b≠W.G.rb/\b≠W.T.rb)/\w.heap.size<=W.G.k/\w.heap.size<=W.G.x:=by
 refine(z2J j h l A y z fr fo C e).mono ?_
 rintro v w'⟨W,d,m,n,o,q,r,u,-⟩
 exact⟨W,d,m,n,o,q,r,u⟩
def z9R (j:Sg g)(h:1<=g.length)(l:g.length<=40)(x:GrM w (.slice ga g.length gc) g)(r:Q8 w 1 (Tu .gamma) 314)(u:Q8 w 2 (Tu .unary) 314)(fr fo:Int)(y:JIq fr)(e:JIq fo):
  Qx prog 10 [.slice ga g.length gc,I fr,I fo] w λv w'=>∃(W:Wd)(d:Nat->Prop),v= .tuple #[.agg W.v.toArray,.bool true]/\WdM W g d w'/\Ext w w'/\∀b,b<w.heap.size->d b/\b≠W.G.rb/\b≠W.T.rb:=by
 refine(zcw j h l x r u fr fo y e).mono ?_
 rintro v w'⟨W,d,m,n,o,q,-⟩
 exact⟨W,d,m,n,o,q⟩
structure RuK (σ:Type) where
 M:Sf->(Int->PU)->Nat->Nat->(Nat->Prop)->Nat->Nat->σ->World->Prop
 tm:σ->Nat
 c0:Nat
 c1:Nat
 kp:∀{Q:Sf} {txt:Int->PU} {k rr:Nat} {O_:Nat->Prop} {a L:Nat} {s:σ} {w w':World} {S:Nat->Prop},M Q txt k rr O_ a L s w->Kp S w w'->(∀b,O_ b->¬S b)->M Q txt k rr O_ a L s w'
 XA:∀{Q:Sf} {txt txt':Int->PU} {k rr:Nat} {O_:Nat->Prop} {a L:Nat} {s:σ} {w:World},M Q txt k rr O_ a L s w->(∀y:Int,(a:Int)<=y->y<(a:Int)+(L:Int)->txt' y=txt y)->M Q txt' k rr O_ a L s w
 q:∀{Q Q':Sf} {txt:Int->PU} {k rr:Nat} {O_:Nat->Prop} {a L:Nat} {s:σ} {w:World},M Q txt k rr O_ a L s w->Q'.s=Q.s->Q'.L.length=Q.L.length->M Q' txt k rr O_ a L s w
structure RuM {σ:Type}(R:RuK σ)(G:Y0)(Q:Sf)(txt:Int->PU)(K:Nat)(X:Nat->Prop)(rr:Nat)(O_:Nat->Prop)(a L:Nat)(s:σ)(w:World):Prop where
 g:U1 G Q txt K X w
 m:R.M Q txt G.k rr O_ a L s w
 xr:∀b,O_ b->X b
 ro:O_ rr
 ne:∀b,O_ b->b≠G.k/\b≠G.x/\b≠1/\b≠2
 Wt:G.st+G.len<=a
 n:G.g.length<=40
section
variable {σ:Type}{R:RuK σ}{G:Y0}{Y:Nat->Prop}{L:Nat}{s s':σ}
theorem RuM.step (h:RuM R G Q txt K X rr O_ a L s w)(q:Kp S' w w')(d:∀j,S' j->X j/\j≠G.k/\j≠G.x/\j≠1/\j≠2/\¬O_ j)(l:∀j,X j->Y j)(r:∀j,Y j->X j\/(w.heap.size<=j/\j<w'.heap.size)):RuM R G Q txt K Y rr O_ a L s w':=
 ⟨h.g.step q (λj e=>⟨(d j e).1,(d j e).2.1,(d j e).2.2.1,(d j e).2.2.2.1,(d j e).2.2.2.2.1⟩) r l,R.kp h.m q (λb o e=>(d b e).2.2.2.2.2 o),λb o=>l b (h.xr b o),h.ro,h.ne,h.Wt,h.n⟩
theorem RuM.less (h:RuM R G Q txt K Y rr O_ a L s w)(d:∀j,X j->Y j)(l:X G.k/\X G.x/\X 1/\X 2)(e:∀b,O_ b->X b):RuM R G Q txt K X rr O_ a L s w:=⟨h.g.less d l,h.m,e,h.ro,h.ne,h.Wt,h.n⟩
theorem RuM.read (h:RuM R G Q txt K X rr O_ a L s w)(d:Kp (λb=>¬(X b\/b=G.rb)) w w')(j:Sp Q txt K (λb=>X b\/b=G.rb) w'):RuM R G Q txt K X rr O_ a L s w':=
 ⟨h.g.upd d (λb e=> .inl e) j O O h.g.z7g (λ_ _ _=>rfl),R.kp h.m d (λb l e=>e (.inl (h.xr b l))),h.xr,h.ro,h.ne,h.Wt,h.n⟩
theorem RuM.upd (h:RuM R G Q txt K X rr O_ a L s w)(j:K'<1000000000000)(o:Kp S' w w')(m:∀b,S' b->¬(X b\/b=G.rb)\/O_ b)(l:Sp Q txt' K' (λb=>X b\/b=G.rb) w')(r:∀y:Int,y<(a:Int)\/(a:Int)+(L:Int)<=y->txt' y=txt y)(q:R.M Q txt' G.k rr O_ a L s' w'):RuM R G Q txt' K' X rr O_ a L s' w':=by
 have x:=h.Wt
 exact⟨h.g.upd o (λb e=>(m b e).imp id λd=>⟨h.xr b d,h.ne b d⟩) l O O j (λy u v=>r y (.inl ω)),q,h.xr,h.ro,h.ne,h.Wt,h.n⟩
theorem RuM.set (h:RuM R G Q txt K X rr O_ a L s w)(l:Kp S' w w')(d:∀b,S' b->O_ b)(m:R.M Q txt G.k rr O_ a L s' w'):RuM R G Q txt K X rr O_ a L s' w':=
 ⟨h.g.own l (λj e=>⟨h.xr j (d j e),h.ne j (d j e)⟩),m,h.xr,h.ro,h.ne,h.Wt,h.n⟩
theorem RuM.list (h:RuM R G Q txt K X rr O_ a L s w)(hg:U1 G Q txt K Y w')(o:Kp (λj=>¬X j) w w')(d:∀j,X j->Y j):RuM R G Q txt K Y rr O_ a L s w':=
 ⟨hg,R.kp h.m o (λb l e=>e (h.xr b l)),λb l=>d b (h.xr b l),h.ro,h.ne,h.Wt,h.n⟩
end
def Sp.iff {Y:Nat->Prop}(h:Sp Q txt K X w)(e:∀b,X b↔Y b):Sp Q txt K Y w:=by
 have d:X=Y:=funext λb=>propext (e b)
 exact d▸h
section
variable {G:Y0}{Y:Nat->Prop}
theorem U1.at_ (h:U1 G Q txt K X w)(d:Kp S' w w')(e:¬S' G.k/\¬S' G.x/\¬S' 1/\¬S' 2/\¬S' G.rb)(l:Y G.k/\Y G.x/\Y 1/\Y 2)(m:∀j,Y j->j<w'.heap.size)(A:¬Y G.rb)(v:Sp Q' txt' K' (λb=>Y b\/b=G.rb) w')(C:Q'.s=Q.s)(z:Q'.L.length=Q.L.length)(u:K'<1000000000000)(ht:∀y:Int,(G.st:Int)<=y->y<(G.st:Int)+(G.len:Int)->txt' y=txt y):U1 G Q' txt' K' Y w':=by
 have n:=h.rbB
 obtain⟨o,h⟩:=h
 have q:=o.len
 have r:(z7j (⟨u,by rw[z];exact o.fit,o.laid.XA λk d=>ht _ ω ω,o.len⟩:StO Q' txt' K' G.st G.len (YQ G.p G.g G.E)) G.rb G.sum).inv Y w':=⟨v,by rw[C];exact d.PO n e.2.2.2.2,A⟩
 exact⟨_,⟨h.ok,d.PO h.PO e.1,d.PO h.ix e.2.1,l.1,l.2.1,r,m,l.2.2.1,l.2.2.2,d.PO h.gam e.2.2.1,d.PO h.una e.2.2.2.1⟩⟩
end
structure St {σ:Type}(R:RuK σ)(G T:Y0)(Q:Sf)(txt:Int->PU)(K:Nat)(X:Nat->Prop)(rr:Nat)(O_:Nat->Prop)(a L:Nat)(s:σ)(w:World):Prop where
 m:RuM R G Q txt K (λb=>X b\/b=T.rb) rr O_ a L s w
 t:U1 T Q txt K (λb=>X b\/b=G.rb) w
 xr:∀b,O_ b->X b
 xk:X G.k/\X G.x/\X T.k/\X T.x/\X 1/\X 2
 nk:∀b,O_ b->b≠T.k/\b≠T.x
 Wt:T.st+T.len<=a
section
variable {σ:Type}{R:RuK σ}{G T:Y0}{Y:Nat->Prop}{L:Nat}{s s':σ}
theorem St.ng (h:St R G T Q txt K X rr O_ a L s w):¬X G.rb/\G.rb≠T.rb/\¬X T.rb:=by
 have d:=h.m.g.rbX
 have j:=h.t.rbX
 exact⟨λe=>d (.inl e),λe=>d (.inr e),λe=>j (.inl e)⟩
theorem St.sp (h:St R G T Q txt K X rr O_ a L s w):Sp Q txt K (λb=>(X b\/b=T.rb)\/b=G.rb) w:=h.m.g.sp
theorem St.lt (h:St R G T Q txt K X rr O_ a L s w):∀b,((X b\/b=T.rb)\/b=G.rb)->b<w.heap.size:=h.m.g.lt1
theorem St.byG (h:St R G T Q txt K X rr O_ a L s w)(r:RuM R G Q txt' K' (λb=>Y b\/b=T.rb) rr O_ a L s' w')(D:Kp S' w w')(x:∀b,S' b->(¬X b/\b≠T.rb)\/O_ b)(d:∀j,X j->Y j)(A:∀j,Y j->X j\/w.heap.size<=j)(J:∀y:Int,y<(a:Int)\/(a:Int)+(L:Int)<=y->txt' y=txt y):St R G T Q txt' K' Y rr O_ a L s' w':=by
 obtain⟨n1,n2,z⟩:=h.ng
 have C:=h.Wt
 have o:=h.lt
 have v:=r.g.lt1
 have l:=h.xk
 have q:=h.m.ne
 have I:=o T.rb (.inl (.inr O))
 have H:=o G.rb (.inr O)
 have n:∀b,X b->¬O_ b->¬S' b:=λb u F e=>(x b e).elim (λe=>e.1 u) F
 refine⟨r,h.t.at_ D ⟨n _ l.2.2.1 λe=>(h.nk _ e).1 O,n _ l.2.2.2.1 λe=>(h.nk _ e).2 O,n _ l.2.2.2.2.1 λe=>(q _ e).2.2.1 O,n _ l.2.2.2.2.2 λe=>(q _ e).2.2.2 O,λe=>(x _ e).elim (λe=>e.2 O) (λe=>z (h.xr _ e))⟩ ⟨.inl (d _ l.2.2.1),.inl (d _ l.2.2.2.1),.inl (d _ l.2.2.2.2.1),.inl (d _ l.2.2.2.2.2)⟩ (λj e=>v j (e.imp .inl id)) ?_ (r.g.sp.iff λb=>?_) O O r.g.z7g (λy M N=>J y (.inl ω)),λb u=>d b (h.xr b u),⟨d _ l.1,d _ l.2.1,d _ l.2.2.1,d _ l.2.2.2.1,d _ l.2.2.2.2.1,d _ l.2.2.2.2.2⟩,h.nk,C⟩
 ·rintro(e|e)
  ·rcases A _ e with e| e
   ·exact z e
   ·omega
  ·exact n2 e.symm
 ·constructor
  ·rintro((e|e)|e)
   ·exact .inl (.inl e)
   ·exact .inr e
   ·exact .inl (.inr e)
  ·rintro((e|e)|e)
   ·exact .inl (.inl e)
   ·exact .inr e
   ·exact .inl (.inr e)
theorem St.step (h:St R G T Q txt K X rr O_ a L s w)(D:Kp S' w w')(A:∀j,S' j->X j/\j≠G.k/\j≠G.x/\j≠T.k/\j≠T.x/\j≠1/\j≠2/\¬O_ j)(d:∀j,X j->Y j)(C:∀j,Y j->X j\/(w.heap.size<=j/\j<w'.heap.size)):St R G T Q txt K Y rr O_ a L s w':=by
 have l:=h.xk
 exact⟨h.m.step D (λj e=>by obtain⟨n,r,u,v,y,o,q,z⟩:=A j e;exact⟨.inl n,r,u,o,q,z⟩) (λj e=>e.imp (d j) id) (λj e=>e.elim (λe=>(C j e).imp .inl id) (λe=> .inl (.inr e))),
  h.t.step D (λj e=>by obtain⟨n,r,u,v,y,o,q,z⟩:=A j e;exact⟨.inl n,v,y,o,q⟩) (λj e=>e.elim (λe=>(C j e).imp .inl id) (λe=> .inl (.inr e))) (λj e=>e.imp (d j) id),
  λb F=>d b (h.xr b F),⟨d _ l.1,d _ l.2.1,d _ l.2.2.1,d _ l.2.2.2.1,d _ l.2.2.2.2.1,d _ l.2.2.2.2.2⟩,h.nk,h.Wt⟩
def St.ext (h:St R G T Q txt K X rr O_ a L s w)(d:Ext w w'):St R G T Q txt K X rr O_ a L s w':=
 h.step d (λ_ e=>e.elim) (λ_ e=>e) (λ_ e=> .inl e)
def St.grow (h:St R G T Q txt K X rr O_ a L s w)(m:Ext w w')(l:∀j,Y j->X j\/(w.heap.size<=j/\j<w'.heap.size))(d:∀j,X j->Y j):St R G T Q txt K Y rr O_ a L s w':=
 h.step m (λ_ e=>e.elim) d l
def St.own (h:St R G T Q txt K X rr O_ a L s w)(l:Kp S' w w')(d:∀j,S' j->X j/\j≠G.k/\j≠G.x/\j≠T.k/\j≠T.x/\j≠1/\j≠2/\¬O_ j):St R G T Q txt K X rr O_ a L s w':=
 h.step l d (λ_ e=>e) (λ_ e=> .inl e)
theorem St.read (h:St R G T Q txt K X rr O_ a L s w)(j:Kp (λb=>¬((X b\/b=T.rb)\/b=G.rb)) w w')(l:Sp Q txt K (λb=>(X b\/b=T.rb)\/b=G.rb) w'):St R G T Q txt K X rr O_ a L s w':=
 h.byG (h.m.read j l) j (λb e=> .inl ⟨λd=>e (.inl (.inl d)),λd=>e (.inl (.inr d))⟩) (λ_ e=>e) (λ_ e=> .inl e) (λ_ _=>rfl)
theorem St.upd (h:St R G T Q txt K X rr O_ a L s w)(o:K'<1000000000000)(l:Kp S' w w')(j:∀b,S' b->¬((X b\/b=T.rb)\/b=G.rb)\/O_ b)(q:Sp Q txt' K' (λb=>(X b\/b=T.rb)\/b=G.rb) w')(n:∀y:Int,y<(a:Int)\/(a:Int)+(L:Int)<=y->txt' y=txt y)(r:R.M Q txt' G.k rr O_ a L s' w'):St R G T Q txt' K' X rr O_ a L s' w':=
 h.byG (h.m.upd o l j q n r) l (λb e=>(j b e).imp (λe=>⟨λd=>e (.inl (.inl d)),λd=>e (.inl (.inr d))⟩) id) (λ_ e=>e) (λ_ e=> .inl e) n
theorem St.set (h:St R G T Q txt K X rr O_ a L s w)(j:Kp S' w w')(d:∀b,S' b->O_ b)(l:R.M Q txt G.k rr O_ a L s' w'):St R G T Q txt K X rr O_ a L s' w':=
 h.byG (h.m.set j d l) j (λb e=> .inr (d b e)) (λ_ e=>e) (λ_ e=> .inl e) (λ_ _=>rfl)
theorem St.less (h:St R G T Q txt K Y rr O_ a L s w)(l:∀j,X j->Y j)(d:X G.k/\X G.x/\X T.k/\X T.x/\X 1/\X 2)(n:∀b,O_ b->X b):St R G T Q txt K X rr O_ a L s w:=
 ⟨h.m.less (λj e=>e.imp (l j) id) ⟨.inl d.1,.inl d.2.1,.inl d.2.2.2.2.1,.inl d.2.2.2.2.2⟩ (λb o=> .inl (n b o)),h.t.less (λj e=>e.imp (l j) id) ⟨.inl d.2.2.1,.inl d.2.2.2.1,.inl d.2.2.2.2.1,.inl d.2.2.2.2.2⟩,n,d,h.nk,h.Wt⟩
end
inductive VW (g:List (List Nat)) (a:Nat):Nat->Prop
 |refl:VW g a a
 |step {x b:Nat}:VW g a x->b∈Qd g x->VW g a b
section
/-! ### Colours -/
def VW.lt (h:Sg g)(e:VW g a b)(d:a<g.length):b<g.length:=by
 cases e with
 |refl=>exact d
 |step _ j=>exact Vj h _ _ j
end
theorem z3C {p q:Nat->Bool}:∀{l:List Nat},(∀x∈l,p x=true->q x=false)->l.countP (λx=>p x ||q x)=l.countP p+l.countP q
 |[],_=>rfl
 | x :: l, h => by
   have m:=z3C (p:=p) (q:=q) (l:=l) λy j=>h y (y0u _ j);have d:=h x y0r;rw[y0Z,y0Z,y0Z,m]
   cases e:p x with
   |false=>cases q x<;>simp<;>omega
   |true=>rw[d e];simp;omega
theorem z3t {a:Nat}:∀n,a<n->(List.range n).countP (λx=>decide (x=a))=1
 |0,h=>absurd h (y2x _)
 | n + 1, h => by
   rw[y0T,y2z,y2X];by_cases e:a=n
   ·subst e
    have:(List.range a).countP (λx=>decide (x=a))=0:=by
     rw[List.countP_eq_zero];intro x l j;have:=y0Q.1 l;have:=of_decide_eq_true j;omega
    rw[this];simp
   ·rw[z3t n ω,if_neg (by simpa using λd=>e d.symm)]
theorem Z9 {n:Nat}:∀{l:List Nat},l.Nodup->(∀x∈l,x<n)->l.length=(List.range n).countP (λx=>decide (x∈l))
 |[],_,_=>by rw[y1g,eq_comm,List.countP_eq_zero];simp
 | a :: l, hn, h => by
   rw[y11] at hn;have m:=Z9 (l:=l) hn.2 λx d=>h x (y0u _ d)
   have e:(λx=>decide (x∈a::l))=λx=>decide (x=a) ||decide (x∈l):=by
    funext x
    rw[<-Bool.decide_or,decide_eq_decide,y0h]
   rw[e,z3C,z3t n (h a y0r),y02,m,y1B];intro x d j;rw[of_decide_eq_true j];exact decide_eq_false hn.1
theorem z2M {p:Nat->Nat->Bool}{m:Nat}:∀n,((List.range n).map λx=>(List.range m).countP (p x)).sum=((List.range m).map λu=>(List.range n).countP (λx=>p x u)).sum
 | 0 => by
   rw[List.range_zero,y1D,y1I,eq_comm]
   have:∀l:List Nat,(l.map λu=>([]:List Nat).countP (λx=>p x u)).sum=0:=λl=>by
    induction l with
    |nil=>rfl
    |cons a l d=>rw[y0j,y0M,d];rfl
   exact this _
 | n + 1 => by
   rw[y0T,y0f,y1a,z2M n]
   have:∀l:List Nat,(l.map λu=>(List.range n).countP (λx=>p x u)).sum+l.countP (p n)=(l.map λu=>(List.range n++[n]).countP (λx=>p x u)).sum:=λl=>by
    induction l with
    |nil=>rfl
    | cons a l d =>
      rw[y0j,y0M,y0j,y0M,y0Z,<-d,y2z,y2X];omega
   rw[<-this];simp
theorem z11 (g:List (List Nat)):Rb g=((List.range g.length).map λx=>(Qd g x).length).sum:=by
 unfold Rb
 congr 1
 refine y1t λi=>?_
 rw[y0m,y0m]
 by_cases h:i<g.length
 ·rw[y1E h];unfold Qd;simp[y07 h]
 ·rw[y0v ω,y0v (by rw[y17];omega)]
  rfl
def z7H (h:Sg g)(e:∀x,(Qd g x).Nodup)(d:∀x y,y∈Qd g x->y<g.length):Rb (R5 g)=Rb g:=by
 rw[z11,z11,SW]
 have j:((List.range g.length).map λx=>(Qd g x).length)=(List.range g.length).map λx=>(List.range g.length).countP (λu=>decide (u∈Qd g x)):=
  y0N λx _=>Z9 (e x) (d x)
 have l:((List.range g.length).map λu=>(Qd (R5 g) u).length)=(List.range g.length).map λu=>(List.range g.length).countP (λx=>decide (u∈Qd g x)):=
  y0N λu m=>by
   unfold Qd;rw[z0B g (y0Q.1 m),y3F]
   rfl
 rw[j,l,z2M]
def z6f (h:Sg g):Rb (R5 g)=Rb g:=by
 have j:∀x,Qd g x∈g\/Qd g x=[]:=λx=>by
  unfold Qd;by_cases e:x<g.length
  ·rw[y07 e];exact .inl (y1s e)
  ·rw[y0v ω];exact .inr O
 refine z7H h (λx=>?_) λx y d=>?_
 ·rcases j x with e| e
  ·exact List.Pairwise.imp (λh e=>ω) (h.ok _ e).ris
  ·rw[e];exact .nil
 ·rcases j x with e| e
  ·exact h.lt _ e y d
  ·rw[e] at d;cases d
end Go.Proofs.YtbihggbffaigjaaGreatDoor
