/- Merged by program. -/
import Derived.Test.YtbihggbffaigjaaGreatDoorZg6
import Derived.Lib.UnsafeStr
set_option linter.all false
set_option maxRecDepth 1000000
set_option maxHeartbeats 16000000
namespace Go.Proofs.YtbihggbffaigjaaGreatDoor
open Go Go.RowKit Go.Proofs.Tryz
variable {B K K' a b bg bi bk bs bw bx c each f gb gc i k rb rr st sum t vb wb width:Nat}{E es:List (Nat×Nat)}{L:List Bool}{O_ S' X:Nat->Prop}{P:Program}{Q Q':RE}{T s:P8}{aft:Array Edge}{cs:List Value}{d0:Nat->Option Nat}{ea ga:Option Addr}{el ty:TypeId}{g:List (List Nat)}{ms:List Dfr}{p:QR}{txt txt':Int->P8}{w w':World}{xs:List Nat}
section
variable {e:Env}{d:Option Nat}{t t':TypeId}{pos:String}{g:Option (Nat×Bool)}{x:Operand}{l:P8}{v:Value}
theorem zg5 (y:P.underlying t=some (.slice el))(r:P.underlying el=some (.int .u8))(q:P.underlying t'=some .string)(z:look e x=some v)(h:Rd w v 1 l.length (l.map TX))(D:0<l.length):
  Y P e ⟨d,.convert t t' x,ty,pos,aft,g⟩ (S l) w w:=fun ρ A=>by
 rcases h.2 with⟨⟨ca,c⟩,m,C⟩|⟨b,off,cap,m,o⟩
 ·omega
 ·subst m;have h:=run_convert_bytes_back (P:=P) w t t' el ⟨b,off,none⟩ cap l y r q (λj u=>by rw[RU];exact o j _ (by simp[u,TX]));simp[execOp,A _ _ z,h]
end
section
variable {s len n:Nat}
theorem z3J (hP:Sp Q txt K X w){len:Nat}(h1:1<=len)(h2:st+len<=Q.L.length):
  PN prog 67 [ptr Q.s 0,.agg #[I (st:Int),I (len:Int)]] w λv w'=>∃wb bs bx bw sum,v= .tuple #[ptr wb 0,I 0]/\sum<4294967296/\SwM Q.s st len wb bs bx bw (.slice none 0 0) 0 0 sum w'/\(w.heap.size<=wb/\w.heap.size<=bs/\w.heap.size<=bx/\w.heap.size<=bw)/\Ext w w':=by
 have mL:Sums.crc []<4294967296:=Sums.zgn _
 obtain⟨c0,c⟩:∃c0,Sums.crc []=c0:=⟨_,O⟩
 rw[c] at mL
 refine py (e:=[(0,_),(1,_)]) func67 O ntmps67 O O<|qN O<|Pb O O (RP O (cs:=[ptr Q.s 0]) O) ?_
 rintro _ w1⟨bs,rfl,yx,k,mq⟩
 refine Pb O O (RP O (cs:=[I (st:Int),I (len:Int)]) O) ?_
 rintro _ w2⟨bx,rfl,fV,S,a⟩
 have kH:=S.OZ mq
 have MC:=hP.ext' (k.trans S)
 have m:=Ext.Pz w2
 have r:=m.size
 refine QS O<|OY<|Qf (λP w'=>∃wb bw,P=[(2,ptr bs 0),(3,ptr bx 0),(6,ptr bw 0)]/\Pm w' wb [ptr Q.s 0,I (st:Int),I (len:Int),.slice none 0 0,I 0,I 0,U c0,.nilFunc,.bool false] 197/\Pm w' bw [ptr wb 0] 143/\Ext w2 w'/\w2.heap.size<=wb/\w2.heap.size<=bw/\wb≠bw) ?bI<|λbI=>?cZ
 case bI=>
  rintro P w3⟨wb,bw,rfl,B,mP,A,b,W,E⟩;have a0:=mq.lt;have a1:=a.lt;have ew:=S.size;have gV:=MC.ext' A;refine OY<|qN O<|qV (Pl z4d O O mP O)<|PQ O<|Pr Xw O<|qV (PO z48 O Yh O (Pm.cells (n:=3) B (news:=[_,_,_]) O) O)<|Px zkw O (z0E gV h1 h2) ?_;rintro _ w4⟨rfl,Y⟩;have m8:=Y.OZ mP;have aF:=Y.OZ B;refine Rq O (R5 O (QC O (qN O (qV (Pl z4d O O m8 O) (qV (ymf (first:=[]) (caps:=[.tmp 2,.tmp 3,.tmp 6]) O O) (PQ O (Pr z1i O (Po O (QZ zg8 O O O aF ξ) ?_))))))));rintro V⟨q,p⟩;have f:=p.OZ m8 (λe=>E e.symm);refine qM O<|qV (Pl z4d O O f O)<|QS O<|P3 func67 O ?_;have Z:Ext w2 V:=(A.trans Y).It p (λj e=>ω);refine⟨_,O,wb,bs,bx,bw,c0,O,mL,⟨q,Z.OZ kH,Z.OZ a,f,⟨ω,ω,λe=>E e.symm⟩⟩,⟨ω,ω,ω,ω⟩,(k.trans S).trans Z⟩
 case cZ=>
 refine PC [7] (λw'=>Ext w2 w') Pd O<|qL 0 O (λ_ h=>(Pl XZ O O (h.OZ kH) O)) m<|qL 1 O (λ_ hS=>(PO VU O Rw O (Pm.cells (n:=2) (hS.OZ a) (news:=[_,_]) O) O)) m<|PH 2 O (T3 (cs:=[_,_,_]) Yh O zfx O O) m<|Y3 (i:=3) (j:=6) Pd ?_ ?_
 ·refine Sm (i:=3) O O O (yc (args:=[.const (Value.string (⟨#[]⟩))]) zie O) (z8v [] _ ξ) ?_;rintro _ w3⟨rfl,A⟩;refine⟨m.trans A,?_⟩;rw[c];have m:=m.trans A
  try have o:=A.OZ o
  have r:=y0b r A.size;refine PH 4 O (T3 (cs:=[_,_,_,_,_,_,_,_,_]) zg0 O zfw O O) m<|Y3 (i:=5) (j:=6) Pd ?_ ?_
  ·refine QQ (i:=5) O O O (RP O (cs:=[ptr Q.s 0,I (st:Int),I (len:Int),.slice none 0 0,I 0,I 0,U c0,.nilFunc,.bool false]) O) ?_;rintro _ V⟨wb,rfl,b,y,q⟩;refine⟨m.trans y,?_⟩;have m:=m.trans y
   try have o:=y.OZ o
   have N:w2.heap.size<=wb:=ω
   have r:=y0b r y.size;refine Ry (i:=6) Pd<|QQ (i:=6) O O O (S5 (cs:=[_]) z32 O) ?_;rintro _ w6⟨bw,rfl,W,u,o⟩;refine⟨m.trans u,?_⟩;have m:=m.trans u
   try have q:=u.OZ q
   have H:w2.heap.size<=bw:=ω
   have r:=y0b r u.size;refine TV [7] (qO 7 (Q0 (i:=7) O O (QZ z32 O O O o ξ) ?_));rintro R⟨C,D⟩;refine⟨trivial,?_⟩;refine qE ?_;replace C:Pm R bw [ptr wb 0] 143:=C
   have G:wb≠bw:=by
    intro e;have z:=q;rw[e] at z;obtain⟨T,z,-⟩:=z;obtain⟨J,F,-⟩:=o;rw[z] at F;cases F
   have M:=D.OZ q G;exact(bI _ _ ⟨wb,bw,O,M,C,m.It D (λj e=>ω),N,H,G⟩).qb
  ·refine QQ (i:=6) O O O (S5 (cs:=[_]) z32 O) ?_;rintro _ w6⟨bw,rfl,W,u,o⟩;refine⟨m.trans u,?_⟩;have m:=m.trans u
   try have q:=u.OZ q
   have H:w2.heap.size<=bw:=ω
   have r:=y0b r u.size;refine Ry (i:=5) Pd<|QQ (i:=5) O O O (RP O (cs:=[ptr Q.s 0,I (st:Int),I (len:Int),.slice none 0 0,I 0,I 0,U c0,.nilFunc,.bool false]) O) ?_;rintro _ V⟨wb,rfl,b,y,q⟩;refine⟨m.trans y,?_⟩;have m:=m.trans y
   try have o:=y.OZ o
   have N:w2.heap.size<=wb:=ω
   have r:=y0b r y.size;refine TV [7] (qO 7 (Q0 (i:=7) O O (QZ z32 O O O o ξ) ?_));rintro R⟨C,D⟩;refine⟨trivial,?_⟩;refine qE ?_;replace C:Pm R bw [ptr wb 0] 143:=C
   have G:wb≠bw:=by
    intro e;have z:=q;rw[e] at z;obtain⟨T,z,-⟩:=z;obtain⟨J,F,-⟩:=o;rw[z] at F;cases F
   have M:=D.OZ q G;exact(bI _ _ ⟨wb,bw,O,M,C,m.It D (λj e=>ω),N,H,G⟩).qb
 ·refine QQ (i:=6) O O O (S5 (cs:=[_]) z32 O) ?_;rintro _ w6⟨bw,rfl,W,u,o⟩;refine⟨m.trans u,?_⟩;have m:=m.trans u
  try have q:=u.OZ q
  have H:w2.heap.size<=bw:=ω
  have r:=y0b r u.size;refine Ry (i:=3) Pd (Sm (i:=3) O O O (yc (args:=[.const (Value.string (⟨#[]⟩))]) zie O) (z8v [] _ ξ) ?_);rintro _ w3⟨rfl,A⟩;refine⟨m.trans A,?_⟩;rw[c];have m:=m.trans A
  try have o:=A.OZ o
  have r:=y0b r A.size;refine PH 4 O (T3 (cs:=[_,_,_,_,_,_,_,_,_]) zg0 O zfw O O) m (Ry (i:=5) Pd (QQ (i:=5) O O O (RP O (cs:=[ptr Q.s 0,I (st:Int),I (len:Int),.slice none 0 0,I 0,I 0,U c0,.nilFunc,.bool false]) O) ?_));rintro _ V⟨wb,rfl,b,y,q⟩;refine⟨m.trans y,?_⟩;have m:=m.trans y
  try have o:=y.OZ o
  have N:w2.heap.size<=wb:=ω
  have r:=y0b r y.size;refine TV [7] (qO 7 (Q0 (i:=7) O O (QZ z32 O O O o ξ) ?_));rintro R⟨C,D⟩;refine⟨trivial,?_⟩;refine qE ?_;replace C:Pm R bw [ptr wb 0] 143:=C
  have G:wb≠bw:=by
   intro e;have z:=q;rw[e] at z;obtain⟨T,z,-⟩:=z;obtain⟨J,F,-⟩:=o;rw[z] at F;cases F
  have M:=D.OZ q G;exact(bI _ _ ⟨wb,bw,O,M,C,m.It D (λj e=>ω),N,H,G⟩).qb
end
section
variable {len n:Nat}{rest:Value}
theorem z9H (T:P8)(k:Nat):((T.drop (512*k)).map TX).drop 512=(T.drop (512*(k+1))).map TX:=by
 rw[<-y1T,y0E]
 congr 2
def SwI (Q:RE)(txt:Int->P8)(K:Nat)(X:Nat->Prop)(st len wb bs bx bw:Nat)(T:P8)(sum:Nat)(w:World)(k:Nat)(w':World):Prop:=
 ∃txt' rest,Sp Q txt' (K+k) (λb=>X b\/rest.ownBlock=some b) w'/\SwM Q.s st len wb bs bx bw rest k T.length sum w'/\Sl w' rest 5 1 (T.length-512*k) ((T.drop (512*k)).map TX)/\(∀j,j<k->txt' ((st+j:Nat):Int)=(T.drop (512*j)).take 512)/\(∀y:Int,y<(st:Int)\/(st:Int)+(k:Int)<=y->txt' y=txt y)/\Kp (λb=>¬X b\/b=wb) w w'/\(∀b,rest.ownBlock=some b->w.heap.size<=b)
theorem z61 (f:Sp Q txt K X w)(hX:∀b,X b->b<w.heap.size)(hK:K<=100000000000)(h:SwM Q.s st len wb bs bx bw (.slice none 0 0) 0 0 sum w)(hH:sum<4294967296)(o:X wb/\X bs/\X bx/\X bw)(cx:st+len<=Q.L.length)(h1:1<=len)(hT:T.length<=len*512-12):
  PN prog 68 [ptr wb 0,S T] w λv w'=>v=I 0/\∃q,q<4294967296/\SwI Q txt K X st len wb bs bx bw T q w (T.length / 512) w':=by
 have eF:maxLen=9223372036854775807:=rfl
 have eB:=f.n
 refine py (e:=[(0,_),(1,_)]) func68 O ntmps68 O O<|Re O<|Qi O<|Px zfC O (YX h.wr) ?_
 rintro _ w⟨rfl,rfl⟩
 refine Rq O<|R5 O<|QC O<|Qi O<|qV (WW U9 O)<|Ph O<|Px ziz O (z5c f ω ω h.wr) ?_
 rintro _ w1⟨rfl,J⟩
 have mx:=f.ext' J
 have dU:=h.ext J
 have aj:=dU.cells
 refine R8 O<|Qb<|QC O<|PL O<|PQ O<|Pr z1h O<|qV (Pl U3 O O aj O)<|Ph O<|qV (WW U9 O)<|Qj O<|PQ O<|Pr z1h O ?_
 rw[show((0:Nat):Int)+(T.length:Int)=(T.length:Int) by omega]
 refine Po O (QZ Qe O O O aj ξ) ?_
 rintro w2⟨ak,N⟩
 have dr:=dU.re N (show Pm w2 wb (swC Q.s st len (.slice none 0 0) 0 T.length sum (z2v bs bx bw) false) 197 from ak)
 have fA:=mx.own N (λb e=>by rw[e];exact o.1)
 have eG:=dr.cells
 refine qM O<|PB O<|PQ O<|Pr z3T O<|qV (Pl R9 O O eG O)<|Ph O<|Px zf9 O (zc2 sum T _ hH ω) ?_
 rintro _ w3⟨rfl,M⟩
 have sG:=Sums.zf1 T hH
 obtain⟨d,iP⟩:∃d,Sums.on sum T=d:=⟨_,O⟩
 rw[iP] at sG⊢
 have pd:=dr.ext M
 have ao:=pd.cells
 refine PQ O<|Pr z3T O<|Po O (QZ Py O O O ao ξ) ?_
 rintro G⟨aF,R⟩
 have wn:=pd.re R (show Pm G wb (swC Q.s st len (.slice none 0 0) 0 T.length d (z2v bs bx bw) false) 197 from aF)
 have jF:=(fA.ext' M).own R (λb e=>by rw[e];exact o.1)
 have fw:=wn.cells
 refine P4<|PM.qb (e:=[(0,_),(1,_),(4,_)]) ?_
 refine QG O<|PQ O<|Pr Tk O<|qV (Pl QX O O fw O)<|Ph O<|Pb O O (zjU QX U9 YS O O (Sl.nil G _ 1) ω) ?_
 rintro v5 w5⟨a,D,pZ⟩
 simp only[y18,y09] at a
 replace D:Ext G w5:=D.Pk (λb e=>by cases e)
 have p:∀b,v5.ownBlock=some b->G.heap.size<=b:=λb e=>(pZ b e).elim (λe=>by cases e) id
 obtain⟨a5,c5,rfl,-⟩:=a.rd.shape
 have oX:=wn.ext D
 have aD:=oX.cells
 have bQ:Kp (λb=>¬X b\/b=wb) w w5:=(((J.kp.trans (N.Pk λb e=> .inr e)).trans M.kp).trans (R.Pk λb e=> .inr e)).trans D.kp
 have z4:w.heap.size<=G.heap.size:=by have:=J.size;have:=N.size;have:=M.size;have:=R.size;omega
 have a1:=aD.lt
 have a0:=hX _ o.1
 refine PQ O<|Pr Tk O<|Po O (QZ Y7 O O O aD ξ) ?_
 rintro P⟨aJ,H⟩
 have Fr:=oX.re H (show Pm P wb (swC Q.s st len (.slice a5 T.length c5) 0 T.length d (z2v bs bx bw) false) 197 from aJ)
 have ox:Sp Q txt K (λb=>X b\/(Value.slice a5 T.length c5).ownBlock=some b) P:=(jF.ext D (λb e=>e.imp id (p b))).own H (λb e=> .inl (by rw[e];exact o.1))
 have g9:=a.kp H (λb m e=>by have:=p b m;omega)
 have nq:=Fr.cells
 have iF:=bQ.trans (H.Pk λb e=>Or.inr e)
 refine qM O<|Ph O<|PQ O<|Pr Xw O<|Pr VK O<|qV (Pl XZ O O nq O)<|Px z4W O ox.size ?_
 rintro _ P⟨rfl,rfl⟩
 refine Pq O<|R0<|RX (α:=Nat) (0) (λk=>[(0,ptr wb 0),(6,I 512)]) (λk w'=>k<=T.length / 512/\SwI Q txt K X st len wb bs bx bw T d w k w') (λk=>T.length / 512-k) ?hI ?hround
 case hI=>exact⟨y00 _,txt,_,ox,Fr,g9,λj hj=>ω,λy hy=>rfl,iF,λb m=>by have:=p b m;omega⟩
 case hround=>
  rintro k V⟨hk,r,rest,pi,y5,x,iZ,Ak,W,jD⟩ ih;obtain⟨a8,c8,rfl,-⟩:=x.rd.shape;have Y:=y5.cells;have Ib:=W.size
  try dsimp only
  refine Qi O<|PQ O<|Pr Tk O<|qV (Pl QX O O Y O)<|RQ QX O<|Ph O<|Uj O<|P4<|Pn O (λh0=>?_)<|λh0=>?_
  ·have MD:512*k+512<=T.length:=ω
   rcases x.shape with⟨e,wP⟩|⟨gb,cc,e,FF⟩
   ·omega
   cases e;have LP:=jD gb O;have hg:=Ext.Pz V;have eU:((T.drop (512*k)).take 512).length=512:=by rw[y0d,y07];omega
   have G4:Rd V (.slice (some ⟨gb,0,none⟩) 512 c8) 1 ((T.drop (512*k)).take 512).length (((T.drop (512*k)).take 512).map TX):=by
    rw[eU,y1k];exact VC x.rd ω
   have ME:∀b,(X b\/(Value.slice (some ⟨gb,0,none⟩) (T.length-512*k) c8).ownBlock=some b)->b<V.heap.size:=λb m=>by
    rcases m with e| e
    ·have:=hX b e;omega
    ·exact x.lt e
   refine P5 (P6 (OY (OY (PC [11,12] (λw'=>Ext V w') Pd O (Qm 0 O O hg (PH 1 O (QL O) hg (PH 2 O (PU z1i O) hg (qL 3 O (λ_ h=>Pl U55 O O (h.OZ Y) O) hg (Qm 4 O O hg (PH 5 O (QL O) hg (PH 6 O (PU Tk O) hg (qL 7 O (λ_ h=>Pl QX O O (h.OZ Y) O) hg (Qm 8 O O hg ?_)))))))))))));refine PH 9 O (zef QX YS O O ω) hg (qL 10 O (λ_ hS=>zg5 (l:=(T.drop (512*k)).take 512) QX U5 U9 O (G4.ext hS) ω) hg (TV [11] (qO 11 (Xc (i:=11) O O O (SE zh4 O O) (ZJ (pi.ext' hg) (λb m=>by have:=ME b m;have:=hg.size;omega) ω (y5.ext hg) ⟨.inl o.1,.inl o.2.1,.inl o.2.2.1,.inl o.2.2.2⟩ ω ((T.drop (512*k)).take 512) eU) ?_))));rintro _ w9⟨rfl,wU,BU,aN⟩;refine⟨trivial,?_⟩;refine P7 12 O (S6 O) trivial<|qE<|PL O<|R5 O ?_;have cB:=BU.cells;have t:=hg.kp.trans aN
   have nu:=x.kp t (λb m e=>by
    rcases e with e| e
    ·exact e (.inr m)
    ·have e1:gb=b:=RZ m
     omega)
   have Ic:=t.size;refine QC O (Pc O (PB O (PQ O (Pr Tk O (qV (Pl QX O O cB O) (Ph O (qV (Zr QX YS O O ω ω) (Pb O O (pap QX YS O ψ O O (Sl.nil w9 _ 1) (Uh (i:=512) nu.rd ω ω) (λc hc=>by obtain⟨z,-,rfl⟩:=y0h.1 (y1S hc);rfl) ω ω) ?_))))))));rintro B E⟨Z,C,cq,-⟩;rw[y18,z9H,y09,show T.length-512*k-512=T.length-512*(k+1) by omega] at Z;replace C:Ext w9 E:=C.Pk (λb e=>by cases e);have g:∀b,B.ownBlock=some b->w9.heap.size<=b:=λb e=>(cq b e).elim (λe=>by cases e) id;obtain⟨A,F,rfl,-⟩:=Z.rd.shape;have Al:=BU.ext C;have fI:=Al.cells;refine PQ O (Pr Tk O (Po O (QZ Y7 O O O fI ξ) ?_));rintro u⟨aZ,U⟩;have G5:=Al.re U (show Pm u wb (swC Q.s st len (.slice A (T.length-512*(k+1)) F) (k+1) T.length d (z2v bs bx bw) false) 197 from aZ);have G6:Sp Q (ZY r ((st+k:Nat):Int) (some ((T.drop (512*k)).take 512))) (K+k+1) (λb=>X b\/(Value.slice A (T.length-512*(k+1)) F).ownBlock=some b) u:=(wU.ext C (λb e=>e.elim (λe=> .inl (.inl e)) (λe=> .inr (g b e)))).own U (λb e=> .inl (by rw[e];exact o.1));have tA:=Z.kp U (λb m e=>by have:=g b m;omega);refine P4<|An ((ih (k+1) u ⟨ω,_,_,G6,G5,tA,λj hj=>?_,λy hy=>?_,?_,λb m=>by have:=g b m;omega⟩ ω).qb)
   ·by_cases e:j=k
    ·subst e;exact Su _ _ _
    ·rw[S1 _ _ ω];exact iZ j ω
   ·rw[S1 _ _ ω];exact Ak y ω
   ·refine(W.It t λb e=>?_).trans (C.kp.trans (U.Pk λb e=> .inr e));rcases e with e| e
    ·by_cases m:X b
     ·exact absurd (.inl m) e
     ·exact .inr (.inl m)
    ·exact .inr (.inr e)
  ·have MF:k=T.length / 512:=ω
   subst MF;refine Pf O<|Re O<|P3 func68 O ?_;exact⟨_,O,O,d,sG,r,_,pi,y5,x,iZ,Ak,W,jD⟩
end
section
variable {len n:Nat}{rest:Value}
def Y9 (n sum:Nat):P8:=VV 8 n++VV 4 sum
def z4g (n sum:Nat):(Y9 n sum).length=12:=by simp[Y9,QA]
theorem z4Z (hP:Sp Q txt K (λb=>X b\/rest.ownBlock=some b) w)(hX:∀b,X b->b<w.heap.size)(hK:K<=200000000000)(h:SwM Q.s st len wb bs bx bw rest (T.length / 512) T.length sum w)(hH:sum<4294967296)(m:X wb/\X bs/\X bx/\X bw)(cx:st+len<=Q.L.length)(aB:len=(T.length+523) / 512)
  (hS:Sl w rest 5 1 (T.length%512) ((T.drop (512*(T.length / 512))).map TX)) (D:∀b,rest.ownBlock=some b->¬X b) (iZ:∀j,j<T.length / 512->txt ((st+j:Nat):Int)=(T.drop (512*j)).take 512):
  PN prog 69 [ptr wb 0] w λv w'=>v=I 0/\∃txt',Sp Q txt' (K+2) X w'/\(∀j,512*j<T.length->∃z,txt' ((st+j:Nat):Int)=(T.drop (512*j)).take 512++z)/\(∃z,txt' ((st+(len-1):Nat):Int)=z++Y9 T.length sum/\z.length=500)/\(∀y:Int,y<(st:Int)\/(st:Int)+(len:Int)<=y->txt' y=txt y)/\Kp (λb=>¬X b\/b=wb) w w':=by
 have eF:maxLen=9223372036854775807:=rfl
 have eB:=hP.n
 obtain⟨E,c0,rfl,-⟩:=hS.rd.shape
 have hB:=h.cells
 have MG:∀b,(Value.slice E (T.length%512) c0).ownBlock=some b->b<w.heap.size:=λb A=>hS.lt A
 have hg:=Ext.Pz w
 refine py (e:=[(0,_)]) func69 O ntmps69 O O<|Re O<|Qi O<|Px zfC O (YX h.wr) ?_
 rintro _ w⟨rfl,rfl⟩
 refine Rq O<|R5 O<|QC O<|PL O<|PQ O<|Pr Xw O<|Pr VK O<|qV (Pl XZ O O hB O)<|Px z4W O hP.size ?_
 rintro _ w⟨rfl,rfl⟩
 refine Pq O<|OY<|OY<|Qf (λV w'=>∃q,V=[(0,ptr wb 0),(4,I 512),(38,.bool q)]/\(q=true↔T.length / 512<len-1)/\Ext w w') ?cY<|λcY=>?gm
 case cY=>
  rintro V w1⟨q,rfl,Z,H⟩;have mx:=hP.ext' H;have h1:=h.ext H;have jK:=hS.ext H;have aj:=h1.cells;have mY:=H.size;refine Qf (λV w'=>V=[(0,ptr wb 0),(4,I 512)]/\∃x d S l,Sp Q x (K+1) (λb=>X b\/d.ownBlock=some b) w'/\SwM Q.s st len wb bs bx bw d S T.length sum w'/\Sl w' d 5 1 l.length (l.map TX)/\l.length<=500/\(∀b,d.ownBlock=some b->¬X b)/\l=T.drop (512*(len-1))/\(∀j,j<len-1->512*j<T.length->∃z,x ((st+j:Nat):Int)=(T.drop (512*j)).take 512++z)/\(∀y:Int,y<(st:Int)\/(st:Int)+(len:Int)<=y->x y=txt y)/\Kp (λb=>¬X b\/b=wb) w w') ?aw<|λaw=>?er
  case aw=>
   rintro V w2⟨rfl,x,d,S,l,fA,t,U,In,F,hl,G7,G8,J⟩;obtain⟨a2,c2,rfl,-⟩:=U.rd.shape;have ak:=t.cells;have u:=Ext.Pz w2;have na:=J.size;refine OY (RI (λw'=>Kp (λb=>(Value.slice a2 l.length c2).ownBlock=some b) w2 w') O (Pu 0 O O (u.kp) (P7 1 O (QL O) (u.kp) (P7 2 O (PU Tk O) (u.kp) (qT 3 O (λ_ h=>Pl QX O O (h.OZ ak (λe=>F _ e m.1)) O) (u.kp) (Pu 4 O O (u.kp) (P7 5 O (Yf O O ω) (u.kp) (Pu 6 O O (u.kp) (P7 7 O (QL O) (u.kp) (P7 8 O (PU Tk O) (u.kp) (qT 9 O (λ_ h=>Pl QX O O (h.OZ ak (λe=>F _ e m.1)) O) (u.kp) (P7 10 O (T7 QX O) (u.kp) (P7 11 O (Yf O O ω) (u.kp) ?_)))))))))))));rw[show(512:Int)-12-(l.length:Int)=((500-l.length:Nat):Int) by omega];refine qO 12 (z0n (i:=12) O O O (zj3 QX U3 U9 YS O O (U.ext u) ω) ?_);rintro v3 w3⟨k,R,qi⟩;refine⟨u.kp.trans R,?_⟩;have Am:l.length+(500-l.length)=500:=ω
   rw[Am,<-y0f] at k;obtain⟨P,c3,rfl,-⟩:=k.rd.shape;have g:=u.kp.trans R
   have fi:∀b,(Value.slice P 500 c3).ownBlock=some b->¬X b:=λb A e=>by
    rcases qi b A with e2|e2
    ·exact F b e2 e
    ·have:=hX b e;have:=u.size;omega
   have gV:Sp Q x (K+1) (λb=>X b\/(Value.slice P 500 c3).ownBlock=some b) w3:=fA.step g (λb e=> .inr e) (λb e=>e.elim (λe=> .inl (.inl e)) (λe=>(qi b e).imp .inr (λe=>by have:=u.size;omega)));have W:=t.kp g (λe=>F _ e m.1) (λe=>F _ e m.2.1) (λe=>F _ e m.2.2.1) (λe=>F _ e m.2.2.2);have a:=W.cells;have cb:Kp (λb=>¬X b\/b=wb) w w3:=J.It g (λb e=> .inr (.inl (F b e)));refine P7 13 O (S6 O) (u.kp.trans R)<|qE<|QG O<|PQ O<|Pr Xw O<|Pr UC O<|Pr RB O<|qV (Pl U3 O O a O)<|RR O<|PQ O<|Pr YV O ?_;rw[show(len:Int)-1=((len-1:Nat):Int) by omega];refine Po O (QZ Qe O O O a ξ) ?_;rintro M⟨aF,C⟩;have B:=W.re C (show Pm M wb (swC Q.s st len (.slice a2 l.length c2) (len-1) T.length sum (z2v bs bx bw) false) 197 from aF);have jF:=gV.own C (λb e=> .inl (by rw[e];exact m.1));have ee:=k.kp C (λb A e=>fi b A (by rw[e];exact m.1));have fw:=B.cells;have o:=Ext.Pz M;have fU:=cb.trans (C.Pk λb e=>Or.inr e);have j7:=QA 8 T.length;have g7:=QA 4 sum;have G:(l++zeros (500-l.length)).length=500:=by rw[Pe,show(zeros (500-l.length)).length=500-l.length by simp[zeros]];omega
   rw[Pe] at G;refine P4<|PM.qb (e:=[(0,_),(6,_)]) ?_;refine OY (PC [20,21] (λw'=>Ext M w') Pd O (Qm 0 O O o (PH 1 O (QL O) o (PH 2 O (PU z1i O) o (qL 3 O (λ_ h=>Pl U55 O O (h.OZ fw) O) o (Qm 4 O O o (Qm 6 O O o (PH 7 O (QL O) o (PH 8 O (PU z1h O) o (qL 9 O (λ_ h=>Pl U3 O O (h.OZ fw) O) o (PH 10 O (QH O U3 RW ω) o (Qm 13 O O o (PH 14 O (QL O) o ?_)))))))))))));refine PH 15 O (PU z3T O) o (qL 16 O (λ_ h=>Pl R9 O O (h.OZ fw) O) o (PH 17 O (QH O R9 RW ω) o (qL 5 O (λ_ h=>zg5 (l:=l++zeros (500-l.length)) QX U5 U9 O (by rw[Pe,G];exact ee.rd.ext h) (by rw[Pe];omega)) o ?_)));refine Ry (i:=11) Pd (Sm (i:=11) O O O (yc zfm O) (z0C T.length 8 _ ω ω) ?_);rintro _ w5⟨rfl,N⟩;refine⟨o.trans N,?_⟩;refine PH 12 O (ZE O O (by first|omega|(simp;done)|(simp;omega))) (o.trans N) ?_;refine Ry (i:=18) Pd (Sm (i:=18) O O O (yc zfm O) (z0C sum 4 _ ω ω) ?_);rintro _ w6⟨rfl,aM⟩;refine⟨(o.trans N).trans aM,?_⟩;have f:=(o.trans N).trans aM
   have qY:∀b,(X b\/(Value.slice P 500 c3).ownBlock=some b)->b<w6.heap.size:=λb A=>by
    have:=f.size;have:=C.size;have:=g.size;rcases A with e| e
    ·have:=hX b e;omega
    ·have:=k.lt e;omega
   refine PH 19 O (ZE O O (by first|omega|(simp;done)|(simp;omega))) ((o.trans N).trans aM) ?_;refine TV [20] ?_;have lV:(l++zeros (500-l.length)++VV 8 T.length++VV 4 sum).length=512:=by rw[Pe,Pe,Pe,G,QA,QA]
   refine qO 20 (Xc (i:=20) O O O (SE zh4 O O) (ZJ (jF.ext' f) qY ω (B.ext f) ⟨.inl m.1,.inl m.2.1,.inl m.2.2.1,.inl m.2.2.2⟩ ω _ lV) ?_);rintro _ w7⟨rfl,Ao,h7,av⟩;refine⟨trivial,?_⟩;have bE:=h7.cells;refine P7 21 O (S6 O) trivial (qE (PL O (PQ O (Pr Zv O (Po O (QZ TZ O O O bE ξ) ?_)))));rintro w8⟨bh,aH⟩;have pi:=(Ao.own aH (λb e=> .inl (by rw[e];exact m.1))).less (Y:=X) (λb e=> .inl e);refine P4<|PM.qb (e:=[(7,_)]) ?_;refine PL O<|Pq O<|P3 func69 O (⟨_,O,O,_,pi,λj hj=>?_,⟨l++zeros (500-l.length),?_,by rw[Pe,G]⟩,λy hy=>?_,?_⟩)
   ·by_cases e:j=len-1
    ·subst e;refine⟨zeros (500-l.length)++VV 8 T.length++VV 4 sum,?_⟩;rw[Su];show l++_++_++_=_;rw[<-hl,y0N ω];simp only[y05]
    ·obtain⟨z,hz⟩:=G7 j ω hj;exact⟨z,by rw[S1 _ _ ω];exact hz⟩
   ·rw[Su];show _++_++_=_;unfold Y9;simp only[y05]
   ·rw[S1 _ _ ω];exact G8 y hy
   ·refine((fU.trans f.kp).It av λb e=>?_).trans (aH.Pk λb e=> .inr e);rcases e with e| e
    ·by_cases A:X b
     ·exact absurd (.inl A) e
     ·exact .inr (.inl A)
    ·exact .inr (.inr e)
  case er=>
   refine QF O (λp=>?_)<|λp=>?_
   ·have yJ:=Z.1 p;have hr:500<T.length%512/\T.length / 512=len-2/\2<=len:=ω
    have r:=Ext.Pz w1;refine OY (OY (PC [17,18] (λw'=>Kp (λb=>(Value.slice E (T.length%512) c0).ownBlock=some b) w1 w') Pd O (Qm 0 O O r.kp (PH 1 O (QL O) r.kp (PH 2 O (PU z1i O) r.kp (qL 3 O (λ_ h=>Pl U55 O O (h.OZ aj (λe=>D _ e m.1)) O) r.kp (Qm 4 O O r.kp (PH 5 O (QL O) r.kp (PH 6 O (PU Tk O) r.kp (qL 7 O (λ_ h=>Pl QX O O (h.OZ aj (λe=>D _ e m.1)) O) r.kp (Qm 8 O O r.kp (Qm 9 O O r.kp (PH 10 O (QL O) r.kp ?_)))))))))))));refine PH 11 O (PU Tk O) r.kp (qL 12 O (λ_ h=>Pl QX O O (h.OZ aj (λe=>D _ e m.1)) O) r.kp (PH 13 O (T7 QX O) r.kp (PH 14 O (Yf O O ω) r.kp ?_)));rw[show(512:Int)-((T.length%512:Nat):Int)=((512-T.length%512:Nat):Int) by omega];refine Ry (i:=15) Pd (QQ (i:=15) O O O (zj3 QX U3 U9 YS O O (jK.ext r) ω) ?_);rintro v2 w2⟨U,J,sW⟩;refine⟨r.kp.trans J,?_⟩;rw[show T.length%512+(512-T.length%512)=512 by omega,<-y0f] at U;have G:(T.drop (512*(T.length / 512))++zeros (512-T.length%512)).length=512:=by rw[Pe,y07,show(zeros (512-T.length%512)).length=512-T.length%512 by simp[zeros]];omega
    refine Ry (i:=16) Pd (zfA (i:=16) O O O (zg5 (l:=T.drop (512*(T.length / 512))++zeros (512-T.length%512)) QX U5 U9 O (by rw[G];exact U.rd) ω) (r.kp.trans J) ?_);have c:=r.kp.trans J;have fA:Sp Q txt K X w2:=mx.step c (λb e=> .inr e) (λb e=> .inl (.inl e));have t:=h1.kp c (λe=>D _ e m.1) (λe=>D _ e m.2.1) (λe=>D _ e m.2.2.1) (λe=>D _ e m.2.2.2);have na:=c.size;refine TV [17] (qO 17 (Xc (i:=17) O O O (SE zh4 O O) (ZJ fA (λb A=>by have:=hX b A;omega) ω t m ω _ G) ?_));rintro _ w3⟨rfl,gV,W,R⟩;refine⟨trivial,?_⟩;have a:=W.cells;refine P7 18 O (S6 O) trivial (qE (PL O (R5 O (QC O (Ra O (PQ O (Pr Tk O (Po O (QZ Y7 O O O a ξ) ?_))))))));rintro M⟨aF,C⟩;have B:=W.re C (show Pm M wb (swC Q.s st len (.slice none 0 0) (T.length / 512+1) T.length sum (z2v bs bx bw) false) 197 from aF);have jF:=gV.own C (λb e=>by rw[e];exact m.1);have kP:(T.drop (512*(T.length / 512))).take 512=T.drop (512*(T.length / 512)):=y0N (by rw[y07];omega);refine P4<|PM.qb (e:=[(0,_),(4,_)]) ?_;refine(aw _ _ ⟨O,_,.slice none 0 0,_,[],jF.less (λb e=>e.elim id (λe=>by cases e)),B,Sl.nil M _ 1,y00 _,(λb e=>by cases e),(y37 ω).symm,λj hj kW=>?_,λy hy=>?_,?_⟩).qb
    ·by_cases e:j=T.length / 512
     ·subst e;exact⟨zeros (512-T.length%512),by rw[Su,kP];rfl⟩
     ·exact⟨[],by rw[S1 _ _ ω,y0o];exact iZ j ω⟩
    ·rw[S1 _ _ ω]
    ·refine((H.kp.It c λb e=> .inr (.inl (D b e))).trans R).trans (C.Pk λb e=> .inr e)
   ·have yJ:¬T.length / 512<len-1:=λe=>by rw[Z.2 e] at p;cases p
    have BX:T.length / 512=len-1:=ω
    have fM:(T.drop (512*(T.length / 512))).length=T.length%512:=by rw[y07];omega
    refine P5 ((aw _ _ ⟨O,txt,.slice E (T.length%512) c0,T.length / 512,T.drop (512*(T.length / 512)),mx.more ω,h1,by rw[fM];exact jK,ω,D,by rw[BX],λj hj kW=>⟨[],by rw[y0o];exact iZ j ω⟩,λy hy=>rfl,H.kp⟩).qb)
 case gm=>
  refine RI (λw'=>Ext w w') O (Pu 0 O O hg (P7 1 O (QL O) hg (P7 2 O (PU YV O) hg (qT 3 O (λ_ h=>Pl U3 O O (h.OZ hB) O) hg (Pu 4 O O hg (P7 5 O (QL O) hg (P7 6 O (PU Xw O) hg (P7 7 O (PU UC O) hg (P7 8 O (PU RB O) hg (qT 9 O (λ_ h=>Pl U3 O O (h.OZ hB) O) hg (P7 10 O (Yf O O ω) hg ?_)))))))))));rw[show(len:Int)-1=((len-1:Nat):Int) by omega];rcases y0a (T.length / 512) (len-1) with Z|Z
  ·refine P7 11 O (ZQ O O) hg<|TW<|Pu 12 O O hg<|Pu 13 O O hg<|P7 14 O (QL O) hg<|P7 15 O (PU Tk O) hg<|qT 16 O (λ_ h=>Pl QX O O (h.OZ hB) O) hg<|P7 17 O (T7 QX O) hg<|P7 18 O (YT O O) hg<|TW<|P7 19 O (Ux O O) hg<|qE<|PM.qb (e:=[(0,_),(2,_),(4,_),(38,_)]) ?_;exact(cY _ _ ⟨true,O,⟨λ_=>Z,λ_=>rfl⟩,hg⟩).qb
  ·refine P7 11 O (ZQ O O) hg<|TJ<|Pu 12 O O hg<|qJ 13 O hg<|qJ 14 O hg<|qJ 15 O hg<|qJ 16 O hg<|qJ 17 O hg<|qJ 18 O hg<|P7 19 O (U0 O O) hg<|qE<|PM.qb (e:=[(0,_),(2,_),(4,_),(38,_)]) ?_;exact(cY _ _ ⟨false,O,⟨λe=>(by cases e),λe=>ω⟩,hg⟩).qb
end
open Go.Shelf
def BdM (w:World)(b:Nat)(l:P8)(v:Value):Prop:=(∃p,(p= .pointer none\/p=ptr b 0)/\Pm w b [p,v] 175)/\Sl w v 5 1 l.length (l.map TX)/\v.ownBlock≠some b
section
variable {l:P8}{v:Value}
theorem BdM.kp (h:BdM w b l v)(j:Kp S' w w')(m:¬S' b)(o:∀g,v.ownBlock=some g->¬S' g):BdM w' b l v:=by
 obtain⟨⟨p,u,hB⟩,q,r⟩:=h
 exact⟨⟨p,u,j.OZ hB m⟩,q.kp j o,r⟩
theorem BdM.new (h:Pm w b [.pointer none,.slice none 0 0] 175):BdM w b [] (.slice none 0 0):=⟨⟨_,.inl O,h⟩,Sl.nil w _ 1,λe=>by cases e⟩
def Pm.shape {T:TypeId}(h:Pm w b cs T):w.shape? b=some (T,cs.length):=by
 obtain⟨m,j,-⟩:=h
 simp[World.shape?,j]
theorem zc6 (h:BdM w b l v):PN prog 122 [ptr b 0] w λr w'=>r= .tuple #[]/\BdM w' b l v/\Kp (λk=>k=b) w w':=by
 obtain⟨⟨p,z,hB⟩,q,o⟩:=h
 rcases z with rfl|rfl
 ·refine y1C (Any.Builder_copyCheck_fresh {zh7 with} zgE.toX72 b w (hB.cell 0) hB.shape (hB.free (i:=0) ξ)) λ_ _ ⟨m,j⟩=>⟨_,m,O,?_,?_⟩
  ·rw[j];have u:=U8 w b 0 (ptr b 0);exact⟨⟨_,.inr O,Xi hB 0 (ptr b 0)⟩,q.kp u (λg hg e=>o (e▸hg)),o⟩
  ·rw[j];exact U8 w b 0 _
 ·exact y1C (Any.Builder_copyCheck_used {zh7 with} zgE.toX72 b w (hB.cell 0)) λ_ _ ⟨m,j⟩=>⟨_,m,O,by rw[j];exact⟨⟨_,.inr O,hB⟩,q,o⟩,by rw[j];exact Kp.refl _ _⟩
theorem zbt (h:BdM w b l v)(s:P8)(H:l.length+s.length<=140737488355328):PN prog 84 [ptr b 0,S s] w λ_ w'=>∃A,BdM w' b (l++s) A/\Kp (λk=>k=b\/v.ownBlock=some k) w w'/\(∀g,A.ownBlock=some g->v.ownBlock=some g\/w.heap.size<=g):=by
 refine py (e:=[(0,_),(1,_)]) func84 O ntmps84 O O<|qN O<|SO O<|Rq O<|Px ziF O (zc6 h) ?_
 rintro _ w1⟨rfl,⟨⟨p,I,j⟩,J,u⟩,q⟩
 have N:=q.size
 have M:=j.lt
 refine qM O<|PB O<|PQ O<|Pr z18 O<|qV (Pl QX O O j O)<|Ph O<|Pb O O (zjU QX U9 YS O O J H) ?_
 rintro C w2⟨o,m,D⟩
 have F:=m.OZ j u
 have R:=m.size
 have z:C.ownBlock≠some b:=λe=>by
  rcases D b e with e| e
  ·exact u e
  ·omega
 refine PQ O<|Pr z18 O<|Po O (QZ Y7 O O (WB o) F ξ) ?_
 rintro U⟨G,r⟩
 refine qM O<|Ph O<|qV (WW U9 O)<|QS O<|P3 func84 O ?_
 rw[<-Pe,<-y0f] at o
 refine⟨_,O,C,⟨⟨p,I,G⟩,o.kp r (λg hg e=>z (e▸hg)),z⟩,((q.Pk λk e=> .inl e).trans (m.Pk λk e=> .inr e)).trans (r.Pk λk e=> .inl e),λg hg=>(D g hg).imp id λe=>ω⟩
def z9p (w:World)(a:Addr)(n:Nat):Kp (λk=>k=a.block) w (w.freeze a n):=by
 by_cases j:n=0
 ·subst j;rw[show w.freeze a 0=w by simp[World.freeze]];exact Kp.refl _ w
 ·unfold World.freeze;rw[if_neg j]
  exact⟨rfl,rfl,rfl,ξ,λk _ m=>by
   simp only[y3z]
   rw[if_neg (λh=>m h.symm)]⟩
section
variable {e:Env}{d:Option Nat}{t it:TypeId}{pos:String}{g:Option (Nat×Bool)}{x y:Operand}{n:Nat}{a:Option Addr}
def zkY (m:look e x=some (.slice a n c))(h:a≠none->c≠0):Y P e ⟨d,.call ⟨.builtin .unsafeSliceData,#[x],#[t]⟩,ty,pos,aft,g⟩ (.pointer a) w w:=fun ρ o=>by
 have j:∀w,(Builtin.unsafeSliceData_ #[t] ty #[.slice a n c]).run P w= .ok (.pointer a) w:=λw=>by
  cases a with
  |none=>rfl
  |some a=>exact Lib.run_unsafeSliceData_row (P:=P) w #[t] ty a n c (h ξ)
 simp[execOp,resolve,invoke,builtin,o _ _ m,j]
theorem zlh (U:P.underlying t=some (.pointer el))(N:P.cellsOf el=1)(A:look e x=some (.pointer a))(C:look e y=some (I (l.length:Int)))(z:Sl w (.slice a l.length c) el 1 l.length (l.map TX))(D:l.length<=9223372036854775807)(H:l=[]\/∃g,a=some ⟨g,0,none⟩):
  Yp P e ⟨d,.call ⟨.builtin .unsafeString,#[x,y],#[t,it]⟩,ty,pos,aft,g⟩ w λr w'=>r=S l/\Kp (λk=>(Value.slice a l.length c).ownBlock=some k) w w':=by
 by_cases o:l=[]
 ·subst o;have q:=Lib.run_unsafeString_none (P:=P) w t it ty a;refine⟨_,w,fun ρ h=>?_,rfl,Kp.refl _ _⟩;have J:=h _ _ A;have M:ρ y= .int .i64 0:=h _ _ C;simp[execOp,resolve,invoke,builtin,J,M,q]
  rfl
 ·obtain⟨b,rfl⟩:=H.resolve_left o;obtain⟨m,u,W,Y,F,V⟩:=z.row;have G:=y2l z (g:=b) O;simp only[y0c] at F V
  have q:=Lib.run_unsafeString_row (P:=P) w t it ty el U N b m.length (by unfold Vv at u;simp[World.shape?,u]) l o ω D (λj x R=>by
   have:=G j (TX x) (by rw[y0i,R];rfl)
   exact this)
  refine⟨_,_,fun ρ h=>?_,rfl,(z9p w ⟨b,0,none⟩ l.length).Pk λk e=>by rw[show k=b from e];rfl⟩;simp[execOp,resolve,invoke,builtin,h _ _ A,h _ _ C,q]
end
theorem za9 (h:BdM w b l v)(A:l=[]->v= .slice none 0 0)(F:l.length<=140737488355328):PN prog 85 [ptr b 0] w λr w'=>r=S l/\Kp (λk=>v.ownBlock=some k) w w':=by
 obtain⟨⟨p,H,hB⟩,m,G⟩:=h
 obtain⟨a,c,rfl,D⟩:=m.rd.shape
 have hg:=Ext.Pz w
 have q:l=[]\/∃g,a=some ⟨g,0,none⟩:=by
  rcases m.shape with⟨e,j⟩|⟨g,cap,e,j⟩
  ·exact .inl (y0t j)
  ·cases e;exact .inr ⟨g,O⟩
 have C:a≠none->c≠0:=λe=>by
  by_cases o:l=[]
  ·have:=A o
   injection this with e1 _ _
   exact absurd e1 e
  ·have I:l.length≠0:=by simpa using o
   rcases m.shape with⟨_,j⟩|⟨g,cap,z,j⟩
   ·omega
   ·cases z;omega
 refine py (e:=[(0,_)]) func85 O ntmps85 O O<|Re O<|OY<|PC [10,11] (λw'=>Ext w w') Pd O<|Qm 0 O O hg<|PH 1 O (QL O) hg<|PH 2 O (PU z18 O) hg<|qL 3 O (λ_ h=>Pl QX O O (h.OZ hB) O) hg<|Qm 5 O O hg<|PH 6 O (QL O) hg<|PH 7 O (PU z18 O) hg<|qL 8 O (λ_ h=>Pl QX O O (h.OZ hB) O) hg<|PH 9 O (T7 QX O) hg<|PH 4 O (zkY O C) hg ?_
 refine TV [10]<|qO 10<|z0n (i:=10) O O O (zlh zkG Pd O O (m.ext hg) ω q) ?_
 rintro _ w1⟨rfl,u⟩
 refine⟨trivial,?_⟩
 refine P7 11 O (S6 O) trivial<|qE<|P3 func85 O ?_
 exact⟨_,O,O,hg.kp.trans u⟩
end
def srC (s st len n sum:Nat):List Value:=[ptr s 0,I (st:Int),I (len:Int),I (n:Int),U sum]
section
variable {len n:Nat}
theorem z6I (N:Sp Q txt K X w)(E:∀b,X b->b<w.heap.size)(B:K<1000000000000)(t:1<=len)(i:st+len<=Q.L.length)(hn:n<=len*512-12)(hH:sum<4294967296)(T:∃z,txt ((st+(len-1):Nat):Int)=z++Y9 n sum/\z.length=500):
  PN prog 70 [ptr Q.s 0,.agg #[I (st:Int),I (len:Int)]] w λv w'=>∃rb,v= .tuple #[ptr rb 0,I 0]/\Pm w' rb (srC Q.s st len n sum) 202/\w.heap.size<=rb/\Sp Q txt K (λb=>X b\/b=rb) w'/\Kp (λb=>¬X b) w w':=by
 have eB:=N.n
 obtain⟨z,hz,x⟩:=T
 have h:=z4g n sum
 refine py (e:=[(0,_),(1,_)]) func70 O ntmps70 O O<|qN O<|Pb O O (RP O (cs:=[I (st:Int),I (len:Int)]) O) ?_
 rintro _ w1⟨bx,rfl,fV,G,V⟩
 refine SO O<|Rq O<|qV (PO (news:=[I (st:Int),I (len:Int)]) VU O Rw O (V.cells (n:=2) O) O)<|qV (T3 (cs:=[_,_,_]) Yh O zfx O O)<|qV (T3 (cs:=[_,_,_,_,_]) zhW O zjd O O)<|Pb O O (RP O (cs:=[ptr Q.s 0,I (st:Int),I (len:Int),I 0,U 0]) O) ?_
 rintro _ w2⟨rb,rfl,If,o,q⟩
 have F:=G.trans o
 have W:=o.OZ V
 have z1:=G.size
 have z2:=o.size
 have M:Sp Q txt K (λb=>X b\/b=rb) w2:=N.ext F (λb e=>e.imp id λe=>ω)
 refine Pq O<|Qi O<|PQ O<|Pr Z8 O<|qV (PO z48 O Yh O (Pm.cells (n:=3) q (news:=[_,_,_]) O) O)<|Px zkw O (z0E M t i) ?_
 rintro _ w3⟨rfl,d⟩
 have p:=M.ext' d
 have c:=d.OZ q
 have y:=d.OZ W
 have z3:=d.size
 have l2:=q.lt
 have J:=p.read (λb P=>by
  rcases P with e| e
  ·have:=E b e;omega
  ·omega) B (no:=((st+(len-1):Nat):Int)) ω ω
 rw[hz] at J
 refine Rq O<|R5 O<|QC O<|PL O<|Pr Rs O<|qV (Pl U3 O O y O)<|Pr RB O<|qV (Pl U3 O O y O)<|Qj O<|RR O ?_
 rw[show(st:Int)+(len:Int)-1=((st+(len-1):Nat):Int) by omega]
 refine Px zdD O J ?_
 rintro _ w4⟨rfl,jF,H⟩
 have Z:=H.OZ c (λe=>e (.inr O))
 refine Ph O<|Ta O<|QS O<|PM.qb (e:=[(4,_),(5,_),(6,_),(8,_),(9,_)]) ?_
 refine Qi O<|R5 O<|QC O<|QG O<|qV (WW U9 O) ?_
 rw[show((z++Y9 n sum).length:Int)=512 by rw[Pe,h,x];rfl]
 refine RR O ?_
 rw[show(512:Int)-12=((500:Nat):Int) by omega]
 refine qV (z1H (m:=500) U9 O O (by rw[Pe,h,x];omega)) ?_
 rw[show(z++Y9 n sum).drop 500=Y9 n sum from y19 x]
 refine Rq O<|qV (z57 (m:=8) U9 O O (by rw[h];omega)) ?_
 rw[show(Y9 n sum).take 8=VV 8 n from y1f (QA _ _)]
 have sX:PZ (PA (VV 8 n))=n:=z3M ω
 have Y:PZ (PA (VV 4 sum))=sum:=z3M ω
 have j7:=QA 8 n
 have g7:=QA 4 sum
 refine Px zfn O (z3e (VV 8 n) ω _) ?_
 rintro _ w5⟨rfl,l⟩
 rw[sX]
 have A:=l.OZ Z
 have R:=jF.ext' l
 refine Pq O<|OY<|QG O<|PQ O<|Pr Z8 O<|qV (PO z48 O Yh O (Pm.cells (n:=3) A (news:=[_,_,_]) O) O)<|Px zfZ O (z22 R ω) ?_
 rintro _ w6⟨rfl,j⟩
 have a:=j.OZ A
 have ox:=R.ext' j
 refine qV (QH O U3 RW ω)<|R8 O<|Qb<|P4<|PM.qb (e:=[(4,_),(5,_),(6,_),(10,_),(11,_),(54,_)]) ?_
 refine Tj O<|QG O<|Ph O<|qV (Q8 O RW U3 ω)<|Ph O<|qV (z1H (m:=8) U9 O O (by rw[h];omega)) ?_
 rw[show(Y9 n sum).drop 8=VV 4 sum from y19 (QA _ _)]
 refine Px zfn O (z3e (VV 4 sum) ω _) ?_
 rintro _ w7⟨rfl,u⟩
 rw[Y]
 have f:=u.OZ a
 refine qV (z5R O RW R9)<|PQ O<|Pr z1j O<|Po O (QZ Qe O O O f ξ) ?_
 rintro w8⟨r,C⟩
 replace r:Pm w8 rb [ptr Q.s 0,I (st:Int),I (len:Int),I (n:Int),U 0] 202:=r
 refine PQ O<|Pr zdv O ?_
 rw[y0g (show sum<2^32 by omega)]
 refine Po O (QZ Py O O O r ξ) ?_
 rintro w9⟨g,D⟩
 refine qM O<|Ph O<|QS O<|P3 func70 O ?_
 have wU:=(((ox.ext' u).own C (λb e=> .inr e)).own D (λb e=> .inr e))
 refine⟨_,O,rb,O,g,ω,wU,?_⟩
 have my:Kp (λb=>¬X b) w w4:=((F.trans d).kp (S:=λb=>¬X b)).trans (H.Pk λb e k=>e (.inl k))
 refine(((my.trans (l.trans (j.trans u)).kp).It C λb e=> .inl ω).It D λb e=> .inl ω)
def zaB (hB:Pm w rb (srC Q.s st len n sum) 202):PN prog 290 [ptr rb 0] w λv w'=>v=I (n:Int)/\w'=w:=by
 replace hB:Pm w rb [ptr Q.s 0,I (st:Int),I (len:Int),I (n:Int),U sum] 202:=hB
 refine py (e:=[(0,_)]) func290 O ntmps290 O O<|Re O<|Qi O<|qV (Qz zea O O)<|QC O<|PL O<|PQ O<|Pr z1j O<|qV (Pl U3 O O hB O)<|Pq O<|P3 func290 O ?_
 exact⟨_,O,O,O⟩
theorem zbB (D:Sp Q txt K (λb=>X b\/b=rb) w)(hX:∀b,X b->b<w.heap.size)(uV:¬X rb)(hK:K<1000000000000)(cx:st+len<=Q.L.length)(hL:Laid txt st T)(hB:Pm w rb (srC Q.s st len T.length sum) 202)(hT:T.length<=len*512)(off n:Nat)(ho:off+n<=T.length):
  PN prog 291 [ptr rb 0,I (off:Int),I (n:Int)] w λv w'=>v= .tuple #[S ((T.drop off).take n),I 0]/\Sp Q txt K (λb=>X b\/b=rb) w'/\Pm w' rb (srC Q.s st len T.length sum) 202/\Kp (λb=>¬X b) w w':=by
 have eB:=D.n
 have a1:=hB.lt
 replace hB:Pm w rb [ptr Q.s 0,I (st:Int),I (len:Int),I (T.length:Int),U sum] 202:=hB
 refine py (e:=[(0,_),(1,_),(2,_)]) func291 O ntmps291 O O<|qN O<|QS O<|R0<|PL O<|qV (Qz zea O O)<|Pq O<|P9 O<|PL O<|QY O<|Qb<|PB O<|QY O<|Qb ?_
 refine Ql O<|PB O<|Ph O<|PQ O<|Pr z1j O<|qV (Pl U3 O O hB O)<|R8 O<|Qb<|Ql O<|PB O<|Ph O<|PQ O<|Pr z1j O<|qV (Pl U3 O O hB O) ?_
 refine Ph O<|RR O<|R8 O<|Qb<|Ql O<|Pq O<|PM.qb (e:=[(0,_),(1,_),(2,_),(6,_),(7,_),(15,_)]) ?_
 refine Tj O<|An<|PL O<|PQ O<|Pr Z8 O<|Pr VK O<|qV (Pl XZ O O hB O)<|Px z4W O D.size ?_
 rintro _ w⟨rfl,rfl⟩
 refine Ro O<|Pb O O (S5 (cs:=[_,_]) zjH O) ?_
 rintro _ w1⟨h,rfl,xo,z,a⟩
 have c:=BdM.new a
 have z1:=z.size
 refine P4<|R0<|RX (α:=Nat×Value) (0,Value.slice none 0 0) (λy=>[(0,ptr rb 0),(1,I ((off+y.1:Nat):Int)),(2,I ((n-y.1:Nat):Int)),(8,I 512),(9,ptr h 0)]) (λy w'=>y.1<=n/\BdM w' h ((T.drop off).take y.1) y.2/\(y.1=0->y.2= .slice none 0 0)/\(∀g,y.2.ownBlock=some g->w.heap.size<=g)/\Sp Q txt K (λb=>(X b\/b=rb)\/b=h\/y.2.ownBlock=some b) w'/\Kp (λb=>¬(X b\/b=rb)) w w') (λy=>n-y.1) ?hI ?hround
 case hI=>exact⟨y00 _,c,λ_=>rfl,λg hg=>(by cases hg),D.ext z (λb e=>e.imp id λe=>e.elim (λe=>ω) (λe=>by cases e)),z.kp⟩
 case hround=>
  rintro⟨m,v⟩ w2 ⟨hm,l,G,r,u,o⟩ V;dsimp only at hm l G r u V⊢;have J:=o.OZ hB (λe=>e (.inr O));have hg:=Ext.Pz w2;have z2:=o.size;have a0:h<w2.heap.size:=by obtain⟨⟨p,hp,j⟩,-,-⟩:=l;exact j.lt
  have pF:∀b,((X b\/b=rb)\/b=h\/v.ownBlock=some b)->b<w2.heap.size:=λb j=>by
   rcases j with(e|e)|e| e
   ·have:=hX b e;omega
   ·omega
   ·omega
   ·exact l.2.1.lt e
  try dsimp only
  refine Qi O<|R8 O<|P4<|Pn O (λP=>?_)<|λP=>?_
  ·obtain⟨q,hq⟩:∃q,min (n-m) (512-(off+m)%512)=q:=⟨_,O⟩;have B:=u.z1w (x:=((st+(off+m) / 512:Nat):Int)) ω ω;have W:=hL.piece (off:=off+m) (n:=q) ω ω;have R:=(u.ext' hg).read (λb j=>by have:=pF b j;have:=hg.size;omega) hK (no:=((st+(off+m) / 512:Nat):Int)) ω ω;obtain⟨t,ht⟩:∃t,txt ((st+(off+m) / 512:Nat):Int)=t:=⟨_,O⟩;rw[ht] at B W R;refine P5<|P6<|OY<|RI (λw'=>Kp (λb=>¬((X b\/b=rb)\/b=h\/v.ownBlock=some b)) w2 w') O<|Pu 0 O O (hg.kp)<|P7 1 O (QL O) (hg.kp)<|P7 2 O (PU Z8 O) (hg.kp)<|P7 3 O (PU VK O) (hg.kp)<|qT 4 O (λ_ F=>Pl XZ O O (F.OZ J (λe=>e (.inl (.inr O)))) O) (hg.kp)<|Pu 5 O O (hg.kp)<|P7 6 O (QL O) (hg.kp)<|P7 7 O (PU Z8 O) (hg.kp)<|P7 8 O (PU UC O) (hg.kp)<|P7 9 O (PU Rs O) (hg.kp) ?_;refine qT 10 O (λ_ F=>Pl U3 O O (F.OZ J (λe=>e (.inl (.inr O)))) O) (hg.kp) (Pu 11 O O (hg.kp) (Pu 12 O O (hg.kp) (P7 13 O (X5 O O ω) (hg.kp) (P7 14 O (Vu O O ω) (hg.kp) ?_))));rw[show(st:Int)+((off+m:Nat):Int) / 512=((st+(off+m) / 512:Nat):Int) by omega];refine Tl 15 O zdD O (R) ?_;rintro _ Y⟨rfl,E,d⟩;refine⟨hg.kp.trans d,?_⟩;have A:=hg.kp.trans d;have f:=l.kp A (λe=>e (.inr (.inl O))) (λg hg e=>e (.inr (.inr hg)));refine Pu 16 O O (hg.kp.trans d) (P7 17 O (S9 O O) (hg.kp.trans d) (P7 18 O (S9 O O) (hg.kp.trans d) (P7 19 O (S6 O) (hg.kp.trans d) (P7 20 O (S6 O) (hg.kp.trans d) (qE (Qi O (R5 O (QC O (QG O (Ph O (qV (yre O O ω) ?_)))))))))));rw[show((off+m:Nat):Int)%512=(((off+m)%512:Nat):Int) by omega];refine qV (z1H U9 O O ω)<|Ro O<|PB O<|Ph O<|qV (WW U9 O)<|qV (ymi O O) ?_;rw[show min ((n-m:Nat):Int) ((t.drop ((off+m)%512)).length:Int)=((q:Nat):Int) by rw[y07];omega];refine qV (z57 (m:=q) U9 O O (by rw[y07];omega)) ?_;rw[W];have H:((T.drop (off+m)).take q).length=q:=by rw[y0d,y07];omega
   have io:((T.drop off).take m).length<=m:=by rw[y0d];omega
   refine Rq O (Px zlp O (zbt f ((T.drop (off+m)).take q) ω) ?_);rintro _ w4⟨v4,i,M,Z⟩;have z3:=A.size;refine qM O<|PB O<|qV (WW U9 O) ?_;rw[H];refine Qj O<|Pq O<|Pc O<|PB O<|qV (WW U9 O) ?_;rw[H];refine RR O<|Pq O<|An ?_;rw[show((off+m:Nat):Int)+(q:Int)=((off+(m+q):Nat):Int) by omega,show((n-m:Nat):Int)-(q:Int)=((n-(m+q):Nat):Int) by omega];refine(V (m+q,v4) _ ⟨by dsimp only;omega,?_,λe=>by dsimp only at e;omega,λg hg=>(Z g hg).elim (r g) (λe=>ω),?_,?_⟩ (by dsimp only;omega)).qb
   ·dsimp only;rw[List.take_add,y0E];exact i
   ·exact E.step M (λb e=> .inr e) (λb e=>by
     rcases e with e|e| e
     ·exact .inl (.inl e)
     ·exact .inl (.inr (.inl e))
     ·exact(Z b e).imp (λe=> .inr (.inr e)) id)
   ·refine(o.trans (A.Pk λb e C=>e (.inl C))).It M λb e=> .inl ?_;rcases e with e| e
    ·omega
    ·exact r b e
  ·have k:m=n:=ω
   subst k;refine Pf O (qN O (Px zlK O (za9 l (λe=>G (by have:=congrArg List.length e;rw[y0d,y07,y1l] at this;omega)) (by rw[y0d,y07];omega)) ?_));rintro _ Y⟨rfl,d⟩;refine QS O<|P3 func291 O ?_;have N:Kp (λb=>¬(X b\/b=rb)) w Y:=o.It d (λb e=> .inl (r b e));exact⟨_,O,O,u.step d (λb e=> .inr (.inr e)) (λb e=> .inl (.inl e)),N.OZ hB (λe=>e (.inr O)),N.Pk λb e C=>e (.inl C)⟩
end
section
variable {t:TypeId}{u:Value}{R:Src t u (Ym p g E)}{x:Nat}{Y:Nat->Prop}
theorem z26 (k v:Nat)(w:World):PN prog 116 [ptr k 0,I (v:Int)] w λr w'=>∃bk bi,r= .func (.func 152) #[] #[ptr bk 0,ptr bi 0]/\Pm w' bk [ptr k 0] 28/\Pm w' bi [I (v:Int)] 3/\w.heap.size<=bk/\w.heap.size<=bi/\Ext w w':=by
 refine py (e:=[(0,_),(1,_)]) func116 O ntmps116 O O<|qN O<|Pb O O (RP O (cs:=[ptr k 0]) O) ?_
 rintro _ w1⟨bk,rfl,m,d,j⟩
 refine Pb O O (RP O (cs:=[I (v:Int)]) O) ?_
 rintro _ w2⟨bi,rfl,n,h,l⟩
 refine Ro O<|qV (ymf (first:=[]) (caps:=[.tmp 2,.tmp 3]) O O)<|Pq O<|P3 func116 O ?_
 have:=d.size
 exact⟨_,O,bk,bi,O,h.OZ j,l,ω,ω,d.trans h⟩
theorem z7S {l v:Nat}(jk:g.length<50)(q:v<g.length)(h:Vs R k x X w)(L:Pm w bk [ptr k 0] 28)(sH:Pm w bi [I (v:Int)] 3)(Z:Nat->Prop)(hZ:∀j,Z j->X j)(J:(Nat->Prop)->Nat->World->Prop)(F:World->Prop)
  (Q:∀(Y:Nat->Prop)(w':World),(∀j,X j->Y j)->(∀j,Y j->X j\/w.heap.size<=j)->Vs R k x Y w'->Kp (λj=>¬X j) w w'->J Y 0 w')
  (hround:∀(Y:Nat->Prop)(i s:Nat) (w':World),(∀j,X j->Y j)->(∀j,Y j->X j\/w.heap.size<=j)->(Pa g v)[i]? =some s->J Y i w'->z2a prog l [PX s,I 0] w' λr m=>(r= .bool true/\J Y (i+1) m/\Kp (λj=>¬Y j\/Z j) w' m)\/(r= .bool false/\F m)):
  PN prog 152 [.func (.yield l) #[] #[],ptr bk 0,ptr bi 0] w λr w'=>r= .tuple #[]/\((∃Y,(∀j,X j->Y j)/\(∀j,Y j->X j\/w.heap.size<=j)/\J Y (Pa g v).length w')\/F w'):=by
 have W:=h.lt
 have fR:(Pa g v).length<=g.length:=by
  unfold Pa;rw[y03 q];exact h.ok.gr.len (y1d q)
 refine py (e:=[(0,_),(1,_),(2,_)]) func152 O ntmps152 O O<|qN O<|qV (Pl U28 O O L O)<|qV (Pl U3 O O sH O)<|Px ziM O (z7z jk q h) ?_
 rintro _ w1⟨vv,rfl,jK,H,C,V⟩
 have A:=jK.rd
 obtain⟨a,c,rfl,ha⟩:=A.shape
 refine Ph O<|qV (S9 (v:= .slice a (Pa g v).length c) O O)<|qV (S9 (v:=I 0) O O)<|QS O<|Qi O<|R5 O<|QC O<|PL O<|RQ PS O<|Ph O<|P4<|P6 ?_
 obtain⟨Y,n⟩:∃Y:Nat->Prop,(λj=>X j\/(Value.slice a (Pa g v).length c).ownBlock=some j)=Y:=⟨_,O⟩
 rw[n] at C
 have o:∀j,X j->Y j:=λj d=>by rw[<-n];exact .inl d
 have y:∀j,Y j->X j\/w.heap.size<=j:=λj d=>by
  rw[<-n] at d;exact d.imp id (H j)
 have z:∀j,(Value.slice a (Pa g v).length c).ownBlock=some j->Y j/\¬Z j:=λj d=>⟨by rw[<-n];exact .inr d,λe=>by have h2:=H j d;have h3:=W j (hZ j e);omega⟩
 refine RX (α:=Nat) (0) (λi=>[(0,.func (.yield l) #[] #[]),(19,.slice a (Pa g v).length c),(20,I ((Pa g v).length:Int)),(21,I (i:Int))]) (λi w'=>i<=(Pa g v).length/\J Y i w'/\Rd w' (.slice a (Pa g v).length c) 1 (Pa g v).length ((Pa g v).map PX)) (λi=>(Pa g v).length-i) ?hI ?hround
 case hI=>exact⟨y00 _,Q Y w1 o y C V,A⟩
 case hround=>
  rintro i w2⟨hi,D,N⟩ ih
  try dsimp only
  refine qN O<|QY O<|P4<|OY<|Pn O (λhq=>?_)<|λhq=>?_
  ·obtain⟨s,G⟩:∃s,(Pa g v)[i]? =some s:=⟨_,y03 ω⟩;rcases N.2 with⟨⟨ca,cc⟩,M,wP⟩|⟨b,off,cap,M,hc⟩
   ·omega
   cases M;have B:w2.cell? ⟨b,off+i*1,none⟩=some (PX s):=hc (i*1) _ (by rw[y0c,y0i,G];rfl);refine P5 (R0 (qN O (qV (Qc PS Py O O ω) (qV (PG R9 O O B) (Ro O (PB O (z7d O O (yy O O) (hround Y i s w2 o y G D) ?_)))))));rintro r w3 P;rcases P with⟨rfl,U,f⟩|⟨rfl,T⟩
   ·refine qV (SD O)<|QC O<|An<|Pc O<|Qj O<|Ph O<|P4 ?_;exact(ih (i+1) _ ⟨ω,U,N.kp f (λj d e=>e.elim (λe=>e (z j d).1) (z j d).2)⟩ ω).qb
   ·refine qV (SD O)<|P4<|Pp O<|P3 func152 O ?_;exact⟨_,O,O,.inr T⟩
  ·have K:i=(Pa g v).length:=ω
   subst K;refine Pf O<|Qu func152 O ?_;exact⟨_,O,O,.inl ⟨Y,o,y,D⟩⟩
end
structure StO (Q:RE)(txt:Int->P8)(K st len:Nat)(T:P8):Prop where
 k:K<1000000000000
 fit:st+len<=Q.L.length
 laid:Laid txt st T
 len:T.length<=len*512
def z81 {Q:RE}{txt:Int->P8}{K st len:Nat}{T:P8}(o:StO Q txt K st len T)(rb sum:Nat):Src 146 (ptr rb 0) T where
 inv X w:=Sp Q txt K (λb=>X b\/b=rb) w/\Pm w rb (srC Q.s st len T.length sum) 202/\¬X rb
 fl:=290
 fr:=291
 cl:=ziC
 cr:=zjB
 ml:=Pd
 mr:=Pd
 ext:=λh q d=>⟨h.1.ext q λb e=>e.elim (λe=>(d b e).elim (λe=> .inl (.inl e)) .inr) (λe=> .inl (.inr e)),q.OZ h.2.1,λe=>(d _ e).elim h.2.2 (λe=>by have:=h.2.1.lt;omega)⟩
 step:=λh m l d=>⟨h.1.step m (λb e=> .inl (l b e)) λb e=>e.elim (λe=>(d b e).elim (λe=> .inl (.inl e)) .inr) (λe=> .inl (.inr e)),m.OZ h.2.1 (λe=>h.2.2 (l _ e)),λe=>(d _ e).elim h.2.2 (λe=>by have:=h.2.1.lt;omega)⟩
 len:=λh=>(zaB (Q:=Q) h.2.1).mono λv w' ⟨j,C⟩=>⟨j,by rw[C];exact Ext.refl _⟩
 rd:=λoff n h A D=>(zbB h.1 A h.2.2 o.k o.fit o.laid h.2.1 o.len off n D).mono λv w' ⟨j,r,y,z⟩=>⟨j,⟨r,y,h.2.2⟩,z⟩
section
variable {t:TypeId}{u:Value}{x:Nat}{S:Nat->Prop}
def Vs.re {R m:Src t u (Ym p g E)}(h:Vs R k x X w)(d:Kp S w w')(l:∀j,S j->j≠k/\j≠x/\j≠1/\j≠2)(n:m.inv X w'):Vs m k x X w':=
 ⟨h.ok,d.OZ h.OZ (λe=>(l _ e).1 O),d.OZ h.ix (λe=>(l _ e).2.1 O),h.xk,h.xx,n,λj o=>by have:=h.lt j o;have:=d.size;omega,h.x1,h.x2,d.OZ h.gam (λe=>(l _ e).2.2.1 O),d.OZ h.una (λe=>(l _ e).2.2.2 O)⟩
def z6P {len:Nat}(q:Tq p g E)(o:StO Q txt K st len (Ym p g E))(y:(z81 o rb sum).inv X w)(n:∀j,X j->j<w.heap.size)(x1:X 1)(x2:X 2)(r:Pm w 1 (SI .gamma) 314)(z:Pm w 2 (SI .unary) 314):
  PN prog 71 [ptr rb 0] w λv w'=>∃k x,v= .tuple #[ptr k 0,I 0]/\w.heap.size<=k/\w.heap.size<=x/\Vs (z81 o rb sum) k x (λj=>X j\/j=x\/j=k) w'/\Kp (λj=>¬X j) w w':=by
 refine py (e:=[(0,_)]) func71 O ntmps71 O O<|qN O<|QS O<|Qi O<|qV (Qz zea O O)<|QC O<|PL O<|qV (zjm zea (λ_ h=>by cases h) rfl) ?_
 refine Px ziH O (z6N q (z81 o rb sum) y n) ?_
 rintro _ w1⟨k,x,rfl,l,m,D,C,G,F,d⟩
 refine Ta O<|QS O<|P3 func71 O ?_
 have M:=d.size
 have H:=l.lt
 have J:=m.lt
 refine⟨_,O,k,x,O,C,D,⟨q,l,m,.inr (.inr O),.inr (.inl O),F,λj A=>?_,.inl x1,.inl x2,d.OZ r (λe=>e x1),d.OZ z (λe=>e x2)⟩,d⟩
 rcases A with e|e| e
 ·have:=n j e;omega
 ·omega
 ·omega
end
theorem zdI {n:Nat}(d:1<=each):max (1:Int) (((n:Int)+(each:Int)-1) / (each:Int))=((Xl n each:Nat):Int):=by
 unfold Xl
 rw[show(n:Int)+(each:Int)-1=((n+each-1:Nat):Int) by omega]
 have h:((n+each-1:Nat):Int) / (each:Int)=(((n+each-1) / each:Nat):Int):=rfl
 rw[h]
 generalize (n+each-1) / each=q
 omega
section
variable {n:Nat}
abbrev shV (n width each:Nat):Value:= .agg #[I (n:Int),I (width:Int),I (each:Int)]
theorem Z0 (n width each:Nat)(j:1<=each/\each<=512)(m:n<=4194304)(w:World):PN prog 72 [shV n width each] w λv w'=>v=I (Xl n each:Int)/\Ext w w':=by
 refine py (e:=[(0,_)]) func72 O ntmps72 O O<|qN O<|Pb O O (RP O (cs:=[I (n:Int),I (width:Int),I (each:Int)]) O) ?_
 rintro _ w1⟨b1,rfl,l,h,d⟩
 refine Ro O<|Pr z47 O<|qV (Pl U3 O O d O)<|Pr Zi O<|qV (Pl U3 O O d O)<|Qj O<|RR O<|Pr Zi O<|qV (Pl U3 O O d O)<|qV (X5 O O ω)<|qV (yma O O)<|Pq O ?_
 rw[zdI j.1]
 refine P3 func72 O ?_
 exact⟨_,O,O,h⟩
theorem z1O (n width each x:Nat)(r:width=1\/width=2\/width=4\/width=8)(m:x<2^(8*width))(w:World):PN prog 75 [shV n width each,Pt x] w λv w'=>v= .bool true/\Ext w w':=by
 refine py (e:=[(0,_),(1,_)]) func75 O ntmps75 O O<|qN O<|Pb O O (RP O (cs:=[I (n:Int),I (width:Int),I (each:Int)]) O) ?_
 rintro _ w1⟨b1,rfl,o,d,h⟩
 refine Ro O<|Pr Wx O<|qV (Pl U3 O O h O) ?_
 by_cases q:width=8
 ·refine Rx O<|RO<|Ph O<|QV<|QV<|QV<|Rr O<|Pq O<|P3 func75 O ?_;exact⟨_,O,O,d⟩
 ·have j:8*width<=32:=ω
  have l:1*2^(8*width)%18446744073709551616=2^(8*width):=by
   have:=y0r (show 0<2 by decide) j;rw[y1h,y0g ω]
  refine Rx O (Qb (PB O (Pr Wx O (qV (Pl U3 O O h O) (qV (Y8 O O ω) ?_)))));rw[show(8:Int)*(width:Int)=((8*width:Nat):Int) by omega];refine qV (RN (8*width) (2^(8*width)) O O ω O) ?_;rw[l]
  generalize 2^(8*width)=P at m⊢
  refine QY O<|RO<|Ql O<|Pq O<|P3 func75 O ?_;exact⟨_,O,O,d⟩
theorem Yt (n width each x:Nat)(N:width<=8)(R:x<18446744073709551616)(w:World):PN prog 77 [shV n width each,Pt x] w λv w'=>v=S (VV width x)/\Ext w w':=by
 have J:maxLen=9223372036854775807:=rfl
 refine py (e:=[(0,_),(1,_)]) func77 O ntmps77 O O<|qN O<|Pb O O (RP O (cs:=[I (n:Int),I (width:Int),I (each:Int)]) O) ?_
 rintro _ G⟨y,rfl,V,F,h⟩
 refine Ro O<|Pr Wx O<|qV (Pl U3 O O h O)<|Pb O O (pmk (c:=width) (n:=width) QX YS O O O ω ω ω) ?_
 rintro _ w1⟨b1,rfl,⟨C,m,q⟩,-⟩
 refine Pq O<|Qi O<|RQ QX O<|Ph O<|P4<|P6 ?_
 rw[<-z39 x width] at q
 have U:=h.lt
 refine RX (α:=Nat) (0) (λk=>[(1,Pt x),(2,ptr y 0),(5,.slice (some ⟨b1,0,none⟩) width width),(11,I (width:Int)),(12,I (k:Int))]) (λk w'=>k<=width/\Pm w' b1 (z1q x width k) 5/\Pm w' y [I (n:Int),I (width:Int),I (each:Int)] 162/\Ext G w') (λk=>width-k) ?hI ?hround
 case hI=>exact⟨ω,q,m.OZ h,m⟩
 case hround=>
  rintro k w2⟨M,d,j,o⟩ D
  try dsimp only
  refine qN O<|QY O<|P4<|OY<|Pn O (λA=>?_)<|λA=>?_
  ·have z:k<width:=ω
   refine P5 (R0 (PL O (Pq O (Pc O (PB O (Ph O (Pr Wx O (qV (Pl U3 O O j O) (RR O (Ph O (RR O (qV (Y8 O O ω) ?_))))))))))));rw[show(8:Int)*(((width:Int)-1)-(k:Int))=((8*(width-1-k):Nat):Int) from by omega];refine qV (Vk (8*(width-1-k)) (2^(8*(width-1-k))) O O (by simp only[IntKind.bits];omega) O) ?_;refine qV (zeB O RW U5) (qV (Qc QX YS O O ω) (Po O (QZ YS O O O d (by simp;omega)) ?_));rintro H⟨r,u⟩;rw[z4T x width k z] at r;refine P4<|An<|Pc O<|Qj O<|Ph O<|P4 ?_;exact(D (k+1) H ⟨ω,r,u.OZ j ω,o.It u (λi hi=>by rw[hi,C];exact y02 _)⟩ ω).qb
  ·have:k=width:=ω
   subst this;rw[z5F] at d;refine Pf O (PL O (qV (zb5 (l:=VV k x) QX U5 U9 O d (by rw[y13];exact y0N (by rw[y0k,QA];omega)) (by simp[VV])) ?_));refine Pq O<|P3 func77 O ?_;exact⟨_,O,O,F.trans o⟩
def VF (h:Wh Q txt vb width st xs w):PN prog 74 [ptr vb 0] w λv w'=>v=I 0/\w'=w:=by
 have hB:=h.cells
 refine py (e:=[(0,_)]) func74 O ntmps74 O O<|Re O<|R0<|PL O<|qV (Qz z6g O O)<|Pq O<|P9 O<|PL O<|PQ O<|Pr z8b O<|qV (Pl U4 O O hB O)<|Pq O<|Tj O<|An ?_
 refine Re O<|P3 func74 O ?_
 exact⟨_,O,O,O⟩
theorem z5v (h:Wh Q txt vb width st xs w)(hi:i<xs.length)(D:Q.L.length<=4096):PN prog 87 [ptr vb 0,I (i:Int)] w λv w'=>v= .tuple #[I ((st+i / (512 / width):Nat):Int),I ((i%(512 / width)*width:Nat):Int)]/\Ext w w':=by
 have hB:=h.cells
 have hg:=Ext.Pz w
 obtain⟨x,y,z,A,C⟩:=h.e
 obtain⟨o,a2,u⟩:=h.at_ hi
 have F:=h.n
 have j:((i:Nat):Int) / ((512 / width:Nat):Int)=((i / (512 / width):Nat):Int):=rfl
 have l:((i:Nat):Int)%((512 / width:Nat):Int)=((i%(512 / width):Nat):Int):=rfl
 have d:((i%(512 / width):Nat):Int)*(width:Int)=((i%(512 / width)*width:Nat):Int):=by rw[y2x]
 have m:(st:Int)+((i / (512 / width):Nat):Int)=((st+i / (512 / width):Nat):Int):=by rw[Int.natCast_add]
 generalize i / (512 / width)=q at*
 generalize i%(512 / width)=r at*
 generalize 512 / width=each at*
 refine py (e:=[(0,_),(1,_)]) func87 O ntmps87 O O<|qN O<|QS O<|OY<|RI (λw'=>Ext w w') O<|Pu 0 O O hg<|P7 1 O (QL O) hg<|P7 2 O (PU z14 O) hg<|P7 3 O (PU Rs O) hg<|qT 4 O (λ_ h=>Pl U3 O O (h.OZ hB) O) hg<|Pu 5 O O hg<|Pu 6 O O hg<|P7 7 O (QL O) hg<|P7 8 O (PU SC O) hg ?_
 refine P7 9 O (PU Zi O) hg<|qT 10 O (λ_ h=>Pl U3 O O (h.OZ hB) O) hg<|Pu 13 O O hg<|Pu 14 O O hg<|P7 15 O (QL O) hg<|P7 16 O (PU SC O) hg<|P7 17 O (PU Zi O) hg<|qT 18 O (λ_ h=>Pl U3 O O (h.OZ hB) O) hg<|Pu 20 O O hg<|P7 21 O (QL O) hg<|P7 22 O (PU SC O) hg<|P7 23 O (PU Wx O) hg<|qT 24 O (λ_ h=>Pl U3 O O (h.OZ hB) O) hg<|P7 11 O (X5 O O ω) hg ?_
 rw[j]
 refine P7 12 O (Vu O O ω) hg<|P7 26 O (S6 O) hg ?_
 rw[m]
 refine P7 19 O (yre O O ω) hg ?_
 rw[l]
 refine P7 25 O (Y8 O O (by rw[d];omega)) hg ?_
 rw[d]
 refine P7 27 O (S6 O) hg<|qE<|PM.qb (e:=[(4,_),(5,_)]) ?_
 refine P3 func87 O ?_
 exact⟨_,O,O,hg⟩
end
section
variable {n:Nat}
theorem Wh.zgK (h:Wh Q txt vb width st xs w){x:Nat}(hi:xs[i]? =some x):x<2^(8*width)/\x<18446744073709551616:=by
 have d:=(h.t i x hi).2
 have:=y0r (show 0<2 by decide) (show 8*width<=64 by have:=h.e;omega)
 exact⟨d,ω⟩
theorem z3n (l:Sp Q txt K X w)(L:∀b,X b->b<w.heap.size)(E:K<1000000000000)(d:Wh Q txt vb width st xs w)(g:X vb){x:Nat}(hi:xs[i]? =some x):
  PN prog 55 [ptr vb 0,I (i:Int)] w λv w'=>v= .tuple #[Pt x,I 0]/\Sp Q txt K X w'/\Kp (λb=>¬X b) w w':=by
 have Y:=l.n
 have z:i<xs.length:=by
  rcases y0a i xs.length with h| h
  ·exact h
  ·rw[y0e h] at hi;cases hi
 have M:=z5v d z Y
 obtain⟨y,a2,a3⟩:=d.at_ z
 have u:=(d.t i x hi).1
 have mz:=(d.zgK hi).1
 have Z:=l.z1w (x:=((st+i / (512 / width):Nat):Int)) (y2X _) (y2E.2 y)
 have lE:=d.n
 have OG:=d.e.2.2.2.2
 have J:∀w1,Ext w w1->PN prog 83 [ptr Q.s 0,I ((st+i / (512 / width):Nat):Int)] w1 λv w'=>v= .tuple #[S (txt ((st+i / (512 / width):Nat):Int)),I 0]/\Sp Q txt K X w'/\Kp (λb=>¬X b) w1 w':=λw1 j=>(l.ext' j).read (λb P=>by have:=L b P;have:=j.size;omega) E (y2X _) (y2E.2 y)
 generalize i / (512 / width)=q at*
 generalize i%(512 / width)=r at*
 generalize ho:r*width=o at*
 obtain⟨t,ht⟩:∃t,txt ((st+q:Nat):Int)=t:=⟨_,O⟩
 rw[ht] at u Z J
 have hB:=d.cells
 refine py (e:=[(0,_),(1,_)]) func55 O ntmps55 O O<|qN O<|QS O<|Qi O<|Px zdt O (VF d) ?_
 rintro _ w⟨rfl,rfl⟩
 refine Rq O<|R5 O<|QC O<|Qi O<|QY O<|Qb<|PB O<|Ph O<|PQ O<|Pr SC O<|Pr z47 O<|qV (Pl U3 O O hB O)<|Uj O<|Qb ?_
 refine Ql O<|QC O<|QG O<|Px zjz O M ?_
 rintro _ w1⟨rfl,j⟩
 have C:=j.OZ hB
 refine Ph O<|Ta O<|QS O<|PM.qb (e:=[(0,_),(4,_),(5,_),(7,_),(8,_)]) ?_
 refine PL O<|PQ O<|Pr XF O<|qV (Pl XZ O O C O)<|Ph O<|Px zdD O (J w1 j) ?_
 rintro _ w2⟨rfl,a,D⟩
 have R:=D.OZ C (λe=>e g)
 refine Ph O<|Ta O<|QS O<|Qi O<|R5 O<|QC O<|Re O<|OY<|QG O<|PB O<|PQ O<|Pr SC O<|Pr Wx O<|qV (Pl U3 O O R O) ?_
 refine Qj O ?_
 rw[show(o:Int)+(width:Int)=((o+width:Nat):Int) by omega]
 refine qV (zll (m:=o) (n:=o+width) U9 O O O ω) ?_
 rw[show o+width-o=width by omega,u]
 have f:=QA width x
 obtain⟨s,G⟩:∃s,VV width x=s:=⟨_,O⟩
 have nI:PZ (PA s)=x:=by rw[<-G];exact z3M mz
 rw[G] at f⊢
 refine Pb O O (zcS U9 QX U5 O) ?_
 rintro _ w3⟨b7,c7,rest,rfl,⟨kR,A,U⟩,E1⟩
 refine RQ QX O<|Ph O<|P4<|PM.qb (e:=[(4,_),(5,_),(11,_),(58,_),(59,_),(60,_)]) ?_
 refine P6<|RX (α:=Nat) (0) (λi=>[(11,Pt (PZ (PA (s.take i)))),(58,.slice (some ⟨b7,0,none⟩) s.length c7),(59,I (s.length:Int)),(60,I (i:Int))]) (λi w'=>w'=w3/\i<=s.length) (λi=>s.length-i) ?hI ?hround
 case hI=>exact⟨O,y00 _⟩
 case hround=>
  rintro i w4⟨rfl,hi⟩ T
  try dsimp only
  refine qN O<|QY O<|P4<|OY<|Pn O (λp=>?_)<|λp=>?_
  ·obtain⟨c,F⟩:∃c,s[i]? =some c:=⟨_,y03 ω⟩;have k:=c.toNat_lt;have H:=z2d F
   have N:PZ (PA (s.take i))<72057594037927936:=by
    have B:=RD (PA (s.take i));rw[bitsT_length,y0d] at B;have h2:2^(8*min i s.length)<=2^56:=y0r ψ ω;omega
   have V:w4.cell? ⟨b7,0+i*1,none⟩=some (TX c):=by
    rw[U.cell,y09,y0c,y0C (by rw[y0k];omega),y0i,F];rfl
   refine P5<|R0<|qN O<|qV (Qc QX YS O O ω)<|qV (PG U5 O O V) ?_
   generalize PZ (PA (s.take i))=q at H N
   refine Pq O<|Ra O<|qV (RN 8 256 O O ψ O)<|Ph O<|qV (zcz O U5 RW ψ)<|qV (z2q O O ω ω) ?_
   have oS:(q*256%18446744073709551616 |||c.toNat)=PZ (PA (s.take (i+1))):=by
    rw[H,y0g ω,y0J q];exact(y21 (i:=8) k q).symm
   rw[oS];refine Pq O<|An<|Pc O<|Qj O<|Ph O<|P4 ?_;exact(T (i+1) _ ⟨O,ω⟩ ω).qb
  ·have W:i=s.length:=ω
   subst W;rw[y0F,nI];refine Pf O<|PL O<|QS O<|P3 func55 O ?_;exact⟨_,O,O,a.ext' A,(j.kp.trans D).trans A.kp⟩
theorem zaA (M:Sp Q txt K X w)(a:∀b,X b->b<w.heap.size)(Z:K<1000000000000)(l:Wh Q txt vb width st xs w)(u:X vb){x:Nat}(hi:i<xs.length)(c:x<2^(8*width)):
  PN prog 114 [ptr vb 0,I (i:Int),Pt x] w λv w'=>v=I 0/\VcW Q txt (K+1) X vb width st (xs.set i x) w w':=by
 have eB:=M.n
 have B:∀w1,Ext w w1->PN prog 87 [ptr vb 0,I (i:Int)] w1 λv w'=>v= .tuple #[I ((st+i / (512 / width):Nat):Int),I ((i%(512 / width)*width:Nat):Int)]/\Ext w1 w':=λw1 j=>z5v (l.ext j) hi eB
 obtain⟨G,a2,a3⟩:=l.at_ hi
 obtain⟨e1,e2,e3,e4,e5⟩:=l.e
 have mz:x<18446744073709551616:=by
  have:=y0r (show 0<2 by decide) (show 8*width<=64 by omega);omega
 have V:=M.z1w (x:=((st+i / (512 / width):Nat):Int)) (y2X _) (y2E.2 G)
 have lE:=l.n
 obtain⟨t,ht⟩:∃t,txt ((st+i / (512 / width):Nat):Int)=t:=⟨_,O⟩
 have f:=l.t.set ω c hi ht (by rw[ht] at V;omega)
 have g:∀w1,Ext w w1->PN prog 83 [ptr Q.s 0,I ((st+i / (512 / width):Nat):Int)] w1 λv w'=>v= .tuple #[S (txt ((st+i / (512 / width):Nat):Int)),I 0]/\Sp Q txt K X w'/\Kp (λb=>¬X b) w1 w':=λw1 j=>(M.ext' j).read (λb z=>by have:=a b z;have:=j.size;omega) Z (y2X _) (y2E.2 G)
 have D:(xs.set i x).length=xs.length:=ξ
 have hB:=l.cells
 have k:=l.wd
 have cx:=l.fit
 rw[ht] at V g
 have E:∀w',Pm w' vb [I (xs.length:Int),I (width:Int),I ((512 / width:Nat):Int),I (st:Int),I (Xl xs.length (512 / width):Int),ptr Q.s 0,.bool false] 164->Wh Q (ZY txt ((st+i / (512 / width):Nat):Int) (some (t.take (i%(512 / width)*width)++VV width x++t.drop (i%(512 / width)*width+width)))) vb width st (xs.set i x) w':=λw' z=>⟨by rw[D];exact z,k,f,by rw[D];exact lE,by rw[D];exact cx⟩
 clear f
 have mU:st+i / (512 / width)<Q.L.length:=G
 generalize i / (512 / width)=q at*
 generalize i%(512 / width)=r at*
 generalize ho:r*width=o at*
 have W:=QA width x
 have pq:(t.take o++VV width x++t.drop (o+width)).length=512:=by rw[Pe,Pe,y0d,y07,W];omega
 refine py (e:=[(0,_),(1,_),(2,_)]) func114 O ntmps114 O O<|Re O<|Qi O<|Px zdt O (VF l) ?_
 rintro _ w⟨rfl,rfl⟩
 refine Rq O<|R5 O<|QC O<|Qi O<|QY O<|Qb<|PB O<|Ph O<|PQ O<|Pr SC O<|Pr z47 O<|qV (Pl U3 O O hB O)<|Uj O<|Qb ?_
 refine Ql O<|PB O<|PQ O<|Pr SC O<|qV (PO z2n O Zs O (Pm.cells (n:=3) hB (news:=[_,_,_]) O) O)<|Ph O<|Px zjK O (z1O xs.length width (512 / width) x k c w) ?_
 rintro _ w1⟨rfl,j⟩
 have T:=j.OZ hB
 refine qV (SD O)<|Ql O<|P4<|PM.qb (e:=[(0,_),(1,_),(2,_),(6,_),(36,_)]) ?_
 refine Tj O<|QG O<|Px zjz O (B w1 j) ?_
 rintro _ w2⟨rfl,H⟩
 have N:=H.OZ T
 refine Ph O<|Ta O<|SO O<|Rq O<|PQ O<|Pr XF O<|qV (Pl XZ O O N O)<|Ph O<|Px zdD O (g w2 (j.trans H)) ?_
 rintro _ F⟨rfl,gV,R⟩
 have A:=R.OZ N (λe=>e u)
 have d:=Ext.Pz F
 have U:Kp (λb=>¬X b) w F:=(j.trans H).kp.trans R
 have P:(t.take o).length=o:=by rw[y0d];omega
 have wW:(t.drop (o+width)).length=512-(o+width):=by rw[y07];omega
 refine Ph O<|Ta O<|QS O<|Qi O<|R5 O<|P4<|PM.qb (e:=[(0,_),(2,_),(6,_),(8,_),(9,_),(10,_),(11,_),(53,_)]) ?_
 refine Tj O<|OY<|RI (λw'=>Kp (λb=>¬X b) F w') O<|Pu 0 O O d.kp<|P7 1 O (QL O) d.kp<|P7 2 O (PU XF O) d.kp<|qT 3 O (λ_ h=>Pl XZ O O (h.OZ A (λe=>e u)) O) d.kp<|Pu 4 O O d.kp<|Pu 5 O O d.kp<|Pu 6 O O d.kp<|P7 7 O (z57 U9 O O ω) d.kp<|Pu 8 O O d.kp<|P7 9 O (QL O) d.kp<|P7 10 O (PU SC O) d.kp ?_
 refine qT 11 O (λ_ hS=>PO z2n O Zs O (Pm.cells (n:=3) (hS.OZ A (λe=>e u)) (news:=[_,_,_]) O) O) d.kp<|Pu 12 O O d.kp<|Pu 15 O O d.kp<|Pu 16 O O d.kp<|Pu 17 O O d.kp<|P7 18 O (QL O) d.kp<|P7 19 O (PU SC O) d.kp<|P7 20 O (PU Wx O) d.kp<|qT 21 O (λ_ h=>Pl U3 O O (h.OZ A (λe=>e u)) O) d.kp<|P7 22 O (Vu O O ω) d.kp ?_
 rw[show(o:Int)+(width:Int)=((o+width:Nat):Int) by omega]
 refine P7 23 O (z1H U9 O O ω) d.kp<|Tl 13 O zgR O (Yt _ _ _ x e5 mz _) ?_
 rintro _ w4⟨rfl,C⟩
 refine⟨d.kp.trans C.kp,?_⟩
 have m:=d.trans C
 refine P7 14 O (ZE O O (by first|omega|(simp;done)|(simp;omega))) (d.kp.trans C.kp) ?_
 refine P7 24 O (ZE O O (by rw[Pe,P,W,wW];omega)) (d.kp.trans C.kp) ?_
 refine Tl 25 O zcK O ((gV.ext' m).write (λb z=>by have:=a b z;have:=U.size;have:=m.size;omega) Z (no:=((st+q:Nat):Int)) ω ω _ pq) ?_
 rintro _ p⟨rfl,iX,J⟩
 refine⟨m.kp.trans J,?_⟩
 have Y:Kp (λb=>¬X b) F p:=m.kp.trans J
 refine P7 26 O (S6 O) (m.kp.trans J)<|qE<|PM.qb (e:=[(6,_)]) ?_
 refine P3 func114 O ?_
 exact⟨_,O,O,_,iX,E p (Y.OZ A (λe=>e u)),λy hy=>S1 _ _ (by rw[D] at hy;omega),U.trans Y⟩
end
section
variable {n:Nat}
theorem z5M (Y:Sp Q txt K X w)(hX:∀b,X b->b<w.heap.size)(hK:K<=900000000000)(u:Wh Q txt vb width st xs w)(r:X vb)(pH:CF prog f)(caps:List Value)(OZ:Nat->P8)(B:∀b,(OZ b).length<=512)
  (Z:∀(b:Nat)(w1:World),b<Xl xs.length (512 / width)->Kp (λb=>¬X b) w w1->PN prog f ([I (b:Int)]++caps) w1 λv w2=>v=S (OZ b)/\Ext w1 w2):
  PN prog 78 [ptr vb 0,.func (.func f) #[] caps.toArray] w λv w'=>v=I 0/\∃txt',Sp Q txt' (K+Xl xs.length (512 / width)) X w'/\Kp (λb=>¬X b) w w'/\(∀b,b<Xl xs.length (512 / width)->txt' ((st+b:Nat):Int)=OZ b++zeros (512-(OZ b).length))/\(∀y:Int,y<(st:Int)\/(st:Int)+(Xl xs.length (512 / width):Int)<=y->txt' y=txt y):=by
 have eF:maxLen=9223372036854775807:=rfl
 have eB:=Y.n
 have hB:=u.cells
 have P:=u.fit
 have lE:=u.n
 obtain⟨e1,T,e3,e4,e5⟩:=u.e
 have g:=Z0 xs.length width (512 / width) ⟨ω,T⟩ lE w
 obtain⟨N,hN⟩:∃N,Xl xs.length (512 / width)=N:=⟨_,O⟩
 rw[hN] at hB P g Z⊢
 refine py (e:=[(0,_),(1,_)]) func78 O ntmps78 O O<|Re O<|Qi O<|PQ O<|Pr SC O<|qV (PO z2n O Zs O (Pm.cells (n:=3) hB (news:=[_,_,_]) O) O)<|Px ziV O g ?_
 rintro _ w1⟨rfl,M⟩
 refine Ph O<|P4<|P6<|RX (α:=Nat) (0) (λk=>[(0,ptr vb 0),(1,.func (.func f) #[] caps.toArray),(12,I (N:Int)),(13,I (k:Int))]) (λk w'=>k<=N/\Kp (λb=>¬X b) w w'/\∃txt',Sp Q txt' (K+k) X w'/\(∀b,b<k->txt' ((st+b:Nat):Int)=OZ b++zeros (512-(OZ b).length))/\(∀y:Int,y<(st:Int)\/(st:Int)+(k:Int)<=y->txt' y=txt y)) (λk=>N-k) ?hI ?hround
 case hI=>exact⟨y00 _,M.kp,txt,Y.ext' M,λb G=>ω,λy _=>rfl⟩
 case hround=>
  rintro k w2⟨hk,q,o,V,J,W⟩ ih;have L:=q.OZ hB (λe=>e r)
  try dsimp only
  refine qN O<|QY O<|P4<|OY<|Pn O (λh0=>?_)<|λh0=>?_
  ·have z:k<N:=ω
   refine P5<|R0<|PL O<|Ro O<|PB O<|Rj O O (SE pH O O) (Z k w2 z q) ?_;rintro _ x⟨rfl,A⟩;have D:=A.OZ L;have F:=V.ext' A;have d:=Ext.Pz x;have hl:=B k;have U:=q.trans A.kp;obtain⟨t,ht⟩:∃t,OZ k=t:=⟨_,O⟩;rw[ht] at hl⊢;have H:(zeros (512-t.length)).length=512-t.length:=by simp[zeros]
   have cO:=F.size;have p:∀m,Ext x m->PN prog 65 [ptr Q.s 0] m λv w'=>v=I 512/\w'=m:=λm hx=>(F.ext' hx).size;refine Pq O (OY (RI (λw'=>Kp (λb=>¬X b) x w') O (Pu 0 O O d.kp (P7 1 O (QL O) d.kp (P7 2 O (PU XF O) d.kp (qT 3 O (λ_ h=>Pl XZ O O (h.OZ D (λe=>e r)) O) d.kp (Pu 4 O O d.kp (P7 5 O (QL O) d.kp (P7 6 O (PU z14 O) d.kp (P7 7 O (PU Rs O) d.kp (qT 8 O (λ_ h=>Pl U3 O O (h.OZ D (λe=>e r)) O) d.kp (Pu 9 O O d.kp (P7 10 O (Vu O O ω) d.kp ?_)))))))))))));refine Pu 11 O O d.kp<|Pu 12 O O d.kp<|P7 13 O (QL O) d.kp<|P7 14 O (PU XF O) d.kp<|qT 15 O (λ_ h=>Pl XZ O O (h.OZ D (λe=>e r)) O) d.kp<|Pu 17 O O d.kp<|P7 18 O (WW U9 O) d.kp<|Tl 16 O z4W O (p _ d) ?_;rintro _ m⟨rfl,rfl⟩;refine⟨d.kp,?_⟩;refine P7 19 O (Yf O O ω) d.kp ?_;rw[show(512:Int)-(t.length:Int)=((512-t.length:Nat):Int) by omega];refine qO 20 (z0n (i:=20) O O O (pmk (c:=512-t.length) (n:=512-t.length) QX YS O O O ω ω ω) ?_);rintro _ m⟨b4,rfl,⟨g7,R,E⟩,-⟩;refine⟨d.kp.trans R.kp,?_⟩;have j:=d.trans R;refine qO 21 (zhC (i:=21) O O O (zb5 (l:=zeros (512-t.length)) QX U5 U9 O E (z0y _) H) j.kp (P7 22 O (ZE O O (by rw[H];omega)) j.kp ?_));have pq:(t++zeros (512-t.length)).length=512:=by rw[Pe,H];omega
   rw[show(st:Int)+(k:Int)=((st+k:Nat):Int) by omega];refine Tl 23 O zcK O ((F.ext' j).write (λb G=>by have:=hX b G;have:=U.size;have:=j.size;omega) ω (no:=((st+k:Nat):Int)) ω ω _ pq) ?_;rintro _ a⟨rfl,iX,C⟩;refine⟨j.kp.trans C,?_⟩;have fY:Kp (λb=>¬X b) x a:=j.kp.trans C;refine P7 24 O (S6 O) (j.kp.trans C)<|qE<|PL O<|R5 O<|QC O<|An<|Pc O<|Qj O<|Ph O<|P4 ((ih (k+1) a ⟨ω,U.trans fY,_,iX,λb G=>?_,λy hy=>?_⟩ ω).qb)
   ·by_cases e:b=k
    ·subst e;rw[Su,ht];rfl
    ·rw[S1 _ _ ω];exact J b ω
   ·rw[S1 _ _ ω];exact W y ω
  ·have z:k=N:=ω
   subst z;refine Pf O<|Re O<|P3 func78 O ?_;exact⟨_,O,O,o,V,q,J,W⟩
theorem z6n (l:P8):∀n,((List.replicate n l).flatten).length=n*l.length
 |0=>ξ
 |n+1=>by rw[y12,y35,Pe,z6n l n,y0G];omega
def z5f {bf:Nat}(b:Nat)(hB:Pm w bf [S s] 9):PN prog 79 ([I (b:Int)]++[ptr bf 0]) w λv w2=>v=S s/\Ext w w2:=by
 show PN _ _ [I (b:Int),ptr bf 0] _ _
 refine py (e:=[(0,_),(1,_)]) func79 O ntmps79 O O<|qN O<|Ro O<|qV (Pl U9 O O hB O)<|Pq O<|P3 func79 O ?_
 exact⟨_,O,O,Ext.refl _⟩
theorem Yw (hP:Sp Q txt K X w)(hX:∀b,X b->b<w.heap.size)(T:K<=900000000000)(z:Wh Q txt vb width st xs w)(f:X vb){x:Nat}(g:x<2^(8*width)):
  PN prog 43 [ptr vb 0,Pt x] w λv w'=>v=I 0/\VcW Q txt (K+Xl xs.length (512 / width)) X vb width st (List.replicate xs.length x) w w':=by
 have hB:=z.cells
 have lE:=z.n
 obtain⟨e1,a,B,e4,c⟩:=z.e
 have p:x<18446744073709551616:=by
  have:=y0r (show 0<2 by decide) (show 8*width<=64 by omega);omega
 have L:=QA width x
 have lV:(List.replicate (512 / width) (VV width x)).flatten.length=512:=by
  rw[z6n,L];exact B
 refine py (e:=[(0,_),(1,_)]) func43 O ntmps43 O O<|Re O<|Qi O<|Px zdt O (VF z) ?_
 rintro _ w⟨rfl,rfl⟩
 refine Rq O<|R5 O<|QC O<|Qi O<|PQ O<|Pr SC O<|qV (PO z2n O Zs O (Pm.cells (n:=3) hB (news:=[_,_,_]) O) O)<|Ph O<|Px zjK O (z1O xs.length width (512 / width) x z.wd g w) ?_
 rintro _ w1⟨rfl,A⟩
 have W:=A.OZ hB
 have t:=Ext.Pz w1
 refine qV (SD O)<|QC O<|OY<|Qf (λZ w'=>∃bf,Z=[(0,ptr vb 0),(6,ptr bf 0)]/\Pm w' bf [S (List.replicate (512 / width) (VV width x)).flatten] 9/\Ext w1 w'/\w1.heap.size<=bf) ?bI<|λbI=>?cZ
 case bI=>
  rintro Z w2⟨bf,rfl,Y,V,N⟩;have R:=A.trans V;have mY:=A.size;have E:Sp Q txt K (λb=>X b\/b=bf) w2:=hP.ext R (λb e=>e.imp id λe=>ω);have a0:=Y.lt;have hw:=z5M E (λb hb=>by rcases hb with e|e;(have:=hX b e;have:=R.size;omega);omega) T (z.ext R) (.inl f) zlN [ptr bf 0] (λ_=>(List.replicate (512 / width) (VV width x)).flatten) (λ_=>by rw[lV];omega) (λb s _ U=>z5f b (U.OZ Y (λe=>e (.inr O))));refine PL O<|qV (ymf (first:=[]) (caps:=[.tmp 6]) O O)<|Px zlW O (hw) ?_;rintro _ s⟨rfl,F,P,U,ql,rf⟩;refine Pq O<|P3 func43 O ?_;have u:Kp (λb=>¬X b) w1 s:=V.kp.trans (U.Pk λb e a=>e (.inl a));have M:(List.replicate xs.length x).length=xs.length:=y08;refine⟨_,O,O,F,P.less (λb e=> .inl e),⟨?_,z.wd,VcT.fill g ω (λi hi=>?_),by rw[M];exact lE,by rw[M];exact z.fit⟩,λy k=>rf y (by rw[M] at k;exact k),A.kp.trans u⟩
  ·rw[M];exact(A.kp.trans u).OZ hB (λe=>e f)
  ·have uK:=z4f (each:=512 / width) ω hi;exact⟨_,ql _ uK⟩
 case cZ=>
  have d:=t;have l:=d.size;refine PC [13] (λw'=>Ext w1 w') Pd O<|Qm 0 O O d<|PH 1 O (QL O) d<|PH 2 O (PU SC O) d<|qL 3 O (λ_ h=>PO z2n O Zs O (Pm.cells (n:=3) (h.OZ W) (news:=[_,_,_]) O) O) d<|Qm 4 O O d<|Qm 6 O O d<|PH 7 O (QL O) d<|PH 8 O (PU SC O) d<|PH 9 O (PU Zi O) d<|qL 10 O (λ_ h=>Pl U3 O O (h.OZ W) O) d<|Y3 (i:=5) (j:=12) Pd ?_ ?_
  ·refine Sm (i:=5) O O O (yc zgR O) (Yt _ _ _ x c p _) ?_;rintro _ w5⟨rfl,r⟩;refine⟨d.trans r,?_⟩;have d:=d.trans r
   try have m:=r.OZ m
   have l:=y0b l r.size;refine Y3 (i:=11) (j:=12) Pd ?_ ?_
   ·refine Sm (i:=11) O O O (yc zgk O) (z00 (VV width x) (512 / width) ω ω _) ?_;rintro _ G⟨rfl,o⟩;refine⟨d.trans o,?_⟩;have d:=d.trans o
    try have m:=o.OZ m
    have l:=y0b l o.size;refine Ry (i:=12) Pd<|QQ (i:=12) O O O (S5 (cs:=[_]) ti9 O) ?_;rintro _ H⟨bf,rfl,N,q,m⟩;refine⟨d.trans q,?_⟩;have d:=d.trans q;have D:w1.heap.size<=bf:=ω
    have l:=y0b l q.size;refine TV [13] (qO 13 (Q0 (i:=13) O O (QZ ti9 O O O m ξ) ?_));rintro J⟨C,u⟩;refine⟨trivial,?_⟩;refine qE<|PM.qb (e:=[(0,_),(4,_),(6,_)]) ?_;exact(bI _ _ ⟨bf,O,C,d.It u (λj e=>ω),D⟩).qb
   ·refine QQ (i:=12) O O O (S5 (cs:=[_]) ti9 O) ?_;rintro _ H⟨bf,rfl,N,q,m⟩;refine⟨d.trans q,?_⟩;have d:=d.trans q;have D:w1.heap.size<=bf:=ω
    have l:=y0b l q.size;refine Ry (i:=11) Pd (Sm (i:=11) O O O (yc zgk O) (z00 (VV width x) (512 / width) ω ω _) ?_);rintro _ G⟨rfl,o⟩;refine⟨d.trans o,?_⟩;have d:=d.trans o
    try have m:=o.OZ m
    have l:=y0b l o.size;refine TV [13] (qO 13 (Q0 (i:=13) O O (QZ ti9 O O O m ξ) ?_));rintro J⟨C,u⟩;refine⟨trivial,?_⟩;refine qE<|PM.qb (e:=[(0,_),(4,_),(6,_)]) ?_;exact(bI _ _ ⟨bf,O,C,d.It u (λj e=>ω),D⟩).qb
  ·refine QQ (i:=12) O O O (S5 (cs:=[_]) ti9 O) ?_;rintro _ H⟨bf,rfl,N,q,m⟩;refine⟨d.trans q,?_⟩;have d:=d.trans q;have D:w1.heap.size<=bf:=ω
   have l:=y0b l q.size;refine Ry (i:=5) Pd<|Sm (i:=5) O O O (yc zgR O) (Yt _ _ _ x c p _) ?_;rintro _ w5⟨rfl,r⟩;refine⟨d.trans r,?_⟩;have d:=d.trans r
   try have m:=r.OZ m
   have l:=y0b l r.size;refine Ry (i:=11) Pd (Sm (i:=11) O O O (yc zgk O) (z00 (VV width x) (512 / width) ω ω _) ?_);rintro _ G⟨rfl,o⟩;refine⟨d.trans o,?_⟩;have d:=d.trans o
   try have m:=o.OZ m
   have l:=y0b l o.size;refine TV [13] (qO 13 (Q0 (i:=13) O O (QZ ti9 O O O m ξ) ?_));rintro J⟨C,u⟩;refine⟨trivial,?_⟩;refine qE<|PM.qb (e:=[(0,_),(4,_),(6,_)]) ?_;exact(bI _ _ ⟨bf,O,C,d.It u (λj e=>ω),D⟩).qb
end
section
end
section
variable {n:Nat}
theorem z4D (A:Sp Q txt K X w)(D:∀b,X b->b<w.heap.size)(m:Wh Q txt vb width st xs w)(j:X vb)(z:2<=st)(G:∀i,st<=i->i<st+Xl xs.length (512 / width)->Q.L[i]? =some true):
  PN prog 51 [ptr vb 0] w λv w'=>v=I 0/\∃txt',Sp (Q.Qq (Qr Q.L st (Xl xs.length (512 / width)) false)) txt' K X w'/\(∀y:Int,y<(st:Int)\/(st:Int)+(Xl xs.length (512 / width):Int)<=y->txt' y=txt y)/\Kp (λb=>¬X b\/b=vb) w w':=by
 have hB:=m.cells
 have x:=m.fit
 have H:1<=Xl xs.length (512 / width):=Nat.le_max_left _ _
 have hg:=Ext.Pz w
 have r:=(A.ext' hg).zls (λb F=>by have:=D b F;have:=hg.size;omega) H z x G
 generalize Xl xs.length (512 / width)=N at*
 refine py (e:=[(0,_)]) func51 O ntmps51 O O<|Re O<|Qi O<|Px zdt O (VF m) ?_
 rintro _ w⟨rfl,rfl⟩
 refine Rq O<|R5 O<|QC O<|OY<|OY<|RI (λw'=>Kp (λb=>¬X b) w w') O<|Pu 0 O O hg.kp<|P7 1 O (QL O) hg.kp<|P7 2 O (PU XF O) hg.kp<|qT 3 O (λ_ h=>Pl XZ O O (h.OZ hB (λe=>e j)) O) hg.kp<|Pu 4 O O hg.kp<|P7 5 O (QL O) hg.kp<|P7 6 O (PU z14 O) hg.kp<|qT 7 O (λ_ C=>PO VU O Rw O (Pm.cells (n:=2) (C.OZ hB (λe=>e j)) (news:=[_,_]) O) O) hg.kp ?_
 refine Tl 8 O zlm O r ?_
 rintro _ w1⟨rfl,d,J,M,l⟩
 refine⟨hg.kp.trans l,?_⟩
 have q:=hg.kp.trans l
 have u:=q.OZ hB (λe=>e j)
 refine P7 9 O (S6 O) (hg.kp.trans l)<|qE<|PL O<|R5 O<|QC O<|PL O<|PQ O<|Pr z8b O<|Po O (QZ TZ O O O u ξ) ?_
 rintro w2⟨R,o⟩
 refine qM O<|Pq O<|P3 func51 O ?_
 exact⟨_,O,O,d,J.own o (λb e=>by rw[e];exact j),M,(q.Pk λb e=> .inl e).trans (o.Pk λb e=> .inr e)⟩
def VcT.any {n:Nat}(m:1<=each)(r:each*width<=512)(h:∀i,i<n->(txt ((st+i / each:Nat):Int)).length=512):∃xs:List Nat,xs.length=n/\VcT txt st width each xs:=by
 refine⟨(List.range n).map λi=>PZ (PA (((txt ((st+i / each:Nat):Int)).drop (i%each*width)).take width)),ξ,λi x d=>?_⟩
 rw[y0i] at d
 by_cases hi:i<n
 ·rw[y1i hi] at d;cases d;have o:=h i hi;have q:(i%each+1)*width<=each*width:=y1n _ (y15 _ m);rw[y0G,y1h] at q
  have e:(((txt ((st+i / each:Nat):Int)).drop (i%each*width)).take width).length=width:=by
   rw[y0d,y07,o];omega
  refine⟨?_,?_⟩
  ·have l:=zeJ (((txt ((st+i / each:Nat):Int)).drop (i%each*width)).take width);rw[e] at l;exact l.symm
  ·have j:=RD (PA (((txt ((st+i / each:Nat):Int)).drop (i%each*width)).take width));rw[bitsT_length,e] at j;exact j
 ·rw[y0e (by simpa using hi)] at d;cases d
theorem zaU (G:Sp Q txt K X w)(hX:∀b,X b->b<w.heap.size)(hK:K<=800000000000)(hp:Pre Q.L a)(n width:Nat)(hn:n<=4194304)(J:width=1\/width=2\/width=4\/width=8)(m:a+Xl n (512 / width)<=Q.L.length):
  PN prog 41 [ptr Q.s 0,I (n:Int),I (width:Int)] w λv w'=>∃vb txt',v= .tuple #[ptr vb 0,I 0]/\w.heap.size<=vb/\Sp (Q.Qq (Qr Q.L a (Xl n (512 / width)) true)) txt' (K+Xl n (512 / width)) (λb=>X b\/b=vb) w'/\Wh (Q.Qq (Qr Q.L a (Xl n (512 / width)) true)) txt' vb width a (List.replicate n 0) w'/\(∀y:Int,y<(a:Int)\/(a:Int)+(Xl n (512 / width):Int)<=y->txt' y=txt y)/\Kp (λb=>¬X b) w w':=by
 have Y:1<=Xl n (512 / width):=Nat.le_max_left _ _
 have eB:=G.n
 obtain⟨e1,d,e3,e4,e5⟩:64<=512 / width/\512 / width<=512/\512 / width*width=512/\1<=width/\width<=8:=by
  rcases J with e|e|e|e<;>subst e<;>decide
 have V:(Qr Q.L a (Xl n (512 / width)) true).length=Q.L.length:=QE m
 refine py (e:=[(0,_),(1,_),(2,_)]) func41 O ntmps41 O O<|qN O<|QS O<|R0<|PL O<|qV (Qz XZ O O)<|Pq O<|P9 O<|OY<|Qf (λU w'=>w'=w/\U=[(0,ptr Q.s 0),(1,I (n:Int)),(2,I (width:Int)),(15,.bool false)]) ?aw<|λaw=>?er
 case aw=>
  rintro U w'⟨rfl,rfl⟩;refine Tj O<|An<|QG O<|Ph O<|Px z4W O (G.size) ?_;rintro _ w'⟨rfl,rfl⟩;refine Ph O (qV (X5 O O ω) ?_);rw[show(512:Int) / (width:Int)=((512 / width:Nat):Int) from rfl];refine qV (T3 (cs:=[_,_,_]) Zs O zhy O O)<|Ph O<|qV (T3 (cs:=[_,_,_,_,_,_,_]) zkp O zhw O O)<|Pb O O (RP O (cs:=[I (n:Int),I (width:Int),I ((512 / width:Nat):Int),I 0,I 0,ptr Q.s 0,.bool false]) O) ?_;rintro _ w1⟨vb,rfl,fW,S,C⟩;refine Ro O (PB O (PQ O (Pr SC O (qV (PO z2n O Zs O (Pm.cells (n:=3) C (news:=[_,_,_]) O) O) (Px ziV O (Z0 n width (512 / width) ⟨ω,d⟩ hn _) ?_)))));rintro _ w2⟨rfl,A⟩;have z:=S.trans A;have ak:=A.OZ C;have z1:=S.size;have z2:=A.size;have l1:=C.lt;have fA:Sp Q txt K (λb=>X b\/b=vb) w2:=G.ext z (λb e=>e.imp id λe=>ω)
  have W:∀b,(X b\/b=vb)->b<w2.heap.size:=λb H=>by
   rcases H with e| e
   ·have:=hX b e;have:=z.size;omega
   ·omega
  obtain⟨N,hN⟩:∃N,Xl n (512 / width)=N:=⟨_,O⟩;rw[hN] at Y m V⊢;refine Px zib O (fA.take W hp Y m) ?_;rintro _ g⟨rfl,gV,D⟩;have ao:=D.OZ ak (λe=>e (.inr O));have z3:=D.size;refine Ph O<|Ta O<|Pb O O (S5 (cs:=[_,_]) Rw O) ?_;rintro _ w4⟨b9,rfl,mO,ay,T⟩;refine Po O (Qh (news:=[I (a:Int),I (N:Int)]) Rw O O O O T ξ) ?_;rintro k⟨o,ai⟩;replace o:Pm k b9 [I (a:Int),I (N:Int)] 124:=o;have l:Ext g k:=ay.It ai (λj e=>ω);have cQ:=l.OZ ao;have iX:=gV.ext' l;refine Pq O<|PM.qb (e:=[(0,_),(8,_),(9,_),(10,_)]) ?_;refine Qi O (R5 O (QC O (PL O (qV (PO VU O Rw O (Pm.cells (n:=2) o (news:=[_,_]) O) O) (PQ O (Pr z14 O (Po O (Qh (news:=[I (a:Int),I (N:Int)]) Rw O O O O cQ ξ) ?_)))))));rintro M⟨u,r⟩;replace u:Pm M vb [I (n:Int),I (width:Int),I ((512 / width:Nat):Int),I (a:Int),I (N:Int),ptr Q.s 0,.bool false] 164:=u;have Z:=iX.own r (λb e=> .inr e);have R:(Q.Qq (Qr Q.L a N true)).L.length=Q.L.length:=V
  obtain⟨xs,F,B⟩:=VcT.any (txt:=txt) (st:=a) (width:=width) (each:=512 / width) (n:=n) ω ω (λi hi=>by
   have f:=z4f (each:=512 / width) ω hi;rw[hN] at f
   generalize i / (512 / width)=q at f⊢
   exact Z.z1w ω (by rw[R];omega))
  have P:Wh (Q.Qq (Qr Q.L a N true)) txt vb width a xs M:=⟨by rw[F,hN];exact u,J,B,ω,by rw[F,hN,R];exact m⟩
  have qY:∀b,(X b\/b=vb)->b<M.heap.size:=λb H=>by
   have:=W b H;have:=l.size;have:=r.size;omega
  have c:=Yw Z qY ω P (.inr O) (x:=0) (y0v _);rw[F,hN] at c;refine P4<|Qi O<|Px zgg O c ?_;rintro _ w7⟨rfl,hW⟩;obtain⟨h,p,t,E,av⟩:=hW;refine Rq O<|R5 O<|QC O<|PL O<|QS O<|P3 func41 O ?_;have fN:(List.replicate n 0).length=n:=y08;refine⟨_,O,vb,h,O,ω,p,t,λy hy=>E y (by rw[fN,hN];exact hy),?_⟩;have cb:Kp (λb=>¬X b) w' g:=z.kp.trans (D.Pk λb e d=>e (.inl d));exact((cb.trans l.kp).It r (λb e=> .inl ω)).trans (av.Pk λb e d=>e (.inl d))
 case er=>
  rcases J with rfl|rfl|rfl|rfl
  ·refine Ra O<|QY O<|Qb<|PB O<|R8 O<|Qb<|Ql O<|PB O<|R5 O<|Qb<|Ph O<|QV<|Ql O<|Ph O ?_;refine QV<|Ql O<|Ph O<|QV<|Ql O<|Ql O<|Pq O<|PM.qb (e:=[(0,_),(1,_),(2,_),(6,_),(7,_),(15,_)]) ?_;exact(aw _ _ ⟨O,O⟩).qb
  ·refine Ra O<|QY O<|Qb<|PB O<|R8 O<|Qb<|Ql O<|PB O<|R5 O<|RO<|PB O<|R5 O<|Qb<|Rr O ?_;refine Ph O<|QV<|Ql O<|Ph O<|QV<|Ql O<|Ql O<|Pq O<|PM.qb (e:=[(0,_),(1,_),(2,_),(6,_),(7,_),(15,_)]) ?_;exact(aw _ _ ⟨O,O⟩).qb
  ·refine Ra O<|QY O<|Qb<|PB O<|R8 O<|Qb<|Ql O<|PB O<|R5 O<|RO<|PB O<|R5 O<|RO<|Rr O ?_;refine PB O<|R5 O<|Qb<|Rr O<|Ph O<|QV<|Ql O<|Ql O<|Pq O<|PM.qb (e:=[(0,_),(1,_),(2,_),(6,_),(7,_),(15,_)]) ?_;exact(aw _ _ ⟨O,O⟩).qb
  ·refine Ra O<|QY O<|Qb<|PB O<|R8 O<|Qb<|Ql O<|PB O<|R5 O<|RO<|PB O<|R5 O<|RO<|Rr O ?_;refine PB O<|R5 O<|RO<|Rr O<|PB O<|R5 O<|Qb<|Rr O<|Ql O<|Pq O<|PM.qb (e:=[(0,_),(1,_),(2,_),(6,_),(7,_),(15,_)]) ?_;exact(aw _ _ ⟨O,O⟩).qb
end
structure Gr where
 n:Nat
 succ:Nat->List Nat
 lt:∀v u,u∈succ v->u<n
inductive Way (G:Gr) (r:Nat):Nat->Nat->Prop
 |root:Way G r 0 r
 |step {k v u:Nat}:Way G r k v->u∈G.succ v->Way G r (k+1) u
def UE (G:Gr)(r k u:Nat):Prop:=Way G r k u/\∀j,j<k->¬Way G r j u
theorem UE.uniq {G:Gr}{r j u:Nat}(h:UE G r j u)(d:UE G r k u):j=k:=by
 rcases y3r j k with e|e| e
 ·exact absurd h.1 (d.2 j e)
 ·exact e
 ·exact absurd d.1 (h.2 k e)
theorem Way.ziv {G:Gr}{r:Nat}:∀{k u:Nat},Way G r k u->∃j,j<=k/\UE G r j u:=by
 intro k
 induction k using Nat.strongRecOn with
 | ind k n =>
   intro u h;by_cases l:∃j,j<k/\Way G r j u
   ·obtain⟨j,d,e⟩:=l;obtain⟨i,hi,m⟩:=n j d e;exact⟨i,ω,m⟩
   ·exact⟨k,y02 _,h,λj d e=>l ⟨j,d,e⟩⟩
def UE.pred {G:Gr}{r u:Nat}(h:UE G r (k+1) u):∃v,UE G r k v/\u∈G.succ v:=by
 obtain⟨e,l⟩:=h
 cases e with
 | step m d =>
   rename_i v
   refine⟨v,⟨m,λj o n=>?_⟩,d⟩;exact l (j+1) ω (.step n d)
def UE.zkR {G:Gr}{r v u:Nat}(h:UE G r k v)(d:u∈G.succ v):∃j,j<=k+1/\UE G r j u:=(Way.step h.1 d).ziv
theorem UE.root {G:Gr}{r:Nat}:UE G r 0 r:=⟨.root,λj d=>ω⟩
theorem UE.zero {G:Gr}{r u:Nat}(h:UE G r 0 u):u=r:=by
 cases h.1 with
 |root=>rfl
structure Lev (G:Gr)(r t:Nat)(d:Nat->Option Nat):Prop where
 has:∀u k,d u=some k->UE G r k u/\k<=t
 all:∀u k,UE G r k u->k<=t->d u=some k
theorem zlD (G:Gr)(r:Nat):Lev G r 0 (λu=>if u=r then some 0 else none):=by
 constructor
 ·intro u k h
  split at h
  ·rename_i e;cases h;subst e;exact⟨.root,y02 _⟩
  ·cases h
 ·intro u k h d;have:k=0:=ω
  subst this;rw[h.zero];simp
structure Xh (G:Gr)(r t:Nat)(d0 d:Nat->Option Nat)(A:Nat->Nat->Prop):Prop where
 old:∀u k,d0 u=some k->d u=some k
 new:∀u,d0 u=none->(d u=some (t+1)/\∃v,d0 v=some t/\A v u/\u∈G.succ v)\/(d u=none/\∀v,d0 v=some t->u∈G.succ v->¬A v u)
theorem Xh.fin {G:Gr}{r:Nat}{d:Nat->Option Nat}(m:Lev G r t d0)(h:Xh G r t d0 d λ_ _=>True):Lev G r (t+1) d:=by
 constructor
 ·intro u k o
  cases e:d0 u with
  | some j =>
    have:=h.old u j e;rw[o] at this;cases this;have:=m.has u k e
    exact⟨this.1,ω⟩
  | none =>
    rcases h.new u e with⟨l,v,z,-,y⟩|⟨l,-⟩
    ·rw[o] at l;cases l;obtain⟨j,C,n⟩:=(m.has v t z).1.zkR y;have:¬j<=t:=λq=>by rw[m.all u j n q] at e;cases e
     have:j=t+1:=ω
     subst this;exact⟨n,y02 _⟩
    ·rw[o] at l;cases l
 ·intro u k n o;by_cases x:k<=t
  ·exact h.old u k (m.all u k n x)
  ·have:k=t+1:=ω
   subst this
   have e:d0 u=none:=by
    cases e:d0 u with
    |none=>rfl
    |some j=>have:=m.has u j e;have:=n.uniq this.1;omega
   obtain⟨v,z,y⟩:=n.pred;rcases h.new u e with⟨l,-⟩|⟨-,A⟩
   ·exact l
   ·exact absurd trivial (A v (m.all v t z (y02 _)) y)
def Sa (h:QJ g)(v u:Nat)(j:u∈Pa g v):u<g.length:=by
 unfold Pa at j
 cases e:g[v]? with
 |none=>rw[e] at j;cases j
 |some l=>rw[e] at j;exact h.lt l (y0j e) u j
def z0R {g:List (List Nat)}(h:QJ g):Gr:=⟨g.length,Pa g,Sa h⟩
abbrev Ds:=List (Option Nat)
def dF (d:Ds)(u:Nat):Option Nat:=(d[u]?).getD none
def Uq (t:Nat)(d:Ds)(u:Nat):Ds:=if d[u]? =some none then d.set u (some (t+1)) else d
def z05 (t:Nat)(g:List (List Nat))(d:Ds)(v:Nat):Ds:=if dF d v=some t then(Pa g v).foldl (Uq t) d else d
def lvl (t:Nat)(g:List (List Nat))(d:Ds):Ds:=(List.range g.length).foldl (z05 t g) d
theorem Wi (t:Nat)(d:Ds)(u:Nat):(Uq t d u).length=d.length:=by
 unfold Uq
 split<;>simp
theorem Vh (t:Nat):∀(l:List Nat)(d:Ds),(l.foldl (Uq t) d).length=d.length
 |[],d=>rfl
 |u::l,d=>by rw[y23,Vh t l,Wi]
theorem z55 (t:Nat)(g:List (List Nat))(d:Ds)(v:Nat):(z05 t g d v).length=d.length:=by
 unfold z05
 split
 ·exact Vh t _ d
 ·rfl
theorem VJ (t:Nat)(g:List (List Nat)):∀(l:List Nat)(d:Ds),(l.foldl (z05 t g) d).length=d.length
 |[],d=>rfl
 |v::l,d=>by rw[y23,VJ t g l,z55]
theorem z89 (t:Nat)(g:List (List Nat))(d:Ds):(lvl t g d).length=d.length:=VJ t g _ d
theorem z4N {d:Ds}{u:Nat}(l:u<d.length)(x:Nat):dF (Uq t d u) x=if x=u/\dF d u=none then some (t+1) else dF d x:=by
 unfold Uq dF
 have e:d[u]? =some d[u]:=y03 l
 rw[e]
 by_cases h:d[u]=none
 ·rw[if_pos (by rw[h])];by_cases j:x=u
  ·subst j;rw[y0Q l,if_pos ⟨O,h⟩];rfl
  ·rw[y0A (λe=>j e.symm),if_neg (λe=>j e.1)]
 ·rw[if_neg (λe=>h (y11 e)),if_neg (λe=>h e.2)]
section
variable {G:Gr}{r:Nat}{d:Nat->Option Nat}{A B:Nat->Nat->Prop}
theorem Xh.step {v u:Nat}(h:Xh G r t d0 d A)(I:d0 v=some t)(H:u∈G.succ v){y:Nat->Option Nat}(m:∀x,y x=if x=u/\d u=none then some (t+1) else d x):Xh G r t d0 y (λC z=>A C z\/(C=v/\z=u)):=by
 constructor
 ·intro x k n;rw[m,if_neg]
  ·exact h.old x k n
  ·rintro⟨rfl,e⟩;rw[h.old _ _ n] at e;cases e
 ·intro x n;rw[m];rcases h.new x n with⟨l,w,o,D,F⟩|⟨l,o⟩
  ·left
   rw[if_neg (by rintro⟨rfl,e⟩;rw[l] at e;cases e)];exact⟨l,w,o,.inl D,F⟩
  ·by_cases e:x=u
   ·subst e;left;rw[if_pos ⟨O,l⟩];exact⟨O,v,I,.inr ⟨O,O⟩,H⟩
   ·right
    rw[if_neg (λj=>e j.1)];refine⟨l,λw J q=>?_⟩;rintro(j|⟨_,j⟩)
    ·exact o w J q j
    ·exact e j
def Xh.Uw (h:Xh G r t d0 d A)(e:∀v u,d0 v=some t->u∈G.succ v->(A v u↔B v u)):Xh G r t d0 d B:=by
 refine⟨h.old,λu l=>?_⟩
 rcases h.new u l with⟨m,v,j,q,n⟩|⟨m,j⟩
 ·exact .inl ⟨m,v,j,(e v u j n).1 q,n⟩
 ·exact .inr ⟨m,λv o l hB=>j v o l ((e v u o l).2 hB)⟩
theorem Xh.zero (G:Gr)(r t:Nat)(d0:Nat->Option Nat):Xh G r t d0 d0 λ_ _=>False:=⟨λ_ _ h=>h,λu h=> .inr ⟨h,λ_ _ _=>id⟩⟩
theorem Xh.at_ (h:Xh G r t d0 d A)(v:Nat):d v=some t↔d0 v=some t:=by
 constructor
 ·intro e
  cases l:d0 v with
  |some k=>have:=h.old v k l;rw[this] at e;exact e
  | none =>
    rcases h.new v l with⟨j,-⟩|⟨j,-⟩
    ·rw[j] at e;have:=y11 e;omega
    ·rw[j] at e;cases e
 ·exact λe=>h.old v t e
end
section
variable {r:Nat}
theorem z0w (h:QJ g){d0:Nat->Option Nat}{A:Nat->Nat->Prop}{v:Nat}(q:d0 v=some t):∀(p l:List Nat)(d:Ds),p++l=Pa g v->d.length=g.length->Xh (z0R h) r t d0 (dF d) (λm j=>A m j\/(m=v/\j∈p))->Xh (z0R h) r t d0 (dF (l.foldl (Uq t) d)) (λm j=>A m j\/(m=v/\j∈Pa g v))
 |p,[],d,e,hd,hm=>by rw[<-e,y0o];exact hm
 | p, u :: l, d, e, hd, hm => by
   have o:u∈Pa g v:=by rw[<-e];simp
   have n:u<d.length:=by rw[hd];exact Sa h v u o
   rw[y23];refine z0w h q (p++[u]) l _ (by rw[<-e];simp) (by rw[Wi,hd]) ?_;refine(hm.step q o (z4N n)).Uw λm j _ _=>?_;rw[y0u,y0z];constructor
   ·rintro((a|⟨a,b⟩)|⟨a,b⟩)
    ·exact .inl a
    ·exact .inr ⟨a,.inl b⟩
    ·exact .inr ⟨a,.inr b⟩
   ·rintro(a|⟨a,b|b⟩)
    ·exact .inl (.inl a)
    ·exact .inl (.inr ⟨a,b⟩)
    ·exact .inr ⟨a,b⟩
theorem z1r (h:QJ g){d0:Nat->Option Nat}:∀(n:Nat)(d:Ds),d.length=g.length->dF d=d0->Xh (z0R h) r t d0 (dF ((List.range n).foldl (z05 t g) d)) (λj _=>j<n)
 |0,d,hd,e=>by rw[<-e];exact(Xh.zero _ _ _ _).Uw λv u _ _=>ξ
 | n + 1, d, hd, e => by
   have o:=z1r h n d hd e;rw[y0P,y1P,y23,List.foldl_nil];have l:=VJ t g (List.range n) d
   generalize (List.range n).foldl (z05 t g) d=d1 at o l
   unfold z05;by_cases q:dF d1 n=some t
   ·rw[if_pos q];have C:=(o.at_ n).1 q;refine(z0w h (A:=λj _=>j<n) C [] _ d1 O ω (o.Uw λj z _ _=>ξ)).Uw λj z _ m=>?_;constructor
    ·rintro(a|⟨a,b⟩)<;>omega
    ·intro a;by_cases x:j=n
     ·subst x;exact .inr ⟨O,m⟩
     ·exact .inl ω
   ·rw[if_neg q];refine o.Uw λj z y m=>?_;have:j≠n:=λx=>q (by rw[<-x];exact(o.at_ j).2 y);omega
def zdq (h:QJ g){d:Ds}(m:d.length=g.length)(l:Lev (z0R h) r t (dF d)):Lev (z0R h) r (t+1) (dF (lvl t g d)):=by
 refine Xh.fin l ((z1r h g.length d m O).Uw λv u j n=>?_)
 constructor
 ·intro _;trivial
 ·intro _;by_cases e:v<g.length
  ·exact e
  ·have:dF d v=none:=by unfold dF;rw[y0e ω];rfl
   rw[this] at j;cases j
end
/-! ### The same with a flag: whether there were some -/
/-! ### A run -/
structure BfS where
 t:Nat
 done:Bool
 d:Ds
def BfS.new (n root:Nat):BfS:=⟨0,false,(List.replicate n none).set root (some 0)⟩
structure BfI (g:List (List Nat))(h:QJ g)(r:Nat)(s:BfS):Prop where
 len:s.d.length=g.length
 lev:Lev (z0R h) r s.t (dF s.d)
 run:s.done=false->∃u,dF s.d u=some s.t
 fin:s.done=true->(∀u,dF s.d u≠some s.t)/\∃u k,dF s.d u=some k/\k+1=s.t
section
variable {h:QJ g}{r:Nat}
theorem BfI.new (h:QJ g)(l:r<g.length):BfI g h r (BfS.new g.length r):=by
 have e:dF (BfS.new g.length r).d=λu=>if u=r then some 0 else none:=by
  funext u
  unfold dF BfS.new;dsimp only;by_cases j:u=r
  ·subst j;rw[y0Q (by simpa using l),if_pos O];rfl
  ·rw[y0A (λe=>j e.symm),if_neg j,y0T];split<;>rfl
 refine⟨by simp[BfS.new],by rw[e];exact zlD _ r,λ_=>⟨r,by rw[e];simp[BfS.new]⟩,λe=>by cases e⟩
def z6L:∀(n k:Nat)(f:Nat->Nat),(∀i,i<k->f i<n)->(∀i j,i<k->j<k->f i=f j->i=j)->k<=n
 | 0, k, f, h, _ => by
   by_cases e:k=0
   ·omega
   ·have:=h 0 ω;omega
 | n + 1, k, f, h, hi => by
   by_cases e:∃i,i<k/\f i=n
   ·obtain⟨m,q,o⟩:=e;have:=z6L n (k-1) (λi=>if i<m then f i else f (i+1)) (λi l=>?_) (λi j l x e=>?_)
    ·omega
    ·try dsimp only
     split
     ·have u:=h i ω;have:f i≠n:=λe=>by have:=hi i m ω q (by rw[e,o]);omega
      omega
     ·have u:=h (i+1) ω;have:f (i+1)≠n:=λe=>by have:=hi (i+1) m ω q (by rw[e,o]);omega
      omega
    ·try dsimp only at e
     split at e<;>split at e
     ·exact hi i j ω ω e
     ·have:=hi i (j+1) ω ω e;omega
     ·have:=hi (i+1) j ω ω e;omega
     ·have:=hi (i+1) (j+1) ω ω e;omega
   ·have:=z6L n k f (λi l=>by have u:=h i l;have:f i≠n:=λv=>e ⟨i,l,v⟩;omega) hi;omega
def UE.below {G:Gr}{r:Nat}:∀{k u:Nat},UE G r k u->∀j,j<=k->∃v,UE G r j v
 |0,u,h,j,hj=>⟨u,by rw[show j=0 by omega];exact h⟩
 | k + 1, u, h, j, hj => by
   by_cases e:j=k+1
   ·rw[e];exact⟨u,h⟩
   ·obtain⟨v,l,-⟩:=h.pred;exact l.below j ω
theorem UE.zl7 (h:QJ g)(z:r<g.length){u:Nat}(y:UE (z0R h) r k u):k<g.length:=by
 have l:∀j,∃v,j<=k->UE (z0R h) r j v:=λj=>by
  by_cases m:j<=k
  ·obtain⟨v,o⟩:=y.below j m;exact⟨v,λ_=>o⟩
  ·exact⟨0,λe=>absurd e m⟩
 have n:∀{j v:Nat},UE (z0R h) r j v->v<g.length:=fun {j v} o=>by
  cases o.1 with
  |root=>exact z
  |step _ C=>exact Sa h _ _ C
 have:=z6L g.length (k+1) (λj=>Classical.choose (l j)) (λi hi=>n (y33 (l i) ω)) (λi j hi m e=>by
  have q:=y33 (l i) ω;have x:=y33 (l j) ω
  try dsimp only at e
  rw[e] at q
  exact q.uniq x)
 omega
end
def z8c {v:Nat}(h:v<=200000):Nat.log2 (v+1)<=17:=by
 have e:=y2I (n:=v+1) ω
 have d:2^Nat.log2 (v+1)<2^18:=by
  have:(2:Nat)^18=262144:=ψ
  omega
 have:=(y34 (by decide:1<2)).1 d
 omega
def Yb.zej {q:Cd×Nat}(h:Yb k q)(o:1<=k/\k<=3):(q.1.enc q.2).length<=40:=by
 rw[XQ]
 rcases h with⟨e,h⟩|⟨e,h⟩|⟨e,h⟩
 ·rw[e];show q.2+1+0<=_;omega
 ·have:=z8c h;rw[e];show Nat.log2 (q.2+1)+1+Nat.log2 (q.2+1)<=_;omega
 ·have l:=z8c h;have m:Nat.log2 (q.2+1) / k<=Nat.log2 (q.2+1):=y0R _ _;have r:Nat.log2 (q.2+1) / k*k<=Nat.log2 (q.2+1):=y1A _ _
  have n:(S3 (q.2+1-2^(Nat.log2 (q.2+1) / k*k)) (2^(Nat.log2 (q.2+1) / k*k)*2^k-2^(Nat.log2 (q.2+1) / k*k))).2<=20:=by
   have d:Qn (2^(Nat.log2 (q.2+1) / k*k)*2^k-2^(Nat.log2 (q.2+1) / k*k)-1)<=20:=by
    refine Rz ?_;have j:=y0r (show 0<2 by decide) (show Nat.log2 (q.2+1) / k*k+k<=20 by omega);rw[y0M] at j;have:=y0v (Nat.log2 (q.2+1) / k*k);omega
   unfold S3;dsimp only;split
   ·show Qn _-1<=20;omega
   ·exact d
  rw[e];show Nat.log2 (q.2+1) / k+1+(S3 _ _).2<=_;omega
theorem z6B {p:Sr}(d:p.R1)(u:p.zeta<=3){x:Nat}(o:x<65536){succ ref:List Nat}(e:Q4 succ)(m:Q4 ref){r:Nat}(v:r<=p.PE)(z:succ.length<=40)(y:ref.length<=40):(PD (S2 p x succ ref r)).length<=6600:=by
 have h:Q4 (PI succ ref):=e.sub y1Z
 have G:(PI succ ref).length<=succ.length:=y2V _ _
 have j:=(Tz succ ref).z1C
 rw[y0k] at j
 have H:=z3j p.interval h
 have I:=(Vd p.interval (PI succ ref)).length_le
 have A:(S2 p x succ ref r).length<=165:=by
  unfold S2;rw[y01];split
  ·simp
  rw[Pe,Pe];have C:(if 0<p.PE then [(Cd.unary,r)] else []).length<=1:=by split<;>simp
  have D:(if 0<r then(Cd.gamma,(RF succ ref).length-1)::QN 0 (RF succ ref).dropLast else []).length<=42:=by
   split
   ·rw[y01,Tx,y2p];omega
   ·simp
  have F:(if PI succ ref=[] then [] else(if 0<p.interval then(Cd.gamma,(Qo p.interval (PI succ ref)).1.length)::Qd x p.interval none (Qo p.interval (PI succ ref)).1 else [])++Qg x p.zeta none (Qo p.interval (PI succ ref)).2).length<=121:=by
   split
   ·simp
   ·rw[Pe,TM];split
    ·rw[y01,SQ];omega
    ·simp;omega
  omega
 have:=z3s (n:=40) (L:=S2 p x succ ref r) (λq l=>(z0U d o e m v q l).zej ⟨d.2.2.1,u⟩)
 omega
section
theorem zgU (h:Tq p g E)(v:g.length<=40)(q:p.zeta<=3)(hi:i<g.length):(YH p g E i).length<=6600:=by
 unfold YH
 have n:g[i]? =some g[i]:=y03 hi
 have u:i<E.length:=by have:=h.pk.el;omega
 have d:E[i]? =some E[i]:=y03 u
 have m:=h.pk.ok.ent i _ d
 rw[n,d]
 rw[n] at m
 show(PD (S2 p.list i g[i] (R7 g i E[i].1) E[i].1)).length<=6600
 have j:Q4 (R7 g i E[i].1)/\(R7 g i E[i].1).length<=40:=by
  rcases XJ g i E[i].1 with e| e
  ·rw[e];exact⟨⟨y1p,λy h=>(by cases h)⟩,y00 _⟩
  ·exact⟨h.gr.ok _ e,by have:=h.gr.len e;omega⟩
 have r:E[i].1<=p.list.PE:=by
  rcases m with e|⟨-,o,-⟩
  ·rw[e];exact y00 _
  ·exact o
 have l:g[i]∈g:=y1d hi
 exact z6B h.R1.1 q ω (h.gr.ok _ l) j.1 r (by have:=h.gr.len l;omega) j.2
theorem zbQ (h:Tq p g E)(e:g.length<=40)(d:p.zeta<=3):∀n,n<=g.length->(R3 p g E n).length<=n*6600
 |0,_=>by simp[R3]
 | n + 1, hn => by
   have:=zbQ h e d n ω;have:=zgU h e d (i:=n) ω;rw[Ty,Pe,y0G];omega
def zeN {n u:Nat}(o:1<=n):(Ur n u).bits<=3*n:=by
 show(u-1) / 2^YR n u+n<=_
 have h:u<2*n*2^YR n u:=by
  unfold YR;split
  ·rename_i e
   have:=(Nat.div_eq_zero_iff).1 e;omega
  ·rename_i e
   have j:=XB (v:=u / n);have d:=(y26 ω).1 j;have l:1<=Qn (u / n):=by unfold Qn;rw[if_neg e];omega
   rw[show Qn (u / n)=Qn (u / n)-1+1 by omega,y1L,y0J _ n,y0J _ 2,<-y2d,y0J n 2] at d;exact d
 have m:(u-1) / 2^YR n u<2*n:=(y26 (y0v _)).2 ω
 omega
def zcZ (h:Tq p g E)(d:g.length<=40)(j:p.zeta<=3):(Ym p g E).length<=36000:=by
 have l:=zbQ h d j g.length (y02 _)
 have m:g.length*6600<=40*6600:=y1n _ d
 have o:(pfm p g E).size<=2900:=by
  have e:YR (g.length+1) ((R3 p g E g.length).length+1)<=30:=ZN ω;have q:=zeN (n:=g.length+1) (u:=(R3 p g E g.length).length+1) ω;have r:(g.length+1)*YR (g.length+1) ((R3 p g E g.length).length+1)<=41*30:=y1B ω e;show 12+((g.length+1)*YR (g.length+1) ((R3 p g E g.length).length+1)+7) / 8+((Ur (g.length+1) ((R3 p g E g.length).length+1)).bits+7) / 8+4*((g.length+1+63) / 64)<=2900;omega
 rw[h.len]
 unfold WQ
 omega
end
structure YF where
 p:QR
 g:List (List Nat)
 E:List (Nat×Nat)
 st:Nat
 len:Nat
 rb:Nat
 sum:Nat
 k:Nat
 x:Nat
def Td (G:YF)(Q:RE)(txt:Int->P8)(K:Nat)(X:Nat->Prop)(w:World):Prop:=∃o:StO Q txt K G.st G.len (Ym G.p G.g G.E),Vs (z81 o G.rb G.sum) G.k G.x X w
section
variable {G:YF}{Y:Nat->Prop}
def Td.sp (h:Td G Q txt K X w):Sp Q txt K (λb=>X b\/b=G.rb) w:=by obtain⟨o,h⟩:=h;exact h.inv.1
def Td.rbB (h:Td G Q txt K X w):Pm w G.rb (srC Q.s G.st G.len (Ym G.p G.g G.E).length G.sum) 202:=by obtain⟨o,h⟩:=h;exact h.inv.2.1
def Td.rbX (h:Td G Q txt K X w):¬X G.rb:=by obtain⟨o,h⟩:=h;exact h.inv.2.2
def Td.lt (h:Td G Q txt K X w):∀b,X b->b<w.heap.size:=by obtain⟨o,h⟩:=h;exact h.lt
def Td.lt1 (h:Td G Q txt K X w):∀b,(X b\/b=G.rb)->b<w.heap.size:=λb d=>d.elim (h.lt b) (λe=>by rw[e];exact h.rbB.lt)
theorem Td.zaG (h:Td G Q txt K X w):K<1000000000000:=by obtain⟨o,h⟩:=h;exact o.k
def Td.xk (h:Td G Q txt K X w):X G.k/\X G.x/\X 1/\X 2:=by obtain⟨o,h⟩:=h;exact⟨h.xk,h.xx,h.x1,h.x2⟩
theorem Td.ok (h:Td G Q txt K X w):Tq G.p G.g G.E:=by obtain⟨o,h⟩:=h;exact h.ok
theorem Td.upd (h:Td G Q txt K X w)(l:Kp S' w w')(m:∀b,S' b->¬(X b\/b=G.rb)\/(X b/\b≠G.k/\b≠G.x/\b≠1/\b≠2))(u:Sp Q' txt' K' (λb=>X b\/b=G.rb) w')(A:Q'.s=Q.s)(z:Q'.L.length=Q.L.length)(r:K'<1000000000000)(ht:∀y:Int,(G.st:Int)<=y->y<(G.st:Int)+(G.len:Int)->txt' y=txt y):Td G Q' txt' K' X w':=by
 have n:=h.rbX
 have q:=h.rbB
 obtain⟨o,h⟩:=h
 have C:=o.len
 refine⟨⟨r,by rw[z];exact o.fit,o.laid.Uw λk l=>ht _ ω ω,o.len⟩,h.re l (λj v=>?_) ⟨u,?_,n⟩⟩
 ·rcases m j v with e| e
  ·exact⟨λd=>e (.inl (d▸h.xk)),λd=>e (.inl (d▸h.xx)),λd=>e (.inl (d▸h.x1)),λd=>e (.inl (d▸h.x2))⟩
  ·exact e.2
 ·rw[A];exact l.OZ q (λe=>(m _ e).elim (λe=>e (.inr O)) (λe=>n e.1))
theorem Td.zkM (h:Td G Q txt K X w)(d:Kp S' w w')(l:∀b,S' b->¬(X b\/b=G.rb))(m:∀j,X j->Y j)(q:∀j,Y j->X j\/(w.heap.size<=j/\j<w'.heap.size))(v:Sp Q' txt' K' (λb=>Y b\/b=G.rb) w')(A:Q'.s=Q.s)(z:Q'.L.length=Q.L.length)(u:K'<1000000000000)(ht:∀y:Int,(G.st:Int)<=y->y<(G.st:Int)+(G.len:Int)->txt' y=txt y):Td G Q' txt' K' Y w':=by
 have C:=h.rbX
 have n:=h.rbB
 obtain⟨o,h⟩:=h
 have D:=o.len
 have r:(z81 (⟨u,by rw[z];exact o.fit,o.laid.Uw λk d=>ht _ ω ω,o.len⟩:StO Q' txt' K' G.st G.len (Ym G.p G.g G.E)) G.rb G.sum).inv Y w':=⟨v,by rw[A];exact d.OZ n (λe=>l _ e (.inr O)),λe=>(q _ e).elim C (λe=>by have:=n.lt;omega)⟩
 refine⟨_,⟨h.ok,d.OZ h.OZ (λe=>l _ e (.inl h.xk)),d.OZ h.ix (λe=>l _ e (.inl h.xx)),m _ h.xk,m _ h.xx,r,λj x=>?_,m _ h.x1,m _ h.x2,d.OZ h.gam (λe=>l _ e (.inl h.x1)),d.OZ h.una (λe=>l _ e (.inl h.x2))⟩⟩
 rcases q j x with e| e
 ·have:=h.lt j e;have:=d.size;omega
 ·exact e.2
def Td.grow (h:Td G Q txt K X w)(l:Ext w w')(e:∀j,Y j->X j\/(w.heap.size<=j/\j<w'.heap.size))(d:∀j,X j->Y j):Td G Q txt K Y w':=by
 obtain⟨o,h⟩:=h
 exact⟨o,h.grow l e d⟩
def Td.ext (h:Td G Q txt K X w)(e:Ext w w'):Td G Q txt K X w':=h.grow e (λj d=> .inl d) λj d=>d
def Td.own (h:Td G Q txt K X w)(e:Kp S' w w')(d:∀j,S' j->X j/\j≠G.k/\j≠G.x/\j≠1/\j≠2):Td G Q txt K X w':=by
 obtain⟨o,h⟩:=h
 exact⟨o,h.own e d⟩
theorem Td.step (h:Td G Q txt K X w)(m:Kp S' w w')(e:∀j,S' j->X j/\j≠G.k/\j≠G.x/\j≠1/\j≠2)(l:∀j,Y j->X j\/(w.heap.size<=j/\j<w'.heap.size))(d:∀j,X j->Y j):Td G Q txt K Y w':=by
 obtain⟨o,h⟩:=h
 exact⟨o,h.step m e l d⟩
def Td.less (h:Td G Q txt K Y w)(e:∀j,X j->Y j)(d:X G.k/\X G.x/\X 1/\X 2):Td G Q txt K X w:=by
 obtain⟨o,h⟩:=h
 exact⟨o,h.less e d.1 d.2.1 d.2.2.1 d.2.2.2⟩
theorem Td.more (h:Td G Q txt K X w)(j:K<=K')(d:K'<1000000000000):Td G Q txt K' X w:=h.upd (S':=λ_=>False) (Kp.refl _ w) (λ_ e=>e.elim) (h.sp.more j) O O d λ_ _ _=>rfl
def XA (h:Td G Q txt K X w):PN prog 37 [ptr G.k 0] w λv w'=>v=I (G.g.length:Int)/\w'=w:=by
 obtain⟨o,h⟩:=h
 exact zec h
def z7D {l v:Nat}(C:G.g.length<50)(A:v<G.g.length)(h:Td G Q txt K X w)(m:Pm w bk [ptr G.k 0] 28)(D:Pm w bi [I (v:Int)] 3)(Z:Nat->Prop)(z:∀j,Z j->X j)(J:(Nat->Prop)->Nat->World->Prop)(F:World->Prop)
  (n:∀(Y:Nat->Prop)(w':World),(∀j,X j->Y j)->(∀j,Y j->X j\/w.heap.size<=j)->Td G Q txt K Y w'->Kp (λj=>¬X j) w w'->J Y 0 w')
  (d:∀(Y:Nat->Prop)(i s:Nat) (w':World),(∀j,X j->Y j)->(∀j,Y j->X j\/w.heap.size<=j)->(Pa G.g v)[i]? =some s->J Y i w'->z2a prog l [PX s,I 0] w' λr e=>(r= .bool true/\J Y (i+1) e/\Kp (λj=>¬Y j\/Z j) w' e)\/(r= .bool false/\F e)):
  PN prog 152 [.func (.yield l) #[] #[],ptr bk 0,ptr bi 0] w λr w'=>r= .tuple #[]/\((∃Y,(∀j,X j->Y j)/\(∀j,Y j->X j\/w.heap.size<=j)/\J Y (Pa G.g v).length w')\/F w'):=by
 obtain⟨o,h⟩:=h
 exact z7S C A h m D Z z J F (λY w' q u x y=>n Y w' q u ⟨o,x⟩ y) d
end
theorem z9I {f:FuncId}{R:Value->World->Prop}{n:Nat}{rd:Option Nat}{dk:Bool}{k:List Item}{e:Env}{α:Type}{c:Code}(d:α)(M:α->List Dfr)(o:M d=ms)(E:α->Env)(I:α->World->Prop)(μ:α->Nat)(j:Sub (E d) e)(l:I d w)
  (round:∀x w,I x w->(∀y w',I y w'->μ y<μ x->PM ⟨P,f,R,n,rd,M y,dk⟩ (.inLoop c::k) (E y) w')->PM ⟨P,f,R,n,rd,M x,dk⟩ (.code c:: .inLoop c::k) (E x) w):PM ⟨P,f,R,n,rd,ms,dk⟩ (.code (.loop c)::k) e w:=by
 have key:∀m x w,μ x=m->I x w->PM ⟨P,f,R,n,rd,M x,dk⟩ (.code c:: .inLoop c::k) (E x) w:=by
  intro m
  induction m using Nat.strongRecOn with
  | _ m z =>
    intro x w r u;exact round x w u λy w' v h=>z1z (z (μ y) (r▸h) y w' O v)
 subst o
 exact λa q=>WS.step (λ_ _=>stepR_loop) (key _ d w O l a (q.sub j))
def Sj.kp {S:Nat->Prop}(h:Sj ms w)(m:Kp S w w')(l:∀D,.mk D∈ms->¬S D):Sj ms w':=λd e=>by
 obtain⟨D,rfl,j⟩:=h d e
 exact⟨D,O,m.heap j (l D e)⟩
theorem Sj.nil (w:World):Sj [] w:=λd e=>by cases e
theorem Sj.cons {D:Nat}(h:Sj ms w)(j:w.heap[D]? =some (.deferred (some []))):Sj (.mk D::ms) w:=λd l=>by
 rcases y0l.1 l with rfl| e
 ·exact⟨D,O,j⟩
 ·exact h d e
def z1B:∀(ms:List Dfr)(w:World),Kp (λk=> .mk k∈ms) w (T4 ms w)
 |[],w=>Kp.refl _ w
 | .mk D::ms,w=>((QW w D (.deferred none)).Pk λk e=>by rw[e];exact y0p).trans ((z1B ms _).Pk λk e=>y0s _ e)
 | .call f c a::ms,w=>(z1B ms w).Pk λk e=>y0s _ e
structure MkN (B:Nat)(ms:List Dfr)(w:World):Prop where
 nd:ms.Nodup
 m:Sj ms w
 lo:∀D,.mk D∈ms->B<=D
 hi:∀D,.mk D∈ms->D<w.heap.size
theorem MkN.nil (B:Nat)(w:World):MkN B [] w:=⟨y1J,.nil w,λ_ h=>(by cases h),λ_ h=>(by cases h)⟩
def MkN.kp {S:Nat->Prop}(h:MkN B ms w)(d:Kp S w w')(j:∀D,.mk D∈ms->¬S D):MkN B ms w':=⟨h.nd,h.m.kp d j,h.lo,λD e=>by have:=h.hi D e;have:=d.size;omega⟩
theorem MkN.cons (h:MkN B ms w)(hB:B<=w.heap.size)(d:MkN B ms w')(j:w'.heap[w.heap.size]? =some (.deferred (some [])))(l:w.heap.size<w'.heap.size):MkN B (.mk w.heap.size::ms) w':=
 ⟨y10.2 ⟨λe=>by have:=h.hi _ e;omega,h.nd⟩,d.m.cons j,λD e=>by
  rcases y0l.1 e with e| e
  ·cases e;exact hB
  ·exact h.lo D e,λD e=>by
  rcases y0l.1 e with e| e
  ·cases e;exact l
  ·exact d.hi D e⟩
def GrR (w:World)(gb go:Nat)(g:List (List Nat)):Prop:=∀(v:Nat)(l:List Nat),g[v]? =some l->∃(a:Option Addr)(c:Nat),w.cell? ⟨gb,go+v*1,none⟩=some (.slice a l.length c)/\∀(i x:Nat),l[i]? =some x->∃d lo,a=some ⟨d,lo,none⟩/\w.cell? ⟨d,lo+i*1,none⟩=some (PX x)
def Qw {a:Addr}{u:Value}(e:Ext w w')(h:w.cell? a=some u):w'.cell? a=some u:=by
 unfold World.cell? at h⊢
 cases d:w.heap[a.block]? with
 |none=>rw[d] at h;simp at h
 |some o=>rw[e.heap d id];rw[d] at h;exact h
theorem GrR.ext {go:Nat}(h:GrR w gb go g)(d:Ext w w'):GrR w' gb go g:=λv l o=>by
 obtain⟨a,c,j,m⟩:=h v l o
 refine⟨a,c,Qw d j,λi x hi=>?_⟩
 obtain⟨q,lo,e,n⟩:=m i x hi
 exact⟨q,lo,e,Qw d n⟩
theorem GrM.r {v:Value}(h:GrM w v g)(F:1<=g.length):∃gb go gc,v= .slice (some ⟨gb,go,none⟩) g.length gc/\GrR w gb go g:=by
 obtain⟨vs,y,z⟩:=h.ex
 rcases y.2 with⟨c,-,d⟩|⟨gb,go,gc,e,q⟩
 ·omega
 ·refine⟨gb,go,gc,e,λv l u=>?_⟩;obtain⟨a,c,n,D,o⟩:=z v l u;refine⟨a,c,by rw[y0c];exact q v _ n,λi x hi=>?_⟩;rcases o.2 with⟨C,-,d⟩|⟨A,lo,G,j,m⟩
  ·have:l=[]:=y0t d;rw[this] at hi;cases hi
  ·cases j;exact⟨A,lo,O,by rw[y0c];exact m i _ (by rw[y0i,hi];rfl)⟩
/-! ### Distances -/
def dI:Option Nat->Int
 |none=>-1
 |some k=>(k:Int)
def Vx (g:List (List Nat))(r t:Nat):Ds:=(List.range t).foldl (λd t=>lvl t g d) ((List.replicate g.length none).set r (some 0))
theorem z0a (g:List (List Nat))(r t:Nat):Vx g r (t+1)=lvl t g (Vx g r t):=by
 unfold Vx
 rw[y0P,y1P];rfl
theorem Uu (g:List (List Nat))(r:Nat):∀t,(Vx g r t).length=g.length
 |0=>by simp[Vx]
 |t+1=>by rw[z0a,z89,Uu g r t]
def z4t {g:List (List Nat)}(h:QJ g){r:Nat}(d:r<g.length):∀t,Lev (z0R h) r t (dF (Vx g r t))
 |0=>(BfI.new h d).lev
 |t+1=>by rw[z0a];exact zdq h (Uu g r t) (z4t h d t)
def z7q {d:Ds}{u v:Nat}(j:u<d.length)(h:dF d v=some k):dF (Uq t d u) v=some k:=by
 rw[z4N j,if_neg]
 ·exact h
 ·rintro⟨rfl,e⟩;rw[h] at e;cases e
def z0o {t:Nat}{v k:Nat}:∀(l:List Nat) {d:Ds},(∀u∈l,u<d.length)->dF d v=some k->dF (l.foldl (Uq t) d) v=some k
 |[],d,_,h=>h
 | u :: l, d, hl, h => by
   rw[y23];exact z0o l (λx e=>by rw[Wi];exact hl x (y0s _ e)) (z7q (hl u y0p) h)
def zc3 {d:Ds}{u:Nat}(e:u<d.length):(d.map λo=>I (dI o))[u]? =some (I (dI (dF d u))):=by
 rw[y0i]
 unfold dF
 rw[y03 e];rfl
theorem zgm (d:Ds)(u k:Nat):(d.map λo=>I (dI o)).set u (I (k:Int))=(d.set u (some k)).map λo=>I (dI o):=by
 rw[y2N];rfl
theorem zf6 (o:Option Nat)(t:Nat):dI o=(t:Int)↔o=some t:=by
 cases o with
 |none=>exact⟨λe=>by have e:(-1:Int)=(t:Int):=e;omega,λe=>by cases e⟩
 |some k=>exact⟨λe=>by have e:(k:Int)=(t:Int):=e;rw[show k=t by omega],λe=>by cases e;rfl⟩
def Uz (n k:Nat)(a b:Value):List Value:=(List.range n).map λi=>if i<k then a else b
theorem z5s (n:Nat)(a b:Value):Uz n 0 a b=List.replicate n b:=by
 apply y1D<;>simp[Uz]
theorem z7J (n:Nat)(a b:Value):Uz n n a b=List.replicate n a:=by
 apply y1D
 ·simp[Uz]
 ·intro i d e;have:i<n:=by simpa[Uz] using d
  simp[Uz,this]
theorem z7g (n k:Nat)(a b:Value):(Uz n k a b).set (0+k*1) a=Uz n (k+1) a b:=by
 apply y1D
 ·simp[Uz]
 ·intro j h l;simp only[Uz,List.getElem_set,List.getElem_map,List.getElem_range];by_cases e:j=k
  ·subst e;simp
  ·rw[if_neg ω];by_cases d:j<k
   ·rw[if_pos d,if_pos ω]
   ·rw[if_neg d,if_neg ω]
theorem Yk (N:QJ g){r:Nat}(hr:r<g.length){go:Nat}(hg:GrR w gb go g):PN prog 35 [.slice (some ⟨gb,go,none⟩) g.length gc,I (r:Int)] w λv w'=>∃bd,v= .slice (some ⟨bd,0,none⟩) g.length g.length/\Pm w' bd ((Vx g r g.length).map λo=>I (dI o)) 3/\w.heap.size<=bd/\Ext w w':=by
 have eF:maxLen=9223372036854775807:=rfl
 have hn:=N.n
 refine py (e:=[(0,_),(1,_)]) func35 O ntmps35 O O<|qN O<|Rq O<|RQ Vt O<|Pb O O (pmk (c:=g.length) (n:=g.length) Rp Qe O O O ω ω ω) ?_
 rintro _ w1⟨bd,rfl,⟨rY,ad,P⟩,-⟩
 refine Pq O<|OY<|Re O<|P6<|Ss (λe' w'=>e'=[(0,.slice (some ⟨gb,go,none⟩) g.length gc),(1,I (r:Int)),(5,.slice (some ⟨bd,0,none⟩) g.length g.length)]/\Pm w' bd (List.replicate g.length (I (-1))) 3/\Ext w w') ?bI<|λbI=>?cZ
 case bI =>
  rintro e' w2⟨rfl,F,M⟩;refine QG O (qV (Qc Rp Qe O O ω) (Po O (QZ Qe O O O F (by simp;omega)) ?_));rintro f⟨z,S⟩;have ah:Ext w f:=M.It S (λj e=>ω)
  replace z:Pm f bd ((Vx g r 0).map λo=>I (dI o)) 3:=by
   have e:(Vx g r 0).map (λo=>I (dI o))=(List.replicate g.length (I (-1))).set (0+r*1) (I 0):=by
    unfold Vx;rw[y09,y0c];show((List.replicate g.length none).set r (some 0)).map _=_;rw[y2N,List.map_replicate];rfl
   rw[e];exact z
  refine P4<|OY<|Re O<|P6<|RX (α:=Nat) (0) (λt=>[(0,.slice (some ⟨gb,go,none⟩) g.length gc),(5,.slice (some ⟨bd,0,none⟩) g.length g.length),(7,I (t:Int))]) (λt w'=>t<=g.length/\Pm w' bd ((Vx g r t).map λo=>I (dI o)) 3/\Ext w w') (λt=>g.length-t) ?hI ?hround
  case hI=>exact⟨y00 _,z,ah⟩
  case hround =>
   rintro t w4⟨ht,K,Q⟩ Z
   try dsimp only
   refine OY<|QG O<|RQ Vt O<|QY O<|P4<|Pn O (λY=>?_)<|λY=>?_
   ·have uI : t < g.length := by omega
    refine P5<|R0<|Re O<|P6<|RX (α:=Nat) (0) (λv=>[(0,.slice (some ⟨gb,go,none⟩) g.length gc),(5,.slice (some ⟨bd,0,none⟩) g.length g.length),(7,I (t:Int)),(8,I (v:Int))]) (λv w'=>v<=g.length/\Pm w' bd (((List.range v).foldl (z05 t g) (Vx g r t)).map λo=>I (dI o)) 3/\Ext w w') (λv=>g.length-v) ?hI ?hround
    case hI=>exact⟨y00 _,K,Q⟩
    case hround =>
     rintro v w5⟨hv,R,L⟩ H
     try dsimp only
     refine OY<|QG O<|RQ Vt O<|QY O<|P4<|Pn O (λfP=>?_)<|λfP=>?_
     ·have U : v < g.length := by omega
      have X:g[v]? =some (Pa g v):=by unfold Pa;rw[y03 U];rfl
      obtain⟨D,W⟩:∃D,(List.range v).foldl (z05 t g) (Vx g r t)=D:=⟨_,O⟩;have p:D.length=g.length:=by rw[<-W,VJ,Uu]
      have kU:(List.range (v+1)).foldl (z05 t g) (Vx g r t)=z05 t g D v:=by rw[y0P,y1P,W];rfl
      rw[W] at R;have pG:∀u∈Pa g v,u<D.length:=λu y=>by rw[p];exact Sa N v u y
      have aB:(Pa g v).length<=g.length:=N.len (y0j X);refine P5<|R0<|Re O<|P6<|RX (α:=Nat) (0) (λi=>[(0,.slice (some ⟨gb,go,none⟩) g.length gc),(5,.slice (some ⟨bd,0,none⟩) g.length g.length),(7,I (t:Int)),(8,I (v:Int)),(9,I (i:Int))]) (λi w'=>i<=(Pa g v).length/\(0<i->dF D v=some t)/\Pm w' bd ((((Pa g v).take i).foldl (Uq t) D).map λo=>I (dI o)) 3/\Ext w w') (λi=>(Pa g v).length-i) ?hI ?hround
      case hI=>exact⟨y00 _,λe=>absurd e ψ,R,L⟩
      case hround =>
       rintro i w6⟨hi,hit,x,C⟩ J;obtain⟨E,m⟩:∃E,((Pa g v).take i).foldl (Uq t) D=E:=⟨_,O⟩;have qv:E.length=g.length:=by rw[<-m,Vh,p]
       rw[m] at x;obtain⟨a,c,V,fg⟩:=hg.ext C v _ X;have MN:dF D v=some t->dF E v=some t:=λe=>by rw[<-m];exact z0o _ (λu y=>pG u (y0Z y)) e
       have oY:=zc3 (d:=E) (u:=v) ω
       have rH:w6.cell? ⟨bd,0+v*1,none⟩=some (I (dI (dF E v))):=by
        rw[x.cell,y09,y0c];exact oY
       try dsimp only
       refine OY (QG O (Ph O (qV (Qc Vt SJ O O ω) (qV (PG PS O O V) (RQ PS O ?_)))));by_cases df:i<(Pa g v).length
       ·by_cases q:dF E v=some t
        ·have MO:dI (dF E v)=(t:Int):=(zf6 _ _).2 q;obtain⟨u,y⟩:∃u,(Pa g v)[i]? =some u:=⟨_,y03 df⟩;obtain⟨lb,lo,rfl,pA⟩:=fg i u y;have mV:u<g.length:=Sa N v u (y0j y)
         have As:w6.cell? ⟨bd,0+u*1,none⟩=some (I (dI (dF E u))):=by
          rw[x.cell,y09,y0c];exact zc3 ω
         have s:dF D v=some t:=by
          by_cases G:0<i
          ·exact hit G
          ·have:i=0:=ω
           subst this;rw[<-m] at q;exact q
         have eM:((Pa g v).take (i+1)).foldl (Uq t) D=Uq t E u:=by
          rw[Qa y,y1P,m];rfl
         refine QY O (RO (PB O (Ph O (qV (Qc Rp Qe O O ω) (qV (PG U3 O O rH) (Ph O (Rx O (RO (Rr O (P4 (Pp O (P5 (R0 ?_)))))))))))));refine QG O<|Ph O<|qV (Qc Vt SJ O O ω)<|qV (PG PS O O V)<|Ph O<|qV (Qc PS Py O O ω)<|qV (PG R9 O O pA)<|qV (Qc Rp Qe O O ω)<|qV (PG U3 O O As) ?_
         cases A:dF E u with
         | none =>
           have MP:E[u]? =some none:=by
            have h1:=y03 (l:=E) (i:=u) ω;unfold dF at A;rw[h1] at A⊢;exact congrArg some A
           have b:Uq t E u=E.set u (some (t+1)):=by
            unfold Uq;rw[if_pos MP]
           rw[show dI none=-1 from rfl];refine QY O (RO (P4 (Pp O (Pc O (PB O (Ph O (qV (Qc Vt SJ O O ω) (qV (PG PS O O V) (Ph O (qV (Qc PS Py O O ω) (qV (PG R9 O O pA) (Ph O (Qj O ?_)))))))))))));refine qV (Qc Rp Qe O O ω) ?_;rw[show(t:Int)+1=((t+1:Nat):Int) by omega];refine Po O (QZ Qe O O O x (by simp;omega)) ?_;rintro w7⟨T,av⟩;rw[y09,y0c,zgm,<-b,<-eM] at T;refine P4<|An<|Ra O<|Qj O<|Pq O ?_
           exact(J (i+1) _ ⟨ω,λ_=>s,T,C.It av (λj e=>ω)⟩ ω).qb
         | some k =>
           have b:Uq t E u=E:=by
            unfold Uq;rw[if_neg];intro e;unfold dF at A;rw[e] at A;cases A
           rw[show dI (some k)=(k:Int) from rfl];refine QY O (Qb (QC O (An (Ra O (Qj O (Pq O ((J (i+1) _ ⟨ω,λ_=>s,?_,C⟩ ω).qb)))))));rw[eM,b];exact x
        ·have MO:¬dI (dF E v)=(t:Int):=λe=>q ((zf6 _ _).1 e)
         have di:i=0:=by
          by_cases G:0<i
          ·exact absurd (MN (hit G)) q
          ·omega
         subst di;have B:E=D:=m.symm;refine QY O (RO (PB O (Ph O (qV (Qc Rp Qe O O ω) (qV (PG U3 O O rH) (Ph O (Rx O (Qb (Rr O (P4 (P9 O (Pf O (An ?_)))))))))))));refine Ra O (Qj O (Pq O ((H (v+1) _ ⟨ω,?_,C⟩ ω).qb)));rw[kU];unfold z05;rw[if_neg (by rw[<-B];exact q),<-B];exact x
       ·have xt:i=(Pa g v).length:=ω
        subst xt;refine QY O<|Qb<|Ph O<|QV<|QV<|QV<|Ql O<|P4<|P9 O<|Pf O<|An<|Ra O<|Qj O<|Pq O ?_;refine(H (v+1) _ ⟨ω,?_,C⟩ ω).qb;rw[kU];unfold z05;rw[y0F] at m;by_cases q:dF D v=some t
        ·rw[if_pos q,m];exact x
        ·rw[if_neg q]
         have G:(Pa g v).length=0:=by
          rcases y0y (Pa g v).length with h| h
          ·exact h
          ·exact absurd (hit h) q
         rw[y0t G] at m;rw[show D=E from m];exact x
     ·have U:v=g.length:=ω
      subst U;refine Pf O<|An<|Ra O<|Qj O<|Pq O ?_;exact(Z (t+1) _ ⟨ω,by rw[z0a];exact R,L⟩ ω).qb
   ·have uI:t=g.length:=ω
    subst uI;refine Pf O<|PL O<|Pq O<|P3 func35 O ?_;exact⟨_,O,bd,O,K,ω,Q⟩
 case cZ=>
  rw[<-z5s g.length (I (-1))] at P;refine RX (α:=Nat) (0) (λi=>[(0,.slice (some ⟨gb,go,none⟩) g.length gc),(1,I (r:Int)),(5,.slice (some ⟨bd,0,none⟩) g.length g.length),(6,I (i:Int))]) (λi w'=>i<=g.length/\Pm w' bd (Uz g.length i (I (-1)) (I 0)) 3/\Ext w w') (λi=>g.length-i) ?hI ?hround
  case hI=>exact⟨y00 _,P,ad⟩
  case hround=>
   rintro i w2⟨hi,F,M⟩ Z
   try dsimp only
   refine OY<|QG O<|RQ Vt O<|QY O<|P4<|Pn O (λY=>?_)<|λY=>?_
   ·refine P5 (R0 (Pc O (PB O (qV (Qc Rp Qe O O ω) (Po O (QZ Qe O O O F (by simp[Uz];omega)) ?_)))));rintro f⟨z,S⟩;rw[z7g] at z;refine P4<|An<|Ra O<|Qj O<|Pq O ?_;exact(Z (i+1) _ ⟨ω,z,M.It S (λj e=>ω)⟩ ω).qb
   ·have aQ:i=g.length:=ω
    subst aQ;rw[z7J] at F;refine Pf O ?_;exact(bI _ _ ⟨O,F,M⟩).qb
structure RwM (w:World)(bg B:Nat)(L:List (List Nat)):Prop where
 ex:∃vs:List Value,Pm w bg vs 40/\vs.length=L.length/\∀(i:Nat)(l:List Nat),L[i]? =some l->∃(a:Option Addr)(c:Nat),vs[i]? =some (.slice a l.length c)/\l.length<=c/\Rd w (.slice a l.length c) 1 l.length (l.map PX)/\∀b,(Value.slice a l.length c).ownBlock=some b->B<=b/\b≠bg
section
variable {L:List (List Nat)}
theorem RwM.ext (h:RwM w bg B L)(d:Ext w w'):RwM w' bg B L:=by
 obtain⟨vs,n,o,q⟩:=h.ex
 refine⟨vs,d.OZ n,o,λi l r=>?_⟩
 obtain⟨a,c,e,j,m,g4⟩:=q i l r
 exact⟨a,c,e,j,m.ext d,g4⟩
theorem RwM.new {n:Nat}(h:Pm w bg (List.replicate n (.slice none 0 0)) 40):RwM w bg B (List.replicate n []):=
 ⟨_,h,ξ,λi l d=>by
  rw[y0T] at d;split at d
  ·rename_i hi
   cases d;exact⟨none,0,by rw[y0T,if_pos hi];rfl,y02 _,⟨rfl,.inl ⟨(none,0),rfl,rfl⟩⟩,λb e=>by cases e⟩
  ·cases d⟩
theorem RwM.set (h:RwM w bg B L){l:List Nat}{a:Option Addr}(o:Kp (λb=>b=bg) w w')(hB:∀vs,Pm w bg vs 40->Pm w' bg (vs.set (0+f*1) (.slice a l.length c)) 40)(n:f<L.length)(D:l.length<=c)(C:Rd w (.slice a l.length c) 1 l.length (l.map PX))(q:∀b,(Value.slice a l.length c).ownBlock=some b->B<=b/\b≠bg):RwM w' bg B (L.set f l):=by
 obtain⟨vs,z,m,A⟩:=h.ex
 refine⟨_,hB vs z,by simp[m],λi l' d=>?_⟩
 rw[y09,y0c]
 by_cases e:f=i
 ·subst e;rw[y0Q n] at d;cases d;exact⟨a,c,y0Q (by rw[m];exact n),D,C.kp o (λb j e=>(q b j).2 e),q⟩
 ·rw[y0A e] at d;obtain⟨r,u,v,x,y,g4⟩:=A i l' d;exact⟨r,u,by rw[y0A e];exact v,x,y.kp o (λb j e=>(g4 b j).2 e),g4⟩
theorem RwM.gr (h:RwM w bg B L):GrM w (.slice (some ⟨bg,0,none⟩) L.length L.length) L:=by
 obtain⟨vs,n,o,q⟩:=h.ex
 refine⟨vs,⟨by rw[o,y0c],.inr ⟨bg,0,L.length,rfl,λj u r=>by rw[n.cell,y09];exact r⟩⟩,λi l v=>?_⟩
 obtain⟨a,c,d,e,m,g4⟩:=q i l v
 exact⟨a,c,d,e,m⟩
def RwM.lt (h:RwM w bg B L):bg<w.heap.size:=by obtain⟨vs,d,-⟩:=h.ex;exact d.lt
theorem RwM.cell (h:RwM w bg B L){f:Nat}{l:List Nat}(o:L[f]? =some l):∃(a:Option Addr)(c:Nat),w.cell? ⟨bg,0+f*1,none⟩=some (.slice a l.length c)/\l.length<=c/\Rd w (.slice a l.length c) 1 l.length (l.map PX)/\∀b,(Value.slice a l.length c).ownBlock=some b->B<=b/\b≠bg:=by
 obtain⟨vs,m,q,n⟩:=h.ex
 obtain⟨a,c,d,e,j,g4⟩:=n f l o
 exact⟨a,c,by rw[m.cell,y09,y0c];exact d,e,j,g4⟩
def EdR (w:World)(ea:Option Addr)(es:List (Nat×Nat)):Prop:=∀(i:Nat)(e:Nat×Nat),es[i]? =some e->e.1<4294967296/\e.2<4294967296/\∃eb d,ea=some ⟨eb,d,none⟩/\w.cell? ⟨eb,d+i*2+0,none⟩=some (PX e.1)/\w.cell? ⟨eb,d+i*2+1,none⟩=some (PX e.2)
theorem EdR.ext (h:EdR w ea es)(d:Ext w w'):EdR w' ea es:=λi e r=>by
 obtain⟨l,m,eb,j,n,o,q⟩:=h i e r
 exact⟨l,m,eb,j,n,Qw d o,Qw d q⟩
end
theorem QJ.insert (h:QJ g){x:Nat}{s:List Nat}(C:g[f]? =some s)(D:x<g.length)(F:k<=s.length)(q:∀y∈s.take k,y<x)(r:∀y∈s.drop k,x<y):QJ (g.set f (s.take k++[x]++s.drop k)):=by
 have z:=y0j C
 have m:=h.ok s z
 have o:=h.lt s z
 have G:=h.n
 refine⟨λl j=>?_,λl j y d=>?_,by rw[y0x];exact h.n⟩
 ·rcases y3I j with e| e
  ·exact h.ok l e
  ·subst e;refine⟨?_,λy d=>?_⟩
   ·have A:List.Pairwise (·<·) s:=m.ris;show List.Pairwise (·<·) _;rw[y05,y32];refine⟨A.sublist (y3g _ _),?_,λa u b v=>?_⟩
    ·rw[y31,y1m];exact⟨r,A.sublist (y1o _ _)⟩
    ·rw[y31] at v;rcases y0l.1 v with e| e
     ·rw[e];exact q a u
     ·exact Nat.lt_trans (q a u) (r b e)
   ·rcases y0u.1 d with e| e
    ·rcases y0u.1 e with e| e
     ·exact m.lt y (y0Z e)
     ·rw[y0z.1 e];omega
    ·exact m.lt y (y1S e)
 ·rw[y0x];rcases y3I j with e| e
  ·exact h.lt l e y d
  ·subst e;rcases y0u.1 d with e| e
   ·rcases y0u.1 e with e| e
    ·exact o y (y0Z e)
    ·rw[y0z.1 e];exact D
   ·exact o y (y1S e)
def QJ.empty {n:Nat}(j:n<=60):QJ (List.replicate n []):=
 ⟨λl d=>by rw[y3m d];exact⟨y1p,λy h=>(by cases h)⟩,λl d y e=>(by rw[y3m d] at e;cases e),by simpa using j⟩
theorem Pm.uniq {d:List Value}{T j:TypeId}(h:Pm w b cs T)(m:Pm w b d j):cs=d:=by
 obtain⟨o,n,-⟩:=h
 obtain⟨l,e,-⟩:=m
 rw[n] at e
 have:=RZ e
 injection this with e1 e2 e3
 have:=congrArg Array.toList e1
 simpa using this
theorem z9W {n:Nat}(ci:1<=n)(hn:n<=40){ec:Nat}(ui:es.length<=9000000000000000000)(hE:EdR w ea es):PN prog 8 [I (n:Int),.slice ea es.length ec] w λv w'=>∃g bg,v= .slice (some ⟨bg,0,none⟩) g.length g.length/\g.length=n/\QJ g/\RwM w' bg w.heap.size g/\Ext w w':=by
 have eF:maxLen=9223372036854775807:=rfl
 refine py (e:=[(0,_),(1,_)]) func8 O ntmps8 O O<|qN O<|Rq O<|Pb O O (pmk (c:=n) (n:=n) Vt SJ O O O ω ω ω) ?_
 rintro _ w1⟨bg,rfl,⟨Mu,ad,aj⟩,-⟩
 have gX:RwM w1 bg w.heap.size (List.replicate n []):=RwM.new aj
 refine Pq O<|OY<|Re O<|P6<|RX (α:=Nat×List (List Nat)) (0,List.replicate n []) (λy=>[(0,I (n:Int)),(1,.slice ea es.length ec),(5,.slice (some ⟨bg,0,none⟩) n n),(6,I (y.1:Int))]) (λy w'=>y.1<=es.length/\y.2.length=n/\QJ y.2/\RwM w' bg w.heap.size y.2/\Ext w w') (λy=>es.length-y.1) ?hI ?hround
 case hI=>exact⟨y00 _,ξ,QJ.empty ω,gX,ad⟩
 case hround =>
  rintro⟨i,g⟩ w2 ⟨hi,B,t,cC,ae⟩ ih;dsimp only at hi B t cC ae ih⊢
  try dsimp only
  refine OY<|QG O<|RQ U22 O<|QY O<|P4<|Pn O (λhq=>?_)<|λhq=>?_
  ·have df : i < es.length := by omega
   obtain⟨e,he⟩:∃e,es[i]? =some e:=⟨_,y03 df⟩;obtain⟨P,Q,eb,eo,rfl,eD,fg⟩:=(hE.ext ae) i e he;refine P5 (R0 (OY (QG O (qV (Qc U22 z6b O O ω) (Pr z77 O (qV (PG R9 O O eD) (qV (Q8 O R9 U3 ω) (Ph O ?_))))))));by_cases hf:e.1<n
   ·by_cases ht:e.2<n
    ·refine Uj O (Qb (PB O (Ph O (qV (Qc U22 z6b O O ω) (Pr z29 O (qV (PG R9 O O fg) (qV (Q8 O R9 U3 ω) (Ph O (Uj O (Qb ?_))))))))));obtain⟨s,hs⟩:∃s,g[e.1]? =some s:=⟨_,y03 ω⟩;obtain⟨a,c,ge,pe,eE,OH⟩:=cC.cell hs;have fR:s.length<=n:=by rw[<-B];exact t.len (y0j hs)
     refine Ql O (QC O (QG O (Ph O (qV (Qc U22 z6b O O ω) (Pr z77 O (qV (PG R9 O O eD) (qV (Qc Vt SJ O O ω) (qV (PG PS O O ge) (Ro O (Pq O (R0 ?_)))))))))));have uJ:List.Pairwise (·<·) s:=(t.ok s (y0j hs)).ris
     have MQ:∀(k y:Nat),s[k]? =some y->∀z∈s.drop k,y<=z:=λk y H z V=>by
      have ly:k<s.length:=by
       rcases y0a k s.length with h| h
       ·exact h
       ·rw[y0e h] at H;cases H
      have h1:List.Pairwise (·<·) (s.drop k):=uJ.sublist (y1o _ _);rw[y2r ly] at h1 V;rw[y03 ly] at H;cases H;rcases y0l.1 V with e| e
      ·omega
      ·exact Nat.le_of_lt ((y1m.1 h1).1 z e)
     refine Ss (λL w'=>∃k:Nat,L=[(0,I (n:Int)),(1,.slice (some ⟨eb,eo,none⟩) es.length ec),(5,.slice (some ⟨bg,0,none⟩) n n),(6,I (i:Int)),(7,.slice a s.length c),(8,I (k:Int))]/\k<=s.length/\(∀y∈s.take k,y<e.2)/\(∀y,s[k]? =some y->e.2<=y)/\Ext w2 w') ?eL<|λeL=>?Gm
     case eL =>
      rintro L w3⟨k,rfl,U,kB,dX,W⟩;have m:=Ext.Pz w3;have uY:=eE.ext W;have uZ:=Qw W fg;refine OY<|Qf (λL w'=>∃q,L=[(0,I (n:Int)),(1,.slice (some ⟨eb,eo,none⟩) es.length ec),(5,.slice (some ⟨bg,0,none⟩) n n),(6,I (i:Int)),(7,.slice a s.length c),(8,I (k:Int)),(76,.bool q)]/\(q=true->∀y∈s.drop k,e.2<y)/\Ext w2 w') ?dM<|λdM=>?kE
      case dM =>
       rintro L M⟨q,rfl,uL,ay⟩;have ep:=cC.ext ay;have mA:=eE.ext ay;have Gi:=Qw ay eD;have Gj:=Qw ay fg;have bV:=ae.trans ay;refine QF O (λC3=>?_)<|λC3=>?_
       ·have d:=Ext.Pz M;have r:=d.size;have IF:w.heap.size<=M.heap.size:=bV.size;have MR:=ep.lt
        have oB:((s.take k++[e.2])++s.drop k).length=s.length+1:=by
         rw[Pe,Pe,y0d,y07,y0S];omega
        have T:∀(l:List Nat),∀c∈l.map PX,c.oneCell'=true:=λl c u=>by obtain⟨z,-,rfl⟩:=y0h.1 u;rfl
        have mZ:(s.take k).length=k:=by rw[y0d];omega
        have xq:(s.drop k).length=s.length-k:=y07 ..;obtain⟨vs,mB,lB,-⟩:=id ep.ex;refine PC [23] (λw'=>Ext M w') Pd O (Qm 0 O O d (Qm 1 O O d (Qm 2 O O d (PH 3 O (Qc U22 z6b O O ω) d (PH 4 O (PU z77 O) d (Qm 7 O O d (Qm 8 O O d (Qm 11 O O d (Qm 12 O O d (PH 13 O (Qc U22 z6b O O ω) d (PH 14 O (PU z29 O) d (Qm 18 O O d (Qm 19 O O d ?_)))))))))))));refine qL 5 O (λ_ h=>PG R9 O O (Qw h Gi)) d<|PH 9 O (zef PS Py O O ω) d<|qL 15 O (λ_ h=>PG R9 O O (Qw h Gj)) d<|PH 20 O (Zr PS Py O O U pe) d<|Y3 (i:=6) (j:=16) Pd ?_ ?_
        ·refine QQ (i:=6) O O O (YD (cs:=[]) (zs:=[]) PS Py O Pd O O O ψ) ?_;rintro v6 w6⟨b6,rfl,⟨oT,K,aJ⟩,E⟩;refine⟨d.trans K,?_⟩;have Gk:M.heap.size<=b6:=ω
         have a9:=aJ.lt;have d:=d.trans K
         try have N:=N.ext K
         have r:=y0b r K.size;refine Y3 (i:=10) (j:=16) Pd ?_ ?_
         ·refine QQ (i:=10) O O O (pap PS Py O ψ O O E ((VC (i:=k) mA U).ext d) (λc u=>T s c (y0Z u)) ω ω) ?_;rintro J a3⟨S,R,D,-⟩;refine⟨d.It R (λj e=>by have e:b6=j:=RZ e;omega),?_⟩;have d:=d.It R (λj e=>by have e:b6=j:=RZ e;omega)
          try have N:=N.kp R (λj o e=>by have e:b6=j:=RZ e;have o:C=j:=RZ o;omega)
          have D:∀j,J.ownBlock=some j->M.heap.size<=j:=λj o=>by rcases D j o with e|e;(have e:b6=j:=RZ e;omega);omega
          have r:=y0b r R.size;have At:=λ(j:Nat) (o:J.ownBlock=some j)=>S.lt o;refine Ry (i:=16) Pd (QQ (i:=16) O O O (YD (cs:=[_]) (zs:=[Value.int .u32 0]) PS Py O Pd O O O ψ) ?_);rintro a1 a4⟨C,rfl,⟨vd,A,iR⟩,N⟩;refine⟨d.trans A,?_⟩;have Au:M.heap.size<=C:=ω
          have d:=d.trans A
          try have E:=E.ext A
          try have S:=S.ext A
          have a0:=iR.lt;have r:=y0b r A.size;refine Ry (i:=17) Pd (QQ (i:=17) O O O (pap PS Py O ψ O O S N.rd (λc u=>T [e.2] c u) ω ω) ?_);rintro b a5⟨iy,Y,F,-⟩;refine⟨d.It Y (λj e=>D j e),?_⟩;have d:=d.It Y (λj e=>D j e);have F:∀j,b.ownBlock=some j->M.heap.size<=j:=λj o=>by rcases F j o with e|e;exact D j e;omega
          have r:=y0b r Y.size;refine Ry (i:=21) Pd (QQ (i:=21) O O O (pap PS Py O ψ O O iy ((Uh (i:=k) mA U pe).ext d) (λc u=>T s c (y1S u)) ω ω) ?_);rintro p a6⟨G,jv,Z,-⟩;refine⟨d.It jv (λj e=>F j e),?_⟩;have d:=d.It jv (λj e=>F j e);have Z:∀j,p.ownBlock=some j->M.heap.size<=j:=λj o=>by rcases Z j o with e|e;exact F j e;omega
          refine PH 22 O (Qc Vt SJ O O ω) d ?_;have jw:=d.OZ mB;refine TV [23] (qO 23 (Q0 (i:=23) O O (QZ SJ O O (WB G) jw (by rw[lB];omega)) ?_));rintro a7⟨cP,X⟩;refine⟨trivial,?_⟩;refine qE<|An<|Ra O<|Qj O<|Pq O ?_;rw[show 0+k+1+(s.length-k)=(s.take k++[e.2]++s.drop k).length by rw[oB];omega,show([]++List.take k (s.map PX)++[PX e.2]++List.drop k (s.map PX))=(s.take k++[e.2]++s.drop k).map PX by simp[y1k,y1T]] at G;obtain⟨ra,rc,rfl,-⟩:=G.rd.shape
          have Aw:(s.take k++[e.2]++s.drop k).length<=rc:=by
           rcases G.shape with⟨P,Q⟩|⟨gg,cc,P,Q⟩
           ·omega
           ·cases P;exact Q
          have oC:=(ep.ext d).set X (f:=e.1) (l:=s.take k++[e.2]++s.drop k) (a:=ra) (c:=rc) (λa2 h'=>by rw[Pm.uniq h' jw];exact cP) ω Aw G.rd (λj o=>by have:=Z j o;omega);have oD:=t.insert hs (x:=e.2) (k:=k) ω U kB (uL C3);exact(ih (i+1,g.set e.1 (s.take k++[e.2]++s.drop k)) _ ⟨ω,by rw[y0x];exact B,oD,oC,(bV.trans d).It X (λj e=>ω)⟩ ω).qb
         ·refine QQ (i:=16) O O O (YD (cs:=[_]) (zs:=[Value.int .u32 0]) PS Py O Pd O O O ψ) ?_;rintro a1 a4⟨C,rfl,⟨vd,A,iR⟩,N⟩;refine⟨d.trans A,?_⟩;have Au:M.heap.size<=C:=ω
          have d:=d.trans A
          try have E:=E.ext A
          try have S:=S.ext A
          have a0:=iR.lt;have r:=y0b r A.size;refine Ry (i:=10) Pd (QQ (i:=10) O O O (pap PS Py O ψ O O E ((VC (i:=k) mA U).ext d) (λc u=>T s c (y0Z u)) ω ω) ?_);rintro J a3⟨S,R,D,-⟩;refine⟨d.It R (λj e=>by have e:b6=j:=RZ e;omega),?_⟩;have d:=d.It R (λj e=>by have e:b6=j:=RZ e;omega)
          try have N:=N.kp R (λj o e=>by have e:b6=j:=RZ e;have o:C=j:=RZ o;omega)
          have D:∀j,J.ownBlock=some j->M.heap.size<=j:=λj o=>by rcases D j o with e|e;(have e:b6=j:=RZ e;omega);omega
          have r:=y0b r R.size;have At:=λ(j:Nat) (o:J.ownBlock=some j)=>S.lt o;refine Ry (i:=17) Pd (QQ (i:=17) O O O (pap PS Py O ψ O O S N.rd (λc u=>T [e.2] c u) ω ω) ?_);rintro b a5⟨iy,Y,F,-⟩;refine⟨d.It Y (λj e=>D j e),?_⟩;have d:=d.It Y (λj e=>D j e);have F:∀j,b.ownBlock=some j->M.heap.size<=j:=λj o=>by rcases F j o with e|e;exact D j e;omega
          have r:=y0b r Y.size;refine Ry (i:=21) Pd (QQ (i:=21) O O O (pap PS Py O ψ O O iy ((Uh (i:=k) mA U pe).ext d) (λc u=>T s c (y1S u)) ω ω) ?_);rintro p a6⟨G,jv,Z,-⟩;refine⟨d.It jv (λj e=>F j e),?_⟩;have d:=d.It jv (λj e=>F j e);have Z:∀j,p.ownBlock=some j->M.heap.size<=j:=λj o=>by rcases Z j o with e|e;exact F j e;omega
          refine PH 22 O (Qc Vt SJ O O ω) d ?_;have jw:=d.OZ mB;refine TV [23] (qO 23 (Q0 (i:=23) O O (QZ SJ O O (WB G) jw (by rw[lB];omega)) ?_));rintro a7⟨cP,X⟩;refine⟨trivial,?_⟩;refine qE<|An<|Ra O<|Qj O<|Pq O ?_;rw[show 0+k+1+(s.length-k)=(s.take k++[e.2]++s.drop k).length by rw[oB];omega,show([]++List.take k (s.map PX)++[PX e.2]++List.drop k (s.map PX))=(s.take k++[e.2]++s.drop k).map PX by simp[y1k,y1T]] at G;obtain⟨ra,rc,rfl,-⟩:=G.rd.shape
          have Aw:(s.take k++[e.2]++s.drop k).length<=rc:=by
           rcases G.shape with⟨P,Q⟩|⟨gg,cc,P,Q⟩
           ·omega
           ·cases P;exact Q
          have oC:=(ep.ext d).set X (f:=e.1) (l:=s.take k++[e.2]++s.drop k) (a:=ra) (c:=rc) (λa2 h'=>by rw[Pm.uniq h' jw];exact cP) ω Aw G.rd (λj o=>by have:=Z j o;omega);have oD:=t.insert hs (x:=e.2) (k:=k) ω U kB (uL C3);exact(ih (i+1,g.set e.1 (s.take k++[e.2]++s.drop k)) _ ⟨ω,by rw[y0x];exact B,oD,oC,(bV.trans d).It X (λj e=>ω)⟩ ω).qb
        ·refine QQ (i:=16) O O O (YD (cs:=[_]) (zs:=[Value.int .u32 0]) PS Py O Pd O O O ψ) ?_;rintro a1 a4⟨C,rfl,⟨vd,A,iR⟩,N⟩;refine⟨d.trans A,?_⟩;have Au:M.heap.size<=C:=ω
         have d:=d.trans A
         try have E:=E.ext A
         try have S:=S.ext A
         have a0:=iR.lt;have r:=y0b r A.size;refine Ry (i:=6) Pd (QQ (i:=6) O O O (YD (cs:=[]) (zs:=[]) PS Py O Pd O O O ψ) ?_);rintro v6 w6⟨b6,rfl,⟨oT,K,aJ⟩,E⟩;refine⟨d.trans K,?_⟩;have Gk:M.heap.size<=b6:=ω
         have a9:=aJ.lt;have d:=d.trans K
         try have N:=N.ext K
         have r:=y0b r K.size;refine Ry (i:=10) Pd (QQ (i:=10) O O O (pap PS Py O ψ O O E ((VC (i:=k) mA U).ext d) (λc u=>T s c (y0Z u)) ω ω) ?_);rintro J a3⟨S,R,D,-⟩;refine⟨d.It R (λj e=>by have e:b6=j:=RZ e;omega),?_⟩;have d:=d.It R (λj e=>by have e:b6=j:=RZ e;omega)
         try have N:=N.kp R (λj o e=>by have e:b6=j:=RZ e;have o:C=j:=RZ o;omega)
         have D:∀j,J.ownBlock=some j->M.heap.size<=j:=λj o=>by rcases D j o with e|e;(have e:b6=j:=RZ e;omega);omega
         have r:=y0b r R.size;have At:=λ(j:Nat) (o:J.ownBlock=some j)=>S.lt o;refine Ry (i:=17) Pd (QQ (i:=17) O O O (pap PS Py O ψ O O S N.rd (λc u=>T [e.2] c u) ω ω) ?_);rintro b a5⟨iy,Y,F,-⟩;refine⟨d.It Y (λj e=>D j e),?_⟩;have d:=d.It Y (λj e=>D j e);have F:∀j,b.ownBlock=some j->M.heap.size<=j:=λj o=>by rcases F j o with e|e;exact D j e;omega
         have r:=y0b r Y.size;refine Ry (i:=21) Pd (QQ (i:=21) O O O (pap PS Py O ψ O O iy ((Uh (i:=k) mA U pe).ext d) (λc u=>T s c (y1S u)) ω ω) ?_);rintro p a6⟨G,jv,Z,-⟩;refine⟨d.It jv (λj e=>F j e),?_⟩;have d:=d.It jv (λj e=>F j e);have Z:∀j,p.ownBlock=some j->M.heap.size<=j:=λj o=>by rcases Z j o with e|e;exact F j e;omega
         refine PH 22 O (Qc Vt SJ O O ω) d ?_;have jw:=d.OZ mB;refine TV [23] (qO 23 (Q0 (i:=23) O O (QZ SJ O O (WB G) jw (by rw[lB];omega)) ?_));rintro a7⟨cP,X⟩;refine⟨trivial,?_⟩;refine qE<|An<|Ra O<|Qj O<|Pq O ?_;rw[show 0+k+1+(s.length-k)=(s.take k++[e.2]++s.drop k).length by rw[oB];omega,show([]++List.take k (s.map PX)++[PX e.2]++List.drop k (s.map PX))=(s.take k++[e.2]++s.drop k).map PX by simp[y1k,y1T]] at G;obtain⟨ra,rc,rfl,-⟩:=G.rd.shape
         have Aw:(s.take k++[e.2]++s.drop k).length<=rc:=by
          rcases G.shape with⟨P,Q⟩|⟨gg,cc,P,Q⟩
          ·omega
          ·cases P;exact Q
         have oC:=(ep.ext d).set X (f:=e.1) (l:=s.take k++[e.2]++s.drop k) (a:=ra) (c:=rc) (λa2 h'=>by rw[Pm.uniq h' jw];exact cP) ω Aw G.rd (λj o=>by have:=Z j o;omega);have oD:=t.insert hs (x:=e.2) (k:=k) ω U kB (uL C3);exact(ih (i+1,g.set e.1 (s.take k++[e.2]++s.drop k)) _ ⟨ω,by rw[y0x];exact B,oD,oC,(bV.trans d).It X (λj e=>ω)⟩ ω).qb
       ·refine P5<|An<|Ra O<|Qj O<|Pq O ?_;exact(ih (i+1,g) _ ⟨ω,B,t,ep,bV⟩ ω).qb
      case kE=>
       refine RI (λw'=>Ext w3 w') O<|Pu 0 O O m<|Pu 1 O O m<|P7 2 O (T7 PS O) m ?_;by_cases jG:k=s.length
       ·refine P7 3 O (yeq O O) m<|TW<|Pu 4 O O m<|qJ 5 O m<|qJ 6 O m<|qJ 7 O m<|qJ 8 O m<|qJ 9 O m<|qJ 10 O m<|qJ 11 O m<|qJ 12 O m<|qJ 13 O m<|qJ 14 O m<|P7 15 O (Ux O O) m ?_;refine qE ?_;exact(dM _ _ ⟨true,O,λ_ y H=>(by rw[jG,List.drop_length] at H;cases H),W.trans m⟩).qb
       ·obtain⟨y,H⟩:∃y,s[k]? =some y:=⟨_,y03 ω⟩;rcases uY.2 with⟨⟨ca,cc⟩,ig,wP⟩|⟨lb,lo,cap,ig,ff⟩
        ·omega
        cases ig;have Gl:w3.cell? ⟨lb,lo+k*1,none⟩=some (PX y):=ff (k*1) _ (by rw[y0c,y0i,H];rfl);refine P7 3 O (yeq O O) m (TJ (Pu 4 O O (m) (Pu 5 O O (m) (Pu 6 O O (m) (P7 7 O (Qc PS Py O O ω) m (Pu 9 O O (m) (Pu 10 O O (m) (P7 11 O (Qc U22 z6b O O ω) m (P7 12 O (PU z29 O) m (qT 8 O (λ_ h=>PG R9 O O (Qw h Gl)) m (qT 13 O (λ_ h=>PG R9 O O (Qw h uZ)) m ?_)))))))))));have Ax:=dX y H;by_cases HT:y=e.2
        ·refine P7 14 O (yne O O) m<|TJ<|P7 15 O (U0 O O) m<|qE ?_;exact(dM _ _ ⟨false,O,λe=>(by cases e),W.trans m⟩).qb
        ·refine P7 14 O (yne O O) m<|TW<|P7 15 O (U0 O O) m<|qE ?_;exact(dM _ _ ⟨true,O,λ_ z V=>(by have:=MQ k y H z V;omega),W.trans m⟩).qb
     case Gm=>
      refine RX (α:=Nat) (0) (λk=>[(0,I (n:Int)),(1,.slice (some ⟨eb,eo,none⟩) es.length ec),(5,.slice (some ⟨bg,0,none⟩) n n),(6,I (i:Int)),(7,.slice a s.length c),(8,I (k:Int))]) (λk w'=>k<=s.length/\(∀y∈s.take k,y<e.2)/\Ext w2 w') (λk=>s.length-k) ?hI ?hround
      case hI=>exact⟨y00 _,λy H=>(by simp at H),Ext.refl _⟩
      case hround=>
       rintro k w3⟨U,kB,W⟩ a8;have m:=Ext.Pz w3;have uY:=eE.ext W;have uZ:=Qw W fg
       try dsimp only
       refine OY<|OY<|RI (λw'=>Ext w3 w') O<|Pu 0 O O m<|Pu 1 O O m<|P7 2 O (T7 PS O) m ?_;by_cases ly:k<s.length
       ·obtain⟨y,H⟩:∃y,s[k]? =some y:=⟨_,y03 ly⟩;rcases uY.2 with⟨⟨ca,cc⟩,ig,wP⟩|⟨lb,lo,cap,ig,ff⟩
        ·omega
        cases ig;have Gl:w3.cell? ⟨lb,lo+k*1,none⟩=some (PX y):=ff (k*1) _ (by rw[y0c,y0i,H];rfl);refine P7 3 O (ZQ O O) m (TW (Pu 4 O O (m) (Pu 5 O O (m) (Pu 6 O O (m) (P7 7 O (Qc PS Py O O ω) m (Pu 9 O O (m) (Pu 10 O O (m) (P7 11 O (Qc U22 z6b O O ω) m (P7 12 O (PU z29 O) m (qT 8 O (λ_ h=>PG R9 O O (Qw h Gl)) m (qT 13 O (λ_ h=>PG R9 O O (Qw h uZ)) m ?_)))))))))));by_cases Ax:y<e.2
        ·refine P7 14 O (ZQ O O) m (TW (P7 15 O (Ux O O) m (qE (Pp O (P5 (P6 (Ra O (Qj O (Pq O (An ((a8 (k+1) _ ⟨ω,λz V=>?_,W.trans m⟩ ω).qb)))))))))));rw[Qa H] at V;rcases y0u.1 V with L|L
         ·exact kB z L
         ·rw[y0z.1 L];exact Ax
        ·refine P7 14 O (ZQ O O) m<|TJ<|P7 15 O (Ux O O) m<|qE<|P9 O<|Pf O ?_;exact(eL _ _ ⟨k,O,U,kB,λz V=>(by rw[H] at V;cases V;omega),W.trans m⟩).qb
       ·refine P7 3 O (ZQ O O) m<|TJ<|Pu 4 O O m<|qJ 5 O m<|qJ 6 O m<|qJ 7 O m<|qJ 8 O m<|qJ 9 O m<|qJ 10 O m<|qJ 11 O m<|qJ 12 O m<|qJ 13 O m<|qJ 14 O m<|P7 15 O (U0 O O) m ?_;refine qE<|P9 O<|Pf O ?_;exact(eL _ _ ⟨k,O,U,kB,λz V=>(by rw[y0e ω] at V;cases V),W.trans m⟩).qb
    ·refine Uj O (Qb (PB O (Ph O (qV (Qc U22 z6b O O ω) (Pr z29 O (qV (PG R9 O O fg) (qV (Q8 O R9 U3 ω) (Ph O (Uj O (RO (Ql O (P4 (Pp O ?_)))))))))))));refine Pf O<|Ra O<|Qj O<|Pq O ?_;exact(ih (i+1,g) _ ⟨ω,B,t,cC,ae⟩ ω).qb
   ·refine Uj O<|RO<|Ph O<|QV<|QV<|QV<|QV<|Rr O<|P4<|Pp O<|Pf O<|Ra O<|Qj O<|Pq O ?_;exact(ih (i+1,g) _ ⟨ω,B,t,cC,ae⟩ ω).qb
  ·refine Pf O<|PL O<|Pq O<|P3 func8 O ?_;exact⟨_,O,g,bg,by rw[B];rfl,B,t,cC,ae⟩
def W8 (g:List (List Nat))(v i u:Nat):List Nat:=(List.range v).filter (λx=>decide (u∈Pa g x))++(if u∈(Pa g v).take i then [v] else [])
def Vg (g:List (List Nat))(v i:Nat):List (List Nat):=(List.range g.length).map (W8 g v i)
def QO (g:List (List Nat)):List (List Nat):=Vg g g.length 0
def z6C (g:List (List Nat))(v u:Nat):W8 g v (Pa g v).length u=W8 g (v+1) 0 u:=by
 unfold W8
 rw[y0F,y0P,y3y]
 by_cases h:u∈Pa g v<;>simp[h]
theorem TL (g:List (List Nat))(v i:Nat):(Vg g v i).length=g.length:=by simp[Vg]
theorem Wa (g:List (List Nat))(v i:Nat){u:Nat}(d:u<g.length):(Vg g v i)[u]? =some (W8 g v i u):=by
 unfold Vg
 rw[y0i,y1i d];rfl
def z9u (g:List (List Nat))(v i u:Nat):(W8 g v i u).length<=v+1:=by
 unfold W8
 have d:=y2V (λx=>decide (u∈Pa g x)) (List.range v)
 rw[y14] at d
 rw[Pe]
 split<;>simp<;>omega
theorem zay (l:QJ g){v u:Nat}(d:(Pa g v)[i]? =some u):(Vg g v i).set u (W8 g v i u++[v])=Vg g v (i+1):=by
 have q:=Sa l v u (y0j d)
 have r:u∉(Pa g v).take i:=λh=>by
  have m:v<g.length:=by
   rcases y0a v g.length with h| h
   ·exact h
   ·unfold Pa at d;rw[y0e h] at d;cases d
  have z:List.Pairwise (·<·) (Pa g v):=by
   unfold Pa;rw[y03 m];exact(l.ok _ (y1d m)).ris
  have y:=Qa d;have n:List.Pairwise (·<·) ((Pa g v).take (i+1)):=z.sublist (y3g _ _);rw[y,y32] at n;have:=n.2.2 u h u y0p;omega
 apply y0K
 intro x
 by_cases j:u=x
 ·subst j;rw[y0Q (by rw[TL];exact q),Wa _ _ _ q]
  congr 1
  unfold W8;rw[if_neg r,y0o,Qa d,if_pos ξ]
 ·rw[y0A j];by_cases o:x<g.length
  ·rw[Wa _ _ _ o,Wa _ _ _ o]
   congr 1
   unfold W8
   congr 1
   rw[Qa d]
   have:x∈(Pa g v).take i++[u]↔x∈(Pa g v).take i:=by
    rw[y0u,y0z];exact⟨λe=>e.resolve_right λe=>j e.symm,.inl⟩
   simp only[this]
  ·rw[y0e (by rw[TL];omega),y0e (by rw[TL];omega)]
theorem z0k (g:List (List Nat)){u:Nat}(d:u<g.length):(QO g)[u]? =some ((List.range g.length).filter λx=>decide (u∈Pa g x)):=by
 unfold QO
 rw[Wa _ _ _ d]
 unfold W8
 rw[y2B,if_neg ξ,y0o]
theorem Sn (g:List (List Nat)):(QO g).length=g.length:=TL _ _ _
def zbV (h:QJ g):QJ (QO g):=by
 have q:=Sn g
 have m:∀l∈QO g,∃u,l=(List.range g.length).filter λx=>decide (u∈Pa g x):=λl d=>by
  obtain⟨u,e⟩:=y39 d
  have o:u<g.length:=by
   rcases y0a u g.length with h| h
   ·exact h
   ·rw[y0e ω] at e;cases e
  rw[z0k g o] at e;exact⟨u,(RZ e).symm⟩
 have r:=h.n
 refine⟨λl d=>?_,λl d y j=>?_,ω⟩
 ·obtain⟨u,rfl⟩:=m l d;exact⟨(List.pairwise_lt_range).sublist y1Z,λy j=>by have:=y0H.1 (y1a.1 j).1;omega⟩
 ·obtain⟨u,rfl⟩:=m l d;have:=y0H.1 (y1a.1 j).1;omega
structure RwA (w:World)(bg B:Nat)(L:List (List Nat)):Prop where
 ex:∃vs:List Value,Pm w bg vs 40/\vs.length=L.length/\(∀(i:Nat)(l:List Nat),L[i]? =some l->∃v:Value,vs[i]? =some v/\Sl w v 42 1 l.length (l.map PX)/\∀b,v.ownBlock=some b->B<=b/\b≠bg)/\∀(i j:Nat)(vi vj:Value) (b:Nat),i≠j->vs[i]? =some vi->vs[j]? =some vj->vi.ownBlock=some b->vj.ownBlock≠some b
section
variable {L:List (List Nat)}
theorem RwA.new {n:Nat}(h:Pm w bg (List.replicate n (.slice none 0 0)) 40):RwA w bg B (List.replicate n []):=by
 refine⟨_,h,ξ,λi l e=>?_,λi j m o b _ hi _ d=>?_⟩
 ·rw[y0T] at e;split at e
  ·rename_i hi
   cases e;exact⟨.slice none 0 0,by rw[y0T,if_pos hi],Sl.nil w _ 1,λb d=>by cases d⟩
  ·cases e
 ·have:=y0j hi;rw[y3m this] at d;cases d
theorem RwA.rw (h:RwA w bg B L):RwM w bg B L:=by
 obtain⟨vs,o,q,r,x⟩:=h.ex
 refine⟨vs,o,q,λi l u=>?_⟩
 obtain⟨v,m,d,n⟩:=r i l u
 obtain⟨a,c,rfl,-⟩:=d.rd.shape
 refine⟨a,c,m,?_,d.rd,n⟩
 rcases d.shape with⟨e,j⟩|⟨gg,cc,e,j⟩
 ·omega
 ·cases e;exact j
theorem RwA.put {w2:World}(h:RwA w bg B L){u:Nat}{l l':List Nat}{v x:Value}{vs:List Value}(s:Pm w bg vs 40)(J:L[u]? =some l)(F:vs[u]? =some v)(p:Kp (λb=>v.ownBlock=some b) w w')(k:Sl w' x 42 1 l'.length (l'.map PX))(I:∀b,x.ownBlock=some b->v.ownBlock=some b\/w.heap.size<=b)(S:Kp (λb=>b=bg) w' w2)(hB:Pm w2 bg (vs.set (0+u*1) x) 40)(Q:B<=w.heap.size):RwA w2 bg B (L.set u l'):=by
 obtain⟨y,Y,q,H,C⟩:=h.ex
 have c:=Y.uniq s
 subst c
 rw[y09,y0c] at hB
 obtain⟨P,W,K,g⟩:=H u l J
 rw[F] at W
 cases W
 have E:=Y.lt
 have G:u<L.length:=by
  rcases y0a u L.length with h| h
  ·exact h
  ·rw[y0e h] at J;cases J
 have O:∀b,x.ownBlock=some b->B<=b/\b≠bg:=λb d=>by
  rcases I b d with e| e
  ·exact g b e
  ·omega
 have R:∀(j:Nat)(n:Value) (b:Nat),y[j]? =some n->n.ownBlock=some b->b<w.heap.size:=λj n b m d=>by
  obtain⟨N,a⟩:∃N,L[j]? =some N:=⟨_,y03 (by
   rw[<-q];rcases y0a j y.length with h| h
   ·exact h
   ·rw[y0e h] at m;cases m)⟩
  obtain⟨t,r,M,-⟩:=H j N a;rw[m] at r;cases r;exact M.lt d
 refine⟨_,hB,by simp[q],λi li D=>?_,λi j o n b A hi m d=>?_⟩
 ·by_cases e:u=i
  ·subst e;rw[y0Q G] at D;cases D;exact⟨x,y0Q (by rw[q];exact G),k.kp S (λb d e=>(O b d).2 e),O⟩
  ·rw[y0A e] at D;obtain⟨o,r,M,Z⟩:=H i li D;exact⟨o,by rw[y0A e];exact r,(M.kp p (λb d f=>C u i v o b e F r f d)).kp S (λb d e=>(Z b d).2 e),Z⟩
 ·by_cases U:u=i
  ·subst U;rw[y0Q (by rw[q];exact G)] at hi;cases hi;rw[y0A A] at m;intro z;rcases I b d with e| e
   ·exact C u j v n b A F m e z
   ·have:=R j n b m z;omega
  ·rw[y0A U] at hi;by_cases V:u=j
   ·subst V;rw[y0Q (by rw[q];exact G)] at m;cases m;intro z;rcases I b z with e| e
    ·exact C i u o v b A hi F d e
    ·have:=R i o b hi d;omega
   ·rw[y0A V] at m;exact C i j o n b A hi m d
end
theorem z6p (r:QJ g){go:Nat}(hg:GrR w gb go g):PN prog 22 [.slice (some ⟨gb,go,none⟩) g.length gc] w λv w'=>∃j,v= .slice (some ⟨j,0,none⟩) g.length g.length/\RwM w' j w.heap.size (QO g)/\Ext w w':=by
 have eF:maxLen=9223372036854775807:=rfl
 have hn:=r.n
 refine py (e:=[(0,_)]) func22 O ntmps22 O O<|qN O<|Rq O<|RQ Vt O<|Pb O O (pmk (c:=g.length) (n:=g.length) Vt SJ O O O ω ω ω) ?_
 rintro _ w1⟨j,rfl,⟨pq,B,E⟩,-⟩
 have gX:RwA w1 j w.heap.size (Vg g 0 0):=by
  have e:Vg g 0 0=List.replicate g.length []:=by
   apply y1D<;>simp[Vg,W8]
  rw[e];exact RwA.new E
 refine Pq O<|OY<|Re O<|P6<|RX (α:=Nat) (0) (λv=>[(0,.slice (some ⟨gb,go,none⟩) g.length gc),(3,.slice (some ⟨j,0,none⟩) g.length g.length),(4,I (v:Int))]) (λv w'=>v<=g.length/\RwA w' j w.heap.size (Vg g v 0)/\Ext w w') (λv=>g.length-v) ?hI ?hround
 case hI=>exact⟨y00 _,gX,B⟩
 case hround =>
  rintro v w2⟨hv,W,U⟩ ih
  try dsimp only
  refine OY<|QG O<|RQ Vt O<|QY O<|P4<|Pn O (λhq=>?_)<|λhq=>?_
  ·have A:v<g.length:=ω
   have Y:g[v]? =some (Pa g v):=by unfold Pa;rw[y03 A];rfl
   have fR:(Pa g v).length<=g.length:=r.len (y0j Y);refine P5<|R0<|Re O<|P6<|RX (α:=Nat) (0) (λi=>[(0,.slice (some ⟨gb,go,none⟩) g.length gc),(3,.slice (some ⟨j,0,none⟩) g.length g.length),(4,I (v:Int)),(5,I (i:Int))]) (λi w'=>i<=(Pa g v).length/\RwA w' j w.heap.size (Vg g v i)/\Ext w w') (λi=>(Pa g v).length-i) ?hI ?hround
   case hI=>exact⟨y00 _,W,U⟩
   case hround=>
    rintro i q⟨hi,D,l⟩ J;obtain⟨a,c,C,X⟩:=hg v _ Y;have d:=Ext.Pz q
    try dsimp only
    refine OY<|QG O<|Ph O<|qV (Qc Vt SJ O O ω)<|qV (PG PS O O (Qw l C))<|RQ PS O<|QY O<|P4<|Pn O (λT=>?_)<|λT=>?_
    ·obtain⟨u,H⟩:∃u,(Pa g v)[i]? =some u:=⟨_,y03 ω⟩;obtain⟨lb,lo,rfl,k⟩:=X i u H;have mV:u<g.length:=Sa r v u (y0j H);have R:=Wa g v i mV;have jV:=z9u g v i u;obtain⟨vs,M,lB,Q,Ay⟩:=id D.ex;obtain⟨o,N,s,rg⟩:=Q u _ R
     have p:∀{w':World},Kp (λb=>o.ownBlock=some b) q w'->w'.cell? ⟨j,0+u*1,none⟩=some o:=λG=>by
      rw[(G.OZ M (λe=>(rg _ e).2 O)).cell,y09,y0c];exact N
     have z3:=l.size;refine P5<|R0 ?_;have x:∀{w':World},Kp (λb=>o.ownBlock=some b) q w'->Ext w w':=λG=>l.It G (λb e=>(rg b e).1);refine PC [23] (λw'=>Kp (λb=>o.ownBlock=some b) q w') Pd O (Qm 0 O O d.kp (Qm 1 O O d.kp (Qm 2 O O d.kp (PH 3 O (Qc Vt SJ O O ω) d.kp (Qm 5 O O d.kp (Qm 8 O O d.kp (Qm 9 O O d.kp (Qm 10 O O d.kp (PH 11 O (Qc Vt SJ O O ω) d.kp (Qm 13 O O d.kp (Qm 18 O O d.kp (PH 19 O (z5R O U3 R9) d.kp (qL 4 O (λ_ h=>PG PS O O (Qw (x h) C)) d.kp ?_)))))))))))));refine qL 12 O (λ_ h=>PG PS O O (Qw (x h) C)) d.kp (PH 6 O (Qc PS Py O O ω) d.kp (PH 14 O (Qc PS Py O O ω) d.kp (qL 7 O (λ_ h=>PG R9 O O (Qw (x h) k)) d.kp (qL 15 O (λ_ h=>PG R9 O O (Qw (x h) k)) d.kp (PH 16 O (Qc Vt SJ O O ω) d.kp (qL 17 O (λ_ h=>PG PS O O (p h)) d.kp ?_))))));rw[y0g (show v<4294967296 by omega)];refine Ry (i:=20) Pd (QQ (i:=20) O O O (YD (cs:=[_]) (zs:=[Value.int .u32 0]) PS Py O Pd O O O ψ) ?_);rintro v4 w4⟨b4,rfl,⟨g7,V,aF⟩,P⟩;refine⟨d.kp.trans V.kp,?_⟩;have m:=d.trans V;refine Ry (i:=21) Pd (QQ (i:=21) O O O (pap PS Py O ψ O O (s.ext m) P.rd (λc hc=>by obtain⟨z,-,rfl⟩:=y0h.1 (show c∈[v].map PX from hc);rfl) ω ω) ?_);rintro v5 w5⟨f,y,pZ,-⟩;refine⟨m.kp.trans y,?_⟩;have F:Kp (λb=>o.ownBlock=some b) q w5:=m.kp.trans y;have a0:=m.size;have vf:=F.OZ M (λe=>(rg _ e).2 O);refine PH 22 O (Qc Vt SJ O O ω) (m.kp.trans y) (TV [23] (qO 23 (Q0 (i:=23) O O (QZ SJ O O (WB f) vf (by rw[lB,TL];omega)) ?_)));rintro w6⟨t,S⟩;refine⟨trivial,?_⟩;have Z:=D.put (l':=W8 g v i u++[v]) M R N F (by rw[Pe,y0f];exact f) (λb hb=>(pZ b hb).imp id λe=>ω) S t z3;rw[zay r H] at Z;refine qE<|An<|Ra O<|Qj O<|Pq O ?_;exact(J (i+1) _ ⟨ω,Z,(l.It F (λb e=>(rg b e).1)).It S (λb e=>ω)⟩ ω).qb
    ·have K:i=(Pa g v).length:=ω
     subst K;refine Pf O<|An<|Ra O<|Qj O<|Pq O ?_
     have e:Vg g v (Pa g v).length=Vg g (v+1) 0:=by
      unfold Vg;exact y0O λu _=>z6C g v u
     exact(ih (v+1) _ ⟨ω,by rw[<-e];exact D,l⟩ ω).qb
  ·have A:v=g.length:=ω
   subst A;refine Pf O<|PL O<|Pq O<|P3 func22 O ?_;exact⟨_,O,j,O,W.rw,U⟩
def z3v (z:Int)(d:JIq z)(w:World):PN prog 9 [I z] w λv w'=>∃n:Nat,v=I (n:Int)/\1<=n/\n<=40/\w'=w:=by
 have h:=Vn z 40 ψ
 have j:=XD z 40 ψ
 refine py (e:=[(0,_)]) func9 O ntmps9 O O<|qN O<|Rq O<|qV (yrt O O ψ)<|Qj O<|qV (yrt O O ψ) ?_
 rw[show(z.tmod 40+40).tmod 40=nrm z 40 from rfl]
 refine Qj O<|Pq O<|P3 func9 O ?_
 exact⟨_,O,(1+nrm z 40).toNat,by rw[Int.toNat_of_nonneg ω];rfl,ω,ω,rfl⟩
def z9b:QR:=⟨7,3,3,3,64⟩
def z9i:QR:=⟨0,0,2,1,64⟩
def z8n:QR:=⟨2,1,4,2,3⟩
theorem z54 (z:Int)(C:JIq z)(w:World):PN prog 34 [I z] w λv w'=>∃p:QR,v=bpV p/\p.R1/\p.zeta<=3/\Ext w w':=by
 have F:=Vn z 3 ψ
 have G:=XD z 3 ψ
 refine py (e:=[(0,_)]) func34 O ntmps34 O O<|qN O<|Pb O O (S5 (cs:=[_,_,_,_,_]) S8 O) ?_
 rintro _ w1⟨b2,rfl,y,m,r⟩
 refine qM O<|qV (T3 (cs:=[_,_,_,_,_]) S8 O zds O O)<|qV (T3 (cs:=[_,_,_,_,_]) S8 O zds O O)<|qV (T3 (cs:=[_,_,_,_,_]) S8 O zds O O)<|Pb O O (YD (cs:=[_,_,_,_,_,_,_,_,_,_,_,_,_,_,_]) (zs:=[Value.int .i64 0,Value.int .i64 0,Value.int .i64 0,Value.int .i64 0,Value.int .i64 0,Value.int .i64 0,Value.int .i64 0,Value.int .i64 0,Value.int .i64 0,Value.int .i64 0,Value.int .i64 0,Value.int .i64 0,Value.int .i64 0,Value.int .i64 0,Value.int .i64 0]) zeo S8 O Pd O O O ψ) ?_
 rintro _ w2⟨b3,rfl,⟨A,l,o⟩,-⟩
 refine Ph O<|qV (yrt O O ψ)<|Qj O<|qV (yrt O O ψ) ?_
 rw[show(z.tmod 3+3).tmod 3=nrm z 3 from rfl]
 have q:=l.OZ r
 have x:nrm z 3=((0:Nat):Int)\/nrm z 3=((1:Nat):Int)\/nrm z 3=((2:Nat):Int):=ω
 have D:=r.lt
 rcases x with e|e| e
 ·rw[e];refine qV (Qc zeo S8 O O ω) (qV (PO (news:=VW z9b) Ys O S8 O (Pm.cells (i:=0+0*5) (n:=5) o O) O) (Po O (Qh (news:=VW z9b) S8 O O O O q ξ) ?_));rintro u⟨d,h⟩;refine P4<|PK func34 (.cell Ys O S8 O (Pm.cells (n:=5) d (news:=[_,_,_,_,_]) O) O .nil) ?_;exact⟨_,O,z9b,O,by unfold QR.R1 Sr.R1 z9b QR.list;decide,ψ,(m.trans l).It h (λj e=>ω)⟩
 ·rw[e];refine qV (Qc zeo S8 O O ω) (qV (PO (news:=VW z9i) Ys O S8 O (Pm.cells (i:=0+1*5) (n:=5) o O) O) (Po O (Qh (news:=VW z9i) S8 O O O O q ξ) ?_));rintro u⟨d,h⟩;refine P4<|PK func34 (.cell Ys O S8 O (Pm.cells (n:=5) d (news:=[_,_,_,_,_]) O) O .nil) ?_;exact⟨_,O,z9i,O,by unfold QR.R1 Sr.R1 z9i QR.list;decide,ψ,(m.trans l).It h (λj e=>ω)⟩
 ·rw[e];refine qV (Qc zeo S8 O O ω) (qV (PO (news:=VW z8n) Ys O S8 O (Pm.cells (i:=0+2*5) (n:=5) o O) O) (Po O (Qh (news:=VW z8n) S8 O O O O q ξ) ?_));rintro u⟨d,h⟩;refine P4<|PK func34 (.cell Ys O S8 O (Pm.cells (n:=5) d (news:=[_,_,_,_,_]) O) O .nil) ?_;exact⟨_,O,z8n,O,by unfold QR.R1 Sr.R1 z8n QR.list;decide,ψ,(m.trans l).It h (λj e=>ω)⟩
theorem z63 (h:Sp Q txt K X w):PN prog 29 [ptr Q.s 0] w λv w'=>∃a b c d e:Value,v= .agg #[a,b,c,d,e,I 0,I 0]/\Ext w w':=by
 obtain⟨P,A,Z,N,f⟩:=h
 rw[<-N.s]
 have hB:=A.cells
 refine py (e:=[(0,_)]) func29 O ntmps29 O O<|qN O<|Pb O O (S5 (cs:=[_,_,_,_,_,_,_]) z2F O) ?_
 rintro _ w1⟨b2,rfl,W,o,y⟩
 have V:=o.OZ hB
 refine P4<|Qi O<|qV (Qz XZ O O)<|QC O<|PL O<|PQ O<|Pr Ww O<|qV (PO (news:=[I (P.fr:Int),I P.h,I P.mi,I P.wr,I 0,I 0,I 0]) U76 O z2F O (Pm.cells (i:=4) (n:=7) V O) O)<|Pb O O (S5 (cs:=[_,_,_,_,_,_,_]) z2F O) ?_
 rintro _ w2⟨b3,rfl,Y,x,G⟩
 refine Po O (Qh (news:=[I (P.fr:Int),I P.h,I P.mi,I P.wr,I 0,I 0,I 0]) z2F O O O O G ξ) ?_
 rintro C⟨q,H⟩
 replace q:Pm C b3 [I (P.fr:Int),I P.h,I P.mi,I P.wr,I 0,I 0,I 0] 76:=q
 have u:Ext w1 C:=x.It H (λj e=>ω)
 have r:=o.trans u
 have R:=r.OZ hB
 have S:=A.mp.ext r
 have M:=u.OZ y
 have p:=o.size
 have t:=x.size
 have g:=y.lt
 refine qM O<|Ph O<|PQ O<|Pr VB O<|qV (Pl Xd O O R O)<|qV (zky Xd O S.l)<|Pr zgv O<|Po O (QZ Qe O O O q ξ) ?_
 rintro U⟨m,z⟩
 have J:=z.OZ M ω
 replace m:Pm U b3 [I (P.fr:Int),I P.h,I P.mi,I P.wr,I ((Uy P.l).length:Int),I 0,I 0] 76:=m
 refine qM O<|qV (PO (news:=[I (P.fr:Int),I P.h,I P.mi,I P.wr,I ((Uy P.l).length:Int),I 0,I 0]) U76 O z2F O (Pm.cells (i:=0) (n:=7) m O) O)<|Po O (Qh (news:=[I (P.fr:Int),I P.h,I P.mi,I P.wr,I ((Uy P.l).length:Int),I 0,I 0]) z2F O O O O J ξ) ?_
 rintro k⟨D,F⟩
 refine P4<|PK func29 (.cell U76 O z2F O (Pm.cells (n:=7) D (news:=[_,_,_,_,_,_,_]) O) O .nil) ?_
 exact⟨_,O,_,_,_,_,_,O,(r.It z (λj e=>ω)).It F (λj e=>ω)⟩
theorem SN {s n:Nat}{b:Bool}(h:s+n<=L.length)(i:Nat):(Qr L s n b)[i]? =if s<=i/\i<s+n then some b else L[i]? :=by
 unfold Qr
 have e:(L.take s).length=s:=by rw[y0d];omega
 by_cases d:i<s
 ·rw[if_neg ω,y0C ω,y3H d]
 ·rw[y0W ω,e];by_cases j:i<s+n
  ·rw[if_pos ω,y0C (by rw[y08];omega),y0T,if_pos ω]
  ·rw[if_neg ω,y0W (by rw[y08];omega),y08,y1O]
   congr 1
   omega
theorem z1x {n:Nat}(h:Pre L a)(d:a+n<=L.length):Pre (Qr L a n true) (a+n):=by
 have l:=h.a2
 refine⟨ω,by rw[QE d];exact d,λi j e=>?_,λi j e=>?_⟩
 ·rw[SN d];split
  ·rfl
  ·exact h.tk i j ω
 ·rw[QE d] at e;rw[SN d,if_neg ω];exact h.fr i ω e
theorem z9R {n:Nat}(h:Pre L a)(d:a+n<=L.length):Qr (Qr L a n true) a n false=L:=by
 have e:=QE (b:=true) d
 have j:=QE (b:=false) (L:=Qr L a n true) (s:=a) (n:=n) ω
 apply y0K
 intro i
 rw[SN ω,SN d]
 by_cases hi:a<=i/\i<a+n
 ·rw[if_pos hi];exact(h.fr i hi.1 ω).symm
 ·rw[if_neg hi,if_neg hi]
theorem z5m (hP:Sp Q txt K X w)(V:∀b,X b->b<w.heap.size)(hK:K<=90000000000)(x1:X 1)(x2:X 2)(hG:Pm w 1 (SI .gamma) 314)(hU:Pm w 2 (SI .unary) 314)(au:QJ g)(bj:1<=g.length)(ia:g.length<=40)(jI:GrM w (.slice ga g.length gc) g)(hp:p.R1)(hz:p.zeta<=3)(ha:Pre Q.L a)(eT:a+72<=Q.L.length):
  PN prog 33 [ptr Q.s 0,.slice ga g.length gc,bpV p] w λv w'=>∃(G:YF)(txt':Int->P8),v= .tuple #[ptr G.k 0,.bool true]/\G.g=g/\G.st=a/\G.len<=72/\1<=G.len/\(w.heap.size<=G.k/\w.heap.size<=G.x/\w.heap.size<=G.rb)/\Td G (Q.Qq (Qr Q.L a G.len true)) txt' (K+200) (λj=>X j\/j=G.x\/j=G.k) w'/\(∀y:Int,y<(a:Int)\/(a:Int)+(G.len:Int)<=y->txt' y=txt y)/\Kp (λb=>¬X b) w w':=by
 have eB:=hP.n
 refine py (e:=[(0,_),(1,_),(2,_)]) func33 O ntmps33 O O<|qN O<|Pb O O (RP O (cs:=VW p) O) ?_
 rintro _ w1⟨bp,rfl,MT,H,rR⟩
 refine SO O<|Rq O<|qV (PO (news:=VW p) Ys O S8 O (Pm.cells (i:=0) (n:=5) rR O) O)<|Px zkW O (z83 hp au bj (jI.ext H) (H.OZ hG) (H.OZ hU)) ?_
 rintro _ w2⟨E,MU,rfl,ae⟩
 have f:Tq p g E:=⟨hp,au,bj,MU⟩
 have MV:=zcZ f ia hz
 obtain⟨T,hT⟩:∃T,Ym p g E=T:=⟨_,O⟩
 rw[hT] at MV⊢
 have u:=H.trans ae
 have fA:=hP.ext' u
 refine Ph O<|Ta O<|QS O<|Qi O<|R5 O<|QC O<|PL O<|Px z4W O fA.size ?_
 rintro _ w2⟨rfl,rfl⟩
 refine Ph O<|qV (WW U9 O)<|Px zlj O (z44 T.length ω _) ?_
 rintro _ w2⟨rfl,rfl⟩
 obtain⟨N,hN⟩:∃N,(T.length+523) / 512=N:=⟨_,O⟩
 rw[hN]
 have m:1<=N/\N<=72/\T.length<=N*512-12:=ω
 refine Ph O<|Ta O<|QS O<|PM.qb (e:=[(0,_),(6,_),(7,_),(8,_),(9,_),(10,_)]) ?_
 refine Qi O<|R5 O ?_
 have fQ:∀b,X b->b<w2.heap.size:=λb q=>by have:=V b q;have:=u.size;omega
 refine QC O<|QG O<|Px zib O (fA.take fQ ha m.1 ω) ?_
 rintro _ w3⟨rfl,gV,aq⟩
 have fM:(Qr Q.L a N true).length=Q.L.length:=QE ω
 obtain⟨o,D⟩:∃o,Q.Qq (Qr Q.L a N true)=o:=⟨_,O⟩
 rw[D] at gV
 have xP:o.s=Q.s:=by rw[<-D];rfl
 have OI:o.L.length=Q.L.length:=by rw[<-D];exact fM
 rw[<-xP]
 have z3:=aq.size
 have pf:∀b,X b->b<w3.heap.size:=λb q=>by have:=fQ b q;omega
 refine Ph O<|Ta O<|Pb O O (S5 (cs:=[_,_]) Rw O) ?_
 rintro _ w4⟨z,rfl,EP,ay,f7⟩
 refine Po O (Qh (news:=[I (a:Int),I (N:Int)]) Rw O O O O f7 ξ) ?_
 rintro Z⟨A,ai⟩
 replace A:Pm Z z [I (a:Int),I (N:Int)] 124:=A
 have R:Ext w3 Z:=ay.It ai (λj e=>ω)
 refine Pq O<|Qi O<|R5 O ?_
 have iX:Sp o txt K (λb=>X b\/b=z) Z:=gV.ext R (λb e=>e.imp id λe=>ω)
 refine QC O<|PL O<|qV (PO (news:=[I (a:Int),I (N:Int)]) VU O Rw O (Pm.cells (i:=0) (n:=2) A O) O)<|Px zl3 O (z3J iX m.1 ω) ?_
 rintro _ M⟨wb,bs,bx,bw,sum,rfl,hH,r,⟨a4,a5,a6,a7⟩,F⟩
 have z5:=R.size
 have z6:=F.size
 have a1:=A.lt
 obtain⟨h,C⟩:∃h:Nat->Prop,(λb=>X b\/b=z\/b=wb\/b=bs\/b=bx\/b=bw)=h:=⟨_,O⟩
 have f9:∀b,X b->h b:=λb q=>by rw[<-C];exact .inl q
 have P:h wb/\h bs/\h bx/\h bw:=by rw[<-C];exact⟨.inr (.inr (.inl O)),.inr (.inr (.inr (.inl O))),.inr (.inr (.inr (.inr (.inl O)))),.inr (.inr (.inr (.inr (.inr O))))⟩
 have Gq:h z:=by rw[<-C];exact .inr (.inl O)
 have ox:Sp o txt K h M:=iX.ext F (λb e=>by
  rw[<-C] at e;rcases e with e|e| e
  ·exact .inl (.inl e)
  ·exact .inl (.inr e)
  ·exact .inr ω)
 have l1:=r.wr.lt
 have l2:=r.sb.lt
 have l3:=r.xb.lt
 have l4:=r.pb.lt
 have J:∀b,h b->b<M.heap.size:=λb e=>by
  rw[<-C] at e;rcases e with e| e
  ·have:=pf b e;omega
  ·omega
 have Gs:z≠wb:=ω
 refine Ph O<|Ta O<|QS O<|Qi O<|R5 O<|PB O<|Ph O<|Px zl8 O (z61 ox J ω r hH P ω m.1 m.2.2) ?_
 rintro _ w7⟨rfl,l,sK,a0,rest,Ao,iu,gZ,Gt,Gu,av,tr⟩
 have z7:=av.size
 refine R5 O<|Ql O<|PB O<|Px zlb O (z4Z Ao (λb e=>by have:=J b e;omega) ω iu sK P ω hN.symm (by rw[show T.length%512=T.length-512*(T.length / 512) by omega];exact gZ) (λb q e=>by have:=J b e;have:=tr b q;omega) Gt) ?_
 rintro _ w8⟨rfl,d,pi,Gv,Gw,Gx,t⟩
 have z8:=t.size
 have pJ:Kp (λb=>¬h b\/b=wb) M w8:=av.trans t
 have vg:=pJ.OZ (F.OZ A) (λe=>e.elim (λe=>e Gq) Gs)
 refine R5 O<|Ql O<|P4<|PM.qb (e:=[(0,_),(6,_),(7,_),(9,_),(11,_),(59,_)]) ?_
 refine Tj O<|PL O<|qV (PO (news:=[I (a:Int),I (N:Int)]) VU O Rw O (Pm.cells (i:=0) (n:=2) vg O) O)<|Px zl4 O (z6I pi (λb e=>by have:=J b e;omega) ω m.1 ω m.2.2 sK Gw) ?_
 rintro _ w9⟨rb,rfl,c,If,wU,B⟩
 have z9:=B.size
 have a2:=c.lt
 have hL:Laid d a T:=Laid.of λk hk=>⟨wU.z1w ω ω,Gv k hk⟩
 subst hT
 have U:StO o d (K+(Ym p g E).length / 512+2) a N (Ym p g E):=⟨ω,ω,hL,ω⟩
 have tC:Kp (λb=>¬X b) w M:=(u.kp.trans aq).trans (R.trans F).kp
 have j9:Kp (λb=>¬X b) w w8:=tC.It pJ λb e=>by
  rcases e with e| e
  ·exact .inr λS=>e (f9 b S)
  ·exact .inl (by have:=u.size;omega)
 have Y:Kp (λb=>¬X b) w w9:=j9.trans (B.Pk λb e S=>e (f9 b S))
 have z2:=u.size
 have uV:¬X rb:=λe=>by have:=V rb e;omega
 have hI:(z81 U rb l).inv X w9:=⟨wU.less (λb e=>e.imp (f9 b) id),c,uV⟩
 refine Ph O<|Ta O<|QS O<|Qi O<|R5 O<|QC O<|PL O<|Px zlL O (z6P f U hI (λb e=>by have:=V b e;omega) x1 x2 (Y.OZ hG (λe=>e x1)) (Y.OZ hU (λe=>e x2))) ?_
 rintro _ a3⟨k,x,rfl,Fz,lE,MW,aC⟩
 refine Ph O<|Ta O<|SO O<|Ro O<|PB O<|Rx O<|RO<|PB O<|qV (z4x U28 O O)<|Rr O<|QS O<|PM.qb (e:=[(6,_),(7,_)]) ?_
 refine P3 func33 O (⟨_,O,⟨p,g,E,a,N,rb,l,k,x⟩,d,O,O,O,m.2.1,m.1,⟨by show w.heap.size<=k;omega,by show w.heap.size<=x;omega,by show w.heap.size<=rb;omega⟩,?_,λy W=>?_,Y.trans aC⟩)
 ·rw[D];exact Td.more (G:=⟨p,g,E,a,N,rb,l,k,x⟩) ⟨U,MW⟩ ω ω
 ·show d y=txt y;have W:y<(a:Int)\/(a:Int)+(N:Int)<=y:=W;rw[Gx y W,Gu y ω]
structure Wd where
 d:Nat
 Q:RE
 txt:Int->P8
 K:Nat
 G:YF
 T:YF
 a:Nat
def Wd.v (W:Wd):List Value:=[ptr W.d 0,ptr W.Q.s 0,ptr W.G.k 0,ptr W.T.k 0,I ((200-W.a:Nat):Int)]
structure WdM (W:Wd)(g:List (List Nat))(XX:Nat->Prop)(w:World):Prop where
 hg:Td W.G W.Q W.txt W.K (λb=>XX b/\b≠W.G.rb) w
 ht:Td W.T W.Q W.txt W.K (λb=>XX b/\b≠W.T.rb) w
 gg:W.G.g=g
 tg:W.T.g=QO g
 pre:Pre W.Q.L W.a
 a:W.a<=146
 L:W.Q.L.length=200
 K:W.K<=400
 gs:W.G.st+W.G.len<=W.T.st
 ts:W.T.st+W.T.len<=W.a
 rb:XX W.G.rb/\XX W.T.rb/\W.G.rb≠W.T.rb/\W.T.rb≠W.G.k/\W.T.rb≠W.G.x/\W.G.rb≠W.T.k/\W.G.rb≠W.T.x
theorem zcQ (au:QJ g)(bj:1<=g.length)(ia:g.length<=40)(jI:GrM w (.slice ga g.length gc) g)(hG:Pm w 1 (SI .gamma) 314)(hU:Pm w 2 (SI .unary) 314)(fr fo:Int)(jD:JIq fr)(vh:JIq fo):
  PN prog 10 [.slice ga g.length gc,I fr,I fo] w λv w'=>∃(W:Wd)(C:Nat->Prop),v= .tuple #[.agg W.v.toArray,.bool true]/\WdM W g C w'/\Ext w w'/\(∀b,b<w.heap.size->C b/\b≠W.G.rb/\b≠W.T.rb)/\w.heap.size<=W.G.k/\w.heap.size<=W.G.x/\w.heap.size<=W.T.k/\w.heap.size<=W.T.x:=by
 have r1:=Vn fr 12 ψ
 have r2:=XD fr 12 ψ
 have l1:=hG.lt
 have l2:=hU.lt
 refine py (e:=[(0,_),(1,_),(2,_)]) func10 O ntmps10 O O<|qN O<|Pb O O (S5 (cs:=[_,_,_,_,_]) z2D O) ?_
 rintro _ w1⟨bW,rfl,OJ,ad,J8⟩
 have z1:=ad.size
 have lW:=J8.lt
 refine Ro O<|qV (T3 (cs:=[_,_]) zcW O zlU O O)<|Px zlO O (zdu 200 1 _ (by unfold z0q;decide)) ?_
 rintro _ w2⟨d,Fd,rfl,hD,ae,MX⟩
 refine Ph O<|Ta O<|SO O<|Ro O<|Px zkV O (z9C 200 ψ _) ?_
 rintro _ w3⟨m,gi,rfl,hE,hm,uj,t⟩
 have z2:=ae.size
 have z3:=t.size
 have MY:=hD.ext t
 refine Ph O<|Ta O<|SO O<|Ro O<|PB O<|qV (yrt O O ψ)<|Qj O<|qV (yrt O O ψ) ?_
 rw[show(fr.tmod 12+12).tmod 12=nrm fr 12 from rfl]
 obtain⟨S,MZ,Gy,N0⟩:∃S:Nat,1+nrm fr 12=(S:Int)/\1<=S/\S<=12:=⟨(1+nrm fr 12).toNat,ω,ω,ω⟩
 refine Qj O ?_
 rw[MZ]
 have Q:(List.replicate 200 false).length=200:=y08
 have N1:¬Fd m/\¬Fd gi:=⟨λe=>by have:=hD.lt _ e;omega,λe=>by have:=hD.lt _ e;omega⟩
 refine Ph O<|Px zlP O (zaF (L:=List.replicate 200 false) (by rw[Q];exact MY) hE N1 S Gy ω) ?_
 rintro _ w4⟨P,rfl,hM,hI,N2,N3,J9,N4,ay⟩
 have z4:=ay.size
 have bV:Ext w w4:=((ad.trans ae).trans t).trans ay
 have Gz:=((ae.trans t).trans ay).OZ J8
 obtain⟨X,hX⟩:∃X:Nat->Prop,(λb=>b<w.heap.size\/b=bW)=X:=⟨_,O⟩
 have GA:∀b,X b->b<w1.heap.size:=λb e=>by rw[<-hX] at e;omega
 have u:∀b,b<w.heap.size->X b:=λb e=>by rw[<-hX];exact .inl e
 have a:X bW:=by rw[<-hX];exact .inr O
 have jF:Sp P (λ_=>zeros 512) 0 X w4:=⟨P,hM,hI,⟨rfl,rfl,rfl,rfl,rfl,rfl,rfl,rfl,rfl⟩,λb hb e=>by
  have:=GA b e;rcases N4 b hb with e|e|e| e
  ·have:=MX b e;omega
  ·omega
  ·omega
  ·omega⟩
 have dx:Pre P.L 2:=by
  rw[J9];exact⟨y02 _,by rw[Q];omega,λi h1 N=>ω,λi h1 N=>by rw[Q] at N;rw[y0T,if_pos N]⟩
 have OK:P.L.length=200:=by rw[J9,Q]
 refine Ph O<|Ta O<|QS O<|PM.qb (e:=[(0,_),(2,_),(6,_),(7,_),(8,_),(9,_),(10,_),(11,_),(12,_),(13,_)]) ?_
 refine Qi O<|R5 O<|Qb<|PB O<|R5 O<|Qb<|Ql O<|PB O<|R5 O<|Qb<|Ql O<|PB O<|qV (Qz XZ O O)<|Ql O ?_
 refine QC O<|QG O<|Ph O<|Px zj4 O (z54 fo vh _) ?_
 rintro _ w5⟨p1,rfl,D2,mY,p⟩
 have z5:=p.size
 have E:=bV.trans p
 have N5:∀b,X b->b<w5.heap.size:=λb e=>by have:=GA b e;omega
 refine Px zj1 O (z5m (jF.ext' p) N5 ω (u 1 l1) (u 2 l2) (E.OZ hG) (E.OZ hU) au bj ia (jI.ext E) D2 mY dx ω) ?_
 rintro _ w6⟨G,V,rfl,N6,OL,OM,N7,⟨n1,n2,n3⟩,dD,C6,aG⟩
 have iF:Ext w w6:=E.It aG (λb e=>by
  rcases y0a b w.heap.size with h| h
  ·exact absurd (u b h) e
  ·exact h)
 have z6:=aG.size
 have GB:=aG.OZ (p.OZ Gz) (λe=>e a)
 have Gk:(Qr P.L 2 G.len true).length=P.L.length:=QE ω
 have oF:Pre (Qr P.L 2 G.len true) (2+G.len):=z1x dx ω
 obtain⟨l,GC⟩:∃l,P.Qq (Qr P.L 2 G.len true)=l:=⟨_,O⟩
 have GD:l.L=Qr P.L 2 G.len true:=by rw[<-GC];rfl
 have vm:l.s=P.s/\l.d=P.d/\l.m=P.m:=by rw[<-GC];exact⟨O,O,O⟩
 rw[GC] at dD
 rw[<-GD] at Gk oF
 obtain⟨gb,go,a0,lK,N8⟩:=jI.r bj
 cases lK
 refine Ph O<|Ta O<|QS O<|PM.qb (e:=[(0,_),(2,_),(6,_),(7,_),(8,_),(10,_),(12,_),(14,_),(15,_)]) ?_
 refine QG O<|Px zl2 O (z6p au (N8.ext iF)) ?_
 rintro _ w7⟨bt,rfl,N9,K⟩
 have jT:=iF.trans K
 have z7:=K.size
 have aU:=dD.ext K
 have jV:=Sn g
 refine Ph O<|qV (zbx O O) ?_
 obtain⟨M,AC⟩:∃z,IntKind.i64.wrap (fo+1)=z:=⟨_,O⟩
 have AD:JIq M:=by
  rw[<-AC,y3b];omega
 rw[AC]
 refine Px zj4 O (z54 M AD _) ?_
 rintro _ w8⟨p2,rfl,tI,na,J⟩
 have z8:=J.size
 have D:=aU.ext J
 have vp:=jT.trans J
 obtain⟨F,A⟩:∃F:Nat->Prop,(λb=>(X b\/b=G.x\/b=G.k)\/b=G.rb)=F:=⟨_,O⟩
 have R:∀b,X b->F b:=λb e=>by rw[<-A];exact .inl (.inl e)
 have pi:Sp l V (0+200) F w8:=by rw[<-A];exact D.sp
 have GE:∀b,F b->b<w8.heap.size:=λb e=>D.lt1 b (by rw[<-A] at e;exact e)
 have GF:GrM w8 (.slice (some ⟨bt,0,none⟩) (QO g).length (QO g).length) (QO g):=(N9.ext J).gr
 have nt:=z5m pi GE ω (R _ (u 1 l1)) (R _ (u 2 l2)) (vp.OZ hG) (vp.OZ hU) (zbV au) ω ω GF tI na oF ω
 rw[vm.1,jV] at nt
 refine Px zj1 O nt ?_
 rintro _ w9⟨T,o,rfl,Na,ON,GG,Nb,⟨t1,t2,t3⟩,H,GH,f⟩
 have z9:=f.size
 have gJ:Ext w w9:=vp.It f (λb e=>by
  rcases y0a b w.heap.size with h| h
  ·exact absurd (R b (u b h)) e
  ·exact h)
 have GI:=f.OZ ((K.trans J).OZ GB) (λe=>e (R _ a))
 have Ja:(Qr l.L (2+G.len) T.len true).length=l.L.length:=QE ω
 have oG:Pre (Qr l.L (2+G.len) T.len true) (2+G.len+T.len):=z1x oF ω
 obtain⟨q,GJ⟩:∃q,l.Qq (Qr l.L (2+G.len) T.len true)=q:=⟨_,O⟩
 have GK:q.L=Qr l.L (2+G.len) T.len true:=by rw[<-GJ];rfl
 have vt:q.s=l.s/\q.d=l.d/\q.m=l.m:=by rw[<-GJ];exact⟨O,O,O⟩
 rw[GJ] at H
 rw[<-GK] at Ja oG
 have AE:=H.sp
 have vw:=H.lt1
 have Nc:Td G q o (0+200+200) (λb=>(X b\/b=G.x\/b=G.k)\/b=T.x\/b=T.k\/b=T.rb) w9:=D.zkM f (λb e=>by rw[<-A] at e;exact e) (λj e=> .inl e) (λj e=>e.imp id λe=>by
   have h1:=vw T.x (.inl (.inr (.inl O)));have N:=vw T.k (.inl (.inr (.inr O)));have h3:=vw T.rb (.inr O)
   omega) (AE.less λb e=>by
   rw[<-A];rcases e with(e|e|e|e)| e
   ·exact .inl (.inl (.inl e))
   ·exact .inl (.inr (.inl e))
   ·exact .inl (.inr (.inr e))
   ·exact .inr e
   ·exact .inl (.inl (.inr e))) vt.1 Ja ω (λy h1 N=>GH y (.inl ω))
 have eT:=AE.room oG ω
 rw[vt.2.2,vm.2.2,N2] at eT
 refine Ph O<|Ta O<|SO O<|Ro O<|PB O<|PB O<|Ph O<|Px zhJ O eT ?_
 rintro _ a1⟨rfl,B⟩
 have AF:=B.OZ GI
 rw[show q.L.length-(2+G.len+T.len)=200-(2+G.len+T.len) by omega]
 refine qV (T3 (cs:=[_,_,_,_,_]) z2D O zlv O O)<|PB O<|Ph O<|Rr O<|Po O (Qh (news:=[_,_,_,_,_]) z2D O O O O AF ξ) ?_
 rintro Z⟨AG,bC⟩
 refine Pq O<|PM.qb (e:=[(6,_),(7,_)]) ?_
 refine PK func10 (.cell U30 O z2D O (Pm.cells (n:=5) AG (news:=[_,_,_,_,_]) O) O (.tmp O .nil)) ?_
 obtain⟨C,f9⟩:∃C:Nat->Prop,(λb=>X b\/b=G.x\/b=G.k\/b=G.rb\/b=T.x\/b=T.k\/b=T.rb)=C:=⟨_,O⟩
 have C7:=D.rbX
 have U:=H.rbX
 have c:=D.xk
 have Jb:=H.xk
 have zG:=D.lt1 _ (.inr O)
 have a2:=D.lt1 _ (.inl c.1)
 have a3:=D.lt1 _ (.inl c.2.1)
 have mj:∀b,X b->b<w1.heap.size:=GA
 have GL:Td G q o 400 (λb=>C b/\b≠G.rb) Z:=by
  refine Td.less (Y:=λb=>(X b\/b=G.x\/b=G.k)\/b=T.x\/b=T.k\/b=T.rb) ((Nc.ext B).own bC λj e=>?_) (λb e=>?_) ?_
  ·subst e;exact⟨.inl (.inl a),ω,ω,ω,ω⟩
  ·rw[<-f9] at e;rcases e with⟨e|e|e|e|e,h⟩
   ·exact .inl (.inl e)
   ·exact .inl (.inr (.inl e))
   ·exact .inl (.inr (.inr e))
   ·exact absurd e h
   ·exact .inr e
  ·rw[<-f9];exact⟨⟨.inr (.inr (.inl O)),λe=>C7 (e▸c.1)⟩,⟨.inr (.inl O),λe=>C7 (e▸c.2.1)⟩,⟨.inl (u 1 l1),ω⟩,⟨.inl (u 2 l2),ω⟩⟩
 have GM:Td T q o 400 (λb=>C b/\b≠T.rb) Z:=by
  refine Td.less (Y:=λj=>F j\/j=T.x\/j=T.k) ((H.ext B).own bC λj e=>?_) (λb e=>?_) ?_
  ·subst e;exact⟨.inl (R _ a),ω,ω,ω,ω⟩
  ·rw[<-f9] at e;rw[<-A];rcases e with⟨e|e|e|e|e|e|e,h⟩
   ·exact .inl (.inl (.inl e))
   ·exact .inl (.inl (.inr (.inl e)))
   ·exact .inl (.inl (.inr (.inr e)))
   ·exact .inl (.inr e)
   ·exact .inr (.inl e)
   ·exact .inr (.inr e)
   ·exact absurd e h
  ·rw[<-f9];exact⟨⟨.inr (.inr (.inr (.inr (.inr (.inl O))))),λe=>U (e▸Jb.1)⟩,⟨.inr (.inr (.inr (.inr (.inl O)))),λe=>U (e▸Jb.2.1)⟩,⟨.inl (u 1 l1),ω⟩,⟨.inl (u 2 l2),ω⟩⟩
 refine⟨_,O,⟨d,q,o,400,G,T,2+G.len+T.len⟩,C,?_,⟨GL,GM,N6,Na,oG,?_,?_,?_,?_,?_,by rw[<-f9];exact⟨.inr (.inr (.inr (.inl O))),.inr (.inr (.inr (.inr (.inr (.inr O))))),λe=>U (.inl (by rw[<-A];exact .inr e.symm)),λe=>U (.inl (by rw[<-A];exact .inl (.inr (.inr e)))),λe=>U (.inl (by rw[<-A];exact .inl (.inr (.inl e)))),(by show G.rb≠T.k;omega),(by show G.rb≠T.x;omega)⟩⟩,?_,λb hb=>⟨by rw[<-f9];exact .inl (u b hb),λe=>?_,λe=>?_⟩,?_,?_,?_,?_⟩
 ·unfold Wd.v;rw[vt.1,vm.1]
  rfl
 ·show 2+G.len+T.len<=146;omega
 ·show q.L.length=200;omega
 ·exact y02 _
 ·show G.st+G.len<=T.st;omega
 ·show T.st+T.len<=2+G.len+T.len;omega
 ·exact(gJ.trans B).It bC λb e=>ω
 ·have e:b=G.rb:=e;omega
 ·have e:b=T.rb:=e;omega
 ·show w.heap.size<=G.k;omega
 ·show w.heap.size<=G.x;omega
 ·show w.heap.size<=T.k;omega
 ·show w.heap.size<=T.x;omega
def zbm (e:QJ g)(h:1<=g.length)(y:g.length<=40)(A:GrM w (.slice ga g.length gc) g)(r:Pm w 1 (SI .gamma) 314)(u:Pm w 2 (SI .unary) 314)(fr fo:Int)(z:JIq fr)(C:JIq fo):
  PN prog 10 [.slice ga g.length gc,I fr,I fo] w λv w'=>∃(W:Wd)(d:Nat->Prop),v= .tuple #[.agg W.v.toArray,.bool true]/\WdM W g d w'/\Ext w w'/\(∀b,b<w.heap.size->d b/\b≠W.G.rb/\b≠W.T.rb)/\w.heap.size<=W.G.k/\w.heap.size<=W.G.x:=by
 refine(zcQ e h y A r u fr fo z C).mono ?_
 rintro v w'⟨W,d,j,l,m,n,o,q,-⟩
 exact⟨W,d,j,l,m,n,o,q⟩
def z8o (e:QJ g)(h:1<=g.length)(r:g.length<=40)(x:GrM w (.slice ga g.length gc) g)(o:Pm w 1 (SI .gamma) 314)(q:Pm w 2 (SI .unary) 314)(fr fo:Int)(u:JIq fr)(y:JIq fo):
  PN prog 10 [.slice ga g.length gc,I fr,I fo] w λv w'=>∃(W:Wd)(d:Nat->Prop),v= .tuple #[.agg W.v.toArray,.bool true]/\WdM W g d w'/\Ext w w'/\∀b,b<w.heap.size->d b/\b≠W.G.rb/\b≠W.T.rb:=by
 refine(zbm e h r x o q fr fo u y).mono ?_
 rintro v w'⟨W,d,j,l,m,n,-⟩
 exact⟨W,d,j,l,m,n⟩
structure RuK (σ:Type) where
 M:RE->(Int->P8)->Nat->Nat->(Nat->Prop)->Nat->Nat->σ->World->Prop
 tm:σ->Nat
 c0:Nat
 c1:Nat
 kp:∀{Q:RE} {txt:Int->P8} {k rr:Nat} {O_:Nat->Prop} {a L:Nat} {s:σ} {w w':World} {S:Nat->Prop},M Q txt k rr O_ a L s w->Kp S w w'->(∀b,O_ b->¬S b)->M Q txt k rr O_ a L s w'
 Uw:∀{Q:RE} {txt txt':Int->P8} {k rr:Nat} {O_:Nat->Prop} {a L:Nat} {s:σ} {w:World},M Q txt k rr O_ a L s w->(∀y:Int,(a:Int)<=y->y<(a:Int)+(L:Int)->txt' y=txt y)->M Q txt' k rr O_ a L s w
 q:∀{Q Q':RE} {txt:Int->P8} {k rr:Nat} {O_:Nat->Prop} {a L:Nat} {s:σ} {w:World},M Q txt k rr O_ a L s w->Q'.s=Q.s->Q'.L.length=Q.L.length->M Q' txt k rr O_ a L s w
structure RuM {σ:Type}(R:RuK σ)(G:YF)(Q:RE)(txt:Int->P8)(K:Nat)(X:Nat->Prop)(rr:Nat)(O_:Nat->Prop)(a L:Nat)(s:σ)(w:World):Prop where
 g:Td G Q txt K X w
 m:R.M Q txt G.k rr O_ a L s w
 xr:∀b,O_ b->X b
 ro:O_ rr
 ne:∀b,O_ b->b≠G.k/\b≠G.x/\b≠1/\b≠2
 VH:G.st+G.len<=a
 n:G.g.length<=40
section
variable {σ:Type}{R:RuK σ}{G:YF}{Y:Nat->Prop}{L:Nat}{s s':σ}
theorem RuM.step (h:RuM R G Q txt K X rr O_ a L s w)(q:Kp S' w w')(d:∀j,S' j->X j/\j≠G.k/\j≠G.x/\j≠1/\j≠2/\¬O_ j)(l:∀j,X j->Y j)(r:∀j,Y j->X j\/(w.heap.size<=j/\j<w'.heap.size)):RuM R G Q txt K Y rr O_ a L s w':=
 ⟨h.g.step q (λj e=>⟨(d j e).1,(d j e).2.1,(d j e).2.2.1,(d j e).2.2.2.1,(d j e).2.2.2.2.1⟩) r l,R.kp h.m q (λb o e=>(d b e).2.2.2.2.2 o),λb o=>l b (h.xr b o),h.ro,h.ne,h.VH,h.n⟩
theorem RuM.less (h:RuM R G Q txt K Y rr O_ a L s w)(d:∀j,X j->Y j)(l:X G.k/\X G.x/\X 1/\X 2)(e:∀b,O_ b->X b):RuM R G Q txt K X rr O_ a L s w:=⟨h.g.less d l,h.m,e,h.ro,h.ne,h.VH,h.n⟩
theorem RuM.read (h:RuM R G Q txt K X rr O_ a L s w)(d:Kp (λb=>¬(X b\/b=G.rb)) w w')(j:Sp Q txt K (λb=>X b\/b=G.rb) w'):RuM R G Q txt K X rr O_ a L s w':=
 ⟨h.g.upd d (λb e=> .inl e) j O O h.g.zaG (λ_ _ _=>rfl),R.kp h.m d (λb l e=>e (.inl (h.xr b l))),h.xr,h.ro,h.ne,h.VH,h.n⟩
theorem RuM.upd (h:RuM R G Q txt K X rr O_ a L s w)(j:K'<1000000000000)(o:Kp S' w w')(m:∀b,S' b->¬(X b\/b=G.rb)\/O_ b)(l:Sp Q txt' K' (λb=>X b\/b=G.rb) w')(r:∀y:Int,y<(a:Int)\/(a:Int)+(L:Int)<=y->txt' y=txt y)(q:R.M Q txt' G.k rr O_ a L s' w'):RuM R G Q txt' K' X rr O_ a L s' w':=by
 have x:=h.VH
 exact⟨h.g.upd o (λb e=>(m b e).imp id λd=>⟨h.xr b d,h.ne b d⟩) l O O j (λy u v=>r y (.inl ω)),q,h.xr,h.ro,h.ne,h.VH,h.n⟩
theorem RuM.set (h:RuM R G Q txt K X rr O_ a L s w)(l:Kp S' w w')(d:∀b,S' b->O_ b)(m:R.M Q txt G.k rr O_ a L s' w'):RuM R G Q txt K X rr O_ a L s' w':=
 ⟨h.g.own l (λj e=>⟨h.xr j (d j e),h.ne j (d j e)⟩),m,h.xr,h.ro,h.ne,h.VH,h.n⟩
theorem RuM.list (h:RuM R G Q txt K X rr O_ a L s w)(hg:Td G Q txt K Y w')(o:Kp (λj=>¬X j) w w')(d:∀j,X j->Y j):RuM R G Q txt K Y rr O_ a L s w':=
 ⟨hg,R.kp h.m o (λb l e=>e (h.xr b l)),λb l=>d b (h.xr b l),h.ro,h.ne,h.VH,h.n⟩
end
def Sp.iff {Y:Nat->Prop}(h:Sp Q txt K X w)(e:∀b,X b↔Y b):Sp Q txt K Y w:=by
 have d:X=Y:=funext λb=>propext (e b)
 exact d▸h
section
variable {G:YF}{Y:Nat->Prop}
theorem Td.at_ (h:Td G Q txt K X w)(d:Kp S' w w')(e:¬S' G.k/\¬S' G.x/\¬S' 1/\¬S' 2/\¬S' G.rb)(l:Y G.k/\Y G.x/\Y 1/\Y 2)(m:∀j,Y j->j<w'.heap.size)(A:¬Y G.rb)(v:Sp Q' txt' K' (λb=>Y b\/b=G.rb) w')(C:Q'.s=Q.s)(z:Q'.L.length=Q.L.length)(u:K'<1000000000000)(ht:∀y:Int,(G.st:Int)<=y->y<(G.st:Int)+(G.len:Int)->txt' y=txt y):Td G Q' txt' K' Y w':=by
 have n:=h.rbB
 obtain⟨o,h⟩:=h
 have q:=o.len
 have r:(z81 (⟨u,by rw[z];exact o.fit,o.laid.Uw λk d=>ht _ ω ω,o.len⟩:StO Q' txt' K' G.st G.len (Ym G.p G.g G.E)) G.rb G.sum).inv Y w':=⟨v,by rw[C];exact d.OZ n e.2.2.2.2,A⟩
 exact⟨_,⟨h.ok,d.OZ h.OZ e.1,d.OZ h.ix e.2.1,l.1,l.2.1,r,m,l.2.2.1,l.2.2.2,d.OZ h.gam e.2.2.1,d.OZ h.una e.2.2.2.1⟩⟩
end
structure S0 {σ:Type}(R:RuK σ)(G T:YF)(Q:RE)(txt:Int->P8)(K:Nat)(X:Nat->Prop)(rr:Nat)(O_:Nat->Prop)(a L:Nat)(s:σ)(w:World):Prop where
 m:RuM R G Q txt K (λb=>X b\/b=T.rb) rr O_ a L s w
 t:Td T Q txt K (λb=>X b\/b=G.rb) w
 xr:∀b,O_ b->X b
 xk:X G.k/\X G.x/\X T.k/\X T.x/\X 1/\X 2
 nk:∀b,O_ b->b≠T.k/\b≠T.x
 VH:T.st+T.len<=a
section
variable {σ:Type}{R:RuK σ}{G T:YF}{Y:Nat->Prop}{L:Nat}{s s':σ}
theorem S0.ng (h:S0 R G T Q txt K X rr O_ a L s w):¬X G.rb/\G.rb≠T.rb/\¬X T.rb:=by
 have d:=h.m.g.rbX
 have j:=h.t.rbX
 exact⟨λe=>d (.inl e),λe=>d (.inr e),λe=>j (.inl e)⟩
theorem S0.sp (h:S0 R G T Q txt K X rr O_ a L s w):Sp Q txt K (λb=>(X b\/b=T.rb)\/b=G.rb) w:=h.m.g.sp
theorem S0.lt (h:S0 R G T Q txt K X rr O_ a L s w):∀b,((X b\/b=T.rb)\/b=G.rb)->b<w.heap.size:=h.m.g.lt1
theorem S0.byG (h:S0 R G T Q txt K X rr O_ a L s w)(r:RuM R G Q txt' K' (λb=>Y b\/b=T.rb) rr O_ a L s' w')(D:Kp S' w w')(x:∀b,S' b->(¬X b/\b≠T.rb)\/O_ b)(d:∀j,X j->Y j)(A:∀j,Y j->X j\/w.heap.size<=j)(J:∀y:Int,y<(a:Int)\/(a:Int)+(L:Int)<=y->txt' y=txt y):S0 R G T Q txt' K' Y rr O_ a L s' w':=by
 obtain⟨n1,n2,z⟩:=h.ng
 have C:=h.VH
 have o:=h.lt
 have v:=r.g.lt1
 have l:=h.xk
 have q:=h.m.ne
 have I:=o T.rb (.inl (.inr O))
 have H:=o G.rb (.inr O)
 have n:∀b,X b->¬O_ b->¬S' b:=λb u F e=>(x b e).elim (λe=>e.1 u) F
 refine⟨r,h.t.at_ D ⟨n _ l.2.2.1 λe=>(h.nk _ e).1 O,n _ l.2.2.2.1 λe=>(h.nk _ e).2 O,n _ l.2.2.2.2.1 λe=>(q _ e).2.2.1 O,n _ l.2.2.2.2.2 λe=>(q _ e).2.2.2 O,λe=>(x _ e).elim (λe=>e.2 O) (λe=>z (h.xr _ e))⟩ ⟨.inl (d _ l.2.2.1),.inl (d _ l.2.2.2.1),.inl (d _ l.2.2.2.2.1),.inl (d _ l.2.2.2.2.2)⟩ (λj e=>v j (e.imp .inl id)) ?_ (r.g.sp.iff λb=>?_) O O r.g.zaG (λy M N=>J y (.inl ω)),λb u=>d b (h.xr b u),⟨d _ l.1,d _ l.2.1,d _ l.2.2.1,d _ l.2.2.2.1,d _ l.2.2.2.2.1,d _ l.2.2.2.2.2⟩,h.nk,C⟩
 ·rintro(e|e)
  ·rcases A _ e with e| e
   ·exact z e
   ·omega
  ·exact n2 e.symm
 ·constructor
  ·rintro((e|e)|e)
   ·exact .inl (.inl e)
   ·exact .inr e
   ·exact .inl (.inr e)
  ·rintro((e|e)|e)
   ·exact .inl (.inl e)
   ·exact .inr e
   ·exact .inl (.inr e)
theorem S0.step (h:S0 R G T Q txt K X rr O_ a L s w)(D:Kp S' w w')(A:∀j,S' j->X j/\j≠G.k/\j≠G.x/\j≠T.k/\j≠T.x/\j≠1/\j≠2/\¬O_ j)(d:∀j,X j->Y j)(C:∀j,Y j->X j\/(w.heap.size<=j/\j<w'.heap.size)):S0 R G T Q txt K Y rr O_ a L s w':=by
 have l:=h.xk
 exact⟨h.m.step D (λj e=>by obtain⟨n,r,u,v,y,o,q,z⟩:=A j e;exact⟨.inl n,r,u,o,q,z⟩) (λj e=>e.imp (d j) id) (λj e=>e.elim (λe=>(C j e).imp .inl id) (λe=> .inl (.inr e))),
  h.t.step D (λj e=>by obtain⟨n,r,u,v,y,o,q,z⟩:=A j e;exact⟨.inl n,v,y,o,q⟩) (λj e=>e.elim (λe=>(C j e).imp .inl id) (λe=> .inl (.inr e))) (λj e=>e.imp (d j) id),
  λb F=>d b (h.xr b F),⟨d _ l.1,d _ l.2.1,d _ l.2.2.1,d _ l.2.2.2.1,d _ l.2.2.2.2.1,d _ l.2.2.2.2.2⟩,h.nk,h.VH⟩
def S0.ext (h:S0 R G T Q txt K X rr O_ a L s w)(d:Ext w w'):S0 R G T Q txt K X rr O_ a L s w':=
 h.step d (λ_ e=>e.elim) (λ_ e=>e) (λ_ e=> .inl e)
def S0.grow (h:S0 R G T Q txt K X rr O_ a L s w)(m:Ext w w')(l:∀j,Y j->X j\/(w.heap.size<=j/\j<w'.heap.size))(d:∀j,X j->Y j):S0 R G T Q txt K Y rr O_ a L s w':=
 h.step m (λ_ e=>e.elim) d l
def S0.own (h:S0 R G T Q txt K X rr O_ a L s w)(l:Kp S' w w')(d:∀j,S' j->X j/\j≠G.k/\j≠G.x/\j≠T.k/\j≠T.x/\j≠1/\j≠2/\¬O_ j):S0 R G T Q txt K X rr O_ a L s w':=
 h.step l d (λ_ e=>e) (λ_ e=> .inl e)
theorem S0.read (h:S0 R G T Q txt K X rr O_ a L s w)(j:Kp (λb=>¬((X b\/b=T.rb)\/b=G.rb)) w w')(l:Sp Q txt K (λb=>(X b\/b=T.rb)\/b=G.rb) w'):S0 R G T Q txt K X rr O_ a L s w':=
 h.byG (h.m.read j l) j (λb e=> .inl ⟨λd=>e (.inl (.inl d)),λd=>e (.inl (.inr d))⟩) (λ_ e=>e) (λ_ e=> .inl e) (λ_ _=>rfl)
theorem S0.upd (h:S0 R G T Q txt K X rr O_ a L s w)(o:K'<1000000000000)(l:Kp S' w w')(j:∀b,S' b->¬((X b\/b=T.rb)\/b=G.rb)\/O_ b)(q:Sp Q txt' K' (λb=>(X b\/b=T.rb)\/b=G.rb) w')(n:∀y:Int,y<(a:Int)\/(a:Int)+(L:Int)<=y->txt' y=txt y)(r:R.M Q txt' G.k rr O_ a L s' w'):S0 R G T Q txt' K' X rr O_ a L s' w':=
 h.byG (h.m.upd o l j q n r) l (λb e=>(j b e).imp (λe=>⟨λd=>e (.inl (.inl d)),λd=>e (.inl (.inr d))⟩) id) (λ_ e=>e) (λ_ e=> .inl e) n
theorem S0.set (h:S0 R G T Q txt K X rr O_ a L s w)(j:Kp S' w w')(d:∀b,S' b->O_ b)(l:R.M Q txt G.k rr O_ a L s' w'):S0 R G T Q txt K X rr O_ a L s' w':=
 h.byG (h.m.set j d l) j (λb e=> .inr (d b e)) (λ_ e=>e) (λ_ e=> .inl e) (λ_ _=>rfl)
theorem S0.less (h:S0 R G T Q txt K Y rr O_ a L s w)(l:∀j,X j->Y j)(d:X G.k/\X G.x/\X T.k/\X T.x/\X 1/\X 2)(n:∀b,O_ b->X b):S0 R G T Q txt K X rr O_ a L s w:=
 ⟨h.m.less (λj e=>e.imp (l j) id) ⟨.inl d.1,.inl d.2.1,.inl d.2.2.2.2.1,.inl d.2.2.2.2.2⟩ (λb o=> .inl (n b o)),h.t.less (λj e=>e.imp (l j) id) ⟨.inl d.2.2.1,.inl d.2.2.2.1,.inl d.2.2.2.2.1,.inl d.2.2.2.2.2⟩,n,d,h.nk,h.VH⟩
end
inductive SG (g:List (List Nat)) (a:Nat):Nat->Prop
 |refl:SG g a a
 |step {x b:Nat}:SG g a x->b∈Pa g x->SG g a b
section
/-! ### Colours -/
theorem zed (h:QJ g):SG g a b↔∃k,UE (z0R h) a k b:=by
 constructor
 ·intro m
  have:∃k,Way (z0R h) a k b:=by
   induction m with
   |refl=>exact⟨0,.root⟩
   | step _ o e =>
     obtain⟨k,d⟩:=e;exact⟨k+1,.step d o⟩
  obtain⟨k,d⟩:=this;obtain⟨j,-,l⟩:=d.ziv;exact⟨j,l⟩
 ·rintro⟨k,d,-⟩
  induction d with
  |root=>exact .refl
  |step _ n e=>exact .step e n
def SG.lt (h:QJ g)(e:SG g a b)(d:a<g.length):b<g.length:=by
 cases e with
 |refl=>exact d
 |step _ j=>exact Sa h _ _ j
end
end Go.Proofs.YtbihggbffaigjaaGreatDoor
