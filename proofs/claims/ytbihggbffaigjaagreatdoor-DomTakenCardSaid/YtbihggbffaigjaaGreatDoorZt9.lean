/- Merged by program. -/
import Derived.Test.YtbihggbffaigjaaGreatDoorZt8
import Derived.SizedLaws
import Derived.Carry
import Derived.ProofKit
import Derived.OpenShut
import Derived.ShutString
import Derived.ChangeOld
import Derived.Below
import Derived.Deep.SlicePairs
import Derived.LaidLaws
import Derived.MakeChecks
import Derived.Handed
set_option linter.all false
set_option maxRecDepth 1000000
set_option maxHeartbeats 16000000
namespace Go.Proofs.YtbihggbffaigjaaGreatDoor
open Go Go.RowKit
variable {G T:Y0}{K K' L a i j k root rr t:Nat}{O_ X:Nat->Prop}{P:Program}{Q:Sf}{W w w':World}{cs:Array Value}{g:List (List Nat)}{la:Option Addr}{ls:List (Int×Int×Int)}{s s' s0:DmS}{txt txt':Int->PU}{vb:Nat->Nat}
def dmN (s:DmS):Nat->Nat
 |0=>s.steps
 |1=>s.fin
 |_=>s.Qg
def YB (s:DmS):Nat->PU
 |0=>[]
 |i+1=>YB s i++Ut 4 (dmN s i)
def dmH (s:DmS):PU:=YB s 3++[if s.Rf then 1 else 0,if s.done then 1 else 0]
def dmP (s:DmS):Nat->PU
 |0=>dmH s
 |i+1=>dmP s i++Wc 4 (s.vec i)
def dmT (s:DmS):PU:=dmP s 5
section
variable {n:Nat}
theorem WN:∀i,(YB s i).length=4*i
 |0=>rfl
 | i + 1 => by
   show(YB s i++Ut 4 (dmN s i)).length=_;rw[y01,WN i,QS];omega
theorem zdX:(dmH s).length=14:=by
 unfold dmH
 rw[y01,WN];rfl
theorem z1C (b:∀j,j<5->(s.vec j).length=n):∀i,i<=5->(dmP s i).length=14+i*(4*n)
 |0,_=>by show(dmH s).length=_;rw[zdX];omega
 | i + 1, h => by
   show(dmP s i++Wc 4 (s.vec i)).length=_;rw[y01,z1C b i ω,Un,b i ω,y0q];omega
def z4Z (i:Nat):∀k,∃r,dmP s (i+k)=dmP s i++r
 |0=>⟨[],(y0o _).symm⟩
 | k + 1 => by
   obtain⟨r,b⟩:=z4Z i k
   exact⟨r++Wc 4 (s.vec (i+k)),by
    show dmP s (i+k)++Wc 4 (s.vec (i+k))=_
    rw[b,y06]⟩
def zhd (b:∀j,j<5->(s.vec j).length=n)(hi:i<5):((dmT s).drop (14+i*(4*n))).take (4*n)=Wc 4 (s.vec i):=by
 obtain⟨r,f⟩:=z4Z (s:=s) (i+1) (4-i)
 have e:dmT s=dmP s i++(Wc 4 (s.vec i)++r):=by
  have:dmT s=dmP s (i+1)++r:=by rw[<-f];unfold dmT;congr 1;omega
  rw[this];show(dmP s i++Wc 4 (s.vec i))++r=_;rw[y06]
 have c:=z1C b i ω
 have d:=Un 4 (s.vec i)
 rw[b i hi] at d
 rw[e,y10 c,y1c ω]
def z6c (i:Nat):∀k,∃r,YB s (i+k)=YB s i++r
 |0=>⟨[],(y0o _).symm⟩
 | k + 1 => by
   obtain⟨r,b⟩:=z6c i k
   exact⟨r++Ut 4 (dmN s (i+k)),by
    show YB s (i+k)++Ut 4 (dmN s (i+k))=_
    rw[b,y06]⟩
def z6j:∃r,dmT s=dmH s++r:=by
 obtain⟨r,b⟩:=z4Z (s:=s) 0 5
 exact⟨r,b⟩
def zdT (hi:i<3):∃r,(dmT s).drop (i*4)=Ut 4 (dmN s i)++r:=by
 obtain⟨r,c⟩:=z6j (s:=s)
 obtain⟨q,b⟩:=z6c (s:=s) (i+1) (2-i)
 have e:dmT s=YB s i++(Ut 4 (dmN s i)++(q++([if s.Rf then 1 else 0,if s.done then 1 else 0]++r))):=by
  rw[c];unfold dmH;rw[show(3:Nat)=i+1+(2-i) by omega,b];show(((YB s i++Ut 4 (dmN s i))++q)++_)++r=_;simp only[y06]
 refine⟨q++([if s.Rf then 1 else 0,if s.done then 1 else 0]++r),?_⟩
 rw[e,y10 (by rw[WN];omega)]
def zcN:((dmT s).getD 12 0)=(if s.Rf then 1 else 0)/\((dmT s).getD 13 0)=if s.done then 1 else 0:=by
 obtain⟨r,c⟩:=z6j (s:=s)
 have b:(YB s 3).length=12:=WN 3
 rw[c]
 unfold dmH
 rw[y06,y12,y12,y0X (show(YB s 3).length<=12 by omega),y0X (show(YB s 3).length<=13 by omega),b]
 exact⟨O,O⟩
theorem z8R (ht:t<4294967296)(s:PU):Sums.num (Ut 4 t++s)=t:=by
 have h:Ut 4 t=[UInt8.ofNat (t / 16777216),UInt8.ofNat (t / 65536),UInt8.ofNat (t / 256),UInt8.ofNat t]:=by simp[Ut,y0T]
 rw[h]
 simp[Sums.num]
 omega
theorem DmJ.vl (h:DmJ g root s):∀j,j<5->(s.vec j).length=g.length:=λj l=>by
 obtain⟨b,c,d,e,f⟩:=h.ls
 obtain rfl|rfl|rfl|rfl|rfl:j=0\/j=1\/j=2\/j=3\/j=4:=ω
 ·exact b
 ·exact c
 ·exact d
 ·exact e
 ·exact f
theorem DmJ.fh (h:DmJ g root s):s.fin<=g.length/\s.Qg<=g.length:=by
 cases b:s.Rf with
 | false =>
   have:=(h.se b).2.1.fh
   omega
 | true =>
   obtain⟨par,j,-,c,-,-,-,-,-,-,-,d⟩:=h.sw b;have:=c.f;omega
def DmJ.nl (h:DmJ g root s)(c:g.length<=40)(b:s.steps<4294967296):∀i,i<3->dmN s i<4294967296:=λi hi=>by
 have:=h.fh
 obtain rfl|rfl|rfl:i=0\/i=1\/i=2:=ω
 ·exact b
 ·show s.fin<_;omega
 ·show s.Qg<_;omega
def z26 (s0 s:DmS)(i:Nat):DmS:={s0 with num:=if 0<i then s.num else s0.num,looked:=if 1<i then s.looked else s0.looked,cand:=if 2<i then s.cand else s0.cand,VD:=if 3<i then s.VD else s0.VD,ord:=if 4<i then s.ord else s0.ord}
theorem z3U (b:j<5):(z26 s0 s i).vec j=if j<i then s.vec j else s0.vec j:=by
 obtain rfl|rfl|rfl|rfl|rfl:j=0\/j=1\/j=2\/j=3\/j=4:=ω
 all_goals rfl
theorem z7a (hi:i<5):(z26 s0 s i).z4D i (s.vec i)=z26 s0 s (i+1):=by
 obtain rfl|rfl|rfl|rfl|rfl:i=0\/i=1\/i=2\/i=3\/i=4:=ω
 all_goals rfl
end
open Go.Proofs.Tryz
theorem z6k (n:Nat)(m:n<4294967296)(w:World):Qx prog 48 [QL n] w λv w'=>v=S (Ut 4 n)/\Ext w w':=by
 have f:(Ut 4 n).map Ua=[Value.int .u8 ((n / 16777216%256:Nat):Int),Value.int .u8 ((n / 65536%256:Nat):Int),Value.int .u8 ((n / 256%256:Nat):Int),Value.int .u8 ((n%256:Nat):Int)]:=by
  simp[Ut,Ua,y0T]
 refine py (e:=[(0,_)]) func48 O ntmps48 O O<|qN O<|RZ O<|qV (Vl 24 16777216 O O ψ O)<|qV (z5M O RO U5)<|Q4 O<|qV (Vl 16 65536 O O ψ O)<|qV (z5M O RO U5)<|Q4 O<|qV (Vl 8 256 O O ψ O)<|qV (z5M O RO U5)<|Q4 O<|qV (z5M O RO U5)<|PX O O (YI (cs:=[_,_,_,_]) (zs:=[Value.int .u8 0,Value.int .u8 0,Value.int .u8 0,Value.int .u8 0]) RB YK O y00 O O O ψ) ?_
 rintro _ w1⟨b1,rfl,⟨h,b,c⟩,-⟩
 have d:Q8 w1 b1 ((Ut 4 n).map Ua) 5:=by
  rw[f];exact c
 refine qV (z8w (l:=Ut 4 n) RB U5 U9 O d (by rw[y0U];exact y0z (by rw[y0n,QS];omega)) (QS _ _)) ?_
 refine Qe O<|PQ func48 O ?_
 exact⟨_,O,O,b⟩
def zaa (l:List UInt8)(w:World)(h:4<=l.length):Qx prog 53 [S l] w λv w'=>v=U (Sums.num l)/\Ext w w':=by
 have f:=(l.getD 0 0).toNat_lt
 have m:=(l.getD 1 0).toNat_lt
 have n:=(l.getD 2 0).toNat_lt
 have o:=(l.getD 3 0).toNat_lt
 obtain⟨d,b,c⟩:=or3 _ _ _ _ f m n o
 refine py (e:=[(0,_)]) func53 O ntmps53 O O ?_
 rw[d] at b c
 rw[b] at c
 refine RY O<|It<|Sq (λ_=>True) O<|Ql 0 O O trivial<|PV 1 O (z5v U9 O O ω) trivial<|PV 2 O (z4O O U5 RO ψ) trivial<|PV 3 O (zc8 24 16777216 O O ψ O) trivial<|Ql 4 O O trivial<|PV 5 O (z5v U9 O O ω) trivial<|PV 6 O (z4O O U5 RO ψ) trivial<|PV 7 O (zc8 16 65536 O O ψ O) trivial<|Ql 9 O O trivial<|PV 10 O (z5v U9 O O ω) trivial<|PV 11 O (z4O O U5 RO ψ) trivial ?_
 refine PV 12 O (zc8 8 256 O O ψ O) trivial<|Ql 14 O O trivial<|PV 15 O (z5v U9 O O ω) trivial<|PV 16 O (z4O O U5 RO ψ) trivial ?_
 rw[y0e (show(l.getD 0 0).toNat*16777216<4294967296 by omega),y0e (show(l.getD 1 0).toNat*65536<4294967296 by omega),y0e (show(l.getD 2 0).toNat*256<4294967296 by omega)]
 refine PV 8 O (zcP O O ω ω) trivial ?_
 rw[d]
 refine PV 13 O (zcP O O ω ω) trivial ?_
 rw[b]
 refine PV 17 O (zcP O O ω ω) trivial ?_
 rw[c]
 refine PV 18 O (SG O) trivial<|qE<|PQ func53 O ?_
 exact⟨_,O,O,Ext.Qm w⟩
def z2U (c:Bool)(w:World):Qx prog 49 [.bool c] w λv w'=>v=Ua (if c then 1 else 0)/\w'=w:=by
 cases c with
 | true =>
   refine py (e:=[(0,_)]) func49 O ntmps49 O O<|RY O<|QV O<|PR<|Qb O<|RY O<|PQ func49 O ?_
   exact⟨_,O,O,O⟩
 | false =>
   refine py (e:=[(0,_)]) func49 O ntmps49 O O<|RY O<|QV O<|Ri O<|RY O<|PQ func49 O ?_;exact⟨_,O,O,O⟩
section
variable {v:Nat}
theorem z7n (h:St (Vg T.k root) G T Q txt K X rr O_ a L s w)(R:∀j,j<5->(s.vec j).length=G.g.length)(M:∀i,i<3->dmN s i<4294967296):Qx prog 16 [ptr rr 0] w λv w'=>v= .tuple #[S (dmT s),I 0]/\(∀j,j<5->∀x∈s.vec j,x<2^(8*4))/\St (Vg T.k root) G T Q txt K X rr O_ a L s w'/\Kp (λb=>¬YA G T X b) w w':=by
 have dH:=h.m.n
 obtain⟨vb,C⟩:=h.dm
 have B:=C.cells
 refine py (e:=[(0,_)]) func16 O ntmps16 O O<|qN O<|Rw O<|QV O<|Qj zeJ O (Wj h) ?_
 rintro _ w⟨rfl,rfl⟩
 refine RZ O<|RI O ?_
 have hg:=Ext.Qm w
 refine Ri O<|RY O<|It<|It<|Sq (λw'=>Ext w w') O<|Ql 0 O O hg<|PV 1 O (Rs O) hg<|PV 2 O (QE RF O) hg<|PV 3 O (QE z4o O) hg<|qT 4 O (λ_ h=>Q0 U3 O O (h.PO B) O) hg<|Ql 5 O O hg<|PV 6 O (Rs O) hg<|PV 7 O (QE RF O) hg<|PV 8 O (QE Zm O) hg ?_
 refine qT 9 O (λ_ h=>Q0 U3 O O (h.PO B) O) hg<|Ql 10 O O hg<|PV 11 O (Rs O) hg<|PV 12 O (QE RF O) hg<|PV 13 O (QE Wy O) hg<|qT 14 O (λ_ h=>Q0 U3 O O (h.PO B) O) hg<|PV 15 O (zgy (parts:=[(0,.tmp 21),(1,.tmp 26),(2,.tmp 31)]) (cs:=[_,_,_]) zhD O zik R8 O O) hg<|Ql 16 O O hg<|qE<|QA.qb (e:=[(0,_),(2,_),(3,_),(5,_),(32,_),(33,_)]) ?_
 refine PT<|SN (α:=Nat) (0) (λi=>[(0,ptr rr 0),(5,S (YB s i)),(32,.agg #[I (s.steps:Int),I (s.fin:Int),I (s.Qg:Int)]),(33,I (i:Int))]) (λi w'=>i<=3/\Ext w w') (λi=>3-i) ?hI ?hround
 case hI=>exact⟨y03 _,hg⟩
 case hround =>
  rintro i w1⟨hi,u⟩ D
  try dsimp only
  refine qN O<|RT O<|PR<|It<|Qa O (λA=>?_)<|λA=>?_
  ·have r:i<3:=ω
   have F:(#[I (s.steps:Int),I (s.fin:Int),I (s.Qg:Int)]:Array Value)[i]? =some (I (dmN s i:Int)):=by
    obtain rfl|rfl|rfl:i=0\/i=1\/i=2:=ω
    all_goals rfl
   have J:=WN (s:=s) i;have fD:=QS 4 (dmN s i);refine PS<|RU<|qN O<|qV (yxa zik R8 U3 O O O r (v:=I (dmN s i:Int)) F)<|Qe O<|PY O<|Qq O<|qV (z3K O U3 RO) ?_;rw[y0e (M i r)];refine Qj zlI O (z6k (dmN s i) (M i r) _) ?_;rintro _ w2⟨rfl,d⟩;refine qV (Xt O O ω) ?_;rw[show YB s i++Ut 4 (dmN s i)=YB s (i+1) from rfl];refine Qe O<|PN<|PY O<|Ra O<|Q4 O<|PR ?_;exact(D (i+1) _ ⟨ω,u.trans d⟩ ω).qb
  ·have r:i=3:=ω
   subst r;have h1:=h.ext u;have V:=C.kp (S:=λ_=>False) u.kp (λ_ _ e=>e);have N:=V.cells;have c:=Ext.Qm w1;have J:=WN (s:=s) 3;refine Q7 O<|It<|Sq (λw'=>Ext w1 w') O<|Ql 0 O O c<|Ql 1 O O c<|PV 2 O (Rs O) c<|PV 3 O (QE RF O) c<|PV 4 O (QE z7h O) c<|qT 5 O (λ_ h=>Q0 U4 O O (h.PO N) O) c<|Ql 7 O O c<|PV 8 O (Rs O) c<|PV 9 O (QE RF O) c<|PV 10 O (QE z30 O) c<|qT 11 O (λ_ h=>Q0 U4 O O (h.PO N) O) c ?_;refine TQ 6 O zjH O (z2U s.Rf _) ?_;rintro _ _⟨rfl,rfl⟩;refine⟨c,?_⟩;refine TQ 12 O zjH O (z2U s.done _) ?_;rintro _ _⟨rfl,rfl⟩;refine⟨c,?_⟩;refine qO 13 (ZS (i:=13) O O O (YI (cs:=[_,_]) (zs:=[Value.int .u8 0,Value.int .u8 0]) RB YK O y00 O O O ψ) ?_);rintro _ w2⟨b2,rfl,⟨bR,d,ak⟩,P⟩;refine⟨c.trans d,?_⟩;have Z:Sl w2 (.slice (some ⟨b2,0,none⟩) 2 2) 5 1 2 (([if s.Rf then 1 else 0,if s.done then 1 else 0]:PU).map Ua):=P;refine qO 14 (zhe (i:=14) O O O (zfD (l:=([if s.Rf then 1 else 0,if s.done then 1 else 0]:PU)) RB U5 U9 O Z) (c.trans d) (PV 15 O (Xt O O (by rw[J];exact(by decide:4*3+2<=9223372036854775807))) (c.trans d) ?_));rw[show YB s 3++([if s.Rf then 1 else 0,if s.done then 1 else 0]:PU)=dmP s 0 from rfl];have y:=c.trans d;have h2:=h1.ext y;have U:=V.kp (S:=λ_=>False) y.kp (λ_ _ e=>e);have t:=U.cells;refine PV 16 O (SG O) (c.trans d)<|qE<|QV O<|QC O<|Qf VA O<|qV (QB z0q O z5W O (Q8.cells (n:=5) t (news:=[_,_,_,_,_]) O) O)<|Q4 O<|PR<|QA.qb (e:=[(5,_),(61,_),(62,_)]) ?_;refine PT<|SN (α:=Nat) (0) (λi=>[(5,S (dmP s i)),(61,.agg #[ptr (vb 0) 0,ptr (vb 1) 0,ptr (vb 2) 0,ptr (vb 3) 0,ptr (vb 4) 0]),(62,I (i:Int))]) (λi w'=>i<=5/\St (Vg T.k root) G T Q txt K X rr O_ a L s w'/\Zo Q txt G.k T.k root rr O_ a L s vb w'/\Kp (λb=>¬YA G T X b) w w') (λi=>5-i) ?hI ?hround
   case hI=>exact⟨y03 _,h2,U,(u.trans y).kp⟩
   case hround=>
    rintro i w4⟨hi,f,E,H⟩ D
    try dsimp only
    refine qN O<|RT O<|PR<|It<|Qa O (λA=>?_)<|λA=>?_
    ·have q:i<5:=ω
     have F:(#[ptr (vb 0) 0,ptr (vb 1) 0,ptr (vb 2) 0,ptr (vb 3) 0,ptr (vb 4) 0]:Array Value)[i]? =some (ptr (vb i) 0):=by
      obtain rfl|rfl|rfl|rfl|rfl:i=0\/i=1\/i=2\/i=3\/i=4:=ω
      all_goals rfl
     have g8:=z1C R i ω;have qB:=Un 4 (s.vec i);have PF:=R i q;have aN:i*(4*G.g.length)<=5*(4*40):=y15 ω ω;refine PS<|RU<|qN O<|qV (yxa z0q YU z3k O O O q (v:=ptr (vb i) 0) F)<|RZ O<|Qj zlo O (z7Z f.sp f.lt f.m.g.z7g (E.vs i q).1 (.inl (.inl (f.xr _ (E.o.2 i q))))) ?_;rintro _ w5⟨rfl,gX,z⟩;have h5:=f.read z gX;have n6:Zo Q txt G.k T.k root rr O_ a L s vb w5:=E.kp z (λb e W=>W (.inl (.inl (f.xr b e))));refine Q4 O (Tr O (Rw O (QV O (RI O (Ri O (PY O (Qq O (qV (Xt O O ω) ?_))))))));rw[show dmP s i++Wc 4 (s.vec i)=dmP s (i+1) from rfl];refine Qe O<|PN<|PY O<|Ra O<|Q4 O<|PR ?_;exact(D (i+1) _ ⟨ω,h5,n6,H.trans z⟩ ω).qb
    ·have q:i=5:=ω
     subst q;refine Q7 O<|Qz O<|Rw O<|PQ func16 O ?_
     exact⟨_,rfl,rfl,λj hj x hx=>by
      obtain⟨p,hp⟩:=y2U hx
      exact((C.vs j hj).1.zer hp).1,f,H⟩
end
def TH {b3 n:Nat}{tx r:PU}(hB:Q8 w b3 [S tx] 9)(hi:i<3)(d:tx.drop (i*4)=Ut 4 n++r)(f:n<4294967296)(c:i*4<=tx.length):Qx prog 52 ([I (i:Int)]++[ptr b3 0]) w λv w'=>v=I (n:Int)/\Ext w w':=by
 have h:=QS 4 n
 refine py (e:=[(0,_),(1,_)]) func52 O ntmps52 O O<|qN O<|Sb O<|qV (Q0 U9 O O hB O)<|Q4 O<|qV (WB O O ω) ?_
 rw[show(i:Int)*4=((i*4:Nat):Int) by omega]
 refine qV (z1l (m:=i*4) U9 O O c) ?_
 rw[d]
 refine Qj zlk O (zaa _ _ (by rw[y01];omega)) ?_
 rintro _ w1⟨rfl,b⟩
 rw[z8R f]
 refine qV (QU O RO U3 ω)<|Qe O<|PQ func52 O ?_
 exact⟨_,O,O,b⟩
section
variable {v:Nat}
theorem z84 (h:St (Vg T.k root) G T Q txt K X rr O_ a L s0 w)(pQ:∀j,j<5->(s0.vec j).length=G.g.length)(V:∀j,j<5->(s.vec j).length=G.g.length)(h4:∀j,j<5->∀x∈s.vec j,x<2^(8*4))(B:∀i,i<3->dmN s i<4294967296)(NS:s.fin<=G.g.length/\s.Qg<=G.g.length)(hK:K<=700000000000):Qx prog 18 [ptr rr 0,S (dmT s)] w λv w'=>v=I 0/\(∃txt',St (Vg T.k root) G T Q txt' (K+5) X rr O_ a L s w'/\∀y:Int,y<(a:Int)\/(a:Int)+(L:Int)<=y->txt' y=txt y)/\Kp (λb=>¬X b\/O_ b) w w':=by
 have dH:=h.m.n
 have cu:=h.far
 have bO:∀b,X b->b<w.heap.size:=λb hb=>h.lt b (.inl (.inl hb))
 obtain⟨vb,hV⟩:=h.dm
 have hR:=hV.cells
 have aw:(dmT s).length=14+5*(4*G.g.length):=z1C V 5 (y04 _)
 have A:=λi (hi:i<3)=>zdT (s:=s) hi
 obtain⟨i5,oV⟩:=zcN (s:=s)
 have uR:=λi (hi:i<5)=>zhd (s:=s) V hi
 generalize dmT s=tx at aw A i5 oV uR
 obtain⟨d1,qp,Oq,HP⟩:∃d:Nat,(tx.getD 12 0).toNat=d/\d<=1/\decide ((d:Int)=1)=s.Rf:=by
  rw[i5];cases s.Rf
  ·exact⟨0,O,ψ,O⟩
  ·exact⟨1,O,ψ,O⟩
 obtain⟨d2,m8,Ot,HQ⟩:∃d:Nat,(tx.getD 13 0).toNat=d/\d<=1/\decide ((d:Int)=1)=s.done:=by
  rw[oV];cases s.done
  ·exact⟨0,O,ψ,O⟩
  ·exact⟨1,O,ψ,O⟩
 refine py (e:=[(0,_),(1,_)]) func18 O ntmps18 O O<|qN O<|PX O O (Sy O (cs:=[S tx]) O) ?_
 rintro _ w1⟨b3,rfl,ev,ad,p⟩
 have z1:=ad.size
 have l1:=p.lt
 have h1:=h.ext ad
 have fV:=ad.PO hR
 refine Qe O<|QV O<|Qj zeJ O (Wj h1) ?_
 rintro _ w1⟨rfl,rfl⟩
 refine RZ O<|RI O<|Ri O<|Qz O<|QC O<|Qf z1O O<|qV (Q0 U28 O O fV O)<|Qj z7O O (z9a h1) ?_
 rintro _ w1⟨rfl,rfl⟩
 refine Qe O<|It<|qN O<|qV (Q0 U9 O O p O)<|qV (Wb U9 O)<|Q4 O<|qV (WB O O ω)<|Ra O<|RI O<|QW<|Ri O<|qN O<|qV (ymf (first:=[]) (caps:=[.tmp 3]) O O)<|Qe O ?_
 refine It<|QT (λe' w'=>∃f:Nat,e'=[(0,ptr rr 0),(3,ptr b3 0),(6,I (G.g.length:Int)),(8,ptr f 0)]/\Ext w1 w'/\w1.heap.size<=f/\Q8 w' f [I (s.steps:Int),I (s.fin:Int),I (s.Qg:Int),.bool s.Rf,.bool s.done] 99) ?dq<|λdq=>?tH
 case dq=>
  rintro e' w2⟨f,rfl,aC,gV,c⟩;have aF:=ad.trans aC;have z2:=aF.size;have l8:=c.lt;have de:=aC.PO p;obtain⟨z,eE⟩:∃z:Nat->Prop,(λj=>X j\/j=b3\/j=f)=z:=⟨_,O⟩;have eI:∀j,X j->z j:=λj C=>by rw[<-eE];exact .inl C
  have aN:z b3/\z f:=by rw[<-eE];exact⟨.inr (.inl O),.inr (.inr O)⟩
  have h2:St (Vg T.k root) G T Q txt K z rr O_ a L s0 w2:=h.grow aF (λj C=>by rw[<-eE] at C;exact C.imp id λe=>ω) eI;have kS:=hV.kp (S:=λ_=>False) aF.kp (λ_ _ e=>e);have cA:=kS.cells;refine It<|qN O<|Qf Zm O<|qV (Q0 U3 O O c O)<|Q4 O<|RR O<|QW<|Q4 O<|Qf Wy O<|qV (Q0 U3 O O c O)<|Q4 O<|RR O<|QW<|R0 O ?_;refine Ri O<|QV O<|QC O<|Qf VA O<|qV (QB z0q O z5W O (Q8.cells (n:=5) cA (news:=[_,_,_,_,_]) O) O)<|Q4 O<|PR<|PT<|SN (α:=Nat) (0) (λi=>[(0,ptr rr 0),(3,ptr b3 0),(6,I (G.g.length:Int)),(8,ptr f 0),(56,.agg #[ptr (vb 0) 0,ptr (vb 1) 0,ptr (vb 2) 0,ptr (vb 3) 0,ptr (vb 4) 0]),(57,I (i:Int))]) (λi w'=>i<=5/\(∃txt',St (Vg T.k root) G T Q txt' (K+i) z rr O_ a L (z26 s0 s i) w'/\Zo Q txt' G.k T.k root rr O_ a L (z26 s0 s i) vb w'/\∀y:Int,y<(a:Int)\/(a:Int)+(L:Int)<=y->txt' y=txt y)/\Q8 w' b3 [S tx] 9/\Q8 w' f [I (s.steps:Int),I (s.fin:Int),I (s.Qg:Int),.bool s.Rf,.bool s.done] 99/\Kp (λb=>¬YA G T z b) w2 w') (λi=>5-i) ?hI ?hround
  case hI=>exact⟨y03 _,⟨txt,h2,kS,λ_ _=>rfl⟩,de,c,Kp.refl _ _⟩
  case hround=>
   rintro i w4⟨hi,⟨t,W,Z,mN⟩,cY,dQ,aq⟩ ih;dsimp only
   try dsimp only
   refine qN O<|RT O<|PR<|It<|Qa O (λh0=>?_)<|λh0=>?_
   ·have q:i<5:=ω
    have vS:(#[ptr (vb 0) 0,ptr (vb 1) 0,ptr (vb 2) 0,ptr (vb 3) 0,ptr (vb 4) 0]:Array Value)[i]? =some (ptr (vb i) 0):=by
     obtain rfl|rfl|rfl|rfl|rfl:i=0\/i=1\/i=2\/i=3\/i=4:=ω
     all_goals rfl
    have sJ:((z26 s0 s i).vec i).length=G.g.length:=by rw[z3U q,if_neg ω];exact pQ i q
    have hu:z0T 4 ((z26 s0 s i).vec i).length (Wc 4 (s.vec i))=s.vec i:=by rw[sJ,<-V i q];exact z2e (h4 i q)
    obtain⟨N,hN⟩:∃N,4*G.g.length=N:=⟨_,O⟩
    have PG:i*N+N<=5*N:=by
     have:=y0S N (show i+1<=5 by omega);rw[y0q] at this;omega
    have Ou:N<=160:=ω
    have kF:(i:Int)*4*(G.g.length:Int)=((i*N:Nat):Int):=by rw[<-hN];push_cast;rw[Int.mul_assoc]
    have dr:(4:Int)*(G.g.length:Int)=(N:Int):=by rw[<-hN];push_cast;rfl
    have JX:=uR i q;rw[hN] at JX aw;have Ad:=z8e W.sp W.lt ω (Z.vs i q).1 (.inl (.inl (W.xr _ (Z.o.2 i q)))) (s:=Wc 4 (s.vec i)) (by rw[Un,sJ,V i q]);refine PS (RU (Qz O (qV (yxa z0q YU z3k O O O q (v:=ptr (vb i) 0) vS) (Tq O (RZ O (qV (WB O O ω) (Q4 O (qV (WB O O (by rw[kF];omega)) ?_))))))));rw[kF];refine Ra O ?_;rw[show(14:Int)+((i*N:Nat):Int)=((14+i*N:Nat):Int) by push_cast;rfl];refine RZ O (qV (Q0 U9 O O cY O) (Qq O (Q4 O (qV (WB O O (by rw[dr];omega)) ?_))));rw[dr];refine Ra O ?_;rw[show((14+i*N:Nat):Int)+(N:Int)=((14+i*N+N:Nat):Int) by push_cast;rfl];refine qV (zgq (m:=14+i*N) (n:=14+i*N+N) U9 O O O ω) ?_;rw[show 14+i*N+N-(14+i*N)=N by omega,JX];refine Qj zl0 O Ad ?_;rintro _ w5⟨rfl,hW⟩;rw[hu,UH (show(DmS.vec _ i).length<=100 by rw[sJ];omega)] at hW;obtain⟨P,h5,n6,AD,R⟩:=W.z2l Z q (by rw[sJ];exact V i q) ω hW;rw[z7a q] at h5 n6;have JY:∀{j},z j->¬¬YA G T z j:=λC e=>e (.inl (.inl C));have cB:=R.PO cY (JY aN.1);have bC:=R.PO dQ (JY aN.2);refine RZ O<|RI O<|Ri O<|PN<|PY O<|Ra O<|Q4 O<|PR ?_;exact(ih (i+1) _ ⟨ω,⟨P,h5,n6,λy e=>(AD y e).trans (mN y e)⟩,cB,bC,aq.trans R⟩ ω).qb
   ·have q:i=5:=ω
    subst q;have en:=Z.cells;refine Q7 O (Qz O (qV (QB U99 O YC O (Q8.cells (n:=5) dQ (news:=[_,_,_,_,_]) O) O) (QC O (Qf RF O (Qc O (QX (news:=[I (s.steps:Int),I (s.fin:Int),I (s.Qg:Int),.bool s.Rf,.bool s.done]) YC O O O O en ξ) ?_)))));rintro w5⟨gU,R⟩;have h5:=W.zaW (s':=s) Z R gU (λj C=>by rw[z3U C,if_pos C]);refine qM O<|Qe O<|PQ func18 O ?_;exact⟨_,O,O,⟨t,h5.less eI h.xk h.xr,mN⟩,((aF.kp.trans (aq.PZ λb e e2=>e (.inl (.inl (eI b e2))))).PZ λb e=> .inl e).trans (R.PZ λb e=> .inr (by rw[e];exact hV.o.1))⟩
 case tH=>
  have hg:=Ext.Qm w1;refine Qp [14] (λw'=>Ext w1 w') y00 O (R1 0 O O hg (R1 2 O O hg (R1 4 O O hg (qL 6 O (λ_ h=>Q0 U9 O O (h.PO p) O) hg (Qs 7 O (z5v U9 O O ω) hg (qL 9 O (λ_ h=>Q0 U9 O O (h.PO p) O) hg (Qs 10 O (z5v U9 O O ω) hg ?_)))))));rw[qp,m8];refine Qs 8 O (yeq O O) hg<|Qs 11 O (yeq O O) hg ?_;rw[HP,HQ];refine Wp (i:=1) (j:=13) y00 ?_ ?_
  ·obtain⟨r0,je⟩:=A 0 ψ;refine S2 (i:=1) O O O (SQ z4Y O O) (TH (hg.PO p) (i:=0) ψ je (B 0 ψ) ω) ?_;rintro _ a1⟨rfl,H⟩;refine⟨hg.trans H,?_⟩
   try have c:=H.PO c
   have hg:=hg.trans H;refine Wp (i:=3) (j:=13) y00 ?_ ?_
   ·obtain⟨r1,U⟩:=A 1 ψ;refine S2 (i:=3) O O O (SQ z4Y O O) (TH (hg.PO p) (i:=1) ψ U (B 1 ψ) ω) ?_;rintro _ a0⟨rfl,r⟩;refine⟨hg.trans r,?_⟩
    try have c:=r.PO c
    have hg:=hg.trans r;refine Wp (i:=5) (j:=13) y00 ?_ ?_
    ·obtain⟨r2,D⟩:=A 2 ψ;refine S2 (i:=5) O O O (SQ z4Y O O) (TH (hg.PO p) (i:=2) ψ D (B 2 ψ) ω) ?_;rintro _ M⟨rfl,l⟩;refine⟨hg.trans l,?_⟩
     try have c:=l.PO c
     have hg:=hg.trans l;refine Qs 12 O (To (cs:=[_,_,_,_,_]) YC O ze5 O O) hg ?_;have HR:=hg.size;refine RM (i:=13) y00<|Rp (i:=13) O O O (SE (cs:=[_,_,_,_,_]) YC O) ?_;rintro _ wd⟨f,rfl,gV,u,c⟩;refine⟨hg.trans u,?_⟩;have hg:=hg.trans u;have J:w1.heap.size<=f:=ω
     refine U0 [14] (qO 14 (QQ (i:=14) O O (QX (news:=[I (s.steps:Int),I (s.fin:Int),I (s.Qg:Int),.bool s.Rf,.bool s.done]) YC O O O O c ξ) ?_));rintro we⟨E,F⟩;refine⟨trivial,?_⟩;refine qE<|QA.qb (e:=[(0,_),(3,_),(4,_),(6,_),(8,_)]) ?_;exact(dq _ _ ⟨f,O,hg.An F (λj e=>ω),J,E⟩).qb
    ·have HR:=hg.size;refine Rp (i:=13) O O O (SE (cs:=[_,_,_,_,_]) YC O) ?_;rintro _ wd⟨f,rfl,gV,u,c⟩;refine⟨hg.trans u,?_⟩;have hg:=hg.trans u;have J:w1.heap.size<=f:=ω
     obtain⟨r2,D⟩:=A 2 ψ;refine RM (i:=5) y00 (S2 (i:=5) O O O (SQ z4Y O O) (TH (hg.PO p) (i:=2) ψ D (B 2 ψ) ω) ?_);rintro _ M⟨rfl,l⟩;refine⟨hg.trans l,?_⟩
     try have c:=l.PO c
     have hg:=hg.trans l;refine Qs 12 O (To (cs:=[_,_,_,_,_]) YC O ze5 O O) hg (U0 [14] (qO 14 (QQ (i:=14) O O (QX (news:=[I (s.steps:Int),I (s.fin:Int),I (s.Qg:Int),.bool s.Rf,.bool s.done]) YC O O O O c ξ) ?_)));rintro we⟨E,F⟩;refine⟨trivial,?_⟩;refine qE<|QA.qb (e:=[(0,_),(3,_),(4,_),(6,_),(8,_)]) ?_;exact(dq _ _ ⟨f,O,hg.An F (λj e=>ω),J,E⟩).qb
   ·have HR:=hg.size;refine Rp (i:=13) O O O (SE (cs:=[_,_,_,_,_]) YC O) ?_;rintro _ wd⟨f,rfl,gV,u,c⟩;refine⟨hg.trans u,?_⟩;have hg:=hg.trans u;have J:w1.heap.size<=f:=ω
    obtain⟨r1,U⟩:=A 1 ψ;refine RM (i:=3) y00 (S2 (i:=3) O O O (SQ z4Y O O) (TH (hg.PO p) (i:=1) ψ U (B 1 ψ) ω) ?_);rintro _ a0⟨rfl,r⟩;refine⟨hg.trans r,?_⟩
    try have c:=r.PO c
    have hg:=hg.trans r;obtain⟨r2,D⟩:=A 2 ψ;refine RM (i:=5) y00 (S2 (i:=5) O O O (SQ z4Y O O) (TH (hg.PO p) (i:=2) ψ D (B 2 ψ) ω) ?_);rintro _ M⟨rfl,l⟩;refine⟨hg.trans l,?_⟩
    try have c:=l.PO c
    have hg:=hg.trans l;refine Qs 12 O (To (cs:=[_,_,_,_,_]) YC O ze5 O O) hg (U0 [14] (qO 14 (QQ (i:=14) O O (QX (news:=[I (s.steps:Int),I (s.fin:Int),I (s.Qg:Int),.bool s.Rf,.bool s.done]) YC O O O O c ξ) ?_)));rintro we⟨E,F⟩;refine⟨trivial,?_⟩;refine qE<|QA.qb (e:=[(0,_),(3,_),(4,_),(6,_),(8,_)]) ?_;exact(dq _ _ ⟨f,O,hg.An F (λj e=>ω),J,E⟩).qb
  ·have HR:=hg.size;refine Rp (i:=13) O O O (SE (cs:=[_,_,_,_,_]) YC O) ?_;rintro _ wd⟨f,rfl,gV,u,c⟩;refine⟨hg.trans u,?_⟩;have hg:=hg.trans u;have J:w1.heap.size<=f:=ω
   obtain⟨r0,je⟩:=A 0 ψ;refine RM (i:=1) y00 (S2 (i:=1) O O O (SQ z4Y O O) (TH (hg.PO p) (i:=0) ψ je (B 0 ψ) ω) ?_);rintro _ a1⟨rfl,H⟩;refine⟨hg.trans H,?_⟩
   try have c:=H.PO c
   have hg:=hg.trans H;obtain⟨r1,U⟩:=A 1 ψ;refine RM (i:=3) y00 (S2 (i:=3) O O O (SQ z4Y O O) (TH (hg.PO p) (i:=1) ψ U (B 1 ψ) ω) ?_);rintro _ a0⟨rfl,r⟩;refine⟨hg.trans r,?_⟩
   try have c:=r.PO c
   have hg:=hg.trans r;obtain⟨r2,D⟩:=A 2 ψ;refine RM (i:=5) y00 (S2 (i:=5) O O O (SQ z4Y O O) (TH (hg.PO p) (i:=2) ψ D (B 2 ψ) ω) ?_);rintro _ M⟨rfl,l⟩;refine⟨hg.trans l,?_⟩
   try have c:=l.PO c
   have hg:=hg.trans l;refine Qs 12 O (To (cs:=[_,_,_,_,_]) YC O ze5 O O) hg (U0 [14] (qO 14 (QQ (i:=14) O O (QX (news:=[I (s.steps:Int),I (s.fin:Int),I (s.Qg:Int),.bool s.Rf,.bool s.done]) YC O O O O c ξ) ?_)));rintro we⟨E,F⟩;refine⟨trivial,?_⟩;refine qE<|QA.qb (e:=[(0,_),(3,_),(4,_),(6,_),(8,_)]) ?_;exact(dq _ _ ⟨f,O,hg.An F (λj e=>ω),J,E⟩).qb
end
def z5w (w:World)(la:Option Addr)(ls:List (Int×Int×Int)):Prop:=∀(i:Nat)(e:Int×Int×Int),ls[i]? =some e->JIq e.1/\JIq e.2.1/\JIq e.2.2/\∃b lo,la=some ⟨b,lo,none⟩/\w.cell? ⟨b,lo+i*3+0,none⟩=some (I e.1)/\w.cell? ⟨b,lo+i*3+1,none⟩=some (I e.2.1)/\w.cell? ⟨b,lo+i*3+2,none⟩=some (I e.2.2)
theorem z5w.ext (h:z5w w la ls)(b:Ext w w'):z5w w' la ls:=λi e p=>by
 obtain⟨c,d,f,q,lo,l,m,n,o⟩:=h i e p
 exact⟨c,d,f,q,lo,l,Rx b m,Rx b n,Rx b o⟩
structure DrM (P:Nat->Prop)(g:List (List Nat))(root rr:Nat)(s:DmS)(w:World):Prop where
 ex:∃(G T:Y0)(Q:Sf) (txt:Int->PU) (K:Nat) (X O_:Nat->Prop) (a:Nat),St (Vg T.k root) G T Q txt K X rr O_ a 5 s w/\G.g=g/\T.g=R5 g/\(∀b,P b->X b/\¬O_ b)/\2<=a/\a+5<=Q.L.length/\(∀i,a<=i->i<a+5->Q.L[i]? =some true)/\K<=30000000+9000*s.steps
section
variable {P:Nat->Prop}
theorem z8A (h:DrM P g root rr s w)(x:root<g.length)(n:DmJ g root s)(p:s.done=false)(l:s.steps<=3000):Qx prog 15 [ptr rr 0] w λv w'=>v= .tuple #[.bool (s.step g (R5 g) root).done,I 0]/\DrM P g root rr (s.step g (R5 g) root) w'/\Kp (λb=>¬P b) w w':=by
 obtain⟨G,T,Q,txt,K,X,O_,a,m,rfl,ht,c,o,q,u,z⟩:=h
 have A:T.g.length=G.g.length:=by rw[ht];exact SW _
 refine(z1f m n ht x ω p ω).mono ?_
 rintro v w'⟨rfl,⟨txt',K',f,y,-⟩,r⟩
 rw[ht] at f⊢
 have l:(s.step G.g (R5 G.g) root).steps=s.steps+1:=z1R
 exact⟨O,⟨G,T,Q,txt',K',X,O_,a,f,O,ht,c,o,q,u,ω⟩,r.PZ λb e d=>e.elim (λe=>e (c b d).1) (c b d).2⟩
theorem zaP (h:DrM P g root rr s w)(m:s.done=true){v x:Nat}(o:s.cand[v]? =some x):Qx prog 19 [ptr rr 0,I (v:Int)] w λr w'=>r= .tuple #[Qi (dmV x),I 0]/\DrM P g root rr s w'/\Kp (λb=>¬P b) w w':=by
 obtain⟨G,T,Q,txt,K,X,O_,a,l,c⟩:=h
 refine(z3F l m o).mono ?_
 rintro v w'⟨rfl,f,n⟩
 exact⟨O,⟨G,T,Q,txt,K,X,O_,a,f,c⟩,n.PZ λb e d=>e (.inl (.inl (c.2.2.1 b d).1))⟩
theorem z5s (h:DrM P g root rr s w):Qx prog 20 [ptr rr 0] w λv w'=>v=I (s.steps:Int)/\w'=w:=by
 obtain⟨G,T,Q,txt,K,X,O_,a,b,c⟩:=h
 exact z5h b
theorem z7k (h:DrM P g root rr s w)(f:DmJ g root s)(u:s.steps<=3000):Qx prog 16 [ptr rr 0] w λv w'=>v= .tuple #[S (dmT s),I 0]/\(∀j,j<5->∀x∈s.vec j,x<2^(8*4))/\DrM P g root rr s w'/\Kp (λb=>¬P b) w w':=by
 obtain⟨G,T,Q,txt,K,X,O_,a,c,rfl,d⟩:=h
 have r:=c.m.n
 refine(z7n c f.vl (f.nl r ω)).mono ?_
 rintro v w'⟨rfl,p,o,q⟩
 exact⟨O,p,⟨G,T,Q,txt,K,X,O_,a,o,O,d⟩,q.PZ λb e l=>e (.inl (.inl (d.2.1 b l).1))⟩
theorem z5q {c:World}{V l:Y0}{q:Sf}{d:Int->PU}{p:Nat}{m:Nat->Prop}(h:DrM P g root rr s c)(y:Ext c w)(E:W8 V l q d p m w)(C:∀b,b<c.heap.size->m b)(R:c.heap.size<=V.k/\c.heap.size<=V.x/\c.heap.size<=l.k/\c.heap.size<=l.x)(o:P 1/\P 2):Qx prog 17 [ptr rr 0] w λv w'=>v=I 0/\W8 V l q d p m w'/\Kp (λb=>¬P b/\b<c.heap.size) w w':=by
 obtain⟨G,T,Q,txt,K,X,O_,a,n,rfl,ht,u,F,J,M,N⟩:=h
 have B:∀b,YA G T X b->b<c.heap.size:=n.lt
 have z:=y.size
 have D:St (Vg T.k root) G T Q txt K (λb=>X b\/(c.heap.size<=b/\b<w.heap.size)) rr O_ a 5 s w:=n.grow y (λj e=>e) (λj e=> .inl e)
 refine(z0Q D F J M).mono ?_
 rintro v w'⟨rfl,txt',-,-,A⟩
 have r:Kp (λb=>b<c.heap.size/\¬P b) w w':=A.mono λb H e=>by
  rcases e with e| e
  ·refine⟨?_,λf=>e (.inl (u b f).1)⟩;rcases y0a b c.heap.size with h| h
   ·exact h
   ·exact absurd (.inr ⟨h,H⟩) e
  ·exact⟨B b (.inl (.inl (n.xr b e))),λf=>(u b f).2 e⟩
 refine⟨O,E.own r λb e=>⟨C b e.1,ω,ω,ω,ω,λf=>e.2 (f▸o.1),λf=>e.2 (f▸o.2)⟩,r.PZ λb e=>⟨e.2,e.1⟩⟩
end
theorem domtaken_ret (hG:Q8 w 1 (Tu .gamma) 314)(hU:Q8 w 2 (Tu .unary) 314)(n root:Int)(jy:JIq root)(hn:JIq n){ea:Option Addr}{ec:Nat}{es:List (Nat×Nat)}(ui:es.length<=9000000000000000000)(hE:EdR w ea es){lc:Nat}(iq:ls.length<=9000000000000000000)(hL:z5w w la ls):Qx prog 5 [I n,.slice ea es.length ec,I root,.slice la ls.length lc] w λv w'=>v= .bool true/\Ext w w':=by
 refine py (e:=[(0,_),(1,_),(2,_),(3,_)]) func5 O ntmps5 O O<|qN O<|RZ O<|Qj cf9 O (z4y n hn _) ?_
 rintro _ w⟨m,rfl,kF,dr,rfl⟩
 refine Q4 O<|Qj cf8 O (zaq kF dr ui hE) ?_
 rintro _ w1⟨g,bg,rfl,jO,R,fV,ad⟩
 have r1:=UW root (g.length:Int) ω
 have r2:=WQ root (g.length:Int) ω
 refine Sb O<|Qq O<|SS U23 O<|qV (yrt O O ω)<|Q4 O<|SS U23 O<|Ra O<|Q4 O<|SS U23 O<|qV (yrt O O ω) ?_
 rw[show(root.tmod (g.length:Int)+(g.length:Int)).tmod (g.length:Int)=nrm root (g.length:Int) from rfl]
 obtain⟨r,hr,xh⟩:∃r:Nat,nrm root (g.length:Int)=(r:Int)/\r<g.length:=⟨(nrm root (g.length:Int)).toNat,ω,ω⟩
 rw[hr]
 have vW:=fV.gr
 have aH:1<=g.length:=ω
 have eH:g.length<=40:=ω
 have HH:g.length<=60:=ω
 have xi:=ad.PO hG
 have xj:=ad.PO hU
 have a6:=xi.lt
 have a7:=xj.lt
 have tc:=hL.ext ad
 refine RZ O<|Qj zed O (z9R R aH eH vW xi xj 3 0 ψ ψ) ?_
 rintro _ w5⟨W,XX,rfl,hW,aS,ff⟩
 have z5:=aS.size
 refine Q4 O<|Tr O<|PX O O (SE (cs:=[_,_,_,_,_]) ZM O) ?_
 rintro _ w6⟨b6,rfl,oY,aR,aU⟩
 have z6:=aR.size
 refine Qc O (QX (news:=W.v) ZM O O O O aU ξ) ?_
 rintro w7⟨cd,ay⟩
 have lY:Q8 w7 b6 [ptr W.d 0,ptr W.Q.s 0,ptr W.G.k 0,ptr W.T.k 0,I ((200-W.a:Nat):Int)] 30:=cd
 have l7:=cd.lt
 have z7:=ay.size
 have kB:Ext w5 w7:=aR.An ay λb e=>ω
 have di:=aS.trans kB
 have JO:=hW.K
 have Ow:=hW.a
 have Ox:=hW.L
 have oR:=hW.pre
 refine Qe O<|QA.qb (e:=[(2,_),(3,_),(8,_),(9,_),(10,_),(11,_)]) ?_
 refine QV O<|qV (Tf O) ?_
 rw[show(!true)=false from rfl]
 refine Q4 O<|Qj zm7 O (z5k (di.PO xi) (di.PO xj)) ?_
 rintro _ w8⟨rfl,cE⟩
 refine qV (Tf O) ?_
 rw[show(!true)=false from rfl]
 have aW:=cE.PO lY
 obtain⟨X,hX⟩:∃X:Nat->Prop,(λb=>W.x XX b\/b=b6)=X:=⟨_,O⟩
 have HS:∀b,b<w1.heap.size->X b:=λb A=>by rw[<-hX];exact .inl (ff b A)
 have oA:X b6:=by rw[<-hX];exact .inr O
 have z8:=cE.size
 have h8:W8 W.G W.T W.Q W.txt W.K X w8:=hW.gw2.grow (kB.trans cE) (λj e=>by rw[<-hX] at e;exact e.imp id λe=>ω) (λj e=>by rw[<-hX];exact .inl e)
 have JW:=hW.gs
 have jK:=hW.ts
 have o:=hW.gg
 have uK:=hW.tg
 refine R0 O<|Ri O<|qN O<|qV (QB U30 O ZM O (Q8.cells (n:=5) aW (news:=[_,_,_,_,_]) O) O)<|Q4 O<|Qj zkU O (YJ h8 ω o uK oR Ow Ox JW jK R xh eH) ?_
 rintro _ w9⟨k,Y,gc,a8,K9,rfl,aI,um,mV,ii,PH,ny,-,aM⟩
 have z9:=aM.size
 have aa:=mV.lt (g:=Y) O
 have ie:Ext w1 w9:=(di.trans cE).An aM λb e=>by
  rcases y0a b w1.heap.size with h| h
  ·exact absurd (HS b h) e
  ·exact h
 have cO:=aM.PO aW (λe=>e oA)
 have hJ:∀j,j<=k->DmJ g r (TS g (R5 g) r j):=λj hj=>z7X R xh (λu v=>z0i R) j λl hl=>um.f l ω
 have qz:g.length*g.length<=40*40:=y15 eH eH
 have am:k<=2000:=by
  have h1:=(hJ (k-1) ω).bound (um.f (k-1) ω) R;rw[UU] at h1;omega
 obtain⟨P,hP⟩:∃P:Nat->Prop,(λb=>b<w1.heap.size\/b=Y)=P:=⟨_,O⟩
 have jA:∀b,b<w1.heap.size->P b:=λb A=>by rw[<-hP];exact .inl A
 have Oy:P Y:=by rw[<-hP];exact .inr O
 have GE:∀b,P b->b<w9.heap.size:=λb A=>by rw[<-hP] at A;omega
 have oS:∀j,j<=k->(TS g (R5 g) r j).done=true->j=k:=λj hj hd=>by
  rcases y0a j k with h| h
  ·have:=um.f j h;rw[hd] at this;cases this
  ·omega
 refine Q4 O<|Tr O<|Tq O<|Sb O<|Qf z1T O<|qV (Q0 XG O O cO O)<|Qf z7d O<|qV (Q0 U28 O O cO O)<|Qf z7W O<|qV (Q0 U28 O O cO O)<|Q4 O<|Qj zgK O (z0r ii ω (by rw[o];omega) (by rw[o];exact R) (by rw[o];exact uK) oR ω jK ω (by rw[o];exact xh)) ?_
 rintro _ wa⟨a3,O0,a4,Ka,rfl,Oz,PI,K0,-,bF⟩
 have za:=bF.size
 have HT:DrM P g r a3 (TS g (R5 g) r 0) wa:=⟨W.G,W.T,_,a4,_,_,O0,W.a,by rw[o] at K0;exact K0,o,uK,λb A=>by
   rw[<-hP] at A;refine⟨.inl (A.elim (λe=> .inl (HS b e)) .inr),λe=>?_⟩;have:=Oz b e
   omega,oR.a2,by show W.a+5<=(R9 W.Q.L W.a 5 true).length;rw[Rq ω];omega,λi e1 M=>by
   show(R9 W.Q.L W.a 5 true)[i]? =some true
   rw[SZ ω,if_pos ⟨e1,M⟩],ω⟩
 have HU:Kp (λb=>¬P b) w9 wa:=bF.PZ λb e M=>by
  rw[<-hP] at M;exact e (M.elim (λh=> .inl (HS b h)) .inr)
 have lF:∀{w':World},Kp (λb=>¬P b) w9 w'->Ext w1 w':=λhk=>ie.An hk λb e=>by
  rcases y0a b w1.heap.size with h| h
  ·exact absurd (jA b h) e
  ·exact h
 refine Q4 O<|Tr O<|Rw O<|QA.qb (e:=[(2,_),(3,_),(8,_),(9,_),(12,_),(13,_),(14,_),(15,_)]) ?_
 refine QV O<|Ss O<|QW<|Qq O<|RI O<|R0 O<|Ri O<|RY O<|It<|RY O<|PT<|T3 (λJ w'=>∃rr,J=[(9,.slice (some ⟨bg,0,none⟩) g.length g.length),(12,.slice (some ⟨Y,0,none⟩) g.length gc),(13,I (k:Int)),(14,ptr rr 0),(16,.bool true)]/\DrM P g r rr (TS g (R5 g) r k) w'/\Kp (λb=>¬P b) w9 w') ?eT<|λeT=>?nI
 case eT=>
  rintro J wb⟨rr,rfl,pO,cF⟩;have dF:=UU (g:=g) (t:=R5 g) (root:=r) k;have K6:=(hJ k (y04 _)).ls.2.2.1;obtain⟨s,hs⟩:∃s,TS g (R5 g) r k=s:=⟨_,O⟩;have hd:s.done=true:=hs▸um.d;rw[hs] at mV pO dF K6;refine It<|RY O<|PT<|SN (α:=Nat) (0) (λv=>[(9,.slice (some ⟨bg,0,none⟩) g.length g.length),(12,.slice (some ⟨Y,0,none⟩) g.length gc),(13,I (k:Int)),(14,ptr rr 0),(16,.bool true),(26,I (v:Int))]) (λv w'=>v<=g.length/\DrM P g r rr s w'/\Kp (λb=>¬P b) w9 w') (λv=>g.length-v) ?hI ?hround
  case hI=>exact⟨y03 _,pO,cF⟩
  case hround=>
   rintro v wc⟨hv,sL,av⟩ ih
   try dsimp only
   refine It<|RK O<|SS U23 O<|RT O<|PR<|Qa O (λh0=>?_)<|λh0=>?_
   ·have gQ:v<g.length:=ω
    obtain⟨x,hx⟩:∃x,s.cand[v]? =some x:=⟨_,y07 (by rw[K6];exact gQ)⟩;refine PS<|RU<|RK O<|Qj ziZ O (zaP sL hd hx) ?_;rintro _ wd⟨rfl,U,bI⟩;have Bo:=av.trans bI;have OA:=mV.kp Bo (λb A e=>by cases A;exact e Oy);have cx:=Rg OA.rd (i:=v) (v:=Qi (dmV x)) (by rw[y0m,hx];rfl);refine Q4 O (Tr O (Tq O (RZ O (RI O (Qq O (Qq O (qV (Rk U34 Uw O O ω) (qV (QH SK O O cx) (RI O (QW (R0 O (Ri O (PN ?_)))))))))))));refine Sv O<|Ra O<|Qe O ?_;exact(ih (v+1) _ ⟨ω,U,Bo⟩ ω).qb
   ·refine Q7 O<|RK O<|Q4 O<|Qj zm2 O (z5s sL) ?_;rintro _ wc⟨rfl,rfl⟩;rw[dF];refine Q4 O<|Ss O<|SD<|Sh O<|Qe O<|PQ func5 O ?_;exact⟨_,O,O,ad.trans (lF av)⟩
 case nI =>
  refine SN (α:=(Nat×Nat)×Nat) ((0,a3),0) (λy=>[(2,I (r:Int)),(3,.slice la ls.length lc),(9,.slice (some ⟨bg,0,none⟩) g.length g.length),(12,.slice (some ⟨Y,0,none⟩) g.length gc),(13,I (k:Int)),(14,ptr y.1.2 0),(16,.bool (TS g (R5 g) r y.1.1).done),(17,I (y.2:Int))]) (λy w'=>y.1.1<=k/\DrM P g r y.1.2 (TS g (R5 g) r y.1.1) w'/\Kp (λb=>¬P b) w9 w'/\y.2<=10/\y.2<=ls.length) (λy=>12-y.2) ?hI ?hround
  case hI=>exact⟨y03 _,HT,HU,y03 _,y03 _⟩
  case hround =>
   rintro⟨⟨j,rr⟩,i⟩ wb ⟨hj,pO,cF,HV,dp⟩ ih;dsimp only at hj pO HV dp ih⊢
   try dsimp only
   cases hd:(TS g (R5 g) r j).done with
   | true =>
     refine QV O<|qV (Tf O) ?_;have qC:=oS j hj hd;refine PR<|PW O<|Q7 O ?_
     exact(eT _ _ ⟨rr,O,qC▸pO,cF⟩).qb
   | false =>
     refine QV O<|qV (Tf O)<|PR<|Qb O<|PS<|RU<|Qz O<|Ra O<|Qe O<|It<|QT (λJ w'=>∃q:Nat,J=[(2,I (r:Int)),(3,.slice la ls.length lc),(9,.slice (some ⟨bg,0,none⟩) g.length g.length),(12,.slice (some ⟨Y,0,none⟩) g.length gc),(13,I (k:Int)),(14,ptr rr 0),(16,.bool false),(17,I (i:Int)),(18,I (q:Int))]/\q<=2001/\((i<ls.length/\i<10)\/k<q)/\w'=wb) ?av<|λav=>?dO
     case av =>
      rintro J w'⟨q,rfl,hq,lR,rfl⟩;refine It<|RY O<|PT<|T3 (λJ w'=>∃F:Nat,J=[(2,I (r:Int)),(3,.slice la ls.length lc),(9,.slice (some ⟨bg,0,none⟩) g.length g.length),(12,.slice (some ⟨Y,0,none⟩) g.length gc),(13,I (k:Int)),(14,ptr rr 0),(16,.bool (TS g (R5 g) r F).done),(17,I (i:Int))]/\F<=k/\DrM P g r rr (TS g (R5 g) r F) w'/\Kp (λb=>¬P b) w9 w'/\((TS g (R5 g) r F).done=true\/(i<ls.length/\i<10))) ?bI<|λbI=>?kr
      case bI =>
       rintro J wd⟨F,rfl,Cl,U,bI,Kb⟩;have OB:=UU (g:=g) (t:=R5 g) (root:=r) F;have pA:=hJ F Cl;refine It<|RK O<|SS U43 O ?_;by_cases h1:ls.length<=i
       ·have mZ:=Kb.resolve_right (λh=>ω);have qC:=oS F Cl mZ;rw[mZ];refine UL O<|SD<|Q4 O<|Sc<|Sh O<|PR<|Qb O<|Q7 O ?_;exact(eT _ _ ⟨rr,O,qC▸U,bI⟩).qb
       ·refine UL O<|QW<|Qq O ?_;by_cases h2:10<=i
        ·have mZ:=Kb.resolve_right (λh=>ω);have qC:=oS F Cl mZ;rw[mZ];refine UL O<|SD<|R0 O<|PR<|Qb O<|Q7 O ?_;exact(eT _ _ ⟨rr,O,qC▸U,bI⟩).qb
        ·refine UL O<|QW ?_;obtain⟨e,he⟩:∃e,ls[i]? =some e:=⟨_,y07 ω⟩;refine R0 O (Ri O (Qz O (Qj zlQ O (z7k U pA ω) ?_)));rintro _ z⟨rfl,fD,Ah,vX⟩;have vY:=bI.trans vX;have Z:=lF vY;obtain⟨-,b2,b3,lb,lo,rfl,-,gW,fT⟩:=(tc.ext Z) i e he;have l1:=(Z.PO xi).lt;have l2:=(Z.PO xj).lt;have ze:=Z.size;have OC:=vY.size;refine Q4 O<|Tr O<|Rw O<|It<|QT (λJ w'=>∃(V:Wd)(D:Nat->Prop) (H:Nat),J=[(2,I (r:Int)),(3,.slice (some ⟨lb,lo,none⟩) ls.length lc),(9,.slice (some ⟨bg,0,none⟩) g.length g.length),(12,.slice (some ⟨Y,0,none⟩) g.length gc),(13,I (k:Int)),(14,ptr rr 0),(16,.bool (TS g (R5 g) r F).done),(17,I (i:Int)),(22,S (dmT (TS g (R5 g) r F))),(23,I 0),(24,ptr H 0),(25,.bool true)]/\Ext z w'/\W8 V.G V.T V.Q V.txt V.K (λb=>V.x D b\/b=H) w'/\(∀b,b<z.heap.size->V.x D b)/\(z.heap.size<=V.G.k/\z.heap.size<=V.G.x/\z.heap.size<=V.T.k/\z.heap.size<=V.T.x)/\V.G.g=g/\V.T.g=R5 g/\Pre V.Q.L V.a/\V.a<=146/\V.Q.L.length=200/\V.K<=400/\V.G.st+V.G.len<=V.T.st/\V.T.st+V.T.len<=V.a/\Q8 w' H [ptr V.d 0,ptr V.Q.s 0,ptr V.G.k 0,ptr V.T.k 0,I ((200-V.a:Nat):Int)] 30/\z.heap.size<=H) ?j5<|λj5=>?I0
         case j5=>
          rintro J wf⟨V,D,H,rfl,rf,B,sQ,OD,rH,Kc,Kd,PJ,PK,PL,fg,HW,gF,OE⟩;have f7:=z5q Ah rf B (λb A=> .inl (sQ b A)) OD ⟨jA _ a6,jA _ a7⟩;have zf:=rf.size;refine QV O<|RI O<|Qq O<|qV (Tf O) ?_;rw[show(!true)=false from rfl];refine R0 O<|Qq O<|Qj zkX O (f7) ?_;rintro _ wg⟨rfl,HX,HY⟩;refine RI O ?_;have oT:=HY.PO gF (λe=>ω);have zg:=HY.size;refine R0 O (Ri O (qN O (Qf z1T O (qV (Q0 XG O O oT O) (Qf z7d O (qV (Q0 U28 O O oT O) (Qf z7W O (qV (Q0 U28 O O oT O) (Q4 O (Qj zgK O (z0r HX ω (by rw[rH];omega) (by rw[rH];exact R) (by rw[rH];exact Kc) Kd ω HW ω (by rw[rH];exact xh)) ?_))))))))));rintro _ wh⟨r',O',a9,Kh,rfl,OF,PM,Ke,-,jR⟩;have zh:=jR.size;rw[rH] at Ke;have rM:=z84 Ke (by rw[rH];exact(DmJ.new R xh).vl) (by rw[rH];exact pA.vl) fD (pA.nl eH ω) (by rw[rH];exact pA.fh) ω;refine Q4 O<|Tr O<|Tq O<|RZ O<|RI O<|Qq O<|Q4 O<|Qj zli O (rM) ?_;rintro _ wi⟨rfl,⟨a5,kE,-⟩,pH⟩;refine RI O<|R0 O<|Ri O<|PN<|Sv O<|Ra O<|Qe O ?_;have HZ:∀b,P b->V.x D b:=λb A=>sQ b (by have:=GE b A;omega);have Kf:∀b,P b->¬O' b:=λb A e=>by have:=GE b A;have:=OF b e;omega
          have Bw:DrM P g r r' (TS g (R5 g) r F) wi:=⟨V.G,V.T,_,a5,_,_,O',V.a,kE,rH,Kc,λb A=>⟨.inl (.inl (HZ b A)),Kf b A⟩,Kd.a2,by show V.a+5<=(R9 V.Q.L V.a 5 true).length;rw[Rq ω];omega,λi e1 M=>by
           show(R9 V.Q.L V.a 5 true)[i]? =some true
           rw[SZ ω,if_pos ⟨e1,M⟩],ω⟩
          have Bp:Kp (λb=>¬P b) w9 wi:=(((vY.trans rf.kp).trans (HY.PZ λb e=>e.1)).trans (jR.PZ λb e M=>e (.inl (HZ b M)))).trans (pH.PZ λb e M=>e.elim (λe=>e (.inl (.inl (HZ b M)))) (Kf b M));exact(ih ((F,r'),i+1) _ ⟨Cl,Bw,Bp,by show i+1<=10;omega,by show i+1<=ls.length;omega⟩ (by show 12-(i+1)<12-i;omega)).qb
         case I0=>
          have o:=Ext.Qm z;have bG:=o.size;refine Qp [16] (λw'=>Ext z w') y00 O<|R1 0 O O o<|R1 1 O O o<|R1 2 O O o<|Qs 3 O (Rk U43 zhc O O ω) o<|Qs 4 O (QE zhn O) o<|R1 6 O O o<|R1 7 O O o<|Qs 8 O (Rk U43 zhc O O ω) o<|Qs 9 O (QE zgQ O) o<|qL 5 O (λ_ h=>QH U3 O O (Rx h gW)) o<|qL 10 O (λ_ h=>QH U3 O O (Rx h fT)) o<|Wp (i:=11) (j:=15) y00 ?_ ?_
          ·refine S2 (i:=11) O O O (yc zed O) (z2J R aH eH ((vW.ext Z).ext o) (o.PO (Z.PO xi)) (o.PO (Z.PO xj)) e.2.1 e.2.2 b2 b3) ?_;rintro _ wl⟨V,D,rfl,C,dh,sQ,I1,I2,I3,I4⟩;refine⟨o.trans dh,?_⟩;have B:=C.gw2;have I5:z.heap.size<=V.G.k/\z.heap.size<=V.G.x/\z.heap.size<=V.T.k/\z.heap.size<=V.T.x:=⟨ω,ω,ω,ω⟩;have vZ:∀b,b<z.heap.size->V.x D b:=λb A=>sQ b ω
           try have Bq:W8 V.G V.T V.Q V.txt V.K (λb=>V.x D b\/b=c) wl:=B.less (λj e=>e.elim id λe=>by subst e;exact sQ _ E.lt) ⟨.inl B.xk.1,.inl B.xk.2.1,.inl B.xk.2.2.1,.inl B.xk.2.2.2.1,.inl B.xk.2.2.2.2.1,.inl B.xk.2.2.2.2.2⟩
           try have N:c≠V.G.k/\c≠V.G.x/\c≠V.T.k/\c≠V.T.x:=by have:=E.lt;exact⟨ω,ω,ω,ω⟩
           have o:=o.trans dh;have bG:=y0c bG dh.size
           try have E:=dh.PO E
           refine R1 12 O O o (Qs 13 O (SH O O) o (Rr (i:=14) O y00 O O (λ_=>SH O O) o (RM (i:=15) y00 (Rp (i:=15) O O O (SE (cs:=[_,_,_,_,_]) ZM O) ?_))));rintro _ a0⟨c,rfl,I6,lS,E⟩;refine⟨o.trans lS,?_⟩;have wj:z.heap.size<=c:=ω
           try have Bq:W8 V.G V.T V.Q V.txt V.K (λb=>V.x D b\/b=c) a0:=B.grow lS (λj e=>e.imp id λe=>by have:=E.lt;omega) (λj e=> .inl e)
           try have N:c≠V.G.k/\c≠V.G.x/\c≠V.T.k/\c≠V.T.x:=by have:=B.far c ω;exact⟨this.1,this.2.1,this.2.2.1,this.2.2.2.1⟩
           have o:=o.trans lS;have bG:=y0c bG lS.size;refine U0 [16] (qO 16 (QQ (i:=16) O O (QX (news:=V.v) ZM O O O O E ξ) ?_));rintro ws⟨jx,dq⟩;refine⟨trivial,?_⟩;refine PV 17 O (SG O) trivial<|qE ?_;have wk:=Bq.own dq (λj e=>by subst e;exact⟨.inr O,N.1,N.2.1,N.2.2.1,N.2.2.2,ω,ω⟩);exact(j5 _ _ ⟨V,D,c,O,o.An dq (λj e=>ω),wk,vZ,I5,C.gg,C.tg,C.pre,C.a,C.L,C.K,C.gs,C.ts,jx,wj⟩).qb
          ·refine Rp (i:=15) O O O (SE (cs:=[_,_,_,_,_]) ZM O) ?_;rintro _ a0⟨c,rfl,I6,lS,E⟩;refine⟨o.trans lS,?_⟩;have wj:z.heap.size<=c:=ω
           try have Bq:W8 V.G V.T V.Q V.txt V.K (λb=>V.x D b\/b=c) a0:=B.grow lS (λj e=>e.imp id λe=>by have:=E.lt;omega) (λj e=> .inl e)
           try have N:c≠V.G.k/\c≠V.G.x/\c≠V.T.k/\c≠V.T.x:=by have:=B.far c ω;exact⟨this.1,this.2.1,this.2.2.1,this.2.2.2.1⟩
           have o:=o.trans lS;have bG:=y0c bG lS.size;refine RM (i:=11) y00<|S2 (i:=11) O O O (yc zed O) (z2J R aH eH ((vW.ext Z).ext o) (o.PO (Z.PO xi)) (o.PO (Z.PO xj)) e.2.1 e.2.2 b2 b3) ?_;rintro _ wl⟨V,D,rfl,C,dh,sQ,I1,I2,I3,I4⟩;refine⟨o.trans dh,?_⟩;have B:=C.gw2;have I5:z.heap.size<=V.G.k/\z.heap.size<=V.G.x/\z.heap.size<=V.T.k/\z.heap.size<=V.T.x:=⟨ω,ω,ω,ω⟩;have vZ:∀b,b<z.heap.size->V.x D b:=λb A=>sQ b ω
           try have Bq:W8 V.G V.T V.Q V.txt V.K (λb=>V.x D b\/b=c) wl:=B.less (λj e=>e.elim id λe=>by subst e;exact sQ _ E.lt) ⟨.inl B.xk.1,.inl B.xk.2.1,.inl B.xk.2.2.1,.inl B.xk.2.2.2.1,.inl B.xk.2.2.2.2.1,.inl B.xk.2.2.2.2.2⟩
           try have N:c≠V.G.k/\c≠V.G.x/\c≠V.T.k/\c≠V.T.x:=by have:=E.lt;exact⟨ω,ω,ω,ω⟩
           have o:=o.trans dh;have bG:=y0c bG dh.size
           try have E:=dh.PO E
           refine R1 12 O O o (Qs 13 O (SH O O) o (Rr (i:=14) O y00 O O (λ_=>SH O O) o (U0 [16] (qO 16 (QQ (i:=16) O O (QX (news:=V.v) ZM O O O O E ξ) ?_)))));rintro ws⟨jx,dq⟩;refine⟨trivial,?_⟩;refine PV 17 O (SG O) trivial<|qE ?_;have wk:=Bq.own dq (λj e=>by subst e;exact⟨.inr O,N.1,N.2.1,N.2.2.1,N.2.2.2,ω,ω⟩);exact(j5 _ _ ⟨V,D,c,O,o.An dq (λj e=>ω),wk,vZ,I5,C.gg,C.tg,C.pre,C.a,C.L,C.K,C.gs,C.ts,jx,wj⟩).qb
      case kr =>
       refine SN (α:=Nat×Bool) (0,false) (λy=>[(2,I (r:Int)),(3,.slice la ls.length lc),(9,.slice (some ⟨bg,0,none⟩) g.length g.length),(12,.slice (some ⟨Y,0,none⟩) g.length gc),(13,I (k:Int)),(14,ptr rr 0),(16,.bool y.2),(17,I (i:Int)),(18,I (q:Int)),(19,I (y.1:Int))]) (λy w'=>j+y.1<=k/\y.1<=q/\(TS g (R5 g) r (j+y.1)).done=y.2/\DrM P g r rr (TS g (R5 g) r (j+y.1)) w'/\Kp (λb=>¬P b) w9 w') (λy=>q-y.1) ?hI ?hround
       case hI=>exact⟨hj,y03 _,hd,pO,cF⟩
       case hround =>
        rintro⟨p,bf⟩ wd ⟨Cm,Ez,wm,U,wn⟩ a1;dsimp only at Cm Ez wm U a1⊢
        try dsimp only
        refine It<|RK O ?_;by_cases h1:p<q
        ·refine RT O<|SD<|Qq O ?_
         cases bf with
         | true =>
           refine qV (Tf O)<|Sh O<|PR<|PW O<|Q7 O ?_
           exact(bI _ _ ⟨j+p,by rw[wm],Cm,U,wn,.inl wm⟩).qb
         | false =>
           refine qV (Tf O) ?_;have dF:=UU (g:=g) (t:=R5 g) (root:=r) (j+p);refine Sh O (PR (Qb O (PS (RU (Qz O (Qj ziC O (z8A U xh (hJ _ Cm) wm ω) ?_))))));rintro _ z⟨rfl,Ah,vX⟩;refine Q4 O<|Tr O<|Rw O<|QV O<|RI O<|Ri O<|Sv O<|Qe O<|PN<|Sv O<|Ra O<|Qe O ?_
           have aO:j+p<k:=by
            rcases y0a (j+p) k with h| h
            ·exact h
            ·have:j+p=k:=ω
             rw[this,um.d] at wm;cases wm
           exact(a1 (p+1,_) _ ⟨by show j+(p+1)<=k;omega,by show p+1<=q;omega,rfl,Ah,wn.trans vX⟩ (by show q-(p+1)<q-p;omega)).qb
        ·refine RT O<|QW<|Q4 O<|Sc<|R0 O<|PR<|PW O<|Q7 O ?_;exact(bI _ _ ⟨j+p,by rw[wm],Cm,U,wn,lR.elim .inr λh=>ω⟩).qb
     case dO=>
      refine RK O<|SS U43 O ?_;by_cases h1:i<ls.length
      ·refine RT O<|SD<|Qq O ?_;by_cases h2:i<10
       ·refine RT O<|SD ?_;obtain⟨e,he⟩:∃e,ls[i]? =some e:=⟨_,y07 h1⟩;obtain⟨b1,-,-,lb,lo,rfl,ly,-,-⟩:=(tc.ext (lF cF)) i e he;have r1:=UW e.1 4 ψ;have r2:=WQ e.1 4 ψ;refine Sh O (PR (Qb O (PY O (Qq O (qV (Rk U43 zhc O O ω) (Qf zgN O (qV (QH U3 O O ly) (qV (yrt O O ψ) (Ra O (qV (yrt O O ψ) ?_))))))))));rw[show(e.1.tmod 4+4).tmod 4=nrm e.1 4 from rfl];obtain⟨q,hq,cD⟩:∃q:Nat,nrm e.1 4=(q:Int)/\q<4:=⟨(nrm e.1 4).toNat,ω,ω⟩;rw[hq];refine Qe O ?_;exact(av _ _ ⟨q,O,ω,.inl ⟨h1,h2⟩,O⟩).qb
       ·refine RT O<|QW<|Sh O<|Ri O ?_;exact(av _ _ ⟨k+1,O,ω,.inr ω,O⟩).qb
      ·refine RT O<|QW<|Q4 O<|Sc<|R0 O<|Ri O ?_;exact(av _ _ ⟨k+1,O,ω,.inr ω,O⟩).qb
end Go.Proofs.YtbihggbffaigjaaGreatDoor
namespace Go.Proofs.YtbihggbffaigjaaGreatDoor
open Go Go.ChangeShapes Go.WideShapes Go.ChangeAt Go.RowKit Go.Proofs.Tryz
variable {G T:Y0}{K L a fuel i j k t:Nat}{X:Nat->Prop}{P:Program}{Q:Sf}{W w w':World}{cs:Array Value}{g:List (List Nat)}{la:Option Addr}{laid:List (String×DataW Unit)}{ls:List (Int×Int×Int)}{s:DmS}
def z0O (P:Program)(ts:List TypeId):Bool:=ts.all λt=>P.readableRec t&&decide (t<P.types.size)
def YV {H:Type}{enc:TypeId×Value->H}{P:Program}(n:laidOutB P=true){W e:World}(l:Below W.heap.size W e):
  ∀ {ts : List TypeId} {vs : List Value} {c : List (DataW H)} {ps : List MemPlace}, z0O P ts = true -> DataW.TrodAll enc P W 0 (λ_ => true) true ts vs c ps ->
    DataW.TrodAll enc P e 0 (λb=>decide (b<W.heap.size)) true ts vs c ps
 |[],[],[],_,_,h=>h
 | t :: ts, v :: vs, d :: c, _, hr, h => by
   obtain⟨p,q,f,o,rfl⟩:=h;simp only[z0O,List.all_cons,y0C,decide_eq_true_eq] at hr
   exact⟨p,q,Below.trod n hr.1.1 hr.1.2 f l (by obtain⟨m,r⟩:=f;exact DataW.trod_lt m _ _ _ r),YV n l hr.2 o,O⟩
 |[],[],_::_,_,_,h=>h.elim
 |[],_::_,_,_,_,h=>h.elim
 |_::_,[],_,_,_,h=>h.elim
 |_::_,_::_,[],_,_,h=>h.elim
def z0X {H:Type}{enc:TypeId×Value->H}{P:Program}{W:World}{c:Nat}{b:Nat->Bool}{held:Bool}:
  ∀{ts:List TypeId} {vs:List Value} {e:List (DataW H)} {ps:List MemPlace},DataW.TrodAll enc P W c b held ts vs e ps->e.length=ts.length
 |[],[],[],_,_=>rfl
 | t :: ts, v :: vs, d :: e, _, h => by
   obtain⟨p,q,l,f,rfl⟩:=h
   simpa using z0X f
 |[],[],_::_,_,h=>h.elim
 |[],_::_,_,_,h=>h.elim
 |_::_,[],_,_,h=>h.elim
 |_::_,_::_,[],_,h=>h.elim
def own:ownKnob prog.godebug=none:=y00
def laidOut:laidOutB prog=true:=y00
open Go.Deep
section
variable {H:Type}{enc:TypeId×Value->H}{sp:Nat->Bool}
def zde (n:Int)(h:(Lit.int .u32 n).wf=true):Value.int .u32 n=QL n.toNat/\n.toNat<4294967296:=by
 simp[Lit.wf,IntKind.min,IntKind.max,IntKind.signed,IntKind.bits] at h
 exact⟨by unfold QL;congr;omega,ω⟩
def i64_in (n:Int)(h:(Lit.int .i64 n).wf=true):JIq n:=by
 simp[Lit.wf,IntKind.min,IntKind.max,IntKind.signed,IntKind.bits] at h;omega
theorem z41 {b off:Nat}{c:Option Nat}{v:Value}(h:w.cell? ⟨b,off,c⟩=some v):c=none:=by
 unfold World.cell? at h
 split at h
 ·cases c with
  |none=>rfl
  |some s=>simp at h
 ·cases h
theorem open_edges {v:Value}{x:DataW H×List MemPlace}(h:DataW.trod enc prog W 0 sp true fuel 22 [v]=some x)(V:∀n∈x.1.weights prog 22,n<=reachBytes):∃(u:Option Addr)(J:Nat) (l:List (Nat×Nat)),v= .slice u l.length J/\EdR W u l/\l.length<=9000000000000000000:=by
 rcases open_slice_pairs U22 U81 y00 O O y00 y00 h with⟨q,A⟩|⟨a,len,cap,m,n,D,F,k,s,t,w,q,-,K,L,C,A,Y⟩
 ·cases q;exact⟨none,0,[],O,λi e c=>by simp at c,ξ⟩
 ·cases q;have G:maxLen=9223372036854775807:=rfl;have P:len<=m:=by rw[C];split<;>omega
  have U:∀i,i<len->∃e:Nat×Nat,e.1<4294967296/\e.2<4294967296/\W.cell? (a.add (i*2))=some (QL e.1)/\W.cell? (a.add (i*2+1))=some (QL e.2):=λi hi=>by
   obtain⟨c0,c1,R,S⟩:=Y i ω;obtain⟨r,d,-,f0⟩:=y1Q RO R;obtain⟨n1,f,-,f1⟩:=y1Q RO S;have d:D i= .int .u32 r:=by simpa using d
   have f:F i= .int .u32 n1:=by simpa using f
   obtain⟨g,I⟩:=zde r f0;obtain⟨j,b1⟩:=zde n1 f1;exact⟨(r.toNat,n1.toNat),I,b1,by rw[c0,d,g],by rw[c1,f,j]⟩
  obtain⟨E,z⟩:∃E:Nat->Nat×Nat,∀i,i<len->(E i).1<4294967296/\(E i).2<4294967296/\W.cell? (a.add (i*2))=some (QL (E i).1)/\W.cell? (a.add (i*2+1))=some (QL (E i).2):=
   choose_lt (α:=Nat×Nat) (n:=len) (p:=λi e=>e.1<4294967296/\e.2<4294967296/\W.cell? (a.add (i*2))=some (QL e.1)/\W.cell? (a.add (i*2+1))=some (QL e.2)) U
  refine⟨some a,cap,(List.range len).map E,ξ,λi e c=>?_,?_⟩
  ·rw[y0m] at c;rcases y0a i len with hi|hi
   ·rw[y1E hi] at c;obtain rfl:=SJ c;obtain⟨M,N,y,g4⟩:=z i hi;obtain⟨b,off,B⟩:=a;have o:=(z 0 ω).2.2.1;rw[y1k] at o;simp only[Addr.add,if_true] at o;obtain rfl:=z41 o;rw[So] at y g4;exact⟨M,N,b,off,O,y,by rw[y1x];exact g4⟩
   ·rw[y0v (by simpa using hi)] at c;cases c
  ·have Z:=V ((len+(m-len))*8) (by rw[A];simp[DataW.weights,U22,show prog.bytesOf 81=8 by kernel_rfl]);simp[reachBytes] at Z;simp;omega
end
section
variable {H:Type}{enc:TypeId×Value->H}{sp:Nat->Bool}
def zaj {cs:List Value}{x:DataW H×List MemPlace}(h:DataW.trod enc prog W 0 sp true fuel 49 cs=some x):∃e:Int×Int×Int,cs=[I e.1,I e.2.1,I e.2.2]/\JIq e.1/\JIq e.2.1/\(JIq e.2.2):=by
 obtain⟨xs,n,-,r,f,b,d⟩:=DataW.trod_struct underlying49 h
 rw[show prog.cellsOf 49=3 by kernel_rfl] at f
 match xs,b with
 |[y0,y1,y2],_=>
 match cs,f with
 | [c0, c1, c2], _ =>
   have c:prog.cellsOf 3=1:=y00
   have t0:=d 0 _ O;have t1:=d 1 _ O;have t2:=d 2 _ O;obtain⟨l,m,-,q⟩:=y1Q underlying3 t0;obtain⟨n1,o,-,w1⟩:=y1Q underlying3 t1;obtain⟨n2,p,-,w2⟩:=y1Q underlying3 t2;obtain rfl:c0=I l:=by simpa[c] using m
   obtain rfl:c1=I n1:=by simpa[c] using o
   obtain rfl:c2=I n2:=by simpa[c] using p
   exact⟨(l,n1,n2),O,i64_in _ q,i64_in _ w1,i64_in _ w2⟩
theorem open_stops {v:Value}{x:DataW H×List MemPlace}(h:DataW.trod enc prog W 0 sp true fuel 43 [v]=some x)(V:∀n∈x.1.weights prog 43,n<=reachBytes):∃(la:Option Addr)(Y:Nat) (ls:List (Int×Int×Int)),v= .slice la ls.length Y/\z5w W la ls/\ls.length<=9000000000000000000:=by
 rcases open_slice underlying43 h with⟨q,y⟩|⟨a,len,cap,m,n,D,Z,q,-,g,j,o,y,f⟩
 ·cases q;exact⟨none,0,[],O,λi e c=>by simp at c,ξ⟩
 ·cases q;rw[show prog.cellsOf 49=3 by kernel_rfl] at f;have U:len<=m:=by rw[o];split<;>omega
  have S:∀i,i<len->∃e:Int×Int×Int,JIq e.1/\JIq e.2.1/\JIq e.2.2/\W.cells? 0 (a.add (i*3)) 3=some [I e.1,I e.2.1,I e.2.2]:=λi hi=>by
   obtain⟨F,c1,c2⟩:=f i ω;obtain⟨e,rfl,b1,b2,b3⟩:=zaj c2;exact⟨e,b1,b2,b3,c1⟩
  obtain⟨E,u⟩:=choose_lt (α:=Int×Int×Int) (n:=len) (p:=λi e=>JIq e.1/\JIq e.2.1/\JIq e.2.2/\W.cells? 0 (a.add (i*3)) 3=some [I e.1,I e.2.1,I e.2.2]) S;refine⟨some a,cap,(List.range len).map E,ξ,λi e c=>?_,?_⟩
  ·rw[y0m] at c;rcases y0a i len with hi|hi
   ·rw[y1E hi] at c;obtain rfl:=y16 c;obtain⟨J,M,N,g4⟩:=u i hi;obtain⟨b,off,C⟩:=a;have R:=(u 0 ω).2.2.2;obtain⟨-,-,d⟩:=World.cells?_some R;have d:=d 0 ψ;rw[y1k] at d;simp only[Addr.add,if_true] at d;obtain rfl:=z41 d;obtain⟨-,-,l⟩:=World.cells?_some g4;have z:=l 0 ψ;have A:=l 1 ψ;have B:=l 2 ψ;rw[So,So] at z A B;exact⟨J,M,N,b,off,O,z,A,B⟩
   ·rw[y0v (by simpa using hi)] at c;cases c
  ·have r:=V ((len+(m-len))*24) (by rw[y];simp[DataW.weights,underlying43,show prog.bytesOf 49=24 by kernel_rfl]);simp[reachBytes] at r;simp;omega
end
theorem law_lifted_tied {H:Type}{enc:TypeId×Value->H}{C:Checked}{os:Os}{f:FuncId}{fn:Func}{s:ChangeSpec}{t:TypeId}{ts:List TypeId}
  (own:ownKnob C.prog.godebug=none) (l:os.Started) (hl:laidOutB C.prog=true) (o:C.prog.inits.idxOf? f=none) (S:C.prog.funcs[f]? =some fn)
  (n:fn.params.toList=ts) (Z:z0O C.prog ts=true) (a:fn.resultTypes=#[t]) (hb:C.prog.underlying t=some .bool) (u:s.vars=[])
  (V:(laid.all λx=>x.2.handleName?.isNone)=true)
  (b:∀c:List (DataW H),c.length=ts.length->s.fn H c={results:=[.lit (.bool true)],args:=c})
  (m:∃(w:World)(tape:Tape) (i:Input),w.os=os/\(w.forCall tape i).Shaped C.prog/\i.vars=[]/\Input.okWide C.prog (w.forCall tape i) .any w.heap.size f i/\
   ((s.pre enc C.prog fn [] false (w.forCall tape i).memory i.args/\laidMetH C.prog laid (w.forCall tape i).memory)/\sizedMet enc C.prog fn (OpenSpec.ofChange s) false (w.forCall tape i).memory i.args)/\({}:Assume).holds C.prog (lone (Frame.enter C.prog f i.args .normal) [] (w.forCall tape i)))
  (F:∀(W:World)(y:Nat) (args:List Value) (c:List (DataW H)) (ps:List MemPlace),W.ShapedOpen C.prog->laidMet C.prog laid W->
   (∀(j:Nat) t v,ts[j]? =some t->args[j]? =some v->Value.okWide C.prog W .any y t v)->
   DataW.TrodAll enc C.prog W 0 (λ_=>true) true ts args c ps->W.noneFrozen ps->
   (DataW.weightsEach C.prog ts c).all (·<=reachBytes)=true->
   Qx C.prog f args W λv w'=>v= .bool true/\Ext W w'):
  ReturnsInHanded {} C os f .any (λw args=>(s.pre enc C.prog fn [] false w args/\laidMetH C.prog laid w)/\sizedMet enc C.prog fn (OpenSpec.ofChange s) false w args) (s.post enc C.prog fn false true false false):=by
 refine returnsInHanded_of_calls own l o m ?_
 intro w tape i _ g _ U E N
 obtain⟨_,_,_,z,B,_,_,_,_,I⟩:=U
 have e:z=fn:=y16 (B.symm.trans S)
 subst e
 obtain⟨⟨⟨c,gs,J,Q,hc⟩,O⟩,hz⟩:=E
 have P:=DataW.Whole.of_heap (w':=w.forCall tape i) (by rfl) Q
 have R:=P
 have r:(DataW.weightsEach C.prog (z.params.toList++s.plain.varTypes C.prog) (c++gs)).all (·<=reachBytes)=true:=hz.weights Q
 obtain⟨p,q,M,L,rfl,D,_⟩:=P
 rw[u] at L
 obtain⟨rfl,rfl⟩:=trodVars_none L
 rw[n] at M
 have d:=z0X M
 have k:(DataW.weightsEach C.prog ts c).all (·<=reachBytes)=true:=by
  have G:s.plain.varTypes C.prog=[]:=by simp[ChangeSpec.plain,DataSpec.varTypes,u]
  rw[n,G,y0o,y0o] at r;exact r
 have X:laidMet C.prog laid (w.forCall tape i):=by
  rw[MakeChecks.laidMetH_plain _ _ _ V] at O;exact O.of_heap (by rfl)
 have Y:=F _ w.heap.size i.args.toList c p g X (λj t v K T=>I j t v (by rw[<-n] at K;simpa using K) (by simpa using T)) M (by rw[y0o] at D;exact D) k
 unfold Qx at Y;rw[y38] at Y
 refine y1P Y λx W' ⟨v,O,G,A⟩=>?_
 subst O;subst G
 have bel:=A.below
 refine ChangeSpec.post_blind ⟨c,[],p++[],[],p,[],R,?_,?_,?_,bel.frame _,λh=>by cases h⟩
 ·rw[y0o,b c d,a];exact trodAll_mk1 (shut_bool hb _)
 ·rw[y0o,b c d,n];exact YV hl bel Z M
 ·rw[u,y0o,b c d]
  rfl
def pair_cells {f0 f1:Field}{e f:IntKind}{a b:Int}{p:List MemPlace}(u:P.underlying t=some (.struct #[f0,f1]))(q:P.cellsOf t=2)(v:f0.offset=0)(z:f1.offset=1)
  (c0:P.cellsOf f0.type=1) (c1:P.cellsOf f1.type=1) (A:P.underlying f0.type=some (.int e)) (B:P.underlying f1.type=some (.int f))
  (r:DataW.trod (λ_=>()) P W 0 (λ_=>true) false fuel t cs.toList=some (.agg [.lit (.int e a),.lit (.int f b)],p)):cs.toList=[.int e a,.int f b]:=by
 obtain⟨E,F,n,l,h,m,o⟩:=trod_struct2 u r
 obtain⟨C,c,rfl,-⟩:=y1Q A m
 obtain⟨D,d,rfl,-⟩:=y1Q B o
 rw[q] at h
 rw[v,c0] at c
 rw[z,c1] at d
 simp at l
 obtain⟨⟨rfl,rfl⟩,-⟩:=l
 match hcs:cs.toList,h with
 | [x, y], _ =>
   rw[hcs] at c d;simp at c d;rw[c,d]
theorem z9p {n:String}{g T:Nat}{l:List Value}(p:W.ShapedOpen P)(f:g<P.globals.size)(b:(((begin P (λ_ _=>0) default).world.heap[g]?).bind Obj.row?).map (·.2)=some T)(hg:P.globalNamed n=some g)(o:W.var? P n=some cs)(d:cs.toList=l):Q8 W g l T:=by
 cases h:((begin P (λ_ _=>0) default).world.heap[g]?).bind Obj.row? with
 |none=>rw[h] at b;cases b
 | some x =>
   obtain⟨z,t⟩:=x;rw[h] at b;obtain rfl:t=T:=y16 b;obtain⟨c,m,-,-⟩:=p.1 g z t f h;simp only[World.var?,hg,y3f,m] at o;have q:c=cs:=by simpa using o
   subst q;refine⟨(0,0),by rw[m,<-d],λi _ e=>by simp at e⟩
def laid_two (b:laid=[("wattle/list.gamma",.agg [.lit (.int .u8 1),.lit (.int .u64 0)]),("wattle/list.unary",.agg [.lit (.int .u8 0),.lit (.int .u64 0)])])(u:W.ShapedOpen prog)(h:laidMet prog laid W):Q8 W 1 [.int .u8 1,.int .u64 0] 314/\Q8 W 2 [.int .u8 0,.int .u64 0] 314:=by
 subst b
 obtain⟨ps,e,-,hB⟩:=h
 obtain⟨C,t0,v,f,p0,F,c,o,q,m,e,A⟩:=e
 obtain⟨D,t1,x,l,E,H,d,p,r,n,e,B⟩:=e
 obtain rfl:=y16 ((show prog.globalNamed "wattle/list.gamma"=some 1 by kernel_rfl).symm.trans c)
 obtain rfl:=y16 ((show prog.globalNamed "wattle/list.unary"=some 2 by kernel_rfl).symm.trans d)
 obtain rfl:=y16 ((show(prog.globals[1]?).map (·.type)=some 314 by kernel_rfl).symm.trans o)
 obtain rfl:=y16 ((show(prog.globals[2]?).map (·.type)=some 314 by kernel_rfl).symm.trans p)
 have y:=pair_cells underlying314 y00 O O y00 y00 underlying5 underlying39 m
 have z:=pair_cells underlying314 y00 O O y00 y00 underlying5 underlying39 n
 exact⟨z9p u (show 1<prog.globals.size from of_decide_eq_true y00) y00 c q y,z9p u (show 2<prog.globals.size from of_decide_eq_true y00) y00 d r z⟩
noncomputable def limWorld (os:Os):World:=
 let b:=World.holding prog os ⟨#[],#[],[]⟩
 { b with heap := b.heap.modify 1 fun
   | .cells _ t frozen=> .cells #[.int .u8 1,.int .u64 0] t frozen
   |o=>o}
end Go.Proofs.YtbihggbffaigjaaGreatDoor
