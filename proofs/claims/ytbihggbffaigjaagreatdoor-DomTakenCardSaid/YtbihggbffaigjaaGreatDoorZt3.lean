/- Merged by program. -/
import Derived.Test.YtbihggbffaigjaaGreatDoorZt2
import Derived.Sort.AssemblyPlain
set_option linter.all false
set_option maxRecDepth 1000000
set_option maxHeartbeats 16000000
namespace Go.Proofs.YtbihggbffaigjaaGreatDoor
open Go Go.RowKit Go.Proofs.Tryz
variable {F FL0 FR0 X X':Nat->Prop}{L L':List (Cd×Nat)}{P:Program}{R:List (Nat×Nat)}{a b b5 cap g i j least lf n11 rn sb sc t y:Nat}{aft:Array Edge}{c:Code}{cs:List Value}{el ty:TypeId}{fs:List Bool}{p:Te}{ra sa:Option Addr}{ref rs succ:List Nat}{s:PU}{w w' w1 w2 w3 w4:World}
def z0b (l:List Nat):∀c∈l.map QL,c.oneCell'=true:=by
 intro c d
 obtain⟨x,-,rfl⟩:=y0g.1 d
 rfl
def z3n (p:Nat×Nat):List Value:=[I (p.1:Int),I (p.2:Int)]
theorem zal (l:List (Nat×Nat)):(l.flatMap z3n).length=l.length*2:=by
 induction l with
 |nil=>rfl
 |cons p l d=>rw[y0V,y01,d,y02,show(z3n p).length=2 from rfl];omega
theorem Sl.oneV {v:Value}{e size n:Nat}(h:Sl w v e size n cs):oneV v=true:=by
 rcases h.shape with⟨rfl,-⟩|⟨g,cap,rfl,-⟩<;>rfl
structure zeo (w:World)(l:List Nat)(least:Nat)(r:List Nat)(a:Option Addr)(cap:Nat)(v4 v5:Value)(R:List (Nat×Nat))(O_:List Nat)(w':World):Prop where
 ext:Ext w w'
 cl:r.length<=cap
 rd:Rd w (.slice a r.length cap) 1 r.length (r.map QL)
 s4:Sl w' v4 348 2 R.length (R.flatMap z3n)
 s5:Sl w' v5 42 1 O_.length (O_.map QL)
 f4:∀g,v4.ownBlock=some g->w.heap.size<=g
 f5:∀g,v5.ownBlock=some g->w.heap.size<=g
 ne:∀g,v4.ownBlock=some g->v5.ownBlock≠some g
 ok:QR r
 eq:R7 least l=(R++(R7 least r).1,O_++(R7 least r).2)
 len:R.length+O_.length+r.length<=65536
theorem Vc {a:Option Addr}{n:Nat}(h:Rd w (.slice a n cap) 1 n cs)(hi:i<=n)(q:n<=cap):Rd w (.slice (if cap=i then a else a.map (·.add (i*1))) (n-i) (cap-i)) 1 (n-i) (cs.drop i):=by
 have m:=h.1
 refine⟨by rw[y08,m];omega,?_⟩
 rcases h.2 with⟨c,k,o⟩|⟨b,off,d,k,l⟩
 ·refine .inl ⟨((if cap=i then a else a.map (·.add (i*1))),cap-i),?_,ω⟩;rw[show n-i=0 by omega]
 ·cases k;by_cases e:cap=i
  ·rw[if_pos e];refine .inl ⟨(some ⟨b,off,none⟩,cap-i),?_,ω⟩;rw[show n-i=0 by omega]
  ·rw[if_neg e];refine .inr ⟨b,off+i*1,cap-i,?_,λj u f=>?_⟩
   ·simp only[Option.map_some,So]
   ·rw[y1M] at f;have:=l (i+j) u f;rw[show off+i*1+j=off+(i+j) by omega];exact this
theorem Ws {a:Option Addr}{n:Nat}(h:Rd w (.slice a n cap) 1 n cs)(hi:i<=n):Rd w (.slice a i cap) 1 i (cs.take i):=by
 have l:=h.1
 refine⟨by rw[y0d,l];omega,?_⟩
 rcases h.2 with⟨c,f,m⟩|⟨b,off,e,f,k⟩
 ·refine .inl ⟨(a,cap),?_,ω⟩;rw[show i=0 by omega]
 ·cases f;refine .inr ⟨b,off,cap,O,λj u d=>?_⟩;rw[y1H] at d;split at d
  ·exact k j u d
  ·cases d
def zeo.grow {l r:List Nat}{a:Option Addr}{f k:Value}{e:List Nat}(h:zeo w l least r a cap f k R e w1)(d:Ext w1 w2):zeo w l least r a cap f k R e w2:=
 ⟨h.ext.trans d,h.cl,h.rd,h.s4.ext d,h.s5.ext d,h.f4,h.f5,h.ne,h.ok,h.eq,h.len⟩
theorem zd7 (a:Option Addr)(cap:Nat)(l:List Nat)(least:Nat)(rM:QR l)(jZ:l.length<=cap)(iz:least<=64)(w:World)(hr:Rd w (.slice a l.length cap) 1 l.length (l.map QL)):
  Qx prog 223 [.slice a l.length cap,I (least:Int)] w λu w'=>∃f o,u= .tuple #[f,o]/\Sl w' f 348 2 (R7 least l).1.length ((R7 least l).1.flatMap z3n)/\
   Sl w' o 42 1 (R7 least l).2.length ((R7 least l).2.map QL)/\Ext w w'/\(∀g,f.ownBlock=some g->w.heap.size<=g)/\(∀g,o.ownBlock=some g->w.heap.size<=g)/\∀g,f.ownBlock=some g->o.ownBlock≠some g:=by
 refine py (e:=[(0,_),(1,_)]) func223 O ntmps223 O O<|qN O<|Rw O<|RU<|SN (α:=List Nat×Option Addr×Nat×Value×Value×List (Nat×Nat)×List Nat) (l,a,cap,.slice none 0 0,.slice none 0 0,[],[]) (λx=>[(0,.slice x.2.1 x.1.length x.2.2.1),(1,I (least:Int)),(4,x.2.2.2.1),(5,x.2.2.2.2.1)]) (λx w'=>zeo w l least x.1 x.2.1 x.2.2.1 x.2.2.2.1 x.2.2.2.2.1 x.2.2.2.2.2.1 x.2.2.2.2.2.2 w') (λx=>x.1.length) ?hI ?hround
 case hI=>exact⟨Ext.refl _,jZ,hr,Sl.nil _ _ _,Sl.nil _ _ _,(λg h=>by cases h),(λg h=>by cases h),(λg h=>by cases h),rM,rfl,by have:=rM.len;simp;omega⟩
 case hround =>
  rintro⟨r,a1,c1,f,o,R,D⟩ F hI Z;dsimp only at hI
  try dsimp only
  refine QV O<|SS QG O<|RR O<|PR<|Qa O (λh0=>?_)<|λh0=>?_
  ·obtain⟨y,d,rfl⟩:∃y d,r=y::d:=by
    cases r with
    |nil=>exact absurd h0 ξ
    |cons y d=>exact⟨y,d,O⟩
   have io:=Yw y d;have Kx:=hI.ok.lt y y0r;have jf:=hI.ok.len;rw[y02] at jf
   obtain⟨b,off,K,E⟩:∃b off,a1=some ⟨b,off,none⟩/\∀j u,((y::d).map QL)[j]? =some u->F.cell? ⟨b,off+j,none⟩=some u:=by
    rcases (hI.rd.ext hI.ext).2 with⟨c,-,h⟩|⟨b,off,H,K,E⟩
    ·exact absurd h ξ
    ·cases K;exact⟨b,off,O,E⟩
   subst K
   have s:∀w',Ext w w'->∀j u,((y::d).map QL)[j]? =some u->w'.cell? ⟨b,off+j,none⟩=some u:=λw' hx=>by
    rcases (hI.rd.ext hx).2 with⟨c,-,h⟩|⟨b',a0,H,K,N⟩
    ·exact absurd h ξ
    ·cases K;exact N
   clear E;refine PS<|PT<|RY O<|RU<|T3 (λe' w'=>Ext F w'/\e'=[(0,.slice (some ⟨b,off,none⟩) (y::d).length c1),(1,I (least:Int)),(4,f),(5,o),(6,I ((R3 y d+1:Nat):Int))]) ?pH<|λpH=>?CI
   case pH=>
    rintro e' a2⟨aR,rfl⟩;replace hI:=hI.grow aR;have E:=s _ hI.ext
    generalize Y:R3 y d+1=n
    have ly:=hI.cl;rw[y02] at ly;have m:=hI.eq;have aw:=hI.len;rw[y02] at aw;have cf:1<=n/\n<=d.length+1:=ω
    have Ih:d.drop (R3 y d)=(y::d).drop n:=by rw[<-Y];rfl
    have ni:y::d.take (R3 y d)=(y::d).take n:=by rw[<-Y];rfl
    rw[R7] at m;simp only[Y,Ih,ni] at m;have S:QR ((y::d).drop n):=hI.ok.sub (y1q _ _);have M:=Vc hI.rd (i:=n) (by rw[y02];omega) hI.cl;rw[<-y21,show(y::d).length-n=((y::d).drop n).length by rw[y08]] at M;have q:((y::d).drop n).length=d.length+1-n:=by rw[y08,y02]
    by_cases V:0<least/\least<=n
    ·obtain⟨tc,X⟩:=V;rw[if_pos ⟨tc,X⟩] at m;refine QV O (RR O (SD (Qq O (Q4 O (UL O (SD (Sh O (PR (Qb O (PY O (Qq O (qV (Rk QG Qn O O ω) (qV (QH RO O O (E (0*1) (QL y) O)) ?_)))))))))))));refine qV (QU O RO U3 ω) (Q4 O (qV (To (cs:=[_,_]) z2s O zjp O O) (PX O O (YI (cs:=[_,_]) (zs:=[Value.int .i64 0,Value.int .i64 0]) zcq z2s O y00 O O O ψ) ?_)));rintro _ L⟨b7,rfl,⟨lu,k,cd⟩,i6⟩;refine PX O O (pap zcq z2s O ψ O O (hI.s4.ext k) i6.rd (by intro c N;simp at N;rcases N with rfl|rfl<;>rfl) ω (by simp only[maxLen];omega)) ?_;rintro t B⟨z,v,A,-⟩;have mT:=z.oneV;have hz:=hI.ext.size;have Bv:=k.size;have G:Ext w B:=(hI.ext.trans k).An v (λi hi=>hI.f4 i hi);have p9:Sl B o 42 1 D.length (D.map QL):=(hI.s5.ext k).kp v (λg hg e=>hI.ne g e hg);refine Qe O (PY O (Qq O (qV (Zs QG Qn O O (by rw[y02];omega) hI.cl) ?_)));refine Qe O<|PN ?_;rw[show(y::d).length-n=((y::d).drop n).length by rw[y08]];refine(Z ((y::d).drop n,_,c1-n,t,o,R++[(y,n)],D) _ ⟨G,by dsimp only;rw[q];omega,M,?_,p9,?_,hI.f5,?_,S,?_,?_⟩ ?_).qb
     ·dsimp only;rw[y01,y1Z];exact z
     ·intro g hg;rcases A g hg with h| h
      ·exact hI.f4 g h
      ·omega
     ·intro g hg e;rcases A g hg with h| h
      ·exact hI.ne g h e
      ·have:=hI.s5.lt e;omega
     ·dsimp only;rw[m,y06];rfl
     ·dsimp only;rw[y01,y1u,q];omega
     ·dsimp only;rw[q,y02];omega
    ·rw[if_neg V] at m;rcases y0D least with e0|e0
     ·refine QV O (RR O (QW (Q4 O (Sc (qS (R0 O (PR (PW O (PY O (Qq O (Q4 O (qV (zcg QG Qn O O ω) (PX O O (pap QG Qn O ψ O O hI.s5 (Ws (hI.rd.ext hI.ext) (i:=n) (by rw[y02];omega)) (by rw[<-y1m];exact z0b _) ω (by simp only[maxLen];omega)) ?_)))))))))))));rintro C B⟨z,v,A,-⟩;have mT:=z.oneV;have hz:=hI.ext.size;have G:Ext w B:=hI.ext.An v (λi hi=>hI.f5 i hi);have P:Sl B f 348 2 R.length (R.flatMap z3n):=hI.s4.kp v (λg hg e=>hI.ne g hg e);refine Qe O (PY O (Qq O (qV (Zs QG Qn O O (by rw[y02];omega) hI.cl) ?_)));refine Qe O<|PN ?_;rw[show(y::d).length-n=((y::d).drop n).length by rw[y08]];have J:((y::d).take n).length=n:=by rw[y0d,y02];omega
      refine(Z ((y::d).drop n,_,c1-n,f,C,R,D++(y::d).take n) _ ⟨G,by dsimp only;rw[q];omega,M,P,?_,hI.f4,?_,?_,S,?_,?_⟩ ?_).qb
      ·dsimp only;rw[y01,y0f,J,y1m];exact z
      ·intro g hg;rcases A g hg with h| h
       ·exact hI.f5 g h
       ·omega
      ·intro g hg e;rcases A g e with h| h
       ·exact hI.ne g hg h
       ·have:=hI.s4.lt hg;omega
      ·dsimp only;rw[m,y06]
      ·dsimp only;rw[y01,J,q];omega
      ·dsimp only;rw[q,y02];omega
     ·have X:¬least<=n:=λh=>V ⟨e0,h⟩;refine QV O (RR O (SD (Qq O (Q4 O (UL O (QW (Sh O (PR (PW O (PY O (Qq O (Q4 O (qV (zcg QG Qn O O ω) ?_)))))))))))));refine PX O O (pap QG Qn O ψ O O hI.s5 (Ws (hI.rd.ext hI.ext) (i:=n) (by rw[y02];omega)) (by rw[<-y1m];exact z0b _) ω (by simp only[maxLen];omega)) ?_;rintro C B⟨z,v,A,-⟩;have mT:=z.oneV;have hz:=hI.ext.size;have G:Ext w B:=hI.ext.An v (λi hi=>hI.f5 i hi);have P:Sl B f 348 2 R.length (R.flatMap z3n):=hI.s4.kp v (λg hg e=>hI.ne g hg e);refine Qe O (PY O (Qq O (qV (Zs QG Qn O O (by rw[y02];omega) hI.cl) ?_)));refine Qe O<|PN ?_;rw[show(y::d).length-n=((y::d).drop n).length by rw[y08]];have J:((y::d).take n).length=n:=by rw[y0d,y02];omega
      refine(Z ((y::d).drop n,_,c1-n,f,C,R,D++(y::d).take n) _ ⟨G,by dsimp only;rw[q];omega,M,P,?_,hI.f4,?_,?_,S,?_,?_⟩ ?_).qb
      ·dsimp only;rw[y01,y0f,J,y1m];exact z
      ·intro g hg;rcases A g hg with h| h
       ·exact hI.f5 g h
       ·omega
      ·intro g hg e;rcases A g e with h| h
       ·exact hI.ne g hg h
       ·have:=hI.s4.lt hg;omega
      ·dsimp only;rw[m,y06]
      ·dsimp only;rw[y01,J,q];omega
      ·dsimp only;rw[q,y02];omega
   case CI =>
    refine SN (α:=Nat) (1) (λi=>[(0,.slice (some ⟨b,off,none⟩) (y::d).length c1),(1,I (least:Int)),(4,f),(5,o),(6,I (i:Int))]) (λi w'=>Ext F w'/\1<=i/\i<=R3 y d+1) (λi=>R3 y d+2-i) ?hI ?hround
    case hI=>exact⟨Ext.refl _,ω,ω⟩
    case hround=>
     rintro i L⟨k,te,dB⟩ p
     try dsimp only
     refine It<|It ?_;have hg:=(Ext.refl L).drew;refine Sq (λw'=>Ext L w') O<|Ql 0 O O hg<|Ql 1 O O hg<|PV 2 O (TM QG O) hg<|PV 3 O (ylt O O) hg<|zjF (λU=>?_)<|λU=>?_
     ·have wH:i<d.length+1:=by rw[y02] at U;omega
      have T:d[i-1]? =some (d[i-1]'ω):=y07 ω;have OL:d[i-1]'ω<65536:=hI.ok.lt _ (y0u _ (y1s _));refine Ql 4 O O hg (Ql 5 O O hg (Ql 6 O O hg (PV 7 O (Rk QG Qn O O ω) hg (Ql 9 O O hg (PV 10 O (Rk QG Qn O O ω) hg (Ql 12 O O hg (PV 13 O (z3K O U3 RO) hg (qT 8 O (λ_ W=>QH RO O O (by exact s _ ((hI.ext.trans k).trans W) (i*1) (QL (d[i-1]'ω)) (by rw[y0m,show i*1=(i-1)+1 by omega,y1L,T];rfl))) hg ?_))))))));refine qT 11 O (λ_ W=>QH RO O O (by exact s _ ((hI.ext.trans k).trans W) (0*1) (QL y) O)) hg ?_;refine PV 14 O (zkz O O) hg<|PV 15 O (yeq O O) hg<|PV 16 O (WA O O) hg<|qE<|Qa O (λe2=>?_)<|λe2=>?_
      ·refine PS<|PT<|Sv O<|Ra O<|Qe O<|PN ?_
       have bz:i≠R3 y d+1:=λe=>by
        subst e;have:=XJ y d (d[R3 y d+1-1]'ω) (by rw[<-T];simp);omega
       exact(p (i+1) _ ⟨k.trans hg,ω,ω⟩ ω).qb
      ·have Q:i=R3 y d+1:=by
        rcases y0a (i-1) (R3 y d) with h| h
        ·have h1:=Xd y d (i-1) h;rw[T] at h1;have h2:=SJ h1;exact absurd ω e2
        ·omega
       refine Q7 O ?_;subst Q;exact(pH _ _ ⟨k.trans hg,O⟩).qb
     ·have Q:i=R3 y d+1:=by rw[y02] at U;omega
      refine Ql 4 O O hg<|qJ 5 O hg<|qJ 6 O hg<|qJ 7 O hg<|qJ 8 O hg<|qJ 9 O hg<|qJ 10 O hg<|qJ 11 O hg<|qJ 12 O hg<|qJ 13 O hg<|qJ 14 O hg<|qJ 15 O hg<|PV 16 O (VF O O) hg<|qE ?_;refine PW O<|Q7 O ?_;subst Q;exact(pH _ _ ⟨k.trans hg,O⟩).qb
  ·have fi:r=[]:=y0w ω;subst fi;refine Q7 O<|RK O<|Rw O<|PQ func223 O ?_;have m:=hI.eq;simp only[R7,y0o] at m;rw[m];exact⟨_,O,f,o,O,hI.s4,hI.s5,hI.ext,hI.f4,hI.f5,hI.ne⟩
structure VsM (w:World)(p:Nat)(v:Value)(T el:TypeId)(size n:Nat)(cs:List Value):Prop where
 PO:Q8 w p [v] T
 sl:Sl w v el size n cs
 ne:v.ownBlock≠some p
def VsA (w:World)(p:Nat)(T el:TypeId)(size n:Nat)(cs:List Value)(F:Nat->Prop):Prop:=∃v,VsM w p v T el size n cs/\∀k,F k↔fpW p v k
section
variable {p:Nat}{T:TypeId}{size n:Nat}{S:Nat->Prop}
def VsA.lt (h:VsA w p T el size n cs F){k:Nat}(l:F k):k<w.heap.size:=by
 obtain⟨m,d,f⟩:=h
 rcases (f k).1 l with e| e
 ·rw[e];exact d.PO.lt
 ·exact d.sl.lt e
theorem VsA.kp (h:VsA w p T el size n cs F)(k:Kp S w w')(f:∀i,F i->¬S i):VsA w' p T el size n cs F:=by
 obtain⟨l,e,d⟩:=h
 exact⟨l,⟨k.PO e.PO (f p ((d p).2 (.inl O))),e.sl.kp k (λg hg=>f g ((d g).2 (.inr hg))),e.ne⟩,d⟩
def VsA.ext (h:VsA w p T el size n cs F)(k:Ext w w'):VsA w' p T el size n cs F:=h.kp k.kp λ_ _=>id
end
def zgi {e:Env}{d:Option Nat}{t t':TypeId}{pos:String}{g:Option (Nat×Bool)}{x y:Operand}{p q:Bool}(h:look e x=some (.bool p))(k:look e y=some (.bool q))(ht:P.underlying t=some .bool):Y P e ⟨d,.binOp .neq t x y t',ty,pos,aft,g⟩ (.bool (!(p==q))) w w:=fun ρ f=>by
 simp[execOp,f _ _ h,f _ _ k,eqGuard_at_bool,run_neq_bool w t p q ht]
def z7l (q:Cd×Nat):List Value:=Tu q.1++[Qi q.2]
abbrev z68 (w:World)(p:Nat)(L:List (Cd×Nat))(F:Nat->Prop):Prop:=VsA w p 311 316 3 L.length (L.flatMap z7l) F
abbrev z4U (w:World)(p:Nat)(L:List Nat)(F:Nat->Prop):Prop:=VsA w p 40 42 1 L.length (L.map QL) F
abbrev z3i (w:World)(p:Nat)(L:List Nat)(F:Nat->Prop):Prop:=VsA w p 37 3 1 L.length (L.map λn:Nat=>I (n:Int)) F
theorem UC {p:Nat}(h:z68 w p L F)(t:L.length<=1000000)(c:Cd)(v:Nat)(P:v<9223372036854775808):
  Qx prog 220 [cdV c,I (v:Int),ptr p 0] w λu w'=>u= .tuple #[]/\∃z,z68 w' p (L++[(c,v)]) z/\Kp F w w'/\∀k,z k->F k\/w.heap.size<=k:=by
 obtain⟨x,y,C,Z,J⟩:∃x y,Tu c=[x,y]/\x.oneCell'=true/\y.oneCell'=true:=by cases c<;>exact⟨_,_,O,O,O⟩
 obtain⟨j,f,o⟩:=h
 have a:cdV c= .agg [x,y].toArray:=by rw[cdV,C]
 rw[a]
 have K:∀c∈[x,y,Qi v],c.oneCell'=true:=by
  intro c d;rcases y0h.1 d with rfl|d
  ·exact Z
  rcases y0h.1 d with rfl|d
  ·exact J
  rcases y0h.1 d with rfl|d
  ·rfl
  ·simp at d
 refine py (e:=[(0,_),(1,_),(2,_)]) func220 O ntmps220 O O<|qN O<|PX O O (Sy O (cs:=[x,y]) O) ?_
 rintro _ w1⟨b3,rfl,s,l,N⟩
 have G:=l.PO f.PO
 refine PR<|PY O<|qV (Q0 z2y O O G O)<|qV (QB (news:=[x,y]) Td O S3 O (N.cells (n:=2) O) O)<|Q4 O<|qV (Rz O U3 SK ω)<|qV (To (cs:=[_,_,_]) WV O zfv O O)<|PX O O (YI (cs:=[_,_,_]) (zs:=[Value.int .u8 0,Value.int .u64 0,Value.int .u64 0]) z2y WV O y00 O O O ψ) ?_
 rintro _ w2⟨b2,rfl,⟨i,m,b⟩,Q⟩
 refine PX O O (pap z2y WV O ψ O O ((f.sl.ext l).ext m) Q.rd K ω (by simp only[maxLen];omega)) ?_
 rintro q w3⟨D,B,H,-⟩
 have Y:=D.oneV
 have M:=B.PO (m.PO G) f.ne
 refine Qc O (S0 zd3 O O Y M ξ) ?_
 rintro w4⟨r,A⟩
 replace r:Q8 w4 p [q] 311:=r
 have X:=l.size
 have z2:=m.size
 have R:=f.PO.lt
 have E:q.ownBlock≠some p:=λe=>by
  rcases H p e with e| e
  ·exact f.ne e
  ·omega
 have V:=D.kp A (λg hg e=>E (e▸hg))
 refine PR<|Rj func220 O (⟨_,O,O,fpW p q,⟨q,⟨r,?_,E⟩,λ_=>y0R⟩,?_,?_⟩)
 ·rw[y01,y1Z];have U:[(c,v)].flatMap z7l=[x,y,Qi v]:=by simp[z7l,C]
  rw[U];exact V
 ·exact((l.trans m).kp.trans (B.PZ λk e=>(o k).2 (.inr e))).trans (A.PZ λk e=>(o k).2 (.inl e))
 ·intro k W;rcases W with e| e
  ·exact .inl ((o k).2 (.inl e))
  ·rcases H k e with e| e
   ·exact .inl ((o k).2 (.inr e))
   ·exact .inr ω
def Wz (rs:List Nat)(f:Bool):List Nat:=if f !=(rs.length%2==1) then rs++[0] else rs
theorem z2c (rs:List Nat)(f:Bool):Sd rs f=(Wz rs f).modify ((Wz rs f).length-1) (·+1):=rfl
abbrev z7m (n:Nat):Value:=I (n:Int)
theorem z3J {L:List Nat}(h:z4U w lf L F)(N:L.length<=1000000)(x:Nat)(a:Bool):
  Qx prog 222 [QL x,.bool a,.bool false,ptr lf 0,ptr rn 0] w λu w'=>u= .tuple #[]/\∃o,z4U w' lf (L++[x]) o/\Kp F w w'/\∀k,o k->F k\/w.heap.size<=k:=by
 obtain⟨M,d,l⟩:=h
 refine py (e:=[(0,_),(1,_),(2,_),(3,_),(4,_)]) func222 O ntmps222 O O ?_
 have B:=d.PO
 refine RU<|Qz O<|qV (Tf O)<|Qe O<|Qb O<|qN O<|qV (Q0 QG O O B O)<|Q4 O<|PX O O (YI (cs:=[_]) (zs:=[Value.int .u32 0]) QG Qn O y00 O O O ψ) ?_
 rintro _ w2⟨b2,rfl,⟨K,f,J⟩,E⟩
 refine PX O O (pap QG Qn O ψ O O (d.sl.ext f) E.rd (by intro c A;simp at A;subst A;rfl) ω (by simp only[maxLen];omega)) ?_
 rintro m w3⟨v,r,C,-⟩
 have I:=v.oneV
 have D:=r.PO (f.PO B) d.ne
 refine Qc O (S0 VB O O I D ξ) ?_
 rintro w4⟨n,q⟩
 replace n:Q8 w4 lf [m] 40:=n
 have S:=f.size
 have Q:=d.PO.lt
 have z:m.ownBlock≠some lf:=λe=>by
  rcases C lf e with e| e
  ·exact d.ne e
  ·omega
 have G:=v.kp q (λg hg e=>z (e▸hg))
 refine PR<|PQ func222 O (⟨_,O,O,fpW lf m,⟨m,⟨n,?_,z⟩,λ_=>y0R⟩,?_,?_⟩)
 ·rw[y01,y0f];exact G
 ·exact(f.kp.trans (r.PZ λk e=>(l k).2 (.inr e))).trans (q.PZ λk e=>(l k).2 (.inl e))
 ·intro k H;rcases H with e| e
  ·exact .inl ((l k).2 (.inl e))
  ·rcases C k e with e| e
   ·exact .inl ((l k).2 (.inr e))
   ·exact .inr ω
theorem z0o (h:z3i w rn rs F)(y:rs.length<=1000000)(D:rs≠[])(s:∀m∈rs,m<=1000000)(x:Nat)(a:Bool):
  Qx prog 222 [QL x,.bool a,.bool true,ptr lf 0,ptr rn 0] w λu w'=>u= .tuple #[]/\∃o,z3i w' rn (Sd rs a) o/\Kp F w w'/\∀k,o k->F k\/w.heap.size<=k:=by
 have R:∀k,F k->k<w.heap.size:=λk f=>h.lt f
 obtain⟨bv,n,z⟩:=id h
 refine py (e:=[(0,_),(1,_),(2,_),(3,_),(4,_)]) func222 O ntmps222 O O ?_
 have G:=n.PO
 obtain⟨va,vc,rfl,-⟩:=n.sl.rd.shape
 refine RU<|Qz O<|qV (Tf O)<|Qe O<|PW O<|Qz O<|qV (Q0 SF O O G O)<|SS SF O<|qV (YH O O ω ω) ?_
 rw[y2t]
 refine Ss O<|qV (zgi O O U4) ?_
 have t:decide (((rs.length%2:Nat):Int)=1)=(rs.length%2==1):=by
  rcases y1U rs.length with e|e<;>rw[e]<;>rfl
 rw[t]
 refine Qe O<|QT (λN w'=>N=[(4,ptr rn 0)]/\∃o,z3i w' rn (Wz rs a) o/\Kp F w w'/\∀k,o k->F k\/w.heap.size<=k) ?tf<|λtf=>?th
 case tf=>
  rintro N w1⟨rfl,P,⟨v1,d,W⟩,Z,T⟩
  obtain⟨l,m,U,fL,hm⟩:∃l m,Wz rs a=l++[m]/\l.length<=1000000/\m<=1000000:=by
   unfold Wz;split
   ·exact⟨rs,0,O,y,ω⟩
   ·refine⟨rs.dropLast,rs.getLast D,(y2p D).symm,by rw[y2q];omega,s _ (List.getLast_mem D)⟩
  rw[U] at d;have Y:(l++[m]).length=l.length+1:=ξ
  rw[Y] at d;rcases d.sl.shape with⟨-,h0⟩|⟨g,c1,rfl,gW⟩
  ·omega
  have C:=d.PO;refine PN<|PY O<|qV (Q0 SF O O C O)<|qV (Q0 SF O O C O)<|SS SF O<|SA O ?_;rw[show((l.length+1:Nat):Int)-1=(l.length:Int) by omega];refine qV (Rk SF R8 O O ω) (qV (QH U3 O O (Rg d.sl.rd (show((l++[m]).map z7m)[l.length]? =some (z7m m) by simp))) ?_);refine Ra O (qV (Rk SF R8 O O ω) (Qc O (T6 R8 O O O d.sl ξ) ?_));rintro w2⟨q,I⟩;have H:=I.PO C (λe=>d.ne (by rw[e];rfl));refine PR<|Rj func222 O (⟨_,O,O,fpW rn (.slice (some ⟨g,0,none⟩) (l.length+1) c1),⟨_,⟨H,?_,d.ne⟩,λ_=>y0R⟩,?_,?_⟩)
  ·rw[z2c,U,XZ];have r:(l++[m+1]).length=l.length+1:=ξ
   rw[r]
   have j:((l++[m]).map z7m).set l.length (z7m (m+1))=(l++[m+1]).map z7m:=by
    rw[y0f,y1Y _ _ ξ];simp
   rw[<-j];have e3:l.length*1=l.length:=y0p _
   first|exact q|(simp only[y0k,y0p] at q;exact q)
  ·exact Z.An (I.PZ (λk e=>(W k).2 (.inr (by rw[e];rfl)))) (λi hi=>(T i hi).symm)
  ·intro k f;exact T k ((W k).2 f)
 case th=>
  refine Ru O (λr=>?_)<|λr=>?_
  ·have E:Wz rs a=rs++[0]:=by unfold Wz;exact if_pos r
   refine PY O (qV (Q0 SF O O G O) (PX O O (YI (cs:=[_]) (zs:=[Value.int .i64 0]) SF R8 O y00 O O O ψ) ?_));rintro _ w2⟨b2,rfl,⟨X,v,H⟩,q⟩;refine PX O O (pap SF R8 O ψ O O (n.sl.ext v) q.rd (by intro c S;simp at S;subst S;rfl) ω (by simp only[maxLen];omega)) ?_;rintro A w3⟨M,K,V,-⟩;have L:=M.oneV;have b:=K.PO (v.PO G) n.ne;refine Qc O (S0 z8o O O L b ξ) ?_;rintro w4⟨B,J⟩;replace B:Q8 w4 rn [A] 37:=B;have z2:=v.size;have lp:=n.PO.lt
   have Q:A.ownBlock≠some rn:=λe=>by
    rcases V rn e with e| e
    ·exact n.ne e
    ·omega
   have p:=M.kp J (λg hg e=>Q (e▸hg));refine PR ((tf _ _ ⟨O,fpW rn A,⟨A,⟨B,?_,Q⟩,λ_=>y0R⟩,?_,?_⟩).qb)
   ·rw[E,y01,y0f];exact p
   ·exact(v.kp.trans (K.PZ λk e=>(z k).2 (.inr e))).trans (J.PZ λk e=>(z k).2 (.inl e))
   ·intro k f;rcases f with e| e
    ·exact .inl ((z k).2 (.inl e))
    ·rcases V k e with e| e
     ·exact .inl ((z k).2 (.inr e))
     ·exact .inr ω
  ·have E:Wz rs a=rs:=by unfold Wz;exact if_neg (by simpa using r)
   refine PS ?_;exact(tf _ _ ⟨O,F,by rw[E];exact h,Kp.refl _ _,λk f=> .inl f⟩).qb
def WL (s r rs:List Nat):List Nat:=r.foldl (λrs y=>Sd rs (decide (y∈s))) rs
def z0Z {s t:List Nat}:∀(r rs:List Nat),(∀y∈r,(y∈s↔y∈t))->WL s r rs=WL t r rs
 |[],rs,_=>rfl
 | y :: r, rs, h => by
   have d:decide (y∈s)=decide (y∈t):=decide_eq_decide.2 (h y y0r);show WL s r (Sd rs (decide (y∈s)))=WL t r (Sd rs (decide (y∈t)));rw[d];exact z0Z r _ (λz e=>h z (y0u _ e))
def Xj {x z:Nat}{l:List Nat}(h:x<z):z∈x::l↔z∈l:=by
 rw[y0h]
 constructor
 ·rintro(e|e)
  ·omega
  ·exact e
 ·exact .inr
theorem z4e {x:Nat}{s r:List Nat}(h:∀y∈r,x<y):Qv (x::s) r=x::Qv s r/\∀rs,WL (x::s) r rs=WL s r rs:=by
 have d:x∉r:=λe=>by have:=h x e;omega
 refine⟨?_,λrs=>z0Z r rs λy f=>Xj (h y f)⟩
 unfold Qv
 rw[List.filter_cons,if_pos (by simpa using d)]
def z33 {r t:List Nat}(s:List Nat)(h:∀x∈s,(x∈r↔x∈t)):Qv s r=Qv s t:=
 List.filter_congr λx d=>decide_eq_decide.2 (not_congr (h x d))
theorem z9M {x:Nat}{s r:List Nat}(e:∀z∈s,x<z)(d:∀y∈r,x<y):Qv (x::s) (x::r)=Qv s r/\∀rs,WL (x::s) (x::r) rs=WL s r (Sd rs true):=by
 refine⟨?_,λrs=>?_⟩
 ·have:=z33 (r:=x::r) (t:=r) s (λz f=>Xj (e z f));rw[<-this];unfold Qv;rw[List.filter_cons,if_neg ξ]
 ·show WL (x::s) r (Sd rs (decide (x∈x::s)))=_;rw[decide_eq_true y0r];exact(z4e d).2 _
theorem z8S {s r:List Nat}(d:∀z∈s,y<z):Qv s (y::r)=Qv s r/\∀rs,WL s (y::r) rs=WL s r (Sd rs false):=by
 refine⟨z33 s (λz f=>Xj (d z f)),λrs=>?_⟩
 show WL s r (Sd rs (decide (y∈s)))=_
 rw[decide_eq_false λe=>by have:=d y e;omega]
def z6B {x:Nat}{l:List Nat}(d:Ris (y::l))(h:x<y):∀z∈y::l,x<z:=λz f=>by
 rcases y0h.1 f with e| e
 ·omega
 ·have:=(y1l.1 d).1 z e;omega
def z1V:∀{l:List Nat} {m:Nat},m∈l->m<=l.sum
 | x :: l, m, h => by
   rw[y0M];rcases y0h.1 h with e| e
   ·omega
   ·have:=z1V e;omega
def z5m (rs:List Nat)(f:Bool):(Sd rs f).length<=rs.length+1:=by
 rw[z2c,List.length_modify]
 unfold Wz
 split<;>simp
def UK.le (h:UK rs fs):∀m∈rs,m<=fs.length:=λm d=>by
 have:=z1V d
 rw[<-h.exp,TV];exact this
structure Vq (w:World)(succ ref:List Nat)(lf rn:Nat)(FL0 FR0:Nat->Prop)(s:List Nat)(sa:Option Addr)(sc:Nat)(r:List Nat)(ra:Option Addr)(rc:Nat)(L rs:List Nat)(w':World):Prop where
 ex:∃FL FR fs,z4U w' lf L FL/\z3i w' rn rs FR/\UK rs fs/\fs.length+r.length<=65536/\rs.length+r.length<=65537/\(∀k,FL k->FL0 k\/w.heap.size<=k)/\(∀k,FR k->FR0 k\/w.heap.size<=k)/\∀k,FL k->¬FR k
 rdS:∀w2,Kp (λk=>FL0 k\/FR0 k) w w2->Rd w2 (.slice sa s.length sc) 1 s.length (s.map QL)
 rdR:∀w2,Kp (λk=>FL0 k\/FR0 k) w w2->Rd w2 (.slice ra r.length rc) 1 r.length (r.map QL)
 clS:s.length<=sc
 clR:r.length<=rc
 kp:Kp (λk=>FL0 k\/FR0 k) w w'
 okS:QR s
 okR:QR r
 left:Qv succ ref=L++Qv s r
 fold:Sr succ ref=WL s r rs
 zho:L.length+s.length<=65536
section
variable {s r L:List Nat}{rc:Nat}{x:Nat}
theorem Vq.ext (h:Vq w succ ref lf rn FL0 FR0 s sa sc r ra rc L rs w1)(d:Ext w1 w2):Vq w succ ref lf rn FL0 FR0 s sa sc r ra rc L rs w2:=by
 obtain⟨e,f,fs,k,l,m⟩:=h.ex
 exact⟨⟨e,f,fs,k.ext d,l.ext d,m⟩,h.rdS,h.rdR,h.clS,h.clR,h.kp.trans d.kp,h.okS,h.okR,h.left,h.fold,h.zho⟩
theorem Vq.z9r (h:Vq w succ ref lf rn FL0 FR0 (x::s) sa sc r ra rc L rs w1):∃b off,sa=some ⟨b,off,none⟩/\∀w2,Kp (λk=>FL0 k\/FR0 k) w w2->w2.cell? ⟨b,off+0*1,none⟩=some (QL x):=by
 rcases (h.rdS w1 h.kp).2 with⟨c,-,d⟩|⟨b,off,cap,e,-⟩
 ·exact absurd d ξ
 ·cases e;exact⟨b,off,O,λw2 k=>Rg (h.rdS w2 k) O⟩
theorem Vq.z9t (h:Vq w succ ref lf rn FL0 FR0 s sa sc (y::r) ra rc L rs w1):∃b off,ra=some ⟨b,off,none⟩/\∀w2,Kp (λk=>FL0 k\/FR0 k) w w2->w2.cell? ⟨b,off+0*1,none⟩=some (QL y):=by
 rcases (h.rdR w1 h.kp).2 with⟨c,-,d⟩|⟨b,off,cap,e,-⟩
 ·exact absurd d ξ
 ·cases e;exact⟨b,off,O,λw2 k=>Rg (h.rdR w2 k) O⟩
theorem Vq.zgc (h:Vq w succ ref lf rn FL0 FR0 (x::s) sa sc r ra rc L rs w1){f l:Nat->Prop}(J:z4U w1 lf L f/\z3i w1 rn rs l/\UK rs fs/\fs.length+r.length<=65536/\rs.length+r.length<=65537/\(∀k,f k->FL0 k\/w.heap.size<=k)/\(∀k,l k->FR0 k\/w.heap.size<=k)/\∀k,f k->¬l k)
  (B:∀y∈r,x<y) (K:∃d,z4U w2 lf (L++[x]) d/\Kp f w1 w2/\∀k,d k->f k\/w1.heap.size<=k):
  Vq w succ ref lf rn FL0 FR0 s (if sc=1 then sa else sa.map (·.add (1*1))) (sc-1) r ra rc (L++[x]) rs w2:=by
 obtain⟨-,M,N,O,Q,C,S,T,U,V,n⟩:=h
 obtain⟨W,v,E,G,H,z,I,A⟩:=J
 obtain⟨d,D,q,u⟩:=K
 have Y:=C.size
 rw[y02] at O n
 refine⟨⟨d,l,fs,D,v.kp q (λi hi e=>A i e hi),E,G,H,λk m=>?_,I,λk m e=>?_⟩,λw2 k=>?_,N,ω,Q,C.An q (λi hi=>?_),S.sub (y27 _ _),T,?_,?_,?_⟩
 ·rcases u k m with e| e
  ·exact z k e
  ·exact .inr ω
 ·rcases u k m with o|o
  ·exact A k o e
  ·have:=v.lt e;omega
 ·have:=Vc (M w2 k) (i:=1) (by rw[y02];omega) (by rw[y02];omega);exact this
 ·rcases z i hi with e| e
  ·exact .inr (.inl e)
  ·exact .inl e
 ·rw[U,(z4e B).1,y06];rfl
 ·rw[V,(z4e B).2]
 ·rw[y01,y1u];omega
theorem Vq.zd4 {v:List Nat}{n:Option Addr}{o:Nat}{f:Bool}(h:Vq w succ ref lf rn FL0 FR0 s sa sc (y::r) ra rc L rs w1)(g:(v=s/\n=sa/\o=sc/\f=false/\∀z∈s,y<z)\/(s=y::v/\n=(if sc=1 then sa else sa.map (·.add (1*1)))/\o=sc-1/\f=true))
  {m d:Nat->Prop} {fs:List Bool} (c:z4U w1 lf L m/\z3i w1 rn rs d/\UK rs fs/\fs.length+(y::r).length<=65536/\rs.length+(y::r).length<=65537/\(∀k,m k->FL0 k\/w.heap.size<=k)/\(∀k,d k->FR0 k\/w.heap.size<=k)/\∀k,m k->¬d k)
  (j:∃l,z3i w2 rn (Sd rs f) l/\Kp d w1 w2/\∀k,l k->d k\/w1.heap.size<=k):
  Vq w succ ref lf rn FL0 FR0 v n o r (if rc=1 then ra else ra.map (·.add (1*1))) (rc-1) L (Sd rs f) w2:=by
 obtain⟨-,Q,p,S,t,T,A,B,U,V,q⟩:=h
 obtain⟨M,F,Y,Z,a,b,N,O⟩:=c
 rw[y02] at Z a t
 obtain⟨l,W,J,K⟩:=j
 have P:=T.size
 have R:=z5m rs f
 have D:∀z∈r,y<z:=(y1l.1 B.ris).1
 have E:∃m d fs,z4U w2 lf L m/\z3i w2 rn (Sd rs f) d/\UK (Sd rs f) fs/\fs.length+r.length<=65536/\(Sd rs f).length+r.length<=65537/\(∀k,m k->FL0 k\/w.heap.size<=k)/\(∀k,d k->FR0 k\/w.heap.size<=k)/\∀k,m k->¬d k:=by
  refine⟨m,l,fs++[f],M.kp J (λi hi e=>O i hi e),W,Y.step f,by rw[y01,y1u];omega,ω,b,λk u=>?_,λk u e=>?_⟩
  ·rcases K k u with e| e
   ·exact N k e
   ·exact .inr ω
  ·rcases K k e with I|I
   ·exact O k u I
   ·have:=M.lt u;omega
 have G:Kp (λk=>FL0 k\/FR0 k) w w2:=T.An J (λi hi=>by
  rcases N i hi with e| e
  ·exact .inr (.inr e)
  ·exact .inl e)
 have H:∀w2,Kp (λk=>FL0 k\/FR0 k) w w2->Rd w2 (.slice (if rc=1 then ra else ra.map (·.add (1*1))) r.length (rc-1)) 1 r.length (r.map QL):=λw2 k=>
  Vc (p w2 k) (i:=1) (by rw[y02];omega) (by rw[y02];omega)
 rcases g with⟨rfl,rfl,rfl,rfl,hg⟩|⟨rfl,rfl,rfl,rfl⟩
 ·exact⟨E,Q,H,S,ω,G,A,B.sub (y27 _ _),by rw[U,(z8S hg).1],by rw[V,(z8S hg).2],q⟩
 ·have C:∀z∈v,y<z:=(y1l.1 A.ris).1;rw[y02] at S q;refine⟨E,λw2 k=>?_,H,ω,ω,G,A.sub (y27 _ _),B.sub (y27 _ _),by rw[U,(z9M C D).1],by rw[V,(z9M C D).2],ω⟩;exact Vc (Q w2 k) (i:=1) (by rw[y02];omega) (by rw[y02];omega)
end
theorem zcn {rc:Nat}(Z:Vq w succ ref lf rn FL0 FR0 succ sa sc ref ra rc [] [0] w):
  Qx prog 221 [.slice sa succ.length sc,.slice ra ref.length rc,.func (.func 222) #[] #[ptr lf 0,ptr rn 0]] w λu w'=>u= .tuple #[]/\
   ∃G H,z4U w' lf (Qv succ ref) G/\z3i w' rn (Sr succ ref) H/\(∀k,G k->FL0 k\/w.heap.size<=k)/\(∀k,H k->FR0 k\/w.heap.size<=k)/\(∀k,G k->¬H k)/\Kp (λk=>FL0 k\/FR0 k) w w':=by
 refine py (e:=[(0,_),(1,_),(2,_)]) func221 O ntmps221 O O<|PT<|SN (α:=List Nat×Option Addr×Nat×List Nat×Option Addr×Nat×List Nat×List Nat) (succ,sa,sc,ref,ra,rc,[],[0]) (λx=>[(0,.slice x.2.1 x.1.length x.2.2.1),(1,.slice x.2.2.2.2.1 x.2.2.2.1.length x.2.2.2.2.2.1),(2,.func (.func 222) #[] #[ptr lf 0,ptr rn 0])]) (λx w'=>Vq w succ ref lf rn FL0 FR0 x.1 x.2.1 x.2.2.1 x.2.2.2.1 x.2.2.2.2.1 x.2.2.2.2.2.1 x.2.2.2.2.2.2.1 x.2.2.2.2.2.2.2 w') (λx=>x.1.length+x.2.2.2.1.length) ?hI ?hround
 case hI=>exact Z
 case hround=>
  rintro⟨s,sa,sc,r,ra,rc,L,rs⟩ E hI Q;dsimp only at hI
  try dsimp only
  have hg:=(Ext.refl E).drew;have d:=hg.drew;have f:=hI.ext d;have p0:([]:List Nat).length=0:=rfl;have j:=hI.okS.len;have i:=hI.okR.len;rcases s with _|⟨x,s⟩
  ·rcases r with _|⟨y,r⟩
   ·refine QV O<|SS QG O<|RR O<|QW<|Qq O<|SS QG O<|RR O<|QW<|R0 O<|PR<|PW O<|Q7 O<|Rj func221 O ?_;have c:=hI.left;have g:=hI.fold;obtain⟨G,H,fs,o,n,l,I,J,v,A,B⟩:=hI.ex;rw[c,g];exact⟨_,O,O,G,H,by simpa[Qv] using o,n,v,A,B,hI.kp⟩
   ·skip
    obtain⟨b2,D,rfl,C⟩:=hI.z9t;have S:0<((y::r:List Nat).length:Int):=by rw[y02];omega
    have V:¬(((y::r).length:Int)=0):=ω
    refine QV O<|SS QG O<|RR O<|QW<|Qq O<|SS QG O<|RR O<|SD<|R0 O<|PR<|Qb O<|PS<|PT<|It ?_;refine Sq (λw'=>Ext E w') O<|Ql 0 O O hg<|PV 1 O (TM QG O) hg<|PV 2 O (yeq O O) hg<|Vm<|Ql 3 O O hg<|Ql 4 O O hg<|PV 5 O (TM QG O) hg<|PV 6 O (Zq O O) hg<|Vm<|Ql 7 O O hg<|qJ 8 O hg<|qJ 9 O hg<|qJ 10 O hg ?_;refine qJ 11 O hg<|qJ 12 O hg<|qJ 13 O hg<|qJ 14 O hg<|PV 15 O (VF O O) hg<|PV 16 O (VF O O) hg<|PV 17 O (SG O) hg<|qE<|It<|Sq (λw'=>Ext E w') O<|Ql 0 O O d<|PV 1 O (TM QG O) d<|PV 2 O (yeq O O) d<|Vn ?_;refine Ql 3 O O d<|qJ 4 O d<|qJ 5 O d<|qJ 6 O d<|qJ 7 O d<|qJ 8 O d<|qJ 9 O d<|qJ 10 O d<|qJ 11 O d<|qJ 12 O d<|qJ 13 O d<|qJ 14 O d<|qJ 15 O d<|PV 16 O (WA O O) d ?_;refine PV 17 O (SG O) d (qE (QV O (PR (PW O (PY O (Qq O (qV (Rk QG Qn O O ω) (qV (QH RO O O (C _ f.kp)) ?_))))))));obtain⟨G,H,fs,o,n,l,I,J,v,A,B⟩:=f.ex;refine S5 O O (SQ z5B O O) (z0o n ω l.ne (λm N=>by have:=l.le m N;omega) y false) ?_;rintro _ T⟨rfl,K⟩;refine qM O (Q4 O (PR (Qb O (Sv O (qV (Zs QG Qn O O (by rw[y02];omega) hI.clR) ?_)))));refine Qe O<|PN ?_;exact(Q ([],sa,sc,r,_,rc-1,L,Sd rs false) _ (f.zd4 (.inl ⟨O,O,O,O,λz U=>by simp at U⟩) ⟨o,n,l,I,J,v,A,B⟩ K) (by dsimp only;simp only[y02,y1g];omega)).qb
  ·rcases r with _|⟨y,r⟩
   ·obtain⟨b,off,rfl,q⟩:=hI.z9r
    skip
    have S:0<((x::s:List Nat).length:Int):=by rw[y02];omega
    have W:¬(((x::s).length:Int)=0):=ω
    refine QV O<|SS QG O<|RR O<|SD<|Q4 O<|Sc<|qS<|Sh O<|PR<|Qb O<|PS<|PT<|It<|Sq (λw'=>Ext E w') O ?_;refine Ql 0 O O hg<|PV 1 O (TM QG O) hg<|PV 2 O (yeq O O) hg<|Vn<|Ql 3 O O hg<|qJ 4 O hg<|qJ 5 O hg<|qJ 6 O hg<|qJ 7 O hg<|qJ 8 O hg<|qJ 9 O hg<|qJ 10 O hg<|qJ 11 O hg<|qJ 12 O hg ?_;refine qJ 13 O hg<|qJ 14 O hg<|qJ 15 O hg<|PV 16 O (WA O O) hg<|PV 17 O (SG O) hg<|qE<|It<|Sq (λw'=>Ext E w') O<|Ql 0 O O d<|PV 1 O (TM QG O) d<|PV 2 O (yeq O O) d<|Vm<|Ql 3 O O d<|Ql 4 O O d ?_;refine PV 5 O (TM QG O) d<|PV 6 O (Zq O O) d<|Vm<|Ql 7 O O d<|qJ 8 O d<|qJ 9 O d<|qJ 10 O d<|qJ 11 O d<|qJ 12 O d<|qJ 13 O d<|qJ 14 O d<|PV 15 O (VF O O) d<|PV 16 O (VF O O) d<|PV 17 O (SG O) d ?_;refine qE (QV O (PR (Qb O (RK O (qV (Rk QG Qn O O ω) (qV (QH RO O O (q _ f.kp)) (Q4 O ?_)))))));obtain⟨G,H,fs,o,n,l,I,J,v,A,B⟩:=f.ex;have a:=f.zho;refine S5 O O (SQ z5B O O) (z3J o ω x true) ?_;rintro _ T⟨rfl,K⟩;refine PR (Sv O (qV (Zs QG Qn O O (by rw[y02];omega) hI.clS) ?_));refine RZ O<|Ri O<|PN ?_;exact(Q (s,_,sc-1,[],ra,rc,L++[x],rs) _ (f.zgc ⟨o,n,l,I,J,v,A,B⟩ (λz U=>by simp at U) K) (by dsimp only;simp only[y02,y1g];omega)).qb
   ·rcases Nat.lt_trichotomy x y with M|M|M
    ·obtain⟨b,off,rfl,q⟩:=hI.z9r;obtain⟨b2,D,rfl,C⟩:=hI.z9t;have S:0<((x::s:List Nat).length:Int):=by rw[y02];omega
     have Y:0<((y::r).length:Int):=by rw[y02];omega
     have V:¬(((y::r).length:Int)=0):=ω
     have W:¬(((x::s).length:Int)=0):=ω
     refine QV O<|SS QG O<|RR O<|SD<|Q4 O<|Sc<|qS<|Sh O<|PR<|Qb O<|PS<|PT<|It<|Sq (λw'=>Ext E w') O ?_;refine Ql 0 O O hg (PV 1 O (TM QG O) hg (PV 2 O (yeq O O) hg (Vm (Ql 3 O O hg (Ql 4 O O hg (PV 5 O (TM QG O) hg (PV 6 O (Zq O O) hg (Vn (Ql 7 O O hg (Ql 8 O O hg (PV 9 O (Rk QG Qn O O ω) hg (Ql 11 O O hg (PV 12 O (Rk QG Qn O O ω) hg ?_)))))))))))));refine qT 10 O (λ_ h=>QH RO O O (q _ (hI.kp.trans h.kp))) hg<|qT 13 O (λ_ h=>QH RO O O (C _ (hI.kp.trans h.kp))) hg<|PV 14 O (yle O O) hg<|Vn<|PV 15 O (WA O O) hg<|PV 16 O (VF O O) hg<|PV 17 O (SG O) hg<|qE<|It<|Sq (λw'=>Ext E w') O<|Ql 0 O O d<|PV 1 O (TM QG O) d<|PV 2 O (yeq O O) d<|Vm ?_;refine Ql 3 O O d (Ql 4 O O d (PV 5 O (TM QG O) d (PV 6 O (Zq O O) d (Vn (Ql 7 O O d (Ql 8 O O d (PV 9 O (Rk QG Qn O O ω) d (Ql 11 O O d (PV 12 O (Rk QG Qn O O ω) d (qT 10 O (λ_ h=>QH RO O O (C _ (hI.kp.trans h.kp))) d (qT 13 O (λ_ h=>QH RO O O (q _ (hI.kp.trans h.kp))) d (PV 14 O (yle O O) d (Vm ?_)))))))))))));refine PV 15 O (WA O O) d (PV 16 O (VF O O) d (PV 17 O (SG O) d (qE (QV O (PR (Qb O (RK O (qV (Rk QG Qn O O ω) (qV (QH RO O O (q _ f.kp)) (Q4 O ?_))))))))));obtain⟨G,H,fs,o,n,l,I,J,v,A,B⟩:=f.ex;have a:=f.zho;refine S5 O O (SQ z5B O O) (z3J o ω x true) ?_;rintro _ T⟨rfl,K⟩;refine PR (Sv O (qV (Zs QG Qn O O (by rw[y02];omega) hI.clS) ?_));refine RZ O<|Ri O<|PN ?_;exact(Q (s,_,sc-1,y::r,_,rc,L++[x],rs) _ (f.zgc ⟨o,n,l,I,J,v,A,B⟩ (z6B hI.okR.ris M) K) (by dsimp only;simp only[y02,y1g];omega)).qb
    ·obtain⟨b,off,rfl,q⟩:=hI.z9r;obtain⟨b2,D,rfl,C⟩:=hI.z9t;have S:0<((x::s:List Nat).length:Int):=by rw[y02];omega
     have Y:0<((y::r).length:Int):=by rw[y02];omega
     have V:¬(((y::r).length:Int)=0):=ω
     have W:¬(((x::s).length:Int)=0):=ω
     refine QV O<|SS QG O<|RR O<|SD<|Q4 O<|Sc<|qS<|Sh O<|PR<|Qb O<|PS<|PT<|It<|Sq (λw'=>Ext E w') O ?_;refine Ql 0 O O hg (PV 1 O (TM QG O) hg (PV 2 O (yeq O O) hg (Vm (Ql 3 O O hg (Ql 4 O O hg (PV 5 O (TM QG O) hg (PV 6 O (Zq O O) hg (Vn (Ql 7 O O hg (Ql 8 O O hg (PV 9 O (Rk QG Qn O O ω) hg (Ql 11 O O hg (PV 12 O (Rk QG Qn O O ω) hg ?_)))))))))))));refine qT 10 O (λ_ h=>QH RO O O (q _ (hI.kp.trans h.kp))) hg<|qT 13 O (λ_ h=>QH RO O O (C _ (hI.kp.trans h.kp))) hg<|PV 14 O (yle O O) hg<|Vn<|PV 15 O (WA O O) hg<|PV 16 O (VF O O) hg<|PV 17 O (SG O) hg<|qE<|It<|Sq (λw'=>Ext E w') O<|Ql 0 O O d<|PV 1 O (TM QG O) d<|PV 2 O (yeq O O) d<|Vm ?_;refine Ql 3 O O d (Ql 4 O O d (PV 5 O (TM QG O) d (PV 6 O (Zq O O) d (Vn (Ql 7 O O d (Ql 8 O O d (PV 9 O (Rk QG Qn O O ω) d (Ql 11 O O d (PV 12 O (Rk QG Qn O O ω) d (qT 10 O (λ_ h=>QH RO O O (C _ (hI.kp.trans h.kp))) d (qT 13 O (λ_ h=>QH RO O O (q _ (hI.kp.trans h.kp))) d (PV 14 O (yle O O) d (Vn ?_)))))))))))));refine PV 15 O (WA O O) d (PV 16 O (VF O O) d (PV 17 O (SG O) d (qE (QV O (PR (Qb O (RK O (qV (Rk QG Qn O O ω) (qV (QH RO O O (q _ f.kp)) (Q4 O ?_))))))))));obtain⟨G,H,fs,o,n,l,I,J,v,A,B⟩:=f.ex;refine S5 O O (SQ z5B O O) (z0o n ω l.ne (λm N=>by have:=l.le m N;omega) x true) ?_;rintro _ T⟨rfl,K⟩;refine PR (Sv O (qV (Zs QG Qn O O (by rw[y02];omega) hI.clS) ?_));refine RZ O (PR (Qb O (Sv O (qV (Zs QG Qn O O (by rw[y02];omega) hI.clR) ?_))));refine Qe O<|PN ?_;subst M;exact(Q (s,_,sc-1,r,_,rc-1,L,Sd rs true) _ (f.zd4 (.inr ⟨O,O,O,O⟩) ⟨o,n,l,I,J,v,A,B⟩ K) (by dsimp only;simp only[y02,y1g];omega)).qb
    ·obtain⟨b,off,rfl,q⟩:=hI.z9r;obtain⟨b2,D,rfl,C⟩:=hI.z9t;have S:0<((x::s:List Nat).length:Int):=by rw[y02];omega
     have Y:0<((y::r).length:Int):=by rw[y02];omega
     have V:¬(((y::r).length:Int)=0):=ω
     have W:¬(((x::s).length:Int)=0):=ω
     refine QV O<|SS QG O<|RR O<|SD<|Q4 O<|Sc<|qS<|Sh O<|PR<|Qb O<|PS<|PT<|It<|Sq (λw'=>Ext E w') O ?_;refine Ql 0 O O hg (PV 1 O (TM QG O) hg (PV 2 O (yeq O O) hg (Vm (Ql 3 O O hg (Ql 4 O O hg (PV 5 O (TM QG O) hg (PV 6 O (Zq O O) hg (Vn (Ql 7 O O hg (Ql 8 O O hg (PV 9 O (Rk QG Qn O O ω) hg (Ql 11 O O hg (PV 12 O (Rk QG Qn O O ω) hg ?_)))))))))))));refine qT 10 O (λ_ h=>QH RO O O (q _ (hI.kp.trans h.kp))) hg<|qT 13 O (λ_ h=>QH RO O O (C _ (hI.kp.trans h.kp))) hg<|PV 14 O (yle O O) hg<|Vm<|PV 15 O (WA O O) hg<|PV 16 O (VF O O) hg<|PV 17 O (SG O) hg<|qE<|It<|Sq (λw'=>Ext E w') O<|Ql 0 O O d<|PV 1 O (TM QG O) d<|PV 2 O (yeq O O) d<|Vm ?_;refine Ql 3 O O d (Ql 4 O O d (PV 5 O (TM QG O) d (PV 6 O (Zq O O) d (Vn (Ql 7 O O d (Ql 8 O O d (PV 9 O (Rk QG Qn O O ω) d (Ql 11 O O d (PV 12 O (Rk QG Qn O O ω) d (qT 10 O (λ_ h=>QH RO O O (C _ (hI.kp.trans h.kp))) d (qT 13 O (λ_ h=>QH RO O O (q _ (hI.kp.trans h.kp))) d (PV 14 O (yle O O) d (Vn ?_)))))))))))));refine PV 15 O (WA O O) d (PV 16 O (VF O O) d (PV 17 O (SG O) d (qE (QV O (PR (PW O (PY O (Qq O (qV (Rk QG Qn O O ω) (qV (QH RO O O (C _ f.kp)) ?_))))))))));obtain⟨G,H,fs,o,n,l,I,J,v,A,B⟩:=f.ex;refine S5 O O (SQ z5B O O) (z0o n ω l.ne (λm N=>by have:=l.le m N;omega) y false) ?_;rintro _ T⟨rfl,K⟩;refine qM O (Q4 O (PR (Qb O (Sv O (qV (Zs QG Qn O O (by rw[y02];omega) hI.clR) ?_)))));refine Qe O<|PN ?_;exact(Q (x::s,_,sc,r,_,rc-1,L,Sd rs false) _ (f.zd4 (.inl ⟨O,O,O,O,z6B hI.okS.ris M⟩) ⟨o,n,l,I,J,v,A,B⟩ K) (by dsimp only;simp only[y02,y1g];omega)).qb
structure TkM (w:World)(t r:Nat)(s:PU)(a:Nat):Prop where
 PO:Q8 w t [ptr r 0,.bool false] 332
 rd:Va w r s a
 ne:t≠r
def TkM.ext {r:Nat}(h:TkM w t r s a)(d:Ext w w'):TkM w' t r s a:=⟨d.PO h.PO,⟨d.PO h.rd.1,h.rd.2⟩,h.ne⟩
theorem VJ {r:Nat}(h:TkM w t r s a)(c:Cd)(v n:Nat)(H:c.RN)(J:v<=c.most)(N:v<=n)(Q:n<9223372036854775808)(rest:List Bool)(G:(Qo s).drop a=c.enc v++rest):
  Qx prog 243 [ptr t 0,cdV c,I (n:Int)] w λu w'=>u=I (v:Int)/\TkM w' t r s (a+(c.enc v).length)/\Kp (λk=>k=r) w w':=by
 obtain⟨x,y,D⟩:∃x y,Tu c=[x,y]:=by cases c<;>exact⟨_,_,O⟩
 have o:cdV c= .agg [x,y].toArray:=by rw[cdV,D]
 have K:=c.z1F
 rw[o]
 refine py (e:=[(0,_),(1,_),(2,_)]) func243 O ntmps243 O O<|qN O<|PX O O (Sy O (cs:=[x,y]) O) ?_
 rintro _ w1⟨B,rfl,M,l,z⟩
 have f:=h.ext l
 have q:¬B=r:=by have:=h.rd.1.lt;omega
 have hg:=(Ext.refl w1).drew
 refine Qe O<|It<|Sq (λw'=>Kp (λk=>k=r) w1 w') O<|Ql 0 O O hg.kp<|PV 1 O (Rs O) hg.kp<|PV 2 O (QE zeM O) hg.kp<|qT 3 O (λ_ E=>Q0 VS O O (E.PO f.PO h.ne) O) hg.kp<|qT 4 O (λ_ h=>QB (news:=[x,y]) Td O S3 O ((h.PO z q).cells (n:=2) O) O) hg.kp ?_
 rw[<-o]
 refine TQ 5 O zcp O (z0t (⟨hg.PO f.rd.1,f.rd.2⟩:Va _ r s a) c v H J rest G) ?_
 rintro _ w2⟨rfl,C,d⟩
 refine⟨hg.kp.trans d,?_⟩
 have m:=hg.kp.trans d
 have A:=m.PO f.PO h.ne
 refine Ql 6 O O (hg.kp.trans d)<|PV 7 O (SH O O) (hg.kp.trans d)<|PV 8 O (SH O O) (hg.kp.trans d)<|PV 9 O (SG O) (hg.kp.trans d)<|PV 10 O (SG O) (hg.kp.trans d)<|qE<|QV O<|RI O<|Qq O<|Q4 O<|qV (Rz O U3 SK ω)<|RR O<|QW<|R0 O ?_
 refine Ri O<|Qz O<|qV (QU O SK U3 ω)<|Qe O<|QA.qb (e:=[(6,_)]) ?_
 refine PQ func243 O ?_
 exact⟨_,O,O,⟨A,C,h.ne⟩,l.kp.trans m⟩
theorem Ro (q:Cd×Nat)(l:List (Cd×Nat)):Qr (q::l)=q.1.enc q.2++Qr l:=rfl
def Ts {s e rest:List Bool}(h:s.drop a=e++rest):s.drop (a+e.length)=rest:=by
 rw[<-y0G,h,y2V]
structure CpI (w:World)(t r:Nat)(s:PU)(rs ref:List Nat)(rest:List Bool)(aE i:Nat)(rs2 ref2:List Nat)(sa:Option Addr)(sc:Nat)(v5:Value)(O_:List Nat)(a:Nat)(w':World):Prop where
 tk:TkM w' t r s a
 kp:Kp (λk=>k=r) w w'
 sl:Sl w' v5 42 1 O_.length (O_.map QL)
 fr:∀g,v5.ownBlock=some g->w.heap.size<=g
 len:rs.length=i+rs2.length
 rd:∀w2,Kp (λk=>k=r) w w2->Rd w2 (.slice sa ref2.length sc) 1 ref2.length (ref2.map QL)
 cl:ref2.length<=sc
 sum:rs2.sum<=ref2.length
 pos:∀m∈rs2.drop (1-min i 1),1<=m
 bits:(Qo s).drop a=Qr (RA i rs2)++rest
 z5O:a+(Qr (RA i rs2)).length=aE
 eq:copyL true rs ref=O_++copyL (i%2==0) rs2 ref2
 tot:O_.length+ref2.length<=65536
theorem zaC (a:Addr):a.add 0=a:=by
 unfold Addr.add
 split<;>simp_all
def zdO {e:Env}{d:Option Nat}{t:TypeId}{pos:String}{g:Option (Nat×Bool)}{x u:Operand}{z:Value}{size bytes n:Nat}{a:Option Addr}{k:IntKind}{zb:Int}[xm:Uu zb j](ht:P.underlying t=some (.slice el))(r:TI P el z size bytes)(q:look e x=some (.slice a n cap))
  (o:look e u=some (.int k zb)) (h:j<=cap):
  Y P e ⟨d,.slice t x none (some u) none,ty,pos,aft,g⟩ (.slice a j cap) w w:=fun ρ f=>by
 obtain⟨rfl⟩:=xm
 have l:=r.size (w:=w)
 have m:∀w,(Instr.sliceBound (.int k (j:Int)) cap .sliceAcap).run P w= .ok j w:=λw=>by rw[run_sliceBound _ _ _ _ _ ω ω];simp
 cases a with
 |none=>simp[execOp,f _ _ q,f _ _ o,Instr.sliceAt,run_underlying ht,Instr.slice,Instr.sliceBounds,m,l]
 |some a=>simp[execOp,f _ _ q,f _ _ o,Instr.sliceAt,run_underlying ht,Instr.slice,Instr.sliceBounds,m,l,zaC]
theorem z6a {r:Nat}(h:TkM w t r s a)(p:Q8 w 1 (Tu .gamma) 314)(cN:¬1=r)(ref rs:List Nat)
  (db:∀w2,Kp (λk=>k=r) w w2->Rd w2 (.slice sa ref.length sc) 1 ref.length (ref.map QL)) (f7:ref.length<=sc) (Bx:ref.length<=65536) (hn:rs.length<=ref.length+1) (Z:rs.sum<=ref.length)
  (iA:∀m∈rs.drop 1,1<=m) (rest:List Bool) (V:(Qo s).drop a=Qr ((.gamma,rs.length)::RA 0 rs)++rest):
  Qx prog 230 [ptr t 0,.slice sa ref.length sc] w λu w'=>Sl w' u 42 1 (copyL true rs ref).length ((copyL true rs ref).map QL)/\(∀g,u.ownBlock=some g->w.heap.size<=g)/\
   TkM w' t r s (a+(Qr ((.gamma,rs.length)::RA 0 rs)).length)/\Kp (λk=>k=r) w w':=by
 have R:∀v:Nat,v<=65537->v<=Cd.most .gamma:=λv hv=>by simp only[Cd.most];omega
 refine py (e:=[(0,_),(1,_)]) func230 O ntmps230 O O<|qN O<|Sb O<|RZ O<|qV (QB (news:=[.int .u8 1,Qi 0]) Td O S3 O (p.cells (n:=2) O) O)<|Q4 O<|SS QG O ?_
 rw[Ro,y06] at V
 rw[show((ref.length:Nat):Int)=((ref.length:Nat):Int) from rfl]
 refine Ra O<|Qj z42 O (VJ h .gamma rs.length (ref.length+1) trivial (R _ ω) ω ω _ V) ?_
 rintro _ w1⟨rfl,j,aI⟩
 have bP:=Ts V
 refine Qe O<|It<|RK O<|PR<|PT<|SN (α:=Nat×List Nat×List Nat×Option Addr×Nat×Value×List Nat×Nat) (0,rs,ref,sa,sc,.slice none 0 0,[],a+(Cd.enc .gamma rs.length).length) (λx=>[(0,ptr t 0),(1,.slice x.2.2.2.1 x.2.2.1.length x.2.2.2.2.1),(5,x.2.2.2.2.2.1),(6,I (rs.length:Int)),(15,I (rs.length:Int)),(16,I (x.1:Int))]) (λx w'=>CpI w t r s rs ref rest (a+(Qr ((.gamma,rs.length)::RA 0 rs)).length) x.1 x.2.1 x.2.2.1 x.2.2.2.1 x.2.2.2.2.1 x.2.2.2.2.2.1 x.2.2.2.2.2.2.1 x.2.2.2.2.2.2.2 w') (λx=>x.2.1.length) ?hI ?hround
 case hI=>exact⟨j,aI,Sl.nil _ _ _,(λg h=>by cases h),ξ,db,f7,Z,iA,bP,by rw[Ro,y01];dsimp only;omega,rfl,by simp;omega⟩
 case hround =>
  rintro⟨i,o,d,J,q,A,C,a2⟩ w6 hI P;dsimp only at hI;have M:=hI.len;have xC:=hI.tot
  try dsimp only
  refine qN O<|RT O<|PR<|It<|Qa O (λh0=>?_)<|λh0=>?_
  ·obtain⟨n,o,rfl⟩:∃n l,o=n::l:=by
    cases o with
    |nil=>simp at M;omega
    |cons n l=>exact⟨n,l,O⟩
   have Bz:=hI.kp.PO p cN;have Z:=hI.sum;rw[y0M] at Z;rw[y02] at M;have Q:=hI.bits;rw[RA,Ro,y06] at Q
   have cf:min i 1<=n:=by
    have y:=hI.pos n;rcases y0D i with e| e
    ·subst e;simp
    ·rw[show 1-min i 1=0 by omega] at y;have:=y y0r;omega
   refine PS (RU (Qz O (RZ O (qV (QB (news:=[.int .u8 1,Qi 0]) Td O S3 O (Bz.cells (n:=2) O) O) (Q4 O (SS QG O (Qj z42 O (VJ hI.tk .gamma (n-min i 1) d.length trivial (R _ ω) ω ω _ Q) ?_)))))));rintro _ w7⟨rfl,z,N⟩;have L:=hI.kp.trans N;have cd:=z.PO;refine Q4 O<|qV (ymi O O)<|Ra O ?_;rw[show((n-min i 1:Nat):Int)+min (i:Int) 1=(n:Int) by omega];refine Qe O (QV O (QC O (Qf Vb O (qV (Q0 U4 O O cd O) (Qq O (Q4 O (SS QG O (RR O (QW (R0 O (Ri O (QV O (qV (YH O O ω ω) ?_)))))))))))));rw[y2t];have CN:=hI.rd _ L;have fk:=Ts Q;have X:=hI.kp.size;have Im:=N.size
   have ti:∀g,A.ownBlock=some g->¬g=r:=λg hg e=>by
    have j:=hI.fr g hg;have h2:=h.rd.1.lt;omega
   have F:=hI.sl.kp N ti
   have K:∀(f:Value)(B:World),Sl B f 42 1 (C++if i%2==0 then d.take n else []).length ((C++if i%2==0 then d.take n else []).map QL)->(∀g,f.ownBlock=some g->w.heap.size<=g)->Kp (λk=>A.ownBlock=some k) w7 B->
     CpI w t r s rs ref rest (a+(Qr ((.gamma,rs.length)::RA 0 rs)).length) (i+1) o (d.drop n) (if q=n then J else J.map (·.add (n*1))) (q-n) f (C++if i%2==0 then d.take n else []) (a2+(Cd.enc .gamma (n-min i 1)).length) B:=by
    intro f B g1 g2 U;have a1:=z.PO.lt;have a0:=z.rd.1.lt;have jK:=h.PO.lt;have eM:=h.rd.1.lt;have H:∀x,x<w.heap.size->¬A.ownBlock=some x:=λx hx e=>by have:=hI.fr x e;omega
    refine⟨⟨U.PO z.PO (H t jK),⟨U.PO z.rd.1 (H r eM),z.rd.2⟩,z.ne⟩,L.An U (λk W=> .inl (hI.fr k W)),g1,g2,ω,λw2 k=>?_,by rw[y08];have:=hI.cl;omega,by rw[y08];omega,?_,?_,?_,?_,?_⟩
    ·have:=Vc (hI.rd w2 k) (i:=n) ω hI.cl;rw[<-y21] at this;rw[y08];exact this
    ·intro m Y;refine hI.pos m ?_;rw[show 1-min (i+1) 1=0 by omega,y0U] at Y;rcases y0D i with e| e
     ·subst e;exact Y
     ·rw[show 1-min i 1=0 by omega];exact y0u _ Y
    ·exact fk
    ·have:=hI.z5O;rw[RA,Ro,y01] at this;dsimp only at this;omega
    ·rw[hI.eq,copyL,y06]
     have:((i+1)%2==0)= !(i%2==0):=by
      rcases y1U i with e| e
      ·rw[e,show(i+1)%2=1 by omega];rfl
      ·rw[e,show(i+1)%2=0 by omega];rfl
     rw[this]
    ·rw[y01,y08];split
     ·rw[y0d];omega
     ·simp;omega
   refine Ss O<|PR<|Qa O (λS=>?_)<|λS=>?_
   ·have T:(i%2==0)=true:=by simp;omega
    simp only[T,if_true] at K;refine PY O (Qq O (Q4 O (qV (zdO QG Qn O O (by have:=hI.cl;omega)) ?_)));have KD:=hI.cl;refine PX O O (pap QG Qn O ψ O O F (Ws CN (i:=n) ω) (by rw[<-y1m];exact z0b _) ω (by simp only[maxLen];omega)) ?_;rintro f B⟨E,D,c,-⟩;have mT:=E.oneV;refine Qe O (PY O (Qq O (qV (Zs QG Qn O O ω hI.cl) (Qe O (PN (PY O (Ra O (Q4 O (PR ?_)))))))));rw[show d.length-n=(d.drop n).length by rw[y08]];refine(P (i+1,o,d.drop n,_,q-n,f,C++d.take n,_) _ (K f _ ?_ ?_ D) (by dsimp only;simp)).qb
    ·rw[y01,y0f,y0d,y0B ω,y1m];exact E
    ·intro g hg;rcases c g hg with e| e
     ·exact hI.fr g e
     ·omega
   ·have T:(i%2==0)=false:=by simp;omega
    simp only[T,y2v,if_false,y0o] at K;refine PS (PY O (Qq O (qV (Zs QG Qn O O ω hI.cl) (Qe O (PN (PY O (Ra O (Q4 O (PR ?_)))))))));rw[show d.length-n=(d.drop n).length by rw[y08]];exact(P (i+1,o,d.drop n,_,q-n,A,C,_) _ (K A _ F hI.fr (Kp.refl _ _)) (by dsimp only;simp)).qb
  ·have fi:o=[]:=y0w ω;subst fi;have OM:rs.length=i:=by rw[M];simp
   have b:=hI.z5O;have G:=hI.eq;rw[copyL] at G;rw[show(Qr (RA i [])).length=0 from rfl,y1f] at b;refine Q7 O (QV O (qV (YH O O ω ω) ?_));rw[y2t];refine Ss O<|PR<|Qa O (λS=>?_)<|λS=>?_
   ·rw[if_pos (by simp;omega)] at G;refine PY O (Qq O (PX O O (pap QG Qn O ψ O O hI.sl (hI.rd _ hI.kp) (z0b _) ω (by simp only[maxLen];omega)) ?_));rintro f B⟨E,D,c,-⟩;have mT:=E.oneV;refine RZ O<|Qe O<|PQ func230 O ?_;rw[G,<-b];have X:=hI.kp.size;have H:∀x,x<w.heap.size->¬A.ownBlock=some x:=λx hx e=>by have:=hI.fr x e;omega
    refine⟨_,O,?_,λg hg=>?_,⟨D.PO hI.tk.PO (H t h.PO.lt),⟨D.PO hI.tk.rd.1 (H r h.rd.1.lt),hI.tk.rd.2⟩,hI.tk.ne⟩,hI.kp.An D (λk W=> .inl (hI.fr k W))⟩
    ·rw[y01,y0f];exact E
    ·rcases c g hg with e| e
     ·exact hI.fr g e
     ·omega
   ·rw[if_neg (by simp;omega),y0o] at G;refine PS<|Qz O<|Qe O<|PQ func230 O ?_;rw[G,<-b];exact⟨_,O,hI.sl,hI.fr,hI.tk,hI.kp⟩
structure ReI (w w1:World)(t r:Nat)(s:PU)(l:List Nat)(x k:Nat)(rest:List Bool)(aE b7:Nat)(dn l2:List Nat)(v9:Value)(a:Nat)(w':World):Prop where
 tk:TkM w' t r s a
 kp:Kp (λk=>k=t\/k=r) w w'
 b7:Q8 w' b7 (Tu (.zeta k)) 314
 sl:Sl w' v9 42 1 dn.length (dn.map QL)
 fr:∀g,v9.ownBlock=some g->w1.heap.size<=g
 eq:l=dn++l2
 bits:(Qo s).drop a=Qr (QZ x k dn.getLast? l2)++rest
 z5O:a+(Qr (QZ x k dn.getLast? l2)).length=aE
 siz:w1.heap.size<=w'.heap.size
theorem z7J {r:Nat}(h:TkM w t r s a)(x k:Nat)(hx:x<65536)(hk:1<=k/\k<=16)(l:List Nat)(Q:QR l)(rest:List Bool)(hb:(Qo s).drop a=Qr (QZ x k none l)++rest):
  Qx prog 232 [ptr t 0,I (x:Int),I (l.length:Int),cdV (.zeta k)] w λu w'=>Sl w' u 42 1 l.length (l.map QL)/\(∀g,u.ownBlock=some g->w.heap.size<=g)/\
   TkM w' t r s (a+(Qr (QZ x k none l)).length)/\Kp (λk=>k=t\/k=r) w w':=by
 have aw:=Q.len
 have a1:=h.PO.lt
 have a0:=h.rd.1.lt
 refine py (e:=[(0,_),(1,_),(2,_),(3,_)]) func232 O ntmps232 O O<|qN O<|PX O O (Sy O (cs:=Tu (.zeta k)) O) ?_
 rintro _ w1⟨b7,rfl,lu,K,Y⟩
 have h1:=h.ext K
 have z1:=K.size
 have In:=Y.lt
 refine Sb O<|Qe O<|It<|RK O<|PR<|PT<|SN (α:=List Nat×List Nat×Value×Nat) ([],l,.slice none 0 0,a) (λy=>[(0,ptr t 0),(1,I (x:Int)),(7,ptr b7 0),(9,y.2.2.1),(12,I (l.length:Int)),(13,I (y.1.length:Int))]) (λy w'=>ReI w w1 t r s l x k rest (a+(Qr (QZ x k none l)).length) b7 y.1 y.2.1 y.2.2.1 y.2.2.2 w') (λy=>y.2.1.length) ?hI ?hround
 case hI=>exact⟨h1,K.kp,Y,Sl.nil _ _ _,(λg h=>by cases h),rfl,hb,rfl,y04 _⟩
 case hround =>
  rintro⟨d,f,v9,a2⟩ w6 hI ih;dsimp only at hI;have m:=hI.eq;have j:l.length=d.length+f.length:=by rw[m,y01]
  try dsimp only
  refine qN O<|RT O<|PR<|It<|Qa O (λp=>?_)<|λp=>?_
  ·obtain⟨y,f,rfl⟩:∃y q,f=y::q:=by
    cases f with
    |nil=>simp at j;omega
    |cons y q=>exact⟨y,q,O⟩
   rw[y02] at j;have Io:y<65536:=Q.lt y (by rw[m];simp);have W:=hI.b7;have M:=hI.bits;have D:=hI.z5O
   have key:∃v:Nat,QZ x k d.getLast? (y::f)=(.zeta k,v)::QZ x k (d++[y]).getLast? f/\v<=262144/\(d=[]->v=zig ((y:Int)-x))/\∀u q,d=q++[u]->v+(u+1)=y:=by
    rw[List.getLast?_append,show [y].getLast? =some y from rfl,Option.some_or];rcases List.eq_nil_or_concat d with rfl|⟨q,u,rfl⟩
    ·refine⟨_,O,?_,λ_=>rfl,λu q e=>by simp at e⟩;have:=z0K (z:=(y:Int)-x) (n:=65536) ω ω;omega
    ·have hu:u<y:=by
      have L:=Q.ris;rw[m] at L;exact(y3w.1 L).2.2 u ξ y ξ
     refine⟨y-u-1,?_,ω,λe=>by simp at e,λu2 q2 e=>?_⟩
     ·have H:(q.concat u).getLast? =some u:=ξ
      rw[H];rfl
     ·have e2:q++[u]=q2++[u2]:=by simpa using e
      have:=(List.append_inj' e2 O).2;simp at this;omega
   obtain⟨v,i,lB,KE,pK⟩:=key;rw[i,Ro,y06] at M;rw[i,Ro,y01] at D;refine PS (RU (Qz O (RZ O (qV (QB (news:=Tu (.zeta k)) Td O S3 O (W.cells (n:=2) O) O) (Qj z42 O (VJ hI.tk (.zeta k) v 262144 hk (by simp only[Cd.most];omega) lB ω _ M) ?_)))));rintro _ U⟨rfl,C,G⟩;have iB:Kp (λk=>k=t\/k=r) w U:=hI.kp.trans (G.PZ λk e=> .inr e);have fk:=Ts M;have J:=hI.sl.kp G (λg hg e=>by have:=hI.fr g hg;omega);have R:=G.PO W ω;have Im:=hI.siz;have Bv:=G.size;refine Qe O<|QV O<|Ss O<|PR<|QT (λb w'=>w'=U/\b=[(0,ptr t 0),(1,I (x:Int)),(7,ptr b7 0),(9,v9),(11,I (y:Int)),(12,I (l.length:Int)),(13,I (d.length:Int))]) ?nj<|λnj=>?nq
   case nj=>
    rintro b U⟨rfl,rfl⟩;have P:=C.PO;refine It<|RK O<|QC O<|Qf Vb O<|qV (Q0 U4 O O P O)<|Qq O<|Qj z9i O (Xc y Io _) ?_;rintro _ V⟨rfl,rfl⟩;refine qV (Tf O) (R0 O (QC O (Qf Vb O (Qc O (S0 Wu O O O P ξ) ?_))));rintro V⟨E,B⟩;replace E:Q8 V t [ptr r 0,.bool false] 332:=E;refine qM O<|Q4 O<|QC O<|Qf Vb O<|qV (Q0 U4 O O E O)<|Ri O<|PY O<|Qq O<|qV (z3K O U3 RO) ?_;rw[y0e (show y<4294967296 by omega)];refine PX O O (YI (cs:=[_]) (zs:=[Value.int .u32 0]) QG Qn O y00 O O O ψ) ?_;rintro _ w9⟨b9,rfl,⟨ny,o,cO⟩,mV⟩;have nx:∀g,v9.ownBlock=some g->¬g=t:=λg hg e=>by have:=hI.fr g hg;omega
    have lC:∀g,v9.ownBlock=some g->¬g=r:=λg hg e=>by have:=hI.fr g hg;omega
    have Ip:=B.size;have Iq:=o.size;refine PX O O (pap QG Qn O ψ O O ((J.kp B nx).ext o) mV.rd (by intro c F;simp at F;subst F;rfl) ω (by simp only[maxLen];omega)) ?_;rintro T a3⟨Z,A,X,-⟩;have mT:=Z.oneV;refine Qe O<|PN<|PY O<|Ra O<|Q4 O<|PR ?_;have S:∀g,g<w1.heap.size->¬v9.ownBlock=some g:=λg hg e=>by have:=hI.fr g e;omega
    rw[show(d.length:Int)+1=((d++[y]).length:Int) by simp];refine(ih (d++[y],f,T,a2+(Cd.enc (.zeta k) v).length) _ ⟨⟨A.PO (o.PO E) (S t ω),⟨A.PO (o.PO (B.PO C.rd.1 (λe=>C.ne e.symm))) (S r ω),C.rd.2⟩,C.ne⟩,?_,?_,?_,?_,?_,fk,?_,?_⟩ (by dsimp only;simp)).qb
    ·exact((iB.trans (B.PZ λk e=> .inl e)).trans o.kp).An A (λg hg=> .inl (by have:=hI.fr g hg;omega))
    ·exact A.PO (o.PO (B.PO R ω)) (S b7 ω)
    ·rw[y01,y0f];exact Z
    ·intro g hg;rcases X g hg with e| e
     ·exact hI.fr g e
     ·omega
    ·rw[m,y06];rfl
    ·dsimp only at D⊢;omega
    ·have:=A.size;omega
   case nq=>
    refine Qa O (λH=>?_)<|λH=>?_
    ·have N:d=[]:=y0w ω;refine Sv O (qV (Rz O U3 SK ω) (Qj zfT O (z9g v ω _) ?_));rintro _ V⟨rfl,rfl⟩;rw[KE N,z90];refine Q4 O<|Ra O ?_;rw[show(y:Int)-x+x=(y:Int) by omega];refine Qe O ?_;exact(nj _ _ ⟨O,O⟩).qb
    ·obtain⟨q,u,rfl⟩:∃q u,d=q++[u]:=by
      rcases List.eq_nil_or_concat d with rfl|⟨q,u,rfl⟩
      ·exact absurd O H
      ·exact⟨q,u,ξ⟩
     have Ir:=pK u q O;have ta:(q++[u]).length=q.length+1:=ξ
     rw[ta] at J;rcases J.shape with⟨-,p⟩|⟨g,c1,rfl,gW⟩
     ·omega
     refine PY O<|Qq O<|Q4 O<|SA O ?_;rw[show(((q++[u]).length:Nat):Int)-1=(q.length:Int) by simp];refine qV (Rk QG Qn O O ω) (qV (QH RO O O (Rg J.rd (show((q++[u]).map QL)[q.length]? =some (QL u) by simp))) ?_);refine qV (QU O RO U3 ω)<|Ra O<|Ra O ?_;rw[show(v:Int)+((u:Int)+1)=(y:Int) by omega];refine Qe O ?_;exact(nj _ _ ⟨O,O⟩).qb
  ·have N:f=[]:=y0w ω;subst N;refine Q7 O<|Qz O<|Qe O<|PQ func232 O ?_;rw[y0o] at m;subst m;have D:=hI.z5O;rw[show(Qr (QZ x k l.getLast? [])).length=0 by cases l.getLast?<;>rfl,y1f] at D;rw[<-D];exact⟨_,O,hI.sl,λg hg=>by have:=hI.fr g hg;omega,hI.tk,hI.kp⟩
section
variable {b:Frame}{a:Act}{k:List Item}{cs:List Frame}{C:Cx}{e:Env}
def z5L:step P (lone (b.atR a (.code (.scope c)::k)) cs w)= .next (lone (b.atR a (.code c:: .inScope c::k)) cs w):=
 step_lone_go (by simp[stepG,stepG.exec,Frame.atR])
theorem z3T (h:QA C (.code c:: .inScope c::k) e w):QA C (.code (.scope c)::k) e w:=λa d=>XB.step (λ_ _=>z5L) (h a d)
end
def loE:Option Nat->Nat
 |none=>0
 |some z=>z+2
def z8h:Option Nat->Int
 |none=>-1
 |some z=>(z:Int)
def W1 (x:Nat):Option Nat->Nat->Nat
 |none,y=>zig ((y:Int)-x)
 |some e,y=>y-e-2
theorem SX (x least:Nat)(e:Option Nat)(p:Nat×Nat)(R:List (Nat×Nat)):QY x least e (p::R)=(.gamma,W1 x e p.1)::(.gamma,p.2-least)::QY x least (some (p.1+p.2-1)) R:=by
 cases e<;>rfl
structure LoI (w:World)(t r:Nat)(s:PU)(R:List (Nat×Nat))(x least left:Nat)(rest:List Bool)(aE:Nat)(i:Nat)(R2:List (Nat×Nat))(e:Option Nat)(O_:List Nat)(v9:Value)(a:Nat)(w':World):Prop where
 tk:TkM w' t r s a
 kp:Kp (λk=>k=t\/k=r) w w'
 sl:Sl w' v9 42 1 O_.length (O_.map QL)
 fr:∀g,v9.ownBlock=some g->w.heap.size<=g
 len:R.length=i+R2.length
 eq:S7 R=O_++S7 R2
 ok:Uc least (loE e) R2
 hi:∀p∈R2,p.1+p.2<=65536
 tot:O_.length+(S7 R2).length<=left
 bits:(Qo s).drop a=Qr (QY x least e R2)++rest
 z5O:a+(Qr (QY x least e R2)).length=aE
 eb:z8h e<65536
theorem zaB {r:Nat}(h:TkM w t r s a)(hG:Q8 w 1 (Tu .gamma) 314)(cN:¬1=r)(nz:¬1=t)(x left least:Nat)(hx:x<65536)(rO:left<=65536)(CQ:least<=64)(R:List (Nat×Nat))(hR:Uc least 0 R)(KF:∀p∈R,p.1+p.2<=65536)
  (xC:(S7 R).length<=left) (KG:R.length<=left) (rest:List Bool) (T:(Qo s).drop a=Qr ((.gamma,R.length)::QY x least none R)++rest):
  Qx prog 231 [ptr t 0,I (x:Int),I (left:Int),I (least:Int)] w λu w'=>Sl w' u 42 1 (S7 R).length ((S7 R).map QL)/\(∀g,u.ownBlock=some g->w.heap.size<=g)/\
   TkM w' t r s (a+(Qr ((.gamma,R.length)::QY x least none R)).length)/\Kp (λk=>k=t\/k=r) w w':=by
 have V:∀v:Nat,v<=262144->v<=Cd.most .gamma:=λv hv=>by simp only[Cd.most];omega
 have Z:=h.PO.lt
 have Y:=h.rd.1.lt
 refine py (e:=[(0,_),(1,_),(2,_),(3,_)]) func231 O ntmps231 O O<|RY O<|z3T<|qN O<|Sb O<|Qe O<|It<|z3R<|QV O<|qV (QB (news:=[.int .u8 1,Qi 0]) Td O S3 O (hG.cells (n:=2) O) O) ?_
 rw[Ro,y06] at T
 refine Q4 O<|Qj z42 O (VJ h .gamma R.length left trivial (V _ ω) KG ω _ T) ?_
 rintro _ w1⟨rfl,h1,aI⟩
 have bP:=Ts T
 refine Q4 O<|PR<|PT<|SN (α:=Nat×List (Nat×Nat)×Option Nat×List Nat×Value×Nat) (0,R,none,[],.slice none 0 0,a+(Cd.enc .gamma R.length).length) (λy=>[(0,ptr t 0),(1,I (x:Int)),(2,I (left:Int)),(3,I (least:Int)),(9,y.2.2.2.2.1),(10,I (z8h y.2.2.1)),(17,I (R.length:Int)),(18,I (y.1:Int))]) (λy w'=>LoI w t r s R x least left rest (a+(Qr ((.gamma,R.length)::QY x least none R)).length) y.1 y.2.1 y.2.2.1 y.2.2.2.1 y.2.2.2.2.1 y.2.2.2.2.2 w') (λy=>y.2.1.length) ?hI ?hround
 case hI=>exact⟨h1,aI.PZ λk e=> .inr e,Sl.nil _ _ _,(λg h=>by cases h),ξ,rfl,hR,KF,by simpa using xC,bP,by rw[Ro,y01];dsimp only;omega,(show(-1:Int)<65536 by decide)⟩
 case hround =>
  rintro⟨i,R2,e,m,v9,a2⟩ w6 hI ih;dsimp only at hI;have aw:=hI.len
  try dsimp only
  refine qN O<|RT O<|PR<|It<|Qa O (λh0=>?_)<|λh0=>?_
  ·obtain⟨⟨d,f⟩,R2,rfl⟩:∃p q,R2=p::q:=by
    cases R2 with
    |nil=>simp at aw;omega
    |cons p q=>exact⟨p,q,O⟩
   rw[y02] at aw;obtain⟨F,a1,a3,L⟩:loE e<=d/\1<=f/\least<=f/\Uc least (d+f+1) R2:=hI.ok;have ON:d+f<=65536:=hI.hi (d,f) y0r;have io:S7 ((d,f)::R2)=(List.range f).map (d+·)++S7 R2:=rfl;have rP:=hI.tot;have xD:=hI.eq;rw[io] at rP xD;rw[y01,y0n,y17] at rP;have N:=hI.bits;have E:=hI.z5O;rw[SX,Ro,Ro,y06,y06] at N;rw[SX,Ro,Ro,y01,y01] at E;have CR:=hI.eb
   have fK:W1 x e d<=262144:=by
    cases e with
    |none=>have:=z0K (z:=(d:Int)-x) (n:=65537) ω ω;show zig _<=_;omega
    |some z=>show d-z-2<=_;omega
   have W:∀k,(λk=>k=t\/k=r) k->k<w.heap.size:=λk hk=>by rcases hk with e|e<;>omega
   have Bz:=hI.kp.PO hG (λe=>by rcases e with e|e;exact nz e;exact cN e);refine PS (RU (Qz O (qV (QB (news:=[.int .u8 1,Qi 0]) Td O S3 O (Bz.cells (n:=2) O) O) (Qj z42 O (VJ hI.tk .gamma (W1 x e d) 262144 trivial (V _ fK) fK ω _ N) ?_))));rintro _ X⟨rfl,h7,J⟩;have fk:=Ts N;have Im:=hI.kp.size;have Bv:=J.size;have Is:∀g,v9.ownBlock=some g->¬g=r:=λg hg e=>by have:=hI.fr g hg;omega
   have i6:=hI.sl.kp J Is;have iB:Kp (λk=>k=t\/k=r) w X:=hI.kp.trans (J.PZ λk e=> .inr e);refine Qe O<|QV O<|RT O<|PR<|QT (λe' w'=>w'=X/\e'=[(0,ptr t 0),(1,I (x:Int)),(2,I (left:Int)),(3,I (least:Int)),(9,v9),(11,I (d:Int)),(17,I (R.length:Int)),(18,I (i:Int))]) ?nj<|λnj=>?nq
   case nj =>
    rintro e' X⟨rfl,rfl⟩;have KH:=J.PO Bz cN;refine Qz O (qV (QB (news:=[.int .u8 1,Qi 0]) Td O S3 O (KH.cells (n:=2) O) O) (Q4 O (Qj z42 O (VJ h7 .gamma (f-least) left trivial (V _ ω) ω ω _ fk) ?_)));rintro _ w8⟨rfl,D,M⟩;have tt:=Ts fk;have Ip:=M.size;have eL:=i6.kp M Is;have pL:Kp (λk=>k=t\/k=r) w w8:=iB.trans (M.PZ λk e=> .inr e);obtain⟨va,vc,rfl,-⟩:=hI.sl.rd.shape;refine Q4 O<|Ra O ?_;rw[show((f-least:Nat):Int)+(least:Int)=(f:Int) by omega];have aW:=D.PO;refine Qe O<|It<|RK O<|QC O<|Qf Vb O<|qV (Q0 U4 O O aW O)<|Qq O<|RT O<|QW<|R0 O<|Qq O<|Q4 O<|Ra O<|RR O ?_;refine QW (R0 O (Qq O (Qq O (SS QG O (SA O (RR O (QW (R0 O (QC O (Qf Vb O (Qc O (S0 Wu O O O aW ξ) ?_)))))))))));rintro w9⟨K,H⟩;replace K:Q8 w9 t [ptr r 0,.bool false] 332:=K;refine qM O<|Q4 O<|QC O<|Qf Vb O<|qV (Q0 U4 O O K O) ?_;have Iq:=H.size;have mV:=eL.kp H (λg hg e=>by have:=hI.fr g hg;omega);have h9:TkM w9 t r s (a2+(Cd.enc .gamma (W1 x e d)).length+(Cd.enc .gamma (f-least)).length):=⟨K,⟨H.PO D.rd.1 (λe=>D.ne e.symm),D.rd.2⟩,D.ne⟩;have tv:Kp (λk=>k=t\/k=r) w w9:=pL.trans (H.PZ λk e=> .inl e);refine Ri O<|It<|RK O<|PR<|PT<|SN (α:=Nat×Value) (0,.slice va m.length vc) (λy=>[(0,ptr t 0),(1,I (x:Int)),(2,I (left:Int)),(3,I (least:Int)),(9,y.2),(11,I (d:Int)),(12,I (f:Int)),(17,I (R.length:Int)),(18,I (i:Int)),(69,I (f:Int)),(70,I (y.1:Int))]) (λy w'=>TkM w' t r s (a2+(Cd.enc .gamma (W1 x e d)).length+(Cd.enc .gamma (f-least)).length)/\Kp (λk=>k=t\/k=r) w w'/\Sl w' y.2 42 1 (m.length+y.1) ((m++(List.range y.1).map (d+·)).map QL)/\(∀g,y.2.ownBlock=some g->w.heap.size<=g)/\y.1<=f) (λy=>f-y.1) ?hI ?hround
    case hI=>exact⟨h9,tv,by simpa using mV,hI.fr,y03 _⟩
    case hround=>
     rintro⟨j,v⟩ a4 ⟨o,G,S,B,hj⟩ U;dsimp only at o G S B hj
     try dsimp only
     refine qN O<|RT O<|PR<|It<|Qa O (λlD=>?_)<|λlD=>?_
     ·refine PS<|RU<|Qz O<|Qe O<|PY O<|Qq O<|Q4 O<|Ra O<|qV (z3K O U3 RO) ?_;rw[show(d+j)%4294967296=d+j by omega];refine PX O O (YI (cs:=[_]) (zs:=[Value.int .u32 0]) QG Qn O y00 O O O ψ) ?_;rintro _ a5⟨a0,rfl,⟨jg,A,aZ⟩,tz⟩;have KJ:=G.size;have KK:=A.size;refine PX O O (pap QG Qn O ψ O O (S.ext A) tz.rd (by intro c hc;simp at hc;subst hc;rfl) ω (by simp only[maxLen];omega)) ?_;rintro P a6⟨W,Q,CS,-⟩;have mT:=W.oneV;refine Qe O<|PN<|PY O<|Ra O<|Q4 O<|PR ?_;have xE:∀g,g<w.heap.size->¬v.ownBlock=some g:=λg hg e=>by have:=B g e;omega
      refine(U (j+1,P) _ ⟨⟨Q.PO (A.PO o.PO) (xE t Z),⟨Q.PO (A.PO o.rd.1) (xE r Y),o.rd.2⟩,o.ne⟩,(G.trans A.kp).An Q (λg hg=> .inl (B g hg)),?_,λg hg=>?_,ω⟩ (by dsimp only;omega)).qb
      ·have l:(m++(List.range (j+1)).map (d+·)).map QL=(m++(List.range j).map (d+·)).map QL++[QL (d+j)]:=by
        rw[y0T];simp
       dsimp only;rw[l];exact W
      ·rcases CS g hg with e| e
       ·exact B g e
       ·omega
     ·have KL:j=f:=ω
      subst KL;refine Q7 O<|PY O<|Qq O<|Ra O<|SA O<|Qe O<|PN<|PY O<|Ra O<|Q4 O<|PR ?_;rw[show(d:Int)+j-1=z8h (some (d+j-1)) by show _=((d+j-1:Nat):Int);omega,show(i:Int)+1=((i+1:Nat):Int) by omega];refine(ih (i+1,R2,some (d+j-1),m++(List.range j).map (d+·),v,_) _ ⟨o,G,?_,B,by dsimp only;omega,by rw[xD,y06],?_,λp hp=>hI.hi p (y0u _ hp),?_,tt,?_,?_⟩ (by dsimp only;simp)).qb
      ·dsimp only;rw[y01,y0n,y17];exact S
      ·refine L.mono ?_;show d+j-1+2<=_;omega
      ·dsimp only;rw[y01,y0n,y17];omega
      ·dsimp only at E⊢;omega
      ·show((d+j-1:Nat):Int)<65536;omega
   case nq=>
    cases e with
    | none =>
      refine Qa O (λl=>?_)<|λl=>?_
      ·refine Sv O (qV (Rz O U3 SK ω) (Qj zfT O (z9g _ ω _) ?_));rintro _ w8⟨rfl,rfl⟩;rw[show W1 x none d=zig ((d:Int)-x) from rfl,z90];refine Q4 O<|Ra O ?_;rw[show(d:Int)-x+x=(d:Int) by omega];refine Qe O ?_;exact(nj _ _ ⟨O,O⟩).qb
      ·exact absurd ψ l
    | some z =>
      refine Qa O (λl=>?_)<|λl=>?_
      ·exact absurd l (by show ¬((z:Int)<0);omega)
      ·have hz:z+2<=d:=F;refine PY O<|Qq O ?_;rw[show z8h (some z)=(z:Int) from rfl];refine Ra O<|Ra O ?_;rw[show W1 x (some z) d=d-z-2 from rfl,show((d-z-2:Nat):Int)+((z:Int)+2)=(d:Int) by omega];refine Qe O ?_;exact(nj _ _ ⟨O,O⟩).qb
  ·have fi:R2=[]:=y0w ω;subst fi;refine Q7 O<|Qz O<|Qe O<|PQ func231 O ?_;have eh:=hI.eq;rw[show S7 []=[] from rfl,y0o] at eh;have E:=hI.z5O;rw[show(Qr (QY x least e [])).length=0 by cases e<;>rfl,y1f] at E;rw[eh,<-E];exact⟨_,O,hI.sl,hI.fr,hI.tk,hI.kp⟩
def RQ (p:Te)(n r:Nat):List (Cd×Nat):=(.gamma,n)::if n=0 then [] else if 0<p.Qt then [(.unary,r)] else []
theorem z3W {r:Nat}(h:Va w r s a)(p:Te)(U:p.RN)(c:Q8 w 1 (Tu .gamma) 314)(g:Q8 w 2 (Tu .unary) 314)(L:¬1=r)(b:¬2=r)(n q:Nat)(hn:n<=65536)(hq:q<=p.Qt)
  (t:n=0->q=0) (rest:List Bool) (z:(Qo s).drop a=Qr (RQ p n q)++rest):
  Qx prog 210 [ptr r 0,lpV p] w λu w'=>u= .tuple #[.agg #[I (n:Int),I (q:Int)],I 0]/\Va w' r s (a+(Qr (RQ p n q)).length)/\Kp (λk=>k=r) w w':=by
 obtain⟨X,g2,g3,g4⟩:=id U
 have j:=h.1.lt
 have y:p.Qt=0->q=0:=λe=>ω
 unfold RQ at z⊢
 rw[Ro,y06] at z
 refine py (e:=[(0,_),(1,_)]) func210 O ntmps210 O O<|qN O<|PX O O (Sy O (cs:=lpC p) O) ?_
 rintro _ w1⟨b3,rfl,P,N,Y⟩
 refine PX O O (SE (cs:=[_,_]) Tw O) ?_
 rintro _ w2⟨G,rfl,R,C,W⟩
 have z1:=N.size
 have z2:=C.size
 have Q:=C.PO Y
 refine Qe O<|RU<|Qz O<|qV (Rm VS O O)<|Qe O<|PW O<|qN O<|qV (QB (news:=lpC p) XT O Vr O (Q.cells (n:=3) O) O)<|Qj z6P O (Vh p U w2) ?_
 rintro _ w3⟨rfl,E⟩
 refine RI O<|Tq O ?_
 have H:=(N.trans C).trans E
 have S:Va w3 r s a:=⟨H.PO h.1,h.2⟩
 refine Ri O<|PN<|Qz O<|Qj Zy O (Vz S) ?_
 rintro _ w4⟨rfl,rfl⟩
 refine RZ O<|qV (QB (news:=[.int .u8 1,Qi 0]) Td O S3 O ((H.PO c).cells (n:=2) O) O)<|Qj zcp O (z0t S .gamma n trivial (by simp only[Cd.most];omega) _ z) ?_
 rintro _ V⟨rfl,o,D⟩
 have m:=Ts z
 have l:=D.PO (E.PO Q) ω
 have A:=D.PO (E.PO W) ω
 have x:Kp (λk=>k=r) w V:=H.kp.trans D
 replace l:Q8 V b3 [I (p.Qt:Int),I (p.interval:Int),I (p.zeta:Int)] 276:=l
 refine Q4 O<|Tr O<|Tq O<|Sb O<|Qe O<|QV O<|Ss O<|Q4 O ?_
 rcases y0D n with J|J
 ·have M:=t J;subst J;subst M;refine Q4 O<|RR O<|QW<|Sh O<|Q4 O<|Sc<|qS<|R0 O<|PR<|QA.qb (e:=[(0,_),(3,_),(4,_),(5,_),(6,_),(7,_),(8,_),(9,_),(37,_)]) ?_;refine Us O (QV O (RI O (Qq O (RR O (QW (R0 O (Qq O (Qf UG O (qV (Q0 U3 O O l O) (qV (Rz O U3 SK ω) (RR O (QW (R0 O ?_)))))))))))));refine Ri O (Qz O (qV (QU O SK U3 ω) (Q4 O (qV (QU O SK U3 ω) (qV (To (cs:=[_,_]) Tw O zcY O O) (Qc O (QX (news:=[I ((0:Nat):Int),I ((0:Nat):Int)]) Tw O O O O A ξ) ?_))))));rintro v⟨d,f⟩;replace d:Q8 v G [I ((0:Nat):Int),I ((0:Nat):Int)] 303:=d;refine Qe O<|QA.qb (e:=[(4,_),(5,_)]) ?_;refine Qy func210 (.cell z35 O Tw O (Q8.cells (n:=2) d (news:=[_,_]) O) O (.tmp O .nil)) ?_;rw[if_pos O,show(Qr [((.gamma,0):Cd×Nat)]).length=(Cd.enc .gamma 0).length by rw[Ro,y01];rfl];refine⟨_,O,O,⟨f.PO o.1 ω,o.2⟩,x.An f (λk e=> .inl ω)⟩
 ·rw[if_neg ω] at m⊢;rcases y0D p.Qt with K|K
  ·have M:=y K;subst M;rw[if_neg ω] at m⊢;refine Q4 O<|RR O<|SD<|Sh O<|Q4 O<|Qf UG O<|qV (Q0 U3 O O l O)<|RR O<|QW<|Sh O<|PR<|QA.qb (e:=[(0,_),(3,_),(4,_),(5,_),(6,_),(7,_),(8,_),(9,_),(37,_)]) ?_;refine Us O (QV O (RI O (Qq O (RR O (QW (R0 O (Qq O (Qf UG O (qV (Q0 U3 O O l O) (qV (Rz O U3 SK ω) (RR O (QW (R0 O ?_)))))))))))));refine Ri O (Qz O (qV (QU O SK U3 ω) (Q4 O (qV (QU O SK U3 ω) (qV (To (cs:=[_,_]) Tw O zcY O O) (Qc O (QX (news:=[I (n:Int),I ((0:Nat):Int)]) Tw O O O O A ξ) ?_))))));rintro v⟨d,f⟩;replace d:Q8 v G [I (n:Int),I ((0:Nat):Int)] 303:=d;refine Qe O<|QA.qb (e:=[(4,_),(5,_)]) ?_;refine Qy func210 (.cell z35 O Tw O (Q8.cells (n:=2) d (news:=[_,_]) O) O (.tmp O .nil)) ?_;rw[show(Qr [((.gamma,n):Cd×Nat)]).length=(Cd.enc .gamma n).length by rw[Ro,y01];rfl];refine⟨_,O,O,⟨f.PO o.1 ω,o.2⟩,x.An f (λk e=> .inl ω)⟩
  ·rw[if_pos K] at m⊢;rw[Ro,y06] at m;refine Q4 O<|RR O<|SD<|Sh O<|Q4 O<|Qf UG O<|qV (Q0 U3 O O l O)<|RR O<|SD<|Sh O<|PR<|QA.qb (e:=[(0,_),(3,_),(4,_),(5,_),(6,_),(7,_),(8,_),(9,_),(37,_)]) ?_;refine Qb O (Sv O (qV (QB (news:=[.int .u8 0,Qi 0]) Td O S3 O ((x.PO g b).cells (n:=2) O) O) (Qj zcp O (z0t o .unary q trivial (by simp only[Cd.most];omega) _ m) ?_)));rintro _ w6⟨rfl,T,B⟩;have i:=B.PO l ω;have Z:=B.PO A ω;have F:=x.trans B;refine Q4 O (Tr O (Rw O (QV O (RI O (Qq O (RR O (QW (R0 O (Qq O (Qf UG O (qV (Q0 U3 O O i O) (qV (Rz O U3 SK ω) (RR O ?_)))))))))))));refine QW<|R0 O<|PR<|QA.qb (e:=[(0,_),(4,_),(5,_),(6,_),(7,_),(9,_),(56,_)]) ?_;refine Us O (Qz O (qV (QU O SK U3 ω) (Q4 O (qV (QU O SK U3 ω) (qV (To (cs:=[_,_]) Tw O zcY O O) (Qc O (QX (news:=[I (n:Int),I (q:Int)]) Tw O O O O Z ξ) ?_))))));rintro v⟨d,f⟩;replace d:Q8 v G [I (n:Int),I (q:Int)] 303:=d;refine Qe O<|Qy func210 (.cell z35 O Tw O (Q8.cells (n:=2) d (news:=[_,_]) O) O (.tmp O .nil)) ?_;rw[show(Qr [((.gamma,n):Cd×Nat),(.unary,q)]).length=(Cd.enc .gamma n).length+(Cd.enc .unary q).length by rw[Ro,Ro,y01,y01];rfl,<-y1x];refine⟨_,O,O,⟨f.PO T.1 ω,T.2⟩,F.An f (λk e=> .inl ω)⟩
structure RE where
 Qt:Nat
 chain:Nat
 interval:Nat
 zeta:Nat
 most:Nat
def RE.list (p:RE):Te:=⟨p.Qt,p.interval,p.zeta⟩
def RE.RN (p:RE):Prop:=p.list.RN/\p.chain<=16/\p.most<=65536
def WC (p:RE):List Value:=[I (p.Qt:Int),I (p.chain:Int),I (p.interval:Int),I (p.zeta:Int),I (p.most:Int)]
abbrev bpV (p:RE):Value:= .agg (WC p).toArray
theorem Ub (p:RE)(w:World):Qx prog 162 [bpV p] w λu w'=>u=lpV p.list/\Ext w w':=by
 refine py (e:=[(0,_)]) func162 O ntmps162 O O<|qN O<|PX O O (Sy O (cs:=WC p) O) ?_
 rintro _ w1⟨b1,rfl,r,h,m⟩
 refine PX O O (SE (cs:=[_,_,_]) Vr O) ?_
 rintro _ w2⟨b2,rfl,v,l,o⟩
 have d:=l.PO m
 replace d:Q8 w2 b1 [I (p.Qt:Int),I (p.chain:Int),I (p.interval:Int),I (p.zeta:Int),I (p.most:Int)] 93:=d
 refine qM O<|Qf z38 O<|qV (Q0 U3 O O d O)<|Qf zcQ O<|qV (Q0 U3 O O d O)<|Qf zcx O<|qV (Q0 U3 O O d O)<|qV (To (cs:=[_,_,_]) Vr O zj3 O O)<|Qc O (QX (news:=[I (p.Qt:Int),I (p.interval:Int),I (p.zeta:Int)]) Vr O O O O o ξ) ?_
 rintro w3⟨f,q⟩
 replace f:Q8 w3 b2 [I (p.Qt:Int),I (p.interval:Int),I (p.zeta:Int)] 276:=f
 refine PR<|Qy func162 (.cell XT O Vr O (Q8.cells (n:=3) f (news:=[_,_,_]) O) O .nil) ?_
 have x:=h.size
 exact⟨_,O,O,(h.trans l).An q (λk e=>ω)⟩
theorem z0U (p:RE)(o:p.RN)(w:World):Qx prog 160 [bpV p] w λu w'=>u=I 0/\Ext w w':=by
 obtain⟨m,r,v⟩:=o
 refine py (e:=[(0,_)]) func160 O ntmps160 O O<|qN O<|PX O O (Sy O (cs:=WC p) O) ?_
 rintro _ w1⟨b1,rfl,q,f,k⟩
 have d:Q8 w1 b1 [I (p.Qt:Int),I (p.chain:Int),I (p.interval:Int),I (p.zeta:Int),I (p.most:Int)] 93:=k
 refine Qe O<|It<|qN O<|Qf z0h O<|qV (Q0 U3 O O d O)<|RT O<|QW<|Q4 O<|Qf z0h O<|qV (Q0 U3 O O d O)<|RR O<|QW<|R0 O<|Q4 O ?_
 refine Qf UX O<|qV (Q0 U3 O O d O)<|RT O<|QW<|R0 O<|Q4 O<|Qf UX O<|qV (Q0 U3 O O d O)<|RR O<|QW<|R0 O<|Ri O<|qN O<|qV (QB Z4 O SV O (Q8.cells (n:=5) d (news:=[_,_,_,_,_]) O) O) ?_
 refine Qj z2t O (Ub p w1) ?_
 rintro _ w2⟨rfl,h⟩
 refine Qj z6P O (Vh p.list m w2) ?_
 rintro _ w3⟨rfl,l⟩
 refine Qe O<|PQ func160 O ?_
 exact⟨_,O,O,(f.trans h).trans l⟩
structure TN (w:World)(g n cap:Nat)(d:Array Nat):Prop where
 sl:Sl w (.slice (some ⟨g,0,none⟩) n cap) 42 1 n (d.toList.map QL)
 size:d.size=n
abbrev RX (x y:Nat):Bool:=decide (x<y)
theorem ZR:Go.Sort.SWO RX:=⟨λx=>by simp[RX],λx y z e f=>by simp[RX] at*;omega,λx y z e f=>by simp[RX] at*;omega⟩
section
variable {n:Nat}{d:Array Nat}{S:Nat->Prop}
def TN.ext (h:TN w g n cap d)(k:Ext w w'):TN w' g n cap d:=⟨h.sl.ext k,h.size⟩
def TN.kp (h:TN w g n cap d)(k:Kp S w w')(hg:¬S g):TN w' g n cap d:=⟨h.sl.kp k (λf e=>by cases e;exact hg),h.size⟩
theorem TN.get (h:TN w g n cap d)(hi:i<n):w.cell? ⟨g,0+i*1,none⟩=some (QL d[i]!):=by
 have e:=h.size
 refine Rg h.sl.rd ?_
 rw[y0m,y3b,y3G ω]
 rw[getElem!_pos d i ω]
 rfl
def TN.jlt (h:TN w g n cap d)(e:j<n):j<(d.toList.map QL).length:=by
 have f:=h.size
 rw[y0n,y2w];omega
theorem TN.set (h:TN w g n cap d)(e:Sl w' (.slice (some ⟨g,0,none⟩) n cap) 42 1 n ((d.toList.map QL).set (0+i*1) (QL y))):TN w' g n cap (d.setIfInBounds i y):=by
 refine⟨?_,by rw[y3K,h.size]⟩
 rw[y3E,List.map_set]
 rw[show 0+i*1=i by omega] at e
 exact e
end
def zbz (x:Nat)(w:World):Qx prog 269 [QL x] w λu w'=>u= .bool false/\w'=w:=by
 refine py (e:=[(0,_)]) func269 O ntmps269 O O<|qN O<|Sb O<|Qq O<|RI O<|Qe O<|PQ func269 O ?_
 exact⟨_,O,by simp[Rn],O⟩
def Tc (x y:Nat)(w:World):Qx prog 260 [QL x,QL y] w λu w'=>u= .bool (RX x y)/\w'=w:=by
 refine py (e:=[(0,_),(1,_)]) func260 O ntmps260 O O<|qN O<|RZ O<|Qj zhA O (zbz x w) ?_
 rintro _ w⟨rfl,rfl⟩
 refine Q4 O<|Sc<|qS<|R0 O<|Qq O<|Q4 O<|RT O<|R0 O<|Qe O<|PQ func260 O ?_
 exact⟨_,O,by simp[RX,Rn],O⟩
section
variable (a b j i:Nat)(d:Array Nat)
theorem z5X (f:a<j)(e:RX d[j]! d[j-1]! =true):Go.Sort.insInner RX a j d=Go.Sort.insInner RX a (j-1) (Go.Sort.swp d j (j-1)):=by
 obtain⟨k,rfl⟩:∃k,j=k+1:=⟨j-1,ω⟩
 rw[Go.Sort.insInner]
 simp only[y1h] at e⊢
 rw[if_pos]
 rw[y0C];exact⟨by simpa using f,e⟩
theorem YT (h:j<=a\/RX d[j]! d[j-1]! =false):Go.Sort.insInner RX a j d=d:=by
 cases j with
 |zero=>rw[Go.Sort.insInner]
 | succ k =>
   rw[Go.Sort.insInner];simp only[y1h] at h;rw[if_neg];intro e;rw[y0C] at e;rcases h with h| h
   ·have:=of_decide_eq_true e.1;omega
   ·rw[h] at e;cases e.2
theorem z6n (h:i<b):Go.Sort.insOuter RX a b i d=Go.Sort.insOuter RX a b (i+1) (Go.Sort.insInner RX a i d):=by rw[Go.Sort.insOuter,if_pos h]
theorem z3c (h:¬i<b):Go.Sort.insOuter RX a b i d=d:=by rw[Go.Sort.insOuter,if_neg h]
end
theorem z3m {n:Nat}{d:Array Nat}(h:TN w g n cap d)(a b:Nat)(p:a<=b)(Z:b<=n)(c:n<=65536):
  Qx prog 254 [.slice (some ⟨g,0,none⟩) n cap,I (a:Int),I (b:Int)] w λu w'=>u= .tuple #[]/\TN w' g n cap (Go.Sort.insertionSort RX d a b)/\Kp (λk=>k=g) w w':=by
 refine py (e:=[(0,_),(1,_),(2,_)]) func254 O ntmps254 O O<|Qz O<|Ra O<|Qe O<|PT<|SN (α:=Nat×Array Nat) (a+1,d) (λy=>[(0,.slice (some ⟨g,0,none⟩) n cap),(1,I (a:Int)),(2,I (b:Int)),(6,I (y.1:Int))]) (λy w'=>TN w' g n cap y.2/\Kp (λk=>k=g) w w'/\Go.Sort.insOuter RX a b y.1 y.2=Go.Sort.insertionSort RX d a b/\a<y.1) (λy=>b-y.1) ?hI ?hround
 case hI=>exact⟨h,Kp.refl _ _,O,Nat.lt_succ_self a⟩
 case hround=>
  rintro⟨i,d4⟩ w4 ⟨A,x,m,V⟩ E;dsimp only at A x m V
  try dsimp only
  refine It<|RK O<|RT O<|PR<|Qa O (λN=>?_)<|λN=>?_
  ·rw[z6n _ _ _ _ ω] at m;refine PS<|RU<|Qz O<|Qe O<|PT<|SN (α:=Nat×Array Nat) (i,d4) (λy=>[(0,.slice (some ⟨g,0,none⟩) n cap),(1,I (a:Int)),(2,I (b:Int)),(6,I (i:Int)),(7,I (y.1:Int))]) (λy w'=>TN w' g n cap y.2/\Kp (λk=>k=g) w w'/\Go.Sort.insInner RX a y.1 y.2=Go.Sort.insInner RX a i d4/\y.1<=i/\a<=y.1) (λy=>y.1) ?hI ?hround
   case hI=>exact⟨A,x,O,y04 _,by dsimp only;omega⟩
   case hround=>
    rintro⟨j,d5⟩ q ⟨r,v,l,G,H⟩ D;dsimp only at r v l G H
    try dsimp only
    have hg:=Ext.Qm q;rcases y0a a j with C|C
    ·refine It (It (Sq (λw'=>Ext q w') O (Ql 0 O O hg (Ql 1 O O hg (PV 2 O (Zq O O) hg (Vn (Ql 3 O O hg (Ql 4 O O hg (Ql 5 O O hg (PV 6 O (Rk QG Qn O O ω) hg (Ql 8 O O hg (Ql 9 O O hg (PV 10 O (YS O O ω) hg ?_)))))))))))));rw[show(j:Int)-1=((j-1:Nat):Int) by omega];refine qT 7 O (λ_ h=>QH RO O O ((r.ext h).get (i:=j) ω)) hg (PV 11 O (Rk QG Qn O O ω) hg (qT 12 O (λ_ h=>QH RO O O ((r.ext h).get (i:=j-1) ω)) hg (TQ 13 O Xs O (Tc _ _ _) ?_)));rintro _ s⟨rfl,rfl⟩;refine⟨hg,?_⟩;refine PV 14 O (WA O O) hg<|qE ?_;have o:=r.ext hg;refine Ru O (λB=>?_)<|λB=>?_
     ·refine PS<|RU ?_;have f:=Ext.Qm q.drew;refine Qp [15,17] (λw'=>Ext q.drew w') y00 O (R1 0 O O f (R1 1 O O f (Rr (i:=2) O y00 O O (λ_=>YN O) f (Rr (i:=3) O y00 O O (λ_=>YN O) f (Rr (i:=4) O y00 O O (λ_=>YS O O ω) f (R1 5 O O f (R1 6 O O f (Qs 7 O (YS O O ω) f (R1 10 O O f (R1 11 O O f (Qs 12 O (Rk QG Qn O O ω) f ?_)))))))))));rw[show(j:Int)-1=((j-1:Nat):Int) by omega];refine Qs 8 O (Rk QG Qn O O ω) f (qL 9 O (λ_ h=>QH RO O O ((o.ext h).get (i:=j-1) ω)) f (qL 13 O (λ_ h=>QH RO O O ((o.ext h).get (i:=j) ω)) f (Qs 14 O (Rk QG Qn O O ω) f (U0 [15] (qO 15 (QQ (i:=15) O O (T6 Qn O O O (o.ext f).sl ((o.ext f).jlt ω)) ?_))))));rintro Y⟨J,K⟩;refine⟨trivial,?_⟩;have z:=(o.ext f).set J;refine PV 16 O (Rk QG Qn O O ω) trivial (qO 17 (QQ (i:=17) O O (T6 Qn O O O z.sl (z.jlt ω)) ?_));rintro W⟨Q,T⟩;refine⟨trivial,?_⟩;have U:=z.set Q;have M:Kp (λk=>k=g) q.drew W:=f.kp.trans (K.trans T);refine qE<|PN<|Sv O<|SA O<|Qe O ?_;rw[show(j:Int)-1=((j-1:Nat):Int) by omega];refine(D (j-1,Go.Sort.swp d5 j (j-1)) _ ⟨U,(v.trans hg.kp).trans M,?_,by dsimp only;omega,by dsimp only;omega⟩ (by dsimp only;omega)).qb;dsimp only;rw[<-l,z5X a j d5 C B]
     ·refine Q7 O<|PN<|Sv O<|Ra O<|Qe O ?_;rw[YT a j d5 (.inr (by simpa using B))] at l;refine(E (i+1,d5) _ ⟨o,v.trans hg.kp,?_,by dsimp only;omega⟩ (by dsimp only;omega)).qb;dsimp only;rw[l];exact m
    ·refine It<|It<|Sq (λw'=>Ext q w') O<|Ql 0 O O hg<|Ql 1 O O hg<|PV 2 O (Zq O O) hg<|Vm<|Ql 3 O O hg<|qJ 4 O hg<|qJ 5 O hg<|qJ 6 O hg<|qJ 7 O hg<|qJ 8 O hg<|qJ 9 O hg ?_;refine qJ 10 O hg<|qJ 11 O hg<|qJ 12 O hg<|qJ 13 O hg<|PV 14 O (VF O O) hg<|qE<|PW O<|Q7 O<|PN<|Sv O<|Ra O<|Qe O ?_;rw[YT a j d5 (.inl C)] at l;refine(E (i+1,d5) _ ⟨r.ext hg,v.trans hg.kp,?_,by dsimp only;omega⟩ (by dsimp only;omega)).qb;dsimp only;rw[l];exact m
  ·rw[z3c _ _ _ _ ω] at m;refine Q7 O<|Rj func254 O ?_;exact⟨_,O,O,m▸A,x⟩
section
variable (hi first root:Nat)(d:Array Nat)
def z0v:Nat:=if 2*root+1+1<hi&&RX d[first+(2*root+1)]! d[first+(2*root+1)+1]! then 2*root+2 else 2*root+1
theorem zai (h:hi<=2*root+1):Go.Sort.siftDown RX hi first root d=d:=by rw[Go.Sort.siftDown,dif_pos h]
theorem zeS (h:2*root+1<hi):Go.Sort.siftDown RX hi first root d=if RX d[first+root]! d[first+z0v hi first root d]! then Go.Sort.siftDown RX hi first (z0v hi first root d) (Go.Sort.swp d (first+root) (first+z0v hi first root d)) else d:=by
 rw[Go.Sort.siftDown,dif_neg ω]
 unfold z0v
 by_cases e:(decide (2*root+1+1<hi)&&RX d[first+(2*root+1)]! d[first+(2*root+1)+1]!)=true
 ·rw[if_pos e,if_pos e];rw[y0C] at e;have f:2*root+2<hi:=of_decide_eq_true e.1;rw[dif_pos f];cases RX d[first+root]! d[first+(2*root+2)]!<;>rfl
 ·rw[if_neg e,if_neg e];cases RX d[first+root]! d[first+(2*root+1)]!<;>rfl
def zf5 (h:2*root+1<hi):root<z0v hi first root d/\z0v hi first root d<hi:=by
 unfold z0v
 split
 ·rename_i e
  rw[y0C] at e;have f:2*root+2<hi:=of_decide_eq_true e.1;omega
 ·omega
end
theorem z5P {n:Nat}{d:Array Nat}(h:TN w g n cap d)(lo hi first:Nat)(b:first+hi<=n)(V:lo<=65536)(j:n<=65536):
  Qx prog 264 [.slice (some ⟨g,0,none⟩) n cap,I (lo:Int),I (hi:Int),I (first:Int)] w λu w'=>u= .tuple #[]/\TN w' g n cap (Go.Sort.siftDown RX hi first lo d)/\Kp (λk=>k=g) w w':=by
 refine py (e:=[(0,_),(1,_),(2,_),(3,_)]) func264 O ntmps264 O O<|Qz O<|Qe O<|PT<|SN (α:=Nat×Array Nat) (lo,d) (λy=>[(0,.slice (some ⟨g,0,none⟩) n cap),(2,I (hi:Int)),(3,I (first:Int)),(8,I (y.1:Int))]) (λy w'=>TN w' g n cap y.2/\Kp (λk=>k=g) w w'/\Go.Sort.siftDown RX hi first y.1 y.2=Go.Sort.siftDown RX hi first lo d/\y.1<=65536) (λy=>hi-y.1) ?hI ?hround
 case hI=>exact⟨h,Kp.refl _ _,O,V⟩
 case hround=>
  rintro⟨root,d4⟩ w4 ⟨v,x,m,E⟩ Q;dsimp only at v x m E
  try dsimp only
  refine PT (Qz O (qV (WB O O ω) (Ra O (Qe O (It (qN O ?_))))));rw[show 2*(root:Int)+1=((2*root+1:Nat):Int) by omega];refine Qq O<|UL O<|PR<|Qa O (λK=>?_)<|λK=>?_
  ·rw[zai _ _ _ _ ω] at m;refine Q7 O<|Rj func264 O ?_;exact⟨_,O,O,m▸v,x⟩
  ·have M:=zf5 hi first root d4 ω;rw[zeS _ _ _ _ ω] at m;have hg:=Ext.Qm w4;have C:=v.ext hg;refine PS<|It<|It ?_
   generalize z:(decide (2*root+1+1<hi)&&RX d4[first+(2*root+1)]! d4[first+(2*root+1)+1]!)=sel
   refine QT (λr w'=>r=[(0,.slice (some ⟨g,0,none⟩) n cap),(2,I (hi:Int)),(3,I (first:Int)),(8,I (root:Int)),(9,I ((2*root+1:Nat):Int)),(36,.bool sel)]/\w'=w4.drew) ?cF<|λcF=>?ge
   case cF=>
    rintro r W⟨rfl,rfl⟩;refine QT (λr w'=>r=[(0,.slice (some ⟨g,0,none⟩) n cap),(2,I (hi:Int)),(3,I (first:Int)),(8,I (root:Int)),(9,I (z0v hi first root d4:Int))]/\w'=w4.drew) ?av<|λav=>?dO
    case av=>
     rintro r W⟨rfl,rfl⟩
     generalize z0v hi first root d4=c at M m
     have l:=Ext.Qm w4.drew;have q:=C.ext l;refine It (It (Sq (λw'=>Ext w4.drew w') O (Ql 0 O O l (Ql 1 O O l (Ql 2 O O l (PV 3 O (W7 O O ω) l (PV 4 O (Rk QG Qn O O ω) l (Ql 6 O O l (Ql 7 O O l (Ql 8 O O l (PV 9 O (W7 O O ω) l (PV 10 O (Rk QG Qn O O ω) l (qT 5 O (λ_ h=>QH RO O O ((C.ext h).get (i:=first+root) ω)) l ?_)))))))))))));refine qT 11 O (λ_ h=>QH RO O O ((C.ext h).get (i:=first+c) ω)) l<|TQ 12 O Xs O (Tc _ _ _) ?_;rintro _ Y⟨rfl,rfl⟩;refine⟨l,?_⟩;refine PV 13 O (zaT O) l<|qE<|Ru O (λo=>?_)<|λo=>?_
     ·rw[if_neg (by simpa using o)] at m;refine PQ func264 O ?_;exact⟨_,O,O,m▸q,x.trans (hg.trans l).kp⟩
     ·rw[if_pos (by simpa using o)] at m;refine PS<|It ?_;have f:=Ext.Qm w4.drew.drew;refine Qp [21,23] (λw'=>Ext w4.drew.drew w') y00 O (R1 0 O O f (R1 1 O O f (R1 2 O O f (Qs 3 O (W7 O O ω) f (Rr (i:=4) O y00 O O (λ_=>YN O) f (Rr (i:=5) O y00 O O (λ_=>YN O) f (Rr (i:=6) O y00 O O (λ_=>YN O) f (Rr (i:=7) O y00 O O (λ_=>W7 O O ω) f (R1 8 O O f (R1 9 O O f (R1 10 O O f (Qs 11 O (W7 O O ω) f (Qs 12 O (Rk QG Qn O O ω) f ?_)))))))))))));refine R1 14 O O f (R1 15 O O f (R1 16 O O f (Qs 17 O (W7 O O ω) f (Qs 18 O (Rk QG Qn O O ω) f (qL 13 O (λ_ h=>QH RO O O ((q.ext h).get (i:=first+c) ω)) f (qL 19 O (λ_ h=>QH RO O O ((q.ext h).get (i:=first+root) ω)) f (Qs 20 O (Rk QG Qn O O ω) f (U0 [21] (qO 21 (QQ (i:=21) O O (T6 Qn O O O (q.ext f).sl ((q.ext f).jlt ω)) ?_))))))))));rintro a⟨G,H⟩;refine⟨trivial,?_⟩;have A:=(q.ext f).set G;refine PV 22 O (Rk QG Qn O O ω) trivial (qO 23 (QQ (i:=23) O O (T6 Qn O O O A.sl (A.jlt ω)) ?_));rintro Z⟨N,S⟩;refine⟨trivial,?_⟩;have T:=A.set N;have J:Kp (λk=>k=g) w4.drew.drew Z:=f.kp.trans (H.trans S);refine qE<|Sv O<|Qe O<|PN ((Q (c,Go.Sort.swp d4 (first+root) (first+c)) _ ⟨T,(x.trans (hg.trans l).kp).trans J,m,by dsimp only;omega⟩ (by dsimp only;omega)).qb)
    case dO=>
     refine Ru O (λo=>?_)<|λo=>?_
     ·refine Sv O<|Ra O<|Qe O ?_;rw[show((2*root+1:Nat):Int)+1=(z0v hi first root d4:Int) by unfold z0v;rw[z,if_pos o];omega];exact(av _ _ ⟨O,O⟩).qb
     ·refine PS ?_;rw[show((2*root+1:Nat):Int)=(z0v hi first root d4:Int) by unfold z0v;rw[z,if_neg (by rw[o];decide)]];exact(av _ _ ⟨O,O⟩).qb
   case ge=>
    rcases y0a (2*root+1+1) hi with D|D
    ·refine Sq (λw'=>Ext w4 w') O (Ql 0 O O hg (PV 1 O (W7 O O ω) hg (Ql 2 O O hg (PV 3 O (ylt O O) hg (Vn (Ql 4 O O hg (Ql 5 O O hg (Ql 6 O O hg (Ql 7 O O hg (PV 8 O (W7 O O ω) hg (PV 9 O (Rk QG Qn O O ω) hg (Ql 11 O O hg (Ql 12 O O hg ?_)))))))))))));refine Ql 13 O O hg (PV 14 O (W7 O O ω) hg (PV 15 O (W7 O O ω) hg (PV 16 O (Rk QG Qn O O ω) hg (qT 10 O (λ_ B=>QH RO O O ((v.ext B).get (i:=first+(2*root+1)) ω)) hg (qT 17 O (λ_ B=>QH RO O O ((v.ext B).get (i:=first+(2*root+1)+1) ω)) hg (TQ 18 O Xs O (Tc _ _ _) ?_))))));rintro _ Y⟨rfl,rfl⟩;refine⟨hg,?_⟩;refine PV 19 O (WA O O) hg<|qE ?_;rw[show RX d4[first+(2*root+1)]! d4[first+(2*root+1)+1]! =sel by rw[<-z,decide_eq_true D,Bool.true_and]];exact(cF _ _ ⟨O,O⟩).qb
    ·refine Sq (λw'=>Ext w4 w') O (Ql 0 O O hg (PV 1 O (W7 O O ω) hg (Ql 2 O O hg (PV 3 O (ylt O O) hg (Vm (Ql 4 O O hg (qJ 5 O hg (qJ 6 O hg (qJ 7 O hg (qJ 8 O hg (qJ 9 O hg (qJ 10 O hg (qJ 11 O hg ?_)))))))))))));refine qJ 12 O hg<|qJ 13 O hg<|qJ 14 O hg<|qJ 15 O hg<|qJ 16 O hg<|qJ 17 O hg<|qJ 18 O hg<|PV 19 O (VF O O) hg<|qE ?_;have U:sel=false:=by rw[<-z,decide_eq_false ω,Bool.false_and]
     subst U;exact(cF _ _ ⟨O,O⟩).qb
theorem zdy {n:Nat}{d:Array Nat}(h:TN w g n cap d)(a b:Nat)(j:a<b)(c:b<=n)(C:n<=65536):
  Qx prog 255 [.slice (some ⟨g,0,none⟩) n cap,I (a:Int),I (b:Int)] w λu w'=>u= .tuple #[]/\TN w' g n cap (Go.Sort.heapSort RX d a b)/\Kp (λk=>k=g) w w':=by
 refine py (e:=[(0,_),(1,_),(2,_)]) func255 O ntmps255 O O<|Qz O<|Sb O<|Sb O<|Qq O<|SA O<|Qe O<|It<|qN O ?_
 rw[show(b:Int)-(a:Int)=((b-a:Nat):Int) by omega]
 refine Q4 O<|SA O ?_
 rw[show((b-a:Nat):Int)-1=((b-a-1:Nat):Int) by omega]
 refine qV (Yx O O ω)<|Qe O<|PT ?_
 rw[show((b-a-1:Nat):Int) / 2=(((b-a-1) / 2+1:Nat):Int)-1 by omega]
 have W:Go.Sort.heapSort RX d a b=Go.Sort.heapPop RX a (b-a) (Go.Sort.heapBuild RX (b-a) a ((b-a-1) / 2+1) d):=rfl
 rw[W]
 refine SN (α:=Nat×Array Nat) ((b-a-1) / 2+1,d) (λy=>[(0,.slice (some ⟨g,0,none⟩) n cap),(6,I (a:Int)),(7,I 0),(8,I ((b-a:Nat):Int)),(9,I ((y.1:Int)-1))]) (λy w'=>TN w' g n cap y.2/\Kp (λk=>k=g) w w'/\Go.Sort.heapBuild RX (b-a) a y.1 y.2=Go.Sort.heapBuild RX (b-a) a ((b-a-1) / 2+1) d/\y.1<=(b-a-1) / 2+1) (λy=>y.1) ?hI ?hround
 case hI=>exact⟨h,Kp.refl _ _,O,y04 _⟩
 case hround=>
  rintro⟨k,d4⟩ w4 ⟨z,q,v,G⟩ T;dsimp only at z q v G
  try dsimp only
  refine QV O<|UL O<|PR<|Qa O (λN=>?_)<|λN=>?_
  ·obtain⟨k,rfl⟩:∃k',k=k'+1:=⟨k-1,ω⟩;rw[show((k+1:Nat):Int)-1=(k:Int) by omega];refine PS (RU (PY O (Qq O (Qq O (Qj zfF O (z5P z k (b-a) a ω ω C) ?_)))));rintro _ o⟨rfl,l,m⟩;refine PR<|PN<|Sv O<|SA O<|Qe O ?_;exact(T (k,Go.Sort.siftDown RX (b-a) a k d4) _ ⟨l,q.trans m,v,by dsimp only;omega⟩ (by dsimp only;omega)).qb
  ·have B:k=0:=ω
   subst B;rw[<-v];refine Q7 O<|Qz O<|SA O<|Qe O<|PT<|SN (α:=Nat×Array Nat) (b-a,d4) (λy=>[(0,.slice (some ⟨g,0,none⟩) n cap),(6,I (a:Int)),(7,I 0),(10,I ((y.1:Int)-1))]) (λy w'=>TN w' g n cap y.2/\Kp (λk=>k=g) w w'/\Go.Sort.heapPop RX a y.1 y.2=Go.Sort.heapPop RX a (b-a) (Go.Sort.heapBuild RX (b-a) a 0 d4)/\y.1<=b-a) (λy=>y.1) ?hI ?hround
   case hI=>exact⟨z,q,O,y04 _⟩
   case hround=>
    rintro⟨k,d5⟩ o ⟨l,m,r,H⟩ A;dsimp only at l m r H
    try dsimp only
    refine QV O<|UL O<|PR<|Qa O (λQ=>?_)<|λQ=>?_
    ·obtain⟨k,rfl⟩:∃k',k=k'+1:=⟨k-1,ω⟩;rw[show((k+1:Nat):Int)-1=(k:Int) by omega];refine PS<|RU<|It ?_;have f:=Ext.Qm o;refine Qp [17,19] (λw'=>Ext o w') y00 O (R1 0 O O (f) (R1 1 O O (f) (Rr (i:=2) O y00 O O (λ_=>YN O) (f) (Rr (i:=3) O y00 O O (λ_=>YN O) (f) (Rr (i:=4) O y00 O O (λ_=>YN O) (f) (Rr (i:=5) O y00 O O (λ_=>W7 O O ω) (f) (R1 6 O O (f) (R1 7 O O (f) (R1 8 O O (f) (Qs 9 O (W7 O O ω) f (Qs 10 O (Rk QG Qn O O ω) f (R1 12 O O (f) (R1 13 O O (f) ?_)))))))))))));refine Qs 14 O (Rk QG Qn O O ω) f (qL 11 O (λ_ h=>QH RO O O ((l.ext h).get (i:=a+k) ω)) f (qL 15 O (λ_ h=>QH RO O O ((l.ext h).get (i:=a) ω)) f (Qs 16 O (Rk QG Qn O O ω) f (U0 [17] (qO 17 (QQ (i:=17) O O (T6 Qn O O O (l.ext f).sl ((l.ext f).jlt ω)) ?_))))));rintro Z⟨J,K⟩;refine⟨trivial,?_⟩;have x:=(l.ext f).set J;refine PV 18 O (Rk QG Qn O O ω) trivial (qO 19 (QQ (i:=19) O O (T6 Qn O O O x.sl (x.jlt ω)) ?_));rintro Y⟨S,U⟩;refine⟨trivial,?_⟩;have V:=x.set S;have M:Kp (λk=>k=g) o Y:=f.kp.trans (K.trans U);refine qE (PY O (Qq O (Qq O (Qj zfF O (z5P V 0 k a ω ω C) ?_))));rintro _ p⟨rfl,D,E⟩;refine PR<|PN<|Sv O<|SA O<|Qe O ?_;exact(A (k,Go.Sort.siftDown RX k a 0 (Go.Sort.swp d5 a (a+k))) _ ⟨D,(m.trans M).trans E,r,by dsimp only;omega⟩ (by dsimp only;omega)).qb
    ·have B:k=0:=ω
     subst B;rw[<-r];refine Q7 O<|Rj func255 O ?_;exact⟨_,O,O,l,m⟩
theorem z5D {n:Nat}{d:Array Nat}(h:TN w g n cap d)(a b:Nat)(M:a<b)(J:b<=n)(K:n<=65536):
  Qx prog 258 [.slice (some ⟨g,0,none⟩) n cap,I (a:Int),I (b:Int)] w λu w'=>u= .tuple #[]/\TN w' g n cap (Go.Sort.reverseRange d a b)/\Kp (λk=>k=g) w w':=by
 refine py (e:=[(0,_),(1,_),(2,_)]) func258 O ntmps258 O O<|Qz O<|RZ O<|SA O<|Qe O<|PT ?_
 rw[show(b:Int)-1=((b-1:Nat):Int) by omega]
 refine SN (α:=Nat×Nat×Array Nat) (a,b-1,d) (λy=>[(0,.slice (some ⟨g,0,none⟩) n cap),(6,I (y.1:Int)),(7,I (y.2.1:Int))]) (λy w'=>TN w' g n cap y.2.2/\Kp (λk=>k=g) w w'/\Go.Sort.reverseLoop y.1 y.2.1 y.2.2=Go.Sort.reverseRange d a b/\y.2.1<n) (λy=>y.2.1-y.1) ?hI ?hround
 case hI=>exact⟨h,Kp.refl _ _,O,by dsimp only;omega⟩
 case hround=>
  rintro⟨i,j,d4⟩ w4 ⟨l,o,m,r⟩ C;dsimp only at l o m r
  try dsimp only
  refine It<|RK O<|RT O<|PR<|Qa O (λA=>?_)<|λA=>?_
  ·rw[Go.Sort.reverseLoop,if_pos ω] at m;refine PS<|PT<|It ?_;have f:=Ext.Qm w4;refine Qp [13,15] (λw'=>Ext w4 w') y00 O (R1 0 O O f (R1 1 O O f (Rr (i:=2) O y00 O O (λ_=>YN O) f (Rr (i:=3) O y00 O O (λ_=>YN O) f (R1 4 O O f (R1 5 O O f (Qs 6 O (Rk QG Qn O O ω) f (R1 8 O O f (R1 9 O O f (Qs 10 O (Rk QG Qn O O ω) f (qL 7 O (λ_ h=>QH RO O O ((l.ext h).get (i:=j) ω)) f (qL 11 O (λ_ h=>QH RO O O ((l.ext h).get (i:=i) ω)) f (Qs 12 O (Rk QG Qn O O ω) f ?_)))))))))))));refine U0 [13] (qO 13 (QQ (i:=13) O O (T6 Qn O O O (l.ext f).sl ((l.ext f).jlt ω)) ?_));rintro H⟨v,x⟩;refine⟨trivial,?_⟩;have q:=(l.ext f).set v;refine PV 14 O (Rk QG Qn O O ω) trivial (qO 15 (QQ (i:=15) O O (T6 Qn O O O q.sl (q.jlt ω)) ?_));rintro G⟨B,D⟩;refine⟨trivial,?_⟩;have E:=q.set B;have z:Kp (λk=>k=g) w4 G:=f.kp.trans (x.trans D);refine qE<|Qz O<|Ra O<|Qe O<|Sv O<|SA O<|Qe O<|PN ?_;rw[show(j:Int)-1=((j-1:Nat):Int) by omega];exact(C (i+1,j-1,Go.Sort.swp d4 i j) _ ⟨E,o.trans z,m,by dsimp only;omega⟩ (by dsimp only;omega)).qb
  ·rw[Go.Sort.reverseLoop,if_neg ω] at m;refine Q7 O<|Rj func258 O ?_;exact⟨_,O,O,m▸l,o⟩
section
variable (p:Nat->Bool)(d:Array Nat)(i j:Nat)
theorem z0x (h:i<=j)(e:p d[i]! =true):Go.Sort.scanUp p d j i=Go.Sort.scanUp p d j (i+1):=by
 conv=>lhs;rw[Go.Sort.scanUp]
 rw[if_pos]
 rw[y0C];exact⟨by simpa using h,e⟩
theorem Um (h:j<i\/p d[i]! =false):Go.Sort.scanUp p d j i=i:=by
 rw[Go.Sort.scanUp,if_neg]
 intro e
 rw[y0C] at e
 rcases h with h| h
 ·have:=of_decide_eq_true e.1;omega
 ·rw[h] at e;cases e.2
theorem XL (h:i<=j)(e:p d[j]! =true)(f:1<=j):Go.Sort.scanDown p d i j=Go.Sort.scanDown p d i (j-1):=by
 obtain⟨k,rfl⟩:∃k,j=k+1:=⟨j-1,ω⟩
 rw[Go.Sort.scanDown,if_pos]
 ·rfl
 ·rw[y0C];exact⟨by simpa using h,e⟩
theorem Ti (h:j<i\/p d[j]! =false):Go.Sort.scanDown p d i j=j:=by
 cases j with
 |zero=>rw[Go.Sort.scanDown]
 | succ k =>
   rw[Go.Sort.scanDown,if_neg];intro e;rw[y0C] at e;rcases h with h| h
   ·have:=of_decide_eq_true e.1;omega
   ·rw[h] at e;cases e.2
end
def Yo (p:Nat->Bool)(d:Array Nat)(j:Nat):∀i:Nat,Go.Sort.scanUp p d j i<=max i (j+1):=λi=>by
 rw[Go.Sort.scanUp]
 split
 ·rename_i h
  rw[y0C] at h;have e:=of_decide_eq_true h.1;have:=Yo p d j (i+1);omega
 ·omega
 termination_by i=>j+1-i
theorem zd6 {n:Nat}{d:Array Nat}(h:TN w g n cap d)(a b N:Nat)(CV:a<=N)(rQ:N<b)(hb:b<=n)(hn:n<=65536):
  Qx prog 262 [.slice (some ⟨g,0,none⟩) n cap,I (a:Int),I (b:Int),I (N:Int)] w λu w'=>u= .tuple #[I ((Go.Sort.partition RX d a b N).1:Int),.bool (Go.Sort.partition RX d a b N).2.1]/\TN w' g n cap (Go.Sort.partition RX d a b N).2.2/\Kp (λk=>k=g) w w':=by
 refine py (e:=[(0,_),(1,_),(2,_),(3,_)]) func262 O ntmps262 O O<|qN O<|Rw O<|It ?_
 have v:=Ext.Qm w
 refine Qp [13,15] (λw'=>Ext w w') y00 O<|R1 0 O O v<|R1 1 O O v<|Rr (i:=2) O y00 O O (λ_=>YN O) v<|Rr (i:=3) O y00 O O (λ_=>YN O) v<|R1 4 O O v<|R1 5 O O v<|Qs 6 O (Rk QG Qn O O ω) v<|R1 8 O O v<|R1 9 O O v<|Qs 10 O (Rk QG Qn O O ω) v<|qL 7 O (λ_ P=>QH RO O O ((h.ext P).get (i:=N) ω)) v<|qL 11 O (λ_ P=>QH RO O O ((h.ext P).get (i:=a) ω)) v<|Qs 12 O (Rk QG Qn O O ω) v ?_
 refine U0 [13]<|qO 13<|QQ (i:=13) O O (T6 Qn O O O (h.ext v).sl ((h.ext v).jlt ω)) ?_
 rintro a1⟨nD,nE⟩
 refine⟨trivial,?_⟩
 have F:=(h.ext v).set nD
 refine PV 14 O (Rk QG Qn O O ω) trivial<|qO 15<|QQ (i:=15) O O (T6 Qn O O O F.sl (F.jlt ω)) ?_
 rintro w1⟨tD,tE⟩
 refine⟨trivial,?_⟩
 have Y:=F.set tD
 have lE:Kp (λk=>k=g) w w1:=v.kp.trans (nE.trans tE)
 refine qE<|Qz O<|Ra O<|Q4 O<|SA O<|Rw O<|QA.qb (e:=[(0,_),(1,_),(8,_),(9,_),(10,_),(11,_)]) ?_
 refine RU ?_
 unfold Go.Sort.partition
 dsimp only
 replace Y:TN w1 g n cap (Go.Sort.swp d a N):=Y
 generalize Go.Sort.swp d a N=D at Y
 rw[show(a:Int)+1=((a+1:Nat):Int) by omega,show(b:Int)-1=((b-1:Nat):Int) by omega]
 refine T3 (λG w'=>G=[(0,.slice (some ⟨g,0,none⟩) n cap),(1,I (a:Int)),(10,I (((Go.Sort.scanUp (λx=>RX x D[a]!) D (b-1) (a+1)):Nat):Int)),(11,I (((b-1):Nat):Int))]/\TN w' g n cap D/\Kp (λk=>k=g) w1 w') ?pe<|λpe=>?D6
 case pe =>
  rintro G wA⟨rfl,KN,pe⟩;have te:=Go.Sort.scanUp_ge (λx=>RX x D[a]!) D (b-1) (a+1);have mb:=Yo (λx=>RX x D[a]!) D (b-1) (a+1)
  generalize Go.Sort.scanUp (λx=>RX x D[a]!) D (b-1) (a+1)=E at te mb
  refine RU<|T3 (λG w'=>G=[(0,.slice (some ⟨g,0,none⟩) n cap),(1,I (a:Int)),(10,I ((E:Nat):Int)),(11,I (((Go.Sort.scanDown (λx=>!RX x D[a]!) D E (b-1)):Nat):Int))]/\TN w' g n cap D/\Kp (λk=>k=g) wA w') ?ji<|λji=>?D5
  case ji =>
   rintro G V⟨rfl,K,ji⟩;have KO:=Go.Sort.scanDown_le (λx=>!RX x D[a]!) D E (b-1)
   generalize Go.Sort.scanDown (λx=>!RX x D[a]!) D E (b-1)=S at KO
   refine It<|RK O<|RR O<|PR<|Qa O (λh4=>?_)<|λh4=>?_
   ·rw[if_pos ω];refine It ?_;have o:=Ext.Qm V;refine Qp [13,15] (λw'=>Ext V w') y00 O (R1 0 O O o (R1 1 O O o (Rr (i:=2) O y00 O O (λ_=>YN O) o (Rr (i:=3) O y00 O O (λ_=>YN O) o (R1 4 O O o (R1 5 O O o (Qs 6 O (Rk QG Qn O O ω) o (R1 8 O O o (R1 9 O O o (Qs 10 O (Rk QG Qn O O ω) o (qL 7 O (λ_ h=>QH RO O O ((K.ext h).get (i:=a) ω)) o (qL 11 O (λ_ h=>QH RO O O ((K.ext h).get (i:=S) ω)) o (Qs 12 O (Rk QG Qn O O ω) o ?_)))))))))))));refine U0 [13] (qO 13 (QQ (i:=13) O O (T6 Qn O O O (K.ext o).sl ((K.ext o).jlt ω)) ?_));rintro a2⟨xF,xG⟩;refine⟨trivial,?_⟩;have nG:=(K.ext o).set xF;refine PV 14 O (Rk QG Qn O O ω) trivial (qO 15 (QQ (i:=15) O O (T6 Qn O O O nG.sl (nG.jlt ω)) ?_));rintro w2⟨CW,CX⟩;refine⟨trivial,?_⟩;have CY:=nG.set CW;have xH:Kp (λk=>k=g) V w2:=o.kp.trans (xG.trans CX);refine qE<|Qz O<|Rw O<|PQ func262 O ?_;exact⟨_,O,O,CY,(lE.trans (pe.trans ji)).trans xH⟩
   ·rw [if_neg ω]; refine PS (It ?_); have q := Ext.Qm V; refine Qp [13,15] (λw' => Ext V w') y00 O (R1 0 O O q (R1 1 O O q (Rr (i := 2) O y00 O O (λ_ => YN O) q (Rr (i := 3) O y00 O O (λ_ => YN O) q (R1 4 O O q (R1 5 O O q (Qs 6 O (Rk QG Qn O O ω) q (R1 8 O O q (R1 9 O O q (Qs 10 O (Rk QG Qn O O ω) q (qL 7 O (λ_ h=>QH RO O O ((K.ext h).get (i := S) ω)) q (qL 11 O (λ_ h=>QH RO O O ((K.ext h).get (i := E) ω)) q (Qs 12 O (Rk QG Qn O O ω) q ?_))))))))))))); refine U0 [13] (qO 13 (QQ (i := 13) O O (T6 Qn O O O (K.ext q).sl ((K.ext q).jlt ω)) ?_)); rintro a3⟨xI, xJ⟩; refine ⟨trivial, ?_⟩; have nH := (K.ext q).set xI; refine PV 14 O (Rk QG Qn O O ω) trivial (qO 15 (QQ (i := 15) O O (T6 Qn O O O nH.sl (nH.jlt ω)) ?_)); rintro w3⟨CZ, D2⟩; refine ⟨trivial, ?_⟩; have D3 := nH.set CZ; have xK : Kp (λk => k = g) V w3 := q.kp.trans (xJ.trans D2); refine qE (Qz O (Ra O (RZ O (SA O (Qe O (QA.qb (e := [(0, _), (1, _), (10, _), (11, _)]) ?_)))))); refine RU ?_; rw [show (S : Int) - 1 = ((S - 1 : Nat) : Int) by omega]; refine SN (α := Nat × Nat × Array Nat) (E + 1, S - 1, Go.Sort.swp D E S) (λy => [(0, .slice (some ⟨g, 0, none⟩) n cap), (1, I (a : Int)), (10, I (y.1 : Int)), (11, I (y.2.1 : Int))]) (λy w' => TN w' g n cap y.2.2 /\ Kp (λk => k = g) w3 w' /\ Go.Sort.partLoop RX a y.1 y.2.1 y.2.2 = Go.Sort.partLoop RX a (E + 1) (S - 1) (Go.Sort.swp D E S) /\ (a < y.1 /\ y.1 <= n /\ y.2.1 < n)) (λy => y.2.1 + 1 - y.1) ?hI ?hround
    case hI=>exact⟨D3,Kp.refl _ _,O,by dsimp only;omega⟩
    case hround =>
     rintro⟨i,j,d4⟩ w4 ⟨ez,Z,Q,bD⟩ M;dsimp only at ez Z Q bD;rw[Go.Sort.partLoop_eq] at Q
     try dsimp only
     refine PT<|RU<|T3 (λG w'=>G=[(0,.slice (some ⟨g,0,none⟩) n cap),(1,I (a:Int)),(10,I (((Go.Sort.scanUp (λx=>RX x d4[a]!) d4 j i):Nat):Int)),(11,I ((j:Nat):Int))]/\TN w' g n cap d4/\Kp (λk=>k=g) w4 w') ?jP<|λjP=>?tG
     case jP=>
      rintro G wC⟨rfl,D4,jP⟩;have dB:=Go.Sort.scanUp_ge (λx=>RX x d4[a]!) d4 j i;have mR:=Yo (λx=>RX x d4[a]!) d4 j i
      generalize Go.Sort.scanUp (λx=>RX x d4[a]!) d4 j i=H at Q dB mR
      refine RU<|T3 (λG w'=>G=[(0,.slice (some ⟨g,0,none⟩) n cap),(1,I (a:Int)),(10,I ((H:Nat):Int)),(11,I (((Go.Sort.scanDown (λx=>!RX x d4[a]!) d4 H j):Nat):Int))]/\TN w' g n cap d4/\Kp (λk=>k=g) wC w') ?fM<|λfM=>?tF
      case fM=>
       rintro G W⟨rfl,J,fM⟩;have lD:=Go.Sort.scanDown_le (λx=>!RX x d4[a]!) d4 H j
       generalize Go.Sort.scanDown (λx=>!RX x d4[a]!) d4 H j=U at Q lD
       refine It<|RK O<|RR O<|PR<|Qa O (λh5=>?_)<|λh5=>?_
       ·rw[if_pos ω] at Q;refine Q7 O<|It ?_;rw[<-Q];have lF:=((lE.trans (pe.trans ji)).trans xK).trans (Z.trans (jP.trans fM));have f:=Ext.Qm W;refine Qp [13,15] (λw'=>Ext W w') y00 O (R1 0 O O f (R1 1 O O f (Rr (i:=2) O y00 O O (λ_=>YN O) f (Rr (i:=3) O y00 O O (λ_=>YN O) f (R1 4 O O f (R1 5 O O f (Qs 6 O (Rk QG Qn O O ω) f (R1 8 O O f (R1 9 O O f (Qs 10 O (Rk QG Qn O O ω) f (qL 7 O (λ_ h=>QH RO O O ((J.ext h).get (i:=a) ω)) f (qL 11 O (λ_ h=>QH RO O O ((J.ext h).get (i:=U) ω)) f (Qs 12 O (Rk QG Qn O O ω) f ?_)))))))))))));refine U0 [13] (qO 13 (QQ (i:=13) O O (T6 Qn O O O (J.ext f).sl ((J.ext f).jlt ω)) ?_));rintro a0⟨L,t⟩;refine⟨trivial,?_⟩;have T:=(J.ext f).set L;refine PV 14 O (Rk QG Qn O O ω) trivial (qO 15 (QQ (i:=15) O O (T6 Qn O O O T.sl (T.jlt ω)) ?_));rintro w8⟨R,X⟩;refine⟨trivial,?_⟩;have kq:=T.set R;have s:Kp (λk=>k=g) W w8:=f.kp.trans (t.trans X);refine qE<|Qz O<|Rw O<|PQ func262 O ?_;exact⟨_,O,O,kq,lF.trans s⟩
       ·rw[if_neg ω] at Q;refine PS<|It ?_;have f:=Ext.Qm W;refine Qp [13,15] (λw'=>Ext W w') y00 O (R1 0 O O f (R1 1 O O f (Rr (i:=2) O y00 O O (λ_=>YN O) f (Rr (i:=3) O y00 O O (λ_=>YN O) f (R1 4 O O f (R1 5 O O f (Qs 6 O (Rk QG Qn O O ω) f (R1 8 O O f (R1 9 O O f (Qs 10 O (Rk QG Qn O O ω) f (qL 7 O (λ_ h=>QH RO O O ((J.ext h).get (i:=U) ω)) f (qL 11 O (λ_ h=>QH RO O O ((J.ext h).get (i:=H) ω)) f (Qs 12 O (Rk QG Qn O O ω) f ?_)))))))))))));refine U0 [13] (qO 13 (QQ (i:=13) O O (T6 Qn O O O (J.ext f).sl ((J.ext f).jlt ω)) ?_));rintro a0⟨L,t⟩;refine⟨trivial,?_⟩;have T:=(J.ext f).set L;refine PV 14 O (Rk QG Qn O O ω) trivial (qO 15 (QQ (i:=15) O O (T6 Qn O O O T.sl (T.jlt ω)) ?_));rintro w8⟨R,X⟩;refine⟨trivial,?_⟩;have kq:=T.set R;have s:Kp (λk=>k=g) W w8:=f.kp.trans (t.trans X);refine qE<|Qz O<|Ra O<|Qe O<|Sv O<|SA O<|Qe O<|PN ?_;rw[show(U:Int)-1=((U-1:Nat):Int) by omega];exact(M (H+1,U-1,Go.Sort.swp d4 H U) _ ⟨kq,(Z.trans (jP.trans fM)).trans s,Q,by dsimp only;omega⟩ (by dsimp only;omega)).qb
      case tF=>
       refine SN (α:=Nat) j (λr=>[(0,.slice (some ⟨g,0,none⟩) n cap),(1,I (a:Int)),(10,I ((H:Nat):Int)),(11,I ((r:Nat):Int))]) (λr w'=>TN w' g n cap d4/\Kp (λk=>k=g) wC w'/\Go.Sort.scanDown (λx=>!RX x d4[a]!) d4 H r=Go.Sort.scanDown (λx=>!RX x d4[a]!) d4 H (j)/\r<n) (λr=>r) ?hI ?hround
       case hI=>exact⟨D4,Kp.refl _ _,O,ω⟩
       case hround=>
        rintro r C⟨m,z,l,c⟩ M
        try dsimp only
        have hg:=Ext.Qm C;rcases y0a r H with B|B
        ·refine It<|It<|Sq (λw'=>Ext C w') O<|Ql 0 O O hg<|Ql 1 O O hg<|PV 2 O (yle O O) hg<|Vm<|Ql 3 O O hg<|qJ 4 O hg<|qJ 5 O hg<|qJ 6 O hg<|qJ 7 O hg<|qJ 8 O hg<|qJ 9 O hg ?_;refine qJ 10 O hg<|qJ 11 O hg<|qJ 12 O hg<|qJ 13 O hg<|PV 14 O (VF O O) hg<|qE<|PW O<|Q7 O ?_;rw[Ti _ _ _ _ (.inl B)] at l;subst l;exact(fM _ _ ⟨O,m.ext hg,z.trans hg.kp⟩).qb
        ·refine It (It (Sq (λw'=>Ext C w') O (Ql 0 O O hg (Ql 1 O O hg (PV 2 O (yle O O) hg (Vn (Ql 3 O O hg (Ql 4 O O hg (Ql 5 O O hg (PV 6 O (Rk QG Qn O O ω) hg (Ql 8 O O hg (Ql 9 O O hg (PV 10 O (Rk QG Qn O O ω) hg ?_)))))))))))));refine qT 7 O (λ_ h=>QH RO O O ((m.ext h).get (i:=r) ω)) hg (qT 11 O (λ_ h=>QH RO O O ((m.ext h).get (i:=a) ω)) hg (TQ 12 O Xs O (Tc _ _ _) ?_));rintro _ w6⟨rfl,rfl⟩;refine⟨hg,?_⟩;refine PV 13 O (zaT O) hg<|PV 14 O (WA O O) hg<|qE<|Ru O (λA=>?_)<|λA=>?_
         ·rw[XL _ _ _ _ B (by simpa[RX] using A) ω] at l;refine PS<|PT<|Sv O<|SA O<|Qe O<|PN ?_;rw[show(r:Int)-1=((r-1:Nat):Int) by omega];exact(M (r-1) _ ⟨m.ext hg,z.trans hg.kp,l,ω⟩ ω).qb
         ·rw[Ti _ _ _ _ (.inr (by simpa[RX] using A))] at l;refine Q7 O ?_;subst l;exact(fM _ _ ⟨O,m.ext hg,z.trans hg.kp⟩).qb
     case tG=>
      refine SN (α:=Nat) i (λr=>[(0,.slice (some ⟨g,0,none⟩) n cap),(1,I (a:Int)),(10,I ((r:Nat):Int)),(11,I ((j:Nat):Int))]) (λr w'=>TN w' g n cap d4/\Kp (λk=>k=g) w4 w'/\Go.Sort.scanUp (λx=>RX x d4[a]!) d4 j r=Go.Sort.scanUp (λx=>RX x d4[a]!) d4 j (i)/\i<=r/\r<=n+1) (λr=>j+1-r) ?hI ?hround
      case hI=>exact⟨ez,Kp.refl _ _,O,y04 _,ω⟩
      case hround=>
       rintro r C⟨m,z,l,c⟩ M
       try dsimp only
       have hg:=Ext.Qm C;rcases y0a j r with B|B
       ·refine It<|It<|Sq (λw'=>Ext C w') O<|Ql 0 O O hg<|Ql 1 O O hg<|PV 2 O (yle O O) hg<|Vm<|Ql 3 O O hg<|qJ 4 O hg<|qJ 5 O hg<|qJ 6 O hg<|qJ 7 O hg<|qJ 8 O hg<|qJ 9 O hg ?_;refine qJ 10 O hg<|qJ 11 O hg<|qJ 12 O hg<|PV 13 O (VF O O) hg<|qE<|PW O<|Q7 O ?_;rw[Um _ _ _ _ (.inl B)] at l;subst l;exact(jP _ _ ⟨O,m.ext hg,z.trans hg.kp⟩).qb
       ·refine It (It (Sq (λw'=>Ext C w') O (Ql 0 O O hg (Ql 1 O O hg (PV 2 O (yle O O) hg (Vn (Ql 3 O O hg (Ql 4 O O hg (Ql 5 O O hg (PV 6 O (Rk QG Qn O O ω) hg (Ql 8 O O hg (Ql 9 O O hg (PV 10 O (Rk QG Qn O O ω) hg ?_)))))))))))));refine qT 7 O (λ_ h=>QH RO O O ((m.ext h).get (i:=r) ω)) hg (qT 11 O (λ_ h=>QH RO O O ((m.ext h).get (i:=a) ω)) hg (TQ 12 O Xs O (Tc _ _ _) ?_));rintro _ w6⟨rfl,rfl⟩;refine⟨hg,?_⟩;refine PV 13 O (WA O O) hg<|qE<|Ru O (λA=>?_)<|λA=>?_
        ·rw[z0x _ _ _ _ B (by simpa[RX] using A)] at l;refine PS<|PT<|Sv O<|Ra O<|Qe O<|PN ?_;exact(M (r+1) _ ⟨m.ext hg,z.trans hg.kp,l,ω,ω⟩ ω).qb
        ·rw[Um _ _ _ _ (.inr (by simpa[RX] using A))] at l;refine Q7 O ?_;subst l;exact(jP _ _ ⟨O,m.ext hg,z.trans hg.kp⟩).qb
  case D5=>
   refine SN (α:=Nat) (b-1) (λr=>[(0,.slice (some ⟨g,0,none⟩) n cap),(1,I (a:Int)),(10,I ((E:Nat):Int)),(11,I ((r:Nat):Int))]) (λr w'=>TN w' g n cap D/\Kp (λk=>k=g) wA w'/\Go.Sort.scanDown (λx=>!RX x D[a]!) D E r=Go.Sort.scanDown (λx=>!RX x D[a]!) D E (b-1)/\r<n) (λr=>r) ?hI ?hround
   case hI=>exact⟨KN,Kp.refl _ _,O,ω⟩
   case hround=>
    rintro r C⟨m,z,l,c⟩ M
    try dsimp only
    have hg:=Ext.Qm C;rcases y0a r E with B|B
    ·refine It<|It<|Sq (λw'=>Ext C w') O<|Ql 0 O O hg<|Ql 1 O O hg<|PV 2 O (yle O O) hg<|Vm<|Ql 3 O O hg<|qJ 4 O hg<|qJ 5 O hg<|qJ 6 O hg<|qJ 7 O hg<|qJ 8 O hg<|qJ 9 O hg ?_;refine qJ 10 O hg<|qJ 11 O hg<|qJ 12 O hg<|qJ 13 O hg<|PV 14 O (VF O O) hg<|qE<|PW O<|Q7 O ?_;rw[Ti _ _ _ _ (.inl B)] at l;subst l;exact(ji _ _ ⟨O,m.ext hg,z.trans hg.kp⟩).qb
    ·refine It (It (Sq (λw'=>Ext C w') O (Ql 0 O O hg (Ql 1 O O hg (PV 2 O (yle O O) hg (Vn (Ql 3 O O hg (Ql 4 O O hg (Ql 5 O O hg (PV 6 O (Rk QG Qn O O ω) hg (Ql 8 O O hg (Ql 9 O O hg (PV 10 O (Rk QG Qn O O ω) hg ?_)))))))))))));refine qT 7 O (λ_ h=>QH RO O O ((m.ext h).get (i:=r) ω)) hg (qT 11 O (λ_ h=>QH RO O O ((m.ext h).get (i:=a) ω)) hg (TQ 12 O Xs O (Tc _ _ _) ?_));rintro _ w6⟨rfl,rfl⟩;refine⟨hg,?_⟩;refine PV 13 O (zaT O) hg<|PV 14 O (WA O O) hg<|qE<|Ru O (λA=>?_)<|λA=>?_
     ·rw[XL _ _ _ _ B (by simpa[RX] using A) ω] at l;refine PS<|PT<|Sv O<|SA O<|Qe O<|PN ?_;rw[show(r:Int)-1=((r-1:Nat):Int) by omega];exact(M (r-1) _ ⟨m.ext hg,z.trans hg.kp,l,ω⟩ ω).qb
     ·rw[Ti _ _ _ _ (.inr (by simpa[RX] using A))] at l;refine Q7 O ?_;subst l;exact(ji _ _ ⟨O,m.ext hg,z.trans hg.kp⟩).qb
 case D6=>
  refine SN (α:=Nat) (a+1) (λr=>[(0,.slice (some ⟨g,0,none⟩) n cap),(1,I (a:Int)),(10,I ((r:Nat):Int)),(11,I (((b-1):Nat):Int))]) (λr w'=>TN w' g n cap D/\Kp (λk=>k=g) w1 w'/\Go.Sort.scanUp (λx=>RX x D[a]!) D (b-1) r=Go.Sort.scanUp (λx=>RX x D[a]!) D (b-1) (a+1)/\a+1<=r/\r<=n+1) (λr=>(b-1)+1-r) ?hI ?hround
  case hI=>exact⟨Y,Kp.refl _ _,O,y04 _,ω⟩
  case hround=>
   rintro r C⟨m,z,l,c⟩ M
   try dsimp only
   have hg:=Ext.Qm C;rcases y0a (b-1) r with B|B
   ·refine It<|It<|Sq (λw'=>Ext C w') O<|Ql 0 O O hg<|Ql 1 O O hg<|PV 2 O (yle O O) hg<|Vm<|Ql 3 O O hg<|qJ 4 O hg<|qJ 5 O hg<|qJ 6 O hg<|qJ 7 O hg<|qJ 8 O hg<|qJ 9 O hg ?_;refine qJ 10 O hg<|qJ 11 O hg<|qJ 12 O hg<|PV 13 O (VF O O) hg<|qE<|PW O<|Q7 O ?_;rw[Um _ _ _ _ (.inl B)] at l;subst l;exact(pe _ _ ⟨O,m.ext hg,z.trans hg.kp⟩).qb
   ·refine It (It (Sq (λw'=>Ext C w') O (Ql 0 O O hg (Ql 1 O O hg (PV 2 O (yle O O) hg (Vn (Ql 3 O O hg (Ql 4 O O hg (Ql 5 O O hg (PV 6 O (Rk QG Qn O O ω) hg (Ql 8 O O hg (Ql 9 O O hg (PV 10 O (Rk QG Qn O O ω) hg ?_)))))))))))));refine qT 7 O (λ_ h=>QH RO O O ((m.ext h).get (i:=r) ω)) hg (qT 11 O (λ_ h=>QH RO O O ((m.ext h).get (i:=a) ω)) hg (TQ 12 O Xs O (Tc _ _ _) ?_));rintro _ w6⟨rfl,rfl⟩;refine⟨hg,?_⟩;refine PV 13 O (WA O O) hg<|qE<|Ru O (λA=>?_)<|λA=>?_
    ·rw[z0x _ _ _ _ B (by simpa[RX] using A)] at l;refine PS<|PT<|Sv O<|Ra O<|Qe O<|PN ?_;exact(M (r+1) _ ⟨m.ext hg,z.trans hg.kp,l,ω,ω⟩ ω).qb
    ·rw[Um _ _ _ _ (.inr (by simpa[RX] using A))] at l;refine Q7 O ?_;subst l;exact(pe _ _ ⟨O,m.ext hg,z.trans hg.kp⟩).qb
theorem zdZ {n:Nat}{d:Array Nat}(h:TN w g n cap d)(a b z:Nat)(CV:a<=z)(rQ:z<b)(hb:b<=n)(hn:n<=65536):
  Qx prog 261 [.slice (some ⟨g,0,none⟩) n cap,I (a:Int),I (b:Int),I (z:Int)] w λu w'=>u=I ((Go.Sort.partitionEqual RX d a b z).1:Int)/\TN w' g n cap (Go.Sort.partitionEqual RX d a b z).2/\Kp (λk=>k=g) w w':=by
 refine py (e:=[(0,_),(1,_),(2,_),(3,_)]) func261 O ntmps261 O O<|RY O<|It ?_
 have f:=Ext.Qm w
 refine Qp [13,15] (λw'=>Ext w w') y00 O<|R1 0 O O f<|R1 1 O O f<|Rr (i:=2) O y00 O O (λ_=>YN O) f<|Rr (i:=3) O y00 O O (λ_=>YN O) f<|R1 4 O O f<|R1 5 O O f<|Qs 6 O (Rk QG Qn O O ω) f<|R1 8 O O f<|R1 9 O O f<|Qs 10 O (Rk QG Qn O O ω) f<|qL 7 O (λ_ T=>QH RO O O ((h.ext T).get (i:=z) ω)) f<|qL 11 O (λ_ T=>QH RO O O ((h.ext T).get (i:=a) ω)) f<|Qs 12 O (Rk QG Qn O O ω) f ?_
 refine U0 [13]<|qO 13<|QQ (i:=13) O O (T6 Qn O O O (h.ext f).sl ((h.ext f).jlt ω)) ?_
 rintro a0⟨nD,nE⟩
 refine⟨trivial,?_⟩
 have S:=(h.ext f).set nD
 refine PV 14 O (Rk QG Qn O O ω) trivial<|qO 15<|QQ (i:=15) O O (T6 Qn O O O S.sl (S.jlt ω)) ?_
 rintro w1⟨tD,tE⟩
 refine⟨trivial,?_⟩
 have M:=S.set tD
 have lE:Kp (λk=>k=g) w w1:=f.kp.trans (nE.trans tE)
 refine qE<|Qz O<|Ra O<|Q4 O<|SA O<|Rw O<|QA.qb (e:=[(0,_),(1,_),(8,_),(9,_),(10,_)]) ?_
 refine RU ?_
 unfold Go.Sort.partitionEqual
 replace M:TN w1 g n cap (Go.Sort.swp d a z):=M
 generalize Go.Sort.swp d a z=D at M
 rw[show(a:Int)+1=((a+1:Nat):Int) by omega,show(b:Int)-1=((b-1:Nat):Int) by omega]
 refine SN (α:=Nat×Nat×Array Nat) (a+1,b-1,D) (λy=>[(0,.slice (some ⟨g,0,none⟩) n cap),(1,I (a:Int)),(9,I (y.1:Int)),(10,I (y.2.1:Int))]) (λy w'=>TN w' g n cap y.2.2/\Kp (λk=>k=g) w1 w'/\Go.Sort.partEqLoop RX a y.1 y.2.1 y.2.2=Go.Sort.partEqLoop RX a (a+1) (b-1) D/\(a<y.1/\y.1<=n/\y.2.1<n)) (λy=>y.2.1+1-y.1) ?hI ?hround
 case hI=>exact⟨M,Kp.refl _ _,O,by dsimp only;omega⟩
 case hround =>
  rintro⟨i,j,d4⟩ w4 ⟨V,N,v,Z⟩ J;dsimp only at V N v Z;rw[Go.Sort.partEqLoop_eq] at v
  try dsimp only
  refine PT<|RU<|T3 (λH w'=>H=[(0,.slice (some ⟨g,0,none⟩) n cap),(1,I (a:Int)),(9,I (((Go.Sort.scanUp (λx=>!RX d4[a]! x) d4 j i):Nat):Int)),(10,I ((j:Nat):Int))]/\TN w' g n cap d4/\Kp (λk=>k=g) w4 w') ?jP<|λjP=>?tG
  case jP=>
   rintro H W⟨rfl,Y,jP⟩;have p:=Go.Sort.scanUp_ge (λx=>!RX d4[a]! x) d4 j i;have mR:=Yo (λx=>!RX d4[a]! x) d4 j i
   generalize Go.Sort.scanUp (λx=>!RX d4[a]! x) d4 j i=q at v p mR
   refine RU<|T3 (λH w'=>H=[(0,.slice (some ⟨g,0,none⟩) n cap),(1,I (a:Int)),(9,I ((q:Nat):Int)),(10,I (((Go.Sort.scanDown (λx=>RX d4[a]! x) d4 q j):Nat):Int))]/\TN w' g n cap d4/\Kp (λk=>k=g) W w') ?fM<|λfM=>?tF
   case fM=>
    rintro H U⟨rfl,G,fM⟩;have lD:=Go.Sort.scanDown_le (λx=>RX d4[a]! x) d4 q j
    generalize Go.Sort.scanDown (λx=>RX d4[a]! x) d4 q j=K at v lD
    refine It<|RK O<|RR O<|PR<|Qa O (λL=>?_)<|λL=>?_
    ·rw[if_pos ω] at v;rw[<-v];refine Q7 O<|Qz O<|Qe O<|PQ func261 O ?_;exact⟨_,O,O,G,lE.trans (N.trans (jP.trans fM))⟩
    ·rw[if_neg ω] at v;refine PS<|It ?_;have l:=Ext.Qm U;refine Qp [13,15] (λw'=>Ext U w') y00 O (R1 0 O O l (R1 1 O O l (Rr (i:=2) O y00 O O (λ_=>YN O) l (Rr (i:=3) O y00 O O (λ_=>YN O) l (R1 4 O O l (R1 5 O O l (Qs 6 O (Rk QG Qn O O ω) l (R1 8 O O l (R1 9 O O l (Qs 10 O (Rk QG Qn O O ω) l (qL 7 O (λ_ h=>QH RO O O ((G.ext h).get (i:=K) ω)) l (qL 11 O (λ_ h=>QH RO O O ((G.ext h).get (i:=q) ω)) l (Qs 12 O (Rk QG Qn O O ω) l ?_)))))))))))));refine U0 [13] (qO 13 (QQ (i:=13) O O (T6 Qn O O O (G.ext l).sl ((G.ext l).jlt ω)) ?_));rintro a1⟨F,t⟩;refine⟨trivial,?_⟩;have Q:=(G.ext l).set F;refine PV 14 O (Rk QG Qn O O ω) trivial (qO 15 (QQ (i:=15) O O (T6 Qn O O O Q.sl (Q.jlt ω)) ?_));rintro w8⟨P,R⟩;refine⟨trivial,?_⟩;have X:=Q.set P;have s:Kp (λk=>k=g) U w8:=l.kp.trans (t.trans R);refine qE<|Qz O<|Ra O<|Qe O<|Sv O<|SA O<|Qe O<|PN ?_;rw[show(K:Int)-1=((K-1:Nat):Int) by omega];exact(J (q+1,K-1,Go.Sort.swp d4 q K) _ ⟨X,(N.trans (jP.trans fM)).trans s,v,by dsimp only;omega⟩ (by dsimp only;omega)).qb
   case tF=>
    refine SN (α:=Nat) j (λr=>[(0,.slice (some ⟨g,0,none⟩) n cap),(1,I (a:Int)),(9,I ((q:Nat):Int)),(10,I ((r:Nat):Int))]) (λr w'=>TN w' g n cap d4/\Kp (λk=>k=g) W w'/\Go.Sort.scanDown (λx=>RX d4[a]! x) d4 q r=Go.Sort.scanDown (λx=>RX d4[a]! x) d4 q (j)/\r<n) (λr=>r) ?hI ?hround
    case hI=>exact⟨Y,Kp.refl _ _,O,ω⟩
    case hround=>
     rintro r E⟨o,A,m,c⟩ J
     try dsimp only
     have hg:=Ext.Qm E;rcases y0a r q with C|C
     ·refine It<|It<|Sq (λw'=>Ext E w') O<|Ql 0 O O hg<|Ql 1 O O hg<|PV 2 O (yle O O) hg<|Vm<|Ql 3 O O hg<|qJ 4 O hg<|qJ 5 O hg<|qJ 6 O hg<|qJ 7 O hg<|qJ 8 O hg<|qJ 9 O hg ?_;refine qJ 10 O hg<|qJ 11 O hg<|qJ 12 O hg<|PV 13 O (VF O O) hg<|qE<|PW O<|Q7 O ?_;rw[Ti _ _ _ _ (.inl C)] at m;subst m;exact(fM _ _ ⟨O,o.ext hg,A.trans hg.kp⟩).qb
     ·refine It (It (Sq (λw'=>Ext E w') O (Ql 0 O O hg (Ql 1 O O hg (PV 2 O (yle O O) hg (Vn (Ql 3 O O hg (Ql 4 O O hg (Ql 5 O O hg (PV 6 O (Rk QG Qn O O ω) hg (Ql 8 O O hg (Ql 9 O O hg (PV 10 O (Rk QG Qn O O ω) hg ?_)))))))))))));refine qT 7 O (λ_ h=>QH RO O O ((o.ext h).get (i:=a) ω)) hg (qT 11 O (λ_ h=>QH RO O O ((o.ext h).get (i:=r) ω)) hg (TQ 12 O Xs O (Tc _ _ _) ?_));rintro _ w6⟨rfl,rfl⟩;refine⟨hg,?_⟩;refine PV 13 O (WA O O) hg<|qE<|Ru O (λB=>?_)<|λB=>?_
      ·rw[XL _ _ _ _ C (by simpa[RX] using B) ω] at m;refine PS<|PT<|Sv O<|SA O<|Qe O<|PN ?_;rw[show(r:Int)-1=((r-1:Nat):Int) by omega];exact(J (r-1) _ ⟨o.ext hg,A.trans hg.kp,m,ω⟩ ω).qb
      ·rw[Ti _ _ _ _ (.inr (by simpa[RX] using B))] at m;refine Q7 O ?_;subst m;exact(fM _ _ ⟨O,o.ext hg,A.trans hg.kp⟩).qb
  case tG=>
   refine SN (α:=Nat) i (λr=>[(0,.slice (some ⟨g,0,none⟩) n cap),(1,I (a:Int)),(9,I ((r:Nat):Int)),(10,I ((j:Nat):Int))]) (λr w'=>TN w' g n cap d4/\Kp (λk=>k=g) w4 w'/\Go.Sort.scanUp (λx=>!RX d4[a]! x) d4 j r=Go.Sort.scanUp (λx=>!RX d4[a]! x) d4 j (i)/\i<=r/\r<=n+1) (λr=>j+1-r) ?hI ?hround
   case hI=>exact⟨V,Kp.refl _ _,O,y04 _,ω⟩
   case hround=>
    rintro r E⟨o,A,m,c⟩ J
    try dsimp only
    have hg:=Ext.Qm E;rcases y0a j r with C|C
    ·refine It<|It<|Sq (λw'=>Ext E w') O<|Ql 0 O O hg<|Ql 1 O O hg<|PV 2 O (yle O O) hg<|Vm<|Ql 3 O O hg<|qJ 4 O hg<|qJ 5 O hg<|qJ 6 O hg<|qJ 7 O hg<|qJ 8 O hg<|qJ 9 O hg ?_;refine qJ 10 O hg<|qJ 11 O hg<|qJ 12 O hg<|qJ 13 O hg<|PV 14 O (VF O O) hg<|qE<|PW O<|Q7 O ?_;rw[Um _ _ _ _ (.inl C)] at m;subst m;exact(jP _ _ ⟨O,o.ext hg,A.trans hg.kp⟩).qb
    ·refine It (It (Sq (λw'=>Ext E w') O (Ql 0 O O hg (Ql 1 O O hg (PV 2 O (yle O O) hg (Vn (Ql 3 O O hg (Ql 4 O O hg (Ql 5 O O hg (PV 6 O (Rk QG Qn O O ω) hg (Ql 8 O O hg (Ql 9 O O hg (PV 10 O (Rk QG Qn O O ω) hg ?_)))))))))))));refine qT 7 O (λ_ h=>QH RO O O ((o.ext h).get (i:=a) ω)) hg (qT 11 O (λ_ h=>QH RO O O ((o.ext h).get (i:=r) ω)) hg (TQ 12 O Xs O (Tc _ _ _) ?_));rintro _ w6⟨rfl,rfl⟩;refine⟨hg,?_⟩;refine PV 13 O (zaT O) hg<|PV 14 O (WA O O) hg<|qE<|Ru O (λB=>?_)<|λB=>?_
     ·rw[z0x _ _ _ _ C (by simpa[RX] using B)] at m;refine PS<|PT<|Sv O<|Ra O<|Qe O<|PN ?_;exact(J (r+1) _ ⟨o.ext hg,A.trans hg.kp,m,ω,ω⟩ ω).qb
     ·rw[Um _ _ _ _ (.inr (by simpa[RX] using B))] at m;refine Q7 O ?_;subst m;exact(jP _ _ ⟨O,o.ext hg,A.trans hg.kp⟩).qb
section
variable (d:Array Nat)(b i:Nat)
theorem z3j (h:i<b)(e:RX d[i]! d[i-1]! =false):Go.Sort.scanSorted RX d b i=Go.Sort.scanSorted RX d b (i+1):=by
 conv=>lhs;rw[Go.Sort.scanSorted]
 rw[if_pos]
 rw[y0C];exact⟨by simpa using h,by rw[e];rfl⟩
theorem Xn (h:b<=i\/RX d[i]! d[i-1]! =true):Go.Sort.scanSorted RX d b i=i:=by
 rw[Go.Sort.scanSorted,if_neg]
 intro e
 rw[y0C] at e
 rcases h with h| h
 ·have:=of_decide_eq_true e.1;omega
 ·rw[h] at e;cases e.2
end
theorem z9o (d:Array Nat)(a b:Nat)(h:b-a<50):Go.Sort.partialInsertionSort RX d a b=(d,decide (Go.Sort.scanSorted RX d b (a+1)=b)):=by
 unfold Go.Sort.partialInsertionSort
 rw[Go.Sort.partialIns]
 by_cases e:Go.Sort.scanSorted RX d b (a+1)=b
 ·simp only[e,if_pos,decide_true]
 ·simp only[if_neg e,if_pos h,decide_eq_false e]
theorem zcz {n:Nat}{d:Array Nat}(h:TN w g n cap d)(a b:Nat)(H:a<b)(K:b<=n)(M:n<50):
  Qx prog 259 [.slice (some ⟨g,0,none⟩) n cap,I (a:Int),I (b:Int)] w λu w'=>u= .bool (Go.Sort.partialInsertionSort RX d a b).2/\TN w' g n cap d/\Kp (λk=>k=g) w w':=by
 rw[z9o d a b ω]
 dsimp only
 refine py (e:=[(0,_),(1,_),(2,_)]) func259 O ntmps259 O O<|qN O<|RZ O<|Ra O<|Qe O<|It<|RY O<|PT ?_
 rw[show(a:Int)+1=((a+1:Nat):Int) by omega]
 refine SN (α:=Unit) () (λ_=>[(0,.slice (some ⟨g,0,none⟩) n cap),(1,I (a:Int)),(2,I (b:Int)),(7,I ((a+1:Nat):Int)),(8,I 0)]) (λy w'=>w'=w) (λy=>0) ?hI ?hround
 case hI=>rfl
 case hround =>
  rintro _ w4 rfl G
  try dsimp only
  refine QV O<|RT O<|PR<|Qa O (λB=>?_)<|λB=>?_
  ·refine PS<|RU<|RU<|T3 (λA w'=>A=[(0,.slice (some ⟨g,0,none⟩) n cap),(1,I (a:Int)),(2,I (b:Int)),(7,I (Go.Sort.scanSorted RX d b (a+1):Int)),(8,I 0)]/\TN w' g n cap d/\Kp (λk=>k=g) w4 w') ?dq<|λdq=>?tH
   case dq=>
    rintro A S⟨rfl,z,dq⟩;refine It<|RK O<|Ss O<|PR<|Qa O (λC=>?_)<|λC=>?_
    ·have x:Go.Sort.scanSorted RX d b (a+1)=b:=ω
     rw[decide_eq_true x];refine RY O<|PQ func259 O ?_;exact⟨_,O,O,z,dq⟩
    ·have x:¬Go.Sort.scanSorted RX d b (a+1)=b:=ω
     rw[decide_eq_false x];refine PS<|It<|RK O<|SA O<|RT O<|PR<|Qa O (λD=>?_)<|λD=>?_
     ·refine RY O<|PQ func259 O ?_;exact⟨_,O,O,z,dq⟩
     ·omega
   case tH=>
    refine SN (α:=Nat) (a+1) (λr=>[(0,.slice (some ⟨g,0,none⟩) n cap),(1,I (a:Int)),(2,I (b:Int)),(7,I (r:Int)),(8,I 0)]) (λr w'=>TN w' g n cap d/\Kp (λk=>k=g) w4 w'/\Go.Sort.scanSorted RX d b r=Go.Sort.scanSorted RX d b (a+1)/\a<r/\r<=b) (λr=>b-r) ?hI ?hround
    case hI=>exact⟨h,Kp.refl _ _,O,Nat.lt_succ_self a,H⟩
    case hround=>
     rintro r v⟨l,m,f,J,N⟩ E
     try dsimp only
     have hg:=Ext.Qm v;rcases y0a r b with q|q
     ·refine It (It (Sq (λw'=>Ext v w') O (Ql 0 O O hg (Ql 1 O O hg (PV 2 O (ylt O O) hg (Vn (Ql 3 O O hg (Ql 4 O O hg (Ql 5 O O hg (PV 6 O (Rk QG Qn O O ω) hg (Ql 8 O O hg (Ql 9 O O hg (PV 10 O (YS O O ω) hg ?_)))))))))))));rw[show(r:Int)-1=((r-1:Nat):Int) by omega];refine qT 7 O (λ_ h=>QH RO O O ((l.ext h).get (i:=r) ω)) hg (PV 11 O (Rk QG Qn O O ω) hg (qT 12 O (λ_ h=>QH RO O O ((l.ext h).get (i:=r-1) ω)) hg (TQ 13 O Xs O (Tc _ _ _) ?_)));rintro _ Q⟨rfl,rfl⟩;refine⟨hg,?_⟩;refine PV 14 O (zaT O) hg<|PV 15 O (WA O O) hg<|qE<|Ru O (λo=>?_)<|λo=>?_
      ·rw[z3j _ _ _ q (by simpa[RX] using o)] at f;refine PS<|PT<|Sv O<|Ra O<|Qe O<|PN ?_;exact(E (r+1) _ ⟨l.ext hg,m.trans hg.kp,f,ω,ω⟩ ω).qb
      ·rw[Xn _ _ _ (.inr (by simpa[RX] using o))] at f;refine Q7 O ?_;subst f;exact(dq _ _ ⟨O,l.ext hg,m.trans hg.kp⟩).qb
     ·refine It<|It<|Sq (λw'=>Ext v w') O<|Ql 0 O O hg<|Ql 1 O O hg<|PV 2 O (ylt O O) hg<|Vm<|Ql 3 O O hg<|qJ 4 O hg<|qJ 5 O hg<|qJ 6 O hg<|qJ 7 O hg<|qJ 8 O hg<|qJ 9 O hg ?_;refine qJ 10 O hg<|qJ 11 O hg<|qJ 12 O hg<|qJ 13 O hg<|qJ 14 O hg<|PV 15 O (VF O O) hg<|qE<|PW O<|Q7 O ?_;rw[Xn _ _ _ (.inl q)] at f;subst f;exact(dq _ _ ⟨O,l.ext hg,m.trans hg.kp⟩).qb
  ·exact absurd ψ B
theorem Zg {n s:Nat}{d:Array Nat}(h:TN w g n cap d)(hB:Q8 w sb [I (s:Int)] 3)(A:s<=1000)(x y:Nat)(B:x<n)(C:y<n)(z:sb≠g):
  Qx prog 270 [.slice (some ⟨g,0,none⟩) n cap,I (x:Int),I (y:Int),ptr sb 0] w λu w'=>∃l m s':Nat,u= .tuple #[I (l:Int),I (m:Int)]/\((l=x/\m=y)\/(l=y/\m=x))/\s'<=s+1/\Q8 w' sb [I (s':Int)] 3/\TN w' g n cap d/\Kp (λk=>k=sb) w w':=by
 refine py (e:=[(0,_),(1,_),(2,_),(3,_)]) func270 O ntmps270 O O ?_
 have hg:=Ext.Qm w
 refine qN O<|Rw O<|It<|It<|Sq (λw'=>Ext w w') O<|Ql 0 O O hg<|Ql 1 O O hg<|PV 2 O (Rk QG Qn O O ω) hg<|Ql 4 O O hg<|Ql 5 O O hg<|PV 6 O (Rk QG Qn O O ω) hg<|qT 3 O (λ_ f=>QH RO O O ((h.ext f).get (i:=y) ω)) hg<|qT 7 O (λ_ f=>QH RO O O ((h.ext f).get (i:=x) ω)) hg<|TQ 8 O Xs O (Tc _ _ _) ?_
 rintro _ D⟨rfl,rfl⟩
 refine⟨hg,?_⟩
 refine qE<|Ru O (λv=>?_)<|λv=>?_
 ·have o:=hg.PO hB;refine Qz O (QC O (qV (Q0 U3 O O o O) (Ra O (QC O (Qc O (S0 R8 O O O o ξ) ?_)))));rintro w3⟨r,q⟩;refine qM O<|Qq O<|Rw O<|PQ func270 O ?_;exact⟨_,O,y,x,s+1,O,.inr ⟨O,O⟩,y04 _,r,(h.ext hg).kp q (λe=>z e.symm),hg.kp.trans q⟩
 ·refine PS<|RK O<|Rw O<|PQ func270 O ?_;exact⟨_,O,x,y,s,O,.inl ⟨O,O⟩,Nat.le_succ _,hg.PO hB,h.ext hg,hg.kp⟩
theorem z80 {n s:Nat}{d:Array Nat}(h:TN w g n cap d)(hB:Q8 w sb [I (s:Int)] 3)(W:s<=500)(x y z:Nat)(B:x<n)(C:y<n)(D:z<n)(l:sb≠g):
  Qx prog 268 [.slice (some ⟨g,0,none⟩) n cap,I (x:Int),I (y:Int),I (z:Int),ptr sb 0] w λu w'=>∃f s':Nat,u=I (f:Int)/\(f=x\/f=y\/f=z)/\s'<=s+3/\Q8 w' sb [I (s':Int)] 3/\TN w' g n cap d/\Kp (λk=>k=sb) w w':=by
 refine py (e:=[(0,_),(1,_),(2,_),(3,_),(4,_)]) func268 O ntmps268 O O<|qN O<|Sb O<|Qq O<|Qq O<|Qj zdI O (Zg h hB ω x y B C l) ?_
 rintro _ w1⟨x1,K,Z,rfl,Q,V,o,E,m⟩
 refine Q4 O<|Tr O<|Tq O<|Sb O<|Qq O<|Qq O<|Qj zdI O (Zg E o ω K z ω D l) ?_
 rintro _ w2⟨M,j,a,rfl,S,U,q,G,r⟩
 refine Q4 O<|Tr O<|Tq O<|Sb O<|Qq O<|Qq O<|Qj zdI O (Zg G q ω x1 M ω ω l) ?_
 rintro _ w3⟨c,N,H,rfl,T,Y,A,J,v⟩
 refine Q4 O<|Tr O<|Rw O<|QA.qb (e:=[(2,_),(10,_)]) ?_
 refine Qz O<|Qe O<|PQ func268 O ?_
 exact⟨_,O,N,H,O,ω,ω,A,J,(m.trans r).trans v⟩
theorem zbh {n:Nat}{d:Array Nat}(h:TN w g n cap d)(a b:Nat)(H:a+12<b)(C:b<=n)(D:n<50):
  Qx prog 257 [.slice (some ⟨g,0,none⟩) n cap,I (a:Int),I (b:Int)] w λu w'=>∃p t:Nat,u= .tuple #[I (p:Int),I (t:Int)]/\a<=p/\p<b/\t<=2/\TN w' g n cap d/\Ext w w':=by
 have B:g<w.heap.size:=h.sl.lt O
 refine py (e:=[(0,_),(1,_),(2,_)]) func257 O ntmps257 O O<|qN O<|Tq O<|Sb O<|Qq O<|SA O<|Sb O ?_
 rw[show(b:Int)-(a:Int)=((b-a:Nat):Int) by omega]
 refine PX O O (SE (cs:=[_]) R8 O) ?_
 rintro _ w1⟨sb,rfl,J,o,l⟩
 replace l:Q8 w1 sb [I ((0:Nat):Int)] 3:=l
 refine qM O<|Qq O<|qV (Yx O O ω)<|qV (WB O O ω)<|Ra O<|Sb O<|Qq O<|qV (Yx O O ω)<|qV (WB O O ω)<|Ra O<|Sb O<|Qq O<|qV (Yx O O ω)<|qV (WB O O ω) ?_
 refine Ra O<|Qe O<|QA.qb (e:=[(0,_),(6,_),(7,_),(8,_),(9,_),(10,_),(11,_),(12,_)]) ?_
 refine QV O<|UL O<|PR ?_
 rw[show(a:Int)+((b-a:Nat):Int) / 4*1=((a+(b-a) / 4*1:Nat):Int) by omega,show(a:Int)+((b-a:Nat):Int) / 4*2=((a+(b-a) / 4*2:Nat):Int) by omega,show(a:Int)+((b-a:Nat):Int) / 4*3=((a+(b-a) / 4*3:Nat):Int) by omega]
 refine Qa O (λv=>?_)<|λv=>?_
 ·refine QV O<|UL O<|PR<|Qa O (λx=>?_)<|λx=>?_
  ·omega
  ·refine PS (PY O (Qq O (Qq O (Qj zkR O (z80 (h.ext o) l ω (a+(b-a) / 4*1) (a+(b-a) / 4*2) (a+(b-a) / 4*3) ω ω ω ω) ?_))));rintro _ w2⟨p,s,rfl,E,G,q,m,r⟩;have f:Ext w w2:=o.An r (λk e=>ω);refine Sb O<|qV (Q0 U3 O O q O)<|PR<|PT<|qN O<|Ss O<|Qe O<|Qa O (λz=>?_)<|λz=>?_
   ·refine Qz O<|Rw O<|PQ func257 O ?_;exact⟨_,O,p,1,O,ω,ω,ω,m,f⟩
   ·refine qN O<|Ss O<|Qe O<|Qa O (λA=>?_)<|λA=>?_
    ·refine Qz O<|Rw O<|PQ func257 O ?_;exact⟨_,O,p,2,O,ω,ω,ω,m,f⟩
    ·refine Qz O<|Rw O<|PQ func257 O ?_;exact⟨_,O,p,0,O,ω,ω,ω,m,f⟩
 ·omega
theorem zb7 {xb r:Nat}(hB:Q8 w xb [Qi r] 383)(J:r<18446744073709551616):
  Qx prog 266 [ptr xb 0] w λu w'=>∃x:Nat,u=Qi x/\x<18446744073709551616/\Q8 w' xb [Qi x] 383/\Kp (λk=>k=xb) w w':=by
 refine py (e:=[(0,_)]) func266 O ntmps266 O O ?_
 have f:=Ext.Qm w
 refine RY O<|It<|Qp [9] (λw'=>Ext w w') y00 O<|R1 0 O O f<|Qs 1 O (Rs O) f<|qL 2 O (λ_ h=>Q0 z5n O O (h.PO hB) O) f<|R1 3 O O f<|Qs 4 O (Rs O) f<|qL 5 O (λ_ h=>Q0 z5n O O (h.PO hB) O) f<|Qs 6 O (Sz 13 8192 O O ψ O) f<|Qs 7 O (z2K O O ω ω) f<|Qs 8 O (Rs O) f ?_
 generalize G:r^^^r*8192%18446744073709551616=r1
 have H:r1<18446744073709551616:=by rw[<-G];exact y2f (n:=64) ω ω
 refine U0 [9]<|qO 9<|QQ (i:=9) O O (S0 z6x O O O (f.PO hB) ξ) ?_
 rintro w1⟨o,A⟩
 refine⟨trivial,?_⟩
 replace o:Q8 w1 xb [Qi r1] 383:=o
 have l:=Ext.Qm w1
 refine qE<|It<|Qp [9] (λw'=>Ext w1 w') y00 O<|R1 0 O O l<|Qs 1 O (Rs O) l<|qL 2 O (λ_ h=>Q0 z5n O O (h.PO o) O) l<|R1 3 O O l<|Qs 4 O (Rs O) l<|qL 5 O (λ_ h=>Q0 z5n O O (h.PO o) O) l<|Qs 6 O (Vl 7 128 O O ψ O) l<|Qs 7 O (z2K O O ω ω) l<|Qs 8 O (Rs O) l ?_
 generalize E:r1^^^r1 / 128=r2
 have I:r2<18446744073709551616:=by rw[<-E];exact y2f (n:=64) ω ω
 refine U0 [9]<|qO 9<|QQ (i:=9) O O (S0 z6x O O O (l.PO o) ξ) ?_
 rintro w2⟨q,B⟩
 refine⟨trivial,?_⟩
 replace q:Q8 w2 xb [Qi r2] 383:=q
 have m:=Ext.Qm w2
 refine qE<|It<|Qp [9] (λw'=>Ext w2 w') y00 O<|R1 0 O O m<|Qs 1 O (Rs O) m<|qL 2 O (λ_ h=>Q0 z5n O O (h.PO q) O) m<|R1 3 O O m<|Qs 4 O (Rs O) m<|qL 5 O (λ_ h=>Q0 z5n O O (h.PO q) O) m<|Qs 6 O (Sz 17 131072 O O ψ O) m<|Qs 7 O (z2K O O ω ω) m<|Qs 8 O (Rs O) m ?_
 generalize z:r2^^^r2*131072%18446744073709551616=r3
 have D:r3<18446744073709551616:=by rw[<-z];exact y2f (n:=64) ω ω
 refine U0 [9]<|qO 9<|QQ (i:=9) O O (S0 z6x O O O (m.PO q) ξ) ?_
 rintro w3⟨v,C⟩
 refine⟨trivial,?_⟩
 replace v:Q8 w3 xb [Qi r3] 383:=v
 refine qE<|QA.qb (e:=[(0,_),(2,_)]) ?_
 refine Qz O<|QC O<|qV (Q0 z5n O O v O)<|Qe O<|PQ func266 O ?_
 exact⟨_,O,r3,O,D,v,(f.kp.trans A).trans ((l.kp.trans B).trans (m.kp.trans C))⟩
def z99 (x:Nat)(f:x<18446744073709551616)(w:World):Qx prog 246 [Qi x] w λv w'=>v=I (R6 x:Int)/\w'=w:=by
 refine py (e:=[(0,_)]) func246 O ntmps246 O O<|RY O<|It<|Us O<|Qz O<|Qj z3y O (VE x f w) ?_
 rintro _ w⟨rfl,rfl⟩
 refine Qe O<|PQ func246 O ?_
 exact⟨_,O,O,O⟩
def zdb (x:Nat)(k:x<4294967296)(w:World):Qx prog 265 [I (x:Int)] w λv w'=>v=Qi (2^R6 x)/\w'=w:=by
 have f:R6 x<=32:=Sm ω
 have h:2^R6 x<=2^32:=y0t ψ f
 refine py (e:=[(0,_)]) func265 O ntmps265 O O<|qN O<|RZ O<|qV (Rz O U3 zgR ω)<|Qj zfY O (z99 x ω w) ?_
 rintro _ w⟨rfl,rfl⟩
 refine qV (Sz (R6 x) (2^R6 x) O O ω O) ?_
 rw[show 1*2^R6 x%18446744073709551616=2^R6 x by rw[y0O];exact y0e ω]
 refine Qe O<|PQ func265 O ?_
 exact⟨_,O,O,O⟩
open Go.Sort in
def zds {d:Array Nat}(e:a<=i)(f:i<b)(h:a<=j)(k:j<b)(l:b<=d.size):PermIn a b d (swp d i j):=swp_permIn d a b i j e f h k l
theorem zcj {n:Nat}{d:Array Nat}(h:TN w g n cap d)(a b:Nat)(jJ:a+12<b)(hb:b<=n)(hn:n<50):
  Qx prog 256 [.slice (some ⟨g,0,none⟩) n cap,I (a:Int),I (b:Int)] w λu w'=>u= .tuple #[]/\∃Q,Go.Sort.PermIn a b d Q/\TN w' g n cap Q/\Kp (λk=>k=g) w w':=by
 have KS:g<w.heap.size:=h.sl.lt O
 have D7:2^(R6 (b-a)-1)<=b-a:=z1I ω
 have tI:2^R6 (b-a)<=2*(b-a):=by
  have pQ:R6 (b-a)≠0:=λe=>by have:=Y4 (v:=b-a);rw[e] at this;omega
  rw[show R6 (b-a)=R6 (b-a)-1+1 by omega,y1J];omega
 have W:1<=2^R6 (b-a):=Nat.one_le_two_pow
 refine py (e:=[(0,_),(1,_),(2,_)]) func256 O ntmps256 O O<|RK O<|SA O ?_
 rw[show(b:Int)-(a:Int)=((b-a:Nat):Int) by omega]
 refine RZ O<|UL O<|PR<|Qa O (λP=>?_)<|λP=>?_
 ·refine Qz O (qV (Rz O U3 z5n ω) (PX O O (SE (cs:=[_]) z6x O) ?_));rintro _ w1⟨xb,rfl,OO,c,j⟩;refine Qc O (S0 z6x O O O j ξ) ?_;rintro w2⟨B,p⟩;have J:Ext w w2:=c.An p (λk e=>ω);replace B:Q8 w2 xb [Qi (b-a)] 383:=B;refine qM O (Q4 O (Qj zjI O (zdb (b-a) ω _) ?_));rintro _ w2⟨rfl,rfl⟩
  generalize 2^R6 (b-a)=M at tI W
  refine Sb O (Qq O (qV (Yx O O ω) (qV (WB O O ω) (Ra O (SA O (Qe O (PT ?_)))))));rw[show(a:Int)+((b-a:Nat):Int) / 4*2-1=((a+(b-a) / 4*2-1:Nat):Int) by omega];refine SN (α:=Nat×Array Nat×Nat) (a+(b-a) / 4*2-1,d,b-a) (λy=>[(0,.slice (some ⟨g,0,none⟩) n cap),(1,I (a:Int)),(6,I ((b-a:Nat):Int)),(7,ptr xb 0),(8,Qi M),(9,I (y.1:Int))]) (λy w'=>TN w' g n cap y.2.1/\Q8 w' xb [Qi y.2.2] 383/\y.2.2<18446744073709551616/\Go.Sort.PermIn a b d y.2.1/\Kp (λk=>k=g) w w'/\a<=y.1) (λy=>a+b+2-y.1) ?hI ?hround
  case hI=>exact⟨h.ext J,B,by dsimp only;omega,Go.Sort.permIn_refl _ _ _,J.kp,by dsimp only;omega⟩
  case hround=>
   rintro⟨l,d4,r⟩ w4 ⟨A,H,N,E,C,U⟩ ih;dsimp only at A H N E C U;have cM:=A.size
   try dsimp only
   refine It<|RK O<|Q4 O<|qV (Yx O O ω)<|qV (WB O O ω)<|Ra O<|Ra O<|zle O<|PR<|Qa O (λR=>?_)<|λR=>?_
   ·have pR:l<b:=ω
    refine PS<|RU<|qN O<|Qj ziN O (zb7 H N) ?_;rintro _ V⟨G,rfl,s,Z,K⟩;have z:=A.kp K (λe=>ω);have t:Kp (λk=>k=g) w V:=C.An K (λk e=> .inl ω);refine Q4 O (qV (XM (m:=M) (n:=1) O O O (by show M<2^64;omega) ω) ?_);refine qV (VY O O ω ω) ?_;have Y:G&&&(M-1)<=M-1:=y2g
    generalize G&&&(M-1)=q at Y
    refine qV (QU O zgR U3 ω)<|Qe O<|It<|RK O<|UL O<|PR<|QT (λS w'=>∃o:Nat,S=[(0,.slice (some ⟨g,0,none⟩) n cap),(1,I (a:Int)),(6,I ((b-a:Nat):Int)),(7,ptr xb 0),(8,Qi M),(9,I (l:Int)),(10,I (o:Int))]/\w'=V/\o<b-a) ?D9<|λD9=>?Da
    case D9=>
     rintro S x⟨o,rfl,rfl,ho⟩;have f:=Ext.Qm x;refine Qp [17,19] (λw'=>Ext x w') y00 O (R1 0 O O (f) (R1 1 O O (f) (Rr (i:=2) O y00 O O (λ_=>YN O) (f) (Rr (i:=3) O y00 O O (λ_=>YN O) (f) (Rr (i:=4) O y00 O O (λ_=>YN O) (f) (Rr (i:=5) O y00 O O (λ_=>W7 O O ω) (f) (R1 6 O O (f) (R1 7 O O (f) (R1 8 O O (f) (Qs 9 O (W7 O O ω) f (Qs 10 O (Rk QG Qn O O ω) f (R1 12 O O (f) (R1 13 O O (f) ?_)))))))))))));refine Qs 14 O (Rk QG Qn O O ω) f (qL 11 O (λ_ h=>QH RO O O ((z.ext h).get (i:=a+o) ω)) f (qL 15 O (λ_ h=>QH RO O O ((z.ext h).get (i:=l) ω)) f (Qs 16 O (Rk QG Qn O O ω) f (U0 [17] (qO 17 (QQ (i:=17) O O (T6 Qn O O O (z.ext f).sl ((z.ext f).jlt ω)) ?_))))));rintro a0⟨L,F⟩;refine⟨trivial,?_⟩;have D:=(z.ext f).set L;refine PV 18 O (Rk QG Qn O O ω) trivial (qO 19 (QQ (i:=19) O O (T6 Qn O O O D.sl (D.jlt ω)) ?_));rintro w8⟨km,ko⟩;refine⟨trivial,?_⟩;have kq:=D.set km;have T:Kp (λk=>k=g) x w8:=f.kp.trans (F.trans ko);refine qE<|PN<|Sv O<|Ra O<|Qe O ?_;rw[show(l:Int)+1=((l+1:Nat):Int) by omega];exact(ih (l+1,Go.Sort.swp d4 l (a+o),G) _ ⟨kq,T.PO Z ω,s,Go.Sort.permIn_trans _ _ _ a b E (zds U pR ω ω ω),t.trans T,by dsimp only;omega⟩ (by dsimp only;omega)).qb
    case Da=>
     refine Qa O (λX=>?_)<|λX=>?_
     ·refine PY O<|Qq O<|SA O<|Qe O ?_;rw[show(q:Int)-((b-a:Nat):Int)=((q-(b-a):Nat):Int) by omega];exact(D9 _ _ ⟨q-(b-a),O,O,ω⟩).qb
     ·refine PS ?_;exact(D9 _ _ ⟨q,O,O,ω⟩).qb
   ·refine Q7 O<|Rj func256 O ?_;exact⟨_,O,O,d4,E,A,C⟩
 ·omega
open Go.Sort in
def zfg (g n cap m:Nat):Prop:=∀(w:World)(d:Array Nat),TN w g n cap d->∀(a b e:Nat),b-a<m->a<=b->b<=n->e<=64->Below RX a b d->
 Qx prog 245 [.slice (some ⟨g,0,none⟩) n cap,I (a:Int),I (b:Int),I (e:Int)] w λu w'=>u= .tuple #[]/\∃f,TN w' g n cap f/\PermIn a b d f/\SortedIn RX a b f/\Kp (λk=>k=g) w w'
open Go.Sort in
structure z7o (w:World)(g n cap a b:Nat)(d:Array Nat)(a1 b1 l1:Nat)(d1:Array Nat)(w':World):Prop where
 arr:TN w' g n cap d1
 kp:Kp (λk=>k=g) w w'
 ab:a1<=b1
 bn:b1<=n
 sm:b1-a1<=b-a
 lim:l1<=64
 bel:Below RX a1 b1 d1
 fin:∀R,PermIn a1 b1 d1 R->SortedIn RX a1 b1 R->PermIn a b d R/\SortedIn RX a b R
open Go.Sort in
theorem z7o.perm {n:Nat}{d:Array Nat}{e b1 v l:Nat}{d1 d2:Array Nat}(h:z7o w g n cap a b d e b1 v d1 w1)(q:TN w2 g n cap d2)(r:Kp (λk=>k=g) w1 w2)(f:PermIn e b1 d1 d2)(u:l<=64):z7o w g n cap a b d e b1 l d2 w2:=
 ⟨q,h.kp.trans r,h.ab,h.bn,h.sm,u,h.bel.perm (by rw[h.arr.size];exact h.bn) f,λR m o=>h.fin R (permIn_trans _ _ _ _ _ f m) o⟩
open Go.Sort in
theorem zbF {n m:Nat}(eC:zfg g n cap m){d:Array Nat}(h:TN w g n cap d)(a b o:Nat)(hm:b-a<=m)(jJ:a<=b)(hb:b<=n)(hn:n<50)(hl:o<=64)(hB:Below RX a b d):
  Qx prog 245 [.slice (some ⟨g,0,none⟩) n cap,I (a:Int),I (b:Int),I (o:Int)] w λu w'=>u= .tuple #[]/\∃X,TN w' g n cap X/\PermIn a b d X/\SortedIn RX a b X/\Kp (λk=>k=g) w w':=by
 refine py (e:=[(0,_),(1,_),(2,_),(3,_)]) func245 O ntmps245 O O<|qN O<|Sb O<|Qe O<|PT<|SN (α:=Nat×Nat×Nat×Bool×Bool×Array Nat) (a,b,o,true,true,d) (λy=>[(0,.slice (some ⟨g,0,none⟩) n cap),(1,I (y.1:Int)),(2,I (y.2.1:Int)),(3,I (y.2.2.1:Int)),(8,.bool y.2.2.2.1),(9,.bool y.2.2.2.2.1)]) (λy w'=>z7o w g n cap a b d y.1 y.2.1 y.2.2.1 y.2.2.2.2.2 w') (λy=>y.2.1-y.1) ?hI ?hround
 case hI=>exact⟨h,Kp.refl _ _,jJ,hb,y04 _,hl,hB,λR h1 h2=>⟨h1,h2⟩⟩
 case hround =>
  rintro⟨f,b1,Y,E,G,d1⟩ w4 hI ih;dsimp only at hI;have c:=hI.ab;have C:=hI.bn;have KU:=hI.sm;have Iv:=hI.lim;have xL:=hI.arr.size
  try dsimp only
  refine PT<|RK O<|SA O<|Qe O<|It<|qN O ?_;rw[show(b1:Int)-(f:Int)=((b1-f:Nat):Int) by omega];refine Q4 O<|zle O<|PR<|Qa O (λh0=>?_)<|λh0=>?_
  ·obtain⟨A,z⟩:=insertionSort_holds ZR d1 f b1 c ω;obtain⟨S,T⟩:=hI.fin _ A z;refine RK O (Q4 O (Qj zil O (z3m hI.arr f b1 c C ω) ?_));rintro _ t⟨rfl,K,M⟩;refine PR<|PQ func245 O ?_;exact⟨_,O,O,_,K,S,T,hI.kp.trans M⟩
  ·refine PS<|QV O<|Ss O<|PR<|Qa O (λh1 => ?_)<|λh1 => ?_
   ·obtain⟨A,z⟩:=heapSort_holds ZR d1 f b1 c ω;obtain⟨S,T⟩:=hI.fin _ A z;refine RK O (Q4 O (Qj zj1 O (zdy hI.arr f b1 ω C ω) ?_));rintro _ t⟨rfl,K,M⟩;refine PR<|PQ func245 O ?_;exact⟨_,O,O,_,K,S,T,hI.kp.trans M⟩
   ·refine PS<|QV O<|qV (Tf O)<|PR<|QT (λr w' => ∃ v d5, r = [(0, .slice (some ⟨g, 0, none⟩) n cap), (1, I (f : Int)), (2, I (b1 : Int)), (3, I ((v : Nat) : Int)), (8, .bool E), (9, .bool G), (10, I ((b1 - f : Nat) : Int))] /\ z7o w g n cap a b d f b1 v d5 w') ?cF<|λcF => ?ge
    case cF =>
     rintro r t⟨v,d5,rfl,Q⟩;have rS:=Q.lim;have Db:=Q.arr.size;have KV:g<t.heap.size:=Q.arr.sl.lt O;refine RK O (Q4 O (Qj zis O (zbh Q.arr f b1 ω C hn) ?_));rintro _ w6⟨Z,t6,rfl,KW,tJ,xM,pM,aR⟩;have pT:=Q.perm pM aR.kp (permIn_refl _ _ _) rS;refine Q4 O<|Tr O<|Rw O<|QV O<|Ss O<|PR<|QT (λr w'=>∃d7 x t7,r=[(0,.slice (some ⟨g,0,none⟩) n cap),(1,I (f:Int)),(2,I (b1:Int)),(3,I (v:Int)),(8,.bool E),(9,.bool G),(10,I ((b1-f:Nat):Int)),(11,I ((x:Nat):Int)),(12,I ((t7:Nat):Int))]/\z7o w g n cap a b d f b1 v d7 w'/\f<=x/\x<b1) ?av<|λav=>?dO
     case av =>
      rintro r w7⟨d7,x,t7,rfl,D,U,j⟩;have KX:=D.arr.size;refine It<|It<|QT (λr w'=>∃s,r=[(0,.slice (some ⟨g,0,none⟩) n cap),(1,I (f:Int)),(2,I (b1:Int)),(3,I (v:Int)),(8,.bool E),(9,.bool G),(10,I ((b1-f:Nat):Int)),(11,I (x:Int)),(68,.bool s)]/\w'=w7) ?bI<|λbI=>?kr
      case bI=>
       rintro r w8⟨s,rfl,rfl⟩;refine QT (λr w'=>r=[(0,.slice (some ⟨g,0,none⟩) n cap),(1,I (f:Int)),(2,I (b1:Int)),(3,I (v:Int)),(8,.bool E),(9,.bool G),(10,I ((b1-f:Nat):Int)),(11,I (x:Int))]/\z7o w g n cap a b d f b1 v d7 w') ?eT<|λeT=>?nI
       case eT=>
        rintro r J⟨rfl,B⟩;have H:=B.arr;have hg:=Ext.Qm J;refine It<|It<|QT (λr w'=>∃s,r=[(0,.slice (some ⟨g,0,none⟩) n cap),(1,I (f:Int)),(2,I (b1:Int)),(3,I (v:Int)),(8,.bool E),(9,.bool G),(10,I ((b1-f:Nat):Int)),(11,I (x:Int)),(87,.bool s)]/\w'=J.drew/\(s=true->0<f/\RX d7[f-1]! d7[x]! =false)) ?tf<|λtf=>?th
        case tf=>
         rintro r a0⟨s,rfl,rfl,hs⟩;have me:=H.ext hg;have L:Kp (λk=>k=g) w J.drew:=B.kp.trans hg.kp;refine Ru O (λh6=>?_)<|λh6=>?_
         ·obtain⟨KY,mf⟩:=hs h6;obtain⟨l,d11,N⟩:∃m e,partitionEqual RX d7 f b1 x=(m,e):=⟨_,_,O⟩;have F:=zdZ me f b1 x U j C ω;rw[N] at F;dsimp only at F;obtain⟨e1,e2,e3,e4,W⟩:=round_eq ZR (partitionEqual_holds _) KY U j ω B.bel mf N;refine RK O<|Qq O<|Qj zjO O (F) ?_;rintro _ a2⟨rfl,p,V⟩;refine RZ O<|Qe O<|Q7 O ?_;exact(ih (l,b1,v,E,G,d11) _ ⟨p,L.trans V,e2,C,by dsimp only;omega,B.lim,e4,λR A z=>B.fin R (W R A z).1 (W R A z).2⟩ (by dsimp only;omega)).qb
         ·obtain⟨l,ap,d11,N⟩:∃m q e,partition RX d7 f b1 x=(m,q,e):=⟨_,_,_,O⟩;have pW:=zd6 me f b1 x U j C ω;rw[N] at pW;dsimp only at pW;obtain⟨e1,e2,e3,e4,W,e6,e7⟩:=round_part ZR (partition_holds _) U j ω B.bel N;refine PS<|RK O<|Qq O<|Qj zi0 O (pW) ?_;rintro _ a2⟨rfl,p,V⟩;refine Q4 O<|Tr O<|Tq O<|RZ O<|Sb O<|Qq O<|SA O<|Qq O<|SA O<|Tq O<|Sb O ?_;rw[show(l:Int)-(f:Int)=((l-f:Nat):Int) by omega,show(b1:Int)-(l:Int)=((b1-l:Nat):Int) by omega];refine Q4 O<|qV (Yx O O ω)<|Sb O<|Qq O<|RT O<|PR<|Qa O (λh7=>?_)<|λh7=>?_
          ·refine RK O (UL O (Sb O (Qq O (Qq O (Qj zcJ O (eC _ _ p f l v ω e1 ω B.lim e4) ?_)))));rintro _ a3⟨rfl,d12,tK,tL,kj,P⟩;obtain⟨f1,f2⟩:=e6 _ tL kj;refine PR<|Sv O<|Ra O<|Qe O<|PN ?_;exact(ih (l+1,b1,v,decide (((b1-f:Nat):Int) / 8<=((l-f:Nat):Int)),ap,d12) _ ⟨tK,(L.trans V).trans P,by dsimp only;omega,C,by dsimp only;omega,B.lim,f1,λR A z=>B.fin R (f2 R A z).1 (f2 R A z).2⟩ (by dsimp only;omega)).qb
          ·refine RK O<|UL O<|Sb O<|Qq O<|Ra O<|Qq O ?_;rw[show(l:Int)+1=((l+1:Nat):Int) by omega];refine Qj zcJ O (eC _ _ p (l+1) b1 v ω ω C B.lim W) ?_;rintro _ a3⟨rfl,d12,tK,tL,kj,P⟩;obtain⟨f1,f2⟩:=e7 _ tL kj;refine PR<|Sv O<|Qe O<|PN ?_;exact(ih (f,l,v,decide (((b1-f:Nat):Int) / 8<=((b1-l:Nat):Int)),ap,d12) _ ⟨tK,(L.trans V).trans P,e1,by dsimp only;omega,by dsimp only;omega,B.lim,f1,λR A z=>B.fin R (f2 R A z).1 (f2 R A z).2⟩ (by dsimp only;omega)).qb
        case th=>
         rcases y0D f with hj|hj
         ·refine Sq (λw'=>Ext J w') O<|Ql 0 O O hg<|PV 1 O (Zq O O) hg<|Vm<|Ql 2 O O hg<|qJ 3 O hg<|qJ 4 O hg<|qJ 5 O hg<|qJ 6 O hg<|qJ 7 O hg<|qJ 8 O hg<|qJ 9 O hg<|qJ 10 O hg<|qJ 11 O hg ?_;refine qJ 12 O hg<|qJ 13 O hg<|PV 14 O (VF O O) hg<|qE ?_;exact(tf _ _ ⟨false,O,O,λe=>by cases e⟩).qb
         ·refine Sq (λw'=>Ext J w') O (Ql 0 O O hg (PV 1 O (Zq O O) hg (Vn (Ql 2 O O hg (Ql 3 O O hg (Ql 4 O O hg (PV 5 O (YS O O ω) hg (Ql 8 O O hg (Ql 9 O O hg (PV 10 O (Rk QG Qn O O ω) hg ?_))))))))));rw[show(f:Int)-1=((f-1:Nat):Int) by omega];refine PV 6 O (Rk QG Qn O O ω) hg (qT 7 O (λ_ h=>QH RO O O ((H.ext h).get (i:=f-1) ω)) hg (qT 11 O (λ_ h=>QH RO O O ((H.ext h).get (i:=x) ω)) hg (TQ 12 O Xs O (Tc _ _ _) ?_)));rintro _ a0⟨rfl,rfl⟩;refine⟨hg,?_⟩;refine PV 13 O (zaT O) hg<|PV 14 O (WA O O) hg<|qE ?_;exact(tf _ _ ⟨decide (¬d7[f-1]!<d7[x]!),O,O,λe=>⟨hj,by simpa[RX] using e⟩⟩).qb
       case nI=>
        refine Ru O (λh4=>?_)<|λh4=>?_
        ·obtain⟨A,z⟩:=partialInsertionSort_holds ZR d7 f b1 ω ω D.bel;refine RK O (Q4 O (Qj zj5 O (zcz D.arr f b1 ω C hn) ?_));rintro _ J⟨rfl,H,aM⟩;refine PR<|Ru O (λh5=>?_)<|λh5=>?_
         ·have r3:=z h5;rw[z9o d7 f b1 ω] at r3;dsimp only at r3;obtain⟨S,T⟩:=D.fin _ (permIn_refl _ _ _) r3;refine PQ func245 O ?_;exact⟨_,O,O,d7,H,S,T,D.kp.trans aM⟩
         ·refine PS ?_;exact(eT _ _ ⟨O,D.perm H aM (permIn_refl _ _ _) D.lim⟩).qb
        ·refine PS ?_;exact(eT _ _ ⟨O,D⟩).qb
      case kr =>
       cases E with
       | false =>
         refine PY O<|Qq O<|qS<|R0 O<|Q4 O<|Sc<|R0 O<|PR ?_
         exact(bI _ _ ⟨false,O,O⟩).qb
       | true =>
         cases G with
         | false =>
           refine PY O<|Qq O<|Q4 O<|Sh O<|Q4 O<|Sc<|R0 O<|PR ?_
           exact(bI _ _ ⟨false,O,O⟩).qb
         | true =>
           refine PY O<|Qq O<|Q4 O<|Sh O<|Qq O<|Ss O<|Sh O<|PR ?_;exact(bI _ _ ⟨decide ((t7:Int)=1),O,O⟩).qb
     case dO=>
      refine Qa O (λh3=>?_)<|λh3=>?_
      ·refine RK O (Q4 O (Qj zj4 O (z5D pM f b1 ω C ω) ?_));rintro _ w7⟨rfl,BB,ay⟩;refine qM O<|Q4 O<|SA O<|Qq O<|SA O<|SA O<|Qe O<|PY O<|Qe O ?_;rw[show(b1:Int)-1-((Z:Int)-(f:Int))=((b1-1-(Z-f):Nat):Int) by omega];exact(av _ _ ⟨reverseRange d5 f b1,b1-1-(Z-f),1,O,pT.perm BB ay (reverseRange_holds _ _ _ c ω) rS,ω,ω⟩).qb
      ·refine PS ?_;exact(av _ _ ⟨d5,Z,t6,O,pT,KW,tJ⟩).qb
    case ge=>
     refine Ru O (λh2=>?_)<|λh2=>?_
     ·refine RK O (Q4 O (Qj zjy O (zcj hI.arr f b1 ω C hn) ?_));rintro _ t⟨rfl,d5,gX,K,M⟩;refine PR<|Sv O<|SA O<|Qe O ?_;rw[show(Y:Int)-1=((Y-1:Nat):Int) by omega];exact(cF _ _ ⟨Y-1,d5,O,hI.perm K M gX ω⟩).qb
     ·refine PS ?_;exact(cF _ _ ⟨Y,d1,O,hI⟩).qb
def z9x (g n cap:Nat)(k:n<50):∀m,zfg g n cap m
 |0=>λw d h a b e f=>absurd f (y2x _)
 |m+1=>λw d h a b e f q l o hB=>zbF (z9x g n cap k m) h a b e ω q l k o hB
open Go.Sort in
theorem zbn {v:Value}{l:List Nat}(h:Sl w v 42 1 l.length (l.map QL))(n:l≠[])(C:l.length<50):
  Qx prog 233 [v] w λu w'=>u= .tuple #[]/\Kp (λk=>v.ownBlock=some k) w w'/\∃l':List Nat,l'.Perm l/\l'.Pairwise (·<=·)/\Sl w' v 42 1 l'.length (l'.map QL):=by
 obtain⟨g,cap,rfl⟩:∃g c,v= .slice (some ⟨g,0,none⟩) l.length c:=by
  rcases h.shape with⟨-,G⟩|⟨g,c,e,H⟩
  ·exact absurd (y0w ω) n
  ·exact⟨g,c,e⟩
 have q:TN w g l.length cap l.toArray:=⟨by simpa using h,ξ⟩
 have E:R6 l.length<=6:=Sm ω
 refine py (e:=[(0,_)]) func233 O ntmps233 O O<|Qz O<|SS QG O<|Qe O<|PY O<|Qq O<|Q4 O<|qV (Rz O U3 zgR ω)<|Qj zfY O (z99 l.length ω w) ?_
 rintro _ w⟨rfl,rfl⟩
 refine Qj zcJ O (z9x g l.length cap C (l.length+1) w l.toArray q 0 l.length (R6 l.length) ω ω (y04 _) ω (.inl O)) ?_
 rintro _ w1⟨rfl,d,m,z,x,B⟩
 refine PR<|Rj func233 O ?_
 have f:=m.size
 have D:d.toList.Perm l:=by
  have:=z.2.2;rw[Array.toList_extract,Array.toList_extract] at this;have o:(d.toList.take l.length).Perm (l.take l.length):=by simpa using this
  rwa [y0z (by rw[y2w,f];exact y04 _),y0L] at o
 refine⟨_,O,O,B.PZ (λk e=>by rw[e];rfl),d.toList,D,?_,?_⟩
 ·rw[y1C];intro i j hi A r;rw[y2w] at hi A;have:=x i j (y03 _) r ω;rw[getElem!_pos d i ω,getElem!_pos d j ω] at this;simp only[RX,decide_eq_false_iff_not] at this;rw[Array.getElem_toList,Array.getElem_toList];omega
 ·have e:d.toList.length=l.length:=by rw[y2w,f]
  rw[e];exact m.sl
structure NuI (w w1:World)(p:Te)(b5 n11:Nat)(L:List (Cd×Nat))(w':World):Prop where
 ex:∃F,z68 w' n11 L F/\∀k,F k->w1.heap.size<=k
 ext:Ext w w'
 b5:Q8 w' b5 (lpC p) 276
 siz:w1.heap.size<=w'.heap.size
theorem NuI.put (h:NuI w w1 p b5 n11 L w2)(l:∀k,F k->w1.heap.size<=k)(r:b5<w1.heap.size)(q:w.heap.size<=w1.heap.size)
  (g:∃d,z68 w3 n11 L' d/\Kp F w2 w3/\∀k,d k->F k\/w2.heap.size<=k):NuI w w1 p b5 n11 L' w3:=by
 obtain⟨d,n,f,o⟩:=g
 have u:=h.siz
 refine⟨⟨d,n,λk m=>?_⟩,h.ext.An f (λk m=>by have:=l k m;omega),f.PO h.b5 (λe=>by have:=l b5 e;omega),by have:=f.size;omega⟩
 rcases o k m with e| e
 ·exact l k e
 ·omega
structure NuX (w w1 w2:World)(p:Te)(b5 n11:Nat)(X:Nat->Prop)(L:List (Cd×Nat))(w3:World):Prop where
 ex:∃F,z68 w3 n11 L F/\(∀k,F k->w1.heap.size<=k)/\∀k,F k->¬X k
 ext:Ext w w3
 b5:Q8 w3 b5 (lpC p) 276
 siz:w1.heap.size<=w3.heap.size
 kx:Kp (λk=>¬X k) w2 w3
theorem NuX.put (h:NuX w w1 w2 p b5 n11 X L w3)(u:∀k,X k->k<w2.heap.size)(m:∀k,F k->w1.heap.size<=k)(q:∀k,F k->¬X k)(x:b5<w1.heap.size)(v:w.heap.size<=w1.heap.size)
  (g:∃f,z68 w4 n11 L' f/\Kp F w3 w4/\∀k,f k->F k\/w3.heap.size<=k):NuX w w1 w2 p b5 n11 X L' w4:=by
 obtain⟨f,r,l,o⟩:=g
 have z:=h.siz
 have A:=h.kx.size
 refine⟨⟨f,r,λk d=>?_,λk d n=>?_⟩,h.ext.An l (λk d=>by have:=m k d;omega),l.PO h.b5 (λe=>by have:=m b5 e;omega),by have:=l.size;omega,h.kx.trans (l.PZ q)⟩
 ·rcases o k d with e| e
  ·exact m k e
  ·omega
 ·rcases o k d with e| e
  ·exact q k e n
  ·have:=u k n;omega
theorem Uq:∀(l:List Nat)(k:Nat),(RA k l).length=l.length
 |[],_=>rfl
 |_::l,k=>by rw[RA,y02,y02,Uq l]
theorem ZA:∀(l:List Nat)(k n:Nat),RA k (l++[n])=RA k l++[(.gamma,n-min (k+l.length) 1)]
 |[],k,n=>rfl
 | m :: l, k, n => by
   rw[y0s,RA,ZA l (k+1) n,RA,y0s,y02,show k+1+l.length=k+(l.length+1) by omega]
def z2o:∀{l:List Nat},(∀n∈l,1<=n)->l.length<=l.sum
 |[],_=>y04 _
 | x :: l, h => by
   have e:=h x y0r;have f:=z2o (λn d=>h n (y0u x d));rw[y02,y0M];omega
theorem UK.z2p (h:UK rs fs):rs.length<=fs.length+1:=by
 have e:=TV true rs
 rw[h.exp] at e
 cases rs with
 |nil=>simp
 | cons a f =>
   have k:=z2o (l:=f) (λn d=>h.pos n d);rw[y0M] at e;rw[y02];omega
def Zf:∀l:List Nat,(R7 0 l).1=[]
 |[]=>by rw[R7]
 | x :: l => by
   rw[R7,if_neg ω];exact Zf (l.drop (R3 x l))
 termination_by l=>l.length
 decreasing_by simp[y08];omega
def ZZ (l:List (Nat×Nat)):Option Nat:=l.getLast?.map λp=>p.1+p.2-1
theorem ZU (x least:Nat):∀(l:List (Nat×Nat)) (e:Option Nat) (p:Nat×Nat),QY x least e (l++[p])=QY x least e l++QY x least (match l with|[]=>e|_=>ZZ l) [p]
 |[],e,p=>by cases e<;>rfl
 | q :: l, e, p => by
   rw[y0s,SX,SX,ZU x least l _ p]
   cases l with
   |nil=>rfl
   |cons d l=>rfl
theorem z3o (x least:Nat)(l:List (Nat×Nat))(p:Nat×Nat):QY x least none (l++[p])=QY x least none l++[(.gamma,W1 x (ZZ l) p.1),(.gamma,p.2-least)]:=by
 rw[ZU]
 cases l with
 |nil=>rfl
 |cons q l=>rw[SX x least (match q::l with|[]=>none|_=>ZZ (q::l))];rfl
theorem zdo {off n:Nat}{q:Nat×Nat}(h:Rd w (.slice (some ⟨b,off,none⟩) n cap) 2 n (R.flatMap z3n))(l:R[i]? =some q):∀j u,[I (q.1:Int),I (q.2:Int)][j]? =some u->w.cell? ⟨b,off+i*2+j,none⟩=some u:=by
 intro j u k
 have hi:=(y0l.1 l).1
 rcases h.2 with⟨c,f,x⟩|⟨v,m,d,e,f⟩
 ·have:=h.1;rw[zal] at this;omega
 ·cases e
  have r:(R.flatMap z3n)[i*2+j]? =some u:=by
   have z:j<2:=(y0l.1 k).1
   have key:∀(R:List (Nat×Nat)) (i:Nat),R[i]? =some q->(R.flatMap z3n)[i*2+j]? =some u:=by
    intro R
    induction R with
    |nil=>intro i h;simp at h
    | cons a R o =>
      intro i h;rw[y0V]
      cases i with
      | zero =>
        rw[y1v] at h;cases h;rw[y0K (by show _<2;omega),y1k,y0k]
        exact k
      | succ i =>
        rw[y0X (by show 2<=_;omega),show(i+1)*2+j-(z3n a).length=i*2+j by show(i+1)*2+j-2=_;omega];exact o i h
   exact key R i l
  have:=f (i*2+j) u r;rw[show off+i*2+j=off+(i*2+j) by omega];exact this
theorem NuX.ex2 (h:NuX w w1 w2 p b5 n11 X L w3)(d:Ext w3 w4):NuX w w1 w2 p b5 n11 X L w4:=by
 obtain⟨⟨F,e,f,k⟩,l,m,o,n⟩:=h
 exact⟨⟨F,e.ext d,f,k⟩,l.trans d,d.PO m,by have:=d.size;omega,n.trans d.kp⟩
theorem NuX.back (h:NuX w w1 w2 p b5 n11 X L w3)(l:NuX w w1 w3 p b5 n11 X' L' w4)(f:∀k,X k->X' k):NuX w w1 w2 p b5 n11 X L' w4:=by
 obtain⟨⟨F,m,n,o⟩,q,r,u,v⟩:=l
 exact⟨⟨F,m,n,λk d e=>o k d (f k e)⟩,q,r,u,h.kx.trans (v.PZ λk d e=>d (f k e))⟩
def NuX.again (h:NuX w w1 w2 p b5 n11 X L w3)(d:z68 w3 n11 L F)(e:∀k,F k->w1.heap.size<=k)(f:∀k,F k->¬X' k):NuX w w1 w3 p b5 n11 X' L w3:=
 ⟨⟨F,d,e,f⟩,h.ext,h.b5,h.siz,Kp.refl _ _⟩
theorem Tz (x least:Nat):∀(l:List (Nat×Nat)) (e:Option Nat),(QY x least e l).length=2*l.length
 |[],e=>by cases e<;>rfl
 |q::l,e=>by rw[SX,y02,y02,Tz x least l,y02];omega
theorem z0w {least:Nat}:∀(R:List (Nat×Nat)) (lo i:Nat) (q:Nat×Nat),Uc least lo R->R[i]? =some q->1<=q.2/\least<=q.2/\(∀z,ZZ (R.take i)=some z->z+2<=q.1)/\(ZZ (R.take i)=none->lo<=q.1)
 |[],lo,i,q,h,hq=>by simp at hq
 | p :: R, lo, 0, q, h, hq => by
   rw[y1v] at hq;cases hq
   exact⟨h.2.1,h.2.2.1,(λz d=>by cases d),λ_=>h.1⟩
 | p :: R, lo, i + 1, q, h, hq => by
   rw[y1L] at hq;obtain⟨k,m,n,o⟩:=z0w R _ i q h.2.2.2 hq;have r:1<=p.2:=h.2.1;refine⟨k,m,λz d=>?_,λd=>?_⟩
   ·rw[y3i] at d
    cases f:R.take i with
    | nil =>
      rw[f] at d;have e:p.1+p.2-1=z:=SJ d;have:=o (by rw[f];rfl)
      omega
    | cons a l =>
      rw[f] at d;exact n z (by rw[f];exact d)
   ·rw[y3i] at d;exfalso;unfold ZZ at d;rw[Option.map_eq_none_iff,List.getLast?_eq_none_iff] at d;cases d
theorem zbo (l:List (Nat×Nat))(q:Nat×Nat):ZZ (l++[q])=some (q.1+q.2-1):=by simp[ZZ]
def zdx {l:List Nat}{q:Nat×Nat}(e:∀y∈l,y<65536)(f:q∈(R7 least l).1)(h:1<=q.2):q.1+q.2<=65536:=by
 have d:q.1+(q.2-1)∈S7 (R7 least l).1:=by
  unfold S7;exact List.mem_flatMap.2 ⟨q,f,y0g.2 ⟨q.2-1,y0Q.2 ω,O⟩⟩
 have:=e _ ((UP least l).subset (y1X _ d))
 omega
def zcU (x:Nat):Option Nat->Nat->Nat
 |none,v=>zig ((v:Int)-x)
 |some u,v=>v-u-1
theorem TU (x k:Nat)(e:Option Nat)(v:Nat)(r:List Nat):QZ x k e (v::r)=(.zeta k,zcU x e v)::QZ x k (some v) r:=by
 cases e<;>rfl
theorem z04 (x k:Nat):∀(l:List Nat)(e:Option Nat) (v:Nat),QZ x k e (l++[v])=QZ x k e l++QZ x k (match l with|[]=>e|_=>l.getLast?) [v]
 |[],e,v=>by cases e<;>rfl
 | u :: l, e, v => by
   rw[y0s,TU,TU,z04 x k l _ v]
   cases l with
   |nil=>rfl
   |cons d l=>rfl
theorem YM (x k:Nat)(l:List Nat)(v:Nat):QZ x k none (l++[v])=QZ x k none l++[(.zeta k,zcU x l.getLast? v)]:=by
 rw[z04]
 cases l with
 |nil=>rfl
 |cons u l=>rw[TU x k (match u::l with|[]=>none|_=>(u::l).getLast?)];cases (u::l).getLast?<;>rfl
theorem UA (x k:Nat):∀(l:List Nat)(e:Option Nat),(QZ x k e l).length=l.length
 |[],e=>by cases e<;>rfl
 |v::l,e=>by rw[TU,y02,UA x k l,y02]
theorem R4 {α:Type}{l:List α}{q:α}(h:l[i]? =some q):l.take (i+1)=l.take i++[q]:=by
 rw[List.take_succ,h];rfl
theorem Zz (p:Te)(hp:p.RN)(x:Nat)(hx:x<65536){rc:Nat}(succ ref:List Nat)(hs:QR succ)(hr:QR ref)(r:Nat)(jl:r<=p.Qt)(je:r=0->ref=[])
  (hG:Q8 w 1 (Tu .gamma) 314) (hU:Q8 w 2 (Tu .unary) 314) (eM:Rd w (.slice sa succ.length sc) 1 succ.length (succ.map QL)) (mg:Rd w (.slice ra ref.length rc) 1 ref.length (ref.map QL)) (g7:succ.length<=sc) (nJ:ref.length<=rc):
  Qx prog 199 [lpV p,I (x:Int),.slice sa succ.length sc,.slice ra ref.length rc,I (r:Int)] w λu w'=>Sl w' u 316 3 (SM p x succ ref r).length ((SM p x succ ref r).flatMap z7l)/\(∀g,u.ownBlock=some g->w.heap.size<=g)/\Ext w w':=by
 obtain⟨g1,g2,g3,g4⟩:=id hp
 have ia:=hs.len
 have io:=hr.len
 refine py (e:=[(0,_),(1,_),(2,_),(3,_),(4,_)]) func199 O ntmps199 O O<|qN O<|PX O O (Sy O (cs:=lpC p) O) ?_
 rintro _ w1⟨b5,rfl,gj,ad,aG⟩
 have z1:=ad.size
 have l5:=aG.lt
 refine Sb O<|qV (QB (news:=[.int .u8 1,Qi 0]) Td O S3 O ((ad.PO hG).cells (n:=2) O) O)<|Q4 O<|SS QG O<|qV (Rz O U3 SK ω)<|qV (To (cs:=[_,_,_]) WV O zfv O O)<|PX O O (YI (cs:=[_,_,_]) (zs:=[Value.int .u8 0,Value.int .u64 0,Value.int .u64 0]) z2y WV O y00 O O O ψ) ?_
 rintro _ w2⟨b2,rfl,⟨bR,ae,ak⟩,da⟩
 have z2:=ae.size
 have l2:=ak.lt
 refine PX O O (SE (cs:=[_]) zd3 O) ?_
 rintro _ w3⟨n11,rfl,jg,aj,aZ⟩
 have z3:=aj.size
 refine Qc O (S0 zd3 O O O aZ ξ) ?_
 rintro w4⟨lI,aq⟩
 have z4:=aq.size
 replace lI:Q8 w4 n11 [.slice (some ⟨b2,0,none⟩) 1 1] 311:=lI
 have eK:=(da.ext aj).kp aq (λg hg e=>by have f:b2=g:=SJ hg;omega)
 have wK:NuI w w1 p b5 n11 [(.gamma,succ.length)] w4:=⟨⟨fpW n11 (.slice (some ⟨b2,0,none⟩) 1 1),⟨_,⟨lI,eK,λe=>by have f:b2=n11:=SJ e;omega⟩,λ_=>y0R⟩,λk d=>by
   rcases d with e| e
   ·omega
   ·have f:b2=k:=SJ e
    omega⟩,((ad.trans ae).trans aj).An aq (λk e=>ω),aq.PO (aj.PO (ae.PO aG)) ω,ω⟩
 refine PR<|QV O<|SS QG O<|Ss O<|PR<|Qa O (λe0=>?_)<|λe0=>?_
 ·have fi:succ=[]:=y0w ω;subst fi;refine qN O<|qV (Q0 z2y O O lI O)<|Qe O<|PQ func199 O ?_;have mf:SM p x [] ref r=[(.gamma,0)]:=by simp[SM]
  rw[mf];exact⟨_,O,eK,λg hg=>by have f:b2=g:=SJ hg;omega,wK.ext⟩
 ·have ib := wK.b5; replace ib : Q8 w4 b5 [I (p.Qt : Int), I (p.interval : Int), I (p.zeta : Int)] 276 := ib; refine PS (qN O (qV (ymf (first := []) (caps := [.tmp 11]) O O) (Qe O (It (qN O (Qf UG O (qV (Q0 U3 O O ib O) (RR O (PR (QT (λT w' => T = [(1, I (x : Int)), (2, .slice sa succ.length sc), (3, .slice ra ref.length rc), (4, I (r : Int)), (5, ptr b5 0), (11, ptr n11 0), (12, .func (.func 220) #[] #[ptr n11 0])] /\ NuI w w1 p b5 n11 ([(.gamma, succ.length)] ++ (if 0 < p.Qt then [(.unary, r)] else [])) w') ?bF (λbF => ?du)))))))))))
  case bF =>
   rintro T w5⟨rfl,tM⟩;have Db:=tM.siz;refine qN O (PX O O (YI (cs:=[_]) (zs:=[Value.int .i64 0]) SF R8 O y00 O O O ψ) ?_);rintro _ w6⟨C,rfl,⟨Dd,aR,ep⟩,nK⟩;have l6:=ep.lt;refine PX O O (SE (cs:=[_]) z8o O) ?_;rintro _ w7⟨rn,rfl,KZ,cj,xN⟩;have l7:=xN.lt;have z7:=cj.size;refine PX O O (SE (cs:=[_]) VB O) ?_;rintro _ w8⟨lf,rfl,L0,cE,xO⟩;have l8:=xO.lt;have z8:=cE.size;refine Qc O (S0 z8o O O O (cE.PO xN) ξ) ?_;rintro w9⟨nL,aM⟩;have z9:=aM.size;replace nL:Q8 w9 rn [.slice (some ⟨C,0,none⟩) 1 1] 37:=nL;refine Qc O (S0 VB O O O (aM.PO xO ω) ξ) ?_;rintro J⟨ku,aB⟩;have ai:=aB.size;replace ku:Q8 J lf [.slice none 0 0] 40:=ku;have gC:Ext w5 J:=(((aR.trans cj).trans cE).An aM (λk e=>ω)).An aB (λk e=>ω)
   have pX:NuI w w1 p b5 n11 ([(.gamma,succ.length)]++(if 0<p.Qt then [(.unary,r)] else [])) J:=by
    obtain⟨⟨F,f,h2⟩,h3,h4,h5⟩:=tM;exact⟨⟨F,f.ext gC,h2⟩,h3.trans gC,gC.PO h4,by have:=gC.size;omega⟩
   have ck:=(((nK.ext cj).ext cE).kp aM (λg hg e=>by have f:C=g:=SJ hg;omega)).kp aB (λg hg e=>by have f:C=g:=SJ hg;omega);have L3:z4U J lf [] (fpW lf (.slice none 0 0)):=⟨_,⟨ku,Sl.nil _ _ _,λe=>by cases e⟩,λ_=>y0R⟩;have L4:z3i J rn [0] (fpW rn (.slice (some ⟨C,0,none⟩) 1 1)):=⟨_,⟨aB.PO nL ω,ck,λe=>by have f:C=rn:=SJ e;omega⟩,λ_=>y0R⟩
   have mh:∀k,fpW lf (.slice none 0 0) k->k=lf:=λk d=>by
    rcases d with e| e
    ·exact e
    ·cases e
   have lC:∀k,fpW rn (.slice (some ⟨C,0,none⟩) 1 1) k->k=rn\/k=C:=λk d=>by
    rcases d with e| e
    ·exact .inl e
    ·exact .inr (SJ e).symm
   have cU:∀k,fpW lf (.slice none 0 0) k\/fpW rn (.slice (some ⟨C,0,none⟩) 1 1) k->w5.heap.size<=k:=λk d=>by
    rcases d with e| e
    ·have:=mh k e;omega
    ·rcases lC k e with e|e<;>omega
   have hE:Vq J succ ref lf rn (fpW lf (.slice none 0 0)) (fpW rn (.slice (some ⟨C,0,none⟩) 1 1)) succ sa sc ref ra rc [] [0] J:=by
    refine⟨⟨_,_,[],L3,L4,UK.zero,by simpa using io,by simp;omega,λk h=> .inl h,λk h=> .inl h,λk f h2=>?_⟩,λw2 k=>?_,λw2 k=>?_,g7,nJ,Kp.refl _ _,hs,hr,rfl,rfl,by simpa using ia⟩
    ·have e1:=mh k f;rcases lC k h2 with G|G<;>omega
    ·exact(eM.ext pX.ext).kpz k (λh0 g hg W=>by have e1:=eM.ltz ψ h0 hg;have G:=cU g W;omega)
    ·exact(mg.ext pX.ext).kpz k (λh0 g hg W=>by have e1:=mg.ltz ψ h0 hg;have G:=cU g W;omega)
   refine qM O<|Qq O<|qV (ymf (first:=[]) (caps:=[.tmp 14,.tmp 13]) O O)<|Qj zhE O (zcn hE) ?_;rintro _ M⟨rfl,FL,FR,xP,pY,De,Df,m8,bB⟩
   have pZ:NuI w w1 p b5 n11 ([(.gamma,succ.length)]++(if 0<p.Qt then [(.unary,r)] else [])) M:=by
    have aX:Kp (λk=>fpW lf (.slice none 0 0) k\/fpW rn (.slice (some ⟨C,0,none⟩) 1 1) k) J M:=bB;have Dg:=tM.ex;obtain⟨⟨F,f,h2⟩,h3,h4,h5⟩:=pX;obtain⟨F5,h6,h7⟩:=Dg;have gj:b5<w5.heap.size:=tM.b5.lt;refine⟨⟨F5,(h6.ext gC).kp aX (λk d W=>by have e1:=h6.lt d;have G:=cU k W;omega),h7⟩,h3.An aX (λk d=>by have G:=cU k d;have:=tM.ext.size;omega),aX.PO h4 (λW=>by have G:=cU b5 W;omega),by have:=aX.size;omega⟩
   generalize hA:([(Cd.gamma,succ.length)]++(if 0<p.Qt then [(Cd.unary,r)] else []):List (Cd×Nat))=A at pZ pX tM
   have L5:A.length<=2:=by rw[<-hA];split<;>simp
   have xQ:∀k,(FL k\/FR k)->k<M.heap.size:=λk d=>by
    rcases d with e| e
    ·exact xP.lt e
    ·exact pY.lt e
   have q9:NuX w w1 M p b5 n11 (λk=>FL k\/FR k) A M:=by
    obtain⟨F5,h6,h7⟩:=tM.ex;have OP:=gC.size;refine⟨⟨F5,(h6.ext gC).kp bB (λk d W=>by have e1:=h6.lt d;have G:=cU k W;omega),h7,λk d D=>?_⟩,pZ.ext,pZ.b5,pZ.siz,Kp.refl _ _⟩;have e1:=h6.lt d;rcases D with e| e
    ·rcases De k e with G|G
     ·have:=cU k (.inl G);omega
     ·omega
    ·rcases Df k e with G|G
     ·have:=cU k (.inr G);omega
     ·omega
   refine PR<|QV O<|RR O<|PR<|QT (λT w'=>T=[(1,I (x:Int)),(5,ptr b5 0),(11,ptr n11 0),(12,.func (.func 220) #[] #[ptr n11 0]),(14,ptr lf 0)]/\NuX w w1 M p b5 n11 (λk=>FL k\/FR k) (A++(if 0<r then(.gamma,(Sr succ ref).length-1)::RA 0 (Sr succ ref).dropLast else [])) w') ?cF<|λcF=>?ge
   case cF =>
    rintro T b⟨rfl,jm⟩;have jn:succ≠[]:=λe=>e0 (by rw[e];rfl)
    generalize hB:(if 0<r then(Cd.gamma,(Sr succ ref).length-1)::RA 0 (Sr succ ref).dropLast else []:List (Cd×Nat))=B at jm
    have xR:=xP.kp jm.kx (λk d e=>e (.inl d));obtain⟨vl,wL,OQ⟩:=xR;obtain⟨la,lc,rfl,-⟩:=wL.sl.rd.shape;obtain⟨F,⟨vn,rU,xS⟩,qa,Dh⟩:=id jm.ex;have Ix:=wL.PO;have Di:=rU.PO;refine It<|qN O<|qV (Q0 QG O O Ix O)<|SS QG O<|Ss O<|PR<|Qa O (λe3=>?_)<|λe3=>?_
    ·have iz:Qv succ ref=[]:=y0w ω
     have er:SM p x succ ref r=A++B:=by
      unfold SM;rw[if_neg jn,if_pos iz,y0o,<-hA,<-hB];rfl
     refine qN O<|qV (Q0 z2y O O Di O)<|Qe O<|PQ func199 O ?_;rw[er];exact⟨_,O,rU.sl,λg hg=>by have:=qa g ((xS g).2 (.inr hg));omega,jm.ext⟩
    ·have rV := jm.b5; replace rV : Q8 b b5 [I (p.Qt : Int), I (p.interval : Int), I (p.zeta : Int)] 276 := rV; refine PS (qN O (qV (Q0 QG O O Ix O) (Qf Vv O (qV (Q0 U3 O O rV O) ?_)))); have ax : QR (Qv succ ref) := hs.sub y1T; have L6 := ax.len
     have pi:(Qv succ ref).length<=lc:=by
      rcases wL.sl.shape with⟨-,h0⟩|⟨g,c1,hv,gW⟩
      ·omega
      ·cases hv;exact gW
     refine Qj zkN O (zd7 la lc (Qv succ ref) p.interval ax pi ω b wL.sl.rd) ?_;rintro _ N⟨v4,Z,rfl,mj,nM,aV,qc,tN,Iy⟩;have dN:=VN p.interval (Qv succ ref);have qd:QR (R7 p.interval (Qv succ ref)).2:=ax.sub dN
     have fm:∀k,(v4.ownBlock=some k\/Z.ownBlock=some k)->b.heap.size<=k/\k<N.heap.size:=λk d=>by
      rcases d with e| e
      ·exact⟨qc k e,mj.lt e⟩
      ·exact⟨tN k e,nM.lt e⟩
     have qe:NuX w w1 N p b5 n11 (λk=>v4.ownBlock=some k\/Z.ownBlock=some k) (A++B) N:=by
      have kd:∀k,F k->k<b.heap.size:=λk d=>by
       rcases (xS k).1 d with e| e
       ·rw[e];exact rU.PO.lt
       ·exact rU.sl.lt e
      have xT:z68 b n11 (A++B) F:=⟨vn,rU,xS⟩;exact⟨⟨F,xT.ext aV,qa,λk d D=>by have e1:=kd k d;have G:=(fm k D).1;omega⟩,jm.ext.trans aV,aV.PO jm.b5,by have e1:=jm.siz;have G:=aV.size;omega,Kp.refl _ _⟩
     have xU:=aV.PO rV;have L7:=mj.oneV;have L8:=nM.oneV;refine Q4 O<|Tr O<|Rw O<|It<|qN O<|Qf Vv O<|qV (Q0 U3 O O xU O)<|RR O<|PR ?_
     have L9:(A++B).length<=200000:=by
      rw[y01,<-hB];split
      ·rw[y02,Uq,y2q];have f:=(Uk succ ref).z2p;rw[y0n] at f;omega
      ·simp;omega
     generalize hQ:R7 p.interval (Qv succ ref)=Q at mj nM qd dN
     have OR:Q.1.length<=65536:=by
      have f:=UP p.interval (Qv succ ref);have h2:=f.length_eq;rw[hQ,y01] at h2
      have h3:∀R:List (Nat×Nat),Uc p.interval 0 R->R.length<=(S7 R).length:=by
       have h4:∀(R:List (Nat×Nat)) (lo:Nat),Uc p.interval lo R->R.length<=(S7 R).length:=by
        intro R
        induction R with
        |nil=>intro lo h;exact y04 _
        | cons q R ih =>
          intro lo h;have h5:=ih _ h.2.2.2;have h6:1<=q.2:=h.2.1;rw[show S7 (q::R)=(List.range q.2).map (q.1+·)++S7 R from rfl,y01,y0n,y17,y02];omega
       exact λR h=>h4 R 0 h
      have h5:=h3 _ (Wo p.interval (Qv succ ref) 0 ax.ris (λy _=>y03 _));rw[hQ] at h5;omega
     have qf:Uc p.interval 0 Q.1:=by have h:=Wo p.interval (Qv succ ref) 0 ax.ris (λy _=>y03 _);rwa [hQ] at h
     have tO:∀q∈Q.1,1<=q.2->q.1+q.2<=65536:=λq hq f=>zdx (least:=p.interval) ax.lt (by rw[hQ];exact hq) f
     have xV:∃j K,v4= .slice j Q.1.length K:=by
      obtain⟨j,K,e,-⟩:=mj.rd.shape;exact⟨j,K,e⟩
     obtain⟨j,K,rfl⟩:=xV;refine QT (λT w'=>T=[(1,I (x:Int)),(5,ptr b5 0),(11,ptr n11 0),(12,.func (.func 220) #[] #[ptr n11 0]),(17,.slice j Q.1.length K),(18,Z)]/\NuX w w1 N p b5 n11 (λk=>(Value.slice j Q.1.length K).ownBlock=some k\/Z.ownBlock=some k) (A++B++if 0<p.interval then [(.gamma,Q.1.length)] else []) w') ?av<|λav=>?dO
     case av =>
      rintro T a6⟨rfl,xW⟩;refine RY O<|QV O<|SS zcq O<|Q4 O<|PR<|PT ?_
      generalize Dj:(if 0<p.interval then [(Cd.gamma,Q.1.length)] else []:List (Cd×Nat))=C0 at xW
      refine T3 (λT w'=>T=[(1,I (x:Int)),(5,ptr b5 0),(11,ptr n11 0),(12,.func (.func 220) #[] #[ptr n11 0]),(18,Z)]/\NuX w w1 N p b5 n11 (λk=>(Value.slice j Q.1.length K).ownBlock=some k\/Z.ownBlock=some k) (A++B++C0++QY x p.interval none Q.1) w') ?bI<|λbI=>?kr
      case bI =>
       rintro T a0⟨rfl,t⟩;obtain⟨s,gE,mm,jo⟩:=t.ex;have nN:=t.b5;replace nN:Q8 a0 b5 [I (p.Qt:Int),I (p.interval:Int),I (p.zeta:Int)] 276:=nN;refine qN O (Qf z1D O (qV (Q0 U3 O O nN O) (qV (Rz O U3 SK ω) (qV (To (cs:=[_,_]) S3 O zf6 O O) (PX O O (SE (cs:=[_,_]) S3 O) ?_)))));rintro _ ab⟨E,rfl,La,bh,gF⟩;have af:=bh.size;refine Qc O (QX (news:=[.int .u8 3,Qi p.zeta]) S3 O O O O gF ξ) ?_;rintro o⟨lJ,dP⟩;replace lJ:Q8 o E [.int .u8 3,Qi p.zeta] 314:=lJ;have L:Ext a0 o:=bh.An dP (λk e=>ω);have al:=L.size;have j4:¬s E:=λe=>by have:=gE.lt e;omega
       have iE:=(nM.kp t.kx (λg hg e=>e (.inr hg))).ext L
       obtain⟨ha,hc,e5⟩:∃a c,Z= .slice a Q.2.length c:=by
        obtain⟨j,K,e,-⟩:=nM.rd.shape;exact⟨j,K,e⟩
       subst e5;have mn:=(t.ex2 L).again (X':=λk=>(Value.slice ha Q.2.length hc).ownBlock=some k\/k=E) (gE.ext L) mm (λk d D=>by rcases D with D|e;exact jo k d (.inr D);exact j4 (e▸d));have ah:=lJ.lt
       have pj:∀k,((Value.slice ha Q.2.length hc).ownBlock=some k\/k=E)->k<o.heap.size:=λk d=>by
        rcases d with e| e
        ·have:=iE.lt e;omega
        ·omega
       have xX:=qd.len
       have Lb:(A++B++C0++QY x p.interval none Q.1).length<=400000:=by
        rw[y01,y01,Tz,<-Dj];split<;>simp only[y02,y1g]<;>omega
       refine PR<|QV O<|SS QG O<|Q4 O<|PR<|PT<|SN (α:=Nat) (0) (λi=>[(1,I (x:Int)),(11,ptr n11 0),(12,.func (.func 220) #[] #[ptr n11 0]),(18,.slice ha Q.2.length hc),(22,ptr E 0),(138,.slice ha Q.2.length hc),(139,I (Q.2.length:Int)),(140,I (i:Int))]) (λi w'=>NuX w w1 o p b5 n11 (λk=>(Value.slice ha Q.2.length hc).ownBlock=some k\/k=E) (A++B++C0++QY x p.interval none Q.1++QZ x p.zeta none (Q.2.take i)) w'/\i<=Q.2.length) (λi=>Q.2.length-i) ?hI ?hround
       case hI=>exact⟨by simpa[QZ] using mn,y03 _⟩
       case hround=>
        rintro i S⟨V,hi⟩ ih
        try dsimp only
        refine qN O<|RT O<|PR<|It<|Qa O (λe5=>?_)<|λe5=>?_
        ·have dB:i<Q.2.length:=ω
         obtain⟨v,hv⟩:∃v,Q.2[i]? =some v:=⟨_,y07 dB⟩;have xY:v<65536:=qd.lt v (y0i hv);have iF:=iE.kp V.kx (λg hg e=>e (.inl hg))
         obtain⟨g5,c5,e6⟩:∃g c,Value.slice ha Q.2.length hc= .slice (some ⟨g,0,none⟩) Q.2.length c:=by
          rcases iE.shape with⟨-,h0⟩|⟨g,c,e,hc⟩
          ·omega
          ·exact⟨g,c,e⟩
         cases e6;obtain⟨X,lK,qg,iu⟩:=V.ex;have xZ:=V.kx.PO lJ (λe=>e (.inr O));have rW:¬X E:=λe=>iu E e (.inr O);have hg:=Ext.Qm S;have BC:=V.ex2 hg
         have qh:(A++B++C0++QY x p.interval none Q.1++QZ x p.zeta none (Q.2.take i)).length<=500000:=by
          rw[y01,UA,y0d];omega
         refine PS (RU (Qz O (qV (Rk QG Qn O O ω) (qV (QH RO O O (Rg iF.rd (show(Q.2.map QL)[i]? =some (QL v) by rw[y0m,hv];rfl))) ?_))));refine Tq O<|RZ O<|Ss O<|PR<|Qa O (λe6=>?_)<|λe6=>?_
         ·have P:i=0:=ω
          refine Sq (λw'=>Kp X S w') O (Ql 0 O O hg.kp (Ql 2 O O hg.kp (PV 3 O (QU O RO U2 ω) hg.kp (Ql 4 O O hg.kp (PV 5 O (YS O O ω) hg.kp (qT 1 O (λ_ h=>QB (news:=[.int .u8 3,Qi p.zeta]) Td O S3 O ((h.PO xZ rW).cells (n:=2) O) O) hg.kp (TQ 6 O zfM O (z8X ((v:Int)-x) ω _) ?_)))))));rintro _ a7⟨rfl,rfl⟩;refine⟨hg.kp,?_⟩;have y4:=z0K (z:=(v:Int)-x) (n:=65537) ω ω;refine PV 7 O (QU O SK U3 ω) hg.kp (qO 8 (XH (i:=8) O O O (SQ ZF O O) (UC (lK.ext hg) ω (.zeta p.zeta) (zig ((v:Int)-x)) ω) ?_));rintro _ ac⟨rfl,a3,tP,nO,tQ⟩;refine⟨hg.kp.trans nO,?_⟩;have qi:=BC.put pj qg iu l5 z1 ⟨a3,tP,nO,tQ⟩;refine qE (PN (PY O (Ra O (Q4 O (PR ((ih (i+1) _ ⟨?_,ω⟩ ω).qb))))));rw[R4 hv,YM,<-y06,show Q.2.take i=[] by rw[P];rfl];rw[show Q.2.take i=[] by rw[P];rfl] at qi;exact qi
         ·have P:0<i:=ω
          obtain⟨u,hu⟩:∃u,Q.2[i-1]? =some u:=⟨_,y07 ω⟩
          have OS:u<v:=by
           obtain⟨a1,a2⟩:=y0l.1 hu;obtain⟨b1,b2⟩:=y0l.1 hv;have:=y1C.1 qd.ris (i-1) i a1 b1 ω
           rwa [a2,b2] at this
          refine Sq (λw'=>Kp X S w') O (Ql 0 O O hg.kp (Ql 2 O O hg.kp (Ql 3 O O hg.kp (Ql 4 O O hg.kp (qT 1 O (λ_ h=>QB (news:=[.int .u8 3,Qi p.zeta]) Td O S3 O ((h.PO xZ rW).cells (n:=2) O) O) hg.kp (PV 5 O (YS O O ω) hg.kp ?_))))));rw[show(i:Int)-1=((i-1:Nat):Int) by omega];refine PV 6 O (Rk QG Qn O O ω) hg.kp (qT 7 O (λ_ W=>QH RO O O (Rg (iF.kp W (λg hg e=>iu g e (.inl hg))).rd (show(Q.2.map QL)[i-1]? =some (QL u) by rw[y0m,hu];rfl))) hg.kp ?_);refine PV 8 O (XM (m:=v) (n:=u) O O O (by show v<2^32;omega) ω) hg.kp ?_;refine PV 9 O (XM (m:=v-u) (n:=1) O O O (by show v-u<2^32;omega) ω) hg.kp ?_;refine PV 10 O (QU O RO U3 ω) hg.kp (qO 11 (XH (i:=11) O O O (SQ ZF O O) (UC (lK.ext hg) ω (.zeta p.zeta) (v-u-1) ω) ?_));rintro _ ac⟨rfl,a3,tP,nO,tQ⟩;refine⟨hg.kp.trans nO,?_⟩;have qi:=BC.put pj qg iu l5 z1 ⟨a3,tP,nO,tQ⟩;refine qE (PN (PY O (Ra O (Q4 O (PR ((ih (i+1) _ ⟨?_,ω⟩ ω).qb))))));rw[R4 hv,YM,<-y06,List.getLast?_take,if_neg ω,hu];exact qi
        ·have dp:i=Q.2.length:=ω
         rw[dp,y0L] at V;obtain⟨F,⟨vn,rU,xS⟩,qa,Dh⟩:=id V.ex;have Di:=rU.PO
         have er:SM p x succ ref r=A++B++C0++QY x p.interval none Q.1++QZ x p.zeta none Q.2:=by
          have iz:¬Qv succ ref=[]:=λe=>e3 (by rw[e];rfl);unfold SM;rw[if_neg jn,if_neg iz,hQ,hB,<-hA,<-Dj];by_cases P:0<p.interval
          ·simp only[if_pos P,y06,y0s,y14]
          ·have cf:Q.1=[]:=by rw[<-hQ,show p.interval=0 by omega];exact Zf _
           rw[cf];simp only[if_neg P,y06,y0s,y14,QY]
         refine Q7 O<|qN O<|qV (Q0 z2y O O Di O)<|Qe O<|PQ func199 O ?_;rw[er];exact⟨_,O,rU.sl,λg hg=>by have:=qa g ((xS g).2 (.inr hg));omega,V.ext⟩
      case kr=>
       refine SN (α:=Nat) (0) (λi=>[(1,I (x:Int)),(5,ptr b5 0),(11,ptr n11 0),(12,.func (.func 220) #[] #[ptr n11 0]),(18,Z),(19,I (z8h (ZZ (Q.1.take i)))),(94,.slice j Q.1.length K),(95,I (Q.1.length:Int)),(96,I (i:Int))]) (λi w'=>NuX w w1 N p b5 n11 (λk=>(Value.slice j Q.1.length K).ownBlock=some k\/Z.ownBlock=some k) (A++B++C0++QY x p.interval none (Q.1.take i)) w'/\i<=Q.1.length) (λi=>Q.1.length-i) ?hI ?hround
       case hI=>exact⟨by simpa[QY] using xW,y03 _⟩
       case hround =>
        rintro i a0⟨t,hi⟩ ih
        try dsimp only
        refine qN O<|RT O<|PR<|It<|Qa O (λe5=>?_)<|λe5=>?_
        ·have dB:i<Q.1.length:=ω
         obtain⟨⟨H,Y⟩,hq⟩:∃q,Q.1[i]? =some q:=⟨_,y07 dB⟩;obtain⟨a4,aa,a5,-⟩:=z0w Q.1 0 i (H,Y) qf hq;dsimp only at a4 aa a5;have OT:H+Y<=65536:=tO (H,Y) (y0i hq) a4;have Dk:=mj.kp t.kx (λg hg e=>e (.inl hg))
         obtain⟨g4,c4,e4⟩:∃g c,Value.slice j Q.1.length K= .slice (some ⟨g,0,none⟩) Q.1.length c:=by
          rcases mj.shape with⟨-,h0⟩|⟨g,c,e,hc⟩
          ·omega
          ·exact⟨g,c,e⟩
         cases e4;obtain⟨s,gE,mm,jo⟩:=t.ex;refine PS (RU (qN O (qV (Rk zcq z2s O O ω) (qV (QB (news:=[I (H:Int),I (Y:Int)]) zei O z2s O (zdo Dk.rd hq) O) (PX O O (SE (cs:=[_,_]) z2s O) ?_)))));rintro _ ab⟨U,rfl,Lc,bh,Dl⟩;have af:=bh.size;refine Qc O (QX (news:=[I (H:Int),I (Y:Int)]) z2s O O O O Dl ξ) ?_;rintro o⟨gG,dP⟩;replace gG:Q8 o U [I (H:Int),I (Y:Int)] 348:=gG;have L:Ext a0 o:=bh.An dP (λk e=>ω);have mn:=t.ex2 L;have j4:¬s U:=λe=>by have:=gE.lt e;omega
         have pa:¬s 1:=λe=>by have:=mm 1 e;have:=hG.lt;omega
         have Lb:(A++B++C0++QY x p.interval none (Q.1.take i)).length<=400000:=by
          rw[y01,y01,Tz,y0d,<-Dj];split<;>simp only[y02,y1g]<;>omega
         refine PR<|QV O<|RT O<|PR ?_;have rX:=mn.again (X':=(λk=>((Value.slice (some ⟨g4,0,none⟩) Q.1.length K).ownBlock=some k\/Z.ownBlock=some k)\/k=U)) (gE.ext L) mm (λk d D=>by rcases D with D|e;exact jo k d D;exact j4 (e▸d));have Ld:=L.size;have ag:=gG.lt
         have pj:∀k,(((Value.slice (some ⟨g4,0,none⟩) Q.1.length K).ownBlock=some k\/Z.ownBlock=some k)\/k=U)->k<o.heap.size:=λk d=>by
          rcases d with e| e
          ·have:=(fm k e).2;have:=t.kx.size;omega
          ·omega
         refine QT (λT w'=>T=[(1,I (x:Int)),(5,ptr b5 0),(11,ptr n11 0),(12,.func (.func 220) #[] #[ptr n11 0]),(18,Z),(21,ptr U 0),(94,.slice (some ⟨g4,0,none⟩) Q.1.length K),(95,I (Q.1.length:Int)),(96,I (i:Int))]/\NuX w w1 o p b5 n11 (λk=>((Value.slice (some ⟨g4,0,none⟩) Q.1.length K).ownBlock=some k\/Z.ownBlock=some k)\/k=U) (A++B++C0++QY x p.interval none (Q.1.take i)++[(.gamma,W1 x (ZZ (Q.1.take i)) H)]) w') ?cI<|λcI=>?Do
         case cI=>
          rintro T S⟨rfl,V⟩;obtain⟨X,lK,qg,iu⟩:=V.ex;have y5:=V.kx.PO gG (λe=>e (.inr O));have nP:=V.b5;replace nP:Q8 S b5 [I (p.Qt:Int),I (p.interval:Int),I (p.zeta:Int)] 276:=nP;refine Qz O<|qV (QB (news:=[.int .u8 1,Qi 0]) Td O S3 O ((V.ext.PO hG).cells (n:=2) O) O)<|Qf z94 O<|qV (Q0 U3 O O y5 O)<|Qf Vv O<|qV (Q0 U3 O O nP O)<|SA O ?_;rw[show(Y:Int)-(p.interval:Int)=((Y-p.interval:Nat):Int) by omega];refine S5 O O (SQ ZF O O) (UC lK (by rw[y01,y1u];omega) .gamma (Y-p.interval) ω) ?_;rintro _ a7⟨rfl,Dn⟩;have y6:=V.put pj qg iu l5 z1 Dn;have rY:=y6.kx.PO gG (λe=>e (.inr O));refine PR<|PY O<|Qf z4C O<|qV (Q0 U3 O O rY O)<|Qf z94 O<|qV (Q0 U3 O O rY O)<|Ra O<|SA O<|Qe O<|PN<|PY O<|Ra O<|Q4 O<|PR ?_;rw[show(H:Int)+Y-1=z8h (ZZ (Q.1.take (i+1))) by rw[R4 hq,zbo];show _=((H+Y-1:Nat):Int);omega];refine(ih (i+1) _ ⟨?_,ω⟩ ω).qb;rw[R4 hq,z3o,<-y06,show [(Cd.gamma,W1 x (ZZ (Q.1.take i)) H),(Cd.gamma,Y-p.interval)]=[(Cd.gamma,W1 x (ZZ (Q.1.take i)) H)]++[(Cd.gamma,Y-p.interval)] from rfl,<-y06];exact mn.back y6 (λk d=> .inl d)
         case Do=>
          have hg:=Ext.Qm o;have BC:=rX.ex2 hg
          cases hE:ZZ (Q.1.take i) with
          | none =>
            refine Qa O (λe6=>?_)<|λe6=>?_
            ·refine Sq (λw'=>Kp s o w') O (Ql 0 O O hg.kp (PV 2 O (QE z4C O) hg.kp (qT 3 O (λ_ h=>Q0 U3 O O (h.PO gG j4) O) hg.kp (Ql 4 O O hg.kp (PV 5 O (YS O O ω) hg.kp (qT 1 O (λ_ W=>QB (news:=[.int .u8 1,Qi 0]) Td O S3 O ((W.PO (mn.ext.PO hG) pa).cells (n:=2) O) O) hg.kp (TQ 6 O zfM O (z8X ((H:Int)-x) ω _) ?_)))))));rintro _ S⟨rfl,rfl⟩;refine⟨hg.kp,?_⟩;have y4:=z0K (z:=(H:Int)-x) (n:=65537) ω ω;refine PV 7 O (QU O SK U3 ω) hg.kp (qO 8 (XH (i:=8) O O O (SQ ZF O O) (UC ((gE.ext L).ext hg) ω .gamma (zig ((H:Int)-x)) ω) ?_));rintro _ a7⟨rfl,a9,Dp,y7,Dq⟩;refine⟨hg.kp.trans y7,?_⟩;refine qE ?_;exact(cI _ _ ⟨O,by rw[hE];exact BC.put pj mm (λk d D=>by rcases D with D|e;exact jo k d D;exact j4 (e▸d)) l5 z1 ⟨a9,Dp,y7,Dq⟩⟩).qb
            ·exact absurd ψ e6
          | some z =>
            refine Qa O (λe6=>?_)<|λe6=>?_
            ·exact absurd e6 (by show ¬((z:Int)<0);omega)
            ·have hz:=a5 z hE;refine Sv O<|qV (QB (news:=[.int .u8 1,Qi 0]) Td O S3 O ((mn.ext.PO hG).cells (n:=2) O) O) ?_;rw[show z8h (some z)=(z:Int) from rfl];refine Qf z4C O<|qV (Q0 U3 O O gG O)<|Q4 O<|SA O<|SA O ?_;rw[show(H:Int)-z-2=((H-z-2:Nat):Int) by omega];refine S5 O O (SQ ZF O O) (UC (gE.ext L) ω .gamma (H-z-2) ω) ?_;rintro _ S⟨rfl,Dr⟩;refine PR ?_;exact(cI _ _ ⟨O,by rw[hE];exact rX.put pj mm (λk d D=>by rcases D with D|e;exact jo k d D;exact j4 (e▸d)) l5 z1 Dr⟩).qb
        ·have dp:i=Q.1.length:=ω
         rw[dp,y0L] at t;refine Q7 O ?_;exact(bI _ _ ⟨O,t⟩).qb
     case dO=>
      refine Qa O (λe4=>?_)<|λe4=>?_
      ·have P:0<p.interval:=ω
       obtain⟨a8,nQ,tR,nR⟩:=qe.ex;refine Sv O (qV (QB (news:=[.int .u8 1,Qi 0]) Td O S3 O ((qe.ext.PO hG).cells (n:=2) O) O) (Q4 O (SS zcq O (S5 O O (SQ ZF O O) (UC nQ ω .gamma Q.1.length ω) ?_))));rintro _ a6⟨rfl,tS⟩;refine PR<|QA.qb (e:=[(1,_),(5,_),(11,_),(12,_),(17,_),(18,_)]) ?_;exact(av _ _ ⟨O,by rw[if_pos P];exact qe.put (λk d=>(fm k d).2) tR nR l5 z1 tS⟩).qb
      ·have P:¬0<p.interval:=ω
       refine PS ?_;exact(av _ _ ⟨O,by rw[if_neg P,y0o];exact qe⟩).qb
   case ge =>
    refine Qa O (λG=>?_)<|λG=>?_
    ·have tT : 0 < r := by omega
     have qj:=Uk succ ref;rw[if_pos tT] at cF
     generalize Sr succ ref=rs at qj pY cF
     obtain⟨l,m,rfl⟩:∃l m,rs=l++[m]:=⟨rs.dropLast,rs.getLast qj.ne,(y2p qj.ne).symm⟩;have tU:(l++[m]).length=l.length+1:=ξ
     have fL:l.length<=65537:=by have f:=qj.z2p;rw[y0n,tU] at f;omega
     rw[y2u,tU,y1h] at cF;obtain⟨vr,BD,Iz⟩:=id pY;rw[tU] at BD;rcases BD.sl.shape with⟨-,h0⟩|⟨g,c1,rfl,gW⟩
     ·omega
     have IA:=BD.PO;obtain⟨F,xT,hf,Le⟩:=q9.ex;refine Qz O<|qV (QB (news:=[.int .u8 1,Qi 0]) Td O S3 O ((q9.ext.PO hG).cells (n:=2) O) O)<|qV (Q0 SF O O IA O)<|SS SF O<|SA O ?_;rw[show((l.length+1:Nat):Int)-1=(l.length:Int) by omega];refine S5 O O (SQ ZF O O) (UC xT ω .gamma l.length ω) ?_;rintro _ b⟨rfl,Dt⟩;have iG:=q9.put xQ hf Le l5 z1 Dt;have IB:=pY.kp iG.kx (λk d e=>e (.inr d));have rZ:=iG.kx.PO IA (λe=>e (.inr ((Iz rn).2 (.inl O))));refine qM O<|qV (Q0 SF O O rZ O) ?_;rw[show((l.length+1:Nat):Int)=((l.length+1:Nat):Int) from rfl];refine qV (Q0 SF O O rZ O)<|SS SF O<|SA O ?_;rw[show((l.length+1:Nat):Int)-1=(l.length:Int) by omega];refine qV (zdO SF R8 O O ω)<|SS SF O<|Q4 O<|PR<|QA.qb (e:=[(1,_),(5,_),(11,_),(12,_),(14,_),(60,_),(61,_),(62,_)]) ?_;refine PT<|SN (α:=Nat) (0) (λi=>[(1,I (x:Int)),(5,ptr b5 0),(11,ptr n11 0),(12,.func (.func 220) #[] #[ptr n11 0]),(14,ptr lf 0),(60,.slice (some ⟨g,0,none⟩) l.length c1),(61,I (l.length:Int)),(62,I (i:Int))]) (λi w'=>NuX w w1 M p b5 n11 (λk=>FL k\/FR k) (A++(Cd.gamma,l.length)::RA 0 (l.take i)) w'/\i<=l.length) (λi=>l.length-i) ?hI ?hround
     case hI=>exact⟨iG,y03 _⟩
     case hround =>
      rintro i N⟨mq,hi⟩ ih
      try dsimp only
      refine qN O<|RT O<|PR<|It<|Qa O (λe3=>?_)<|λe3=>?_
      ·have dB:i<l.length:=ω
       obtain⟨a8,nQ,tR,nR⟩:=mq.ex;have Du:=BD.sl.kp mq.kx (λg2 hg e=>e (.inr ((Iz g2).2 (.inr hg))));have i7:(l++[m])[i]? =some l[i]:=by rw[y0K dB,y07 dB]
       have iA:min i 1<=l[i]:=by
        rcases y0D i with e| e
        ·omega
        ·have f:=qj.pos l[i] (by
          rw[y3l];refine⟨i-1,?_⟩
          rw[y1M,show 1+(i-1)=i by omega];exact i7)
         omega
       have iz:l[i]<=65536:=by
        have f:=qj.le l[i] (y1X _ (y1s dB));rw[y0n] at f;omega
       refine PS (RU (Qz O (qV (Rk SF R8 O O ω) (qV (QH U3 O O (Rg Du.rd (show((l++[m]).map z7m)[i]? =some (z7m l[i]) by rw[y0m,i7];rfl))) ?_))));refine Rw O<|Sv O<|qV (QB (news:=[.int .u8 1,Qi 0]) Td O S3 O ((mq.ext.PO hG).cells (n:=2) O) O)<|Qq O<|qV (ymi O O)<|SA O ?_;rw[show(l[i]:Int)-min (i:Int) 1=((l[i]-min i 1:Nat):Int) by omega];refine S5 O O (SQ ZF O O) (UC nQ (by have f:(RA 0 (l.take i)).length=i:=(by rw[Uq,y0d];omega);rw[y01,y02];omega) .gamma (l[i]-min i 1) ω) ?_;rintro _ a6⟨rfl,tS⟩;have Dv:=mq.put xQ tR nR l5 z1 tS;refine PR (PN (PY O (Ra O (Q4 O (PR ((ih (i+1) _ ⟨?_,ω⟩ ω).qb))))));rw[List.take_succ,y07 dB,Option.toList_some,ZA,y0d,y0B hi,y0k,<-y0s,<-y06];exact Dv
      ·have dp:i=l.length:=ω
       subst dp;rw[y0L] at mq;refine Q7 O ?_;exact(cF _ _ ⟨O,mq⟩).qb
    ·have tT:¬0<r:=ω
     refine PS ?_;exact(cF _ _ ⟨O,by rw[if_neg tT,y0o];exact q9⟩).qb
  case du=>
   refine Qa O (λe1=>?_)<|λe1=>?_
   ·have nB:0<p.Qt:=ω
    obtain⟨F,xT,hf⟩:=wK.ex;refine Sv O (qV (QB (news:=[.int .u8 0,Qi 0]) Td O S3 O ((wK.ext.PO hU).cells (n:=2) O) O) (Q4 O (S5 O O (SQ ZF O O) (UC xT ξ .unary r ω) ?_)));rintro _ w5⟨rfl,tV⟩;refine PR<|QA.qb (e:=[(1,_),(2,_),(3,_),(4,_),(5,_),(10,_),(11,_),(12,_)]) ?_;exact(bF _ _ ⟨O,by rw[if_pos nB];exact wK.put hf l5 z1 tV⟩).qb
   ·have nB:¬0<p.Qt:=ω
    refine PS ?_;exact(bF _ _ ⟨O,by rw[if_neg nB];exact wK⟩).qb
end Go.Proofs.YtbihggbffaigjaaGreatDoor
