/- Merged by program. -/
import Derived.Test.YtbihggbffaigjaaGreatDoorZg2
import Derived.Sort.AssemblyPlain
set_option linter.all false
set_option maxRecDepth 1000000
set_option maxHeartbeats 16000000
namespace Go.Proofs.YtbihggbffaigjaaGreatDoor
open Go Go.RowKit Go.Proofs.Tryz
variable {F FL0 FR0 X X':Nat->Prop}{L L':List (Cd×Nat)}{P:Program}{R:List (Nat×Nat)}{a b b5 cap g i j least lf n11 rn sb sc t y:Nat}{aft:Array Edge}{c:Code}{cs:List Value}{el ty:TypeId}{fs:List Bool}{p:Sr}{ra sa:Option Addr}{ref rs succ:List Nat}{s:P8}{w w' w1 w2 w3 w4:World}
def Zw (l:List Nat):∀c∈l.map PX,c.oneCell'=true:=by
 intro c d
 obtain⟨x,-,rfl⟩:=y0h.1 d
 rfl
def z2P (p:Nat×Nat):List Value:=[I (p.1:Int),I (p.2:Int)]
theorem zaf (l:List (Nat×Nat)):(l.flatMap z2P).length=l.length*2:=by
 induction l with
 |nil=>rfl
 |cons p l d=>rw[y16,Pe,d,y01,show(z2P p).length=2 from rfl];omega
theorem Sl.oneV {v:Value}{e size n:Nat}(h:Sl w v e size n cs):oneV v=true:=by
 rcases h.shape with⟨rfl,-⟩|⟨g,cap,rfl,-⟩<;>rfl
structure zdn (w:World)(l:List Nat)(least:Nat)(r:List Nat)(a:Option Addr)(cap:Nat)(v4 v5:Value)(R:List (Nat×Nat))(O_:List Nat)(w':World):Prop where
 ext:Ext w w'
 cl:r.length<=cap
 rd:Rd w (.slice a r.length cap) 1 r.length (r.map PX)
 s4:Sl w' v4 348 2 R.length (R.flatMap z2P)
 s5:Sl w' v5 42 1 O_.length (O_.map PX)
 f4:∀g,v4.ownBlock=some g->w.heap.size<=g
 f5:∀g,v5.ownBlock=some g->w.heap.size<=g
 ne:∀g,v4.ownBlock=some g->v5.ownBlock≠some g
 ok:Q4 r
 eq:Qo least l=(R++(Qo least r).1,O_++(Qo least r).2)
 len:R.length+O_.length+r.length<=65536
theorem Uh {a:Option Addr}{n:Nat}(h:Rd w (.slice a n cap) 1 n cs)(hi:i<=n)(q:n<=cap):Rd w (.slice (if cap=i then a else a.map (·.add (i*1))) (n-i) (cap-i)) 1 (n-i) (cs.drop i):=by
 have m:=h.1
 refine⟨by rw[y07,m];omega,?_⟩
 rcases h.2 with⟨c,k,o⟩|⟨b,off,d,k,l⟩
 ·refine .inl ⟨((if cap=i then a else a.map (·.add (i*1))),cap-i),?_,ω⟩;rw[show n-i=0 by omega]
 ·cases k;by_cases e:cap=i
  ·rw[if_pos e];refine .inl ⟨(some ⟨b,off,none⟩,cap-i),?_,ω⟩;rw[show n-i=0 by omega]
  ·rw[if_neg e];refine .inr ⟨b,off+i*1,cap-i,?_,λj u f=>?_⟩
   ·simp only[Option.map_some,RU]
   ·rw[y1O] at f;have:=l (i+j) u f;rw[show off+i*1+j=off+(i+j) by omega];exact this
theorem VC {a:Option Addr}{n:Nat}(h:Rd w (.slice a n cap) 1 n cs)(hi:i<=n):Rd w (.slice a i cap) 1 i (cs.take i):=by
 have l:=h.1
 refine⟨by rw[y0d,l];omega,?_⟩
 rcases h.2 with⟨c,f,m⟩|⟨b,off,e,f,k⟩
 ·refine .inl ⟨(a,cap),?_,ω⟩;rw[show i=0 by omega]
 ·cases f;refine .inr ⟨b,off,cap,O,λj u d=>?_⟩;rw[y1I] at d;split at d
  ·exact k j u d
  ·cases d
def zdn.grow {l r:List Nat}{a:Option Addr}{f k:Value}{e:List Nat}(h:zdn w l least r a cap f k R e w1)(d:Ext w1 w2):zdn w l least r a cap f k R e w2:=
 ⟨h.ext.trans d,h.cl,h.rd,h.s4.ext d,h.s5.ext d,h.f4,h.f5,h.ne,h.ok,h.eq,h.len⟩
theorem zd4 (a:Option Addr)(cap:Nat)(l:List Nat)(least:Nat)(wm:Q4 l)(jP:l.length<=cap)(im:least<=64)(w:World)(hr:Rd w (.slice a l.length cap) 1 l.length (l.map PX)):
  PN prog 223 [.slice a l.length cap,I (least:Int)] w λu w'=>∃f o,u= .tuple #[f,o]/\Sl w' f 348 2 (Qo least l).1.length ((Qo least l).1.flatMap z2P)/\
   Sl w' o 42 1 (Qo least l).2.length ((Qo least l).2.map PX)/\Ext w w'/\(∀g,f.ownBlock=some g->w.heap.size<=g)/\(∀g,o.ownBlock=some g->w.heap.size<=g)/\∀g,f.ownBlock=some g->o.ownBlock≠some g:=by
 refine py (e:=[(0,_),(1,_)]) func223 O ntmps223 O O<|qN O<|QS O<|R0<|RX (α:=List Nat×Option Addr×Nat×Value×Value×List (Nat×Nat)×List Nat) (l,a,cap,.slice none 0 0,.slice none 0 0,[],[]) (λx=>[(0,.slice x.2.1 x.1.length x.2.2.1),(1,I (least:Int)),(4,x.2.2.2.1),(5,x.2.2.2.2.1)]) (λx w'=>zdn w l least x.1 x.2.1 x.2.2.1 x.2.2.2.1 x.2.2.2.2.1 x.2.2.2.2.2.1 x.2.2.2.2.2.2 w') (λx=>x.1.length) ?hI ?hround
 case hI=>exact⟨Ext.refl _,jP,hr,Sl.nil _ _ _,Sl.nil _ _ _,(λg h=>by cases h),(λg h=>by cases h),(λg h=>by cases h),wm,rfl,by have:=wm.len;simp;omega⟩
 case hround =>
  rintro⟨r,a1,c1,f,o,R,D⟩ t hI Y;dsimp only at hI
  try dsimp only
  refine Qi O<|RQ PS O<|R8 O<|P4<|Pn O (λh0=>?_)<|λh0=>?_
  ·obtain⟨y,d,rfl⟩:∃y d,r=y::d:=by
    cases r with
    |nil=>exact absurd h0 ξ
    |cons y d=>exact⟨y,d,O⟩
   have ic:=XV y d;have JU:=hI.ok.lt y y0p;have ja:=hI.ok.len;rw[y01] at ja
   obtain⟨b,off,K,E⟩:∃b off,a1=some ⟨b,off,none⟩/\∀j u,((y::d).map PX)[j]? =some u->t.cell? ⟨b,off+j,none⟩=some u:=by
    rcases (hI.rd.ext hI.ext).2 with⟨c,-,h⟩|⟨b,off,H,K,E⟩
    ·exact absurd h ξ
    ·cases K;exact⟨b,off,O,E⟩
   subst K
   have p:∀w',Ext w w'->∀j u,((y::d).map PX)[j]? =some u->w'.cell? ⟨b,off+j,none⟩=some u:=λw' hx=>by
    rcases (hI.rd.ext hx).2 with⟨c,-,h⟩|⟨b',a0,H,K,N⟩
    ·exact absurd h ξ
    ·cases K;exact N
   clear E;refine P5<|P6<|Re O<|R0<|Ss (λe' w'=>Ext t w'/\e'=[(0,.slice (some ⟨b,off,none⟩) (y::d).length c1),(1,I (least:Int)),(4,f),(5,o),(6,I ((Qk y d+1:Nat):Int))]) ?te<|λte=>?CC
   case te=>
    rintro e' a2⟨aM,rfl⟩;replace hI:=hI.grow aM;have E:=p _ hI.ext
    generalize W:Qk y d+1=n
    have mL:=hI.cl;rw[y01] at mL;have m:=hI.eq;have aB:=hI.len;rw[y01] at aB;have ci:1<=n/\n<=d.length+1:=ω
    have xq:d.drop (Qk y d)=(y::d).drop n:=by rw[<-W];rfl
    have mZ:y::d.take (Qk y d)=(y::d).take n:=by rw[<-W];rfl
    rw[Qo] at m;simp only[W,xq,mZ] at m;have Q:Q4 ((y::d).drop n):=hI.ok.sub (y1o _ _);have M:=Uh hI.rd (i:=n) (by rw[y01];omega) hI.cl;rw[<-y1T,show(y::d).length-n=((y::d).drop n).length by rw[y07]] at M;have q:((y::d).drop n).length=d.length+1-n:=by rw[y07,y01]
    by_cases U:0<least/\least<=n
    ·obtain⟨Br,X⟩:=U;rw[if_pos ⟨Br,X⟩] at m;refine Qi O (R8 O (RO (PB O (Ph O (Uj O (RO (Rr O (P4 (Pp O (Pc O (PB O (qV (Qc PS Py O O ω) (qV (PG R9 O O (E (0*1) (PX y) O)) ?_)))))))))))));refine qV (Q8 O R9 U3 ω) (Ph O (qV (T3 (cs:=[_,_]) z2u O ziG O O) (Pb O O (YD (cs:=[_,_]) (zs:=[Value.int .i64 0,Value.int .i64 0]) zbL z2u O Pd O O O ψ) ?_)));rintro _ F⟨b7,rfl,⟨kR,k,bE⟩,gZ⟩;refine Pb O O (pap zbL z2u O ψ O O (hI.s4.ext k) gZ.rd (by intro c N;simp at N;rcases N with rfl|rfl<;>rfl) ω (by simp only[maxLen];omega)) ?_;rintro s B⟨z,v,A,-⟩;have mM:=z.oneV;have hz:=hI.ext.size;have Bs:=k.size;have G:Ext w B:=(hI.ext.trans k).It v (λi hi=>hI.f4 i hi);have oX:Sl B o 42 1 D.length (D.map PX):=(hI.s5.ext k).kp v (λg hg e=>hI.ne g e hg);refine Pq O (Pc O (PB O (qV (Zr PS Py O O (by rw[y01];omega) hI.cl) ?_)));refine Pq O<|An ?_;rw[show(y::d).length-n=((y::d).drop n).length by rw[y07]];refine(Y ((y::d).drop n,_,c1-n,s,o,R++[(y,n)],D) _ ⟨G,by dsimp only;rw[q];omega,M,?_,oX,?_,hI.f5,?_,Q,?_,?_⟩ ?_).qb
     ·dsimp only;rw[Pe,y2m];exact z
     ·intro g hg;rcases A g hg with h| h
      ·exact hI.f4 g h
      ·omega
     ·intro g hg e;rcases A g hg with h| h
      ·exact hI.ne g h e
      ·have:=hI.s5.lt e;omega
     ·dsimp only;rw[m,y05];rfl
     ·dsimp only;rw[Pe,y0S,q];omega
     ·dsimp only;rw[q,y01];omega
    ·rw[if_neg U] at m;rcases y0y least with e0|e0
     ·refine Qi O (R8 O (Qb (Ph O (QV (qS (Ql O (P4 (P9 O (Pc O (PB O (Ph O (qV (zcJ PS Py O O ω) (Pb O O (pap PS Py O ψ O O hI.s5 (VC (hI.rd.ext hI.ext) (i:=n) (by rw[y01];omega)) (by rw[<-y1k];exact Zw _) ω (by simp only[maxLen];omega)) ?_)))))))))))));rintro C B⟨z,v,A,-⟩;have mM:=z.oneV;have hz:=hI.ext.size;have G:Ext w B:=hI.ext.It v (λi hi=>hI.f5 i hi);have L:Sl B f 348 2 R.length (R.flatMap z2P):=hI.s4.kp v (λg hg e=>hI.ne g hg e);refine Pq O (Pc O (PB O (qV (Zr PS Py O O (by rw[y01];omega) hI.cl) ?_)));refine Pq O<|An ?_;rw[show(y::d).length-n=((y::d).drop n).length by rw[y07]];have J:((y::d).take n).length=n:=by rw[y0d,y01];omega
      refine(Y ((y::d).drop n,_,c1-n,f,C,R,D++(y::d).take n) _ ⟨G,by dsimp only;rw[q];omega,M,L,?_,hI.f4,?_,?_,Q,?_,?_⟩ ?_).qb
      ·dsimp only;rw[Pe,y0f,J,y1k];exact z
      ·intro g hg;rcases A g hg with h| h
       ·exact hI.f5 g h
       ·omega
      ·intro g hg e;rcases A g e with h| h
       ·exact hI.ne g hg h
       ·have:=hI.s4.lt hg;omega
      ·dsimp only;rw[m,y05]
      ·dsimp only;rw[Pe,J,q];omega
      ·dsimp only;rw[q,y01];omega
     ·have X:¬least<=n:=λh=>U ⟨e0,h⟩;refine Qi O (R8 O (RO (PB O (Ph O (Uj O (Qb (Rr O (P4 (P9 O (Pc O (PB O (Ph O (qV (zcJ PS Py O O ω) ?_)))))))))))));refine Pb O O (pap PS Py O ψ O O hI.s5 (VC (hI.rd.ext hI.ext) (i:=n) (by rw[y01];omega)) (by rw[<-y1k];exact Zw _) ω (by simp only[maxLen];omega)) ?_;rintro C B⟨z,v,A,-⟩;have mM:=z.oneV;have hz:=hI.ext.size;have G:Ext w B:=hI.ext.It v (λi hi=>hI.f5 i hi);have L:Sl B f 348 2 R.length (R.flatMap z2P):=hI.s4.kp v (λg hg e=>hI.ne g hg e);refine Pq O (Pc O (PB O (qV (Zr PS Py O O (by rw[y01];omega) hI.cl) ?_)));refine Pq O<|An ?_;rw[show(y::d).length-n=((y::d).drop n).length by rw[y07]];have J:((y::d).take n).length=n:=by rw[y0d,y01];omega
      refine(Y ((y::d).drop n,_,c1-n,f,C,R,D++(y::d).take n) _ ⟨G,by dsimp only;rw[q];omega,M,L,?_,hI.f4,?_,?_,Q,?_,?_⟩ ?_).qb
      ·dsimp only;rw[Pe,y0f,J,y1k];exact z
      ·intro g hg;rcases A g hg with h| h
       ·exact hI.f5 g h
       ·omega
      ·intro g hg e;rcases A g e with h| h
       ·exact hI.ne g hg h
       ·have:=hI.s4.lt hg;omega
      ·dsimp only;rw[m,y05]
      ·dsimp only;rw[Pe,J,q];omega
      ·dsimp only;rw[q,y01];omega
   case CC =>
    refine RX (α:=Nat) (1) (λi=>[(0,.slice (some ⟨b,off,none⟩) (y::d).length c1),(1,I (least:Int)),(4,f),(5,o),(6,I (i:Int))]) (λi w'=>Ext t w'/\1<=i/\i<=Qk y d+1) (λi=>Qk y d+2-i) ?hI ?hround
    case hI=>exact⟨Ext.refl _,ω,ω⟩
    case hround=>
     rintro i F⟨k,tf,dw⟩ Z
     try dsimp only
     refine OY<|OY ?_;have hg:=(Ext.refl F).drew;refine RI (λw'=>Ext F w') O<|Pu 0 O O hg<|Pu 1 O O hg<|P7 2 O (T7 PS O) hg<|P7 3 O (ZQ O O) hg<|ziO (λT=>?_)<|λT=>?_
     ·have NZ:i<d.length+1:=by rw[y01] at T;omega
      have S:d[i-1]? =some (d[i-1]'ω):=y03 ω;have O0:d[i-1]'ω<65536:=hI.ok.lt _ (y0s _ (y1d _));refine Pu 4 O O hg (Pu 5 O O hg (Pu 6 O O hg (P7 7 O (Qc PS Py O O ω) hg (Pu 9 O O hg (P7 10 O (Qc PS Py O O ω) hg (Pu 12 O O hg (P7 13 O (z5R O U3 R9) hg (qT 8 O (λ_ V=>PG R9 O O (by exact p _ ((hI.ext.trans k).trans V) (i*1) (PX (d[i-1]'ω)) (by rw[y0i,show i*1=(i-1)+1 by omega,y1G,S];rfl))) hg ?_))))))));refine qT 11 O (λ_ V=>PG R9 O O (by exact p _ ((hI.ext.trans k).trans V) (0*1) (PX y) O)) hg ?_;refine P7 14 O (zhK O O) hg<|P7 15 O (yeq O O) hg<|P7 16 O (Ux O O) hg<|qE<|Pn O (λe2=>?_)<|λe2=>?_
      ·refine P5<|P6<|Ra O<|Qj O<|Pq O<|An ?_
       have bA:i≠Qk y d+1:=λe=>by
        subst e;have:=Xb y d (d[Qk y d+1-1]'ω) (by rw[<-S];simp);omega
       exact(Z (i+1) _ ⟨k.trans hg,ω,ω⟩ ω).qb
      ·have P:i=Qk y d+1:=by
        rcases y0a (i-1) (Qk y d) with h| h
        ·have h1:=Wk y d (i-1) h;rw[S] at h1;have h2:=RZ h1;exact absurd ω e2
        ·omega
       refine Pf O ?_;subst P;exact(te _ _ ⟨k.trans hg,O⟩).qb
     ·have P:i=Qk y d+1:=by rw[y01] at T;omega
      refine Pu 4 O O hg<|qJ 5 O hg<|qJ 6 O hg<|qJ 7 O hg<|qJ 8 O hg<|qJ 9 O hg<|qJ 10 O hg<|qJ 11 O hg<|qJ 12 O hg<|qJ 13 O hg<|qJ 14 O hg<|qJ 15 O hg<|P7 16 O (U0 O O) hg<|qE ?_;refine P9 O<|Pf O ?_;subst P;exact(te _ _ ⟨k.trans hg,O⟩).qb
  ·have fd:r=[]:=y0t ω;subst fd;refine Pf O<|QG O<|QS O<|P3 func223 O ?_;have m:=hI.eq;simp only[Qo,y0o] at m;rw[m];exact⟨_,O,f,o,O,hI.s4,hI.s5,hI.ext,hI.f4,hI.f5,hI.ne⟩
structure VsM (w:World)(p:Nat)(v:Value)(T el:TypeId)(size n:Nat)(cs:List Value):Prop where
 OZ:Pm w p [v] T
 sl:Sl w v el size n cs
 ne:v.ownBlock≠some p
def VsA (w:World)(p:Nat)(T el:TypeId)(size n:Nat)(cs:List Value)(F:Nat->Prop):Prop:=∃v,VsM w p v T el size n cs/\∀k,F k↔fpW p v k
section
variable {p:Nat}{T:TypeId}{size n:Nat}{S:Nat->Prop}
def VsA.lt (h:VsA w p T el size n cs F){k:Nat}(l:F k):k<w.heap.size:=by
 obtain⟨m,d,f⟩:=h
 rcases (f k).1 l with e| e
 ·rw[e];exact d.OZ.lt
 ·exact d.sl.lt e
theorem VsA.kp (h:VsA w p T el size n cs F)(k:Kp S w w')(f:∀i,F i->¬S i):VsA w' p T el size n cs F:=by
 obtain⟨l,e,d⟩:=h
 exact⟨l,⟨k.OZ e.OZ (f p ((d p).2 (.inl O))),e.sl.kp k (λg hg=>f g ((d g).2 (.inr hg))),e.ne⟩,d⟩
def VsA.ext (h:VsA w p T el size n cs F)(k:Ext w w'):VsA w' p T el size n cs F:=h.kp k.kp λ_ _=>id
end
def zf8 {e:Env}{d:Option Nat}{t t':TypeId}{pos:String}{g:Option (Nat×Bool)}{x y:Operand}{p q:Bool}(h:look e x=some (.bool p))(k:look e y=some (.bool q))(ht:P.underlying t=some .bool):Y P e ⟨d,.binOp .neq t x y t',ty,pos,aft,g⟩ (.bool (!(p==q))) w w:=fun ρ f=>by
 simp[execOp,f _ _ h,f _ _ k,eqGuard_at_bool,run_neq_bool w t p q ht]
def z6Q (q:Cd×Nat):List Value:=SI q.1++[Pt q.2]
abbrev z4U (w:World)(p:Nat)(L:List (Cd×Nat))(F:Nat->Prop):Prop:=VsA w p 311 316 3 L.length (L.flatMap z6Q) F
abbrev z3V (w:World)(p:Nat)(L:List Nat)(F:Nat->Prop):Prop:=VsA w p 40 42 1 L.length (L.map PX) F
abbrev z2J (w:World)(p:Nat)(L:List Nat)(F:Nat->Prop):Prop:=VsA w p 37 3 1 L.length (L.map λn:Nat=>I (n:Int)) F
theorem TS {p:Nat}(h:z4U w p L F)(t:L.length<=1000000)(c:Cd)(v:Nat)(P:v<9223372036854775808):
  PN prog 220 [cdV c,I (v:Int),ptr p 0] w λu w'=>u= .tuple #[]/\∃z,z4U w' p (L++[(c,v)]) z/\Kp F w w'/\∀k,z k->F k\/w.heap.size<=k:=by
 obtain⟨x,y,C,Y,J⟩:∃x y,SI c=[x,y]/\x.oneCell'=true/\y.oneCell'=true:=by cases c<;>exact⟨_,_,O,O,O⟩
 obtain⟨j,f,o⟩:=h
 have a:cdV c= .agg [x,y].toArray:=by rw[cdV,C]
 rw[a]
 have K:∀c∈[x,y,Pt v],c.oneCell'=true:=by
  intro c d;rcases y0l.1 d with rfl|d
  ·exact Y
  rcases y0l.1 d with rfl|d
  ·exact J
  rcases y0l.1 d with rfl|d
  ·rfl
  ·simp at d
 refine py (e:=[(0,_),(1,_),(2,_)]) func220 O ntmps220 O O<|qN O<|Pb O O (RP O (cs:=[x,y]) O) ?_
 rintro _ w1⟨b3,rfl,s,l,N⟩
 have G:=l.OZ f.OZ
 refine P4<|Pc O<|qV (Pl z1D O O G O)<|qV (PO (news:=[x,y]) St O Rh O (N.cells (n:=2) O) O)<|Ph O<|qV (QH O U3 RW ω)<|qV (T3 (cs:=[_,_,_]) VZ O zfp O O)<|Pb O O (YD (cs:=[_,_,_]) (zs:=[Value.int .u8 0,Value.int .u64 0,Value.int .u64 0]) z1D VZ O Pd O O O ψ) ?_
 rintro _ w2⟨b2,rfl,⟨i,m,b⟩,Q⟩
 refine Pb O O (pap z1D VZ O ψ O O ((f.sl.ext l).ext m) Q.rd K ω (by simp only[maxLen];omega)) ?_
 rintro q w3⟨D,A,H,-⟩
 have Z:=D.oneV
 have M:=A.OZ (m.OZ G) f.ne
 refine Po O (QZ zcF O O Z M ξ) ?_
 rintro w4⟨r,B⟩
 replace r:Pm w4 p [q] 311:=r
 have X:=l.size
 have z2:=m.size
 have R:=f.OZ.lt
 have E:q.ownBlock≠some p:=λe=>by
  rcases H p e with e| e
  ·exact f.ne e
  ·omega
 have V:=D.kp B (λg hg e=>E (e▸hg))
 refine P4<|Qu func220 O (⟨_,O,O,fpW p q,⟨q,⟨r,?_,E⟩,λ_=>y0U⟩,?_,?_⟩)
 ·rw[Pe,y2m];have U:[(c,v)].flatMap z6Q=[x,y,Pt v]:=by simp[z6Q,C]
  rw[U];exact V
 ·exact((l.trans m).kp.trans (A.Pk λk e=>(o k).2 (.inr e))).trans (B.Pk λk e=>(o k).2 (.inl e))
 ·intro k W;rcases W with e| e
  ·exact .inl ((o k).2 (.inl e))
  ·rcases H k e with e| e
   ·exact .inl ((o k).2 (.inr e))
   ·exact .inr ω
def VQ (rs:List Nat)(f:Bool):List Nat:=if f !=(rs.length%2==1) then rs++[0] else rs
theorem z2h (rs:List Nat)(f:Bool):Rt rs f=(VQ rs f).modify ((VQ rs f).length-1) (·+1):=rfl
abbrev z6s (n:Nat):Value:=I (n:Int)
theorem z3r {L:List Nat}(h:z3V w lf L F)(N:L.length<=1000000)(x:Nat)(a:Bool):
  PN prog 222 [PX x,.bool a,.bool false,ptr lf 0,ptr rn 0] w λu w'=>u= .tuple #[]/\∃o,z3V w' lf (L++[x]) o/\Kp F w w'/\∀k,o k->F k\/w.heap.size<=k:=by
 obtain⟨M,d,l⟩:=h
 refine py (e:=[(0,_),(1,_),(2,_),(3,_),(4,_)]) func222 O ntmps222 O O ?_
 have B:=d.OZ
 refine R0<|PL O<|qV (SD O)<|Pq O<|Pp O<|qN O<|qV (Pl PS O O B O)<|Ph O<|Pb O O (YD (cs:=[_]) (zs:=[Value.int .u32 0]) PS Py O Pd O O O ψ) ?_
 rintro _ w2⟨b2,rfl,⟨K,f,J⟩,E⟩
 refine Pb O O (pap PS Py O ψ O O (d.sl.ext f) E.rd (by intro c A;simp at A;subst A;rfl) ω (by simp only[maxLen];omega)) ?_
 rintro m w3⟨v,q,C,-⟩
 have I:=v.oneV
 have D:=q.OZ (f.OZ B) d.ne
 refine Po O (QZ SJ O O I D ξ) ?_
 rintro w4⟨n,r⟩
 replace n:Pm w4 lf [m] 40:=n
 have S:=f.size
 have Q:=d.OZ.lt
 have z:m.ownBlock≠some lf:=λe=>by
  rcases C lf e with e| e
  ·exact d.ne e
  ·omega
 have G:=v.kp r (λg hg e=>z (e▸hg))
 refine P4<|P3 func222 O (⟨_,O,O,fpW lf m,⟨m,⟨n,?_,z⟩,λ_=>y0U⟩,?_,?_⟩)
 ·rw[Pe,y0f];exact G
 ·exact(f.kp.trans (q.Pk λk e=>(l k).2 (.inr e))).trans (r.Pk λk e=>(l k).2 (.inl e))
 ·intro k H;rcases H with e| e
  ·exact .inl ((l k).2 (.inl e))
  ·rcases C k e with e| e
   ·exact .inl ((l k).2 (.inr e))
   ·exact .inr ω
theorem ZV (h:z2J w rn rs F)(y:rs.length<=1000000)(D:rs≠[])(s:∀m∈rs,m<=1000000)(x:Nat)(a:Bool):
  PN prog 222 [PX x,.bool a,.bool true,ptr lf 0,ptr rn 0] w λu w'=>u= .tuple #[]/\∃o,z2J w' rn (Rt rs a) o/\Kp F w w'/\∀k,o k->F k\/w.heap.size<=k:=by
 have R:∀k,F k->k<w.heap.size:=λk f=>h.lt f
 obtain⟨bv,n,z⟩:=id h
 refine py (e:=[(0,_),(1,_),(2,_),(3,_),(4,_)]) func222 O ntmps222 O O ?_
 have G:=n.OZ
 obtain⟨va,vc,rfl,-⟩:=n.sl.rd.shape
 refine R0<|PL O<|qV (SD O)<|Pq O<|P9 O<|PL O<|qV (Pl Rp O O G O)<|RQ Rp O<|qV (Y2 O O ω ω) ?_
 rw[y2j]
 refine Rx O<|qV (zf8 O O U4) ?_
 have t:decide (((rs.length%2:Nat):Int)=1)=(rs.length%2==1):=by
  rcases y1Q rs.length with e|e<;>rw[e]<;>rfl
 rw[t]
 refine Pq O<|Qf (λN w'=>N=[(4,ptr rn 0)]/\∃o,z2J w' rn (VQ rs a) o/\Kp F w w'/\∀k,o k->F k\/w.heap.size<=k) ?th<|λth=>?ti
 case th=>
  rintro N w1⟨rfl,P,⟨v1,d,W⟩,b,T⟩
  obtain⟨l,m,U,fM,hm⟩:∃l m,VQ rs a=l++[m]/\l.length<=1000000/\m<=1000000:=by
   unfold VQ;split
   ·exact⟨rs,0,O,y,ω⟩
   ·refine⟨rs.dropLast,rs.getLast D,(y2v D).symm,by rw[y2p];omega,s _ (List.getLast_mem D)⟩
  rw[U] at d;have Y:(l++[m]).length=l.length+1:=ξ
  rw[Y] at d;rcases d.sl.shape with⟨-,h0⟩|⟨g,c1,rfl,eD⟩
  ·omega
  have C:=d.OZ;refine An<|Pc O<|qV (Pl Rp O O C O)<|qV (Pl Rp O O C O)<|RQ Rp O<|RR O ?_;rw[show((l.length+1:Nat):Int)-1=(l.length:Int) by omega];refine qV (Qc Rp Qe O O ω) (qV (PG U3 O O (Qs d.sl.rd (show((l++[m]).map z6s)[l.length]? =some (z6s m) by simp))) ?_);refine Qj O (qV (Qc Rp Qe O O ω) (Po O (Sf Qe O O O d.sl ξ) ?_));rintro w2⟨q,I⟩;have H:=I.OZ C (λe=>d.ne (by rw[e];rfl));refine P4<|Qu func222 O (⟨_,O,O,fpW rn (.slice (some ⟨g,0,none⟩) (l.length+1) c1),⟨_,⟨H,?_,d.ne⟩,λ_=>y0U⟩,?_,?_⟩)
  ·rw[z2h,U,Xe];have r:(l++[m+1]).length=l.length+1:=ξ
   rw[r]
   have j:((l++[m]).map z6s).set l.length (z6s (m+1))=(l++[m+1]).map z6s:=by
    rw[y0f,y1F _ _ ξ];simp
   rw[<-j];have e3:l.length*1=l.length:=y0c _
   first|exact q|(simp only[y09,y0c] at q;exact q)
  ·exact b.It (I.Pk (λk e=>(W k).2 (.inr (by rw[e];rfl)))) (λi hi=>(T i hi).symm)
  ·intro k f;exact T k ((W k).2 f)
 case ti=>
  refine QF O (λr=>?_)<|λr=>?_
  ·have E:VQ rs a=rs++[0]:=by unfold VQ;exact if_pos r
   refine Pc O (qV (Pl Rp O O G O) (Pb O O (YD (cs:=[_]) (zs:=[Value.int .i64 0]) Rp Qe O Pd O O O ψ) ?_));rintro _ w2⟨b2,rfl,⟨X,v,H⟩,q⟩;refine Pb O O (pap Rp Qe O ψ O O (n.sl.ext v) q.rd (by intro c S;simp at S;subst S;rfl) ω (by simp only[maxLen];omega)) ?_;rintro A w3⟨M,J,V,-⟩;have L:=M.oneV;have Z:=J.OZ (v.OZ G) n.ne;refine Po O (QZ z6A O O L Z ξ) ?_;rintro w4⟨B,K⟩;replace B:Pm w4 rn [A] 37:=B;have z2:=v.size;have lp:=n.OZ.lt
   have Q:A.ownBlock≠some rn:=λe=>by
    rcases V rn e with e| e
    ·exact n.ne e
    ·omega
   have p:=M.kp K (λg hg e=>Q (e▸hg));refine P4 ((th _ _ ⟨O,fpW rn A,⟨A,⟨B,?_,Q⟩,λ_=>y0U⟩,?_,?_⟩).qb)
   ·rw[E,Pe,y0f];exact p
   ·exact(v.kp.trans (J.Pk λk e=>(z k).2 (.inr e))).trans (K.Pk λk e=>(z k).2 (.inl e))
   ·intro k f;rcases f with e| e
    ·exact .inl ((z k).2 (.inl e))
    ·rcases V k e with e| e
     ·exact .inl ((z k).2 (.inr e))
     ·exact .inr ω
  ·have E:VQ rs a=rs:=by unfold VQ;exact if_neg (by simpa using r)
   refine P5 ?_;exact(th _ _ ⟨O,F,by rw[E];exact h,Kp.refl _ _,λk f=> .inl f⟩).qb
def W9 (s r rs:List Nat):List Nat:=r.foldl (λrs y=>Rt rs (decide (y∈s))) rs
def z0z {s t:List Nat}:∀(r rs:List Nat),(∀y∈r,(y∈s↔y∈t))->W9 s r rs=W9 t r rs
 |[],rs,_=>rfl
 | y :: r, rs, h => by
   have d:decide (y∈s)=decide (y∈t):=decide_eq_decide.2 (h y y0p);show W9 s r (Rt rs (decide (y∈s)))=W9 t r (Rt rs (decide (y∈t)));rw[d];exact z0z r _ (λz e=>h z (y0s _ e))
def Wm {x z:Nat}{l:List Nat}(h:x<z):z∈x::l↔z∈l:=by
 rw[y0l]
 constructor
 ·rintro(e|e)
  ·omega
  ·exact e
 ·exact .inr
theorem z3W {x:Nat}{s r:List Nat}(h:∀y∈r,x<y):PI (x::s) r=x::PI s r/\∀rs,W9 (x::s) r rs=W9 s r rs:=by
 have d:x∉r:=λe=>by have:=h x e;omega
 refine⟨?_,λrs=>z0z r rs λy f=>Wm (h y f)⟩
 unfold PI
 rw[List.filter_cons,if_pos (by simpa using d)]
def z1v {r t:List Nat}(s:List Nat)(h:∀x∈s,(x∈r↔x∈t)):PI s r=PI s t:=
 List.filter_congr λx d=>decide_eq_decide.2 (not_congr (h x d))
theorem z8k {x:Nat}{s r:List Nat}(e:∀z∈s,x<z)(d:∀y∈r,x<y):PI (x::s) (x::r)=PI s r/\∀rs,W9 (x::s) (x::r) rs=W9 s r (Rt rs true):=by
 refine⟨?_,λrs=>?_⟩
 ·have:=z1v (r:=x::r) (t:=r) s (λz f=>Wm (e z f));rw[<-this];unfold PI;rw[List.filter_cons,if_neg ξ]
 ·show W9 (x::s) r (Rt rs (decide (x∈x::s)))=_;rw[decide_eq_true y0p];exact(z3W d).2 _
theorem z8j {s r:List Nat}(d:∀z∈s,y<z):PI s (y::r)=PI s r/\∀rs,W9 s (y::r) rs=W9 s r (Rt rs false):=by
 refine⟨z1v s (λz f=>Wm (d z f)),λrs=>?_⟩
 show W9 s r (Rt rs (decide (y∈s)))=_
 rw[decide_eq_false λe=>by have:=d y e;omega]
def z5k {x:Nat}{l:List Nat}(d:Ris (y::l))(h:x<y):∀z∈y::l,x<z:=λz f=>by
 rcases y0l.1 f with e| e
 ·omega
 ·have:=(y1m.1 d).1 z e;omega
def z2o:∀{l:List Nat} {m:Nat},m∈l->m<=l.sum
 | x :: l, m, h => by
   rw[y0I];rcases y0l.1 h with e| e
   ·omega
   ·have:=z2o e;omega
def z5L (rs:List Nat)(f:Bool):(Rt rs f).length<=rs.length+1:=by
 rw[z2h,List.length_modify]
 unfold VQ
 split<;>simp
def U6.le (h:U6 rs fs):∀m∈rs,m<=fs.length:=λm d=>by
 have:=z2o d
 rw[<-h.exp,Te];exact this
structure UB (w:World)(succ ref:List Nat)(lf rn:Nat)(FL0 FR0:Nat->Prop)(s:List Nat)(sa:Option Addr)(sc:Nat)(r:List Nat)(ra:Option Addr)(rc:Nat)(L rs:List Nat)(w':World):Prop where
 ex:∃FL FR fs,z3V w' lf L FL/\z2J w' rn rs FR/\U6 rs fs/\fs.length+r.length<=65536/\rs.length+r.length<=65537/\(∀k,FL k->FL0 k\/w.heap.size<=k)/\(∀k,FR k->FR0 k\/w.heap.size<=k)/\∀k,FL k->¬FR k
 rdS:∀w2,Kp (λk=>FL0 k\/FR0 k) w w2->Rd w2 (.slice sa s.length sc) 1 s.length (s.map PX)
 rdR:∀w2,Kp (λk=>FL0 k\/FR0 k) w w2->Rd w2 (.slice ra r.length rc) 1 r.length (r.map PX)
 clS:s.length<=sc
 clR:r.length<=rc
 kp:Kp (λk=>FL0 k\/FR0 k) w w'
 okS:Q4 s
 okR:Q4 r
 left:PI succ ref=L++PI s r
 fold:RF succ ref=W9 s r rs
 zgS:L.length+s.length<=65536
section
variable {s r L:List Nat}{rc:Nat}{x:Nat}
theorem UB.ext (h:UB w succ ref lf rn FL0 FR0 s sa sc r ra rc L rs w1)(d:Ext w1 w2):UB w succ ref lf rn FL0 FR0 s sa sc r ra rc L rs w2:=by
 obtain⟨e,f,fs,k,l,m⟩:=h.ex
 exact⟨⟨e,f,fs,k.ext d,l.ext d,m⟩,h.rdS,h.rdR,h.clS,h.clR,h.kp.trans d.kp,h.okS,h.okR,h.left,h.fold,h.zgS⟩
theorem UB.z8q (h:UB w succ ref lf rn FL0 FR0 (x::s) sa sc r ra rc L rs w1):∃b off,sa=some ⟨b,off,none⟩/\∀w2,Kp (λk=>FL0 k\/FR0 k) w w2->w2.cell? ⟨b,off+0*1,none⟩=some (PX x):=by
 rcases (h.rdS w1 h.kp).2 with⟨c,-,d⟩|⟨b,off,cap,e,-⟩
 ·exact absurd d ξ
 ·cases e;exact⟨b,off,O,λw2 k=>Qs (h.rdS w2 k) O⟩
theorem UB.z9j (h:UB w succ ref lf rn FL0 FR0 s sa sc (y::r) ra rc L rs w1):∃b off,ra=some ⟨b,off,none⟩/\∀w2,Kp (λk=>FL0 k\/FR0 k) w w2->w2.cell? ⟨b,off+0*1,none⟩=some (PX y):=by
 rcases (h.rdR w1 h.kp).2 with⟨c,-,d⟩|⟨b,off,cap,e,-⟩
 ·exact absurd d ξ
 ·cases e;exact⟨b,off,O,λw2 k=>Qs (h.rdR w2 k) O⟩
theorem UB.zfy (h:UB w succ ref lf rn FL0 FR0 (x::s) sa sc r ra rc L rs w1){f l:Nat->Prop}(J:z3V w1 lf L f/\z2J w1 rn rs l/\U6 rs fs/\fs.length+r.length<=65536/\rs.length+r.length<=65537/\(∀k,f k->FL0 k\/w.heap.size<=k)/\(∀k,l k->FR0 k\/w.heap.size<=k)/\∀k,f k->¬l k)
  (B:∀y∈r,x<y) (K:∃d,z3V w2 lf (L++[x]) d/\Kp f w1 w2/\∀k,d k->f k\/w1.heap.size<=k):
  UB w succ ref lf rn FL0 FR0 s (if sc=1 then sa else sa.map (·.add (1*1))) (sc-1) r ra rc (L++[x]) rs w2:=by
 obtain⟨-,M,N,O,Q,C,S,T,U,V,n⟩:=h
 obtain⟨W,v,E,G,H,z,I,A⟩:=J
 obtain⟨d,D,q,u⟩:=K
 have Y:=C.size
 rw[y01] at O n
 refine⟨⟨d,l,fs,D,v.kp q (λi hi e=>A i e hi),E,G,H,λk m=>?_,I,λk m e=>?_⟩,λw2 k=>?_,N,ω,Q,C.It q (λi hi=>?_),S.sub (y27 _ _),T,?_,?_,?_⟩
 ·rcases u k m with e| e
  ·exact z k e
  ·exact .inr ω
 ·rcases u k m with o|o
  ·exact A k o e
  ·have:=v.lt e;omega
 ·have:=Uh (M w2 k) (i:=1) (by rw[y01];omega) (by rw[y01];omega);exact this
 ·rcases z i hi with e| e
  ·exact .inr (.inl e)
  ·exact .inl e
 ·rw[U,(z3W B).1,y05];rfl
 ·rw[V,(z3W B).2]
 ·rw[Pe,y0S];omega
theorem UB.zd8 {v:List Nat}{n:Option Addr}{o:Nat}{f:Bool}(h:UB w succ ref lf rn FL0 FR0 s sa sc (y::r) ra rc L rs w1)(g:(v=s/\n=sa/\o=sc/\f=false/\∀z∈s,y<z)\/(s=y::v/\n=(if sc=1 then sa else sa.map (·.add (1*1)))/\o=sc-1/\f=true))
  {m d:Nat->Prop} {fs:List Bool} (c:z3V w1 lf L m/\z2J w1 rn rs d/\U6 rs fs/\fs.length+(y::r).length<=65536/\rs.length+(y::r).length<=65537/\(∀k,m k->FL0 k\/w.heap.size<=k)/\(∀k,d k->FR0 k\/w.heap.size<=k)/\∀k,m k->¬d k)
  (j:∃l,z2J w2 rn (Rt rs f) l/\Kp d w1 w2/\∀k,l k->d k\/w1.heap.size<=k):
  UB w succ ref lf rn FL0 FR0 v n o r (if rc=1 then ra else ra.map (·.add (1*1))) (rc-1) L (Rt rs f) w2:=by
 obtain⟨-,Q,p,S,t,T,A,B,U,V,q⟩:=h
 obtain⟨M,F,Y,Z,a,b,N,O⟩:=c
 rw[y01] at Z a t
 obtain⟨l,W,J,K⟩:=j
 have P:=T.size
 have R:=z5L rs f
 have C:∀z∈r,y<z:=(y1m.1 B.ris).1
 have D:∃m d fs,z3V w2 lf L m/\z2J w2 rn (Rt rs f) d/\U6 (Rt rs f) fs/\fs.length+r.length<=65536/\(Rt rs f).length+r.length<=65537/\(∀k,m k->FL0 k\/w.heap.size<=k)/\(∀k,d k->FR0 k\/w.heap.size<=k)/\∀k,m k->¬d k:=by
  refine⟨m,l,fs++[f],M.kp J (λi hi e=>O i hi e),W,Y.step f,by rw[Pe,y0S];omega,ω,b,λk u=>?_,λk u e=>?_⟩
  ·rcases K k u with e| e
   ·exact N k e
   ·exact .inr ω
  ·rcases K k e with H|H
   ·exact O k u H
   ·have:=M.lt u;omega
 have E:Kp (λk=>FL0 k\/FR0 k) w w2:=T.It J (λi hi=>by
  rcases N i hi with e| e
  ·exact .inr (.inr e)
  ·exact .inl e)
 have I:∀w2,Kp (λk=>FL0 k\/FR0 k) w w2->Rd w2 (.slice (if rc=1 then ra else ra.map (·.add (1*1))) r.length (rc-1)) 1 r.length (r.map PX):=λw2 k=>
  Uh (p w2 k) (i:=1) (by rw[y01];omega) (by rw[y01];omega)
 rcases g with⟨rfl,rfl,rfl,rfl,hg⟩|⟨rfl,rfl,rfl,rfl⟩
 ·exact⟨D,Q,I,S,ω,E,A,B.sub (y27 _ _),by rw[U,(z8j hg).1],by rw[V,(z8j hg).2],q⟩
 ·have G:∀z∈v,y<z:=(y1m.1 A.ris).1;rw[y01] at S q;refine⟨D,λw2 k=>?_,I,ω,ω,E,A.sub (y27 _ _),B.sub (y27 _ _),by rw[U,(z8k G C).1],by rw[V,(z8k G C).2],ω⟩;exact Uh (Q w2 k) (i:=1) (by rw[y01];omega) (by rw[y01];omega)
end
theorem zbr {rc:Nat}(Z:UB w succ ref lf rn FL0 FR0 succ sa sc ref ra rc [] [0] w):
  PN prog 221 [.slice sa succ.length sc,.slice ra ref.length rc,.func (.func 222) #[] #[ptr lf 0,ptr rn 0]] w λu w'=>u= .tuple #[]/\
   ∃G H,z3V w' lf (PI succ ref) G/\z2J w' rn (RF succ ref) H/\(∀k,G k->FL0 k\/w.heap.size<=k)/\(∀k,H k->FR0 k\/w.heap.size<=k)/\(∀k,G k->¬H k)/\Kp (λk=>FL0 k\/FR0 k) w w':=by
 refine py (e:=[(0,_),(1,_),(2,_)]) func221 O ntmps221 O O<|P6<|RX (α:=List Nat×Option Addr×Nat×List Nat×Option Addr×Nat×List Nat×List Nat) (succ,sa,sc,ref,ra,rc,[],[0]) (λx=>[(0,.slice x.2.1 x.1.length x.2.2.1),(1,.slice x.2.2.2.2.1 x.2.2.2.1.length x.2.2.2.2.2.1),(2,.func (.func 222) #[] #[ptr lf 0,ptr rn 0])]) (λx w'=>UB w succ ref lf rn FL0 FR0 x.1 x.2.1 x.2.2.1 x.2.2.2.1 x.2.2.2.2.1 x.2.2.2.2.2.1 x.2.2.2.2.2.2.1 x.2.2.2.2.2.2.2 w') (λx=>x.1.length+x.2.2.2.1.length) ?hI ?hround
 case hI=>exact Z
 case hround=>
  rintro⟨s,sa,sc,r,ra,rc,L,rs⟩ E hI Q;dsimp only at hI
  try dsimp only
  have hg:=(Ext.refl E).drew;have d:=hg.drew;have f:=hI.ext d;have p0:([]:List Nat).length=0:=rfl;have j:=hI.okS.len;have i:=hI.okR.len;rcases s with _|⟨x,s⟩
  ·rcases r with _|⟨y,r⟩
   ·refine Qi O<|RQ PS O<|R8 O<|Qb<|PB O<|RQ PS O<|R8 O<|Qb<|Ql O<|P4<|P9 O<|Pf O<|Qu func221 O ?_;have g:=hI.left;have c:=hI.fold;obtain⟨G,H,fs,o,n,l,I,J,v,A,B⟩:=hI.ex;rw[g,c];exact⟨_,O,O,G,H,by simpa[PI] using o,n,v,A,B,hI.kp⟩
   ·skip
    obtain⟨b2,D,rfl,C⟩:=hI.z9j;have S:0<((y::r:List Nat).length:Int):=by rw[y01];omega
    have V:¬(((y::r).length:Int)=0):=ω
    refine Qi O<|RQ PS O<|R8 O<|Qb<|PB O<|RQ PS O<|R8 O<|RO<|Ql O<|P4<|Pp O<|P5<|P6<|OY ?_;refine RI (λw'=>Ext E w') O<|Pu 0 O O hg<|P7 1 O (T7 PS O) hg<|P7 2 O (yeq O O) hg<|TJ<|Pu 3 O O hg<|Pu 4 O O hg<|P7 5 O (T7 PS O) hg<|P7 6 O (YT O O) hg<|TJ<|Pu 7 O O hg<|qJ 8 O hg<|qJ 9 O hg<|qJ 10 O hg ?_;refine qJ 11 O hg<|qJ 12 O hg<|qJ 13 O hg<|qJ 14 O hg<|P7 15 O (U0 O O) hg<|P7 16 O (U0 O O) hg<|P7 17 O (S6 O) hg<|qE<|OY<|RI (λw'=>Ext E w') O<|Pu 0 O O d<|P7 1 O (T7 PS O) d<|P7 2 O (yeq O O) d<|TW ?_;refine Pu 3 O O d<|qJ 4 O d<|qJ 5 O d<|qJ 6 O d<|qJ 7 O d<|qJ 8 O d<|qJ 9 O d<|qJ 10 O d<|qJ 11 O d<|qJ 12 O d<|qJ 13 O d<|qJ 14 O d<|qJ 15 O d<|P7 16 O (Ux O O) d ?_;refine P7 17 O (S6 O) d (qE (Qi O (P4 (P9 O (Pc O (PB O (qV (Qc PS Py O O ω) (qV (PG R9 O O (C _ f.kp)) ?_))))))));obtain⟨G,H,fs,o,n,l,I,J,v,A,B⟩:=f.ex;refine Rj O O (SE z5Q O O) (ZV n ω l.ne (λm N=>by have:=l.le m N;omega) y false) ?_;rintro _ T⟨rfl,K⟩;refine qM O (Ph O (P4 (Pp O (Ra O (qV (Zr PS Py O O (by rw[y01];omega) hI.clR) ?_)))));refine Pq O<|An ?_;exact(Q ([],sa,sc,r,_,rc-1,L,Rt rs false) _ (f.zd8 (.inl ⟨O,O,O,O,λz U=>by simp at U⟩) ⟨o,n,l,I,J,v,A,B⟩ K) (by dsimp only;simp only[y01,y1l];omega)).qb
  ·rcases r with _|⟨y,r⟩
   ·obtain⟨b,off,rfl,q⟩:=hI.z8q
    skip
    have S:0<((x::s:List Nat).length:Int):=by rw[y01];omega
    have W:¬(((x::s).length:Int)=0):=ω
    refine Qi O<|RQ PS O<|R8 O<|RO<|Ph O<|QV<|qS<|Rr O<|P4<|Pp O<|P5<|P6<|OY<|RI (λw'=>Ext E w') O ?_;refine Pu 0 O O hg<|P7 1 O (T7 PS O) hg<|P7 2 O (yeq O O) hg<|TW<|Pu 3 O O hg<|qJ 4 O hg<|qJ 5 O hg<|qJ 6 O hg<|qJ 7 O hg<|qJ 8 O hg<|qJ 9 O hg<|qJ 10 O hg<|qJ 11 O hg<|qJ 12 O hg ?_;refine qJ 13 O hg<|qJ 14 O hg<|qJ 15 O hg<|P7 16 O (Ux O O) hg<|P7 17 O (S6 O) hg<|qE<|OY<|RI (λw'=>Ext E w') O<|Pu 0 O O d<|P7 1 O (T7 PS O) d<|P7 2 O (yeq O O) d<|TJ<|Pu 3 O O d<|Pu 4 O O d ?_;refine P7 5 O (T7 PS O) d<|P7 6 O (YT O O) d<|TJ<|Pu 7 O O d<|qJ 8 O d<|qJ 9 O d<|qJ 10 O d<|qJ 11 O d<|qJ 12 O d<|qJ 13 O d<|qJ 14 O d<|P7 15 O (U0 O O) d<|P7 16 O (U0 O O) d<|P7 17 O (S6 O) d ?_;refine qE (Qi O (P4 (Pp O (QG O (qV (Qc PS Py O O ω) (qV (PG R9 O O (q _ f.kp)) (Ph O ?_)))))));obtain⟨G,H,fs,o,n,l,I,J,v,A,B⟩:=f.ex;have a:=f.zgS;refine Rj O O (SE z5Q O O) (z3r o ω x true) ?_;rintro _ T⟨rfl,K⟩;refine P4 (Ra O (qV (Zr PS Py O O (by rw[y01];omega) hI.clS) ?_));refine Rq O<|QC O<|An ?_;exact(Q (s,_,sc-1,[],ra,rc,L++[x],rs) _ (f.zfy ⟨o,n,l,I,J,v,A,B⟩ (λz U=>by simp at U) K) (by dsimp only;simp only[y01,y1l];omega)).qb
   ·rcases y3r x y with M|M|M
    ·obtain⟨b,off,rfl,q⟩:=hI.z8q;obtain⟨b2,D,rfl,C⟩:=hI.z9j;have S:0<((x::s:List Nat).length:Int):=by rw[y01];omega
     have Y:0<((y::r).length:Int):=by rw[y01];omega
     have V:¬(((y::r).length:Int)=0):=ω
     have W:¬(((x::s).length:Int)=0):=ω
     refine Qi O<|RQ PS O<|R8 O<|RO<|Ph O<|QV<|qS<|Rr O<|P4<|Pp O<|P5<|P6<|OY<|RI (λw'=>Ext E w') O ?_;refine Pu 0 O O hg (P7 1 O (T7 PS O) hg (P7 2 O (yeq O O) hg (TJ (Pu 3 O O hg (Pu 4 O O hg (P7 5 O (T7 PS O) hg (P7 6 O (YT O O) hg (TW (Pu 7 O O hg (Pu 8 O O hg (P7 9 O (Qc PS Py O O ω) hg (Pu 11 O O hg (P7 12 O (Qc PS Py O O ω) hg ?_)))))))))))));refine qT 10 O (λ_ h=>PG R9 O O (q _ (hI.kp.trans h.kp))) hg<|qT 13 O (λ_ h=>PG R9 O O (C _ (hI.kp.trans h.kp))) hg<|P7 14 O (ZG O O) hg<|TW<|P7 15 O (Ux O O) hg<|P7 16 O (U0 O O) hg<|P7 17 O (S6 O) hg<|qE<|OY<|RI (λw'=>Ext E w') O<|Pu 0 O O d<|P7 1 O (T7 PS O) d<|P7 2 O (yeq O O) d<|TJ ?_;refine Pu 3 O O d (Pu 4 O O d (P7 5 O (T7 PS O) d (P7 6 O (YT O O) d (TW (Pu 7 O O d (Pu 8 O O d (P7 9 O (Qc PS Py O O ω) d (Pu 11 O O d (P7 12 O (Qc PS Py O O ω) d (qT 10 O (λ_ h=>PG R9 O O (C _ (hI.kp.trans h.kp))) d (qT 13 O (λ_ h=>PG R9 O O (q _ (hI.kp.trans h.kp))) d (P7 14 O (ZG O O) d (TJ ?_)))))))))))));refine P7 15 O (Ux O O) d (P7 16 O (U0 O O) d (P7 17 O (S6 O) d (qE (Qi O (P4 (Pp O (QG O (qV (Qc PS Py O O ω) (qV (PG R9 O O (q _ f.kp)) (Ph O ?_))))))))));obtain⟨G,H,fs,o,n,l,I,J,v,A,B⟩:=f.ex;have a:=f.zgS;refine Rj O O (SE z5Q O O) (z3r o ω x true) ?_;rintro _ T⟨rfl,K⟩;refine P4 (Ra O (qV (Zr PS Py O O (by rw[y01];omega) hI.clS) ?_));refine Rq O<|QC O<|An ?_;exact(Q (s,_,sc-1,y::r,_,rc,L++[x],rs) _ (f.zfy ⟨o,n,l,I,J,v,A,B⟩ (z5k hI.okR.ris M) K) (by dsimp only;simp only[y01,y1l];omega)).qb
    ·obtain⟨b,off,rfl,q⟩:=hI.z8q;obtain⟨b2,D,rfl,C⟩:=hI.z9j;have S:0<((x::s:List Nat).length:Int):=by rw[y01];omega
     have Y:0<((y::r).length:Int):=by rw[y01];omega
     have V:¬(((y::r).length:Int)=0):=ω
     have W:¬(((x::s).length:Int)=0):=ω
     refine Qi O<|RQ PS O<|R8 O<|RO<|Ph O<|QV<|qS<|Rr O<|P4<|Pp O<|P5<|P6<|OY<|RI (λw'=>Ext E w') O ?_;refine Pu 0 O O hg (P7 1 O (T7 PS O) hg (P7 2 O (yeq O O) hg (TJ (Pu 3 O O hg (Pu 4 O O hg (P7 5 O (T7 PS O) hg (P7 6 O (YT O O) hg (TW (Pu 7 O O hg (Pu 8 O O hg (P7 9 O (Qc PS Py O O ω) hg (Pu 11 O O hg (P7 12 O (Qc PS Py O O ω) hg ?_)))))))))))));refine qT 10 O (λ_ h=>PG R9 O O (q _ (hI.kp.trans h.kp))) hg<|qT 13 O (λ_ h=>PG R9 O O (C _ (hI.kp.trans h.kp))) hg<|P7 14 O (ZG O O) hg<|TW<|P7 15 O (Ux O O) hg<|P7 16 O (U0 O O) hg<|P7 17 O (S6 O) hg<|qE<|OY<|RI (λw'=>Ext E w') O<|Pu 0 O O d<|P7 1 O (T7 PS O) d<|P7 2 O (yeq O O) d<|TJ ?_;refine Pu 3 O O d (Pu 4 O O d (P7 5 O (T7 PS O) d (P7 6 O (YT O O) d (TW (Pu 7 O O d (Pu 8 O O d (P7 9 O (Qc PS Py O O ω) d (Pu 11 O O d (P7 12 O (Qc PS Py O O ω) d (qT 10 O (λ_ h=>PG R9 O O (C _ (hI.kp.trans h.kp))) d (qT 13 O (λ_ h=>PG R9 O O (q _ (hI.kp.trans h.kp))) d (P7 14 O (ZG O O) d (TW ?_)))))))))))));refine P7 15 O (Ux O O) d (P7 16 O (U0 O O) d (P7 17 O (S6 O) d (qE (Qi O (P4 (Pp O (QG O (qV (Qc PS Py O O ω) (qV (PG R9 O O (q _ f.kp)) (Ph O ?_))))))))));obtain⟨G,H,fs,o,n,l,I,J,v,A,B⟩:=f.ex;refine Rj O O (SE z5Q O O) (ZV n ω l.ne (λm N=>by have:=l.le m N;omega) x true) ?_;rintro _ T⟨rfl,K⟩;refine P4 (Ra O (qV (Zr PS Py O O (by rw[y01];omega) hI.clS) ?_));refine Rq O (P4 (Pp O (Ra O (qV (Zr PS Py O O (by rw[y01];omega) hI.clR) ?_))));refine Pq O<|An ?_;subst M;exact(Q (s,_,sc-1,r,_,rc-1,L,Rt rs true) _ (f.zd8 (.inr ⟨O,O,O,O⟩) ⟨o,n,l,I,J,v,A,B⟩ K) (by dsimp only;simp only[y01,y1l];omega)).qb
    ·obtain⟨b,off,rfl,q⟩:=hI.z8q;obtain⟨b2,D,rfl,C⟩:=hI.z9j;have S:0<((x::s:List Nat).length:Int):=by rw[y01];omega
     have Y:0<((y::r).length:Int):=by rw[y01];omega
     have V:¬(((y::r).length:Int)=0):=ω
     have W:¬(((x::s).length:Int)=0):=ω
     refine Qi O<|RQ PS O<|R8 O<|RO<|Ph O<|QV<|qS<|Rr O<|P4<|Pp O<|P5<|P6<|OY<|RI (λw'=>Ext E w') O ?_;refine Pu 0 O O hg (P7 1 O (T7 PS O) hg (P7 2 O (yeq O O) hg (TJ (Pu 3 O O hg (Pu 4 O O hg (P7 5 O (T7 PS O) hg (P7 6 O (YT O O) hg (TW (Pu 7 O O hg (Pu 8 O O hg (P7 9 O (Qc PS Py O O ω) hg (Pu 11 O O hg (P7 12 O (Qc PS Py O O ω) hg ?_)))))))))))));refine qT 10 O (λ_ h=>PG R9 O O (q _ (hI.kp.trans h.kp))) hg<|qT 13 O (λ_ h=>PG R9 O O (C _ (hI.kp.trans h.kp))) hg<|P7 14 O (ZG O O) hg<|TJ<|P7 15 O (Ux O O) hg<|P7 16 O (U0 O O) hg<|P7 17 O (S6 O) hg<|qE<|OY<|RI (λw'=>Ext E w') O<|Pu 0 O O d<|P7 1 O (T7 PS O) d<|P7 2 O (yeq O O) d<|TJ ?_;refine Pu 3 O O d (Pu 4 O O d (P7 5 O (T7 PS O) d (P7 6 O (YT O O) d (TW (Pu 7 O O d (Pu 8 O O d (P7 9 O (Qc PS Py O O ω) d (Pu 11 O O d (P7 12 O (Qc PS Py O O ω) d (qT 10 O (λ_ h=>PG R9 O O (C _ (hI.kp.trans h.kp))) d (qT 13 O (λ_ h=>PG R9 O O (q _ (hI.kp.trans h.kp))) d (P7 14 O (ZG O O) d (TW ?_)))))))))))));refine P7 15 O (Ux O O) d (P7 16 O (U0 O O) d (P7 17 O (S6 O) d (qE (Qi O (P4 (P9 O (Pc O (PB O (qV (Qc PS Py O O ω) (qV (PG R9 O O (C _ f.kp)) ?_))))))))));obtain⟨G,H,fs,o,n,l,I,J,v,A,B⟩:=f.ex;refine Rj O O (SE z5Q O O) (ZV n ω l.ne (λm N=>by have:=l.le m N;omega) y false) ?_;rintro _ T⟨rfl,K⟩;refine qM O (Ph O (P4 (Pp O (Ra O (qV (Zr PS Py O O (by rw[y01];omega) hI.clR) ?_)))));refine Pq O<|An ?_;exact(Q (x::s,_,sc,r,_,rc-1,L,Rt rs false) _ (f.zd8 (.inl ⟨O,O,O,O,z5k hI.okS.ris M⟩) ⟨o,n,l,I,J,v,A,B⟩ K) (by dsimp only;simp only[y01,y1l];omega)).qb
structure TkM (w:World)(t r:Nat)(s:P8)(a:Nat):Prop where
 OZ:Pm w t [ptr r 0,.bool false] 332
 rd:Ul w r s a
 ne:t≠r
def TkM.ext {r:Nat}(h:TkM w t r s a)(d:Ext w w'):TkM w' t r s a:=⟨d.OZ h.OZ,⟨d.OZ h.rd.1,h.rd.2⟩,h.ne⟩
theorem UQ {r:Nat}(h:TkM w t r s a)(c:Cd)(v n:Nat)(H:c.R1)(J:v<=c.most)(N:v<=n)(Q:n<9223372036854775808)(rest:List Bool)(G:(PA s).drop a=c.enc v++rest):
  PN prog 243 [ptr t 0,cdV c,I (n:Int)] w λu w'=>u=I (v:Int)/\TkM w' t r s (a+(c.enc v).length)/\Kp (λk=>k=r) w w':=by
 obtain⟨x,y,D⟩:∃x y,SI c=[x,y]:=by cases c<;>exact⟨_,_,O⟩
 have o:cdV c= .agg [x,y].toArray:=by rw[cdV,D]
 have K:=c.z0Y
 rw[o]
 refine py (e:=[(0,_),(1,_),(2,_)]) func243 O ntmps243 O O<|qN O<|Pb O O (RP O (cs:=[x,y]) O) ?_
 rintro _ w1⟨B,rfl,M,l,z⟩
 have f:=h.ext l
 have q:¬B=r:=by have:=h.rd.1.lt;omega
 have hg:=(Ext.refl w1).drew
 refine Pq O<|OY<|RI (λw'=>Kp (λk=>k=r) w1 w') O<|Pu 0 O O hg.kp<|P7 1 O (QL O) hg.kp<|P7 2 O (PU zdl O) hg.kp<|qT 3 O (λ_ E=>Pl UU O O (E.OZ f.OZ h.ne) O) hg.kp<|qT 4 O (λ_ h=>PO (news:=[x,y]) St O Rh O ((h.OZ z q).cells (n:=2) O) O) hg.kp ?_
 rw[<-o]
 refine Tl 5 O zcd O (ZK (⟨hg.OZ f.rd.1,f.rd.2⟩:Ul _ r s a) c v H J rest G) ?_
 rintro _ w2⟨rfl,C,d⟩
 refine⟨hg.kp.trans d,?_⟩
 have m:=hg.kp.trans d
 have A:=m.OZ f.OZ h.ne
 refine Pu 6 O O (hg.kp.trans d)<|P7 7 O (S9 O O) (hg.kp.trans d)<|P7 8 O (S9 O O) (hg.kp.trans d)<|P7 9 O (S6 O) (hg.kp.trans d)<|P7 10 O (S6 O) (hg.kp.trans d)<|qE<|Qi O<|R5 O<|PB O<|Ph O<|qV (QH O U3 RW ω)<|R8 O<|Qb<|Ql O ?_
 refine QC O<|PL O<|qV (Q8 O RW U3 ω)<|Pq O<|PM.qb (e:=[(6,_)]) ?_
 refine P3 func243 O ?_
 exact⟨_,O,O,⟨A,C,h.ne⟩,l.kp.trans m⟩
theorem Qv (q:Cd×Nat)(l:List (Cd×Nat)):PD (q::l)=q.1.enc q.2++PD l:=rfl
def SL {s e rest:List Bool}(h:s.drop a=e++rest):s.drop (a+e.length)=rest:=by
 rw[<-y0E,h,y2L]
structure CpI (w:World)(t r:Nat)(s:P8)(rs ref:List Nat)(rest:List Bool)(aE i:Nat)(rs2 ref2:List Nat)(sa:Option Addr)(sc:Nat)(v5:Value)(O_:List Nat)(a:Nat)(w':World):Prop where
 tk:TkM w' t r s a
 kp:Kp (λk=>k=r) w w'
 sl:Sl w' v5 42 1 O_.length (O_.map PX)
 fr:∀g,v5.ownBlock=some g->w.heap.size<=g
 len:rs.length=i+rs2.length
 rd:∀w2,Kp (λk=>k=r) w w2->Rd w2 (.slice sa ref2.length sc) 1 ref2.length (ref2.map PX)
 cl:ref2.length<=sc
 sum:rs2.sum<=ref2.length
 pos:∀m∈rs2.drop (1-min i 1),1<=m
 bits:(PA s).drop a=PD (QN i rs2)++rest
 z4p:a+(PD (QN i rs2)).length=aE
 eq:copyL true rs ref=O_++copyL (i%2==0) rs2 ref2
 tot:O_.length+ref2.length<=65536
theorem zaI (a:Addr):a.add 0=a:=by
 unfold Addr.add
 split<;>simp_all
def zef {e:Env}{d:Option Nat}{t:TypeId}{pos:String}{g:Option (Nat×Bool)}{x u:Operand}{z:Value}{size bytes n:Nat}{a:Option Addr}{k:IntKind}{zb:Int}[xa:TG zb j](ht:P.underlying t=some (.slice el))(r:TI P el z size bytes)(q:look e x=some (.slice a n cap))
  (o:look e u=some (.int k zb)) (h:j<=cap):
  Y P e ⟨d,.slice t x none (some u) none,ty,pos,aft,g⟩ (.slice a j cap) w w:=fun ρ f=>by
 obtain⟨rfl⟩:=xa
 have l:=r.size (w:=w)
 have m:∀w,(Instr.sliceBound (.int k (j:Int)) cap .sliceAcap).run P w= .ok j w:=λw=>by rw[run_sliceBound _ _ _ _ _ ω ω];simp
 cases a with
 |none=>simp[execOp,f _ _ q,f _ _ o,Instr.sliceAt,run_underlying ht,Instr.slice,Instr.sliceBounds,m,l]
 |some a=>simp[execOp,f _ _ q,f _ _ o,Instr.sliceAt,run_underlying ht,Instr.slice,Instr.sliceBounds,m,l,zaI]
theorem z5a {r:Nat}(h:TkM w t r s a)(y:Pm w 1 (SI .gamma) 314)(dg:¬1=r)(ref rs:List Nat)
  (et:∀w2,Kp (λk=>k=r) w w2->Rd w2 (.slice sa ref.length sc) 1 ref.length (ref.map PX)) (ff:ref.length<=sc) (Bt:ref.length<=65536) (hn:rs.length<=ref.length+1) (V:rs.sum<=ref.length)
  (ip:∀m∈rs.drop 1,1<=m) (rest:List Bool) (W:(PA s).drop a=PD ((.gamma,rs.length)::QN 0 rs)++rest):
  PN prog 230 [ptr t 0,.slice sa ref.length sc] w λu w'=>Sl w' u 42 1 (copyL true rs ref).length ((copyL true rs ref).map PX)/\(∀g,u.ownBlock=some g->w.heap.size<=g)/\
   TkM w' t r s (a+(PD ((.gamma,rs.length)::QN 0 rs)).length)/\Kp (λk=>k=r) w w':=by
 have R:∀v:Nat,v<=65537->v<=Cd.most .gamma:=λv hv=>by simp only[Cd.most];omega
 refine py (e:=[(0,_),(1,_)]) func230 O ntmps230 O O<|qN O<|Ro O<|Rq O<|qV (PO (news:=[.int .u8 1,Pt 0]) St O Rh O (y.cells (n:=2) O) O)<|Ph O<|RQ PS O ?_
 rw[Qv,y05] at W
 rw[show((ref.length:Nat):Int)=((ref.length:Nat):Int) from rfl]
 refine Qj O<|Px z35 O (UQ h .gamma rs.length (ref.length+1) trivial (R _ ω) ω ω _ W) ?_
 rintro _ w1⟨rfl,p,aK⟩
 have bP:=SL W
 refine Pq O<|OY<|QG O<|P4<|P6<|RX (α:=Nat×List Nat×List Nat×Option Addr×Nat×Value×List Nat×Nat) (0,rs,ref,sa,sc,.slice none 0 0,[],a+(Cd.enc .gamma rs.length).length) (λx=>[(0,ptr t 0),(1,.slice x.2.2.2.1 x.2.2.1.length x.2.2.2.2.1),(5,x.2.2.2.2.2.1),(6,I (rs.length:Int)),(15,I (rs.length:Int)),(16,I (x.1:Int))]) (λx w'=>CpI w t r s rs ref rest (a+(PD ((.gamma,rs.length)::QN 0 rs)).length) x.1 x.2.1 x.2.2.1 x.2.2.2.1 x.2.2.2.2.1 x.2.2.2.2.2.1 x.2.2.2.2.2.2.1 x.2.2.2.2.2.2.2 w') (λx=>x.2.1.length) ?hI ?hround
 case hI=>exact⟨p,aK,Sl.nil _ _ _,(λg h=>by cases h),ξ,et,ff,V,ip,bP,by rw[Qv,Pe];dsimp only;omega,rfl,by simp;omega⟩
 case hround =>
  rintro⟨i,o,d,J,q,A,C,a2⟩ w6 hI L;dsimp only at hI;have M:=hI.len;have xu:=hI.tot
  try dsimp only
  refine qN O<|QY O<|P4<|OY<|Pn O (λh0=>?_)<|λh0=>?_
  ·obtain⟨n,o,rfl⟩:∃n l,o=n::l:=by
    cases o with
    |nil=>simp at M;omega
    |cons n l=>exact⟨n,l,O⟩
   have Bu:=hI.kp.OZ y dg;have V:=hI.sum;rw[y0I] at V;rw[y01] at M;have Q:=hI.bits;rw[QN,Qv,y05] at Q
   have ci:min i 1<=n:=by
    have F:=hI.pos n;rcases y0y i with e| e
    ·subst e;simp
    ·rw[show 1-min i 1=0 by omega] at F;have:=F y0p;omega
   refine P5 (R0 (PL O (Rq O (qV (PO (news:=[.int .u8 1,Pt 0]) St O Rh O (Bu.cells (n:=2) O) O) (Ph O (RQ PS O (Px z35 O (UQ hI.tk .gamma (n-min i 1) d.length trivial (R _ ω) ω ω _ Q) ?_)))))));rintro _ w7⟨rfl,z,N⟩;have P:=hI.kp.trans N;have bE:=z.OZ;refine Ph O<|qV (ymi O O)<|Qj O ?_;rw[show((n-min i 1:Nat):Int)+min (i:Int) 1=(n:Int) by omega];refine Pq O (Qi O (PQ O (Pr Uk O (qV (Pl U4 O O bE O) (PB O (Ph O (RQ PS O (R8 O (Qb (Ql O (QC O (Qi O (qV (Y2 O O ω ω) ?_)))))))))))));rw[y2j];have CH:=hI.rd _ P;have fj:=SL Q;have X:=hI.kp.size;have I8:=N.size
   have tr:∀g,A.ownBlock=some g->¬g=r:=λg hg e=>by
    have p:=hI.fr g hg;have h2:=h.rd.1.lt;omega
   have j:=hI.sl.kp N tr
   have K:∀(f:Value)(B:World),Sl B f 42 1 (C++if i%2==0 then d.take n else []).length ((C++if i%2==0 then d.take n else []).map PX)->(∀g,f.ownBlock=some g->w.heap.size<=g)->Kp (λk=>A.ownBlock=some k) w7 B->
     CpI w t r s rs ref rest (a+(PD ((.gamma,rs.length)::QN 0 rs)).length) (i+1) o (d.drop n) (if q=n then J else J.map (·.add (n*1))) (q-n) f (C++if i%2==0 then d.take n else []) (a2+(Cd.enc .gamma (n-min i 1)).length) B:=by
    intro f B g1 g2 U;have a1:=z.OZ.lt;have a0:=z.rd.1.lt;have lH:=h.OZ.lt;have eE:=h.rd.1.lt;have H:∀x,x<w.heap.size->¬A.ownBlock=some x:=λx hx e=>by have:=hI.fr x e;omega
    refine⟨⟨U.OZ z.OZ (H t lH),⟨U.OZ z.rd.1 (H r eE),z.rd.2⟩,z.ne⟩,P.It U (λk Y=> .inl (hI.fr k Y)),g1,g2,ω,λw2 k=>?_,by rw[y07];have:=hI.cl;omega,by rw[y07];omega,?_,?_,?_,?_,?_⟩
    ·have:=Uh (hI.rd w2 k) (i:=n) ω hI.cl;rw[<-y1T] at this;rw[y07];exact this
    ·intro m Z;refine hI.pos m ?_;rw[show 1-min (i+1) 1=0 by omega,y13] at Z;rcases y0y i with e| e
     ·subst e;exact Z
     ·rw[show 1-min i 1=0 by omega];exact y0s _ Z
    ·exact fj
    ·have:=hI.z4p;rw[QN,Qv,Pe] at this;dsimp only at this;omega
    ·rw[hI.eq,copyL,y05]
     have:((i+1)%2==0)= !(i%2==0):=by
      rcases y1Q i with e| e
      ·rw[e,show(i+1)%2=1 by omega];rfl
      ·rw[e,show(i+1)%2=0 by omega];rfl
     rw[this]
    ·rw[Pe,y07];split
     ·rw[y0d];omega
     ·simp;omega
   refine Rx O<|P4<|Pn O (λS=>?_)<|λS=>?_
   ·have T:(i%2==0)=true:=by simp;omega
    simp only[T,if_true] at K;refine Pc O (PB O (Ph O (qV (zef PS Py O O (by have:=hI.cl;omega)) ?_)));have JY:=hI.cl;refine Pb O O (pap PS Py O ψ O O j (VC CH (i:=n) ω) (by rw[<-y1k];exact Zw _) ω (by simp only[maxLen];omega)) ?_;rintro f B⟨G,D,c,-⟩;have mM:=G.oneV;refine Pq O (Pc O (PB O (qV (Zr PS Py O O ω hI.cl) (Pq O (An (Pc O (Qj O (Ph O (P4 ?_)))))))));rw[show d.length-n=(d.drop n).length by rw[y07]];refine(L (i+1,o,d.drop n,_,q-n,f,C++d.take n,_) _ (K f _ ?_ ?_ D) (by dsimp only;simp)).qb
    ·rw[Pe,y0f,y0d,y0B ω,y1k];exact G
    ·intro g hg;rcases c g hg with e| e
     ·exact hI.fr g e
     ·omega
   ·have T:(i%2==0)=false:=by simp;omega
    simp only[T,y2o,if_false,y0o] at K;refine P5 (Pc O (PB O (qV (Zr PS Py O O ω hI.cl) (Pq O (An (Pc O (Qj O (Ph O (P4 ?_)))))))));rw[show d.length-n=(d.drop n).length by rw[y07]];exact(L (i+1,o,d.drop n,_,q-n,A,C,_) _ (K A _ j hI.fr (Kp.refl _ _)) (by dsimp only;simp)).qb
  ·have fd:o=[]:=y0t ω;subst fd;have O3:rs.length=i:=by rw[M];simp
   have b:=hI.z4p;have E:=hI.eq;rw[copyL] at E;rw[show(PD (QN i [])).length=0 from rfl,y1e] at b;refine Pf O (Qi O (qV (Y2 O O ω ω) ?_));rw[y2j];refine Rx O<|P4<|Pn O (λS=>?_)<|λS=>?_
   ·rw[if_pos (by simp;omega)] at E;refine Pc O (PB O (Pb O O (pap PS Py O ψ O O hI.sl (hI.rd _ hI.kp) (Zw _) ω (by simp only[maxLen];omega)) ?_));rintro f B⟨G,D,c,-⟩;have mM:=G.oneV;refine Rq O<|Pq O<|P3 func230 O ?_;rw[E,<-b];have X:=hI.kp.size;have H:∀x,x<w.heap.size->¬A.ownBlock=some x:=λx hx e=>by have:=hI.fr x e;omega
    refine⟨_,O,?_,λg hg=>?_,⟨D.OZ hI.tk.OZ (H t h.OZ.lt),⟨D.OZ hI.tk.rd.1 (H r h.rd.1.lt),hI.tk.rd.2⟩,hI.tk.ne⟩,hI.kp.It D (λk Y=> .inl (hI.fr k Y))⟩
    ·rw[Pe,y0f];exact G
    ·rcases c g hg with e| e
     ·exact hI.fr g e
     ·omega
   ·rw[if_neg (by simp;omega),y0o] at E;refine P5<|PL O<|Pq O<|P3 func230 O ?_;rw[E,<-b];exact⟨_,O,hI.sl,hI.fr,hI.tk,hI.kp⟩
structure ReI (w w1:World)(t r:Nat)(s:P8)(l:List Nat)(x k:Nat)(rest:List Bool)(aE b7:Nat)(dn l2:List Nat)(v9:Value)(a:Nat)(w':World):Prop where
 tk:TkM w' t r s a
 kp:Kp (λk=>k=t\/k=r) w w'
 b7:Pm w' b7 (SI (.zeta k)) 314
 sl:Sl w' v9 42 1 dn.length (dn.map PX)
 fr:∀g,v9.ownBlock=some g->w1.heap.size<=g
 eq:l=dn++l2
 bits:(PA s).drop a=PD (Qg x k dn.getLast? l2)++rest
 z4p:a+(PD (Qg x k dn.getLast? l2)).length=aE
 siz:w1.heap.size<=w'.heap.size
theorem z6v {r:Nat}(h:TkM w t r s a)(x k:Nat)(hx:x<65536)(hk:1<=k/\k<=16)(l:List Nat)(Q:Q4 l)(rest:List Bool)(hb:(PA s).drop a=PD (Qg x k none l)++rest):
  PN prog 232 [ptr t 0,I (x:Int),I (l.length:Int),cdV (.zeta k)] w λu w'=>Sl w' u 42 1 l.length (l.map PX)/\(∀g,u.ownBlock=some g->w.heap.size<=g)/\
   TkM w' t r s (a+(PD (Qg x k none l)).length)/\Kp (λk=>k=t\/k=r) w w':=by
 have aB:=Q.len
 have a1:=h.OZ.lt
 have a0:=h.rd.1.lt
 refine py (e:=[(0,_),(1,_),(2,_),(3,_)]) func232 O ntmps232 O O<|qN O<|Pb O O (RP O (cs:=SI (.zeta k)) O) ?_
 rintro _ w1⟨b7,rfl,kR,K,Y⟩
 have h1:=h.ext K
 have z1:=K.size
 have I9:=Y.lt
 refine Ro O<|Pq O<|OY<|QG O<|P4<|P6<|RX (α:=List Nat×List Nat×Value×Nat) ([],l,.slice none 0 0,a) (λy=>[(0,ptr t 0),(1,I (x:Int)),(7,ptr b7 0),(9,y.2.2.1),(12,I (l.length:Int)),(13,I (y.1.length:Int))]) (λy w'=>ReI w w1 t r s l x k rest (a+(PD (Qg x k none l)).length) b7 y.1 y.2.1 y.2.2.1 y.2.2.2 w') (λy=>y.2.1.length) ?hI ?hround
 case hI=>exact⟨h1,K.kp,Y,Sl.nil _ _ _,(λg h=>by cases h),rfl,hb,rfl,y02 _⟩
 case hround =>
  rintro⟨d,f,v9,a2⟩ w6 hI ih;dsimp only at hI;have m:=hI.eq;have j:l.length=d.length+f.length:=by rw[m,Pe]
  try dsimp only
  refine qN O<|QY O<|P4<|OY<|Pn O (λp=>?_)<|λp=>?_
  ·obtain⟨y,f,rfl⟩:∃y q,f=y::q:=by
    cases f with
    |nil=>simp at j;omega
    |cons y q=>exact⟨y,q,O⟩
   rw[y01] at j;have Ia:y<65536:=Q.lt y (by rw[m];simp);have W:=hI.b7;have M:=hI.bits;have D:=hI.z4p
   have key:∃v:Nat,Qg x k d.getLast? (y::f)=(.zeta k,v)::Qg x k (d++[y]).getLast? f/\v<=262144/\(d=[]->v=zig ((y:Int)-x))/\∀u q,d=q++[u]->v+(u+1)=y:=by
    rw[List.getLast?_append,show [y].getLast? =some y from rfl,Option.some_or];rcases List.eq_nil_or_concat d with rfl|⟨q,u,rfl⟩
    ·refine⟨_,O,?_,λ_=>rfl,λu q e=>by simp at e⟩;have:=z09 (z:=(y:Int)-x) (n:=65536) ω ω;omega
    ·have hu:u<y:=by
      have L:=Q.ris;rw[m] at L;exact(y32.1 L).2.2 u ξ y ξ
     refine⟨y-u-1,?_,ω,λe=>by simp at e,λu2 q2 e=>?_⟩
     ·have H:(q.concat u).getLast? =some u:=ξ
      rw[H];rfl
     ·have e2:q++[u]=q2++[u2]:=by simpa using e
      have:=(List.append_inj' e2 O).2;simp at this;omega
   obtain⟨v,i,kV,JZ,wo⟩:=key;rw[i,Qv,y05] at M;rw[i,Qv,Pe] at D;refine P5 (R0 (PL O (Rq O (qV (PO (news:=SI (.zeta k)) St O Rh O (W.cells (n:=2) O) O) (Px z35 O (UQ hI.tk (.zeta k) v 262144 hk (by simp only[Cd.most];omega) kV ω _ M) ?_)))));rintro _ U⟨rfl,C,E⟩;have iq:Kp (λk=>k=t\/k=r) w U:=hI.kp.trans (E.Pk λk e=> .inr e);have fj:=SL M;have J:=hI.sl.kp E (λg hg e=>by have:=hI.fr g hg;omega);have R:=E.OZ W ω;have I8:=hI.siz;have Bs:=E.size;refine Pq O<|Qi O<|Rx O<|P4<|Qf (λb w'=>w'=U/\b=[(0,ptr t 0),(1,I (x:Int)),(7,ptr b7 0),(9,v9),(11,I (y:Int)),(12,I (l.length:Int)),(13,I (d.length:Int))]) ?n6<|λn6=>?n8
   case n6=>
    rintro b U⟨rfl,rfl⟩;have P:=C.OZ;refine OY<|QG O<|PQ O<|Pr Uk O<|qV (Pl U4 O O P O)<|PB O<|Px z9d O (Wt y Ia _) ?_;rintro _ V⟨rfl,rfl⟩;refine qV (SD O) (Ql O (PQ O (Pr Uk O (Po O (QZ TZ O O O P ξ) ?_))));rintro V⟨G,B⟩;replace G:Pm V t [ptr r 0,.bool false] 332:=G;refine qM O<|Ph O<|PQ O<|Pr Uk O<|qV (Pl U4 O O G O)<|QC O<|Pc O<|PB O<|qV (z5R O U3 R9) ?_;rw[y0g (show y<4294967296 by omega)];refine Pb O O (YD (cs:=[_]) (zs:=[Value.int .u32 0]) PS Py O Pd O O O ψ) ?_;rintro _ w9⟨b9,rfl,⟨mO,o,cB⟩,nu⟩;have nt:∀g,v9.ownBlock=some g->¬g=t:=λg hg e=>by have:=hI.fr g hg;omega
    have jD:∀g,v9.ownBlock=some g->¬g=r:=λg hg e=>by have:=hI.fr g hg;omega
    have Ib:=B.size;have Ic:=o.size;refine Pb O O (pap PS Py O ψ O O ((J.kp B nt).ext o) nu.rd (by intro c F;simp at F;subst F;rfl) ω (by simp only[maxLen];omega)) ?_;rintro T a3⟨Z,A,X,-⟩;have mM:=Z.oneV;refine Pq O<|An<|Pc O<|Qj O<|Ph O<|P4 ?_;have S:∀g,g<w1.heap.size->¬v9.ownBlock=some g:=λg hg e=>by have:=hI.fr g e;omega
    rw[show(d.length:Int)+1=((d++[y]).length:Int) by simp];refine(ih (d++[y],f,T,a2+(Cd.enc (.zeta k) v).length) _ ⟨⟨A.OZ (o.OZ G) (S t ω),⟨A.OZ (o.OZ (B.OZ C.rd.1 (λe=>C.ne e.symm))) (S r ω),C.rd.2⟩,C.ne⟩,?_,?_,?_,?_,?_,fj,?_,?_⟩ (by dsimp only;simp)).qb
    ·exact((iq.trans (B.Pk λk e=> .inl e)).trans o.kp).It A (λg hg=> .inl (by have:=hI.fr g hg;omega))
    ·exact A.OZ (o.OZ (B.OZ R ω)) (S b7 ω)
    ·rw[Pe,y0f];exact Z
    ·intro g hg;rcases X g hg with e| e
     ·exact hI.fr g e
     ·omega
    ·rw[m,y05];rfl
    ·dsimp only at D⊢;omega
    ·have:=A.size;omega
   case n8=>
    refine Pn O (λH=>?_)<|λH=>?_
    ·have N:d=[]:=y0t ω;refine Ra O (qV (QH O U3 RW ω) (Px zeU O (z90 v ω _) ?_));rintro _ V⟨rfl,rfl⟩;rw[JZ N,z8L];refine Ph O<|Qj O ?_;rw[show(y:Int)-x+x=(y:Int) by omega];refine Pq O ?_;exact(n6 _ _ ⟨O,O⟩).qb
    ·obtain⟨q,u,rfl⟩:∃q u,d=q++[u]:=by
      rcases List.eq_nil_or_concat d with rfl|⟨q,u,rfl⟩
      ·exact absurd O H
      ·exact⟨q,u,ξ⟩
     have Id:=wo u q O;have pG:(q++[u]).length=q.length+1:=ξ
     rw[pG] at J;rcases J.shape with⟨-,p⟩|⟨g,c1,rfl,eD⟩
     ·omega
     refine Pc O<|PB O<|Ph O<|RR O ?_;rw[show(((q++[u]).length:Nat):Int)-1=(q.length:Int) by simp];refine qV (Qc PS Py O O ω) (qV (PG R9 O O (Qs J.rd (show((q++[u]).map PX)[q.length]? =some (PX u) by simp))) ?_);refine qV (Q8 O R9 U3 ω)<|Qj O<|Qj O ?_;rw[show(v:Int)+((u:Int)+1)=(y:Int) by omega];refine Pq O ?_;exact(n6 _ _ ⟨O,O⟩).qb
  ·have N:f=[]:=y0t ω;subst N;refine Pf O<|PL O<|Pq O<|P3 func232 O ?_;rw[y0o] at m;subst m;have D:=hI.z4p;rw[show(PD (Qg x k l.getLast? [])).length=0 by cases l.getLast?<;>rfl,y1e] at D;rw[<-D];exact⟨_,O,hI.sl,λg hg=>by have:=hI.fr g hg;omega,hI.tk,hI.kp⟩
section
variable {b:Frame}{a:Act}{k:List Item}{cs:List Frame}{C:Cx}{e:Env}
def z68:step P (lone (b.atR a (.code (.scope c)::k)) cs w)= .next (lone (b.atR a (.code c:: .inScope c::k)) cs w):=
 step_lone_go (by simp[stepG,stepG.exec,Frame.atR])
theorem z36 (h:PM C (.code c:: .inScope c::k) e w):PM C (.code (.scope c)::k) e w:=λa d=>WS.step (λ_ _=>z68) (h a d)
end
def loE:Option Nat->Nat
 |none=>0
 |some z=>z+2
def z7b:Option Nat->Int
 |none=>-1
 |some z=>(z:Int)
def Vb (x:Nat):Option Nat->Nat->Nat
 |none,y=>zig ((y:Int)-x)
 |some e,y=>y-e-2
theorem Sb (x least:Nat)(e:Option Nat)(p:Nat×Nat)(R:List (Nat×Nat)):Qd x least e (p::R)=(.gamma,Vb x e p.1)::(.gamma,p.2-least)::Qd x least (some (p.1+p.2-1)) R:=by
 cases e<;>rfl
structure LoI (w:World)(t r:Nat)(s:P8)(R:List (Nat×Nat))(x least left:Nat)(rest:List Bool)(aE:Nat)(i:Nat)(R2:List (Nat×Nat))(e:Option Nat)(O_:List Nat)(v9:Value)(a:Nat)(w':World):Prop where
 tk:TkM w' t r s a
 kp:Kp (λk=>k=t\/k=r) w w'
 sl:Sl w' v9 42 1 O_.length (O_.map PX)
 fr:∀g,v9.ownBlock=some g->w.heap.size<=g
 len:R.length=i+R2.length
 eq:Rm R=O_++Rm R2
 ok:Tp least (loE e) R2
 hi:∀p∈R2,p.1+p.2<=65536
 tot:O_.length+(Rm R2).length<=left
 bits:(PA s).drop a=PD (Qd x least e R2)++rest
 z4p:a+(PD (Qd x least e R2)).length=aE
 eb:z7b e<65536
theorem z9D {r:Nat}(h:TkM w t r s a)(hG:Pm w 1 (SI .gamma) 314)(dg:¬1=r)(nv:¬1=t)(x left least:Nat)(hx:x<65536)(rK:left<=65536)(CK:least<=64)(R:List (Nat×Nat))(hR:Tp least 0 R)(K0:∀p∈R,p.1+p.2<=65536)
  (xu:(Rm R).length<=left) (K6:R.length<=left) (rest:List Bool) (T:(PA s).drop a=PD ((.gamma,R.length)::Qd x least none R)++rest):
  PN prog 231 [ptr t 0,I (x:Int),I (left:Int),I (least:Int)] w λu w'=>Sl w' u 42 1 (Rm R).length ((Rm R).map PX)/\(∀g,u.ownBlock=some g->w.heap.size<=g)/\
   TkM w' t r s (a+(PD ((.gamma,R.length)::Qd x least none R)).length)/\Kp (λk=>k=t\/k=r) w w':=by
 have V:∀v:Nat,v<=262144->v<=Cd.most .gamma:=λv hv=>by simp only[Cd.most];omega
 have Z:=h.OZ.lt
 have Y:=h.rd.1.lt
 refine py (e:=[(0,_),(1,_),(2,_),(3,_)]) func231 O ntmps231 O O<|Re O<|z36<|qN O<|Ro O<|Pq O<|OY<|z2T<|Qi O<|qV (PO (news:=[.int .u8 1,Pt 0]) St O Rh O (hG.cells (n:=2) O) O) ?_
 rw[Qv,y05] at T
 refine Ph O<|Px z35 O (UQ h .gamma R.length left trivial (V _ ω) K6 ω _ T) ?_
 rintro _ w1⟨rfl,h1,aK⟩
 have bP:=SL T
 refine Ph O<|P4<|P6<|RX (α:=Nat×List (Nat×Nat)×Option Nat×List Nat×Value×Nat) (0,R,none,[],.slice none 0 0,a+(Cd.enc .gamma R.length).length) (λy=>[(0,ptr t 0),(1,I (x:Int)),(2,I (left:Int)),(3,I (least:Int)),(9,y.2.2.2.2.1),(10,I (z7b y.2.2.1)),(17,I (R.length:Int)),(18,I (y.1:Int))]) (λy w'=>LoI w t r s R x least left rest (a+(PD ((.gamma,R.length)::Qd x least none R)).length) y.1 y.2.1 y.2.2.1 y.2.2.2.1 y.2.2.2.2.1 y.2.2.2.2.2 w') (λy=>y.2.1.length) ?hI ?hround
 case hI=>exact⟨h1,aK.Pk λk e=> .inr e,Sl.nil _ _ _,(λg h=>by cases h),ξ,rfl,hR,K0,by simpa using xu,bP,by rw[Qv,Pe];dsimp only;omega,(show(-1:Int)<65536 by decide)⟩
 case hround =>
  rintro⟨i,R2,e,m,v9,a2⟩ w6 hI ih;dsimp only at hI;have aB:=hI.len
  try dsimp only
  refine qN O<|QY O<|P4<|OY<|Pn O (λh0=>?_)<|λh0=>?_
  ·obtain⟨⟨d,f⟩,R2,rfl⟩:∃p q,R2=p::q:=by
    cases R2 with
    |nil=>simp at aB;omega
    |cons p q=>exact⟨p,q,O⟩
   rw[y01] at aB;obtain⟨F,a1,a3,L⟩:loE e<=d/\1<=f/\least<=f/\Tp least (d+f+1) R2:=hI.ok;have O4:d+f<=65536:=hI.hi (d,f) y0p;have ic:Rm ((d,f)::R2)=(List.range f).map (d+·)++Rm R2:=rfl;have rL:=hI.tot;have xv:=hI.eq;rw[ic] at rL xv;rw[Pe,y0k,y14] at rL;have N:=hI.bits;have E:=hI.z4p;rw[Sb,Qv,Qv,y05,y05] at N;rw[Sb,Qv,Qv,Pe,Pe] at E;have CL:=hI.eb
   have fL:Vb x e d<=262144:=by
    cases e with
    |none=>have:=z09 (z:=(d:Int)-x) (n:=65537) ω ω;show zig _<=_;omega
    |some z=>show d-z-2<=_;omega
   have W:∀k,(λk=>k=t\/k=r) k->k<w.heap.size:=λk hk=>by rcases hk with e|e<;>omega
   have Bu:=hI.kp.OZ hG (λe=>by rcases e with e|e;exact nv e;exact dg e);refine P5 (R0 (PL O (qV (PO (news:=[.int .u8 1,Pt 0]) St O Rh O (Bu.cells (n:=2) O) O) (Px z35 O (UQ hI.tk .gamma (Vb x e d) 262144 trivial (V _ fL) fL ω _ N) ?_))));rintro _ X⟨rfl,h7,J⟩;have fj:=SL N;have I8:=hI.kp.size;have Bs:=J.size;have wq:∀g,v9.ownBlock=some g->¬g=r:=λg hg e=>by have:=hI.fr g hg;omega
   have gZ:=hI.sl.kp J wq;have iq:Kp (λk=>k=t\/k=r) w X:=hI.kp.trans (J.Pk λk e=> .inr e);refine Pq O<|Qi O<|QY O<|P4<|Qf (λe' w'=>w'=X/\e'=[(0,ptr t 0),(1,I (x:Int)),(2,I (left:Int)),(3,I (least:Int)),(9,v9),(11,I (d:Int)),(17,I (R.length:Int)),(18,I (i:Int))]) ?n6<|λn6=>?n8
   case n6 =>
    rintro e' X⟨rfl,rfl⟩;have Ka:=J.OZ Bu dg;refine PL O (qV (PO (news:=[.int .u8 1,Pt 0]) St O Rh O (Ka.cells (n:=2) O) O) (Ph O (Px z35 O (UQ h7 .gamma (f-least) left trivial (V _ ω) ω ω _ fj) ?_)));rintro _ w8⟨rfl,D,M⟩;have tv:=SL fj;have Ib:=M.size;have eC:=gZ.kp M wq;have pJ:Kp (λk=>k=t\/k=r) w w8:=iq.trans (M.Pk λk e=> .inr e);obtain⟨va,vc,rfl,-⟩:=hI.sl.rd.shape;refine Ph O<|Qj O ?_;rw[show((f-least:Nat):Int)+(least:Int)=(f:Int) by omega];have bh:=D.OZ;refine Pq O<|OY<|QG O<|PQ O<|Pr Uk O<|qV (Pl U4 O O bh O)<|PB O<|QY O<|Qb<|Ql O<|PB O<|Ph O<|Qj O<|R8 O ?_;refine Qb (Ql O (PB O (PB O (RQ PS O (RR O (R8 O (Qb (Ql O (PQ O (Pr Uk O (Po O (QZ TZ O O O bh ξ) ?_)))))))))));rintro w9⟨K,H⟩;replace K:Pm w9 t [ptr r 0,.bool false] 332:=K;refine qM O<|Ph O<|PQ O<|Pr Uk O<|qV (Pl U4 O O K O) ?_;have Ic:=H.size;have nu:=eC.kp H (λg hg e=>by have:=hI.fr g hg;omega);have h9:TkM w9 t r s (a2+(Cd.enc .gamma (Vb x e d)).length+(Cd.enc .gamma (f-least)).length):=⟨K,⟨H.OZ D.rd.1 (λe=>D.ne e.symm),D.rd.2⟩,D.ne⟩;have tz:Kp (λk=>k=t\/k=r) w w9:=pJ.trans (H.Pk λk e=> .inl e);refine QC O<|OY<|QG O<|P4<|P6<|RX (α:=Nat×Value) (0,.slice va m.length vc) (λy=>[(0,ptr t 0),(1,I (x:Int)),(2,I (left:Int)),(3,I (least:Int)),(9,y.2),(11,I (d:Int)),(12,I (f:Int)),(17,I (R.length:Int)),(18,I (i:Int)),(69,I (f:Int)),(70,I (y.1:Int))]) (λy w'=>TkM w' t r s (a2+(Cd.enc .gamma (Vb x e d)).length+(Cd.enc .gamma (f-least)).length)/\Kp (λk=>k=t\/k=r) w w'/\Sl w' y.2 42 1 (m.length+y.1) ((m++(List.range y.1).map (d+·)).map PX)/\(∀g,y.2.ownBlock=some g->w.heap.size<=g)/\y.1<=f) (λy=>f-y.1) ?hI ?hround
    case hI=>exact⟨h9,tz,by simpa using nu,hI.fr,y00 _⟩
    case hround=>
     rintro⟨j,v⟩ a4 ⟨o,G,S,B,hj⟩ U;dsimp only at o G S B hj
     try dsimp only
     refine qN O<|QY O<|P4<|OY<|Pn O (λkW=>?_)<|λkW=>?_
     ·refine P5<|R0<|PL O<|Pq O<|Pc O<|PB O<|Ph O<|Qj O<|qV (z5R O U3 R9) ?_;rw[show(d+j)%4294967296=d+j by omega];refine Pb O O (YD (cs:=[_]) (zs:=[Value.int .u32 0]) PS Py O Pd O O O ψ) ?_;rintro _ a5⟨a0,rfl,⟨jb,A,aZ⟩,tA⟩;have Kb:=G.size;have Kc:=A.size;refine Pb O O (pap PS Py O ψ O O (S.ext A) tA.rd (by intro c hc;simp at hc;subst hc;rfl) ω (by simp only[maxLen];omega)) ?_;rintro P a6⟨W,Q,CM,-⟩;have mM:=W.oneV;refine Pq O<|An<|Pc O<|Qj O<|Ph O<|P4 ?_;have xw:∀g,g<w.heap.size->¬v.ownBlock=some g:=λg hg e=>by have:=B g e;omega
      refine(U (j+1,P) _ ⟨⟨Q.OZ (A.OZ o.OZ) (xw t Z),⟨Q.OZ (A.OZ o.rd.1) (xw r Y),o.rd.2⟩,o.ne⟩,(G.trans A.kp).It Q (λg hg=> .inl (B g hg)),?_,λg hg=>?_,ω⟩ (by dsimp only;omega)).qb
      ·have l:(m++(List.range (j+1)).map (d+·)).map PX=(m++(List.range j).map (d+·)).map PX++[PX (d+j)]:=by
        rw[y0P];simp
       dsimp only;rw[l];exact W
      ·rcases CM g hg with e| e
       ·exact B g e
       ·omega
     ·have Kd:j=f:=ω
      subst Kd;refine Pf O<|Pc O<|PB O<|Qj O<|RR O<|Pq O<|An<|Pc O<|Qj O<|Ph O<|P4 ?_;rw[show(d:Int)+j-1=z7b (some (d+j-1)) by show _=((d+j-1:Nat):Int);omega,show(i:Int)+1=((i+1:Nat):Int) by omega];refine(ih (i+1,R2,some (d+j-1),m++(List.range j).map (d+·),v,_) _ ⟨o,G,?_,B,by dsimp only;omega,by rw[xv,y05],?_,λp hp=>hI.hi p (y0s _ hp),?_,tv,?_,?_⟩ (by dsimp only;simp)).qb
      ·dsimp only;rw[Pe,y0k,y14];exact S
      ·refine L.mono ?_;show d+j-1+2<=_;omega
      ·dsimp only;rw[Pe,y0k,y14];omega
      ·dsimp only at E⊢;omega
      ·show((d+j-1:Nat):Int)<65536;omega
   case n8=>
    cases e with
    | none =>
      refine Pn O (λl=>?_)<|λl=>?_
      ·refine Ra O (qV (QH O U3 RW ω) (Px zeU O (z90 _ ω _) ?_));rintro _ w8⟨rfl,rfl⟩;rw[show Vb x none d=zig ((d:Int)-x) from rfl,z8L];refine Ph O<|Qj O ?_;rw[show(d:Int)-x+x=(d:Int) by omega];refine Pq O ?_;exact(n6 _ _ ⟨O,O⟩).qb
      ·exact absurd ψ l
    | some z =>
      refine Pn O (λl=>?_)<|λl=>?_
      ·exact absurd l (by show ¬((z:Int)<0);omega)
      ·have hz:z+2<=d:=F;refine Pc O<|PB O ?_;rw[show z7b (some z)=(z:Int) from rfl];refine Qj O<|Qj O ?_;rw[show Vb x (some z) d=d-z-2 from rfl,show((d-z-2:Nat):Int)+((z:Int)+2)=(d:Int) by omega];refine Pq O ?_;exact(n6 _ _ ⟨O,O⟩).qb
  ·have fd:R2=[]:=y0t ω;subst fd;refine Pf O<|PL O<|Pq O<|P3 func231 O ?_;have dV:=hI.eq;rw[show Rm []=[] from rfl,y0o] at dV;have E:=hI.z4p;rw[show(PD (Qd x least e [])).length=0 by cases e<;>rfl,y1e] at E;rw[dV,<-E];exact⟨_,O,hI.sl,hI.fr,hI.tk,hI.kp⟩
def R4 (p:Sr)(n r:Nat):List (Cd×Nat):=(.gamma,n)::if n=0 then [] else if 0<p.PE then [(.unary,r)] else []
theorem z3b {r:Nat}(h:Ul w r s a)(p:Sr)(U:p.R1)(c:Pm w 1 (SI .gamma) 314)(g:Pm w 2 (SI .unary) 314)(L:¬1=r)(b:¬2=r)(n q:Nat)(hn:n<=65536)(hq:q<=p.PE)
  (t:n=0->q=0) (rest:List Bool) (z:(PA s).drop a=PD (R4 p n q)++rest):
  PN prog 210 [ptr r 0,lpV p] w λu w'=>u= .tuple #[.agg #[I (n:Int),I (q:Int)],I 0]/\Ul w' r s (a+(PD (R4 p n q)).length)/\Kp (λk=>k=r) w w':=by
 obtain⟨R,X,g3,g4⟩:=id U
 have j:=h.1.lt
 have y:p.PE=0->q=0:=λe=>ω
 unfold R4 at z⊢
 rw[Qv,y05] at z
 refine py (e:=[(0,_),(1,_)]) func210 O ntmps210 O O<|qN O<|Pb O O (RP O (cs:=lpC p) O) ?_
 rintro _ w1⟨b3,rfl,P,N,Y⟩
 refine Pb O O (S5 (cs:=[_,_]) SH O) ?_
 rintro _ w2⟨G,rfl,g7,C,W⟩
 have z1:=N.size
 have z2:=C.size
 have Q:=C.OZ Y
 refine Pq O<|R0<|PL O<|qV (Qz UU O O)<|Pq O<|P9 O<|qN O<|qV (PO (news:=lpC p) Xf O UA O (Q.cells (n:=3) O) O)<|Px z5G O (Us p U w2) ?_
 rintro _ w3⟨rfl,D⟩
 refine R5 O<|SO O ?_
 have H:=(N.trans C).trans D
 have S:Ul w3 r s a:=⟨H.OZ h.1,h.2⟩
 refine QC O<|An<|PL O<|Px Zc O (UF S) ?_
 rintro _ w4⟨rfl,rfl⟩
 refine Rq O<|qV (PO (news:=[.int .u8 1,Pt 0]) St O Rh O ((H.OZ c).cells (n:=2) O) O)<|Px zcd O (ZK S .gamma n trivial (by simp only[Cd.most];omega) _ z) ?_
 rintro _ V⟨rfl,o,E⟩
 have m:=SL z
 have l:=E.OZ (D.OZ Q) ω
 have B:=E.OZ (D.OZ W) ω
 have x:Kp (λk=>k=r) w V:=H.kp.trans E
 replace l:Pm V b3 [I (p.PE:Int),I (p.interval:Int),I (p.zeta:Int)] 276:=l
 refine Ph O<|Ta O<|SO O<|Ro O<|Pq O<|Qi O<|Rx O<|Ph O ?_
 rcases y0y n with J|J
 ·have M:=t J;subst J;subst M;refine Ph O<|R8 O<|Qb<|Rr O<|Ph O<|QV<|qS<|Ql O<|P4<|PM.qb (e:=[(0,_),(3,_),(4,_),(5,_),(6,_),(7,_),(8,_),(9,_),(37,_)]) ?_;refine Tj O (Qi O (R5 O (PB O (R8 O (Qb (Ql O (PB O (Pr TT O (qV (Pl U3 O O l O) (qV (QH O U3 RW ω) (R8 O (Qb (Ql O ?_)))))))))))));refine QC O (PL O (qV (Q8 O RW U3 ω) (Ph O (qV (Q8 O RW U3 ω) (qV (T3 (cs:=[_,_]) SH O zcv O O) (Po O (Qh (news:=[I ((0:Nat):Int),I ((0:Nat):Int)]) SH O O O O B ξ) ?_))))));rintro v⟨d,f⟩;replace d:Pm v G [I ((0:Nat):Int),I ((0:Nat):Int)] 303:=d;refine Pq O<|PM.qb (e:=[(4,_),(5,_)]) ?_;refine PK func210 (.cell z2r O SH O (Pm.cells (n:=2) d (news:=[_,_]) O) O (.tmp O .nil)) ?_;rw[if_pos O,show(PD [((.gamma,0):Cd×Nat)]).length=(Cd.enc .gamma 0).length by rw[Qv,Pe];rfl];refine⟨_,O,O,⟨f.OZ o.1 ω,o.2⟩,x.It f (λk e=> .inl ω)⟩
 ·rw[if_neg ω] at m⊢;rcases y0y p.PE with K|K
  ·have M:=y K;subst M;rw[if_neg ω] at m⊢;refine Ph O<|R8 O<|RO<|Rr O<|Ph O<|Pr TT O<|qV (Pl U3 O O l O)<|R8 O<|Qb<|Rr O<|P4<|PM.qb (e:=[(0,_),(3,_),(4,_),(5,_),(6,_),(7,_),(8,_),(9,_),(37,_)]) ?_;refine Tj O (Qi O (R5 O (PB O (R8 O (Qb (Ql O (PB O (Pr TT O (qV (Pl U3 O O l O) (qV (QH O U3 RW ω) (R8 O (Qb (Ql O ?_)))))))))))));refine QC O (PL O (qV (Q8 O RW U3 ω) (Ph O (qV (Q8 O RW U3 ω) (qV (T3 (cs:=[_,_]) SH O zcv O O) (Po O (Qh (news:=[I (n:Int),I ((0:Nat):Int)]) SH O O O O B ξ) ?_))))));rintro v⟨d,f⟩;replace d:Pm v G [I (n:Int),I ((0:Nat):Int)] 303:=d;refine Pq O<|PM.qb (e:=[(4,_),(5,_)]) ?_;refine PK func210 (.cell z2r O SH O (Pm.cells (n:=2) d (news:=[_,_]) O) O (.tmp O .nil)) ?_;rw[show(PD [((.gamma,n):Cd×Nat)]).length=(Cd.enc .gamma n).length by rw[Qv,Pe];rfl];refine⟨_,O,O,⟨f.OZ o.1 ω,o.2⟩,x.It f (λk e=> .inl ω)⟩
  ·rw[if_pos K] at m⊢;rw[Qv,y05] at m;refine Ph O<|R8 O<|RO<|Rr O<|Ph O<|Pr TT O<|qV (Pl U3 O O l O)<|R8 O<|RO<|Rr O<|P4<|PM.qb (e:=[(0,_),(3,_),(4,_),(5,_),(6,_),(7,_),(8,_),(9,_),(37,_)]) ?_;refine Pp O (Ra O (qV (PO (news:=[.int .u8 0,Pt 0]) St O Rh O ((x.OZ g b).cells (n:=2) O) O) (Px zcd O (ZK o .unary q trivial (by simp only[Cd.most];omega) _ m) ?_)));rintro _ w6⟨rfl,T,A⟩;have i:=A.OZ l ω;have Z:=A.OZ B ω;have F:=x.trans A;refine Ph O (Ta O (QS O (Qi O (R5 O (PB O (R8 O (Qb (Ql O (PB O (Pr TT O (qV (Pl U3 O O i O) (qV (QH O U3 RW ω) (R8 O ?_)))))))))))));refine Qb<|Ql O<|P4<|PM.qb (e:=[(0,_),(4,_),(5,_),(6,_),(7,_),(9,_),(56,_)]) ?_;refine Tj O (PL O (qV (Q8 O RW U3 ω) (Ph O (qV (Q8 O RW U3 ω) (qV (T3 (cs:=[_,_]) SH O zcv O O) (Po O (Qh (news:=[I (n:Int),I (q:Int)]) SH O O O O Z ξ) ?_))))));rintro v⟨d,f⟩;replace d:Pm v G [I (n:Int),I (q:Int)] 303:=d;refine Pq O<|PK func210 (.cell z2r O SH O (Pm.cells (n:=2) d (news:=[_,_]) O) O (.tmp O .nil)) ?_;rw[show(PD [((.gamma,n):Cd×Nat),(.unary,q)]).length=(Cd.enc .gamma n).length+(Cd.enc .unary q).length by rw[Qv,Qv,Pe,Pe];rfl,<-y1t];refine⟨_,O,O,⟨f.OZ T.1 ω,T.2⟩,F.It f (λk e=> .inl ω)⟩
structure QR where
 PE:Nat
 chain:Nat
 interval:Nat
 zeta:Nat
 most:Nat
def QR.list (p:QR):Sr:=⟨p.PE,p.interval,p.zeta⟩
def QR.R1 (p:QR):Prop:=p.list.R1/\p.chain<=16/\p.most<=65536
def VW (p:QR):List Value:=[I (p.PE:Int),I (p.chain:Int),I (p.interval:Int),I (p.zeta:Int),I (p.most:Int)]
abbrev bpV (p:QR):Value:= .agg (VW p).toArray
theorem Tt (p:QR)(w:World):PN prog 162 [bpV p] w λu w'=>u=lpV p.list/\Ext w w':=by
 refine py (e:=[(0,_)]) func162 O ntmps162 O O<|qN O<|Pb O O (RP O (cs:=VW p) O) ?_
 rintro _ w1⟨b1,rfl,r,h,m⟩
 refine Pb O O (S5 (cs:=[_,_,_]) UA O) ?_
 rintro _ w2⟨b2,rfl,v,l,o⟩
 have d:=l.OZ m
 replace d:Pm w2 b1 [I (p.PE:Int),I (p.chain:Int),I (p.interval:Int),I (p.zeta:Int),I (p.most:Int)] 93:=d
 refine qM O<|Pr z1X O<|qV (Pl U3 O O d O)<|Pr zc5 O<|qV (Pl U3 O O d O)<|Pr zcR O<|qV (Pl U3 O O d O)<|qV (T3 (cs:=[_,_,_]) UA O zkk O O)<|Po O (Qh (news:=[I (p.PE:Int),I (p.interval:Int),I (p.zeta:Int)]) UA O O O O o ξ) ?_
 rintro w3⟨f,q⟩
 replace f:Pm w3 b2 [I (p.PE:Int),I (p.interval:Int),I (p.zeta:Int)] 276:=f
 refine P4<|PK func162 (.cell Xf O UA O (Pm.cells (n:=3) f (news:=[_,_,_]) O) O .nil) ?_
 have x:=h.size
 exact⟨_,O,O,(h.trans l).It q (λk e=>ω)⟩
theorem z0m (p:QR)(o:p.R1)(w:World):PN prog 160 [bpV p] w λu w'=>u=I 0/\Ext w w':=by
 obtain⟨m,r,v⟩:=o
 refine py (e:=[(0,_)]) func160 O ntmps160 O O<|qN O<|Pb O O (RP O (cs:=VW p) O) ?_
 rintro _ w1⟨b1,rfl,q,f,l⟩
 have d:Pm w1 b1 [I (p.PE:Int),I (p.chain:Int),I (p.interval:Int),I (p.zeta:Int),I (p.most:Int)] 93:=l
 refine Pq O<|OY<|qN O<|Pr ZO O<|qV (Pl U3 O O d O)<|QY O<|Qb<|Ph O<|Pr ZO O<|qV (Pl U3 O O d O)<|R8 O<|Qb<|Ql O<|Ph O ?_
 refine Pr Ua O<|qV (Pl U3 O O d O)<|QY O<|Qb<|Ql O<|Ph O<|Pr Ua O<|qV (Pl U3 O O d O)<|R8 O<|Qb<|Ql O<|QC O<|qN O<|qV (PO Ys O S8 O (Pm.cells (n:=5) d (news:=[_,_,_,_,_]) O) O) ?_
 refine Px z1Y O (Tt p w1) ?_
 rintro _ w2⟨rfl,h⟩
 refine Px z5G O (Us p.list m w2) ?_
 rintro _ w3⟨rfl,k⟩
 refine Pq O<|P3 func160 O ?_
 exact⟨_,O,O,(f.trans h).trans k⟩
structure T9 (w:World)(g n cap:Nat)(d:Array Nat):Prop where
 sl:Sl w (.slice (some ⟨g,0,none⟩) n cap) 42 1 n (d.toList.map PX)
 size:d.size=n
abbrev Rf (x y:Nat):Bool:=decide (x<y)
theorem Zz:Go.Sort.SWO Rf:=⟨λx=>by simp[Rf],λx y z e f=>by simp[Rf] at*;omega,λx y z e f=>by simp[Rf] at*;omega⟩
section
variable {n:Nat}{d:Array Nat}{S:Nat->Prop}
def T9.ext (h:T9 w g n cap d)(k:Ext w w'):T9 w' g n cap d:=⟨h.sl.ext k,h.size⟩
def T9.kp (h:T9 w g n cap d)(k:Kp S w w')(hg:¬S g):T9 w' g n cap d:=⟨h.sl.kp k (λf e=>by cases e;exact hg),h.size⟩
theorem T9.get (h:T9 w g n cap d)(hi:i<n):w.cell? ⟨g,0+i*1,none⟩=some (PX d[i]!):=by
 have e:=h.size
 refine Qs h.sl.rd ?_
 rw[y0i,y3w,y3G ω]
 rw[getElem!_pos d i ω]
 rfl
def T9.jlt (h:T9 w g n cap d)(e:j<n):j<(d.toList.map PX).length:=by
 have f:=h.size
 rw[y0k,y2y];omega
theorem T9.set (h:T9 w g n cap d)(e:Sl w' (.slice (some ⟨g,0,none⟩) n cap) 42 1 n ((d.toList.map PX).set (0+i*1) (PX y))):T9 w' g n cap (d.setIfInBounds i y):=by
 refine⟨?_,by rw[y3F,h.size]⟩
 rw[y3L,y2N]
 rw[show 0+i*1=i by omega] at e
 exact e
end
def zad (x:Nat)(w:World):PN prog 269 [PX x] w λu w'=>u= .bool false/\w'=w:=by
 refine py (e:=[(0,_)]) func269 O ntmps269 O O<|qN O<|Ro O<|PB O<|R5 O<|Pq O<|P3 func269 O ?_
 exact⟨_,O,by simp[Qy],O⟩
def Sq (x y:Nat)(w:World):PN prog 260 [PX x,PX y] w λu w'=>u= .bool (Rf x y)/\w'=w:=by
 refine py (e:=[(0,_),(1,_)]) func260 O ntmps260 O O<|qN O<|Rq O<|Px zjF O (zad x w) ?_
 rintro _ w⟨rfl,rfl⟩
 refine Ph O<|QV<|qS<|Ql O<|PB O<|Ph O<|QY O<|Ql O<|Pq O<|P3 func260 O ?_
 exact⟨_,O,by simp[Rf,Qy],O⟩
section
variable (a b j i:Nat)(d:Array Nat)
theorem z5w (f:a<j)(e:Rf d[j]! d[j-1]! =true):Go.Sort.insInner Rf a j d=Go.Sort.insInner Rf a (j-1) (Go.Sort.swp d j (j-1)):=by
 obtain⟨k,rfl⟩:∃k,j=k+1:=⟨j-1,ω⟩
 rw[Go.Sort.insInner]
 simp only[y1g] at e⊢
 rw[if_pos]
 rw[y0w];exact⟨by simpa using f,e⟩
theorem Ya (h:j<=a\/Rf d[j]! d[j-1]! =false):Go.Sort.insInner Rf a j d=d:=by
 cases j with
 |zero=>rw[Go.Sort.insInner]
 | succ k =>
   rw[Go.Sort.insInner];simp only[y1g] at h;rw[if_neg];intro e;rw[y0w] at e;rcases h with h| h
   ·have:=of_decide_eq_true e.1;omega
   ·rw[h] at e;cases e.2
theorem z65 (h:i<b):Go.Sort.insOuter Rf a b i d=Go.Sort.insOuter Rf a b (i+1) (Go.Sort.insInner Rf a i d):=by rw[Go.Sort.insOuter,if_pos h]
theorem z2L (h:¬i<b):Go.Sort.insOuter Rf a b i d=d:=by rw[Go.Sort.insOuter,if_neg h]
end
theorem z2B {n:Nat}{d:Array Nat}(h:T9 w g n cap d)(a b:Nat)(p:a<=b)(Z:b<=n)(c:n<=65536):
  PN prog 254 [.slice (some ⟨g,0,none⟩) n cap,I (a:Int),I (b:Int)] w λu w'=>u= .tuple #[]/\T9 w' g n cap (Go.Sort.insertionSort Rf d a b)/\Kp (λk=>k=g) w w':=by
 refine py (e:=[(0,_),(1,_),(2,_)]) func254 O ntmps254 O O<|PL O<|Qj O<|Pq O<|P6<|RX (α:=Nat×Array Nat) (a+1,d) (λy=>[(0,.slice (some ⟨g,0,none⟩) n cap),(1,I (a:Int)),(2,I (b:Int)),(6,I (y.1:Int))]) (λy w'=>T9 w' g n cap y.2/\Kp (λk=>k=g) w w'/\Go.Sort.insOuter Rf a b y.1 y.2=Go.Sort.insertionSort Rf d a b/\a<y.1) (λy=>b-y.1) ?hI ?hround
 case hI=>exact⟨h,Kp.refl _ _,O,Nat.lt_succ_self a⟩
 case hround=>
  rintro⟨i,d4⟩ w4 ⟨A,x,m,V⟩ E;dsimp only at A x m V
  try dsimp only
  refine OY<|QG O<|QY O<|P4<|Pn O (λN=>?_)<|λN=>?_
  ·rw[z65 _ _ _ _ ω] at m;refine P5<|R0<|PL O<|Pq O<|P6<|RX (α:=Nat×Array Nat) (i,d4) (λy=>[(0,.slice (some ⟨g,0,none⟩) n cap),(1,I (a:Int)),(2,I (b:Int)),(6,I (i:Int)),(7,I (y.1:Int))]) (λy w'=>T9 w' g n cap y.2/\Kp (λk=>k=g) w w'/\Go.Sort.insInner Rf a y.1 y.2=Go.Sort.insInner Rf a i d4/\y.1<=i/\a<=y.1) (λy=>y.1) ?hI ?hround
   case hI=>exact⟨A,x,O,y02 _,by dsimp only;omega⟩
   case hround=>
    rintro⟨j,d5⟩ q ⟨r,v,l,G,H⟩ D;dsimp only at r v l G H
    try dsimp only
    have hg:=Ext.Pz q;rcases y0a a j with C|C
    ·refine OY (OY (RI (λw'=>Ext q w') O (Pu 0 O O hg (Pu 1 O O hg (P7 2 O (YT O O) hg (TW (Pu 3 O O hg (Pu 4 O O hg (Pu 5 O O hg (P7 6 O (Qc PS Py O O ω) hg (Pu 8 O O hg (Pu 9 O O hg (P7 10 O (Yf O O ω) hg ?_)))))))))))));rw[show(j:Int)-1=((j-1:Nat):Int) by omega];refine qT 7 O (λ_ h=>PG R9 O O ((r.ext h).get (i:=j) ω)) hg (P7 11 O (Qc PS Py O O ω) hg (qT 12 O (λ_ h=>PG R9 O O ((r.ext h).get (i:=j-1) ω)) hg (Tl 13 O WI O (Sq _ _ _) ?_)));rintro _ s⟨rfl,rfl⟩;refine⟨hg,?_⟩;refine P7 14 O (Ux O O) hg<|qE ?_;have o:=r.ext hg;refine QF O (λB=>?_)<|λB=>?_
     ·refine P5<|R0 ?_;have f:=Ext.Pz q.drew;refine PC [15,17] (λw'=>Ext q.drew w') Pd O (Qm 0 O O f (Qm 1 O O f (QD (i:=2) O Pd O O (λ_=>Y5 O) f (QD (i:=3) O Pd O O (λ_=>Y5 O) f (QD (i:=4) O Pd O O (λ_=>Yf O O ω) f (Qm 5 O O f (Qm 6 O O f (PH 7 O (Yf O O ω) f (Qm 10 O O f (Qm 11 O O f (PH 12 O (Qc PS Py O O ω) f ?_)))))))))));rw[show(j:Int)-1=((j-1:Nat):Int) by omega];refine PH 8 O (Qc PS Py O O ω) f (qL 9 O (λ_ h=>PG R9 O O ((o.ext h).get (i:=j-1) ω)) f (qL 13 O (λ_ h=>PG R9 O O ((o.ext h).get (i:=j) ω)) f (PH 14 O (Qc PS Py O O ω) f (TV [15] (qO 15 (Q0 (i:=15) O O (Sf Py O O O (o.ext f).sl ((o.ext f).jlt ω)) ?_))))));rintro Y⟨J,K⟩;refine⟨trivial,?_⟩;have z:=(o.ext f).set J;refine P7 16 O (Qc PS Py O O ω) trivial (qO 17 (Q0 (i:=17) O O (Sf Py O O O z.sl (z.jlt ω)) ?_));rintro W⟨Q,T⟩;refine⟨trivial,?_⟩;have U:=z.set Q;have M:Kp (λk=>k=g) q.drew W:=f.kp.trans (K.trans T);refine qE<|An<|Ra O<|RR O<|Pq O ?_;rw[show(j:Int)-1=((j-1:Nat):Int) by omega];refine(D (j-1,Go.Sort.swp d5 j (j-1)) _ ⟨U,(v.trans hg.kp).trans M,?_,by dsimp only;omega,by dsimp only;omega⟩ (by dsimp only;omega)).qb;dsimp only;rw[<-l,z5w a j d5 C B]
     ·refine Pf O<|An<|Ra O<|Qj O<|Pq O ?_;rw[Ya a j d5 (.inr (by simpa using B))] at l;refine(E (i+1,d5) _ ⟨o,v.trans hg.kp,?_,by dsimp only;omega⟩ (by dsimp only;omega)).qb;dsimp only;rw[l];exact m
    ·refine OY<|OY<|RI (λw'=>Ext q w') O<|Pu 0 O O hg<|Pu 1 O O hg<|P7 2 O (YT O O) hg<|TJ<|Pu 3 O O hg<|qJ 4 O hg<|qJ 5 O hg<|qJ 6 O hg<|qJ 7 O hg<|qJ 8 O hg<|qJ 9 O hg ?_;refine qJ 10 O hg<|qJ 11 O hg<|qJ 12 O hg<|qJ 13 O hg<|P7 14 O (U0 O O) hg<|qE<|P9 O<|Pf O<|An<|Ra O<|Qj O<|Pq O ?_;rw[Ya a j d5 (.inl C)] at l;refine(E (i+1,d5) _ ⟨r.ext hg,v.trans hg.kp,?_,by dsimp only;omega⟩ (by dsimp only;omega)).qb;dsimp only;rw[l];exact m
  ·rw[z2L _ _ _ _ ω] at m;refine Pf O<|Qu func254 O ?_;exact⟨_,O,O,m▸A,x⟩
section
variable (hi first root:Nat)(d:Array Nat)
def ZR:Nat:=if 2*root+1+1<hi&&Rf d[first+(2*root+1)]! d[first+(2*root+1)+1]! then 2*root+2 else 2*root+1
theorem z9N (h:hi<=2*root+1):Go.Sort.siftDown Rf hi first root d=d:=by rw[Go.Sort.siftDown,dif_pos h]
theorem ze5 (h:2*root+1<hi):Go.Sort.siftDown Rf hi first root d=if Rf d[first+root]! d[first+ZR hi first root d]! then Go.Sort.siftDown Rf hi first (ZR hi first root d) (Go.Sort.swp d (first+root) (first+ZR hi first root d)) else d:=by
 rw[Go.Sort.siftDown,dif_neg ω]
 unfold ZR
 by_cases e:(decide (2*root+1+1<hi)&&Rf d[first+(2*root+1)]! d[first+(2*root+1)+1]!)=true
 ·rw[if_pos e,if_pos e];rw[y0w] at e;have f:2*root+2<hi:=of_decide_eq_true e.1;rw[dif_pos f];cases Rf d[first+root]! d[first+(2*root+2)]!<;>rfl
 ·rw[if_neg e,if_neg e];cases Rf d[first+root]! d[first+(2*root+1)]!<;>rfl
def zeI (h:2*root+1<hi):root<ZR hi first root d/\ZR hi first root d<hi:=by
 unfold ZR
 split
 ·rename_i e
  rw[y0w] at e;have f:2*root+2<hi:=of_decide_eq_true e.1;omega
 ·omega
end
theorem z4O {n:Nat}{d:Array Nat}(h:T9 w g n cap d)(lo hi first:Nat)(b:first+hi<=n)(a:lo<=65536)(j:n<=65536):
  PN prog 264 [.slice (some ⟨g,0,none⟩) n cap,I (lo:Int),I (hi:Int),I (first:Int)] w λu w'=>u= .tuple #[]/\T9 w' g n cap (Go.Sort.siftDown Rf hi first lo d)/\Kp (λk=>k=g) w w':=by
 refine py (e:=[(0,_),(1,_),(2,_),(3,_)]) func264 O ntmps264 O O<|PL O<|Pq O<|P6<|RX (α:=Nat×Array Nat) (lo,d) (λy=>[(0,.slice (some ⟨g,0,none⟩) n cap),(2,I (hi:Int)),(3,I (first:Int)),(8,I (y.1:Int))]) (λy w'=>T9 w' g n cap y.2/\Kp (λk=>k=g) w w'/\Go.Sort.siftDown Rf hi first y.1 y.2=Go.Sort.siftDown Rf hi first lo d/\y.1<=65536) (λy=>hi-y.1) ?hI ?hround
 case hI=>exact⟨h,Kp.refl _ _,O,a⟩
 case hround=>
  rintro⟨root,d4⟩ w4 ⟨v,x,m,E⟩ N;dsimp only at v x m E
  try dsimp only
  refine P6 (PL O (qV (Y8 O O ω) (Qj O (Pq O (OY (qN O ?_))))));rw[show 2*(root:Int)+1=((2*root+1:Nat):Int) by omega];refine PB O<|Uj O<|P4<|Pn O (λK=>?_)<|λK=>?_
  ·rw[z9N _ _ _ _ ω] at m;refine Pf O<|Qu func264 O ?_;exact⟨_,O,O,m▸v,x⟩
  ·have M:=zeI hi first root d4 ω;rw[ze5 _ _ _ _ ω] at m;have hg:=Ext.Pz w4;have C:=v.ext hg;refine P5<|OY<|OY ?_
   generalize z:(decide (2*root+1+1<hi)&&Rf d4[first+(2*root+1)]! d4[first+(2*root+1)+1]!)=sel
   refine Qf (λr w'=>r=[(0,.slice (some ⟨g,0,none⟩) n cap),(2,I (hi:Int)),(3,I (first:Int)),(8,I (root:Int)),(9,I ((2*root+1:Nat):Int)),(36,.bool sel)]/\w'=w4.drew) ?cY<|λcY=>?gm
   case cY=>
    rintro r V⟨rfl,rfl⟩;refine Qf (λr w'=>r=[(0,.slice (some ⟨g,0,none⟩) n cap),(2,I (hi:Int)),(3,I (first:Int)),(8,I (root:Int)),(9,I (ZR hi first root d4:Int))]/\w'=w4.drew) ?aw<|λaw=>?er
    case aw=>
     rintro r V⟨rfl,rfl⟩
     generalize ZR hi first root d4=c at M m
     have l:=Ext.Pz w4.drew;have q:=C.ext l;refine OY (OY (RI (λw'=>Ext w4.drew w') O (Pu 0 O O l (Pu 1 O O l (Pu 2 O O l (P7 3 O (Vu O O ω) l (P7 4 O (Qc PS Py O O ω) l (Pu 6 O O l (Pu 7 O O l (Pu 8 O O l (P7 9 O (Vu O O ω) l (P7 10 O (Qc PS Py O O ω) l (qT 5 O (λ_ h=>PG R9 O O ((C.ext h).get (i:=first+root) ω)) l ?_)))))))))))));refine qT 11 O (λ_ h=>PG R9 O O ((C.ext h).get (i:=first+c) ω)) l<|Tl 12 O WI O (Sq _ _ _) ?_;rintro _ W⟨rfl,rfl⟩;refine⟨l,?_⟩;refine P7 13 O (zaj O) l<|qE<|QF O (λo=>?_)<|λo=>?_
     ·rw[if_neg (by simpa using o)] at m;refine P3 func264 O ?_;exact⟨_,O,O,m▸q,x.trans (hg.trans l).kp⟩
     ·rw[if_pos (by simpa using o)] at m;refine P5<|OY ?_;have f:=Ext.Pz w4.drew.drew;refine PC [21,23] (λw'=>Ext w4.drew.drew w') Pd O (Qm 0 O O f (Qm 1 O O f (Qm 2 O O f (PH 3 O (Vu O O ω) f (QD (i:=4) O Pd O O (λ_=>Y5 O) f (QD (i:=5) O Pd O O (λ_=>Y5 O) f (QD (i:=6) O Pd O O (λ_=>Y5 O) f (QD (i:=7) O Pd O O (λ_=>Vu O O ω) f (Qm 8 O O f (Qm 9 O O f (Qm 10 O O f (PH 11 O (Vu O O ω) f (PH 12 O (Qc PS Py O O ω) f ?_)))))))))))));refine Qm 14 O O f (Qm 15 O O f (Qm 16 O O f (PH 17 O (Vu O O ω) f (PH 18 O (Qc PS Py O O ω) f (qL 13 O (λ_ h=>PG R9 O O ((q.ext h).get (i:=first+c) ω)) f (qL 19 O (λ_ h=>PG R9 O O ((q.ext h).get (i:=first+root) ω)) f (PH 20 O (Qc PS Py O O ω) f (TV [21] (qO 21 (Q0 (i:=21) O O (Sf Py O O O (q.ext f).sl ((q.ext f).jlt ω)) ?_))))))))));rintro Z⟨G,H⟩;refine⟨trivial,?_⟩;have A:=(q.ext f).set G;refine P7 22 O (Qc PS Py O O ω) trivial (qO 23 (Q0 (i:=23) O O (Sf Py O O O A.sl (A.jlt ω)) ?_));rintro Y⟨Q,S⟩;refine⟨trivial,?_⟩;have T:=A.set Q;have J:Kp (λk=>k=g) w4.drew.drew Y:=f.kp.trans (H.trans S);refine qE<|Ra O<|Pq O<|An ((N (c,Go.Sort.swp d4 (first+root) (first+c)) _ ⟨T,(x.trans (hg.trans l).kp).trans J,m,by dsimp only;omega⟩ (by dsimp only;omega)).qb)
    case er=>
     refine QF O (λo=>?_)<|λo=>?_
     ·refine Ra O<|Qj O<|Pq O ?_;rw[show((2*root+1:Nat):Int)+1=(ZR hi first root d4:Int) by unfold ZR;rw[z,if_pos o];omega];exact(aw _ _ ⟨O,O⟩).qb
     ·refine P5 ?_;rw[show((2*root+1:Nat):Int)=(ZR hi first root d4:Int) by unfold ZR;rw[z,if_neg (by rw[o];decide)]];exact(aw _ _ ⟨O,O⟩).qb
   case gm=>
    rcases y0a (2*root+1+1) hi with D|D
    ·refine RI (λw'=>Ext w4 w') O (Pu 0 O O hg (P7 1 O (Vu O O ω) hg (Pu 2 O O hg (P7 3 O (ZQ O O) hg (TW (Pu 4 O O hg (Pu 5 O O hg (Pu 6 O O hg (Pu 7 O O hg (P7 8 O (Vu O O ω) hg (P7 9 O (Qc PS Py O O ω) hg (Pu 11 O O hg (Pu 12 O O hg ?_)))))))))))));refine Pu 13 O O hg (P7 14 O (Vu O O ω) hg (P7 15 O (Vu O O ω) hg (P7 16 O (Qc PS Py O O ω) hg (qT 10 O (λ_ B=>PG R9 O O ((v.ext B).get (i:=first+(2*root+1)) ω)) hg (qT 17 O (λ_ B=>PG R9 O O ((v.ext B).get (i:=first+(2*root+1)+1) ω)) hg (Tl 18 O WI O (Sq _ _ _) ?_))))));rintro _ W⟨rfl,rfl⟩;refine⟨hg,?_⟩;refine P7 19 O (Ux O O) hg<|qE ?_;rw[show Rf d4[first+(2*root+1)]! d4[first+(2*root+1)+1]! =sel by rw[<-z,decide_eq_true D,Bool.true_and]];exact(cY _ _ ⟨O,O⟩).qb
    ·refine RI (λw'=>Ext w4 w') O (Pu 0 O O hg (P7 1 O (Vu O O ω) hg (Pu 2 O O hg (P7 3 O (ZQ O O) hg (TJ (Pu 4 O O hg (qJ 5 O hg (qJ 6 O hg (qJ 7 O hg (qJ 8 O hg (qJ 9 O hg (qJ 10 O hg (qJ 11 O hg ?_)))))))))))));refine qJ 12 O hg<|qJ 13 O hg<|qJ 14 O hg<|qJ 15 O hg<|qJ 16 O hg<|qJ 17 O hg<|qJ 18 O hg<|P7 19 O (U0 O O) hg<|qE ?_;have U:sel=false:=by rw[<-z,decide_eq_false ω,Bool.false_and]
     subst U;exact(cY _ _ ⟨O,O⟩).qb
theorem zc0 {n:Nat}{d:Array Nat}(h:T9 w g n cap d)(a b:Nat)(j:a<b)(c:b<=n)(C:n<=65536):
  PN prog 255 [.slice (some ⟨g,0,none⟩) n cap,I (a:Int),I (b:Int)] w λu w'=>u= .tuple #[]/\T9 w' g n cap (Go.Sort.heapSort Rf d a b)/\Kp (λk=>k=g) w w':=by
 refine py (e:=[(0,_),(1,_),(2,_)]) func255 O ntmps255 O O<|PL O<|Ro O<|Ro O<|PB O<|RR O<|Pq O<|OY<|qN O ?_
 rw[show(b:Int)-(a:Int)=((b-a:Nat):Int) by omega]
 refine Ph O<|RR O ?_
 rw[show((b-a:Nat):Int)-1=((b-a-1:Nat):Int) by omega]
 refine qV (X5 O O ω)<|Pq O<|P6 ?_
 rw[show((b-a-1:Nat):Int) / 2=(((b-a-1) / 2+1:Nat):Int)-1 by omega]
 have W:Go.Sort.heapSort Rf d a b=Go.Sort.heapPop Rf a (b-a) (Go.Sort.heapBuild Rf (b-a) a ((b-a-1) / 2+1) d):=rfl
 rw[W]
 refine RX (α:=Nat×Array Nat) ((b-a-1) / 2+1,d) (λy=>[(0,.slice (some ⟨g,0,none⟩) n cap),(6,I (a:Int)),(7,I 0),(8,I ((b-a:Nat):Int)),(9,I ((y.1:Int)-1))]) (λy w'=>T9 w' g n cap y.2/\Kp (λk=>k=g) w w'/\Go.Sort.heapBuild Rf (b-a) a y.1 y.2=Go.Sort.heapBuild Rf (b-a) a ((b-a-1) / 2+1) d/\y.1<=(b-a-1) / 2+1) (λy=>y.1) ?hI ?hround
 case hI=>exact⟨h,Kp.refl _ _,O,y02 _⟩
 case hround=>
  rintro⟨k,d4⟩ w4 ⟨z,q,v,G⟩ S;dsimp only at z q v G
  try dsimp only
  refine Qi O<|Uj O<|P4<|Pn O (λN=>?_)<|λN=>?_
  ·obtain⟨k,rfl⟩:∃k',k=k'+1:=⟨k-1,ω⟩;rw[show((k+1:Nat):Int)-1=(k:Int) by omega];refine P5 (R0 (Pc O (PB O (PB O (Px zfu O (z4O z k (b-a) a ω ω C) ?_)))));rintro _ o⟨rfl,l,m⟩;refine P4<|An<|Ra O<|RR O<|Pq O ?_;exact(S (k,Go.Sort.siftDown Rf (b-a) a k d4) _ ⟨l,q.trans m,v,by dsimp only;omega⟩ (by dsimp only;omega)).qb
  ·have A:k=0:=ω
   subst A;rw[<-v];refine Pf O<|PL O<|RR O<|Pq O<|P6<|RX (α:=Nat×Array Nat) (b-a,d4) (λy=>[(0,.slice (some ⟨g,0,none⟩) n cap),(6,I (a:Int)),(7,I 0),(10,I ((y.1:Int)-1))]) (λy w'=>T9 w' g n cap y.2/\Kp (λk=>k=g) w w'/\Go.Sort.heapPop Rf a y.1 y.2=Go.Sort.heapPop Rf a (b-a) (Go.Sort.heapBuild Rf (b-a) a 0 d4)/\y.1<=b-a) (λy=>y.1) ?hI ?hround
   case hI=>exact⟨z,q,O,y02 _⟩
   case hround=>
    rintro⟨k,d5⟩ o ⟨l,m,r,H⟩ B;dsimp only at l m r H
    try dsimp only
    refine Qi O<|Uj O<|P4<|Pn O (λQ=>?_)<|λQ=>?_
    ·obtain⟨k,rfl⟩:∃k',k=k'+1:=⟨k-1,ω⟩;rw[show((k+1:Nat):Int)-1=(k:Int) by omega];refine P5<|R0<|OY ?_;have f:=Ext.Pz o;refine PC [17,19] (λw'=>Ext o w') Pd O (Qm 0 O O (f) (Qm 1 O O (f) (QD (i:=2) O Pd O O (λ_=>Y5 O) (f) (QD (i:=3) O Pd O O (λ_=>Y5 O) (f) (QD (i:=4) O Pd O O (λ_=>Y5 O) (f) (QD (i:=5) O Pd O O (λ_=>Vu O O ω) (f) (Qm 6 O O (f) (Qm 7 O O (f) (Qm 8 O O (f) (PH 9 O (Vu O O ω) f (PH 10 O (Qc PS Py O O ω) f (Qm 12 O O (f) (Qm 13 O O (f) ?_)))))))))))));refine PH 14 O (Qc PS Py O O ω) f (qL 11 O (λ_ h=>PG R9 O O ((l.ext h).get (i:=a+k) ω)) f (qL 15 O (λ_ h=>PG R9 O O ((l.ext h).get (i:=a) ω)) f (PH 16 O (Qc PS Py O O ω) f (TV [17] (qO 17 (Q0 (i:=17) O O (Sf Py O O O (l.ext f).sl ((l.ext f).jlt ω)) ?_))))));rintro Z⟨J,K⟩;refine⟨trivial,?_⟩;have x:=(l.ext f).set J;refine P7 18 O (Qc PS Py O O ω) trivial (qO 19 (Q0 (i:=19) O O (Sf Py O O O x.sl (x.jlt ω)) ?_));rintro Y⟨T,U⟩;refine⟨trivial,?_⟩;have V:=x.set T;have M:Kp (λk=>k=g) o Y:=f.kp.trans (K.trans U);refine qE (Pc O (PB O (PB O (Px zfu O (z4O V 0 k a ω ω C) ?_))));rintro _ p⟨rfl,D,E⟩;refine P4<|An<|Ra O<|RR O<|Pq O ?_;exact(B (k,Go.Sort.siftDown Rf k a 0 (Go.Sort.swp d5 a (a+k))) _ ⟨D,(m.trans M).trans E,r,by dsimp only;omega⟩ (by dsimp only;omega)).qb
    ·have A:k=0:=ω
     subst A;rw[<-r];refine Pf O<|Qu func255 O ?_;exact⟨_,O,O,l,m⟩
theorem z4C {n:Nat}{d:Array Nat}(h:T9 w g n cap d)(a b:Nat)(M:a<b)(J:b<=n)(K:n<=65536):
  PN prog 258 [.slice (some ⟨g,0,none⟩) n cap,I (a:Int),I (b:Int)] w λu w'=>u= .tuple #[]/\T9 w' g n cap (Go.Sort.reverseRange d a b)/\Kp (λk=>k=g) w w':=by
 refine py (e:=[(0,_),(1,_),(2,_)]) func258 O ntmps258 O O<|PL O<|Rq O<|RR O<|Pq O<|P6 ?_
 rw[show(b:Int)-1=((b-1:Nat):Int) by omega]
 refine RX (α:=Nat×Nat×Array Nat) (a,b-1,d) (λy=>[(0,.slice (some ⟨g,0,none⟩) n cap),(6,I (y.1:Int)),(7,I (y.2.1:Int))]) (λy w'=>T9 w' g n cap y.2.2/\Kp (λk=>k=g) w w'/\Go.Sort.reverseLoop y.1 y.2.1 y.2.2=Go.Sort.reverseRange d a b/\y.2.1<n) (λy=>y.2.1-y.1) ?hI ?hround
 case hI=>exact⟨h,Kp.refl _ _,O,by dsimp only;omega⟩
 case hround=>
  rintro⟨i,j,d4⟩ w4 ⟨l,o,m,r⟩ B;dsimp only at l o m r
  try dsimp only
  refine OY<|QG O<|QY O<|P4<|Pn O (λA=>?_)<|λA=>?_
  ·rw[Go.Sort.reverseLoop,if_pos ω] at m;refine P5<|P6<|OY ?_;have f:=Ext.Pz w4;refine PC [13,15] (λw'=>Ext w4 w') Pd O (Qm 0 O O f (Qm 1 O O f (QD (i:=2) O Pd O O (λ_=>Y5 O) f (QD (i:=3) O Pd O O (λ_=>Y5 O) f (Qm 4 O O f (Qm 5 O O f (PH 6 O (Qc PS Py O O ω) f (Qm 8 O O f (Qm 9 O O f (PH 10 O (Qc PS Py O O ω) f (qL 7 O (λ_ h=>PG R9 O O ((l.ext h).get (i:=j) ω)) f (qL 11 O (λ_ h=>PG R9 O O ((l.ext h).get (i:=i) ω)) f (PH 12 O (Qc PS Py O O ω) f ?_)))))))))))));refine TV [13] (qO 13 (Q0 (i:=13) O O (Sf Py O O O (l.ext f).sl ((l.ext f).jlt ω)) ?_));rintro H⟨v,x⟩;refine⟨trivial,?_⟩;have q:=(l.ext f).set v;refine P7 14 O (Qc PS Py O O ω) trivial (qO 15 (Q0 (i:=15) O O (Sf Py O O O q.sl (q.jlt ω)) ?_));rintro G⟨C,D⟩;refine⟨trivial,?_⟩;have E:=q.set C;have z:Kp (λk=>k=g) w4 G:=f.kp.trans (x.trans D);refine qE<|PL O<|Qj O<|Pq O<|Ra O<|RR O<|Pq O<|An ?_;rw[show(j:Int)-1=((j-1:Nat):Int) by omega];exact(B (i+1,j-1,Go.Sort.swp d4 i j) _ ⟨E,o.trans z,m,by dsimp only;omega⟩ (by dsimp only;omega)).qb
  ·rw[Go.Sort.reverseLoop,if_neg ω] at m;refine Pf O<|Qu func258 O ?_;exact⟨_,O,O,m▸l,o⟩
section
variable (p:Nat->Bool)(d:Array Nat)(i j:Nat)
theorem z0c (h:i<=j)(e:p d[i]! =true):Go.Sort.scanUp p d j i=Go.Sort.scanUp p d j (i+1):=by
 conv=>lhs;rw[Go.Sort.scanUp]
 rw[if_pos]
 rw[y0w];exact⟨by simpa using h,e⟩
theorem TA (h:j<i\/p d[i]! =false):Go.Sort.scanUp p d j i=i:=by
 rw[Go.Sort.scanUp,if_neg]
 intro e
 rw[y0w] at e
 rcases h with h| h
 ·have:=of_decide_eq_true e.1;omega
 ·rw[h] at e;cases e.2
theorem Xp (h:i<=j)(e:p d[j]! =true)(f:1<=j):Go.Sort.scanDown p d i j=Go.Sort.scanDown p d i (j-1):=by
 obtain⟨k,rfl⟩:∃k,j=k+1:=⟨j-1,ω⟩
 rw[Go.Sort.scanDown,if_pos]
 ·rfl
 ·rw[y0w];exact⟨by simpa using h,e⟩
theorem Sw (h:j<i\/p d[j]! =false):Go.Sort.scanDown p d i j=j:=by
 cases j with
 |zero=>rw[Go.Sort.scanDown]
 | succ k =>
   rw[Go.Sort.scanDown,if_neg];intro e;rw[y0w] at e;rcases h with h| h
   ·have:=of_decide_eq_true e.1;omega
   ·rw[h] at e;cases e.2
end
def XN (p:Nat->Bool)(d:Array Nat)(j:Nat):∀i:Nat,Go.Sort.scanUp p d j i<=max i (j+1):=λi=>by
 rw[Go.Sort.scanUp]
 split
 ·rename_i h
  rw[y0w] at h;have e:=of_decide_eq_true h.1;have:=XN p d j (i+1);omega
 ·omega
 termination_by i=>j+1-i
theorem zcD {n:Nat}{d:Array Nat}(h:T9 w g n cap d)(a b N:Nat)(CP:a<=N)(rM:N<b)(hb:b<=n)(hn:n<=65536):
  PN prog 262 [.slice (some ⟨g,0,none⟩) n cap,I (a:Int),I (b:Int),I (N:Int)] w λu w'=>u= .tuple #[I ((Go.Sort.partition Rf d a b N).1:Int),.bool (Go.Sort.partition Rf d a b N).2.1]/\T9 w' g n cap (Go.Sort.partition Rf d a b N).2.2/\Kp (λk=>k=g) w w':=by
 refine py (e:=[(0,_),(1,_),(2,_),(3,_)]) func262 O ntmps262 O O<|qN O<|QS O<|OY ?_
 have v:=Ext.Pz w
 refine PC [13,15] (λw'=>Ext w w') Pd O<|Qm 0 O O v<|Qm 1 O O v<|QD (i:=2) O Pd O O (λ_=>Y5 O) v<|QD (i:=3) O Pd O O (λ_=>Y5 O) v<|Qm 4 O O v<|Qm 5 O O v<|PH 6 O (Qc PS Py O O ω) v<|Qm 8 O O v<|Qm 9 O O v<|PH 10 O (Qc PS Py O O ω) v<|qL 7 O (λ_ P=>PG R9 O O ((h.ext P).get (i:=N) ω)) v<|qL 11 O (λ_ P=>PG R9 O O ((h.ext P).get (i:=a) ω)) v<|PH 12 O (Qc PS Py O O ω) v ?_
 refine TV [13]<|qO 13<|Q0 (i:=13) O O (Sf Py O O O (h.ext v).sl ((h.ext v).jlt ω)) ?_
 rintro a1⟨nz,nA⟩
 refine⟨trivial,?_⟩
 have t:=(h.ext v).set nz
 refine P7 14 O (Qc PS Py O O ω) trivial<|qO 15<|Q0 (i:=15) O O (Sf Py O O O t.sl (t.jlt ω)) ?_
 rintro w1⟨tE,tF⟩
 refine⟨trivial,?_⟩
 have Y:=t.set tE
 have kX:Kp (λk=>k=g) w w1:=v.kp.trans (nA.trans tF)
 refine qE<|PL O<|Qj O<|Ph O<|RR O<|QS O<|PM.qb (e:=[(0,_),(1,_),(8,_),(9,_),(10,_),(11,_)]) ?_
 refine R0 ?_
 unfold Go.Sort.partition
 dsimp only
 replace Y:T9 w1 g n cap (Go.Sort.swp d a N):=Y
 generalize Go.Sort.swp d a N=D at Y
 rw[show(a:Int)+1=((a+1:Nat):Int) by omega,show(b:Int)-1=((b-1:Nat):Int) by omega]
 refine Ss (λG w'=>G=[(0,.slice (some ⟨g,0,none⟩) n cap),(1,I (a:Int)),(10,I (((Go.Sort.scanUp (λx=>Rf x D[a]!) D (b-1) (a+1)):Nat):Int)),(11,I (((b-1):Nat):Int))]/\T9 w' g n cap D/\Kp (λk=>k=g) w1 w') ?p8<|λp8=>?CY
 case p8 =>
  rintro G wA⟨rfl,Kf,p8⟩;have tf:=Go.Sort.scanUp_ge (λx=>Rf x D[a]!) D (b-1) (a+1);have lQ:=XN (λx=>Rf x D[a]!) D (b-1) (a+1)
  generalize Go.Sort.scanUp (λx=>Rf x D[a]!) D (b-1) (a+1)=E at tf lQ
  refine R0<|Ss (λG w'=>G=[(0,.slice (some ⟨g,0,none⟩) n cap),(1,I (a:Int)),(10,I ((E:Nat):Int)),(11,I (((Go.Sort.scanDown (λx=>!Rf x D[a]!) D E (b-1)):Nat):Int))]/\T9 w' g n cap D/\Kp (λk=>k=g) wA w') ?jd<|λjd=>?CX
  case jd =>
   rintro G V⟨rfl,K,jd⟩;have Kg:=Go.Sort.scanDown_le (λx=>!Rf x D[a]!) D E (b-1)
   generalize Go.Sort.scanDown (λx=>!Rf x D[a]!) D E (b-1)=S at Kg
   refine OY<|QG O<|R8 O<|P4<|Pn O (λh4=>?_)<|λh4=>?_
   ·rw[if_pos ω];refine OY ?_;have o:=Ext.Pz V;refine PC [13,15] (λw'=>Ext V w') Pd O (Qm 0 O O o (Qm 1 O O o (QD (i:=2) O Pd O O (λ_=>Y5 O) o (QD (i:=3) O Pd O O (λ_=>Y5 O) o (Qm 4 O O o (Qm 5 O O o (PH 6 O (Qc PS Py O O ω) o (Qm 8 O O o (Qm 9 O O o (PH 10 O (Qc PS Py O O ω) o (qL 7 O (λ_ h=>PG R9 O O ((K.ext h).get (i:=a) ω)) o (qL 11 O (λ_ h=>PG R9 O O ((K.ext h).get (i:=S) ω)) o (PH 12 O (Qc PS Py O O ω) o ?_)))))))))))));refine TV [13] (qO 13 (Q0 (i:=13) O O (Sf Py O O O (K.ext o).sl ((K.ext o).jlt ω)) ?_));rintro a2⟨xz,xA⟩;refine⟨trivial,?_⟩;have nB:=(K.ext o).set xz;refine P7 14 O (Qc PS Py O O ω) trivial (qO 15 (Q0 (i:=15) O O (Sf Py O O O nB.sl (nB.jlt ω)) ?_));rintro w2⟨CQ,CR⟩;refine⟨trivial,?_⟩;have CS:=nB.set CQ;have xB:Kp (λk=>k=g) V w2:=o.kp.trans (xA.trans CR);refine qE<|PL O<|QS O<|P3 func262 O ?_;exact⟨_,O,O,CS,(kX.trans (p8.trans jd)).trans xB⟩
   ·rw [if_neg ω]; refine P5 (OY ?_); have q := Ext.Pz V; refine PC [13,15] (λw' => Ext V w') Pd O (Qm 0 O O q (Qm 1 O O q (QD (i := 2) O Pd O O (λ_ => Y5 O) q (QD (i := 3) O Pd O O (λ_ => Y5 O) q (Qm 4 O O q (Qm 5 O O q (PH 6 O (Qc PS Py O O ω) q (Qm 8 O O q (Qm 9 O O q (PH 10 O (Qc PS Py O O ω) q (qL 7 O (λ_ h=>PG R9 O O ((K.ext h).get (i := S) ω)) q (qL 11 O (λ_ h=>PG R9 O O ((K.ext h).get (i := E) ω)) q (PH 12 O (Qc PS Py O O ω) q ?_))))))))))))); refine TV [13] (qO 13 (Q0 (i := 13) O O (Sf Py O O O (K.ext q).sl ((K.ext q).jlt ω)) ?_)); rintro a3⟨xC, xD⟩; refine ⟨trivial, ?_⟩; have nC := (K.ext q).set xC; refine P7 14 O (Qc PS Py O O ω) trivial (qO 15 (Q0 (i := 15) O O (Sf Py O O O nC.sl (nC.jlt ω)) ?_)); rintro w3⟨CT, CU⟩; refine ⟨trivial, ?_⟩; have CV := nC.set CT; have xE : Kp (λk => k = g) V w3 := q.kp.trans (xD.trans CU); refine qE (PL O (Qj O (Rq O (RR O (Pq O (PM.qb (e := [(0, _), (1, _), (10, _), (11, _)]) ?_)))))); refine R0 ?_; rw [show (S : Int) - 1 = ((S - 1 : Nat) : Int) by omega]; refine RX (α := Nat × Nat × Array Nat) (E + 1, S - 1, Go.Sort.swp D E S) (λy => [(0, .slice (some ⟨g, 0, none⟩) n cap), (1, I (a : Int)), (10, I (y.1 : Int)), (11, I (y.2.1 : Int))]) (λy w' => T9 w' g n cap y.2.2 /\ Kp (λk => k = g) w3 w' /\ Go.Sort.partLoop Rf a y.1 y.2.1 y.2.2 = Go.Sort.partLoop Rf a (E + 1) (S - 1) (Go.Sort.swp D E S) /\ (a < y.1 /\ y.1 <= n /\ y.2.1 < n)) (λy => y.2.1 + 1 - y.1) ?hI ?hround
    case hI=>exact⟨CV,Kp.refl _ _,O,by dsimp only;omega⟩
    case hround =>
     rintro⟨i,j,d4⟩ w4 ⟨ek,Z,Q,bF⟩ M;dsimp only at ek Z Q bF;rw[Go.Sort.partLoop_eq] at Q
     try dsimp only
     refine P6<|R0<|Ss (λG w'=>G=[(0,.slice (some ⟨g,0,none⟩) n cap),(1,I (a:Int)),(10,I (((Go.Sort.scanUp (λx=>Rf x d4[a]!) d4 j i):Nat):Int)),(11,I ((j:Nat):Int))]/\T9 w' g n cap d4/\Kp (λk=>k=g) w4 w') ?jE<|λjE=>?tH
     case jE=>
      rintro G wC⟨rfl,CW,jE⟩;have dw:=Go.Sort.scanUp_ge (λx=>Rf x d4[a]!) d4 j i;have mJ:=XN (λx=>Rf x d4[a]!) d4 j i
      generalize Go.Sort.scanUp (λx=>Rf x d4[a]!) d4 j i=H at Q dw mJ
      refine R0<|Ss (λG w'=>G=[(0,.slice (some ⟨g,0,none⟩) n cap),(1,I (a:Int)),(10,I ((H:Nat):Int)),(11,I (((Go.Sort.scanDown (λx=>!Rf x d4[a]!) d4 H j):Nat):Int))]/\T9 w' g n cap d4/\Kp (λk=>k=g) wC w') ?fO<|λfO=>?tG
      case fO=>
       rintro G W⟨rfl,J,fO⟩;have kW:=Go.Sort.scanDown_le (λx=>!Rf x d4[a]!) d4 H j
       generalize Go.Sort.scanDown (λx=>!Rf x d4[a]!) d4 H j=U at Q kW
       refine OY<|QG O<|R8 O<|P4<|Pn O (λh5=>?_)<|λh5=>?_
       ·rw[if_pos ω] at Q;refine Pf O<|OY ?_;rw[<-Q];have pa:=((kX.trans (p8.trans jd)).trans xE).trans (Z.trans (jE.trans fO));have f:=Ext.Pz W;refine PC [13,15] (λw'=>Ext W w') Pd O (Qm 0 O O f (Qm 1 O O f (QD (i:=2) O Pd O O (λ_=>Y5 O) f (QD (i:=3) O Pd O O (λ_=>Y5 O) f (Qm 4 O O f (Qm 5 O O f (PH 6 O (Qc PS Py O O ω) f (Qm 8 O O f (Qm 9 O O f (PH 10 O (Qc PS Py O O ω) f (qL 7 O (λ_ h=>PG R9 O O ((J.ext h).get (i:=a) ω)) f (qL 11 O (λ_ h=>PG R9 O O ((J.ext h).get (i:=U) ω)) f (PH 12 O (Qc PS Py O O ω) f ?_)))))))))))));refine TV [13] (qO 13 (Q0 (i:=13) O O (Sf Py O O O (J.ext f).sl ((J.ext f).jlt ω)) ?_));rintro a0⟨F,L⟩;refine⟨trivial,?_⟩;have T:=(J.ext f).set F;refine P7 14 O (Qc PS Py O O ω) trivial (qO 15 (Q0 (i:=15) O O (Sf Py O O O T.sl (T.jlt ω)) ?_));rintro w8⟨R,X⟩;refine⟨trivial,?_⟩;have kg:=T.set R;have s:Kp (λk=>k=g) W w8:=f.kp.trans (L.trans X);refine qE<|PL O<|QS O<|P3 func262 O ?_;exact⟨_,O,O,kg,pa.trans s⟩
       ·rw[if_neg ω] at Q;refine P5<|OY ?_;have f:=Ext.Pz W;refine PC [13,15] (λw'=>Ext W w') Pd O (Qm 0 O O f (Qm 1 O O f (QD (i:=2) O Pd O O (λ_=>Y5 O) f (QD (i:=3) O Pd O O (λ_=>Y5 O) f (Qm 4 O O f (Qm 5 O O f (PH 6 O (Qc PS Py O O ω) f (Qm 8 O O f (Qm 9 O O f (PH 10 O (Qc PS Py O O ω) f (qL 7 O (λ_ h=>PG R9 O O ((J.ext h).get (i:=U) ω)) f (qL 11 O (λ_ h=>PG R9 O O ((J.ext h).get (i:=H) ω)) f (PH 12 O (Qc PS Py O O ω) f ?_)))))))))))));refine TV [13] (qO 13 (Q0 (i:=13) O O (Sf Py O O O (J.ext f).sl ((J.ext f).jlt ω)) ?_));rintro a0⟨F,L⟩;refine⟨trivial,?_⟩;have T:=(J.ext f).set F;refine P7 14 O (Qc PS Py O O ω) trivial (qO 15 (Q0 (i:=15) O O (Sf Py O O O T.sl (T.jlt ω)) ?_));rintro w8⟨R,X⟩;refine⟨trivial,?_⟩;have kg:=T.set R;have s:Kp (λk=>k=g) W w8:=f.kp.trans (L.trans X);refine qE<|PL O<|Qj O<|Pq O<|Ra O<|RR O<|Pq O<|An ?_;rw[show(U:Int)-1=((U-1:Nat):Int) by omega];exact(M (H+1,U-1,Go.Sort.swp d4 H U) _ ⟨kg,(Z.trans (jE.trans fO)).trans s,Q,by dsimp only;omega⟩ (by dsimp only;omega)).qb
      case tG=>
       refine RX (α:=Nat) j (λr=>[(0,.slice (some ⟨g,0,none⟩) n cap),(1,I (a:Int)),(10,I ((H:Nat):Int)),(11,I ((r:Nat):Int))]) (λr w'=>T9 w' g n cap d4/\Kp (λk=>k=g) wC w'/\Go.Sort.scanDown (λx=>!Rf x d4[a]!) d4 H r=Go.Sort.scanDown (λx=>!Rf x d4[a]!) d4 H (j)/\r<n) (λr=>r) ?hI ?hround
       case hI=>exact⟨CW,Kp.refl _ _,O,ω⟩
       case hround=>
        rintro r C⟨m,z,l,c⟩ M
        try dsimp only
        have hg:=Ext.Pz C;rcases y0a r H with B|B
        ·refine OY<|OY<|RI (λw'=>Ext C w') O<|Pu 0 O O hg<|Pu 1 O O hg<|P7 2 O (ZG O O) hg<|TJ<|Pu 3 O O hg<|qJ 4 O hg<|qJ 5 O hg<|qJ 6 O hg<|qJ 7 O hg<|qJ 8 O hg<|qJ 9 O hg ?_;refine qJ 10 O hg<|qJ 11 O hg<|qJ 12 O hg<|qJ 13 O hg<|P7 14 O (U0 O O) hg<|qE<|P9 O<|Pf O ?_;rw[Sw _ _ _ _ (.inl B)] at l;subst l;exact(fO _ _ ⟨O,m.ext hg,z.trans hg.kp⟩).qb
        ·refine OY (OY (RI (λw'=>Ext C w') O (Pu 0 O O hg (Pu 1 O O hg (P7 2 O (ZG O O) hg (TW (Pu 3 O O hg (Pu 4 O O hg (Pu 5 O O hg (P7 6 O (Qc PS Py O O ω) hg (Pu 8 O O hg (Pu 9 O O hg (P7 10 O (Qc PS Py O O ω) hg ?_)))))))))))));refine qT 7 O (λ_ h=>PG R9 O O ((m.ext h).get (i:=r) ω)) hg (qT 11 O (λ_ h=>PG R9 O O ((m.ext h).get (i:=a) ω)) hg (Tl 12 O WI O (Sq _ _ _) ?_));rintro _ w6⟨rfl,rfl⟩;refine⟨hg,?_⟩;refine P7 13 O (zaj O) hg<|P7 14 O (Ux O O) hg<|qE<|QF O (λA=>?_)<|λA=>?_
         ·rw[Xp _ _ _ _ B (by simpa[Rf] using A) ω] at l;refine P5<|P6<|Ra O<|RR O<|Pq O<|An ?_;rw[show(r:Int)-1=((r-1:Nat):Int) by omega];exact(M (r-1) _ ⟨m.ext hg,z.trans hg.kp,l,ω⟩ ω).qb
         ·rw[Sw _ _ _ _ (.inr (by simpa[Rf] using A))] at l;refine Pf O ?_;subst l;exact(fO _ _ ⟨O,m.ext hg,z.trans hg.kp⟩).qb
     case tH=>
      refine RX (α:=Nat) i (λr=>[(0,.slice (some ⟨g,0,none⟩) n cap),(1,I (a:Int)),(10,I ((r:Nat):Int)),(11,I ((j:Nat):Int))]) (λr w'=>T9 w' g n cap d4/\Kp (λk=>k=g) w4 w'/\Go.Sort.scanUp (λx=>Rf x d4[a]!) d4 j r=Go.Sort.scanUp (λx=>Rf x d4[a]!) d4 j (i)/\i<=r/\r<=n+1) (λr=>j+1-r) ?hI ?hround
      case hI=>exact⟨ek,Kp.refl _ _,O,y02 _,ω⟩
      case hround=>
       rintro r C⟨m,z,l,c⟩ M
       try dsimp only
       have hg:=Ext.Pz C;rcases y0a j r with B|B
       ·refine OY<|OY<|RI (λw'=>Ext C w') O<|Pu 0 O O hg<|Pu 1 O O hg<|P7 2 O (ZG O O) hg<|TJ<|Pu 3 O O hg<|qJ 4 O hg<|qJ 5 O hg<|qJ 6 O hg<|qJ 7 O hg<|qJ 8 O hg<|qJ 9 O hg ?_;refine qJ 10 O hg<|qJ 11 O hg<|qJ 12 O hg<|P7 13 O (U0 O O) hg<|qE<|P9 O<|Pf O ?_;rw[TA _ _ _ _ (.inl B)] at l;subst l;exact(jE _ _ ⟨O,m.ext hg,z.trans hg.kp⟩).qb
       ·refine OY (OY (RI (λw'=>Ext C w') O (Pu 0 O O hg (Pu 1 O O hg (P7 2 O (ZG O O) hg (TW (Pu 3 O O hg (Pu 4 O O hg (Pu 5 O O hg (P7 6 O (Qc PS Py O O ω) hg (Pu 8 O O hg (Pu 9 O O hg (P7 10 O (Qc PS Py O O ω) hg ?_)))))))))))));refine qT 7 O (λ_ h=>PG R9 O O ((m.ext h).get (i:=r) ω)) hg (qT 11 O (λ_ h=>PG R9 O O ((m.ext h).get (i:=a) ω)) hg (Tl 12 O WI O (Sq _ _ _) ?_));rintro _ w6⟨rfl,rfl⟩;refine⟨hg,?_⟩;refine P7 13 O (Ux O O) hg<|qE<|QF O (λA=>?_)<|λA=>?_
        ·rw[z0c _ _ _ _ B (by simpa[Rf] using A)] at l;refine P5<|P6<|Ra O<|Qj O<|Pq O<|An ?_;exact(M (r+1) _ ⟨m.ext hg,z.trans hg.kp,l,ω,ω⟩ ω).qb
        ·rw[TA _ _ _ _ (.inr (by simpa[Rf] using A))] at l;refine Pf O ?_;subst l;exact(jE _ _ ⟨O,m.ext hg,z.trans hg.kp⟩).qb
  case CX=>
   refine RX (α:=Nat) (b-1) (λr=>[(0,.slice (some ⟨g,0,none⟩) n cap),(1,I (a:Int)),(10,I ((E:Nat):Int)),(11,I ((r:Nat):Int))]) (λr w'=>T9 w' g n cap D/\Kp (λk=>k=g) wA w'/\Go.Sort.scanDown (λx=>!Rf x D[a]!) D E r=Go.Sort.scanDown (λx=>!Rf x D[a]!) D E (b-1)/\r<n) (λr=>r) ?hI ?hround
   case hI=>exact⟨Kf,Kp.refl _ _,O,ω⟩
   case hround=>
    rintro r C⟨m,z,l,c⟩ M
    try dsimp only
    have hg:=Ext.Pz C;rcases y0a r E with B|B
    ·refine OY<|OY<|RI (λw'=>Ext C w') O<|Pu 0 O O hg<|Pu 1 O O hg<|P7 2 O (ZG O O) hg<|TJ<|Pu 3 O O hg<|qJ 4 O hg<|qJ 5 O hg<|qJ 6 O hg<|qJ 7 O hg<|qJ 8 O hg<|qJ 9 O hg ?_;refine qJ 10 O hg<|qJ 11 O hg<|qJ 12 O hg<|qJ 13 O hg<|P7 14 O (U0 O O) hg<|qE<|P9 O<|Pf O ?_;rw[Sw _ _ _ _ (.inl B)] at l;subst l;exact(jd _ _ ⟨O,m.ext hg,z.trans hg.kp⟩).qb
    ·refine OY (OY (RI (λw'=>Ext C w') O (Pu 0 O O hg (Pu 1 O O hg (P7 2 O (ZG O O) hg (TW (Pu 3 O O hg (Pu 4 O O hg (Pu 5 O O hg (P7 6 O (Qc PS Py O O ω) hg (Pu 8 O O hg (Pu 9 O O hg (P7 10 O (Qc PS Py O O ω) hg ?_)))))))))))));refine qT 7 O (λ_ h=>PG R9 O O ((m.ext h).get (i:=r) ω)) hg (qT 11 O (λ_ h=>PG R9 O O ((m.ext h).get (i:=a) ω)) hg (Tl 12 O WI O (Sq _ _ _) ?_));rintro _ w6⟨rfl,rfl⟩;refine⟨hg,?_⟩;refine P7 13 O (zaj O) hg<|P7 14 O (Ux O O) hg<|qE<|QF O (λA=>?_)<|λA=>?_
     ·rw[Xp _ _ _ _ B (by simpa[Rf] using A) ω] at l;refine P5<|P6<|Ra O<|RR O<|Pq O<|An ?_;rw[show(r:Int)-1=((r-1:Nat):Int) by omega];exact(M (r-1) _ ⟨m.ext hg,z.trans hg.kp,l,ω⟩ ω).qb
     ·rw[Sw _ _ _ _ (.inr (by simpa[Rf] using A))] at l;refine Pf O ?_;subst l;exact(jd _ _ ⟨O,m.ext hg,z.trans hg.kp⟩).qb
 case CY=>
  refine RX (α:=Nat) (a+1) (λr=>[(0,.slice (some ⟨g,0,none⟩) n cap),(1,I (a:Int)),(10,I ((r:Nat):Int)),(11,I (((b-1):Nat):Int))]) (λr w'=>T9 w' g n cap D/\Kp (λk=>k=g) w1 w'/\Go.Sort.scanUp (λx=>Rf x D[a]!) D (b-1) r=Go.Sort.scanUp (λx=>Rf x D[a]!) D (b-1) (a+1)/\a+1<=r/\r<=n+1) (λr=>(b-1)+1-r) ?hI ?hround
  case hI=>exact⟨Y,Kp.refl _ _,O,y02 _,ω⟩
  case hround=>
   rintro r C⟨m,z,l,c⟩ M
   try dsimp only
   have hg:=Ext.Pz C;rcases y0a (b-1) r with B|B
   ·refine OY<|OY<|RI (λw'=>Ext C w') O<|Pu 0 O O hg<|Pu 1 O O hg<|P7 2 O (ZG O O) hg<|TJ<|Pu 3 O O hg<|qJ 4 O hg<|qJ 5 O hg<|qJ 6 O hg<|qJ 7 O hg<|qJ 8 O hg<|qJ 9 O hg ?_;refine qJ 10 O hg<|qJ 11 O hg<|qJ 12 O hg<|P7 13 O (U0 O O) hg<|qE<|P9 O<|Pf O ?_;rw[TA _ _ _ _ (.inl B)] at l;subst l;exact(p8 _ _ ⟨O,m.ext hg,z.trans hg.kp⟩).qb
   ·refine OY (OY (RI (λw'=>Ext C w') O (Pu 0 O O hg (Pu 1 O O hg (P7 2 O (ZG O O) hg (TW (Pu 3 O O hg (Pu 4 O O hg (Pu 5 O O hg (P7 6 O (Qc PS Py O O ω) hg (Pu 8 O O hg (Pu 9 O O hg (P7 10 O (Qc PS Py O O ω) hg ?_)))))))))))));refine qT 7 O (λ_ h=>PG R9 O O ((m.ext h).get (i:=r) ω)) hg (qT 11 O (λ_ h=>PG R9 O O ((m.ext h).get (i:=a) ω)) hg (Tl 12 O WI O (Sq _ _ _) ?_));rintro _ w6⟨rfl,rfl⟩;refine⟨hg,?_⟩;refine P7 13 O (Ux O O) hg<|qE<|QF O (λA=>?_)<|λA=>?_
    ·rw[z0c _ _ _ _ B (by simpa[Rf] using A)] at l;refine P5<|P6<|Ra O<|Qj O<|Pq O<|An ?_;exact(M (r+1) _ ⟨m.ext hg,z.trans hg.kp,l,ω,ω⟩ ω).qb
    ·rw[TA _ _ _ _ (.inr (by simpa[Rf] using A))] at l;refine Pf O ?_;subst l;exact(p8 _ _ ⟨O,m.ext hg,z.trans hg.kp⟩).qb
theorem zeL {n:Nat}{d:Array Nat}(h:T9 w g n cap d)(a b z:Nat)(CP:a<=z)(rM:z<b)(hb:b<=n)(hn:n<=65536):
  PN prog 261 [.slice (some ⟨g,0,none⟩) n cap,I (a:Int),I (b:Int),I (z:Int)] w λu w'=>u=I ((Go.Sort.partitionEqual Rf d a b z).1:Int)/\T9 w' g n cap (Go.Sort.partitionEqual Rf d a b z).2/\Kp (λk=>k=g) w w':=by
 refine py (e:=[(0,_),(1,_),(2,_),(3,_)]) func261 O ntmps261 O O<|Re O<|OY ?_
 have f:=Ext.Pz w
 refine PC [13,15] (λw'=>Ext w w') Pd O<|Qm 0 O O f<|Qm 1 O O f<|QD (i:=2) O Pd O O (λ_=>Y5 O) f<|QD (i:=3) O Pd O O (λ_=>Y5 O) f<|Qm 4 O O f<|Qm 5 O O f<|PH 6 O (Qc PS Py O O ω) f<|Qm 8 O O f<|Qm 9 O O f<|PH 10 O (Qc PS Py O O ω) f<|qL 7 O (λ_ T=>PG R9 O O ((h.ext T).get (i:=z) ω)) f<|qL 11 O (λ_ T=>PG R9 O O ((h.ext T).get (i:=a) ω)) f<|PH 12 O (Qc PS Py O O ω) f ?_
 refine TV [13]<|qO 13<|Q0 (i:=13) O O (Sf Py O O O (h.ext f).sl ((h.ext f).jlt ω)) ?_
 rintro a0⟨nz,nA⟩
 refine⟨trivial,?_⟩
 have S:=(h.ext f).set nz
 refine P7 14 O (Qc PS Py O O ω) trivial<|qO 15<|Q0 (i:=15) O O (Sf Py O O O S.sl (S.jlt ω)) ?_
 rintro w1⟨tE,tF⟩
 refine⟨trivial,?_⟩
 have M:=S.set tE
 have R:Kp (λk=>k=g) w w1:=f.kp.trans (nA.trans tF)
 refine qE<|PL O<|Qj O<|Ph O<|RR O<|QS O<|PM.qb (e:=[(0,_),(1,_),(8,_),(9,_),(10,_)]) ?_
 refine R0 ?_
 unfold Go.Sort.partitionEqual
 replace M:T9 w1 g n cap (Go.Sort.swp d a z):=M
 generalize Go.Sort.swp d a z=D at M
 rw[show(a:Int)+1=((a+1:Nat):Int) by omega,show(b:Int)-1=((b-1:Nat):Int) by omega]
 refine RX (α:=Nat×Nat×Array Nat) (a+1,b-1,D) (λy=>[(0,.slice (some ⟨g,0,none⟩) n cap),(1,I (a:Int)),(9,I (y.1:Int)),(10,I (y.2.1:Int))]) (λy w'=>T9 w' g n cap y.2.2/\Kp (λk=>k=g) w1 w'/\Go.Sort.partEqLoop Rf a y.1 y.2.1 y.2.2=Go.Sort.partEqLoop Rf a (a+1) (b-1) D/\(a<y.1/\y.1<=n/\y.2.1<n)) (λy=>y.2.1+1-y.1) ?hI ?hround
 case hI=>exact⟨M,Kp.refl _ _,O,by dsimp only;omega⟩
 case hround =>
  rintro⟨i,j,d4⟩ w4 ⟨V,N,v,Z⟩ J;dsimp only at V N v Z;rw[Go.Sort.partEqLoop_eq] at v
  try dsimp only
  refine P6<|R0<|Ss (λH w'=>H=[(0,.slice (some ⟨g,0,none⟩) n cap),(1,I (a:Int)),(9,I (((Go.Sort.scanUp (λx=>!Rf d4[a]! x) d4 j i):Nat):Int)),(10,I ((j:Nat):Int))]/\T9 w' g n cap d4/\Kp (λk=>k=g) w4 w') ?jE<|λjE=>?tH
  case jE=>
   rintro H W⟨rfl,Y,jE⟩;have p:=Go.Sort.scanUp_ge (λx=>!Rf d4[a]! x) d4 j i;have mJ:=XN (λx=>!Rf d4[a]! x) d4 j i
   generalize Go.Sort.scanUp (λx=>!Rf d4[a]! x) d4 j i=q at v p mJ
   refine R0<|Ss (λH w'=>H=[(0,.slice (some ⟨g,0,none⟩) n cap),(1,I (a:Int)),(9,I ((q:Nat):Int)),(10,I (((Go.Sort.scanDown (λx=>Rf d4[a]! x) d4 q j):Nat):Int))]/\T9 w' g n cap d4/\Kp (λk=>k=g) W w') ?fO<|λfO=>?tG
   case fO=>
    rintro H U⟨rfl,G,fO⟩;have P:=Go.Sort.scanDown_le (λx=>Rf d4[a]! x) d4 q j
    generalize Go.Sort.scanDown (λx=>Rf d4[a]! x) d4 q j=K at v P
    refine OY<|QG O<|R8 O<|P4<|Pn O (λL=>?_)<|λL=>?_
    ·rw[if_pos ω] at v;rw[<-v];refine Pf O<|PL O<|Pq O<|P3 func261 O ?_;exact⟨_,O,O,G,R.trans (N.trans (jE.trans fO))⟩
    ·rw[if_neg ω] at v;refine P5<|OY ?_;have l:=Ext.Pz U;refine PC [13,15] (λw'=>Ext U w') Pd O (Qm 0 O O l (Qm 1 O O l (QD (i:=2) O Pd O O (λ_=>Y5 O) l (QD (i:=3) O Pd O O (λ_=>Y5 O) l (Qm 4 O O l (Qm 5 O O l (PH 6 O (Qc PS Py O O ω) l (Qm 8 O O l (Qm 9 O O l (PH 10 O (Qc PS Py O O ω) l (qL 7 O (λ_ h=>PG R9 O O ((G.ext h).get (i:=K) ω)) l (qL 11 O (λ_ h=>PG R9 O O ((G.ext h).get (i:=q) ω)) l (PH 12 O (Qc PS Py O O ω) l ?_)))))))))))));refine TV [13] (qO 13 (Q0 (i:=13) O O (Sf Py O O O (G.ext l).sl ((G.ext l).jlt ω)) ?_));rintro a1⟨t,F⟩;refine⟨trivial,?_⟩;have Q:=(G.ext l).set t;refine P7 14 O (Qc PS Py O O ω) trivial (qO 15 (Q0 (i:=15) O O (Sf Py O O O Q.sl (Q.jlt ω)) ?_));rintro w8⟨X,kf⟩;refine⟨trivial,?_⟩;have kg:=Q.set X;have s:Kp (λk=>k=g) U w8:=l.kp.trans (F.trans kf);refine qE<|PL O<|Qj O<|Pq O<|Ra O<|RR O<|Pq O<|An ?_;rw[show(K:Int)-1=((K-1:Nat):Int) by omega];exact(J (q+1,K-1,Go.Sort.swp d4 q K) _ ⟨kg,(N.trans (jE.trans fO)).trans s,v,by dsimp only;omega⟩ (by dsimp only;omega)).qb
   case tG=>
    refine RX (α:=Nat) j (λr=>[(0,.slice (some ⟨g,0,none⟩) n cap),(1,I (a:Int)),(9,I ((q:Nat):Int)),(10,I ((r:Nat):Int))]) (λr w'=>T9 w' g n cap d4/\Kp (λk=>k=g) W w'/\Go.Sort.scanDown (λx=>Rf d4[a]! x) d4 q r=Go.Sort.scanDown (λx=>Rf d4[a]! x) d4 q (j)/\r<n) (λr=>r) ?hI ?hround
    case hI=>exact⟨Y,Kp.refl _ _,O,ω⟩
    case hround=>
     rintro r E⟨o,A,m,c⟩ J
     try dsimp only
     have hg:=Ext.Pz E;rcases y0a r q with C|C
     ·refine OY<|OY<|RI (λw'=>Ext E w') O<|Pu 0 O O hg<|Pu 1 O O hg<|P7 2 O (ZG O O) hg<|TJ<|Pu 3 O O hg<|qJ 4 O hg<|qJ 5 O hg<|qJ 6 O hg<|qJ 7 O hg<|qJ 8 O hg<|qJ 9 O hg ?_;refine qJ 10 O hg<|qJ 11 O hg<|qJ 12 O hg<|P7 13 O (U0 O O) hg<|qE<|P9 O<|Pf O ?_;rw[Sw _ _ _ _ (.inl C)] at m;subst m;exact(fO _ _ ⟨O,o.ext hg,A.trans hg.kp⟩).qb
     ·refine OY (OY (RI (λw'=>Ext E w') O (Pu 0 O O hg (Pu 1 O O hg (P7 2 O (ZG O O) hg (TW (Pu 3 O O hg (Pu 4 O O hg (Pu 5 O O hg (P7 6 O (Qc PS Py O O ω) hg (Pu 8 O O hg (Pu 9 O O hg (P7 10 O (Qc PS Py O O ω) hg ?_)))))))))))));refine qT 7 O (λ_ h=>PG R9 O O ((o.ext h).get (i:=a) ω)) hg (qT 11 O (λ_ h=>PG R9 O O ((o.ext h).get (i:=r) ω)) hg (Tl 12 O WI O (Sq _ _ _) ?_));rintro _ w6⟨rfl,rfl⟩;refine⟨hg,?_⟩;refine P7 13 O (Ux O O) hg<|qE<|QF O (λB=>?_)<|λB=>?_
      ·rw[Xp _ _ _ _ C (by simpa[Rf] using B) ω] at m;refine P5<|P6<|Ra O<|RR O<|Pq O<|An ?_;rw[show(r:Int)-1=((r-1:Nat):Int) by omega];exact(J (r-1) _ ⟨o.ext hg,A.trans hg.kp,m,ω⟩ ω).qb
      ·rw[Sw _ _ _ _ (.inr (by simpa[Rf] using B))] at m;refine Pf O ?_;subst m;exact(fO _ _ ⟨O,o.ext hg,A.trans hg.kp⟩).qb
  case tH=>
   refine RX (α:=Nat) i (λr=>[(0,.slice (some ⟨g,0,none⟩) n cap),(1,I (a:Int)),(9,I ((r:Nat):Int)),(10,I ((j:Nat):Int))]) (λr w'=>T9 w' g n cap d4/\Kp (λk=>k=g) w4 w'/\Go.Sort.scanUp (λx=>!Rf d4[a]! x) d4 j r=Go.Sort.scanUp (λx=>!Rf d4[a]! x) d4 j (i)/\i<=r/\r<=n+1) (λr=>j+1-r) ?hI ?hround
   case hI=>exact⟨V,Kp.refl _ _,O,y02 _,ω⟩
   case hround=>
    rintro r E⟨o,A,m,c⟩ J
    try dsimp only
    have hg:=Ext.Pz E;rcases y0a j r with C|C
    ·refine OY<|OY<|RI (λw'=>Ext E w') O<|Pu 0 O O hg<|Pu 1 O O hg<|P7 2 O (ZG O O) hg<|TJ<|Pu 3 O O hg<|qJ 4 O hg<|qJ 5 O hg<|qJ 6 O hg<|qJ 7 O hg<|qJ 8 O hg<|qJ 9 O hg ?_;refine qJ 10 O hg<|qJ 11 O hg<|qJ 12 O hg<|qJ 13 O hg<|P7 14 O (U0 O O) hg<|qE<|P9 O<|Pf O ?_;rw[TA _ _ _ _ (.inl C)] at m;subst m;exact(jE _ _ ⟨O,o.ext hg,A.trans hg.kp⟩).qb
    ·refine OY (OY (RI (λw'=>Ext E w') O (Pu 0 O O hg (Pu 1 O O hg (P7 2 O (ZG O O) hg (TW (Pu 3 O O hg (Pu 4 O O hg (Pu 5 O O hg (P7 6 O (Qc PS Py O O ω) hg (Pu 8 O O hg (Pu 9 O O hg (P7 10 O (Qc PS Py O O ω) hg ?_)))))))))))));refine qT 7 O (λ_ h=>PG R9 O O ((o.ext h).get (i:=a) ω)) hg (qT 11 O (λ_ h=>PG R9 O O ((o.ext h).get (i:=r) ω)) hg (Tl 12 O WI O (Sq _ _ _) ?_));rintro _ w6⟨rfl,rfl⟩;refine⟨hg,?_⟩;refine P7 13 O (zaj O) hg<|P7 14 O (Ux O O) hg<|qE<|QF O (λB=>?_)<|λB=>?_
     ·rw[z0c _ _ _ _ C (by simpa[Rf] using B)] at m;refine P5<|P6<|Ra O<|Qj O<|Pq O<|An ?_;exact(J (r+1) _ ⟨o.ext hg,A.trans hg.kp,m,ω,ω⟩ ω).qb
     ·rw[TA _ _ _ _ (.inr (by simpa[Rf] using B))] at m;refine Pf O ?_;subst m;exact(jE _ _ ⟨O,o.ext hg,A.trans hg.kp⟩).qb
section
variable (d:Array Nat)(b i:Nat)
theorem z2N (h:i<b)(e:Rf d[i]! d[i-1]! =false):Go.Sort.scanSorted Rf d b i=Go.Sort.scanSorted Rf d b (i+1):=by
 conv=>lhs;rw[Go.Sort.scanSorted]
 rw[if_pos]
 rw[y0w];exact⟨by simpa using h,by rw[e];rfl⟩
theorem WC (h:b<=i\/Rf d[i]! d[i-1]! =true):Go.Sort.scanSorted Rf d b i=i:=by
 rw[Go.Sort.scanSorted,if_neg]
 intro e
 rw[y0w] at e
 rcases h with h| h
 ·have:=of_decide_eq_true e.1;omega
 ·rw[h] at e;cases e.2
end
theorem z99 (d:Array Nat)(a b:Nat)(h:b-a<50):Go.Sort.partialInsertionSort Rf d a b=(d,decide (Go.Sort.scanSorted Rf d b (a+1)=b)):=by
 unfold Go.Sort.partialInsertionSort
 rw[Go.Sort.partialIns]
 by_cases e:Go.Sort.scanSorted Rf d b (a+1)=b
 ·simp only[e,if_pos,decide_true]
 ·simp only[if_neg e,if_pos h,decide_eq_false e]
theorem zcB {n:Nat}{d:Array Nat}(h:T9 w g n cap d)(a b:Nat)(H:a<b)(M:b<=n)(N:n<50):
  PN prog 259 [.slice (some ⟨g,0,none⟩) n cap,I (a:Int),I (b:Int)] w λu w'=>u= .bool (Go.Sort.partialInsertionSort Rf d a b).2/\T9 w' g n cap d/\Kp (λk=>k=g) w w':=by
 rw[z99 d a b ω]
 dsimp only
 refine py (e:=[(0,_),(1,_),(2,_)]) func259 O ntmps259 O O<|qN O<|Rq O<|Qj O<|Pq O<|OY<|Re O<|P6 ?_
 rw[show(a:Int)+1=((a+1:Nat):Int) by omega]
 refine RX (α:=Unit) () (λ_=>[(0,.slice (some ⟨g,0,none⟩) n cap),(1,I (a:Int)),(2,I (b:Int)),(7,I ((a+1:Nat):Int)),(8,I 0)]) (λy w'=>w'=w) (λy=>0) ?hI ?hround
 case hI=>rfl
 case hround =>
  rintro _ w4 rfl G
  try dsimp only
  refine Qi O<|QY O<|P4<|Pn O (λB=>?_)<|λB=>?_
  ·refine P5<|R0<|R0<|Ss (λA w'=>A=[(0,.slice (some ⟨g,0,none⟩) n cap),(1,I (a:Int)),(2,I (b:Int)),(7,I (Go.Sort.scanSorted Rf d b (a+1):Int)),(8,I 0)]/\T9 w' g n cap d/\Kp (λk=>k=g) w4 w') ?eW<|λeW=>?CZ
   case eW=>
    rintro A S⟨rfl,z,eW⟩;refine OY<|QG O<|Rx O<|P4<|Pn O (λC=>?_)<|λC=>?_
    ·have x:Go.Sort.scanSorted Rf d b (a+1)=b:=ω
     rw[decide_eq_true x];refine Re O<|P3 func259 O ?_;exact⟨_,O,O,z,eW⟩
    ·have x:¬Go.Sort.scanSorted Rf d b (a+1)=b:=ω
     rw[decide_eq_false x];refine P5<|OY<|QG O<|RR O<|QY O<|P4<|Pn O (λD=>?_)<|λD=>?_
     ·refine Re O<|P3 func259 O ?_;exact⟨_,O,O,z,eW⟩
     ·omega
   case CZ=>
    refine RX (α:=Nat) (a+1) (λr=>[(0,.slice (some ⟨g,0,none⟩) n cap),(1,I (a:Int)),(2,I (b:Int)),(7,I (r:Int)),(8,I 0)]) (λr w'=>T9 w' g n cap d/\Kp (λk=>k=g) w4 w'/\Go.Sort.scanSorted Rf d b r=Go.Sort.scanSorted Rf d b (a+1)/\a<r/\r<=b) (λr=>b-r) ?hI ?hround
    case hI=>exact⟨h,Kp.refl _ _,O,Nat.lt_succ_self a,H⟩
    case hround=>
     rintro r v⟨l,m,f,K,J⟩ E
     try dsimp only
     have hg:=Ext.Pz v;rcases y0a r b with q|q
     ·refine OY (OY (RI (λw'=>Ext v w') O (Pu 0 O O hg (Pu 1 O O hg (P7 2 O (ZQ O O) hg (TW (Pu 3 O O hg (Pu 4 O O hg (Pu 5 O O hg (P7 6 O (Qc PS Py O O ω) hg (Pu 8 O O hg (Pu 9 O O hg (P7 10 O (Yf O O ω) hg ?_)))))))))))));rw[show(r:Int)-1=((r-1:Nat):Int) by omega];refine qT 7 O (λ_ h=>PG R9 O O ((l.ext h).get (i:=r) ω)) hg (P7 11 O (Qc PS Py O O ω) hg (qT 12 O (λ_ h=>PG R9 O O ((l.ext h).get (i:=r-1) ω)) hg (Tl 13 O WI O (Sq _ _ _) ?_)));rintro _ Q⟨rfl,rfl⟩;refine⟨hg,?_⟩;refine P7 14 O (zaj O) hg<|P7 15 O (Ux O O) hg<|qE<|QF O (λo=>?_)<|λo=>?_
      ·rw[z2N _ _ _ q (by simpa[Rf] using o)] at f;refine P5<|P6<|Ra O<|Qj O<|Pq O<|An ?_;exact(E (r+1) _ ⟨l.ext hg,m.trans hg.kp,f,ω,ω⟩ ω).qb
      ·rw[WC _ _ _ (.inr (by simpa[Rf] using o))] at f;refine Pf O ?_;subst f;exact(eW _ _ ⟨O,l.ext hg,m.trans hg.kp⟩).qb
     ·refine OY<|OY<|RI (λw'=>Ext v w') O<|Pu 0 O O hg<|Pu 1 O O hg<|P7 2 O (ZQ O O) hg<|TJ<|Pu 3 O O hg<|qJ 4 O hg<|qJ 5 O hg<|qJ 6 O hg<|qJ 7 O hg<|qJ 8 O hg<|qJ 9 O hg ?_;refine qJ 10 O hg<|qJ 11 O hg<|qJ 12 O hg<|qJ 13 O hg<|qJ 14 O hg<|P7 15 O (U0 O O) hg<|qE<|P9 O<|Pf O ?_;rw[WC _ _ _ (.inl q)] at f;subst f;exact(eW _ _ ⟨O,l.ext hg,m.trans hg.kp⟩).qb
  ·exact absurd ψ B
theorem YK {n s:Nat}{d:Array Nat}(h:T9 w g n cap d)(hB:Pm w sb [I (s:Int)] 3)(A:s<=1000)(x y:Nat)(B:x<n)(C:y<n)(z:sb≠g):
  PN prog 270 [.slice (some ⟨g,0,none⟩) n cap,I (x:Int),I (y:Int),ptr sb 0] w λu w'=>∃l m s':Nat,u= .tuple #[I (l:Int),I (m:Int)]/\((l=x/\m=y)\/(l=y/\m=x))/\s'<=s+1/\Pm w' sb [I (s':Int)] 3/\T9 w' g n cap d/\Kp (λk=>k=sb) w w':=by
 refine py (e:=[(0,_),(1,_),(2,_),(3,_)]) func270 O ntmps270 O O ?_
 have hg:=Ext.Pz w
 refine qN O<|QS O<|OY<|OY<|RI (λw'=>Ext w w') O<|Pu 0 O O hg<|Pu 1 O O hg<|P7 2 O (Qc PS Py O O ω) hg<|Pu 4 O O hg<|Pu 5 O O hg<|P7 6 O (Qc PS Py O O ω) hg<|qT 3 O (λ_ f=>PG R9 O O ((h.ext f).get (i:=y) ω)) hg<|qT 7 O (λ_ f=>PG R9 O O ((h.ext f).get (i:=x) ω)) hg<|Tl 8 O WI O (Sq _ _ _) ?_
 rintro _ D⟨rfl,rfl⟩
 refine⟨hg,?_⟩
 refine qE<|QF O (λv=>?_)<|λv=>?_
 ·have o:=hg.OZ hB;refine PL O (PQ O (qV (Pl U3 O O o O) (Qj O (PQ O (Po O (QZ Qe O O O o ξ) ?_)))));rintro w3⟨r,q⟩;refine qM O<|PB O<|QS O<|P3 func270 O ?_;exact⟨_,O,y,x,s+1,O,.inr ⟨O,O⟩,y02 _,r,(h.ext hg).kp q (λe=>z e.symm),hg.kp.trans q⟩
 ·refine P5<|QG O<|QS O<|P3 func270 O ?_;exact⟨_,O,x,y,s,O,.inl ⟨O,O⟩,Nat.le_succ _,hg.OZ hB,h.ext hg,hg.kp⟩
theorem z7n {n s:Nat}{d:Array Nat}(h:T9 w g n cap d)(hB:Pm w sb [I (s:Int)] 3)(W:s<=500)(x y z:Nat)(B:x<n)(C:y<n)(D:z<n)(l:sb≠g):
  PN prog 268 [.slice (some ⟨g,0,none⟩) n cap,I (x:Int),I (y:Int),I (z:Int),ptr sb 0] w λu w'=>∃f s':Nat,u=I (f:Int)/\(f=x\/f=y\/f=z)/\s'<=s+3/\Pm w' sb [I (s':Int)] 3/\T9 w' g n cap d/\Kp (λk=>k=sb) w w':=by
 refine py (e:=[(0,_),(1,_),(2,_),(3,_),(4,_)]) func268 O ntmps268 O O<|qN O<|Ro O<|PB O<|PB O<|Px zbG O (YK h hB ω x y B C l) ?_
 rintro _ w1⟨x1,K,Z,rfl,Q,U,o,E,m⟩
 refine Ph O<|Ta O<|SO O<|Ro O<|PB O<|PB O<|Px zbG O (YK E o ω K z ω D l) ?_
 rintro _ w2⟨M,j,a,rfl,S,V,q,G,r⟩
 refine Ph O<|Ta O<|SO O<|Ro O<|PB O<|PB O<|Px zbG O (YK G q ω x1 M ω ω l) ?_
 rintro _ w3⟨c,N,H,rfl,T,Y,v,J,A⟩
 refine Ph O<|Ta O<|QS O<|PM.qb (e:=[(2,_),(10,_)]) ?_
 refine PL O<|Pq O<|P3 func268 O ?_
 exact⟨_,O,N,H,O,ω,ω,v,J,(m.trans r).trans A⟩
theorem zav {n:Nat}{d:Array Nat}(h:T9 w g n cap d)(a b:Nat)(H:a+12<b)(C:b<=n)(D:n<50):
  PN prog 257 [.slice (some ⟨g,0,none⟩) n cap,I (a:Int),I (b:Int)] w λu w'=>∃p t:Nat,u= .tuple #[I (p:Int),I (t:Int)]/\a<=p/\p<b/\t<=2/\T9 w' g n cap d/\Ext w w':=by
 have B:g<w.heap.size:=h.sl.lt O
 refine py (e:=[(0,_),(1,_),(2,_)]) func257 O ntmps257 O O<|qN O<|SO O<|Ro O<|PB O<|RR O<|Ro O ?_
 rw[show(b:Int)-(a:Int)=((b-a:Nat):Int) by omega]
 refine Pb O O (S5 (cs:=[_]) Qe O) ?_
 rintro _ w1⟨sb,rfl,J,o,l⟩
 replace l:Pm w1 sb [I ((0:Nat):Int)] 3:=l
 refine qM O<|PB O<|qV (X5 O O ω)<|qV (Y8 O O ω)<|Qj O<|Ro O<|PB O<|qV (X5 O O ω)<|qV (Y8 O O ω)<|Qj O<|Ro O<|PB O<|qV (X5 O O ω)<|qV (Y8 O O ω) ?_
 refine Qj O<|Pq O<|PM.qb (e:=[(0,_),(6,_),(7,_),(8,_),(9,_),(10,_),(11,_),(12,_)]) ?_
 refine Qi O<|Uj O<|P4 ?_
 rw[show(a:Int)+((b-a:Nat):Int) / 4*1=((a+(b-a) / 4*1:Nat):Int) by omega,show(a:Int)+((b-a:Nat):Int) / 4*2=((a+(b-a) / 4*2:Nat):Int) by omega,show(a:Int)+((b-a:Nat):Int) / 4*3=((a+(b-a) / 4*3:Nat):Int) by omega]
 refine Pn O (λv=>?_)<|λv=>?_
 ·refine Qi O<|Uj O<|P4<|Pn O (λx=>?_)<|λx=>?_
  ·omega
  ·refine P5 (Pc O (PB O (PB O (Px ziw O (z7n (h.ext o) l ω (a+(b-a) / 4*1) (a+(b-a) / 4*2) (a+(b-a) / 4*3) ω ω ω ω) ?_))));rintro _ w2⟨p,s,rfl,E,G,q,m,r⟩;have f:Ext w w2:=o.It r (λk e=>ω);refine Ro O<|qV (Pl U3 O O q O)<|P4<|P6<|qN O<|Rx O<|Pq O<|Pn O (λz=>?_)<|λz=>?_
   ·refine PL O<|QS O<|P3 func257 O ?_;exact⟨_,O,p,1,O,ω,ω,ω,m,f⟩
   ·refine qN O<|Rx O<|Pq O<|Pn O (λA=>?_)<|λA=>?_
    ·refine PL O<|QS O<|P3 func257 O ?_;exact⟨_,O,p,2,O,ω,ω,ω,m,f⟩
    ·refine PL O<|QS O<|P3 func257 O ?_;exact⟨_,O,p,0,O,ω,ω,ω,m,f⟩
 ·omega
theorem zb0 {xb r:Nat}(hB:Pm w xb [Pt r] 383)(J:r<18446744073709551616):
  PN prog 266 [ptr xb 0] w λu w'=>∃x:Nat,u=Pt x/\x<18446744073709551616/\Pm w' xb [Pt x] 383/\Kp (λk=>k=xb) w w':=by
 refine py (e:=[(0,_)]) func266 O ntmps266 O O ?_
 have m:=Ext.Pz w
 refine Re O<|OY<|PC [9] (λw'=>Ext w w') Pd O<|Qm 0 O O m<|PH 1 O (QL O) m<|qL 2 O (λ_ h=>Pl z5h O O (h.OZ hB) O) m<|Qm 3 O O m<|PH 4 O (QL O) m<|qL 5 O (λ_ h=>Pl z5h O O (h.OZ hB) O) m<|PH 6 O (RN 13 8192 O O ψ O) m<|PH 7 O (z2w O O ω ω) m<|PH 8 O (QL O) m ?_
 generalize G:r^^^r*8192%18446744073709551616=r1
 have H:r1<18446744073709551616:=by rw[<-G];exact y28 (n:=64) ω ω
 refine TV [9]<|qO 9<|Q0 (i:=9) O O (QZ z5j O O O (m.OZ hB) ξ) ?_
 rintro w1⟨o,A⟩
 refine⟨trivial,?_⟩
 replace o:Pm w1 xb [Pt r1] 383:=o
 have f:=Ext.Pz w1
 refine qE<|OY<|PC [9] (λw'=>Ext w1 w') Pd O<|Qm 0 O O f<|PH 1 O (QL O) f<|qL 2 O (λ_ h=>Pl z5h O O (h.OZ o) O) f<|Qm 3 O O f<|PH 4 O (QL O) f<|qL 5 O (λ_ h=>Pl z5h O O (h.OZ o) O) f<|PH 6 O (Vk 7 128 O O ψ O) f<|PH 7 O (z2w O O ω ω) f<|PH 8 O (QL O) f ?_
 generalize E:r1^^^r1 / 128=r2
 have I:r2<18446744073709551616:=by rw[<-E];exact y28 (n:=64) ω ω
 refine TV [9]<|qO 9<|Q0 (i:=9) O O (QZ z5j O O O (f.OZ o) ξ) ?_
 rintro w2⟨q,B⟩
 refine⟨trivial,?_⟩
 replace q:Pm w2 xb [Pt r2] 383:=q
 have l:=Ext.Pz w2
 refine qE<|OY<|PC [9] (λw'=>Ext w2 w') Pd O<|Qm 0 O O l<|PH 1 O (QL O) l<|qL 2 O (λ_ h=>Pl z5h O O (h.OZ q) O) l<|Qm 3 O O l<|PH 4 O (QL O) l<|qL 5 O (λ_ h=>Pl z5h O O (h.OZ q) O) l<|PH 6 O (RN 17 131072 O O ψ O) l<|PH 7 O (z2w O O ω ω) l<|PH 8 O (QL O) l ?_
 generalize z:r2^^^r2*131072%18446744073709551616=r3
 have D:r3<18446744073709551616:=by rw[<-z];exact y28 (n:=64) ω ω
 refine TV [9]<|qO 9<|Q0 (i:=9) O O (QZ z5j O O O (l.OZ q) ξ) ?_
 rintro w3⟨v,C⟩
 refine⟨trivial,?_⟩
 replace v:Pm w3 xb [Pt r3] 383:=v
 refine qE<|PM.qb (e:=[(0,_),(2,_)]) ?_
 refine PL O<|PQ O<|qV (Pl z5h O O v O)<|Pq O<|P3 func266 O ?_
 exact⟨_,O,r3,O,D,v,(m.kp.trans A).trans ((f.kp.trans B).trans (l.kp.trans C))⟩
def z8d (x:Nat)(f:x<18446744073709551616)(w:World):PN prog 246 [Pt x] w λv w'=>v=I (Qn x:Int)/\w'=w:=by
 refine py (e:=[(0,_)]) func246 O ntmps246 O O<|Re O<|OY<|Tj O<|PL O<|Px z3q O (UN x f w) ?_
 rintro _ w⟨rfl,rfl⟩
 refine Pq O<|P3 func246 O ?_
 exact⟨_,O,O,O⟩
def zcX (x:Nat)(k:x<4294967296)(w:World):PN prog 265 [I (x:Int)] w λv w'=>v=Pt (2^Qn x)/\w'=w:=by
 have f:Qn x<=32:=Rz ω
 have h:2^Qn x<=2^32:=y0r ψ f
 refine py (e:=[(0,_)]) func265 O ntmps265 O O<|qN O<|Rq O<|qV (QH O U3 zgd ω)<|Px zeX O (z8d x ω w) ?_
 rintro _ w⟨rfl,rfl⟩
 refine qV (RN (Qn x) (2^Qn x) O O ω O) ?_
 rw[show 1*2^Qn x%18446744073709551616=2^Qn x by rw[y1h];exact y0g ω]
 refine Pq O<|P3 func265 O ?_
 exact⟨_,O,O,O⟩
open Go.Sort in
def zcC {d:Array Nat}(e:a<=i)(f:i<b)(h:a<=j)(k:j<b)(l:b<=d.size):PermIn a b d (swp d i j):=swp_permIn d a b i j e f h k l
theorem zbs {n:Nat}{d:Array Nat}(h:T9 w g n cap d)(a b:Nat)(jz:a+12<b)(hb:b<=n)(hn:n<50):
  PN prog 256 [.slice (some ⟨g,0,none⟩) n cap,I (a:Int),I (b:Int)] w λu w'=>u= .tuple #[]/\∃Q,Go.Sort.PermIn a b d Q/\T9 w' g n cap Q/\Kp (λk=>k=g) w w':=by
 have Kk:g<w.heap.size:=h.sl.lt O
 have D2:2^(Qn (b-a)-1)<=b-a:=z0X ω
 have tI:2^Qn (b-a)<=2*(b-a):=by
  have tJ:Qn (b-a)≠0:=λe=>by have:=XB (v:=b-a);rw[e] at this;omega
  rw[show Qn (b-a)=Qn (b-a)-1+1 by omega,y1L];omega
 have W:1<=2^Qn (b-a):=Nat.one_le_two_pow
 refine py (e:=[(0,_),(1,_),(2,_)]) func256 O ntmps256 O O<|QG O<|RR O ?_
 rw[show(b:Int)-(a:Int)=((b-a:Nat):Int) by omega]
 refine Rq O<|Uj O<|P4<|Pn O (λP=>?_)<|λP=>?_
 ·refine PL O (qV (QH O U3 z5h ω) (Pb O O (S5 (cs:=[_]) z5j O) ?_));rintro _ w1⟨xb,rfl,O5,c,j⟩;refine Po O (QZ z5j O O O j ξ) ?_;rintro w2⟨B,p⟩;have J:Ext w w2:=c.It p (λk e=>ω);replace B:Pm w2 xb [Pt (b-a)] 383:=B;refine qM O (Ph O (Px zjZ O (zcX (b-a) ω _) ?_));rintro _ w2⟨rfl,rfl⟩
  generalize 2^Qn (b-a)=M at tI W
  refine Ro O (PB O (qV (X5 O O ω) (qV (Y8 O O ω) (Qj O (RR O (Pq O (P6 ?_)))))));rw[show(a:Int)+((b-a:Nat):Int) / 4*2-1=((a+(b-a) / 4*2-1:Nat):Int) by omega];refine RX (α:=Nat×Array Nat×Nat) (a+(b-a) / 4*2-1,d,b-a) (λy=>[(0,.slice (some ⟨g,0,none⟩) n cap),(1,I (a:Int)),(6,I ((b-a:Nat):Int)),(7,ptr xb 0),(8,Pt M),(9,I (y.1:Int))]) (λy w'=>T9 w' g n cap y.2.1/\Pm w' xb [Pt y.2.2] 383/\y.2.2<18446744073709551616/\Go.Sort.PermIn a b d y.2.1/\Kp (λk=>k=g) w w'/\a<=y.1) (λy=>a+b+2-y.1) ?hI ?hround
  case hI=>exact⟨h.ext J,B,by dsimp only;omega,Go.Sort.permIn_refl _ _ _,J.kp,by dsimp only;omega⟩
  case hround=>
   rintro⟨l,d4,r⟩ w4 ⟨A,H,N,E,C,U⟩ ih;dsimp only at A H N E C U;have cO:=A.size
   try dsimp only
   refine OY<|QG O<|Ph O<|qV (X5 O O ω)<|qV (Y8 O O ω)<|Qj O<|Qj O<|zle O<|P4<|Pn O (λR=>?_)<|λR=>?_
   ·have pN:l<b:=ω
    refine P5<|R0<|qN O<|Px zhm O (zb0 H N) ?_;rintro _ V⟨G,rfl,s,Z,K⟩;have z:=A.kp K (λe=>ω);have t:Kp (λk=>k=g) w V:=C.It K (λk e=> .inl ω);refine Ph O (qV (Xm (m:=M) (n:=1) O O O (by show M<2^64;omega) ω) ?_);refine qV (Va O O ω ω) ?_;have Y:G&&&(M-1)<=M-1:=y24
    generalize G&&&(M-1)=q at Y
    refine qV (Q8 O zgd U3 ω)<|Pq O<|OY<|QG O<|Uj O<|P4<|Qf (λS w'=>∃o:Nat,S=[(0,.slice (some ⟨g,0,none⟩) n cap),(1,I (a:Int)),(6,I ((b-a:Nat):Int)),(7,ptr xb 0),(8,Pt M),(9,I (l:Int)),(10,I (o:Int))]/\w'=V/\o<b-a) ?D4<|λD4=>?D5
    case D4=>
     rintro S x⟨o,rfl,rfl,ho⟩;have f:=Ext.Pz x;refine PC [17,19] (λw'=>Ext x w') Pd O (Qm 0 O O (f) (Qm 1 O O (f) (QD (i:=2) O Pd O O (λ_=>Y5 O) (f) (QD (i:=3) O Pd O O (λ_=>Y5 O) (f) (QD (i:=4) O Pd O O (λ_=>Y5 O) (f) (QD (i:=5) O Pd O O (λ_=>Vu O O ω) (f) (Qm 6 O O (f) (Qm 7 O O (f) (Qm 8 O O (f) (PH 9 O (Vu O O ω) f (PH 10 O (Qc PS Py O O ω) f (Qm 12 O O (f) (Qm 13 O O (f) ?_)))))))))))));refine PH 14 O (Qc PS Py O O ω) f (qL 11 O (λ_ h=>PG R9 O O ((z.ext h).get (i:=a+o) ω)) f (qL 15 O (λ_ h=>PG R9 O O ((z.ext h).get (i:=l) ω)) f (PH 16 O (Qc PS Py O O ω) f (TV [17] (qO 17 (Q0 (i:=17) O O (Sf Py O O O (z.ext f).sl ((z.ext f).jlt ω)) ?_))))));rintro a0⟨F,L⟩;refine⟨trivial,?_⟩;have D:=(z.ext f).set F;refine P7 18 O (Qc PS Py O O ω) trivial (qO 19 (Q0 (i:=19) O O (Sf Py O O O D.sl (D.jlt ω)) ?_));rintro w8⟨ke,kf⟩;refine⟨trivial,?_⟩;have kg:=D.set ke;have T:Kp (λk=>k=g) x w8:=f.kp.trans (L.trans kf);refine qE<|An<|Ra O<|Qj O<|Pq O ?_;rw[show(l:Int)+1=((l+1:Nat):Int) by omega];exact(ih (l+1,Go.Sort.swp d4 l (a+o),G) _ ⟨kg,T.OZ Z ω,s,Go.Sort.permIn_trans _ _ _ a b E (zcC U pN ω ω ω),t.trans T,by dsimp only;omega⟩ (by dsimp only;omega)).qb
    case D5=>
     refine Pn O (λX=>?_)<|λX=>?_
     ·refine Pc O<|PB O<|RR O<|Pq O ?_;rw[show(q:Int)-((b-a:Nat):Int)=((q-(b-a):Nat):Int) by omega];exact(D4 _ _ ⟨q-(b-a),O,O,ω⟩).qb
     ·refine P5 ?_;exact(D4 _ _ ⟨q,O,O,ω⟩).qb
   ·refine Pf O<|Qu func256 O ?_;exact⟨_,O,O,d4,E,A,C⟩
 ·omega
open Go.Sort in
def zfe (g n cap m:Nat):Prop:=∀(w:World)(d:Array Nat),T9 w g n cap d->∀(a b e:Nat),b-a<m->a<=b->b<=n->e<=64->Below Rf a b d->
 PN prog 245 [.slice (some ⟨g,0,none⟩) n cap,I (a:Int),I (b:Int),I (e:Int)] w λu w'=>u= .tuple #[]/\∃f,T9 w' g n cap f/\PermIn a b d f/\SortedIn Rf a b f/\Kp (λk=>k=g) w w'
open Go.Sort in
structure z7K (w:World)(g n cap a b:Nat)(d:Array Nat)(a1 b1 l1:Nat)(d1:Array Nat)(w':World):Prop where
 arr:T9 w' g n cap d1
 kp:Kp (λk=>k=g) w w'
 ab:a1<=b1
 bn:b1<=n
 sm:b1-a1<=b-a
 lim:l1<=64
 bel:Below Rf a1 b1 d1
 fin:∀R,PermIn a1 b1 d1 R->SortedIn Rf a1 b1 R->PermIn a b d R/\SortedIn Rf a b R
open Go.Sort in
theorem z7K.perm {n:Nat}{d:Array Nat}{e b1 v l:Nat}{d1 d2:Array Nat}(h:z7K w g n cap a b d e b1 v d1 w1)(q:T9 w2 g n cap d2)(r:Kp (λk=>k=g) w1 w2)(f:PermIn e b1 d1 d2)(u:l<=64):z7K w g n cap a b d e b1 l d2 w2:=
 ⟨q,h.kp.trans r,h.ab,h.bn,h.sm,u,h.bel.perm (by rw[h.arr.size];exact h.bn) f,λR m o=>h.fin R (permIn_trans _ _ _ _ _ f m) o⟩
open Go.Sort in
theorem zbp {n m:Nat}(eu:zfe g n cap m){d:Array Nat}(h:T9 w g n cap d)(a b o:Nat)(hm:b-a<=m)(jz:a<=b)(hb:b<=n)(hn:n<50)(hl:o<=64)(hB:Below Rf a b d):
  PN prog 245 [.slice (some ⟨g,0,none⟩) n cap,I (a:Int),I (b:Int),I (o:Int)] w λu w'=>u= .tuple #[]/\∃X,T9 w' g n cap X/\PermIn a b d X/\SortedIn Rf a b X/\Kp (λk=>k=g) w w':=by
 refine py (e:=[(0,_),(1,_),(2,_),(3,_)]) func245 O ntmps245 O O<|qN O<|Ro O<|Pq O<|P6<|RX (α:=Nat×Nat×Nat×Bool×Bool×Array Nat) (a,b,o,true,true,d) (λy=>[(0,.slice (some ⟨g,0,none⟩) n cap),(1,I (y.1:Int)),(2,I (y.2.1:Int)),(3,I (y.2.2.1:Int)),(8,.bool y.2.2.2.1),(9,.bool y.2.2.2.2.1)]) (λy w'=>z7K w g n cap a b d y.1 y.2.1 y.2.2.1 y.2.2.2.2.2 w') (λy=>y.2.1-y.1) ?hI ?hround
 case hI=>exact⟨h,Kp.refl _ _,jz,hb,y02 _,hl,hB,λR h1 h2=>⟨h1,h2⟩⟩
 case hround =>
  rintro⟨f,b1,Y,E,G,d1⟩ w4 hI ih;dsimp only at hI;have c:=hI.ab;have C:=hI.bn;have Km:=hI.sm;have Ig:=hI.lim;have xF:=hI.arr.size
  try dsimp only
  refine P6<|QG O<|RR O<|Pq O<|OY<|qN O ?_;rw[show(b1:Int)-(f:Int)=((b1-f:Nat):Int) by omega];refine Ph O<|zle O<|P4<|Pn O (λh0=>?_)<|λh0=>?_
  ·obtain⟨A,z⟩:=insertionSort_holds Zz d1 f b1 c ω;obtain⟨S,T⟩:=hI.fin _ A z;refine QG O (Ph O (Px zju O (z2B hI.arr f b1 c C ω) ?_));rintro _ t⟨rfl,K,M⟩;refine P4<|P3 func245 O ?_;exact⟨_,O,O,_,K,S,T,hI.kp.trans M⟩
  ·refine P5<|Qi O<|Rx O<|P4<|Pn O (λh1 => ?_)<|λh1 => ?_
   ·obtain⟨A,z⟩:=heapSort_holds Zz d1 f b1 c ω;obtain⟨S,T⟩:=hI.fin _ A z;refine QG O (Ph O (Px zin O (zc0 hI.arr f b1 ω C ω) ?_));rintro _ t⟨rfl,K,M⟩;refine P4<|P3 func245 O ?_;exact⟨_,O,O,_,K,S,T,hI.kp.trans M⟩
   ·refine P5<|Qi O<|qV (SD O)<|P4<|Qf (λr w' => ∃ v d5, r = [(0, .slice (some ⟨g, 0, none⟩) n cap), (1, I (f : Int)), (2, I (b1 : Int)), (3, I ((v : Nat) : Int)), (8, .bool E), (9, .bool G), (10, I ((b1 - f : Nat) : Int))] /\ z7K w g n cap a b d f b1 v d5 w') ?cY<|λcY => ?gm
    case cY =>
     rintro r t⟨v,d5,rfl,Q⟩;have rO:=Q.lim;have D6:=Q.arr.size;have Kn:g<t.heap.size:=Q.arr.sl.lt O;refine QG O (Ph O (Px zhZ O (zav Q.arr f b1 ω C hn) ?_));rintro _ w6⟨Z,t6,rfl,Ko,tK,xG,pK,aM⟩;have pP:=Q.perm pK aM.kp (permIn_refl _ _ _) rO;refine Ph O<|Ta O<|QS O<|Qi O<|Rx O<|P4<|Qf (λr w'=>∃d7 x t7,r=[(0,.slice (some ⟨g,0,none⟩) n cap),(1,I (f:Int)),(2,I (b1:Int)),(3,I (v:Int)),(8,.bool E),(9,.bool G),(10,I ((b1-f:Nat):Int)),(11,I ((x:Nat):Int)),(12,I ((t7:Nat):Int))]/\z7K w g n cap a b d f b1 v d7 w'/\f<=x/\x<b1) ?aw<|λaw=>?er
     case aw =>
      rintro r w7⟨d7,x,t7,rfl,D,U,j⟩;have Kq:=D.arr.size;refine OY<|OY<|Qf (λr w'=>∃s,r=[(0,.slice (some ⟨g,0,none⟩) n cap),(1,I (f:Int)),(2,I (b1:Int)),(3,I (v:Int)),(8,.bool E),(9,.bool G),(10,I ((b1-f:Nat):Int)),(11,I (x:Int)),(68,.bool s)]/\w'=w7) ?cf<|λcf=>?nD
      case cf=>
       rintro r w8⟨s,rfl,rfl⟩;refine Qf (λr w'=>r=[(0,.slice (some ⟨g,0,none⟩) n cap),(1,I (f:Int)),(2,I (b1:Int)),(3,I (v:Int)),(8,.bool E),(9,.bool G),(10,I ((b1-f:Nat):Int)),(11,I (x:Int))]/\z7K w g n cap a b d f b1 v d7 w') ?jG<|λjG=>?tN
       case jG=>
        rintro r J⟨rfl,B⟩;have H:=B.arr;have hg:=Ext.Pz J;refine OY<|OY<|Qf (λr w'=>∃s,r=[(0,.slice (some ⟨g,0,none⟩) n cap),(1,I (f:Int)),(2,I (b1:Int)),(3,I (v:Int)),(8,.bool E),(9,.bool G),(10,I ((b1-f:Nat):Int)),(11,I (x:Int)),(87,.bool s)]/\w'=J.drew/\(s=true->0<f/\Rf d7[f-1]! d7[x]! =false)) ?th<|λth=>?ti
        case th=>
         rintro r a0⟨s,rfl,rfl,hs⟩;have lT:=H.ext hg;have L:Kp (λk=>k=g) w J.drew:=B.kp.trans hg.kp;refine QF O (λh6=>?_)<|λh6=>?_
         ·obtain⟨Kr,kh⟩:=hs h6;obtain⟨l,d11,N⟩:∃m e,partitionEqual Rf d7 f b1 x=(m,e):=⟨_,_,O⟩;have F:=zeL lT f b1 x U j C ω;rw[N] at F;dsimp only at F;obtain⟨e1,e2,e3,e4,W⟩:=round_eq Zz (partitionEqual_holds _) Kr U j ω B.bel kh N;refine QG O<|PB O<|Px zk6 O (F) ?_;rintro _ a2⟨rfl,p,V⟩;refine Rq O<|Pq O<|Pf O ?_;exact(ih (l,b1,v,E,G,d11) _ ⟨p,L.trans V,e2,C,by dsimp only;omega,B.lim,e4,λR A z=>B.fin R (W R A z).1 (W R A z).2⟩ (by dsimp only;omega)).qb
         ·obtain⟨l,ap,d11,N⟩:∃m q e,partition Rf d7 f b1 x=(m,q,e):=⟨_,_,_,O⟩;have pS:=zcD lT f b1 x U j C ω;rw[N] at pS;dsimp only at pS;obtain⟨e1,e2,e3,e4,W,e6,e7⟩:=round_part Zz (partition_holds _) U j ω B.bel N;refine P5<|QG O<|PB O<|Px zjV O (pS) ?_;rintro _ a2⟨rfl,p,V⟩;refine Ph O<|Ta O<|SO O<|Rq O<|Ro O<|PB O<|RR O<|PB O<|RR O<|SO O<|Ro O ?_;rw[show(l:Int)-(f:Int)=((l-f:Nat):Int) by omega,show(b1:Int)-(l:Int)=((b1-l:Nat):Int) by omega];refine Ph O<|qV (X5 O O ω)<|Ro O<|PB O<|QY O<|P4<|Pn O (λh7=>?_)<|λh7=>?_
          ·refine QG O (Uj O (Ro O (PB O (PB O (Px zbF O (eu _ _ p f l v ω e1 ω B.lim e4) ?_)))));rintro _ a3⟨rfl,d12,tL,tM,jY,P⟩;obtain⟨f1,f2⟩:=e6 _ tM jY;refine P4<|Ra O<|Qj O<|Pq O<|An ?_;exact(ih (l+1,b1,v,decide (((b1-f:Nat):Int) / 8<=((l-f:Nat):Int)),ap,d12) _ ⟨tL,(L.trans V).trans P,by dsimp only;omega,C,by dsimp only;omega,B.lim,f1,λR A z=>B.fin R (f2 R A z).1 (f2 R A z).2⟩ (by dsimp only;omega)).qb
          ·refine QG O<|Uj O<|Ro O<|PB O<|Qj O<|PB O ?_;rw[show(l:Int)+1=((l+1:Nat):Int) by omega];refine Px zbF O (eu _ _ p (l+1) b1 v ω ω C B.lim W) ?_;rintro _ a3⟨rfl,d12,tL,tM,jY,P⟩;obtain⟨f1,f2⟩:=e7 _ tM jY;refine P4<|Ra O<|Pq O<|An ?_;exact(ih (f,l,v,decide (((b1-f:Nat):Int) / 8<=((b1-l:Nat):Int)),ap,d12) _ ⟨tL,(L.trans V).trans P,e1,by dsimp only;omega,by dsimp only;omega,B.lim,f1,λR A z=>B.fin R (f2 R A z).1 (f2 R A z).2⟩ (by dsimp only;omega)).qb
        case ti=>
         rcases y0y f with hj|hj
         ·refine RI (λw'=>Ext J w') O<|Pu 0 O O hg<|P7 1 O (YT O O) hg<|TJ<|Pu 2 O O hg<|qJ 3 O hg<|qJ 4 O hg<|qJ 5 O hg<|qJ 6 O hg<|qJ 7 O hg<|qJ 8 O hg<|qJ 9 O hg<|qJ 10 O hg<|qJ 11 O hg ?_;refine qJ 12 O hg<|qJ 13 O hg<|P7 14 O (U0 O O) hg<|qE ?_;exact(th _ _ ⟨false,O,O,λe=>by cases e⟩).qb
         ·refine RI (λw'=>Ext J w') O (Pu 0 O O hg (P7 1 O (YT O O) hg (TW (Pu 2 O O hg (Pu 3 O O hg (Pu 4 O O hg (P7 5 O (Yf O O ω) hg (Pu 8 O O hg (Pu 9 O O hg (P7 10 O (Qc PS Py O O ω) hg ?_))))))))));rw[show(f:Int)-1=((f-1:Nat):Int) by omega];refine P7 6 O (Qc PS Py O O ω) hg (qT 7 O (λ_ h=>PG R9 O O ((H.ext h).get (i:=f-1) ω)) hg (qT 11 O (λ_ h=>PG R9 O O ((H.ext h).get (i:=x) ω)) hg (Tl 12 O WI O (Sq _ _ _) ?_)));rintro _ a0⟨rfl,rfl⟩;refine⟨hg,?_⟩;refine P7 13 O (zaj O) hg<|P7 14 O (Ux O O) hg<|qE ?_;exact(th _ _ ⟨decide (¬d7[f-1]!<d7[x]!),O,O,λe=>⟨hj,by simpa[Rf] using e⟩⟩).qb
       case tN=>
        refine QF O (λh4=>?_)<|λh4=>?_
        ·obtain⟨A,z⟩:=partialInsertionSort_holds Zz d7 f b1 ω ω D.bel;refine QG O (Ph O (Px zjG O (zcB D.arr f b1 ω C hn) ?_));rintro _ J⟨rfl,H,aN⟩;refine P4<|QF O (λh5=>?_)<|λh5=>?_
         ·have r3:=z h5;rw[z99 d7 f b1 ω] at r3;dsimp only at r3;obtain⟨S,T⟩:=D.fin _ (permIn_refl _ _ _) r3;refine P3 func245 O ?_;exact⟨_,O,O,d7,H,S,T,D.kp.trans aN⟩
         ·refine P5 ?_;exact(jG _ _ ⟨O,D.perm H aN (permIn_refl _ _ _) D.lim⟩).qb
        ·refine P5 ?_;exact(jG _ _ ⟨O,D⟩).qb
      case nD =>
       cases E with
       | false =>
         refine Pc O<|PB O<|qS<|Ql O<|Ph O<|QV<|Ql O<|P4 ?_
         exact(cf _ _ ⟨false,O,O⟩).qb
       | true =>
         cases G with
         | false =>
           refine Pc O<|PB O<|Ph O<|Rr O<|Ph O<|QV<|Ql O<|P4 ?_
           exact(cf _ _ ⟨false,O,O⟩).qb
         | true =>
           refine Pc O<|PB O<|Ph O<|Rr O<|PB O<|Rx O<|Rr O<|P4 ?_;exact(cf _ _ ⟨decide ((t7:Int)=1),O,O⟩).qb
     case er=>
      refine Pn O (λh3=>?_)<|λh3=>?_
      ·refine QG O (Ph O (Px zjl O (z4C pK f b1 ω C ω) ?_));rintro _ w7⟨rfl,Bw,av⟩;refine qM O<|Ph O<|RR O<|PB O<|RR O<|RR O<|Pq O<|Pc O<|Pq O ?_;rw[show(b1:Int)-1-((Z:Int)-(f:Int))=((b1-1-(Z-f):Nat):Int) by omega];exact(aw _ _ ⟨reverseRange d5 f b1,b1-1-(Z-f),1,O,pP.perm Bw av (reverseRange_holds _ _ _ c ω) rO,ω,ω⟩).qb
      ·refine P5 ?_;exact(aw _ _ ⟨d5,Z,t6,O,pP,Ko,tK⟩).qb
    case gm=>
     refine QF O (λh2=>?_)<|λh2=>?_
     ·refine QG O (Ph O (Px zjo O (zbs hI.arr f b1 ω C hn) ?_));rintro _ t⟨rfl,d5,iX,K,M⟩;refine P4<|Ra O<|RR O<|Pq O ?_;rw[show(Y:Int)-1=((Y-1:Nat):Int) by omega];exact(cY _ _ ⟨Y-1,d5,O,hI.perm K M iX ω⟩).qb
     ·refine P5 ?_;exact(cY _ _ ⟨Y,d1,O,hI⟩).qb
def z8e (g n cap:Nat)(k:n<50):∀m,zfe g n cap m
 |0=>λw d h a b e f=>absurd f (y1N _)
 |m+1=>λw d h a b e f q l o hB=>zbp (z8e g n cap k m) h a b e ω q l k o hB
open Go.Sort in
theorem zba {v:Value}{l:List Nat}(h:Sl w v 42 1 l.length (l.map PX))(n:l≠[])(C:l.length<50):
  PN prog 233 [v] w λu w'=>u= .tuple #[]/\Kp (λk=>v.ownBlock=some k) w w'/\∃l':List Nat,l'.Perm l/\l'.Pairwise (·<=·)/\Sl w' v 42 1 l'.length (l'.map PX):=by
 obtain⟨g,cap,rfl⟩:∃g c,v= .slice (some ⟨g,0,none⟩) l.length c:=by
  rcases h.shape with⟨-,G⟩|⟨g,c,e,H⟩
  ·exact absurd (y0t ω) n
  ·exact⟨g,c,e⟩
 have r:T9 w g l.length cap l.toArray:=⟨by simpa using h,ξ⟩
 have E:Qn l.length<=6:=Rz ω
 refine py (e:=[(0,_)]) func233 O ntmps233 O O<|PL O<|RQ PS O<|Pq O<|Pc O<|PB O<|Ph O<|qV (QH O U3 zgd ω)<|Px zeX O (z8d l.length ω w) ?_
 rintro _ w⟨rfl,rfl⟩
 refine Px zbF O (z8e g l.length cap C (l.length+1) w l.toArray r 0 l.length (Qn l.length) ω ω (y02 _) ω (.inl O)) ?_
 rintro _ w1⟨rfl,d,m,z,x,B⟩
 refine P4<|Qu func233 O ?_
 have f:=m.size
 have D:d.toList.Perm l:=by
  have:=z.2.2;rw[Array.toList_extract,Array.toList_extract] at this;have q:(d.toList.take l.length).Perm (l.take l.length):=by simpa using this
  rwa [y0N (by rw[y2y,f];exact y02 _),y0F] at q
 refine⟨_,O,O,B.Pk (λk e=>by rw[e];rfl),d.toList,D,?_,?_⟩
 ·rw[y1z];intro i j hi A o;rw[y2y] at hi A;have:=x i j (y00 _) o ω;rw[getElem!_pos d i ω,getElem!_pos d j ω] at this;simp only[Rf,decide_eq_false_iff_not] at this;rw[Array.getElem_toList,Array.getElem_toList];omega
 ·have e:d.toList.length=l.length:=by rw[y2y,f]
  rw[e];exact m.sl
structure NuI (w w1:World)(p:Sr)(b5 n11:Nat)(L:List (Cd×Nat))(w':World):Prop where
 ex:∃F,z4U w' n11 L F/\∀k,F k->w1.heap.size<=k
 ext:Ext w w'
 b5:Pm w' b5 (lpC p) 276
 siz:w1.heap.size<=w'.heap.size
theorem NuI.put (h:NuI w w1 p b5 n11 L w2)(l:∀k,F k->w1.heap.size<=k)(r:b5<w1.heap.size)(q:w.heap.size<=w1.heap.size)
  (g:∃d,z4U w3 n11 L' d/\Kp F w2 w3/\∀k,d k->F k\/w2.heap.size<=k):NuI w w1 p b5 n11 L' w3:=by
 obtain⟨d,n,f,o⟩:=g
 have u:=h.siz
 refine⟨⟨d,n,λk m=>?_⟩,h.ext.It f (λk m=>by have:=l k m;omega),f.OZ h.b5 (λe=>by have:=l b5 e;omega),by have:=f.size;omega⟩
 rcases o k m with e| e
 ·exact l k e
 ·omega
structure NuX (w w1 w2:World)(p:Sr)(b5 n11:Nat)(X:Nat->Prop)(L:List (Cd×Nat))(w3:World):Prop where
 ex:∃F,z4U w3 n11 L F/\(∀k,F k->w1.heap.size<=k)/\∀k,F k->¬X k
 ext:Ext w w3
 b5:Pm w3 b5 (lpC p) 276
 siz:w1.heap.size<=w3.heap.size
 kx:Kp (λk=>¬X k) w2 w3
theorem NuX.put (h:NuX w w1 w2 p b5 n11 X L w3)(u:∀k,X k->k<w2.heap.size)(m:∀k,F k->w1.heap.size<=k)(q:∀k,F k->¬X k)(x:b5<w1.heap.size)(v:w.heap.size<=w1.heap.size)
  (g:∃f,z4U w4 n11 L' f/\Kp F w3 w4/\∀k,f k->F k\/w3.heap.size<=k):NuX w w1 w2 p b5 n11 X L' w4:=by
 obtain⟨f,r,l,o⟩:=g
 have z:=h.siz
 have A:=h.kx.size
 refine⟨⟨f,r,λk d=>?_,λk d n=>?_⟩,h.ext.It l (λk d=>by have:=m k d;omega),l.OZ h.b5 (λe=>by have:=m b5 e;omega),by have:=l.size;omega,h.kx.trans (l.Pk q)⟩
 ·rcases o k d with e| e
  ·exact m k e
  ·omega
 ·rcases o k d with e| e
  ·exact q k e n
  ·have:=u k n;omega
theorem Tx:∀(l:List Nat)(k:Nat),(QN k l).length=l.length
 |[],_=>rfl
 |_::l,k=>by rw[QN,y01,y01,Tx l]
theorem Zg:∀(l:List Nat)(k n:Nat),QN k (l++[n])=QN k l++[(.gamma,n-min (k+l.length) 1)]
 |[],k,n=>rfl
 | m :: l, k, n => by
   rw[y0q,QN,Zg l (k+1) n,QN,y0q,y01,show k+1+l.length=k+(l.length+1) by omega]
def z1L:∀{l:List Nat},(∀n∈l,1<=n)->l.length<=l.sum
 |[],_=>y02 _
 | x :: l, h => by
   have e:=h x y0p;have f:=z1L (λn d=>h n (y0s x d));rw[y01,y0I];omega
theorem U6.z1C (h:U6 rs fs):rs.length<=fs.length+1:=by
 have e:=Te true rs
 rw[h.exp] at e
 cases rs with
 |nil=>simp
 | cons a f =>
   have k:=z1L (l:=f) (λn d=>h.pos n d);rw[y0I] at e;rw[y01];omega
def YE:∀l:List Nat,(Qo 0 l).1=[]
 |[]=>by rw[Qo]
 | x :: l => by
   rw[Qo,if_neg ω];exact YE (l.drop (Qk x l))
 termination_by l=>l.length
 decreasing_by simp[y07];omega
def ZF (l:List (Nat×Nat)):Option Nat:=l.getLast?.map λp=>p.1+p.2-1
theorem Zk (x least:Nat):∀(l:List (Nat×Nat)) (e:Option Nat) (p:Nat×Nat),Qd x least e (l++[p])=Qd x least e l++Qd x least (match l with|[]=>e|_=>ZF l) [p]
 |[],e,p=>by cases e<;>rfl
 | q :: l, e, p => by
   rw[y0q,Sb,Sb,Zk x least l _ p]
   cases l with
   |nil=>rfl
   |cons d l=>rfl
theorem z2H (x least:Nat)(l:List (Nat×Nat))(p:Nat×Nat):Qd x least none (l++[p])=Qd x least none l++[(.gamma,Vb x (ZF l) p.1),(.gamma,p.2-least)]:=by
 rw[Zk]
 cases l with
 |nil=>rfl
 |cons q l=>rw[Sb x least (match q::l with|[]=>none|_=>ZF (q::l))];rfl
theorem zbD {off n:Nat}{q:Nat×Nat}(h:Rd w (.slice (some ⟨b,off,none⟩) n cap) 2 n (R.flatMap z2P))(l:R[i]? =some q):∀j u,[I (q.1:Int),I (q.2:Int)][j]? =some u->w.cell? ⟨b,off+i*2+j,none⟩=some u:=by
 intro j u k
 have hi:=(y0m.1 l).1
 rcases h.2 with⟨c,f,x⟩|⟨v,m,d,e,f⟩
 ·have:=h.1;rw[zaf] at this;omega
 ·cases e
  have r:(R.flatMap z2P)[i*2+j]? =some u:=by
   have z:j<2:=(y0m.1 k).1
   have key:∀(R:List (Nat×Nat)) (i:Nat),R[i]? =some q->(R.flatMap z2P)[i*2+j]? =some u:=by
    intro R
    induction R with
    |nil=>intro i h;simp at h
    | cons a R o =>
      intro i h;rw[y16]
      cases i with
      | zero =>
        rw[y1v] at h;cases h;rw[y0C (by show _<2;omega),y20,y09]
        exact k
      | succ i =>
        rw[y0W (by show 2<=_;omega),show(i+1)*2+j-(z2P a).length=i*2+j by show(i+1)*2+j-2=_;omega];exact o i h
   exact key R i l
  have:=f (i*2+j) u r;rw[show off+i*2+j=off+(i*2+j) by omega];exact this
theorem NuX.ex2 (h:NuX w w1 w2 p b5 n11 X L w3)(d:Ext w3 w4):NuX w w1 w2 p b5 n11 X L w4:=by
 obtain⟨⟨F,e,f,k⟩,l,m,o,n⟩:=h
 exact⟨⟨F,e.ext d,f,k⟩,l.trans d,d.OZ m,by have:=d.size;omega,n.trans d.kp⟩
theorem NuX.back (h:NuX w w1 w2 p b5 n11 X L w3)(l:NuX w w1 w3 p b5 n11 X' L' w4)(f:∀k,X k->X' k):NuX w w1 w2 p b5 n11 X L' w4:=by
 obtain⟨⟨F,m,n,o⟩,q,r,u,v⟩:=l
 exact⟨⟨F,m,n,λk d e=>o k d (f k e)⟩,q,r,u,h.kx.trans (v.Pk λk d e=>d (f k e))⟩
def NuX.again (h:NuX w w1 w2 p b5 n11 X L w3)(d:z4U w3 n11 L F)(e:∀k,F k->w1.heap.size<=k)(f:∀k,F k->¬X' k):NuX w w1 w3 p b5 n11 X' L w3:=
 ⟨⟨F,d,e,f⟩,h.ext,h.b5,h.siz,Kp.refl _ _⟩
theorem SQ (x least:Nat):∀(l:List (Nat×Nat)) (e:Option Nat),(Qd x least e l).length=2*l.length
 |[],e=>by cases e<;>rfl
 |q::l,e=>by rw[Sb,y01,y01,SQ x least l,y01];omega
theorem ZX {least:Nat}:∀(R:List (Nat×Nat)) (lo i:Nat) (q:Nat×Nat),Tp least lo R->R[i]? =some q->1<=q.2/\least<=q.2/\(∀z,ZF (R.take i)=some z->z+2<=q.1)/\(ZF (R.take i)=none->lo<=q.1)
 |[],lo,i,q,h,hq=>by simp at hq
 | p :: R, lo, 0, q, h, hq => by
   rw[y1v] at hq;cases hq
   exact⟨h.2.1,h.2.2.1,(λz d=>by cases d),λ_=>h.1⟩
 | p :: R, lo, i + 1, q, h, hq => by
   rw[y1G] at hq;obtain⟨k,m,n,o⟩:=ZX R _ i q h.2.2.2 hq;have r:1<=p.2:=h.2.1;refine⟨k,m,λz d=>?_,λd=>?_⟩
   ·rw[y3B] at d
    cases f:R.take i with
    | nil =>
      rw[f] at d;have e:p.1+p.2-1=z:=RZ d;have:=o (by rw[f];rfl)
      omega
    | cons a l =>
      rw[f] at d;exact n z (by rw[f];exact d)
   ·rw[y3B] at d;exfalso;unfold ZF at d;rw[Option.map_eq_none_iff,List.getLast?_eq_none_iff] at d;cases d
theorem za6 (l:List (Nat×Nat))(q:Nat×Nat):ZF (l++[q])=some (q.1+q.2-1):=by simp[ZF]
def zbd {l:List Nat}{q:Nat×Nat}(e:∀y∈l,y<65536)(f:q∈(Qo least l).1)(h:1<=q.2):q.1+q.2<=65536:=by
 have d:q.1+(q.2-1)∈Rm (Qo least l).1:=by
  unfold Rm;exact List.mem_flatMap.2 ⟨q,f,y0h.2 ⟨q.2-1,y0H.2 ω,O⟩⟩
 have:=e _ ((Ud least l).subset (y1W _ d))
 omega
def zdf (x:Nat):Option Nat->Nat->Nat
 |none,v=>zig ((v:Int)-x)
 |some u,v=>v-u-1
theorem Tc (x k:Nat)(e:Option Nat)(v:Nat)(r:List Nat):Qg x k e (v::r)=(.zeta k,zdf x e v)::Qg x k (some v) r:=by
 cases e<;>rfl
theorem YU (x k:Nat):∀(l:List Nat)(e:Option Nat) (v:Nat),Qg x k e (l++[v])=Qg x k e l++Qg x k (match l with|[]=>e|_=>l.getLast?) [v]
 |[],e,v=>by cases e<;>rfl
 | u :: l, e, v => by
   rw[y0q,Tc,Tc,YU x k l _ v]
   cases l with
   |nil=>rfl
   |cons d l=>rfl
theorem Yo (x k:Nat)(l:List Nat)(v:Nat):Qg x k none (l++[v])=Qg x k none l++[(.zeta k,zdf x l.getLast? v)]:=by
 rw[YU]
 cases l with
 |nil=>rfl
 |cons u l=>rw[Tc x k (match u::l with|[]=>none|_=>(u::l).getLast?)];cases (u::l).getLast?<;>rfl
theorem TM (x k:Nat):∀(l:List Nat)(e:Option Nat),(Qg x k e l).length=l.length
 |[],e=>by cases e<;>rfl
 |v::l,e=>by rw[Tc,y01,TM x k l,y01]
theorem Qa {α:Type}{l:List α}{q:α}(h:l[i]? =some q):l.take (i+1)=l.take i++[q]:=by
 rw[List.take_succ,h];rfl
theorem Z3 (p:Sr)(hp:p.R1)(x:Nat)(hx:x<65536){rc:Nat}(succ ref:List Nat)(hs:Q4 succ)(hr:Q4 ref)(r:Nat)(jg:r<=p.PE)(lO:r=0->ref=[])
  (hG:Pm w 1 (SI .gamma) 314) (hU:Pm w 2 (SI .unary) 314) (eE:Rd w (.slice sa succ.length sc) 1 succ.length (succ.map PX)) (lU:Rd w (.slice ra ref.length rc) 1 ref.length (ref.map PX)) (ge:succ.length<=sc) (nE:ref.length<=rc):
  PN prog 199 [lpV p,I (x:Int),.slice sa succ.length sc,.slice ra ref.length rc,I (r:Int)] w λu w'=>Sl w' u 316 3 (S2 p x succ ref r).length ((S2 p x succ ref r).flatMap z6Q)/\(∀g,u.ownBlock=some g->w.heap.size<=g)/\Ext w w':=by
 obtain⟨g1,g2,g3,g4⟩:=id hp
 have fR:=hs.len
 have ic:=hr.len
 refine py (e:=[(0,_),(1,_),(2,_),(3,_),(4,_)]) func199 O ntmps199 O O<|qN O<|Pb O O (RP O (cs:=lpC p) O) ?_
 rintro _ w1⟨b5,rfl,gp,ad,aD⟩
 have z1:=ad.size
 have l5:=aD.lt
 refine Ro O<|qV (PO (news:=[.int .u8 1,Pt 0]) St O Rh O ((ad.OZ hG).cells (n:=2) O) O)<|Ph O<|RQ PS O<|qV (QH O U3 RW ω)<|qV (T3 (cs:=[_,_,_]) VZ O zfp O O)<|Pb O O (YD (cs:=[_,_,_]) (zs:=[Value.int .u8 0,Value.int .u64 0,Value.int .u64 0]) z1D VZ O Pd O O O ψ) ?_
 rintro _ w2⟨b2,rfl,⟨bU,ae,ak⟩,db⟩
 have z2:=ae.size
 have l2:=ak.lt
 refine Pb O O (S5 (cs:=[_]) zcF O) ?_
 rintro _ w3⟨n11,rfl,jb,ah,aZ⟩
 have z3:=ah.size
 refine Po O (QZ zcF O O O aZ ξ) ?_
 rintro w4⟨ld,ar⟩
 have z4:=ar.size
 replace ld:Pm w4 n11 [.slice (some ⟨b2,0,none⟩) 1 1] 311:=ld
 have ee:=(db.ext ah).kp ar (λg hg e=>by have f:b2=g:=RZ hg;omega)
 have wG:NuI w w1 p b5 n11 [(.gamma,succ.length)] w4:=⟨⟨fpW n11 (.slice (some ⟨b2,0,none⟩) 1 1),⟨_,⟨ld,ee,λe=>by have f:b2=n11:=RZ e;omega⟩,λ_=>y0U⟩,λk d=>by
   rcases d with e| e
   ·omega
   ·have f:b2=k:=RZ e
    omega⟩,((ad.trans ae).trans ah).It ar (λk e=>ω),ar.OZ (ah.OZ (ae.OZ aD)) ω,ω⟩
 refine P4<|Qi O<|RQ PS O<|Rx O<|P4<|Pn O (λe0=>?_)<|λe0=>?_
 ·have fd:succ=[]:=y0t ω;subst fd;refine qN O<|qV (Pl z1D O O ld O)<|Pq O<|P3 func199 O ?_;have kh:S2 p x [] ref r=[(.gamma,0)]:=by simp[S2]
  rw[kh];exact⟨_,O,ee,λg hg=>by have f:b2=g:=RZ hg;omega,wG.ext⟩
 ·have i5 := wG.b5; replace i5 : Pm w4 b5 [I (p.PE : Int), I (p.interval : Int), I (p.zeta : Int)] 276 := i5; refine P5 (qN O (qV (ymf (first := []) (caps := [.tmp 11]) O O) (Pq O (OY (qN O (Pr TT O (qV (Pl U3 O O i5 O) (R8 O (P4 (Qf (λT w' => T = [(1, I (x : Int)), (2, .slice sa succ.length sc), (3, .slice ra ref.length rc), (4, I (r : Int)), (5, ptr b5 0), (11, ptr n11 0), (12, .func (.func 220) #[] #[ptr n11 0])] /\ NuI w w1 p b5 n11 ([(.gamma, succ.length)] ++ (if 0 < p.PE then [(.unary, r)] else [])) w') ?bI (λbI => ?cZ)))))))))))
  case bI =>
   rintro T w5⟨rfl,tO⟩;have D6:=tO.siz;refine qN O (Pb O O (YD (cs:=[_]) (zs:=[Value.int .i64 0]) Rp Qe O Pd O O O ψ) ?_);rintro _ w6⟨C,rfl,⟨D8,aM,dW⟩,nG⟩;have l6:=dW.lt;refine Pb O O (S5 (cs:=[_]) z6A O) ?_;rintro _ w7⟨rn,rfl,Ks,cm,xH⟩;have l7:=xH.lt;have z7:=cm.size;refine Pb O O (S5 (cs:=[_]) SJ O) ?_;rintro _ w8⟨lf,rfl,Kt,cG,xI⟩;have l8:=xI.lt;have z8:=cG.size;refine Po O (QZ z6A O O O (cG.OZ xH) ξ) ?_;rintro w9⟨nH,aN⟩;have z9:=aN.size;replace nH:Pm w9 rn [.slice (some ⟨C,0,none⟩) 1 1] 37:=nH;refine Po O (QZ SJ O O O (aN.OZ xI ω) ξ) ?_;rintro J⟨ki,aC⟩;have aj:=aC.size;replace ki:Pm J lf [.slice none 0 0] 40:=ki;have gE:Ext w5 J:=(((aM.trans cm).trans cG).It aN (λk e=>ω)).It aC (λk e=>ω)
   have pT:NuI w w1 p b5 n11 ([(.gamma,succ.length)]++(if 0<p.PE then [(.unary,r)] else [])) J:=by
    obtain⟨⟨F,f,h2⟩,h3,h4,h5⟩:=tO;exact⟨⟨F,f.ext gE,h2⟩,h3.trans gE,gE.OZ h4,by have:=gE.size;omega⟩
   have co:=(((nG.ext cm).ext cG).kp aN (λg hg e=>by have f:C=g:=RZ hg;omega)).kp aC (λg hg e=>by have f:C=g:=RZ hg;omega);have Ku:z3V J lf [] (fpW lf (.slice none 0 0)):=⟨_,⟨ki,Sl.nil _ _ _,λe=>by cases e⟩,λ_=>y0U⟩;have Kv:z2J J rn [0] (fpW rn (.slice (some ⟨C,0,none⟩) 1 1)):=⟨_,⟨aC.OZ nH ω,co,λe=>by have f:C=rn:=RZ e;omega⟩,λ_=>y0U⟩
   have lV:∀k,fpW lf (.slice none 0 0) k->k=lf:=λk d=>by
    rcases d with e| e
    ·exact e
    ·cases e
   have jD:∀k,fpW rn (.slice (some ⟨C,0,none⟩) 1 1) k->k=rn\/k=C:=λk d=>by
    rcases d with e| e
    ·exact .inl e
    ·exact .inr (RZ e).symm
   have cT:∀k,fpW lf (.slice none 0 0) k\/fpW rn (.slice (some ⟨C,0,none⟩) 1 1) k->w5.heap.size<=k:=λk d=>by
    rcases d with e| e
    ·have:=lV k e;omega
    ·rcases jD k e with e|e<;>omega
   have hE:UB J succ ref lf rn (fpW lf (.slice none 0 0)) (fpW rn (.slice (some ⟨C,0,none⟩) 1 1)) succ sa sc ref ra rc [] [0] J:=by
    refine⟨⟨_,_,[],Ku,Kv,U6.zero,by simpa using ic,by simp;omega,λk h=> .inl h,λk h=> .inl h,λk f h2=>?_⟩,λw2 k=>?_,λw2 k=>?_,ge,nE,Kp.refl _ _,hs,hr,rfl,rfl,by simpa using fR⟩
    ·have e1:=lV k f;rcases jD k h2 with G|G<;>omega
    ·exact(eE.ext pT.ext).kpz k (λh0 g hg W=>by have e1:=eE.ltz ψ h0 hg;have G:=cT g W;omega)
    ·exact(lU.ext pT.ext).kpz k (λh0 g hg W=>by have e1:=lU.ltz ψ h0 hg;have G:=cT g W;omega)
   refine qM O<|PB O<|qV (ymf (first:=[]) (caps:=[.tmp 14,.tmp 13]) O O)<|Px ziD O (zbr hE) ?_;rintro _ M⟨rfl,FL,FR,xJ,pU,D9,Da,nj,bC⟩
   have pV:NuI w w1 p b5 n11 ([(.gamma,succ.length)]++(if 0<p.PE then [(.unary,r)] else [])) M:=by
    have aW:Kp (λk=>fpW lf (.slice none 0 0) k\/fpW rn (.slice (some ⟨C,0,none⟩) 1 1) k) J M:=bC;have Db:=tO.ex;obtain⟨⟨F,f,h2⟩,h3,h4,h5⟩:=pT;obtain⟨F5,h6,h7⟩:=Db;have gp:b5<w5.heap.size:=tO.b5.lt;refine⟨⟨F5,(h6.ext gE).kp aW (λk d W=>by have e1:=h6.lt d;have G:=cT k W;omega),h7⟩,h3.It aW (λk d=>by have G:=cT k d;have:=tO.ext.size;omega),aW.OZ h4 (λW=>by have G:=cT b5 W;omega),by have:=aW.size;omega⟩
   generalize hA:([(Cd.gamma,succ.length)]++(if 0<p.PE then [(Cd.unary,r)] else []):List (Cd×Nat))=A at pV pT tO
   have Kw:A.length<=2:=by rw[<-hA];split<;>simp
   have xK:∀k,(FL k\/FR k)->k<M.heap.size:=λk d=>by
    rcases d with e| e
    ·exact xJ.lt e
    ·exact pU.lt e
   have pW:NuX w w1 M p b5 n11 (λk=>FL k\/FR k) A M:=by
    obtain⟨F5,h6,h7⟩:=tO.ex;have O6:=gE.size;refine⟨⟨F5,(h6.ext gE).kp bC (λk d W=>by have e1:=h6.lt d;have G:=cT k W;omega),h7,λk d D=>?_⟩,pV.ext,pV.b5,pV.siz,Kp.refl _ _⟩;have e1:=h6.lt d;rcases D with e| e
    ·rcases D9 k e with G|G
     ·have:=cT k (.inl G);omega
     ·omega
    ·rcases Da k e with G|G
     ·have:=cT k (.inr G);omega
     ·omega
   refine P4<|Qi O<|R8 O<|P4<|Qf (λT w'=>T=[(1,I (x:Int)),(5,ptr b5 0),(11,ptr n11 0),(12,.func (.func 220) #[] #[ptr n11 0]),(14,ptr lf 0)]/\NuX w w1 M p b5 n11 (λk=>FL k\/FR k) (A++(if 0<r then(.gamma,(RF succ ref).length-1)::QN 0 (RF succ ref).dropLast else [])) w') ?cY<|λcY=>?gm
   case cY =>
    rintro T b⟨rfl,jh⟩;have ji:succ≠[]:=λe=>e0 (by rw[e];rfl)
    generalize hB:(if 0<r then(Cd.gamma,(RF succ ref).length-1)::QN 0 (RF succ ref).dropLast else []:List (Cd×Nat))=B at jh
    have xL:=xJ.kp jh.kx (λk d e=>e (.inl d));obtain⟨vl,wH,O7⟩:=xL;obtain⟨la,lc,rfl,-⟩:=wH.sl.rd.shape;obtain⟨F,⟨vn,rQ,xM⟩,pX,Dc⟩:=id jh.ex;have Ii:=wH.OZ;have Dd:=rQ.OZ;refine OY<|qN O<|qV (Pl PS O O Ii O)<|RQ PS O<|Rx O<|P4<|Pn O (λe3=>?_)<|λe3=>?_
    ·have im:PI succ ref=[]:=y0t ω
     have nI:S2 p x succ ref r=A++B:=by
      unfold S2;rw[if_neg ji,if_pos im,y0o,<-hA,<-hB];rfl
     refine qN O<|qV (Pl z1D O O Dd O)<|Pq O<|P3 func199 O ?_;rw[nI];exact⟨_,O,rQ.sl,λg hg=>by have:=pX g ((xM g).2 (.inr hg));omega,jh.ext⟩
    ·have rR := jh.b5; replace rR : Pm b b5 [I (p.PE : Int), I (p.interval : Int), I (p.zeta : Int)] 276 := rR; refine P5 (qN O (qV (Pl PS O O Ii O) (Pr UJ O (qV (Pl U3 O O rR O) ?_)))); have au : Q4 (PI succ ref) := hs.sub y1Z; have Kx := au.len
     have pe:(PI succ ref).length<=lc:=by
      rcases wH.sl.shape with⟨-,h0⟩|⟨g,c1,hv,eD⟩
      ·omega
      ·cases hv;exact eD
     refine Px ziT O (zd4 la lc (PI succ ref) p.interval au pe ω b wH.sl.rd) ?_;rintro _ N⟨v4,Z,rfl,lX,nJ,aV,pY,pZ,Ij⟩;have dG:=Vd p.interval (PI succ ref);have q9:Q4 (Qo p.interval (PI succ ref)).2:=au.sub dG
     have fQ:∀k,(v4.ownBlock=some k\/Z.ownBlock=some k)->b.heap.size<=k/\k<N.heap.size:=λk d=>by
      rcases d with e| e
      ·exact⟨pY k e,lX.lt e⟩
      ·exact⟨pZ k e,nJ.lt e⟩
     have qa:NuX w w1 N p b5 n11 (λk=>v4.ownBlock=some k\/Z.ownBlock=some k) (A++B) N:=by
      have jQ:∀k,F k->k<b.heap.size:=λk d=>by
       rcases (xM k).1 d with e| e
       ·rw[e];exact rQ.OZ.lt
       ·exact rQ.sl.lt e
      have xN:z4U b n11 (A++B) F:=⟨vn,rQ,xM⟩;exact⟨⟨F,xN.ext aV,pX,λk d D=>by have e1:=jQ k d;have G:=(fQ k D).1;omega⟩,jh.ext.trans aV,aV.OZ jh.b5,by have e1:=jh.siz;have G:=aV.size;omega,Kp.refl _ _⟩
     have xO:=aV.OZ rR;have KA:=lX.oneV;have KB:=nJ.oneV;refine Ph O<|Ta O<|QS O<|OY<|qN O<|Pr UJ O<|qV (Pl U3 O O xO O)<|R8 O<|P4 ?_
     have KC:(A++B).length<=200000:=by
      rw[Pe,<-hB];split
      ·rw[y01,Tx,y2p];have f:=(Tz succ ref).z1C;rw[y0k] at f;omega
      ·simp;omega
     generalize hQ:Qo p.interval (PI succ ref)=Q at lX nJ q9 dG
     have O8:Q.1.length<=65536:=by
      have f:=Ud p.interval (PI succ ref);have h2:=f.length_eq;rw[hQ,Pe] at h2
      have h3:∀R:List (Nat×Nat),Tp p.interval 0 R->R.length<=(Rm R).length:=by
       have h4:∀(R:List (Nat×Nat)) (lo:Nat),Tp p.interval lo R->R.length<=(Rm R).length:=by
        intro R
        induction R with
        |nil=>intro lo h;exact y02 _
        | cons q R ih =>
          intro lo h;have h5:=ih _ h.2.2.2;have h6:1<=q.2:=h.2.1;rw[show Rm (q::R)=(List.range q.2).map (q.1+·)++Rm R from rfl,Pe,y0k,y14,y01];omega
       exact λR h=>h4 R 0 h
      have h5:=h3 _ (VP p.interval (PI succ ref) 0 au.ris (λy _=>y00 _));rw[hQ] at h5;omega
     have qd:Tp p.interval 0 Q.1:=by have h:=VP p.interval (PI succ ref) 0 au.ris (λy _=>y00 _);rwa [hQ] at h
     have tP:∀q∈Q.1,1<=q.2->q.1+q.2<=65536:=λq hq f=>zbd (least:=p.interval) au.lt (by rw[hQ];exact hq) f
     have xP:∃j K,v4= .slice j Q.1.length K:=by
      obtain⟨j,K,e,-⟩:=lX.rd.shape;exact⟨j,K,e⟩
     obtain⟨j,K,rfl⟩:=xP;refine Qf (λT w'=>T=[(1,I (x:Int)),(5,ptr b5 0),(11,ptr n11 0),(12,.func (.func 220) #[] #[ptr n11 0]),(17,.slice j Q.1.length K),(18,Z)]/\NuX w w1 N p b5 n11 (λk=>(Value.slice j Q.1.length K).ownBlock=some k\/Z.ownBlock=some k) (A++B++if 0<p.interval then [(.gamma,Q.1.length)] else []) w') ?aw<|λaw=>?er
     case aw =>
      rintro T a6⟨rfl,xQ⟩;refine Re O<|Qi O<|RQ zbL O<|Ph O<|P4<|P6 ?_
      generalize De:(if 0<p.interval then [(Cd.gamma,Q.1.length)] else []:List (Cd×Nat))=C0 at xQ
      refine Ss (λT w'=>T=[(1,I (x:Int)),(5,ptr b5 0),(11,ptr n11 0),(12,.func (.func 220) #[] #[ptr n11 0]),(18,Z)]/\NuX w w1 N p b5 n11 (λk=>(Value.slice j Q.1.length K).ownBlock=some k\/Z.ownBlock=some k) (A++B++C0++Qd x p.interval none Q.1) w') ?cf<|λcf=>?nD
      case cf =>
       rintro T a0⟨rfl,t⟩;obtain⟨s,gG,lY,jj⟩:=t.ex;have nK:=t.b5;replace nK:Pm a0 b5 [I (p.PE:Int),I (p.interval:Int),I (p.zeta:Int)] 276:=nK;refine qN O (Pr z0V O (qV (Pl U3 O O nK O) (qV (QH O U3 RW ω) (qV (T3 (cs:=[_,_]) Rh O zfW O O) (Pb O O (S5 (cs:=[_,_]) Rh O) ?_)))));rintro _ ab⟨E,rfl,KD,aY,iw⟩;have af:=aY.size;refine Po O (Qh (news:=[.int .u8 3,Pt p.zeta]) Rh O O O O iw ξ) ?_;rintro o⟨lh,dH⟩;replace lh:Pm o E [.int .u8 3,Pt p.zeta] 314:=lh;have L:Ext a0 o:=aY.It dH (λk e=>ω);have al:=L.size;have iY:¬s E:=λe=>by have:=gG.lt e;omega
       have iy:=(nJ.kp t.kx (λg hg e=>e (.inr hg))).ext L
       obtain⟨ha,hc,e5⟩:∃a c,Z= .slice a Q.2.length c:=by
        obtain⟨j,K,e,-⟩:=nJ.rd.shape;exact⟨j,K,e⟩
       subst e5;have lZ:=(t.ex2 L).again (X':=λk=>(Value.slice ha Q.2.length hc).ownBlock=some k\/k=E) (gG.ext L) lY (λk d D=>by rcases D with D|e;exact jj k d (.inr D);exact iY (e▸d));have ai:=lh.lt
       have pf:∀k,((Value.slice ha Q.2.length hc).ownBlock=some k\/k=E)->k<o.heap.size:=λk d=>by
        rcases d with e| e
        ·have:=iy.lt e;omega
        ·omega
       have xR:=q9.len
       have KE:(A++B++C0++Qd x p.interval none Q.1).length<=400000:=by
        rw[Pe,Pe,SQ,<-De];split<;>simp only[y01,y1l]<;>omega
       refine P4<|Qi O<|RQ PS O<|Ph O<|P4<|P6<|RX (α:=Nat) (0) (λi=>[(1,I (x:Int)),(11,ptr n11 0),(12,.func (.func 220) #[] #[ptr n11 0]),(18,.slice ha Q.2.length hc),(22,ptr E 0),(138,.slice ha Q.2.length hc),(139,I (Q.2.length:Int)),(140,I (i:Int))]) (λi w'=>NuX w w1 o p b5 n11 (λk=>(Value.slice ha Q.2.length hc).ownBlock=some k\/k=E) (A++B++C0++Qd x p.interval none Q.1++Qg x p.zeta none (Q.2.take i)) w'/\i<=Q.2.length) (λi=>Q.2.length-i) ?hI ?hround
       case hI=>exact⟨by simpa[Qg] using lZ,y00 _⟩
       case hround=>
        rintro i S⟨V,hi⟩ ih
        try dsimp only
        refine qN O<|QY O<|P4<|OY<|Pn O (λe5=>?_)<|λe5=>?_
        ·have dw:i<Q.2.length:=ω
         obtain⟨v,hv⟩:∃v,Q.2[i]? =some v:=⟨_,y03 dw⟩;have xS:v<65536:=q9.lt v (y0j hv);have iz:=iy.kp V.kx (λg hg e=>e (.inl hg))
         obtain⟨g5,c5,e6⟩:∃g c,Value.slice ha Q.2.length hc= .slice (some ⟨g,0,none⟩) Q.2.length c:=by
          rcases iy.shape with⟨-,h0⟩|⟨g,c,e,hc⟩
          ·omega
          ·exact⟨g,c,e⟩
         cases e6;obtain⟨X,ll,qe,ii⟩:=V.ex;have xT:=V.kx.OZ lh (λe=>e (.inr O));have rS:¬X E:=λe=>ii E e (.inr O);have hg:=Ext.Pz S;have Bx:=V.ex2 hg
         have qf:(A++B++C0++Qd x p.interval none Q.1++Qg x p.zeta none (Q.2.take i)).length<=500000:=by
          rw[Pe,TM,y0d];omega
         refine P5 (R0 (PL O (qV (Qc PS Py O O ω) (qV (PG R9 O O (Qs iz.rd (show(Q.2.map PX)[i]? =some (PX v) by rw[y0i,hv];rfl))) ?_))));refine SO O<|Rq O<|Rx O<|P4<|Pn O (λe6=>?_)<|λe6=>?_
         ·have P:i=0:=ω
          refine RI (λw'=>Kp X S w') O (Pu 0 O O hg.kp (Pu 2 O O hg.kp (P7 3 O (Q8 O R9 U2 ω) hg.kp (Pu 4 O O hg.kp (P7 5 O (Yf O O ω) hg.kp (qT 1 O (λ_ h=>PO (news:=[.int .u8 3,Pt p.zeta]) St O Rh O ((h.OZ xT rS).cells (n:=2) O) O) hg.kp (Tl 6 O zff O (z8T ((v:Int)-x) ω _) ?_)))))));rintro _ a7⟨rfl,rfl⟩;refine⟨hg.kp,?_⟩;have xU:=z09 (z:=(v:Int)-x) (n:=65537) ω ω;refine P7 7 O (Q8 O RW U3 ω) hg.kp (qO 8 (Xc (i:=8) O O O (SE Zu O O) (TS (ll.ext hg) ω (.zeta p.zeta) (zig ((v:Int)-x)) ω) ?_));rintro _ ac⟨rfl,a3,tQ,nL,tR⟩;refine⟨hg.kp.trans nL,?_⟩;have qg:=Bx.put pf qe ii l5 z1 ⟨a3,tQ,nL,tR⟩;refine qE (An (Pc O (Qj O (Ph O (P4 ((ih (i+1) _ ⟨?_,ω⟩ ω).qb))))));rw[Qa hv,Yo,<-y05,show Q.2.take i=[] by rw[P];rfl];rw[show Q.2.take i=[] by rw[P];rfl] at qg;exact qg
         ·have P:0<i:=ω
          obtain⟨u,hu⟩:∃u,Q.2[i-1]? =some u:=⟨_,y03 ω⟩
          have O9:u<v:=by
           obtain⟨a1,a2⟩:=y0m.1 hu;obtain⟨b1,b2⟩:=y0m.1 hv;have:=y1z.1 q9.ris (i-1) i a1 b1 ω
           rwa [a2,b2] at this
          refine RI (λw'=>Kp X S w') O (Pu 0 O O hg.kp (Pu 2 O O hg.kp (Pu 3 O O hg.kp (Pu 4 O O hg.kp (qT 1 O (λ_ h=>PO (news:=[.int .u8 3,Pt p.zeta]) St O Rh O ((h.OZ xT rS).cells (n:=2) O) O) hg.kp (P7 5 O (Yf O O ω) hg.kp ?_))))));rw[show(i:Int)-1=((i-1:Nat):Int) by omega];refine P7 6 O (Qc PS Py O O ω) hg.kp (qT 7 O (λ_ W=>PG R9 O O (Qs (iz.kp W (λg hg e=>ii g e (.inl hg))).rd (show(Q.2.map PX)[i-1]? =some (PX u) by rw[y0i,hu];rfl))) hg.kp ?_);refine P7 8 O (Xm (m:=v) (n:=u) O O O (by show v<2^32;omega) ω) hg.kp ?_;refine P7 9 O (Xm (m:=v-u) (n:=1) O O O (by show v-u<2^32;omega) ω) hg.kp ?_;refine P7 10 O (Q8 O R9 U3 ω) hg.kp (qO 11 (Xc (i:=11) O O O (SE Zu O O) (TS (ll.ext hg) ω (.zeta p.zeta) (v-u-1) ω) ?_));rintro _ ac⟨rfl,a3,tQ,nL,tR⟩;refine⟨hg.kp.trans nL,?_⟩;have qg:=Bx.put pf qe ii l5 z1 ⟨a3,tQ,nL,tR⟩;refine qE (An (Pc O (Qj O (Ph O (P4 ((ih (i+1) _ ⟨?_,ω⟩ ω).qb))))));rw[Qa hv,Yo,<-y05,List.getLast?_take,if_neg ω,hu];exact qg
        ·have df:i=Q.2.length:=ω
         rw[df,y0F] at V;obtain⟨F,⟨vn,rQ,xM⟩,pX,Dc⟩:=id V.ex;have Dd:=rQ.OZ
         have nI:S2 p x succ ref r=A++B++C0++Qd x p.interval none Q.1++Qg x p.zeta none Q.2:=by
          have im:¬PI succ ref=[]:=λe=>e3 (by rw[e];rfl);unfold S2;rw[if_neg ji,if_neg im,hQ,hB,<-hA,<-De];by_cases P:0<p.interval
          ·simp only[if_pos P,y05,y0q,y18]
          ·have ci:Q.1=[]:=by rw[<-hQ,show p.interval=0 by omega];exact YE _
           rw[ci];simp only[if_neg P,y05,y0q,y18,Qd]
         refine Pf O<|qN O<|qV (Pl z1D O O Dd O)<|Pq O<|P3 func199 O ?_;rw[nI];exact⟨_,O,rQ.sl,λg hg=>by have:=pX g ((xM g).2 (.inr hg));omega,V.ext⟩
      case nD=>
       refine RX (α:=Nat) (0) (λi=>[(1,I (x:Int)),(5,ptr b5 0),(11,ptr n11 0),(12,.func (.func 220) #[] #[ptr n11 0]),(18,Z),(19,I (z7b (ZF (Q.1.take i)))),(94,.slice j Q.1.length K),(95,I (Q.1.length:Int)),(96,I (i:Int))]) (λi w'=>NuX w w1 N p b5 n11 (λk=>(Value.slice j Q.1.length K).ownBlock=some k\/Z.ownBlock=some k) (A++B++C0++Qd x p.interval none (Q.1.take i)) w'/\i<=Q.1.length) (λi=>Q.1.length-i) ?hI ?hround
       case hI=>exact⟨by simpa[Qd] using xQ,y00 _⟩
       case hround =>
        rintro i a0⟨t,hi⟩ ih
        try dsimp only
        refine qN O<|QY O<|P4<|OY<|Pn O (λe5=>?_)<|λe5=>?_
        ·have dw:i<Q.1.length:=ω
         obtain⟨⟨H,Y⟩,hq⟩:∃q,Q.1[i]? =some q:=⟨_,y03 dw⟩;obtain⟨a4,aa,a5,-⟩:=ZX Q.1 0 i (H,Y) qd hq;dsimp only at a4 aa a5;have Oa:H+Y<=65536:=tP (H,Y) (y0j hq) a4;have Df:=lX.kp t.kx (λg hg e=>e (.inl hg))
         obtain⟨g4,c4,e4⟩:∃g c,Value.slice j Q.1.length K= .slice (some ⟨g,0,none⟩) Q.1.length c:=by
          rcases lX.shape with⟨-,h0⟩|⟨g,c,e,hc⟩
          ·omega
          ·exact⟨g,c,e⟩
         cases e4;obtain⟨s,gG,lY,jj⟩:=t.ex;refine P5 (R0 (qN O (qV (Qc zbL z2u O O ω) (qV (PO (news:=[I (H:Int),I (Y:Int)]) zeg O z2u O (zbD Df.rd hq) O) (Pb O O (S5 (cs:=[_,_]) z2u O) ?_)))));rintro _ ab⟨U,rfl,KF,aY,Dg⟩;have af:=aY.size;refine Po O (Qh (news:=[I (H:Int),I (Y:Int)]) z2u O O O O Dg ξ) ?_;rintro o⟨gH,dH⟩;replace gH:Pm o U [I (H:Int),I (Y:Int)] 348:=gH;have L:Ext a0 o:=aY.It dH (λk e=>ω);have lZ:=t.ex2 L;have iY:¬s U:=λe=>by have:=gG.lt e;omega
         have oZ:¬s 1:=λe=>by have:=lY 1 e;have:=hG.lt;omega
         have KE:(A++B++C0++Qd x p.interval none (Q.1.take i)).length<=400000:=by
          rw[Pe,Pe,SQ,y0d,<-De];split<;>simp only[y01,y1l]<;>omega
         refine P4<|Qi O<|QY O<|P4 ?_;have rT:=lZ.again (X':=(λk=>((Value.slice (some ⟨g4,0,none⟩) Q.1.length K).ownBlock=some k\/Z.ownBlock=some k)\/k=U)) (gG.ext L) lY (λk d D=>by rcases D with D|e;exact jj k d D;exact iY (e▸d));have KG:=L.size;have ag:=gH.lt
         have pf:∀k,(((Value.slice (some ⟨g4,0,none⟩) Q.1.length K).ownBlock=some k\/Z.ownBlock=some k)\/k=U)->k<o.heap.size:=λk d=>by
          rcases d with e| e
          ·have:=(fQ k e).2;have:=t.kx.size;omega
          ·omega
         refine Qf (λT w'=>T=[(1,I (x:Int)),(5,ptr b5 0),(11,ptr n11 0),(12,.func (.func 220) #[] #[ptr n11 0]),(18,Z),(21,ptr U 0),(94,.slice (some ⟨g4,0,none⟩) Q.1.length K),(95,I (Q.1.length:Int)),(96,I (i:Int))]/\NuX w w1 o p b5 n11 (λk=>((Value.slice (some ⟨g4,0,none⟩) Q.1.length K).ownBlock=some k\/Z.ownBlock=some k)\/k=U) (A++B++C0++Qd x p.interval none (Q.1.take i)++[(.gamma,Vb x (ZF (Q.1.take i)) H)]) w') ?cJ<|λcJ=>?Di
         case cJ=>
          rintro T S⟨rfl,V⟩;obtain⟨X,ll,qe,ii⟩:=V.ex;have xV:=V.kx.OZ gH (λe=>e (.inr O));have nM:=V.b5;replace nM:Pm S b5 [I (p.PE:Int),I (p.interval:Int),I (p.zeta:Int)] 276:=nM;refine PL O<|qV (PO (news:=[.int .u8 1,Pt 0]) St O Rh O ((V.ext.OZ hG).cells (n:=2) O) O)<|Pr z8G O<|qV (Pl U3 O O xV O)<|Pr UJ O<|qV (Pl U3 O O nM O)<|RR O ?_;rw[show(Y:Int)-(p.interval:Int)=((Y-p.interval:Nat):Int) by omega];refine Rj O O (SE Zu O O) (TS ll (by rw[Pe,y0S];omega) .gamma (Y-p.interval) ω) ?_;rintro _ a7⟨rfl,Dh⟩;have xW:=V.put pf qe ii l5 z1 Dh;have rU:=xW.kx.OZ gH (λe=>e (.inr O));refine P4<|Pc O<|Pr z4e O<|qV (Pl U3 O O rU O)<|Pr z8G O<|qV (Pl U3 O O rU O)<|Qj O<|RR O<|Pq O<|An<|Pc O<|Qj O<|Ph O<|P4 ?_;rw[show(H:Int)+Y-1=z7b (ZF (Q.1.take (i+1))) by rw[Qa hq,za6];show _=((H+Y-1:Nat):Int);omega];refine(ih (i+1) _ ⟨?_,ω⟩ ω).qb;rw[Qa hq,z2H,<-y05,show [(Cd.gamma,Vb x (ZF (Q.1.take i)) H),(Cd.gamma,Y-p.interval)]=[(Cd.gamma,Vb x (ZF (Q.1.take i)) H)]++[(Cd.gamma,Y-p.interval)] from rfl,<-y05];exact lZ.back xW (λk d=> .inl d)
         case Di=>
          have hg:=Ext.Pz o;have Bx:=rT.ex2 hg
          cases hE:ZF (Q.1.take i) with
          | none =>
            refine Pn O (λe6=>?_)<|λe6=>?_
            ·refine RI (λw'=>Kp s o w') O (Pu 0 O O hg.kp (P7 2 O (PU z4e O) hg.kp (qT 3 O (λ_ h=>Pl U3 O O (h.OZ gH iY) O) hg.kp (Pu 4 O O hg.kp (P7 5 O (Yf O O ω) hg.kp (qT 1 O (λ_ W=>PO (news:=[.int .u8 1,Pt 0]) St O Rh O ((W.OZ (lZ.ext.OZ hG) oZ).cells (n:=2) O) O) hg.kp (Tl 6 O zff O (z8T ((H:Int)-x) ω _) ?_)))))));rintro _ S⟨rfl,rfl⟩;refine⟨hg.kp,?_⟩;have xU:=z09 (z:=(H:Int)-x) (n:=65537) ω ω;refine P7 7 O (Q8 O RW U3 ω) hg.kp (qO 8 (Xc (i:=8) O O O (SE Zu O O) (TS ((gG.ext L).ext hg) ω .gamma (zig ((H:Int)-x)) ω) ?_));rintro _ a7⟨rfl,a9,Dj,xX,Dk⟩;refine⟨hg.kp.trans xX,?_⟩;refine qE ?_;exact(cJ _ _ ⟨O,by rw[hE];exact Bx.put pf lY (λk d D=>by rcases D with D|e;exact jj k d D;exact iY (e▸d)) l5 z1 ⟨a9,Dj,xX,Dk⟩⟩).qb
            ·exact absurd ψ e6
          | some z =>
            refine Pn O (λe6=>?_)<|λe6=>?_
            ·exact absurd e6 (by show ¬((z:Int)<0);omega)
            ·have hz:=a5 z hE;refine Ra O<|qV (PO (news:=[.int .u8 1,Pt 0]) St O Rh O ((lZ.ext.OZ hG).cells (n:=2) O) O) ?_;rw[show z7b (some z)=(z:Int) from rfl];refine Pr z4e O<|qV (Pl U3 O O gH O)<|Ph O<|RR O<|RR O ?_;rw[show(H:Int)-z-2=((H-z-2:Nat):Int) by omega];refine Rj O O (SE Zu O O) (TS (gG.ext L) ω .gamma (H-z-2) ω) ?_;rintro _ S⟨rfl,Dl⟩;refine P4 ?_;exact(cJ _ _ ⟨O,by rw[hE];exact rT.put pf lY (λk d D=>by rcases D with D|e;exact jj k d D;exact iY (e▸d)) l5 z1 Dl⟩).qb
        ·have df:i=Q.1.length:=ω
         rw[df,y0F] at t;refine Pf O ?_;exact(cf _ _ ⟨O,t⟩).qb
     case er=>
      refine Pn O (λe4=>?_)<|λe4=>?_
      ·have P:0<p.interval:=ω
       obtain⟨a8,nN,tS,nO⟩:=qa.ex;refine Ra O (qV (PO (news:=[.int .u8 1,Pt 0]) St O Rh O ((qa.ext.OZ hG).cells (n:=2) O) O) (Ph O (RQ zbL O (Rj O O (SE Zu O O) (TS nN ω .gamma Q.1.length ω) ?_))));rintro _ a6⟨rfl,tT⟩;refine P4<|PM.qb (e:=[(1,_),(5,_),(11,_),(12,_),(17,_),(18,_)]) ?_;exact(aw _ _ ⟨O,by rw[if_pos P];exact qa.put (λk d=>(fQ k d).2) tS nO l5 z1 tT⟩).qb
      ·have P:¬0<p.interval:=ω
       refine P5 ?_;exact(aw _ _ ⟨O,by rw[if_neg P,y0o];exact qa⟩).qb
   case gm =>
    refine Pn O (λG=>?_)<|λG=>?_
    ·have tU : 0 < r := by omega
     have qh:=Tz succ ref;rw[if_pos tU] at cY
     generalize RF succ ref=rs at qh pU cY
     obtain⟨l,m,rfl⟩:∃l m,rs=l++[m]:=⟨rs.dropLast,rs.getLast qh.ne,(y2v qh.ne).symm⟩;have tV:(l++[m]).length=l.length+1:=ξ
     have fM:l.length<=65537:=by have f:=qh.z1C;rw[y0k,tV] at f;omega
     rw[y2g,tV,y1g] at cY;obtain⟨vr,Bz,Ik⟩:=id pU;rw[tV] at Bz;rcases Bz.sl.shape with⟨-,h0⟩|⟨g,c1,rfl,eD⟩
     ·omega
     have xY:=Bz.OZ;obtain⟨F,xN,hf,KH⟩:=pW.ex;refine PL O<|qV (PO (news:=[.int .u8 1,Pt 0]) St O Rh O ((pW.ext.OZ hG).cells (n:=2) O) O)<|qV (Pl Rp O O xY O)<|RQ Rp O<|RR O ?_;rw[show((l.length+1:Nat):Int)-1=(l.length:Int) by omega];refine Rj O O (SE Zu O O) (TS xN ω .gamma l.length ω) ?_;rintro _ b⟨rfl,Dn⟩;have iA:=pW.put xK hf KH l5 z1 Dn;have Il:=pU.kp iA.kx (λk d e=>e (.inr d));have rV:=iA.kx.OZ xY (λe=>e (.inr ((Ik rn).2 (.inl O))));refine qM O<|qV (Pl Rp O O rV O) ?_;rw[show((l.length+1:Nat):Int)=((l.length+1:Nat):Int) from rfl];refine qV (Pl Rp O O rV O)<|RQ Rp O<|RR O ?_;rw[show((l.length+1:Nat):Int)-1=(l.length:Int) by omega];refine qV (zef Rp Qe O O ω)<|RQ Rp O<|Ph O<|P4<|PM.qb (e:=[(1,_),(5,_),(11,_),(12,_),(14,_),(60,_),(61,_),(62,_)]) ?_;refine P6<|RX (α:=Nat) (0) (λi=>[(1,I (x:Int)),(5,ptr b5 0),(11,ptr n11 0),(12,.func (.func 220) #[] #[ptr n11 0]),(14,ptr lf 0),(60,.slice (some ⟨g,0,none⟩) l.length c1),(61,I (l.length:Int)),(62,I (i:Int))]) (λi w'=>NuX w w1 M p b5 n11 (λk=>FL k\/FR k) (A++(Cd.gamma,l.length)::QN 0 (l.take i)) w'/\i<=l.length) (λi=>l.length-i) ?hI ?hround
     case hI=>exact⟨iA,y00 _⟩
     case hround =>
      rintro i N⟨m7,hi⟩ ih
      try dsimp only
      refine qN O<|QY O<|P4<|OY<|Pn O (λe3=>?_)<|λe3=>?_
      ·have dw:i<l.length:=ω
       obtain⟨a8,nN,tS,nO⟩:=m7.ex;have Do:=Bz.sl.kp m7.kx (λg2 hg e=>e (.inr ((Ik g2).2 (.inr hg))));have io:(l++[m])[i]? =some l[i]:=by rw[y0C dw,y03 dw]
       have ip:min i 1<=l[i]:=by
        rcases y0y i with e| e
        ·omega
        ·have f:=qh.pos l[i] (by
          rw[y3d];refine⟨i-1,?_⟩
          rw[y1O,show 1+(i-1)=i by omega];exact io)
         omega
       have im:l[i]<=65536:=by
        have f:=qh.le l[i] (y1W _ (y1d dw));rw[y0k] at f;omega
       refine P5 (R0 (PL O (qV (Qc Rp Qe O O ω) (qV (PG U3 O O (Qs Do.rd (show((l++[m]).map z6s)[i]? =some (z6s l[i]) by rw[y0i,io];rfl))) ?_))));refine QS O<|Ra O<|qV (PO (news:=[.int .u8 1,Pt 0]) St O Rh O ((m7.ext.OZ hG).cells (n:=2) O) O)<|PB O<|qV (ymi O O)<|RR O ?_;rw[show(l[i]:Int)-min (i:Int) 1=((l[i]-min i 1:Nat):Int) by omega];refine Rj O O (SE Zu O O) (TS nN (by have f:(QN 0 (l.take i)).length=i:=(by rw[Tx,y0d];omega);rw[Pe,y01];omega) .gamma (l[i]-min i 1) ω) ?_;rintro _ a6⟨rfl,tT⟩;have Dp:=m7.put xK tS nO l5 z1 tT;refine P4 (An (Pc O (Qj O (Ph O (P4 ((ih (i+1) _ ⟨?_,ω⟩ ω).qb))))));rw[List.take_succ,y03 dw,Option.toList_some,Zg,y0d,y0B hi,y09,<-y0q,<-y05];exact Dp
      ·have df:i=l.length:=ω
       subst df;rw[y0F] at m7;refine Pf O ?_;exact(cY _ _ ⟨O,m7⟩).qb
    ·have tU:¬0<r:=ω
     refine P5 ?_;exact(cY _ _ ⟨O,by rw[if_neg tU,y0o];exact pW⟩).qb
  case cZ=>
   refine Pn O (λe1=>?_)<|λe1=>?_
   ·have nx:0<p.PE:=ω
    obtain⟨F,xN,hf⟩:=wG.ex;refine Ra O (qV (PO (news:=[.int .u8 0,Pt 0]) St O Rh O ((wG.ext.OZ hU).cells (n:=2) O) O) (Ph O (Rj O O (SE Zu O O) (TS xN ξ .unary r ω) ?_)));rintro _ w5⟨rfl,tW⟩;refine P4<|PM.qb (e:=[(1,_),(2,_),(3,_),(4,_),(5,_),(10,_),(11,_),(12,_)]) ?_;exact(bI _ _ ⟨O,by rw[if_pos nx];exact wG.put hf l5 z1 tW⟩).qb
   ·have nx:¬0<p.PE:=ω
    refine P5 ?_;exact(bI _ _ ⟨O,by rw[if_neg nx];exact wG⟩).qb
end Go.Proofs.YtbihggbffaigjaaGreatDoor
