/- Merged by program. -/
import Derived.Test.YtbihggbffaigjaaGreatDoorZp2
import Derived.Sort.AssemblyPlain
set_option linter.all false
set_option maxRecDepth 1000000
set_option maxHeartbeats 16000000
namespace Go.Proofs.YtbihggbffaigjaaGreatDoor
open Go Go.RowKit Go.Proofs.Tryz
variable {F FL0 FR0 X X':Nat->Prop}{L L':List (Cd×Nat)}{P:Program}{R:List (Nat×Nat)}{a b b5 cap g i j least lf n11 rn sb sc t y:Nat}{aft:Array Edge}{cs:List Value}{el ty:TypeId}{fs:List Bool}{p:Vz}{ra sa:Option Addr}{ref rs succ:List Nat}{s:Sa}{w w' w1 w2 w3 w4:World}
def z2j (l:List Nat):∀c∈l.map SV,c.oneCell'=true:=by
 intro c d
 obtain⟨x,-,rfl⟩:=y0k.1 d
 rfl
def z5J (p:Nat×Nat):List Value:=[I (p.1:Int),I (p.2:Int)]
theorem ze3 (l:List (Nat×Nat)):(l.flatMap z5J).length=l.length*2:=by
 induction l with
 |nil=>rfl
 |cons p l c=>rw[y0W,y01,c,y03,show(z5J p).length=2 from rfl];omega
theorem Sl.oneV {v:Value}{e size n:Nat}(h:Sl w v e size n cs):oneV v=true:=by
 rcases h.shape with⟨rfl,-⟩|⟨g,cap,rfl,-⟩<;>rfl
structure zgS (w:World)(l:List Nat)(least:Nat)(r:List Nat)(a:Option Addr)(cap:Nat)(v4 v5:Value)(R:List (Nat×Nat))(O_:List Nat)(w':World):Prop where
 ext:Ext w w'
 cl:r.length<=cap
 rd:Rd w (.slice a r.length cap) 1 r.length (r.map SV)
 s4:Sl w' v4 348 2 R.length (R.flatMap z5J)
 s5:Sl w' v5 42 1 O_.length (O_.map SV)
 f4:∀g,v4.ownBlock=some g->w.heap.size<=g
 f5:∀g,v5.ownBlock=some g->w.heap.size<=g
 ne:∀g,v4.ownBlock=some g->v5.ownBlock≠some g
 ok:T4 r
 eq:Tq least l=(R++(Tq least r).1,O_++(Tq least r).2)
 len:R.length+O_.length+r.length<=65536
theorem XC {a:Option Addr}{n:Nat}(h:Rd w (.slice a n cap) 1 n cs)(hi:i<=n)(q:n<=cap):Rd w (.slice (if cap=i then a else a.map (·.add (i*1))) (n-i) (cap-i)) 1 (n-i) (cs.drop i):=by
 have m:=h.1
 refine⟨by rw[y08,m];omega,?_⟩
 rcases h.2 with⟨c,k,o⟩|⟨b,off,d,k,l⟩
 ·refine .inl ⟨((if cap=i then a else a.map (·.add (i*1))),cap-i),?_,ω⟩;rw[show n-i=0 by omega]
 ·cases k;by_cases e:cap=i
  ·rw[if_pos e];refine .inl ⟨(some ⟨b,off,none⟩,cap-i),?_,ω⟩;rw[show n-i=0 by omega]
  ·rw[if_neg e];refine .inr ⟨b,off+i*1,cap-i,?_,λj u f=>?_⟩
   ·simp only[Option.map_some,UG]
   ·rw[y1J] at f;have:=l (i+j) u f;rw[show off+i*1+j=off+(i+j) by omega];exact this
theorem YT {a:Option Addr}{n:Nat}(h:Rd w (.slice a n cap) 1 n cs)(hi:i<=n):Rd w (.slice a i cap) 1 i (cs.take i):=by
 have l:=h.1
 refine⟨by rw[y0c,l];omega,?_⟩
 rcases h.2 with⟨c,f,m⟩|⟨b,off,e,f,k⟩
 ·refine .inl ⟨(a,cap),?_,ω⟩;rw[show i=0 by omega]
 ·cases f;refine .inr ⟨b,off,cap,O,λj u d=>?_⟩;rw[y1K] at d;split at d
  ·exact k j u d
  ·cases d
def zgS.grow {l r:List Nat}{a:Option Addr}{e f:Value}{d:List Nat}(h:zgS w l least r a cap e f R d w1)(c:Ext w1 w2):zgS w l least r a cap e f R d w2:=
 ⟨h.ext.trans c,h.cl,h.rd,h.s4.ext c,h.s5.ext c,h.f4,h.f5,h.ne,h.ok,h.eq,h.len⟩
theorem zgc (a:Option Addr)(cap:Nat)(l:List Nat)(least:Nat)(u3:T4 l)(lh:l.length<=cap)(iJ:least<=64)(w:World)(hr:Rd w (.slice a l.length cap) 1 l.length (l.map SV)):
  SG prog 223 [.slice a l.length cap,I (least:Int)] w λu w'=>∃f o,u= .tuple #[f,o]/\Sl w' f 348 2 (Tq least l).1.length ((Tq least l).1.flatMap z5J)/\
   Sl w' o 42 1 (Tq least l).2.length ((Tq least l).2.map SV)/\Ext w w'/\(∀g,f.ownBlock=some g->w.heap.size<=g)/\(∀g,o.ownBlock=some g->w.heap.size<=g)/\∀g,f.ownBlock=some g->o.ownBlock≠some g:=by
 refine py (e:=[(0,_),(1,_)]) func223 O ntmps223 O O<|qN O<|To O<|TZ<|UW (α:=List Nat×Option Addr×Nat×Value×Value×List (Nat×Nat)×List Nat) (l,a,cap,.slice none 0 0,.slice none 0 0,[],[]) (λx=>[(0,.slice x.2.1 x.1.length x.2.2.1),(1,I (least:Int)),(4,x.2.2.2.1),(5,x.2.2.2.2.1)]) (λx w'=>zgS w l least x.1 x.2.1 x.2.2.1 x.2.2.2.1 x.2.2.2.2.1 x.2.2.2.2.2.1 x.2.2.2.2.2.2 w') (λx=>x.1.length) ?hI ?hround
 case hI=>exact⟨Ext.refl _,lh,hr,Sl.nil _ _ _,Sl.nil _ _ _,(λg h=>by cases h),(λg h=>by cases h),(λg h=>by cases h),u3,rfl,by have:=u3.len;simp;omega⟩
 case hround =>
  rintro⟨r,a1,c1,f,o,R,D⟩ L hI Z;dsimp only at hI
  try dsimp only
  refine SX O<|UR SR O<|Ub O<|S5<|So O (λh0=>?_)<|λh0=>?_
  ·obtain⟨y,d,rfl⟩:∃y d,r=y::d:=by
    cases r with
    |nil=>exact absurd h0 ξ
    |cons y d=>exact⟨y,d,O⟩
   have iV:=z0U y d;have MC:=hI.ok.lt y y0s;have jO:=hI.ok.len;rw[y03] at jO
   obtain⟨b,off,K,E⟩:∃b off,a1=some ⟨b,off,none⟩/\∀j u,((y::d).map SV)[j]? =some u->L.cell? ⟨b,off+j,none⟩=some u:=by
    rcases (hI.rd.ext hI.ext).2 with⟨c,-,h⟩|⟨b,off,G,K,E⟩
    ·exact absurd h ξ
    ·cases K;exact⟨b,off,O,E⟩
   subst K
   have s:∀w',Ext w w'->∀j u,((y::d).map SV)[j]? =some u->w'.cell? ⟨b,off+j,none⟩=some u:=λw' hx=>by
    rcases (hI.rd.ext hx).2 with⟨c,-,h⟩|⟨b',a0,G,K,N⟩
    ·exact absurd h ξ
    ·cases K;exact N
   clear E;refine S6<|S7<|TU O<|TZ<|VB (λe' w'=>Ext L w'/\e'=[(0,.slice (some ⟨b,off,none⟩) (y::d).length c1),(1,I (least:Int)),(4,f),(5,o),(6,I ((Tn y d+1:Nat):Int))]) ?rL<|λrL=>?Fc
   case rL=>
    rintro e' a2⟨aM,rfl⟩;replace hI:=hI.grow aM;have E:=s _ hI.ext
    generalize Y:Tn y d+1=n
    have jP:=hI.cl;rw[y03] at jP;have m:=hI.eq;have ax:=hI.len;rw[y03] at ax;have cy:1<=n/\n<=d.length+1:=ω
    have KK:d.drop (Tn y d)=(y::d).drop n:=by rw[<-Y];rfl
    have oN:y::d.take (Tn y d)=(y::d).take n:=by rw[<-Y];rfl
    rw[Tq] at m;simp only[Y,KK,oN] at m;have S:T4 ((y::d).drop n):=hI.ok.sub (y1t _ _);have M:=XC hI.rd (i:=n) (by rw[y03];omega) hI.cl;rw[<-y1S,show(y::d).length-n=((y::d).drop n).length by rw[y08]] at M;have q:((y::d).drop n).length=d.length+1-n:=by rw[y08,y03]
    by_cases V:0<least/\least<=n
    ·obtain⟨DV,X⟩:=V;rw[if_pos ⟨DV,X⟩] at m;refine SX O (Ub O (Ue (Sz O (Sf O (WZ O (Ue (Uj O (S5 (Sb O (Sg O (Sz O (qV (Tm SR Sy O O ω) (qV (SQ U0 O O (E (0*1) (SV y) O)) ?_)))))))))))));refine qV (T7 O U0 U3 ω) (Sf O (qV (VI (cs:=[_,_]) z4Q O zkI O O) (Sd O O (pbs (cs:=[_,_]) (zs:=[Value.int .i64 0,Value.int .i64 0]) zeR z4Q O y00 O O O ψ) ?_)));rintro _ P⟨b7,rfl,⟨lu,k,cm⟩,fS⟩;refine Sd O O (pap zeR z4Q O ψ O O (hI.s4.ext k) fS.rd (by intro c N;simp at N;rcases N with rfl|rfl<;>rfl) ω (by simp only[maxLen];omega)) ?_;rintro F B⟨z,v,A,-⟩;have j8:=z.oneV;have hz:=hI.ext.size;have DW:=k.size;have H:Ext w B:=(hI.ext.trans k).An v (λi hi=>hI.f4 i hi);have ot:Sl B o 42 1 D.length (D.map SV):=(hI.s5.ext k).kp v (λg hg e=>hI.ne g e hg);refine Sq O (Sg O (Sz O (qV (z1P SR Sy O O (by rw[y03];omega) hI.cl) ?_)));refine Sq O<|S2 ?_;rw[show(y::d).length-n=((y::d).drop n).length by rw[y08]];refine(Z ((y::d).drop n,_,c1-n,F,o,R++[(y,n)],D) _ ⟨H,by dsimp only;rw[q];omega,M,?_,ot,?_,hI.f5,?_,S,?_,?_⟩ ?_).qb
     ·dsimp only;rw[y01,y1Y];exact z
     ·intro g hg;rcases A g hg with h| h
      ·exact hI.f4 g h
      ·omega
     ·intro g hg e;rcases A g hg with h| h
      ·exact hI.ne g h e
      ·have:=hI.s5.lt e;omega
     ·dsimp only;rw[m,y06];rfl
     ·dsimp only;rw[y01,y1q,q];omega
     ·dsimp only;rw[q,y03];omega
    ·rw[if_neg V] at m;rcases y0D least with e0|e0
     ·refine SX O (Ub O (T0 (Sf O (Ua (qS (Td O (S5 (S9 O (Sg O (Sz O (Sf O (qV (zcq SR Sy O O ω) (Sd O O (pap SR Sy O ψ O O hI.s5 (YT (hI.rd.ext hI.ext) (i:=n) (by rw[y03];omega)) (by rw[<-y1g];exact z2j _) ω (by simp only[maxLen];omega)) ?_)))))))))))));rintro C B⟨z,v,A,-⟩;have j8:=z.oneV;have hz:=hI.ext.size;have H:Ext w B:=hI.ext.An v (λi hi=>hI.f5 i hi);have t:Sl B f 348 2 R.length (R.flatMap z5J):=hI.s4.kp v (λg hg e=>hI.ne g hg e);refine Sq O (Sg O (Sz O (qV (z1P SR Sy O O (by rw[y03];omega) hI.cl) ?_)));refine Sq O<|S2 ?_;rw[show(y::d).length-n=((y::d).drop n).length by rw[y08]];have J:((y::d).take n).length=n:=by rw[y0c,y03];omega
      refine(Z ((y::d).drop n,_,c1-n,f,C,R,D++(y::d).take n) _ ⟨H,by dsimp only;rw[q];omega,M,t,?_,hI.f4,?_,?_,S,?_,?_⟩ ?_).qb
      ·dsimp only;rw[y01,y0f,J,y1g];exact z
      ·intro g hg;rcases A g hg with h| h
       ·exact hI.f5 g h
       ·omega
      ·intro g hg e;rcases A g e with h| h
       ·exact hI.ne g hg h
       ·have:=hI.s4.lt hg;omega
      ·dsimp only;rw[m,y06]
      ·dsimp only;rw[y01,J,q];omega
      ·dsimp only;rw[q,y03];omega
     ·have X:¬least<=n:=λh=>V ⟨e0,h⟩;refine SX O (Ub O (Ue (Sz O (Sf O (WZ O (T0 (Uj O (S5 (S9 O (Sg O (Sz O (Sf O (qV (zcq SR Sy O O ω) ?_)))))))))))));refine Sd O O (pap SR Sy O ψ O O hI.s5 (YT (hI.rd.ext hI.ext) (i:=n) (by rw[y03];omega)) (by rw[<-y1g];exact z2j _) ω (by simp only[maxLen];omega)) ?_;rintro C B⟨z,v,A,-⟩;have j8:=z.oneV;have hz:=hI.ext.size;have H:Ext w B:=hI.ext.An v (λi hi=>hI.f5 i hi);have t:Sl B f 348 2 R.length (R.flatMap z5J):=hI.s4.kp v (λg hg e=>hI.ne g hg e);refine Sq O (Sg O (Sz O (qV (z1P SR Sy O O (by rw[y03];omega) hI.cl) ?_)));refine Sq O<|S2 ?_;rw[show(y::d).length-n=((y::d).drop n).length by rw[y08]];have J:((y::d).take n).length=n:=by rw[y0c,y03];omega
      refine(Z ((y::d).drop n,_,c1-n,f,C,R,D++(y::d).take n) _ ⟨H,by dsimp only;rw[q];omega,M,t,?_,hI.f4,?_,?_,S,?_,?_⟩ ?_).qb
      ·dsimp only;rw[y01,y0f,J,y1g];exact z
      ·intro g hg;rcases A g hg with h| h
       ·exact hI.f5 g h
       ·omega
      ·intro g hg e;rcases A g e with h| h
       ·exact hI.ne g hg h
       ·have:=hI.s4.lt hg;omega
      ·dsimp only;rw[m,y06]
      ·dsimp only;rw[y01,J,q];omega
      ·dsimp only;rw[q,y03];omega
   case Fc =>
    refine UW (α:=Nat) (1) (λi=>[(0,.slice (some ⟨b,off,none⟩) (y::d).length c1),(1,I (least:Int)),(4,f),(5,o),(6,I (i:Int))]) (λi w'=>Ext L w'/\1<=i/\i<=Tn y d+1) (λi=>Tn y d+2-i) ?hI ?hround
    case hI=>exact⟨Ext.refl _,ω,ω⟩
    case hround=>
     rintro i P⟨k,DX,dF⟩ p
     try dsimp only
     refine It<|It ?_;have hg:=(Ext.refl P).drew;refine Ux (λw'=>Ext P w') O<|St 0 O O hg<|St 1 O O hg<|S8 2 O (VQ SR O) hg<|S8 3 O (ylt O O) hg<|zlq (λU=>?_)<|λU=>?_
     ·have yI:i<d.length+1:=by rw[y03] at U;omega
      have T:d[i-1]? =some (d[i-1]'ω):=y04 ω;have R5:d[i-1]'ω<65536:=hI.ok.lt _ (y0u _ (y1s _));refine St 4 O O hg (St 5 O O hg (St 6 O O hg (S8 7 O (Tm SR Sy O O ω) hg (St 9 O O hg (S8 10 O (Tm SR Sy O O ω) hg (St 12 O O hg (S8 13 O (z4r O U3 U0) hg (qT 8 O (λ_ W=>SQ U0 O O (by exact s _ ((hI.ext.trans k).trans W) (i*1) (SV (d[i-1]'ω)) (by rw[y0l,show i*1=(i-1)+1 by omega,y1N,T];rfl))) hg ?_))))))));refine qT 11 O (λ_ W=>SQ U0 O O (by exact s _ ((hI.ext.trans k).trans W) (0*1) (SV y) O)) hg ?_;refine S8 14 O (zlD O O) hg<|S8 15 O (yeq O O) hg<|S8 16 O (YD O O) hg<|qE<|So O (λe2=>?_)<|λe2=>?_
      ·refine S6<|S7<|Uw O<|Tr O<|Sq O<|S2 ?_
       have bB:i≠Tn y d+1:=λe=>by
        subst e;have:=z0o y d (d[Tn y d+1-1]'ω) (by rw[<-T];simp);omega
       exact(p (i+1) _ ⟨k.trans hg,ω,ω⟩ ω).qb
      ·have Q:i=Tn y d+1:=by
        rcases y0a (i-1) (Tn y d) with h| h
        ·have h1:=ZP y d (i-1) h;rw[T] at h1;have h2:=UC h1;exact absurd ω e2
        ·omega
       refine Sh O ?_;subst Q;exact(rL _ _ ⟨k.trans hg,O⟩).qb
     ·have Q:i=Tn y d+1:=by rw[y03] at U;omega
      refine St 4 O O hg<|qJ 5 O hg<|qJ 6 O hg<|qJ 7 O hg<|qJ 8 O hg<|qJ 9 O hg<|qJ 10 O hg<|qJ 11 O hg<|qJ 12 O hg<|qJ 13 O hg<|qJ 14 O hg<|qJ 15 O hg<|S8 16 O (Xg O O) hg<|qE ?_;refine S9 O<|Sh O ?_;subst Q;exact(rL _ _ ⟨k.trans hg,O⟩).qb
  ·have fM:r=[]:=y0x ω;subst fM;refine Sh O<|TV O<|To O<|S3 func223 O ?_;have m:=hI.eq;simp only[Tq,y0q] at m;rw[m];exact⟨_,O,f,o,O,hI.s4,hI.s5,hI.ext,hI.f4,hI.f5,hI.ne⟩
structure VsM (w:World)(p:Nat)(v:Value)(T el:TypeId)(size n:Nat)(cs:List Value):Prop where
 S4:Sk w p [v] T
 sl:Sl w v el size n cs
 ne:v.ownBlock≠some p
def VsA (w:World)(p:Nat)(T el:TypeId)(size n:Nat)(cs:List Value)(F:Nat->Prop):Prop:=∃v,VsM w p v T el size n cs/\∀k,F k↔fpW p v k
section
variable {p:Nat}{T:TypeId}{size n:Nat}{S:Nat->Prop}
def VsA.lt (h:VsA w p T el size n cs F){k:Nat}(f:F k):k<w.heap.size:=by
 obtain⟨l,c,d⟩:=h
 rcases (d k).1 f with e| e
 ·rw[e];exact c.S4.lt
 ·exact c.sl.lt e
theorem VsA.kp (h:VsA w p T el size n cs F)(k:Kp S w w')(e:∀i,F i->¬S i):VsA w' p T el size n cs F:=by
 obtain⟨f,d,c⟩:=h
 exact⟨f,⟨k.S4 d.S4 (e p ((c p).2 (.inl O))),d.sl.kp k (λg hg=>e g ((c g).2 (.inr hg))),d.ne⟩,c⟩
def VsA.ext (h:VsA w p T el size n cs F)(k:Ext w w'):VsA w' p T el size n cs F:=h.kp k.kp λ_ _=>id
end
def ziu {e:Env}{d:Option Nat}{t t':TypeId}{pos:String}{g:Option (Nat×Bool)}{x y:Operand}{p q:Bool}(f:look e x=some (.bool p))(h:look e y=some (.bool q))(ht:P.underlying t=some .bool):Y P e ⟨d,.binOp .neq t x y t',ty,pos,aft,g⟩ (.bool (!(p==q))) w w:=fun ρ c=>by
 simp[execOp,c _ _ f,c _ _ h,eqGuard_at_bool,run_neq_bool w t p q ht]
def zau (q:Cd×Nat):List Value:=W5 q.1++[Su q.2]
abbrev z9C (w:World)(p:Nat)(L:List (Cd×Nat))(F:Nat->Prop):Prop:=VsA w p 311 316 3 L.length (L.flatMap zau) F
abbrev z6L (w:World)(p:Nat)(L:List Nat)(F:Nat->Prop):Prop:=VsA w p 40 42 1 L.length (L.map SV) F
abbrev z5x (w:World)(p:Nat)(L:List Nat)(F:Nat->Prop):Prop:=VsA w p 37 3 1 L.length (L.map λn:Nat=>I (n:Int)) F
theorem X4 {p:Nat}(h:z9C w p L F)(t:L.length<=1000000)(c:Cd)(v:Nat)(P:v<9223372036854775808):
  SG prog 220 [cdV c,I (v:Int),ptr p 0] w λu w'=>u= .tuple #[]/\∃z,z9C w' p (L++[(c,v)]) z/\Kp F w w'/\∀k,z k->F k\/w.heap.size<=k:=by
 obtain⟨x,y,D,Z,J⟩:∃x y,W5 c=[x,y]/\x.oneCell'=true/\y.oneCell'=true:=by cases c<;>exact⟨_,_,O,O,O⟩
 obtain⟨j,f,o⟩:=h
 have a:cdV c= .agg [x,y].toArray:=by rw[cdV,D]
 rw[a]
 have K:∀c∈[x,y,Su v],c.oneCell'=true:=by
  intro c d;rcases y0m.1 d with rfl|d
  ·exact Z
  rcases y0m.1 d with rfl|d
  ·exact J
  rcases y0m.1 d with rfl|d
  ·rfl
  ·simp at d
 refine py (e:=[(0,_),(1,_),(2,_)]) func220 O ntmps220 O O<|qN O<|Sd O O (UD O (cs:=[x,y]) O) ?_
 rintro _ w1⟨b3,rfl,s,l,N⟩
 have G:=l.S4 f.S4
 refine S5<|Sg O<|qV (Sc z4y O O G O)<|qV (SO (news:=[x,y]) Vy O Un O (N.cells (n:=2) O) O)<|Sf O<|qV (TM O U3 Va ω)<|qV (VI (cs:=[_,_,_]) Zl O ziw O O)<|Sd O O (pbs (cs:=[_,_,_]) (zs:=[Value.int .u8 0,Value.int .u64 0,Value.int .u64 0]) z4y Zl O y00 O O O ψ) ?_
 rintro _ w2⟨b2,rfl,⟨i,m,b⟩,Q⟩
 refine Sd O O (pap z4y Zl O ψ O O ((f.sl.ext l).ext m) Q.rd K ω (by simp only[maxLen];omega)) ?_
 rintro q w3⟨C,B,H,-⟩
 have Y:=C.oneV
 have M:=B.S4 (m.S4 G) f.ne
 refine Sm O (TO zeF O O Y M ξ) ?_
 rintro w4⟨r,A⟩
 replace r:Sk w4 p [q] 311:=r
 have X:=l.size
 have z2:=m.size
 have R:=f.S4.lt
 have E:q.ownBlock≠some p:=λe=>by
  rcases H p e with e| e
  ·exact f.ne e
  ·omega
 have V:=C.kp A (λg hg e=>E (e▸hg))
 refine S5<|Tv func220 O (⟨_,O,O,fpW p q,⟨q,⟨r,?_,E⟩,λ_=>y0U⟩,?_,?_⟩)
 ·rw[y01,y1Y];have U:[(c,v)].flatMap zau=[x,y,Su v]:=by simp[zau,D]
  rw[U];exact V
 ·exact((l.trans m).kp.trans (B.Se λk e=>(o k).2 (.inr e))).trans (A.Se λk e=>(o k).2 (.inl e))
 ·intro k W;rcases W with e| e
  ·exact .inl ((o k).2 (.inl e))
  ·rcases H k e with e| e
   ·exact .inl ((o k).2 (.inr e))
   ·exact .inr ω
def Z2 (rs:List Nat)(f:Bool):List Nat:=if f !=(rs.length%2==1) then rs++[0] else rs
theorem z5p (rs:List Nat)(f:Bool):UA rs f=(Z2 rs f).modify ((Z2 rs f).length-1) (·+1):=rfl
abbrev zaC (n:Nat):Value:=I (n:Int)
theorem z6f {L:List Nat}(h:z6L w lf L F)(N:L.length<=1000000)(x:Nat)(a:Bool):
  SG prog 222 [SV x,.bool a,.bool false,ptr lf 0,ptr rn 0] w λu w'=>u= .tuple #[]/\∃o,z6L w' lf (L++[x]) o/\Kp F w w'/\∀k,o k->F k\/w.heap.size<=k:=by
 obtain⟨M,d,l⟩:=h
 refine py (e:=[(0,_),(1,_),(2,_),(3,_),(4,_)]) func222 O ntmps222 O O ?_
 have B:=d.S4
 refine TZ<|SE O<|qV (Vn O)<|Sq O<|Sb O<|qN O<|qV (Sc SR O O B O)<|Sf O<|Sd O O (pbs (cs:=[_]) (zs:=[Value.int .u32 0]) SR Sy O y00 O O O ψ) ?_
 rintro _ w2⟨b2,rfl,⟨K,f,J⟩,E⟩
 refine Sd O O (pap SR Sy O ψ O O (d.sl.ext f) E.rd (by intro c A;simp at A;subst A;rfl) ω (by simp only[maxLen];omega)) ?_
 rintro m w3⟨v,r,C,-⟩
 have I:=v.oneV
 have D:=r.S4 (f.S4 B) d.ne
 refine Sm O (TO VR O O I D ξ) ?_
 rintro w4⟨n,q⟩
 replace n:Sk w4 lf [m] 40:=n
 have S:=f.size
 have Q:=d.S4.lt
 have z:m.ownBlock≠some lf:=λe=>by
  rcases C lf e with e| e
  ·exact d.ne e
  ·omega
 have G:=v.kp q (λg hg e=>z (e▸hg))
 refine S5<|S3 func222 O (⟨_,O,O,fpW lf m,⟨m,⟨n,?_,z⟩,λ_=>y0U⟩,?_,?_⟩)
 ·rw[y01,y0f];exact G
 ·exact(f.kp.trans (r.Se λk e=>(l k).2 (.inr e))).trans (q.Se λk e=>(l k).2 (.inl e))
 ·intro k H;rcases H with e| e
  ·exact .inl ((l k).2 (.inl e))
  ·rcases C k e with e| e
   ·exact .inl ((l k).2 (.inr e))
   ·exact .inr ω
theorem z2J (h:z5x w rn rs F)(y:rs.length<=1000000)(D:rs≠[])(s:∀m∈rs,m<=1000000)(x:Nat)(a:Bool):
  SG prog 222 [SV x,.bool a,.bool true,ptr lf 0,ptr rn 0] w λu w'=>u= .tuple #[]/\∃o,z5x w' rn (UA rs a) o/\Kp F w w'/\∀k,o k->F k\/w.heap.size<=k:=by
 have R:∀k,F k->k<w.heap.size:=λk f=>h.lt f
 obtain⟨bv,n,z⟩:=id h
 refine py (e:=[(0,_),(1,_),(2,_),(3,_),(4,_)]) func222 O ntmps222 O O ?_
 have G:=n.S4
 obtain⟨va,vc,rfl,-⟩:=n.sl.rd.shape
 refine TZ<|SE O<|qV (Vn O)<|Sq O<|S9 O<|SE O<|qV (Sc Tx O O G O)<|UR Tx O<|qV (z1k O O ω ω) ?_
 rw[y2z]
 refine U7 O<|qV (ziu O O U4) ?_
 have t:decide (((rs.length%2:Nat):Int)=1)=(rs.length%2==1):=by
  rcases y20 rs.length with e|e<;>rw[e]<;>rfl
 rw[t]
 refine Sq O<|Tc (λN w'=>N=[(4,ptr rn 0)]/\∃o,z5x w' rn (Z2 rs a) o/\Kp F w w'/\∀k,o k->F k\/w.heap.size<=k) ?vy<|λvy=>?vz
 case vy=>
  rintro N w1⟨rfl,P,⟨v1,d,W⟩,b,U⟩
  obtain⟨l,m,T,gD,hm⟩:∃l m,Z2 rs a=l++[m]/\l.length<=1000000/\m<=1000000:=by
   unfold Z2;split
   ·exact⟨rs,0,O,y,ω⟩
   ·refine⟨rs.dropLast,rs.getLast D,(y2v D).symm,by rw[y2n];omega,s _ (List.getLast_mem D)⟩
  rw[T] at d;have Y:(l++[m]).length=l.length+1:=ξ
  rw[Y] at d;rcases d.sl.shape with⟨-,h0⟩|⟨g,c1,rfl,eJ⟩
  ·omega
  have C:=d.S4;refine S2<|Sg O<|qV (Sc Tx O O C O)<|qV (Sc Tx O O C O)<|UR Tx O<|UO O ?_;rw[show((l.length+1:Nat):Int)-1=(l.length:Int) by omega];refine qV (Tm Tx T8 O O ω) (qV (SQ U3 O O (TF d.sl.rd (show((l++[m]).map zaC)[l.length]? =some (zaC m) by simp))) ?_);refine Tr O (qV (Tm Tx T8 O O ω) (Sm O (Vl T8 O O O d.sl ξ) ?_));rintro w2⟨q,I⟩;have H:=I.S4 C (λe=>d.ne (by rw[e];rfl));refine S5<|Tv func222 O (⟨_,O,O,fpW rn (.slice (some ⟨g,0,none⟩) (l.length+1) c1),⟨_,⟨H,?_,d.ne⟩,λ_=>y0U⟩,?_,?_⟩)
  ·rw[z5p,T,z0j];have r:(l++[m+1]).length=l.length+1:=ξ
   rw[r]
   have j:((l++[m]).map zaC).set l.length (zaC (m+1))=(l++[m+1]).map zaC:=by
    rw[y0f,y22 _ _ ξ];simp
   rw[<-j];have e3:l.length*1=l.length:=y0j _
   first|exact q|(simp only[y0g,y0j] at q;exact q)
  ·exact b.An (I.Se (λk e=>(W k).2 (.inr (by rw[e];rfl)))) (λi hi=>(U i hi).symm)
  ·intro k f;exact U k ((W k).2 f)
 case vz=>
  refine TL O (λr=>?_)<|λr=>?_
  ·have E:Z2 rs a=rs++[0]:=by unfold Z2;exact if_pos r
   refine Sg O (qV (Sc Tx O O G O) (Sd O O (pbs (cs:=[_]) (zs:=[Value.int .i64 0]) Tx T8 O y00 O O O ψ) ?_));rintro _ w2⟨b2,rfl,⟨X,v,H⟩,q⟩;refine Sd O O (pap Tx T8 O ψ O O (n.sl.ext v) q.rd (by intro c S;simp at S;subst S;rfl) ω (by simp only[maxLen];omega)) ?_;rintro A w3⟨M,K,V,-⟩;have L:=M.oneV;have Z:=K.S4 (v.S4 G) n.ne;refine Sm O (TO ZA O O L Z ξ) ?_;rintro w4⟨B,J⟩;replace B:Sk w4 rn [A] 37:=B;have z2:=v.size;have lp:=n.S4.lt
   have Q:A.ownBlock≠some rn:=λe=>by
    rcases V rn e with e| e
    ·exact n.ne e
    ·omega
   have p:=M.kp J (λg hg e=>Q (e▸hg));refine S5 ((vy _ _ ⟨O,fpW rn A,⟨A,⟨B,?_,Q⟩,λ_=>y0U⟩,?_,?_⟩).qb)
   ·rw[E,y01,y0f];exact p
   ·exact(v.kp.trans (K.Se λk e=>(z k).2 (.inr e))).trans (J.Se λk e=>(z k).2 (.inl e))
   ·intro k f;rcases f with e| e
    ·exact .inl ((z k).2 (.inl e))
    ·rcases V k e with e| e
     ·exact .inl ((z k).2 (.inr e))
     ·exact .inr ω
  ·have E:Z2 rs a=rs:=by unfold Z2;exact if_neg (by simpa using r)
   refine S6 ?_;exact(vy _ _ ⟨O,F,by rw[E];exact h,Kp.refl _ _,λk f=> .inl f⟩).qb
def Zr (s r rs:List Nat):List Nat:=r.foldl (λrs y=>UA rs (decide (y∈s))) rs
def z3n {s t:List Nat}:∀(r rs:List Nat),(∀y∈r,(y∈s↔y∈t))->Zr s r rs=Zr t r rs
 |[],rs,_=>rfl
 | y :: r, rs, h => by
   have c:decide (y∈s)=decide (y∈t):=decide_eq_decide.2 (h y y0s);show Zr s r (UA rs (decide (y∈s)))=Zr t r (UA rs (decide (y∈t)));rw[c];exact z3n r _ (λz d=>h z (y0u _ d))
def Zz {x z:Nat}{l:List Nat}(h:x<z):z∈x::l↔z∈l:=by
 rw[y0m]
 constructor
 ·rintro(e|e)
  ·omega
  ·exact e
 ·exact .inr
theorem z7a {x:Nat}{s r:List Nat}(h:∀y∈r,x<y):SL (x::s) r=x::SL s r/\∀rs,Zr (x::s) r rs=Zr s r rs:=by
 have c:x∉r:=λe=>by have:=h x e;omega
 refine⟨?_,λrs=>z3n r rs λy d=>Zz (h y d)⟩
 unfold SL
 rw[List.filter_cons,if_pos (by simpa using c)]
def z4P {r t:List Nat}(s:List Nat)(h:∀x∈s,(x∈r↔x∈t)):SL s r=SL s t:=
 List.filter_congr λx c=>decide_eq_decide.2 (not_congr (h x c))
theorem zcp {x:Nat}{s r:List Nat}(c:∀z∈s,x<z)(hr:∀y∈r,x<y):SL (x::s) (x::r)=SL s r/\∀rs,Zr (x::s) (x::r) rs=Zr s r (UA rs true):=by
 refine⟨?_,λrs=>?_⟩
 ·have:=z4P (r:=x::r) (t:=r) s (λz d=>Zz (c z d));rw[<-this];unfold SL;rw[List.filter_cons,if_neg ξ]
 ·show Zr (x::s) r (UA rs (decide (x∈x::s)))=_;rw[decide_eq_true y0s];exact(z7a hr).2 _
theorem zcb {s r:List Nat}(c:∀z∈s,y<z):SL s (y::r)=SL s r/\∀rs,Zr s (y::r) rs=Zr s r (UA rs false):=by
 refine⟨z4P s (λz d=>Zz (c z d)),λrs=>?_⟩
 show Zr s r (UA rs (decide (y∈s)))=_
 rw[decide_eq_false λe=>by have:=c y e;omega]
def z7H {x:Nat}{l:List Nat}(hr:Ris (y::l))(h:x<y):∀z∈y::l,x<z:=λz c=>by
 rcases y0m.1 c with e| e
 ·omega
 ·have:=(y1o.1 hr).1 z e;omega
def z5q:∀{l:List Nat} {m:Nat},m∈l->m<=l.sum
 | x :: l, m, h => by
   rw[y0L];rcases y0m.1 h with e| e
   ·omega
   ·have:=z5q e;omega
def z9q (rs:List Nat)(f:Bool):(UA rs f).length<=rs.length+1:=by
 rw[z5p,List.length_modify]
 unfold Z2
 split<;>simp
def Xk.le (h:Xk rs fs):∀m∈rs,m<=fs.length:=λm c=>by
 have:=z5q c
 rw[<-h.exp,Wq];exact this
structure XM (w:World)(succ ref:List Nat)(lf rn:Nat)(FL0 FR0:Nat->Prop)(s:List Nat)(sa:Option Addr)(sc:Nat)(r:List Nat)(ra:Option Addr)(rc:Nat)(L rs:List Nat)(w':World):Prop where
 ex:∃FL FR fs,z6L w' lf L FL/\z5x w' rn rs FR/\Xk rs fs/\fs.length+r.length<=65536/\rs.length+r.length<=65537/\(∀k,FL k->FL0 k\/w.heap.size<=k)/\(∀k,FR k->FR0 k\/w.heap.size<=k)/\∀k,FL k->¬FR k
 rdS:∀w2,Kp (λk=>FL0 k\/FR0 k) w w2->Rd w2 (.slice sa s.length sc) 1 s.length (s.map SV)
 rdR:∀w2,Kp (λk=>FL0 k\/FR0 k) w w2->Rd w2 (.slice ra r.length rc) 1 r.length (r.map SV)
 clS:s.length<=sc
 clR:r.length<=rc
 kp:Kp (λk=>FL0 k\/FR0 k) w w'
 okS:T4 s
 okR:T4 r
 left:SL succ ref=L++SL s r
 fold:UJ succ ref=Zr s r rs
 zjv:L.length+s.length<=65536
section
variable {s r L:List Nat}{rc:Nat}{x:Nat}
theorem XM.ext (h:XM w succ ref lf rn FL0 FR0 s sa sc r ra rc L rs w1)(c:Ext w1 w2):XM w succ ref lf rn FL0 FR0 s sa sc r ra rc L rs w2:=by
 obtain⟨d,e,fs,f,k,l⟩:=h.ex
 exact⟨⟨d,e,fs,f.ext c,k.ext c,l⟩,h.rdS,h.rdR,h.clS,h.clR,h.kp.trans c.kp,h.okS,h.okR,h.left,h.fold,h.zjv⟩
theorem XM.zcK (h:XM w succ ref lf rn FL0 FR0 (x::s) sa sc r ra rc L rs w1):∃b off,sa=some ⟨b,off,none⟩/\∀w2,Kp (λk=>FL0 k\/FR0 k) w w2->w2.cell? ⟨b,off+0*1,none⟩=some (SV x):=by
 rcases (h.rdS w1 h.kp).2 with⟨c,-,d⟩|⟨b,off,cap,e,-⟩
 ·exact absurd d ξ
 ·cases e;exact⟨b,off,O,λw2 k=>TF (h.rdS w2 k) O⟩
theorem XM.zbN (h:XM w succ ref lf rn FL0 FR0 s sa sc (y::r) ra rc L rs w1):∃b off,ra=some ⟨b,off,none⟩/\∀w2,Kp (λk=>FL0 k\/FR0 k) w w2->w2.cell? ⟨b,off+0*1,none⟩=some (SV y):=by
 rcases (h.rdR w1 h.kp).2 with⟨c,-,d⟩|⟨b,off,cap,e,-⟩
 ·exact absurd d ξ
 ·cases e;exact⟨b,off,O,λw2 k=>TF (h.rdR w2 k) O⟩
theorem XM.zi7 (h:XM w succ ref lf rn FL0 FR0 (x::s) sa sc r ra rc L rs w1){d f:Nat->Prop}(H:z6L w1 lf L d/\z5x w1 rn rs f/\Xk rs fs/\fs.length+r.length<=65536/\rs.length+r.length<=65537/\(∀k,d k->FL0 k\/w.heap.size<=k)/\(∀k,f k->FR0 k\/w.heap.size<=k)/\∀k,d k->¬f k)
  (hr:∀y∈r,x<y) (I:∃c,z6L w2 lf (L++[x]) c/\Kp d w1 w2/\∀k,c k->d k\/w1.heap.size<=k):
  XM w succ ref lf rn FL0 FR0 s (if sc=1 then sa else sa.map (·.add (1*1))) (sc-1) r ra rc (L++[x]) rs w2:=by
 obtain⟨-,J,K,M,N,A,O,Q,S,T,m⟩:=h
 obtain⟨U,u,C,D,E,v,G,z⟩:=H
 obtain⟨c,B,o,q⟩:=I
 have V:=A.size
 rw[y03] at M m
 refine⟨⟨c,f,fs,B,u.kp o (λi hi e=>z i e hi),C,D,E,λk l=>?_,G,λk l e=>?_⟩,λw2 k=>?_,K,ω,N,A.An o (λi hi=>?_),O.sub (y2g _ _),Q,?_,?_,?_⟩
 ·rcases q k l with e| e
  ·exact v k e
  ·exact .inr ω
 ·rcases q k l with n|n
  ·exact z k n e
  ·have:=u.lt e;omega
 ·have:=XC (J w2 k) (i:=1) (by rw[y03];omega) (by rw[y03];omega);exact this
 ·rcases v i hi with e| e
  ·exact .inr (.inl e)
  ·exact .inl e
 ·rw[S,(z7a hr).1,y06];rfl
 ·rw[T,(z7a hr).2]
 ·rw[y01,y1q];omega
theorem XM.zgx {u:List Nat}{m:Option Addr}{n:Nat}{f:Bool}(h:XM w succ ref lf rn FL0 FR0 s sa sc (y::r) ra rc L rs w1)(g:(u=s/\m=sa/\n=sc/\f=false/\∀z∈s,y<z)\/(s=y::u/\m=(if sc=1 then sa else sa.map (·.add (1*1)))/\n=sc-1/\f=true))
  {l c:Nat->Prop} {fs:List Bool} (b:z6L w1 lf L l/\z5x w1 rn rs c/\Xk rs fs/\fs.length+(y::r).length<=65536/\rs.length+(y::r).length<=65537/\(∀k,l k->FL0 k\/w.heap.size<=k)/\(∀k,c k->FR0 k\/w.heap.size<=k)/\∀k,l k->¬c k)
  (j:∃d,z5x w2 rn (UA rs f) d/\Kp c w1 w2/\∀k,d k->c k\/w1.heap.size<=k):
  XM w succ ref lf rn FL0 FR0 u m n r (if rc=1 then ra else ra.map (·.add (1*1))) (rc-1) L (UA rs f) w2:=by
 obtain⟨-,N,p,O,t,Q,v,A,S,T,o⟩:=h
 obtain⟨J,F,W,Y,Z,a,K,M⟩:=b
 rw[y03] at Y Z t
 obtain⟨d,V,H,I⟩:=j
 have P:=Q.size
 have R:=z9q rs f
 have B:∀z∈r,y<z:=(y1o.1 A.ris).1
 have U:∃l c fs,z6L w2 lf L l/\z5x w2 rn (UA rs f) c/\Xk (UA rs f) fs/\fs.length+r.length<=65536/\(UA rs f).length+r.length<=65537/\(∀k,l k->FL0 k\/w.heap.size<=k)/\(∀k,c k->FR0 k\/w.heap.size<=k)/\∀k,l k->¬c k:=by
  refine⟨l,d,fs++[f],J.kp H (λi hi e=>M i hi e),V,W.step f,by rw[y01,y1q];omega,ω,a,λk q=>?_,λk q e=>?_⟩
  ·rcases I k q with e| e
   ·exact K k e
   ·exact .inr ω
  ·rcases I k e with E|E
   ·exact M k q E
   ·have:=J.lt q;omega
 have C:Kp (λk=>FL0 k\/FR0 k) w w2:=Q.An H (λi hi=>by
  rcases K i hi with e| e
  ·exact .inr (.inr e)
  ·exact .inl e)
 have G:∀w2,Kp (λk=>FL0 k\/FR0 k) w w2->Rd w2 (.slice (if rc=1 then ra else ra.map (·.add (1*1))) r.length (rc-1)) 1 r.length (r.map SV):=λw2 k=>
  XC (p w2 k) (i:=1) (by rw[y03];omega) (by rw[y03];omega)
 rcases g with⟨rfl,rfl,rfl,rfl,hg⟩|⟨rfl,rfl,rfl,rfl⟩
 ·exact⟨U,N,G,O,ω,C,v,A.sub (y2g _ _),by rw[S,(zcb hg).1],by rw[T,(zcb hg).2],o⟩
 ·have D:∀z∈u,y<z:=(y1o.1 v.ris).1;rw[y03] at O o;refine⟨U,λw2 k=>?_,G,ω,ω,C,v.sub (y2g _ _),A.sub (y2g _ _),by rw[S,(zcp D B).1],by rw[T,(zcp D B).2],ω⟩;exact XC (N w2 k) (i:=1) (by rw[y03];omega) (by rw[y03];omega)
end
theorem zgj {rc:Nat}(Y:XM w succ ref lf rn FL0 FR0 succ sa sc ref ra rc [] [0] w):
  SG prog 221 [.slice sa succ.length sc,.slice ra ref.length rc,.func (.func 222) #[] #[ptr lf 0,ptr rn 0]] w λu w'=>u= .tuple #[]/\
   ∃E G,z6L w' lf (SL succ ref) E/\z5x w' rn (UJ succ ref) G/\(∀k,E k->FL0 k\/w.heap.size<=k)/\(∀k,G k->FR0 k\/w.heap.size<=k)/\(∀k,E k->¬G k)/\Kp (λk=>FL0 k\/FR0 k) w w':=by
 refine py (e:=[(0,_),(1,_),(2,_)]) func221 O ntmps221 O O<|S7<|UW (α:=List Nat×Option Addr×Nat×List Nat×Option Addr×Nat×List Nat×List Nat) (succ,sa,sc,ref,ra,rc,[],[0]) (λx=>[(0,.slice x.2.1 x.1.length x.2.2.1),(1,.slice x.2.2.2.2.1 x.2.2.2.1.length x.2.2.2.2.2.1),(2,.func (.func 222) #[] #[ptr lf 0,ptr rn 0])]) (λx w'=>XM w succ ref lf rn FL0 FR0 x.1 x.2.1 x.2.2.1 x.2.2.2.1 x.2.2.2.2.1 x.2.2.2.2.2.1 x.2.2.2.2.2.2.1 x.2.2.2.2.2.2.2 w') (λx=>x.1.length+x.2.2.2.1.length) ?hI ?hround
 case hI=>exact Y
 case hround=>
  rintro⟨s,sa,sc,r,ra,rc,L,rs⟩ D hI N;dsimp only at hI
  try dsimp only
  have hg:=(Ext.refl D).drew;have c:=hg.drew;have d:=hI.ext c;have p0:([]:List Nat).length=0:=rfl;have j:=hI.okS.len;have i:=hI.okR.len;rcases s with _|⟨x,s⟩
  ·rcases r with _|⟨y,r⟩
   ·refine SX O<|UR SR O<|Ub O<|T0<|Sz O<|UR SR O<|Ub O<|T0<|Td O<|S5<|S9 O<|Sh O<|Tv func221 O ?_;have a:=hI.left;have g:=hI.fold;obtain⟨E,G,fs,n,l,f,H,I,q,v,A⟩:=hI.ex;rw[a,g];exact⟨_,O,O,E,G,by simpa[SL] using n,l,q,v,A,hI.kp⟩
   ·skip
    obtain⟨b2,B,rfl,C⟩:=hI.zbN;have Q:0<((y::r:List Nat).length:Int):=by rw[y03];omega
    have U:¬(((y::r).length:Int)=0):=ω
    refine SX O<|UR SR O<|Ub O<|T0<|Sz O<|UR SR O<|Ub O<|Ue<|Td O<|S5<|Sb O<|S6<|S7<|It ?_;refine Ux (λw'=>Ext D w') O<|St 0 O O hg<|S8 1 O (VQ SR O) hg<|S8 2 O (yeq O O) hg<|WW<|St 3 O O hg<|St 4 O O hg<|S8 5 O (VQ SR O) hg<|S8 6 O (ygt O O) hg<|WW<|St 7 O O hg<|qJ 8 O hg<|qJ 9 O hg<|qJ 10 O hg ?_;refine qJ 11 O hg<|qJ 12 O hg<|qJ 13 O hg<|qJ 14 O hg<|S8 15 O (Xg O O) hg<|S8 16 O (Xg O O) hg<|S8 17 O (UU O) hg<|qE<|It<|Ux (λw'=>Ext D w') O<|St 0 O O c<|S8 1 O (VQ SR O) c<|S8 2 O (yeq O O) c<|Xl ?_;refine St 3 O O c<|qJ 4 O c<|qJ 5 O c<|qJ 6 O c<|qJ 7 O c<|qJ 8 O c<|qJ 9 O c<|qJ 10 O c<|qJ 11 O c<|qJ 12 O c<|qJ 13 O c<|qJ 14 O c<|qJ 15 O c<|S8 16 O (YD O O) c ?_;refine S8 17 O (UU O) c (qE (SX O (S5 (S9 O (Sg O (Sz O (qV (Tm SR Sy O O ω) (qV (SQ U0 O O (C _ d.kp)) ?_))))))));obtain⟨E,G,fs,n,l,f,H,I,q,v,A⟩:=d.ex;refine Uk O O (Vc z9l O O) (z2J l ω f.ne (λm M=>by have:=f.le m M;omega) y false) ?_;rintro _ S⟨rfl,J⟩;refine qM O (Sf O (S5 (Sb O (Uw O (qV (z1P SR Sy O O (by rw[y03];omega) hI.clR) ?_)))));refine Sq O<|S2 ?_;exact(N ([],sa,sc,r,_,rc-1,L,UA rs false) _ (d.zgx (.inl ⟨O,O,O,O,λz T=>by simp at T⟩) ⟨n,l,f,H,I,q,v,A⟩ J) (by dsimp only;simp only[y03,y1e];omega)).qb
  ·rcases r with _|⟨y,r⟩
   ·obtain⟨b,off,rfl,o⟩:=hI.zcK
    skip
    have Q:0<((x::s:List Nat).length:Int):=by rw[y03];omega
    have V:¬(((x::s).length:Int)=0):=ω
    refine SX O<|UR SR O<|Ub O<|Ue<|Sf O<|Ua<|qS<|Uj O<|S5<|Sb O<|S6<|S7<|It<|Ux (λw'=>Ext D w') O ?_;refine St 0 O O hg<|S8 1 O (VQ SR O) hg<|S8 2 O (yeq O O) hg<|Xl<|St 3 O O hg<|qJ 4 O hg<|qJ 5 O hg<|qJ 6 O hg<|qJ 7 O hg<|qJ 8 O hg<|qJ 9 O hg<|qJ 10 O hg<|qJ 11 O hg<|qJ 12 O hg ?_;refine qJ 13 O hg<|qJ 14 O hg<|qJ 15 O hg<|S8 16 O (YD O O) hg<|S8 17 O (UU O) hg<|qE<|It<|Ux (λw'=>Ext D w') O<|St 0 O O c<|S8 1 O (VQ SR O) c<|S8 2 O (yeq O O) c<|WW<|St 3 O O c<|St 4 O O c ?_;refine S8 5 O (VQ SR O) c<|S8 6 O (ygt O O) c<|WW<|St 7 O O c<|qJ 8 O c<|qJ 9 O c<|qJ 10 O c<|qJ 11 O c<|qJ 12 O c<|qJ 13 O c<|qJ 14 O c<|S8 15 O (Xg O O) c<|S8 16 O (Xg O O) c<|S8 17 O (UU O) c ?_;refine qE (SX O (S5 (Sb O (TV O (qV (Tm SR Sy O O ω) (qV (SQ U0 O O (o _ d.kp)) (Sf O ?_)))))));obtain⟨E,G,fs,n,l,f,H,I,q,v,A⟩:=d.ex;have Z:=d.zjv;refine Uk O O (Vc z9l O O) (z6f n ω x true) ?_;rintro _ S⟨rfl,J⟩;refine S5 (Uw O (qV (z1P SR Sy O O (by rw[y03];omega) hI.clS) ?_));refine TR O<|Tt O<|S2 ?_;exact(N (s,_,sc-1,[],ra,rc,L++[x],rs) _ (d.zi7 ⟨n,l,f,H,I,q,v,A⟩ (λz T=>by simp at T) J) (by dsimp only;simp only[y03,y1e];omega)).qb
   ·rcases Nat.lt_trichotomy x y with K|K|K
    ·obtain⟨b,off,rfl,o⟩:=hI.zcK;obtain⟨b2,B,rfl,C⟩:=hI.zbN;have Q:0<((x::s:List Nat).length:Int):=by rw[y03];omega
     have W:0<((y::r).length:Int):=by rw[y03];omega
     have U:¬(((y::r).length:Int)=0):=ω
     have V:¬(((x::s).length:Int)=0):=ω
     refine SX O<|UR SR O<|Ub O<|Ue<|Sf O<|Ua<|qS<|Uj O<|S5<|Sb O<|S6<|S7<|It<|Ux (λw'=>Ext D w') O ?_;refine St 0 O O hg (S8 1 O (VQ SR O) hg (S8 2 O (yeq O O) hg (WW (St 3 O O hg (St 4 O O hg (S8 5 O (VQ SR O) hg (S8 6 O (ygt O O) hg (Xl (St 7 O O hg (St 8 O O hg (S8 9 O (Tm SR Sy O O ω) hg (St 11 O O hg (S8 12 O (Tm SR Sy O O ω) hg ?_)))))))))))));refine qT 10 O (λ_ h=>SQ U0 O O (o _ (hI.kp.trans h.kp))) hg<|qT 13 O (λ_ h=>SQ U0 O O (C _ (hI.kp.trans h.kp))) hg<|S8 14 O (yle O O) hg<|Xl<|S8 15 O (YD O O) hg<|S8 16 O (Xg O O) hg<|S8 17 O (UU O) hg<|qE<|It<|Ux (λw'=>Ext D w') O<|St 0 O O c<|S8 1 O (VQ SR O) c<|S8 2 O (yeq O O) c<|WW ?_;refine St 3 O O c (St 4 O O c (S8 5 O (VQ SR O) c (S8 6 O (ygt O O) c (Xl (St 7 O O c (St 8 O O c (S8 9 O (Tm SR Sy O O ω) c (St 11 O O c (S8 12 O (Tm SR Sy O O ω) c (qT 10 O (λ_ h=>SQ U0 O O (C _ (hI.kp.trans h.kp))) c (qT 13 O (λ_ h=>SQ U0 O O (o _ (hI.kp.trans h.kp))) c (S8 14 O (yle O O) c (WW ?_)))))))))))));refine S8 15 O (YD O O) c (S8 16 O (Xg O O) c (S8 17 O (UU O) c (qE (SX O (S5 (Sb O (TV O (qV (Tm SR Sy O O ω) (qV (SQ U0 O O (o _ d.kp)) (Sf O ?_))))))))));obtain⟨E,G,fs,n,l,f,H,I,q,v,A⟩:=d.ex;have Z:=d.zjv;refine Uk O O (Vc z9l O O) (z6f n ω x true) ?_;rintro _ S⟨rfl,J⟩;refine S5 (Uw O (qV (z1P SR Sy O O (by rw[y03];omega) hI.clS) ?_));refine TR O<|Tt O<|S2 ?_;exact(N (s,_,sc-1,y::r,_,rc,L++[x],rs) _ (d.zi7 ⟨n,l,f,H,I,q,v,A⟩ (z7H hI.okR.ris K) J) (by dsimp only;simp only[y03,y1e];omega)).qb
    ·obtain⟨b,off,rfl,o⟩:=hI.zcK;obtain⟨b2,B,rfl,C⟩:=hI.zbN;have Q:0<((x::s:List Nat).length:Int):=by rw[y03];omega
     have W:0<((y::r).length:Int):=by rw[y03];omega
     have U:¬(((y::r).length:Int)=0):=ω
     have V:¬(((x::s).length:Int)=0):=ω
     refine SX O<|UR SR O<|Ub O<|Ue<|Sf O<|Ua<|qS<|Uj O<|S5<|Sb O<|S6<|S7<|It<|Ux (λw'=>Ext D w') O ?_;refine St 0 O O hg (S8 1 O (VQ SR O) hg (S8 2 O (yeq O O) hg (WW (St 3 O O hg (St 4 O O hg (S8 5 O (VQ SR O) hg (S8 6 O (ygt O O) hg (Xl (St 7 O O hg (St 8 O O hg (S8 9 O (Tm SR Sy O O ω) hg (St 11 O O hg (S8 12 O (Tm SR Sy O O ω) hg ?_)))))))))))));refine qT 10 O (λ_ h=>SQ U0 O O (o _ (hI.kp.trans h.kp))) hg<|qT 13 O (λ_ h=>SQ U0 O O (C _ (hI.kp.trans h.kp))) hg<|S8 14 O (yle O O) hg<|Xl<|S8 15 O (YD O O) hg<|S8 16 O (Xg O O) hg<|S8 17 O (UU O) hg<|qE<|It<|Ux (λw'=>Ext D w') O<|St 0 O O c<|S8 1 O (VQ SR O) c<|S8 2 O (yeq O O) c<|WW ?_;refine St 3 O O c (St 4 O O c (S8 5 O (VQ SR O) c (S8 6 O (ygt O O) c (Xl (St 7 O O c (St 8 O O c (S8 9 O (Tm SR Sy O O ω) c (St 11 O O c (S8 12 O (Tm SR Sy O O ω) c (qT 10 O (λ_ h=>SQ U0 O O (C _ (hI.kp.trans h.kp))) c (qT 13 O (λ_ h=>SQ U0 O O (o _ (hI.kp.trans h.kp))) c (S8 14 O (yle O O) c (Xl ?_)))))))))))));refine S8 15 O (YD O O) c (S8 16 O (Xg O O) c (S8 17 O (UU O) c (qE (SX O (S5 (Sb O (TV O (qV (Tm SR Sy O O ω) (qV (SQ U0 O O (o _ d.kp)) (Sf O ?_))))))))));obtain⟨E,G,fs,n,l,f,H,I,q,v,A⟩:=d.ex;refine Uk O O (Vc z9l O O) (z2J l ω f.ne (λm M=>by have:=f.le m M;omega) x true) ?_;rintro _ S⟨rfl,J⟩;refine S5 (Uw O (qV (z1P SR Sy O O (by rw[y03];omega) hI.clS) ?_));refine TR O (S5 (Sb O (Uw O (qV (z1P SR Sy O O (by rw[y03];omega) hI.clR) ?_))));refine Sq O<|S2 ?_;subst K;exact(N (s,_,sc-1,r,_,rc-1,L,UA rs true) _ (d.zgx (.inr ⟨O,O,O,O⟩) ⟨n,l,f,H,I,q,v,A⟩ J) (by dsimp only;simp only[y03,y1e];omega)).qb
    ·obtain⟨b,off,rfl,o⟩:=hI.zcK;obtain⟨b2,B,rfl,C⟩:=hI.zbN;have Q:0<((x::s:List Nat).length:Int):=by rw[y03];omega
     have W:0<((y::r).length:Int):=by rw[y03];omega
     have U:¬(((y::r).length:Int)=0):=ω
     have V:¬(((x::s).length:Int)=0):=ω
     refine SX O<|UR SR O<|Ub O<|Ue<|Sf O<|Ua<|qS<|Uj O<|S5<|Sb O<|S6<|S7<|It<|Ux (λw'=>Ext D w') O ?_;refine St 0 O O hg (S8 1 O (VQ SR O) hg (S8 2 O (yeq O O) hg (WW (St 3 O O hg (St 4 O O hg (S8 5 O (VQ SR O) hg (S8 6 O (ygt O O) hg (Xl (St 7 O O hg (St 8 O O hg (S8 9 O (Tm SR Sy O O ω) hg (St 11 O O hg (S8 12 O (Tm SR Sy O O ω) hg ?_)))))))))))));refine qT 10 O (λ_ h=>SQ U0 O O (o _ (hI.kp.trans h.kp))) hg<|qT 13 O (λ_ h=>SQ U0 O O (C _ (hI.kp.trans h.kp))) hg<|S8 14 O (yle O O) hg<|WW<|S8 15 O (YD O O) hg<|S8 16 O (Xg O O) hg<|S8 17 O (UU O) hg<|qE<|It<|Ux (λw'=>Ext D w') O<|St 0 O O c<|S8 1 O (VQ SR O) c<|S8 2 O (yeq O O) c<|WW ?_;refine St 3 O O c (St 4 O O c (S8 5 O (VQ SR O) c (S8 6 O (ygt O O) c (Xl (St 7 O O c (St 8 O O c (S8 9 O (Tm SR Sy O O ω) c (St 11 O O c (S8 12 O (Tm SR Sy O O ω) c (qT 10 O (λ_ h=>SQ U0 O O (C _ (hI.kp.trans h.kp))) c (qT 13 O (λ_ h=>SQ U0 O O (o _ (hI.kp.trans h.kp))) c (S8 14 O (yle O O) c (Xl ?_)))))))))))));refine S8 15 O (YD O O) c (S8 16 O (Xg O O) c (S8 17 O (UU O) c (qE (SX O (S5 (S9 O (Sg O (Sz O (qV (Tm SR Sy O O ω) (qV (SQ U0 O O (C _ d.kp)) ?_))))))))));obtain⟨E,G,fs,n,l,f,H,I,q,v,A⟩:=d.ex;refine Uk O O (Vc z9l O O) (z2J l ω f.ne (λm M=>by have:=f.le m M;omega) y false) ?_;rintro _ S⟨rfl,J⟩;refine qM O (Sf O (S5 (Sb O (Uw O (qV (z1P SR Sy O O (by rw[y03];omega) hI.clR) ?_)))));refine Sq O<|S2 ?_;exact(N (x::s,_,sc,r,_,rc-1,L,UA rs false) _ (d.zgx (.inl ⟨O,O,O,O,z7H hI.okS.ris K⟩) ⟨n,l,f,H,I,q,v,A⟩ J) (by dsimp only;simp only[y03,y1e];omega)).qb
structure TkM (w:World)(t r:Nat)(s:Sa)(a:Nat):Prop where
 S4:Sk w t [ptr r 0,.bool false] 332
 rd:Xz w r s a
 ne:t≠r
def TkM.ext {r:Nat}(h:TkM w t r s a)(c:Ext w w'):TkM w' t r s a:=⟨c.S4 h.S4,⟨c.S4 h.rd.1,h.rd.2⟩,h.ne⟩
theorem Y1 {r:Nat}(h:TkM w t r s a)(c:Cd)(v n:Nat)(H:c.U8)(J:v<=c.most)(N:v<=n)(Q:n<9223372036854775808)(rest:List Bool)(G:(SA s).drop a=c.enc v++rest):
  SG prog 243 [ptr t 0,cdV c,I (n:Int)] w λu w'=>u=I (v:Int)/\TkM w' t r s (a+(c.enc v).length)/\Kp (λk=>k=r) w w':=by
 obtain⟨x,y,D⟩:∃x y,W5 c=[x,y]:=by cases c<;>exact⟨_,_,O⟩
 have o:cdV c= .agg [x,y].toArray:=by rw[cdV,D]
 have K:=c.z3W
 rw[o]
 refine py (e:=[(0,_),(1,_),(2,_)]) func243 O ntmps243 O O<|qN O<|Sd O O (UD O (cs:=[x,y]) O) ?_
 rintro _ w1⟨B,rfl,M,l,z⟩
 have f:=h.ext l
 have q:¬B=r:=by have:=h.rd.1.lt;omega
 have hg:=(Ext.refl w1).drew
 refine Sq O<|It<|Ux (λw'=>Kp (λk=>k=r) w1 w') O<|St 0 O O hg.kp<|S8 1 O (Tu O) hg.kp<|S8 2 O (SN zhH O) hg.kp<|qT 3 O (λ_ E=>Sc Ye O O (E.S4 f.S4 h.ne) O) hg.kp<|qT 4 O (λ_ h=>SO (news:=[x,y]) Vy O Un O ((h.S4 z q).cells (n:=2) O) O) hg.kp ?_
 rw[<-o]
 refine VF 5 O zeD O (z3c (⟨hg.S4 f.rd.1,f.rd.2⟩:Xz _ r s a) c v H J rest G) ?_
 rintro _ w2⟨rfl,C,d⟩
 refine⟨hg.kp.trans d,?_⟩
 have m:=hg.kp.trans d
 have A:=m.S4 f.S4 h.ne
 refine St 6 O O (hg.kp.trans d)<|S8 7 O (UY O O) (hg.kp.trans d)<|S8 8 O (UY O O) (hg.kp.trans d)<|S8 9 O (UU O) (hg.kp.trans d)<|S8 10 O (UU O) (hg.kp.trans d)<|qE<|SX O<|TK O<|Sz O<|Sf O<|qV (TM O U3 Va ω)<|Ub O<|T0<|Td O ?_
 refine Tt O<|SE O<|qV (T7 O Va U3 ω)<|Sq O<|SI.qb (e:=[(6,_)]) ?_
 refine S3 func243 O ?_
 exact⟨_,O,O,⟨A,C,h.ne⟩,l.kp.trans m⟩
theorem TA (q:Cd×Nat)(l:List (Cd×Nat)):SD (q::l)=q.1.enc q.2++SD l:=rfl
def VW {s e rest:List Bool}(h:s.drop a=e++rest):s.drop (a+e.length)=rest:=by
 rw[<-y0G,h,y34]
structure CpI (w:World)(t r:Nat)(s:Sa)(rs ref:List Nat)(rest:List Bool)(aE i:Nat)(rs2 ref2:List Nat)(sa:Option Addr)(sc:Nat)(v5:Value)(O_:List Nat)(a:Nat)(w':World):Prop where
 tk:TkM w' t r s a
 kp:Kp (λk=>k=r) w w'
 sl:Sl w' v5 42 1 O_.length (O_.map SV)
 fr:∀g,v5.ownBlock=some g->w.heap.size<=g
 len:rs.length=i+rs2.length
 rd:∀w2,Kp (λk=>k=r) w w2->Rd w2 (.slice sa ref2.length sc) 1 ref2.length (ref2.map SV)
 cl:ref2.length<=sc
 sum:rs2.sum<=ref2.length
 pos:∀m∈rs2.drop (1-min i 1),1<=m
 bits:(SA s).drop a=SD (TP i rs2)++rest
 z7W:a+(SD (TP i rs2)).length=aE
 eq:copyL true rs ref=O_++copyL (i%2==0) rs2 ref2
 tot:O_.length+ref2.length<=65536
theorem zdY (a:Addr):a.add 0=a:=by
 unfold Addr.add
 split<;>simp_all
def zhV {e:Env}{d:Option Nat}{t:TypeId}{pos:String}{g:Option (Nat×Bool)}{x u:Operand}{z:Value}{size bytes n:Nat}{a:Option Addr}{k:IntKind}{zb:Int}[zC:WX zb j](ht:P.underlying t=some (.slice el))(q:TI P el z size bytes)(o:look e x=some (.slice a n cap))
  (m:look e u=some (.int k zb)) (h:j<=cap):
  Y P e ⟨d,.slice t x none (some u) none,ty,pos,aft,g⟩ (.slice a j cap) w w:=fun ρ c=>by
 obtain⟨rfl⟩:=zC
 have f:=q.size (w:=w)
 have l:∀w,(Instr.sliceBound (.int k (j:Int)) cap .sliceAcap).run P w= .ok j w:=λw=>by rw[run_sliceBound _ _ _ _ _ ω ω];simp
 cases a with
 |none=>simp[execOp,c _ _ o,c _ _ m,Instr.sliceAt,run_underlying ht,Instr.slice,Instr.sliceBounds,l,f]
 |some a=>simp[execOp,c _ _ o,c _ _ m,Instr.sliceAt,run_underlying ht,Instr.slice,Instr.sliceBounds,l,f,zdY]
theorem z8x {r:Nat}(h:TkM w t r s a)(y:Sk w 1 (W5 .gamma) 314)(cS:¬1=r)(ref rs:List Nat)
  (eH:∀w2,Kp (λk=>k=r) w w2->Rd w2 (.slice sa ref.length sc) 1 ref.length (ref.map SV)) (fd:ref.length<=sc) (DY:ref.length<=65536) (hn:rs.length<=ref.length+1) (Y:rs.sum<=ref.length)
  (ja:∀m∈rs.drop 1,1<=m) (rest:List Bool) (U:(SA s).drop a=SD ((.gamma,rs.length)::TP 0 rs)++rest):
  SG prog 230 [ptr t 0,.slice sa ref.length sc] w λu w'=>Sl w' u 42 1 (copyL true rs ref).length ((copyL true rs ref).map SV)/\(∀g,u.ownBlock=some g->w.heap.size<=g)/\
   TkM w' t r s (a+(SD ((.gamma,rs.length)::TP 0 rs)).length)/\Kp (λk=>k=r) w w':=by
 have R:∀v:Nat,v<=65537->v<=Cd.most .gamma:=λv hv=>by simp only[Cd.most];omega
 refine py (e:=[(0,_),(1,_)]) func230 O ntmps230 O O<|qN O<|Up O<|TR O<|qV (SO (news:=[.int .u8 1,Su 0]) Vy O Un O (y.cells (n:=2) O) O)<|Sf O<|UR SR O ?_
 rw[TA,y06] at U
 rw[show((ref.length:Nat):Int)=((ref.length:Nat):Int) from rfl]
 refine Tr O<|Sr z65 O (Y1 h .gamma rs.length (ref.length+1) trivial (R _ ω) ω ω _ U) ?_
 rintro _ w1⟨rfl,p,aR⟩
 have bT:=VW U
 refine Sq O<|It<|TV O<|S5<|S7<|UW (α:=Nat×List Nat×List Nat×Option Addr×Nat×Value×List Nat×Nat) (0,rs,ref,sa,sc,.slice none 0 0,[],a+(Cd.enc .gamma rs.length).length) (λx=>[(0,ptr t 0),(1,.slice x.2.2.2.1 x.2.2.1.length x.2.2.2.2.1),(5,x.2.2.2.2.2.1),(6,I (rs.length:Int)),(15,I (rs.length:Int)),(16,I (x.1:Int))]) (λx w'=>CpI w t r s rs ref rest (a+(SD ((.gamma,rs.length)::TP 0 rs)).length) x.1 x.2.1 x.2.2.1 x.2.2.2.1 x.2.2.2.2.1 x.2.2.2.2.2.1 x.2.2.2.2.2.2.1 x.2.2.2.2.2.2.2 w') (λx=>x.2.1.length) ?hI ?hround
 case hI=>exact⟨p,aR,Sl.nil _ _ _,(λg h=>by cases h),ξ,eH,fd,Y,ja,bT,by rw[TA,y01];dsimp only;omega,rfl,by simp;omega⟩
 case hround =>
  rintro⟨i,f,c,H,o,z,B,a2⟩ w6 hI L;dsimp only at hI;have K:=hI.len;have zO:=hI.tot
  try dsimp only
  refine qN O<|TW O<|S5<|It<|So O (λh0=>?_)<|λh0=>?_
  ·obtain⟨n,f,rfl⟩:∃n l,f=n::l:=by
    cases f with
    |nil=>simp at K;omega
    |cons n l=>exact⟨n,l,O⟩
   have DZ:=hI.kp.S4 y cS;have Y:=hI.sum;rw[y0L] at Y;rw[y03] at K;have N:=hI.bits;rw[TP,TA,y06] at N
   have cy:min i 1<=n:=by
    have F:=hI.pos n;rcases y0D i with e| e
    ·subst e;simp
    ·rw[show 1-min i 1=0 by omega] at F;have:=F y0s;omega
   refine S6 (TZ (SE O (TR O (qV (SO (news:=[.int .u8 1,Su 0]) Vy O Un O (DZ.cells (n:=2) O) O) (Sf O (UR SR O (Sr z65 O (Y1 hI.tk .gamma (n-min i 1) c.length trivial (R _ ω) ω ω _ N) ?_)))))));rintro _ w7⟨rfl,q,M⟩;have P:=hI.kp.trans M;have cm:=q.S4;refine Sf O<|qV (ymi O O)<|Tr O ?_;rw[show((n-min i 1:Nat):Int)+min (i:Int) 1=(n:Int) by omega];refine Sq O (SX O (SC O (Sn Xy O (qV (Sc U4 O O cm O) (Sz O (Sf O (UR SR O (Ub O (T0 (Td O (Tt O (SX O (qV (z1k O O ω ω) ?_)))))))))))));rw[y2z];have Fi:=hI.rd _ P;have fT:=VW N;have X:=hI.kp.size;have KP:=M.size
   have vA:∀g,z.ownBlock=some g->¬g=r:=λg hg e=>by
    have p:=hI.fr g hg;have h2:=h.rd.1.lt;omega
   have j:=hI.sl.kp M vA
   have J:∀(d:Value)(A:World),Sl A d 42 1 (B++if i%2==0 then c.take n else []).length ((B++if i%2==0 then c.take n else []).map SV)->(∀g,d.ownBlock=some g->w.heap.size<=g)->Kp (λk=>z.ownBlock=some k) w7 A->
     CpI w t r s rs ref rest (a+(SD ((.gamma,rs.length)::TP 0 rs)).length) (i+1) f (c.drop n) (if o=n then H else H.map (·.add (n*1))) (o-n) d (B++if i%2==0 then c.take n else []) (a2+(Cd.enc .gamma (n-min i 1)).length) A:=by
    intro d A g1 g2 T;have a1:=q.S4.lt;have a0:=q.rd.1.lt;have kZ:=h.S4.lt;have eY:=h.rd.1.lt;have G:∀x,x<w.heap.size->¬z.ownBlock=some x:=λx hx e=>by have:=hI.fr x e;omega
    refine⟨⟨T.S4 q.S4 (G t kZ),⟨T.S4 q.rd.1 (G r eY),q.rd.2⟩,q.ne⟩,P.An T (λk V=> .inl (hI.fr k V)),g1,g2,ω,λw2 k=>?_,by rw[y08];have:=hI.cl;omega,by rw[y08];omega,?_,?_,?_,?_,?_⟩
    ·have:=XC (hI.rd w2 k) (i:=n) ω hI.cl;rw[<-y1S] at this;rw[y08];exact this
    ·intro m W;refine hI.pos m ?_;rw[show 1-min (i+1) 1=0 by omega,y0V] at W;rcases y0D i with e| e
     ·subst e;exact W
     ·rw[show 1-min i 1=0 by omega];exact y0u _ W
    ·exact fT
    ·have:=hI.z7W;rw[TP,TA,y01] at this;dsimp only at this;omega
    ·rw[hI.eq,copyL,y06]
     have:((i+1)%2==0)= !(i%2==0):=by
      rcases y20 i with e| e
      ·rw[e,show(i+1)%2=1 by omega];rfl
      ·rw[e,show(i+1)%2=0 by omega];rfl
     rw[this]
    ·rw[y01,y08];split
     ·rw[y0c];omega
     ·simp;omega
   refine U7 O<|S5<|So O (λQ=>?_)<|λQ=>?_
   ·have S:(i%2==0)=true:=by simp;omega
    simp only[S,if_true] at J;refine Sg O (Sz O (Sf O (qV (zhV SR Sy O O (by have:=hI.cl;omega)) ?_)));have MG:=hI.cl;refine Sd O O (pap SR Sy O ψ O O j (YT Fi (i:=n) ω) (by rw[<-y1g];exact z2j _) ω (by simp only[maxLen];omega)) ?_;rintro d A⟨D,C,b,-⟩;have j8:=D.oneV;refine Sq O (Sg O (Sz O (qV (z1P SR Sy O O ω hI.cl) (Sq O (S2 (Sg O (Tr O (Sf O (S5 ?_)))))))));rw[show c.length-n=(c.drop n).length by rw[y08]];refine(L (i+1,f,c.drop n,_,o-n,d,B++c.take n,_) _ (J d _ ?_ ?_ C) (by dsimp only;simp)).qb
    ·rw[y01,y0f,y0c,y0A ω,y1g];exact D
    ·intro g hg;rcases b g hg with e| e
     ·exact hI.fr g e
     ·omega
   ·have S:(i%2==0)=false:=by simp;omega
    simp only[S,y2r,if_false,y0q] at J;refine S6 (Sg O (Sz O (qV (z1P SR Sy O O ω hI.cl) (Sq O (S2 (Sg O (Tr O (Sf O (S5 ?_)))))))));rw[show c.length-n=(c.drop n).length by rw[y08]];exact(L (i+1,f,c.drop n,_,o-n,z,B,_) _ (J z _ j hI.fr (Kp.refl _ _)) (by dsimp only;simp)).qb
  ·have fM:f=[]:=y0x ω;subst fM;have R6:rs.length=i:=by rw[K];simp
   have Z:=hI.z7W;have E:=hI.eq;rw[copyL] at E;rw[show(SD (TP i [])).length=0 from rfl,y1b] at Z;refine Sh O (SX O (qV (z1k O O ω ω) ?_));rw[y2z];refine U7 O<|S5<|So O (λQ=>?_)<|λQ=>?_
   ·rw[if_pos (by simp;omega)] at E;refine Sg O (Sz O (Sd O O (pap SR Sy O ψ O O hI.sl (hI.rd _ hI.kp) (z2j _) ω (by simp only[maxLen];omega)) ?_));rintro d A⟨D,C,b,-⟩;have j8:=D.oneV;refine TR O<|Sq O<|S3 func230 O ?_;rw[E,<-Z];have X:=hI.kp.size;have G:∀x,x<w.heap.size->¬z.ownBlock=some x:=λx hx e=>by have:=hI.fr x e;omega
    refine⟨_,O,?_,λg hg=>?_,⟨C.S4 hI.tk.S4 (G t h.S4.lt),⟨C.S4 hI.tk.rd.1 (G r h.rd.1.lt),hI.tk.rd.2⟩,hI.tk.ne⟩,hI.kp.An C (λk V=> .inl (hI.fr k V))⟩
    ·rw[y01,y0f];exact D
    ·rcases b g hg with e| e
     ·exact hI.fr g e
     ·omega
   ·rw[if_neg (by simp;omega),y0q] at E;refine S6<|SE O<|Sq O<|S3 func230 O ?_;rw[E,<-Z];exact⟨_,O,hI.sl,hI.fr,hI.tk,hI.kp⟩
structure ReI (w w1:World)(t r:Nat)(s:Sa)(l:List Nat)(x k:Nat)(rest:List Bool)(aE b7:Nat)(dn l2:List Nat)(v9:Value)(a:Nat)(w':World):Prop where
 tk:TkM w' t r s a
 kp:Kp (λk=>k=t\/k=r) w w'
 b7:Sk w' b7 (W5 (.zeta k)) 314
 sl:Sl w' v9 42 1 dn.length (dn.map SV)
 fr:∀g,v9.ownBlock=some g->w1.heap.size<=g
 eq:l=dn++l2
 bits:(SA s).drop a=SD (Ti x k dn.getLast? l2)++rest
 z7W:a+(SD (Ti x k dn.getLast? l2)).length=aE
 siz:w1.heap.size<=w'.heap.size
theorem zaW {r:Nat}(h:TkM w t r s a)(x k:Nat)(hx:x<65536)(hk:1<=k/\k<=16)(l:List Nat)(Q:T4 l)(rest:List Bool)(hb:(SA s).drop a=SD (Ti x k none l)++rest):
  SG prog 232 [ptr t 0,I (x:Int),I (l.length:Int),cdV (.zeta k)] w λu w'=>Sl w' u 42 1 l.length (l.map SV)/\(∀g,u.ownBlock=some g->w.heap.size<=g)/\
   TkM w' t r s (a+(SD (Ti x k none l)).length)/\Kp (λk=>k=t\/k=r) w w':=by
 have ax:=Q.len
 have a1:=h.S4.lt
 have a0:=h.rd.1.lt
 refine py (e:=[(0,_),(1,_),(2,_),(3,_)]) func232 O ntmps232 O O<|qN O<|Sd O O (UD O (cs:=W5 (.zeta k)) O) ?_
 rintro _ w1⟨b7,rfl,lu,K,Z⟩
 have h1:=h.ext K
 have z1:=K.size
 have KQ:=Z.lt
 refine Up O<|Sq O<|It<|TV O<|S5<|S7<|UW (α:=List Nat×List Nat×Value×Nat) ([],l,.slice none 0 0,a) (λy=>[(0,ptr t 0),(1,I (x:Int)),(7,ptr b7 0),(9,y.2.2.1),(12,I (l.length:Int)),(13,I (y.1.length:Int))]) (λy w'=>ReI w w1 t r s l x k rest (a+(SD (Ti x k none l)).length) b7 y.1 y.2.1 y.2.2.1 y.2.2.2 w') (λy=>y.2.1.length) ?hI ?hround
 case hI=>exact⟨h1,K.kp,Z,Sl.nil _ _ _,(λg h=>by cases h),rfl,hb,rfl,y07 _⟩
 case hround =>
  rintro⟨d,f,v9,a2⟩ w6 hI ih;dsimp only at hI;have m:=hI.eq;have j:l.length=d.length+f.length:=by rw[m,y01]
  try dsimp only
  refine qN O<|TW O<|S5<|It<|So O (λp=>?_)<|λp=>?_
  ·obtain⟨y,f,rfl⟩:∃y q,f=y::q:=by
    cases f with
    |nil=>simp at j;omega
    |cons y q=>exact⟨y,q,O⟩
   rw[y03] at j;have X:y<65536:=Q.lt y (by rw[m];simp);have W:=hI.b7;have M:=hI.bits;have D:=hI.z7W
   have key:∃v:Nat,Ti x k d.getLast? (y::f)=(.zeta k,v)::Ti x k (d++[y]).getLast? f/\v<=262144/\(d=[]->v=zig ((y:Int)-x))/\∀u q,d=q++[u]->v+(u+1)=y:=by
    rw[List.getLast?_append,show [y].getLast? =some y from rfl,Option.some_or];rcases List.eq_nil_or_concat d with rfl|⟨q,u,rfl⟩
    ·refine⟨_,O,?_,λ_=>rfl,λu q e=>by simp at e⟩;have:=z32 (z:=(y:Int)-x) (n:=65536) ω ω;omega
    ·have hu:u<y:=by
      have hr:=Q.ris;rw[m] at hr;exact(y3c.1 hr).2.2 u ξ y ξ
     refine⟨y-u-1,?_,ω,λe=>by simp at e,λu2 q2 e=>?_⟩
     ·have H:(q.concat u).getLast? =some u:=ξ
      rw[H];rfl
     ·have e2:q++[u]=q2++[u2]:=by simpa using e
      have:=(List.append_inj' e2 O).2;simp at this;omega
   obtain⟨v,i,gY,MH,rP⟩:=key;rw[i,TA,y06] at M;rw[i,TA,y01] at D;refine S6 (TZ (SE O (TR O (qV (SO (news:=W5 (.zeta k)) Vy O Un O (W.cells (n:=2) O) O) (Sr z65 O (Y1 hI.tk (.zeta k) v 262144 hk (by simp only[Cd.most];omega) gY ω _ M) ?_)))));rintro _ U⟨rfl,C,G⟩;have jb:Kp (λk=>k=t\/k=r) w U:=hI.kp.trans (G.Se λk e=> .inr e);have fT:=VW M;have J:=hI.sl.kp G (λg hg e=>by have:=hI.fr g hg;omega);have P:=G.S4 W ω;have KP:=hI.siz;have DW:=G.size;refine Sq O<|SX O<|U7 O<|S5<|Tc (λb w'=>w'=U/\b=[(0,ptr t 0),(1,I (x:Int)),(7,ptr b7 0),(9,v9),(11,I (y:Int)),(12,I (l.length:Int)),(13,I (d.length:Int))]) ?oO<|λoO=>?oP
   case oO=>
    rintro b U⟨rfl,rfl⟩;have L:=C.S4;refine It<|TV O<|SC O<|Sn Xy O<|qV (Sc U4 O O L O)<|Sz O<|Sr zbT O (ZF y X _) ?_;rintro _ V⟨rfl,rfl⟩;refine qV (Vn O) (Td O (SC O (Sn Xy O (Sm O (TO Xh O O O L ξ) ?_))));rintro V⟨E,B⟩;replace E:Sk V t [ptr r 0,.bool false] 332:=E;refine qM O<|Sf O<|SC O<|Sn Xy O<|qV (Sc U4 O O E O)<|Tt O<|Sg O<|Sz O<|qV (z4r O U3 U0) ?_;rw[y0e (show y<4294967296 by omega)];refine Sd O O (pbs (cs:=[_]) (zs:=[Value.int .u32 0]) SR Sy O y00 O O O ψ) ?_;rintro _ w9⟨b9,rfl,⟨oU,o,cI⟩,zP⟩;have ov:∀g,v9.ownBlock=some g->¬g=t:=λg hg e=>by have:=hI.fr g hg;omega
    have mB:∀g,v9.ownBlock=some g->¬g=r:=λg hg e=>by have:=hI.fr g hg;omega
    have KS:=B.size;have KT:=o.size;refine Sd O O (pap SR Sy O ψ O O ((J.kp B ov).ext o) zP.rd (by intro c F;simp at F;subst F;rfl) ω (by simp only[maxLen];omega)) ?_;rintro S a3⟨Y,A,R,-⟩;have j8:=Y.oneV;refine Sq O<|S2<|Sg O<|Tr O<|Sf O<|S5 ?_;have T:∀g,g<w1.heap.size->¬v9.ownBlock=some g:=λg hg e=>by have:=hI.fr g e;omega
    rw[show(d.length:Int)+1=((d++[y]).length:Int) by simp];refine(ih (d++[y],f,S,a2+(Cd.enc (.zeta k) v).length) _ ⟨⟨A.S4 (o.S4 E) (T t ω),⟨A.S4 (o.S4 (B.S4 C.rd.1 (λe=>C.ne e.symm))) (T r ω),C.rd.2⟩,C.ne⟩,?_,?_,?_,?_,?_,fT,?_,?_⟩ (by dsimp only;simp)).qb
    ·exact((jb.trans (B.Se λk e=> .inl e)).trans o.kp).An A (λg hg=> .inl (by have:=hI.fr g hg;omega))
    ·exact A.S4 (o.S4 (B.S4 P ω)) (T b7 ω)
    ·rw[y01,y0f];exact Y
    ·intro g hg;rcases R g hg with e| e
     ·exact hI.fr g e
     ·omega
    ·rw[m,y06];rfl
    ·dsimp only at D⊢;omega
    ·have:=A.size;omega
   case oP=>
    refine So O (λH=>?_)<|λH=>?_
    ·have N:d=[]:=y0x ω;refine Uw O (qV (TM O U3 Va ω) (Sr zij O (zbU v ω _) ?_));rintro _ V⟨rfl,rfl⟩;rw[MH N,zbI];refine Sf O<|Tr O ?_;rw[show(y:Int)-x+x=(y:Int) by omega];refine Sq O ?_;exact(oO _ _ ⟨O,O⟩).qb
    ·obtain⟨q,u,rfl⟩:∃q u,d=q++[u]:=by
      rcases List.eq_nil_or_concat d with rfl|⟨q,u,rfl⟩
      ·exact absurd O H
      ·exact⟨q,u,ξ⟩
     have KU:=rP u q O;have vx:(q++[u]).length=q.length+1:=ξ
     rw[vx] at J;rcases J.shape with⟨-,p⟩|⟨g,c1,rfl,eJ⟩
     ·omega
     refine Sg O<|Sz O<|Sf O<|UO O ?_;rw[show(((q++[u]).length:Nat):Int)-1=(q.length:Int) by simp];refine qV (Tm SR Sy O O ω) (qV (SQ U0 O O (TF J.rd (show((q++[u]).map SV)[q.length]? =some (SV u) by simp))) ?_);refine qV (T7 O U0 U3 ω)<|Tr O<|Tr O ?_;rw[show(v:Int)+((u:Int)+1)=(y:Int) by omega];refine Sq O ?_;exact(oO _ _ ⟨O,O⟩).qb
  ·have N:f=[]:=y0x ω;subst N;refine Sh O<|SE O<|Sq O<|S3 func232 O ?_;rw[y0q] at m;subst m;have D:=hI.z7W;rw[show(SD (Ti x k l.getLast? [])).length=0 by cases l.getLast?<;>rfl,y1b] at D;rw[<-D];exact⟨_,O,hI.sl,λg hg=>by have:=hI.fr g hg;omega,hI.tk,hI.kp⟩
section
variable {b:Frame}{a:Act}{k:List Item}{cs:List Frame}{C:Cx}{e:Env}
def z9r {c:Code}:step P (lone (b.atR a (.code (.scope c)::k)) cs w)= .next (lone (b.atR a (.code c:: .inScope c::k)) cs w):=
 step_lone_go (by simp[stepG,stepG.exec,Frame.atR])
theorem z5W {c:Code}(h:SI C (.code c:: .inScope c::k) e w):SI C (.code (.scope c)::k) e w:=λa d=>z0b.step (λ_ _=>z9r) (h a d)
end
def loE:Option Nat->Nat
 |none=>0
 |some z=>z+2
def zbr:Option Nat->Int
 |none=>-1
 |some z=>(z:Int)
def Yb (x:Nat):Option Nat->Nat->Nat
 |none,y=>zig ((y:Int)-x)
 |some e,y=>y-e-2
theorem Vg (x least:Nat)(e:Option Nat)(p:Nat×Nat)(R:List (Nat×Nat)):Tf x least e (p::R)=(.gamma,Yb x e p.1)::(.gamma,p.2-least)::Tf x least (some (p.1+p.2-1)) R:=by
 cases e<;>rfl
structure LoI (w:World)(t r:Nat)(s:Sa)(R:List (Nat×Nat))(x least left:Nat)(rest:List Bool)(aE:Nat)(i:Nat)(R2:List (Nat×Nat))(e:Option Nat)(O_:List Nat)(v9:Value)(a:Nat)(w':World):Prop where
 tk:TkM w' t r s a
 kp:Kp (λk=>k=t\/k=r) w w'
 sl:Sl w' v9 42 1 O_.length (O_.map SV)
 fr:∀g,v9.ownBlock=some g->w.heap.size<=g
 len:R.length=i+R2.length
 eq:Ut R=O_++Ut R2
 ok:WA least (loE e) R2
 hi:∀p∈R2,p.1+p.2<=65536
 tot:O_.length+(Ut R2).length<=left
 bits:(SA s).drop a=SD (Tf x least e R2)++rest
 z7W:a+(SD (Tf x least e R2)).length=aE
 eb:zbr e<65536
theorem zdz {r:Nat}(h:TkM w t r s a)(hG:Sk w 1 (W5 .gamma) 314)(cS:¬1=r)(oV:¬1=t)(x left least:Nat)(hx:x<65536)(ub:left<=65536)(Fl:least<=64)(R:List (Nat×Nat))(hR:WA least 0 R)(MI:∀p∈R,p.1+p.2<=65536)
  (zO:(Ut R).length<=left) (MJ:R.length<=left) (rest:List Bool) (T:(SA s).drop a=SD ((.gamma,R.length)::Tf x least none R)++rest):
  SG prog 231 [ptr t 0,I (x:Int),I (left:Int),I (least:Int)] w λu w'=>Sl w' u 42 1 (Ut R).length ((Ut R).map SV)/\(∀g,u.ownBlock=some g->w.heap.size<=g)/\
   TkM w' t r s (a+(SD ((.gamma,R.length)::Tf x least none R)).length)/\Kp (λk=>k=t\/k=r) w w':=by
 have V:∀v:Nat,v<=262144->v<=Cd.most .gamma:=λv hv=>by simp only[Cd.most];omega
 have Z:=h.S4.lt
 have Y:=h.rd.1.lt
 refine py (e:=[(0,_),(1,_),(2,_),(3,_)]) func231 O ntmps231 O O<|TU O<|z5W<|qN O<|Up O<|Sq O<|It<|z5K<|SX O<|qV (SO (news:=[.int .u8 1,Su 0]) Vy O Un O (hG.cells (n:=2) O) O) ?_
 rw[TA,y06] at T
 refine Sf O<|Sr z65 O (Y1 h .gamma R.length left trivial (V _ ω) MJ ω _ T) ?_
 rintro _ w1⟨rfl,h1,aR⟩
 have bT:=VW T
 refine Sf O<|S5<|S7<|UW (α:=Nat×List (Nat×Nat)×Option Nat×List Nat×Value×Nat) (0,R,none,[],.slice none 0 0,a+(Cd.enc .gamma R.length).length) (λy=>[(0,ptr t 0),(1,I (x:Int)),(2,I (left:Int)),(3,I (least:Int)),(9,y.2.2.2.2.1),(10,I (zbr y.2.2.1)),(17,I (R.length:Int)),(18,I (y.1:Int))]) (λy w'=>LoI w t r s R x least left rest (a+(SD ((.gamma,R.length)::Tf x least none R)).length) y.1 y.2.1 y.2.2.1 y.2.2.2.1 y.2.2.2.2.1 y.2.2.2.2.2 w') (λy=>y.2.1.length) ?hI ?hround
 case hI=>exact⟨h1,aR.Se λk e=> .inr e,Sl.nil _ _ _,(λg h=>by cases h),ξ,rfl,hR,MI,by simpa using zO,bT,by rw[TA,y01];dsimp only;omega,(show(-1:Int)<65536 by decide)⟩
 case hround =>
  rintro⟨i,R2,e,m,v9,a2⟩ w6 hI ih;dsimp only at hI;have ax:=hI.len
  try dsimp only
  refine qN O<|TW O<|S5<|It<|So O (λh0=>?_)<|λh0=>?_
  ·obtain⟨⟨d,f⟩,R2,rfl⟩:∃p q,R2=p::q:=by
    cases R2 with
    |nil=>simp at ax;omega
    |cons p q=>exact⟨p,q,O⟩
   rw[y03] at ax;obtain⟨F,a1,a3,L⟩:loE e<=d/\1<=f/\least<=f/\WA least (d+f+1) R2:=hI.ok;have R7:d+f<=65536:=hI.hi (d,f) y0s;have iV:Ut ((d,f)::R2)=(List.range f).map (d+·)++Ut R2:=rfl;have ud:=hI.tot;have zQ:=hI.eq;rw[iV] at ud zQ;rw[y01,y0h,y16] at ud;have S:=hI.bits;have E:=hI.z7W;rw[Vg,TA,TA,y06,y06] at S;rw[Vg,TA,TA,y01,y01] at E;have Fn:=hI.eb
   have fJ:Yb x e d<=262144:=by
    cases e with
    |none=>have:=z32 (z:=(d:Int)-x) (n:=65537) ω ω;show zig _<=_;omega
    |some z=>show d-z-2<=_;omega
   have W:∀k,(λk=>k=t\/k=r) k->k<w.heap.size:=λk hk=>by rcases hk with e|e<;>omega
   have DZ:=hI.kp.S4 hG (λe=>by rcases e with e|e;exact oV e;exact cS e);refine S6 (TZ (SE O (qV (SO (news:=[.int .u8 1,Su 0]) Vy O Un O (DZ.cells (n:=2) O) O) (Sr z65 O (Y1 hI.tk .gamma (Yb x e d) 262144 trivial (V _ fJ) fJ ω _ S) ?_))));rintro _ X⟨rfl,h7,J⟩;have fT:=VW S;have KP:=hI.kp.size;have DW:=J.size;have KV:∀g,v9.ownBlock=some g->¬g=r:=λg hg e=>by have:=hI.fr g hg;omega
   have fS:=hI.sl.kp J KV;have jb:Kp (λk=>k=t\/k=r) w X:=hI.kp.trans (J.Se λk e=> .inr e);refine Sq O<|SX O<|TW O<|S5<|Tc (λe' w'=>w'=X/\e'=[(0,ptr t 0),(1,I (x:Int)),(2,I (left:Int)),(3,I (least:Int)),(9,v9),(11,I (d:Int)),(17,I (R.length:Int)),(18,I (i:Int))]) ?oO<|λoO=>?oP
   case oO =>
    rintro e' X⟨rfl,rfl⟩;have MK:=J.S4 DZ cS;refine SE O (qV (SO (news:=[.int .u8 1,Su 0]) Vy O Un O (MK.cells (n:=2) O) O) (Sf O (Sr z65 O (Y1 h7 .gamma (f-least) left trivial (V _ ω) ω ω _ fT) ?_)));rintro _ w8⟨rfl,D,M⟩;have vC:=VW fT;have KS:=M.size;have eI:=fS.kp M KV;have rQ:Kp (λk=>k=t\/k=r) w w8:=jb.trans (M.Se λk e=> .inr e);obtain⟨va,vc,rfl,-⟩:=hI.sl.rd.shape;refine Sf O<|Tr O ?_;rw[show((f-least:Nat):Int)+(least:Int)=(f:Int) by omega];have aZ:=D.S4;refine Sq O<|It<|TV O<|SC O<|Sn Xy O<|qV (Sc U4 O O aZ O)<|Sz O<|TW O<|T0<|Td O<|Sz O<|Sf O<|Tr O<|Ub O ?_;refine T0 (Td O (Sz O (Sz O (UR SR O (UO O (Ub O (T0 (Td O (SC O (Sn Xy O (Sm O (TO Xh O O O aZ ξ) ?_)))))))))));rintro w9⟨K,H⟩;replace K:Sk w9 t [ptr r 0,.bool false] 332:=K;refine qM O<|Sf O<|SC O<|Sn Xy O<|qV (Sc U4 O O K O) ?_;have KT:=H.size;have zP:=eI.kp H (λg hg e=>by have:=hI.fr g hg;omega);have h9:TkM w9 t r s (a2+(Cd.enc .gamma (Yb x e d)).length+(Cd.enc .gamma (f-least)).length):=⟨K,⟨H.S4 D.rd.1 (λe=>D.ne e.symm),D.rd.2⟩,D.ne⟩;have Fp:Kp (λk=>k=t\/k=r) w w9:=rQ.trans (H.Se λk e=> .inl e);refine Tt O<|It<|TV O<|S5<|S7<|UW (α:=Nat×Value) (0,.slice va m.length vc) (λy=>[(0,ptr t 0),(1,I (x:Int)),(2,I (left:Int)),(3,I (least:Int)),(9,y.2),(11,I (d:Int)),(12,I (f:Int)),(17,I (R.length:Int)),(18,I (i:Int)),(69,I (f:Int)),(70,I (y.1:Int))]) (λy w'=>TkM w' t r s (a2+(Cd.enc .gamma (Yb x e d)).length+(Cd.enc .gamma (f-least)).length)/\Kp (λk=>k=t\/k=r) w w'/\Sl w' y.2 42 1 (m.length+y.1) ((m++(List.range y.1).map (d+·)).map SV)/\(∀g,y.2.ownBlock=some g->w.heap.size<=g)/\y.1<=f) (λy=>f-y.1) ?hI ?hround
    case hI=>exact⟨h9,Fp,by simpa using zP,hI.fr,y02 _⟩
    case hround=>
     rintro⟨j,v⟩ a4 ⟨o,G,Q,B,hj⟩ U;dsimp only at o G Q B hj
     try dsimp only
     refine qN O<|TW O<|S5<|It<|So O (λmC=>?_)<|λmC=>?_
     ·refine S6<|TZ<|SE O<|Sq O<|Sg O<|Sz O<|Sf O<|Tr O<|qV (z4r O U3 U0) ?_;rw[show(d+j)%4294967296=d+j by omega];refine Sd O O (pbs (cs:=[_]) (zs:=[Value.int .u32 0]) SR Sy O y00 O O O ψ) ?_;rintro _ a5⟨a0,rfl,⟨jR,A,bq⟩,fw⟩;have ML:=G.size;have MM:=A.size;refine Sd O O (pap SR Sy O ψ O O (Q.ext A) fw.rd (by intro c hc;simp at hc;subst hc;rfl) ω (by simp only[maxLen];omega)) ?_;rintro P a6⟨W,N,Fr,-⟩;have j8:=W.oneV;refine Sq O<|S2<|Sg O<|Tr O<|Sf O<|S5 ?_;have zR:∀g,g<w.heap.size->¬v.ownBlock=some g:=λg hg e=>by have:=B g e;omega
      refine(U (j+1,P) _ ⟨⟨N.S4 (A.S4 o.S4) (zR t Z),⟨N.S4 (A.S4 o.rd.1) (zR r Y),o.rd.2⟩,o.ne⟩,(G.trans A.kp).An N (λg hg=> .inl (B g hg)),?_,λg hg=>?_,ω⟩ (by dsimp only;omega)).qb
      ·have l:(m++(List.range (j+1)).map (d+·)).map SV=(m++(List.range j).map (d+·)).map SV++[SV (d+j)]:=by
        rw[y0T];simp
       dsimp only;rw[l];exact W
      ·rcases Fr g hg with e| e
       ·exact B g e
       ·omega
     ·have MN:j=f:=ω
      subst MN;refine Sh O<|Sg O<|Sz O<|Tr O<|UO O<|Sq O<|S2<|Sg O<|Tr O<|Sf O<|S5 ?_;rw[show(d:Int)+j-1=zbr (some (d+j-1)) by show _=((d+j-1:Nat):Int);omega,show(i:Int)+1=((i+1:Nat):Int) by omega];refine(ih (i+1,R2,some (d+j-1),m++(List.range j).map (d+·),v,_) _ ⟨o,G,?_,B,by dsimp only;omega,by rw[zQ,y06],?_,λp hp=>hI.hi p (y0u _ hp),?_,vC,?_,?_⟩ (by dsimp only;simp)).qb
      ·dsimp only;rw[y01,y0h,y16];exact Q
      ·refine L.mono ?_;show d+j-1+2<=_;omega
      ·dsimp only;rw[y01,y0h,y16];omega
      ·dsimp only at E⊢;omega
      ·show((d+j-1:Nat):Int)<65536;omega
   case oP=>
    cases e with
    | none =>
      refine So O (λl=>?_)<|λl=>?_
      ·refine Uw O (qV (TM O U3 Va ω) (Sr zij O (zbU _ ω _) ?_));rintro _ w8⟨rfl,rfl⟩;rw[show Yb x none d=zig ((d:Int)-x) from rfl,zbI];refine Sf O<|Tr O ?_;rw[show(d:Int)-x+x=(d:Int) by omega];refine Sq O ?_;exact(oO _ _ ⟨O,O⟩).qb
      ·exact absurd ψ l
    | some z =>
      refine So O (λl=>?_)<|λl=>?_
      ·exact absurd l (by show ¬((z:Int)<0);omega)
      ·have hz:z+2<=d:=F;refine Sg O<|Sz O ?_;rw[show zbr (some z)=(z:Int) from rfl];refine Tr O<|Tr O ?_;rw[show Yb x (some z) d=d-z-2 from rfl,show((d-z-2:Nat):Int)+((z:Int)+2)=(d:Int) by omega];refine Sq O ?_;exact(oO _ _ ⟨O,O⟩).qb
  ·have fM:R2=[]:=y0x ω;subst fM;refine Sh O<|SE O<|Sq O<|S3 func231 O ?_;have et:=hI.eq;rw[show Ut []=[] from rfl,y0q] at et;have E:=hI.z7W;rw[show(SD (Tf x least e [])).length=0 by cases e<;>rfl,y1b] at E;rw[et,<-E];exact⟨_,O,hI.sl,hI.fr,hI.tk,hI.kp⟩
def Ud (p:Vz)(n r:Nat):List (Cd×Nat):=(.gamma,n)::if n=0 then [] else if 0<p.SH then [(.unary,r)] else []
theorem z6u {r:Nat}(h:Xz w r s a)(p:Vz)(T:p.U8)(b:Sk w 1 (W5 .gamma) 314)(g:Sk w 2 (W5 .unary) 314)(L:¬1=r)(Z:¬2=r)(n q:Nat)(hn:n<=65536)(hq:q<=p.SH)
  (t:n=0->q=0) (rest:List Bool) (x:(SA s).drop a=SD (Ud p n q)++rest):
  SG prog 210 [ptr r 0,lpV p] w λu w'=>u= .tuple #[.agg #[I (n:Int),I (q:Int)],I 0]/\Xz w' r s (a+(SD (Ud p n q)).length)/\Kp (λk=>k=r) w w':=by
 obtain⟨X,g2,g3,g4⟩:=id T
 have j:=h.1.lt
 have y:p.SH=0->q=0:=λe=>ω
 unfold Ud at x⊢
 rw[TA,y06] at x
 refine py (e:=[(0,_),(1,_)]) func210 O ntmps210 O O<|qN O<|Sd O O (UD O (cs:=lpC p) O) ?_
 rintro _ w1⟨b3,rfl,P,M,W⟩
 refine Sd O O (UK (cs:=[_,_]) VS O) ?_
 rintro _ w2⟨E,rfl,R,B,V⟩
 have z1:=M.size
 have z2:=B.size
 have N:=B.S4 W
 refine Sq O<|TZ<|SE O<|qV (T9 Ye O O)<|Sq O<|S9 O<|qN O<|qV (SO (news:=lpC p) z0l O XN O (N.cells (n:=3) O) O)<|Sr z89 O (XG p T w2) ?_
 rintro _ w3⟨rfl,C⟩
 refine TK O<|Vj O ?_
 have G:=(M.trans B).trans C
 have Q:Xz w3 r s a:=⟨G.S4 h.1,h.2⟩
 refine Tt O<|S2<|SE O<|Sr z26 O (XT Q) ?_
 rintro _ w4⟨rfl,rfl⟩
 refine TR O<|qV (SO (news:=[.int .u8 1,Su 0]) Vy O Un O ((G.S4 b).cells (n:=2) O) O)<|Sr zeD O (z3c Q .gamma n trivial (by simp only[Cd.most];omega) _ x) ?_
 rintro _ U⟨rfl,m,D⟩
 have l:=VW x
 have f:=D.S4 (C.S4 N) ω
 have A:=D.S4 (C.S4 V) ω
 have v:Kp (λk=>k=r) w U:=G.kp.trans D
 replace f:Sk U b3 [I (p.SH:Int),I (p.interval:Int),I (p.zeta:Int)] 276:=f
 refine Sf O<|Vk O<|Vj O<|Up O<|Sq O<|SX O<|U7 O<|Sf O ?_
 rcases y0D n with H|H
 ·have K:=t H;subst H;subst K;refine Sf O<|Ub O<|T0<|Uj O<|Sf O<|Ua<|qS<|Td O<|S5<|SI.qb (e:=[(0,_),(3,_),(4,_),(5,_),(6,_),(7,_),(8,_),(9,_),(37,_)]) ?_;refine VP O (SX O (TK O (Sz O (Ub O (T0 (Td O (Sz O (Sn Xd O (qV (Sc U3 O O f O) (qV (TM O U3 Va ω) (Ub O (T0 (Td O ?_)))))))))))));refine Tt O (SE O (qV (T7 O Va U3 ω) (Sf O (qV (T7 O Va U3 ω) (qV (VI (cs:=[_,_]) VS O zfb O O) (Sm O (Ta (news:=[I ((0:Nat):Int),I ((0:Nat):Int)]) VS O O O O A ξ) ?_))))));rintro o⟨c,d⟩;replace c:Sk o E [I ((0:Nat):Int),I ((0:Nat):Int)] 303:=c;refine Sq O<|SI.qb (e:=[(4,_),(5,_)]) ?_;refine SF func210 (.cell z5n O VS O (Sk.cells (n:=2) c (news:=[_,_]) O) O (.tmp O .nil)) ?_;rw[if_pos O,show(SD [((.gamma,0):Cd×Nat)]).length=(Cd.enc .gamma 0).length by rw[TA,y01];rfl];refine⟨_,O,O,⟨d.S4 m.1 ω,m.2⟩,v.An d (λk e=> .inl ω)⟩
 ·rw[if_neg ω] at l⊢;rcases y0D p.SH with J|J
  ·have K:=y J;subst K;rw[if_neg ω] at l⊢;refine Sf O<|Ub O<|Ue<|Uj O<|Sf O<|Sn Xd O<|qV (Sc U3 O O f O)<|Ub O<|T0<|Uj O<|S5<|SI.qb (e:=[(0,_),(3,_),(4,_),(5,_),(6,_),(7,_),(8,_),(9,_),(37,_)]) ?_;refine VP O (SX O (TK O (Sz O (Ub O (T0 (Td O (Sz O (Sn Xd O (qV (Sc U3 O O f O) (qV (TM O U3 Va ω) (Ub O (T0 (Td O ?_)))))))))))));refine Tt O (SE O (qV (T7 O Va U3 ω) (Sf O (qV (T7 O Va U3 ω) (qV (VI (cs:=[_,_]) VS O zfb O O) (Sm O (Ta (news:=[I (n:Int),I ((0:Nat):Int)]) VS O O O O A ξ) ?_))))));rintro o⟨c,d⟩;replace c:Sk o E [I (n:Int),I ((0:Nat):Int)] 303:=c;refine Sq O<|SI.qb (e:=[(4,_),(5,_)]) ?_;refine SF func210 (.cell z5n O VS O (Sk.cells (n:=2) c (news:=[_,_]) O) O (.tmp O .nil)) ?_;rw[show(SD [((.gamma,n):Cd×Nat)]).length=(Cd.enc .gamma n).length by rw[TA,y01];rfl];refine⟨_,O,O,⟨d.S4 m.1 ω,m.2⟩,v.An d (λk e=> .inl ω)⟩
  ·rw[if_pos J] at l⊢;rw[TA,y06] at l;refine Sf O<|Ub O<|Ue<|Uj O<|Sf O<|Sn Xd O<|qV (Sc U3 O O f O)<|Ub O<|Ue<|Uj O<|S5<|SI.qb (e:=[(0,_),(3,_),(4,_),(5,_),(6,_),(7,_),(8,_),(9,_),(37,_)]) ?_;refine Sb O (Uw O (qV (SO (news:=[.int .u8 0,Su 0]) Vy O Un O ((v.S4 g Z).cells (n:=2) O) O) (Sr zeD O (z3c m .unary q trivial (by simp only[Cd.most];omega) _ l) ?_)));rintro _ w6⟨rfl,S,z⟩;have i:=z.S4 f ω;have Y:=z.S4 A ω;have F:=v.trans z;refine Sf O (Vk O (To O (SX O (TK O (Sz O (Ub O (T0 (Td O (Sz O (Sn Xd O (qV (Sc U3 O O i O) (qV (TM O U3 Va ω) (Ub O ?_)))))))))))));refine T0<|Td O<|S5<|SI.qb (e:=[(0,_),(4,_),(5,_),(6,_),(7,_),(9,_),(56,_)]) ?_;refine VP O (SE O (qV (T7 O Va U3 ω) (Sf O (qV (T7 O Va U3 ω) (qV (VI (cs:=[_,_]) VS O zfb O O) (Sm O (Ta (news:=[I (n:Int),I (q:Int)]) VS O O O O Y ξ) ?_))))));rintro o⟨c,d⟩;replace c:Sk o E [I (n:Int),I (q:Int)] 303:=c;refine Sq O<|SF func210 (.cell z5n O VS O (Sk.cells (n:=2) c (news:=[_,_]) O) O (.tmp O .nil)) ?_;rw[show(SD [((.gamma,n):Cd×Nat),(.unary,q)]).length=(Cd.enc .gamma n).length+(Cd.enc .unary q).length by rw[TA,TA,y01,y01];rfl,<-y1B];refine⟨_,O,O,⟨d.S4 S.1 ω,S.2⟩,F.An d (λk e=> .inl ω)⟩
structure TX where
 SH:Nat
 chain:Nat
 interval:Nat
 zeta:Nat
 most:Nat
def TX.list (p:TX):Vz:=⟨p.SH,p.interval,p.zeta⟩
def TX.U8 (p:TX):Prop:=p.list.U8/\p.chain<=16/\p.most<=65536
def Z9 (p:TX):List Value:=[I (p.SH:Int),I (p.chain:Int),I (p.interval:Int),I (p.zeta:Int),I (p.most:Int)]
abbrev bpV (p:TX):Value:= .agg (Z9 p).toArray
theorem WH (p:TX)(w:World):SG prog 162 [bpV p] w λu w'=>u=lpV p.list/\Ext w w':=by
 refine py (e:=[(0,_)]) func162 O ntmps162 O O<|qN O<|Sd O O (UD O (cs:=Z9 p) O) ?_
 rintro _ w1⟨b1,rfl,r,f,l⟩
 refine Sd O O (UK (cs:=[_,_,_]) XN O) ?_
 rintro _ w2⟨b2,rfl,q,h,m⟩
 have c:=h.S4 l
 replace c:Sk w2 b1 [I (p.SH:Int),I (p.chain:Int),I (p.interval:Int),I (p.zeta:Int),I (p.most:Int)] 93:=c
 refine qM O<|Sn z4N O<|qV (Sc U3 O O c O)<|Sn zgq O<|qV (Sc U3 O O c O)<|Sn zgd O<|qV (Sc U3 O O c O)<|qV (VI (cs:=[_,_,_]) XN O zlp O O)<|Sm O (Ta (news:=[I (p.SH:Int),I (p.interval:Int),I (p.zeta:Int)]) XN O O O O m ξ) ?_
 rintro w3⟨d,o⟩
 replace d:Sk w3 b2 [I (p.SH:Int),I (p.interval:Int),I (p.zeta:Int)] 276:=d
 refine S5<|SF func162 (.cell z0l O XN O (Sk.cells (n:=3) d (news:=[_,_,_]) O) O .nil) ?_
 have v:=f.size
 exact⟨_,O,O,(f.trans h).An o (λk e=>ω)⟩
theorem z3z (p:TX)(m:p.U8)(w:World):SG prog 160 [bpV p] w λu w'=>u=I 0/\Ext w w':=by
 obtain⟨l,q,r⟩:=m
 refine py (e:=[(0,_)]) func160 O ntmps160 O O<|qN O<|Sd O O (UD O (cs:=Z9 p) O) ?_
 rintro _ w1⟨b1,rfl,o,d,k⟩
 have c:Sk w1 b1 [I (p.SH:Int),I (p.chain:Int),I (p.interval:Int),I (p.zeta:Int),I (p.most:Int)] 93:=k
 refine Sq O<|It<|qN O<|Sn z2V O<|qV (Sc U3 O O c O)<|TW O<|T0<|Sf O<|Sn z2V O<|qV (Sc U3 O O c O)<|Ub O<|T0<|Td O<|Sf O ?_
 refine Sn Xt O<|qV (Sc U3 O O c O)<|TW O<|T0<|Td O<|Sf O<|Sn Xt O<|qV (Sc U3 O O c O)<|Ub O<|T0<|Td O<|Tt O<|qN O<|qV (SO U93 O Vf O (Sk.cells (n:=5) c (news:=[_,_,_,_,_]) O) O) ?_
 refine Sr z4X O (WH p w1) ?_
 rintro _ w2⟨rfl,f⟩
 refine Sr z89 O (XG p.list l w2) ?_
 rintro _ w3⟨rfl,h⟩
 refine Sq O<|S3 func160 O ?_
 exact⟨_,O,O,(d.trans f).trans h⟩
structure Wm (w:World)(g n cap:Nat)(d:Array Nat):Prop where
 sl:Sl w (.slice (some ⟨g,0,none⟩) n cap) 42 1 n (d.toList.map SV)
 size:d.size=n
abbrev Ui (x y:Nat):Bool:=decide (x<y)
theorem z2h:Go.Sort.SWO Ui:=⟨λx=>by simp[Ui],λx y z c e=>by simp[Ui] at*;omega,λx y z c e=>by simp[Ui] at*;omega⟩
section
variable {n:Nat}{d:Array Nat}{S:Nat->Prop}
def Wm.ext (h:Wm w g n cap d)(k:Ext w w'):Wm w' g n cap d:=⟨h.sl.ext k,h.size⟩
def Wm.kp (h:Wm w g n cap d)(k:Kp S w w')(hg:¬S g):Wm w' g n cap d:=⟨h.sl.kp k (λc e=>by cases e;exact hg),h.size⟩
theorem Wm.get (h:Wm w g n cap d)(hi:i<n):w.cell? ⟨g,0+i*1,none⟩=some (SV d[i]!):=by
 have c:=h.size
 refine TF h.sl.rd ?_
 rw[y0l,y3E,y3M ω]
 rw[getElem!_pos d i ω]
 rfl
def Wm.jlt (h:Wm w g n cap d)(c:j<n):j<(d.toList.map SV).length:=by
 have e:=h.size
 rw[y0h,y2u];omega
theorem Wm.set (h:Wm w g n cap d)(c:Sl w' (.slice (some ⟨g,0,none⟩) n cap) 42 1 n ((d.toList.map SV).set (0+i*1) (SV y))):Wm w' g n cap (d.setIfInBounds i y):=by
 refine⟨?_,by rw[y3N,h.size]⟩
 rw[y3P,y1V]
 rw[show 0+i*1=i by omega] at c
 exact c
end
def zdX (x:Nat)(w:World):SG prog 269 [SV x] w λu w'=>u= .bool false/\w'=w:=by
 refine py (e:=[(0,_)]) func269 O ntmps269 O O<|qN O<|Up O<|Sz O<|TK O<|Sq O<|S3 func269 O ?_
 exact⟨_,O,by simp[TC],O⟩
def Vw (x y:Nat)(w:World):SG prog 260 [SV x,SV y] w λu w'=>u= .bool (Ui x y)/\w'=w:=by
 refine py (e:=[(0,_),(1,_)]) func260 O ntmps260 O O<|qN O<|TR O<|Sr znf O (zdX x w) ?_
 rintro _ w⟨rfl,rfl⟩
 refine Sf O<|Ua<|qS<|Td O<|Sz O<|Sf O<|TW O<|Td O<|Sq O<|S3 func260 O ?_
 exact⟨_,O,by simp[Ui,TC],O⟩
section
variable (a b j i:Nat)(d:Array Nat)
theorem z8W (e:a<j)(c:Ui d[j]! d[j-1]! =true):Go.Sort.insInner Ui a j d=Go.Sort.insInner Ui a (j-1) (Go.Sort.swp d j (j-1)):=by
 obtain⟨k,rfl⟩:∃k,j=k+1:=⟨j-1,ω⟩
 rw[Go.Sort.insInner]
 simp only[y1h] at c⊢
 rw[if_pos]
 rw[y0E];exact⟨by simpa using e,c⟩
theorem z1m (h:j<=a\/Ui d[j]! d[j-1]! =false):Go.Sort.insInner Ui a j d=d:=by
 cases j with
 |zero=>rw[Go.Sort.insInner]
 | succ k =>
   rw[Go.Sort.insInner];simp only[y1h] at h;rw[if_neg];intro c;rw[y0E] at c;rcases h with h| h
   ·have:=of_decide_eq_true c.1;omega
   ·rw[h] at c;cases c.2
theorem z90 (h:i<b):Go.Sort.insOuter Ui a b i d=Go.Sort.insOuter Ui a b (i+1) (Go.Sort.insInner Ui a i d):=by rw[Go.Sort.insOuter,if_pos h]
theorem z5E (h:¬i<b):Go.Sort.insOuter Ui a b i d=d:=by rw[Go.Sort.insOuter,if_neg h]
end
theorem z5A {n:Nat}{d:Array Nat}(h:Wm w g n cap d)(a b:Nat)(p:a<=b)(Y:b<=n)(Z:n<=65536):
  SG prog 254 [.slice (some ⟨g,0,none⟩) n cap,I (a:Int),I (b:Int)] w λu w'=>u= .tuple #[]/\Wm w' g n cap (Go.Sort.insertionSort Ui d a b)/\Kp (λk=>k=g) w w':=by
 refine py (e:=[(0,_),(1,_),(2,_)]) func254 O ntmps254 O O<|SE O<|Tr O<|Sq O<|S7<|UW (α:=Nat×Array Nat) (a+1,d) (λy=>[(0,.slice (some ⟨g,0,none⟩) n cap),(1,I (a:Int)),(2,I (b:Int)),(6,I (y.1:Int))]) (λy w'=>Wm w' g n cap y.2/\Kp (λk=>k=g) w w'/\Go.Sort.insOuter Ui a b y.1 y.2=Go.Sort.insertionSort Ui d a b/\a<y.1) (λy=>b-y.1) ?hI ?hround
 case hI=>exact⟨h,Kp.refl _ _,O,Nat.lt_succ_self a⟩
 case hround=>
  rintro⟨i,d4⟩ w4 ⟨z,v,f,T⟩ D;dsimp only at z v f T
  try dsimp only
  refine It<|TV O<|TW O<|S5<|So O (λG=>?_)<|λG=>?_
  ·rw[z90 _ _ _ _ ω] at f;refine S6<|TZ<|SE O<|Sq O<|S7<|UW (α:=Nat×Array Nat) (i,d4) (λy=>[(0,.slice (some ⟨g,0,none⟩) n cap),(1,I (a:Int)),(2,I (b:Int)),(6,I (i:Int)),(7,I (y.1:Int))]) (λy w'=>Wm w' g n cap y.2/\Kp (λk=>k=g) w w'/\Go.Sort.insInner Ui a y.1 y.2=Go.Sort.insInner Ui a i d4/\y.1<=i/\a<=y.1) (λy=>y.1) ?hI ?hround
   case hI=>exact⟨z,v,O,y07 _,by dsimp only;omega⟩
   case hround=>
    rintro⟨j,d5⟩ o ⟨q,r,l,W,E⟩ C;dsimp only at q r l W E
    try dsimp only
    have hg:=Ext.Sv o;rcases y0a a j with B|B
    ·refine It (It (Ux (λw'=>Ext o w') O (St 0 O O hg (St 1 O O hg (S8 2 O (ygt O O) hg (Xl (St 3 O O hg (St 4 O O hg (St 5 O O hg (S8 6 O (Tm SR Sy O O ω) hg (St 8 O O hg (St 9 O O hg (S8 10 O (ysb O O ω) hg ?_)))))))))))));rw[show(j:Int)-1=((j-1:Nat):Int) by omega];refine qT 7 O (λ_ h=>SQ U0 O O ((q.ext h).get (i:=j) ω)) hg (S8 11 O (Tm SR Sy O O ω) hg (qT 12 O (λ_ h=>SQ U0 O O ((q.ext h).get (i:=j-1) ω)) hg (VF 13 O ZW O (Vw _ _ _) ?_)));rintro _ s⟨rfl,rfl⟩;refine⟨hg,?_⟩;refine S8 14 O (YD O O) hg<|qE ?_;have m:=q.ext hg;refine TL O (λA=>?_)<|λA=>?_
     ·refine S6<|TZ ?_;have c:=Ext.Sv o.drew;refine Sx [15,17] (λw'=>Ext o.drew w') y00 O (Te 0 O O c (Te 1 O O c (Tz (i:=2) O y00 O O (λ_=>ymv O) c (Tz (i:=3) O y00 O O (λ_=>ymv O) c (Tz (i:=4) O y00 O O (λ_=>ysb O O ω) c (Te 5 O O c (Te 6 O O c (SB 7 O (ysb O O ω) c (Te 10 O O c (Te 11 O O c (SB 12 O (Tm SR Sy O O ω) c ?_)))))))))));rw[show(j:Int)-1=((j-1:Nat):Int) by omega];refine SB 8 O (Tm SR Sy O O ω) c (qL 9 O (λ_ h=>SQ U0 O O ((m.ext h).get (i:=j-1) ω)) c (qL 13 O (λ_ h=>SQ U0 O O ((m.ext h).get (i:=j) ω)) c (SB 14 O (Tm SR Sy O O ω) c (Wg [15] (qO 15 (SY (i:=15) O O (Vl Sy O O O (m.ext c).sl ((m.ext c).jlt ω)) ?_))))));rintro V⟨H,J⟩;refine⟨trivial,?_⟩;have x:=(m.ext c).set H;refine S8 16 O (Tm SR Sy O O ω) trivial (qO 17 (SY (i:=17) O O (Vl Sy O O O x.sl (x.jlt ω)) ?_));rintro U⟨M,N⟩;refine⟨trivial,?_⟩;have Q:=x.set M;have K:Kp (λk=>k=g) o.drew U:=c.kp.trans (J.trans N);refine qE<|S2<|Uw O<|UO O<|Sq O ?_;rw[show(j:Int)-1=((j-1:Nat):Int) by omega];refine(C (j-1,Go.Sort.swp d5 j (j-1)) _ ⟨Q,(r.trans hg.kp).trans K,?_,by dsimp only;omega,by dsimp only;omega⟩ (by dsimp only;omega)).qb;dsimp only;rw[<-l,z8W a j d5 B A]
     ·refine Sh O<|S2<|Uw O<|Tr O<|Sq O ?_;rw[z1m a j d5 (.inr (by simpa using A))] at l;refine(D (i+1,d5) _ ⟨m,r.trans hg.kp,?_,by dsimp only;omega⟩ (by dsimp only;omega)).qb;dsimp only;rw[l];exact f
    ·refine It<|It<|Ux (λw'=>Ext o w') O<|St 0 O O hg<|St 1 O O hg<|S8 2 O (ygt O O) hg<|WW<|St 3 O O hg<|qJ 4 O hg<|qJ 5 O hg<|qJ 6 O hg<|qJ 7 O hg<|qJ 8 O hg<|qJ 9 O hg ?_;refine qJ 10 O hg<|qJ 11 O hg<|qJ 12 O hg<|qJ 13 O hg<|S8 14 O (Xg O O) hg<|qE<|S9 O<|Sh O<|S2<|Uw O<|Tr O<|Sq O ?_;rw[z1m a j d5 (.inl B)] at l;refine(D (i+1,d5) _ ⟨q.ext hg,r.trans hg.kp,?_,by dsimp only;omega⟩ (by dsimp only;omega)).qb;dsimp only;rw[l];exact f
  ·rw[z5E _ _ _ _ ω] at f;refine Sh O<|Tv func254 O ?_;exact⟨_,O,O,f▸z,v⟩
section
variable (hi first root:Nat)(d:Array Nat)
def z3a:Nat:=if 2*root+1+1<hi&&Ui d[first+(2*root+1)]! d[first+(2*root+1)+1]! then 2*root+2 else 2*root+1
theorem zdf (h:hi<=2*root+1):Go.Sort.siftDown Ui hi first root d=d:=by rw[Go.Sort.siftDown,dif_pos h]
theorem zhl (h:2*root+1<hi):Go.Sort.siftDown Ui hi first root d=if Ui d[first+root]! d[first+z3a hi first root d]! then Go.Sort.siftDown Ui hi first (z3a hi first root d) (Go.Sort.swp d (first+root) (first+z3a hi first root d)) else d:=by
 rw[Go.Sort.siftDown,dif_neg ω]
 unfold z3a
 by_cases c:(decide (2*root+1+1<hi)&&Ui d[first+(2*root+1)]! d[first+(2*root+1)+1]!)=true
 ·rw[if_pos c,if_pos c];rw[y0E] at c;have e:2*root+2<hi:=of_decide_eq_true c.1;rw[dif_pos e];cases Ui d[first+root]! d[first+(2*root+2)]!<;>rfl
 ·rw[if_neg c,if_neg c];cases Ui d[first+root]! d[first+(2*root+1)]!<;>rfl
def zhU (h:2*root+1<hi):root<z3a hi first root d/\z3a hi first root d<hi:=by
 unfold z3a
 split
 ·rename_i c
  rw[y0E] at c;have e:2*root+2<hi:=of_decide_eq_true c.1;omega
 ·omega
end
theorem z9t {n:Nat}{d:Array Nat}(h:Wm w g n cap d)(lo hi first:Nat)(b:first+hi<=n)(V:lo<=65536)(j:n<=65536):
  SG prog 264 [.slice (some ⟨g,0,none⟩) n cap,I (lo:Int),I (hi:Int),I (first:Int)] w λu w'=>u= .tuple #[]/\Wm w' g n cap (Go.Sort.siftDown Ui hi first lo d)/\Kp (λk=>k=g) w w':=by
 refine py (e:=[(0,_),(1,_),(2,_),(3,_)]) func264 O ntmps264 O O<|SE O<|Sq O<|S7<|UW (α:=Nat×Array Nat) (lo,d) (λy=>[(0,.slice (some ⟨g,0,none⟩) n cap),(2,I (hi:Int)),(3,I (first:Int)),(8,I (y.1:Int))]) (λy w'=>Wm w' g n cap y.2/\Kp (λk=>k=g) w w'/\Go.Sort.siftDown Ui hi first y.1 y.2=Go.Sort.siftDown Ui hi first lo d/\y.1<=65536) (λy=>hi-y.1) ?hI ?hround
 case hI=>exact⟨h,Kp.refl _ _,O,V⟩
 case hround=>
  rintro⟨root,d4⟩ w4 ⟨v,x,m,E⟩ N;dsimp only at v x m E
  try dsimp only
  refine S7 (SE O (qV (Zf O O ω) (Tr O (Sq O (It (qN O ?_))))));rw[show 2*(root:Int)+1=((2*root+1:Nat):Int) by omega];refine Sz O<|WZ O<|S5<|So O (λG=>?_)<|λG=>?_
  ·rw[zdf _ _ _ _ ω] at m;refine Sh O<|Tv func264 O ?_;exact⟨_,O,O,m▸v,x⟩
  ·have J:=zhU hi first root d4 ω;rw[zhl _ _ _ _ ω] at m;have hg:=Ext.Sv w4;have C:=v.ext hg;refine S6<|It<|It ?_
   generalize z:(decide (2*root+1+1<hi)&&Ui d4[first+(2*root+1)]! d4[first+(2*root+1)+1]!)=sel
   refine Tc (λr w'=>r=[(0,.slice (some ⟨g,0,none⟩) n cap),(2,I (hi:Int)),(3,I (first:Int)),(8,I (root:Int)),(9,I ((2*root+1:Nat):Int)),(36,.bool sel)]/\w'=w4.drew) ?dq<|λdq=>?gU
   case dq=>
    rintro r W⟨rfl,rfl⟩;refine Tc (λr w'=>r=[(0,.slice (some ⟨g,0,none⟩) n cap),(2,I (hi:Int)),(3,I (first:Int)),(8,I (root:Int)),(9,I (z3a hi first root d4:Int))]/\w'=w4.drew) ?az<|λaz=>?eO
    case az=>
     rintro r W⟨rfl,rfl⟩
     generalize z3a hi first root d4=c at J m
     have l:=Ext.Sv w4.drew;have q:=C.ext l;refine It (It (Ux (λw'=>Ext w4.drew w') O (St 0 O O l (St 1 O O l (St 2 O O l (S8 3 O (YB O O ω) l (S8 4 O (Tm SR Sy O O ω) l (St 6 O O l (St 7 O O l (St 8 O O l (S8 9 O (YB O O ω) l (S8 10 O (Tm SR Sy O O ω) l (qT 5 O (λ_ h=>SQ U0 O O ((C.ext h).get (i:=first+root) ω)) l ?_)))))))))))));refine qT 11 O (λ_ h=>SQ U0 O O ((C.ext h).get (i:=first+c) ω)) l<|VF 12 O ZW O (Vw _ _ _) ?_;rintro _ Y⟨rfl,rfl⟩;refine⟨l,?_⟩;refine S8 13 O (zd7 O) l<|qE<|TL O (λo=>?_)<|λo=>?_
     ·rw[if_neg (by simpa using o)] at m;refine S3 func264 O ?_;exact⟨_,O,O,m▸q,x.trans (hg.trans l).kp⟩
     ·rw[if_pos (by simpa using o)] at m;refine S6<|It ?_;have f:=Ext.Sv w4.drew.drew;refine Sx [21,23] (λw'=>Ext w4.drew.drew w') y00 O (Te 0 O O f (Te 1 O O f (Te 2 O O f (SB 3 O (YB O O ω) f (Tz (i:=4) O y00 O O (λ_=>ymv O) f (Tz (i:=5) O y00 O O (λ_=>ymv O) f (Tz (i:=6) O y00 O O (λ_=>ymv O) f (Tz (i:=7) O y00 O O (λ_=>YB O O ω) f (Te 8 O O f (Te 9 O O f (Te 10 O O f (SB 11 O (YB O O ω) f (SB 12 O (Tm SR Sy O O ω) f ?_)))))))))))));refine Te 14 O O f (Te 15 O O f (Te 16 O O f (SB 17 O (YB O O ω) f (SB 18 O (Tm SR Sy O O ω) f (qL 13 O (λ_ h=>SQ U0 O O ((q.ext h).get (i:=first+c) ω)) f (qL 19 O (λ_ h=>SQ U0 O O ((q.ext h).get (i:=first+root) ω)) f (SB 20 O (Tm SR Sy O O ω) f (Wg [21] (qO 21 (SY (i:=21) O O (Vl Sy O O O (q.ext f).sl ((q.ext f).jlt ω)) ?_))))))))));rintro a⟨H,K⟩;refine⟨trivial,?_⟩;have A:=(q.ext f).set H;refine S8 22 O (Tm SR Sy O O ω) trivial (qO 23 (SY (i:=23) O O (Vl Sy O O O A.sl (A.jlt ω)) ?_));rintro Z⟨Q,S⟩;refine⟨trivial,?_⟩;have T:=A.set Q;have M:Kp (λk=>k=g) w4.drew.drew Z:=f.kp.trans (K.trans S);refine qE<|Uw O<|Sq O<|S2 ((N (c,Go.Sort.swp d4 (first+root) (first+c)) _ ⟨T,(x.trans (hg.trans l).kp).trans M,m,by dsimp only;omega⟩ (by dsimp only;omega)).qb)
    case eO=>
     refine TL O (λo=>?_)<|λo=>?_
     ·refine Uw O<|Tr O<|Sq O ?_;rw[show((2*root+1:Nat):Int)+1=(z3a hi first root d4:Int) by unfold z3a;rw[z,if_pos o];omega];exact(az _ _ ⟨O,O⟩).qb
     ·refine S6 ?_;rw[show((2*root+1:Nat):Int)=(z3a hi first root d4:Int) by unfold z3a;rw[z,if_neg (by rw[o];decide)]];exact(az _ _ ⟨O,O⟩).qb
   case gU=>
    rcases y0a (2*root+1+1) hi with D|D
    ·refine Ux (λw'=>Ext w4 w') O (St 0 O O hg (S8 1 O (YB O O ω) hg (St 2 O O hg (S8 3 O (ylt O O) hg (Xl (St 4 O O hg (St 5 O O hg (St 6 O O hg (St 7 O O hg (S8 8 O (YB O O ω) hg (S8 9 O (Tm SR Sy O O ω) hg (St 11 O O hg (St 12 O O hg ?_)))))))))))));refine St 13 O O hg (S8 14 O (YB O O ω) hg (S8 15 O (YB O O ω) hg (S8 16 O (Tm SR Sy O O ω) hg (qT 10 O (λ_ B=>SQ U0 O O ((v.ext B).get (i:=first+(2*root+1)) ω)) hg (qT 17 O (λ_ B=>SQ U0 O O ((v.ext B).get (i:=first+(2*root+1)+1) ω)) hg (VF 18 O ZW O (Vw _ _ _) ?_))))));rintro _ Y⟨rfl,rfl⟩;refine⟨hg,?_⟩;refine S8 19 O (YD O O) hg<|qE ?_;rw[show Ui d4[first+(2*root+1)]! d4[first+(2*root+1)+1]! =sel by rw[<-z,decide_eq_true D,Bool.true_and]];exact(dq _ _ ⟨O,O⟩).qb
    ·refine Ux (λw'=>Ext w4 w') O (St 0 O O hg (S8 1 O (YB O O ω) hg (St 2 O O hg (S8 3 O (ylt O O) hg (WW (St 4 O O hg (qJ 5 O hg (qJ 6 O hg (qJ 7 O hg (qJ 8 O hg (qJ 9 O hg (qJ 10 O hg (qJ 11 O hg ?_)))))))))))));refine qJ 12 O hg<|qJ 13 O hg<|qJ 14 O hg<|qJ 15 O hg<|qJ 16 O hg<|qJ 17 O hg<|qJ 18 O hg<|S8 19 O (Xg O O) hg<|qE ?_;have U:sel=false:=by rw[<-z,decide_eq_false ω,Bool.false_and]
     subst U;exact(dq _ _ ⟨O,O⟩).qb
theorem zfn {n:Nat}{d:Array Nat}(h:Wm w g n cap d)(a b:Nat)(j:a<b)(Z:b<=n)(B:n<=65536):
  SG prog 255 [.slice (some ⟨g,0,none⟩) n cap,I (a:Int),I (b:Int)] w λu w'=>u= .tuple #[]/\Wm w' g n cap (Go.Sort.heapSort Ui d a b)/\Kp (λk=>k=g) w w':=by
 refine py (e:=[(0,_),(1,_),(2,_)]) func255 O ntmps255 O O<|SE O<|Up O<|Up O<|Sz O<|UO O<|Sq O<|It<|qN O ?_
 rw[show(b:Int)-(a:Int)=((b-a:Nat):Int) by omega]
 refine Sf O<|UO O ?_
 rw[show((b-a:Nat):Int)-1=((b-a-1:Nat):Int) by omega]
 refine qV (yqu O O ω)<|Sq O<|S7 ?_
 rw[show((b-a-1:Nat):Int) / 2=(((b-a-1) / 2+1:Nat):Int)-1 by omega]
 have V:Go.Sort.heapSort Ui d a b=Go.Sort.heapPop Ui a (b-a) (Go.Sort.heapBuild Ui (b-a) a ((b-a-1) / 2+1) d):=rfl
 rw[V]
 refine UW (α:=Nat×Array Nat) ((b-a-1) / 2+1,d) (λy=>[(0,.slice (some ⟨g,0,none⟩) n cap),(6,I (a:Int)),(7,I 0),(8,I ((b-a:Nat):Int)),(9,I ((y.1:Int)-1))]) (λy w'=>Wm w' g n cap y.2/\Kp (λk=>k=g) w w'/\Go.Sort.heapBuild Ui (b-a) a y.1 y.2=Go.Sort.heapBuild Ui (b-a) a ((b-a-1) / 2+1) d/\y.1<=(b-a-1) / 2+1) (λy=>y.1) ?hI ?hround
 case hI=>exact⟨h,Kp.refl _ _,O,y07 _⟩
 case hround=>
  rintro⟨k,d4⟩ w4 ⟨x,o,q,E⟩ Q;dsimp only at x o q E
  try dsimp only
  refine SX O<|WZ O<|S5<|So O (λH=>?_)<|λH=>?_
  ·obtain⟨k,rfl⟩:∃k',k=k'+1:=⟨k-1,ω⟩;rw[show((k+1:Nat):Int)-1=(k:Int) by omega];refine S6 (TZ (Sg O (Sz O (Sz O (Sr ziF O (z9t x k (b-a) a ω ω B) ?_)))));rintro _ m⟨rfl,f,l⟩;refine S5<|S2<|Uw O<|UO O<|Sq O ?_;exact(Q (k,Go.Sort.siftDown Ui (b-a) a k d4) _ ⟨f,o.trans l,q,by dsimp only;omega⟩ (by dsimp only;omega)).qb
  ·have z:k=0:=ω
   subst z;rw[<-q];refine Sh O<|SE O<|UO O<|Sq O<|S7<|UW (α:=Nat×Array Nat) (b-a,d4) (λy=>[(0,.slice (some ⟨g,0,none⟩) n cap),(6,I (a:Int)),(7,I 0),(10,I ((y.1:Int)-1))]) (λy w'=>Wm w' g n cap y.2/\Kp (λk=>k=g) w w'/\Go.Sort.heapPop Ui a y.1 y.2=Go.Sort.heapPop Ui a (b-a) (Go.Sort.heapBuild Ui (b-a) a 0 d4)/\y.1<=b-a) (λy=>y.1) ?hI ?hround
   case hI=>exact⟨x,o,O,y07 _⟩
   case hround=>
    rintro⟨k,d5⟩ m ⟨f,l,v,G⟩ A;dsimp only at f l v G
    try dsimp only
    refine SX O<|WZ O<|S5<|So O (λJ=>?_)<|λJ=>?_
    ·obtain⟨k,rfl⟩:∃k',k=k'+1:=⟨k-1,ω⟩;rw[show((k+1:Nat):Int)-1=(k:Int) by omega];refine S6<|TZ<|It ?_;have c:=Ext.Sv m;refine Sx [17,19] (λw'=>Ext m w') y00 O (Te 0 O O (c) (Te 1 O O (c) (Tz (i:=2) O y00 O O (λ_=>ymv O) (c) (Tz (i:=3) O y00 O O (λ_=>ymv O) (c) (Tz (i:=4) O y00 O O (λ_=>ymv O) (c) (Tz (i:=5) O y00 O O (λ_=>YB O O ω) (c) (Te 6 O O (c) (Te 7 O O (c) (Te 8 O O (c) (SB 9 O (YB O O ω) c (SB 10 O (Tm SR Sy O O ω) c (Te 12 O O (c) (Te 13 O O (c) ?_)))))))))))));refine SB 14 O (Tm SR Sy O O ω) c (qL 11 O (λ_ h=>SQ U0 O O ((f.ext h).get (i:=a+k) ω)) c (qL 15 O (λ_ h=>SQ U0 O O ((f.ext h).get (i:=a) ω)) c (SB 16 O (Tm SR Sy O O ω) c (Wg [17] (qO 17 (SY (i:=17) O O (Vl Sy O O O (f.ext c).sl ((f.ext c).jlt ω)) ?_))))));rintro Y⟨K,M⟩;refine⟨trivial,?_⟩;have r:=(f.ext c).set K;refine S8 18 O (Tm SR Sy O O ω) trivial (qO 19 (SY (i:=19) O O (Vl Sy O O O r.sl (r.jlt ω)) ?_));rintro W⟨S,T⟩;refine⟨trivial,?_⟩;have U:=r.set S;have N:Kp (λk=>k=g) m W:=c.kp.trans (M.trans T);refine qE (Sg O (Sz O (Sz O (Sr ziF O (z9t U 0 k a ω ω B) ?_))));rintro _ p⟨rfl,C,D⟩;refine S5<|S2<|Uw O<|UO O<|Sq O ?_;exact(A (k,Go.Sort.siftDown Ui k a 0 (Go.Sort.swp d5 a (a+k))) _ ⟨C,(l.trans N).trans D,v,by dsimp only;omega⟩ (by dsimp only;omega)).qb
    ·have z:k=0:=ω
     subst z;rw[<-v];refine Sh O<|Tv func255 O ?_;exact⟨_,O,O,f,l⟩
theorem z8r {n:Nat}{d:Array Nat}(h:Wm w g n cap d)(a b:Nat)(K:a<b)(H:b<=n)(J:n<=65536):
  SG prog 258 [.slice (some ⟨g,0,none⟩) n cap,I (a:Int),I (b:Int)] w λu w'=>u= .tuple #[]/\Wm w' g n cap (Go.Sort.reverseRange d a b)/\Kp (λk=>k=g) w w':=by
 refine py (e:=[(0,_),(1,_),(2,_)]) func258 O ntmps258 O O<|SE O<|TR O<|UO O<|Sq O<|S7 ?_
 rw[show(b:Int)-1=((b-1:Nat):Int) by omega]
 refine UW (α:=Nat×Nat×Array Nat) (a,b-1,d) (λy=>[(0,.slice (some ⟨g,0,none⟩) n cap),(6,I (y.1:Int)),(7,I (y.2.1:Int))]) (λy w'=>Wm w' g n cap y.2.2/\Kp (λk=>k=g) w w'/\Go.Sort.reverseLoop y.1 y.2.1 y.2.2=Go.Sort.reverseRange d a b/\y.2.1<n) (λy=>y.2.1-y.1) ?hI ?hround
 case hI=>exact⟨h,Kp.refl _ _,O,by dsimp only;omega⟩
 case hround=>
  rintro⟨i,j,d4⟩ w4 ⟨f,m,l,q⟩ A;dsimp only at f m l q
  try dsimp only
  refine It<|TV O<|TW O<|S5<|So O (λr=>?_)<|λr=>?_
  ·rw[Go.Sort.reverseLoop,if_pos ω] at l;refine S6<|S7<|It ?_;have c:=Ext.Sv w4;refine Sx [13,15] (λw'=>Ext w4 w') y00 O (Te 0 O O c (Te 1 O O c (Tz (i:=2) O y00 O O (λ_=>ymv O) c (Tz (i:=3) O y00 O O (λ_=>ymv O) c (Te 4 O O c (Te 5 O O c (SB 6 O (Tm SR Sy O O ω) c (Te 8 O O c (Te 9 O O c (SB 10 O (Tm SR Sy O O ω) c (qL 7 O (λ_ h=>SQ U0 O O ((f.ext h).get (i:=j) ω)) c (qL 11 O (λ_ h=>SQ U0 O O ((f.ext h).get (i:=i) ω)) c (SB 12 O (Tm SR Sy O O ω) c ?_)))))))))))));refine Wg [13] (qO 13 (SY (i:=13) O O (Vl Sy O O O (f.ext c).sl ((f.ext c).jlt ω)) ?_));rintro G⟨v,x⟩;refine⟨trivial,?_⟩;have o:=(f.ext c).set v;refine S8 14 O (Tm SR Sy O O ω) trivial (qO 15 (SY (i:=15) O O (Vl Sy O O O o.sl (o.jlt ω)) ?_));rintro E⟨B,C⟩;refine⟨trivial,?_⟩;have D:=o.set B;have z:Kp (λk=>k=g) w4 E:=c.kp.trans (x.trans C);refine qE<|SE O<|Tr O<|Sq O<|Uw O<|UO O<|Sq O<|S2 ?_;rw[show(j:Int)-1=((j-1:Nat):Int) by omega];exact(A (i+1,j-1,Go.Sort.swp d4 i j) _ ⟨D,m.trans z,l,by dsimp only;omega⟩ (by dsimp only;omega)).qb
  ·rw[Go.Sort.reverseLoop,if_neg ω] at l;refine Sh O<|Tv func258 O ?_;exact⟨_,O,O,l▸f,m⟩
section
variable (p:Nat->Bool)(d:Array Nat)(i j:Nat)
theorem z2H (h:i<=j)(c:p d[i]! =true):Go.Sort.scanUp p d j i=Go.Sort.scanUp p d j (i+1):=by
 conv=>lhs;rw[Go.Sort.scanUp]
 rw[if_pos]
 rw[y0E];exact⟨by simpa using h,c⟩
theorem WN (h:j<i\/p d[i]! =false):Go.Sort.scanUp p d j i=i:=by
 rw[Go.Sort.scanUp,if_neg]
 intro c
 rw[y0E] at c
 rcases h with h| h
 ·have:=of_decide_eq_true c.1;omega
 ·rw[h] at c;cases c.2
theorem z0u (h:i<=j)(c:p d[j]! =true)(e:1<=j):Go.Sort.scanDown p d i j=Go.Sort.scanDown p d i (j-1):=by
 obtain⟨k,rfl⟩:∃k,j=k+1:=⟨j-1,ω⟩
 rw[Go.Sort.scanDown,if_pos]
 ·rfl
 ·rw[y0E];exact⟨by simpa using h,c⟩
theorem VD (h:j<i\/p d[j]! =false):Go.Sort.scanDown p d i j=j:=by
 cases j with
 |zero=>rw[Go.Sort.scanDown]
 | succ k =>
   rw[Go.Sort.scanDown,if_neg];intro c;rw[y0E] at c;rcases h with h| h
   ·have:=of_decide_eq_true c.1;omega
   ·rw[h] at c;cases c.2
end
def z19 (p:Nat->Bool)(d:Array Nat)(j:Nat):∀i:Nat,Go.Sort.scanUp p d j i<=max i (j+1):=λi=>by
 rw[Go.Sort.scanUp]
 split
 ·rename_i h
  rw[y0E] at h;have c:=of_decide_eq_true h.1;have:=z19 p d j (i+1);omega
 ·omega
 termination_by i=>j+1-i
theorem zga {n:Nat}{d:Array Nat}(h:Wm w g n cap d)(a b M:Nat)(zT:a<=M)(ue:M<b)(hb:b<=n)(hn:n<=65536):
  SG prog 262 [.slice (some ⟨g,0,none⟩) n cap,I (a:Int),I (b:Int),I (M:Int)] w λu w'=>u= .tuple #[I ((Go.Sort.partition Ui d a b M).1:Int),.bool (Go.Sort.partition Ui d a b M).2.1]/\Wm w' g n cap (Go.Sort.partition Ui d a b M).2.2/\Kp (λk=>k=g) w w':=by
 refine py (e:=[(0,_),(1,_),(2,_),(3,_)]) func262 O ntmps262 O O<|qN O<|To O<|It ?_
 have m:=Ext.Sv w
 refine Sx [13,15] (λw'=>Ext w w') y00 O<|Te 0 O O m<|Te 1 O O m<|Tz (i:=2) O y00 O O (λ_=>ymv O) m<|Tz (i:=3) O y00 O O (λ_=>ymv O) m<|Te 4 O O m<|Te 5 O O m<|SB 6 O (Tm SR Sy O O ω) m<|Te 8 O O m<|Te 9 O O m<|SB 10 O (Tm SR Sy O O ω) m<|qL 7 O (λ_ t=>SQ U0 O O ((h.ext t).get (i:=M) ω)) m<|qL 11 O (λ_ t=>SQ U0 O O ((h.ext t).get (i:=a) ω)) m<|SB 12 O (Tm SR Sy O O ω) m ?_
 refine Wg [13]<|qO 13<|SY (i:=13) O O (Vl Sy O O O (h.ext m).sl ((h.ext m).jlt ω)) ?_
 rintro a1⟨p8,p9⟩
 refine⟨trivial,?_⟩
 have F:=(h.ext m).set p8
 refine S8 14 O (Tm SR Sy O O ω) trivial<|qO 15<|SY (i:=15) O O (Vl Sy O O O F.sl (F.jlt ω)) ?_
 rintro w1⟨vG,vH⟩
 refine⟨trivial,?_⟩
 have W:=F.set vG
 have mD:Kp (λk=>k=g) w w1:=m.kp.trans (p9.trans vH)
 refine qE<|SE O<|Tr O<|Sf O<|UO O<|To O<|SI.qb (e:=[(0,_),(1,_),(8,_),(9,_),(10,_),(11,_)]) ?_
 refine TZ ?_
 unfold Go.Sort.partition
 dsimp only
 replace W:Wm w1 g n cap (Go.Sort.swp d a M):=W
 generalize Go.Sort.swp d a M=D at W
 rw[show(a:Int)+1=((a+1:Nat):Int) by omega,show(b:Int)-1=((b-1:Nat):Int) by omega]
 refine VB (λE w'=>E=[(0,.slice (some ⟨g,0,none⟩) n cap),(1,I (a:Int)),(10,I (((Go.Sort.scanUp (λx=>Ui x D[a]!) D (b-1) (a+1)):Nat):Int)),(11,I (((b-1):Nat):Int))]/\Wm w' g n cap D/\Kp (λk=>k=g) w1 w') ?rg<|λrg=>?FB
 case rg =>
  rintro E wA⟨rfl,MP,rg⟩;have DX:=Go.Sort.scanUp_ge (λx=>Ui x D[a]!) D (b-1) (a+1);have nh:=z19 (λx=>Ui x D[a]!) D (b-1) (a+1)
  generalize Go.Sort.scanUp (λx=>Ui x D[a]!) D (b-1) (a+1)=C at DX nh
  refine TZ<|VB (λE w'=>E=[(0,.slice (some ⟨g,0,none⟩) n cap),(1,I (a:Int)),(10,I ((C:Nat):Int)),(11,I (((Go.Sort.scanDown (λx=>!Ui x D[a]!) D C (b-1)):Nat):Int))]/\Wm w' g n cap D/\Kp (λk=>k=g) wA w') ?jT<|λjT=>?FA
  case jT =>
   rintro E U⟨rfl,J,jT⟩;have MQ:=Go.Sort.scanDown_le (λx=>!Ui x D[a]!) D C (b-1)
   generalize Go.Sort.scanDown (λx=>!Ui x D[a]!) D C (b-1)=Q at MQ
   refine It<|TV O<|Ub O<|S5<|So O (λh4=>?_)<|λh4=>?_
   ·rw[if_pos ω];refine It ?_;have o:=Ext.Sv U;refine Sx [13,15] (λw'=>Ext U w') y00 O (Te 0 O O o (Te 1 O O o (Tz (i:=2) O y00 O O (λ_=>ymv O) o (Tz (i:=3) O y00 O O (λ_=>ymv O) o (Te 4 O O o (Te 5 O O o (SB 6 O (Tm SR Sy O O ω) o (Te 8 O O o (Te 9 O O o (SB 10 O (Tm SR Sy O O ω) o (qL 7 O (λ_ h=>SQ U0 O O ((J.ext h).get (i:=a) ω)) o (qL 11 O (λ_ h=>SQ U0 O O ((J.ext h).get (i:=Q) ω)) o (SB 12 O (Tm SR Sy O O ω) o ?_)))))))))))));refine Wg [13] (qO 13 (SY (i:=13) O O (Vl Sy O O O (J.ext o).sl ((J.ext o).jlt ω)) ?_));rintro a2⟨zU,zV⟩;refine⟨trivial,?_⟩;have pa:=(J.ext o).set zU;refine S8 14 O (Tm SR Sy O O ω) trivial (qO 15 (SY (i:=15) O O (Vl Sy O O O pa.sl (pa.jlt ω)) ?_));rintro w2⟨Ft,Fu⟩;refine⟨trivial,?_⟩;have Fv:=pa.set Ft;have zW:Kp (λk=>k=g) U w2:=o.kp.trans (zV.trans Fu);refine qE<|SE O<|To O<|S3 func262 O ?_;exact⟨_,O,O,Fv,(mD.trans (rg.trans jT)).trans zW⟩
   ·rw [if_neg ω]; refine S6 (It ?_); have q := Ext.Sv U; refine Sx [13,15] (λw' => Ext U w') y00 O (Te 0 O O q (Te 1 O O q (Tz (i := 2) O y00 O O (λ_ => ymv O) q (Tz (i := 3) O y00 O O (λ_ => ymv O) q (Te 4 O O q (Te 5 O O q (SB 6 O (Tm SR Sy O O ω) q (Te 8 O O q (Te 9 O O q (SB 10 O (Tm SR Sy O O ω) q (qL 7 O (λ_ h=>SQ U0 O O ((J.ext h).get (i := Q) ω)) q (qL 11 O (λ_ h=>SQ U0 O O ((J.ext h).get (i := C) ω)) q (SB 12 O (Tm SR Sy O O ω) q ?_))))))))))))); refine Wg [13] (qO 13 (SY (i := 13) O O (Vl Sy O O O (J.ext q).sl ((J.ext q).jlt ω)) ?_)); rintro a3⟨zX, zY⟩; refine ⟨trivial, ?_⟩; have pd := (J.ext q).set zX; refine S8 14 O (Tm SR Sy O O ω) trivial (qO 15 (SY (i := 15) O O (Vl Sy O O O pd.sl (pd.jlt ω)) ?_)); rintro w3⟨Fw, Fx⟩; refine ⟨trivial, ?_⟩; have Fy := pd.set Fw; have zZ : Kp (λk => k = g) U w3 := q.kp.trans (zY.trans Fx); refine qE (SE O (Tr O (TR O (UO O (Sq O (SI.qb (e := [(0, _), (1, _), (10, _), (11, _)]) ?_)))))); refine TZ ?_; rw [show (Q : Int) - 1 = ((Q - 1 : Nat) : Int) by omega]; refine UW (α := Nat × Nat × Array Nat) (C + 1, Q - 1, Go.Sort.swp D C Q) (λy => [(0, .slice (some ⟨g, 0, none⟩) n cap), (1, I (a : Int)), (10, I (y.1 : Int)), (11, I (y.2.1 : Int))]) (λy w' => Wm w' g n cap y.2.2 /\ Kp (λk => k = g) w3 w' /\ Go.Sort.partLoop Ui a y.1 y.2.1 y.2.2 = Go.Sort.partLoop Ui a (C + 1) (Q - 1) (Go.Sort.swp D C Q) /\ (a < y.1 /\ y.1 <= n /\ y.2.1 < n)) (λy => y.2.1 + 1 - y.1) ?hI ?hround
    case hI=>exact⟨Fy,Kp.refl _ _,O,by dsimp only;omega⟩
    case hround =>
     rintro⟨i,j,d4⟩ w4 ⟨eK,Y,N,bI⟩ K;dsimp only at eK Y N bI;rw[Go.Sort.partLoop_eq] at N
     try dsimp only
     refine S7<|TZ<|VB (λE w'=>E=[(0,.slice (some ⟨g,0,none⟩) n cap),(1,I (a:Int)),(10,I (((Go.Sort.scanUp (λx=>Ui x d4[a]!) d4 j i):Nat):Int)),(11,I ((j:Nat):Int))]/\Wm w' g n cap d4/\Kp (λk=>k=g) w4 w') ?kO<|λkO=>?vJ
     case kO=>
      rintro E wC⟨rfl,Fz,kO⟩;have dF:=Go.Sort.scanUp_ge (λx=>Ui x d4[a]!) d4 j i;have oh:=z19 (λx=>Ui x d4[a]!) d4 j i
      generalize Go.Sort.scanUp (λx=>Ui x d4[a]!) d4 j i=G at N dF oh
      refine TZ<|VB (λE w'=>E=[(0,.slice (some ⟨g,0,none⟩) n cap),(1,I (a:Int)),(10,I ((G:Nat):Int)),(11,I (((Go.Sort.scanDown (λx=>!Ui x d4[a]!) d4 G j):Nat):Int))]/\Wm w' g n cap d4/\Kp (λk=>k=g) wC w') ?gE<|λgE=>?vI
      case gE=>
       rintro E V⟨rfl,H,gE⟩;have mC:=Go.Sort.scanDown_le (λx=>!Ui x d4[a]!) d4 G j
       generalize Go.Sort.scanDown (λx=>!Ui x d4[a]!) d4 G j=T at N mC
       refine It<|TV O<|Ub O<|S5<|So O (λh5=>?_)<|λh5=>?_
       ·rw[if_pos ω] at N;refine Sh O<|It ?_;rw[<-N];have rj:=((mD.trans (rg.trans jT)).trans zZ).trans (Y.trans (kO.trans gE));have c:=Ext.Sv V;refine Sx [13,15] (λw'=>Ext V w') y00 O (Te 0 O O c (Te 1 O O c (Tz (i:=2) O y00 O O (λ_=>ymv O) c (Tz (i:=3) O y00 O O (λ_=>ymv O) c (Te 4 O O c (Te 5 O O c (SB 6 O (Tm SR Sy O O ω) c (Te 8 O O c (Te 9 O O c (SB 10 O (Tm SR Sy O O ω) c (qL 7 O (λ_ h=>SQ U0 O O ((H.ext h).get (i:=a) ω)) c (qL 11 O (λ_ h=>SQ U0 O O ((H.ext h).get (i:=T) ω)) c (SB 12 O (Tm SR Sy O O ω) c ?_)))))))))))));refine Wg [13] (qO 13 (SY (i:=13) O O (Vl Sy O O O (H.ext c).sl ((H.ext c).jlt ω)) ?_));rintro a0⟨L,P⟩;refine⟨trivial,?_⟩;have S:=(H.ext c).set L;refine S8 14 O (Tm SR Sy O O ω) trivial (qO 15 (SY (i:=15) O O (Vl Sy O O O S.sl (S.jlt ω)) ?_));rintro w8⟨R,X⟩;refine⟨trivial,?_⟩;have lI:=S.set R;have s:Kp (λk=>k=g) V w8:=c.kp.trans (P.trans X);refine qE<|SE O<|To O<|S3 func262 O ?_;exact⟨_,O,O,lI,rj.trans s⟩
       ·rw[if_neg ω] at N;refine S6<|It ?_;have c:=Ext.Sv V;refine Sx [13,15] (λw'=>Ext V w') y00 O (Te 0 O O c (Te 1 O O c (Tz (i:=2) O y00 O O (λ_=>ymv O) c (Tz (i:=3) O y00 O O (λ_=>ymv O) c (Te 4 O O c (Te 5 O O c (SB 6 O (Tm SR Sy O O ω) c (Te 8 O O c (Te 9 O O c (SB 10 O (Tm SR Sy O O ω) c (qL 7 O (λ_ h=>SQ U0 O O ((H.ext h).get (i:=T) ω)) c (qL 11 O (λ_ h=>SQ U0 O O ((H.ext h).get (i:=G) ω)) c (SB 12 O (Tm SR Sy O O ω) c ?_)))))))))))));refine Wg [13] (qO 13 (SY (i:=13) O O (Vl Sy O O O (H.ext c).sl ((H.ext c).jlt ω)) ?_));rintro a0⟨L,P⟩;refine⟨trivial,?_⟩;have S:=(H.ext c).set L;refine S8 14 O (Tm SR Sy O O ω) trivial (qO 15 (SY (i:=15) O O (Vl Sy O O O S.sl (S.jlt ω)) ?_));rintro w8⟨R,X⟩;refine⟨trivial,?_⟩;have lI:=S.set R;have s:Kp (λk=>k=g) V w8:=c.kp.trans (P.trans X);refine qE<|SE O<|Tr O<|Sq O<|Uw O<|UO O<|Sq O<|S2 ?_;rw[show(T:Int)-1=((T-1:Nat):Int) by omega];exact(K (G+1,T-1,Go.Sort.swp d4 G T) _ ⟨lI,(Y.trans (kO.trans gE)).trans s,N,by dsimp only;omega⟩ (by dsimp only;omega)).qb
      case vI=>
       refine UW (α:=Nat) j (λr=>[(0,.slice (some ⟨g,0,none⟩) n cap),(1,I (a:Int)),(10,I ((G:Nat):Int)),(11,I ((r:Nat):Int))]) (λr w'=>Wm w' g n cap d4/\Kp (λk=>k=g) wC w'/\Go.Sort.scanDown (λx=>!Ui x d4[a]!) d4 G r=Go.Sort.scanDown (λx=>!Ui x d4[a]!) d4 G (j)/\r<n) (λr=>r) ?hI ?hround
       case hI=>exact⟨Fz,Kp.refl _ _,O,ω⟩
       case hround=>
        rintro r B⟨l,v,f,Z⟩ K
        try dsimp only
        have hg:=Ext.Sv B;rcases y0a r G with A|A
        ·refine It<|It<|Ux (λw'=>Ext B w') O<|St 0 O O hg<|St 1 O O hg<|S8 2 O (yle O O) hg<|WW<|St 3 O O hg<|qJ 4 O hg<|qJ 5 O hg<|qJ 6 O hg<|qJ 7 O hg<|qJ 8 O hg<|qJ 9 O hg ?_;refine qJ 10 O hg<|qJ 11 O hg<|qJ 12 O hg<|qJ 13 O hg<|S8 14 O (Xg O O) hg<|qE<|S9 O<|Sh O ?_;rw[VD _ _ _ _ (.inl A)] at f;subst f;exact(gE _ _ ⟨O,l.ext hg,v.trans hg.kp⟩).qb
        ·refine It (It (Ux (λw'=>Ext B w') O (St 0 O O hg (St 1 O O hg (S8 2 O (yle O O) hg (Xl (St 3 O O hg (St 4 O O hg (St 5 O O hg (S8 6 O (Tm SR Sy O O ω) hg (St 8 O O hg (St 9 O O hg (S8 10 O (Tm SR Sy O O ω) hg ?_)))))))))))));refine qT 7 O (λ_ h=>SQ U0 O O ((l.ext h).get (i:=r) ω)) hg (qT 11 O (λ_ h=>SQ U0 O O ((l.ext h).get (i:=a) ω)) hg (VF 12 O ZW O (Vw _ _ _) ?_));rintro _ w6⟨rfl,rfl⟩;refine⟨hg,?_⟩;refine S8 13 O (zd7 O) hg<|S8 14 O (YD O O) hg<|qE<|TL O (λz=>?_)<|λz=>?_
         ·rw[z0u _ _ _ _ A (by simpa[Ui] using z) ω] at f;refine S6<|S7<|Uw O<|UO O<|Sq O<|S2 ?_;rw[show(r:Int)-1=((r-1:Nat):Int) by omega];exact(K (r-1) _ ⟨l.ext hg,v.trans hg.kp,f,ω⟩ ω).qb
         ·rw[VD _ _ _ _ (.inr (by simpa[Ui] using z))] at f;refine Sh O ?_;subst f;exact(gE _ _ ⟨O,l.ext hg,v.trans hg.kp⟩).qb
     case vJ=>
      refine UW (α:=Nat) i (λr=>[(0,.slice (some ⟨g,0,none⟩) n cap),(1,I (a:Int)),(10,I ((r:Nat):Int)),(11,I ((j:Nat):Int))]) (λr w'=>Wm w' g n cap d4/\Kp (λk=>k=g) w4 w'/\Go.Sort.scanUp (λx=>Ui x d4[a]!) d4 j r=Go.Sort.scanUp (λx=>Ui x d4[a]!) d4 j (i)/\i<=r/\r<=n+1) (λr=>j+1-r) ?hI ?hround
      case hI=>exact⟨eK,Kp.refl _ _,O,y07 _,ω⟩
      case hround=>
       rintro r B⟨l,v,f,Z⟩ K
       try dsimp only
       have hg:=Ext.Sv B;rcases y0a j r with A|A
       ·refine It<|It<|Ux (λw'=>Ext B w') O<|St 0 O O hg<|St 1 O O hg<|S8 2 O (yle O O) hg<|WW<|St 3 O O hg<|qJ 4 O hg<|qJ 5 O hg<|qJ 6 O hg<|qJ 7 O hg<|qJ 8 O hg<|qJ 9 O hg ?_;refine qJ 10 O hg<|qJ 11 O hg<|qJ 12 O hg<|S8 13 O (Xg O O) hg<|qE<|S9 O<|Sh O ?_;rw[WN _ _ _ _ (.inl A)] at f;subst f;exact(kO _ _ ⟨O,l.ext hg,v.trans hg.kp⟩).qb
       ·refine It (It (Ux (λw'=>Ext B w') O (St 0 O O hg (St 1 O O hg (S8 2 O (yle O O) hg (Xl (St 3 O O hg (St 4 O O hg (St 5 O O hg (S8 6 O (Tm SR Sy O O ω) hg (St 8 O O hg (St 9 O O hg (S8 10 O (Tm SR Sy O O ω) hg ?_)))))))))))));refine qT 7 O (λ_ h=>SQ U0 O O ((l.ext h).get (i:=r) ω)) hg (qT 11 O (λ_ h=>SQ U0 O O ((l.ext h).get (i:=a) ω)) hg (VF 12 O ZW O (Vw _ _ _) ?_));rintro _ w6⟨rfl,rfl⟩;refine⟨hg,?_⟩;refine S8 13 O (YD O O) hg<|qE<|TL O (λz=>?_)<|λz=>?_
        ·rw[z2H _ _ _ _ A (by simpa[Ui] using z)] at f;refine S6<|S7<|Uw O<|Tr O<|Sq O<|S2 ?_;exact(K (r+1) _ ⟨l.ext hg,v.trans hg.kp,f,ω,ω⟩ ω).qb
        ·rw[WN _ _ _ _ (.inr (by simpa[Ui] using z))] at f;refine Sh O ?_;subst f;exact(kO _ _ ⟨O,l.ext hg,v.trans hg.kp⟩).qb
  case FA=>
   refine UW (α:=Nat) (b-1) (λr=>[(0,.slice (some ⟨g,0,none⟩) n cap),(1,I (a:Int)),(10,I ((C:Nat):Int)),(11,I ((r:Nat):Int))]) (λr w'=>Wm w' g n cap D/\Kp (λk=>k=g) wA w'/\Go.Sort.scanDown (λx=>!Ui x D[a]!) D C r=Go.Sort.scanDown (λx=>!Ui x D[a]!) D C (b-1)/\r<n) (λr=>r) ?hI ?hround
   case hI=>exact⟨MP,Kp.refl _ _,O,ω⟩
   case hround=>
    rintro r B⟨l,v,f,Z⟩ K
    try dsimp only
    have hg:=Ext.Sv B;rcases y0a r C with A|A
    ·refine It<|It<|Ux (λw'=>Ext B w') O<|St 0 O O hg<|St 1 O O hg<|S8 2 O (yle O O) hg<|WW<|St 3 O O hg<|qJ 4 O hg<|qJ 5 O hg<|qJ 6 O hg<|qJ 7 O hg<|qJ 8 O hg<|qJ 9 O hg ?_;refine qJ 10 O hg<|qJ 11 O hg<|qJ 12 O hg<|qJ 13 O hg<|S8 14 O (Xg O O) hg<|qE<|S9 O<|Sh O ?_;rw[VD _ _ _ _ (.inl A)] at f;subst f;exact(jT _ _ ⟨O,l.ext hg,v.trans hg.kp⟩).qb
    ·refine It (It (Ux (λw'=>Ext B w') O (St 0 O O hg (St 1 O O hg (S8 2 O (yle O O) hg (Xl (St 3 O O hg (St 4 O O hg (St 5 O O hg (S8 6 O (Tm SR Sy O O ω) hg (St 8 O O hg (St 9 O O hg (S8 10 O (Tm SR Sy O O ω) hg ?_)))))))))))));refine qT 7 O (λ_ h=>SQ U0 O O ((l.ext h).get (i:=r) ω)) hg (qT 11 O (λ_ h=>SQ U0 O O ((l.ext h).get (i:=a) ω)) hg (VF 12 O ZW O (Vw _ _ _) ?_));rintro _ w6⟨rfl,rfl⟩;refine⟨hg,?_⟩;refine S8 13 O (zd7 O) hg<|S8 14 O (YD O O) hg<|qE<|TL O (λz=>?_)<|λz=>?_
     ·rw[z0u _ _ _ _ A (by simpa[Ui] using z) ω] at f;refine S6<|S7<|Uw O<|UO O<|Sq O<|S2 ?_;rw[show(r:Int)-1=((r-1:Nat):Int) by omega];exact(K (r-1) _ ⟨l.ext hg,v.trans hg.kp,f,ω⟩ ω).qb
     ·rw[VD _ _ _ _ (.inr (by simpa[Ui] using z))] at f;refine Sh O ?_;subst f;exact(jT _ _ ⟨O,l.ext hg,v.trans hg.kp⟩).qb
 case FB=>
  refine UW (α:=Nat) (a+1) (λr=>[(0,.slice (some ⟨g,0,none⟩) n cap),(1,I (a:Int)),(10,I ((r:Nat):Int)),(11,I (((b-1):Nat):Int))]) (λr w'=>Wm w' g n cap D/\Kp (λk=>k=g) w1 w'/\Go.Sort.scanUp (λx=>Ui x D[a]!) D (b-1) r=Go.Sort.scanUp (λx=>Ui x D[a]!) D (b-1) (a+1)/\a+1<=r/\r<=n+1) (λr=>(b-1)+1-r) ?hI ?hround
  case hI=>exact⟨W,Kp.refl _ _,O,y07 _,ω⟩
  case hround=>
   rintro r B⟨l,v,f,Z⟩ K
   try dsimp only
   have hg:=Ext.Sv B;rcases y0a (b-1) r with A|A
   ·refine It<|It<|Ux (λw'=>Ext B w') O<|St 0 O O hg<|St 1 O O hg<|S8 2 O (yle O O) hg<|WW<|St 3 O O hg<|qJ 4 O hg<|qJ 5 O hg<|qJ 6 O hg<|qJ 7 O hg<|qJ 8 O hg<|qJ 9 O hg ?_;refine qJ 10 O hg<|qJ 11 O hg<|qJ 12 O hg<|S8 13 O (Xg O O) hg<|qE<|S9 O<|Sh O ?_;rw[WN _ _ _ _ (.inl A)] at f;subst f;exact(rg _ _ ⟨O,l.ext hg,v.trans hg.kp⟩).qb
   ·refine It (It (Ux (λw'=>Ext B w') O (St 0 O O hg (St 1 O O hg (S8 2 O (yle O O) hg (Xl (St 3 O O hg (St 4 O O hg (St 5 O O hg (S8 6 O (Tm SR Sy O O ω) hg (St 8 O O hg (St 9 O O hg (S8 10 O (Tm SR Sy O O ω) hg ?_)))))))))))));refine qT 7 O (λ_ h=>SQ U0 O O ((l.ext h).get (i:=r) ω)) hg (qT 11 O (λ_ h=>SQ U0 O O ((l.ext h).get (i:=a) ω)) hg (VF 12 O ZW O (Vw _ _ _) ?_));rintro _ w6⟨rfl,rfl⟩;refine⟨hg,?_⟩;refine S8 13 O (YD O O) hg<|qE<|TL O (λz=>?_)<|λz=>?_
    ·rw[z2H _ _ _ _ A (by simpa[Ui] using z)] at f;refine S6<|S7<|Uw O<|Tr O<|Sq O<|S2 ?_;exact(K (r+1) _ ⟨l.ext hg,v.trans hg.kp,f,ω,ω⟩ ω).qb
    ·rw[WN _ _ _ _ (.inr (by simpa[Ui] using z))] at f;refine Sh O ?_;subst f;exact(rg _ _ ⟨O,l.ext hg,v.trans hg.kp⟩).qb
theorem zi2 {n:Nat}{d:Array Nat}(h:Wm w g n cap d)(a b v:Nat)(zT:a<=v)(ue:v<b)(hb:b<=n)(hn:n<=65536):
  SG prog 261 [.slice (some ⟨g,0,none⟩) n cap,I (a:Int),I (b:Int),I (v:Int)] w λu w'=>u=I ((Go.Sort.partitionEqual Ui d a b v).1:Int)/\Wm w' g n cap (Go.Sort.partitionEqual Ui d a b v).2/\Kp (λk=>k=g) w w':=by
 refine py (e:=[(0,_),(1,_),(2,_),(3,_)]) func261 O ntmps261 O O<|TU O<|It ?_
 have c:=Ext.Sv w
 refine Sx [13,15] (λw'=>Ext w w') y00 O<|Te 0 O O c<|Te 1 O O c<|Tz (i:=2) O y00 O O (λ_=>ymv O) c<|Tz (i:=3) O y00 O O (λ_=>ymv O) c<|Te 4 O O c<|Te 5 O O c<|SB 6 O (Tm SR Sy O O ω) c<|Te 8 O O c<|Te 9 O O c<|SB 10 O (Tm SR Sy O O ω) c<|qL 7 O (λ_ Q=>SQ U0 O O ((h.ext Q).get (i:=v) ω)) c<|qL 11 O (λ_ Q=>SQ U0 O O ((h.ext Q).get (i:=a) ω)) c<|SB 12 O (Tm SR Sy O O ω) c ?_
 refine Wg [13]<|qO 13<|SY (i:=13) O O (Vl Sy O O O (h.ext c).sl ((h.ext c).jlt ω)) ?_
 rintro a0⟨p8,p9⟩
 refine⟨trivial,?_⟩
 have S:=(h.ext c).set p8
 refine S8 14 O (Tm SR Sy O O ω) trivial<|qO 15<|SY (i:=15) O O (Vl Sy O O O S.sl (S.jlt ω)) ?_
 rintro w1⟨vG,vH⟩
 refine⟨trivial,?_⟩
 have K:=S.set vG
 have mD:Kp (λk=>k=g) w w1:=c.kp.trans (p9.trans vH)
 refine qE<|SE O<|Tr O<|Sf O<|UO O<|To O<|SI.qb (e:=[(0,_),(1,_),(8,_),(9,_),(10,_)]) ?_
 refine TZ ?_
 unfold Go.Sort.partitionEqual
 replace K:Wm w1 g n cap (Go.Sort.swp d a v):=K
 generalize Go.Sort.swp d a v=D at K
 rw[show(a:Int)+1=((a+1:Nat):Int) by omega,show(b:Int)-1=((b-1:Nat):Int) by omega]
 refine UW (α:=Nat×Nat×Array Nat) (a+1,b-1,D) (λy=>[(0,.slice (some ⟨g,0,none⟩) n cap),(1,I (a:Int)),(9,I (y.1:Int)),(10,I (y.2.1:Int))]) (λy w'=>Wm w' g n cap y.2.2/\Kp (λk=>k=g) w1 w'/\Go.Sort.partEqLoop Ui a y.1 y.2.1 y.2.2=Go.Sort.partEqLoop Ui a (a+1) (b-1) D/\(a<y.1/\y.1<=n/\y.2.1<n)) (λy=>y.2.1+1-y.1) ?hI ?hround
 case hI=>exact⟨K,Kp.refl _ _,O,by dsimp only;omega⟩
 case hround =>
  rintro⟨i,j,d4⟩ w4 ⟨U,M,q,Y⟩ H;dsimp only at U M q Y;rw[Go.Sort.partEqLoop_eq] at q
  try dsimp only
  refine S7<|TZ<|VB (λG w'=>G=[(0,.slice (some ⟨g,0,none⟩) n cap),(1,I (a:Int)),(9,I (((Go.Sort.scanUp (λx=>!Ui d4[a]! x) d4 j i):Nat):Int)),(10,I ((j:Nat):Int))]/\Wm w' g n cap d4/\Kp (λk=>k=g) w4 w') ?kO<|λkO=>?vJ
  case kO=>
   rintro G V⟨rfl,W,kO⟩;have p:=Go.Sort.scanUp_ge (λx=>!Ui d4[a]! x) d4 j i;have oh:=z19 (λx=>!Ui d4[a]! x) d4 j i
   generalize Go.Sort.scanUp (λx=>!Ui d4[a]! x) d4 j i=o at q p oh
   refine TZ<|VB (λG w'=>G=[(0,.slice (some ⟨g,0,none⟩) n cap),(1,I (a:Int)),(9,I ((o:Nat):Int)),(10,I (((Go.Sort.scanDown (λx=>Ui d4[a]! x) d4 o j):Nat):Int))]/\Wm w' g n cap d4/\Kp (λk=>k=g) V w') ?gE<|λgE=>?vI
   case gE=>
    rintro G T⟨rfl,E,gE⟩;have mC:=Go.Sort.scanDown_le (λx=>Ui d4[a]! x) d4 o j
    generalize Go.Sort.scanDown (λx=>Ui d4[a]! x) d4 o j=J at q mC
    refine It<|TV O<|Ub O<|S5<|So O (λt=>?_)<|λt=>?_
    ·rw[if_pos ω] at q;rw[<-q];refine Sh O<|SE O<|Sq O<|S3 func261 O ?_;exact⟨_,O,O,E,mD.trans (M.trans (kO.trans gE))⟩
    ·rw[if_neg ω] at q;refine S6<|It ?_;have f:=Ext.Sv T;refine Sx [13,15] (λw'=>Ext T w') y00 O (Te 0 O O f (Te 1 O O f (Tz (i:=2) O y00 O O (λ_=>ymv O) f (Tz (i:=3) O y00 O O (λ_=>ymv O) f (Te 4 O O f (Te 5 O O f (SB 6 O (Tm SR Sy O O ω) f (Te 8 O O f (Te 9 O O f (SB 10 O (Tm SR Sy O O ω) f (qL 7 O (λ_ h=>SQ U0 O O ((E.ext h).get (i:=J) ω)) f (qL 11 O (λ_ h=>SQ U0 O O ((E.ext h).get (i:=o) ω)) f (SB 12 O (Tm SR Sy O O ω) f ?_)))))))))))));refine Wg [13] (qO 13 (SY (i:=13) O O (Vl Sy O O O (E.ext f).sl ((E.ext f).jlt ω)) ?_));rintro a1⟨F,L⟩;refine⟨trivial,?_⟩;have N:=(E.ext f).set F;refine S8 14 O (Tm SR Sy O O ω) trivial (qO 15 (SY (i:=15) O O (Vl Sy O O O N.sl (N.jlt ω)) ?_));rintro w8⟨P,R⟩;refine⟨trivial,?_⟩;have X:=N.set P;have s:Kp (λk=>k=g) T w8:=f.kp.trans (L.trans R);refine qE<|SE O<|Tr O<|Sq O<|Uw O<|UO O<|Sq O<|S2 ?_;rw[show(J:Int)-1=((J-1:Nat):Int) by omega];exact(H (o+1,J-1,Go.Sort.swp d4 o J) _ ⟨X,(M.trans (kO.trans gE)).trans s,q,by dsimp only;omega⟩ (by dsimp only;omega)).qb
   case vI=>
    refine UW (α:=Nat) j (λr=>[(0,.slice (some ⟨g,0,none⟩) n cap),(1,I (a:Int)),(9,I ((o:Nat):Int)),(10,I ((r:Nat):Int))]) (λr w'=>Wm w' g n cap d4/\Kp (λk=>k=g) V w'/\Go.Sort.scanDown (λx=>Ui d4[a]! x) d4 o r=Go.Sort.scanDown (λx=>Ui d4[a]! x) d4 o (j)/\r<n) (λr=>r) ?hI ?hround
    case hI=>exact⟨W,Kp.refl _ _,O,ω⟩
    case hround=>
     rintro r C⟨m,z,l,Z⟩ H
     try dsimp only
     have hg:=Ext.Sv C;rcases y0a r o with B|B
     ·refine It<|It<|Ux (λw'=>Ext C w') O<|St 0 O O hg<|St 1 O O hg<|S8 2 O (yle O O) hg<|WW<|St 3 O O hg<|qJ 4 O hg<|qJ 5 O hg<|qJ 6 O hg<|qJ 7 O hg<|qJ 8 O hg<|qJ 9 O hg ?_;refine qJ 10 O hg<|qJ 11 O hg<|qJ 12 O hg<|S8 13 O (Xg O O) hg<|qE<|S9 O<|Sh O ?_;rw[VD _ _ _ _ (.inl B)] at l;subst l;exact(gE _ _ ⟨O,m.ext hg,z.trans hg.kp⟩).qb
     ·refine It (It (Ux (λw'=>Ext C w') O (St 0 O O hg (St 1 O O hg (S8 2 O (yle O O) hg (Xl (St 3 O O hg (St 4 O O hg (St 5 O O hg (S8 6 O (Tm SR Sy O O ω) hg (St 8 O O hg (St 9 O O hg (S8 10 O (Tm SR Sy O O ω) hg ?_)))))))))))));refine qT 7 O (λ_ h=>SQ U0 O O ((m.ext h).get (i:=a) ω)) hg (qT 11 O (λ_ h=>SQ U0 O O ((m.ext h).get (i:=r) ω)) hg (VF 12 O ZW O (Vw _ _ _) ?_));rintro _ w6⟨rfl,rfl⟩;refine⟨hg,?_⟩;refine S8 13 O (YD O O) hg<|qE<|TL O (λA=>?_)<|λA=>?_
      ·rw[z0u _ _ _ _ B (by simpa[Ui] using A) ω] at l;refine S6<|S7<|Uw O<|UO O<|Sq O<|S2 ?_;rw[show(r:Int)-1=((r-1:Nat):Int) by omega];exact(H (r-1) _ ⟨m.ext hg,z.trans hg.kp,l,ω⟩ ω).qb
      ·rw[VD _ _ _ _ (.inr (by simpa[Ui] using A))] at l;refine Sh O ?_;subst l;exact(gE _ _ ⟨O,m.ext hg,z.trans hg.kp⟩).qb
  case vJ=>
   refine UW (α:=Nat) i (λr=>[(0,.slice (some ⟨g,0,none⟩) n cap),(1,I (a:Int)),(9,I ((r:Nat):Int)),(10,I ((j:Nat):Int))]) (λr w'=>Wm w' g n cap d4/\Kp (λk=>k=g) w4 w'/\Go.Sort.scanUp (λx=>!Ui d4[a]! x) d4 j r=Go.Sort.scanUp (λx=>!Ui d4[a]! x) d4 j (i)/\i<=r/\r<=n+1) (λr=>j+1-r) ?hI ?hround
   case hI=>exact⟨U,Kp.refl _ _,O,y07 _,ω⟩
   case hround=>
    rintro r C⟨m,z,l,Z⟩ H
    try dsimp only
    have hg:=Ext.Sv C;rcases y0a j r with B|B
    ·refine It<|It<|Ux (λw'=>Ext C w') O<|St 0 O O hg<|St 1 O O hg<|S8 2 O (yle O O) hg<|WW<|St 3 O O hg<|qJ 4 O hg<|qJ 5 O hg<|qJ 6 O hg<|qJ 7 O hg<|qJ 8 O hg<|qJ 9 O hg ?_;refine qJ 10 O hg<|qJ 11 O hg<|qJ 12 O hg<|qJ 13 O hg<|S8 14 O (Xg O O) hg<|qE<|S9 O<|Sh O ?_;rw[WN _ _ _ _ (.inl B)] at l;subst l;exact(kO _ _ ⟨O,m.ext hg,z.trans hg.kp⟩).qb
    ·refine It (It (Ux (λw'=>Ext C w') O (St 0 O O hg (St 1 O O hg (S8 2 O (yle O O) hg (Xl (St 3 O O hg (St 4 O O hg (St 5 O O hg (S8 6 O (Tm SR Sy O O ω) hg (St 8 O O hg (St 9 O O hg (S8 10 O (Tm SR Sy O O ω) hg ?_)))))))))))));refine qT 7 O (λ_ h=>SQ U0 O O ((m.ext h).get (i:=a) ω)) hg (qT 11 O (λ_ h=>SQ U0 O O ((m.ext h).get (i:=r) ω)) hg (VF 12 O ZW O (Vw _ _ _) ?_));rintro _ w6⟨rfl,rfl⟩;refine⟨hg,?_⟩;refine S8 13 O (zd7 O) hg<|S8 14 O (YD O O) hg<|qE<|TL O (λA=>?_)<|λA=>?_
     ·rw[z2H _ _ _ _ B (by simpa[Ui] using A)] at l;refine S6<|S7<|Uw O<|Tr O<|Sq O<|S2 ?_;exact(H (r+1) _ ⟨m.ext hg,z.trans hg.kp,l,ω,ω⟩ ω).qb
     ·rw[WN _ _ _ _ (.inr (by simpa[Ui] using A))] at l;refine Sh O ?_;subst l;exact(kO _ _ ⟨O,m.ext hg,z.trans hg.kp⟩).qb
section
variable (d:Array Nat)(b i:Nat)
theorem z5y (h:i<b)(c:Ui d[i]! d[i-1]! =false):Go.Sort.scanSorted Ui d b i=Go.Sort.scanSorted Ui d b (i+1):=by
 conv=>lhs;rw[Go.Sort.scanSorted]
 rw[if_pos]
 rw[y0E];exact⟨by simpa using h,by rw[c];rfl⟩
theorem ZY (h:b<=i\/Ui d[i]! d[i-1]! =true):Go.Sort.scanSorted Ui d b i=i:=by
 rw[Go.Sort.scanSorted,if_neg]
 intro c
 rw[y0E] at c
 rcases h with h| h
 ·have:=of_decide_eq_true c.1;omega
 ·rw[h] at c;cases c.2
end
theorem zct (d:Array Nat)(a b:Nat)(h:b-a<50):Go.Sort.partialInsertionSort Ui d a b=(d,decide (Go.Sort.scanSorted Ui d b (a+1)=b)):=by
 unfold Go.Sort.partialInsertionSort
 rw[Go.Sort.partialIns]
 by_cases e:Go.Sort.scanSorted Ui d b (a+1)=b
 ·simp only[e,if_pos,decide_true]
 ·simp only[if_neg e,if_pos h,decide_eq_false e]
theorem zgb {n:Nat}{d:Array Nat}(h:Wm w g n cap d)(a b:Nat)(G:a<b)(K:b<=n)(M:n<50):
  SG prog 259 [.slice (some ⟨g,0,none⟩) n cap,I (a:Int),I (b:Int)] w λu w'=>u= .bool (Go.Sort.partialInsertionSort Ui d a b).2/\Wm w' g n cap d/\Kp (λk=>k=g) w w':=by
 rw[zct d a b ω]
 dsimp only
 refine py (e:=[(0,_),(1,_),(2,_)]) func259 O ntmps259 O O<|qN O<|TR O<|Tr O<|Sq O<|It<|TU O<|S7 ?_
 rw[show(a:Int)+1=((a+1:Nat):Int) by omega]
 refine UW (α:=Unit) () (λ_=>[(0,.slice (some ⟨g,0,none⟩) n cap),(1,I (a:Int)),(2,I (b:Int)),(7,I ((a+1:Nat):Int)),(8,I 0)]) (λy w'=>w'=w) (λy=>0) ?hI ?hround
 case hI=>rfl
 case hround =>
  rintro _ w4 rfl E
  try dsimp only
  refine SX O<|TW O<|S5<|So O (λA=>?_)<|λA=>?_
  ·refine S6<|TZ<|TZ<|VB (λz w'=>z=[(0,.slice (some ⟨g,0,none⟩) n cap),(1,I (a:Int)),(2,I (b:Int)),(7,I (Go.Sort.scanSorted Ui d b (a+1):Int)),(8,I 0)]/\Wm w' g n cap d/\Kp (λk=>k=g) w4 w') ?eu<|λeu=>?vK
   case eu=>
    rintro z Q⟨rfl,x,eu⟩;refine It<|TV O<|U7 O<|S5<|So O (λB=>?_)<|λB=>?_
    ·have v:Go.Sort.scanSorted Ui d b (a+1)=b:=ω
     rw[decide_eq_true v];refine TU O<|S3 func259 O ?_;exact⟨_,O,O,x,eu⟩
    ·have v:¬Go.Sort.scanSorted Ui d b (a+1)=b:=ω
     rw[decide_eq_false v];refine S6<|It<|TV O<|UO O<|TW O<|S5<|So O (λC=>?_)<|λC=>?_
     ·refine TU O<|S3 func259 O ?_;exact⟨_,O,O,x,eu⟩
     ·omega
   case vK=>
    refine UW (α:=Nat) (a+1) (λr=>[(0,.slice (some ⟨g,0,none⟩) n cap),(1,I (a:Int)),(2,I (b:Int)),(7,I (r:Int)),(8,I 0)]) (λr w'=>Wm w' g n cap d/\Kp (λk=>k=g) w4 w'/\Go.Sort.scanSorted Ui d b r=Go.Sort.scanSorted Ui d b (a+1)/\a<r/\r<=b) (λr=>b-r) ?hI ?hround
    case hI=>exact⟨h,Kp.refl _ _,O,Nat.lt_succ_self a,G⟩
    case hround=>
     rintro r q⟨f,l,c,J,H⟩ D
     try dsimp only
     have hg:=Ext.Sv q;rcases y0a r b with o|o
     ·refine It (It (Ux (λw'=>Ext q w') O (St 0 O O hg (St 1 O O hg (S8 2 O (ylt O O) hg (Xl (St 3 O O hg (St 4 O O hg (St 5 O O hg (S8 6 O (Tm SR Sy O O ω) hg (St 8 O O hg (St 9 O O hg (S8 10 O (ysb O O ω) hg ?_)))))))))))));rw[show(r:Int)-1=((r-1:Nat):Int) by omega];refine qT 7 O (λ_ h=>SQ U0 O O ((f.ext h).get (i:=r) ω)) hg (S8 11 O (Tm SR Sy O O ω) hg (qT 12 O (λ_ h=>SQ U0 O O ((f.ext h).get (i:=r-1) ω)) hg (VF 13 O ZW O (Vw _ _ _) ?_)));rintro _ N⟨rfl,rfl⟩;refine⟨hg,?_⟩;refine S8 14 O (zd7 O) hg<|S8 15 O (YD O O) hg<|qE<|TL O (λm=>?_)<|λm=>?_
      ·rw[z5y _ _ _ o (by simpa[Ui] using m)] at c;refine S6<|S7<|Uw O<|Tr O<|Sq O<|S2 ?_;exact(D (r+1) _ ⟨f.ext hg,l.trans hg.kp,c,ω,ω⟩ ω).qb
      ·rw[ZY _ _ _ (.inr (by simpa[Ui] using m))] at c;refine Sh O ?_;subst c;exact(eu _ _ ⟨O,f.ext hg,l.trans hg.kp⟩).qb
     ·refine It<|It<|Ux (λw'=>Ext q w') O<|St 0 O O hg<|St 1 O O hg<|S8 2 O (ylt O O) hg<|WW<|St 3 O O hg<|qJ 4 O hg<|qJ 5 O hg<|qJ 6 O hg<|qJ 7 O hg<|qJ 8 O hg<|qJ 9 O hg ?_;refine qJ 10 O hg<|qJ 11 O hg<|qJ 12 O hg<|qJ 13 O hg<|qJ 14 O hg<|S8 15 O (Xg O O) hg<|qE<|S9 O<|Sh O ?_;rw[ZY _ _ _ (.inl o)] at c;subst c;exact(eu _ _ ⟨O,f.ext hg,l.trans hg.kp⟩).qb
  ·exact absurd ψ A
theorem z1D {n s:Nat}{d:Array Nat}(h:Wm w g n cap d)(hB:Sk w sb [I (s:Int)] 3)(z:s<=1000)(x y:Nat)(A:x<n)(B:y<n)(v:sb≠g):
  SG prog 270 [.slice (some ⟨g,0,none⟩) n cap,I (x:Int),I (y:Int),ptr sb 0] w λu w'=>∃f l s':Nat,u= .tuple #[I (f:Int),I (l:Int)]/\((f=x/\l=y)\/(f=y/\l=x))/\s'<=s+1/\Sk w' sb [I (s':Int)] 3/\Wm w' g n cap d/\Kp (λk=>k=sb) w w':=by
 refine py (e:=[(0,_),(1,_),(2,_),(3,_)]) func270 O ntmps270 O O ?_
 have hg:=Ext.Sv w
 refine qN O<|To O<|It<|It<|Ux (λw'=>Ext w w') O<|St 0 O O hg<|St 1 O O hg<|S8 2 O (Tm SR Sy O O ω) hg<|St 4 O O hg<|St 5 O O hg<|S8 6 O (Tm SR Sy O O ω) hg<|qT 3 O (λ_ c=>SQ U0 O O ((h.ext c).get (i:=y) ω)) hg<|qT 7 O (λ_ c=>SQ U0 O O ((h.ext c).get (i:=x) ω)) hg<|VF 8 O ZW O (Vw _ _ _) ?_
 rintro _ C⟨rfl,rfl⟩
 refine⟨hg,?_⟩
 refine qE<|TL O (λr=>?_)<|λr=>?_
 ·have m:=hg.S4 hB;refine SE O (SC O (qV (Sc U3 O O m O) (Tr O (SC O (Sm O (TO T8 O O O m ξ) ?_)))));rintro w3⟨q,o⟩;refine qM O<|Sz O<|To O<|S3 func270 O ?_;exact⟨_,O,y,x,s+1,O,.inr ⟨O,O⟩,y07 _,q,(h.ext hg).kp o (λe=>v e.symm),hg.kp.trans o⟩
 ·refine S6<|TV O<|To O<|S3 func270 O ?_;exact⟨_,O,x,y,s,O,.inl ⟨O,O⟩,Nat.le_succ _,hg.S4 hB,h.ext hg,hg.kp⟩
theorem zaS {n s:Nat}{d:Array Nat}(h:Wm w g n cap d)(hB:Sk w sb [I (s:Int)] 3)(V:s<=500)(x y z:Nat)(A:x<n)(B:y<n)(C:z<n)(f:sb≠g):
  SG prog 268 [.slice (some ⟨g,0,none⟩) n cap,I (x:Int),I (y:Int),I (z:Int),ptr sb 0] w λu w'=>∃c s':Nat,u=I (c:Int)/\(c=x\/c=y\/c=z)/\s'<=s+3/\Sk w' sb [I (s':Int)] 3/\Wm w' g n cap d/\Kp (λk=>k=sb) w w':=by
 refine py (e:=[(0,_),(1,_),(2,_),(3,_),(4,_)]) func268 O ntmps268 O O<|qN O<|Up O<|Sz O<|Sz O<|Sr zgo O (z1D h hB ω x y A B f) ?_
 rintro _ w1⟨x1,J,Y,rfl,N,U,m,D,l⟩
 refine Sf O<|Vk O<|Vj O<|Up O<|Sz O<|Sz O<|Sr zgo O (z1D D m ω J z ω C f) ?_
 rintro _ w2⟨K,j,Z,rfl,Q,T,o,E,q⟩
 refine Sf O<|Vk O<|Vj O<|Up O<|Sz O<|Sz O<|Sr zgo O (z1D E o ω x1 K ω ω f) ?_
 rintro _ w3⟨a,M,G,rfl,S,W,v,H,r⟩
 refine Sf O<|Vk O<|To O<|SI.qb (e:=[(2,_),(10,_)]) ?_
 refine SE O<|Sq O<|S3 func268 O ?_
 exact⟨_,O,M,G,O,ω,ω,v,H,(l.trans q).trans r⟩
theorem zdB {n:Nat}{d:Array Nat}(h:Wm w g n cap d)(a b:Nat)(G:a+12<b)(B:b<=n)(C:n<50):
  SG prog 257 [.slice (some ⟨g,0,none⟩) n cap,I (a:Int),I (b:Int)] w λu w'=>∃p t:Nat,u= .tuple #[I (p:Int),I (t:Int)]/\a<=p/\p<b/\t<=2/\Wm w' g n cap d/\Ext w w':=by
 have A:g<w.heap.size:=h.sl.lt O
 refine py (e:=[(0,_),(1,_),(2,_)]) func257 O ntmps257 O O<|qN O<|Vj O<|Up O<|Sz O<|UO O<|Up O ?_
 rw[show(b:Int)-(a:Int)=((b-a:Nat):Int) by omega]
 refine Sd O O (UK (cs:=[_]) T8 O) ?_
 rintro _ w1⟨sb,rfl,H,m,f⟩
 replace f:Sk w1 sb [I ((0:Nat):Int)] 3:=f
 refine qM O<|Sz O<|qV (yqu O O ω)<|qV (Zf O O ω)<|Tr O<|Up O<|Sz O<|qV (yqu O O ω)<|qV (Zf O O ω)<|Tr O<|Up O<|Sz O<|qV (yqu O O ω)<|qV (Zf O O ω) ?_
 refine Tr O<|Sq O<|SI.qb (e:=[(0,_),(6,_),(7,_),(8,_),(9,_),(10,_),(11,_),(12,_)]) ?_
 refine SX O<|WZ O<|S5 ?_
 rw[show(a:Int)+((b-a:Nat):Int) / 4*1=((a+(b-a) / 4*1:Nat):Int) by omega,show(a:Int)+((b-a:Nat):Int) / 4*2=((a+(b-a) / 4*2:Nat):Int) by omega,show(a:Int)+((b-a:Nat):Int) / 4*3=((a+(b-a) / 4*3:Nat):Int) by omega]
 refine So O (λr=>?_)<|λr=>?_
 ·refine SX O<|WZ O<|S5<|So O (λv=>?_)<|λv=>?_
  ·omega
  ·refine S6 (Sg O (Sz O (Sz O (Sr zna O (zaS (h.ext m) f ω (a+(b-a) / 4*1) (a+(b-a) / 4*2) (a+(b-a) / 4*3) ω ω ω ω) ?_))));rintro _ w2⟨p,s,rfl,D,E,o,l,q⟩;have c:Ext w w2:=m.An q (λk e=>ω);refine Up O<|qV (Sc U3 O O o O)<|S5<|S7<|qN O<|U7 O<|Sq O<|So O (λx=>?_)<|λx=>?_
   ·refine SE O<|To O<|S3 func257 O ?_;exact⟨_,O,p,1,O,ω,ω,ω,l,c⟩
   ·refine qN O<|U7 O<|Sq O<|So O (λz=>?_)<|λz=>?_
    ·refine SE O<|To O<|S3 func257 O ?_;exact⟨_,O,p,2,O,ω,ω,ω,l,c⟩
    ·refine SE O<|To O<|S3 func257 O ?_;exact⟨_,O,p,0,O,ω,ω,ω,l,c⟩
 ·omega
theorem zcU {xb r:Nat}(hB:Sk w xb [Su r] 383)(hr:r<18446744073709551616):
  SG prog 266 [ptr xb 0] w λu w'=>∃v:Nat,u=Su v/\v<18446744073709551616/\Sk w' xb [Su v] 383/\Kp (λk=>k=xb) w w':=by
 refine py (e:=[(0,_)]) func266 O ntmps266 O O ?_
 have c:=Ext.Sv w
 refine TU O<|It<|Sx [9] (λw'=>Ext w w') y00 O<|Te 0 O O c<|SB 1 O (Tu O) c<|qL 2 O (λ_ h=>Sc z7E O O (h.S4 hB) O) c<|Te 3 O O c<|SB 4 O (Tu O) c<|qL 5 O (λ_ h=>Sc z7E O O (h.S4 hB) O) c<|SB 6 O (UQ 13 8192 O O ψ O) c<|SB 7 O (z4e O O ω ω) c<|SB 8 O (Tu O) c ?_
 generalize E:r^^^r*8192%18446744073709551616=r1
 have G:r1<18446744073709551616:=by rw[<-E];exact y2f (n:=64) ω ω
 refine Wg [9]<|qO 9<|SY (i:=9) O O (TO z9k O O O (c.S4 hB) ξ) ?_
 rintro w1⟨m,z⟩
 refine⟨trivial,?_⟩
 replace m:Sk w1 xb [Su r1] 383:=m
 have f:=Ext.Sv w1
 refine qE<|It<|Sx [9] (λw'=>Ext w1 w') y00 O<|Te 0 O O f<|SB 1 O (Tu O) f<|qL 2 O (λ_ h=>Sc z7E O O (h.S4 m) O) f<|Te 3 O O f<|SB 4 O (Tu O) f<|qL 5 O (λ_ h=>Sc z7E O O (h.S4 m) O) f<|SB 6 O (XE 7 128 O O ψ O) f<|SB 7 O (z4e O O ω ω) f<|SB 8 O (Tu O) f ?_
 generalize D:r1^^^r1 / 128=r2
 have H:r2<18446744073709551616:=by rw[<-D];exact y2f (n:=64) ω ω
 refine Wg [9]<|qO 9<|SY (i:=9) O O (TO z9k O O O (f.S4 m) ξ) ?_
 rintro w2⟨o,A⟩
 refine⟨trivial,?_⟩
 replace o:Sk w2 xb [Su r2] 383:=o
 have l:=Ext.Sv w2
 refine qE<|It<|Sx [9] (λw'=>Ext w2 w') y00 O<|Te 0 O O l<|SB 1 O (Tu O) l<|qL 2 O (λ_ h=>Sc z7E O O (h.S4 o) O) l<|Te 3 O O l<|SB 4 O (Tu O) l<|qL 5 O (λ_ h=>Sc z7E O O (h.S4 o) O) l<|SB 6 O (UQ 17 131072 O O ψ O) l<|SB 7 O (z4e O O ω ω) l<|SB 8 O (Tu O) l ?_
 generalize x:r2^^^r2*131072%18446744073709551616=r3
 have C:r3<18446744073709551616:=by rw[<-x];exact y2f (n:=64) ω ω
 refine Wg [9]<|qO 9<|SY (i:=9) O O (TO z9k O O O (l.S4 o) ξ) ?_
 rintro w3⟨q,B⟩
 refine⟨trivial,?_⟩
 replace q:Sk w3 xb [Su r3] 383:=q
 refine qE<|SI.qb (e:=[(0,_),(2,_)]) ?_
 refine SE O<|SC O<|qV (Sc z7E O O q O)<|Sq O<|S3 func266 O ?_
 exact⟨_,O,r3,O,C,q,(c.kp.trans z).trans ((f.kp.trans A).trans (l.kp.trans B))⟩
def zbV (x:Nat)(c:x<18446744073709551616)(w:World):SG prog 246 [Su x] w λv w'=>v=I (Tp x:Int)/\w'=w:=by
 refine py (e:=[(0,_)]) func246 O ntmps246 O O<|TU O<|It<|VP O<|SE O<|Sr z5U O (Y6 x c w) ?_
 rintro _ w⟨rfl,rfl⟩
 refine Sq O<|S3 func246 O ?_
 exact⟨_,O,O,O⟩
def zfB (x:Nat)(h:x<4294967296)(w:World):SG prog 265 [I (x:Int)] w λv w'=>v=Su (2^Tp x)/\w'=w:=by
 have c:Tp x<=32:=UH ω
 have f:2^Tp x<=2^32:=y0v ψ c
 refine py (e:=[(0,_)]) func265 O ntmps265 O O<|qN O<|TR O<|qV (TM O U3 zjN ω)<|Sr zi9 O (zbV x ω w) ?_
 rintro _ w⟨rfl,rfl⟩
 refine qV (UQ (Tp x) (2^Tp x) O O ω O) ?_
 rw[show 1*2^Tp x%18446744073709551616=2^Tp x by rw[y0Q];exact y0e ω]
 refine Sq O<|S3 func265 O ?_
 exact⟨_,O,O,O⟩
open Go.Sort in
def zfg {d:Array Nat}(c:a<=i)(e:i<b)(f:a<=j)(h:j<b)(k:b<=d.size):PermIn a b d (swp d i j):=swp_permIn d a b i j c e f h k
theorem zff {n:Nat}{d:Array Nat}(h:Wm w g n cap d)(a b:Nat)(kJ:a+12<b)(hb:b<=n)(hn:n<50):
  SG prog 256 [.slice (some ⟨g,0,none⟩) n cap,I (a:Int),I (b:Int)] w λu w'=>u= .tuple #[]/\∃N,Go.Sort.PermIn a b d N/\Wm w' g n cap N/\Kp (λk=>k=g) w w':=by
 have MU:g<w.heap.size:=h.sl.lt O
 have FC:2^(Tp (b-a)-1)<=b-a:=z4b ω
 have vL:2^Tp (b-a)<=2*(b-a):=by
  have oA:Tp (b-a)≠0:=λe=>by have:=z0J (v:=b-a);rw[e] at this;omega
  rw[show Tp (b-a)=Tp (b-a)-1+1 by omega,y1R];omega
 have V:1<=2^Tp (b-a):=Nat.one_le_two_pow
 refine py (e:=[(0,_),(1,_),(2,_)]) func256 O ntmps256 O O<|TV O<|UO O ?_
 rw[show(b:Int)-(a:Int)=((b-a:Nat):Int) by omega]
 refine TR O<|WZ O<|S5<|So O (λF=>?_)<|λF=>?_
 ·refine SE O (qV (TM O U3 z7E ω) (Sd O O (UK (cs:=[_]) z9k O) ?_));rintro _ w1⟨xb,rfl,E0,Z,j⟩;refine Sm O (TO z9k O O O j ξ) ?_;rintro w2⟨A,p⟩;have H:Ext w w2:=Z.An p (λk e=>ω);replace A:Sk w2 xb [Su (b-a)] 383:=A;refine qM O (Sf O (Sr zlu O (zfB (b-a) ω _) ?_));rintro _ w2⟨rfl,rfl⟩
  generalize 2^Tp (b-a)=M at vL V
  refine Up O (Sz O (qV (yqu O O ω) (qV (Zf O O ω) (Tr O (UO O (Sq O (S7 ?_)))))));rw[show(a:Int)+((b-a:Nat):Int) / 4*2-1=((a+(b-a) / 4*2-1:Nat):Int) by omega];refine UW (α:=Nat×Array Nat×Nat) (a+(b-a) / 4*2-1,d,b-a) (λy=>[(0,.slice (some ⟨g,0,none⟩) n cap),(1,I (a:Int)),(6,I ((b-a:Nat):Int)),(7,ptr xb 0),(8,Su M),(9,I (y.1:Int))]) (λy w'=>Wm w' g n cap y.2.1/\Sk w' xb [Su y.2.2] 383/\y.2.2<18446744073709551616/\Go.Sort.PermIn a b d y.2.1/\Kp (λk=>k=g) w w'/\a<=y.1) (λy=>a+b+2-y.1) ?hI ?hround
  case hI=>exact⟨h.ext H,A,by dsimp only;omega,Go.Sort.permIn_refl _ _ _,H.kp,by dsimp only;omega⟩
  case hround=>
   rintro⟨f,d4,r⟩ w4 ⟨z,G,K,D,B,T⟩ ih;dsimp only at z G K D B T;have cR:=z.size
   try dsimp only
   refine It<|TV O<|Sf O<|qV (yqu O O ω)<|qV (Zf O O ω)<|Tr O<|Tr O<|zle O<|S5<|So O (λL=>?_)<|λL=>?_
   ·have rS:f<b:=ω
    refine S6<|TZ<|qN O<|Sr znq O (zcU G K) ?_;rintro _ U⟨E,rfl,t,Y,J⟩;have x:=z.kp J (λe=>ω);have s:Kp (λk=>k=g) w U:=B.An J (λk e=> .inl ω);refine Sf O (qV (z0q (m:=M) (n:=1) O O O (by show M<2^64;omega) ω) ?_);refine qV (Yx O O ω ω) ?_;have W:E&&&(M-1)<=M-1:=y2d
    generalize E&&&(M-1)=q at W
    refine qV (T7 O zjN U3 ω)<|Sq O<|It<|TV O<|WZ O<|S5<|Tc (λQ w'=>∃o:Nat,Q=[(0,.slice (some ⟨g,0,none⟩) n cap),(1,I (a:Int)),(6,I ((b-a:Nat):Int)),(7,ptr xb 0),(8,Su M),(9,I (f:Int)),(10,I (o:Int))]/\w'=U/\o<b-a) ?FE<|λFE=>?FF
    case FE=>
     rintro Q l⟨o,rfl,rfl,ho⟩;have c:=Ext.Sv l;refine Sx [17,19] (λw'=>Ext l w') y00 O (Te 0 O O (c) (Te 1 O O (c) (Tz (i:=2) O y00 O O (λ_=>ymv O) (c) (Tz (i:=3) O y00 O O (λ_=>ymv O) (c) (Tz (i:=4) O y00 O O (λ_=>ymv O) (c) (Tz (i:=5) O y00 O O (λ_=>YB O O ω) (c) (Te 6 O O (c) (Te 7 O O (c) (Te 8 O O (c) (SB 9 O (YB O O ω) c (SB 10 O (Tm SR Sy O O ω) c (Te 12 O O (c) (Te 13 O O (c) ?_)))))))))))));refine SB 14 O (Tm SR Sy O O ω) c (qL 11 O (λ_ h=>SQ U0 O O ((x.ext h).get (i:=a+o) ω)) c (qL 15 O (λ_ h=>SQ U0 O O ((x.ext h).get (i:=f) ω)) c (SB 16 O (Tm SR Sy O O ω) c (Wg [17] (qO 17 (SY (i:=17) O O (Vl Sy O O O (x.ext c).sl ((x.ext c).jlt ω)) ?_))))));rintro a0⟨R,X⟩;refine⟨trivial,?_⟩;have C:=(x.ext c).set R;refine S8 18 O (Tm SR Sy O O ω) trivial (qO 19 (SY (i:=19) O O (Vl Sy O O O C.sl (C.jlt ω)) ?_));rintro w8⟨lF,lH⟩;refine⟨trivial,?_⟩;have lI:=C.set lF;have S:Kp (λk=>k=g) l w8:=c.kp.trans (X.trans lH);refine qE<|S2<|Uw O<|Tr O<|Sq O ?_;rw[show(f:Int)+1=((f+1:Nat):Int) by omega];exact(ih (f+1,Go.Sort.swp d4 f (a+o),E) _ ⟨lI,S.S4 Y ω,t,Go.Sort.permIn_trans _ _ _ a b D (zfg T rS ω ω ω),s.trans S,by dsimp only;omega⟩ (by dsimp only;omega)).qb
    case FF=>
     refine So O (λP=>?_)<|λP=>?_
     ·refine Sg O<|Sz O<|UO O<|Sq O ?_;rw[show(q:Int)-((b-a:Nat):Int)=((q-(b-a):Nat):Int) by omega];exact(FE _ _ ⟨q-(b-a),O,O,ω⟩).qb
     ·refine S6 ?_;exact(FE _ _ ⟨q,O,O,ω⟩).qb
   ·refine Sh O<|Tv func256 O ?_;exact⟨_,O,O,d4,D,z,B⟩
 ·omega
open Go.Sort in
def ziS (g n cap m:Nat):Prop:=∀(w:World)(d:Array Nat),Wm w g n cap d->∀(a b c:Nat),b-a<m->a<=b->b<=n->c<=64->Below Ui a b d->
 SG prog 245 [.slice (some ⟨g,0,none⟩) n cap,I (a:Int),I (b:Int),I (c:Int)] w λu w'=>u= .tuple #[]/\∃e,Wm w' g n cap e/\PermIn a b d e/\SortedIn Ui a b e/\Kp (λk=>k=g) w w'
open Go.Sort in
structure zbl (w:World)(g n cap a b:Nat)(d:Array Nat)(a1 b1 l1:Nat)(d1:Array Nat)(w':World):Prop where
 arr:Wm w' g n cap d1
 kp:Kp (λk=>k=g) w w'
 ab:a1<=b1
 bn:b1<=n
 sm:b1-a1<=b-a
 lim:l1<=64
 bel:Below Ui a1 b1 d1
 fin:∀R,PermIn a1 b1 d1 R->SortedIn Ui a1 b1 R->PermIn a b d R/\SortedIn Ui a b R
open Go.Sort in
theorem zbl.perm {n:Nat}{d:Array Nat}{c b1 u f:Nat}{d1 d2:Array Nat}(h:zbl w g n cap a b d c b1 u d1 w1)(o:Wm w2 g n cap d2)(q:Kp (λk=>k=g) w1 w2)(e:PermIn c b1 d1 d2)(r:f<=64):zbl w g n cap a b d c b1 f d2 w2:=
 ⟨o,h.kp.trans q,h.ab,h.bn,h.sm,r,h.bel.perm (by rw[h.arr.size];exact h.bn) e,λR l m=>h.fin R (permIn_trans _ _ _ _ _ e l) m⟩
open Go.Sort in
theorem zfE {n m:Nat}(eR:ziS g n cap m){d:Array Nat}(h:Wm w g n cap d)(a b l:Nat)(hm:b-a<=m)(kJ:a<=b)(hb:b<=n)(hn:n<50)(hl:l<=64)(hB:Below Ui a b d):
  SG prog 245 [.slice (some ⟨g,0,none⟩) n cap,I (a:Int),I (b:Int),I (l:Int)] w λu w'=>u= .tuple #[]/\∃X,Wm w' g n cap X/\PermIn a b d X/\SortedIn Ui a b X/\Kp (λk=>k=g) w w':=by
 refine py (e:=[(0,_),(1,_),(2,_),(3,_)]) func245 O ntmps245 O O<|qN O<|Up O<|Sq O<|S7<|UW (α:=Nat×Nat×Nat×Bool×Bool×Array Nat) (a,b,l,true,true,d) (λy=>[(0,.slice (some ⟨g,0,none⟩) n cap),(1,I (y.1:Int)),(2,I (y.2.1:Int)),(3,I (y.2.2.1:Int)),(8,.bool y.2.2.2.1),(9,.bool y.2.2.2.2.1)]) (λy w'=>zbl w g n cap a b d y.1 y.2.1 y.2.2.1 y.2.2.2.2.2 w') (λy=>y.2.1-y.1) ?hI ?hround
 case hI=>exact⟨h,Kp.refl _ _,kJ,hb,y07 _,hl,hB,λR h1 h2=>⟨h1,h2⟩⟩
 case hround =>
  rintro⟨c,b1,W,D,E,d1⟩ w4 hI ih;dsimp only at hI;have Z:=hI.ab;have B:=hI.bn;have MW:=hI.sm;have KY:=hI.lim;have A0:=hI.arr.size
  try dsimp only
  refine S7<|TV O<|UO O<|Sq O<|It<|qN O ?_;rw[show(b1:Int)-(c:Int)=((b1-c:Nat):Int) by omega];refine Sf O<|zle O<|S5<|So O (λh0=>?_)<|λh0=>?_
  ·obtain⟨z,x⟩:=insertionSort_holds z2h d1 c b1 Z ω;obtain⟨Q,S⟩:=hI.fin _ z x;refine TV O (Sf O (Sr zms O (z5A hI.arr c b1 Z B ω) ?_));rintro _ t⟨rfl,J,K⟩;refine S5<|S3 func245 O ?_;exact⟨_,O,O,_,J,Q,S,hI.kp.trans K⟩
  ·refine S6<|SX O<|U7 O<|S5<|So O (λh1 => ?_)<|λh1 => ?_
   ·obtain⟨z,x⟩:=heapSort_holds z2h d1 c b1 Z ω;obtain⟨Q,S⟩:=hI.fin _ z x;refine TV O (Sf O (Sr zm8 O (zfn hI.arr c b1 ω B ω) ?_));rintro _ t⟨rfl,J,K⟩;refine S5<|S3 func245 O ?_;exact⟨_,O,O,_,J,Q,S,hI.kp.trans K⟩
   ·refine S6<|SX O<|qV (Vn O)<|S5<|Tc (λo w' => ∃ r d5, o = [(0, .slice (some ⟨g, 0, none⟩) n cap), (1, I (c : Int)), (2, I (b1 : Int)), (3, I ((r : Nat) : Int)), (8, .bool D), (9, .bool E), (10, I ((b1 - c : Nat) : Int))] /\ zbl w g n cap a b d c b1 r d5 w') ?dq<|λdq => ?gU
    case dq =>
     rintro o t⟨r,d5,rfl,N⟩;have uh:=N.lim;have FG:=N.arr.size;have MX:g<t.heap.size:=N.arr.sl.lt O;refine TV O (Sf O (Sr znp O (zdB N.arr c b1 ω B hn) ?_));rintro _ w6⟨Y,t6,rfl,MY,vM,A1,oY,aM⟩;have rU:=N.perm oY aM.kp (permIn_refl _ _ _) uh;refine Sf O<|Vk O<|To O<|SX O<|U7 O<|S5<|Tc (λo w'=>∃d7 v t7,o=[(0,.slice (some ⟨g,0,none⟩) n cap),(1,I (c:Int)),(2,I (b1:Int)),(3,I (r:Int)),(8,.bool D),(9,.bool E),(10,I ((b1-c:Nat):Int)),(11,I ((v:Nat):Int)),(12,I ((t7:Nat):Int))]/\zbl w g n cap a b d c b1 r d7 w'/\c<=v/\v<b1) ?az<|λaz=>?eO
     case az =>
      rintro o w7⟨d7,v,t7,rfl,C,T,j⟩;have MZ:=C.arr.size;refine It<|It<|Tc (λo w'=>∃s,o=[(0,.slice (some ⟨g,0,none⟩) n cap),(1,I (c:Int)),(2,I (b1:Int)),(3,I (r:Int)),(8,.bool D),(9,.bool E),(10,I ((b1-c:Nat):Int)),(11,I (v:Int)),(68,.bool s)]/\w'=w7) ?bX<|λbX=>?pf
      case bX=>
       rintro o w8⟨s,rfl,rfl⟩;refine Tc (λo w'=>o=[(0,.slice (some ⟨g,0,none⟩) n cap),(1,I (c:Int)),(2,I (b1:Int)),(3,I (r:Int)),(8,.bool D),(9,.bool E),(10,I ((b1-c:Nat):Int)),(11,I (v:Int))]/\zbl w g n cap a b d c b1 r d7 w') ?gO<|λgO=>?vP
       case gO=>
        rintro o H⟨rfl,A⟩;have G:=A.arr;have hg:=Ext.Sv H;refine It<|It<|Tc (λo w'=>∃s,o=[(0,.slice (some ⟨g,0,none⟩) n cap),(1,I (c:Int)),(2,I (b1:Int)),(3,I (r:Int)),(8,.bool D),(9,.bool E),(10,I ((b1-c:Nat):Int)),(11,I (v:Int)),(87,.bool s)]/\w'=H.drew/\(s=true->0<c/\Ui d7[c-1]! d7[v]! =false)) ?vy<|λvy=>?vz
        case vy=>
         rintro o a0⟨s,rfl,rfl,hs⟩;have nq:=G.ext hg;have L:Kp (λk=>k=g) w H.drew:=A.kp.trans hg.kp;refine TL O (λh6=>?_)<|λh6=>?_
         ·obtain⟨N0,ns⟩:=hs h6;obtain⟨f,d11,M⟩:∃m e,partitionEqual Ui d7 c b1 v=(m,e):=⟨_,_,O⟩;have F:=zi2 nq c b1 v T j B ω;rw[M] at F;dsimp only at F;obtain⟨e1,e2,e3,e4,V⟩:=round_eq z2h (partitionEqual_holds _) N0 T j ω A.bel ns M;refine TV O<|Sz O<|Sr zlb O (F) ?_;rintro _ a2⟨rfl,p,U⟩;refine TR O<|Sq O<|Sh O ?_;exact(ih (f,b1,r,D,E,d11) _ ⟨p,L.trans U,e2,B,by dsimp only;omega,A.lim,e4,λR z x=>A.fin R (V R z x).1 (V R z x).2⟩ (by dsimp only;omega)).qb
         ·obtain⟨f,ap,d11,M⟩:∃m q e,partition Ui d7 c b1 v=(m,q,e):=⟨_,_,_,O⟩;have pe:=zga nq c b1 v T j B ω;rw[M] at pe;dsimp only at pe;obtain⟨e1,e2,e3,e4,V,e6,e7⟩:=round_part z2h (partition_holds _) T j ω A.bel M;refine S6<|TV O<|Sz O<|Sr zmH O (pe) ?_;rintro _ a2⟨rfl,p,U⟩;refine Sf O<|Vk O<|Vj O<|TR O<|Up O<|Sz O<|UO O<|Sz O<|UO O<|Vj O<|Up O ?_;rw[show(f:Int)-(c:Int)=((f-c:Nat):Int) by omega,show(b1:Int)-(f:Int)=((b1-f:Nat):Int) by omega];refine Sf O<|qV (yqu O O ω)<|Up O<|Sz O<|TW O<|S5<|So O (λh7=>?_)<|λh7=>?_
          ·refine TV O (WZ O (Up O (Sz O (Sz O (Sr zfC O (eR _ _ p c f r ω e1 ω A.lim e4) ?_)))));rintro _ a3⟨rfl,d12,vN,vO,lC,P⟩;obtain⟨f1,f2⟩:=e6 _ vO lC;refine S5<|Uw O<|Tr O<|Sq O<|S2 ?_;exact(ih (f+1,b1,r,decide (((b1-c:Nat):Int) / 8<=((f-c:Nat):Int)),ap,d12) _ ⟨vN,(L.trans U).trans P,by dsimp only;omega,B,by dsimp only;omega,A.lim,f1,λR z x=>A.fin R (f2 R z x).1 (f2 R z x).2⟩ (by dsimp only;omega)).qb
          ·refine TV O<|WZ O<|Up O<|Sz O<|Tr O<|Sz O ?_;rw[show(f:Int)+1=((f+1:Nat):Int) by omega];refine Sr zfC O (eR _ _ p (f+1) b1 r ω ω B A.lim V) ?_;rintro _ a3⟨rfl,d12,vN,vO,lC,P⟩;obtain⟨f1,f2⟩:=e7 _ vO lC;refine S5<|Uw O<|Sq O<|S2 ?_;exact(ih (c,f,r,decide (((b1-c:Nat):Int) / 8<=((b1-f:Nat):Int)),ap,d12) _ ⟨vN,(L.trans U).trans P,e1,by dsimp only;omega,by dsimp only;omega,A.lim,f1,λR z x=>A.fin R (f2 R z x).1 (f2 R z x).2⟩ (by dsimp only;omega)).qb
        case vz=>
         rcases y0D c with hj|hj
         ·refine Ux (λw'=>Ext H w') O<|St 0 O O hg<|S8 1 O (ygt O O) hg<|WW<|St 2 O O hg<|qJ 3 O hg<|qJ 4 O hg<|qJ 5 O hg<|qJ 6 O hg<|qJ 7 O hg<|qJ 8 O hg<|qJ 9 O hg<|qJ 10 O hg<|qJ 11 O hg ?_;refine qJ 12 O hg<|qJ 13 O hg<|S8 14 O (Xg O O) hg<|qE ?_;exact(vy _ _ ⟨false,O,O,λe=>by cases e⟩).qb
         ·refine Ux (λw'=>Ext H w') O (St 0 O O hg (S8 1 O (ygt O O) hg (Xl (St 2 O O hg (St 3 O O hg (St 4 O O hg (S8 5 O (ysb O O ω) hg (St 8 O O hg (St 9 O O hg (S8 10 O (Tm SR Sy O O ω) hg ?_))))))))));rw[show(c:Int)-1=((c-1:Nat):Int) by omega];refine S8 6 O (Tm SR Sy O O ω) hg (qT 7 O (λ_ h=>SQ U0 O O ((G.ext h).get (i:=c-1) ω)) hg (qT 11 O (λ_ h=>SQ U0 O O ((G.ext h).get (i:=v) ω)) hg (VF 12 O ZW O (Vw _ _ _) ?_)));rintro _ a0⟨rfl,rfl⟩;refine⟨hg,?_⟩;refine S8 13 O (zd7 O) hg<|S8 14 O (YD O O) hg<|qE ?_;exact(vy _ _ ⟨decide (¬d7[c-1]!<d7[v]!),O,O,λe=>⟨hj,by simpa[Ui] using e⟩⟩).qb
       case vP=>
        refine TL O (λh4=>?_)<|λh4=>?_
        ·obtain⟨z,x⟩:=partialInsertionSort_holds z2h d7 c b1 ω ω C.bel;refine TV O (Sf O (Sr znX O (zgb C.arr c b1 ω B hn) ?_));rintro _ H⟨rfl,G,aK⟩;refine S5<|TL O (λh5=>?_)<|λh5=>?_
         ·have r3:=x h5;rw[zct d7 c b1 ω] at r3;dsimp only at r3;obtain⟨Q,S⟩:=C.fin _ (permIn_refl _ _ _) r3;refine S3 func245 O ?_;exact⟨_,O,O,d7,G,Q,S,C.kp.trans aK⟩
         ·refine S6 ?_;exact(gO _ _ ⟨O,C.perm G aK (permIn_refl _ _ _) C.lim⟩).qb
        ·refine S6 ?_;exact(gO _ _ ⟨O,C⟩).qb
      case pf =>
       cases D with
       | false =>
         refine Sg O<|Sz O<|qS<|Td O<|Sf O<|Ua<|Td O<|S5 ?_
         exact(bX _ _ ⟨false,O,O⟩).qb
       | true =>
         cases E with
         | false =>
           refine Sg O<|Sz O<|Sf O<|Uj O<|Sf O<|Ua<|Td O<|S5 ?_
           exact(bX _ _ ⟨false,O,O⟩).qb
         | true =>
           refine Sg O<|Sz O<|Sf O<|Uj O<|Sz O<|U7 O<|Uj O<|S5 ?_;exact(bX _ _ ⟨decide ((t7:Int)=1),O,O⟩).qb
     case eO=>
      refine So O (λh3=>?_)<|λh3=>?_
      ·refine TV O (Sf O (Sr zo7 O (z8r oY c b1 ω B ω) ?_));rintro _ w7⟨rfl,E2,ay⟩;refine qM O<|Sf O<|UO O<|Sz O<|UO O<|UO O<|Sq O<|Sg O<|Sq O ?_;rw[show(b1:Int)-1-((Y:Int)-(c:Int))=((b1-1-(Y-c):Nat):Int) by omega];exact(az _ _ ⟨reverseRange d5 c b1,b1-1-(Y-c),1,O,rU.perm E2 ay (reverseRange_holds _ _ _ Z ω) uh,ω,ω⟩).qb
      ·refine S6 ?_;exact(az _ _ ⟨d5,Y,t6,O,rU,MY,vM⟩).qb
    case gU=>
     refine TL O (λh2=>?_)<|λh2=>?_
     ·refine TV O (Sf O (Sr zmR O (zff hI.arr c b1 ω B hn) ?_));rintro _ t⟨rfl,d5,iE,J,K⟩;refine S5<|Uw O<|UO O<|Sq O ?_;rw[show(W:Int)-1=((W-1:Nat):Int) by omega];exact(dq _ _ ⟨W-1,d5,O,hI.perm J K iE ω⟩).qb
     ·refine S6 ?_;exact(dq _ _ ⟨W,d1,O,hI⟩).qb
def zco (g n cap:Nat)(f:n<50):∀m,ziS g n cap m
 |0=>λw d h a b c e=>absurd e (y2s _)
 |m+1=>λw d h a b c e o k l hB=>zfE (zco g n cap f m) h a b c ω o k f l hB
open Go.Sort in
theorem ze7 {v:Value}{l:List Nat}(h:Sl w v 42 1 l.length (l.map SV))(n:l≠[])(C:l.length<50):
  SG prog 233 [v] w λu w'=>u= .tuple #[]/\Kp (λk=>v.ownBlock=some k) w w'/\∃l':List Nat,l'.Perm l/\l'.Pairwise (·<=·)/\Sl w' v 42 1 l'.length (l'.map SV):=by
 obtain⟨g,cap,rfl⟩:∃g c,v= .slice (some ⟨g,0,none⟩) l.length c:=by
  rcases h.shape with⟨-,G⟩|⟨g,c,e,H⟩
  ·exact absurd (y0x ω) n
  ·exact⟨g,c,e⟩
 have r:Wm w g l.length cap l.toArray:=⟨by simpa using h,ξ⟩
 have E:Tp l.length<=6:=UH ω
 refine py (e:=[(0,_)]) func233 O ntmps233 O O<|SE O<|UR SR O<|Sq O<|Sg O<|Sz O<|Sf O<|qV (TM O U3 zjN ω)<|Sr zi9 O (zbV l.length ω w) ?_
 rintro _ w⟨rfl,rfl⟩
 refine Sr zfC O (zco g l.length cap C (l.length+1) w l.toArray r 0 l.length (Tp l.length) ω ω (y07 _) ω (.inl O)) ?_
 rintro _ w1⟨rfl,d,m,z,x,B⟩
 refine S5<|Tv func233 O ?_
 have f:=m.size
 have D:d.toList.Perm l:=by
  have:=z.2.2;rw[Array.toList_extract,Array.toList_extract] at this;have q:(d.toList.take l.length).Perm (l.take l.length):=by simpa using this
  rwa [y0B (by rw[y2u,f];exact y07 _),y0K] at q
 refine⟨_,O,O,B.Se (λk e=>by rw[e];rfl),d.toList,D,?_,?_⟩
 ·rw[y1D];intro i j hi A o;rw[y2u] at hi A;have:=x i j (y02 _) o ω;rw[getElem!_pos d i ω,getElem!_pos d j ω] at this;simp only[Ui,decide_eq_false_iff_not] at this;rw[Array.getElem_toList,Array.getElem_toList];omega
 ·have e:d.toList.length=l.length:=by rw[y2u,f]
  rw[e];exact m.sl
structure NuI (w w1:World)(p:Vz)(b5 n11:Nat)(L:List (Cd×Nat))(w':World):Prop where
 ex:∃F,z9C w' n11 L F/\∀k,F k->w1.heap.size<=k
 ext:Ext w w'
 b5:Sk w' b5 (lpC p) 276
 siz:w1.heap.size<=w'.heap.size
theorem NuI.put (h:NuI w w1 p b5 n11 L w2)(f:∀k,F k->w1.heap.size<=k)(q:b5<w1.heap.size)(o:w.heap.size<=w1.heap.size)
  (g:∃c,z9C w3 n11 L' c/\Kp F w2 w3/\∀k,c k->F k\/w2.heap.size<=k):NuI w w1 p b5 n11 L' w3:=by
 obtain⟨c,m,d,n⟩:=g
 have r:=h.siz
 refine⟨⟨c,m,λk l=>?_⟩,h.ext.An d (λk l=>by have:=f k l;omega),d.S4 h.b5 (λe=>by have:=f b5 e;omega),by have:=d.size;omega⟩
 rcases n k l with e| e
 ·exact f k e
 ·omega
structure NuX (w w1 w2:World)(p:Vz)(b5 n11:Nat)(X:Nat->Prop)(L:List (Cd×Nat))(w3:World):Prop where
 ex:∃F,z9C w3 n11 L F/\(∀k,F k->w1.heap.size<=k)/\∀k,F k->¬X k
 ext:Ext w w3
 b5:Sk w3 b5 (lpC p) 276
 siz:w1.heap.size<=w3.heap.size
 kx:Kp (λk=>¬X k) w2 w3
theorem NuX.put (h:NuX w w1 w2 p b5 n11 X L w3)(r:∀k,X k->k<w2.heap.size)(l:∀k,F k->w1.heap.size<=k)(o:∀k,F k->¬X k)(v:b5<w1.heap.size)(u:w.heap.size<=w1.heap.size)
  (g:∃d,z9C w4 n11 L' d/\Kp F w3 w4/\∀k,d k->F k\/w3.heap.size<=k):NuX w w1 w2 p b5 n11 X L' w4:=by
 obtain⟨d,q,f,n⟩:=g
 have x:=h.siz
 have z:=h.kx.size
 refine⟨⟨d,q,λk c=>?_,λk c m=>?_⟩,h.ext.An f (λk c=>by have:=l k c;omega),f.S4 h.b5 (λe=>by have:=l b5 e;omega),by have:=f.size;omega,h.kx.trans (f.Se o)⟩
 ·rcases n k c with e| e
  ·exact l k e
  ·omega
 ·rcases n k c with e| e
  ·exact o k e m
  ·have:=r k m;omega
theorem WK:∀(l:List Nat)(k:Nat),(TP k l).length=l.length
 |[],_=>rfl
 |_::l,k=>by rw[TP,y03,y03,WK l]
theorem z1X:∀(l:List Nat)(k n:Nat),TP k (l++[n])=TP k l++[(.gamma,n-min (k+l.length) 1)]
 |[],k,n=>rfl
 | m :: l, k, n => by
   rw[y0t,TP,z1X l (k+1) n,TP,y0t,y03,show k+1+l.length=k+(l.length+1) by omega]
def z4I:∀{l:List Nat},(∀n∈l,1<=n)->l.length<=l.sum
 |[],_=>y07 _
 | x :: l, h => by
   have d:=h x y0s;have e:=z4I (λn c=>h n (y0u x c));rw[y03,y0L];omega
theorem Xk.z4T (h:Xk rs fs):rs.length<=fs.length+1:=by
 have e:=Wq true rs
 rw[h.exp] at e
 cases rs with
 |nil=>simp
 | cons a d =>
   have f:=z4I (l:=d) (λn c=>h.pos n c);rw[y0L] at e;rw[y03];omega
def z1F:∀l:List Nat,(Tq 0 l).1=[]
 |[]=>by rw[Tq]
 | x :: l => by
   rw[Tq,if_neg ω];exact z1F (l.drop (Tn x l))
 termination_by l=>l.length
 decreasing_by simp[y08];omega
def z22 (l:List (Nat×Nat)):Option Nat:=l.getLast?.map λp=>p.1+p.2-1
theorem z25 (x least:Nat):∀(l:List (Nat×Nat)) (e:Option Nat) (p:Nat×Nat),Tf x least e (l++[p])=Tf x least e l++Tf x least (match l with|[]=>e|_=>z22 l) [p]
 |[],e,p=>by cases e<;>rfl
 | q :: l, e, p => by
   rw[y0t,Vg,Vg,z25 x least l _ p]
   cases l with
   |nil=>rfl
   |cons c l=>rfl
theorem z5F (x least:Nat)(l:List (Nat×Nat))(p:Nat×Nat):Tf x least none (l++[p])=Tf x least none l++[(.gamma,Yb x (z22 l) p.1),(.gamma,p.2-least)]:=by
 rw[z25]
 cases l with
 |nil=>rfl
 |cons q l=>rw[Vg x least (match q::l with|[]=>none|_=>z22 (q::l))];rfl
theorem zfY {off n:Nat}{q:Nat×Nat}(h:Rd w (.slice (some ⟨b,off,none⟩) n cap) 2 n (R.flatMap z5J))(l:R[i]? =some q):∀j u,[I (q.1:Int),I (q.2:Int)][j]? =some u->w.cell? ⟨b,off+i*2+j,none⟩=some u:=by
 intro j u k
 have hi:=(y0p.1 l).1
 rcases h.2 with⟨c,f,x⟩|⟨v,m,d,e,f⟩
 ·have:=h.1;rw[ze3] at this;omega
 ·cases e
  have r:(R.flatMap z5J)[i*2+j]? =some u:=by
   have z:j<2:=(y0p.1 k).1
   have key:∀(R:List (Nat×Nat)) (i:Nat),R[i]? =some q->(R.flatMap z5J)[i*2+j]? =some u:=by
    intro R
    induction R with
    |nil=>intro i h;simp at h
    | cons a R o =>
      intro i h;rw[y0W]
      cases i with
      | zero =>
        rw[y1C] at h;cases h;rw[y0I (by show _<2;omega),y1m,y0g]
        exact k
      | succ i =>
        rw[y10 (by show 2<=_;omega),show(i+1)*2+j-(z5J a).length=i*2+j by show(i+1)*2+j-2=_;omega];exact o i h
   exact key R i l
  have:=f (i*2+j) u r;rw[show off+i*2+j=off+(i*2+j) by omega];exact this
theorem NuX.ex2 (h:NuX w w1 w2 p b5 n11 X L w3)(c:Ext w3 w4):NuX w w1 w2 p b5 n11 X L w4:=by
 obtain⟨⟨F,d,e,f⟩,k,l,n,m⟩:=h
 exact⟨⟨F,d.ext c,e,f⟩,k.trans c,c.S4 l,by have:=c.size;omega,m.trans c.kp⟩
theorem NuX.back (h:NuX w w1 w2 p b5 n11 X L w3)(f:NuX w w1 w3 p b5 n11 X' L' w4)(e:∀k,X k->X' k):NuX w w1 w2 p b5 n11 X L' w4:=by
 obtain⟨⟨F,l,m,n⟩,o,q,r,u⟩:=f
 exact⟨⟨F,l,m,λk c d=>n k c (e k d)⟩,o,q,r,h.kx.trans (u.Se λk c d=>c (e k d))⟩
def NuX.again (h:NuX w w1 w2 p b5 n11 X L w3)(c:z9C w3 n11 L F)(d:∀k,F k->w1.heap.size<=k)(e:∀k,F k->¬X' k):NuX w w1 w3 p b5 n11 X' L w3:=
 ⟨⟨F,c,d,e⟩,h.ext,h.b5,h.siz,Kp.refl _ _⟩
theorem Wc (x least:Nat):∀(l:List (Nat×Nat)) (e:Option Nat),(Tf x least e l).length=2*l.length
 |[],e=>by cases e<;>rfl
 |q::l,e=>by rw[Vg,y03,y03,Wc x least l,y03];omega
theorem z2S {least:Nat}:∀(R:List (Nat×Nat)) (lo i:Nat) (q:Nat×Nat),WA least lo R->R[i]? =some q->1<=q.2/\least<=q.2/\(∀z,z22 (R.take i)=some z->z+2<=q.1)/\(z22 (R.take i)=none->lo<=q.1)
 |[],lo,i,q,h,hq=>by simp at hq
 | p :: R, lo, 0, q, h, hq => by
   rw[y1C] at hq;cases hq
   exact⟨h.2.1,h.2.2.1,(λz c=>by cases c),λ_=>h.1⟩
 | p :: R, lo, i + 1, q, h, hq => by
   rw[y1N] at hq;obtain⟨f,k,m,n⟩:=z2S R _ i q h.2.2.2 hq;have o:1<=p.2:=h.2.1;refine⟨f,k,λz c=>?_,λc=>?_⟩
   ·rw[y3x] at c
    cases d:R.take i with
    | nil =>
      rw[d] at c;have e:p.1+p.2-1=z:=UC c;have:=n (by rw[d];rfl)
      omega
    | cons a l =>
      rw[d] at c;exact m z (by rw[d];exact c)
   ·rw[y3x] at c;exfalso;unfold z22 at c;rw[Option.map_eq_none_iff,List.getLast?_eq_none_iff] at c;cases c
theorem zdN (l:List (Nat×Nat))(q:Nat×Nat):z22 (l++[q])=some (q.1+q.2-1):=by simp[z22]
def zgr {l:List Nat}{q:Nat×Nat}(d:∀y∈l,y<65536)(e:q∈(Tq least l).1)(f:1<=q.2):q.1+q.2<=65536:=by
 have c:q.1+(q.2-1)∈Ut (Tq least l).1:=by
  unfold Ut;exact List.mem_flatMap.2 ⟨q,e,y0k.2 ⟨q.2-1,y0R.2 ω,O⟩⟩
 have:=d _ ((Xp least l).subset (y1X _ c))
 omega
def zg2 (x:Nat):Option Nat->Nat->Nat
 |none,v=>zig ((v:Int)-x)
 |some u,v=>v-u-1
theorem Ws (x k:Nat)(e:Option Nat)(v:Nat)(r:List Nat):Ti x k e (v::r)=(.zeta k,zg2 x e v)::Ti x k (some v) r:=by
 cases e<;>rfl
theorem z2C (x k:Nat):∀(l:List Nat)(e:Option Nat) (v:Nat),Ti x k e (l++[v])=Ti x k e l++Ti x k (match l with|[]=>e|_=>l.getLast?) [v]
 |[],e,v=>by cases e<;>rfl
 | u :: l, e, v => by
   rw[y0t,Ws,Ws,z2C x k l _ v]
   cases l with
   |nil=>rfl
   |cons c l=>rfl
theorem z1f (x k:Nat)(l:List Nat)(v:Nat):Ti x k none (l++[v])=Ti x k none l++[(.zeta k,zg2 x l.getLast? v)]:=by
 rw[z2C]
 cases l with
 |nil=>rfl
 |cons u l=>rw[Ws x k (match u::l with|[]=>none|_=>(u::l).getLast?)];cases (u::l).getLast?<;>rfl
theorem X9 (x k:Nat):∀(l:List Nat)(e:Option Nat),(Ti x k e l).length=l.length
 |[],e=>by cases e<;>rfl
 |v::l,e=>by rw[Ws,y03,X9 x k l,y03]
theorem Tj {α:Type}{l:List α}{q:α}(h:l[i]? =some q):l.take (i+1)=l.take i++[q]:=by
 rw[List.take_succ,h];rfl
theorem z2a (p:Vz)(hp:p.U8)(x:Nat)(hx:x<65536){rc:Nat}(succ ref:List Nat)(hs:T4 succ)(hr:T4 ref)(r:Nat)(jW:r<=p.SH)(jN:r=0->ref=[])
  (hG:Sk w 1 (W5 .gamma) 314) (hU:Sk w 2 (W5 .unary) 314) (eY:Rd w (.slice sa succ.length sc) 1 succ.length (succ.map SV)) (nt:Rd w (.slice ra ref.length rc) 1 ref.length (ref.map SV)) (iB:succ.length<=sc) (lJ:ref.length<=rc):
  SG prog 199 [lpV p,I (x:Int),.slice sa succ.length sc,.slice ra ref.length rc,I (r:Int)] w λu w'=>Sl w' u 316 3 (V7 p x succ ref r).length ((V7 p x succ ref r).flatMap zau)/\(∀g,u.ownBlock=some g->w.heap.size<=g)/\Ext w w':=by
 obtain⟨g1,g2,g3,g4⟩:=id hp
 have ic:=hs.len
 have iV:=hr.len
 refine py (e:=[(0,_),(1,_),(2,_),(3,_),(4,_)]) func199 O ntmps199 O O<|qN O<|Sd O O (UD O (cs:=lpC p) O) ?_
 rintro _ w1⟨b5,rfl,gC,aa,aF⟩
 have z1:=aa.size
 have l5:=aF.lt
 refine Up O<|qV (SO (news:=[.int .u8 1,Su 0]) Vy O Un O ((aa.S4 hG).cells (n:=2) O) O)<|Sf O<|UR SR O<|qV (TM O U3 Va ω)<|qV (VI (cs:=[_,_,_]) Zl O ziw O O)<|Sd O O (pbs (cs:=[_,_,_]) (zs:=[Value.int .u8 0,Value.int .u64 0,Value.int .u64 0]) z4y Zl O y00 O O O ψ) ?_
 rintro _ w2⟨b2,rfl,⟨bS,ae,ak⟩,dv⟩
 have z2:=ae.size
 have l2:=ak.lt
 refine Sd O O (UK (cs:=[_]) zeF O) ?_
 rintro _ w3⟨n11,rfl,jR,ah,bq⟩
 have z3:=ah.size
 refine Sm O (TO zeF O O O bq ξ) ?_
 rintro w4⟨mG,ao⟩
 have z4:=ao.size
 replace mG:Sk w4 n11 [.slice (some ⟨b2,0,none⟩) 1 1] 311:=mG
 have eF:=(dv.ext ah).kp ao (λg hg e=>by have f:b2=g:=UC hg;omega)
 have yL:NuI w w1 p b5 n11 [(.gamma,succ.length)] w4:=⟨⟨fpW n11 (.slice (some ⟨b2,0,none⟩) 1 1),⟨_,⟨mG,eF,λe=>by have f:b2=n11:=UC e;omega⟩,λ_=>y0U⟩,λk d=>by
   rcases d with e| e
   ·omega
   ·have f:b2=k:=UC e
    omega⟩,((aa.trans ae).trans ah).An ao (λk e=>ω),ao.S4 (ah.S4 (ae.S4 aF)) ω,ω⟩
 refine S5<|SX O<|UR SR O<|U7 O<|S5<|So O (λe0=>?_)<|λe0=>?_
 ·have fM:succ=[]:=y0x ω;subst fM;refine qN O<|qV (Sc z4y O O mG O)<|Sq O<|S3 func199 O ?_;have ns:V7 p x [] ref r=[(.gamma,0)]:=by simp[V7]
  rw[ns];exact⟨_,O,eF,λg hg=>by have f:b2=g:=UC hg;omega,yL.ext⟩
 ·have fA := yL.b5; replace fA : Sk w4 b5 [I (p.SH : Int), I (p.interval : Int), I (p.zeta : Int)] 276 := fA; refine S6 (qN O (qV (ymf (first := []) (caps := [.tmp 11]) O O) (Sq O (It (qN O (Sn Xd O (qV (Sc U3 O O fA O) (Ub O (S5 (Tc (λT w' => T = [(1, I (x : Int)), (2, .slice sa succ.length sc), (3, .slice ra ref.length rc), (4, I (r : Int)), (5, ptr b5 0), (11, ptr n11 0), (12, .func (.func 220) #[] #[ptr n11 0])] /\ NuI w w1 p b5 n11 ([(.gamma, succ.length)] ++ (if 0 < p.SH then [(.unary, r)] else [])) w') ?bL (λbL => ?dE)))))))))))
  case bL =>
   rintro T w5⟨rfl,vQ⟩;have FG:=vQ.siz;refine qN O (Sd O O (pbs (cs:=[_]) (zs:=[Value.int .i64 0]) Tx T8 O y00 O O O ψ) ?_);rintro _ w6⟨C,rfl,⟨FI,aM,eC⟩,ph⟩;have l6:=eC.lt;refine Sd O O (UK (cs:=[_]) ZA O) ?_;rintro _ w7⟨rn,rfl,N1,bV,A3⟩;have l7:=A3.lt;have z7:=bV.size;refine Sd O O (UK (cs:=[_]) VR O) ?_;rintro _ w8⟨lf,rfl,N2,dw,A4⟩;have l8:=A4.lt;have z8:=dw.size;refine Sm O (TO ZA O O O (dw.S4 A3) ξ) ?_;rintro w9⟨pi,aK⟩;have z9:=aK.size;replace pi:Sk w9 rn [.slice (some ⟨C,0,none⟩) 1 1] 37:=pi;refine Sm O (TO VR O O O (aK.S4 A4 ω) ξ) ?_;rintro J⟨lK,aD⟩;have aj:=aD.size;replace lK:Sk J lf [.slice none 0 0] 40:=lK;have ie:Ext w5 J:=(((aM.trans bV).trans dw).An aK (λk e=>ω)).An aD (λk e=>ω)
   have rX:NuI w w1 p b5 n11 ([(.gamma,succ.length)]++(if 0<p.SH then [(.unary,r)] else [])) J:=by
    obtain⟨⟨F,f,h2⟩,h3,h4,h5⟩:=vQ;exact⟨⟨F,f.ext ie,h2⟩,h3.trans ie,ie.S4 h4,by have:=ie.size;omega⟩
   have cA:=(((ph.ext bV).ext dw).kp aK (λg hg e=>by have f:C=g:=UC hg;omega)).kp aD (λg hg e=>by have f:C=g:=UC hg;omega);have N3:z6L J lf [] (fpW lf (.slice none 0 0)):=⟨_,⟨lK,Sl.nil _ _ _,λe=>by cases e⟩,λ_=>y0U⟩;have N4:z5x J rn [0] (fpW rn (.slice (some ⟨C,0,none⟩) 1 1)):=⟨_,⟨aD.S4 pi ω,cA,λe=>by have f:C=rn:=UC e;omega⟩,λ_=>y0U⟩
   have nv:∀k,fpW lf (.slice none 0 0) k->k=lf:=λk d=>by
    rcases d with e| e
    ·exact e
    ·cases e
   have mB:∀k,fpW rn (.slice (some ⟨C,0,none⟩) 1 1) k->k=rn\/k=C:=λk d=>by
    rcases d with e| e
    ·exact .inl e
    ·exact .inr (UC e).symm
   have cV:∀k,fpW lf (.slice none 0 0) k\/fpW rn (.slice (some ⟨C,0,none⟩) 1 1) k->w5.heap.size<=k:=λk d=>by
    rcases d with e| e
    ·have:=nv k e;omega
    ·rcases mB k e with e|e<;>omega
   have hE:XM J succ ref lf rn (fpW lf (.slice none 0 0)) (fpW rn (.slice (some ⟨C,0,none⟩) 1 1)) succ sa sc ref ra rc [] [0] J:=by
    refine⟨⟨_,_,[],N3,N4,Xk.zero,by simpa using iV,by simp;omega,λk h=> .inl h,λk h=> .inl h,λk f h2=>?_⟩,λw2 k=>?_,λw2 k=>?_,iB,lJ,Kp.refl _ _,hs,hr,rfl,rfl,by simpa using ic⟩
    ·have e1:=nv k f;rcases mB k h2 with G|G<;>omega
    ·exact(eY.ext rX.ext).kpz k (λh0 g hg W=>by have e1:=eY.ltz ψ h0 hg;have G:=cV g W;omega)
    ·exact(nt.ext rX.ext).kpz k (λh0 g hg W=>by have e1:=nt.ltz ψ h0 hg;have G:=cV g W;omega)
   refine qM O<|Sz O<|qV (ymf (first:=[]) (caps:=[.tmp 14,.tmp 13]) O O)<|Sr zkW O (zgj hE) ?_;rintro _ M⟨rfl,FL,FR,A7,rY,FJ,FK,qX,bu⟩
   have rZ:NuI w w1 p b5 n11 ([(.gamma,succ.length)]++(if 0<p.SH then [(.unary,r)] else [])) M:=by
    have aJ:Kp (λk=>fpW lf (.slice none 0 0) k\/fpW rn (.slice (some ⟨C,0,none⟩) 1 1) k) J M:=bu;have FM:=vQ.ex;obtain⟨⟨F,f,h2⟩,h3,h4,h5⟩:=rX;obtain⟨F5,h6,h7⟩:=FM;have gC:b5<w5.heap.size:=vQ.b5.lt;refine⟨⟨F5,(h6.ext ie).kp aJ (λk d W=>by have e1:=h6.lt d;have G:=cV k W;omega),h7⟩,h3.An aJ (λk d=>by have G:=cV k d;have:=vQ.ext.size;omega),aJ.S4 h4 (λW=>by have G:=cV b5 W;omega),by have:=aJ.size;omega⟩
   generalize hA:([(Cd.gamma,succ.length)]++(if 0<p.SH then [(Cd.unary,r)] else []):List (Cd×Nat))=A at rZ rX vQ
   have L0:A.length<=2:=by rw[<-hA];split<;>simp
   have je:∀k,(FL k\/FR k)->k<M.heap.size:=λk d=>by
    rcases d with e| e
    ·exact A7.lt e
    ·exact rY.lt e
   have s6:NuX w w1 M p b5 n11 (λk=>FL k\/FR k) A M:=by
    obtain⟨F5,h6,h7⟩:=vQ.ex;have L3:=ie.size;refine⟨⟨F5,(h6.ext ie).kp bu (λk d W=>by have e1:=h6.lt d;have G:=cV k W;omega),h7,λk d D=>?_⟩,rZ.ext,rZ.b5,rZ.siz,Kp.refl _ _⟩;have e1:=h6.lt d;rcases D with e| e
    ·rcases FJ k e with G|G
     ·have:=cV k (.inl G);omega
     ·omega
    ·rcases FK k e with G|G
     ·have:=cV k (.inr G);omega
     ·omega
   refine S5<|SX O<|Ub O<|S5<|Tc (λT w'=>T=[(1,I (x:Int)),(5,ptr b5 0),(11,ptr n11 0),(12,.func (.func 220) #[] #[ptr n11 0]),(14,ptr lf 0)]/\NuX w w1 M p b5 n11 (λk=>FL k\/FR k) (A++(if 0<r then(.gamma,(UJ succ ref).length-1)::TP 0 (UJ succ ref).dropLast else [])) w') ?dq<|λdq=>?gU
   case dq =>
    rintro T b⟨rfl,jX⟩;have jE:succ≠[]:=λe=>e0 (by rw[e];rfl)
    generalize hB:(if 0<r then(Cd.gamma,(UJ succ ref).length-1)::TP 0 (UJ succ ref).dropLast else []:List (Cd×Nat))=B at jX
    have A8:=A7.kp jX.kx (λk d e=>e (.inl d));obtain⟨vl,yM,R8⟩:=A8;obtain⟨la,lc,rfl,-⟩:=yM.sl.rd.shape;obtain⟨F,⟨vn,uj,A9⟩,s9,FN⟩:=id jX.ex;have Aa:=yM.S4;have yN:=uj.S4;refine It<|qN O<|qV (Sc SR O O Aa O)<|UR SR O<|U7 O<|S5<|So O (λe3=>?_)<|λe3=>?_
    ·have iJ:SL succ ref=[]:=y0x ω
     have dM:V7 p x succ ref r=A++B:=by
      unfold V7;rw[if_neg jE,if_pos iJ,y0q,<-hA,<-hB];rfl
     refine qN O<|qV (Sc z4y O O yN O)<|Sq O<|S3 func199 O ?_;rw[dM];exact⟨_,O,uj.sl,λg hg=>by have:=s9 g ((A9 g).2 (.inr hg));omega,jX.ext⟩
    ·have uk := jX.b5; replace uk : Sk b b5 [I (p.SH : Int), I (p.interval : Int), I (p.zeta : Int)] 276 := uk; refine S6 (qN O (qV (Sc SR O O Aa O) (Sn XP O (qV (Sc U3 O O uk O) ?_)))); have aq : T4 (SL succ ref) := hs.sub y1U; have N5 := aq.len
     have rk:(SL succ ref).length<=lc:=by
      rcases yM.sl.shape with⟨-,h0⟩|⟨g,c1,hv,eJ⟩
      ·omega
      ·cases hv;exact eJ
     refine Sr zlF O (zgc la lc (SL succ ref) p.interval aq rk ω b yM.sl.rd) ?_;rintro _ N⟨v4,Z,rfl,nw,pj,aT,sd,pn,L4⟩;have dW:=Yl p.interval (SL succ ref);have sg:T4 (Tq p.interval (SL succ ref)).2:=aq.sub dW
     have fx:∀k,(v4.ownBlock=some k\/Z.ownBlock=some k)->b.heap.size<=k/\k<N.heap.size:=λk d=>by
      rcases d with e| e
      ·exact⟨sd k e,nw.lt e⟩
      ·exact⟨pn k e,pj.lt e⟩
     have sh:NuX w w1 N p b5 n11 (λk=>v4.ownBlock=some k\/Z.ownBlock=some k) (A++B) N:=by
      have lw:∀k,F k->k<b.heap.size:=λk d=>by
       rcases (A9 k).1 d with e| e
       ·rw[e];exact uj.S4.lt
       ·exact uj.sl.lt e
      have Ab:z9C b n11 (A++B) F:=⟨vn,uj,A9⟩;exact⟨⟨F,Ab.ext aT,s9,λk d D=>by have e1:=lw k d;have G:=(fx k D).1;omega⟩,jX.ext.trans aT,aT.S4 jX.b5,by have e1:=jX.siz;have G:=aT.size;omega,Kp.refl _ _⟩
     have Ac:=aT.S4 uk;have N6:=nw.oneV;have N7:=pj.oneV;refine Sf O<|Vk O<|To O<|It<|qN O<|Sn XP O<|qV (Sc U3 O O Ac O)<|Ub O<|S5 ?_
     have N8:(A++B).length<=200000:=by
      rw[y01,<-hB];split
      ·rw[y03,WK,y2n];have f:=(WT succ ref).z4T;rw[y0h] at f;omega
      ·simp;omega
     generalize hQ:Tq p.interval (SL succ ref)=Q at nw pj sg dW
     have R9:Q.1.length<=65536:=by
      have f:=Xp p.interval (SL succ ref);have h2:=f.length_eq;rw[hQ,y01] at h2
      have h3:∀R:List (Nat×Nat),WA p.interval 0 R->R.length<=(Ut R).length:=by
       have h4:∀(R:List (Nat×Nat)) (lo:Nat),WA p.interval lo R->R.length<=(Ut R).length:=by
        intro R
        induction R with
        |nil=>intro lo h;exact y07 _
        | cons q R ih =>
          intro lo h;have h5:=ih _ h.2.2.2;have h6:1<=q.2:=h.2.1;rw[show Ut (q::R)=(List.range q.2).map (q.1+·)++Ut R from rfl,y01,y0h,y16,y03];omega
       exact λR h=>h4 R 0 h
      have h5:=h3 _ (YR p.interval (SL succ ref) 0 aq.ris (λy _=>y02 _));rw[hQ] at h5;omega
     have sj:WA p.interval 0 Q.1:=by have h:=YR p.interval (SL succ ref) 0 aq.ris (λy _=>y02 _);rwa [hQ] at h
     have vR:∀q∈Q.1,1<=q.2->q.1+q.2<=65536:=λq hq f=>zgr (least:=p.interval) aq.lt (by rw[hQ];exact hq) f
     have Ad:∃j K,v4= .slice j Q.1.length K:=by
      obtain⟨j,K,e,-⟩:=nw.rd.shape;exact⟨j,K,e⟩
     obtain⟨j,K,rfl⟩:=Ad;refine Tc (λT w'=>T=[(1,I (x:Int)),(5,ptr b5 0),(11,ptr n11 0),(12,.func (.func 220) #[] #[ptr n11 0]),(17,.slice j Q.1.length K),(18,Z)]/\NuX w w1 N p b5 n11 (λk=>(Value.slice j Q.1.length K).ownBlock=some k\/Z.ownBlock=some k) (A++B++if 0<p.interval then [(.gamma,Q.1.length)] else []) w') ?az<|λaz=>?eO
     case az =>
      rintro T a6⟨rfl,Ae⟩;refine TU O<|SX O<|UR zeR O<|Sf O<|S5<|S7 ?_
      generalize FO:(if 0<p.interval then [(Cd.gamma,Q.1.length)] else []:List (Cd×Nat))=C0 at Ae
      refine VB (λT w'=>T=[(1,I (x:Int)),(5,ptr b5 0),(11,ptr n11 0),(12,.func (.func 220) #[] #[ptr n11 0]),(18,Z)]/\NuX w w1 N p b5 n11 (λk=>(Value.slice j Q.1.length K).ownBlock=some k\/Z.ownBlock=some k) (A++B++C0++Tf x p.interval none Q.1) w') ?bX<|λbX=>?pf
      case bX =>
       rintro T a0⟨rfl,t⟩;obtain⟨s,ii,nx,jY⟩:=t.ex;have po:=t.b5;replace po:Sk a0 b5 [I (p.SH:Int),I (p.interval:Int),I (p.zeta:Int)] 276:=po;refine qN O (Sn z3T O (qV (Sc U3 O O po O) (qV (TM O U3 Va ω) (qV (VI (cs:=[_,_]) Un O zj6 O O) (Sd O O (UK (cs:=[_,_]) Un O) ?_)))));rintro _ ac⟨E,rfl,FP,bZ,jf⟩;have af:=bZ.size;refine Sm O (Ta (news:=[.int .u8 3,Su p.zeta]) Un O O O O jf ξ) ?_;rintro o⟨mH,dY⟩;replace mH:Sk o E [.int .u8 3,Su p.zeta] 314:=mH;have L:Ext a0 o:=bZ.An dY (λk e=>ω);have al:=L.size;have jF:¬s E:=λe=>by have:=ii.lt e;omega
       have jg:=(pj.kp t.kx (λg hg e=>e (.inr hg))).ext L
       obtain⟨ha,hc,e5⟩:∃a c,Z= .slice a Q.2.length c:=by
        obtain⟨j,K,e,-⟩:=pj.rd.shape;exact⟨j,K,e⟩
       subst e5;have ny:=(t.ex2 L).again (X':=λk=>(Value.slice ha Q.2.length hc).ownBlock=some k\/k=E) (ii.ext L) nx (λk d D=>by rcases D with D|e;exact jY k d (.inr D);exact jF (e▸d));have ai:=mH.lt
       have gx:∀k,((Value.slice ha Q.2.length hc).ownBlock=some k\/k=E)->k<o.heap.size:=λk d=>by
        rcases d with e| e
        ·have:=jg.lt e;omega
        ·omega
       have Ra:=sg.len
       have E3:(A++B++C0++Tf x p.interval none Q.1).length<=400000:=by
        rw[y01,y01,Wc,<-FO];split<;>simp only[y03,y1e]<;>omega
       refine S5<|SX O<|UR SR O<|Sf O<|S5<|S7<|UW (α:=Nat) (0) (λi=>[(1,I (x:Int)),(11,ptr n11 0),(12,.func (.func 220) #[] #[ptr n11 0]),(18,.slice ha Q.2.length hc),(22,ptr E 0),(138,.slice ha Q.2.length hc),(139,I (Q.2.length:Int)),(140,I (i:Int))]) (λi w'=>NuX w w1 o p b5 n11 (λk=>(Value.slice ha Q.2.length hc).ownBlock=some k\/k=E) (A++B++C0++Tf x p.interval none Q.1++Ti x p.zeta none (Q.2.take i)) w'/\i<=Q.2.length) (λi=>Q.2.length-i) ?hI ?hround
       case hI=>exact⟨by simpa[Ti] using ny,y02 _⟩
       case hround=>
        rintro i S⟨V,hi⟩ ih
        try dsimp only
        refine qN O<|TW O<|S5<|It<|So O (λe5=>?_)<|λe5=>?_
        ·have dF:i<Q.2.length:=ω
         obtain⟨v,hv⟩:∃v,Q.2[i]? =some v:=⟨_,y04 dF⟩;have Af:v<65536:=sg.lt v (y0i hv);have Ag:=jg.kp V.kx (λg hg e=>e (.inl hg))
         obtain⟨g5,c5,e6⟩:∃g c,Value.slice ha Q.2.length hc= .slice (some ⟨g,0,none⟩) Q.2.length c:=by
          rcases jg.shape with⟨-,h0⟩|⟨g,c,e,hc⟩
          ·omega
          ·exact⟨g,c,e⟩
         cases e6;obtain⟨X,mI,sk,iX⟩:=V.ex;have sq:=V.kx.S4 mH (λe=>e (.inr O));have ul:¬X E:=λe=>iX E e (.inr O);have hg:=Ext.Sv S;have E4:=V.ex2 hg
         have sr:(A++B++C0++Tf x p.interval none Q.1++Ti x p.zeta none (Q.2.take i)).length<=500000:=by
          rw[y01,X9,y0c];omega
         refine S6 (TZ (SE O (qV (Tm SR Sy O O ω) (qV (SQ U0 O O (TF Ag.rd (show(Q.2.map SV)[i]? =some (SV v) by rw[y0l,hv];rfl))) ?_))));refine Vj O<|TR O<|U7 O<|S5<|So O (λe6=>?_)<|λe6=>?_
         ·have P:i=0:=ω
          refine Ux (λw'=>Kp X S w') O (St 0 O O hg.kp (St 2 O O hg.kp (S8 3 O (T7 O U0 U2 ω) hg.kp (St 4 O O hg.kp (S8 5 O (ysb O O ω) hg.kp (qT 1 O (λ_ h=>SO (news:=[.int .u8 3,Su p.zeta]) Vy O Un O ((h.S4 sq ul).cells (n:=2) O) O) hg.kp (VF 6 O zjb O (zc0 ((v:Int)-x) ω _) ?_)))))));rintro _ a7⟨rfl,rfl⟩;refine⟨hg.kp,?_⟩;have Ah:=z32 (z:=(v:Int)-x) (n:=65537) ω ω;refine S8 7 O (T7 O Va U3 ω) hg.kp (qO 8 (z0r (i:=8) O O O (Vc z1W O O) (X4 (mI.ext hg) ω (.zeta p.zeta) (zig ((v:Int)-x)) ω) ?_));rintro _ ad⟨rfl,a3,vS,pp,vT⟩;refine⟨hg.kp.trans pp,?_⟩;have ss:=E4.put gx sk iX l5 z1 ⟨a3,vS,pp,vT⟩;refine qE (S2 (Sg O (Tr O (Sf O (S5 ((ih (i+1) _ ⟨?_,ω⟩ ω).qb))))));rw[Tj hv,z1f,<-y06,show Q.2.take i=[] by rw[P];rfl];rw[show Q.2.take i=[] by rw[P];rfl] at ss;exact ss
         ·have P:0<i:=ω
          obtain⟨u,hu⟩:∃u,Q.2[i-1]? =some u:=⟨_,y04 ω⟩
          have L5:u<v:=by
           obtain⟨a1,a2⟩:=y0p.1 hu;obtain⟨b1,b2⟩:=y0p.1 hv;have:=y1D.1 sg.ris (i-1) i a1 b1 ω
           rwa [a2,b2] at this
          refine Ux (λw'=>Kp X S w') O (St 0 O O hg.kp (St 2 O O hg.kp (St 3 O O hg.kp (St 4 O O hg.kp (qT 1 O (λ_ h=>SO (news:=[.int .u8 3,Su p.zeta]) Vy O Un O ((h.S4 sq ul).cells (n:=2) O) O) hg.kp (S8 5 O (ysb O O ω) hg.kp ?_))))));rw[show(i:Int)-1=((i-1:Nat):Int) by omega];refine S8 6 O (Tm SR Sy O O ω) hg.kp (qT 7 O (λ_ W=>SQ U0 O O (TF (Ag.kp W (λg hg e=>iX g e (.inl hg))).rd (show(Q.2.map SV)[i-1]? =some (SV u) by rw[y0l,hu];rfl))) hg.kp ?_);refine S8 8 O (z0q (m:=v) (n:=u) O O O (by show v<2^32;omega) ω) hg.kp ?_;refine S8 9 O (z0q (m:=v-u) (n:=1) O O O (by show v-u<2^32;omega) ω) hg.kp ?_;refine S8 10 O (T7 O U0 U3 ω) hg.kp (qO 11 (z0r (i:=11) O O O (Vc z1W O O) (X4 (mI.ext hg) ω (.zeta p.zeta) (v-u-1) ω) ?_));rintro _ ad⟨rfl,a3,vS,pp,vT⟩;refine⟨hg.kp.trans pp,?_⟩;have ss:=E4.put gx sk iX l5 z1 ⟨a3,vS,pp,vT⟩;refine qE (S2 (Sg O (Tr O (Sf O (S5 ((ih (i+1) _ ⟨?_,ω⟩ ω).qb))))));rw[Tj hv,z1f,<-y06,List.getLast?_take,if_neg ω,hu];exact ss
        ·have de:i=Q.2.length:=ω
         rw[de,y0K] at V;obtain⟨F,⟨vn,uj,A9⟩,s9,FN⟩:=id V.ex;have yN:=uj.S4
         have dM:V7 p x succ ref r=A++B++C0++Tf x p.interval none Q.1++Ti x p.zeta none Q.2:=by
          have iJ:¬SL succ ref=[]:=λe=>e3 (by rw[e];rfl);unfold V7;rw[if_neg jE,if_neg iJ,hQ,hB,<-hA,<-FO];by_cases P:0<p.interval
          ·simp only[if_pos P,y06,y0t,y18]
          ·have cy:Q.1=[]:=by rw[<-hQ,show p.interval=0 by omega];exact z1F _
           rw[cy];simp only[if_neg P,y06,y0t,y18,Tf]
         refine Sh O<|qN O<|qV (Sc z4y O O yN O)<|Sq O<|S3 func199 O ?_;rw[dM];exact⟨_,O,uj.sl,λg hg=>by have:=s9 g ((A9 g).2 (.inr hg));omega,V.ext⟩
      case pf=>
       refine UW (α:=Nat) (0) (λi=>[(1,I (x:Int)),(5,ptr b5 0),(11,ptr n11 0),(12,.func (.func 220) #[] #[ptr n11 0]),(18,Z),(19,I (zbr (z22 (Q.1.take i)))),(94,.slice j Q.1.length K),(95,I (Q.1.length:Int)),(96,I (i:Int))]) (λi w'=>NuX w w1 N p b5 n11 (λk=>(Value.slice j Q.1.length K).ownBlock=some k\/Z.ownBlock=some k) (A++B++C0++Tf x p.interval none (Q.1.take i)) w'/\i<=Q.1.length) (λi=>Q.1.length-i) ?hI ?hround
       case hI=>exact⟨by simpa[Tf] using Ae,y02 _⟩
       case hround =>
        rintro i a0⟨t,hi⟩ ih
        try dsimp only
        refine qN O<|TW O<|S5<|It<|So O (λe5=>?_)<|λe5=>?_
        ·have dF:i<Q.1.length:=ω
         obtain⟨⟨H,Y⟩,hq⟩:∃q,Q.1[i]? =some q:=⟨_,y04 dF⟩;obtain⟨a4,ab,a5,-⟩:=z2S Q.1 0 i (H,Y) sj hq;dsimp only at a4 ab a5;have Rb:H+Y<=65536:=vR (H,Y) (y0i hq) a4;have FQ:=nw.kp t.kx (λg hg e=>e (.inl hg))
         obtain⟨g4,c4,e4⟩:∃g c,Value.slice j Q.1.length K= .slice (some ⟨g,0,none⟩) Q.1.length c:=by
          rcases nw.shape with⟨-,h0⟩|⟨g,c,e,hc⟩
          ·omega
          ·exact⟨g,c,e⟩
         cases e4;obtain⟨s,ii,nx,jY⟩:=t.ex;refine S6 (TZ (qN O (qV (Tm zeR z4Q O O ω) (qV (SO (news:=[I (H:Int),I (Y:Int)]) zhZ O z4Q O (zfY FQ.rd hq) O) (Sd O O (UK (cs:=[_,_]) z4Q O) ?_)))));rintro _ ac⟨U,rfl,FS,bZ,FT⟩;have af:=bZ.size;refine Sm O (Ta (news:=[I (H:Int),I (Y:Int)]) z4Q O O O O FT ξ) ?_;rintro o⟨ij,dY⟩;replace ij:Sk o U [I (H:Int),I (Y:Int)] 348:=ij;have L:Ext a0 o:=bZ.An dY (λk e=>ω);have ny:=t.ex2 L;have jF:¬s U:=λe=>by have:=ii.lt e;omega
         have qY:¬s 1:=λe=>by have:=nx 1 e;have:=hG.lt;omega
         have E3:(A++B++C0++Tf x p.interval none (Q.1.take i)).length<=400000:=by
          rw[y01,y01,Wc,y0c,<-FO];split<;>simp only[y03,y1e]<;>omega
         refine S5<|SX O<|TW O<|S5 ?_;have um:=ny.again (X':=(λk=>((Value.slice (some ⟨g4,0,none⟩) Q.1.length K).ownBlock=some k\/Z.ownBlock=some k)\/k=U)) (ii.ext L) nx (λk d D=>by rcases D with D|e;exact jY k d D;exact jF (e▸d));have N9:=L.size;have ag:=ij.lt
         have gx:∀k,(((Value.slice (some ⟨g4,0,none⟩) Q.1.length K).ownBlock=some k\/Z.ownBlock=some k)\/k=U)->k<o.heap.size:=λk d=>by
          rcases d with e| e
          ·have:=(fx k e).2;have:=t.kx.size;omega
          ·omega
         refine Tc (λT w'=>T=[(1,I (x:Int)),(5,ptr b5 0),(11,ptr n11 0),(12,.func (.func 220) #[] #[ptr n11 0]),(18,Z),(21,ptr U 0),(94,.slice (some ⟨g4,0,none⟩) Q.1.length K),(95,I (Q.1.length:Int)),(96,I (i:Int))]/\NuX w w1 o p b5 n11 (λk=>((Value.slice (some ⟨g4,0,none⟩) Q.1.length K).ownBlock=some k\/Z.ownBlock=some k)\/k=U) (A++B++C0++Tf x p.interval none (Q.1.take i)++[(.gamma,Yb x (z22 (Q.1.take i)) H)]) w') ?cO<|λcO=>?FW
         case cO=>
          rintro T S⟨rfl,V⟩;obtain⟨X,mI,sk,iX⟩:=V.ex;have Ai:=V.kx.S4 ij (λe=>e (.inr O));have pq:=V.b5;replace pq:Sk S b5 [I (p.SH:Int),I (p.interval:Int),I (p.zeta:Int)] 276:=pq;refine SE O<|qV (SO (news:=[.int .u8 1,Su 0]) Vy O Un O ((V.ext.S4 hG).cells (n:=2) O) O)<|Sn zbP O<|qV (Sc U3 O O Ai O)<|Sn XP O<|qV (Sc U3 O O pq O)<|UO O ?_;rw[show(Y:Int)-(p.interval:Int)=((Y-p.interval:Nat):Int) by omega];refine Uk O O (Vc z1W O O) (X4 mI (by rw[y01,y1q];omega) .gamma (Y-p.interval) ω) ?_;rintro _ a7⟨rfl,FU⟩;have Aj:=V.put gx sk iX l5 z1 FU;have un:=Aj.kx.S4 ij (λe=>e (.inr O));refine S5<|Sg O<|Sn z74 O<|qV (Sc U3 O O un O)<|Sn zbP O<|qV (Sc U3 O O un O)<|Tr O<|UO O<|Sq O<|S2<|Sg O<|Tr O<|Sf O<|S5 ?_;rw[show(H:Int)+Y-1=zbr (z22 (Q.1.take (i+1))) by rw[Tj hq,zdN];show _=((H+Y-1:Nat):Int);omega];refine(ih (i+1) _ ⟨?_,ω⟩ ω).qb;rw[Tj hq,z5F,<-y06,show [(Cd.gamma,Yb x (z22 (Q.1.take i)) H),(Cd.gamma,Y-p.interval)]=[(Cd.gamma,Yb x (z22 (Q.1.take i)) H)]++[(Cd.gamma,Y-p.interval)] from rfl,<-y06];exact ny.back Aj (λk d=> .inl d)
         case FW=>
          have hg:=Ext.Sv o;have E4:=um.ex2 hg
          cases hE:z22 (Q.1.take i) with
          | none =>
            refine So O (λe6=>?_)<|λe6=>?_
            ·refine Ux (λw'=>Kp s o w') O (St 0 O O hg.kp (S8 2 O (SN z74 O) hg.kp (qT 3 O (λ_ h=>Sc U3 O O (h.S4 ij jF) O) hg.kp (St 4 O O hg.kp (S8 5 O (ysb O O ω) hg.kp (qT 1 O (λ_ W=>SO (news:=[.int .u8 1,Su 0]) Vy O Un O ((W.S4 (ny.ext.S4 hG) qY).cells (n:=2) O) O) hg.kp (VF 6 O zjb O (zc0 ((H:Int)-x) ω _) ?_)))))));rintro _ S⟨rfl,rfl⟩;refine⟨hg.kp,?_⟩;have Ah:=z32 (z:=(H:Int)-x) (n:=65537) ω ω;refine S8 7 O (T7 O Va U3 ω) hg.kp (qO 8 (z0r (i:=8) O O O (Vc z1W O O) (X4 ((ii.ext L).ext hg) ω .gamma (zig ((H:Int)-x)) ω) ?_));rintro _ a7⟨rfl,a9,FX,Ak,FY⟩;refine⟨hg.kp.trans Ak,?_⟩;refine qE ?_;exact(cO _ _ ⟨O,by rw[hE];exact E4.put gx nx (λk d D=>by rcases D with D|e;exact jY k d D;exact jF (e▸d)) l5 z1 ⟨a9,FX,Ak,FY⟩⟩).qb
            ·exact absurd ψ e6
          | some z =>
            refine So O (λe6=>?_)<|λe6=>?_
            ·exact absurd e6 (by show ¬((z:Int)<0);omega)
            ·have hz:=a5 z hE;refine Uw O<|qV (SO (news:=[.int .u8 1,Su 0]) Vy O Un O ((ny.ext.S4 hG).cells (n:=2) O) O) ?_;rw[show zbr (some z)=(z:Int) from rfl];refine Sn z74 O<|qV (Sc U3 O O ij O)<|Sf O<|UO O<|UO O ?_;rw[show(H:Int)-z-2=((H-z-2:Nat):Int) by omega];refine Uk O O (Vc z1W O O) (X4 (ii.ext L) ω .gamma (H-z-2) ω) ?_;rintro _ S⟨rfl,FZ⟩;refine S5 ?_;exact(cO _ _ ⟨O,by rw[hE];exact um.put gx nx (λk d D=>by rcases D with D|e;exact jY k d D;exact jF (e▸d)) l5 z1 FZ⟩).qb
        ·have de:i=Q.1.length:=ω
         rw[de,y0K] at t;refine Sh O ?_;exact(bX _ _ ⟨O,t⟩).qb
     case eO=>
      refine So O (λe4=>?_)<|λe4=>?_
      ·have P:0<p.interval:=ω
       obtain⟨a8,pu,vU,pw⟩:=sh.ex;refine Uw O (qV (SO (news:=[.int .u8 1,Su 0]) Vy O Un O ((sh.ext.S4 hG).cells (n:=2) O) O) (Sf O (UR zeR O (Uk O O (Vc z1W O O) (X4 pu ω .gamma Q.1.length ω) ?_))));rintro _ a6⟨rfl,vV⟩;refine S5<|SI.qb (e:=[(1,_),(5,_),(11,_),(12,_),(17,_),(18,_)]) ?_;exact(az _ _ ⟨O,by rw[if_pos P];exact sh.put (λk d=>(fx k d).2) vU pw l5 z1 vV⟩).qb
      ·have P:¬0<p.interval:=ω
       refine S6 ?_;exact(az _ _ ⟨O,by rw[if_neg P,y0q];exact sh⟩).qb
   case gU =>
    refine So O (λG=>?_)<|λG=>?_
    ·have vW : 0 < r := by omega
     have su:=WT succ ref;rw[if_pos vW] at dq
     generalize UJ succ ref=rs at su rY dq
     obtain⟨l,m,rfl⟩:∃l m,rs=l++[m]:=⟨rs.dropLast,rs.getLast su.ne,(y2v su.ne).symm⟩;have vX:(l++[m]).length=l.length+1:=ξ
     have gD:l.length<=65537:=by have f:=su.z4T;rw[y0h,vX] at f;omega
     rw[y2o,vX,y1h] at dq;obtain⟨vr,E5,L6⟩:=id rY;rw[vX] at E5;rcases E5.sl.shape with⟨-,h0⟩|⟨g,c1,rfl,eJ⟩
     ·omega
     have L7:=E5.S4;obtain⟨F,Ab,hf,Na⟩:=s6.ex;refine SE O<|qV (SO (news:=[.int .u8 1,Su 0]) Vy O Un O ((s6.ext.S4 hG).cells (n:=2) O) O)<|qV (Sc Tx O O L7 O)<|UR Tx O<|UO O ?_;rw[show((l.length+1:Nat):Int)-1=(l.length:Int) by omega];refine Uk O O (Vc z1W O O) (X4 Ab ω .gamma l.length ω) ?_;rintro _ b⟨rfl,G0⟩;have jh:=s6.put je hf Na l5 z1 G0;have L8:=rY.kp jh.kx (λk d e=>e (.inr d));have uo:=jh.kx.S4 L7 (λe=>e (.inr ((L6 rn).2 (.inl O))));refine qM O<|qV (Sc Tx O O uo O) ?_;rw[show((l.length+1:Nat):Int)=((l.length+1:Nat):Int) from rfl];refine qV (Sc Tx O O uo O)<|UR Tx O<|UO O ?_;rw[show((l.length+1:Nat):Int)-1=(l.length:Int) by omega];refine qV (zhV Tx T8 O O ω)<|UR Tx O<|Sf O<|S5<|SI.qb (e:=[(1,_),(5,_),(11,_),(12,_),(14,_),(60,_),(61,_),(62,_)]) ?_;refine S7<|UW (α:=Nat) (0) (λi=>[(1,I (x:Int)),(5,ptr b5 0),(11,ptr n11 0),(12,.func (.func 220) #[] #[ptr n11 0]),(14,ptr lf 0),(60,.slice (some ⟨g,0,none⟩) l.length c1),(61,I (l.length:Int)),(62,I (i:Int))]) (λi w'=>NuX w w1 M p b5 n11 (λk=>FL k\/FR k) (A++(Cd.gamma,l.length)::TP 0 (l.take i)) w'/\i<=l.length) (λi=>l.length-i) ?hI ?hround
     case hI=>exact⟨jh,y02 _⟩
     case hround =>
      rintro i N⟨nz,hi⟩ ih
      try dsimp only
      refine qN O<|TW O<|S5<|It<|So O (λe3=>?_)<|λe3=>?_
      ·have dF:i<l.length:=ω
       obtain⟨a8,pu,vU,pw⟩:=nz.ex;have G4:=E5.sl.kp nz.kx (λg2 hg e=>e (.inr ((L6 g2).2 (.inr hg))));have iD:(l++[m])[i]? =some l[i]:=by rw[y0I dF,y04 dF]
       have ja:min i 1<=l[i]:=by
        rcases y0D i with e| e
        ·omega
        ·have f:=su.pos l[i] (by
          rw[y3F];refine⟨i-1,?_⟩
          rw[y1J,show 1+(i-1)=i by omega];exact iD)
         omega
       have iJ:l[i]<=65536:=by
        have f:=su.le l[i] (y1X _ (y1s dF));rw[y0h] at f;omega
       refine S6 (TZ (SE O (qV (Tm Tx T8 O O ω) (qV (SQ U3 O O (TF G4.rd (show((l++[m]).map zaC)[i]? =some (zaC l[i]) by rw[y0l,iD];rfl))) ?_))));refine To O<|Uw O<|qV (SO (news:=[.int .u8 1,Su 0]) Vy O Un O ((nz.ext.S4 hG).cells (n:=2) O) O)<|Sz O<|qV (ymi O O)<|UO O ?_;rw[show(l[i]:Int)-min (i:Int) 1=((l[i]-min i 1:Nat):Int) by omega];refine Uk O O (Vc z1W O O) (X4 pu (by have f:(TP 0 (l.take i)).length=i:=(by rw[WK,y0c];omega);rw[y01,y03];omega) .gamma (l[i]-min i 1) ω) ?_;rintro _ a6⟨rfl,vV⟩;have G5:=nz.put je vU pw l5 z1 vV;refine S5 (S2 (Sg O (Tr O (Sf O (S5 ((ih (i+1) _ ⟨?_,ω⟩ ω).qb))))));rw[List.take_succ,y04 dF,Option.toList_some,z1X,y0c,y0A hi,y0g,<-y0t,<-y06];exact G5
      ·have de:i=l.length:=ω
       subst de;rw[y0K] at nz;refine Sh O ?_;exact(dq _ _ ⟨O,nz⟩).qb
    ·have vW:¬0<r:=ω
     refine S6 ?_;exact(dq _ _ ⟨O,by rw[if_neg vW,y0q];exact s6⟩).qb
  case dE=>
   refine So O (λe1=>?_)<|λe1=>?_
   ·have oX:0<p.SH:=ω
    obtain⟨F,Ab,hf⟩:=yL.ex;refine Uw O (qV (SO (news:=[.int .u8 0,Su 0]) Vy O Un O ((yL.ext.S4 hU).cells (n:=2) O) O) (Sf O (Uk O O (Vc z1W O O) (X4 Ab ξ .unary r ω) ?_)));rintro _ w5⟨rfl,vY⟩;refine S5<|SI.qb (e:=[(1,_),(2,_),(3,_),(4,_),(5,_),(10,_),(11,_),(12,_)]) ?_;exact(bL _ _ ⟨O,by rw[if_pos oX];exact yL.put hf l5 z1 vY⟩).qb
   ·have oX:¬0<p.SH:=ω
    refine S6 ?_;exact(bL _ _ ⟨O,by rw[if_neg oX];exact yL⟩).qb
end Go.Proofs.YtbihggbffaigjaaGreatDoor
