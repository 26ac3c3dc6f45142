/- Merged by program. -/
import Derived.Test.YtffbidffdbpcoaaGreatDoorZm6
import Derived.Shelf.Strings.Repeat
import Derived.Test.YtffbidffdbpcoaaGreatDoorProg
import Derived.Room.AppendFits
import Derived.Lib.UnsafeStr
set_option linter.all false
set_option maxRecDepth 1000000
set_option maxHeartbeats 16000000
namespace Go.Proofs.YtffbidffdbpcoaaGreatDoor
open Go Go.RowKit Go.Proofs.Tryz
section
variable {w w':World}{P P':Ra}{txt:Int->OI}{K:Nat}
def z98 {b x:Nat}{t:OI}{d:Bool}{x0:Value}(fJ:b≠x)(hb:OP w b (pgC t d) 204)(hx:OP w x [x0] 9):Pm prog 109 [ptr b 0,ptr x 0] w λv w2=>v= .tuple #[]/\OP w2 b (pgC t d) 204/\OP w2 x [S t] 9/\Kp (λj=>j=x) w w2:=by
 replace hb:OP w b [S t,.bool d,I 0] 204:=hb
 refine py (e:=[(0,_),(1,_)]) func109 O ntmps109 O O$ R6 O$ Pq O$ OW VZ O$ OW z2X O$ qV (OM U9 O O hb O)$ OT O (QG ti9 O O O hx (by simp)) ?_
 rintro w1 ⟨ad,az⟩
 refine OC$ Qa func109 O ?_
 exact⟨_,rfl,rfl,az.OA hb fJ,ad,az⟩
def z6O {b x:Nat}{t s:OI}{d:Bool}(fJ:b≠x)(hb:OP w b (pgC t d) 204)(hx:OP w x [S s] 9):Pm prog 126 [ptr b 0,ptr x 0] w λv w2=>v= .tuple #[]/\OP w2 b (pgC s true) 204/\OP w2 x [S s] 9/\Kp (λj=>j=b) w w2:=by
 replace hb:OP w b [S t,.bool d,I 0] 204:=hb
 refine py (e:=[(0,_),(1,_)]) func126 O ntmps126 O O$ R6 O$ qV (OM U9 O O hx O)$ qV (Sa (cs:=[_,_]) z7w O zgc O O)$ Pq O$ OW VZ O$ OT O (PG (news:=[S s,.bool true]) z7w O O O O hb (by simp)) ?_
 rintro w1 ⟨bL,az⟩
 refine OC$ Qa func126 O ?_
 exact⟨_,rfl,rfl,bL,az.OA hx (λe=>fJ e.symm),az⟩
def z7b (hm:Uj w P)(hI:W8 P txt K)(hK:K<1000000000000){no:Int}(h0:0<=no)(h1:no<(P.L.length:Int)):Pm prog 68 [ptr P.s 0,I no] w λv w'=>v= .tuple #[S (txt no),I 0]/\∃P',Un w P w' P'/\W8 P' txt K/\P.Same P':=by
 refine py (e:=[(0,_),(1,_)]) func68 O ntmps68 O O$ qN O$ OJ O O (Ry (cs:=[_]) ti9 O) ?_
 rintro _ w1 ⟨x,rfl,hx,ad,hB⟩
 have dj:=hm.r ad
 have eG:∀i,¬P.cp i x:=hm.new (by omega)
 refine OV O$ PK O$ P5 zeQ O (ZT dj.m hI.down) ?_
 rintro _ w1 ⟨rfl,rfl⟩
 refine QW O$ QE O$ Qg O$ Qt O$ qV (ymf (first:=[]) (caps:=[.tmp 4]) O O)$ P5 zeB O (ZX dj hI hK h0 h1 none (λt e=>by cases e) (by omega) eG hB zgw (λw1 b t d fJ hb hx=>z98 fJ hb hx)) ?_
 rintro _ w2 ⟨rfl,ak,P',dt,cV,dw,Ab⟩
 rw[Zk] at cV
 replace ak:OP w2 x [S (txt no)] 9:=ak
 refine QS O$ qV (OM U9 O O ak O)$ ON O$ OT O (QG ti9 O O O ak (by simp)) ?_
 rintro w3 ⟨ar,av⟩
 replace ar:OP w3 x [S (txt no)] 9:=ar
 refine OV O$ Pf func68 (.cell1 U9 O O ((ar).cell _) (.tmp O .nil)) ?_
 exact⟨_,rfl,rfl,P',dt.loc av (λj e=>by rw[show j=x from e];exact⟨.inr (by omega),Ab⟩),cV,dw⟩
def z9p (hm:Uj w P)(hI:W8 P txt K)(hK:K<1000000000000){no:Int}(h0:0<=no)(h1:no<(P.L.length:Int))(t:OI)(ht:t.length=512):Pm prog 82 [ptr P.s 0,I no,S t] w λv w'=>v=I 0/\∃P',Un w P w' P'/\W8 P' (ZB txt no (some t)) (K+1)/\P.Same P':=by
 refine py (e:=[(0,_),(1,_),(2,_)]) func82 O ntmps82 O O$ qN O$ OJ O O (R4 O (cs:=[S t]) O) ?_
 rintro _ w1 ⟨x,rfl,hx,ad,hB⟩
 have dj:=hm.r ad
 have eG:∀i,¬P.cp i x:=hm.new (by omega)
 refine OV O$ PK O$ P5 zeQ O (ZT dj.m hI.down) ?_
 rintro _ w1 ⟨rfl,rfl⟩
 refine QW O$ QE O ?_
 have hg:=Ext.P4 w1
 refine Qg O$ An$ An$ QV (λw'=>Ext w1 w') O$ qT 0 O (λ_ h=>OM U9 O O (h.OA hB) O) hg$ OG 1 O (Wg U9 O) hg$ OZ 2 O O (hg)$ RT 3 O z5b O (z1G (dj.m.ext' hg) hI.N) ?_
 rintro _ w2 ⟨rfl,rfl⟩
 refine⟨hg,?_⟩
 refine OG 4 O (yne O O) hg$ TD$ qE$ SH O$ Qt O$ qV (ymf (first:=[]) (caps:=[.tmp 5]) O O)$ P5 zeB O (ZX (dj.ext hg) hI hK h0 h1 (some t) (λs e=>by cases e;exact ht) (by omega) eG (hg.OA hB) ziE (λw1 b t2 d fJ hb hx=>z6O fJ hb hx)) ?_
 rintro _ w2 ⟨rfl,ak,P',dt,cV,dw,Ab⟩
 refine OV O$ OB func82 O ?_
 exact⟨_,rfl,rfl,P',dt,cV,dw⟩
def z6w (hm:Uj w P){a n:Nat}(hp:Pre P.L a)(dh:1<=n)(pW:a+n<=P.L.length):Pm prog 50 [ptr P.s 0,I (n:Int)] w λv w'=>v= .tuple #[.agg #[I (a:Int),I (n:Int)],I 0]/\Un w P w' {P with L:=Qd P.L a n true}:=by
 refine py (e:=[(0,_),(1,_)]) func50 O ntmps50 O O$ qN O$ OJ O O (Ry (cs:=[_,_]) QY O) ?_
 rintro _ w1 ⟨x,rfl,hx,ad,hB⟩
 have dj:=hm.r ad
 have eG:∀i,¬P.cp i x:=hm.new (by omega)
 have kV:=dj.m.cells
 refine OV O$ PK O$ qV (PY XH O O)$ Qg O$ Pn O$ Pq O$ OW z3D O$ qV (OM U67 O O kV O)$ ON O$ P5 zky O (z3P dj.m.ext hp dh pW) ?_
 rintro _ w2 ⟨rfl,eB,am⟩
 have dt:=dj.exM eB am
 have ak:=am.OA hB (λe=>eG 2 (.inr e))
 refine qV (Ru (v:= .agg #[I (a:Int),I (n:Int)]) O O)$ qV (Ru (v:=I 0) O O)$ OT O (PG (news:=[I (a:Int),I (n:Int)]) QY O O O O ak (by simp)) ?_
 rintro w3 ⟨ar,av⟩
 replace ar:OP w3 x [I (a:Int),I (n:Int)] 118:=ar
 refine OV O$ Pf func50 (.cell Xm O QY O (OP.cells (n:=2) ar (news:=[_,_]) O) O (.tmp O .nil)) ?_
 refine⟨_,rfl,rfl,dt.loc av (λj e=>by
  rw[show j=x from e];refine⟨.inr (by omega),λi e2=>?_⟩
  match i,e2 with
  |0,e2=>exact eG 0 e2
  |1,e2=>exact eG 1 e2
  |2,e2=>exact eG 2 e2
  |3,e2=>exact eG 3 e2
  |4,e2=>exact eG 4 e2
  |5,e2=>exact eG 5 e2)⟩
theorem W8.Qi (h:W8 P txt K){L':List Bool}(hl:L'.length=P.L.length):W8 {P with L:=L'} txt K:=
 ⟨h.aok,h.asz,h.keys,h.nd,λg hg=>by rw[hl];exact h.rng g hg,h.tx,h.cl,λx h0 h1=>by rw[hl] at h1;exact h.out x h0 h1,λx h0 h1=>by rw[hl] at h1;exact h.len x h0 h1,h.down,h.due,h.B.trans hl.symm,h.N,h.ca,h.cc,h.Sj⟩
def z9H {d m gi:Nat}{L:List Bool}{Fd:Nat->Prop}(hd:Wj w d (Dev.fresh L.length 1) Fd)(he:XI w m gi L)(BL:¬Fd m/\¬Fd gi)(n:Nat)(dh:1<=n)(jS:n<=1000):Pm prog 22 [ptr d 0,I (n:Int),ptr m 0] w λv w'=>∃P,v= .tuple #[ptr P.s 0,I 0]/\Uj w' P/\W8 P (λ_=>zeros 512) 0/\P.m=m/\P.gi=gi/\P.L=L/\(∀b,P.fp b->Fd b\/b=m\/b=gi\/w.heap.size<=b)/\Ext w w':=by
 refine py (e:=[(0,_),(1,_),(2,_)]) func22 O ntmps22 O O$ qN O$ Qm O$ QA$ Pn O$ qV (PY U26 O O)$ Pa O$ qV (PY U67 O O)$ PM O$ OV O$ OL O$ Pn O$ Qw O$ PH ?_
 refine Pa O$ QB O$ PH$ PM O$ OV O$ SH O$ Oz$ Pn O$ P5 zke O (zbg n dh (by omega) w) ?_
 rintro _ w1 ⟨c,V,p,rfl,lL,j9,ad⟩
 refine ON O$ qV (Ru (v:=ptr c 0) O O)$ qV (Ru (v:=I 0) O O)$ Qm O$ Po.qb (e:=[(0,_),(1,_),(2,_),(6,_),(7,_),(8,_),(9,_)]) ?_
 refine PK O$ QE O$ Qg O$ Qt O$ ON O$ OJ O O (pmm) ?_
 rintro _ w2 ⟨pm,rfl,LP,ae,cB⟩
 have kg:SF KI w2 pm []:=SF.new cB
 have lpm:=kg.lt
 refine ON O$ qV (Sa (cs:=[_,_,_,_,_,_,_]) z2a O zkw O O)$ qV (Sa (cs:=[_,_,_,_,_,_,_,_,_,_,_,_]) zhf O zi1 O O)$ OJ O O (R4 O (cs:=plC ⟨0,d,m,gi,c,pm,p,n,V,Dev.fresh L.length 1,z5K n,[],L,Fd,0,0,0⟩) O) ?_
 rintro _ w3 ⟨s,rfl,hs,ah,ar⟩
 refine Qm O$ OB func22 O ?_
 have z1:=ad.size
 have z2:=ae.size
 have eA:=ae.trans ah
 have ck:=ad.trans eA
 have wu:=lL.ext eA
 have FF:∀{b:Nat},Sz c V p b->b<w1.heap.size:=lL.lt
 have FG:=hd.lt
 have ltm:=he.ltm
 have ltg:=he.ltg
 refine⟨_,rfl,⟨s,d,m,gi,c,pm,p,n,V,Dev.fresh L.length 1,z5K n,[],L,Fd,0,0,0⟩,rfl,⟨ar,hd.ext ck,he.ext ck,wu,kg.ext ah,(λg hg=>by cases hg),List.nodup_nil,?_⟩,⟨zcS dh,jS,λx=>?_,List.nodup_nil,(λg hg=>by cases hg),(λg hg=>by cases hg),(λg hg=>by cases hg),λx _ _ _=>rfl,λx _ _=>by simp[zeros],rfl,rfl,rfl,rfl,Int.le_refl _,Nat.le_refl _,Nat.zero_le _⟩,rfl,rfl,rfl,λb ⟨i,hb⟩=>?_,ck⟩
 ·intro i j ne b hb bN
  have cls:∀i,Ra.cp ⟨s,d,m,gi,c,pm,p,n,V,Dev.fresh L.length 1,z5K n,[],L,Fd,0,0,0⟩ i b->(i=0/\b=s)\/(i=1/\Fd b/\b<w.heap.size)\/(i=2/\(b=m\/b=gi)/\b<w.heap.size)\/(i=3/\w.heap.size<=b/\b<w1.heap.size)\/(i=4/\b=pm):=λi hb=>by
   match i,hb with
   |0,e=>exact .inl ⟨rfl,e⟩
   |1,e=>exact .inr (.inl ⟨rfl,e,FG b e⟩)
   |2,e=>exact .inr (.inr (.inl ⟨rfl,e,by have e':b=m\/b=gi:=e;omega⟩))
   |3,e=>exact .inr (.inr (.inr (.inl ⟨rfl,j9 b e,FF e⟩)))
   |4,e=>exact .inr (.inr (.inr (.inr ⟨rfl,e⟩)))
   |5,⟨g,hg,e⟩=>cases hg
  have h1:=cls i hb;have h2:=cls j bN;rcases h1 with⟨e,h1⟩|⟨e,h1,wq⟩|⟨e,h1,wq⟩|⟨e,h1,wq⟩|⟨e,h1⟩<;>rcases h2 with⟨f,h2⟩|⟨f,h2,IN⟩|⟨f,h2,IN⟩|⟨f,h2,IN⟩|⟨f,h2⟩<;>first|omega|skip
  ·rcases h2 with e| e
   ·exact BL.1 (e▸h1)
   ·exact BL.2 (e▸h1)
  ·rcases h1 with e| e
   ·exact BL.1 (e▸h2)
   ·exact BL.2 (e▸h2)
 ·constructor
  ·intro e;cases e
  ·intro e;rcases e with e|e<;>cases e
 ·match i,hb with
  |0,e=>exact .inr (.inr (.inr (by have:b=s:=e;omega)))
  |1,e=>exact .inl e
  |2,e=>rcases e with e|e;exact .inr (.inl e);exact .inr (.inr (.inl e))
  |3,e=>exact .inr (.inr (.inr (j9 b e)))
  |4,e=>exact .inr (.inr (.inr (by have:b=pm:=e;omega)))
  |5,⟨g,hg,e⟩=>cases hg
end
def z9g {l:List (Int×OI)}{n:Int}{t:OI}(h:WI l n=some t):∃x∈l,x.2=t:=by
 unfold WI at h
 obtain⟨x,hx,e⟩:=Option.map_eq_some_iff.1 h
 exact⟨x,List.mem_reverse.1 (List.mem_of_find?_eq_some hx),e⟩
theorem Dev.Ok.zd3 {D:Dev}(h:D.Ok)(n:Int):(D.now n).length=512*D.N:=by
 unfold Dev.now
 cases hl:WI D.cache n with
 |none=>exact h.kept n
 | some t =>
   obtain⟨x,hx,rfl⟩:=z9g hl;exact(h.cache x hx).2.2
section
variable {w w':World}{P P':Ra}{txt:Int->OI}{K:Nat}
def W8.ziu (h:W8 P txt K)(ax:P.D.Ok){k:Int}:W8 {P with A:=P.A.drop k,l:=SC P.l k} (λx=>if x=k then P.D.now k else txt x) K:=by
 have hk:=z1J h.nd k
 have dR:=T0 P.l k
 have bD:=Arc.z8Y h.aok k
 have BJ:=h.ca
 have Fu:=h.cc
 have A0:RW (SC P.l k)<=RW P.l:=dR.countP_le
 have gL:∀q∈SC P.l k,q∈P.l/\q.k≠k:=λq hq=>⟨dR.subset hq,((hk q.k).1 (List.mem_map.2 ⟨q,hq,rfl⟩)).2⟩
 refine⟨h.aok.drop k,h.asz,λx=>by dsimp only;rw[hk,bD,h.keys],(dR.map _).nodup h.nd,λq hq=>h.rng q (gL q hq).1,λq hq=>?_,λq hq hd=>?_,λx h0 h1 hx=>?_,λx h0 h1=>?_,h.down,h.due,h.B,h.N,by dsimp only;omega,by dsimp only;omega,h.Sj⟩
 ·rw[if_neg (gL q hq).2];exact h.tx q (gL q hq).1
 ·rw[if_neg (gL q hq).2];exact h.cl q (gL q hq).1 hd
 ·dsimp only at h1 hx⊢;rw[bD,not_and] at hx;by_cases e:x=k
  ·rw[if_pos e,e]
  ·rw[if_neg e];exact h.out x h0 h1 λe2=>hx e2 e
 ·dsimp only at h1⊢;by_cases e:x=k
  ·rw[if_pos e,ax.zd3,h.N]
  ·rw[if_neg e];exact h.len x h0 h1
def W8.SK (h:W8 P txt K)(hA:P'.A=P.A)(hl:P'.l=P.l)(hD:P'.D=P.D)(hL:P'.L=P.L):W8 P' txt K:=by
 obtain⟨a1,a2,a3,a4,a5,a6,a7,a8,a9,b1,b2,b3,b4,b5,b6,b7⟩:=h
 constructor<;>simp only[hA,hl,hD,hL]<;>assumption
def Uj.dok (h:Uj w P):P.D.Ok:=by
 obtain⟨m,kp,ca,h1,-⟩:=h.dev
 exact h1.ok
def z8K (l:List Pg)(k:Int):(k∉l.map (·.k)/\R8 (TX l) k=none)\/∃q∈l,q.k=k/\R8 (TX l) k=some (ptr q.b 0):=by
 induction l with
 |nil=>exact .inl ⟨by simp,rfl⟩
 | cons g l ih =>
   show _\/_;by_cases h:k=g.k
   ·exact .inr ⟨g,List.mem_cons_self,h.symm,if_pos h⟩
   ·have e:R8 (TX (g::l)) k=R8 (TX l) k:=if_neg h;rw[e];rcases ih with⟨a,b⟩|⟨q,a,b,c⟩
    ·exact .inl ⟨by simp[h] at a⊢;exact a,b⟩
    ·exact .inr ⟨q,List.mem_cons_of_mem _ a,b,c⟩
def z6z (hm:Uj w P)(hI:W8 P txt K){s n:Nat}(dh:1<=n)(jd:s+n<=P.L.length):Pm prog 91 [ptr P.s 0,.agg #[I (s:Int),I (n:Int)]] w λv w'=>v=I 0/\∃P' txt',Un w P w' P'/\W8 P' txt' K/\(∀x:Int,x<(s:Int)\/(s:Int)+(n:Int)<=x->txt' x=txt x)/\P.Same P':=by
 have ek:=hm.ext.n
 have kV:=hm.cells
 refine py (e:=[(0,_),(1,_)]) func91 O ntmps91 O O$ qN O$ OJ O O (R4 O (cs:=[I (s:Int),I (n:Int)]) O) ?_
 rintro _ w1 ⟨b3,rfl,dG,ad,ar⟩
 have dj:=hm.r ad
 have nz:∀i,¬P.cp i b3:=hm.new (by omega)
 have ll:=ad.OA kV
 have hg:=Ext.P4 w1
 have eL:=WJ (dj.m.dev.ext hg)
 rw[hI.B] at eL
 refine OV O$ QA$ Pn O$ qV (PY XH O O)$ OV O$ OL O$ Pn O$ Pq O$ OW z8f O$ qV (OM U4 O O ll O)$ OV O$ OL O$ An$ QV (λw'=>Ext w1 w') O ?_
 refine OG 0 O (Pr QZ O) hg$ qT 1 O (λ_ h=>(OM U3 O O (h.OA ar) O)) hg$ OG 2 O (ylt O O) hg$ TD$ OZ 3 O O (hg)$ OG 4 O (Pr QT O) hg$ qT 5 O (λ_ h=>(OM U3 O O (h.OA ar) O)) hg$ OG 6 O (ylt O O) hg$ TD$ OG 7 O (U0 O O) hg$ OZ 8 O O (hg)$ OG 9 O (Pr QT O) hg$ qT 10 O (λ_ h=>(OM U3 O O (h.OA ar) O)) hg$ OZ 11 O O (hg) ?_
 refine OG 12 O (Q8 O) hg$ OG 13 O (Pr UW O) hg$ qT 14 O (λ_ h=>(OM U26 O O (h.OA ll) O)) hg$ RT 15 O z5n O (eL) ?_
 rintro _ w2 ⟨rfl,rfl⟩
 refine⟨hg,?_⟩
 refine OG 16 O (yge O O) hg$ TD$ OG 17 O (U0 O O) hg$ OZ 18 O O (hg)$ OG 19 O (Pr QZ O) hg$ qT 20 O (λ_ h=>(OM U3 O O (h.OA ar) O)) hg$ OZ 21 O O (hg)$ OG 22 O (Q8 O) hg$ OG 23 O (Pr UW O) hg$ qT 24 O (λ_ h=>(OM U26 O O (h.OA ll) O)) hg$ OG 26 O (Pr QT O) hg$ qT 27 O (λ_ h=>(OM U3 O O (h.OA ar) O)) hg$ RT 25 O z5n O (eL) ?_
 rintro _ w2 ⟨rfl,rfl⟩
 refine⟨hg,?_⟩
 refine OG 28 O (Xw O O (by omega)) hg$ OG 29 O (Yf O O) hg$ TD$ OG 30 O (U0 O O) hg$ OG 31 O (Rp O) hg ?_
 obtain⟨w2,nB⟩:∃w2,w1.drew=w2:=⟨_,rfl⟩
 rw[nB] at hg⊢
 have dv:=hg.OA ar
 have dt:=dj.ext hg
 have ig:=hg.OA ll
 have l3:=dv.lt
 refine qE$ Po.qb (e:=[(0,_),(3,_),(4,_),(16,_)]) ?_
 refine SH O$ Oz$ An$ qN O$ OW QZ O$ qV (OM U3 O O dv O)$ ON O$ OC$ OE$ Rr (α:=Nat) (0) (λi=>[(0,ptr P.s 0),(3,ptr b3 0),(49,I (n:Int)),(50,I (i:Int))]) (λi w'=>Ext w2 w'/\i<=n) (λi=>n-i) ?hI ?hround
 case hI=>exact⟨Ext.refl _,Nat.zero_le _⟩
 case hround =>
  rintro i w3 ⟨ah,hi⟩ ih;have ci:=dt.ext ah;have kX:=ah.OA ig;have eN:=ah.OA dv;have ag:=Ext.P4 w3
  try dsimp only
  refine qN O$ Qw O$ OC$ An$ OQ O (λh0=>?_)$ λh0=>?_
  ·refine OD$ QA$ Pn O$ OV O$ An$ QV (λw'=>Ext w3 w') O$ OZ 0 O O (ag)$ OG 1 O (Q8 O) ag$ OG 2 O (Pr UR O) ag$ qT 3 O (λ_ h=>(OM Xq O O (h.OA kX) O)) ag$ OG 4 O (Pr QT O) ag$ qT 5 O (λ_ h=>(OM U3 O O (h.OA eN) O)) ag$ OZ 6 O O (ag)$ OG 7 O (UO O O (by omega)) ag ?_;rw[show(s:Int)+(i:Int)=((s+i:Nat):Int) by omega];refine qT 8 O (λ_ hS=>ylk (k:=((s+i:Nat):Int)) (K:=KI) Xq (S5 U3) zaL O O (ci.m.ext' hS).mp.l) ag ?_;rcases z8K P.l ((s+i:Nat):Int) with⟨-,fE⟩|⟨q,hq,-,fE⟩
   ·rw[fE];refine OG 9 O (Rp O) ag$ qE$ Pn O$ qV (z4I zgH O O)$ ON O$ QL$ QL$ qS$ PM O$ Qg O$ Oz$ OK O$ PS O$ ON O ?_;refine OC ?_;exact(ih (i+1) _ ⟨ah.trans ag,by omega⟩ (by omega)).qb
   ·rw[fE];have se:=(ag.OA (ci.m.pg q hq):OP w3.drew q.b [S q.t,.bool q.d,I 0] 204);refine OG 9 O (Rp O) ag$ qE$ Pn O$ qV (z4I zgH O O)$ Pa O$ Pq O$ OW zcG O$ qV (OM U3 O O se O)$ QB O$ PH$ QX O$ Qg O$ Oz$ OK O ?_;refine PS O$ ON O$ OC ?_;exact(ih (i+1) _ ⟨ah.trans ag,by omega⟩ (by omega)).qb
  ·have ao : i = n := by omega
   subst ao;refine OO O$ An$ qN O$ OW QZ O$ qV (OM U3 O O eN O)$ ON O$ OC$ OE$ Rr (α:=Nat×Ra×(Int->OI)) ((0,P,txt)) (λy=>[(0,ptr P.s 0),(3,ptr b3 0),(73,I (i:Int)),(74,I (y.1:Int))]) (λy w'=>Un w P w' y.2.1/\W8 y.2.1 y.2.2 K/\y.1<=i/\P.Same y.2.1/\(∀x:Int,x<(s:Int)\/(s:Int)+(i:Int)<=x->y.2.2 x=txt x)/\OP w' b3 [I (s:Int),I (i:Int)] 118/\∀j,¬y.2.1.cp j b3) (λy=>i-y.1) ?hI ?hround
   case hI=>exact⟨ci,hI,Nat.zero_le _,⟨rfl,rfl,rfl,rfl,rfl,rfl,rfl,rfl,rfl⟩,λx _=>rfl,eN,nz⟩
   case hround =>
    rintro⟨j,Pj,tj⟩ w4 ⟨bG,jB,hj,bR,jg,eC,m7⟩ ih2;dsimp only at bG jB hj bR jg eC m7 ih2⊢;have fX:=bG.m.cells;rw[bR.s] at fX;have af:=Ext.P4 w4;have ev:=Ext.P4 w4.drew
    try dsimp only
    refine qN O$ Qw O$ OC$ An$ OQ O (λh2=>?_)$ λh2=>?_
    ·refine OD$ QA$ Pn O$ OV O$ An$ P9 [8] (λw'=>Ext w4 w') (by kernel_rfl) O$ PQ 0 O O (af)$ Pl 1 O (Q8 O) af$ Pl 2 O (Pr UR O) af$ qL 3 O (λ_ h=>(OM Xq O O (h.OA fX) O)) af$ Pl 4 O (Pr QT O) af$ qL 5 O (λ_ h=>(OM U3 O O (h.OA eC) O)) af$ PQ 6 O O (af)$ Pl 7 O (UO O O (by omega)) af ?_;refine Tt [8] ?_;rw[show(s:Int)+(j:Int)=((s+j:Nat):Int) by omega];refine qO 8$ zbh (i:=8) O O (zeY (k:=((s+j:Nat):Int)) (K:=KI) Xq (S5 U3) O O (bG.ext af).m.mp O) ?_;rintro _ w5 ⟨wS,aj⟩;refine⟨trivial,?_⟩;rw[z2C] at wS;have bP:=(bG.ext af).del (T0 _ _) wS aj;have cW:=aj.OA (af.OA eC) (m7 4);have jH:=bP.m.cells;dsimp only at jH;rw[bR.s] at jH;have dQ:=Ext.P4 w5;have cI:=bP.ext dQ;refine qE$ P9 [8] (λw'=>Ext w5 w') (by kernel_rfl) O$ PQ 0 O O (dQ)$ Pl 1 O (Q8 O) dQ$ Pl 2 O (Pr z7Z O) dQ$ qL 3 O (λ_ h=>(OM zaC O O (h.OA jH) O)) dQ$ Pl 4 O (Pr QT O) dQ$ qL 5 O (λ_ h=>(OM U3 O O (h.OA cW) O)) dQ$ PQ 6 O O (dQ)$ Pl 7 O (UO O O (by omega)) dQ$ Tt [8] ?_;rw[show(s:Int)+(j:Int)=((s+j:Nat):Int) by omega];refine RT 8 O ziL O (za7 cI.m.arc (k:=((s+j:Nat):Int))) ?_;rintro _ w6 ⟨⟨z,rfl⟩,V6,sQ⟩;refine⟨trivial,?_⟩;have A7:=cI.arc sQ;have jp:=sQ.k.OA (dQ.OA cW) (m7 3);refine qE$ Oz$ OK O$ PS O$ ON O$ OC ((ih2 (j+1,_,_) _ ⟨A7,(jB.ziu bG.m.dok (k:=((s+j:Nat):Int))).SK O O O O,by dsimp only;omega,⟨bR.s,bR.d,bR.m,bR.gi,bR.c,bR.pm,bR.p,bR.fr,bR.L⟩,λx hx=>?_,jp,λi2 e=>?_⟩ (by dsimp only;omega)).qb)
     ·show(if x=((s+j:Nat):Int) then Pj.D.now ((s+j:Nat):Int) else tj x)=txt x;rw[if_neg (by omega)];exact jg x hx
     ·match i2,e with
      |0,e=>exact m7 0 e
      |1,e=>exact m7 1 e
      |2,e=>exact m7 2 e
      | 3, e =>
        rcases sQ.fp b3 e with e| e
        ·exact m7 3 e
        ·have:=(dQ.OA cW).lt;omega
      |4,e=>exact m7 4 e
      |5,⟨q,hq,e⟩=>exact m7 5 ⟨q,(T0 _ _).subset hq,e⟩
    ·have sC:j=i:=by omega
     subst sC;refine OO O$ Qx O$ OB func91 O ?_;exact⟨_,rfl,rfl,Pj,tj,bG,jB,jg,bR⟩
def z64 (hm:Uj w P)(hI:W8 P txt K){s n:Nat}(dh:1<=n)(dw:2<=s)(jd:s+n<=P.L.length)(hc:∀i,s<=i->i<s+n->P.L[i]? =some true):Pm prog 58 [ptr P.s 0,.agg #[I (s:Int),I (n:Int)]] w λv w'=>v=I 0/\∃P' txt',Un w P w' {P' with L:=Qd P.L s n false}/\W8 {P' with L:=Qd P.L s n false} txt' K/\(∀x:Int,x<(s:Int)\/(s:Int)+(n:Int)<=x->txt' x=txt x)/\P.Same P':=by
 refine py (e:=[(0,_),(1,_)]) func58 O ntmps58 O O$ qN O$ OJ O O (R4 O (cs:=[I (s:Int),I (n:Int)]) O) ?_
 rintro _ w1 ⟨b3,rfl,dG,ad,ar⟩
 have dj:=hm.r ad
 have nz:∀i,¬P.cp i b3:=hm.new (by omega)
 refine OV O$ PK O$ qV (Pp (news:=[I (s:Int),I (n:Int)]) Xm O QY O (OP.cells (n:=2) ar O) O)$ P5 zkI O (z6z dj.m hI dh jd) ?_
 rintro _ w2 ⟨rfl,P',txt',dt,cV,jg,bR⟩
 have l3:=ar.lt
 have dv:=dt.k.OA ar (λ⟨i,e⟩=>nz i e)
 have uY:=dj.trans dt
 have ig:=uY.m.cells
 rw[bR.s] at ig
 refine QW O$ QE O ?_
 have aa:=Ext.P4 w2
 have lT:=(uY.ext aa).m.ext
 rw[bR.L] at lT
 refine Qg O$ An$ P9 [5,6] (λw'=>Ext w2 w') (by kernel_rfl) O$ PQ 0 O O (aa)$ Pl 1 O (Q8 O) aa$ Pl 2 O (Pr z3D O) aa$ qL 3 O (λ_ h=>OM U67 O O (h.OA ig) O) aa$ qL 4 O (λ_ h=>Pp (news:=[I (s:Int),I (n:Int)]) Xm O QY O (OP.cells (n:=2) (h.OA dv) O) O) aa$ Tt [5]$ RT 5 O zjY O (z6D lT s n dh dw jd hc) ?_
 rintro _ w3 ⟨rfl,Io,au⟩
 refine⟨trivial,?_⟩
 have ci:=(uY.ext aa).exM Io au
 refine OG 6 O (Rp O) trivial$ qE$ OB func58 O ?_
 exact⟨_,rfl,rfl,P',txt',ci,cV.Qi (by rw[PZ jd,bR.L]),jg,bR⟩
end
def Sp (Q:Ra)(txt:Int->OI)(K:Nat)(X:Nat->Prop)(w:World):Prop:=∃P,Uj w P/\W8 P txt K/\Q.Same P/\∀b,P.fp b->¬X b
section
variable {w w':World}{Q Q' P P':Ra}{X Y S':Nat->Prop}{txt txt':Int->OI}{K K':Nat}
theorem Sp.step (h:Sp Q txt K X w)(hk:Kp S' w w')(hS:∀b,S' b->X b)(hY:∀b,Y b->X b\/w.heap.size<=b):Sp Q txt K Y w':=by
 obtain⟨P,hm,hI,hs,hf⟩:=h
 refine⟨P,hm.kp hk λb hb e=>hf b hb (hS b e),hI,hs,λb hb e=>?_⟩
 rcases hY b e with e| e
 ·exact hf b hb e
 ·have:=hm.lt hb;omega
theorem Sp.ext (h:Sp Q txt K X w)(hx:Ext w w')(hY:∀b,Y b->X b\/w.heap.size<=b):Sp Q txt K Y w':=h.step (S':=λ_=>False) hx (λ_ e=>e.elim) hY
def Sp.ext' (h:Sp Q txt K X w)(hx:Ext w w'):Sp Q txt K X w':=h.ext hx λ_ e=> .inl e
def Sp.own (h:Sp Q txt K X w)(hk:Kp S' w w')(hS:∀b,S' b->X b):Sp Q txt K X w':=h.step hk hS λ_ e=> .inl e
def Sp.of (hf:∀b,P.fp b->¬X b)(hX:∀b,X b->b<w.heap.size)(hr:Un w P w' P')(hI:W8 P' txt' K')(hs:Q'.Same P'):Sp Q' txt' K' X w'/\Kp (λb=>¬X b) w w':=
 ⟨⟨P',hr.m,hI,hs,λb hb e=>by
  rcases hr.fp b hb with h| h
  ·exact hf b h e
  ·have:=hX b e;omega⟩,hr.k.OH hf⟩
def W8.more (h:W8 P txt K)(hK:K<=K'):W8 P txt K':=by
 obtain⟨a1,a2,a3,a4,a5,a6,a7,a8,a9,b1,b2,b3,b4,b5,b6,b7⟩:=h
 exact⟨a1,a2,a3,a4,a5,a6,a7,a8,a9,b1,b2,b3,b4,by omega,by omega,b7⟩
theorem Sp.more (h:Sp Q txt K X w)(hK:K<=K'):Sp Q txt K' X w:=by
 obtain⟨P,hm,hI,hs,hf⟩:=h
 exact⟨P,hm,hI.more hK,hs,hf⟩
theorem Sp.less (h:Sp Q txt K X w)(hY:∀b,Y b->X b):Sp Q txt K Y w:=by
 obtain⟨P,hm,hI,hs,hf⟩:=h
 exact⟨P,hm,hI,hs,λb hb e=>hf b hb (hY b e)⟩
theorem Sp.size (h:Sp Q txt K X w):Pm prog 49 [ptr Q.s 0] w λv w'=>v=I 512/\w'=w:=by
 obtain⟨P,hm,hI,hs,-⟩:=h
 rw[<-hs.s]
 exact z1G hm hI.N
theorem Sp.dev (h:Sp Q txt K X w):Pm prog 124 [ptr Q.s 0] w λv w'=>v=ptr Q.d 0/\w'=w:=by
 obtain⟨P,hm,hI,hs,-⟩:=h
 rw[<-hs.s,<-hs.d]
 exact z9B hm
theorem Sp.blocks (h:Sp Q txt K X w):Pm prog 125 [ptr Q.d 0] w λv w'=>v=I (Q.L.length:Int)/\w'=w:=by
 obtain⟨P,hm,hI,hs,-⟩:=h
 have hb:=WJ hm.dev
 rw[hI.B] at hb
 rw[<-hs.d,<-hs.L]
 exact hb
theorem Sp.map (h:Sp Q txt K X w):Pm prog 27 [ptr Q.s 0] w λv w'=>v=ptr Q.m 0/\w'=w:=by
 obtain⟨P,hm,hI,hs,-⟩:=h
 rw[<-hs.s,<-hs.m]
 exact za9 hm
theorem Sp.room (h:Sp Q txt K X w){a:Nat}(hp:Pre Q.L a)(ha:a<Q.L.length):Pm prog 25 [ptr Q.m 0] w λv w'=>v=I ((Q.L.length-a:Nat):Int)/\Ext w w':=by
 obtain⟨P,hm,hI,hs,-⟩:=h
 rw[<-hs.m]
 rw[<-hs.L] at hp ha⊢
 exact z5O hm.ext hp ha
theorem Sp.z1n (h:Sp Q txt K X w){x:Int}(h0:0<=x)(h1:x<(Q.L.length:Int)):(txt x).length=512:=by
 obtain⟨P,hm,hI,hs,-⟩:=h
 exact hI.len x h0 (by rw[hs.L];exact h1)
theorem Sp.n (h:Sp Q txt K X w):Q.L.length<=4096:=by
 obtain⟨P,hm,hI,hs,-⟩:=h
 rw[<-hs.L]
 exact hm.ext.n
theorem Sp.read (h:Sp Q txt K X w)(hX:∀b,X b->b<w.heap.size)(hK:K<1000000000000){no:Int}(h0:0<=no)(h1:no<(Q.L.length:Int)):Pm prog 68 [ptr Q.s 0,I no] w λv w'=>v= .tuple #[S (txt no),I 0]/\Sp Q txt K X w'/\Kp (λb=>¬X b) w w':=by
 obtain⟨P,hm,hI,hs,hf⟩:=h
 rw[<-hs.s]
 refine(z7b hm hI hK h0 (by rw[hs.L];exact h1)).mono λv w' ⟨hv,P',hr,Ac,rz⟩=>⟨hv,Sp.of hf hX hr Ac (hs.trans rz)⟩
theorem Sp.write (h:Sp Q txt K X w)(hX:∀b,X b->b<w.heap.size)(hK:K<1000000000000){no:Int}(h0:0<=no)(h1:no<(Q.L.length:Int))(t:OI)(ht:t.length=512):Pm prog 82 [ptr Q.s 0,I no,S t] w λv w'=>v=I 0/\Sp Q (ZB txt no (some t)) (K+1) X w'/\Kp (λb=>¬X b) w w':=by
 obtain⟨P,hm,hI,hs,hf⟩:=h
 rw[<-hs.s]
 refine(z9p hm hI hK h0 (by rw[hs.L];exact h1) t ht).mono λv w' ⟨hv,P',hr,Ac,rz⟩=>⟨hv,Sp.of hf hX hr Ac (hs.trans rz)⟩
def Ra.Qi (Q:Ra)(L:List Bool):Ra:={Q with L:=L}
theorem Ra.Same.Qi (h:Q.Same P)(L:List Bool):(Q.Qi L).Same {P with L:=L}:=⟨h.s,h.d,h.m,h.gi,h.c,h.pm,h.p,h.fr,rfl⟩
theorem Sp.take (h:Sp Q txt K X w)(hX:∀b,X b->b<w.heap.size){a n:Nat}(hp:Pre Q.L a)(dh:1<=n)(pW:a+n<=Q.L.length):Pm prog 50 [ptr Q.s 0,I (n:Int)] w λv w'=>v= .tuple #[.agg #[I (a:Int),I (n:Int)],I 0]/\Sp (Q.Qi (Qd Q.L a n true)) txt K X w'/\Kp (λb=>¬X b) w w':=by
 obtain⟨P,hm,hI,hs,hf⟩:=h
 rw[<-hs.s]
 rw[<-hs.L] at hp pW
 refine(z6w hm hp dh pW).mono λv w' ⟨hv,hr⟩=>⟨hv,?_⟩
 rw[<-hs.L]
 exact Sp.of hf hX hr (hI.Qi (by rw[PZ pW])) (hs.Qi _)
theorem Sp.zkp (h:Sp Q txt K X w)(hX:∀b,X b->b<w.heap.size){s n:Nat}(dh:1<=n)(dw:2<=s)(jd:s+n<=Q.L.length)(hc:∀i,s<=i->i<s+n->Q.L[i]? =some true):Pm prog 58 [ptr Q.s 0,.agg #[I (s:Int),I (n:Int)]] w λv w'=>v=I 0/\∃txt',Sp (Q.Qi (Qd Q.L s n false)) txt' K X w'/\(∀x:Int,x<(s:Int)\/(s:Int)+(n:Int)<=x->txt' x=txt x)/\Kp (λb=>¬X b) w w':=by
 obtain⟨P,hm,hI,hs,hf⟩:=h
 rw[<-hs.s]
 rw[<-hs.L] at jd hc
 refine(z64 hm hI dh dw jd hc).mono λv w' ⟨hv,P',txt',hr,Ac,jg,rz⟩=>⟨hv,txt',?_⟩
 obtain⟨h1,h2⟩:=Sp.of hf hX hr Ac ((hs.trans rz).Qi _)
 rw[<-hs.L]
 exact⟨h1,jg,h2⟩
end
open Go.Proofs Go.Shelf
def z4t:Go.Shelf.Ren:=⟨fun|105=>61|212=>93|99=>94|165=>95|166=>69|170=>96|169=>70|263=>135|264=>136|206=>137|240=>110|241=>138|276=>146|277=>169|n=>n,fun|9=>9|3=>3|4=>4|20=>20|0=>0|46=>157|109=>191|5=>5|72=>160|76=>164|51=>59|146=>236|53=>39|148=>238|70=>158|37=>93|75=>163|127=>206|164=>249|80=>166|n=>n,fun|n=>n⟩
def zfJ:Go.Proofs.Lays.n105 prog z4t:={
 mixed:=by kernel_rfl
 f99:=func94.trans (congrArg some (by kernel_rfl))
 f105:=func61.trans (congrArg some (by kernel_rfl))
 f165:=func95.trans (congrArg some (by kernel_rfl))
 f166:=func69.trans (congrArg some (by kernel_rfl))
 f169:=func70.trans (congrArg some (by kernel_rfl))
 f170:=func96.trans (congrArg some (by kernel_rfl))
 f206:=func137.trans (congrArg some (by kernel_rfl))
 f212:=func93.trans (congrArg some (by kernel_rfl))
 f240:=func110.trans (congrArg some (by kernel_rfl))
 f241:=func138.trans (congrArg some (by kernel_rfl))
 f263:=func135.trans (congrArg some (by kernel_rfl))
 f264:=func136.trans (congrArg some (by kernel_rfl))
 f276:=func146.trans (congrArg some (by kernel_rfl))
 f277:=func169.trans (congrArg some (by kernel_rfl))
 t0:=underlying0
 a0:=isAgg0
 z0:=sizeOf0
 v0:=zeroValue0
 t3:=underlying3
 a3:=isAgg3
 z3:=sizeOf3
 v3:=zeroValue3
 t4:=underlying4
 a4:=isAgg4
 z4:=sizeOf4
 v4:=zeroValue4
 t5:=underlying5
 a5:=isAgg5
 z5:=sizeOf5
 v5:=zeroValue5
 t9:=underlying9
 a9:=isAgg9
 z9:=sizeOf9
 v9:=zeroValue9
 t20:=underlying20
 a20:=isAgg20
 z20:=sizeOf20
 v20:=zeroValue20
 t37:=underlying93
 a37:=isAgg93
 z37:=sizeOf93
 v37:=zeroValue93
 t46:=underlying157
 a46:=isAgg157
 z46:=sizeOf157
 v46:=zeroValue157
 t51:=underlying59
 a51:=isAgg59
 z51:=sizeOf59
 v51:=zeroValue59
 t53:=underlying39
 a53:=isAgg39
 z53:=sizeOf39
 v53:=zeroValue39
 t70:=underlying158
 a70:=isAgg158
 z70:=sizeOf158
 v70:=zeroValue158
 t72:=underlying160
 a72:=isAgg160
 z72:=sizeOf160
 v72:=zeroValue160
 t75:=underlying163
 a75:=isAgg163
 z75:=sizeOf163
 v75:=zeroValue163
 t76:=underlying164
 a76:=isAgg164
 z76:=sizeOf164
 v76:=zeroValue164
 t109:=underlying191
 a109:=isAgg191
 z109:=sizeOf191
 v109:=zeroValue191
 t127:=underlying206
 a127:=isAgg206
 z127:=sizeOf206
 v127:=zeroValue206
 t146:=underlying236
 a146:=isAgg236
 z146:=sizeOf236
 v146:=zeroValue236
 t148:=underlying238
 a148:=isAgg238
 z148:=sizeOf238
 v148:=zeroValue238
 t164:=underlying249
 a164:=isAgg249
 z164:=sizeOf249
 v164:=zeroValue249}
/-! ### A builder of strings -/
def zfg:Builder.Extra prog z4t where
 sizeBuilder:=by kernel_rfl
 liesBuilder:=by kernel_rfl
 t5:=by kernel_rfl
 a5:=λ_=>by kernel_rfl
 z5:=λ_=>by kernel_rfl
 v5:=λw=>TI.zero (w:=w) Ye
 infoByte:=by kernel_rfl
 cellsByte:=by kernel_rfl
 sizeByte:=by kernel_rfl
 neB5:=by decide
section
end
theorem z8y (l:OI):∀n,Lib.repeatL l n=(List.replicate n l).flatten
 |0=>rfl
 |n+1=>by rw[Lib.repeatL,z8y l n];rfl
def Zl (l:OI)(n:Nat)(hl:l.length<=100)(hn:n<=1000000)(w:World):Pm prog 61 [S l,I (n:Int)] w λv w'=>v=S (List.replicate n l).flatten/\Ext w w':=by
 have h2:n*l.length<=1000000*100:=Nat.mul_le_mul hn hl
 have:=Any.strings_Repeat zfJ zfg ⟨l.toArray⟩ n w (by omega) (by rw[SW,Nat.mul_comm];omega)
 refine Calls.mono this λ_ _ ⟨he,hw⟩=>⟨_,he,?_,Ext.zbY hw⟩
 show Value.string ⟨(Lib.repeatL l n).toArray⟩=_
 rw[z8y]
def Vn (w n:Nat):OI:=(List.range w).map λk=>UInt8.ofNat (n / 2^(8*(w-1-k)))
theorem Qc (w n:Nat):(Vn w n).length=w:=by simp[Vn]
theorem zaF (w n:Nat):Vn (w+1) n=UInt8.ofNat (n / 2^(8*w))::Vn w n:=by
 unfold Vn
 rw[List.range_succ_eq_map,List.map_cons,List.map_map]
 congr 1
 refine List.map_congr_left λk hk=>?_
 show UInt8.ofNat (n / 2^(8*(w+1-1-(k+1))))=_
 rw[show w+1-1-(k+1)=w-1-k by omega]
theorem Zz:∀(w n:Nat),P7 (Vn w n)=Pc (8*w) n
 |0,n=>rfl
 | w + 1, n => by
   rw[zaF,TA,Zz w n,show 8*(w+1)=8+8*w by omega,RY]
   congr 1
   refine Wo ?_;have:(UInt8.ofNat (n / 2^(8*w))).toNat=n / 2^(8*w)%256:=by simp
   rw[this];omega
def z36 {w n:Nat}(h:n<2^(8*w)):Pz (P7 (Vn w n))=n:=by
 rw[Zz,Q0,Nat.mod_eq_of_lt h]
def zcx (s:OI):Vn s.length (Pz (P7 s))=s:=by
 have h1:P7 (Vn s.length (Pz (P7 s)))=P7 s:=by
  rw[Zz];have:=z1l (P7 s);rw[bitsT_length] at this;exact this
 have inj:∀a b:OI,a.length=b.length->P7 a=P7 b->a=b:=λa=>by
  induction a with
  | nil => intro b hb _; cases b with
    |nil=>rfl
    |cons=>cases hb
  | cons c a ih =>
    intro b hb he
    cases b with
    |nil=>cases hb
    | cons d b =>
      rw[TA,TA] at he;obtain⟨e1,e2⟩:=List.append_inj he (by rw[bitsN_length,bitsN_length]);rw[ih b (by simpa using hb) e2]
      congr 1
      have:=congrArg Pz e1;rw[Q0,Q0] at this;have h3:=c.toNat_lt;have h4:=d.toNat_lt;exact UInt8.toNat_inj.1 (by omega)
 exact inj _ _ (Qc _ _) h1
def Laid (txt:Int->OI)(a:Nat)(T:OI):Prop:=∀k,512*k<T.length->(txt ((a+k:Nat):Int)).take (T.length-512*k)=(T.drop (512*k)).take 512
section
variable {txt txt':Int->OI}{a n:Nat}{T:OI}
def Laid.piece (h:Laid txt a T){off n:Nat}(h1:off+n<=T.length)(h2:n<=512-off%512):((txt ((a+off / 512:Nat):Int)).drop (off%512)).take n=(T.drop off).take n:=by
 by_cases hn:n=0
 ·subst hn;simp
 have hk:=h (off / 512) (by omega)
 have e:=congrArg (λl=>(l.drop (off%512)).take n) hk
 try dsimp only at e
 rw[List.drop_take,List.take_take,Nat.min_eq_left (by omega),List.drop_take,List.take_take,List.drop_drop,Nat.min_eq_left (by omega),show 512*(off / 512)+off%512=off by omega] at e
 exact e
def Laid.SK (h:Laid txt a T)(e:∀k,512*k<T.length->txt' ((a+k:Nat):Int)=txt ((a+k:Nat):Int)):Laid txt' a T:=λk hk=>by rw[e k hk];exact h k hk
def Laid.of (h:∀k,512*k<T.length->(txt ((a+k:Nat):Int)).length=512/\∃r,txt ((a+k:Nat):Int)=(T.drop (512*k)).take 512++r):Laid txt a T:=λk hk=>by
 obtain⟨hl,r,e⟩:=h k hk
 have h1:((T.drop (512*k)).take 512).length=min 512 (T.length-512*k):=by simp
 rw[e,List.length_append,h1] at hl
 rw[e]
 by_cases hc:T.length-512*k<=512
 ·exact List.take_left' (by rw[h1];omega)
 ·have:r=[]:=List.eq_nil_of_length_eq_zero (by omega);rw[this,List.append_nil,List.take_of_length_le (by rw[h1];omega)]
end
def VcT (txt:Int->OI)(st width each:Nat)(xs:List Nat):Prop:=∀i x,xs[i]? =some x->((txt ((st+i / each:Nat):Int)).drop (i%each*width)).take width=Vn width x/\x<2^(8*width)
theorem z26 (a b c:OI){k n:Nat}(hn:k+n<=a.length):((a++b++c).drop k).take n=(a.drop k).take n:=by
 rw[List.append_assoc,List.drop_append_of_le_length (by omega),List.take_append_of_le_length (by rw[List.length_drop];omega)]
section
variable {txt txt':Int->OI}{st width each:Nat}{xs:List Nat}
def VcT.SK (h:VcT txt st width each xs)(e:∀i,i<xs.length->txt' ((st+i / each:Nat):Int)=txt ((st+i / each:Nat):Int)):VcT txt' st width each xs:=λi x hx=>by
 have hi:i<xs.length:=by
  rcases Nat.lt_or_ge i xs.length with h| h
  ·exact h
  ·rw[List.getElem?_eq_none h] at hx;cases hx
 rw[e i hi]
 exact h i x hx
theorem VcT.set (h:VcT txt st width each xs)(he:1<=each){i x:Nat}(hx:x<2^(8*width))(hi:i<xs.length){t:OI}(ht:txt ((st+i / each:Nat):Int)=t)(hl:i%each*width+width<=t.length):VcT (ZB txt ((st+i / each:Nat):Int) (some (t.take (i%each*width)++Vn width x++t.drop (i%each*width+width)))) st width each (xs.set i x):=λj y hy=>by
 by_cases hb:j / each=i / each
 ·rw[hb,S3];show((t.take (i%each*width)++Vn width x++t.drop (i%each*width+width)).drop (j%each*width)).take width=_/\_;have aS:(t.take (i%each*width)).length=i%each*width:=by rw[List.length_take];omega
  by_cases gW:j=i
  ·subst gW;rw[List.getElem?_set_self hi] at hy;cases hy;refine⟨?_,hx⟩;rw[List.append_assoc,List.drop_left' aS,List.take_left' (Qc _ _)]
  ·rw[List.getElem?_set_ne (λe=>gW e.symm)] at hy;obtain⟨h1,h2⟩:=h j y hy;refine⟨?_,h2⟩;rw[hb,ht] at h1;rw[<-h1];have ur:=Nat.div_add_mod i each;have nP:=Nat.div_add_mod j each;rw[hb] at nP;have bu:j%each≠i%each:=λe=>gW (by omega);rcases Nat.lt_or_gt_of_ne bu with qg|Oa
   ·have hm:(j%each+1)*width<=i%each*width:=Nat.mul_le_mul_right _ (by omega);rw[Nat.add_mul,Nat.one_mul] at hm;rw[z26 _ _ _ (by omega),List.drop_take,List.take_take,Nat.min_eq_left (by omega)]
   ·have hm:(i%each+1)*width<=j%each*width:=Nat.mul_le_mul_right _ (by omega);rw[Nat.add_mul,Nat.one_mul] at hm;rw[List.drop_append,List.drop_of_length_le (by rw[List.length_append,aS,Qc];omega),List.nil_append,List.length_append,aS,Qc,List.drop_drop,show i%each*width+width+(j%each*width-(i%each*width+width))=j%each*width by omega]
 ·have gW:j≠i:=λe=>hb (by rw[e]);rw[List.getElem?_set_ne (λe=>gW e.symm)] at hy;rw[Rn _ _ (by omega)];exact h j y hy
def z0K {l z:OI}{w:Nat}(hl:l.length=w):∀(e k:Nat),k<e->(((List.replicate e l).flatten++z).drop (k*w)).take w=l
 |0,k,h=>by omega
 | e + 1, 0, h => by
   rw[Nat.zero_mul,List.drop_zero,List.replicate_succ,List.flatten_cons,List.append_assoc]
   exact List.take_left' hl
 | e + 1, k + 1, h => by
   rw[List.replicate_succ,List.flatten_cons,List.append_assoc,List.drop_append,List.drop_of_length_le (by rw[hl,Nat.add_mul];omega),List.nil_append,hl,Nat.add_mul,Nat.one_mul,Nat.add_sub_cancel];exact z0K hl e k (by omega)
theorem VcT.fill {n x:Nat}(hx:x<2^(8*width))(he:1<=each)(h:∀i,i<n->∃z,txt ((st+i / each:Nat):Int)=(List.replicate each (Vn width x)).flatten++z):VcT txt st width each (List.replicate n x):=λi y hy=>by
 rw[List.getElem?_replicate] at hy
 split at hy
 ·rename_i hi
  cases hy;obtain⟨z,e⟩:=h i hi;rw[e];exact⟨z0K (Qc _ _) each _ (Nat.mod_lt _ he),hx⟩
 ·cases hy
end
def z1u (n wd k:Nat):List Value:=(List.range wd).map λi=>if i<k then Tu (UInt8.ofNat (n / 2^(8*(wd-1-i)))) else .int .u8 0
@[simp] theorem beTo_length (n wd k:Nat):(z1u n wd k).length=wd:=by simp[z1u]
theorem z2r (n wd:Nat):z1u n wd 0=List.replicate wd (.int .u8 0):=by
 apply List.ext_getElem<;>simp[z1u]
theorem z4B (n wd:Nat):z1u n wd wd=(Vn wd n).map Tu:=by
 simp only[z1u,Vn,List.map_map]
 apply List.map_congr_left
 intro i hi
 rw[if_pos (by simpa using hi)];rfl
theorem z5r (n wd k:Nat)(h:k<wd):(z1u n wd k).set (0+k*1) (.int .u8 ((n / 2^(8*(wd-1-k))%256:Nat):Int))=z1u n wd (k+1):=by
 apply List.ext_getElem
 ·simp
 ·intro j h1 h2;have hj:j<wd:=by simpa using h2
  simp only[z1u,List.getElem_set,List.getElem_map,List.getElem_range];by_cases yJ:j=k
  ·subst yJ;simp[Tu]
  ·rw[if_neg (by omega)];by_cases aS:j<k
   ·rw[if_pos aS,if_pos (by omega)]
   ·rw[if_neg aS,if_neg (by omega)]
def ZN (n wd:Nat)(w:World)(hn:n<18446744073709551616)(nA:wd<=8):Pm prog 86 [OY n,I (wd:Int)] w λv w'=>v=S (Vn wd n)/\Ext w w':=by
 have fh:maxLen=9223372036854775807:=rfl
 refine py (e:=[(0,_),(1,_)]) func86 O ntmps86 O O$ qN O$ QW O$ OJ O O (pmk (c:=wd) (n:=wd) SG Ye O O O (by omega) (by omega) (by omega)) ?_
 rintro _ w1 ⟨b1,rfl,⟨bL,ad,ai⟩,-⟩
 refine OV O$ PK O$ Rs SG O$ ON O$ OC$ OE ?_
 rw[<-z2r n wd] at ai
 refine Rr (α:=Nat) (0) (λk=>[(0,OY n),(1,I (wd:Int)),(5,.slice (some ⟨b1,0,none⟩) wd wd),(10,I (wd:Int)),(11,I (k:Int))]) (λk w'=>k<=wd/\OP w' b1 (z1u n wd k) 5/\Ext w w') (λk=>wd-k) ?hI ?hround
 case hI=>exact⟨by omega,ai,ad⟩
 case hround=>
  rintro k w2 ⟨hk,ak,ae⟩ ih
  try dsimp only
  refine qN O$ Qw O$ OC$ An$ OQ O (λaS=>?_)$ λaS=>?_
  ·have FH:k<wd:=by omega
   refine OD$ QA$ Pn O$ OV O$ OK O$ Pa O$ Pa O$ Ro O$ ON O$ Ro O$ qV (Yb O O (by omega)) ?_;rw[show(8:Int)*(((wd:Int)-1)-(k:Int))=((8*(wd-1-k):Nat):Int) from by omega];refine qV (Uw (8*(wd-1-k)) (2^(8*(wd-1-k))) O O (by simp only[IntKind.bits];omega) O) ?_;refine qV (zdq O Rt U5)$ qV (PR SG Ye O O (by omega))$ OT O (QG Ye O O O ak (by simp;omega)) ?_;rintro w3 ⟨ar,av⟩;rw[z5r n wd k FH] at ar;refine OC$ Oz$ OK O$ PS O$ ON O$ OC ?_;exact(ih (k+1) w3 ⟨by omega,ar,ae.It av (λi hi=>by rw[hi,bL];exact Nat.le_refl _)⟩ (by omega)).qb
  ·have:k=wd:=by omega
   subst this;rw[z4B] at ak;refine OO O$ Pn O$ qV (z9m (l:=Vn k n) SG U5 U9 O ak (by rw[List.drop_zero];exact List.take_of_length_le (by rw[List.length_map,Qc];omega)) (by simp[Vn])) ?_;refine OV O$ OB func86 O ?_;exact⟨_,rfl,rfl,ae⟩
def z2L (s:OI)(hs:s.length<=8)(w:World):Pm prog 87 [S s] w λv w'=>v=OY (Pz (P7 s))/\Ext w w':=by
 refine py (e:=[(0,_)]) func87 O ntmps87 O O$ Qx O$ PK O$ OJ O O (zco U9 SG U5 O) ?_
 rintro _ w1 ⟨b7,c7,rest,rfl,⟨mg,ad,ai⟩,DT⟩
 refine Rs SG O$ ON O$ OC$ OE$ Rr (α:=Nat) (0) (λi=>[(2,OY (Pz (P7 (s.take i)))),(6,.slice (some ⟨b7,0,none⟩) s.length c7),(7,I (s.length:Int)),(8,I (i:Int))]) (λi w'=>w'=w1/\i<=s.length) (λi=>s.length-i) ?hI ?hround
 case hI=>exact⟨rfl,Nat.zero_le _⟩
 case hround=>
  rintro i w2 ⟨rfl,hi⟩ ih
  try dsimp only
  refine qN O$ Qw O$ OC$ An$ OQ O (λh0=>?_)$ λh0=>?_
  ·obtain⟨c,hc⟩:∃c,s[i]? =some c:=⟨_,List.getElem?_eq_getElem (by omega)⟩;have fL:=c.toNat_lt;have lU:=z1x hc
   have aS:Pz (P7 (s.take i))<72057594037927936:=by
    have h1:=R1 (P7 (s.take i));rw[bitsT_length,List.length_take] at h1;have h2:2^(8*min i s.length)<=2^56:=Nat.pow_le_pow_right (by decide) (by omega);omega
   have bj:w2.cell? ⟨b7,0+i*1,none⟩=some (Tu c):=by
    rw[ai.cell,Nat.zero_add,Nat.mul_one,List.getElem?_append_left (by rw[List.length_map];omega),List.getElem?_map,hc];rfl
   refine OD$ QA$ qN O$ qV (PR SG Ye O O (by omega))$ qV (Ps U5 O O bj) ?_
   generalize Pz (P7 (s.take i))=q at lU aS
   refine OV O$ R6 O$ qV (Rf 8 256 O O (by decide) O)$ ON O$ qV ((zby O U5 Rt (by decide)))$ qV (z1a O O (by omega) (by omega)) ?_
   have pz:(q*256%18446744073709551616 |||c.toNat)=Pz (P7 (s.take (i+1))):=by
    rw[lU,Nat.mod_eq_of_lt (by omega),Nat.mul_comm q];exact(Nat.two_pow_add_eq_or_of_lt (i:=8) fL q).symm
   rw[pz];refine OV O$ Oz$ OK O$ PS O$ ON O$ OC ?_;exact(ih (i+1) _ ⟨rfl,by omega⟩ (by omega)).qb
  ·have dl:i=s.length:=by omega
   subst dl;rw[List.take_length];refine OO O$ Pn O$ OV O$ OB func87 O ?_;exact⟨_,rfl,rfl,ad⟩
def vcC (n width each st len s:Nat)(cl:Bool):List Value:=[I (n:Int),I (width:Int),I (each:Int),I (st:Int),I (len:Int),ptr s 0,.bool cl]
def VE (n each:Nat):Nat:=max 1 ((n+each-1) / each)
structure Uk (Q:Ra)(txt:Int->OI)(vb width st:Nat)(xs:List Nat)(w:World):Prop where
 OA:OP w vb (vcC xs.length width (512 / width) st (VE xs.length (512 / width)) Q.s false) 143
 wd:width=1\/width=2\/width=4\/width=8
 t:VcT txt st width (512 / width) xs
 n:xs.length<=4194304
 fit:st+VE xs.length (512 / width)<=Q.L.length
def z35 {n each:Nat}(he:1<=each){i:Nat}(hi:i<n):i / each<VE n each:=by
 unfold VE
 have h1:i / each<=(n-1) / each:=Nat.div_le_div_right (by omega)
 have h2:(n+each-1) / each=(n-1) / each+1:=by
  rw[show n+each-1=(n-1)+each by omega,Nat.add_div_right _ (by omega)]
 omega
section
variable {w w':World}{Q Q':Ra}{txt txt':Int->OI}{vb width st:Nat}{xs ys:List Nat}{S':Nat->Prop}
theorem Uk.e (h:Uk Q txt vb width st xs w):64<=512 / width/\512 / width<=512/\512 / width*width=512/\1<=width/\width<=8:=by
 rcases h.wd with e|e|e|e<;>subst e<;>decide
def Uk.kp (h:Uk Q txt vb width st xs w)(hk:Kp S' w w')(hn:¬S' vb):Uk Q txt vb width st xs w':=⟨hk.OA h.OA hn,h.wd,h.t,h.n,h.fit⟩
theorem Uk.ext (h:Uk Q txt vb width st xs w)(hx:Ext w w'):Uk Q txt vb width st xs w':=h.kp (S':=λ_=>False) hx id
def Uk.SK (h:Uk Q txt vb width st xs w)(e:∀y:Int,(st:Int)<=y->y<(st:Int)+(VE xs.length (512 / width):Int)->txt' y=txt y):Uk Q txt' vb width st xs w:=
 ⟨h.OA,h.wd,h.t.SK λi hi=>by
  have:=z35 (each:=512 / width) (by have:=h.e;omega) hi
  generalize i / (512 / width)=q at this⊢
  exact e _ (by omega) (by omega),h.n,h.fit⟩
theorem Uk.q (h:Uk Q txt vb width st xs w)(hs:Q'.s=Q.s)(hl:Q'.L.length=Q.L.length):Uk Q' txt vb width st xs w:=⟨by rw[hs];exact h.OA,h.wd,h.t,h.n,by rw[hl];exact h.fit⟩
def Uk.lt (h:Uk Q txt vb width st xs w):vb<w.heap.size:=h.OA.lt
def Uk.at_ (h:Uk Q txt vb width st xs w){i:Nat}(hi:i<xs.length):st+i / (512 / width)<Q.L.length/\i%(512 / width)*width+width<=512/\i / (512 / width)<VE xs.length (512 / width):=by
 obtain⟨h1,h2,h3,h4,h5⟩:=h.e
 have h6:=z35 (each:=512 / width) (by omega) hi
 have h7:=h.fit
 have h8:(i%(512 / width)+1)*width<=512 / width*width:=Nat.mul_le_mul_right _ (Nat.mod_lt _ (by omega))
 rw[Nat.add_mul,Nat.one_mul] at h8
 refine⟨by omega,by omega,h6⟩
theorem Uk.cells (h:Uk Q txt vb width st xs w):OP w vb [I (xs.length:Int),I (width:Int),I ((512 / width:Nat):Int),I (st:Int),I (VE xs.length (512 / width):Int),ptr Q.s 0,.bool false] 143:=h.OA
def VcW (Q:Ra)(txt:Int->OI)(K:Nat)(X:Nat->Prop)(vb width st:Nat)(ys:List Nat)(w w':World):Prop:=
 ∃txt',Sp Q txt' K X w'/\Uk Q txt' vb width st ys w'/\(∀y:Int,y<(st:Int)\/(st:Int)+(VE ys.length (512 / width):Int)<=y->txt' y=txt y)/\Kp (λb=>¬X b) w w'
end
end Go.Proofs.YtffbidffdbpcoaaGreatDoor
namespace Go.Proofs.YtffbidffdbpcoaaGreatDoor.Sums
def bit (c:Nat):Nat:=if c%2=1 then(c / 2)^^^2197175160 else c / 2
def zej (c:Nat):Nat:=bit (bit (bit (bit (bit (bit (bit (bit c)))))))
def byte (c:Nat)(b:UInt8):Nat:=zej (c^^^b.toNat)
def raw (c:Nat)(l:List UInt8):Nat:=l.foldl byte c
def neg (c:Nat):Nat:=4294967295^^^c
def on (c:Nat)(l:List UInt8):Nat:=neg (raw (neg c) l)
def crc (l:List UInt8):Nat:=on 0 l
def be4 (n:Nat):List UInt8:=[UInt8.ofNat (n / 16777216),UInt8.ofNat (n / 65536),UInt8.ofNat (n / 256),UInt8.ofNat n]
@[simp] theorem be4_length (n:Nat):(be4 n).length=4:=rfl
def head (k:UInt8)(p:List UInt8):List UInt8:=k::be4 p.length
def frame (k:UInt8)(p:List UInt8):List UInt8:=head k p++be4 (crc (head k p++p))++p
@[simp] theorem head_length (k:UInt8) (p:List UInt8):(head k p).length=5:=rfl
theorem zbk (c:Nat):(c / 2)^^^(2197175160&&&((4294967296-(c&&&1))%4294967296))=bit c:=by
 have h1:c&&&1=c%2:=Nat.and_two_pow_sub_one_eq_mod c 1
 rw[h1]
 unfold bit
 by_cases h:c%2=1
 ·rw[if_pos h,h]
  congr 1
 ·have h0:c%2=0:=by omega
  rw[if_neg h,h0];simp
def Yx {a b:Nat}(ha:a<4294967296)(hb:b<4294967296):a^^^b<4294967296:=Nat.xor_lt_two_pow (n:=32) ha hb
def VK {c:Nat}(h:c<4294967296):bit c<4294967296:=by
 unfold bit
 split
 ·exact Yx (by omega) (by omega)
 ·omega
def zbD {c:Nat}(h:c<4294967296):zej c<4294967296:=VK (VK (VK (VK (VK (VK (VK (VK h)))))))
def z81 {c:Nat}(h:c<4294967296)(b:UInt8):byte c b<4294967296:=zbD (Yx h (by have:=b.toNat_lt;omega))
def zaZ:∀(l:List UInt8) {c:Nat},c<4294967296->raw c l<4294967296
 |[],_,h=>h
 |b::l,_,h=>zaZ l (z81 h b)
def z5Q {c:Nat}(h:c<4294967296):neg c<4294967296:=Yx (by omega) h
def ze1 {c:Nat}(l:List UInt8)(h:c<4294967296):on c l<4294967296:=z5Q (zaZ l (z5Q h))
def zfd (l:List UInt8):crc l<4294967296:=ze1 l (by omega)
theorem z6q (c:Nat)(a b:List UInt8):raw c (a++b)=raw (raw c a) b:=List.foldl_append ..
/-! ### The step is linear -/
/-! ### Linear maps, by their table -/
def iter (L:Nat->Nat):Nat->Nat->Nat
 |0,x=>x
 |n+1,x=>iter L n (L x)
/-! ### Frames -/
@[simp] theorem frame_length (k:UInt8) (p:List UInt8):(frame k p).length=9+p.length:=by simp[frame];omega
/-! ### A byte that is turned is told -/
theorem getD_take (s:List UInt8)(n i:Nat)(h:i<n):(s.take n).getD i 0=s.getD i 0:=by simp[List.getD,h]
theorem SM (s:List UInt8)(n i:Nat)(x:UInt8)(h:i≠n):(s.set n x).getD i 0=s.getD i 0:=by
 simp only[List.getD,List.getElem?_set]
 rw[if_neg (λe=>h e.symm)]
def zbn (s:List UInt8)(i:Nat)(d:UInt8):List UInt8:=s.set i (s.getD i 0^^^d)
@[simp] theorem turned_length (s:List UInt8) (i:Nat) (d:UInt8):(zbn s i d).length=s.length:=by simp[zbn]
end Go.Proofs.YtffbidffdbpcoaaGreatDoor.Sums
namespace Go.Proofs.YtffbidffdbpcoaaGreatDoor
open Go Go.RowKit Go.Proofs.Tryz
set_option linter.unusedVariables false
abbrev U (n:Nat):Value:= .int .u32 (n:Int)
def zbB (c:Nat)(b:UInt8)(p:Nat)(T:TypeId)(w:World)(hB:OP w p [U c] T)(hc:c<4294967296):
  Pm prog 127 [Tu b,ptr p 0] w λv w'=>v= .tuple #[]/\OP w' p [U (Sums.byte c b)] T/\Kp (λk=>k=p) w w':=by
 have hb:=b.toNat_lt
 have hx:=Sums.Yx hc (show b.toNat<4294967296 by omega)
 refine py (e:=[(0,_),(1,_)]) func127 O ntmps127 O O$ qN O$ qV (OM QR O O hB O)$ ON O$ qV ((zby O U5 QR (by decide)))$ qV (ze6 O O (by omega) (by omega))$ OT O (QG P6 O O O hB (by simp)) ?_
 rintro w1 ⟨ai,az⟩
 refine qM O$ ON O$ OC$ OE$ Rr (α:=Nat×Nat) ((0,c^^^b.toNat)) (λx=>[(0,Tu b),(1,ptr p 0),(7,I (x.1:Int))]) (λx w'=>x.1<=8/\x.2<4294967296/\Sums.iter Sums.bit (8-x.1) x.2=Sums.byte c b/\OP w' p [U x.2] T/\Kp (λk=>k=p) w w') (λx=>8-x.1) ?hI ?hround
 case hI=>exact⟨by omega,hx,rfl,ai,az⟩
 case hround=>
  rintro⟨k,d⟩ w2 ⟨aL,hd,hs,ak,am⟩ ih
  try dsimp only
  refine qN O$ Qw O$ OC$ An$ OQ O (λaS=>?_)$ λaS=>?_
  ·have kk:d&&&1<4294967296:=Nat.lt_of_le_of_lt Nat.and_le_right (by omega);have uZ:(4294967296-(d&&&1))%4294967296<4294967296:=Nat.mod_lt _ (by omega);have jj:2197175160&&&((4294967296-(d&&&1))%4294967296)<4294967296:=Nat.lt_of_le_of_lt Nat.and_le_left (by omega);refine OD$ QA$ OK O$ qV (OM QR O O ak O)$ qV (Uw 1 2 O O (by decide) O)$ qV (OM QR O O ak O)$ qV (zeS O O (by omega) (by omega))$ qV (zhv O (by omega))$ qV (zeS O O (by omega) (by omega))$ qV (ze6 O O (by omega) (by omega))$ OT O (QG P6 O O O ak (by simp)) ?_;rintro w3 ⟨ar,av⟩;refine OC$ Oz$ OK O$ PS O$ ON O$ OC ?_;simp only[List.set_cons_zero] at ar;rw[Sums.zbk] at ar;refine(ih (k+1,Sums.bit d) w3 ⟨by dsimp only at*;omega,Sums.VK hd,?_,ar,am.trans av⟩ (by dsimp only at*;omega)).qb;have h8:8-k=(8-(k+1))+1:=by dsimp only at*;omega
   dsimp only at hs⊢;rw[h8] at hs;exact hs
  ·refine OO O$ Qa func127 O ?_;have hk:k=8:=by dsimp only at*;omega
   subst hk;refine⟨_,rfl,rfl,?_,am⟩;have:d=Sums.byte c b:=hs;rw[<-this];exact ak
def zfs {l:List UInt8}{rest:List Value}{k:Nat}(h:k<l.length):(l.map Tu++rest)[0+k*1]? =some (Tu (l.getD k 0)):=by
 rw[Nat.zero_add,Nat.mul_one,List.getElem?_append_left (by simpa using h)]
 simp[h,List.getD]
theorem z1V (c:Nat)(l:List UInt8)(k:Nat)(h:k<l.length):Sums.raw c (l.take (k+1))=Sums.byte (Sums.raw c (l.take k)) (l.getD k 0):=by
 rw[List.take_succ_eq_append_getElem h,Sums.z6q]
 simp[Sums.raw,List.getD,h]
def zaD (c:Nat)(l:List UInt8)(w:World)(hc:c<4294967296)(hl:l.length<=9223372036854775807):
  Pm prog 85 [U c,S l] w λv w'=>v=U (Sums.on c l)/\Ext w w':=by
 refine py (e:=[(0,_),(1,_)]) func85 O ntmps85 O O$ qN O$ OJ O O (R4 O O) ?_
 rintro _ w1 ⟨b1,rfl,bL,ad,ai⟩
 refine QS O$ qV (OM QR O O ai O)$ qV (zeT O (by omega))$ OT O (QG P6 O O O ai (by simp)) ?_
 rintro w2 ⟨ak,am⟩
 simp only[List.set_cons_zero] at ak
 have ae:Ext w w2:=ad.It am (λi hi=>by rw[hi,bL];exact Nat.le_refl _)
 refine qM O$ qV (ymf (first:=[]) (caps:=[.tmp 2]) O O)$ OV O$ PK O$ OJ O O (zco U9 SG U5 O) ?_
 rintro _ w3 ⟨b3,cap,rest,rfl,⟨dG,ah,ar⟩,kl⟩
 refine Rs SG O$ ON O$ OC$ OE ?_
 have bu:b3≠b1:=by have:=ak.lt;omega
 refine Rr (α:=Nat×Nat) ((0,Sums.neg c)) (λx=>[(2,ptr b1 0),(5,.func (.func 127) #[] #[ptr b1 0]),(12,.slice (some ⟨b3,0,none⟩) l.length cap),(13,I (l.length:Int)),(14,I (x.1:Int))]) (λx w'=>x.1<=l.length/\x.2<4294967296/\x.2=Sums.raw (Sums.neg c) (l.take x.1)/\OP w' b1 [U x.2] 59/\OP w' b3 (l.map Tu++rest) 5/\Ext w w') (λx=>l.length-x.1) ?hI ?hround
 case hI=>exact⟨by simp,Sums.z5Q hc,rfl,ah.OA ak,ar,ae.trans ah⟩
 case hround=>
  rintro⟨k,d⟩ w4 ⟨hk,hd,hs,aK,aH,aA⟩ ih;dsimp only at hk hd hs aK
  try dsimp only
  refine qN O$ Qw O$ OC$ An$ OQ O (λaS=>?_)$ λaS=>?_
  ·have ny:k<l.length:=by omega
   refine OD$ QA$ qN O$ qV (PR SG Ye O O (by omega))$ qV (OM U5 O O aH (zfs ny))$ OV O$ OK O$ Pa O$ Qp O O (RN ziX O O) (zbB d (l.getD k 0) b1 _ w4 aK hd) ?_;rintro _ w5 ⟨rfl,aT,aM⟩;refine OC$ Oz$ OK O$ PS O$ ON O$ OC ((ih (k+1,Sums.byte d (l.getD k 0)) w5 ⟨ny,Sums.z81 hd _,?_,aT,aM.OA aH bu,aA.It aM (λi hi=>by rw[hi,bL];exact Nat.le_refl _)⟩ (by dsimp only;omega)).qb);rw[z1V _ _ _ ny,<-hs]
  ·refine OO O$ qN O$ qV (OM QR O O aK O)$ qV (zeT O (by omega))$ OV O$ OB func85 O (⟨_,rfl,?_,aA⟩);have nu:k=l.length:=by omega
   subst nu;rw[List.take_length] at hs;show U (Sums.neg d)=_;rw[hs]
   rfl
def z8b (l:List UInt8)(w:World)(hl:l.length<=9223372036854775807):
  Pm prog 79 [S l] w λv w'=>v=U (Sums.crc l)/\Ext w w':=by
 refine py (e:=[(0,_)]) func79 O ntmps79 O O$ qN O$ QW O$ P5 zgi O (zaD 0 l _ (by omega) hl) ?_
 rintro _ w1 ⟨rfl,ad⟩
 refine OV O$ OB func79 O ?_
 exact⟨_,rfl,rfl,ad⟩
theorem z0Q (s:OI):Lib.strCells ⟨s.toArray⟩=s.map Tu:=by simp[Lib.strCells,Tu]
section
variable {P:Program}{e:Env}{d:Option Nat}{ty t tu tn el:TypeId}{pos:String}{aft:Array Edge}{g:Option (Nat×Bool)}{x y:Operand}{w w':World}{n k:Nat}{v:Value}{cs:List Value}{s:OI}{kn:IntKind}{za:Int}
def z4f (ht:P.underlying t=some (.slice el))(hu:P.underlying tu=some .string)(hs:TI P el (.int .u8 0) 1 1)(hv:Sl w v el 1 n cs)(hb:n+s.length<=140737488355328):
  ∃v' w',(Builtin.append_ #[t,tu] ty #[v,S s]).run P w= .ok v' w'/\Sl w' v' el 1 (n+s.length) (cs++s.map Tu)/\Kp (λk=>v.ownBlock=some k) w w'/\(∀g,v'.ownBlock=some g->v.ownBlock=some g\/w.heap.size<=g):=by
 have fh:maxLen=9223372036854775807:=rfl
 obtain⟨i,hi,qe,kj,rZ⟩:=hs
 have e1:=SW s
 have e2:=z0Q s
 rcases id hv.2 with⟨rfl,rfl⟩|⟨g,cap,cur,rfl,IP,hg,jP,nH,ge,IQ⟩
 ·have hx:cs=[]:=List.eq_nil_of_length_eq_zero (by simpa using hv.1);subst hx;obtain⟨v',w',hr,ho,hg,-⟩:=Lib.run_append_own_string (P:=P) w w.heap.size t tu ty el i ht hu hi qe kj rZ (.slice none 0 0) 0 [] (World.ownsRow_nil w w.heap.size el 1) ⟨s.toArray⟩ (by rw[e1];omega) (by rw[e1];exact hb) (Nat.le_refl _);rw[e1,e2] at ho;refine⟨v',w',hr,⟨ho.1,?_⟩,Kp.Uz hg,λg hg=> .inr (World.ownsRow.lt ho g hg).1⟩;rcases ho.2 with Mg|⟨g,cap2,cur2,nv,bN,dt⟩
  ·exact .inl Mg
  ·exact .inr ⟨g,cap2,cur2,nv,Nat.zero_le _,dt⟩
 ·by_cases f9:n+s.length<=cap
  ·by_cases hc:0<cap
   ·obtain⟨w',hr,ho,cS⟩:=Lib.run_append_fits_string (P:=P) w 0 t tu ty el i ht hu hi kj (some ⟨g,0,none⟩) n cap cs hv ⟨s.toArray⟩ hc (by rw[e1];exact f9);rw[e1,e2] at ho;rw[e1] at hr;exact⟨_,w',hr,ho,Kp.Uz cS,λg' cS=> .inl (by simpa[Value.ownBlock] using cS)⟩
   ·obtain⟨v',w',hr,ho,cS,-⟩:=Lib.run_append_own_string (P:=P) w 0 t tu ty el i ht hu hi qe kj rZ (.slice (some ⟨g,0,none⟩) n cap) n cs hv ⟨s.toArray⟩ (by rw[e1];omega) (by rw[e1];exact hb) (Nat.zero_le _);have Ad:s=[]:=List.eq_nil_of_length_eq_zero (by omega);subst Ad;have dt:=Lib.run_append_room_string (P:=P) w t tu ty el i ht hu hi kj g n cap cur hg ⟨[].toArray⟩ (by rw[e1];exact f9) (by rw[e1];simp only[Nat.mul_one] at ge;simp only[List.length_nil];omega);rw[dt] at hr;cases hr;rw[e1,e2] at ho;exact⟨_,_,dt,ho,Kp.Uz cS,λg' cS=> .inl (by simpa[Value.ownBlock] using cS)⟩
  ·obtain⟨v',w',hr,ho,cS,-⟩:=Lib.run_append_own_string (P:=P) w 0 t tu ty el i ht hu hi qe kj rZ (.slice (some ⟨g,0,none⟩) n cap) n cs hv ⟨s.toArray⟩ (by rw[e1];omega) (by rw[e1];exact hb) (Nat.zero_le _);have dt:=Lib.run_append_grow_string (P:=P) w t tu ty el i (.int .u8 0) ht hu hi qe ⟨g,0,none⟩ n cap cs (by rw[kj];exact hv.1) (World.ownsRow.cells hv (g:=g) O) ⟨s.toArray⟩ (by rw[e1];omega) (by rw[e1];omega) (by rw[e1];exact growslice_fits (by omega) (by rw[rZ];omega));rw[dt] at hr;cases hr;rw[e1,e2] at ho;refine⟨_,_,dt,by rw[<-e1] at ho⊢;exact ho,Kp.Uz cS,λg' cS=> .inr ?_⟩;simp[Value.ownBlock] at cS;omega
def zgG (ht:P.underlying t=some (.slice el))(hu:P.underlying tu=some .string)(hs:TI P el (.int .u8 0) 1 1)(hx:look e x=some v)(hy:look e y=some (S s))(hv:Sl w v el 1 n cs)(hb:n+s.length<=140737488355328):
  Yp P e ⟨d,.call ⟨.builtin .append,#[x,y],#[t,tu]⟩,ty,pos,aft,g⟩ w λv' w'=>Sl w' v' el 1 (n+s.length) (cs++s.map Tu)/\Kp (λk=>v.ownBlock=some k) w w'/\(∀g,v'.ownBlock=some g->v.ownBlock=some g\/w.heap.size<=g):=by
 obtain⟨v',w',hr,oB⟩:=z4f (P:=P) (ty:=ty) ht hu hs hv hb
 refine⟨v',w',fun ρ hρ=>?_,oB⟩
 simp[execOp,resolve,invoke,builtin,hρ _ _ hx,hρ _ _ hy,hr]
def z58 (k:Nat):Builtin.zeroCells (Value.int .u8 0).cells k=(Lib.strCells ⟨(zeros k).toArray⟩).toArray:=by
 rw[z0Q]
 apply Array.ext'
 rw[Xz (.int .u8 0) k O]
 simp[zeros,Tu]
theorem zhD [tp:Tc za k](ht:P.underlying t=some (.slice el))(hn:P.underlying tn=some (.int kn))(hu:P.underlying tu=some .string)(hs:TI P el (.int .u8 0) 1 1)(hx:look e x=some v)(hy:look e y=some (I za))(hv:Sl w v el 1 n cs)(hb:n+k<=140737488355328):
  Yp P e ⟨d,.call ⟨.builtin .append,#[x,y],#[t,tn]⟩,ty,pos,aft,g⟩ w λv' w'=>Sl w' v' el 1 (n+k) (cs++(zeros k).map Tu)/\Kp (λk=>v.ownBlock=some k) w w'/\(∀g,v'.ownBlock=some g->v.ownBlock=some g\/w.heap.size<=g):=by
 obtain⟨rfl⟩:=tp
 have hl:(zeros k).length=k:=by simp[zeros]
 obtain⟨v',w',hr,h1,h2⟩:=z4f (P:=P) (ty:=ty) (s:=zeros k) ht hu hs hv (by rw[hl];exact hb)
 rw[hl] at h1
 have he:(Builtin.append_ #[t,tn] ty #[v,I (k:Int)]).run P w= .ok v' w':=by
  rw[<-hr];obtain⟨i,hi,qe,kj,rZ⟩:=hs;have hw:IntKind.i64.wrap (k:Int)=k:=by rw[IntKind.wrap_i64];omega
  have uZ:¬((k:Int)<0):=by omega
  have IR:¬(281474976710656<(k:Int)*(i.bytes:Int)):=by rw[rZ];omega
  have hf:=λw=>Lib.run_firstCells_string (P:=P) w i.size ⟨(zeros k).toArray⟩;have cD:(ByteArray.mk (zeros k).toArray).size=k:=by rw[SW,hl]
  rw[cD] at hf
  obtain⟨a,c,Mh⟩:∃a c,v= .slice a n c:=by
   rcases hv.2 with⟨rfl,rfl⟩|⟨g,cap,cur,rfl,_⟩
   ·exact⟨_,_,rfl⟩
   ·exact⟨_,_,rfl⟩
  subst Mh;have Mi:k=0->(Lib.strCells ⟨(zeros k).toArray⟩).toArray=#[]:=λe=>by subst e;rfl
  have Mj:c<=maxLen/\n<=c:=by
   rcases hv.2 with⟨h,h'⟩|⟨g,cap,cur,h,_,_,h1,h2,_⟩
   ·cases h;exact⟨by simp[maxLen],by omega⟩
   ·cases h;exact⟨h2,h1⟩
  have cm:n+k<=c\/¬(281474976710656<Builtin.nextslicecap (n+k) c*i.bytes):=by
   by_cases hr:n+k<=c
   ·exact .inl hr
   ·have:=growslice_fits (need:=n+k) (old:=c) (bytes:=i.bytes) (by omega) (by rw[rZ];omega);exact .inr (by omega)
  have FI:¬(9223372036854775807<((n:Int)+(k:Int))):=by omega
  by_cases hk:k=0
  ·subst hk;have e0:=Mi O;have io:n<=c:=Mj.2;have nV:IntKind.i64.wrap 0=0:=by rw[IntKind.wrap_i64];omega
   have j9:=hf w;rw[kj,e0] at j9;simp[Builtin.append_,run_underlying ht,run_underlying hn,run_underlying hu,sizeOf,typeInfo,zeroValue,hi,qe,kj,asInt,asIntOf,nV,Builtin.lenOf,cD,io,j9]
  ·have bX:=z58 k;have tv:∀w,(Builtin.firstCells 1 k (.string ⟨(zeros k).toArray⟩)).run P w= .ok (Builtin.zeroCells (Value.int .u8 0).cells k) w:=λw=>by rw[bX];have:=hf w;rw[kj] at this;exact this
   have dP:¬(k*i.size=0):=by rw[kj];omega
   by_cases hr:n+k<=c
   ·simp[Builtin.append_,run_underlying ht,run_underlying hn,run_underlying hu,sizeOf,typeInfo,zeroValue,hi,qe,kj,asInt,asIntOf,hw,uZ,IR,Builtin.lenOf,cD,hr,tv,hk]
   ·have FJ:=cm.resolve_left hr;simp[Builtin.append_,run_underlying ht,run_underlying hn,run_underlying hu,sizeOf,typeInfo,zeroValue,hi,qe,kj,asInt,asIntOf,hw,uZ,IR,Builtin.lenOf,cD,hr,tv,hk,FI,FJ]
 refine⟨v',w',fun ρ hρ=>?_,h1,h2⟩
 simp[execOp,resolve,invoke,builtin,hρ _ _ hx,hρ _ _ hy,he]
end
/-! ### Writers -/
def swC (s st len:Nat)(rest:Value)(at' n:Nat)(sum:Nat)(put:Value)(dn:Bool):List Value:=[ptr s 0,I (st:Int),I (len:Int),rest,I (at':Int),I (n:Int),U sum,put,.bool dn]
section
variable {w w':World}{Q:Ra}{txt:Int->OI}{K:Nat}{X:Nat->Prop}
def z39 (n:Nat)(hn:n<=2000000)(w:World):Pm prog 48 [I 512,I (n:Int)] w λv w'=>v= .tuple #[I (((n+523) / 512:Nat):Int),I 0]/\w'=w:=by
 refine py (e:=[(0,_),(1,_)]) func48 O ntmps48 O O$ qN O$ Qm O$ PK O$ Qw O$ PH$ Pa O$ QB O$ PH$ PM O$ Pa O$ qV (yre O O (by omega))$ QE O$ PH ?_
 refine PM O$ Pa O$ Qw O$ PH$ PM O$ Pa O$ ON O$ qV (Yb O O (by omega))$ Ro O$ QB O$ PH$ PM O$ OC$ Po.qb (e:=[(0,_),(1,_),(4,_),(5,_),(27,_)]) ?_
 refine SH O$ Pn O$ PS O$ ON O$ PS O$ Ro O$ ON O$ qV (WY O O (by omega))$ Qm O ?_
 rw[show((n:Int)+12+512-1) / 512=(((n+523) / 512:Nat):Int) by omega]
 refine OB func48 O ?_
 exact⟨_,rfl,rfl,rfl⟩
def z0e (h:Sp Q txt K X w){st len:Nat}(h1:1<=len)(h2:st+len<=Q.L.length):Pm prog 80 [.agg #[ptr Q.s 0,I (st:Int),I (len:Int)]] w λv w'=>v=I 0/\Ext w w':=by
 have ek:=h.n
 refine py (e:=[(0,_)]) func80 O ntmps80 O O$ qN O$ OJ O O (R4 O (cs:=[ptr Q.s 0,I (st:Int),I (len:Int)]) O) ?_
 rintro _ w1 ⟨b1,rfl,bL,ad,ai⟩
 have hP:=h.ext' ad
 have hg:=Ext.P4 w1
 have BM:=(hP.ext' hg).dev
 have BN:=(hP.ext' hg).blocks
 refine OV O$ QA$ qN O$ OW Vd O$ qV (OM XH O O ai O)$ qV (PY XH O O)$ OV O$ OL O$ An$ QV (λw'=>Ext w1 w') O$ OG 0 O (Pr Uf O) hg$ OG 1 O (Pr QZ O) hg$ qT 2 O (λ_ h=>OM U3 O O (h.OA ai) O) hg$ OG 3 O (ylt O O) hg ?_
 refine TD$ OZ 4 O O (hg)$ OG 5 O (Pr Uf O) hg$ OG 6 O (Pr QT O) hg$ qT 7 O (λ_ h=>OM U3 O O (h.OA ai) O) hg$ OG 8 O (ylt O O) hg$ TD$ OG 9 O (U0 O O) hg$ OZ 10 O O (hg)$ OG 11 O (Pr Uf O) hg$ OG 12 O (Pr QT O) hg$ qT 13 O (λ_ h=>OM U3 O O (h.OA ai) O) hg$ OG 14 O (Pr Vd O) hg$ qT 15 O (λ_ h=>OM XH O O (h.OA ai) O) hg ?_
 refine RT 16 O zeL O (BM) ?_
 rintro _ w2 ⟨rfl,rfl⟩
 refine⟨hg,?_⟩
 refine RT 17 O z5n O (BN) ?_
 rintro _ w2 ⟨rfl,rfl⟩
 refine⟨hg,?_⟩
 refine OG 18 O (yge O O) hg$ TD$ OG 19 O (U0 O O) hg$ OZ 20 O O (hg)$ OG 21 O (Pr Uf O) hg$ OG 22 O (Pr QZ O) hg$ qT 23 O (λ_ h=>OM U3 O O (h.OA ai) O) hg$ OG 24 O (Pr Vd O) hg$ qT 25 O (λ_ h=>OM XH O O (h.OA ai) O) hg$ OG 28 O (Pr Uf O) hg$ OG 29 O (Pr QT O) hg$ qT 30 O (λ_ h=>OM U3 O O (h.OA ai) O) hg$ RT 26 O zeL O (BM) ?_
 rintro _ w2 ⟨rfl,rfl⟩
 refine⟨hg,?_⟩
 refine RT 27 O z5n O (BN) ?_
 rintro _ w2 ⟨rfl,rfl⟩
 refine⟨hg,?_⟩
 refine OG 31 O (Xw O O (by omega)) hg$ OG 32 O (Yf O O) hg$ TD$ OG 33 O (U0 O O) hg$ OG 34 O (Rp O) hg$ qE$ Po.qb (e:=[(2,_),(7,_)]) ?_
 refine SH O$ Oz$ Qx O$ OB func80 O ?_
 exact⟨_,rfl,rfl,ad.trans hg⟩
def z1N (h:Sp Q txt K X w){st len:Nat}(h2:len<=100000):Pm prog 88 [.agg #[ptr Q.s 0,I (st:Int),I (len:Int)]] w λv w'=>v=I ((len:Int)*512-12)/\Ext w w':=by
 refine py (e:=[(0,_)]) func88 O ntmps88 O O$ qN O$ OJ O O (R4 O (cs:=[ptr Q.s 0,I (st:Int),I (len:Int)]) O) ?_
 rintro _ w1 ⟨b1,rfl,bL,ad,ai⟩
 have hP:=h.ext' ad
 have hg:=Ext.P4 w1
 have Mk:=(hP.ext' hg).size
 refine OV O$ An$ QV (λw'=>Ext w1 w') O$ OG 0 O (Pr Uf O) hg$ OG 1 O (Pr QZ O) hg$ qT 2 O (λ_ h=>OM U3 O O (h.OA ai) O) hg$ OG 3 O (Pr Vd O) hg$ qT 4 O (λ_ h=>OM XH O O (h.OA ai) O) hg$ RT 5 O z5b O (Mk) ?_
 rintro _ w2 ⟨rfl,rfl⟩
 refine⟨hg,?_⟩
 refine OG 6 O (Yb O O (by omega)) hg$ OG 7 O (Xw O O (by omega)) hg$ OG 8 O (Rp O) hg$ qE$ OB func88 O ?_
 exact⟨_,rfl,rfl,ad.trans hg⟩
def Yz {wb s st len at' n sum:Nat}{rest put:Value}(hB:OP w wb (swC s st len rest at' n sum put false) 181):Pm prog 83 [ptr wb 0] w λv w'=>v=I 0/\w'=w:=by
 replace hB:OP w wb [ptr s 0,I (st:Int),I (len:Int),rest,I (at':Int),I (n:Int),U sum,put,.bool false] 181:=hB
 refine py (e:=[(0,_)]) func83 O ntmps83 O O$ Qx O$ QA$ Pn O$ qV (PY z3y O O)$ OV O$ OL O$ Pn O$ Pq O$ OW YG O$ qV (OM U4 O O hB O)$ OV O$ SH O$ Oz ?_
 refine Qx O$ OB func83 O ?_
 exact⟨_,rfl,rfl,rfl⟩
def z4m (h:Sp Q txt K X w){wb st len at' n sum:Nat}{rest put:Value}(h2:len<=100000)(hn:n<=100000000)(hB:OP w wb (swC Q.s st len rest at' n sum put false) 181):Pm prog 84 [ptr wb 0] w λv w'=>v=I ((len:Int)*512-12-(n:Int))/\Ext w w':=by
 replace hB:OP w wb [ptr Q.s 0,I (st:Int),I (len:Int),rest,I (at':Int),I (n:Int),U sum,put,.bool false] 181:=hB
 have hg:=Ext.P4 w
 have Ml:=z1N (h.ext' hg) (st:=st) h2
 refine py (e:=[(0,_)]) func84 O ntmps84 O O$ Qx O$ PK O$ qV (PY z3y O O)$ Pa O$ Pq O$ OW YG O$ qV (OM U4 O O hB O)$ PM O$ Qg O$ An$ QV (λw'=>Ext w w') O$ OZ 0 O O (hg)$ OG 1 O (Q8 O) hg ?_
 refine OG 2 O (Pr WK O) hg$ qT 3 O (λ_ h=>Pp zd4 O Xx O (OP.cells (n:=3) (h.OA hB) (news:=[_,_,_]) O) O) hg$ OZ 5 O O (hg)$ OG 6 O (Q8 O) hg$ OG 7 O (Pr z0m O) hg$ qT 8 O (λ_ h=>OM U3 O O (h.OA hB) O) hg$ RT 4 O zis O (Ml) ?_
 rintro _ w2 ⟨rfl,ae⟩
 refine⟨(hg.trans ae),?_⟩
 refine OG 9 O (Xw O O (by omega)) ((hg.trans ae))$ OG 10 O (Rp O) ((hg.trans ae))$ qE$ OB func84 O ?_
 exact⟨_,rfl,rfl,hg.trans ae⟩
end
def z1M (bs bx bw:Nat):Value:= .func (.func 81) #[] #[ptr bs 0,ptr bx 0,ptr bw 0]
structure SwM (s st len wb bs bx bw:Nat)(rest:Value)(at' n sum:Nat)(w:World):Prop where
 wr:OP w wb (swC s st len rest at' n sum (z1M bs bx bw) false) 181
 sb:OP w bs [ptr s 0] 27
 xb:OP w bx [I (st:Int),I (len:Int)] 118
 pb:OP w bw [ptr wb 0] 121
 ne:bs≠wb/\bx≠wb/\bw≠wb
section
variable {w w':World}{Q:Ra}{txt:Int->OI}{K:Nat}{X S':Nat->Prop}{s st len wb bs bx bw at' n sum:Nat}{rest:Value}
def SwM.kp (h:SwM s st len wb bs bx bw rest at' n sum w)(hk:Kp S' w w')(h1:¬S' wb)(h2:¬S' bs)(h3:¬S' bx)(h4:¬S' bw):SwM s st len wb bs bx bw rest at' n sum w':=
 ⟨hk.OA h.wr h1,hk.OA h.sb h2,hk.OA h.xb h3,hk.OA h.pb h4,h.ne⟩
theorem SwM.ext (h:SwM s st len wb bs bx bw rest at' n sum w)(hx:Ext w w'):SwM s st len wb bs bx bw rest at' n sum w':=h.kp (S':=λ_=>False) hx id id id id
def SwM.re {rest2:Value}{at2 n2 sum2:Nat}(h:SwM s st len wb bs bx bw rest at' n sum w)(hk:Kp (λb=>b=wb) w w')(hB:OP w' wb (swC s st len rest2 at2 n2 sum2 (z1M bs bx bw) false) 181):SwM s st len wb bs bx bw rest2 at2 n2 sum2 w':=
 ⟨hB,hk.OA h.sb h.ne.1,hk.OA h.xb h.ne.2.1,hk.OA h.pb h.ne.2.2,h.ne⟩
theorem SwM.cells (h:SwM s st len wb bs bx bw rest at' n sum w):OP w wb [ptr s 0,I (st:Int),I (len:Int),rest,I (at':Int),I (n:Int),U sum,z1M bs bx bw,.bool false] 181:=h.wr
def Z8 (hP:Sp Q txt K X w)(hX:∀b,X b->b<w.heap.size)(hK:K<1000000000000)(h:SwM Q.s st len wb bs bx bw rest at' n sum w)(ao:X wb/\X bs/\X bx/\X bw)(BO:st+at'<Q.L.length)(t:OI)(ht:t.length=512):
  Pm prog 81 [S t,ptr bs 0,ptr bx 0,ptr bw 0] w λv w'=>v=I 0/\Sp Q (ZB txt ((st+at':Nat):Int) (some t)) (K+1) X w'/\SwM Q.s st len wb bs bx bw rest (at'+1) n sum w'/\Kp (λb=>¬X b\/b=wb) w w':=by
 have ek:=hP.n
 have kV:=h.sb
 have ji:=h.xb
 have mP:=h.pb
 have hB:=h.cells
 have hg:=Ext.P4 w
 refine py (e:=[(0,_),(1,_),(2,_),(3,_)]) func81 O ntmps81 O O$ Qx O$ An$ QV (λw'=>Kp (λb=>¬X b) w w') O$ qT 0 O (λ_ hS=>(OM XH O O (hS.OA kV (λe=>e ao.2.1)) O)) (hg.kp)$ OG 1 O (Pr QT O) (hg.kp)$ qT 2 O (λ_ hS=>(OM U3 O O (hS.OA ji (λe=>e ao.2.2.1)) O)) (hg.kp)$ qT 3 O (λ_ hS=>(OM z3y O O (hS.OA mP (λe=>e ao.2.2.2)) O)) (hg.kp)$ OG 4 O (Q8 O) (hg.kp)$ OG 5 O (Pr YZ O) (hg.kp)$ qT 6 O (λ_ hS=>(OM U3 O O (hS.OA hB (λe=>e ao.1)) O)) (hg.kp)$ OG 7 O (UO O O (by omega)) (hg.kp)$ OZ 8 O O (hg.kp) ?_
 rw[show(st:Int)+(at':Int)=((st+at':Nat):Int) by omega]
 refine RT 9 O zfr O ((hP.ext' hg).write (λb hb=>by have:=hX b hb;have:=hg.size;omega) hK (no:=((st+at':Nat):Int)) (by omega) (by omega) t ht) ?_
 rintro _ w1 ⟨rfl,iy,az⟩
 refine⟨hg.kp.trans az,?_⟩
 have dz:Kp (λb=>¬X b) w w1:=hg.kp.trans az
 have h1:=h.kp dz (λe=>e ao.1) (λe=>e ao.2.1) (λe=>e ao.2.2.1) (λe=>e ao.2.2.2)
 have ai:=h1.cells
 have FK:=h1.pb
 have dr:∀b,X b->b<w1.heap.size:=λb hb=>by have:=hX b hb;have:=dz.size;omega
 refine OG 10 O (Rp O) (hg.kp.trans az)$ qE$ qN O$ qV ((OM z3y O O FK O))$ Pq O$ OW YZ O$ qV ((OM U3 O O ai O))$ PS O$ Pq O$ OW YZ O$ OT O (QG PV O O O ai (by simp)) ?_
 rintro w2 ⟨ak,am⟩
 have eJ:OP w2 wb (swC Q.s st len rest (at'+1) n sum (z1M bs bx bw) false) 181:=ak
 have h2:=h1.re am eJ
 have Ae:=h2.cells
 have Af:=h2.pb
 have aa:=Ext.P4 w2
 have fd:=iy.own am (λb e=>by rw[e];exact ao.1)
 refine OC$ An$ P9 [11] (λw'=>Ext w2 w') (by kernel_rfl) O$ qL 0 O (λ_ h=>(OM z3y O O (h.OA Af) O)) aa$ qL 1 O (λ_ h=>(OM z3y O O (h.OA Af) O)) aa$ Pl 2 O (Q8 O) aa$ Pl 3 O (Pr YG O) aa$ qL 4 O (λ_ h=>(OM U4 O O (h.OA Ae) O)) aa$ PQ 5 O O (aa)$ PQ 6 O O (aa)$ Pl 7 O (yne O O) aa$ Pl 8 O (U0 O O) aa$ Pl 9 O (Q8 O) aa$ Pl 10 O (Pr YG O) aa ?_
 refine Tt [11] ?_
 have ar:=aa.OA Ae
 refine qO 11$ PE (i:=11) O O (QG UH O O O ar (by simp)) ?_
 rintro w3 ⟨kU,av⟩
 refine⟨trivial,?_⟩
 refine qE$ Po.qb (e:=[(5,_),(6,_)]) ?_
 refine Pn O$ OV O$ OB func81 O ?_
 have h3:=(h2.ext aa).re av (show OP w3 wb (swC Q.s st len rest (at'+1) n sum (z1M bs bx bw) false) 181 from kU)
 exact⟨_,rfl,rfl,(fd.ext' aa).own av (λb e=>by rw[e];exact ao.1),h3,((dz.OH λb e=> .inl e).trans (am.OH λb e=> .inr e)).trans (aa.kp.trans (av.OH λb e=> .inr e))⟩
end
section
variable {P:Program}{e:Env}{d:Option Nat}{ty t t' el:TypeId}{pos:String}{aft:Array Edge}{g:Option (Nat×Bool)}{x:Operand}{w:World}{l:OI}{v:Value}
def zf5 (hs:P.underlying t=some (.slice el))(he:P.underlying el=some (.int .u8))(hd:P.underlying t'=some .string)(hx:look e x=some v)(hr:Rd w v 1 l.length (l.map Tu))(hl:0<l.length):
  Y P e ⟨d,.convert t t' x,ty,pos,aft,g⟩ (S l) w w:=fun ρ hρ=>by
 rcases hr.2 with⟨⟨ca,c⟩,hv,h0⟩|⟨b,off,cap,hv,hc⟩
 ·omega
 ·subst hv;have hr:=run_convert_bytes_back (P:=P) w t t' el ⟨b,off,none⟩ cap l hs he hd (λj hj=>by rw[Rk];exact hc j _ (by simp[hj,Tu]));simp[execOp,hρ _ _ hx,hr]
end
section
variable {w w':World}{Q:Ra}{txt:Int->OI}{K:Nat}{X:Nat->Prop}{s st len wb bs bx bw n sum:Nat}
theorem z3l (hP:Sp Q txt K X w){st len:Nat}(h1:1<=len)(h2:st+len<=Q.L.length):
  Pm prog 51 [ptr Q.s 0,.agg #[I (st:Int),I (len:Int)]] w λv w'=>∃wb bs bx bw sum,v= .tuple #[ptr wb 0,I 0]/\sum<4294967296/\SwM Q.s st len wb bs bx bw (.slice none 0 0) 0 0 sum w'/\(w.heap.size<=wb/\w.heap.size<=bs/\w.heap.size<=bx/\w.heap.size<=bw)/\Ext w w':=by
 have wk:Sums.crc []<4294967296:=Sums.zfd _
 obtain⟨c0,vd⟩:∃c0,Sums.crc []=c0:=⟨_,rfl⟩
 rw[vd] at wk
 refine py (e:=[(0,_),(1,_)]) func51 O ntmps51 O O$ qN O$ OJ O O (R4 O (cs:=[ptr Q.s 0]) O) ?_
 rintro _ w1 ⟨bs,rfl,wO,ad,kV⟩
 refine OJ O O (R4 O (cs:=[I (st:Int),I (len:Int)]) O) ?_
 rintro _ w2 ⟨bx,rfl,fJ,ae,ji⟩
 have ig:=ae.OA kV
 have Mm:=hP.ext' (ad.trans ae)
 have ay:=Ext.P4 w2
 have bX:=ay.size
 refine Qm O$ An$ PD (λe' w'=>∃wb bw,e'=[(2,ptr bs 0),(3,ptr bx 0),(6,ptr bw 0)]/\OP w' wb [ptr Q.s 0,I (st:Int),I (len:Int),.slice none 0 0,I 0,I 0,U c0,.nilFunc,.bool false] 181/\OP w' bw [ptr wb 0] 121/\Ext w2 w'/\w2.heap.size<=wb/\w2.heap.size<=bw/\wb≠bw) ?bE$ λbE=>?cM
 case bE=>
  rintro e' w3 ⟨wb,bw,rfl,ar,nx,ah,oz,FM,bu⟩;have lbs:=kV.lt;have lbx:=ji.lt;have eA:=ae.size;have gd:=Mm.ext' ah;refine An$ qN O$ qV ((OM z3y O O nx O))$ Pq O$ OW WK O$ qV ((Pp zd4 O Xx O (OP.cells (n:=3) ar (news:=[_,_,_]) O) O))$ P5 zhL O (z0e gd h1 h2) ?_;rintro _ w4 ⟨rfl,aA⟩;have mB:=aA.OA nx;have aK:=aA.OA ar;refine QW O$ QE O$ Qg O$ qN O$ qV ((OM z3y O O mB O))$ qV (ymf (first:=[]) (caps:=[.tmp 2,.tmp 3,.tmp 6]) O O)$ Pq O$ OW z0p O$ OT O (QG zfT O O O aK (by simp)) ?_;rintro w5 ⟨aH,aj⟩;have BB:=aj.OA mB (λe=>bu e.symm);refine qM O$ qV (OM z3y O O BB O)$ Qm O$ OB func51 O ?_;have iL:Ext w2 w5:=(ah.trans aA).It aj (λj e=>by omega);refine⟨_,rfl,wb,bs,bx,bw,c0,rfl,wk,⟨aH,iL.OA ig,iL.OA ji,BB,⟨by omega,by omega,λe=>bu e.symm⟩⟩,⟨by omega,by omega,by omega,by omega⟩,(ad.trans ae).trans iL⟩
 case cM=>
 refine P9 [7] (λw'=>Ext w2 w') (by kernel_rfl) O$ qL 0 O (λ_ h=>(OM XH O O (h.OA ig) O)) ay$ qL 1 O (λ_ hS=>(Pp Xm O QY O (OP.cells (n:=2) (hS.OA ji) (news:=[_,_]) O) O)) ay$ Pl 2 O (Sa (cs:=[_,_,_]) Xx O zeh O O) ay$ XL (i:=3) (j:=6) (by kernel_rfl) ?_ ?_
 ·refine RV (i:=3) O O O (yc (args:=[.const (Value.string (⟨#[]⟩))]) zgo O) (z8b [] _ (by simp)) ?_;rintro _ w3 ⟨rfl,ah⟩;refine⟨ay.trans ah,?_⟩;rw[vd];have ay:=ay.trans ah
  try have aT:=ah.OA aT
  have bX:=Nat.le_trans bX ah.size;refine Pl 4 O (Sa (cs:=[_,_,_,_,_,_,_,_,_]) ze2 O zes O O) ay$ XL (i:=5) (j:=6) (by kernel_rfl) ?_ ?_
  ·refine Qo (i:=5) O O O (R4 O (cs:=[ptr Q.s 0,I (st:Int),I (len:Int),.slice none 0 0,I 0,I 0,U c0,.nilFunc,.bool false]) O) ?_;rintro _ w5 ⟨wb,rfl,oz,aU,aH⟩;refine⟨ay.trans aU,?_⟩;have ay:=ay.trans aU
   try have aT:=aU.OA aT
   have ul:w2.heap.size<=wb:=by omega
   have bX:=Nat.le_trans bX aU.size;refine R9 (i:=6) (by kernel_rfl)$ Qo (i:=6) O O O (Ry (cs:=[_]) z2N O) ?_;rintro _ w6 ⟨bw,rfl,FM,aR,aT⟩;refine⟨ay.trans aR,?_⟩;have ay:=ay.trans aR
   try have aH:=aR.OA aH
   have Ag:w2.heap.size<=bw:=by omega
   have bX:=Nat.le_trans bX aR.size;refine Tt [7]$ qO 7$ PE (i:=7) O O (QG z2N O O O aT (by simp)) ?_;rintro w7 ⟨bO,aB⟩;refine⟨trivial,?_⟩;refine qE ?_;replace bO:OP w7 bw [ptr wb 0] 121:=bO
   have jI:wb≠bw:=by
    intro e;have h5:=aH;rw[e] at h5;obtain⟨fz,h5,-⟩:=h5;obtain⟨fz6,h6,-⟩:=aT;rw[h5] at h6;cases h6
   have fw:=aB.OA aH jI;exact(bE _ _ ⟨wb,bw,rfl,fw,bO,ay.It aB (λj e=>by omega),ul,Ag,jI⟩).qb
  ·refine Qo (i:=6) O O O (Ry (cs:=[_]) z2N O) ?_;rintro _ w6 ⟨bw,rfl,FM,aR,aT⟩;refine⟨ay.trans aR,?_⟩;have ay:=ay.trans aR
   try have aH:=aR.OA aH
   have Ag:w2.heap.size<=bw:=by omega
   have bX:=Nat.le_trans bX aR.size;refine R9 (i:=5) (by kernel_rfl)$ Qo (i:=5) O O O (R4 O (cs:=[ptr Q.s 0,I (st:Int),I (len:Int),.slice none 0 0,I 0,I 0,U c0,.nilFunc,.bool false]) O) ?_;rintro _ w5 ⟨wb,rfl,oz,aU,aH⟩;refine⟨ay.trans aU,?_⟩;have ay:=ay.trans aU
   try have aT:=aU.OA aT
   have ul:w2.heap.size<=wb:=by omega
   have bX:=Nat.le_trans bX aU.size;refine Tt [7]$ qO 7$ PE (i:=7) O O (QG z2N O O O aT (by simp)) ?_;rintro w7 ⟨bO,aB⟩;refine⟨trivial,?_⟩;refine qE ?_;replace bO:OP w7 bw [ptr wb 0] 121:=bO
   have jI:wb≠bw:=by
    intro e;have h5:=aH;rw[e] at h5;obtain⟨fz,h5,-⟩:=h5;obtain⟨fz6,h6,-⟩:=aT;rw[h5] at h6;cases h6
   have fw:=aB.OA aH jI;exact(bE _ _ ⟨wb,bw,rfl,fw,bO,ay.It aB (λj e=>by omega),ul,Ag,jI⟩).qb
 ·refine Qo (i:=6) O O O (Ry (cs:=[_]) z2N O) ?_;rintro _ w6 ⟨bw,rfl,FM,aR,aT⟩;refine⟨ay.trans aR,?_⟩;have ay:=ay.trans aR
  try have aH:=aR.OA aH
  have Ag:w2.heap.size<=bw:=by omega
  have bX:=Nat.le_trans bX aR.size;refine R9 (i:=3) (by kernel_rfl)$ RV (i:=3) O O O (yc (args:=[.const (Value.string (⟨#[]⟩))]) zgo O) (z8b [] _ (by simp)) ?_;rintro _ w3 ⟨rfl,ah⟩;refine⟨ay.trans ah,?_⟩;rw[vd];have ay:=ay.trans ah
  try have aT:=ah.OA aT
  have bX:=Nat.le_trans bX ah.size;refine Pl 4 O (Sa (cs:=[_,_,_,_,_,_,_,_,_]) ze2 O zes O O) ay$ R9 (i:=5) (by kernel_rfl)$ Qo (i:=5) O O O (R4 O (cs:=[ptr Q.s 0,I (st:Int),I (len:Int),.slice none 0 0,I 0,I 0,U c0,.nilFunc,.bool false]) O) ?_;rintro _ w5 ⟨wb,rfl,oz,aU,aH⟩;refine⟨ay.trans aU,?_⟩;have ay:=ay.trans aU
  try have aT:=aU.OA aT
  have ul:w2.heap.size<=wb:=by omega
  have bX:=Nat.le_trans bX aU.size;refine Tt [7]$ qO 7$ PE (i:=7) O O (QG z2N O O O aT (by simp)) ?_;rintro w7 ⟨bO,aB⟩;refine⟨trivial,?_⟩;refine qE ?_;replace bO:OP w7 bw [ptr wb 0] 121:=bO
  have jI:wb≠bw:=by
   intro e;have h5:=aH;rw[e] at h5;obtain⟨fz,h5,-⟩:=h5;obtain⟨fz6,h6,-⟩:=aT;rw[h5] at h6;cases h6
  have fw:=aB.OA aH jI;exact(bE _ _ ⟨wb,bw,rfl,fw,bO,ay.It aB (λj e=>by omega),ul,Ag,jI⟩).qb
end
section
variable {w w':World}{Q:Ra}{txt:Int->OI}{K:Nat}{X:Nat->Prop}{st len wb bs bx bw n sum:Nat}{rest:Value}{T:OI}
theorem z9k (T:OI)(k:Nat):((T.drop (512*k)).map Tu).drop 512=(T.drop (512*(k+1))).map Tu:=by
 rw[<-List.map_drop,List.drop_drop]
 congr 2
def SwI (Q:Ra)(txt:Int->OI)(K:Nat)(X:Nat->Prop)(st len wb bs bx bw:Nat)(T:OI)(sum:Nat)(w:World)(k:Nat)(w':World):Prop:=
 ∃txt' rest,Sp Q txt' (K+k) (λb=>X b\/rest.ownBlock=some b) w'/\SwM Q.s st len wb bs bx bw rest k T.length sum w'/\Sl w' rest 5 1 (T.length-512*k) ((T.drop (512*k)).map Tu)/\(∀j,j<k->txt' ((st+j:Nat):Int)=(T.drop (512*j)).take 512)/\(∀y:Int,y<(st:Int)\/(st:Int)+(k:Int)<=y->txt' y=txt y)/\Kp (λb=>¬X b\/b=wb) w w'/\(∀b,rest.ownBlock=some b->w.heap.size<=b)
theorem z5w (hP:Sp Q txt K X w)(hX:∀b,X b->b<w.heap.size)(hK:K<=100000000000)(h:SwM Q.s st len wb bs bx bw (.slice none 0 0) 0 0 sum w)(i3:sum<4294967296)(ao:X wb/\X bs/\X bx/\X bw)(cm:st+len<=Q.L.length)(h1:1<=len)(hT:T.length<=len*512-12):
  Pm prog 52 [ptr wb 0,S T] w λv w'=>v=I 0/\∃sum',sum'<4294967296/\SwI Q txt K X st len wb bs bx bw T sum' w (T.length / 512) w':=by
 have fh:maxLen=9223372036854775807:=rfl
 have ek:=hP.n
 refine py (e:=[(0,_),(1,_)]) func52 O ntmps52 O O$ Qx O$ PK O$ P5 zhF O (Yz h.wr) ?_
 rintro _ w ⟨rfl,rfl⟩
 refine QW O$ QE O$ Qg O$ PK O$ qV (Wg U9 O)$ ON O$ P5 zl2 O (z4m hP (by omega) (by omega) h.wr) ?_
 rintro _ w1 ⟨rfl,ad⟩
 have iy:=hP.ext' ad
 have et:=h.ext ad
 have ai:=et.cells
 refine QB O$ PH$ Qg O$ Pn O$ Pq O$ OW z0m O$ qV (OM U3 O O ai O)$ ON O$ qV (Wg U9 O)$ PS O$ Pq O$ OW z0m O ?_
 rw[show((0:Nat):Int)+(T.length:Int)=(T.length:Int) by omega]
 refine OT O (QG PV O O O ai (by simp)) ?_
 rintro w2 ⟨ak,am⟩
 have dw:=et.re am (show OP w2 wb (swC Q.s st len (.slice none 0 0) 0 T.length sum (z1M bs bx bw) false) 181 from ak)
 have fd:=iy.own am (λb e=>by rw[e];exact ao.1)
 have eJ:=dw.cells
 refine qM O$ Pa O$ Pq O$ OW z3L O$ qV (OM QR O O eJ O)$ ON O$ P5 zgi O (zaD sum T _ i3 (by omega)) ?_
 rintro _ w3 ⟨rfl,ah⟩
 have sS:=Sums.ze1 T i3
 obtain⟨sum3,iV⟩:∃sum3,Sums.on sum T=sum3:=⟨_,rfl⟩
 rw[iV] at sS⊢
 have pL:=dw.ext ah
 have ar:=pL.cells
 refine Pq O$ OW z3L O$ OT O (QG P6 O O O ar (by simp)) ?_
 rintro w4 ⟨aK,au⟩
 have wm:=pL.re au (show OP w4 wb (swC Q.s st len (.slice none 0 0) 0 T.length sum3 (z1M bs bx bw) false) 181 from aK)
 have jW:=(fd.ext' ah).own au (λb e=>by rw[e];exact ao.1)
 have fD:=wm.cells
 refine OC$ Po.qb (e:=[(0,_),(1,_),(4,_)]) ?_
 refine Qt O$ Pq O$ OW SS O$ qV (OM SG O O fD O)$ ON O$ OJ O O (zgG SG U9 Ye O O (Sl.nil w4 _ 1) (by omega)) ?_
 rintro v5 w5 ⟨gh,aj,qz⟩
 simp only[List.nil_append,Nat.zero_add] at gh
 replace aj:Ext w4 w5:=aj.OH (λb e=>by cases e)
 have ve:∀b,v5.ownBlock=some b->w4.heap.size<=b:=λb e=>(qz b e).elim (λe=>by cases e) id
 obtain⟨a5,c5,rfl,-⟩:=gh.rd.shape
 have pE:=wm.ext aj
 have aH:=pE.cells
 have bS:Kp (λb=>¬X b\/b=wb) w w5:=(((ad.kp.trans (am.OH λb e=> .inr e)).trans ah.kp).trans (au.OH λb e=> .inr e)).trans aj.kp
 have z4:w.heap.size<=w4.heap.size:=by have:=ad.size;have:=am.size;have:=ah.size;have:=au.size;omega
 have lwb:=aH.lt
 have lwb0:=hX _ ao.1
 refine Pq O$ OW SS O$ OT O (QG z2e O O O aH (by simp)) ?_
 rintro w6 ⟨aT,aM⟩
 have Fg:=pE.re aM (show OP w6 wb (swC Q.s st len (.slice a5 T.length c5) 0 T.length sum3 (z1M bs bx bw) false) 181 from aT)
 have nD:Sp Q txt K (λb=>X b\/(Value.slice a5 T.length c5).ownBlock=some b) w6:=(jW.ext aj (λb e=>e.imp id (ve b))).own aM (λb e=> .inl (by rw[e];exact ao.1))
 have g8:=gh.kp aM (λb hb e=>by have:=ve b hb;omega)
 have nQ:=Fg.cells
 have iO:=bS.trans (aM.OH λb e=>Or.inr e)
 refine qM O$ ON O$ Pq O$ OW WK O$ OW Vd O$ qV (OM XH O O nQ O)$ P5 z5b O (nD.size) ?_
 rintro _ w6 ⟨rfl,rfl⟩
 refine OV O$ QA$ Rr (α:=Nat) (0) (λk=>[(0,ptr wb 0),(6,I 512)]) (λk w'=>k<=T.length / 512/\SwI Q txt K X st len wb bs bx bw T sum3 w k w') (λk=>T.length / 512-k) ?hI ?hround
 case hI=>exact⟨Nat.zero_le _,txt,_,nD,Fg,g8,λj hj=>by omega,λy hy=>rfl,iO,λb hb=>by have:=ve b hb;omega⟩
 case hround=>
  rintro k w8 ⟨hk,txt1,rest,pP,xX,dO,jg,Ah,aL,jU⟩ ih;obtain⟨a8,c8,rfl,-⟩:=dO.rd.shape;have cj:=xX.cells;have HY:=aL.size
  try dsimp only
  refine PK O$ Pq O$ OW SS O$ qV (OM SG O O cj O)$ Rs SG O$ ON O$ U8 O$ OC$ OQ O (λh0=>?_)$ λh0=>?_
  ·have Mn:512*k+512<=T.length:=by omega
   rcases dO.shape with⟨e,wP⟩|⟨gb,cc,e,Fu⟩
   ·omega
   cases e;have LA:=jU gb O;have hg:=Ext.P4 w8;have ff:((T.drop (512*k)).take 512).length=512:=by rw[List.length_take,List.length_drop];omega
   have FN:Rd w8 (.slice (some ⟨gb,0,none⟩) 512 c8) 1 ((T.drop (512*k)).take 512).length (((T.drop (512*k)).take 512).map Tu):=by
    rw[ff,List.map_take];exact UY dO.rd (by omega)
   have Mo:∀b,(X b\/(Value.slice (some ⟨gb,0,none⟩) (T.length-512*k) c8).ownBlock=some b)->b<w8.heap.size:=λb hb=>by
    rcases hb with e| e
    ·have:=hX b e;omega
    ·exact dO.lt e
   refine OD$ OE$ An$ An$ P9 [11,12] (λw'=>Ext w8 w') (by kernel_rfl) O$ PQ 0 O O (hg)$ Pl 1 O (Q8 O) hg$ Pl 2 O (Pr z0p O) hg$ qL 3 O (λ_ h=>OM U54 O O (h.OA cj) O) hg$ PQ 4 O O (hg)$ Pl 5 O (Q8 O) hg$ Pl 6 O (Pr SS O) hg$ qL 7 O (λ_ h=>OM SG O O (h.OA cj) O) hg$ PQ 8 O O (hg) ?_;refine Pl 9 O (zcX SG Ye O O (by omega)) hg$ qL 10 O (λ_ hS=>zf5 (l:=(T.drop (512*k)).take 512) SG U5 U9 O (FN.ext hS) (by omega)) hg$ Tt [11]$ qO 11$ W3 (i:=11) O O O (RN zfZ O O) (Z8 (pP.ext' hg) (λb hb=>by have:=Mo b hb;have:=hg.size;omega) (by omega) (xX.ext hg) ⟨.inl ao.1,.inl ao.2.1,.inl ao.2.2.1,.inl ao.2.2.2⟩ (by omega) ((T.drop (512*k)).take 512) ff) ?_;rintro _ w9 ⟨rfl,q9,BK,aw⟩;refine⟨trivial,?_⟩;refine OG 12 O (Rp O) trivial$ qE$ Pn O$ QE O ?_;have cK:=BK.cells;have ii:=hg.kp.trans aw
   have kz:=dO.kp ii (λb hb e=>by
    rcases e with e| e
    ·exact e (.inr hb)
    ·have e1:gb=b:=Rx hb
     omega)
   have HZ:=ii.size;refine Qg O$ OK O$ Pa O$ Pq O$ OW SS O$ qV (OM SG O O cK O)$ ON O$ qV (YI SG Ye O O (by omega) (by omega))$ OJ O O (pap SG Ye O (by decide) O O (Sl.nil w9 _ 1) (TM (i:=512) kz.rd (by omega) (by omega)) (λc hc=>by obtain⟨z,-,rfl⟩:=List.mem_map.1 (List.mem_of_mem_drop hc);rfl) (by omega) (by omega)) ?_;rintro v10 w10 ⟨bZ,aC,cq,-⟩;rw[List.nil_append,z9k,Nat.zero_add,show T.length-512*k-512=T.length-512*(k+1) by omega] at bZ;replace aC:Ext w9 w10:=aC.OH (λb e=>by cases e);have oR:∀b,v10.ownBlock=some b->w9.heap.size<=b:=λb e=>(cq b e).elim (λe=>by cases e) id;obtain⟨a10,c10,rfl,-⟩:=bZ.rd.shape;have Ai:=BK.ext aC;have fM:=Ai.cells;refine Pq O$ OW SS O$ OT O (QG z2e O O O fM (by simp)) ?_;rintro w11 ⟨bc,bz⟩;have FO:=Ai.re bz (show OP w11 wb (swC Q.s st len (.slice a10 (T.length-512*(k+1)) c10) (k+1) T.length sum3 (z1M bs bx bw) false) 181 from bc);have FP:Sp Q (ZB txt1 ((st+k:Nat):Int) (some ((T.drop (512*k)).take 512))) (K+k+1) (λb=>X b\/(Value.slice a10 (T.length-512*(k+1)) c10).ownBlock=some b) w11:=(q9.ext aC (λb e=>e.elim (λe=> .inl (.inl e)) (λe=> .inr (oR b e)))).own bz (λb e=> .inl (by rw[e];exact ao.1));have nT:=bZ.kp bz (λb hb e=>by have:=oR b hb;omega);refine OC$ Oz ((ih (k+1) w11 ⟨by omega,_,_,FP,FO,nT,λj hj=>?_,λy hy=>?_,?_,λb hb=>by have:=oR b hb;omega⟩ (by omega)).qb)
   ·by_cases e:j=k
    ·subst e;exact S3 _ _ _
    ·rw[Rn _ _ (by omega)];exact jg j (by omega)
   ·rw[Rn _ _ (by omega)];exact Ah y (by omega)
   ·refine(aL.It ii λb e=>?_).trans (aC.kp.trans (bz.OH λb e=> .inr e));rcases e with e| e
    ·by_cases hb:X b
     ·exact absurd (.inl hb) e
     ·exact .inr (.inl hb)
    ·exact .inr (.inr e)
  ·have Mp:k=T.length / 512:=by omega
   subst Mp;refine OO O$ Qx O$ OB func52 O ?_;exact⟨_,rfl,rfl,sum3,sS,txt1,_,pP,xX,dO,jg,Ah,aL,jU⟩
end
section
variable {w w':World}{Q:Ra}{txt:Int->OI}{K:Nat}{X:Nat->Prop}{st len wb bs bx bw n sum:Nat}{rest:Value}{T:OI}
def Xr (n sum:Nat):OI:=Vn 8 n++Vn 4 sum
def z3z (n sum:Nat):(Xr n sum).length=12:=by simp[Xr,Qc]
theorem z5o (hP:Sp Q txt K (λb=>X b\/rest.ownBlock=some b) w)(hX:∀b,X b->b<w.heap.size)(hK:K<=200000000000)(h:SwM Q.s st len wb bs bx bw rest (T.length / 512) T.length sum w)(i3:sum<4294967296)(ao:X wb/\X bs/\X bx/\X bw)(cm:st+len<=Q.L.length)(aI:len=(T.length+523) / 512)
  (hS:Sl w rest 5 1 (T.length%512) ((T.drop (512*(T.length / 512))).map Tu)) (bu:∀b,rest.ownBlock=some b->¬X b) (jg:∀j,j<T.length / 512->txt ((st+j:Nat):Int)=(T.drop (512*j)).take 512):
  Pm prog 53 [ptr wb 0] w λv w'=>v=I 0/\∃txt',Sp Q txt' (K+2) X w'/\(∀j,512*j<T.length->∃z,txt' ((st+j:Nat):Int)=(T.drop (512*j)).take 512++z)/\(∃z,txt' ((st+(len-1):Nat):Int)=z++Xr T.length sum/\z.length=500)/\(∀y:Int,y<(st:Int)\/(st:Int)+(len:Int)<=y->txt' y=txt y)/\Kp (λb=>¬X b\/b=wb) w w':=by
 have fh:maxLen=9223372036854775807:=rfl
 have ek:=hP.n
 obtain⟨a0,c0,rfl,-⟩:=hS.rd.shape
 have hB:=h.cells
 have Mq:∀b,(Value.slice a0 (T.length%512) c0).ownBlock=some b->b<w.heap.size:=λb hb=>hS.lt hb
 have hg:=Ext.P4 w
 refine py (e:=[(0,_)]) func53 O ntmps53 O O$ Qx O$ PK O$ P5 zhF O (Yz h.wr) ?_
 rintro _ w ⟨rfl,rfl⟩
 refine QW O$ QE O$ Qg O$ Pn O$ Pq O$ OW WK O$ OW Vd O$ qV (OM XH O O hB O)$ P5 z5b O (hP.size) ?_
 rintro _ w ⟨rfl,rfl⟩
 refine OV O$ An$ An$ PD (λe' w'=>∃q,e'=[(0,ptr wb 0),(4,I 512),(38,.bool q)]/\(q=true↔T.length / 512<len-1)/\Ext w w') ?aY$ λaY=>?gl
 case aY=>
  rintro e' w1 ⟨q,rfl,hq,ad⟩;have iy:=hP.ext' ad;have h1:=h.ext ad;have jZ:=hS.ext ad;have ai:=h1.cells;have nJ:=ad.size;refine PD (λe' w'=>e'=[(0,ptr wb 0),(4,I 512)]/\∃txt1 rest1 at1 l,Sp Q txt1 (K+1) (λb=>X b\/rest1.ownBlock=some b) w'/\SwM Q.s st len wb bs bx bw rest1 at1 T.length sum w'/\Sl w' rest1 5 1 l.length (l.map Tu)/\l.length<=500/\(∀b,rest1.ownBlock=some b->¬X b)/\l=T.drop (512*(len-1))/\(∀j,j<len-1->512*j<T.length->∃z,txt1 ((st+j:Nat):Int)=(T.drop (512*j)).take 512++z)/\(∀y:Int,y<(st:Int)\/(st:Int)+(len:Int)<=y->txt1 y=txt y)/\Kp (λb=>¬X b\/b=wb) w w') ?aq$ λaq=>?ey
  case aq=>
   rintro e' w2 ⟨rfl,txt1,rest1,at1,l,fd,h2,cL,Id,dE,hl,FQ,FS,am⟩;obtain⟨a2,c2,rfl,-⟩:=cL.rd.shape;have ak:=h2.cells;have aa:=Ext.P4 w2;have nn:=am.size;refine An$ QV (λw'=>Kp (λb=>(Value.slice a2 l.length c2).ownBlock=some b) w2 w') O$ OZ 0 O O (aa.kp)$ OG 1 O (Q8 O) (aa.kp)$ OG 2 O (Pr SS O) (aa.kp)$ qT 3 O (λ_ h=>OM SG O O (h.OA ak (λe=>dE _ e ao.1)) O) (aa.kp)$ OZ 4 O O (aa.kp)$ OG 5 O (Xw O O (by omega)) (aa.kp)$ OZ 6 O O (aa.kp)$ OG 7 O (Q8 O) (aa.kp)$ OG 8 O (Pr SS O) (aa.kp)$ qT 9 O (λ_ h=>OM SG O O (h.OA ak (λe=>dE _ e ao.1)) O) (aa.kp)$ OG 10 O (SE SG O) (aa.kp)$ OG 11 O (Xw O O (by omega)) (aa.kp) ?_;rw[show(512:Int)-12-(l.length:Int)=((500-l.length:Nat):Int) by omega];refine qO 12$ XJ (i:=12) O O O (zhD SG U3 U9 Ye O O (cL.ext aa) (by omega)) ?_;rintro v3 w3 ⟨da,av,qI⟩;refine⟨aa.kp.trans av,?_⟩;have Aj:l.length+(500-l.length)=500:=by omega
   rw[Aj,<-List.map_append] at da;obtain⟨a3,c3,rfl,-⟩:=da.rd.shape;have cJ:=aa.kp.trans av
   have fu:∀b,(Value.slice a3 500 c3).ownBlock=some b->¬X b:=λb hb e=>by
    rcases qI b hb with e2|e2
    ·exact dE b e2 e
    ·have:=hX b e;have:=aa.size;omega
   have gd:Sp Q txt1 (K+1) (λb=>X b\/(Value.slice a3 500 c3).ownBlock=some b) w3:=fd.step cJ (λb e=> .inr e) (λb e=>e.elim (λe=> .inl (.inl e)) (λe=>(qI b e).imp .inr (λe=>by have:=aa.size;omega)));have h3:=h2.kp cJ (λe=>dE _ e ao.1) (λe=>dE _ e ao.2.1) (λe=>dE _ e ao.2.2.1) (λe=>dE _ e ao.2.2.2);have ar:=h3.cells;have ct:Kp (λb=>¬X b\/b=wb) w w3:=am.It cJ (λb e=> .inr (.inl (dE b e)));refine OG 13 O (Rp O) (aa.kp.trans av)$ qE$ Qt O$ Pq O$ OW WK O$ OW Uf O$ OW QZ O$ qV (OM U3 O O ar O)$ Ro O$ Pq O$ OW YZ O ?_;rw[show(len:Int)-1=((len-1:Nat):Int) by omega];refine OT O (QG PV O O O ar (by simp)) ?_;rintro w4 ⟨aK,au⟩;have h4:=h3.re au (show OP w4 wb (swC Q.s st len (.slice a2 l.length c2) (len-1) T.length sum (z1M bs bx bw) false) 181 from aK);have jW:=gd.own au (λb e=> .inl (by rw[e];exact ao.1));have eg:=da.kp au (λb hb e=>fu b hb (by rw[e];exact ao.1));have fD:=h4.cells;have af:=Ext.P4 w4;have fW:=ct.trans (au.OH λb e=>Or.inr e);have ja:=Qc 8 T.length;have fZ:=Qc 4 sum;have vf:(l++zeros (500-l.length)).length=500:=by rw[List.length_append,show(zeros (500-l.length)).length=500-l.length by simp[zeros]];omega
   rw[List.length_append] at vf;refine OC$ Po.qb (e:=[(0,_),(6,_)]) ?_;refine An$ P9 [20,21] (λw'=>Ext w4 w') (by kernel_rfl) O$ PQ 0 O O (af)$ Pl 1 O (Q8 O) af$ Pl 2 O (Pr z0p O) af$ qL 3 O (λ_ h=>OM U54 O O (h.OA fD) O) af$ PQ 4 O O (af)$ PQ 6 O O (af)$ Pl 7 O (Q8 O) af$ Pl 8 O (Pr z0m O) af$ qL 9 O (λ_ h=>OM U3 O O (h.OA fD) O) af$ Pl 10 O ((Q7 O U3 Rt (by omega))) af$ PQ 13 O O (af)$ Pl 14 O (Q8 O) af ?_;refine Pl 15 O (Pr z3L O) af$ qL 16 O (λ_ h=>OM QR O O (h.OA fD) O) af$ Pl 17 O (Q7 O QR Rt (by omega)) af$ qL 5 O (λ_ h=>zf5 (l:=l++zeros (500-l.length)) SG U5 U9 O (by rw[List.length_append,vf];exact eg.rd.ext h) (by rw[List.length_append];omega)) af ?_;refine R9 (i:=11) (by kernel_rfl)$ RV (i:=11) O O O (yc zhi O) (ZN T.length 8 _ (by omega) (by omega)) ?_;rintro _ w5 ⟨rfl,aU⟩;refine⟨af.trans aU,?_⟩;refine Pl 12 O (YH O O (by first|omega|(simp;done)|(simp;omega))) (af.trans aU) ?_;refine R9 (i:=18) (by kernel_rfl)$ RV (i:=18) O O O (yc zhi O) (ZN sum 4 _ (by omega) (by omega)) ?_;rintro _ w6 ⟨rfl,aR⟩;refine⟨(af.trans aU).trans aR,?_⟩;have cU:=(af.trans aU).trans aR
   have mR:∀b,(X b\/(Value.slice a3 500 c3).ownBlock=some b)->b<w6.heap.size:=λb hb=>by
    have:=cU.size;have:=au.size;have:=cJ.size;rcases hb with e| e
    ·have:=hX b e;omega
    ·have:=da.lt e;omega
   refine Pl 19 O (YH O O (by first|omega|(simp;done)|(simp;omega))) ((af.trans aU).trans aR) ?_;refine Tt [20] ?_;have iH:(l++zeros (500-l.length)++Vn 8 T.length++Vn 4 sum).length=512:=by rw[List.length_append,List.length_append,List.length_append,vf,Qc,Qc]
   refine qO 20$ W3 (i:=20) O O O (RN zfZ O O) (Z8 (jW.ext' cU) mR (by omega) (h4.ext cU) ⟨.inl ao.1,.inl ao.2.1,.inl ao.2.2.1,.inl ao.2.2.2⟩ (by omega) _ iH) ?_;rintro _ w7 ⟨rfl,sT,h7,aB⟩;refine⟨trivial,?_⟩;have bO:=h7.cells;refine OG 21 O (Rp O) trivial$ qE$ Pn O$ Pq O$ OW YG O$ OT O (QG UH O O O bO (by simp)) ?_;rintro w8 ⟨cj,aL⟩;have pP:=(sT.own aL (λb e=> .inl (by rw[e];exact ao.1))).less (Y:=X) (λb e=> .inl e);refine OC$ Po.qb (e:=[(7,_)]) ?_;refine Pn O$ OV O$ OB func53 O (⟨_,rfl,rfl,_,pP,λj hj=>?_,⟨l++zeros (500-l.length),?_,by rw[List.length_append,vf]⟩,λy hy=>?_,?_⟩)
   ·by_cases e:j=len-1
    ·subst e;refine⟨zeros (500-l.length)++Vn 8 T.length++Vn 4 sum,?_⟩;rw[S3];show l++_++_++_=_;rw[<-hl,List.take_of_length_le (by omega)];simp only[List.append_assoc]
    ·obtain⟨z,hz⟩:=FQ j (by omega) hj;exact⟨z,by rw[Rn _ _ (by omega)];exact hz⟩
   ·rw[S3];show _++_++_=_;unfold Xr;simp only[List.append_assoc]
   ·rw[Rn _ _ (by omega)];exact FS y hy
   ·refine((fW.trans cU.kp).It aB λb e=>?_).trans (aL.OH λb e=> .inr e);rcases e with e| e
    ·by_cases hb:X b
     ·exact absurd (.inl hb) e
     ·exact .inr (.inl hb)
    ·exact .inr (.inr e)
  case ey=>
   refine Qf O (λgz=>?_)$ λgz=>?_
   ·have yF:=hq.1 gz;have hr:500<T.length%512/\T.length / 512=len-2/\2<=len:=by omega
    have bh:=Ext.P4 w1;refine An$ An$ P9 [17,18] (λw'=>Kp (λb=>(Value.slice a0 (T.length%512) c0).ownBlock=some b) w1 w') (by kernel_rfl) O$ PQ 0 O O (bh.kp)$ Pl 1 O (Q8 O) (bh.kp)$ Pl 2 O (Pr z0p O) (bh.kp)$ qL 3 O (λ_ h=>OM U54 O O (h.OA ai (λe=>bu _ e ao.1)) O) (bh.kp)$ PQ 4 O O (bh.kp)$ Pl 5 O (Q8 O) (bh.kp)$ Pl 6 O (Pr SS O) (bh.kp)$ qL 7 O (λ_ h=>OM SG O O (h.OA ai (λe=>bu _ e ao.1)) O) (bh.kp)$ PQ 8 O O (bh.kp)$ PQ 9 O O (bh.kp)$ Pl 10 O (Q8 O) (bh.kp) ?_;refine Pl 11 O (Pr SS O) (bh.kp)$ qL 12 O (λ_ h=>OM SG O O (h.OA ai (λe=>bu _ e ao.1)) O) (bh.kp)$ Pl 13 O (SE SG O) (bh.kp)$ Pl 14 O (Xw O O (by omega)) (bh.kp) ?_;rw[show(512:Int)-((T.length%512:Nat):Int)=((512-T.length%512:Nat):Int) by omega];refine R9 (i:=15) (by kernel_rfl)$ Qo (i:=15) O O O (zhD SG U3 U9 Ye O O (jZ.ext bh) (by omega)) ?_;rintro v2 w2 ⟨cL,am,tv⟩;refine⟨bh.kp.trans am,?_⟩;rw[show T.length%512+(512-T.length%512)=512 by omega,<-List.map_append] at cL;have vf:(T.drop (512*(T.length / 512))++zeros (512-T.length%512)).length=512:=by rw[List.length_append,List.length_drop,show(zeros (512-T.length%512)).length=512-T.length%512 by simp[zeros]];omega
    refine R9 (i:=16) (by kernel_rfl)$ zdX (i:=16) O O O (zf5 (l:=T.drop (512*(T.length / 512))++zeros (512-T.length%512)) SG U5 U9 O (by rw[vf];exact cL.rd) (by omega)) (bh.kp.trans am) ?_;have bA:=bh.kp.trans am;have fd:Sp Q txt K X w2:=iy.step bA (λb e=> .inr e) (λb e=> .inl (.inl e));have h2:=h1.kp bA (λe=>bu _ e ao.1) (λe=>bu _ e ao.2.1) (λe=>bu _ e ao.2.2.1) (λe=>bu _ e ao.2.2.2);have nn:=bA.size;refine Tt [17]$ qO 17$ W3 (i:=17) O O O (RN zfZ O O) (Z8 fd (λb hb=>by have:=hX b hb;omega) (by omega) h2 ao (by omega) _ vf) ?_;rintro _ w3 ⟨rfl,gd,h3,av⟩;refine⟨trivial,?_⟩;have ar:=h3.cells;refine OG 18 O (Rp O) trivial$ qE$ Pn O$ QE O$ Qg O$ R6 O$ Pq O$ OW SS O$ OT O (QG z2e O O O ar (by simp)) ?_;rintro w4 ⟨aK,au⟩;have h4:=h3.re au (show OP w4 wb (swC Q.s st len (.slice none 0 0) (T.length / 512+1) T.length sum (z1M bs bx bw) false) 181 from aK);have jW:=gd.own au (λb e=>by rw[e];exact ao.1);have lE:(T.drop (512*(T.length / 512))).take 512=T.drop (512*(T.length / 512)):=List.take_of_length_le (by rw[List.length_drop];omega);refine OC$ Po.qb (e:=[(0,_),(4,_)]) ?_;refine(aq _ _ ⟨rfl,_,.slice none 0 0,_,[],jW.less (λb e=>e.elim id (λe=>by cases e)),h4,Sl.nil w4 _ 1,Nat.zero_le _,(λb e=>by cases e),(List.drop_of_length_le (by omega)).symm,λj hj lJ=>?_,λy hy=>?_,?_⟩).qb
    ·by_cases e:j=T.length / 512
     ·subst e;exact⟨zeros (512-T.length%512),by rw[S3,lE];rfl⟩
     ·exact⟨[],by rw[Rn _ _ (by omega),List.append_nil];exact jg j (by omega)⟩
    ·rw[Rn _ _ (by omega)]
    ·refine((ad.kp.It bA λb e=> .inr (.inl (bu b e))).trans av).trans (au.OH λb e=> .inr e)
   ·have yF:¬T.length / 512<len-1:=λe=>by rw[hq.2 e] at gz;cases gz
    have Mr:T.length / 512=len-1:=by omega
    have eP:(T.drop (512*(T.length / 512))).length=T.length%512:=by rw[List.length_drop];omega
    refine OD ((aq _ _ ⟨rfl,txt,.slice a0 (T.length%512) c0,T.length / 512,T.drop (512*(T.length / 512)),iy.more (by omega),h1,by rw[eP];exact jZ,by omega,bu,by rw[Mr],λj hj lJ=>⟨[],by rw[List.append_nil];exact jg j (by omega)⟩,λy hy=>rfl,ad.kp⟩).qb)
 case gl=>
  refine QV (λw'=>Ext w w') O$ OZ 0 O O (hg)$ OG 1 O (Q8 O) hg$ OG 2 O (Pr YZ O) hg$ qT 3 O (λ_ h=>OM U3 O O (h.OA hB) O) hg$ OZ 4 O O (hg)$ OG 5 O (Q8 O) hg$ OG 6 O (Pr WK O) hg$ OG 7 O (Pr Uf O) hg$ OG 8 O (Pr QZ O) hg$ qT 9 O (λ_ h=>OM U3 O O (h.OA hB) O) hg$ OG 10 O (Xw O O (by omega)) hg ?_;rw[show(len:Int)-1=((len-1:Nat):Int) by omega];rcases Nat.lt_or_ge (T.length / 512) (len-1) with hq|hq
  ·refine OG 11 O (ylt O O) hg$ TL$ OZ 12 O O (hg)$ OZ 13 O O (hg)$ OG 14 O (Q8 O) hg$ OG 15 O (Pr SS O) hg$ qT 16 O (λ_ h=>OM SG O O (h.OA hB) O) hg$ OG 17 O (SE SG O) hg$ OG 18 O (Yf O O) hg$ TL$ OG 19 O (Uu O O) hg$ qE$ Po.qb (e:=[(0,_),(2,_),(4,_),(38,_)]) ?_;exact(aY _ _ ⟨true,rfl,⟨λ_=>hq,λ_=>rfl⟩,hg⟩).qb
  ·refine OG 11 O (ylt O O) hg$ TD$ OZ 12 O O (hg)$ qJ 13 O (hg)$ qJ 14 O (hg)$ qJ 15 O (hg)$ qJ 16 O (hg)$ qJ 17 O (hg)$ qJ 18 O (hg)$ OG 19 O (U0 O O) hg$ qE$ Po.qb (e:=[(0,_),(2,_),(4,_),(38,_)]) ?_;exact(aY _ _ ⟨false,rfl,⟨λe=>(by cases e),λe=>by omega⟩,hg⟩).qb
end
open Go.Shelf
def BdM (w:World)(b:Nat)(l:OI)(v:Value):Prop:=(∃p,(p= .pointer none\/p=ptr b 0)/\OP w b [p,v] 160)/\Sl w v 5 1 l.length (l.map Tu)/\v.ownBlock≠some b
section
variable {w w':World}{b:Nat}{l s:OI}{v:Value}{S':Nat->Prop}
def BdM.kp (h:BdM w b l v)(hk:Kp S' w w')(h1:¬S' b)(h2:∀g,v.ownBlock=some g->¬S' g):BdM w' b l v:=by
 obtain⟨⟨p,hp,hB⟩,hS,hn⟩:=h
 exact⟨⟨p,hp,hk.OA hB h1⟩,hS.kp hk h2,hn⟩
theorem BdM.new (h:OP w b [.pointer none,.slice none 0 0] 160):BdM w b [] (.slice none 0 0):=⟨⟨_,.inl O,h⟩,Sl.nil w _ 1,λe=>by cases e⟩
def OP.shape {cs:List Value}{T:TypeId}(h:OP w b cs T):w.shape? b=some (T,cs.length):=by
 obtain⟨fz,hb,-⟩:=h
 simp[World.shape?,hb]
def zb0 (h:BdM w b l v):Pm prog 110 [ptr b 0] w λr w'=>r= .tuple #[]/\BdM w' b l v/\Kp (λk=>k=b) w w':=by
 obtain⟨⟨p,hp,hB⟩,hS,hn⟩:=h
 rcases hp with rfl|rfl
 ·refine Calls.mono (Any.Builder_copyCheck_fresh {zfJ with} zfg.toX72 b w (hB.cell 0) hB.shape (hB.free (i:=0) (by simp))) λ_ _ ⟨he,hw⟩=>⟨_,he,rfl,?_,?_⟩
  ·rw[hw];have hk:=Tx w b 0 (ptr b 0);exact⟨⟨_,.inr O,Wn hB 0 (ptr b 0)⟩,hS.kp hk (λg hg e=>hn (e▸hg)),hn⟩
  ·rw[hw];exact Tx w b 0 _
 ·exact Calls.mono (Any.Builder_copyCheck_used {zfJ with} zfg.toX72 b w (hB.cell 0)) λ_ _ ⟨he,hw⟩=>⟨_,he,rfl,by rw[hw];exact⟨⟨_,.inr O,hB⟩,hS,hn⟩,by rw[hw];exact Kp.refl _ _⟩
def zc5 (h:BdM w b l v)(s:OI)(hl:l.length+s.length<=140737488355328):Pm prog 69 [ptr b 0,S s] w λ_ w'=>∃v',BdM w' b (l++s) v'/\Kp (λk=>k=b\/v.ownBlock=some k) w w'/\(∀g,v'.ownBlock=some g->v.ownBlock=some g\/w.heap.size<=g):=by
 refine py (e:=[(0,_),(1,_)]) func69 O ntmps69 O O$ qN O$ SA O$ QW O$ P5 zgq O (zb0 h) ?_
 rintro _ w1 ⟨rfl,⟨⟨p,hp,ai⟩,jZ,dh⟩,az⟩
 have nJ:=az.size
 have l1:=ai.lt
 refine qM O$ Pa O$ Pq O$ OW z0j O$ qV (OM SG O O ai O)$ ON O$ OJ O O (zgG SG U9 Ye O O jZ hl) ?_
 rintro v2 w2 ⟨cL,am,pY⟩
 have ak:=am.OA ai dh
 have nn:=am.size
 have jS:v2.ownBlock≠some b:=λe=>by
  rcases pY b e with e| e
  ·exact dh e
  ·omega
 refine Pq O$ OW z0j O$ OT O (QG z2e O O (WS cL) ak (by simp)) ?_
 rintro w3 ⟨ar,av⟩
 refine qM O$ ON O$ qV (Wg U9 O)$ Qm O$ OB func69 O ?_
 rw[<-List.length_append,<-List.map_append] at cL
 refine⟨_,rfl,v2,⟨⟨p,hp,ar⟩,cL.kp av (λg hg e=>jS (e▸hg)),jS⟩,((az.OH λk e=> .inl e).trans (am.OH λk e=> .inr e)).trans (av.OH λk e=> .inl e),λg hg=>(pY g hg).imp id λe=>by omega⟩
def z96 (w:World)(a:Addr)(n:Nat):Kp (λk=>k=a.block) w (w.freeze a n):=by
 by_cases h0:n=0
 ·subst h0;rw[show w.freeze a 0=w by simp[World.freeze]];exact Kp.refl _ w
 ·unfold World.freeze;rw[if_neg h0]
  exact⟨rfl,rfl,rfl,by simp,λk _ hn=>by
   simp only[Array.getElem?_modify]
   rw[if_neg (λh=>hn h.symm)]⟩
section
variable {P:Program}{e:Env}{d:Option Nat}{ty t it el:TypeId}{pos:String}{aft:Array Edge}{g:Option (Nat×Bool)}{x y:Operand}{n c:Nat}{a:Option Addr}
def zkY (hx:look e x=some (.slice a n c))(hc:a≠none->c≠0):Y P e ⟨d,.call ⟨.builtin .unsafeSliceData,#[x],#[t]⟩,ty,pos,aft,g⟩ (.pointer a) w w:=fun ρ hρ=>by
 have hr:∀w,(Builtin.unsafeSliceData_ #[t] ty #[.slice a n c]).run P w= .ok (.pointer a) w:=λw=>by
  cases a with
  |none=>rfl
  |some a=>exact Lib.run_unsafeSliceData_row (P:=P) w #[t] ty a n c (hc (by simp))
 simp[execOp,resolve,invoke,builtin,hρ _ _ hx,hr]
theorem zl0 (hp:P.underlying t=some (.pointer el))(hc:P.cellsOf el=1)(hx:look e x=some (.pointer a))(hy:look e y=some (I (l.length:Int)))(hS:Sl w (.slice a l.length c) el 1 l.length (l.map Tu))(FI:l.length<=9223372036854775807)(h0:l=[]\/∃g,a=some ⟨g,0,none⟩):
  Yp P e ⟨d,.call ⟨.builtin .unsafeString,#[x,y],#[t,it]⟩,ty,pos,aft,g⟩ w λr w'=>r=S l/\Kp (λk=>(Value.slice a l.length c).ownBlock=some k) w w':=by
 by_cases hl:l=[]
 ·subst hl;have hr:=Lib.run_unsafeString_none (P:=P) w t it ty a;refine⟨_,w,fun ρ hρ=>?_,rfl,Kp.refl _ _⟩;have h1:=hρ _ _ hx;have h2:ρ y= .int .i64 0:=hρ _ _ hy;simp[execOp,resolve,invoke,builtin,h1,h2,hr]
  rfl
 ·obtain⟨b,rfl⟩:=h0.resolve_left hl;obtain⟨cur,gU,jP,nH,aI,nK⟩:=hS.row;have bj:=World.ownsRow.cells hS (g:=b) O;simp only[Nat.mul_one] at aI nK
  have hr:=Lib.run_unsafeString_row (P:=P) w t it ty el hp hc b cur.length (by unfold UM at gU;simp[World.shape?,gU]) l hl (by omega) FI (λj x hj=>by
   have:=bj j (Tu x) (by rw[List.getElem?_map,hj];rfl)
   exact this)
  refine⟨_,_,fun ρ hρ=>?_,rfl,(z96 w ⟨b,0,none⟩ l.length).OH λk e=>by rw[show k=b from e];rfl⟩;simp[execOp,resolve,invoke,builtin,hρ _ _ hx,hρ _ _ hy,hr]
end
def z9E (h:BdM w b l v)(h0:l=[]->v= .slice none 0 0)(hl:l.length<=140737488355328):Pm prog 70 [ptr b 0] w λr w'=>r=S l/\Kp (λk=>v.ownBlock=some k) w w':=by
 obtain⟨⟨p,hp,hB⟩,hS,hn⟩:=h
 obtain⟨a,c,rfl,ha⟩:=hS.rd.shape
 have hg:=Ext.P4 w
 have BF:l=[]\/∃g,a=some ⟨g,0,none⟩:=by
  rcases hS.shape with⟨e,h1⟩|⟨g,cap,e,h1⟩
  ·exact .inl (List.eq_nil_of_length_eq_zero h1)
  ·cases e;exact .inr ⟨g,rfl⟩
 have wk:a≠none->c≠0:=λe=>by
  by_cases tW:l=[]
  ·have:=h0 tW
   injection this with e1 _ _
   exact absurd e1 e
  ·have sM:l.length≠0:=by simpa using tW
   rcases hS.shape with⟨_,h1⟩|⟨g,cap,e2,h1⟩
   ·omega
   ·cases e2;omega
 refine py (e:=[(0,_)]) func70 O ntmps70 O O$ Qx O$ An$ P9 [10,11] (λw'=>Ext w w') (by kernel_rfl) O$ PQ 0 O O (hg)$ Pl 1 O (Q8 O) hg$ Pl 2 O (Pr z0j O) hg$ qL 3 O (λ_ h=>OM SG O O (h.OA hB) O) hg$ PQ 5 O O (hg)$ Pl 6 O (Q8 O) hg$ Pl 7 O (Pr z0j O) hg$ qL 8 O (λ_ h=>OM SG O O (h.OA hB) O) hg$ Pl 9 O (SE SG O) hg$ Pl 4 O (zkY O wk) hg ?_
 refine Tt [10]$ qO 10$ XJ (i:=10) O O O (zl0 zkJ (by kernel_rfl) O O (hS.ext hg) (by omega) BF) ?_
 rintro _ w1 ⟨rfl,az⟩
 refine⟨trivial,?_⟩
 refine OG 11 O (Rp O) trivial$ qE$ OB func70 O ?_
 exact⟨_,rfl,rfl,hg.kp.trans az⟩
end
def srC (s st len n sum:Nat):List Value:=[ptr s 0,I (st:Int),I (len:Int),I (n:Int),U sum]
section
variable {w w':World}{Q:Ra}{txt:Int->OI}{K:Nat}{X:Nat->Prop}{st len n sum rb:Nat}{T:OI}
def z6p (hP:Sp Q txt K X w)(hX:∀b,X b->b<w.heap.size)(hK:K<1000000000000)(h1:1<=len)(cm:st+len<=Q.L.length)(hn:n<=len*512-12)(i3:sum<4294967296)(hf:∃z,txt ((st+(len-1):Nat):Int)=z++Xr n sum/\z.length=500):
  Pm prog 54 [ptr Q.s 0,.agg #[I (st:Int),I (len:Int)]] w λv w'=>∃rb,v= .tuple #[ptr rb 0,I 0]/\OP w' rb (srC Q.s st len n sum) 186/\w.heap.size<=rb/\Sp Q txt K (λb=>X b\/b=rb) w'/\Kp (λb=>¬X b) w w':=by
 have ek:=hP.n
 obtain⟨z,hz,xS⟩:=hf
 have iH:=z3z n sum
 refine py (e:=[(0,_),(1,_)]) func54 O ntmps54 O O$ qN O$ OJ O O (R4 O (cs:=[I (st:Int),I (len:Int)]) O) ?_
 rintro _ w1 ⟨bx,rfl,fJ,ad,ji⟩
 refine SA O$ QW O$ qV (Pp (news:=[I (st:Int),I (len:Int)]) Xm O QY O (ji.cells (n:=2) O) O)$ qV (Sa (cs:=[_,_,_]) Xx O zeh O O)$ qV (Sa (cs:=[_,_,_,_,_]) ziU O zhG O O)$ OJ O O (R4 O (cs:=[ptr Q.s 0,I (st:Int),I (len:Int),I 0,U 0]) O) ?_
 rintro _ w2 ⟨rb,rfl,I3,ae,ak⟩
 have aG:=ad.trans ae
 have FT:=ae.OA ji
 have z1:=ad.size
 have z2:=ae.size
 have fd:Sp Q txt K (λb=>X b\/b=rb) w2:=hP.ext aG (λb e=>e.imp id λe=>by omega)
 refine OV O$ PK O$ Pq O$ OW Ys O$ qV (Pp zd4 O Xx O (OP.cells (n:=3) ak (news:=[_,_,_]) O) O)$ P5 zhL O (z0e fd h1 cm) ?_
 rintro _ w3 ⟨rfl,ah⟩
 have gd:=fd.ext' ah
 have ar:=ah.OA ak
 have Ak:=ah.OA FT
 have z3:=ah.size
 have l2:=ak.lt
 have eO:=gd.read (λb hb=>by
  rcases hb with e| e
  ·have:=hX b e;omega
  ·omega) hK (no:=((st+(len-1):Nat):Int)) (by omega) (by omega)
 rw[hz] at eO
 refine QW O$ QE O$ Qg O$ Pn O$ OW QT O$ qV (OM U3 O O Ak O)$ OW QZ O$ qV (OM U3 O O Ak O)$ PS O$ Ro O ?_
 rw[show(st:Int)+(len:Int)-1=((st+(len-1):Nat):Int) by omega]
 refine P5 zcw O (eO) ?_
 rintro _ w4 ⟨rfl,jW,au⟩
 have aK:=au.OA ar (λe=>e (.inr O))
 refine ON O$ SU O$ Qm O$ Po.qb (e:=[(4,_),(5,_),(6,_),(8,_),(9,_)]) ?_
 refine PK O$ QE O$ Qg O$ Qt O$ qV (Wg U9 O) ?_
 rw[show((z++Xr n sum).length:Int)=512 by rw[List.length_append,iH,xS];rfl]
 refine Ro O ?_
 rw[show(512:Int)-12=((500:Nat):Int) by omega]
 refine qV (z0T (m:=500) U9 O O (by rw[List.length_append,iH,xS];omega)) ?_
 rw[show(z++Xr n sum).drop 500=Xr n sum from List.drop_left' xS]
 refine QW O$ qV (z5z (m:=8) U9 O O (by rw[iH];omega)) ?_
 rw[show(Xr n sum).take 8=Vn 8 n from List.take_left' (Qc _ _)]
 have tz:Pz (P7 (Vn 8 n))=n:=z36 (by omega)
 have FU:Pz (P7 (Vn 4 sum))=sum:=z36 (by omega)
 have ja:=Qc 8 n
 have fZ:=Qc 4 sum
 refine P5 ziO O (z2L (Vn 8 n) (by omega) _) ?_
 rintro _ w5 ⟨rfl,aU⟩
 rw[tz]
 have aH:=aU.OA aK
 have i5:=jW.ext' aU
 refine OV O$ An$ Qt O$ Pq O$ OW Ys O$ qV (Pp zd4 O Xx O (OP.cells (n:=3) aH (news:=[_,_,_]) O) O)$ P5 zis O (z1N i5 (by omega)) ?_
 rintro _ w6 ⟨rfl,aR⟩
 have aT:=aR.OA aH
 have nD:=i5.ext' aR
 refine qV ((Q7 O U3 Rt (by omega)))$ QB O$ PH$ OC$ Po.qb (e:=[(4,_),(5,_),(6,_),(10,_),(11,_),(54,_)]) ?_
 refine SH O$ Qt O$ ON O$ qV (PJ O Rt U3 (by omega))$ ON O$ qV (z0T (m:=8) U9 O O (by rw[iH];omega)) ?_
 rw[show(Xr n sum).drop 8=Vn 4 sum from List.drop_left' (Qc _ _)]
 refine P5 ziO O (z2L (Vn 4 sum) (by omega) _) ?_
 rintro _ w7 ⟨rfl,co⟩
 rw[FU]
 have bO:=co.OA aT
 refine qV (z4q O Rt QR)$ Pq O$ OW z0G O$ OT O (QG PV O O O bO (by simp)) ?_
 rintro w8 ⟨cj,aL⟩
 replace cj:OP w8 rb [ptr Q.s 0,I (st:Int),I (len:Int),I (n:Int),U 0] 186:=cj
 refine Pq O$ OW zdC O ?_
 rw[Nat.mod_eq_of_lt (show sum<2^32 by omega)]
 refine OT O (QG P6 O O O cj (by simp)) ?_
 rintro w9 ⟨cK,aw⟩
 refine qM O$ ON O$ Qm O$ OB func54 O ?_
 have q9:=(((nD.ext' co).own aL (λb e=> .inr e)).own aw (λb e=> .inr e))
 refine⟨_,rfl,rb,rfl,cK,by omega,q9,?_⟩
 have FW:Kp (λb=>¬X b) w w4:=((aG.trans ah).kp (S:=λb=>¬X b)).trans (au.OH λb e e2=>e (.inl e2))
 refine(((FW.trans (aU.trans (aR.trans co)).kp).It aL λb e=> .inl (by omega)).It aw λb e=> .inl (by omega))
def z8T (hB:OP w rb (srC Q.s st len n sum) 186):Pm prog 279 [ptr rb 0] w λv w'=>v=I (n:Int)/\w'=w:=by
 replace hB:OP w rb [ptr Q.s 0,I (st:Int),I (len:Int),I (n:Int),U sum] 186:=hB
 refine py (e:=[(0,_)]) func279 O ntmps279 O O$ Qx O$ PK O$ qV (PY zcQ O O)$ Qg O$ Pn O$ Pq O$ OW z0G O$ qV (OM U3 O O hB O)$ OV O$ OB func279 O ?_
 exact⟨_,rfl,rfl,rfl⟩
def zbN (hP:Sp Q txt K (λb=>X b\/b=rb) w)(hX:∀b,X b->b<w.heap.size)(vg:¬X rb)(hK:K<1000000000000)(cm:st+len<=Q.L.length)(hL:Laid txt st T)(hB:OP w rb (srC Q.s st len T.length sum) 186)(hT:T.length<=len*512)(off n:Nat)(ho:off+n<=T.length):
  Pm prog 280 [ptr rb 0,I (off:Int),I (n:Int)] w λv w'=>v= .tuple #[S ((T.drop off).take n),I 0]/\Sp Q txt K (λb=>X b\/b=rb) w'/\OP w' rb (srC Q.s st len T.length sum) 186/\Kp (λb=>¬X b) w w':=by
 have ek:=hP.n
 have lrb:=hB.lt
 replace hB:OP w rb [ptr Q.s 0,I (st:Int),I (len:Int),I (T.length:Int),U sum] 186:=hB
 refine py (e:=[(0,_),(1,_),(2,_)]) func280 O ntmps280 O O$ qN O$ Qm O$ QA$ Pn O$ qV (PY zcQ O O)$ OV O$ OL O$ Pn O$ Qw O$ PH$ Pa O$ Qw O$ PH ?_
 refine PM O$ Pa O$ ON O$ Pq O$ OW z0G O$ qV (OM U3 O O hB O)$ QB O$ PH$ PM O$ Pa O$ ON O$ Pq O$ OW z0G O$ qV (OM U3 O O hB O) ?_
 refine ON O$ Ro O$ QB O$ PH$ PM O$ OV O$ Po.qb (e:=[(0,_),(1,_),(2,_),(6,_),(7,_),(15,_)]) ?_
 refine SH O$ Oz$ Pn O$ Pq O$ OW Ys O$ OW Vd O$ qV (OM XH O O hB O)$ P5 z5b O (hP.size) ?_
 rintro _ w ⟨rfl,rfl⟩
 refine QS O$ OJ O O (Ry (cs:=[_,_]) zjA O) ?_
 rintro _ w1 ⟨bb,rfl,wh,ad,wR⟩
 have FX:=BdM.new wR
 have z1:=ad.size
 refine OC$ QA$ Rr (α:=Nat×Value) ((0,Value.slice none 0 0)) (λy=>[(0,ptr rb 0),(1,I ((off+y.1:Nat):Int)),(2,I ((n-y.1:Nat):Int)),(8,I 512),(9,ptr bb 0)]) (λy w'=>y.1<=n/\BdM w' bb ((T.drop off).take y.1) y.2/\(y.1=0->y.2= .slice none 0 0)/\(∀g,y.2.ownBlock=some g->w.heap.size<=g)/\Sp Q txt K (λb=>(X b\/b=rb)\/b=bb\/y.2.ownBlock=some b) w'/\Kp (λb=>¬(X b\/b=rb)) w w') (λy=>n-y.1) ?hI ?hround
 case hI=>exact⟨Nat.zero_le _,FX,λ_=>rfl,λg hg=>(by cases hg),hP.ext ad (λb e=>e.imp id λe=>e.elim (λe=>by omega) (λe=>by cases e)),ad.kp⟩
 case hround=>
  rintro⟨m,v⟩ w2 ⟨hm,mO,IS,fg,fd,am⟩ ih;dsimp only at hm mO IS fg fd ih⊢;have ak:=am.OA hB (λe=>e (.inr O));have hg:=Ext.P4 w2;have z2:=am.size;have lbb:bb<w2.heap.size:=by obtain⟨⟨p,hp,hb⟩,-,-⟩:=mO;exact hb.lt
  have qg:∀b,((X b\/b=rb)\/b=bb\/v.ownBlock=some b)->b<w2.heap.size:=λb hb=>by
   rcases hb with(e|e)|e| e
   ·have:=hX b e;omega
   ·omega
   ·omega
   ·exact mO.2.1.lt e
  try dsimp only
  refine PK O$ QB O$ OC$ OQ O (λh0=>?_)$ λh0=>?_
  ·obtain⟨q,hq⟩:∃q,min (n-m) (512-(off+m)%512)=q:=⟨_,rfl⟩;have ff:=fd.z1n (x:=((st+(off+m) / 512:Nat):Int)) (by omega) (by omega);have md:=hL.piece (off:=off+m) (n:=q) (by omega) (by omega);have eO:=(fd.ext' hg).read (λb hb=>by have:=qg b hb;have:=hg.size;omega) hK (no:=((st+(off+m) / 512:Nat):Int)) (by omega) (by omega);obtain⟨t,ht⟩:∃t,txt ((st+(off+m) / 512:Nat):Int)=t:=⟨_,rfl⟩;rw[ht] at ff md eO;refine OD$ OE$ An$ QV (λw'=>Kp (λb=>¬((X b\/b=rb)\/b=bb\/v.ownBlock=some b)) w2 w') O$ OZ 0 O O (hg.kp)$ OG 1 O (Q8 O) (hg.kp)$ OG 2 O (Pr Ys O) (hg.kp)$ OG 3 O (Pr Vd O) (hg.kp)$ qT 4 O (λ_ hS=>OM XH O O (hS.OA ak (λe=>e (.inl (.inr O)))) O) (hg.kp)$ OZ 5 O O (hg.kp)$ OG 6 O (Q8 O) (hg.kp)$ OG 7 O (Pr Ys O) (hg.kp)$ OG 8 O (Pr Uf O) (hg.kp)$ OG 9 O (Pr QT O) (hg.kp) ?_;refine qT 10 O (λ_ hS=>OM U3 O O (hS.OA ak (λe=>e (.inl (.inr O)))) O) (hg.kp)$ OZ 11 O O (hg.kp)$ OZ 12 O O (hg.kp)$ OG 13 O (WY O O (by omega)) (hg.kp)$ OG 14 O (UO O O (by omega)) (hg.kp) ?_;rw[show(st:Int)+((off+m:Nat):Int) / 512=((st+(off+m) / 512:Nat):Int) by omega];refine RT 15 O zcw O (eO) ?_;rintro _ w3 ⟨rfl,gd,av⟩;refine⟨hg.kp.trans av,?_⟩;have cJ:=hg.kp.trans av;have FY:=mO.kp cJ (λe=>e (.inr (.inl O))) (λg hg e=>e (.inr (.inr hg)));refine OZ 16 O O (hg.kp.trans av)$ OG 17 O (Ru O O) (hg.kp.trans av)$ OG 18 O (Ru O O) (hg.kp.trans av)$ OG 19 O (Rp O) (hg.kp.trans av)$ OG 20 O (Rp O) (hg.kp.trans av)$ qE$ PK O$ QE O$ Qg O$ Qt O$ ON O$ qV (yre O O (by omega)) ?_;rw[show((off+m:Nat):Int)%512=(((off+m)%512:Nat):Int) by omega];refine qV (z0T U9 O O (by omega))$ QS O$ Pa O$ ON O$ qV (Wg U9 O)$ qV (ymi O O) ?_;rw[show min ((n-m:Nat):Int) ((t.drop ((off+m)%512)).length:Int)=((q:Nat):Int) by rw[List.length_drop];omega];refine qV (z5z (m:=q) U9 O O (by rw[List.length_drop];omega)) ?_;rw[md];have E5:((T.drop (off+m)).take q).length=q:=by rw[List.length_take,List.length_drop];omega
   have iB:((T.drop off).take m).length<=m:=by rw[List.length_take];omega
   refine QW O$ P5 zjW O (zc5 FY ((T.drop (off+m)).take q) (by omega)) ?_;rintro _ w4 ⟨v4,FZ,au,wo⟩;have z3:=cJ.size;refine qM O$ Pa O$ qV (Wg U9 O) ?_;rw[E5];refine PS O$ OV O$ OK O$ Pa O$ qV (Wg U9 O) ?_;rw[E5];refine Ro O$ OV O$ Oz ?_;rw[show((off+m:Nat):Int)+(q:Int)=((off+(m+q):Nat):Int) by omega,show((n-m:Nat):Int)-(q:Int)=((n-(m+q):Nat):Int) by omega];refine(ih (m+q,v4) _ ⟨by dsimp only;omega,?_,λe=>by dsimp only at e;omega,λg hg=>(wo g hg).elim (fg g) (λe=>by omega),?_,?_⟩ (by dsimp only;omega)).qb
   ·dsimp only;rw[List.take_add,List.drop_drop];exact FZ
   ·exact gd.step au (λb e=> .inr e) (λb e=>by
     rcases e with e|e| e
     ·exact .inl (.inl e)
     ·exact .inl (.inr (.inl e))
     ·exact(wo b e).imp (λe=> .inr (.inr e)) id)
   ·refine(am.trans (cJ.OH λb e e2=>e (.inl e2))).It au λb e=> .inl ?_;rcases e with e| e
    ·omega
    ·exact fg b e
  ·have BP:m=n:=by omega
   subst BP;refine OO O$ qN O$ P5 zkK O (z9E mO (λe=>IS (by have:=congrArg List.length e;rw[List.length_take,List.length_drop,List.length_nil] at this;omega)) (by rw[List.length_take,List.length_drop];omega)) ?_;rintro _ w3 ⟨rfl,av⟩;refine Qm O$ OB func280 O ?_;have ct:Kp (λb=>¬(X b\/b=rb)) w w3:=am.It av (λb e=> .inl (fg b e));exact⟨_,rfl,rfl,fd.step av (λb e=> .inr (.inr e)) (λb e=> .inl (.inl e)),ct.OA hB (λe=>e (.inr O)),ct.OH λb e e2=>e (.inl e2)⟩
end
section
variable {t:TypeId}{u:Value}{p:Qk}{g:List (List Nat)}{E:List (Nat×Nat)}{R:Src t u (Xt p g E)}{k x:Nat}{X Y:Nat->Prop}{w w':World}
def z6Q (k v:Nat)(w:World):Pm prog 140 [ptr k 0,I (v:Int)] w λr w'=>∃bk bi,r= .func (.func 170) #[] #[ptr bk 0,ptr bi 0]/\OP w' bk [ptr k 0] 28/\OP w' bi [I (v:Int)] 3/\w.heap.size<=bk/\w.heap.size<=bi/\Ext w w':=by
 refine py (e:=[(0,_),(1,_)]) func140 O ntmps140 O O$ qN O$ OJ O O (R4 O (cs:=[ptr k 0]) O) ?_
 rintro _ w1 ⟨bk,rfl,fH,ad,wI⟩
 refine OJ O O (R4 O (cs:=[I (v:Int)]) O) ?_
 rintro _ w2 ⟨bi,rfl,sU,ae,G0⟩
 refine QS O$ qV (ymf (first:=[]) (caps:=[.tmp 2,.tmp 3]) O O)$ OV O$ OB func140 O ?_
 have:=ad.size
 exact⟨_,rfl,bk,bi,rfl,ae.OA wI,G0,by omega,by omega,ad.trans ae⟩
def z6d {l bk bi v:Nat}(jx:g.length<50)(hv:v<g.length)(h:UJ R k x X w)(fH:OP w bk [ptr k 0] 28)(sU:OP w bi [I (v:Int)] 3)(Z:Nat->Prop)(hZ:∀j,Z j->X j)(J:(Nat->Prop)->Nat->World->Prop)(F:World->Prop)
  (h0:∀(Y:Nat->Prop) (w':World),(∀j,X j->Y j)->(∀j,Y j->X j\/w.heap.size<=j)->UJ R k x Y w'->Kp (λj=>¬X j) w w'->J Y 0 w')
  (hround:∀(Y:Nat->Prop) (i s:Nat) (w':World),(∀j,X j->Y j)->(∀j,Y j->X j\/w.heap.size<=j)->(OU g v)[i]? =some s->J Y i w'->z1T prog l [Px s,I 0] w' λr w''=>(r= .bool true/\J Y (i+1) w''/\Kp (λj=>¬Y j\/Z j) w' w'')\/(r= .bool false/\F w'')):
  Pm prog 170 [.func (.yield l) #[] #[],ptr bk 0,ptr bi 0] w λr w'=>r= .tuple #[]/\((∃Y,(∀j,X j->Y j)/\(∀j,Y j->X j\/w.heap.size<=j)/\J Y (OU g v).length w')\/F w'):=by
 have aS:=h.lt
 have fU:(OU g v).length<=g.length:=by
  unfold OU;rw[List.getElem?_eq_getElem hv];exact h.ok.gr.len (List.getElem_mem hv)
 refine py (e:=[(0,_),(1,_),(2,_)]) func170 O ntmps170 O O$ qN O$ qV ((OM ZH O O fH O))$ qV ((OM U3 O O sU O))$ P5 zha O (z7g jx hv h) ?_
 rintro _ w1 ⟨vv,rfl,jZ,j9,h1,az⟩
 have eO:=jZ.rd
 obtain⟨a,c,rfl,ha⟩:=eO.shape
 refine ON O$ qV (Ru (v:= .slice a (OU g v).length c) O O)$ qV (Ru (v:=I 0) O O)$ Qm O$ PK O$ QE O$ Qg O$ Pn O$ Rs Pu O$ ON O$ OC$ OE ?_
 obtain⟨Y,hY⟩:∃Y:Nat->Prop,(λj=>X j\/(Value.slice a (OU g v).length c).ownBlock=some j)=Y:=⟨_,rfl⟩
 rw[hY] at h1
 have aN:∀j,X j->Y j:=λj hj=>by rw[<-hY];exact .inl hj
 have lq:∀j,Y j->X j\/w.heap.size<=j:=λj hj=>by
  rw[<-hY] at hj;exact hj.imp id (j9 j)
 have IT:∀j,(Value.slice a (OU g v).length c).ownBlock=some j->Y j/\¬Z j:=λj hj=>⟨by rw[<-hY];exact .inr hj,λe=>by have h2:=j9 j hj;have h3:=aS j (hZ j e);omega⟩
 refine Rr (α:=Nat) (0) (λi=>[(0,.func (.yield l) #[] #[]),(19,.slice a (OU g v).length c),(20,I ((OU g v).length:Int)),(21,I (i:Int))]) (λi w'=>i<=(OU g v).length/\J Y i w'/\Rd w' (.slice a (OU g v).length c) 1 (OU g v).length ((OU g v).map Px)) (λi=>(OU g v).length-i) ?hI ?hround
 case hI=>exact⟨Nat.zero_le _,h0 Y w1 aN lq h1 az,eO⟩
 case hround=>
  rintro i w2 ⟨hi,hJ,Al⟩ ih
  try dsimp only
  refine qN O$ Qw O$ OC$ An$ OQ O (λhq=>?_)$ λhq=>?_
  ·obtain⟨s,hs⟩:∃s,(OU g v)[i]? =some s:=⟨_,List.getElem?_eq_getElem (by omega)⟩;rcases Al.2 with⟨⟨ca,cc⟩,jm,wP⟩|⟨b,off,cap,jm,hc⟩
   ·omega
   cases jm;have bj:w2.cell? ⟨b,off+i*1,none⟩=some (Px s):=hc (i*1) _ (by rw[Nat.mul_one,List.getElem?_map,hs];rfl);refine OD$ QA$ qN O$ qV (PR Pu P6 O O (by omega))$ qV (Ps QR O O bj)$ QS O$ Pa O$ z3i O O (yy O O) (hround Y i s w2 aN lq hs hJ) ?_;rintro r w3 ge;rcases ge with⟨rfl,Ms,av⟩|⟨rfl,hF⟩
   ·refine qV ((RZ O))$ Qg O$ Oz$ OK O$ PS O$ ON O$ OC ?_;exact(ih (i+1) _ ⟨by omega,Ms,Al.kp av (λj hj e=>e.elim (λe=>e (IT j hj).1) (IT j hj).2)⟩ (by omega)).qb
   ·refine qV ((RZ O))$ OC$ OS O$ OB func170 O ?_;exact⟨_,rfl,rfl,.inr hF⟩
  ·have dl:i=(OU g v).length:=by omega
   subst dl;refine OO O$ Qa func170 O ?_;exact⟨_,rfl,rfl,.inl ⟨Y,aN,lq,hJ⟩⟩
end
structure StO (Q:Ra)(txt:Int->OI)(K st len:Nat)(T:OI):Prop where
 k:K<1000000000000
 fit:st+len<=Q.L.length
 laid:Laid txt st T
 len:T.length<=len*512
def z63 {Q:Ra}{txt:Int->OI}{K st len:Nat}{T:OI}(o:StO Q txt K st len T)(rb sum:Nat):Src 124 (ptr rb 0) T where
 inv X w:=Sp Q txt K (λb=>X b\/b=rb) w/\OP w rb (srC Q.s st len T.length sum) 186/\¬X rb
 fl:=279
 fr:=280
 cl:=ziT
 cr:=zgN
 ml:=by kernel_rfl
 mr:=by kernel_rfl
 ext:=λh hx hY=>⟨h.1.ext hx λb e=>e.elim (λe=>(hY b e).elim (λe=> .inl (.inl e)) .inr) (λe=> .inl (.inr e)),hx.OA h.2.1,λe=>(hY _ e).elim h.2.2 (λe=>by have:=h.2.1.lt;omega)⟩
 step:=λh hk hS hY=>⟨h.1.step hk (λb e=> .inl (hS b e)) λb e=>e.elim (λe=>(hY b e).elim (λe=> .inl (.inl e)) .inr) (λe=> .inl (.inr e)),hk.OA h.2.1 (λe=>h.2.2 (hS _ e)),λe=>(hY _ e).elim h.2.2 (λe=>by have:=h.2.1.lt;omega)⟩
 len:=λh=>(z8T (Q:=Q) h.2.1).mono λv w' ⟨hv,hw⟩=>⟨hv,by rw[hw];exact Ext.refl _⟩
 rd:=λoff n h hX BD=>(zbN h.1 hX h.2.2 o.k o.fit o.laid h.2.1 o.len off n BD).mono λv w' ⟨hv,h1,h2,h3⟩=>⟨hv,⟨h1,h2,h.2.2⟩,h3⟩
section
variable {t:TypeId}{u:Value}{p:Qk}{g:List (List Nat)}{E:List (Nat×Nat)}{k x:Nat}{X S:Nat->Prop}{w w':World}
def UJ.re {R R':Src t u (Xt p g E)}(h:UJ R k x X w)(hk:Kp S w w')(hS:∀j,S j->j≠k/\j≠x/\j≠1/\j≠2)(hI:R'.inv X w'):UJ R' k x X w':=
 ⟨h.ok,hk.OA h.OA (λe=>(hS _ e).1 O),hk.OA h.ix (λe=>(hS _ e).2.1 O),h.xk,h.xx,hI,λj hj=>by have:=h.lt j hj;have:=hk.size;omega,h.x1,h.x2,hk.OA h.gam (λe=>(hS _ e).2.2.1 O),hk.OA h.una (λe=>(hS _ e).2.2.2 O)⟩
def z60 {Q:Ra}{txt:Int->OI}{K st len rb sum:Nat}(hp:SV p g E)(o:StO Q txt K st len (Xt p g E))(hI:(z63 o rb sum).inv X w)(hX:∀j,X j->j<w.heap.size)(x1:X 1)(x2:X 2)(hG:OP w 1 (Sg .gamma) 294)(hU:OP w 2 (Sg .unary) 294):
  Pm prog 55 [ptr rb 0] w λv w'=>∃k x,v= .tuple #[ptr k 0,I 0]/\w.heap.size<=k/\w.heap.size<=x/\UJ (z63 o rb sum) k x (λj=>X j\/j=x\/j=k) w'/\Kp (λj=>¬X j) w w':=by
 refine py (e:=[(0,_)]) func55 O ntmps55 O O$ qN O$ Qm O$ PK O$ qV (PY zcQ O O)$ Qg O$ Pn O$ qV (zho zcQ (λ_ h=>by cases h) rfl) ?_
 refine P5 zjM O (z6h hp (z63 o rb sum) hI hX) ?_
 rintro _ w1 ⟨k,x,rfl,ai,ak,hx,hk,bu,mM,az⟩
 refine SU O$ Qm O$ OB func55 O ?_
 have z1:=az.size
 have l1:=ai.lt
 have l2:=ak.lt
 refine⟨_,rfl,k,x,rfl,hk,hx,⟨hp,ai,ak,.inr (.inr O),.inr (.inl O),mM,λj hj=>?_,.inl x1,.inl x2,az.OA hG (λe=>e x1),az.OA hU (λe=>e x2)⟩,az⟩
 rcases hj with e|e| e
 ·have:=hX j e;omega
 ·omega
 ·omega
end
theorem zd0 {n each:Nat}(he:1<=each):max (1:Int) (((n:Int)+(each:Int)-1) / (each:Int))=((VE n each:Nat):Int):=by
 unfold VE
 rw[show(n:Int)+(each:Int)-1=((n+each-1:Nat):Int) by omega]
 have h:((n+each-1:Nat):Int) / (each:Int)=(((n+each-1) / each:Nat):Int):=rfl
 rw[h]
 generalize (n+each-1) / each=q
 omega
section
variable {w w':World}{Q:Ra}{txt:Int->OI}{vb width st each n:Nat}{xs:List Nat}
abbrev shV (n width each:Nat):Value:= .agg #[I (n:Int),I (width:Int),I (each:Int)]
def YM (n width each:Nat)(he:1<=each/\each<=512)(hn:n<=4194304)(w:World):Pm prog 57 [shV n width each] w λv w'=>v=I (VE n each:Int)/\Ext w w':=by
 refine py (e:=[(0,_)]) func57 O ntmps57 O O$ qN O$ OJ O O (R4 O (cs:=[I (n:Int),I (width:Int),I (each:Int)]) O) ?_
 rintro _ w1 ⟨b1,rfl,bL,ad,ai⟩
 refine QS O$ OW z3k O$ qV (OM U3 O O ai O)$ OW Yr O$ qV (OM U3 O O ai O)$ PS O$ Ro O$ OW Yr O$ qV (OM U3 O O ai O)$ qV (WY O O (by omega))$ qV (yma O O)$ OV O ?_
 rw[zd0 he.1]
 refine OB func57 O ?_
 exact⟨_,rfl,rfl,ad⟩
def z1b (n width each x:Nat)(hw:width=1\/width=2\/width=4\/width=8)(hx:x<2^(8*width))(w:World):Pm prog 60 [shV n width each,OY x] w λv w'=>v= .bool true/\Ext w w':=by
 refine py (e:=[(0,_),(1,_)]) func60 O ntmps60 O O$ qN O$ OJ O O (R4 O (cs:=[I (n:Int),I (width:Int),I (each:Int)]) O) ?_
 rintro _ w1 ⟨b1,rfl,bL,ad,ai⟩
 refine QS O$ OW VW O$ qV (OM U3 O O ai O) ?_
 by_cases h8:width=8
 ·refine Rg O$ Rz$ ON O$ QL$ QL$ QL$ QX O$ OV O$ OB func60 O ?_;exact⟨_,rfl,rfl,ad⟩
 ·have Mt:8*width<=32:=by omega
  have hp:1*2^(8*width)%18446744073709551616=2^(8*width):=by
   have:=Nat.pow_le_pow_right (show 0<2 by decide) Mt;rw[Nat.one_mul,Nat.mod_eq_of_lt (by omega)]
  refine Rg O$ PH$ Pa O$ OW VW O$ qV (OM U3 O O ai O)$ qV (Yb O O (by omega)) ?_;rw[show(8:Int)*(width:Int)=((8*width:Nat):Int) by omega];refine qV (Rf (8*width) (2^(8*width)) O O (by omega) O) ?_;rw[hp]
  generalize 2^(8*width)=P at hx⊢
  refine Qw O$ Rz$ PM O$ OV O$ OB func60 O ?_;exact⟨_,rfl,rfl,ad⟩
def XT (n width each x:Nat)(hw:width<=8)(hx:x<18446744073709551616)(w:World):Pm prog 62 [shV n width each,OY x] w λv w'=>v=S (Vn width x)/\Ext w w':=by
 have fh:maxLen=9223372036854775807:=rfl
 refine py (e:=[(0,_),(1,_)]) func62 O ntmps62 O O$ qN O$ OJ O O (R4 O (cs:=[I (n:Int),I (width:Int),I (each:Int)]) O) ?_
 rintro _ w0 ⟨b0,rfl,zD,jY,jR⟩
 refine QS O$ OW VW O$ qV (OM U3 O O jR O)$ OJ O O (pmk (c:=width) (n:=width) SG Ye O O O (by omega) (by omega) (by omega)) ?_
 rintro _ w1 ⟨b1,rfl,⟨bL,ad,ai⟩,-⟩
 refine OV O$ PK O$ Rs SG O$ ON O$ OC$ OE ?_
 rw[<-z2r x width] at ai
 have l0:=jR.lt
 refine Rr (α:=Nat) (0) (λk=>[(1,OY x),(2,ptr b0 0),(5,.slice (some ⟨b1,0,none⟩) width width),(11,I (width:Int)),(12,I (k:Int))]) (λk w'=>k<=width/\OP w' b1 (z1u x width k) 5/\OP w' b0 [I (n:Int),I (width:Int),I (each:Int)] 141/\Ext w0 w') (λk=>width-k) ?hI ?hround
 case hI=>exact⟨by omega,ai,ad.OA jR,ad⟩
 case hround=>
  rintro k w2 ⟨hk,ak,Am,ae⟩ ih
  try dsimp only
  refine qN O$ Qw O$ OC$ An$ OQ O (λaS=>?_)$ λaS=>?_
  ·have FH:k<width:=by omega
   refine OD$ QA$ Pn O$ OV O$ OK O$ Pa O$ ON O$ OW VW O$ qV (OM U3 O O Am O)$ Ro O$ ON O$ Ro O$ qV (Yb O O (by omega)) ?_;rw[show(8:Int)*(((width:Int)-1)-(k:Int))=((8*(width-1-k):Nat):Int) from by omega];refine qV (Uw (8*(width-1-k)) (2^(8*(width-1-k))) O O (by simp only[IntKind.bits];omega) O) ?_;refine qV (zdq O Rt U5)$ qV (PR SG Ye O O (by omega))$ OT O (QG Ye O O O ak (by simp;omega)) ?_;rintro w3 ⟨ar,av⟩;rw[z5r x width k FH] at ar;refine OC$ Oz$ OK O$ PS O$ ON O$ OC ?_;exact(ih (k+1) w3 ⟨by omega,ar,av.OA Am (by omega),ae.It av (λi hi=>by rw[hi,bL];exact Nat.le_refl _)⟩ (by omega)).qb
  ·have:k=width:=by omega
   subst this;rw[z4B] at ak;refine OO O$ Pn O$ qV (z9m (l:=Vn k x) SG U5 U9 O ak (by rw[List.drop_zero];exact List.take_of_length_le (by rw[List.length_map,Qc];omega)) (by simp[Vn])) ?_;refine OV O$ OB func62 O ?_;exact⟨_,rfl,rfl,jY.trans ae⟩
def UP (h:Uk Q txt vb width st xs w):Pm prog 59 [ptr vb 0] w λv w'=>v=I 0/\w'=w:=by
 have hB:=h.cells
 refine py (e:=[(0,_)]) func59 O ntmps59 O O$ Qx O$ QA$ Pn O$ qV (PY Zd O O)$ OV O$ OL O$ Pn O$ Pq O$ OW z7W O$ qV (OM U4 O O hB O)$ OV O$ SH O$ Oz ?_
 refine Qx O$ OB func59 O ?_
 exact⟨_,rfl,rfl,rfl⟩
theorem z4A (h:Uk Q txt vb width st xs w){i:Nat}(hi:i<xs.length)(hn:Q.L.length<=4096):Pm prog 72 [ptr vb 0,I (i:Int)] w λv w'=>v= .tuple #[I ((st+i / (512 / width):Nat):Int),I ((i%(512 / width)*width:Nat):Int)]/\Ext w w':=by
 have hB:=h.cells
 have hg:=Ext.P4 w
 obtain⟨e1,e2,e3,e4,e5⟩:=h.e
 obtain⟨a1,a2,a3⟩:=h.at_ hi
 have oS:=h.n
 have hd:((i:Nat):Int) / ((512 / width:Nat):Int)=((i / (512 / width):Nat):Int):=rfl
 have hm:((i:Nat):Int)%((512 / width:Nat):Int)=((i%(512 / width):Nat):Int):=rfl
 have Fi:((i%(512 / width):Nat):Int)*(width:Int)=((i%(512 / width)*width:Nat):Int):=by rw[Int.natCast_mul]
 have lU:(st:Int)+((i / (512 / width):Nat):Int)=((st+i / (512 / width):Nat):Int):=by rw[Int.natCast_add]
 generalize i / (512 / width)=q at*
 generalize i%(512 / width)=r at*
 generalize 512 / width=each at*
 refine py (e:=[(0,_),(1,_)]) func72 O ntmps72 O O$ qN O$ Qm O$ An$ QV (λw'=>Ext w w') O$ OZ 0 O O (hg)$ OG 1 O (Q8 O) hg$ OG 2 O (Pr z0z O) hg$ OG 3 O (Pr QT O) hg$ qT 4 O (λ_ h=>OM U3 O O (h.OA hB) O) hg$ OZ 5 O O (hg)$ OZ 6 O O (hg)$ OG 7 O (Q8 O) hg$ OG 8 O (Pr S7 O) hg ?_
 refine OG 9 O (Pr Yr O) hg$ qT 10 O (λ_ h=>OM U3 O O (h.OA hB) O) hg$ OZ 13 O O (hg)$ OZ 14 O O (hg)$ OG 15 O (Q8 O) hg$ OG 16 O (Pr S7 O) hg$ OG 17 O (Pr Yr O) hg$ qT 18 O (λ_ h=>OM U3 O O (h.OA hB) O) hg$ OZ 20 O O (hg)$ OG 21 O (Q8 O) hg$ OG 22 O (Pr S7 O) hg$ OG 23 O (Pr VW O) hg$ qT 24 O (λ_ h=>OM U3 O O (h.OA hB) O) hg$ OG 11 O (WY O O (by omega)) hg ?_
 rw[hd]
 refine OG 12 O (UO O O (by omega)) hg$ OG 26 O (Rp O) hg ?_
 rw[lU]
 refine OG 19 O (yre O O (by omega)) hg ?_
 rw[hm]
 refine OG 25 O (Yb O O (by rw[Fi];omega)) hg ?_
 rw[Fi]
 refine OG 27 O (Rp O) hg$ qE$ Po.qb (e:=[(4,_),(5,_)]) ?_
 refine OB func72 O ?_
 exact⟨_,rfl,rfl,hg⟩
end
section
variable {w w':World}{Q:Ra}{txt:Int->OI}{K:Nat}{X:Nat->Prop}{vb width st n:Nat}{xs:List Nat}
def Uk.zkL (h:Uk Q txt vb width st xs w){i x:Nat}(hi:xs[i]? =some x):x<2^(8*width)/\x<18446744073709551616:=by
 have h1:=(h.t i x hi).2
 have:=Nat.pow_le_pow_right (show 0<2 by decide) (show 8*width<=64 by have:=h.e;omega)
 exact⟨h1,by omega⟩
theorem z2l (hP:Sp Q txt K X w)(hX:∀b,X b->b<w.heap.size)(hK:K<1000000000000)(hv:Uk Q txt vb width st xs w)(eX:X vb){i x:Nat}(hi:xs[i]? =some x):
  Pm prog 44 [ptr vb 0,I (i:Int)] w λv w'=>v= .tuple #[OY x,I 0]/\Sp Q txt K X w'/\Kp (λb=>¬X b) w w':=by
 have ek:=hP.n
 have ao:i<xs.length:=by
  rcases Nat.lt_or_ge i xs.length with h| h
  ·exact h
  ·rw[List.getElem?_eq_none h] at hi;cases hi
 have BO:=z4A hv ao ek
 obtain⟨a1,a2,a3⟩:=hv.at_ ao
 have BQ:=(hv.t i x hi).1
 have mT:=(hv.zkL hi).1
 have ff:=hP.z1n (x:=((st+i / (512 / width):Nat):Int)) (Int.natCast_nonneg _) (Int.ofNat_lt.2 a1)
 have oS:=hv.n
 have Ob:=hv.e.2.2.2.2
 have oT:∀w1,Ext w w1->Pm prog 68 [ptr Q.s 0,I ((st+i / (512 / width):Nat):Int)] w1 λv w'=>v= .tuple #[S (txt ((st+i / (512 / width):Nat):Int)),I 0]/\Sp Q txt K X w'/\Kp (λb=>¬X b) w1 w':=λw1 ad=>(hP.ext' ad).read (λb hb=>by have:=hX b hb;have:=ad.size;omega) hK (Int.natCast_nonneg _) (Int.ofNat_lt.2 a1)
 generalize i / (512 / width)=q at*
 generalize i%(512 / width)=r at*
 generalize ho:r*width=o at*
 obtain⟨t,ht⟩:∃t,txt ((st+q:Nat):Int)=t:=⟨_,rfl⟩
 rw[ht] at BQ ff oT
 have hB:=hv.cells
 refine py (e:=[(0,_),(1,_)]) func44 O ntmps44 O O$ qN O$ Qm O$ PK O$ P5 zcF O (UP hv) ?_
 rintro _ w ⟨rfl,rfl⟩
 refine QW O$ QE O$ Qg O$ PK O$ Qw O$ PH$ Pa O$ ON O$ Pq O$ OW S7 O$ OW z3k O$ qV (OM U3 O O hB O)$ U8 O$ PH ?_
 refine PM O$ Qg O$ Qt O$ P5 zhb O (BO) ?_
 rintro _ w1 ⟨rfl,ad⟩
 have ai:=ad.OA hB
 refine ON O$ SU O$ Qm O$ Po.qb (e:=[(0,_),(4,_),(5,_),(7,_),(8,_)]) ?_
 refine Pn O$ Pq O$ OW WL O$ qV (OM XH O O ai O)$ ON O$ P5 zcw O (oT w1 ad) ?_
 rintro _ w2 ⟨rfl,fd,am⟩
 have ak:=am.OA ai (λe=>e eX)
 refine ON O$ SU O$ Qm O$ PK O$ QE O$ Qg O$ Qx O$ An$ Qt O$ Pa O$ Pq O$ OW S7 O$ OW VW O$ qV (OM U3 O O ak O) ?_
 refine PS O ?_
 rw[show(o:Int)+(width:Int)=((o+width:Nat):Int) by omega]
 refine qV (zka (m:=o) (n:=o+width) U9 O O O (by omega)) ?_
 rw[show o+width-o=width by omega,BQ]
 have eL:=Qc width x
 obtain⟨s,hs⟩:∃s,Vn width x=s:=⟨_,rfl⟩
 have jv:Pz (P7 s)=x:=by rw[<-hs];exact z36 mT
 rw[hs] at eL⊢
 refine OJ O O (zco U9 SG U5 O) ?_
 rintro _ w3 ⟨b7,c7,rest,rfl,⟨mg,ah,ar⟩,DT⟩
 refine Rs SG O$ ON O$ OC$ Po.qb (e:=[(4,_),(5,_),(11,_),(58,_),(59,_),(60,_)]) ?_
 refine OE$ Rr (α:=Nat) (0) (λi=>[(11,OY (Pz (P7 (s.take i)))),(58,.slice (some ⟨b7,0,none⟩) s.length c7),(59,I (s.length:Int)),(60,I (i:Int))]) (λi w'=>w'=w3/\i<=s.length) (λi=>s.length-i) ?hI ?hround
 case hI=>exact⟨rfl,Nat.zero_le _⟩
 case hround=>
  rintro i w4 ⟨rfl,hi⟩ ih
  try dsimp only
  refine qN O$ Qw O$ OC$ An$ OQ O (λh0=>?_)$ λh0=>?_
  ·obtain⟨c,hc⟩:∃c,s[i]? =some c:=⟨_,List.getElem?_eq_getElem (by omega)⟩;have fL:=c.toNat_lt;have lU:=z1x hc
   have aS:Pz (P7 (s.take i))<72057594037927936:=by
    have h1:=R1 (P7 (s.take i));rw[bitsT_length,List.length_take] at h1;have h2:2^(8*min i s.length)<=2^56:=Nat.pow_le_pow_right (by decide) (by omega);omega
   have bj:w4.cell? ⟨b7,0+i*1,none⟩=some (Tu c):=by
    rw[ar.cell,Nat.zero_add,Nat.mul_one,List.getElem?_append_left (by rw[List.length_map];omega),List.getElem?_map,hc];rfl
   refine OD$ QA$ qN O$ qV (PR SG Ye O O (by omega))$ qV (Ps U5 O O bj) ?_
   generalize Pz (P7 (s.take i))=q at lU aS
   refine OV O$ R6 O$ qV (Rf 8 256 O O (by decide) O)$ ON O$ qV ((zby O U5 Rt (by decide)))$ qV (z1a O O (by omega) (by omega)) ?_
   have pz:(q*256%18446744073709551616 |||c.toNat)=Pz (P7 (s.take (i+1))):=by
    rw[lU,Nat.mod_eq_of_lt (by omega),Nat.mul_comm q];exact(Nat.two_pow_add_eq_or_of_lt (i:=8) fL q).symm
   rw[pz];refine OV O$ Oz$ OK O$ PS O$ ON O$ OC ?_;exact(ih (i+1) _ ⟨rfl,by omega⟩ (by omega)).qb
  ·have dl:i=s.length:=by omega
   subst dl;rw[List.take_length,jv];refine OO O$ Pn O$ Qm O$ OB func44 O ?_;exact⟨_,rfl,rfl,fd.ext' ah,(ad.kp.trans am).trans ah.kp⟩
theorem Uh (hP:Sp Q txt K X w)(hX:∀b,X b->b<w.heap.size)(hK:K<1000000000000)(hv:Uk Q txt vb width st xs w)(eX:X vb){i x:Nat}(hi:i<xs.length)(hx:x<2^(8*width)):
  Pm prog 99 [ptr vb 0,I (i:Int),OY x] w λv w'=>v=I 0/\VcW Q txt (K+1) X vb width st (xs.set i x) w w':=by
 have ek:=hP.n
 have BO:∀w1,Ext w w1->Pm prog 72 [ptr vb 0,I (i:Int)] w1 λv w'=>v= .tuple #[I ((st+i / (512 / width):Nat):Int),I ((i%(512 / width)*width:Nat):Int)]/\Ext w1 w':=λw1 ad=>z4A (hv.ext ad) hi ek
 obtain⟨a1,a2,a3⟩:=hv.at_ hi
 obtain⟨e1,e2,e3,e4,e5⟩:=hv.e
 have mT:x<18446744073709551616:=by
  have:=Nat.pow_le_pow_right (show 0<2 by decide) (show 8*width<=64 by omega);omega
 have ff:=hP.z1n (x:=((st+i / (512 / width):Nat):Int)) (Int.natCast_nonneg _) (Int.ofNat_lt.2 a1)
 have oS:=hv.n
 obtain⟨t,ht⟩:∃t,txt ((st+i / (512 / width):Nat):Int)=t:=⟨_,rfl⟩
 have gV:=hv.t.set (by omega) hx hi ht (by rw[ht] at ff;omega)
 have oT:∀w1,Ext w w1->Pm prog 68 [ptr Q.s 0,I ((st+i / (512 / width):Nat):Int)] w1 λv w'=>v= .tuple #[S (txt ((st+i / (512 / width):Nat):Int)),I 0]/\Sp Q txt K X w'/\Kp (λb=>¬X b) w1 w':=λw1 ad=>(hP.ext' ad).read (λb hb=>by have:=hX b hb;have:=ad.size;omega) hK (Int.natCast_nonneg _) (Int.ofNat_lt.2 a1)
 have ip:(xs.set i x).length=xs.length:=by simp
 have hB:=hv.cells
 have nA:=hv.wd
 have cm:=hv.fit
 rw[ht] at ff oT
 have G4:∀w',OP w' vb [I (xs.length:Int),I (width:Int),I ((512 / width:Nat):Int),I (st:Int),I (VE xs.length (512 / width):Int),ptr Q.s 0,.bool false] 143->Uk Q (ZB txt ((st+i / (512 / width):Nat):Int) (some (t.take (i%(512 / width)*width)++Vn width x++t.drop (i%(512 / width)*width+width)))) vb width st (xs.set i x) w':=λw' hb=>⟨by rw[ip];exact hb,nA,gV,by rw[ip];exact oS,by rw[ip];exact cm⟩
 clear gV
 have nC:st+i / (512 / width)<Q.L.length:=a1
 generalize i / (512 / width)=q at*
 generalize i%(512 / width)=r at*
 generalize ho:r*width=o at*
 have eL:=Qc width x
 have ri:(t.take o++Vn width x++t.drop (o+width)).length=512:=by rw[List.length_append,List.length_append,List.length_take,List.length_drop,eL];omega
 refine py (e:=[(0,_),(1,_),(2,_)]) func99 O ntmps99 O O$ Qx O$ PK O$ P5 zcF O (UP hv) ?_
 rintro _ w ⟨rfl,rfl⟩
 refine QW O$ QE O$ Qg O$ PK O$ Qw O$ PH$ Pa O$ ON O$ Pq O$ OW S7 O$ OW z3k O$ qV (OM U3 O O hB O)$ U8 O$ PH ?_
 refine PM O$ Pa O$ Pq O$ OW S7 O$ qV (Pp zac O YU O (OP.cells (n:=3) hB (news:=[_,_,_]) O) O)$ ON O$ P5 zjB O (z1b xs.length width (512 / width) x nA hx w) ?_
 rintro _ w1 ⟨rfl,ad⟩
 have ai:=ad.OA hB
 refine qV ((RZ O))$ PM O$ OC$ Po.qb (e:=[(0,_),(1,_),(2,_),(6,_),(36,_)]) ?_
 refine SH O$ Qt O$ P5 zhb O (BO w1 ad) ?_
 rintro _ w2 ⟨rfl,ae⟩
 have ak:=ae.OA ai
 refine ON O$ SU O$ SA O$ QW O$ Pq O$ OW WL O$ qV (OM XH O O ak O)$ ON O$ P5 zcw O (oT w2 (ad.trans ae)) ?_
 rintro _ w3 ⟨rfl,gd,av⟩
 have ar:=av.OA ak (λe=>e eX)
 have ag:=Ext.P4 w3
 have ct:Kp (λb=>¬X b) w w3:=(ad.trans ae).kp.trans av
 have aS:(t.take o).length=o:=by rw[List.length_take];omega
 have Mu:(t.drop (o+width)).length=512-(o+width):=by rw[List.length_drop];omega
 refine ON O$ SU O$ Qm O$ PK O$ QE O$ OC$ Po.qb (e:=[(0,_),(2,_),(6,_),(8,_),(9,_),(10,_),(11,_),(53,_)]) ?_
 refine SH O$ An$ QV (λw'=>Kp (λb=>¬X b) w3 w') O$ OZ 0 O O (ag.kp)$ OG 1 O (Q8 O) (ag.kp)$ OG 2 O (Pr WL O) (ag.kp)$ qT 3 O (λ_ h=>OM XH O O (h.OA ar (λe=>e eX)) O) (ag.kp)$ OZ 4 O O (ag.kp)$ OZ 5 O O (ag.kp)$ OZ 6 O O (ag.kp)$ OG 7 O (z5z U9 O O (by omega)) (ag.kp)$ OZ 8 O O (ag.kp)$ OG 9 O (Q8 O) (ag.kp)$ OG 10 O (Pr S7 O) (ag.kp) ?_
 refine qT 11 O (λ_ hS=>Pp zac O YU O (OP.cells (n:=3) (hS.OA ar (λe=>e eX)) (news:=[_,_,_]) O) O) (ag.kp)$ OZ 12 O O (ag.kp)$ OZ 15 O O (ag.kp)$ OZ 16 O O (ag.kp)$ OZ 17 O O (ag.kp)$ OG 18 O (Q8 O) (ag.kp)$ OG 19 O (Pr S7 O) (ag.kp)$ OG 20 O (Pr VW O) (ag.kp)$ qT 21 O (λ_ h=>OM U3 O O (h.OA ar (λe=>e eX)) O) (ag.kp)$ OG 22 O (UO O O (by omega)) (ag.kp) ?_
 rw[show(o:Int)+(width:Int)=((o+width:Nat):Int) by omega]
 refine OG 23 O (z0T U9 O O (by omega)) (ag.kp)$ RT 13 O zfN O (XT _ _ _ x e5 mT _) ?_
 rintro _ w4 ⟨rfl,aA⟩
 refine⟨ag.kp.trans aA.kp,?_⟩
 have dA:=ag.trans aA
 refine OG 14 O (YH O O (by first|omega|(simp;done)|(simp;omega))) (ag.kp.trans aA.kp) ?_
 refine OG 24 O (YH O O (by rw[List.length_append,aS,eL,Mu];omega)) (ag.kp.trans aA.kp) ?_
 refine RT 25 O zfr O ((gd.ext' dA).write (λb hb=>by have:=hX b hb;have:=ct.size;have:=dA.size;omega) hK (no:=((st+q:Nat):Int)) (by omega) (by omega) _ ri) ?_
 rintro _ w5 ⟨rfl,i5,aj⟩
 refine⟨dA.kp.trans aj,?_⟩
 have fG:Kp (λb=>¬X b) w3 w5:=dA.kp.trans aj
 refine OG 26 O (Rp O) (dA.kp.trans aj)$ qE$ Po.qb (e:=[(6,_)]) ?_
 refine OB func99 O ?_
 exact⟨_,rfl,rfl,_,i5,G4 w5 (fG.OA ar (λe=>e eX)),λy hy=>Rn _ _ (by rw[ip] at hy;omega),ct.trans fG⟩
end
section
variable {w w':World}{Q:Ra}{txt:Int->OI}{K:Nat}{X:Nat->Prop}{vb width st each n:Nat}{xs:List Nat}
theorem z4s (hP:Sp Q txt K X w)(hX:∀b,X b->b<w.heap.size)(hK:K<=900000000000)(hv:Uk Q txt vb width st xs w)(eX:X vb){f:Nat}(qh:CF prog f)(caps:List Value)(OA:Nat->OI)(aI:∀b,(OA b).length<=512)
  (hf:∀(b:Nat) (w1:World),b<VE xs.length (512 / width)->Kp (λb=>¬X b) w w1->Pm prog f ([I (b:Int)]++caps) w1 λv w2=>v=S (OA b)/\Ext w1 w2):
  Pm prog 63 [ptr vb 0,.func (.func f) #[] caps.toArray] w λv w'=>v=I 0/\∃txt',Sp Q txt' (K+VE xs.length (512 / width)) X w'/\Kp (λb=>¬X b) w w'/\(∀b,b<VE xs.length (512 / width)->txt' ((st+b:Nat):Int)=OA b++zeros (512-(OA b).length))/\(∀y:Int,y<(st:Int)\/(st:Int)+(VE xs.length (512 / width):Int)<=y->txt' y=txt y):=by
 have fh:maxLen=9223372036854775807:=rfl
 have ek:=hP.n
 have hB:=hv.cells
 have cm:=hv.fit
 have oS:=hv.n
 obtain⟨e1,e2,e3,e4,e5⟩:=hv.e
 have wO:=YM xs.length width (512 / width) ⟨by omega,e2⟩ oS w
 obtain⟨N,hN⟩:∃N,VE xs.length (512 / width)=N:=⟨_,rfl⟩
 rw[hN] at hB cm wO hf⊢
 refine py (e:=[(0,_),(1,_)]) func63 O ntmps63 O O$ Qx O$ PK O$ Pq O$ OW S7 O$ qV (Pp zac O YU O (OP.cells (n:=3) hB (news:=[_,_,_]) O) O)$ P5 zjj O (wO) ?_
 rintro _ w1 ⟨rfl,ad⟩
 refine ON O$ OC$ OE$ Rr (α:=Nat) (0) (λk=>[(0,ptr vb 0),(1,.func (.func f) #[] caps.toArray),(12,I (N:Int)),(13,I (k:Int))]) (λk w'=>k<=N/\Kp (λb=>¬X b) w w'/\∃txt',Sp Q txt' (K+k) X w'/\(∀b,b<k->txt' ((st+b:Nat):Int)=OA b++zeros (512-(OA b).length))/\(∀y:Int,y<(st:Int)\/(st:Int)+(k:Int)<=y->txt' y=txt y)) (λk=>N-k) ?hI ?hround
 case hI=>exact⟨Nat.zero_le _,ad.kp,txt,hP.ext' ad,λb hb=>by omega,λy _=>rfl⟩
 case hround=>
  rintro k w2 ⟨hk,am,txt2,fd,IU,pR⟩ ih;have ak:=am.OA hB (λe=>e eX)
  try dsimp only
  refine qN O$ Qw O$ OC$ An$ OQ O (λh0=>?_)$ λh0=>?_
  ·have G5:k<N:=by omega
   refine OD$ QA$ Pn O$ QS O$ Pa O$ Qp O O (RN qh O O) (hf k w2 G5 am) ?_;rintro _ w3 ⟨rfl,ah⟩;have ar:=ah.OA ak;have gd:=fd.ext' ah;have ag:=Ext.P4 w3;have hl:=aI k;have ct:=am.trans ah.kp;obtain⟨t,ht⟩:∃t,OA k=t:=⟨_,rfl⟩;rw[ht] at hl⊢;have hz:(zeros (512-t.length)).length=512-t.length:=by simp[zeros]
   have cD:=gd.size;have zW:∀w4,Ext w3 w4->Pm prog 49 [ptr Q.s 0] w4 λv w'=>v=I 512/\w'=w4:=λw4 hx=>(gd.ext' hx).size;refine OV O$ An$ QV (λw'=>Kp (λb=>¬X b) w3 w') O$ OZ 0 O O (ag.kp)$ OG 1 O (Q8 O) (ag.kp)$ OG 2 O (Pr WL O) (ag.kp)$ qT 3 O (λ_ h=>OM XH O O (h.OA ar (λe=>e eX)) O) (ag.kp)$ OZ 4 O O (ag.kp)$ OG 5 O (Q8 O) (ag.kp)$ OG 6 O (Pr z0z O) (ag.kp)$ OG 7 O (Pr QT O) (ag.kp)$ qT 8 O (λ_ h=>OM U3 O O (h.OA ar (λe=>e eX)) O) (ag.kp)$ OZ 9 O O (ag.kp)$ OG 10 O (UO O O (by omega)) (ag.kp) ?_;refine OZ 11 O O (ag.kp)$ OZ 12 O O (ag.kp)$ OG 13 O (Q8 O) (ag.kp)$ OG 14 O (Pr WL O) (ag.kp)$ qT 15 O (λ_ h=>OM XH O O (h.OA ar (λe=>e eX)) O) (ag.kp)$ OZ 17 O O (ag.kp)$ OG 18 O (Wg U9 O) (ag.kp)$ RT 16 O z5b O (zW _ ag) ?_;rintro _ w4 ⟨rfl,rfl⟩;refine⟨ag.kp,?_⟩;refine OG 19 O (Xw O O (by omega)) (ag.kp) ?_;rw[show(512:Int)-(t.length:Int)=((512-t.length:Nat):Int) by omega];refine qO 20$ XJ (i:=20) O O O (pmk (c:=512-t.length) (n:=512-t.length) SG Ye O O O (by omega) (by omega) (by omega)) ?_;rintro _ w4 ⟨b4,rfl,⟨fZ,aA,aK⟩,-⟩;refine⟨ag.kp.trans aA.kp,?_⟩;have dA:=ag.trans aA;refine qO 21$ ziS (i:=21) O O O (z9m (l:=zeros (512-t.length)) SG U5 U9 O aK (z08 _) hz) (dA.kp)$ OG 22 O (YH O O (by rw[hz];omega)) (dA.kp) ?_;have ri:(t++zeros (512-t.length)).length=512:=by rw[List.length_append,hz];omega
   rw[show(st:Int)+(k:Int)=((st+k:Nat):Int) by omega];refine RT 23 O zfr O ((gd.ext' dA).write (λb hb=>by have:=hX b hb;have:=ct.size;have:=dA.size;omega) (by omega) (no:=((st+k:Nat):Int)) (by omega) (by omega) _ ri) ?_;rintro _ w5 ⟨rfl,i5,aj⟩;refine⟨dA.kp.trans aj,?_⟩;have fG:Kp (λb=>¬X b) w3 w5:=dA.kp.trans aj;refine OG 24 O (Rp O) (dA.kp.trans aj)$ qE$ Pn O$ QE O$ Qg O$ Oz$ OK O$ PS O$ ON O$ OC ((ih (k+1) w5 ⟨by omega,ct.trans fG,_,i5,λb hb=>?_,λy hy=>?_⟩ (by omega)).qb)
   ·by_cases e:b=k
    ·subst e;rw[S3,ht];rfl
    ·rw[Rn _ _ (by omega)];exact IU b (by omega)
   ·rw[Rn _ _ (by omega)];exact pR y (by omega)
  ·have G5:k=N:=by omega
   subst G5;refine OO O$ Qx O$ OB func63 O ?_;exact⟨_,rfl,rfl,txt2,fd,am,IU,pR⟩
theorem z4x (l:OI):∀n,((List.replicate n l).flatten).length=n*l.length
 |0=>by simp
 |n+1=>by rw[List.replicate_succ,List.flatten_cons,List.length_append,z4x l n,Nat.add_mul];omega
def z3R {bf:Nat}{s:OI}(b:Nat)(hB:OP w bf [S s] 9):Pm prog 64 ([I (b:Int)]++[ptr bf 0]) w λv w2=>v=S s/\Ext w w2:=by
 show Pm _ _ [I (b:Int),ptr bf 0] _ _
 refine py (e:=[(0,_),(1,_)]) func64 O ntmps64 O O$ qN O$ QS O$ qV (OM U9 O O hB O)$ OV O$ OB func64 O ?_
 exact⟨_,rfl,rfl,Ext.refl _⟩
theorem Y1 (hP:Sp Q txt K X w)(hX:∀b,X b->b<w.heap.size)(hK:K<=900000000000)(hv:Uk Q txt vb width st xs w)(eX:X vb){x:Nat}(hx:x<2^(8*width)):
  Pm prog 34 [ptr vb 0,OY x] w λv w'=>v=I 0/\VcW Q txt (K+VE xs.length (512 / width)) X vb width st (List.replicate xs.length x) w w':=by
 have hB:=hv.cells
 have oS:=hv.n
 obtain⟨e1,e2,e3,e4,e5⟩:=hv.e
 have mT:x<18446744073709551616:=by
  have:=Nat.pow_le_pow_right (show 0<2 by decide) (show 8*width<=64 by omega);omega
 have eL:=Qc width x
 have iH:(List.replicate (512 / width) (Vn width x)).flatten.length=512:=by
  rw[z4x,eL];exact e3
 refine py (e:=[(0,_),(1,_)]) func34 O ntmps34 O O$ Qx O$ PK O$ P5 zcF O (UP hv) ?_
 rintro _ w ⟨rfl,rfl⟩
 refine QW O$ QE O$ Qg O$ PK O$ Pq O$ OW S7 O$ qV (Pp zac O YU O (OP.cells (n:=3) hB (news:=[_,_,_]) O) O)$ ON O$ P5 zjB O (z1b xs.length width (512 / width) x hv.wd hx w) ?_
 rintro _ w1 ⟨rfl,ad⟩
 have ai:=ad.OA hB
 have bh:=Ext.P4 w1
 refine qV ((RZ O))$ Qg O$ An$ PD (λe' w'=>∃bf,e'=[(0,ptr vb 0),(6,ptr bf 0)]/\OP w' bf [S (List.replicate (512 / width) (Vn width x)).flatten] 9/\Ext w1 w'/\w1.heap.size<=bf) ?bE$ λbE=>?cM
 case bE=>
  rintro e' w2 ⟨bf,rfl,du,ae,G6⟩;have aG:=ad.trans ae;have nJ:=ad.size;have fd:Sp Q txt K (λb=>X b\/b=bf) w2:=hP.ext aG (λb e=>e.imp id λe=>by omega);have lbf:=du.lt;have hw:=z4s fd (λb hb=>by rcases hb with e|e;(have:=hX b e;have:=aG.size;omega);omega) hK (hv.ext aG) (.inl eX) zkR [ptr bf 0] (λ_=>(List.replicate (512 / width) (Vn width x)).flatten) (λ_=>by rw[iH];omega) (λb w3 _ av=>z3R b (av.OA du (λe=>e (.inr O))));refine Pn O$ qV (ymf (first:=[]) (caps:=[.tmp 6]) O O)$ P5 zkz O (hw) ?_;rintro _ w3 ⟨rfl,txt3,gd,av,qK,m8⟩;refine OV O$ OB func34 O ?_;have dy:Kp (λb=>¬X b) w1 w3:=ae.kp.trans (av.OH λb e e2=>e (.inl e2));have ip:(List.replicate xs.length x).length=xs.length:=List.length_replicate;refine⟨_,rfl,rfl,txt3,gd.less (λb e=> .inl e),⟨?_,hv.wd,VcT.fill hx (by omega) (λi hi=>?_),by rw[ip];exact oS,by rw[ip];exact hv.fit⟩,λy hy=>m8 y (by rw[ip] at hy;exact hy),ad.kp.trans dy⟩
  ·rw[ip];exact(ad.kp.trans dy).OA hB (λe=>e eX)
  ·have uV:=z35 (each:=512 / width) (by omega) hi;exact⟨_,qK _ uV⟩
 case cM=>
  have ay:=bh;have bX:=ay.size;refine P9 [13] (λw'=>Ext w1 w') (by kernel_rfl) O$ PQ 0 O O (ay)$ Pl 1 O (Q8 O) ay$ Pl 2 O (Pr S7 O) ay$ qL 3 O (λ_ h=>Pp zac O YU O (OP.cells (n:=3) (h.OA ai) (news:=[_,_,_]) O) O) ay$ PQ 4 O O (ay)$ PQ 6 O O (ay)$ Pl 7 O (Q8 O) ay$ Pl 8 O (Pr S7 O) ay$ Pl 9 O (Pr Yr O) ay$ qL 10 O (λ_ h=>OM U3 O O (h.OA ai) O) ay$ XL (i:=5) (j:=12) (by kernel_rfl) ?_ ?_
  ·refine RV (i:=5) O O O (yc zfN O) (XT _ _ _ x e5 mT _) ?_;rintro _ w5 ⟨rfl,aU⟩;refine⟨ay.trans aU,?_⟩;have ay:=ay.trans aU
   try have aX:=aU.OA aX
   have bX:=Nat.le_trans bX aU.size;refine XL (i:=11) (j:=12) (by kernel_rfl) ?_ ?_
   ·refine RV (i:=11) O O O (yc zf4 O) (Zl (Vn width x) (512 / width) (by omega) (by omega) _) ?_;rintro _ w11 ⟨rfl,aV⟩;refine⟨ay.trans aV,?_⟩;have ay:=ay.trans aV
    try have aX:=aV.OA aX
    have bX:=Nat.le_trans bX aV.size;refine R9 (i:=12) (by kernel_rfl)$ Qo (i:=12) O O O (Ry (cs:=[_]) ti9 O) ?_;rintro _ w12 ⟨bf,rfl,G6,aJ,aX⟩;refine⟨ay.trans aJ,?_⟩;have ay:=ay.trans aJ;have oU:w1.heap.size<=bf:=by omega
    have bX:=Nat.le_trans bX aJ.size;refine Tt [13]$ qO 13$ PE (i:=13) O O (QG ti9 O O O aX (by simp)) ?_;rintro w13 ⟨bV,dy⟩;refine⟨trivial,?_⟩;refine qE$ Po.qb (e:=[(0,_),(4,_),(6,_)]) ?_;exact(bE _ _ ⟨bf,rfl,bV,ay.It dy (λj e=>by omega),oU⟩).qb
   ·refine Qo (i:=12) O O O (Ry (cs:=[_]) ti9 O) ?_;rintro _ w12 ⟨bf,rfl,G6,aJ,aX⟩;refine⟨ay.trans aJ,?_⟩;have ay:=ay.trans aJ;have oU:w1.heap.size<=bf:=by omega
    have bX:=Nat.le_trans bX aJ.size;refine R9 (i:=11) (by kernel_rfl)$ RV (i:=11) O O O (yc zf4 O) (Zl (Vn width x) (512 / width) (by omega) (by omega) _) ?_;rintro _ w11 ⟨rfl,aV⟩;refine⟨ay.trans aV,?_⟩;have ay:=ay.trans aV
    try have aX:=aV.OA aX
    have bX:=Nat.le_trans bX aV.size;refine Tt [13]$ qO 13$ PE (i:=13) O O (QG ti9 O O O aX (by simp)) ?_;rintro w13 ⟨bV,dy⟩;refine⟨trivial,?_⟩;refine qE$ Po.qb (e:=[(0,_),(4,_),(6,_)]) ?_;exact(bE _ _ ⟨bf,rfl,bV,ay.It dy (λj e=>by omega),oU⟩).qb
  ·refine Qo (i:=12) O O O (Ry (cs:=[_]) ti9 O) ?_;rintro _ w12 ⟨bf,rfl,G6,aJ,aX⟩;refine⟨ay.trans aJ,?_⟩;have ay:=ay.trans aJ;have oU:w1.heap.size<=bf:=by omega
   have bX:=Nat.le_trans bX aJ.size;refine R9 (i:=5) (by kernel_rfl)$ RV (i:=5) O O O (yc zfN O) (XT _ _ _ x e5 mT _) ?_;rintro _ w5 ⟨rfl,aU⟩;refine⟨ay.trans aU,?_⟩;have ay:=ay.trans aU
   try have aX:=aU.OA aX
   have bX:=Nat.le_trans bX aU.size;refine R9 (i:=11) (by kernel_rfl)$ RV (i:=11) O O O (yc zf4 O) (Zl (Vn width x) (512 / width) (by omega) (by omega) _) ?_;rintro _ w11 ⟨rfl,aV⟩;refine⟨ay.trans aV,?_⟩;have ay:=ay.trans aV
   try have aX:=aV.OA aX
   have bX:=Nat.le_trans bX aV.size;refine Tt [13]$ qO 13$ PE (i:=13) O O (QG ti9 O O O aX (by simp)) ?_;rintro w13 ⟨bV,dy⟩;refine⟨trivial,?_⟩;refine qE$ Po.qb (e:=[(0,_),(4,_),(6,_)]) ?_;exact(bE _ _ ⟨bf,rfl,bV,ay.It dy (λj e=>by omega),oU⟩).qb
end
section
end
section
variable {w w':World}{Q:Ra}{txt:Int->OI}{K:Nat}{X:Nat->Prop}{vb width st each n:Nat}{xs:List Nat}
theorem z5E (hP:Sp Q txt K X w)(hX:∀b,X b->b<w.heap.size)(hv:Uk Q txt vb width st xs w)(eX:X vb)(dw:2<=st)(hc:∀i,st<=i->i<st+VE xs.length (512 / width)->Q.L[i]? =some true):
  Pm prog 40 [ptr vb 0] w λv w'=>v=I 0/\∃txt',Sp (Q.Qi (Qd Q.L st (VE xs.length (512 / width)) false)) txt' K X w'/\(∀y:Int,y<(st:Int)\/(st:Int)+(VE xs.length (512 / width):Int)<=y->txt' y=txt y)/\Kp (λb=>¬X b\/b=vb) w w':=by
 have hB:=hv.cells
 have cm:=hv.fit
 have kW:1<=VE xs.length (512 / width):=Nat.le_max_left _ _
 have hg:=Ext.P4 w
 have Mv:=(hP.ext' hg).zkp (λb hb=>by have:=hX b hb;have:=hg.size;omega) kW dw cm hc
 generalize VE xs.length (512 / width)=N at*
 refine py (e:=[(0,_)]) func40 O ntmps40 O O$ Qx O$ PK O$ P5 zcF O (UP hv) ?_
 rintro _ w ⟨rfl,rfl⟩
 refine QW O$ QE O$ Qg O$ An$ An$ QV (λw'=>Kp (λb=>¬X b) w w') O$ OZ 0 O O (hg.kp)$ OG 1 O (Q8 O) (hg.kp)$ OG 2 O (Pr WL O) (hg.kp)$ qT 3 O (λ_ h=>OM XH O O (h.OA hB (λe=>e eX)) O) (hg.kp)$ OZ 4 O O (hg.kp)$ OG 5 O (Q8 O) (hg.kp)$ OG 6 O (Pr z0z O) (hg.kp)$ qT 7 O (λ_ hS=>Pp Xm O QY O (OP.cells (n:=2) (hS.OA hB (λe=>e eX)) (news:=[_,_]) O) O) (hg.kp) ?_
 refine RT 8 O zkE O (Mv) ?_
 rintro _ w1 ⟨rfl,txt1,iy,nS,az⟩
 refine⟨hg.kp.trans az,?_⟩
 have dz:=hg.kp.trans az
 have ai:=dz.OA hB (λe=>e eX)
 refine OG 9 O (Rp O) (hg.kp.trans az)$ qE$ Pn O$ QE O$ Qg O$ Pn O$ Pq O$ OW z7W O$ OT O (QG UH O O O ai (by simp)) ?_
 rintro w2 ⟨ak,am⟩
 refine qM O$ OV O$ OB func40 O ?_
 exact⟨_,rfl,rfl,txt1,iy.own am (λb e=>by rw[e];exact eX),nS,(dz.OH λb e=> .inl e).trans (am.OH λb e=> .inr e)⟩
def VcT.any {txt:Int->OI}{st width each n:Nat}(he:1<=each)(hw:each*width<=512)(h:∀i,i<n->(txt ((st+i / each:Nat):Int)).length=512):∃xs:List Nat,xs.length=n/\VcT txt st width each xs:=by
 refine⟨(List.range n).map λi=>Pz (P7 (((txt ((st+i / each:Nat):Int)).drop (i%each*width)).take width)),by simp,λi x hx=>?_⟩
 rw[List.getElem?_map] at hx
 by_cases hi:i<n
 ·rw[List.getElem?_range hi] at hx;cases hx;have hl:=h i hi;have hm:(i%each+1)*width<=each*width:=Nat.mul_le_mul_right _ (Nat.mod_lt _ he);rw[Nat.add_mul,Nat.one_mul] at hm
  have aI:(((txt ((st+i / each:Nat):Int)).drop (i%each*width)).take width).length=width:=by
   rw[List.length_take,List.length_drop,hl];omega
  refine⟨?_,?_⟩
  ·have hb:=zcx (((txt ((st+i / each:Nat):Int)).drop (i%each*width)).take width);rw[aI] at hb;exact hb.symm
  ·have h1:=R1 (P7 (((txt ((st+i / each:Nat):Int)).drop (i%each*width)).take width));rw[bitsT_length,aI] at h1;exact h1
 ·rw[List.getElem?_eq_none (by simpa using hi)] at hx;cases hx
theorem zaj (hP:Sp Q txt K X w)(hX:∀b,X b->b<w.heap.size)(hK:K<=800000000000){a:Nat}(hp:Pre Q.L a)(n width:Nat)(hn:n<=4194304)(nA:width=1\/width=2\/width=4\/width=8)(cm:a+VE n (512 / width)<=Q.L.length):
  Pm prog 33 [ptr Q.s 0,I (n:Int),I (width:Int)] w λv w'=>∃vb txt',v= .tuple #[ptr vb 0,I 0]/\w.heap.size<=vb/\Sp (Q.Qi (Qd Q.L a (VE n (512 / width)) true)) txt' (K+VE n (512 / width)) (λb=>X b\/b=vb) w'/\Uk (Q.Qi (Qd Q.L a (VE n (512 / width)) true)) txt' vb width a (List.replicate n 0) w'/\(∀y:Int,y<(a:Int)\/(a:Int)+(VE n (512 / width):Int)<=y->txt' y=txt y)/\Kp (λb=>¬X b) w w':=by
 have kW:1<=VE n (512 / width):=Nat.le_max_left _ _
 have ek:=hP.n
 obtain⟨e1,e2,e3,e4,e5⟩:64<=512 / width/\512 / width<=512/\512 / width*width=512/\1<=width/\width<=8:=by
  rcases nA with e|e|e|e<;>subst e<;>decide
 have eP:(Qd Q.L a (VE n (512 / width)) true).length=Q.L.length:=PZ cm
 refine py (e:=[(0,_),(1,_),(2,_)]) func33 O ntmps33 O O$ qN O$ Qm O$ QA$ Pn O$ qV (PY XH O O)$ OV O$ OL O$ An$ PD (λe' w'=>w'=w/\e'=[(0,ptr Q.s 0),(1,I (n:Int)),(2,I (width:Int)),(15,.bool false)]) ?aq$ λaq=>?ey
 case aq=>
  rintro e' w' ⟨rfl,rfl⟩;refine SH O$ Oz$ Qt O$ ON O$ P5 z5b O (hP.size) ?_;rintro _ w' ⟨rfl,rfl⟩;refine ON O$ qV (WY O O (by omega)) ?_;rw[show(512:Int) / (width:Int)=((512 / width:Nat):Int) from rfl];refine qV (Sa (cs:=[_,_,_]) YU O zj6 O O)$ ON O$ qV (Sa (cs:=[_,_,_,_,_,_,_]) zhR O zhy O O)$ OJ O O (R4 O (cs:=[I (n:Int),I (width:Int),I ((512 / width:Nat):Int),I 0,I 0,ptr Q.s 0,.bool false]) O) ?_;rintro _ w1 ⟨vb,rfl,eX,ad,ai⟩;refine QS O$ Pa O$ Pq O$ OW S7 O$ qV (Pp zac O YU O (OP.cells (n:=3) ai (news:=[_,_,_]) O) O)$ P5 zjj O (YM n width (512 / width) ⟨by omega,e2⟩ hn _) ?_;rintro _ w2 ⟨rfl,ae⟩;have aG:=ad.trans ae;have ak:=ae.OA ai;have z1:=ad.size;have z2:=ae.size;have l1:=ai.lt;have fd:Sp Q txt K (λb=>X b\/b=vb) w2:=hP.ext aG (λb e=>e.imp id λe=>by omega)
  have fT:∀b,(X b\/b=vb)->b<w2.heap.size:=λb hb=>by
   rcases hb with e| e
   ·have:=hX b e;have:=aG.size;omega
   ·omega
  obtain⟨N,hN⟩:∃N,VE n (512 / width)=N:=⟨_,rfl⟩;rw[hN] at kW cm eP⊢;refine P5 ziN O (fd.take fT hp kW cm) ?_;rintro _ w3 ⟨rfl,gd,av⟩;have ar:=av.OA ak (λe=>e (.inr O));have z3:=av.size;refine ON O$ SU O$ OJ O O (Ry (cs:=[_,_]) QY O) ?_;rintro _ w4 ⟨b9,rfl,jb,aA,aK⟩;refine OT O (PG (news:=[I (a:Int),I (N:Int)]) QY O O O O aK (by simp)) ?_;rintro w5 ⟨aH,aj⟩;replace aH:OP w5 b9 [I (a:Int),I (N:Int)] 118:=aH;have cw:Ext w3 w5:=aA.It aj (λj e=>by omega);have cW:=cw.OA ar;have i5:=gd.ext' cw;refine OV O$ Po.qb (e:=[(0,_),(8,_),(9,_),(10,_)]) ?_;refine PK O$ QE O$ Qg O$ Pn O$ qV (Pp Xm O QY O (OP.cells (n:=2) aH (news:=[_,_]) O) O)$ Pq O$ OW z0z O$ OT O (PG (news:=[I (a:Int),I (N:Int)]) QY O O O O cW (by simp)) ?_;rintro w6 ⟨aT,aM⟩;replace aT:OP w6 vb [I (n:Int),I (width:Int),I ((512 / width:Nat):Int),I (a:Int),I (N:Int),ptr Q.s 0,.bool false] 143:=aT;have nD:=i5.own aM (λb e=> .inr e);have aI:(Q.Qi (Qd Q.L a N true)).L.length=Q.L.length:=eP
  obtain⟨xs,cE,BQ⟩:=VcT.any (txt:=txt) (st:=a) (width:=width) (each:=512 / width) (n:=n) (by omega) (by omega) (λi hi=>by
   have uV:=z35 (each:=512 / width) (by omega) hi;rw[hN] at uV
   generalize i / (512 / width)=q at uV⊢
   exact nD.z1n (by omega) (by rw[aI];omega))
  have Mw:Uk (Q.Qi (Qd Q.L a N true)) txt vb width a xs w6:=⟨by rw[cE,hN];exact aT,nA,BQ,by omega,by rw[cE,hN,aI];exact cm⟩
  have mR:∀b,(X b\/b=vb)->b<w6.heap.size:=λb hb=>by
   have:=fT b hb;have:=cw.size;have:=aM.size;omega
  have sV:=Y1 nD mR (by omega) Mw (.inr O) (x:=0) (Nat.two_pow_pos _);rw[cE,hN] at sV;refine OC$ PK O$ P5 zfb O (sV) ?_;rintro _ w7 ⟨rfl,hW⟩;obtain⟨txt7,sT,Bx,BR,aB⟩:=hW;refine QW O$ QE O$ Qg O$ Pn O$ Qm O$ OB func33 O ?_;have ip:(List.replicate n 0).length=n:=List.length_replicate;refine⟨_,rfl,vb,txt7,rfl,by omega,sT,Bx,λy hy=>BR y (by rw[ip,hN];exact hy),?_⟩;have ct:Kp (λb=>¬X b) w' w3:=aG.kp.trans (av.OH λb e e2=>e (.inl e2));exact((ct.trans cw.kp).It aM (λb e=> .inl (by omega))).trans (aB.OH λb e e2=>e (.inl e2))
 case ey=>
  rcases nA with rfl|rfl|rfl|rfl
  ·refine R6 O$ Qw O$ PH$ Pa O$ QB O$ PH$ PM O$ Pa O$ QE O$ PH$ ON O$ QL$ PM O$ ON O ?_;refine QL$ PM O$ ON O$ QL$ PM O$ PM O$ OV O$ Po.qb (e:=[(0,_),(1,_),(2,_),(6,_),(7,_),(15,_)]) ?_;exact(aq _ _ ⟨rfl,rfl⟩).qb
  ·refine R6 O$ Qw O$ PH$ Pa O$ QB O$ PH$ PM O$ Pa O$ QE O$ Rz$ Pa O$ QE O$ PH$ QX O ?_;refine ON O$ QL$ PM O$ ON O$ QL$ PM O$ PM O$ OV O$ Po.qb (e:=[(0,_),(1,_),(2,_),(6,_),(7,_),(15,_)]) ?_;exact(aq _ _ ⟨rfl,rfl⟩).qb
  ·refine R6 O$ Qw O$ PH$ Pa O$ QB O$ PH$ PM O$ Pa O$ QE O$ Rz$ Pa O$ QE O$ Rz$ QX O ?_;refine Pa O$ QE O$ PH$ QX O$ ON O$ QL$ PM O$ PM O$ OV O$ Po.qb (e:=[(0,_),(1,_),(2,_),(6,_),(7,_),(15,_)]) ?_;exact(aq _ _ ⟨rfl,rfl⟩).qb
  ·refine R6 O$ Qw O$ PH$ Pa O$ QB O$ PH$ PM O$ Pa O$ QE O$ Rz$ Pa O$ QE O$ Rz$ QX O ?_;refine Pa O$ QE O$ Rz$ QX O$ Pa O$ QE O$ PH$ QX O$ PM O$ OV O$ Po.qb (e:=[(0,_),(1,_),(2,_),(6,_),(7,_),(15,_)]) ?_;exact(aq _ _ ⟨rfl,rfl⟩).qb
end
structure Gr where
 n:Nat
 succ:Nat->List Nat
 lt:∀v u,u∈succ v->u<n
inductive Way (G:Gr) (r:Nat):Nat->Nat->Prop
 |root:Way G r 0 r
 |step {k v u:Nat}:Way G r k v->u∈G.succ v->Way G r (k+1) u
def U1 (G:Gr)(r k u:Nat):Prop:=Way G r k u/\∀j,j<k->¬Way G r j u
theorem U1.uniq {G:Gr}{r j k u:Nat}(h:U1 G r j u)(h':U1 G r k u):j=k:=by
 rcases Nat.lt_trichotomy j k with e|e| e
 ·exact absurd h.1 (h'.2 j e)
 ·exact e
 ·exact absurd h'.1 (h.2 k e)
def Way.zhP {G:Gr}{r:Nat}:∀{k u:Nat},Way G r k u->∃j,j<=k/\U1 G r j u:=by
 intro k
 induction k using Nat.strongRecOn with
 | ind k ih =>
   intro u h;by_cases hm:∃j,j<k/\Way G r j u
   ·obtain⟨j,hj,hw⟩:=hm;obtain⟨i,hi,hd⟩:=ih j hj hw;exact⟨i,by omega,hd⟩
   ·exact⟨k,Nat.le_refl _,h,λj hj hw=>hm ⟨j,hj,hw⟩⟩
def U1.pred {G:Gr}{r k u:Nat}(h:U1 G r (k+1) u):∃v,U1 G r k v/\u∈G.succ v:=by
 obtain⟨h1,h2⟩:=h
 cases h1 with
 | step hv hu =>
   rename_i v
   refine⟨v,⟨hv,λj hj hw=>?_⟩,hu⟩;exact h2 (j+1) (by omega) (.step hw hu)
def U1.zfU {G:Gr}{r k v u:Nat}(h:U1 G r k v)(hu:u∈G.succ v):∃j,j<=k+1/\U1 G r j u:=(Way.step h.1 hu).zhP
theorem U1.root {G:Gr}{r:Nat}:U1 G r 0 r:=⟨.root,λj hj=>by omega⟩
theorem U1.zero {G:Gr}{r u:Nat}(h:U1 G r 0 u):u=r:=by
 cases h.1 with
 |root=>rfl
structure Lev (G:Gr)(r t:Nat)(d:Nat->Option Nat):Prop where
 has:∀u k,d u=some k->U1 G r k u/\k<=t
 all:∀u k,U1 G r k u->k<=t->d u=some k
def zko (G:Gr)(r:Nat):Lev G r 0 (λu=>if u=r then some 0 else none):=by
 constructor
 ·intro u k h
  split at h
  ·rename_i e;cases h;subst e;exact⟨.root,Nat.le_refl _⟩
  ·cases h
 ·intro u k h hk;have:k=0:=by omega
  subst this;rw[h.zero];simp
structure WA (G:Gr)(r t:Nat)(d0 d:Nat->Option Nat)(A:Nat->Nat->Prop):Prop where
 old:∀u k,d0 u=some k->d u=some k
 new:∀u,d0 u=none->(d u=some (t+1)/\∃v,d0 v=some t/\A v u/\u∈G.succ v)\/(d u=none/\∀v,d0 v=some t->u∈G.succ v->¬A v u)
def WA.fin {G:Gr}{r t:Nat}{d0 d:Nat->Option Nat}(h0:Lev G r t d0)(h:WA G r t d0 d λ_ _=>True):Lev G r (t+1) d:=by
 constructor
 ·intro u k hk
  cases e:d0 u with
  | some j =>
    have:=h.old u j e;rw[hk] at this;cases this;have:=h0.has u k e
    exact⟨this.1,by omega⟩
  | none =>
    rcases h.new u e with⟨h1,v,hv,-,hu⟩|⟨h1,-⟩
    ·rw[hk] at h1;cases h1;obtain⟨j,hj,hd⟩:=(h0.has v t hv).1.zfU hu;have:¬j<=t:=λhjt=>by rw[h0.all u j hd hjt] at e;cases e
     have:j=t+1:=by omega
     subst this;exact⟨hd,Nat.le_refl _⟩
    ·rw[hk] at h1;cases h1
 ·intro u k hd hk;by_cases hkt:k<=t
  ·exact h.old u k (h0.all u k hd hkt)
  ·have:k=t+1:=by omega
   subst this
   have e:d0 u=none:=by
    cases e:d0 u with
    |none=>rfl
    |some j=>have:=h0.has u j e;have:=hd.uniq this.1;omega
   obtain⟨v,hv,hu⟩:=hd.pred;rcases h.new u e with⟨h1,-⟩|⟨-,h2⟩
   ·exact h1
   ·exact absurd trivial (h2 v (h0.all v t hv (Nat.le_refl _)) hu)
def Tq {g:List (List Nat)}(h:Rh g)(v u:Nat)(hu:u∈OU g v):u<g.length:=by
 unfold OU at hu
 cases e:g[v]? with
 |none=>rw[e] at hu;cases hu
 |some l=>rw[e] at hu;exact h.lt l (List.mem_of_getElem? e) u hu
def z0g {g:List (List Nat)}(h:Rh g):Gr:=⟨g.length,OU g,Tq h⟩
abbrev Ds:=List (Option Nat)
def dF (d:Ds)(u:Nat):Option Nat:=(d[u]?).getD none
def TU (t:Nat)(d:Ds)(u:Nat):Ds:=if d[u]? =some none then d.set u (some (t+1)) else d
def Zt (t:Nat)(g:List (List Nat))(d:Ds)(v:Nat):Ds:=if dF d v=some t then(OU g v).foldl (TU t) d else d
def lvl (t:Nat)(g:List (List Nat))(d:Ds):Ds:=(List.range g.length).foldl (Zt t g) d
theorem VN (t:Nat)(d:Ds)(u:Nat):(TU t d u).length=d.length:=by
 unfold TU
 split<;>simp
theorem UF (t:Nat):∀(l:List Nat) (d:Ds),(l.foldl (TU t) d).length=d.length
 |[],d=>rfl
 |u::l,d=>by rw[List.foldl_cons,UF t l,VN]
theorem z5v (t:Nat)(g:List (List Nat))(d:Ds)(v:Nat):(Zt t g d v).length=d.length:=by
 unfold Zt
 split
 ·exact UF t _ d
 ·rfl
theorem US (t:Nat)(g:List (List Nat)):∀(l:List Nat) (d:Ds),(l.foldl (Zt t g) d).length=d.length
 |[],d=>rfl
 |v::l,d=>by rw[List.foldl_cons,US t g l,z5v]
theorem z6G (t:Nat)(g:List (List Nat))(d:Ds):(lvl t g d).length=d.length:=US t g _ d
theorem z55 {t:Nat}{d:Ds}{u:Nat}(hu:u<d.length)(x:Nat):dF (TU t d u) x=if x=u/\dF d u=none then some (t+1) else dF d x:=by
 unfold TU dF
 have e:d[u]? =some d[u]:=List.getElem?_eq_getElem hu
 rw[e]
 by_cases h:d[u]=none
 ·rw[if_pos (by rw[h])];by_cases hx:x=u
  ·subst hx;rw[List.getElem?_set_self hu,if_pos ⟨rfl,h⟩];rfl
  ·rw[List.getElem?_set_ne (λe=>hx e.symm),if_neg (λe=>hx e.1)]
 ·rw[if_neg (λe=>h (Option.some.inj e)),if_neg (λe=>h e.2)]
section
variable {G:Gr}{r t:Nat}{d0 d:Nat->Option Nat}{A B:Nat->Nat->Prop}
theorem WA.step {v u:Nat}(h:WA G r t d0 d A)(hv:d0 v=some t)(hu:u∈G.succ v){d':Nat->Option Nat}(hd':∀x,d' x=if x=u/\d u=none then some (t+1) else d x):WA G r t d0 d' (λv' u'=>A v' u'\/(v'=v/\u'=u)):=by
 constructor
 ·intro x k hx;rw[hd',if_neg]
  ·exact h.old x k hx
  ·rintro⟨rfl,e⟩;rw[h.old _ _ hx] at e;cases e
 ·intro x hx;rw[hd'];rcases h.new x hx with⟨h1,w,h2,h3,h4⟩|⟨h1,h2⟩
  ·left
   rw[if_neg (by rintro⟨rfl,e⟩;rw[h1] at e;cases e)];exact⟨h1,w,h2,.inl h3,h4⟩
  ·by_cases e:x=u
   ·subst e;left;rw[if_pos ⟨rfl,h1⟩];exact⟨rfl,v,hv,.inr ⟨rfl,rfl⟩,hu⟩
   ·right
    rw[if_neg (λe2=>e e2.1)];refine⟨h1,λw hw hu'=>?_⟩;rintro(e2|⟨_,e2⟩)
    ·exact h2 w hw hu' e2
    ·exact e e2
def WA.SK (h:WA G r t d0 d A)(hAB:∀v u,d0 v=some t->u∈G.succ v->(A v u↔B v u)):WA G r t d0 d B:=by
 refine⟨h.old,λu hu=>?_⟩
 rcases h.new u hu with⟨h1,v,h2,h3,h4⟩|⟨h1,h2⟩
 ·exact .inl ⟨h1,v,h2,(hAB v u h2 h4).1 h3,h4⟩
 ·exact .inr ⟨h1,λv hv hu hB=>h2 v hv hu ((hAB v u hv hu).2 hB)⟩
theorem WA.zero (G:Gr)(r t:Nat)(d0:Nat->Option Nat):WA G r t d0 d0 λ_ _=>False:=⟨λ_ _ h=>h,λu h=> .inr ⟨h,λ_ _ _=>id⟩⟩
def WA.at_ (h:WA G r t d0 d A)(v:Nat):d v=some t↔d0 v=some t:=by
 constructor
 ·intro e
  cases e0:d0 v with
  |some k=>have:=h.old v k e0;rw[this] at e;exact e
  | none =>
    rcases h.new v e0 with⟨h1,-⟩|⟨h1,-⟩
    ·rw[h1] at e;have:=Option.some.inj e;omega
    ·rw[h1] at e;cases e
 ·exact λe=>h.old v t e
end
section
variable {g:List (List Nat)}{r t:Nat}
def z0b (h:Rh g){d0:Nat->Option Nat}{A:Nat->Nat->Prop}{v:Nat}(hv:d0 v=some t):∀(p l:List Nat) (d:Ds),p++l=OU g v->d.length=g.length->WA (z0g h) r t d0 (dF d) (λv' u'=>A v' u'\/(v'=v/\u'∈p))->WA (z0g h) r t d0 (dF (l.foldl (TU t) d)) (λv' u'=>A v' u'\/(v'=v/\u'∈OU g v))
 |p,[],d,e,hd,hm=>by rw[<-e,List.append_nil];exact hm
 | p, u :: l, d, e, hd, hm => by
   have hu:u∈OU g v:=by rw[<-e];simp
   have hul:u<d.length:=by rw[hd];exact Tq h v u hu
   rw[List.foldl_cons];refine z0b h hv (p++[u]) l _ (by rw[<-e];simp) (by rw[VN,hd]) ?_;refine(hm.step hv hu (z55 hul)).SK λv' u' _ _=>?_;rw[List.mem_append,List.mem_singleton];constructor
   ·rintro((a|⟨a,b⟩)|⟨a,b⟩)
    ·exact .inl a
    ·exact .inr ⟨a,.inl b⟩
    ·exact .inr ⟨a,.inr b⟩
   ·rintro(a|⟨a,b|b⟩)
    ·exact .inl (.inl a)
    ·exact .inl (.inr ⟨a,b⟩)
    ·exact .inr ⟨a,b⟩
def z1f (h:Rh g){d0:Nat->Option Nat}:∀(n:Nat) (d:Ds),d.length=g.length->dF d=d0->WA (z0g h) r t d0 (dF ((List.range n).foldl (Zt t g) d)) (λv' _=>v'<n)
 |0,d,hd,e=>by rw[<-e];exact(WA.zero _ _ _ _).SK λv u _ _=>by simp
 | n + 1, d, hd, e => by
   have ih:=z1f h n d hd e;rw[List.range_succ,List.foldl_append,List.foldl_cons,List.foldl_nil];have hlen:=US t g (List.range n) d
   generalize (List.range n).foldl (Zt t g) d=d1 at ih hlen
   unfold Zt;by_cases hn:dF d1 n=some t
   ·rw[if_pos hn];have hv:=(ih.at_ n).1 hn;refine(z0b h (A:=λv' _=>v'<n) hv [] _ d1 O (by omega) (ih.SK λv' u' _ _=>by simp)).SK λv' u' _ hu'=>?_;constructor
    ·rintro(a|⟨a,b⟩)<;>omega
    ·intro a;by_cases e2:v'=n
     ·subst e2;exact .inr ⟨rfl,hu'⟩
     ·exact .inl (by omega)
   ·rw[if_neg hn];refine ih.SK λv' u' hv' hu'=>?_;have:v'≠n:=λe2=>hn (by rw[<-e2];exact(ih.at_ v').2 hv');omega
def zcZ (h:Rh g){d:Ds}(hd:d.length=g.length)(hL:Lev (z0g h) r t (dF d)):Lev (z0g h) r (t+1) (dF (lvl t g d)):=by
 refine WA.fin hL ((z1f h g.length d hd O).SK λv u hv hu=>?_)
 constructor
 ·intro _;trivial
 ·intro _;by_cases hvg:v<g.length
  ·exact hvg
  ·have:dF d v=none:=by unfold dF;rw[List.getElem?_eq_none (by omega)];rfl
   rw[this] at hv;cases hv
end
/-! ### The same with a flag: whether there were some -/
/-! ### A run -/
structure BfS where
 t:Nat
 done:Bool
 d:Ds
def BfS.new (n root:Nat):BfS:=⟨0,false,(List.replicate n none).set root (some 0)⟩
structure BfI (g:List (List Nat))(h:Rh g)(r:Nat)(s:BfS):Prop where
 len:s.d.length=g.length
 lev:Lev (z0g h) r s.t (dF s.d)
 run:s.done=false->∃u,dF s.d u=some s.t
 fin:s.done=true->(∀u,dF s.d u≠some s.t)/\∃u k,dF s.d u=some k/\k+1=s.t
section
variable {g:List (List Nat)}{h:Rh g}{r:Nat}
theorem BfI.new (h:Rh g)(hr:r<g.length):BfI g h r (BfS.new g.length r):=by
 have e:dF (BfS.new g.length r).d=λu=>if u=r then some 0 else none:=by
  funext u
  unfold dF BfS.new;dsimp only;by_cases hu:u=r
  ·subst hu;rw[List.getElem?_set_self (by simpa using hr),if_pos O];rfl
  ·rw[List.getElem?_set_ne (λe=>hu e.symm),if_neg hu,List.getElem?_replicate];split<;>rfl
 refine⟨by simp[BfS.new],by rw[e];exact zko _ r,λ_=>⟨r,by rw[e];simp[BfS.new]⟩,λe=>by cases e⟩
def z5R:∀(n k:Nat) (f:Nat->Nat),(∀i,i<k->f i<n)->(∀i j,i<k->j<k->f i=f j->i=j)->k<=n
 | 0, k, f, h, _ => by
   by_cases e:k=0
   ·omega
   ·have:=h 0 (by omega);omega
 | n + 1, k, f, h, hi => by
   by_cases e:∃i,i<k/\f i=n
   ·obtain⟨i0,h0,e0⟩:=e;have:=z5R n (k-1) (λi=>if i<i0 then f i else f (i+1)) (λi hik=>?_) (λi j hik hjk e=>?_)
    ·omega
    ·try dsimp only
     split
     ·have h1:=h i (by omega);have:f i≠n:=λe=>by have:=hi i i0 (by omega) h0 (by rw[e,e0]);omega
      omega
     ·have h1:=h (i+1) (by omega);have:f (i+1)≠n:=λe=>by have:=hi (i+1) i0 (by omega) h0 (by rw[e,e0]);omega
      omega
    ·try dsimp only at e
     split at e<;>split at e
     ·exact hi i j (by omega) (by omega) e
     ·have:=hi i (j+1) (by omega) (by omega) e;omega
     ·have:=hi (i+1) j (by omega) (by omega) e;omega
     ·have:=hi (i+1) (j+1) (by omega) (by omega) e;omega
   ·have:=z5R n k f (λi hik=>by have h1:=h i hik;have:f i≠n:=λe2=>e ⟨i,hik,e2⟩;omega) hi;omega
def U1.below {G:Gr}{r:Nat}:∀{k u:Nat},U1 G r k u->∀j,j<=k->∃v,U1 G r j v
 |0,u,h,j,hj=>⟨u,by rw[show j=0 by omega];exact h⟩
 | k + 1, u, h, j, hj => by
   by_cases e:j=k+1
   ·rw[e];exact⟨u,h⟩
   ·obtain⟨v,hv,-⟩:=h.pred;exact hv.below j (by omega)
def U1.zkf (h:Rh g)(hr:r<g.length){k u:Nat}(hd:U1 (z0g h) r k u):k<g.length:=by
 have hex:∀j,∃v,j<=k->U1 (z0g h) r j v:=λj=>by
  by_cases hj:j<=k
  ·obtain⟨v,hv⟩:=hd.below j hj;exact⟨v,λ_=>hv⟩
  ·exact⟨0,λe=>absurd e hj⟩
 have hlt:∀{j v:Nat},U1 (z0g h) r j v->v<g.length:=fun {j v} hv=>by
  cases hv.1 with
  |root=>exact hr
  |step _ hu=>exact Tq h _ _ hu
 have:=z5R g.length (k+1) (λj=>Classical.choose (hex j)) (λi hi=>hlt (Classical.choose_spec (hex i) (by omega))) (λi j hi hj e=>by
  have h1:=Classical.choose_spec (hex i) (by omega);have h2:=Classical.choose_spec (hex j) (by omega)
  try dsimp only at e
  rw[e] at h1
  exact h1.uniq h2)
 omega
end
def z7t {v:Nat}(h:v<=200000):Nat.log2 (v+1)<=17:=by
 have h1:=Nat.log2_self_le (n:=v+1) (by omega)
 have h3:2^Nat.log2 (v+1)<2^18:=by
  have:(2:Nat)^18=262144:=by decide
  omega
 have:=(Nat.pow_lt_pow_iff_right (by decide:1<2)).1 h3
 omega
def XB.zcM {k:Nat}{q:Cd×Nat}(h:XB k q)(hk:1<=k/\k<=3):(q.1.enc q.2).length<=40:=by
 rw[Xc]
 rcases h with⟨e,h⟩|⟨e,h⟩|⟨e,h⟩
 ·rw[e];show q.2+1+0<=_;omega
 ·have:=z7t h;rw[e];show Nat.log2 (q.2+1)+1+Nat.log2 (q.2+1)<=_;omega
 ·have h3:=z7t h;have h4:Nat.log2 (q.2+1) / k<=Nat.log2 (q.2+1):=Nat.div_le_self _ _;have hm:Nat.log2 (q.2+1) / k*k<=Nat.log2 (q.2+1):=Nat.div_mul_le_self _ _
  have h5:(Rw (q.2+1-2^(Nat.log2 (q.2+1) / k*k)) (2^(Nat.log2 (q.2+1) / k*k)*2^k-2^(Nat.log2 (q.2+1) / k*k))).2<=20:=by
   have h6:PN (2^(Nat.log2 (q.2+1) / k*k)*2^k-2^(Nat.log2 (q.2+1) / k*k)-1)<=20:=by
    refine R3 ?_;have h7:=Nat.pow_le_pow_right (show 0<2 by decide) (show Nat.log2 (q.2+1) / k*k+k<=20 by omega);rw[Nat.pow_add] at h7;have:=Nat.two_pow_pos (Nat.log2 (q.2+1) / k*k);omega
   unfold Rw;dsimp only;split
   ·show PN _-1<=20;omega
   ·exact h6
  rw[e];show Nat.log2 (q.2+1) / k+1+(Rw _ _).2<=_;omega
def z6k {p:S1}(hp:p.Qq)(hz:p.zeta<=3){x:Nat}(hx:x<65536){succ ref:List Nat}(hs:PB succ)(hr:PB ref){r:Nat}(jt:r<=p.Pb)(KY:succ.length<=40)(Be:ref.length<=40):(P8 (Rq p x succ ref r)).length<=6600:=by
 have ax:PB (Pk succ ref):=hs.sub List.filter_sublist
 have eP:(Pk succ ref).length<=succ.length:=List.length_filter_le _ _
 have h1:=(T8 succ ref).z18
 rw[List.length_map] at h1
 have h2:=z2w p.interval ax
 have h3:=(UB p.interval (Pk succ ref)).length_le
 have aI:(Rq p x succ ref r).length<=165:=by
  unfold Rq;rw[List.length_cons];split
  ·simp
  rw[List.length_append,List.length_append];have e1:(if 0<p.Pb then [(Cd.unary,r)] else []).length<=1:=by split<;>simp
  have e2:(if 0<r then(Cd.gamma,(R7 succ ref).length-1)::Qj 0 (R7 succ ref).dropLast else []).length<=42:=by
   split
   ·rw[List.length_cons,T7,List.length_dropLast];omega
   ·simp
  have e3:(if Pk succ ref=[] then [] else(if 0<p.interval then(Cd.gamma,(PO p.interval (Pk succ ref)).1.length)::PF x p.interval none (PO p.interval (Pk succ ref)).1 else [])++PI x p.zeta none (PO p.interval (Pk succ ref)).2).length<=121:=by
   split
   ·simp
   ·rw[List.length_append,Ti];split
    ·rw[List.length_cons,Sm];omega
    ·simp;omega
  omega
 have:=z2x (n:=40) (L:=Rq p x succ ref r) (λq hq=>(z0w hp hx hs hr jt q hq).zcM ⟨hp.2.2.1,hz⟩)
 omega
section
variable {p:Qk}{g:List (List Nat)}{E:List (Nat×Nat)}
def zfK (h:SV p g E)(wW:g.length<=40)(hz:p.zeta<=3){i:Nat}(hi:i<g.length):(XR p g E i).length<=6600:=by
 unfold XR
 have uz:g[i]? =some g[i]:=List.getElem?_eq_getElem hi
 have qY:i<E.length:=by have:=h.pk.el;omega
 have IV:E[i]? =some E[i]:=List.getElem?_eq_getElem qY
 have i9:=h.pk.ok.ent i _ IV
 rw[uz,IV]
 rw[uz] at i9
 show(P8 (Rq p.list i g[i] (Qz g i E[i].1) E[i].1)).length<=6600
 have h2:PB (Qz g i E[i].1)/\(Qz g i E[i].1).length<=40:=by
  rcases X4 g i E[i].1 with e| e
  ·rw[e];exact⟨⟨List.Pairwise.nil,λy h=>(by cases h)⟩,Nat.zero_le _⟩
  ·exact⟨h.gr.ok _ e,by have:=h.gr.len e;omega⟩
 have jt:E[i].1<=p.list.Pb:=by
  rcases i9 with e|⟨-,h3,-⟩
  ·rw[e];exact Nat.zero_le _
  ·exact h3
 have hm:g[i]∈g:=List.getElem_mem hi
 exact z6k h.Qq.1 hz (by omega) (h.gr.ok _ hm) h2.1 jt (by have:=h.gr.len hm;omega) h2.2
def zc0 (h:SV p g E)(wW:g.length<=40)(hz:p.zeta<=3):∀n,n<=g.length->(Qv p g E n).length<=n*6600
 |0,_=>by simp[Qv]
 | n + 1, hn => by
   have:=zc0 h wW hz n (by omega);have:=zfK h wW hz (i:=n) (by omega);rw[T5,List.length_append,Nat.add_mul];omega
def zdn {n u:Nat}(hn:1<=n):(TQ n u).bits<=3*n:=by
 show(u-1) / 2^Yd n u+n<=_
 have h:u<2*n*2^Yd n u:=by
  unfold Yd;split
  ·rename_i e
   have:=(Nat.div_eq_zero_iff).1 e;omega
  ·rename_i e
   have h1:=X8 (v:=u / n);have h2:=(Nat.div_lt_iff_lt_mul (by omega)).1 h1;have h3:1<=PN (u / n):=by unfold PN;rw[if_neg e];omega
   rw[show PN (u / n)=PN (u / n)-1+1 by omega,Nat.pow_succ,Nat.mul_comm _ n,Nat.mul_comm _ 2,<-Nat.mul_assoc,Nat.mul_comm n 2] at h2;exact h2
 have h4:(u-1) / 2^Yd n u<2*n:=(Nat.div_lt_iff_lt_mul (Nat.two_pow_pos _)).2 (by omega)
 omega
def zba (h:SV p g E)(wW:g.length<=40)(hz:p.zeta<=3):(Xt p g E).length<=36000:=by
 have h1:=zc0 h wW hz g.length (Nat.le_refl _)
 have h2:g.length*6600<=40*6600:=Nat.mul_le_mul_right _ wW
 have h3:(pfm p g E).size<=2900:=by
  have hw:Yd (g.length+1) ((Qv p g E g.length).length+1)<=30:=Zg (by omega);have hb:=zdn (n:=g.length+1) (u:=(Qv p g E g.length).length+1) (by omega);have hm:(g.length+1)*Yd (g.length+1) ((Qv p g E g.length).length+1)<=41*30:=Nat.mul_le_mul (by omega) hw;show 12+((g.length+1)*Yd (g.length+1) ((Qv p g E g.length).length+1)+7) / 8+((TQ (g.length+1) ((Qv p g E g.length).length+1)).bits+7) / 8+4*((g.length+1+63) / 64)<=2900;omega
 rw[h.len]
 unfold Wh
 omega
end
structure ZI where
 p:Qk
 g:List (List Nat)
 E:List (Nat×Nat)
 st:Nat
 len:Nat
 rb:Nat
 sum:Nat
 k:Nat
 x:Nat
def SI (G:ZI)(Q:Ra)(txt:Int->OI)(K:Nat)(X:Nat->Prop)(w:World):Prop:=∃o:StO Q txt K G.st G.len (Xt G.p G.g G.E),UJ (z63 o G.rb G.sum) G.k G.x X w
section
variable {G:ZI}{w w':World}{Q Q':Ra}{txt txt':Int->OI}{K K':Nat}{X Y S':Nat->Prop}
def SI.sp (h:SI G Q txt K X w):Sp Q txt K (λb=>X b\/b=G.rb) w:=by obtain⟨o,h⟩:=h;exact h.inv.1
def SI.rbB (h:SI G Q txt K X w):OP w G.rb (srC Q.s G.st G.len (Xt G.p G.g G.E).length G.sum) 186:=by obtain⟨o,h⟩:=h;exact h.inv.2.1
def SI.rbX (h:SI G Q txt K X w):¬X G.rb:=by obtain⟨o,h⟩:=h;exact h.inv.2.2
def SI.lt (h:SI G Q txt K X w):∀b,X b->b<w.heap.size:=by obtain⟨o,h⟩:=h;exact h.lt
def SI.lt1 (h:SI G Q txt K X w):∀b,(X b\/b=G.rb)->b<w.heap.size:=λb hb=>hb.elim (h.lt b) (λe=>by rw[e];exact h.rbB.lt)
def SI.Vu (h:SI G Q txt K X w):K<1000000000000:=by obtain⟨o,h⟩:=h;exact o.k
def SI.xk (h:SI G Q txt K X w):X G.k/\X G.x/\X 1/\X 2:=by obtain⟨o,h⟩:=h;exact⟨h.xk,h.xx,h.x1,h.x2⟩
theorem SI.ok (h:SI G Q txt K X w):SV G.p G.g G.E:=by obtain⟨o,h⟩:=h;exact h.ok
theorem SI.Z5 (h:SI G Q txt K X w)(hk:Kp S' w w')(hS:∀b,S' b->¬(X b\/b=G.rb)\/(X b/\b≠G.k/\b≠G.x/\b≠1/\b≠2))(hP:Sp Q' txt' K' (λb=>X b\/b=G.rb) w')(hs:Q'.s=Q.s)(hl:Q'.L.length=Q.L.length)(hK:K'<1000000000000)(ht:∀y:Int,(G.st:Int)<=y->y<(G.st:Int)+(G.len:Int)->txt' y=txt y):SI G Q' txt' K' X w':=by
 have vg:=h.rbX
 have BS:=h.rbB
 obtain⟨o,h⟩:=h
 have aI:=o.len
 refine⟨⟨hK,by rw[hl];exact o.fit,o.laid.SK λk hk=>ht _ (by omega) (by omega),o.len⟩,h.re hk (λj hj=>?_) ⟨hP,?_,vg⟩⟩
 ·rcases hS j hj with e| e
  ·exact⟨λe2=>e (.inl (e2▸h.xk)),λe2=>e (.inl (e2▸h.xx)),λe2=>e (.inl (e2▸h.x1)),λe2=>e (.inl (e2▸h.x2))⟩
  ·exact e.2
 ·rw[hs];exact hk.OA BS (λe=>(hS _ e).elim (λe=>e (.inr O)) (λe=>vg e.1))
def SI.zkP (h:SI G Q txt K X w)(hk:Kp S' w w')(hS:∀b,S' b->¬(X b\/b=G.rb))(aN:∀j,X j->Y j)(hY:∀j,Y j->X j\/(w.heap.size<=j/\j<w'.heap.size))(hP:Sp Q' txt' K' (λb=>Y b\/b=G.rb) w')(hs:Q'.s=Q.s)(hl:Q'.L.length=Q.L.length)(hK:K'<1000000000000)(ht:∀y:Int,(G.st:Int)<=y->y<(G.st:Int)+(G.len:Int)->txt' y=txt y):SI G Q' txt' K' Y w':=by
 have vg:=h.rbX
 have BS:=h.rbB
 obtain⟨o,h⟩:=h
 have aI:=o.len
 have hI:(z63 (⟨hK,by rw[hl];exact o.fit,o.laid.SK λk hk=>ht _ (by omega) (by omega),o.len⟩:StO Q' txt' K' G.st G.len (Xt G.p G.g G.E)) G.rb G.sum).inv Y w':=⟨hP,by rw[hs];exact hk.OA BS (λe=>hS _ e (.inr O)),λe=>(hY _ e).elim vg (λe=>by have:=BS.lt;omega)⟩
 refine⟨_,⟨h.ok,hk.OA h.OA (λe=>hS _ e (.inl h.xk)),hk.OA h.ix (λe=>hS _ e (.inl h.xx)),aN _ h.xk,aN _ h.xx,hI,λj hj=>?_,aN _ h.x1,aN _ h.x2,hk.OA h.gam (λe=>hS _ e (.inl h.x1)),hk.OA h.una (λe=>hS _ e (.inl h.x2))⟩⟩
 rcases hY j hj with e| e
 ·have:=h.lt j e;have:=hk.size;omega
 ·exact e.2
def SI.grow (h:SI G Q txt K X w)(hx:Ext w w')(hY:∀j,Y j->X j\/(w.heap.size<=j/\j<w'.heap.size))(aN:∀j,X j->Y j):SI G Q txt K Y w':=by
 obtain⟨o,h⟩:=h
 exact⟨o,h.grow hx hY aN⟩
def SI.ext (h:SI G Q txt K X w)(hx:Ext w w'):SI G Q txt K X w':=h.grow hx (λj hj=> .inl hj) λj hj=>hj
def SI.own (h:SI G Q txt K X w)(hk:Kp S' w w')(hS:∀j,S' j->X j/\j≠G.k/\j≠G.x/\j≠1/\j≠2):SI G Q txt K X w':=by
 obtain⟨o,h⟩:=h
 exact⟨o,h.own hk hS⟩
theorem SI.step (h:SI G Q txt K X w)(hk:Kp S' w w')(hS:∀j,S' j->X j/\j≠G.k/\j≠G.x/\j≠1/\j≠2)(hY:∀j,Y j->X j\/(w.heap.size<=j/\j<w'.heap.size))(aN:∀j,X j->Y j):SI G Q txt K Y w':=by
 obtain⟨o,h⟩:=h
 exact⟨o,h.step hk hS hY aN⟩
def SI.less (h:SI G Q txt K Y w)(aN:∀j,X j->Y j)(hx:X G.k/\X G.x/\X 1/\X 2):SI G Q txt K X w:=by
 obtain⟨o,h⟩:=h
 exact⟨o,h.less aN hx.1 hx.2.1 hx.2.2.1 hx.2.2.2⟩
theorem SI.more (h:SI G Q txt K X w)(hK:K<=K')(Mx:K'<1000000000000):SI G Q txt K' X w:=h.Z5 (S':=λ_=>False) (Kp.refl _ w) (λ_ e=>e.elim) (h.sp.more hK) O O Mx λ_ _ _=>rfl
def z0i (h:SI G Q txt K X w):Pm prog 30 [ptr G.k 0] w λv w'=>v=I (G.g.length:Int)/\w'=w:=by
 obtain⟨o,h⟩:=h
 exact zdA h
def z6J {l bk bi v:Nat}(jx:G.g.length<50)(hv:v<G.g.length)(h:SI G Q txt K X w)(fH:OP w bk [ptr G.k 0] 28)(sU:OP w bi [I (v:Int)] 3)(Z:Nat->Prop)(hZ:∀j,Z j->X j)(J:(Nat->Prop)->Nat->World->Prop)(F:World->Prop)
  (h0:∀(Y:Nat->Prop) (w':World),(∀j,X j->Y j)->(∀j,Y j->X j\/w.heap.size<=j)->SI G Q txt K Y w'->Kp (λj=>¬X j) w w'->J Y 0 w')
  (hround:∀(Y:Nat->Prop) (i s:Nat) (w':World),(∀j,X j->Y j)->(∀j,Y j->X j\/w.heap.size<=j)->(OU G.g v)[i]? =some s->J Y i w'->z1T prog l [Px s,I 0] w' λr w''=>(r= .bool true/\J Y (i+1) w''/\Kp (λj=>¬Y j\/Z j) w' w'')\/(r= .bool false/\F w'')):
  Pm prog 170 [.func (.yield l) #[] #[],ptr bk 0,ptr bi 0] w λr w'=>r= .tuple #[]/\((∃Y,(∀j,X j->Y j)/\(∀j,Y j->X j\/w.heap.size<=j)/\J Y (OU G.g v).length w')\/F w'):=by
 obtain⟨o,h⟩:=h
 exact z6d jx hv h fH sU Z hZ J F (λY w' h1 h2 h3 h4=>h0 Y w' h1 h2 ⟨o,h3⟩ h4) hround
end
end Go.Proofs.YtffbidffdbpcoaaGreatDoor
