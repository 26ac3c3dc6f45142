/- Merged by program. -/
import Derived.Test.YtbihggbffaigjaaGreatDoorZg8
import Derived.SizedLaws
import Derived.Carry
import Derived.ProofKit
import Derived.OpenShut
import Derived.ShutString
import Derived.ChangeOld
import Derived.Below
import Derived.Deep.SlicePairs
import Derived.LaidLaws
import Derived.MakeChecks
import Derived.Handed
set_option linter.all false
set_option maxRecDepth 1000000
set_option maxHeartbeats 16000000
namespace Go.Proofs.YtbihggbffaigjaaGreatDoor
open Go Go.RowKit Go.Proofs.Tryz
variable {G T:YF}{K a b gb gc:Nat}{P:Program}{Q:RE}{W w:World}{X:Nat->Prop}{cs:Array Value}{g:List (List Nat)}{txt:Int->P8}
def S0.append {σ:Type}{R:RuK σ}{w1 w2:World}{c:Nat->Prop}{l L:Nat}{s:σ}(h:S0 R G T Q txt K X l c a L s w){u v:Value}(i:∀b,u.ownBlock=some b->X b)(p:∀b,u.ownBlock=some b->b≠G.k/\b≠G.x/\b≠T.k/\b≠T.x/\b≠1/\b≠2/\¬c b)(q:Ext w w1)(n:Kp (λk=>u.ownBlock=some k) w1 w2)(m:∀g,v.ownBlock=some g->u.ownBlock=some g\/w1.heap.size<=g)(o:∀b,v.ownBlock=some b->b<w2.heap.size):S0 R G T Q txt K (λb=>X b\/v.ownBlock=some b) l c a L s w2:=by
 refine(h.ext q).step n (λj e=>⟨i j e,p j e⟩) (λj e=> .inl e) λj e=>?_
 rcases e with e| e
 ·exact .inl e
 ·rcases m j e with f|f
  ·exact .inl (i j f)
  ·exact .inr ⟨f,o j e⟩
section
variable {w':World}{d root:Nat}
theorem z4c (h:WG G T Q txt K X w)(hK:K<=500000000000)(hr:root<G.g.length)(dZ:G.g.length<=40)(au:QJ G.g)(ht:T.g=QO G.g)(dx:Pre Q.L a)(vx:G.st+G.len<=a)(vy:T.st+T.len<=a)(ha:a<=146)(hL:Q.L.length=200):
  PN prog 12 [.agg #[ptr d 0,ptr Q.s 0,ptr G.k 0,ptr T.k 0,I ((200-a:Nat):Int)],I (root:Int)] w λv w'=>∃(k b c:Nat)(n:Int->P8) (K':Nat),v= .tuple #[.slice (some ⟨b,0,none⟩) G.g.length c,I (k:Int)]/\1<=k/\z5b G.g (QO G.g) root k/\Sl w' (.slice (some ⟨b,0,none⟩) G.g.length c) 39 1 G.g.length ((UD G.g (QO G.g) root k).cand.map λc=>Pt (dmV c))/\WG G T Q n K' (λj=>X j\/j=b) w'/\K'<=K+20000000/\w.heap.size<=b/\(∀y:Int,y<(a:Int)->n y=txt y)/\Kp (λb=>¬X b) w w':=by
 have jV:T.g.length=G.g.length:=by rw[ht];exact Sn _
 have lH:∀u v,u∈Pa (QO G.g) v↔v∈Pa G.g u:=λu v=>z0f au
 have bS:=h.lt
 have P:=h.xk
 have cA:=h.far
 have NJ:G.g.length<=60:=ω
 have eF:maxLen=9223372036854775807:=rfl
 refine py (e:=[(0,_),(1,_)]) func12 O ntmps12 O O<|qN O<|Pb O O (RP O (cs:=[ptr d 0,ptr Q.s 0,ptr G.k 0,ptr T.k 0,I ((200-a:Nat):Int)]) O) ?_
 rintro _ w1⟨b1,rfl,bP,ad,aj⟩
 have z1:=ad.size
 have q1:=aj.lt
 obtain⟨H,fu⟩:∃H:Nat->Prop,(λj=>X j\/j=b1)=H:=⟨_,O⟩
 have fB:∀j,X j->H j:=λj A=>by rw[<-fu];exact .inl A
 have tf:H b1:=by rw[<-fu];exact .inr O
 have bj:WG G T Q txt K H w1:=h.grow ad (λj A=>by rw[<-fu] at A;exact A.imp id λe=>ω) fB
 refine SO O<|Ro O<|Pr z7E O<|qV (Pl XZ O O aj O)<|Pr zgD O<|qV (Pl U28 O O aj O)<|Pr zgQ O<|qV (Pl U28 O O aj O)<|Ph O<|Px zkS O (z9Z bj ω dZ au ht dx vx vy ω hr) ?_
 rintro _ w2⟨rr,o,a1,K2,rfl,Jv,sZ,dl,gK,am⟩
 obtain⟨D,xR⟩:∃D,Q.Qq (Qr Q.L a 5 true)=D:=⟨_,O⟩
 rw[xR] at dl
 have vU:D.L=Qr Q.L a 5 true:=by rw[<-xR];rfl
 have NK:D.L.length=200:=by rw[vU,QE ω,hL]
 have NL:D.s=Q.s/\D.m=Q.m:=by rw[<-xR];exact⟨O,O⟩
 obtain⟨Y,hY⟩:∃Y:Nat->Prop,(λb=>H b\/o b)=Y:=⟨_,O⟩
 rw[hY] at dl
 have aR:∀j,H j->Y j:=λj A=>by rw[<-hY];exact .inl A
 have z2:=am.size
 refine Ph O<|Ta O<|QS O<|Qi O<|R5 O<|QC O<|PL O<|Px zlk O (z5S dl) ?_
 rintro _ w2⟨rfl,rfl⟩
 have hM:∃M:Nat,(G.g.length:Int)*(G.g.length:Int)=(M:Int)/\G.g.length*G.g.length=M/\M<=1600:=
  ⟨G.g.length*G.g.length,by push_cast;rfl,rfl,y1B dZ dZ⟩
 obtain⟨M,dj,gU,pw⟩:=hM
 have F:Y b1/\¬o b1:=⟨aR _ tf,λe=>by have:=Jv _ e;omega⟩
 have ak:=am.OZ aj (λe=>e tf)
 have Jw:∀{b},X b->¬o b:=λl e=>by have:=bS _ (.inl (.inl l));have:=Jv _ e;omega
 refine Pq O<|OY<|Re O<|P6<|RX (α:=Nat) (0) (λk=>[(2,ptr b1 0),(6,ptr rr 0),(8,I (G.g.length:Int)),(9,I (k:Int))]) (λk w'=>(∃n K',S0 (VT T.k root) G T D n K' Y rr o a 5 (UD G.g (QO G.g) root k) w'/\K'<=K+20+400*k/\∀y:Int,y<(a:Int)->n y=txt y)/\(∀j,j<=k->(UD G.g (QO G.g) root j).done=false)/\Kp (λb=>¬Y b\/o b) w2 w') (λk=>2000-k) ?hI ?hround
 case hI=>exact⟨⟨a1,_,dl,ω,λy e=>gK y (.inl e)⟩,λj A=>by rw[Nat.le_zero.1 A];rfl,Kp.refl _ _⟩
 case hround =>
  rintro k w4⟨⟨a4,K4,bF,H8,pC⟩,S,ar⟩ ih;dsimp only at ih⊢;have HC:=z7H au hr lH k λj A=>S j ω;have ky:=YO (g:=G.g) (t:=QO G.g) (root:=root) k;have rY:=HC.bound (S k (y02 _)) au;rw[ky,gU] at rY;have aF:=ar.OZ ak (λe=>e.elim (λe=>e F.1) F.2);have ge:=z5q bF HC ht hr ω (S k (y02 _)) ω;rw[ht,show(UD G.g (QO G.g) root k).step G.g (QO G.g) root=UD G.g (QO G.g) root (k+1) from rfl] at ge
  try dsimp only
  refine OY (QG O (Ph O (qV (Y8 O O (by rw[dj];omega)) ?_)));rw[dj];refine Ph O (qV (Y8 O O ω) (Qj O (Qj O (QY O (RO (P4 (Pp O (P5 (R0 (PL O (Px zli O ge ?_)))))))))));rintro _ w5⟨rfl,⟨C,K5,bM,OU,NM⟩,ai⟩;have lJ:Kp (λb=>¬Y b\/o b) w2 w5:=ar.trans ai;have Bc:∀y:Int,y<(a:Int)->C y=txt y:=λy e=>(NM y (.inl e)).trans (pC y e);refine Ph O<|Ta O<|QS O<|Qi O<|R5 O ?_;by_cases V:(UD G.g (QO G.g) root (k+1)).done=true
  ·rw [V]; obtain ⟨s, hs⟩ : ∃ s, UD G.g (QO G.g) root (k + 1) = s := ⟨_, rfl⟩; rw [hs] at bM V
   have Jy:s.cand.length=G.g.length:=by
    have:=(HC.step au hr lH (S k (y02 _))).ls.2.2.1;rw[<-hs];exact this
   have NN:∀b,Y b->b<w5.heap.size:=λb l=>bM.lt b (.inl (.inl l));have oM:=bM.far;refine QC O<|Qi O<|qV (SD O)<|QC O<|Re O<|OY<|Re O<|P6<|RX (α:=Nat×Value) (0,.slice none 0 0) (λy=>[(2,ptr b1 0),(6,ptr rr 0),(8,I (G.g.length:Int)),(9,I (k:Int)),(12,y.2),(13,I (y.1:Int))]) (λy w'=>y.1<=G.g.length/\Sl w' y.2 39 1 y.1 ((s.cand.take y.1).map λc=>Pt (dmV c))/\(∀b,y.2.ownBlock=some b->w5.heap.size<=b)/\(∃Z:Nat->Prop,(∀b,Y b->Z b)/\(∀b,y.2.ownBlock=some b->Z b)/\S0 (VT T.k root) G T D C K5 Z rr o a 5 s w')/\Kp (λb=>¬Y b) w5 w') (λy=>G.g.length-y.1) ?hI ?hround
   case hI=>exact⟨y00 _,by simpa using Sl.nil _ _ _,λb l=>(by cases l),⟨Y,λ_ e=>e,λb l=>(by cases l),bM⟩,Kp.refl _ _⟩
   case hround=>
    rintro⟨v,u⟩ R ⟨hv,U,J,⟨Z,Cg,W,h6⟩,aG⟩ a0;dsimp only at hv U J W a0⊢;have z6:=aG.size;have aJ:=(lJ.trans (aG.Pk λb e=> .inl e)).OZ ak (λe=>e.elim (λe=>e F.1) F.2)
    try dsimp only
    refine OY<|QG O<|QY O<|P4<|Pn O (λh0=>?_)<|λh0=>?_
    ·have cE:v<G.g.length:=ω
     obtain⟨x,hx⟩:∃x,s.cand[v]? =some x:=⟨_,y03 (by rw[Jy];exact cE)⟩;refine P5<|R0<|QG O<|Px zl6 O (zax h6 V hx) ?_;rintro _ w7⟨rfl,h7,av⟩;have gZ:=U.kp av (λb l e=>e (.inl (.inl (W b l))));have z7:=av.size;refine Ph O (Ta O (QS O (Qi O (R5 O (QC O (Pc O (PB O (Pb O O (YD (cs:=[_]) (zs:=[Value.int .u64 0]) U34 TH O Pd O O O ψ) ?_))))))));rintro _ w8⟨b8,rfl,⟨j7,cG,bh⟩,eC⟩;refine Pb O O (pap U34 TH O ψ O O (gZ.ext cG) eC.rd (by intro c hc;simp at hc;subst hc;rfl) ω ω) ?_;rintro u9 w9⟨nu,aN,Jz,-⟩;have z8:=cG.size;have o4:∀b,u.ownBlock=some b->b≠G.k/\b≠G.x/\b≠T.k/\b≠T.x/\b≠1/\b≠2/\¬o b:=λb l=>oM b (J b l);have h9:=h7.append W o4 cG aN Jz (λb l=>nu.lt l);have tz:Kp (λb=>¬Y b) R w9:=((av.Pk λb e p=>e (.inl (.inl (Cg b p)))).trans cG.kp).trans (aN.Pk λb e p=>by have:=J b e;have:=NN b p;omega);refine Pq O<|An<|Ra O<|Qj O<|Pq O ?_
     refine(a0 (v+1,u9) _ ⟨by show v+1<=G.g.length;omega,?_,λb l=>by
      rcases Jz b l with e| e
      ·exact J b e
      ·omega,⟨_,λb e=> .inl (Cg b e),λb e=> .inr e,h9⟩,aG.trans tz⟩ (by show G.g.length-(v+1)<G.g.length-v;omega)).qb
     show Sl w9 u9 _ 1 (v+1) ((s.cand.take (v+1)).map λc=>Pt (dmV c));rw[Qa hx,y0f];exact nu
    ·have cE:v=G.g.length:=ω
     subst cE;rw[y0N (by rw[Jy];exact y02 _)] at U
     obtain⟨gb,gc,rfl⟩:∃b c,u= .slice (some ⟨b,0,none⟩) G.g.length c:=by
      rcases U.shape with⟨-,e⟩|⟨b,c,e,-⟩
      ·omega
      ·exact⟨b,c,e⟩
     have hg:=Ext.Pz R;have ff:=z5d (h6.ext hg) dx.a2 ω (λi e1 p=>by rw[vU,SN ω,if_pos ⟨e1,p⟩]);rw[show D.Qq (Qr D.L a 5 false)=Q by rw[vU,z9R dx ω,<-xR];rfl] at ff;have rD:∀{b},Z b->¬o b->¬(¬Z b\/o b):=λh1 h2 e=>e.elim (λe=>e h1) h2;have HV:¬o gb:=(oM gb (J gb O)).2.2.2.2.2.2;have vW:=Cg _ F.1;have E:∀{q:World},Kp (λb=>¬Z b\/o b) R.drew q->Kp (λb=>¬Z b\/o b) R q:=λhk=>hg.kp.trans hk;have z:∀{q N:World},Kp (λb=>¬Z b\/o b) R.drew q->Ext q N->Kp (λb=>¬Z b\/o b) R N:=λhk hx=>(E hk).trans hx.kp;refine Pf O<|OY<|OY<|RI (λw'=>Kp (λb=>¬Z b\/o b) R w') O<|Pu 0 O O hg.kp<|Tl 1 O zl9 O ff ?_;rintro _ q⟨rfl,B,rE,HD,f⟩;refine⟨E f,?_⟩;refine P7 2 O (yne O O) (E f)<|TJ<|Pu 3 O O (E f)<|P7 4 O (PU z7E O) (E f)<|qT 5 O (λ_ h=>Pl XZ O O (h.OZ aJ (rD vW F.2)) O) (E f)<|P7 8 O (PU zgy O) (E f)<|qT 9 O (λ_ h=>Pl U3 O O (h.OZ aJ (rD vW F.2)) O) (E f)<|Tl 6 O zlx O rE.sp.map ?_;rintro _ a5⟨rfl,rfl⟩;refine⟨E f,?_⟩;have eT:=rE.sp.room dx ω;rw[hL] at eT;refine Tl 7 O zhJ O eT ?_;rintro _ N⟨rfl,r⟩;refine⟨z f r,?_⟩;refine P7 10 O (yne O O) (z f r)<|TJ<|P7 11 O (U0 O O) (z f r)<|Pu 12 O O (z f r)<|P7 13 O (PU z7E O) (z f r)<|qT 14 O (λ_ h=>Pl XZ O O (h.OZ aJ (rD vW F.2)) O) (z f r) ?_;have ky:=z63 (rE.sp.ext' r);refine Tl 15 O zkZ O ky ?_;rintro _ a3⟨c1,c2,c3,c4,c5,rfl,cW⟩;refine⟨z f (r.trans cW),?_⟩;refine P7 16 O (yfd zgx O O) (z f (r.trans cW))<|P7 17 O (YT O O) (z f (r.trans cW))<|TJ<|P7 18 O (U0 O O) (z f (r.trans cW))<|qE<|Tj O<|QG O<|Qj O<|QS O<|P3 func12 O ?_;have eQ:=r.trans cW;have sO:=z f eQ;have JA:∀j,X j->Z j:=λj e=>Cg j (aR j (fB j e));have HE:WG G T Q B K5 (λj=>X j\/j=gb) a3:=(rE.grow eQ (λj e=> .inl e) (λ_ e=>e)).less (λj e=>e.elim (JA j) λe=>by rw[e];exact W gb O) ⟨.inl P.1,.inl P.2.1,.inl P.2.2.1,.inl P.2.2.2.1,.inl P.2.2.2.2.1,.inl P.2.2.2.2.2⟩;rw[<-hs] at U V;refine⟨_,O,k+1,gb,gc,B,K5,O,ω,⟨V,λj A=>S j ω⟩,U.kp sO (λb l=>rD (W b l) ((oM b (J b l)).2.2.2.2.2.2)),HE,ω,by have:=J gb O;have:=lJ.size;omega,λy e=>(HD y (.inl e)).trans (Bc y e),?_⟩;refine(((ad.kp.trans (am.Pk λb e p=>e (fB b p))).trans (lJ.Pk λb e p=>?_)).trans (aG.Pk λb e p=>e (aR b (fB b p)))).trans (sO.Pk λb e p=>?_)
     ·exact e.elim (λe=>e (aR b (fB b p))) (Jw p)
     ·exact e.elim (λe=>e (JA b p)) (Jw p)
  ·have nj:(UD G.g (QO G.g) root (k+1)).done=false:=by simpa using V
   rw[nj];refine QC O<|Qi O<|qV (SD O)<|P4<|Pp O<|Pf O<|Ra O<|Qj O<|Pq O ?_
   exact(ih (k+1) w5 ⟨⟨C,K5,bM,ω,Bc⟩,λj A=>by
    by_cases e:j=k+1
    ·rw[e];exact nj
    ·exact S j ω,lJ⟩ ω).qb
end
def Yd {root:Nat}{W:Wd}(h:WG W.G W.T W.Q txt K X w)(p:K<=500000000000)(m:W.G.g=g)(i:W.T.g=QO g)(o:Pre W.Q.L W.a)(r:W.a<=146)(q:W.Q.L.length=200)(x:W.G.st+W.G.len<=W.T.st)(u:W.T.st+W.T.len<=W.a)(l:QJ g)(t:root<g.length)(n:g.length<=40):
  PN prog 12 [.agg #[ptr W.d 0,ptr W.Q.s 0,ptr W.G.k 0,ptr W.T.k 0,I ((200-W.a:Nat):Int)],I (root:Int)] w λv w'=>∃(k b c:Nat)(e:Int->P8) (f:Nat),v= .tuple #[.slice (some ⟨b,0,none⟩) g.length c,I (k:Int)]/\1<=k/\z5b g (QO g) root k/\Sl w' (.slice (some ⟨b,0,none⟩) g.length c) 39 1 g.length ((UD g (QO g) root k).cand.map λc=>Pt (dmV c))/\WG W.G W.T W.Q e f (λj=>X j\/j=b) w'/\f<=K+20000000/\w.heap.size<=b/\(∀y:Int,y<(W.a:Int)->e y=txt y)/\Kp (λb=>¬X b) w w':=by
 subst m
 have:=z4c (d:=W.d) h p t n l i o ω u r q
 exact this
abbrev g4:List (List Nat):=[[1,2],[3],[3],[]]
def zfS:QJ g4:=⟨λl c=>by
 simp only[y0l,y1U,or_false] at c
 rcases c with rfl|rfl|rfl|rfl<;>exact⟨ψ,ψ⟩,ψ,ψ⟩
def zh5:z5b g4 (QO g4) 0 3:=⟨by decide+kernel,by decide+kernel⟩
theorem zeO:(UD g4 (QO g4) 0 3).cand=[0,0,0,0]:=by decide+kernel
theorem z6l (hG:Pm w 1 (SI .gamma) 314)(hU:Pm w 2 (SI .unary) 314):PN prog 11 [] w λv w'=>v= .bool true/\Ext w w':=by
 refine py (e:=[]) func11 O ntmps11 O O<|qN O<|Ro O<|Pb O O (YD (cs:=[_,_]) (zs:=[Value.int .u32 0,Value.int .u32 0]) PS Py O Pd O O O ψ) ?_
 rintro _ w1⟨b1,rfl,⟨bP,N,aj⟩,jK⟩
 refine Pb O O (YD (cs:=[_]) (zs:=[Value.int .u32 0]) PS Py O Pd O O O ψ) ?_
 rintro _ w2⟨b2,rfl,⟨bU,A,ak⟩,V⟩
 refine Pb O O (YD (cs:=[_]) (zs:=[Value.int .u32 0]) PS Py O Pd O O O ψ) ?_
 rintro _ w3⟨b3,rfl,⟨eh,u,ao⟩,Y⟩
 refine Pb O O (YD (cs:=[]) (zs:=[]) PS Py O Pd O O O ψ) ?_
 rintro _ w4⟨b4,rfl,⟨g7,r,aF⟩,Z⟩
 refine Pb O O (YD (cs:=[_,_,_,_]) (zs:=[Value.slice none 0 0,Value.slice none 0 0,Value.slice none 0 0,Value.slice none 0 0]) Vt SJ O Pd O O O ψ) ?_
 rintro _ w5⟨b5,rfl,⟨gp,p,aD⟩,P⟩
 have jI:GrM w5 (.slice (some ⟨b5,0,none⟩) 4 4) g4:=by
  refine⟨⟨_,P.rd,λi l f=>?_⟩⟩
  match i,f with
  | 0, f =>
    cases f
    exact⟨_,_,O,y02 _,(((jK.rd.ext A).ext u).ext r).ext p⟩
  | 1, f =>
    cases f
    exact⟨_,_,O,y02 _,((V.rd.ext u).ext r).ext p⟩
  | 2, f =>
    cases f
    exact⟨_,_,O,y02 _,(Y.rd.ext r).ext p⟩
  | 3, f =>
    cases f
    exact⟨_,_,O,y02 _,Z.rd.ext p⟩
  |i+4,f=>cases f
 have t:=(((N.trans A).trans u).trans r).trans p
 have z4:=t.size
 refine Px ziq O (z8o (g:=g4) zfS ψ ψ jI (t.OZ hG) (t.OZ hU) 1 0 ψ ψ) ?_
 rintro _ y⟨W,XX,rfl,m,B,f9⟩
 have S:=t.trans B
 have a2:=B.size
 refine Ph O<|Ta O<|Pb O O (S5 (cs:=[_,_,_,_,_]) z2D O) ?_
 rintro _ a0⟨x,rfl,vd,z,iR⟩
 have a3:=z.size
 refine Po O (Qh (news:=W.v) z2D O O O O iR ξ) ?_
 rintro q⟨F,U⟩
 have E:Pm q x [ptr W.d 0,ptr W.Q.s 0,ptr W.G.k 0,ptr W.T.k 0,I ((200-W.a:Nat):Int)] 30:=F
 have C:Ext y q:=z.It U λb e=>ω
 have M:=m.gw2.grow C (λj e=> .inl e) (λ_ e=>e)
 have Js:=m.K
 refine Pq O<|Qi O<|qV (SD O) ?_
 rw[show(!true)=false from rfl]
 refine QC O<|qN O<|qV (PO U30 O z2D O (Pm.cells (n:=5) E (news:=[_,_,_,_,_]) O) O)<|Px ziu O (Yd (root:=0) M ω m.gg m.tg m.pre m.a m.L m.gs m.ts zfS ψ ψ) ?_
 rintro _ a1⟨k,b,c,D,K8,rfl,aK,X,o,-,-,NP,-,H⟩
 have R:k=3:=X.eq zh5
 subst R
 rw[zeO] at o
 have J:g4.length=4:=rfl
 rw[J] at o⊢
 have c0:=Qs o.rd (i:=0) (v:=Pt 0) O
 have c1:=Qs o.rd (i:=1) (v:=Pt 0) O
 have c2:=Qs o.rd (i:=2) (v:=Pt 0) O
 have c3:=Qs o.rd (i:=3) (v:=Pt 0) O
 refine Ph O<|Ta O<|SO O<|Rq O<|R8 O<|RO<|PB O<|RQ U34 O<|Rx O<|RO<|Rr O<|PB O<|qV (Qc U34 TH O O ω)<|qV (PG RW O O c0) ?_
 refine Rx O<|RO<|Rr O<|PB O<|qV (Qc U34 TH O O ω)<|qV (PG RW O O c1)<|Rx O<|RO<|Rr O<|PB O<|qV (Qc U34 TH O O ω)<|qV (PG RW O O c2)<|Rx O<|RO ?_
 refine Rr O<|PB O<|qV (Qc U34 TH O O ω)<|qV (PG RW O O c3)<|Rx O<|RO<|Rr O<|Pq O<|PM.qb (e:=[(0,_)]) ?_
 refine P3 func11 O (⟨_,O,O,(S.trans C).It H λb e=>?_⟩)
 rcases y0a b w.heap.size with h| h
 ·exact absurd (f9 b ω) e
 ·exact h
open Classical in
noncomputable def sdB (g:List (List Nat))(root d v:Nat):Bool:=decide (SDm g root d v)
theorem Xy {root d v:Nat}:sdB g root d v=true↔SDm g root d v:=by
 simp[sdB]
def Z2 {root d v:Nat}(h:SDm g root d v):sdB g root d v=true:=Xy.2 h
theorem XH {root d v:Nat}(h:¬SDm g root d v):sdB g root d v=false:=by
 cases e:sdB g root d v with
 |false=>rfl
 |true=>exact absurd (Xy.1 e) h
noncomputable def VR (g:List (List Nat))(root d v:Nat):List Value:=(List.range g.length).map λu=>Value.bool (if u<v then sdB g root d u else false)
theorem RG {root d v:Nat}:(VR g root d v).length=g.length:=by simp[VR]
theorem W2 {root d v u:Nat}(e:u<g.length):(VR g root d v)[u]? =some (.bool (if u<v then sdB g root d u else false)):=by
 unfold VR
 rw[y0i,y1i e];rfl
theorem zat {root d:Nat}:VR g root d 0=List.replicate g.length (.bool false):=by
 refine y0K λu=>?_
 by_cases e:u<g.length
 ·rw[W2 e,y0T,if_pos e,if_neg ω]
 ·rw[y0e (by rw[RG];omega),y0e (by rw[y08];omega)]
theorem Xk {root d v:Nat}(i:v<g.length):(VR g root d v).set v (.bool (sdB g root d v))=VR g root d (v+1):=by
 refine y0K λu=>?_
 by_cases e:v=u
 ·subst e;rw[y0Q (by rw[RG];exact i),W2 i,if_pos ω]
 ·rw[y0A e];by_cases f:u<g.length
  ·rw[W2 f,W2 f];by_cases h:u<v
   ·rw[if_pos h,if_pos ω]
   ·rw[if_neg h,if_neg ω]
  ·rw[y0e (by rw[RG];omega),y0e (by rw[RG];omega)]
theorem z5T {root d v:Nat}(e:v<g.length):(VR g root d g.length)[v]? =some (.bool (sdB g root d v)):=by
 rw[W2 e,if_pos e]
theorem zaD {root d:Nat}(h:¬SG g root d):VR g root d 0=VR g root d g.length:=by
 refine y0K λu=>?_
 by_cases f:u<g.length
 ·rw[W2 f,z5T f,if_neg ω,XH λe=>h e.1]
 ·rw[y0e (by rw[RG];omega),y0e (by rw[RG];omega)]
def Vo (M:Nat->Nat->Bool)(d v:Nat):Nat->Bool
 |0=>M d v
 |o+1=>Vo M d v o&&(!M o v ||decide (o=d) ||M o d)
def ldm (M:Nat->Nat->Bool)(n v:Nat):Nat->Int
 |0=>-1
 |d+1=>if Vo M d v n then(d:Int) else ldm M n v d
section
variable {M:Nat->Nat->Bool}{n v d c:Nat}
theorem z0b:∀o,Vo M d v o=true↔M d v=true/\∀p,p<o->M p v=true->p≠d->M p d=true
 |0=>⟨λh=>⟨h,λp l=>absurd l (y1N _)⟩,λh=>h.1⟩
 | o + 1 => by
   show(Vo M d v o&&(!M o v ||decide (o=d) ||M o d))=true↔_;rw[y0w,z0b o];constructor
   ·rintro⟨⟨k,i⟩,m⟩;refine⟨k,λp l j f=>?_⟩;by_cases e:p=o
    ·subst e;rw[j] at m
     simpa[f] using m
    ·exact i p ω j f
   ·rintro⟨k,i⟩;refine⟨⟨k,λp l=>i p ω⟩,?_⟩;by_cases e:o=d
    ·simp[e]
    ·cases j:M o v with
     |false=>rfl
     |true=>simp[i o ω j e]
def z62 (h:∀d,d<n->Vo M d v n=false):∀m,m<=n->ldm M n v m=-1
 |0,_=>rfl
 | m + 1, hm => by
   show(if Vo M m v n=true then(m:Int) else ldm M n v m)=-1;rw[h m ω,if_neg ψ];exact z62 h m ω
def z8u (h:∀d,d<n->(Vo M d v n=true↔d=c)):∀m,m<=n->c<m->ldm M n v m=(c:Int)
 |0,_,hc=>absurd hc (y1N _)
 | m + 1, hm, hc => by
   show(if Vo M m v n=true then(m:Int) else ldm M n v m)=_;by_cases e:m=c
   ·rw[if_pos ((h m ω).2 e),e]
   ·rw[if_neg (λf=>e ((h m ω).1 f))];exact z8u h m ω ω
end
def zer {root v:Nat}{num par f:Nat->Nat}(hg:QJ g)(t:root<g.length)(z:TrF g root num par)(h:Yu g root num par f)(k:v≠root):(SG g root v->ldm (sdB g root) g.length v g.length=(f v:Int))/\(¬SG g root v->ldm (sdB g root) g.length v g.length=-1):=by
 constructor
 ·intro l;have r:SG g root (f v):=h.i.fo.in_ _ (h.i.fo.up v (h.c v l) k).1;refine z8u (c:=f v) (λd A=>?_) _ (y02 _)<|r.lt hg t;rw[z0b,<-h.zlg z l k (d:=d),Xy];constructor
  ·rintro⟨m,q⟩;exact⟨m,λo s j=>Xy.1 (q o (s.1.lt hg t) (Z2 s) j)⟩
  ·rintro⟨m,q⟩;exact⟨m,λp _ B j=>Z2 (q p (Xy.1 B) j)⟩
 ·intro l;refine z62 (λd A=>?_) _<|y02 _
  cases e:Vo (sdB g root) d v g.length with
  |false=>rfl
  |true=>exact absurd (Xy.1 (z0b _ |>.1 e).1).2.1 l
noncomputable def Y0 (g:List (List Nat))(root v:Nat)(x:Int):List Value:=(List.range g.length).map λu=>I (if u<v then ldm (sdB g root) g.length u g.length else if u=v then x else 0)
section
variable {root v u:Nat}{x y:Int}
theorem RV:(Y0 g root v x).length=g.length:=by simp[Y0]
theorem UT (e:u<g.length):(Y0 g root v x)[u]? =some (I (if u<v then ldm (sdB g root) g.length u g.length else if u=v then x else 0)):=by
 unfold Y0
 rw[y0i,y1i e];rfl
theorem zaL:Y0 g root 0 0=List.replicate g.length (I 0):=by
 refine y0K λu=>?_
 by_cases e:u<g.length
 ·rw[UT e,y0T,if_pos e,if_neg ω];split<;>rfl
 ·rw[y0e (by rw[RV];omega),y0e (by rw[y08];omega)]
theorem z5e (i:v<g.length):(Y0 g root v x).set v (I y)=Y0 g root v y:=by
 refine y0K λu=>?_
 by_cases e:v=u
 ·subst e;rw[y0Q (by rw[RV];exact i),UT i,if_neg ω,if_pos O]
 ·rw[y0A e];by_cases f:u<g.length
  ·rw[UT f,UT f];by_cases h:u<v
   ·rw[if_pos h,if_pos h]
   ·rw[if_neg h,if_neg h,if_neg (λh=>e h.symm),if_neg (λh=>e h.symm)]
  ·rw[y0e (by rw[RV];omega),y0e (by rw[RV];omega)]
theorem z9V:Y0 g root v (ldm (sdB g root) g.length v g.length)=Y0 g root (v+1) 0:=by
 refine y0K λu=>?_
 by_cases f:u<g.length
 ·rw[UT f,UT f];by_cases h:u<v
  ·rw[if_pos h,if_pos ω]
  ·rw[if_neg h];by_cases e:u=v
   ·rw[if_pos e,if_pos ω,e]
   ·rw[if_neg e,if_neg ω];split<;>rfl
 ·rw[y0e (by rw[RV];omega),y0e (by rw[RV];omega)]
end
def woG (g:List (List Nat))(d:Nat):List (List Nat):=(List.range g.length).map λv=>if v=d then [] else(Pa g v).filter λu=>decide (u≠d)
section
variable {root d v u:Nat}
theorem UY:(woG g d).length=g.length:=by unfold woG;rw[y0k,y14]
theorem zeC (c:v<g.length):(woG g d)[v]? =some (if v=d then [] else(Pa g v).filter λu=>decide (u≠d)):=by
 unfold woG
 rw[y0i,y1i c];rfl
theorem z8z:b∈Pa (woG g d) a↔a≠d/\b≠d/\b∈Pa g a:=by
 by_cases i:a<g.length
 ·have e:Pa (woG g d) a=if a=d then [] else(Pa g a).filter λu=>decide (u≠d):=by
   show((woG g d)[a]?.getD [])=_;rw[zeC i];rfl
  rw[e];by_cases h:a=d
  ·rw[if_pos h];exact⟨λe=>(by cases e),λe=>absurd h e.1⟩
  ·rw[if_neg h,y1a,decide_eq_true_eq];exact⟨λe=>⟨h,e.2,e.1⟩,λe=>⟨e.2.2,e.2.1⟩⟩
 ·have c:Pa (woG g d) a=[]:=by
   show((woG g d)[a]?.getD [])=_;rw[y0e (by rw[UY];omega)];rfl
  have f:Pa g a=[]:=by
   show(g[a]?.getD [])=_;rw[y0e ω];rfl
  rw[c,f];exact⟨λe=>(by cases e),λe=>(by cases e.2.2)⟩
theorem zcU (hg:QJ g):QJ (woG g d):=by
 have i:∀l∈woG g d,∃v,v<g.length/\l=if v=d then [] else(Pa g v).filter λu=>decide (u≠d):=λl f=>by
  unfold woG at f;obtain⟨v,c,rfl⟩:=y0h.1 f;exact⟨v,y0H.1 c,O⟩
 have j:∀v,v<g.length->Pa g v∈g:=λv c=>by
  unfold Pa;rw[y03 c];exact y1d c
 refine⟨λl f=>?_,λl f y e=>?_,by rw[UY];exact hg.n⟩
 ·obtain⟨v,c,rfl⟩:=i l f;split
  ·exact⟨by unfold Ris;exact .nil,λy e=>(by cases e)⟩
  ·have h:=hg.ok _ (j v c);exact⟨List.Pairwise.filter _ h.ris,λy e=>h.lt y (y1a.1 e).1⟩
 ·obtain⟨v,c,rfl⟩:=i l f;rw[UY];split at e
  ·cases e
  ·exact hg.lt _ (j v c) y (y1a.1 e).1
def z8I (m:root≠d):SG (woG g d) root v↔∃j,Av g root d j v:=by
 constructor
 ·intro h
  induction h with
  |refl=>exact⟨0,.zero m⟩
  | step _ e f =>
    obtain⟨j,c⟩:=f;obtain⟨o,i,k⟩:=z8z.1 e;exact⟨j+1,.step c k i⟩
 ·rintro⟨j,c⟩
  induction c with
  |zero _=>exact .refl
  |step l e n f=>exact .step f (z8z.2 ⟨l.ne,n,e⟩)
def z8Z (h:QJ g){v u:Nat}(i:v<g.length):dI (dF (Vx g v g.length) u)<0↔¬SG g v u:=by
 have c:=z4t h i g.length
 rw[zed h]
 cases e:dF (Vx g v g.length) u with
 | some k =>
   show(k:Int)<0↔_
   exact⟨λh=>ω,λj=>absurd ⟨k,(c.has u k e).1⟩ j⟩
 | none =>
   refine⟨λ_ ⟨k,f⟩=>?_,λ_=>ψ⟩;have:=c.all u k f (by have:=f.zl7 h i;omega);rw[e] at this;cases this
def zek (n:SG g root d):(SG g root v/\v≠d/\(d=root\/¬SG (woG g d) root v))↔SDm g root d v:=by
 constructor
 ·rintro⟨c,k,l⟩;refine⟨n,c,k,c,λj f=>?_⟩;by_cases e:d=root
  ·subst e
   have key:∀{j v},Av g d d j v->False:=fun {j v} h=>by
    induction h with
    |zero h=>exact h O
    |step _ _ _ o=>exact o
   exact key f
  ·exact(l.resolve_left e) ((z8I λi=>e i.symm).2 ⟨j,f⟩)
 ·rintro⟨-,c,k,l⟩;refine⟨c,k,?_⟩;by_cases e:d=root
  ·exact .inl e
  ·exact .inr λm=>by
    obtain⟨j,f⟩:=(z8I λi=>e i.symm).1 m;exact l.2 j f
end
def U1 (g:List (List Nat))(d v i:Nat):List Nat:=if v=d then [] else((Pa g v).take i).filter λu=>decide (u≠d)
def woP (g:List (List Nat))(d v i:Nat):List (List Nat):=(List.range g.length).map λu=>if u<v then U1 g d u (Pa g u).length else if u=v then U1 g d v i else []
section
variable {d v u i:Nat}
theorem Tu:(woP g d v i).length=g.length:=by simp[woP]
theorem XU (c:u<g.length):(woP g d v i)[u]? =some (if u<v then U1 g d u (Pa g u).length else if u=v then U1 g d v i else []):=by
 unfold woP
 rw[y0i,y1i c];rfl
theorem zcj (c:v<g.length):(woP g d v i)[v]? =some (U1 g d v i):=by
 rw[XU c,if_neg ω,if_pos O]
theorem zbu:woP g d 0 0=List.replicate g.length []:=by
 refine y0K λu=>?_
 by_cases c:u<g.length
 ·rw[XU c,y0T,if_pos c,if_neg ω];split
  ·unfold U1;rw[y2B];split<;>rfl
  ·rfl
 ·rw[y0e (by rw[Tu];omega),y0e (by rw[y08];omega)]
theorem zcm (hi:i=(Pa g v).length):woP g d v i=woP g d (v+1) 0:=by
 refine y0K λu=>?_
 by_cases f:u<g.length
 ·rw[XU f,XU f];by_cases c:u<v
  ·rw[if_pos c,if_pos ω]
  ·by_cases e:u=v
   ·subst e;rw[if_neg c,if_pos O,if_pos ω,hi]
   ·rw[if_neg c,if_neg e,if_neg ω];split
    ·unfold U1;rw[y2B];split<;>rfl
    ·rfl
 ·rw[y0e (by rw[Tu];omega),y0e (by rw[Tu];omega)]
theorem z7f (f:(Pa g v)[i]? =some u)(c:v≠d)(e:u≠d):U1 g d v i++[u]=U1 g d v (i+1):=by
 unfold U1
 rw[if_neg c,if_neg c,Qa f,y3y]
 simp[e]
theorem z82 (f:(Pa g v)[i]? =some u)(h:v=d\/u=d):U1 g d v (i+1)=U1 g d v i:=by
 unfold U1
 by_cases e:v=d
 ·rw[if_pos e,if_pos e]
 ·have c:=h.resolve_left e;rw[if_neg e,if_neg e,Qa f,y3y];simp[c]
theorem zeD (j:v<g.length)(m:(Pa g v)[i]? =some u)(k:v≠d)(l:u≠d):(woP g d v i).set v (U1 g d v i++[u])=woP g d v (i+1):=by
 refine y0K λx=>?_
 by_cases h:v=x
 ·subst h;rw[y0Q (by rw[Tu];exact j),zcj j,z7f m k l]
 ·rw[y0A h];by_cases c:x<g.length
  ·rw[XU c,XU c];by_cases f:x<v
   ·rw[if_pos f,if_pos f]
   ·rw[if_neg f,if_neg f,if_neg (λe=>h e.symm),if_neg (λe=>h e.symm)]
  ·rw[y0e (by rw[Tu];omega),y0e (by rw[Tu];omega)]
theorem z58 (c:(Pa g v)[i]? =some u)(h:v=d\/u=d):woP g d v i=woP g d v (i+1):=by
 unfold woP
 rw[z82 c h]
theorem ze3:woP g d g.length 0=woG g d:=by
 unfold woP woG
 refine y0O λu c=>?_
 rw[if_pos (y0H.1 c)]
 unfold U1
 rw[y0F]
def z9M:(U1 g d v i).length<=(Pa g v).length:=by
 unfold U1
 split
 ·exact y00 _
 ·exact y0b (y2V _ _) (by rw[y0d];omega)
end
theorem z4Q (y:QJ g){root d:Nat}(hr:root<g.length){go:Nat}(hg:GrR w gb go g):PN prog 36 [.slice (some ⟨gb,go,none⟩) g.length gc,I (root:Int),I (d:Int)] w λv w'=>∃bd,v= .slice (some ⟨bd,0,none⟩) g.length g.length/\Pm w' bd ((Vx (woG g d) root g.length).map λo=>I (dI o)) 3/\w.heap.size<=bd/\Ext w w':=by
 have eF:maxLen=9223372036854775807:=rfl
 have hn:=y.n
 refine py (e:=[(0,_),(1,_),(2,_)]) func36 O ntmps36 O O<|qN O<|Rq O<|RQ Vt O<|Pb O O (pmk (c:=g.length) (n:=g.length) Vt SJ O O O ω ω ω) ?_
 rintro _ w1⟨l,rfl,⟨pq,ad,aj⟩,-⟩
 have gX:RwA w1 l w.heap.size (woP g d 0 0):=by
  rw[zbu];exact RwA.new aj
 refine Pq O<|OY<|Re O<|P6<|RX (α:=Nat) (0) (λv=>[(0,.slice (some ⟨gb,go,none⟩) g.length gc),(1,I (root:Int)),(2,I (d:Int)),(7,.slice (some ⟨l,0,none⟩) g.length g.length),(8,I (v:Int))]) (λv w'=>v<=g.length/\RwA w' l w.heap.size (woP g d v 0)/\Ext w w') (λv=>g.length-v) ?hI ?hround
 case hI=>exact⟨y00 _,gX,ad⟩
 case hround =>
  rintro v w2⟨hv,C,A⟩ ih
  try dsimp only
  refine OY<|QG O<|RQ Vt O<|QY O<|P4<|Pn O (λhq=>?_)<|λhq=>?_
  ·have p : v < g.length := by omega
   have S:g[v]? =some (Pa g v):=by unfold Pa;rw[y03 p];rfl
   have fR:(Pa g v).length<=g.length:=y.len (y0j S);refine P5<|R0<|Re O<|P6<|RX (α:=Nat) (0) (λi=>[(0,.slice (some ⟨gb,go,none⟩) g.length gc),(1,I (root:Int)),(2,I (d:Int)),(7,.slice (some ⟨l,0,none⟩) g.length g.length),(8,I (v:Int)),(9,I (i:Int))]) (λi w'=>i<=(Pa g v).length/\RwA w' l w.heap.size (woP g d v i)/\Ext w w') (λi=>(Pa g v).length-i) ?hI ?hround
   case hI=>exact⟨y00 _,C,A⟩
   case hround =>
    rintro i m⟨hi,s,j⟩ k;obtain⟨a,c,D,fg⟩:=hg v _ S;have f:=Ext.Pz m
    try dsimp only
    refine OY<|QG O<|Ph O<|qV (Qc Vt SJ O O ω)<|qV (PG PS O O (Qw j D))<|RQ PS O<|QY O<|P4<|Pn O (λfP=>?_)<|λfP=>?_
    ·obtain⟨u,t⟩:∃u,(Pa g v)[i]? =some u:=⟨_,y03 ω⟩;obtain⟨lb,lo,rfl,K⟩:=fg i u t;have mV:u<g.length:=Sa y v u (y0j t);have M:=zcj (d:=d) (i:=i) p;have jV:=z9M (g:=g) (d:=d) (v:=v) (i:=i);refine P5<|R0<|QG O ?_;by_cases U:v=d
     ·refine R5 O<|Qb<|Ph O<|QV<|QV<|QV<|QV<|QV<|Ql O<|QC O<|An<|Ra O<|Qj O<|Pq O ?_;exact(k (i+1) _ ⟨ω,by rw[<-z58 t (.inl U)];exact s,j⟩ ω).qb
     ·refine R5 O (RO (PB O (Ph O (qV (Qc Vt SJ O O ω) (qV (PG PS O O (Qw j D)) (Ph O (qV (Qc PS Py O O ω) (qV (PG R9 O O (Qw j K)) (qV (Q8 O R9 U3 ω) (Ph O ?_))))))))));by_cases V:u=d
      ·refine R5 O<|Qb<|Rr O<|QC O<|An<|Ra O<|Qj O<|Pq O ?_;exact(k (i+1) _ ⟨ω,by rw[<-z58 t (.inr V)];exact s,j⟩ ω).qb
      ·refine R5 O<|RO ?_;obtain⟨vs,H,lB,fH,Ay⟩:=id s.ex;obtain⟨x,J,W,rg⟩:=fH v _ M
       have T:∀{w':World},Kp (λb=>x.ownBlock=some b) m w'->w'.cell? ⟨l,0+v*1,none⟩=some x:=λF=>by
        rw[(F.OZ H (λe=>(rg _ e).2 O)).cell,y09,y0c];exact J
       have z3:=j.size;refine Rr O<|P4<|Pp O ?_;have Q:∀{w':World},Kp (λb=>x.ownBlock=some b) m w'->Ext w w':=λF=>j.It F (λb e=>(rg b e).1);refine PC [16] (λw'=>Kp (λb=>x.ownBlock=some b) m w') Pd O (Qm 0 O O f.kp (Qm 1 O O f.kp (Qm 2 O O f.kp (Qm 3 O O f.kp (PH 4 O (Qc Vt SJ O O ω) f.kp (Qm 6 O O f.kp (Qm 7 O O f.kp (PH 8 O (Qc Vt SJ O O ω) f.kp (Qm 10 O O f.kp (qL 5 O (λ_ h=>PG PS O O (T h)) f.kp (qL 9 O (λ_ h=>PG PS O O (Qw (Q h) D)) f.kp (PH 11 O (Qc PS Py O O ω) f.kp (qL 12 O (λ_ h=>PG R9 O O (Qw (Q h) K)) f.kp ?_)))))))))))));refine Ry (i:=13) Pd (QQ (i:=13) O O O (YD (cs:=[_]) (zs:=[Value.int .u32 0]) PS Py O Pd O O O ψ) ?_);rintro v4 w4⟨b4,rfl,⟨g7,R,aF⟩,ee⟩;refine⟨f.kp.trans R.kp,?_⟩;have q:=f.trans R;refine Ry (i:=14) Pd (QQ (i:=14) O O O (pap PS Py O ψ O O (W.ext q) ee.rd (λc hc=>by obtain⟨z,-,rfl⟩:=y0h.1 (show c∈[u].map PX from hc);rfl) ω ω) ?_);rintro v5 w5⟨Z,B,pZ,-⟩;refine⟨q.kp.trans B,?_⟩;have E:Kp (λb=>x.ownBlock=some b) m w5:=q.kp.trans B;have a0:=q.size;have vf:=E.OZ H (λe=>(rg _ e).2 O);refine PH 15 O (Qc Vt SJ O O ω) (q.kp.trans B) (TV [16] (qO 16 (Q0 (i:=16) O O (QZ SJ O O (WB Z) vf (by rw[lB,Tu];omega)) ?_)));rintro w6⟨X,N⟩;refine⟨trivial,?_⟩;have Y:=s.put (l':=U1 g d v i++[u]) H M J E (by rw[Pe,y0f];exact Z) (λb hb=>(pZ b hb).imp id λe=>ω) N X z3;rw[zeD p t U V] at Y;refine qE<|An<|Ra O<|Qj O<|Pq O ?_;exact(k (i+1) _ ⟨ω,Y,(j.It E (λb e=>(rg b e).1)).It N (λb e=>ω)⟩ ω).qb
    ·have df:i=(Pa g v).length:=ω
     refine Pf O<|An<|Ra O<|Qj O<|Pq O ?_;exact(ih (v+1) _ ⟨ω,by rw[<-zcm df];exact s,j⟩ ω).qb
  ·have p:v=g.length:=ω
   subst p;rw[ze3] at C;have G:=UY (g:=g) (d:=d);obtain⟨qb,qo,qc,L,qn⟩:=C.rw.gr.r ω;rw[G] at L;cases L;have P:=Yk (zcU (d:=d) y) (r:=root) ω qn (gc:=g.length);rw[G] at P;refine Pf O<|QG O<|Px zje O P ?_;rintro _ m⟨bd,rfl,ao,eh,j⟩;refine Pq O<|P3 func36 O ?_;exact⟨_,O,bd,O,ao,by have:=A.size;omega,A.trans j⟩
theorem setRow {bs:List Nat}{n:Nat}{f:Nat->Value}{z:Value}(h:bs.length<n):(bs.map f++List.replicate (n-bs.length) z).set bs.length (f b)=(bs++[b]).map f++List.replicate (n-(bs++[b]).length) z:=by
 obtain⟨m,d⟩:∃m,n-bs.length=m+1:=⟨n-bs.length-1,ω⟩
 have c:n-(bs++[b]).length=m:=by rw[Pe,y0S];omega
 rw[d,c,y12,y1F _ _ (by rw[y0k];omega),y0k,y1b,y2i,y0f,y2c,y05];rfl
theorem z9L (P:QJ g){root:Nat}(hr:root<g.length){go:Nat}(hg:GrR w gb go g):PN prog 13 [.slice (some ⟨gb,go,none⟩) g.length gc,I (root:Int)] w λv w'=>∃p,v= .slice (some ⟨p,0,none⟩) g.length g.length/\Pm w' p ((Y0 g root g.length 0).set root (I (root:Int))) 3/\Ext w w':=by
 have eF:maxLen=9223372036854775807:=rfl
 have hn:=P.n
 refine py (e:=[(0,_),(1,_)]) func13 O ntmps13 O O<|qN O<|Rq O<|RQ Vt O<|Ro O<|PB O<|Px zje O (Yk P hr hg) ?_
 rintro _ w1⟨br,rfl,xY,DS,ad⟩
 have z1:=ad.size
 have a1:=xY.lt
 refine Rq O<|Pb O O (pmk (c:=g.length) (n:=g.length) U95 z7t O O O ω ω ω) ?_
 rintro _ w2⟨t,rfl,⟨OW,ae,BG⟩,-⟩
 have z2:=ae.size
 obtain⟨sl,fR⟩:∃sl:Nat->Value,(λb=>Value.slice (some ⟨b,0,none⟩) g.length g.length)=sl:=⟨_,O⟩
 have vX:∀b,sl b=Value.slice (some ⟨b,0,none⟩) g.length g.length:=λb=>by rw[<-fR]
 refine Pq O<|OY<|Re O<|P6<|RX (α:=List Nat) ([]) (λbs=>[(0,.slice (some ⟨gb,go,none⟩) g.length gc),(1,I (root:Int)),(5,I (g.length:Int)),(6,.slice (some ⟨br,0,none⟩) g.length g.length),(7,.slice (some ⟨t,0,none⟩) g.length g.length),(8,I (bs.length:Int))]) (λbs w'=>bs.length<=g.length/\Pm w' t (bs.map sl++List.replicate (g.length-bs.length) (.slice none 0 0)) 96/\(∀(j b:Nat),bs[j]? =some b->Pm w' b (VR g root j g.length) 4/\b≠t/\w1.heap.size<=b)/\Ext w1 w') (λbs=>g.length-bs.length) ?hI ?hround
 case hI=>exact⟨y00 _,BG,λj b D=>(by cases D),ae⟩
 case hround =>
  rintro bs w3⟨hd,rF,sP,ah⟩ ih;dsimp only;have z3:=ah.size;have lD:=rF.lt
  try dsimp only
  refine OY<|QG O<|QY O<|P4<|Pn O (λh0=>?_)<|λh0=>?_
  ·have J : bs.length < g.length := by omega
   have aB:(bs.map sl++List.replicate (g.length-bs.length) (Value.slice none 0 0)).length=g.length:=by rw[Pe,y0k,y08];omega
   refine P5 (R0 (QG O (Ph O (Pb O O (pmk (c:=g.length) (n:=g.length) U96 TZ O O O ω ω ω) ?_))));rintro _ W⟨l,rfl,⟨g7,R,aF⟩,-⟩;have z4:=R.size;have l4:=aF.lt;refine qV (Qc U95 z7t O O ω) (Po O (QZ z7t O O O (R.OZ rF) (by rw[aB];omega)) ?_);rintro Z⟨T,N⟩;replace T:Pm Z t ((bs.map sl++List.replicate (g.length-bs.length) (Value.slice none 0 0)).set (0+bs.length*1) (.slice (some ⟨l,0,none⟩) g.length g.length)) 96:=T;rw[y09,y0c,<-vX l,setRow J] at T;have z5:=N.size
   have G:Pm Z l (VR g root bs.length 0) 4:=by
    rw[zat];exact N.OZ aF ω
   have kO:Ext w1 Z:=(ah.trans R).It N λb e=>ω
   have vY:∀(j b:Nat),bs[j]? =some b->Pm Z b (VR g root j g.length) 4/\b≠t/\w1.heap.size<=b/\b<w3.heap.size:=λj b D=>by
    obtain⟨q1,q2,q3⟩:=sP j b D;exact⟨N.OZ (R.OZ q1) q2,q2,q3,q1.lt⟩
   have sQ:∀{w':World},Kp (λb=>b=l) Z w'->Pm w' l (VR g root bs.length g.length) 4->(bs++[l]).length<=g.length/\Pm w' t ((bs++[l]).map sl++List.replicate (g.length-(bs++[l]).length) (.slice none 0 0)) 96/\(∀(j b:Nat),(bs++[l])[j]? =some b->Pm w' b (VR g root j g.length) 4/\b≠t/\w1.heap.size<=b)/\Ext w1 w':=λU z=>by
    refine⟨by rw[Pe,y0S];omega,U.OZ T ω,λj b D=>?_,kO.It U λb e=>ω⟩;by_cases e:j=bs.length
    ·subst e;rw[y0W (y02 _),y1b] at D;cases D;exact⟨z,ω,ω⟩
    ·have NQ:bs[j]? =some b:=by
      by_cases Q:j<bs.length
      ·rw[y0C Q] at D;exact D
      ·rw[y0e (by rw[Pe,y0S];omega)] at D;cases D
     obtain⟨q1,q2,q3,q4⟩:=vY j b NQ;exact⟨U.OZ q1 ω,q2,q3⟩
   have oP:∀v,v<g.length->∃x:Int,(x<0↔¬SG g root v)/\∀{w':World},Ext w1 w'->w'.cell? ⟨br,0+v*1,none⟩=some (I x):=λv V=>by
    refine⟨dI (dF (Vx g root g.length) v),z8Z P hr,λL=>?_⟩;have lB:v<(Vx g root g.length).length:=by rw[Uu];exact V
    rw[(L.OZ xY).cell,y09,y0c,y0i];unfold dF;rw[y03 lB];rfl
   obtain⟨x,L,pA⟩:=oP bs.length J;refine P4 (OY (QG O (qV (Qc Rp Qe O O ω) (qV (PG U3 O O (pA kO)) ?_))));by_cases e0:x<0
   ·refine QY O<|RO<|P4<|Pp O<|Pf O<|Ra O<|Qj O<|Pq O ((ih (bs++[l]) _ (sQ (Kp.refl _ _) ?_) (by rw[Pe,y0S];omega)).sub ?_)
    ·rw[<-zaD (L.1 e0)];exact G
    ·rw[Pe,y0S];exact(by repeat (first|exact Sub.nil|refine Sub.cons O ?_))
   ·have et : SG g root bs.length := y2Q λh => e0 (L.2 h); refine QY O (Qb (QC O (QG O (Ph O (Px zl5 O (z4Q P (d := bs.length) hr ((hg.ext ad).ext kO)) ?_))))); rintro _ X⟨b9, rfl, S, mO, K⟩; have z6 := K.size; have l9 := S.lt; have A := K.OZ G; have HH := K.OZ T; have aY := kO.trans K
    have NR:∀v,v<g.length->∃y:Int,(y<0↔¬SG (woG g bs.length) root v)/\∀{w':World},Pm w' b9 ((Vx (woG g bs.length) root g.length).map λo=>I (dI o)) 3->w'.cell? ⟨b9,0+v*1,none⟩=some (I y):=λv V=>by
     have mQ:=UY (g:=g) (d:=bs.length);have xq:=z8Z (zcU (d:=bs.length) P) (v:=root) (u:=v) ω;rw[mQ] at xq;refine⟨dI (dF (Vx (woG g bs.length) root g.length) v),xq,λz=>?_⟩;have lB:v<(Vx (woG g bs.length) root g.length).length:=by rw[Uu,mQ];exact V
     rw[z.cell,y09,y0c,y0i];unfold dF;rw[y03 lB];rfl
    refine Ro O<|Pq O<|P6<|RX (α:=Nat) (0) (λv=>[(0,.slice (some ⟨gb,go,none⟩) g.length gc),(1,I (root:Int)),(5,I (g.length:Int)),(6,.slice (some ⟨br,0,none⟩) g.length g.length),(7,.slice (some ⟨t,0,none⟩) g.length g.length),(8,I (bs.length:Int)),(9,.slice (some ⟨b9,0,none⟩) g.length g.length),(10,I (v:Int))]) (λv w'=>v<=g.length/\Pm w' l (VR g root bs.length v) 4/\Kp (λb=>b=l) X w') (λv=>g.length-v) ?hI ?hround
    case hI=>exact⟨y00 _,A,Kp.refl _ _⟩
    case hround =>
     rintro v a⟨V,B,r⟩ m;have f:=Ext.Pz a;have z7:=r.size;have cW:Ext w1 a:=aY.It r λb e=>ω
     have HI:=r.OZ S ω;have HJ:=r.OZ HH ω
     have NS:∀{w':World},Kp (λb=>b=l) a w'->w'.cell? ⟨t,0+bs.length*1,none⟩=some (.slice (some ⟨l,0,none⟩) g.length g.length):=λU=>by
      rw[(U.OZ HJ ω).cell,y09,y0c,y0C (by rw[y0k,Pe,y0S];omega),y0i,y0W (y02 _),y1b];show some (sl l)=_;rw[vX]
     try dsimp only
     refine OY<|QG O<|QY O<|P4<|Pn O (λh1=>?_)<|λh1=>?_
     ·have q:v<g.length:=ω
      obtain⟨x1,jW,HK⟩:=oP v q;obtain⟨x2,mC,HM⟩:=NR v q;have HN:=zek (v:=v) et;refine P5 (R0 (RI (λw'=>Kp (λb=>b=l) a w') O (Pu 0 O O (f.kp) (Pu 1 O O (f.kp) (P7 2 O (Qc U95 z7t O O ω) (f.kp) (Pu 4 O O (f.kp) (Pu 5 O O (f.kp) (Pu 6 O O (f.kp) (P7 7 O (Qc Rp Qe O O ω) (f.kp) (qT 3 O (λ_ h=>PG U96 O O (NS h)) (f.kp) (qT 8 O (λ_ h=>PG U3 O O (HK (cW.It h λb e=>ω))) (f.kp) ?_)))))))))));by_cases e1:x1<0
      ·have F:sdB g root bs.length v=false:=XH λe=>jW.1 e1 e.2.1;refine P7 9 O (yge O O) f.kp<|TJ<|Pu 10 O O f.kp<|qJ 11 O f.kp<|qJ 12 O f.kp<|qJ 13 O f.kp<|P7 14 O (U0 O O) f.kp<|Pu 15 O O f.kp<|qJ 16 O f.kp<|qJ 17 O f.kp<|qJ 18 O f.kp<|qJ 19 O f.kp<|qJ 20 O f.kp<|qJ 21 O f.kp ?_;refine qJ 22 O f.kp (qJ 23 O f.kp (qJ 24 O f.kp (qJ 25 O f.kp (P7 26 O (U0 O O) f.kp (P7 27 O (Qc U96 TZ O O ω) f.kp (qO 28 (Q0 (i:=28) O O (QZ TZ O O O (f.OZ B) (by rw[RG];omega)) ?_)))))));rintro E⟨k,s⟩;refine⟨f.kp.trans s,?_⟩;replace k:Pm E l ((VR g root bs.length v).set (0+v*1) (.bool false)) 4:=k;rw[y09,y0c,<-F,Xk q] at k;refine qE<|An<|Ra O<|Qj O<|Pq O ?_;exact(m (v+1) _ ⟨ω,k,(r.trans f.kp).trans s⟩ ω).qb
      ·have o5:SG g root v:=y2Q λh=>e1 (jW.2 h);refine P7 9 O (yge O O) f.kp<|TW<|Pu 10 O O f.kp<|Pu 11 O O f.kp<|Pu 12 O O f.kp ?_;by_cases Q:v=bs.length
       ·have F:sdB g root bs.length v=false:=XH λe=>e.2.2.1 Q;refine P7 13 O (yne O O) f.kp<|TJ<|P7 14 O (Ux O O) f.kp<|Pu 15 O O f.kp<|qJ 16 O f.kp<|qJ 17 O f.kp<|qJ 18 O f.kp<|qJ 19 O f.kp<|qJ 20 O f.kp<|qJ 21 O f.kp<|qJ 22 O f.kp<|qJ 23 O f.kp<|qJ 24 O f.kp<|qJ 25 O f.kp ?_;refine P7 26 O (U0 O O) f.kp (P7 27 O (Qc U96 TZ O O ω) f.kp (qO 28 (Q0 (i:=28) O O (QZ TZ O O O (f.OZ B) (by rw[RG];omega)) ?_)));rintro E⟨k,s⟩;refine⟨f.kp.trans s,?_⟩;replace k:Pm E l ((VR g root bs.length v).set (0+v*1) (.bool false)) 4:=k;rw[y09,y0c,<-F,Xk q] at k;refine qE<|An<|Ra O<|Qj O<|Pq O ?_;exact(m (v+1) _ ⟨ω,k,(r.trans f.kp).trans s⟩ ω).qb
       ·refine P7 13 O (yne O O) f.kp<|TW<|P7 14 O (Ux O O) f.kp<|Pu 15 O O f.kp<|Pu 16 O O f.kp<|Pu 17 O O f.kp ?_;by_cases e3:bs.length=root
        ·have F:sdB g root bs.length v=true:=Z2 (HN.1 ⟨o5,Q,.inl e3⟩);refine P7 18 O (yeq O O) f.kp (TW (Pu 19 O O f.kp (qJ 20 O f.kp (qJ 21 O f.kp (qJ 22 O f.kp (qJ 23 O f.kp (qJ 24 O f.kp (P7 25 O (Ux O O) f.kp (P7 26 O (Ux O O) f.kp (P7 27 O (Qc U96 TZ O O ω) f.kp (qO 28 (Q0 (i:=28) O O (QZ TZ O O O (f.OZ B) (by rw[RG];omega)) ?_))))))))))));rintro E⟨k,s⟩;refine⟨f.kp.trans s,?_⟩;replace k:Pm E l ((VR g root bs.length v).set (0+v*1) (.bool true)) 4:=k;rw[y09,y0c,<-F,Xk q] at k;refine qE<|An<|Ra O<|Qj O<|Pq O ?_;exact(m (v+1) _ ⟨ω,k,(r.trans f.kp).trans s⟩ ω).qb
        ·refine P7 18 O (yeq O O) f.kp (TJ (Pu 19 O O f.kp (Pu 20 O O f.kp (Pu 21 O O f.kp (P7 22 O (Qc Rp Qe O O ω) f.kp (qT 23 O (λ_ hS=>PG U3 O O (HM (hS.OZ HI ω))) f.kp ?_))))));by_cases e4:x2<0
         ·have F:sdB g root bs.length v=true:=Z2 (HN.1 ⟨o5,Q,.inr (mC.1 e4)⟩);refine P7 24 O (ZQ O O) f.kp (TW (P7 25 O (U0 O O) f.kp (P7 26 O (Ux O O) f.kp (P7 27 O (Qc U96 TZ O O ω) f.kp (qO 28 (Q0 (i:=28) O O (QZ TZ O O O (f.OZ B) (by rw[RG];omega)) ?_))))));rintro E⟨k,s⟩;refine⟨f.kp.trans s,?_⟩;replace k:Pm E l ((VR g root bs.length v).set (0+v*1) (.bool true)) 4:=k;rw[y09,y0c,<-F,Xk q] at k;refine qE<|An<|Ra O<|Qj O<|Pq O ?_;exact(m (v+1) _ ⟨ω,k,(r.trans f.kp).trans s⟩ ω).qb
         ·have F:sdB g root bs.length v=false:=XH λe=>(HN.2 e).2.2.elim e3 λh=>e4 (mC.2 h);refine P7 24 O (ZQ O O) f.kp (TJ (P7 25 O (U0 O O) f.kp (P7 26 O (Ux O O) f.kp (P7 27 O (Qc U96 TZ O O ω) f.kp (qO 28 (Q0 (i:=28) O O (QZ TZ O O O (f.OZ B) (by rw[RG];omega)) ?_))))));rintro E⟨k,s⟩;refine⟨f.kp.trans s,?_⟩;replace k:Pm E l ((VR g root bs.length v).set (0+v*1) (.bool false)) 4:=k;rw[y09,y0c,<-F,Xk q] at k;refine qE<|An<|Ra O<|Qj O<|Pq O ?_;exact(m (v+1) _ ⟨ω,k,(r.trans f.kp).trans s⟩ ω).qb
     ·have q:v=g.length:=ω
      subst q;refine Pf O (An (Ra O (Qj O (Pq O ((ih (bs++[l]) _ (sQ (K.kp.trans r) B) (by rw[Pe,y0S];omega)).sub ?_)))));rw[Pe,y0S];exact(by repeat (first|exact Sub.nil|refine Sub.cons O ?_))
  ·have J : bs.length = g.length := by omega
   rw[J,y1b,y2w,y0o] at rF;obtain⟨M,hM⟩:∃M,sdB g root=M:=⟨_,O⟩
   have fH:∀d,d<g.length->∃b,(∀{w':World},Ext w3 w'->w'.cell? ⟨t,0+d*1,none⟩=some (.slice (some ⟨b,0,none⟩) g.length g.length))/\∀v,v<g.length->∀{w':World},Ext w3 w'->w'.cell? ⟨b,0+v*1,none⟩=some (.bool (M d v)):=λd hd=>by
    obtain⟨b,z⟩:∃b,bs[d]? =some b:=⟨_,y03 ω⟩;refine⟨b,λL=>?_,λv V w' L=>?_⟩
    ·rw[(L.OZ rF).cell,y09,y0c,y0i,z];show some (sl b)=_;rw[vX]
    ·rw[(L.OZ (sP d b z).1).cell,y09,y0c,z5T V,hM]
   refine Pf O (PL O (Pb O O (pmk (c:=g.length) (n:=g.length) Rp Qe O O O ω ω ω) ?_));rintro _ W⟨p,rfl,⟨OX,R,vZ⟩,-⟩;have z4:=R.size;have lo:=vZ.lt;replace vZ:Pm W p (Y0 g root 0 0) 3:=by rw[zaL];exact vZ
   have JC:∀{w':World},Kp (λb=>b=p) W w'->Ext w3 w':=λU=>R.It U λb e=>ω
   refine Pq O<|OY<|Re O<|P6<|RX (α:=Nat) (0) (λv=>[(1,I (root:Int)),(5,I (g.length:Int)),(7,.slice (some ⟨t,0,none⟩) g.length g.length),(11,.slice (some ⟨p,0,none⟩) g.length g.length),(12,I (v:Int))]) (λv w'=>v<=g.length/\Pm w' p (Y0 g root v 0) 3/\Kp (λb=>b=p) W w') (λv=>g.length-v) ?hI ?hround
   case hI=>exact⟨y00 _,vZ,Kp.refl _ _⟩
   case hround =>
    rintro v Z⟨V,G,N⟩ a0
    try dsimp only
    refine OY<|QG O<|QY O<|P4<|Pn O (λh1=>?_)<|λh1=>?_
    ·have q : v < g.length := by omega
     refine P5 (R0 (QG O (qV (Qc Rp Qe O O ω) (Po O (QZ Qe O O O G (by rw[RV];omega)) ?_))));rintro X⟨A,aG⟩;replace A:Pm X p ((Y0 g root v 0).set (0+v*1) (I (-1))) 3:=A;rw[y09,y0c,z5e q] at A;have iT:=N.trans aG;refine qM O<|Pq O<|P6<|RX (α:=Nat) (0) (λd=>[(1,I (root:Int)),(5,I (g.length:Int)),(7,.slice (some ⟨t,0,none⟩) g.length g.length),(11,.slice (some ⟨p,0,none⟩) g.length g.length),(12,I (v:Int)),(13,I (d:Int))]) (λd w'=>d<=g.length/\Pm w' p (Y0 g root v (ldm M g.length v d)) 3/\Kp (λb=>b=p) W w') (λd=>g.length-d) ?hI ?hround
     case hI=>exact⟨y00 _,A,iT⟩
     case hround=>
      rintro d a⟨hd,B,r⟩ m
      try dsimp only
      refine OY<|QG O<|QY O<|P4<|Pn O (λh2=>?_)<|λh2=>?_
      ·have J:d<g.length:=ω
       have Y:=JC r;obtain⟨rd,qk,qZ⟩:=fH d J;have wW:ldm M g.length v (d+1)=if Vo M d v g.length=true then(d:Int) else ldm M g.length v d:=rfl;refine P5<|R0<|QG O<|qV (Qc U95 z7t O O ω)<|qV (PG U96 O O (qk Y))<|Ph O<|qV (Qc U96 TZ O O ω)<|qV (PG U4 O O (qZ v q Y))<|Pq O<|OY<|Re O<|P6<|RX (α:=Nat) (0) (λo=>[(1,I (root:Int)),(5,I (g.length:Int)),(7,.slice (some ⟨t,0,none⟩) g.length g.length),(11,.slice (some ⟨p,0,none⟩) g.length g.length),(12,I (v:Int)),(13,I (d:Int)),(14,.bool (Vo M d v o)),(15,I (o:Int))]) (λo w'=>o<=g.length/\w'=a) (λo=>g.length-o) ?hI ?hround
       case hI=>exact⟨y00 _,O⟩
       case hround=>
        rintro o E⟨ho,rfl⟩ H;have C:Vo M d v (o+1)=(Vo M d v o&&(!M o v ||decide (o=d) ||M o d)):=rfl
        try dsimp only
        refine OY<|QG O<|QY O<|P4<|Pn O (λh3=>?_)<|λh3=>?_
        ·have pn:o<g.length:=ω
         obtain⟨ro,Bg,Bh⟩:=fH o pn
         cases z:Vo M d v o with
         | false =>
           rw[z] at C;refine P5<|R0<|Pc O<|PB O<|QV<|QV<|QV<|QV<|QV<|QV<|QV<|QV<|QV<|QV ?_;refine QV (Ql O (Pq O (An (Ra O (Qj O (Pq O ((H (o+1) _ ⟨ω,O⟩ ω).sub ?_)))))));rw[C]
           exact(by repeat (first|exact Sub.nil|refine Sub.cons O ?_))
         | true =>
           rw[z] at C;refine P5<|R0<|Pc O<|PB O<|PB O<|qV (Qc U95 z7t O O ω)<|qV (PG U96 O O (Bg Y))<|Ph O<|qV (Qc U96 TZ O O ω)<|qV (PG U4 O O (Bh v q Y)) ?_
           cases ku:M o v with
           | false =>
             rw[ku] at C;refine qV (SD O) ?_;rw[show(!false)=true from rfl];refine Ph O<|QV<|qS<|Rr O<|Ph O<|QV<|QV<|QV<|qS<|Rr O<|Rr O<|Pq O<|An<|Ra O ?_;refine Qj O (Pq O ((H (o+1) _ ⟨ω,O⟩ ω).sub ?_));rw[C]
             exact(by repeat (first|exact Sub.nil|refine Sub.cons O ?_))
           | true =>
             rw[ku] at C;refine qV (SD O) ?_;rw[show(!true)=false from rfl];refine PB O<|Ph O ?_;by_cases JD:o=d
             ·rw[decide_eq_true JD] at C;refine Rx O<|RO<|Ql O<|Ph O<|QV<|QV<|QV<|qS<|Rr O<|Rr O<|Pq O<|An<|Ra O<|Qj O ?_;refine Pq O ((H (o+1) _ ⟨ω,O⟩ ω).sub ?_);rw[C];exact(by repeat (first|exact Sub.nil|refine Sub.cons O ?_))
             ·rw[decide_eq_false JD] at C;refine Rx O (Qb (Ql O (PB O (Ph O (qV (Qc U95 z7t O O ω) (qV (PG U96 O O (Bg Y)) (Ph O (qV (Qc U96 TZ O O ω) (qV (PG U4 O O (Bh d J Y)) (Ql O (Rr O (Pq O (An ?_)))))))))))));refine Ra O (Qj O (Pq O ((H (o+1) _ ⟨ω,O⟩ ω).sub ?_)));rw[C];exact(by repeat (first|exact Sub.nil|refine Sub.cons O ?_))
        ·have pn:o=g.length:=ω
         subst pn;refine Pf O<|PL O<|P4 ?_
         cases z:Vo M d v g.length with
         | false =>
           rw[z,if_neg ψ] at wW;refine Tj O<|An<|Ra O<|Qj O<|Pq O ?_
           exact(m (d+1) _ ⟨ω,by rw[wW];exact B,r⟩ ω).qb
         | true =>
           rw[z,if_pos O] at wW;refine Pp O (Pc O (PB O (Ph O (qV (Qc Rp Qe O O ω) (Po O (QZ Qe O O O B (by rw[RV];omega)) ?_)))));rintro w9⟨S,aN⟩;replace S:Pm w9 p ((Y0 g root v (ldm M g.length v d)).set (0+v*1) (I (d:Int))) 3:=S;rw[y09,y0c,z5e q] at S;refine P4<|An<|Ra O<|Qj O<|Pq O ?_;exact(m (d+1) _ ⟨ω,by rw[wW];exact S,r.trans aN⟩ ω).qb
      ·have J:d=g.length:=ω
       subst J;rw[<-hM,z9V] at B;refine Pf O<|An<|Ra O<|Qj O<|Pq O ?_;exact(a0 (v+1) _ ⟨ω,B,r⟩ ω).qb
    ·have q:v=g.length:=ω
     subst q;refine Pf O (QG O (Ph O (qV (Qc Rp Qe O O ω) (Po O (QZ Qe O O O G (by rw[RV];omega)) ?_))));rintro X⟨A,aG⟩;replace A:Pm X p ((Y0 g root g.length 0).set (0+root*1) (I (root:Int))) 3:=A;rw[y09,y0c] at A;refine qM O<|Ph O<|Pq O<|P3 func13 O ?_;exact⟨_,O,p,O,A,(ad.trans ah).trans (JC (N.trans aG))⟩
theorem domthrough_ret (hG:Pm w 1 (SI .gamma) 314)(hU:Pm w 2 (SI .unary) 314)(n root fr fo:Int)(hn:JIq n)(js:JIq root)(jD:JIq fr)(vh:JIq fo){ea:Option Addr}{ec:Nat}{es:List (Nat×Nat)}(ui:es.length<=9000000000000000000)(hE:EdR w ea es):PN prog 3 [I n,.slice ea es.length ec,I root,I fr,I fo] w λv w'=>v= .bool true/\Ext w w':=by
 refine py (e:=[(0,_),(1,_),(2,_),(3,_),(4,_)]) func3 O ntmps3 O O<|qN O<|Rq O<|Px cf9 O (z3v n hn _) ?_
 rintro _ w⟨m,rfl,ku,dL,rfl⟩
 refine Ph O<|Px cf8 O (z9W ku dL ui hE) ?_
 rintro _ w1⟨g,bg,rfl,jC,p,gX,Z⟩
 have r1:=Vn root (g.length:Int) ω
 have r2:=XD root (g.length:Int) ω
 refine Ro O<|PB O<|RQ Vt O<|qV (yrt O O ω)<|Ph O<|RQ Vt O<|Qj O<|Ph O<|RQ Vt O<|qV (yrt O O ω) ?_
 rw[show(root.tmod (g.length:Int)+(g.length:Int)).tmod (g.length:Int)=nrm root (g.length:Int) from rfl]
 obtain⟨r,hr,F⟩:∃r:Nat,nrm root (g.length:Int)=(r:Int)/\r<g.length:=⟨(nrm root (g.length:Int)).toNat,ω,ω⟩
 rw[hr]
 have Bi:=gX.gr
 have bj:1<=g.length:=ω
 have ia:g.length<=40:=ω
 have JE:=Z.OZ hG
 have JF:=Z.OZ hU
 refine Ro O<|PB O<|Ph O<|Px ziq O (z8o p bj ia Bi JE JF fr fo jD vh) ?_
 rintro _ w5⟨W,XX,rfl,t,aS,f9⟩
 have z5:=aS.size
 refine Ph O<|Ta O<|Pb O O (S5 (cs:=[_,_,_,_,_]) z2D O) ?_
 rintro _ w6⟨b6,rfl,oT,aM,aJ⟩
 have z6:=aM.size
 refine Po O (Qh (news:=W.v) z2D O O O O aJ ξ) ?_
 rintro w7⟨bE,av⟩
 have lL:Pm w7 b6 [ptr W.d 0,ptr W.Q.s 0,ptr W.G.k 0,ptr W.T.k 0,I ((200-W.a:Nat):Int)] 30:=bE
 have l7:=bE.lt
 have z7:=av.size
 have ko:Ext w5 w7:=aM.It av λb e=>ω
 have cW:=aS.trans ko
 have Js:=t.K
 refine Pq O<|PM.qb (e:=[(2,_),(10,_),(11,_),(12,_),(13,_)]) ?_
 refine Qi O<|qV (SD O) ?_
 rw[show(!true)=false from rfl]
 refine Ph O<|Px zlV O (z6l (cW.OZ JE) (cW.OZ JF)) ?_
 rintro _ w8⟨rfl,R⟩
 refine qV (SD O) ?_
 rw[show(!true)=false from rfl]
 have bh:=R.OZ lL
 obtain⟨X,hX⟩:∃X:Nat->Prop,(λb=>W.x XX b\/b=b6)=X:=⟨_,O⟩
 have NT:∀b,b<w1.heap.size->X b:=λb hb=>by rw[<-hX];exact .inl (f9 b hb)
 have z8:=R.size
 have h8:WG W.G W.T W.Q W.txt W.K X w8:=t.gw2.grow (ko.trans R) (λj e=>by rw[<-hX] at e;exact e.imp id λe=>ω) (λj e=>by rw[<-hX];exact .inl e)
 refine Ql O<|QC O<|qN O<|qV (PO U30 O z2D O (Pm.cells (n:=5) bh (news:=[_,_,_,_,_]) O) O)<|Ph O<|Px ziu O (Yd h8 ω t.gg t.tg t.pre t.a t.L t.gs t.ts p F ia) ?_
 rintro _ w9⟨k,gb,gc,a0,K9,rfl,aK,Ei,nu,-,-,mO,-,aN⟩
 have gI:Ext w1 w9:=(cW.trans R).It aN λb e=>by
  rcases y0a b w1.heap.size with h| h
  ·exact absurd (NT b h) e
  ·exact h
 obtain⟨Y,P,aq,wq⟩:=Ei.e p F (λu v=>z0f p)
 obtain⟨M,kh⟩:∃M,(UD g (QO g) r k).num=M:=⟨_,O⟩
 rw[kh] at P aq wq
 have sR:GrR w9 bg 0 g:=by
  obtain⟨a1,a3,a2,e,hq⟩:=Bi.r bj;cases e;exact hq.ext gI
 obtain⟨D,rH⟩:∃D,(UD g (QO g) r k).cand=D:=⟨_,O⟩
 rw[rH] at Y nu
 obtain⟨num,par,hT,hD,-⟩:=Y.ex
 have uu:∀v,v<g.length->∃c,Tm D v=c/\(c≠4294967295↔SG g r v)/\(c≠4294967295->c<g.length)/\w9.cell? ⟨gb,0+v*1,none⟩=some (Pt (dmV c)):=λv z=>by
  obtain⟨c,S,H,U,h4⟩:=Y.get p F z;exact⟨c,H,U,h4,Qs nu.rd (i:=v) (v:=Pt (dmV c)) (by rw[y0i,S];rfl)⟩
 have pj:∀c,c≠4294967295->dmV c=c:=λc h=>if_neg h
 have Bj:Tm D r=r:=hD.i.fo.rt
 refine Ph O<|Ta O<|SO O<|Ro O<|PB O<|Px zlo O (z9L p F sR) ?_
 rintro _ B⟨bo,rfl,vZ,bG⟩
 have Bk:∀v,v<g.length->∃x:Int,(¬SG g r v->x=-1)/\(SG g r v->x=(Tm D v:Int))/\∀{w':World},Ext B w'->w'.cell? ⟨bo,0+v*1,none⟩=some (I x):=λv z=>by
  by_cases e:v=r
  ·refine⟨(r:Int),λh=>absurd (by rw[e];exact .refl) h,λ_=>by rw[e,Bj],λo=>?_⟩;rw[(o.OZ vZ).cell,y09,y0c,e,y0Q (by rw[RV];exact F)]
  ·obtain⟨i1,i2⟩:=zer p F hT hD e;refine⟨ldm (sdB g r) g.length v g.length,i2,i1,λo=>?_⟩;rw[(o.OZ vZ).cell,y09,y0c,y0A (λh=>e h.symm),UT z,if_pos z]
 have eP:=gI.trans bG
 have wc:∀v,v<g.length->∃c,Tm D v=c/\(c≠4294967295↔SG g r v)/\(c≠4294967295->c<g.length)/\∀{w':World},Ext B w'->w'.cell? ⟨gb,0+v*1,none⟩=some (Pt (dmV c)):=λv z=>by
  obtain⟨c,S,H,U,h4⟩:=uu v z;exact⟨c,S,H,U,λo=>Qw (bG.trans o) h4⟩
 obtain⟨f,pB⟩:∃f:Nat->Nat,(λv=>((List.range v).map λu=>if nF M u=4294967295 then 0 else 1+(Pa g u).length).sum)=f:=⟨_,O⟩
 have HP:f 0=0:=by rw[<-pB];rfl
 have HQ:f g.length=z0P g M:=by rw[<-pB];rfl
 have Bl:∀v,f (v+1)=f v+if nF M v=4294967295 then 0 else 1+(Pa g v).length:=λv=>by
  rw[<-pB];show((List.range (v+1)).map _).sum=_;rw[y0P,y0f,y0Y,y2c,y0I,y1s,y1e]
 have Bm:∀v,v<=g.length->f v<=v*41:=λv=>by
  induction v with
  |zero=>intro _;omega
  | succ v J =>
    intro z;have S:=J ω;have H:=Bl v
    have U:(Pa g v).length<=g.length:=by
     unfold Pa;rw[y03 (show v<g.length by omega)];exact p.len (y1d _)
    split at H<;>omega
 refine Pq O<|Qi O<|Rx O<|Qb<|PB O<|RQ U34 O<|Ph O<|RQ Rp O<|R5 O<|Qb<|Ql O<|P4<|PM.qb (e:=[(10,_),(11,_),(14,_),(15,_),(16,_),(64,_)]) ?_
 refine Tj O<|Re O<|OY<|Re O<|P6<|RX (α:=Nat×Nat) (0,0) (λy=>[(11,.slice (some ⟨bg,0,none⟩) g.length g.length),(14,.slice (some ⟨gb,0,none⟩) g.length gc),(15,I (k:Int)),(16,.slice (some ⟨bo,0,none⟩) g.length g.length),(17,I (y.2:Int)),(18,I (y.1:Int))]) (λy w'=>y.1<=g.length/\y.2=f y.1/\Ext B w') (λy=>g.length-y.1) ?hI ?hround
 case hI=>exact⟨y00 _,HP.symm,Ext.refl _⟩
 case hround=>
  rintro⟨v,s⟩ w' ⟨z,hs,l⟩ J;dsimp only at z hs J⊢;subst hs;have hg:=Ext.Pz w'
  try dsimp only
  refine OY<|QG O<|RQ Vt O<|QY O<|P4<|Pn O (λh0=>?_)<|λh0=>?_
  ·have A:v<g.length:=ω
   obtain⟨c,c1,c2,c3,c4⟩:=wc v A;obtain⟨x,x1,x2,C⟩:=Bk v A;have N:=Bl v;have I0:=Bm (v+1) ω;have dY:g[v]? =some (Pa g v):=by unfold Pa;rw[y03 A];rfl
   have fR:(Pa g v).length<=g.length:=p.len (y0j dY);by_cases E:SG g r v
   ·have V:=c2.2 E;have ff:=c3 V;have o:=x2 E;rw[c1] at o;have wZ:dmV c=c:=if_neg V;rw[wZ] at c4;rw[if_neg ((wq v A).2 E)] at N;obtain⟨ra,rc,eD,fg⟩:=sR v _ dY;have HR:=Qw bG eD;subst o;refine P5 (R0 (OY (OY (RI (λw2=>Ext w' w2) O (Pu 0 O O hg (Pu 1 O O hg (P7 2 O (Qc Rp Qe O O ω) hg (qT 3 O (λ_ h=>PG U3 O O (C (l.trans h))) hg (P7 4 O (ZQ O O) hg (TJ (Pu 5 O O hg (qJ 6 O hg (qJ 7 O hg ?_)))))))))))));refine qJ 8 O hg (qJ 9 O hg (qJ 10 O hg (P7 11 O (U0 O O) hg (Pu 12 O O hg (Pu 13 O O hg (Pu 14 O O hg (P7 15 O (Qc Rp Qe O O ω) hg (qT 16 O (λ_ h=>PG U3 O O (C (l.trans h))) hg (P7 17 O (yge O O) hg (TW (Pu 18 O O hg (Pu 19 O O hg (Pu 20 O O hg ?_)))))))))))));refine P7 21 O (Qc U34 TH O O ω) hg (Pu 23 O O hg (Pu 24 O O hg (P7 25 O (Qc Rp Qe O O ω) hg (qT 22 O (λ_ h=>PG RW O O (c4 (l.trans h))) hg (qT 26 O (λ_ h=>PG U3 O O (C (l.trans h))) hg (P7 27 O (QH O U3 RW ω) hg (P7 28 O (yne O O) hg (TJ (P7 29 O (Ux O O) hg (P7 30 O (U0 O O) hg (qE (Tj O (QG O ?_)))))))))))));refine qV (Qc Rp Qe O O ω) (qV (PG U3 O O (C (l.trans hg))) (Uj O (RO (P4 (Pp O (Ra O (Qj O (PB O (qV (Qc Vt SJ O O ω) (qV (PG PS O O (Qw (l.trans hg) HR)) (RQ PS O (Qj O (Pq O ?_)))))))))))));refine An<|Ra O<|Qj O<|Pq O ?_;rw[show(f v:Int)+1+((Pa g v).length:Int)=((f (v+1):Nat):Int) by rw[N];push_cast;omega];exact(J (v+1,f (v+1)) _ ⟨by show v+1<=g.length;omega,rfl,l.trans hg⟩ (by show g.length-(v+1)<g.length-v;omega)).qb
   ·have V:c=4294967295:=y2Q λh=>E (c2.1 h);have o:=x1 E;have wZ:dmV c=18446744073709551615:=if_pos V;rw[wZ] at c4;rw[if_pos (y2Q λh=>E ((wq v A).1 h))] at N;subst o;refine P5 (R0 (OY (OY (RI (λw2=>Ext w' w2) O (Pu 0 O O hg (Pu 1 O O hg (P7 2 O (Qc Rp Qe O O ω) hg (qT 3 O (λ_ h=>PG U3 O O (C (l.trans h))) hg (P7 4 O (ZQ O O) hg (TW (Pu 5 O O hg (Pu 6 O O hg (Pu 7 O O hg ?_)))))))))))));refine P7 8 O (Qc U34 TH O O ω) hg (qT 9 O (λ_ h=>PG RW O O (c4 (l.trans h))) hg (P7 10 O (yne O O) hg (TJ (P7 11 O (Ux O O) hg (Pu 12 O O hg (Pu 13 O O hg (Pu 14 O O hg (P7 15 O (Qc Rp Qe O O ω) hg (qT 16 O (λ_ h=>PG U3 O O (C (l.trans h))) hg (P7 17 O (yge O O) hg (TJ (Pu 18 O O hg (qJ 19 O hg ?_)))))))))))));refine qJ 20 O hg<|qJ 21 O hg<|qJ 22 O hg<|qJ 23 O hg<|qJ 24 O hg<|qJ 25 O hg<|qJ 26 O hg<|qJ 27 O hg<|qJ 28 O hg<|P7 29 O (U0 O O) hg<|P7 30 O (U0 O O) hg<|qE<|Tj O<|QG O ?_;refine qV (Qc Rp Qe O O ω)<|qV (PG U3 O O (C (l.trans hg)))<|Uj O<|Qb<|QC O<|An<|Ra O<|Qj O<|Pq O ?_;rw[show f v=f (v+1) by rw[N];rfl];exact(J (v+1,f (v+1)) _ ⟨by show v+1<=g.length;omega,rfl,l.trans hg⟩ (by show g.length-(v+1)<g.length-v;omega)).qb
  ·have A:v=g.length:=ω
   subst A;have hb:=Bm g.length (y02 _);refine Pf O (PL O (Qj O (qV (X5 O O ω) ?_)));rw[show((f g.length:Int)+63) / 64=(((f g.length+63) / 64:Nat):Int) by omega];rw[<-HQ] at P aq;obtain⟨q,hq⟩:∃q,(f g.length+63) / 64=q:=⟨_,O⟩;rw[hq] at P aq⊢;refine Ro O<|PB O<|R8 O<|RO<|PB O<|PB O<|RQ Vt O<|Qj O<|Qj O<|zle O<|RO<|Rr O<|Pq O<|PM.qb (e:=[(10,_)]) ?_;refine P3 func3 O ?_;exact⟨_,O,O,Z.trans (eP.trans l)⟩
end Go.Proofs.YtbihggbffaigjaaGreatDoor
namespace Go.Proofs.YtbihggbffaigjaaGreatDoor
open Go Go.ChangeShapes Go.WideShapes Go.ChangeAt Go.RowKit Go.Proofs.Tryz
variable {G T:YF}{K a b fuel:Nat}{P:Program}{Q:RE}{W w:World}{X:Nat->Prop}{cs:Array Value}{g:List (List Nat)}{laid:List (String×DataW Unit)}
def z0e (P:Program)(ts:List TypeId):Bool:=ts.all λt=>P.readableRec t&&decide (t<P.types.size)
def Yn {H:Type}{enc:TypeId×Value->H}{P:Program}(j:laidOutB P=true){W e:World}(i:Below W.heap.size W e):
  ∀ {ts : List TypeId} {vs : List Value} {c : List (DataW H)} {ps : List MemPlace}, z0e P ts = true -> DataW.TrodAll enc P W 0 (λ_ => true) true ts vs c ps ->
    DataW.TrodAll enc P e 0 (λb=>decide (b<W.heap.size)) true ts vs c ps
 |[],[],[],_,_,h=>h
 | t :: ts, v :: vs, d :: c, _, hr, h => by
   obtain⟨p,q,f,k,rfl⟩:=h;simp only[z0e,List.all_cons,y0w,decide_eq_true_eq] at hr
   exact⟨p,q,Below.trod j hr.1.1 hr.1.2 f i (by obtain⟨m,l⟩:=f;exact DataW.trod_lt m _ _ _ l),Yn j i hr.2 k,O⟩
 |[],[],_::_,_,_,h=>h.elim
 |[],_::_,_,_,_,h=>h.elim
 |_::_,[],_,_,_,h=>h.elim
 |_::_,_::_,[],_,_,h=>h.elim
def z0s {H:Type}{enc:TypeId×Value->H}{P:Program}{W:World}{e:Nat}{c:Nat->Bool}{held:Bool}:
  ∀{ts:List TypeId} {vs:List Value} {f:List (DataW H)} {ps:List MemPlace},DataW.TrodAll enc P W e c held ts vs f ps->f.length=ts.length
 |[],[],[],_,_=>rfl
 | t :: ts, v :: vs, d :: f, _, h => by
   obtain⟨p,q,j,i,rfl⟩:=h
   simpa using z0s i
 |[],[],_::_,_,h=>h.elim
 |[],_::_,_,_,h=>h.elim
 |_::_,[],_,_,h=>h.elim
 |_::_,_::_,[],_,h=>h.elim
def own:ownKnob prog.godebug=none:=Pd
def laidOut:laidOutB prog=true:=Pd
open Go.Deep
section
variable {H:Type}{enc:TypeId×Value->H}{sp:Nat->Bool}
def zc9 (n:Int)(h:(Lit.int .u32 n).wf=true):Value.int .u32 n=PX n.toNat/\n.toNat<4294967296:=by
 simp[Lit.wf,IntKind.min,IntKind.max,IntKind.signed,IntKind.bits] at h
 exact⟨by unfold PX;congr;omega,ω⟩
def i64_in (n:Int)(h:(Lit.int .i64 n).wf=true):JIq n:=by
 simp[Lit.wf,IntKind.min,IntKind.max,IntKind.signed,IntKind.bits] at h;omega
def zan {off:Nat}{c:Option Nat}{v:Value}(h:w.cell? ⟨b,off,c⟩=some v):c=none:=by
 unfold World.cell? at h
 split at h
 ·cases c with
  |none=>rfl
  |some s=>simp at h
 ·cases h
theorem open_edges {v:Value}{x:DataW H×List MemPlace}(h:DataW.trod enc prog W 0 sp true fuel 22 [v]=some x)(M:∀n∈x.1.weights prog 22,n<=reachBytes):∃(q:Option Addr)(C:Nat) (j:List (Nat×Nat)),v= .slice q j.length C/\EdR W q j/\j.length<=9000000000000000000:=by
 rcases open_slice_pairs U22 U81 Pd O O Pd Pd h with⟨l,t⟩|⟨a,len,cap,m,n,z,A,V,Y,Z,g,l,-,G,K,y,t,N⟩
 ·cases l;exact⟨none,0,[],O,λi e c=>by simp at c,ξ⟩
 ·cases l;have w:maxLen=9223372036854775807:=rfl;have P:len<=m:=by rw[y];split<;>omega
  have L:∀i,i<len->∃e:Nat×Nat,e.1<4294967296/\e.2<4294967296/\W.cell? (a.add (i*2))=some (PX e.1)/\W.cell? (a.add (i*2+1))=some (PX e.2):=λi hi=>by
   obtain⟨c0,c1,I,J⟩:=N i ω;obtain⟨o,d,-,f0⟩:=y2W R9 I;obtain⟨n1,f,-,f1⟩:=y2W R9 J;have d:z i= .int .u32 o:=by simpa using d
   have f:A i= .int .u32 n1:=by simpa using f
   obtain⟨S,B⟩:=zc9 o f0;obtain⟨U,b1⟩:=zc9 n1 f1;exact⟨(o.toNat,n1.toNat),B,b1,by rw[c0,d,S],by rw[c1,f,U]⟩
  obtain⟨E,s⟩:∃E:Nat->Nat×Nat,∀i,i<len->(E i).1<4294967296/\(E i).2<4294967296/\W.cell? (a.add (i*2))=some (PX (E i).1)/\W.cell? (a.add (i*2+1))=some (PX (E i).2):=
   choose_lt (α:=Nat×Nat) (n:=len) (p:=λi e=>e.1<4294967296/\e.2<4294967296/\W.cell? (a.add (i*2))=some (PX e.1)/\W.cell? (a.add (i*2+1))=some (PX e.2)) L
  refine⟨some a,cap,(List.range len).map E,ξ,λi e c=>?_,?_⟩
  ·rw[y0i] at c;rcases y0a i len with hi|hi
   ·rw[y1i hi] at c;obtain rfl:=RZ c;obtain⟨D,F,r,g4⟩:=s i hi;obtain⟨b,off,u⟩:=a;have k:=(s 0 ω).2.2.1;rw[y20] at k;simp only[Addr.add,if_true] at k;obtain rfl:=zan k;rw[RU] at r g4;exact⟨D,F,b,off,O,r,by rw[y1t];exact g4⟩
   ·rw[y0e (by simpa using hi)] at c;cases c
  ·have R:=M ((len+(m-len))*8) (by rw[t];simp[DataW.weights,U22,show prog.bytesOf 81=8 by kernel_rfl]);simp[reachBytes] at R;simp;omega
end
theorem law_lifted_tied {H:Type}{enc:TypeId×Value->H}{C:Checked}{os:Os}{f:FuncId}{fn:Func}{s:ChangeSpec}{t:TypeId}{ts:List TypeId}
  (own:ownKnob C.prog.godebug=none) (l:os.Started) (hl:laidOutB C.prog=true) (o:C.prog.inits.idxOf? f=none) (R:C.prog.funcs[f]? =some fn)
  (n:fn.params.toList=ts) (Y:z0e C.prog ts=true) (Z:fn.resultTypes=#[t]) (hb:C.prog.underlying t=some .bool) (u:s.vars=[])
  (U:(laid.all λx=>x.2.handleName?.isNone)=true)
  (c:∀d:List (DataW H),d.length=ts.length->s.fn H d={results:=[.lit (.bool true)],args:=d})
  (m:∃(w:World)(tape:Tape) (i:Input),w.os=os/\(w.forCall tape i).Shaped C.prog/\i.vars=[]/\Input.okWide C.prog (w.forCall tape i) .any w.heap.size f i/\
   ((s.pre enc C.prog fn [] false (w.forCall tape i).memory i.args/\laidMetH C.prog laid (w.forCall tape i).memory)/\sizedMet enc C.prog fn (OpenSpec.ofChange s) false (w.forCall tape i).memory i.args)/\({}:Assume).holds C.prog (lone (Frame.enter C.prog f i.args .normal) [] (w.forCall tape i)))
  (F:∀(W:World)(y:Nat) (args:List Value) (d:List (DataW H)) (ps:List MemPlace),W.ShapedOpen C.prog->laidMet C.prog laid W->
   (∀(j:Nat) t v,ts[j]? =some t->args[j]? =some v->Value.okWide C.prog W .any y t v)->
   DataW.TrodAll enc C.prog W 0 (λ_=>true) true ts args d ps->W.noneFrozen ps->
   (DataW.weightsEach C.prog ts d).all (·<=reachBytes)=true->
   PN C.prog f args W λv w'=>v= .bool true/\Ext W w'):
  ReturnsInHanded {} C os f .any (λw args=>(s.pre enc C.prog fn [] false w args/\laidMetH C.prog laid w)/\sizedMet enc C.prog fn (OpenSpec.ofChange s) false w args) (s.post enc C.prog fn false true false false):=by
 refine returnsInHanded_of_calls own l o m ?_
 intro w tape i _ a _ S E M
 obtain⟨_,_,_,z,B,_,_,_,_,I⟩:=S
 have e:z=fn:=y11 (B.symm.trans R)
 subst e
 obtain⟨⟨⟨d,gs,J,Q,hc⟩,N⟩,hz⟩:=E
 have P:=DataW.Whole.of_heap (w':=w.forCall tape i) (by rfl) Q
 have O:=P
 have r:(DataW.weightsEach C.prog (z.params.toList++s.plain.varTypes C.prog) (d++gs)).all (·<=reachBytes)=true:=hz.weights Q
 obtain⟨p,q,L,K,rfl,D,_⟩:=P
 rw[u] at K
 obtain⟨rfl,rfl⟩:=trodVars_none K
 rw[n] at L
 have k:=z0s L
 have b:(DataW.weightsEach C.prog ts d).all (·<=reachBytes)=true:=by
  have g:s.plain.varTypes C.prog=[]:=by simp[ChangeSpec.plain,DataSpec.varTypes,u]
  rw[n,g,y0o,y0o] at r;exact r
 have X:laidMet C.prog laid (w.forCall tape i):=by
  rw[MakeChecks.laidMetH_plain _ _ _ U] at N;exact N.of_heap (by rfl)
 have V:=F _ w.heap.size i.args.toList d p a X (λj t v G T=>I j t v (by rw[<-n] at G;simpa using G) (by simpa using T)) L (by rw[y0o] at D;exact D) b
 unfold PN at V;rw[y3f] at V
 refine y1C V λx W' ⟨v,N,g,A⟩=>?_
 subst N;subst g
 have bel:=A.below
 refine ChangeSpec.post_blind ⟨d,[],p++[],[],p,[],O,?_,?_,?_,bel.frame _,λh=>by cases h⟩
 ·rw[y0o,c d k,Z];exact trodAll_mk1 (shut_bool hb _)
 ·rw[y0o,c d k,n];exact Yn hl bel Y L
 ·rw[u,y0o,c d k]
  rfl
def pair_cells {t:Nat}{f0 f1:Field}{e f:IntKind}{a b:Int}{p:List MemPlace}(o:P.underlying t=some (.struct #[f0,f1]))(l:P.cellsOf t=2)(q:f0.offset=0)(r:f1.offset=1)
  (c0:P.cellsOf f0.type=1) (c1:P.cellsOf f1.type=1) (s:P.underlying f0.type=some (.int e)) (u:P.underlying f1.type=some (.int f))
  (m:DataW.trod (λ_=>()) P W 0 (λ_=>true) false fuel t cs.toList=some (.agg [.lit (.int e a),.lit (.int f b)],p)):cs.toList=[.int e a,.int f b]:=by
 obtain⟨A,B,n,i,h,j,k⟩:=trod_struct2 o m
 obtain⟨v,c,rfl,-⟩:=y2W s j
 obtain⟨z,d,rfl,-⟩:=y2W u k
 rw[l] at h
 rw[q,c0] at c
 rw[r,c1] at d
 simp at i
 obtain⟨⟨rfl,rfl⟩,-⟩:=i
 match hcs:cs.toList,h with
 | [x, y], _ =>
   rw[hcs] at c d;simp at c d;rw[c,d]
def z8K {n:String}{g T:Nat}{l:List Value}(o:W.ShapedOpen P)(h:g<P.globals.size)(d:(((begin P (λ_ _=>0) default).world.heap[g]?).bind Obj.row?).map (·.2)=some T)(hg:P.globalNamed n=some g)(m:W.var? P n=some cs)(f:cs.toList=l):Pm W g l T:=by
 cases j:((begin P (λ_ _=>0) default).world.heap[g]?).bind Obj.row? with
 |none=>rw[j] at d;cases d
 | some x =>
   obtain⟨z,t⟩:=x;rw[j] at d;obtain rfl:t=T:=y11 d;obtain⟨c,k,-,-⟩:=o.1 g z t h j;simp only[World.var?,hg,y3p,k] at m;have p:c=cs:=by simpa using m
   subst p;refine⟨(0,0),by rw[k,<-f],λi _ e=>by simp at e⟩
def laid_two (c:laid=[("wattle/list.gamma",.agg [.lit (.int .u8 1),.lit (.int .u64 0)]),("wattle/list.unary",.agg [.lit (.int .u8 0),.lit (.int .u64 0)])])(q:W.ShapedOpen prog)(h:laidMet prog laid W):Pm W 1 [.int .u8 1,.int .u64 0] 314/\Pm W 2 [.int .u8 0,.int .u64 0] 314:=by
 subst c
 obtain⟨ps,f,-,hB⟩:=h
 obtain⟨y,t0,r,i,p0,B,d,m,o,k,f,v⟩:=f
 obtain⟨z,t1,s,j,A,C,e,n,p,l,f,x⟩:=f
 obtain rfl:=y11 ((show prog.globalNamed "wattle/list.gamma"=some 1 by kernel_rfl).symm.trans d)
 obtain rfl:=y11 ((show prog.globalNamed "wattle/list.unary"=some 2 by kernel_rfl).symm.trans e)
 obtain rfl:=y11 ((show(prog.globals[1]?).map (·.type)=some 314 by kernel_rfl).symm.trans m)
 obtain rfl:=y11 ((show(prog.globals[2]?).map (·.type)=some 314 by kernel_rfl).symm.trans n)
 have t:=pair_cells underlying314 Pd O O Pd Pd underlying5 underlying39 k
 have u:=pair_cells underlying314 Pd O O Pd Pd underlying5 underlying39 l
 exact⟨z8K q (show 1<prog.globals.size from of_decide_eq_true Pd) Pd d o t,z8K q (show 2<prog.globals.size from of_decide_eq_true Pd) Pd e p u⟩
noncomputable def limWorld (os:Os):World:=
 let c:=World.holding prog os ⟨#[],#[],[]⟩
 { c with heap := c.heap.modify 1 fun
   | .cells _ t frozen=> .cells #[.int .u8 1,.int .u64 0] t frozen
   |o=>o}
end Go.Proofs.YtbihggbffaigjaaGreatDoor
