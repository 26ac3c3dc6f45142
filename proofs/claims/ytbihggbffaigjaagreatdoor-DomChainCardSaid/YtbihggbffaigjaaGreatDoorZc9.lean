/- Merged by program. -/
import Derived.Test.YtbihggbffaigjaaGreatDoorZc8
import Derived.SizedLaws
import Derived.Carry
import Derived.ProofKit
import Derived.OpenShut
import Derived.ShutString
import Derived.ChangeOld
import Derived.Below
import Derived.Deep.SlicePairs
import Derived.LaidLaws
import Derived.MakeChecks
import Derived.Handed
set_option linter.all false
set_option maxRecDepth 1000000
set_option maxHeartbeats 16000000
namespace Go.Proofs.YtbihggbffaigjaaGreatDoor
open Go Go.RowKit Go.Proofs.Tryz
def XT (w:World):P9 prog 40 [.nilIface] w λv w'=>v=I 0/\w'=w:=by
 refine py (e:=[(0,_)]) func40 O ntmps40 O O$ qN O$ QO O$ Oq$ Ou$ qN O$ qV (zgj U20 O)$ Oq$ OI O$ qN O$ QL O$ OK O$ Oo func40 O ?_
 exact⟨_,rfl,rfl,rfl⟩
section
variable {G T:Xv}{w w':World}{Q:QY}{txt txt':Int->Ov}{K K':Nat}{X O_:Nat->Prop}{rr a L root k j:Nat}{vb:Nat->Nat}{s s':Rs}
def z2L {b1 b2 b3:Nat}:z5m prog 46 [ptr b1 0,ptr b2 0,ptr b3 0] w λu w'=>w'=w:=by
 refine XY (e:=[(0,_),(1,_),(2,_)]) func46 O ntmps46 O O O O O O O O O O$ OQ zf3 O (XT _) ?_
 rintro _ w ⟨rfl,rfl⟩
 refine QO O$ Ql O$ PX O$ z0L O O O func46$ λa ha=>⟨_,SS ha _ _ _ _ O,?_⟩
 exact⟨_,rfl,rfl⟩
theorem z4m (h:Ri (UQ T.k root) G T Q txt K X rr O_ a L s w)(hJ:DmJ G.g root s)(ht:T.g=Qb G.g)(hr:root<G.g.length)(hK:K<=600000000000)(hd:s.done=false)(kg:s.steps<=1000000000000):P9 prog 15 [ptr rr 0] w λr w'=>r= .tuple #[.bool (s.step G.g T.g root).done,I 0]/\(∃txt' K',Ri (UQ T.k root) G T Q txt' K' X rr O_ a L (s.step G.g T.g root) w'/\K'<=K+400/\∀y:Int,y<(a:Int)\/(a:Int)+(L:Int)<=y->txt' y=txt y)/\Kp (λb=>¬X b\/O_ b) w w':=by
 obtain⟨vb,hV⟩:=h.dm
 have hR:=hV.cells
 have uF:=h.xr _ hV.o.1
 have bN:∀b,X b->b<w.heap.size:=λb hb=>h.lt b (.inl (.inl hb))
 have AP:=bN _ uF
 have cx:=h.far
 refine py (e:=[(0,_)]) func15 O ntmps15 O O$ qN O$ Oy O O (R9 O (cs:=[ptr rr 0]) O) ?_
 rintro _ w1 ⟨b1,rfl,bK,ad,ah⟩
 refine Oy O O (Rq (cs:=[_]) US O) ?_
 rintro _ w2 ⟨b2,rfl,bP,ae,ak⟩
 refine Oy O O (Rq (cs:=[_]) z4w O) ?_
 rintro _ w3 ⟨b3,rfl,dY,aj,ao⟩
 replace ak:OE w2 b2 [.bool false] 4:=ak
 replace ao:OE w3 b3 [I 0] 45:=ao
 have cg:=(ad.trans ae).trans aj
 have z1:=ad.size
 have z2:=ae.size
 have z3:=aj.size
 have l1:=ah.lt
 have l2:=ak.lt
 have l3:=ao.lt
 have cT:=aj.On (ae.On ah)
 have cI:=aj.On ak
 obtain⟨X1,eX⟩:∃X1:Nat->Prop,(λj=>X j\/j=b1\/j=b2\/j=b3)=X1:=⟨_,rfl⟩
 have fd:∀j,X j->X1 j:=λj hj=>by rw[<-eX];exact .inl hj
 have aO:X1 b1/\X1 b2/\X1 b3:=by rw[<-eX];exact⟨.inr (.inl O),.inr (.inr (.inl O)),.inr (.inr (.inr O))⟩
 have fj:∀j,w.heap.size<=j->¬O_ j:=λj hj e=>by have:=bN _ (h.xr _ e);omega
 have h3:Ri (UQ T.k root) G T Q txt K X1 rr O_ a L s w3:=h.grow cg (λj hj=>by rw[<-eX] at hj;exact hj.imp id λe=>by omega) fd
 have iz:=cg.On hR
 refine Oq$ An$ qN O$ qV ((OB U44 O O cT O))$ OQ zgu O (Zw h3) ?_
 rintro _ w3 ⟨rfl,rfl⟩
 refine QO O$ Ql O$ Oq$ OH O (λc0=>?_)$ λc0=>?_
 ·exact absurd O c0
 ·refine Ot$ An$ qN O$ qV ((OB U44 O O cT O))$ Pb O$ OL QV O$ OL z2I O$ qV ((OB U4 O O iz O))$ Oq ?_;rw[hd];refine T2 O$ qN O$ qV (ymf (first:=[]) (caps:=[.tmp 1,.tmp 2,.tmp 3]) O O)$ z6n O O (ydf O)$ qM O$ qV ((OB U44 O O cT O))$ OQ zj4 O (z5D h3 hJ hd ht hr hK) ?_;rintro _ w4 hW;obtain⟨⟨txt4,K4,h4,Gz,oX⟩,me⟩:=hW;obtain⟨vb4,uP⟩:=h4.dm
  have dW:OE w4 rr [I (s.steps:Int),I ((s.go G.g T.g root).fin:Int),I ((s.go G.g T.g root).OO:Int),.bool (s.go G.g T.g root).QR,.bool (s.go G.g T.g root).done,ptr G.k 0,ptr T.k 0,I (root:Int),ptr (vb4 0) 0,ptr (vb4 1) 0,ptr (vb4 2) 0,ptr (vb4 3) 0,ptr (vb4 4) 0,.bool false,.bool false] 103:=by
   have:=uP.cells;rw[z8G] at this;exact this
  have GP:∀{j},X1 j->w.heap.size<=j->¬(¬X1 j\/O_ j):=λhj h e=>e.elim (λe=>e hj) (fj _ h);have cm:=me.On cT (GP aO.1 ω);have eA:=me.On cI (GP aO.2.1 ω);have dl:=me.On ao (GP aO.2.2 ω);have N0:rr≠b1/\rr≠b2/\rr≠b3:=by omega
  refine qM O (qV ((OB U44 O O cm O)) (Pb O (OL QV O (OL z9H O (qV ((OB U3 O O dW O)) (PL O (Pb O (OL QV O (OL z9H O (OJ O (Qw PH O O O dW ξ) ?_))))))))));rintro w6 ⟨fC,aJ⟩;have N1:(s.step G.g T.g root).done=(s.go G.g T.g root).done:=by rw[z3P]
  have h6:Ri (UQ T.k root) G T Q txt4 K4 X1 rr O_ a L (s.step G.g T.g root) w6:=by
   rw[z3P];exact h4.za8 (s':={s.go G.g T.g root with steps:=s.steps+1}) uP aJ fC (Y3 O O O O O)
  have iJ:=aJ.On cm ω;have gK:=aJ.On eA ω;have j3:=aJ.On dl ω;replace fC:OE w6 rr [I ((s.steps:Int)+1),I ((s.go G.g T.g root).fin:Int),I ((s.go G.g T.g root).OO:Int),.bool (s.go G.g T.g root).QR,.bool (s.go G.g T.g root).done,ptr G.k 0,ptr T.k 0,I (root:Int),ptr (vb4 0) 0,ptr (vb4 1) 0,ptr (vb4 2) 0,ptr (vb4 3) 0,ptr (vb4 4) 0,.bool false,.bool false] 103:=fC;refine Oq$ P8.qb (e:=[(1,_),(2,_),(3,_)]) ?_;refine qN O (qV ((OB U44 O O iJ O)) (Pb O (OL QV O (OL z2I O (qV ((OB U4 O O fC O)) (OJ O (Qw US O O O gK ξ) ?_))))));rintro w7 ⟨GQ,ax⟩;have jJ:=ax.On j3 ω;refine OJ O (Qw z4w O O O jJ ξ) ?_;rintro w8 ⟨mQ,aP⟩;have xI:=aP.On GQ ω;refine Oq$ Z8 func15 zjG (z2L (b1:=b1) (b2:=b2) (b3:=b3)) ?_;rintro u w' rfl;rw[N1];refine⟨_,.cell1 U4 O O ((xI).cell _) (.cell1 U45 O O ((mQ).cell _) .nil),_,rfl,rfl,⟨txt4,K4,?_,Gz,oX⟩,?_⟩
  ·exact((h6.own ax (λj e=>by subst e;exact⟨aO.2.1,cx _ ω⟩)).own aP (λj e=>by subst e;exact⟨aO.2.2,cx _ ω⟩)).less fd h.xk h.xr
  ·have GR:Kp (λb=>¬X1 b\/O_ b) w3 w6:=me.trans (aJ.OA λb e=> .inr (by rw[e];exact uP.o.1));exact(((cg.kp.trans (GR.OA λb e=>e.imp (λe e2=>e (fd _ e2)) id)).trans (ax.OA λb e=> .inl λe2=>by have:=bN _ e2;omega)).trans (aP.OA λb e=> .inl λe2=>by have:=bN _ e2;omega))
end
structure VsI (G T:Xv)(Q:QY)(txt:Int->Ov)(K a n:Nat)(X:Nat->Prop)(B i:Nat)(vb:Nat->Nat)(Y:Nat->Prop)(txt':Int->Ov)(w':World):Prop where
 g:VO G T (Q.PI (PJ Q.L a i true)) txt' (K+i) Y w'
 xy:∀j,X j->Y j
 v:∀j,j<i->Vn (Q.PI (PJ Q.L a i true)) txt' (vb j) 4 (a+j) (List.replicate n 0) w'/\Y (vb j)/\B<=vb j
 ne:∀j,j<i->∀l,l<i->l≠j->vb l≠vb j
 y:∀y:Int,y<(a:Int)\/(a:Int)+5<=y->txt' y=txt y
section
variable {G T:Xv}{w w' w4 w5:World}{Q:QY}{txt txt' txt4 txt5:Int->Ov}{K a n B i v rr:Nat}{X Y S':Nat->Prop}{vb:Nat->Nat}
theorem z4Y {l:List Bool}{a:Nat}{c:Bool}(h:a<=l.length):PJ l a 0 c=l:=by
 refine List.ext_getElem? λi=>?_
 rw[S3 ω,if_neg ω]
def z1Q {l:List Bool}{a:Nat}(h:Pre l a):∀n,a+n<=l.length->Pre (PJ l a n true) (a+n)
 |0,e=>by rw[z4Y ω];exact h
 | n + 1, e => by
   have h1:=z1Q h n ω;have h2:(PJ l a n true).length=l.length:=PY ω;rw[<-YS ω];exact z0u h1 ω
theorem VsI.zero (h:VO G T Q txt K X w)(ha:a<=Q.L.length):VsI G T Q txt K a n X B 0 vb X txt w:=by
 have e:Q.PI (PJ Q.L a 0 true)=Q:=by rw[z4Y ha];rfl
 refine⟨by rw[e];exact h,λ_ e=>e,λj hj=>by omega,λj hj=>by omega,λ_ _=>rfl⟩
theorem VsI.own (h:VsI G T Q txt K a n X B i vb Y txt' w)(hk:Kp S' w w')(hS:∀b,S' b->(Y b/\b≠G.k/\b≠G.x/\b≠T.k/\b≠T.x/\b≠1/\b≠2)/\∀j,j<i->b≠vb j):VsI G T Q txt K a n X B i vb Y txt' w':=
 ⟨h.g.own hk λb e=>(hS b e).1,h.xy,λj hj=>⟨(h.v j hj).1.kp hk λe=>(hS _ e).2 j hj O,(h.v j hj).2⟩,h.ne,h.y⟩
def VsI.next (h:VsI G T Q txt K a n X B i vb Y txt4 w4)(hi:i<5)(hn:n<=100)(cq:a+5<=Q.L.length)(IT:K<=900000000000)(hk:Kp (λb=>¬YH G T Y b) w4 w5)(hP:Sp ((Q.PI (PJ Q.L a i true)).PI (PJ (Q.PI (PJ Q.L a i true)).L (a+i) 1 true)) txt5 (K+i+1) (λb=>YH G T Y b\/b=v) w5)(hv:w4.heap.size<=v)(hB:B<=w4.heap.size)(hV:Vn ((Q.PI (PJ Q.L a i true)).PI (PJ (Q.PI (PJ Q.L a i true)).L (a+i) 1 true)) txt5 v 4 (a+i) (List.replicate n 0) w5)(hy:∀y:Int,y<((a+i:Nat):Int)\/((a+i:Nat):Int)+1<=y->txt5 y=txt4 y)(uD:G.st+G.len<=a)(uE:T.st+T.len<=a)(lI:Y rr/\rr≠G.k/\rr≠G.x/\rr≠T.k/\rr≠T.x/\rr≠1/\rr≠2):VsI G T Q txt K a n X B (i+1) (λj=>if j=i then v else vb j) (λj=>Y j\/j=v) txt5 w5:=by
 have aB:(PJ Q.L a i true).length=Q.L.length:=PY ω
 have e:(Q.PI (PJ Q.L a i true)).PI (PJ (Q.PI (PJ Q.L a i true)).L (a+i) 1 true)=Q.PI (PJ Q.L a (i+1) true):=by
  rw[show(Q.PI (PJ Q.L a i true)).L=PJ Q.L a i true from rfl,YS ω];rfl
 rw[e] at hP hV
 have aN:∀j,Y j->j<w4.heap.size:=λj hj=>h.g.lt j (.inl (.inl hj))
 have IU:∀j,j<i->vb j<v:=λj hj=>by have:=aN _ (h.v j hj).2.1;omega
 have hl:(Q.PI (PJ Q.L a (i+1) true)).L.length=(Q.PI (PJ Q.L a i true)).L.length:=by
  show(PJ Q.L a (i+1) true).length=(PJ Q.L a i true).length;rw[aB,PY ω]
 refine⟨h.g.vec hk hP hv hV.lt O hl ω uD uE (λy e=>hy y (.inl ω)) (Kp.refl (S:=λb=>b=rr) _) lI,λj e=> .inl (h.xy j e),λj hj=>?_,λj hj l hl br=>?_,λy e=>?_⟩
 ·by_cases ej:j=i
  ·subst ej;rw[if_pos O];exact⟨hV,.inr O,ω⟩
  ·rw[if_neg ej];obtain⟨g1,g2,g3⟩:=h.v j ω;refine⟨((g1.kp hk (λe=>e (.inl (.inl g2)))).VT (λy e1 e2=>?_)).q O hl,.inl g2,g3⟩;rw[List.length_replicate,Tv hn] at e2;exact hy y ω
 ·by_cases e1:j=i
  ·rw[if_pos e1];by_cases e2:l=i
   ·omega
   ·rw[if_neg e2];have:=IU l ω;omega
  ·rw[if_neg e1];by_cases e2:l=i
   ·rw[if_pos e2];have:=IU j ω;omega
   ·rw[if_neg e2];exact h.ne j ω l ω br
 ·rw[hy y ω,h.y y e]
end
def z4u {w:World}{b1 b2:Nat}:z5m prog 39 [ptr b1 0,ptr b2 0] w λu w'=>w'=w:=by
 refine XY (e:=[(0,_),(1,_)]) func39 O ntmps39 O O O O O O O O O O$ OQ zf3 O (XT _) ?_
 rintro _ w ⟨rfl,rfl⟩
 refine QO O$ Ql O$ PX O$ z0L O O O func39$ λa ha=>⟨_,SS ha _ _ _ _ O,?_⟩
 exact⟨_,rfl,rfl⟩
def zaH (g t root i:Nat)(vb:Nat->Nat):List Value:=[I 0,I 0,I 0,.bool false,.bool false,ptr g 0,ptr t 0,I (root:Int),if 0<i then ptr (vb 0) 0 else .pointer none,if 1<i then ptr (vb 1) 0 else .pointer none,if 2<i then ptr (vb 2) 0 else .pointer none,if 3<i then ptr (vb 3) 0 else .pointer none,if 4<i then ptr (vb 4) 0 else .pointer none,.bool false,.bool false]
theorem z9l {g t root i v:Nat}{vb:Nat->Nat}(hi:i<5):(zaH g t root i vb).set (0+8+i*1) (ptr v 0)=zaH g t root (i+1) (λj=>if j=i then v else vb j):=by
 obtain rfl|rfl|rfl|rfl|rfl:i=0\/i=1\/i=2\/i=3\/i=4:=by omega
 all_goals rfl
section
variable {G T:Xv}{w w':World}{Q:QY}{txt txt':Int->Ov}{K K':Nat}{X Y O_:Nat->Prop}{rr a L root v k j:Nat}{vb:Nat->Nat}{s:Rs}
theorem z8U (h:VO G T Q txt K X w)(hK:K<=500000000000)(dS:G.g.length<=40)(aw:QH G.g)(ht:T.g=Qb G.g)(du:Pre Q.L a)(uD:G.st+G.len<=a)(uE:T.st+T.len<=a)(cq:a+5<=Q.L.length)(hr:root<G.g.length):P9 prog 14 [ptr Q.s 0,ptr G.k 0,ptr T.k 0,I (root:Int)] w λv w'=>∃(rr:Nat) (O_:Nat->Prop) (txt':Int->Ov) (K':Nat),v= .tuple #[ptr rr 0,I 0]/\(∀b,O_ b->w.heap.size<=b)/\K'<=K+12/\Ri (UQ T.k root) G T (Q.PI (PJ Q.L a 5 true)) txt' K' (λb=>X b\/O_ b) rr O_ a 5 (Rs.new G.g.length root) w'/\(∀y:Int,y<(a:Int)\/(a:Int)+5<=y->txt' y=txt y)/\Kp (λb=>¬X b) w w':=by
 have kI:T.g.length=G.g.length:=by rw[ht];exact RF _
 have N2:PG T.g=PG G.g:=by rw[ht];exact z4K aw
 have bN:=h.lt
 have mm:=h.xk
 have cx:=h.far
 refine py (e:=[(0,_),(1,_),(2,_),(3,_)]) func14 O ntmps14 O O$ qN O$ Si O$ Oy O O (Rq (cs:=[_]) z4w O) ?_
 rintro _ w1 ⟨be,rfl,Ed,ad,qB⟩
 replace qB:OE w1 be [I 0] 45:=qB
 have z1:=ad.size
 have q1:=qB.lt
 have h1:=h.grow ad (λj e=> .inl e) (λj e=>e)
 have iS:=Wm h1.t
 rw[kI] at iS
 have cZ:=z7F h1.t
 rw[N2] at cZ
 refine Oq$ Qt$ P7 O$ qV (PU XP O O)$ OX O$ qV (PU U28 O O)$ PC O$ OX O$ qV (PU U28 O O)$ PC O$ OK O$ Ox O$ P7 O$ OQ z8F O (Wm h1.g) ?_
 rintro _ w1 ⟨rfl,rfl⟩
 refine OC O$ OQ z8F O (iS) ?_
 rintro _ w1 ⟨rfl,rfl⟩
 refine Ql O$ Pu$ OX O$ OQ zfO O (z7F h1.g) ?_
 rintro _ w1 ⟨rfl,rfl⟩
 refine OC O$ OQ zfO O (cZ) ?_
 rintro _ w1 ⟨rfl,rfl⟩
 refine Ql O$ Pu$ PC O$ OX O$ Qv O$ Pu$ PC O$ OX O$ OC O$ OQ z8F O (Wm h1.g) ?_
 rintro _ w1 ⟨rfl,rfl⟩
 refine TE O$ Pu$ PC O$ OK O$ P8.qb (e:=[(0,_),(1,_),(2,_),(3,_),(8,_),(9,_),(25,_)]) ?_
 refine T2 O$ Om$ Qh O$ OC O$ qV (Sa (cs:=[_,_,_,_,_,_,_,_,_,_,_,_,_,_,_]) zgG O zgg O O)$ Oy O O (R9 O (cs:=[I 0,I 0,I 0,.bool false,.bool false,ptr G.k 0,ptr T.k 0,I (root:Int),.pointer none,.pointer none,.pointer none,.pointer none,.pointer none,.bool false,.bool false]) O) ?_
 rintro _ w2 ⟨rr,rfl,lI,ae,As⟩
 refine Oy O O (Rq (cs:=[_]) zf7 O) ?_
 rintro _ w3 ⟨bp,rfl,Mm,aj,nP⟩
 refine OJ O (Qw zf7 O O O nP ξ) ?_
 rintro w4 ⟨fH,aq⟩
 replace fH:OE w4 bp [ptr rr 0] 44:=fH
 have z2:=ae.size
 have z3:=aj.size
 have z4:=aq.size
 have q2:=As.lt
 have q3:=nP.lt
 have cD:Ext w2 w4:=aj.It aq λb e=>by omega
 have dE:Ext w1 w4:=ae.trans cD
 have bQ:Ext w w4:=ad.trans dE
 have GS:=dE.On qB
 have GT:OE w4 rr (zaH G.k T.k root 0 λ_=>0) 103:=cD.On As
 obtain⟨X0,ol⟩:∃X0:Nat->Prop,(λj=>X j\/j=rr\/j=be\/j=bp)=X0:=⟨_,rfl⟩
 have eP:∀j,X j->X0 j:=λj hj=>by rw[<-ol];exact .inl hj
 have aO:X0 rr/\X0 be/\X0 bp:=by rw[<-ol];exact⟨.inr (.inl O),.inr (.inr (.inl O)),.inr (.inr (.inr O))⟩
 have h4:VO G T Q txt K X0 w4:=h.grow bQ (λj hj=>by rw[<-ol] at hj;exact hj.imp id λe=>by omega) eP
 have im:=cx rr ω
 refine qM O$ qV (ymf (first:=[]) (caps:=[.tmp 10,.tmp 9]) O O)$ z6n O O (ydf O)$ Oq$ Pz O$ Oq$ Ou$ Rw (α:=Nat) (0) (λi=>[(0,ptr Q.s 0),(1,ptr G.k 0),(3,I (root:Int)),(9,ptr be 0),(10,ptr bp 0),(54,I (i:Int))]) (λi w'=>i<=5/\(∃vb Y txt',VsI G T Q txt K a G.g.length X0 w4.heap.size i vb Y txt' w'/\OE w' rr (zaH G.k T.k root i vb) 103)/\OE w' bp [ptr rr 0] 44/\OE w' be [I 0] 45/\Kp (λb=>¬X0 b\/b=rr) w4 w') (λi=>5-i) ?hI ?hround
 case hI=>exact⟨Nat.zero_le _,⟨_,X0,txt,VsI.zero h4 ω,GT⟩,fH,GS,Kp.refl _ _⟩
 case hround=>
  rintro i w5 ⟨hi,⟨vb,Y,txt5,ff,At⟩,uY,jp,ai⟩ ih;dsimp only;have z5:=ai.size;have N3:∀j,Y j->j<w5.heap.size:=λj hj=>ff.g.lt j (.inl (.inl hj))
  try dsimp only
  refine qN O$ Qv O$ Oq$ An$ OH O (λh0=>?_)$ λh0=>?_
  ·have rW:i<5:=by omega
   have mn:G.g.length<=100:=by omega
   have x7:(Q.PI (PJ Q.L a i true)).s=Q.s:=rfl;have N4:(Q.PI (PJ Q.L a i true)).L.length=Q.L.length:=PY ω;have Au:Pre (Q.PI (PJ Q.L a i true)).L (a+i):=z1Q du i ω;have IV:=z9i ff.g.sp ff.g.lt ω Au G.g.length 4 ω ω (by rw[Tv mn,N4];omega);rw[Tv mn,x7] at IV;refine Ot$ Qt$ P7 O$ QL O$ OX O$ OQ z8F O (Wm ff.g.g) ?_;rintro _ w5 ⟨rfl,rfl⟩;refine OQ ziZ O (IV) ?_;rintro _ w6 ⟨v,txt6,rfl,N5,o5,Aw,Bs,aJ⟩;have oT:∀{j},Y j->¬¬YH G T Y j:=λhj e=>e (.inl (.inl hj));have Ax:=ff.next rW mn cq ω aJ o5 N5 z5 Aw Bs uD uE ⟨ff.xy _ aO.1,im⟩;have GU:=aJ.On At (oT (ff.xy _ aO.1));have ou:=aJ.On uY (oT (ff.xy _ aO.2.2));have uZ:=aJ.On jp (oT (ff.xy _ aO.2.1));have kB:Kp (λb=>¬X0 b\/b=rr) w4 w6:=ai.trans (aJ.OA λb e=> .inl λe2=>e (.inl (.inl (ff.xy b e2))));refine OC O$ Sw O$ Si O$ QO O$ OQ z6A O (SI _) ?_;rintro _ w6 rfl;refine Oq (Oz O (qV (OB U44 O O ou O) (OX O (Pb O (OL Vu O (qV (yia z3B Zm O O ω) (OJ O (Qw Zm O O O GU (by show _<15;omega)) ?_)))))));rintro w7 ⟨qC,ax⟩;replace qC:OE w7 rr ((zaH G.k T.k root i vb).set (0+8+i*1) (ptr v 0)) 103:=qC;rw[z9l rW] at qC
   have GV:=Ax.own ax (λb e=>by
    subst e;refine⟨⟨.inl (ff.xy _ aO.1),im⟩,λj hj=>?_⟩;have:=(Ax.v j hj).2.2
    omega)
   refine Oq$ Om$ Oz O$ PL O$ OC O$ Oq ?_;exact(ih (i+1) _ ⟨ω,⟨_,_,txt6,GV,qC⟩,ax.On ou ω,ax.On uZ ω,kB.trans (ax.OA λb e=> .inr e)⟩ ω).qb
  ·have rW:i=5:=by omega
   subst rW;obtain⟨O_,hO⟩:∃O_:Nat->Prop,(λb=>b=rr\/∃j,j<5/\b=vb j)=O_:=⟨_,rfl⟩;have BB:O_ rr/\∀j,j<5->O_ (vb j):=by rw[<-hO];exact⟨.inl O,λj hj=> .inr ⟨j,hj,rfl⟩⟩
   have mq:∀b,O_ b->w.heap.size<=b/\b≠be/\b≠bp:=λb hb=>by
    rw[<-hO] at hb;rcases hb with e|⟨j,hj,e⟩
    ·omega
    ·have:=(ff.v j hj).2.2;omega
   have Ay:∀b,O_ b->Y b:=λb hb=>by
    rw[<-hO] at hb;rcases hb with e|⟨j,hj,e⟩
    ·rw[e];exact ff.xy _ aO.1
    ·rw[e];exact(ff.v j hj).2.1
   obtain⟨Q5,GW⟩:∃Q5,Q.PI (PJ Q.L a 5 true)=Q5:=⟨_,rfl⟩
   have uR:YW Q5 txt5 G.k T.k root rr O_ a 5 ⟨0,0,0,false,false,List.replicate G.g.length 0,List.replicate G.g.length 0,List.replicate G.g.length 0,List.replicate G.g.length 0,List.replicate G.g.length 0⟩ vb w5:=by
    rw[<-GW];refine⟨BB,λj hj=>⟨by have:=(ff.v j hj).2.2;omega,λi hi br=>ff.ne j hj i hi br⟩,At,λj hj=>?_,rfl⟩;have N6:=(ff.v j hj).1;obtain rfl|rfl|rfl|rfl|rfl:j=0\/j=1\/j=2\/j=3\/j=4:=by omega
    all_goals exact⟨N6,by show(List.replicate G.g.length 0).length<=100;rw[List.length_replicate];omega⟩
   have dv:=ff.g;rw[GW] at dv
   have gW:Ri (UQ T.k root) G T Q5 txt5 (K+5) Y rr O_ a 5 ⟨0,0,0,false,false,List.replicate G.g.length 0,List.replicate G.g.length 0,List.replicate G.g.length 0,List.replicate G.g.length 0,List.replicate G.g.length 0⟩ w5:=
    ⟨⟨dv.g,⟨vb,uR⟩,λb hb=> .inl (Ay b hb),BB.1,λb hb=>by
     have:=cx b (mq b hb).1
     exact⟨this.1,this.2.1,this.2.2.2.2.1,this.2.2.2.2.2⟩,uD,dS⟩,dv.t,Ay,dv.xk,λb hb=>by
     have:=cx b (mq b hb).1
     exact⟨this.2.2.1,this.2.2.2.1⟩,uE⟩
   have mn:(List.replicate G.g.length 0).length<=100:=by rw[List.length_replicate];omega
   have mv:=uR.zbu (j:=0) ψ;have jD:∀{j},Y j->¬¬YH G T Y j:=λhj e=>e (.inl (.inl hj));refine OD O (qN O (qV ((OB U44 O O uY O)) (Pb O (OL Vu O (qV (yia z3B Zm O O ω) (qV ((OB z4M O O uR.cells O)) (OQ zeO O (Xp gW.sp gW.lt ω (uR.vs 0 ψ).1 (.inl (.inl (Ay _ (BB.2 0 ψ)))) (x:=4294967295) ψ) ?_)))))));rintro _ w6 ⟨rfl,hW⟩;rw[show(Rs.vec _ 0)=List.replicate G.g.length 0 from rfl,Tv mn,List.length_replicate] at hW;obtain⟨txt6,h6,Aw,Bs,aJ⟩:=gW.z1s (j:=0) uR ψ (by show(List.replicate _ _).length=(List.replicate _ _).length;rw[List.length_replicate,List.length_replicate]) ω hW;have ou:=aJ.On uY (jD (ff.xy _ aO.2.2));have uZ:=aJ.On jp (jD (ff.xy _ aO.2.1));refine OQ z6A O (SI _) ?_;rintro _ w6 rfl;refine qM O (qV ((OB U44 O O ou O)) (Pb O (OL Vu O (qV (yia z3B Zm O O ω) (qV ((OB z4M O O Aw.cells O)) (OQ zeO O (Xp h6.sp h6.lt ω (Aw.vs 2 ψ).1 (.inl (.inl (Ay _ (BB.2 2 ψ)))) (x:=4294967295) ψ) ?_))))));rintro _ w7 ⟨rfl,hW⟩;rw[show(Rs.vec _ 2)=List.replicate G.g.length 0 from rfl,Tv mn,List.length_replicate] at hW;obtain⟨txt7,h7,Og,FA,ax⟩:=h6.z1s (j:=2) Aw ψ (by show(List.replicate _ _).length=(List.replicate _ _).length;rw[List.length_replicate,List.length_replicate]) ω hW;have Az:=ax.On ou (jD (ff.xy _ aO.2.2));have GX:=ax.On uZ (jD (ff.xy _ aO.2.1));refine OQ z6A O (SI _) ?_;rintro _ w7 rfl;refine qM O (qV (OB U44 O O Az O) (OC O (OQ zin O (z0G h7 ω (v:=root) ⟨by show root<(List.replicate _ _).length;rw[List.length_replicate];exact hr,by show root<(List.replicate _ _).length;rw[List.length_replicate];exact hr⟩ (by show 0<(List.replicate _ _).length;rw[List.length_replicate];omega)) ?_)));rintro _ w8 p5;obtain⟨⟨txt8,K8,h8,Oh,FQ⟩,aP⟩:=p5;have oB:∀{j},Y j->¬O_ j->¬(¬Y j\/O_ j):=λh1 h2 e=>e.elim (λe=>e h1) h2;have AA:¬O_ be:=λe=>(mq be e).2.1 O;have GY:¬O_ bp:=λe=>(mq bp e).2.2 O;have GZ:=aP.On Az (oB (ff.xy _ aO.2.2) GY);have ux:=aP.On GX (oB (ff.xy _ aO.2.1) AA);refine qM O (qV (OB U44 O O GZ O) (Si O (OJ O (Qw z4w O O O ux ξ) ?_)));rintro w9 ⟨vd,aK⟩;replace vd:OE w9 be [I 0] 45:=vd;refine Oq$ P8.qb (e:=[(8,_),(9,_)]) ?_;refine Z8 func14 zj7 (z4u (b1:=bp) (b2:=be)) ?_;rintro u w' rfl;have vW:=cx be ω
   have h9:=h8.own aK (λj e=>by
    rw[e]
    exact⟨ff.xy _ aO.2.1,vW.1,vW.2.1,vW.2.2.1,vW.2.2.2.1,vW.2.2.2.2.1,vW.2.2.2.2.2,AA⟩)
   have H0:∀b,X b->b<w.heap.size:=λb hb=>bN b (.inl (.inl hb));have aM:∀b,X b->Y b:=λb hb=>ff.xy b (eP b hb);have yZ:=h9.less (X:=λb=>X b\/O_ b) (λb e=>e.elim (aM b) (Ay b)) ⟨.inl mm.1,.inl mm.2.1,.inl mm.2.2.1,.inl mm.2.2.2.1,.inl mm.2.2.2.2.1,.inl mm.2.2.2.2.2⟩ (λb e=> .inr e);refine⟨_,.tmp O (.cell1 U45 O O ((vd).cell _) .nil),_,rfl,rr,O_,txt8,K8,rfl,λb hb=>(mq b hb).1,ω,?_,λy hy=>?_,?_⟩
   ·rw[GW];exact yZ
   ·rw[FQ y hy,FA y hy,Bs y hy,ff.y y hy]
   ·refine((((bQ.kp.trans (ai.OA λb e e2=>?_)).trans (aJ.OA λb e e2=>e (.inl (.inl (aM b e2))))).trans (ax.OA λb e e2=>e (.inl (.inl (aM b e2))))).trans (aP.OA λb e e2=>?_)).trans (aK.OA λb e e2=>by have:=H0 _ e2;omega)
    ·rcases e with e| e
     ·exact e (eP b e2)
     ·have:=H0 _ e2;omega
    ·rcases e with e| e
     ·exact e (aM b e2)
     ·have:=(mq b e).1;have:=H0 _ e2;omega
end
def dmV (c:Nat):Nat:=if c=4294967295 then 18446744073709551615 else c
section
variable {G T:Xv}{w w':World}{Q:QY}{txt txt':Int->Ov}{K:Nat}{X O_:Nat->Prop}{rr a L root v:Nat}{vb:Nat->Nat}{s:Rs}
def zcc (h:Ri (UQ T.k root) G T Q txt K X rr O_ a L s w):P9 prog 37 [ptr G.k 0] w λv w'=>v=I (G.g.length:Int)/\w'=w:=Wm h.m.g
theorem z4f (h:Ri (UQ T.k root) G T Q txt K X rr O_ a L s w):P9 prog 28 [ptr rr 0] w λv w'=>v=I (G.g.length:Int)/\w'=w:=by
 obtain⟨vb,hV⟩:=h.dm
 have hR:=hV.cells
 refine py (e:=[(0,_)]) func28 O ntmps28 O O$ QB O$ Pz O$ qV (PU U44 O O)$ PX O$ P7 O$ Pb O$ OL z2p O$ qV (OB U28 O O hR O)$ OQ z8F O (zcc h) ?_
 rintro _ w ⟨rfl,rfl⟩
 refine OK O$ Oo func28 O ?_
 exact⟨_,rfl,rfl,rfl⟩
theorem z8i (h:Ri (UQ T.k root) G T Q txt K X rr O_ a L s w)(hd:s.done=true){v x:Nat}(hx:s.cand[v]? =some x):P9 prog 19 [ptr rr 0,I (v:Int)] w λr w'=>r= .tuple #[ON (dmV x),I 0]/\Ri (UQ T.k root) G T Q txt K X rr O_ a L s w'/\Kp (λb=>¬YH G T X b) w w':=by
 obtain⟨vb,hV⟩:=h.dm
 have hR:=hV.cells
 rw[hd] at hR
 have N7:=((hV.vs 2 ψ).1.zez hx).1
 refine py (e:=[(0,_),(1,_)]) func19 O ntmps19 O O$ qN O$ Qd O$ Pz O$ OQ zgu O (Zw h) ?_
 rintro _ w ⟨rfl,rfl⟩
 refine QO O$ Ql O$ PX O$ Pz O$ Pb O$ OL QV O$ OL z2I O$ qV (OB U4 O O hR O)$ qV ((S1 O)) ?_
 rw[show(!true)=false from rfl]
 refine PX O$ P7 O$ Pb O$ OL Vu O$ qV (yia z3B Zm O O ω)$ qV (OB z4M O O hR O)$ OC O$ OQ zg2 O (z1U h.sp h.lt h.m.g.z8u (hV.vs 2 ψ).1 (.inl (.inl (h.xr _ (hV.o.2 2 ψ)))) hx) ?_
 rintro _ w1 ⟨rfl,md,aG⟩
 refine OC O$ Sw O$ Qd O$ P8.qb (e:=[(4,_),(5,_),(7,_),(8,_)]) ?_
 refine Pz O ?_
 unfold dmV
 by_cases e:x=4294967295
 ·rw[if_pos e];refine QS O$ Rf$ Oq$ OI O$ P7 O$ Qd O$ Oo func19 O ?_;exact⟨_,rfl,rfl,h.read aG md,aG⟩
 ·rw[if_neg e];refine QS O$ Pu$ PX O$ Qh O$ Qd O$ Oo func19 O ?_;exact⟨_,rfl,rfl,h.read aG md,aG⟩
def zcb {α:Type}{f:Nat->α}{j:Nat}{v:α}(h:((List.range 5).map f)[j]? =some v):j<5/\v=f j:=by
 rw[List.getElem?_map] at h
 by_cases e:j<5
 ·rw[List.getElem?_range e] at h;exact⟨e,(Rh h).symm⟩
 ·rw[List.getElem?_eq_none (by rw[List.length_range];omega)] at h;cases h
def zfJ {α:Type}{f:Nat->α}{v:α}(h:v∈(List.range 5).map f):∃j,j<5/\v=f j:=by
 obtain⟨j,hj,e⟩:=List.mem_map.1 h
 exact⟨j,List.mem_range.1 hj,e.symm⟩
def ziV {f:Nat->Vc1}{a:Nat}{l:List Bool}(hs:∀j,j<5->(f j).st=a+j/\(f j).len=1)(h:a+5<=l.length):Vx l ((List.range 5).map f)=PJ l a 5 false:=by
 have e:∀n,n<=5->Vx l ((List.range n).map f)=PJ l a n false:=λn=>by
  induction n with
  | zero =>
    intro _;show l=_;refine List.ext_getElem? λi=>?_
    rw[S3 ω,if_neg ω]
  | succ n ih =>
    intro hn;rw[List.range_succ,List.map_append,List.map_singleton,YK,ih ω,(hs n ω).1,(hs n ω).2];exact YS ω
 exact e 5 (Nat.le_refl _)
theorem z3Q (h:Ri (UQ T.k root) G T Q txt K X rr O_ a L s w)(N8:2<=a)(cq:a+5<=Q.L.length)(H1:∀i,a<=i->i<a+5->Q.L[i]? =some true):P9 prog 17 [ptr rr 0] w λr w'=>r=I 0/\∃txt',VO G T (Q.PI (PJ Q.L a 5 false)) txt' K X w'/\(∀y:Int,y<(a:Int)\/(a:Int)+5<=y->txt' y=txt y)/\Kp (λb=>¬X b\/O_ b) w w':=by
 have dS:=h.m.n
 have FG:=h.UK
 have N9:=h.m.UK
 obtain⟨vb,hV⟩:=h.dm
 have hR:=hV.cells
 have uF:=h.xr _ hV.o.1
 have bN:∀b,YH G T X b->b<w.heap.size:=h.lt
 have AB:∀b,O_ b->b≠G.k/\b≠G.x/\b≠T.k/\b≠T.x/\b≠1/\b≠2:=λb hb=>by
  have m1:=h.m.ne b hb;have m2:=h.nk b hb;exact⟨m1.1,m1.2.1,m2.1,m2.2,m1.2.2.1,m1.2.2.2⟩
 obtain⟨A,hA⟩:∃A:List Vc1,(List.range 5).map (λj=>(⟨vb j,4,a+j,s.vec j⟩:Vc1))=A:=⟨_,rfl⟩
 have aB:∀j,j<5->(⟨vb j,4,a+j,s.vec j⟩:Vc1).st=a+j/\(⟨vb j,4,a+j,s.vec j⟩:Vc1).len=1:=λj hj=>⟨rfl,Tv (hV.vs j hj).2⟩
 have JO:A.length=5:=by rw[<-hA,List.length_map,List.length_range]
 have aO:∀v∈A,YH G T X v.vb/\a<=v.st/\v.st+v.len<=a+5:=λv hv=>by
  rw[<-hA] at hv;obtain⟨j,hj,rfl⟩:=zfJ hv;obtain⟨e1,e2⟩:=aB j hj;exact⟨.inl (.inl (h.xr _ (hV.o.2 j hj))),ω,ω⟩
 have H2:∀v∈A,O_ v.vb/\v.vb≠rr:=λv hv=>by
  rw[<-hA] at hv;obtain⟨j,hj,rfl⟩:=zfJ hv;exact⟨hV.o.2 j hj,λe=>(hV.ne j hj).1 e.symm⟩
 have Ca:zbv A:=λi j u v hu hv gJ=>by
  rw[<-hA] at hu hv;obtain⟨hi,rfl⟩:=zcb hu;obtain⟨hj,rfl⟩:=zcb hv;obtain⟨e1,e2⟩:=aB i hi;obtain⟨e3,e4⟩:=aB j hj;exact⟨(hV.ne j hj).2 i hi gJ,ω⟩
 have gR:Vx Q.L A=PJ Q.L a 5 false:=by rw[<-hA];exact ziV aB cq
 refine py (e:=[(0,_)]) func17 O ntmps17 O O$ QB O$ Qt$ P7 O$ qV (PU U44 O O)$ OK O$ Ox O$ P7 O$ Pb O$ OL z2w O$ qV (OB U4 O O hR O)$ OK O ?_
 have Na:∀(j:Nat) (v:Vc1),A[j]? =some v->Vn Q txt v.vb v.width v.st v.xs w:=λj v hj=>by
  rw[<-hA] at hj;obtain⟨C8,rfl⟩:=zcb hj;exact(hV.vs j C8).1
 refine T2 O$ Om$ Pz O$ Pb O$ OL Vu O$ qV (Pa z3B O za5 O (OE.cells (n:=5) hR (news:=[_,_,_,_,_]) O) O)$ OC O$ Oq$ Ou$ Rw (α:=Nat) (0) (λi=>[(0,ptr rr 0),(17,.agg #[ptr (vb 0) 0,ptr (vb 1) 0,ptr (vb 2) 0,ptr (vb 3) 0,ptr (vb 4) 0]),(18,I (i:Int))]) (λi w'=>i<=5/\z8W Q txt K (YH G T X) A a 5 w i w') (λi=>5-i) ?hI ?hround
 case hI=>exact⟨Nat.zero_le _,.zero h.sp Na⟩
 case hround=>
  rintro i w4 ⟨hi,hC⟩ ih
  try dsimp only
  refine qN O$ Qv O$ Oq$ An$ OH O (λh0=>?_)$ λh0=>?_
  ·have rW:i<5:=by omega
   obtain⟨v,hv⟩:∃v,A[i]? =some v:=⟨_,List.getElem?_eq_getElem ω⟩
   have Nb:(#[ptr (vb 0) 0,ptr (vb 1) 0,ptr (vb 2) 0,ptr (vb 3) 0,ptr (vb 4) 0]:Array Value)[i]? =some (ptr v.vb 0):=by
    have gX:=hv;rw[<-hA] at gX;obtain⟨-,rfl⟩:=zcb gX;obtain rfl|rfl|rfl|rfl|rfl:i=0\/i=1\/i=2\/i=3\/i=4:=by omega
    all_goals rfl
   refine Ot$ Qt$ qN O$ qV (yxa z3B Zm z4M O O O rW (v:=ptr v.vb 0) Nb)$ OK O$ Pz O$ qV (PU z4M O O)$ PX O$ P7 O$ OQ zjM O (hC.next bN hv aO Ca N8 cq H1) ?_;rintro _ w5 ⟨rfl,kw⟩;refine QO O$ Ql O$ PX O$ Om$ Oz O$ PL O$ OC O$ Oq ?_;exact(ih (i+1) _ ⟨ω,kw⟩ ω).qb
  ·have rW:i=5:=by omega
   subst rW;obtain⟨⟨txt4,jx,-,oX⟩,aq⟩:=hC;rw[List.take_of_length_le ω,gR] at jx;have fE:Kp (λb=>¬YH G T X b\/(O_ b/\b≠rr)) w w4:=aq.OA λb e=>e.imp id λ⟨v,hv,e⟩=>by rw[e];exact H2 v hv
   have h0:VO G T Q txt K X w:=⟨h.m.g,h.t,h.xk⟩;have z4:=fE.size;have h4:VO G T (Q.PI (PJ Q.L a 5 false)) txt4 K X w4:=h0.Zb fE (λb e=>e.imp id λe=>⟨h.xr _ e.1,AB b e.1⟩) (λ_ e=>e) (λ_ e=> .inl e) (λj e=>by have:=bN j (.inl (.inl e));omega) jx O (PY cq) h.m.g.z8u (λy e=>oX y (.inl ω));have dW:=fE.On hR (λe=>e.elim (λe=>e (.inl (.inl uF))) λe=>e.2 O);refine OD O (P7 O (Pb O (OL z2w O (OJ O (Qw US O O O dW ξ) ?_))));rintro w6 ⟨fC,kB⟩;refine qM O$ OK O$ Oo func17 O ?_;exact⟨_,rfl,rfl,txt4,h4.own kB (λj e=>by rw[e];exact⟨uF,AB rr hV.o.1⟩),oX,(fE.OA λb e=>e.imp (λe e2=>e (.inl (.inl e2))) And.left).trans (kB.OA λb e=> .inr (by rw[e];exact hV.o.1))⟩
end
def Ri.append {σ:Type}{R:RuK σ}{G T:Xv}{w w1 w2:World}{Q:QY}{txt:Int->Ov}{K:Nat}{X O_:Nat->Prop}{rr a L:Nat}{s:σ}(h:Ri R G T Q txt K X rr O_ a L s w){u v:Value}(hu:∀b,u.ownBlock=some b->X b)(hn:∀b,u.ownBlock=some b->b≠G.k/\b≠G.x/\b≠T.k/\b≠T.x/\b≠1/\b≠2/\¬O_ b)(hx:Ext w w1)(hk:Kp (λk=>u.ownBlock=some k) w1 w2)(hf:∀g,v.ownBlock=some g->u.ownBlock=some g\/w1.heap.size<=g)(hl:∀b,v.ownBlock=some b->b<w2.heap.size):Ri R G T Q txt K (λb=>X b\/v.ownBlock=some b) rr O_ a L s w2:=by
 refine(h.ext hx).step hk (λj e=>⟨hu j e,hn j e⟩) (λj e=> .inl e) λj e=>?_
 rcases e with e| e
 ·exact .inl e
 ·rcases hf j e with e2|e2
  ·exact .inl (hu j e2)
  ·exact .inr ⟨e2,hl j e⟩
section
variable {G T:Xv}{w w':World}{Q:QY}{txt:Int->Ov}{K:Nat}{X:Nat->Prop}{a d root:Nat}
def z2H (h:VO G T Q txt K X w)(hK:K<=500000000000)(hr:root<G.g.length)(dS:G.g.length<=40)(aw:QH G.g)(ht:T.g=Qb G.g)(du:Pre Q.L a)(uD:G.st+G.len<=a)(uE:T.st+T.len<=a)(ha:a<=146)(hL:Q.L.length=200):
  P9 prog 12 [.agg #[ptr d 0,ptr Q.s 0,ptr G.k 0,ptr T.k 0,I ((200-a:Nat):Int)],I (root:Int)] w λv w'=>∃(k b c:Nat) (txt':Int->Ov) (K':Nat),v= .tuple #[.slice (some ⟨b,0,none⟩) G.g.length c,I (k:Int)]/\1<=k/\z3l G.g (Qb G.g) root k/\Sl w' (.slice (some ⟨b,0,none⟩) G.g.length c) 39 1 G.g.length ((U7 G.g (Qb G.g) root k).cand.map λc=>ON (dmV c))/\VO G T Q txt' K' (λj=>X j\/j=b) w'/\K'<=K+20000000/\w.heap.size<=b/\(∀y:Int,y<(a:Int)->txt' y=txt y)/\Kp (λb=>¬X b) w w':=by
 have kI:T.g.length=G.g.length:=by rw[ht];exact RF _
 have lh:∀u v,u∈OG (Qb G.g) v↔v∈OG G.g u:=λu v=>Z7 aw
 have bN:=h.lt
 have mm:=h.xk
 have cx:=h.far
 have Nc:G.g.length<=60:=by omega
 have fg:maxLen=9223372036854775807:=rfl
 refine py (e:=[(0,_),(1,_)]) func12 O ntmps12 O O$ qN O$ Oy O O (R9 O (cs:=[ptr d 0,ptr Q.s 0,ptr G.k 0,ptr T.k 0,I ((200-a:Nat):Int)]) O) ?_
 rintro _ w1 ⟨b1,rfl,bK,ad,ah⟩
 have z1:=ad.size
 have q1:=ah.lt
 obtain⟨X1,eX⟩:∃X1:Nat->Prop,(λj=>X j\/j=b1)=X1:=⟨_,rfl⟩
 have fd:∀j,X j->X1 j:=λj hj=>by rw[<-eX];exact .inl hj
 have sy:X1 b1:=by rw[<-eX];exact .inr O
 have bc:VO G T Q txt K X1 w1:=h.grow ad (λj hj=>by rw[<-eX] at hj;exact hj.imp id λe=>by omega) fd
 refine Si O$ QL O$ OL z5G O$ qV (OB XP O O ah O)$ OL zeR O$ qV (OB U28 O O ah O)$ OL zeQ O$ qV (OB U28 O O ah O)$ OC O$ OQ zjD O (z8U bc ω dS aw ht du uD uE ω hr) ?_
 rintro _ w2 ⟨rr,O_,txt2,K2,rfl,IW,sk,da,gt,am⟩
 obtain⟨Q2,x9⟩:∃Q2,Q.PI (PJ Q.L a 5 true)=Q2:=⟨_,rfl⟩
 rw[x9] at da
 have ve:Q2.L=PJ Q.L a 5 true:=by rw[<-x9];rfl
 have Nd:Q2.L.length=200:=by rw[ve,PY ω,hL]
 have Nf:Q2.s=Q.s/\Q2.m=Q.m:=by rw[<-x9];exact⟨rfl,rfl⟩
 obtain⟨Y,hY⟩:∃Y:Nat->Prop,(λb=>X1 b\/O_ b)=Y:=⟨_,rfl⟩
 rw[hY] at da
 have aM:∀j,X1 j->Y j:=λj hj=>by rw[<-hY];exact .inl hj
 have z2:=am.size
 refine OC O$ Sw O$ Qd O$ Pz O$ Ql O$ PX O$ P7 O$ OQ zjj O (z4f da) ?_
 rintro _ w2 ⟨rfl,rfl⟩
 have hM:∃M:Nat,(G.g.length:Int)*(G.g.length:Int)=(M:Int)/\G.g.length*G.g.length=M/\M<=1600:=
  ⟨G.g.length*G.g.length,by push_cast;rfl,rfl,Nat.mul_le_mul dS dS⟩
 obtain⟨M,cZ,gH,oV⟩:=hM
 have rX:Y b1/\¬O_ b1:=⟨aM _ sy,λe=>by have:=IW _ e;omega⟩
 have ak:=am.On ah (λe=>e sy)
 have IX:∀{b},X b->¬O_ b:=λhb e=>by have:=bN _ (.inl (.inl hb));have:=IW _ e;omega
 refine OK O$ An$ QB O$ Ou$ Rw (α:=Nat) (0) (λk=>[(2,ptr b1 0),(6,ptr rr 0),(8,I (G.g.length:Int)),(9,I (k:Int))]) (λk w'=>(∃txt' K',Ri (UQ T.k root) G T Q2 txt' K' Y rr O_ a 5 (U7 G.g (Qb G.g) root k) w'/\K'<=K+20+400*k/\∀y:Int,y<(a:Int)->txt' y=txt y)/\(∀j,j<=k->(U7 G.g (Qb G.g) root j).done=false)/\Kp (λb=>¬Y b\/O_ b) w2 w') (λk=>2000-k) ?hI ?hround
 case hI=>exact⟨⟨txt2,_,da,ω,λy e=>gt y (.inl e)⟩,λj hj=>by rw[Nat.le_zero.1 hj];rfl,Kp.refl _ _⟩
 case hround =>
  rintro k w4 ⟨⟨txt4,K4,bA,Gz,oX⟩,ek,aq⟩ ih;dsimp only at ih⊢;have H3:=z5H aw hr lh k λj hj=>ek j ω;have kg:=XF (g:=G.g) (t:=Qb G.g) (root:=root) k;have ti:=H3.bound (ek k (Nat.le_refl _)) aw;rw[kg,gH] at ti;have aH:=aq.On ak (λe=>e.elim (λe=>e rX.1) rX.2);have fN:=z4m bA H3 ht hr ω (ek k (Nat.le_refl _)) ω;rw[ht,show(U7 G.g (Qb G.g) root k).step G.g (Qb G.g) root=U7 G.g (Qb G.g) root (k+1) from rfl] at fN
  try dsimp only
  refine An (Qh O (OC O (qV (X5 O O (by rw[cZ];omega)) ?_)));rw[cZ];refine OC O (qV (X5 O O ω) (PL O (PL O (Qv O (Rf (Oq (OI O (Ot (Qt (P7 O (OQ ziS O (fN) ?_)))))))))));rintro _ w5 ⟨rfl,⟨txt5,K5,bG,Oi,Ng⟩,ai⟩;have lu:Kp (λb=>¬Y b\/O_ b) w2 w5:=aq.trans ai;have AC:∀y:Int,y<(a:Int)->txt5 y=txt y:=λy e=>(Ng y (.inl e)).trans (oX y e);refine OC O$ Sw O$ Qd O$ Pz O$ Ql O ?_;by_cases hd:(U7 G.g (Qb G.g) root (k+1)).done=true
  ·rw [hd]; obtain ⟨s, hs⟩ : ∃ s, U7 G.g (Qb G.g) root (k + 1) = s := ⟨_, rfl⟩; rw [hs] at bG hd
   have IY:s.cand.length=G.g.length:=by
    have:=(H3.step aw hr lh (ek k (Nat.le_refl _))).ls.2.2.1;rw[<-hs];exact this
   have Nh:∀b,Y b->b<w5.heap.size:=λb hb=>bG.lt b (.inl (.inl hb));have ov:=bG.far;refine PX O$ Pz O$ qV ((S1 O))$ PX O$ QB O$ An$ QB O$ Ou$ Rw (α:=Nat×Value) ((0,.slice none 0 0)) (λy=>[(2,ptr b1 0),(6,ptr rr 0),(8,I (G.g.length:Int)),(9,I (k:Int)),(12,y.2),(13,I (y.1:Int))]) (λy w'=>y.1<=G.g.length/\Sl w' y.2 39 1 y.1 ((s.cand.take y.1).map λc=>ON (dmV c))/\(∀b,y.2.ownBlock=some b->w5.heap.size<=b)/\(∃Z:Nat->Prop,(∀b,Y b->Z b)/\(∀b,y.2.ownBlock=some b->Z b)/\Ri (UQ T.k root) G T Q2 txt5 K5 Z rr O_ a 5 s w')/\Kp (λb=>¬Y b) w5 w') (λy=>G.g.length-y.1) ?hI ?hround
   case hI=>exact⟨Nat.zero_le _,by simpa using Sl.nil _ _ _,λb hb=>(by cases hb),⟨Y,λ_ e=>e,λb hb=>(by cases hb),bG⟩,Kp.refl _ _⟩
   case hround=>
    rintro⟨v,u⟩ w6 ⟨hv,fL,vf,⟨Z,BC,AD,h6⟩,aJ⟩ ih2;dsimp only at hv fL vf AD ih2⊢;have z6:=aJ.size;have aT:=(lu.trans (aJ.OA λb e=> .inl e)).On ak (λe=>e.elim (λe=>e rX.1) rX.2)
    try dsimp only
    refine An$ Qh O$ Qv O$ Oq$ OH O (λh0=>?_)$ λh0=>?_
    ·have iI:v<G.g.length:=by omega
     obtain⟨x,hx⟩:∃x,s.cand[v]? =some x:=⟨_,List.getElem?_eq_getElem (by rw[IY];exact iI)⟩;refine Ot$ Qt$ Qh O$ OQ zjq O (z8i h6 hd hx) ?_;rintro _ w7 ⟨rfl,h7,ax⟩;have gL:=fL.kp ax (λb hb e=>e (.inl (.inl (AD b hb))));have z7:=ax.size;refine OC O (Sw O (Qd O (Pz O (Ql O (PX O (Oz O (OX O (Oy O O (XM (cs:=[_]) (zs:=[Value.int .u64 0]) Z4 S7 O (by kernel_rfl) O O O ψ) ?_))))))));rintro _ w8 ⟨b8,rfl,⟨iW,cz,bY⟩,er⟩;refine Oy O O (pap Z4 S7 O ψ O O (gL.ext cz) er.rd (by intro c hc;simp at hc;subst hc;rfl) ω ω) ?_;rintro u9 w9 ⟨mT,aK,IZ,-⟩;have z8:=cz.size;have nK:∀b,u.ownBlock=some b->b≠G.k/\b≠G.x/\b≠T.k/\b≠T.x/\b≠1/\b≠2/\¬O_ b:=λb hb=>ov b (vf b hb);have h9:=h7.append AD nK cz aK IZ (λb hb=>mT.lt hb);have sF:Kp (λb=>¬Y b) w6 w9:=((ax.OA λb e e2=>e (.inl (.inl (BC b e2)))).trans cz.kp).trans (aK.OA λb e e2=>by have:=vf b e;have:=Nh b e2;omega);refine OK O$ Om$ R0 O$ PL O$ OK O ?_
     refine(ih2 (v+1,u9) _ ⟨by show v+1<=G.g.length;omega,?_,λb hb=>by
      rcases IZ b hb with e| e
      ·exact vf b e
      ·omega,⟨_,λb e=> .inl (BC b e),λb e=> .inr e,h9⟩,aJ.trans sF⟩ (by show G.g.length-(v+1)<G.g.length-v;omega)).qb
     show Sl w9 u9 _ 1 (v+1) ((s.cand.take (v+1)).map λc=>ON (dmV c));rw[PA hx,List.map_append];exact mT
    ·have iI:v=G.g.length:=by omega
     subst iI;rw[List.take_of_length_le (by rw[IY];exact Nat.le_refl _)] at fL
     obtain⟨gb,gc,rfl⟩:∃b c,u= .slice (some ⟨b,0,none⟩) G.g.length c:=by
      rcases fL.shape with⟨-,e⟩|⟨b,c,e,-⟩
      ·omega
      ·exact⟨b,c,e⟩
     have hg:=Ext.OT w6;have eR:=z3Q (h6.ext hg) du.a2 ω (λi e1 e2=>by rw[ve,S3 ω,if_pos ⟨e1,e2⟩]);rw[show Q2.PI (PJ Q2.L a 5 false)=Q by rw[ve,z8p du ω,<-x9];rfl] at eR;have qD:∀{b},Z b->¬O_ b->¬(¬Z b\/O_ b):=λh1 h2 e=>e.elim (λe=>e h1) h2;have Hf:¬O_ gb:=(ov gb (vf gb O)).2.2.2.2.2.2;have vg:=BC _ rX.1;have iL:∀{w14:World},Kp (λb=>¬Z b\/O_ b) w6.drew w14->Kp (λb=>¬Z b\/O_ b) w6 w14:=λhk=>hg.kp.trans hk;have co:∀{w14 w16:World},Kp (λb=>¬Z b\/O_ b) w6.drew w14->Ext w14 w16->Kp (λb=>¬Z b\/O_ b) w6 w16:=λhk hx=>(iL hk).trans hx.kp;refine OD O$ An$ An$ R8 (λw'=>Kp (λb=>¬Z b\/O_ b) w6 w') O$ OR 0 O O (hg.kp)$ SH 1 O ziO O (eR) ?_;rintro _ w14 ⟨rfl,txt14,qF,H4,cF⟩;refine⟨iL cF,?_⟩;refine Ow 2 O (yne O O) (iL cF)$ TK$ OR 3 O O (iL cF)$ Ow 4 O (Pk z5G O) (iL cF)$ qT 5 O (λ_ h=>OB XP O O (h.On aT (qD vg rX.2)) O) (iL cF)$ Ow 8 O (Pk zeG O) (iL cF)$ qT 9 O (λ_ h=>OB U3 O O (h.On aT (qD vg rX.2)) O) (iL cF)$ SH 6 O ziT O (qF.sp.map) ?_;rintro _ w15 ⟨rfl,rfl⟩;refine⟨iL cF,?_⟩;have eI:=qF.sp.room du ω;rw[hL] at eI;refine SH 7 O zfK O (eI) ?_;rintro _ w16 ⟨rfl,aZ⟩;refine⟨co cF aZ,?_⟩;refine Ow 10 O (yne O O) (co cF aZ)$ TK$ Ow 11 O (U0 O O) (co cF aZ)$ OR 12 O O (co cF aZ)$ Ow 13 O (Pk z5G O) (co cF aZ)$ qT 14 O (λ_ h=>OB XP O O (h.On aT (qD vg rX.2)) O) (co cF aZ) ?_;have kg:=z3p (qF.sp.ext' aZ);refine SH 15 O zjK O (kg) ?_;rintro _ w17 ⟨c1,c2,c3,c4,c5,rfl,cY⟩;refine⟨co cF (aZ.trans cY),?_⟩;refine Ow 16 O (yfd zep O O) (co cF (aZ.trans cY))$ Ow 17 O (XQ O O) (co cF (aZ.trans cY))$ TK$ Ow 18 O (U0 O O) (co cF (aZ.trans cY))$ qE$ T2 O$ Qh O$ PL O$ Qd O$ Oo func12 O ?_;have eF:=aZ.trans cY;have rY:=co cF eF;have J0:∀j,X j->Z j:=λj e=>BC j (aM j (fd j e));have H5:VO G T Q txt14 K5 (λj=>X j\/j=gb) w17:=(qF.grow eF (λj e=> .inl e) (λ_ e=>e)).less (λj e=>e.elim (J0 j) λe=>by rw[e];exact AD gb O) ⟨.inl mm.1,.inl mm.2.1,.inl mm.2.2.1,.inl mm.2.2.2.1,.inl mm.2.2.2.2.1,.inl mm.2.2.2.2.2⟩;rw[<-hs] at fL hd;refine⟨_,rfl,k+1,gb,gc,txt14,K5,rfl,ω,⟨hd,λj hj=>ek j ω⟩,fL.kp rY (λb hb=>qD (AD b hb) ((ov b (vf b hb)).2.2.2.2.2.2)),H5,ω,by have:=vf gb O;have:=lu.size;omega,λy e=>(H4 y (.inl e)).trans (AC y e),?_⟩;refine(((ad.kp.trans (am.OA λb e e2=>e (fd b e2))).trans (lu.OA λb e e2=>?_)).trans (aJ.OA λb e e2=>e (aM b (fd b e2)))).trans (rY.OA λb e e2=>?_)
     ·exact e.elim (λe=>e (aM b (fd b e2))) (IX e2)
     ·exact e.elim (λe=>e (J0 b e2)) (IX e2)
  ·have mO:(U7 G.g (Qb G.g) root (k+1)).done=false:=by simpa using hd
   rw[mO];refine PX O$ Pz O$ qV ((S1 O))$ Oq$ OI O$ OD O$ R0 O$ PL O$ OK O ?_
   exact(ih (k+1) w5 ⟨⟨txt5,K5,bG,ω,AC⟩,λj hj=>by
    by_cases e:j=k+1
    ·rw[e];exact mO
    ·exact ek j ω,lu⟩ ω).qb
end
def WZ {root:Nat}{W:Wd}{g:List (List Nat)}{txt:Int->Ov}{K:Nat}{X:Nat->Prop}{w:World}(h:VO W.G W.T W.Q txt K X w)(hK:K<=500000000000)(av:W.G.g=g)(EN:W.T.g=Qb g)(du:Pre W.Q.L W.a)(ha:W.a<=146)(hL:W.Q.L.length=200)(Oj:W.G.st+W.G.len<=W.T.st)(lh:W.T.st+W.T.len<=W.a)(aw:QH g)(hr:root<g.length)(dS:g.length<=40):
  P9 prog 12 [.agg #[ptr W.d 0,ptr W.Q.s 0,ptr W.G.k 0,ptr W.T.k 0,I ((200-W.a:Nat):Int)],I (root:Int)] w λv w'=>∃(k b c:Nat) (txt':Int->Ov) (K':Nat),v= .tuple #[.slice (some ⟨b,0,none⟩) g.length c,I (k:Int)]/\1<=k/\z3l g (Qb g) root k/\Sl w' (.slice (some ⟨b,0,none⟩) g.length c) 39 1 g.length ((U7 g (Qb g) root k).cand.map λc=>ON (dmV c))/\VO W.G W.T W.Q txt' K' (λj=>X j\/j=b) w'/\K'<=K+20000000/\w.heap.size<=b/\(∀y:Int,y<(W.a:Int)->txt' y=txt y)/\Kp (λb=>¬X b) w w':=by
 subst av
 have:=z2H (d:=W.d) h hK hr dS aw EN du ω lh ha hL
 exact this
abbrev g4:List (List Nat):=[[1,2],[3],[3],[]]
def zdm:QH g4:=⟨λl hl=>by
 simp only[List.mem_cons,List.not_mem_nil,or_false] at hl
 rcases hl with rfl|rfl|rfl|rfl<;>exact⟨ψ,ψ⟩,ψ,ψ⟩
def zei:z3l g4 (Qb g4) 0 3:=⟨by decide+kernel,by decide+kernel⟩
theorem zcx:(U7 g4 (Qb g4) 0 3).cand=[0,0,0,0]:=by decide+kernel
def z3c {w:World}(hG:OE w 1 (S6 .gamma) 314)(hU:OE w 2 (S6 .unary) 314):P9 prog 11 [] w λv w'=>v= .bool true/\Ext w w':=by
 refine py (e:=[]) func11 O ntmps11 O O$ qN O$ QL O$ Oy O O (XM (cs:=[_,_]) (zs:=[Value.int .u32 0,Value.int .u32 0]) Ph OS O (by kernel_rfl) O O O ψ) ?_
 rintro _ w1 ⟨b1,rfl,⟨bK,ad,ah⟩,jC⟩
 refine Oy O O (XM (cs:=[_]) (zs:=[Value.int .u32 0]) Ph OS O (by kernel_rfl) O O O ψ) ?_
 rintro _ w2 ⟨b2,rfl,⟨bP,ae,ak⟩,cU⟩
 refine Oy O O (XM (cs:=[_]) (zs:=[Value.int .u32 0]) Ph OS O (by kernel_rfl) O O O ψ) ?_
 rintro _ w3 ⟨b3,rfl,⟨dY,aj,ao⟩,cV⟩
 refine Oy O O (XM (cs:=[]) (zs:=[]) Ph OS O (by kernel_rfl) O O O ψ) ?_
 rintro _ w4 ⟨b4,rfl,⟨gF,aC,aH⟩,ep⟩
 refine Oy O O (XM (cs:=[_,_,_,_]) (zs:=[Value.slice none 0 0,Value.slice none 0 0,Value.slice none 0 0,Value.slice none 0 0]) WS TD O (by kernel_rfl) O O O ψ) ?_
 rintro _ w5 ⟨b5,rfl,⟨fR,aR,aD⟩,fP⟩
 have jA:GrM w5 (.slice (some ⟨b5,0,none⟩) 4 4) g4:=by
  refine⟨⟨_,fP.rd,λi l hl=>?_⟩⟩
  match i,hl with
  | 0, hl =>
    cases hl
    exact⟨_,_,rfl,Nat.le_refl _,(((jC.rd.ext ae).ext aj).ext aC).ext aR⟩
  | 1, hl =>
    cases hl
    exact⟨_,_,rfl,Nat.le_refl _,((cU.rd.ext aj).ext aC).ext aR⟩
  | 2, hl =>
    cases hl
    exact⟨_,_,rfl,Nat.le_refl _,(cV.rd.ext aC).ext aR⟩
  | 3, hl =>
    cases hl
    exact⟨_,_,rfl,Nat.le_refl _,ep.rd.ext aR⟩
  |i+4,hl=>cases hl
 have bQ:=(((ad.trans ae).trans aj).trans aC).trans aR
 have z4:=bQ.size
 refine OQ zgY O (z6H (g:=g4) zdm ψ ψ jA (bQ.On hG) (bQ.On hU) 1 0 ψ ψ) ?_
 rintro _ w15 ⟨W,XX,rfl,hW,AE,eP⟩
 have bL:=bQ.trans AE
 have z15:=AE.size
 refine OC O$ Sw O$ Oy O O (Rq (cs:=[_,_,_,_,_]) z1C O) ?_
 rintro _ w16 ⟨b16,rfl,uw,aZ,iJ⟩
 have z16:=aZ.size
 refine OJ O (Py (news:=W.v) z1C O O O O iJ ξ) ?_
 rintro w17 ⟨H6,dD⟩
 have AF:OE w17 b16 [ptr W.d 0,ptr W.Q.s 0,ptr W.G.k 0,ptr W.T.k 0,I ((200-W.a:Nat):Int)] 30:=H6
 have ox:Ext w15 w17:=aZ.It dD λb e=>by omega
 have Ni:=hW.gw2.grow ox (λj e=> .inl e) (λ_ e=>e)
 have IT:=hW.K
 refine OK O$ Pz O$ qV ((S1 O)) ?_
 rw[show(!true)=false from rfl]
 refine PX O$ qN O$ qV (Pa U30 O z1C O (OE.cells (n:=5) AF (news:=[_,_,_,_,_]) O) O)$ OQ zhR O (WZ (root:=0) Ni ω hW.gg hW.tg hW.pre hW.a hW.L hW.gs hW.ts zdm ψ ψ) ?_
 rintro _ w18 ⟨k,b,c,txt8,K8,rfl,aG,hE,ik,-,-,Nj,-,H7⟩
 have ar:k=3:=hE.eq zei
 subst ar
 rw[zcx] at ik
 have I9:g4.length=4:=rfl
 rw[I9] at ik⊢
 have c0:=PM ik.rd (i:=0) (v:=ON 0) O
 have c1:=PM ik.rd (i:=1) (v:=ON 0) O
 have c2:=PM ik.rd (i:=2) (v:=ON 0) O
 have c3:=PM ik.rd (i:=3) (v:=ON 0) O
 refine OC O$ Sw O$ Si O$ QO O$ Qr O$ Rf$ OX O$ Ro Z4 O$ QS O$ Rf$ QQ O$ OX O$ qV (PK Z4 S7 O O ω)$ qV (Pc R7 O O c0) ?_
 refine QS O$ Rf$ QQ O$ OX O$ qV (PK Z4 S7 O O ω)$ qV (Pc R7 O O c1)$ QS O$ Rf$ QQ O$ OX O$ qV (PK Z4 S7 O O ω)$ qV (Pc R7 O O c2)$ QS O$ Rf ?_
 refine QQ O$ OX O$ qV (PK Z4 S7 O O ω)$ qV (Pc R7 O O c3)$ QS O$ Rf$ QQ O$ OK O$ P8.qb (e:=[(0,_)]) ?_
 refine Oo func11 O (⟨_,rfl,rfl,(bL.trans ox).It H7 λb e=>?_⟩)
 rcases Nat.lt_or_ge b w.heap.size with h| h
 ·exact absurd (eP b ω) e
 ·exact h
structure ClF (g:List (List Nat))(root:Nat)(f num:Nat->Nat):Prop where
 r:f root=root
 up:∀v,SA g root v->v≠root->SA g root (f v)/\num v<num (f v)
 b:∀v,SA g root v->num v<g.length
 e:∀v u,SA g root v->u∈OG g v->u≠root->Ch f root v (f u)
def DmE.clf {g:List (List Nat)}{root:Nat}{cand:List Nat}(h:DmE g root cand):∃num,ClF g root (S0 cand) num:=by
 obtain⟨num,par,hT,hD,hb⟩:=h.ex
 refine⟨num,hD.i.fo.rt,λv hv hvr=>?_,hb,λv u hv hu hur=>hD.zeV hv hu hur⟩
 obtain⟨h1,h2⟩:=hD.i.fo.up v (hD.c v hv) hvr
 exact⟨hD.i.fo.in_ _ h1,h2⟩
structure UpI (g:List (List Nat))(root:Nat)(f num:Nat->Nat)(y i x:Nat):Prop where
 rc:SA g root x
 i:i<=num x
 c:Ch f root x y
section
variable {g:List (List Nat)}{root y i x v u:Nat}{f num:Nat->Nat}
def ClF.lt (h:ClF g root f num)(hI:UpI g root f num y i x):i<g.length:=Nat.lt_of_le_of_lt hI.i (h.b x hI.rc)
def ClF.next (h:ClF g root f num)(hI:UpI g root f num y i x)(h1:x≠root)(h2:x≠y):UpI g root f num y (i+1) (f x):=by
 obtain⟨h3,h4⟩:=h.up x hI.rc h1
 refine⟨h3,by have:=hI.i;omega,?_⟩
 rcases hI.c.inv with e|⟨-,e⟩
 ·exact absurd e.symm h2
 ·exact e
def UpI.end_ (hI:UpI g root f num y i x)(h:x=y\/x=root):x=y:=by
 rcases h with h| h
 ·exact h
 ·have:=hI.c;rw[h] at this;rw[h];exact this.at_root.symm
def ClF.zdk (h:ClF g root f num):∀(m:Nat) {v:Nat},SA g root v->g.length<=num v+m->Ch f root v root
 |0,v,hv,e=>by have:=h.b v hv;omega
 | m + 1, v, hv, e => by
   by_cases hr:v=root
   ·rw[hr];exact .refl _
   ·obtain⟨h3,h4⟩:=h.up v hv hr;exact .up hr (h.zdk m h3 ω)
def ClF.start (h:ClF g root f num)(hv:SA g root v):UpI g root f num root 0 v:=⟨hv,Nat.zero_le _,h.zdk g.length hv ω⟩
def ClF.zeV (h:ClF g root f num)(hv:SA g root v)(hu:u∈OG g v)(hur:u≠root):UpI g root f num (f u) 0 v:=⟨hv,Nat.zero_le _,h.e v u hv hu hur⟩
end
def domchain_ret {w:World}(hG:OE w 1 (S6 .gamma) 314)(hU:OE w 2 (S6 .unary) 314)(n root fr fo:Int)(hn:JIq n)(jj:JIq root)(jv:JIq fr)(uy:JIq fo){ea:Option Addr}{ec:Nat}{es:List (Nat×Nat)}(tH:es.length<=9000000000000000000)(hE:EdR w ea es):P9 prog 4 [I n,.slice ea es.length ec,I root,I fr,I fo] w λv w'=>v= .bool true/\Ext w w':=by
 refine py (e:=[(0,_),(1,_),(2,_),(3,_),(4,_)]) func4 O ntmps4 O O$ qN O$ QO O$ OQ cf9 O (z2F n hn _) ?_
 rintro _ w ⟨m,rfl,mz,dQ,rfl⟩
 refine OC O$ OQ cf8 O (z9j mz dQ tH hE) ?_
 rintro _ w1 ⟨g,bg,rfl,ju,aw,i7,ad⟩
 have r1:=Up root (g.length:Int) ω
 have r2:=WI root (g.length:Int) ω
 refine QL O$ OX O$ Ro WS O$ qV (yrt O O ω)$ OC O$ Ro WS O$ PL O$ OC O$ Ro WS O$ qV (yrt O O ω) ?_
 rw[show(root.tmod (g.length:Int)+(g.length:Int)).tmod (g.length:Int)=nrm root (g.length:Int) from rfl]
 obtain⟨r,hr,vh⟩:∃r:Nat,nrm root (g.length:Int)=(r:Int)/\r<g.length:=⟨(nrm root (g.length:Int)).toNat,ω,ω⟩
 rw[hr]
 have AG:=i7.gr
 have bc:1<=g.length:=by omega
 have gT:g.length<=40:=by omega
 have J1:=ad.On hG
 have J2:=ad.On hU
 refine QL O$ OX O$ OC O$ OQ zgY O (z6H aw bc gT AG J1 J2 fr fo jv uy) ?_
 rintro _ w5 ⟨W,XX,rfl,hW,aR,eP⟩
 have z5:=aR.size
 refine OC O$ Sw O$ Oy O O (Rq (cs:=[_,_,_,_,_]) z1C O) ?_
 rintro _ w6 ⟨b6,rfl,oD,aQ,aT⟩
 have z6:=aQ.size
 refine OJ O (Py (news:=W.v) z1C O O O O aT ξ) ?_
 rintro w7 ⟨bZ,ax⟩
 have ly:OE w7 b6 [ptr W.d 0,ptr W.Q.s 0,ptr W.G.k 0,ptr W.T.k 0,I ((200-W.a:Nat):Int)] 30:=bZ
 have l7:=bZ.lt
 have z7:=ax.size
 have jZ:Ext w5 w7:=aQ.It ax λb e=>by omega
 have cY:=aR.trans jZ
 have IT:=hW.K
 refine OK O$ P8.qb (e:=[(2,_),(10,_),(11,_),(12,_),(13,_)]) ?_
 refine Pz O$ qV ((S1 O)) ?_
 rw[show(!true)=false from rfl]
 refine OC O$ OQ zj6 O (z3c (cY.On J1) (cY.On J2)) ?_
 rintro _ w8 ⟨rfl,cz⟩
 refine qV ((S1 O)) ?_
 rw[show(!true)=false from rfl]
 have bY:=cz.On ly
 obtain⟨X,hX⟩:∃X:Nat->Prop,(λb=>W.x XX b\/b=b6)=X:=⟨_,rfl⟩
 have Nk:∀b,b<w1.heap.size->X b:=λb hb=>by rw[<-hX];exact .inl (eP b hb)
 have z8:=cz.size
 have h8:VO W.G W.T W.Q W.txt W.K X w8:=hW.gw2.grow (jZ.trans cz) (λj e=>by rw[<-hX] at e;exact e.imp id λe=>by omega) (λj e=>by rw[<-hX];exact .inl e)
 refine PC O$ PX O$ qN O$ qV (Pa U30 O z1C O (OE.cells (n:=5) bY (news:=[_,_,_,_,_]) O) O)$ OC O$ OQ zhR O (WZ h8 ω hW.gg hW.tg hW.pre hW.a hW.L hW.gs hW.ts aw vh gT) ?_
 rintro _ w9 ⟨k,gb,gc,txt9,K9,rfl,aG,DG,mT,-,-,mS,-,aK⟩
 have gm:Ext w1 w9:=(cY.trans cz).It aK λb e=>by
  rcases Nat.lt_or_ge b w1.heap.size with h| h
  ·exact absurd (Nk b h) e
  ·exact h
 obtain⟨H8,-⟩:=DG.e aw vh (λu v=>Z7 aw)
 have AH:GrR w9 bg 0 g:=by
  obtain⟨gb',go',gc',e,hq⟩:=AG.r bc;cases e;exact hq.ext gm
 obtain⟨cd,wc⟩:∃cd,(U7 g (Qb g) r k).cand=cd:=⟨_,rfl⟩
 rw[wc] at H8 mT
 obtain⟨num,hC⟩:=H8.clf
 have nL:∀v,v<g.length->∃c,S0 cd v=c/\(c≠4294967295↔SA g r v)/\(c≠4294967295->c<g.length)/\w9.cell? ⟨gb,0+v*1,none⟩=some (ON (dmV c)):=λv hv=>by
  obtain⟨c,h1,h2,h3,h4⟩:=H8.get aw vh hv;exact⟨c,h2,h3,h4,PM mT.rd (i:=v) (v:=ON (dmV c)) (by rw[List.getElem?_map,h1];rfl)⟩
 have kW:∀c,c≠4294967295->dmV c=c:=λc h=>if_neg h
 have rZ:=hC.r
 have H9:SA g r r:= .refl
 obtain⟨c0,e0,e1,e2,e3⟩:=nL r vh
 rw[rZ] at e0
 subst e0
 rw[kW _ ω] at e3
 refine OC O$ Sw O$ Qd O$ Pz O$ QS O$ Pu$ OX O$ OC O$ qV (PK Z4 S7 O O ω)$ qV (Pc R7 O O e3)$ OC O$ qV ((PO O U3 R7 ω))$ Ql O$ Pu ?_
 refine PC O$ Oq$ P8.qb (e:=[(2,_),(10,_),(11,_),(14,_),(65,_)]) ?_
 refine T2 O$ An$ QB O$ Ou$ Rw (α:=Nat) (0) (λv=>[(2,I (r:Int)),(11,.slice (some ⟨bg,0,none⟩) g.length g.length),(14,.slice (some ⟨gb,0,none⟩) g.length gc),(16,I (v:Int))]) (λv w'=>v<=g.length/\w'=w9) (λv=>g.length-v) ?hI ?hround
 case hI=>exact⟨Nat.zero_le _,rfl⟩
 case hround =>
  rintro v w' ⟨hv,rfl⟩ ih
  try dsimp only
  refine An$ Qh O$ Ro WS O$ Qv O$ Oq$ OH O (λh0=>?_)$ λh0=>?_
  ·have iI : v < g.length := by omega
   obtain⟨c,c1,c2,c3,c4⟩:=nL v iI;have eZ:g[v]? =some (OG g v):=by unfold OG;rw[List.getElem?_eq_getElem iI];rfl
   refine Ot (Qt (An (Qh O (qV (PK Z4 S7 O O ω) (qV (Pc R7 O O c4) ?_)))));by_cases oY:c=4294967295
   ·have rM:dmV c=18446744073709551615:=if_pos oY;rw[rM];refine QS O$ Rf$ Oq$ OI O$ OD O$ R0 O$ PL O$ OK O ?_;exact(ih (v+1) _ ⟨ω,rfl⟩ ω).qb
   ·have yd := c2.1 oY; have eR := c3 oY; rw [kW c oY]; rw [kW c oY] at c4
    have oy:∀x,SA g r x->S0 cd x<g.length/\SA g r (S0 cd x)/\w'.cell? ⟨gb,0+x*1,none⟩=some (ON (S0 cd x)):=λx hx=>by
     obtain⟨y,y1,y2,y3,y4⟩:=nL x (hx.lt aw vh);have hy:=y2.2 hx;rw[kW y hy] at y4;rw[y1];refine⟨y3 hy,?_,y4⟩;by_cases e:x=r
     ·rw[<-y1,e,rZ];exact H9
     ·rw[<-y1];exact(hC.up x hx e).1
    refine QS O$ Pu$ PX O$ P7 O$ OK O$ An$ QB O$ Ou$ Rw (α:=Nat×Nat) ((0,v)) (λy=>[(2,I (r:Int)),(11,.slice (some ⟨bg,0,none⟩) g.length g.length),(14,.slice (some ⟨gb,0,none⟩) g.length gc),(16,I (v:Int)),(17,I (y.2:Int)),(18,I (y.1:Int))]) (λy w2=>UpI g r (S0 cd) num r y.1 y.2/\w2=w') (λy=>g.length-y.1) ?hI ?hround
    case hI=>exact⟨hC.start yd,rfl⟩
    case hround =>
     rintro⟨i,x⟩ w2 ⟨BD,rfl⟩ ih1;dsimp only at BD ih1⊢;have aN:=hC.lt BD;have J3:=BD.rc;have ku:=J3.lt aw vh;obtain⟨x1,x2,x3⟩:=oy x J3
     try dsimp only
     refine An$ Qh O$ Ro WS O$ Qv O$ Rf$ OX O$ OC O ?_;by_cases J4:x=r
     ·obtain⟨ra,rc,fU,fJ⟩:=AH v _ eZ;have gG:(OG g v).length<=g.length:=aw.len (List.mem_of_getElem? eZ);refine Ql O$ Pu$ QQ O$ Oq$ Ox O$ OD O$ An$ Qh O$ Ql O$ Pu$ PX O$ QB O$ Ou$ Rw (α:=Nat) (0) (λi=>[(2,I (r:Int)),(11,.slice (some ⟨bg,0,none⟩) g.length g.length),(14,.slice (some ⟨gb,0,none⟩) g.length gc),(16,I (v:Int)),(19,I (i:Int))]) (λi w3=>i<=(OG g v).length/\w3=w2) (λi=>(OG g v).length-i) ?hI ?hround
      case hI=>exact⟨Nat.zero_le _,rfl⟩
      case hround =>
       rintro i w3 ⟨hi,rfl⟩ ih3
       try dsimp only
       refine An$ Qh O$ OC O$ qV (PK WS TD O O ω)$ qV (Pc Ph O O fU)$ Ro Ph O$ Qv O$ Oq$ OH O (λh1=>?_)$ λh1=>?_
       ·obtain⟨u,hu⟩:∃u,(OG g v)[i]? =some u:=⟨_,List.getElem?_eq_getElem ω⟩;obtain⟨lb,lo,rfl,Bn⟩:=fJ i u hu;have Ha:=List.mem_of_getElem? hu;have oc:u<g.length:=T5 aw v u Ha;refine Ot (Qt (Qh O (qV (PK WS TD O O ω) (qV (Pc Ph O O fU) (OC O (qV (PK Ph OS O O ω) (qV (Pc QA O O Bn) (qV (Ps O QA U3 ω) (OK O (An (Qh O ?_)))))))))));by_cases Nl:u=r
        ·refine QS O$ Rf$ Oq$ OI O$ OD O$ R0 O$ PL O$ OK O ?_;exact(ih3 (i+1) _ ⟨ω,rfl⟩ ω).qb
        ·have HK:SA g r u:= .step yd Ha;obtain⟨u1,u2,u3⟩:=oy u HK;refine QS O$ Pu$ PX O$ P7 O$ OK O$ An$ QB O$ Ou$ RP (λe' w'=>e'=[(2,I (r:Int)),(11,.slice (some ⟨bg,0,none⟩) g.length g.length),(14,.slice (some ⟨gb,0,none⟩) g.length gc),(16,I (v:Int)),(17,I (S0 cd u:Int)),(19,I (i:Int)),(20,I (u:Int))]/\w'=w3) ?dr$ λdr=>?iG
         case dr=>
          rintro e' w' ⟨rfl,rfl⟩;refine P7 O (qV ((PO O U3 R7 ω)) (OX O (qV (PK Z4 S7 O O ω) (qV (Pc R7 O O u3) (Ql O (Pu (PX O (Om (R0 O (PL O (OK O ?_)))))))))));exact(ih3 (i+1) _ ⟨ω,rfl⟩ ω).qb
         case iG=>
          refine Rw (α:=Nat×Nat) ((0,v)) (λy=>[(2,I (r:Int)),(11,.slice (some ⟨bg,0,none⟩) g.length g.length),(14,.slice (some ⟨gb,0,none⟩) g.length gc),(16,I (v:Int)),(17,I (y.2:Int)),(19,I (i:Int)),(20,I (u:Int)),(21,I (y.1:Int))]) (λy w4=>UpI g r (S0 cd) num (S0 cd u) y.1 y.2/\w4=w3) (λy=>g.length-y.1) ?hI ?hround
          case hI=>exact⟨hC.zeV yd Ha Nl,rfl⟩
          case hround=>
           rintro⟨j,z⟩ w4 ⟨oz,rfl⟩ ih4;dsimp only at oz ih4⊢;have mN:=hC.lt oz;have J5:=oz.rc;obtain⟨z1,z2,z3⟩:=oy z J5;have Ol:=J5.lt aw vh
           try dsimp only
           refine An (Qh O (Ro WS O (Qv O (Rf (OX O (qV ((PO O U3 R7 ω)) (OX O (qV (PK Z4 S7 O O ω) (qV (Pc R7 O O u3) ?_)))))))));by_cases Hb:z=S0 cd u
           ·subst Hb;refine Ql O$ Pu$ QQ O$ OC O$ QI$ qS$ PC O$ Oq$ Ox O$ OD O ?_;exact(dr _ _ ⟨rfl,rfl⟩).qb
           ·refine Ql O$ Rf$ QQ O$ OX O$ OC O ?_;by_cases AI:z=r
            ·exact absurd (oz.end_ (.inr AI)) Hb
            ·refine Ql O (Rf (QQ O (Oq (OI O (Ot (Qt (Oz O (OX O (qV (PK Z4 S7 O O ω) (qV (Pc R7 O O z3) (qV (Ps O R7 U3 ω) (OK O (Om ?_)))))))))))));refine R0 O$ PL O$ OK O ?_;exact(ih4 (j+1,S0 cd z) _ ⟨hC.next oz AI Hb,rfl⟩ (by show g.length-(j+1)<g.length-j;omega)).qb
       ·refine OD O$ Om$ R0 O$ PL O$ OK O ?_;exact(ih (v+1) _ ⟨ω,rfl⟩ ω).qb
     ·refine Ql O (Rf (QQ O (Oq (OI O (Ot (Qt (An (Qh O (qV (PK Z4 S7 O O ω) (qV (Pc R7 O O x3) (OC O (Ro WS O (qV ((PO O U3 R7 ω)) ?_)))))))))))));refine TE O (Pu (PX O (Oz O (OX O (qV (PK Z4 S7 O O ω) (qV (Pc R7 O O x3) (qV (Ps O R7 U3 ω) (OK O (Om (R0 O (PL O (OK O ?_))))))))))));exact(ih1 (i+1,S0 cd x) _ ⟨hC.next BD J4 J4,rfl⟩ (by show g.length-(i+1)<g.length-i;omega)).qb
  ·refine OD O$ QB O$ Oo func4 O ?_;exact⟨_,rfl,rfl,ad.trans gm⟩
end Go.Proofs.YtbihggbffaigjaaGreatDoor
namespace Go.Proofs.YtbihggbffaigjaaGreatDoor
open Go Go.ChangeShapes Go.WideShapes Go.ChangeAt Go.RowKit Go.Proofs.Tryz
def Zd (P:Program)(ts:List TypeId):Bool:=ts.all λt=>P.readableRec t&&decide (t<P.types.size)
def Xk {H:Type}{enc:TypeId×Value->H}{P:Program}(hl:laidOutB P=true){W W':World}(hb:Below W.heap.size W W'):
  ∀ {ts : List TypeId} {vs : List Value} {ds : List (DataW H)} {ps : List MemPlace}, Zd P ts = true -> DataW.TrodAll enc P W 0 (λ_ => true) true ts vs ds ps ->
    DataW.TrodAll enc P W' 0 (λb=>decide (b<W.heap.size)) true ts vs ds ps
 |[],[],[],_,_,h=>h
 | t :: ts, v :: vs, d :: ds, _, hr, h => by
   obtain⟨p,q,h1,h2,rfl⟩:=h;simp only[Zd,List.all_cons,Bool.and_eq_true,decide_eq_true_eq] at hr
   exact⟨p,q,Below.trod hl hr.1.1 hr.1.2 h1 hb (by obtain⟨m,hm⟩:=h1;exact DataW.trod_lt m _ _ _ hm),Xk hl hb hr.2 h2,rfl⟩
 |[],[],_::_,_,_,h=>h.elim
 |[],_::_,_,_,_,h=>h.elim
 |_::_,[],_,_,_,h=>h.elim
 |_::_,_::_,[],_,_,h=>h.elim
def Zn {H:Type}{enc:TypeId×Value->H}{P:Program}{W:World}{base:Nat}{spare:Nat->Bool}{held:Bool}:
  ∀{ts:List TypeId} {vs:List Value} {ds:List (DataW H)} {ps:List MemPlace},DataW.TrodAll enc P W base spare held ts vs ds ps->ds.length=ts.length
 |[],[],[],_,_=>rfl
 | t :: ts, v :: vs, d :: ds, _, h => by
   obtain⟨p,q,h1,h2,rfl⟩:=h
   simpa using Zn h2
 |[],[],_::_,_,h=>h.elim
 |[],_::_,_,_,h=>h.elim
 |_::_,[],_,_,h=>h.elim
 |_::_,_::_,[],_,h=>h.elim
def own:ownKnob prog.godebug=none:=by kernel_rfl
def laidOut:laidOutB prog=true:=by kernel_rfl
open Go.Deep
section
variable {H:Type}{enc:TypeId×Value->H}{W:World}{sp:Nat->Bool}
def zat (n:Int)(h:(Lit.int .u32 n).wf=true):Value.int .u32 n=Pn n.toNat/\n.toNat<4294967296:=by
 simp[Lit.wf,IntKind.min,IntKind.max,IntKind.signed,IntKind.bits] at h
 exact⟨by unfold Pn;congr;omega,ω⟩
def i64_in (n:Int)(h:(Lit.int .i64 n).wf=true):JIq n:=by
 simp[Lit.wf,IntKind.min,IntKind.max,IntKind.signed,IntKind.bits] at h;omega
def z8a {w:World}{b off:Nat}{spot:Option Nat}{v:Value}(h:w.cell? ⟨b,off,spot⟩=some v):spot=none:=by
 unfold World.cell? at h
 split at h
 ·cases spot with
  |none=>rfl
  |some s=>simp at h
 ·cases h
def open_edges {fuel:Nat}{v:Value}{x:DataW H×List MemPlace}(h:DataW.trod enc prog W 0 sp true fuel 22 [v]=some x)(hw:∀n∈x.1.weights prog 22,n<=reachBytes):∃(ea:Option Addr) (ec:Nat) (es:List (Nat×Nat)),v= .slice ea es.length ec/\EdR W ea es/\es.length<=9000000000000000000:=by
 rcases open_slice_pairs U22 U81 (by kernel_rfl) O O (by kernel_rfl) (by kernel_rfl) h with⟨hv,hx⟩|⟨a,len,cap,m,n,V0,V1,D0,D1,P0,P1,hv,-,hl,hm,B8,hx,oA⟩
 ·cases hv;exact⟨none,0,[],rfl,λi e he=>by simp at he,ξ⟩
 ·cases hv;have fg:maxLen=9223372036854775807:=rfl;have i9:len<=m:=by rw[B8];split<;>omega
  have hk:∀i,i<len->∃e:Nat×Nat,e.1<4294967296/\e.2<4294967296/\W.cell? (a.add (i*2))=some (Pn e.1)/\W.cell? (a.add (i*2+1))=some (Pn e.2):=λi hi=>by
   obtain⟨c0,c1,h0,h1⟩:=oA i ω;obtain⟨n0,e0,-,f0⟩:=DataW.trod_int QA h0;obtain⟨n1,e1,-,f1⟩:=DataW.trod_int QA h1;have e0:V0 i= .int .u32 n0:=by simpa using e0
   have e1:V1 i= .int .u32 n1:=by simpa using e1
   obtain⟨q0,b0⟩:=zat n0 f0;obtain⟨q1,b1⟩:=zat n1 f1;exact⟨(n0.toNat,n1.toNat),b0,b1,by rw[c0,e0,q0],by rw[c1,e1,q1]⟩
  obtain⟨E,hE⟩:∃E:Nat->Nat×Nat,∀i,i<len->(E i).1<4294967296/\(E i).2<4294967296/\W.cell? (a.add (i*2))=some (Pn (E i).1)/\W.cell? (a.add (i*2+1))=some (Pn (E i).2):=
   choose_lt (α:=Nat×Nat) (n:=len) (p:=λi e=>e.1<4294967296/\e.2<4294967296/\W.cell? (a.add (i*2))=some (Pn e.1)/\W.cell? (a.add (i*2+1))=some (Pn e.2)) hk
  refine⟨some a,cap,(List.range len).map E,ξ,λi e he=>?_,?_⟩
  ·rw[List.getElem?_map] at he;rcases Nat.lt_or_ge i len with hi|hi
   ·rw[List.getElem?_range hi] at he;obtain rfl:=Rh he;obtain⟨g1,g2,g3,g4⟩:=hE i hi;obtain⟨b,off,spot⟩:=a;have h3:=(hE 0 ω).2.2.1;rw[Nat.zero_mul] at h3;simp only[Addr.add,if_true] at h3;obtain rfl:=z8a h3;rw[Rb] at g3 g4;exact⟨g1,g2,b,off,rfl,g3,by rw[Nat.add_assoc];exact g4⟩
   ·rw[List.getElem?_eq_none (by simpa using hi)] at he;cases he
  ·have oW:=hw ((len+(m-len))*8) (by rw[hx];simp[DataW.weights,U22,show prog.bytesOf 81=8 by kernel_rfl]);simp[reachBytes] at oW;simp;omega
end
def law_lifted_tied {H:Type}{enc:TypeId×Value->H}{C:Checked}{os:Os}{f:FuncId}{fn:Func}{s:ChangeSpec}{t:TypeId}{ts:List TypeId}{laid:List (String×DataW Unit)}
  (own:ownKnob C.prog.godebug=none) (started:os.Started) (hl:laidOutB C.prog=true) (noInit:C.prog.inits.idxOf? f=none) (hfn:C.prog.funcs[f]? =some fn)
  (hts:fn.params.toList=ts) (hrd:Zd C.prog ts=true) (hrt:fn.resultTypes=#[t]) (hb:C.prog.underlying t=some .bool) (hsv:s.vars=[])
  (hpl:(laid.all λx=>x.2.handleName?.isNone)=true)
  (hspec:∀ds:List (DataW H),ds.length=ts.length->s.fn H ds={results:=[.lit (.bool true)],args:=ds})
  (witness:∃(w:World) (tape:Tape) (i:Input),w.os=os/\(w.forCall tape i).Shaped C.prog/\i.vars=[]/\Input.okWide C.prog (w.forCall tape i) .any w.heap.size f i/\
   ((s.pre enc C.prog fn [] false (w.forCall tape i).memory i.args/\laidMetH C.prog laid (w.forCall tape i).memory)/\sizedMet enc C.prog fn (OpenSpec.ofChange s) false (w.forCall tape i).memory i.args)/\({}:Assume).holds C.prog (lone (Frame.enter C.prog f i.args .normal) [] (w.forCall tape i)))
  (hret:∀(W:World) (base:Nat) (args:List Value) (ds:List (DataW H)) (ps:List MemPlace),W.ShapedOpen C.prog->laidMet C.prog laid W->
   (∀(j:Nat) t v,ts[j]? =some t->args[j]? =some v->Value.okWide C.prog W .any base t v)->
   DataW.TrodAll enc C.prog W 0 (λ_=>true) true ts args ds ps->W.noneFrozen ps->
   (DataW.weightsEach C.prog ts ds).all (·<=reachBytes)=true->
   P9 C.prog f args W λv w'=>v= .bool true/\Ext W w'):
  ReturnsInHanded {} C os f .any (λw args=>(s.pre enc C.prog fn [] false w args/\laidMetH C.prog laid w)/\sizedMet enc C.prog fn (OpenSpec.ofChange s) false w args) (s.post enc C.prog fn false true false false):=by
 refine returnsInHanded_of_calls own started noInit witness ?_
 intro w tape i _ hsh _ hok hpre hholds
 obtain⟨_,_,_,fn',hfn',_,_,_,_,hval⟩:=hok
 have e:fn'=fn:=Option.some.inj (hfn'.symm.trans hfn)
 subst e
 obtain⟨⟨⟨ds,gs,before,hw,hc⟩,hx⟩,hz⟩:=hpre
 have hW:=DataW.Whole.of_heap (w':=w.forCall tape i) (by rfl) hw
 have hW':=hW
 have hsz0:(DataW.weightsEach C.prog (fn'.params.toList++s.plain.varTypes C.prog) (ds++gs)).all (·<=reachBytes)=true:=hz.weights hw
 obtain⟨p,q,hA,hV,rfl,hfz,_⟩:=hW
 rw[hsv] at hV
 obtain⟨rfl,rfl⟩:=trodVars_none hV
 rw[hts] at hA
 have hlen:=Zn hA
 have hsz:(DataW.weightsEach C.prog ts ds).all (·<=reachBytes)=true:=by
  have hv:s.plain.varTypes C.prog=[]:=by simp[ChangeSpec.plain,DataSpec.varTypes,hsv]
  rw[hts,hv,List.append_nil,List.append_nil] at hsz0;exact hsz0
 have hL:laidMet C.prog laid (w.forCall tape i):=by
  rw[MakeChecks.laidMetH_plain _ _ _ hpl] at hx;exact hx.of_heap (by rfl)
 have hr:=hret _ w.heap.size i.args.toList ds p hsh hL (λj t v h1 h2=>hval j t v (by rw[<-hts] at h1;simpa using h1) (by simpa using h2)) hA (by rw[List.append_nil] at hfz;exact hfz) hsz
 unfold P9 at hr;rw[Array.toArray_toList] at hr
 refine Calls.mono hr λx W' ⟨v,hx,hv,hext⟩=>?_
 subst hx;subst hv
 have bel:=hext.below
 refine ChangeSpec.post_blind ⟨ds,[],p++[],[],p,[],hW',?_,?_,?_,bel.frame _,λh=>by cases h⟩
 ·rw[List.append_nil,hspec ds hlen,hrt];exact trodAll_mk1 (shut_bool hb _)
 ·rw[List.append_nil,hspec ds hlen,hts];exact Xk hl bel hrd hA
 ·rw[hsv,List.append_nil,hspec ds hlen]
  rfl
def pair_cells {P:Program}{W:World}{t fuel:Nat}{cs:Array Value}{f0 f1:Field}{ka kb:IntKind}{a b:Int}{p:List MemPlace}(hs:P.underlying t=some (.struct #[f0,f1]))(hc:P.cellsOf t=2)(o0:f0.offset=0)(o1:f1.offset=1)
  (c0:P.cellsOf f0.type=1) (c1:P.cellsOf f1.type=1) (u0:P.underlying f0.type=some (.int ka)) (u1:P.underlying f1.type=some (.int kb))
  (hd:DataW.trod (λ_=>()) P W 0 (λ_=>true) false fuel t cs.toList=some (.agg [.lit (.int ka a),.lit (.int kb b)],p)):cs.toList=[.int ka a,.int kb b]:=by
 obtain⟨y0,y1,n,hx,hl,h0,h1⟩:=trod_struct2 hs hd
 obtain⟨v0,e0,rfl,-⟩:=DataW.trod_int u0 h0
 obtain⟨v1,e1,rfl,-⟩:=DataW.trod_int u1 h1
 rw[hc] at hl
 rw[o0,c0] at e0
 rw[o1,c1] at e1
 simp at hx
 obtain⟨⟨rfl,rfl⟩,-⟩:=hx
 match hcs:cs.toList,hl with
 | [x, y], _ =>
   rw[hcs] at e0 e1;simp at e0 e1;rw[e0,e1]
def z7s {P:Program}{W:World}{n:String}{g T:Nat}{cs:Array Value}{l:List Value}(hW:W.ShapedOpen P)(hgs:g<P.globals.size)(hz:(((begin P (λ_ _=>0) default).world.heap[g]?).bind Obj.row?).map (·.2)=some T)(hg:P.globalNamed n=some g)(hv:W.var? P n=some cs)(hcs:cs.toList=l):OE W g l T:=by
 cases hr:((begin P (λ_ _=>0) default).world.heap[g]?).bind Obj.row? with
 |none=>rw[hr] at hz;cases hz
 | some x =>
   obtain⟨z,t⟩:=x;rw[hr] at hz;obtain rfl:t=T:=Option.some.inj hz;obtain⟨c,hh,-,-⟩:=hW.1 g z t hgs hr;simp only[World.var?,hg,Option.bind_some,hh] at hv;have hc:c=cs:=by simpa using hv
   subst hc;refine⟨(0,0),by rw[hh,<-hcs],λi _ e=>by simp at e⟩
def laid_two {W:World}{laid:List (String×DataW Unit)}(hlaid:laid=[("wattle/list.gamma",.agg [.lit (.int .u8 1),.lit (.int .u64 0)]),("wattle/list.unary",.agg [.lit (.int .u8 0),.lit (.int .u64 0)])])(hW:W.ShapedOpen prog)(h:laidMet prog laid W):OE W 1 [.int .u8 1,.int .u64 0] 314/\OE W 2 [.int .u8 0,.int .u64 0] 314:=by
 subst hlaid
 obtain⟨ps,hL,-,hB⟩:=h
 obtain⟨g0,t0,cs0,fuel0,p0,q0,hg0,ht0,hv0,hd0,hL,hps⟩:=hL
 obtain⟨g1,t1,cs1,fuel1,p1,q1,hg1,ht1,hv1,hd1,hL,hqs⟩:=hL
 obtain rfl:=Option.some.inj ((show prog.globalNamed "wattle/list.gamma"=some 1 by kernel_rfl).symm.trans hg0)
 obtain rfl:=Option.some.inj ((show prog.globalNamed "wattle/list.unary"=some 2 by kernel_rfl).symm.trans hg1)
 obtain rfl:=Option.some.inj ((show(prog.globals[1]?).map (·.type)=some 314 by kernel_rfl).symm.trans ht0)
 obtain rfl:=Option.some.inj ((show(prog.globals[2]?).map (·.type)=some 314 by kernel_rfl).symm.trans ht1)
 have e0:=pair_cells underlying314 (by kernel_rfl) O O (by kernel_rfl) (by kernel_rfl) underlying5 underlying39 hd0
 have e1:=pair_cells underlying314 (by kernel_rfl) O O (by kernel_rfl) (by kernel_rfl) underlying5 underlying39 hd1
 exact⟨z7s hW (show 1<prog.globals.size from of_decide_eq_true (by kernel_rfl)) (by kernel_rfl) hg0 hv0 e0,z7s hW (show 2<prog.globals.size from of_decide_eq_true (by kernel_rfl)) (by kernel_rfl) hg1 hv1 e1⟩
noncomputable def limWorld (os:Os):World:=
 let w0:=World.holding prog os ⟨#[],#[],[]⟩
 { w0 with heap := w0.heap.modify 1 fun
   | .cells _ t frozen=> .cells #[.int .u8 1,.int .u64 0] t frozen
   |o=>o}
end Go.Proofs.YtbihggbffaigjaaGreatDoor
