/- Merged by program. -/
import Derived.Test.YtgdkbagngobdlaaGreatDoorZt6
import Derived.Shelf.Strings.Repeat
import Derived.Test.YtgdkbagngobdlaaGreatDoorProg
import Derived.Room.AppendFits
import Derived.Lib.UnsafeStr
import Derived.Deep.SlicePairs
set_option linter.all false
set_option maxRecDepth 1000000
set_option maxHeartbeats 16000000
namespace Go.Proofs.YtgdkbagngobdlaaGreatDoor
open Go Go.RowKit Go.Proofs.Tryz
def z99 {l:List (Int×OG)}{n:Int}{t:OG}(h:Wv l n=some t):∃x∈l,x.2=t:=by
 unfold Wv at h
 obtain⟨x,hx,e⟩:=Option.map_eq_some_iff.1 h
 exact⟨x,List.mem_reverse.1 (List.mem_of_find?_eq_some hx),e⟩
theorem Dev.Ok.zdS {D:Dev}(h:D.Ok)(n:Int):(D.now n).length=512*D.N:=by
 unfold Dev.now
 cases hl:Wv D.cache n with
 |none=>exact h.kept n
 | some t =>
   obtain⟨x,hx,rfl⟩:=z99 hl;exact(h.cache x hx).2.2
section
variable {w w':World}{P P':Rn}{txt:Int->OG}{K:Nat}
def We.zhM (h:We P txt K)(ay:P.D.Ok){k:Int}:We {P with A:=P.A.drop k,l:=SH P.l k} (λx=>if x=k then P.D.now k else txt x) K:=by
 have hk:=z1o h.nd k
 have dx:=T5 P.l k
 have bE:=Arc.z92 h.aok k
 have IC:=h.ca
 have Fa:=h.cc
 have zD:S4 (SH P.l k)<=S4 P.l:=dx.countP_le
 have gH:∀q∈SH P.l k,q∈P.l/\q.k≠k:=λq hq=>⟨dx.subset hq,((hk q.k).1 (List.mem_map.2 ⟨q,hq,rfl⟩)).2⟩
 refine⟨h.aok.drop k,h.asz,λx=>by dsimp only;rw[hk,bE,h.keys],(dx.map _).nodup h.nd,λq hq=>h.rng q (gH q hq).1,λq hq=>?_,λq hq hd=>?_,λx h0 h1 hx=>?_,λx h0 h1=>?_,h.down,h.due,h.B,h.N,by dsimp only;omega,by dsimp only;omega,h.SB⟩
 ·rw[if_neg (gH q hq).2];exact h.tx q (gH q hq).1
 ·rw[if_neg (gH q hq).2];exact h.cl q (gH q hq).1 hd
 ·dsimp only at h1 hx⊢;rw[bE,not_and] at hx;by_cases e:x=k
  ·rw[if_pos e,e]
  ·rw[if_neg e];exact h.out x h0 h1 λe2=>hx e2 e
 ·dsimp only at h1⊢;by_cases e:x=k
  ·rw[if_pos e,ay.zdS,h.N]
  ·rw[if_neg e];exact h.len x h0 h1
def We.TH (h:We P txt K)(hA:P'.A=P.A)(hl:P'.l=P.l)(hD:P'.D=P.D)(hL:P'.L=P.L):We P' txt K:=by
 obtain⟨a1,a2,a3,a4,a5,a6,a7,a8,a9,b1,b2,b3,b4,b5,b6,b7⟩:=h
 constructor<;>simp only[hA,hl,hD,hL]<;>assumption
def Ut.dok (h:Ut w P):P.D.Ok:=by
 obtain⟨m,kp,ca,h1,-⟩:=h.dev
 exact h1.ok
def zan (l:List Pg)(k:Int):(k∉l.map (·.k)/\Rg (UR l) k=none)\/∃q∈l,q.k=k/\Rg (UR l) k=some (ptr q.b 0):=by
 induction l with
 |nil=>exact .inl ⟨by simp,rfl⟩
 | cons g l ih =>
   show _\/_;by_cases h:k=g.k
   ·exact .inr ⟨g,List.mem_cons_self,h.symm,if_pos h⟩
   ·have e:Rg (UR (g::l)) k=Rg (UR l) k:=if_neg h;rw[e];rcases ih with⟨a,b⟩|⟨q,a,b,c⟩
    ·exact .inl ⟨by simp[h] at a⊢;exact a,b⟩
    ·exact .inr ⟨q,List.mem_cons_of_mem _ a,b,c⟩
def z7m (hm:Ut w P)(hI:We P txt K){s n:Nat}(cX:1<=n)(dD:s+n<=P.L.length):Pm prog 117 [ptr P.s 0,.agg #[I (s:Int),I (n:Int)]] w λv w'=>v=I 0/\∃P' txt',Uo w P w' P'/\We P' txt' K/\(∀x:Int,x<(s:Int)\/(s:Int)+(n:Int)<=x->txt' x=txt x)/\P.Same P':=by
 have dW:=hm.ext.n
 have iS:=hm.cells
 refine py (e:=[(0,_),(1,_)]) func117 O ntmps117 O O$ qN O$ OM O O (Rm O (cs:=[I (s:Int),I (n:Int)]) O) ?_
 rintro _ w1 ⟨b3,rfl,eG,ad,au⟩
 have da:=hm.r ad
 have pQ:∀i,¬P.cp i b3:=hm.new (by omega)
 have js:=ad.OC iS
 have hg:=Ext.OT w1
 have fD:=Ws (da.m.dev.ext hg)
 rw[hI.B] at fD
 refine OU O$ Qx$ Pf O$ qV (Qi XF O O)$ OU O$ OJ O$ Pf O$ Pu O$ OX z7V O$ qV (OO U4 O O js O)$ OU O$ OJ O$ It$ R5 (λw'=>Ext w1 w') O ?_
 refine OI 0 O (Pp Ra O) hg$ qT 1 O (λ_ h=>(OO U3 O O (h.OC au) O)) hg$ OI 2 O (ylt O O) hg$ Uc$ OZ 3 O O (hg)$ OI 4 O (Pp QX O) hg$ qT 5 O (λ_ h=>(OO U3 O O (h.OC au) O)) hg$ OI 6 O (ylt O O) hg$ Uc$ OI 7 O (Ub O O) hg$ OZ 8 O O (hg)$ OI 9 O (Pp QX O) hg$ qT 10 O (λ_ h=>(OO U3 O O (h.OC au) O)) hg$ OZ 11 O O (hg) ?_
 refine OI 12 O (Q4 O) hg$ OI 13 O (Pp UX O) hg$ qT 14 O (λ_ h=>(OO U28 O O (h.OC js) O)) hg$ SK 15 O z48 O (fD) ?_
 rintro _ w2 ⟨rfl,rfl⟩
 refine⟨hg,?_⟩
 refine OI 16 O (yge O O) hg$ Uc$ OI 17 O (Ub O O) hg$ OZ 18 O O (hg)$ OI 19 O (Pp Ra O) hg$ qT 20 O (λ_ h=>(OO U3 O O (h.OC au) O)) hg$ OZ 21 O O (hg)$ OI 22 O (Q4 O) hg$ OI 23 O (Pp UX O) hg$ qT 24 O (λ_ h=>(OO U28 O O (h.OC js) O)) hg$ OI 26 O (Pp QX O) hg$ qT 27 O (λ_ h=>(OO U3 O O (h.OC au) O)) hg$ SK 25 O z48 O (fD) ?_
 rintro _ w2 ⟨rfl,rfl⟩
 refine⟨hg,?_⟩
 refine OI 28 O (XH O O (by omega)) hg$ OI 29 O (Xw O O) hg$ Uc$ OI 30 O (Ub O O) hg$ OI 31 O (R7 O) hg ?_
 obtain⟨w2,lC⟩:∃w2,w1.drew=w2:=⟨_,rfl⟩
 rw[lC] at hg⊢
 have de:=hg.OC au
 have dw:=da.ext hg
 have ia:=hg.OC js
 have l3:=de.lt
 refine qE$ Pn.qb (e:=[(0,_),(3,_),(4,_),(16,_)]) ?_
 refine Tu O$ OA$ It$ qN O$ OX Ra O$ qV (OO U3 O O de O)$ OK O$ OD$ OH$ Rq (α:=Nat) (0) (λi=>[(0,ptr P.s 0),(3,ptr b3 0),(49,I (n:Int)),(50,I (i:Int))]) (λi w'=>Ext w2 w'/\i<=n) (λi=>n-i) ?hI ?hround
 case hI=>exact⟨Ext.refl _,Nat.zero_le _⟩
 case hround =>
  rintro i w3 ⟨ai,hi⟩ ih;have ct:=dw.ext ai;have kF:=ai.OC ia;have eH:=ai.OC de;have af:=Ext.OT w3
  try dsimp only
  refine qN O$ Qq O$ OD$ It$ OQ O (λh0=>?_)$ λh0=>?_
  ·refine OE$ Qx$ Pf O$ OU O$ It$ R5 (λw'=>Ext w3 w') O$ OZ 0 O O (af)$ OI 1 O (Q4 O) af$ OI 2 O (Pp VP O) af$ qT 3 O (λ_ h=>(OO YF O O (h.OC kF) O)) af$ OI 4 O (Pp QX O) af$ qT 5 O (λ_ h=>(OO U3 O O (h.OC eH) O)) af$ OZ 6 O O (af)$ OI 7 O (Ud O O (by omega)) af ?_;rw[show(s:Int)+(i:Int)=((s+i:Nat):Int) by omega];refine qT 8 O (λ_ hS=>ylk (k:=((s+i:Nat):Int)) (K:=KI) YF (Sd U3) zcq O O (ct.m.ext' hS).mp.l) af ?_;rcases zan P.l ((s+i:Nat):Int) with⟨-,dI⟩|⟨q,hq,-,dI⟩
   ·rw[dI];refine OI 9 O (R7 O) af$ qE$ Pf O$ qV (z4L zhh O O)$ OK O$ QG$ QG$ qS$ PK O$ PW O$ OA$ OL O$ PV O$ OK O ?_;refine OD ?_;exact(ih (i+1) _ ⟨ai.trans af,by omega⟩ (by omega)).qb
   ·rw[dI];have rg:=(af.OC (ct.m.pg q hq):OR w3.drew q.b [S q.t,.bool q.d,I 0] 218);refine OI 9 O (R7 O) af$ qE$ Pf O$ qV (z4L zhh O O)$ P8 O$ Pu O$ OX zdv O$ qV (OO U3 O O rg O)$ Qu O$ PF$ QJ O$ PW O$ OA$ OL O ?_;refine PV O$ OK O$ OD ?_;exact(ih (i+1) _ ⟨ai.trans af,by omega⟩ (by omega)).qb
  ·have aU : i = n := by omega
   subst aU;refine ON O$ It$ qN O$ OX Ra O$ qV (OO U3 O O eH O)$ OK O$ OD$ OH$ Rq (α:=Nat×Rn×(Int->OG)) ((0,P,txt)) (λy=>[(0,ptr P.s 0),(3,ptr b3 0),(73,I (i:Int)),(74,I (y.1:Int))]) (λy w'=>Uo w P w' y.2.1/\We y.2.1 y.2.2 K/\y.1<=i/\P.Same y.2.1/\(∀x:Int,x<(s:Int)\/(s:Int)+(i:Int)<=x->y.2.2 x=txt x)/\OR w' b3 [I (s:Int),I (i:Int)] 119/\∀j,¬y.2.1.cp j b3) (λy=>i-y.1) ?hI ?hround
   case hI=>exact⟨ct,hI,Nat.zero_le _,⟨rfl,rfl,rfl,rfl,rfl,rfl,rfl,rfl,rfl⟩,λx _=>rfl,eH,pQ⟩
   case hround =>
    rintro⟨j,Pj,tj⟩ w4 ⟨bM,ly,hj,cb,iY,en,nS⟩ ih2;dsimp only at bM ly hj cb iY en nS ih2⊢;have eP:=bM.m.cells;rw[cb.s] at eP;have ag:=Ext.OT w4;have cS:=Ext.OT w4.drew
    try dsimp only
    refine qN O$ Qq O$ OD$ It$ OQ O (λh2=>?_)$ λh2=>?_
    ·refine OE$ Qx$ Pf O$ OU O$ It$ P7 [8] (λw'=>Ext w4 w') (by kernel_rfl) O$ PL 0 O O (ag)$ P9 1 O (Q4 O) ag$ P9 2 O (Pp VP O) ag$ qL 3 O (λ_ h=>(OO YF O O (h.OC eP) O)) ag$ P9 4 O (Pp QX O) ag$ qL 5 O (λ_ h=>(OO U3 O O (h.OC en) O)) ag$ PL 6 O O (ag)$ P9 7 O (Ud O O (by omega)) ag ?_;refine SM [8] ?_;rw[show(s:Int)+(j:Int)=((s+j:Nat):Int) by omega];refine qO 8$ zaQ (i:=8) O O (zgn (k:=((s+j:Nat):Int)) (K:=KI) YF (Sd U3) O O (bM.ext ag).m.mp O) ?_;rintro _ w5 ⟨vR,ak⟩;refine⟨trivial,?_⟩;rw[z2I] at vR;have co:=(bM.ext ag).del (T5 _ _) vR ak;have cZ:=ak.OC (ag.OC en) (nS 4);have jr:=co.m.cells;dsimp only at jr;rw[cb.s] at jr;have bI:=Ext.OT w5;have cF:=co.ext bI;refine qE$ P7 [8] (λw'=>Ext w5 w') (by kernel_rfl) O$ PL 0 O O (bI)$ P9 1 O (Q4 O) bI$ P9 2 O (Pp z7Y O) bI$ qL 3 O (λ_ h=>(OO zci O O (h.OC jr) O)) bI$ P9 4 O (Pp QX O) bI$ qL 5 O (λ_ h=>(OO U3 O O (h.OC cZ) O)) bI$ PL 6 O O (bI)$ P9 7 O (Ud O O (by omega)) bI$ SM [8] ?_;rw[show(s:Int)+(j:Int)=((s+j:Nat):Int) by omega];refine SK 8 O zgV O (zas cF.m.arc (k:=((s+j:Nat):Int))) ?_;rintro _ w6 ⟨⟨z,rfl⟩,V6,rT⟩;refine⟨trivial,?_⟩;have zK:=cF.arc rT;have lT:=rT.k.OC (bI.OC cZ) (nS 3);refine qE$ OA$ OL O$ PV O$ OK O$ OD ((ih2 (j+1,_,_) _ ⟨zK,(ly.zhM bM.m.dok (k:=((s+j:Nat):Int))).TH O O O O,by dsimp only;omega,⟨cb.s,cb.d,cb.m,cb.gi,cb.c,cb.pm,cb.p,cb.fr,cb.L⟩,λx hx=>?_,lT,λi2 e=>?_⟩ (by dsimp only;omega)).qb)
     ·show(if x=((s+j:Nat):Int) then Pj.D.now ((s+j:Nat):Int) else tj x)=txt x;rw[if_neg (by omega)];exact iY x hx
     ·match i2,e with
      |0,e=>exact nS 0 e
      |1,e=>exact nS 1 e
      |2,e=>exact nS 2 e
      | 3, e =>
        rcases rT.fp b3 e with e| e
        ·exact nS 3 e
        ·have:=(bI.OC cZ).lt;omega
      |4,e=>exact nS 4 e
      |5,⟨q,hq,e⟩=>exact nS 5 ⟨q,(T5 _ _).subset hq,e⟩
    ·have rC:j=i:=by omega
     subst rC;refine ON O$ QB O$ OB func117 O ?_;exact⟨_,rfl,rfl,Pj,tj,bM,ly,iY,cb⟩
def z6Z (hm:Ut w P)(hI:We P txt K){s n:Nat}(cX:1<=n)(df:2<=s)(dD:s+n<=P.L.length)(hc:∀i,s<=i->i<s+n->P.L[i]? =some true):Pm prog 75 [ptr P.s 0,.agg #[I (s:Int),I (n:Int)]] w λv w'=>v=I 0/\∃P' txt',Uo w P w' {P' with L:=Qh P.L s n false}/\We {P' with L:=Qh P.L s n false} txt' K/\(∀x:Int,x<(s:Int)\/(s:Int)+(n:Int)<=x->txt' x=txt x)/\P.Same P':=by
 refine py (e:=[(0,_),(1,_)]) func75 O ntmps75 O O$ qN O$ OM O O (Rm O (cs:=[I (s:Int),I (n:Int)]) O) ?_
 rintro _ w1 ⟨b3,rfl,eG,ad,au⟩
 have da:=hm.r ad
 have pQ:∀i,¬P.cp i b3:=hm.new (by omega)
 refine OU O$ PG O$ qV (Pt (news:=[I (s:Int),I (n:Int)]) Xu O R6 O (OR.cells (n:=2) au O) O)$ P4 zjk O (z7m da.m hI cX dD) ?_
 rintro _ w2 ⟨rfl,P',txt',dw,cR,iY,cb⟩
 have l3:=au.lt
 have de:=dw.k.OC au (λ⟨i,e⟩=>pQ i e)
 have uj:=da.trans dw
 have ia:=uj.m.cells
 rw[cb.s] at ia
 refine Qt O$ Qf O ?_
 have aa:=Ext.OT w2
 have lw:=(uj.ext aa).m.ext
 rw[cb.L] at lw
 refine PW O$ It$ P7 [5,6] (λw'=>Ext w2 w') (by kernel_rfl) O$ PL 0 O O (aa)$ P9 1 O (Q4 O) aa$ P9 2 O (Pp z7Q O) aa$ qL 3 O (λ_ h=>OO U51 O O (h.OC ia) O) aa$ qL 4 O (λ_ h=>Pt (news:=[I (s:Int),I (n:Int)]) Xu O R6 O (OR.cells (n:=2) (h.OC de) O) O) aa$ SM [5]$ SK 5 O ziW O (z7B lw s n cX df dD hc) ?_
 rintro _ w3 ⟨rfl,tM,ao⟩
 refine⟨trivial,?_⟩
 have ct:=(uj.ext aa).exM tM ao
 refine OI 6 O (R7 O) trivial$ qE$ OB func75 O ?_
 exact⟨_,rfl,rfl,P',txt',ct,cR.Qj (by rw[PY dD,cb.L]),iY,cb⟩
end
def Sp (Q:Rn)(txt:Int->OG)(K:Nat)(X:Nat->Prop)(w:World):Prop:=∃P,Ut w P/\We P txt K/\Q.Same P/\∀b,P.fp b->¬X b
section
variable {w w':World}{Q Q' P P':Rn}{X Y S':Nat->Prop}{txt txt':Int->OG}{K K':Nat}
theorem Sp.step (h:Sp Q txt K X w)(hk:Kp S' w w')(hS:∀b,S' b->X b)(hY:∀b,Y b->X b\/w.heap.size<=b):Sp Q txt K Y w':=by
 obtain⟨P,hm,hI,hs,hf⟩:=h
 refine⟨P,hm.kp hk λb hb e=>hf b hb (hS b e),hI,hs,λb hb e=>?_⟩
 rcases hY b e with e| e
 ·exact hf b hb e
 ·have:=hm.lt hb;omega
theorem Sp.ext (h:Sp Q txt K X w)(hx:Ext w w')(hY:∀b,Y b->X b\/w.heap.size<=b):Sp Q txt K Y w':=h.step (S':=λ_=>False) hx (λ_ e=>e.elim) hY
def Sp.ext' (h:Sp Q txt K X w)(hx:Ext w w'):Sp Q txt K X w':=h.ext hx λ_ e=> .inl e
def Sp.own (h:Sp Q txt K X w)(hk:Kp S' w w')(hS:∀b,S' b->X b):Sp Q txt K X w':=h.step hk hS λ_ e=> .inl e
def Sp.of (hf:∀b,P.fp b->¬X b)(hX:∀b,X b->b<w.heap.size)(hr:Uo w P w' P')(hI:We P' txt' K')(hs:Q'.Same P'):Sp Q' txt' K' X w'/\Kp (λb=>¬X b) w w':=
 ⟨⟨P',hr.m,hI,hs,λb hb e=>by
  rcases hr.fp b hb with h| h
  ·exact hf b h e
  ·have:=hX b e;omega⟩,hr.k.OV hf⟩
theorem We.more (h:We P txt K)(hK:K<=K'):We P txt K':=by
 obtain⟨a1,a2,a3,a4,a5,a6,a7,a8,a9,b1,b2,b3,b4,b5,b6,b7⟩:=h
 exact⟨a1,a2,a3,a4,a5,a6,a7,a8,a9,b1,b2,b3,b4,by omega,by omega,b7⟩
theorem Sp.more (h:Sp Q txt K X w)(hK:K<=K'):Sp Q txt K' X w:=by
 obtain⟨P,hm,hI,hs,hf⟩:=h
 exact⟨P,hm,hI.more hK,hs,hf⟩
theorem Sp.less (h:Sp Q txt K X w)(hY:∀b,Y b->X b):Sp Q txt K Y w:=by
 obtain⟨P,hm,hI,hs,hf⟩:=h
 exact⟨P,hm,hI,hs,λb hb e=>hf b hb (hY b e)⟩
theorem Sp.size (h:Sp Q txt K X w):Pm prog 66 [ptr Q.s 0] w λv w'=>v=I 512/\w'=w:=by
 obtain⟨P,hm,hI,hs,-⟩:=h
 rw[<-hs.s]
 exact z1N hm hI.N
theorem Sp.dev (h:Sp Q txt K X w):Pm prog 143 [ptr Q.s 0] w λv w'=>v=ptr Q.d 0/\w'=w:=by
 obtain⟨P,hm,hI,hs,-⟩:=h
 rw[<-hs.s,<-hs.d]
 exact zaq hm
theorem Sp.blocks (h:Sp Q txt K X w):Pm prog 144 [ptr Q.d 0] w λv w'=>v=I (Q.L.length:Int)/\w'=w:=by
 obtain⟨P,hm,hI,hs,-⟩:=h
 have hb:=Ws hm.dev
 rw[hI.B] at hb
 rw[<-hs.d,<-hs.L]
 exact hb
theorem Sp.room (h:Sp Q txt K X w){a:Nat}(hp:Pre Q.L a)(ha:a<Q.L.length):Pm prog 18 [ptr Q.m 0] w λv w'=>v=I ((Q.L.length-a:Nat):Int)/\Ext w w':=by
 obtain⟨P,hm,hI,hs,-⟩:=h
 rw[<-hs.m]
 rw[<-hs.L] at hp ha⊢
 exact z5Z hm.ext hp ha
theorem Sp.Zq (h:Sp Q txt K X w){x:Int}(h0:0<=x)(h1:x<(Q.L.length:Int)):(txt x).length=512:=by
 obtain⟨P,hm,hI,hs,-⟩:=h
 exact hI.len x h0 (by rw[hs.L];exact h1)
theorem Sp.n (h:Sp Q txt K X w):Q.L.length<=4096:=by
 obtain⟨P,hm,hI,hs,-⟩:=h
 rw[<-hs.L]
 exact hm.ext.n
theorem Sp.read (h:Sp Q txt K X w)(hX:∀b,X b->b<w.heap.size)(hK:K<1000000000000){no:Int}(h0:0<=no)(h1:no<(Q.L.length:Int)):Pm prog 84 [ptr Q.s 0,I no] w λv w'=>v= .tuple #[S (txt no),I 0]/\Sp Q txt K X w'/\Kp (λb=>¬X b) w w':=by
 obtain⟨P,hm,hI,hs,hf⟩:=h
 rw[<-hs.s]
 refine(z6W hm hI hK h0 (by rw[hs.L];exact h1)).mono λv w' ⟨hv,P',hr,zP,nU⟩=>⟨hv,Sp.of hf hX hr zP (hs.trans nU)⟩
theorem Sp.write (h:Sp Q txt K X w)(hX:∀b,X b->b<w.heap.size)(hK:K<1000000000000){no:Int}(h0:0<=no)(h1:no<(Q.L.length:Int))(t:OG)(ht:t.length=512):Pm prog 105 [ptr Q.s 0,I no,S t] w λv w'=>v=I 0/\Sp Q (ZC txt no (some t)) (K+1) X w'/\Kp (λb=>¬X b) w w':=by
 obtain⟨P,hm,hI,hs,hf⟩:=h
 rw[<-hs.s]
 refine(z9W hm hI hK h0 (by rw[hs.L];exact h1) t ht).mono λv w' ⟨hv,P',hr,zP,nU⟩=>⟨hv,Sp.of hf hX hr zP (hs.trans nU)⟩
def Rn.Qj (Q:Rn)(L:List Bool):Rn:={Q with L:=L}
def Rn.Same.Qj (h:Q.Same P)(L:List Bool):(Q.Qj L).Same {P with L:=L}:=⟨h.s,h.d,h.m,h.gi,h.c,h.pm,h.p,h.fr,rfl⟩
theorem Sp.take (h:Sp Q txt K X w)(hX:∀b,X b->b<w.heap.size){a n:Nat}(hp:Pre Q.L a)(cX:1<=n)(oW:a+n<=Q.L.length):Pm prog 67 [ptr Q.s 0,I (n:Int)] w λv w'=>v= .tuple #[.agg #[I (a:Int),I (n:Int)],I 0]/\Sp (Q.Qj (Qh Q.L a n true)) txt K X w'/\Kp (λb=>¬X b) w w':=by
 obtain⟨P,hm,hI,hs,hf⟩:=h
 rw[<-hs.s]
 rw[<-hs.L] at hp oW
 refine(z6U hm hp cX oW).mono λv w' ⟨hv,hr⟩=>⟨hv,?_⟩
 rw[<-hs.L]
 exact Sp.of hf hX hr (hI.Qj (by rw[PY oW])) (hs.Qj _)
theorem Sp.zks (h:Sp Q txt K X w)(hX:∀b,X b->b<w.heap.size){s n:Nat}(cX:1<=n)(df:2<=s)(dD:s+n<=Q.L.length)(hc:∀i,s<=i->i<s+n->Q.L[i]? =some true):Pm prog 75 [ptr Q.s 0,.agg #[I (s:Int),I (n:Int)]] w λv w'=>v=I 0/\∃txt',Sp (Q.Qj (Qh Q.L s n false)) txt' K X w'/\(∀x:Int,x<(s:Int)\/(s:Int)+(n:Int)<=x->txt' x=txt x)/\Kp (λb=>¬X b) w w':=by
 obtain⟨P,hm,hI,hs,hf⟩:=h
 rw[<-hs.s]
 rw[<-hs.L] at dD hc
 refine(z6Z hm hI cX df dD hc).mono λv w' ⟨hv,P',txt',hr,zP,iY,nU⟩=>⟨hv,txt',?_⟩
 obtain⟨h1,h2⟩:=Sp.of hf hX hr zP ((hs.trans nU).Qj _)
 rw[<-hs.L]
 exact⟨h1,iY,h2⟩
end
open Go.Proofs Go.Shelf
def z5I:Go.Shelf.Ren:=⟨fun|105=>114|212=>151|99=>152|165=>153|166=>86|170=>154|169=>87|263=>186|264=>162|206=>187|240=>128|241=>188|276=>169|277=>217|n=>n,fun|9=>9|3=>3|4=>4|20=>20|0=>0|46=>110|109=>248|5=>5|72=>175|76=>178|51=>106|146=>296|53=>23|148=>259|70=>173|37=>105|75=>177|127=>220|164=>268|80=>180|n=>n,fun|n=>n⟩
def zfS:Go.Proofs.Lays.n105 prog z5I:={
 mixed:=by kernel_rfl
 f99:=func152.trans (congrArg some (by kernel_rfl))
 f105:=func114.trans (congrArg some (by kernel_rfl))
 f165:=func153.trans (congrArg some (by kernel_rfl))
 f166:=func86.trans (congrArg some (by kernel_rfl))
 f169:=func87.trans (congrArg some (by kernel_rfl))
 f170:=func154.trans (congrArg some (by kernel_rfl))
 f206:=func187.trans (congrArg some (by kernel_rfl))
 f212:=func151.trans (congrArg some (by kernel_rfl))
 f240:=func128.trans (congrArg some (by kernel_rfl))
 f241:=func188.trans (congrArg some (by kernel_rfl))
 f263:=func186.trans (congrArg some (by kernel_rfl))
 f264:=func162.trans (congrArg some (by kernel_rfl))
 f276:=func169.trans (congrArg some (by kernel_rfl))
 f277:=func217.trans (congrArg some (by kernel_rfl))
 t0:=underlying0
 a0:=isAgg0
 z0:=sizeOf0
 v0:=zeroValue0
 t3:=underlying3
 a3:=isAgg3
 z3:=sizeOf3
 v3:=zeroValue3
 t4:=underlying4
 a4:=isAgg4
 z4:=sizeOf4
 v4:=zeroValue4
 t5:=underlying5
 a5:=isAgg5
 z5:=sizeOf5
 v5:=zeroValue5
 t9:=underlying9
 a9:=isAgg9
 z9:=sizeOf9
 v9:=zeroValue9
 t20:=underlying20
 a20:=isAgg20
 z20:=sizeOf20
 v20:=zeroValue20
 t37:=underlying105
 a37:=isAgg105
 z37:=sizeOf105
 v37:=zeroValue105
 t46:=underlying110
 a46:=isAgg110
 z46:=sizeOf110
 v46:=zeroValue110
 t51:=underlying106
 a51:=isAgg106
 z51:=sizeOf106
 v51:=zeroValue106
 t53:=underlying23
 a53:=isAgg23
 z53:=sizeOf23
 v53:=zeroValue23
 t70:=underlying173
 a70:=isAgg173
 z70:=sizeOf173
 v70:=zeroValue173
 t72:=underlying175
 a72:=isAgg175
 z72:=sizeOf175
 v72:=zeroValue175
 t75:=underlying177
 a75:=isAgg177
 z75:=sizeOf177
 v75:=zeroValue177
 t76:=underlying178
 a76:=isAgg178
 z76:=sizeOf178
 v76:=zeroValue178
 t109:=underlying248
 a109:=isAgg248
 z109:=sizeOf248
 v109:=zeroValue248
 t127:=underlying220
 a127:=isAgg220
 z127:=sizeOf220
 v127:=zeroValue220
 t146:=underlying296
 a146:=isAgg296
 z146:=sizeOf296
 v146:=zeroValue296
 t148:=underlying259
 a148:=isAgg259
 z148:=sizeOf259
 v148:=zeroValue259
 t164:=underlying268
 a164:=isAgg268
 z164:=sizeOf268
 v164:=zeroValue268}
/-! ### A builder of strings -/
def zg0:Builder.Extra prog z5I where
 sizeBuilder:=by kernel_rfl
 liesBuilder:=by kernel_rfl
 t5:=by kernel_rfl
 a5:=λ_=>by kernel_rfl
 z5:=λ_=>by kernel_rfl
 v5:=λw=>TI.zero (w:=w) VK
 infoByte:=by kernel_rfl
 cellsByte:=by kernel_rfl
 sizeByte:=by kernel_rfl
 neB5:=by decide
section
end
theorem z8v (l:OG):∀n,Lib.repeatL l n=(List.replicate n l).flatten
 |0=>rfl
 |n+1=>by rw[Lib.repeatL,z8v l n];rfl
def Xc (l:OG)(n:Nat)(hl:l.length<=100)(hn:n<=1000000)(w:World):Pm prog 114 [S l,I (n:Int)] w λv w'=>v=S (List.replicate n l).flatten/\Ext w w':=by
 have h2:n*l.length<=1000000*100:=Nat.mul_le_mul hn hl
 have:=Any.strings_Repeat zfS zg0 ⟨l.toArray⟩ n w (by omega) (by rw[T6,Nat.mul_comm];omega)
 refine Calls.mono this λ_ _ ⟨he,hw⟩=>⟨_,he,?_,Ext.zcz hw⟩
 show Value.string ⟨(Lib.repeatL l n).toArray⟩=_
 rw[z8v]
def Th (w n:Nat):OG:=(List.range w).map λk=>UInt8.ofNat (n / 2^(8*(w-1-k)))
theorem Px (w n:Nat):(Th w n).length=w:=by simp[Th]
theorem zck (w n:Nat):Th (w+1) n=UInt8.ofNat (n / 2^(8*w))::Th w n:=by
 unfold Th
 rw[List.range_succ_eq_map,List.map_cons,List.map_map]
 congr 1
 refine List.map_congr_left λk hk=>?_
 show UInt8.ofNat (n / 2^(8*(w+1-1-(k+1))))=_
 rw[show w+1-1-(k+1)=w-1-k by omega]
theorem Zg:∀(w n:Nat),P3 (Th w n)=Pc (8*w) n
 |0,n=>rfl
 | w + 1, n => by
   rw[zck,TN,Zg w n,show 8*(w+1)=8+8*w by omega,S5]
   congr 1
   refine WD ?_;have:(UInt8.ofNat (n / 2^(8*w))).toNat=n / 2^(8*w)%256:=by simp
   rw[this];omega
theorem Xj {w n:Nat}(h:n<2^(8*w)):Pv (P3 (Th w n))=n:=by
 rw[Zg,Qb,Nat.mod_eq_of_lt h]
def z0u (s:OG):Th s.length (Pv (P3 s))=s:=by
 have h1:P3 (Th s.length (Pv (P3 s)))=P3 s:=by
  rw[Zg];have:=z18 (P3 s);rw[bitsT_length] at this;exact this
 have inj:∀a b:OG,a.length=b.length->P3 a=P3 b->a=b:=λa=>by
  induction a with
  | nil => intro b hb _; cases b with
    |nil=>rfl
    |cons=>cases hb
  | cons c a ih =>
    intro b hb he
    cases b with
    |nil=>cases hb
    | cons d b =>
      rw[TN,TN] at he;obtain⟨e1,e2⟩:=List.append_inj he (by rw[bitsN_length,bitsN_length]);rw[ih b (by simpa using hb) e2]
      congr 1
      have:=congrArg Pv e1;rw[Qb,Qb] at this;have h3:=c.toNat_lt;have h4:=d.toNat_lt;exact UInt8.toNat_inj.1 (by omega)
 exact inj _ _ (Px _ _) h1
def Laid (txt:Int->OG)(a:Nat)(T:OG):Prop:=∀k,512*k<T.length->(txt ((a+k:Nat):Int)).take (T.length-512*k)=(T.drop (512*k)).take 512
section
variable {txt txt':Int->OG}{a n:Nat}{T:OG}
def Laid.piece (h:Laid txt a T){off n:Nat}(h1:off+n<=T.length)(h2:n<=512-off%512):((txt ((a+off / 512:Nat):Int)).drop (off%512)).take n=(T.drop off).take n:=by
 by_cases hn:n=0
 ·subst hn;simp
 have hk:=h (off / 512) (by omega)
 have e:=congrArg (λl=>(l.drop (off%512)).take n) hk
 try dsimp only at e
 rw[List.drop_take,List.take_take,Nat.min_eq_left (by omega),List.drop_take,List.take_take,List.drop_drop,Nat.min_eq_left (by omega),show 512*(off / 512)+off%512=off by omega] at e
 exact e
def Laid.TH (h:Laid txt a T)(e:∀k,512*k<T.length->txt' ((a+k:Nat):Int)=txt ((a+k:Nat):Int)):Laid txt' a T:=λk hk=>by rw[e k hk];exact h k hk
def Laid.of (h:∀k,512*k<T.length->(txt ((a+k:Nat):Int)).length=512/\∃r,txt ((a+k:Nat):Int)=(T.drop (512*k)).take 512++r):Laid txt a T:=λk hk=>by
 obtain⟨hl,r,e⟩:=h k hk
 have h1:((T.drop (512*k)).take 512).length=min 512 (T.length-512*k):=by simp
 rw[e,List.length_append,h1] at hl
 rw[e]
 by_cases hc:T.length-512*k<=512
 ·exact List.take_left' (by rw[h1];omega)
 ·have:r=[]:=List.eq_nil_of_length_eq_zero (by omega);rw[this,List.append_nil,List.take_of_length_le (by rw[h1];omega)]
end
def VcT (txt:Int->OG)(st width each:Nat)(xs:List Nat):Prop:=∀i x,xs[i]? =some x->((txt ((st+i / each:Nat):Int)).drop (i%each*width)).take width=Th width x/\x<2^(8*width)
theorem z2a (a b c:OG){k n:Nat}(hn:k+n<=a.length):((a++b++c).drop k).take n=(a.drop k).take n:=by
 rw[List.append_assoc,List.drop_append_of_le_length (by omega),List.take_append_of_le_length (by rw[List.length_drop];omega)]
section
variable {txt txt':Int->OG}{st width each:Nat}{xs:List Nat}
def VcT.TH (h:VcT txt st width each xs)(e:∀i,i<xs.length->txt' ((st+i / each:Nat):Int)=txt ((st+i / each:Nat):Int)):VcT txt' st width each xs:=λi x hx=>by
 have hi:i<xs.length:=by
  rcases Nat.lt_or_ge i xs.length with h| h
  ·exact h
  ·rw[List.getElem?_eq_none h] at hx;cases hx
 rw[e i hi]
 exact h i x hx
theorem VcT.set (h:VcT txt st width each xs)(he:1<=each){i x:Nat}(hx:x<2^(8*width))(hi:i<xs.length){t:OG}(ht:txt ((st+i / each:Nat):Int)=t)(hl:i%each*width+width<=t.length):VcT (ZC txt ((st+i / each:Nat):Int) (some (t.take (i%each*width)++Th width x++t.drop (i%each*width+width)))) st width each (xs.set i x):=λj y hy=>by
 by_cases hb:j / each=i / each
 ·rw[hb,Sa];show((t.take (i%each*width)++Th width x++t.drop (i%each*width+width)).drop (j%each*width)).take width=_/\_;have aZ:(t.take (i%each*width)).length=i%each*width:=by rw[List.length_take];omega
  by_cases gU:j=i
  ·subst gU;rw[List.getElem?_set_self hi] at hy;cases hy;refine⟨?_,hx⟩;rw[List.append_assoc,List.drop_left' aZ,List.take_left' (Px _ _)]
  ·rw[List.getElem?_set_ne (λe=>gU e.symm)] at hy;obtain⟨h1,h2⟩:=h j y hy;refine⟨?_,h2⟩;rw[hb,ht] at h1;rw[<-h1];have tC:=Nat.div_add_mod i each;have lQ:=Nat.div_add_mod j each;rw[hb] at lQ;have bT:j%each≠i%each:=λe=>gU (by omega);rcases Nat.lt_or_gt_of_ne bT with lP|Ob
   ·have hm:(j%each+1)*width<=i%each*width:=Nat.mul_le_mul_right _ (by omega);rw[Nat.add_mul,Nat.one_mul] at hm;rw[z2a _ _ _ (by omega),List.drop_take,List.take_take,Nat.min_eq_left (by omega)]
   ·have hm:(i%each+1)*width<=j%each*width:=Nat.mul_le_mul_right _ (by omega);rw[Nat.add_mul,Nat.one_mul] at hm;rw[List.drop_append,List.drop_of_length_le (by rw[List.length_append,aZ,Px];omega),List.nil_append,List.length_append,aZ,Px,List.drop_drop,show i%each*width+width+(j%each*width-(i%each*width+width))=j%each*width by omega]
 ·have gU:j≠i:=λe=>hb (by rw[e]);rw[List.getElem?_set_ne (λe=>gU e.symm)] at hy;rw[RD _ _ (by omega)];exact h j y hy
def z1q {l z:OG}{w:Nat}(hl:l.length=w):∀(e k:Nat),k<e->(((List.replicate e l).flatten++z).drop (k*w)).take w=l
 |0,k,h=>by omega
 | e + 1, 0, h => by
   rw[Nat.zero_mul,List.drop_zero,List.replicate_succ,List.flatten_cons,List.append_assoc]
   exact List.take_left' hl
 | e + 1, k + 1, h => by
   rw[List.replicate_succ,List.flatten_cons,List.append_assoc,List.drop_append,List.drop_of_length_le (by rw[hl,Nat.add_mul];omega),List.nil_append,hl,Nat.add_mul,Nat.one_mul,Nat.add_sub_cancel];exact z1q hl e k (by omega)
theorem VcT.fill {n x:Nat}(hx:x<2^(8*width))(he:1<=each)(h:∀i,i<n->∃z,txt ((st+i / each:Nat):Int)=(List.replicate each (Th width x)).flatten++z):VcT txt st width each (List.replicate n x):=λi y hy=>by
 rw[List.getElem?_replicate] at hy
 split at hy
 ·rename_i hi
  cases hy;obtain⟨z,e⟩:=h i hi;rw[e];exact⟨z1q (Px _ _) each _ (Nat.mod_lt _ he),hx⟩
 ·cases hy
theorem VcT.block (h:VcT txt st width each xs){b:Nat}(hl:each*width<=(txt ((st+b:Nat):Int)).length):∀m,m<=each->b*each+m<=xs.length->(txt ((st+b:Nat):Int)).take (m*width)=((xs.drop (b*each)).take m).flatMap (Th width)
 |0,_,_=>by simp
 | m + 1, hm, hx => by
   have ih:=h.block hl m (by omega) (by omega);have aZ:b*each+m<xs.length:=by omega
   have h1:=(h (b*each+m) xs[b*each+m] (List.getElem?_eq_getElem aZ)).1;have dF:(m+1)*width<=each*width:=Nat.mul_le_mul_right _ hm;rw[Nat.add_mul,Nat.one_mul] at dF;rw[show(b*each+m) / each=b from by rw[Nat.mul_comm,Nat.mul_add_div (by omega),Nat.div_eq_of_lt (by omega),Nat.add_zero],show(b*each+m)%each=m from by rw[Nat.mul_comm,Nat.mul_add_mod,Nat.mod_eq_of_lt (by omega)]] at h1
   have h2:(xs.drop (b*each)).take (m+1)=(xs.drop (b*each)).take m++[xs[b*each+m]]:=by
    rw[List.take_add_one,List.getElem?_drop,List.getElem?_eq_getElem aZ];rfl
   rw[h2,List.flatMap_append,<-ih,Nat.add_mul,Nat.one_mul,List.take_add,h1];simp
def UM (width:Nat)(xs:List Nat):OG:=xs.flatMap (Th width)
def RF (width n:Nat)(s:OG):List Nat:=(List.range n).map λi=>Pv (P3 ((s.drop (i*width)).take width))
theorem Qn (width n:Nat)(s:OG):(RF width n s).length=n:=by simp[RF]
theorem UU (width:Nat):∀xs:List Nat,(UM width xs).length=xs.length*width
 |[]=>by simp[UM]
 | x :: xs => by
   have:=UU width xs;unfold UM at*;rw[List.flatMap_cons,List.length_append,Px,this,List.length_cons,Nat.add_mul];omega
def z1H {width:Nat}:∀{xs:List Nat},(∀x∈xs,x<2^(8*width))->RF width xs.length (UM width xs)=xs
 |[],_=>rfl
 | x :: xs, h => by
   have ih:=z1H (xs:=xs) λy hy=>h y (List.mem_cons_of_mem _ hy);unfold RF UM at*;rw[List.length_cons,List.range_succ_eq_map,List.map_cons,List.map_map,List.flatMap_cons]
   congr 1
   ·rw[Nat.zero_mul,List.drop_zero,List.take_left' (Px _ _),Xj (h x List.mem_cons_self)]
   ·conv=>rhs;rw[<-ih]
    refine List.map_congr_left λi _=>?_;show Pv (P3 (List.take width (List.drop ((i+1)*width) _)))=_;rw[Nat.add_mul,Nat.one_mul,List.drop_append,List.drop_of_length_le (by rw[Px];omega),List.nil_append,Px,Nat.add_sub_cancel]
def VcT.load {n:Nat}{s:OG}(hs:s.length=n*width)(he:1<=each)(h:∀i,i<n->∃z,txt ((st+i / each:Nat):Int)=(s.drop (i / each*(each*width))).take (each*width)++z):VcT txt st width each (RF width n s):=λi y hy=>by
 unfold RF at hy
 rw[List.getElem?_map] at hy
 by_cases hi:i<n
 ·rw[List.getElem?_range hi] at hy;cases hy;obtain⟨z,e⟩:=h i hi;have hd:=Nat.div_add_mod i each;have M2:=Nat.mod_lt i he
  have az:((s.drop (i*width)).take width).length=width:=by
   have:(i+1)*width<=n*width:=Nat.mul_le_mul_right _ (by omega);rw[Nat.add_mul,Nat.one_mul] at this;rw[List.length_take,List.length_drop,hs];omega
  have e1:i*width=i / each*(each*width)+i%each*width:=by
   rw[<-Nat.mul_assoc,<-Nat.add_mul,Nat.mul_comm (i / each)];rw[hd]
  have dF:(i%each+1)*width<=each*width:=Nat.mul_le_mul_right _ (by omega);rw[Nat.add_mul,Nat.one_mul] at dF;have aU:(i+1)*width<=n*width:=Nat.mul_le_mul_right _ (by omega);rw[Nat.add_mul,Nat.one_mul] at aU;refine⟨?_,?_⟩
  ·have hb:=z0u ((s.drop (i*width)).take width);rw[az] at hb;rw[hb,e]
   have hc:i%each*width+width<=((s.drop (i / each*(each*width))).take (each*width)).length:=by
    rw[List.length_take,List.length_drop,hs];omega
   rw[List.drop_append_of_le_length (by omega),List.take_append_of_le_length (by rw[List.length_drop];omega),List.drop_take,List.take_take,List.drop_drop,Nat.min_eq_left (by omega),<-e1]
  ·have h1:=QF (P3 ((s.drop (i*width)).take width));rw[bitsT_length,az] at h1;exact h1
 ·rw[List.getElem?_eq_none (by simpa using hi)] at hy;cases hy
end
def z1h (n wd k:Nat):List Value:=(List.range wd).map λi=>if i<k then S8 (UInt8.ofNat (n / 2^(8*(wd-1-i)))) else .int .u8 0
@[simp] theorem beTo_length (n wd k:Nat):(z1h n wd k).length=wd:=by simp[z1h]
theorem z2v (n wd:Nat):z1h n wd 0=List.replicate wd (.int .u8 0):=by
 apply List.ext_getElem<;>simp[z1h]
theorem z5v (n wd:Nat):z1h n wd wd=(Th wd n).map S8:=by
 simp only[z1h,Th,List.map_map]
 apply List.map_congr_left
 intro i hi
 rw[if_pos (by simpa using hi)];rfl
theorem z5e (n wd k:Nat)(h:k<wd):(z1h n wd k).set (0+k*1) (.int .u8 ((n / 2^(8*(wd-1-k))%256:Nat):Int))=z1h n wd (k+1):=by
 apply List.ext_getElem
 ·simp
 ·intro j h1 h2;have hj:j<wd:=by simpa using h2
  simp only[z1h,List.getElem_set,List.getElem_map,List.getElem_range];by_cases E4:j=k
  ·subst E4;simp[S8]
  ·rw[if_neg (by omega)];by_cases aZ:j<k
   ·rw[if_pos aZ,if_pos (by omega)]
   ·rw[if_neg aZ,if_neg (by omega)]
def ZS (n wd:Nat)(w:World)(hn:n<18446744073709551616)(oU:wd<=8):Pm prog 109 [u64v n,I (wd:Int)] w λv w'=>v=S (Th wd n)/\Ext w w':=by
 have eu:maxLen=9223372036854775807:=rfl
 refine py (e:=[(0,_),(1,_)]) func109 O ntmps109 O O$ qN O$ Qt O$ OM O O (pmk (c:=wd) (n:=wd) Q5 VK O O O (by omega) (by omega) (by omega)) ?_
 rintro _ w1 ⟨b1,rfl,⟨bU,ad,aj⟩,-⟩
 refine OU O$ PG O$ Rv Q5 O$ OK O$ OD$ OH ?_
 rw[<-z2v n wd] at aj
 refine Rq (α:=Nat) (0) (λk=>[(0,u64v n),(1,I (wd:Int)),(5,.slice (some ⟨b1,0,none⟩) wd wd),(10,I (wd:Int)),(11,I (k:Int))]) (λk w'=>k<=wd/\OR w' b1 (z1h n wd k) 5/\Ext w w') (λk=>wd-k) ?hI ?hround
 case hI=>exact⟨by omega,aj,ad⟩
 case hround=>
  rintro k w2 ⟨hk,am,ae⟩ ih
  try dsimp only
  refine qN O$ Qq O$ OD$ It$ OQ O (λaZ=>?_)$ λaZ=>?_
  ·have Fr:k<wd:=by omega
   refine OE$ Qx$ Pf O$ OU O$ OL O$ P8 O$ P8 O$ Ro O$ OK O$ Ro O$ qV (Wm O O (by omega)) ?_;rw[show(8:Int)*(((wd:Int)-1)-(k:Int))=((8*(wd-1-k):Nat):Int) from by omega];refine qV (Sc (8*(wd-1-k)) (2^(8*(wd-1-k))) O O (by simp only[IntKind.bits];omega) O) ?_;refine qV (z2e O Rr U5)$ qV (PX Q5 VK O O (by omega))$ OW O (QQ VK O O O am (by simp;omega)) ?_;rintro w3 ⟨au,av⟩;rw[z5e n wd k Fr] at au;refine OD$ OA$ OL O$ PV O$ OK O$ OD ?_;exact(ih (k+1) w3 ⟨by omega,au,ae.An av (λi hi=>by rw[hi,bU];exact Nat.le_refl _)⟩ (by omega)).qb
  ·have:k=wd:=by omega
   subst this;rw[z5v] at am;refine ON O$ Pf O$ qV (z3z (l:=Th k n) Q5 U5 U9 O am (by rw[List.drop_zero];exact List.take_of_length_le (by rw[List.length_map,Px];omega)) (by simp[Th])) ?_;refine OU O$ OB func109 O ?_;exact⟨_,rfl,rfl,ae⟩
def z2Y (s:OG)(hs:s.length<=8)(w:World):Pm prog 110 [S s] w λv w'=>v=u64v (Pv (P3 s))/\Ext w w':=by
 refine py (e:=[(0,_)]) func110 O ntmps110 O O$ QB O$ PG O$ OM O O (z6G U9 Q5 U5 O) ?_
 rintro _ w1 ⟨b7,c7,rest,rfl,⟨jS,ad,aj⟩,Be⟩
 refine Rv Q5 O$ OK O$ OD$ OH$ Rq (α:=Nat) (0) (λi=>[(2,u64v (Pv (P3 (s.take i)))),(6,.slice (some ⟨b7,0,none⟩) s.length c7),(7,I (s.length:Int)),(8,I (i:Int))]) (λi w'=>w'=w1/\i<=s.length) (λi=>s.length-i) ?hI ?hround
 case hI=>exact⟨rfl,Nat.zero_le _⟩
 case hround=>
  rintro i w2 ⟨rfl,hi⟩ ih
  try dsimp only
  refine qN O$ Qq O$ OD$ It$ OQ O (λh0=>?_)$ λh0=>?_
  ·obtain⟨c,hc⟩:∃c,s[i]? =some c:=⟨_,List.getElem?_eq_getElem (by omega)⟩;have cN:=c.toNat_lt;have eW:=Yw hc
   have aZ:Pv (P3 (s.take i))<72057594037927936:=by
    have h1:=QF (P3 (s.take i));rw[bitsT_length,List.length_take] at h1;have h2:2^(8*min i s.length)<=2^56:=Nat.pow_le_pow_right (by decide) (by omega);omega
   have aW:w2.cell? ⟨b7,0+i*1,none⟩=some (S8 c):=by
    rw[aj.cell,Nat.zero_add,Nat.mul_one,List.getElem?_append_left (by rw[List.length_map];omega),List.getElem?_map,hc];rfl
   refine OE$ Qx$ qN O$ qV (PX Q5 VK O O (by omega))$ qV (Pr U5 O O aW) ?_
   generalize Pv (P3 (s.take i))=q at eW aZ
   refine OU O$ Rh O$ qV (QP 8 256 O O (by decide) O)$ OK O$ qV ((z2f O U5 Rr (by decide)))$ qV (Zv O O (by omega) (by omega)) ?_
   have mB:(q*256%18446744073709551616 |||c.toNat)=Pv (P3 (s.take (i+1))):=by
    rw[eW,Nat.mod_eq_of_lt (by omega),Nat.mul_comm q];exact(Nat.two_pow_add_eq_or_of_lt (i:=8) cN q).symm
   rw[mB];refine OU O$ OA$ OL O$ PV O$ OK O$ OD ?_;exact(ih (i+1) _ ⟨rfl,by omega⟩ (by omega)).qb
  ·have bQ:i=s.length:=by omega
   subst bQ;rw[List.take_length];refine ON O$ Pf O$ OU O$ OB func110 O ?_;exact⟨_,rfl,rfl,ad⟩
def vcC (n width each st len s:Nat)(cl:Bool):List Value:=[I (n:Int),I (width:Int),I (each:Int),I (st:Int),I (len:Int),ptr s 0,.bool cl]
def Rl (n each:Nat):Nat:=max 1 ((n+each-1) / each)
structure Tz (Q:Rn)(txt:Int->OG)(vb width st:Nat)(xs:List Nat)(w:World):Prop where
 OC:OR w vb (vcC xs.length width (512 / width) st (Rl xs.length (512 / width)) Q.s false) 157
 wd:width=1\/width=2\/width=4\/width=8
 t:VcT txt st width (512 / width) xs
 n:xs.length<=4194304
 fit:st+Rl xs.length (512 / width)<=Q.L.length
def Zh {n each:Nat}(he:1<=each){i:Nat}(hi:i<n):i / each<Rl n each:=by
 unfold Rl
 have h1:i / each<=(n-1) / each:=Nat.div_le_div_right (by omega)
 have h2:(n+each-1) / each=(n-1) / each+1:=by
  rw[show n+each-1=(n-1)+each by omega,Nat.add_div_right _ (by omega)]
 omega
section
variable {w w':World}{Q Q':Rn}{txt txt':Int->OG}{vb width st:Nat}{xs ys:List Nat}{S':Nat->Prop}
theorem Tz.e (h:Tz Q txt vb width st xs w):64<=512 / width/\512 / width<=512/\512 / width*width=512/\1<=width/\width<=8:=by
 rcases h.wd with e|e|e|e<;>subst e<;>decide
def Tz.kp (h:Tz Q txt vb width st xs w)(hk:Kp S' w w')(hn:¬S' vb):Tz Q txt vb width st xs w':=⟨hk.OC h.OC hn,h.wd,h.t,h.n,h.fit⟩
theorem Tz.ext (h:Tz Q txt vb width st xs w)(hx:Ext w w'):Tz Q txt vb width st xs w':=h.kp (S':=λ_=>False) hx id
def Tz.TH (h:Tz Q txt vb width st xs w)(e:∀y:Int,(st:Int)<=y->y<(st:Int)+(Rl xs.length (512 / width):Int)->txt' y=txt y):Tz Q txt' vb width st xs w:=
 ⟨h.OC,h.wd,h.t.TH λi hi=>by
  have:=Zh (each:=512 / width) (by have:=h.e;omega) hi
  generalize i / (512 / width)=q at this⊢
  exact e _ (by omega) (by omega),h.n,h.fit⟩
theorem Tz.q (h:Tz Q txt vb width st xs w)(hs:Q'.s=Q.s)(hl:Q'.L.length=Q.L.length):Tz Q' txt vb width st xs w:=⟨by rw[hs];exact h.OC,h.wd,h.t,h.n,by rw[hl];exact h.fit⟩
def Tz.lt (h:Tz Q txt vb width st xs w):vb<w.heap.size:=h.OC.lt
def Tz.at_ (h:Tz Q txt vb width st xs w){i:Nat}(hi:i<xs.length):st+i / (512 / width)<Q.L.length/\i%(512 / width)*width+width<=512/\i / (512 / width)<Rl xs.length (512 / width):=by
 obtain⟨h1,h2,h3,h4,h5⟩:=h.e
 have h6:=Zh (each:=512 / width) (by omega) hi
 have h7:=h.fit
 have h8:(i%(512 / width)+1)*width<=512 / width*width:=Nat.mul_le_mul_right _ (Nat.mod_lt _ (by omega))
 rw[Nat.add_mul,Nat.one_mul] at h8
 refine⟨by omega,by omega,h6⟩
theorem Tz.cells (h:Tz Q txt vb width st xs w):OR w vb [I (xs.length:Int),I (width:Int),I ((512 / width:Nat):Int),I (st:Int),I (Rl xs.length (512 / width):Int),ptr Q.s 0,.bool false] 157:=h.OC
def VcW (Q:Rn)(txt:Int->OG)(K:Nat)(X:Nat->Prop)(vb width st:Nat)(ys:List Nat)(w w':World):Prop:=
 ∃txt',Sp Q txt' K X w'/\Tz Q txt' vb width st ys w'/\(∀y:Int,y<(st:Int)\/(st:Int)+(Rl ys.length (512 / width):Int)<=y->txt' y=txt y)/\Kp (λb=>¬X b) w w'
end
end Go.Proofs.YtgdkbagngobdlaaGreatDoor
namespace Go.Proofs.YtgdkbagngobdlaaGreatDoor.Sums
def bit (c:Nat):Nat:=if c%2=1 then(c / 2)^^^2197175160 else c / 2
def zeQ (c:Nat):Nat:=bit (bit (bit (bit (bit (bit (bit (bit c)))))))
def byte (c:Nat)(b:UInt8):Nat:=zeQ (c^^^b.toNat)
def raw (c:Nat)(l:List UInt8):Nat:=l.foldl byte c
def neg (c:Nat):Nat:=4294967295^^^c
def on (c:Nat)(l:List UInt8):Nat:=neg (raw (neg c) l)
def crc (l:List UInt8):Nat:=on 0 l
def be4 (n:Nat):List UInt8:=[UInt8.ofNat (n / 16777216),UInt8.ofNat (n / 65536),UInt8.ofNat (n / 256),UInt8.ofNat n]
@[simp] theorem be4_length (n:Nat):(be4 n).length=4:=rfl
def head (k:UInt8)(p:List UInt8):List UInt8:=k::be4 p.length
def frame (k:UInt8)(p:List UInt8):List UInt8:=head k p++be4 (crc (head k p++p))++p
@[simp] theorem head_length (k:UInt8) (p:List UInt8):(head k p).length=5:=rfl
theorem zbo (c:Nat):(c / 2)^^^(2197175160&&&((4294967296-(c&&&1))%4294967296))=bit c:=by
 have h1:c&&&1=c%2:=Nat.and_two_pow_sub_one_eq_mod c 1
 rw[h1]
 unfold bit
 by_cases h:c%2=1
 ·rw[if_pos h,h]
  congr 1
 ·have h0:c%2=0:=by omega
  rw[if_neg h,h0];simp
def YL {a b:Nat}(ha:a<4294967296)(hb:b<4294967296):a^^^b<4294967296:=Nat.xor_lt_two_pow (n:=32) ha hb
def VY {c:Nat}(h:c<4294967296):bit c<4294967296:=by
 unfold bit
 split
 ·exact YL (by omega) (by omega)
 ·omega
def zb2 {c:Nat}(h:c<4294967296):zeQ c<4294967296:=VY (VY (VY (VY (VY (VY (VY (VY h)))))))
def z8E {c:Nat}(h:c<4294967296)(b:UInt8):byte c b<4294967296:=zb2 (YL h (by have:=b.toNat_lt;omega))
def zbk:∀(l:List UInt8) {c:Nat},c<4294967296->raw c l<4294967296
 |[],_,h=>h
 |b::l,_,h=>zbk l (z8E h b)
def z7w {c:Nat}(h:c<4294967296):neg c<4294967296:=YL (by omega) h
def zez {c:Nat}(l:List UInt8)(h:c<4294967296):on c l<4294967296:=z7w (zbk l (z7w h))
def zfM (l:List UInt8):crc l<4294967296:=zez l (by omega)
theorem z5R (c:Nat)(a b:List UInt8):raw c (a++b)=raw (raw c a) b:=List.foldl_append ..
/-! ### The step is linear -/
/-! ### Linear maps, by their table -/
def iter (L:Nat->Nat):Nat->Nat->Nat
 |0,x=>x
 |n+1,x=>iter L n (L x)
/-! ### Frames -/
@[simp] theorem frame_length (k:UInt8) (p:List UInt8):(frame k p).length=9+p.length:=by simp[frame];omega
/-! ### A byte that is turned is told -/
theorem getD_take (s:List UInt8)(n i:Nat)(h:i<n):(s.take n).getD i 0=s.getD i 0:=by simp[List.getD,h]
def zbS (s:List UInt8)(i:Nat)(d:UInt8):List UInt8:=s.set i (s.getD i 0^^^d)
@[simp] theorem turned_length (s:List UInt8) (i:Nat) (d:UInt8):(zbS s i d).length=s.length:=by simp[zbS]
end Go.Proofs.YtgdkbagngobdlaaGreatDoor.Sums
namespace Go.Proofs.YtgdkbagngobdlaaGreatDoor
open Go Go.RowKit Go.Proofs.Tryz
set_option linter.unusedVariables false
abbrev U (n:Nat):Value:= .int .u32 (n:Int)
def zaF (c:Nat)(b:UInt8)(p:Nat)(T:TypeId)(w:World)(hB:OR w p [U c] T)(hc:c<4294967296):
  Pm prog 146 [S8 b,ptr p 0] w λv w'=>v= .tuple #[]/\OR w' p [U (Sums.byte c b)] T/\Kp (λk=>k=p) w w':=by
 have hb:=b.toNat_lt
 have hx:=Sums.YL hc (show b.toNat<4294967296 by omega)
 refine py (e:=[(0,_),(1,_)]) func146 O ntmps146 O O$ qN O$ qV (OO Py O O hB O)$ OK O$ qV ((z2f O U5 Py (by decide)))$ qV (zep O O (by omega) (by omega))$ OW O (QQ OP O O O hB (by simp)) ?_
 rintro w1 ⟨aj,aL⟩
 refine qM O$ OK O$ OD$ OH$ Rq (α:=Nat×Nat) ((0,c^^^b.toNat)) (λx=>[(0,S8 b),(1,ptr p 0),(7,I (x.1:Int))]) (λx w'=>x.1<=8/\x.2<4294967296/\Sums.iter Sums.bit (8-x.1) x.2=Sums.byte c b/\OR w' p [U x.2] T/\Kp (λk=>k=p) w w') (λx=>8-x.1) ?hI ?hround
 case hI=>exact⟨by omega,hx,rfl,aj,aL⟩
 case hround=>
  rintro⟨k,d⟩ w2 ⟨aR,hd,hs,am,aq⟩ ih
  try dsimp only
  refine qN O$ Qq O$ OD$ It$ OQ O (λaZ=>?_)$ λaZ=>?_
  ·have jN:d&&&1<4294967296:=Nat.lt_of_le_of_lt Nat.and_le_right (by omega);have uk:(4294967296-(d&&&1))%4294967296<4294967296:=Nat.mod_lt _ (by omega);have j5:2197175160&&&((4294967296-(d&&&1))%4294967296)<4294967296:=Nat.lt_of_le_of_lt Nat.and_le_left (by omega);refine OE$ Qx$ OL O$ qV (OO Py O O am O)$ qV (Sc 1 2 O O (by decide) O)$ qV (OO Py O O am O)$ qV (zee O O (by omega) (by omega))$ qV (zj3 O (by omega))$ qV (zee O O (by omega) (by omega))$ qV (zep O O (by omega) (by omega))$ OW O (QQ OP O O O am (by simp)) ?_;rintro w3 ⟨au,av⟩;refine OD$ OA$ OL O$ PV O$ OK O$ OD ?_;simp only[List.set_cons_zero] at au;rw[Sums.zbo] at au;refine(ih (k+1,Sums.bit d) w3 ⟨by dsimp only at*;omega,Sums.VY hd,?_,au,aq.trans av⟩ (by dsimp only at*;omega)).qb;have h8:8-k=(8-(k+1))+1:=by dsimp only at*;omega
   dsimp only at hs⊢;rw[h8] at hs;exact hs
  ·refine ON O$ Qv func146 O ?_;have hk:k=8:=by dsimp only at*;omega
   subst hk;refine⟨_,rfl,rfl,?_,aq⟩;have:d=Sums.byte c b:=hs;rw[<-this];exact am
def zgf {l:List UInt8}{rest:List Value}{k:Nat}(h:k<l.length):(l.map S8++rest)[0+k*1]? =some (S8 (l.getD k 0)):=by
 rw[Nat.zero_add,Nat.mul_one,List.getElem?_append_left (by simpa using h)]
 simp[h,List.getD]
theorem z2j (c:Nat)(l:List UInt8)(k:Nat)(h:k<l.length):Sums.raw c (l.take (k+1))=Sums.byte (Sums.raw c (l.take k)) (l.getD k 0):=by
 rw[List.take_succ_eq_append_getElem h,Sums.z5R]
 simp[Sums.raw,List.getD,h]
def zb3 (c:Nat)(l:List UInt8)(w:World)(hc:c<4294967296)(hl:l.length<=9223372036854775807):
  Pm prog 108 [U c,S l] w λv w'=>v=U (Sums.on c l)/\Ext w w':=by
 refine py (e:=[(0,_),(1,_)]) func108 O ntmps108 O O$ qN O$ OM O O (Rm O O) ?_
 rintro _ w1 ⟨b1,rfl,bU,ad,aj⟩
 refine Qw O$ qV (OO Py O O aj O)$ qV (zf3 O (by omega))$ OW O (QQ OP O O O aj (by simp)) ?_
 rintro w2 ⟨am,aq⟩
 simp only[List.set_cons_zero] at am
 have ae:Ext w w2:=ad.An aq (λi hi=>by rw[hi,bU];exact Nat.le_refl _)
 refine qM O$ qV (ymf (first:=[]) (caps:=[.tmp 2]) O O)$ OU O$ PG O$ OM O O (z6G U9 Q5 U5 O) ?_
 rintro _ w3 ⟨b3,cap,rest,rfl,⟨eG,ai,au⟩,jP⟩
 refine Rv Q5 O$ OK O$ OD$ OH ?_
 have bT:b3≠b1:=by have:=am.lt;omega
 refine Rq (α:=Nat×Nat) ((0,Sums.neg c)) (λx=>[(2,ptr b1 0),(5,.func (.func 146) #[] #[ptr b1 0]),(12,.slice (some ⟨b3,0,none⟩) l.length cap),(13,I (l.length:Int)),(14,I (x.1:Int))]) (λx w'=>x.1<=l.length/\x.2<4294967296/\x.2=Sums.raw (Sums.neg c) (l.take x.1)/\OR w' b1 [U x.2] 106/\OR w' b3 (l.map S8++rest) 5/\Ext w w') (λx=>l.length-x.1) ?hI ?hround
 case hI=>exact⟨by simp,Sums.z7w hc,rfl,ai.OC am,au,ae.trans ai⟩
 case hround=>
  rintro⟨k,d⟩ w4 ⟨hk,hd,hs,aK,aH,aD⟩ ih;dsimp only at hk hd hs aK
  try dsimp only
  refine qN O$ Qq O$ OD$ It$ OQ O (λaZ=>?_)$ λaZ=>?_
  ·have ku:k<l.length:=by omega
   refine OE$ Qx$ qN O$ qV (PX Q5 VK O O (by omega))$ qV (OO U5 O O aH (zgf ku))$ OU O$ OL O$ P8 O$ Qz O O (RY zhT O O) (zaF d (l.getD k 0) b1 _ w4 aK hd) ?_;rintro _ w5 ⟨rfl,aQ,aP⟩;refine OD$ OA$ OL O$ PV O$ OK O$ OD ((ih (k+1,Sums.byte d (l.getD k 0)) w5 ⟨ku,Sums.z8E hd _,?_,aQ,aP.OC aH bT,aD.An aP (λi hi=>by rw[hi,bU];exact Nat.le_refl _)⟩ (by dsimp only;omega)).qb);rw[z2j _ _ _ ku,<-hs]
  ·refine ON O$ qN O$ qV (OO Py O O aK O)$ qV (zf3 O (by omega))$ OU O$ OB func108 O (⟨_,rfl,?_,aD⟩);have jB:k=l.length:=by omega
   subst jB;rw[List.take_length] at hs;show U (Sums.neg d)=_;rw[hs]
   rfl
def z7F (l:List UInt8)(w:World)(hl:l.length<=9223372036854775807):
  Pm prog 102 [S l] w λv w'=>v=U (Sums.crc l)/\Ext w w':=by
 refine py (e:=[(0,_)]) func102 O ntmps102 O O$ qN O$ Qt O$ P4 zff O (zb3 0 l _ (by omega) hl) ?_
 rintro _ w1 ⟨rfl,ad⟩
 refine OU O$ OB func102 O ?_
 exact⟨_,rfl,rfl,ad⟩
theorem z0Q (s:OG):Lib.strCells ⟨s.toArray⟩=s.map S8:=by simp[Lib.strCells,S8]
section
variable {P:Program}{e:Env}{d:Option Nat}{ty t tu tn el:TypeId}{pos:String}{aft:Array Edge}{g:Option (Nat×Bool)}{x y:Operand}{w w':World}{n k:Nat}{v:Value}{cs:List Value}{s:OG}{kn:IntKind}{za:Int}
def z44 (ht:P.underlying t=some (.slice el))(hu:P.underlying tu=some .string)(hs:TI P el (.int .u8 0) 1 1)(hv:Sl w v el 1 n cs)(hb:n+s.length<=140737488355328):
  ∃v' w',(Builtin.append_ #[t,tu] ty #[v,S s]).run P w= .ok v' w'/\Sl w' v' el 1 (n+s.length) (cs++s.map S8)/\Kp (λk=>v.ownBlock=some k) w w'/\(∀g,v'.ownBlock=some g->v.ownBlock=some g\/w.heap.size<=g):=by
 have eu:maxLen=9223372036854775807:=rfl
 obtain⟨i,hi,p5,jL,qQ⟩:=hs
 have e1:=T6 s
 have e2:=z0Q s
 rcases id hv.2 with⟨rfl,rfl⟩|⟨g,cap,cur,rfl,IF,hg,jy,lJ,fW,IG⟩
 ·have hx:cs=[]:=List.eq_nil_of_length_eq_zero (by simpa using hv.1);subst hx;obtain⟨v',w',hr,ho,hg,-⟩:=Lib.run_append_own_string (P:=P) w w.heap.size t tu ty el i ht hu hi p5 jL qQ (.slice none 0 0) 0 [] (World.ownsRow_nil w w.heap.size el 1) ⟨s.toArray⟩ (by rw[e1];omega) (by rw[e1];exact hb) (Nat.le_refl _);rw[e1,e2] at ho;refine⟨v',w',hr,⟨ho.1,?_⟩,Kp.Uu hg,λg hg=> .inr (World.ownsRow.lt ho g hg).1⟩;rcases ho.2 with M3|⟨g,cap2,cur2,jX,cn,dw⟩
  ·exact .inl M3
  ·exact .inr ⟨g,cap2,cur2,jX,Nat.zero_le _,dw⟩
 ·by_cases io:n+s.length<=cap
  ·by_cases hc:0<cap
   ·obtain⟨w',hr,ho,cP⟩:=Lib.run_append_fits_string (P:=P) w 0 t tu ty el i ht hu hi jL (some ⟨g,0,none⟩) n cap cs hv ⟨s.toArray⟩ hc (by rw[e1];exact io);rw[e1,e2] at ho;rw[e1] at hr;exact⟨_,w',hr,ho,Kp.Uu cP,λg' cP=> .inl (by simpa[Value.ownBlock] using cP)⟩
   ·obtain⟨v',w',hr,ho,cP,-⟩:=Lib.run_append_own_string (P:=P) w 0 t tu ty el i ht hu hi p5 jL qQ (.slice (some ⟨g,0,none⟩) n cap) n cs hv ⟨s.toArray⟩ (by rw[e1];omega) (by rw[e1];exact hb) (Nat.zero_le _);have M4:s=[]:=List.eq_nil_of_length_eq_zero (by omega);subst M4;have dw:=Lib.run_append_room_string (P:=P) w t tu ty el i ht hu hi jL g n cap cur hg ⟨[].toArray⟩ (by rw[e1];exact io) (by rw[e1];simp only[Nat.mul_one] at fW;simp only[List.length_nil];omega);rw[dw] at hr;cases hr;rw[e1,e2] at ho;exact⟨_,_,dw,ho,Kp.Uu cP,λg' cP=> .inl (by simpa[Value.ownBlock] using cP)⟩
  ·obtain⟨v',w',hr,ho,cP,-⟩:=Lib.run_append_own_string (P:=P) w 0 t tu ty el i ht hu hi p5 jL qQ (.slice (some ⟨g,0,none⟩) n cap) n cs hv ⟨s.toArray⟩ (by rw[e1];omega) (by rw[e1];exact hb) (Nat.zero_le _);have dw:=Lib.run_append_grow_string (P:=P) w t tu ty el i (.int .u8 0) ht hu hi p5 ⟨g,0,none⟩ n cap cs (by rw[jL];exact hv.1) (World.ownsRow.cells hv (g:=g) O) ⟨s.toArray⟩ (by rw[e1];omega) (by rw[e1];omega) (by rw[e1];exact growslice_fits (by omega) (by rw[qQ];omega));rw[dw] at hr;cases hr;rw[e1,e2] at ho;refine⟨_,_,dw,by rw[<-e1] at ho⊢;exact ho,Kp.Uu cP,λg' cP=> .inr ?_⟩;simp[Value.ownBlock] at cP;omega
def zhj (ht:P.underlying t=some (.slice el))(hu:P.underlying tu=some .string)(hs:TI P el (.int .u8 0) 1 1)(hx:look e x=some v)(hy:look e y=some (S s))(hv:Sl w v el 1 n cs)(hb:n+s.length<=140737488355328):
  Yp P e ⟨d,.call ⟨.builtin .append,#[x,y],#[t,tu]⟩,ty,pos,aft,g⟩ w λv' w'=>Sl w' v' el 1 (n+s.length) (cs++s.map S8)/\Kp (λk=>v.ownBlock=some k) w w'/\(∀g,v'.ownBlock=some g->v.ownBlock=some g\/w.heap.size<=g):=by
 obtain⟨v',w',hr,nM⟩:=z44 (P:=P) (ty:=ty) ht hu hs hv hb
 refine⟨v',w',fun ρ hρ=>?_,nM⟩
 simp[execOp,resolve,invoke,builtin,hρ _ _ hx,hρ _ _ hy,hr]
def z58 (k:Nat):Builtin.zeroCells (Value.int .u8 0).cells k=(Lib.strCells ⟨(zeros k).toArray⟩).toArray:=by
 rw[z0Q]
 apply Array.ext'
 rw[XD (.int .u8 0) k O]
 simp[zeros,S8]
theorem zgT [si:SS za k](ht:P.underlying t=some (.slice el))(hn:P.underlying tn=some (.int kn))(hu:P.underlying tu=some .string)(hs:TI P el (.int .u8 0) 1 1)(hx:look e x=some v)(hy:look e y=some (I za))(hv:Sl w v el 1 n cs)(hb:n+k<=140737488355328):
  Yp P e ⟨d,.call ⟨.builtin .append,#[x,y],#[t,tn]⟩,ty,pos,aft,g⟩ w λv' w'=>Sl w' v' el 1 (n+k) (cs++(zeros k).map S8)/\Kp (λk=>v.ownBlock=some k) w w'/\(∀g,v'.ownBlock=some g->v.ownBlock=some g\/w.heap.size<=g):=by
 obtain⟨rfl⟩:=si
 have hl:(zeros k).length=k:=by simp[zeros]
 obtain⟨v',w',hr,h1,h2⟩:=z44 (P:=P) (ty:=ty) (s:=zeros k) ht hu hs hv (by rw[hl];exact hb)
 rw[hl] at h1
 have he:(Builtin.append_ #[t,tn] ty #[v,I (k:Int)]).run P w= .ok v' w':=by
  rw[<-hr];obtain⟨i,hi,p5,jL,qQ⟩:=hs;have hw:IntKind.i64.wrap (k:Int)=k:=by rw[IntKind.wrap_i64];omega
  have uk:¬((k:Int)<0):=by omega
  have IH:¬(281474976710656<(k:Int)*(i.bytes:Int)):=by rw[qQ];omega
  have hf:=λw=>Lib.run_firstCells_string (P:=P) w i.size ⟨(zeros k).toArray⟩;have cG:(ByteArray.mk (zeros k).toArray).size=k:=by rw[T6,hl]
  rw[cG] at hf
  obtain⟨a,c,M5⟩:∃a c,v= .slice a n c:=by
   rcases hv.2 with⟨rfl,rfl⟩|⟨g,cap,cur,rfl,_⟩
   ·exact⟨_,_,rfl⟩
   ·exact⟨_,_,rfl⟩
  subst M5;have zQ:k=0->(Lib.strCells ⟨(zeros k).toArray⟩).toArray=#[]:=λe=>by subst e;rfl
  have M6:c<=maxLen/\n<=c:=by
   rcases hv.2 with⟨h,h'⟩|⟨g,cap,cur,h,_,_,h1,h2,_⟩
   ·cases h;exact⟨by simp[maxLen],by omega⟩
   ·cases h;exact⟨h2,h1⟩
  have cd:n+k<=c\/¬(281474976710656<Builtin.nextslicecap (n+k) c*i.bytes):=by
   by_cases hr:n+k<=c
   ·exact .inl hr
   ·have:=growslice_fits (need:=n+k) (old:=c) (bytes:=i.bytes) (by omega) (by rw[qQ];omega);exact .inr (by omega)
  have Fs:¬(9223372036854775807<((n:Int)+(k:Int))):=by omega
  by_cases hk:k=0
  ·subst hk;have e0:=zQ O;have j7:n<=c:=M6.2;have mY:IntKind.i64.wrap 0=0:=by rw[IntKind.wrap_i64];omega
   have fX:=hf w;rw[jL,e0] at fX;simp[Builtin.append_,run_underlying ht,run_underlying hn,run_underlying hu,sizeOf,typeInfo,zeroValue,hi,p5,jL,asInt,asIntOf,mY,Builtin.lenOf,cG,j7,fX]
  ·have aY:=z58 k;have oD:∀w,(Builtin.firstCells 1 k (.string ⟨(zeros k).toArray⟩)).run P w= .ok (Builtin.zeroCells (Value.int .u8 0).cells k) w:=λw=>by rw[aY];have:=hf w;rw[jL] at this;exact this
   have ey:¬(k*i.size=0):=by rw[jL];omega
   by_cases hr:n+k<=c
   ·simp[Builtin.append_,run_underlying ht,run_underlying hn,run_underlying hu,sizeOf,typeInfo,zeroValue,hi,p5,jL,asInt,asIntOf,hw,uk,IH,Builtin.lenOf,cG,hr,oD,hk]
   ·have Ft:=cd.resolve_left hr;simp[Builtin.append_,run_underlying ht,run_underlying hn,run_underlying hu,sizeOf,typeInfo,zeroValue,hi,p5,jL,asInt,asIntOf,hw,uk,IH,Builtin.lenOf,cG,hr,oD,hk,Fs,Ft]
 refine⟨v',w',fun ρ hρ=>?_,h1,h2⟩
 simp[execOp,resolve,invoke,builtin,hρ _ _ hx,hρ _ _ hy,he]
end
/-! ### Writers -/
def swC (s st len:Nat)(rest:Value)(at' n:Nat)(sum:Nat)(put:Value)(dn:Bool):List Value:=[ptr s 0,I (st:Int),I (len:Int),rest,I (at':Int),I (n:Int),U sum,put,.bool dn]
section
variable {w w':World}{Q:Rn}{txt:Int->OG}{K:Nat}{X:Nat->Prop}
def z3w (n:Nat)(hn:n<=2000000)(w:World):Pm prog 65 [I 512,I (n:Int)] w λv w'=>v= .tuple #[I (((n+523) / 512:Nat):Int),I 0]/\w'=w:=by
 refine py (e:=[(0,_),(1,_)]) func65 O ntmps65 O O$ qN O$ PU O$ PG O$ Qq O$ PF$ P8 O$ Qu O$ PF$ PK O$ P8 O$ qV (yre O O (by omega))$ Qf O$ PF ?_
 refine PK O$ P8 O$ Qq O$ PF$ PK O$ P8 O$ OK O$ qV (Wm O O (by omega))$ Ro O$ Qu O$ PF$ PK O$ OD$ Pn.qb (e:=[(0,_),(1,_),(4,_),(5,_),(27,_)]) ?_
 refine Tu O$ Pf O$ PV O$ OK O$ PV O$ Ro O$ OK O$ qV (VI O O (by omega))$ PU O ?_
 rw[show((n:Int)+12+512-1) / 512=(((n+523) / 512:Nat):Int) by omega]
 refine OB func65 O ?_
 exact⟨_,rfl,rfl,rfl⟩
def z0l (h:Sp Q txt K X w){st len:Nat}(h1:1<=len)(h2:st+len<=Q.L.length):Pm prog 103 [.agg #[ptr Q.s 0,I (st:Int),I (len:Int)]] w λv w'=>v=I 0/\Ext w w':=by
 have dW:=h.n
 refine py (e:=[(0,_)]) func103 O ntmps103 O O$ qN O$ OM O O (Rm O (cs:=[ptr Q.s 0,I (st:Int),I (len:Int)]) O) ?_
 rintro _ w1 ⟨b1,rfl,bU,ad,aj⟩
 have hP:=h.ext' ad
 have hg:=Ext.OT w1
 have II:=(hP.ext' hg).dev
 have Fu:=(hP.ext' hg).blocks
 refine OU O$ Qx$ qN O$ OX US O$ qV (OO XF O O aj O)$ qV (Qi XF O O)$ OU O$ OJ O$ It$ R5 (λw'=>Ext w1 w') O$ OI 0 O (Pp Ui O) hg$ OI 1 O (Pp Ra O) hg$ qT 2 O (λ_ h=>OO U3 O O (h.OC aj) O) hg$ OI 3 O (ylt O O) hg ?_
 refine Uc$ OZ 4 O O (hg)$ OI 5 O (Pp Ui O) hg$ OI 6 O (Pp QX O) hg$ qT 7 O (λ_ h=>OO U3 O O (h.OC aj) O) hg$ OI 8 O (ylt O O) hg$ Uc$ OI 9 O (Ub O O) hg$ OZ 10 O O (hg)$ OI 11 O (Pp Ui O) hg$ OI 12 O (Pp QX O) hg$ qT 13 O (λ_ h=>OO U3 O O (h.OC aj) O) hg$ OI 14 O (Pp US O) hg$ qT 15 O (λ_ h=>OO XF O O (h.OC aj) O) hg ?_
 refine SK 16 O zeZ O (II) ?_
 rintro _ w2 ⟨rfl,rfl⟩
 refine⟨hg,?_⟩
 refine SK 17 O z48 O (Fu) ?_
 rintro _ w2 ⟨rfl,rfl⟩
 refine⟨hg,?_⟩
 refine OI 18 O (yge O O) hg$ Uc$ OI 19 O (Ub O O) hg$ OZ 20 O O (hg)$ OI 21 O (Pp Ui O) hg$ OI 22 O (Pp Ra O) hg$ qT 23 O (λ_ h=>OO U3 O O (h.OC aj) O) hg$ OI 24 O (Pp US O) hg$ qT 25 O (λ_ h=>OO XF O O (h.OC aj) O) hg$ OI 28 O (Pp Ui O) hg$ OI 29 O (Pp QX O) hg$ qT 30 O (λ_ h=>OO U3 O O (h.OC aj) O) hg$ SK 26 O zeZ O (II) ?_
 rintro _ w2 ⟨rfl,rfl⟩
 refine⟨hg,?_⟩
 refine SK 27 O z48 O (Fu) ?_
 rintro _ w2 ⟨rfl,rfl⟩
 refine⟨hg,?_⟩
 refine OI 31 O (XH O O (by omega)) hg$ OI 32 O (Xw O O) hg$ Uc$ OI 33 O (Ub O O) hg$ OI 34 O (R7 O) hg$ qE$ Pn.qb (e:=[(2,_),(7,_)]) ?_
 refine Tu O$ OA$ QB O$ OB func103 O ?_
 exact⟨_,rfl,rfl,ad.trans hg⟩
def z1b (h:Sp Q txt K X w){st len:Nat}(h2:len<=100000):Pm prog 111 [.agg #[ptr Q.s 0,I (st:Int),I (len:Int)]] w λv w'=>v=I ((len:Int)*512-12)/\Ext w w':=by
 refine py (e:=[(0,_)]) func111 O ntmps111 O O$ qN O$ OM O O (Rm O (cs:=[ptr Q.s 0,I (st:Int),I (len:Int)]) O) ?_
 rintro _ w1 ⟨b1,rfl,bU,ad,aj⟩
 have hP:=h.ext' ad
 have hg:=Ext.OT w1
 have M7:=(hP.ext' hg).size
 refine OU O$ It$ R5 (λw'=>Ext w1 w') O$ OI 0 O (Pp Ui O) hg$ OI 1 O (Pp Ra O) hg$ qT 2 O (λ_ h=>OO U3 O O (h.OC aj) O) hg$ OI 3 O (Pp US O) hg$ qT 4 O (λ_ h=>OO XF O O (h.OC aj) O) hg$ SK 5 O z5P O (M7) ?_
 rintro _ w2 ⟨rfl,rfl⟩
 refine⟨hg,?_⟩
 refine OI 6 O (Wm O O (by omega)) hg$ OI 7 O (XH O O (by omega)) hg$ OI 8 O (R7 O) hg$ qE$ OB func111 O ?_
 exact⟨_,rfl,rfl,ad.trans hg⟩
def YR {wb s st len at' n sum:Nat}{rest put:Value}(hB:OR w wb (swC s st len rest at' n sum put false) 200):Pm prog 106 [ptr wb 0] w λv w'=>v=I 0/\w'=w:=by
 replace hB:OR w wb [ptr s 0,I (st:Int),I (len:Int),rest,I (at':Int),I (n:Int),U sum,put,.bool false] 200:=hB
 refine py (e:=[(0,_)]) func106 O ntmps106 O O$ QB O$ Qx$ Pf O$ qV (Qi z36 O O)$ OU O$ OJ O$ Pf O$ Pu O$ OX YP O$ qV (OO U4 O O hB O)$ OU O$ Tu O$ OA ?_
 refine QB O$ OB func106 O ?_
 exact⟨_,rfl,rfl,rfl⟩
def z4h (h:Sp Q txt K X w){wb st len at' n sum:Nat}{rest put:Value}(h2:len<=100000)(hn:n<=100000000)(hB:OR w wb (swC Q.s st len rest at' n sum put false) 200):Pm prog 107 [ptr wb 0] w λv w'=>v=I ((len:Int)*512-12-(n:Int))/\Ext w w':=by
 replace hB:OR w wb [ptr Q.s 0,I (st:Int),I (len:Int),rest,I (at':Int),I (n:Int),U sum,put,.bool false] 200:=hB
 have hg:=Ext.OT w
 have M8:=z1b (h.ext' hg) (st:=st) h2
 refine py (e:=[(0,_)]) func107 O ntmps107 O O$ QB O$ PG O$ qV (Qi z36 O O)$ P8 O$ Pu O$ OX YP O$ qV (OO U4 O O hB O)$ PK O$ PW O$ It$ R5 (λw'=>Ext w w') O$ OZ 0 O O (hg)$ OI 1 O (Q4 O) hg ?_
 refine OI 2 O (Pp WZ O) hg$ qT 3 O (λ_ h=>Pt zd8 O XI O (OR.cells (n:=3) (h.OC hB) (news:=[_,_,_]) O) O) hg$ OZ 5 O O (hg)$ OI 6 O (Q4 O) hg$ OI 7 O (Pp z0y O) hg$ qT 8 O (λ_ h=>OO U3 O O (h.OC hB) O) hg$ SK 4 O zes O (M8) ?_
 rintro _ w2 ⟨rfl,ae⟩
 refine⟨(hg.trans ae),?_⟩
 refine OI 9 O (XH O O (by omega)) ((hg.trans ae))$ OI 10 O (R7 O) ((hg.trans ae))$ qE$ OB func107 O ?_
 exact⟨_,rfl,rfl,hg.trans ae⟩
end
def z1F (bs bx bw:Nat):Value:= .func (.func 104) #[] #[ptr bs 0,ptr bx 0,ptr bw 0]
structure SwM (s st len wb bs bx bw:Nat)(rest:Value)(at' n sum:Nat)(w:World):Prop where
 wr:OR w wb (swC s st len rest at' n sum (z1F bs bx bw) false) 200
 sb:OR w bs [ptr s 0] 29
 xb:OR w bx [I (st:Int),I (len:Int)] 119
 pb:OR w bw [ptr wb 0] 145
 ne:bs≠wb/\bx≠wb/\bw≠wb
section
variable {w w':World}{Q:Rn}{txt:Int->OG}{K:Nat}{X S':Nat->Prop}{s st len wb bs bx bw at' n sum:Nat}{rest:Value}
def SwM.kp (h:SwM s st len wb bs bx bw rest at' n sum w)(hk:Kp S' w w')(h1:¬S' wb)(h2:¬S' bs)(h3:¬S' bx)(h4:¬S' bw):SwM s st len wb bs bx bw rest at' n sum w':=
 ⟨hk.OC h.wr h1,hk.OC h.sb h2,hk.OC h.xb h3,hk.OC h.pb h4,h.ne⟩
theorem SwM.ext (h:SwM s st len wb bs bx bw rest at' n sum w)(hx:Ext w w'):SwM s st len wb bs bx bw rest at' n sum w':=h.kp (S':=λ_=>False) hx id id id id
def SwM.re {rest2:Value}{at2 n2 sum2:Nat}(h:SwM s st len wb bs bx bw rest at' n sum w)(hk:Kp (λb=>b=wb) w w')(hB:OR w' wb (swC s st len rest2 at2 n2 sum2 (z1F bs bx bw) false) 200):SwM s st len wb bs bx bw rest2 at2 n2 sum2 w':=
 ⟨hB,hk.OC h.sb h.ne.1,hk.OC h.xb h.ne.2.1,hk.OC h.pb h.ne.2.2,h.ne⟩
theorem SwM.cells (h:SwM s st len wb bs bx bw rest at' n sum w):OR w wb [ptr s 0,I (st:Int),I (len:Int),rest,I (at':Int),I (n:Int),U sum,z1F bs bx bw,.bool false] 200:=h.wr
def ZK (hP:Sp Q txt K X w)(hX:∀b,X b->b<w.heap.size)(hK:K<1000000000000)(h:SwM Q.s st len wb bs bx bw rest at' n sum w)(aU:X wb/\X bs/\X bx/\X bw)(lD:st+at'<Q.L.length)(t:OG)(ht:t.length=512):
  Pm prog 104 [S t,ptr bs 0,ptr bx 0,ptr bw 0] w λv w'=>v=I 0/\Sp Q (ZC txt ((st+at':Nat):Int) (some t)) (K+1) X w'/\SwM Q.s st len wb bs bx bw rest (at'+1) n sum w'/\Kp (λb=>¬X b\/b=wb) w w':=by
 have dW:=hP.n
 have iS:=h.sb
 have j0:=h.xb
 have mt:=h.pb
 have hB:=h.cells
 have hg:=Ext.OT w
 refine py (e:=[(0,_),(1,_),(2,_),(3,_)]) func104 O ntmps104 O O$ QB O$ It$ R5 (λw'=>Kp (λb=>¬X b) w w') O$ qT 0 O (λ_ hS=>(OO XF O O (hS.OC iS (λe=>e aU.2.1)) O)) (hg.kp)$ OI 1 O (Pp QX O) (hg.kp)$ qT 2 O (λ_ hS=>(OO U3 O O (hS.OC j0 (λe=>e aU.2.2.1)) O)) (hg.kp)$ qT 3 O (λ_ hS=>(OO z36 O O (hS.OC mt (λe=>e aU.2.2.2)) O)) (hg.kp)$ OI 4 O (Q4 O) (hg.kp)$ OI 5 O (Pp Z0 O) (hg.kp)$ qT 6 O (λ_ hS=>(OO U3 O O (hS.OC hB (λe=>e aU.1)) O)) (hg.kp)$ OI 7 O (Ud O O (by omega)) (hg.kp)$ OZ 8 O O (hg.kp) ?_
 rw[show(st:Int)+(at':Int)=((st+at':Nat):Int) by omega]
 refine SK 9 O zbc O ((hP.ext' hg).write (λb hb=>by have:=hX b hb;have:=hg.size;omega) hK (no:=((st+at':Nat):Int)) (by omega) (by omega) t ht) ?_
 rintro _ w1 ⟨rfl,j3,aL⟩
 refine⟨hg.kp.trans aL,?_⟩
 have iM:Kp (λb=>¬X b) w w1:=hg.kp.trans aL
 have h1:=h.kp iM (λe=>e aU.1) (λe=>e aU.2.1) (λe=>e aU.2.2.1) (λe=>e aU.2.2.2)
 have aj:=h1.cells
 have Fv:=h1.pb
 have iL:∀b,X b->b<w1.heap.size:=λb hb=>by have:=hX b hb;have:=iM.size;omega
 refine OI 10 O (R7 O) (hg.kp.trans aL)$ qE$ qN O$ qV ((OO z36 O O Fv O))$ Pu O$ OX Z0 O$ qV ((OO U3 O O aj O))$ PV O$ Pu O$ OX Z0 O$ OW O (QQ Q7 O O O aj (by simp)) ?_
 rintro w2 ⟨am,aq⟩
 have eD:OR w2 wb (swC Q.s st len rest (at'+1) n sum (z1F bs bx bw) false) 200:=am
 have h2:=h1.re aq eD
 have zR:=h2.cells
 have zS:=h2.pb
 have aa:=Ext.OT w2
 have dQ:=j3.own aq (λb e=>by rw[e];exact aU.1)
 refine OD$ It$ P7 [11] (λw'=>Ext w2 w') (by kernel_rfl) O$ qL 0 O (λ_ h=>(OO z36 O O (h.OC zS) O)) aa$ qL 1 O (λ_ h=>(OO z36 O O (h.OC zS) O)) aa$ P9 2 O (Q4 O) aa$ P9 3 O (Pp YP O) aa$ qL 4 O (λ_ h=>(OO U4 O O (h.OC zR) O)) aa$ PL 5 O O (aa)$ PL 6 O O (aa)$ P9 7 O (yne O O) aa$ P9 8 O (Ub O O) aa$ P9 9 O (Q4 O) aa$ P9 10 O (Pp YP O) aa ?_
 refine SM [11] ?_
 have au:=aa.OC zR
 refine qO 11$ PC (i:=11) O O (QQ W3 O O O au (by simp)) ?_
 rintro w3 ⟨nP,av⟩
 refine⟨trivial,?_⟩
 refine qE$ Pn.qb (e:=[(5,_),(6,_)]) ?_
 refine Pf O$ OU O$ OB func104 O ?_
 have h3:=(h2.ext aa).re av (show OR w3 wb (swC Q.s st len rest (at'+1) n sum (z1F bs bx bw) false) 200 from nP)
 exact⟨_,rfl,rfl,(dQ.ext' aa).own av (λb e=>by rw[e];exact aU.1),h3,((iM.OV λb e=> .inl e).trans (aq.OV λb e=> .inr e)).trans (aa.kp.trans (av.OV λb e=> .inr e))⟩
end
section
variable {P:Program}{e:Env}{d:Option Nat}{ty t t' el:TypeId}{pos:String}{aft:Array Edge}{g:Option (Nat×Bool)}{x:Operand}{w:World}{l:OG}{v:Value}
def zgl (hs:P.underlying t=some (.slice el))(he:P.underlying el=some (.int .u8))(hd:P.underlying t'=some .string)(hx:look e x=some v)(hr:Rd w v 1 l.length (l.map S8))(hl:0<l.length):
  Y P e ⟨d,.convert t t' x,ty,pos,aft,g⟩ (S l) w w:=fun ρ hρ=>by
 rcases hr.2 with⟨⟨ca,c⟩,hv,h0⟩|⟨b,off,cap,hv,hc⟩
 ·omega
 ·subst hv;have hr:=run_convert_bytes_back (P:=P) w t t' el ⟨b,off,none⟩ cap l hs he hd (λj hj=>by rw[R8];exact hc j _ (by simp[hj,S8]));simp[execOp,hρ _ _ hx,hr]
end
section
variable {w w':World}{Q:Rn}{txt:Int->OG}{K:Nat}{X:Nat->Prop}{s st len wb bs bx bw n sum:Nat}
theorem z3F (hP:Sp Q txt K X w){st len:Nat}(h1:1<=len)(h2:st+len<=Q.L.length):
  Pm prog 68 [ptr Q.s 0,.agg #[I (st:Int),I (len:Int)]] w λv w'=>∃wb bs bx bw sum,v= .tuple #[ptr wb 0,I 0]/\sum<4294967296/\SwM Q.s st len wb bs bx bw (.slice none 0 0) 0 0 sum w'/\(w.heap.size<=wb/\w.heap.size<=bs/\w.heap.size<=bx/\w.heap.size<=bw)/\Ext w w':=by
 have qX:Sums.crc []<4294967296:=Sums.zfM _
 obtain⟨c0,ul⟩:∃c0,Sums.crc []=c0:=⟨_,rfl⟩
 rw[ul] at qX
 refine py (e:=[(0,_),(1,_)]) func68 O ntmps68 O O$ qN O$ OM O O (Rm O (cs:=[ptr Q.s 0]) O) ?_
 rintro _ w1 ⟨bs,rfl,tO,ad,iS⟩
 refine OM O O (Rm O (cs:=[I (st:Int),I (len:Int)]) O) ?_
 rintro _ w2 ⟨bx,rfl,fA,ae,j0⟩
 have ia:=ae.OC iS
 have M9:=hP.ext' (ad.trans ae)
 have ah:=Ext.OT w2
 have aY:=ah.size
 refine PU O$ It$ PI (λe' w'=>∃wb bw,e'=[(2,ptr bs 0),(3,ptr bx 0),(6,ptr bw 0)]/\OR w' wb [ptr Q.s 0,I (st:Int),I (len:Int),.slice none 0 0,I 0,I 0,U c0,.nilFunc,.bool false] 200/\OR w' bw [ptr wb 0] 145/\Ext w2 w'/\w2.heap.size<=wb/\w2.heap.size<=bw/\wb≠bw) ?cE$ λcE=>?cV
 case cE=>
  rintro e' w3 ⟨wb,bw,rfl,au,kr,ai,nH,Fw,bT⟩;have lbs:=iS.lt;have lbx:=j0.lt;have dE:=ae.size;have fJ:=M9.ext' ai;refine It$ qN O$ qV ((OO z36 O O kr O))$ Pu O$ OX WZ O$ qV ((Pt zd8 O XI O (OR.cells (n:=3) au (news:=[_,_,_]) O) O))$ P4 zeE O (z0l fJ h1 h2) ?_;rintro _ w4 ⟨rfl,aD⟩;have m9:=aD.OC kr;have aK:=aD.OC au;refine Qt O$ Qf O$ PW O$ qN O$ qV ((OO z36 O O m9 O))$ qV (ymf (first:=[]) (caps:=[.tmp 2,.tmp 3,.tmp 6]) O O)$ Pu O$ OX z0s O$ OW O (QQ zg5 O O O aK (by simp)) ?_;rintro w5 ⟨aH,ak⟩;have rD:=ak.OC m9 (λe=>bT e.symm);refine qM O$ qV (OO z36 O O rD O)$ PU O$ OB func68 O ?_;have iC:Ext w2 w5:=(ai.trans aD).An ak (λj e=>by omega);refine⟨_,rfl,wb,bs,bx,bw,c0,rfl,qX,⟨aH,iC.OC ia,iC.OC j0,rD,⟨by omega,by omega,λe=>bT e.symm⟩⟩,⟨by omega,by omega,by omega,by omega⟩,(ad.trans ae).trans iC⟩
 case cV=>
 refine P7 [7] (λw'=>Ext w2 w') (by kernel_rfl) O$ qL 0 O (λ_ h=>(OO XF O O (h.OC ia) O)) ah$ qL 1 O (λ_ hS=>(Pt Xu O R6 O (OR.cells (n:=2) (hS.OC j0) (news:=[_,_]) O) O)) ah$ P9 2 O (Sk (cs:=[_,_,_]) XI O zeW O O) ah$ WH (i:=3) (j:=6) (by kernel_rfl) ?_ ?_
 ·refine Rx (i:=3) O O O (yc (args:=[.const (Value.string (⟨#[]⟩))]) zeX O) (z7F [] _ (by simp)) ?_;rintro _ w3 ⟨rfl,ai⟩;refine⟨ah.trans ai,?_⟩;rw[ul];have ah:=ah.trans ai
  try have aQ:=ai.OC aQ
  have aY:=Nat.le_trans aY ai.size;refine P9 4 O (Sk (cs:=[_,_,_,_,_,_,_,_,_]) zf7 O zeA O O) ah$ WH (i:=5) (j:=6) (by kernel_rfl) ?_ ?_
  ·refine Ql (i:=5) O O O (Rm O (cs:=[ptr Q.s 0,I (st:Int),I (len:Int),.slice none 0 0,I 0,I 0,U c0,.nilFunc,.bool false]) O) ?_;rintro _ w5 ⟨wb,rfl,nH,aT,aH⟩;refine⟨ah.trans aT,?_⟩;have ah:=ah.trans aT
   try have aQ:=aT.OC aQ
   have tq:w2.heap.size<=wb:=by omega
   have aY:=Nat.le_trans aY aT.size;refine QY (i:=6) (by kernel_rfl)$ Ql (i:=6) O O O (RN (cs:=[_]) z2Q O) ?_;rintro _ w6 ⟨bw,rfl,Fw,aI,aQ⟩;refine⟨ah.trans aI,?_⟩;have ah:=ah.trans aI
   try have aH:=aI.OC aH
   have zT:w2.heap.size<=bw:=by omega
   have aY:=Nat.le_trans aY aI.size;refine SM [7]$ qO 7$ PC (i:=7) O O (QQ z2Q O O O aQ (by simp)) ?_;rintro w7 ⟨bP,aC⟩;refine⟨trivial,?_⟩;refine qE ?_;replace bP:OR w7 bw [ptr wb 0] 145:=bP
   have jt:wb≠bw:=by
    intro e;have h5:=aH;rw[e] at h5;obtain⟨fz,h5,-⟩:=h5;obtain⟨fz6,h6,-⟩:=aQ;rw[h5] at h6;cases h6
   have jU:=aC.OC aH jt;exact(cE _ _ ⟨wb,bw,rfl,jU,bP,ah.An aC (λj e=>by omega),tq,zT,jt⟩).qb
  ·refine Ql (i:=6) O O O (RN (cs:=[_]) z2Q O) ?_;rintro _ w6 ⟨bw,rfl,Fw,aI,aQ⟩;refine⟨ah.trans aI,?_⟩;have ah:=ah.trans aI
   try have aH:=aI.OC aH
   have zT:w2.heap.size<=bw:=by omega
   have aY:=Nat.le_trans aY aI.size;refine QY (i:=5) (by kernel_rfl)$ Ql (i:=5) O O O (Rm O (cs:=[ptr Q.s 0,I (st:Int),I (len:Int),.slice none 0 0,I 0,I 0,U c0,.nilFunc,.bool false]) O) ?_;rintro _ w5 ⟨wb,rfl,nH,aT,aH⟩;refine⟨ah.trans aT,?_⟩;have ah:=ah.trans aT
   try have aQ:=aT.OC aQ
   have tq:w2.heap.size<=wb:=by omega
   have aY:=Nat.le_trans aY aT.size;refine SM [7]$ qO 7$ PC (i:=7) O O (QQ z2Q O O O aQ (by simp)) ?_;rintro w7 ⟨bP,aC⟩;refine⟨trivial,?_⟩;refine qE ?_;replace bP:OR w7 bw [ptr wb 0] 145:=bP
   have jt:wb≠bw:=by
    intro e;have h5:=aH;rw[e] at h5;obtain⟨fz,h5,-⟩:=h5;obtain⟨fz6,h6,-⟩:=aQ;rw[h5] at h6;cases h6
   have jU:=aC.OC aH jt;exact(cE _ _ ⟨wb,bw,rfl,jU,bP,ah.An aC (λj e=>by omega),tq,zT,jt⟩).qb
 ·refine Ql (i:=6) O O O (RN (cs:=[_]) z2Q O) ?_;rintro _ w6 ⟨bw,rfl,Fw,aI,aQ⟩;refine⟨ah.trans aI,?_⟩;have ah:=ah.trans aI
  try have aH:=aI.OC aH
  have zT:w2.heap.size<=bw:=by omega
  have aY:=Nat.le_trans aY aI.size;refine QY (i:=3) (by kernel_rfl)$ Rx (i:=3) O O O (yc (args:=[.const (Value.string (⟨#[]⟩))]) zeX O) (z7F [] _ (by simp)) ?_;rintro _ w3 ⟨rfl,ai⟩;refine⟨ah.trans ai,?_⟩;rw[ul];have ah:=ah.trans ai
  try have aQ:=ai.OC aQ
  have aY:=Nat.le_trans aY ai.size;refine P9 4 O (Sk (cs:=[_,_,_,_,_,_,_,_,_]) zf7 O zeA O O) ah$ QY (i:=5) (by kernel_rfl)$ Ql (i:=5) O O O (Rm O (cs:=[ptr Q.s 0,I (st:Int),I (len:Int),.slice none 0 0,I 0,I 0,U c0,.nilFunc,.bool false]) O) ?_;rintro _ w5 ⟨wb,rfl,nH,aT,aH⟩;refine⟨ah.trans aT,?_⟩;have ah:=ah.trans aT
  try have aQ:=aT.OC aQ
  have tq:w2.heap.size<=wb:=by omega
  have aY:=Nat.le_trans aY aT.size;refine SM [7]$ qO 7$ PC (i:=7) O O (QQ z2Q O O O aQ (by simp)) ?_;rintro w7 ⟨bP,aC⟩;refine⟨trivial,?_⟩;refine qE ?_;replace bP:OR w7 bw [ptr wb 0] 145:=bP
  have jt:wb≠bw:=by
   intro e;have h5:=aH;rw[e] at h5;obtain⟨fz,h5,-⟩:=h5;obtain⟨fz6,h6,-⟩:=aQ;rw[h5] at h6;cases h6
  have jU:=aC.OC aH jt;exact(cE _ _ ⟨wb,bw,rfl,jU,bP,ah.An aC (λj e=>by omega),tq,zT,jt⟩).qb
end
section
variable {w w':World}{Q:Rn}{txt:Int->OG}{K:Nat}{X:Nat->Prop}{st len wb bs bx bw n sum:Nat}{rest:Value}{T:OG}
theorem zam (T:OG)(k:Nat):((T.drop (512*k)).map S8).drop 512=(T.drop (512*(k+1))).map S8:=by
 rw[<-List.map_drop,List.drop_drop]
 congr 2
def SwI (Q:Rn)(txt:Int->OG)(K:Nat)(X:Nat->Prop)(st len wb bs bx bw:Nat)(T:OG)(sum:Nat)(w:World)(k:Nat)(w':World):Prop:=
 ∃txt' rest,Sp Q txt' (K+k) (λb=>X b\/rest.ownBlock=some b) w'/\SwM Q.s st len wb bs bx bw rest k T.length sum w'/\Sl w' rest 5 1 (T.length-512*k) ((T.drop (512*k)).map S8)/\(∀j,j<k->txt' ((st+j:Nat):Int)=(T.drop (512*j)).take 512)/\(∀y:Int,y<(st:Int)\/(st:Int)+(k:Int)<=y->txt' y=txt y)/\Kp (λb=>¬X b\/b=wb) w w'/\(∀b,rest.ownBlock=some b->w.heap.size<=b)
theorem z4a (hP:Sp Q txt K X w)(hX:∀b,X b->b<w.heap.size)(hK:K<=100000000000)(h:SwM Q.s st len wb bs bx bw (.slice none 0 0) 0 0 sum w)(gj:sum<4294967296)(aU:X wb/\X bs/\X bx/\X bw)(cd:st+len<=Q.L.length)(h1:1<=len)(hT:T.length<=len*512-12):
  Pm prog 69 [ptr wb 0,S T] w λv w'=>v=I 0/\∃sum',sum'<4294967296/\SwI Q txt K X st len wb bs bx bw T sum' w (T.length / 512) w':=by
 have eu:maxLen=9223372036854775807:=rfl
 have dW:=hP.n
 refine py (e:=[(0,_),(1,_)]) func69 O ntmps69 O O$ QB O$ PG O$ P4 zf2 O (YR h.wr) ?_
 rintro _ w ⟨rfl,rfl⟩
 refine Qt O$ Qf O$ PW O$ PG O$ qV (SV U9 O)$ OK O$ P4 zid O (z4h hP (by omega) (by omega) h.wr) ?_
 rintro _ w1 ⟨rfl,ad⟩
 have j3:=hP.ext' ad
 have dA:=h.ext ad
 have aj:=dA.cells
 refine Qu O$ PF$ PW O$ Pf O$ Pu O$ OX z0y O$ qV (OO U3 O O aj O)$ OK O$ qV (SV U9 O)$ PV O$ Pu O$ OX z0y O ?_
 rw[show((0:Nat):Int)+(T.length:Int)=(T.length:Int) by omega]
 refine OW O (QQ Q7 O O O aj (by simp)) ?_
 rintro w2 ⟨am,aq⟩
 have df:=dA.re aq (show OR w2 wb (swC Q.s st len (.slice none 0 0) 0 T.length sum (z1F bs bx bw) false) 200 from am)
 have dQ:=j3.own aq (λb e=>by rw[e];exact aU.1)
 have eD:=df.cells
 refine qM O$ P8 O$ Pu O$ OX z3X O$ qV (OO Py O O eD O)$ OK O$ P4 zff O (zb3 sum T _ gj (by omega)) ?_
 rintro _ w3 ⟨rfl,ai⟩
 have rV:=Sums.zez T gj
 obtain⟨sum3,gS⟩:∃sum3,Sums.on sum T=sum3:=⟨_,rfl⟩
 rw[gS] at rV⊢
 have oN:=df.ext ai
 have au:=oN.cells
 refine Pu O$ OX z3X O$ OW O (QQ OP O O O au (by simp)) ?_
 rintro w4 ⟨aK,ao⟩
 have vC:=oN.re ao (show OR w4 wb (swC Q.s st len (.slice none 0 0) 0 T.length sum3 (z1F bs bx bw) false) 200 from aK)
 have ii:=(dQ.ext' ai).own ao (λb e=>by rw[e];exact aU.1)
 have fw:=vC.cells
 refine OD$ Pn.qb (e:=[(0,_),(1,_),(4,_)]) ?_
 refine Qm O$ Pu O$ OX SZ O$ qV (OO Q5 O O fw O)$ OK O$ OM O O (zhj Q5 U9 VK O O (Sl.nil w4 _ 1) (by omega)) ?_
 rintro v5 w5 ⟨ew,ak,pD⟩
 simp only[List.nil_append,Nat.zero_add] at ew
 replace ak:Ext w4 w5:=ak.OV (λb e=>by cases e)
 have um:∀b,v5.ownBlock=some b->w4.heap.size<=b:=λb e=>(pD b e).elim (λe=>by cases e) id
 obtain⟨a5,c5,rfl,-⟩:=ew.rd.shape
 have oF:=vC.ext ak
 have aH:=oF.cells
 have bL:Kp (λb=>¬X b\/b=wb) w w5:=(((ad.kp.trans (aq.OV λb e=> .inr e)).trans ai.kp).trans (ao.OV λb e=> .inr e)).trans ak.kp
 have z4:w.heap.size<=w4.heap.size:=by have:=ad.size;have:=aq.size;have:=ai.size;have:=ao.size;omega
 have lwb:=aH.lt
 have lwb0:=hX _ aU.1
 refine Pu O$ OX SZ O$ OW O (QQ Wg O O O aH (by simp)) ?_
 rintro w6 ⟨aQ,aP⟩
 have ER:=oF.re aP (show OR w6 wb (swC Q.s st len (.slice a5 T.length c5) 0 T.length sum3 (z1F bs bx bw) false) 200 from aQ)
 have j4:Sp Q txt K (λb=>X b\/(Value.slice a5 T.length c5).ownBlock=some b) w6:=(ii.ext ak (λb e=>e.imp id (um b))).own aP (λb e=> .inl (by rw[e];exact aU.1))
 have ez:=ew.kp aP (λb hb e=>by have:=um b hb;omega)
 have mU:=ER.cells
 have iF:=bL.trans (aP.OV λb e=>Or.inr e)
 refine qM O$ OK O$ Pu O$ OX WZ O$ OX US O$ qV (OO XF O O mU O)$ P4 z5P O (j4.size) ?_
 rintro _ w6 ⟨rfl,rfl⟩
 refine OU O$ Qx$ Rq (α:=Nat) (0) (λk=>[(0,ptr wb 0),(6,I 512)]) (λk w'=>k<=T.length / 512/\SwI Q txt K X st len wb bs bx bw T sum3 w k w') (λk=>T.length / 512-k) ?hI ?hround
 case hI=>exact⟨Nat.zero_le _,txt,_,j4,ER,ez,λj hj=>by omega,λy hy=>rfl,iF,λb hb=>by have:=um b hb;omega⟩
 case hround=>
  rintro k w8 ⟨hk,txt1,rest,mI,xt,eV,iY,IJ,aR,kR⟩ ih;obtain⟨a8,c8,rfl,-⟩:=eV.rd.shape;have ce:=xt.cells;have HS:=aR.size
  try dsimp only
  refine PG O$ Pu O$ OX SZ O$ qV (OO Q5 O O ce O)$ Rv Q5 O$ OK O$ Te O$ OD$ OQ O (λh0=>?_)$ λh0=>?_
  ·have Ma:512*k+512<=T.length:=by omega
   rcases eV.shape with⟨e,rM⟩|⟨gb,cc,e,Fa⟩
   ·omega
   cases e;have Ln:=kR gb O;have hg:=Ext.OT w8;have dm:((T.drop (512*k)).take 512).length=512:=by rw[List.length_take,List.length_drop];omega
   have Fx:Rd w8 (.slice (some ⟨gb,0,none⟩) 512 c8) 1 ((T.drop (512*k)).take 512).length (((T.drop (512*k)).take 512).map S8):=by
    rw[dm,List.map_take];exact Ts eV.rd (by omega)
   have Mb:∀b,(X b\/(Value.slice (some ⟨gb,0,none⟩) (T.length-512*k) c8).ownBlock=some b)->b<w8.heap.size:=λb hb=>by
    rcases hb with e| e
    ·have:=hX b e;omega
    ·exact eV.lt e
   refine OE$ OH$ It$ It$ P7 [11,12] (λw'=>Ext w8 w') (by kernel_rfl) O$ PL 0 O O (hg)$ P9 1 O (Q4 O) hg$ P9 2 O (Pp z0s O) hg$ qL 3 O (λ_ h=>OO U60 O O (h.OC ce) O) hg$ PL 4 O O (hg)$ P9 5 O (Q4 O) hg$ P9 6 O (Pp SZ O) hg$ qL 7 O (λ_ h=>OO Q5 O O (h.OC ce) O) hg$ PL 8 O O (hg) ?_;refine P9 9 O (zaN Q5 VK O O (by omega)) hg$ qL 10 O (λ_ hS=>zgl (l:=(T.drop (512*k)).take 512) Q5 U5 U9 O (Fx.ext hS) (by omega)) hg$ SM [11]$ qO 11$ Wa (i:=11) O O O (RY zba O O) (ZK (mI.ext' hg) (λb hb=>by have:=Mb b hb;have:=hg.size;omega) (by omega) (xt.ext hg) ⟨.inl aU.1,.inl aU.2.1,.inl aU.2.2.1,.inl aU.2.2.2⟩ (by omega) ((T.drop (512*k)).take 512) dm) ?_;rintro _ w9 ⟨rfl,vU,Bx,aM⟩;refine⟨trivial,?_⟩;refine OI 12 O (R7 O) trivial$ qE$ Pf O$ Qf O ?_;have cI:=Bx.cells;have uo:=hg.kp.trans aM
   have wK:=eV.kp uo (λb hb e=>by
    rcases e with e| e
    ·exact e (.inr hb)
    ·have e1:gb=b:=QU hb
     omega)
   have HT:=uo.size;refine PW O$ OL O$ P8 O$ Pu O$ OX SZ O$ qV (OO Q5 O O cI O)$ OK O$ qV (XR Q5 VK O O (by omega) (by omega))$ OM O O (pap Q5 VK O (by decide) O O (Sl.nil w9 _ 1) (Sx (i:=512) wK.rd (by omega) (by omega)) (λc hc=>by obtain⟨z,-,rfl⟩:=List.mem_map.1 (List.mem_of_mem_drop hc);rfl) (by omega) (by omega)) ?_;rintro v10 w10 ⟨bz,ar,bc,-⟩;rw[List.nil_append,zam,Nat.zero_add,show T.length-512*k-512=T.length-512*(k+1) by omega] at bz;replace ar:Ext w9 w10:=ar.OV (λb e=>by cases e);have o5:∀b,v10.ownBlock=some b->w9.heap.size<=b:=λb e=>(bc b e).elim (λe=>by cases e) id;obtain⟨a10,c10,rfl,-⟩:=bz.rd.shape;have zU:=Bx.ext ar;have fM:=zU.cells;refine Pu O$ OX SZ O$ OW O (QQ Wg O O O fM (by simp)) ?_;rintro w11 ⟨bA,bu⟩;have Fy:=zU.re bu (show OR w11 wb (swC Q.s st len (.slice a10 (T.length-512*(k+1)) c10) (k+1) T.length sum3 (z1F bs bx bw) false) 200 from bA);have kH:Sp Q (ZC txt1 ((st+k:Nat):Int) (some ((T.drop (512*k)).take 512))) (K+k+1) (λb=>X b\/(Value.slice a10 (T.length-512*(k+1)) c10).ownBlock=some b) w11:=(vU.ext ar (λb e=>e.elim (λe=> .inl (.inl e)) (λe=> .inr (o5 b e)))).own bu (λb e=> .inl (by rw[e];exact aU.1));have sN:=bz.kp bu (λb hb e=>by have:=o5 b hb;omega);refine OD$ OA ((ih (k+1) w11 ⟨by omega,_,_,kH,Fy,sN,λj hj=>?_,λy hy=>?_,?_,λb hb=>by have:=o5 b hb;omega⟩ (by omega)).qb)
   ·by_cases e:j=k
    ·subst e;exact Sa _ _ _
    ·rw[RD _ _ (by omega)];exact iY j (by omega)
   ·rw[RD _ _ (by omega)];exact IJ y (by omega)
   ·refine(aR.An uo λb e=>?_).trans (ar.kp.trans (bu.OV λb e=> .inr e));rcases e with e| e
    ·by_cases hb:X b
     ·exact absurd (.inl hb) e
     ·exact .inr (.inl hb)
    ·exact .inr (.inr e)
  ·have Fz:k=T.length / 512:=by omega
   subst Fz;refine ON O$ QB O$ OB func69 O ?_;exact⟨_,rfl,rfl,sum3,rV,txt1,_,mI,xt,eV,iY,IJ,aR,kR⟩
end
section
variable {w w':World}{Q:Rn}{txt:Int->OG}{K:Nat}{X:Nat->Prop}{st len wb bs bx bw n sum:Nat}{rest:Value}{T:OG}
def XA (n sum:Nat):OG:=Th 8 n++Th 4 sum
def z3R (n sum:Nat):(XA n sum).length=12:=by simp[XA,Px]
theorem z5b (hP:Sp Q txt K (λb=>X b\/rest.ownBlock=some b) w)(hX:∀b,X b->b<w.heap.size)(hK:K<=200000000000)(h:SwM Q.s st len wb bs bx bw rest (T.length / 512) T.length sum w)(gj:sum<4294967296)(aU:X wb/\X bs/\X bx/\X bw)(cd:st+len<=Q.L.length)(az:len=(T.length+523) / 512)
  (hS:Sl w rest 5 1 (T.length%512) ((T.drop (512*(T.length / 512))).map S8)) (bT:∀b,rest.ownBlock=some b->¬X b) (iY:∀j,j<T.length / 512->txt ((st+j:Nat):Int)=(T.drop (512*j)).take 512):
  Pm prog 70 [ptr wb 0] w λv w'=>v=I 0/\∃txt',Sp Q txt' (K+2) X w'/\(∀j,512*j<T.length->∃z,txt' ((st+j:Nat):Int)=(T.drop (512*j)).take 512++z)/\(∃z,txt' ((st+(len-1):Nat):Int)=z++XA T.length sum/\z.length=500)/\(∀y:Int,y<(st:Int)\/(st:Int)+(len:Int)<=y->txt' y=txt y)/\Kp (λb=>¬X b\/b=wb) w w':=by
 have eu:maxLen=9223372036854775807:=rfl
 have dW:=hP.n
 obtain⟨a0,c0,rfl,-⟩:=hS.rd.shape
 have hB:=h.cells
 have Mc:∀b,(Value.slice a0 (T.length%512) c0).ownBlock=some b->b<w.heap.size:=λb hb=>hS.lt hb
 have hg:=Ext.OT w
 refine py (e:=[(0,_)]) func70 O ntmps70 O O$ QB O$ PG O$ P4 zf2 O (YR h.wr) ?_
 rintro _ w ⟨rfl,rfl⟩
 refine Qt O$ Qf O$ PW O$ Pf O$ Pu O$ OX WZ O$ OX US O$ qV (OO XF O O hB O)$ P4 z5P O (hP.size) ?_
 rintro _ w ⟨rfl,rfl⟩
 refine OU O$ It$ It$ PI (λe' w'=>∃q,e'=[(0,ptr wb 0),(4,I 512),(38,.bool q)]/\(q=true↔T.length / 512<len-1)/\Ext w w') ?dv$ λdv=>?ff
 case dv=>
  rintro e' w1 ⟨q,rfl,hq,ad⟩;have j3:=hP.ext' ad;have h1:=h.ext ad;have jJ:=hS.ext ad;have aj:=h1.cells;have mz:=ad.size;refine PI (λe' w'=>e'=[(0,ptr wb 0),(4,I 512)]/\∃txt1 rest1 at1 l,Sp Q txt1 (K+1) (λb=>X b\/rest1.ownBlock=some b) w'/\SwM Q.s st len wb bs bx bw rest1 at1 T.length sum w'/\Sl w' rest1 5 1 l.length (l.map S8)/\l.length<=500/\(∀b,rest1.ownBlock=some b->¬X b)/\l=T.drop (512*(len-1))/\(∀j,j<len-1->512*j<T.length->∃z,txt1 ((st+j:Nat):Int)=(T.drop (512*j)).take 512++z)/\(∀y:Int,y<(st:Int)\/(st:Int)+(len:Int)<=y->txt1 y=txt y)/\Kp (λb=>¬X b\/b=wb) w w') ?aw$ λaw=>?dz
  case aw=>
   rintro e' w2 ⟨rfl,txt1,rest1,at1,l,dQ,h2,cH,I5,fY,hl,FA,FB,aq⟩;obtain⟨a2,c2,rfl,-⟩:=cH.rd.shape;have am:=h2.cells;have aa:=Ext.OT w2;have mS:=aq.size;refine It$ R5 (λw'=>Kp (λb=>(Value.slice a2 l.length c2).ownBlock=some b) w2 w') O$ OZ 0 O O (aa.kp)$ OI 1 O (Q4 O) (aa.kp)$ OI 2 O (Pp SZ O) (aa.kp)$ qT 3 O (λ_ h=>OO Q5 O O (h.OC am (λe=>fY _ e aU.1)) O) (aa.kp)$ OZ 4 O O (aa.kp)$ OI 5 O (XH O O (by omega)) (aa.kp)$ OZ 6 O O (aa.kp)$ OI 7 O (Q4 O) (aa.kp)$ OI 8 O (Pp SZ O) (aa.kp)$ qT 9 O (λ_ h=>OO Q5 O O (h.OC am (λe=>fY _ e aU.1)) O) (aa.kp)$ OI 10 O (SF Q5 O) (aa.kp)$ OI 11 O (XH O O (by omega)) (aa.kp) ?_;rw[show(512:Int)-12-(l.length:Int)=((500-l.length:Nat):Int) by omega];refine qO 12$ RZ (i:=12) O O O (zgT Q5 U3 U9 VK O O (cH.ext aa) (by omega)) ?_;rintro v3 w3 ⟨cy,av,nw⟩;refine⟨aa.kp.trans av,?_⟩;have zV:l.length+(500-l.length)=500:=by omega
   rw[zV,<-List.map_append] at cy;obtain⟨a3,c3,rfl,-⟩:=cy.rd.shape;have cU:=aa.kp.trans av
   have f7:∀b,(Value.slice a3 500 c3).ownBlock=some b->¬X b:=λb hb e=>by
    rcases nw b hb with e2|e2
    ·exact fY b e2 e
    ·have:=hX b e;have:=aa.size;omega
   have fJ:Sp Q txt1 (K+1) (λb=>X b\/(Value.slice a3 500 c3).ownBlock=some b) w3:=dQ.step cU (λb e=> .inr e) (λb e=>e.elim (λe=> .inl (.inl e)) (λe=>(nw b e).imp .inr (λe=>by have:=aa.size;omega)));have h3:=h2.kp cU (λe=>fY _ e aU.1) (λe=>fY _ e aU.2.1) (λe=>fY _ e aU.2.2.1) (λe=>fY _ e aU.2.2.2);have au:=h3.cells;have cu:Kp (λb=>¬X b\/b=wb) w w3:=aq.An cU (λb e=> .inr (.inl (fY b e)));refine OI 13 O (R7 O) (aa.kp.trans av)$ qE$ Qm O$ Pu O$ OX WZ O$ OX Ui O$ OX Ra O$ qV (OO U3 O O au O)$ Ro O$ Pu O$ OX Z0 O ?_;rw[show(len:Int)-1=((len-1:Nat):Int) by omega];refine OW O (QQ Q7 O O O au (by simp)) ?_;rintro w4 ⟨aK,ao⟩;have h4:=h3.re ao (show OR w4 wb (swC Q.s st len (.slice a2 l.length c2) (len-1) T.length sum (z1F bs bx bw) false) 200 from aK);have ii:=fJ.own ao (λb e=> .inl (by rw[e];exact aU.1));have dO:=cy.kp ao (λb hb e=>f7 b hb (by rw[e];exact aU.1));have fw:=h4.cells;have ag:=Ext.OT w4;have fx:=cu.trans (ao.OV λb e=>Or.inr e);have gV:=Px 8 T.length;have fC:=Px 4 sum;have qs:(l++zeros (500-l.length)).length=500:=by rw[List.length_append,show(zeros (500-l.length)).length=500-l.length by simp[zeros]];omega
   rw[List.length_append] at qs;refine OD$ Pn.qb (e:=[(0,_),(6,_)]) ?_;refine It$ P7 [20,21] (λw'=>Ext w4 w') (by kernel_rfl) O$ PL 0 O O (ag)$ P9 1 O (Q4 O) ag$ P9 2 O (Pp z0s O) ag$ qL 3 O (λ_ h=>OO U60 O O (h.OC fw) O) ag$ PL 4 O O (ag)$ PL 6 O O (ag)$ P9 7 O (Q4 O) ag$ P9 8 O (Pp z0y O) ag$ qL 9 O (λ_ h=>OO U3 O O (h.OC fw) O) ag$ P9 10 O ((PZ O U3 Rr (by omega))) ag$ PL 13 O O (ag)$ P9 14 O (Q4 O) ag ?_;refine P9 15 O (Pp z3X O) ag$ qL 16 O (λ_ h=>OO Py O O (h.OC fw) O) ag$ P9 17 O (PZ O Py Rr (by omega)) ag$ qL 5 O (λ_ h=>zgl (l:=l++zeros (500-l.length)) Q5 U5 U9 O (by rw[List.length_append,qs];exact dO.rd.ext h) (by rw[List.length_append];omega)) ag ?_;refine QY (i:=11) (by kernel_rfl)$ Rx (i:=11) O O O (yc zeG O) (ZS T.length 8 _ (by omega) (by omega)) ?_;rintro _ w5 ⟨rfl,aT⟩;refine⟨ag.trans aT,?_⟩;refine P9 12 O (V7 O O (by first|omega|(simp;done)|(simp;omega))) (ag.trans aT) ?_;refine QY (i:=18) (by kernel_rfl)$ Rx (i:=18) O O O (yc zeG O) (ZS sum 4 _ (by omega) (by omega)) ?_;rintro _ w6 ⟨rfl,aI⟩;refine⟨(ag.trans aT).trans aI,?_⟩;have cQ:=(ag.trans aT).trans aI
   have o6:∀b,(X b\/(Value.slice a3 500 c3).ownBlock=some b)->b<w6.heap.size:=λb hb=>by
    have:=cQ.size;have:=ao.size;have:=cU.size;rcases hb with e| e
    ·have:=hX b e;omega
    ·have:=cy.lt e;omega
   refine P9 19 O (V7 O O (by first|omega|(simp;done)|(simp;omega))) ((ag.trans aT).trans aI) ?_;refine SM [20] ?_;have jG:(l++zeros (500-l.length)++Th 8 T.length++Th 4 sum).length=512:=by rw[List.length_append,List.length_append,List.length_append,qs,Px,Px]
   refine qO 20$ Wa (i:=20) O O O (RY zba O O) (ZK (ii.ext' cQ) o6 (by omega) (h4.ext cQ) ⟨.inl aU.1,.inl aU.2.1,.inl aU.2.2.1,.inl aU.2.2.2⟩ (by omega) _ jG) ?_;rintro _ w7 ⟨rfl,rW,h7,aC⟩;refine⟨trivial,?_⟩;have bP:=h7.cells;refine OI 21 O (R7 O) trivial$ qE$ Pf O$ Pu O$ OX YP O$ OW O (QQ W3 O O O bP (by simp)) ?_;rintro w8 ⟨ce,aR⟩;have mI:=(rW.own aR (λb e=> .inl (by rw[e];exact aU.1))).less (Y:=X) (λb e=> .inl e);refine OD$ Pn.qb (e:=[(7,_)]) ?_;refine Pf O$ OU O$ OB func70 O (⟨_,rfl,rfl,_,mI,λj hj=>?_,⟨l++zeros (500-l.length),?_,by rw[List.length_append,qs]⟩,λy hy=>?_,?_⟩)
   ·by_cases e:j=len-1
    ·subst e;refine⟨zeros (500-l.length)++Th 8 T.length++Th 4 sum,?_⟩;rw[Sa];show l++_++_++_=_;rw[<-hl,List.take_of_length_le (by omega)];simp only[List.append_assoc]
    ·obtain⟨z,hz⟩:=FA j (by omega) hj;exact⟨z,by rw[RD _ _ (by omega)];exact hz⟩
   ·rw[Sa];show _++_++_=_;unfold XA;simp only[List.append_assoc]
   ·rw[RD _ _ (by omega)];exact FB y hy
   ·refine((fx.trans cQ.kp).An aC λb e=>?_).trans (aR.OV λb e=> .inr e);rcases e with e| e
    ·by_cases hb:X b
     ·exact absurd (.inl hb) e
     ·exact .inr (.inl hb)
    ·exact .inr (.inr e)
  case dz=>
   refine Qe O (λfF=>?_)$ λfF=>?_
   ·have yf:=hq.1 fF;have hr:500<T.length%512/\T.length / 512=len-2/\2<=len:=by omega
    have aG:=Ext.OT w1;refine It$ It$ P7 [17,18] (λw'=>Kp (λb=>(Value.slice a0 (T.length%512) c0).ownBlock=some b) w1 w') (by kernel_rfl) O$ PL 0 O O (aG.kp)$ P9 1 O (Q4 O) (aG.kp)$ P9 2 O (Pp z0s O) (aG.kp)$ qL 3 O (λ_ h=>OO U60 O O (h.OC aj (λe=>bT _ e aU.1)) O) (aG.kp)$ PL 4 O O (aG.kp)$ P9 5 O (Q4 O) (aG.kp)$ P9 6 O (Pp SZ O) (aG.kp)$ qL 7 O (λ_ h=>OO Q5 O O (h.OC aj (λe=>bT _ e aU.1)) O) (aG.kp)$ PL 8 O O (aG.kp)$ PL 9 O O (aG.kp)$ P9 10 O (Q4 O) (aG.kp) ?_;refine P9 11 O (Pp SZ O) (aG.kp)$ qL 12 O (λ_ h=>OO Q5 O O (h.OC aj (λe=>bT _ e aU.1)) O) (aG.kp)$ P9 13 O (SF Q5 O) (aG.kp)$ P9 14 O (XH O O (by omega)) (aG.kp) ?_;rw[show(512:Int)-((T.length%512:Nat):Int)=((512-T.length%512:Nat):Int) by omega];refine QY (i:=15) (by kernel_rfl)$ Ql (i:=15) O O O (zgT Q5 U3 U9 VK O O (jJ.ext aG) (by omega)) ?_;rintro v2 w2 ⟨cH,aq,oD⟩;refine⟨aG.kp.trans aq,?_⟩;rw[show T.length%512+(512-T.length%512)=512 by omega,<-List.map_append] at cH;have qs:(T.drop (512*(T.length / 512))++zeros (512-T.length%512)).length=512:=by rw[List.length_append,List.length_drop,show(zeros (512-T.length%512)).length=512-T.length%512 by simp[zeros]];omega
    refine QY (i:=16) (by kernel_rfl)$ zfo (i:=16) O O O (zgl (l:=T.drop (512*(T.length / 512))++zeros (512-T.length%512)) Q5 U5 U9 O (by rw[qs];exact cH.rd) (by omega)) (aG.kp.trans aq) ?_;have bh:=aG.kp.trans aq;have dQ:Sp Q txt K X w2:=j3.step bh (λb e=> .inr e) (λb e=> .inl (.inl e));have h2:=h1.kp bh (λe=>bT _ e aU.1) (λe=>bT _ e aU.2.1) (λe=>bT _ e aU.2.2.1) (λe=>bT _ e aU.2.2.2);have mS:=bh.size;refine SM [17]$ qO 17$ Wa (i:=17) O O O (RY zba O O) (ZK dQ (λb hb=>by have:=hX b hb;omega) (by omega) h2 aU (by omega) _ qs) ?_;rintro _ w3 ⟨rfl,fJ,h3,av⟩;refine⟨trivial,?_⟩;have au:=h3.cells;refine OI 18 O (R7 O) trivial$ qE$ Pf O$ Qf O$ PW O$ Rh O$ Pu O$ OX SZ O$ OW O (QQ Wg O O O au (by simp)) ?_;rintro w4 ⟨aK,ao⟩;have h4:=h3.re ao (show OR w4 wb (swC Q.s st len (.slice none 0 0) (T.length / 512+1) T.length sum (z1F bs bx bw) false) 200 from aK);have ii:=fJ.own ao (λb e=>by rw[e];exact aU.1);have jz:(T.drop (512*(T.length / 512))).take 512=T.drop (512*(T.length / 512)):=List.take_of_length_le (by rw[List.length_drop];omega);refine OD$ Pn.qb (e:=[(0,_),(4,_)]) ?_;refine(aw _ _ ⟨rfl,_,.slice none 0 0,_,[],ii.less (λb e=>e.elim id (λe=>by cases e)),h4,Sl.nil w4 _ 1,Nat.zero_le _,(λb e=>by cases e),(List.drop_of_length_le (by omega)).symm,λj hj kT=>?_,λy hy=>?_,?_⟩).qb
    ·by_cases e:j=T.length / 512
     ·subst e;exact⟨zeros (512-T.length%512),by rw[Sa,jz];rfl⟩
     ·exact⟨[],by rw[RD _ _ (by omega),List.append_nil];exact iY j (by omega)⟩
    ·rw[RD _ _ (by omega)]
    ·refine((ad.kp.An bh λb e=> .inr (.inl (bT b e))).trans av).trans (ao.OV λb e=> .inr e)
   ·have yf:¬T.length / 512<len-1:=λe=>by rw[hq.2 e] at fF;cases fF
    have Md:T.length / 512=len-1:=by omega
    have fS:(T.drop (512*(T.length / 512))).length=T.length%512:=by rw[List.length_drop];omega
    refine OE ((aw _ _ ⟨rfl,txt,.slice a0 (T.length%512) c0,T.length / 512,T.drop (512*(T.length / 512)),j3.more (by omega),h1,by rw[fS];exact jJ,by omega,bT,by rw[Md],λj hj kT=>⟨[],by rw[List.append_nil];exact iY j (by omega)⟩,λy hy=>rfl,ad.kp⟩).qb)
 case ff=>
  refine R5 (λw'=>Ext w w') O$ OZ 0 O O (hg)$ OI 1 O (Q4 O) hg$ OI 2 O (Pp Z0 O) hg$ qT 3 O (λ_ h=>OO U3 O O (h.OC hB) O) hg$ OZ 4 O O (hg)$ OI 5 O (Q4 O) hg$ OI 6 O (Pp WZ O) hg$ OI 7 O (Pp Ui O) hg$ OI 8 O (Pp Ra O) hg$ qT 9 O (λ_ h=>OO U3 O O (h.OC hB) O) hg$ OI 10 O (XH O O (by omega)) hg ?_;rw[show(len:Int)-1=((len-1:Nat):Int) by omega];rcases Nat.lt_or_ge (T.length / 512) (len-1) with hq|hq
  ·refine OI 11 O (ylt O O) hg$ TT$ OZ 12 O O (hg)$ OZ 13 O O (hg)$ OI 14 O (Q4 O) hg$ OI 15 O (Pp SZ O) hg$ qT 16 O (λ_ h=>OO Q5 O O (h.OC hB) O) hg$ OI 17 O (SF Q5 O) hg$ OI 18 O (Xw O O) hg$ TT$ OI 19 O (UJ O O) hg$ qE$ Pn.qb (e:=[(0,_),(2,_),(4,_),(38,_)]) ?_;exact(dv _ _ ⟨true,rfl,⟨λ_=>hq,λ_=>rfl⟩,hg⟩).qb
  ·refine OI 11 O (ylt O O) hg$ Uc$ OZ 12 O O (hg)$ qJ 13 O (hg)$ qJ 14 O (hg)$ qJ 15 O (hg)$ qJ 16 O (hg)$ qJ 17 O (hg)$ qJ 18 O (hg)$ OI 19 O (Ub O O) hg$ qE$ Pn.qb (e:=[(0,_),(2,_),(4,_),(38,_)]) ?_;exact(dv _ _ ⟨false,rfl,⟨λe=>(by cases e),λe=>by omega⟩,hg⟩).qb
end
open Go.Shelf
def BdM (w:World)(b:Nat)(l:OG)(v:Value):Prop:=(∃p,(p= .pointer none\/p=ptr b 0)/\OR w b [p,v] 175)/\Sl w v 5 1 l.length (l.map S8)/\v.ownBlock≠some b
section
variable {w w':World}{b:Nat}{l s:OG}{v:Value}{S':Nat->Prop}
def BdM.kp (h:BdM w b l v)(hk:Kp S' w w')(h1:¬S' b)(h2:∀g,v.ownBlock=some g->¬S' g):BdM w' b l v:=by
 obtain⟨⟨p,hp,hB⟩,hS,hn⟩:=h
 exact⟨⟨p,hp,hk.OC hB h1⟩,hS.kp hk h2,hn⟩
def BdM.new (h:OR w b [.pointer none,.slice none 0 0] 175):BdM w b [] (.slice none 0 0):=⟨⟨_,.inl O,h⟩,Sl.nil w _ 1,λe=>by cases e⟩
def OR.shape {cs:List Value}{T:TypeId}(h:OR w b cs T):w.shape? b=some (T,cs.length):=by
 obtain⟨fz,hb,-⟩:=h
 simp[World.shape?,hb]
def zaP (h:BdM w b l v):Pm prog 128 [ptr b 0] w λr w'=>r= .tuple #[]/\BdM w' b l v/\Kp (λk=>k=b) w w':=by
 obtain⟨⟨p,hp,hB⟩,hS,hn⟩:=h
 rcases hp with rfl|rfl
 ·refine Calls.mono (Any.Builder_copyCheck_fresh {zfS with} zg0.toX72 b w (hB.cell 0) hB.shape (hB.free (i:=0) (by simp))) λ_ _ ⟨he,hw⟩=>⟨_,he,rfl,?_,?_⟩
  ·rw[hw];have hk:=TC w b 0 (ptr b 0);exact⟨⟨_,.inr O,Wo hB 0 (ptr b 0)⟩,hS.kp hk (λg hg e=>hn (e▸hg)),hn⟩
  ·rw[hw];exact TC w b 0 _
 ·exact Calls.mono (Any.Builder_copyCheck_used {zfS with} zg0.toX72 b w (hB.cell 0)) λ_ _ ⟨he,hw⟩=>⟨_,he,rfl,by rw[hw];exact⟨⟨_,.inr O,hB⟩,hS,hn⟩,by rw[hw];exact Kp.refl _ _⟩
def z4O (h:BdM w b l v)(s:OG)(hl:l.length+s.length<=140737488355328):Pm prog 86 [ptr b 0,S s] w λ_ w'=>∃v',BdM w' b (l++s) v'/\Kp (λk=>k=b\/v.ownBlock=some k) w w'/\(∀g,v'.ownBlock=some g->v.ownBlock=some g\/w.heap.size<=g):=by
 refine py (e:=[(0,_),(1,_)]) func86 O ntmps86 O O$ qN O$ RT O$ Qt O$ P4 zjm O (zaP h) ?_
 rintro _ w1 ⟨rfl,⟨⟨p,hp,aj⟩,jJ,cX⟩,aL⟩
 have mz:=aL.size
 have l1:=aj.lt
 refine qM O$ P8 O$ Pu O$ OX z0B O$ qV (OO Q5 O O aj O)$ OK O$ OM O O (zhj Q5 U9 VK O O jJ hl) ?_
 rintro v2 w2 ⟨cH,aq,qk⟩
 have am:=aq.OC aj cX
 have mS:=aq.size
 have iu:v2.ownBlock≠some b:=λe=>by
  rcases qk b e with e| e
  ·exact cX e
  ·omega
 refine Pu O$ OX z0B O$ OW O (QQ Wg O O (Xs cH) am (by simp)) ?_
 rintro w3 ⟨au,av⟩
 refine qM O$ OK O$ qV (SV U9 O)$ PU O$ OB func86 O ?_
 rw[<-List.length_append,<-List.map_append] at cH
 refine⟨_,rfl,v2,⟨⟨p,hp,au⟩,cH.kp av (λg hg e=>iu (e▸hg)),iu⟩,((aL.OV λk e=> .inl e).trans (aq.OV λk e=> .inr e)).trans (av.OV λk e=> .inl e),λg hg=>(qk g hg).imp id λe=>by omega⟩
def zah (w:World)(a:Addr)(n:Nat):Kp (λk=>k=a.block) w (w.freeze a n):=by
 by_cases h0:n=0
 ·subst h0;rw[show w.freeze a 0=w by simp[World.freeze]];exact Kp.refl _ w
 ·unfold World.freeze;rw[if_neg h0]
  exact⟨rfl,rfl,rfl,by simp,λk _ hn=>by
   simp only[Array.getElem?_modify]
   rw[if_neg (λh=>hn h.symm)]⟩
section
variable {P:Program}{e:Env}{d:Option Nat}{ty t it el:TypeId}{pos:String}{aft:Array Edge}{g:Option (Nat×Bool)}{x y:Operand}{n c:Nat}{a:Option Addr}
def zkA (hx:look e x=some (.slice a n c))(hc:a≠none->c≠0):Y P e ⟨d,.call ⟨.builtin .unsafeSliceData,#[x],#[t]⟩,ty,pos,aft,g⟩ (.pointer a) w w:=fun ρ hρ=>by
 have hr:∀w,(Builtin.unsafeSliceData_ #[t] ty #[.slice a n c]).run P w= .ok (.pointer a) w:=λw=>by
  cases a with
  |none=>rfl
  |some a=>exact Lib.run_unsafeSliceData_row (P:=P) w #[t] ty a n c (hc (by simp))
 simp[execOp,resolve,invoke,builtin,hρ _ _ hx,hr]
theorem zkJ (hp:P.underlying t=some (.pointer el))(hc:P.cellsOf el=1)(hx:look e x=some (.pointer a))(hy:look e y=some (I (l.length:Int)))(hS:Sl w (.slice a l.length c) el 1 l.length (l.map S8))(Fs:l.length<=9223372036854775807)(h0:l=[]\/∃g,a=some ⟨g,0,none⟩):
  Yp P e ⟨d,.call ⟨.builtin .unsafeString,#[x,y],#[t,it]⟩,ty,pos,aft,g⟩ w λr w'=>r=S l/\Kp (λk=>(Value.slice a l.length c).ownBlock=some k) w w':=by
 by_cases hl:l=[]
 ·subst hl;have hr:=Lib.run_unsafeString_none (P:=P) w t it ty a;refine⟨_,w,fun ρ hρ=>?_,rfl,Kp.refl _ _⟩;have h1:=hρ _ _ hx;have h2:ρ y= .int .i64 0:=hρ _ _ hy;simp[execOp,resolve,invoke,builtin,h1,h2,hr]
  rfl
 ·obtain⟨b,rfl⟩:=h0.resolve_left hl;obtain⟨cur,gT,jy,lJ,az,jO⟩:=hS.row;have aW:=World.ownsRow.cells hS (g:=b) O;simp only[Nat.mul_one] at az jO
  have hr:=Lib.run_unsafeString_row (P:=P) w t it ty el hp hc b cur.length (by unfold UQ at gT;simp[World.shape?,gT]) l hl (by omega) Fs (λj x hj=>by
   have:=aW j (S8 x) (by rw[List.getElem?_map,hj];rfl)
   exact this)
  refine⟨_,_,fun ρ hρ=>?_,rfl,(zah w ⟨b,0,none⟩ l.length).OV λk e=>by rw[show k=b from e];rfl⟩;simp[execOp,resolve,invoke,builtin,hρ _ _ hx,hρ _ _ hy,hr]
end
def z2J (h:BdM w b l v)(h0:l=[]->v= .slice none 0 0)(hl:l.length<=140737488355328):Pm prog 87 [ptr b 0] w λr w'=>r=S l/\Kp (λk=>v.ownBlock=some k) w w':=by
 obtain⟨⟨p,hp,hB⟩,hS,hn⟩:=h
 obtain⟨a,c,rfl,ha⟩:=hS.rd.shape
 have hg:=Ext.OT w
 have Bp:l=[]\/∃g,a=some ⟨g,0,none⟩:=by
  rcases hS.shape with⟨e,h1⟩|⟨g,cap,e,h1⟩
  ·exact .inl (List.eq_nil_of_length_eq_zero h1)
  ·cases e;exact .inr ⟨g,rfl⟩
 have qX:a≠none->c≠0:=λe=>by
  by_cases sV:l=[]
  ·have:=h0 sV
   injection this with e1 _ _
   exact absurd e1 e
  ·have rQ:l.length≠0:=by simpa using sV
   rcases hS.shape with⟨_,h1⟩|⟨g,cap,e2,h1⟩
   ·omega
   ·cases e2;omega
 refine py (e:=[(0,_)]) func87 O ntmps87 O O$ QB O$ It$ P7 [10,11] (λw'=>Ext w w') (by kernel_rfl) O$ PL 0 O O (hg)$ P9 1 O (Q4 O) hg$ P9 2 O (Pp z0B O) hg$ qL 3 O (λ_ h=>OO Q5 O O (h.OC hB) O) hg$ PL 5 O O (hg)$ P9 6 O (Q4 O) hg$ P9 7 O (Pp z0B O) hg$ qL 8 O (λ_ h=>OO Q5 O O (h.OC hB) O) hg$ P9 9 O (SF Q5 O) hg$ P9 4 O (zkA O qX) hg ?_
 refine SM [10]$ qO 10$ RZ (i:=10) O O O (zkJ zlq (by kernel_rfl) O O (hS.ext hg) (by omega) Bp) ?_
 rintro _ w1 ⟨rfl,aL⟩
 refine⟨trivial,?_⟩
 refine OI 11 O (R7 O) trivial$ qE$ OB func87 O ?_
 exact⟨_,rfl,rfl,hg.kp.trans aL⟩
end
def srC (s st len n sum:Nat):List Value:=[ptr s 0,I (st:Int),I (len:Int),I (n:Int),U sum]
section
variable {w w':World}{Q:Rn}{txt:Int->OG}{K:Nat}{X:Nat->Prop}{st len n sum rb:Nat}{T:OG}
def z7e (hP:Sp Q txt K X w)(hX:∀b,X b->b<w.heap.size)(hK:K<1000000000000)(h1:1<=len)(cd:st+len<=Q.L.length)(hn:n<=len*512-12)(gj:sum<4294967296)(hf:∃z,txt ((st+(len-1):Nat):Int)=z++XA n sum/\z.length=500):
  Pm prog 71 [ptr Q.s 0,.agg #[I (st:Int),I (len:Int)]] w λv w'=>∃rb,v= .tuple #[ptr rb 0,I 0]/\OR w' rb (srC Q.s st len n sum) 205/\w.heap.size<=rb/\Sp Q txt K (λb=>X b\/b=rb) w'/\Kp (λb=>¬X b) w w':=by
 have dW:=hP.n
 obtain⟨z,hz,rt⟩:=hf
 have jG:=z3R n sum
 refine py (e:=[(0,_),(1,_)]) func71 O ntmps71 O O$ qN O$ OM O O (Rm O (cs:=[I (st:Int),I (len:Int)]) O) ?_
 rintro _ w1 ⟨bx,rfl,fA,ad,j0⟩
 refine RT O$ Qt O$ qV (Pt (news:=[I (st:Int),I (len:Int)]) Xu O R6 O (j0.cells (n:=2) O) O)$ qV (Sk (cs:=[_,_,_]) XI O zeW O O)$ qV (Sk (cs:=[_,_,_,_,_]) zjZ O zgQ O O)$ OM O O (Rm O (cs:=[ptr Q.s 0,I (st:Int),I (len:Int),I 0,U 0]) O) ?_
 rintro _ w2 ⟨rb,rfl,HW,ae,am⟩
 have aJ:=ad.trans ae
 have FC:=ae.OC j0
 have z1:=ad.size
 have z2:=ae.size
 have dQ:Sp Q txt K (λb=>X b\/b=rb) w2:=hP.ext aJ (λb e=>e.imp id λe=>by omega)
 refine OU O$ PG O$ Pu O$ OX Z7 O$ qV (Pt zd8 O XI O (OR.cells (n:=3) am (news:=[_,_,_]) O) O)$ P4 zeE O (z0l dQ h1 cd) ?_
 rintro _ w3 ⟨rfl,ai⟩
 have fJ:=dQ.ext' ai
 have au:=ai.OC am
 have zW:=ai.OC FC
 have z3:=ai.size
 have l2:=am.lt
 have dB:=fJ.read (λb hb=>by
  rcases hb with e| e
  ·have:=hX b e;omega
  ·omega) hK (no:=((st+(len-1):Nat):Int)) (by omega) (by omega)
 rw[hz] at dB
 refine Qt O$ Qf O$ PW O$ Pf O$ OX QX O$ qV (OO U3 O O zW O)$ OX Ra O$ qV (OO U3 O O zW O)$ PV O$ Ro O ?_
 rw[show(st:Int)+(len:Int)-1=((st+(len-1):Nat):Int) by omega]
 refine P4 zbP O (dB) ?_
 rintro _ w4 ⟨rfl,ii,ao⟩
 have aK:=ao.OC au (λe=>e (.inr O))
 refine OK O$ RA O$ PU O$ Pn.qb (e:=[(4,_),(5,_),(6,_),(8,_),(9,_)]) ?_
 refine PG O$ Qf O$ PW O$ Qm O$ qV (SV U9 O) ?_
 rw[show((z++XA n sum).length:Int)=512 by rw[List.length_append,jG,rt];rfl]
 refine Ro O ?_
 rw[show(512:Int)-12=((500:Nat):Int) by omega]
 refine qV (Yv (m:=500) U9 O O (by rw[List.length_append,jG,rt];omega)) ?_
 rw[show(z++XA n sum).drop 500=XA n sum from List.drop_left' rt]
 refine Qt O$ qV (YI (m:=8) U9 O O (by rw[jG];omega)) ?_
 rw[show(XA n sum).take 8=Th 8 n from List.take_left' (Px _ _)]
 have sw:Pv (P3 (Th 8 n))=n:=Xj (by omega)
 have FD:Pv (P3 (Th 4 sum))=sum:=Xj (by omega)
 have gV:=Px 8 n
 have fC:=Px 4 sum
 refine P4 zfp O (z2Y (Th 8 n) (by omega) _) ?_
 rintro _ w5 ⟨rfl,aT⟩
 rw[sw]
 have aH:=aT.OC aK
 have fO:=ii.ext' aT
 refine OU O$ It$ Qm O$ Pu O$ OX Z7 O$ qV (Pt zd8 O XI O (OR.cells (n:=3) aH (news:=[_,_,_]) O) O)$ P4 zes O (z1b fO (by omega)) ?_
 rintro _ w6 ⟨rfl,aI⟩
 have aQ:=aI.OC aH
 have j4:=fO.ext' aI
 refine qV ((PZ O U3 Rr (by omega)))$ Qu O$ PF$ OD$ Pn.qb (e:=[(4,_),(5,_),(6,_),(10,_),(11,_),(54,_)]) ?_
 refine Tu O$ Qm O$ OK O$ qV (PJ O Rr U3 (by omega))$ OK O$ qV (Yv (m:=8) U9 O O (by rw[jG];omega)) ?_
 rw[show(XA n sum).drop 8=Th 4 sum from List.drop_left' (Px _ _)]
 refine P4 zfp O (z2Y (Th 4 sum) (by omega) _) ?_
 rintro _ w7 ⟨rfl,bY⟩
 rw[FD]
 have bP:=bY.OC aQ
 refine qV (z0U O Rr Py)$ Pu O$ OX z0D O$ OW O (QQ Q7 O O O bP (by simp)) ?_
 rintro w8 ⟨ce,aR⟩
 replace ce:OR w8 rb [ptr Q.s 0,I (st:Int),I (len:Int),I (n:Int),U 0] 205:=ce
 refine Pu O$ OX ze7 O ?_
 rw[Nat.mod_eq_of_lt (show sum<2^32 by omega)]
 refine OW O (QQ OP O O O ce (by simp)) ?_
 rintro w9 ⟨cI,aM⟩
 refine qM O$ OK O$ PU O$ OB func71 O ?_
 have vU:=(((j4.ext' bY).own aR (λb e=> .inr e)).own aM (λb e=> .inr e))
 refine⟨_,rfl,rb,rfl,cI,by omega,vU,?_⟩
 have FE:Kp (λb=>¬X b) w w4:=((aJ.trans ai).kp (S:=λb=>¬X b)).trans (ao.OV λb e e2=>e (.inl e2))
 refine(((FE.trans (aT.trans (aI.trans bY)).kp).An aR λb e=> .inl (by omega)).An aM λb e=> .inl (by omega))
def za5 (hB:OR w rb (srC Q.s st len n sum) 205):Pm prog 305 [ptr rb 0] w λv w'=>v=I (n:Int)/\w'=w:=by
 replace hB:OR w rb [ptr Q.s 0,I (st:Int),I (len:Int),I (n:Int),U sum] 205:=hB
 refine py (e:=[(0,_)]) func305 O ntmps305 O O$ QB O$ PG O$ qV (Qi zdz O O)$ PW O$ Pf O$ Pu O$ OX z0D O$ qV (OO U3 O O hB O)$ OU O$ OB func305 O ?_
 exact⟨_,rfl,rfl,rfl⟩
def zcK (hP:Sp Q txt K (λb=>X b\/b=rb) w)(hX:∀b,X b->b<w.heap.size)(uq:¬X rb)(hK:K<1000000000000)(cd:st+len<=Q.L.length)(hL:Laid txt st T)(hB:OR w rb (srC Q.s st len T.length sum) 205)(hT:T.length<=len*512)(off n:Nat)(ho:off+n<=T.length):
  Pm prog 306 [ptr rb 0,I (off:Int),I (n:Int)] w λv w'=>v= .tuple #[S ((T.drop off).take n),I 0]/\Sp Q txt K (λb=>X b\/b=rb) w'/\OR w' rb (srC Q.s st len T.length sum) 205/\Kp (λb=>¬X b) w w':=by
 have dW:=hP.n
 have lrb:=hB.lt
 replace hB:OR w rb [ptr Q.s 0,I (st:Int),I (len:Int),I (T.length:Int),U sum] 205:=hB
 refine py (e:=[(0,_),(1,_),(2,_)]) func306 O ntmps306 O O$ qN O$ PU O$ Qx$ Pf O$ qV (Qi zdz O O)$ OU O$ OJ O$ Pf O$ Qq O$ PF$ P8 O$ Qq O$ PF ?_
 refine PK O$ P8 O$ OK O$ Pu O$ OX z0D O$ qV (OO U3 O O hB O)$ Qu O$ PF$ PK O$ P8 O$ OK O$ Pu O$ OX z0D O$ qV (OO U3 O O hB O) ?_
 refine OK O$ Ro O$ Qu O$ PF$ PK O$ OU O$ Pn.qb (e:=[(0,_),(1,_),(2,_),(6,_),(7,_),(15,_)]) ?_
 refine Tu O$ OA$ Pf O$ Pu O$ OX Z7 O$ OX US O$ qV (OO XF O O hB O)$ P4 z5P O (hP.size) ?_
 rintro _ w ⟨rfl,rfl⟩
 refine Qw O$ OM O O (RN (cs:=[_,_]) zeT O) ?_
 rintro _ w1 ⟨bb,rfl,vz,ad,vQ⟩
 have ur:=BdM.new vQ
 have z1:=ad.size
 refine OD$ Qx$ Rq (α:=Nat×Value) ((0,Value.slice none 0 0)) (λy=>[(0,ptr rb 0),(1,I ((off+y.1:Nat):Int)),(2,I ((n-y.1:Nat):Int)),(8,I 512),(9,ptr bb 0)]) (λy w'=>y.1<=n/\BdM w' bb ((T.drop off).take y.1) y.2/\(y.1=0->y.2= .slice none 0 0)/\(∀g,y.2.ownBlock=some g->w.heap.size<=g)/\Sp Q txt K (λb=>(X b\/b=rb)\/b=bb\/y.2.ownBlock=some b) w'/\Kp (λb=>¬(X b\/b=rb)) w w') (λy=>n-y.1) ?hI ?hround
 case hI=>exact⟨Nat.zero_le _,ur,λ_=>rfl,λg hg=>(by cases hg),hP.ext ad (λb e=>e.imp id λe=>e.elim (λe=>by omega) (λe=>by cases e)),ad.kp⟩
 case hround=>
  rintro⟨m,v⟩ w2 ⟨hm,kE,IK,eg,dQ,aq⟩ ih;dsimp only at hm kE IK eg dQ ih⊢;have am:=aq.OC hB (λe=>e (.inr O));have hg:=Ext.OT w2;have z2:=aq.size;have lbb:bb<w2.heap.size:=by obtain⟨⟨p,hp,hb⟩,-,-⟩:=kE;exact hb.lt
  have lP:∀b,((X b\/b=rb)\/b=bb\/v.ownBlock=some b)->b<w2.heap.size:=λb hb=>by
   rcases hb with(e|e)|e| e
   ·have:=hX b e;omega
   ·omega
   ·omega
   ·exact kE.2.1.lt e
  try dsimp only
  refine PG O$ Qu O$ OD$ OQ O (λh0=>?_)$ λh0=>?_
  ·obtain⟨q,hq⟩:∃q,min (n-m) (512-(off+m)%512)=q:=⟨_,rfl⟩;have dm:=dQ.Zq (x:=((st+(off+m) / 512:Nat):Int)) (by omega) (by omega);have jA:=hL.piece (off:=off+m) (n:=q) (by omega) (by omega);have dB:=(dQ.ext' hg).read (λb hb=>by have:=lP b hb;have:=hg.size;omega) hK (no:=((st+(off+m) / 512:Nat):Int)) (by omega) (by omega);obtain⟨t,ht⟩:∃t,txt ((st+(off+m) / 512:Nat):Int)=t:=⟨_,rfl⟩;rw[ht] at dm jA dB;refine OE$ OH$ It$ R5 (λw'=>Kp (λb=>¬((X b\/b=rb)\/b=bb\/v.ownBlock=some b)) w2 w') O$ OZ 0 O O (hg.kp)$ OI 1 O (Q4 O) (hg.kp)$ OI 2 O (Pp Z7 O) (hg.kp)$ OI 3 O (Pp US O) (hg.kp)$ qT 4 O (λ_ hS=>OO XF O O (hS.OC am (λe=>e (.inl (.inr O)))) O) (hg.kp)$ OZ 5 O O (hg.kp)$ OI 6 O (Q4 O) (hg.kp)$ OI 7 O (Pp Z7 O) (hg.kp)$ OI 8 O (Pp Ui O) (hg.kp)$ OI 9 O (Pp QX O) (hg.kp) ?_;refine qT 10 O (λ_ hS=>OO U3 O O (hS.OC am (λe=>e (.inl (.inr O)))) O) (hg.kp)$ OZ 11 O O (hg.kp)$ OZ 12 O O (hg.kp)$ OI 13 O (VI O O (by omega)) (hg.kp)$ OI 14 O (Ud O O (by omega)) (hg.kp) ?_;rw[show(st:Int)+((off+m:Nat):Int) / 512=((st+(off+m) / 512:Nat):Int) by omega];refine SK 15 O zbP O (dB) ?_;rintro _ w3 ⟨rfl,fJ,av⟩;refine⟨hg.kp.trans av,?_⟩;have cU:=hg.kp.trans av;have ut:=kE.kp cU (λe=>e (.inr (.inl O))) (λg hg e=>e (.inr (.inr hg)));refine OZ 16 O O (hg.kp.trans av)$ OI 17 O (Rw O O) (hg.kp.trans av)$ OI 18 O (Rw O O) (hg.kp.trans av)$ OI 19 O (R7 O) (hg.kp.trans av)$ OI 20 O (R7 O) (hg.kp.trans av)$ qE$ PG O$ Qf O$ PW O$ Qm O$ OK O$ qV (yre O O (by omega)) ?_;rw[show((off+m:Nat):Int)%512=(((off+m)%512:Nat):Int) by omega];refine qV (Yv U9 O O (by omega))$ Qw O$ P8 O$ OK O$ qV (SV U9 O)$ qV (ymi O O) ?_;rw[show min ((n-m:Nat):Int) ((t.drop ((off+m)%512)).length:Int)=((q:Nat):Int) by rw[List.length_drop];omega];refine qV (YI (m:=q) U9 O O (by rw[List.length_drop];omega)) ?_;rw[jA];have DN:((T.drop (off+m)).take q).length=q:=by rw[List.length_take,List.length_drop];omega
   have gX:((T.drop off).take m).length<=m:=by rw[List.length_take];omega
   refine Qt O$ P4 ziO O (z4O ut ((T.drop (off+m)).take q) (by omega)) ?_;rintro _ w4 ⟨v4,qt,ao,pf⟩;have z3:=cU.size;refine qM O$ P8 O$ qV (SV U9 O) ?_;rw[DN];refine PV O$ OU O$ OL O$ P8 O$ qV (SV U9 O) ?_;rw[DN];refine Ro O$ OU O$ OA ?_;rw[show((off+m:Nat):Int)+(q:Int)=((off+(m+q):Nat):Int) by omega,show((n-m:Nat):Int)-(q:Int)=((n-(m+q):Nat):Int) by omega];refine(ih (m+q,v4) _ ⟨by dsimp only;omega,?_,λe=>by dsimp only at e;omega,λg hg=>(pf g hg).elim (eg g) (λe=>by omega),?_,?_⟩ (by dsimp only;omega)).qb
   ·dsimp only;rw[List.take_add,List.drop_drop];exact qt
   ·exact fJ.step ao (λb e=> .inr e) (λb e=>by
     rcases e with e|e| e
     ·exact .inl (.inl e)
     ·exact .inl (.inr (.inl e))
     ·exact(pf b e).imp (λe=> .inr (.inr e)) id)
   ·refine(aq.trans (cU.OV λb e e2=>e (.inl e2))).An ao λb e=> .inl ?_;rcases e with e| e
    ·omega
    ·exact eg b e
  ·have FF:m=n:=by omega
   subst FF;refine ON O$ qN O$ P4 zjv O (z2J kE (λe=>IK (by have:=congrArg List.length e;rw[List.length_take,List.length_drop,List.length_nil] at this;omega)) (by rw[List.length_take,List.length_drop];omega)) ?_;rintro _ w3 ⟨rfl,av⟩;refine PU O$ OB func306 O ?_;have cu:Kp (λb=>¬(X b\/b=rb)) w w3:=aq.An av (λb e=> .inl (eg b e));exact⟨_,rfl,rfl,dQ.step av (λb e=> .inr (.inr e)) (λb e=> .inl (.inl e)),cu.OC hB (λe=>e (.inr O)),cu.OV λb e e2=>e (.inl e2)⟩
end
section
variable {t:TypeId}{u:Value}{p:Qr}{g:List (List Nat)}{E:List (Nat×Nat)}{R:Src t u (XY p g E)}{k x:Nat}{X Y:Nat->Prop}{w w':World}
def z5X (k v:Nat)(w:World):Pm prog 160 [ptr k 0,I (v:Int)] w λr w'=>∃bk bi,r= .func (.func 195) #[] #[ptr bk 0,ptr bi 0]/\OR w' bk [ptr k 0] 30/\OR w' bi [I (v:Int)] 3/\w.heap.size<=bk/\w.heap.size<=bi/\Ext w w':=by
 refine py (e:=[(0,_),(1,_)]) func160 O ntmps160 O O$ qN O$ OM O O (Rm O (cs:=[ptr k 0]) O) ?_
 rintro _ w1 ⟨bk,rfl,gW,ad,vL⟩
 refine OM O O (Rm O (cs:=[I (v:Int)]) O) ?_
 rintro _ w2 ⟨bi,rfl,zX,ae,FG⟩
 refine Qw O$ qV (ymf (first:=[]) (caps:=[.tmp 2,.tmp 3]) O O)$ OU O$ OB func160 O ?_
 have:=ad.size
 exact⟨_,rfl,bk,bi,rfl,ae.OC vL,FG,by omega,by omega,ad.trans ae⟩
def z6V {l bk bi v:Nat}(jf:g.length<50)(hv:v<g.length)(h:UN R k x X w)(gW:OR w bk [ptr k 0] 30)(zX:OR w bi [I (v:Int)] 3)(Z:Nat->Prop)(hZ:∀j,Z j->X j)(J:(Nat->Prop)->Nat->World->Prop)(F:World->Prop)
  (h0:∀(Y:Nat->Prop) (w':World),(∀j,X j->Y j)->(∀j,Y j->X j\/w.heap.size<=j)->UN R k x Y w'->Kp (λj=>¬X j) w w'->J Y 0 w')
  (hround:∀(Y:Nat->Prop) (i s:Nat) (w':World),(∀j,X j->Y j)->(∀j,Y j->X j\/w.heap.size<=j)->(P5 g v)[i]? =some s->J Y i w'->z3x prog l [Pq s,I 0] w' λr w''=>(r= .bool true/\J Y (i+1) w''/\Kp (λj=>¬Y j\/Z j) w' w'')\/(r= .bool false/\F w'')):
  Pm prog 195 [.func (.yield l) #[] #[],ptr bk 0,ptr bi 0] w λr w'=>r= .tuple #[]/\((∃Y,(∀j,X j->Y j)/\(∀j,Y j->X j\/w.heap.size<=j)/\J Y (P5 g v).length w')\/F w'):=by
 have aZ:=h.lt
 have fG:(P5 g v).length<=g.length:=by
  unfold P5;rw[List.getElem?_eq_getElem hv];exact h.ok.gr.len (List.getElem_mem hv)
 refine py (e:=[(0,_),(1,_),(2,_)]) func195 O ntmps195 O O$ qN O$ qV ((OO U30 O O gW O))$ qV ((OO U3 O O zX O))$ P4 zhr O (z6f jf hv h) ?_
 rintro _ w1 ⟨vv,rfl,jJ,fX,h1,aL⟩
 have dB:=jJ.rd
 obtain⟨a,c,rfl,ha⟩:=dB.shape
 refine OK O$ qV (Rw (v:= .slice a (P5 g v).length c) O O)$ qV (Rw (v:=I 0) O O)$ PU O$ PG O$ Qf O$ PW O$ Pf O$ Rv Ps O$ OK O$ OD$ OH ?_
 obtain⟨Y,hY⟩:∃Y:Nat->Prop,(λj=>X j\/(Value.slice a (P5 g v).length c).ownBlock=some j)=Y:=⟨_,rfl⟩
 rw[hY] at h1
 have cL:∀j,X j->Y j:=λj hj=>by rw[<-hY];exact .inl hj
 have vV:∀j,Y j->X j\/w.heap.size<=j:=λj hj=>by
  rw[<-hY] at hj;exact hj.imp id (fX j)
 have IL:∀j,(Value.slice a (P5 g v).length c).ownBlock=some j->Y j/\¬Z j:=λj hj=>⟨by rw[<-hY];exact .inr hj,λe=>by have h2:=fX j hj;have h3:=aZ j (hZ j e);omega⟩
 refine Rq (α:=Nat) (0) (λi=>[(0,.func (.yield l) #[] #[]),(19,.slice a (P5 g v).length c),(20,I ((P5 g v).length:Int)),(21,I (i:Int))]) (λi w'=>i<=(P5 g v).length/\J Y i w'/\Rd w' (.slice a (P5 g v).length c) 1 (P5 g v).length ((P5 g v).map Pq)) (λi=>(P5 g v).length-i) ?hI ?hround
 case hI=>exact⟨Nat.zero_le _,h0 Y w1 cL vV h1 aL,dB⟩
 case hround=>
  rintro i w2 ⟨hi,hJ,zY⟩ ih
  try dsimp only
  refine qN O$ Qq O$ OD$ It$ OQ O (λhq=>?_)$ λhq=>?_
  ·obtain⟨s,hs⟩:∃s,(P5 g v)[i]? =some s:=⟨_,List.getElem?_eq_getElem (by omega)⟩;rcases zY.2 with⟨⟨ca,cc⟩,gd,rM⟩|⟨b,off,cap,gd,hc⟩
   ·omega
   cases gd;have aW:w2.cell? ⟨b,off+i*1,none⟩=some (Pq s):=hc (i*1) _ (by rw[Nat.mul_one,List.getElem?_map,hs];rfl);refine OE$ Qx$ qN O$ qV (PX Ps OP O O (by omega))$ qV (Pr Py O O aW)$ Qw O$ P8 O$ z7p O O (yy O O) (hround Y i s w2 cL vV hs hJ) ?_;rintro r w3 fW;rcases fW with⟨rfl,Me,av⟩|⟨rfl,hF⟩
   ·refine qV ((Sb O))$ PW O$ OA$ OL O$ PV O$ OK O$ OD ?_;exact(ih (i+1) _ ⟨by omega,Me,zY.kp av (λj hj e=>e.elim (λe=>e (IL j hj).1) (IL j hj).2)⟩ (by omega)).qb
   ·refine qV ((Sb O))$ OD$ OS O$ OB func195 O ?_;exact⟨_,rfl,rfl,.inr hF⟩
  ·have bQ:i=(P5 g v).length:=by omega
   subst bQ;refine ON O$ Qv func195 O ?_;exact⟨_,rfl,rfl,.inl ⟨Y,cL,vV,hJ⟩⟩
end
structure StO (Q:Rn)(txt:Int->OG)(K st len:Nat)(T:OG):Prop where
 k:K<1000000000000
 fit:st+len<=Q.L.length
 laid:Laid txt st T
 len:T.length<=len*512
def z8V {Q:Rn}{txt:Int->OG}{K st len:Nat}{T:OG}(o:StO Q txt K st len T)(rb sum:Nat):Src 148 (ptr rb 0) T where
 inv X w:=Sp Q txt K (λb=>X b\/b=rb) w/\OR w rb (srC Q.s st len T.length sum) 205/\¬X rb
 fl:=305
 fr:=306
 cl:=zgF
 cr:=zgK
 ml:=by kernel_rfl
 mr:=by kernel_rfl
 ext:=λh hx hY=>⟨h.1.ext hx λb e=>e.elim (λe=>(hY b e).elim (λe=> .inl (.inl e)) .inr) (λe=> .inl (.inr e)),hx.OC h.2.1,λe=>(hY _ e).elim h.2.2 (λe=>by have:=h.2.1.lt;omega)⟩
 step:=λh hk hS hY=>⟨h.1.step hk (λb e=> .inl (hS b e)) λb e=>e.elim (λe=>(hY b e).elim (λe=> .inl (.inl e)) .inr) (λe=> .inl (.inr e)),hk.OC h.2.1 (λe=>h.2.2 (hS _ e)),λe=>(hY _ e).elim h.2.2 (λe=>by have:=h.2.1.lt;omega)⟩
 len:=λh=>(za5 (Q:=Q) h.2.1).mono λv w' ⟨hv,hw⟩=>⟨hv,by rw[hw];exact Ext.refl _⟩
 rd:=λoff n h hX Bn=>(zcK h.1 hX h.2.2 o.k o.fit o.laid h.2.1 o.len off n Bn).mono λv w' ⟨hv,h1,h2,h3⟩=>⟨hv,⟨h1,h2,h.2.2⟩,h3⟩
section
variable {t:TypeId}{u:Value}{p:Qr}{g:List (List Nat)}{E:List (Nat×Nat)}{k x:Nat}{X S:Nat->Prop}{w w':World}
def UN.re {R R':Src t u (XY p g E)}(h:UN R k x X w)(hk:Kp S w w')(hS:∀j,S j->j≠k/\j≠x/\j≠2/\j≠3)(hI:R'.inv X w'):UN R' k x X w':=
 ⟨h.ok,hk.OC h.OC (λe=>(hS _ e).1 O),hk.OC h.ix (λe=>(hS _ e).2.1 O),h.xk,h.xx,hI,λj hj=>by have:=h.lt j hj;have:=hk.size;omega,h.x1,h.x2,hk.OC h.gam (λe=>(hS _ e).2.2.1 O),hk.OC h.una (λe=>(hS _ e).2.2.2 O)⟩
def z7x {Q:Rn}{txt:Int->OG}{K st len rb sum:Nat}(hp:T2 p g E)(o:StO Q txt K st len (XY p g E))(hI:(z8V o rb sum).inv X w)(hX:∀j,X j->j<w.heap.size)(x1:X 2)(x2:X 3)(hG:OR w 2 (Sy .gamma) 317)(hU:OR w 3 (Sy .unary) 317):
  Pm prog 72 [ptr rb 0] w λv w'=>∃k x,v= .tuple #[ptr k 0,I 0]/\w.heap.size<=k/\w.heap.size<=x/\UN (z8V o rb sum) k x (λj=>X j\/j=x\/j=k) w'/\Kp (λj=>¬X j) w w':=by
 refine py (e:=[(0,_)]) func72 O ntmps72 O O$ qN O$ PU O$ PG O$ qV (Qi zdz O O)$ PW O$ Pf O$ qV (zhb zdz (λ_ h=>by cases h) rfl) ?_
 refine P4 zjN O (z7d hp (z8V o rb sum) hI hX) ?_
 rintro _ w1 ⟨k,x,rfl,aj,am,hx,hk,bT,mn,aL⟩
 refine RA O$ PU O$ OB func72 O ?_
 have z1:=aL.size
 have l1:=aj.lt
 have l2:=am.lt
 refine⟨_,rfl,k,x,rfl,hk,hx,⟨hp,aj,am,.inr (.inr O),.inr (.inl O),mn,λj hj=>?_,.inl x1,.inl x2,aL.OC hG (λe=>e x1),aL.OC hU (λe=>e x2)⟩,aL⟩
 rcases hj with e|e| e
 ·have:=hX j e;omega
 ·omega
 ·omega
end
theorem zcT {n each:Nat}(he:1<=each):max (1:Int) (((n:Int)+(each:Int)-1) / (each:Int))=((Rl n each:Nat):Int):=by
 unfold Rl
 rw[show(n:Int)+(each:Int)-1=((n+each-1:Nat):Int) by omega]
 have h:((n+each-1:Nat):Int) / (each:Int)=(((n+each-1) / each:Nat):Int):=rfl
 rw[h]
 generalize (n+each-1) / each=q
 omega
section
variable {w w':World}{Q:Rn}{txt:Int->OG}{vb width st each n:Nat}{xs:List Nat}
abbrev shV (n width each:Nat):Value:= .agg #[I (n:Int),I (width:Int),I (each:Int)]
def Z6 (n width each:Nat)(he:1<=each/\each<=512)(hn:n<=4194304)(w:World):Pm prog 73 [shV n width each] w λv w'=>v=I (Rl n each:Int)/\Ext w w':=by
 refine py (e:=[(0,_)]) func73 O ntmps73 O O$ qN O$ OM O O (Rm O (cs:=[I (n:Int),I (width:Int),I (each:Int)]) O) ?_
 rintro _ w1 ⟨b1,rfl,bU,ad,aj⟩
 refine Qw O$ OX WT O$ qV (OO U3 O O aj O)$ OX VX O$ qV (OO U3 O O aj O)$ PV O$ Ro O$ OX VX O$ qV (OO U3 O O aj O)$ qV (VI O O (by omega))$ qV (yma O O)$ OU O ?_
 rw[zcT he.1]
 refine OB func73 O ?_
 exact⟨_,rfl,rfl,ad⟩
def z1M (n width each x:Nat)(hw:width=1\/width=2\/width=4\/width=8)(hx:x<2^(8*width))(w:World):Pm prog 113 [shV n width each,u64v x] w λv w'=>v= .bool true/\Ext w w':=by
 refine py (e:=[(0,_),(1,_)]) func113 O ntmps113 O O$ qN O$ OM O O (Rm O (cs:=[I (n:Int),I (width:Int),I (each:Int)]) O) ?_
 rintro _ w1 ⟨b1,rfl,bU,ad,aj⟩
 refine Qw O$ OX TW O$ qV (OO U3 O O aj O) ?_
 by_cases h8:width=8
 ·refine Ri O$ Rp$ OK O$ QG$ QG$ QG$ QJ O$ OU O$ OB func113 O ?_;exact⟨_,rfl,rfl,ad⟩
 ·have Mf:8*width<=32:=by omega
  have hp:1*2^(8*width)%18446744073709551616=2^(8*width):=by
   have:=Nat.pow_le_pow_right (show 0<2 by decide) Mf;rw[Nat.one_mul,Nat.mod_eq_of_lt (by omega)]
  refine Ri O$ PF$ P8 O$ OX TW O$ qV (OO U3 O O aj O)$ qV (Wm O O (by omega)) ?_;rw[show(8:Int)*(width:Int)=((8*width:Nat):Int) by omega];refine qV (QP (8*width) (2^(8*width)) O O (by omega) O) ?_;rw[hp]
  generalize 2^(8*width)=P at hx⊢
  refine Qq O$ Rp$ PK O$ OU O$ OB func113 O ?_;exact⟨_,rfl,rfl,ad⟩
def XQ (n width each x:Nat)(hw:width<=8)(hx:x<18446744073709551616)(w:World):Pm prog 115 [shV n width each,u64v x] w λv w'=>v=S (Th width x)/\Ext w w':=by
 have eu:maxLen=9223372036854775807:=rfl
 refine py (e:=[(0,_),(1,_)]) func115 O ntmps115 O O$ qN O$ OM O O (Rm O (cs:=[I (n:Int),I (width:Int),I (each:Int)]) O) ?_
 rintro _ w0 ⟨b0,rfl,rL,i6,iW⟩
 refine Qw O$ OX TW O$ qV (OO U3 O O iW O)$ OM O O (pmk (c:=width) (n:=width) Q5 VK O O O (by omega) (by omega) (by omega)) ?_
 rintro _ w1 ⟨b1,rfl,⟨bU,ad,aj⟩,-⟩
 refine OU O$ PG O$ Rv Q5 O$ OK O$ OD$ OH ?_
 rw[<-z2v x width] at aj
 have l0:=iW.lt
 refine Rq (α:=Nat) (0) (λk=>[(1,u64v x),(2,ptr b0 0),(5,.slice (some ⟨b1,0,none⟩) width width),(11,I (width:Int)),(12,I (k:Int))]) (λk w'=>k<=width/\OR w' b1 (z1h x width k) 5/\OR w' b0 [I (n:Int),I (width:Int),I (each:Int)] 155/\Ext w0 w') (λk=>width-k) ?hI ?hround
 case hI=>exact⟨by omega,aj,ad.OC iW,ad⟩
 case hround=>
  rintro k w2 ⟨hk,am,zZ,ae⟩ ih
  try dsimp only
  refine qN O$ Qq O$ OD$ It$ OQ O (λaZ=>?_)$ λaZ=>?_
  ·have Fr:k<width:=by omega
   refine OE$ Qx$ Pf O$ OU O$ OL O$ P8 O$ OK O$ OX TW O$ qV (OO U3 O O zZ O)$ Ro O$ OK O$ Ro O$ qV (Wm O O (by omega)) ?_;rw[show(8:Int)*(((width:Int)-1)-(k:Int))=((8*(width-1-k):Nat):Int) from by omega];refine qV (Sc (8*(width-1-k)) (2^(8*(width-1-k))) O O (by simp only[IntKind.bits];omega) O) ?_;refine qV (z2e O Rr U5)$ qV (PX Q5 VK O O (by omega))$ OW O (QQ VK O O O am (by simp;omega)) ?_;rintro w3 ⟨au,av⟩;rw[z5e x width k Fr] at au;refine OD$ OA$ OL O$ PV O$ OK O$ OD ?_;exact(ih (k+1) w3 ⟨by omega,au,av.OC zZ (by omega),ae.An av (λi hi=>by rw[hi,bU];exact Nat.le_refl _)⟩ (by omega)).qb
  ·have:k=width:=by omega
   subst this;rw[z5v] at am;refine ON O$ Pf O$ qV (z3z (l:=Th k x) Q5 U5 U9 O am (by rw[List.drop_zero];exact List.take_of_length_le (by rw[List.length_map,Px];omega)) (by simp[Th])) ?_;refine OU O$ OB func115 O ?_;exact⟨_,rfl,rfl,i6.trans ae⟩
def Sq (h:Tz Q txt vb width st xs w):Pm prog 82 [ptr vb 0] w λv w'=>v=I 0/\w'=w:=by
 have hB:=h.cells
 refine py (e:=[(0,_)]) func82 O ntmps82 O O$ QB O$ Qx$ Pf O$ qV (Qi U98 O O)$ OU O$ OJ O$ Pf O$ Pu O$ OX z8q O$ qV (OO U4 O O hB O)$ OU O$ Tu O$ OA ?_
 refine QB O$ OB func82 O ?_
 exact⟨_,rfl,rfl,rfl⟩
theorem z4z (h:Tz Q txt vb width st xs w){i:Nat}(hi:i<xs.length)(hn:Q.L.length<=4096):Pm prog 83 [ptr vb 0,I (i:Int)] w λv w'=>v= .tuple #[I ((st+i / (512 / width):Nat):Int),I ((i%(512 / width)*width:Nat):Int)]/\Ext w w':=by
 have hB:=h.cells
 have hg:=Ext.OT w
 obtain⟨e1,e2,e3,e4,e5⟩:=h.e
 obtain⟨a1,a2,a3⟩:=h.at_ hi
 have ip:=h.n
 have hd:((i:Nat):Int) / ((512 / width:Nat):Int)=((i / (512 / width):Nat):Int):=rfl
 have hm:((i:Nat):Int)%((512 / width:Nat):Int)=((i%(512 / width):Nat):Int):=rfl
 have Bs:((i%(512 / width):Nat):Int)*(width:Int)=((i%(512 / width)*width:Nat):Int):=by rw[Int.natCast_mul]
 have eW:(st:Int)+((i / (512 / width):Nat):Int)=((st+i / (512 / width):Nat):Int):=by rw[Int.natCast_add]
 generalize i / (512 / width)=q at*
 generalize i%(512 / width)=r at*
 generalize 512 / width=each at*
 refine py (e:=[(0,_),(1,_)]) func83 O ntmps83 O O$ qN O$ PU O$ It$ R5 (λw'=>Ext w w') O$ OZ 0 O O (hg)$ OI 1 O (Q4 O) hg$ OI 2 O (Pp YZ O) hg$ OI 3 O (Pp QX O) hg$ qT 4 O (λ_ h=>OO U3 O O (h.OC hB) O) hg$ OZ 5 O O (hg)$ OZ 6 O O (hg)$ OI 7 O (Q4 O) hg$ OI 8 O (Pp R4 O) hg ?_
 refine OI 9 O (Pp VX O) hg$ qT 10 O (λ_ h=>OO U3 O O (h.OC hB) O) hg$ OZ 13 O O (hg)$ OZ 14 O O (hg)$ OI 15 O (Q4 O) hg$ OI 16 O (Pp R4 O) hg$ OI 17 O (Pp VX O) hg$ qT 18 O (λ_ h=>OO U3 O O (h.OC hB) O) hg$ OZ 20 O O (hg)$ OI 21 O (Q4 O) hg$ OI 22 O (Pp R4 O) hg$ OI 23 O (Pp TW O) hg$ qT 24 O (λ_ h=>OO U3 O O (h.OC hB) O) hg$ OI 11 O (VI O O (by omega)) hg ?_
 rw[hd]
 refine OI 12 O (Ud O O (by omega)) hg$ OI 26 O (R7 O) hg ?_
 rw[eW]
 refine OI 19 O (yre O O (by omega)) hg ?_
 rw[hm]
 refine OI 25 O (Wm O O (by rw[Bs];omega)) hg ?_
 rw[Bs]
 refine OI 27 O (R7 O) hg$ qE$ Pn.qb (e:=[(4,_),(5,_)]) ?_
 refine OB func83 O ?_
 exact⟨_,rfl,rfl,hg⟩
end
section
variable {w w':World}{Q:Rn}{txt:Int->OG}{K:Nat}{X:Nat->Prop}{vb width st n:Nat}{xs:List Nat}
def Tz.zjL (h:Tz Q txt vb width st xs w){i x:Nat}(hi:xs[i]? =some x):x<2^(8*width)/\x<18446744073709551616:=by
 have h1:=(h.t i x hi).2
 have:=Nat.pow_le_pow_right (show 0<2 by decide) (show 8*width<=64 by have:=h.e;omega)
 exact⟨h1,by omega⟩
theorem ZB (hP:Sp Q txt K X w)(hX:∀b,X b->b<w.heap.size)(hK:K<1000000000000)(hv:Tz Q txt vb width st xs w)(dl:X vb){i x:Nat}(hi:xs[i]? =some x):
  Pm prog 48 [ptr vb 0,I (i:Int)] w λv w'=>v= .tuple #[u64v x,I 0]/\Sp Q txt K X w'/\Kp (λb=>¬X b) w w':=by
 have dW:=hP.n
 have aU:i<xs.length:=by
  rcases Nat.lt_or_ge i xs.length with h| h
  ·exact h
  ·rw[List.getElem?_eq_none h] at hi;cases hi
 have lD:=z4z hv aU dW
 obtain⟨a1,a2,a3⟩:=hv.at_ aU
 have BA:=(hv.t i x hi).1
 have mu:=(hv.zjL hi).1
 have dm:=hP.Zq (x:=((st+i / (512 / width):Nat):Int)) (Int.natCast_nonneg _) (Int.ofNat_lt.2 a1)
 have ip:=hv.n
 have Oc:=hv.e.2.2.2.2
 have o7:∀w1,Ext w w1->Pm prog 84 [ptr Q.s 0,I ((st+i / (512 / width):Nat):Int)] w1 λv w'=>v= .tuple #[S (txt ((st+i / (512 / width):Nat):Int)),I 0]/\Sp Q txt K X w'/\Kp (λb=>¬X b) w1 w':=λw1 ad=>(hP.ext' ad).read (λb hb=>by have:=hX b hb;have:=ad.size;omega) hK (Int.natCast_nonneg _) (Int.ofNat_lt.2 a1)
 generalize i / (512 / width)=q at*
 generalize i%(512 / width)=r at*
 generalize ho:r*width=o at*
 obtain⟨t,ht⟩:∃t,txt ((st+q:Nat):Int)=t:=⟨_,rfl⟩
 rw[ht] at BA dm o7
 have hB:=hv.cells
 refine py (e:=[(0,_),(1,_)]) func48 O ntmps48 O O$ qN O$ PU O$ PG O$ P4 z73 O (Sq hv) ?_
 rintro _ w ⟨rfl,rfl⟩
 refine Qt O$ Qf O$ PW O$ PG O$ Qq O$ PF$ P8 O$ OK O$ Pu O$ OX R4 O$ OX WT O$ qV (OO U3 O O hB O)$ Te O$ PF ?_
 refine PK O$ PW O$ Qm O$ P4 zhR O (lD) ?_
 rintro _ w1 ⟨rfl,ad⟩
 have aj:=ad.OC hB
 refine OK O$ RA O$ PU O$ Pn.qb (e:=[(0,_),(4,_),(5,_),(7,_),(8,_)]) ?_
 refine Pf O$ Pu O$ OX W1 O$ qV (OO XF O O aj O)$ OK O$ P4 zbP O (o7 w1 ad) ?_
 rintro _ w2 ⟨rfl,dQ,aq⟩
 have am:=aq.OC aj (λe=>e dl)
 refine OK O$ RA O$ PU O$ PG O$ Qf O$ PW O$ QB O$ It$ Qm O$ P8 O$ Pu O$ OX R4 O$ OX TW O$ qV (OO U3 O O am O) ?_
 refine PV O ?_
 rw[show(o:Int)+(width:Int)=((o+width:Nat):Int) by omega]
 refine qV (zbY (m:=o) (n:=o+width) U9 O O O (by omega)) ?_
 rw[show o+width-o=width by omega,BA]
 have fD:=Px width x
 obtain⟨s,hs⟩:∃s,Th width x=s:=⟨_,rfl⟩
 have fk:Pv (P3 s)=x:=by rw[<-hs];exact Xj mu
 rw[hs] at fD⊢
 refine OM O O (z6G U9 Q5 U5 O) ?_
 rintro _ w3 ⟨b7,c7,rest,rfl,⟨jS,ai,au⟩,Be⟩
 refine Rv Q5 O$ OK O$ OD$ Pn.qb (e:=[(4,_),(5,_),(11,_),(58,_),(59,_),(60,_)]) ?_
 refine OH$ Rq (α:=Nat) (0) (λi=>[(11,u64v (Pv (P3 (s.take i)))),(58,.slice (some ⟨b7,0,none⟩) s.length c7),(59,I (s.length:Int)),(60,I (i:Int))]) (λi w'=>w'=w3/\i<=s.length) (λi=>s.length-i) ?hI ?hround
 case hI=>exact⟨rfl,Nat.zero_le _⟩
 case hround=>
  rintro i w4 ⟨rfl,hi⟩ ih
  try dsimp only
  refine qN O$ Qq O$ OD$ It$ OQ O (λh0=>?_)$ λh0=>?_
  ·obtain⟨c,hc⟩:∃c,s[i]? =some c:=⟨_,List.getElem?_eq_getElem (by omega)⟩;have cN:=c.toNat_lt;have eW:=Yw hc
   have aZ:Pv (P3 (s.take i))<72057594037927936:=by
    have h1:=QF (P3 (s.take i));rw[bitsT_length,List.length_take] at h1;have h2:2^(8*min i s.length)<=2^56:=Nat.pow_le_pow_right (by decide) (by omega);omega
   have aW:w4.cell? ⟨b7,0+i*1,none⟩=some (S8 c):=by
    rw[au.cell,Nat.zero_add,Nat.mul_one,List.getElem?_append_left (by rw[List.length_map];omega),List.getElem?_map,hc];rfl
   refine OE$ Qx$ qN O$ qV (PX Q5 VK O O (by omega))$ qV (Pr U5 O O aW) ?_
   generalize Pv (P3 (s.take i))=q at eW aZ
   refine OU O$ Rh O$ qV (QP 8 256 O O (by decide) O)$ OK O$ qV ((z2f O U5 Rr (by decide)))$ qV (Zv O O (by omega) (by omega)) ?_
   have mB:(q*256%18446744073709551616 |||c.toNat)=Pv (P3 (s.take (i+1))):=by
    rw[eW,Nat.mod_eq_of_lt (by omega),Nat.mul_comm q];exact(Nat.two_pow_add_eq_or_of_lt (i:=8) cN q).symm
   rw[mB];refine OU O$ OA$ OL O$ PV O$ OK O$ OD ?_;exact(ih (i+1) _ ⟨rfl,by omega⟩ (by omega)).qb
  ·have bQ:i=s.length:=by omega
   subst bQ;rw[List.take_length,fk];refine ON O$ Pf O$ PU O$ OB func48 O ?_;exact⟨_,rfl,rfl,dQ.ext' ai,(ad.kp.trans aq).trans ai.kp⟩
theorem z2R (hP:Sp Q txt K X w)(hX:∀b,X b->b<w.heap.size)(hK:K<1000000000000)(hv:Tz Q txt vb width st xs w)(dl:X vb){i x:Nat}(hi:i<xs.length)(hx:x<2^(8*width)):
  Pm prog 121 [ptr vb 0,I (i:Int),u64v x] w λv w'=>v=I 0/\VcW Q txt (K+1) X vb width st (xs.set i x) w w':=by
 have dW:=hP.n
 have lD:∀w1,Ext w w1->Pm prog 83 [ptr vb 0,I (i:Int)] w1 λv w'=>v= .tuple #[I ((st+i / (512 / width):Nat):Int),I ((i%(512 / width)*width:Nat):Int)]/\Ext w1 w':=λw1 ad=>z4z (hv.ext ad) hi dW
 obtain⟨a1,a2,a3⟩:=hv.at_ hi
 obtain⟨e1,e2,e3,e4,e5⟩:=hv.e
 have mu:x<18446744073709551616:=by
  have:=Nat.pow_le_pow_right (show 0<2 by decide) (show 8*width<=64 by omega);omega
 have dm:=hP.Zq (x:=((st+i / (512 / width):Nat):Int)) (Int.natCast_nonneg _) (Int.ofNat_lt.2 a1)
 have ip:=hv.n
 obtain⟨t,ht⟩:∃t,txt ((st+i / (512 / width):Nat):Int)=t:=⟨_,rfl⟩
 have eC:=hv.t.set (by omega) hx hi ht (by rw[ht] at dm;omega)
 have o7:∀w1,Ext w w1->Pm prog 84 [ptr Q.s 0,I ((st+i / (512 / width):Nat):Int)] w1 λv w'=>v= .tuple #[S (txt ((st+i / (512 / width):Nat):Int)),I 0]/\Sp Q txt K X w'/\Kp (λb=>¬X b) w1 w':=λw1 ad=>(hP.ext' ad).read (λb hb=>by have:=hX b hb;have:=ad.size;omega) hK (Int.natCast_nonneg _) (Int.ofNat_lt.2 a1)
 have eI:(xs.set i x).length=xs.length:=by simp
 have hB:=hv.cells
 have oU:=hv.wd
 have cd:=hv.fit
 rw[ht] at dm o7
 have uu:∀w',OR w' vb [I (xs.length:Int),I (width:Int),I ((512 / width:Nat):Int),I (st:Int),I (Rl xs.length (512 / width):Int),ptr Q.s 0,.bool false] 157->Tz Q (ZC txt ((st+i / (512 / width):Nat):Int) (some (t.take (i%(512 / width)*width)++Th width x++t.drop (i%(512 / width)*width+width)))) vb width st (xs.set i x) w':=λw' hb=>⟨by rw[eI];exact hb,oU,eC,by rw[eI];exact ip,by rw[eI];exact cd⟩
 clear eC
 have mL:st+i / (512 / width)<Q.L.length:=a1
 generalize i / (512 / width)=q at*
 generalize i%(512 / width)=r at*
 generalize ho:r*width=o at*
 have fD:=Px width x
 have oV:(t.take o++Th width x++t.drop (o+width)).length=512:=by rw[List.length_append,List.length_append,List.length_take,List.length_drop,fD];omega
 refine py (e:=[(0,_),(1,_),(2,_)]) func121 O ntmps121 O O$ QB O$ PG O$ P4 z73 O (Sq hv) ?_
 rintro _ w ⟨rfl,rfl⟩
 refine Qt O$ Qf O$ PW O$ PG O$ Qq O$ PF$ P8 O$ OK O$ Pu O$ OX R4 O$ OX WT O$ qV (OO U3 O O hB O)$ Te O$ PF ?_
 refine PK O$ P8 O$ Pu O$ OX R4 O$ qV (Pt za9 O Yo O (OR.cells (n:=3) hB (news:=[_,_,_]) O) O)$ OK O$ P4 zft O (z1M xs.length width (512 / width) x oU hx w) ?_
 rintro _ w1 ⟨rfl,ad⟩
 have aj:=ad.OC hB
 refine qV ((Sb O))$ PK O$ OD$ Pn.qb (e:=[(0,_),(1,_),(2,_),(6,_),(36,_)]) ?_
 refine Tu O$ Qm O$ P4 zhR O (lD w1 ad) ?_
 rintro _ w2 ⟨rfl,ae⟩
 have am:=ae.OC aj
 refine OK O$ RA O$ RT O$ Qt O$ Pu O$ OX W1 O$ qV (OO XF O O am O)$ OK O$ P4 zbP O (o7 w2 (ad.trans ae)) ?_
 rintro _ w3 ⟨rfl,fJ,av⟩
 have au:=av.OC am (λe=>e dl)
 have af:=Ext.OT w3
 have cu:Kp (λb=>¬X b) w w3:=(ad.trans ae).kp.trans av
 have aZ:(t.take o).length=o:=by rw[List.length_take];omega
 have jK:(t.drop (o+width)).length=512-(o+width):=by rw[List.length_drop];omega
 refine OK O$ RA O$ PU O$ PG O$ Qf O$ OD$ Pn.qb (e:=[(0,_),(2,_),(6,_),(8,_),(9,_),(10,_),(11,_),(53,_)]) ?_
 refine Tu O$ It$ R5 (λw'=>Kp (λb=>¬X b) w3 w') O$ OZ 0 O O (af.kp)$ OI 1 O (Q4 O) (af.kp)$ OI 2 O (Pp W1 O) (af.kp)$ qT 3 O (λ_ h=>OO XF O O (h.OC au (λe=>e dl)) O) (af.kp)$ OZ 4 O O (af.kp)$ OZ 5 O O (af.kp)$ OZ 6 O O (af.kp)$ OI 7 O (YI U9 O O (by omega)) (af.kp)$ OZ 8 O O (af.kp)$ OI 9 O (Q4 O) (af.kp)$ OI 10 O (Pp R4 O) (af.kp) ?_
 refine qT 11 O (λ_ hS=>Pt za9 O Yo O (OR.cells (n:=3) (hS.OC au (λe=>e dl)) (news:=[_,_,_]) O) O) (af.kp)$ OZ 12 O O (af.kp)$ OZ 15 O O (af.kp)$ OZ 16 O O (af.kp)$ OZ 17 O O (af.kp)$ OI 18 O (Q4 O) (af.kp)$ OI 19 O (Pp R4 O) (af.kp)$ OI 20 O (Pp TW O) (af.kp)$ qT 21 O (λ_ h=>OO U3 O O (h.OC au (λe=>e dl)) O) (af.kp)$ OI 22 O (Ud O O (by omega)) (af.kp) ?_
 rw[show(o:Int)+(width:Int)=((o+width:Nat):Int) by omega]
 refine OI 23 O (Yv U9 O O (by omega)) (af.kp)$ SK 13 O zbK O (XQ _ _ _ x e5 mu _) ?_
 rintro _ w4 ⟨rfl,aD⟩
 refine⟨af.kp.trans aD.kp,?_⟩
 have cC:=af.trans aD
 refine OI 14 O (V7 O O (by first|omega|(simp;done)|(simp;omega))) (af.kp.trans aD.kp) ?_
 refine OI 24 O (V7 O O (by rw[List.length_append,aZ,fD,jK];omega)) (af.kp.trans aD.kp) ?_
 refine SK 25 O zbc O ((fJ.ext' cC).write (λb hb=>by have:=hX b hb;have:=cu.size;have:=cC.size;omega) hK (no:=((st+q:Nat):Int)) (by omega) (by omega) _ oV) ?_
 rintro _ w5 ⟨rfl,fO,ak⟩
 refine⟨cC.kp.trans ak,?_⟩
 have ju:Kp (λb=>¬X b) w3 w5:=cC.kp.trans ak
 refine OI 26 O (R7 O) (cC.kp.trans ak)$ qE$ Pn.qb (e:=[(6,_)]) ?_
 refine OB func121 O ?_
 exact⟨_,rfl,rfl,_,fO,uu w5 (ju.OC au (λe=>e dl)),λy hy=>RD _ _ (by rw[eI] at hy;omega),cu.trans ju⟩
end
section
variable {w w':World}{Q:Rn}{txt:Int->OG}{K:Nat}{X:Nat->Prop}{vb width st each n:Nat}{xs:List Nat}
theorem z0f (hP:Sp Q txt K X w)(hX:∀b,X b->b<w.heap.size)(hK:K<=900000000000)(hv:Tz Q txt vb width st xs w)(dl:X vb){f:Nat}(p8:CF prog f)(caps:List Value)(OC:Nat->OG)(az:∀b,(OC b).length<=512)
  (hf:∀(b:Nat) (w1:World),b<Rl xs.length (512 / width)->Kp (λb=>¬X b) w w1->Pm prog f ([I (b:Int)]++caps) w1 λv w2=>v=S (OC b)/\Ext w1 w2):
  Pm prog 88 [ptr vb 0,.func (.func f) #[] caps.toArray] w λv w'=>v=I 0/\∃txt',Sp Q txt' (K+Rl xs.length (512 / width)) X w'/\Kp (λb=>¬X b) w w'/\(∀b,b<Rl xs.length (512 / width)->txt' ((st+b:Nat):Int)=OC b++zeros (512-(OC b).length))/\(∀y:Int,y<(st:Int)\/(st:Int)+(Rl xs.length (512 / width):Int)<=y->txt' y=txt y):=by
 have eu:maxLen=9223372036854775807:=rfl
 have dW:=hP.n
 have hB:=hv.cells
 have cd:=hv.fit
 have ip:=hv.n
 obtain⟨e1,e2,e3,e4,e5⟩:=hv.e
 have tO:=Z6 xs.length width (512 / width) ⟨by omega,e2⟩ ip w
 obtain⟨N,hN⟩:∃N,Rl xs.length (512 / width)=N:=⟨_,rfl⟩
 rw[hN] at hB cd tO hf⊢
 refine py (e:=[(0,_),(1,_)]) func88 O ntmps88 O O$ QB O$ PG O$ Pu O$ OX R4 O$ qV (Pt za9 O Yo O (OR.cells (n:=3) hB (news:=[_,_,_]) O) O)$ P4 zhV O (tO) ?_
 rintro _ w1 ⟨rfl,ad⟩
 refine OK O$ OD$ OH$ Rq (α:=Nat) (0) (λk=>[(0,ptr vb 0),(1,.func (.func f) #[] caps.toArray),(12,I (N:Int)),(13,I (k:Int))]) (λk w'=>k<=N/\Kp (λb=>¬X b) w w'/\∃txt',Sp Q txt' (K+k) X w'/\(∀b,b<k->txt' ((st+b:Nat):Int)=OC b++zeros (512-(OC b).length))/\(∀y:Int,y<(st:Int)\/(st:Int)+(k:Int)<=y->txt' y=txt y)) (λk=>N-k) ?hI ?hround
 case hI=>exact⟨Nat.zero_le _,ad.kp,txt,hP.ext' ad,λb hb=>by omega,λy _=>rfl⟩
 case hround=>
  rintro k w2 ⟨hk,aq,txt2,dQ,FH,pX⟩ ih;have am:=aq.OC hB (λe=>e dl)
  try dsimp only
  refine qN O$ Qq O$ OD$ It$ OQ O (λh0=>?_)$ λh0=>?_
  ·have FI:k<N:=by omega
   refine OE$ Qx$ Pf O$ Qw O$ P8 O$ Qz O O (RY p8 O O) (hf k w2 FI aq) ?_;rintro _ w3 ⟨rfl,ai⟩;have au:=ai.OC am;have fJ:=dQ.ext' ai;have af:=Ext.OT w3;have hl:=az k;have cu:=aq.trans ai.kp;obtain⟨t,ht⟩:∃t,OC k=t:=⟨_,rfl⟩;rw[ht] at hl⊢;have hz:(zeros (512-t.length)).length=512-t.length:=by simp[zeros]
   have cG:=fJ.size;have zv:∀w4,Ext w3 w4->Pm prog 66 [ptr Q.s 0] w4 λv w'=>v=I 512/\w'=w4:=λw4 hx=>(fJ.ext' hx).size;refine OU O$ It$ R5 (λw'=>Kp (λb=>¬X b) w3 w') O$ OZ 0 O O (af.kp)$ OI 1 O (Q4 O) (af.kp)$ OI 2 O (Pp W1 O) (af.kp)$ qT 3 O (λ_ h=>OO XF O O (h.OC au (λe=>e dl)) O) (af.kp)$ OZ 4 O O (af.kp)$ OI 5 O (Q4 O) (af.kp)$ OI 6 O (Pp YZ O) (af.kp)$ OI 7 O (Pp QX O) (af.kp)$ qT 8 O (λ_ h=>OO U3 O O (h.OC au (λe=>e dl)) O) (af.kp)$ OZ 9 O O (af.kp)$ OI 10 O (Ud O O (by omega)) (af.kp) ?_;refine OZ 11 O O (af.kp)$ OZ 12 O O (af.kp)$ OI 13 O (Q4 O) (af.kp)$ OI 14 O (Pp W1 O) (af.kp)$ qT 15 O (λ_ h=>OO XF O O (h.OC au (λe=>e dl)) O) (af.kp)$ OZ 17 O O (af.kp)$ OI 18 O (SV U9 O) (af.kp)$ SK 16 O z5P O (zv _ af) ?_;rintro _ w4 ⟨rfl,rfl⟩;refine⟨af.kp,?_⟩;refine OI 19 O (XH O O (by omega)) (af.kp) ?_;rw[show(512:Int)-(t.length:Int)=((512-t.length:Nat):Int) by omega];refine qO 20$ RZ (i:=20) O O O (pmk (c:=512-t.length) (n:=512-t.length) Q5 VK O O O (by omega) (by omega) (by omega)) ?_;rintro _ w4 ⟨b4,rfl,⟨fC,aD,aK⟩,-⟩;refine⟨af.kp.trans aD.kp,?_⟩;have cC:=af.trans aD;refine qO 21$ zgA (i:=21) O O O (z3z (l:=zeros (512-t.length)) Q5 U5 U9 O aK (ZV _) hz) (cC.kp)$ OI 22 O (V7 O O (by rw[hz];omega)) (cC.kp) ?_;have oV:(t++zeros (512-t.length)).length=512:=by rw[List.length_append,hz];omega
   rw[show(st:Int)+(k:Int)=((st+k:Nat):Int) by omega];refine SK 23 O zbc O ((fJ.ext' cC).write (λb hb=>by have:=hX b hb;have:=cu.size;have:=cC.size;omega) (by omega) (no:=((st+k:Nat):Int)) (by omega) (by omega) _ oV) ?_;rintro _ w5 ⟨rfl,fO,ak⟩;refine⟨cC.kp.trans ak,?_⟩;have ju:Kp (λb=>¬X b) w3 w5:=cC.kp.trans ak;refine OI 24 O (R7 O) (cC.kp.trans ak)$ qE$ Pf O$ Qf O$ PW O$ OA$ OL O$ PV O$ OK O$ OD ((ih (k+1) w5 ⟨by omega,cu.trans ju,_,fO,λb hb=>?_,λy hy=>?_⟩ (by omega)).qb)
   ·by_cases e:b=k
    ·subst e;rw[Sa,ht];rfl
    ·rw[RD _ _ (by omega)];exact FH b (by omega)
   ·rw[RD _ _ (by omega)];exact pX y (by omega)
  ·have FI:k=N:=by omega
   subst FI;refine ON O$ QB O$ OB func88 O ?_;exact⟨_,rfl,rfl,txt2,dQ,aq,FH,pX⟩
theorem z5H (l:OG):∀n,((List.replicate n l).flatten).length=n*l.length
 |0=>by simp
 |n+1=>by rw[List.replicate_succ,List.flatten_cons,List.length_append,z5H l n,Nat.add_mul];omega
def z4r {bf:Nat}{s:OG}(b:Nat)(hB:OR w bf [S s] 9):Pm prog 116 ([I (b:Int)]++[ptr bf 0]) w λv w2=>v=S s/\Ext w w2:=by
 show Pm _ _ [I (b:Int),ptr bf 0] _ _
 refine py (e:=[(0,_),(1,_)]) func116 O ntmps116 O O$ qN O$ Qw O$ qV (OO U9 O O hB O)$ OU O$ OB func116 O ?_
 exact⟨_,rfl,rfl,Ext.refl _⟩
theorem z7A (hP:Sp Q txt K X w)(hX:∀b,X b->b<w.heap.size)(hK:K<=900000000000)(hv:Tz Q txt vb width st xs w)(dl:X vb){x:Nat}(hx:x<2^(8*width)):
  Pm prog 74 [ptr vb 0,u64v x] w λv w'=>v=I 0/\VcW Q txt (K+Rl xs.length (512 / width)) X vb width st (List.replicate xs.length x) w w':=by
 have hB:=hv.cells
 have ip:=hv.n
 obtain⟨e1,e2,e3,e4,e5⟩:=hv.e
 have mu:x<18446744073709551616:=by
  have:=Nat.pow_le_pow_right (show 0<2 by decide) (show 8*width<=64 by omega);omega
 have fD:=Px width x
 have jG:(List.replicate (512 / width) (Th width x)).flatten.length=512:=by
  rw[z5H,fD];exact e3
 refine py (e:=[(0,_),(1,_)]) func74 O ntmps74 O O$ QB O$ PG O$ P4 z73 O (Sq hv) ?_
 rintro _ w ⟨rfl,rfl⟩
 refine Qt O$ Qf O$ PW O$ PG O$ Pu O$ OX R4 O$ qV (Pt za9 O Yo O (OR.cells (n:=3) hB (news:=[_,_,_]) O) O)$ OK O$ P4 zft O (z1M xs.length width (512 / width) x hv.wd hx w) ?_
 rintro _ w1 ⟨rfl,ad⟩
 have aj:=ad.OC hB
 have aG:=Ext.OT w1
 refine qV ((Sb O))$ PW O$ It$ PI (λe' w'=>∃bf,e'=[(0,ptr vb 0),(6,ptr bf 0)]/\OR w' bf [S (List.replicate (512 / width) (Th width x)).flatten] 9/\Ext w1 w'/\w1.heap.size<=bf) ?cE$ λcE=>?cV
 case cE=>
  rintro e' w2 ⟨bf,rfl,db,ae,FJ⟩;have aJ:=ad.trans ae;have mz:=ad.size;have dQ:Sp Q txt K (λb=>X b\/b=bf) w2:=hP.ext aJ (λb e=>e.imp id λe=>by omega);have lbf:=db.lt;have hw:=z0f dQ (λb hb=>by rcases hb with e|e;(have:=hX b e;have:=aJ.size;omega);omega) hK (hv.ext aJ) (.inl dl) zie [ptr bf 0] (λ_=>(List.replicate (512 / width) (Th width x)).flatten) (λ_=>by rw[jG];omega) (λb w3 _ av=>z4r b (av.OC db (λe=>e (.inr O))));refine Pf O$ qV (ymf (first:=[]) (caps:=[.tmp 6]) O O)$ P4 ziR O (hw) ?_;rintro _ w3 ⟨rfl,txt3,fJ,av,pN,qu⟩;refine OU O$ OB func74 O ?_;have cY:Kp (λb=>¬X b) w1 w3:=ae.kp.trans (av.OV λb e e2=>e (.inl e2));have eI:(List.replicate xs.length x).length=xs.length:=List.length_replicate;refine⟨_,rfl,rfl,txt3,fJ.less (λb e=> .inl e),⟨?_,hv.wd,VcT.fill hx (by omega) (λi hi=>?_),by rw[eI];exact ip,by rw[eI];exact hv.fit⟩,λy hy=>qu y (by rw[eI] at hy;exact hy),ad.kp.trans cY⟩
  ·rw[eI];exact(ad.kp.trans cY).OC hB (λe=>e dl)
  ·have qj:=Zh (each:=512 / width) (by omega) hi;exact⟨_,pN _ qj⟩
 case cV=>
  have ah:=aG;have aY:=ah.size;refine P7 [13] (λw'=>Ext w1 w') (by kernel_rfl) O$ PL 0 O O (ah)$ P9 1 O (Q4 O) ah$ P9 2 O (Pp R4 O) ah$ qL 3 O (λ_ h=>Pt za9 O Yo O (OR.cells (n:=3) (h.OC aj) (news:=[_,_,_]) O) O) ah$ PL 4 O O (ah)$ PL 6 O O (ah)$ P9 7 O (Q4 O) ah$ P9 8 O (Pp R4 O) ah$ P9 9 O (Pp VX O) ah$ qL 10 O (λ_ h=>OO U3 O O (h.OC aj) O) ah$ WH (i:=5) (j:=12) (by kernel_rfl) ?_ ?_
  ·refine Rx (i:=5) O O O (yc zbK O) (XQ _ _ _ x e5 mu _) ?_;rintro _ w5 ⟨rfl,aT⟩;refine⟨ah.trans aT,?_⟩;have ah:=ah.trans aT
   try have bC:=aT.OC bC
   have aY:=Nat.le_trans aY aT.size;refine WH (i:=11) (j:=12) (by kernel_rfl) ?_ ?_
   ·refine Rx (i:=11) O O O (yc z8r O) (Xc (Th width x) (512 / width) (by omega) (by omega) _) ?_;rintro _ w11 ⟨rfl,aS⟩;refine⟨ah.trans aS,?_⟩;have ah:=ah.trans aS
    try have bC:=aS.OC bC
    have aY:=Nat.le_trans aY aS.size;refine QY (i:=12) (by kernel_rfl)$ Ql (i:=12) O O O (RN (cs:=[_]) ti9 O) ?_;rintro _ w12 ⟨bf,rfl,FJ,aF,bC⟩;refine⟨ah.trans aF,?_⟩;have ah:=ah.trans aF;have o8:w1.heap.size<=bf:=by omega
    have aY:=Nat.le_trans aY aF.size;refine SM [13]$ qO 13$ PC (i:=13) O O (QQ ti9 O O O bC (by simp)) ?_;rintro w13 ⟨eM,cY⟩;refine⟨trivial,?_⟩;refine qE$ Pn.qb (e:=[(0,_),(4,_),(6,_)]) ?_;exact(cE _ _ ⟨bf,rfl,eM,ah.An cY (λj e=>by omega),o8⟩).qb
   ·refine Ql (i:=12) O O O (RN (cs:=[_]) ti9 O) ?_;rintro _ w12 ⟨bf,rfl,FJ,aF,bC⟩;refine⟨ah.trans aF,?_⟩;have ah:=ah.trans aF;have o8:w1.heap.size<=bf:=by omega
    have aY:=Nat.le_trans aY aF.size;refine QY (i:=11) (by kernel_rfl)$ Rx (i:=11) O O O (yc z8r O) (Xc (Th width x) (512 / width) (by omega) (by omega) _) ?_;rintro _ w11 ⟨rfl,aS⟩;refine⟨ah.trans aS,?_⟩;have ah:=ah.trans aS
    try have bC:=aS.OC bC
    have aY:=Nat.le_trans aY aS.size;refine SM [13]$ qO 13$ PC (i:=13) O O (QQ ti9 O O O bC (by simp)) ?_;rintro w13 ⟨eM,cY⟩;refine⟨trivial,?_⟩;refine qE$ Pn.qb (e:=[(0,_),(4,_),(6,_)]) ?_;exact(cE _ _ ⟨bf,rfl,eM,ah.An cY (λj e=>by omega),o8⟩).qb
  ·refine Ql (i:=12) O O O (RN (cs:=[_]) ti9 O) ?_;rintro _ w12 ⟨bf,rfl,FJ,aF,bC⟩;refine⟨ah.trans aF,?_⟩;have ah:=ah.trans aF;have o8:w1.heap.size<=bf:=by omega
   have aY:=Nat.le_trans aY aF.size;refine QY (i:=5) (by kernel_rfl)$ Rx (i:=5) O O O (yc zbK O) (XQ _ _ _ x e5 mu _) ?_;rintro _ w5 ⟨rfl,aT⟩;refine⟨ah.trans aT,?_⟩;have ah:=ah.trans aT
   try have bC:=aT.OC bC
   have aY:=Nat.le_trans aY aT.size;refine QY (i:=11) (by kernel_rfl)$ Rx (i:=11) O O O (yc z8r O) (Xc (Th width x) (512 / width) (by omega) (by omega) _) ?_;rintro _ w11 ⟨rfl,aS⟩;refine⟨ah.trans aS,?_⟩;have ah:=ah.trans aS
   try have bC:=aS.OC bC
   have aY:=Nat.le_trans aY aS.size;refine SM [13]$ qO 13$ PC (i:=13) O O (QQ ti9 O O O bC (by simp)) ?_;rintro w13 ⟨eM,cY⟩;refine⟨trivial,?_⟩;refine qE$ Pn.qb (e:=[(0,_),(4,_),(6,_)]) ?_;exact(cE _ _ ⟨bf,rfl,eM,ah.An cY (λj e=>by omega),o8⟩).qb
end
def zfC (s:OG){a c:Nat}(h:a<=c):(s.drop (min a s.length)).take (min c s.length-min a s.length)=(s.drop a).take (c-a):=by
 by_cases ha:a<=s.length
 ·rw[Nat.min_eq_left ha];by_cases hc:c<=s.length
  ·rw[Nat.min_eq_left hc]
  ·rw[Nat.min_eq_right (by omega),List.take_of_length_le (by rw[List.length_drop];omega),List.take_of_length_le (by rw[List.length_drop];omega)]
 ·rw[Nat.min_eq_right (show s.length<=a by omega),Nat.min_eq_right (show s.length<=c by omega),Nat.sub_self,List.take_zero,List.drop_of_length_le (show s.length<=a by omega),List.take_nil]
section
variable {w w':World}{Q:Rn}{txt:Int->OG}{K:Nat}{X:Nat->Prop}{vb width st each n:Nat}{xs:List Nat}
theorem z4x {bt ba:Nat}{s:OG}(b:Nat)(hb:b<=1000000)(hs:s.length<=100000000)(hT:OR w bt [S s] 9)(hA:OR w ba [I 512] 3):Pm prog 89 ([I (b:Int)]++[ptr bt 0,ptr ba 0]) w λv w2=>v=S ((s.drop (b*512)).take 512)/\Ext w w2:=by
 show Pm _ _ [I (b:Int),ptr bt 0,ptr ba 0] _ _
 have h:=zfC s (a:=b*512) (c:=(b+1)*512) (by omega)
 rw[show(b+1)*512-b*512=512 by omega] at h
 refine py (e:=[(0,_),(1,_),(2,_)]) func89 O ntmps89 O O$ qN O$ Qw O$ qV ((OO U9 O O hT O))$ OK O$ qV ((OO U3 O O hA O))$ qV (Wm O O (by omega))$ qV ((OO U9 O O hT O))$ qV (SV U9 O)$ qV (ymi O O)$ OK O$ PV O$ qV ((OO U3 O O hA O))$ qV (Wm O O (by omega)) ?_
 refine qV ((OO U9 O O hT O))$ qV (SV U9 O)$ qV (ymi O O) ?_
 rw[show min ((b:Int)*512) (s.length:Int)=((min (b*512) s.length:Nat):Int) by omega,show min (((b:Int)+1)*512) (s.length:Int)=((min ((b+1)*512) s.length:Nat):Int) by omega]
 refine qV (zbY (m:=min (b*512) s.length) (n:=min ((b+1)*512) s.length) U9 O O O (by omega)) ?_
 rw[h]
 refine OU O$ OB func89 O ?_
 exact⟨_,rfl,rfl,Ext.refl _⟩
theorem z0Z (hP:Sp Q txt K X w)(hX:∀b,X b->b<w.heap.size)(hK:K<=900000000000)(hv:Tz Q txt vb width st xs w)(dl:X vb){s:OG}(hs:s.length=xs.length*width):
  Pm prog 54 [ptr vb 0,S s] w λv w'=>v=I 0/\VcW Q txt (K+Rl xs.length (512 / width)) X vb width st (RF width xs.length s) w w':=by
 have dW:=hP.n
 have hB:=hv.cells
 have ip:=hv.n
 have cd:=hv.fit
 obtain⟨e1,e2,e3,e4,e5⟩:=hv.e
 have IM:s.length<=33554432:=by
  have:xs.length*width<=4194304*8:=Nat.mul_le_mul ip e5;omega
 have A0:(xs.length:Int)*(width:Int)=((s.length:Nat):Int):=by rw[hs,Int.natCast_mul]
 have gS:((512 / width:Nat):Int)*(width:Int)=512:=by rw[<-Int.natCast_mul,e3];rfl
 refine py (e:=[(0,_),(1,_)]) func54 O ntmps54 O O$ qN O$ OM O O (Rm O (cs:=[S s]) O) ?_
 rintro _ w1 ⟨bt,rfl,oV,ad,IN⟩
 have aj:=ad.OC hB
 have aG:=Ext.OT w1
 refine OU O$ PG O$ P4 z73 O (Sq (hv.ext ad)) ?_
 rintro _ w1 ⟨rfl,rfl⟩
 refine Qt O$ Qf O$ PW O$ It$ It$ R5 (λw'=>Ext w1 w') O$ qT 0 O (λ_ h=>(OO U9 O O (h.OC IN) O)) aG$ OI 1 O (SV U9 O) aG$ OZ 2 O O (aG)$ OI 3 O (Q4 O) aG$ OI 4 O (Pp R4 O) aG$ OI 5 O (Pp WT O) aG$ qT 6 O (λ_ h=>(OO U3 O O (h.OC aj) O)) aG$ OZ 7 O O (aG) ?_
 refine OI 8 O (Q4 O) aG$ OI 9 O (Pp R4 O) aG$ OI 10 O (Pp TW O) aG$ qT 11 O (λ_ h=>(OO U3 O O (h.OC aj) O)) aG$ OI 12 O (Wm O O (by rw[A0];omega)) aG ?_
 rw[A0]
 refine OI 13 O (yne O O) aG$ Uc$ qE$ Tu O$ It ?_
 obtain⟨w2,lC⟩:∃w2,w1.drew=w2:=⟨_,rfl⟩
 rw[lC] at aG⊢
 have am:=aG.OC aj
 have aa:=Ext.OT w2
 refine P7 [12] (λw'=>Ext w2 w') (by kernel_rfl) O$ PL 0 O O (aa)$ P9 1 O (Q4 O) aa$ P9 2 O (Pp R4 O) aa$ P9 3 O (Pp VX O) aa$ qL 4 O (λ_ h=>OO U3 O O (h.OC am) O) aa$ PL 5 O O (aa)$ P9 6 O (Q4 O) aa$ P9 7 O (Pp R4 O) aa$ P9 8 O (Pp TW O) aa$ qL 9 O (λ_ h=>OO U3 O O (h.OC am) O) aa$ P9 10 O (Wm O O (by rw[gS];omega)) aa ?_
 rw[gS]
 refine QY (i:=11) (by kernel_rfl)$ Ql (i:=11) O O O (RN (cs:=[_]) Q7 O) ?_
 rintro _ w3 ⟨ba,rfl,Od,ai,Mg⟩
 refine⟨aa.trans ai,?_⟩
 have dE:=aa.trans ai
 refine SM [12]$ qO 12$ PC (i:=12) O O (QQ Q7 O O O Mg (by simp)) ?_
 rintro w4 ⟨A1,ao⟩
 refine⟨trivial,?_⟩
 have dh:Ext w2 w4:=dE.An ao (λj e=>by have:=aa.size;omega)
 have bO:=aG.trans dh
 have bF:=ad.trans bO
 have z1:=ad.size
 have z2:=aG.size
 have z3:=aa.size
 have A3:=bO.OC IN
 have ii:Sp Q txt K (λb=>X b\/b=bt\/b=ba) w4:=hP.ext bF (λb e=>e.imp id λe=>by omega)
 have lbt:=A3.lt
 have lba:=A1.lt
 have hw:=z0f ii (λb hb=>by rcases hb with e|e|e;(have:=hX b e;have:=bF.size;omega);omega;omega) hK (hv.ext bF) (.inl dl) zlr [ptr bt 0,ptr ba 0] (λb=>(s.drop (b*512)).take 512) (λ_=>by rw[List.length_take];omega) (λb w3 hb av=>z4x b (by omega) (by omega) (av.OC A3 (λe=>e (.inr (.inl O)))) (av.OC A1 (λe=>e (.inr (.inr O)))))
 refine qE$ Pn.qb (e:=[(0,_),(3,_),(4,_),(6,_)]) ?_
 refine Pf O$ qV (ymf (first:=[]) (caps:=[.tmp 3,.tmp 6]) O O)$ P4 ziR O (hw) ?_
 rintro _ w5 ⟨rfl,txt5,fO,ak,Ba,qv⟩
 refine OU O$ OB func54 O ?_
 have cz:Kp (λb=>¬X b) w w5:=bF.kp.trans (ak.OV λb e e2=>e (.inl e2))
 have eI:=Qn width xs.length s
 refine⟨_,rfl,rfl,txt5,fO.less (λb e=> .inl e),⟨?_,hv.wd,VcT.load hs (by omega) (λi hi=>?_),by rw[eI];exact ip,by rw[eI];exact hv.fit⟩,λy hy=>qv y (by rw[eI] at hy;exact hy),cz⟩
 ·rw[eI];exact cz.OC hB (λe=>e dl)
 ·have qj:=Zh (each:=512 / width) (by omega) hi;rw[e3];exact⟨_,Ba _ qj⟩
theorem z1C (hP:Sp Q txt K X w)(hX:∀b,X b->b<w.heap.size)(hK:K<1000000000000)(hv:Tz Q txt vb width st xs w)(dl:X vb):
  Pm prog 50 [ptr vb 0] w λv w'=>v= .tuple #[S (UM width xs),I 0]/\Sp Q txt K X w'/\Kp (λb=>¬X b) w w':=by
 have dW:=hP.n
 have hB:=hv.cells
 have ip:=hv.n
 have cd:=hv.fit
 obtain⟨e1,e2,e3,e4,e5⟩:=hv.e
 have lvb:=hX vb dl
 have uu:=λ(b:Nat)=>hv.t.block (b:=b)
 have FK:=λ(l:List Nat)=>UU width l
 have hN:∀b,b*(512 / width)<xs.length->b<Rl xs.length (512 / width):=λb hb=>by
  have:=Zh (each:=512 / width) (n:=xs.length) (by omega) hb;rw[Nat.mul_div_cancel _ (by omega)] at this;exact this
 generalize 512 / width=each at*
 refine py (e:=[(0,_)]) func50 O ntmps50 O O$ qN O$ PU O$ PG O$ P4 z73 O (Sq hv) ?_
 rintro _ w ⟨rfl,rfl⟩
 refine Qt O$ Qf O$ PW O$ qN O$ OM O O (RN (cs:=[_,_]) zeT O) ?_
 rintro _ w1 ⟨bb,rfl,vz,ad,vQ⟩
 have ur:=BdM.new vQ
 have aj:=ad.OC hB
 have z1:=ad.size
 refine OD$ PG O$ Pu O$ OX R4 O$ OX WT O$ qV (OO U3 O O aj O)$ PU O$ OH ?_
 rw[show(xs.length:Int)=((xs.length-0*each:Nat):Int) by rw[Nat.zero_mul];rfl]
 refine Rq (α:=Nat×Value) ((0,Value.slice none 0 0)) (λy=>[(0,ptr vb 0),(5,ptr bb 0),(6,I ((xs.length-y.1*each:Nat):Int)),(7,I (y.1:Int))]) (λy w'=>y.1<=xs.length/\BdM w' bb (UM width (xs.take (y.1*each))) y.2/\(y.1=0->y.2= .slice none 0 0)/\(0<y.1->0<xs.length)/\(∀g,y.2.ownBlock=some g->w.heap.size<=g)/\Sp Q txt K (λb=>X b\/b=bb\/y.2.ownBlock=some b) w'/\Kp (λb=>¬X b) w w') (λy=>xs.length-y.1*each) ?hI ?hround
 case hI=>
  refine⟨Nat.zero_le _,?_,λ_=>rfl,λe=>absurd e (by decide),λg hg=>(by cases hg),hP.ext ad (λb e=>e.imp id λe=>e.elim (λe=>by omega) (λe=>by cases e)),ad.kp⟩;show BdM w1 bb (UM width (xs.take (0*each))) (.slice none 0 0);rw[Nat.zero_mul,List.take_zero];exact ur
 case hround=>
  rintro⟨b,v⟩ w2 ⟨fA,kE,rL,lB,eg,dQ,aq⟩ ih;dsimp only at fA kE rL lB eg dQ ih⊢;have am:=aq.OC hB (λe=>e dl);have hg:=Ext.OT w2;have z2:=aq.size;have lbb:bb<w2.heap.size:=by obtain⟨⟨p,hp,hb⟩,-,-⟩:=kE;exact hb.lt
  have lP:∀b,(X b\/b=bb\/v.ownBlock=some b)->b<w2.heap.size:=λb hb=>by
   rcases hb with e|e| e
   ·have:=hX b e;omega
   ·omega
   ·exact kE.2.1.lt e
  have KT:=FK (xs.take (b*each))
  try dsimp only
  refine PG O$ Qu O$ OD$ OQ O (λh0=>?_)$ λh0=>?_
  ·have FM:b*each<xs.length:=by omega
   have Oe:=hN b FM;obtain⟨m,hm⟩:∃m,min (xs.length-b*each) each=m:=⟨_,rfl⟩;have dm:=dQ.Zq (x:=((st+b:Nat):Int)) (by omega) (by omega);have Bs:m*width<=each*width:=Nat.mul_le_mul_right _ (by omega);have jA:=uu b (by rw[dm];omega) m (by omega) (by omega);have dB:=(dQ.ext' hg).read (λb hb=>by have:=lP b hb;have:=hg.size;omega) hK (no:=((st+b:Nat):Int)) (by omega) (by omega);obtain⟨t,ht⟩:∃t,txt ((st+b:Nat):Int)=t:=⟨_,rfl⟩;rw[ht] at dm jA dB;refine OE$ Qx$ It$ R5 (λw'=>Kp (λj=>¬(X j\/j=bb\/v.ownBlock=some j)) w2 w') O$ OZ 0 O O (hg.kp)$ OI 1 O (Q4 O) (hg.kp)$ OI 2 O (Pp W1 O) (hg.kp)$ qT 3 O (λ_ hS=>OO XF O O (hS.OC am (λe=>e (.inl dl))) O) (hg.kp)$ OZ 4 O O (hg.kp)$ OI 5 O (Q4 O) (hg.kp)$ OI 6 O (Pp YZ O) (hg.kp)$ OI 7 O (Pp QX O) (hg.kp)$ qT 8 O (λ_ hS=>OO U3 O O (hS.OC am (λe=>e (.inl dl))) O) (hg.kp)$ OZ 9 O O (hg.kp) ?_;refine OI 10 O (Ud O O (by omega)) (hg.kp) ?_;rw[show(st:Int)+(b:Int)=((st+b:Nat):Int) by omega];refine SK 11 O zbP O (dB) ?_;rintro _ w3 ⟨rfl,fJ,av⟩;refine⟨hg.kp.trans av,?_⟩;have cU:=hg.kp.trans av;have ut:=kE.kp cU (λe=>e (.inr (.inl O))) (λg hg e=>e (.inr (.inr hg)));have au:=cU.OC am (λe=>e (.inl dl));refine OZ 12 O O (hg.kp.trans av)$ OI 13 O (Rw O O) (hg.kp.trans av)$ OI 14 O (Rw O O) (hg.kp.trans av)$ OI 15 O (R7 O) (hg.kp.trans av)$ OI 16 O (R7 O) (hg.kp.trans av)$ qE$ PG O$ Qf O$ PW O$ Qm O$ Pu O$ OX R4 O$ OX VX O$ qV (OO U3 O O au O) ?_;refine qV (ymi O O) ?_;rw[show min ((xs.length-b*each:Nat):Int) (each:Int)=(m:Int) by omega];refine Qw O$ P8 O$ OK O$ Pu O$ OX R4 O$ OX TW O$ qV (OO U3 O O au O)$ qV (Wm O O (by rw[<-Int.natCast_mul];omega)) ?_;rw[<-Int.natCast_mul];refine qV (YI (m:=m*width) U9 O O (by omega)) ?_;rw[jA];have gX:=FK ((xs.drop (b*each)).take m);have FN:((xs.drop (b*each)).take m).length=m:=by rw[List.length_take,List.length_drop];omega
   have FO:(xs.take (b*each)).length*width<=4194304*8:=Nat.mul_le_mul (by rw[List.length_take];omega) e5;rw[FN] at gX;refine P4 ziO O (z4O ut (UM width ((xs.drop (b*each)).take m)) (by omega)) ?_;rintro _ w4 ⟨v4,qt,ao,pf⟩;have z3:=cU.size;refine OD$ OL O$ P8 O$ Ro O$ OU O$ OA$ Rh O$ PV O$ OU O ?_;rw[show((xs.length-b*each:Nat):Int)-(m:Int)=((xs.length-(b+1)*each:Nat):Int) by rw[Nat.add_mul];omega];refine(ih (b+1,v4) _ ⟨?_,?_,λe=>by dsimp only at e;omega,λ_=>by omega,λg hg=>(pf g hg).elim (eg g) (λe=>by omega),?_,?_⟩ ?_).qb
   ·show b+1<=xs.length;have:b*1<=b*each:=Nat.mul_le_mul_left _ (by omega);omega
   ·show BdM w4 bb (UM width (xs.take ((b+1)*each))) v4
    have e:xs.take ((b+1)*each)=xs.take (b*each)++(xs.drop (b*each)).take m:=by
     rw[Nat.add_mul,Nat.one_mul,List.take_add]
     congr 1
     by_cases hc:xs.length-b*each<=each
     ·rw[List.take_of_length_le (by rw[List.length_drop];omega),List.take_of_length_le (by rw[List.length_drop];omega)]
     ·rw[show m=each by omega]
    rw[e];unfold UM at qt⊢;rw[List.flatMap_append];exact qt
   ·exact fJ.step ao (λj e=> .inr e) (λj e=>by
     rcases e with e|e| e
     ·exact .inl (.inl e)
     ·exact .inl (.inr (.inl e))
     ·exact(pf j e).imp (λe=> .inr (.inr e)) id)
   ·refine(aq.trans (cU.OV λb e e2=>e (.inl e2))).An ao λb e=> .inl ?_;rcases e with e| e
    ·omega
    ·exact eg b e
   ·dsimp only;rw[Nat.add_mul];omega
  ·have dV:xs.take (b*each)=xs:=List.take_of_length_le (by omega);rw[dV] at kE;have Mh:=FK xs;have FO:xs.length*width<=4194304*8:=Nat.mul_le_mul ip e5
   have qU:UM width xs=[]->v= .slice none 0 0:=λe=>rL (by
    have e1:=congrArg List.length e;rw[Mh,List.length_nil] at e1;have e2:xs.length=0:=(Nat.mul_eq_zero.1 e1).resolve_right (by omega)
    omega)
   refine ON O$ qN O$ P4 zjv O (z2J kE qU (by omega)) ?_;rintro _ w3 ⟨rfl,av⟩;refine PU O$ OB func50 O ?_;exact⟨_,rfl,rfl,dQ.step av (λb e=> .inr (.inr e)) (λb e=> .inl (.inl e)),aq.An av (λb e=> .inl (eg b e))⟩
end
section
variable {w w':World}{Q:Rn}{txt:Int->OG}{K:Nat}{X:Nat->Prop}{vb width st each n:Nat}{xs:List Nat}
theorem z5N (hP:Sp Q txt K X w)(hX:∀b,X b->b<w.heap.size)(hv:Tz Q txt vb width st xs w)(dl:X vb)(df:2<=st)(hc:∀i,st<=i->i<st+Rl xs.length (512 / width)->Q.L[i]? =some true):
  Pm prog 80 [ptr vb 0] w λv w'=>v=I 0/\∃txt',Sp (Q.Qj (Qh Q.L st (Rl xs.length (512 / width)) false)) txt' K X w'/\(∀y:Int,y<(st:Int)\/(st:Int)+(Rl xs.length (512 / width):Int)<=y->txt' y=txt y)/\Kp (λb=>¬X b\/b=vb) w w':=by
 have hB:=hv.cells
 have cd:=hv.fit
 have jp:1<=Rl xs.length (512 / width):=Nat.le_max_left _ _
 have hg:=Ext.OT w
 have Mi:=(hP.ext' hg).zks (λb hb=>by have:=hX b hb;have:=hg.size;omega) jp df cd hc
 generalize Rl xs.length (512 / width)=N at*
 refine py (e:=[(0,_)]) func80 O ntmps80 O O$ QB O$ PG O$ P4 z73 O (Sq hv) ?_
 rintro _ w ⟨rfl,rfl⟩
 refine Qt O$ Qf O$ PW O$ It$ It$ R5 (λw'=>Kp (λb=>¬X b) w w') O$ OZ 0 O O (hg.kp)$ OI 1 O (Q4 O) (hg.kp)$ OI 2 O (Pp W1 O) (hg.kp)$ qT 3 O (λ_ h=>OO XF O O (h.OC hB (λe=>e dl)) O) (hg.kp)$ OZ 4 O O (hg.kp)$ OI 5 O (Q4 O) (hg.kp)$ OI 6 O (Pp YZ O) (hg.kp)$ qT 7 O (λ_ hS=>Pt Xu O R6 O (OR.cells (n:=2) (hS.OC hB (λe=>e dl)) (news:=[_,_]) O) O) (hg.kp) ?_
 refine SK 8 O zkj O (Mi) ?_
 rintro _ w1 ⟨rfl,txt1,j3,kS,aL⟩
 refine⟨hg.kp.trans aL,?_⟩
 have iM:=hg.kp.trans aL
 have aj:=iM.OC hB (λe=>e dl)
 refine OI 9 O (R7 O) (hg.kp.trans aL)$ qE$ Pf O$ Qf O$ PW O$ Pf O$ Pu O$ OX z8q O$ OW O (QQ W3 O O O aj (by simp)) ?_
 rintro w2 ⟨am,aq⟩
 refine qM O$ OU O$ OB func80 O ?_
 exact⟨_,rfl,rfl,txt1,j3.own aq (λb e=>by rw[e];exact dl),kS,(iM.OV λb e=> .inl e).trans (aq.OV λb e=> .inr e)⟩
def VcT.any {txt:Int->OG}{st width each n:Nat}(he:1<=each)(hw:each*width<=512)(h:∀i,i<n->(txt ((st+i / each:Nat):Int)).length=512):∃xs:List Nat,xs.length=n/\VcT txt st width each xs:=by
 refine⟨(List.range n).map λi=>Pv (P3 (((txt ((st+i / each:Nat):Int)).drop (i%each*width)).take width)),by simp,λi x hx=>?_⟩
 rw[List.getElem?_map] at hx
 by_cases hi:i<n
 ·rw[List.getElem?_range hi] at hx;cases hx;have hl:=h i hi;have hm:(i%each+1)*width<=each*width:=Nat.mul_le_mul_right _ (Nat.mod_lt _ he);rw[Nat.add_mul,Nat.one_mul] at hm
  have az:(((txt ((st+i / each:Nat):Int)).drop (i%each*width)).take width).length=width:=by
   rw[List.length_take,List.length_drop,hl];omega
  refine⟨?_,?_⟩
  ·have hb:=z0u (((txt ((st+i / each:Nat):Int)).drop (i%each*width)).take width);rw[az] at hb;exact hb.symm
  ·have h1:=QF (P3 (((txt ((st+i / each:Nat):Int)).drop (i%each*width)).take width));rw[bitsT_length,az] at h1;exact h1
 ·rw[List.getElem?_eq_none (by simpa using hi)] at hx;cases hx
theorem z9S (hP:Sp Q txt K X w)(hX:∀b,X b->b<w.heap.size)(hK:K<=800000000000){a:Nat}(hp:Pre Q.L a)(n width:Nat)(hn:n<=4194304)(oU:width=1\/width=2\/width=4\/width=8)(cd:a+Rl n (512 / width)<=Q.L.length):
  Pm prog 39 [ptr Q.s 0,I (n:Int),I (width:Int)] w λv w'=>∃vb txt',v= .tuple #[ptr vb 0,I 0]/\w.heap.size<=vb/\Sp (Q.Qj (Qh Q.L a (Rl n (512 / width)) true)) txt' (K+Rl n (512 / width)) (λb=>X b\/b=vb) w'/\Tz (Q.Qj (Qh Q.L a (Rl n (512 / width)) true)) txt' vb width a (List.replicate n 0) w'/\(∀y:Int,y<(a:Int)\/(a:Int)+(Rl n (512 / width):Int)<=y->txt' y=txt y)/\Kp (λb=>¬X b) w w':=by
 have jp:1<=Rl n (512 / width):=Nat.le_max_left _ _
 have dW:=hP.n
 obtain⟨e1,e2,e3,e4,e5⟩:64<=512 / width/\512 / width<=512/\512 / width*width=512/\1<=width/\width<=8:=by
  rcases oU with e|e|e|e<;>subst e<;>decide
 have fS:(Qh Q.L a (Rl n (512 / width)) true).length=Q.L.length:=PY cd
 refine py (e:=[(0,_),(1,_),(2,_)]) func39 O ntmps39 O O$ qN O$ PU O$ Qx$ Pf O$ qV (Qi XF O O)$ OU O$ OJ O$ It$ PI (λe' w'=>w'=w/\e'=[(0,ptr Q.s 0),(1,I (n:Int)),(2,I (width:Int)),(15,.bool false)]) ?aw$ λaw=>?dz
 case aw=>
  rintro e' w' ⟨rfl,rfl⟩;refine Tu O$ OA$ Qm O$ OK O$ P4 z5P O (hP.size) ?_;rintro _ w' ⟨rfl,rfl⟩;refine OK O$ qV (VI O O (by omega)) ?_;rw[show(512:Int) / (width:Int)=((512 / width:Nat):Int) from rfl];refine qV (Sk (cs:=[_,_,_]) Yo O zjp O O)$ OK O$ qV (Sk (cs:=[_,_,_,_,_,_,_]) zgN O zhf O O)$ OM O O (Rm O (cs:=[I (n:Int),I (width:Int),I ((512 / width:Nat):Int),I 0,I 0,ptr Q.s 0,.bool false]) O) ?_;rintro _ w1 ⟨vb,rfl,dl,ad,aj⟩;refine Qw O$ P8 O$ Pu O$ OX R4 O$ qV (Pt za9 O Yo O (OR.cells (n:=3) aj (news:=[_,_,_]) O) O)$ P4 zhV O (Z6 n width (512 / width) ⟨by omega,e2⟩ hn _) ?_;rintro _ w2 ⟨rfl,ae⟩;have aJ:=ad.trans ae;have am:=ae.OC aj;have z1:=ad.size;have z2:=ae.size;have l1:=aj.lt;have dQ:Sp Q txt K (λb=>X b\/b=vb) w2:=hP.ext aJ (λb e=>e.imp id λe=>by omega)
  have gR:∀b,(X b\/b=vb)->b<w2.heap.size:=λb hb=>by
   rcases hb with e| e
   ·have:=hX b e;have:=aJ.size;omega
   ·omega
  obtain⟨N,hN⟩:∃N,Rl n (512 / width)=N:=⟨_,rfl⟩;rw[hN] at jp cd fS⊢;refine P4 zj9 O (dQ.take gR hp jp cd) ?_;rintro _ w3 ⟨rfl,fJ,av⟩;have au:=av.OC am (λe=>e (.inr O));have z3:=av.size;refine OK O$ RA O$ OM O O (RN (cs:=[_,_]) R6 O) ?_;rintro _ w4 ⟨b9,rfl,oI,aD,aK⟩;refine OW O (PO (news:=[I (a:Int),I (N:Int)]) R6 O O O O aK (by simp)) ?_;rintro w5 ⟨aH,ak⟩;replace aH:OR w5 b9 [I (a:Int),I (N:Int)] 119:=aH;have bV:Ext w3 w5:=aD.An ak (λj e=>by omega);have cZ:=bV.OC au;have fO:=fJ.ext' bV;refine OU O$ Pn.qb (e:=[(0,_),(8,_),(9,_),(10,_)]) ?_;refine PG O$ Qf O$ PW O$ Pf O$ qV (Pt Xu O R6 O (OR.cells (n:=2) aH (news:=[_,_]) O) O)$ Pu O$ OX YZ O$ OW O (PO (news:=[I (a:Int),I (N:Int)]) R6 O O O O cZ (by simp)) ?_;rintro w6 ⟨aQ,aP⟩;replace aQ:OR w6 vb [I (n:Int),I (width:Int),I ((512 / width:Nat):Int),I (a:Int),I (N:Int),ptr Q.s 0,.bool false] 157:=aQ;have j4:=fO.own aP (λb e=> .inr e);have az:(Q.Qj (Qh Q.L a N true)).L.length=Q.L.length:=fS
  obtain⟨xs,dj,BA⟩:=VcT.any (txt:=txt) (st:=a) (width:=width) (each:=512 / width) (n:=n) (by omega) (by omega) (λi hi=>by
   have qj:=Zh (each:=512 / width) (by omega) hi;rw[hN] at qj
   generalize i / (512 / width)=q at qj⊢
   exact j4.Zq (by omega) (by rw[az];omega))
  have Mj:Tz (Q.Qj (Qh Q.L a N true)) txt vb width a xs w6:=⟨by rw[dj,hN];exact aQ,oU,BA,by omega,by rw[dj,hN,az];exact cd⟩
  have o6:∀b,(X b\/b=vb)->b<w6.heap.size:=λb hb=>by
   have:=gR b hb;have:=bV.size;have:=aP.size;omega
  have rX:=z7A j4 o6 (by omega) Mj (.inr O) (x:=0) (Nat.two_pow_pos _);rw[dj,hN] at rX;refine OD$ PG O$ P4 zkV O (rX) ?_;rintro _ w7 ⟨rfl,hW⟩;obtain⟨txt7,rW,Bh,Mk,aC⟩:=hW;refine Qt O$ Qf O$ PW O$ Pf O$ PU O$ OB func39 O ?_;have eI:(List.replicate n 0).length=n:=List.length_replicate;refine⟨_,rfl,vb,txt7,rfl,by omega,rW,Bh,λy hy=>Mk y (by rw[eI,hN];exact hy),?_⟩;have cu:Kp (λb=>¬X b) w' w3:=aJ.kp.trans (av.OV λb e e2=>e (.inl e2));exact((cu.trans bV.kp).An aP (λb e=> .inl (by omega))).trans (aC.OV λb e e2=>e (.inl e2))
 case dz=>
  rcases oU with rfl|rfl|rfl|rfl
  ·refine Rh O$ Qq O$ PF$ P8 O$ Qu O$ PF$ PK O$ P8 O$ Qf O$ PF$ OK O$ QG$ PK O$ OK O ?_;refine QG$ PK O$ OK O$ QG$ PK O$ PK O$ OU O$ Pn.qb (e:=[(0,_),(1,_),(2,_),(6,_),(7,_),(15,_)]) ?_;exact(aw _ _ ⟨rfl,rfl⟩).qb
  ·refine Rh O$ Qq O$ PF$ P8 O$ Qu O$ PF$ PK O$ P8 O$ Qf O$ Rp$ P8 O$ Qf O$ PF$ QJ O ?_;refine OK O$ QG$ PK O$ OK O$ QG$ PK O$ PK O$ OU O$ Pn.qb (e:=[(0,_),(1,_),(2,_),(6,_),(7,_),(15,_)]) ?_;exact(aw _ _ ⟨rfl,rfl⟩).qb
  ·refine Rh O$ Qq O$ PF$ P8 O$ Qu O$ PF$ PK O$ P8 O$ Qf O$ Rp$ P8 O$ Qf O$ Rp$ QJ O ?_;refine P8 O$ Qf O$ PF$ QJ O$ OK O$ QG$ PK O$ PK O$ OU O$ Pn.qb (e:=[(0,_),(1,_),(2,_),(6,_),(7,_),(15,_)]) ?_;exact(aw _ _ ⟨rfl,rfl⟩).qb
  ·refine Rh O$ Qq O$ PF$ P8 O$ Qu O$ PF$ PK O$ P8 O$ Qf O$ Rp$ P8 O$ Qf O$ Rp$ QJ O ?_;refine P8 O$ Qf O$ Rp$ QJ O$ P8 O$ Qf O$ PF$ QJ O$ PK O$ OU O$ Pn.qb (e:=[(0,_),(1,_),(2,_),(6,_),(7,_),(15,_)]) ?_;exact(aw _ _ ⟨rfl,rfl⟩).qb
end
structure Gr where
 n:Nat
 succ:Nat->List Nat
 lt:∀v u,u∈succ v->u<n
def SY {g:List (List Nat)}(h:Se g)(v u:Nat)(hu:u∈P5 g v):u<g.length:=by
 unfold P5 at hu
 cases e:g[v]? with
 |none=>rw[e] at hu;cases hu
 |some l=>rw[e] at hu;exact h.lt l (List.mem_of_getElem? e) u hu
abbrev Ds:=List (Option Nat)
section
end
section
end
/-! ### The same with a flag: whether there were some -/
/-! ### A run -/
structure BfS where
 t:Nat
 done:Bool
 d:Ds
section
variable {g:List (List Nat)}
end
def z8B {v:Nat}(h:v<=200000):Nat.log2 (v+1)<=17:=by
 have h1:=Nat.log2_self_le (n:=v+1) (by omega)
 have h3:2^Nat.log2 (v+1)<2^18:=by
  have:(2:Nat)^18=262144:=by decide
  omega
 have:=(Nat.pow_lt_pow_iff_right (by decide:1<2)).1 h3
 omega
def XN.zdi {k:Nat}{q:Cd×Nat}(h:XN k q)(hk:1<=k/\k<=3):(q.1.enc q.2).length<=40:=by
 rw[WJ]
 rcases h with⟨e,h⟩|⟨e,h⟩|⟨e,h⟩
 ·rw[e];show q.2+1+0<=_;omega
 ·have:=z8B h;rw[e];show Nat.log2 (q.2+1)+1+Nat.log2 (q.2+1)<=_;omega
 ·have h3:=z8B h;have h4:Nat.log2 (q.2+1) / k<=Nat.log2 (q.2+1):=Nat.div_le_self _ _;have hm:Nat.log2 (q.2+1) / k*k<=Nat.log2 (q.2+1):=Nat.div_mul_le_self _ _
  have h5:(RI (q.2+1-2^(Nat.log2 (q.2+1) / k*k)) (2^(Nat.log2 (q.2+1) / k*k)*2^k-2^(Nat.log2 (q.2+1) / k*k))).2<=20:=by
   have h6:PR (2^(Nat.log2 (q.2+1) / k*k)*2^k-2^(Nat.log2 (q.2+1) / k*k)-1)<=20:=by
    refine R9 ?_;have h7:=Nat.pow_le_pow_right (show 0<2 by decide) (show Nat.log2 (q.2+1) / k*k+k<=20 by omega);rw[Nat.pow_add] at h7;have:=Nat.two_pow_pos (Nat.log2 (q.2+1) / k*k);omega
   unfold RI;dsimp only;split
   ·show PR _-1<=20;omega
   ·exact h6
  rw[e];show Nat.log2 (q.2+1) / k+1+(RI _ _).2<=_;omega
def z7y {p:S6}(hp:p.QA)(hz:p.zeta<=3){x:Nat}(hx:x<65536){succ ref:List Nat}(hs:PE succ)(hr:PE ref){r:Nat}(ij:r<=p.Pb)(KJ:succ.length<=40)(AV:ref.length<=40):(Pa (RE p x succ ref r)).length<=6600:=by
 have ay:PE (Pk succ ref):=hs.sub List.filter_sublist
 have fS:(Pk succ ref).length<=succ.length:=List.length_filter_le _ _
 have h1:=(Td succ ref).z1f
 rw[List.length_map] at h1
 have h2:=z2s p.interval ay
 have h3:=(UB p.interval (Pk succ ref)).length_le
 have az:(RE p x succ ref r).length<=165:=by
  unfold RE;rw[List.length_cons];split
  ·simp
  rw[List.length_append,List.length_append];have e1:(if 0<p.Pb then [(Cd.unary,r)] else []).length<=1:=by split<;>simp
  have e2:(if 0<r then(Cd.gamma,(Rf succ ref).length-1)::Qp 0 (Rf succ ref).dropLast else []).length<=42:=by
   split
   ·rw[List.length_cons,Tc,List.length_dropLast];omega
   ·simp
  have e3:(if Pk succ ref=[] then [] else(if 0<p.interval then(Cd.gamma,(PT p.interval (Pk succ ref)).1.length)::PM x p.interval none (PT p.interval (Pk succ ref)).1 else [])++PN x p.zeta none (PT p.interval (Pk succ ref)).2).length<=121:=by
   split
   ·simp
   ·rw[List.length_append,Tl];split
    ·rw[List.length_cons,Su];omega
    ·simp;omega
  omega
 have:=z2C (n:=40) (L:=RE p x succ ref r) (λq hq=>(z0x hp hx hs hr ij q hq).zdi ⟨hp.2.2.1,hz⟩)
 omega
section
variable {p:Qr}{g:List (List Nat)}{E:List (Nat×Nat)}
def zgu (h:T2 p g E)(vW:g.length<=40)(hz:p.zeta<=3){i:Nat}(hi:i<g.length):(Yf p g E i).length<=6600:=by
 unfold Yf
 have tI:g[i]? =some g[i]:=List.getElem?_eq_getElem hi
 have rB:i<E.length:=by have:=h.pk.el;omega
 have IP:E[i]? =some E[i]:=List.getElem?_eq_getElem rB
 have i5:=h.pk.ok.ent i _ IP
 rw[tI,IP]
 rw[tI] at i5
 show(Pa (RE p.list i g[i] (QH g i E[i].1) E[i].1)).length<=6600
 have h2:PE (QH g i E[i].1)/\(QH g i E[i].1).length<=40:=by
  rcases Xl g i E[i].1 with e| e
  ·rw[e];exact⟨⟨List.Pairwise.nil,λy h=>(by cases h)⟩,Nat.zero_le _⟩
  ·exact⟨h.gr.ok _ e,by have:=h.gr.len e;omega⟩
 have ij:E[i].1<=p.list.Pb:=by
  rcases i5 with e|⟨-,h3,-⟩
  ·rw[e];exact Nat.zero_le _
  ·exact h3
 have hm:g[i]∈g:=List.getElem_mem hi
 exact z7y h.QA.1 hz (by omega) (h.gr.ok _ hm) h2.1 ij (by have:=h.gr.len hm;omega) h2.2
def zb7 (h:T2 p g E)(vW:g.length<=40)(hz:p.zeta<=3):∀n,n<=g.length->(QD p g E n).length<=n*6600
 |0,_=>by simp[QD]
 | n + 1, hn => by
   have:=zb7 h vW hz n (by omega);have:=zgu h vW hz (i:=n) (by omega);rw[Tb,List.length_append,Nat.add_mul];omega
def zdh {n u:Nat}(hn:1<=n):(U1 n u).bits<=3*n:=by
 show(u-1) / 2^Yg n u+n<=_
 have h:u<2*n*2^Yg n u:=by
  unfold Yg;split
  ·rename_i e
   have:=(Nat.div_eq_zero_iff).1 e;omega
  ·rename_i e
   have h1:=WY (v:=u / n);have h2:=(Nat.div_lt_iff_lt_mul (by omega)).1 h1;have h3:1<=PR (u / n):=by unfold PR;rw[if_neg e];omega
   rw[show PR (u / n)=PR (u / n)-1+1 by omega,Nat.pow_succ,Nat.mul_comm _ n,Nat.mul_comm _ 2,<-Nat.mul_assoc,Nat.mul_comm n 2] at h2;exact h2
 have h4:(u-1) / 2^Yg n u<2*n:=(Nat.div_lt_iff_lt_mul (Nat.two_pow_pos _)).2 (by omega)
 omega
def zbh (h:T2 p g E)(vW:g.length<=40)(hz:p.zeta<=3):(XY p g E).length<=36000:=by
 have h1:=zb7 h vW hz g.length (Nat.le_refl _)
 have h2:g.length*6600<=40*6600:=Nat.mul_le_mul_right _ vW
 have h3:(pfm p g E).size<=2900:=by
  have hw:Yg (g.length+1) ((QD p g E g.length).length+1)<=30:=Zs (by omega);have hb:=zdh (n:=g.length+1) (u:=(QD p g E g.length).length+1) (by omega);have hm:(g.length+1)*Yg (g.length+1) ((QD p g E g.length).length+1)<=41*30:=Nat.mul_le_mul (by omega) hw;show 12+((g.length+1)*Yg (g.length+1) ((QD p g E g.length).length+1)+7) / 8+((U1 (g.length+1) ((QD p g E g.length).length+1)).bits+7) / 8+4*((g.length+1+63) / 64)<=2900;omega
 rw[h.len]
 unfold Wh
 omega
end
structure Yi where
 p:Qr
 g:List (List Nat)
 E:List (Nat×Nat)
 st:Nat
 len:Nat
 rb:Nat
 sum:Nat
 k:Nat
 x:Nat
def S3 (G:Yi)(Q:Rn)(txt:Int->OG)(K:Nat)(X:Nat->Prop)(w:World):Prop:=∃o:StO Q txt K G.st G.len (XY G.p G.g G.E),UN (z8V o G.rb G.sum) G.k G.x X w
section
variable {G:Yi}{w w':World}{Q Q':Rn}{txt txt':Int->OG}{K K':Nat}{X Y S':Nat->Prop}
def S3.sp (h:S3 G Q txt K X w):Sp Q txt K (λb=>X b\/b=G.rb) w:=by obtain⟨o,h⟩:=h;exact h.inv.1
def S3.rbB (h:S3 G Q txt K X w):OR w G.rb (srC Q.s G.st G.len (XY G.p G.g G.E).length G.sum) 205:=by obtain⟨o,h⟩:=h;exact h.inv.2.1
def S3.rbX (h:S3 G Q txt K X w):¬X G.rb:=by obtain⟨o,h⟩:=h;exact h.inv.2.2
def S3.lt (h:S3 G Q txt K X w):∀b,X b->b<w.heap.size:=by obtain⟨o,h⟩:=h;exact h.lt
def S3.lt1 (h:S3 G Q txt K X w):∀b,(X b\/b=G.rb)->b<w.heap.size:=λb hb=>hb.elim (h.lt b) (λe=>by rw[e];exact h.rbB.lt)
def S3.z5E (h:S3 G Q txt K X w):K<1000000000000:=by obtain⟨o,h⟩:=h;exact o.k
def S3.xk (h:S3 G Q txt K X w):X G.k/\X G.x/\X 2/\X 3:=by obtain⟨o,h⟩:=h;exact⟨h.xk,h.xx,h.x1,h.x2⟩
theorem S3.ok (h:S3 G Q txt K X w):T2 G.p G.g G.E:=by obtain⟨o,h⟩:=h;exact h.ok
theorem S3.Zu (h:S3 G Q txt K X w)(hk:Kp S' w w')(hS:∀b,S' b->¬(X b\/b=G.rb)\/(X b/\b≠G.k/\b≠G.x/\b≠2/\b≠3))(hP:Sp Q' txt' K' (λb=>X b\/b=G.rb) w')(hs:Q'.s=Q.s)(hl:Q'.L.length=Q.L.length)(hK:K'<1000000000000)(ht:∀y:Int,(G.st:Int)<=y->y<(G.st:Int)+(G.len:Int)->txt' y=txt y):S3 G Q' txt' K' X w':=by
 have uq:=h.rbX
 have BB:=h.rbB
 obtain⟨o,h⟩:=h
 have az:=o.len
 refine⟨⟨hK,by rw[hl];exact o.fit,o.laid.TH λk hk=>ht _ (by omega) (by omega),o.len⟩,h.re hk (λj hj=>?_) ⟨hP,?_,uq⟩⟩
 ·rcases hS j hj with e| e
  ·exact⟨λe2=>e (.inl (e2▸h.xk)),λe2=>e (.inl (e2▸h.xx)),λe2=>e (.inl (e2▸h.x1)),λe2=>e (.inl (e2▸h.x2))⟩
  ·exact e.2
 ·rw[hs];exact hk.OC BB (λe=>(hS _ e).elim (λe=>e (.inr O)) (λe=>uq e.1))
def S3.zdM (h:S3 G Q txt K X w)(hk:Kp S' w w')(hS:∀b,S' b->¬(X b\/b=G.rb))(cL:∀j,X j->Y j)(hY:∀j,Y j->X j\/(w.heap.size<=j/\j<w'.heap.size))(hP:Sp Q' txt' K' (λb=>Y b\/b=G.rb) w')(hs:Q'.s=Q.s)(hl:Q'.L.length=Q.L.length)(hK:K'<1000000000000)(ht:∀y:Int,(G.st:Int)<=y->y<(G.st:Int)+(G.len:Int)->txt' y=txt y):S3 G Q' txt' K' Y w':=by
 have uq:=h.rbX
 have BB:=h.rbB
 obtain⟨o,h⟩:=h
 have az:=o.len
 have hI:(z8V (⟨hK,by rw[hl];exact o.fit,o.laid.TH λk hk=>ht _ (by omega) (by omega),o.len⟩:StO Q' txt' K' G.st G.len (XY G.p G.g G.E)) G.rb G.sum).inv Y w':=⟨hP,by rw[hs];exact hk.OC BB (λe=>hS _ e (.inr O)),λe=>(hY _ e).elim uq (λe=>by have:=BB.lt;omega)⟩
 refine⟨_,⟨h.ok,hk.OC h.OC (λe=>hS _ e (.inl h.xk)),hk.OC h.ix (λe=>hS _ e (.inl h.xx)),cL _ h.xk,cL _ h.xx,hI,λj hj=>?_,cL _ h.x1,cL _ h.x2,hk.OC h.gam (λe=>hS _ e (.inl h.x1)),hk.OC h.una (λe=>hS _ e (.inl h.x2))⟩⟩
 rcases hY j hj with e| e
 ·have:=h.lt j e;have:=hk.size;omega
 ·exact e.2
def S3.grow (h:S3 G Q txt K X w)(hx:Ext w w')(hY:∀j,Y j->X j\/(w.heap.size<=j/\j<w'.heap.size))(cL:∀j,X j->Y j):S3 G Q txt K Y w':=by
 obtain⟨o,h⟩:=h
 exact⟨o,h.grow hx hY cL⟩
def S3.ext (h:S3 G Q txt K X w)(hx:Ext w w'):S3 G Q txt K X w':=h.grow hx (λj hj=> .inl hj) λj hj=>hj
def S3.own (h:S3 G Q txt K X w)(hk:Kp S' w w')(hS:∀j,S' j->X j/\j≠G.k/\j≠G.x/\j≠2/\j≠3):S3 G Q txt K X w':=by
 obtain⟨o,h⟩:=h
 exact⟨o,h.own hk hS⟩
theorem S3.step (h:S3 G Q txt K X w)(hk:Kp S' w w')(hS:∀j,S' j->X j/\j≠G.k/\j≠G.x/\j≠2/\j≠3)(hY:∀j,Y j->X j\/(w.heap.size<=j/\j<w'.heap.size))(cL:∀j,X j->Y j):S3 G Q txt K Y w':=by
 obtain⟨o,h⟩:=h
 exact⟨o,h.step hk hS hY cL⟩
def S3.less (h:S3 G Q txt K Y w)(cL:∀j,X j->Y j)(hx:X G.k/\X G.x/\X 2/\X 3):S3 G Q txt K X w:=by
 obtain⟨o,h⟩:=h
 exact⟨o,h.less cL hx.1 hx.2.1 hx.2.2.1 hx.2.2.2⟩
theorem S3.more (h:S3 G Q txt K X w)(hK:K<=K')(Ml:K'<1000000000000):S3 G Q txt K' X w:=h.Zu (S':=λ_=>False) (Kp.refl _ w) (λ_ e=>e.elim) (h.sp.more hK) O O Ml λ_ _ _=>rfl
def Xh (h:S3 G Q txt K X w):Pm prog 40 [ptr G.k 0] w λv w'=>v=I (G.g.length:Int)/\w'=w:=by
 obtain⟨o,h⟩:=h
 exact zdT h
def z6O {l bk bi v:Nat}(jf:G.g.length<50)(hv:v<G.g.length)(h:S3 G Q txt K X w)(gW:OR w bk [ptr G.k 0] 30)(zX:OR w bi [I (v:Int)] 3)(Z:Nat->Prop)(hZ:∀j,Z j->X j)(J:(Nat->Prop)->Nat->World->Prop)(F:World->Prop)
  (h0:∀(Y:Nat->Prop) (w':World),(∀j,X j->Y j)->(∀j,Y j->X j\/w.heap.size<=j)->S3 G Q txt K Y w'->Kp (λj=>¬X j) w w'->J Y 0 w')
  (hround:∀(Y:Nat->Prop) (i s:Nat) (w':World),(∀j,X j->Y j)->(∀j,Y j->X j\/w.heap.size<=j)->(P5 G.g v)[i]? =some s->J Y i w'->z3x prog l [Pq s,I 0] w' λr w''=>(r= .bool true/\J Y (i+1) w''/\Kp (λj=>¬Y j\/Z j) w' w'')\/(r= .bool false/\F w'')):
  Pm prog 195 [.func (.yield l) #[] #[],ptr bk 0,ptr bi 0] w λr w'=>r= .tuple #[]/\((∃Y,(∀j,X j->Y j)/\(∀j,Y j->X j\/w.heap.size<=j)/\J Y (P5 G.g v).length w')\/F w'):=by
 obtain⟨o,h⟩:=h
 exact z6V jf hv h gW zX Z hZ J F (λY w' h1 h2 h3 h4=>h0 Y w' h1 h2 ⟨o,h3⟩ h4) hround
end
def GrR (w:World)(gb go:Nat)(g:List (List Nat)):Prop:=∀(v:Nat) (l:List Nat),g[v]? =some l->∃(a:Option Addr) (c:Nat),w.cell? ⟨gb,go+v*1,none⟩=some (.slice a l.length c)/\∀(i x:Nat),l[i]? =some x->∃lb lo,a=some ⟨lb,lo,none⟩/\w.cell? ⟨lb,lo+i*1,none⟩=some (Pq x)
def PH {w w':World}{a:Addr}{u:Value}(hx:Ext w w')(h:w.cell? a=some u):w'.cell? a=some u:=by
 unfold World.cell? at h⊢
 cases hh:w.heap[a.block]? with
 |none=>rw[hh] at h;simp at h
 |some o=>rw[hx.heap hh id];rw[hh] at h;exact h
def GrR.ext {w w':World}{gb go:Nat}{g:List (List Nat)}(h:GrR w gb go g)(hx:Ext w w'):GrR w' gb go g:=λv l hl=>by
 obtain⟨a,c,h1,h2⟩:=h v l hl
 refine⟨a,c,PH hx h1,λi x hi=>?_⟩
 obtain⟨lb,lo,e,h3⟩:=h2 i x hi
 exact⟨lb,lo,e,PH hx h3⟩
theorem GrM.r {w:World}{v:Value}{g:List (List Nat)}(h:GrM w v g)(h1:1<=g.length):∃gb go gc,v= .slice (some ⟨gb,go,none⟩) g.length gc/\GrR w gb go g:=by
 obtain⟨vs,hr,hv⟩:=h.ex
 rcases hr.2 with⟨c,-,h0⟩|⟨gb,go,gc,e,hc⟩
 ·omega
 ·refine⟨gb,go,gc,e,λv l hl=>?_⟩;obtain⟨a,c,g1,g2,g3⟩:=hv v l hl;refine⟨a,c,by rw[Nat.mul_one];exact hc v _ g1,λi x hi=>?_⟩;rcases g3.2 with⟨c',-,h0⟩|⟨lb,lo,lc,e2,ev⟩
  ·have:l=[]:=List.eq_nil_of_length_eq_zero h0;rw[this] at hi;cases hi
  ·cases e2;exact⟨lb,lo,rfl,by rw[Nat.mul_one];exact ev i _ (by rw[List.getElem?_map,hi];rfl)⟩
/-! ### Distances -/
structure Zo (w:World)(bg B:Nat)(L:List (List Nat)):Prop where
 ex:∃vs:List Value,OR w bg vs 49/\vs.length=L.length/\∀(i:Nat) (l:List Nat),L[i]? =some l->∃(a:Option Addr) (c:Nat),vs[i]? =some (.slice a l.length c)/\l.length<=c/\Rd w (.slice a l.length c) 1 l.length (l.map Pq)/\∀b,(Value.slice a l.length c).ownBlock=some b->B<=b/\b≠bg
section
variable {w w':World}{bg B:Nat}{L:List (List Nat)}
def Zo.ext (h:Zo w bg B L)(hx:Ext w w'):Zo w' bg B L:=by
 obtain⟨vs,h1,h2,h3⟩:=h.ex
 refine⟨vs,hx.OC h1,h2,λi l hl=>?_⟩
 obtain⟨a,c,g1,g2,g3,g4⟩:=h3 i l hl
 exact⟨a,c,g1,g2,g3.ext hx,g4⟩
def Zo.new {n:Nat}(h:OR w bg (List.replicate n (.slice none 0 0)) 49):Zo w bg B (List.replicate n []):=
 ⟨_,h,by simp,λi l hl=>by
  rw[List.getElem?_replicate] at hl;split at hl
  ·rename_i hi
   cases hl;exact⟨none,0,by rw[List.getElem?_replicate,if_pos hi];rfl,Nat.le_refl _,⟨rfl,.inl ⟨(none,0),rfl,rfl⟩⟩,λb hb=>by cases hb⟩
  ·cases hl⟩
theorem Zo.set (h:Zo w bg B L){f:Nat}{l:List Nat}{a:Option Addr}{c:Nat}(hk:Kp (λb=>b=bg) w w')(hB:∀vs,OR w bg vs 49->OR w' bg (vs.set (0+f*1) (.slice a l.length c)) 49)(hf:f<L.length)(iz:l.length<=c)(hr:Rd w (.slice a l.length c) 1 l.length (l.map Pq))(ho:∀b,(Value.slice a l.length c).ownBlock=some b->B<=b/\b≠bg):Zo w' bg B (L.set f l):=by
 obtain⟨vs,h1,h2,h3⟩:=h.ex
 refine⟨_,hB vs h1,by simp[h2],λi l' hl=>?_⟩
 rw[Nat.zero_add,Nat.mul_one]
 by_cases e:f=i
 ·subst e;rw[List.getElem?_set_self hf] at hl;cases hl;exact⟨a,c,List.getElem?_set_self (by rw[h2];exact hf),iz,hr.kp hk (λb hb e=>(ho b hb).2 e),ho⟩
 ·rw[List.getElem?_set_ne e] at hl;obtain⟨a',c',g1,g2,g3,g4⟩:=h3 i l' hl;exact⟨a',c',by rw[List.getElem?_set_ne e];exact g1,g2,g3.kp hk (λb hb e=>(g4 b hb).2 e),g4⟩
def Zo.gr (h:Zo w bg B L):GrM w (.slice (some ⟨bg,0,none⟩) L.length L.length) L:=by
 obtain⟨vs,h1,h2,h3⟩:=h.ex
 refine⟨vs,⟨by rw[h2,Nat.mul_one],.inr ⟨bg,0,L.length,rfl,λj u hj=>by rw[h1.cell,Nat.zero_add];exact hj⟩⟩,λi l hl=>?_⟩
 obtain⟨a,c,g1,g2,g3,g4⟩:=h3 i l hl
 exact⟨a,c,g1,g2,g3⟩
def Zo.lt (h:Zo w bg B L):bg<w.heap.size:=by obtain⟨vs,h1,-⟩:=h.ex;exact h1.lt
theorem Zo.cell (h:Zo w bg B L){f:Nat}{l:List Nat}(hf:L[f]? =some l):∃(a:Option Addr) (c:Nat),w.cell? ⟨bg,0+f*1,none⟩=some (.slice a l.length c)/\l.length<=c/\Rd w (.slice a l.length c) 1 l.length (l.map Pq)/\∀b,(Value.slice a l.length c).ownBlock=some b->B<=b/\b≠bg:=by
 obtain⟨vs,h1,h2,h3⟩:=h.ex
 obtain⟨a,c,g1,g2,g3,g4⟩:=h3 f l hf
 exact⟨a,c,by rw[h1.cell,Nat.zero_add,Nat.mul_one];exact g1,g2,g3,g4⟩
def EdR (w:World)(ea:Option Addr)(es:List (Nat×Nat)):Prop:=∀(i:Nat) (e:Nat×Nat),es[i]? =some e->e.1<4294967296/\e.2<4294967296/\∃eb eo,ea=some ⟨eb,eo,none⟩/\w.cell? ⟨eb,eo+i*2+0,none⟩=some (Pq e.1)/\w.cell? ⟨eb,eo+i*2+1,none⟩=some (Pq e.2)
def EdR.ext {ea:Option Addr}{es:List (Nat×Nat)}(h:EdR w ea es)(hx:Ext w w'):EdR w' ea es:=λi e he=>by
 obtain⟨h1,h2,eb,eo,h3,h4,h5⟩:=h i e he
 exact⟨h1,h2,eb,eo,h3,PH hx h4,PH hx h5⟩
end
def Se.insert {g:List (List Nat)}(h:Se g){f x k:Nat}{s:List Nat}(hs:g[f]? =some s)(hx:x<g.length)(hk:k<=s.length)(h1:∀y∈s.take k,y<x)(h2:∀y∈s.drop k,x<y):Se (g.set f (s.take k++[x]++s.drop k)):=by
 have hm:=List.mem_of_getElem? hs
 have uv:=h.ok s hm
 have aZ:=h.lt s hm
 have hn:=h.n
 refine⟨λl hl=>?_,λl hl y hy=>?_,by rw[List.length_set];exact h.n⟩
 ·rcases List.mem_or_eq_of_mem_set hl with e| e
  ·exact h.ok l e
  ·subst e;refine⟨?_,λy hy=>?_⟩
   ·have hr:List.Pairwise (·<·) s:=uv.ZN;show List.Pairwise (·<·) _;rw[List.append_assoc,List.pairwise_append];refine⟨hr.sublist (List.take_sublist _ _),?_,λa ha b hb=>?_⟩
    ·rw[List.singleton_append,List.pairwise_cons];exact⟨h2,hr.sublist (List.drop_sublist _ _)⟩
    ·rw[List.singleton_append] at hb;rcases List.mem_cons.1 hb with e| e
     ·rw[e];exact h1 a ha
     ·exact Nat.lt_trans (h1 a ha) (h2 b e)
   ·rcases List.mem_append.1 hy with e| e
    ·rcases List.mem_append.1 e with e| e
     ·exact uv.lt y (List.mem_of_mem_take e)
     ·rw[List.mem_singleton.1 e];omega
    ·exact uv.lt y (List.mem_of_mem_drop e)
 ·rw[List.length_set];rcases List.mem_or_eq_of_mem_set hl with e| e
  ·exact h.lt l e y hy
  ·subst e;rcases List.mem_append.1 hy with e| e
   ·rcases List.mem_append.1 e with e| e
    ·exact aZ y (List.mem_of_mem_take e)
    ·rw[List.mem_singleton.1 e];exact hx
   ·exact aZ y (List.mem_of_mem_drop e)
def Se.empty {n:Nat}(hn:n<=60):Se (List.replicate n []):=
 ⟨λl hl=>by rw[List.eq_of_mem_replicate hl];exact⟨List.Pairwise.nil,λy h=>(by cases h)⟩,λl hl y hy=>(by rw[List.eq_of_mem_replicate hl] at hy;cases hy),by simpa using hn⟩
end Go.Proofs.YtgdkbagngobdlaaGreatDoor
namespace Go.Proofs.YtgdkbagngobdlaaGreatDoor
open Go Go.ChangeShapes Go.WideShapes Go.ChangeAt Go.RowKit Go.Deep Go.Proofs.Tryz
section
variable {H:Type}{enc:TypeId×Value->H}{W:World}{sp:Nat->Bool}
def zcB (n:Int)(h:(Lit.int .u32 n).wf=true):Value.int .u32 n=Pq n.toNat/\n.toNat<4294967296:=by
 simp[Lit.wf,IntKind.min,IntKind.max,IntKind.signed,IntKind.bits] at h
 exact⟨by unfold Pq;congr;omega,by omega⟩
def i64_in (n:Int)(h:(Lit.int .i64 n).wf=true):JIq n:=by
 simp[Lit.wf,IntKind.min,IntKind.max,IntKind.signed,IntKind.bits] at h;omega
def z33 {w:World}{b off:Nat}{spot:Option Nat}{v:Value}(h:w.cell? ⟨b,off,spot⟩=some v):spot=none:=by
 unfold World.cell? at h
 split at h
 ·cases spot with
  |none=>rfl
  |some s=>simp at h
 ·cases h
def z6M {fuel:Nat}{v:Value}{x:DataW H×List MemPlace}(h:DataW.trod enc prog W 0 sp true fuel 22 [v]=some x)(hw:∀n∈x.1.weights prog 22,n<=reachBytes):∃(ea:Option Addr) (ec:Nat) (es:List (Nat×Nat)),v= .slice ea es.length ec/\EdR W ea es/\es.length<=9000000000000000000:=by
 rcases open_slice_pairs U22 zl6 (by kernel_rfl) O O (by kernel_rfl) (by kernel_rfl) h with⟨hv,hx⟩|⟨a,len,cap,m,n,V0,V1,D0,D1,P0,P1,hv,-,hl,hm,Bl,hx,oC⟩
 ·cases hv;exact⟨none,0,[],rfl,λi e he=>by simp at he,by simp⟩
 ·cases hv;have eu:maxLen=9223372036854775807:=rfl;have gX:len<=m:=by rw[Bl];split<;>omega
  have hk:∀i,i<len->∃e:Nat×Nat,e.1<4294967296/\e.2<4294967296/\W.cell? (a.add (i*2))=some (Pq e.1)/\W.cell? (a.add (i*2+1))=some (Pq e.2):=λi hi=>by
   obtain⟨c0,c1,h0,h1⟩:=oC i (by omega);obtain⟨n0,e0,-,f0⟩:=DataW.trod_int Py h0;obtain⟨n1,e1,-,f1⟩:=DataW.trod_int Py h1;have e0:V0 i= .int .u32 n0:=by simpa using e0
   have e1:V1 i= .int .u32 n1:=by simpa using e1
   obtain⟨q0,b0⟩:=zcB n0 f0;obtain⟨q1,b1⟩:=zcB n1 f1;exact⟨(n0.toNat,n1.toNat),b0,b1,by rw[c0,e0,q0],by rw[c1,e1,q1]⟩
  obtain⟨E,hE⟩:∃E:Nat->Nat×Nat,∀i,i<len->(E i).1<4294967296/\(E i).2<4294967296/\W.cell? (a.add (i*2))=some (Pq (E i).1)/\W.cell? (a.add (i*2+1))=some (Pq (E i).2):=
   choose_lt (α:=Nat×Nat) (n:=len) (p:=λi e=>e.1<4294967296/\e.2<4294967296/\W.cell? (a.add (i*2))=some (Pq e.1)/\W.cell? (a.add (i*2+1))=some (Pq e.2)) hk
  refine⟨some a,cap,(List.range len).map E,by simp,λi e he=>?_,?_⟩
  ·rw[List.getElem?_map] at he;rcases Nat.lt_or_ge i len with hi|hi
   ·rw[List.getElem?_range hi] at he;obtain rfl:=QU he;obtain⟨g1,g2,g3,g4⟩:=hE i hi;obtain⟨b,off,spot⟩:=a;have h3:=(hE 0 (by omega)).2.2.1;rw[Nat.zero_mul] at h3;simp only[Addr.add,if_true] at h3;obtain rfl:=z33 h3;rw[R8] at g3 g4;exact⟨g1,g2,b,off,rfl,g3,by rw[Nat.add_assoc];exact g4⟩
   ·rw[List.getElem?_eq_none (by simpa using hi)] at he;cases he
  ·have oX:=hw ((len+(m-len))*8) (by rw[hx];simp[DataW.weights,U22,show prog.bytesOf 125=8 by kernel_rfl]);simp[reachBytes] at oX;simp;omega
end
section
variable {H:Type}{enc:TypeId×Value->H}{W:World}{sp:Nat->Bool}
def zfR (n:Int)(h:(Lit.int .u64 n).wf=true):Value.int .u64 n=u64v n.toNat/\n.toNat<18446744073709551616:=by
 simp[Lit.wf,IntKind.min,IntKind.max,IntKind.signed,IntKind.bits] at h
 exact⟨by unfold u64v;congr;omega,by omega⟩
def open_net8 {fuel:Nat}{cs:List Value}{x:DataW H×List MemPlace}(h:DataW.trod enc prog W 0 sp true fuel 25 cs=some x)(hw:∀n∈x.1.weights prog 25,n<=reachBytes):∃(n fr fo p ro:Int) (sd:Nat) (pl:Bool) (ea:Option Addr) (ec:Nat) (es:List (Nat×Nat)),cs=[I n,.slice ea es.length ec,.bool pl,I fr,I fo,I p,I ro,u64v sd]/\JIq n/\JIq fr/\JIq fo/\JIq p/\JIq ro/\sd<18446744073709551616/\EdR W ea es/\es.length<=9000000000000000000:=by
 obtain⟨xs,n,-,hx,hl,hlen,hf⟩:=DataW.trod_struct underlying25 h
 rw[show prog.cellsOf 25=8 by kernel_rfl] at hl
 match xs,hlen with
 |[y0,y1,y2,y3,y4,y5,y6,y7],_=>
 match cs,hl with
 | [c0, c1, c2, c3, c4, c5, c6, c7], _ =>
   have t0:=hf 0 _ O;have t1:=hf 1 _ O;have t2:=hf 2 _ O;have t3:=hf 3 _ O;have t4:=hf 4 _ O;have t5:=hf 5 _ O;have t6:=hf 6 _ O;have t7:=hf 7 _ O;simp only[show prog.cellsOf 22=1 by kernel_rfl,show prog.cellsOf 3=1 by kernel_rfl,show prog.cellsOf 4=1 by kernel_rfl,show prog.cellsOf 23=1 by kernel_rfl,List.drop,List.take,List.getElem?_cons_zero,List.getElem?_cons_succ] at t0 t1 t2 t3 t4 t5 t6 t7;obtain⟨n0,e0,-,w0⟩:=DataW.trod_int underlying3 t0;obtain⟨b2,e2,-,-⟩:=DataW.trod_bool underlying4 t2;obtain⟨n3,e3,-,w3⟩:=DataW.trod_int underlying3 t3;obtain⟨n4,e4,-,w4⟩:=DataW.trod_int underlying3 t4;obtain⟨n5,e5,-,w5⟩:=DataW.trod_int underlying3 t5;obtain⟨n6,e6,-,w6⟩:=DataW.trod_int underlying3 t6;obtain⟨n7,e7,-,w7⟩:=DataW.trod_int underlying23 t7;obtain⟨q7,hm7⟩:=zfR n7 w7;rw[q7] at e7;cases e0;cases e2;cases e3;cases e4;cases e5;cases e6;cases e7
   obtain⟨ea,ec,es,e1,hE,hes⟩:=z6M t1 (λn hn=>hw n (by
    rw[hx];simp only[DataW.weights,underlying25,DataW.weightsEach,List.map,List.mem_append]
    exact .inr (.inl hn)))
   subst e1;exact⟨n0,n3,n4,n5,n6,n7.toNat,b2,ea,ec,es,rfl,i64_in _ w0,i64_in _ w3,i64_in _ w4,i64_in _ w5,i64_in _ w6,hm7,hE,hes⟩
end
end Go.Proofs.YtgdkbagngobdlaaGreatDoor
