/- Merged by program. -/
import Derived.Test.YtfgjaafcgghnoaaGreatDoorCNp3
set_option linter.all false
set_option maxRecDepth 1000000
set_option maxHeartbeats 16000000
namespace Go.Proofs.YtfgjaafcgghnoaaGreatDoor
open Go Go.RowKit
open Go.Sort in
def z9w (g n cap m:Nat):Prop:=∀(w:World) (d:Array Nat),Om w g n cap d->∀(a b limit:Nat),b-a<m->a<=b->b<=n->limit<=64->Below MJ a b d->
 LP Tryz.prog 238 [.slice (some ⟨g,0,none⟩) n cap,I (a:Int),I (b:Int),I (limit:Int)] w λu w'=>u= .tuple #[]/\∃d',Om w' g n cap d'/\PermIn a b d d'/\SortedIn MJ a b d'/\Kp (λk=>k=g) w w'
open Go.Sort in
structure z2s (w:World)(g n cap a b:Nat)(d:Array Nat)(a1 b1 l1:Nat)(d1:Array Nat)(w':World):Prop where
 arr:Om w' g n cap d1
 kp:Kp (λk=>k=g) w w'
 ab:a1<=b1
 bn:b1<=n
 sm:b1-a1<=b-a
 lim:l1<=64
 bel:Below MJ a1 b1 d1
 fin:∀R,PermIn a1 b1 d1 R->SortedIn MJ a1 b1 R->PermIn a b d R/\SortedIn MJ a b R
open Go.Sort in
theorem z2s.perm {w:World}{g n cap a b:Nat}{d:Array Nat}{a1 b1 l1 l2:Nat}{d1 d2:Array Nat}{w1 w2:World}(h:z2s w g n cap a b d a1 b1 l1 d1 w1)(hA:Om w2 g n cap d2)(hk:Kp (λk=>k=g) w1 w2)(hp:PermIn a1 b1 d1 d2)(hl:l2<=64):z2s w g n cap a b d a1 b1 l2 d2 w2:=
 ⟨hA,h.kp.trans hk,h.ab,h.bn,h.sm,hl,h.bel.perm (by rw[h.arr.size];exact h.bn) hp,λR h1 h2=>h.fin R (permIn_trans _ _ _ _ _ hp h1) h2⟩
open Go.Sort in
theorem z6k {g n cap m : Nat}(eV : z9w g n cap m){w : World}{d : Array Nat}(h : Om w g n cap d)(a b limit : Nat)(hm : b - a <= m)(j9 : a <= b)(hb : b <= n)(hn : n < 50)(hl : limit <= 64)(hB : Below MJ a b d) :
  LP Tryz.prog 238 [.slice (some ⟨g,0,none⟩) n cap,I (a:Int),I (b:Int),I (limit:Int)] w λu w'=>u= .tuple #[]/\∃d',Om w' g n cap d'/\PermIn a b d d'/\SortedIn MJ a b d'/\Kp (λk=>k=g) w w':=by
 refine Lb (e:=[(0,_),(1,_),(2,_),(3,_)]) Tryz.func238 O Tryz.ntmps238 O O$ qN O$ Lw O$ qM O$ Lk O$ Lc$ Nj (α:=Nat×Nat×Nat×Bool×Bool×Array Nat) ((a,b,limit,true,true,d)) (λy=>[(0,.slice (some ⟨g,0,none⟩) n cap),(1,I (y.1:Int)),(2,I (y.2.1:Int)),(3,I (y.2.2.1:Int)),(8,.bool y.2.2.2.1),(9,.bool y.2.2.2.2.1)]) (λy w'=>z2s w g n cap a b d y.1 y.2.1 y.2.2.1 y.2.2.2.2.2 w') (λy=>y.2.1-y.1) ?hI ?hround
 case hI=>exact⟨h,Kp.refl _ _,j9,hb,Nat.le_refl _,hl,hB,λR h1 h2=>⟨h1,h2⟩⟩
 case hround =>
  rintro⟨a1,b1,l1,wb,wp,d1⟩ w4 hI ih;dsimp only at hI;have oL:=hI.ab;have fQ:=hI.bn;have GP:=hI.sm;have ES:=hI.lim;have uL:=hI.arr.size
  try dsimp only
  refine Lc$ qN O$ Lu O O$ Np O O$ Lk O$ run_seq$ qN O ?_;rw[show(b1:Int)-(a1:Int)=((b1-a1:Nat):Int) by omega];refine Le O$ zle O O$ Lf$ Lp O (λh0=>?_)$ λh0=>?_
  ·obtain⟨r1,r2⟩:=insertionSort_holds TS d1 a1 b1 oL (by omega);obtain⟨q1,q2⟩:=hI.fin _ r1 r2;refine qN O$ Lu O O$ Le O$ LD zcf O (Xt hI.arr a1 b1 oL fQ (by omega)) ?_;rintro _ w5 ⟨rfl,aW,ak⟩;refine Lf$ Lh Tryz.func238 O ?_;exact⟨_,rfl,rfl,_,aW,q1,q2,hI.kp.trans ak⟩
  ·refine py$ run_seq$ qN O$ Le O$ Nb O O$ Lf$ Lp O (λh1 => ?_)$ λh1 => ?_
   ·obtain⟨r1,r2⟩:=heapSort_holds TS d1 a1 b1 oL (by omega);obtain⟨q1,q2⟩:=hI.fin _ r1 r2;refine qN O$ Lu O O$ Le O$ LD zbe O (z7r hI.arr a1 b1 (by omega) fQ (by omega)) ?_;rintro _ w5 ⟨rfl,aW,ak⟩;refine Lf$ Lh Tryz.func238 O ?_;exact⟨_,rfl,rfl,_,aW,q1,q2,hI.kp.trans ak⟩
   ·refine py$ run_seq$ qN O$ Le O$ qV ((by first | exact Mh O | exact NL O)) ?_; refine Lf (M6 (λe' w' => ∃ l5 d5, e' = [(0, .slice (some ⟨g, 0, none⟩) n cap), (1, I (a1 : Int)), (2, I (b1 : Int)), (3, I ((l5 : Nat) : Int)), (8, .bool wb), (9, .bool wp), (10, I ((b1 - a1 : Nat) : Int))] /\ z2s w g n cap a b d a1 b1 l5 d5 w') ?e8 (λe8 => ?eS))
    case e8 =>
     rintro e' w5 ⟨l5,d5,rfl,lq⟩;have qk:=lq.lim;have AS:=lq.arr.size;have GQ:g<w5.heap.size:=lq.arr.sl.lt O;refine qN O$ Lu O O$ Le O$ LD zbJ O (z4c lq.arr a1 b1 (by omega) fQ hn) ?_;rintro _ w6 ⟨p6,t6,rfl,GR,rM,uM,oI,aK⟩;have oM:=lq.perm oI aK.kp (permIn_refl _ _ _) qk;refine Le O$ Mp O O$ Mp O O$ Lw O$ Lk O$ run_seq$ qN O$ Le O$ Nb O O$ Lf$ M6 (λe' w'=>∃d7 p7 t7,e'=[(0,.slice (some ⟨g,0,none⟩) n cap),(1,I (a1:Int)),(2,I (b1:Int)),(3,I (l5:Int)),(8,.bool wb),(9,.bool wp),(10,I ((b1-a1:Nat):Int)),(11,I ((p7:Nat):Int)),(12,I ((t7:Nat):Int))]/\z2s w g n cap a b d a1 b1 l5 d7 w'/\a1<=p7/\p7<b1) ?au$ λau=>?dz
     case au =>
      rintro e' w7 ⟨d7,p7,t7,rfl,jh,yQ,oN⟩;have GS:=jh.arr.size;refine run_seq$ run_seq$ M6 (λe' w'=>∃s,e'=[(0,.slice (some ⟨g,0,none⟩) n cap),(1,I (a1:Int)),(2,I (b1:Int)),(3,I (l5:Int)),(8,.bool wb),(9,.bool wp),(10,I ((b1-a1:Nat):Int)),(11,I (p7:Int)),(68,.bool s)]/\w'=w7) ?mJ$ λmJ=>?mK
      case mJ=>
       rintro e' w8 ⟨s,rfl,rfl⟩;refine M6 (λe' w'=>e'=[(0,.slice (some ⟨g,0,none⟩) n cap),(1,I (a1:Int)),(2,I (b1:Int)),(3,I (l5:Int)),(8,.bool wb),(9,.bool wp),(10,I ((b1-a1:Nat):Int)),(11,I (p7:Int))]/\z2s w g n cap a b d a1 b1 l5 d7 w') ?od$ λod=>?rQ
       case od=>
        rintro e' w9 ⟨rfl,ji⟩;have ql:=ji.arr;have hg:=Ext.LC w9;refine run_seq$ run_seq$ M6 (λe' w'=>∃s,e'=[(0,.slice (some ⟨g,0,none⟩) n cap),(1,I (a1:Int)),(2,I (b1:Int)),(3,I (l5:Int)),(8,.bool wb),(9,.bool wp),(10,I ((b1-a1:Nat):Int)),(11,I (p7:Int)),(87,.bool s)]/\w'=w9.drew/\(s=true->0<a1/\MJ d7[a1-1]! d7[p7]! =false)) ?rv$ λrv=>?rx
        case rv=>
         rintro e' w10 ⟨s,rfl,rfl,hs⟩;have lu:=ql.ext hg;have ar:Kp (λk=>k=g) w w9.drew:=ji.kp.trans hg.kp;refine Mg O (λh6=>?_)$ λh6=>?_
         ·obtain⟨GT,lw⟩:=hs h6;obtain⟨mid,d11,hx⟩:∃m e,partitionEqual MJ d7 a1 b1 p7=(m,e):=⟨_,_,rfl⟩;have uN:=z8s lu a1 b1 p7 yQ oN fQ (by omega);rw[hx] at uN;dsimp only at uN;obtain⟨e1,e2,e3,e4,e5⟩:=round_eq TS (partitionEqual_holds _) GT yQ oN (by omega) ji.bel lw hx;refine qN O$ Lu O O$ Lu O O$ LD zcg O (uN) ?_;rintro _ w11 ⟨rfl,oO,bA⟩;refine Lw O$ qM O$ Le O$ Lk O$ Ln O ?_;exact(ih (mid,b1,l5,wb,wp,d11) _ ⟨oO,ar.trans bA,e2,fQ,by dsimp only;omega,ji.lim,e4,λR r1 r2=>ji.fin R (e5 R r1 r2).1 (e5 R r1 r2).2⟩ (by dsimp only;omega)).qb
         ·obtain⟨mid,ap,d11,hx⟩:∃m q e,partition MJ d7 a1 b1 p7=(m,q,e):=⟨_,_,_,rfl⟩;have rN:=z7f lu a1 b1 p7 yQ oN fQ (by omega);rw[hx] at rN;dsimp only at rN;obtain⟨e1,e2,e3,e4,e5,e6,e7⟩:=round_part TS (partition_holds _) yQ oN (by omega) ji.bel hx;refine py$ qN O$ Lu O O$ Lu O O$ LD zdK O (rN) ?_;rintro _ w11 ⟨rfl,oO,bA⟩;refine Le O$ Mp O O$ Mp O O$ Lw O$ Lw O$ qM O$ Le O$ Lw O$ qM O$ Lu O O$ Np O O$ Lu O O$ Np O O$ Lw O ?_;refine Lw O$ qM O ?_;rw[show(mid:Int)-(a1:Int)=((mid-a1:Nat):Int) by omega,show(b1:Int)-(mid:Int)=((b1-mid:Nat):Int) by omega];refine Le O$ qV (SC O O (by omega))$ Lw O$ qM O$ Lu O O$ Mw O O$ Lf$ Lp O (λh7=>?_)$ λh7=>?_
          ·refine qN O$ Lu O O$ Pa O O$ Lw O$ qM O$ Lu O O$ Lu O O$ LD z5x O (eV _ _ oO a1 mid l5 (by omega) e1 (by omega) ji.lim e4) ?_;rintro _ w12 ⟨rfl,d12,rO,rP,i5,aS⟩;obtain⟨f1,f2⟩:=e6 _ rP i5;refine Lf$ Li O$ Le O$ Mb O O$ Lk O$ Ld ?_;exact(ih (mid+1,b1,l5,decide (((b1-a1:Nat):Int) / 8<=((mid-a1:Nat):Int)),ap,d12) _ ⟨rO,(ar.trans bA).trans aS,by dsimp only;omega,fQ,by dsimp only;omega,ji.lim,f1,λR r1 r2=>ji.fin R (f2 R r1 r2).1 (f2 R r1 r2).2⟩ (by dsimp only;omega)).qb
          ·refine qN O$ Lu O O$ Pa O O$ Lw O$ qM O$ Lu O O$ Mb O O$ Lu O O ?_;rw[show(mid:Int)+1=((mid+1:Nat):Int) by omega];refine LD z5x O (eV _ _ oO (mid+1) b1 l5 (by omega) (by omega) fQ ji.lim e5) ?_;rintro _ w12 ⟨rfl,d12,rO,rP,i5,aS⟩;obtain⟨f1,f2⟩:=e7 _ rP i5;refine Lf$ Li O$ Le O$ Lk O$ Ld ?_;exact(ih (a1,mid,l5,decide (((b1-a1:Nat):Int) / 8<=((b1-mid:Nat):Int)),ap,d12) _ ⟨rO,(ar.trans bA).trans aS,e1,by dsimp only;omega,by dsimp only;omega,ji.lim,f1,λR r1 r2=>ji.fin R (f2 R r1 r2).1 (f2 R r1 r2).2⟩ (by dsimp only;omega)).qb
        case rx=>
         rcases Nat.eq_zero_or_pos a1 with hj|hj
         ·refine N7 (λw'=>Ext w9 w') O$ LA 0 O O (hg)$ Ll 1 O (TN O O) hg$ PU$ LA 2 O O (hg)$ qJ 3 O (hg)$ qJ 4 O (hg)$ qJ 5 O (hg)$ qJ 6 O (hg)$ qJ 7 O (hg)$ qJ 8 O (hg)$ qJ 9 O (hg)$ qJ 10 O (hg)$ qJ 11 O (hg) ?_;refine qJ 12 O (hg)$ qJ 13 O (hg)$ Ll 14 O (Qt O O) hg$ qE ?_;exact(rv _ _ ⟨false,rfl,rfl,λe=>by cases e⟩).qb
         ·refine N7 (λw'=>Ext w9 w') O$ LA 0 O O (hg)$ Ll 1 O (TN O O) hg$ Pu$ LA 2 O O (hg)$ LA 3 O O (hg)$ LA 4 O O (hg)$ Ll 5 O (SR O O (by omega)) hg$ LA 8 O O (hg)$ LA 9 O O (hg)$ Ll 10 O (M9 LI Lz O O (by omega)) hg ?_;rw[show(a1:Int)-1=((a1-1:Nat):Int) by omega];refine Ll 6 O (M9 LI Lz O O (by omega)) hg$ qT 7 O (λ_ h=>LN Mx O O ((ql.ext h).get (i:=a1-1) (by omega))) hg$ qT 11 O (λ_ h=>LN Mx O O ((ql.ext h).get (i:=p7) (by omega))) hg$ OA 12 O RE O (NQ _ _ _) ?_;rintro _ w10 ⟨rfl,rfl⟩;refine⟨hg,?_⟩;refine Ll 13 O ((by first|exact Mh O|exact NL O)) hg ?_;refine Ll 14 O (Qy O O) hg$ qE ?_;exact(rv _ _ ⟨decide (¬d7[a1-1]!<d7[p7]!),rfl,rfl,λe=>⟨hj,by simpa[MJ] using e⟩⟩).qb
       case rQ=>
        refine Mg O (λh4=>?_)$ λh4=>?_
        ·obtain⟨r1,r2⟩:=partialInsertionSort_holds TS d7 a1 b1 (by omega) (by omega) jh.bel;refine qN O$ Lu O O$ Le O$ LD zdb O (z6t jh.arr a1 b1 (by omega) fQ hn) ?_;rintro _ w9 ⟨rfl,ql,aP⟩;refine Lf$ Mg O (λh5=>?_)$ λh5=>?_
         ·have r3:=r2 h5;rw[z2D d7 a1 b1 (by omega)] at r3;dsimp only at r3;obtain⟨q1,q2⟩:=jh.fin _ (permIn_refl _ _ _) r3;refine Lh Tryz.func238 O ?_;exact⟨_,rfl,rfl,d7,ql,q1,q2,jh.kp.trans aP⟩
         ·refine py ?_;exact(od _ _ ⟨rfl,jh.perm ql aP (permIn_refl _ _ _) jh.lim⟩).qb
        ·refine py ?_;exact(od _ _ ⟨rfl,jh⟩).qb
      case mK =>
       cases wb with
       | false =>
         refine Li O$ Lu O O$ qS$ M8 O O$ Le O$ qS$ qS$ M8 O O$ Lf ?_
         exact(mJ _ _ ⟨false,rfl,rfl⟩).qb
       | true =>
         cases wp with
         | false =>
           refine Li O$ Lu O O$ Le O$ MU O O$ Le O$ qS$ qS$ M8 O O$ Lf ?_
           exact(mJ _ _ ⟨false,rfl,rfl⟩).qb
         | true =>
           refine Li O$ Lu O O$ Le O$ MU O O$ Lu O O$ Nb O O$ MU O O$ Lf ?_;exact(mJ _ _ ⟨decide ((t7:Int)=1),rfl,rfl⟩).qb
     case dz=>
      refine Lp O (λh3=>?_)$ λh3=>?_
      ·refine qN O$ Lu O O$ Le O$ LD ze3 O (z0J oI a1 b1 (by omega) fQ (by omega)) ?_;rintro _ w7 ⟨rfl,yR,aC⟩;refine qM O$ Le O$ Np O O$ Lu O O$ Np O O$ Np O O$ Lk O$ Li O$ Lk O ?_;rw[show(b1:Int)-1-((p6:Int)-(a1:Int))=((b1-1-(p6-a1):Nat):Int) by omega];exact(au _ _ ⟨reverseRange d5 a1 b1,b1-1-(p6-a1),1,rfl,oM.perm yR aC (reverseRange_holds _ _ _ oL (by omega)) qk,by omega,by omega⟩).qb
      ·refine py ?_;exact(au _ _ ⟨d5,p6,t6,rfl,oM,GR,rM⟩).qb
    case eS=>
     refine Mg O (λh2=>?_)$ λh2=>?_
     ·refine qN O$ Lu O O$ Le O$ LD zdJ O (z5I hI.arr a1 b1 (by omega) fQ hn) ?_;rintro _ w5 ⟨rfl,d5,gS,aW,ak⟩;refine Lf$ Li O$ Le O$ Np O O$ Lk O ?_;rw[show(l1:Int)-1=((l1-1:Nat):Int) by omega];exact(e8 _ _ ⟨l1-1,d5,rfl,hI.perm aW ak gS (by omega)⟩).qb
     ·refine py ?_;exact(e8 _ _ ⟨l1,d1,rfl,hI⟩).qb
theorem z39 (g n cap:Nat)(hn:n<50):∀m,z9w g n cap m
 |0=>λw d h a b limit hm=>absurd hm (Nat.not_lt_zero _)
 |m+1=>λw d h a b limit hm j9 hb hl hB=>z6k (z39 g n cap hn m) h a b limit (by omega) j9 hb hn hl hB
open Go.Sort in
theorem z4m {w:World}{v:Value}{l:List Nat}(hS:Sl w v 46 1 l.length (l.map LO))(bN:l≠[])(hl:l.length<50):
  LP Tryz.prog 226 [v] w λu w'=>u= .tuple #[]/\Kp (λk=>v.ownBlock=some k) w w'/\∃l':List Nat,l'.Perm l/\l'.Pairwise (·<=·)/\Sl w' v 46 1 l'.length (l'.map LO):=by
 obtain⟨g,cap,rfl⟩:∃g c,v= .slice (some ⟨g,0,none⟩) l.length c:=by
  rcases hS.shape with⟨-,h0⟩|⟨g,c,e,hc⟩
  ·exact absurd (List.eq_nil_of_length_eq_zero (by omega)) bN
  ·exact⟨g,c,e⟩
 have hA:Om w g l.length cap l.toArray:=⟨by simpa using hS,by simp⟩
 have aD:Ma l.length<=6:=N0 (by omega)
 refine Lb (e:=[(0,_)]) Tryz.func226 O Tryz.ntmps226 O O$ qN O$ Le O$ Nd LI O$ Lk O$ Li O$ Lu O O$ Le O$ qV ((by first|exact Mc O U3 z6L (by omega)|exact Ny O U3 z6L)) ?_
 refine LD z9B O (z3t l.length (by omega) w) ?_
 rintro _ w ⟨rfl,rfl⟩
 refine LD z5x O (z39 g l.length cap hl (l.length+1) w l.toArray hA 0 l.length (Ma l.length) (by omega) (by omega) (Nat.le_refl _) (by omega) (.inl O)) ?_
 rintro _ w1 ⟨rfl,d',kA,hP,hO,hk⟩
 refine Lf$ ME Tryz.func226 O ?_
 have cF:=kA.size
 have iO:d'.toList.Perm l:=by
  have:=hP.2.2;rw[Array.toList_extract,Array.toList_extract] at this;have h1:(d'.toList.take l.length).Perm (l.take l.length):=by simpa using this
  rwa [List.take_of_length_le (by rw[Array.length_toList,cF];exact Nat.le_refl _),List.take_length] at h1
 refine⟨_,rfl,rfl,hk.Lv (λk e=>by rw[e];rfl),d'.toList,iO,?_,?_⟩
 ·rw[List.pairwise_iff_getElem];intro i j hi hj gW;rw[Array.length_toList] at hi hj;have:=hO i j (Nat.zero_le _) gW (by omega);rw[getElem!_pos d' i (by omega),getElem!_pos d' j (by omega)] at this;simp only[MJ,decide_eq_false_iff_not] at this;rw[Array.getElem_toList,Array.getElem_toList];omega
 ·have e:d'.toList.length=l.length:=by rw[Array.length_toList,cF]
  rw[e];exact kA.sl
structure NuI (w w1:World)(p:NT)(b5 n11:Nat)(L:List (Cd×Nat))(w':World):Prop where
 ex:∃F,Zm w' n11 L F/\∀k,F k->w1.heap.size<=k
 ext:Ext w w'
 b5:Lq w' b5 (VD p) 212
 siz:w1.heap.size<=w'.heap.size
theorem NuI.put {w w1 w2 w3:World}{p:NT}{b5 n11:Nat}{L L':List (Cd×Nat)}{F:Nat->Prop}(h:NuI w w1 p b5 n11 L w2)(hf:∀k,F k->w1.heap.size<=k)(gQ:b5<w1.heap.size)(ET:w.heap.size<=w1.heap.size)
  (g:∃F',Zm w3 n11 L' F'/\Kp F w2 w3/\∀k,F' k->F k\/w2.heap.size<=k):NuI w w1 p b5 n11 L' w3:=by
 obtain⟨F',g1,g2,g3⟩:=g
 have hs:=h.siz
 refine⟨⟨F',g1,λk hk=>?_⟩,h.ext.It g2 (λk hk=>by have:=hf k hk;omega),g2.Lg h.b5 (λe=>by have:=hf b5 e;omega),by have:=g2.size;omega⟩
 rcases g3 k hk with e| e
 ·exact hf k e
 ·omega
structure Xl (w w1 w2:World)(p:NT)(b5 n11:Nat)(X:Nat->Prop)(L:List (Cd×Nat))(w3:World):Prop where
 ex:∃F,Zm w3 n11 L F/\(∀k,F k->w1.heap.size<=k)/\∀k,F k->¬X k
 ext:Ext w w3
 b5:Lq w3 b5 (VD p) 212
 siz:w1.heap.size<=w3.heap.size
 kx:Kp (λk=>¬X k) w2 w3
theorem Xl.put {w w1 w2 w3 w4:World}{p:NT}{b5 n11:Nat}{X:Nat->Prop}{L L':List (Cd×Nat)}{F:Nat->Prop}(h:Xl w w1 w2 p b5 n11 X L w3)(hX:∀k,X k->k<w2.heap.size)(hf:∀k,F k->w1.heap.size<=k)(hx:∀k,F k->¬X k)(gQ:b5<w1.heap.size)(ET:w.heap.size<=w1.heap.size)
  (g:∃F',Zm w4 n11 L' F'/\Kp F w3 w4/\∀k,F' k->F k\/w3.heap.size<=k):Xl w w1 w2 p b5 n11 X L' w4:=by
 obtain⟨F',g1,g2,g3⟩:=g
 have hs:=h.siz
 have hz:=h.kx.size
 refine⟨⟨F',g1,λk hk=>?_,λk hk gq=>?_⟩,h.ext.It g2 (λk hk=>by have:=hf k hk;omega),g2.Lg h.b5 (λe=>by have:=hf b5 e;omega),by have:=g2.size;omega,h.kx.trans (g2.Lv hx)⟩
 ·rcases g3 k hk with e| e
  ·exact hf k e
  ·omega
 ·rcases g3 k hk with e| e
  ·exact hx k e gq
  ·have:=hX k gq;omega
theorem ON:∀(l:List Nat) (k:Nat),(runNums k l).length=l.length
 |[],_=>rfl
 |_::l,k=>by rw[runNums,List.length_cons,List.length_cons,ON l]
theorem TZ:∀(l:List Nat) (k n:Nat),runNums k (l++[n])=runNums k l++[(.gamma,n-min (k+l.length) 1)]
 |[],k,n=>rfl
 | m :: l, k, n => by
   rw[List.cons_append,runNums,TZ l (k+1) n,runNums,List.cons_append,List.length_cons,show k+1+l.length=k+(l.length+1) by omega]
theorem Wz:∀{l:List Nat},(∀n∈l,1<=n)->l.length<=l.sum
 |[],_=>Nat.le_refl _
 | x :: l, h => by
   have h1:=h x List.mem_cons_self;have h2:=Wz (λn hn=>h n (List.mem_cons_of_mem x hn));rw[List.length_cons,List.sum_cons];omega
theorem Pc.WC {rs:List Nat}{fs:List Bool}(h:Pc rs fs):rs.length<=fs.length+1:=by
 have e:=Oy true rs
 rw[h.exp] at e
 cases rs with
 |nil=>simp
 | cons a tl =>
   have h1:=Wz (l:=tl) (λn hn=>h.pos n hn);rw[List.sum_cons] at e;rw[List.length_cons];omega
theorem Tp:∀l:List Nat,(rowsN 0 l).1=[]
 |[]=>by rw[rowsN]
 | x :: l => by
   rw[rowsN,if_neg (by omega)];exact Tp (l.drop (runLen x l))
 termination_by l=>l.length
 decreasing_by simp[List.length_drop];omega
def Un (l:List (Nat×Nat)):Option Nat:=l.getLast?.map λp=>p.1+p.2-1
theorem Ub (x least:Nat):∀(l:List (Nat×Nat)) (e:Option Nat) (p:Nat×Nat),longNums x least e (l++[p])=longNums x least e l++longNums x least (match l with|[]=>e|_=>Un l) [p]
 |[],e,p=>by cases e<;>rfl
 | q :: l, e, p => by
   rw[List.cons_append,Nz,Nz,Ub x least l _ p]
   cases l with
   |nil=>rfl
   |cons q2 l=>rfl
theorem Xo (x least:Nat)(l:List (Nat×Nat))(p:Nat×Nat):longNums x least none (l++[p])=longNums x least none l++[(.gamma,Qr x (Un l) p.1),(.gamma,p.2-least)]:=by
 rw[Ub]
 cases l with
 |nil=>rfl
 |cons q l=>rw[Nz x least (match q::l with|[]=>none|_=>Un (q::l))];rfl
theorem z6V {w : World}{b off n cap i : Nat}{R : List (Nat × Nat)}{q : Nat × Nat}(h : Rd w (.slice (some ⟨b, off, none⟩) n cap) 2 n (R.flatMap Xy))(hq : R[i]? = some q) : ∀ j u, [I (q.1 : Int), I (q.2 : Int)][j]? = some u -> w.cell? ⟨b, off + i * 2 + j, none⟩ = some u := by
 intro j u hj
 have hi:=(List.getElem?_eq_some_iff.1 hq).1
 rcases h.2 with⟨c,hc,h0⟩|⟨b',off',cap',e,hc⟩
 ·have:=h.1;rw[z4S] at this;omega
 ·cases e
  have kB:(R.flatMap Xy)[i*2+j]? =some u:=by
   have ky:j<2:=(List.getElem?_eq_some_iff.1 hj).1
   have key : ∀ (R : List (Nat × Nat)) (i : Nat), R[i]? = some q -> (R.flatMap Xy)[i * 2 + j]? = some u := by
    intro R
    induction R with
    |nil=>intro i h;simp at h
    | cons a R ih =>
      intro i h;rw[List.flatMap_cons]
      cases i with
      | zero =>
        rw[List.getElem?_cons_zero] at h;cases h;rw[List.getElem?_append_left (by show _<2;omega),Nat.zero_mul,Nat.zero_add]
        exact hj
      | succ i =>
        rw[List.getElem?_append_right (by show 2<=_;omega),show(i+1)*2+j-(Xy a).length=i*2+j by show(i+1)*2+j-2=_;omega];exact ih i h
   exact key R i hq
  have:=hc (i*2+j) u kB;rw[show off+i*2+j=off+(i*2+j) by omega];exact this
theorem Xl.ex2 {w w1 w2 w3 w4:World}{p:NT}{b5 n11:Nat}{X:Nat->Prop}{L:List (Cd×Nat)}(h:Xl w w1 w2 p b5 n11 X L w3)(hx:Ext w3 w4):Xl w w1 w2 p b5 n11 X L w4:=by
 obtain⟨⟨F,h1,h2,h3⟩,h4,h5,h6,h7⟩:=h
 exact⟨⟨F,h1.ext hx,h2,h3⟩,h4.trans hx,hx.Lg h5,by have:=hx.size;omega,h7.trans hx.kp⟩
theorem Xl.back {w w1 w2 w3 w4:World}{p:NT}{b5 n11:Nat}{X X':Nat->Prop}{L L':List (Cd×Nat)}(h:Xl w w1 w2 p b5 n11 X L w3)(h':Xl w w1 w3 p b5 n11 X' L' w4)(hX:∀k,X k->X' k):Xl w w1 w2 p b5 n11 X L' w4:=by
 obtain⟨⟨F,h1,h2,h3⟩,h4,h5,h6,h7⟩:=h'
 exact⟨⟨F,h1,h2,λk hk hx=>h3 k hk (hX k hx)⟩,h4,h5,h6,h.kx.trans (h7.Lv λk hk hx=>hk (hX k hx))⟩
theorem Xl.again {w w1 w2 w3:World}{p:NT}{b5 n11:Nat}{X X':Nat->Prop}{L:List (Cd×Nat)}{F:Nat->Prop}(h:Xl w w1 w2 p b5 n11 X L w3)(hA:Zm w3 n11 L F)(hf:∀k,F k->w1.heap.size<=k)(hx:∀k,F k->¬X' k):Xl w w1 w3 p b5 n11 X' L w3:=
 ⟨⟨F,hA,hf,hx⟩,h.ext,h.b5,h.siz,Kp.refl _ _⟩
theorem Ob (x least:Nat):∀(l:List (Nat×Nat)) (e:Option Nat),(longNums x least e l).length=2*l.length
 |[],e=>by cases e<;>rfl
 |q::l,e=>by rw[Nz,List.length_cons,List.length_cons,Ob x least l,List.length_cons];omega
theorem UT {least:Nat}:∀(R:List (Nat×Nat)) (lo i:Nat) (q:Nat×Nat),OE least lo R->R[i]? =some q->1<=q.2/\least<=q.2/\(∀z,Un (R.take i)=some z->z+2<=q.1)/\(Un (R.take i)=none->lo<=q.1)
 |[],lo,i,q,h,hq=>by simp at hq
 | p :: R, lo, 0, q, h, hq => by
   rw[List.getElem?_cons_zero] at hq;cases hq
   exact⟨h.2.1,h.2.2.1,(λz hz=>by cases hz),λ_=>h.1⟩
 | p :: R, lo, i + 1, q, h, hq => by
   rw[List.getElem?_cons_succ] at hq;obtain⟨h1,h2,h3,h4⟩:=UT R _ i q h.2.2.2 hq;have hp:1<=p.2:=h.2.1;refine⟨h1,h2,λz hz=>?_,λhz=>?_⟩
   ·rw[List.take_succ_cons] at hz
    cases hR:R.take i with
    | nil =>
      rw[hR] at hz;have e:p.1+p.2-1=z:=ML hz;have:=h4 (by rw[hR];rfl)
      omega
    | cons a l =>
      rw[hR] at hz;exact h3 z (by rw[hR];exact hz)
   ·rw[List.take_succ_cons] at hz;exfalso;unfold Un at hz;rw[Option.map_eq_none_iff,List.getLast?_eq_none_iff] at hz;cases hz
theorem z4L (l:List (Nat×Nat))(q:Nat×Nat):Un (l++[q])=some (q.1+q.2-1):=by simp[Un]
theorem z6p {least:Nat}{l:List Nat}{q:Nat×Nat}(hl:∀y∈l,y<65536)(hq:q∈(rowsN least l).1)(h1:1<=q.2):q.1+q.2<=65536:=by
 have h2:q.1+(q.2-1)∈MQ (rowsN least l).1:=by
  unfold MQ;exact List.mem_flatMap.2 ⟨q,hq,List.mem_map.2 ⟨q.2-1,List.mem_range.2 (by omega),rfl⟩⟩
 have:=hl _ ((Pq least l).subset (List.mem_append_left _ h2))
 omega
def z5Q (x:Nat):Option Nat->Nat->Nat
 |none,v=>Zc ((v:Int)-x)
 |some u,v=>v-u-1
theorem Ov (x k:Nat)(e:Option Nat)(v:Nat)(r:List Nat):restNums x k e (v::r)=(.zeta k,z5Q x e v)::restNums x k (some v) r:=by
 cases e<;>rfl
theorem TV (x k:Nat):∀(l:List Nat) (e:Option Nat) (v:Nat),restNums x k e (l++[v])=restNums x k e l++restNums x k (match l with|[]=>e|_=>l.getLast?) [v]
 |[],e,v=>by cases e<;>rfl
 | u :: l, e, v => by
   rw[List.cons_append,Ov,Ov,TV x k l _ v]
   cases l with
   |nil=>rfl
   |cons u2 l=>rfl
theorem SS (x k:Nat)(l:List Nat)(v:Nat):restNums x k none (l++[v])=restNums x k none l++[(.zeta k,z5Q x l.getLast? v)]:=by
 rw[TV]
 cases l with
 |nil=>rfl
 |cons u l=>rw[Ov x k (match u::l with|[]=>none|_=>(u::l).getLast?)];cases (u::l).getLast?<;>rfl
theorem P3 (x k:Nat):∀(l:List Nat) (e:Option Nat),(restNums x k e l).length=l.length
 |[],e=>by cases e<;>rfl
 |v::l,e=>by rw[Ov,List.length_cons,P3 x k l,List.length_cons]
theorem M4 {α:Type}{l:List α}{i:Nat}{q:α}(h:l[i]? =some q):l.take (i+1)=l.take i++[q]:=by
 rw[List.take_succ,h];rfl
theorem Tx {w : World}(p : NT)(hp : p.My)(x : Nat)(hx : x < 65536){sa ra : Option Addr}{sc rc : Nat}(succ ref : List Nat)(hs : LZ succ)(hr : LZ ref)(r : Nat)(iP : r <= p.LJ)(ld : r = 0 -> ref = [])
  (hG:Lq w 0 (Og .gamma) 260) (hU:Lq w 1 (Og .unary) 260) (dO:Rd w (.slice sa succ.length sc) 1 succ.length (succ.map LO)) (ly:Rd w (.slice ra ref.length rc) 1 ref.length (ref.map LO)) (fB:succ.length<=sc) (mL:ref.length<=rc):
  LP Tryz.prog 201 [lpV p,I (x:Int),.slice sa succ.length sc,.slice ra ref.length rc,I (r:Int)] w λu w'=>Sl w' u 323 3 (Nr p x succ ref r).length ((Nr p x succ ref r).flatMap z2p)/\(∀g,u.ownBlock=some g->w.heap.size<=g)/\Ext w w':=by
 obtain⟨g1,g2,g3,g4⟩:=id hp
 have fm:=hs.len
 have gP:=hr.len
 refine Lb (e:=[(0,_),(1,_),(2,_),(3,_),(4,_)]) Tryz.func201 O Tryz.ntmps201 O O$ qN O$ Lm O O (Nc O (cs:=VD p) O) ?_
 rintro _ w1 ⟨b5,rfl,gQ,ad,aI⟩
 have z1:=ad.size
 have l5:=aI.lt
 refine Lw O$ qM O$ qV (LM (news:=[.int .u8 1,Ly 0]) O9 O MO O ((ad.Lg hG).cells (n:=2) O) O)$ Le O$ Nd LI O$ qV ((by first|exact Mc O U3 MP (by omega)|exact Ny O U3 MP)) ?_
 refine qV (O6 (cs:=[_,_,_]) R5 O z9Y O O)$ Lm O O (RN (cs:=[_,_,_]) (zs:=[Value.int .u8 0,Value.int .u64 0,Value.int .u64 0]) VE R5 O (by kernel_rfl) O O O (by decide)) ?_
 rintro _ w2 ⟨b2,rfl,⟨c6,ag,am⟩,cG⟩
 have z2:=ag.size
 have l2:=am.lt
 refine Lm O O (NJ (cs:=[_]) z71 O) ?_
 rintro _ w3 ⟨n11,rfl,iL,ah,aH⟩
 have z3:=ah.size
 refine Ls O (MY z71 O O O aH (by simp)) ?_
 rintro w4 ⟨kC,av⟩
 have z4:=av.size
 replace kC:Lq w4 n11 [.slice (some ⟨b2,0,none⟩) 1 1] 320:=kC
 have dT:=(cG.ext ah).kp av (λg hg e=>by have h1:b2=g:=ML hg;omega)
 have tQ:NuI w w1 p b5 n11 [(.gamma,succ.length)] w4:=⟨⟨Y5 n11 (.slice (some ⟨b2,0,none⟩) 1 1),⟨_,⟨kC,dT,λe=>by have h1:b2=n11:=ML e;omega⟩,λ_=>Iff.rfl⟩,λk hk=>by
   rcases hk with e| e
   ·omega
   ·have h1:b2=k:=ML e
    omega⟩,((ad.trans ag).trans ah).It av (λk e=>by omega),av.Lg (ah.Lg (ag.Lg aI)) (by omega),by omega⟩
 refine Lf$ run_seq$ qN O$ Le O$ Nd LI O$ Nb O O$ Lf$ Lp O (λe0=>?_)$ λe0=>?_
 ·have eP:succ=[]:=List.eq_nil_of_length_eq_zero (by omega);subst eP;refine qN O$ qV (Lj VE O O kC O)$ Lk O$ Lh Tryz.func201 O ?_;have lw:Nr p x [] ref r=[(.gamma,0)]:=by simp[Nr]
  rw[lw];exact⟨_,rfl,dT,λg hg=>by have h1:b2=g:=ML hg;omega,tQ.ext⟩
 ·have gD := tQ.b5; replace gD : Lq w4 b5 [I (p.LJ : Int), I (p.interval : Int), I (p.zeta : Int)] 212 := gD; refine py (qN O (qV (Z9 (first := []) (caps := [.tmp 11]) O O) (Lk O (run_seq (qN O (Lt OS O (qV (Lj U3 O O gD O) (MH O O (Lf (M6 (λe' w' => e' = [(1, I (x : Int)), (2, .slice sa succ.length sc), (3, .slice ra ref.length rc), (4, I (r : Int)), (5, ptr b5 0), (11, ptr n11 0), (12, .func (.func 227) #[] #[ptr n11 0])] /\ NuI w w1 p b5 n11 ([(.gamma, succ.length)] ++ (if 0 < p.LJ then [(.unary, r)] else [])) w') ?cD (λcD => ?cQ)))))))))))
  case cD =>
   rintro e' w5 ⟨rfl,rR⟩;have AS:=rR.siz;refine qN O$ Lm O O (RN (cs:=[_]) (zs:=[Value.int .i64 0]) N3 Md O (by kernel_rfl) O O O (by decide)) ?_;rintro _ w6 ⟨b43,rfl,⟨AU,aK,dQ⟩,mM⟩;have l6:=dQ.lt;refine Lm O O (NJ (cs:=[_]) z1f O) ?_;rintro _ w7 ⟨rn,rfl,GU,cg,uO⟩;have l7:=uO.lt;have z7:=cg.size;refine Lm O O (NJ (cs:=[_]) O2 O) ?_;rintro _ w8 ⟨lf,rfl,GV,dy,uP⟩;have l8:=uP.lt;have z8:=dy.size;refine Ls O (MY z1f O O O (dy.Lg uO) (by simp)) ?_;rintro w9 ⟨mN,aP⟩;have z9:=aP.size;replace mN:Lq w9 rn [.slice (some ⟨b43,0,none⟩) 1 1] 40:=mN;refine Ls O (MY O2 O O O (aP.Lg uP (by omega)) (by simp)) ?_;rintro w10 ⟨jH,ar⟩;have z10:=ar.size;replace jH:Lq w10 lf [.slice none 0 0] 45:=jH;have fR:Ext w5 w10:=(((aK.trans cg).trans dy).It aP (λk e=>by omega)).It ar (λk e=>by omega)
   have oP:NuI w w1 p b5 n11 ([(.gamma,succ.length)]++(if 0<p.LJ then [(.unary,r)] else [])) w10:=by
    obtain⟨⟨F,h1,h2⟩,h3,h4,h5⟩:=rR;exact⟨⟨F,h1.ext fR,h2⟩,h3.trans fR,fR.Lg h4,by have:=fR.size;omega⟩
   have bh:=(((mM.ext cg).ext dy).kp aP (λg hg e=>by have h1:b43=g:=ML hg;omega)).kp ar (λg hg e=>by have h1:b43=g:=ML hg;omega);have GW:Ym w10 lf [] (Y5 lf (.slice none 0 0)):=⟨_,⟨jH,Sl.nil _ _ _,λe=>by cases e⟩,λ_=>Iff.rfl⟩;have GX:Xp w10 rn [0] (Y5 rn (.slice (some ⟨b43,0,none⟩) 1 1)):=⟨_,⟨ar.Lg mN (by omega),bh,λe=>by have h1:b43=rn:=ML e;omega⟩,λ_=>Iff.rfl⟩
   have lz:∀k,Y5 lf (.slice none 0 0) k->k=lf:=λk hk=>by
    rcases hk with e| e
    ·exact e
    ·cases e
   have kw:∀k,Y5 rn (.slice (some ⟨b43,0,none⟩) 1 1) k->k=rn\/k=b43:=λk hk=>by
    rcases hk with e| e
    ·exact .inl e
    ·exact .inr (ML e).symm
   have cK:∀k,Y5 lf (.slice none 0 0) k\/Y5 rn (.slice (some ⟨b43,0,none⟩) 1 1) k->w5.heap.size<=k:=λk hk=>by
    rcases hk with e| e
    ·have:=lz k e;omega
    ·rcases kw k e with e|e<;>omega
   have hE:PI w10 succ ref lf rn (Y5 lf (.slice none 0 0)) (Y5 rn (.slice (some ⟨b43,0,none⟩) 1 1)) succ sa sc ref ra rc [] [0] w10:=by
    refine⟨⟨_,_,[],GW,GX,Pc.zero,by simpa using gP,by simp;omega,λk h=> .inl h,λk h=> .inl h,λk h1 h2=>?_⟩,λw2 k=>?_,λw2 k=>?_,fB,mL,Kp.refl _ _,hs,hr,rfl,rfl,by simpa using fm⟩
    ·have e1:=lz k h1;rcases kw k h2 with e2|e2<;>omega
    ·exact(dO.ext oP.ext).kpz k (λh0 g hg hS=>by have e1:=dO.ltz (by decide) h0 hg;have e2:=cK g hS;omega)
    ·exact(ly.ext oP.ext).kpz k (λh0 g hg hS=>by have e1:=ly.ltz (by decide) h0 hg;have e2:=cK g hS;omega)
   refine qM O$ Lu O O$ qV (Z9 (first:=[]) (caps:=[.tmp 14,.tmp 13]) O O)$ LD zcy O (z61 hE) ?_;rintro _ w11 ⟨rfl,FL,FR,uQ,oQ,AV,AW,m9,bA⟩
   have oR:NuI w w1 p b5 n11 ([(.gamma,succ.length)]++(if 0<p.LJ then [(.unary,r)] else [])) w11:=by
    have aQ:Kp (λk=>Y5 lf (.slice none 0 0) k\/Y5 rn (.slice (some ⟨b43,0,none⟩) 1 1) k) w10 w11:=bA;have AX:=rR.ex;obtain⟨⟨F,h1,h2⟩,h3,h4,h5⟩:=oP;obtain⟨F5,h6,h7⟩:=AX;have gQ:b5<w5.heap.size:=rR.b5.lt;refine⟨⟨F5,(h6.ext fR).kp aQ (λk hk hS=>by have e1:=h6.lt hk;have e2:=cK k hS;omega),h7⟩,h3.It aQ (λk hk=>by have e2:=cK k hk;have:=rR.ext.size;omega),aQ.Lg h4 (λhS=>by have e2:=cK b5 hS;omega),by have:=aQ.size;omega⟩
   generalize hA:([(Cd.gamma,succ.length)]++(if 0<p.LJ then [(Cd.unary,r)] else []):List (Cd×Nat))=A at oR oP rR
   have Kl:A.length<=2:=by rw[<-hA];split<;>simp
   have uR:∀k,(FL k\/FR k)->k<w11.heap.size:=λk hk=>by
    rcases hk with e| e
    ·exact uQ.lt e
    ·exact oQ.lt e
   have oS:Xl w w1 w11 p b5 n11 (λk=>FL k\/FR k) A w11:=by
    obtain⟨F5,h6,h7⟩:=rR.ex;have Km:=fR.size;refine⟨⟨F5,(h6.ext fR).kp bA (λk hk hS=>by have e1:=h6.lt hk;have e2:=cK k hS;omega),h7,λk hk hX=>?_⟩,oR.ext,oR.b5,oR.siz,Kp.refl _ _⟩;have e1:=h6.lt hk;rcases hX with e| e
    ·rcases AV k e with e2|e2
     ·have:=cK k (.inl e2);omega
     ·omega
    ·rcases AW k e with e2|e2
     ·have:=cK k (.inr e2);omega
     ·omega
   refine Lf$ run_seq$ qN O$ Le O$ MH O O$ Lf$ M6 (λe' w'=>e'=[(1,I (x:Int)),(5,ptr b5 0),(11,ptr n11 0),(12,.func (.func 227) #[] #[ptr n11 0]),(14,ptr lf 0)]/\Xl w w1 w11 p b5 n11 (λk=>FL k\/FR k) (A++(if 0<r then(.gamma,(N5 succ ref).length-1)::runNums 0 (N5 succ ref).dropLast else [])) w') ?e8$ λe8=>?eS
   case e8 =>
    rintro e' w12 ⟨rfl,iQ⟩;have iC:succ≠[]:=λe=>e0 (by rw[e];rfl)
    generalize hB:(if 0<r then(Cd.gamma,(N5 succ ref).length-1)::runNums 0 (N5 succ ref).dropLast else []:List (Cd×Nat))=B at iQ
    have uS:=uQ.kp iQ.kx (λk hk e=>e (.inl hk));obtain⟨vl,yS,Kn⟩:=uS;obtain⟨la,lc,rfl,-⟩:=yS.sl.rd.shape;obtain⟨F,⟨vn,qm,uT⟩,oT,AY⟩:=id iQ.ex;have tR:=yS.Lg;have oU:=qm.Lg;refine run_seq$ qN O$ qV ((by first|exact Lj LI O O tR O|exact Lj LI O O oU O)) ?_;refine Nd LI O$ Nb O O$ Lf$ Lp O (λe3=>?_)$ λe3=>?_
    ·have gA:leftOf succ ref=[]:=List.eq_nil_of_length_eq_zero (by omega)
     have mO:Nr p x succ ref r=A++B:=by
      unfold Nr;rw[if_neg iC,if_pos gA,List.append_nil,<-hA,<-hB];rfl
     refine qN O$ qV ((by first|exact Lj VE O O tR O|exact Lj VE O O oU O)) ?_;refine Lk O$ Lh Tryz.func201 O ?_;rw[mO];exact⟨_,rfl,qm.sl,λg hg=>by have:=oT g ((uT g).2 (.inr hg));omega,iQ.ext⟩
    ·have oV := iQ.b5; replace oV : Lq w12 b5 [I (p.LJ : Int), I (p.interval : Int), I (p.zeta : Int)] 212 := oV; refine py (qN O (qV ((by first | exact Lj LI O O tR O | exact Lj LI O O oV O)) ?_)); refine Lt PK O (qV ((by first | exact Lj U3 O O tR O | exact Lj U3 O O oV O)) ?_); have aw : LZ (leftOf succ ref) := hs.sub List.filter_sublist; have GY := aw.len
     have gE:(leftOf succ ref).length<=lc:=by
      rcases yS.sl.shape with⟨-,h0⟩|⟨g,c1,hv,dv⟩
      ·omega
      ·cases hv;exact dv
     refine LD zem O (z5S la lc (leftOf succ ref) p.interval aw gE (by omega) w12 yS.sl.rd) ?_;rintro _ w13 ⟨v4,v5,rfl,lA,mP,aL,kD,oW,EU⟩;have dx:=Q5 p.interval (leftOf succ ref);have oX:LZ (rowsN p.interval (leftOf succ ref)).2:=aw.sub dx
     have gq:∀k,(v4.ownBlock=some k\/v5.ownBlock=some k)->w12.heap.size<=k/\k<w13.heap.size:=λk hk=>by
      rcases hk with e| e
      ·exact⟨kD k e,lA.lt e⟩
      ·exact⟨oW k e,mP.lt e⟩
     have oY:Xl w w1 w13 p b5 n11 (λk=>v4.ownBlock=some k\/v5.ownBlock=some k) (A++B) w13:=by
      have ju:∀k,F k->k<w12.heap.size:=λk hk=>by
       rcases (uT k).1 hk with e| e
       ·rw[e];exact qm.Lg.lt
       ·exact qm.sl.lt e
      have uU:Zm w12 n11 (A++B) F:=⟨vn,qm,uT⟩;exact⟨⟨F,uU.ext aL,oT,λk hk hX=>by have e1:=ju k hk;have e2:=(gq k hX).1;omega⟩,iQ.ext.trans aL,aL.Lg iQ.b5,by have e1:=iQ.siz;have e2:=aL.size;omega,Kp.refl _ _⟩
     have uV:=aL.Lg oV;have GZ:=lA.oneV;have H0:=mP.oneV;refine Le O$ Mp O O$ Mp O O$ Lw O$ Lk O$ run_seq$ qN O$ Lt PK O$ qV (Lj U3 O O uV O)$ MH O O$ Lf ?_
     have H1:(A++B).length<=200000:=by
      rw[List.length_append,<-hB];split
      ·rw[List.length_cons,ON,List.length_dropLast];have h1:=(OM succ ref).WC;rw[List.length_map] at h1;omega
      ·simp;omega
     generalize hQ:rowsN p.interval (leftOf succ ref)=Q at lA mP oX dx
     have Ko : Q.1.length <= 65536 := by
      have h1:=Pq p.interval (leftOf succ ref);have h2:=h1.length_eq;rw[hQ,List.length_append] at h2
      have h3:∀R:List (Nat×Nat),OE p.interval 0 R->R.length<=(MQ R).length:=by
       have h4:∀(R:List (Nat×Nat)) (lo:Nat),OE p.interval lo R->R.length<=(MQ R).length:=by
        intro R
        induction R with
        |nil=>intro lo h;exact Nat.le_refl _
        | cons q R ih =>
          intro lo h;have h5:=ih _ h.2.2.2;have h6:1<=q.2:=h.2.1;rw[show MQ (q::R)=(List.range q.2).map (q.1+·)++MQ R from rfl,List.length_append,List.length_map,List.length_range,List.length_cons];omega
       exact λR h=>h4 R 0 h
      have h5:=h3 _ (QH p.interval (leftOf succ ref) 0 aw.Uq (λy _=>Nat.zero_le _));rw[hQ] at h5;omega
     have oZ:OE p.interval 0 Q.1:=by have h:=QH p.interval (leftOf succ ref) 0 aw.Uq (λy _=>Nat.zero_le _);rwa [hQ] at h
     have rS:∀q∈Q.1,1<=q.2->q.1+q.2<=65536:=λq hq h1=>z6p (least:=p.interval) aw.lt (by rw[hQ];exact hq) h1
     have uW:∃fa fc,v4= .slice fa Q.1.length fc:=by
      obtain⟨fa,fc,e,-⟩:=lA.rd.shape;exact⟨fa,fc,e⟩
     obtain⟨fa,fc,rfl⟩:=uW;refine M6 (λe' w'=>e'=[(1,I (x:Int)),(5,ptr b5 0),(11,ptr n11 0),(12,.func (.func 227) #[] #[ptr n11 0]),(17,.slice fa Q.1.length fc),(18,v5)]/\Xl w w1 w13 p b5 n11 (λk=>(Value.slice fa Q.1.length fc).ownBlock=some k\/v5.ownBlock=some k) (A++B++if 0<p.interval then [(.gamma,Q.1.length)] else []) w') ?au$ λau=>?dz
     case au =>
      rintro e' w14 ⟨rfl,uX⟩;refine qN O$ Lk O$ run_seq$ qN O$ Le O$ Nd z6g O$ Le O$ Lf$ Lc ?_
      generalize AZ:(if 0<p.interval then [(Cd.gamma,Q.1.length)] else []:List (Cd×Nat))=C0 at uX
      refine Nl (λe' w'=>e'=[(1,I (x:Int)),(5,ptr b5 0),(11,ptr n11 0),(12,.func (.func 227) #[] #[ptr n11 0]),(18,v5)]/\Xl w w1 w13 p b5 n11 (λk=>(Value.slice fa Q.1.length fc).ownBlock=some k\/v5.ownBlock=some k) (A++B++C0++longNums x p.interval none Q.1) w') ?mJ$ λmJ=>?mK
      case mJ =>
       rintro e' w15 ⟨rfl,fS⟩;obtain⟨F15,fT,lB,iR⟩:=fS.ex;have mQ:=fS.b5;replace mQ:Lq w15 b5 [I (p.LJ:Int),I (p.interval:Int),I (p.zeta:Int)] 212:=mQ;refine qN O$ Lt VL O$ qV (Lj U3 O O mQ O)$ qV ((by first|exact Mc O U3 MP (by omega)|exact Ny O U3 MP)) ?_;refine qV (O6 (cs:=[_,_]) MO O z9s O O)$ Lm O O (NJ (cs:=[_,_]) MO O) ?_;rintro _ w16 ⟨b22,rfl,H2,aO,i8⟩;have z16:=aO.size;refine Ls O (M7 (news:=[.int .u8 3,Ly p.zeta]) MO O O O O i8 (by simp)) ?_;rintro w17 ⟨kE,cj⟩;replace kE:Lq w17 b22 [.int .u8 3,Ly p.zeta] 260:=kE;have ee:Ext w15 w17:=aO.It cj (λk e=>by omega);have z17:=ee.size;have cV:¬F15 b22:=λe=>by have:=fT.lt e;omega
       have eg:=(mP.kp fS.kx (λg hg e=>e (.inr hg))).ext ee
       obtain⟨ha,hc,e5⟩:∃a c,v5= .slice a Q.2.length c:=by
        obtain⟨fa,fc,e,-⟩:=mP.rd.shape;exact⟨fa,fc,e⟩
       subst e5;have lC:=(fS.ex2 ee).again (X':=λk=>(Value.slice ha Q.2.length hc).ownBlock=some k\/k=b22) (fT.ext ee) lB (λk hk hX=>by rcases hX with hX|e;exact iR k hk (.inr hX);exact cV (e▸hk));have l22:=kE.lt
       have oe:∀k,((Value.slice ha Q.2.length hc).ownBlock=some k\/k=b22)->k<w17.heap.size:=λk hk=>by
        rcases hk with e| e
        ·have:=eg.lt e;omega
        ·omega
       have yT:=oX.len
       have H3:(A++B++C0++longNums x p.interval none Q.1).length<=400000:=by
        rw[List.length_append,List.length_append,Ob,<-AZ];split<;>simp only[List.length_cons,List.length_nil]<;>omega
       refine Lf$ run_seq$ qN O$ Le O$ Nd LI O$ Le O$ Lf$ Lc$ Nj (α:=Nat) (0) (λi=>[(1,I (x:Int)),(11,ptr n11 0),(12,.func (.func 227) #[] #[ptr n11 0]),(18,.slice ha Q.2.length hc),(22,ptr b22 0),(138,.slice ha Q.2.length hc),(139,I (Q.2.length:Int)),(140,I (i:Int))]) (λi w'=>Xl w w1 w17 p b5 n11 (λk=>(Value.slice ha Q.2.length hc).ownBlock=some k\/k=b22) (A++B++C0++longNums x p.interval none Q.1++restNums x p.zeta none (Q.2.take i)) w'/\i<=Q.2.length) (λi=>Q.2.length-i) ?hI ?hround
       case hI=>exact⟨by simpa[restNums] using lC,Nat.zero_le _⟩
       case hround=>
        rintro i w18 ⟨eW,hi⟩ ih
        try dsimp only
        refine qN O$ Mw O O$ Lf$ run_seq$ Lp O (λe5=>?_)$ λe5=>?_
        ·have dB:i<Q.2.length:=by omega
         obtain⟨v,hv⟩:∃v,Q.2[i]? =some v:=⟨_,List.getElem?_eq_getElem dB⟩;have uY:v<65536:=oX.lt v (List.mem_of_getElem? hv);have uZ:=eg.kp eW.kx (λg hg e=>e (.inl hg))
         obtain⟨g5,c5,e6⟩:∃g c,Value.slice ha Q.2.length hc= .slice (some ⟨g,0,none⟩) Q.2.length c:=by
          rcases eg.shape with⟨-,h0⟩|⟨g,c,e,hc⟩
          ·omega
          ·exact⟨g,c,e⟩
         cases e6;obtain⟨F18,kF,p5,gT⟩:=eW.ex;have vd:=eW.kx.Lg kE (λe=>e (.inr O));have qn:¬F18 b22:=λe=>gT b22 e (.inr O);have hg:=Ext.LC w18;have yU:=eW.ex2 hg
         have p8:(A++B++C0++longNums x p.interval none Q.1++restNums x p.zeta none (Q.2.take i)).length<=500000:=by
          rw[List.length_append,P3,List.length_take];omega
         refine py$ run_seq$ Lc$ qN O$ Le O$ qV (M9 LI Lz O O (by omega))$ qV (LN Mx O O (Mn uZ.rd (show(Q.2.map LO)[i]? =some (LO v) by rw[List.getElem?_map,hv];rfl))) ?_;refine Lw O$ Lw O$ qM O$ Le O$ Nb O O$ Lf$ Lp O (λe6=>?_)$ λe6=>?_
         ·have jI:i=0:=by omega
          refine N7 (λw'=>Kp F18 w18 w') O$ LA 0 O O (hg.kp)$ LA 2 O O (hg.kp)$ Ll 3 O (M3 O Mx U2 (by omega)) (hg.kp)$ LA 4 O O (hg.kp)$ Ll 5 O (SR O O (by omega)) (hg.kp)$ qT 1 O (λ_ h=>LM (news:=[.int .u8 3,Ly p.zeta]) O9 O MO O ((h.Lg vd qn).cells (n:=2) O) O) (hg.kp)$ OA 6 O z9l O (z3r ((v:Int)-x) (by omega) _) ?_;rintro _ w19 ⟨rfl,rfl⟩;refine⟨hg.kp,?_⟩;have ve:=US (z:=(v:Int)-x) (n:=65537) (by omega) (by omega);refine Ll 7 O (M3 O MP U3 (by omega)) (hg.kp)$ qO 8$ RT (i:=8) O O O (NW TK O O) (OR (kF.ext hg) (by omega) (.zeta p.zeta) (Zc ((v:Int)-x)) (by omega)) ?_;rintro _ w20 ⟨rfl,F20,rT,mR,rU⟩;refine⟨hg.kp.trans mR,?_⟩;have p9:=yU.put oe p5 gT l5 z1 ⟨F20,rT,mR,rU⟩;refine qE$ Ld$ Li O$ Mb O O$ Le O$ Lf ((ih (i+1) _ ⟨?_,by omega⟩ (by omega)).qb);rw[M4 hv,SS,<-List.append_assoc,show Q.2.take i=[] by rw[jI];rfl];rw[show Q.2.take i=[] by rw[jI];rfl] at p9;exact p9
         ·have jI:0<i:=by omega
          obtain⟨u,hu⟩:∃u,Q.2[i-1]? =some u:=⟨_,List.getElem?_eq_getElem (by omega)⟩
          have Kq:u<v:=by
           obtain⟨a1,a2⟩:=List.getElem?_eq_some_iff.1 hu;obtain⟨b1,b2⟩:=List.getElem?_eq_some_iff.1 hv;have:=List.pairwise_iff_getElem.1 oX.Uq (i-1) i a1 b1 (by omega)
           rwa [a2,b2] at this
          refine N7 (λw'=>Kp F18 w18 w') O$ LA 0 O O (hg.kp)$ LA 2 O O (hg.kp)$ LA 3 O O (hg.kp)$ LA 4 O O (hg.kp)$ qT 1 O (λ_ h=>LM (news:=[.int .u8 3,Ly p.zeta]) O9 O MO O ((h.Lg vd qn).cells (n:=2) O) O) (hg.kp)$ Ll 5 O (SR O O (by omega)) (hg.kp) ?_;rw[show(i:Int)-1=((i-1:Nat):Int) by omega];refine Ll 6 O (M9 LI Lz O O (by omega)) (hg.kp)$ qT 7 O (λ_ hS=>LN Mx O O (Mn (uZ.kp hS (λg hg e=>gT g e (.inl hg))).rd (show(Q.2.map LO)[i-1]? =some (LO u) by rw[List.getElem?_map,hu];rfl))) (hg.kp) ?_;refine Ll 8 O (RO (m:=v) (n:=u) O O O (by show v<2^32;omega) (by omega)) (hg.kp) ?_;refine Ll 9 O (RO (m:=v-u) (n:=1) O O O (by show v-u<2^32;omega) (by omega)) (hg.kp) ?_;refine Ll 10 O (M3 O Mx U3 (by omega)) (hg.kp)$ qO 11$ RT (i:=11) O O O (NW TK O O) (OR (kF.ext hg) (by omega) (.zeta p.zeta) (v-u-1) (by omega)) ?_;rintro _ w20 ⟨rfl,F20,rT,mR,rU⟩;refine⟨hg.kp.trans mR,?_⟩;have p9:=yU.put oe p5 gT l5 z1 ⟨F20,rT,mR,rU⟩;refine qE$ Ld$ Li O$ Mb O O$ Le O$ Lf ((ih (i+1) _ ⟨?_,by omega⟩ (by omega)).qb);rw[M4 hv,SS,<-List.append_assoc,List.getLast?_take,if_neg (by omega),hu];exact p9
        ·have cE:i=Q.2.length:=by omega
         rw[cE,List.take_length] at eW;obtain⟨F,⟨vn,qm,uT⟩,oT,AY⟩:=id eW.ex;have oU:=qm.Lg
         have mO:Nr p x succ ref r=A++B++C0++longNums x p.interval none Q.1++restNums x p.zeta none Q.2:=by
          have gA:¬leftOf succ ref=[]:=λe=>e3 (by rw[e];rfl);unfold Nr;rw[if_neg iC,if_neg gA,hQ,hB,<-hA,<-AZ];by_cases jI:0<p.interval
          ·simp only[if_pos jI,List.append_assoc,List.cons_append,List.nil_append]
          ·have cT:Q.1=[]:=by rw[<-hQ,show p.interval=0 by omega];exact Tp _
           rw[cT];simp only[if_neg jI,List.append_assoc,List.cons_append,List.nil_append,longNums]
         refine Ln O$ qN O$ qV (Lj VE O O oU O)$ Lk O$ Lh Tryz.func201 O ?_;rw[mO];exact⟨_,rfl,qm.sl,λg hg=>by have:=oT g ((uT g).2 (.inr hg));omega,eW.ext⟩
      case mK=>
       refine Nj (α:=Nat) (0) (λi=>[(1,I (x:Int)),(5,ptr b5 0),(11,ptr n11 0),(12,.func (.func 227) #[] #[ptr n11 0]),(18,v5),(19,I (z1r (Un (Q.1.take i)))),(94,.slice fa Q.1.length fc),(95,I (Q.1.length:Int)),(96,I (i:Int))]) (λi w'=>Xl w w1 w13 p b5 n11 (λk=>(Value.slice fa Q.1.length fc).ownBlock=some k\/v5.ownBlock=some k) (A++B++C0++longNums x p.interval none (Q.1.take i)) w'/\i<=Q.1.length) (λi=>Q.1.length-i) ?hI ?hround
       case hI=>exact⟨by simpa[longNums] using uX,Nat.zero_le _⟩
       case hround =>
        rintro i w15 ⟨fS,hi⟩ ih
        try dsimp only
        refine qN O$ Mw O O$ Lf$ run_seq$ Lp O (λe5=>?_)$ λe5=>?_
        ·have dB:i<Q.1.length:=by omega
         obtain⟨⟨q1,q2⟩,hq⟩:∃q,Q.1[i]? =some q:=⟨_,List.getElem?_eq_getElem dB⟩;obtain⟨ok1,ok2,ok3,-⟩:=UT Q.1 0 i (q1,q2) oZ hq;dsimp only at ok1 ok2 ok3;have Kr:q1+q2<=65536:=rS (q1,q2) (List.mem_of_getElem? hq) ok1;have B0:=lA.kp fS.kx (λg hg e=>e (.inl hg))
         obtain⟨g4,c4,e4⟩:∃g c,Value.slice fa Q.1.length fc= .slice (some ⟨g,0,none⟩) Q.1.length c:=by
          rcases lA.shape with⟨-,h0⟩|⟨g,c,e,hc⟩
          ·omega
          ·exact⟨g,c,e⟩
         cases e4;obtain⟨F15,fT,lB,iR⟩:=fS.ex;refine py$ run_seq$ Lc$ qN O$ qV (M9 z6g WJ O O (by omega))$ qV (LM (news:=[I (q1:Int),I (q2:Int)]) zeK O WJ O (z6V B0.rd hq) O)$ Lm O O (NJ (cs:=[_,_]) WJ O) ?_;rintro _ w16 ⟨b21,rfl,H4,aO,B1⟩;have z16:=aO.size;refine Ls O (M7 (news:=[I (q1:Int),I (q2:Int)]) WJ O O O O B1 (by simp)) ?_;rintro w17 ⟨fU,cj⟩;replace fU:Lq w17 b21 [I (q1:Int),I (q2:Int)] 350:=fU;have ee:Ext w15 w17:=aO.It cj (λk e=>by omega);have lC:=fS.ex2 ee;have cV:¬F15 b21:=λe=>by have:=fT.lt e;omega
         have o6:¬F15 0:=λe=>by have:=lB 0 e;have:=hG.lt;omega
         have H3:(A++B++C0++longNums x p.interval none (Q.1.take i)).length<=400000:=by
          rw[List.length_append,List.length_append,Ob,List.length_take,<-AZ];split<;>simp only[List.length_cons,List.length_nil]<;>omega
         refine Lf$ run_seq$ qN O$ Le O$ Mw O O$ Lf ?_;have qo:=lC.again (X':=(λk=>((Value.slice (some ⟨g4,0,none⟩) Q.1.length fc).ownBlock=some k\/v5.ownBlock=some k)\/k=b21)) (fT.ext ee) lB (λk hk hX=>by rcases hX with hX|e;exact iR k hk hX;exact cV (e▸hk));have H5:=ee.size;have l21:=fU.lt
         have oe:∀k,(((Value.slice (some ⟨g4,0,none⟩) Q.1.length fc).ownBlock=some k\/v5.ownBlock=some k)\/k=b21)->k<w17.heap.size:=λk hk=>by
          rcases hk with e| e
          ·have:=(gq k e).2;have:=fS.kx.size;omega
          ·omega
         refine M6 (λe' w'=>e'=[(1,I (x:Int)),(5,ptr b5 0),(11,ptr n11 0),(12,.func (.func 227) #[] #[ptr n11 0]),(18,v5),(21,ptr b21 0),(94,.slice (some ⟨g4,0,none⟩) Q.1.length fc),(95,I (Q.1.length:Int)),(96,I (i:Int))]/\Xl w w1 w17 p b5 n11 (λk=>((Value.slice (some ⟨g4,0,none⟩) Q.1.length fc).ownBlock=some k\/v5.ownBlock=some k)\/k=b21) (A++B++C0++longNums x p.interval none (Q.1.take i)++[(.gamma,Qr x (Un (Q.1.take i)) q1)]) w') ?dm$ λdm=>?B3
         case dm=>
          rintro e' w18 ⟨rfl,eW⟩;obtain⟨F18,kF,p5,gT⟩:=eW.ex;have qp:=eW.kx.Lg fU (λe=>e (.inr O));have kG:=eW.b5;replace kG:Lq w18 b5 [I (p.LJ:Int),I (p.interval:Int),I (p.zeta:Int)] 212:=kG;refine qN O$ Le O$ qV (LM (news:=[.int .u8 1,Ly 0]) O9 O MO O ((eW.ext.Lg hG).cells (n:=2) O) O)$ Lt z30 O$ qV ((by first|exact Lj U3 O O qp O|exact Lj U3 O O kG O)) ?_;refine Lt PK O$ qV ((by first|exact Lj U3 O O qp O|exact Lj U3 O O kG O)) ?_;refine Np O O ?_;rw[show(q2:Int)-(p.interval:Int)=((q2-p.interval:Nat):Int) by omega];refine MK O O (NW TK O O) (OR kF (by rw[List.length_append,List.length_singleton];omega) .gamma (q2-p.interval) (by omega)) ?_;rintro _ w19 ⟨rfl,B2⟩;have vf:=eW.put oe p5 gT l5 z1 B2;have qq:=vf.kx.Lg fU (λe=>e (.inr O));refine Lf$ Li O$ Lt YR O$ qV (Lj U3 O O qq O)$ Lt z30 O$ qV (Lj U3 O O qq O)$ Mb O O$ Np O O$ Lk O$ Ld$ Li O$ Mb O O$ Le O$ Lf ?_;rw[show(q1:Int)+q2-1=z1r (Un (Q.1.take (i+1))) by rw[M4 hq,z4L];show _=((q1+q2-1:Nat):Int);omega];refine(ih (i+1) _ ⟨?_,by omega⟩ (by omega)).qb;rw[M4 hq,Xo,<-List.append_assoc,show [(Cd.gamma,Qr x (Un (Q.1.take i)) q1),(Cd.gamma,q2-p.interval)]=[(Cd.gamma,Qr x (Un (Q.1.take i)) q1)]++[(Cd.gamma,q2-p.interval)] from rfl,<-List.append_assoc];exact lC.back vf (λk hk=> .inl hk)
         case B3=>
          have hg:=Ext.LC w17;have yU:=qo.ex2 hg
          cases hE:Un (Q.1.take i) with
          | none =>
            refine Lp O (λe6=>?_)$ λe6=>?_
            ·refine N7 (λw'=>Kp F15 w17 w') O$ LA 0 O O (hg.kp)$ Ll 2 O (LV YR O) (hg.kp)$ qT 3 O (λ_ h=>Lj U3 O O (h.Lg fU cV) O) (hg.kp)$ LA 4 O O (hg.kp)$ Ll 5 O (SR O O (by omega)) (hg.kp)$ qT 1 O (λ_ hS=>LM (news:=[.int .u8 1,Ly 0]) O9 O MO O ((hS.Lg (lC.ext.Lg hG) o6).cells (n:=2) O) O) (hg.kp)$ OA 6 O z9l O (z3r ((q1:Int)-x) (by omega) _) ?_;rintro _ w18 ⟨rfl,rfl⟩;refine⟨hg.kp,?_⟩;have ve:=US (z:=(q1:Int)-x) (n:=65537) (by omega) (by omega);refine Ll 7 O (M3 O MP U3 (by omega)) (hg.kp)$ qO 8$ RT (i:=8) O O O (NW TK O O) (OR ((fT.ext ee).ext hg) (by omega) .gamma (Zc ((q1:Int)-x)) (by omega)) ?_;rintro _ w19 ⟨rfl,F19,B4,vg,B5⟩;refine⟨hg.kp.trans vg,?_⟩;refine qE ?_;exact(dm _ _ ⟨rfl,by rw[hE];exact yU.put oe lB (λk hk hX=>by rcases hX with hX|e;exact iR k hk hX;exact cV (e▸hk)) l5 z1 ⟨F19,B4,vg,B5⟩⟩).qb
            ·exact absurd (by decide) e6
          | some z =>
            refine Lp O (λe6=>?_)$ λe6=>?_
            ·exact absurd e6 (by show ¬((z:Int)<0);omega)
            ·have hz:=ok3 z hE;refine Li O$ Le O$ qV (LM (news:=[.int .u8 1,Ly 0]) O9 O MO O ((lC.ext.Lg hG).cells (n:=2) O) O) ?_;rw[show z1r (some z)=(z:Int) from rfl];refine Lt YR O$ qV (Lj U3 O O fU O)$ Le O$ Np O O$ Np O O ?_;rw[show(q1:Int)-z-2=((q1-z-2:Nat):Int) by omega];refine MK O O (NW TK O O) (OR (fT.ext ee) (by omega) .gamma (q1-z-2) (by omega)) ?_;rintro _ w18 ⟨rfl,B6⟩;refine Lf ?_;exact(dm _ _ ⟨rfl,by rw[hE];exact qo.put oe lB (λk hk hX=>by rcases hX with hX|e;exact iR k hk hX;exact cV (e▸hk)) l5 z1 B6⟩).qb
        ·have cE:i=Q.1.length:=by omega
         rw[cE,List.take_length] at fS;refine Ln O ?_;exact(mJ _ _ ⟨rfl,fS⟩).qb
     case dz=>
      refine Lp O (λe4=>?_)$ λe4=>?_
      ·have jI:0<p.interval:=by omega
       obtain⟨F13,mS,rV,mT⟩:=oY.ex;refine Li O$ Le O$ qV (LM (news:=[.int .u8 1,Ly 0]) O9 O MO O ((oY.ext.Lg hG).cells (n:=2) O) O)$ Le O$ Nd z6g O$ MK O O (NW TK O O) (OR mS (by omega) .gamma Q.1.length (by omega)) ?_;rintro _ w14 ⟨rfl,rW⟩;refine Lf$ LS.qb (e:=[(1,_),(5,_),(11,_),(12,_),(17,_),(18,_)]) ?_;exact(au _ _ ⟨rfl,by rw[if_pos jI];exact oY.put (λk hk=>(gq k hk).2) rV mT l5 z1 rW⟩).qb
      ·have jI:¬0<p.interval:=by omega
       refine py ?_;exact(au _ _ ⟨rfl,by rw[if_neg jI,List.append_nil];exact oY⟩).qb
   case eS =>
    refine Lp O (λe2=>?_)$ λe2=>?_
    ·have rX : 0 < r := by omega
     have pa:=OM succ ref;rw[if_pos rX] at e8
     generalize N5 succ ref=rs at pa oQ e8
     obtain⟨l,m,rfl⟩:∃l m,rs=l++[m]:=⟨rs.dropLast,rs.getLast pa.ne,(List.dropLast_concat_getLast pa.ne).symm⟩;have rY:(l++[m]).length=l.length+1:=by simp
     have dN:l.length<=65537:=by have h1:=pa.WC;rw[List.length_map,rY] at h1;omega
     rw[List.dropLast_concat,rY,Nat.add_sub_cancel] at e8;obtain⟨vr,yV,EV⟩:=id oQ;rw[rY] at yV;rcases yV.sl.shape with⟨-,h0⟩|⟨g,c1,rfl,dv⟩
     ·omega
     have vh:=yV.Lg;obtain⟨F,uU,hf,H6⟩:=oS.ex;refine qN O$ Le O$ qV (LM (news:=[.int .u8 1,Ly 0]) O9 O MO O ((oS.ext.Lg hG).cells (n:=2) O) O)$ qV (Lj N3 O O vh O)$ Nd N3 O$ Np O O ?_;rw[show((l.length+1:Nat):Int)-1=(l.length:Int) by omega];refine MK O O (NW TK O O) (OR uU (by omega) .gamma l.length (by omega)) ?_;rintro _ w12 ⟨rfl,B7⟩;have i9:=oS.put uR hf H6 l5 z1 B7;have EW:=oQ.kp i9.kx (λk hk e=>e (.inr hk));have qr:=i9.kx.Lg vh (λe=>e (.inr ((EV rn).2 (.inl O))));refine qM O$ qV (Lj N3 O O qr O) ?_;rw[show((l.length+1:Nat):Int)=((l.length+1:Nat):Int) from rfl];refine qV (Lj N3 O O qr O)$ Nd N3 O$ Np O O ?_;rw[show((l.length+1:Nat):Int)-1=(l.length:Int) by omega];refine qV (z7c N3 Md O O (by omega))$ Nd N3 O$ Le O$ Lf$ LS.qb (e:=[(1,_),(5,_),(11,_),(12,_),(14,_),(60,_),(61,_),(62,_)]) ?_;refine Lc$ Nj (α:=Nat) (0) (λi=>[(1,I (x:Int)),(5,ptr b5 0),(11,ptr n11 0),(12,.func (.func 227) #[] #[ptr n11 0]),(14,ptr lf 0),(60,.slice (some ⟨g,0,none⟩) l.length c1),(61,I (l.length:Int)),(62,I (i:Int))]) (λi w'=>Xl w w1 w11 p b5 n11 (λk=>FL k\/FR k) (A++(Cd.gamma,l.length)::runNums 0 (l.take i)) w'/\i<=l.length) (λi=>l.length-i) ?hI ?hround
     case hI=>exact⟨i9,Nat.zero_le _⟩
     case hround =>
      rintro i w13 ⟨lD,hi⟩ ih
      try dsimp only
      refine qN O$ Mw O O$ Lf$ run_seq$ Lp O (λe3=>?_)$ λe3=>?_
      ·have dB:i<l.length:=by omega
       obtain⟨F13,mS,rV,mT⟩:=lD.ex;have rZ:=yV.sl.kp lD.kx (λg2 hg e=>e (.inr ((EV g2).2 (.inr hg))));have gZ:(l++[m])[i]? =some l[i]:=by rw[List.getElem?_append_left dB,List.getElem?_eq_getElem dB]
       have hC:min i 1<=l[i]:=by
        rcases Nat.eq_zero_or_pos i with e| e
        ·omega
        ·have h1:=pa.pos l[i] (by
          rw[List.mem_iff_getElem?];refine⟨i-1,?_⟩
          rw[List.getElem?_drop,show 1+(i-1)=i by omega];exact gZ)
         omega
       have gA:l[i]<=65536:=by
        have h1:=pa.le l[i] (List.mem_append_left _ (List.getElem_mem dB));rw[List.length_map] at h1;omega
       refine py$ run_seq$ Lc$ qN O$ Le O$ qV (M9 N3 Md O O (by omega))$ qV (LN U3 O O (Mn rZ.rd (show((l++[m]).map z1g)[i]? =some (z1g l[i]) by rw[List.getElem?_map,gZ];rfl))) ?_;refine Lw O$ Lk O$ Li O$ Le O$ qV (LM (news:=[.int .u8 1,Ly 0]) O9 O MO O ((lD.ext.Lg hG).cells (n:=2) O) O)$ Lu O O$ qV (ymi O O)$ Np O O ?_;rw[show(l[i]:Int)-min (i:Int) 1=((l[i]-min i 1:Nat):Int) by omega];refine MK O O (NW TK O O) (OR mS (by have h1:(runNums 0 (l.take i)).length=i:=(by rw[ON,List.length_take];omega);rw[List.length_append,List.length_cons];omega) .gamma (l[i]-min i 1) (by omega)) ?_;rintro _ w14 ⟨rfl,rW⟩;have B8:=lD.put uR rV mT l5 z1 rW;refine Lf$ Ld$ Li O$ Mb O O$ Le O$ Lf ((ih (i+1) _ ⟨?_,by omega⟩ (by omega)).qb);rw[List.take_succ,List.getElem?_eq_getElem dB,Option.toList_some,TZ,List.length_take,Nat.min_eq_left hi,Nat.zero_add,<-List.cons_append,<-List.append_assoc];exact B8
      ·have cE:i=l.length:=by omega
       subst cE;rw[List.take_length] at lD;refine Ln O ?_;exact(e8 _ _ ⟨rfl,lD⟩).qb
    ·have rX:¬0<r:=by omega
     refine py ?_;exact(e8 _ _ ⟨rfl,by rw[if_neg rX,List.append_nil];exact oS⟩).qb
  case cQ=>
   refine Lp O (λe1=>?_)$ λe1=>?_
   ·have mC:0<p.LJ:=by omega
    obtain⟨F,uU,hf⟩:=tQ.ex;refine Li O$ Le O$ qV (LM (news:=[.int .u8 0,Ly 0]) O9 O MO O ((tQ.ext.Lg hU).cells (n:=2) O) O)$ Le O$ MK O O (NW TK O O) (OR uU (by simp) .unary r (by omega)) ?_;rintro _ w5 ⟨rfl,s6⟩;refine Lf$ LS.qb (e:=[(1,_),(2,_),(3,_),(4,_),(5,_),(10,_),(11,_),(12,_)]) ?_;exact(cD _ _ ⟨rfl,by rw[if_pos mC];exact tQ.put hf l5 z1 s6⟩).qb
   ·have mC:¬0<p.LJ:=by omega
    refine py ?_;exact(cD _ _ ⟨rfl,by rw[if_neg mC];exact tQ⟩).qb
/-! ### The numbers can be encoded -/
def T2 (k:Nat)(q:Cd×Nat):Prop:=(q.1= .unary/\q.2<=16)\/(q.1= .gamma/\q.2<=200000)\/(q.1= .zeta k/\q.2<=200000)
theorem Ws (k:Nat):∀(l:List Nat) (i:Nat),(∀n∈l,n<=65536)->∀q∈runNums i l,T2 k q
 |[],i,h,q,hq=>by cases hq
 | n :: l, i, h, q, hq => by
   rw[runNums] at hq;rcases List.mem_cons.1 hq with e|hq
   ·subst e;have:=h n List.mem_cons_self;exact .inr (.inl ⟨rfl,by dsimp only;omega⟩)
   ·exact Ws k l (i+1) (λn hn=>h n (List.mem_cons_of_mem _ hn)) q hq
theorem Vq (k x least:Nat)(hx:x<65536):∀(R:List (Nat×Nat)) (e:Option Nat),(∀q∈R,q.1+q.2<=65536)->∀q∈longNums x least e R,T2 k q
 |[],e,h,q,hq=>by cases e<;>cases hq
 | p :: R, e, h, q, hq => by
   have hp:=h p List.mem_cons_self;rw[Nz] at hq;rcases List.mem_cons.1 hq with e1|hq
   ·subst e1;refine .inr (.inl ⟨rfl,?_⟩)
    cases e with
    |none=>have:=US (z:=(p.1:Int)-x) (n:=65537) (by omega) (by omega);show Zc _<=_;omega
    |some z=>show p.1-z-2<=_;omega
   ·rcases List.mem_cons.1 hq with e1|hq
    ·subst e1;exact .inr (.inl ⟨rfl,by dsimp only;omega⟩)
    ·exact Vq k x least hx R _ (λq hq=>h q (List.mem_cons_of_mem _ hq)) q hq
theorem Vp (k x:Nat)(hx:x<65536):∀(l:List Nat) (e:Option Nat),(∀n∈l,n<65536)->∀q∈restNums x k e l,T2 k q
 |[],e,h,q,hq=>by cases e<;>cases hq
 | v :: l, e, h, q, hq => by
   have hv:=h v List.mem_cons_self;rw[Ov] at hq;rcases List.mem_cons.1 hq with e1|hq
   ·subst e1;refine .inr (.inr ⟨rfl,?_⟩)
    cases e with
    |none=>have:=US (z:=(v:Int)-x) (n:=65537) (by omega) (by omega);show Zc _<=_;omega
    |some u=>show v-u-1<=_;omega
   ·exact Vp k x hx l _ (λn hn=>h n (List.mem_cons_of_mem _ hn)) q hq
theorem z0T {least:Nat}{l:List Nat}(h:LZ l):(rowsN least l).1.length<=65536:=by
 have h1:=(Pq least l).length_eq
 rw[List.length_append] at h1
 have h4:∀(R:List (Nat×Nat)) (lo:Nat),OE least lo R->R.length<=(MQ R).length:=by
  intro R
  induction R with
  |nil=>intro lo h;exact Nat.le_refl _
  | cons q R ih =>
    intro lo h;have h5:=ih _ h.2.2.2;have h6:1<=q.2:=h.2.1;rw[show MQ (q::R)=(List.range q.2).map (q.1+·)++MQ R from rfl,List.length_append,List.length_map,List.length_range,List.length_cons];omega
 have h5:=h4 _ 0 (QH least l 0 h.Uq (λy _=>Nat.zero_le _))
 have:=h.len
 omega
theorem z3f {least:Nat}{l:List Nat}(h:LZ l):∀q∈(rowsN least l).1,1<=q.2/\q.1+q.2<=65536:=λq hq=>by
 obtain⟨i,hi⟩:=List.mem_iff_getElem?.1 hq
 have h1:=(UT _ 0 i q (QH least l 0 h.Uq (λy _=>Nat.zero_le _)) hi).1
 exact⟨h1,z6p h.lt hq h1⟩
theorem VQ {p:NT}(hp:p.My){x:Nat}(hx:x<65536){succ ref:List Nat}(hs:LZ succ)(hr:LZ ref){r:Nat}(iP:r<=p.LJ):∀q∈Nr p x succ ref r,T2 p.zeta q:=by
 obtain⟨g1,g2,g3,g4⟩:=id hp
 have aw:LZ (leftOf succ ref):=hs.sub List.filter_sublist
 intro q hq
 unfold Nr at hq
 have fm:=hs.len
 rcases List.mem_cons.1 hq with e|hq
 ·subst e;exact .inr (.inl ⟨rfl,by dsimp only;omega⟩)
 split at hq
 ·cases hq
 rcases List.mem_append.1 hq with hq|hq
 ·split at hq
  ·rcases List.mem_singleton.1 hq with e;subst e;exact .inl ⟨rfl,by dsimp only;omega⟩
  ·cases hq
 rcases List.mem_append.1 hq with hq|hq
 ·have pa:=OM succ ref;have hl:=pa.WC;have gP:=hr.len;rw[List.length_map] at hl;split at hq
  ·rcases List.mem_cons.1 hq with e|hq
   ·subst e;exact .inr (.inl ⟨rfl,by dsimp only;omega⟩)
   ·refine Ws _ _ _ (λn hn=>?_) q hq;have:=pa.le n (List.dropLast_subset _ hn);rw[List.length_map] at this;omega
  ·cases hq
 split at hq
 ·cases hq
 rcases List.mem_append.1 hq with hq|hq
 ·split at hq
  ·rcases List.mem_cons.1 hq with e|hq
   ·subst e;have:=z0T (least:=p.interval) aw;exact .inr (.inl ⟨rfl,by dsimp only;omega⟩)
   ·exact Vq _ _ _ hx _ _ (λq hq=>(z3f aw q hq).2) q hq
  ·cases hq
 ·exact Vp _ _ hx _ _ (λn hn=>aw.lt n ((Q5 p.interval _).subset hn)) q hq
theorem z2n (succ ref:List Nat)(hr:LZ ref):(N5 succ ref).length<=65537:=by
 have hl:=(OM succ ref).WC
 rw[List.length_map] at hl
 have:=hr.len
 omega
theorem z0B {p:NT}{x:Nat}{succ ref:List Nat}(hs:LZ succ)(hr:LZ ref){r:Nat}:(Nr p x succ ref r).length<=500000:=by
 have aw:LZ (leftOf succ ref):=hs.sub List.filter_sublist
 have h1:=z2n succ ref hr
 have h2:=z0T (least:=p.interval) aw
 have h3:=(aw.sub (Q5 p.interval (leftOf succ ref))).len
 unfold Nr
 rw[List.length_cons]
 split
 ·simp
 rw[List.length_append,List.length_append]
 have e1:(if 0<p.LJ then [(Cd.unary,r)] else []).length<=1:=by split<;>simp
 have e2:(if 0<r then(Cd.gamma,(N5 succ ref).length-1)::runNums 0 (N5 succ ref).dropLast else []).length<=65537:=by
  split
  ·rw[List.length_cons,ON,List.length_dropLast];omega
  ·simp
 have e3:(if leftOf succ ref=[] then [] else(if 0<p.interval then(Cd.gamma,(rowsN p.interval (leftOf succ ref)).1.length)::longNums x p.interval none (rowsN p.interval (leftOf succ ref)).1 else [])++restNums x p.zeta none (rowsN p.interval (leftOf succ ref)).2).length<=200000:=by
  split
  ·simp
  ·rw[List.length_append,P3];split
   ·rw[List.length_cons,Ob];omega
   ·simp;omega
 omega
theorem T2.My {k:Nat}{q:Cd×Nat}(h:T2 k q)(hk:1<=k/\k<=16):q.1.My/\q.2<=q.1.most:=by
 rcases h with⟨e,h⟩|⟨e,h⟩|⟨e,h⟩
 ·rw[e];exact⟨trivial,by simp only[Cd.most];omega⟩
 ·rw[e];exact⟨trivial,by simp only[Cd.most];omega⟩
 ·rw[e];exact⟨hk,by simp only[Cd.most];omega⟩
theorem YB {c:Cd}{v:Nat}(hc:c.My)(hv:v<=c.most):(c.enc v).length<=65600:=by
 obtain⟨q1,q2,-⟩:=Sq hc hv
 rw[Sj];omega
theorem z6u {L:List (Cd×Nat)}(h:∀q∈L,q.1.My/\q.2<=q.1.most):(LG L).length<=65600*L.length:=by
 induction L with
 |nil=>simp[LG]
 | cons q L ih =>
   have h1:=ih (λq hq=>h q (List.mem_cons_of_mem _ hq));obtain⟨h2,h3⟩:=h q List.mem_cons_self;have h4:=YB h2 h3;obtain⟨c,v⟩:=q;rw[Mf,List.length_append,List.length_cons];dsimp only at h4⊢;omega
theorem Oa (a b:List (Cd×Nat)):LG (a++b)=LG a++LG b:=List.flatMap_append
theorem Tj (l:List (Cd×Nat))(q:Cd×Nat):LG (l++[q])=LG l++q.1.enc q.2:=by
 rw[Oa];simp[LG]
/-! ### An element of a slice of structs -/
theorem Xb {α:Type}{f:α->List Value}{k:Nat}(hk:∀a,(f a).length=k){w:World}{b off n cap i:Nat}{R:List α}{q:α}(h:Rd w (.slice (some ⟨b,off,none⟩) n cap) k n (R.flatMap f))(hq:R[i]? =some q):∀j u,(f q)[j]? =some u->w.cell? ⟨b,off+i*k+j,none⟩=some u:=by
 intro j u hj
 have ky:j<k:=by have:=(List.getElem?_eq_some_iff.1 hj).1;rwa [hk] at this
 have key : ∀ (R : List α) (i : Nat), R[i]? = some q -> (R.flatMap f)[i * k + j]? = some u := by
  intro R
  induction R with
  |nil=>intro i h;simp at h
  | cons a R ih =>
    intro i h;rw[List.flatMap_cons]
    cases i with
    | zero =>
      rw[List.getElem?_cons_zero] at h;cases h;rw[List.getElem?_append_left (by rw[hk];omega),Nat.zero_mul,Nat.zero_add]
      exact hj
    | succ i =>
      rw[List.getElem?_append_right (by rw[hk,Nat.add_mul];omega),hk,show(i+1)*k+j-k=i*k+j by rw[Nat.add_mul];omega];exact ih i h
 have kB:=key R i hq
 have aV:=(List.getElem?_eq_some_iff.1 kB).1
 rcases h.2 with⟨c,hc,h0⟩|⟨b',off',cap',e,hc⟩
 ·rw[h.1,h0,Nat.zero_mul] at aV;omega
 ·cases e;have:=hc (i*k+j) u kB;rw[show off+i*k+j=off+(i*k+j) by omega];exact this
theorem z0U (q:Cd×Nat):(z2p q).length=3:=by
 obtain⟨c,v⟩:=q
 cases c<;>rfl
theorem QY {w:World}(p:NT)(hp:p.My)(x:Nat)(hx:x<65536){sa ra:Option Addr}{sc rc:Nat}(succ ref:List Nat)(hs:LZ succ)(hr:LZ ref)(r:Nat)(iP:r<=p.LJ)(ld:r=0->ref=[])
  (hG:Lq w 0 (Og .gamma) 260) (hU:Lq w 1 (Og .unary) 260) (dO:Rd w (.slice sa succ.length sc) 1 succ.length (succ.map LO)) (ly:Rd w (.slice ra ref.length rc) 1 ref.length (ref.map LO)) (fB:succ.length<=sc) (mL:ref.length<=rc):
  LP Tryz.prog 157 [I (x:Int),.slice sa succ.length sc,.slice ra ref.length rc,I (r:Int),lpV p] w λu w'=>u= .tuple #[I ((LG (Nr p x succ ref r)).length:Int),I 0]/\Ext w w':=by
 obtain⟨g1,g2,g3,g4⟩:=id hp
 have aw:=λq hq=>(VQ hp hx hs hr iP q hq).My ⟨g3,g4⟩
 have dN:=z0B (p:=p) (x:=x) (r:=r) hs hr
 refine Lb (e:=[(0,_),(1,_),(2,_),(3,_),(4,_)]) Tryz.func157 O Tryz.ntmps157 O O$ qN O$ Lm O O (Nc O (cs:=VD p) O) ?_
 rintro _ w1 ⟨b9,rfl,mz,ad,cM⟩
 replace cM:Lq w1 b9 [I (p.LJ:Int),I (p.interval:Int),I (p.zeta:Int)] 212:=cM
 refine Lw O$ Lk O$ run_seq$ qN O$ qV (LM (news:=VD p) Ut O PH O (cM.cells (n:=3) O) O)$ Lu O O$ Lu O O$ LD zc9 O (z6Y p hp x hx _ _ succ ref r hs hr iP ld w1 (dO.ext ad) (ly.ext ad)) ?_
 rintro _ w2 ⟨rfl,ag⟩
 refine qV ((by first|exact Mh O|exact NL O)) ?_
 refine Lf$ An O$ py$ qN O$ Lk O$ run_seq$ qN O$ qV (LM (news:=VD p) Ut O PH O ((ag.Lg cM).cells (n:=3) O) O) ?_
 have aA:=ad.trans ag
 refine Lu O O$ Lu O O$ LD z9S O (Tx p hp x hx succ ref hs hr r iP ld (aA.Lg hG) (aA.Lg hU) (dO.ext aA) (ly.ext aA) fB mL) ?_
 rintro v w3 ⟨cC,md,ah⟩
 have aL:=aA.trans ah
 generalize Nr p x succ ref r=L at aw dN cC
 obtain⟨va,vc,rfl,-⟩:=cC.rd.shape
 refine Nd VE O$ Le O$ Lf$ Lc$ Nj (α:=Nat) (0) (λi=>[(12,I ((LG (L.take i)).length:Int)),(29,.slice va L.length vc),(30,I (L.length:Int)),(31,I (i:Int))]) (λi w'=>Ext w3 w'/\i<=L.length) (λi=>L.length-i) ?hI ?hround
 case hI=>exact⟨Ext.refl _,Nat.zero_le _⟩
 case hround=>
  rintro i w4 ⟨ay,hi⟩ ih
  try dsimp only
  refine qN O$ Mw O O$ Lf$ run_seq$ Lp O (λh0=>?_)$ λh0=>?_
  ·have dB:i<L.length:=by omega
   obtain⟨⟨c,v⟩,hq⟩:∃q,L[i]? =some q:=⟨_,List.getElem?_eq_getElem dB⟩;obtain⟨tS,mj⟩:=aw _ (List.mem_of_getElem? hq);dsimp only at tS mj
   obtain⟨g,c5,e4⟩:∃g c,Value.slice va L.length vc= .slice (some ⟨g,0,none⟩) L.length c:=by
    rcases cC.shape with⟨-,h0⟩|⟨g,c,e,hc⟩
    ·omega
    ·exact⟨g,c,e⟩
   cases e4;have jJ:=Xb z0U (cC.ext ay).rd hq;obtain⟨y,z,s7⟩:∃y z,Og c=[y,z]:=by cases c<;>exact⟨_,_,rfl⟩
   have my:YN c= .agg [y,z].toArray:=by rw[YN,s7]
   have j8:z2p (c,v)=[y,z,Ly v]:=by show Og c++_=_;rw[s7];rfl
   rw[j8] at jJ;have dt:=ZP c v tS mj;rw[my] at dt;have vm:oneV y=true/\oneV z=true:=by cases c<;>(cases s7;exact⟨rfl,rfl⟩)
   have eT:=z6u (L:=L.take i) (λq hq=>aw q (List.mem_of_mem_take hq));rw[List.length_take] at eT;have nY:=YB tS mj;refine py$ run_seq$ Lc$ qN O$ qV (M9 VE R5 O O (by omega))$ qV (LM (news:=[y,z,Ly v]) zb7 O R5 O jJ O)$ Lm O O (NJ (cs:=[_,_,_]) R5 O) ?_;rintro _ w5 ⟨b14,rfl,mU,aX,de⟩;refine Ls O (M7 (news:=[y,z,Ly v]) R5 O O (by simp[vm.1,vm.2];rfl) O de (by simp)) ?_;rintro w6 ⟨eD,aU⟩;replace eD:Lq w6 b14 [y,z,Ly v] 323:=eD;have z5:=aX.size;have aK:Ext w4 w6:=aX.It aU (λk e=>by omega);refine qM O$ Lt z3d O$ qV (LM (news:=[y,z]) O9 O MO O (eD.cells (n:=2) O) O)$ Lt z2U O$ qV (Lj MP O O eD O)$ LD z9f O (dt w6) ?_;rintro _ w7 ⟨rfl,cg⟩;refine Le O$ Mp O O$ Mp O O$ Lw O$ Lk O$ Li O$ Lu O O$ Mb O O$ Lk O$ Ld$ Li O$ Mb O O$ Le O$ Lf ?_;rw[show((LG (L.take i)).length:Int)+((c.enc v).length:Int)=((LG (L.take (i+1))).length:Int) by rw[M4 hq,Tj,List.length_append];dsimp only;omega];exact(ih (i+1) _ ⟨(ay.trans aK).trans cg,by omega⟩ (by omega)).qb
  ·have cE:i=L.length:=by omega
   rw[cE,List.take_length];refine Ln O$ qN O$ Le O$ Lw O$ Lk O$ Lh Tryz.func157 O ?_;exact⟨_,rfl,rfl,aL.trans ay⟩
theorem Vj {w:World}{wp:Nat}{bs:List Bool}{F:Nat->Prop}(h:TX w wp bs F)(p:NT)(hp:p.My)(x:Nat)(hx:x<65536){sa ra:Option Addr}{sc rc:Nat}(succ ref:List Nat)(hs:LZ succ)(hr:LZ ref)(r:Nat)(iP:r<=p.LJ)(ld:r=0->ref=[])
  (hG:Lq w 0 (Og .gamma) 260) (hU:Lq w 1 (Og .unary) 260) (dO:Rd w (.slice sa succ.length sc) 1 succ.length (succ.map LO)) (ly:Rd w (.slice ra ref.length rc) 1 ref.length (ref.map LO)) (fB:succ.length<=sc) (mL:ref.length<=rc)
  (hl:bs.length+(LG (Nr p x succ ref r)).length<=134217728):
  LP Tryz.prog 160 [ptr wp 0,I (x:Int),.slice sa succ.length sc,.slice ra ref.length rc,I (r:Int),lpV p] w λu w'=>u=I 0/\WrR wp F w w' (bs++LG (Nr p x succ ref r)):=by
 obtain⟨g1,g2,g3,g4⟩:=id hp
 have aw:=λq hq=>(VQ hp hx hs hr iP q hq).My ⟨g3,g4⟩
 have dN:=z0B (p:=p) (x:=x) (r:=r) hs hr
 refine Lb (e:=[(0,_),(1,_),(2,_),(3,_),(4,_),(5,_)]) Tryz.func160 O Tryz.ntmps160 O O$ qN O$ Lm O O (Nc O (cs:=VD p) O) ?_
 rintro _ w1 ⟨b9,rfl,mz,ad,cM⟩
 replace cM:Lq w1 b9 [I (p.LJ:Int),I (p.interval:Int),I (p.zeta:Int)] 212:=cM
 refine Lk O$ run_seq$ qN O$ Le O$ qV (Ml YY O O)$ Lf$ An O$ py$ qN O$ Lu O O$ Lu O O$ qV (LM (news:=VD p) Ut O PH O (cM.cells (n:=3) O) O)$ LD ZZ O (QY p hp x hx succ ref hs hr r iP ld (ad.Lg hG) (ad.Lg hU) (dO.ext ad) (ly.ext ad) fB mL) ?_
 rintro _ w2 ⟨rfl,ag⟩
 have aA:=ad.trans ag
 have h2:=h.ext aA
 refine Le O$ Mp O O$ Mp O O$ Lw O$ Lk O$ run_seq$ Lc$ qN O$ Le O$ Mu O O$ Lk O$ An O$ qN O$ Lu O O ?_
 refine LD Y9 O (R1 h2) ?_
 rintro _ w2 ⟨rfl,rfl⟩
 refine Np O O$ MH O O$ Lk O$ LS.qb (e:=[(0,_),(1,_),(2,_),(3,_),(4,_),(11,_),(12,_),(32,_)]) ?_
 refine Lp O (λe0=>?_)$ λe0=>?_
 ·omega
 ·refine py$ Ld$ run_seq$ qN O$ qV (LM (news:=VD p) Ut O PH O ((ag.Lg cM).cells (n:=3) O) O)$ Lu O O$ Lu O O$ LD z9S O (Tx p hp x hx succ ref hs hr r iP ld (aA.Lg hG) (aA.Lg hU) (dO.ext aA) (ly.ext aA) fB mL) ?_;rintro v w3 ⟨cC,md,ah⟩;have aL:=aA.trans ah;have h3:=h.ext aL;have z12:=aA.size;have z3:=ah.size;have ju:∀k,F k->k<w.heap.size:=λk hk=>h.lt hk
  generalize Nr p x succ ref r=L at aw dN cC hl
  obtain⟨va,vc,rfl,-⟩:=cC.rd.shape;refine Nd VE O$ Le O$ Lf$ Lc$ Nj (α:=Nat) (0) (λi=>[(0,ptr wp 0),(43,.slice va L.length vc),(44,I (L.length:Int)),(45,I (i:Int))]) (λi w'=>WrR wp F w3 w' (bs++LG (L.take i))/\i<=L.length) (λi=>L.length-i) ?hI ?hround
  case hI=>exact⟨⟨F,by simpa[LG] using h3,Kp.refl _ _,λk hk=> .inl hk⟩,Nat.zero_le _⟩
  case hround=>
   rintro i w4 ⟨⟨F4,lE,av,kD⟩,hi⟩ ih
   try dsimp only
   refine qN O$ Mw O O$ Lf$ run_seq$ Lp O (λh0=>?_)$ λh0=>?_
   ·have dB:i<L.length:=by omega
    obtain⟨⟨c,v⟩,hq⟩:∃q,L[i]? =some q:=⟨_,List.getElem?_eq_getElem dB⟩;obtain⟨tS,mj⟩:=aw _ (List.mem_of_getElem? hq);dsimp only at tS mj
    obtain⟨g,c5,e4⟩:∃g c,Value.slice va L.length vc= .slice (some ⟨g,0,none⟩) L.length c:=by
     rcases cC.shape with⟨-,h0⟩|⟨g,c,e,hc⟩
     ·omega
     ·exact⟨g,c,e⟩
    cases e4;have dT:=cC.kp av (λg hg e=>by have:=md g hg;have:=ju g e;omega);have jJ:=Xb z0U dT.rd hq;obtain⟨y,z,s7⟩:∃y z,Og c=[y,z]:=by cases c<;>exact⟨_,_,rfl⟩
    have my:YN c= .agg [y,z].toArray:=by rw[YN,s7]
    have j8:z2p (c,v)=[y,z,Ly v]:=by show Og c++_=_;rw[s7];rfl
    rw[j8] at jJ;have vm:oneV y=true/\oneV z=true:=by cases c<;>(cases s7;exact⟨rfl,rfl⟩)
    refine py$ run_seq$ Lc$ qN O$ qV (M9 VE R5 O O (by omega))$ qV (LM (news:=[y,z,Ly v]) zb7 O R5 O jJ O)$ Lm O O (NJ (cs:=[_,_,_]) R5 O) ?_;rintro _ w5 ⟨b14,rfl,mU,aX,de⟩;refine Ls O (M7 (news:=[y,z,Ly v]) R5 O O (by simp[vm.1,vm.2];rfl) O de (by simp)) ?_;rintro w6 ⟨eD,aU⟩;replace eD:Lq w6 b14 [y,z,Ly v] 323:=eD;have z5:=aX.size;have aK:Ext w4 w6:=aX.It aU (λk e=>by omega);have z6:=aK.size;have z4:=av.size
    have gA:(bs++LG (L.take i)).length+(c.enc v).length<=134217728:=by
     have e1:(LG L).length=(LG (L.take i)).length+(c.enc v).length+(LG (L.drop (i+1))).length:=by
      conv=>lhs;rw[<-List.take_append_drop (i+1) L,Oa,M4 hq,Tj]
      rw[List.length_append,List.length_append]
     rw[List.length_append];omega
    have kH:=z5z (lE.ext aK) c v tS mj gA;rw[my] at kH;refine Lf$ Li O$ Le O$ Lt z3d O$ qV (LM (news:=[y,z]) O9 O MO O (eD.cells (n:=2) O) O)$ Lt z2U O$ qV (Lj MP O O eD O)$ LD zcV O (kH) ?_;rintro _ w7 ⟨rfl,F7,o3,aC,o4⟩;refine Lf$ Ld$ Li O$ Mb O O$ Le O$ Lf ((ih (i+1) _ ⟨⟨F7,?_,(av.trans aK.kp).It aC (λk hk=>(kD k hk).symm),λk hk=>?_⟩,by omega⟩ (by omega)).qb)
    ·rw[M4 hq,Tj,<-List.append_assoc];exact o3
    ·rcases o4 k hk with e| e
     ·exact kD k e
     ·exact .inr (by omega)
   ·have cE:i=L.length:=by omega
    rw[cE,List.take_length] at lE;refine Ln O$ qN O$ Lk O$ Lh Tryz.func160 O ?_;exact⟨_,rfl,rfl,F4,lE,aL.kp.trans av,λk hk=>by rcases kD k hk with e|e;exact .inl e;exact .inr (by omega)⟩
def SZ (succ ref:List Nat)(r:Nat):List (Cd×Nat):=if 0<r then(.gamma,(N5 succ ref).length-1)::runNums 0 (N5 succ ref).dropLast else []
def z2C (p:NT)(x:Nat)(succ ref:List Nat):List (Cd×Nat):=
 if leftOf succ ref=[] then [] else(if 0<p.interval then(.gamma,(rowsN p.interval (leftOf succ ref)).1.length)::longNums x p.interval none (rowsN p.interval (leftOf succ ref)).1 else [])++restNums x p.zeta none (rowsN p.interval (leftOf succ ref)).2
def Qh (p:NT)(x:Nat)(succ ref:List Nat)(r:Nat):List (Cd×Nat):=SZ succ ref r++z2C p x succ ref
theorem Wa (p:NT)(x:Nat){succ ref:List Nat}(r:Nat)(hs:succ≠[]):Nr p x succ ref r=MC p succ.length r++Qh p x succ ref r:=by
 unfold Nr MC Qh SZ z2C
 rw[if_neg hs,if_neg (λe=>hs (List.eq_nil_of_length_eq_zero e)),List.cons_append]
def z3e (p:NT)(x:Nat)(l:List Nat):List (Cd×Nat):=if 0<p.interval/\l≠[] then(.gamma,(rowsN p.interval l).1.length)::longNums x p.interval none (rowsN p.interval l).1 else []
theorem Zx (p:NT)(x:Nat)(succ ref:List Nat):z2C p x succ ref=z3e p x (leftOf succ ref)++restNums x p.zeta none (rowsN p.interval (leftOf succ ref)).2:=by
 unfold z2C z3e
 by_cases e:leftOf succ ref=[]
 ·rw[if_pos e,if_neg (λh=>h.2 e),e,rowsN];rfl
 ·rw[if_neg e];by_cases e2:0<p.interval
  ·rw[if_pos e2,if_pos ⟨e2,e⟩]
  ·rw[if_neg e2,if_neg (λh=>e2 h.1)]
structure TlI (w:World)(t r:Nat)(s:Bytes)(b7 b9:Nat)(n q:Nat)(p:NT)(O_:List Nat)(v:Value)(a:Nat)(w':World):Prop where
 tk:Xs w' t r s a
 kp:Kp (λk=>k=t\/k=r) w w'
 sl:Sl w' v 46 1 O_.length (O_.map LO)
 fr:∀g,v.ownBlock=some g->w.heap.size<=g
 c7:Lq w' b7 [I (n:Int),I (q:Int)] 157
 c9:Lq w' b9 [I (p.LJ:Int),I (p.interval:Int),I (p.zeta:Int)] 212
 n7:w.heap.size<=b7
 n9:w.heap.size<=b9
 v7:v.ownBlock≠some b7
 v9:v.ownBlock≠some b9
theorem YF (l:List Nat):∀c∈l.map LO,c.oneCell'=true:=λc hc=>by
 obtain⟨y,-,rfl⟩:=List.mem_map.1 hc
 rfl
theorem TlI.app {w w1 w2 w3:World}{t r:Nat}{s:Bytes}{b7 b9 n q:Nat}{p:NT}{O_ M:List Nat}{v v3:Value}{a a2:Nat}(h:TlI w t r s b7 b9 n q p O_ v a w1)(ht:t<w.heap.size)(hr:r<w.heap.size)
  (hk:Kp (λk=>k=t\/k=r) w1 w2) (js:Xs w2 t r s a2) (cC:Sl w3 v3 46 1 (O_.length+M.length) (O_.map LO++M.map LO)) (ax:Kp (λk=>v.ownBlock=some k) w2 w3) (gO:∀g,v3.ownBlock=some g->v.ownBlock=some g\/w2.heap.size<=g):
  TlI w t r s b7 b9 n q p (O_++M) v3 a2 w3:=by
 have z1:=h.kp.size
 have z2:=hk.size
 have l7:=h.c7.lt
 have l9:=h.c9.lt
 have n7:=h.n7
 have n9:=h.n9
 have vp:∀k,k<w.heap.size->¬v.ownBlock=some k:=λk hk e=>by have:=h.fr k e;omega
 have cK:∀k,k<w1.heap.size->v.ownBlock≠some k->v3.ownBlock≠some k:=λk hk hv e=>by
  rcases gO k e with e| e
  ·exact hv e
  ·omega
 refine⟨⟨ax.Lg js.Lg (vp t ht),⟨ax.Lg js.rd.1 (vp r hr),js.rd.2⟩,js.ne⟩,(h.kp.trans hk).It ax (λk hk=> .inl (h.fr k hk)),by rw[List.length_append,List.map_append];exact cC,λg hg=>?_,ax.Lg (hk.Lg h.c7 (λe=>by omega)) h.v7,ax.Lg (hk.Lg h.c9 (λe=>by omega)) h.v9,n7,n9,cK _ l7 h.v7,cK _ l9 h.v9⟩
 rcases gO g hg with e| e
 ·exact h.fr g e
 ·omega
theorem z3P {w : World}{t r a : Nat}{s : Bytes}(h : Xs w t r s a)(hG : Lq w 0 (Og .gamma) 260)(cZ : ¬ 0 = r)(mA : ¬ 0 = t)(p : NT)(hp : p.My)(x : Nat)(hx : x < 65536){sa : Option Addr}{sc : Nat}(succ ref : List Nat)(hs : LZ succ)(bN : succ ≠ [])(iS : succ.length < 50)(jj : LZ ref)
  (q:Nat) (hq:q<=p.LJ) (mB:q=0->ref=[]) (dV:∀w2,Kp (λk=>k=r) w w2->Rd w2 (.slice sa ref.length sc) 1 ref.length (ref.map LO)) (dt:ref.length<=sc) (rest:List Bool) (hb:(LF s).drop a=LG (Qh p x succ ref q)++rest):
  LP Tryz.prog 198 [ptr t 0,I (x:Int),.agg #[I (succ.length:Int),I (q:Int)],.slice sa ref.length sc,lpV p] w λu w'=>Sl w' u 46 1 succ.length (succ.map LO)/\(∀g,u.ownBlock=some g->w.heap.size<=g)/\
   Xs w' t r s (a+(LG (Qh p x succ ref q)).length)/\Kp (λk=>k=t\/k=r) w w':=by
 obtain⟨g1,g2,g3,g4⟩:=id hp
 have lt0:=h.Lg.lt
 have lr0:=h.rd.1.lt
 have iO:=z2l hs.Uq jj.Uq p.interval
 have qs:=iO.length_eq
 rw[List.length_append,List.length_append] at qs
 have aw:LZ (leftOf succ ref):=hs.sub List.filter_sublist
 have H7:=(Pq p.interval (leftOf succ ref)).length_eq
 rw[List.length_append] at H7
 unfold Qh at hb⊢
 rw[Oa,List.append_assoc] at hb
 rw[Oa,List.length_append]
 refine Lb (e:=[(0,_),(1,_),(2,_),(3,_),(4,_)]) Tryz.func198 O Tryz.ntmps198 O O$ qN O$ Lm O O (Nc O (cs:=[I (succ.length:Int),I (q:Int)]) O) ?_
 rintro _ w1 ⟨b7,rfl,kW,ad,bJ⟩
 refine Lm O O (Nc O (cs:=VD p) O) ?_
 rintro _ w2 ⟨b9,rfl,mz,ag,cM⟩
 replace cM:Lq w2 b9 [I (p.LJ:Int),I (p.interval:Int),I (p.zeta:Int)] 212:=cM
 have z1:=ad.size
 have z2:=ag.size
 have aA:=ad.trans ag
 have eh:=ag.Lg bJ
 refine Lw O$ qM O$ Lk O$ run_seq$ qN O$ Lt Od O$ qV (Lj U3 O O eh O)$ MH O O$ Lf$ M6 (λe' w'=>∃v11,e'=[(0,ptr t 0),(1,I (x:Int)),(7,ptr b7 0),(9,ptr b9 0),(11,v11)]/\TlI w t r s b7 b9 succ.length q p (ref.filter λy=>decide (y∈succ)) v11 (a+(LG (SZ succ ref q)).length) w') ?cD$ λcD=>?cQ
 case cD =>
  rintro e' w3 ⟨v11,rfl,h3⟩;have eB:=O3 hb;obtain⟨va,vc,rfl,-⟩:=h3.sl.rd.shape;have jK:=h3.c7;have ck:=h3.c9;have pd:=h3.tk.Lg;refine run_seq$ qN O$ Lt Oz O$ qV ((by first|exact Lj U3 O O jK O|exact Lj U3 O O ck O|exact Lj U3 O O pd O)) ?_;refine Le O$ Nd LI O$ Np O O ?_;rw[show(succ.length:Int)-((ref.filter λy=>decide (y∈succ)).length:Int)=((leftOf succ ref).length:Int) by omega]
  generalize Ks:(a+(LG (SZ succ ref q)).length)=a3 at h3 eB
  rw[Zx,Oa,List.append_assoc] at eB;rw[Zx,Oa,List.length_append];have H8:p.interval=0->(rowsN p.interval (leftOf succ ref)).1=[]:=λe=>by rw[e];exact Tp _
  have H9:leftOf succ ref=[]->rowsN p.interval (leftOf succ ref)=([],[]):=λe=>by rw[e,rowsN]
  have oZ:=QH p.interval (leftOf succ ref) 0 aw.Uq (λy _=>Nat.zero_le _);have rS:=λy hy=>(z3f (least:=p.interval) aw y hy).2
  have EX:(rowsN p.interval (leftOf succ ref)).1.length<=(MQ (rowsN p.interval (leftOf succ ref)).1).length:=by
   have key:∀(R:List (Nat×Nat)) (lo:Nat),OE p.interval lo R->R.length<=(MQ R).length:=by
    intro R
    induction R with
    |nil=>intro lo h;exact Nat.le_refl _
    | cons z R ih =>
      intro lo h;have h5:=ih _ h.2.2.2;have h6:1<=z.2:=h.2.1;rw[show MQ (z::R)=(List.range z.2).map (z.1+·)++MQ R from rfl,List.length_append,List.length_map,List.length_range,List.length_cons];omega
   exact key _ 0 oZ
  have B9:LZ (rowsN p.interval (leftOf succ ref)).2:=aw.sub (Q5 p.interval _)
  generalize (ref.filter λy=>decide (y∈succ))=O1 at h3 iO qs
  have tT:z3e p x (leftOf succ ref)=if 0<p.interval/\leftOf succ ref≠[] then(.gamma,(rowsN p.interval (leftOf succ ref)).1.length)::longNums x p.interval none (rowsN p.interval (leftOf succ ref)).1 else []:=rfl
  generalize z3e p x (leftOf succ ref)=LT at eB tT
  generalize rowsN p.interval (leftOf succ ref)=Q at*
  generalize leftOf succ ref=L1 at*
  have yK:L1=[]↔L1.length=0:=⟨λe=>by rw[e];rfl,List.eq_nil_of_length_eq_zero⟩;have fm:=hs.len;refine Lk O$ run_seq$ M6 (λe' w'=>∃s1:Bool,e'=[(0,ptr t 0),(1,I (x:Int)),(7,ptr b7 0),(9,ptr b9 0),(11,.slice va O1.length vc),(12,I (L1.length:Int)),(38,.bool s1)]/\w'=w3/\(s1=true↔0<p.interval/\L1≠[])) ?e8$ λe8=>?eS
  case e8 =>
   rintro e' w4 ⟨s1,rfl,rfl,dU⟩;refine M6 (λe' w'=>∃v11,e'=[(0,ptr t 0),(1,I (x:Int)),(7,ptr b7 0),(9,ptr b9 0),(11,v11)]/\TlI w t r s b7 b9 succ.length q p (O1++MQ Q.1) v11 (a3+(LG LT).length) w') ?au$ λau=>?dz
   case au =>
    rintro e' w5 ⟨v5,rfl,h5⟩;have gQ:=O3 eB;obtain⟨va5,vc5,rfl,-⟩:=h5.sl.rd.shape;have gF:=h5.c7;have gG:=h5.c9;have vt:=h5.tk.Lg;have EY:(O1++MQ Q.1).length=O1.length+(MQ Q.1).length:=List.length_append;refine run_seq$ qN O$ Lt Oz O$ qV ((by first|exact Lj U3 O O gF O|exact Lj U3 O O gG O|exact Lj U3 O O vt O)) ?_;refine Le O$ Nd LI O$ Np O O ?_;rw[show(succ.length:Int)-((O1++MQ Q.1).length:Int)=(Q.2.length:Int) by omega];refine Lk O$ run_seq$ M6 (λe' w'=>∃s2:Bool,e'=[(0,ptr t 0),(1,I (x:Int)),(7,ptr b7 0),(9,ptr b9 0),(11,.slice va5 (O1++MQ Q.1).length vc5),(13,I (Q.2.length:Int)),(60,.bool s2)]/\w'=w5/\(s2=true↔0<Q.2.length)) ?mJ$ λmJ=>?mK
    case mJ=>
     rintro e' w6 ⟨s2,rfl,rfl,cW⟩;refine M6 (λe' w'=>∃v11,e'=[(0,ptr t 0),(11,v11)]/\TlI w t r s b7 b9 succ.length q p (O1++MQ Q.1++Q.2) v11 (a3+(LG LT).length+(LG (restNums x p.zeta none Q.2)).length) w') ?od$ λod=>?rQ
     case od=>
      rintro e' w7 ⟨v7,rfl,h7⟩;have qt:(O1++MQ Q.1++Q.2).length=succ.length:=by rw[List.length_append,EY];omega
      have Ha:0<succ.length:=List.length_pos_iff.2 bN;refine qN O$ Le O$ LD zbH O (z4m h7.sl (λe=>by rw[e] at qt;simp at qt;omega) (by omega)) ?_;rintro _ w8 ⟨rfl,bB,l',Hb,vw,eJ⟩;have Hc:l'=succ:=z0Y ((Hb.trans (by rw[List.append_assoc])).trans iO) vw hs.Uq;rw[Hc] at eJ;refine qM O$ Le O$ Lk O$ Lh Tryz.func198 O ?_;have e9:a+((LG (SZ succ ref q)).length+((LG LT).length+(LG (restNums x p.zeta none Q.2)).length))=a3+(LG LT).length+(LG (restNums x p.zeta none Q.2)).length:=by omega
      rw[e9];have vp:∀k,k<w.heap.size->¬v7.ownBlock=some k:=λk hk e=>by have:=h7.fr k e;omega
      refine⟨_,rfl,eJ,h7.fr,⟨bB.Lg h7.tk.Lg (vp t lt0),⟨bB.Lg h7.tk.rd.1 (vp r lr0),h7.tk.rd.2⟩,h7.tk.ne⟩,h7.kp.It bB (λk hk=> .inl (h7.fr k hk))⟩
     case rQ=>
      refine Mg O (λh2=>?_)$ λh2=>?_
      ·refine Li O$ Lu O O$ Lu O O$ Lt VL O$ qV ((by first|exact Lj U3 O O gF O|exact Lj U3 O O gG O)) ?_;refine qV ((by first|exact Mc O U3 MP (by omega)|exact Ny O U3 MP)) ?_;refine qV (O6 (cs:=[_,_]) MO O z9s O O)$ LD zdA O (z1K h5.tk x p.zeta hx ⟨g3,g4⟩ Q.2 B9 _ gQ) ?_;rintro u6 w6 ⟨eK,mt,uM,aU⟩;have Ba:=h5.sl.kp aU (λg hg e=>by have:=h5.fr g hg;omega);refine Lm O O (pap LI Lz O (by decide) O O Ba eK.rd (YF _) (by omega) (by simp only[maxLen];omega)) ?_;rintro v7 w7 ⟨gY,aC,Hd,-⟩;have h7:=h5.app lt0 lr0 aU uM gY aC Hd;refine Lk O ?_;exact(od _ _ ⟨v7,rfl,h7⟩).qb
      ·have eC:Q.2=[]:=List.eq_nil_of_length_eq_zero (by
        rcases Nat.eq_zero_or_pos Q.2.length with e| e
        ·exact e
        ·rw[cW.2 e] at h2;cases h2)
       refine py ((od _ _ ⟨_,rfl,?_⟩).qb);rw[eC,List.append_nil,show(LG (restNums x p.zeta none [])).length=0 from rfl,Nat.add_zero];exact h5
    case mK=>
     rcases Nat.eq_zero_or_pos Q.2.length with hz|hz
     ·refine Li O$ Le O$ MH O O$ M5$ Le O$ qS$ qS$ qS$ qS$ qS$ M8 O O$ Lf ?_;exact(mJ _ _ ⟨false,rfl,rfl,by simp[hz]⟩).qb
     ·refine Li O$ Le O$ MH O O$ Ns$ Lu O O$ LU O$ Lt Pw O$ qV ((by first|exact Lj U4 O O gF O|exact Lj U4 O O gG O|exact Lj U4 O O vt O)) ?_;refine qV ((by first|exact Mh O|exact NL O)) ?_;refine MU O O$ Lf ?_;exact(mJ _ _ ⟨true,rfl,rfl,by simp[hz]⟩).qb
   case dz=>
    refine Mg O (λh1=>?_)$ λh1=>?_
    ·obtain⟨yM,cT⟩:=dU.1 h1;rw[if_pos ⟨yM,cT⟩] at tT;refine Li O$ Lu O O$ Lu O O$ Lt PK O$ qV ((by first|exact Lj U3 O O jK O|exact Lj U3 O O ck O)) ?_;rw[tT] at eB;refine LD zc5 O (z4y h3.tk (h3.kp.Lg hG (λe=>by rcases e with e|e;exact mA e;exact cZ e)) cZ mA x L1.length p.interval hx (by omega) (by omega) Q.1 oZ rS (by omega) (by omega) _ eB) ?_;rintro u4 w4 ⟨dT,kD,vx,av⟩;have Bb:=h3.sl.kp av (λg hg e=>by have:=h3.fr g hg;omega);have Kt:=dT.rd;have He:O1.length<=65536:=by omega
     refine Lm O O (pap LI Lz O (by decide) O O Bb dT.rd (YF _) (by omega) (by simp only[maxLen];omega)) ?_;rintro v5 w5 ⟨fD,ak,Hf,-⟩;have h5:=h3.app lt0 lr0 av vx fD ak Hf;refine Lk O ((au _ _ ⟨v5,rfl,?_⟩).qb);rw[tT];exact h5
    ·have cT:¬(0<p.interval/\L1≠[]):=λe=>by rw[dU.2 e] at h1;cases h1
     have iB:Q.1=[]:=by
      by_cases e:L1=[]
      ·rw[H9 e]
      ·exact H8 (by by_cases e2:0<p.interval;exact absurd ⟨e2,e⟩ cT;omega)
     rw[if_neg cT] at tT;refine py ((au _ _ ⟨_,rfl,?_⟩).qb);rw[iB,tT,show MQ []=[] from rfl,List.append_nil,show(LG []).length=0 from rfl,Nat.add_zero];exact h3
  case eS=>
   rcases Nat.eq_zero_or_pos L1.length with hz|hz
   ·refine Li O$ Le O$ MH O O$ M5$ Le O$ qS$ qS$ qS$ M8 O O$ Le O$ qS$ qS$ qS$ qS ?_;refine qS$ M8 O O$ Lf$ LS.qb (e:=[(0,_),(1,_),(7,_),(9,_),(11,_),(12,_),(38,_)]) ?_;exact(e8 _ _ ⟨false,rfl,rfl,⟨λe=>(by cases e),λe=>absurd (yK.2 hz) e.2⟩⟩).qb
   ·rcases Nat.eq_zero_or_pos p.interval with m8|m8
    ·refine Li O$ Le O$ MH O O$ Ns$ Le O$ Lt PK O$ qV ((by first|exact Lj U3 O O jK O|exact Lj U3 O O ck O|exact Lj U3 O O pd O)) ?_;refine MH O O$ M5$ MU O O$ Le O$ qS$ qS$ qS$ qS$ qS$ M8 O O$ Lf$ LS.qb (e:=[(0,_),(1,_),(7,_),(9,_),(11,_),(12,_),(38,_)]) ?_;exact(e8 _ _ ⟨false,rfl,rfl,by simp[m8]⟩).qb
    ·refine Li O$ Le O$ MH O O$ Ns$ Le O$ Lt PK O$ qV ((by first|exact Lj U3 O O jK O|exact Lj U3 O O ck O|exact Lj U3 O O pd O)) ?_;refine MH O O$ Ns$ MU O O$ Lu O O$ LU O$ Lt Pw O$ qV ((by first|exact Lj U4 O O jK O|exact Lj U4 O O ck O|exact Lj U4 O O pd O)) ?_;refine qV ((by first|exact Mh O|exact NL O)) ?_;refine MU O O$ Lf$ LS.qb (e:=[(0,_),(1,_),(7,_),(9,_),(11,_),(12,_),(38,_)]) ?_;exact(e8 _ _ ⟨true,rfl,rfl,⟨λ_=>⟨m8,λe=>(by have:=yK.1 e;omega)⟩,λ_=>rfl⟩⟩).qb
 case cQ=>
  refine Lp O (λh0=>?_)$ λh0=>?_
  ·have iB:0<q:=by omega
   have yW:=OM succ ref;have iJ:=yW.WC;rw[List.length_map] at iJ;have vy:=jj.len
   have vz:(N5 succ ref).sum=ref.length:=by
    have:=congrArg List.length yW.exp;rw[Oy,List.length_map] at this;exact this
   have vA:=z43 succ ref;rw[show SZ succ ref q=(.gamma,(N5 succ ref).length-1)::runNums 0 (N5 succ ref).dropLast from if_pos iB] at hb;obtain⟨l,m,gZ⟩:∃l m,N5 succ ref=l++[m]:=⟨_,_,(List.dropLast_concat_getLast yW.ne).symm⟩;have hC:=yW.pos;rw[gZ] at hb vz iJ hC;rw[gZ,List.dropLast_concat] at vA;rw[List.dropLast_concat,show(l++[m]).length-1=l.length by simp] at hb;rw[List.sum_append] at vz;rw[List.length_append,List.length_singleton] at iJ;have h2:=h.ext aA
   have vB:∀m'∈l.drop 1,1<=m':=λm' mV=>hC m' (by
    cases l with
    |nil=>simp at mV
    |cons a l=>rw[List.cons_append,List.drop_succ_cons,List.drop_zero];rw[List.drop_succ_cons,List.drop_zero] at mV;exact List.mem_append_left _ mV)
   refine Li O$ Lu O O$ LD zcH O (ZU h2 (aA.Lg hG) cZ ref l (λw5 k=>dV w5 (aA.kp.trans k)) dt vy (by omega) (by omega) vB _ hb) ?_;rintro v11 w3 ⟨cC,md,pe,ax⟩;refine Lk O ((cD _ _ ⟨v11,rfl,?_⟩).qb);rw[vA] at cC;rw[show SZ succ ref q=(.gamma,l.length)::runNums 0 l by unfold SZ;rw[if_pos iB,gZ,List.dropLast_concat,show(l++[m]).length-1=l.length by simp]];have l72:=eh.lt;have l92:=cM.lt;exact⟨pe,aA.kp.trans (ax.Lv λk e=> .inr e),cC,λg hg=>by have:=md g hg;omega,ax.Lg eh (by omega),ax.Lg cM (by omega),by omega,by omega,λe=>by have:=md _ e;omega,λe=>by have:=md _ e;omega⟩
  ·have iB:q=0:=by omega
   have Bc:=mB iB;subst Bc;refine py ((cD _ _ ⟨.slice none 0 0,rfl,?_⟩).qb);rw[show SZ succ [] q=[] by unfold SZ;rw[if_neg (by omega)]];exact⟨h.ext aA,aA.kp,Sl.nil _ _ _,(λg hg=>by cases hg),eh,cM,by omega,by omega,(λe=>by cases e),(λe=>by cases e)⟩
theorem Zw {l b rest:List Bool}{a k n:Nat}(hb:l.drop a=b++rest)(hk:k+n<=b.length):(l.drop (a+k)).take n=(b.drop k).take n:=by
 rw[<-List.drop_drop,hb,List.drop_append_of_le_length (by omega),List.take_append_of_le_length (by rw[List.length_drop];omega)]
theorem z4g {w:World}{r a:Nat}{s:Bytes}(p:NT)(hp:p.My)(x:Nat)(hx:x<65536){la ra:Option Addr}{lc rc:Nat}(succ ref:List Nat)(hs:LZ succ)(bN:succ≠[])(jj:LZ ref)
  (q:Nat) (hq:q<=p.LJ) (mB:q=0->ref=[]) (hG:Lq w 0 (Og .gamma) 260) (hU:Lq w 1 (Og .unary) 260) (dO:Rd w (.slice la succ.length lc) 1 succ.length (succ.map LO)) (ly:Rd w (.slice ra ref.length rc) 1 ref.length (ref.map LO)) (fB:succ.length<=lc) (mL:ref.length<=rc)
  (hl:(LG (Nr p x succ ref q)).length<=134217728) (rest:List Bool) (hb:(LF s).drop a=LG (Qh p x succ ref q)++rest) (h:Py w r s (a+(LG (Qh p x succ ref q)).length)):
  LP Tryz.prog 199 [lpV p,ptr r 0,I (a:Int),I (x:Int),.agg #[I (succ.length:Int),I (q:Int)],.slice la succ.length lc,.slice ra ref.length rc] w λu w'=>u= .bool true/\Py w' r s (a+(LG (Qh p x succ ref q)).length)/\Kp (λk=>k=r) w w':=by
 have lr0:=h.1.lt
 have l10:=hG.lt
 have l20:=hU.lt
 have fm:=hs.len
 have mW:=Wa p x (ref:=ref) q bN
 have yX:LG (Nr p x succ ref q)=LG (MC p succ.length q)++LG (Qh p x succ ref q):=by rw[mW,Oa]
 have eT:(LG (Nr p x succ ref q)).length=(LG (MC p succ.length q)).length+(LG (Qh p x succ ref q)).length:=by rw[mW,Oa,List.length_append]
 generalize LG (Qh p x succ ref q)=TB at*
 have yY:succ.length≠0:=λe=>bN (List.eq_nil_of_length_eq_zero e)
 refine Lb (e:=[(0,_),(1,_),(2,_),(3,_),(4,_),(5,_),(6,_)]) Tryz.func199 O Tryz.ntmps199 O O$ qN O$ Lm O O (Nc O (cs:=VD p) O) ?_
 rintro _ w1 ⟨b7,rfl,kW,ad,bJ⟩
 refine Lm O O (Nc O (cs:=[I (succ.length:Int),I (q:Int)]) O) ?_
 rintro _ w2 ⟨b11,rfl,iL,ag,aH⟩
 have aA:=ad.trans ag
 have z1:=ad.size
 have z2:=ag.size
 have eh:=ag.Lg bJ
 have h2:Py w2 r s (a+TB.length):=⟨aA.Lg h.1,h.2⟩
 refine Lw O$ qM O$ Le O$ LD Tu O (PO h2) ?_
 rintro _ w2 ⟨rfl,rfl⟩
 refine Lw O$ qM O$ LD WR O (Qk w2) ?_
 rintro _ w3 ⟨wp,F,rfl,lF,ah,pf⟩
 have z3:=ah.size
 have aL:=aA.trans ah
 have kI:=ah.Lg aH
 have jK:=ah.Lg eh
 refine Lk O$ run_seq$ qN O$ Lu O O$ Lu O O$ Lt Od O$ qV (Lj U3 O O kI O)$ qV (LM (news:=VD p) Ut O PH O (jK.cells (n:=3) O) O)$ LD z9R O (Vj lF p hp x hx succ ref hs jj q hq mB (aL.Lg hG) (aL.Lg hU) (dO.ext aL) (ly.ext aL) fB mL (by simpa using hl)) ?_
 rintro _ w4 ⟨rfl,F4,lE,av,kD⟩
 rw[List.nil_append] at lE
 have z4:=av.size
 have cX:Ext w2 w4:=ah.It av pf
 refine Mu O O$ Lf$ An O$ py$ qN O$ Le O$ LD z3a O (Sd lE) ?_
 rintro _ w4 ⟨rfl,rfl⟩
 refine Le O$ Mp O O$ Mp O O$ Lw O$ Lk O$ LS.qb (e:=[(1,_),(2,_),(7,_),(14,_),(15,_),(16,_),(17,_)]) ?_
 refine qN O$ Le O ?_
 have eQ:(LK (LG (Nr p x succ ref q))).length<=16777217:=by rw[LY];omega
 refine LD z2H O (Sz (LK (LG (Nr p x succ ref q))) (by omega) w4) ?_
 rintro _ w5 ⟨ow,rfl,rk,aX,Ku⟩
 have ia:=cX.trans aX
 have bK:=aA.trans ia
 obtain⟨z,m5,m8,Kv⟩:=O5 (LG (Nr p x succ ref q))
 have yZ:(LF (LK (LG (Nr p x succ ref q)))).drop 0=LG (MC p succ.length q)++(TB++List.replicate z false):=by
  rw[m5,List.drop_zero,yX,List.append_assoc]
 refine Lk O$ run_seq$ qN O$ Le O$ qV (LM (news:=VD p) Ut O PH O ((ia.Lg eh).cells (n:=3) O) O)$ LD z9U O (XI rk p hp (bK.Lg hG) (bK.Lg hU) (by omega) (by omega) succ.length q (by omega) hq (λe=>absurd e yY) _ yZ) ?_
 rintro _ w6 ⟨rfl,kJ,aU⟩
 rw[Nat.zero_add] at kJ
 have ib:Ext w2 w6:=ia.It aU (λk e=>by omega)
 have s8:=O3 yZ
 rw[Nat.zero_add] at s8
 generalize (LK (LG (Nr p x succ ref q)))=os at*
 have z6:=ib.size
 refine Le O$ Mp O O$ Mp O O$ Lm O O (NJ (cs:=[_,_]) NS O) ?_
 rintro _ w7 ⟨b20,rfl,Hg,cg,Be⟩
 refine Ls O (M7 (news:=[I (succ.length:Int),I (q:Int)]) NS O O O O Be (by simp)) ?_
 rintro w8 ⟨EZ,bB⟩
 have ic:Ext w6 w8:=cg.It bB (λk e=>by omega)
 have iT:=ib.trans ic
 have h8:Py w8 r s (a+TB.length):=⟨iT.Lg h2.1,h2.2⟩
 have tG:Py w8 ow os (LG (MC p succ.length q)).length:=⟨ic.Lg kJ.1,kJ.2⟩
 have ro:TX w8 wp (LG (Nr p x succ ref q)) F4:=((lE.ext aX).kp aU (λi hi e=>by have:=lE.lt hi;omega)).ext ic
 refine Lw O$ qM O$ Le O$ Mu O O$ Lu O O$ LD Y9 O (R1 ro) ?_
 rintro _ w8 ⟨rfl,rfl⟩
 refine Le O$ LD Tu O (PO tG) ?_
 rintro _ w8 ⟨rfl,rfl⟩
 refine Np O O ?_
 rw[show((LG (Nr p x succ ref q)).length:Int)-((LG (MC p succ.length q)).length:Int)=(TB.length:Int) by omega]
 refine Lu O O$ Np O O ?_
 rw[show((a+TB.length:Nat):Int)-(a:Int)=(TB.length:Int) by omega]
 refine Mu O O$ M5$ M8 O O$ Lf$ LS.qb (e:=[(1,_),(2,_),(14,_),(15,_),(19,_),(64,_)]) ?_
 refine An O$ py$ qN O$ Lu O O$ LD z5y O (Ux h8 a (by have:=h8.2.1;omega)) ?_
 rintro _ w9 ⟨rfl,h9,aP⟩
 have tJ:Py w9 ow os (LG (MC p succ.length q)).length:=⟨aP.Lg tG.1 (by omega),tG.2⟩
 refine Lf$ run_seq$ Lc$ Nj (α:=Nat) (0) (λk=>[(1,ptr r 0),(15,I ((a+TB.length:Nat):Int)),(19,ptr ow 0)]) (λk w'=>Py w' r s (a+k)/\Py w' ow os ((LG (MC p succ.length q)).length+k)/\Kp (λi=>i=r\/i=ow) w9 w'/\k<=TB.length) (λk=>TB.length-k) ?hI ?hround
 case hI=>exact⟨h9,tJ,Kp.refl _ _,Nat.zero_le _⟩
 case hround=>
  rintro k w10 ⟨dj,vC,ar,Kw⟩ ih
  try dsimp only
  refine run_seq$ qN O$ Le O$ LD Tu O (PO dj) ?_;rintro _ w10 ⟨rfl,rfl⟩;refine Le O$ Mw O O$ Lf$ Lp O (λh0=>?_)$ λh0=>?_
  ·refine py$ Lc$ qN O$ Lu O O$ LD Tu O (PO dj) ?_;rintro _ w10 ⟨rfl,rfl⟩;refine Np O O ?_;rw[show((a+TB.length:Nat):Int)-((a+k:Nat):Int)=((TB.length-k:Nat):Int) by omega];refine qV (ymi O O) ?_;rw[show min (64:Int) ((TB.length-k:Nat):Int)=((min 64 (TB.length-k):Nat):Int) by omega];obtain⟨n,hn,cT,jc,Bf⟩:∃n,min 64 (TB.length-k)=n/\1<=n/\n<=64/\k+n<=TB.length:=⟨_,rfl,by omega,by omega,by omega⟩;rw[hn];have tU:=dj.2.1;have fj:=Zw hb Bf;have jf:=Zw s8 Bf;have Ez:a+TB.length<=8*s.length:=h8.2.1
   have tK:(LG (MC p succ.length q)).length+TB.length<=8*os.length:=by
    have e:=congrArg List.length s8;rw[List.length_drop,bitsT_length,List.length_append] at e;omega
   refine Lw O$ qM O$ Lu O O$ LD ZO O (R6 dj n jc) ?_;rintro v11 w11 hv
   have fd:v11= .tuple #[Ly (valB (((LF s).drop (a+k)).take n)),I 0]/\Py w11 r s (a+k+n)/\Kp (λk=>k=r) w10 w11:=by
    rcases hv with hv|hv
    ·exact hv.2
    ·omega
   obtain⟨rfl,ko,bA⟩:=fd;rw[fj];have Bg:Py w11 ow os ((LG (MC p succ.length q)).length+k):=⟨bA.Lg vC.1 (by omega),vC.2⟩;refine Le O$ Mp O O$ Mp O O$ Lw O$ Lw O$ qM O$ Lu O O$ LD ZO O (R6 Bg n jc) ?_;rintro v12 w12 hv
   have fd:v12= .tuple #[Ly (valB (((LF os).drop ((LG (MC p succ.length q)).length+k)).take n)),I 0]/\Py w12 ow os ((LG (MC p succ.length q)).length+k+n)/\Kp (λk=>k=ow) w11 w12:=by
    rcases hv with hv|hv
    ·exact hv.2
    ·omega
   obtain⟨rfl,Bh,aS⟩:=fd;rw[jf];have sd:Py w12 r s (a+k+n):=⟨aS.Lg ko.1 (by omega),ko.2⟩;refine Le O$ Mp O O$ Mp O O$ Lw O$ Lw O$ qM O$ Lu O O$ Mu O O$ Lf$ Lp O (λh1=>?_)$ λh1=>?_
   ·exact absurd O h1
   ·refine py$ Ld ((ih (k+n) _ ⟨by rw[<-Nat.add_assoc];exact sd,by rw[<-Nat.add_assoc];exact Bh,(ar.trans (bA.Lv λi e=> .inl e)).trans (aS.Lv λi e=> .inr e),Bf⟩ (by omega)).qb)
  ·have jL:k=TB.length:=by omega
   subst jL;refine Ln O$ qN O$ Lk O$ Lh Tryz.func199 O ?_;exact⟨_,rfl,rfl,dj,((aA.trans iT).kp.trans aP).It ar (λi hi=>by rcases hi with e|e;exact .inr e;exact .inl (by omega))⟩
theorem Vh {w:World}{r a:Nat}{s:Bytes}(h:Py w r s a)(p:NT)(hp:p.My)(x:Nat)(hx:x<65536)(N:Nat)(hN:N<=65536){ra:Option Addr}{rc:Nat}(succ ref:List Nat)(hs:LZ succ)(bN:succ≠[])(iS:succ.length<50)(Bi:∀y∈succ,y<N)(jj:LZ ref)
  (q:Nat) (hq:q<=p.LJ) (mB:q=0->ref=[]) (hG:Lq w 0 (Og .gamma) 260) (hU:Lq w 1 (Og .unary) 260) (cZ:¬0=r) (dP:¬1=r) (dV:∀w2,Kp (λk=>k=r) w w2->Rd w2 (.slice ra ref.length rc) 1 ref.length (ref.map LO)) (mL:ref.length<=rc)
  (hl:(LG (Nr p x succ ref q)).length<=134217728) (rest:List Bool) (hb:(LF s).drop a=LG (Qh p x succ ref q)++rest):
  LP Tryz.prog 154 [ptr r 0,I (x:Int),I (N:Int),.agg #[I (succ.length:Int),I (q:Int)],.slice ra ref.length rc,lpV p] w λu w'=>∃v,u= .tuple #[v,I 0]/\Sl w' v 46 1 succ.length (succ.map LO)/\(∀g,v.ownBlock=some g->w.heap.size<=g)/\Py w' r s (a+(LG (Qh p x succ ref q)).length)/\Kp (λk=>k=r) w w':=by
 obtain⟨g1,g2,g3,g4⟩:=id hp
 have lr0:=h.1.lt
 have l10:=hG.lt
 have l20:=hU.lt
 have fm:=hs.len
 have gP:=jj.len
 have yY:0<succ.length:=List.length_pos_iff.2 bN
 refine Lb (e:=[(0,_),(1,_),(2,_),(3,_),(4,_),(5,_)]) Tryz.func154 O Tryz.ntmps154 O O$ qN O$ Lm O O (Nc O (cs:=[I (succ.length:Int),I (q:Int)]) O) ?_
 rintro _ w1 ⟨b9,rfl,mz,ad,cM⟩
 refine Lm O O (Nc O (cs:=VD p) O) ?_
 rintro _ w2 ⟨b11,rfl,iL,ag,aH⟩
 replace aH:Lq w2 b11 [I (p.LJ:Int),I (p.interval:Int),I (p.zeta:Int)] 212:=aH
 have aA:=ad.trans ag
 have z1:=ad.size
 have z2:=ag.size
 have cY:=ag.Lg cM
 have l9:=cY.lt
 have l11:=aH.lt
 have l90:=cM.lt
 refine Lw O$ Lk O$ run_seq$ M6 (λe' w'=>e'=[(0,ptr r 0),(1,I (x:Int)),(2,I (N:Int)),(4,.slice ra ref.length rc),(9,ptr b9 0),(11,ptr b11 0)]/\Ext w2 w') ?lG$ λlG=>?Bk
 case lG=>
  rintro e' w3 ⟨rfl,ah⟩;have db:=aA.trans ah;have h3:Py w3 r s a:=⟨db.Lg h.1,h.2⟩;have ck:=ah.Lg cY;have kI:=ah.Lg aH;have z3:=ah.size;refine qN O$ Le O$ LD Tu O (PO h3) ?_;rintro _ w3 ⟨rfl,rfl⟩;refine Lw O$ qM O$ Le O$ qV (O6 (cs:=[_,_]) zbN O zbX O O)$ Lm O O (Nc O (cs:=[ptr r 0,.bool false]) O) ?_;rintro _ w4 ⟨tb,rfl,Hh,ay,Hi⟩;have z4:=ay.size;have cR:=db.trans ay;have h4:Xs w4 tb r s a:=⟨Hi,⟨ay.Lg h3.1,h3.2⟩,by omega⟩;refine Lw O$ qM O$ Lu O O$ qV (LM (news:=[I (succ.length:Int),I (q:Int)]) ZS O NS O ((ay.Lg ck).cells (n:=2) O) O)$ Le O$ qV (LM (news:=VD p) Ut O PH O ((ay.Lg kI).cells (n:=3) O) O)$ LD zdu O (z3P h4 (cR.Lg hG) cZ (by omega) p hp x hx succ ref hs bN iS jj q hq mB (λw2 k=>dV w2 (cR.kp.trans k)) mL rest hb) ?_;rintro v w5 ⟨fD,oW,F0,ak⟩;have ci:Kp (λk=>k=r) w w5:=cR.kp.It ak (λi hi=>by rcases hi with e|e;exact .inl (by omega);exact .inr e);have gG:=ak.Lg (ay.Lg ck) (by omega);have vD:=ak.Lg (ay.Lg kI) (by omega);have F9:=F0.Lg;have Hj:=ci.Lg hG cZ;have Hk:=ci.Lg hU dP;have cb:=dV w5 ci;have ux:∀g,v.ownBlock=some g->w.heap.size<=g:=λg hg=>by have:=oW g hg;have:=cR.size;omega
  obtain⟨va,vc,rfl,zd⟩:=fD.rd.shape
  have Bj:succ.length<=vc:=by
   rcases fD.shape with⟨-,h0⟩|⟨g,c1,hv,dv⟩
   ·omega
   ·cases hv;exact dv
  refine Lk O$ run_seq$ qN O$ Le O$ LU O$ Lt Pw O$ qV ((by first|exact Lj U4 O O gG O|exact Lj U4 O O F9 O)) ?_;refine Lu O O$ Nd LI O$ Lt Oz O$ qV ((by first|exact Lj U3 O O gG O|exact Lj U3 O O F9 O)) ?_;refine Mu O O$ M5$ M8 O O$ Lu O O$ LD z0V O (RS _ succ hs w5 fD.rd) ?_;rintro _ w5 ⟨rfl,rfl⟩;refine qV ((by first|exact Mh O|exact NL O)) ?_;refine M8 O O$ Lu O O$ Nd LI O$ Nb O O$ M5$ M8 O O$ Lu O O$ Le O$ Nd LI O$ Np O O ?_;rw[show(succ.length:Int)-1=((succ.length-1:Nat):Int) by omega];obtain⟨y,hy⟩:∃y,succ[succ.length-1]? =some y:=⟨_,List.getElem?_eq_getElem (by omega)⟩;have Kx:=Bi y (List.mem_of_getElem? hy)
  obtain⟨g5,c5,e5⟩:∃g c,Value.slice va succ.length vc= .slice (some ⟨g,0,none⟩) succ.length c:=by
   rcases fD.shape with⟨-,h0⟩|⟨g,c,e,hc⟩
   ·omega
   ·exact⟨g,c,e⟩
  cases e5;refine qV (M9 LI Lz O O (by omega))$ qV (LN Mx O O (Mn fD.rd (show(succ.map LO)[succ.length-1]? =some (LO y) by rw[List.getElem?_map,hy];rfl))) ?_;refine qV (M3 O Mx U3 (by omega))$ Le O$ Pa O O$ M5$ M8 O O$ Le O$ qV (LM (news:=VD p) Ut O PH O (vD.cells (n:=3) O) O)$ Lu O O$ Le O$ qV (LM (news:=[I (succ.length:Int),I (q:Int)]) ZS O NS O (gG.cells (n:=2) O) O)$ Lu O O$ LD zbi O (z4g p hp x hx succ ref hs bN jj q hq mB Hj Hk fD.rd cb Bj mL hl rest hb F0.rd) ?_;rintro _ w6 ⟨rfl,h6,aU⟩;refine qV ((by first|exact Mh O|exact NL O)) ?_;refine M8 O O$ Lf$ LS.qb (e:=[(0,_),(14,_),(16,_),(134,_)]) ?_;refine An O$ py$ qN O$ Le O$ Lw O$ Lk O$ Lh Tryz.func154 O ?_;exact⟨_,rfl,_,rfl,fD.kp aU (λg hg e=>by have:=ux g hg;omega),ux,h6,ci.trans aU⟩
 case Bk=>
  refine Lc$ qN O$ Le O$ qV (Ml Pn O O)$ Lk O$ An O$ run_seq$ qN O$ qV (LM (news:=VD p) Ut O PH O (aH.cells (n:=3) O) O)$ LD z0z O (PA p hp w2) ?_;rintro _ w3 ⟨rfl,ah⟩;refine Mu O O$ Lu O O$ LD z3m O (Ra x hx w3) ?_;rintro _ w3 ⟨rfl,rfl⟩;refine qV ((by first|exact Mh O|exact NL O)) ?_;refine M8 O O$ Lu O O$ Mw O O$ M5$ M8 O O$ Lu O O$ MH O O$ M5$ M8 O O$ Lu O O$ LD z0V O (RS _ ref jj w3 (dV w3 (aA.trans ah).kp)) ?_;rintro _ w3 ⟨rfl,rfl⟩;refine qV ((by first|exact Mh O|exact NL O)) ?_;refine M8 O O$ Lk O$ LS.qb (e:=[(0,_),(1,_),(2,_),(4,_),(9,_),(11,_),(12,_),(13,_),(20,_)]) ?_;refine An O$ Li O$ Lt Oz O$ qV ((by first|exact Lj U3 O O (ah.Lg cY) O|exact Lj U3 O O (ah.Lg aH) O)) ?_;refine Mw O O$ M5$ Le O$ Lt Oz O$ qV ((by first|exact Lj U3 O O (ah.Lg cY) O|exact Lj U3 O O (ah.Lg aH) O)) ?_;refine MH O O$ M5$ M8 O O$ Le O$ Lt Od O$ qV ((by first|exact Lj U3 O O (ah.Lg cY) O|exact Lj U3 O O (ah.Lg aH) O)) ?_;refine Mw O O$ M5$ M8 O O$ Le O$ Lt Od O$ qV ((by first|exact Lj U3 O O (ah.Lg cY) O|exact Lj U3 O O (ah.Lg aH) O)) ?_;refine Lt OS O$ qV ((by first|exact Lj U3 O O (ah.Lg cY) O|exact Lj U3 O O (ah.Lg aH) O)) ?_;refine MH O O$ M5$ M8 O O$ Le O ?_;rcases Nat.eq_zero_or_pos q with e0|e0
  ·have Hl:ref.length=0:=by rw[mB e0];rfl
   refine Lt Od O$ qV ((by first|exact Lj U3 O O (ah.Lg cY) O|exact Lj U3 O O (ah.Lg aH) O)) ?_;refine Nb O O$ Ns$ Lu O O$ Nd LI O$ MH O O$ M5$ MU O O$ M8 O O$ Lk O$ LS.qb (e:=[(0,_),(1,_),(2,_),(4,_),(9,_),(11,_),(12,_),(13,_),(20,_)]) ?_;refine An O$ qN O$ Lt Oz O$ qV ((by first|exact Lj U3 O O (ah.Lg cY) O|exact Lj U3 O O (ah.Lg aH) O)) ?_;refine Nb O O$ M5$ Le O$ qS$ qS$ qS$ M8 O O$ Lk O$ An O$ py$ Ld ?_;exact(lG _ _ ⟨rfl,ah⟩).qb
  ·refine Lt Od O$ qV ((by first|exact Lj U3 O O (ah.Lg cY) O|exact Lj U3 O O (ah.Lg aH) O)) ?_;refine Nb O O$ M5$ Le O$ qS$ qS$ qS$ M8 O O$ M8 O O$ Lk O$ LS.qb (e:=[(0,_),(1,_),(2,_),(4,_),(9,_),(11,_),(12,_),(13,_),(20,_)]) ?_;refine An O$ qN O$ Lt Oz O$ qV ((by first|exact Lj U3 O O (ah.Lg cY) O|exact Lj U3 O O (ah.Lg aH) O)) ?_;refine Nb O O$ M5$ Le O$ qS$ qS$ qS$ M8 O O$ Lk O$ An O$ py$ Ld ?_;exact(lG _ _ ⟨rfl,ah⟩).qb
theorem YZ {w:World}{r:Nat}(p:NT)(hp:p.My)(x:Nat)(hx:x<65536)(N:Nat)(hN:N<=65536):
  LP Tryz.prog 154 [ptr r 0,I (x:Int),I (N:Int),.agg #[I ((0:Nat):Int),I ((0:Nat):Int)],.slice none 0 0,lpV p] w λu w'=>u= .tuple #[.slice none 0 0,I 0]/\Ext w w':=by
 obtain⟨g1,g2,g3,g4⟩:=id hp
 have rL:([]:List Nat).length=0:=rfl
 refine Lb (e:=[(0,_),(1,_),(2,_),(3,_),(4,_),(5,_)]) Tryz.func154 O Tryz.ntmps154 O O$ qN O$ Lm O O (Nc O (cs:=[I ((0:Nat):Int),I ((0:Nat):Int)]) O) ?_
 rintro _ w1 ⟨b9,rfl,mz,ad,cM⟩
 refine Lm O O (Nc O (cs:=VD p) O) ?_
 rintro _ w2 ⟨b11,rfl,iL,ag,aH⟩
 replace aH:Lq w2 b11 [I (p.LJ:Int),I (p.interval:Int),I (p.zeta:Int)] 212:=aH
 have aA:=ad.trans ag
 have cY:=ag.Lg cM
 refine Lw O$ Lk O$ run_seq$ Lc$ qN O$ Le O$ qV (Ml Pn O O)$ Lk O$ An O$ run_seq$ qN O$ qV (LM (news:=VD p) Ut O PH O (aH.cells (n:=3) O) O)$ LD z0z O (PA p hp w2) ?_
 rintro _ w3 ⟨rfl,ah⟩
 refine Mu O O$ Lu O O$ LD z3m O (Ra x hx w3) ?_
 rintro _ w3 ⟨rfl,rfl⟩
 refine qV ((by first|exact Mh O|exact NL O)) ?_
 refine M8 O O$ Lu O O$ Mw O O$ M5$ M8 O O$ Lu O O$ MH O O$ M5$ M8 O O$ Lu O O$ LD z0V O (RS (.slice none 0 0) [] ⟨List.Pairwise.nil,λy h=>(by cases h)⟩ w3 QX) ?_
 rintro _ w3 ⟨rfl,rfl⟩
 refine qV ((by first|exact Mh O|exact NL O)) ?_
 refine M8 O O$ Lk O$ LS.qb (e:=[(0,_),(1,_),(2,_),(4,_),(9,_),(11,_),(12,_),(13,_),(20,_)]) ?_
 refine An O$ Li O$ Lt Oz O$ qV ((by first|exact Lj U3 O O (ah.Lg cY) O|exact Lj U3 O O (ah.Lg aH) O)) ?_
 refine Mw O O$ M5$ Le O$ Lt Oz O$ qV ((by first|exact Lj U3 O O (ah.Lg cY) O|exact Lj U3 O O (ah.Lg aH) O)) ?_
 refine MH O O$ M5$ M8 O O$ Le O$ Lt Od O$ qV ((by first|exact Lj U3 O O (ah.Lg cY) O|exact Lj U3 O O (ah.Lg aH) O)) ?_
 refine Mw O O$ M5$ M8 O O$ Le O$ Lt Od O$ qV ((by first|exact Lj U3 O O (ah.Lg cY) O|exact Lj U3 O O (ah.Lg aH) O)) ?_
 refine Lt OS O$ qV ((by first|exact Lj U3 O O (ah.Lg cY) O|exact Lj U3 O O (ah.Lg aH) O)) ?_
 refine MH O O$ M5$ M8 O O$ Le O$ Lt Od O$ qV ((by first|exact Lj U3 O O (ah.Lg cY) O|exact Lj U3 O O (ah.Lg aH) O)) ?_
 refine Nb O O$ Ns$ Lu O O$ Nd LI O$ MH O O$ M5$ MU O O$ M8 O O$ Lk O$ LS.qb (e:=[(0,_),(1,_),(2,_),(4,_),(9,_),(11,_),(12,_),(13,_),(20,_)]) ?_
 refine An O$ qN O$ Lt Oz O$ qV ((by first|exact Lj U3 O O (ah.Lg cY) O|exact Lj U3 O O (ah.Lg aH) O)) ?_
 refine Nb O O$ Ns$ Le O$ Lt Od O$ qV ((by first|exact Lj U3 O O (ah.Lg cY) O|exact Lj U3 O O (ah.Lg aH) O)) ?_
 refine Nb O O$ Ns$ MU O O$ Lk O$ Lr O$ qN O$ Lw O$ Lk O$ Lh Tryz.func154 O ?_
 exact⟨_,rfl,rfl,aA.trans ah⟩
/-! ### A packer's cells -/
def Rv (q:Value×Nat):List Value:=[q.1,I (q.2:Int)]
def Tc (p:Mq)(R:List (Value×Nat))(n wp ed:Nat):List Value:=QV p++(R.flatMap Rv++[I (n:Int),ptr wp 0,I (ed:Int),I 0])
theorem NC:∀R:List (Value×Nat),(R.flatMap Rv).length=R.length*2
 |[]=>rfl
 |q::R=>by rw[List.flatMap_cons,List.length_append,NC R,List.length_cons,show(Rv q).length=2 from rfl];omega
theorem z0N:∀(R:List (Value×Nat)) (i j:Nat) (q:Value×Nat) (u:Value),R[i]? =some q->(Rv q)[j]? =some u->(R.flatMap Rv)[i*2+j]? =some u
 |[],i,j,q,u,h,_=>by simp at h
 | a :: R, 0, j, q, u, h, hj => by
   rw[List.getElem?_cons_zero] at h;cases h;have:=(List.getElem?_eq_some_iff.1 hj).1;rw[List.flatMap_cons,List.getElem?_append_left (by omega),Nat.zero_mul,Nat.zero_add]
   exact hj
 | a :: R, i + 1, j, q, u, h, hj => by
   rw[List.getElem?_cons_succ] at h;rw[List.flatMap_cons,List.getElem?_append_right (by show 2<=_;omega),show(i+1)*2+j-(Rv a).length=i*2+j by show _-2=_;omega];exact z0N R i j q u h hj
theorem ZL:∀(R:List (Value×Nat)) (i:Nat) (x:Value×Nat),i<R.length->(R.set i x).flatMap Rv=(R.flatMap Rv).take (i*2)++Rv x++(R.flatMap Rv).drop (i*2+2)
 |[],i,x,h=>by simp at h
 | a :: R, 0, x, h => by
   rw[List.set_cons_zero,List.flatMap_cons,List.flatMap_cons,Nat.zero_mul,List.take_zero,List.nil_append,Nat.zero_add,List.drop_left' (show(Rv a).length=2 from rfl)]
 | a :: R, i + 1, x, h => by
   rw[List.length_cons] at h;rw[List.set_cons_succ,List.flatMap_cons,List.flatMap_cons,ZL R i x (by omega)];rw[show(i+1)*2=(Rv a).length+i*2 by show _=2+_;omega,List.take_length_add_append,Nat.add_assoc,List.drop_length_add_append,List.append_assoc,List.append_assoc,List.append_assoc]
section
variable {p:Mq}{R:List (Value×Nat)}{n wp ed:Nat}
theorem z1T (hR:R.length=17):(Tc p R n wp ed).length=43:=by
 unfold Tc
 rw[List.length_append,List.length_append,NC,hR];rfl
theorem VX (hR:R.length=17)(j:Nat):(Tc p R n wp ed)[39+j]? =[I (n:Int),ptr wp 0,I (ed:Int),I 0][j]? :=by
 unfold Tc
 rw[List.getElem?_append_right (by show 5<=_;omega),List.getElem?_append_right (by rw[NC,hR];show _<=_-5;omega),NC,hR]
 congr 1
 show 39+j-5-17*2=j
 omega
theorem z1u (hR:R.length=17):(Tc p R n wp ed)[39]? =some (I (n:Int)):=VX hR 0
theorem zaj (hR:R.length=17):(Tc p R n wp ed)[40]? =some (ptr wp 0):=VX hR 1
theorem zbR (hR:R.length=17):(Tc p R n wp ed)[41]? =some (I (ed:Int)):=VX hR 2
theorem zfy (hR:R.length=17):(Tc p R n wp ed)[42]? =some (I 0):=VX hR 3
theorem z86 (hR:R.length=17){i:Nat}{v:Value}{c:Nat}(h:R[i]? =some (v,c))(j:Nat)(u:Value)(hj:[v,I (c:Int)][j]? =some u):(Tc p R n wp ed)[5+i*2+j]? =some u:=by
 have hi:=(List.getElem?_eq_some_iff.1 h).1
 have ky:j<2:=(List.getElem?_eq_some_iff.1 hj).1
 unfold Tc
 rw[List.getElem?_append_right (by show 5<=_;omega),show 5+i*2+j-(QV p).length=i*2+j by show _-5=_;omega,List.getElem?_append_left (by rw[NC];omega)]
 exact z0N R i j _ u h hj
theorem z3W (hR:R.length=17){i:Nat}(hi:i<17)(v:Value)(c:Nat):MN (Tc p R n wp ed) (5+i*2) [v,I (c:Int)]=Tc p (R.set i (v,c)) n wp ed:=by
 unfold Tc MN
 rw[ZL R i (v,c) (by omega)]
 rw[show 5+i*2=(QV p).length+i*2 from rfl,List.take_length_add_append,show(QV p).length+i*2+[v,I (c:Int)].length=(QV p).length+(i*2+2) from rfl,List.drop_length_add_append]
 rw[List.take_append_of_le_length (by rw[NC];omega),List.drop_append_of_le_length (by rw[NC];omega)]
 simp only[List.append_assoc]
 rfl
theorem z7U (hR:R.length=17)(m:Nat):(Tc p R n wp ed).set 39 (I (m:Int))=Tc p R m wp ed:=by
 unfold Tc
 rw[List.set_append_right _ _ (by show 5<=_;omega),List.set_append_right _ _ (by rw[NC,hR];show _<=39-5;omega),NC,hR]
 rfl
theorem z7N (hR:R.length=17)(m:Nat):(Tc p R n wp ed).set 41 (I (m:Int))=Tc p R n wp m:=by
 unfold Tc
 rw[List.set_append_right _ _ (by show 5<=_;omega),List.set_append_right _ _ (by rw[NC,hR];show _<=41-5;omega),NC,hR]
 rfl
end
theorem z7A {w:World}{k:Nat}{p:Mq}{R:List (Value×Nat)}{n wp ed:Nat}(hB:Lq w k (Tc p R n wp ed) 279)(hR:R.length=17)(hn:n<=65536)(a:Option Addr)(m cp c:Nat):
  LP Tryz.prog 161 [ptr k 5,.slice a m cp,I (c:Int)] w λu w'=>u= .tuple #[]/\Lq w' k (Tc p (R.set (n%17) (.slice a m cp,c)) (n+1) wp ed) 279/\Kp (λi=>i=k) w w':=by
 refine Lb (e:=[(0,_),(1,_),(2,_)]) Tryz.func161 O Tryz.ntmps161 O O ?_
 have hg:=Ext.LC w
 have cH:(R.set (n%17) (.slice a m cp,c)).length=17:=by rw[List.length_set];exact hR
 refine run_seq$ LH [12] (λw'=>Ext w w') (by kernel_rfl) O$ qL [9,10,11,12] 0 O (λ_ h=>M0 O) hg$ qL [2,3,4,5,11,12] 1 O (λ_ h=>M0 O) hg$ qL [3,4,5,11,12] 2 O (λ_ h=>Mo O) hg$ qL [4,5,11,12] 3 O (λ_ h=>LV QI O) hg$ qL [8,11,12] 6 O (λ_ h=>M0 O) hg$ qL [8,11,12] 7 O (λ_ h=>M0 O) hg$ qL [11,12] 8 O (λ_ h=>O6 (cs:=[_,_]) Mr O z9C O O) hg$ qL [10,11,12] 9 O (λ_ h=>Mo O) hg$ qL [11,12] 10 O (λ_ h=>LV z3D O) hg$ qL [5,11,12] 4 O (λ_ h=>Lj U3 O O (h.Lg hB) (z1u hR)) hg$ qL [11,12] 5 O (λ_ h=>yre O O (by omega)) hg$ qL [12] 11 O (λ_ h=>yia zdS Mr O O (by omega)) hg ?_
 refine OY [12]$ qO 12$ M1 (i:=12) O O (M7 (news:=[.slice a m cp,I (c:Int)]) Mr O O O O (hg.Lg hB) (by rw[z1T hR];show 5+n%17*2+2<=43;omega)) ?_
 rintro w1 ⟨ai,aN⟩
 refine⟨trivial,?_⟩
 replace ai:Lq w1 k (MN (Tc p R n wp ed) (5+n%17*2) [.slice a m cp,I (c:Int)]) 279:=ai
 rw[z3W hR (Nat.mod_lt _ (by decide))] at ai
 refine qE$ Li O$ Le O$ LU O$ Lt QI O$ qV (Lj U3 O O ai (z1u cH))$ Mb O O$ LU O$ Lt QI O$ Ls O (MY Md O O O ai (by rw[z1T cH];decide)) ?_
 rintro w2 ⟨am,ao⟩
 replace am:Lq w2 k ((Tc p (R.set (n%17) (.slice a m cp,c)) n wp ed).set 39 (I ((n+1:Nat):Int))) 279:=am
 rw[z7U cH] at am
 refine Lf$ ME Tryz.func161 O ?_
 exact⟨_,rfl,rfl,am,(hg.kp.trans aN).trans ao⟩
def PG (p:Mq)(m size c:Nat):Bool:=decide (0<m/\m<=p.most/\0<size/\size<=p.most/\c<p.chain)
theorem Se {w:World}{k:Nat}{p:Mq}{R:List (Value×Nat)}{n wp ed:Nat}(hB:Lq w k (Tc p R n wp ed) 279)(hR:R.length=17)(hn:n<=65536)(hp:p.My)(ref size:Nat)(h1:1<=ref)(h2:ref<=p.LJ)
  {a:Option Addr} {m cp c:Nat} (hq:ref<=n->R[(n-ref)%17]? =some (.slice a m cp,c)):
  LP Tryz.prog 159 [ptr k 5,I (ref:Int),I (size:Int),bpV p] w λu w'=>u=(if ref<=n then .tuple #[.agg #[.slice a m cp,I (c:Int)],.bool (PG p m size c)] else .tuple #[.agg #[.slice none 0 0,I 0],.bool false])/\Ext w w':=by
 have vE:p.LJ<=16:=hp.1.1
 refine Lb (e:=[(0,_),(1,_),(2,_),(3,_)]) Tryz.func159 O Tryz.ntmps159 O O$ qN O$ Lm O O (Nc O (cs:=QV p) O) ?_
 rintro _ w1 ⟨b7,rfl,kW,ad,bJ⟩
 refine Lm O O (NJ (cs:=[_,_]) Mr O) ?_
 rintro _ w2 ⟨b8,rfl,ja,ag,cu⟩
 have z1:=ad.size
 have z2:=ag.size
 have l7:=bJ.lt
 have l8:=cu.lt
 have aA:=ad.trans ag
 have eh:=ag.Lg bJ
 replace eh:Lq w2 b7 [I (p.LJ:Int),I (p.chain:Int),I (p.interval:Int),I (p.zeta:Int),I (p.most:Int)] 88:=eh
 replace cu:Lq w2 b8 [.slice none 0 0,I 0] 274:=cu
 have se:=aA.Lg hB
 have aa:=Ext.LC w2
 refine Lk O$ run_seq$ run_seq ?_
 rcases Nat.lt_or_ge n ref with aV|iH
 ·refine N7 (λw'=>Ext w2 w') O$ LA 0 O O (aa)$ Ll 1 O (Wr O O) aa$ PU$ LA 2 O O (aa)$ LA 3 O O (aa)$ LA 4 O O (aa)$ Ll 5 O (Mo O) aa$ Ll 6 O (LV QI O) aa$ Ll 8 O (LV Xe O) aa$ qT 9 O (λ_ h=>Lj U3 O O (h.Lg eh) O) aa$ qT 7 O (λ_ h=>Lj U3 O O (h.Lg se) (z1u hR)) aa$ Ll 10 O (ymi O O) aa$ Ll 11 O (TN O O) aa ?_;refine Pu$ Ll 12 O (Qt O O) aa$ qE$ Lr O$ qN O$ qV (O6 (cs:=[_,_]) Mr O z9C O O) ?_;have sg:=aa.Lg cu;refine Ls O (M7 (news:=[.slice none 0 0,I 0]) Mr O O O O sg (by simp)) ?_;rintro w3 ⟨sh,ax⟩;replace sh:Lq w3 b8 [.slice none 0 0,I 0] 274:=sh;refine Lk O$ LL Tryz.func159 (.cell QP O Mr O (Lq.cells (n:=2) sh (news:=[_,_]) O) O (.tmp O .nil)) ?_;rw[if_neg (by omega)];exact⟨_,rfl,rfl,(aA.trans aa).It ax (λi e=>by omega)⟩
 ·have eC:=hq iH;rw[if_pos iH];refine N7 (λw'=>Ext w2 w') O$ LA 0 O O (aa)$ Ll 1 O (Wr O O) aa$ PU$ LA 2 O O (aa)$ LA 3 O O (aa)$ LA 4 O O (aa)$ Ll 5 O (Mo O) aa$ Ll 6 O (LV QI O) aa$ Ll 8 O (LV Xe O) aa$ qT 9 O (λ_ h=>Lj U3 O O (h.Lg eh) O) aa$ qT 7 O (λ_ h=>Lj U3 O O (h.Lg se) (z1u hR)) aa$ Ll 10 O (ymi O O) aa$ Ll 11 O (TN O O) aa ?_;refine PU$ Ll 12 O (Qt O O) aa$ qE$ An O$ py$ run_seq ?_;have ae:=aa.trans (Ext.LC w2.drew);have eX:=Ext.LC w2.drew;have mX:=aa.Lg se;refine LH [13] (λw'=>Ext w2.drew w') (by kernel_rfl) O$ qL [8,9,10,11,13] 0 O (λ_ h=>M0 O) eX$ qL [2,3,4,6,7,10,11,13] 1 O (λ_ h=>M0 O) eX$ qL [3,4,6,7,10,11,13] 2 O (λ_ h=>Mo O) eX$ qL [4,6,7,10,11,13] 3 O (λ_ h=>LV QI O) eX$ qL [6,7,10,11,13] 5 O (λ_ h=>M0 O) eX$ qL [9,10,11,13] 8 O (λ_ h=>Mo O) eX$ qL [10,11,13] 9 O (λ_ h=>LV z3D O) eX$ qL [6,7,10,11,13] 4 O (λ_ h=>Lj U3 O O (h.Lg mX) (z1u hR)) eX$ qL [7,10,11,13] 6 O (λ_ h=>SR O O (by omega)) eX ?_;rw[show(n:Int)-(ref:Int)=((n-ref:Nat):Int) by omega];refine qL [10,11,13] 7 O (λ_ h=>yre O O (by omega)) eX$ qL [11,13] 10 O (λ_ h=>yia zdS Mr O O (by omega)) eX$ qL [13] 11 O (λ_ h=>LM (news:=[.slice a m cp,I (c:Int)]) QP O Mr O (λj u hj=>by rw[(h.Lg mX).cell];exact z86 hR eC j u hj) O) eX ?_;refine N4 (i:=12) (by kernel_rfl)$ Ms (i:=12) O O O (NJ (cs:=[_,_]) Mr O) ?_;rintro _ w3 ⟨b10,rfl,Ai,ah,dc⟩;refine⟨eX.trans ah,?_⟩;refine OY [13]$ qO 13$ M1 (i:=13) O O (M7 (news:=[.slice a m cp,I (c:Int)]) Mr O O O O dc (by simp)) ?_;rintro w4 ⟨aY,av⟩;refine⟨trivial,?_⟩;replace aY:Lq w4 b10 [.slice a m cp,I (c:Int)] 274:=aY;have z23:=ae.size;have z3:=ah.size;have cX:Ext w2 w4:=(ae.trans ah).It av (λi e=>by omega);have z4:=cX.size;have eE:=cX.Lg cu;have bU:=cX.Lg eh;have af:=Ext.LC w4;refine qE$ LS.qb (e:=[(2,_),(7,_),(8,_),(9,_),(10,_)]) ?_;refine run_seq ?_;rcases Nat.eq_zero_or_pos m with c0|c0
  ·refine N7 (λw'=>Kp (λi=>i=b8) w4 w') O$ qT 0 O (λ_ hS=>(by first|exact LM QP O Mr O (Lq.cells (n:=2) (hS.Lg aY (by omega)) (news:=[_,_]) O) O|exact LM QP O Mr O (Lq.cells (n:=2) (hS.Lg bU (by omega)) (news:=[_,_]) O) O)) (af.kp) ?_;refine Ll 1 O (LV Oc O) (af.kp)$ qT 2 O (λ_ hS=>(by first|exact Lj LI O O (hS.Lg aY (by omega)) O|exact Lj LI O O (hS.Lg bU (by omega)) O)) (af.kp) ?_;refine Ll 3 O (Ol LI O) (af.kp)$ Ll 4 O (TN O O) (af.kp)$ PU$ LA 5 O O (af.kp)$ qJ 6 O (af.kp)$ qJ 7 O (af.kp)$ qJ 8 O (af.kp)$ qJ 9 O (af.kp)$ qJ 10 O (af.kp)$ qJ 11 O (af.kp)$ Ll 12 O (Qt O O) (af.kp)$ LA 13 O O (af.kp)$ qJ 14 O (af.kp)$ qJ 15 O (af.kp) ?_;refine Ll 16 O (Qt O O) (af.kp)$ LA 17 O O (af.kp)$ qJ 18 O (af.kp)$ qJ 19 O (af.kp)$ qJ 20 O (af.kp)$ qJ 21 O (af.kp)$ Ll 22 O (Qt O O) (af.kp)$ LA 23 O O (af.kp)$ qJ 24 O (af.kp)$ qJ 25 O (af.kp)$ qJ 26 O (af.kp)$ qJ 27 O (af.kp)$ qJ 28 O (af.kp)$ Ll 29 O (Qt O O) (af.kp) ?_;refine qO 30$ M1 (i:=30) O O (M7 (news:=[.slice a m cp,I (c:Int)]) Mr O O O O (af.Lg eE) (by simp)) ?_;rintro w5 ⟨bI,ak⟩;refine⟨af.kp.trans ak,?_⟩;replace bI:Lq w5 b8 [.slice a m cp,I (c:Int)] 274:=bI;refine Ll 31 O (Ni O) (af.kp.trans ak)$ qE$ LS.qb (e:=[(8,_),(9,_)]) ?_;refine LL Tryz.func159 (.cell QP O Mr O (Lq.cells (n:=2) bI (news:=[_,_]) O) O (.tmp O .nil)) ?_;have aw:PG p m size c=false:=decide_eq_false (λh=>by omega);rw[aw];exact⟨_,rfl,rfl,((aA.trans cX).trans af).It ak (λi e=>by omega)⟩
  ·rcases Nat.lt_or_ge p.most m with c1|c1
   ·refine N7 (λw'=>Kp (λi=>i=b8) w4 w') O$ qT 0 O (λ_ hS=>(by first|exact LM QP O Mr O (Lq.cells (n:=2) (hS.Lg aY (by omega)) (news:=[_,_]) O) O|exact LM QP O Mr O (Lq.cells (n:=2) (hS.Lg bU (by omega)) (news:=[_,_]) O) O)) (af.kp) ?_;refine Ll 1 O (LV Oc O) (af.kp)$ qT 2 O (λ_ hS=>(by first|exact Lj LI O O (hS.Lg aY (by omega)) O|exact Lj LI O O (hS.Lg bU (by omega)) O)) (af.kp) ?_;refine Ll 3 O (Ol LI O) (af.kp)$ Ll 4 O (TN O O) (af.kp)$ Pu$ LA 5 O O (af.kp)$ Ll 6 O (LV Oc O) (af.kp)$ qT 7 O (λ_ hS=>(by first|exact Lj LI O O (hS.Lg aY (by omega)) O|exact Lj LI O O (hS.Lg bU (by omega)) O)) (af.kp) ?_;refine Ll 8 O (Ol LI O) (af.kp)$ Ll 9 O (LV Ph O) (af.kp)$ qT 10 O (λ_ hS=>(by first|exact Lj U3 O O (hS.Lg aY (by omega)) O|exact Lj U3 O O (hS.Lg bU (by omega)) O)) (af.kp) ?_;refine Ll 11 O (Up O O) (af.kp)$ PU$ Ll 12 O (Qy O O) (af.kp)$ LA 13 O O (af.kp)$ qJ 14 O (af.kp)$ qJ 15 O (af.kp)$ Ll 16 O (Qt O O) (af.kp)$ LA 17 O O (af.kp)$ qJ 18 O (af.kp)$ qJ 19 O (af.kp)$ qJ 20 O (af.kp)$ qJ 21 O (af.kp)$ Ll 22 O (Qt O O) (af.kp)$ LA 23 O O (af.kp) ?_;refine qJ 24 O (af.kp)$ qJ 25 O (af.kp)$ qJ 26 O (af.kp)$ qJ 27 O (af.kp)$ qJ 28 O (af.kp)$ Ll 29 O (Qt O O) (af.kp)$ qO 30$ M1 (i:=30) O O (M7 (news:=[.slice a m cp,I (c:Int)]) Mr O O O O (af.Lg eE) (by simp)) ?_;rintro w5 ⟨bI,ak⟩;refine⟨af.kp.trans ak,?_⟩;replace bI:Lq w5 b8 [.slice a m cp,I (c:Int)] 274:=bI;refine Ll 31 O (Ni O) (af.kp.trans ak)$ qE$ LS.qb (e:=[(8,_),(9,_)]) ?_;refine LL Tryz.func159 (.cell QP O Mr O (Lq.cells (n:=2) bI (news:=[_,_]) O) O (.tmp O .nil)) ?_;have aw:PG p m size c=false:=decide_eq_false (λh=>by omega);rw[aw];exact⟨_,rfl,rfl,((aA.trans cX).trans af).It ak (λi e=>by omega)⟩
   ·rcases Nat.eq_zero_or_pos size with c2|c2
    ·refine N7 (λw'=>Kp (λi=>i=b8) w4 w') O$ qT 0 O (λ_ hS=>(by first|exact LM QP O Mr O (Lq.cells (n:=2) (hS.Lg aY (by omega)) (news:=[_,_]) O) O|exact LM QP O Mr O (Lq.cells (n:=2) (hS.Lg bU (by omega)) (news:=[_,_]) O) O)) (af.kp) ?_;refine Ll 1 O (LV Oc O) (af.kp)$ qT 2 O (λ_ hS=>(by first|exact Lj LI O O (hS.Lg aY (by omega)) O|exact Lj LI O O (hS.Lg bU (by omega)) O)) (af.kp) ?_;refine Ll 3 O (Ol LI O) (af.kp)$ Ll 4 O (TN O O) (af.kp)$ Pu$ LA 5 O O (af.kp)$ Ll 6 O (LV Oc O) (af.kp)$ qT 7 O (λ_ hS=>(by first|exact Lj LI O O (hS.Lg aY (by omega)) O|exact Lj LI O O (hS.Lg bU (by omega)) O)) (af.kp) ?_;refine Ll 8 O (Ol LI O) (af.kp)$ Ll 9 O (LV Ph O) (af.kp)$ qT 10 O (λ_ hS=>(by first|exact Lj U3 O O (hS.Lg aY (by omega)) O|exact Lj U3 O O (hS.Lg bU (by omega)) O)) (af.kp) ?_;refine Ll 11 O (Up O O) (af.kp)$ Pu$ Ll 12 O (Qy O O) (af.kp)$ LA 13 O O (af.kp)$ LA 14 O O (af.kp)$ Ll 15 O (TN O O) (af.kp)$ PU$ Ll 16 O (Qy O O) (af.kp)$ LA 17 O O (af.kp)$ qJ 18 O (af.kp)$ qJ 19 O (af.kp)$ qJ 20 O (af.kp)$ qJ 21 O (af.kp)$ Ll 22 O (Qt O O) (af.kp) ?_;refine LA 23 O O (af.kp)$ qJ 24 O (af.kp)$ qJ 25 O (af.kp)$ qJ 26 O (af.kp)$ qJ 27 O (af.kp)$ qJ 28 O (af.kp)$ Ll 29 O (Qt O O) (af.kp)$ qO 30$ M1 (i:=30) O O (M7 (news:=[.slice a m cp,I (c:Int)]) Mr O O O O (af.Lg eE) (by simp)) ?_;rintro w5 ⟨bI,ak⟩;refine⟨af.kp.trans ak,?_⟩;replace bI:Lq w5 b8 [.slice a m cp,I (c:Int)] 274:=bI;refine Ll 31 O (Ni O) (af.kp.trans ak)$ qE$ LS.qb (e:=[(8,_),(9,_)]) ?_;refine LL Tryz.func159 (.cell QP O Mr O (Lq.cells (n:=2) bI (news:=[_,_]) O) O (.tmp O .nil)) ?_;have aw:PG p m size c=false:=decide_eq_false (λh=>by omega);rw[aw];exact⟨_,rfl,rfl,((aA.trans cX).trans af).It ak (λi e=>by omega)⟩
    ·rcases Nat.lt_or_ge p.most size with c3|c3
     ·refine N7 (λw'=>Kp (λi=>i=b8) w4 w') O$ qT 0 O (λ_ hS=>(by first|exact LM QP O Mr O (Lq.cells (n:=2) (hS.Lg aY (by omega)) (news:=[_,_]) O) O|exact LM QP O Mr O (Lq.cells (n:=2) (hS.Lg bU (by omega)) (news:=[_,_]) O) O)) (af.kp) ?_;refine Ll 1 O (LV Oc O) (af.kp)$ qT 2 O (λ_ hS=>(by first|exact Lj LI O O (hS.Lg aY (by omega)) O|exact Lj LI O O (hS.Lg bU (by omega)) O)) (af.kp) ?_;refine Ll 3 O (Ol LI O) (af.kp)$ Ll 4 O (TN O O) (af.kp)$ Pu$ LA 5 O O (af.kp)$ Ll 6 O (LV Oc O) (af.kp)$ qT 7 O (λ_ hS=>(by first|exact Lj LI O O (hS.Lg aY (by omega)) O|exact Lj LI O O (hS.Lg bU (by omega)) O)) (af.kp) ?_;refine Ll 8 O (Ol LI O) (af.kp)$ Ll 9 O (LV Ph O) (af.kp)$ qT 10 O (λ_ hS=>(by first|exact Lj U3 O O (hS.Lg aY (by omega)) O|exact Lj U3 O O (hS.Lg bU (by omega)) O)) (af.kp) ?_;refine Ll 11 O (Up O O) (af.kp)$ Pu$ Ll 12 O (Qy O O) (af.kp)$ LA 13 O O (af.kp)$ LA 14 O O (af.kp)$ Ll 15 O (TN O O) (af.kp)$ Pu$ Ll 16 O (Qy O O) (af.kp)$ LA 17 O O (af.kp)$ LA 18 O O (af.kp)$ Ll 19 O (LV Ph O) (af.kp)$ qT 20 O (λ_ hS=>(by first|exact Lj U3 O O (hS.Lg aY (by omega)) O|exact Lj U3 O O (hS.Lg bU (by omega)) O)) (af.kp) ?_;refine Ll 21 O (Up O O) (af.kp)$ PU$ Ll 22 O (Qy O O) (af.kp)$ LA 23 O O (af.kp)$ qJ 24 O (af.kp)$ qJ 25 O (af.kp)$ qJ 26 O (af.kp)$ qJ 27 O (af.kp)$ qJ 28 O (af.kp)$ Ll 29 O (Qt O O) (af.kp)$ qO 30$ M1 (i:=30) O O (M7 (news:=[.slice a m cp,I (c:Int)]) Mr O O O O (af.Lg eE) (by simp)) ?_;rintro w5 ⟨bI,ak⟩;refine⟨af.kp.trans ak,?_⟩;replace bI:Lq w5 b8 [.slice a m cp,I (c:Int)] 274:=bI;refine Ll 31 O (Ni O) (af.kp.trans ak)$ qE$ LS.qb (e:=[(8,_),(9,_)]) ?_;refine LL Tryz.func159 (.cell QP O Mr O (Lq.cells (n:=2) bI (news:=[_,_]) O) O (.tmp O .nil)) ?_;have aw:PG p m size c=false:=decide_eq_false (λh=>by omega);rw[aw];exact⟨_,rfl,rfl,((aA.trans cX).trans af).It ak (λi e=>by omega)⟩
     ·rcases Nat.lt_or_ge c p.chain with c4|c4
      ·refine N7 (λw'=>Kp (λi=>i=b8) w4 w') O$ qT 0 O (λ_ hS=>(by first|exact LM QP O Mr O (Lq.cells (n:=2) (hS.Lg aY (by omega)) (news:=[_,_]) O) O|exact LM QP O Mr O (Lq.cells (n:=2) (hS.Lg bU (by omega)) (news:=[_,_]) O) O)) (af.kp) ?_;refine Ll 1 O (LV Oc O) (af.kp)$ qT 2 O (λ_ hS=>(by first|exact Lj LI O O (hS.Lg aY (by omega)) O|exact Lj LI O O (hS.Lg bU (by omega)) O)) (af.kp) ?_;refine Ll 3 O (Ol LI O) (af.kp)$ Ll 4 O (TN O O) (af.kp)$ Pu$ LA 5 O O (af.kp)$ Ll 6 O (LV Oc O) (af.kp)$ qT 7 O (λ_ hS=>(by first|exact Lj LI O O (hS.Lg aY (by omega)) O|exact Lj LI O O (hS.Lg bU (by omega)) O)) (af.kp) ?_;refine Ll 8 O (Ol LI O) (af.kp)$ Ll 9 O (LV Ph O) (af.kp)$ qT 10 O (λ_ hS=>(by first|exact Lj U3 O O (hS.Lg aY (by omega)) O|exact Lj U3 O O (hS.Lg bU (by omega)) O)) (af.kp) ?_;refine Ll 11 O (Up O O) (af.kp)$ Pu$ Ll 12 O (Qy O O) (af.kp)$ LA 13 O O (af.kp)$ LA 14 O O (af.kp)$ Ll 15 O (TN O O) (af.kp)$ Pu$ Ll 16 O (Qy O O) (af.kp)$ LA 17 O O (af.kp)$ LA 18 O O (af.kp)$ Ll 19 O (LV Ph O) (af.kp)$ qT 20 O (λ_ hS=>(by first|exact Lj U3 O O (hS.Lg aY (by omega)) O|exact Lj U3 O O (hS.Lg bU (by omega)) O)) (af.kp) ?_;refine Ll 21 O (Up O O) (af.kp)$ Pu$ Ll 22 O (Qy O O) (af.kp)$ LA 23 O O (af.kp)$ Ll 24 O (LV Yg O) (af.kp)$ qT 25 O (λ_ hS=>(by first|exact Lj U3 O O (hS.Lg aY (by omega)) O|exact Lj U3 O O (hS.Lg bU (by omega)) O)) (af.kp) ?_;refine Ll 26 O (LV UH O) (af.kp)$ qT 27 O (λ_ hS=>(by first|exact Lj U3 O O (hS.Lg aY (by omega)) O|exact Lj U3 O O (hS.Lg bU (by omega)) O)) (af.kp) ?_;refine Ll 28 O (Wr O O) (af.kp)$ Pu$ Ll 29 O (Qy O O) (af.kp)$ qO 30$ M1 (i:=30) O O (M7 (news:=[.slice a m cp,I (c:Int)]) Mr O O O O (af.Lg eE) (by simp)) ?_;rintro w5 ⟨bI,ak⟩;refine⟨af.kp.trans ak,?_⟩;replace bI:Lq w5 b8 [.slice a m cp,I (c:Int)] 274:=bI;refine Ll 31 O (Ni O) (af.kp.trans ak)$ qE$ LS.qb (e:=[(8,_),(9,_)]) ?_;refine LL Tryz.func159 (.cell QP O Mr O (Lq.cells (n:=2) bI (news:=[_,_]) O) O (.tmp O .nil)) ?_;have aw:PG p m size c=true:=decide_eq_true ⟨by omega,by omega,by omega,by omega,by omega⟩;rw[aw];exact⟨_,rfl,rfl,((aA.trans cX).trans af).It ak (λi e=>by omega)⟩
      ·refine N7 (λw'=>Kp (λi=>i=b8) w4 w') O$ qT 0 O (λ_ hS=>(by first|exact LM QP O Mr O (Lq.cells (n:=2) (hS.Lg aY (by omega)) (news:=[_,_]) O) O|exact LM QP O Mr O (Lq.cells (n:=2) (hS.Lg bU (by omega)) (news:=[_,_]) O) O)) (af.kp) ?_;refine Ll 1 O (LV Oc O) (af.kp)$ qT 2 O (λ_ hS=>(by first|exact Lj LI O O (hS.Lg aY (by omega)) O|exact Lj LI O O (hS.Lg bU (by omega)) O)) (af.kp) ?_;refine Ll 3 O (Ol LI O) (af.kp)$ Ll 4 O (TN O O) (af.kp)$ Pu$ LA 5 O O (af.kp)$ Ll 6 O (LV Oc O) (af.kp)$ qT 7 O (λ_ hS=>(by first|exact Lj LI O O (hS.Lg aY (by omega)) O|exact Lj LI O O (hS.Lg bU (by omega)) O)) (af.kp) ?_;refine Ll 8 O (Ol LI O) (af.kp)$ Ll 9 O (LV Ph O) (af.kp)$ qT 10 O (λ_ hS=>(by first|exact Lj U3 O O (hS.Lg aY (by omega)) O|exact Lj U3 O O (hS.Lg bU (by omega)) O)) (af.kp) ?_;refine Ll 11 O (Up O O) (af.kp)$ Pu$ Ll 12 O (Qy O O) (af.kp)$ LA 13 O O (af.kp)$ LA 14 O O (af.kp)$ Ll 15 O (TN O O) (af.kp)$ Pu$ Ll 16 O (Qy O O) (af.kp)$ LA 17 O O (af.kp)$ LA 18 O O (af.kp)$ Ll 19 O (LV Ph O) (af.kp)$ qT 20 O (λ_ hS=>(by first|exact Lj U3 O O (hS.Lg aY (by omega)) O|exact Lj U3 O O (hS.Lg bU (by omega)) O)) (af.kp) ?_;refine Ll 21 O (Up O O) (af.kp)$ Pu$ Ll 22 O (Qy O O) (af.kp)$ LA 23 O O (af.kp)$ Ll 24 O (LV Yg O) (af.kp)$ qT 25 O (λ_ hS=>(by first|exact Lj U3 O O (hS.Lg aY (by omega)) O|exact Lj U3 O O (hS.Lg bU (by omega)) O)) (af.kp) ?_;refine Ll 26 O (LV UH O) (af.kp)$ qT 27 O (λ_ hS=>(by first|exact Lj U3 O O (hS.Lg aY (by omega)) O|exact Lj U3 O O (hS.Lg bU (by omega)) O)) (af.kp) ?_;refine Ll 28 O (Wr O O) (af.kp)$ PU$ Ll 29 O (Qy O O) (af.kp)$ qO 30$ M1 (i:=30) O O (M7 (news:=[.slice a m cp,I (c:Int)]) Mr O O O O (af.Lg eE) (by simp)) ?_;rintro w5 ⟨bI,ak⟩;refine⟨af.kp.trans ak,?_⟩;replace bI:Lq w5 b8 [.slice a m cp,I (c:Int)] 274:=bI;refine Ll 31 O (Ni O) (af.kp.trans ak)$ qE$ LS.qb (e:=[(8,_),(9,_)]) ?_;refine LL Tryz.func159 (.cell QP O Mr O (Lq.cells (n:=2) bI (news:=[_,_]) O) O (.tmp O .nil)) ?_;have aw:PG p m size c=false:=decide_eq_false (λh=>by omega);rw[aw];exact⟨_,rfl,rfl,((aA.trans cX).trans af).It ak (λi e=>by omega)⟩
abbrev z2M:List (Value×Nat):=List.replicate 17 (.slice none 0 0,0)
theorem z4O (p:Mq)(hp:p.My)(w:World):LP Tryz.prog 116 [bpV p] w λu w'=>∃k wp F,u= .tuple #[ptr k 0,I 0]/\Lq w' k (Tc p z2M 0 wp 0) 279/\TX w' wp [] F/\¬F k/\Ext w w'/\w.heap.size<=k/\∀i,F i->w.heap.size<=i:=by
 refine Lb (e:=[(0,_)]) Tryz.func116 O Tryz.ntmps116 O O$ qN O$ Lm O O (Nc O (cs:=QV p) O) ?_
 rintro _ w1 ⟨b1,rfl,bR,ad,ai⟩
 have z1:=ad.size
 refine Lw O$ Lk O$ run_seq$ qN O$ qV (LM (news:=QV p) Wq O Nw O (ai.cells (n:=5) O) O)$ LD z97 O (Vs p hp w1) ?_
 rintro _ w2 ⟨rfl,ag⟩
 have z2:=ag.size
 have hg:=Ext.LC w2
 refine Lw O$ qM O$ Le O$ Mu O O$ Lf$ An O$ py$ run_seq$ N7 (λw'=>Ext w2 w') O$ qT 0 O (λ_ hS=>LM (news:=QV p) Wq O Nw O ((hS.Lg (ag.Lg ai)).cells (n:=5) O) O) hg$ OA 1 O WR O (Qk _) ?_
 rintro _ w3 ⟨wp,F,rfl,lF,ah,pf⟩
 refine⟨hg.trans ah,?_⟩
 have ek:=hg.trans ah
 have z3:=ek.size
 refine Ll 2 O (O6 zbG O zbB O O) (hg.trans ah)$ qO 3$ NY (i:=3) O O O (Nc O (cs:=Tc p z2M 0 wp 0) O) ?_
 rintro _ w4 ⟨k,rfl,hk,ay,aF⟩
 refine⟨ek.trans ay,?_⟩
 refine Ll 4 O (Ni O) (ek.trans ay)$ Ll 5 O (Ni O) (ek.trans ay)$ qE$ Lh Tryz.func116 O ?_
 exact⟨_,rfl,k,wp,F,rfl,aF,lF.ext ay,λe=>by have:=lF.lt e;omega,((ad.trans ag).trans ek).trans ay,by omega,λi hi=>by have:=pf i hi;have:=hg.size;omega⟩
structure PkM (w:World)(k:Nat)(p:Mq)(L:List (List Nat))(E:List (Nat×Nat))(bs:List Bool)(F:Nat->Prop)(R:List (Value×Nat))(wp ed:Nat):Prop where
 Lg:Lq w k (Tc p R L.length wp ed) 279
 len:R.length=17
 wr:TX w wp bs F
 nk:¬F k
 el:E.length=L.length
 ok:∀l∈L,LZ l
 ring:∀j l e,L[j]? =some l->E[j]? =some e->L.length<=j+17->∃a cp,R[j%17]? =some (.slice a l.length cp,e.2)/\l.length<=cp/\Sl w (.slice a l.length cp) 46 1 l.length (l.map LO)/\(∀g,(Value.slice a l.length cp).ownBlock=some g->¬F g/\g≠k)
theorem PkM.ext {w w':World}{k:Nat}{p:Mq}{L:List (List Nat)}{E:List (Nat×Nat)}{bs:List Bool}{F:Nat->Prop}{R:List (Value×Nat)}{wp ed:Nat}(h:PkM w k p L E bs F R wp ed)(hx:Ext w w'):PkM w' k p L E bs F R wp ed:=
 ⟨hx.Lg h.Lg,h.len,h.wr.ext hx,h.nk,h.el,h.ok,λj l e h1 h2 h3=>by
  obtain⟨a,cp,g1,g2,g3,g4⟩:=h.ring j l e h1 h2 h3
  exact⟨a,cp,g1,g2,g3.ext hx,g4⟩⟩
def Found (p:Mq)(L:List (List Nat))(E:List (Nat×Nat))(R:List (Value×Nat))(size ref:Nat)(v:Value)(c:Nat):Prop:=
 (ref=0/\v= .slice none 0 0/\c=0)\/(1<=ref/\ref<=p.LJ/\ref<=L.length/\R[(L.length-ref)%17]? =some (v,c)/\∃l e,L[L.length-ref]? =some l/\E[L.length-ref]? =some e/\c=e.2/\PG p l.length size e.2=true)
structure AdM (w:World)(k b2 b3 b7 b8 b4 b9:Nat)(a:Option Addr)(m cp n least ref:Nat)(v:Value)(c:Nat):Prop where
 c2:Lq w b2 [ptr k 0] 225
 c3:Lq w b3 [.slice a m cp] 45
 c7:Lq w b7 [I (n:Int)] 3
 c8:Lq w b8 [I (least:Int)] 3
 c4:Lq w b4 [I (ref:Int)] 3
 c9:Lq w b9 [v,I (c:Int)] 274
theorem AdM.kp {S:Nat->Prop}{w w':World}{k b2 b3 b7 b8 b4 b9:Nat}{a:Option Addr}{m cp n least ref:Nat}{v:Value}{c:Nat}(h:AdM w k b2 b3 b7 b8 b4 b9 a m cp n least ref v c)(hk:Kp S w w')(hn:∀i,S i->i≠b2/\i≠b3/\i≠b7/\i≠b8/\i≠b4/\i≠b9):AdM w' k b2 b3 b7 b8 b4 b9 a m cp n least ref v c:=
 ⟨hk.Lg h.c2 (λe=>(hn _ e).1 O),hk.Lg h.c3 (λe=>(hn _ e).2.1 O),hk.Lg h.c7 (λe=>(hn _ e).2.2.1 O),hk.Lg h.c8 (λe=>(hn _ e).2.2.2.1 O),hk.Lg h.c4 (λe=>(hn _ e).2.2.2.2.1 O),hk.Lg h.c9 (λe=>(hn _ e).2.2.2.2.2 O)⟩
theorem AdM.ext {w w':World}{k b2 b3 b7 b8 b4 b9:Nat}{a:Option Addr}{m cp n least ref:Nat}{v:Value}{c:Nat}(h:AdM w k b2 b3 b7 b8 b4 b9 a m cp n least ref v c)(hk:Ext w w'):AdM w' k b2 b3 b7 b8 b4 b9 a m cp n least ref v c:=h.kp (S:=λ_=>False) hk.kp (λi e=>e.elim)
theorem z8H {w:World}{k:Nat}{p:Mq}(hp:p.My){L:List (List Nat)}{E:List (Nat×Nat)}{bs:List Bool}{F:Nat->Prop}{R:List (Value×Nat)}{wp ed:Nat}(h:PkM w k p L E bs F R wp ed)(hG:Lq w 0 (Og .gamma) 260)(hU:Lq w 1 (Og .unary) 260)(hL:L.length<65536)
  {b2 b3 b7 b8 b4 b9:Nat} {a:Option Addr} {cp least ref:Nat} {v:Value} {c:Nat} {succ:List Nat} (hs:LZ succ) (kH:succ.length<=cp) (dO:Rd w (.slice a succ.length cp) 1 succ.length (succ.map LO)) (hA:AdM w k b2 b3 b7 b8 b4 b9 a succ.length cp L.length least ref v c) (hF:Found p L E R succ.length ref v c)
  (hd:b8≠b2/\b8≠b3/\b8≠b7/\b4≠b2/\b4≠b3/\b4≠b7/\b9≠b2/\b9≠b3/\b9≠b7/\b8≠b4/\b8≠b9/\b4≠b9) (r:Nat) (h1:1<=r) (h2:r<=p.LJ):
  LP Tryz.prog 158 [I (r:Int),ptr b2 0,ptr b3 0,ptr b7 0,ptr b8 0,ptr b4 0,ptr b9 0] w λu w'=>u= .tuple #[]/\Kp (λi=>i=b8\/i=b4\/i=b9) w w'/\∃least' ref' v' c',AdM w' k b2 b3 b7 b8 b4 b9 a succ.length cp L.length least' ref' v' c'/\Found p L E R succ.length ref' v' c':=by
 have vE:p.LJ<=16:=hp.1.1
 obtain⟨a1,c1,m1,e1,vF,Hm⟩:∃a1 c1 m1 e1,(r<=L.length->R[(L.length-r)%17]? =some (.slice a1 m1 c1,e1))/\(r<=L.length->∃l e,L[L.length-r]? =some l/\E[L.length-r]? =some e/\m1=l.length/\e1=e.2/\l.length<=c1/\Sl w (.slice a1 l.length c1) 46 1 l.length (l.map LO)):=by
  by_cases hr:r<=L.length
  ·obtain⟨l,hl⟩:∃l,L[L.length-r]? =some l:=⟨_,List.getElem?_eq_getElem (by omega)⟩;obtain⟨e,he⟩:∃e,E[L.length-r]? =some e:=⟨_,List.getElem?_eq_getElem (by have:=h.el;omega)⟩;obtain⟨a1,c1,g1,g2,g3,g4⟩:=h.ring _ l e hl he (by omega);exact⟨a1,c1,l.length,e.2,λ_=>g1,λ_=>⟨l,e,hl,he,rfl,rfl,g2,g3⟩⟩
  ·exact⟨none,0,0,0,λe=>absurd e hr,λe=>absurd e hr⟩
 have dM:=hA.c2
 have lH:=hA.c3
 have hg:=Ext.LC w
 have lI:∀{w2:World},Lq w2 k (Tc p R L.length wp ed) 279->∀j u,(QV p)[j]? =some u->w2.cell? ⟨k,0+j,none⟩=some u:=λhB j u hj=>hB.cells (i:=0) (n:=5) (news:=QV p) O j u hj
 refine Lb (e:=[(0,_),(1,_),(2,_),(3,_),(4,_),(5,_),(6,_)]) Tryz.func158 O Tryz.ntmps158 O O$ run_seq$ M6 (λe' w'=>∃tb v1 d1 ok,e'=[(0,I (r:Int)),(1,ptr b2 0),(2,ptr b3 0),(3,ptr b7 0),(4,ptr b8 0),(5,ptr b4 0),(6,ptr b9 0),(8,ptr tb 0),(9,.bool ok)]/\Ext w w'/\w.heap.size<=tb/\Lq w' tb [v1,I ((d1:Nat):Int)] 274/\(ok=true->r<=L.length/\v1= .slice a1 m1 c1/\d1=e1/\PG p m1 succ.length e1=true)) ?cD$ λcD=>?cQ
 case cD=>
  rintro e' w1 ⟨tb,v1,d1,ok,rfl,ad,Hh,vG,aw⟩;have kA:=hA.ext ad;have og:=kA.c2;have m9:=kA.c3;have zf:=kA.c7;have Fa:=kA.c8;refine run_seq$ qN O$ Le O$ qV ((by first|exact Mh O|exact NL O)) ?_;refine Lf$ Mg O (λh3=>?_)$ λh3=>?_
  ·refine Lh Tryz.func158 O ?_;exact⟨_,rfl,rfl,ad.kp,_,_,_,_,kA,hF⟩
  ·have Bl:ok=true:=by cases ok<;>simp_all
   obtain⟨Bm,rfl,rfl,gp⟩:=aw Bl;obtain⟨l,e,hl,he,rfl,rfl,gE,Hn⟩:=Hm Bm;have Bn:=vF Bm;have Bo:LZ l:=h.ok l (List.mem_of_getElem? hl);have aJ:=Ext.LC w1;refine py$ run_seq$ N7 (λw'=>Ext w1 w') O$ qT 0 O (λ_ h=>(by first|exact Lj U3 O O (h.Lg og) O|exact Lj U3 O O (h.Lg m9) O|exact Lj U3 O O (h.Lg zf) O|exact Lj U3 O O (h.Lg vG) O)) aJ ?_;refine qT 1 O (λ_ h=>(by first|exact Lj LI O O (h.Lg og) O|exact Lj LI O O (h.Lg m9) O|exact Lj LI O O (h.Lg zf) O|exact Lj LI O O (h.Lg vG) O)) aJ ?_;refine Ll 2 O (LV Oc O) aJ$ qT 3 O (λ_ h=>(by first|exact Lj LI O O (h.Lg og) O|exact Lj LI O O (h.Lg m9) O|exact Lj LI O O (h.Lg zf) O|exact Lj LI O O (h.Lg vG) O)) aJ ?_;refine LA 4 O O (aJ)$ qT 5 O (λ_ h=>(by first|exact Lj NG O O (h.Lg og) O|exact Lj NG O O (h.Lg m9) O|exact Lj NG O O (h.Lg zf) O|exact Lj NG O O (h.Lg vG) O)) aJ ?_;refine Ll 6 O (Mo O) aJ$ Ll 7 O (LV Sc O) aJ$ qT 8 O (λ_ hS=>LM (news:=QV p) Wq O Nw O (lI (hS.Lg (ad.Lg h.Lg))) O) aJ$ OA 9 O WM O (OI p _) ?_;rintro _ w9 ⟨rfl,eI⟩;refine⟨aJ.trans eI,?_⟩;have gH:=aJ.trans eI;have fV:=ad.trans gH;refine OA 10 O ZZ O (QY p.list hp.1 L.length hL succ l hs Bo r h2 (λe=>by omega) (fV.Lg hG) (fV.Lg hU) (dO.ext fV) (Hn.rd.ext fV) kH gE) ?_;rintro _ w10 ⟨rfl,bC⟩;refine⟨gH.trans bC,?_⟩;have fW:=gH.trans bC;have lu:=kA.ext fW;have Bp:=lu.c8;have Bq:=fW.Lg vG
   generalize (LG (Nr p.list L.length succ l r)).length=nb
   refine LA 11 O O (gH.trans bC)$ Ll 12 O (Nq O O) (gH.trans bC)$ Ll 13 O (Nq O O) (gH.trans bC)$ Ll 14 O (Ni O) (gH.trans bC)$ Ll 15 O (Ni O) (gH.trans bC)$ qE$ LS.qb (e:=[(0,_),(4,_),(5,_),(6,_),(8,_),(10,_)]) ?_;refine qN O$ Le O$ qV (Lj U3 O O Bp O)$ Mw O O$ Lf$ Lp O (λh4=>?_)$ λh4=>?_
   ·have jM:=Ext.LC w10;have gU:=lu.ext jM;have lb8:=hA.c8.lt;have lb4:=hA.c4.lt;have lb9:=hA.c9.lt;have Ho:¬(tb=b8\/tb=b4\/tb=b9):=by omega
    refine N7 (λw'=>Kp (λi=>i=b8\/i=b4\/i=b9) w10 w') O$ LA 0 O O (jM.kp)$ LA 1 O O (jM.kp)$ qT 2 O (λ_ h=>LM QP O Mr O (Lq.cells (n:=2) (h.Lg Bq Ho) (news:=[_,_]) O) O) (jM.kp)$ qO 3$ M1 (i:=3) O O (MY Md O O O gU.c8 (by simp)) ?_;rintro w11 ⟨aH,bA⟩;refine⟨jM.kp.trans (bA.Lv λi e=> .inl e),?_⟩;have qu:Kp (λi=>i=b8\/i=b4\/i=b9) w10 w11:=jM.kp.trans (bA.Lv λi e=> .inl e);have Hp:=bA.Lg gU.c4 (λe=>hd.2.2.2.2.2.2.2.2.2.1 e.symm);refine qO 4$ M1 (i:=4) O O (MY Md O O O Hp (by simp)) ?_;rintro w12 ⟨bz,aS⟩;refine⟨qu.trans (aS.Lv λi e=> .inr (.inl e)),?_⟩;have vH:Kp (λi=>i=b8\/i=b4\/i=b9) w10 w12:=qu.trans (aS.Lv λi e=> .inr (.inl e));have Hq:=aS.Lg (bA.Lg gU.c9 (λe=>hd.2.2.2.2.2.2.2.2.2.2.1 e.symm)) (λe=>hd.2.2.2.2.2.2.2.2.2.2.2 e.symm);refine qO 5$ M1 (i:=5) O O (M7 (news:=[.slice a1 l.length c1,I (e.2:Int)]) Mr O O O O Hq (by simp)) ?_;rintro w13 ⟨dp,df⟩;refine⟨vH.trans (df.Lv λi e=> .inr (.inr e)),?_⟩;replace dp:Lq w13 b9 [.slice a1 l.length c1,I (e.2:Int)] 274:=dp;replace bz:Lq w12 b4 [I (r:Int)] 3:=bz;replace aH:Lq w11 b8 [I (nb:Int)] 3:=aH;refine qE$ ME Tryz.func158 O ?_;obtain⟨d1,d2,d3,d4,d5,d6,d7,d8,d9,d10,d11,d12⟩:=hd;have jd:∀{b:Nat} {cs:List Value} {T:TypeId},Lq w10.drew b cs T->b8≠b->b4≠b->b9≠b->Lq w13 b cs T:=λhB n1 n2 n3=>df.Lg (aS.Lg (bA.Lg hB (λe=>n1 e.symm)) (λe=>n2 e.symm)) (λe=>n3 e.symm);refine⟨_,rfl,rfl,?_,nb,r,.slice a1 l.length c1,e.2,⟨jd gU.c2 d1 d4 d7,jd gU.c3 d2 d5 d8,jd gU.c7 d3 d6 d9,df.Lg (aS.Lg aH d10) d11,df.Lg bz d12,dp⟩,.inr ⟨h1,h2,Bm,Bn,l,e,hl,he,rfl,gp⟩⟩;exact((ad.trans fW).trans jM).kp.trans ((bA.Lv λi e=> .inl e).trans ((aS.Lv λi e=> .inr (.inl e)).trans (df.Lv λi e=> .inr (.inr e))))
   ·refine py$ ME Tryz.func158 O ?_;exact⟨_,rfl,rfl,(ad.trans fW).kp,_,_,_,_,lu,hF⟩
 case cQ=>
  rcases Nat.lt_or_ge L.length r with aV|iH
  ·have au:=hg;refine LH [15] (λw'=>Ext w w') (by kernel_rfl) O$ qL [1,2,10,11,12,13,15,16] 0 O (λ_ h=>(by first|exact Lj NG O O (h.Lg dM) O|exact Lj NG O O (h.Lg lH) O)) au ?_;refine qL [2,10,11,12,13,15,16] 1 O (λ_ h=>Mo O) au$ qL [10,11,12,13,15,16] 2 O (λ_ h=>LV U0 O) au$ qL [10,11,12,13,15,16] 3 O (λ_ h=>M0 O) au$ qL [5,10,11,12,13,15,16] 4 O (λ_ h=>(by first|exact Lj LI O O (h.Lg dM) O|exact Lj LI O O (h.Lg lH) O)) au ?_;refine qL [10,11,12,13,15,16] 5 O (λ_ h=>Ol LI O) au$ qL [7,8,9,10,11,12,13,15,16] 6 O (λ_ h=>(by first|exact Lj NG O O (h.Lg dM) O|exact Lj NG O O (h.Lg lH) O)) au ?_;refine qL [8,9,10,11,12,13,15,16] 7 O (λ_ h=>Mo O) au$ qL [9,10,11,12,13,15,16] 8 O (λ_ h=>LV Sc O) au$ qL [10,11,12,13,15,16] 9 O (λ_ hS=>LM (news:=QV p) Wq O Nw O (lI (hS.Lg h.Lg)) O) au$ SL (i:=10) (j:=14) (by kernel_rfl) ?_ ?_
   ·refine ND (i:=10) O O O (yc z2E O) (Se (au.Lg h.Lg) h.len (by omega) hp r succ.length h1 h2 vF) ?_;rintro _ w10 ⟨gC,bC⟩;refine⟨au.trans bC,?_⟩;rw[if_neg (by omega)] at gC;subst gC
    try have de:=bC.Lg de
    have au:=au.trans bC;refine qL [12,13,15,16] 11 O (λ_ h=>M0 O) au$ qL [15,16] 12 O (λ_ h=>Nq O O) au$ Mk (i:=13) O (by kernel_rfl) O O (λ_=>Nq O O) au$ N4 (i:=14) (by kernel_rfl)$ Ms (i:=14) O O O (NJ (cs:=[_,_]) Mr O) ?_;rintro _ w14 ⟨tb,rfl,mU,bV,de⟩;refine⟨au.trans bV,?_⟩;have jN:w.heap.size<=tb:=by have:=au.size;omega
    have au:=au.trans bV;refine OY [15]$ qO 15$ M1 (i:=15) O O (M7 (news:=[.slice none 0 0,I ((0:Nat):Int)]) Mr O O O O de (by simp)) ?_;rintro w15 ⟨dR,jO⟩;refine⟨trivial,?_⟩;refine Ll 16 O (Ni O) trivial$ qE ?_;exact(cD _ _ ⟨tb,.slice none 0 0,0,false,rfl,au.It jO (λi e=>by omega),jN,dR,λe=>by cases e⟩).qb
   ·refine Ms (i:=14) O O O (NJ (cs:=[_,_]) Mr O) ?_;rintro _ w14 ⟨tb,rfl,mU,bV,de⟩;refine⟨au.trans bV,?_⟩;have jN:w.heap.size<=tb:=by have:=au.size;omega
    have au:=au.trans bV;refine N4 (i:=10) (by kernel_rfl)$ ND (i:=10) O O O (yc z2E O) (Se (au.Lg h.Lg) h.len (by omega) hp r succ.length h1 h2 vF) ?_;rintro _ w10 ⟨gC,bC⟩;refine⟨au.trans bC,?_⟩;rw[if_neg (by omega)] at gC;subst gC
    try have de:=bC.Lg de
    have au:=au.trans bC;refine qL [12,13,15,16] 11 O (λ_ h=>M0 O) au$ qL [15,16] 12 O (λ_ h=>Nq O O) au$ Mk (i:=13) O (by kernel_rfl) O O (λ_=>Nq O O) au$ OY [15]$ qO 15$ M1 (i:=15) O O (M7 (news:=[.slice none 0 0,I ((0:Nat):Int)]) Mr O O O O de (by simp)) ?_;rintro w15 ⟨dR,jO⟩;refine⟨trivial,?_⟩;refine Ll 16 O (Ni O) trivial$ qE ?_;exact(cD _ _ ⟨tb,.slice none 0 0,0,false,rfl,au.It jO (λi e=>by omega),jN,dR,λe=>by cases e⟩).qb
  ·have au:=hg;refine LH [15] (λw'=>Ext w w') (by kernel_rfl) O$ qL [1,2,10,11,12,13,15,16] 0 O (λ_ h=>(by first|exact Lj NG O O (h.Lg dM) O|exact Lj NG O O (h.Lg lH) O)) au ?_;refine qL [2,10,11,12,13,15,16] 1 O (λ_ h=>Mo O) au$ qL [10,11,12,13,15,16] 2 O (λ_ h=>LV U0 O) au$ qL [10,11,12,13,15,16] 3 O (λ_ h=>M0 O) au$ qL [5,10,11,12,13,15,16] 4 O (λ_ h=>(by first|exact Lj LI O O (h.Lg dM) O|exact Lj LI O O (h.Lg lH) O)) au ?_;refine qL [10,11,12,13,15,16] 5 O (λ_ h=>Ol LI O) au$ qL [7,8,9,10,11,12,13,15,16] 6 O (λ_ h=>(by first|exact Lj NG O O (h.Lg dM) O|exact Lj NG O O (h.Lg lH) O)) au ?_;refine qL [8,9,10,11,12,13,15,16] 7 O (λ_ h=>Mo O) au$ qL [9,10,11,12,13,15,16] 8 O (λ_ h=>LV Sc O) au$ qL [10,11,12,13,15,16] 9 O (λ_ hS=>LM (news:=QV p) Wq O Nw O (lI (hS.Lg h.Lg)) O) au$ SL (i:=10) (j:=14) (by kernel_rfl) ?_ ?_
   ·refine ND (i:=10) O O O (yc z2E O) (Se (au.Lg h.Lg) h.len (by omega) hp r succ.length h1 h2 vF) ?_;rintro _ w10 ⟨gC,bC⟩;refine⟨au.trans bC,?_⟩;rw[if_pos iH] at gC;subst gC
    try have de:=bC.Lg de
    have au:=au.trans bC;refine qL [12,13,15,16] 11 O (λ_ h=>M0 O) au$ qL [15,16] 12 O (λ_ h=>Nq O O) au$ Mk (i:=13) O (by kernel_rfl) O O (λ_=>Nq O O) au$ N4 (i:=14) (by kernel_rfl)$ Ms (i:=14) O O O (NJ (cs:=[_,_]) Mr O) ?_;rintro _ w14 ⟨tb,rfl,mU,bV,de⟩;refine⟨au.trans bV,?_⟩;have jN:w.heap.size<=tb:=by have:=au.size;omega
    have au:=au.trans bV;refine OY [15]$ qO 15$ M1 (i:=15) O O (M7 (news:=[.slice a1 m1 c1,I ((e1:Nat):Int)]) Mr O O O O de (by simp)) ?_;rintro w15 ⟨dR,jO⟩;refine⟨trivial,?_⟩;refine Ll 16 O (Ni O) trivial$ qE ?_;exact(cD _ _ ⟨tb,.slice a1 m1 c1,e1,PG p m1 succ.length e1,rfl,au.It jO (λi e=>by omega),jN,dR,λe=>⟨iH,rfl,rfl,e⟩⟩).qb
   ·refine Ms (i:=14) O O O (NJ (cs:=[_,_]) Mr O) ?_;rintro _ w14 ⟨tb,rfl,mU,bV,de⟩;refine⟨au.trans bV,?_⟩;have jN:w.heap.size<=tb:=by have:=au.size;omega
    have au:=au.trans bV;refine N4 (i:=10) (by kernel_rfl)$ ND (i:=10) O O O (yc z2E O) (Se (au.Lg h.Lg) h.len (by omega) hp r succ.length h1 h2 vF) ?_;rintro _ w10 ⟨gC,bC⟩;refine⟨au.trans bC,?_⟩;rw[if_pos iH] at gC;subst gC
    try have de:=bC.Lg de
    have au:=au.trans bC;refine qL [12,13,15,16] 11 O (λ_ h=>M0 O) au$ qL [15,16] 12 O (λ_ h=>Nq O O) au$ Mk (i:=13) O (by kernel_rfl) O O (λ_=>Nq O O) au$ OY [15]$ qO 15$ M1 (i:=15) O O (M7 (news:=[.slice a1 m1 c1,I ((e1:Nat):Int)]) Mr O O O O de (by simp)) ?_;rintro w15 ⟨dR,jO⟩;refine⟨trivial,?_⟩;refine Ll 16 O (Ni O) trivial$ qE ?_;exact(cD _ _ ⟨tb,.slice a1 m1 c1,e1,PG p m1 succ.length e1,rfl,au.It jO (λi e=>by omega),jN,dR,λe=>⟨iH,rfl,rfl,e⟩⟩).qb
def MG (L:List (List Nat))(n r:Nat):List Nat:=if r=0 then [] else(L[n-r]?).getD []
def Vw (p:Mq)(L:List (List Nat))(E:List (Nat×Nat))(n size:Nat)(e:Nat×Nat):Prop:=
 e=(0,0)\/(1<=e.1/\e.1<=p.LJ/\e.1<=n/\∃l e',L[n-e.1]? =some l/\E[n-e.1]? =some e'/\e.2=e'.2+1/\PG p l.length size e'.2=true)
theorem zaz {j n:Nat}(h1:j<n)(h2:n+1<=j+17):j%17≠n%17:=by omega
theorem PkM.add {w wA wB wC wD wE wF:World}{k:Nat}{p:Mq}{L:List (List Nat)}{E:List (Nat×Nat)}{bs bs':List Bool}{F F':Nat->Prop}{R:List (Value×Nat)}{wp ed b4:Nat}(h:PkM w k p L E bs F R wp ed)(kK:Ext w wA)(iM:Kp F wA wB)(zh:TX wB wp bs' F')(ph:∀i,F' i->F i\/wA.heap.size<=i)
  {a':Option Addr} {cp' ch r:Nat} {succ:List Nat} (hs:LZ succ) (Br:Ext wB wC) (tV:Sl wC (.slice a' succ.length cp') 46 1 succ.length (succ.map LO)) (si:succ.length<=cp') (cK:∀g,(Value.slice a' succ.length cp').ownBlock=some g->wB.heap.size<=g)
  (fk:Kp (λi=>i=k) wC wD) (oa:Kp (λi=>i=k) wD wE) (sj:Kp (λi=>i=b4) wE wF) (gn:w.heap.size<=b4) (Hr:b4<wA.heap.size) (Bs:Lq wF k (Tc p (R.set (L.length%17) (.slice a' succ.length cp',ch)) (L.length+1) wp (ed+succ.length)) 279):
  PkM wF k p (L++[succ]) (E++[(r,ch)]) bs' F' (R.set (L.length%17) (.slice a' succ.length cp',ch)) wp (ed+succ.length)/\Kp (λi=>F i\/i=k) w wF/\∀i,F' i->F i\/w.heap.size<=i:=by
 have lk:=h.Lg.lt
 have zA:=kK.size
 have zB:=iM.size
 have ju:∀i,F i->i<w.heap.size:=λi hi=>h.wr.lt hi
 have mY:∀i,F' i->i<wB.heap.size:=λi hi=>zh.lt hi
 have sk:¬F' k:=λe=>by rcases ph k e with e|e;exact h.nk e;omega
 have Bt:¬F' b4:=λe=>by rcases ph b4 e with e|e;(have:=ju _ e;omega);omega
 have Bu:∀{v:Value} {n:Nat} {cs:List Value},Sl w v 46 1 n cs->(∀g,v.ownBlock=some g->¬F g/\g≠k)->Sl wF v 46 1 n cs:=λhS hg=>
  ((((((hS.ext kK).kp iM (λg e=>(hg g e).1)).ext Br).kp fk (λg e=>(hg g e).2)).kp oa (λg e=>(hg g e).2)).kp sj (λg e e'=>by have:=hS.lt e;omega))
 have Hs:=((tV.kp fk (λg e e'=>by have:=cK g e;omega)).kp oa (λg e e'=>by have:=cK g e;omega)).kp sj (λg e e'=>by have:=cK g e;omega)
 refine⟨⟨by rw[List.length_append,List.length_singleton];exact Bs,by rw[List.length_set];exact h.len,(((zh.ext Br).kp fk (λi hi e=>sk (e▸hi))).kp oa (λi hi e=>sk (e▸hi))).kp sj (λi hi e=>Bt (e▸hi)),sk,by rw[List.length_append,List.length_append,h.el];rfl,λl hl=>?_,λj l e h1 h2 h3=>?_⟩,?_,λi hi=>?_⟩
 ·rcases List.mem_append.1 hl with hl|hl
  ·exact h.ok l hl
  ·rw[List.mem_singleton.1 hl];exact hs
 ·rw[List.length_append,List.length_singleton] at h3;rcases Nat.lt_or_ge j L.length with hj|hj
  ·rw[List.getElem?_append_left hj] at h1;rw[List.getElem?_append_left (by rw[h.el];exact hj)] at h2;obtain⟨a,cp,g1,g2,g3,g4⟩:=h.ring j l e h1 h2 (by omega);refine⟨a,cp,?_,g2,Bu g3 g4,λg hg=>⟨λe'=>?_,(g4 g hg).2⟩⟩
   ·rw[List.getElem?_set_ne (λe'=>zaz hj (by omega) e'.symm)];exact g1
   ·rcases ph g e' with e'|e'
    ·exact(g4 g hg).1 e'
    ·have:=g3.lt hg;omega
  ·have vI:=(List.getElem?_eq_some_iff.1 h1).1;rw[List.length_append,List.length_singleton] at vI;have ej:j=L.length:=by omega
   subst ej;rw[List.getElem?_append_right (Nat.le_refl _),Nat.sub_self,List.getElem?_cons_zero] at h1;rw[List.getElem?_append_right (by rw[h.el];exact Nat.le_refl _),h.el,Nat.sub_self,List.getElem?_cons_zero] at h2;cases h1;cases h2;refine⟨a',cp',List.getElem?_set_self (by rw[h.len];exact Nat.mod_lt _ (by decide)),si,Hs,λg hg=>⟨λe'=>?_,λe'=>?_⟩⟩
   ·have:=cK g hg;have:=mY g e';omega
   ·have:=cK g hg;omega
 ·exact((((kK.kp.trans (iM.Lv λi e=> .inl e)).trans Br.kp).trans (fk.Lv λi e=> .inr e)).trans (oa.Lv λi e=> .inr e)).It sj (λi e=> .inl (by omega))
 ·rcases ph i hi with e| e
  ·exact .inl e
  ·exact .inr (by omega)
theorem z4P {w:World}{k:Nat}{p:Mq}(hp:p.My){L:List (List Nat)}{E:List (Nat×Nat)}{bs:List Bool}{F:Nat->Prop}{R:List (Value×Nat)}{wp ed:Nat}(h:PkM w k p L E bs F R wp ed)(hG:Lq w 0 (Og .gamma) 260)(hU:Lq w 1 (Og .unary) 260)(hL:L.length<65536)
  {a:Option Addr} {cp:Nat} {succ:List Nat} (hs:LZ succ) (kH:succ.length<=cp) (dO:Rd w (.slice a succ.length cp) 1 succ.length (succ.map LO)) (zi:ed+succ.length<=1048576) (Ht:∀g,0<succ.length->(Value.slice a succ.length cp).ownBlock=some g->¬F g/\g≠k)
  (mZ:∀r,r<=p.LJ->bs.length+(LG (Nr p.list L.length succ (MG L L.length r) r)).length<=134217728):
  LP Tryz.prog 118 [ptr k 0,.slice a succ.length cp] w λu w'=>∃(r least ch:Nat) (F':Nat->Prop) (R':List (Value×Nat)),u= .tuple #[I (r:Int),I (least:Int),I 0]/\Vw p L E L.length succ.length (r,ch)/\
   PkM w' k p (L++[succ]) (E++[(r,ch)]) (bs++LG (Nr p.list L.length succ (MG L L.length r) r)) F' R' wp (ed+succ.length)/\Kp (λi=>F i\/i=k) w w'/\∀i,F' i->F i\/w.heap.size<=i:=by
 have vE:p.LJ<=16:=hp.1.1
 have lk:=h.Lg.lt
 have lI:∀{w2:World},Lq w2 k (Tc p R L.length wp ed) 279->∀j u,(QV p)[j]? =some u->w2.cell? ⟨k,0+j,none⟩=some u:=λhB j u hj=>hB.cells (i:=0) (n:=5) (news:=QV p) O j u hj
 refine Lb (e:=[(0,_),(1,_)]) Tryz.func118 O Tryz.ntmps118 O O$ qN O$ Lm O O (Nc O (cs:=[ptr k 0]) O) ?_
 rintro _ w1 ⟨b2,rfl,c6,ad,am⟩
 refine Lm O O (Nc O (cs:=[.slice a succ.length cp]) O) ?_
 rintro _ w2 ⟨b3,rfl,eB,ag,aq⟩
 refine Lm O O (NJ (cs:=[_]) Md O) ?_
 rintro _ w3 ⟨b4,rfl,gn,ah,aF⟩
 have z1:=ad.size
 have z2:=ag.size
 have z3:=ah.size
 have lb2:=am.lt
 have lb3:=aq.lt
 have lb4:=aF.lt
 have db:=(ad.trans ag).trans ah
 have cS:=ah.Lg (ag.Lg am)
 have dl:=ah.Lg aq
 have mX:=db.Lg h.Lg
 replace aF:Lq w3 b4 [I ((0:Nat):Int)] 3:=aF
 refine Lw O$ Lk O$ run_seq$ Lc$ qN O$ qV ((by first|exact Lj NG O O cS O|exact Lj NG O O dl O)) ?_
 refine qV (Ml NG O O)$ Lk O$ An O$ qN O$ qV ((by first|exact Lj NG O O cS O|exact Lj NG O O dl O)) ?_
 refine LU O$ Lt U0 O$ Lt QI O$ qV (Lj U3 O O mX (z1u h.len))$ Pa O O$ M5$ Lk O$ An O$ py$ Ld$ qN O$ qV ((by first|exact Lj NG O O cS O|exact Lj NG O O dl O)) ?_
 refine LU O$ Lt U0 O$ Lt QI O$ qV (Lj U3 O O mX (z1u h.len))$ Lm O O (NJ (cs:=[_]) Md O) ?_
 rintro _ w4 ⟨b7,rfl,kW,ay,bJ⟩
 have z4:=ay.size
 have lb7:=bJ.lt
 refine Ls O (MY Md O O O bJ (by simp)) ?_
 rintro w5 ⟨gF,ak⟩
 replace gF:Lq w5 b7 [I (L.length:Int)] 3:=gF
 have cm:Ext w3 w5:=ay.It ak (λi e=>by omega)
 have bK:=db.trans cm
 have z5:=cm.size
 have z45:=ak.size
 have vJ:=bK.Lg h.Lg
 have dq:=cm.Lg cS
 have cy:=cm.Lg dl
 have aM:=cm.Lg aF
 have dY:=Ext.LC w5
 refine Lf$ run_seq$ M6 (λe' w'=>∃b8 least,e'=[(2,ptr b2 0),(3,ptr b3 0),(4,ptr b4 0),(7,ptr b7 0),(8,ptr b8 0),(6,I 0)]/\Ext w5 w'/\w5.heap.size<=b8/\Lq w' b8 [I ((least:Nat):Int)] 3) ?cD$ λcD=>?cQ
 case cD =>
  rintro e' w6 ⟨b8,least0,rfl,aK,ja,cu⟩;have z6:=aK.size;have lb8:=cu.lt;have ie:=bK.trans aK;have Bv:=aK.Lg vJ;have gX:=aK.Lg dq;have jA:=aK.Lg cy;have dw:=Ext.LC w6;refine run_seq$ Lc$ qN O$ Le O$ Mu O O$ Lk O$ An O$ run_seq$ N7 (λw'=>Ext w6 w') O$ qT 0 O (λ_ h=>(by first|exact Lj NG O O (h.Lg gX) O|exact Lj NG O O (h.Lg jA) O)) dw ?_;refine Ll 1 O (Mo O) dw$ Ll 2 O (LV Yw O) dw$ qT 4 O (λ_ h=>(by first|exact Lj LI O O (h.Lg gX) O|exact Lj LI O O (h.Lg jA) O)) dw ?_;refine Ll 5 O (Ol LI O) dw$ qT 3 O (λ_ hS=>Lj U3 O O (hS.Lg Bv) (zbR h.len)) dw$ Ll 6 O (Qu O O (by omega)) dw$ Ll 7 O (TN O O) dw$ PU$ Ll 8 O (Ni O) dw$ qE$ An O$ py$ Ld$ qN O ?_;have zg6:=dw.size;refine Lm O O (NJ (cs:=[_,_]) Mr O) ?_;rintro _ w7 ⟨b9,rfl,mz,cg,cM⟩;have lb9:=cM.lt;have fX:=dw.trans cg;have jw:=ie.trans fX;have pi:=aK.trans fX;have z7:=jw.size;have z67:=fX.size;have Bw:=jw.Lg h.Lg;have yR:AdM w7 k b2 b3 b7 b8 b4 b9 a succ.length cp L.length least0 0 (.slice none 0 0) 0:=⟨fX.Lg gX,fX.Lg jA,pi.Lg gF,fX.Lg cu,pi.Lg aM,cM⟩;have hd:b8≠b2/\b8≠b3/\b8≠b7/\b4≠b2/\b4≠b3/\b4≠b7/\b9≠b2/\b9≠b3/\b9≠b7/\b8≠b4/\b8≠b9/\b4≠b9:=by omega
  refine qM O$ qV (Z9 (first:=[]) (caps:=[.tmp 2,.tmp 3,.tmp 7,.tmp 8,.tmp 4,.tmp 9]) O O)$ Lk O$ run_seq$ qN O ?_;have Bx:=yR.c2;refine qV (Lj NG O O Bx O)$ LU O$ Lt Sc O$ Lt Xe O$ qV (Lj U3 O O Bw O)$ Le O$ Lf$ LS.qb (e:=[(2,_),(3,_),(4,_),(6,_),(7,_),(8,_),(9,_),(10,_),(58,_),(59,_)]) ?_;refine Lc$ Nj (α:=Nat) (0) (λi=>[(2,ptr b2 0),(3,ptr b3 0),(4,ptr b4 0),(7,ptr b7 0),(8,ptr b8 0),(9,ptr b9 0),(10,.func (.func 158) #[] #[ptr b2 0,ptr b3 0,ptr b7 0,ptr b8 0,ptr b4 0,ptr b9 0]),(58,I (p.LJ:Int)),(59,I (i:Int))]) (λi w'=>Ext w w'/\w7.heap.size<=w'.heap.size/\i<=p.LJ/\∃least ref v c,AdM w' k b2 b3 b7 b8 b4 b9 a succ.length cp L.length least ref v c/\Found p L E R succ.length ref v c) (λi=>p.LJ-i) ?hI ?hround
  case hI=>exact⟨jw,Nat.le_refl _,Nat.zero_le _,_,_,_,_,yR,.inl ⟨rfl,rfl,rfl⟩⟩
  case hround=>
   rintro i wA ⟨kK,Kz,hi,least,ref,v,c,hA,hF⟩ ih
   try dsimp only
   refine qN O$ Mw O O$ Lf$ run_seq$ Lp O (λh0=>?_)$ λh0=>?_
   ·refine py$ run_seq$ Lc$ qN O$ Le O$ Lk O$ Li O$ Lu O O$ Mb O O ?_;rw[show(i:Int)+1=((i+1:Nat):Int) by omega];refine MK O O (NW zd2 O O) (z8H hp (h.ext kK) (kK.Lg hG) (kK.Lg hU) hL hs kH (dO.ext kK) hA hF hd (i+1) (by omega) (by omega)) ?_;rintro _ w9 ⟨rfl,aP,least',ref',v',c',ql,Hu⟩;have z9:=aP.size;refine Lf$ Ld$ Li O$ Mb O O$ Le O$ Lf ?_;exact(ih (i+1) _ ⟨kK.It aP (λi hi=>by omega),by omega,by omega,_,_,_,_,ql,Hu⟩ (by omega)).qb
   ·have cV:∀b,w.heap.size<=b->¬F b:=λb hb e=>by have:=h.wr.lt e;omega
    have sn:=kK.Lg h.Lg
    have yO:ref<=p.LJ/\(ref=0->MG L L.length ref=[])/\LZ (MG L L.length ref)/\(∃va vc,v= .slice va (MG L L.length ref).length vc/\(MG L L.length ref).length<=vc/\Rd wA (.slice va (MG L L.length ref).length vc) 1 (MG L L.length ref).length ((MG L L.length ref).map LO))/\Vw p L E L.length succ.length (ref,if 0<ref then c+1 else 0)/\c<=65536:=by
     rcases hF with⟨rfl,rfl,rfl⟩|⟨f1,f2,f3,f4,l,e,f5,f6,rfl,f8⟩
     ·refine⟨Nat.zero_le _,λ_=>rfl,⟨List.Pairwise.nil,λy h=>(by cases h)⟩,⟨none,0,rfl,Nat.zero_le _,QX⟩,.inl rfl,Nat.zero_le _⟩
     ·have jj:MG L L.length ref=l:=by unfold MG;rw[if_neg (by omega),f5];rfl
      obtain⟨va,vc,g1,g2,g3,g4⟩:=h.ring _ l e f5 f6 (by omega);rw[f4] at g1;have gv:v= .slice va l.length vc:=(Prod.mk.inj (ML g1)).1;have hb:=of_decide_eq_true f8;have Hv:=hp.2.1;rw[jj];exact⟨f2,λe=>by omega,h.ok l (List.mem_of_getElem? f5),⟨va,vc,gv,g2,(g3.ext kK).rd⟩,.inr ⟨f1,f2,f3,l,e,f5,f6,by dsimp only;rw[if_pos (by omega)],f8⟩,by omega⟩
    obtain⟨cZ,dP,cd,⟨va,vc,rfl,bH,cb⟩,gI,Hw⟩:=yO;have Bz:=mZ ref cZ
    generalize BA:MG L L.length ref=lr at dP cd bH cb Bz hA
    have ln:=hA.c2;have mI:=hA.c3;have lJ:=hA.c7;have jP:=hA.c9;have jQ:=hA.c4;have BB:=hA.c8;have jR:=Ext.LC wA;refine Ln O$ run_seq$ run_seq$ N7 (λw'=>Kp F wA w') O$ qT 0 O (λ_ hS=>(by first|exact Lj NG O O (hS.Lg ln (cV _ (by omega))) O|exact Lj NG O O (hS.Lg mI (cV _ (by omega))) O|exact Lj NG O O (hS.Lg lJ (cV _ (by omega))) O|exact Lj NG O O (hS.Lg jP (cV _ (by omega))) O|exact Lj NG O O (hS.Lg jQ (cV _ (by omega))) O)) (jR.kp) ?_;refine Ll 1 O (Mo O) (jR.kp)$ Ll 2 O (LV YM O) (jR.kp)$ qT 4 O (λ_ hS=>(by first|exact Lj U3 O O (hS.Lg ln (cV _ (by omega))) O|exact Lj U3 O O (hS.Lg mI (cV _ (by omega))) O|exact Lj U3 O O (hS.Lg lJ (cV _ (by omega))) O|exact Lj U3 O O (hS.Lg jP (cV _ (by omega))) O|exact Lj U3 O O (hS.Lg jQ (cV _ (by omega))) O)) (jR.kp) ?_;refine qT 5 O (λ_ hS=>(by first|exact Lj LI O O (hS.Lg ln (cV _ (by omega))) O|exact Lj LI O O (hS.Lg mI (cV _ (by omega))) O|exact Lj LI O O (hS.Lg lJ (cV _ (by omega))) O|exact Lj LI O O (hS.Lg jP (cV _ (by omega))) O|exact Lj LI O O (hS.Lg jQ (cV _ (by omega))) O)) (jR.kp) ?_;refine Ll 6 O (LV Oc O) (jR.kp)$ qT 7 O (λ_ hS=>(by first|exact Lj LI O O (hS.Lg ln (cV _ (by omega))) O|exact Lj LI O O (hS.Lg mI (cV _ (by omega))) O|exact Lj LI O O (hS.Lg lJ (cV _ (by omega))) O|exact Lj LI O O (hS.Lg jP (cV _ (by omega))) O|exact Lj LI O O (hS.Lg jQ (cV _ (by omega))) O)) (jR.kp) ?_;refine qT 8 O (λ_ hS=>(by first|exact Lj U3 O O (hS.Lg ln (cV _ (by omega))) O|exact Lj U3 O O (hS.Lg mI (cV _ (by omega))) O|exact Lj U3 O O (hS.Lg lJ (cV _ (by omega))) O|exact Lj U3 O O (hS.Lg jP (cV _ (by omega))) O|exact Lj U3 O O (hS.Lg jQ (cV _ (by omega))) O)) (jR.kp) ?_;refine qT 9 O (λ_ hS=>(by first|exact Lj NG O O (hS.Lg ln (cV _ (by omega))) O|exact Lj NG O O (hS.Lg mI (cV _ (by omega))) O|exact Lj NG O O (hS.Lg lJ (cV _ (by omega))) O|exact Lj NG O O (hS.Lg jP (cV _ (by omega))) O|exact Lj NG O O (hS.Lg jQ (cV _ (by omega))) O)) (jR.kp) ?_;refine Ll 10 O (Mo O) (jR.kp)$ Ll 11 O (LV Sc O) (jR.kp)$ qT 3 O (λ_ hS=>Lj YY O O (hS.Lg sn h.nk) (zaj h.len)) (jR.kp)$ qT 12 O (λ_ hS=>LM (news:=QV p) Wq O Nw O (lI (hS.Lg sn h.nk)) O) (jR.kp)$ OA 13 O WM O (OI p _) ?_;rintro _ w9 ⟨rfl,eI⟩;refine⟨(jR.trans eI).kp,?_⟩;have lK:=jR.trans eI;have fV:=kK.trans lK;refine OA 14 O z9R O (Vj (h.wr.ext fV) p.list hp.1 L.length hL succ lr hs cd ref cZ dP (fV.Lg hG) (fV.Lg hU) (dO.ext fV) (cb.ext lK) kH bH Bz) ?_;rintro _ wB ⟨rfl,F',zh,iM,ph⟩;refine⟨lK.kp.trans iM,?_⟩;have ig:Kp F wA wB:=lK.kp.trans iM;have BC:∀i,F' i->F i\/wA.heap.size<=i:=λi hi=>(ph i hi).imp id (λe=>by have:=lK.size;omega);have vK:=ig.Lg jQ (cV _ (by omega))
    have vL:=ig.Lg jP (cV _ (by omega));have sq:=ig.Lg ln (cV _ (by omega));have sr:=ig.Lg mI (cV _ (by omega));have BD:=ig.Lg BB (cV _ (by omega));have BE:=ig.Lg sn h.nk;have zAB:=ig.size;have BF:Rd wB (.slice a succ.length cp) 1 succ.length (succ.map LO):=(dO.ext kK).kpz ig (λh0 g hg=>(Ht g h0 hg).1);refine Ll 15 O (Ni O) (lK.kp.trans iM)$ qE$ LS.qb (e:=[(2,_),(3,_),(4,_),(8,_),(9,_),(12,_)]) ?_;refine qN O$ Le O$ Mu O O$ Lf$ An O$ py$ qN O$ Lk O$ run_seq$ qN O$ qV ((by first|exact Lj U3 O O vK O|exact Lj U3 O O vL O)) ?_;refine MH O O$ Lf$ M6 (λe' w'=>e'=[(2,ptr b2 0),(3,ptr b3 0),(4,ptr b4 0),(8,ptr b8 0),(13,I ((if 0<ref then c+1 else 0:Nat):Int))]/\w'=wB) ?au$ λau=>?dz
    case au=>
     rintro e' wB' ⟨rfl,rfl⟩
     generalize (if 0<ref then c+1 else 0)=ch at gI
     have pj:=Ext.LC wB';have BG:∀i,i<wB'.heap.size->¬(Value.slice none 0 0).ownBlock=some i:=λi _ e=>by cases e
     refine run_seq$ N7 (λw'=>Kp (λi=>i=k) wB' w') O$ qT 0 O (λ_ hS=>(by first|exact Lj NG O O (hS.Lg sq (by omega)) O|exact Lj NG O O (hS.Lg sr (by omega)) O)) (pj.kp) ?_;refine Ll 1 O (Mo O) (pj.kp)$ Ll 2 O (LV U0 O) (pj.kp)$ qT 3 O (λ_ hS=>(by first|exact Lj LI O O (hS.Lg sq (by omega)) O|exact Lj LI O O (hS.Lg sr (by omega)) O)) (pj.kp) ?_;refine LA 5 O O (pj.kp)$ qO 4$ NY (i:=4) O O O (pap LI Lz O (by decide) O O (Sl.nil _ _ _) (BF.ext pj) (YF _) (by omega) (by simp only[maxLen];omega)) ?_;rintro v' wC ⟨tV,jg,Hx,-⟩;refine⟨pj.kp.trans (jg.Lv λi e=>by cases e),?_⟩;have jS:Ext wB' wC:=pj.trans ((Ext.refl _).It jg (λi e=>by cases e));rw[Nat.zero_add,List.nil_append] at tV;obtain⟨a',cp',rfl,-⟩:=tV.rd.shape
     have si:succ.length<=cp':=by
      rcases tV.shape with⟨e,h0⟩|⟨g,c1,hv,dv⟩
      ·omega
      ·cases hv;exact dv
     have vM:∀g,(Value.slice a' succ.length cp').ownBlock=some g->wB'.heap.size<=g:=λg hg=>by
      rcases Hx g hg with e| e
      ·cases e
      ·have:=pj.size;omega
     have BH:=jS.Lg BE;refine OA 6 O zej O (z7A BH h.len (by omega) a' succ.length cp' ch) ?_;rintro _ wD ⟨rfl,Fb,fk⟩;refine⟨jS.kp.trans fk,?_⟩;have cH:(R.set (L.length%17) (.slice a' succ.length cp',ch)).length=17:=by rw[List.length_set];exact h.len
     have vN:=fk.Lg (jS.Lg sq) (by omega);have vO:=fk.Lg (jS.Lg sr) (by omega);have BI:=fk.Lg (jS.Lg vK) (by omega);have BJ:=fk.Lg (jS.Lg BD) (by omega);have na:=Ext.LC wD;refine qE$ run_seq$ LH [9] (λw'=>Ext wD w') (by kernel_rfl) O$ qL [1,2,3,6,7,8,9] 0 O (λ_ h=>(by first|exact Lj NG O O (h.Lg vN) O|exact Lj NG O O (h.Lg vO) O)) na ?_;refine qL [2,3,6,7,8,9] 1 O (λ_ h=>Mo O) na$ qL [3,6,7,8,9] 2 O (λ_ h=>LV Yw O) na$ qL [5,6,7,8,9] 4 O (λ_ h=>(by first|exact Lj LI O O (h.Lg vN) O|exact Lj LI O O (h.Lg vO) O)) na ?_;refine qL [6,7,8,9] 5 O (λ_ h=>Ol LI O) na$ qL [6,7,8,9] 3 O (λ_ h=>Lj U3 O O (h.Lg Fb) (zbR cH)) na$ qL [7,8,9] 6 O (λ_ h=>Qu O O (by omega)) na$ qL [8,9] 7 O (λ_ h=>Mo O) na$ qL [9] 8 O (λ_ h=>LV Yw O) na$ OY [9]$ qO 9$ M1 (i:=9) O O (MY Md O O O (na.Lg Fb) (by rw[z1T cH];decide)) ?_;rintro wE ⟨zj,BK⟩;refine⟨trivial,?_⟩;replace zj:Lq wE k ((Tc p (R.set (L.length%17) (.slice a' succ.length cp',ch)) (L.length+1) wp ed).set 41 (I ((ed+succ.length:Nat):Int))) 279:=zj;rw[z7N cH] at zj;have oa:Kp (λi=>i=k) wD wE:=na.kp.trans BK;have ss:=oa.Lg BI (by omega);have vP:=oa.Lg BJ (by omega);have pn:=Ext.LC wE;refine qE$ run_seq$ N7 (λw'=>Kp (λi=>i=b4) wE w'/\Lq w' b4 [I (ref:Int)] 3) O$ qT 0 O (λ_ hS=>(by first|exact Lj U3 O O hS.2 O|exact Lj U3 O O (hS.1.Lg vP (by omega)) O)) (⟨pn.kp,pn.Lg ss⟩) ?_;refine qT 1 O (λ_ hS=>(by first|exact Lj U3 O O hS.2 O|exact Lj U3 O O (hS.1.Lg vP (by omega)) O)) (⟨pn.kp,pn.Lg ss⟩) ?_;refine qO 2$ M1 (i:=2) O O (MY Md O O O (pn.Lg ss) (by simp)) ?_;rintro wF ⟨lL,po⟩;refine⟨⟨pn.kp.trans po,lL⟩,?_⟩;replace lL:Lq wF b4 [I (ref:Int)] 3:=lL;have sj:Kp (λi=>i=b4) wE wF:=pn.kp.trans po;have Bs:=sj.Lg zj (by omega);refine Ll 3 O (Ni O) (⟨pn.kp.trans po,lL⟩)$ Ll 4 O (Ni O) (⟨pn.kp.trans po,lL⟩)$ qE$ LS.qb (e:=[(4,_),(5,_),(6,_)]) ?_;refine LL Tryz.func118 (.cell1 U3 O O ((lL).cell _) (.tmp O (.tmp O .nil))) ?_;obtain⟨q1,q2,q3⟩:=h.add (r:=ref) kK ig zh BC hs jS tV si vM fk oa sj (by omega) (by omega) Bs;exact⟨_,rfl,ref,least,ch,F',_,rfl,gI,by rw[BA];exact q1,q2,q3⟩
    case dz=>
     refine Lp O (λh5=>?_)$ λh5=>?_
     ·refine Li O$ Lt Yg O$ qV (Lj U3 O O vL O)$ Mb O O$ Lk O ?_;rw[show(c:Int)+1=((if 0<ref then c+1 else 0:Nat):Int) by rw[if_pos (by omega)];omega];exact(au _ _ ⟨rfl,rfl⟩).qb
     ·refine py ?_;have iS:(if 0<ref then c+1 else 0)=0:=if_neg (by omega);exact(au _ _ ⟨by rw[iS],rfl⟩).qb
 case cQ=>
  have au:=dY;refine LH [12] (λw'=>Ext w5 w') (by kernel_rfl) O$ qL [7,8,9,10,12,13] 0 O (λ_ h=>(by first|exact Lj U3 O O (h.Lg dq) O|exact Lj U3 O O (h.Lg cy) O|exact Lj U3 O O (h.Lg gF) O)) au ?_;refine qL [7,8,9,10,12,13] 1 O (λ_ h=>(by first|exact Lj LI O O (h.Lg dq) O|exact Lj LI O O (h.Lg cy) O|exact Lj LI O O (h.Lg gF) O)) au ?_;refine qL [3,4,5,6,7,8,9,10,12,13] 2 O (λ_ h=>(by first|exact Lj NG O O (h.Lg dq) O|exact Lj NG O O (h.Lg cy) O|exact Lj NG O O (h.Lg gF) O)) au ?_;refine qL [4,5,6,7,8,9,10,12,13] 3 O (λ_ h=>Mo O) au$ qL [5,6,7,8,9,10,12,13] 4 O (λ_ h=>LV Sc O) au$ qL [6,7,8,9,10,12,13] 5 O (λ_ h=>LM (news:=QV p) Wq O Nw O (lI (h.Lg vJ)) O) au$ SL (i:=6) (j:=11) (by kernel_rfl) ?_ ?_
  ·refine ND (i:=6) O O O (yc WM O) (OI p _) ?_;rintro _ w6 ⟨rfl,aK⟩;refine⟨au.trans aK,?_⟩
   try have aH:=aK.Lg aH
   have au:=au.trans aK;refine SL (i:=7) (j:=11) (by kernel_rfl) ?_ ?_
   ·refine ND (i:=7) O O O (yc ZZ O) (QY p.list hp.1 L.length hL succ [] hs ⟨List.Pairwise.nil,λy h=>(by cases h)⟩ 0 (Nat.zero_le _) (λ_=>rfl) ((bK.trans au).Lg hG) ((bK.trans au).Lg hU) (dO.ext (bK.trans au)) QX kH (Nat.zero_le _)) ?_;rintro _ w7 ⟨rfl,cg⟩;refine⟨au.trans cg,?_⟩
    try have aH:=cg.Lg aH
    have au:=au.trans cg;refine qL [9,10,12,13] 8 O (λ_ h=>M0 O) au$ qL [12,13] 9 O (λ_ h=>Nq O O) au$ Mk (i:=10) O (by kernel_rfl) O O (λ_=>Nq O O) au$ N4 (i:=11) (by kernel_rfl)$ Ms (i:=11) O O O (NJ (cs:=[_]) Md O) ?_;rintro _ w11 ⟨b8,rfl,iL,aQ,aH⟩;refine⟨au.trans aQ,?_⟩;have ng:w5.heap.size<=b8:=by have:=au.size;omega
    have au:=au.trans aQ;refine OY [12]$ qO 12$ M1 (i:=12) O O (MY Md O O O aH (by simp)) ?_;rintro w12 ⟨bz,aS⟩;refine⟨trivial,?_⟩;refine Ll 13 O (Ni O) trivial$ qE$ LS.qb (e:=[(2,_),(3,_),(4,_),(5,_),(6,_),(7,_),(8,_)]) ?_;exact(cD _ _ ⟨b8,_,rfl,au.It aS (λi e=>by omega),ng,bz⟩).qb
   ·refine Ms (i:=11) O O O (NJ (cs:=[_]) Md O) ?_;rintro _ w11 ⟨b8,rfl,iL,aQ,aH⟩;refine⟨au.trans aQ,?_⟩;have ng:w5.heap.size<=b8:=by have:=au.size;omega
    have au:=au.trans aQ;refine N4 (i:=7) (by kernel_rfl)$ ND (i:=7) O O O (yc ZZ O) (QY p.list hp.1 L.length hL succ [] hs ⟨List.Pairwise.nil,λy h=>(by cases h)⟩ 0 (Nat.zero_le _) (λ_=>rfl) ((bK.trans au).Lg hG) ((bK.trans au).Lg hU) (dO.ext (bK.trans au)) QX kH (Nat.zero_le _)) ?_;rintro _ w7 ⟨rfl,cg⟩;refine⟨au.trans cg,?_⟩
    try have aH:=cg.Lg aH
    have au:=au.trans cg;refine qL [9,10,12,13] 8 O (λ_ h=>M0 O) au$ qL [12,13] 9 O (λ_ h=>Nq O O) au$ Mk (i:=10) O (by kernel_rfl) O O (λ_=>Nq O O) au$ OY [12]$ qO 12$ M1 (i:=12) O O (MY Md O O O aH (by simp)) ?_;rintro w12 ⟨bz,aS⟩;refine⟨trivial,?_⟩;refine Ll 13 O (Ni O) trivial$ qE$ LS.qb (e:=[(2,_),(3,_),(4,_),(5,_),(6,_),(7,_),(8,_)]) ?_;exact(cD _ _ ⟨b8,_,rfl,au.It aS (λi e=>by omega),ng,bz⟩).qb
  ·refine Ms (i:=11) O O O (NJ (cs:=[_]) Md O) ?_;rintro _ w11 ⟨b8,rfl,iL,aQ,aH⟩;refine⟨au.trans aQ,?_⟩;have ng:w5.heap.size<=b8:=by have:=au.size;omega
   have au:=au.trans aQ;refine N4 (i:=6) (by kernel_rfl)$ ND (i:=6) O O O (yc WM O) (OI p _) ?_;rintro _ w6 ⟨rfl,aK⟩;refine⟨au.trans aK,?_⟩
   try have aH:=aK.Lg aH
   have au:=au.trans aK;refine N4 (i:=7) (by kernel_rfl)$ ND (i:=7) O O O (yc ZZ O) (QY p.list hp.1 L.length hL succ [] hs ⟨List.Pairwise.nil,λy h=>(by cases h)⟩ 0 (Nat.zero_le _) (λ_=>rfl) ((bK.trans au).Lg hG) ((bK.trans au).Lg hU) (dO.ext (bK.trans au)) QX kH (Nat.zero_le _)) ?_;rintro _ w7 ⟨rfl,cg⟩;refine⟨au.trans cg,?_⟩
   try have aH:=cg.Lg aH
   have au:=au.trans cg;refine qL [9,10,12,13] 8 O (λ_ h=>M0 O) au$ qL [12,13] 9 O (λ_ h=>Nq O O) au$ Mk (i:=10) O (by kernel_rfl) O O (λ_=>Nq O O) au$ OY [12]$ qO 12$ M1 (i:=12) O O (MY Md O O O aH (by simp)) ?_;rintro w12 ⟨bz,aS⟩;refine⟨trivial,?_⟩;refine Ll 13 O (Ni O) trivial$ qE$ LS.qb (e:=[(2,_),(3,_),(4,_),(5,_),(6,_),(7,_),(8,_)]) ?_;exact(cD _ _ ⟨b8,_,rfl,au.It aS (λi e=>by omega),ng,bz⟩).qb
section
variable {w:World}{k:Nat}{p:Mq}{L:List (List Nat)}{E:List (Nat×Nat)}{bs:List Bool}{F:Nat->Prop}{R:List (Value×Nat)}{wp ed:Nat}
theorem z18 (h:PkM w k p L E bs F R wp ed)(hl:bs.length<=9223372036854775):LP Tryz.prog 119 [ptr k 0] w λu w'=>u=I (bs.length:Int)/\Ext w w':=by
 refine Lb (e:=[(0,_)]) Tryz.func119 O Tryz.ntmps119 O O ?_
 have hg:=Ext.LC w
 refine qN O$ Lk O$ run_seq$ qN O$ Le O$ qV (Ml NG O O)$ Lf$ An O$ py$ run_seq$ N7 (λw'=>Ext w w') O$ LA 0 O O (hg)$ Ll 1 O (Mo O) hg$ Ll 2 O (LV z7I O) hg ?_
 refine LA 4 O O (hg)$ Ll 5 O (Mo O) hg$ Ll 6 O (LV YM O) hg$ qT 3 O (λ_ hS=>Lj U3 O O (hS.Lg h.Lg) (zfy h.len)) hg$ qT 7 O (λ_ hS=>Lj YY O O (hS.Lg h.Lg) (zaj h.len)) hg$ OA 8 O Y9 O (R1 (h.wr.ext hg)) ?_
 rintro _ w1 ⟨rfl,rfl⟩
 refine⟨hg,?_⟩
 refine Ll 9 O (Qu O O (by omega)) hg$ Ll 10 O (Ni O) hg$ qE ?_
 rw[show(0:Int)+(bs.length:Int)=(bs.length:Int) by omega]
 refine Lh Tryz.func119 O ?_
 exact⟨_,rfl,rfl,hg⟩
theorem z1F (h:PkM w k p L E bs F R wp ed):LP Tryz.prog 120 [ptr k 0] w λu w'=>u= .tuple #[S (LK bs),I 0]/\w'=w:=by
 refine Lb (e:=[(0,_)]) Tryz.func120 O Tryz.ntmps120 O O$ qN O$ Lw O$ Lk O$ run_seq$ qN O$ Le O$ qV (Ml NG O O)$ Lf$ An O$ py$ qN O$ Le O$ LU O ?_
 refine Lt YM O$ qV (Lj YY O O h.Lg (zaj h.len))$ LD z3a O (Sd h.wr) ?_
 rintro _ w1 ⟨rfl,rfl⟩
 refine Mp O O$ Mp O O$ Lw O$ Lk O$ Lh Tryz.func120 O ?_
 exact⟨_,rfl,rfl,rfl⟩
end
structure GrM (w:World)(v:Value)(g:List (List Nat)):Prop where
 ex:∃vs:List Value,Rd w v 1 g.length vs/\∀(i:Nat) (l:List Nat),g[i]? =some l->∃(a:Option Addr) (c:Nat),vs[i]? =some (Value.slice a l.length c)/\l.length<=c/\Rd w (.slice a l.length c) 1 l.length (l.map LO)
theorem GrM.ext {w w':World}{v:Value}{g:List (List Nat)}(h:GrM w v g)(hx:Ext w w'):GrM w' v g:=by
 obtain⟨vs,h1,h2⟩:=h.ex
 refine⟨vs,h1.ext hx,λi l hl=>?_⟩
 obtain⟨a,c,g1,g2,g3⟩:=h2 i l hl
 exact⟨a,c,g1,g2,g3.ext hx⟩
structure Nu (g:List (List Nat)):Prop where
 ok:∀l∈g,LZ l
 lt:∀l∈g,∀y∈l,y<g.length
 n:g.length<=60
theorem Nu.len {g:List (List Nat)}(h:Nu g){l:List Nat}(hl:l∈g):l.length<=g.length:=by
 have:=YQ l 0 g.length (h.ok l hl).Uq (λy hy=>⟨Nat.zero_le _,h.lt l hl y hy⟩) (Nat.zero_le _)
 omega
def Mv (g:List (List Nat)):Nat:=(g.map List.length).sum
theorem Ti (g:List (List Nat))(l:List Nat):Mv (g++[l])=Mv g+l.length:=by simp[Mv]
theorem z6E {g:List (List Nat)}{n:Nat}(h:∀l∈g,l.length<=n):Mv g<=g.length*n:=by
 induction g with
 |nil=>simp[Mv]
 | cons l g ih =>
   have h1:=ih (λm hm=>h m (List.mem_cons_of_mem _ hm));have h2:=h l List.mem_cons_self;show(l.length::g.map List.length).sum<=_;rw[List.sum_cons,List.length_cons,Nat.add_mul];have e:Mv g=(g.map List.length).sum:=rfl;omega
theorem PB {g:List (List Nat)}(h:Nu g)(i:Nat):Mv (g.take i)<=3600:=by
 have h1:Mv (g.take i)<=(g.take i).length*60:=z6E (λl hl=>by have:=h.len (List.mem_of_mem_take hl);have:=h.n;omega)
 have h2:(g.take i).length<=60:=by rw[List.length_take];have:=h.n;omega
 omega
theorem z0h {w:World}{ga:Option Addr}{gc:Nat}{g:List (List Nat)}(h:GrM w (.slice ga g.length gc) g)(hg:Nu g):LP Tryz.prog 117 [.slice ga g.length gc] w λu w'=>u= .bool true/\w'=w:=by
 have hn:=hg.n
 obtain⟨vs,fj,jf⟩:=h.ex
 refine Lb (e:=[(0,_)]) Tryz.func117 O Tryz.ntmps117 O O$ qN O$ Lw O$ qM O$ Lk O$ run_seq$ qN O$ Le O$ Nd Qq O$ Le O$ Lf$ Lc$ Nj (α:=Nat) (0) (λi=>[(0,.slice ga g.length gc),(3,I (Mv (g.take i):Int)),(8,.slice ga g.length gc),(9,I (g.length:Int)),(10,I (i:Int))]) (λi w'=>w'=w/\i<=g.length) (λi=>g.length-i) ?hI ?hround
 case hI=>exact⟨rfl,Nat.zero_le _⟩
 case hround =>
  rintro i w4 ⟨rfl,hi⟩ ih;have oh:=PB hg i
  try dsimp only
  refine qN O$ Mw O O$ Lf$ run_seq$ Lp O (λh0=>?_)$ λh0=>?_
  ·have dB:i<g.length:=by omega
   obtain⟨l,hl⟩:∃l,g[i]? =some l:=⟨_,List.getElem?_eq_getElem dB⟩;have gZ:=List.mem_of_getElem? hl;have dN:=hg.len gZ;obtain⟨a,c,e1,e2,e3⟩:=jf i l hl
   obtain⟨gb,go,gc',e4⟩:∃b o c',Value.slice ga g.length gc= .slice (some ⟨b,o,none⟩) g.length c':=by
    rcases fj.2 with⟨c,hc,h0⟩|⟨b,off,c',hc,-⟩
    ·omega
    ·exact⟨b,off,c',hc⟩
   cases e4;refine py$ run_seq$ Lc$ qN O$ qV (M9 Qq O2 O O (by omega))$ qV (LN LI O O (Mn fj e1))$ Lw O$ qM O$ Lu O O$ Nd LI O$ Mb O O$ Lw O$ qM O$ Le O ?_;refine Nd LI O$ Le O$ Lf$ Lc ?_;have zi:=Ti (g.take i) l;rw[<-M4 hl] at zi;rw[show(Mv (g.take i):Int)+(l.length:Int)=(Mv (g.take (i+1)):Int) by omega];refine Nj (α:=Nat) (0) (λj=>[(0,.slice (some ⟨gb,go,none⟩) g.length gc),(3,I (Mv (g.take (i+1)):Int)),(5,.slice a l.length c),(8,.slice (some ⟨gb,go,none⟩) g.length gc),(9,I (g.length:Int)),(10,I (i:Int)),(18,.slice a l.length c),(19,I (l.length:Int)),(20,I (j:Int))]) (λj w'=>w'=w4/\j<=l.length) (λj=>l.length-j) ?hI ?hround
   case hI=>exact⟨rfl,Nat.zero_le _⟩
   case hround=>
    rintro j w5 ⟨rfl,hj⟩ ih2
    try dsimp only
    refine qN O$ Mw O O$ Lf$ run_seq$ Lp O (λh1=>?_)$ λh1=>?_
    ·have ky:j<l.length:=by omega
     obtain⟨y,hy⟩:∃y,l[j]? =some y:=⟨_,List.getElem?_eq_getElem ky⟩;have qf:=hg.lt l gZ y (List.mem_of_getElem? hy)
     obtain⟨lb,lo,lc,e5⟩:∃b o c',Value.slice a l.length c= .slice (some ⟨b,o,none⟩) l.length c':=by
      rcases e3.2 with⟨c,hc,h0⟩|⟨b,off,c',hc,-⟩
      ·omega
      ·exact⟨b,off,c',hc⟩
     cases e5;refine py$ run_seq$ Lc$ qN O$ Le O$ qV (M9 LI Lz O O (by omega))$ qV (LN Mx O O (Mn e3 (show(l.map LO)[j]? =some (LO y) by rw[List.getElem?_map,hy];rfl))) ?_;refine Lw O$ Lw O$ qM O$ Le O$ qV (M3 O Mx U3 (by omega))$ Le O$ Nd Qq O$ Pa O O$ M5$ Le O ?_;rcases Nat.eq_zero_or_pos j with Hy|Hy
     ·refine Le O$ MH O O$ M5$ Le O$ qS$ qS$ qS$ qS$ qS$ qS$ qS$ M8 O O$ M8 O O$ Lf ?_;refine An O$ py$ Ld$ Li O$ Mb O O$ Le O$ Lf ?_;exact(ih2 (j+1) _ ⟨rfl,by omega⟩ (by omega)).qb
     ·obtain⟨z,hz⟩:∃z,l[j-1]? =some z:=⟨_,List.getElem?_eq_getElem (by omega)⟩
      have KA:z<y:=by
       obtain⟨a1,a2⟩:=List.getElem?_eq_some_iff.1 hz;obtain⟨b1,b2⟩:=List.getElem?_eq_some_iff.1 hy;have:=List.pairwise_iff_getElem.1 (hg.ok l gZ).Uq (j-1) j a1 b1 (by omega)
       rwa [a2,b2] at this
      refine Le O$ MH O O$ Ns$ Lu O O$ Lu O O$ Np O O ?_;rw[show(j:Int)-1=((j-1:Nat):Int) by omega];refine qV (M9 LI Lz O O (by omega))$ qV (LN Mx O O (Mn e3 (show(l.map LO)[j-1]? =some (LO z) by rw[List.getElem?_map,hz];rfl))) ?_;refine zle O O$ M5$ MU O O$ M8 O O$ Lf$ An O$ py$ Ld$ Li O$ Mb O O$ Le O$ Lf ?_;exact(ih2 (j+1) _ ⟨rfl,by omega⟩ (by omega)).qb
    ·refine Ln O$ Ld$ Li O$ Mb O O$ Le O$ Lf ?_;exact(ih (i+1) _ ⟨rfl,by omega⟩ (by omega)).qb
  ·refine Ln O$ qN O$ Le O$ Nd Qq O$ zle O O$ Ns$ Lu O O$ zle O O$ Ns$ MU O O$ Lk O$ Lh Tryz.func117 O ?_;exact⟨_,rfl,rfl,rfl⟩
/-! ### How many bits -/
theorem T2.YB {k:Nat}{q:Cd×Nat}(h:T2 k q)(hk:1<=k/\k<=16):(q.1.enc q.2).length<=112:=by
 obtain⟨h1,h2⟩:=h.My hk
 obtain⟨-,q2,-⟩:=Sq h1 h2
 rw[Sj]
 rcases h with⟨e,h⟩|⟨e,h⟩|⟨e,h⟩
 ·rw[e] at q2⊢;show q.2+1+_<=_;omega
 ·have:=(Ri (v:=q.2) (by omega)).2.2;rw[e] at q2⊢;show Nat.log2 (q.2+1)+1+_<=_;omega
 ·have h3:=(Ri (v:=q.2) (by omega)).2.2;have h4:Nat.log2 (q.2+1) / k<=Nat.log2 (q.2+1):=Nat.div_le_self _ _;rw[e] at q2⊢;show Nat.log2 (q.2+1) / k+1+_<=_;omega
theorem XZ {n:Nat}{L:List (Cd×Nat)}(h:∀q∈L,(q.1.enc q.2).length<=n):(LG L).length<=L.length*n:=by
 induction L with
 |nil=>simp[LG]
 | cons q L ih =>
   have h1:=ih (λq hq=>h q (List.mem_cons_of_mem _ hq));have h2:=h q List.mem_cons_self;rw[Mf,List.length_append,List.length_cons,Nat.add_mul];omega
theorem XT (least:Nat){l:List Nat}(h:LZ l):(rowsN least l).1.length<=l.length:=by
 have h1:=(Pq least l).length_eq
 rw[List.length_append] at h1
 have h4:∀(R:List (Nat×Nat)) (lo:Nat),OE least lo R->R.length<=(MQ R).length:=by
  intro R
  induction R with
  |nil=>intro lo h;exact Nat.le_refl _
  | cons q R ih =>
    intro lo h;have h5:=ih _ h.2.2.2;have h6:1<=q.2:=h.2.1;rw[show MQ (q::R)=(List.range q.2).map (q.1+·)++MQ R from rfl,List.length_append,List.length_map,List.length_range,List.length_cons];omega
 have h5:=h4 _ 0 (QH least l 0 h.Uq (λy _=>Nat.zero_le _))
 omega
theorem UP {p:NT}(hp:p.My){x:Nat}(hx:x<65536){succ ref:List Nat}(hs:LZ succ)(hr:LZ ref){r:Nat}(iP:r<=p.LJ)(Hz:succ.length<=60)(yJ:ref.length<=60):(LG (Nr p x succ ref r)).length<=44800:=by
 have aw:LZ (leftOf succ ref):=hs.sub List.filter_sublist
 have dN:(leftOf succ ref).length<=succ.length:=List.length_filter_le _ _
 have h1:=(OM succ ref).WC
 rw[List.length_map] at h1
 have h2:=XT p.interval aw
 have h3:=(Q5 p.interval (leftOf succ ref)).length_le
 have aD:(Nr p x succ ref r).length<=400:=by
  unfold Nr;rw[List.length_cons];split
  ·simp
  rw[List.length_append,List.length_append];have e1:(if 0<p.LJ then [(Cd.unary,r)] else []).length<=1:=by split<;>simp
  have e2:(if 0<r then(Cd.gamma,(N5 succ ref).length-1)::runNums 0 (N5 succ ref).dropLast else []).length<=62:=by
   split
   ·rw[List.length_cons,ON,List.length_dropLast];omega
   ·simp
  have e3:(if leftOf succ ref=[] then [] else(if 0<p.interval then(Cd.gamma,(rowsN p.interval (leftOf succ ref)).1.length)::longNums x p.interval none (rowsN p.interval (leftOf succ ref)).1 else [])++restNums x p.zeta none (rowsN p.interval (leftOf succ ref)).2).length<=200:=by
   split
   ·simp
   ·rw[List.length_append,P3];split
    ·rw[List.length_cons,Ob];omega
    ·simp;omega
  omega
 have:=XZ (n:=112) (L:=Nr p x succ ref r) (λq hq=>(VQ hp hx hs hr iP q hq).YB ⟨hp.2.2.1,hp.2.2.2⟩)
 omega
/-! ### All bits -/
def T8 (p:Mq)(g:List (List Nat))(E:List (Nat×Nat))(i:Nat):List Bool:=
 LG (Nr p.list i ((g[i]?).getD []) (MG g i ((E[i]?).getD (0,0)).1) ((E[i]?).getD (0,0)).1)
def MB (p:Mq)(g:List (List Nat))(E:List (Nat×Nat))(n:Nat):List Bool:=(List.range n).flatMap (T8 p g E)
theorem OL (p:Mq)(g:List (List Nat))(E:List (Nat×Nat))(n:Nat):MB p g E (n+1)=MB p g E n++T8 p g E n:=by
 unfold MB
 rw[List.range_succ,List.flatMap_append];simp
theorem WZ (p:Mq)(g:List (List Nat))(E:List (Nat×Nat))(e:Nat×Nat):∀n,n<=E.length->MB p g (E++[e]) n=MB p g E n
 |0,_=>rfl
 | n + 1, h => by
   rw[OL,OL,WZ p g E e n (by omega)]
   congr 1
   unfold T8;rw[List.getElem?_append_left (by omega)]
structure z9j (p:Mq)(g:List (List Nat))(E:List (Nat×Nat)):Prop where
 ent:∀i e,E[i]? =some e->Vw p g E i ((g[i]?).getD []).length e
theorem Vw.mono {p:Mq}{L L':List (List Nat)}{E E':List (Nat×Nat)}{n size:Nat}{e:Nat×Nat}(h:Vw p L E n size e)(hL:∀(j:Nat) (l:List Nat),L[j]? =some l->L'[j]? =some l)(hE:∀(j:Nat) (l:Nat×Nat),E[j]? =some l->E'[j]? =some l):Vw p L' E' n size e:=by
 rcases h with h|⟨h1,h2,h3,l,e',h4,h5,h6,h7⟩
 ·exact .inl h
 ·exact .inr ⟨h1,h2,h3,l,e',hL _ _ h4,hE _ _ h5,h6,h7⟩
theorem Sl.typed {w:World}{v:Value}{T:TypeId}{k n g:Nat}{cs:List Value}(h:Sl w v T k n cs)(hg:v.ownBlock=some g):∃cur,w.heap[g]? =some (.cells cur T (0,0)):=by
 rcases h.2 with⟨hz,-⟩|⟨g1,cap1,cur,hv,-,aJ,-⟩
 ·rw[hz] at hg;cases hg
 ·rw[hv] at hg;have e:g1=g:=ML hg;exact⟨cur,e▸aJ⟩
theorem PkM.kpT {w w':World}{k:Nat}{p:Mq}{L:List (List Nat)}{E:List (Nat×Nat)}{bs:List Bool}{F:Nat->Prop}{R:List (Value×Nat)}{wp ed:Nat}(h:PkM w k p L E bs F R wp ed){v:Value}{T:TypeId}{sz n:Nat}{cs:List Value}(hT:T≠46)(hv:Sl w v T sz n cs)(hk:Kp (λi=>v.ownBlock=some i) w w')(n1:v.ownBlock≠some k)(n2:∀i,F i->v.ownBlock≠some i):PkM w' k p L E bs F R wp ed:=
 ⟨hk.Lg h.Lg n1,h.len,h.wr.kp hk n2,h.nk,h.el,h.ok,λj l e h1 h2 h3=>by
  obtain⟨a,cp,g1,g2,g3,g4⟩:=h.ring j l e h1 h2 h3;refine⟨a,cp,g1,g2,g3.kp hk (λg hg e=>?_),g4⟩;obtain⟨c1,f1⟩:=g3.typed hg;obtain⟨c2,f2⟩:=hv.typed e;rw[f1] at f2
  injection f2 with f3
  injection f3 with f4 f5
  exact hT f5.symm⟩
def RP (p:Mq)(g:List (List Nat))(E:List (Nat×Nat))(n:Nat):List Nat:=(List.range (n+1)).map λj=>(MB p g E j).length
theorem z7D (p:Mq)(g:List (List Nat))(E:List (Nat×Nat))(e:Nat×Nat)(n:Nat)(h:n<=E.length):RP p g (E++[e]) n=RP p g E n:=by
 unfold RP
 refine List.map_congr_left λj hj=>?_
 rw[WZ p g E e j (by have:=List.mem_range.1 hj;omega)]
theorem z6M (p:Mq)(g:List (List Nat))(E:List (Nat×Nat))(n:Nat):RP p g E (n+1)=RP p g E n++[(MB p g E (n+1)).length]:=by
 unfold RP
 rw[List.range_succ,List.map_append];rfl
theorem YS (p:Mq)(g:List (List Nat))(E:List (Nat×Nat))(n:Nat):(RP p g E n).length=n+1:=by simp[RP]
theorem getD_take {α:Type}{l:List α}{i j:Nat}(h:j<i):(l.take i)[j]? =l[j]? :=by rw[List.getElem?_take,if_pos h]
theorem Sb (L:List (List Nat))(n r:Nat):MG L n r=[]\/MG L n r∈L:=by
 unfold MG
 split
 ·exact .inl O
 ·cases h:L[n-r]? with
  |none=>exact .inl O
  |some l=>exact .inr (List.mem_of_getElem? h)
theorem z1C {L:List (List Nat)}{n r:Nat}(h:r<=n):MG (L.take n) n r=MG L n r:=by
 unfold MG
 by_cases e:r=0
 ·rw[if_pos e,if_pos e]
 ·rw[if_neg e,if_neg e,getD_take (by omega)]
structure EnI (w:World)(p:Mq)(g:List (List Nat))(k wp:Nat)(i:Nat)(E:List (Nat×Nat))(v:Value)(w':World):Prop where
 pk:∃F R,PkM w' k p (g.take i) E (MB p g E i) F R wp (Mv (g.take i))/\(∀j,F j->w.heap.size<=j)/\∀j,F j->v.ownBlock≠some j
 ext:Ext w w'
 nk:w.heap.size<=k
 sl:Sl w' v 41 1 (RP p g E i).length ((RP p g E i).map Ly)
 fr:∀b,v.ownBlock=some b->w.heap.size<=b
 vk:v.ownBlock≠some k
 ent:∀j e,E[j]? =some e->Vw p g E j ((g[j]?).getD []).length e
 bd:(MB p g E i).length<=i*44800
theorem z4q {w:World}{p:Mq}(hp:p.My){g:List (List Nat)}(hg:Nu g){ga:Option Addr}{gc:Nat}(kL:GrM w (.slice ga g.length gc) g)(hG:Lq w 0 (Og .gamma) 260)(hU:Lq w 1 (Og .unary) 260):
  LP Tryz.prog 85 [.slice ga g.length gc,bpV p] w λu w'=>∃E v,u= .tuple #[S (LK (MB p g E g.length)),v,I 0]/\E.length=g.length/\z9j p g E/\(MB p g E g.length).length<=2688000/\Sl w' v 41 1 (g.length+1) ((RP p g E g.length).map Ly)/\(∀b,v.ownBlock=some b->w.heap.size<=b)/\Ext w w':=by
 have hn:=hg.n
 refine Lb (e:=[(0,_),(1,_)]) Tryz.func85 O Tryz.ntmps85 O O$ qN O$ Lm O O (Nc O (cs:=QV p) O) ?_
 rintro _ w1 ⟨b3,rfl,eB,ad,aq⟩
 have z1:=ad.size
 refine Lw O$ Lw O$ Lw O$ qM O$ qV (LM (news:=QV p) Wq O Nw O (aq.cells (n:=5) O) O)$ LD zbM O (z4O p hp w1) ?_
 rintro _ w2 ⟨k,wp,F,rfl,tW,hW,HA,ag,aN,o6⟩
 have z2:=ag.size
 have aG:=ad.trans ag
 refine Le O$ qV (Nq (v:=ptr k 0) O O)$ qV (Nq (v:=I 0) O O)$ Lw O$ Lk O$ run_seq$ qN O$ Le O$ Mu O O$ Lu O O$ LD zbU O (z0h (kL.ext aG) hg) ?_
 rintro _ w2 ⟨rfl,rfl⟩
 refine qV ((by first|exact Mh O|exact NL O)) ?_
 refine M8 O O$ Lf$ An O$ py$ qN O$ Lm O O (RN (cs:=[_]) (zs:=[Value.int .u64 0]) UZ QA O (by kernel_rfl) O O O (by decide)) ?_
 rintro _ w3 ⟨b28,rfl,⟨HB,ah,HC⟩,BL⟩
 have z3:=ah.size
 have lk:=tW.lt
 have zk:PkM w3 k p (g.take 0) [] (MB p g [] 0) F z2M wp (Mv (g.take 0)):=⟨ah.Lg tW,List.length_replicate,hW.ext ah,HA,rfl,(λl hl=>by simp at hl),λj l e h1=>by simp at h1⟩
 refine Lk O$ run_seq$ qN O$ Le O$ Nd Qq O$ Le O$ Lf$ LS.qb (e:=[(4,_),(5,_),(6,_),(7,_),(8,_),(9,_),(29,_),(30,_),(31,_)]) ?_
 refine Lc$ Nj (α:=Nat×List (Nat×Nat)×Value) ((0,[],.slice (some ⟨b28,0,none⟩) 1 1)) (λy=>[(7,ptr k 0),(9,y.2.2),(29,.slice ga g.length gc),(30,I (g.length:Int)),(31,I (y.1:Int))]) (λy w'=>EnI w p g k wp y.1 y.2.1 y.2.2 w'/\y.1<=g.length) (λy=>g.length-y.1) ?hI ?hround
 case hI=>exact⟨⟨⟨F,z2M,zk,λj hj=>by have:=o6 j hj;omega,λj hj e=>by have e1:b28=j:=ML e;have:=hW.lt hj;omega⟩,aG.trans ah,by omega,BL,λb hb=>by have e1:b28=b:=ML hb;omega,λe=>by have e1:b28=k:=ML e;omega,λj e h=>by simp at h,Nat.zero_le _⟩,Nat.zero_le _⟩
 case hround =>
  rintro⟨i,E,v⟩ w4 ⟨hI,hi⟩ ih;dsimp only at hI hi;obtain⟨F,R,hP,hF,Fc⟩:=hI.pk;have tU:=hI.bd;have aV:=YS p g E i;have qv:=hP.el;rw[List.length_take,Nat.min_eq_left hi] at qv;obtain⟨va,vc,rfl,-⟩:=hI.sl.rd.shape
  try dsimp only
  refine qN O$ Mw O O$ Lf$ run_seq$ Lp O (λh0=>?_)$ λh0=>?_
  ·have dB:i<g.length:=by omega
   obtain⟨l,hl⟩:∃l,g[i]? =some l:=⟨_,List.getElem?_eq_getElem dB⟩;have gZ:=List.mem_of_getElem? hl;have dN:=hg.len gZ;have hs:=hg.ok l gZ;obtain⟨vs,BM,jf⟩:=kL.ex;obtain⟨a,c,e1,e2,e3w⟩:=jf i l hl;have fj:=BM.ext hI.ext;have e3:=e3w.ext hI.ext
   obtain⟨gb,go,gc',e4⟩:∃b o c',Value.slice ga g.length gc= .slice (some ⟨b,o,none⟩) g.length c':=by
    rcases fj.2 with⟨c,hc,h0⟩|⟨b,off,c',hc,-⟩
    ·omega
    ·exact⟨b,off,c',hc⟩
   cases e4;have p8:(g.take i).length=i:=by rw[List.length_take];omega
   have oh:=PB hg i;refine py$ run_seq$ Lc$ qN O$ qV (M9 Qq O2 O O (by omega))$ qV (LN LI O O (Mn fj e1)) ?_
   have mZ:∀r,r<=p.LJ->(MB p g E i).length+(LG (Nr p.list (g.take i).length l (MG (g.take i) (g.take i).length r) r)).length<=134217728:=λr hr=>by
    have h2:LZ (MG (g.take i) (g.take i).length r)/\(MG (g.take i) (g.take i).length r).length<=60:=by
     rcases Sb (g.take i) (g.take i).length r with e| e
     ·rw[e];exact⟨⟨List.Pairwise.nil,λy h=>(by cases h)⟩,Nat.zero_le _⟩
     ·exact⟨hg.ok _ (List.mem_of_mem_take e),by have:=hg.len (List.mem_of_mem_take e);omega⟩
    have h3:=UP hp.1 (x:=(g.take i).length) (by omega) hs h2.1 (show r<=p.list.LJ from hr) (by omega) h2.2;omega
   have oC:=hI.sl;have uY:∀b,(Value.slice va (RP p g E i).length vc).ownBlock=some b->b<w4.heap.size:=λb hb=>oC.lt hb;refine Lk O$ run_seq$ qN O$ Lu O O$ LD zcd O (z4P hp hP (hI.ext.Lg hG) (hI.ext.Lg hU) (by omega) hs e2 e3 (by omega) (λb h0 hb=>by have h1:=e3w.ltz (by decide) h0 hb;have:=hI.nk;exact⟨λe=>by have:=hF b e;omega,by omega⟩) mZ) ?_;rintro _ w5 ⟨r,least,ch,F',R',rfl,gI,gS,ak,tX⟩;have lk4:=hP.Lg.lt;have z5:=ak.size;have aX:Ext w w5:=hI.ext.It ak (λj hj=>by rcases hj with e|e;exact hF j e;(have:=hI.nk;omega));have HD:(E++[(r,ch)]).length=i+1:=by rw[List.length_append,qv];rfl
   have lM:r<=i:=by
    rcases gI with e|⟨-,-,h3,-⟩
    ·have:r=0:=(Prod.mk.inj e).1;omega
    ·rw[p8] at h3;exact h3
   have su:(E++[(r,ch)])[i]? =some (r,ch):=by rw[List.getElem?_append_right (by omega),qv,Nat.sub_self];rfl
   have pp:T8 p g (E++[(r,ch)]) i=LG (Nr p.list (g.take i).length l (MG (g.take i) (g.take i).length r) r):=by
    unfold T8;rw[su,hl,p8,z1C lM];rfl
   have iU:MB p g (E++[(r,ch)]) (i+1)=MB p g E i++LG (Nr p.list (g.take i).length l (MG (g.take i) (g.take i).length r) r):=by
    rw[OL,WZ p g E _ i (by omega),pp]
   have BN:(MB p g (E++[(r,ch)]) (i+1)).length<=(i+1)*44800:=by
    have h2:LZ (MG (g.take i) (g.take i).length r)/\(MG (g.take i) (g.take i).length r).length<=60:=by
     rcases Sb (g.take i) (g.take i).length r with e| e
     ·rw[e];exact⟨⟨List.Pairwise.nil,λy h=>(by cases h)⟩,Nat.zero_le _⟩
     ·exact⟨hg.ok _ (List.mem_of_mem_take e),by have:=hg.len (List.mem_of_mem_take e);omega⟩
    have iP:r<=p.list.LJ:=by
     rcases gI with e|⟨-,h3,-⟩
     ·have:r=0:=(Prod.mk.inj e).1;omega
     ·exact h3
    have h3:=UP hp.1 (x:=(g.take i).length) (by omega) hs h2.1 iP (by omega) h2.2;rw[iU,List.length_append];omega
   rw[<-iU,<-M4 hl,<-Ti,<-M4 hl] at gS;have gQ:(MB p g (E++[(r,ch)]) (i+1)).length<=9223372036854775:=by omega
   refine Le O$ Mp O O$ Mp O O$ qV (Nq (v:=I 0) O O)$ Lw O$ Lw O$ Lw O$ qM O$ Le O$ Mu O O$ Lf$ An O$ py$ Li O ?_;refine Lu O O$ LD zc0 O (z18 gS gQ) ?_;rintro _ w6 ⟨rfl,aK⟩;refine qV ((by first|exact Mc O U3 MP (by omega)|exact Ny O U3 MP)) ?_;refine Lm O O (RN (cs:=[_]) (zs:=[Value.int .u64 0]) UZ QA O (by kernel_rfl) O O O (by decide)) ?_;rintro _ w7 ⟨b49,rfl,⟨HE,cg,bP⟩,BO⟩;have fX:=aK.trans cg;have z67:=fX.size;have mY:∀j,F' j->j<w5.heap.size:=λj hj=>gS.wr.lt hj;have EO:=oC.kp ak (λb hb e=>by rcases e with e|e;exact Fc b e hb;exact hI.vk (e▸hb));have zm:=EO.ext fX
   have vQ:∀j,F' j->(Value.slice va (RP p g E i).length vc).ownBlock≠some j:=λj hj e=>by
    rcases tX j hj with e1|e1
    ·exact Fc j e1 e
    ·have:=uY j e;omega
   refine Lm O O (pap UZ QA O (by decide) O O zm BO.rd (by intro c hc;simp at hc;subst hc;rfl) (by omega) (by simp only[maxLen];omega)) ?_;rintro v8 w8 ⟨eJ,bB,ku,-⟩;have ol:=(gS.ext fX).kpT (T:=41) (by decide) zm bB hI.vk vQ;have nh:∀b,v8.ownBlock=some b->(Value.slice va (RP p g E i).length vc).ownBlock=some b\/w5.heap.size<=b:=λb hb=>(ku b hb).imp id (λe=>by omega);refine Lk O$ Ld$ Li O$ Mb O O$ Le O$ Lf ((ih (i+1,E++[(r,ch)],v8) _ ⟨⟨⟨F',R',ol,λj hj=>?_,λj hj e=>?_⟩,(aX.trans fX).It bB (λj hj=>hI.fr j hj),hI.nk,?_,λb hb=>?_,λe=>?_,λj e hj=>?_,BN⟩,dB⟩ (by dsimp only;omega)).qb)
   ·rcases tX j hj with e| e
    ·exact hF j e
    ·have:=hI.ext.size;omega
   ·rcases nh j e with e1|e1
    ·exact vQ j hj e1
    ·have:=mY j hj;omega
   ·rw[z6M,z7D p g E _ i (by omega),List.length_append,List.map_append];exact eJ
   ·rcases nh b hb with e1|e1
    ·exact hI.fr b e1
    ·have:=aX.size;omega
   ·rcases nh k e with e1|e1
    ·exact hI.vk e1
    ·omega
   ·rcases Nat.lt_or_ge j i with qw|qw
    ·rw[List.getElem?_append_left (by omega)] at hj;exact(hI.ent j e hj).mono (λ_ _ h=>h) (λj' l' h=>by rw[List.getElem?_append_left (List.getElem?_eq_some_iff.1 h).1];exact h)
    ·have vI:=(List.getElem?_eq_some_iff.1 hj).1;rw[HD] at vI;have ej:j=i:=by omega
     subst ej;rw[su] at hj;cases hj;rw[hl];rw[p8] at gI
     exact gI.mono (λj' l' h=>by
      have:=(List.getElem?_eq_some_iff.1 h).1;rw[p8] at this
      rwa [getD_take this] at h) (λj' l' h=>by rw[List.getElem?_append_left (List.getElem?_eq_some_iff.1 h).1];exact h)
  ·have cE:i=g.length:=by omega
   subst cE;refine Ln O$ qN O$ Le O$ LD zd8 O (z1F hP) ?_;rintro _ w5 ⟨rfl,rfl⟩;refine Le O$ Mp O O$ Mp O O$ Lw O$ Lw O$ qM O$ Lu O O$ Le O$ Lw O$ Lw O$ Lk O$ Lh Tryz.func85 O ?_;have fm:=hI.sl;rw[aV] at fm;exact⟨_,rfl,E,_,rfl,qv,⟨hI.ent⟩,by omega,by rw[aV];exact fm,hI.fr,hI.ext⟩
end Go.Proofs.YtfgjaafcgghnoaaGreatDoor
