/- Merged by program. -/
import Derived.Test.YtfgjaafcgghnoaaGreatDoorCTp3
set_option linter.all false
set_option maxRecDepth 1000000
set_option maxHeartbeats 16000000
namespace Go.Proofs.YtfgjaafcgghnoaaGreatDoor
open Go Go.RowKit
open Go.Sort in
def z9U (g n cap m:Nat):Prop:=∀(w:World) (d:Array Nat),Ph w g n cap d->∀(a b limit:Nat),b-a<m->a<=b->b<=n->limit<=64->Below Nw a b d->
 Mw Tryz.prog 238 [.slice (some ⟨g,0,none⟩) n cap,I (a:Int),I (b:Int),I (limit:Int)] w λu w'=>u= .tuple #[]/\∃d',Ph w' g n cap d'/\PermIn a b d d'/\SortedIn Nw a b d'/\Kp (λk=>k=g) w w'
open Go.Sort in
structure z3f (w:World)(g n cap a b:Nat)(d:Array Nat)(a1 b1 l1:Nat)(d1:Array Nat)(w':World):Prop where
 arr:Ph w' g n cap d1
 kp:Kp (λk=>k=g) w w'
 ab:a1<=b1
 bn:b1<=n
 sm:b1-a1<=b-a
 lim:l1<=64
 bel:Below Nw a1 b1 d1
 fin:∀R,PermIn a1 b1 d1 R->SortedIn Nw a1 b1 R->PermIn a b d R/\SortedIn Nw a b R
open Go.Sort in
theorem z3f.perm {w:World}{g n cap a b:Nat}{d:Array Nat}{a1 b1 l1 l2:Nat}{d1 d2:Array Nat}{w1 w2:World}(h:z3f w g n cap a b d a1 b1 l1 d1 w1)(hA:Ph w2 g n cap d2)(hk:Kp (λk=>k=g) w1 w2)(hp:PermIn a1 b1 d1 d2)(hl:l2<=64):z3f w g n cap a b d a1 b1 l2 d2 w2:=
 ⟨hA,h.kp.trans hk,h.ab,h.bn,h.sm,hl,h.bel.perm (by rw[h.arr.size];exact h.bn) hp,λR h1 h2=>h.fin R (permIn_trans _ _ _ _ _ hp h1) h2⟩
open Go.Sort in
theorem z88 {g n cap m : Nat}(eW : z9U g n cap m){w : World}{d : Array Nat}(h : Ph w g n cap d)(a b limit : Nat)(hm : b - a <= m)(ji : a <= b)(hb : b <= n)(hn : n < 50)(hl : limit <= 64)(hB : Below Nw a b d) :
  Mw Tryz.prog 238 [.slice (some ⟨g,0,none⟩) n cap,I (a:Int),I (b:Int),I (limit:Int)] w λu w'=>u= .tuple #[]/\∃d',Ph w' g n cap d'/\PermIn a b d d'/\SortedIn Nw a b d'/\Kp (λk=>k=g) w w':=by
 refine It (e:=[(0,_),(1,_),(2,_),(3,_)]) Tryz.func238 O Tryz.ntmps238 O O$ qN O$ Me O$ qM O$ M4 O$ LU$ Oh (α:=Nat×Nat×Nat×Bool×Bool×Array Nat) ((a,b,limit,true,true,d)) (λy=>[(0,.slice (some ⟨g,0,none⟩) n cap),(1,I (y.1:Int)),(2,I (y.2.1:Int)),(3,I (y.2.2.1:Int)),(8,.bool y.2.2.2.1),(9,.bool y.2.2.2.2.1)]) (λy w'=>z3f w g n cap a b d y.1 y.2.1 y.2.2.1 y.2.2.2.2.2 w') (λy=>y.2.1-y.1) ?hI ?hround
 case hI=>exact⟨h,Kp.refl _ _,ji,hb,Nat.le_refl _,hl,hB,λR h1 h2=>⟨h1,h2⟩⟩
 case hround =>
  rintro⟨a1,b1,l1,wb,wp,d1⟩ w4 hI ih;dsimp only at hI;have oZ:=hI.ab;have fS:=hI.bn;have Hk:=hI.sm;have Fx:=hI.lim;have vm:=hI.arr.size
  try dsimp only
  refine LU$ qN O$ Md O O$ Oa O O$ M4 O$ run_seq$ qN O ?_;rw[show(b1:Int)-(a1:Int)=((b1-a1:Nat):Int) by omega];refine LW O$ zle O O$ LX$ M8 O (λh0=>?_)$ λh0=>?_
  ·obtain⟨r1,r2⟩:=insertionSort_holds UW d1 a1 b1 oZ (by omega);obtain⟨q1,q2⟩:=hI.fin _ r1 r2;refine qN O$ Md O O$ LW O$ Mn zc7 O (Yo hI.arr a1 b1 oZ fS (by omega)) ?_;rintro _ w5 ⟨rfl,aT,ak⟩;refine LX$ LZ Tryz.func238 O ?_;exact⟨_,rfl,rfl,_,aT,q1,q2,hI.kp.trans ak⟩
  ·refine py$ run_seq$ qN O$ LW O$ O3 O O$ LX$ M8 O (λh1 => ?_)$ λh1 => ?_
   ·obtain⟨r1,r2⟩:=heapSort_holds UW d1 a1 b1 oZ (by omega);obtain⟨q1,q2⟩:=hI.fin _ r1 r2;refine qN O$ Md O O$ LW O$ Mn zeW O (z7K hI.arr a1 b1 (by omega) fS (by omega)) ?_;rintro _ w5 ⟨rfl,aT,ak⟩;refine LX$ LZ Tryz.func238 O ?_;exact⟨_,rfl,rfl,_,aT,q1,q2,hI.kp.trans ak⟩
   ·refine py$ run_seq$ qN O$ LW O$ qV ((by first | exact MX O | exact Oy O)) ?_; refine LX (MM (λe' w' => ∃ l5 d5, e' = [(0, .slice (some ⟨g, 0, none⟩) n cap), (1, I (a1 : Int)), (2, I (b1 : Int)), (3, I ((l5 : Nat) : Int)), (8, .bool wb), (9, .bool wp), (10, I ((b1 - a1 : Nat) : Int))] /\ z3f w g n cap a b d a1 b1 l5 d5 w') ?dO (λdO => ?eS))
    case dO =>
     rintro e' w5 ⟨l5,d5,rfl,lG⟩;have qD:=lG.lim;have Bi:=lG.arr.size;have Hl:g<w5.heap.size:=lG.arr.sl.lt O;refine qN O$ Md O O$ LW O$ Mn zcU O (z5i lG.arr a1 b1 (by omega) fS hn) ?_;rintro _ w6 ⟨p6,t6,rfl,Hm,sk,vp,oW,aJ⟩;have p5:=lG.perm oW aJ.kp (permIn_refl _ _ _) qD;refine LW O$ N5 O O$ N5 O O$ Me O$ M4 O$ run_seq$ qN O$ LW O$ O3 O O$ LX$ MM (λe' w'=>∃d7 p7 t7,e'=[(0,.slice (some ⟨g,0,none⟩) n cap),(1,I (a1:Int)),(2,I (b1:Int)),(3,I (l5:Int)),(8,.bool wb),(9,.bool wp),(10,I ((b1-a1:Nat):Int)),(11,I ((p7:Nat):Int)),(12,I ((t7:Nat):Int))]/\z3f w g n cap a b d a1 b1 l5 d7 w'/\a1<=p7/\p7<b1) ?ax$ λax=>?dx
     case ax =>
      rintro e' w7 ⟨d7,p7,t7,rfl,jq,zo,p8⟩;have Hn:=jq.arr.size;refine run_seq$ run_seq$ MM (λe' w'=>∃s,e'=[(0,.slice (some ⟨g,0,none⟩) n cap),(1,I (a1:Int)),(2,I (b1:Int)),(3,I (l5:Int)),(8,.bool wb),(9,.bool wp),(10,I ((b1-a1:Nat):Int)),(11,I (p7:Int)),(68,.bool s)]/\w'=w7) ?jO$ λjO=>?jQ
      case jO=>
       rintro e' w8 ⟨s,rfl,rfl⟩;refine MM (λe' w'=>e'=[(0,.slice (some ⟨g,0,none⟩) n cap),(1,I (a1:Int)),(2,I (b1:Int)),(3,I (l5:Int)),(8,.bool wb),(9,.bool wp),(10,I ((b1-a1:Nat):Int)),(11,I (p7:Int))]/\z3f w g n cap a b d a1 b1 l5 d7 w') ?oA$ λoA=>?sr
       case oA=>
        rintro e' w9 ⟨rfl,jr⟩;have qF:=jr.arr;have hg:=Ext.Mm w9;refine run_seq$ run_seq$ MM (λe' w'=>∃s,e'=[(0,.slice (some ⟨g,0,none⟩) n cap),(1,I (a1:Int)),(2,I (b1:Int)),(3,I (l5:Int)),(8,.bool wb),(9,.bool wp),(10,I ((b1-a1:Nat):Int)),(11,I (p7:Int)),(87,.bool s)]/\w'=w9.drew/\(s=true->0<a1/\Nw d7[a1-1]! d7[p7]! =false)) ?rV$ λrV=>?rW
        case rV=>
         rintro e' w10 ⟨s,rfl,rfl,hs⟩;have lH:=qF.ext hg;have aq:Kp (λk=>k=g) w w9.drew:=jr.kp.trans hg.kp;refine MZ O (λh6=>?_)$ λh6=>?_
         ·obtain⟨Ho,lI⟩:=hs h6;obtain⟨mid,d11,hx⟩:∃m e,partitionEqual Nw d7 a1 b1 p7=(m,e):=⟨_,_,rfl⟩;have vt:=z9c lH a1 b1 p7 zo p8 fS (by omega);rw[hx] at vt;dsimp only at vt;obtain⟨e1,e2,e3,e4,e5⟩:=round_eq UW (partitionEqual_holds _) Ho zo p8 (by omega) jr.bel lI hx;refine qN O$ Md O O$ Md O O$ Mn zde O (vt) ?_;rintro _ w11 ⟨rfl,p9,bC⟩;refine Me O$ qM O$ LW O$ M4 O$ M6 O ?_;exact(ih (mid,b1,l5,wb,wp,d11) _ ⟨p9,aq.trans bC,e2,fS,by dsimp only;omega,jr.lim,e4,λR r1 r2=>jr.fin R (e5 R r1 r2).1 (e5 R r1 r2).2⟩ (by dsimp only;omega)).qb
         ·obtain⟨mid,ap,d11,hx⟩:∃m q e,partition Nw d7 a1 b1 p7=(m,q,e):=⟨_,_,_,rfl⟩;have sn:=z7t lH a1 b1 p7 zo p8 fS (by omega);rw[hx] at sn;dsimp only at sn;obtain⟨e1,e2,e3,e4,e5,e6,e7⟩:=round_part UW (partition_holds _) zo p8 (by omega) jr.bel hx;refine py$ qN O$ Md O O$ Md O O$ Mn zeO O (sn) ?_;rintro _ w11 ⟨rfl,p9,bC⟩;refine LW O$ N5 O O$ N5 O O$ Me O$ Me O$ qM O$ LW O$ Me O$ qM O$ Md O O$ Oa O O$ Md O O$ Oa O O$ Me O ?_;refine Me O$ qM O ?_;rw[show(mid:Int)-(a1:Int)=((mid-a1:Nat):Int) by omega,show(b1:Int)-(mid:Int)=((b1-mid:Nat):Int) by omega];refine LW O$ qV (Te O O (by omega))$ Me O$ qM O$ Md O O$ Ni O O$ LX$ M8 O (λh7=>?_)$ λh7=>?_
          ·refine qN O$ Md O O$ PD O O$ Me O$ qM O$ Md O O$ Md O O$ Mn z7R O (eW _ _ p9 a1 mid l5 (by omega) e1 (by omega) jr.lim e4) ?_;rintro _ w12 ⟨rfl,d12,sq,jP,jH,aY⟩;obtain⟨f1,f2⟩:=e6 _ jP jH;refine LX$ M0 O$ LW O$ MT O O$ M4 O$ LV ?_;exact(ih (mid+1,b1,l5,decide (((b1-a1:Nat):Int) / 8<=((mid-a1:Nat):Int)),ap,d12) _ ⟨sq,(aq.trans bC).trans aY,by dsimp only;omega,fS,by dsimp only;omega,jr.lim,f1,λR r1 r2=>jr.fin R (f2 R r1 r2).1 (f2 R r1 r2).2⟩ (by dsimp only;omega)).qb
          ·refine qN O$ Md O O$ PD O O$ Me O$ qM O$ Md O O$ MT O O$ Md O O ?_;rw[show(mid:Int)+1=((mid+1:Nat):Int) by omega];refine Mn z7R O (eW _ _ p9 (mid+1) b1 l5 (by omega) (by omega) fS jr.lim e5) ?_;rintro _ w12 ⟨rfl,d12,sq,jP,jH,aY⟩;obtain⟨f1,f2⟩:=e7 _ jP jH;refine LX$ M0 O$ LW O$ M4 O$ LV ?_;exact(ih (a1,mid,l5,decide (((b1-a1:Nat):Int) / 8<=((b1-mid:Nat):Int)),ap,d12) _ ⟨sq,(aq.trans bC).trans aY,e1,by dsimp only;omega,by dsimp only;omega,jr.lim,f1,λR r1 r2=>jr.fin R (f2 R r1 r2).1 (f2 R r1 r2).2⟩ (by dsimp only;omega)).qb
        case rW=>
         rcases Nat.eq_zero_or_pos a1 with hj|hj
         ·refine NV (λw'=>Ext w9 w') O$ Mj 0 O O (hg)$ M3 1 O (UL O O) hg$ QT$ Mj 2 O O (hg)$ qJ 3 O (hg)$ qJ 4 O (hg)$ qJ 5 O (hg)$ qJ 6 O (hg)$ qJ 7 O (hg)$ qJ 8 O (hg)$ qJ 9 O (hg)$ qJ 10 O (hg)$ qJ 11 O (hg) ?_;refine qJ 12 O (hg)$ qJ 13 O (hg)$ M3 14 O (Ro O O) hg$ qE ?_;exact(rV _ _ ⟨false,rfl,rfl,λe=>by cases e⟩).qb
         ·refine NV (λw'=>Ext w9 w') O$ Mj 0 O O (hg)$ M3 1 O (UL O O) hg$ QB$ Mj 2 O O (hg)$ Mj 3 O O (hg)$ Mj 4 O O (hg)$ M3 5 O (TO O O (by omega)) hg$ Mj 8 O O (hg)$ Mj 9 O O (hg)$ M3 10 O (MS Mr Mi O O (by omega)) hg ?_;rw[show(a1:Int)-1=((a1-1:Nat):Int) by omega];refine M3 6 O (MS Mr Mi O O (by omega)) hg$ qT 7 O (λ_ h=>MA Np O O ((qF.ext h).get (i:=a1-1) (by omega))) hg$ qT 11 O (λ_ h=>MA Np O O ((qF.ext h).get (i:=p7) (by omega))) hg$ Pm 12 O St O (OH _ _ _) ?_;rintro _ w10 ⟨rfl,rfl⟩;refine⟨hg,?_⟩;refine M3 13 O ((by first|exact MX O|exact Oy O)) hg ?_;refine M3 14 O (RM O O) hg$ qE ?_;exact(rV _ _ ⟨decide (¬d7[a1-1]!<d7[p7]!),rfl,rfl,λe=>⟨hj,by simpa[Nw] using e⟩⟩).qb
       case sr=>
        refine MZ O (λh4=>?_)$ λh4=>?_
        ·obtain⟨r1,r2⟩:=partialInsertionSort_holds UW d7 a1 b1 (by omega) (by omega) jq.bel;refine qN O$ Md O O$ LW O$ Mn zfe O (z6r jq.arr a1 b1 (by omega) fS hn) ?_;rintro _ w9 ⟨rfl,qF,aO⟩;refine LX$ MZ O (λh5=>?_)$ λh5=>?_
         ·have r3:=r2 h5;rw[z4p d7 a1 b1 (by omega)] at r3;dsimp only at r3;obtain⟨q1,q2⟩:=jq.fin _ (permIn_refl _ _ _) r3;refine LZ Tryz.func238 O ?_;exact⟨_,rfl,rfl,d7,qF,q1,q2,jq.kp.trans aO⟩
         ·refine py ?_;exact(oA _ _ ⟨rfl,jq.perm qF aO (permIn_refl _ _ _) jq.lim⟩).qb
        ·refine py ?_;exact(oA _ _ ⟨rfl,jq⟩).qb
      case jQ =>
       cases wb with
       | false =>
         refine M0 O$ Md O O$ qS$ MN O O$ LW O$ qS$ qS$ MN O O$ LX ?_
         exact(jO _ _ ⟨false,rfl,rfl⟩).qb
       | true =>
         cases wp with
         | false =>
           refine M0 O$ Md O O$ LW O$ NC O O$ LW O$ qS$ qS$ MN O O$ LX ?_
           exact(jO _ _ ⟨false,rfl,rfl⟩).qb
         | true =>
           refine M0 O$ Md O O$ LW O$ NC O O$ Md O O$ O3 O O$ NC O O$ LX ?_;exact(jO _ _ ⟨decide ((t7:Int)=1),rfl,rfl⟩).qb
     case dx=>
      refine M8 O (λh3=>?_)$ λh3=>?_
      ·refine qN O$ Md O O$ LW O$ Mn zcl O (z1r oW a1 b1 (by omega) fS (by omega)) ?_;rintro _ w7 ⟨rfl,zp,aD⟩;refine qM O$ LW O$ Oa O O$ Md O O$ Oa O O$ Oa O O$ M4 O$ M0 O$ M4 O ?_;rw[show(b1:Int)-1-((p6:Int)-(a1:Int))=((b1-1-(p6-a1):Nat):Int) by omega];exact(ax _ _ ⟨reverseRange d5 a1 b1,b1-1-(p6-a1),1,rfl,p5.perm zp aD (reverseRange_holds _ _ _ oZ (by omega)) qD,by omega,by omega⟩).qb
      ·refine py ?_;exact(ax _ _ ⟨d5,p6,t6,rfl,p5,Hm,sk⟩).qb
    case eS=>
     refine MZ O (λh2=>?_)$ λh2=>?_
     ·refine qN O$ Md O O$ LW O$ Mn zcF O (z6H hI.arr a1 b1 (by omega) fS hn) ?_;rintro _ w5 ⟨rfl,d5,gA,aT,ak⟩;refine LX$ M0 O$ LW O$ Oa O O$ M4 O ?_;rw[show(l1:Int)-1=((l1-1:Nat):Int) by omega];exact(dO _ _ ⟨l1-1,d5,rfl,hI.perm aT ak gA (by omega)⟩).qb
     ·refine py ?_;exact(dO _ _ ⟨l1,d1,rfl,hI⟩).qb
theorem z3R (g n cap:Nat)(hn:n<50):∀m,z9U g n cap m
 |0=>λw d h a b limit hm=>absurd hm (Nat.not_lt_zero _)
 |m+1=>λw d h a b limit hm ji hb hl hB=>z88 (z3R g n cap hn m) h a b limit (by omega) ji hb hn hl hB
open Go.Sort in
theorem z5D {w:World}{v:Value}{l:List Nat}(hS:Sl w v 46 1 l.length (l.map Mx))(bO:l≠[])(hl:l.length<50):
  Mw Tryz.prog 226 [v] w λu w'=>u= .tuple #[]/\Kp (λk=>v.ownBlock=some k) w w'/\∃l':List Nat,l'.Perm l/\l'.Pairwise (·<=·)/\Sl w' v 46 1 l'.length (l'.map Mx):=by
 obtain⟨g,cap,rfl⟩:∃g c,v= .slice (some ⟨g,0,none⟩) l.length c:=by
  rcases hS.shape with⟨-,h0⟩|⟨g,c,e,hc⟩
  ·exact absurd (List.eq_nil_of_length_eq_zero (by omega)) bO
  ·exact⟨g,c,e⟩
 have hA:Ph w g l.length cap l.toArray:=⟨by simpa using hS,by simp⟩
 have aA:MR l.length<=6:=NR (by omega)
 refine It (e:=[(0,_)]) Tryz.func226 O Tryz.ntmps226 O O$ qN O$ LW O$ O9 Mr O$ M4 O$ M0 O$ Md O O$ LW O$ qV ((by first|exact MQ O U3 z7o (by omega)|exact Ob O U3 z7o)) ?_
 refine Mn za4 O (z3T l.length (by omega) w) ?_
 rintro _ w ⟨rfl,rfl⟩
 refine Mn z7R O (z3R g l.length cap hl (l.length+1) w l.toArray hA 0 l.length (MR l.length) (by omega) (by omega) (Nat.le_refl _) (by omega) (.inl O)) ?_
 rintro _ w1 ⟨rfl,d',kM,hP,hO,hk⟩
 refine LX$ Nq Tryz.func226 O ?_
 have cG:=kM.size
 have iY:d'.toList.Perm l:=by
  have:=hP.2.2;rw[Array.toList_extract,Array.toList_extract] at this;have h1:(d'.toList.take l.length).Perm (l.take l.length):=by simpa using this
  rwa [List.take_of_length_le (by rw[Array.length_toList,cG];exact Nat.le_refl _),List.take_length] at h1
 refine⟨_,rfl,rfl,hk.Mc (λk e=>by rw[e];rfl),d'.toList,iY,?_,?_⟩
 ·rw[List.pairwise_iff_getElem];intro i j hi hj i7;rw[Array.length_toList] at hi hj;have:=hO i j (Nat.zero_le _) i7 (by omega);rw[getElem!_pos d' i (by omega),getElem!_pos d' j (by omega)] at this;simp only[Nw,decide_eq_false_iff_not] at this;rw[Array.getElem_toList,Array.getElem_toList];omega
 ·have e:d'.toList.length=l.length:=by rw[Array.length_toList,cG]
  rw[e];exact kM.sl
structure NuI (w w1:World)(p:OE)(b5 n11:Nat)(L:List (Cd×Nat))(w':World):Prop where
 ex:∃F,z1l w' n11 L F/\∀k,F k->w1.heap.size<=k
 ext:Ext w w'
 b5:M7 w' b5 (WC p) 212
 siz:w1.heap.size<=w'.heap.size
theorem NuI.put {w w1 w2 w3:World}{p:OE}{b5 n11:Nat}{L L':List (Cd×Nat)}{F:Nat->Prop}(h:NuI w w1 p b5 n11 L w2)(hf:∀k,F k->w1.heap.size<=k)(fE:b5<w1.heap.size)(Fy:w.heap.size<=w1.heap.size)
  (g:∃F',z1l w3 n11 L' F'/\Kp F w2 w3/\∀k,F' k->F k\/w2.heap.size<=k):NuI w w1 p b5 n11 L' w3:=by
 obtain⟨F',g1,g2,g3⟩:=g
 have hs:=h.siz
 refine⟨⟨F',g1,λk hk=>?_⟩,h.ext.LS g2 (λk hk=>by have:=hf k hk;omega),g2.LY h.b5 (λe=>by have:=hf b5 e;omega),by have:=g2.size;omega⟩
 rcases g3 k hk with e| e
 ·exact hf k e
 ·omega
structure Yi (w w1 w2:World)(p:OE)(b5 n11:Nat)(X:Nat->Prop)(L:List (Cd×Nat))(w3:World):Prop where
 ex:∃F,z1l w3 n11 L F/\(∀k,F k->w1.heap.size<=k)/\∀k,F k->¬X k
 ext:Ext w w3
 b5:M7 w3 b5 (WC p) 212
 siz:w1.heap.size<=w3.heap.size
 kx:Kp (λk=>¬X k) w2 w3
theorem Yi.put {w w1 w2 w3 w4:World}{p:OE}{b5 n11:Nat}{X:Nat->Prop}{L L':List (Cd×Nat)}{F:Nat->Prop}(h:Yi w w1 w2 p b5 n11 X L w3)(hX:∀k,X k->k<w2.heap.size)(hf:∀k,F k->w1.heap.size<=k)(hx:∀k,F k->¬X k)(fE:b5<w1.heap.size)(Fy:w.heap.size<=w1.heap.size)
  (g:∃F',z1l w4 n11 L' F'/\Kp F w3 w4/\∀k,F' k->F k\/w3.heap.size<=k):Yi w w1 w2 p b5 n11 X L' w4:=by
 obtain⟨F',g1,g2,g3⟩:=g
 have hs:=h.siz
 have hz:=h.kx.size
 refine⟨⟨F',g1,λk hk=>?_,λk hk gB=>?_⟩,h.ext.LS g2 (λk hk=>by have:=hf k hk;omega),g2.LY h.b5 (λe=>by have:=hf b5 e;omega),by have:=g2.size;omega,h.kx.trans (g2.Mc hx)⟩
 ·rcases g3 k hk with e| e
  ·exact hf k e
  ·omega
 ·rcases g3 k hk with e| e
  ·exact hx k e gB
  ·have:=hX k gB;omega
theorem PL:∀(l:List Nat) (k:Nat),(runNums k l).length=l.length
 |[],_=>rfl
 |_::l,k=>by rw[runNums,List.length_cons,List.length_cons,PL l]
theorem UU:∀(l:List Nat) (k n:Nat),runNums k (l++[n])=runNums k l++[(.gamma,n-min (k+l.length) 1)]
 |[],k,n=>rfl
 | m :: l, k, n => by
   rw[List.cons_append,runNums,UU l (k+1) n,runNums,List.cons_append,List.length_cons,show k+1+l.length=k+(l.length+1) by omega]
theorem Yh:∀{l:List Nat},(∀n∈l,1<=n)->l.length<=l.sum
 |[],_=>Nat.le_refl _
 | x :: l, h => by
   have h1:=h x List.mem_cons_self;have h2:=Yh (λn hn=>h n (List.mem_cons_of_mem x hn));rw[List.length_cons,List.sum_cons];omega
theorem Q5.Y9 {rs:List Nat}{fs:List Bool}(h:Q5 rs fs):rs.length<=fs.length+1:=by
 have e:=Pr true rs
 rw[h.exp] at e
 cases rs with
 |nil=>simp
 | cons a tl =>
   have h1:=Yh (l:=tl) (λn hn=>h.pos n hn);rw[List.sum_cons] at e;rw[List.length_cons];omega
theorem Uk:∀l:List Nat,(rowsN 0 l).1=[]
 |[]=>by rw[rowsN]
 | x :: l => by
   rw[rowsN,if_neg (by omega)];exact Uk (l.drop (runLen x l))
 termination_by l=>l.length
 decreasing_by simp[List.length_drop];omega
def UZ (l:List (Nat×Nat)):Option Nat:=l.getLast?.map λp=>p.1+p.2-1
theorem Us (x least:Nat):∀(l:List (Nat×Nat)) (e:Option Nat) (p:Nat×Nat),longNums x least e (l++[p])=longNums x least e l++longNums x least (match l with|[]=>e|_=>UZ l) [p]
 |[],e,p=>by cases e<;>rfl
 | q :: l, e, p => by
   rw[List.cons_append,Om,Om,Us x least l _ p]
   cases l with
   |nil=>rfl
   |cons q2 l=>rfl
theorem YA (x least:Nat)(l:List (Nat×Nat))(p:Nat×Nat):longNums x least none (l++[p])=longNums x least none l++[(.gamma,QY x (UZ l) p.1),(.gamma,p.2-least)]:=by
 rw[Us]
 cases l with
 |nil=>rfl
 |cons q l=>rw[Om x least (match q::l with|[]=>none|_=>UZ (q::l))];rfl
theorem z7e {w : World}{b off n cap i : Nat}{R : List (Nat × Nat)}{q : Nat × Nat}(h : Rd w (.slice (some ⟨b, off, none⟩) n cap) 2 n (R.flatMap Yz))(hq : R[i]? = some q) : ∀ j u, [I (q.1 : Int), I (q.2 : Int)][j]? = some u -> w.cell? ⟨b, off + i * 2 + j, none⟩ = some u := by
 intro j u hj
 have hi:=(List.getElem?_eq_some_iff.1 hq).1
 rcases h.2 with⟨c,hc,h0⟩|⟨b',off',cap',e,hc⟩
 ·have:=h.1;rw[z68] at this;omega
 ·cases e
  have kN:(R.flatMap Yz)[i*2+j]? =some u:=by
   have kK:j<2:=(List.getElem?_eq_some_iff.1 hj).1
   have key : ∀ (R : List (Nat × Nat)) (i : Nat), R[i]? = some q -> (R.flatMap Yz)[i * 2 + j]? = some u := by
    intro R
    induction R with
    |nil=>intro i h;simp at h
    | cons a R ih =>
      intro i h;rw[List.flatMap_cons]
      cases i with
      | zero =>
        rw[List.getElem?_cons_zero] at h;cases h;rw[List.getElem?_append_left (by show _<2;omega),Nat.zero_mul,Nat.zero_add]
        exact hj
      | succ i =>
        rw[List.getElem?_append_right (by show 2<=_;omega),show(i+1)*2+j-(Yz a).length=i*2+j by show(i+1)*2+j-2=_;omega];exact ih i h
   exact key R i hq
  have:=hc (i*2+j) u kN;rw[show off+i*2+j=off+(i*2+j) by omega];exact this
theorem Yi.ex2 {w w1 w2 w3 w4:World}{p:OE}{b5 n11:Nat}{X:Nat->Prop}{L:List (Cd×Nat)}(h:Yi w w1 w2 p b5 n11 X L w3)(hx:Ext w3 w4):Yi w w1 w2 p b5 n11 X L w4:=by
 obtain⟨⟨F,h1,h2,h3⟩,h4,h5,h6,h7⟩:=h
 exact⟨⟨F,h1.ext hx,h2,h3⟩,h4.trans hx,hx.LY h5,by have:=hx.size;omega,h7.trans hx.kp⟩
theorem Yi.back {w w1 w2 w3 w4:World}{p:OE}{b5 n11:Nat}{X X':Nat->Prop}{L L':List (Cd×Nat)}(h:Yi w w1 w2 p b5 n11 X L w3)(h':Yi w w1 w3 p b5 n11 X' L' w4)(hX:∀k,X k->X' k):Yi w w1 w2 p b5 n11 X L' w4:=by
 obtain⟨⟨F,h1,h2,h3⟩,h4,h5,h6,h7⟩:=h'
 exact⟨⟨F,h1,h2,λk hk hx=>h3 k hk (hX k hx)⟩,h4,h5,h6,h.kx.trans (h7.Mc λk hk hx=>hk (hX k hx))⟩
theorem Yi.again {w w1 w2 w3:World}{p:OE}{b5 n11:Nat}{X X':Nat->Prop}{L:List (Cd×Nat)}{F:Nat->Prop}(h:Yi w w1 w2 p b5 n11 X L w3)(hA:z1l w3 n11 L F)(hf:∀k,F k->w1.heap.size<=k)(hx:∀k,F k->¬X' k):Yi w w1 w3 p b5 n11 X' L w3:=
 ⟨⟨F,hA,hf,hx⟩,h.ext,h.b5,h.siz,Kp.refl _ _⟩
theorem P3 (x least:Nat):∀(l:List (Nat×Nat)) (e:Option Nat),(longNums x least e l).length=2*l.length
 |[],e=>by cases e<;>rfl
 |q::l,e=>by rw[Om,List.length_cons,List.length_cons,P3 x least l,List.length_cons];omega
theorem VP {least:Nat}:∀(R:List (Nat×Nat)) (lo i:Nat) (q:Nat×Nat),Px least lo R->R[i]? =some q->1<=q.2/\least<=q.2/\(∀z,UZ (R.take i)=some z->z+2<=q.1)/\(UZ (R.take i)=none->lo<=q.1)
 |[],lo,i,q,h,hq=>by simp at hq
 | p :: R, lo, 0, q, h, hq => by
   rw[List.getElem?_cons_zero] at hq;cases hq
   exact⟨h.2.1,h.2.2.1,(λz hz=>by cases hz),λ_=>h.1⟩
 | p :: R, lo, i + 1, q, h, hq => by
   rw[List.getElem?_cons_succ] at hq;obtain⟨h1,h2,h3,h4⟩:=VP R _ i q h.2.2.2 hq;have hp:1<=p.2:=h.2.1;refine⟨h1,h2,λz hz=>?_,λhz=>?_⟩
   ·rw[List.take_succ_cons] at hz
    cases hR:R.take i with
    | nil =>
      rw[hR] at hz;have e:p.1+p.2-1=z:=NF hz;have:=h4 (by rw[hR];rfl)
      omega
    | cons a l =>
      rw[hR] at hz;exact h3 z (by rw[hR];exact hz)
   ·rw[List.take_succ_cons] at hz;exfalso;unfold UZ at hz;rw[Option.map_eq_none_iff,List.getLast?_eq_none_iff] at hz;cases hz
theorem z5d (l:List (Nat×Nat))(q:Nat×Nat):UZ (l++[q])=some (q.1+q.2-1):=by simp[UZ]
theorem z6F {least:Nat}{l:List Nat}{q:Nat×Nat}(hl:∀y∈l,y<65536)(hq:q∈(rowsN least l).1)(h1:1<=q.2):q.1+q.2<=65536:=by
 have h2:q.1+(q.2-1)∈NJ (rowsN least l).1:=by
  unfold NJ;exact List.mem_flatMap.2 ⟨q,hq,List.mem_map.2 ⟨q.2-1,List.mem_range.2 (by omega),rfl⟩⟩
 have:=hl _ ((Qd least l).subset (List.mem_append_left _ h2))
 omega
def z8j (x:Nat):Option Nat->Nat->Nat
 |none,v=>zig ((v:Int)-x)
 |some u,v=>v-u-1
theorem Po (x k:Nat)(e:Option Nat)(v:Nat)(r:List Nat):restNums x k e (v::r)=(.zeta k,z8j x e v)::restNums x k (some v) r:=by
 cases e<;>rfl
theorem Ve (x k:Nat):∀(l:List Nat) (e:Option Nat) (v:Nat),restNums x k e (l++[v])=restNums x k e l++restNums x k (match l with|[]=>e|_=>l.getLast?) [v]
 |[],e,v=>by cases e<;>rfl
 | u :: l, e, v => by
   rw[List.cons_append,Po,Po,Ve x k l _ v]
   cases l with
   |nil=>rfl
   |cons u2 l=>rfl
theorem TM (x k:Nat)(l:List Nat)(v:Nat):restNums x k none (l++[v])=restNums x k none l++[(.zeta k,z8j x l.getLast? v)]:=by
 rw[Ve]
 cases l with
 |nil=>rfl
 |cons u l=>rw[Po x k (match u::l with|[]=>none|_=>(u::l).getLast?)];cases (u::l).getLast?<;>rfl
theorem PT (x k:Nat):∀(l:List Nat) (e:Option Nat),(restNums x k e l).length=l.length
 |[],e=>by cases e<;>rfl
 |v::l,e=>by rw[Po,List.length_cons,PT x k l,List.length_cons]
theorem MP {α:Type}{l:List α}{i:Nat}{q:α}(h:l[i]? =some q):l.take (i+1)=l.take i++[q]:=by
 rw[List.take_succ,h];rfl
theorem Vm {w : World}(p : OE)(hp : p.Nj)(x : Nat)(hx : x < 65536){sa ra : Option Addr}{sc rc : Nat}(succ ref : List Nat)(hs : MG succ)(hr : MG ref)(r : Nat)(iZ : r <= p.Mq)(lB : r = 0 -> ref = [])
  (hG:M7 w 0 (OZ .gamma) 260) (hU:M7 w 1 (OZ .unary) 260) (dQ:Rd w (.slice sa succ.length sc) 1 succ.length (succ.map Mx)) (lJ:Rd w (.slice ra ref.length rc) 1 ref.length (ref.map Mx)) (fA:succ.length<=sc) (mT:ref.length<=rc):
  Mw Tryz.prog 201 [lpV p,I (x:Int),.slice sa succ.length sc,.slice ra ref.length rc,I (r:Int)] w λu w'=>Sl w' u 323 3 (Oe p x succ ref r).length ((Oe p x succ ref r).flatMap z3t)/\(∀g,u.ownBlock=some g->w.heap.size<=g)/\Ext w w':=by
 obtain⟨g1,g2,g3,g4⟩:=id hp
 have fT:=hs.len
 have gW:=hr.len
 refine It (e:=[(0,_),(1,_),(2,_),(3,_),(4,_)]) Tryz.func201 O Tryz.ntmps201 O O$ qN O$ M5 O O (O2 O (cs:=WC p) O) ?_
 rintro _ w1 ⟨b5,rfl,fE,ad,aI⟩
 have z1:=ad.size
 have l5:=aI.lt
 refine Me O$ qM O$ qV (Mv (news:=[.int .u8 1,Mh 0]) OV O ND O ((ad.LY hG).cells (n:=2) O) O)$ LW O$ O9 Mr O$ qV ((by first|exact MQ O U3 Nv (by omega)|exact Ob O U3 Nv)) ?_
 refine qV (OO (cs:=[_,_,_]) RS O z9Q O O)$ M5 O O (SA (cs:=[_,_,_]) (zs:=[Value.int .u8 0,Value.int .u64 0,Value.int .u64 0]) WA RS O (by kernel_rfl) O O O (by decide)) ?_
 rintro _ w2 ⟨b2,rfl,⟨bY,af,am⟩,cH⟩
 have z2:=af.size
 have l2:=am.lt
 refine M5 O O (Oo (cs:=[_]) z7c O) ?_
 rintro _ w3 ⟨n11,rfl,iU,ai,aL⟩
 have z3:=ai.size
 refine Mb O (NT z7c O O O aL (by simp)) ?_
 rintro w4 ⟨kO,av⟩
 have z4:=av.size
 replace kO:M7 w4 n11 [.slice (some ⟨b2,0,none⟩) 1 1] 320:=kO
 have dV:=(cH.ext ai).kp av (λg hg e=>by have h1:b2=g:=NF hg;omega)
 have uo:NuI w w1 p b5 n11 [(.gamma,succ.length)] w4:=⟨⟨YB n11 (.slice (some ⟨b2,0,none⟩) 1 1),⟨_,⟨kO,dV,λe=>by have h1:b2=n11:=NF e;omega⟩,λ_=>Iff.rfl⟩,λk hk=>by
   rcases hk with e| e
   ·omega
   ·have h1:b2=k:=NF e
    omega⟩,((ad.trans af).trans ai).LS av (λk e=>by omega),av.LY (ai.LY (af.LY aI)) (by omega),by omega⟩
 refine LX$ run_seq$ qN O$ LW O$ O9 Mr O$ O3 O O$ LX$ M8 O (λe0=>?_)$ λe0=>?_
 ·have eP:succ=[]:=List.eq_nil_of_length_eq_zero (by omega);subst eP;refine qN O$ qV (M1 WA O O kO O)$ M4 O$ LZ Tryz.func201 O ?_;have lI:Oe p x [] ref r=[(.gamma,0)]:=by simp[Oe]
  rw[lI];exact⟨_,rfl,dV,λg hg=>by have h1:b2=g:=NF hg;omega,uo.ext⟩
 ·have gJ := uo.b5; replace gJ : M7 w4 b5 [I (p.Mq : Int), I (p.interval : Int), I (p.zeta : Int)] 212 := gJ; refine py (qN O (qV (Zm (first := []) (caps := [.tmp 11]) O O) (M4 O (run_seq (qN O (Ma PN O (qV (M1 U3 O O gJ O) (Ng O O (LX (MM (λe' w' => e' = [(1, I (x : Int)), (2, .slice sa succ.length sc), (3, .slice ra ref.length rc), (4, I (r : Int)), (5, ptr b5 0), (11, ptr n11 0), (12, .func (.func 227) #[] #[ptr n11 0])] /\ NuI w w1 p b5 n11 ([(.gamma, succ.length)] ++ (if 0 < p.Mq then [(.unary, r)] else [])) w') ?cA (λcA => ?cS)))))))))))
  case cA =>
   rintro e' w5 ⟨rfl,ss⟩;have Bi:=ss.siz;refine qN O$ M5 O O (SA (cs:=[_]) (zs:=[Value.int .i64 0]) O8 MV O (by kernel_rfl) O O O (by decide)) ?_;rintro _ w6 ⟨b43,rfl,⟨Bj,aJ,dR⟩,mU⟩;have l6:=dR.lt;refine M5 O O (Oo (cs:=[_]) z32 O) ?_;rintro _ w7 ⟨rn,rfl,Hp,ck,vw⟩;have l7:=vw.lt;have z7:=ck.size;refine M5 O O (Oo (cs:=[_]) Pq O) ?_;rintro _ w8 ⟨lf,rfl,Hq,dw,vx⟩;have l8:=vx.lt;have z8:=dw.size;refine Mb O (NT z32 O O O (dw.LY vw) (by simp)) ?_;rintro w9 ⟨mV,aO⟩;have z9:=aO.size;replace mV:M7 w9 rn [.slice (some ⟨b43,0,none⟩) 1 1] 40:=mV;refine Mb O (NT Pq O O O (aO.LY vx (by omega)) (by simp)) ?_;rintro w10 ⟨jR,aq⟩;have z10:=aq.size;replace jR:M7 w10 lf [.slice none 0 0] 45:=jR;have fU:Ext w5 w10:=(((aJ.trans ck).trans dw).LS aO (λk e=>by omega)).LS aq (λk e=>by omega)
   have pa:NuI w w1 p b5 n11 ([(.gamma,succ.length)]++(if 0<p.Mq then [(.unary,r)] else [])) w10:=by
    obtain⟨⟨F,h1,h2⟩,h3,h4,h5⟩:=ss;exact⟨⟨F,h1.ext fU,h2⟩,h3.trans fU,fU.LY h4,by have:=fU.size;omega⟩
   have bq:=(((mU.ext ck).ext dw).kp aO (λg hg e=>by have h1:b43=g:=NF hg;omega)).kp aq (λg hg e=>by have h1:b43=g:=NF hg;omega);have Hr:ZG w10 lf [] (YB lf (.slice none 0 0)):=⟨_,⟨jR,Sl.nil _ _ _,λe=>by cases e⟩,λ_=>Iff.rfl⟩;have Hs:Yq w10 rn [0] (YB rn (.slice (some ⟨b43,0,none⟩) 1 1)):=⟨_,⟨aq.LY mV (by omega),bq,λe=>by have h1:b43=rn:=NF e;omega⟩,λ_=>Iff.rfl⟩
   have lK:∀k,YB lf (.slice none 0 0) k->k=lf:=λk hk=>by
    rcases hk with e| e
    ·exact e
    ·cases e
   have kJ:∀k,YB rn (.slice (some ⟨b43,0,none⟩) 1 1) k->k=rn\/k=b43:=λk hk=>by
    rcases hk with e| e
    ·exact .inl e
    ·exact .inr (NF e).symm
   have cM:∀k,YB lf (.slice none 0 0) k\/YB rn (.slice (some ⟨b43,0,none⟩) 1 1) k->w5.heap.size<=k:=λk hk=>by
    rcases hk with e| e
    ·have:=lK k e;omega
    ·rcases kJ k e with e|e<;>omega
   have hE:QE w10 succ ref lf rn (YB lf (.slice none 0 0)) (YB rn (.slice (some ⟨b43,0,none⟩) 1 1)) succ sa sc ref ra rc [] [0] w10:=by
    refine⟨⟨_,_,[],Hr,Hs,Q5.zero,by simpa using gW,by simp;omega,λk h=> .inl h,λk h=> .inl h,λk h1 h2=>?_⟩,λw2 k=>?_,λw2 k=>?_,fA,mT,Kp.refl _ _,hs,hr,rfl,rfl,by simpa using fT⟩
    ·have e1:=lK k h1;rcases kJ k h2 with e2|e2<;>omega
    ·exact(dQ.ext pa.ext).kpz k (λh0 g hg hS=>by have e1:=dQ.ltz (by decide) h0 hg;have e2:=cM g hS;omega)
    ·exact(lJ.ext pa.ext).kpz k (λh0 g hg hS=>by have e1:=lJ.ltz (by decide) h0 hg;have e2:=cM g hS;omega)
   refine qM O$ Md O O$ qV (Zm (first:=[]) (caps:=[.tmp 14,.tmp 13]) O O)$ Mn zeR O (z7x hE) ?_;rintro _ w11 ⟨rfl,FL,FR,vy,pd,Bk,Bl,iQ,bC⟩
   have pe:NuI w w1 p b5 n11 ([(.gamma,succ.length)]++(if 0<p.Mq then [(.unary,r)] else [])) w11:=by
    have aQ:Kp (λk=>YB lf (.slice none 0 0) k\/YB rn (.slice (some ⟨b43,0,none⟩) 1 1) k) w10 w11:=bC;have Bm:=ss.ex;obtain⟨⟨F,h1,h2⟩,h3,h4,h5⟩:=pa;obtain⟨F5,h6,h7⟩:=Bm;have fE:b5<w5.heap.size:=ss.b5.lt;refine⟨⟨F5,(h6.ext fU).kp aQ (λk hk hS=>by have e1:=h6.lt hk;have e2:=cM k hS;omega),h7⟩,h3.LS aQ (λk hk=>by have e2:=cM k hk;have:=ss.ext.size;omega),aQ.LY h4 (λhS=>by have e2:=cM b5 hS;omega),by have:=aQ.size;omega⟩
   generalize hA:([(Cd.gamma,succ.length)]++(if 0<p.Mq then [(Cd.unary,r)] else []):List (Cd×Nat))=A at pe pa ss
   have L0:A.length<=2:=by rw[<-hA];split<;>simp
   have vz:∀k,(FL k\/FR k)->k<w11.heap.size:=λk hk=>by
    rcases hk with e| e
    ·exact vy.lt e
    ·exact pd.lt e
   have pf:Yi w w1 w11 p b5 n11 (λk=>FL k\/FR k) A w11:=by
    obtain⟨F5,h6,h7⟩:=ss.ex;have L2:=fU.size;refine⟨⟨F5,(h6.ext fU).kp bC (λk hk hS=>by have e1:=h6.lt hk;have e2:=cM k hS;omega),h7,λk hk hX=>?_⟩,pe.ext,pe.b5,pe.siz,Kp.refl _ _⟩;have e1:=h6.lt hk;rcases hX with e| e
    ·rcases Bk k e with e2|e2
     ·have:=cM k (.inl e2);omega
     ·omega
    ·rcases Bl k e with e2|e2
     ·have:=cM k (.inr e2);omega
     ·omega
   refine LX$ run_seq$ qN O$ LW O$ Ng O O$ LX$ MM (λe' w'=>e'=[(1,I (x:Int)),(5,ptr b5 0),(11,ptr n11 0),(12,.func (.func 227) #[] #[ptr n11 0]),(14,ptr lf 0)]/\Yi w w1 w11 p b5 n11 (λk=>FL k\/FR k) (A++(if 0<r then(.gamma,(NY succ ref).length-1)::runNums 0 (NY succ ref).dropLast else [])) w') ?dO$ λdO=>?eS
   case dO =>
    rintro e' w12 ⟨rfl,j0⟩;have iK:succ≠[]:=λe=>e0 (by rw[e];rfl)
    generalize hB:(if 0<r then(Cd.gamma,(NY succ ref).length-1)::runNums 0 (NY succ ref).dropLast else []:List (Cd×Nat))=B at j0
    have vA:=vy.kp j0.kx (λk hk e=>e (.inl hk));obtain⟨vl,zr,L3⟩:=vA;obtain⟨la,lc,rfl,-⟩:=zr.sl.rd.shape;obtain⟨F,⟨vn,qG,vB⟩,ph,Bn⟩:=id j0.ex;have zt:=zr.LY;have su:=qG.LY;refine run_seq$ qN O$ qV ((by first|exact M1 Mr O O zt O|exact M1 Mr O O su O)) ?_;refine O9 Mr O$ O3 O O$ LX$ M8 O (λe3=>?_)$ λe3=>?_
    ·have jE:leftOf succ ref=[]:=List.eq_nil_of_length_eq_zero (by omega)
     have mW:Oe p x succ ref r=A++B:=by
      unfold Oe;rw[if_neg iK,if_pos jE,List.append_nil,<-hA,<-hB];rfl
     refine qN O$ qV ((by first|exact M1 WA O O zt O|exact M1 WA O O su O)) ?_;refine M4 O$ LZ Tryz.func201 O ?_;rw[mW];exact⟨_,rfl,qG.sl,λg hg=>by have:=ph g ((vB g).2 (.inr hg));omega,j0.ext⟩
    ·have pi := j0.b5; replace pi : M7 w12 b5 [I (p.Mq : Int), I (p.interval : Int), I (p.zeta : Int)] 212 := pi; refine py (qN O (qV ((by first | exact M1 Mr O O zt O | exact M1 Mr O O pi O)) ?_)); refine Ma QF O (qV ((by first | exact M1 U3 O O zt O | exact M1 U3 O O pi O)) ?_); have az : MG (leftOf succ ref) := hs.sub List.filter_sublist; have Ht := az.len
     have ij:(leftOf succ ref).length<=lc:=by
      rcases zr.sl.shape with⟨-,h0⟩|⟨g,c1,hv,dP⟩
      ·omega
      ·cases hv;exact dP
     refine Mn zd3 O (z7W la lc (leftOf succ ref) p.interval az ij (by omega) w12 zr.sl.rd) ?_;rintro _ w13 ⟨v4,v5,rfl,lL,mX,aN,pj,pn,Fz⟩;have dv:=Rg p.interval (leftOf succ ref);have po:MG (rowsN p.interval (leftOf succ ref)).2:=az.sub dv
     have gB:∀k,(v4.ownBlock=some k\/v5.ownBlock=some k)->w12.heap.size<=k/\k<w13.heap.size:=λk hk=>by
      rcases hk with e| e
      ·exact⟨pj k e,lL.lt e⟩
      ·exact⟨pn k e,mX.lt e⟩
     have pp:Yi w w1 w13 p b5 n11 (λk=>v4.ownBlock=some k\/v5.ownBlock=some k) (A++B) w13:=by
      have jC:∀k,F k->k<w12.heap.size:=λk hk=>by
       rcases (vB k).1 hk with e| e
       ·rw[e];exact qG.LY.lt
       ·exact qG.sl.lt e
      have vC:z1l w12 n11 (A++B) F:=⟨vn,qG,vB⟩;exact⟨⟨F,vC.ext aN,ph,λk hk hX=>by have e1:=jC k hk;have e2:=(gB k hX).1;omega⟩,j0.ext.trans aN,aN.LY j0.b5,by have e1:=j0.siz;have e2:=aN.size;omega,Kp.refl _ _⟩
     have vD:=aN.LY pi;have Hu:=lL.oneV;have Hv:=mX.oneV;refine LW O$ N5 O O$ N5 O O$ Me O$ M4 O$ run_seq$ qN O$ Ma QF O$ qV (M1 U3 O O vD O)$ Ng O O$ LX ?_
     have Hw:(A++B).length<=200000:=by
      rw[List.length_append,<-hB];split
      ·rw[List.length_cons,PL,List.length_dropLast];have h1:=(PE succ ref).Y9;rw[List.length_map] at h1;omega
      ·simp;omega
     generalize hQ:rowsN p.interval (leftOf succ ref)=Q at lL mX po dv
     have L4 : Q.1.length <= 65536 := by
      have h1:=Qd p.interval (leftOf succ ref);have h2:=h1.length_eq;rw[hQ,List.length_append] at h2
      have h3:∀R:List (Nat×Nat),Px p.interval 0 R->R.length<=(NJ R).length:=by
       have h4:∀(R:List (Nat×Nat)) (lo:Nat),Px p.interval lo R->R.length<=(NJ R).length:=by
        intro R
        induction R with
        |nil=>intro lo h;exact Nat.le_refl _
        | cons q R ih =>
          intro lo h;have h5:=ih _ h.2.2.2;have h6:1<=q.2:=h.2.1;rw[show NJ (q::R)=(List.range q.2).map (q.1+·)++NJ R from rfl,List.length_append,List.length_map,List.length_range,List.length_cons];omega
       exact λR h=>h4 R 0 h
      have h5:=h3 _ (Ry p.interval (leftOf succ ref) 0 az.W4 (λy _=>Nat.zero_le _));rw[hQ] at h5;omega
     have pq:Px p.interval 0 Q.1:=by have h:=Ry p.interval (leftOf succ ref) 0 az.W4 (λy _=>Nat.zero_le _);rwa [hQ] at h
     have sw:∀q∈Q.1,1<=q.2->q.1+q.2<=65536:=λq hq h1=>z6F (least:=p.interval) az.lt (by rw[hQ];exact hq) h1
     have vE:∃fa fc,v4= .slice fa Q.1.length fc:=by
      obtain⟨fa,fc,e,-⟩:=lL.rd.shape;exact⟨fa,fc,e⟩
     obtain⟨fa,fc,rfl⟩:=vE;refine MM (λe' w'=>e'=[(1,I (x:Int)),(5,ptr b5 0),(11,ptr n11 0),(12,.func (.func 227) #[] #[ptr n11 0]),(17,.slice fa Q.1.length fc),(18,v5)]/\Yi w w1 w13 p b5 n11 (λk=>(Value.slice fa Q.1.length fc).ownBlock=some k\/v5.ownBlock=some k) (A++B++if 0<p.interval then [(.gamma,Q.1.length)] else []) w') ?ax$ λax=>?dx
     case ax =>
      rintro e' w14 ⟨rfl,vF⟩;refine qN O$ M4 O$ run_seq$ qN O$ LW O$ O9 z6W O$ LW O$ LX$ LU ?_
      generalize Bo:(if 0<p.interval then [(Cd.gamma,Q.1.length)] else []:List (Cd×Nat))=C0 at vF
      refine Ot (λe' w'=>e'=[(1,I (x:Int)),(5,ptr b5 0),(11,ptr n11 0),(12,.func (.func 227) #[] #[ptr n11 0]),(18,v5)]/\Yi w w1 w13 p b5 n11 (λk=>(Value.slice fa Q.1.length fc).ownBlock=some k\/v5.ownBlock=some k) (A++B++C0++longNums x p.interval none Q.1) w') ?jO$ λjO=>?jQ
      case jO =>
       rintro e' w15 ⟨rfl,fV⟩;obtain⟨F15,fW,lM,j3⟩:=fV.ex;have mY:=fV.b5;replace mY:M7 w15 b5 [I (p.Mq:Int),I (p.interval:Int),I (p.zeta:Int)] 212:=mY;refine qN O$ Ma WO O$ qV (M1 U3 O O mY O)$ qV ((by first|exact MQ O U3 Nv (by omega)|exact Ob O U3 Nv)) ?_;refine qV (OO (cs:=[_,_]) ND O zap O O)$ M5 O O (Oo (cs:=[_,_]) ND O) ?_;rintro _ w16 ⟨b22,rfl,Hx,aZ,ik⟩;have z16:=aZ.size;refine Mb O (MO (news:=[.int .u8 3,Mh p.zeta]) ND O O O O ik (by simp)) ?_;rintro w17 ⟨kP,bX⟩;replace kP:M7 w17 b22 [.int .u8 3,Mh p.zeta] 260:=kP;have fm:Ext w15 w17:=aZ.LS bX (λk e=>by omega);have z17:=fm.size;have cX:¬F15 b22:=λe=>by have:=fW.lt e;omega
       have en:=(mX.kp fV.kx (λg hg e=>e (.inr hg))).ext fm
       obtain⟨ha,hc,e5⟩:∃a c,v5= .slice a Q.2.length c:=by
        obtain⟨fa,fc,e,-⟩:=mX.rd.shape;exact⟨fa,fc,e⟩
       subst e5;have lN:=(fV.ex2 fm).again (X':=λk=>(Value.slice ha Q.2.length hc).ownBlock=some k\/k=b22) (fW.ext fm) lM (λk hk hX=>by rcases hX with hX|e;exact j3 k hk (.inr hX);exact cX (e▸hk));have l22:=kP.lt
       have eX:∀k,((Value.slice ha Q.2.length hc).ownBlock=some k\/k=b22)->k<w17.heap.size:=λk hk=>by
        rcases hk with e| e
        ·have:=en.lt e;omega
        ·omega
       have L5:=po.len
       have Bp:(A++B++C0++longNums x p.interval none Q.1).length<=400000:=by
        rw[List.length_append,List.length_append,P3,<-Bo];split<;>simp only[List.length_cons,List.length_nil]<;>omega
       refine LX$ run_seq$ qN O$ LW O$ O9 Mr O$ LW O$ LX$ LU$ Oh (α:=Nat) (0) (λi=>[(1,I (x:Int)),(11,ptr n11 0),(12,.func (.func 227) #[] #[ptr n11 0]),(18,.slice ha Q.2.length hc),(22,ptr b22 0),(138,.slice ha Q.2.length hc),(139,I (Q.2.length:Int)),(140,I (i:Int))]) (λi w'=>Yi w w1 w17 p b5 n11 (λk=>(Value.slice ha Q.2.length hc).ownBlock=some k\/k=b22) (A++B++C0++longNums x p.interval none Q.1++restNums x p.zeta none (Q.2.take i)) w'/\i<=Q.2.length) (λi=>Q.2.length-i) ?hI ?hround
       case hI=>exact⟨by simpa[restNums] using lN,Nat.zero_le _⟩
       case hround=>
        rintro i w18 ⟨eY,hi⟩ ih
        try dsimp only
        refine qN O$ Ni O O$ LX$ run_seq$ M8 O (λe5=>?_)$ λe5=>?_
        ·have dA:i<Q.2.length:=by omega
         obtain⟨v,hv⟩:∃v,Q.2[i]? =some v:=⟨_,List.getElem?_eq_getElem dA⟩;have vG:v<65536:=po.lt v (List.mem_of_getElem? hv);have vH:=en.kp eY.kx (λg hg e=>e (.inl hg))
         obtain⟨g5,c5,e6⟩:∃g c,Value.slice ha Q.2.length hc= .slice (some ⟨g,0,none⟩) Q.2.length c:=by
          rcases en.shape with⟨-,h0⟩|⟨g,c,e,hc⟩
          ·omega
          ·exact⟨g,c,e⟩
         cases e6;obtain⟨F18,kQ,pu,gX⟩:=eY.ex;have vI:=eY.kx.LY kP (λe=>e (.inr O));have qH:¬F18 b22:=λe=>gX b22 e (.inr O);have hg:=Ext.Mm w18;have zu:=eY.ex2 hg
         have pw:(A++B++C0++longNums x p.interval none Q.1++restNums x p.zeta none (Q.2.take i)).length<=500000:=by
          rw[List.length_append,PT,List.length_take];omega
         refine py$ run_seq$ LU$ qN O$ LW O$ qV (MS Mr Mi O O (by omega))$ qV (MA Np O O (Na vH.rd (show(Q.2.map Mx)[i]? =some (Mx v) by rw[List.getElem?_map,hv];rfl))) ?_;refine Me O$ Me O$ qM O$ LW O$ O3 O O$ LX$ M8 O (λe6=>?_)$ λe6=>?_
         ·have jS:i=0:=by omega
          refine NV (λw'=>Kp F18 w18 w') O$ Mj 0 O O (hg.kp)$ Mj 2 O O (hg.kp)$ M3 3 O (MK O Np U2 (by omega)) (hg.kp)$ Mj 4 O O (hg.kp)$ M3 5 O (TO O O (by omega)) (hg.kp)$ qT 1 O (λ_ h=>Mv (news:=[.int .u8 3,Mh p.zeta]) OV O ND O ((h.LY vI qH).cells (n:=2) O) O) (hg.kp)$ Pm 6 O z9L O (z4w ((v:Int)-x) (by omega) _) ?_;rintro _ w19 ⟨rfl,rfl⟩;refine⟨hg.kp,?_⟩;have vJ:=W2 (z:=(v:Int)-x) (n:=65537) (by omega) (by omega);refine M3 7 O (MK O Nv U3 (by omega)) (hg.kp)$ qO 8$ SJ (i:=8) O O O (OK UP O O) (PO (kQ.ext hg) (by omega) (.zeta p.zeta) (zig ((v:Int)-x)) (by omega)) ?_;rintro _ w20 ⟨rfl,F20,sx,mZ,sy⟩;refine⟨hg.kp.trans mZ,?_⟩;have px:=zu.put eX pu gX l5 z1 ⟨F20,sx,mZ,sy⟩;refine qE$ LV$ M0 O$ MT O O$ LW O$ LX ((ih (i+1) _ ⟨?_,by omega⟩ (by omega)).qb);rw[MP hv,TM,<-List.append_assoc,show Q.2.take i=[] by rw[jS];rfl];rw[show Q.2.take i=[] by rw[jS];rfl] at px;exact px
         ·have jS:0<i:=by omega
          obtain⟨u,hu⟩:∃u,Q.2[i-1]? =some u:=⟨_,List.getElem?_eq_getElem (by omega)⟩
          have L6:u<v:=by
           obtain⟨a1,a2⟩:=List.getElem?_eq_some_iff.1 hu;obtain⟨b1,b2⟩:=List.getElem?_eq_some_iff.1 hv;have:=List.pairwise_iff_getElem.1 po.W4 (i-1) i a1 b1 (by omega)
           rwa [a2,b2] at this
          refine NV (λw'=>Kp F18 w18 w') O$ Mj 0 O O (hg.kp)$ Mj 2 O O (hg.kp)$ Mj 3 O O (hg.kp)$ Mj 4 O O (hg.kp)$ qT 1 O (λ_ h=>Mv (news:=[.int .u8 3,Mh p.zeta]) OV O ND O ((h.LY vI qH).cells (n:=2) O) O) (hg.kp)$ M3 5 O (TO O O (by omega)) (hg.kp) ?_;rw[show(i:Int)-1=((i-1:Nat):Int) by omega];refine M3 6 O (MS Mr Mi O O (by omega)) (hg.kp)$ qT 7 O (λ_ hS=>MA Np O O (Na (vH.kp hS (λg hg e=>gX g e (.inl hg))).rd (show(Q.2.map Mx)[i-1]? =some (Mx u) by rw[List.getElem?_map,hu];rfl))) (hg.kp) ?_;refine M3 8 O (SC (m:=v) (n:=u) O O O (by show v<2^32;omega) (by omega)) (hg.kp) ?_;refine M3 9 O (SC (m:=v-u) (n:=1) O O O (by show v-u<2^32;omega) (by omega)) (hg.kp) ?_;refine M3 10 O (MK O Np U3 (by omega)) (hg.kp)$ qO 11$ SJ (i:=11) O O O (OK UP O O) (PO (kQ.ext hg) (by omega) (.zeta p.zeta) (v-u-1) (by omega)) ?_;rintro _ w20 ⟨rfl,F20,sx,mZ,sy⟩;refine⟨hg.kp.trans mZ,?_⟩;have px:=zu.put eX pu gX l5 z1 ⟨F20,sx,mZ,sy⟩;refine qE$ LV$ M0 O$ MT O O$ LW O$ LX ((ih (i+1) _ ⟨?_,by omega⟩ (by omega)).qb);rw[MP hv,TM,<-List.append_assoc,List.getLast?_take,if_neg (by omega),hu];exact px
        ·have cy:i=Q.2.length:=by omega
         rw[cy,List.take_length] at eY;obtain⟨F,⟨vn,qG,vB⟩,ph,Bn⟩:=id eY.ex;have su:=qG.LY
         have mW:Oe p x succ ref r=A++B++C0++longNums x p.interval none Q.1++restNums x p.zeta none Q.2:=by
          have jE:¬leftOf succ ref=[]:=λe=>e3 (by rw[e];rfl);unfold Oe;rw[if_neg iK,if_neg jE,hQ,hB,<-hA,<-Bo];by_cases jS:0<p.interval
          ·simp only[if_pos jS,List.append_assoc,List.cons_append,List.nil_append]
          ·have cU:Q.1=[]:=by rw[<-hQ,show p.interval=0 by omega];exact Uk _
           rw[cU];simp only[if_neg jS,List.append_assoc,List.cons_append,List.nil_append,longNums]
         refine M6 O$ qN O$ qV (M1 WA O O su O)$ M4 O$ LZ Tryz.func201 O ?_;rw[mW];exact⟨_,rfl,qG.sl,λg hg=>by have:=ph g ((vB g).2 (.inr hg));omega,eY.ext⟩
      case jQ=>
       refine Oh (α:=Nat) (0) (λi=>[(1,I (x:Int)),(5,ptr b5 0),(11,ptr n11 0),(12,.func (.func 227) #[] #[ptr n11 0]),(18,v5),(19,I (z2G (UZ (Q.1.take i)))),(94,.slice fa Q.1.length fc),(95,I (Q.1.length:Int)),(96,I (i:Int))]) (λi w'=>Yi w w1 w13 p b5 n11 (λk=>(Value.slice fa Q.1.length fc).ownBlock=some k\/v5.ownBlock=some k) (A++B++C0++longNums x p.interval none (Q.1.take i)) w'/\i<=Q.1.length) (λi=>Q.1.length-i) ?hI ?hround
       case hI=>exact⟨by simpa[longNums] using vF,Nat.zero_le _⟩
       case hround =>
        rintro i w15 ⟨fV,hi⟩ ih
        try dsimp only
        refine qN O$ Ni O O$ LX$ run_seq$ M8 O (λe5=>?_)$ λe5=>?_
        ·have dA:i<Q.1.length:=by omega
         obtain⟨⟨q1,q2⟩,hq⟩:∃q,Q.1[i]? =some q:=⟨_,List.getElem?_eq_getElem dA⟩;obtain⟨ok1,ok2,ok3,-⟩:=VP Q.1 0 i (q1,q2) pq hq;dsimp only at ok1 ok2 ok3;have L7:q1+q2<=65536:=sw (q1,q2) (List.mem_of_getElem? hq) ok1;have Bq:=lL.kp fV.kx (λg hg e=>e (.inl hg))
         obtain⟨g4,c4,e4⟩:∃g c,Value.slice fa Q.1.length fc= .slice (some ⟨g,0,none⟩) Q.1.length c:=by
          rcases lL.shape with⟨-,h0⟩|⟨g,c,e,hc⟩
          ·omega
          ·exact⟨g,c,e⟩
         cases e4;obtain⟨F15,fW,lM,j3⟩:=fV.ex;refine py$ run_seq$ LU$ qN O$ qV (MS z6W Y1 O O (by omega))$ qV (Mv (news:=[I (q1:Int),I (q2:Int)]) zg4 O Y1 O (z7e Bq.rd hq) O)$ M5 O O (Oo (cs:=[_,_]) Y1 O) ?_;rintro _ w16 ⟨b21,rfl,Hy,aZ,Br⟩;have z16:=aZ.size;refine Mb O (MO (news:=[I (q1:Int),I (q2:Int)]) Y1 O O O O Br (by simp)) ?_;rintro w17 ⟨fX,bX⟩;replace fX:M7 w17 b21 [I (q1:Int),I (q2:Int)] 350:=fX;have fm:Ext w15 w17:=aZ.LS bX (λk e=>by omega);have lN:=fV.ex2 fm;have cX:¬F15 b21:=λe=>by have:=fW.lt e;omega
         have oq:¬F15 0:=λe=>by have:=lM 0 e;have:=hG.lt;omega
         have Bp:(A++B++C0++longNums x p.interval none (Q.1.take i)).length<=400000:=by
          rw[List.length_append,List.length_append,P3,List.length_take,<-Bo];split<;>simp only[List.length_cons,List.length_nil]<;>omega
         refine LX$ run_seq$ qN O$ LW O$ Ni O O$ LX ?_;have qI:=lN.again (X':=(λk=>((Value.slice (some ⟨g4,0,none⟩) Q.1.length fc).ownBlock=some k\/v5.ownBlock=some k)\/k=b21)) (fW.ext fm) lM (λk hk hX=>by rcases hX with hX|e;exact j3 k hk hX;exact cX (e▸hk));have Hz:=fm.size;have l21:=fX.lt
         have eX:∀k,(((Value.slice (some ⟨g4,0,none⟩) Q.1.length fc).ownBlock=some k\/v5.ownBlock=some k)\/k=b21)->k<w17.heap.size:=λk hk=>by
          rcases hk with e| e
          ·have:=(gB k e).2;have:=fV.kx.size;omega
          ·omega
         refine MM (λe' w'=>e'=[(1,I (x:Int)),(5,ptr b5 0),(11,ptr n11 0),(12,.func (.func 227) #[] #[ptr n11 0]),(18,v5),(21,ptr b21 0),(94,.slice (some ⟨g4,0,none⟩) Q.1.length fc),(95,I (Q.1.length:Int)),(96,I (i:Int))]/\Yi w w1 w17 p b5 n11 (λk=>((Value.slice (some ⟨g4,0,none⟩) Q.1.length fc).ownBlock=some k\/v5.ownBlock=some k)\/k=b21) (A++B++C0++longNums x p.interval none (Q.1.take i)++[(.gamma,QY x (UZ (Q.1.take i)) q1)]) w') ?dm$ λdm=>?Bt
         case dm=>
          rintro e' w18 ⟨rfl,eY⟩;obtain⟨F18,kQ,pu,gX⟩:=eY.ex;have qK:=eY.kx.LY fX (λe=>e (.inr O));have kR:=eY.b5;replace kR:M7 w18 b5 [I (p.Mq:Int),I (p.interval:Int),I (p.zeta:Int)] 212:=kR;refine qN O$ LW O$ qV (Mv (news:=[.int .u8 1,Mh 0]) OV O ND O ((eY.ext.LY hG).cells (n:=2) O) O)$ Ma z48 O$ qV ((by first|exact M1 U3 O O qK O|exact M1 U3 O O kR O)) ?_;refine Ma QF O$ qV ((by first|exact M1 U3 O O qK O|exact M1 U3 O O kR O)) ?_;refine Oa O O ?_;rw[show(q2:Int)-(p.interval:Int)=((q2-p.interval:Nat):Int) by omega];refine Ny O O (OK UP O O) (PO kQ (by rw[List.length_append,List.length_singleton];omega) .gamma (q2-p.interval) (by omega)) ?_;rintro _ w19 ⟨rfl,Bs⟩;have vK:=eY.put eX pu gX l5 z1 Bs;have qP:=vK.kx.LY fX (λe=>e (.inr O));refine LX$ M0 O$ Ma ZX O$ qV (M1 U3 O O qP O)$ Ma z48 O$ qV (M1 U3 O O qP O)$ MT O O$ Oa O O$ M4 O$ LV$ M0 O$ MT O O$ LW O$ LX ?_;rw[show(q1:Int)+q2-1=z2G (UZ (Q.1.take (i+1))) by rw[MP hq,z5d];show _=((q1+q2-1:Nat):Int);omega];refine(ih (i+1) _ ⟨?_,by omega⟩ (by omega)).qb;rw[MP hq,YA,<-List.append_assoc,show [(Cd.gamma,QY x (UZ (Q.1.take i)) q1),(Cd.gamma,q2-p.interval)]=[(Cd.gamma,QY x (UZ (Q.1.take i)) q1)]++[(Cd.gamma,q2-p.interval)] from rfl,<-List.append_assoc];exact lN.back vK (λk hk=> .inl hk)
         case Bt=>
          have hg:=Ext.Mm w17;have zu:=qI.ex2 hg
          cases hE:UZ (Q.1.take i) with
          | none =>
            refine M8 O (λe6=>?_)$ λe6=>?_
            ·refine NV (λw'=>Kp F15 w17 w') O$ Mj 0 O O (hg.kp)$ M3 2 O (My ZX O) (hg.kp)$ qT 3 O (λ_ h=>M1 U3 O O (h.LY fX cX) O) (hg.kp)$ Mj 4 O O (hg.kp)$ M3 5 O (TO O O (by omega)) (hg.kp)$ qT 1 O (λ_ hS=>Mv (news:=[.int .u8 1,Mh 0]) OV O ND O ((hS.LY (lN.ext.LY hG) oq).cells (n:=2) O) O) (hg.kp)$ Pm 6 O z9L O (z4w ((q1:Int)-x) (by omega) _) ?_;rintro _ w18 ⟨rfl,rfl⟩;refine⟨hg.kp,?_⟩;have vJ:=W2 (z:=(q1:Int)-x) (n:=65537) (by omega) (by omega);refine M3 7 O (MK O Nv U3 (by omega)) (hg.kp)$ qO 8$ SJ (i:=8) O O O (OK UP O O) (PO ((fW.ext fm).ext hg) (by omega) .gamma (zig ((q1:Int)-x)) (by omega)) ?_;rintro _ w19 ⟨rfl,F19,Bu,vL,Bv⟩;refine⟨hg.kp.trans vL,?_⟩;refine qE ?_;exact(dm _ _ ⟨rfl,by rw[hE];exact zu.put eX lM (λk hk hX=>by rcases hX with hX|e;exact j3 k hk hX;exact cX (e▸hk)) l5 z1 ⟨F19,Bu,vL,Bv⟩⟩).qb
            ·exact absurd (by decide) e6
          | some z =>
            refine M8 O (λe6=>?_)$ λe6=>?_
            ·exact absurd e6 (by show ¬((z:Int)<0);omega)
            ·have hz:=ok3 z hE;refine M0 O$ LW O$ qV (Mv (news:=[.int .u8 1,Mh 0]) OV O ND O ((lN.ext.LY hG).cells (n:=2) O) O) ?_;rw[show z2G (some z)=(z:Int) from rfl];refine Ma ZX O$ qV (M1 U3 O O fX O)$ LW O$ Oa O O$ Oa O O ?_;rw[show(q1:Int)-z-2=((q1-z-2:Nat):Int) by omega];refine Ny O O (OK UP O O) (PO (fW.ext fm) (by omega) .gamma (q1-z-2) (by omega)) ?_;rintro _ w18 ⟨rfl,Bw⟩;refine LX ?_;exact(dm _ _ ⟨rfl,by rw[hE];exact qI.put eX lM (λk hk hX=>by rcases hX with hX|e;exact j3 k hk hX;exact cX (e▸hk)) l5 z1 Bw⟩).qb
        ·have cy:i=Q.1.length:=by omega
         rw[cy,List.take_length] at fV;refine M6 O ?_;exact(jO _ _ ⟨rfl,fV⟩).qb
     case dx=>
      refine M8 O (λe4=>?_)$ λe4=>?_
      ·have jS:0<p.interval:=by omega
       obtain⟨F13,na,sA,ng⟩:=pp.ex;refine M0 O$ LW O$ qV (Mv (news:=[.int .u8 1,Mh 0]) OV O ND O ((pp.ext.LY hG).cells (n:=2) O) O)$ LW O$ O9 z6W O$ Ny O O (OK UP O O) (PO na (by omega) .gamma Q.1.length (by omega)) ?_;rintro _ w14 ⟨rfl,sB⟩;refine LX$ Mz.qb (e:=[(1,_),(5,_),(11,_),(12,_),(17,_),(18,_)]) ?_;exact(ax _ _ ⟨rfl,by rw[if_pos jS];exact pp.put (λk hk=>(gB k hk).2) sA ng l5 z1 sB⟩).qb
      ·have jS:¬0<p.interval:=by omega
       refine py ?_;exact(ax _ _ ⟨rfl,by rw[if_neg jS,List.append_nil];exact pp⟩).qb
   case eS =>
    refine M8 O (λe2=>?_)$ λe2=>?_
    ·have sC : 0 < r := by omega
     have pz:=PE succ ref;rw[if_pos sC] at dO
     generalize NY succ ref=rs at pz pd dO
     obtain⟨l,m,rfl⟩:∃l m,rs=l++[m]:=⟨rs.dropLast,rs.getLast pz.ne,(List.dropLast_concat_getLast pz.ne).symm⟩;have sD:(l++[m]).length=l.length+1:=by simp
     have fd:l.length<=65537:=by have h1:=pz.Y9;rw[List.length_map,sD] at h1;omega
     rw[List.dropLast_concat,sD,Nat.add_sub_cancel] at dO;obtain⟨vr,zv,FA⟩:=id pd;rw[sD] at zv;rcases zv.sl.shape with⟨-,h0⟩|⟨g,c1,rfl,dP⟩
     ·omega
     have vM:=zv.LY;obtain⟨F,vC,hf,HA⟩:=pf.ex;refine qN O$ LW O$ qV (Mv (news:=[.int .u8 1,Mh 0]) OV O ND O ((pf.ext.LY hG).cells (n:=2) O) O)$ qV (M1 O8 O O vM O)$ O9 O8 O$ Oa O O ?_;rw[show((l.length+1:Nat):Int)-1=(l.length:Int) by omega];refine Ny O O (OK UP O O) (PO vC (by omega) .gamma l.length (by omega)) ?_;rintro _ w12 ⟨rfl,Bx⟩;have il:=pf.put vz hf HA l5 z1 Bx;have FB:=pd.kp il.kx (λk hk e=>e (.inr hk));have qQ:=il.kx.LY vM (λe=>e (.inr ((FA rn).2 (.inl O))));refine qM O$ qV (M1 O8 O O qQ O) ?_;rw[show((l.length+1:Nat):Int)=((l.length+1:Nat):Int) from rfl];refine qV (M1 O8 O O qQ O)$ O9 O8 O$ Oa O O ?_;rw[show((l.length+1:Nat):Int)-1=(l.length:Int) by omega];refine qV (z7M O8 MV O O (by omega))$ O9 O8 O$ LW O$ LX$ Mz.qb (e:=[(1,_),(5,_),(11,_),(12,_),(14,_),(60,_),(61,_),(62,_)]) ?_;refine LU$ Oh (α:=Nat) (0) (λi=>[(1,I (x:Int)),(5,ptr b5 0),(11,ptr n11 0),(12,.func (.func 227) #[] #[ptr n11 0]),(14,ptr lf 0),(60,.slice (some ⟨g,0,none⟩) l.length c1),(61,I (l.length:Int)),(62,I (i:Int))]) (λi w'=>Yi w w1 w11 p b5 n11 (λk=>FL k\/FR k) (A++(Cd.gamma,l.length)::runNums 0 (l.take i)) w'/\i<=l.length) (λi=>l.length-i) ?hI ?hround
     case hI=>exact⟨il,Nat.zero_le _⟩
     case hround =>
      rintro i w13 ⟨lO,hi⟩ ih
      try dsimp only
      refine qN O$ Ni O O$ LX$ run_seq$ M8 O (λe3=>?_)$ λe3=>?_
      ·have dA:i<l.length:=by omega
       obtain⟨F13,na,sA,ng⟩:=lO.ex;have Bz:=zv.sl.kp lO.kx (λg2 hg e=>e (.inr ((FA g2).2 (.inr hg))));have gH:(l++[m])[i]? =some l[i]:=by rw[List.getElem?_append_left dA,List.getElem?_eq_getElem dA]
       have ib:min i 1<=l[i]:=by
        rcases Nat.eq_zero_or_pos i with e| e
        ·omega
        ·have h1:=pz.pos l[i] (by
          rw[List.mem_iff_getElem?];refine⟨i-1,?_⟩
          rw[List.getElem?_drop,show 1+(i-1)=i by omega];exact gH)
         omega
       have jE:l[i]<=65536:=by
        have h1:=pz.le l[i] (List.mem_append_left _ (List.getElem_mem dA));rw[List.length_map] at h1;omega
       refine py$ run_seq$ LU$ qN O$ LW O$ qV (MS O8 MV O O (by omega))$ qV (MA U3 O O (Na Bz.rd (show((l++[m]).map z3m)[i]? =some (z3m l[i]) by rw[List.getElem?_map,gH];rfl))) ?_;refine Me O$ M4 O$ M0 O$ LW O$ qV (Mv (news:=[.int .u8 1,Mh 0]) OV O ND O ((lO.ext.LY hG).cells (n:=2) O) O)$ Md O O$ qV (ymi O O)$ Oa O O ?_;rw[show(l[i]:Int)-min (i:Int) 1=((l[i]-min i 1:Nat):Int) by omega];refine Ny O O (OK UP O O) (PO na (by have h1:(runNums 0 (l.take i)).length=i:=(by rw[PL,List.length_take];omega);rw[List.length_append,List.length_cons];omega) .gamma (l[i]-min i 1) (by omega)) ?_;rintro _ w14 ⟨rfl,sB⟩;have BA:=lO.put vz sA ng l5 z1 sB;refine LX$ LV$ M0 O$ MT O O$ LW O$ LX ((ih (i+1) _ ⟨?_,by omega⟩ (by omega)).qb);rw[List.take_succ,List.getElem?_eq_getElem dA,Option.toList_some,UU,List.length_take,Nat.min_eq_left hi,Nat.zero_add,<-List.cons_append,<-List.append_assoc];exact BA
      ·have cy:i=l.length:=by omega
       subst cy;rw[List.take_length] at lO;refine M6 O ?_;exact(dO _ _ ⟨rfl,lO⟩).qb
    ·have sC:¬0<r:=by omega
     refine py ?_;exact(dO _ _ ⟨rfl,by rw[if_neg sC,List.append_nil];exact pf⟩).qb
  case cS=>
   refine M8 O (λe1=>?_)$ λe1=>?_
   ·have mM:0<p.Mq:=by omega
    obtain⟨F,vC,hf⟩:=uo.ex;refine M0 O$ LW O$ qV (Mv (news:=[.int .u8 0,Mh 0]) OV O ND O ((uo.ext.LY hU).cells (n:=2) O) O)$ LW O$ Ny O O (OK UP O O) (PO vC (by simp) .unary r (by omega)) ?_;rintro _ w5 ⟨rfl,sE⟩;refine LX$ Mz.qb (e:=[(1,_),(2,_),(3,_),(4,_),(5,_),(10,_),(11,_),(12,_)]) ?_;exact(cA _ _ ⟨rfl,by rw[if_pos mM];exact uo.put hf l5 z1 sE⟩).qb
   ·have mM:¬0<p.Mq:=by omega
    refine py ?_;exact(cA _ _ ⟨rfl,by rw[if_neg mM];exact uo⟩).qb
/-! ### The numbers can be encoded -/
def TQ (k:Nat)(q:Cd×Nat):Prop:=(q.1= .unary/\q.2<=16)\/(q.1= .gamma/\q.2<=200000)\/(q.1= .zeta k/\q.2<=200000)
theorem Xm (k:Nat):∀(l:List Nat) (i:Nat),(∀n∈l,n<=65536)->∀q∈runNums i l,TQ k q
 |[],i,h,q,hq=>by cases hq
 | n :: l, i, h, q, hq => by
   rw[runNums] at hq;rcases List.mem_cons.1 hq with e|hq
   ·subst e;have:=h n List.mem_cons_self;exact .inr (.inl ⟨rfl,by dsimp only;omega⟩)
   ·exact Xm k l (i+1) (λn hn=>h n (List.mem_cons_of_mem _ hn)) q hq
theorem Wl (k x least:Nat)(hx:x<65536):∀(R:List (Nat×Nat)) (e:Option Nat),(∀q∈R,q.1+q.2<=65536)->∀q∈longNums x least e R,TQ k q
 |[],e,h,q,hq=>by cases e<;>cases hq
 | p :: R, e, h, q, hq => by
   have hp:=h p List.mem_cons_self;rw[Om] at hq;rcases List.mem_cons.1 hq with e1|hq
   ·subst e1;refine .inr (.inl ⟨rfl,?_⟩)
    cases e with
    |none=>have:=W2 (z:=(p.1:Int)-x) (n:=65537) (by omega) (by omega);show zig _<=_;omega
    |some z=>show p.1-z-2<=_;omega
   ·rcases List.mem_cons.1 hq with e1|hq
    ·subst e1;exact .inr (.inl ⟨rfl,by dsimp only;omega⟩)
    ·exact Wl k x least hx R _ (λq hq=>h q (List.mem_cons_of_mem _ hq)) q hq
theorem Wn (k x:Nat)(hx:x<65536):∀(l:List Nat) (e:Option Nat),(∀n∈l,n<65536)->∀q∈restNums x k e l,TQ k q
 |[],e,h,q,hq=>by cases e<;>cases hq
 | v :: l, e, h, q, hq => by
   have hv:=h v List.mem_cons_self;rw[Po] at hq;rcases List.mem_cons.1 hq with e1|hq
   ·subst e1;refine .inr (.inr ⟨rfl,?_⟩)
    cases e with
    |none=>have:=W2 (z:=(v:Int)-x) (n:=65537) (by omega) (by omega);show zig _<=_;omega
    |some u=>show v-u-1<=_;omega
   ·exact Wn k x hx l _ (λn hn=>h n (List.mem_cons_of_mem _ hn)) q hq
theorem z0K {least:Nat}{l:List Nat}(h:MG l):(rowsN least l).1.length<=65536:=by
 have h1:=(Qd least l).length_eq
 rw[List.length_append] at h1
 have h4:∀(R:List (Nat×Nat)) (lo:Nat),Px least lo R->R.length<=(NJ R).length:=by
  intro R
  induction R with
  |nil=>intro lo h;exact Nat.le_refl _
  | cons q R ih =>
    intro lo h;have h5:=ih _ h.2.2.2;have h6:1<=q.2:=h.2.1;rw[show NJ (q::R)=(List.range q.2).map (q.1+·)++NJ R from rfl,List.length_append,List.length_map,List.length_range,List.length_cons];omega
 have h5:=h4 _ 0 (Ry least l 0 h.W4 (λy _=>Nat.zero_le _))
 have:=h.len
 omega
theorem z3z {least:Nat}{l:List Nat}(h:MG l):∀q∈(rowsN least l).1,1<=q.2/\q.1+q.2<=65536:=λq hq=>by
 obtain⟨i,hi⟩:=List.mem_iff_getElem?.1 hq
 have h1:=(VP _ 0 i q (Ry least l 0 h.W4 (λy _=>Nat.zero_le _)) hi).1
 exact⟨h1,z6F h.lt hq h1⟩
theorem X4 {p:OE}(hp:p.Nj){x:Nat}(hx:x<65536){succ ref:List Nat}(hs:MG succ)(hr:MG ref){r:Nat}(iZ:r<=p.Mq):∀q∈Oe p x succ ref r,TQ p.zeta q:=by
 obtain⟨g1,g2,g3,g4⟩:=id hp
 have az:MG (leftOf succ ref):=hs.sub List.filter_sublist
 intro q hq
 unfold Oe at hq
 have fT:=hs.len
 rcases List.mem_cons.1 hq with e|hq
 ·subst e;exact .inr (.inl ⟨rfl,by dsimp only;omega⟩)
 split at hq
 ·cases hq
 rcases List.mem_append.1 hq with hq|hq
 ·split at hq
  ·rcases List.mem_singleton.1 hq with e;subst e;exact .inl ⟨rfl,by dsimp only;omega⟩
  ·cases hq
 rcases List.mem_append.1 hq with hq|hq
 ·have pz:=PE succ ref;have hl:=pz.Y9;have gW:=hr.len;rw[List.length_map] at hl;split at hq
  ·rcases List.mem_cons.1 hq with e|hq
   ·subst e;exact .inr (.inl ⟨rfl,by dsimp only;omega⟩)
   ·refine Xm _ _ _ (λn hn=>?_) q hq;have:=pz.le n (List.dropLast_subset _ hn);rw[List.length_map] at this;omega
  ·cases hq
 split at hq
 ·cases hq
 rcases List.mem_append.1 hq with hq|hq
 ·split at hq
  ·rcases List.mem_cons.1 hq with e|hq
   ·subst e;have:=z0K (least:=p.interval) az;exact .inr (.inl ⟨rfl,by dsimp only;omega⟩)
   ·exact Wl _ _ _ hx _ _ (λq hq=>(z3z az q hq).2) q hq
  ·cases hq
 ·exact Wn _ _ hx _ _ (λn hn=>az.lt n ((Rg p.interval _).subset hn)) q hq
theorem z30 (succ ref:List Nat)(hr:MG ref):(NY succ ref).length<=65537:=by
 have hl:=(PE succ ref).Y9
 rw[List.length_map] at hl
 have:=hr.len
 omega
theorem z0O {p:OE}{x:Nat}{succ ref:List Nat}(hs:MG succ)(hr:MG ref){r:Nat}:(Oe p x succ ref r).length<=500000:=by
 have az:MG (leftOf succ ref):=hs.sub List.filter_sublist
 have h1:=z30 succ ref hr
 have h2:=z0K (least:=p.interval) az
 have h3:=(az.sub (Rg p.interval (leftOf succ ref))).len
 unfold Oe
 rw[List.length_cons]
 split
 ·simp
 rw[List.length_append,List.length_append]
 have e1:(if 0<p.Mq then [(Cd.unary,r)] else []).length<=1:=by split<;>simp
 have e2:(if 0<r then(Cd.gamma,(NY succ ref).length-1)::runNums 0 (NY succ ref).dropLast else []).length<=65537:=by
  split
  ·rw[List.length_cons,PL,List.length_dropLast];omega
  ·simp
 have e3:(if leftOf succ ref=[] then [] else(if 0<p.interval then(Cd.gamma,(rowsN p.interval (leftOf succ ref)).1.length)::longNums x p.interval none (rowsN p.interval (leftOf succ ref)).1 else [])++restNums x p.zeta none (rowsN p.interval (leftOf succ ref)).2).length<=200000:=by
  split
  ·simp
  ·rw[List.length_append,PT];split
   ·rw[List.length_cons,P3];omega
   ·simp;omega
 omega
theorem TQ.Nj {k:Nat}{q:Cd×Nat}(h:TQ k q)(hk:1<=k/\k<=16):q.1.Nj/\q.2<=q.1.most:=by
 rcases h with⟨e,h⟩|⟨e,h⟩|⟨e,h⟩
 ·rw[e];exact⟨trivial,by simp only[Cd.most];omega⟩
 ·rw[e];exact⟨trivial,by simp only[Cd.most];omega⟩
 ·rw[e];exact⟨hk,by simp only[Cd.most];omega⟩
theorem Zx {c:Cd}{v:Nat}(hc:c.Nj)(hv:v<=c.most):(c.enc v).length<=65600:=by
 obtain⟨q1,q2,-⟩:=Th hc hv
 rw[T9];omega
theorem z8o {L:List (Cd×Nat)}(h:∀q∈L,q.1.Nj/\q.2<=q.1.most):(Mp L).length<=65600*L.length:=by
 induction L with
 |nil=>simp[Mp]
 | cons q L ih =>
   have h1:=ih (λq hq=>h q (List.mem_cons_of_mem _ hq));obtain⟨h2,h3⟩:=h q List.mem_cons_self;have h4:=Zx h2 h3;obtain⟨c,v⟩:=q;rw[MU,List.length_append,List.length_cons];dsimp only at h4⊢;omega
theorem OU (a b:List (Cd×Nat)):Mp (a++b)=Mp a++Mp b:=List.flatMap_append
theorem Uh (l:List (Cd×Nat))(q:Cd×Nat):Mp (l++[q])=Mp l++q.1.enc q.2:=by
 rw[OU];simp[Mp]
/-! ### An element of a slice of structs -/
theorem Xe {α:Type}{f:α->List Value}{k:Nat}(hk:∀a,(f a).length=k){w:World}{b off n cap i:Nat}{R:List α}{q:α}(h:Rd w (.slice (some ⟨b,off,none⟩) n cap) k n (R.flatMap f))(hq:R[i]? =some q):∀j u,(f q)[j]? =some u->w.cell? ⟨b,off+i*k+j,none⟩=some u:=by
 intro j u hj
 have kK:j<k:=by have:=(List.getElem?_eq_some_iff.1 hj).1;rwa [hk] at this
 have key : ∀ (R : List α) (i : Nat), R[i]? = some q -> (R.flatMap f)[i * k + j]? = some u := by
  intro R
  induction R with
  |nil=>intro i h;simp at h
  | cons a R ih =>
    intro i h;rw[List.flatMap_cons]
    cases i with
    | zero =>
      rw[List.getElem?_cons_zero] at h;cases h;rw[List.getElem?_append_left (by rw[hk];omega),Nat.zero_mul,Nat.zero_add]
      exact hj
    | succ i =>
      rw[List.getElem?_append_right (by rw[hk,Nat.add_mul];omega),hk,show(i+1)*k+j-k=i*k+j by rw[Nat.add_mul];omega];exact ih i h
 have kN:=key R i hq
 have aP:=(List.getElem?_eq_some_iff.1 kN).1
 rcases h.2 with⟨c,hc,h0⟩|⟨b',off',cap',e,hc⟩
 ·rw[h.1,h0,Nat.zero_mul] at aP;omega
 ·cases e;have:=hc (i*k+j) u kN;rw[show off+i*k+j=off+(i*k+j) by omega];exact this
theorem z1C (q:Cd×Nat):(z3t q).length=3:=by
 obtain⟨c,v⟩:=q
 cases c<;>rfl
theorem RT {w:World}(p:OE)(hp:p.Nj)(x:Nat)(hx:x<65536){sa ra:Option Addr}{sc rc:Nat}(succ ref:List Nat)(hs:MG succ)(hr:MG ref)(r:Nat)(iZ:r<=p.Mq)(lB:r=0->ref=[])
  (hG:M7 w 0 (OZ .gamma) 260) (hU:M7 w 1 (OZ .unary) 260) (dQ:Rd w (.slice sa succ.length sc) 1 succ.length (succ.map Mx)) (lJ:Rd w (.slice ra ref.length rc) 1 ref.length (ref.map Mx)) (fA:succ.length<=sc) (mT:ref.length<=rc):
  Mw Tryz.prog 157 [I (x:Int),.slice sa succ.length sc,.slice ra ref.length rc,I (r:Int),lpV p] w λu w'=>u= .tuple #[I ((Mp (Oe p x succ ref r)).length:Int),I 0]/\Ext w w':=by
 obtain⟨g1,g2,g3,g4⟩:=id hp
 have az:=λq hq=>(X4 hp hx hs hr iZ q hq).Nj ⟨g3,g4⟩
 have fd:=z0O (p:=p) (x:=x) (r:=r) hs hr
 refine It (e:=[(0,_),(1,_),(2,_),(3,_),(4,_)]) Tryz.func157 O Tryz.ntmps157 O O$ qN O$ M5 O O (O2 O (cs:=WC p) O) ?_
 rintro _ w1 ⟨b9,rfl,mJ,ad,cJ⟩
 replace cJ:M7 w1 b9 [I (p.Mq:Int),I (p.interval:Int),I (p.zeta:Int)] 212:=cJ
 refine Me O$ M4 O$ run_seq$ qN O$ qV (Mv (news:=WC p) Vv O QC O (cJ.cells (n:=3) O) O)$ Md O O$ Md O O$ Mn zfg O (z8e p hp x hx _ _ succ ref r hs hr iZ lB w1 (dQ.ext ad) (lJ.ext ad)) ?_
 rintro _ w2 ⟨rfl,af⟩
 refine qV ((by first|exact MX O|exact Oy O)) ?_
 refine LX$ An O$ py$ qN O$ M4 O$ run_seq$ qN O$ qV (Mv (news:=WC p) Vv O QC O ((af.LY cJ).cells (n:=3) O) O) ?_
 have aF:=ad.trans af
 refine Md O O$ Md O O$ Mn zaI O (Vm p hp x hx succ ref hs hr r iZ lB (aF.LY hG) (aF.LY hU) (dQ.ext aF) (lJ.ext aF) fA mT) ?_
 rintro v w3 ⟨cE,pA,ai⟩
 have aN:=aF.trans ai
 generalize Oe p x succ ref r=L at az fd cE
 obtain⟨va,vc,rfl,-⟩:=cE.rd.shape
 refine O9 WA O$ LW O$ LX$ LU$ Oh (α:=Nat) (0) (λi=>[(12,I ((Mp (L.take i)).length:Int)),(29,.slice va L.length vc),(30,I (L.length:Int)),(31,I (i:Int))]) (λi w'=>Ext w3 w'/\i<=L.length) (λi=>L.length-i) ?hI ?hround
 case hI=>exact⟨Ext.refl _,Nat.zero_le _⟩
 case hround=>
  rintro i w4 ⟨ay,hi⟩ ih
  try dsimp only
  refine qN O$ Ni O O$ LX$ run_seq$ M8 O (λh0=>?_)$ λh0=>?_
  ·have dA:i<L.length:=by omega
   obtain⟨⟨c,v⟩,hq⟩:∃q,L[i]? =some q:=⟨_,List.getElem?_eq_getElem dA⟩;obtain⟨uq,mz⟩:=az _ (List.mem_of_getElem? hq);dsimp only at uq mz
   obtain⟨g,c5,e4⟩:∃g c,Value.slice va L.length vc= .slice (some ⟨g,0,none⟩) L.length c:=by
    rcases cE.shape with⟨-,h0⟩|⟨g,c,e,hc⟩
    ·omega
    ·exact⟨g,c,e⟩
   cases e4;have jT:=Xe z1C (cE.ext ay).rd hq;obtain⟨y,z,sF⟩:∃y z,OZ c=[y,z]:=by cases c<;>exact⟨_,_,rfl⟩
   have qx:ZR c= .agg [y,z].toArray:=by rw[ZR,sF]
   have jh:z3t (c,v)=[y,z,Mh v]:=by show OZ c++_=_;rw[sF];rfl
   rw[jh] at jT;have dN:=z0u c v uq mz;rw[qx] at dN;have vN:oneV y=true/\oneV z=true:=by cases c<;>(cases sF;exact⟨rfl,rfl⟩)
   have fj:=z8o (L:=L.take i) (λq hq=>az q (List.mem_of_mem_take hq));rw[List.length_take] at fj;have og:=Zx uq mz;refine py$ run_seq$ LU$ qN O$ qV (MS WA RS O O (by omega))$ qV (Mv (news:=[y,z,Mh v]) zcu O RS O jT O)$ M5 O O (Oo (cs:=[_,_,_]) RS O) ?_;rintro _ w5 ⟨b14,rfl,nh,aW,dc⟩;refine Mb O (MO (news:=[y,z,Mh v]) RS O O (by simp[vN.1,vN.2];rfl) O dc (by simp)) ?_;rintro w6 ⟨eA,aR⟩;replace eA:M7 w6 b14 [y,z,Mh v] 323:=eA;have z5:=aW.size;have aJ:Ext w4 w6:=aW.LS aR (λk e=>by omega);refine qM O$ Ma z42 O$ qV (Mv (news:=[y,z]) OV O ND O (eA.cells (n:=2) O) O)$ Ma z3V O$ qV (M1 Nv O O eA O)$ Mn z9O O (dN w6) ?_;rintro _ w7 ⟨rfl,ck⟩;refine LW O$ N5 O O$ N5 O O$ Me O$ M4 O$ M0 O$ Md O O$ MT O O$ M4 O$ LV$ M0 O$ MT O O$ LW O$ LX ?_;rw[show((Mp (L.take i)).length:Int)+((c.enc v).length:Int)=((Mp (L.take (i+1))).length:Int) by rw[MP hq,Uh,List.length_append];dsimp only;omega];exact(ih (i+1) _ ⟨(ay.trans aJ).trans ck,by omega⟩ (by omega)).qb
  ·have cy:i=L.length:=by omega
   rw[cy,List.take_length];refine M6 O$ qN O$ LW O$ Me O$ M4 O$ LZ Tryz.func157 O ?_;exact⟨_,rfl,rfl,aN.trans ay⟩
theorem Wo {w:World}{wp:Nat}{bs:List Bool}{F:Nat->Prop}(h:UT w wp bs F)(p:OE)(hp:p.Nj)(x:Nat)(hx:x<65536){sa ra:Option Addr}{sc rc:Nat}(succ ref:List Nat)(hs:MG succ)(hr:MG ref)(r:Nat)(iZ:r<=p.Mq)(lB:r=0->ref=[])
  (hG:M7 w 0 (OZ .gamma) 260) (hU:M7 w 1 (OZ .unary) 260) (dQ:Rd w (.slice sa succ.length sc) 1 succ.length (succ.map Mx)) (lJ:Rd w (.slice ra ref.length rc) 1 ref.length (ref.map Mx)) (fA:succ.length<=sc) (mT:ref.length<=rc)
  (hl:bs.length+(Mp (Oe p x succ ref r)).length<=134217728):
  Mw Tryz.prog 160 [ptr wp 0,I (x:Int),.slice sa succ.length sc,.slice ra ref.length rc,I (r:Int),lpV p] w λu w'=>u=I 0/\WrR wp F w w' (bs++Mp (Oe p x succ ref r)):=by
 obtain⟨g1,g2,g3,g4⟩:=id hp
 have az:=λq hq=>(X4 hp hx hs hr iZ q hq).Nj ⟨g3,g4⟩
 have fd:=z0O (p:=p) (x:=x) (r:=r) hs hr
 refine It (e:=[(0,_),(1,_),(2,_),(3,_),(4,_),(5,_)]) Tryz.func160 O Tryz.ntmps160 O O$ qN O$ M5 O O (O2 O (cs:=WC p) O) ?_
 rintro _ w1 ⟨b9,rfl,mJ,ad,cJ⟩
 replace cJ:M7 w1 b9 [I (p.Mq:Int),I (p.interval:Int),I (p.zeta:Int)] 212:=cJ
 refine M4 O$ run_seq$ qN O$ LW O$ qV (N7 Zl O O)$ LX$ An O$ py$ qN O$ Md O O$ Md O O$ qV (Mv (news:=WC p) Vv O QC O (cJ.cells (n:=3) O) O)$ Mn z1i O (RT p hp x hx succ ref hs hr r iZ lB (ad.LY hG) (ad.LY hU) (dQ.ext ad) (lJ.ext ad) fA mT) ?_
 rintro _ w2 ⟨rfl,af⟩
 have aF:=ad.trans af
 have h2:=h.ext aF
 refine LW O$ N5 O O$ N5 O O$ Me O$ M4 O$ run_seq$ LU$ qN O$ LW O$ N9 O O$ M4 O$ An O$ qN O$ Md O O ?_
 refine Mn Z3 O (RX h2) ?_
 rintro _ w2 ⟨rfl,rfl⟩
 refine Oa O O$ Ng O O$ M4 O$ Mz.qb (e:=[(0,_),(1,_),(2,_),(3,_),(4,_),(11,_),(12,_),(32,_)]) ?_
 refine M8 O (λe0=>?_)$ λe0=>?_
 ·omega
 ·refine py$ LV$ run_seq$ qN O$ qV (Mv (news:=WC p) Vv O QC O ((af.LY cJ).cells (n:=3) O) O)$ Md O O$ Md O O$ Mn zaI O (Vm p hp x hx succ ref hs hr r iZ lB (aF.LY hG) (aF.LY hU) (dQ.ext aF) (lJ.ext aF) fA mT) ?_;rintro v w3 ⟨cE,pA,ai⟩;have aN:=aF.trans ai;have h3:=h.ext aN;have z12:=aF.size;have z3:=ai.size;have jC:∀k,F k->k<w.heap.size:=λk hk=>h.lt hk
  generalize Oe p x succ ref r=L at az fd cE hl
  obtain⟨va,vc,rfl,-⟩:=cE.rd.shape;refine O9 WA O$ LW O$ LX$ LU$ Oh (α:=Nat) (0) (λi=>[(0,ptr wp 0),(43,.slice va L.length vc),(44,I (L.length:Int)),(45,I (i:Int))]) (λi w'=>WrR wp F w3 w' (bs++Mp (L.take i))/\i<=L.length) (λi=>L.length-i) ?hI ?hround
  case hI=>exact⟨⟨F,by simpa[Mp] using h3,Kp.refl _ _,λk hk=> .inl hk⟩,Nat.zero_le _⟩
  case hround=>
   rintro i w4 ⟨⟨F4,lP,av,pj⟩,hi⟩ ih
   try dsimp only
   refine qN O$ Ni O O$ LX$ run_seq$ M8 O (λh0=>?_)$ λh0=>?_
   ·have dA:i<L.length:=by omega
    obtain⟨⟨c,v⟩,hq⟩:∃q,L[i]? =some q:=⟨_,List.getElem?_eq_getElem dA⟩;obtain⟨uq,mz⟩:=az _ (List.mem_of_getElem? hq);dsimp only at uq mz
    obtain⟨g,c5,e4⟩:∃g c,Value.slice va L.length vc= .slice (some ⟨g,0,none⟩) L.length c:=by
     rcases cE.shape with⟨-,h0⟩|⟨g,c,e,hc⟩
     ·omega
     ·exact⟨g,c,e⟩
    cases e4;have dV:=cE.kp av (λg hg e=>by have:=pA g hg;have:=jC g e;omega);have jT:=Xe z1C dV.rd hq;obtain⟨y,z,sF⟩:∃y z,OZ c=[y,z]:=by cases c<;>exact⟨_,_,rfl⟩
    have qx:ZR c= .agg [y,z].toArray:=by rw[ZR,sF]
    have jh:z3t (c,v)=[y,z,Mh v]:=by show OZ c++_=_;rw[sF];rfl
    rw[jh] at jT;have vN:oneV y=true/\oneV z=true:=by cases c<;>(cases sF;exact⟨rfl,rfl⟩)
    refine py$ run_seq$ LU$ qN O$ qV (MS WA RS O O (by omega))$ qV (Mv (news:=[y,z,Mh v]) zcu O RS O jT O)$ M5 O O (Oo (cs:=[_,_,_]) RS O) ?_;rintro _ w5 ⟨b14,rfl,nh,aW,dc⟩;refine Mb O (MO (news:=[y,z,Mh v]) RS O O (by simp[vN.1,vN.2];rfl) O dc (by simp)) ?_;rintro w6 ⟨eA,aR⟩;replace eA:M7 w6 b14 [y,z,Mh v] 323:=eA;have z5:=aW.size;have aJ:Ext w4 w6:=aW.LS aR (λk e=>by omega);have z6:=aJ.size;have z4:=av.size
    have jE:(bs++Mp (L.take i)).length+(c.enc v).length<=134217728:=by
     have e1:(Mp L).length=(Mp (L.take i)).length+(c.enc v).length+(Mp (L.drop (i+1))).length:=by
      conv=>lhs;rw[<-List.take_append_drop (i+1) L,OU,MP hq,Uh]
      rw[List.length_append,List.length_append]
     rw[List.length_append];omega
    have kS:=z6V (lP.ext aJ) c v uq mz jE;rw[qx] at kS;refine LX$ M0 O$ LW O$ Ma z42 O$ qV (Mv (news:=[y,z]) OV O ND O (eA.cells (n:=2) O) O)$ Ma z3V O$ qV (M1 Nv O O eA O)$ Mn zds O (kS) ?_;rintro _ w7 ⟨rfl,F7,oh,aD,ol⟩;refine LX$ LV$ M0 O$ MT O O$ LW O$ LX ((ih (i+1) _ ⟨⟨F7,?_,(av.trans aJ.kp).LS aD (λk hk=>(pj k hk).symm),λk hk=>?_⟩,by omega⟩ (by omega)).qb)
    ·rw[MP hq,Uh,<-List.append_assoc];exact oh
    ·rcases ol k hk with e| e
     ·exact pj k e
     ·exact .inr (by omega)
   ·have cy:i=L.length:=by omega
    rw[cy,List.take_length] at lP;refine M6 O$ qN O$ M4 O$ LZ Tryz.func160 O ?_;exact⟨_,rfl,rfl,F4,lP,aN.kp.trans av,λk hk=>by rcases pj k hk with e|e;exact .inl e;exact .inr (by omega)⟩
def TL (succ ref:List Nat)(r:Nat):List (Cd×Nat):=if 0<r then(.gamma,(NY succ ref).length-1)::runNums 0 (NY succ ref).dropLast else []
def z4E (p:OE)(x:Nat)(succ ref:List Nat):List (Cd×Nat):=
 if leftOf succ ref=[] then [] else(if 0<p.interval then(.gamma,(rowsN p.interval (leftOf succ ref)).1.length)::longNums x p.interval none (rowsN p.interval (leftOf succ ref)).1 else [])++restNums x p.zeta none (rowsN p.interval (leftOf succ ref)).2
def R6 (p:OE)(x:Nat)(succ ref:List Nat)(r:Nat):List (Cd×Nat):=TL succ ref r++z4E p x succ ref
theorem Xt (p:OE)(x:Nat){succ ref:List Nat}(r:Nat)(hs:succ≠[]):Oe p x succ ref r=Nl p succ.length r++R6 p x succ ref r:=by
 unfold Oe Nl R6 TL z4E
 rw[if_neg hs,if_neg (λe=>hs (List.eq_nil_of_length_eq_zero e)),List.cons_append]
def z3P (p:OE)(x:Nat)(l:List Nat):List (Cd×Nat):=if 0<p.interval/\l≠[] then(.gamma,(rowsN p.interval l).1.length)::longNums x p.interval none (rowsN p.interval l).1 else []
theorem z1A (p:OE)(x:Nat)(succ ref:List Nat):z4E p x succ ref=z3P p x (leftOf succ ref)++restNums x p.zeta none (rowsN p.interval (leftOf succ ref)).2:=by
 unfold z4E z3P
 by_cases e:leftOf succ ref=[]
 ·rw[if_pos e,if_neg (λh=>h.2 e),e,rowsN];rfl
 ·rw[if_neg e];by_cases e2:0<p.interval
  ·rw[if_pos e2,if_pos ⟨e2,e⟩]
  ·rw[if_neg e2,if_neg (λh=>e2 h.1)]
structure TlI (w:World)(t r:Nat)(s:Bytes)(b7 b9:Nat)(n q:Nat)(p:OE)(O_:List Nat)(v:Value)(a:Nat)(w':World):Prop where
 tk:Ys w' t r s a
 kp:Kp (λk=>k=t\/k=r) w w'
 sl:Sl w' v 46 1 O_.length (O_.map Mx)
 fr:∀g,v.ownBlock=some g->w.heap.size<=g
 c7:M7 w' b7 [I (n:Int),I (q:Int)] 157
 c9:M7 w' b9 [I (p.Mq:Int),I (p.interval:Int),I (p.zeta:Int)] 212
 n7:w.heap.size<=b7
 n9:w.heap.size<=b9
 v7:v.ownBlock≠some b7
 v9:v.ownBlock≠some b9
theorem ZT (l:List Nat):∀c∈l.map Mx,c.oneCell'=true:=λc hc=>by
 obtain⟨y,-,rfl⟩:=List.mem_map.1 hc
 rfl
theorem TlI.app {w w1 w2 w3:World}{t r:Nat}{s:Bytes}{b7 b9 n q:Nat}{p:OE}{O_ M:List Nat}{v v3:Value}{a a2:Nat}(h:TlI w t r s b7 b9 n q p O_ v a w1)(ht:t<w.heap.size)(hr:r<w.heap.size)
  (hk:Kp (λk=>k=t\/k=r) w1 w2) (jz:Ys w2 t r s a2) (cE:Sl w3 v3 46 1 (O_.length+M.length) (O_.map Mx++M.map Mx)) (au:Kp (λk=>v.ownBlock=some k) w2 w3) (gV:∀g,v3.ownBlock=some g->v.ownBlock=some g\/w2.heap.size<=g):
  TlI w t r s b7 b9 n q p (O_++M) v3 a2 w3:=by
 have z1:=h.kp.size
 have z2:=hk.size
 have l7:=h.c7.lt
 have l9:=h.c9.lt
 have n7:=h.n7
 have n9:=h.n9
 have vO:∀k,k<w.heap.size->¬v.ownBlock=some k:=λk hk e=>by have:=h.fr k e;omega
 have cM:∀k,k<w1.heap.size->v.ownBlock≠some k->v3.ownBlock≠some k:=λk hk hv e=>by
  rcases gV k e with e| e
  ·exact hv e
  ·omega
 refine⟨⟨au.LY jz.LY (vO t ht),⟨au.LY jz.rd.1 (vO r hr),jz.rd.2⟩,jz.ne⟩,(h.kp.trans hk).LS au (λk hk=> .inl (h.fr k hk)),by rw[List.length_append,List.map_append];exact cE,λg hg=>?_,au.LY (hk.LY h.c7 (λe=>by omega)) h.v7,au.LY (hk.LY h.c9 (λe=>by omega)) h.v9,n7,n9,cM _ l7 h.v7,cM _ l9 h.v9⟩
 rcases gV g hg with e| e
 ·exact h.fr g e
 ·omega
theorem z5L {w : World}{t r a : Nat}{s : Bytes}(h : Ys w t r s a)(hG : M7 w 0 (OZ .gamma) 260)(cW : ¬ 0 = r)(mK : ¬ 0 = t)(p : OE)(hp : p.Nj)(x : Nat)(hx : x < 65536){sa : Option Addr}{sc : Nat}(succ ref : List Nat)(hs : MG succ)(bO : succ ≠ [])(j4 : succ.length < 50)(js : MG ref)
  (q:Nat) (hq:q<=p.Mq) (mL:q=0->ref=[]) (dX:∀w2,Kp (λk=>k=r) w w2->Rd w2 (.slice sa ref.length sc) 1 ref.length (ref.map Mx)) (dN:ref.length<=sc) (rest:List Bool) (hb:(Ml s).drop a=Mp (R6 p x succ ref q)++rest):
  Mw Tryz.prog 198 [ptr t 0,I (x:Int),.agg #[I (succ.length:Int),I (q:Int)],.slice sa ref.length sc,lpV p] w λu w'=>Sl w' u 46 1 succ.length (succ.map Mx)/\(∀g,u.ownBlock=some g->w.heap.size<=g)/\
   Ys w' t r s (a+(Mp (R6 p x succ ref q)).length)/\Kp (λk=>k=t\/k=r) w w':=by
 obtain⟨g1,g2,g3,g4⟩:=id hp
 have lt0:=h.LY.lt
 have lr0:=h.rd.1.lt
 have iY:=z3w hs.W4 js.W4 p.interval
 have qR:=iY.length_eq
 rw[List.length_append,List.length_append] at qR
 have az:MG (leftOf succ ref):=hs.sub List.filter_sublist
 have HB:=(Qd p.interval (leftOf succ ref)).length_eq
 rw[List.length_append] at HB
 unfold R6 at hb⊢
 rw[OU,List.append_assoc] at hb
 rw[OU,List.length_append]
 refine It (e:=[(0,_),(1,_),(2,_),(3,_),(4,_)]) Tryz.func198 O Tryz.ntmps198 O O$ qN O$ M5 O O (O2 O (cs:=[I (succ.length:Int),I (q:Int)]) O) ?_
 rintro _ w1 ⟨b7,rfl,kF,ad,bK⟩
 refine M5 O O (O2 O (cs:=WC p) O) ?_
 rintro _ w2 ⟨b9,rfl,mJ,af,cJ⟩
 replace cJ:M7 w2 b9 [I (p.Mq:Int),I (p.interval:Int),I (p.zeta:Int)] 212:=cJ
 have z1:=ad.size
 have z2:=af.size
 have aF:=ad.trans af
 have ep:=af.LY bK
 refine Me O$ qM O$ M4 O$ run_seq$ qN O$ Ma OW O$ qV (M1 U3 O O ep O)$ Ng O O$ LX$ MM (λe' w'=>∃v11,e'=[(0,ptr t 0),(1,I (x:Int)),(7,ptr b7 0),(9,ptr b9 0),(11,v11)]/\TlI w t r s b7 b9 succ.length q p (ref.filter λy=>decide (y∈succ)) v11 (a+(Mp (TL succ ref q)).length) w') ?cA$ λcA=>?cS
 case cA =>
  rintro e' w3 ⟨v11,rfl,h3⟩;have ek:=OR hb;obtain⟨va,vc,rfl,-⟩:=h3.sl.rd.shape;have jU:=h3.c7;have cm:=h3.c9;have pB:=h3.tk.LY;refine run_seq$ qN O$ Ma Pu O$ qV ((by first|exact M1 U3 O O jU O|exact M1 U3 O O cm O|exact M1 U3 O O pB O)) ?_;refine LW O$ O9 Mr O$ Oa O O ?_;rw[show(succ.length:Int)-((ref.filter λy=>decide (y∈succ)).length:Int)=((leftOf succ ref).length:Int) by omega]
  generalize L8:(a+(Mp (TL succ ref q)).length)=a3 at h3 ek
  rw[z1A,OU,List.append_assoc] at ek;rw[z1A,OU,List.length_append];have HC:p.interval=0->(rowsN p.interval (leftOf succ ref)).1=[]:=λe=>by rw[e];exact Uk _
  have HD:leftOf succ ref=[]->rowsN p.interval (leftOf succ ref)=([],[]):=λe=>by rw[e,rowsN]
  have pq:=Ry p.interval (leftOf succ ref) 0 az.W4 (λy _=>Nat.zero_le _);have sw:=λy hy=>(z3z (least:=p.interval) az y hy).2
  have FC:(rowsN p.interval (leftOf succ ref)).1.length<=(NJ (rowsN p.interval (leftOf succ ref)).1).length:=by
   have key:∀(R:List (Nat×Nat)) (lo:Nat),Px p.interval lo R->R.length<=(NJ R).length:=by
    intro R
    induction R with
    |nil=>intro lo h;exact Nat.le_refl _
    | cons z R ih =>
      intro lo h;have h5:=ih _ h.2.2.2;have h6:1<=z.2:=h.2.1;rw[show NJ (z::R)=(List.range z.2).map (z.1+·)++NJ R from rfl,List.length_append,List.length_map,List.length_range,List.length_cons];omega
   exact key _ 0 pq
  have BB:MG (rowsN p.interval (leftOf succ ref)).2:=az.sub (Rg p.interval _)
  generalize (ref.filter λy=>decide (y∈succ))=O1 at h3 iY qR
  have ur:z3P p x (leftOf succ ref)=if 0<p.interval/\leftOf succ ref≠[] then(.gamma,(rowsN p.interval (leftOf succ ref)).1.length)::longNums x p.interval none (rowsN p.interval (leftOf succ ref)).1 else []:=rfl
  generalize z3P p x (leftOf succ ref)=LT at ek ur
  generalize rowsN p.interval (leftOf succ ref)=Q at*
  generalize leftOf succ ref=L1 at*
  have rU:L1=[]↔L1.length=0:=⟨λe=>by rw[e];rfl,List.eq_nil_of_length_eq_zero⟩;have fT:=hs.len;refine M4 O$ run_seq$ MM (λe' w'=>∃s1:Bool,e'=[(0,ptr t 0),(1,I (x:Int)),(7,ptr b7 0),(9,ptr b9 0),(11,.slice va O1.length vc),(12,I (L1.length:Int)),(38,.bool s1)]/\w'=w3/\(s1=true↔0<p.interval/\L1≠[])) ?dO$ λdO=>?eS
  case dO =>
   rintro e' w4 ⟨s1,rfl,rfl,dW⟩;refine MM (λe' w'=>∃v11,e'=[(0,ptr t 0),(1,I (x:Int)),(7,ptr b7 0),(9,ptr b9 0),(11,v11)]/\TlI w t r s b7 b9 succ.length q p (O1++NJ Q.1) v11 (a3+(Mp LT).length) w') ?ax$ λax=>?dx
   case ax =>
    rintro e' w5 ⟨v5,rfl,h5⟩;have fE:=OR ek;obtain⟨va5,vc5,rfl,-⟩:=h5.sl.rd.shape;have gK:=h5.c7;have gL:=h5.c9;have vP:=h5.tk.LY;have FD:(O1++NJ Q.1).length=O1.length+(NJ Q.1).length:=List.length_append;refine run_seq$ qN O$ Ma Pu O$ qV ((by first|exact M1 U3 O O gK O|exact M1 U3 O O gL O|exact M1 U3 O O vP O)) ?_;refine LW O$ O9 Mr O$ Oa O O ?_;rw[show(succ.length:Int)-((O1++NJ Q.1).length:Int)=(Q.2.length:Int) by omega];refine M4 O$ run_seq$ MM (λe' w'=>∃s2:Bool,e'=[(0,ptr t 0),(1,I (x:Int)),(7,ptr b7 0),(9,ptr b9 0),(11,.slice va5 (O1++NJ Q.1).length vc5),(13,I (Q.2.length:Int)),(60,.bool s2)]/\w'=w5/\(s2=true↔0<Q.2.length)) ?jO$ λjO=>?jQ
    case jO=>
     rintro e' w6 ⟨s2,rfl,rfl,cY⟩;refine MM (λe' w'=>∃v11,e'=[(0,ptr t 0),(11,v11)]/\TlI w t r s b7 b9 succ.length q p (O1++NJ Q.1++Q.2) v11 (a3+(Mp LT).length+(Mp (restNums x p.zeta none Q.2)).length) w') ?oA$ λoA=>?sr
     case oA=>
      rintro e' w7 ⟨v7,rfl,h7⟩;have qU:(O1++NJ Q.1++Q.2).length=succ.length:=by rw[List.length_append,FD];omega
      have HE:0<succ.length:=List.length_pos_iff.2 bO;refine qN O$ LW O$ Mn zbX O (z5D h7.sl (λe=>by rw[e] at qU;simp at qU;omega) (by omega)) ?_;rintro _ w8 ⟨rfl,bz,l',HF,vQ,eK⟩;have FE:l'=succ:=z3s ((HF.trans (by rw[List.append_assoc])).trans iY) vQ hs.W4;rw[FE] at eK;refine qM O$ LW O$ M4 O$ LZ Tryz.func198 O ?_;have e9:a+((Mp (TL succ ref q)).length+((Mp LT).length+(Mp (restNums x p.zeta none Q.2)).length))=a3+(Mp LT).length+(Mp (restNums x p.zeta none Q.2)).length:=by omega
      rw[e9];have vO:∀k,k<w.heap.size->¬v7.ownBlock=some k:=λk hk e=>by have:=h7.fr k e;omega
      refine⟨_,rfl,eK,h7.fr,⟨bz.LY h7.tk.LY (vO t lt0),⟨bz.LY h7.tk.rd.1 (vO r lr0),h7.tk.rd.2⟩,h7.tk.ne⟩,h7.kp.LS bz (λk hk=> .inl (h7.fr k hk))⟩
     case sr=>
      refine MZ O (λh2=>?_)$ λh2=>?_
      ·refine M0 O$ Md O O$ Md O O$ Ma WO O$ qV ((by first|exact M1 U3 O O gK O|exact M1 U3 O O gL O)) ?_;refine qV ((by first|exact MQ O U3 Nv (by omega)|exact Ob O U3 Nv)) ?_;refine qV (OO (cs:=[_,_]) ND O zap O O)$ Mn zdS O (z36 h5.tk x p.zeta hx ⟨g3,g4⟩ Q.2 BB _ fE) ?_;rintro u6 w6 ⟨eL,mD,vp,aR⟩;have BC:=h5.sl.kp aR (λg hg e=>by have:=h5.fr g hg;omega);refine M5 O O (pap Mr Mi O (by decide) O O BC eL.rd (ZT _) (by omega) (by simp only[maxLen];omega)) ?_;rintro v7 w7 ⟨i9,aD,HG,-⟩;have h7:=h5.app lt0 lr0 aR vp i9 aD HG;refine M4 O ?_;exact(oA _ _ ⟨v7,rfl,h7⟩).qb
      ·have fR:Q.2=[]:=List.eq_nil_of_length_eq_zero (by
        rcases Nat.eq_zero_or_pos Q.2.length with e| e
        ·exact e
        ·rw[cY.2 e] at h2;cases h2)
       refine py ((oA _ _ ⟨_,rfl,?_⟩).qb);rw[fR,List.append_nil,show(Mp (restNums x p.zeta none [])).length=0 from rfl,Nat.add_zero];exact h5
    case jQ=>
     rcases Nat.eq_zero_or_pos Q.2.length with hz|hz
     ·refine M0 O$ LW O$ Ng O O$ ML$ LW O$ qS$ qS$ qS$ qS$ qS$ MN O O$ LX ?_;exact(jO _ _ ⟨false,rfl,rfl,by simp[hz]⟩).qb
     ·refine M0 O$ LW O$ Ng O O$ O4$ Md O O$ MC O$ Ma Qn O$ qV ((by first|exact M1 U4 O O gK O|exact M1 U4 O O gL O|exact M1 U4 O O vP O)) ?_;refine qV ((by first|exact MX O|exact Oy O)) ?_;refine NC O O$ LX ?_;exact(jO _ _ ⟨true,rfl,rfl,by simp[hz]⟩).qb
   case dx=>
    refine MZ O (λh1=>?_)$ λh1=>?_
    ·obtain⟨zj,cU⟩:=dW.1 h1;rw[if_pos ⟨zj,cU⟩] at ur;refine M0 O$ Md O O$ Md O O$ Ma QF O$ qV ((by first|exact M1 U3 O O jU O|exact M1 U3 O O cm O)) ?_;rw[ur] at ek;refine Mn zeZ O (z4G h3.tk (h3.kp.LY hG (λe=>by rcases e with e|e;exact mK e;exact cW e)) cW mK x L1.length p.interval hx (by omega) (by omega) Q.1 pq sw (by omega) (by omega) _ ek) ?_;rintro u4 w4 ⟨dV,pj,vR,av⟩;have BD:=h3.sl.kp av (λg hg e=>by have:=h3.fr g hg;omega);have L9:=dV.rd;have HH:O1.length<=65536:=by omega
     refine M5 O O (pap Mr Mi O (by decide) O O BD dV.rd (ZT _) (by omega) (by simp only[maxLen];omega)) ?_;rintro v5 w5 ⟨fC,ak,HI,-⟩;have h5:=h3.app lt0 lr0 av vR fC ak HI;refine M4 O ((ax _ _ ⟨v5,rfl,?_⟩).qb);rw[ur];exact h5
    ·have cU:¬(0<p.interval/\L1≠[]):=λe=>by rw[dW.2 e] at h1;cases h1
     have iJ:Q.1=[]:=by
      by_cases e:L1=[]
      ·rw[HD e]
      ·exact HC (by by_cases e2:0<p.interval;exact absurd ⟨e2,e⟩ cU;omega)
     rw[if_neg cU] at ur;refine py ((ax _ _ ⟨_,rfl,?_⟩).qb);rw[iJ,ur,show NJ []=[] from rfl,List.append_nil,show(Mp []).length=0 from rfl,Nat.add_zero];exact h3
  case eS=>
   rcases Nat.eq_zero_or_pos L1.length with hz|hz
   ·refine M0 O$ LW O$ Ng O O$ ML$ LW O$ qS$ qS$ qS$ MN O O$ LW O$ qS$ qS$ qS$ qS ?_;refine qS$ MN O O$ LX$ Mz.qb (e:=[(0,_),(1,_),(7,_),(9,_),(11,_),(12,_),(38,_)]) ?_;exact(dO _ _ ⟨false,rfl,rfl,⟨λe=>(by cases e),λe=>absurd (rU.2 hz) e.2⟩⟩).qb
   ·rcases Nat.eq_zero_or_pos p.interval with mq|mq
    ·refine M0 O$ LW O$ Ng O O$ O4$ LW O$ Ma QF O$ qV ((by first|exact M1 U3 O O jU O|exact M1 U3 O O cm O|exact M1 U3 O O pB O)) ?_;refine Ng O O$ ML$ NC O O$ LW O$ qS$ qS$ qS$ qS$ qS$ MN O O$ LX$ Mz.qb (e:=[(0,_),(1,_),(7,_),(9,_),(11,_),(12,_),(38,_)]) ?_;exact(dO _ _ ⟨false,rfl,rfl,by simp[mq]⟩).qb
    ·refine M0 O$ LW O$ Ng O O$ O4$ LW O$ Ma QF O$ qV ((by first|exact M1 U3 O O jU O|exact M1 U3 O O cm O|exact M1 U3 O O pB O)) ?_;refine Ng O O$ O4$ NC O O$ Md O O$ MC O$ Ma Qn O$ qV ((by first|exact M1 U4 O O jU O|exact M1 U4 O O cm O|exact M1 U4 O O pB O)) ?_;refine qV ((by first|exact MX O|exact Oy O)) ?_;refine NC O O$ LX$ Mz.qb (e:=[(0,_),(1,_),(7,_),(9,_),(11,_),(12,_),(38,_)]) ?_;exact(dO _ _ ⟨true,rfl,rfl,⟨λ_=>⟨mq,λe=>(by have:=rU.1 e;omega)⟩,λ_=>rfl⟩⟩).qb
 case cS=>
  refine M8 O (λh0=>?_)$ λh0=>?_
  ·have iJ:0<q:=by omega
   have zw:=PE succ ref;have iS:=zw.Y9;rw[List.length_map] at iS;have vS:=js.len
   have vT:(NY succ ref).sum=ref.length:=by
    have:=congrArg List.length zw.exp;rw[Pr,List.length_map] at this;exact this
   have vU:=z4W succ ref;rw[show TL succ ref q=(.gamma,(NY succ ref).length-1)::runNums 0 (NY succ ref).dropLast from if_pos iJ] at hb;obtain⟨l,m,gH⟩:∃l m,NY succ ref=l++[m]:=⟨_,_,(List.dropLast_concat_getLast zw.ne).symm⟩;have ib:=zw.pos;rw[gH] at hb vT iS ib;rw[gH,List.dropLast_concat] at vU;rw[List.dropLast_concat,show(l++[m]).length-1=l.length by simp] at hb;rw[List.sum_append] at vT;rw[List.length_append,List.length_singleton] at iS;have h2:=h.ext aF
   have vV:∀m'∈l.drop 1,1<=m':=λm' ni=>ib m' (by
    cases l with
    |nil=>simp at ni
    |cons a l=>rw[List.cons_append,List.drop_succ_cons,List.drop_zero];rw[List.drop_succ_cons,List.drop_zero] at ni;exact List.mem_append_left _ ni)
   refine M0 O$ Md O O$ Mn zd0 O (z1E h2 (aF.LY hG) cW ref l (λw5 k=>dX w5 (aF.kp.trans k)) dN vS (by omega) (by omega) vV _ hb) ?_;rintro v11 w3 ⟨cE,pA,pC,au⟩;refine M4 O ((cA _ _ ⟨v11,rfl,?_⟩).qb);rw[vU] at cE;rw[show TL succ ref q=(.gamma,l.length)::runNums 0 l by unfold TL;rw[if_pos iJ,gH,List.dropLast_concat,show(l++[m]).length-1=l.length by simp]];have l72:=ep.lt;have l92:=cJ.lt;exact⟨pC,aF.kp.trans (au.Mc λk e=> .inr e),cE,λg hg=>by have:=pA g hg;omega,au.LY ep (by omega),au.LY cJ (by omega),by omega,by omega,λe=>by have:=pA _ e;omega,λe=>by have:=pA _ e;omega⟩
  ·have iJ:q=0:=by omega
   have BE:=mL iJ;subst BE;refine py ((cA _ _ ⟨.slice none 0 0,rfl,?_⟩).qb);rw[show TL succ [] q=[] by unfold TL;rw[if_neg (by omega)]];exact⟨h.ext aF,aF.kp,Sl.nil _ _ _,(λg hg=>by cases hg),ep,cJ,by omega,by omega,(λe=>by cases e),(λe=>by cases e)⟩
theorem z0G {l b rest:List Bool}{a k n:Nat}(hb:l.drop a=b++rest)(hk:k+n<=b.length):(l.drop (a+k)).take n=(b.drop k).take n:=by
 rw[<-List.drop_drop,hb,List.drop_append_of_le_length (by omega),List.take_append_of_le_length (by rw[List.length_drop];omega)]
theorem z5x {w:World}{r a:Nat}{s:Bytes}(p:OE)(hp:p.Nj)(x:Nat)(hx:x<65536){la ra:Option Addr}{lc rc:Nat}(succ ref:List Nat)(hs:MG succ)(bO:succ≠[])(js:MG ref)
  (q:Nat) (hq:q<=p.Mq) (mL:q=0->ref=[]) (hG:M7 w 0 (OZ .gamma) 260) (hU:M7 w 1 (OZ .unary) 260) (dQ:Rd w (.slice la succ.length lc) 1 succ.length (succ.map Mx)) (lJ:Rd w (.slice ra ref.length rc) 1 ref.length (ref.map Mx)) (fA:succ.length<=lc) (mT:ref.length<=rc)
  (hl:(Mp (Oe p x succ ref q)).length<=134217728) (rest:List Bool) (hb:(Ml s).drop a=Mp (R6 p x succ ref q)++rest) (h:Ql w r s (a+(Mp (R6 p x succ ref q)).length)):
  Mw Tryz.prog 199 [lpV p,ptr r 0,I (a:Int),I (x:Int),.agg #[I (succ.length:Int),I (q:Int)],.slice la succ.length lc,.slice ra ref.length rc] w λu w'=>u= .bool true/\Ql w' r s (a+(Mp (R6 p x succ ref q)).length)/\Kp (λk=>k=r) w w':=by
 have lr0:=h.1.lt
 have l10:=hG.lt
 have l20:=hU.lt
 have fT:=hs.len
 have nj:=Xt p x (ref:=ref) q bO
 have zx:Mp (Oe p x succ ref q)=Mp (Nl p succ.length q)++Mp (R6 p x succ ref q):=by rw[nj,OU]
 have fj:(Mp (Oe p x succ ref q)).length=(Mp (Nl p succ.length q)).length+(Mp (R6 p x succ ref q)).length:=by rw[nj,OU,List.length_append]
 generalize Mp (R6 p x succ ref q)=TB at*
 have zC:succ.length≠0:=λe=>bO (List.eq_nil_of_length_eq_zero e)
 refine It (e:=[(0,_),(1,_),(2,_),(3,_),(4,_),(5,_),(6,_)]) Tryz.func199 O Tryz.ntmps199 O O$ qN O$ M5 O O (O2 O (cs:=WC p) O) ?_
 rintro _ w1 ⟨b7,rfl,kF,ad,bK⟩
 refine M5 O O (O2 O (cs:=[I (succ.length:Int),I (q:Int)]) O) ?_
 rintro _ w2 ⟨b11,rfl,iU,af,aL⟩
 have aF:=ad.trans af
 have z1:=ad.size
 have z2:=af.size
 have ep:=af.LY bK
 have h2:Ql w2 r s (a+TB.length):=⟨aF.LY h.1,h.2⟩
 refine Me O$ qM O$ LW O$ Mn Uz O (QH h2) ?_
 rintro _ w2 ⟨rfl,rfl⟩
 refine Me O$ qM O$ Mn Xf O (Rj w2) ?_
 rintro _ w3 ⟨wp,F,rfl,lQ,ai,pD⟩
 have z3:=ai.size
 have aN:=aF.trans ai
 have kT:=ai.LY aL
 have jU:=ai.LY ep
 refine M4 O$ run_seq$ qN O$ Md O O$ Md O O$ Ma OW O$ qV (M1 U3 O O kT O)$ qV (Mv (news:=WC p) Vv O QC O (jU.cells (n:=3) O) O)$ Mn za5 O (Wo lQ p hp x hx succ ref hs js q hq mL (aN.LY hG) (aN.LY hU) (dQ.ext aN) (lJ.ext aN) fA mT (by simpa using hl)) ?_
 rintro _ w4 ⟨rfl,F4,lP,av,pj⟩
 rw[List.nil_append] at lP
 have z4:=av.size
 have cQ:Ext w2 w4:=ai.LS av pD
 refine N9 O O$ LX$ An O$ py$ qN O$ LW O$ Mn z4A O (Tz lP) ?_
 rintro _ w4 ⟨rfl,rfl⟩
 refine LW O$ N5 O O$ N5 O O$ Me O$ M4 O$ Mz.qb (e:=[(1,_),(2,_),(7,_),(14,_),(15,_),(16,_),(17,_)]) ?_
 refine qN O$ LW O ?_
 have eQ:(Ms (Mp (Oe p x succ ref q))).length<=16777217:=by rw[MF];omega
 refine Mn z4k O (Tu (Ms (Mp (Oe p x succ ref q))) (by omega) w4) ?_
 rintro _ w5 ⟨ow,rfl,rL,aW,La⟩
 have im:=cQ.trans aW
 have bG:=aF.trans im
 obtain⟨z,mh,mq,Lb⟩:=OQ (Mp (Oe p x succ ref q))
 have zD:(Ml (Ms (Mp (Oe p x succ ref q)))).drop 0=Mp (Nl p succ.length q)++(TB++List.replicate z false):=by
  rw[mh,List.drop_zero,zx,List.append_assoc]
 refine M4 O$ run_seq$ qN O$ LW O$ qV (Mv (news:=WC p) Vv O QC O ((im.LY ep).cells (n:=3) O) O)$ Mn z9J O (YQ rL p hp (bG.LY hG) (bG.LY hU) (by omega) (by omega) succ.length q (by omega) hq (λe=>absurd e zC) _ zD) ?_
 rintro _ w6 ⟨rfl,kU,aR⟩
 rw[Nat.zero_add] at kU
 have io:Ext w2 w6:=im.LS aR (λk e=>by omega)
 have sG:=OR zD
 rw[Nat.zero_add] at sG
 generalize (Ms (Mp (Oe p x succ ref q)))=os at*
 have z6:=io.size
 refine LW O$ N5 O O$ N5 O O$ M5 O O (Oo (cs:=[_,_]) OG O) ?_
 rintro _ w7 ⟨b20,rfl,HJ,ck,BF⟩
 refine Mb O (MO (news:=[I (succ.length:Int),I (q:Int)]) OG O O O O BF (by simp)) ?_
 rintro w8 ⟨FF,bz⟩
 have ip:Ext w6 w8:=ck.LS bz (λk e=>by omega)
 have j5:=io.trans ip
 have h8:Ql w8 r s (a+TB.length):=⟨j5.LY h2.1,h2.2⟩
 have uf:Ql w8 ow os (Mp (Nl p succ.length q)).length:=⟨ip.LY kU.1,kU.2⟩
 have rP:UT w8 wp (Mp (Oe p x succ ref q)) F4:=((lP.ext aW).kp aR (λi hi e=>by have:=lP.lt hi;omega)).ext ip
 refine Me O$ qM O$ LW O$ N9 O O$ Md O O$ Mn Z3 O (RX rP) ?_
 rintro _ w8 ⟨rfl,rfl⟩
 refine LW O$ Mn Uz O (QH uf) ?_
 rintro _ w8 ⟨rfl,rfl⟩
 refine Oa O O ?_
 rw[show((Mp (Oe p x succ ref q)).length:Int)-((Mp (Nl p succ.length q)).length:Int)=(TB.length:Int) by omega]
 refine Md O O$ Oa O O ?_
 rw[show((a+TB.length:Nat):Int)-(a:Int)=(TB.length:Int) by omega]
 refine N9 O O$ ML$ MN O O$ LX$ Mz.qb (e:=[(1,_),(2,_),(14,_),(15,_),(19,_),(64,_)]) ?_
 refine An O$ py$ qN O$ Md O O$ Mn z7F O (VN h8 a (by have:=h8.2.1;omega)) ?_
 rintro _ w9 ⟨rfl,h9,aO⟩
 have uj:Ql w9 ow os (Mp (Nl p succ.length q)).length:=⟨aO.LY uf.1 (by omega),uf.2⟩
 refine LX$ run_seq$ LU$ Oh (α:=Nat) (0) (λk=>[(1,ptr r 0),(15,I ((a+TB.length:Nat):Int)),(19,ptr ow 0)]) (λk w'=>Ql w' r s (a+k)/\Ql w' ow os ((Mp (Nl p succ.length q)).length+k)/\Kp (λi=>i=r\/i=ow) w9 w'/\k<=TB.length) (λk=>TB.length-k) ?hI ?hround
 case hI=>exact⟨h9,uj,Kp.refl _ _,Nat.zero_le _⟩
 case hround=>
  rintro k w10 ⟨eI,vW,aq,Lc⟩ ih
  try dsimp only
  refine run_seq$ qN O$ LW O$ Mn Uz O (QH eI) ?_;rintro _ w10 ⟨rfl,rfl⟩;refine LW O$ Ni O O$ LX$ M8 O (λh0=>?_)$ λh0=>?_
  ·refine py$ LU$ qN O$ Md O O$ Mn Uz O (QH eI) ?_;rintro _ w10 ⟨rfl,rfl⟩;refine Oa O O ?_;rw[show((a+TB.length:Nat):Int)-((a+k:Nat):Int)=((TB.length-k:Nat):Int) by omega];refine qV (ymi O O) ?_;rw[show min (64:Int) ((TB.length-k:Nat):Int)=((min 64 (TB.length-k):Nat):Int) by omega];obtain⟨n,hn,cU,ia,BG⟩:∃n,min 64 (TB.length-k)=n/\1<=n/\n<=64/\k+n<=TB.length:=⟨_,rfl,by omega,by omega,by omega⟩;rw[hn];have pE:=eI.2.1;have eT:=z0G hb BG;have jo:=z0G sG BG;have Fc:a+TB.length<=8*s.length:=h8.2.1
   have i8:(Mp (Nl p succ.length q)).length+TB.length<=8*os.length:=by
    have e:=congrArg List.length sG;rw[List.length_drop,bitsT_length,List.length_append] at e;omega
   refine Me O$ qM O$ Md O O$ Mn z1e O (RW eI n ia) ?_;rintro v11 w11 hv
   have fH:v11= .tuple #[Mh (valB (((Ml s).drop (a+k)).take n)),I 0]/\Ql w11 r s (a+k+n)/\Kp (λk=>k=r) w10 w11:=by
    rcases hv with hv|hv
    ·exact hv.2
    ·omega
   obtain⟨rfl,oQ,bC⟩:=fH;rw[eT];have BH:Ql w11 ow os ((Mp (Nl p succ.length q)).length+k):=⟨bC.LY vW.1 (by omega),vW.2⟩;refine LW O$ N5 O O$ N5 O O$ Me O$ Me O$ qM O$ Md O O$ Mn z1e O (RW BH n ia) ?_;rintro v12 w12 hv
   have fH:v12= .tuple #[Mh (valB (((Ml os).drop ((Mp (Nl p succ.length q)).length+k)).take n)),I 0]/\Ql w12 ow os ((Mp (Nl p succ.length q)).length+k+n)/\Kp (λk=>k=ow) w11 w12:=by
    rcases hv with hv|hv
    ·exact hv.2
    ·omega
   obtain⟨rfl,BI,aY⟩:=fH;rw[jo];have BJ:Ql w12 r s (a+k+n):=⟨aY.LY oQ.1 (by omega),oQ.2⟩;refine LW O$ N5 O O$ N5 O O$ Me O$ Me O$ qM O$ Md O O$ N9 O O$ LX$ M8 O (λh1=>?_)$ λh1=>?_
   ·exact absurd O h1
   ·refine py$ LV ((ih (k+n) _ ⟨by rw[<-Nat.add_assoc];exact BJ,by rw[<-Nat.add_assoc];exact BI,(aq.trans (bC.Mc λi e=> .inl e)).trans (aY.Mc λi e=> .inr e),BG⟩ (by omega)).qb)
  ·have jV:k=TB.length:=by omega
   subst jV;refine M6 O$ qN O$ M4 O$ LZ Tryz.func199 O ?_;exact⟨_,rfl,rfl,eI,((aF.trans j5).kp.trans aO).LS aq (λi hi=>by rcases hi with e|e;exact .inr e;exact .inl (by omega))⟩
theorem Wj {w:World}{r a:Nat}{s:Bytes}(h:Ql w r s a)(p:OE)(hp:p.Nj)(x:Nat)(hx:x<65536)(N:Nat)(hN:N<=65536){ra:Option Addr}{rc:Nat}(succ ref:List Nat)(hs:MG succ)(bO:succ≠[])(j4:succ.length<50)(BK:∀y∈succ,y<N)(js:MG ref)
  (q:Nat) (hq:q<=p.Mq) (mL:q=0->ref=[]) (hG:M7 w 0 (OZ .gamma) 260) (hU:M7 w 1 (OZ .unary) 260) (cW:¬0=r) (dB:¬1=r) (dX:∀w2,Kp (λk=>k=r) w w2->Rd w2 (.slice ra ref.length rc) 1 ref.length (ref.map Mx)) (mT:ref.length<=rc)
  (hl:(Mp (Oe p x succ ref q)).length<=134217728) (rest:List Bool) (hb:(Ml s).drop a=Mp (R6 p x succ ref q)++rest):
  Mw Tryz.prog 154 [ptr r 0,I (x:Int),I (N:Int),.agg #[I (succ.length:Int),I (q:Int)],.slice ra ref.length rc,lpV p] w λu w'=>∃v,u= .tuple #[v,I 0]/\Sl w' v 46 1 succ.length (succ.map Mx)/\(∀g,v.ownBlock=some g->w.heap.size<=g)/\Ql w' r s (a+(Mp (R6 p x succ ref q)).length)/\Kp (λk=>k=r) w w':=by
 obtain⟨g1,g2,g3,g4⟩:=id hp
 have lr0:=h.1.lt
 have l10:=hG.lt
 have l20:=hU.lt
 have fT:=hs.len
 have gW:=js.len
 have zC:0<succ.length:=List.length_pos_iff.2 bO
 refine It (e:=[(0,_),(1,_),(2,_),(3,_),(4,_),(5,_)]) Tryz.func154 O Tryz.ntmps154 O O$ qN O$ M5 O O (O2 O (cs:=[I (succ.length:Int),I (q:Int)]) O) ?_
 rintro _ w1 ⟨b9,rfl,mJ,ad,cJ⟩
 refine M5 O O (O2 O (cs:=WC p) O) ?_
 rintro _ w2 ⟨b11,rfl,iU,af,aL⟩
 replace aL:M7 w2 b11 [I (p.Mq:Int),I (p.interval:Int),I (p.zeta:Int)] 212:=aL
 have aF:=ad.trans af
 have z1:=ad.size
 have z2:=af.size
 have cZ:=af.LY cJ
 have l9:=cZ.lt
 have l11:=aL.lt
 have l90:=cJ.lt
 refine Me O$ M4 O$ run_seq$ MM (λe' w'=>e'=[(0,ptr r 0),(1,I (x:Int)),(2,I (N:Int)),(4,.slice ra ref.length rc),(9,ptr b9 0),(11,ptr b11 0)]/\Ext w2 w') ?lR$ λlR=>?BM
 case lR=>
  rintro e' w3 ⟨rfl,ai⟩;have db:=aF.trans ai;have h3:Ql w3 r s a:=⟨db.LY h.1,h.2⟩;have cm:=ai.LY cZ;have kT:=ai.LY aL;have z3:=ai.size;refine qN O$ LW O$ Mn Uz O (QH h3) ?_;rintro _ w3 ⟨rfl,rfl⟩;refine Me O$ qM O$ LW O$ qV (OO (cs:=[_,_]) zfi O zek O O)$ M5 O O (O2 O (cs:=[ptr r 0,.bool false]) O) ?_;rintro _ w4 ⟨tb,rfl,HK,ay,HM⟩;have z4:=ay.size;have cn:=db.trans ay;have h4:Ys w4 tb r s a:=⟨HM,⟨ay.LY h3.1,h3.2⟩,by omega⟩;refine Me O$ qM O$ Md O O$ qV (Mv (news:=[I (succ.length:Int),I (q:Int)]) z0m O OG O ((ay.LY cm).cells (n:=2) O) O)$ LW O$ qV (Mv (news:=WC p) Vv O QC O ((ay.LY kT).cells (n:=3) O) O)$ Mn zdn O (z5L h4 (cn.LY hG) cW (by omega) p hp x hx succ ref hs bO j4 js q hq mL (λw2 k=>dX w2 (cn.kp.trans k)) mT rest hb) ?_;rintro v w5 ⟨fC,pn,zE,ak⟩;have bT:Kp (λk=>k=r) w w5:=cn.kp.LS ak (λi hi=>by rcases hi with e|e;exact .inl (by omega);exact .inr e);have gL:=ak.LY (ay.LY cm) (by omega);have vX:=ak.LY (ay.LY kT) (by omega);have FG:=zE.LY;have HN:=bT.LY hG cW;have HO:=bT.LY hU dB;have cg:=dX w5 bT;have uS:∀g,v.ownBlock=some g->w.heap.size<=g:=λg hg=>by have:=pn g hg;have:=cn.size;omega
  obtain⟨va,vc,rfl,zF⟩:=fC.rd.shape
  have BL:succ.length<=vc:=by
   rcases fC.shape with⟨-,h0⟩|⟨g,c1,hv,dP⟩
   ·omega
   ·cases hv;exact dP
  refine M4 O$ run_seq$ qN O$ LW O$ MC O$ Ma Qn O$ qV ((by first|exact M1 U4 O O gL O|exact M1 U4 O O FG O)) ?_;refine Md O O$ O9 Mr O$ Ma Pu O$ qV ((by first|exact M1 U3 O O gL O|exact M1 U3 O O FG O)) ?_;refine N9 O O$ ML$ MN O O$ Md O O$ Mn z0V O (SV _ succ hs w5 fC.rd) ?_;rintro _ w5 ⟨rfl,rfl⟩;refine qV ((by first|exact MX O|exact Oy O)) ?_;refine MN O O$ Md O O$ O9 Mr O$ O3 O O$ ML$ MN O O$ Md O O$ LW O$ O9 Mr O$ Oa O O ?_;rw[show(succ.length:Int)-1=((succ.length-1:Nat):Int) by omega];obtain⟨y,hy⟩:∃y,succ[succ.length-1]? =some y:=⟨_,List.getElem?_eq_getElem (by omega)⟩;have Ld:=BK y (List.mem_of_getElem? hy)
  obtain⟨g5,c5,e5⟩:∃g c,Value.slice va succ.length vc= .slice (some ⟨g,0,none⟩) succ.length c:=by
   rcases fC.shape with⟨-,h0⟩|⟨g,c,e,hc⟩
   ·omega
   ·exact⟨g,c,e⟩
  cases e5;refine qV (MS Mr Mi O O (by omega))$ qV (MA Np O O (Na fC.rd (show(succ.map Mx)[succ.length-1]? =some (Mx y) by rw[List.getElem?_map,hy];rfl))) ?_;refine qV (MK O Np U3 (by omega))$ LW O$ PD O O$ ML$ MN O O$ LW O$ qV (Mv (news:=WC p) Vv O QC O (vX.cells (n:=3) O) O)$ Md O O$ LW O$ qV (Mv (news:=[I (succ.length:Int),I (q:Int)]) z0m O OG O (gL.cells (n:=2) O) O)$ Md O O$ Mn zdZ O (z5x p hp x hx succ ref hs bO js q hq mL HN HO fC.rd cg BL mT hl rest hb zE.rd) ?_;rintro _ w6 ⟨rfl,h6,aR⟩;refine qV ((by first|exact MX O|exact Oy O)) ?_;refine MN O O$ LX$ Mz.qb (e:=[(0,_),(14,_),(16,_),(134,_)]) ?_;refine An O$ py$ qN O$ LW O$ Me O$ M4 O$ LZ Tryz.func154 O ?_;exact⟨_,rfl,_,rfl,fC.kp aR (λg hg e=>by have:=uS g hg;omega),uS,h6,bT.trans aR⟩
 case BM=>
  refine LU$ qN O$ LW O$ qV (N7 Qe O O)$ M4 O$ An O$ run_seq$ qN O$ qV (Mv (news:=WC p) Vv O QC O (aL.cells (n:=3) O) O)$ Mn z0e O (Qt p hp w2) ?_;rintro _ w3 ⟨rfl,ai⟩;refine N9 O O$ Md O O$ Mn z3L O (Sf x hx w3) ?_;rintro _ w3 ⟨rfl,rfl⟩;refine qV ((by first|exact MX O|exact Oy O)) ?_;refine MN O O$ Md O O$ Ni O O$ ML$ MN O O$ Md O O$ Ng O O$ ML$ MN O O$ Md O O$ Mn z0V O (SV _ ref js w3 (dX w3 (aF.trans ai).kp)) ?_;rintro _ w3 ⟨rfl,rfl⟩;refine qV ((by first|exact MX O|exact Oy O)) ?_;refine MN O O$ M4 O$ Mz.qb (e:=[(0,_),(1,_),(2,_),(4,_),(9,_),(11,_),(12,_),(13,_),(20,_)]) ?_;refine An O$ M0 O$ Ma Pu O$ qV ((by first|exact M1 U3 O O (ai.LY cZ) O|exact M1 U3 O O (ai.LY aL) O)) ?_;refine Ni O O$ ML$ LW O$ Ma Pu O$ qV ((by first|exact M1 U3 O O (ai.LY cZ) O|exact M1 U3 O O (ai.LY aL) O)) ?_;refine Ng O O$ ML$ MN O O$ LW O$ Ma OW O$ qV ((by first|exact M1 U3 O O (ai.LY cZ) O|exact M1 U3 O O (ai.LY aL) O)) ?_;refine Ni O O$ ML$ MN O O$ LW O$ Ma OW O$ qV ((by first|exact M1 U3 O O (ai.LY cZ) O|exact M1 U3 O O (ai.LY aL) O)) ?_;refine Ma PN O$ qV ((by first|exact M1 U3 O O (ai.LY cZ) O|exact M1 U3 O O (ai.LY aL) O)) ?_;refine Ng O O$ ML$ MN O O$ LW O ?_;rcases Nat.eq_zero_or_pos q with e0|e0
  ·have HP:ref.length=0:=by rw[mL e0];rfl
   refine Ma OW O$ qV ((by first|exact M1 U3 O O (ai.LY cZ) O|exact M1 U3 O O (ai.LY aL) O)) ?_;refine O3 O O$ O4$ Md O O$ O9 Mr O$ Ng O O$ ML$ NC O O$ MN O O$ M4 O$ Mz.qb (e:=[(0,_),(1,_),(2,_),(4,_),(9,_),(11,_),(12,_),(13,_),(20,_)]) ?_;refine An O$ qN O$ Ma Pu O$ qV ((by first|exact M1 U3 O O (ai.LY cZ) O|exact M1 U3 O O (ai.LY aL) O)) ?_;refine O3 O O$ ML$ LW O$ qS$ qS$ qS$ MN O O$ M4 O$ An O$ py$ LV ?_;exact(lR _ _ ⟨rfl,ai⟩).qb
  ·refine Ma OW O$ qV ((by first|exact M1 U3 O O (ai.LY cZ) O|exact M1 U3 O O (ai.LY aL) O)) ?_;refine O3 O O$ ML$ LW O$ qS$ qS$ qS$ MN O O$ MN O O$ M4 O$ Mz.qb (e:=[(0,_),(1,_),(2,_),(4,_),(9,_),(11,_),(12,_),(13,_),(20,_)]) ?_;refine An O$ qN O$ Ma Pu O$ qV ((by first|exact M1 U3 O O (ai.LY cZ) O|exact M1 U3 O O (ai.LY aL) O)) ?_;refine O3 O O$ ML$ LW O$ qS$ qS$ qS$ MN O O$ M4 O$ An O$ py$ LV ?_;exact(lR _ _ ⟨rfl,ai⟩).qb
theorem z00 {w:World}{r:Nat}(p:OE)(hp:p.Nj)(x:Nat)(hx:x<65536)(N:Nat)(hN:N<=65536):
  Mw Tryz.prog 154 [ptr r 0,I (x:Int),I (N:Int),.agg #[I ((0:Nat):Int),I ((0:Nat):Int)],.slice none 0 0,lpV p] w λu w'=>u= .tuple #[.slice none 0 0,I 0]/\Ext w w':=by
 obtain⟨g1,g2,g3,g4⟩:=id hp
 have sj:([]:List Nat).length=0:=rfl
 refine It (e:=[(0,_),(1,_),(2,_),(3,_),(4,_),(5,_)]) Tryz.func154 O Tryz.ntmps154 O O$ qN O$ M5 O O (O2 O (cs:=[I ((0:Nat):Int),I ((0:Nat):Int)]) O) ?_
 rintro _ w1 ⟨b9,rfl,mJ,ad,cJ⟩
 refine M5 O O (O2 O (cs:=WC p) O) ?_
 rintro _ w2 ⟨b11,rfl,iU,af,aL⟩
 replace aL:M7 w2 b11 [I (p.Mq:Int),I (p.interval:Int),I (p.zeta:Int)] 212:=aL
 have aF:=ad.trans af
 have cZ:=af.LY cJ
 refine Me O$ M4 O$ run_seq$ LU$ qN O$ LW O$ qV (N7 Qe O O)$ M4 O$ An O$ run_seq$ qN O$ qV (Mv (news:=WC p) Vv O QC O (aL.cells (n:=3) O) O)$ Mn z0e O (Qt p hp w2) ?_
 rintro _ w3 ⟨rfl,ai⟩
 refine N9 O O$ Md O O$ Mn z3L O (Sf x hx w3) ?_
 rintro _ w3 ⟨rfl,rfl⟩
 refine qV ((by first|exact MX O|exact Oy O)) ?_
 refine MN O O$ Md O O$ Ni O O$ ML$ MN O O$ Md O O$ Ng O O$ ML$ MN O O$ Md O O$ Mn z0V O (SV (.slice none 0 0) [] ⟨List.Pairwise.nil,λy h=>(by cases h)⟩ w3 S2) ?_
 rintro _ w3 ⟨rfl,rfl⟩
 refine qV ((by first|exact MX O|exact Oy O)) ?_
 refine MN O O$ M4 O$ Mz.qb (e:=[(0,_),(1,_),(2,_),(4,_),(9,_),(11,_),(12,_),(13,_),(20,_)]) ?_
 refine An O$ M0 O$ Ma Pu O$ qV ((by first|exact M1 U3 O O (ai.LY cZ) O|exact M1 U3 O O (ai.LY aL) O)) ?_
 refine Ni O O$ ML$ LW O$ Ma Pu O$ qV ((by first|exact M1 U3 O O (ai.LY cZ) O|exact M1 U3 O O (ai.LY aL) O)) ?_
 refine Ng O O$ ML$ MN O O$ LW O$ Ma OW O$ qV ((by first|exact M1 U3 O O (ai.LY cZ) O|exact M1 U3 O O (ai.LY aL) O)) ?_
 refine Ni O O$ ML$ MN O O$ LW O$ Ma OW O$ qV ((by first|exact M1 U3 O O (ai.LY cZ) O|exact M1 U3 O O (ai.LY aL) O)) ?_
 refine Ma PN O$ qV ((by first|exact M1 U3 O O (ai.LY cZ) O|exact M1 U3 O O (ai.LY aL) O)) ?_
 refine Ng O O$ ML$ MN O O$ LW O$ Ma OW O$ qV ((by first|exact M1 U3 O O (ai.LY cZ) O|exact M1 U3 O O (ai.LY aL) O)) ?_
 refine O3 O O$ O4$ Md O O$ O9 Mr O$ Ng O O$ ML$ NC O O$ MN O O$ M4 O$ Mz.qb (e:=[(0,_),(1,_),(2,_),(4,_),(9,_),(11,_),(12,_),(13,_),(20,_)]) ?_
 refine An O$ qN O$ Ma Pu O$ qV ((by first|exact M1 U3 O O (ai.LY cZ) O|exact M1 U3 O O (ai.LY aL) O)) ?_
 refine O3 O O$ O4$ LW O$ Ma OW O$ qV ((by first|exact M1 U3 O O (ai.LY cZ) O|exact M1 U3 O O (ai.LY aL) O)) ?_
 refine O3 O O$ O4$ NC O O$ M4 O$ M9 O$ qN O$ Me O$ M4 O$ LZ Tryz.func154 O ?_
 exact⟨_,rfl,rfl,aF.trans ai⟩
/-! ### A packer's cells -/
def Sq (q:Value×Nat):List Value:=[q.1,I (q.2:Int)]
def U1 (p:Nb)(R:List (Value×Nat))(n wp ed:Nat):List Value:=RR p++(R.flatMap Sq++[I (n:Int),ptr wp 0,I (ed:Int),I 0])
theorem Ov:∀R:List (Value×Nat),(R.flatMap Sq).length=R.length*2
 |[]=>rfl
 |q::R=>by rw[List.flatMap_cons,List.length_append,Ov R,List.length_cons,show(Sq q).length=2 from rfl];omega
theorem z1O:∀(R:List (Value×Nat)) (i j:Nat) (q:Value×Nat) (u:Value),R[i]? =some q->(Sq q)[j]? =some u->(R.flatMap Sq)[i*2+j]? =some u
 |[],i,j,q,u,h,_=>by simp at h
 | a :: R, 0, j, q, u, h, hj => by
   rw[List.getElem?_cons_zero] at h;cases h;have:=(List.getElem?_eq_some_iff.1 hj).1;rw[List.flatMap_cons,List.getElem?_append_left (by omega),Nat.zero_mul,Nat.zero_add]
   exact hj
 | a :: R, i + 1, j, q, u, h, hj => by
   rw[List.getElem?_cons_succ] at h;rw[List.flatMap_cons,List.getElem?_append_right (by show 2<=_;omega),show(i+1)*2+j-(Sq a).length=i*2+j by show _-2=_;omega];exact z1O R i j q u h hj
theorem z0i:∀(R:List (Value×Nat)) (i:Nat) (x:Value×Nat),i<R.length->(R.set i x).flatMap Sq=(R.flatMap Sq).take (i*2)++Sq x++(R.flatMap Sq).drop (i*2+2)
 |[],i,x,h=>by simp at h
 | a :: R, 0, x, h => by
   rw[List.set_cons_zero,List.flatMap_cons,List.flatMap_cons,Nat.zero_mul,List.take_zero,List.nil_append,Nat.zero_add,List.drop_left' (show(Sq a).length=2 from rfl)]
 | a :: R, i + 1, x, h => by
   rw[List.length_cons] at h;rw[List.set_cons_succ,List.flatMap_cons,List.flatMap_cons,z0i R i x (by omega)];rw[show(i+1)*2=(Sq a).length+i*2 by show _=2+_;omega,List.take_length_add_append,Nat.add_assoc,List.drop_length_add_append,List.append_assoc,List.append_assoc,List.append_assoc]
section
variable {p:Nb}{R:List (Value×Nat)}{n wp ed:Nat}
theorem z2N (hR:R.length=17):(U1 p R n wp ed).length=43:=by
 unfold U1
 rw[List.length_append,List.length_append,Ov,hR];rfl
theorem WD (hR:R.length=17)(j:Nat):(U1 p R n wp ed)[39+j]? =[I (n:Int),ptr wp 0,I (ed:Int),I 0][j]? :=by
 unfold U1
 rw[List.getElem?_append_right (by show 5<=_;omega),List.getElem?_append_right (by rw[Ov,hR];show _<=_-5;omega),Ov,hR]
 congr 1
 show 39+j-5-17*2=j
 omega
theorem z2S (hR:R.length=17):(U1 p R n wp ed)[39]? =some (I (n:Int)):=WD hR 0
theorem zbe (hR:R.length=17):(U1 p R n wp ed)[40]? =some (ptr wp 0):=WD hR 1
theorem zf6 (hR:R.length=17):(U1 p R n wp ed)[41]? =some (I (ed:Int)):=WD hR 2
theorem zg8 (hR:R.length=17):(U1 p R n wp ed)[42]? =some (I 0):=WD hR 3
theorem z9B (hR:R.length=17){i:Nat}{v:Value}{c:Nat}(h:R[i]? =some (v,c))(j:Nat)(u:Value)(hj:[v,I (c:Int)][j]? =some u):(U1 p R n wp ed)[5+i*2+j]? =some u:=by
 have hi:=(List.getElem?_eq_some_iff.1 h).1
 have kK:j<2:=(List.getElem?_eq_some_iff.1 hj).1
 unfold U1
 rw[List.getElem?_append_right (by show 5<=_;omega),show 5+i*2+j-(RR p).length=i*2+j by show _-5=_;omega,List.getElem?_append_left (by rw[Ov];omega)]
 exact z1O R i j _ u h hj
theorem z5G (hR:R.length=17){i:Nat}(hi:i<17)(v:Value)(c:Nat):NB (U1 p R n wp ed) (5+i*2) [v,I (c:Int)]=U1 p (R.set i (v,c)) n wp ed:=by
 unfold U1 NB
 rw[z0i R i (v,c) (by omega)]
 rw[show 5+i*2=(RR p).length+i*2 from rfl,List.take_length_add_append,show(RR p).length+i*2+[v,I (c:Int)].length=(RR p).length+(i*2+2) from rfl,List.drop_length_add_append]
 rw[List.take_append_of_le_length (by rw[Ov];omega),List.drop_append_of_le_length (by rw[Ov];omega)]
 simp only[List.append_assoc]
 rfl
theorem z9x (hR:R.length=17)(m:Nat):(U1 p R n wp ed).set 39 (I (m:Int))=U1 p R m wp ed:=by
 unfold U1
 rw[List.set_append_right _ _ (by show 5<=_;omega),List.set_append_right _ _ (by rw[Ov,hR];show _<=39-5;omega),Ov,hR]
 rfl
theorem z8p (hR:R.length=17)(m:Nat):(U1 p R n wp ed).set 41 (I (m:Int))=U1 p R n wp m:=by
 unfold U1
 rw[List.set_append_right _ _ (by show 5<=_;omega),List.set_append_right _ _ (by rw[Ov,hR];show _<=41-5;omega),Ov,hR]
 rfl
end
theorem z89 {w:World}{k:Nat}{p:Nb}{R:List (Value×Nat)}{n wp ed:Nat}(hB:M7 w k (U1 p R n wp ed) 279)(hR:R.length=17)(hn:n<=65536)(a:Option Addr)(m cp c:Nat):
  Mw Tryz.prog 161 [ptr k 5,.slice a m cp,I (c:Int)] w λu w'=>u= .tuple #[]/\M7 w' k (U1 p (R.set (n%17) (.slice a m cp,c)) (n+1) wp ed) 279/\Kp (λi=>i=k) w w':=by
 refine It (e:=[(0,_),(1,_),(2,_)]) Tryz.func161 O Tryz.ntmps161 O O ?_
 have hg:=Ext.Mm w
 have cI:(R.set (n%17) (.slice a m cp,c)).length=17:=by rw[List.length_set];exact hR
 refine run_seq$ Mo [12] (λw'=>Ext w w') (by kernel_rfl) O$ qL [9,10,11,12] 0 O (λ_ h=>MH O) hg$ qL [2,3,4,5,11,12] 1 O (λ_ h=>MH O) hg$ qL [3,4,5,11,12] 2 O (λ_ h=>N4 O) hg$ qL [4,5,11,12] 3 O (λ_ h=>My RJ O) hg$ qL [8,11,12] 6 O (λ_ h=>MH O) hg$ qL [8,11,12] 7 O (λ_ h=>MH O) hg$ qL [11,12] 8 O (λ_ h=>OO (cs:=[_,_]) Nf O zaA O O) hg$ qL [10,11,12] 9 O (λ_ h=>N4 O) hg$ qL [11,12] 10 O (λ_ h=>My z41 O) hg$ qL [5,11,12] 4 O (λ_ h=>M1 U3 O O (h.LY hB) (z2S hR)) hg$ qL [11,12] 5 O (λ_ h=>yre O O (by omega)) hg$ qL [12] 11 O (λ_ h=>yia zeI Nf O O (by omega)) hg ?_
 refine PH [12]$ qO 12$ MI (i:=12) O O (MO (news:=[.slice a m cp,I (c:Int)]) Nf O O O O (hg.LY hB) (by rw[z2N hR];show 5+n%17*2+2<=43;omega)) ?_
 rintro w1 ⟨aj,aK⟩
 refine⟨trivial,?_⟩
 replace aj:M7 w1 k (NB (U1 p R n wp ed) (5+n%17*2) [.slice a m cp,I (c:Int)]) 279:=aj
 rw[z5G hR (Nat.mod_lt _ (by decide))] at aj
 refine qE$ M0 O$ LW O$ MC O$ Ma RJ O$ qV (M1 U3 O O aj (z2S cI))$ MT O O$ MC O$ Ma RJ O$ Mb O (NT MV O O O aj (by rw[z2N cI];decide)) ?_
 rintro w2 ⟨am,ao⟩
 replace am:M7 w2 k ((U1 p (R.set (n%17) (.slice a m cp,c)) n wp ed).set 39 (I ((n+1:Nat):Int))) 279:=am
 rw[z9x cI] at am
 refine LX$ Nq Tryz.func161 O ?_
 exact⟨_,rfl,rfl,am,(hg.kp.trans aK).trans ao⟩
def QA (p:Nb)(m size c:Nat):Bool:=decide (0<m/\m<=p.most/\0<size/\size<=p.most/\c<p.chain)
theorem Tj {w:World}{k:Nat}{p:Nb}{R:List (Value×Nat)}{n wp ed:Nat}(hB:M7 w k (U1 p R n wp ed) 279)(hR:R.length=17)(hn:n<=65536)(hp:p.Nj)(ref size:Nat)(h1:1<=ref)(h2:ref<=p.Mq)
  {a:Option Addr} {m cp c:Nat} (hq:ref<=n->R[(n-ref)%17]? =some (.slice a m cp,c)):
  Mw Tryz.prog 159 [ptr k 5,I (ref:Int),I (size:Int),bpV p] w λu w'=>u=(if ref<=n then .tuple #[.agg #[.slice a m cp,I (c:Int)],.bool (QA p m size c)] else .tuple #[.agg #[.slice none 0 0,I 0],.bool false])/\Ext w w':=by
 have vY:p.Mq<=16:=hp.1.1
 refine It (e:=[(0,_),(1,_),(2,_),(3,_)]) Tryz.func159 O Tryz.ntmps159 O O$ qN O$ M5 O O (O2 O (cs:=RR p) O) ?_
 rintro _ w1 ⟨b7,rfl,kF,ad,bK⟩
 refine M5 O O (Oo (cs:=[_,_]) Nf O) ?_
 rintro _ w2 ⟨b8,rfl,jk,af,cu⟩
 have z1:=ad.size
 have z2:=af.size
 have l7:=bK.lt
 have l8:=cu.lt
 have aF:=ad.trans af
 have ep:=af.LY bK
 replace ep:M7 w2 b7 [I (p.Mq:Int),I (p.chain:Int),I (p.interval:Int),I (p.zeta:Int),I (p.most:Int)] 88:=ep
 replace cu:M7 w2 b8 [.slice none 0 0,I 0] 274:=cu
 have sH:=aF.LY hB
 have aa:=Ext.Mm w2
 refine M4 O$ run_seq$ run_seq ?_
 rcases Nat.lt_or_ge n ref with aP|jB
 ·refine NV (λw'=>Ext w2 w') O$ Mj 0 O O (aa)$ M3 1 O (Xc O O) aa$ QT$ Mj 2 O O (aa)$ Mj 3 O O (aa)$ Mj 4 O O (aa)$ M3 5 O (N4 O) aa$ M3 6 O (My RJ O) aa$ M3 8 O (My XG O) aa$ qT 9 O (λ_ h=>M1 U3 O O (h.LY ep) O) aa$ qT 7 O (λ_ h=>M1 U3 O O (h.LY sH) (z2S hR)) aa$ M3 10 O (ymi O O) aa$ M3 11 O (UL O O) aa ?_;refine QB$ M3 12 O (Ro O O) aa$ qE$ M9 O$ qN O$ qV (OO (cs:=[_,_]) Nf O zaA O O) ?_;have sI:=aa.LY cu;refine Mb O (MO (news:=[.slice none 0 0,I 0]) Nf O O O O sI (by simp)) ?_;rintro w3 ⟨sJ,au⟩;replace sJ:M7 w3 b8 [.slice none 0 0,I 0] 274:=sJ;refine M4 O$ Mt Tryz.func159 (.cell RO O Nf O (M7.cells (n:=2) sJ (news:=[_,_]) O) O (.tmp O .nil)) ?_;rw[if_neg (by omega)];exact⟨_,rfl,rfl,(aF.trans aa).LS au (λi e=>by omega)⟩
 ·have fR:=hq jB;rw[if_pos jB];refine NV (λw'=>Ext w2 w') O$ Mj 0 O O (aa)$ M3 1 O (Xc O O) aa$ QT$ Mj 2 O O (aa)$ Mj 3 O O (aa)$ Mj 4 O O (aa)$ M3 5 O (N4 O) aa$ M3 6 O (My RJ O) aa$ M3 8 O (My XG O) aa$ qT 9 O (λ_ h=>M1 U3 O O (h.LY ep) O) aa$ qT 7 O (λ_ h=>M1 U3 O O (h.LY sH) (z2S hR)) aa$ M3 10 O (ymi O O) aa$ M3 11 O (UL O O) aa ?_;refine QT$ M3 12 O (Ro O O) aa$ qE$ An O$ py$ run_seq ?_;have ae:=aa.trans (Ext.Mm w2.drew);have de:=Ext.Mm w2.drew;have nl:=aa.LY sH;refine Mo [13] (λw'=>Ext w2.drew w') (by kernel_rfl) O$ qL [8,9,10,11,13] 0 O (λ_ h=>MH O) de$ qL [2,3,4,6,7,10,11,13] 1 O (λ_ h=>MH O) de$ qL [3,4,6,7,10,11,13] 2 O (λ_ h=>N4 O) de$ qL [4,6,7,10,11,13] 3 O (λ_ h=>My RJ O) de$ qL [6,7,10,11,13] 5 O (λ_ h=>MH O) de$ qL [9,10,11,13] 8 O (λ_ h=>N4 O) de$ qL [10,11,13] 9 O (λ_ h=>My z41 O) de$ qL [6,7,10,11,13] 4 O (λ_ h=>M1 U3 O O (h.LY nl) (z2S hR)) de$ qL [7,10,11,13] 6 O (λ_ h=>TO O O (by omega)) de ?_;rw[show(n:Int)-(ref:Int)=((n-ref:Nat):Int) by omega];refine qL [10,11,13] 7 O (λ_ h=>yre O O (by omega)) de$ qL [11,13] 10 O (λ_ h=>yia zeI Nf O O (by omega)) de$ qL [13] 11 O (λ_ h=>Mv (news:=[.slice a m cp,I (c:Int)]) RO O Nf O (λj u hj=>by rw[(h.LY nl).cell];exact z9B hR fR j u hj) O) de ?_;refine NL (i:=12) (by kernel_rfl)$ N8 (i:=12) O O O (Oo (cs:=[_,_]) Nf O) ?_;rintro _ w3 ⟨b10,rfl,AH,ai,fi⟩;refine⟨de.trans ai,?_⟩;refine PH [13]$ qO 13$ MI (i:=13) O O (MO (news:=[.slice a m cp,I (c:Int)]) Nf O O O O fi (by simp)) ?_;rintro w4 ⟨aX,av⟩;refine⟨trivial,?_⟩;replace aX:M7 w4 b10 [.slice a m cp,I (c:Int)] 274:=aX;have z23:=ae.size;have z3:=ai.size;have cQ:Ext w2 w4:=(ae.trans ai).LS av (λi e=>by omega);have z4:=cQ.size;have eB:=cQ.LY cu;have cd:=cQ.LY ep;have ag:=Ext.Mm w4;refine qE$ Mz.qb (e:=[(2,_),(7,_),(8,_),(9,_),(10,_)]) ?_;refine run_seq ?_;rcases Nat.eq_zero_or_pos m with c0|c0
  ·refine NV (λw'=>Kp (λi=>i=b8) w4 w') O$ qT 0 O (λ_ hS=>(by first|exact Mv RO O Nf O (M7.cells (n:=2) (hS.LY aX (by omega)) (news:=[_,_]) O) O|exact Mv RO O Nf O (M7.cells (n:=2) (hS.LY cd (by omega)) (news:=[_,_]) O) O)) (ag.kp) ?_;refine M3 1 O (My OX O) (ag.kp)$ qT 2 O (λ_ hS=>(by first|exact M1 Mr O O (hS.LY aX (by omega)) O|exact M1 Mr O O (hS.LY cd (by omega)) O)) (ag.kp) ?_;refine M3 3 O (Pb Mr O) (ag.kp)$ M3 4 O (UL O O) (ag.kp)$ QT$ Mj 5 O O (ag.kp)$ qJ 6 O (ag.kp)$ qJ 7 O (ag.kp)$ qJ 8 O (ag.kp)$ qJ 9 O (ag.kp)$ qJ 10 O (ag.kp)$ qJ 11 O (ag.kp)$ M3 12 O (Ro O O) (ag.kp)$ Mj 13 O O (ag.kp)$ qJ 14 O (ag.kp)$ qJ 15 O (ag.kp) ?_;refine M3 16 O (Ro O O) (ag.kp)$ Mj 17 O O (ag.kp)$ qJ 18 O (ag.kp)$ qJ 19 O (ag.kp)$ qJ 20 O (ag.kp)$ qJ 21 O (ag.kp)$ M3 22 O (Ro O O) (ag.kp)$ Mj 23 O O (ag.kp)$ qJ 24 O (ag.kp)$ qJ 25 O (ag.kp)$ qJ 26 O (ag.kp)$ qJ 27 O (ag.kp)$ qJ 28 O (ag.kp)$ M3 29 O (Ro O O) (ag.kp) ?_;refine qO 30$ MI (i:=30) O O (MO (news:=[.slice a m cp,I (c:Int)]) Nf O O O O (ag.LY eB) (by simp)) ?_;rintro w5 ⟨bI,ak⟩;refine⟨ag.kp.trans ak,?_⟩;replace bI:M7 w5 b8 [.slice a m cp,I (c:Int)] 274:=bI;refine M3 31 O (NX O) (ag.kp.trans ak)$ qE$ Mz.qb (e:=[(8,_),(9,_)]) ?_;refine Mt Tryz.func159 (.cell RO O Nf O (M7.cells (n:=2) bI (news:=[_,_]) O) O (.tmp O .nil)) ?_;have az:QA p m size c=false:=decide_eq_false (λh=>by omega);rw[az];exact⟨_,rfl,rfl,((aF.trans cQ).trans ag).LS ak (λi e=>by omega)⟩
  ·rcases Nat.lt_or_ge p.most m with c1|c1
   ·refine NV (λw'=>Kp (λi=>i=b8) w4 w') O$ qT 0 O (λ_ hS=>(by first|exact Mv RO O Nf O (M7.cells (n:=2) (hS.LY aX (by omega)) (news:=[_,_]) O) O|exact Mv RO O Nf O (M7.cells (n:=2) (hS.LY cd (by omega)) (news:=[_,_]) O) O)) (ag.kp) ?_;refine M3 1 O (My OX O) (ag.kp)$ qT 2 O (λ_ hS=>(by first|exact M1 Mr O O (hS.LY aX (by omega)) O|exact M1 Mr O O (hS.LY cd (by omega)) O)) (ag.kp) ?_;refine M3 3 O (Pb Mr O) (ag.kp)$ M3 4 O (UL O O) (ag.kp)$ QB$ Mj 5 O O (ag.kp)$ M3 6 O (My OX O) (ag.kp)$ qT 7 O (λ_ hS=>(by first|exact M1 Mr O O (hS.LY aX (by omega)) O|exact M1 Mr O O (hS.LY cd (by omega)) O)) (ag.kp) ?_;refine M3 8 O (Pb Mr O) (ag.kp)$ M3 9 O (My Qb O) (ag.kp)$ qT 10 O (λ_ hS=>(by first|exact M1 U3 O O (hS.LY aX (by omega)) O|exact M1 U3 O O (hS.LY cd (by omega)) O)) (ag.kp) ?_;refine M3 11 O (Vn O O) (ag.kp)$ QT$ M3 12 O (RM O O) (ag.kp)$ Mj 13 O O (ag.kp)$ qJ 14 O (ag.kp)$ qJ 15 O (ag.kp)$ M3 16 O (Ro O O) (ag.kp)$ Mj 17 O O (ag.kp)$ qJ 18 O (ag.kp)$ qJ 19 O (ag.kp)$ qJ 20 O (ag.kp)$ qJ 21 O (ag.kp)$ M3 22 O (Ro O O) (ag.kp)$ Mj 23 O O (ag.kp) ?_;refine qJ 24 O (ag.kp)$ qJ 25 O (ag.kp)$ qJ 26 O (ag.kp)$ qJ 27 O (ag.kp)$ qJ 28 O (ag.kp)$ M3 29 O (Ro O O) (ag.kp)$ qO 30$ MI (i:=30) O O (MO (news:=[.slice a m cp,I (c:Int)]) Nf O O O O (ag.LY eB) (by simp)) ?_;rintro w5 ⟨bI,ak⟩;refine⟨ag.kp.trans ak,?_⟩;replace bI:M7 w5 b8 [.slice a m cp,I (c:Int)] 274:=bI;refine M3 31 O (NX O) (ag.kp.trans ak)$ qE$ Mz.qb (e:=[(8,_),(9,_)]) ?_;refine Mt Tryz.func159 (.cell RO O Nf O (M7.cells (n:=2) bI (news:=[_,_]) O) O (.tmp O .nil)) ?_;have az:QA p m size c=false:=decide_eq_false (λh=>by omega);rw[az];exact⟨_,rfl,rfl,((aF.trans cQ).trans ag).LS ak (λi e=>by omega)⟩
   ·rcases Nat.eq_zero_or_pos size with c2|c2
    ·refine NV (λw'=>Kp (λi=>i=b8) w4 w') O$ qT 0 O (λ_ hS=>(by first|exact Mv RO O Nf O (M7.cells (n:=2) (hS.LY aX (by omega)) (news:=[_,_]) O) O|exact Mv RO O Nf O (M7.cells (n:=2) (hS.LY cd (by omega)) (news:=[_,_]) O) O)) (ag.kp) ?_;refine M3 1 O (My OX O) (ag.kp)$ qT 2 O (λ_ hS=>(by first|exact M1 Mr O O (hS.LY aX (by omega)) O|exact M1 Mr O O (hS.LY cd (by omega)) O)) (ag.kp) ?_;refine M3 3 O (Pb Mr O) (ag.kp)$ M3 4 O (UL O O) (ag.kp)$ QB$ Mj 5 O O (ag.kp)$ M3 6 O (My OX O) (ag.kp)$ qT 7 O (λ_ hS=>(by first|exact M1 Mr O O (hS.LY aX (by omega)) O|exact M1 Mr O O (hS.LY cd (by omega)) O)) (ag.kp) ?_;refine M3 8 O (Pb Mr O) (ag.kp)$ M3 9 O (My Qb O) (ag.kp)$ qT 10 O (λ_ hS=>(by first|exact M1 U3 O O (hS.LY aX (by omega)) O|exact M1 U3 O O (hS.LY cd (by omega)) O)) (ag.kp) ?_;refine M3 11 O (Vn O O) (ag.kp)$ QB$ M3 12 O (RM O O) (ag.kp)$ Mj 13 O O (ag.kp)$ Mj 14 O O (ag.kp)$ M3 15 O (UL O O) (ag.kp)$ QT$ M3 16 O (RM O O) (ag.kp)$ Mj 17 O O (ag.kp)$ qJ 18 O (ag.kp)$ qJ 19 O (ag.kp)$ qJ 20 O (ag.kp)$ qJ 21 O (ag.kp)$ M3 22 O (Ro O O) (ag.kp) ?_;refine Mj 23 O O (ag.kp)$ qJ 24 O (ag.kp)$ qJ 25 O (ag.kp)$ qJ 26 O (ag.kp)$ qJ 27 O (ag.kp)$ qJ 28 O (ag.kp)$ M3 29 O (Ro O O) (ag.kp)$ qO 30$ MI (i:=30) O O (MO (news:=[.slice a m cp,I (c:Int)]) Nf O O O O (ag.LY eB) (by simp)) ?_;rintro w5 ⟨bI,ak⟩;refine⟨ag.kp.trans ak,?_⟩;replace bI:M7 w5 b8 [.slice a m cp,I (c:Int)] 274:=bI;refine M3 31 O (NX O) (ag.kp.trans ak)$ qE$ Mz.qb (e:=[(8,_),(9,_)]) ?_;refine Mt Tryz.func159 (.cell RO O Nf O (M7.cells (n:=2) bI (news:=[_,_]) O) O (.tmp O .nil)) ?_;have az:QA p m size c=false:=decide_eq_false (λh=>by omega);rw[az];exact⟨_,rfl,rfl,((aF.trans cQ).trans ag).LS ak (λi e=>by omega)⟩
    ·rcases Nat.lt_or_ge p.most size with c3|c3
     ·refine NV (λw'=>Kp (λi=>i=b8) w4 w') O$ qT 0 O (λ_ hS=>(by first|exact Mv RO O Nf O (M7.cells (n:=2) (hS.LY aX (by omega)) (news:=[_,_]) O) O|exact Mv RO O Nf O (M7.cells (n:=2) (hS.LY cd (by omega)) (news:=[_,_]) O) O)) (ag.kp) ?_;refine M3 1 O (My OX O) (ag.kp)$ qT 2 O (λ_ hS=>(by first|exact M1 Mr O O (hS.LY aX (by omega)) O|exact M1 Mr O O (hS.LY cd (by omega)) O)) (ag.kp) ?_;refine M3 3 O (Pb Mr O) (ag.kp)$ M3 4 O (UL O O) (ag.kp)$ QB$ Mj 5 O O (ag.kp)$ M3 6 O (My OX O) (ag.kp)$ qT 7 O (λ_ hS=>(by first|exact M1 Mr O O (hS.LY aX (by omega)) O|exact M1 Mr O O (hS.LY cd (by omega)) O)) (ag.kp) ?_;refine M3 8 O (Pb Mr O) (ag.kp)$ M3 9 O (My Qb O) (ag.kp)$ qT 10 O (λ_ hS=>(by first|exact M1 U3 O O (hS.LY aX (by omega)) O|exact M1 U3 O O (hS.LY cd (by omega)) O)) (ag.kp) ?_;refine M3 11 O (Vn O O) (ag.kp)$ QB$ M3 12 O (RM O O) (ag.kp)$ Mj 13 O O (ag.kp)$ Mj 14 O O (ag.kp)$ M3 15 O (UL O O) (ag.kp)$ QB$ M3 16 O (RM O O) (ag.kp)$ Mj 17 O O (ag.kp)$ Mj 18 O O (ag.kp)$ M3 19 O (My Qb O) (ag.kp)$ qT 20 O (λ_ hS=>(by first|exact M1 U3 O O (hS.LY aX (by omega)) O|exact M1 U3 O O (hS.LY cd (by omega)) O)) (ag.kp) ?_;refine M3 21 O (Vn O O) (ag.kp)$ QT$ M3 22 O (RM O O) (ag.kp)$ Mj 23 O O (ag.kp)$ qJ 24 O (ag.kp)$ qJ 25 O (ag.kp)$ qJ 26 O (ag.kp)$ qJ 27 O (ag.kp)$ qJ 28 O (ag.kp)$ M3 29 O (Ro O O) (ag.kp)$ qO 30$ MI (i:=30) O O (MO (news:=[.slice a m cp,I (c:Int)]) Nf O O O O (ag.LY eB) (by simp)) ?_;rintro w5 ⟨bI,ak⟩;refine⟨ag.kp.trans ak,?_⟩;replace bI:M7 w5 b8 [.slice a m cp,I (c:Int)] 274:=bI;refine M3 31 O (NX O) (ag.kp.trans ak)$ qE$ Mz.qb (e:=[(8,_),(9,_)]) ?_;refine Mt Tryz.func159 (.cell RO O Nf O (M7.cells (n:=2) bI (news:=[_,_]) O) O (.tmp O .nil)) ?_;have az:QA p m size c=false:=decide_eq_false (λh=>by omega);rw[az];exact⟨_,rfl,rfl,((aF.trans cQ).trans ag).LS ak (λi e=>by omega)⟩
     ·rcases Nat.lt_or_ge c p.chain with c4|c4
      ·refine NV (λw'=>Kp (λi=>i=b8) w4 w') O$ qT 0 O (λ_ hS=>(by first|exact Mv RO O Nf O (M7.cells (n:=2) (hS.LY aX (by omega)) (news:=[_,_]) O) O|exact Mv RO O Nf O (M7.cells (n:=2) (hS.LY cd (by omega)) (news:=[_,_]) O) O)) (ag.kp) ?_;refine M3 1 O (My OX O) (ag.kp)$ qT 2 O (λ_ hS=>(by first|exact M1 Mr O O (hS.LY aX (by omega)) O|exact M1 Mr O O (hS.LY cd (by omega)) O)) (ag.kp) ?_;refine M3 3 O (Pb Mr O) (ag.kp)$ M3 4 O (UL O O) (ag.kp)$ QB$ Mj 5 O O (ag.kp)$ M3 6 O (My OX O) (ag.kp)$ qT 7 O (λ_ hS=>(by first|exact M1 Mr O O (hS.LY aX (by omega)) O|exact M1 Mr O O (hS.LY cd (by omega)) O)) (ag.kp) ?_;refine M3 8 O (Pb Mr O) (ag.kp)$ M3 9 O (My Qb O) (ag.kp)$ qT 10 O (λ_ hS=>(by first|exact M1 U3 O O (hS.LY aX (by omega)) O|exact M1 U3 O O (hS.LY cd (by omega)) O)) (ag.kp) ?_;refine M3 11 O (Vn O O) (ag.kp)$ QB$ M3 12 O (RM O O) (ag.kp)$ Mj 13 O O (ag.kp)$ Mj 14 O O (ag.kp)$ M3 15 O (UL O O) (ag.kp)$ QB$ M3 16 O (RM O O) (ag.kp)$ Mj 17 O O (ag.kp)$ Mj 18 O O (ag.kp)$ M3 19 O (My Qb O) (ag.kp)$ qT 20 O (λ_ hS=>(by first|exact M1 U3 O O (hS.LY aX (by omega)) O|exact M1 U3 O O (hS.LY cd (by omega)) O)) (ag.kp) ?_;refine M3 21 O (Vn O O) (ag.kp)$ QB$ M3 22 O (RM O O) (ag.kp)$ Mj 23 O O (ag.kp)$ M3 24 O (My ZK O) (ag.kp)$ qT 25 O (λ_ hS=>(by first|exact M1 U3 O O (hS.LY aX (by omega)) O|exact M1 U3 O O (hS.LY cd (by omega)) O)) (ag.kp) ?_;refine M3 26 O (My VH O) (ag.kp)$ qT 27 O (λ_ hS=>(by first|exact M1 U3 O O (hS.LY aX (by omega)) O|exact M1 U3 O O (hS.LY cd (by omega)) O)) (ag.kp) ?_;refine M3 28 O (Xc O O) (ag.kp)$ QB$ M3 29 O (RM O O) (ag.kp)$ qO 30$ MI (i:=30) O O (MO (news:=[.slice a m cp,I (c:Int)]) Nf O O O O (ag.LY eB) (by simp)) ?_;rintro w5 ⟨bI,ak⟩;refine⟨ag.kp.trans ak,?_⟩;replace bI:M7 w5 b8 [.slice a m cp,I (c:Int)] 274:=bI;refine M3 31 O (NX O) (ag.kp.trans ak)$ qE$ Mz.qb (e:=[(8,_),(9,_)]) ?_;refine Mt Tryz.func159 (.cell RO O Nf O (M7.cells (n:=2) bI (news:=[_,_]) O) O (.tmp O .nil)) ?_;have az:QA p m size c=true:=decide_eq_true ⟨by omega,by omega,by omega,by omega,by omega⟩;rw[az];exact⟨_,rfl,rfl,((aF.trans cQ).trans ag).LS ak (λi e=>by omega)⟩
      ·refine NV (λw'=>Kp (λi=>i=b8) w4 w') O$ qT 0 O (λ_ hS=>(by first|exact Mv RO O Nf O (M7.cells (n:=2) (hS.LY aX (by omega)) (news:=[_,_]) O) O|exact Mv RO O Nf O (M7.cells (n:=2) (hS.LY cd (by omega)) (news:=[_,_]) O) O)) (ag.kp) ?_;refine M3 1 O (My OX O) (ag.kp)$ qT 2 O (λ_ hS=>(by first|exact M1 Mr O O (hS.LY aX (by omega)) O|exact M1 Mr O O (hS.LY cd (by omega)) O)) (ag.kp) ?_;refine M3 3 O (Pb Mr O) (ag.kp)$ M3 4 O (UL O O) (ag.kp)$ QB$ Mj 5 O O (ag.kp)$ M3 6 O (My OX O) (ag.kp)$ qT 7 O (λ_ hS=>(by first|exact M1 Mr O O (hS.LY aX (by omega)) O|exact M1 Mr O O (hS.LY cd (by omega)) O)) (ag.kp) ?_;refine M3 8 O (Pb Mr O) (ag.kp)$ M3 9 O (My Qb O) (ag.kp)$ qT 10 O (λ_ hS=>(by first|exact M1 U3 O O (hS.LY aX (by omega)) O|exact M1 U3 O O (hS.LY cd (by omega)) O)) (ag.kp) ?_;refine M3 11 O (Vn O O) (ag.kp)$ QB$ M3 12 O (RM O O) (ag.kp)$ Mj 13 O O (ag.kp)$ Mj 14 O O (ag.kp)$ M3 15 O (UL O O) (ag.kp)$ QB$ M3 16 O (RM O O) (ag.kp)$ Mj 17 O O (ag.kp)$ Mj 18 O O (ag.kp)$ M3 19 O (My Qb O) (ag.kp)$ qT 20 O (λ_ hS=>(by first|exact M1 U3 O O (hS.LY aX (by omega)) O|exact M1 U3 O O (hS.LY cd (by omega)) O)) (ag.kp) ?_;refine M3 21 O (Vn O O) (ag.kp)$ QB$ M3 22 O (RM O O) (ag.kp)$ Mj 23 O O (ag.kp)$ M3 24 O (My ZK O) (ag.kp)$ qT 25 O (λ_ hS=>(by first|exact M1 U3 O O (hS.LY aX (by omega)) O|exact M1 U3 O O (hS.LY cd (by omega)) O)) (ag.kp) ?_;refine M3 26 O (My VH O) (ag.kp)$ qT 27 O (λ_ hS=>(by first|exact M1 U3 O O (hS.LY aX (by omega)) O|exact M1 U3 O O (hS.LY cd (by omega)) O)) (ag.kp) ?_;refine M3 28 O (Xc O O) (ag.kp)$ QT$ M3 29 O (RM O O) (ag.kp)$ qO 30$ MI (i:=30) O O (MO (news:=[.slice a m cp,I (c:Int)]) Nf O O O O (ag.LY eB) (by simp)) ?_;rintro w5 ⟨bI,ak⟩;refine⟨ag.kp.trans ak,?_⟩;replace bI:M7 w5 b8 [.slice a m cp,I (c:Int)] 274:=bI;refine M3 31 O (NX O) (ag.kp.trans ak)$ qE$ Mz.qb (e:=[(8,_),(9,_)]) ?_;refine Mt Tryz.func159 (.cell RO O Nf O (M7.cells (n:=2) bI (news:=[_,_]) O) O (.tmp O .nil)) ?_;have az:QA p m size c=false:=decide_eq_false (λh=>by omega);rw[az];exact⟨_,rfl,rfl,((aF.trans cQ).trans ag).LS ak (λi e=>by omega)⟩
abbrev z4o:List (Value×Nat):=List.replicate 17 (.slice none 0 0,0)
theorem z5K (p:Nb)(hp:p.Nj)(w:World):Mw Tryz.prog 116 [bpV p] w λu w'=>∃k wp F,u= .tuple #[ptr k 0,I 0]/\M7 w' k (U1 p z4o 0 wp 0) 279/\UT w' wp [] F/\¬F k/\Ext w w'/\w.heap.size<=k/\∀i,F i->w.heap.size<=i:=by
 refine It (e:=[(0,_)]) Tryz.func116 O Tryz.ntmps116 O O$ qN O$ M5 O O (O2 O (cs:=RR p) O) ?_
 rintro _ w1 ⟨b1,rfl,bR,ad,aj⟩
 have z1:=ad.size
 refine Me O$ M4 O$ run_seq$ qN O$ qV (Mv (news:=RR p) Y4 O Oi O (aj.cells (n:=5) O) O)$ Mn zab O (Wu p hp w1) ?_
 rintro _ w2 ⟨rfl,af⟩
 have z2:=af.size
 have hg:=Ext.Mm w2
 refine Me O$ qM O$ LW O$ N9 O O$ LX$ An O$ py$ run_seq$ NV (λw'=>Ext w2 w') O$ qT 0 O (λ_ hS=>Mv (news:=RR p) Y4 O Oi O ((hS.LY (af.LY aj)).cells (n:=5) O) O) hg$ Pm 1 O Xf O (Rj _) ?_
 rintro _ w3 ⟨wp,F,rfl,lQ,ai,pD⟩
 refine⟨hg.trans ai,?_⟩
 have dC:=hg.trans ai
 have z3:=dC.size
 refine M3 2 O (OO zcd O zdM O O) (hg.trans ai)$ qO 3$ ON (i:=3) O O O (O2 O (cs:=U1 p z4o 0 wp 0) O) ?_
 rintro _ w4 ⟨k,rfl,hk,ay,aH⟩
 refine⟨dC.trans ay,?_⟩
 refine M3 4 O (NX O) (dC.trans ay)$ M3 5 O (NX O) (dC.trans ay)$ qE$ LZ Tryz.func116 O ?_
 exact⟨_,rfl,k,wp,F,rfl,aH,lQ.ext ay,λe=>by have:=lQ.lt e;omega,((ad.trans af).trans dC).trans ay,by omega,λi hi=>by have:=pD i hi;have:=hg.size;omega⟩
structure PkM (w:World)(k:Nat)(p:Nb)(L:List (List Nat))(E:List (Nat×Nat))(bs:List Bool)(F:Nat->Prop)(R:List (Value×Nat))(wp ed:Nat):Prop where
 LY:M7 w k (U1 p R L.length wp ed) 279
 len:R.length=17
 wr:UT w wp bs F
 nk:¬F k
 el:E.length=L.length
 ok:∀l∈L,MG l
 ring:∀j l e,L[j]? =some l->E[j]? =some e->L.length<=j+17->∃a cp,R[j%17]? =some (.slice a l.length cp,e.2)/\l.length<=cp/\Sl w (.slice a l.length cp) 46 1 l.length (l.map Mx)/\(∀g,(Value.slice a l.length cp).ownBlock=some g->¬F g/\g≠k)
theorem PkM.ext {w w':World}{k:Nat}{p:Nb}{L:List (List Nat)}{E:List (Nat×Nat)}{bs:List Bool}{F:Nat->Prop}{R:List (Value×Nat)}{wp ed:Nat}(h:PkM w k p L E bs F R wp ed)(hx:Ext w w'):PkM w' k p L E bs F R wp ed:=
 ⟨hx.LY h.LY,h.len,h.wr.ext hx,h.nk,h.el,h.ok,λj l e h1 h2 h3=>by
  obtain⟨a,cp,g1,g2,g3,g4⟩:=h.ring j l e h1 h2 h3
  exact⟨a,cp,g1,g2,g3.ext hx,g4⟩⟩
def Found (p:Nb)(L:List (List Nat))(E:List (Nat×Nat))(R:List (Value×Nat))(size ref:Nat)(v:Value)(c:Nat):Prop:=
 (ref=0/\v= .slice none 0 0/\c=0)\/(1<=ref/\ref<=p.Mq/\ref<=L.length/\R[(L.length-ref)%17]? =some (v,c)/\∃l e,L[L.length-ref]? =some l/\E[L.length-ref]? =some e/\c=e.2/\QA p l.length size e.2=true)
structure AdM (w:World)(k b2 b3 b7 b8 b4 b9:Nat)(a:Option Addr)(m cp n least ref:Nat)(v:Value)(c:Nat):Prop where
 c2:M7 w b2 [ptr k 0] 225
 c3:M7 w b3 [.slice a m cp] 45
 c7:M7 w b7 [I (n:Int)] 3
 c8:M7 w b8 [I (least:Int)] 3
 c4:M7 w b4 [I (ref:Int)] 3
 c9:M7 w b9 [v,I (c:Int)] 274
theorem AdM.kp {S:Nat->Prop}{w w':World}{k b2 b3 b7 b8 b4 b9:Nat}{a:Option Addr}{m cp n least ref:Nat}{v:Value}{c:Nat}(h:AdM w k b2 b3 b7 b8 b4 b9 a m cp n least ref v c)(hk:Kp S w w')(hn:∀i,S i->i≠b2/\i≠b3/\i≠b7/\i≠b8/\i≠b4/\i≠b9):AdM w' k b2 b3 b7 b8 b4 b9 a m cp n least ref v c:=
 ⟨hk.LY h.c2 (λe=>(hn _ e).1 O),hk.LY h.c3 (λe=>(hn _ e).2.1 O),hk.LY h.c7 (λe=>(hn _ e).2.2.1 O),hk.LY h.c8 (λe=>(hn _ e).2.2.2.1 O),hk.LY h.c4 (λe=>(hn _ e).2.2.2.2.1 O),hk.LY h.c9 (λe=>(hn _ e).2.2.2.2.2 O)⟩
theorem AdM.ext {w w':World}{k b2 b3 b7 b8 b4 b9:Nat}{a:Option Addr}{m cp n least ref:Nat}{v:Value}{c:Nat}(h:AdM w k b2 b3 b7 b8 b4 b9 a m cp n least ref v c)(hk:Ext w w'):AdM w' k b2 b3 b7 b8 b4 b9 a m cp n least ref v c:=h.kp (S:=λ_=>False) hk.kp (λi e=>e.elim)
theorem z9y {w:World}{k:Nat}{p:Nb}(hp:p.Nj){L:List (List Nat)}{E:List (Nat×Nat)}{bs:List Bool}{F:Nat->Prop}{R:List (Value×Nat)}{wp ed:Nat}(h:PkM w k p L E bs F R wp ed)(hG:M7 w 0 (OZ .gamma) 260)(hU:M7 w 1 (OZ .unary) 260)(hL:L.length<65536)
  {b2 b3 b7 b8 b4 b9:Nat} {a:Option Addr} {cp least ref:Nat} {v:Value} {c:Nat} {succ:List Nat} (hs:MG succ) (kS:succ.length<=cp) (dQ:Rd w (.slice a succ.length cp) 1 succ.length (succ.map Mx)) (hA:AdM w k b2 b3 b7 b8 b4 b9 a succ.length cp L.length least ref v c) (hF:Found p L E R succ.length ref v c)
  (hd:b8≠b2/\b8≠b3/\b8≠b7/\b4≠b2/\b4≠b3/\b4≠b7/\b9≠b2/\b9≠b3/\b9≠b7/\b8≠b4/\b8≠b9/\b4≠b9) (r:Nat) (h1:1<=r) (h2:r<=p.Mq):
  Mw Tryz.prog 158 [I (r:Int),ptr b2 0,ptr b3 0,ptr b7 0,ptr b8 0,ptr b4 0,ptr b9 0] w λu w'=>u= .tuple #[]/\Kp (λi=>i=b8\/i=b4\/i=b9) w w'/\∃least' ref' v' c',AdM w' k b2 b3 b7 b8 b4 b9 a succ.length cp L.length least' ref' v' c'/\Found p L E R succ.length ref' v' c':=by
 have vY:p.Mq<=16:=hp.1.1
 obtain⟨a1,c1,m1,e1,vZ,HQ⟩:∃a1 c1 m1 e1,(r<=L.length->R[(L.length-r)%17]? =some (.slice a1 m1 c1,e1))/\(r<=L.length->∃l e,L[L.length-r]? =some l/\E[L.length-r]? =some e/\m1=l.length/\e1=e.2/\l.length<=c1/\Sl w (.slice a1 l.length c1) 46 1 l.length (l.map Mx)):=by
  by_cases hr:r<=L.length
  ·obtain⟨l,hl⟩:∃l,L[L.length-r]? =some l:=⟨_,List.getElem?_eq_getElem (by omega)⟩;obtain⟨e,he⟩:∃e,E[L.length-r]? =some e:=⟨_,List.getElem?_eq_getElem (by have:=h.el;omega)⟩;obtain⟨a1,c1,g1,g2,g3,g4⟩:=h.ring _ l e hl he (by omega);exact⟨a1,c1,l.length,e.2,λ_=>g1,λ_=>⟨l,e,hl,he,rfl,rfl,g2,g3⟩⟩
  ·exact⟨none,0,0,0,λe=>absurd e hr,λe=>absurd e hr⟩
 have dU:=hA.c2
 have lS:=hA.c3
 have hg:=Ext.Mm w
 have lT:∀{w2:World},M7 w2 k (U1 p R L.length wp ed) 279->∀j u,(RR p)[j]? =some u->w2.cell? ⟨k,0+j,none⟩=some u:=λhB j u hj=>hB.cells (i:=0) (n:=5) (news:=RR p) O j u hj
 refine It (e:=[(0,_),(1,_),(2,_),(3,_),(4,_),(5,_),(6,_)]) Tryz.func158 O Tryz.ntmps158 O O$ run_seq$ MM (λe' w'=>∃tb v1 d1 ok,e'=[(0,I (r:Int)),(1,ptr b2 0),(2,ptr b3 0),(3,ptr b7 0),(4,ptr b8 0),(5,ptr b4 0),(6,ptr b9 0),(8,ptr tb 0),(9,.bool ok)]/\Ext w w'/\w.heap.size<=tb/\M7 w' tb [v1,I ((d1:Nat):Int)] 274/\(ok=true->r<=L.length/\v1= .slice a1 m1 c1/\d1=e1/\QA p m1 succ.length e1=true)) ?cA$ λcA=>?cS
 case cA=>
  rintro e' w1 ⟨tb,v1,d1,ok,rfl,ad,HK,wc,az⟩;have kM:=hA.ext ad;have oB:=kM.c2;have iQ:=kM.c3;have zH:=kM.c7;have FH:=kM.c8;refine run_seq$ qN O$ LW O$ qV ((by first|exact MX O|exact Oy O)) ?_;refine LX$ MZ O (λh3=>?_)$ λh3=>?_
  ·refine LZ Tryz.func158 O ?_;exact⟨_,rfl,rfl,ad.kp,_,_,_,_,kM,hF⟩
  ·have BN:ok=true:=by cases ok<;>simp_all
   obtain⟨BO,rfl,rfl,gy⟩:=az BN;obtain⟨l,e,hl,he,rfl,rfl,ij,HR⟩:=HQ BO;have BP:=vZ BO;have BQ:MG l:=h.ok l (List.mem_of_getElem? hl);have aw:=Ext.Mm w1;refine py$ run_seq$ NV (λw'=>Ext w1 w') O$ qT 0 O (λ_ h=>(by first|exact M1 U3 O O (h.LY oB) O|exact M1 U3 O O (h.LY iQ) O|exact M1 U3 O O (h.LY zH) O|exact M1 U3 O O (h.LY wc) O)) aw ?_;refine qT 1 O (λ_ h=>(by first|exact M1 Mr O O (h.LY oB) O|exact M1 Mr O O (h.LY iQ) O|exact M1 Mr O O (h.LY zH) O|exact M1 Mr O O (h.LY wc) O)) aw ?_;refine M3 2 O (My OX O) aw$ qT 3 O (λ_ h=>(by first|exact M1 Mr O O (h.LY oB) O|exact M1 Mr O O (h.LY iQ) O|exact M1 Mr O O (h.LY zH) O|exact M1 Mr O O (h.LY wc) O)) aw ?_;refine Mj 4 O O (aw)$ qT 5 O (λ_ h=>(by first|exact M1 Ou O O (h.LY oB) O|exact M1 Ou O O (h.LY iQ) O|exact M1 Ou O O (h.LY zH) O|exact M1 Ou O O (h.LY wc) O)) aw ?_;refine M3 6 O (N4 O) aw$ M3 7 O (My Tt O) aw$ qT 8 O (λ_ hS=>Mv (news:=RR p) Y4 O Oi O (lT (hS.LY (ad.LY h.LY))) O) aw$ Pm 9 O Y0 O (PA p _) ?_;rintro _ w9 ⟨rfl,eJ⟩;refine⟨aw.trans eJ,?_⟩;have gM:=aw.trans eJ;have fY:=ad.trans gM;refine Pm 10 O z1i O (RT p.list hp.1 L.length hL succ l hs BQ r h2 (λe=>by omega) (fY.LY hG) (fY.LY hU) (dQ.ext fY) (HR.rd.ext fY) kS ij) ?_;rintro _ w10 ⟨rfl,bL⟩;refine⟨gM.trans bL,?_⟩;have eC:=gM.trans bL;have lH:=kM.ext eC;have BR:=lH.c8;have BS:=eC.LY wc
   generalize (Mp (Oe p.list L.length succ l r)).length=nb
   refine Mj 11 O O (gM.trans bL)$ M3 12 O (O6 O O) (gM.trans bL)$ M3 13 O (O6 O O) (gM.trans bL)$ M3 14 O (NX O) (gM.trans bL)$ M3 15 O (NX O) (gM.trans bL)$ qE$ Mz.qb (e:=[(0,_),(4,_),(5,_),(6,_),(8,_),(10,_)]) ?_;refine qN O$ LW O$ qV (M1 U3 O O BR O)$ Ni O O$ LX$ M8 O (λh4=>?_)$ λh4=>?_
   ·have jW:=Ext.Mm w10;have gY:=lH.ext jW;have lb8:=hA.c8.lt;have lb4:=hA.c4.lt;have lb9:=hA.c9.lt;have HS:¬(tb=b8\/tb=b4\/tb=b9):=by omega
    refine NV (λw'=>Kp (λi=>i=b8\/i=b4\/i=b9) w10 w') O$ Mj 0 O O (jW.kp)$ Mj 1 O O (jW.kp)$ qT 2 O (λ_ h=>Mv RO O Nf O (M7.cells (n:=2) (h.LY BS HS) (news:=[_,_]) O) O) (jW.kp)$ qO 3$ MI (i:=3) O O (NT MV O O O gY.c8 (by simp)) ?_;rintro w11 ⟨aL,bC⟩;refine⟨jW.kp.trans (bC.Mc λi e=> .inl e),?_⟩;have qW:Kp (λi=>i=b8\/i=b4\/i=b9) w10 w11:=jW.kp.trans (bC.Mc λi e=> .inl e);have HT:=bC.LY gY.c4 (λe=>hd.2.2.2.2.2.2.2.2.2.1 e.symm);refine qO 4$ MI (i:=4) O O (NT MV O O O HT (by simp)) ?_;rintro w12 ⟨bB,aY⟩;refine⟨qW.trans (aY.Mc λi e=> .inr (.inl e)),?_⟩;have wg:Kp (λi=>i=b8\/i=b4\/i=b9) w10 w12:=qW.trans (aY.Mc λi e=> .inr (.inl e));have HU:=aY.LY (bC.LY gY.c9 (λe=>hd.2.2.2.2.2.2.2.2.2.2.1 e.symm)) (λe=>hd.2.2.2.2.2.2.2.2.2.2.2 e.symm);refine qO 5$ MI (i:=5) O O (MO (news:=[.slice a1 l.length c1,I (e.2:Int)]) Nf O O O O HU (by simp)) ?_;rintro w13 ⟨eD,df⟩;refine⟨wg.trans (df.Mc λi e=> .inr (.inr e)),?_⟩;replace eD:M7 w13 b9 [.slice a1 l.length c1,I (e.2:Int)] 274:=eD;replace bB:M7 w12 b4 [I (r:Int)] 3:=bB;replace aL:M7 w11 b8 [I (nb:Int)] 3:=aL;refine qE$ Nq Tryz.func158 O ?_;obtain⟨d1,d2,d3,d4,d5,d6,d7,d8,d9,d10,d11,d12⟩:=hd;have jm:∀{b:Nat} {cs:List Value} {T:TypeId},M7 w10.drew b cs T->b8≠b->b4≠b->b9≠b->M7 w13 b cs T:=λhB n1 n2 n3=>df.LY (aY.LY (bC.LY hB (λe=>n1 e.symm)) (λe=>n2 e.symm)) (λe=>n3 e.symm);refine⟨_,rfl,rfl,?_,nb,r,.slice a1 l.length c1,e.2,⟨jm gY.c2 d1 d4 d7,jm gY.c3 d2 d5 d8,jm gY.c7 d3 d6 d9,df.LY (aY.LY aL d10) d11,df.LY bB d12,eD⟩,.inr ⟨h1,h2,BO,BP,l,e,hl,he,rfl,gy⟩⟩;exact((ad.trans eC).trans jW).kp.trans ((bC.Mc λi e=> .inl e).trans ((aY.Mc λi e=> .inr (.inl e)).trans (df.Mc λi e=> .inr (.inr e))))
   ·refine py$ Nq Tryz.func158 O ?_;exact⟨_,rfl,rfl,(ad.trans eC).kp,_,_,_,_,lH,hF⟩
 case cS=>
  rcases Nat.lt_or_ge L.length r with aP|jB
  ·have ax:=hg;refine Mo [15] (λw'=>Ext w w') (by kernel_rfl) O$ qL [1,2,10,11,12,13,15,16] 0 O (λ_ h=>(by first|exact M1 Ou O O (h.LY dU) O|exact M1 Ou O O (h.LY lS) O)) ax ?_;refine qL [2,10,11,12,13,15,16] 1 O (λ_ h=>N4 O) ax$ qL [10,11,12,13,15,16] 2 O (λ_ h=>My UX O) ax$ qL [10,11,12,13,15,16] 3 O (λ_ h=>MH O) ax$ qL [5,10,11,12,13,15,16] 4 O (λ_ h=>(by first|exact M1 Mr O O (h.LY dU) O|exact M1 Mr O O (h.LY lS) O)) ax ?_;refine qL [10,11,12,13,15,16] 5 O (λ_ h=>Pb Mr O) ax$ qL [7,8,9,10,11,12,13,15,16] 6 O (λ_ h=>(by first|exact M1 Ou O O (h.LY dU) O|exact M1 Ou O O (h.LY lS) O)) ax ?_;refine qL [8,9,10,11,12,13,15,16] 7 O (λ_ h=>N4 O) ax$ qL [9,10,11,12,13,15,16] 8 O (λ_ h=>My Tt O) ax$ qL [10,11,12,13,15,16] 9 O (λ_ hS=>Mv (news:=RR p) Y4 O Oi O (lT (hS.LY h.LY)) O) ax$ T5 (i:=10) (j:=14) (by kernel_rfl) ?_ ?_
   ·refine Og (i:=10) O O O (yc z3N O) (Tj (ax.LY h.LY) h.len (by omega) hp r succ.length h1 h2 vZ) ?_;rintro _ w10 ⟨lE,bL⟩;refine⟨ax.trans bL,?_⟩;rw[if_neg (by omega)] at lE;subst lE
    try have dc:=bL.LY dc
    have ax:=ax.trans bL;refine qL [12,13,15,16] 11 O (λ_ h=>MH O) ax$ qL [15,16] 12 O (λ_ h=>O6 O O) ax$ MY (i:=13) O (by kernel_rfl) O O (λ_=>O6 O O) ax$ NL (i:=14) (by kernel_rfl)$ N8 (i:=14) O O O (Oo (cs:=[_,_]) Nf O) ?_;rintro _ w14 ⟨tb,rfl,nh,bJ,dc⟩;refine⟨ax.trans bJ,?_⟩;have jX:w.heap.size<=tb:=by have:=ax.size;omega
    have ax:=ax.trans bJ;refine PH [15]$ qO 15$ MI (i:=15) O O (MO (news:=[.slice none 0 0,I ((0:Nat):Int)]) Nf O O O O dc (by simp)) ?_;rintro w15 ⟨dS,jY⟩;refine⟨trivial,?_⟩;refine M3 16 O (NX O) trivial$ qE ?_;exact(cA _ _ ⟨tb,.slice none 0 0,0,false,rfl,ax.LS jY (λi e=>by omega),jX,dS,λe=>by cases e⟩).qb
   ·refine N8 (i:=14) O O O (Oo (cs:=[_,_]) Nf O) ?_;rintro _ w14 ⟨tb,rfl,nh,bJ,dc⟩;refine⟨ax.trans bJ,?_⟩;have jX:w.heap.size<=tb:=by have:=ax.size;omega
    have ax:=ax.trans bJ;refine NL (i:=10) (by kernel_rfl)$ Og (i:=10) O O O (yc z3N O) (Tj (ax.LY h.LY) h.len (by omega) hp r succ.length h1 h2 vZ) ?_;rintro _ w10 ⟨lE,bL⟩;refine⟨ax.trans bL,?_⟩;rw[if_neg (by omega)] at lE;subst lE
    try have dc:=bL.LY dc
    have ax:=ax.trans bL;refine qL [12,13,15,16] 11 O (λ_ h=>MH O) ax$ qL [15,16] 12 O (λ_ h=>O6 O O) ax$ MY (i:=13) O (by kernel_rfl) O O (λ_=>O6 O O) ax$ PH [15]$ qO 15$ MI (i:=15) O O (MO (news:=[.slice none 0 0,I ((0:Nat):Int)]) Nf O O O O dc (by simp)) ?_;rintro w15 ⟨dS,jY⟩;refine⟨trivial,?_⟩;refine M3 16 O (NX O) trivial$ qE ?_;exact(cA _ _ ⟨tb,.slice none 0 0,0,false,rfl,ax.LS jY (λi e=>by omega),jX,dS,λe=>by cases e⟩).qb
  ·have ax:=hg;refine Mo [15] (λw'=>Ext w w') (by kernel_rfl) O$ qL [1,2,10,11,12,13,15,16] 0 O (λ_ h=>(by first|exact M1 Ou O O (h.LY dU) O|exact M1 Ou O O (h.LY lS) O)) ax ?_;refine qL [2,10,11,12,13,15,16] 1 O (λ_ h=>N4 O) ax$ qL [10,11,12,13,15,16] 2 O (λ_ h=>My UX O) ax$ qL [10,11,12,13,15,16] 3 O (λ_ h=>MH O) ax$ qL [5,10,11,12,13,15,16] 4 O (λ_ h=>(by first|exact M1 Mr O O (h.LY dU) O|exact M1 Mr O O (h.LY lS) O)) ax ?_;refine qL [10,11,12,13,15,16] 5 O (λ_ h=>Pb Mr O) ax$ qL [7,8,9,10,11,12,13,15,16] 6 O (λ_ h=>(by first|exact M1 Ou O O (h.LY dU) O|exact M1 Ou O O (h.LY lS) O)) ax ?_;refine qL [8,9,10,11,12,13,15,16] 7 O (λ_ h=>N4 O) ax$ qL [9,10,11,12,13,15,16] 8 O (λ_ h=>My Tt O) ax$ qL [10,11,12,13,15,16] 9 O (λ_ hS=>Mv (news:=RR p) Y4 O Oi O (lT (hS.LY h.LY)) O) ax$ T5 (i:=10) (j:=14) (by kernel_rfl) ?_ ?_
   ·refine Og (i:=10) O O O (yc z3N O) (Tj (ax.LY h.LY) h.len (by omega) hp r succ.length h1 h2 vZ) ?_;rintro _ w10 ⟨lE,bL⟩;refine⟨ax.trans bL,?_⟩;rw[if_pos jB] at lE;subst lE
    try have dc:=bL.LY dc
    have ax:=ax.trans bL;refine qL [12,13,15,16] 11 O (λ_ h=>MH O) ax$ qL [15,16] 12 O (λ_ h=>O6 O O) ax$ MY (i:=13) O (by kernel_rfl) O O (λ_=>O6 O O) ax$ NL (i:=14) (by kernel_rfl)$ N8 (i:=14) O O O (Oo (cs:=[_,_]) Nf O) ?_;rintro _ w14 ⟨tb,rfl,nh,bJ,dc⟩;refine⟨ax.trans bJ,?_⟩;have jX:w.heap.size<=tb:=by have:=ax.size;omega
    have ax:=ax.trans bJ;refine PH [15]$ qO 15$ MI (i:=15) O O (MO (news:=[.slice a1 m1 c1,I ((e1:Nat):Int)]) Nf O O O O dc (by simp)) ?_;rintro w15 ⟨dS,jY⟩;refine⟨trivial,?_⟩;refine M3 16 O (NX O) trivial$ qE ?_;exact(cA _ _ ⟨tb,.slice a1 m1 c1,e1,QA p m1 succ.length e1,rfl,ax.LS jY (λi e=>by omega),jX,dS,λe=>⟨jB,rfl,rfl,e⟩⟩).qb
   ·refine N8 (i:=14) O O O (Oo (cs:=[_,_]) Nf O) ?_;rintro _ w14 ⟨tb,rfl,nh,bJ,dc⟩;refine⟨ax.trans bJ,?_⟩;have jX:w.heap.size<=tb:=by have:=ax.size;omega
    have ax:=ax.trans bJ;refine NL (i:=10) (by kernel_rfl)$ Og (i:=10) O O O (yc z3N O) (Tj (ax.LY h.LY) h.len (by omega) hp r succ.length h1 h2 vZ) ?_;rintro _ w10 ⟨lE,bL⟩;refine⟨ax.trans bL,?_⟩;rw[if_pos jB] at lE;subst lE
    try have dc:=bL.LY dc
    have ax:=ax.trans bL;refine qL [12,13,15,16] 11 O (λ_ h=>MH O) ax$ qL [15,16] 12 O (λ_ h=>O6 O O) ax$ MY (i:=13) O (by kernel_rfl) O O (λ_=>O6 O O) ax$ PH [15]$ qO 15$ MI (i:=15) O O (MO (news:=[.slice a1 m1 c1,I ((e1:Nat):Int)]) Nf O O O O dc (by simp)) ?_;rintro w15 ⟨dS,jY⟩;refine⟨trivial,?_⟩;refine M3 16 O (NX O) trivial$ qE ?_;exact(cA _ _ ⟨tb,.slice a1 m1 c1,e1,QA p m1 succ.length e1,rfl,ax.LS jY (λi e=>by omega),jX,dS,λe=>⟨jB,rfl,rfl,e⟩⟩).qb
def Nt (L:List (List Nat))(n r:Nat):List Nat:=if r=0 then [] else(L[n-r]?).getD []
def Wr (p:Nb)(L:List (List Nat))(E:List (Nat×Nat))(n size:Nat)(e:Nat×Nat):Prop:=
 e=(0,0)\/(1<=e.1/\e.1<=p.Mq/\e.1<=n/\∃l e',L[n-e.1]? =some l/\E[n-e.1]? =some e'/\e.2=e'.2+1/\QA p l.length size e'.2=true)
theorem zbC {j n:Nat}(h1:j<n)(h2:n+1<=j+17):j%17≠n%17:=by omega
theorem PkM.add {w wA wB wC wD wE wF:World}{k:Nat}{p:Nb}{L:List (List Nat)}{E:List (Nat×Nat)}{bs bs':List Bool}{F F':Nat->Prop}{R:List (Value×Nat)}{wp ed b4:Nat}(h:PkM w k p L E bs F R wp ed)(kV:Ext w wA)(iV:Kp F wA wB)(zI:UT wB wp bs' F')(pF:∀i,F' i->F i\/wA.heap.size<=i)
  {a':Option Addr} {cp' ch r:Nat} {succ:List Nat} (hs:MG succ) (BT:Ext wB wC) (ut:Sl wC (.slice a' succ.length cp') 46 1 succ.length (succ.map Mx)) (sK:succ.length<=cp') (cM:∀g,(Value.slice a' succ.length cp').ownBlock=some g->wB.heap.size<=g)
  (fk:Kp (λi=>i=k) wC wD) (ox:Kp (λi=>i=k) wD wE) (sL:Kp (λi=>i=b4) wE wF) (f9:w.heap.size<=b4) (HV:b4<wA.heap.size) (BU:M7 wF k (U1 p (R.set (L.length%17) (.slice a' succ.length cp',ch)) (L.length+1) wp (ed+succ.length)) 279):
  PkM wF k p (L++[succ]) (E++[(r,ch)]) bs' F' (R.set (L.length%17) (.slice a' succ.length cp',ch)) wp (ed+succ.length)/\Kp (λi=>F i\/i=k) w wF/\∀i,F' i->F i\/w.heap.size<=i:=by
 have lk:=h.LY.lt
 have zA:=kV.size
 have zB:=iV.size
 have jC:∀i,F i->i<w.heap.size:=λi hi=>h.wr.lt hi
 have nn:∀i,F' i->i<wB.heap.size:=λi hi=>zI.lt hi
 have sM:¬F' k:=λe=>by rcases pF k e with e|e;exact h.nk e;omega
 have BV:¬F' b4:=λe=>by rcases pF b4 e with e|e;(have:=jC _ e;omega);omega
 have BW:∀{v:Value} {n:Nat} {cs:List Value},Sl w v 46 1 n cs->(∀g,v.ownBlock=some g->¬F g/\g≠k)->Sl wF v 46 1 n cs:=λhS hg=>
  ((((((hS.ext kV).kp iV (λg e=>(hg g e).1)).ext BT).kp fk (λg e=>(hg g e).2)).kp ox (λg e=>(hg g e).2)).kp sL (λg e e'=>by have:=hS.lt e;omega))
 have HW:=((ut.kp fk (λg e e'=>by have:=cM g e;omega)).kp ox (λg e e'=>by have:=cM g e;omega)).kp sL (λg e e'=>by have:=cM g e;omega)
 refine⟨⟨by rw[List.length_append,List.length_singleton];exact BU,by rw[List.length_set];exact h.len,(((zI.ext BT).kp fk (λi hi e=>sM (e▸hi))).kp ox (λi hi e=>sM (e▸hi))).kp sL (λi hi e=>BV (e▸hi)),sM,by rw[List.length_append,List.length_append,h.el];rfl,λl hl=>?_,λj l e h1 h2 h3=>?_⟩,?_,λi hi=>?_⟩
 ·rcases List.mem_append.1 hl with hl|hl
  ·exact h.ok l hl
  ·rw[List.mem_singleton.1 hl];exact hs
 ·rw[List.length_append,List.length_singleton] at h3;rcases Nat.lt_or_ge j L.length with hj|hj
  ·rw[List.getElem?_append_left hj] at h1;rw[List.getElem?_append_left (by rw[h.el];exact hj)] at h2;obtain⟨a,cp,g1,g2,g3,g4⟩:=h.ring j l e h1 h2 (by omega);refine⟨a,cp,?_,g2,BW g3 g4,λg hg=>⟨λe'=>?_,(g4 g hg).2⟩⟩
   ·rw[List.getElem?_set_ne (λe'=>zbC hj (by omega) e'.symm)];exact g1
   ·rcases pF g e' with e'|e'
    ·exact(g4 g hg).1 e'
    ·have:=g3.lt hg;omega
  ·have BX:=(List.getElem?_eq_some_iff.1 h1).1;rw[List.length_append,List.length_singleton] at BX;have ej:j=L.length:=by omega
   subst ej;rw[List.getElem?_append_right (Nat.le_refl _),Nat.sub_self,List.getElem?_cons_zero] at h1;rw[List.getElem?_append_right (by rw[h.el];exact Nat.le_refl _),h.el,Nat.sub_self,List.getElem?_cons_zero] at h2;cases h1;cases h2;refine⟨a',cp',List.getElem?_set_self (by rw[h.len];exact Nat.mod_lt _ (by decide)),sK,HW,λg hg=>⟨λe'=>?_,λe'=>?_⟩⟩
   ·have:=cM g hg;have:=nn g e';omega
   ·have:=cM g hg;omega
 ·exact((((kV.kp.trans (iV.Mc λi e=> .inl e)).trans BT.kp).trans (fk.Mc λi e=> .inr e)).trans (ox.Mc λi e=> .inr e)).LS sL (λi e=> .inl (by omega))
 ·rcases pF i hi with e| e
  ·exact .inl e
  ·exact .inr (by omega)
theorem z5P {w:World}{k:Nat}{p:Nb}(hp:p.Nj){L:List (List Nat)}{E:List (Nat×Nat)}{bs:List Bool}{F:Nat->Prop}{R:List (Value×Nat)}{wp ed:Nat}(h:PkM w k p L E bs F R wp ed)(hG:M7 w 0 (OZ .gamma) 260)(hU:M7 w 1 (OZ .unary) 260)(hL:L.length<65536)
  {a:Option Addr} {cp:Nat} {succ:List Nat} (hs:MG succ) (kS:succ.length<=cp) (dQ:Rd w (.slice a succ.length cp) 1 succ.length (succ.map Mx)) (zJ:ed+succ.length<=1048576) (HX:∀g,0<succ.length->(Value.slice a succ.length cp).ownBlock=some g->¬F g/\g≠k)
  (nq:∀r,r<=p.Mq->bs.length+(Mp (Oe p.list L.length succ (Nt L L.length r) r)).length<=134217728):
  Mw Tryz.prog 118 [ptr k 0,.slice a succ.length cp] w λu w'=>∃(r least ch:Nat) (F':Nat->Prop) (R':List (Value×Nat)),u= .tuple #[I (r:Int),I (least:Int),I 0]/\Wr p L E L.length succ.length (r,ch)/\
   PkM w' k p (L++[succ]) (E++[(r,ch)]) (bs++Mp (Oe p.list L.length succ (Nt L L.length r) r)) F' R' wp (ed+succ.length)/\Kp (λi=>F i\/i=k) w w'/\∀i,F' i->F i\/w.heap.size<=i:=by
 have vY:p.Mq<=16:=hp.1.1
 have lk:=h.LY.lt
 have lT:∀{w2:World},M7 w2 k (U1 p R L.length wp ed) 279->∀j u,(RR p)[j]? =some u->w2.cell? ⟨k,0+j,none⟩=some u:=λhB j u hj=>hB.cells (i:=0) (n:=5) (news:=RR p) O j u hj
 refine It (e:=[(0,_),(1,_)]) Tryz.func118 O Tryz.ntmps118 O O$ qN O$ M5 O O (O2 O (cs:=[ptr k 0]) O) ?_
 rintro _ w1 ⟨b2,rfl,bY,ad,am⟩
 refine M5 O O (O2 O (cs:=[.slice a succ.length cp]) O) ?_
 rintro _ w2 ⟨b3,rfl,ek,af,ar⟩
 refine M5 O O (Oo (cs:=[_]) MV O) ?_
 rintro _ w3 ⟨b4,rfl,f9,ai,aH⟩
 have z1:=ad.size
 have z2:=af.size
 have z3:=ai.size
 have lb2:=am.lt
 have lb3:=ar.lt
 have lb4:=aH.lt
 have db:=(ad.trans af).trans ai
 have cT:=ai.LY (af.LY am)
 have dl:=ai.LY ar
 have nl:=db.LY h.LY
 replace aH:M7 w3 b4 [I ((0:Nat):Int)] 3:=aH
 refine Me O$ M4 O$ run_seq$ LU$ qN O$ qV ((by first|exact M1 Ou O O cT O|exact M1 Ou O O dl O)) ?_
 refine qV (N7 Ou O O)$ M4 O$ An O$ qN O$ qV ((by first|exact M1 Ou O O cT O|exact M1 Ou O O dl O)) ?_
 refine MC O$ Ma UX O$ Ma RJ O$ qV (M1 U3 O O nl (z2S h.len))$ PD O O$ ML$ M4 O$ An O$ py$ LV$ qN O$ qV ((by first|exact M1 Ou O O cT O|exact M1 Ou O O dl O)) ?_
 refine MC O$ Ma UX O$ Ma RJ O$ qV (M1 U3 O O nl (z2S h.len))$ M5 O O (Oo (cs:=[_]) MV O) ?_
 rintro _ w4 ⟨b7,rfl,kF,ay,bK⟩
 have z4:=ay.size
 have lb7:=bK.lt
 refine Mb O (NT MV O O O bK (by simp)) ?_
 rintro w5 ⟨gK,ak⟩
 replace gK:M7 w5 b7 [I (L.length:Int)] 3:=gK
 have co:Ext w3 w5:=ay.LS ak (λi e=>by omega)
 have bG:=db.trans co
 have z5:=co.size
 have z45:=ak.size
 have wh:=bG.LY h.LY
 have dp:=co.LY cT
 have cB:=co.LY dl
 have aM:=co.LY aH
 have ee:=Ext.Mm w5
 refine LX$ run_seq$ MM (λe' w'=>∃b8 least,e'=[(2,ptr b2 0),(3,ptr b3 0),(4,ptr b4 0),(7,ptr b7 0),(8,ptr b8 0),(6,I 0)]/\Ext w5 w'/\w5.heap.size<=b8/\M7 w' b8 [I ((least:Nat):Int)] 3) ?cA$ λcA=>?cS
 case cA =>
  rintro e' w6 ⟨b8,least0,rfl,aJ,jk,cu⟩;have z6:=aJ.size;have lb8:=cu.lt;have iq:=bG.trans aJ;have BY:=aJ.LY wh;have bZ:=aJ.LY dp;have jI:=aJ.LY cB;have du:=Ext.Mm w6;refine run_seq$ LU$ qN O$ LW O$ N9 O O$ M4 O$ An O$ run_seq$ NV (λw'=>Ext w6 w') O$ qT 0 O (λ_ h=>(by first|exact M1 Ou O O (h.LY bZ) O|exact M1 Ou O O (h.LY jI) O)) du ?_;refine M3 1 O (N4 O) du$ M3 2 O (My ZC O) du$ qT 4 O (λ_ h=>(by first|exact M1 Mr O O (h.LY bZ) O|exact M1 Mr O O (h.LY jI) O)) du ?_;refine M3 5 O (Pb Mr O) du$ qT 3 O (λ_ hS=>M1 U3 O O (hS.LY BY) (zf6 h.len)) du$ M3 6 O (R4 O O (by omega)) du$ M3 7 O (UL O O) du$ QT$ M3 8 O (NX O) du$ qE$ An O$ py$ LV$ qN O ?_;have zg6:=du.size;refine M5 O O (Oo (cs:=[_,_]) Nf O) ?_;rintro _ w7 ⟨b9,rfl,mJ,ck,cJ⟩;have lb9:=cJ.lt;have fZ:=du.trans ck;have iR:=iq.trans fZ;have pG:=aJ.trans fZ;have z7:=iR.size;have z67:=fZ.size;have BZ:=iR.LY h.LY;have zp:AdM w7 k b2 b3 b7 b8 b4 b9 a succ.length cp L.length least0 0 (.slice none 0 0) 0:=⟨fZ.LY bZ,fZ.LY jI,pG.LY gK,fZ.LY cu,pG.LY aM,cJ⟩;have hd:b8≠b2/\b8≠b3/\b8≠b7/\b4≠b2/\b4≠b3/\b4≠b7/\b9≠b2/\b9≠b3/\b9≠b7/\b8≠b4/\b8≠b9/\b4≠b9:=by omega
  refine qM O$ qV (Zm (first:=[]) (caps:=[.tmp 2,.tmp 3,.tmp 7,.tmp 8,.tmp 4,.tmp 9]) O O)$ M4 O$ run_seq$ qN O ?_;have C1:=zp.c2;refine qV (M1 Ou O O C1 O)$ MC O$ Ma Tt O$ Ma XG O$ qV (M1 U3 O O BZ O)$ LW O$ LX$ Mz.qb (e:=[(2,_),(3,_),(4,_),(6,_),(7,_),(8,_),(9,_),(10,_),(58,_),(59,_)]) ?_;refine LU$ Oh (α:=Nat) (0) (λi=>[(2,ptr b2 0),(3,ptr b3 0),(4,ptr b4 0),(7,ptr b7 0),(8,ptr b8 0),(9,ptr b9 0),(10,.func (.func 158) #[] #[ptr b2 0,ptr b3 0,ptr b7 0,ptr b8 0,ptr b4 0,ptr b9 0]),(58,I (p.Mq:Int)),(59,I (i:Int))]) (λi w'=>Ext w w'/\w7.heap.size<=w'.heap.size/\i<=p.Mq/\∃least ref v c,AdM w' k b2 b3 b7 b8 b4 b9 a succ.length cp L.length least ref v c/\Found p L E R succ.length ref v c) (λi=>p.Mq-i) ?hI ?hround
  case hI=>exact⟨iR,Nat.le_refl _,Nat.zero_le _,_,_,_,_,zp,.inl ⟨rfl,rfl,rfl⟩⟩
  case hround=>
   rintro i wA ⟨kV,Le,hi,least,ref,v,c,hA,hF⟩ ih
   try dsimp only
   refine qN O$ Ni O O$ LX$ run_seq$ M8 O (λh0=>?_)$ λh0=>?_
   ·refine py$ run_seq$ LU$ qN O$ LW O$ M4 O$ M0 O$ Md O O$ MT O O ?_;rw[show(i:Int)+1=((i+1:Nat):Int) by omega];refine Ny O O (OK zcb O O) (z9y hp (h.ext kV) (kV.LY hG) (kV.LY hU) hL hs kS (dQ.ext kV) hA hF hd (i+1) (by omega) (by omega)) ?_;rintro _ w9 ⟨rfl,aO,least',ref',v',c',qF,HY⟩;have z9:=aO.size;refine LX$ LV$ M0 O$ MT O O$ LW O$ LX ?_;exact(ih (i+1) _ ⟨kV.LS aO (λi hi=>by omega),by omega,by omega,_,_,_,_,qF,HY⟩ (by omega)).qb
   ·have cX:∀b,w.heap.size<=b->¬F b:=λb hb e=>by have:=h.wr.lt e;omega
    have sN:=kV.LY h.LY
    have zm:ref<=p.Mq/\(ref=0->Nt L L.length ref=[])/\MG (Nt L L.length ref)/\(∃va vc,v= .slice va (Nt L L.length ref).length vc/\(Nt L L.length ref).length<=vc/\Rd wA (.slice va (Nt L L.length ref).length vc) 1 (Nt L L.length ref).length ((Nt L L.length ref).map Mx))/\Wr p L E L.length succ.length (ref,if 0<ref then c+1 else 0)/\c<=65536:=by
     rcases hF with⟨rfl,rfl,rfl⟩|⟨f1,f2,f3,f4,l,e,f5,f6,rfl,f8⟩
     ·refine⟨Nat.zero_le _,λ_=>rfl,⟨List.Pairwise.nil,λy h=>(by cases h)⟩,⟨none,0,rfl,Nat.zero_le _,S2⟩,.inl rfl,Nat.zero_le _⟩
     ·have js:Nt L L.length ref=l:=by unfold Nt;rw[if_neg (by omega),f5];rfl
      obtain⟨va,vc,g1,g2,g3,g4⟩:=h.ring _ l e f5 f6 (by omega);rw[f4] at g1;have gv:v= .slice va l.length vc:=(Prod.mk.inj (NF g1)).1;have hb:=of_decide_eq_true f8;have HZ:=hp.2.1;rw[js];exact⟨f2,λe=>by omega,h.ok l (List.mem_of_getElem? f5),⟨va,vc,gv,g2,(g3.ext kV).rd⟩,.inr ⟨f1,f2,f3,l,e,f5,f6,by dsimp only;rw[if_pos (by omega)],f8⟩,by omega⟩
    obtain⟨cW,dB,ci,⟨va,vc,rfl,bH,cg⟩,gN,I0⟩:=zm;have C2:=nq ref cW
    generalize C3:Nt L L.length ref=lr at dB ci bH cg C2 hA
    have lF:=hA.c2;have mS:=hA.c3;have lU:=hA.c7;have jZ:=hA.c9;have kd:=hA.c4;have C4:=hA.c8;have ke:=Ext.Mm wA;refine M6 O$ run_seq$ run_seq$ NV (λw'=>Kp F wA w') O$ qT 0 O (λ_ hS=>(by first|exact M1 Ou O O (hS.LY lF (cX _ (by omega))) O|exact M1 Ou O O (hS.LY mS (cX _ (by omega))) O|exact M1 Ou O O (hS.LY lU (cX _ (by omega))) O|exact M1 Ou O O (hS.LY jZ (cX _ (by omega))) O|exact M1 Ou O O (hS.LY kd (cX _ (by omega))) O)) (ke.kp) ?_;refine M3 1 O (N4 O) (ke.kp)$ M3 2 O (My ZF O) (ke.kp)$ qT 4 O (λ_ hS=>(by first|exact M1 U3 O O (hS.LY lF (cX _ (by omega))) O|exact M1 U3 O O (hS.LY mS (cX _ (by omega))) O|exact M1 U3 O O (hS.LY lU (cX _ (by omega))) O|exact M1 U3 O O (hS.LY jZ (cX _ (by omega))) O|exact M1 U3 O O (hS.LY kd (cX _ (by omega))) O)) (ke.kp) ?_;refine qT 5 O (λ_ hS=>(by first|exact M1 Mr O O (hS.LY lF (cX _ (by omega))) O|exact M1 Mr O O (hS.LY mS (cX _ (by omega))) O|exact M1 Mr O O (hS.LY lU (cX _ (by omega))) O|exact M1 Mr O O (hS.LY jZ (cX _ (by omega))) O|exact M1 Mr O O (hS.LY kd (cX _ (by omega))) O)) (ke.kp) ?_;refine M3 6 O (My OX O) (ke.kp)$ qT 7 O (λ_ hS=>(by first|exact M1 Mr O O (hS.LY lF (cX _ (by omega))) O|exact M1 Mr O O (hS.LY mS (cX _ (by omega))) O|exact M1 Mr O O (hS.LY lU (cX _ (by omega))) O|exact M1 Mr O O (hS.LY jZ (cX _ (by omega))) O|exact M1 Mr O O (hS.LY kd (cX _ (by omega))) O)) (ke.kp) ?_;refine qT 8 O (λ_ hS=>(by first|exact M1 U3 O O (hS.LY lF (cX _ (by omega))) O|exact M1 U3 O O (hS.LY mS (cX _ (by omega))) O|exact M1 U3 O O (hS.LY lU (cX _ (by omega))) O|exact M1 U3 O O (hS.LY jZ (cX _ (by omega))) O|exact M1 U3 O O (hS.LY kd (cX _ (by omega))) O)) (ke.kp) ?_;refine qT 9 O (λ_ hS=>(by first|exact M1 Ou O O (hS.LY lF (cX _ (by omega))) O|exact M1 Ou O O (hS.LY mS (cX _ (by omega))) O|exact M1 Ou O O (hS.LY lU (cX _ (by omega))) O|exact M1 Ou O O (hS.LY jZ (cX _ (by omega))) O|exact M1 Ou O O (hS.LY kd (cX _ (by omega))) O)) (ke.kp) ?_;refine M3 10 O (N4 O) (ke.kp)$ M3 11 O (My Tt O) (ke.kp)$ qT 3 O (λ_ hS=>M1 Zl O O (hS.LY sN h.nk) (zbe h.len)) (ke.kp)$ qT 12 O (λ_ hS=>Mv (news:=RR p) Y4 O Oi O (lT (hS.LY sN h.nk)) O) (ke.kp)$ Pm 13 O Y0 O (PA p _) ?_;rintro _ w9 ⟨rfl,eJ⟩;refine⟨(ke.trans eJ).kp,?_⟩;have lV:=ke.trans eJ;have fY:=kV.trans lV;refine Pm 14 O za5 O (Wo (h.wr.ext fY) p.list hp.1 L.length hL succ lr hs ci ref cW dB (fY.LY hG) (fY.LY hU) (dQ.ext fY) (cg.ext lV) kS bH C2) ?_;rintro _ wB ⟨rfl,F',zI,iV,pF⟩;refine⟨lV.kp.trans iV,?_⟩;have ir:Kp F wA wB:=lV.kp.trans iV;have C5:∀i,F' i->F i\/wA.heap.size<=i:=λi hi=>(pF i hi).imp id (λe=>by have:=lV.size;omega);have wj:=ir.LY kd (cX _ (by omega))
    have wk:=ir.LY jZ (cX _ (by omega));have sO:=ir.LY lF (cX _ (by omega));have sP:=ir.LY mS (cX _ (by omega));have C6:=ir.LY C4 (cX _ (by omega));have C7:=ir.LY sN h.nk;have zAB:=ir.size;have C8:Rd wB (.slice a succ.length cp) 1 succ.length (succ.map Mx):=(dQ.ext kV).kpz ir (λh0 g hg=>(HX g h0 hg).1);refine M3 15 O (NX O) (lV.kp.trans iV)$ qE$ Mz.qb (e:=[(2,_),(3,_),(4,_),(8,_),(9,_),(12,_)]) ?_;refine qN O$ LW O$ N9 O O$ LX$ An O$ py$ qN O$ M4 O$ run_seq$ qN O$ qV ((by first|exact M1 U3 O O wj O|exact M1 U3 O O wk O)) ?_;refine Ng O O$ LX$ MM (λe' w'=>e'=[(2,ptr b2 0),(3,ptr b3 0),(4,ptr b4 0),(8,ptr b8 0),(13,I ((if 0<ref then c+1 else 0:Nat):Int))]/\w'=wB) ?ax$ λax=>?dx
    case ax=>
     rintro e' wB' ⟨rfl,rfl⟩
     generalize (if 0<ref then c+1 else 0)=ch at gN
     have pH:=Ext.Mm wB';have zK:∀i,i<wB'.heap.size->¬(Value.slice none 0 0).ownBlock=some i:=λi _ e=>by cases e
     refine run_seq$ NV (λw'=>Kp (λi=>i=k) wB' w') O$ qT 0 O (λ_ hS=>(by first|exact M1 Ou O O (hS.LY sO (by omega)) O|exact M1 Ou O O (hS.LY sP (by omega)) O)) (pH.kp) ?_;refine M3 1 O (N4 O) (pH.kp)$ M3 2 O (My UX O) (pH.kp)$ qT 3 O (λ_ hS=>(by first|exact M1 Mr O O (hS.LY sO (by omega)) O|exact M1 Mr O O (hS.LY sP (by omega)) O)) (pH.kp) ?_;refine Mj 5 O O (pH.kp)$ qO 4$ ON (i:=4) O O O (pap Mr Mi O (by decide) O O (Sl.nil _ _ _) (C8.ext pH) (ZT _) (by omega) (by simp only[maxLen];omega)) ?_;rintro v' wC ⟨ut,jp,I1,-⟩;refine⟨pH.kp.trans (jp.Mc λi e=>by cases e),?_⟩;have kf:Ext wB' wC:=pH.trans ((Ext.refl _).LS jp (λi e=>by cases e));rw[Nat.zero_add,List.nil_append] at ut;obtain⟨a',cp',rfl,-⟩:=ut.rd.shape
     have sK:succ.length<=cp':=by
      rcases ut.shape with⟨e,h0⟩|⟨g,c1,hv,dP⟩
      ·omega
      ·cases hv;exact dP
     have wm:∀g,(Value.slice a' succ.length cp').ownBlock=some g->wB'.heap.size<=g:=λg hg=>by
      rcases I1 g hg with e| e
      ·cases e
      ·have:=pH.size;omega
     have C9:=kf.LY C7;refine Pm 6 O zff O (z89 C9 h.len (by omega) a' succ.length cp' ch) ?_;rintro _ wD ⟨rfl,FI,fk⟩;refine⟨kf.kp.trans fk,?_⟩;have cI:(R.set (L.length%17) (.slice a' succ.length cp',ch)).length=17:=by rw[List.length_set];exact h.len
     have wo:=fk.LY (kf.LY sO) (by omega);have wq:=fk.LY (kf.LY sP) (by omega);have Ca:=fk.LY (kf.LY wj) (by omega);have Cb:=fk.LY (kf.LY C6) (by omega);have nr:=Ext.Mm wD;refine qE$ run_seq$ Mo [9] (λw'=>Ext wD w') (by kernel_rfl) O$ qL [1,2,3,6,7,8,9] 0 O (λ_ h=>(by first|exact M1 Ou O O (h.LY wo) O|exact M1 Ou O O (h.LY wq) O)) nr ?_;refine qL [2,3,6,7,8,9] 1 O (λ_ h=>N4 O) nr$ qL [3,6,7,8,9] 2 O (λ_ h=>My ZC O) nr$ qL [5,6,7,8,9] 4 O (λ_ h=>(by first|exact M1 Mr O O (h.LY wo) O|exact M1 Mr O O (h.LY wq) O)) nr ?_;refine qL [6,7,8,9] 5 O (λ_ h=>Pb Mr O) nr$ qL [6,7,8,9] 3 O (λ_ h=>M1 U3 O O (h.LY FI) (zf6 cI)) nr$ qL [7,8,9] 6 O (λ_ h=>R4 O O (by omega)) nr$ qL [8,9] 7 O (λ_ h=>N4 O) nr$ qL [9] 8 O (λ_ h=>My ZC O) nr$ PH [9]$ qO 9$ MI (i:=9) O O (NT MV O O O (nr.LY FI) (by rw[z2N cI];decide)) ?_;rintro wE ⟨zL,Cc⟩;refine⟨trivial,?_⟩;replace zL:M7 wE k ((U1 p (R.set (L.length%17) (.slice a' succ.length cp',ch)) (L.length+1) wp ed).set 41 (I ((ed+succ.length:Nat):Int))) 279:=zL;rw[z8p cI] at zL;have ox:Kp (λi=>i=k) wD wE:=nr.kp.trans Cc;have sQ:=ox.LY Ca (by omega);have wu:=ox.LY Cb (by omega);have pI:=Ext.Mm wE;refine qE$ run_seq$ NV (λw'=>Kp (λi=>i=b4) wE w'/\M7 w' b4 [I (ref:Int)] 3) O$ qT 0 O (λ_ hS=>(by first|exact M1 U3 O O hS.2 O|exact M1 U3 O O (hS.1.LY wu (by omega)) O)) (⟨pI.kp,pI.LY sQ⟩) ?_;refine qT 1 O (λ_ hS=>(by first|exact M1 U3 O O hS.2 O|exact M1 U3 O O (hS.1.LY wu (by omega)) O)) (⟨pI.kp,pI.LY sQ⟩) ?_;refine qO 2$ MI (i:=2) O O (NT MV O O O (pI.LY sQ) (by simp)) ?_;rintro wF ⟨lX,pJ⟩;refine⟨⟨pI.kp.trans pJ,lX⟩,?_⟩;replace lX:M7 wF b4 [I (ref:Int)] 3:=lX;have sL:Kp (λi=>i=b4) wE wF:=pI.kp.trans pJ;have BU:=sL.LY zL (by omega);refine M3 3 O (NX O) (⟨pI.kp.trans pJ,lX⟩)$ M3 4 O (NX O) (⟨pI.kp.trans pJ,lX⟩)$ qE$ Mz.qb (e:=[(4,_),(5,_),(6,_)]) ?_;refine Mt Tryz.func118 (.cell1 U3 O O ((lX).cell _) (.tmp O (.tmp O .nil))) ?_;obtain⟨q1,q2,q3⟩:=h.add (r:=ref) kV ir zI C5 hs kf ut sK wm fk ox sL (by omega) (by omega) BU;exact⟨_,rfl,ref,least,ch,F',_,rfl,gN,by rw[C3];exact q1,q2,q3⟩
    case dx=>
     refine M8 O (λh5=>?_)$ λh5=>?_
     ·refine M0 O$ Ma ZK O$ qV (M1 U3 O O wk O)$ MT O O$ M4 O ?_;rw[show(c:Int)+1=((if 0<ref then c+1 else 0:Nat):Int) by rw[if_pos (by omega)];omega];exact(ax _ _ ⟨rfl,rfl⟩).qb
     ·refine py ?_;have j4:(if 0<ref then c+1 else 0)=0:=if_neg (by omega);exact(ax _ _ ⟨by rw[j4],rfl⟩).qb
 case cS=>
  have ax:=ee;refine Mo [12] (λw'=>Ext w5 w') (by kernel_rfl) O$ qL [7,8,9,10,12,13] 0 O (λ_ h=>(by first|exact M1 U3 O O (h.LY dp) O|exact M1 U3 O O (h.LY cB) O|exact M1 U3 O O (h.LY gK) O)) ax ?_;refine qL [7,8,9,10,12,13] 1 O (λ_ h=>(by first|exact M1 Mr O O (h.LY dp) O|exact M1 Mr O O (h.LY cB) O|exact M1 Mr O O (h.LY gK) O)) ax ?_;refine qL [3,4,5,6,7,8,9,10,12,13] 2 O (λ_ h=>(by first|exact M1 Ou O O (h.LY dp) O|exact M1 Ou O O (h.LY cB) O|exact M1 Ou O O (h.LY gK) O)) ax ?_;refine qL [4,5,6,7,8,9,10,12,13] 3 O (λ_ h=>N4 O) ax$ qL [5,6,7,8,9,10,12,13] 4 O (λ_ h=>My Tt O) ax$ qL [6,7,8,9,10,12,13] 5 O (λ_ h=>Mv (news:=RR p) Y4 O Oi O (lT (h.LY wh)) O) ax$ T5 (i:=6) (j:=11) (by kernel_rfl) ?_ ?_
  ·refine Og (i:=6) O O O (yc Y0 O) (PA p _) ?_;rintro _ w6 ⟨rfl,aJ⟩;refine⟨ax.trans aJ,?_⟩
   try have aL:=aJ.LY aL
   have ax:=ax.trans aJ;refine T5 (i:=7) (j:=11) (by kernel_rfl) ?_ ?_
   ·refine Og (i:=7) O O O (yc z1i O) (RT p.list hp.1 L.length hL succ [] hs ⟨List.Pairwise.nil,λy h=>(by cases h)⟩ 0 (Nat.zero_le _) (λ_=>rfl) ((bG.trans ax).LY hG) ((bG.trans ax).LY hU) (dQ.ext (bG.trans ax)) S2 kS (Nat.zero_le _)) ?_;rintro _ w7 ⟨rfl,ck⟩;refine⟨ax.trans ck,?_⟩
    try have aL:=ck.LY aL
    have ax:=ax.trans ck;refine qL [9,10,12,13] 8 O (λ_ h=>MH O) ax$ qL [12,13] 9 O (λ_ h=>O6 O O) ax$ MY (i:=10) O (by kernel_rfl) O O (λ_=>O6 O O) ax$ NL (i:=11) (by kernel_rfl)$ N8 (i:=11) O O O (Oo (cs:=[_]) MV O) ?_;rintro _ w11 ⟨b8,rfl,iU,aQ,aL⟩;refine⟨ax.trans aQ,?_⟩;have ns:w5.heap.size<=b8:=by have:=ax.size;omega
    have ax:=ax.trans aQ;refine PH [12]$ qO 12$ MI (i:=12) O O (NT MV O O O aL (by simp)) ?_;rintro w12 ⟨bB,aY⟩;refine⟨trivial,?_⟩;refine M3 13 O (NX O) trivial$ qE$ Mz.qb (e:=[(2,_),(3,_),(4,_),(5,_),(6,_),(7,_),(8,_)]) ?_;exact(cA _ _ ⟨b8,_,rfl,ax.LS aY (λi e=>by omega),ns,bB⟩).qb
   ·refine N8 (i:=11) O O O (Oo (cs:=[_]) MV O) ?_;rintro _ w11 ⟨b8,rfl,iU,aQ,aL⟩;refine⟨ax.trans aQ,?_⟩;have ns:w5.heap.size<=b8:=by have:=ax.size;omega
    have ax:=ax.trans aQ;refine NL (i:=7) (by kernel_rfl)$ Og (i:=7) O O O (yc z1i O) (RT p.list hp.1 L.length hL succ [] hs ⟨List.Pairwise.nil,λy h=>(by cases h)⟩ 0 (Nat.zero_le _) (λ_=>rfl) ((bG.trans ax).LY hG) ((bG.trans ax).LY hU) (dQ.ext (bG.trans ax)) S2 kS (Nat.zero_le _)) ?_;rintro _ w7 ⟨rfl,ck⟩;refine⟨ax.trans ck,?_⟩
    try have aL:=ck.LY aL
    have ax:=ax.trans ck;refine qL [9,10,12,13] 8 O (λ_ h=>MH O) ax$ qL [12,13] 9 O (λ_ h=>O6 O O) ax$ MY (i:=10) O (by kernel_rfl) O O (λ_=>O6 O O) ax$ PH [12]$ qO 12$ MI (i:=12) O O (NT MV O O O aL (by simp)) ?_;rintro w12 ⟨bB,aY⟩;refine⟨trivial,?_⟩;refine M3 13 O (NX O) trivial$ qE$ Mz.qb (e:=[(2,_),(3,_),(4,_),(5,_),(6,_),(7,_),(8,_)]) ?_;exact(cA _ _ ⟨b8,_,rfl,ax.LS aY (λi e=>by omega),ns,bB⟩).qb
  ·refine N8 (i:=11) O O O (Oo (cs:=[_]) MV O) ?_;rintro _ w11 ⟨b8,rfl,iU,aQ,aL⟩;refine⟨ax.trans aQ,?_⟩;have ns:w5.heap.size<=b8:=by have:=ax.size;omega
   have ax:=ax.trans aQ;refine NL (i:=6) (by kernel_rfl)$ Og (i:=6) O O O (yc Y0 O) (PA p _) ?_;rintro _ w6 ⟨rfl,aJ⟩;refine⟨ax.trans aJ,?_⟩
   try have aL:=aJ.LY aL
   have ax:=ax.trans aJ;refine NL (i:=7) (by kernel_rfl)$ Og (i:=7) O O O (yc z1i O) (RT p.list hp.1 L.length hL succ [] hs ⟨List.Pairwise.nil,λy h=>(by cases h)⟩ 0 (Nat.zero_le _) (λ_=>rfl) ((bG.trans ax).LY hG) ((bG.trans ax).LY hU) (dQ.ext (bG.trans ax)) S2 kS (Nat.zero_le _)) ?_;rintro _ w7 ⟨rfl,ck⟩;refine⟨ax.trans ck,?_⟩
   try have aL:=ck.LY aL
   have ax:=ax.trans ck;refine qL [9,10,12,13] 8 O (λ_ h=>MH O) ax$ qL [12,13] 9 O (λ_ h=>O6 O O) ax$ MY (i:=10) O (by kernel_rfl) O O (λ_=>O6 O O) ax$ PH [12]$ qO 12$ MI (i:=12) O O (NT MV O O O aL (by simp)) ?_;rintro w12 ⟨bB,aY⟩;refine⟨trivial,?_⟩;refine M3 13 O (NX O) trivial$ qE$ Mz.qb (e:=[(2,_),(3,_),(4,_),(5,_),(6,_),(7,_),(8,_)]) ?_;exact(cA _ _ ⟨b8,_,rfl,ax.LS aY (λi e=>by omega),ns,bB⟩).qb
section
variable {w:World}{k:Nat}{p:Nb}{L:List (List Nat)}{E:List (Nat×Nat)}{bs:List Bool}{F:Nat->Prop}{R:List (Value×Nat)}{wp ed:Nat}
theorem z2E (h:PkM w k p L E bs F R wp ed)(hl:bs.length<=9223372036854775):Mw Tryz.prog 119 [ptr k 0] w λu w'=>u=I (bs.length:Int)/\Ext w w':=by
 refine It (e:=[(0,_)]) Tryz.func119 O Tryz.ntmps119 O O ?_
 have hg:=Ext.Mm w
 refine qN O$ M4 O$ run_seq$ qN O$ LW O$ qV (N7 Ou O O)$ LX$ An O$ py$ run_seq$ NV (λw'=>Ext w w') O$ Mj 0 O O (hg)$ M3 1 O (N4 O) hg$ M3 2 O (My z8Q O) hg ?_
 refine Mj 4 O O (hg)$ M3 5 O (N4 O) hg$ M3 6 O (My ZF O) hg$ qT 3 O (λ_ hS=>M1 U3 O O (hS.LY h.LY) (zg8 h.len)) hg$ qT 7 O (λ_ hS=>M1 Zl O O (hS.LY h.LY) (zbe h.len)) hg$ Pm 8 O Z3 O (RX (h.wr.ext hg)) ?_
 rintro _ w1 ⟨rfl,rfl⟩
 refine⟨hg,?_⟩
 refine M3 9 O (R4 O O (by omega)) hg$ M3 10 O (NX O) hg$ qE ?_
 rw[show(0:Int)+(bs.length:Int)=(bs.length:Int) by omega]
 refine LZ Tryz.func119 O ?_
 exact⟨_,rfl,rfl,hg⟩
theorem z29 (h:PkM w k p L E bs F R wp ed):Mw Tryz.prog 120 [ptr k 0] w λu w'=>u= .tuple #[S (Ms bs),I 0]/\w'=w:=by
 refine It (e:=[(0,_)]) Tryz.func120 O Tryz.ntmps120 O O$ qN O$ Me O$ M4 O$ run_seq$ qN O$ LW O$ qV (N7 Ou O O)$ LX$ An O$ py$ qN O$ LW O$ MC O ?_
 refine Ma ZF O$ qV (M1 Zl O O h.LY (zbe h.len))$ Mn z4A O (Tz h.wr) ?_
 rintro _ w1 ⟨rfl,rfl⟩
 refine N5 O O$ N5 O O$ Me O$ M4 O$ LZ Tryz.func120 O ?_
 exact⟨_,rfl,rfl,rfl⟩
end
structure GrM (w:World)(v:Value)(g:List (List Nat)):Prop where
 ex:∃vs:List Value,Rd w v 1 g.length vs/\∀(i:Nat) (l:List Nat),g[i]? =some l->∃(a:Option Addr) (c:Nat),vs[i]? =some (Value.slice a l.length c)/\l.length<=c/\Rd w (.slice a l.length c) 1 l.length (l.map Mx)
theorem GrM.ext {w w':World}{v:Value}{g:List (List Nat)}(h:GrM w v g)(hx:Ext w w'):GrM w' v g:=by
 obtain⟨vs,h1,h2⟩:=h.ex
 refine⟨vs,h1.ext hx,λi l hl=>?_⟩
 obtain⟨a,c,g1,g2,g3⟩:=h2 i l hl
 exact⟨a,c,g1,g2,g3.ext hx⟩
structure P9 (g:List (List Nat)):Prop where
 ok:∀l∈g,MG l
 lt:∀l∈g,∀y∈l,y<g.length
 n:g.length<=60
theorem P9.len {g:List (List Nat)}(h:P9 g){l:List Nat}(hl:l∈g):l.length<=g.length:=by
 have:=Zj l 0 g.length (h.ok l hl).W4 (λy hy=>⟨Nat.zero_le _,h.lt l hl y hy⟩) (Nat.zero_le _)
 omega
def Nh (g:List (List Nat)):Nat:=(g.map List.length).sum
theorem U6 (g:List (List Nat))(l:List Nat):Nh (g++[l])=Nh g+l.length:=by simp[Nh]
theorem z7s {g:List (List Nat)}{n:Nat}(h:∀l∈g,l.length<=n):Nh g<=g.length*n:=by
 induction g with
 |nil=>simp[Nh]
 | cons l g ih =>
   have h1:=ih (λm hm=>h m (List.mem_cons_of_mem _ hm));have h2:=h l List.mem_cons_self;show(l.length::g.map List.length).sum<=_;rw[List.sum_cons,List.length_cons,Nat.add_mul];have e:Nh g=(g.map List.length).sum:=rfl;omega
theorem Qx {g:List (List Nat)}(h:P9 g)(i:Nat):Nh (g.take i)<=3600:=by
 have h1:Nh (g.take i)<=(g.take i).length*60:=z7s (λl hl=>by have:=h.len (List.mem_of_mem_take hl);have:=h.n;omega)
 have h2:(g.take i).length<=60:=by rw[List.length_take];have:=h.n;omega
 omega
theorem z0Q {w:World}{ga:Option Addr}{gc:Nat}{g:List (List Nat)}(h:GrM w (.slice ga g.length gc) g)(hg:P9 g):Mw Tryz.prog 117 [.slice ga g.length gc] w λu w'=>u= .bool true/\w'=w:=by
 have hn:=hg.n
 obtain⟨vs,eT,jo⟩:=h.ex
 refine It (e:=[(0,_)]) Tryz.func117 O Tryz.ntmps117 O O$ qN O$ Me O$ qM O$ M4 O$ run_seq$ qN O$ LW O$ O9 SN O$ LW O$ LX$ LU$ Oh (α:=Nat) (0) (λi=>[(0,.slice ga g.length gc),(3,I (Nh (g.take i):Int)),(8,.slice ga g.length gc),(9,I (g.length:Int)),(10,I (i:Int))]) (λi w'=>w'=w/\i<=g.length) (λi=>g.length-i) ?hI ?hround
 case hI=>exact⟨rfl,Nat.zero_le _⟩
 case hround =>
  rintro i w4 ⟨rfl,hi⟩ ih;have oC:=Qx hg i
  try dsimp only
  refine qN O$ Ni O O$ LX$ run_seq$ M8 O (λh0=>?_)$ λh0=>?_
  ·have dA:i<g.length:=by omega
   obtain⟨l,hl⟩:∃l,g[i]? =some l:=⟨_,List.getElem?_eq_getElem dA⟩;have gH:=List.mem_of_getElem? hl;have fd:=hg.len gH;obtain⟨a,c,e1,e2,e3⟩:=jo i l hl
   obtain⟨gb,go,gc',e4⟩:∃b o c',Value.slice ga g.length gc= .slice (some ⟨b,o,none⟩) g.length c':=by
    rcases eT.2 with⟨c,hc,h0⟩|⟨b,off,c',hc,-⟩
    ·omega
    ·exact⟨b,off,c',hc⟩
   cases e4;refine py$ run_seq$ LU$ qN O$ qV (MS SN Pq O O (by omega))$ qV (MA Mr O O (Na eT e1))$ Me O$ qM O$ Md O O$ O9 Mr O$ MT O O$ Me O$ qM O$ LW O ?_;refine O9 Mr O$ LW O$ LX$ LU ?_;have zJ:=U6 (g.take i) l;rw[<-MP hl] at zJ;rw[show(Nh (g.take i):Int)+(l.length:Int)=(Nh (g.take (i+1)):Int) by omega];refine Oh (α:=Nat) (0) (λj=>[(0,.slice (some ⟨gb,go,none⟩) g.length gc),(3,I (Nh (g.take (i+1)):Int)),(5,.slice a l.length c),(8,.slice (some ⟨gb,go,none⟩) g.length gc),(9,I (g.length:Int)),(10,I (i:Int)),(18,.slice a l.length c),(19,I (l.length:Int)),(20,I (j:Int))]) (λj w'=>w'=w4/\j<=l.length) (λj=>l.length-j) ?hI ?hround
   case hI=>exact⟨rfl,Nat.zero_le _⟩
   case hround=>
    rintro j w5 ⟨rfl,hj⟩ ih2
    try dsimp only
    refine qN O$ Ni O O$ LX$ run_seq$ M8 O (λh1=>?_)$ λh1=>?_
    ·have kK:j<l.length:=by omega
     obtain⟨y,hy⟩:∃y,l[j]? =some y:=⟨_,List.getElem?_eq_getElem kK⟩;have qz:=hg.lt l gH y (List.mem_of_getElem? hy)
     obtain⟨lb,lo,lc,e5⟩:∃b o c',Value.slice a l.length c= .slice (some ⟨b,o,none⟩) l.length c':=by
      rcases e3.2 with⟨c,hc,h0⟩|⟨b,off,c',hc,-⟩
      ·omega
      ·exact⟨b,off,c',hc⟩
     cases e5;refine py$ run_seq$ LU$ qN O$ LW O$ qV (MS Mr Mi O O (by omega))$ qV (MA Np O O (Na e3 (show(l.map Mx)[j]? =some (Mx y) by rw[List.getElem?_map,hy];rfl))) ?_;refine Me O$ Me O$ qM O$ LW O$ qV (MK O Np U3 (by omega))$ LW O$ O9 SN O$ PD O O$ ML$ LW O ?_;rcases Nat.eq_zero_or_pos j with I2|I2
     ·refine LW O$ Ng O O$ ML$ LW O$ qS$ qS$ qS$ qS$ qS$ qS$ qS$ MN O O$ MN O O$ LX ?_;refine An O$ py$ LV$ M0 O$ MT O O$ LW O$ LX ?_;exact(ih2 (j+1) _ ⟨rfl,by omega⟩ (by omega)).qb
     ·obtain⟨z,hz⟩:∃z,l[j-1]? =some z:=⟨_,List.getElem?_eq_getElem (by omega)⟩
      have Lf:z<y:=by
       obtain⟨a1,a2⟩:=List.getElem?_eq_some_iff.1 hz;obtain⟨b1,b2⟩:=List.getElem?_eq_some_iff.1 hy;have:=List.pairwise_iff_getElem.1 (hg.ok l gH).W4 (j-1) j a1 b1 (by omega)
       rwa [a2,b2] at this
      refine LW O$ Ng O O$ O4$ Md O O$ Md O O$ Oa O O ?_;rw[show(j:Int)-1=((j-1:Nat):Int) by omega];refine qV (MS Mr Mi O O (by omega))$ qV (MA Np O O (Na e3 (show(l.map Mx)[j-1]? =some (Mx z) by rw[List.getElem?_map,hz];rfl))) ?_;refine zle O O$ ML$ NC O O$ MN O O$ LX$ An O$ py$ LV$ M0 O$ MT O O$ LW O$ LX ?_;exact(ih2 (j+1) _ ⟨rfl,by omega⟩ (by omega)).qb
    ·refine M6 O$ LV$ M0 O$ MT O O$ LW O$ LX ?_;exact(ih (i+1) _ ⟨rfl,by omega⟩ (by omega)).qb
  ·refine M6 O$ qN O$ LW O$ O9 SN O$ zle O O$ O4$ Md O O$ zle O O$ O4$ NC O O$ M4 O$ LZ Tryz.func117 O ?_;exact⟨_,rfl,rfl,rfl⟩
/-! ### How many bits -/
theorem TQ.Zx {k:Nat}{q:Cd×Nat}(h:TQ k q)(hk:1<=k/\k<=16):(q.1.enc q.2).length<=112:=by
 obtain⟨h1,h2⟩:=h.Nj hk
 obtain⟨-,q2,-⟩:=Th h1 h2
 rw[T9]
 rcases h with⟨e,h⟩|⟨e,h⟩|⟨e,h⟩
 ·rw[e] at q2⊢;show q.2+1+_<=_;omega
 ·have:=(Sm (v:=q.2) (by omega)).2.2;rw[e] at q2⊢;show Nat.log2 (q.2+1)+1+_<=_;omega
 ·have h3:=(Sm (v:=q.2) (by omega)).2.2;have h4:Nat.log2 (q.2+1) / k<=Nat.log2 (q.2+1):=Nat.div_le_self _ _;rw[e] at q2⊢;show Nat.log2 (q.2+1) / k+1+_<=_;omega
theorem YP {n:Nat}{L:List (Cd×Nat)}(h:∀q∈L,(q.1.enc q.2).length<=n):(Mp L).length<=L.length*n:=by
 induction L with
 |nil=>simp[Mp]
 | cons q L ih =>
   have h1:=ih (λq hq=>h q (List.mem_cons_of_mem _ hq));have h2:=h q List.mem_cons_self;rw[MU,List.length_append,List.length_cons,Nat.add_mul];omega
theorem Za (least:Nat){l:List Nat}(h:MG l):(rowsN least l).1.length<=l.length:=by
 have h1:=(Qd least l).length_eq
 rw[List.length_append] at h1
 have h4:∀(R:List (Nat×Nat)) (lo:Nat),Px least lo R->R.length<=(NJ R).length:=by
  intro R
  induction R with
  |nil=>intro lo h;exact Nat.le_refl _
  | cons q R ih =>
    intro lo h;have h5:=ih _ h.2.2.2;have h6:1<=q.2:=h.2.1;rw[show NJ (q::R)=(List.range q.2).map (q.1+·)++NJ R from rfl,List.length_append,List.length_map,List.length_range,List.length_cons];omega
 have h5:=h4 _ 0 (Ry least l 0 h.W4 (λy _=>Nat.zero_le _))
 omega
theorem Vr {p:OE}(hp:p.Nj){x:Nat}(hx:x<65536){succ ref:List Nat}(hs:MG succ)(hr:MG ref){r:Nat}(iZ:r<=p.Mq)(I3:succ.length<=60)(zh:ref.length<=60):(Mp (Oe p x succ ref r)).length<=44800:=by
 have az:MG (leftOf succ ref):=hs.sub List.filter_sublist
 have fd:(leftOf succ ref).length<=succ.length:=List.length_filter_le _ _
 have h1:=(PE succ ref).Y9
 rw[List.length_map] at h1
 have h2:=Za p.interval az
 have h3:=(Rg p.interval (leftOf succ ref)).length_le
 have aA:(Oe p x succ ref r).length<=400:=by
  unfold Oe;rw[List.length_cons];split
  ·simp
  rw[List.length_append,List.length_append];have e1:(if 0<p.Mq then [(Cd.unary,r)] else []).length<=1:=by split<;>simp
  have e2:(if 0<r then(Cd.gamma,(NY succ ref).length-1)::runNums 0 (NY succ ref).dropLast else []).length<=62:=by
   split
   ·rw[List.length_cons,PL,List.length_dropLast];omega
   ·simp
  have e3:(if leftOf succ ref=[] then [] else(if 0<p.interval then(Cd.gamma,(rowsN p.interval (leftOf succ ref)).1.length)::longNums x p.interval none (rowsN p.interval (leftOf succ ref)).1 else [])++restNums x p.zeta none (rowsN p.interval (leftOf succ ref)).2).length<=200:=by
   split
   ·simp
   ·rw[List.length_append,PT];split
    ·rw[List.length_cons,P3];omega
    ·simp;omega
  omega
 have:=YP (n:=112) (L:=Oe p x succ ref r) (λq hq=>(X4 hp hx hs hr iZ q hq).Zx ⟨hp.2.2.1,hp.2.2.2⟩)
 omega
/-! ### All bits -/
def U0 (p:Nb)(g:List (List Nat))(E:List (Nat×Nat))(i:Nat):List Bool:=
 Mp (Oe p.list i ((g[i]?).getD []) (Nt g i ((E[i]?).getD (0,0)).1) ((E[i]?).getD (0,0)).1)
def Nn (p:Nb)(g:List (List Nat))(E:List (Nat×Nat))(n:Nat):List Bool:=(List.range n).flatMap (U0 p g E)
theorem PJ (p:Nb)(g:List (List Nat))(E:List (Nat×Nat))(n:Nat):Nn p g E (n+1)=Nn p g E n++U0 p g E n:=by
 unfold Nn
 rw[List.range_succ,List.flatMap_append];simp
theorem Xw (p:Nb)(g:List (List Nat))(E:List (Nat×Nat))(e:Nat×Nat):∀n,n<=E.length->Nn p g (E++[e]) n=Nn p g E n
 |0,_=>rfl
 | n + 1, h => by
   rw[PJ,PJ,Xw p g E e n (by omega)]
   congr 1
   unfold U0;rw[List.getElem?_append_left (by omega)]
structure z9M (p:Nb)(g:List (List Nat))(E:List (Nat×Nat)):Prop where
 ent:∀i e,E[i]? =some e->Wr p g E i ((g[i]?).getD []).length e
theorem Wr.mono {p:Nb}{L L':List (List Nat)}{E E':List (Nat×Nat)}{n size:Nat}{e:Nat×Nat}(h:Wr p L E n size e)(hL:∀(j:Nat) (l:List Nat),L[j]? =some l->L'[j]? =some l)(hE:∀(j:Nat) (l:Nat×Nat),E[j]? =some l->E'[j]? =some l):Wr p L' E' n size e:=by
 rcases h with h|⟨h1,h2,h3,l,e',h4,h5,h6,h7⟩
 ·exact .inl h
 ·exact .inr ⟨h1,h2,h3,l,e',hL _ _ h4,hE _ _ h5,h6,h7⟩
theorem Sl.typed {w:World}{v:Value}{T:TypeId}{k n g:Nat}{cs:List Value}(h:Sl w v T k n cs)(hg:v.ownBlock=some g):∃cur,w.heap[g]? =some (.cells cur T (0,0)):=by
 rcases h.2 with⟨hz,-⟩|⟨g1,cap1,cur,hv,-,aw,-⟩
 ·rw[hz] at hg;cases hg
 ·rw[hv] at hg;have e:g1=g:=NF hg;exact⟨cur,e▸aw⟩
theorem PkM.kpT {w w':World}{k:Nat}{p:Nb}{L:List (List Nat)}{E:List (Nat×Nat)}{bs:List Bool}{F:Nat->Prop}{R:List (Value×Nat)}{wp ed:Nat}(h:PkM w k p L E bs F R wp ed){v:Value}{T:TypeId}{sz n:Nat}{cs:List Value}(hT:T≠46)(hv:Sl w v T sz n cs)(hk:Kp (λi=>v.ownBlock=some i) w w')(n1:v.ownBlock≠some k)(n2:∀i,F i->v.ownBlock≠some i):PkM w' k p L E bs F R wp ed:=
 ⟨hk.LY h.LY n1,h.len,h.wr.kp hk n2,h.nk,h.el,h.ok,λj l e h1 h2 h3=>by
  obtain⟨a,cp,g1,g2,g3,g4⟩:=h.ring j l e h1 h2 h3;refine⟨a,cp,g1,g2,g3.kp hk (λg hg e=>?_),g4⟩;obtain⟨c1,f1⟩:=g3.typed hg;obtain⟨c2,f2⟩:=hv.typed e;rw[f1] at f2
  injection f2 with f3
  injection f3 with f4 f5
  exact hT f5.symm⟩
def SH (p:Nb)(g:List (List Nat))(E:List (Nat×Nat))(n:Nat):List Nat:=(List.range (n+1)).map λj=>(Nn p g E j).length
theorem z8u (p:Nb)(g:List (List Nat))(E:List (Nat×Nat))(e:Nat×Nat)(n:Nat)(h:n<=E.length):SH p g (E++[e]) n=SH p g E n:=by
 unfold SH
 refine List.map_congr_left λj hj=>?_
 rw[Xw p g E e j (by have:=List.mem_range.1 hj;omega)]
theorem z6s (p:Nb)(g:List (List Nat))(E:List (Nat×Nat))(n:Nat):SH p g E (n+1)=SH p g E n++[(Nn p g E (n+1)).length]:=by
 unfold SH
 rw[List.range_succ,List.map_append];rfl
theorem z0a (p:Nb)(g:List (List Nat))(E:List (Nat×Nat))(n:Nat):(SH p g E n).length=n+1:=by simp[SH]
theorem getD_take {α:Type}{l:List α}{i j:Nat}(h:j<i):(l.take i)[j]? =l[j]? :=by rw[List.getElem?_take,if_pos h]
theorem Tf (L:List (List Nat))(n r:Nat):Nt L n r=[]\/Nt L n r∈L:=by
 unfold Nt
 split
 ·exact .inl O
 ·cases h:L[n-r]? with
  |none=>exact .inl O
  |some l=>exact .inr (List.mem_of_getElem? h)
theorem z3i {L:List (List Nat)}{n r:Nat}(h:r<=n):Nt (L.take n) n r=Nt L n r:=by
 unfold Nt
 by_cases e:r=0
 ·rw[if_pos e,if_pos e]
 ·rw[if_neg e,if_neg e,getD_take (by omega)]
structure EnI (w:World)(p:Nb)(g:List (List Nat))(k wp:Nat)(i:Nat)(E:List (Nat×Nat))(v:Value)(w':World):Prop where
 pk:∃F R,PkM w' k p (g.take i) E (Nn p g E i) F R wp (Nh (g.take i))/\(∀j,F j->w.heap.size<=j)/\∀j,F j->v.ownBlock≠some j
 ext:Ext w w'
 nk:w.heap.size<=k
 sl:Sl w' v 41 1 (SH p g E i).length ((SH p g E i).map Mh)
 fr:∀b,v.ownBlock=some b->w.heap.size<=b
 vk:v.ownBlock≠some k
 ent:∀j e,E[j]? =some e->Wr p g E j ((g[j]?).getD []).length e
 bd:(Nn p g E i).length<=i*44800
theorem z5H {w:World}{p:Nb}(hp:p.Nj){g:List (List Nat)}(hg:P9 g){ga:Option Addr}{gc:Nat}(kW:GrM w (.slice ga g.length gc) g)(hG:M7 w 0 (OZ .gamma) 260)(hU:M7 w 1 (OZ .unary) 260):
  Mw Tryz.prog 85 [.slice ga g.length gc,bpV p] w λu w'=>∃E v,u= .tuple #[S (Ms (Nn p g E g.length)),v,I 0]/\E.length=g.length/\z9M p g E/\(Nn p g E g.length).length<=2688000/\Sl w' v 41 1 (g.length+1) ((SH p g E g.length).map Mh)/\(∀b,v.ownBlock=some b->w.heap.size<=b)/\Ext w w':=by
 have hn:=hg.n
 refine It (e:=[(0,_),(1,_)]) Tryz.func85 O Tryz.ntmps85 O O$ qN O$ M5 O O (O2 O (cs:=RR p) O) ?_
 rintro _ w1 ⟨b3,rfl,ek,ad,ar⟩
 have z1:=ad.size
 refine Me O$ Me O$ Me O$ qM O$ qV (Mv (news:=RR p) Y4 O Oi O (ar.cells (n:=5) O) O)$ Mn zcE O (z5K p hp w1) ?_
 rintro _ w2 ⟨k,wp,F,rfl,uu,hW,I4,af,aK,oq⟩
 have z2:=af.size
 have aG:=ad.trans af
 refine LW O$ qV (O6 (v:=ptr k 0) O O)$ qV (O6 (v:=I 0) O O)$ Me O$ M4 O$ run_seq$ qN O$ LW O$ N9 O O$ Md O O$ Mn zel O (z0Q (kW.ext aG) hg) ?_
 rintro _ w2 ⟨rfl,rfl⟩
 refine qV ((by first|exact MX O|exact Oy O)) ?_
 refine MN O O$ LX$ An O$ py$ qN O$ M5 O O (SA (cs:=[_]) (zs:=[Value.int .u64 0]) VI Rq O (by kernel_rfl) O O O (by decide)) ?_
 rintro _ w3 ⟨b28,rfl,⟨I5,ai,I6⟩,Ce⟩
 have z3:=ai.size
 have lk:=uu.lt
 have zM:PkM w3 k p (g.take 0) [] (Nn p g [] 0) F z4o wp (Nh (g.take 0)):=⟨ai.LY uu,List.length_replicate,hW.ext ai,I4,rfl,(λl hl=>by simp at hl),λj l e h1=>by simp at h1⟩
 refine M4 O$ run_seq$ qN O$ LW O$ O9 SN O$ LW O$ LX$ Mz.qb (e:=[(4,_),(5,_),(6,_),(7,_),(8,_),(9,_),(29,_),(30,_),(31,_)]) ?_
 refine LU$ Oh (α:=Nat×List (Nat×Nat)×Value) ((0,[],.slice (some ⟨b28,0,none⟩) 1 1)) (λy=>[(7,ptr k 0),(9,y.2.2),(29,.slice ga g.length gc),(30,I (g.length:Int)),(31,I (y.1:Int))]) (λy w'=>EnI w p g k wp y.1 y.2.1 y.2.2 w'/\y.1<=g.length) (λy=>g.length-y.1) ?hI ?hround
 case hI=>exact⟨⟨⟨F,z4o,zM,λj hj=>by have:=oq j hj;omega,λj hj e=>by have e1:b28=j:=NF e;have:=hW.lt hj;omega⟩,aG.trans ai,by omega,Ce,λb hb=>by have e1:b28=b:=NF hb;omega,λe=>by have e1:b28=k:=NF e;omega,λj e h=>by simp at h,Nat.zero_le _⟩,Nat.zero_le _⟩
 case hround =>
  rintro⟨i,E,v⟩ w4 ⟨hI,hi⟩ ih;dsimp only at hI hi;obtain⟨F,R,hP,hF,FJ⟩:=hI.pk;have pE:=hI.bd;have aP:=z0a p g E i;have qX:=hP.el;rw[List.length_take,Nat.min_eq_left hi] at qX;obtain⟨va,vc,rfl,-⟩:=hI.sl.rd.shape
  try dsimp only
  refine qN O$ Ni O O$ LX$ run_seq$ M8 O (λh0=>?_)$ λh0=>?_
  ·have dA:i<g.length:=by omega
   obtain⟨l,hl⟩:∃l,g[i]? =some l:=⟨_,List.getElem?_eq_getElem dA⟩;have gH:=List.mem_of_getElem? hl;have fd:=hg.len gH;have hs:=hg.ok l gH;obtain⟨vs,Cf,jo⟩:=kW.ex;obtain⟨a,c,e1,e2,e3w⟩:=jo i l hl;have eT:=Cf.ext hI.ext;have e3:=e3w.ext hI.ext
   obtain⟨gb,go,gc',e4⟩:∃b o c',Value.slice ga g.length gc= .slice (some ⟨b,o,none⟩) g.length c':=by
    rcases eT.2 with⟨c,hc,h0⟩|⟨b,off,c',hc,-⟩
    ·omega
    ·exact⟨b,off,c',hc⟩
   cases e4;have pw:(g.take i).length=i:=by rw[List.length_take];omega
   have oC:=Qx hg i;refine py$ run_seq$ LU$ qN O$ qV (MS SN Pq O O (by omega))$ qV (MA Mr O O (Na eT e1)) ?_
   have nq:∀r,r<=p.Mq->(Nn p g E i).length+(Mp (Oe p.list (g.take i).length l (Nt (g.take i) (g.take i).length r) r)).length<=134217728:=λr hr=>by
    have h2:MG (Nt (g.take i) (g.take i).length r)/\(Nt (g.take i) (g.take i).length r).length<=60:=by
     rcases Tf (g.take i) (g.take i).length r with e| e
     ·rw[e];exact⟨⟨List.Pairwise.nil,λy h=>(by cases h)⟩,Nat.zero_le _⟩
     ·exact⟨hg.ok _ (List.mem_of_mem_take e),by have:=hg.len (List.mem_of_mem_take e);omega⟩
    have h3:=Vr hp.1 (x:=(g.take i).length) (by omega) hs h2.1 (show r<=p.list.Mq from hr) (by omega) h2.2;omega
   have mE:=hI.sl;have vG:∀b,(Value.slice va (SH p g E i).length vc).ownBlock=some b->b<w4.heap.size:=λb hb=>mE.lt hb;refine M4 O$ run_seq$ qN O$ Md O O$ Mn zdo O (z5P hp hP (hI.ext.LY hG) (hI.ext.LY hU) (by omega) hs e2 e3 (by omega) (λb h0 hb=>by have h1:=e3w.ltz (by decide) h0 hb;have:=hI.nk;exact⟨λe=>by have:=hF b e;omega,by omega⟩) nq) ?_;rintro _ w5 ⟨r,least,ch,F',R',rfl,gN,gA,ak,uv⟩;have lk4:=hP.LY.lt;have z5:=ak.size;have aW:Ext w w5:=hI.ext.LS ak (λj hj=>by rcases hj with e|e;exact hF j e;(have:=hI.nk;omega));have I7:(E++[(r,ch)]).length=i+1:=by rw[List.length_append,qX];rfl
   have lY:r<=i:=by
    rcases gN with e|⟨-,-,h3,-⟩
    ·have:r=0:=(Prod.mk.inj e).1;omega
    ·rw[pw] at h3;exact h3
   have sR:(E++[(r,ch)])[i]? =some (r,ch):=by rw[List.getElem?_append_right (by omega),qX,Nat.sub_self];rfl
   have pK:U0 p g (E++[(r,ch)]) i=Mp (Oe p.list (g.take i).length l (Nt (g.take i) (g.take i).length r) r):=by
    unfold U0;rw[sR,hl,pw,z3i lY];rfl
   have gO:Nn p g (E++[(r,ch)]) (i+1)=Nn p g E i++Mp (Oe p.list (g.take i).length l (Nt (g.take i) (g.take i).length r) r):=by
    rw[PJ,Xw p g E _ i (by omega),pK]
   have Cg:(Nn p g (E++[(r,ch)]) (i+1)).length<=(i+1)*44800:=by
    have h2:MG (Nt (g.take i) (g.take i).length r)/\(Nt (g.take i) (g.take i).length r).length<=60:=by
     rcases Tf (g.take i) (g.take i).length r with e| e
     ·rw[e];exact⟨⟨List.Pairwise.nil,λy h=>(by cases h)⟩,Nat.zero_le _⟩
     ·exact⟨hg.ok _ (List.mem_of_mem_take e),by have:=hg.len (List.mem_of_mem_take e);omega⟩
    have iZ:r<=p.list.Mq:=by
     rcases gN with e|⟨-,h3,-⟩
     ·have:r=0:=(Prod.mk.inj e).1;omega
     ·exact h3
    have h3:=Vr hp.1 (x:=(g.take i).length) (by omega) hs h2.1 iZ (by omega) h2.2;rw[gO,List.length_append];omega
   rw[<-gO,<-MP hl,<-U6,<-MP hl] at gA;have fE:(Nn p g (E++[(r,ch)]) (i+1)).length<=9223372036854775:=by omega
   refine LW O$ N5 O O$ N5 O O$ qV (O6 (v:=I 0) O O)$ Me O$ Me O$ Me O$ qM O$ LW O$ N9 O O$ LX$ An O$ py$ M0 O ?_;refine Md O O$ Mn zbW O (z2E gA fE) ?_;rintro _ w6 ⟨rfl,aJ⟩;refine qV ((by first|exact MQ O U3 Nv (by omega)|exact Ob O U3 Nv)) ?_;refine M5 O O (SA (cs:=[_]) (zs:=[Value.int .u64 0]) VI Rq O (by kernel_rfl) O O O (by decide)) ?_;rintro _ w7 ⟨b49,rfl,⟨I8,ck,bU⟩,Ch⟩;have fZ:=aJ.trans ck;have z67:=fZ.size;have nn:∀j,F' j->j<w5.heap.size:=λj hj=>gA.wr.lt hj;have Ft:=mE.kp ak (λb hb e=>by rcases e with e|e;exact FJ b e hb;exact hI.vk (e▸hb));have zN:=Ft.ext fZ
   have wv:∀j,F' j->(Value.slice va (SH p g E i).length vc).ownBlock≠some j:=λj hj e=>by
    rcases uv j hj with e1|e1
    ·exact FJ j e1 e
    ·have:=vG j e;omega
   refine M5 O O (pap VI Rq O (by decide) O O zN Ch.rd (by intro c hc;simp at hc;subst hc;rfl) (by omega) (by simp only[maxLen];omega)) ?_;rintro v8 w8 ⟨eK,bz,kI,-⟩;have oD:=(gA.ext fZ).kpT (T:=41) (by decide) zN bz hI.vk wv;have nt:∀b,v8.ownBlock=some b->(Value.slice va (SH p g E i).length vc).ownBlock=some b\/w5.heap.size<=b:=λb hb=>(kI b hb).imp id (λe=>by omega);refine M4 O$ LV$ M0 O$ MT O O$ LW O$ LX ((ih (i+1,E++[(r,ch)],v8) _ ⟨⟨⟨F',R',oD,λj hj=>?_,λj hj e=>?_⟩,(aW.trans fZ).LS bz (λj hj=>hI.fr j hj),hI.nk,?_,λb hb=>?_,λe=>?_,λj e hj=>?_,Cg⟩,dA⟩ (by dsimp only;omega)).qb)
   ·rcases uv j hj with e| e
    ·exact hF j e
    ·have:=hI.ext.size;omega
   ·rcases nt j e with e1|e1
    ·exact wv j hj e1
    ·have:=nn j hj;omega
   ·rw[z6s,z8u p g E _ i (by omega),List.length_append,List.map_append];exact eK
   ·rcases nt b hb with e1|e1
    ·exact hI.fr b e1
    ·have:=aW.size;omega
   ·rcases nt k e with e1|e1
    ·exact hI.vk e1
    ·omega
   ·rcases Nat.lt_or_ge j i with qY|qY
    ·rw[List.getElem?_append_left (by omega)] at hj;exact(hI.ent j e hj).mono (λ_ _ h=>h) (λj' l' h=>by rw[List.getElem?_append_left (List.getElem?_eq_some_iff.1 h).1];exact h)
    ·have BX:=(List.getElem?_eq_some_iff.1 hj).1;rw[I7] at BX;have ej:j=i:=by omega
     subst ej;rw[sR] at hj;cases hj;rw[hl];rw[pw] at gN
     exact gN.mono (λj' l' h=>by
      have:=(List.getElem?_eq_some_iff.1 h).1;rw[pw] at this
      rwa [getD_take this] at h) (λj' l' h=>by rw[List.getElem?_append_left (List.getElem?_eq_some_iff.1 h).1];exact h)
  ·have cy:i=g.length:=by omega
   subst cy;refine M6 O$ qN O$ LW O$ Mn zf9 O (z29 hP) ?_;rintro _ w5 ⟨rfl,rfl⟩;refine LW O$ N5 O O$ N5 O O$ Me O$ Me O$ qM O$ Md O O$ LW O$ Me O$ Me O$ M4 O$ LZ Tryz.func85 O ?_;have fT:=hI.sl;rw[aP] at fT;exact⟨_,rfl,E,_,rfl,qX,⟨hI.ent⟩,by omega,by rw[aP];exact fT,hI.fr,hI.ext⟩
end Go.Proofs.YtfgjaafcgghnoaaGreatDoor
