/- Texts SoD, SoE, LiM, LiN, LiO, LiP, LiQ, BvB, BvC, BvD, one behind the other (what the statement BfsAlong does not use is left out). -/
import Derived.Test.YtpldpcjdjcgicaaGreatDoorBAp2
import Derived.Test.YtpldpcjdjcgicaaGreatDoorBAp3
set_option maxHeartbeats 16000000
namespace Go.Proofs.YtpldpcjdjcgicaaGreatDoor
open Go Go.RowKit
set_option linter.all false
set_option maxRecDepth 100000
theorem z6N {w:World}{g n cap:Nat}{d:Array Nat}(h:Ns w g n cap d)(a b pv:Nat)(Gl:a≤pv)(tj:pv<b)(hb:b≤n)(hn:n≤65536):
  Le Tryz.prog 230 [.slice (some ⟨g,0,none⟩) n cap,I (a:Int),I (b:Int),I (pv:Int)] w fun u w'=>u=I ((Go.Sort.partitionEqual M4 d a b pv).1:Int)∧Ns w' g n cap (Go.Sort.partitionEqual M4 d a b pv).2∧Kp (fun k=>k=g) w w':=by
 refine KA (e:=[(0,_),(1,_),(2,_),(3,_)]) Tryz.func230 rfl Tryz.ntmps230 rfl rfl (qN rfl (KE rfl (py (run_seq ?_))))
 have ay:=Ext.L4 w
 refine L5 [13,15] (fun w'=>Ext w w') (by kernel_rfl) rfl (qL [12,13,14,15] 0 rfl (fun _ h=>KM rfl) ay (qL [12,13,14,15] 1 rfl (fun _ h=>KM rfl) ay (LD (i:=2) rfl (by kernel_rfl) rfl rfl (fun _=>KM rfl) (ay) (LD (i:=3) rfl (by kernel_rfl) rfl rfl (fun _=>KM rfl) (ay) (qL [6,7,12,13,14,15] 4 rfl (fun _ h=>KM rfl) ay (qL [6,7,12,13,14,15] 5 rfl (fun _ h=>KM rfl) ay (qL [7,12,13,14,15] 6 rfl (fun _ h=>Lt L9 KY rfl rfl (by omega)) ay (qL [10,11,12,13,14,15] 8 rfl (fun _ h=>KM rfl) ay (qL [10,11,12,13,14,15] 9 rfl (fun _ h=>KM rfl) ay (qL [11,12,13,14,15] 10 rfl (fun _ h=>Lt L9 KY rfl rfl (by omega)) ay (qL [12,13,14,15] 7 rfl (fun _ hS=>Lb Mg rfl rfl ((h.ext hS).get (i:=pv) (by omega))) ay (qL [12,13,14,15] 11 rfl (fun _ hS=>Lb Mg rfl rfl ((h.ext hS).get (i:=a) (by omega))) ay (qL [13,14,15] 12 rfl (fun _ h=>Lt L9 KY rfl rfl (by omega)) ay ?_)))))))))))))
 refine Lu [13] (by kernel_rfl) (by kernel_rfl) (qO 13 (Lm (i:=13) rfl rfl (MM KY rfl rfl rfl (h.ext ay).sl ((h.ext ay).UI (by omega))) ?_))
 rintro w1a ⟨md,me⟩
 refine⟨trivial,?_⟩
 have fA:=(h.ext ay).set md
 refine KH 14 rfl (Lt L9 KY rfl rfl (by omega)) trivial (qO 15 (Lm (i:=15) rfl rfl (MM KY rfl rfl rfl fA.sl (fA.UI (by omega))) ?_))
 rintro w1 ⟨qX,qY⟩
 refine⟨trivial,?_⟩
 have gR:=fA.set qX
 have jU:Kp (fun k=>k=g) w w1:=ay.kp.trans (me.trans qY)
 refine qE (qN rfl (An rfl (Lz rfl rfl (An rfl (qV (M8 rfl rfl (by omega)) (KE rfl (KE rfl (py (Lc.qb (e:=[(0,_),(1,_),(8,_),(9,_),(10,_)]) ?_)))))))))
 refine run_seq (KB ?_)
 unfold Go.Sort.partitionEqual
 replace gR:Ns w1 g n cap (Go.Sort.swp d a pv):=gR
 generalize Go.Sort.swp d a pv=D at gR
 rw[show(a:Int)+1=((a+1:Nat):Int) by omega,show(b:Int)-1=((b-1:Nat):Int) by omega]
 refine MQ (α:=Nat×Nat×Array Nat) ((a+1,b-1,D)) (fun y=>[(0,.slice (some ⟨g,0,none⟩) n cap),(1,I (a:Int)),(9,I (y.1:Int)),(10,I (y.2.1:Int))]) (fun y w'=>Ns w' g n cap y.2.2∧Kp (fun k=>k=g) w1 w'∧Go.Sort.partEqLoop M4 a y.1 y.2.1 y.2.2=Go.Sort.partEqLoop M4 a (a+1) (b-1) D∧(a<y.1∧y.1≤n∧y.2.1<n)) (fun y=>y.2.1+1-y.1) ?hI ?hround
 case hI=>exact⟨gR,Kp.refl _ _,rfl,by dsimp only;omega⟩
 case hround =>
  rintro⟨i,j,d4⟩ w4 ⟨dA,av,cj,bO⟩ ih;dsimp only at dA av cj bO;rw[Go.Sort.partEqLoop_eq] at cj
  try dsimp only
  refine KB (run_seq (KB (Nz (fun e' w'=>e'=[(0,.slice (some ⟨g,0,none⟩) n cap),(1,I (a:Int)),(9,I (((Go.Sort.scanUp (fun x=>!M4 d4[a]! x) d4 j (i)):Nat):Int)),(10,I ((j:Nat):Int))]∧Ns w' g n cap d4∧Kp (fun k=>k=g) w4 w') ?iZ (fun iZ=>?rf))))
  case iZ=>
   rintro e' wC ⟨rfl,Ak,iZ⟩;have de:=Go.Sort.scanUp_ge (fun x=>!M4 d4[a]! x) d4 j i;have lF:=Rn (fun x=>!M4 d4[a]! x) d4 j i
   generalize Go.Sort.scanUp (fun x=>!M4 d4[a]! x) d4 j i=i2 at cj de lF
   refine run_seq (KB (Nz (fun e' w'=>e'=[(0,.slice (some ⟨g,0,none⟩) n cap),(1,I (a:Int)),(9,I ((i2:Nat):Int)),(10,I (((Go.Sort.scanDown (fun x=>M4 d4[a]! x) d4 i2 (j)):Nat):Int))]∧Ns w' g n cap d4∧Kp (fun k=>k=g) wC w') ?eV (fun eV=>?qZ)))
   case eV=>
    rintro e' wD ⟨rfl,iw,eV⟩;have jT:=Go.Sort.scanDown_le (fun x=>M4 d4[a]! x) d4 i2 j
    generalize Go.Sort.scanDown (fun x=>M4 d4[a]! x) d4 i2 j=j2 at cj jT
    refine run_seq (qN rfl (An rfl (An rfl (qV (LH rfl rfl) (py (KQ rfl (fun h5=>?_) (fun h5=>?_)))))))
    ·rw[if_pos (by omega)] at cj;rw[←cj];refine KO rfl (qN rfl (An rfl (KE rfl (py (KG Tryz.func230 rfl ?_)))));exact⟨_,rfl,rfl,iw,jU.trans (av.trans (iZ.trans eV))⟩
    ·rw[if_neg (by omega)] at cj;refine It (run_seq ?_);have bF:=Ext.L4 wD;refine L5 [13,15] (fun w'=>Ext wD w') (by kernel_rfl) rfl (qL [12,13,14,15] 0 rfl (fun _ h=>KM rfl) bF (qL [12,13,14,15] 1 rfl (fun _ h=>KM rfl) bF (LD (i:=2) rfl (by kernel_rfl) rfl rfl (fun _=>KM rfl) (bF) (LD (i:=3) rfl (by kernel_rfl) rfl rfl (fun _=>KM rfl) (bF) (qL [6,7,12,13,14,15] 4 rfl (fun _ h=>KM rfl) bF (qL [6,7,12,13,14,15] 5 rfl (fun _ h=>KM rfl) bF (qL [7,12,13,14,15] 6 rfl (fun _ h=>Lt L9 KY rfl rfl (by omega)) bF (qL [10,11,12,13,14,15] 8 rfl (fun _ h=>KM rfl) bF (qL [10,11,12,13,14,15] 9 rfl (fun _ h=>KM rfl) bF (qL [11,12,13,14,15] 10 rfl (fun _ h=>Lt L9 KY rfl rfl (by omega)) bF (qL [12,13,14,15] 7 rfl (fun _ h=>Lb Mg rfl rfl ((iw.ext h).get (i:=j2) (by omega))) bF (qL [12,13,14,15] 11 rfl (fun _ h=>Lb Mg rfl rfl ((iw.ext h).get (i:=i2) (by omega))) bF (qL [13,14,15] 12 rfl (fun _ h=>Lt L9 KY rfl rfl (by omega)) bF ?_)))))))))))));refine Lu [13] (by kernel_rfl) (by kernel_rfl) (qO 13 (Lm (i:=13) rfl rfl (MM KY rfl rfl rfl (iw.ext bF).sl ((iw.ext bF).UI (by omega))) ?_));rintro w8a ⟨fB,fC⟩;refine⟨trivial,?_⟩;have cu:=(iw.ext bF).set fB;refine KH 14 rfl (Lt L9 KY rfl rfl (by omega)) trivial (qO 15 (Lm (i:=15) rfl rfl (MM KY rfl rfl rfl cu.sl (cu.UI (by omega))) ?_));rintro w8 ⟨jn,jo⟩;refine⟨trivial,?_⟩;have jp:=cu.set jn;have eN:Kp (fun k=>k=g) wD w8:=bF.kp.trans (fC.trans jo);refine qE (qN rfl (An rfl (Lz rfl rfl (KE rfl (py (KF rfl (An rfl (qV (M8 rfl rfl (by omega)) (KE rfl (py (KC ?_)))))))))));rw[show(j2:Int)-1=((j2-1:Nat):Int) by omega];exact(ih (i2+1,j2-1,Go.Sort.swp d4 i2 j2) _ ⟨jp,(av.trans (iZ.trans eV)).trans eN,cj,by dsimp only;omega⟩ (by dsimp only;omega)).qb
   case qZ=>
    refine MQ (α:=Nat) (j) (fun r=>[(0,.slice (some ⟨g,0,none⟩) n cap),(1,I (a:Int)),(9,I ((i2:Nat):Int)),(10,I ((r:Nat):Int))]) (fun r w'=>Ns w' g n cap d4∧Kp (fun k=>k=g) wC w'∧Go.Sort.scanDown (fun x=>M4 d4[a]! x) d4 i2 r=Go.Sort.scanDown (fun x=>M4 d4[a]! x) d4 i2 (j)∧r<n) (fun r=>r) ?hI ?hround
    case hI=>exact⟨Ak,Kp.refl _ _,rfl,by omega⟩
    case hround=>
     rintro r w5 ⟨aO,aj,bJ,bY⟩ ih
     try dsimp only
     have hg:=Ext.L4 w5;rcases Nat.lt_or_ge r (i2) with hj|hj
     ·refine run_seq (run_seq (KN (fun w'=>Ext w5 w') (by kernel_rfl) rfl (KH 0 rfl (KM rfl) hg (KH 1 rfl (KM rfl) hg (KH 2 rfl (Qh rfl rfl) hg (Pw (KH 3 rfl (KM rfl) hg (qJ 4 rfl (hg) (qJ 5 rfl (hg) (qJ 6 rfl (hg) (qJ 7 rfl (hg) (qJ 8 rfl (hg) (qJ 9 rfl (hg) ?_)))))))))))));refine qJ 10 rfl (hg) (qJ 11 rfl (hg) (qJ 12 rfl (hg) (KH 13 rfl (Lk rfl rfl) hg (qE (Kx rfl (KO rfl ?_))))));rw[N0 _ _ _ _ (.inl hj)] at bJ;subst bJ;exact(eV _ _ ⟨rfl,aO.ext hg,aj.trans hg.kp⟩).qb
     ·refine run_seq (run_seq (KN (fun w'=>Ext w5 w') (by kernel_rfl) rfl (KH 0 rfl (KM rfl) hg (KH 1 rfl (KM rfl) hg (KH 2 rfl (Qh rfl rfl) hg (Pf (KH 3 rfl (KM rfl) hg (KH 4 rfl (KM rfl) hg (KH 5 rfl (KM rfl) hg (KH 6 rfl (Lt L9 KY rfl rfl (by omega)) hg (KH 8 rfl (KM rfl) hg (KH 9 rfl (KM rfl) hg (KH 10 rfl (Lt L9 KY rfl rfl (by omega)) hg ?_)))))))))))));refine qT 7 rfl (fun _ h=>Lb Mg rfl rfl ((aO.ext h).get (i:=a) (by omega))) hg (qT 11 rfl (fun _ h=>Lb Mg rfl rfl ((aO.ext h).get (i:=r) (by omega))) hg (OJ 12 [.tmp 53,.tmp 57] rfl Qs rfl (MY _ _ _) ?_));rintro _ w6 ⟨rfl,rfl⟩;refine⟨hg,?_⟩;refine KH 13 rfl (LK rfl rfl) hg (qE (LF rfl (fun h1=>?_) (fun h1=>?_)))
      ·rw[R6 _ _ _ _ hj (by simpa[M4] using h1) (by omega)] at bJ;refine It (KB (KF rfl (An rfl (qV (M8 rfl rfl (by omega)) (KE rfl (py (KC ?_)))))));rw[show(r:Int)-1=((r-1:Nat):Int) by omega];exact(ih (r-1) _ ⟨aO.ext hg,aj.trans hg.kp,bJ,by omega⟩ (by omega)).qb
      ·rw[N0 _ _ _ _ (.inr (by simpa[M4] using h1))] at bJ;refine KO rfl ?_;subst bJ;exact(eV _ _ ⟨rfl,aO.ext hg,aj.trans hg.kp⟩).qb
  case rf=>
   refine MQ (α:=Nat) (i) (fun r=>[(0,.slice (some ⟨g,0,none⟩) n cap),(1,I (a:Int)),(9,I ((r:Nat):Int)),(10,I ((j:Nat):Int))]) (fun r w'=>Ns w' g n cap d4∧Kp (fun k=>k=g) w4 w'∧Go.Sort.scanUp (fun x=>!M4 d4[a]! x) d4 j r=Go.Sort.scanUp (fun x=>!M4 d4[a]! x) d4 j (i)∧i≤r∧r≤n+1) (fun r=>j+1-r) ?hI ?hround
   case hI=>exact⟨dA,Kp.refl _ _,rfl,Nat.le_refl _,by omega⟩
   case hround=>
    rintro r w5 ⟨aO,aj,bJ,bY⟩ ih
    try dsimp only
    have hg:=Ext.L4 w5;rcases Nat.lt_or_ge (j) r with hj|hj
    ·refine run_seq (run_seq (KN (fun w'=>Ext w5 w') (by kernel_rfl) rfl (KH 0 rfl (KM rfl) hg (KH 1 rfl (KM rfl) hg (KH 2 rfl (Qh rfl rfl) hg (Pw (KH 3 rfl (KM rfl) hg (qJ 4 rfl (hg) (qJ 5 rfl (hg) (qJ 6 rfl (hg) (qJ 7 rfl (hg) (qJ 8 rfl (hg) (qJ 9 rfl (hg) ?_)))))))))))));refine qJ 10 rfl (hg) (qJ 11 rfl (hg) (qJ 12 rfl (hg) (qJ 13 rfl (hg) (KH 14 rfl (Lk rfl rfl) hg (qE (Kx rfl (KO rfl ?_)))))));rw[NR _ _ _ _ (.inl hj)] at bJ;subst bJ;exact(iZ _ _ ⟨rfl,aO.ext hg,aj.trans hg.kp⟩).qb
    ·refine run_seq (run_seq (KN (fun w'=>Ext w5 w') (by kernel_rfl) rfl (KH 0 rfl (KM rfl) hg (KH 1 rfl (KM rfl) hg (KH 2 rfl (Qh rfl rfl) hg (Pf (KH 3 rfl (KM rfl) hg (KH 4 rfl (KM rfl) hg (KH 5 rfl (KM rfl) hg (KH 6 rfl (Lt L9 KY rfl rfl (by omega)) hg (KH 8 rfl (KM rfl) hg (KH 9 rfl (KM rfl) hg (KH 10 rfl (Lt L9 KY rfl rfl (by omega)) hg ?_)))))))))))));refine qT 7 rfl (fun _ h=>Lb Mg rfl rfl ((aO.ext h).get (i:=a) (by omega))) hg (qT 11 rfl (fun _ h=>Lb Mg rfl rfl ((aO.ext h).get (i:=r) (by omega))) hg (OJ 12 [.tmp 36,.tmp 40] rfl Qs rfl (MY _ _ _) ?_));rintro _ w6 ⟨rfl,rfl⟩;refine⟨hg,?_⟩;refine KH 13 rfl ((by first|exact LP rfl|exact Nq rfl)) hg ?_;refine KH 14 rfl (LK rfl rfl) hg (qE (LF rfl (fun h1=>?_) (fun h1=>?_)))
     ·rw[TH _ _ _ _ hj (by simpa[M4] using h1)] at bJ;refine It (KB (KF rfl (An rfl (Lz rfl rfl (KE rfl (py (KC ?_)))))));exact(ih (r+1) _ ⟨aO.ext hg,aj.trans hg.kp,bJ,by omega,by omega⟩ (by omega)).qb
     ·rw[NR _ _ _ _ (.inr (by simpa[M4] using h1))] at bJ;refine KO rfl ?_;subst bJ;exact(iZ _ _ ⟨rfl,aO.ext hg,aj.trans hg.kp⟩).qb
section
variable (d:Array Nat)(b i:Nat)
theorem W8 (h:i<b)(hp:M4 d[i]! d[i-1]! =false):Go.Sort.scanSorted M4 d b i=Go.Sort.scanSorted M4 d b (i+1):=by
 conv=>lhs;rw[Go.Sort.scanSorted]
 rw[if_pos]
 rw[Bool.and_eq_true];exact⟨by simpa using h,by rw[hp];rfl⟩
theorem Qv (h:b≤i∨M4 d[i]! d[i-1]! =true):Go.Sort.scanSorted M4 d b i=i:=by
 rw[Go.Sort.scanSorted,if_neg]
 intro hc
 rw[Bool.and_eq_true] at hc
 rcases h with h| h
 ·have:=of_decide_eq_true hc.1;omega
 ·rw[h] at hc;cases hc.2
end
theorem z1K (d:Array Nat)(a b:Nat)(h:b-a<50):Go.Sort.partialInsertionSort M4 d a b=(d,decide (Go.Sort.scanSorted M4 d b (a+1)=b)):=by
 unfold Go.Sort.partialInsertionSort
 rw[Go.Sort.partialIns]
 by_cases e:Go.Sort.scanSorted M4 d b (a+1)=b
 ·simp only[e,if_pos,decide_true]
 ·simp only[if_neg e,if_pos h,decide_eq_false e]
theorem z4W {w:World}{g n cap:Nat}{d:Array Nat}(h:Ns w g n cap d)(a b:Nat)(iS:a<b)(hb:b≤n)(hn:n<50):
  Le Tryz.prog 228 [.slice (some ⟨g,0,none⟩) n cap,I (a:Int),I (b:Int)] w fun u w'=>u= .bool (Go.Sort.partialInsertionSort M4 d a b).2∧Ns w' g n cap d∧Kp (fun k=>k=g) w w':=by
 rw[z1K d a b (by omega)]
 dsimp only
 refine KA (e:=[(0,_),(1,_),(2,_)]) Tryz.func228 rfl Tryz.ntmps228 rfl rfl (qN rfl (KE rfl (qM rfl (An rfl (Lz rfl rfl (KE rfl (py (run_seq (qN rfl (KE rfl (py (KB ?_))))))))))))
 rw[show(a:Int)+1=((a+1:Nat):Int) by omega]
 refine MQ (α:=Unit) (()) (fun _=>[(0,.slice (some ⟨g,0,none⟩) n cap),(1,I (a:Int)),(2,I (b:Int)),(7,I ((a+1:Nat):Int)),(8,I 0)]) (fun y w'=>w'=w) (fun y=>0) ?hI ?hround
 case hI=>rfl
 case hround =>
  rintro _ w4 rfl ih0
  try dsimp only
  refine run_seq (qN rfl (An rfl (qV (LW rfl rfl) (py (KQ rfl (fun h0=>?_) (fun h0=>?_))))))
  ·refine It (run_seq (KB (run_seq (KB (Nz (fun e' w'=>e'=[(0,.slice (some ⟨g,0,none⟩) n cap),(1,I (a:Int)),(2,I (b:Int)),(7,I (Go.Sort.scanSorted M4 d b (a+1):Int)),(8,I 0)]∧Ns w' g n cap d∧Kp (fun k=>k=g) w4 w') ?fV (fun fV=>?Ao))))))
   case fV=>
    rintro e' ws ⟨rfl,Er,fV⟩;refine run_seq (qN rfl (An rfl (An rfl (qV (Mc rfl rfl) (py (KQ rfl (fun h1=>?_) (fun h1=>?_)))))))
    ·have tp:Go.Sort.scanSorted M4 d b (a+1)=b:=by omega
     rw[decide_eq_true tp];refine qN rfl (KE rfl (py (KG Tryz.func228 rfl ?_)));exact⟨_,rfl,rfl,Er,fV⟩
    ·have tp:¬Go.Sort.scanSorted M4 d b (a+1)=b:=by omega
     rw[decide_eq_false tp];refine It (run_seq (qN rfl (An rfl (An rfl (qV (M8 rfl rfl (by omega)) (qV (LW rfl rfl) (py (KQ rfl (fun h2=>?_) (fun h2=>?_)))))))))
     ·refine qN rfl (KE rfl (py (KG Tryz.func228 rfl ?_)));exact⟨_,rfl,rfl,Er,fV⟩
     ·omega
   case Ao=>
    refine MQ (α:=Nat) (a+1) (fun r=>[(0,.slice (some ⟨g,0,none⟩) n cap),(1,I (a:Int)),(2,I (b:Int)),(7,I (r:Int)),(8,I 0)]) (fun r w'=>Ns w' g n cap d∧Kp (fun k=>k=g) w4 w'∧Go.Sort.scanSorted M4 d b r=Go.Sort.scanSorted M4 d b (a+1)∧a<r∧r≤b) (fun r=>b-r) ?hI ?hround
    case hI=>exact⟨h,Kp.refl _ _,rfl,Nat.lt_succ_self a,iS⟩
    case hround=>
     rintro r w5 ⟨aO,aj,bJ,bY,Ap⟩ ih
     try dsimp only
     have hg:=Ext.L4 w5;rcases Nat.lt_or_ge r b with hj|hj
     ·refine run_seq (run_seq (KN (fun w'=>Ext w5 w') (by kernel_rfl) rfl (KH 0 rfl (KM rfl) hg (KH 1 rfl (KM rfl) hg (KH 2 rfl (LW rfl rfl) hg (Pf (KH 3 rfl (KM rfl) hg (KH 4 rfl (KM rfl) hg (KH 5 rfl (KM rfl) hg (KH 6 rfl (Lt L9 KY rfl rfl (by omega)) hg (KH 8 rfl (KM rfl) hg (KH 9 rfl (KM rfl) hg (KH 10 rfl (M8 rfl rfl (by omega)) hg ?_)))))))))))));rw[show(r:Int)-1=((r-1:Nat):Int) by omega];refine qT 7 rfl (fun _ h=>Lb Mg rfl rfl ((aO.ext h).get (i:=r) (by omega))) hg (KH 11 rfl (Lt L9 KY rfl rfl (by omega)) hg (qT 12 rfl (fun _ h=>Lb Mg rfl rfl ((aO.ext h).get (i:=r-1) (by omega))) hg (OJ 13 [.tmp 24,.tmp 29] rfl Qs rfl (MY _ _ _) ?_)));rintro _ w6 ⟨rfl,rfl⟩;refine⟨hg,?_⟩;refine KH 14 rfl ((by first|exact LP rfl|exact Nq rfl)) hg ?_;refine KH 15 rfl (LK rfl rfl) hg (qE (LF rfl (fun h3=>?_) (fun h3=>?_)))
      ·rw[W8 _ _ _ hj (by simpa[M4] using h3)] at bJ;refine It (KB (KF rfl (An rfl (Lz rfl rfl (KE rfl (py (KC ?_)))))));exact(ih (r+1) _ ⟨aO.ext hg,aj.trans hg.kp,bJ,by omega,by omega⟩ (by omega)).qb
      ·rw[Qv _ _ _ (.inr (by simpa[M4] using h3))] at bJ;refine KO rfl ?_;subst bJ;exact(fV _ _ ⟨rfl,aO.ext hg,aj.trans hg.kp⟩).qb
     ·refine run_seq (run_seq (KN (fun w'=>Ext w5 w') (by kernel_rfl) rfl (KH 0 rfl (KM rfl) hg (KH 1 rfl (KM rfl) hg (KH 2 rfl (LW rfl rfl) hg (Pw (KH 3 rfl (KM rfl) hg (qJ 4 rfl (hg) (qJ 5 rfl (hg) (qJ 6 rfl (hg) (qJ 7 rfl (hg) (qJ 8 rfl (hg) (qJ 9 rfl (hg) ?_)))))))))))));refine qJ 10 rfl (hg) (qJ 11 rfl (hg) (qJ 12 rfl (hg) (qJ 13 rfl (hg) (qJ 14 rfl (hg) (KH 15 rfl (Lk rfl rfl) hg (qE (Kx rfl (KO rfl ?_))))))));rw[Qv _ _ _ (.inl hj)] at bJ;subst bJ;exact(fV _ _ ⟨rfl,aO.ext hg,aj.trans hg.kp⟩).qb
  ·exact absurd (by decide) h0
theorem S4 {w:World}{g n cap sb s:Nat}{d:Array Nat}(h:Ns w g n cap d)(hB:KP w sb [I (s:Int)] 3)(hs:s≤1000)(x y:Nat)(hx:x<n)(hy:y<n)(pG:sb≠g):
  Le Tryz.prog 239 [.slice (some ⟨g,0,none⟩) n cap,I (x:Int),I (y:Int),ptr sb 0] w fun u w'=>∃x' y' s':Nat,u= .tuple #[I (x':Int),I (y':Int)]∧((x'=x∧y'=y)∨(x'=y∧y'=x))∧s'≤s+1∧KP w' sb [I (s':Int)] 3∧Ns w' g n cap d∧Kp (fun k=>k=sb) w w':=by
 refine KA (e:=[(0,_),(1,_),(2,_),(3,_)]) Tryz.func239 rfl Tryz.ntmps239 rfl rfl ?_
 have hg:=Ext.L4 w
 refine qN rfl (KE rfl (KE rfl (py (run_seq (run_seq (KN (fun w'=>Ext w w') (by kernel_rfl) rfl (KH 0 rfl (KM rfl) hg (KH 1 rfl (KM rfl) hg (KH 2 rfl (Lt L9 KY rfl rfl (by omega)) hg (KH 4 rfl (KM rfl) hg (KH 5 rfl (KM rfl) hg (KH 6 rfl (Lt L9 KY rfl rfl (by omega)) hg (qT 3 rfl (fun _ hS=>Lb Mg rfl rfl ((h.ext hS).get (i:=y) (by omega))) hg ?_)))))))))))))
 refine qT 7 rfl (fun _ hS=>Lb Mg rfl rfl ((h.ext hS).get (i:=x) (by omega))) hg (OJ 8 [.tmp 13,.tmp 17] rfl Qs rfl (MY _ _ _) ?_)
 rintro _ w6 ⟨rfl,rfl⟩
 refine⟨hg,?_⟩
 refine qE (LF rfl (fun h1=>?_) (fun h1=>?_))
 ·have ak:=hg.KD hB;refine qN rfl (An rfl (qV (KZ rfl) (qV (KJ U3 rfl rfl ak rfl) (Lz rfl rfl (qV (KZ rfl) (KR rfl (Mn LC rfl rfl rfl ak (by simp)) ?_))))));rintro w3 ⟨ar,ax⟩;refine qM rfl (An rfl (An rfl (KE rfl (KE rfl (py (KG Tryz.func239 rfl ?_))))));exact⟨_,rfl,y,x,s+1,rfl,.inr ⟨rfl,rfl⟩,Nat.le_refl _,ar,(h.ext hg).kp ax (fun e=>pG e.symm),hg.kp.trans ax⟩
 ·refine It (qN rfl (An rfl (An rfl (KE rfl (KE rfl (py (KG Tryz.func239 rfl ?_)))))));exact⟨_,rfl,x,y,s,rfl,.inl ⟨rfl,rfl⟩,Nat.le_succ _,hg.KD hB,h.ext hg,hg.kp⟩
theorem z06 {w:World}{g n cap sb s:Nat}{d:Array Nat}(h:Ns w g n cap d)(hB:KP w sb [I (s:Int)] 3)(hs:s≤500)(x y z:Nat)(hx:x<n)(hy:y<n)(hz:z<n)(pG:sb≠g):
  Le Tryz.prog 237 [.slice (some ⟨g,0,none⟩) n cap,I (x:Int),I (y:Int),I (z:Int),ptr sb 0] w fun u w'=>∃x' s':Nat,u=I (x':Int)∧(x'=x∨x'=y∨x'=z)∧s'≤s+3∧KP w' sb [I (s':Int)] 3∧Ns w' g n cap d∧Kp (fun k=>k=sb) w w':=by
 refine KA (e:=[(0,_),(1,_),(2,_),(3,_),(4,_)]) Tryz.func237 rfl Tryz.ntmps237 rfl rfl (qN rfl (KE rfl (qM rfl (An rfl (An rfl (An rfl (An rfl (L2 [.tmp 12,.tmp 13,.tmp 14,.tmp 15] z5e rfl (S4 h hB (by omega) x y hx hy pG) ?_))))))))
 rintro _ w1 ⟨x1,y1,s1,rfl,Gp,dz,ai,jV,aN⟩
 refine An rfl (qV (Ll rfl rfl) (qV (Ll rfl rfl) (KE rfl (KE rfl (qM rfl (An rfl (An rfl (An rfl (An rfl (L2 [.tmp 20,.tmp 21,.tmp 22,.tmp 23] z5e rfl (S4 jV ai (by omega) y1 z (by omega) hz pG) ?_))))))))))
 rintro _ w2 ⟨y2,z2,s2,rfl,Gq,dB,ak,kC,am⟩
 refine An rfl (qV (Ll rfl rfl) (qV (Ll rfl rfl) (KE rfl (KE rfl (qM rfl (An rfl (An rfl (An rfl (An rfl (L2 [.tmp 28,.tmp 29,.tmp 30,.tmp 31] z5e rfl (S4 kC ak (by omega) x1 y2 (by omega) (by omega) pG) ?_))))))))))
 rintro _ w3 ⟨x3,y3,s3,rfl,Gs,nO,ar,mh,ax⟩
 refine An rfl (qV (Ll rfl rfl) (qV (Ll rfl rfl) (KE rfl (KE rfl (py (Lc.qb (e:=[(2,_),(10,_)]) ?_))))))
 refine qN rfl (An rfl (KE rfl (py (KG Tryz.func237 rfl ?_))))
 exact⟨_,rfl,y3,s3,rfl,by omega,by omega,ar,mh,(aN.trans am).trans ax⟩
theorem z3m {w:World}{g n cap:Nat}{d:Array Nat}(h:Ns w g n cap d)(a b:Nat)(iS:a+12<b)(hb:b≤n)(hn:n<50):
  Le Tryz.prog 226 [.slice (some ⟨g,0,none⟩) n cap,I (a:Int),I (b:Int)] w fun u w'=>∃p t:Nat,u= .tuple #[I (p:Int),I (t:Int)]∧a≤p∧p<b∧t≤2∧Ns w' g n cap d∧Ext w w':=by
 have Gt:g<w.heap.size:=h.sl.lt rfl
 refine KA (e:=[(0,_),(1,_),(2,_)]) Tryz.func226 rfl Tryz.ntmps226 rfl rfl (qN rfl (KE rfl (KE rfl (qM rfl (An rfl (An rfl (qV (M8 rfl rfl (by omega)) (KE rfl (qM rfl ?_)))))))))
 rw[show(b:Int)-(a:Int)=((b-a:Nat):Int) by omega]
 refine KL rfl rfl (MN (cs:=[_]) LC rfl) ?_
 rintro _ w1 ⟨sb,rfl,pG,ad,ai⟩
 replace ai:KP w1 sb [I ((0:Nat):Int)] 3:=ai
 refine qM rfl (An rfl (An rfl (qV (Ra rfl rfl (by omega)) (qV (SD rfl rfl (by omega)) (Lz rfl rfl (KE rfl (qM rfl (An rfl (An rfl (qV (Ra rfl rfl (by omega)) (qV (SD rfl rfl (by omega)) (Lz rfl rfl (KE rfl ?_)))))))))))))
 refine qM rfl (An rfl (An rfl (qV (Ra rfl rfl (by omega)) (qV (SD rfl rfl (by omega)) (Lz rfl rfl (KE rfl (py (Lc.qb (e:=[(0,_),(6,_),(7,_),(8,_),(9,_),(10,_),(11,_),(12,_)]) ?_))))))))
 refine run_seq (qN rfl (An rfl (qV (OL rfl rfl) (py ?_))))
 rw[show(a:Int)+((b-a:Nat):Int) / 4*1=((a+(b-a) / 4*1:Nat):Int) by omega,show(a:Int)+((b-a:Nat):Int) / 4*2=((a+(b-a) / 4*2:Nat):Int) by omega,show(a:Int)+((b-a:Nat):Int) / 4*3=((a+(b-a) / 4*3:Nat):Int) by omega]
 refine KQ rfl (fun h0=>?_) (fun h0=>?_)
 ·refine run_seq (qN rfl (An rfl (qV (OL rfl rfl) (py (KQ rfl (fun h1=>?_) (fun h1=>?_))))))
  ·omega
  ·refine It (KF rfl (An rfl (An rfl (An rfl (An rfl (L2 [.tmp 44,.tmp 45,.tmp 46,.tmp 47,.tmp 9] zaH rfl (z06 (h.ext ad) ai (by omega) (a+(b-a) / 4*1) (a+(b-a) / 4*2) (a+(b-a) / 4*3) (by omega) (by omega) (by omega) (by omega)) ?_))))));rintro _ w2 ⟨p,s,rfl,hp,hs,ak,kC,am⟩;have af:Ext w w2:=ad.Kz am (fun k e=>by omega);refine KE rfl (qM rfl (qV (KJ U3 rfl rfl ak rfl) (py (KB (qN rfl (qV (Mc rfl rfl) (KE rfl (py (KQ rfl (fun h2=>?_) (fun h2=>?_))))))))))
   ·refine qN rfl (An rfl (KE rfl (KE rfl (py (KG Tryz.func226 rfl ?_)))));exact⟨_,rfl,p,1,rfl,by omega,by omega,by omega,kC,af⟩
   ·refine qN rfl (qV (Mc rfl rfl) (KE rfl (py (KQ rfl (fun h3=>?_) (fun h3=>?_)))))
    ·refine qN rfl (An rfl (KE rfl (KE rfl (py (KG Tryz.func226 rfl ?_)))));exact⟨_,rfl,p,2,rfl,by omega,by omega,by omega,kC,af⟩
    ·refine qN rfl (An rfl (KE rfl (KE rfl (py (KG Tryz.func226 rfl ?_)))));exact⟨_,rfl,p,0,rfl,by omega,by omega,by omega,kC,af⟩
 ·omega
theorem z2y {w:World}{xb r:Nat}(hB:KP w xb [KV r] 355)(hr:r<18446744073709551616):
  Le Tryz.prog 235 [ptr xb 0] w fun u w'=>∃r':Nat,u=KV r'∧r'<18446744073709551616∧KP w' xb [KV r'] 355∧Kp (fun k=>k=xb) w w':=by
 refine KA (e:=[(0,_)]) Tryz.func235 rfl Tryz.ntmps235 rfl rfl ?_
 have aP:=Ext.L4 w
 refine qN rfl (KE rfl (py (run_seq (L5 [9] (fun w'=>Ext w w') (by kernel_rfl) rfl (qL [1,2,7,8,9] 0 rfl (fun _ h=>KM rfl) aP (qL [2,7,8,9] 1 rfl (fun _ h=>KZ rfl) aP (qL [7,8,9] 2 rfl (fun _ h=>KJ Xw rfl rfl (h.KD hB) rfl) aP (qL [4,5,6,7,8,9] 3 rfl (fun _ h=>KM rfl) aP (qL [5,6,7,8,9] 4 rfl (fun _ h=>KZ rfl) aP (qL [6,7,8,9] 5 rfl (fun _ h=>KJ Xw rfl rfl (h.KD hB) rfl) aP (qL [7,8,9] 6 rfl (fun _ h=>Mq 13 8192 rfl rfl (by decide) rfl) aP (qL [8,9] 7 rfl (fun _ h=>UL rfl rfl (by omega) (by omega)) aP (qL [9] 8 rfl (fun _ h=>KZ rfl) aP ?_)))))))))))))
 generalize ig:r^^^r*8192%18446744073709551616=r1
 have dw:r1<18446744073709551616:=by rw[←ig];exact Nat.xor_lt_two_pow (n:=64) (by omega) (by omega)
 refine Lu [9] (by kernel_rfl) (by kernel_rfl) (qO 9 (Lm (i:=9) rfl rfl (Mn Y9 rfl rfl rfl (aP.KD hB) (by simp)) ?_))
 rintro w1 ⟨ai,aN⟩
 refine⟨trivial,?_⟩
 replace ai:KP w1 xb [KV r1] 355:=ai
 have aa:=Ext.L4 w1
 refine qE (run_seq (L5 [9] (fun w'=>Ext w1 w') (by kernel_rfl) rfl (qL [1,2,7,8,9] 0 rfl (fun _ h=>KM rfl) aa (qL [2,7,8,9] 1 rfl (fun _ h=>KZ rfl) aa (qL [7,8,9] 2 rfl (fun _ h=>KJ Xw rfl rfl (h.KD ai) rfl) aa (qL [4,5,6,7,8,9] 3 rfl (fun _ h=>KM rfl) aa (qL [5,6,7,8,9] 4 rfl (fun _ h=>KZ rfl) aa (qL [6,7,8,9] 5 rfl (fun _ h=>KJ Xw rfl rfl (h.KD ai) rfl) aa (qL [7,8,9] 6 rfl (fun _ h=>Ps 7 128 rfl rfl (by decide) rfl) aa (qL [8,9] 7 rfl (fun _ h=>UL rfl rfl (by omega) (by omega)) aa (qL [9] 8 rfl (fun _ h=>KZ rfl) aa ?_)))))))))))
 generalize gj:r1^^^r1 / 128=r2
 have et:r2<18446744073709551616:=by rw[←gj];exact Nat.xor_lt_two_pow (n:=64) (by omega) (by omega)
 refine Lu [9] (by kernel_rfl) (by kernel_rfl) (qO 9 (Lm (i:=9) rfl rfl (Mn Y9 rfl rfl rfl (aa.KD ai) (by simp)) ?_))
 rintro w2 ⟨ak,am⟩
 refine⟨trivial,?_⟩
 replace ak:KP w2 xb [KV r2] 355:=ak
 have ag:=Ext.L4 w2
 refine qE (run_seq (L5 [9] (fun w'=>Ext w2 w') (by kernel_rfl) rfl (qL [1,2,7,8,9] 0 rfl (fun _ h=>KM rfl) ag (qL [2,7,8,9] 1 rfl (fun _ h=>KZ rfl) ag (qL [7,8,9] 2 rfl (fun _ h=>KJ Xw rfl rfl (h.KD ak) rfl) ag (qL [4,5,6,7,8,9] 3 rfl (fun _ h=>KM rfl) ag (qL [5,6,7,8,9] 4 rfl (fun _ h=>KZ rfl) ag (qL [6,7,8,9] 5 rfl (fun _ h=>KJ Xw rfl rfl (h.KD ak) rfl) ag (qL [7,8,9] 6 rfl (fun _ h=>Mq 17 131072 rfl rfl (by decide) rfl) ag (qL [8,9] 7 rfl (fun _ h=>UL rfl rfl (by omega) (by omega)) ag (qL [9] 8 rfl (fun _ h=>KZ rfl) ag ?_)))))))))))
 generalize Aq:r2^^^r2*131072%18446744073709551616=r3
 have cf:r3<18446744073709551616:=by rw[←Aq];exact Nat.xor_lt_two_pow (n:=64) (by omega) (by omega)
 refine Lu [9] (by kernel_rfl) (by kernel_rfl) (qO 9 (Lm (i:=9) rfl rfl (Mn Y9 rfl rfl rfl (ag.KD ak) (by simp)) ?_))
 rintro w3 ⟨ar,ax⟩
 refine⟨trivial,?_⟩
 replace ar:KP w3 xb [KV r3] 355:=ar
 refine qE (Lc.qb (e:=[(0,_),(2,_)]) ?_)
 refine qN rfl (An rfl (qV (KZ rfl) (qV (KJ Xw rfl rfl ar rfl) (KE rfl (py (KG Tryz.func235 rfl ?_))))))
 exact⟨_,rfl,r3,rfl,cf,ar,(aP.kp.trans aN).trans ((aa.kp.trans am).trans (ag.kp.trans ax))⟩
theorem z1X (x:Nat)(hx:x<18446744073709551616)(w:World):Le Tryz.prog 214 [KV x] w fun v w'=>v=I (Lr x:Int)∧w'=w:=by
 refine KA (e:=[(0,_)]) Tryz.func214 rfl Tryz.ntmps214 rfl rfl (qN rfl (KE rfl (py (run_seq (Kx rfl (It (qN rfl (An rfl (L2 [.tmp 6] Wx rfl (P3 x hx w) ?_)))))))))
 rintro _ w ⟨rfl,rfl⟩
 refine KE rfl (py (KG Tryz.func214 rfl ?_))
 exact⟨_,rfl,rfl,rfl⟩
theorem z4M (x:Nat)(hx:x<4294967296)(w:World):Le Tryz.prog 234 [I (x:Int)] w fun v w'=>v=KV (2^Lr x)∧w'=w:=by
 have hl:Lr x≤32:=Mj (by omega)
 have hp:2^Lr x≤2^32:=Nat.pow_le_pow_right (by decide) hl
 refine KA (e:=[(0,_)]) Tryz.func234 rfl Tryz.ntmps234 rfl rfl (qN rfl (KE rfl (qM rfl (An rfl (qV ((by first|exact Lw rfl U3 z4O (by omega)|exact MI rfl U3 z4O)) ?_)))))
 refine L2 [.tmp 4] z7b rfl (z1X x (by omega) w) ?_
 rintro _ w ⟨rfl,rfl⟩
 refine qV (Mq (Lr x) (2^Lr x) rfl rfl (by omega) rfl) ?_
 rw[show 1*2^Lr x%18446744073709551616=2^Lr x by rw[Nat.one_mul];exact Nat.mod_eq_of_lt (by omega)]
 refine KE rfl (py (KG Tryz.func234 rfl ?_))
 exact⟨_,rfl,rfl,rfl⟩
open Go.Sort in
theorem z3V {d:Array Nat}{a b i j:Nat}(h1:a≤i)(h2:i<b)(h3:a≤j)(h4:j<b)(h5:b≤d.size):PermIn a b d (swp d i j):=swp_permIn d a b i j h1 h2 h3 h4 h5
theorem z54 {w:World}{g n cap:Nat}{d:Array Nat}(h:Ns w g n cap d)(a b:Nat)(iS:a+12<b)(hb:b≤n)(hn:n<50):
  Le Tryz.prog 225 [.slice (some ⟨g,0,none⟩) n cap,I (a:Int),I (b:Int)] w fun u w'=>u= .tuple #[]∧∃d',Go.Sort.PermIn a b d d'∧Ns w' g n cap d'∧Kp (fun k=>k=g) w w':=by
 have Gt:g<w.heap.size:=h.sl.lt rfl
 have Ar:2^(Lr (b-a)-1)≤b-a:=UF (by omega)
 have rg:2^Lr (b-a)≤2*(b-a):=by
  have rh:Lr (b-a)≠0:=fun e=>by have:=Ry (v:=b-a);rw[e] at this;omega
  rw[show Lr (b-a)=Lr (b-a)-1+1 by omega,Nat.pow_succ];omega
 have zL:1≤2^Lr (b-a):=Nat.one_le_two_pow
 refine KA (e:=[(0,_),(1,_),(2,_)]) Tryz.func225 rfl Tryz.ntmps225 rfl rfl (qN rfl (An rfl (An rfl (qV (M8 rfl rfl (by omega)) ?_))))
 rw[show(b:Int)-(a:Int)=((b-a:Nat):Int) by omega]
 refine KE rfl (qM rfl (An rfl (qV (OL rfl rfl) (py (KQ rfl (fun h0=>?_) (fun h0=>?_))))))
 ·refine qN rfl (An rfl (qV ((by first|exact Lw rfl U3 Xw (by omega)|exact MI rfl U3 Xw)) ?_));refine KL rfl rfl (MN (cs:=[_]) Y9 rfl) ?_;rintro _ w1 ⟨xb,rfl,JD,ad,ai⟩;refine KR rfl (Mn Y9 rfl rfl rfl ai (by simp)) ?_;rintro w2 ⟨ak,am⟩;have af:Ext w w2:=ad.Kz am (fun k e=>by omega);replace ak:KP w2 xb [KV (b-a)] 355:=ak;refine qM rfl (An rfl (L2 [.tmp 18] z9T rfl (z4M (b-a) (by omega) _) ?_));rintro _ w2 ⟨rfl,rfl⟩
  generalize 2^Lr (b-a)=M at rg zL
  refine KE rfl (qM rfl (An rfl (An rfl (qV (Ra rfl rfl (by omega)) (qV (SD rfl rfl (by omega)) (Lz rfl rfl (qV (M8 rfl rfl (by omega)) (KE rfl (py (KB ?_))))))))));rw[show(a:Int)+((b-a:Nat):Int) / 4*2-1=((a+(b-a) / 4*2-1:Nat):Int) by omega];refine MQ (α:=Nat×Array Nat×Nat) ((a+(b-a) / 4*2-1,d,b-a)) (fun y=>[(0,.slice (some ⟨g,0,none⟩) n cap),(1,I (a:Int)),(6,I ((b-a:Nat):Int)),(7,ptr xb 0),(8,KV M),(9,I (y.1:Int))]) (fun y w'=>Ns w' g n cap y.2.1∧KP w' xb [KV y.2.2] 355∧y.2.2<18446744073709551616∧Go.Sort.PermIn a b d y.2.1∧Kp (fun k=>k=g) w w'∧a≤y.1) (fun y=>a+b+2-y.1) ?hI ?hround
  case hI=>exact⟨h.ext af,ak,by dsimp only;omega,Go.Sort.permIn_refl _ _ _,af.kp,by dsimp only;omega⟩
  case hround=>
   rintro⟨idx,d4,r⟩ w4 ⟨dA,aI,bO,kD,av,ym⟩ ih;dsimp only at dA aI bO kD av ym;have cn:=dA.size
   try dsimp only
   refine run_seq (qN rfl (An rfl (An rfl (An rfl (qV (Ra rfl rfl (by omega)) (qV (SD rfl rfl (by omega)) (Lz rfl rfl (Lz rfl rfl (qV (Qh rfl rfl) (py (KQ rfl (fun h1=>?_) (fun h1=>?_))))))))))))
   ·have oc:idx<b:=by omega
    refine It (run_seq (KB (qN rfl (L2 [.tmp 7] zbV rfl (z2y aI bO) ?_))));rintro _ w5 ⟨r5,rfl,bY,aG,aj⟩;have aO:=dA.kp aj (fun e=>by omega);have cq:Kp (fun k=>k=g) w w5:=av.Kz aj (fun k e=> .inl (by omega));refine An rfl (qV (QV (m:=M) (n:=1) rfl rfl rfl (by show M<2^64;omega) (by omega)) ?_);refine qV (Ph rfl rfl (by omega) (by omega)) ?_;have As:r5&&&(M-1)≤M-1:=Nat.and_le_right
    generalize r5&&&(M-1)=q at As
    refine qV (Ln rfl z4O U3 (by omega)) (KE rfl (py (run_seq (qN rfl (An rfl (An rfl (qV (OL rfl rfl) (py (Lp (fun e' w'=>∃o:Nat,e'=[(0,.slice (some ⟨g,0,none⟩) n cap),(1,I (a:Int)),(6,I ((b-a:Nat):Int)),(7,ptr xb 0),(8,KV M),(9,I (idx:Int)),(10,I (o:Int))]∧w'=w5∧o<b-a) ?At (fun At=>?Au))))))))))
    case At=>
     rintro e' w5' ⟨o,rfl,rfl,ho⟩;have ay:=Ext.L4 w5';refine L5 [17,19] (fun w'=>Ext w5' w') (by kernel_rfl) rfl (qL [16,17,18,19] 0 rfl (fun _ h=>KM rfl) ay (qL [16,17,18,19] 1 rfl (fun _ h=>KM rfl) ay (LD (i:=2) rfl (by kernel_rfl) rfl rfl (fun _=>KM rfl) (ay) (LD (i:=3) rfl (by kernel_rfl) rfl rfl (fun _=>KM rfl) (ay) (LD (i:=4) rfl (by kernel_rfl) rfl rfl (fun _=>KM rfl) (ay) (LD (i:=5) rfl (by kernel_rfl) rfl rfl (fun _=>PW rfl rfl (by omega)) (ay) (qL [10,11,16,17,18,19] 6 rfl (fun _ h=>KM rfl) ay (qL [9,10,11,16,17,18,19] 7 rfl (fun _ h=>KM rfl) ay (qL [9,10,11,16,17,18,19] 8 rfl (fun _ h=>KM rfl) ay (qL [10,11,16,17,18,19] 9 rfl (fun _ h=>PW rfl rfl (by omega)) ay (qL [11,16,17,18,19] 10 rfl (fun _ h=>Lt L9 KY rfl rfl (by omega)) ay (qL [14,15,16,17,18,19] 12 rfl (fun _ h=>KM rfl) ay (qL [14,15,16,17,18,19] 13 rfl (fun _ h=>KM rfl) ay ?_)))))))))))));refine qL [15,16,17,18,19] 14 rfl (fun _ h=>Lt L9 KY rfl rfl (by omega)) ay (qL [16,17,18,19] 11 rfl (fun _ h=>Lb Mg rfl rfl ((aO.ext h).get (i:=a+o) (by omega))) ay (qL [16,17,18,19] 15 rfl (fun _ h=>Lb Mg rfl rfl ((aO.ext h).get (i:=idx) (by omega))) ay (qL [17,18,19] 16 rfl (fun _ h=>Lt L9 KY rfl rfl (by omega)) ay (Lu [17] (by kernel_rfl) (by kernel_rfl) (qO 17 (Lm (i:=17) rfl rfl (MM KY rfl rfl rfl (aO.ext ay).sl ((aO.ext ay).UI (by omega))) ?_))))));rintro w8a ⟨fB,fC⟩;refine⟨trivial,?_⟩;have cu:=(aO.ext ay).set fB;refine KH 18 rfl (Lt L9 KY rfl rfl (by omega)) trivial (qO 19 (Lm (i:=19) rfl rfl (MM KY rfl rfl rfl cu.sl (cu.UI (by omega))) ?_));rintro w8 ⟨jn,jo⟩;refine⟨trivial,?_⟩;have jp:=cu.set jn;have eN:Kp (fun k=>k=g) w5' w8:=ay.kp.trans (fC.trans jo);refine qE (KC (KF rfl (An rfl (Lz rfl rfl (KE rfl (py ?_))))));rw[show(idx:Int)+1=((idx+1:Nat):Int) by omega];exact(ih (idx+1,Go.Sort.swp d4 idx (a+o),r5) _ ⟨jp,eN.KD aG (by omega),bY,Go.Sort.permIn_trans _ _ _ a b kD (z3V ym oc (by omega) (by omega) (by omega)),cq.trans eN,by dsimp only;omega⟩ (by dsimp only;omega)).qb
    case Au=>
     refine KQ rfl (fun h2=>?_) (fun h2=>?_)
     ·refine KF rfl (An rfl (An rfl (qV (M8 rfl rfl (by omega)) (KE rfl (py ?_)))));rw[show(q:Int)-((b-a:Nat):Int)=((q-(b-a):Nat):Int) by omega];exact(At _ _ ⟨q-(b-a),rfl,rfl,by omega⟩).qb
     ·refine It ?_;exact(At _ _ ⟨q,rfl,rfl,by omega⟩).qb
   ·refine KO rfl (LZ Tryz.func225 rfl ?_);exact⟨_,rfl,rfl,d4,kD,dA,av⟩
 ·omega
end Go.Proofs.YtpldpcjdjcgicaaGreatDoor
namespace Go.Proofs.YtpldpcjdjcgicaaGreatDoor
open Go Go.RowKit
set_option linter.all false
set_option maxRecDepth 100000
open Go.Sort in
def z78 (g n cap m:Nat):Prop:=∀(w:World) (d:Array Nat),Ns w g n cap d→∀(a b limit:Nat),b-a<m→a≤b→b≤n→limit≤64→Below M4 a b d→
 Le Tryz.prog 213 [.slice (some ⟨g,0,none⟩) n cap,I (a:Int),I (b:Int),I (limit:Int)] w fun u w'=>u= .tuple #[]∧∃d',Ns w' g n cap d'∧PermIn a b d d'∧SortedIn M4 a b d'∧Kp (fun k=>k=g) w w'
open Go.Sort in
structure z0C (w:World)(g n cap a b:Nat)(d:Array Nat)(a1 b1 l1:Nat)(d1:Array Nat)(w':World):Prop where
 arr:Ns w' g n cap d1
 kp:Kp (fun k=>k=g) w w'
 ab:a1≤b1
 bn:b1≤n
 sm:b1-a1≤b-a
 lim:l1≤64
 bel:Below M4 a1 b1 d1
 fin:∀R,PermIn a1 b1 d1 R→SortedIn M4 a1 b1 R→PermIn a b d R∧SortedIn M4 a b R
open Go.Sort in
theorem z0C.perm {w:World}{g n cap a b:Nat}{d:Array Nat}{a1 b1 l1 l2:Nat}{d1 d2:Array Nat}{w1 w2:World}(h:z0C w g n cap a b d a1 b1 l1 d1 w1)(hA:Ns w2 g n cap d2)(hk:Kp (fun k=>k=g) w1 w2)(hp:PermIn a1 b1 d1 d2)(hl:l2≤64):z0C w g n cap a b d a1 b1 l2 d2 w2:=
 ⟨hA,h.kp.trans hk,h.ab,h.bn,h.sm,hl,h.bel.perm (by rw[h.arr.size];exact h.bn) hp,fun R h1 h2=>h.fin R (permIn_trans _ _ _ _ _ hp h1) h2⟩
open Go.Sort in
theorem z4a {g n cap m : Nat}(eD : z78 g n cap m){w : World}{d : Array Nat}(h : Ns w g n cap d)(a b limit : Nat)(hm : b - a ≤ m)(iS : a ≤ b)(hb : b ≤ n)(hn : n < 50)(hl : limit ≤ 64)(hB : Below M4 a b d) :
  Le Tryz.prog 213 [.slice (some ⟨g,0,none⟩) n cap,I (a:Int),I (b:Int),I (limit:Int)] w fun u w'=>u= .tuple #[]∧∃d',Ns w' g n cap d'∧PermIn a b d d'∧SortedIn M4 a b d'∧Kp (fun k=>k=g) w w':=by
 refine KA (e:=[(0,_),(1,_),(2,_),(3,_)]) Tryz.func213 rfl Tryz.ntmps213 rfl rfl (qN rfl (KE rfl (qM rfl (KE rfl (py (KB (MQ (α:=Nat×Nat×Nat×Bool×Bool×Array Nat) ((a,b,limit,true,true,d)) (fun y=>[(0,.slice (some ⟨g,0,none⟩) n cap),(1,I (y.1:Int)),(2,I (y.2.1:Int)),(3,I (y.2.2.1:Int)),(8,.bool y.2.2.2.1),(9,.bool y.2.2.2.2.1)]) (fun y w'=>z0C w g n cap a b d y.1 y.2.1 y.2.2.1 y.2.2.2.2.2 w') (fun y=>y.2.1-y.1) ?hI ?hround)))))))
 case hI=>exact⟨h,Kp.refl _ _,iS,hb,Nat.le_refl _,hl,hB,fun R h1 h2=>⟨h1,h2⟩⟩
 case hround =>
  rintro⟨a1,b1,l1,wb,wp,d1⟩ w4 hI ih;dsimp only at hI;have od:=hI.ab;have fD:=hI.bn;have Gu:=hI.sm;have Es:=hI.lim;have um:=hI.arr.size
  try dsimp only
  refine KB (qN rfl (An rfl (An rfl (qV (M8 rfl rfl (by omega)) (KE rfl (py (run_seq (qN rfl ?_))))))));rw[show(b1:Int)-(a1:Int)=((b1-a1:Nat):Int) by omega];refine An rfl (qV (Qh rfl rfl) (py (KQ rfl (fun h0=>?_) (fun h0=>?_))))
  ·obtain⟨r1,r2⟩:=insertionSort_holds Sm d1 a1 b1 od (by omega);obtain⟨q1,q2⟩:=hI.fin _ r1 r2;refine qN rfl (An rfl (An rfl (An rfl (L2 [.tmp 24,.tmp 25,.tmp 26] z99 rfl (VZ hI.arr a1 b1 od fD (by omega)) ?_))));rintro _ w5 ⟨rfl,aO,aj⟩;refine py (KG Tryz.func213 rfl ?_);exact⟨_,rfl,rfl,_,aO,q1,q2,hI.kp.trans aj⟩
  ·refine It (run_seq (qN rfl (An rfl (qV (Mc rfl rfl) (py (KQ rfl (fun h1 => ?_) (fun h1 => ?_)))))))
   ·obtain⟨r1,r2⟩:=heapSort_holds Sm d1 a1 b1 od (by omega);obtain⟨q1,q2⟩:=hI.fin _ r1 r2;refine qN rfl (An rfl (An rfl (An rfl (L2 [.tmp 30,.tmp 31,.tmp 32] z9w rfl (z4p hI.arr a1 b1 (by omega) fD (by omega)) ?_))));rintro _ w5 ⟨rfl,aO,aj⟩;refine py (KG Tryz.func213 rfl ?_);exact⟨_,rfl,rfl,_,aO,q1,q2,hI.kp.trans aj⟩
   ·refine It (run_seq (qN rfl (An rfl (qV ((by first | exact LP rfl | exact Nq rfl)) ?_)))); refine py (Lp (fun e' w' => ∃ l5 d5, e' = [(0, .slice (some ⟨g, 0, none⟩) n cap), (1, I (a1 : Int)), (2, I (b1 : Int)), (3, I ((l5 : Nat) : Int)), (8, .bool wb), (9, .bool wp), (10, I ((b1 - a1 : Nat) : Int))] ∧ z0C w g n cap a b d a1 b1 l5 d5 w') ?ep (fun ep => ?fh))
    case ep =>
     rintro e' w5 ⟨l5,d5,rfl,jq⟩;have pH:=jq.lim;have Av:=jq.arr.size;have Gv:g<w5.heap.size:=jq.arr.sl.lt rfl;refine qN rfl (An rfl (An rfl (An rfl (L2 [.tmp 43,.tmp 44,.tmp 45] z9F rfl (z3m jq.arr a1 b1 (by omega) fD hn) ?_))));rintro _ w6 ⟨p6,t6,rfl,Gw,ri,tq,oa,aK⟩;have oe:=jq.perm oa aK.kp (permIn_refl _ _ _) pH;refine An rfl (qV (Ll rfl rfl) (qV (Ll rfl rfl) (KE rfl (KE rfl (py (run_seq (qN rfl (An rfl (qV (Mc rfl rfl) (py (Lp (fun e' w'=>∃d7 p7 t7,e'=[(0,.slice (some ⟨g,0,none⟩) n cap),(1,I (a1:Int)),(2,I (b1:Int)),(3,I (l5:Int)),(8,.bool wb),(9,.bool wp),(10,I ((b1-a1:Nat):Int)),(11,I ((p7:Nat):Int)),(12,I ((t7:Nat):Int))]∧z0C w g n cap a b d a1 b1 l5 d7 w'∧a1≤p7∧p7<b1) ?aq (fun aq=>?dD))))))))))))
     case aq =>
      rintro e' w7 ⟨d7,p7,t7,rfl,j0,yn,og⟩;have Gx:=j0.arr.size;refine run_seq (run_seq (Lp (fun e' w'=>∃s,e'=[(0,.slice (some ⟨g,0,none⟩) n cap),(1,I (a1:Int)),(2,I (b1:Int)),(3,I (l5:Int)),(8,.bool wb),(9,.bool wp),(10,I ((b1-a1:Nat):Int)),(11,I (p7:Int)),(68,.bool s)]∧w'=w7) ?ii (fun ii=>?mj)))
      case ii=>
       rintro e' w8 ⟨s,rfl,rfl⟩;refine Lp (fun e' w'=>e'=[(0,.slice (some ⟨g,0,none⟩) n cap),(1,I (a1:Int)),(2,I (b1:Int)),(3,I (l5:Int)),(8,.bool wb),(9,.bool wp),(10,I ((b1-a1:Nat):Int)),(11,I (p7:Int))]∧z0C w g n cap a b d a1 b1 l5 d7 w') ?oh (fun oh=>?rl)
       case oh=>
        rintro e' w9 ⟨rfl,j3⟩;have pI:=j3.arr;have hg:=Ext.L4 w9;refine run_seq (run_seq (Lp (fun e' w'=>∃s,e'=[(0,.slice (some ⟨g,0,none⟩) n cap),(1,I (a1:Int)),(2,I (b1:Int)),(3,I (l5:Int)),(8,.bool wb),(9,.bool wp),(10,I ((b1-a1:Nat):Int)),(11,I (p7:Int)),(87,.bool s)]∧w'=w9.drew∧(s=true→0<a1∧M4 d7[a1-1]! d7[p7]! =false)) ?qG (fun qG=>?qH)))
        case qG=>
         rintro e' w10 ⟨s,rfl,rfl,hs⟩;have kE:=pI.ext hg;have au:Kp (fun k=>k=g) w w9.drew:=j3.kp.trans hg.kp;refine LF rfl (fun h6=>?_) (fun h6=>?_)
         ·obtain⟨Gy,jr⟩:=hs h6;obtain⟨mid,d11,hx⟩:∃m e,partitionEqual M4 d7 a1 b1 p7=(m,e):=⟨_,_,rfl⟩;have Aw:=z6N kE a1 b1 p7 yn og fD (by omega);rw[hx] at Aw;dsimp only at Aw;obtain⟨e1,e2,e3,e4,e5⟩:=round_eq Sm (partitionEqual_holds _) Gy yn og (by omega) j3.bel jr hx;refine qN rfl (An rfl (An rfl (An rfl (An rfl (L2 [.tmp 88,.tmp 89,.tmp 90,.tmp 91] zbm rfl (Aw) ?_)))));rintro _ w11 ⟨rfl,ol,aM⟩;refine KE rfl (qM rfl (An rfl (KE rfl (py (KO rfl ?_)))));exact(ih (mid,b1,l5,wb,wp,d11) _ ⟨ol,au.trans aM,e2,fD,by dsimp only;omega,j3.lim,e4,fun R r1 r2=>j3.fin R (e5 R r1 r2).1 (e5 R r1 r2).2⟩ (by dsimp only;omega)).qb
         ·obtain⟨mid,ap,d11,hx⟩:∃m q e,partition M4 d7 a1 b1 p7=(m,q,e):=⟨_,_,_,rfl⟩;have rj:=z4D kE a1 b1 p7 yn og fD (by omega);rw[hx] at rj;dsimp only at rj;obtain⟨e1,e2,e3,e4,e5,e6,e7⟩:=round_part Sm (partition_holds _) yn og (by omega) j3.bel hx;refine It (qN rfl (An rfl (An rfl (An rfl (An rfl (L2 [.tmp 95,.tmp 96,.tmp 97,.tmp 98] z9d rfl (rj) ?_))))));rintro _ w11 ⟨rfl,ol,aM⟩;refine An rfl (qV (Ll rfl rfl) (qV (Ll rfl rfl) (KE rfl (KE rfl (qM rfl (An rfl (KE rfl (qM rfl (An rfl (An rfl (qV (M8 rfl rfl (by omega)) (An rfl (An rfl ?_)))))))))))));refine qV (M8 rfl rfl (by omega)) (KE rfl (KE rfl (qM rfl ?_)));rw[show(mid:Int)-(a1:Int)=((mid-a1:Nat):Int) by omega,show(b1:Int)-(mid:Int)=((b1-mid:Nat):Int) by omega];refine An rfl (qV (Ra rfl rfl (by omega)) (KE rfl (qM rfl (An rfl (An rfl (qV (LW rfl rfl) (py (KQ rfl (fun h7=>?_) (fun h7=>?_)))))))))
          ·refine qN rfl (An rfl (An rfl (qV (OL rfl rfl) (KE rfl (qM rfl (An rfl (An rfl (An rfl (An rfl (L2 [.tmp 117,.tmp 118,.tmp 119,.tmp 120] z5j rfl (eD _ _ ol a1 mid l5 (by omega) e1 (by omega) j3.lim e4) ?_))))))))));rintro _ w12 ⟨rfl,d12,rk,kF,gh,aU⟩;obtain⟨f1,f2⟩:=e6 _ kF gh;refine py (KF rfl (An rfl (Lz rfl rfl (KE rfl (py (KC ?_))))));exact(ih (mid+1,b1,l5,decide (((b1-a1:Nat):Int) / 8≤((mid-a1:Nat):Int)),ap,d12) _ ⟨rk,(au.trans aM).trans aU,by dsimp only;omega,fD,by dsimp only;omega,j3.lim,f1,fun R r1 r2=>j3.fin R (f2 R r1 r2).1 (f2 R r1 r2).2⟩ (by dsimp only;omega)).qb
          ·refine qN rfl (An rfl (An rfl (qV (OL rfl rfl) (KE rfl (qM rfl (An rfl (An rfl (Lz rfl rfl (An rfl (An rfl ?_))))))))));rw[show(mid:Int)+1=((mid+1:Nat):Int) by omega];refine L2 [.tmp 127,.tmp 129,.tmp 130,.tmp 131] z5j rfl (eD _ _ ol (mid+1) b1 l5 (by omega) (by omega) fD j3.lim e5) ?_;rintro _ w12 ⟨rfl,d12,rk,kF,gh,aU⟩;obtain⟨f1,f2⟩:=e7 _ kF gh;refine py (KF rfl (An rfl (KE rfl (py (KC ?_)))));exact(ih (a1,mid,l5,decide (((b1-a1:Nat):Int) / 8≤((b1-mid:Nat):Int)),ap,d12) _ ⟨rk,(au.trans aM).trans aU,e1,by dsimp only;omega,by dsimp only;omega,j3.lim,f1,fun R r1 r2=>j3.fin R (f2 R r1 r2).1 (f2 R r1 r2).2⟩ (by dsimp only;omega)).qb
        case qH=>
         rcases Nat.eq_zero_or_pos a1 with hj|hj
         ·refine KN (fun w'=>Ext w9 w') (by kernel_rfl) rfl (KH 0 rfl (KM rfl) hg (KH 1 rfl (LH rfl rfl) hg (Pw (KH 2 rfl (KM rfl) hg (qJ 3 rfl (hg) (qJ 4 rfl (hg) (qJ 5 rfl (hg) (qJ 6 rfl (hg) (qJ 7 rfl (hg) (qJ 8 rfl (hg) (qJ 9 rfl (hg) (qJ 10 rfl (hg) (qJ 11 rfl (hg) ?_)))))))))))));refine qJ 12 rfl (hg) (qJ 13 rfl (hg) (KH 14 rfl (Lk rfl rfl) hg (qE ?_)));exact(qG _ _ ⟨false,rfl,rfl,fun e=>by cases e⟩).qb
         ·refine KN (fun w'=>Ext w9 w') (by kernel_rfl) rfl (KH 0 rfl (KM rfl) hg (KH 1 rfl (LH rfl rfl) hg (Pf (KH 2 rfl (KM rfl) hg (KH 3 rfl (KM rfl) hg (KH 4 rfl (KM rfl) hg (KH 5 rfl (M8 rfl rfl (by omega)) hg (KH 8 rfl (KM rfl) hg (KH 9 rfl (KM rfl) hg (KH 10 rfl (Lt L9 KY rfl rfl (by omega)) hg ?_))))))))));rw[show(a1:Int)-1=((a1-1:Nat):Int) by omega];refine KH 6 rfl (Lt L9 KY rfl rfl (by omega)) hg (qT 7 rfl (fun _ h=>Lb Mg rfl rfl ((pI.ext h).get (i:=a1-1) (by omega))) hg (qT 11 rfl (fun _ h=>Lb Mg rfl rfl ((pI.ext h).get (i:=p7) (by omega))) hg (OJ 12 [.tmp 80,.tmp 84] rfl Qs rfl (MY _ _ _) ?_)));rintro _ w10 ⟨rfl,rfl⟩;refine⟨hg,?_⟩;refine KH 13 rfl ((by first|exact LP rfl|exact Nq rfl)) hg ?_;refine KH 14 rfl (LK rfl rfl) hg (qE ?_);exact(qG _ _ ⟨decide (¬d7[a1-1]!<d7[p7]!),rfl,rfl,fun e=>⟨hj,by simpa[M4] using e⟩⟩).qb
       case rl=>
        refine LF rfl (fun h4=>?_) (fun h4=>?_)
        ·obtain⟨r1,r2⟩:=partialInsertionSort_holds Sm d7 a1 b1 (by omega) (by omega) j0.bel;refine qN rfl (An rfl (An rfl (An rfl (L2 [.tmp 69,.tmp 70,.tmp 71] zad rfl (z4W j0.arr a1 b1 (by omega) fD hn) ?_))));rintro _ w9 ⟨rfl,pI,aJ⟩;refine py (LF rfl (fun h5=>?_) (fun h5=>?_))
         ·have r3:=r2 h5;rw[z1K d7 a1 b1 (by omega)] at r3;dsimp only at r3;obtain⟨q1,q2⟩:=j0.fin _ (permIn_refl _ _ _) r3;refine KG Tryz.func213 rfl ?_;exact⟨_,rfl,rfl,d7,pI,q1,q2,j0.kp.trans aJ⟩
         ·refine It ?_;exact(oh _ _ ⟨rfl,j0.perm pI aJ (permIn_refl _ _ _) j0.lim⟩).qb
        ·refine It ?_;exact(oh _ _ ⟨rfl,j0⟩).qb
      case mj =>
       cases wb with
       | false =>
         refine KF rfl (An rfl (An rfl (qS (qV (Lk rfl rfl) (An rfl (qS (qS (qV (Lk rfl rfl) (py ?_)))))))))
         exact(ii _ _ ⟨false,rfl,rfl⟩).qb
       | true =>
         cases wp with
         | false =>
           refine KF rfl (An rfl (An rfl (An rfl (qV (LK rfl rfl) (An rfl (qS (qS (qV (Lk rfl rfl) (py ?_)))))))))
           exact(ii _ _ ⟨false,rfl,rfl⟩).qb
         | true =>
           refine KF rfl (An rfl (An rfl (An rfl (qV (LK rfl rfl) (An rfl (An rfl (qV (Mc rfl rfl) (qV (LK rfl rfl) (py ?_)))))))));exact(ii _ _ ⟨decide ((t7:Int)=1),rfl,rfl⟩).qb
     case dD=>
      refine KQ rfl (fun h3=>?_) (fun h3=>?_)
      ·refine qN rfl (An rfl (An rfl (An rfl (L2 [.tmp 51,.tmp 52,.tmp 53] zbE rfl (Yq oa a1 b1 (by omega) fD (by omega)) ?_))));rintro _ w7 ⟨rfl,yo,aA⟩;refine qM rfl (An rfl (qV (M8 rfl rfl (by omega)) (An rfl (An rfl (qV (M8 rfl rfl (by omega)) (qV (M8 rfl rfl (by omega)) (KE rfl (py (KF rfl (KE rfl (py ?_)))))))))));rw[show(b1:Int)-1-((p6:Int)-(a1:Int))=((b1-1-(p6-a1):Nat):Int) by omega];exact(aq _ _ ⟨reverseRange d5 a1 b1,b1-1-(p6-a1),1,rfl,oe.perm yo aA (reverseRange_holds _ _ _ od (by omega)) pH,by omega,by omega⟩).qb
      ·refine It ?_;exact(aq _ _ ⟨d5,p6,t6,rfl,oe,Gw,ri⟩).qb
    case fh=>
     refine LF rfl (fun h2=>?_) (fun h2=>?_)
     ·refine qN rfl (An rfl (An rfl (An rfl (L2 [.tmp 36,.tmp 37,.tmp 38] z9z rfl (z54 hI.arr a1 b1 (by omega) fD hn) ?_))));rintro _ w5 ⟨rfl,d5,gB,aO,aj⟩;refine py (KF rfl (An rfl (qV (M8 rfl rfl (by omega)) (KE rfl (py ?_)))));rw[show(l1:Int)-1=((l1-1:Nat):Int) by omega];exact(ep _ _ ⟨l1-1,d5,rfl,hI.perm aO aj gB (by omega)⟩).qb
     ·refine It ?_;exact(ep _ _ ⟨l1,d1,rfl,hI⟩).qb
theorem z1l (g n cap:Nat)(hn:n<50):∀m,z78 g n cap m
 |0=>fun w d h a b limit hm=>absurd hm (Nat.not_lt_zero _)
 |m+1=>fun w d h a b limit hm iS hb hl hB=>z4a (z1l g n cap hn m) h a b limit (by omega) iS hb hn hl hB
open Go.Sort in
theorem z2d {w:World}{v:Value}{l:List Nat}(hS:Sl w v 46 1 l.length (l.map Lg))(bE:l≠[])(hl:l.length<50):
  Le Tryz.prog 194 [v] w fun u w'=>u= .tuple #[]∧Kp (fun k=>v.ownBlock=some k) w w'∧∃l':List Nat,l'.Perm l∧l'.Pairwise (·≤·)∧Sl w' v 46 1 l'.length (l'.map Lg):=by
 obtain⟨g,cap,rfl⟩:∃g c,v= .slice (some ⟨g,0,none⟩) l.length c:=by
  rcases hS.shape with⟨-,h0⟩|⟨g,c,e,hc⟩
  ·exact absurd (List.eq_nil_of_length_eq_zero (by omega)) bE
  ·exact⟨g,c,e⟩
 have hA:Ns w g l.length cap l.toArray:=⟨by simpa using hS,by simp⟩
 have aD:Lr l.length≤6:=Mj (by omega)
 refine KA (e:=[(0,_)]) Tryz.func194 rfl Tryz.ntmps194 rfl rfl (qN rfl (An rfl (qV (LG L9 rfl) (KE rfl (py (KF rfl (An rfl (An rfl (An rfl (qV ((by first|exact Lw rfl U3 z4O (by omega)|exact MI rfl U3 z4O)) ?_))))))))))
 refine L2 [.tmp 8] z7b rfl (z1X l.length (by omega) w) ?_
 rintro _ w ⟨rfl,rfl⟩
 refine L2 [.tmp 5,.const (Value.int .i64 0),.tmp 6,.tmp 9] z5j rfl (z1l g l.length cap hl (l.length+1) w l.toArray hA 0 l.length (Lr l.length) (by omega) (by omega) (Nat.le_refl _) (by omega) (.inl rfl)) ?_
 rintro _ w1 ⟨rfl,d',jV,hP,hO,hk⟩
 refine py (LZ Tryz.func194 rfl ?_)
 have cn:=jV.size
 have iy:d'.toList.Perm l:=by
  have:=hP.2.2;rw[Array.toList_extract,Array.toList_extract] at this;have h1:(d'.toList.take l.length).Perm (l.take l.length):=by simpa using this
  rwa [List.take_of_length_le (by rw[Array.length_toList,cn];exact Nat.le_refl _),List.take_length] at h1
 refine⟨_,rfl,rfl,hk.KT (fun k e=>by rw[e];rfl),d'.toList,iy,?_,?_⟩
 ·rw[List.pairwise_iff_getElem];intro i j hi hj gH;rw[Array.length_toList] at hi hj;have:=hO i j (Nat.zero_le _) gH (by omega);rw[getElem!_pos d' i (by omega),getElem!_pos d' j (by omega)] at this;simp only[M4,decide_eq_false_iff_not] at this;rw[Array.getElem_toList,Array.getElem_toList];omega
 ·have e:d'.toList.length=l.length:=by rw[Array.length_toList,cn]
  rw[e];exact jV.sl
structure NuI (w w1:World)(p:MX)(b5 n11:Nat)(L:List (Cd×Nat))(w':World):Prop where
 ex:∃F,Zm w' n11 L F∧∀k,F k→w1.heap.size≤k
 ext:Ext w w'
 b5:KP w' b5 (Um p) 245
 siz:w1.heap.size≤w'.heap.size
theorem NuI.put {w w1 w2 w3:World}{p:MX}{b5 n11:Nat}{L L':List (Cd×Nat)}{F:Nat→Prop}(h:NuI w w1 p b5 n11 L w2)(hf:∀k,F k→w1.heap.size≤k)(gI:b5<w1.heap.size)(Et:w.heap.size≤w1.heap.size)
  (g:∃F',Zm w3 n11 L' F'∧Kp F w2 w3∧∀k,F' k→F k∨w2.heap.size≤k):NuI w w1 p b5 n11 L' w3:=by
 obtain⟨F',g1,g2,g3⟩:=g
 have hs:=h.siz
 refine⟨⟨F',g1,fun k hk=>?_⟩,h.ext.Kz g2 (fun k hk=>by have:=hf k hk;omega),g2.KD h.b5 (fun e=>by have:=hf b5 e;omega),by have:=g2.size;omega⟩
 rcases g3 k hk with e| e
 ·exact hf k e
 ·omega
structure VY (w w1 w2:World)(p:MX)(b5 n11:Nat)(X:Nat→Prop)(L:List (Cd×Nat))(w3:World):Prop where
 ex:∃F,Zm w3 n11 L F∧(∀k,F k→w1.heap.size≤k)∧∀k,F k→¬X k
 ext:Ext w w3
 b5:KP w3 b5 (Um p) 245
 siz:w1.heap.size≤w3.heap.size
 kx:Kp (fun k=>¬X k) w2 w3
theorem VY.put {w w1 w2 w3 w4:World}{p:MX}{b5 n11:Nat}{X:Nat→Prop}{L L':List (Cd×Nat)}{F:Nat→Prop}(h:VY w w1 w2 p b5 n11 X L w3)(hX:∀k,X k→k<w2.heap.size)(hf:∀k,F k→w1.heap.size≤k)(hx:∀k,F k→¬X k)(gI:b5<w1.heap.size)(Et:w.heap.size≤w1.heap.size)
  (g:∃F',Zm w4 n11 L' F'∧Kp F w3 w4∧∀k,F' k→F k∨w3.heap.size≤k):VY w w1 w2 p b5 n11 X L' w4:=by
 obtain⟨F',g1,g2,g3⟩:=g
 have hs:=h.siz
 have hz:=h.kx.size
 refine⟨⟨F',g1,fun k hk=>?_,fun k hk fW=>?_⟩,h.ext.Kz g2 (fun k hk=>by have:=hf k hk;omega),g2.KD h.b5 (fun e=>by have:=hf b5 e;omega),by have:=g2.size;omega,h.kx.trans (g2.KT hx)⟩
 ·rcases g3 k hk with e| e
  ·exact hf k e
  ·omega
 ·rcases g3 k hk with e| e
  ·exact hx k e fW
  ·have:=hX k fW;omega
theorem NQ:∀(l:List Nat) (k:Nat),(runNums k l).length=l.length
 |[],_=>rfl
 |_::l,k=>by rw[runNums,List.length_cons,List.length_cons,NQ l]
theorem Sv:∀(l:List Nat) (k n:Nat),runNums k (l++[n])=runNums k l++[(.gamma,n-min (k+l.length) 1)]
 |[],k,n=>rfl
 | m :: l, k, n => by
   rw[List.cons_append,runNums,Sv l (k+1) n,runNums,List.cons_append,List.length_cons,show k+1+l.length=k+(l.length+1) by omega]
theorem VI:∀{l:List Nat},(∀n∈l,1≤n)→l.length≤l.sum
 |[],_=>Nat.le_refl _
 | x :: l, h => by
   have h1:=h x List.mem_cons_self;have h2:=VI (fun n hn=>h n (List.mem_cons_of_mem x hn));rw[List.length_cons,List.sum_cons];omega
theorem Og.Vy {rs:List Nat}{fs:List Bool}(h:Og rs fs):rs.length≤fs.length+1:=by
 have e:=NC true rs
 rw[h.exp] at e
 cases rs with
 |nil=>simp
 | cons a tl =>
   have h1:=VI (l:=tl) (fun n hn=>h.pos n hn);rw[List.sum_cons] at e;rw[List.length_cons];omega
theorem RY:∀l:List Nat,(rowsN 0 l).1=[]
 |[]=>by rw[rowsN]
 | x :: l => by
   rw[rowsN,if_neg (by omega)];exact RY (l.drop (runLen x l))
 termination_by l=>l.length
 decreasing_by simp[List.length_drop];omega
def SL (l:List (Nat×Nat)):Option Nat:=l.getLast?.map fun p=>p.1+p.2-1
theorem SU (x least:Nat):∀(l:List (Nat×Nat)) (e:Option Nat) (p:Nat×Nat),longNums x least e (l++[p])=longNums x least e l++longNums x least (match l with|[]=>e|_=>SL l) [p]
 |[],e,p=>by cases e<;>rfl
 | q :: l, e, p => by
   rw[List.cons_append,MG,MG,SU x least l _ p]
   cases l with
   |nil=>rfl
   |cons q2 l=>rfl
theorem Wk (x least:Nat)(l:List (Nat×Nat))(p:Nat×Nat):longNums x least none (l++[p])=longNums x least none l++[(.gamma,Pl x (SL l) p.1),(.gamma,p.2-least)]:=by
 rw[SU]
 cases l with
 |nil=>rfl
 |cons q l=>rw[MG x least (match q::l with|[]=>none|_=>SL (q::l))];rfl
theorem z42 {w : World}{b off n cap i : Nat}{R : List (Nat × Nat)}{q : Nat × Nat}(h : Rd w (.slice (some ⟨b, off, none⟩) n cap) 2 n (R.flatMap Wj))(hq : R[i]? = some q) : ∀ j u, [I (q.1 : Int), I (q.2 : Int)][j]? = some u → w.cell? ⟨b, off + i * 2 + j, none⟩ = some u := by
 intro j u hj
 have hi:=(List.getElem?_eq_some_iff.1 hq).1
 rcases h.2 with⟨c,hc,h0⟩|⟨b',off',cap',e,hc⟩
 ·have:=h.1;rw[z2C] at this;omega
 ·cases e
  have jW:(R.flatMap Wj)[i*2+j]? =some u:=by
   have jT:j<2:=(List.getElem?_eq_some_iff.1 hj).1
   have key : ∀ (R : List (Nat × Nat)) (i : Nat), R[i]? = some q → (R.flatMap Wj)[i * 2 + j]? = some u := by
    intro R
    induction R with
    |nil=>intro i h;simp at h
    | cons a R ih =>
      intro i h;rw[List.flatMap_cons]
      cases i with
      | zero =>
        rw[List.getElem?_cons_zero] at h;cases h;rw[List.getElem?_append_left (by show _<2;omega),Nat.zero_mul,Nat.zero_add]
        exact hj
      | succ i =>
        rw[List.getElem?_append_right (by show 2≤_;omega),show(i+1)*2+j-(Wj a).length=i*2+j by show(i+1)*2+j-2=_;omega];exact ih i h
   exact key R i hq
  have:=hc (i*2+j) u jW;rw[show off+i*2+j=off+(i*2+j) by omega];exact this
theorem VY.ex2 {w w1 w2 w3 w4:World}{p:MX}{b5 n11:Nat}{X:Nat→Prop}{L:List (Cd×Nat)}(h:VY w w1 w2 p b5 n11 X L w3)(hx:Ext w3 w4):VY w w1 w2 p b5 n11 X L w4:=by
 obtain⟨⟨F,h1,h2,h3⟩,h4,h5,h6,h7⟩:=h
 exact⟨⟨F,h1.ext hx,h2,h3⟩,h4.trans hx,hx.KD h5,by have:=hx.size;omega,h7.trans hx.kp⟩
theorem VY.back {w w1 w2 w3 w4:World}{p:MX}{b5 n11:Nat}{X X':Nat→Prop}{L L':List (Cd×Nat)}(h:VY w w1 w2 p b5 n11 X L w3)(h':VY w w1 w3 p b5 n11 X' L' w4)(hX:∀k,X k→X' k):VY w w1 w2 p b5 n11 X L' w4:=by
 obtain⟨⟨F,h1,h2,h3⟩,h4,h5,h6,h7⟩:=h'
 exact⟨⟨F,h1,h2,fun k hk hx=>h3 k hk (hX k hx)⟩,h4,h5,h6,h.kx.trans (h7.KT fun k hk hx=>hk (hX k hx))⟩
theorem VY.again {w w1 w2 w3:World}{p:MX}{b5 n11:Nat}{X X':Nat→Prop}{L:List (Cd×Nat)}{F:Nat→Prop}(h:VY w w1 w2 p b5 n11 X L w3)(hA:Zm w3 n11 L F)(hf:∀k,F k→w1.heap.size≤k)(hx:∀k,F k→¬X' k):VY w w1 w3 p b5 n11 X' L w3:=
 ⟨⟨F,hA,hf,hx⟩,h.ext,h.b5,h.siz,Kp.refl _ _⟩
theorem Nk (x least:Nat):∀(l:List (Nat×Nat)) (e:Option Nat),(longNums x least e l).length=2*l.length
 |[],e=>by cases e<;>rfl
 |q::l,e=>by rw[MG,List.length_cons,List.length_cons,Nk x least l,List.length_cons];omega
theorem TL {least:Nat}:∀(R:List (Nat×Nat)) (lo i:Nat) (q:Nat×Nat),NI least lo R→R[i]? =some q→1≤q.2∧least≤q.2∧(∀z,SL (R.take i)=some z→z+2≤q.1)∧(SL (R.take i)=none→lo≤q.1)
 |[],lo,i,q,h,hq=>by simp at hq
 | p :: R, lo, 0, q, h, hq => by
   rw[List.getElem?_cons_zero] at hq;cases hq
   exact⟨h.2.1,h.2.2.1,(fun z hz=>by cases hz),fun _=>h.1⟩
 | p :: R, lo, i + 1, q, h, hq => by
   rw[List.getElem?_cons_succ] at hq;obtain⟨h1,h2,h3,h4⟩:=TL R _ i q h.2.2.2 hq;have hp:1≤p.2:=h.2.1;refine⟨h1,h2,fun z hz=>?_,fun hz=>?_⟩
   ·rw[List.take_succ_cons] at hz
    cases hR:R.take i with
    | nil =>
      rw[hR] at hz;have e:p.1+p.2-1=z:=MA hz;have:=h4 (by rw[hR];rfl)
      omega
    | cons a l =>
      rw[hR] at hz;exact h3 z (by rw[hR];exact hz)
   ·rw[List.take_succ_cons] at hz;exfalso;unfold SL at hz;rw[Option.map_eq_none_iff,List.getLast?_eq_none_iff] at hz;cases hz
theorem z2s (l:List (Nat×Nat))(q:Nat×Nat):SL (l++[q])=some (q.1+q.2-1):=by simp[SL]
theorem z4N {least:Nat}{l:List Nat}{q:Nat×Nat}(hl:∀y∈l,y<65536)(hq:q∈(rowsN least l).1)(h1:1≤q.2):q.1+q.2≤65536:=by
 have h2:q.1+(q.2-1)∈Me (rowsN least l).1:=by
  unfold Me;exact List.mem_flatMap.2 ⟨q,hq,List.mem_map.2 ⟨q.2-1,List.mem_range.2 (by omega),rfl⟩⟩
 have:=hl _ ((Ot least l).subset (List.mem_append_left _ h2))
 omega
def z4l (x:Nat):Option Nat→Nat→Nat
 |none,v=>XT ((v:Int)-x)
 |some u,v=>v-u-1
theorem NB (x k:Nat)(e:Option Nat)(v:Nat)(r:List Nat):restNums x k e (v::r)=(.zeta k,z4l x e v)::restNums x k (some v) r:=by
 cases e<;>rfl
theorem T2 (x k:Nat):∀(l:List Nat) (e:Option Nat) (v:Nat),restNums x k e (l++[v])=restNums x k e l++restNums x k (match l with|[]=>e|_=>l.getLast?) [v]
 |[],e,v=>by cases e<;>rfl
 | u :: l, e, v => by
   rw[List.cons_append,NB,NB,T2 x k l _ v]
   cases l with
   |nil=>rfl
   |cons u2 l=>rfl
theorem RT (x k:Nat)(l:List Nat)(v:Nat):restNums x k none (l++[v])=restNums x k none l++[(.zeta k,z4l x l.getLast? v)]:=by
 rw[T2]
 cases l with
 |nil=>rfl
 |cons u l=>rw[NB x k (match u::l with|[]=>none|_=>(u::l).getLast?)];cases (u::l).getLast?<;>rfl
theorem NZ (x k:Nat):∀(l:List Nat) (e:Option Nat),(restNums x k e l).length=l.length
 |[],e=>by cases e<;>rfl
 |v::l,e=>by rw[NB,List.length_cons,NZ x k l,List.length_cons]
theorem Ls {α:Type}{l:List α}{i:Nat}{q:α}(h:l[i]? =some q):l.take (i+1)=l.take i++[q]:=by
 rw[List.take_succ,h];rfl
theorem Sr {w : World}(p : MX)(hp : p.LS)(x : Nat)(hx : x < 65536){sa ra : Option Addr}{sc rc : Nat}(succ ref : List Nat)(hs : Lj succ)(hr : Lj ref)(r : Nat)(iz : r ≤ p.L6)(ky : r = 0 → ref = [])
  (hG:KP w 1 (Nu .gamma) 298) (hU:KP w 2 (Nu .unary) 298) (dQ:Rd w (.slice sa succ.length sc) 1 succ.length (succ.map Lg)) (kG:Rd w (.slice ra ref.length rc) 1 ref.length (ref.map Lg)) (fT:succ.length≤sc) (mm:ref.length≤rc):
  Le Tryz.prog 175 [lpV p,I (x:Int),.slice sa succ.length sc,.slice ra ref.length rc,I (r:Int)] w fun u w'=>Sl w' u 300 3 (My p x succ ref r).length ((My p x succ ref r).flatMap z09)∧(∀g,u.ownBlock=some g→w.heap.size≤g)∧Ext w w':=by
 obtain⟨g1,g2,g3,g4⟩:=id hp
 have gl:=hs.len
 have gz:=hr.len
 refine KA (e:=[(0,_),(1,_),(2,_),(3,_),(4,_)]) Tryz.func175 rfl Tryz.ntmps175 rfl rfl (qN rfl (KL rfl rfl (Mz rfl (cs:=Um p) rfl) ?_))
 rintro _ w1 ⟨b5,rfl,gI,ad,aG⟩
 have z1:=ad.size
 have l5:=aG.lt
 refine KE rfl (qM rfl (qV (La (news:=[.int .u8 1,KV 0]) Nb rfl Ma rfl ((ad.KD hG).cells (n:=2) rfl) rfl) (An rfl (qV (LG L9 rfl) (qV ((by first|exact Lw rfl U3 M3 (by omega)|exact MI rfl U3 M3)) ?_)))))
 refine qV (Nc (parts:=[(0,.tmp 25),(1,.tmp 28)]) (cs:=[_,_,_]) PV rfl z7l rfl rfl) (KL rfl rfl (Tb (parts:=[(0,.tmp 29)]) (cs:=[_,_,_]) (zs:=[Value.int .u8 0,Value.int .u64 0,Value.int .u64 0]) Un PV rfl (by kernel_rfl) rfl rfl rfl (by decide)) ?_)
 rintro _ w2 ⟨b2,rfl,⟨bM,af,ak⟩,cH⟩
 have z2:=af.size
 have l2:=ak.lt
 refine KL rfl rfl (MN (cs:=[_]) z4m rfl) ?_
 rintro _ w3 ⟨n11,rfl,iu,ah,aF⟩
 have z3:=ah.size
 refine KR rfl (Mn z4m rfl rfl rfl aF (by simp)) ?_
 rintro w4 ⟨jX,av⟩
 have z4:=av.size
 replace jX:KP w4 n11 [.slice (some ⟨b2,0,none⟩) 1 1] 295:=jX
 have dP:=(cH.ext ah).kp av (fun g hg e=>by have h1:b2=g:=MA hg;omega)
 have tr:NuI w w1 p b5 n11 [(.gamma,succ.length)] w4:=⟨⟨WN n11 (.slice (some ⟨b2,0,none⟩) 1 1),⟨_,⟨jX,dP,fun e=>by have h1:b2=n11:=MA e;omega⟩,fun _=>Iff.rfl⟩,fun k hk=>by
   rcases hk with e| e
   ·omega
   ·have h1:b2=k:=MA e
    omega⟩,((ad.trans af).trans ah).Kz av (fun k e=>by omega),av.KD (ah.KD (af.KD aG)) (by omega),by omega⟩
 refine py (run_seq (qN rfl (An rfl (qV (LG L9 rfl) (qV (Mc rfl rfl) (py (KQ rfl (fun e0=>?_) (fun e0=>?_))))))))
 ·have ez:succ=[]:=List.eq_nil_of_length_eq_zero (by omega);subst ez;refine qN rfl (qV (KJ Un rfl rfl jX rfl) (KE rfl (py (KG Tryz.func175 rfl ?_))));have jr:My p x [] ref r=[(.gamma,0)]:=by simp[My]
  rw[jr];exact⟨_,rfl,dP,fun g hg=>by have h1:b2=g:=MA hg;omega,tr.ext⟩
 ·have gm := tr.b5; replace gm : KP w4 b5 [I (p.L6 : Int), I (p.interval : Int), I (p.zeta : Int)] 245 := gm; refine It (qN rfl (qV (Zw (first := []) (caps := [.tmp 11]) rfl rfl) (KE rfl (py (run_seq (qN rfl (qV (KK NY rfl) (qV (KJ U3 rfl rfl gm rfl) (qV (LH rfl rfl) (py (Lp (fun e' w' => e' = [(1, I (x : Int)), (2, .slice sa succ.length sc), (3, .slice ra ref.length rc), (4, I (r : Int)), (5, ptr b5 0), (11, ptr n11 0), (12, .func (.func 195) #[] #[ptr n11 0])] ∧ NuI w w1 p b5 n11 ([(.gamma, succ.length)] ++ (if 0 < p.L6 then [(.unary, r)] else [])) w') ?cD (fun cD => ?cQ))))))))))))
  case cD =>
   rintro e' w5 ⟨rfl,ro⟩;have Av:=ro.siz;refine qN rfl (KL rfl rfl (Tb (parts:=[(0,.const (Value.int .i64 0))]) (cs:=[_]) (zs:=[Value.int .i64 0]) Mu LC rfl (by kernel_rfl) rfl rfl rfl (by decide)) ?_);rintro _ w6 ⟨b43,rfl,⟨Ax,aK,dy⟩,mn⟩;have l6:=dy.lt;refine KL rfl rfl (MN (cs:=[_]) ZI rfl) ?_;rintro _ w7 ⟨rn,rfl,Gz,bL,un⟩;have l7:=un.lt;have z7:=bL.size;refine KL rfl rfl (MN (cs:=[_]) OC rfl) ?_;rintro _ w8 ⟨lf,rfl,GA,cE,uo⟩;have l8:=uo.lt;have z8:=cE.size;refine KR rfl (Mn ZI rfl rfl rfl (cE.KD un) (by simp)) ?_;rintro w9 ⟨mq,aJ⟩;have z9:=aJ.size;replace mq:KP w9 rn [.slice (some ⟨b43,0,none⟩) 1 1] 51:=mq;refine KR rfl (Mn OC rfl rfl rfl (aJ.KD uo (by omega)) (by simp)) ?_;rintro w10 ⟨js,au⟩;have z10:=au.size;replace js:KP w10 lf [.slice none 0 0] 45:=js;have fE:Ext w5 w10:=(((aK.trans bL).trans cE).Kz aJ (fun k e=>by omega)).Kz au (fun k e=>by omega)
   have oo:NuI w w1 p b5 n11 ([(.gamma,succ.length)]++(if 0<p.L6 then [(.unary,r)] else [])) w10:=by
    obtain⟨⟨F,h1,h2⟩,h3,h4,h5⟩:=ro;exact⟨⟨F,h1.ext fE,h2⟩,h3.trans fE,fE.KD h4,by have:=fE.size;omega⟩
   have bV:=(((mn.ext bL).ext cE).kp aJ (fun g hg e=>by have h1:b43=g:=MA hg;omega)).kp au (fun g hg e=>by have h1:b43=g:=MA hg;omega);have GB:X7 w10 lf [] (WN lf (.slice none 0 0)):=⟨_,⟨js,Sl.nil _ _ _,fun e=>by cases e⟩,fun _=>Iff.rfl⟩;have GC:W4 w10 rn [0] (WN rn (.slice (some ⟨b43,0,none⟩) 1 1)):=⟨_,⟨au.KD mq (by omega),bV,fun e=>by have h1:b43=rn:=MA e;omega⟩,fun _=>Iff.rfl⟩
   have kH:∀k,WN lf (.slice none 0 0) k→k=lf:=fun k hk=>by
    rcases hk with e| e
    ·exact e
    ·cases e
   have lL:∀k,WN rn (.slice (some ⟨b43,0,none⟩) 1 1) k→k=rn∨k=b43:=fun k hk=>by
    rcases hk with e| e
    ·exact .inl e
    ·exact .inr (MA e).symm
   have cw:∀k,WN lf (.slice none 0 0) k∨WN rn (.slice (some ⟨b43,0,none⟩) 1 1) k→w5.heap.size≤k:=fun k hk=>by
    rcases hk with e| e
    ·have:=kH k e;omega
    ·rcases lL k e with e|e<;>omega
   have hE:ON w10 succ ref lf rn (WN lf (.slice none 0 0)) (WN rn (.slice (some ⟨b43,0,none⟩) 1 1)) succ sa sc ref ra rc [] [0] w10:=by
    refine⟨⟨_,_,[],GB,GC,Og.zero,by simpa using gz,by simp;omega,fun k h=> .inl h,fun k h=> .inl h,fun k h1 h2=>?_⟩,fun w2 k=>?_,fun w2 k=>?_,fT,mm,Kp.refl _ _,hs,hr,rfl,rfl,by simpa using gl⟩
    ·have e1:=kH k h1;rcases lL k h2 with e2|e2<;>omega
    ·exact(dQ.ext oo.ext).kpz k (fun h0 g hg hS=>by have e1:=dQ.ltz (by decide) h0 hg;have e2:=cw g hS;omega)
    ·exact(kG.ext oo.ext).kpz k (fun h0 g hg hS=>by have e1:=kG.ltz (by decide) h0 hg;have e2:=cw g hS;omega)
   refine qM rfl (An rfl (An rfl (qV (Zw (first:=[]) (caps:=[.tmp 14,.tmp 13]) rfl rfl) (L2 [.tmp 44,.tmp 45,.tmp 46] zb3 rfl (z50 hE) ?_))));rintro _ w11 ⟨rfl,FL,FR,up,oq,Ay,Az,jQ,aM⟩
   have eE:NuI w w1 p b5 n11 ([(.gamma,succ.length)]++(if 0<p.L6 then [(.unary,r)] else [])) w11:=by
    have aT:Kp (fun k=>WN lf (.slice none 0 0) k∨WN rn (.slice (some ⟨b43,0,none⟩) 1 1) k) w10 w11:=aM;have AA:=ro.ex;obtain⟨⟨F,h1,h2⟩,h3,h4,h5⟩:=oo;obtain⟨F5,h6,h7⟩:=AA;have gI:b5<w5.heap.size:=ro.b5.lt;refine⟨⟨F5,(h6.ext fE).kp aT (fun k hk hS=>by have e1:=h6.lt hk;have e2:=cw k hS;omega),h7⟩,h3.Kz aT (fun k hk=>by have e2:=cw k hk;have:=ro.ext.size;omega),aT.KD h4 (fun hS=>by have e2:=cw b5 hS;omega),by have:=aT.size;omega⟩
   generalize hA:([(Cd.gamma,succ.length)]++(if 0<p.L6 then [(Cd.unary,r)] else []):List (Cd×Nat))=A at eE oo ro
   have JE:A.length≤2:=by rw[←hA];split<;>simp
   have rp:∀k,(FL k∨FR k)→k<w11.heap.size:=fun k hk=>by
    rcases hk with e| e
    ·exact up.lt e
    ·exact oq.lt e
   have ot:VY w w1 w11 p b5 n11 (fun k=>FL k∨FR k) A w11:=by
    obtain⟨F5,h6,h7⟩:=ro.ex;have JF:=fE.size;refine⟨⟨F5,(h6.ext fE).kp aM (fun k hk hS=>by have e1:=h6.lt hk;have e2:=cw k hS;omega),h7,fun k hk hX=>?_⟩,eE.ext,eE.b5,eE.siz,Kp.refl _ _⟩;have e1:=h6.lt hk;rcases hX with e| e
    ·rcases Ay k e with e2|e2
     ·have:=cw k (.inl e2);omega
     ·omega
    ·rcases Az k e with e2|e2
     ·have:=cw k (.inr e2);omega
     ·omega
   refine py (run_seq (qN rfl (An rfl (qV (LH rfl rfl) (py (Lp (fun e' w'=>e'=[(1,I (x:Int)),(5,ptr b5 0),(11,ptr n11 0),(12,.func (.func 195) #[] #[ptr n11 0]),(14,ptr lf 0)]∧VY w w1 w11 p b5 n11 (fun k=>FL k∨FR k) (A++(if 0<r then(.gamma,(Mm succ ref).length-1)::runNums 0 (Mm succ ref).dropLast else [])) w') ?ep (fun ep=>?fh)))))))
   case ep =>
    rintro e' w12 ⟨rfl,fF⟩;have uq:succ≠[]:=fun e=>e0 (by rw[e];rfl)
    generalize hB:(if 0<r then(Cd.gamma,(Mm succ ref).length-1)::runNums 0 (Mm succ ref).dropLast else []:List (Cd×Nat))=B at fF
    have ur:=up.kp fF.kx (fun k hk e=>e (.inl hk));obtain⟨vl,yp,JG⟩:=ur;obtain⟨la,lc,rfl,-⟩:=yp.sl.rd.shape;obtain⟨F,⟨vn,pJ,ut⟩,ou,AB⟩:=id fF.ex;have yr:=yp.KD;have yt:=pJ.KD;refine run_seq (qN rfl (qV ((by first|exact KJ L9 rfl rfl yr rfl|exact KJ L9 rfl rfl yt rfl)) ?_));refine qV (LG L9 rfl) (qV (Mc rfl rfl) (py (KQ rfl (fun e3=>?_) (fun e3=>?_))))
    ·have jh:leftOf succ ref=[]:=List.eq_nil_of_length_eq_zero (by omega)
     have mt:My p x succ ref r=A++B:=by
      unfold My;rw[if_neg uq,if_pos jh,List.append_nil,←hA,←hB];rfl
     refine qN rfl (qV ((by first|exact KJ Un rfl rfl yr rfl|exact KJ Un rfl rfl yt rfl)) ?_);refine KE rfl (py (KG Tryz.func175 rfl ?_));rw[mt];exact⟨_,rfl,pJ.sl,fun g hg=>by have:=ou g ((ut g).2 (.inr hg));omega,fF.ext⟩
    ·have ov := fF.b5; replace ov : KP w12 b5 [I (p.L6 : Int), I (p.interval : Int), I (p.zeta : Int)] 245 := ov; refine It (qN rfl (qV ((by first | exact KJ L9 rfl rfl yr rfl | exact KJ L9 rfl rfl ov rfl)) ?_)); refine qV (KK OW rfl) (qV ((by first | exact KJ U3 rfl rfl yr rfl | exact KJ U3 rfl rfl ov rfl)) ?_); have aw : Lj (leftOf succ ref) := hs.sub List.filter_sublist; have GD := aw.len
     have nP:(leftOf succ ref).length≤lc:=by
      rcases yp.sl.shape with⟨-,h0⟩|⟨g,c1,hv,fm⟩
      ·omega
      ·cases hv;exact fm
     refine L2 [.tmp 80,.tmp 82] zbS rfl (z5o la lc (leftOf succ ref) p.interval aw nP (by omega) w12 yp.sl.rd) ?_;rintro _ w13 ⟨v4,v5,rfl,kI,mu,aX,ox,rq,Eu⟩;have eA:=Pa p.interval (leftOf succ ref);have oy:Lj (rowsN p.interval (leftOf succ ref)).2:=aw.sub eA
     have fW:∀k,(v4.ownBlock=some k∨v5.ownBlock=some k)→w12.heap.size≤k∧k<w13.heap.size:=fun k hk=>by
      rcases hk with e| e
      ·exact⟨ox k e,kI.lt e⟩
      ·exact⟨rq k e,mu.lt e⟩
     have kJ:VY w w1 w13 p b5 n11 (fun k=>v4.ownBlock=some k∨v5.ownBlock=some k) (A++B) w13:=by
      have jf:∀k,F k→k<w12.heap.size:=fun k hk=>by
       rcases (ut k).1 hk with e| e
       ·rw[e];exact pJ.KD.lt
       ·exact pJ.sl.lt e
      have uu:Zm w12 n11 (A++B) F:=⟨vn,pJ,ut⟩;exact⟨⟨F,uu.ext aX,ou,fun k hk hX=>by have e1:=jf k hk;have e2:=(fW k hX).1;omega⟩,fF.ext.trans aX,aX.KD fF.b5,by have e1:=fF.siz;have e2:=aX.size;omega,Kp.refl _ _⟩
     have uv:=aX.KD ov;have GE:=kI.oneV;have GF:=mu.oneV;refine An rfl (qV (Ll rfl rfl) (qV (Ll rfl rfl) (KE rfl (KE rfl (py (run_seq (qN rfl (qV (KK OW rfl) (qV (KJ U3 rfl rfl uv rfl) (qV (LH rfl rfl) (py ?_)))))))))))
     have GG:(A++B).length≤200000:=by
      rw[List.length_append,←hB];split
      ·rw[List.length_cons,NQ,List.length_dropLast];have h1:=(NT succ ref).Vy;rw[List.length_map] at h1;omega
      ·simp;omega
     generalize hQ:rowsN p.interval (leftOf succ ref)=Q at kI mu oy eA
     have JH : Q.1.length ≤ 65536 := by
      have h1:=Ot p.interval (leftOf succ ref);have h2:=h1.length_eq;rw[hQ,List.length_append] at h2
      have h3:∀R:List (Nat×Nat),NI p.interval 0 R→R.length≤(Me R).length:=by
       have h4:∀(R:List (Nat×Nat)) (lo:Nat),NI p.interval lo R→R.length≤(Me R).length:=by
        intro R
        induction R with
        |nil=>intro lo h;exact Nat.le_refl _
        | cons q R ih =>
          intro lo h;have h5:=ih _ h.2.2.2;have h6:1≤q.2:=h.2.1;rw[show Me (q::R)=(List.range q.2).map (q.1+·)++Me R from rfl,List.length_append,List.length_map,List.length_range,List.length_cons];omega
       exact fun R h=>h4 R 0 h
      have h5:=h3 _ (PF p.interval (leftOf succ ref) 0 aw.Vw (fun y _=>Nat.zero_le _));rw[hQ] at h5;omega
     have oz:NI p.interval 0 Q.1:=by have h:=PF p.interval (leftOf succ ref) 0 aw.Vw (fun y _=>Nat.zero_le _);rwa [hQ] at h
     have rt:∀q∈Q.1,1≤q.2→q.1+q.2≤65536:=fun q hq h1=>z4N (least:=p.interval) aw.lt (by rw[hQ];exact hq) h1
     have tt:∃fa fc,v4= .slice fa Q.1.length fc:=by
      obtain⟨fa,fc,e,-⟩:=kI.rd.shape;exact⟨fa,fc,e⟩
     obtain⟨fa,fc,rfl⟩:=tt;refine Lp (fun e' w'=>e'=[(1,I (x:Int)),(5,ptr b5 0),(11,ptr n11 0),(12,.func (.func 195) #[] #[ptr n11 0]),(17,.slice fa Q.1.length fc),(18,v5)]∧VY w w1 w13 p b5 n11 (fun k=>(Value.slice fa Q.1.length fc).ownBlock=some k∨v5.ownBlock=some k) (A++B++if 0<p.interval then [(.gamma,Q.1.length)] else []) w') ?aq (fun aq=>?dD)
     case aq =>
      rintro e' w14 ⟨rfl,uw⟩;refine qN rfl (KE rfl (py (run_seq (qN rfl (An rfl (qV (LG z4S rfl) (An rfl (py (KB ?_)))))))))
      generalize AC:(if 0<p.interval then [(Cd.gamma,Q.1.length)] else []:List (Cd×Nat))=C0 at uw
      refine Nz (fun e' w'=>e'=[(1,I (x:Int)),(5,ptr b5 0),(11,ptr n11 0),(12,.func (.func 195) #[] #[ptr n11 0]),(18,v5)]∧VY w w1 w13 p b5 n11 (fun k=>(Value.slice fa Q.1.length fc).ownBlock=some k∨v5.ownBlock=some k) (A++B++C0++longNums x p.interval none Q.1) w') ?ii (fun ii=>?mj)
      case ii =>
       rintro e' w15 ⟨rfl,eF⟩;obtain⟨F15,fG,kK,iA⟩:=eF.ex;have mv:=eF.b5;replace mv:KP w15 b5 [I (p.L6:Int),I (p.interval:Int),I (p.zeta:Int)] 245:=mv;refine qN rfl (qV (KK Ut rfl) (qV (KJ U3 rfl rfl mv rfl) (qV ((by first|exact Lw rfl U3 M3 (by omega)|exact MI rfl U3 M3)) ?_)));refine qV (Nc (parts:=[(0,.const (Value.int .u8 3)),(1,.tmp 136)]) (cs:=[_,_]) Ma rfl z7C rfl rfl) (KL rfl rfl (MN (cs:=[_,_]) Ma rfl) ?_);rintro _ w16 ⟨b22,rfl,GH,bP,gS⟩;have z16:=bP.size;refine KR rfl (Lo (news:=[.int .u8 3,KV p.zeta]) Ma rfl rfl rfl rfl gS (by simp)) ?_;rintro w17 ⟨jY,dG⟩;replace jY:KP w17 b22 [.int .u8 3,KV p.zeta] 298:=jY;have dg:Ext w15 w17:=bP.Kz dG (fun k e=>by omega);have z17:=dg.size;have cJ:¬F15 b22:=fun e=>by have:=fG.lt e;omega
       have gT:=(mu.kp eF.kx (fun g hg e=>e (.inr hg))).ext dg
       obtain⟨ha,hc,e5⟩:∃a c,v5= .slice a Q.2.length c:=by
        obtain⟨fa,fc,e,-⟩:=mu.rd.shape;exact⟨fa,fc,e⟩
       subst e5;have kL:=(eF.ex2 dg).again (X':=fun k=>(Value.slice ha Q.2.length hc).ownBlock=some k∨k=b22) (fG.ext dg) kK (fun k hk hX=>by rcases hX with hX|e;exact iA k hk (.inr hX);exact cJ (e▸hk));have l22:=jY.lt
       have nQ:∀k,((Value.slice ha Q.2.length hc).ownBlock=some k∨k=b22)→k<w17.heap.size:=fun k hk=>by
        rcases hk with e| e
        ·have:=gT.lt e;omega
        ·omega
       have JI:=oy.len
       have GI:(A++B++C0++longNums x p.interval none Q.1).length≤400000:=by
        rw[List.length_append,List.length_append,Nk,←AC];split<;>simp only[List.length_cons,List.length_nil]<;>omega
       refine py (run_seq (qN rfl (An rfl (qV (LG L9 rfl) (An rfl (py (KB (MQ (α:=Nat) (0) (fun i=>[(1,I (x:Int)),(11,ptr n11 0),(12,.func (.func 195) #[] #[ptr n11 0]),(18,.slice ha Q.2.length hc),(22,ptr b22 0),(138,.slice ha Q.2.length hc),(139,I (Q.2.length:Int)),(140,I (i:Int))]) (fun i w'=>VY w w1 w17 p b5 n11 (fun k=>(Value.slice ha Q.2.length hc).ownBlock=some k∨k=b22) (A++B++C0++longNums x p.interval none Q.1++restNums x p.zeta none (Q.2.take i)) w'∧i≤Q.2.length) (fun i=>Q.2.length-i) ?hI ?hround))))))))
       case hI=>exact⟨by simpa[restNums] using kL,Nat.zero_le _⟩
       case hround=>
        rintro i w18 ⟨eG,hi⟩ ih
        try dsimp only
        refine qN rfl (qV (LW rfl rfl) (py (run_seq (KQ rfl (fun e5=>?_) (fun e5=>?_)))))
        ·have de:i<Q.2.length:=by omega
         obtain⟨v,hv⟩:∃v,Q.2[i]? =some v:=⟨_,List.getElem?_eq_getElem de⟩;have ux:v<65536:=oy.lt v (List.mem_of_getElem? hv);have uy:=gT.kp eG.kx (fun g hg e=>e (.inl hg))
         obtain⟨g5,c5,e6⟩:∃g c,Value.slice ha Q.2.length hc= .slice (some ⟨g,0,none⟩) Q.2.length c:=by
          rcases gT.shape with⟨-,h0⟩|⟨g,c,e,hc⟩
          ·omega
          ·exact⟨g,c,e⟩
         cases e6;obtain⟨F18,jZ,oA,gC⟩:=eG.ex;have jt:=eG.kx.KD jY (fun e=>e (.inr rfl));have pK:¬F18 b22:=fun e=>gC b22 e (.inr rfl);have hg:=Ext.L4 w18;have yu:=eG.ex2 hg
         have oB:(A++B++C0++longNums x p.interval none Q.1++restNums x p.zeta none (Q.2.take i)).length≤500000:=by
          rw[List.length_append,NZ,List.length_take];omega
         refine It (run_seq (KB (qN rfl (An rfl (qV (Lt L9 KY rfl rfl (by omega)) (qV (Lb Mg rfl rfl (LN uy.rd (show(Q.2.map Lg)[i]? =some (Lg v) by rw[List.getElem?_map,hv];rfl))) ?_))))));refine KE rfl (KE rfl (qM rfl (An rfl (qV (Mc rfl rfl) (py (KQ rfl (fun e6=>?_) (fun e6=>?_)))))))
         ·have ju:i=0:=by omega
          refine KN (fun w'=>Kp F18 w18 w') (by kernel_rfl) rfl (KH 0 rfl (KM rfl) (hg.kp) (KH 2 rfl (KM rfl) (hg.kp) (KH 3 rfl (Ln rfl Mg U2 (by omega)) (hg.kp) (KH 4 rfl (KM rfl) (hg.kp) (KH 5 rfl (M8 rfl rfl (by omega)) (hg.kp) (qT 1 rfl (fun _ h=>La (news:=[.int .u8 3,KV p.zeta]) Nb rfl Ma rfl ((h.KD jt pK).cells (n:=2) rfl) rfl) (hg.kp) (OJ 6 [.tmp 152] rfl z7m rfl (z1V ((v:Int)-x) (by omega) _) ?_)))))));rintro _ w19 ⟨rfl,rfl⟩;refine⟨hg.kp,?_⟩;have uz:=TC (z:=(v:Int)-x) (n:=65537) (by omega) (by omega);refine KH 7 rfl (Ln rfl M3 U3 (by omega)) (hg.kp) (qO 8 (QN (i:=8) rfl rfl rfl (N6 (args:=[.tmp 148,.tmp 154]) SS rfl rfl) (NV (jZ.ext hg) (by omega) (.zeta p.zeta) (XT ((v:Int)-x)) (by omega)) ?_));rintro _ w20 ⟨rfl,F20,ru,mw,rv⟩;refine⟨hg.kp.trans mw,?_⟩;have oC:=yu.put nQ oA gC l5 z1 ⟨F20,ru,mw,rv⟩;refine qE (KC (KF rfl (Lz rfl rfl (An rfl (py ((ih (i+1) _ ⟨?_,by omega⟩ (by omega)).qb))))));rw[Ls hv,RT,←List.append_assoc,show Q.2.take i=[] by rw[ju];rfl];rw[show Q.2.take i=[] by rw[ju];rfl] at oC;exact oC
         ·have ju:0<i:=by omega
          obtain⟨u,hu⟩:∃u,Q.2[i-1]? =some u:=⟨_,List.getElem?_eq_getElem (by omega)⟩
          have JJ:u<v:=by
           obtain⟨a1,a2⟩:=List.getElem?_eq_some_iff.1 hu;obtain⟨b1,b2⟩:=List.getElem?_eq_some_iff.1 hv;have:=List.pairwise_iff_getElem.1 oy.Vw (i-1) i a1 b1 (by omega)
           rwa [a2,b2] at this
          refine KN (fun w'=>Kp F18 w18 w') (by kernel_rfl) rfl (KH 0 rfl (KM rfl) (hg.kp) (KH 2 rfl (KM rfl) (hg.kp) (KH 3 rfl (KM rfl) (hg.kp) (KH 4 rfl (KM rfl) (hg.kp) (qT 1 rfl (fun _ h=>La (news:=[.int .u8 3,KV p.zeta]) Nb rfl Ma rfl ((h.KD jt pK).cells (n:=2) rfl) rfl) (hg.kp) (KH 5 rfl (M8 rfl rfl (by omega)) (hg.kp) ?_))))));rw[show(i:Int)-1=((i-1:Nat):Int) by omega];refine KH 6 rfl (Lt L9 KY rfl rfl (by omega)) (hg.kp) (qT 7 rfl (fun _ hS=>Lb Mg rfl rfl (LN (uy.kp hS (fun g hg e=>gC g e (.inl hg))).rd (show(Q.2.map Lg)[i-1]? =some (Lg u) by rw[List.getElem?_map,hu];rfl))) (hg.kp) ?_);refine KH 8 rfl (QV (m:=v) (n:=u) rfl rfl rfl (by show v<2^32;omega) (by omega)) (hg.kp) ?_;refine KH 9 rfl (QV (m:=v-u) (n:=1) rfl rfl rfl (by show v-u<2^32;omega) (by omega)) (hg.kp) ?_;refine KH 10 rfl (Ln rfl Mg U3 (by omega)) (hg.kp) (qO 11 (QN (i:=11) rfl rfl rfl (N6 (args:=[.tmp 157,.tmp 166]) SS rfl rfl) (NV (jZ.ext hg) (by omega) (.zeta p.zeta) (v-u-1) (by omega)) ?_));rintro _ w20 ⟨rfl,F20,ru,mw,rv⟩;refine⟨hg.kp.trans mw,?_⟩;have oC:=yu.put nQ oA gC l5 z1 ⟨F20,ru,mw,rv⟩;refine qE (KC (KF rfl (Lz rfl rfl (An rfl (py ((ih (i+1) _ ⟨?_,by omega⟩ (by omega)).qb))))));rw[Ls hv,RT,←List.append_assoc,List.getLast?_take,if_neg (by omega),hu];exact oC
        ·have cL:i=Q.2.length:=by omega
         rw[cL,List.take_length] at eG;obtain⟨F,⟨vn,pJ,ut⟩,ou,AB⟩:=id eG.ex;have yt:=pJ.KD
         have mt:My p x succ ref r=A++B++C0++longNums x p.interval none Q.1++restNums x p.zeta none Q.2:=by
          have jh:¬leftOf succ ref=[]:=fun e=>e3 (by rw[e];rfl);unfold My;rw[if_neg uq,if_neg jh,hQ,hB,←hA,←AC];by_cases ju:0<p.interval
          ·simp only[if_pos ju,List.append_assoc,List.cons_append,List.nil_append]
          ·have du:Q.1=[]:=by rw[←hQ,show p.interval=0 by omega];exact RY _
           rw[du];simp only[if_neg ju,List.append_assoc,List.cons_append,List.nil_append,longNums]
         refine KO rfl (qN rfl (qV (KJ Un rfl rfl yt rfl) (KE rfl (py (KG Tryz.func175 rfl ?_)))));rw[mt];exact⟨_,rfl,pJ.sl,fun g hg=>by have:=ou g ((ut g).2 (.inr hg));omega,eG.ext⟩
      case mj=>
       refine MQ (α:=Nat) (0) (fun i=>[(1,I (x:Int)),(5,ptr b5 0),(11,ptr n11 0),(12,.func (.func 195) #[] #[ptr n11 0]),(18,v5),(19,I (z0Y (SL (Q.1.take i)))),(94,.slice fa Q.1.length fc),(95,I (Q.1.length:Int)),(96,I (i:Int))]) (fun i w'=>VY w w1 w13 p b5 n11 (fun k=>(Value.slice fa Q.1.length fc).ownBlock=some k∨v5.ownBlock=some k) (A++B++C0++longNums x p.interval none (Q.1.take i)) w'∧i≤Q.1.length) (fun i=>Q.1.length-i) ?hI ?hround
       case hI=>exact⟨by simpa[longNums] using uw,Nat.zero_le _⟩
       case hround =>
        rintro i w15 ⟨eF,hi⟩ ih
        try dsimp only
        refine qN rfl (qV (LW rfl rfl) (py (run_seq (KQ rfl (fun e5=>?_) (fun e5=>?_)))))
        ·have de:i<Q.1.length:=by omega
         obtain⟨⟨q1,q2⟩,hq⟩:∃q,Q.1[i]? =some q:=⟨_,List.getElem?_eq_getElem de⟩;obtain⟨ok1,ok2,ok3,-⟩:=TL Q.1 0 i (q1,q2) oz hq;dsimp only at ok1 ok2 ok3;have JK:q1+q2≤65536:=rt (q1,q2) (List.mem_of_getElem? hq) ok1;have oD:=kI.kp eF.kx (fun g hg e=>e (.inl hg))
         obtain⟨g4,c4,e4⟩:∃g c,Value.slice fa Q.1.length fc= .slice (some ⟨g,0,none⟩) Q.1.length c:=by
          rcases kI.shape with⟨-,h0⟩|⟨g,c,e,hc⟩
          ·omega
          ·exact⟨g,c,e⟩
         cases e4;obtain⟨F15,fG,kK,iA⟩:=eF.ex;refine It (run_seq (KB (qN rfl (qV (Lt z4S Vb rfl rfl (by omega)) (qV (La (news:=[I (q1:Int),I (q2:Int)]) zct rfl Vb rfl (z42 oD.rd hq) rfl) (KL rfl rfl (MN (cs:=[_,_]) Vb rfl) ?_))))));rintro _ w16 ⟨b21,rfl,GJ,bP,AD⟩;have z16:=bP.size;refine KR rfl (Lo (news:=[I (q1:Int),I (q2:Int)]) Vb rfl rfl rfl rfl AD (by simp)) ?_;rintro w17 ⟨fH,dG⟩;replace fH:KP w17 b21 [I (q1:Int),I (q2:Int)] 325:=fH;have dg:Ext w15 w17:=bP.Kz dG (fun k e=>by omega);have kL:=eF.ex2 dg;have cJ:¬F15 b21:=fun e=>by have:=fG.lt e;omega
         have nI:¬F15 1:=fun e=>by have:=kK 1 e;have:=hG.lt;omega
         have GI:(A++B++C0++longNums x p.interval none (Q.1.take i)).length≤400000:=by
          rw[List.length_append,List.length_append,Nk,List.length_take,←AC];split<;>simp only[List.length_cons,List.length_nil]<;>omega
         refine py (run_seq (qN rfl (An rfl (qV (LW rfl rfl) (py ?_)))));have pL:=kL.again (X':=(fun k=>((Value.slice (some ⟨g4,0,none⟩) Q.1.length fc).ownBlock=some k∨v5.ownBlock=some k)∨k=b21)) (fG.ext dg) kK (fun k hk hX=>by rcases hX with hX|e;exact iA k hk hX;exact cJ (e▸hk));have GK:=dg.size;have l21:=fH.lt
         have nQ:∀k,(((Value.slice (some ⟨g4,0,none⟩) Q.1.length fc).ownBlock=some k∨v5.ownBlock=some k)∨k=b21)→k<w17.heap.size:=fun k hk=>by
          rcases hk with e| e
          ·have:=(fW k e).2;have:=eF.kx.size;omega
          ·omega
         refine Lp (fun e' w'=>e'=[(1,I (x:Int)),(5,ptr b5 0),(11,ptr n11 0),(12,.func (.func 195) #[] #[ptr n11 0]),(18,v5),(21,ptr b21 0),(94,.slice (some ⟨g4,0,none⟩) Q.1.length fc),(95,I (Q.1.length:Int)),(96,I (i:Int))]∧VY w w1 w17 p b5 n11 (fun k=>((Value.slice (some ⟨g4,0,none⟩) Q.1.length fc).ownBlock=some k∨v5.ownBlock=some k)∨k=b21) (A++B++C0++longNums x p.interval none (Q.1.take i)++[(.gamma,Pl x (SL (Q.1.take i)) q1)]) w') ?cS (fun cS=>?AF)
         case cS=>
          rintro e' w18 ⟨rfl,eG⟩;obtain⟨F18,jZ,oA,gC⟩:=eG.ex;have pM:=eG.kx.KD fH (fun e=>e (.inr rfl));have kd:=eG.b5;replace kd:KP w18 b5 [I (p.L6:Int),I (p.interval:Int),I (p.zeta:Int)] 245:=kd;refine qN rfl (An rfl (qV (La (news:=[.int .u8 1,KV 0]) Nb rfl Ma rfl ((eG.ext.KD hG).cells (n:=2) rfl) rfl) (qV (KK z1w rfl) (qV ((by first|exact KJ U3 rfl rfl pM rfl|exact KJ U3 rfl rfl kd rfl)) ?_))));refine qV (KK OW rfl) (qV ((by first|exact KJ U3 rfl rfl pM rfl|exact KJ U3 rfl rfl kd rfl)) ?_);refine qV (M8 rfl rfl (by omega)) ?_;rw[show(q2:Int)-(p.interval:Int)=((q2-p.interval:Nat):Int) by omega];refine Mb rfl rfl (N6 (args:=[.tmp 120,.tmp 125]) SS rfl rfl) (NV jZ (by rw[List.length_append,List.length_singleton];omega) .gamma (q2-p.interval) (by omega)) ?_;rintro _ w19 ⟨rfl,AE⟩;have uA:=eG.put nQ oA gC l5 z1 AE;have pN:=uA.kx.KD fH (fun e=>e (.inr rfl));refine py (KF rfl (qV (KK X8 rfl) (qV (KJ U3 rfl rfl pN rfl) (qV (KK z1w rfl) (qV (KJ U3 rfl rfl pN rfl) (Lz rfl rfl (qV (M8 rfl rfl (by omega)) (KE rfl (py (KC (KF rfl (Lz rfl rfl (An rfl ?_)))))))))))));refine py ?_;rw[show(q1:Int)+q2-1=z0Y (SL (Q.1.take (i+1))) by rw[Ls hq,z2s];show _=((q1+q2-1:Nat):Int);omega];refine(ih (i+1) _ ⟨?_,by omega⟩ (by omega)).qb;rw[Ls hq,Wk,←List.append_assoc,show [(Cd.gamma,Pl x (SL (Q.1.take i)) q1),(Cd.gamma,q2-p.interval)]=[(Cd.gamma,Pl x (SL (Q.1.take i)) q1)]++[(Cd.gamma,q2-p.interval)] from rfl,←List.append_assoc];exact kL.back uA (fun k hk=> .inl hk)
         case AF=>
          have hg:=Ext.L4 w17;have yu:=pL.ex2 hg
          cases hE:SL (Q.1.take i) with
          | none =>
            refine KQ rfl (fun e6=>?_) (fun e6=>?_)
            ·refine KN (fun w'=>Kp F15 w17 w') (by kernel_rfl) rfl (KH 0 rfl (KM rfl) (hg.kp) (KH 2 rfl (KK X8 rfl) (hg.kp) (qT 3 rfl (fun _ h=>KJ U3 rfl rfl (h.KD fH cJ) rfl) (hg.kp) (KH 4 rfl (KM rfl) (hg.kp) (KH 5 rfl (M8 rfl rfl (by omega)) (hg.kp) (qT 1 rfl (fun _ hS=>La (news:=[.int .u8 1,KV 0]) Nb rfl Ma rfl ((hS.KD (kL.ext.KD hG) nI).cells (n:=2) rfl) rfl) (hg.kp) (OJ 6 [.tmp 107] rfl z7m rfl (z1V ((q1:Int)-x) (by omega) _) ?_)))))));rintro _ w18 ⟨rfl,rfl⟩;refine⟨hg.kp,?_⟩;have uz:=TC (z:=(q1:Int)-x) (n:=65537) (by omega) (by omega);refine KH 7 rfl (Ln rfl M3 U3 (by omega)) (hg.kp) (qO 8 (QN (i:=8) rfl rfl rfl (N6 (args:=[.tmp 103,.tmp 109]) SS rfl rfl) (NV ((fG.ext dg).ext hg) (by omega) .gamma (XT ((q1:Int)-x)) (by omega)) ?_));rintro _ w19 ⟨rfl,F19,AG,kM,AH⟩;refine⟨hg.kp.trans kM,?_⟩;refine qE ?_;exact(cS _ _ ⟨rfl,by rw[hE];exact yu.put nQ kK (fun k hk hX=>by rcases hX with hX|e;exact iA k hk hX;exact cJ (e▸hk)) l5 z1 ⟨F19,AG,kM,AH⟩⟩).qb
            ·exact absurd (by decide) e6
          | some z =>
            refine KQ rfl (fun e6=>?_) (fun e6=>?_)
            ·exact absurd e6 (by show ¬((z:Int)<0);omega)
            ·have hz:=ok3 z hE;refine KF rfl (An rfl (qV (La (news:=[.int .u8 1,KV 0]) Nb rfl Ma rfl ((kL.ext.KD hG).cells (n:=2) rfl) rfl) ?_));rw[show z0Y (some z)=(z:Int) from rfl];refine qV (KK X8 rfl) (qV (KJ U3 rfl rfl fH rfl) (An rfl (qV (M8 rfl rfl (by omega)) (qV (M8 rfl rfl (by omega)) ?_))));rw[show(q1:Int)-z-2=((q1-z-2:Nat):Int) by omega];refine Mb rfl rfl (N6 (args:=[.tmp 112,.tmp 117]) SS rfl rfl) (NV (fG.ext dg) (by omega) .gamma (q1-z-2) (by omega)) ?_;rintro _ w18 ⟨rfl,AI⟩;refine py ?_;exact(cS _ _ ⟨rfl,by rw[hE];exact pL.put nQ kK (fun k hk hX=>by rcases hX with hX|e;exact iA k hk hX;exact cJ (e▸hk)) l5 z1 AI⟩).qb
        ·have cL:i=Q.1.length:=by omega
         rw[cL,List.take_length] at eF;refine KO rfl ?_;exact(ii _ _ ⟨rfl,eF⟩).qb
     case dD=>
      refine KQ rfl (fun e4=>?_) (fun e4=>?_)
      ·have ju:0<p.interval:=by omega
       obtain⟨F13,mx,rx,my⟩:=kJ.ex;refine KF rfl (An rfl (qV (La (news:=[.int .u8 1,KV 0]) Nb rfl Ma rfl ((kJ.ext.KD hG).cells (n:=2) rfl) rfl) (An rfl (qV (LG z4S rfl) (Mb rfl rfl (N6 (args:=[.tmp 90,.tmp 92]) SS rfl rfl) (NV mx (by omega) .gamma Q.1.length (by omega)) ?_)))));rintro _ w14 ⟨rfl,ry⟩;refine py (Lc.qb (e:=[(1,_),(5,_),(11,_),(12,_),(17,_),(18,_)]) ?_);exact(aq _ _ ⟨rfl,by rw[if_pos ju];exact kJ.put (fun k hk=>(fW k hk).2) rx my l5 z1 ry⟩).qb
      ·have ju:¬0<p.interval:=by omega
       refine It ?_;exact(aq _ _ ⟨rfl,by rw[if_neg ju,List.append_nil];exact kJ⟩).qb
   case fh =>
    refine KQ rfl (fun e2=>?_) (fun e2=>?_)
    ·have rz : 0 < r := by omega
     have oE:=NT succ ref;rw[if_pos rz] at ep
     generalize Mm succ ref=rs at oE oq ep
     obtain⟨l,m,rfl⟩:∃l m,rs=l++[m]:=⟨rs.dropLast,rs.getLast oE.ne,(List.dropLast_concat_getLast oE.ne).symm⟩;have rA:(l++[m]).length=l.length+1:=by simp
     have eM:l.length≤65537:=by have h1:=oE.Vy;rw[List.length_map,rA] at h1;omega
     rw[List.dropLast_concat,rA,Nat.add_sub_cancel] at ep;obtain⟨vr,yv,Ev⟩:=id oq;rw[rA] at yv;rcases yv.sl.shape with⟨-,h0⟩|⟨g,c1,rfl,fm⟩
     ·omega
     have Ew:=yv.KD;obtain⟨F,uu,hf,GL⟩:=ot.ex;refine qN rfl (An rfl (qV (La (news:=[.int .u8 1,KV 0]) Nb rfl Ma rfl ((ot.ext.KD hG).cells (n:=2) rfl) rfl) (qV (KJ Mu rfl rfl Ew rfl) (qV (LG Mu rfl) (qV (M8 rfl rfl (by omega)) ?_)))));rw[show((l.length+1:Nat):Int)-1=(l.length:Int) by omega];refine Mb rfl rfl (N6 (args:=[.tmp 51,.tmp 54]) SS rfl rfl) (NV uu (by omega) .gamma l.length (by omega)) ?_;rintro _ w12 ⟨rfl,AJ⟩;have gU:=ot.put rp hf GL l5 z1 AJ;have Ex:=oq.kp gU.kx (fun k hk e=>e (.inr hk));have pO:=gU.kx.KD Ew (fun e=>e (.inr ((Ev rn).2 (.inl rfl))));refine qM rfl (qV (KJ Mu rfl rfl pO rfl) ?_);rw[show((l.length+1:Nat):Int)=((l.length+1:Nat):Int) from rfl];refine qV (KJ Mu rfl rfl pO rfl) (qV (LG Mu rfl) (qV (M8 rfl rfl (by omega)) ?_));rw[show((l.length+1:Nat):Int)-1=(l.length:Int) by omega];refine qV (z5W Mu LC rfl rfl (by omega)) (qV (LG Mu rfl) (An rfl (py (Lc.qb (e:=[(1,_),(5,_),(11,_),(12,_),(14,_),(60,_),(61,_),(62,_)]) ?_))));refine KB (MQ (α:=Nat) (0) (fun i=>[(1,I (x:Int)),(5,ptr b5 0),(11,ptr n11 0),(12,.func (.func 195) #[] #[ptr n11 0]),(14,ptr lf 0),(60,.slice (some ⟨g,0,none⟩) l.length c1),(61,I (l.length:Int)),(62,I (i:Int))]) (fun i w'=>VY w w1 w11 p b5 n11 (fun k=>FL k∨FR k) (A++(Cd.gamma,l.length)::runNums 0 (l.take i)) w'∧i≤l.length) (fun i=>l.length-i) ?hI ?hround)
     case hI=>exact⟨gU,Nat.zero_le _⟩
     case hround =>
      rintro i w13 ⟨kN,hi⟩ ih
      try dsimp only
      refine qN rfl (qV (LW rfl rfl) (py (run_seq (KQ rfl (fun e3=>?_) (fun e3=>?_)))))
      ·have de:i<l.length:=by omega
       obtain⟨F13,mx,rx,my⟩:=kN.ex;have rB:=yv.sl.kp kN.kx (fun g2 hg e=>e (.inr ((Ev g2).2 (.inr hg))));have gL:(l++[m])[i]? =some l[i]:=by rw[List.getElem?_append_left de,List.getElem?_eq_getElem de]
       have gM:min i 1≤l[i]:=by
        rcases Nat.eq_zero_or_pos i with e| e
        ·omega
        ·have h1:=oE.pos l[i] (by
          rw[List.mem_iff_getElem?];refine⟨i-1,?_⟩
          rw[List.getElem?_drop,show 1+(i-1)=i by omega];exact gL)
         omega
       have jh:l[i]≤65536:=by
        have h1:=oE.le l[i] (List.mem_append_left _ (List.getElem_mem de));rw[List.length_map] at h1;omega
       refine It (run_seq (KB (qN rfl (An rfl (qV (Lt Mu LC rfl rfl (by omega)) (qV (Lb U3 rfl rfl (LN rB.rd (show((l++[m]).map ZT)[i]? =some (ZT l[i]) by rw[List.getElem?_map,gL];rfl))) ?_))))));refine KE rfl (KE rfl (py (KF rfl (An rfl (qV (La (news:=[.int .u8 1,KV 0]) Nb rfl Ma rfl ((kN.ext.KD hG).cells (n:=2) rfl) rfl) (An rfl (An rfl (qV (ymi rfl rfl) (qV (M8 rfl rfl (by omega)) ?_)))))))));rw[show(l[i]:Int)-min (i:Int) 1=((l[i]-min i 1:Nat):Int) by omega];refine Mb rfl rfl (N6 (args:=[.tmp 68,.tmp 72]) SS rfl rfl) (NV mx (by have h1:(runNums 0 (l.take i)).length=i:=(by rw[NQ,List.length_take];omega);rw[List.length_append,List.length_cons];omega) .gamma (l[i]-min i 1) (by omega)) ?_;rintro _ w14 ⟨rfl,ry⟩;have AK:=kN.put rp rx my l5 z1 ry;refine py (KC (KF rfl (Lz rfl rfl (An rfl (py ((ih (i+1) _ ⟨?_,by omega⟩ (by omega)).qb))))));rw[List.take_succ,List.getElem?_eq_getElem de,Option.toList_some,Sv,List.length_take,Nat.min_eq_left hi,Nat.zero_add,←List.cons_append,←List.append_assoc];exact AK
      ·have cL:i=l.length:=by omega
       subst cL;rw[List.take_length] at kN;refine KO rfl ?_;exact(ep _ _ ⟨rfl,kN⟩).qb
    ·have rz:¬0<r:=by omega
     refine It ?_;exact(ep _ _ ⟨rfl,by rw[if_neg rz,List.append_nil];exact ot⟩).qb
  case cQ=>
   refine KQ rfl (fun e1=>?_) (fun e1=>?_)
   ·have mb:0<p.L6:=by omega
    obtain⟨F,uu,hf⟩:=tr.ex;refine KF rfl (An rfl (qV (La (news:=[.int .u8 0,KV 0]) Nb rfl Ma rfl ((tr.ext.KD hU).cells (n:=2) rfl) rfl) (An rfl (Mb rfl rfl (N6 (args:=[.tmp 40,.tmp 41]) SS rfl rfl) (NV uu (by simp) .unary r (by omega)) ?_))));rintro _ w5 ⟨rfl,rC⟩;refine py (Lc.qb (e:=[(1,_),(2,_),(3,_),(4,_),(5,_),(10,_),(11,_),(12,_)]) ?_);exact(cD _ _ ⟨rfl,by rw[if_pos mb];exact tr.put hf l5 z1 rC⟩).qb
   ·have mb:¬0<p.L6:=by omega
    refine It ?_;exact(cD _ _ ⟨rfl,by rw[if_neg mb];exact tr⟩).qb
/-! ### The numbers can be encoded -/
def RO (k:Nat)(q:Cd×Nat):Prop:=(q.1= .unary∧q.2≤16)∨(q.1= .gamma∧q.2≤200000)∨(q.1= .zeta k∧q.2≤200000)
theorem Vo (k:Nat):∀(l:List Nat) (i:Nat),(∀n∈l,n≤65536)→∀q∈runNums i l,RO k q
 |[],i,h,q,hq=>by cases hq
 | n :: l, i, h, q, hq => by
   rw[runNums] at hq;rcases List.mem_cons.1 hq with e|hq
   ·subst e;have:=h n List.mem_cons_self;exact .inr (.inl ⟨rfl,by dsimp only;omega⟩)
   ·exact Vo k l (i+1) (fun n hn=>h n (List.mem_cons_of_mem _ hn)) q hq
theorem TQ (k x least:Nat)(hx:x<65536):∀(R:List (Nat×Nat)) (e:Option Nat),(∀q∈R,q.1+q.2≤65536)→∀q∈longNums x least e R,RO k q
 |[],e,h,q,hq=>by cases e<;>cases hq
 | p :: R, e, h, q, hq => by
   have hp:=h p List.mem_cons_self;rw[MG] at hq;rcases List.mem_cons.1 hq with e1|hq
   ·subst e1;refine .inr (.inl ⟨rfl,?_⟩)
    cases e with
    |none=>have:=TC (z:=(p.1:Int)-x) (n:=65537) (by omega) (by omega);show XT _≤_;omega
    |some z=>show p.1-z-2≤_;omega
   ·rcases List.mem_cons.1 hq with e1|hq
    ·subst e1;exact .inr (.inl ⟨rfl,by dsimp only;omega⟩)
    ·exact TQ k x least hx R _ (fun q hq=>h q (List.mem_cons_of_mem _ hq)) q hq
theorem TO (k x:Nat)(hx:x<65536):∀(l:List Nat) (e:Option Nat),(∀n∈l,n<65536)→∀q∈restNums x k e l,RO k q
 |[],e,h,q,hq=>by cases e<;>cases hq
 | v :: l, e, h, q, hq => by
   have hv:=h v List.mem_cons_self;rw[NB] at hq;rcases List.mem_cons.1 hq with e1|hq
   ·subst e1;refine .inr (.inr ⟨rfl,?_⟩)
    cases e with
    |none=>have:=TC (z:=(v:Int)-x) (n:=65537) (by omega) (by omega);show XT _≤_;omega
    |some u=>show v-u-1≤_;omega
   ·exact TO k x hx l _ (fun n hn=>h n (List.mem_cons_of_mem _ hn)) q hq
theorem Yk {least:Nat}{l:List Nat}(h:Lj l):(rowsN least l).1.length≤65536:=by
 have h1:=(Ot least l).length_eq
 rw[List.length_append] at h1
 have h4:∀(R:List (Nat×Nat)) (lo:Nat),NI least lo R→R.length≤(Me R).length:=by
  intro R
  induction R with
  |nil=>intro lo h;exact Nat.le_refl _
  | cons q R ih =>
    intro lo h;have h5:=ih _ h.2.2.2;have h6:1≤q.2:=h.2.1;rw[show Me (q::R)=(List.range q.2).map (q.1+·)++Me R from rfl,List.length_append,List.length_map,List.length_range,List.length_cons];omega
 have h5:=h4 _ 0 (PF least l 0 h.Vw (fun y _=>Nat.zero_le _))
 have:=h.len
 omega
theorem z11 {least:Nat}{l:List Nat}(h:Lj l):∀q∈(rowsN least l).1,1≤q.2∧q.1+q.2≤65536:=fun q hq=>by
 obtain⟨i,hi⟩:=List.mem_iff_getElem?.1 hq
 have h1:=(TL _ 0 i q (PF least l 0 h.Vw (fun y _=>Nat.zero_le _)) hi).1
 exact⟨h1,z4N h.lt hq h1⟩
theorem Us {p:MX}(hp:p.LS){x:Nat}(hx:x<65536){succ ref:List Nat}(hs:Lj succ)(hr:Lj ref){r:Nat}(iz:r≤p.L6):∀q∈My p x succ ref r,RO p.zeta q:=by
 obtain⟨g1,g2,g3,g4⟩:=id hp
 have aw:Lj (leftOf succ ref):=hs.sub List.filter_sublist
 intro q hq
 unfold My at hq
 have gl:=hs.len
 rcases List.mem_cons.1 hq with e|hq
 ·subst e;exact .inr (.inl ⟨rfl,by dsimp only;omega⟩)
 split at hq
 ·cases hq
 rcases List.mem_append.1 hq with hq|hq
 ·split at hq
  ·rcases List.mem_singleton.1 hq with e;subst e;exact .inl ⟨rfl,by dsimp only;omega⟩
  ·cases hq
 rcases List.mem_append.1 hq with hq|hq
 ·have oE:=NT succ ref;have hl:=oE.Vy;have gz:=hr.len;rw[List.length_map] at hl;split at hq
  ·rcases List.mem_cons.1 hq with e|hq
   ·subst e;exact .inr (.inl ⟨rfl,by dsimp only;omega⟩)
   ·refine Vo _ _ _ (fun n hn=>?_) q hq;have:=oE.le n (List.dropLast_subset _ hn);rw[List.length_map] at this;omega
  ·cases hq
 split at hq
 ·cases hq
 rcases List.mem_append.1 hq with hq|hq
 ·split at hq
  ·rcases List.mem_cons.1 hq with e|hq
   ·subst e;have:=Yk (least:=p.interval) aw;exact .inr (.inl ⟨rfl,by dsimp only;omega⟩)
   ·exact TQ _ _ _ hx _ _ (fun q hq=>(z11 aw q hq).2) q hq
  ·cases hq
 ·exact TO _ _ hx _ _ (fun n hn=>aw.lt n ((Pa p.interval _).subset hn)) q hq
theorem z0Z (succ ref:List Nat)(hr:Lj ref):(Mm succ ref).length≤65537:=by
 have hl:=(NT succ ref).Vy
 rw[List.length_map] at hl
 have:=hr.len
 omega
theorem YJ {p:MX}{x:Nat}{succ ref:List Nat}(hs:Lj succ)(hr:Lj ref){r:Nat}:(My p x succ ref r).length≤500000:=by
 have aw:Lj (leftOf succ ref):=hs.sub List.filter_sublist
 have h1:=z0Z succ ref hr
 have h2:=Yk (least:=p.interval) aw
 have h3:=(aw.sub (Pa p.interval (leftOf succ ref))).len
 unfold My
 rw[List.length_cons]
 split
 ·simp
 rw[List.length_append,List.length_append]
 have e1:(if 0<p.L6 then [(Cd.unary,r)] else []).length≤1:=by split<;>simp
 have e2:(if 0<r then(Cd.gamma,(Mm succ ref).length-1)::runNums 0 (Mm succ ref).dropLast else []).length≤65537:=by
  split
  ·rw[List.length_cons,NQ,List.length_dropLast];omega
  ·simp
 have e3:(if leftOf succ ref=[] then [] else(if 0<p.interval then(Cd.gamma,(rowsN p.interval (leftOf succ ref)).1.length)::longNums x p.interval none (rowsN p.interval (leftOf succ ref)).1 else [])++restNums x p.zeta none (rowsN p.interval (leftOf succ ref)).2).length≤200000:=by
  split
  ·simp
  ·rw[List.length_append,NZ];split
   ·rw[List.length_cons,Nk];omega
   ·simp;omega
 omega
theorem RO.LS {k:Nat}{q:Cd×Nat}(h:RO k q)(hk:1≤k∧k≤16):q.1.LS∧q.2≤q.1.most:=by
 rcases h with⟨e,h⟩|⟨e,h⟩|⟨e,h⟩
 ·rw[e];exact⟨trivial,by simp only[Cd.most];omega⟩
 ·rw[e];exact⟨trivial,by simp only[Cd.most];omega⟩
 ·rw[e];exact⟨hk,by simp only[Cd.most];omega⟩
theorem Xi {c:Cd}{v:Nat}(hc:c.LS)(hv:v≤c.most):(c.enc v).length≤65600:=by
 obtain⟨q1,q2,-⟩:=R8 hc hv
 rw[Rh];omega
theorem z4s {L:List (Cd×Nat)}(h:∀q∈L,q.1.LS∧q.2≤q.1.most):(L3 L).length≤65600*L.length:=by
 induction L with
 |nil=>simp[L3]
 | cons q L ih =>
   have h1:=ih (fun q hq=>h q (List.mem_cons_of_mem _ hq));obtain⟨h2,h3⟩:=h q List.mem_cons_self;have h4:=Xi h2 h3;obtain⟨c,v⟩:=q;rw[Lx,List.length_append,List.length_cons];dsimp only at h4⊢;omega
theorem Nj (a b:List (Cd×Nat)):L3 (a++b)=L3 a++L3 b:=List.flatMap_append
theorem S8 (l:List (Cd×Nat))(q:Cd×Nat):L3 (l++[q])=L3 l++q.1.enc q.2:=by
 rw[Nj];simp[L3]
/-! ### An element of a slice of structs -/
theorem Vj {α:Type}{f:α→List Value}{k:Nat}(hk:∀a,(f a).length=k){w:World}{b off n cap i:Nat}{R:List α}{q:α}(h:Rd w (.slice (some ⟨b,off,none⟩) n cap) k n (R.flatMap f))(hq:R[i]? =some q):∀j u,(f q)[j]? =some u→w.cell? ⟨b,off+i*k+j,none⟩=some u:=by
 intro j u hj
 have jT:j<k:=by have:=(List.getElem?_eq_some_iff.1 hj).1;rwa [hk] at this
 have key : ∀ (R : List α) (i : Nat), R[i]? = some q → (R.flatMap f)[i * k + j]? = some u := by
  intro R
  induction R with
  |nil=>intro i h;simp at h
  | cons a R ih =>
    intro i h;rw[List.flatMap_cons]
    cases i with
    | zero =>
      rw[List.getElem?_cons_zero] at h;cases h;rw[List.getElem?_append_left (by rw[hk];omega),Nat.zero_mul,Nat.zero_add]
      exact hj
    | succ i =>
      rw[List.getElem?_append_right (by rw[hk,Nat.add_mul];omega),hk,show(i+1)*k+j-k=i*k+j by rw[Nat.add_mul];omega];exact ih i h
 have jW:=key R i hq
 have aQ:=(List.getElem?_eq_some_iff.1 jW).1
 rcases h.2 with⟨c,hc,h0⟩|⟨b',off',cap',e,hc⟩
 ·rw[h.1,h0,Nat.zero_mul] at aQ;omega
 ·cases e;have:=hc (i*k+j) u jW;rw[show off+i*k+j=off+(i*k+j) by omega];exact this
theorem YU (q:Cd×Nat):(z09 q).length=3:=by
 obtain⟨c,v⟩:=q
 cases c<;>rfl
theorem Q4 {w:World}(p:MX)(hp:p.LS)(x:Nat)(hx:x<65536){sa ra:Option Addr}{sc rc:Nat}(succ ref:List Nat)(hs:Lj succ)(hr:Lj ref)(r:Nat)(iz:r≤p.L6)(ky:r=0→ref=[])
  (hG:KP w 1 (Nu .gamma) 298) (hU:KP w 2 (Nu .unary) 298) (dQ:Rd w (.slice sa succ.length sc) 1 succ.length (succ.map Lg)) (kG:Rd w (.slice ra ref.length rc) 1 ref.length (ref.map Lg)) (fT:succ.length≤sc) (mm:ref.length≤rc):
  Le Tryz.prog 136 [I (x:Int),.slice sa succ.length sc,.slice ra ref.length rc,I (r:Int),lpV p] w fun u w'=>u= .tuple #[I ((L3 (My p x succ ref r)).length:Int),I 0]∧Ext w w':=by
 obtain⟨g1,g2,g3,g4⟩:=id hp
 have aw:=fun q hq=>(Us hp hx hs hr iz q hq).LS ⟨g3,g4⟩
 have eM:=YJ (p:=p) (x:=x) (r:=r) hs hr
 refine KA (e:=[(0,_),(1,_),(2,_),(3,_),(4,_)]) Tryz.func136 rfl Tryz.ntmps136 rfl rfl (qN rfl (KL rfl rfl (Mz rfl (cs:=Um p) rfl) ?_))
 rintro _ w1 ⟨b9,rfl,nK,ad,cy⟩
 replace cy:KP w1 b9 [I (p.L6:Int),I (p.interval:Int),I (p.zeta:Int)] 245:=cy
 refine KE rfl (KE rfl (py (run_seq (qN rfl (qV (La (news:=Um p) Tj rfl OM rfl (cy.cells (n:=3) rfl) rfl) (An rfl (An rfl (An rfl (An rfl (L2 [.tmp 17,.tmp 18,.tmp 19,.tmp 20,.tmp 21] zbn rfl (z5J p hp x hx _ _ succ ref r hs hr iz ky w1 (dQ.ext ad) (kG.ext ad)) ?_))))))))))
 rintro _ w2 ⟨rfl,af⟩
 refine qV ((by first|exact LP rfl|exact Nq rfl)) ?_
 refine py (Kx rfl (It (qN rfl (KE rfl (py (run_seq (qN rfl (qV (La (news:=Um p) Tj rfl OM rfl ((af.KD cy).cells (n:=3) rfl) rfl) ?_))))))))
 have aC:=ad.trans af
 refine An rfl (An rfl (An rfl (An rfl (L2 [.tmp 24,.tmp 25,.tmp 26,.tmp 27,.tmp 28] z7R rfl (Sr p hp x hx succ ref hs hr r iz ky (aC.KD hG) (aC.KD hU) (dQ.ext aC) (kG.ext aC) fT mm) ?_))))
 rintro v w3 ⟨cI,oF,ah⟩
 have aX:=aC.trans ah
 generalize My p x succ ref r=L at aw eM cI
 obtain⟨va,vc,rfl,-⟩:=cI.rd.shape
 refine qV (LG Un rfl) (An rfl (py (KB (MQ (α:=Nat) (0) (fun i=>[(12,I ((L3 (L.take i)).length:Int)),(29,.slice va L.length vc),(30,I (L.length:Int)),(31,I (i:Int))]) (fun i w'=>Ext w3 w'∧i≤L.length) (fun i=>L.length-i) ?hI ?hround))))
 case hI=>exact⟨Ext.refl _,Nat.zero_le _⟩
 case hround=>
  rintro i w4 ⟨aB,hi⟩ ih
  try dsimp only
  refine qN rfl (qV (LW rfl rfl) (py (run_seq (KQ rfl (fun h0=>?_) (fun h0=>?_)))))
  ·have de:i<L.length:=by omega
   obtain⟨⟨c,v⟩,hq⟩:∃q,L[i]? =some q:=⟨_,List.getElem?_eq_getElem de⟩;obtain⟨tv,lT⟩:=aw _ (List.mem_of_getElem? hq);dsimp only at tv lT
   obtain⟨g,c5,e4⟩:∃g c,Value.slice va L.length vc= .slice (some ⟨g,0,none⟩) L.length c:=by
    rcases cI.shape with⟨-,h0⟩|⟨g,c,e,hc⟩
    ·omega
    ·exact⟨g,c,e⟩
   cases e4;have jv:=Vj YU (cI.ext aB).rd hq;obtain⟨y,z,rD⟩:∃y z,Nu c=[y,z]:=by cases c<;>exact⟨_,_,rfl⟩
   have eZ:XJ c= .agg [y,z].toArray:=by rw[XJ,rD]
   have iR:z09 (c,v)=[y,z,KV v]:=by show Nu c++_=_;rw[rD];rfl
   rw[iR] at jv;have fY:=Y7 c v tv lT;rw[eZ] at fY;have uB:oneV y=true∧oneV z=true:=by cases c<;>(cases rD;exact⟨rfl,rfl⟩)
   have g8:=z4s (L:=L.take i) (fun q hq=>aw q (List.mem_of_mem_take hq));rw[List.length_take] at g8;have nB:=Xi tv lT;refine It (run_seq (KB (qN rfl (qV (Lt Un PV rfl rfl (by omega)) (qV (La (news:=[y,z,KV v]) z9Y rfl PV rfl jv rfl) (KL rfl rfl (MN (cs:=[_,_,_]) PV rfl) ?_))))));rintro _ w5 ⟨b14,rfl,kO,aR,cC⟩;refine KR rfl (Lo (news:=[y,z,KV v]) PV rfl rfl (by simp[uB.1,uB.2];rfl) rfl cC (by simp)) ?_;rintro w6 ⟨dY,aS⟩;replace dY:KP w6 b14 [y,z,KV v] 300:=dY;have z5:=aR.size;have aK:Ext w4 w6:=aR.Kz aS (fun k e=>by omega);refine qM rfl (qV (KK z1T rfl) (qV (La (news:=[y,z]) Nb rfl Ma rfl (dY.cells (n:=2) rfl) rfl) (qV (KK z1Z rfl) (qV (KJ M3 rfl rfl dY rfl) (L2 [.tmp 37,.tmp 39] z77 rfl (fY w6) ?_)))));rintro _ w7 ⟨rfl,bL⟩;refine An rfl (qV (Ll rfl rfl) (qV (Ll rfl rfl) (KE rfl (KE rfl (py (KF rfl (An rfl (An rfl (Lz rfl rfl (KE rfl (py (KC (KF rfl ?_)))))))))))));refine Lz rfl rfl (An rfl (py ?_));rw[show((L3 (L.take i)).length:Int)+((c.enc v).length:Int)=((L3 (L.take (i+1))).length:Int) by rw[Ls hq,S8,List.length_append];dsimp only;omega];exact(ih (i+1) _ ⟨(aB.trans aK).trans bL,by omega⟩ (by omega)).qb
  ·have cL:i=L.length:=by omega
   rw[cL,List.take_length];refine KO rfl (qN rfl (An rfl (KE rfl (KE rfl (py (KG Tryz.func136 rfl ?_))))));exact⟨_,rfl,rfl,aX.trans aB⟩
theorem TV {w:World}{wp:Nat}{bs:List Bool}{F:Nat→Prop}(h:SG w wp bs F)(p:MX)(hp:p.LS)(x:Nat)(hx:x<65536){sa ra:Option Addr}{sc rc:Nat}(succ ref:List Nat)(hs:Lj succ)(hr:Lj ref)(r:Nat)(iz:r≤p.L6)(ky:r=0→ref=[])
  (hG:KP w 1 (Nu .gamma) 298) (hU:KP w 2 (Nu .unary) 298) (dQ:Rd w (.slice sa succ.length sc) 1 succ.length (succ.map Lg)) (kG:Rd w (.slice ra ref.length rc) 1 ref.length (ref.map Lg)) (fT:succ.length≤sc) (mm:ref.length≤rc)
  (hl:bs.length+(L3 (My p x succ ref r)).length≤134217728):
  Le Tryz.prog 139 [ptr wp 0,I (x:Int),.slice sa succ.length sc,.slice ra ref.length rc,I (r:Int),lpV p] w fun u w'=>u=I 0∧WrR wp F w w' (bs++L3 (My p x succ ref r)):=by
 obtain⟨g1,g2,g3,g4⟩:=id hp
 have aw:=fun q hq=>(Us hp hx hs hr iz q hq).LS ⟨g3,g4⟩
 have eM:=YJ (p:=p) (x:=x) (r:=r) hs hr
 refine KA (e:=[(0,_),(1,_),(2,_),(3,_),(4,_),(5,_)]) Tryz.func139 rfl Tryz.ntmps139 rfl rfl (qN rfl (KL rfl rfl (Mz rfl (cs:=Um p) rfl) ?_))
 rintro _ w1 ⟨b9,rfl,nK,ad,cy⟩
 replace cy:KP w1 b9 [I (p.L6:Int),I (p.interval:Int),I (p.zeta:Int)] 245:=cy
 refine KE rfl (py (run_seq (qN rfl (An rfl (qV (LO Xr rfl rfl) (py (Kx rfl (It (qN rfl (An rfl (An rfl (An rfl (An rfl ?_)))))))))))))
 refine qV (La (news:=Um p) Tj rfl OM rfl (cy.cells (n:=3) rfl) rfl) (L2 [.tmp 20,.tmp 21,.tmp 22,.tmp 23,.tmp 24] Y4 rfl (Q4 p hp x hx succ ref hs hr r iz ky (ad.KD hG) (ad.KD hU) (dQ.ext ad) (kG.ext ad) fT mm) ?_)
 rintro _ w2 ⟨rfl,af⟩
 have aC:=ad.trans af
 have h2:=h.ext aC
 refine An rfl (qV (Ll rfl rfl) (qV (Ll rfl rfl) (KE rfl (KE rfl (py (run_seq (KB (qN rfl (An rfl (qV (LQ rfl rfl) (KE rfl (py (Kx rfl ?_)))))))))))))
 refine qN rfl (An rfl (An rfl (L2 [.tmp 34] WJ rfl (Q2 h2) ?_)))
 rintro _ w2 ⟨rfl,rfl⟩
 refine qV (M8 rfl rfl (by omega)) (qV (LH rfl rfl) (KE rfl (py (Lc.qb (e:=[(0,_),(1,_),(2,_),(3,_),(4,_),(11,_),(12,_),(32,_)]) ?_))))
 refine KQ rfl (fun e0=>?_) (fun e0=>?_)
 ·omega
 ·refine It (KC (run_seq (qN rfl (qV (La (news:=Um p) Tj rfl OM rfl ((af.KD cy).cells (n:=3) rfl) rfl) (An rfl (An rfl (An rfl (An rfl (L2 [.tmp 38,.tmp 39,.tmp 40,.tmp 41,.tmp 42] z7R rfl (Sr p hp x hx succ ref hs hr r iz ky (aC.KD hG) (aC.KD hU) (dQ.ext aC) (kG.ext aC) fT mm) ?_)))))))));rintro v w3 ⟨cI,oF,ah⟩;have aX:=aC.trans ah;have h3:=h.ext aX;have z12:=aC.size;have z3:=ah.size;have jf:∀k,F k→k<w.heap.size:=fun k hk=>h.lt hk
  generalize My p x succ ref r=L at aw eM cI hl
  obtain⟨va,vc,rfl,-⟩:=cI.rd.shape;refine qV (LG Un rfl) (An rfl (py (KB (MQ (α:=Nat) (0) (fun i=>[(0,ptr wp 0),(43,.slice va L.length vc),(44,I (L.length:Int)),(45,I (i:Int))]) (fun i w'=>WrR wp F w3 w' (bs++L3 (L.take i))∧i≤L.length) (fun i=>L.length-i) ?hI ?hround))))
  case hI=>exact⟨⟨F,by simpa[L3] using h3,Kp.refl _ _,fun k hk=> .inl hk⟩,Nat.zero_le _⟩
  case hround=>
   rintro i w4 ⟨⟨F4,kP,av,ox⟩,hi⟩ ih
   try dsimp only
   refine qN rfl (qV (LW rfl rfl) (py (run_seq (KQ rfl (fun h0=>?_) (fun h0=>?_)))))
   ·have de:i<L.length:=by omega
    obtain⟨⟨c,v⟩,hq⟩:∃q,L[i]? =some q:=⟨_,List.getElem?_eq_getElem de⟩;obtain⟨tv,lT⟩:=aw _ (List.mem_of_getElem? hq);dsimp only at tv lT
    obtain⟨g,c5,e4⟩:∃g c,Value.slice va L.length vc= .slice (some ⟨g,0,none⟩) L.length c:=by
     rcases cI.shape with⟨-,h0⟩|⟨g,c,e,hc⟩
     ·omega
     ·exact⟨g,c,e⟩
    cases e4;have dP:=cI.kp av (fun g hg e=>by have:=oF g hg;have:=jf g e;omega);have jv:=Vj YU dP.rd hq;obtain⟨y,z,rD⟩:∃y z,Nu c=[y,z]:=by cases c<;>exact⟨_,_,rfl⟩
    have eZ:XJ c= .agg [y,z].toArray:=by rw[XJ,rD]
    have iR:z09 (c,v)=[y,z,KV v]:=by show Nu c++_=_;rw[rD];rfl
    rw[iR] at jv;have uB:oneV y=true∧oneV z=true:=by cases c<;>(cases rD;exact⟨rfl,rfl⟩)
    refine It (run_seq (KB (qN rfl (qV (Lt Un PV rfl rfl (by omega)) (qV (La (news:=[y,z,KV v]) z9Y rfl PV rfl jv rfl) (KL rfl rfl (MN (cs:=[_,_,_]) PV rfl) ?_))))));rintro _ w5 ⟨b14,rfl,kO,aR,cC⟩;refine KR rfl (Lo (news:=[y,z,KV v]) PV rfl rfl (by simp[uB.1,uB.2];rfl) rfl cC (by simp)) ?_;rintro w6 ⟨dY,aS⟩;replace dY:KP w6 b14 [y,z,KV v] 300:=dY;have z5:=aR.size;have aK:Ext w4 w6:=aR.Kz aS (fun k e=>by omega);have z6:=aK.size;have z4:=av.size
    have jh:(bs++L3 (L.take i)).length+(c.enc v).length≤134217728:=by
     have e1:(L3 L).length=(L3 (L.take i)).length+(c.enc v).length+(L3 (L.drop (i+1))).length:=by
      conv=>lhs;rw[←List.take_append_drop (i+1) L,Nj,Ls hq,S8]
      rw[List.length_append,List.length_append]
     rw[List.length_append];omega
    have ke:=z4L (kP.ext aK) c v tv lT jh;rw[eZ] at ke;refine py (KF rfl (An rfl (qV (KK z1T rfl) (qV (La (news:=[y,z]) Nb rfl Ma rfl (dY.cells (n:=2) rfl) rfl) (qV (KK z1Z rfl) (qV (KJ M3 rfl rfl dY rfl) (L2 [.tmp 49,.tmp 51,.tmp 53] zbx rfl (ke) ?_)))))));rintro _ w7 ⟨rfl,F7,nF,aA,nG⟩;refine py (KC (KF rfl (Lz rfl rfl (An rfl (py ((ih (i+1) _ ⟨⟨F7,?_,(av.trans aK.kp).Kz aA (fun k hk=>(ox k hk).symm),fun k hk=>?_⟩,by omega⟩ (by omega)).qb))))))
    ·rw[Ls hq,S8,←List.append_assoc];exact nF
    ·rcases nG k hk with e| e
     ·exact ox k e
     ·exact .inr (by omega)
   ·have cL:i=L.length:=by omega
    rw[cL,List.take_length] at kP;refine KO rfl (qN rfl (KE rfl (py (KG Tryz.func139 rfl ?_))));exact⟨_,rfl,rfl,F4,kP,aX.kp.trans av,fun k hk=>by rcases ox k hk with e|e;exact .inl e;exact .inr (by omega)⟩
def RQ (succ ref:List Nat)(r:Nat):List (Cd×Nat):=if 0<r then(.gamma,(Mm succ ref).length-1)::runNums 0 (Mm succ ref).dropLast else []
def z26 (p:MX)(x:Nat)(succ ref:List Nat):List (Cd×Nat):=
 if leftOf succ ref=[] then [] else(if 0<p.interval then(.gamma,(rowsN p.interval (leftOf succ ref)).1.length)::longNums x p.interval none (rowsN p.interval (leftOf succ ref)).1 else [])++restNums x p.zeta none (rowsN p.interval (leftOf succ ref)).2
def Pn (p:MX)(x:Nat)(succ ref:List Nat)(r:Nat):List (Cd×Nat):=RQ succ ref r++z26 p x succ ref
theorem Vt (p:MX)(x:Nat){succ ref:List Nat}(r:Nat)(hs:succ≠[]):My p x succ ref r=LX p succ.length r++Pn p x succ ref r:=by
 unfold My LX Pn RQ z26
 rw[if_neg hs,if_neg (fun e=>hs (List.eq_nil_of_length_eq_zero e)),List.cons_append]
def z1a (p:MX)(x:Nat)(l:List Nat):List (Cd×Nat):=if 0<p.interval∧l≠[] then(.gamma,(rowsN p.interval l).1.length)::longNums x p.interval none (rowsN p.interval l).1 else []
theorem Yn (p:MX)(x:Nat)(succ ref:List Nat):z26 p x succ ref=z1a p x (leftOf succ ref)++restNums x p.zeta none (rowsN p.interval (leftOf succ ref)).2:=by
 unfold z26 z1a
 by_cases e:leftOf succ ref=[]
 ·rw[if_pos e,if_neg (fun h=>h.2 e),e,rowsN];rfl
 ·rw[if_neg e];by_cases e2:0<p.interval
  ·rw[if_pos e2,if_pos ⟨e2,e⟩]
  ·rw[if_neg e2,if_neg (fun h=>e2 h.1)]
structure TlI (w:World)(t r:Nat)(s:Bytes)(b7 b9:Nat)(n q:Nat)(p:MX)(O:List Nat)(v:Value)(a:Nat)(w':World):Prop where
 tk:Wh w' t r s a
 kp:Kp (fun k=>k=t∨k=r) w w'
 sl:Sl w' v 46 1 O.length (O.map Lg)
 fr:∀g,v.ownBlock=some g→w.heap.size≤g
 c7:KP w' b7 [I (n:Int),I (q:Int)] 239
 c9:KP w' b9 [I (p.L6:Int),I (p.interval:Int),I (p.zeta:Int)] 245
 n7:w.heap.size≤b7
 n9:w.heap.size≤b9
 v7:v.ownBlock≠some b7
 v9:v.ownBlock≠some b9
theorem Xn (l:List Nat):∀c∈l.map Lg,c.oneCell'=true:=fun c hc=>by
 obtain⟨y,-,rfl⟩:=List.mem_map.1 hc
 rfl
theorem TlI.app {w w1 w2 w3:World}{t r:Nat}{s:Bytes}{b7 b9 n q:Nat}{p:MX}{O M:List Nat}{v v3:Value}{a a2:Nat}(h:TlI w t r s b7 b9 n q p O v a w1)(ht:t<w.heap.size)(hr:r<w.heap.size)
  (hk:Kp (fun k=>k=t∨k=r) w1 w2) (lX:Wh w2 t r s a2) (cI:Sl w3 v3 46 1 (O.length+M.length) (O.map Lg++M.map Lg)) (ax:Kp (fun k=>v.ownBlock=some k) w2 w3) (jO:∀g,v3.ownBlock=some g→v.ownBlock=some g∨w2.heap.size≤g):
  TlI w t r s b7 b9 n q p (O++M) v3 a2 w3:=by
 have z1:=h.kp.size
 have z2:=hk.size
 have l7:=h.c7.lt
 have l9:=h.c9.lt
 have n7:=h.n7
 have n9:=h.n9
 have uC:∀k,k<w.heap.size→¬v.ownBlock=some k:=fun k hk e=>by have:=h.fr k e;omega
 have cw:∀k,k<w1.heap.size→v.ownBlock≠some k→v3.ownBlock≠some k:=fun k hk hv e=>by
  rcases jO k e with e| e
  ·exact hv e
  ·omega
 refine⟨⟨ax.KD lX.KD (uC t ht),⟨ax.KD lX.rd.1 (uC r hr),lX.rd.2⟩,lX.ne⟩,(h.kp.trans hk).Kz ax (fun k hk=> .inl (h.fr k hk)),by rw[List.length_append,List.map_append];exact cI,fun g hg=>?_,ax.KD (hk.KD h.c7 (fun e=>by omega)) h.v7,ax.KD (hk.KD h.c9 (fun e=>by omega)) h.v9,n7,n9,cw _ l7 h.v7,cw _ l9 h.v9⟩
 rcases jO g hg with e| e
 ·exact h.fr g e
 ·omega
theorem z30 {w : World}{t r a : Nat}{s : Bytes}(h : Wh w t r s a)(hG : KP w 1 (Nu .gamma) 298)(dw : ¬ 1 = r)(o8 : ¬ 1 = t)(p : MX)(hp : p.LS)(x : Nat)(hx : x < 65536){sa : Option Addr}{sc : Nat}(succ ref : List Nat)(hs : Lj succ)(bE : succ ≠ [])(iB : succ.length < 50)(j4 : Lj ref)
  (q:Nat) (hq:q≤p.L6) (ma:q=0→ref=[]) (dX:∀w2,Kp (fun k=>k=r) w w2→Rd w2 (.slice sa ref.length sc) 1 ref.length (ref.map Lg)) (fY:ref.length≤sc) (rest:List Bool) (hb:(L0 s).drop a=L3 (Pn p x succ ref q)++rest):
  Le Tryz.prog 171 [ptr t 0,I (x:Int),.agg #[I (succ.length:Int),I (q:Int)],.slice sa ref.length sc,lpV p] w fun u w'=>Sl w' u 46 1 succ.length (succ.map Lg)∧(∀g,u.ownBlock=some g→w.heap.size≤g)∧
   Wh w' t r s (a+(L3 (Pn p x succ ref q)).length)∧Kp (fun k=>k=t∨k=r) w w':=by
 obtain⟨g1,g2,g3,g4⟩:=id hp
 have lt0:=h.KD.lt
 have lr0:=h.rd.1.lt
 have iy:=z0P hs.Vw j4.Vw p.interval
 have pP:=iy.length_eq
 rw[List.length_append,List.length_append] at pP
 have aw:Lj (leftOf succ ref):=hs.sub List.filter_sublist
 have GM:=(Ot p.interval (leftOf succ ref)).length_eq
 rw[List.length_append] at GM
 unfold Pn at hb⊢
 rw[Nj,List.append_assoc] at hb
 rw[Nj,List.length_append]
 refine KA (e:=[(0,_),(1,_),(2,_),(3,_),(4,_)]) Tryz.func171 rfl Tryz.ntmps171 rfl rfl (qN rfl (KL rfl rfl (Mz rfl (cs:=[I (succ.length:Int),I (q:Int)]) rfl) ?_))
 rintro _ w1 ⟨b7,rfl,kr,ad,bG⟩
 refine KL rfl rfl (Mz rfl (cs:=Um p) rfl) ?_
 rintro _ w2 ⟨b9,rfl,nK,af,cy⟩
 replace cy:KP w2 b9 [I (p.L6:Int),I (p.interval:Int),I (p.zeta:Int)] 245:=cy
 have z1:=ad.size
 have z2:=af.size
 have aC:=ad.trans af
 have dH:=af.KD bG
 refine KE rfl (qM rfl (KE rfl (py (run_seq (qN rfl (qV (KK Np rfl) (qV (KJ U3 rfl rfl dH rfl) (qV (LH rfl rfl) (py (Lp (fun e' w'=>∃v11,e'=[(0,ptr t 0),(1,I (x:Int)),(7,ptr b7 0),(9,ptr b9 0),(11,v11)]∧TlI w t r s b7 b9 succ.length q p (ref.filter fun y=>decide (y∈succ)) v11 (a+(L3 (RQ succ ref q)).length) w') ?cD (fun cD=>?cQ)))))))))))
 case cD =>
  rintro e' w3 ⟨v11,rfl,h3⟩;have eL:=N7 hb;obtain⟨va,vc,rfl,-⟩:=h3.sl.rd.shape;have jw:=h3.c7;have bZ:=h3.c9;have oG:=h3.tk.KD;refine run_seq (qN rfl (qV (KK O8 rfl) (qV ((by first|exact KJ U3 rfl rfl jw rfl|exact KJ U3 rfl rfl bZ rfl|exact KJ U3 rfl rfl oG rfl)) ?_)));refine An rfl (qV (LG L9 rfl) (qV (M8 rfl rfl (by omega)) ?_));rw[show(succ.length:Int)-((ref.filter fun y=>decide (y∈succ)).length:Int)=((leftOf succ ref).length:Int) by omega]
  generalize JL:(a+(L3 (RQ succ ref q)).length)=a3 at h3 eL
  rw[Yn,Nj,List.append_assoc] at eL;rw[Yn,Nj,List.length_append];have GN:p.interval=0→(rowsN p.interval (leftOf succ ref)).1=[]:=fun e=>by rw[e];exact RY _
  have GO:leftOf succ ref=[]→rowsN p.interval (leftOf succ ref)=([],[]):=fun e=>by rw[e,rowsN]
  have oz:=PF p.interval (leftOf succ ref) 0 aw.Vw (fun y _=>Nat.zero_le _);have rt:=fun y hy=>(z11 (least:=p.interval) aw y hy).2
  have Ey:(rowsN p.interval (leftOf succ ref)).1.length≤(Me (rowsN p.interval (leftOf succ ref)).1).length:=by
   have key:∀(R:List (Nat×Nat)) (lo:Nat),NI p.interval lo R→R.length≤(Me R).length:=by
    intro R
    induction R with
    |nil=>intro lo h;exact Nat.le_refl _
    | cons z R ih =>
      intro lo h;have h5:=ih _ h.2.2.2;have h6:1≤z.2:=h.2.1;rw[show Me (z::R)=(List.range z.2).map (z.1+·)++Me R from rfl,List.length_append,List.length_map,List.length_range,List.length_cons];omega
   exact key _ 0 oz
  have AL:Lj (rowsN p.interval (leftOf succ ref)).2:=aw.sub (Pa p.interval _)
  generalize (ref.filter fun y=>decide (y∈succ))=O1 at h3 iy pP
  have tw:z1a p x (leftOf succ ref)=if 0<p.interval∧leftOf succ ref≠[] then(.gamma,(rowsN p.interval (leftOf succ ref)).1.length)::longNums x p.interval none (rowsN p.interval (leftOf succ ref)).1 else []:=rfl
  generalize z1a p x (leftOf succ ref)=LT at eL tw
  generalize rowsN p.interval (leftOf succ ref)=Q at*
  generalize leftOf succ ref=L1 at*
  have yi:L1=[]↔L1.length=0:=⟨fun e=>by rw[e];rfl,List.eq_nil_of_length_eq_zero⟩;have gl:=hs.len;refine KE rfl (py (run_seq (Lp (fun e' w'=>∃s1:Bool,e'=[(0,ptr t 0),(1,I (x:Int)),(7,ptr b7 0),(9,ptr b9 0),(11,.slice va O1.length vc),(12,I (L1.length:Int)),(38,.bool s1)]∧w'=w3∧(s1=true↔0<p.interval∧L1≠[])) ?ep (fun ep=>?fh))))
  case ep =>
   rintro e' w4 ⟨s1,rfl,rfl,dz⟩;refine Lp (fun e' w'=>∃v11,e'=[(0,ptr t 0),(1,I (x:Int)),(7,ptr b7 0),(9,ptr b9 0),(11,v11)]∧TlI w t r s b7 b9 succ.length q p (O1++Me Q.1) v11 (a3+(L3 LT).length) w') ?aq (fun aq=>?dD)
   case aq =>
    rintro e' w5 ⟨v5,rfl,h5⟩;have gI:=N7 eL;obtain⟨va5,vc5,rfl,-⟩:=h5.sl.rd.shape;have gn:=h5.c7;have gp:=h5.c9;have uD:=h5.tk.KD;have Ez:(O1++Me Q.1).length=O1.length+(Me Q.1).length:=List.length_append;refine run_seq (qN rfl (qV (KK O8 rfl) (qV ((by first|exact KJ U3 rfl rfl gn rfl|exact KJ U3 rfl rfl gp rfl|exact KJ U3 rfl rfl uD rfl)) ?_)));refine An rfl (qV (LG L9 rfl) (qV (M8 rfl rfl (by omega)) ?_));rw[show(succ.length:Int)-((O1++Me Q.1).length:Int)=(Q.2.length:Int) by omega];refine KE rfl (py (run_seq (Lp (fun e' w'=>∃s2:Bool,e'=[(0,ptr t 0),(1,I (x:Int)),(7,ptr b7 0),(9,ptr b9 0),(11,.slice va5 (O1++Me Q.1).length vc5),(13,I (Q.2.length:Int)),(60,.bool s2)]∧w'=w5∧(s2=true↔0<Q.2.length)) ?ii (fun ii=>?mj))))
    case ii=>
     rintro e' w6 ⟨s2,rfl,rfl,dB⟩;refine Lp (fun e' w'=>∃v11,e'=[(0,ptr t 0),(11,v11)]∧TlI w t r s b7 b9 succ.length q p (O1++Me Q.1++Q.2) v11 (a3+(L3 LT).length+(L3 (restNums x p.zeta none Q.2)).length) w') ?oh (fun oh=>?rl)
     case oh=>
      rintro e' w7 ⟨v7,rfl,h7⟩;have pQ:(O1++Me Q.1++Q.2).length=succ.length:=by rw[List.length_append,Ez];omega
      have GP:0<succ.length:=List.length_pos_iff.2 bE;refine qN rfl (An rfl (L2 [.tmp 71] zao rfl (z2d h7.sl (fun e=>by rw[e] at pQ;simp at pQ;omega) (by omega)) ?_));rintro _ w8 ⟨rfl,bj,l',GQ,uE,er⟩;have GR:l'=succ:=ZZ ((GQ.trans (by rw[List.append_assoc])).trans iy) uE hs.Vw;rw[GR] at er;refine qM rfl (An rfl (KE rfl (py (KG Tryz.func171 rfl ?_))));have e9:a+((L3 (RQ succ ref q)).length+((L3 LT).length+(L3 (restNums x p.zeta none Q.2)).length))=a3+(L3 LT).length+(L3 (restNums x p.zeta none Q.2)).length:=by omega
      rw[e9];have uC:∀k,k<w.heap.size→¬v7.ownBlock=some k:=fun k hk e=>by have:=h7.fr k e;omega
      refine⟨_,rfl,er,h7.fr,⟨bj.KD h7.tk.KD (uC t lt0),⟨bj.KD h7.tk.rd.1 (uC r lr0),h7.tk.rd.2⟩,h7.tk.ne⟩,h7.kp.Kz bj (fun k hk=> .inl (h7.fr k hk))⟩
     case rl=>
      refine LF rfl (fun h2=>?_) (fun h2=>?_)
      ·refine KF rfl (An rfl (An rfl (An rfl (An rfl (qV (KK Ut rfl) (qV ((by first|exact KJ U3 rfl rfl gn rfl|exact KJ U3 rfl rfl gp rfl)) ?_))))));refine qV ((by first|exact Lw rfl U3 M3 (by omega)|exact MI rfl U3 M3)) ?_;refine qV (Nc (parts:=[(0,.const (Value.int .u8 3)),(1,.tmp 67)]) (cs:=[_,_]) Ma rfl z7C rfl rfl) (L2 [.tmp 62,.tmp 63,.tmp 64,.tmp 68] zbK rfl (z0k h5.tk x p.zeta hx ⟨g3,g4⟩ Q.2 AL _ gI) ?_);rintro u6 w6 ⟨iC,m5,tq,aS⟩;have AM:=h5.sl.kp aS (fun g hg e=>by have:=h5.fr g hg;omega);refine KL rfl rfl (pap L9 KY rfl (by decide) rfl rfl AM iC.rd (Xn _) (by omega) (by simp only[maxLen];omega)) ?_;rintro v7 w7 ⟨gK,aA,GS,-⟩;have h7:=h5.app lt0 lr0 aS tq gK aA GS;refine KE rfl (py ?_);exact(oh _ _ ⟨v7,rfl,h7⟩).qb
      ·have gj:Q.2=[]:=List.eq_nil_of_length_eq_zero (by
        rcases Nat.eq_zero_or_pos Q.2.length with e| e
        ·exact e
        ·rw[dB.2 e] at h2;cases h2)
       refine It ((oh _ _ ⟨_,rfl,?_⟩).qb);rw[gj,List.append_nil,show(L3 (restNums x p.zeta none [])).length=0 from rfl,Nat.add_zero];exact h5
    case mj=>
     rcases Nat.eq_zero_or_pos Q.2.length with hz|hz
     ·refine KF rfl (An rfl (qV (LH rfl rfl) (Lq (An rfl (qS (qS (qS (qS (qS (qV (Lk rfl rfl) (py ?_)))))))))));exact(ii _ _ ⟨false,rfl,rfl,by simp[hz]⟩).qb
     ·refine KF rfl (An rfl (qV (LH rfl rfl) (MC (An rfl (An rfl (qV (KZ rfl) (qV (KK OA rfl) (qV ((by first|exact KJ U4 rfl rfl gn rfl|exact KJ U4 rfl rfl gp rfl|exact KJ U4 rfl rfl uD rfl)) ?_))))))));refine qV ((by first|exact LP rfl|exact Nq rfl)) ?_;refine qV (LK rfl rfl) (py ?_);exact(ii _ _ ⟨true,rfl,rfl,by simp[hz]⟩).qb
   case dD=>
    refine LF rfl (fun h1=>?_) (fun h1=>?_)
    ·obtain⟨yk,du⟩:=dz.1 h1;rw[if_pos ⟨yk,du⟩] at tw;refine KF rfl (An rfl (An rfl (An rfl (An rfl (qV (KK OW rfl) (qV ((by first|exact KJ U3 rfl rfl jw rfl|exact KJ U3 rfl rfl bZ rfl)) ?_))))));rw[tw] at eL;refine L2 [.tmp 40,.tmp 41,.tmp 42,.tmp 44] z97 rfl (z3l h3.tk (h3.kp.KD hG (fun e=>by rcases e with e|e;exact o8 e;exact dw e)) dw o8 x L1.length p.interval hx (by omega) (by omega) Q.1 oz rt (by omega) (by omega) _ eL) ?_;rintro u4 w4 ⟨dP,ox,uF,av⟩;have AN:=h3.sl.kp av (fun g hg e=>by have:=h3.fr g hg;omega);have JM:=dP.rd;have GT:O1.length≤65536:=by omega
     refine KL rfl rfl (pap L9 KY rfl (by decide) rfl rfl AN dP.rd (Xn _) (by omega) (by simp only[maxLen];omega)) ?_;rintro v5 w5 ⟨fZ,aj,GU,-⟩;have h5:=h3.app lt0 lr0 av uF fZ aj GU;refine KE rfl (py ((aq _ _ ⟨v5,rfl,?_⟩).qb));rw[tw];exact h5
    ·have du:¬(0<p.interval∧L1≠[]):=fun e=>by rw[dz.2 e] at h1;cases h1
     have ig:Q.1=[]:=by
      by_cases e:L1=[]
      ·rw[GO e]
      ·exact GN (by by_cases e2:0<p.interval;exact absurd ⟨e2,e⟩ du;omega)
     rw[if_neg du] at tw;refine It ((aq _ _ ⟨_,rfl,?_⟩).qb);rw[ig,tw,show Me []=[] from rfl,List.append_nil,show(L3 []).length=0 from rfl,Nat.add_zero];exact h3
  case fh=>
   rcases Nat.eq_zero_or_pos L1.length with hz|hz
   ·refine KF rfl (An rfl (qV (LH rfl rfl) (Lq (An rfl (qS (qS (qS (qV (Lk rfl rfl) (An rfl (qS (qS (qS (qS ?_)))))))))))));refine qS (qV (Lk rfl rfl) (py (Lc.qb (e:=[(0,_),(1,_),(7,_),(9,_),(11,_),(12,_),(38,_)]) ?_)));exact(ep _ _ ⟨false,rfl,rfl,⟨fun e=>(by cases e),fun e=>absurd (yi.2 hz) e.2⟩⟩).qb
   ·rcases Nat.eq_zero_or_pos p.interval with nE|nE
    ·refine KF rfl (An rfl (qV (LH rfl rfl) (MC (An rfl (qV (KK OW rfl) (qV ((by first|exact KJ U3 rfl rfl jw rfl|exact KJ U3 rfl rfl bZ rfl|exact KJ U3 rfl rfl oG rfl)) ?_))))));refine qV (LH rfl rfl) (Lq (qV (LK rfl rfl) (An rfl (qS (qS (qS (qS (qS (qV (Lk rfl rfl) (py (Lc.qb (e:=[(0,_),(1,_),(7,_),(9,_),(11,_),(12,_),(38,_)]) ?_)))))))))));exact(ep _ _ ⟨false,rfl,rfl,by simp[nE]⟩).qb
    ·refine KF rfl (An rfl (qV (LH rfl rfl) (MC (An rfl (qV (KK OW rfl) (qV ((by first|exact KJ U3 rfl rfl jw rfl|exact KJ U3 rfl rfl bZ rfl|exact KJ U3 rfl rfl oG rfl)) ?_))))));refine qV (LH rfl rfl) (MC (qV (LK rfl rfl) (An rfl (An rfl (qV (KZ rfl) (qV (KK OA rfl) (qV ((by first|exact KJ U4 rfl rfl jw rfl|exact KJ U4 rfl rfl bZ rfl|exact KJ U4 rfl rfl oG rfl)) ?_)))))));refine qV ((by first|exact LP rfl|exact Nq rfl)) ?_;refine qV (LK rfl rfl) (py (Lc.qb (e:=[(0,_),(1,_),(7,_),(9,_),(11,_),(12,_),(38,_)]) ?_));exact(ep _ _ ⟨true,rfl,rfl,⟨fun _=>⟨nE,fun e=>(by have:=yi.1 e;omega)⟩,fun _=>rfl⟩⟩).qb
 case cQ=>
  refine KQ rfl (fun h0=>?_) (fun h0=>?_)
  ·have ig:0<q:=by omega
   have yw:=NT succ ref;have iq:=yw.Vy;rw[List.length_map] at iq;have uG:=j4.len
   have uH:(Mm succ ref).sum=ref.length:=by
    have:=congrArg List.length yw.exp;rw[NC,List.length_map] at this;exact this
   have uI:=z2V succ ref;rw[show RQ succ ref q=(.gamma,(Mm succ ref).length-1)::runNums 0 (Mm succ ref).dropLast from if_pos ig] at hb;obtain⟨l,m,gL⟩:∃l m,Mm succ ref=l++[m]:=⟨_,_,(List.dropLast_concat_getLast yw.ne).symm⟩;have gM:=yw.pos;rw[gL] at hb uH iq gM;rw[gL,List.dropLast_concat] at uI;rw[List.dropLast_concat,show(l++[m]).length-1=l.length by simp] at hb;rw[List.sum_append] at uH;rw[List.length_append,List.length_singleton] at iq;have h2:=h.ext aC
   have uJ:∀m'∈l.drop 1,1≤m':=fun m' mz=>gM m' (by
    cases l with
    |nil=>simp at mz
    |cons a l=>rw[List.cons_append,List.drop_succ_cons,List.drop_zero];rw[List.drop_succ_cons,List.drop_zero] at mz;exact List.mem_append_left _ mz)
   refine KF rfl (An rfl (An rfl (L2 [.tmp 17,.tmp 18] z9t rfl (Z5 h2 (aC.KD hG) dw ref l (fun w5 k=>dX w5 (aC.kp.trans k)) fY uG (by omega) (by omega) uJ _ hb) ?_)));rintro v11 w3 ⟨cI,oF,oH,ax⟩;refine KE rfl (py ((cD _ _ ⟨v11,rfl,?_⟩).qb));rw[uI] at cI;rw[show RQ succ ref q=(.gamma,l.length)::runNums 0 l by unfold RQ;rw[if_pos ig,gL,List.dropLast_concat,show(l++[m]).length-1=l.length by simp]];have l72:=dH.lt;have l92:=cy.lt;exact⟨oH,aC.kp.trans (ax.KT fun k e=> .inr e),cI,fun g hg=>by have:=oF g hg;omega,ax.KD dH (by omega),ax.KD cy (by omega),by omega,by omega,fun e=>by have:=oF _ e;omega,fun e=>by have:=oF _ e;omega⟩
  ·have ig:q=0:=by omega
   have AO:=ma ig;subst AO;refine It ((cD _ _ ⟨.slice none 0 0,rfl,?_⟩).qb);rw[show RQ succ [] q=[] by unfold RQ;rw[if_neg (by omega)]];exact⟨h.ext aC,aC.kp,Sl.nil _ _ _,(fun g hg=>by cases hg),dH,cy,by omega,by omega,(fun e=>by cases e),(fun e=>by cases e)⟩
theorem Yf {l b rest:List Bool}{a k n:Nat}(hb:l.drop a=b++rest)(hk:k+n≤b.length):(l.drop (a+k)).take n=(b.drop k).take n:=by
 rw[←List.drop_drop,hb,List.drop_append_of_le_length (by omega),List.take_append_of_le_length (by rw[List.length_drop];omega)]
theorem z2T {w:World}{r a:Nat}{s:Bytes}(p:MX)(hp:p.LS)(x:Nat)(hx:x<65536){la ra:Option Addr}{lc rc:Nat}(succ ref:List Nat)(hs:Lj succ)(bE:succ≠[])(j4:Lj ref)
  (q:Nat) (hq:q≤p.L6) (ma:q=0→ref=[]) (hG:KP w 1 (Nu .gamma) 298) (hU:KP w 2 (Nu .unary) 298) (dQ:Rd w (.slice la succ.length lc) 1 succ.length (succ.map Lg)) (kG:Rd w (.slice ra ref.length rc) 1 ref.length (ref.map Lg)) (fT:succ.length≤lc) (mm:ref.length≤rc)
  (hl:(L3 (My p x succ ref q)).length≤134217728) (rest:List Bool) (hb:(L0 s).drop a=L3 (Pn p x succ ref q)++rest) (h:Oz w r s (a+(L3 (Pn p x succ ref q)).length)):
  Le Tryz.prog 172 [lpV p,ptr r 0,I (a:Int),I (x:Int),.agg #[I (succ.length:Int),I (q:Int)],.slice la succ.length lc,.slice ra ref.length rc] w fun u w'=>u= .bool true∧Oz w' r s (a+(L3 (Pn p x succ ref q)).length)∧Kp (fun k=>k=r) w w':=by
 have lr0:=h.1.lt
 have l10:=hG.lt
 have l20:=hU.lt
 have gl:=hs.len
 have mA:=Vt p x (ref:=ref) q bE
 have yx:L3 (My p x succ ref q)=L3 (LX p succ.length q)++L3 (Pn p x succ ref q):=by rw[mA,Nj]
 have g8:(L3 (My p x succ ref q)).length=(L3 (LX p succ.length q)).length+(L3 (Pn p x succ ref q)).length:=by rw[mA,Nj,List.length_append]
 generalize L3 (Pn p x succ ref q)=TB at*
 have yz:succ.length≠0:=fun e=>bE (List.eq_nil_of_length_eq_zero e)
 refine KA (e:=[(0,_),(1,_),(2,_),(3,_),(4,_),(5,_),(6,_)]) Tryz.func172 rfl Tryz.ntmps172 rfl rfl (qN rfl (KL rfl rfl (Mz rfl (cs:=Um p) rfl) ?_))
 rintro _ w1 ⟨b7,rfl,kr,ad,bG⟩
 refine KL rfl rfl (Mz rfl (cs:=[I (succ.length:Int),I (q:Int)]) rfl) ?_
 rintro _ w2 ⟨b11,rfl,iu,af,aF⟩
 have aC:=ad.trans af
 have z1:=ad.size
 have z2:=af.size
 have dH:=af.KD bG
 have h2:Oz w2 r s (a+TB.length):=⟨aC.KD h.1,h.2⟩
 refine KE rfl (qM rfl (An rfl (L2 [.tmp 27] SZ rfl (OS h2) ?_)))
 rintro _ w2 ⟨rfl,rfl⟩
 refine KE rfl (qM rfl (L2 [] UY rfl (P5 w2) ?_))
 rintro _ w3 ⟨wp,F,rfl,kQ,ah,oI⟩
 have z3:=ah.size
 have aX:=aC.trans ah
 have kf:=ah.KD aF
 have jw:=ah.KD dH
 refine KE rfl (py (run_seq (qN rfl (An rfl (An rfl (An rfl (An rfl (qV (KK Np rfl) (qV (KJ U3 rfl rfl kf rfl) (qV (La (news:=Um p) Tj rfl OM rfl (jw.cells (n:=3) rfl) rfl) (L2 [.tmp 30,.tmp 31,.tmp 32,.tmp 33,.tmp 35,.tmp 36] z7D rfl (TV kQ p hp x hx succ ref hs j4 q hq ma (aX.KD hG) (aX.KD hU) (dQ.ext aX) (kG.ext aX) fT mm (by simpa using hl)) ?_)))))))))))
 rintro _ w4 ⟨rfl,F4,kP,av,ox⟩
 rw[List.nil_append] at kP
 have z4:=av.size
 have dh:Ext w2 w4:=ah.Kz av oI
 refine qV (LQ rfl rfl) (py (Kx rfl (It (qN rfl (An rfl (L2 [.tmp 40] z1c rfl (Rt kP) ?_))))))
 rintro _ w4 ⟨rfl,rfl⟩
 refine An rfl (qV (Ll rfl rfl) (qV (Ll rfl rfl) (KE rfl (KE rfl (py (Lc.qb (e:=[(1,_),(2,_),(7,_),(14,_),(15,_),(16,_),(17,_)]) ?_))))))
 refine qN rfl (An rfl ?_)
 have dM:(L7 (L3 (My p x succ ref q))).length≤16777217:=by rw[Lh];omega
 refine L2 [.tmp 44] z19 rfl (Re (L7 (L3 (My p x succ ref q))) (by omega) w4) ?_
 rintro _ w5 ⟨ow,rfl,qy,aR,JN⟩
 have gV:=dh.trans aR
 have bz:=aC.trans gV
 obtain⟨z,lV,nE,JO⟩:=N4 (L3 (My p x succ ref q))
 have yA:(L0 (L7 (L3 (My p x succ ref q)))).drop 0=L3 (LX p succ.length q)++(TB++List.replicate z false):=by
  rw[lV,List.drop_zero,yx,List.append_assoc]
 refine KE rfl (py (run_seq (qN rfl (An rfl (qV (La (news:=Um p) Tj rfl OM rfl ((gV.KD dH).cells (n:=3) rfl) rfl) (L2 [.tmp 47,.tmp 48] z7o rfl (WU qy p hp (bz.KD hG) (bz.KD hU) (by omega) (by omega) succ.length q (by omega) hq (fun e=>absurd e yz) _ yA) ?_))))))
 rintro _ w6 ⟨rfl,kg,aS⟩
 rw[Nat.zero_add] at kg
 have gW:Ext w2 w6:=gV.Kz aS (fun k e=>by omega)
 have rE:=N7 yA
 rw[Nat.zero_add] at rE
 generalize (L7 (L3 (My p x succ ref q)))=os at*
 have z6:=gW.size
 refine An rfl (qV (Ll rfl rfl) (qV (Ll rfl rfl) (KL rfl rfl (MN (cs:=[_,_]) N5 rfl) ?_)))
 rintro _ w7 ⟨b20,rfl,GV,bL,AP⟩
 refine KR rfl (Lo (news:=[I (succ.length:Int),I (q:Int)]) N5 rfl rfl rfl rfl AP (by simp)) ?_
 rintro w8 ⟨EA,bj⟩
 have gX:Ext w6 w8:=bL.Kz bj (fun k e=>by omega)
 have iD:=gW.trans gX
 have h8:Oz w8 r s (a+TB.length):=⟨iD.KD h2.1,h2.2⟩
 have sY:Oz w8 ow os (L3 (LX p succ.length q)).length:=⟨gX.KD kg.1,kg.2⟩
 have qA:SG w8 wp (L3 (My p x succ ref q)) F4:=((kP.ext aR).kp aS (fun i hi e=>by have:=kP.lt hi;omega)).ext gX
 refine KE rfl (qM rfl (An rfl (qV (LQ rfl rfl) (An rfl (An rfl (L2 [.tmp 55] WJ rfl (Q2 qA) ?_))))))
 rintro _ w8 ⟨rfl,rfl⟩
 refine An rfl (L2 [.tmp 57] SZ rfl (OS sY) ?_)
 rintro _ w8 ⟨rfl,rfl⟩
 refine qV (M8 rfl rfl (by omega)) ?_
 rw[show((L3 (My p x succ ref q)).length:Int)-((L3 (LX p succ.length q)).length:Int)=(TB.length:Int) by omega]
 refine An rfl (An rfl (qV (M8 rfl rfl (by omega)) ?_))
 rw[show((a+TB.length:Nat):Int)-(a:Int)=(TB.length:Int) by omega]
 refine qV (LQ rfl rfl) (Lq (qV (Lk rfl rfl) (py (Lc.qb (e:=[(1,_),(2,_),(14,_),(15,_),(19,_),(64,_)]) ?_))))
 refine Kx rfl (It (qN rfl (An rfl (An rfl (L2 [.tmp 65,.tmp 66] z4c rfl (TG h8 a (by have:=h8.2.1;omega)) ?_)))))
 rintro _ w9 ⟨rfl,h9,aJ⟩
 have tc:Oz w9 ow os (L3 (LX p succ.length q)).length:=⟨aJ.KD sY.1 (by omega),sY.2⟩
 refine py (run_seq (KB (MQ (α:=Nat) (0) (fun k=>[(1,ptr r 0),(15,I ((a+TB.length:Nat):Int)),(19,ptr ow 0)]) (fun k w'=>Oz w' r s (a+k)∧Oz w' ow os ((L3 (LX p succ.length q)).length+k)∧Kp (fun i=>i=r∨i=ow) w9 w'∧k≤TB.length) (fun k=>TB.length-k) ?hI ?hround)))
 case hI=>exact⟨h9,tc,Kp.refl _ _,Nat.zero_le _⟩
 case hround=>
  rintro k w10 ⟨fg,uK,au,JP⟩ ih
  try dsimp only
  refine run_seq (qN rfl (An rfl (L2 [.tmp 68] SZ rfl (OS fg) ?_)));rintro _ w10 ⟨rfl,rfl⟩;refine An rfl (qV (LW rfl rfl) (py (KQ rfl (fun h0=>?_) (fun h0=>?_))))
  ·refine It (KB (qN rfl (An rfl (An rfl (L2 [.tmp 73] SZ rfl (OS fg) ?_)))));rintro _ w10 ⟨rfl,rfl⟩;refine qV (M8 rfl rfl (by omega)) ?_;rw[show((a+TB.length:Nat):Int)-((a+k:Nat):Int)=((TB.length-k:Nat):Int) by omega];refine qV (ymi rfl rfl) ?_;rw[show min (64:Int) ((TB.length-k:Nat):Int)=((min 64 (TB.length-k):Nat):Int) by omega];obtain⟨n,hn,du,iX,AQ⟩:∃n,min 64 (TB.length-k)=n∧1≤n∧n≤64∧k+n≤TB.length:=⟨_,rfl,by omega,by omega,by omega⟩;rw[hn];have uL:=fg.2.1;have eT:=Yf hb AQ;have jS:=Yf rE AQ;have E8:a+TB.length≤8*s.length:=h8.2.1
   have te:(L3 (LX p succ.length q)).length+TB.length≤8*os.length:=by
    have e:=congrArg List.length rE;rw[List.length_drop,bitsT_length,List.length_append] at e;omega
   refine KE rfl (qM rfl (An rfl (An rfl (L2 [.tmp 78,.tmp 79] YZ rfl (Q0 fg n iX) ?_))));rintro v11 w11 hv
   have io:v11= .tuple #[KV (valB (((L0 s).drop (a+k)).take n)),I 0]∧Oz w11 r s (a+k+n)∧Kp (fun k=>k=r) w10 w11:=by
    rcases hv with hv|hv
    ·exact hv.2
    ·omega
   obtain⟨rfl,m4,aM⟩:=io;rw[eT];have AR:Oz w11 ow os ((L3 (LX p succ.length q)).length+k):=⟨aM.KD uK.1 (by omega),uK.2⟩;refine An rfl (qV (Ll rfl rfl) (qV (Ll rfl rfl) (KE rfl (KE rfl (qM rfl (An rfl (An rfl (L2 [.tmp 84,.tmp 85] YZ rfl (Q0 AR n iX) ?_))))))));rintro v12 w12 hv
   have io:v12= .tuple #[KV (valB (((L0 os).drop ((L3 (LX p succ.length q)).length+k)).take n)),I 0]∧Oz w12 ow os ((L3 (LX p succ.length q)).length+k+n)∧Kp (fun k=>k=ow) w11 w12:=by
    rcases hv with hv|hv
    ·exact hv.2
    ·omega
   obtain⟨rfl,AS,aU⟩:=io;rw[jS];have EB:Oz w12 r s (a+k+n):=⟨aU.KD m4.1 (by omega),m4.2⟩;refine An rfl (qV (Ll rfl rfl) (qV (Ll rfl rfl) (KE rfl (KE rfl (qM rfl (An rfl (An rfl (qV (LQ rfl rfl) (py (KQ rfl (fun h1=>?_) (fun h1=>?_)))))))))))
   ·exact absurd rfl h1
   ·refine It (KC ((ih (k+n) _ ⟨by rw[←Nat.add_assoc];exact EB,by rw[←Nat.add_assoc];exact AS,(au.trans (aM.KT fun i e=> .inl e)).trans (aU.KT fun i e=> .inr e),AQ⟩ (by omega)).qb))
  ·have lM:k=TB.length:=by omega
   subst lM;refine KO rfl (qN rfl (KE rfl (py (KG Tryz.func172 rfl ?_))));exact⟨_,rfl,rfl,fg,((aC.trans iD).kp.trans aJ).Kz au (fun i hi=>by rcases hi with e|e;exact .inr e;exact .inl (by omega))⟩
theorem U7 {w:World}{r a:Nat}{s:Bytes}(h:Oz w r s a)(p:MX)(hp:p.LS)(x:Nat)(hx:x<65536)(N:Nat)(hN:N≤65536){ra:Option Addr}{rc:Nat}(succ ref:List Nat)(hs:Lj succ)(bE:succ≠[])(iB:succ.length<50)(AU:∀y∈succ,y<N)(j4:Lj ref)
  (q:Nat) (hq:q≤p.L6) (ma:q=0→ref=[]) (hG:KP w 1 (Nu .gamma) 298) (hU:KP w 2 (Nu .unary) 298) (dw:¬1=r) (et:¬2=r) (dX:∀w2,Kp (fun k=>k=r) w w2→Rd w2 (.slice ra ref.length rc) 1 ref.length (ref.map Lg)) (mm:ref.length≤rc)
  (hl:(L3 (My p x succ ref q)).length≤134217728) (rest:List Bool) (hb:(L0 s).drop a=L3 (Pn p x succ ref q)++rest):
  Le Tryz.prog 131 [ptr r 0,I (x:Int),I (N:Int),.agg #[I (succ.length:Int),I (q:Int)],.slice ra ref.length rc,lpV p] w fun u w'=>∃v,u= .tuple #[v,I 0]∧Sl w' v 46 1 succ.length (succ.map Lg)∧(∀g,v.ownBlock=some g→w.heap.size≤g)∧Oz w' r s (a+(L3 (Pn p x succ ref q)).length)∧Kp (fun k=>k=r) w w':=by
 obtain⟨g1,g2,g3,g4⟩:=id hp
 have lr0:=h.1.lt
 have l10:=hG.lt
 have l20:=hU.lt
 have gl:=hs.len
 have gz:=j4.len
 have yz:0<succ.length:=List.length_pos_iff.2 bE
 refine KA (e:=[(0,_),(1,_),(2,_),(3,_),(4,_),(5,_)]) Tryz.func131 rfl Tryz.ntmps131 rfl rfl (qN rfl (KL rfl rfl (Mz rfl (cs:=[I (succ.length:Int),I (q:Int)]) rfl) ?_))
 rintro _ w1 ⟨b9,rfl,nK,ad,cy⟩
 refine KL rfl rfl (Mz rfl (cs:=Um p) rfl) ?_
 rintro _ w2 ⟨b11,rfl,iu,af,aF⟩
 replace aF:KP w2 b11 [I (p.L6:Int),I (p.interval:Int),I (p.zeta:Int)] 245:=aF
 have aC:=ad.trans af
 have z1:=ad.size
 have z2:=af.size
 have cM:=af.KD cy
 have l9:=cM.lt
 have l11:=aF.lt
 have l90:=cy.lt
 refine KE rfl (KE rfl (py (run_seq (Lp (fun e' w'=>e'=[(0,ptr r 0),(1,I (x:Int)),(2,I (N:Int)),(4,.slice ra ref.length rc),(9,ptr b9 0),(11,ptr b11 0)]∧Ext w2 w') ?kR (fun kR=>?AW)))))
 case kR=>
  rintro e' w3 ⟨rfl,ah⟩;have c6:=aC.trans ah;have h3:Oz w3 r s a:=⟨c6.KD h.1,h.2⟩;have bZ:=ah.KD cM;have kf:=ah.KD aF;have z3:=ah.size;refine qN rfl (An rfl (L2 [.tmp 81] SZ rfl (OS h3) ?_));rintro _ w3 ⟨rfl,rfl⟩;refine KE rfl (qM rfl (An rfl (qV (Nc (parts:=[(0,.tmp 83)]) (cs:=[_,_]) z9x rfl z9I rfl rfl) (KL rfl rfl (Mz rfl (cs:=[ptr r 0,.bool false]) rfl) ?_))));rintro _ w4 ⟨tb,rfl,GW,aB,GX⟩;have z4:=aB.size;have cF:=c6.trans aB;have h4:Wh w4 tb r s a:=⟨GX,⟨aB.KD h3.1,h3.2⟩,by omega⟩;refine KE rfl (qM rfl (An rfl (An rfl (qV (La (news:=[I (succ.length:Int),I (q:Int)]) Y1 rfl N5 rfl ((aB.KD bZ).cells (n:=2) rfl) rfl) (An rfl (qV (La (news:=Um p) Tj rfl OM rfl ((aB.KD kf).cells (n:=3) rfl) rfl) (L2 [.tmp 86,.tmp 87,.tmp 88,.tmp 89,.tmp 90] z9E rfl (z30 h4 (cF.KD hG) dw (by omega) p hp x hx succ ref hs bE iB j4 q hq ma (fun w2 k=>dX w2 (cF.kp.trans k)) mm rest hb) ?_)))))));rintro v w5 ⟨fZ,rq,EC,aj⟩;have cq:Kp (fun k=>k=r) w w5:=cF.kp.Kz aj (fun i hi=>by rcases hi with e|e;exact .inl (by omega);exact .inr e);have gp:=aj.KD (aB.KD bZ) (by omega);have uM:=aj.KD (aB.KD kf) (by omega);have ED:=EC.KD;have GY:=cq.KD hG dw;have GZ:=cq.KD hU et;have bY:=dX w5 cq;have u3:∀g,v.ownBlock=some g→w.heap.size≤g:=fun g hg=>by have:=rq g hg;have:=cF.size;omega
  obtain⟨va,vc,rfl,yB⟩:=fZ.rd.shape
  have AV:succ.length≤vc:=by
   rcases fZ.shape with⟨-,h0⟩|⟨g,c1,hv,fm⟩
   ·omega
   ·cases hv;exact fm
  refine KE rfl (py (run_seq (qN rfl (An rfl (qV (KZ rfl) (qV (KK OA rfl) (qV ((by first|exact KJ U4 rfl rfl gp rfl|exact KJ U4 rfl rfl ED rfl)) ?_)))))));refine An rfl (An rfl (qV (LG L9 rfl) (qV (KK O8 rfl) (qV ((by first|exact KJ U3 rfl rfl gp rfl|exact KJ U3 rfl rfl ED rfl)) ?_))));refine qV (LQ rfl rfl) (Lq (qV (Lk rfl rfl) (An rfl (An rfl (L2 [.tmp 104] Zk rfl (QI _ succ hs w5 fZ.rd) ?_)))));rintro _ w5 ⟨rfl,rfl⟩;refine qV ((by first|exact LP rfl|exact Nq rfl)) ?_;refine qV (Lk rfl rfl) (An rfl (An rfl (qV (LG L9 rfl) (qV (Mc rfl rfl) (Lq (qV (Lk rfl rfl) (An rfl (An rfl (An rfl (qV (LG L9 rfl) (qV (M8 rfl rfl (by omega)) ?_)))))))))));rw[show(succ.length:Int)-1=((succ.length-1:Nat):Int) by omega];obtain⟨y,hy⟩:∃y,succ[succ.length-1]? =some y:=⟨_,List.getElem?_eq_getElem (by omega)⟩;have JQ:=AU y (List.mem_of_getElem? hy)
  obtain⟨g5,c5,e5⟩:∃g c,Value.slice va succ.length vc= .slice (some ⟨g,0,none⟩) succ.length c:=by
   rcases fZ.shape with⟨-,h0⟩|⟨g,c,e,hc⟩
   ·omega
   ·exact⟨g,c,e⟩
  cases e5;refine qV (Lt L9 KY rfl rfl (by omega)) (qV (Lb Mg rfl rfl (LN fZ.rd (show(succ.map Lg)[succ.length-1]? =some (Lg y) by rw[List.getElem?_map,hy];rfl))) ?_);refine qV (Ln rfl Mg U3 (by omega)) (An rfl (qV (OL rfl rfl) (Lq (qV (Lk rfl rfl) (An rfl (qV (La (news:=Um p) Tj rfl OM rfl (uM.cells (n:=3) rfl) rfl) (An rfl (An rfl (An rfl (qV (La (news:=[I (succ.length:Int),I (q:Int)]) Y1 rfl N5 rfl (gp.cells (n:=2) rfl) rfl) (An rfl (An rfl (L2 [.tmp 125,.tmp 126,.tmp 127,.tmp 128,.tmp 129,.tmp 130,.tmp 131] zan rfl (z2T p hp x hx succ ref hs bE j4 q hq ma GY GZ fZ.rd bY AV mm hl rest hb EC.rd) ?_)))))))))))));rintro _ w6 ⟨rfl,h6,aS⟩;refine qV ((by first|exact LP rfl|exact Nq rfl)) ?_;refine qV (Lk rfl rfl) (py (Lc.qb (e:=[(0,_),(14,_),(16,_),(134,_)]) ?_));refine Kx rfl (It (qN rfl (An rfl (KE rfl (KE rfl (py (KG Tryz.func131 rfl ?_)))))));exact⟨_,rfl,_,rfl,fZ.kp aS (fun g hg e=>by have:=u3 g hg;omega),u3,h6,cq.trans aS⟩
 case AW=>
  refine KB (qN rfl (An rfl (qV (LO Oi rfl rfl) (KE rfl (py (Kx rfl (run_seq (qN rfl (qV (La (news:=Um p) Tj rfl OM rfl (aF.cells (n:=3) rfl) rfl) (L2 [.tmp 21] YE rfl (OI p hp w2) ?_))))))))));rintro _ w3 ⟨rfl,ah⟩;refine qV (LQ rfl rfl) (An rfl (An rfl (L2 [.tmp 25] z1O rfl (Qg x hx w3) ?_)));rintro _ w3 ⟨rfl,rfl⟩;refine qV ((by first|exact LP rfl|exact Nq rfl)) ?_;refine qV (Lk rfl rfl) (An rfl (An rfl (qV (LW rfl rfl) (Lq (qV (Lk rfl rfl) (An rfl (An rfl (qV (LH rfl rfl) (Lq (qV (Lk rfl rfl) (An rfl (An rfl (L2 [.tmp 38] Zk rfl (QI _ ref j4 w3 (dX w3 (aC.trans ah).kp)) ?_)))))))))))));rintro _ w3 ⟨rfl,rfl⟩;refine qV ((by first|exact LP rfl|exact Nq rfl)) ?_;refine qV (Lk rfl rfl) (KE rfl (py (Lc.qb (e:=[(0,_),(1,_),(2,_),(4,_),(9,_),(11,_),(12,_),(13,_),(20,_)]) ?_)));refine Kx rfl (KF rfl (qV (KK O8 rfl) (qV ((by first|exact KJ U3 rfl rfl (ah.KD cM) rfl|exact KJ U3 rfl rfl (ah.KD aF) rfl)) ?_)));refine qV (LW rfl rfl) (Lq (An rfl (qV (KK O8 rfl) (qV ((by first|exact KJ U3 rfl rfl (ah.KD cM) rfl|exact KJ U3 rfl rfl (ah.KD aF) rfl)) ?_))));refine qV (LH rfl rfl) (Lq (qV (Lk rfl rfl) (An rfl (qV (KK Np rfl) (qV ((by first|exact KJ U3 rfl rfl (ah.KD cM) rfl|exact KJ U3 rfl rfl (ah.KD aF) rfl)) ?_)))));refine qV (LW rfl rfl) (Lq (qV (Lk rfl rfl) (An rfl (qV (KK Np rfl) (qV ((by first|exact KJ U3 rfl rfl (ah.KD cM) rfl|exact KJ U3 rfl rfl (ah.KD aF) rfl)) ?_)))));refine qV (KK NY rfl) (qV ((by first|exact KJ U3 rfl rfl (ah.KD cM) rfl|exact KJ U3 rfl rfl (ah.KD aF) rfl)) ?_);refine qV (LH rfl rfl) (Lq (qV (Lk rfl rfl) (An rfl ?_)));rcases Nat.eq_zero_or_pos q with e0|e0
  ·have H0:ref.length=0:=by rw[ma e0];rfl
   refine qV (KK Np rfl) (qV ((by first|exact KJ U3 rfl rfl (ah.KD cM) rfl|exact KJ U3 rfl rfl (ah.KD aF) rfl)) ?_);refine qV (Mc rfl rfl) (MC (An rfl (An rfl (qV (LG L9 rfl) (qV (LH rfl rfl) (Lq (qV (LK rfl rfl) (qV (Lk rfl rfl) (KE rfl (py (Lc.qb (e:=[(0,_),(1,_),(2,_),(4,_),(9,_),(11,_),(12,_),(13,_),(20,_)]) ?_)))))))))));refine Kx rfl (qN rfl (qV (KK O8 rfl) (qV ((by first|exact KJ U3 rfl rfl (ah.KD cM) rfl|exact KJ U3 rfl rfl (ah.KD aF) rfl)) ?_)));refine qV (Mc rfl rfl) (Lq (An rfl (qS (qS (qS (qV (Lk rfl rfl) (KE rfl (py (Kx rfl (It (KC ?_)))))))))));exact(kR _ _ ⟨rfl,ah⟩).qb
  ·refine qV (KK Np rfl) (qV ((by first|exact KJ U3 rfl rfl (ah.KD cM) rfl|exact KJ U3 rfl rfl (ah.KD aF) rfl)) ?_);refine qV (Mc rfl rfl) (Lq (An rfl (qS (qS (qS (qV (Lk rfl rfl) (qV (Lk rfl rfl) (KE rfl (py (Lc.qb (e:=[(0,_),(1,_),(2,_),(4,_),(9,_),(11,_),(12,_),(13,_),(20,_)]) ?_))))))))));refine Kx rfl (qN rfl (qV (KK O8 rfl) (qV ((by first|exact KJ U3 rfl rfl (ah.KD cM) rfl|exact KJ U3 rfl rfl (ah.KD aF) rfl)) ?_)));refine qV (Mc rfl rfl) (Lq (An rfl (qS (qS (qS (qV (Lk rfl rfl) (KE rfl (py (Kx rfl (It (KC ?_)))))))))));exact(kR _ _ ⟨rfl,ah⟩).qb
theorem XB {w:World}{r:Nat}(p:MX)(hp:p.LS)(x:Nat)(hx:x<65536)(N:Nat)(hN:N≤65536):
  Le Tryz.prog 131 [ptr r 0,I (x:Int),I (N:Int),.agg #[I ((0:Nat):Int),I ((0:Nat):Int)],.slice none 0 0,lpV p] w fun u w'=>u= .tuple #[.slice none 0 0,I 0]∧Ext w w':=by
 obtain⟨g1,g2,g3,g4⟩:=id hp
 have rh:([]:List Nat).length=0:=rfl
 refine KA (e:=[(0,_),(1,_),(2,_),(3,_),(4,_),(5,_)]) Tryz.func131 rfl Tryz.ntmps131 rfl rfl (qN rfl (KL rfl rfl (Mz rfl (cs:=[I ((0:Nat):Int),I ((0:Nat):Int)]) rfl) ?_))
 rintro _ w1 ⟨b9,rfl,nK,ad,cy⟩
 refine KL rfl rfl (Mz rfl (cs:=Um p) rfl) ?_
 rintro _ w2 ⟨b11,rfl,iu,af,aF⟩
 replace aF:KP w2 b11 [I (p.L6:Int),I (p.interval:Int),I (p.zeta:Int)] 245:=aF
 have aC:=ad.trans af
 have cM:=af.KD cy
 refine KE rfl (KE rfl (py (run_seq (KB (qN rfl (An rfl (qV (LO Oi rfl rfl) (KE rfl (py (Kx rfl (run_seq (qN rfl (qV (La (news:=Um p) Tj rfl OM rfl (aF.cells (n:=3) rfl) rfl) ?_)))))))))))))
 refine L2 [.tmp 21] YE rfl (OI p hp w2) ?_
 rintro _ w3 ⟨rfl,ah⟩
 refine qV (LQ rfl rfl) (An rfl (An rfl (L2 [.tmp 25] z1O rfl (Qg x hx w3) ?_)))
 rintro _ w3 ⟨rfl,rfl⟩
 refine qV ((by first|exact LP rfl|exact Nq rfl)) ?_
 refine qV (Lk rfl rfl) (An rfl (An rfl (qV (LW rfl rfl) (Lq (qV (Lk rfl rfl) (An rfl (An rfl (qV (LH rfl rfl) (Lq (qV (Lk rfl rfl) (An rfl (An rfl (L2 [.tmp 38] Zk rfl (QI (.slice none 0 0) [] ⟨List.Pairwise.nil,fun y h=>(by cases h)⟩ w3 Q7) ?_)))))))))))))
 rintro _ w3 ⟨rfl,rfl⟩
 refine qV ((by first|exact LP rfl|exact Nq rfl)) ?_
 refine qV (Lk rfl rfl) (KE rfl (py (Lc.qb (e:=[(0,_),(1,_),(2,_),(4,_),(9,_),(11,_),(12,_),(13,_),(20,_)]) ?_)))
 refine Kx rfl (KF rfl (qV (KK O8 rfl) (qV ((by first|exact KJ U3 rfl rfl (ah.KD cM) rfl|exact KJ U3 rfl rfl (ah.KD aF) rfl)) ?_)))
 refine qV (LW rfl rfl) (Lq (An rfl (qV (KK O8 rfl) (qV ((by first|exact KJ U3 rfl rfl (ah.KD cM) rfl|exact KJ U3 rfl rfl (ah.KD aF) rfl)) ?_))))
 refine qV (LH rfl rfl) (Lq (qV (Lk rfl rfl) (An rfl (qV (KK Np rfl) (qV ((by first|exact KJ U3 rfl rfl (ah.KD cM) rfl|exact KJ U3 rfl rfl (ah.KD aF) rfl)) ?_)))))
 refine qV (LW rfl rfl) (Lq (qV (Lk rfl rfl) (An rfl (qV (KK Np rfl) (qV ((by first|exact KJ U3 rfl rfl (ah.KD cM) rfl|exact KJ U3 rfl rfl (ah.KD aF) rfl)) ?_)))))
 refine qV (KK NY rfl) (qV ((by first|exact KJ U3 rfl rfl (ah.KD cM) rfl|exact KJ U3 rfl rfl (ah.KD aF) rfl)) ?_)
 refine qV (LH rfl rfl) (Lq (qV (Lk rfl rfl) (An rfl (qV (KK Np rfl) (qV ((by first|exact KJ U3 rfl rfl (ah.KD cM) rfl|exact KJ U3 rfl rfl (ah.KD aF) rfl)) ?_)))))
 refine qV (Mc rfl rfl) (MC (An rfl (An rfl (qV (LG L9 rfl) (qV (LH rfl rfl) (Lq (qV (LK rfl rfl) (qV (Lk rfl rfl) (KE rfl (py (Lc.qb (e:=[(0,_),(1,_),(2,_),(4,_),(9,_),(11,_),(12,_),(13,_),(20,_)]) ?_)))))))))))
 refine Kx rfl (qN rfl (qV (KK O8 rfl) (qV ((by first|exact KJ U3 rfl rfl (ah.KD cM) rfl|exact KJ U3 rfl rfl (ah.KD aF) rfl)) ?_)))
 refine qV (Mc rfl rfl) (MC (An rfl (qV (KK Np rfl) (qV ((by first|exact KJ U3 rfl rfl (ah.KD cM) rfl|exact KJ U3 rfl rfl (ah.KD aF) rfl)) ?_))))
 refine qV (Mc rfl rfl) (MC (qV (LK rfl rfl) (KE rfl (py (KS rfl (qN rfl (KE rfl (KE rfl (py (KG Tryz.func131 rfl ?_))))))))))
 exact⟨_,rfl,rfl,aC.trans ah⟩
/-! ### A packer's cells -/
def Qy (q:Value×Nat):List Value:=[q.1,I (q.2:Int)]
def Sb (p:LJ)(R:List (Value×Nat))(n wp ed:Nat):List Value:=PO p++(R.flatMap Qy++[I (n:Int),ptr wp 0,I (ed:Int),I 0])
theorem MK:∀R:List (Value×Nat),(R.flatMap Qy).length=R.length*2
 |[]=>rfl
 |q::R=>by rw[List.flatMap_cons,List.length_append,MK R,List.length_cons,show(Qy q).length=2 from rfl];omega
theorem Ye:∀(R:List (Value×Nat)) (i j:Nat) (q:Value×Nat) (u:Value),R[i]? =some q→(Qy q)[j]? =some u→(R.flatMap Qy)[i*2+j]? =some u
 |[],i,j,q,u,h,_=>by simp at h
 | a :: R, 0, j, q, u, h, hj => by
   rw[List.getElem?_cons_zero] at h;cases h;have:=(List.getElem?_eq_some_iff.1 hj).1;rw[List.flatMap_cons,List.getElem?_append_left (by omega),Nat.zero_mul,Nat.zero_add]
   exact hj
 | a :: R, i + 1, j, q, u, h, hj => by
   rw[List.getElem?_cons_succ] at h;rw[List.flatMap_cons,List.getElem?_append_right (by show 2≤_;omega),show(i+1)*2+j-(Qy a).length=i*2+j by show _-2=_;omega];exact Ye R i j q u h hj
theorem Z4:∀(R:List (Value×Nat)) (i:Nat) (x:Value×Nat),i<R.length→(R.set i x).flatMap Qy=(R.flatMap Qy).take (i*2)++Qy x++(R.flatMap Qy).drop (i*2+2)
 |[],i,x,h=>by simp at h
 | a :: R, 0, x, h => by
   rw[List.set_cons_zero,List.flatMap_cons,List.flatMap_cons,Nat.zero_mul,List.take_zero,List.nil_append,Nat.zero_add,List.drop_left' (show(Qy a).length=2 from rfl)]
 | a :: R, i + 1, x, h => by
   rw[List.length_cons] at h;rw[List.set_cons_succ,List.flatMap_cons,List.flatMap_cons,Z4 R i x (by omega)];rw[show(i+1)*2=(Qy a).length+i*2 by show _=2+_;omega,List.take_length_add_append,Nat.add_assoc,List.drop_length_add_append,List.append_assoc,List.append_assoc,List.append_assoc]
section
variable {p:LJ}{R:List (Value×Nat)}{n wp ed:Nat}
theorem ZR (hR:R.length=17):(Sb p R n wp ed).length=43:=by
 unfold Sb
 rw[List.length_append,List.length_append,MK,hR];rfl
theorem UJ (hR:R.length=17)(j:Nat):(Sb p R n wp ed)[39+j]? =[I (n:Int),ptr wp 0,I (ed:Int),I 0][j]? :=by
 unfold Sb
 rw[List.getElem?_append_right (by show 5≤_;omega),List.getElem?_append_right (by rw[MK,hR];show _≤_-5;omega),MK,hR]
 congr 1
 show 39+j-5-17*2=j
 omega
theorem z0O (hR:R.length=17):(Sb p R n wp ed)[39]? =some (I (n:Int)):=UJ hR 0
theorem z81 (hR:R.length=17):(Sb p R n wp ed)[40]? =some (ptr wp 0):=UJ hR 1
theorem zbf (hR:R.length=17):(Sb p R n wp ed)[41]? =some (I (ed:Int)):=UJ hR 2
theorem zcJ (hR:R.length=17):(Sb p R n wp ed)[42]? =some (I 0):=UJ hR 3
theorem z5V (hR:R.length=17){i:Nat}{v:Value}{c:Nat}(h:R[i]? =some (v,c))(j:Nat)(u:Value)(hj:[v,I (c:Int)][j]? =some u):(Sb p R n wp ed)[5+i*2+j]? =some u:=by
 have hi:=(List.getElem?_eq_some_iff.1 h).1
 have jT:j<2:=(List.getElem?_eq_some_iff.1 hj).1
 unfold Sb
 rw[List.getElem?_append_right (by show 5≤_;omega),show 5+i*2+j-(PO p).length=i*2+j by show _-5=_;omega,List.getElem?_append_left (by rw[MK];omega)]
 exact Ye R i j _ u h hj
theorem z2m (hR:R.length=17){i:Nat}(hi:i<17)(v:Value)(c:Nat):M9 (Sb p R n wp ed) (5+i*2) [v,I (c:Int)]=Sb p (R.set i (v,c)) n wp ed:=by
 unfold Sb M9
 rw[Z4 R i (v,c) (by omega)]
 rw[show 5+i*2=(PO p).length+i*2 from rfl,List.take_length_add_append,show(PO p).length+i*2+[v,I (c:Int)].length=(PO p).length+(i*2+2) from rfl,List.drop_length_add_append]
 rw[List.take_append_of_le_length (by rw[MK];omega),List.drop_append_of_le_length (by rw[MK];omega)]
 simp only[List.append_assoc]
 rfl
theorem z6C (hR:R.length=17)(m:Nat):(Sb p R n wp ed).set 39 (I (m:Int))=Sb p R m wp ed:=by
 unfold Sb
 rw[List.set_append_right _ _ (by show 5≤_;omega),List.set_append_right _ _ (by rw[MK,hR];show _≤39-5;omega),MK,hR]
 rfl
theorem z6V (hR:R.length=17)(m:Nat):(Sb p R n wp ed).set 41 (I (m:Int))=Sb p R n wp m:=by
 unfold Sb
 rw[List.set_append_right _ _ (by show 5≤_;omega),List.set_append_right _ _ (by rw[MK,hR];show _≤41-5;omega),MK,hR]
 rfl
end
theorem z58 {w:World}{k:Nat}{p:LJ}{R:List (Value×Nat)}{n wp ed:Nat}(hB:KP w k (Sb p R n wp ed) 255)(hR:R.length=17)(hn:n≤65536)(a:Option Addr)(m cp c:Nat):
  Le Tryz.prog 140 [ptr k 5,.slice a m cp,I (c:Int)] w fun u w'=>u= .tuple #[]∧KP w' k (Sb p (R.set (n%17) (.slice a m cp,c)) (n+1) wp ed) 255∧Kp (fun i=>i=k) w w':=by
 refine KA (e:=[(0,_),(1,_),(2,_)]) Tryz.func140 rfl Tryz.ntmps140 rfl rfl ?_
 have hg:=Ext.L4 w
 have df:(R.set (n%17) (.slice a m cp,c)).length=17:=by rw[List.length_set];exact hR
 refine run_seq (L5 [12] (fun w'=>Ext w w') (by kernel_rfl) rfl (qL [9,10,11,12] 0 rfl (fun _ h=>KM rfl) hg (qL [2,3,4,5,11,12] 1 rfl (fun _ h=>KM rfl) hg (qL [3,4,5,11,12] 2 rfl (fun _ h=>KZ rfl) hg (qL [4,5,11,12] 3 rfl (fun _ h=>KK Pz rfl) hg (qL [8,11,12] 6 rfl (fun _ h=>KM rfl) hg (qL [8,11,12] 7 rfl (fun _ h=>KM rfl) hg (qL [11,12] 8 rfl (fun _ h=>Nc (parts:=[(0,.tmp 12),(1,.tmp 13)]) (cs:=[_,_]) LL rfl z7W rfl rfl) hg (qL [10,11,12] 9 rfl (fun _ h=>KZ rfl) hg (qL [11,12] 10 rfl (fun _ h=>KK z18 rfl) hg (qL [5,11,12] 4 rfl (fun _ h=>KJ U3 rfl rfl (h.KD hB) (z0O hR)) hg (qL [11,12] 5 rfl (fun _ h=>yre rfl rfl (by omega)) hg (qL [12] 11 rfl (fun _ h=>yia zaS LL rfl rfl (by omega)) hg ?_)))))))))))))
 refine Lu [12] (by kernel_rfl) (by kernel_rfl) (qO 12 (Lm (i:=12) rfl rfl (Lo (news:=[.slice a m cp,I (c:Int)]) LL rfl rfl rfl rfl (hg.KD hB) (by rw[ZR hR];show 5+n%17*2+2≤43;omega)) ?_))
 rintro w1 ⟨ai,aN⟩
 refine⟨trivial,?_⟩
 replace ai:KP w1 k (M9 (Sb p R n wp ed) (5+n%17*2) [.slice a m cp,I (c:Int)]) 255:=ai
 rw[z2m hR (Nat.mod_lt _ (by decide))] at ai
 refine qE (KF rfl (An rfl (qV (KZ rfl) (qV (KK Pz rfl) (qV (KJ U3 rfl rfl ai (z0O df)) (Lz rfl rfl (qV (KZ rfl) (qV (KK Pz rfl) (KR rfl (Mn LC rfl rfl rfl ai (by rw[ZR df];decide)) ?_)))))))))
 rintro w2 ⟨ak,am⟩
 replace ak:KP w2 k ((Sb p (R.set (n%17) (.slice a m cp,c)) n wp ed).set 39 (I ((n+1:Nat):Int))) 255:=ak
 rw[z6C df] at ak
 refine py (LZ Tryz.func140 rfl ?_)
 exact⟨_,rfl,rfl,ak,(hg.kp.trans aN).trans am⟩
def OK (p:LJ)(m size c:Nat):Bool:=decide (0<m∧m≤p.most∧0<size∧size≤p.most∧c<p.chain)
theorem R9 {w:World}{k:Nat}{p:LJ}{R:List (Value×Nat)}{n wp ed:Nat}(hB:KP w k (Sb p R n wp ed) 255)(hR:R.length=17)(hn:n≤65536)(hp:p.LS)(ref size:Nat)(h1:1≤ref)(h2:ref≤p.L6)
  {a:Option Addr} {m cp c:Nat} (hq:ref≤n→R[(n-ref)%17]? =some (.slice a m cp,c)):
  Le Tryz.prog 138 [ptr k 5,I (ref:Int),I (size:Int),bpV p] w fun u w'=>u=(if ref≤n then .tuple #[.agg #[.slice a m cp,I (c:Int)],.bool (OK p m size c)] else .tuple #[.agg #[.slice none 0 0,I 0],.bool false])∧Ext w w':=by
 have uN:p.L6≤16:=hp.1.1
 refine KA (e:=[(0,_),(1,_),(2,_),(3,_)]) Tryz.func138 rfl Tryz.ntmps138 rfl rfl (qN rfl (KL rfl rfl (Mz rfl (cs:=PO p) rfl) ?_))
 rintro _ w1 ⟨b7,rfl,kr,ad,bG⟩
 refine KL rfl rfl (MN (cs:=[_,_]) LL rfl) ?_
 rintro _ w2 ⟨b8,rfl,iU,af,bU⟩
 have z1:=ad.size
 have z2:=af.size
 have l7:=bG.lt
 have l8:=bU.lt
 have aC:=ad.trans af
 have dH:=af.KD bG
 replace dH:KP w2 b7 [I (p.L6:Int),I (p.chain:Int),I (p.interval:Int),I (p.zeta:Int),I (p.most:Int)] 77:=dH
 replace bU:KP w2 b8 [.slice none 0 0,I 0] 250:=bU
 have rF:=aC.KD hB
 have aa:=Ext.L4 w2
 refine KE rfl (py (run_seq (run_seq ?_)))
 rcases Nat.lt_or_ge n ref with aQ|je
 ·refine KN (fun w'=>Ext w2 w') (by kernel_rfl) rfl (KH 0 rfl (KM rfl) aa (KH 1 rfl (LW rfl rfl) aa (Pw (KH 2 rfl (KM rfl) aa (KH 3 rfl (KM rfl) aa (KH 4 rfl (KM rfl) aa (KH 5 rfl (KZ rfl) aa (KH 6 rfl (KK Pz rfl) aa (KH 8 rfl (KK UU rfl) aa (qT 9 rfl (fun _ h=>KJ U3 rfl rfl (h.KD dH) rfl) aa (qT 7 rfl (fun _ h=>KJ U3 rfl rfl (h.KD rF) (z0O hR)) aa (KH 10 rfl (ymi rfl rfl) aa (KH 11 rfl (LH rfl rfl) aa ?_)))))))))))));refine Pf (KH 12 rfl (Lk rfl rfl) aa (qE (KS rfl (qN rfl (qV (Nc (parts:=[]) (cs:=[_,_]) LL rfl z7W rfl rfl) ?_)))));have rG:=aa.KD bU;refine KR rfl (Lo (news:=[.slice none 0 0,I 0]) LL rfl rfl rfl rfl rG (by simp)) ?_;rintro w3 ⟨rH,ax⟩;replace rH:KP w3 b8 [.slice none 0 0,I 0] 250:=rH;refine KE rfl (py (L8 Tryz.func138 (.cell PJ rfl LL rfl (KP.cells (n:=2) rH (news:=[_,_]) rfl) rfl (.tmp rfl .nil)) ?_));rw[if_neg (by omega)];exact⟨_,rfl,rfl,(aC.trans aa).Kz ax (fun i e=>by omega)⟩
 ·have gj:=hq je;rw[if_pos je];refine KN (fun w'=>Ext w2 w') (by kernel_rfl) rfl (KH 0 rfl (KM rfl) aa (KH 1 rfl (LW rfl rfl) aa (Pw (KH 2 rfl (KM rfl) aa (KH 3 rfl (KM rfl) aa (KH 4 rfl (KM rfl) aa (KH 5 rfl (KZ rfl) aa (KH 6 rfl (KK Pz rfl) aa (KH 8 rfl (KK UU rfl) aa (qT 9 rfl (fun _ h=>KJ U3 rfl rfl (h.KD dH) rfl) aa (qT 7 rfl (fun _ h=>KJ U3 rfl rfl (h.KD rF) (z0O hR)) aa (KH 10 rfl (ymi rfl rfl) aa (KH 11 rfl (LH rfl rfl) aa ?_)))))))))))));refine Pw (KH 12 rfl (Lk rfl rfl) aa (qE (Kx rfl (It (run_seq ?_)))));have ag:=aa.trans (Ext.L4 w2.drew);have eH:=Ext.L4 w2.drew;have mB:=aa.KD rF;refine L5 [13] (fun w'=>Ext w2.drew w') (by kernel_rfl) rfl (qL [8,9,10,11,13] 0 rfl (fun _ h=>KM rfl) eH (qL [2,3,4,6,7,10,11,13] 1 rfl (fun _ h=>KM rfl) eH (qL [3,4,6,7,10,11,13] 2 rfl (fun _ h=>KZ rfl) eH (qL [4,6,7,10,11,13] 3 rfl (fun _ h=>KK Pz rfl) eH (qL [6,7,10,11,13] 5 rfl (fun _ h=>KM rfl) eH (qL [9,10,11,13] 8 rfl (fun _ h=>KZ rfl) eH (qL [10,11,13] 9 rfl (fun _ h=>KK z18 rfl) eH (qL [6,7,10,11,13] 4 rfl (fun _ h=>KJ U3 rfl rfl (h.KD mB) (z0O hR)) eH (qL [7,10,11,13] 6 rfl (fun _ h=>M8 rfl rfl (by omega)) eH ?_)))))))));rw[show(n:Int)-(ref:Int)=((n-ref:Nat):Int) by omega];refine qL [10,11,13] 7 rfl (fun _ h=>yre rfl rfl (by omega)) eH (qL [11,13] 10 rfl (fun _ h=>yia zaS LL rfl rfl (by omega)) eH (qL [13] 11 rfl (fun _ h=>La (news:=[.slice a m cp,I (c:Int)]) PJ rfl LL rfl (fun j u hj=>by rw[(h.KD mB).cell];exact z5V hR gj j u hj) rfl) eH ?_));refine Mp (i:=12) (by kernel_rfl) (LM (i:=12) rfl rfl rfl (MN (cs:=[_,_]) LL rfl) ?_);rintro _ w3 ⟨b10,rfl,zM,ah,dU⟩;refine⟨eH.trans ah,?_⟩;refine Lu [13] (by kernel_rfl) (by kernel_rfl) (qO 13 (Lm (i:=13) rfl rfl (Lo (news:=[.slice a m cp,I (c:Int)]) LL rfl rfl rfl rfl dU (by simp)) ?_));rintro w4 ⟨aV,av⟩;refine⟨trivial,?_⟩;replace aV:KP w4 b10 [.slice a m cp,I (c:Int)] 250:=aV;have z23:=ag.size;have z3:=ah.size;have dh:Ext w2 w4:=(ag.trans ah).Kz av (fun i e=>by omega);have z4:=dh.size;have dZ:=dh.KD bU;have bQ:=dh.KD dH;have ae:=Ext.L4 w4;refine qE (Lc.qb (e:=[(2,_),(7,_),(8,_),(9,_),(10,_)]) ?_);refine run_seq ?_;rcases Nat.eq_zero_or_pos m with c0|c0
  ·refine KN (fun w'=>Kp (fun i=>i=b8) w4 w') (by kernel_rfl) rfl (qT 0 rfl (fun _ hS=>(by first|exact La PJ rfl LL rfl (KP.cells (n:=2) (hS.KD aV (by omega)) (news:=[_,_]) rfl) rfl|exact La PJ rfl LL rfl (KP.cells (n:=2) (hS.KD bQ (by omega)) (news:=[_,_]) rfl) rfl)) (ae.kp) ?_);refine KH 1 rfl (KK Nn rfl) (ae.kp) (qT 2 rfl (fun _ hS=>(by first|exact KJ L9 rfl rfl (hS.KD aV (by omega)) rfl|exact KJ L9 rfl rfl (hS.KD bQ (by omega)) rfl)) (ae.kp) ?_);refine KH 3 rfl (LG L9 rfl) (ae.kp) (KH 4 rfl (LH rfl rfl) (ae.kp) (Pw (KH 5 rfl (KM rfl) (ae.kp) (qJ 6 rfl (ae.kp) (qJ 7 rfl (ae.kp) (qJ 8 rfl (ae.kp) (qJ 9 rfl (ae.kp) (qJ 10 rfl (ae.kp) (qJ 11 rfl (ae.kp) (KH 12 rfl (Lk rfl rfl) (ae.kp) (KH 13 rfl (KM rfl) (ae.kp) (qJ 14 rfl (ae.kp) (qJ 15 rfl (ae.kp) ?_)))))))))))));refine KH 16 rfl (Lk rfl rfl) (ae.kp) (KH 17 rfl (KM rfl) (ae.kp) (qJ 18 rfl (ae.kp) (qJ 19 rfl (ae.kp) (qJ 20 rfl (ae.kp) (qJ 21 rfl (ae.kp) (KH 22 rfl (Lk rfl rfl) (ae.kp) (KH 23 rfl (KM rfl) (ae.kp) (qJ 24 rfl (ae.kp) (qJ 25 rfl (ae.kp) (qJ 26 rfl (ae.kp) (qJ 27 rfl (ae.kp) (qJ 28 rfl (ae.kp) (KH 29 rfl (Lk rfl rfl) (ae.kp) ?_)))))))))))));refine qO 30 (Lm (i:=30) rfl rfl (Lo (news:=[.slice a m cp,I (c:Int)]) LL rfl rfl rfl rfl (ae.KD dZ) (by simp)) ?_);rintro w5 ⟨bA,aj⟩;refine⟨ae.kp.trans aj,?_⟩;replace bA:KP w5 b8 [.slice a m cp,I (c:Int)] 250:=bA;refine KH 31 rfl (ML rfl) (ae.kp.trans aj) (qE (Lc.qb (e:=[(8,_),(9,_)]) ?_));refine L8 Tryz.func138 (.cell PJ rfl LL rfl (KP.cells (n:=2) bA (news:=[_,_]) rfl) rfl (.tmp rfl .nil)) ?_;have aw:OK p m size c=false:=decide_eq_false (fun h=>by omega);rw[aw];exact⟨_,rfl,rfl,((aC.trans dh).trans ae).Kz aj (fun i e=>by omega)⟩
  ·rcases Nat.lt_or_ge p.most m with c1|c1
   ·refine KN (fun w'=>Kp (fun i=>i=b8) w4 w') (by kernel_rfl) rfl (qT 0 rfl (fun _ hS=>(by first|exact La PJ rfl LL rfl (KP.cells (n:=2) (hS.KD aV (by omega)) (news:=[_,_]) rfl) rfl|exact La PJ rfl LL rfl (KP.cells (n:=2) (hS.KD bQ (by omega)) (news:=[_,_]) rfl) rfl)) (ae.kp) ?_);refine KH 1 rfl (KK Nn rfl) (ae.kp) (qT 2 rfl (fun _ hS=>(by first|exact KJ L9 rfl rfl (hS.KD aV (by omega)) rfl|exact KJ L9 rfl rfl (hS.KD bQ (by omega)) rfl)) (ae.kp) ?_);refine KH 3 rfl (LG L9 rfl) (ae.kp) (KH 4 rfl (LH rfl rfl) (ae.kp) (Pf (KH 5 rfl (KM rfl) (ae.kp) (KH 6 rfl (KK Nn rfl) (ae.kp) (qT 7 rfl (fun _ hS=>(by first|exact KJ L9 rfl rfl (hS.KD aV (by omega)) rfl|exact KJ L9 rfl rfl (hS.KD bQ (by omega)) rfl)) (ae.kp) ?_)))));refine KH 8 rfl (LG L9 rfl) (ae.kp) (KH 9 rfl (KK Oh rfl) (ae.kp) (qT 10 rfl (fun _ hS=>(by first|exact KJ U3 rfl rfl (hS.KD aV (by omega)) rfl|exact KJ U3 rfl rfl (hS.KD bQ (by omega)) rfl)) (ae.kp) ?_));refine KH 11 rfl (Qh rfl rfl) (ae.kp) (Pw (KH 12 rfl (LK rfl rfl) (ae.kp) (KH 13 rfl (KM rfl) (ae.kp) (qJ 14 rfl (ae.kp) (qJ 15 rfl (ae.kp) (KH 16 rfl (Lk rfl rfl) (ae.kp) (KH 17 rfl (KM rfl) (ae.kp) (qJ 18 rfl (ae.kp) (qJ 19 rfl (ae.kp) (qJ 20 rfl (ae.kp) (qJ 21 rfl (ae.kp) (KH 22 rfl (Lk rfl rfl) (ae.kp) (KH 23 rfl (KM rfl) (ae.kp) ?_)))))))))))));refine qJ 24 rfl (ae.kp) (qJ 25 rfl (ae.kp) (qJ 26 rfl (ae.kp) (qJ 27 rfl (ae.kp) (qJ 28 rfl (ae.kp) (KH 29 rfl (Lk rfl rfl) (ae.kp) (qO 30 (Lm (i:=30) rfl rfl (Lo (news:=[.slice a m cp,I (c:Int)]) LL rfl rfl rfl rfl (ae.KD dZ) (by simp)) ?_)))))));rintro w5 ⟨bA,aj⟩;refine⟨ae.kp.trans aj,?_⟩;replace bA:KP w5 b8 [.slice a m cp,I (c:Int)] 250:=bA;refine KH 31 rfl (ML rfl) (ae.kp.trans aj) (qE (Lc.qb (e:=[(8,_),(9,_)]) ?_));refine L8 Tryz.func138 (.cell PJ rfl LL rfl (KP.cells (n:=2) bA (news:=[_,_]) rfl) rfl (.tmp rfl .nil)) ?_;have aw:OK p m size c=false:=decide_eq_false (fun h=>by omega);rw[aw];exact⟨_,rfl,rfl,((aC.trans dh).trans ae).Kz aj (fun i e=>by omega)⟩
   ·rcases Nat.eq_zero_or_pos size with c2|c2
    ·refine KN (fun w'=>Kp (fun i=>i=b8) w4 w') (by kernel_rfl) rfl (qT 0 rfl (fun _ hS=>(by first|exact La PJ rfl LL rfl (KP.cells (n:=2) (hS.KD aV (by omega)) (news:=[_,_]) rfl) rfl|exact La PJ rfl LL rfl (KP.cells (n:=2) (hS.KD bQ (by omega)) (news:=[_,_]) rfl) rfl)) (ae.kp) ?_);refine KH 1 rfl (KK Nn rfl) (ae.kp) (qT 2 rfl (fun _ hS=>(by first|exact KJ L9 rfl rfl (hS.KD aV (by omega)) rfl|exact KJ L9 rfl rfl (hS.KD bQ (by omega)) rfl)) (ae.kp) ?_);refine KH 3 rfl (LG L9 rfl) (ae.kp) (KH 4 rfl (LH rfl rfl) (ae.kp) (Pf (KH 5 rfl (KM rfl) (ae.kp) (KH 6 rfl (KK Nn rfl) (ae.kp) (qT 7 rfl (fun _ hS=>(by first|exact KJ L9 rfl rfl (hS.KD aV (by omega)) rfl|exact KJ L9 rfl rfl (hS.KD bQ (by omega)) rfl)) (ae.kp) ?_)))));refine KH 8 rfl (LG L9 rfl) (ae.kp) (KH 9 rfl (KK Oh rfl) (ae.kp) (qT 10 rfl (fun _ hS=>(by first|exact KJ U3 rfl rfl (hS.KD aV (by omega)) rfl|exact KJ U3 rfl rfl (hS.KD bQ (by omega)) rfl)) (ae.kp) ?_));refine KH 11 rfl (Qh rfl rfl) (ae.kp) (Pf (KH 12 rfl (LK rfl rfl) (ae.kp) (KH 13 rfl (KM rfl) (ae.kp) (KH 14 rfl (KM rfl) (ae.kp) (KH 15 rfl (LH rfl rfl) (ae.kp) (Pw (KH 16 rfl (LK rfl rfl) (ae.kp) (KH 17 rfl (KM rfl) (ae.kp) (qJ 18 rfl (ae.kp) (qJ 19 rfl (ae.kp) (qJ 20 rfl (ae.kp) (qJ 21 rfl (ae.kp) (KH 22 rfl (Lk rfl rfl) (ae.kp) ?_)))))))))))));refine KH 23 rfl (KM rfl) (ae.kp) (qJ 24 rfl (ae.kp) (qJ 25 rfl (ae.kp) (qJ 26 rfl (ae.kp) (qJ 27 rfl (ae.kp) (qJ 28 rfl (ae.kp) (KH 29 rfl (Lk rfl rfl) (ae.kp) (qO 30 (Lm (i:=30) rfl rfl (Lo (news:=[.slice a m cp,I (c:Int)]) LL rfl rfl rfl rfl (ae.KD dZ) (by simp)) ?_))))))));rintro w5 ⟨bA,aj⟩;refine⟨ae.kp.trans aj,?_⟩;replace bA:KP w5 b8 [.slice a m cp,I (c:Int)] 250:=bA;refine KH 31 rfl (ML rfl) (ae.kp.trans aj) (qE (Lc.qb (e:=[(8,_),(9,_)]) ?_));refine L8 Tryz.func138 (.cell PJ rfl LL rfl (KP.cells (n:=2) bA (news:=[_,_]) rfl) rfl (.tmp rfl .nil)) ?_;have aw:OK p m size c=false:=decide_eq_false (fun h=>by omega);rw[aw];exact⟨_,rfl,rfl,((aC.trans dh).trans ae).Kz aj (fun i e=>by omega)⟩
    ·rcases Nat.lt_or_ge p.most size with c3|c3
     ·refine KN (fun w'=>Kp (fun i=>i=b8) w4 w') (by kernel_rfl) rfl (qT 0 rfl (fun _ hS=>(by first|exact La PJ rfl LL rfl (KP.cells (n:=2) (hS.KD aV (by omega)) (news:=[_,_]) rfl) rfl|exact La PJ rfl LL rfl (KP.cells (n:=2) (hS.KD bQ (by omega)) (news:=[_,_]) rfl) rfl)) (ae.kp) ?_);refine KH 1 rfl (KK Nn rfl) (ae.kp) (qT 2 rfl (fun _ hS=>(by first|exact KJ L9 rfl rfl (hS.KD aV (by omega)) rfl|exact KJ L9 rfl rfl (hS.KD bQ (by omega)) rfl)) (ae.kp) ?_);refine KH 3 rfl (LG L9 rfl) (ae.kp) (KH 4 rfl (LH rfl rfl) (ae.kp) (Pf (KH 5 rfl (KM rfl) (ae.kp) (KH 6 rfl (KK Nn rfl) (ae.kp) (qT 7 rfl (fun _ hS=>(by first|exact KJ L9 rfl rfl (hS.KD aV (by omega)) rfl|exact KJ L9 rfl rfl (hS.KD bQ (by omega)) rfl)) (ae.kp) ?_)))));refine KH 8 rfl (LG L9 rfl) (ae.kp) (KH 9 rfl (KK Oh rfl) (ae.kp) (qT 10 rfl (fun _ hS=>(by first|exact KJ U3 rfl rfl (hS.KD aV (by omega)) rfl|exact KJ U3 rfl rfl (hS.KD bQ (by omega)) rfl)) (ae.kp) ?_));refine KH 11 rfl (Qh rfl rfl) (ae.kp) (Pf (KH 12 rfl (LK rfl rfl) (ae.kp) (KH 13 rfl (KM rfl) (ae.kp) (KH 14 rfl (KM rfl) (ae.kp) (KH 15 rfl (LH rfl rfl) (ae.kp) (Pf (KH 16 rfl (LK rfl rfl) (ae.kp) (KH 17 rfl (KM rfl) (ae.kp) (KH 18 rfl (KM rfl) (ae.kp) (KH 19 rfl (KK Oh rfl) (ae.kp) (qT 20 rfl (fun _ hS=>(by first|exact KJ U3 rfl rfl (hS.KD aV (by omega)) rfl|exact KJ U3 rfl rfl (hS.KD bQ (by omega)) rfl)) (ae.kp) ?_)))))))))));refine KH 21 rfl (Qh rfl rfl) (ae.kp) (Pw (KH 22 rfl (LK rfl rfl) (ae.kp) (KH 23 rfl (KM rfl) (ae.kp) (qJ 24 rfl (ae.kp) (qJ 25 rfl (ae.kp) (qJ 26 rfl (ae.kp) (qJ 27 rfl (ae.kp) (qJ 28 rfl (ae.kp) (KH 29 rfl (Lk rfl rfl) (ae.kp) (qO 30 (Lm (i:=30) rfl rfl (Lo (news:=[.slice a m cp,I (c:Int)]) LL rfl rfl rfl rfl (ae.KD dZ) (by simp)) ?_)))))))))));rintro w5 ⟨bA,aj⟩;refine⟨ae.kp.trans aj,?_⟩;replace bA:KP w5 b8 [.slice a m cp,I (c:Int)] 250:=bA;refine KH 31 rfl (ML rfl) (ae.kp.trans aj) (qE (Lc.qb (e:=[(8,_),(9,_)]) ?_));refine L8 Tryz.func138 (.cell PJ rfl LL rfl (KP.cells (n:=2) bA (news:=[_,_]) rfl) rfl (.tmp rfl .nil)) ?_;have aw:OK p m size c=false:=decide_eq_false (fun h=>by omega);rw[aw];exact⟨_,rfl,rfl,((aC.trans dh).trans ae).Kz aj (fun i e=>by omega)⟩
     ·rcases Nat.lt_or_ge c p.chain with c4|c4
      ·refine KN (fun w'=>Kp (fun i=>i=b8) w4 w') (by kernel_rfl) rfl (qT 0 rfl (fun _ hS=>(by first|exact La PJ rfl LL rfl (KP.cells (n:=2) (hS.KD aV (by omega)) (news:=[_,_]) rfl) rfl|exact La PJ rfl LL rfl (KP.cells (n:=2) (hS.KD bQ (by omega)) (news:=[_,_]) rfl) rfl)) (ae.kp) ?_);refine KH 1 rfl (KK Nn rfl) (ae.kp) (qT 2 rfl (fun _ hS=>(by first|exact KJ L9 rfl rfl (hS.KD aV (by omega)) rfl|exact KJ L9 rfl rfl (hS.KD bQ (by omega)) rfl)) (ae.kp) ?_);refine KH 3 rfl (LG L9 rfl) (ae.kp) (KH 4 rfl (LH rfl rfl) (ae.kp) (Pf (KH 5 rfl (KM rfl) (ae.kp) (KH 6 rfl (KK Nn rfl) (ae.kp) (qT 7 rfl (fun _ hS=>(by first|exact KJ L9 rfl rfl (hS.KD aV (by omega)) rfl|exact KJ L9 rfl rfl (hS.KD bQ (by omega)) rfl)) (ae.kp) ?_)))));refine KH 8 rfl (LG L9 rfl) (ae.kp) (KH 9 rfl (KK Oh rfl) (ae.kp) (qT 10 rfl (fun _ hS=>(by first|exact KJ U3 rfl rfl (hS.KD aV (by omega)) rfl|exact KJ U3 rfl rfl (hS.KD bQ (by omega)) rfl)) (ae.kp) ?_));refine KH 11 rfl (Qh rfl rfl) (ae.kp) (Pf (KH 12 rfl (LK rfl rfl) (ae.kp) (KH 13 rfl (KM rfl) (ae.kp) (KH 14 rfl (KM rfl) (ae.kp) (KH 15 rfl (LH rfl rfl) (ae.kp) (Pf (KH 16 rfl (LK rfl rfl) (ae.kp) (KH 17 rfl (KM rfl) (ae.kp) (KH 18 rfl (KM rfl) (ae.kp) (KH 19 rfl (KK Oh rfl) (ae.kp) (qT 20 rfl (fun _ hS=>(by first|exact KJ U3 rfl rfl (hS.KD aV (by omega)) rfl|exact KJ U3 rfl rfl (hS.KD bQ (by omega)) rfl)) (ae.kp) ?_)))))))))));refine KH 21 rfl (Qh rfl rfl) (ae.kp) (Pf (KH 22 rfl (LK rfl rfl) (ae.kp) (KH 23 rfl (KM rfl) (ae.kp) (KH 24 rfl (KK Xz rfl) (ae.kp) (qT 25 rfl (fun _ hS=>(by first|exact KJ U3 rfl rfl (hS.KD aV (by omega)) rfl|exact KJ U3 rfl rfl (hS.KD bQ (by omega)) rfl)) (ae.kp) ?_)))));refine KH 26 rfl (KK Tk rfl) (ae.kp) (qT 27 rfl (fun _ hS=>(by first|exact KJ U3 rfl rfl (hS.KD aV (by omega)) rfl|exact KJ U3 rfl rfl (hS.KD bQ (by omega)) rfl)) (ae.kp) ?_);refine KH 28 rfl (LW rfl rfl) (ae.kp) (Pf (KH 29 rfl (LK rfl rfl) (ae.kp) (qO 30 (Lm (i:=30) rfl rfl (Lo (news:=[.slice a m cp,I (c:Int)]) LL rfl rfl rfl rfl (ae.KD dZ) (by simp)) ?_))));rintro w5 ⟨bA,aj⟩;refine⟨ae.kp.trans aj,?_⟩;replace bA:KP w5 b8 [.slice a m cp,I (c:Int)] 250:=bA;refine KH 31 rfl (ML rfl) (ae.kp.trans aj) (qE (Lc.qb (e:=[(8,_),(9,_)]) ?_));refine L8 Tryz.func138 (.cell PJ rfl LL rfl (KP.cells (n:=2) bA (news:=[_,_]) rfl) rfl (.tmp rfl .nil)) ?_;have aw:OK p m size c=true:=decide_eq_true ⟨by omega,by omega,by omega,by omega,by omega⟩;rw[aw];exact⟨_,rfl,rfl,((aC.trans dh).trans ae).Kz aj (fun i e=>by omega)⟩
      ·refine KN (fun w'=>Kp (fun i=>i=b8) w4 w') (by kernel_rfl) rfl (qT 0 rfl (fun _ hS=>(by first|exact La PJ rfl LL rfl (KP.cells (n:=2) (hS.KD aV (by omega)) (news:=[_,_]) rfl) rfl|exact La PJ rfl LL rfl (KP.cells (n:=2) (hS.KD bQ (by omega)) (news:=[_,_]) rfl) rfl)) (ae.kp) ?_);refine KH 1 rfl (KK Nn rfl) (ae.kp) (qT 2 rfl (fun _ hS=>(by first|exact KJ L9 rfl rfl (hS.KD aV (by omega)) rfl|exact KJ L9 rfl rfl (hS.KD bQ (by omega)) rfl)) (ae.kp) ?_);refine KH 3 rfl (LG L9 rfl) (ae.kp) (KH 4 rfl (LH rfl rfl) (ae.kp) (Pf (KH 5 rfl (KM rfl) (ae.kp) (KH 6 rfl (KK Nn rfl) (ae.kp) (qT 7 rfl (fun _ hS=>(by first|exact KJ L9 rfl rfl (hS.KD aV (by omega)) rfl|exact KJ L9 rfl rfl (hS.KD bQ (by omega)) rfl)) (ae.kp) ?_)))));refine KH 8 rfl (LG L9 rfl) (ae.kp) (KH 9 rfl (KK Oh rfl) (ae.kp) (qT 10 rfl (fun _ hS=>(by first|exact KJ U3 rfl rfl (hS.KD aV (by omega)) rfl|exact KJ U3 rfl rfl (hS.KD bQ (by omega)) rfl)) (ae.kp) ?_));refine KH 11 rfl (Qh rfl rfl) (ae.kp) (Pf (KH 12 rfl (LK rfl rfl) (ae.kp) (KH 13 rfl (KM rfl) (ae.kp) (KH 14 rfl (KM rfl) (ae.kp) (KH 15 rfl (LH rfl rfl) (ae.kp) (Pf (KH 16 rfl (LK rfl rfl) (ae.kp) (KH 17 rfl (KM rfl) (ae.kp) (KH 18 rfl (KM rfl) (ae.kp) (KH 19 rfl (KK Oh rfl) (ae.kp) (qT 20 rfl (fun _ hS=>(by first|exact KJ U3 rfl rfl (hS.KD aV (by omega)) rfl|exact KJ U3 rfl rfl (hS.KD bQ (by omega)) rfl)) (ae.kp) ?_)))))))))));refine KH 21 rfl (Qh rfl rfl) (ae.kp) (Pf (KH 22 rfl (LK rfl rfl) (ae.kp) (KH 23 rfl (KM rfl) (ae.kp) (KH 24 rfl (KK Xz rfl) (ae.kp) (qT 25 rfl (fun _ hS=>(by first|exact KJ U3 rfl rfl (hS.KD aV (by omega)) rfl|exact KJ U3 rfl rfl (hS.KD bQ (by omega)) rfl)) (ae.kp) ?_)))));refine KH 26 rfl (KK Tk rfl) (ae.kp) (qT 27 rfl (fun _ hS=>(by first|exact KJ U3 rfl rfl (hS.KD aV (by omega)) rfl|exact KJ U3 rfl rfl (hS.KD bQ (by omega)) rfl)) (ae.kp) ?_);refine KH 28 rfl (LW rfl rfl) (ae.kp) (Pw (KH 29 rfl (LK rfl rfl) (ae.kp) (qO 30 (Lm (i:=30) rfl rfl (Lo (news:=[.slice a m cp,I (c:Int)]) LL rfl rfl rfl rfl (ae.KD dZ) (by simp)) ?_))));rintro w5 ⟨bA,aj⟩;refine⟨ae.kp.trans aj,?_⟩;replace bA:KP w5 b8 [.slice a m cp,I (c:Int)] 250:=bA;refine KH 31 rfl (ML rfl) (ae.kp.trans aj) (qE (Lc.qb (e:=[(8,_),(9,_)]) ?_));refine L8 Tryz.func138 (.cell PJ rfl LL rfl (KP.cells (n:=2) bA (news:=[_,_]) rfl) rfl (.tmp rfl .nil)) ?_;have aw:OK p m size c=false:=decide_eq_false (fun h=>by omega);rw[aw];exact⟨_,rfl,rfl,((aC.trans dh).trans ae).Kz aj (fun i e=>by omega)⟩
abbrev z1u:List (Value×Nat):=List.replicate 17 (.slice none 0 0,0)
theorem z2Q (p:LJ)(hp:p.LS)(w:World):Le Tryz.prog 96 [bpV p] w fun u w'=>∃k wp F,u= .tuple #[ptr k 0,I 0]∧KP w' k (Sb p z1u 0 wp 0) 255∧SG w' wp [] F∧¬F k∧Ext w w'∧w.heap.size≤k∧∀i,F i→w.heap.size≤i:=by
 refine KA (e:=[(0,_)]) Tryz.func96 rfl Tryz.ntmps96 rfl rfl (qN rfl (KL rfl rfl (Mz rfl (cs:=PO p) rfl) ?_))
 rintro _ w1 ⟨b1,rfl,bT,ad,ai⟩
 have z1:=ad.size
 refine KE rfl (KE rfl (py (run_seq (qN rfl (qV (La (news:=PO p) Vq rfl ME rfl (ai.cells (n:=5) rfl) rfl) (L2 [.tmp 5] z7y rfl (Uj p hp w1) ?_))))))
 rintro _ w2 ⟨rfl,af⟩
 have z2:=af.size
 have hg:=Ext.L4 w2
 refine KE rfl (qM rfl (An rfl (qV (LQ rfl rfl) (py (Kx rfl (It (run_seq (KN (fun w'=>Ext w2 w') (by kernel_rfl) rfl (qT 0 rfl (fun _ hS=>La (news:=PO p) Vq rfl ME rfl ((hS.KD (af.KD ai)).cells (n:=5) rfl) rfl) hg (OJ 1 [] rfl UY rfl (P5 _) ?_))))))))))
 rintro _ w3 ⟨wp,F,rfl,kQ,ah,oI⟩
 refine⟨hg.trans ah,?_⟩
 have dI:=hg.trans ah
 have z3:=dI.size
 refine KH 2 rfl (Nc (parts:=[(0,.tmp 10),(2,.tmp 11)]) zah rfl z8X rfl rfl) (hg.trans ah) (qO 3 (VK (i:=3) rfl rfl rfl (Mz rfl (cs:=Sb p z1u 0 wp 0) rfl) ?_))
 rintro _ w4 ⟨k,rfl,hk,aB,aI⟩
 refine⟨dI.trans aB,?_⟩
 refine KH 4 rfl (ML rfl) (dI.trans aB) (KH 5 rfl (ML rfl) (dI.trans aB) (qE (KG Tryz.func96 rfl ?_)))
 exact⟨_,rfl,k,wp,F,rfl,aI,kQ.ext aB,fun e=>by have:=kQ.lt e;omega,((ad.trans af).trans dI).trans aB,by omega,fun i hi=>by have:=oI i hi;have:=hg.size;omega⟩
structure Zx (w:World)(k:Nat)(p:LJ)(L:List (List Nat))(E:List (Nat×Nat))(bs:List Bool)(F:Nat→Prop)(R:List (Value×Nat))(wp ed:Nat):Prop where
 KD:KP w k (Sb p R L.length wp ed) 255
 len:R.length=17
 wr:SG w wp bs F
 nk:¬F k
 el:E.length=L.length
 ok:∀l∈L,Lj l
 ring:∀j l e,L[j]? =some l→E[j]? =some e→L.length≤j+17→∃a cp,R[j%17]? =some (.slice a l.length cp,e.2)∧l.length≤cp∧Sl w (.slice a l.length cp) 46 1 l.length (l.map Lg)∧(∀g,(Value.slice a l.length cp).ownBlock=some g→¬F g∧g≠k)
theorem Zx.ext {w w':World}{k:Nat}{p:LJ}{L:List (List Nat)}{E:List (Nat×Nat)}{bs:List Bool}{F:Nat→Prop}{R:List (Value×Nat)}{wp ed:Nat}(h:Zx w k p L E bs F R wp ed)(hx:Ext w w'):Zx w' k p L E bs F R wp ed:=
 ⟨hx.KD h.KD,h.len,h.wr.ext hx,h.nk,h.el,h.ok,fun j l e h1 h2 h3=>by
  obtain⟨a,cp,g1,g2,g3,g4⟩:=h.ring j l e h1 h2 h3
  exact⟨a,cp,g1,g2,g3.ext hx,g4⟩⟩
def Found (p:LJ)(L:List (List Nat))(E:List (Nat×Nat))(R:List (Value×Nat))(size ref:Nat)(v:Value)(c:Nat):Prop:=
 (ref=0∧v= .slice none 0 0∧c=0)∨(1≤ref∧ref≤p.L6∧ref≤L.length∧R[(L.length-ref)%17]? =some (v,c)∧∃l e,L[L.length-ref]? =some l∧E[L.length-ref]? =some e∧c=e.2∧OK p l.length size e.2=true)
structure AdM (w:World)(k b2 b3 b7 b8 b4 b9:Nat)(a:Option Addr)(m cp n least ref:Nat)(v:Value)(c:Nat):Prop where
 c2:KP w b2 [ptr k 0] 197
 c3:KP w b3 [.slice a m cp] 45
 c7:KP w b7 [I (n:Int)] 3
 c8:KP w b8 [I (least:Int)] 3
 c4:KP w b4 [I (ref:Int)] 3
 c9:KP w b9 [v,I (c:Int)] 250
theorem AdM.kp {S:Nat→Prop}{w w':World}{k b2 b3 b7 b8 b4 b9:Nat}{a:Option Addr}{m cp n least ref:Nat}{v:Value}{c:Nat}(h:AdM w k b2 b3 b7 b8 b4 b9 a m cp n least ref v c)(hk:Kp S w w')(hn:∀i,S i→i≠b2∧i≠b3∧i≠b7∧i≠b8∧i≠b4∧i≠b9):AdM w' k b2 b3 b7 b8 b4 b9 a m cp n least ref v c:=
 ⟨hk.KD h.c2 (fun e=>(hn _ e).1 rfl),hk.KD h.c3 (fun e=>(hn _ e).2.1 rfl),hk.KD h.c7 (fun e=>(hn _ e).2.2.1 rfl),hk.KD h.c8 (fun e=>(hn _ e).2.2.2.1 rfl),hk.KD h.c4 (fun e=>(hn _ e).2.2.2.2.1 rfl),hk.KD h.c9 (fun e=>(hn _ e).2.2.2.2.2 rfl)⟩
theorem AdM.ext {w w':World}{k b2 b3 b7 b8 b4 b9:Nat}{a:Option Addr}{m cp n least ref:Nat}{v:Value}{c:Nat}(h:AdM w k b2 b3 b7 b8 b4 b9 a m cp n least ref v c)(hk:Ext w w'):AdM w' k b2 b3 b7 b8 b4 b9 a m cp n least ref v c:=h.kp (S:=fun _=>False) hk.kp (fun i e=>e.elim)
theorem z5T {w:World}{k:Nat}{p:LJ}(hp:p.LS){L:List (List Nat)}{E:List (Nat×Nat)}{bs:List Bool}{F:Nat→Prop}{R:List (Value×Nat)}{wp ed:Nat}(h:Zx w k p L E bs F R wp ed)(hG:KP w 1 (Nu .gamma) 298)(hU:KP w 2 (Nu .unary) 298)(hL:L.length<65536)
  {b2 b3 b7 b8 b4 b9:Nat} {a:Option Addr} {cp least ref:Nat} {v:Value} {c:Nat} {succ:List Nat} (hs:Lj succ) (ke:succ.length≤cp) (dQ:Rd w (.slice a succ.length cp) 1 succ.length (succ.map Lg)) (hA:AdM w k b2 b3 b7 b8 b4 b9 a succ.length cp L.length least ref v c) (hF:Found p L E R succ.length ref v c)
  (hd:b8≠b2∧b8≠b3∧b8≠b7∧b4≠b2∧b4≠b3∧b4≠b7∧b9≠b2∧b9≠b3∧b9≠b7∧b8≠b4∧b8≠b9∧b4≠b9) (r:Nat) (h1:1≤r) (h2:r≤p.L6):
  Le Tryz.prog 137 [I (r:Int),ptr b2 0,ptr b3 0,ptr b7 0,ptr b8 0,ptr b4 0,ptr b9 0] w fun u w'=>u= .tuple #[]∧Kp (fun i=>i=b8∨i=b4∨i=b9) w w'∧∃least' ref' v' c',AdM w' k b2 b3 b7 b8 b4 b9 a succ.length cp L.length least' ref' v' c'∧Found p L E R succ.length ref' v' c':=by
 have uN:p.L6≤16:=hp.1.1
 obtain⟨a1,c1,m1,e1,uO,H1⟩:∃a1 c1 m1 e1,(r≤L.length→R[(L.length-r)%17]? =some (.slice a1 m1 c1,e1))∧(r≤L.length→∃l e,L[L.length-r]? =some l∧E[L.length-r]? =some e∧m1=l.length∧e1=e.2∧l.length≤c1∧Sl w (.slice a1 l.length c1) 46 1 l.length (l.map Lg)):=by
  by_cases hr:r≤L.length
  ·obtain⟨l,hl⟩:∃l,L[L.length-r]? =some l:=⟨_,List.getElem?_eq_getElem (by omega)⟩;obtain⟨e,he⟩:∃e,E[L.length-r]? =some e:=⟨_,List.getElem?_eq_getElem (by have:=h.el;omega)⟩;obtain⟨a1,c1,g1,g2,g3,g4⟩:=h.ring _ l e hl he (by omega);exact⟨a1,c1,l.length,e.2,fun _=>g1,fun _=>⟨l,e,hl,he,rfl,rfl,g2,g3⟩⟩
  ·exact⟨none,0,0,0,fun e=>absurd e hr,fun e=>absurd e hr⟩
 have eK:=hA.c2
 have oJ:=hA.c3
 have hg:=Ext.L4 w
 have kS:∀{w2:World},KP w2 k (Sb p R L.length wp ed) 255→∀j u,(PO p)[j]? =some u→w2.cell? ⟨k,0+j,none⟩=some u:=fun hB j u hj=>hB.cells (i:=0) (n:=5) (news:=PO p) rfl j u hj
 refine KA (e:=[(0,_),(1,_),(2,_),(3,_),(4,_),(5,_),(6,_)]) Tryz.func137 rfl Tryz.ntmps137 rfl rfl (run_seq (Lp (fun e' w'=>∃tb v1 d1 ok,e'=[(0,I (r:Int)),(1,ptr b2 0),(2,ptr b3 0),(3,ptr b7 0),(4,ptr b8 0),(5,ptr b4 0),(6,ptr b9 0),(8,ptr tb 0),(9,.bool ok)]∧Ext w w'∧w.heap.size≤tb∧KP w' tb [v1,I ((d1:Nat):Int)] 250∧(ok=true→r≤L.length∧v1= .slice a1 m1 c1∧d1=e1∧OK p m1 succ.length e1=true)) ?cD (fun cD=>?cQ)))
 case cD=>
  rintro e' w1 ⟨tb,v1,d1,ok,rfl,ad,GW,uP,aw⟩;have jV:=hA.ext ad;have nR:=jV.c2;have jQ:=jV.c3;have yC:=jV.c7;have EE:=jV.c8;refine run_seq (qN rfl (An rfl (qV ((by first|exact LP rfl|exact Nq rfl)) ?_)));refine py (LF rfl (fun h3=>?_) (fun h3=>?_))
  ·refine KG Tryz.func137 rfl ?_;exact⟨_,rfl,rfl,ad.kp,_,_,_,_,jV,hF⟩
  ·have AX:ok=true:=by cases ok<;>simp_all
   obtain⟨AY,rfl,rfl,fU⟩:=aw AX;obtain⟨l,e,hl,he,rfl,rfl,nP,H2⟩:=H1 AY;have AZ:=uO AY;have B0:Lj l:=h.ok l (List.mem_of_getElem? hl);have aP:=Ext.L4 w1;refine It (run_seq (KN (fun w'=>Ext w1 w') (by kernel_rfl) rfl (qT 0 rfl (fun _ h=>(by first|exact KJ U3 rfl rfl (h.KD nR) rfl|exact KJ U3 rfl rfl (h.KD jQ) rfl|exact KJ U3 rfl rfl (h.KD yC) rfl|exact KJ U3 rfl rfl (h.KD uP) rfl)) aP ?_)));refine qT 1 rfl (fun _ h=>(by first|exact KJ L9 rfl rfl (h.KD nR) rfl|exact KJ L9 rfl rfl (h.KD jQ) rfl|exact KJ L9 rfl rfl (h.KD yC) rfl|exact KJ L9 rfl rfl (h.KD uP) rfl)) aP ?_;refine KH 2 rfl (KK Nn rfl) aP (qT 3 rfl (fun _ h=>(by first|exact KJ L9 rfl rfl (h.KD nR) rfl|exact KJ L9 rfl rfl (h.KD jQ) rfl|exact KJ L9 rfl rfl (h.KD yC) rfl|exact KJ L9 rfl rfl (h.KD uP) rfl)) aP ?_);refine KH 4 rfl (KM rfl) aP (qT 5 rfl (fun _ h=>(by first|exact KJ MO rfl rfl (h.KD nR) rfl|exact KJ MO rfl rfl (h.KD jQ) rfl|exact KJ MO rfl rfl (h.KD yC) rfl|exact KJ MO rfl rfl (h.KD uP) rfl)) aP ?_);refine KH 6 rfl (KZ rfl) aP (KH 7 rfl (KK Rl rfl) aP (qT 8 rfl (fun _ hS=>La (news:=PO p) Vq rfl ME rfl (kS (hS.KD (ad.KD h.KD))) rfl) aP (OJ 9 [.tmp 37] rfl VF rfl (NJ p _) ?_)));rintro _ w9 ⟨rfl,eS⟩;refine⟨aP.trans eS,?_⟩;have cT:=aP.trans eS;have fI:=ad.trans cT;refine OJ 10 [.tmp 29,.tmp 30,.tmp 32,.tmp 33,.tmp 38] rfl Y4 rfl (Q4 p.list hp.1 L.length hL succ l hs B0 r h2 (fun e=>by omega) (fI.KD hG) (fI.KD hU) (dQ.ext fI) (H2.rd.ext fI) ke nP) ?_;rintro _ w10 ⟨rfl,bB⟩;refine⟨cT.trans bB,?_⟩;have fJ:=cT.trans bB;have kE:=jV.ext fJ;have B1:=kE.c8;have B2:=fJ.KD uP
   generalize (L3 (My p.list L.length succ l r)).length=nb
   refine KH 11 rfl (KM rfl) (cT.trans bB) (KH 12 rfl (Ll rfl rfl) (cT.trans bB) (KH 13 rfl (Ll rfl rfl) (cT.trans bB) (KH 14 rfl (ML rfl) (cT.trans bB) (KH 15 rfl (ML rfl) (cT.trans bB) (qE (Lc.qb (e:=[(0,_),(4,_),(5,_),(6,_),(8,_),(10,_)]) ?_))))));refine qN rfl (An rfl (qV (KJ U3 rfl rfl B1 rfl) (qV (LW rfl rfl) (py (KQ rfl (fun h4=>?_) (fun h4=>?_))))))
   ·have jx:=Ext.L4 w10;have gD:=kE.ext jx;have lb8:=hA.c8.lt;have lb4:=hA.c4.lt;have lb9:=hA.c9.lt;have H3:¬(tb=b8∨tb=b4∨tb=b9):=by omega
    refine KN (fun w'=>Kp (fun i=>i=b8∨i=b4∨i=b9) w10 w') (by kernel_rfl) rfl (KH 0 rfl (KM rfl) (jx.kp) (KH 1 rfl (KM rfl) (jx.kp) (qT 2 rfl (fun _ h=>La PJ rfl LL rfl (KP.cells (n:=2) (h.KD B2 H3) (news:=[_,_]) rfl) rfl) (jx.kp) (qO 3 (Lm (i:=3) rfl rfl (Mn LC rfl rfl rfl gD.c8 (by simp)) ?_)))));rintro w11 ⟨aF,aM⟩;refine⟨jx.kp.trans (aM.KT fun i e=> .inl e),?_⟩;have pR:Kp (fun i=>i=b8∨i=b4∨i=b9) w10 w11:=jx.kp.trans (aM.KT fun i e=> .inl e);have H4:=aM.KD gD.c4 (fun e=>hd.2.2.2.2.2.2.2.2.2.1 e.symm);refine qO 4 (Lm (i:=4) rfl rfl (Mn LC rfl rfl rfl H4 (by simp)) ?_);rintro w12 ⟨ba,aU⟩;refine⟨pR.trans (aU.KT fun i e=> .inr (.inl e)),?_⟩;have uQ:Kp (fun i=>i=b8∨i=b4∨i=b9) w10 w12:=pR.trans (aU.KT fun i e=> .inr (.inl e));have H5:=aU.KD (aM.KD gD.c9 (fun e=>hd.2.2.2.2.2.2.2.2.2.2.1 e.symm)) (fun e=>hd.2.2.2.2.2.2.2.2.2.2.2 e.symm);refine qO 5 (Lm (i:=5) rfl rfl (Lo (news:=[.slice a1 l.length c1,I (e.2:Int)]) LL rfl rfl rfl rfl H5 (by simp)) ?_);rintro w13 ⟨cU,ck⟩;refine⟨uQ.trans (ck.KT fun i e=> .inr (.inr e)),?_⟩;replace cU:KP w13 b9 [.slice a1 l.length c1,I (e.2:Int)] 250:=cU;replace ba:KP w12 b4 [I (r:Int)] 3:=ba;replace aF:KP w11 b8 [I (nb:Int)] 3:=aF;refine qE (LZ Tryz.func137 rfl ?_);obtain⟨d1,d2,d3,d4,d5,d6,d7,d8,d9,d10,d11,d12⟩:=hd;have lK:∀{b:Nat} {cs:List Value} {T:TypeId},KP w10.drew b cs T→b8≠b→b4≠b→b9≠b→KP w13 b cs T:=fun hB n1 n2 n3=>ck.KD (aU.KD (aM.KD hB (fun e=>n1 e.symm)) (fun e=>n2 e.symm)) (fun e=>n3 e.symm);refine⟨_,rfl,rfl,?_,nb,r,.slice a1 l.length c1,e.2,⟨lK gD.c2 d1 d4 d7,lK gD.c3 d2 d5 d8,lK gD.c7 d3 d6 d9,ck.KD (aU.KD aF d10) d11,ck.KD ba d12,cU⟩,.inr ⟨h1,h2,AY,AZ,l,e,hl,he,rfl,fU⟩⟩;exact((ad.trans fJ).trans jx).kp.trans ((aM.KT fun i e=> .inl e).trans ((aU.KT fun i e=> .inr (.inl e)).trans (ck.KT fun i e=> .inr (.inr e))))
   ·refine It (LZ Tryz.func137 rfl ?_);exact⟨_,rfl,rfl,(ad.trans fJ).kp,_,_,_,_,kE,hF⟩
 case cQ=>
  rcases Nat.lt_or_ge L.length r with aQ|je
  ·have aq:=hg;refine L5 [15] (fun w'=>Ext w w') (by kernel_rfl) rfl (qL [1,2,10,11,12,13,15,16] 0 rfl (fun _ h=>(by first|exact KJ MO rfl rfl (h.KD eK) rfl|exact KJ MO rfl rfl (h.KD oJ) rfl)) aq ?_);refine qL [2,10,11,12,13,15,16] 1 rfl (fun _ h=>KZ rfl) aq (qL [10,11,12,13,15,16] 2 rfl (fun _ h=>KK T5 rfl) aq (qL [10,11,12,13,15,16] 3 rfl (fun _ h=>KM rfl) aq (qL [5,10,11,12,13,15,16] 4 rfl (fun _ h=>(by first|exact KJ L9 rfl rfl (h.KD eK) rfl|exact KJ L9 rfl rfl (h.KD oJ) rfl)) aq ?_)));refine qL [10,11,12,13,15,16] 5 rfl (fun _ h=>LG L9 rfl) aq (qL [7,8,9,10,11,12,13,15,16] 6 rfl (fun _ h=>(by first|exact KJ MO rfl rfl (h.KD eK) rfl|exact KJ MO rfl rfl (h.KD oJ) rfl)) aq ?_);refine qL [8,9,10,11,12,13,15,16] 7 rfl (fun _ h=>KZ rfl) aq (qL [9,10,11,12,13,15,16] 8 rfl (fun _ h=>KK Rl rfl) aq (qL [10,11,12,13,15,16] 9 rfl (fun _ hS=>La (news:=PO p) Vq rfl ME rfl (kS (hS.KD h.KD)) rfl) aq (RK (i:=10) (j:=14) (by kernel_rfl) ?_ ?_)))
   ·refine MU (i:=10) rfl rfl rfl (yc (args:=[.tmp 15,.tmp 16,.tmp 18,.tmp 22]) z1q rfl) (R9 (aq.KD h.KD) h.len (by omega) hp r succ.length h1 h2 uO) ?_;rintro _ w10 ⟨kB,bB⟩;refine⟨aq.trans bB,?_⟩;rw[if_neg (by omega)] at kB;subst kB
    try have cC:=bB.KD cC
    have aq:=aq.trans bB;refine qL [12,13,15,16] 11 rfl (fun _ h=>KM rfl) aq (qL [15,16] 12 rfl (fun _ h=>Ll rfl rfl) aq (LD (i:=13) rfl (by kernel_rfl) rfl rfl (fun _=>Ll rfl rfl) aq (Mp (i:=14) (by kernel_rfl) (LM (i:=14) rfl rfl rfl (MN (cs:=[_,_]) LL rfl) ?_))));rintro _ w14 ⟨tb,rfl,kO,cN,cC⟩;refine⟨aq.trans cN,?_⟩;have jy:w.heap.size≤tb:=by have:=aq.size;omega
    have aq:=aq.trans cN;refine Lu [15] (by kernel_rfl) (by kernel_rfl) (qO 15 (Lm (i:=15) rfl rfl (Lo (news:=[.slice none 0 0,I ((0:Nat):Int)]) LL rfl rfl rfl rfl cC (by simp)) ?_));rintro w15 ⟨cV,eW⟩;refine⟨trivial,?_⟩;refine KH 16 rfl (ML rfl) trivial (qE ?_);exact(cD _ _ ⟨tb,.slice none 0 0,0,false,rfl,aq.Kz eW (fun i e=>by omega),jy,cV,fun e=>by cases e⟩).qb
   ·refine LM (i:=14) rfl rfl rfl (MN (cs:=[_,_]) LL rfl) ?_;rintro _ w14 ⟨tb,rfl,kO,cN,cC⟩;refine⟨aq.trans cN,?_⟩;have jy:w.heap.size≤tb:=by have:=aq.size;omega
    have aq:=aq.trans cN;refine Mp (i:=10) (by kernel_rfl) (MU (i:=10) rfl rfl rfl (yc (args:=[.tmp 15,.tmp 16,.tmp 18,.tmp 22]) z1q rfl) (R9 (aq.KD h.KD) h.len (by omega) hp r succ.length h1 h2 uO) ?_);rintro _ w10 ⟨kB,bB⟩;refine⟨aq.trans bB,?_⟩;rw[if_neg (by omega)] at kB;subst kB
    try have cC:=bB.KD cC
    have aq:=aq.trans bB;refine qL [12,13,15,16] 11 rfl (fun _ h=>KM rfl) aq (qL [15,16] 12 rfl (fun _ h=>Ll rfl rfl) aq (LD (i:=13) rfl (by kernel_rfl) rfl rfl (fun _=>Ll rfl rfl) aq (Lu [15] (by kernel_rfl) (by kernel_rfl) (qO 15 (Lm (i:=15) rfl rfl (Lo (news:=[.slice none 0 0,I ((0:Nat):Int)]) LL rfl rfl rfl rfl cC (by simp)) ?_)))));rintro w15 ⟨cV,eW⟩;refine⟨trivial,?_⟩;refine KH 16 rfl (ML rfl) trivial (qE ?_);exact(cD _ _ ⟨tb,.slice none 0 0,0,false,rfl,aq.Kz eW (fun i e=>by omega),jy,cV,fun e=>by cases e⟩).qb
  ·have aq:=hg;refine L5 [15] (fun w'=>Ext w w') (by kernel_rfl) rfl (qL [1,2,10,11,12,13,15,16] 0 rfl (fun _ h=>(by first|exact KJ MO rfl rfl (h.KD eK) rfl|exact KJ MO rfl rfl (h.KD oJ) rfl)) aq ?_);refine qL [2,10,11,12,13,15,16] 1 rfl (fun _ h=>KZ rfl) aq (qL [10,11,12,13,15,16] 2 rfl (fun _ h=>KK T5 rfl) aq (qL [10,11,12,13,15,16] 3 rfl (fun _ h=>KM rfl) aq (qL [5,10,11,12,13,15,16] 4 rfl (fun _ h=>(by first|exact KJ L9 rfl rfl (h.KD eK) rfl|exact KJ L9 rfl rfl (h.KD oJ) rfl)) aq ?_)));refine qL [10,11,12,13,15,16] 5 rfl (fun _ h=>LG L9 rfl) aq (qL [7,8,9,10,11,12,13,15,16] 6 rfl (fun _ h=>(by first|exact KJ MO rfl rfl (h.KD eK) rfl|exact KJ MO rfl rfl (h.KD oJ) rfl)) aq ?_);refine qL [8,9,10,11,12,13,15,16] 7 rfl (fun _ h=>KZ rfl) aq (qL [9,10,11,12,13,15,16] 8 rfl (fun _ h=>KK Rl rfl) aq (qL [10,11,12,13,15,16] 9 rfl (fun _ hS=>La (news:=PO p) Vq rfl ME rfl (kS (hS.KD h.KD)) rfl) aq (RK (i:=10) (j:=14) (by kernel_rfl) ?_ ?_)))
   ·refine MU (i:=10) rfl rfl rfl (yc (args:=[.tmp 15,.tmp 16,.tmp 18,.tmp 22]) z1q rfl) (R9 (aq.KD h.KD) h.len (by omega) hp r succ.length h1 h2 uO) ?_;rintro _ w10 ⟨kB,bB⟩;refine⟨aq.trans bB,?_⟩;rw[if_pos je] at kB;subst kB
    try have cC:=bB.KD cC
    have aq:=aq.trans bB;refine qL [12,13,15,16] 11 rfl (fun _ h=>KM rfl) aq (qL [15,16] 12 rfl (fun _ h=>Ll rfl rfl) aq (LD (i:=13) rfl (by kernel_rfl) rfl rfl (fun _=>Ll rfl rfl) aq (Mp (i:=14) (by kernel_rfl) (LM (i:=14) rfl rfl rfl (MN (cs:=[_,_]) LL rfl) ?_))));rintro _ w14 ⟨tb,rfl,kO,cN,cC⟩;refine⟨aq.trans cN,?_⟩;have jy:w.heap.size≤tb:=by have:=aq.size;omega
    have aq:=aq.trans cN;refine Lu [15] (by kernel_rfl) (by kernel_rfl) (qO 15 (Lm (i:=15) rfl rfl (Lo (news:=[.slice a1 m1 c1,I ((e1:Nat):Int)]) LL rfl rfl rfl rfl cC (by simp)) ?_));rintro w15 ⟨cV,eW⟩;refine⟨trivial,?_⟩;refine KH 16 rfl (ML rfl) trivial (qE ?_);exact(cD _ _ ⟨tb,.slice a1 m1 c1,e1,OK p m1 succ.length e1,rfl,aq.Kz eW (fun i e=>by omega),jy,cV,fun e=>⟨je,rfl,rfl,e⟩⟩).qb
   ·refine LM (i:=14) rfl rfl rfl (MN (cs:=[_,_]) LL rfl) ?_;rintro _ w14 ⟨tb,rfl,kO,cN,cC⟩;refine⟨aq.trans cN,?_⟩;have jy:w.heap.size≤tb:=by have:=aq.size;omega
    have aq:=aq.trans cN;refine Mp (i:=10) (by kernel_rfl) (MU (i:=10) rfl rfl rfl (yc (args:=[.tmp 15,.tmp 16,.tmp 18,.tmp 22]) z1q rfl) (R9 (aq.KD h.KD) h.len (by omega) hp r succ.length h1 h2 uO) ?_);rintro _ w10 ⟨kB,bB⟩;refine⟨aq.trans bB,?_⟩;rw[if_pos je] at kB;subst kB
    try have cC:=bB.KD cC
    have aq:=aq.trans bB;refine qL [12,13,15,16] 11 rfl (fun _ h=>KM rfl) aq (qL [15,16] 12 rfl (fun _ h=>Ll rfl rfl) aq (LD (i:=13) rfl (by kernel_rfl) rfl rfl (fun _=>Ll rfl rfl) aq (Lu [15] (by kernel_rfl) (by kernel_rfl) (qO 15 (Lm (i:=15) rfl rfl (Lo (news:=[.slice a1 m1 c1,I ((e1:Nat):Int)]) LL rfl rfl rfl rfl cC (by simp)) ?_)))));rintro w15 ⟨cV,eW⟩;refine⟨trivial,?_⟩;refine KH 16 rfl (ML rfl) trivial (qE ?_);exact(cD _ _ ⟨tb,.slice a1 m1 c1,e1,OK p m1 succ.length e1,rfl,aq.Kz eW (fun i e=>by omega),jy,cV,fun e=>⟨je,rfl,rfl,e⟩⟩).qb
end Go.Proofs.YtpldpcjdjcgicaaGreatDoor
